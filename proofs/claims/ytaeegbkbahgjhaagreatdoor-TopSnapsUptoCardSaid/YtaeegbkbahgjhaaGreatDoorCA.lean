/- Part 8 of what the statement rests on. -/
import Derived.Lib.Builder
import Derived.Lib.UnsafeStr
import Derived.Lib.Walk
import Derived.Shelf.RegionOpenPlain
import Derived.Test.YtaeegbkbahgjhaaGreatDoorRA
set_option linter.all false
set_option maxHeartbeats 1000000
open And renaming intro->Ac
open Bool renaming and_assoc->Ih,and_eq_true->Ad,and_false->Es,and_true->Kc,eq_false_or_eq_true->Eg,eq_iff_iff->Hw,false_and->Gi,false_eq_true->Cp,false_or->Nf,not_eq_false'->Ja,not_eq_true'->Cw,or_eq_true->Fb,true_and->Cz
open Decidable renaming not_not->Fh
open Exists renaming intro->Ap
open Go.Builtin renaming unsafeSliceData_->Iy,unsafeString_->Jr
open Go.Result renaming andThen->Ee
open Go.World renaming shape?->Jh
open Int renaming fdiv_eq_ediv_of_nonneg->Dz,le_refl->De,le_trans->Fl,mul_nonneg->Lb,toNat->Dp,toNat_natCast->Bv,toNat_of_nonneg->Kw
open List renaming all_cons->Kb,all_eq_true->Cr,any_cons->Hh,any_eq_true->Fq,append_assoc->Af,append_nil->Ar,cons_append->Ce,count_append->Jg,count_cons_of_ne->Ms,count_cons_self->Ii,count_eq_zero->Lc,count_le_length->Mx,drop->Hj,drop_drop->Hl,drop_eq_getElem_cons->Ae,drop_eq_nil_of_le->Ah,drop_left->Ji,drop_zero->Cq,eraseIdx_eq_take_drop_succ->Fz,ext_getElem?->Eb,filter_cons_of_neg->Fs,filter_cons_of_pos->Ft,filter_eq_self->Gs,foldl_cons->Bc,getElem?_append_left->Ag,getElem?_append_right->Ak,getElem?_drop->Bq,getElem?_eq_getElem->Aa,getElem?_eq_none->Bi,getElem?_eq_some_iff->Ab,getElem?_map->Bg,getElem?_range->Dm,getElem?_take_of_lt->Bj,getElem_mem->Bf,length->Lk,length_append->Ai,length_cons->Al,length_drop->Eh,length_eraseIdx->Kh,length_map->Cc,length_nil->Bu,length_pos_iff->Dx,length_take->Dn,map_append->Bm,map_cons->Bl,map_drop->Ix,map_map->Dw,map_take->Gh,mem_append->Ba,mem_append_left->Dc,mem_append_right->Cv,mem_cons->Aw,mem_cons_of_mem->Ay,mem_cons_self->Ao,mem_map->Ca,mem_map_of_mem->Cm,mem_singleton->Dj,nil_append->Bn,nodup_cons->Cg,not_mem_nil->Hk,pairwise_iff_getElem->Ga,range->Di,range'->Ij,range_eq_range'->Ik,range_succ->Mo,replicate->Aj,replicate_succ->Kx,set_append_right->Ha,take->Hy,take_add_one->Lj,take_append_drop->Bo,take_append_of_le_length->Db,take_left->Hn,take_of_length_le->Ch
open Nat renaming add_mul->Bw,add_sub_cancel_left->Gm,add_zero->Fm,beq->Ax,le_refl->Bd,le_trans->Cx,min_eq_left->Gr,mod_eq_of_lt->Gx,mod_one->Jc,mul_add->Gj,mul_assoc->Hz,mul_comm->Dd,mul_le_mul_right->Br,pow_add->Fi,pow_le_pow_right->Eu,strongRecOn->Hx,sub_zero->Iq,zero_add->Bp,zero_le->Bx,zero_lt_succ->Lw
open Option renaming map_eq_some_iff->Cf
open Option.some renaming injEq->Dq
open Or renaming inl->Gd,inr->Ko
open Prod.mk renaming injEq->Lp
open UInt8 renaming ofNat->Dt,toNat_ofNat'->Gy
namespace Go.Proofs.YtaeegbkbahgjhaaGreatDoor
open Go Go.AW Go.Proofs
def zqca0{P:Prop}(h:P:=by
 have b:false=r:=b;subst b;rcases z with ⟨rfl,rfl⟩ | rfl
 .refine gV ?_;refine aT λ h=>?_
  repeat' first | (refine gN hE ?_;conv=>whnf) | refine ⟨i,rfl,?_⟩ | refine ⟨u0.toNat,j,?_⟩ | refine ⟨_,get,?_⟩ | refine ⟨_,e,?_⟩ | refine ⟨_,n,?_⟩ | refine Ap _ (Ac (d _) ?_) | refine .pure _ [] a ?_ | exact rfl | refine zt ?_ | refine zu ?_ ?_ | intro h | fail
 .refine gV ?_;refine aT λ h=>?_
  repeat' first | (refine gN hE ?_;conv=>whnf) | refine ⟨i,rfl,?_⟩ | refine ⟨u0.toNat,j,?_⟩ | refine ⟨_,get,?_⟩ | refine ⟨_,e,?_⟩ | refine ⟨_,n,?_⟩ | refine Ap _ (Ac (d _) ?_) | refine .pure _ [] a ?_ | exact rfl | refine zt ?_ | refine zu ?_ ?_ | intro h | fail):P:=h
def zqca1{P:Prop}(h:P:=by
 refine To.leave (f:=71) (args:=[.ref 1 0]) [] rfl [] [1] rfl (catch_pan 0 1) ?_
 exact To.left hE rfl rfl rfl):P:=h
def zqca2{P:Prop}(h:P:=by
 refine gV ?_;refine aT λ h=>gV ?_;refine ⟨i,rfl,gV ?_⟩;refine ⟨_,get,gV ?_⟩;refine .pure _ [] c ?_;refine cP (hEr [] [64,65,66]) 20 ?_;conv=>whnf
 refine To.cutC [1,3,4,6,7,14,15,16] 3 rfl rfl rfl rfl ?_;refine sV p ?_
 exact zW):P:=h
def zqca3{P:Prop}(h:P:=by
 refine gV ?_;refine .eff [] [1,2] _ _ rfl (aA.strip (nums_ok [x.n] s_ l s_ _ q_)) (gV ?_);have il:=il_cons x [x.n] (by rw [h1,b,j];rfl);have a:putN x.k.toNat++pl [x.n]≠[]:=by rw [il];exact pl_ne _ _
 refine .eff [] [1,2] _ _ rfl (str_ok _ a _) (gV ?_)
 rw [il]):P:=h
def zqca4{P:Prop}(h:P:=by
 refine gV ?_;have next:=q (i+1) 1 (bs++putN x.toNat) o_ (.inr rfl) (λ_=>rfl) (λ_=>rfl) q_ a
 rcases k with rfl | rfl
 .refine .sole rfl (.eff [] [0,1] _ _ rfl (ws_ok bs _ o_) (gV ?_));refine aJ (gV ?_);refine To.part [0,6,7,8] [0,1] rfl rfl rfl ?_;exact next
 .refine .sole rfl (.eff [] [0,1] _ _ rfl (ws_ok bs _ o_) (gV ?_));refine aJ (gV ?_);refine To.part [0,6,7,8] [0,1] rfl rfl rfl ?_
  exact next):P:=h
def zqca5{P:Prop}(h:P:=by
 refine gV ?_;refine .pure _ [] (j xs[i] (Bf b)) (gV ?_);rw [Ae b] at a;have a:(if p xs[i]=true then (i:Int) else J3 p (xs.drop (i+1)) ((i:Int)+1))=r:=a;refine ⟨λ c=>?_,λ c=>?_⟩
 .refine gV ?_;rw [if_pos c] at a;rw [a]
 .refine gV ?_;rw [if_neg (by rw [c];simp)] at a;refine .inl ⟨⟨by simp only [cJ];omega,by simp only [bE];omega⟩,?_⟩;have d:=k (i+1) o_ (by rw [<-a];push_cast;rfl)
  exact zW):P:=h
def zqca6{P:Prop}(h:P:=by
 refine gV ?_;refine aJ (gV ?_);refine gV ?_;refine Ac (λ h=>absurd (of_decide_eq_true h) s_) (λ_=>gV ?_);refine ⟨[],[0,1],⟨rfl,rfl⟩,?_⟩
 exact ⟨rfl,rfl⟩):P:=h
def zqca7{P:Prop}(h:P:=by
 refine ⟨[],[0],⟨rfl,rfl⟩,?_⟩
 exact ⟨rfl,rfl⟩):P:=h
def zqca8{P:Prop}(h:P:=by
 refine cT (E:=(Eo [14] [])) (fn:=Tryz.f56) (g:=.full 2 _ _) λ_=>gV ?_;refine .eff [] [0,1] _ _ rfl (KT _) (gV ?_);refine ⟨⟨by simp only [maxLen];simp;omega,by simp;omega⟩,?_⟩;refine gV ?_;refine ⟨[],[0,1],⟨rfl,rfl⟩,?_⟩;conv=>whnf
 refine ⟨rfl,?_⟩;rw [Bm]
 rfl):P:=h
def zqca9{P:Prop}(h:P:=by
 refine gW hEc ?_;conv=>whnf
 refine .pure _ [] (fP _ _ rfl) ?_;refine cP hEc 2 ?_;conv=>whnf
 refine To.cutC [1,2] 2 rfl rfl rfl rfl ?_
 exact (XD x r a)):P:=h
def zqca10{P:Prop}(h:P:=by
 intro i g bs u k f _ d a;have e:=f rfl;subst e;rw [Ah o_] at a;have a:bs++[]=B:=a;rw [Ar] at a;subst a;refine gV ?_;refine aF λ h=>gV ?_;refine ⟨[],[0,1],⟨rfl,rfl⟩,?_⟩;rcases k with rfl | rfl
 .exact ⟨rfl,rfl⟩
 .exact ⟨rfl,rfl⟩):P:=h
def zqca11{P:Prop}(h:P:=by
 refine cT (E:=(Eo [14] [])) (fn:=Tryz.f56) (g:=.full 1 _ _) λ_=>gV ?_;refine .eff [] [0] _ _ rfl (cc_fresh _) (gV ?_);refine ⟨⟨by simp only [maxLen];simp;omega,by simp;omega⟩,?_⟩;refine gV ?_
 exact zx [0,1]):P:=h
def zqca12{P:Prop}(h:P:=by exact c_ Tryz.f78 λ_=>zW):P:=h
def zqca13{P:Prop}(h:P:=by
 refine Lib.run_unsafeString_row w.drew 201 3 9 5 aAH aEu g a.size (by have h:w.drew.heap[g]? =some (.cells a 5 (0,0)):=u;simp [Jh,h]) l o o_ (by unfold maxLen at k;omega) ?_;intro j x s;rw [bB,Bp]
 exact c j x s):P:=h
def zqca14{P:Prop}(h:P:=by
 simp only [h1] at a b;have a:Res.pan (aX 10)=r:=a;have b:rdU=O:=b;subst a b;refine .effp [] [0] _ _ rfl (jQ h1) ?_
 exact zx [0]):P:=h
def zqca15{P:Prop}(h:P:=by
 refine To.left hE rfl rfl ?_;refine ⟨[],[0,1,2],⟨rfl,rfl⟩,?_⟩
 exact ⟨rfl,rfl⟩):P:=h
def zqca16{P:Prop}(h:P:=by
 refine gW hEc ?_;conv=>whnf
 refine .pan _ (dC _ _ rfl) ?_;conv=>whnf
 exact zqca1):P:=h
def zqca17{P:Prop}(h:P:=by
 have h2:pav (xs.take i++[p]++xs.drop i)=(pav xs).take i++[p.av]++(pav xs).drop i:=by simp
 rw [h2]
 exact congrArg (λ l=>[ab.row 1 11 79 l,.row 0 11 79 [p.av]]) h):P:=h
def zqca18{P:Prop}(h:P:=by
 refine .effp [] [0] _ _ rfl (bO h3) ?_
 exact zx [0]):P:=h
def zqca19{P:Prop}(h:P:=by
 refine .effp [] [0] _ _ rfl (bO h1) ?_
 exact zx [0]):P:=h
def zqca20{P:Prop}(h:P:=by
 refine To.part [1,3,4,14,15,16] [0,1] rfl rfl rfl ?_;refine a ?_;clear d a;simp only [decide_eq_true_eq,decide_eq_false_iff_not,bne_iff_ne,ne_eq,bne_eq_false_iff_eq,Fh] at *
 simp [gcB]
 try omega):P:=h
def zqca21{P:Prop}(h:P:=by
 subst d;refine congrArg (λ q=>Res.ret (aa.bool q)) ?_;simp only [decide_eq_true_eq,decide_eq_false_iff_not] at *
 first | (rw [decide_eq_false o_];rfl) | (rw [decide_eq_true o_];rfl)):P:=h
def zqca22{P:Prop}(h:P:=by
 simp only [okI,pM,Ad,decide_eq_true_eq,and_true]
 omega):P:=h
def zqca23{P:Prop}(h:P:=by
 refine gV ?_;refine .eff [] [1,2] _ _ rfl (str_ok _ a _) (gV ?_)
 rw [il]):P:=h
def zqca24{P:Prop}(h:P:=by
 refine .effp [] [0] _ _ rfl (bO j) ?_
 exact zx [0]):P:=h
def zqca25{P:Prop}(h:P:=by
 refine gV ?_;refine To.part [0,6,7,8] [0,1] rfl rfl rfl ?_
 exact xX l o_ c _ 1 o_ l.length 0 0 bs o_ (.inl rfl) (λ h=>by omega) (λ_=>rfl) o_ rfl):P:=h
def zqca26{P:Prop}(h:P:=by
 simp only [h1] at b d;have b:Res.pan (aX 10)=r:=b;have d:rdU=O:=d;subst b d;refine .effp [] [0] _ _ rfl (wB h1) ?_
 exact zx [0]):P:=h
def zqca27{P:Prop}(h:P:=by
 simp only [g] at d f;have d:Res.pan (aX 10)=r:=d;have f:rdU=O:=f;subst d f;refine .effp [] [0] _ _ rfl (bO g) ?_
 exact zx [0]):P:=h
def zqca28{P:Prop}(h:P:=by
 refine gV ?_;refine ⟨[],[0,1],⟨rfl,rfl⟩,?_⟩
 exact ⟨rfl,rfl⟩):P:=h
def zqca29{P:Prop}(h:P:=by
 refine To.leave (f:=71) (args:=[.ref 1 0]) [] rfl [] [1] rfl (catch_pan 0 8) ?_
 exact To.left hE rfl rfl rfl):P:=h
def zqca30{P:Prop}(h:P:=by
 rw [Ar] at this;simp only [show ((2:Int)==1)=false from rfl,show ((2:Int)==2)=true from rfl,if_true,Cp,if_false]
 rw [this]):P:=h
def zqca31{P:Prop}(h:P:=by
 have:w.drew.heap[b]? =some (.cells #[p,.slice (some ⟨g,0,none⟩) l.length cap] tWr (0,0)):=i
 rw [Lib.cell_of_heap this];rfl):P:=h
def zqca32{P:Prop}(h:P:=by
 intro i g a;refine gV ?_;refine aF λ h=>gV ?_;rw [Ah o_] at a;rw [<-a]
 rfl):P:=h
def zqca33{P:Prop}(h:P:=by
 refine gV ?_;refine Ac (λ_=>?_) (λ h=>absurd h d_);refine To.loose (gV ?_)
 exact zqca7):P:=h
def zqca34{P:Prop}(h:P:=by
 refine cP hEc 2 ?_;conv=>whnf
 refine To.cutC [1,2] 2 rfl rfl rfl rfl ?_
 exact (aJn x r a)):P:=h
def zqca35{P:Prop}(h:P:=by
 simp only [h1] at d f;have d:Res.pan (aX 10)=r:=d;have f:rdU=O:=f;subst d f
 exact zqca19):P:=h
def zqca36{P:Prop}(h:P:=by
 simp only [h3] at b d;have b:Res.pan (aX 10)=r:=b;have d:rdU=O:=d;subst b d
 exact zqca18):P:=h
def zqca37{P:Prop}(h:P:=by
 simp only [j] at b d;have b:Res.pan (aX 10)=r:=b;have d:rdU=O:=d;subst b d
 exact zqca24):P:=h
def zqca38{P:Prop}(h:P:=by
 refine cP hEc 2 ?_;conv=>whnf
 refine To.cutC [1,2] 2 rfl rfl rfl rfl ?_
 exact (aJm x r a)):P:=h
def zqca39{P:Prop}(h:P:=by
 rw [d] at a e;have a:false=b:=a;subst a;refine gV ?_
 exact zW):P:=h
def zqca40{P:Prop}(h:P:=by
 have a:R=false:=a;subst a
 exact c_ Tryz.f20 λ_=>zW):P:=h
def zqca41{P:Prop}(h:P:=by
 rw [eqL_len (by intro e;rw [d,c,e] at h;simp at h)]
 refine gW hE ?_;conv=>whnf):P:=h
def zqca42{P:Prop}(h:P:=by
 refine gV ?_;refine To.part [1,7,69,70,71] [0,1] rfl rfl rfl ?_
 exact next):P:=h
structure Cmd where
 k:Int
 c:Con
 g:Gan
 n:Int
 deriving DecidableEq
def Cmd.cs(x:Cmd):ay:=[ii x.k,.slice 11 (nav x.c.ns) .no,.slice 6 (hav x.c.hs) .no,ii x.c.half,ii x.c.age,ii x.g.id,ii x.g.ten,ii x.g.pods,ii x.g.need.a,ii x.g.need.b,ii x.g.need.c,ii x.g.run,ii x.g.lev,ii x.g.pref,ii x.n]
def Cmd.av(x:Cmd):aa:=.agg x.cs
def pM(x:Int):Bool:=decide (0<=x)&&decide (x<=1099511627776)
def okI:aw->Bool
 | []=>true
 | x::r=>pM x&&okI r
def V3.l(v:V3):aw:=[v.a,v.b,v.c]
def Nod.ok(x:Nod):Bool:=(decide (-1<=x.p)&&decide (x.p<=1099511627776))&&okI [x.w]&&okI x.n.l&&okI x.b.l&&okI x.l.l
def Hos.ok(x:Hos):Bool:=okI [x.f,x.b,x.r]&&okI x.c.l
def uZ:bc->Bool
 | []=>true
 | x::r=>x.ok&&uZ r
def qP:List Hos->Bool
 | []=>true
 | x::r=>x.ok&&qP r
def Con.tok(c:Con):Bool:=uZ c.ns&&qP c.hs&&okI [c.half,c.age]
def Gan.ok(g:Gan):Bool:=okI [g.id,g.ten,g.pods,g.run,g.lev,g.pref]&&okI g.need.l
def Con.none(c:Con):Bool:=decide ((c.ns.length:Int)=0)&&decide ((c.hs.length:Int)=0)&&decide (c.half=0)&&decide (c.age=0)
def Gan.zero:Gan:=⟨0,0,0,⟨0,0,0⟩,0,0,0⟩
end Go.Proofs.YtaeegbkbahgjhaaGreatDoor
namespace Go.Proofs.YtaeegbkbahgjhaaGreatDoor.C8
open Go Go.AW Go.Proofs
set_option maxRecDepth 10000
def aX(e:Int):aa:=.iface 222 (.agg [ii e])
def fP(b:Bool)(e:Int)(h:b=true):aq 72 [.bool b,ii e] [] (.ret (.tup [])) []:=by subst h;refine c_ Tryz.f72 λ_=>gV ?_;refine ⟨λ h=>absurd h d_,λ h=>?_⟩;refine gW hE ?_;conv=>whnf
def dC(b:Bool)(e:Int)(h:b=false):aq 72 [.bool b,ii e] [] (.pan (aX e)) []:=by subst h;refine c_ Tryz.f72 λ_=>gV ?_;refine ⟨λ h=>?_,λ h=>absurd h d_⟩;refine gV ?_;rfl
def aI6(l:aw):Res:=if okI l then .ret (.tup []) else .pan (aX 1)
def XY(l:aw)(hl:((iv l).length:Int)<=9223372036854775807)(r:Res):∀ (n i:Nat),i+n=l.length->aI6 (l.drop i)=r->
  To E Tryz.f75 (.pure r) (.head (stk Tryz.f75 0) [(4,.slice 1 (iv l) .no),(5,.int .i64 ((iv l).length:Nat)),(6,.int .i64 i)] []):=by
 have d:(iv l).length=l.length:=by simp
 intro n;induction n with
 | zero=>
  intro i e a;rw [Ah o_] at a;refine gV ?_;refine ⟨λ h=>absurd (of_decide_eq_true h) o_,λ h=>gV ?_⟩;exact a
 | succ n g=>
  intro i e a;have c:i<l.length:=o_;rw [Ae c] at a;have a:(if pM l[i]&&okI (l.drop (i+1)) then Res.ret (.tup []) else .pan (aX 1))=r:=a;refine gV ?_;refine ⟨λ h=>?_,λ h=>absurd (of_decide_eq_false h) o_⟩;refine gV ?_;refine ⟨i,rfl,gV ?_⟩;refine ⟨_,gR c,gV ?_⟩;refine ⟨λ h1=>?_,λ h1=>?_⟩
  .refine gV ?_;rcases Eg (decide (l[i]<=1099511627776)) with b | b
   .refine .pure _ [] (fP _ _ b) (gV ?_);refine .inl ⟨⟨by simp only [cJ];omega,by simp only [bE];omega⟩,?_⟩;refine gV ?_;refine To.head [4,5,6] ?_;refine g (i+1) o_ ?_;have h3:pM l[i]=true:=by unfold pM;rw [b];simpa using h1
    rw [h3,Cz] at a;exact a
   .refine .pan _ (dC _ _ b) ?_;have h3:pM l[i]=false:=by unfold pM;rw [b];simp
    rw [h3] at a;exact a
  .refine gV ?_;refine .pan _ (dC _ _ rfl) ?_;have h3:pM l[i]=false:=by unfold pM;have:decide (0<=l[i])=false:=h1;rw [this];rfl
   rw [h3] at a;exact a
def LQ(l:aw)(r:Res)(b:aI6 l=r):aq 75 [.slice 1 (iv l) .no] [] r []:=by refine c_ Tryz.f75 λ c=>?_;have a:=XY l c.1 _ l.length 0 o_ b;exact zW
def jU(l:aw)(h:okI l=true):aq 75 [.slice 1 (iv l) .no] [] (.ret (.tup [])) []:=LQ l _ (if_pos h)
def gU(l:aw)(h:okI l=false):aq 75 [.slice 1 (iv l) .no] [] (.pan (aX 1)) []:=LQ l _ (if_neg (by rw [h];simp))
def oR(b:Bool):Res:=if b then .ret (.tup []) else .pan (aX 1)
def DB{b:Bool}{r:Res}(a:oR b=r)(h:b=false):Res.pan (aX 1)=r:=by subst h;exact a
def S8(c:Con)(r:Res)(hl:((hav c.hs).length:Int)<=9223372036854775807):∀ (n i:Nat),i+n=c.hs.length->oR (qP (c.hs.drop i)&&okI [c.half,c.age])=r->
  To E Tryz.f73 (.pure r) (.head (stk Tryz.f73 1) [(1,.ref 0 0),(37,.slice 6 (hav c.hs) .no),(38,.int .i64 ((hav c.hs).length:Nat)),(39,.int .i64 i)] [.cells 30 c.cs]):=by
 have g:(hav c.hs).length=c.hs.length:=by simp
 intro n;induction n with
 | zero=>
  intro i j a;rw [Ah o_] at a;refine gV ?_;refine ⟨λ h=>absurd (of_decide_eq_true h) o_,λ h=>gV ?_⟩;cases d:okI [c.half,c.age] with
  | true=>
   refine .pure _ [] (aA.strip (jU [c.half,c.age] d)) (gV ?_);rw [d] at a;exact a
  | false=>
   refine .pan _ (aA.strip (gU [c.half,c.age] d)) ?_;rw [d] at a;exact a
 | succ n m=>
  intro i j a;have e:i<c.hs.length:=o_;rw [Ae e] at a;have a:oR ((c.hs[i].ok&&qP (c.hs.drop (i+1)))&&okI [c.half,c.age])=r:=a;generalize k:c.hs[i]=x at a;refine gV ?_;refine ⟨λ h=>?_,λ h=>absurd (of_decide_eq_false h) o_⟩;refine gV ?_;refine ⟨i,rfl,gV ?_⟩;refine ⟨_,(wU e).trans (by rw [k]),gV ?_⟩;cases d:okI [x.f,x.b,x.r] with
  | false=>
   refine .pan _ (aA.strip (gU [x.f,x.b,x.r] d)) ?_;exact DB a (by unfold Hos.ok;rw [d];rfl)
  | true=>
   refine .pure _ [] (aA.strip (jU [x.f,x.b,x.r] d)) (gV ?_);refine ⟨by decide,gV ?_⟩;cases h3:okI x.c.l with
   | false=>
    refine .pan _ (aA.strip (gU x.c.l h3)) ?_;exact DB a (by unfold Hos.ok;rw [d,h3];rfl)
   | true=>
    refine .pure _ [] (aA.strip (jU x.c.l h3)) (gV ?_);refine .inl ⟨⟨by simp only [cJ];omega,by simp only [bE];omega⟩,?_⟩;refine gV ?_;refine To.cut [1,37,38,39] 1 rfl rfl rfl rfl ?_;refine m (i+1) o_ ?_;have:x.ok=true:=by unfold Hos.ok;rw [d,h3];rfl
    rw [this,Cz] at a;exact a
def Z9(c:Con)(r:Res)(hl:((nav c.ns).length:Int)<=9223372036854775807)(y:((hav c.hs).length:Int)<=9223372036854775807):∀ (n i:Nat),i+n=c.ns.length->oR (uZ (c.ns.drop i)&&(qP c.hs&&okI [c.half,c.age]))=r->
  To E Tryz.f73 (.pure r) (.head (stk Tryz.f73 0) [(1,.ref 0 0),(7,.slice 11 (nav c.ns) .no),(8,.int .i64 ((nav c.ns).length:Nat)),(9,.int .i64 i)] [.cells 30 c.cs]):=by
 have q:(nav c.ns).length=c.ns.length:=by simp
 intro n;induction n with
 | zero=>
  intro i v d;rw [Ah o_] at d;refine gV ?_;refine ⟨λ h=>absurd (of_decide_eq_true h) o_,λ h=>?_⟩;have o:=S8 c r y c.hs.length 0 o_ d;exact zW
 | succ n s=>
  intro i v d;have g:i<c.ns.length:=o_;rw [Ae g] at d;have d:oR ((c.ns[i].ok&&uZ (c.ns.drop (i+1)))&&(qP c.hs&&okI [c.half,c.age]))=r:=d;generalize u:c.ns[i]=x at d;have a:x.ok=false->Res.pan (aX 1)=r:=λ h=>DB d (by rw [h];rfl);refine gV ?_;refine ⟨λ h=>?_,λ h=>absurd (of_decide_eq_false h) o_⟩;refine gV ?_;refine ⟨i,rfl,gV ?_⟩;refine ⟨_,(kX g).trans (by rw [u]),gV ?_⟩;refine ⟨λ h1=>?_,λ h1=>?_⟩
  .have h1:decide (-1<=x.p)=true:=h1;refine gV ?_;rcases Eg (decide (x.p<=1099511627776)) with e | e
   .refine .pure _ [] (fP _ _ e) (gV ?_);cases h3:okI [x.w] with
    | false=>
     refine .pan _ (aA.strip (gU [x.w] h3)) ?_;exact a (by unfold Nod.ok;rw [h3];simp)
    | true=>
    refine .pure _ [] (aA.strip (jU [x.w] h3)) (gV ?_);refine ⟨by decide,gV ?_⟩;cases j:okI x.n.l with
    | false=>
     refine .pan _ (aA.strip (gU x.n.l j)) ?_;exact a (by unfold Nod.ok;rw [j];simp)
    | true=>
    refine .pure _ [] (aA.strip (jU x.n.l j)) (gV ?_);refine ⟨by decide,gV ?_⟩;cases k:okI x.b.l with
    | false=>
     refine .pan _ (aA.strip (gU x.b.l k)) ?_;exact a (by unfold Nod.ok;rw [k];simp)
    | true=>
    refine .pure _ [] (aA.strip (jU x.b.l k)) (gV ?_);refine ⟨by decide,gV ?_⟩;cases m:okI x.l.l with
    | false=>
     refine .pan _ (aA.strip (gU x.l.l m)) ?_;exact a (by unfold Nod.ok;rw [m];simp)
    | true=>
    refine .pure _ [] (aA.strip (jU x.l.l m)) (gV ?_);refine .inl ⟨⟨by simp only [cJ];omega,by simp only [bE];omega⟩,?_⟩;refine gV ?_;refine To.cut [1,7,8,9] 1 rfl rfl rfl rfl ?_;refine s (i+1) o_ ?_;have:x.ok=true:=by unfold Nod.ok;rw [h1,e,h3,j,k,m];rfl
    rw [this,Cz] at d;exact d
   .refine .pan _ (dC _ _ e) ?_;exact a (by unfold Nod.ok;rw [e];simp)
  .have h1:decide (-1<=x.p)=false:=h1;refine gV ?_;refine .pan _ (dC _ _ rfl) ?_;exact a (by unfold Nod.ok;rw [h1];simp)
def W8(c:Con)(M:Imm)(ob:Hs)(vs:ba)(h:cA M ob vs [c.av]):((nav c.ns).length:Int)<=9223372036854775807/\((hav c.hs).length:Int)<=9223372036854775807:=by
 have hl:0<vs.length:=by rw [h.1];simp
 have:=h.2 0 _ c.av (Aa hl) rfl;exact ⟨cD this 0 _ rfl,cD this 1 _ rfl⟩
def EP(c:Con)(r:Res)(d:oR c.tok=r):aq 73 [c.av] [] r []:=by refine aA.get _ (W8 c) λ⟨hl,b⟩=>?_;refine c_ Tryz.f73 λ_=>?_;have a:=Z9 c r hl b c.ns.length 0 o_ (by rw [<-d];unfold Con.tok;rw [Ih];rfl);exact zW
def Z7(c:Con)(h:c.tok=true):aq 73 [c.av] [] (.ret (.tup [])) []:=EP c _ (if_pos h)
def S4(c:Con)(h:c.tok=false):aq 73 [c.av] [] (.pan (aX 1)) []:=EP c _ (if_neg (by rw [h];simp))
def OI(x:Gan)(r:Res)(b:oR x.ok=r):aq 74 [x.av] [] r []:=by
 refine c_ Tryz.f74 λ_=>gV ?_;cases h1:okI [x.id,x.ten,x.pods,x.run,x.lev,x.pref] with
 | false=>
  refine .pan _ (aA.strip (gU [x.id,x.ten,x.pods,x.run,x.lev,x.pref] h1)) ?_;exact DB b (by unfold Gan.ok;rw [h1];rfl)
 | true=>
  refine .pure _ [] (aA.strip (jU [x.id,x.ten,x.pods,x.run,x.lev,x.pref] h1)) (gV ?_);refine ⟨by decide,gV ?_⟩;cases a:okI x.need.l with
  | false=>
   refine .pan _ (aA.strip (gU x.need.l a)) ?_;exact DB b (by unfold Gan.ok;rw [h1,a];rfl)
  | true=>
   refine .pure _ [] (aA.strip (jU x.need.l a)) (gV ?_);rw [<-b];unfold Gan.ok;rw [h1,a];rfl
def aHA(x:Gan)(h:x.ok=true):aq 74 [x.av] [] (.ret (.tup [])) []:=OI x _ (if_pos h)
def aDc(x:Gan)(h:x.ok=false):aq 74 [x.av] [] (.pan (aX 1)) []:=OI x _ (if_neg (by rw [h];simp))
def catch_ret(x:Int):AP Tryz.prog 71 [.ref 0 0] [.cells 39 [ii x]] none [.cells 39 [ii x]]:=by refine AP.of (E:=E) (fn:=Tryz.f71) (n0:=1) (r:=.tup []) (by rfl) (by rfl) (by rfl) (λ_ _=>by rfl) (by rfl) (by decide+kernel) (by rfl) (by rfl) (by rfl) (by rfl) λ_=>gV ?_;refine ⟨λ_=>?_,λ h=>absurd h d_⟩;exact zW
def catch_pan(x e:Int):AP Tryz.prog 71 [.ref 0 0] [.cells 39 [ii x]] (some (aX e)) [.cells 39 [ii e]]:=by refine AP.of (E:=E) (fn:=Tryz.f71) (n0:=1) (r:=.tup []) (by rfl) (by rfl) (by rfl) (λ_ _=>by rfl) (by rfl) (by decide+kernel) (by rfl) (by rfl) (by rfl) (by rfl) λ_=>gV ?_;refine ⟨λ h=>absurd h d_,λ_=>gV ?_⟩;refine ⟨λ_=>?_,λ h=>absurd h d_⟩;exact zW
def _root_.Go.Proofs.YtaeegbkbahgjhaaGreatDoor.Gan.isZ(g:Gan):Bool:=((g.id==0)&&((g.ten==0)&&((g.pods==0)&&((g.need.a==0)&&((g.need.b==0)&&((g.need.c==0)&&((g.run==0)&&((g.lev==0)&&((g.pref==0)&&true)))))))))
def chkL(x:Cmd):Int:=if decide (((nav x.c.ns).length:Int)<=12)&&decide (((hav x.c.hs).length:Int)<=24) then 0 else 8
def chkN(x:Cmd):Int:=if okI [x.n] then chkL x else 1
def chkG(x:Cmd):Int:=if x.g.ok then chkN x else 1
def chkC(x:Cmd):Int:=if x.c.tok then chkG x else 1
def chk4(x:Cmd):Int:=if ((x.k==3||x.k==4)||x.k==5)||x.n==0 then chkC x else 1
def chk3(x:Cmd):Int:=if x.k==2||x.g.isZ then chk4 x else 1
def _root_.Go.Proofs.YtaeegbkbahgjhaaGreatDoor.Con.non(c:Con):Bool:=((((nav c.ns).length:Int)==0&&((hav c.hs).length:Int)==0)&&c.half==0)&&c.age==0
def chk2(x:Cmd):Int:=if x.k==1||x.c.non then chk3 x else 1
def chk(x:Cmd):Int:=if decide (1<=x.k)&&decide (x.k<=6) then chk2 x else 1
abbrev chF:ar:=[(1,.ref 0 0),(2,.ref 1 0)]
abbrev chO(x:Cmd):au:=[.cells 36 x.cs,.cells 39 [ii 0]]
noncomputable abbrev Ec:Env:=Ed [(71,[.ref 1 0])]
def hEc:ae Ec:=hEd _
def aIC(x:Cmd)(r:Int)(h:0=r):To Ec Tryz.f42 (.pure (.ret (ii r))) (.code (dB Tryz.f42 9) chF (chO x)):=by
 subst h;refine gW hEc ?_;conv=>whnf
 refine To.leave (f:=71) (args:=[.ref 1 0]) [] rfl [] [1] rfl (catch_ret 0) ?_;exact To.left hE rfl rfl rfl
def aNt(x:Cmd)(r:Int)(a:chkL x=r):To Ec Tryz.f42 (.pure (.ret (ii r))) (.code (dB Tryz.f42 8) chF (chO x)):=by
 unfold chkL at a;refine gW hEc ?_;conv=>whnf
 refine ⟨λ h1=>?_,λ h1=>?_⟩
 .refine gW hEc ?_;conv=>whnf
  rcases Eg (decide (((hav x.c.hs).length:Int)<=24)) with b | b
  .rw [b,h1] at a;refine .pure _ [] (fP _ _ b) ?_;refine cP hEc 2 ?_;conv=>whnf
   refine To.cutC [1,2] 2 rfl rfl rfl rfl ?_;exact (aIC x r a)
  .rw [b,Es] at a;subst a;refine .pan _ (dC _ _ b) ?_;conv=>whnf
   exact zqca29
 .rw [h1,Gi] at a;subst a;refine gW hEc ?_;conv=>whnf
  refine .pan _ (dC _ _ rfl) ?_;conv=>whnf
  exact zqca29
def aNu(x:Cmd)(r:Int)(a:chkN x=r):To Ec Tryz.f42 (.pure (.ret (ii r))) (.code (dB Tryz.f42 7) chF (chO x)):=by
 unfold chkN at a;refine gW hEc ?_;conv=>whnf
 cases h:okI [x.n] with
 | true=>
  rw [h] at a;refine .pure _ [] (aA.strip (jU [x.n] h)) ?_;refine cP hEc 2 ?_;conv=>whnf
  refine To.cutC [1,2] 2 rfl rfl rfl rfl ?_;exact (aNt x r a)
 | false=>
  rw [h] at a;subst a;refine .pan _ (aA.strip (gU [x.n] h)) ?_;conv=>whnf
  exact zqca1
def aNv(x:Cmd)(r:Int)(a:chkG x=r):To Ec Tryz.f42 (.pure (.ret (ii r))) (.code (dB Tryz.f42 6) chF (chO x)):=by
 unfold chkG at a;refine gW hEc ?_;conv=>whnf
 cases h:x.g.ok with
 | true=>
  rw [h] at a;refine .pure _ [] (aHA x.g h) ?_;refine cP hEc 2 ?_;conv=>whnf
  refine To.cutC [1,2] 2 rfl rfl rfl rfl ?_;exact (aNu x r a)
 | false=>
  rw [h] at a;subst a;refine .pan _ (aDc x.g h) ?_;conv=>whnf
  exact zqca1
def XD(x:Cmd)(r:Int)(a:chkC x=r):To Ec Tryz.f42 (.pure (.ret (ii r))) (.code (dB Tryz.f42 5) chF (chO x)):=by
 unfold chkC at a;refine gW hEc ?_;conv=>whnf
 cases h:x.c.tok with
 | true=>
  rw [h] at a;refine .pure _ [] (Z7 x.c h) ?_;refine cP hEc 2 ?_;conv=>whnf
  refine To.cutC [1,2] 2 rfl rfl rfl rfl ?_;exact (aNv x r a)
 | false=>
  rw [h] at a;subst a;refine .pan _ (S4 x.c h) ?_;conv=>whnf
  exact zqca1
def mU{b:Bool}{p q r:Int}(a:(if b then p else q)=r)(h:b=true):p=r:=by subst h;exact a
def yD{b:Bool}{p q r:Int}(a:(if b then p else q)=r)(h:b=false):q=r:=by subst h;exact a
def aJm(x:Cmd)(r:Int)(a:chk4 x=r):To Ec Tryz.f42 (.pure (.ret (ii r))) (.code (dB Tryz.f42 4) chF (chO x)):=by
 unfold chk4 at a;refine gW hEc ?_;conv=>whnf
 refine ⟨λ h1=>?_,λ h1=>?_⟩
 .have h1:(x.k==3)=true:=h1;replace a:=mU a (by simp [h1]);refine gW hEc ?_;conv=>whnf
  refine aY ?_;refine gW hEc ?_;conv=>whnf
  refine aY ?_;exact zqca9
 .have h1:(x.k==3)=false:=h1;refine gW hEc ?_;conv=>whnf
  refine ⟨λ b=>?_,λ b=>?_⟩
  .have b:(x.k==4)=true:=b;replace a:=mU a (by simp [b]);refine gW hEc ?_;conv=>whnf
   refine aY ?_;exact zqca9
  .have b:(x.k==4)=false:=b;refine gW hEc ?_;conv=>whnf
   refine ⟨λ h3=>?_,λ h3=>?_⟩
   .have h3:(x.k==5)=true:=h3;replace a:=mU a (by simp [h3]);exact zqca9
   .have h3:(x.k==5)=false:=h3;refine gW hEc ?_;conv=>whnf
    refine (Eg (x.n==0)).elim (λ c=>?_) (λ c=>?_)
    .replace a:=mU a (by simp [c]);refine .pure _ [] (fP _ _ c) ?_;refine cP hEc 2 ?_;conv=>whnf
     refine To.cutC [1,2] 2 rfl rfl rfl rfl ?_;exact (XD x r a)
    .replace a:=yD a (by simp [h1,b,h3,c]);subst a;refine .pan _ (dC _ _ c) ?_;conv=>whnf
     exact zqca1
def aJn(x:Cmd)(r:Int)(a:chk3 x=r):To Ec Tryz.f42 (.pure (.ret (ii r))) (.code (dB Tryz.f42 3) chF (chO x)):=by
 unfold chk3 at a;refine gW hEc ?_;conv=>whnf
 refine ⟨λ h1=>?_,λ h1=>?_⟩
 .have h1:(x.k==2)=true:=h1;replace a:=mU a (by simp [h1]);refine gW hEc ?_;conv=>whnf
  refine .pure _ [] (fP _ _ rfl) ?_;exact zqca38
 .have h1:(x.k==2)=false:=h1;refine gW hEc ?_;conv=>whnf
  refine (Eg x.g.isZ).elim (λ b=>?_) (λ b=>?_)
  .replace a:=mU a (by simp [b]);refine .pure _ [] (fP _ _ b) ?_;exact zqca38
  .replace a:=yD a (by simp [h1,b]);subst a;refine .pan _ (dC _ _ b) ?_;conv=>whnf
   exact zqca1
def aNw(x:Cmd)(r:Int)(a:chk2 x=r):To Ec Tryz.f42 (.pure (.ret (ii r))) (.code (dB Tryz.f42 2) chF (chO x)):=by
 unfold chk2 Con.non at a;refine gW hEc ?_;conv=>whnf
 refine ⟨λ h1=>?_,λ h1=>?_⟩
 .have h1:(x.k==1)=true:=h1;replace a:=mU a (by rw [h1];rfl);refine gW hEc ?_;conv=>whnf
  refine .pure _ [] (fP _ _ rfl) ?_;exact zqca34
 .have h1:(x.k==1)=false:=h1;refine gW hEc ?_;conv=>whnf
  refine ⟨λ b=>?_,λ b=>?_⟩
  .have b:(((nav x.c.ns).length:Int)==0)=true:=b;refine gW hEc ?_;conv=>whnf
   refine ⟨λ h3=>?_,λ h3=>?_⟩
   .have h3:(((hav x.c.hs).length:Int)==0)=true:=h3;refine gW hEc ?_;conv=>whnf
    refine ⟨λ d=>?_,λ d=>?_⟩
    .have d:(x.c.half==0)=true:=d;refine gW hEc ?_;conv=>whnf
     refine (Eg (x.c.age==0)).elim (λ e=>?_) (λ e=>?_)
     .replace a:=mU a (by rw [h1,b,h3,d,e];rfl);refine .pure _ [] (fP _ _ e) ?_;exact zqca34
     .replace a:=yD a (by rw [h1,e,Es];rfl);subst a;refine .pan _ (dC _ _ e) ?_;conv=>whnf
      exact zqca1
    .have d:(x.c.half==0)=false:=d;replace a:=yD a (by rw [h1,d,Es,Gi];rfl);subst a;exact zqca16
   .have h3:(((hav x.c.hs).length:Int)==0)=false:=h3;replace a:=yD a (by rw [h1,h3,Es];rfl);subst a;refine gW hEc ?_;conv=>whnf
    refine aN ?_;exact zqca16
  .have b:(((nav x.c.ns).length:Int)==0)=false:=b;replace a:=yD a (by rw [h1,b];rfl);subst a;refine gW hEc ?_;conv=>whnf
   refine aN ?_;refine gW hEc ?_;conv=>whnf
   refine aN ?_;exact zqca16
def aNx(x:Cmd)(r:Int)(a:chk x=r):To Ec Tryz.f42 (.pure (.ret (ii r))) (.code (dB Tryz.f42 1) chF (chO x)):=by
 unfold chk at a;refine gW hEc ?_;conv=>whnf
 refine ⟨λ h1=>?_,λ h1=>?_⟩
 .have h1:decide (1<=x.k)=true:=h1;refine gW hEc ?_;conv=>whnf
  refine (Eg (decide (x.k<=6))).elim (λ b=>?_) (λ b=>?_)
  .rw [h1,b] at a;refine .pure _ [] (fP _ _ b) ?_;refine cP hEc 2 ?_;conv=>whnf
   refine To.cutC [1,2] 2 rfl rfl rfl rfl ?_;exact (aNw x r a)
  .rw [b,Es] at a;subst a;refine .pan _ (dC _ _ b) ?_;conv=>whnf
   exact zqca1
 .have h1:decide (1<=x.k)=false:=h1;rw [h1,Gi] at a;subst a;exact zqca16
def check_any(x:Cmd)(r:Int)(a:chk x=r):aq 42 [x.av] [] (.ret (ii r)) []:=by refine c_ Tryz.f42 λ_=>gV ?_;refine To.defer (f:=71) (args:=[.ref 1 0]) _ rfl rfl ?_;refine To.cutC [1,2] 2 rfl rfl rfl rfl ?_;exact aNx x r a
def check_ok(x:Cmd):aq 42 [x.av] [] (.ret (ii (chk x))) []:=check_any x _ rfl
def mH(r:Nat):Code->bf->Option bf
 | .region id o d,ks=>bif Ax id r then some (.code (.region id o d)::ks) else none
 | .seq a b,ks=>(match mH r a (.code b::ks) with | some x=>some x | none=>mH r b ks)
 | .cond _ a b,ks=>(match mH r a ks with | some x=>some x | none=>mH r b ks)
 | .block id b,ks=>mH r b (.inB id::ks)
 | .loop b,ks=>mH r b (.inL b::ks)
 | _,_=>none
def iZ(fn:Func)(r:Nat):bf:=match mH r (dA fn) [] with | some ks=>ks | none=>[]
def eqL{α:Type}(f:α->α->Bool):List α->List α->Bool
 | [],[]=>true
 | x::r,y::s=>f x y&&eqL f r s
 | _,_=>false
def eqL_len{α:Type}{f:α->α->Bool}:∀ {a b:List α},a.length≠b.length->eqL f a b=false
 | [],[],h=>absurd rfl h
 | [],_::_,_=>rfl
 | _::_,[],_=>rfl
 | x::r,y::s,h=>by have:=eqL_len (f:=f) (a:=r) (b:=s) (by simpa using h);simp [eqL,this]
def _root_.Go.Proofs.YtaeegbkbahgjhaaGreatDoor.Nod.eqb(x y:Nod):Bool:=(x.p==y.p)&&((x.w==y.w)&&((x.n.a==y.n.a)&&((x.n.b==y.n.b)&&((x.n.c==y.n.c)&&((x.b.a==y.b.a)&&((x.b.b==y.b.b)&&((x.b.c==y.b.c)&&((x.l.a==y.l.a)&&((x.l.b==y.l.b)&&((x.l.c==y.l.c)&&true))))))))))
def _root_.Go.Proofs.YtaeegbkbahgjhaaGreatDoor.Hos.eqb(x y:Hos):Bool:=(x.f==y.f)&&((x.b==y.b)&&((x.r==y.r)&&((x.c.a==y.c.a)&&((x.c.b==y.c.b)&&((x.c.c==y.c.c)&&true)))))
def _root_.Go.Proofs.YtaeegbkbahgjhaaGreatDoor.Gan.eqb(x y:Gan):Bool:=(x.id==y.id)&&((x.ten==y.ten)&&((x.pods==y.pods)&&((x.need.a==y.need.a)&&((x.need.b==y.need.b)&&((x.need.c==y.need.c)&&((x.run==y.run)&&((x.lev==y.lev)&&((x.pref==y.pref)&&true))))))))
def _root_.Go.Proofs.YtaeegbkbahgjhaaGreatDoor.Nod.eqb_eq{x y:Nod}:x.eqb y=true↔x=y:=by obtain ⟨_,_,⟨_,_,_⟩,⟨_,_,_⟩,⟨_,_,_⟩⟩:=x;obtain ⟨_,_,⟨_,_,_⟩,⟨_,_,_⟩,⟨_,_,_⟩⟩:=y;simp [Nod.eqb,and_assoc]
def _root_.Go.Proofs.YtaeegbkbahgjhaaGreatDoor.Hos.eqb_eq{x y:Hos}:x.eqb y=true↔x=y:=by obtain ⟨_,_,_,⟨_,_,_⟩⟩:=x;obtain ⟨_,_,_,⟨_,_,_⟩⟩:=y;simp [Hos.eqb]
def _root_.Go.Proofs.YtaeegbkbahgjhaaGreatDoor.Gan.eqb_eq{x y:Gan}:x.eqb y=true↔x=y:=by obtain ⟨_,_,_,⟨_,_,_⟩,_,_,_⟩:=x;obtain ⟨_,_,_,⟨_,_,_⟩,_,_,_⟩:=y;simp [Gan.eqb,and_assoc]
def aDE(a b:bc)(k:a.length=b.length)(hl:((nav a).length:Int)<=9223372036854775807)(r:Bool):∀ (n i:Nat),i+n=a.length->eqL Nod.eqb (a.drop i) (b.drop i)=r->
  To E Tryz.f35 (.pure (.ret (.bool r))) (.head (stk Tryz.f35 0) [(0,.slice 11 (nav a) .no),(1,.slice 11 (nav b) .no),(12,.int .i64 ((nav a).length:Nat)),(13,.int .i64 i)] []):=by
 have g:(nav a).length=a.length:=by simp
 intro n;induction n with
 | zero=>
  intro i p c;rw [Ah o_,Ah o_] at c;subst c;refine gV ?_;exact zW
 | succ n j=>
  intro i p c;have h1:i<a.length:=o_;have d:i<b.length:=o_;rw [Ae h1,Ae d] at c;have c:(Nod.eqb a[i] b[i]&&eqL Nod.eqb (a.drop (i+1)) (b.drop (i+1)))=r:=c;generalize l:a[i]=x at c;generalize m:b[i]=y at c;have q:(nav a)[i]? =some (Nod.av x):=by simp [l,h1]
  have o:(nav b)[i]? =some (Nod.av y):=by simp [m,d]
  refine gV ?_;refine aT λ h=>?_
  repeat' first | (refine gN hE ?_;conv=>whnf) | refine ⟨_,q,?_⟩ | refine ⟨_,o,?_⟩ | exact rfl | refine zt ?_ | refine zu ?_ ?_ | intro h | fail
  .rename_i h;have h:Nod.eqb x y=false:=zY h;rw [h] at c;rw [<-c];rfl
  .rename_i h;have h:Nod.eqb x y=true:=zZ h;rw [h,Cz] at c;have e:=j (i+1) o_ c;exact zW
def eqN_ok(a b:bc):aq 35 [.slice 11 (nav a) .no,.slice 11 (nav b) .no] [] (.ret (.bool (eqL Nod.eqb a b))) []:=by
 have d:(nav a).length=a.length:=by simp
 have c:(nav b).length=b.length:=by simp
 refine c_ Tryz.f35 λ j=>?_;have hl:((nav a).length:Int)<=9223372036854775807:=j.1;refine gV ?_;refine ⟨λ h=>?_,λ h=>?_⟩
 .have h:(((nav a).length:Int) !=((nav b).length:Int))=true:=h;exact zqca41
 .have h:(((nav a).length:Int) !=((nav b).length:Int))=false:=h;have i:=aDE a b (by simp at h;omega) hl _ a.length 0 o_ rfl;exact zW
def aDG(a b:List Hos)(k:a.length=b.length)(hl:((hav a).length:Int)<=9223372036854775807)(r:Bool):∀ (n i:Nat),i+n=a.length->eqL Hos.eqb (a.drop i) (b.drop i)=r->
  To E Tryz.f36 (.pure (.ret (.bool r))) (.head (stk Tryz.f36 0) [(0,.slice 6 (hav a) .no),(1,.slice 6 (hav b) .no),(12,.int .i64 ((hav a).length:Nat)),(13,.int .i64 i)] []):=by
 have g:(hav a).length=a.length:=by simp
 intro n;induction n with
 | zero=>
  intro i p c;rw [Ah o_,Ah o_] at c;subst c;refine gV ?_;exact zW
 | succ n j=>
  intro i p c;have h1:i<a.length:=o_;have d:i<b.length:=o_;rw [Ae h1,Ae d] at c;have c:(Hos.eqb a[i] b[i]&&eqL Hos.eqb (a.drop (i+1)) (b.drop (i+1)))=r:=c;generalize l:a[i]=x at c;generalize m:b[i]=y at c;have q:(hav a)[i]? =some (Hos.av x):=by simp [l,h1]
  have o:(hav b)[i]? =some (Hos.av y):=by simp [m,d]
  refine gV ?_;refine aT λ h=>?_
  repeat' first | (refine gN hE ?_;conv=>whnf) | refine ⟨_,q,?_⟩ | refine ⟨_,o,?_⟩ | exact rfl | refine zt ?_ | refine zu ?_ ?_ | intro h | fail
  .rename_i h;have h:Hos.eqb x y=false:=zY h;rw [h] at c;rw [<-c];rfl
  .rename_i h;have h:Hos.eqb x y=true:=zZ h;rw [h,Cz] at c;have e:=j (i+1) o_ c;exact zW
def eqH_ok(a b:List Hos):aq 36 [.slice 6 (hav a) .no,.slice 6 (hav b) .no] [] (.ret (.bool (eqL Hos.eqb a b))) []:=by
 have d:(hav a).length=a.length:=by simp
 have c:(hav b).length=b.length:=by simp
 refine c_ Tryz.f36 λ j=>?_;have hl:((hav a).length:Int)<=9223372036854775807:=j.1;refine gV ?_;refine ⟨λ h=>?_,λ h=>?_⟩
 .have h:(((hav a).length:Int) !=((hav b).length:Int))=true:=h;exact zqca41
 .have h:(((hav a).length:Int) !=((hav b).length:Int))=false:=h;have i:=aDG a b (by simp at h;omega) hl _ a.length 0 o_ rfl;exact zW
def sameC(a b:Con):Bool:=eqL Nod.eqb a.ns b.ns&&(eqL Hos.eqb a.hs b.hs&&((a.half==b.half)&&(a.age==b.age)))
def same(a b:Cmd):Bool:=(a.k==b.k)&&(a.g.eqb b.g&&((a.n==b.n)&&sameC a.c b.c))
set_option maxHeartbeats 2000000
end Go.Proofs.YtaeegbkbahgjhaaGreatDoor.C8
namespace Go.Proofs.YtaeegbkbahgjhaaGreatDoor.Q2
open Go Go.AW Go.Proofs
structure Pend where
 (id tenant pods n0 n1 n2 run level prefer seq since:Int)
 deriving DecidableEq
abbrev _root_.bh:=List Pend
def Pend.cs(p:Pend):ay:=[.int .i64 p.id,.int .i64 p.tenant,.int .i64 p.pods,.int .i64 p.n0,.int .i64 p.n1,.int .i64 p.n2,.int .i64 p.run,.int .i64 p.level,.int .i64 p.prefer,.int .i64 p.seq,.int .i64 p.since]
def Pend.av(p:Pend):aa:=.agg p.cs
abbrev pav(l:bh):ay:=l.map Pend.av
def DU{n:Int}(h1: -9223372036854775808<=n)(a:n<=9223372036854775807):inR .i64 n:=⟨by simp only [cJ];omega,by simp only [bE];omega⟩
def idx(p:Pend->Bool):bh->Int->Int
 | [],_=> -1
 | x::r,i=>if p x then i else idx p r (i+1)
def ak(a:Int)(l:bh):Int:=idx (λ x=>x.id==a) l 0
def aB9(a b:Int):Pend:=⟨a,0,0,0,0,0,0,0,0,b,0⟩
def JH{l:bh}{i:Nat}(h:i<l.length):(pav l)[i]? =some l[i].av:=by simp [pav,h]
set_option maxRecDepth 10000
def aMQ(p:Pend):aq 314 [p.av] [] (.ret (.int .i64 p.id)) []:=by refine c_ Tryz.f314 λ_=>?_;refine gW hE ?_;conv=>whnf
def aBe(p:Pend):aq 315 [p.av] [] (.ret (.int .i64 p.seq)) []:=by refine c_ Tryz.f315 λ_=>?_;refine gW hE ?_;conv=>whnf
def aMM(p:Pend)(b:Int):aq 120 [.iface 230 p.av,.int .i64 b] [] (.ret (.bool (p.id==b))) []:=by refine c_ Tryz.f120 λ_=>?_;have a:=aMQ p;exact zW
def H9(p q:Pend):aq 125 [.iface 230 p.av,.iface 230 q.av] [] (.ret (.bool (decide (q.seq<p.seq)))) []:=by refine c_ Tryz.f125 λ_=>?_;have b:=aBe p;have a:=aBe q;exact zW
def aGo(x p:Pend):aq 124 [x.av,.ptr p.cs] [] (.ret (.bool (decide (p.seq<x.seq)))) []:=by refine c_ Tryz.f124 λ_=>?_;have a:=H9 x p;exact zW
def aDr(x:Pend)(a:Int):aq 119 [x.av,.ptr [.int .i64 a]] [] (.ret (.bool (x.id==a))) []:=by refine c_ Tryz.f119 λ_=>?_;have b:=aMM x a;exact zW
def RS(f:FuncId)(l:ay)(xs:bh)(p:Pend->Bool)(k:∀ x∈xs,aA Tryz.prog f [x.av,.ptr l] [] (.ret (.bool (p x))) [])(hl:((pav xs).length:Int)<=9223372036854775807)(r:Int):
  ∀ (n i:Nat),i+n=xs.length->idx p (xs.drop i) i=r->
  To E Tryz.f118 (.pure (.ret (.int .i64 r))) (.head (stk Tryz.f118 0)
   [(0,.slice 11 (pav xs) .no),(1,.func (.func f) [] [.ptr l]),(7,.int .i64 ((pav xs).length:Nat)),(8,.int .i64 i)] []):=by
 have e:(pav xs).length=xs.length:=by simp
 intro n;induction n with
 | zero=>
  intro i g a;refine gV ?_;refine ⟨λ h=>?_,λ h=>?_⟩
  .exact absurd (of_decide_eq_true h) o_
  .refine gV ?_;rw [Ah o_] at a;rw [<-a];rfl
 | succ n j=>
  intro i g a;have b:i<xs.length:=o_;refine gV ?_;refine ⟨λ h=>?_,λ h=>?_⟩
  .refine gV ?_;refine ⟨i,rfl,gV ?_⟩;refine ⟨_,JH b,gV ?_⟩;refine .pure _ [] (k xs[i] (Bf b)) (gV ?_);rw [Ae b] at a;have a:(if p xs[i] then (i:Int) else idx p (xs.drop (i+1)) ((i:Int)+1))=r:=a;refine ⟨λ c=>?_,λ c=>?_⟩
   .refine gV ?_;rw [if_pos c] at a;rw [a]
   .refine gV ?_;rw [if_neg (by rw [c];simp)] at a;refine .inl ⟨⟨by simp only [cJ];omega,by simp only [bE];omega⟩,?_⟩;have d:=j (i+1) o_ (by rw [<-a];push_cast;rfl);exact zW
  .exact absurd (of_decide_eq_false h) o_
def N7(f:FuncId)(l:ay)(xs:bh)(p:Pend->Bool)(a:∀ x∈xs,aA Tryz.prog f [x.av,.ptr l] [] (.ret (.bool (p x))) []):
  aq 118 [.slice 11 (pav xs) .no,.func (.func f) [] [.ptr l]] [] (.ret (.int .i64 (idx p xs 0))) []:=by
 refine c_ Tryz.f118 λ b=>gV ?_;refine To.head [0,1,7,8] ?_;exact RS f l xs p a b.1 _ xs.length 0 o_ s_
def find_ok(xs:bh)(a:Int):aq 79 [.slice 11 (pav xs) .no,.int .i64 a] [] (.ret (.int .i64 (ak a xs))) []:=by refine c_ Tryz.f79 λ_=>?_;have b:=N7 _ _ xs (λ x=>x.id==a) λ x _=>aDr x a;exact zW
def aK9{n:Nat}(h:n<=1000000):A1 n 88:=⟨by simp only [maxLen];omega,by omega⟩
def EQ(xs:bh)(c:xs.length<=1000000):aq 68 [.slice 11 (pav xs) .no] [] (.ret (.row 0 0)) [.row 0 11 79 (pav xs)]:=by
 refine cT (E:=(Er [2,5] [])) (fn:=Tryz.f68) (g:=.full 0 _ _) λ_=>gV ?_;intro b a;refine gV ?_;refine ⟨λ h=>?_,λ h=>?_⟩
 .refine gV ?_;refine ⟨[],[1],⟨rfl,rfl⟩,?_⟩;conv=>whnf
  rw [a (by simpa using h)];exact ⟨rfl,rfl⟩
 .refine gV ?_;refine ⟨aK9 (by simpa using c),gV ?_⟩;refine ⟨[],[1],⟨rfl,rfl⟩,?_⟩;exact ⟨rfl,rfl⟩
def del_list{α:Type}(l:List α)(i:Nat)(f:i<l.length)(z:α):
  (l.take (0+i)++(l.drop (i+1)).take (l.length-(i+1))++l.drop (0+i+(l.length-(i+1)))).take (0+(l.length-1))++Aj (l.length-(l.length-1)) z++
   (l.take (0+i)++(l.drop (i+1)).take (l.length-(i+1))++l.drop (0+i+(l.length-(i+1)))).drop (0+(l.length-1)+(l.length-(l.length-1)))=l.eraseIdx i++[z]:=by
 have b:(l.drop (i+1)).take (l.length-(i+1))=l.drop (i+1):=Ch s_;have c:l.length-(l.length-1)=1:=o_;have a:(l.take (0+i)++l.drop (i+1)).length=l.length-1:=by simp;omega
 rw [b,c,Fz];simp only [Bp] at a⊢;have e:(l.take i++l.drop (i+1)++l.drop (i+(l.length-(i+1)))).take (l.length-1)=l.take i++l.drop (i+1):=by rw [Db o_,Ch o_]
 have d:(l.take i++l.drop (i+1)++l.drop (i+(l.length-(i+1)))).drop (l.length-1+1)=[]:=by refine Ah ?_;rw [Ai,a,Eh];omega
 rw [e,d];simp
def Z2(xs:bh)(i:Nat)(c:i<xs.length)(e:xs.length<=1000000):aq 84 [.row 0 0,.int .i64 i,.int .i64 ((i:Int)+1)] [.row 0 11 79 (pav xs)]
  (.ret (.sub 0 0 0 (xs.length-1) 11)) [.row 0 11 79 (pav (xs.eraseIdx i)++[(aB9 0 0).av])]:=by
 refine cT (E:=E) (fn:=Tryz.f84) (g:=.full 1 _ _) λ_=>gV ?_;refine ⟨i,rfl,gV ?_⟩;refine ⟨i+1,by push_cast;rfl,?_⟩;refine gV ?_;refine ⟨xs.length,by simp,gV ?_⟩;refine ⟨⟨⟨by omega,by omega⟩,by simp⟩,gV ?_⟩;refine ⟨λ h=>?_,λ h=>?_⟩
 .simp at h;omega
 .refine gV ?_;refine ⟨i,rfl,gV ?_⟩;refine ⟨by simp;omega,?_⟩;refine gV ?_;refine ⟨i+1,by push_cast;rfl,?_⟩;refine gV ?_;refine ⟨by simp;omega,?_⟩;refine gV ?_;have a:(pav xs).length=xs.length:=by simp
  have b:(Hy ((pav xs).length-(i+1)) (Hj (i+1) (pav xs))).length=xs.length-(i+1):=by simp
  rw [b,a];refine ⟨by omega,gV ?_⟩;refine ⟨xs.length-1,by omega,gV ?_⟩;refine ⟨xs.length,rfl,gV ?_⟩;refine ⟨by simp;omega,?_⟩;refine gV ?_;refine ⟨[],[0],⟨rfl,rfl⟩,?_⟩;conv=>whnf
  refine ⟨?_,?_⟩
  .show Res.ret (.sub 0 0 0 (i+(xs.length-(i+1))) 11)=_;rw [show i+(xs.length-(i+1))=xs.length-1 from by omega]
  .have h:=del_list (pav xs) i (by rw [a];exact c) (aB9 0 0).av;rw [a] at h;have d:(pav xs).eraseIdx i=pav (xs.eraseIdx i):=by simp only [pav,Fz,Bm,Gh,Ix]
   rw [d] at h;exact congrArg (λ l=>[ab.row 0 11 79 l]) h
def JJ(xs ys:ay)(lo len:Nat):aq 173 [.row 0 0,.sub 1 0 lo len 11] [.row 0 11 79 xs,.row 0 11 79 ys] (.ret (.bool false)) [.row 0 11 79 xs,.row 0 11 79 ys]:=
 M7 (fn:=Tryz.f173) (tS:=45) (tR:=4) (e:=79) (by kernel_rfl) (by kernel_rfl) (by kernel_rfl) (by kernel_rfl) (by kernel_rfl) (by kernel_rfl) (by kernel_rfl) d_ xs ys lo len
def BB{α:Type}(xs ys:List α)(lo len q:Nat)(h:lo+len<=xs.length):(xs.take lo++ys.take len++xs.drop (lo+min ys.length len))[q]? =if lo<=q/\q<lo+min ys.length len then ys[q-lo]? else xs[q]?:=by
 have a:(xs.take lo).length=lo:=by simp;omega
 have c:(ys.take len).length=min ys.length len:=by rw [Dn,Nat.min_comm]
 by_cases h1:q<lo
 .rw [if_neg o_,Af,Ag o_,Bj h1]
 .by_cases b:q<lo+min ys.length len
  .rw [if_pos ⟨by omega,b⟩,Ag (by rw [Ai];omega),Ak o_,a,Bj o_]
  .rw [if_neg o_,Ak (by rw [Ai];omega),Ai,a,c,Bq];congr 1;omega
def VO{α:Type}(l:List α)(p:α)(i q:Nat)(c:i<=l.length):(l.take i++[p]++l.drop i)[q]? =if q<i then l[q]? else if q=i then some p else l[q-1]?:=by
 have b:(l.take i).length=i:=by simp;omega
 by_cases h1:q<i
 .rw [if_pos h1,Af,Ag o_,Bj h1]
 .rw [if_neg h1,Af,Ak o_,b];by_cases a:q=i
  .rw [if_pos a,a];simp
  .rw [if_neg a,show q-i=(q-1-i)+1 from by omega];show (l.drop i)[q-1-i]? =_;rw [Bq];congr 1;omega
def RQ{α:Type}(l L:List α)(p:α)(i:Nat)(k:i<l.length)(j:L.length=l.length+1)(hl:∀ q,q<l.length->L[q]? =l[q]?):
  ∀ A B,A=L.take (i+1)++((L.drop i).take (L.length-i)).take (L.length-(i+1))++L.drop (i+1+min ((L.drop i).take (L.length-i)).length (L.length-(i+1)))->
   B=A.take i++[p].take (A.length-i)++A.drop (i+min [p].length (A.length-i))->B=l.take i++[p]++l.drop i:=by
 intro A B d g;have f:((L.drop i).take (L.length-i)).length=l.length+1-i:=by simp;omega
 have c:∀ q,A[q]? =if i+1<=q/\q<l.length+1 then L[q-1]? else L[q]?:=λ q=>by
  rw [d,BB _ _ _ _ _ o_,f,j];by_cases h:i+1<=q/\q<l.length+1
  .rw [if_pos o_,if_pos h,Bj o_,Bq];congr 1;omega
  .rw [if_neg o_,if_neg h]
 have b:A.length=l.length+1:=by rw [d];simp;omega
 refine Eb λ q=>?_;rw [VO _ _ _ _ o_,g,BB _ _ _ _ _ o_];have e:min [p].length (A.length-i)=1:=by rw [b];simp;omega
 rw [e];by_cases h1:q<i
 .rw [if_neg o_,if_pos h1,c,if_neg o_,hl q o_]
 .rw [if_neg h1];by_cases a:q=i
  .rw [if_pos o_,if_pos a,a];simp
  .rw [if_neg o_,if_neg a,c];by_cases h3:q<l.length+1
   .rw [if_pos o_,hl _ o_]
   .rw [if_neg o_,Bi o_,Bi o_]
def aHg{α:Type}(l L:List α)(p:α)(i:Nat)(k:i<l.length)(j:L.length=l.length+1)(hl:∀ q,q<i->L[q]? =l[q]?):
  ∀ A B,A=L.take i++[p].take (L.length-i)++L.drop (i+min [p].length (L.length-i))->
   B=A.take (i+1)++((l.drop i).take (l.length-i)).take (A.length-(i+1))++A.drop (i+1+min ((l.drop i).take (l.length-i)).length (A.length-(i+1)))->B=l.take i++[p]++l.drop i:=by
 intro A B d g;have f:((l.drop i).take (l.length-i)).length=l.length-i:=by simp
 have e:min [p].length (L.length-i)=1:=by rw [j];simp;omega
 have b:∀ q,A[q]? =if q=i then some p else L[q]?:=λ q=>by
  rw [d,BB _ _ _ _ _ o_,e];by_cases h:q=i
  .rw [if_pos o_,if_pos h,h];simp
  .rw [if_neg o_,if_neg h]
 have c:A.length=l.length+1:=by rw [d];simp;omega
 refine Eb λ q=>?_;rw [VO _ _ _ _ o_,g,BB _ _ _ _ _ o_,f,c,show min (l.length-i) (l.length+1-(i+1))=l.length-i from by omega];by_cases h1:q<i
 .rw [if_neg o_,if_pos h1,b,if_neg o_,hl q h1]
 .rw [if_neg h1];by_cases a:q=i
  .rw [if_neg o_,if_pos a,b,if_pos a]
  .rw [if_neg a];by_cases h3:q<l.length+1
   .rw [if_pos o_,Bj o_,Bq];congr 1;omega
   .rw [if_neg o_,b,if_neg a,Bi o_,Bi o_]
def BN{n:Nat}(h:n<=1000001):A1 n 88:=⟨by simp only [maxLen];omega,by omega⟩
def G4(xs:bh)(p:Pend)(i:Nat)(hi:i<=xs.length)(hx:xs.length<=1000000):
  aq 126 [.row 0 0,.int .i64 i,.row 1 0] [.row 0 11 79 (pav xs),.row 0 11 79 [p.av]]
  (.ret (.row 0 1)) [.row 1 11 79 (pav (xs.take i++[p]++xs.drop i)),.row 0 11 79 [p.av]]:=by
 have hlen:(pav xs).length=xs.length:=by simp
 refine cT (E:=(Er [60] [])) (fn:=Tryz.f126) (g:=.full 2 _ _) λ_=>?_;refine To.cap (t:=0) rfl rfl λ c hc hcm=>?_;rw [hlen] at hc;refine gV ?_;refine ⟨i,rfl,gV ?_⟩;rw [hlen];refine ⟨hi,gV ?_⟩;refine ⟨λ h=>?_,λ h=>?_⟩
 .cases h
 .refine gV ?_;refine ⟨λ h=>?_,λ h=>?_⟩
  .refine gV ?_
   have hi2:i=xs.length:=by have:(i:Int)=xs.length:=by simpa using h
                            omega
   refine ⟨by rw [hlen];exact BN q_,?_⟩;refine gV ?_;refine ⟨[],[0,1],⟨rfl,rfl⟩,?_⟩;conv=>whnf
   refine ⟨rfl,?_⟩;have:pav (xs.take i++[p]++xs.drop i)=pav xs++[p.av]:=by simp [hi2]
   rw [this];rfl
  .have hi2:i<xs.length:=by
    have:¬ (i:Int)=xs.length:=by simpa using h
    omega
   refine gV ?_;have h1:([p.av].length)=1:=rfl;rw [hlen,h1];refine .inl ⟨DU o_ o_,gV ?_⟩;refine ⟨λ h=>?_,λ h=>?_⟩
   .have hg:c<xs.length+1:=by have:=of_decide_eq_true h;omega
    refine gV ?_;refine ⟨i,rfl,gV ?_⟩;refine ⟨⟨by simp;omega,by omega⟩,?_⟩;refine gV ?_;refine .inl ⟨DU o_ o_,gV ?_⟩;refine .inl ⟨DU o_ o_,gV ?_⟩;refine ⟨xs.length+1-i,by omega,gV ?_⟩;refine ⟨⟨by omega,BN o_⟩,gV ?_⟩;refine ⟨i,rfl,gV ?_⟩;have hL:(Hy i (pav xs)++Aj (xs.length+1-i) (aB9 0 0).av).length=xs.length+1:=by simp;omega
    refine ⟨by simp;omega,?_⟩;refine gV ?_;refine .inl ⟨DU o_ o_,gV ?_⟩;refine ⟨i+1,by push_cast;rfl,?_⟩;refine gV ?_;refine ⟨by simp;omega,?_⟩;refine gV ?_;refine ⟨i,rfl,gV ?_⟩;refine ⟨by simp;omega,?_⟩;refine cP (hEr [60] []) 7 ?_;conv=>whnf
    refine To.become (j:=0) (k:=2) [9] rfl rfl rfl rfl (gV ?_);refine ⟨[],[0,1],⟨rfl,rfl⟩,?_⟩;conv=>whnf
    refine ⟨rfl,?_⟩;have h:=aHg (pav xs) _ p.av i (by rw [hlen];exact hi2) (by rw [hL,hlen]) (λ q hq=>by rw [Ag q_,Bj hq]) _ _ rfl rfl;exact zqca17
   .have hg:xs.length+1<=c:=by have:=of_decide_eq_false h;omega
    refine gV ?_;refine .inl ⟨DU o_ o_,gV ?_⟩;refine ⟨xs.length+1,by push_cast;rfl,?_⟩;refine gV ?_;refine ⟨⟨by simp,hg⟩,gV ?_⟩;refine .inl ⟨DU o_ o_,gV ?_⟩;refine ⟨i+1,by push_cast;rfl,?_⟩;refine gV ?_;refine ⟨by simp;omega,?_⟩;refine gV ?_;refine .eff [] [1,0] _ _ rfl (JJ _ _ _ _) (gV ?_);refine ⟨λ h=>?_,λ h=>?_⟩
    .refine gV ?_;refine .inl ⟨DU o_ o_,gV ?_⟩;refine ⟨i+1,by push_cast;rfl,?_⟩;refine gV ?_;refine ⟨by simp;omega,?_⟩;refine gV ?_;refine ⟨i,rfl,gV ?_⟩;refine ⟨by simp;omega,?_⟩;refine gV ?_;refine ⟨i,rfl,gV ?_⟩;refine ⟨by simp;omega,?_⟩;refine gV ?_;refine ⟨[],[0,1],⟨rfl,rfl⟩,?_⟩;conv=>whnf
     refine ⟨rfl,?_⟩;have hL:(pav xs++Aj (xs.length+1-(pav xs).length) (aa.agg (Aj 11 aa.undef))).length=(pav xs).length+1:=by simp
     have h:=RQ (pav xs) _ p.av i (by rw [hlen];exact hi2) hL (λ q hq=>by rw [Ag hq]) _ _ rfl rfl;exact zqca17
    .cases h
def putAt(p:Pend)(l:bh):Nat:=if idx (λ x=>decide (p.seq<x.seq)) l 0<0 then l.length else (idx (λ x=>decide (p.seq<x.seq)) l 0).toNat
def putP(l:bh)(p:Pend):bh:=l.take (putAt p l)++[p]++l.drop (putAt p l)
def takeP(l:bh)(a:Int):bh:=if ak a l<0 then l else l.eraseIdx (ak a l).toNat
def yF(p:Pend->Bool):∀ (l:bh) (i:Int),idx p l i= -1\/(i<=idx p l i/\idx p l i<i+l.length)
 | [],i=>.inl rfl
 | x::r,i=>by
  unfold idx;split
  .right;simp;omega
  .rcases yF p r (i+1) with h | h
   .exact .inl h
   .right;simp;omega
def put_ok(l:bh)(p:Pend)(hl:l.length<=1000000):aq 82 [.slice 11 (pav l) .no,p.av] [] (.ret (.slice 11 (pav (putP l p)) .no)) []:=by
 have a:(pav l).length=l.length:=by simp
 refine cT (E:=(Er [17] [])) (fn:=Tryz.f82) (g:=.pure _) λ_=>gV ?_;refine .pure _ [] (N7 _ _ l (λ x=>decide (p.seq<x.seq)) λ x _=>aGo x p) (gV ?_);have fin:∀ (i:Nat),i=putAt p l->i<=l.length:=λ i c=>by
  subst c;unfold putAt;rcases yF (λ x=>decide (p.seq<x.seq)) l 0 with h | h
  .rw [if_pos o_];exact Bd _
  .rw [if_neg o_];omega
 refine ⟨λ h=>?_,λ h=>?_⟩
 .have b:putAt p l=l.length:=if_pos (of_decide_eq_true h);refine gV ?_;refine .pure _ _ (EQ l hl) (gV ?_);rw [a];refine .sole rfl (.eff [] [1,2] _ _ rfl (G4 l p l.length (Bd _) hl) (gV ?_));rw [<-b];rfl
 .have b:idx (λ x=>decide (p.seq<x.seq)) l 0=((putAt p l:Nat):Int):=by have:=of_decide_eq_false h;unfold putAt;rw [if_neg this];omega
  rw [b];refine gV ?_;refine .pure _ _ (EQ l hl) (gV ?_);refine .sole rfl (.eff [] [1,2] _ _ rfl (G4 l p (putAt p l) (fin _ rfl) hl) (gV ?_));rfl
def take_ok(l:bh)(a:Int)(hl:l.length<=1000000):aq 47 [.slice 11 (pav l) .no,.int .i64 a] [] (.ret (.tup [.slice 11 (pav (takeP l a)) .no,.bool (!decide (ak a l<0))])) []:=by
 refine c_ Tryz.f47 λ_=>gV ?_;refine .pure _ _ (EQ l hl) (gV ?_);refine .pure _ [] (find_ok l a) (gV ?_);refine ⟨λ h=>?_,λ h=>?_⟩
 .refine gV ?_;have c:=of_decide_eq_true h;unfold takeP;rw [if_pos c,h];rfl
 .have c:=of_decide_eq_false h;have j:ak a l<l.length:=by
   rcases yF (λ x=>x.id==a) l 0 with h | h
   .unfold ak at c;omega
   .unfold ak;omega
  have e:ak a l=(((ak a l).toNat:Nat):Int):=o_;have i:takeP l a=l.eraseIdx (ak a l).toNat:=if_neg c;rw [h,i]
  obtain ⟨k,d⟩:∃ k:Nat,ak a l=(k:Int):=⟨_,e⟩
  have b:k<l.length:=o_;rw [d,Bv];refine gV ?_;refine .inl ⟨DU o_ o_,gV ?_⟩;refine .eff [] [0] _ _ rfl (Z2 l k b hl) (gV ?_);have:Hy (l.length-1) (Hj 0 (pav (l.eraseIdx k)++[(aB9 0 0).av]))=pav (l.eraseIdx k):=by rw [Cq,Db (by simp [Kh,b]),Ch (by simp [Kh,b])]
  have h3:Res.ret (.tup [.slice 11 (Hy (l.length-1) (Hj 0 (pav (l.eraseIdx k)++[(aB9 0 0).av]))) .no,.bool true])=Res.ret (.tup [.slice 11 (pav (l.eraseIdx k)) .no,.bool (!false)]):=by rw [this];rfl
  exact h3
def JM(l:bh)(i:Nat):Bool:=match l[i]?,l[i-1]? with
 | some c,some p=>!((decide (0<i)&& !decide (p.seq<c.seq))||(ak c.id l !=(i:Int)))
 | _,_=>true
def iK(l:bh):Nat->Nat->Bool
 | 0,_=>true
 | n+1,i=>JM l i&&iK l n (i+1)
def checkP(l:bh):Bool:=iK l l.length 0
def TD(l:bh)(hl:l.length<=1000000)(r:Bool):∀ (n i:Nat),i+n=l.length->iK l n i=r->
  To E Tryz.f101 (.pure (.ret (.bool r))) (.head (stk Tryz.f101 0) [(0,.slice 11 (pav l) .no),(5,.slice 11 (pav l) .no),(6,.int .i64 ((pav l).length:Nat)),(7,.int .i64 i)] []):=by
 have k:(pav l).length=l.length:=by simp
 intro n;induction n with
 | zero=>
  intro i q b;refine gV ?_;refine ⟨λ h=>?_,λ h=>?_⟩
  .exact absurd (of_decide_eq_true h) o_
  .refine gV ?_;rw [<-b];rfl
 | succ n m=>
  intro i q b;have d:i<l.length:=o_;have b:(JM l i&&iK l n (i+1))=r:=b
  have back:iK l n (i+1)=r->inR .i64 ((i:Int)+1)/\To E Tryz.f101 (.pure (.ret (.bool r))) (.head (stk Tryz.f101 0) [(0,.slice 11 (pav l) .no),(5,.slice 11 (pav l) .no),(6,.int .i64 ((pav l).length:Nat)),(7,.int .i64 ((i:Int)+1))] []):=λ h=>
   ⟨DU o_ o_,by have:=m (i+1) o_ h;push_cast at this;exact this⟩
  refine gV ?_;refine ⟨λ h=>?_,λ h=>?_⟩
  .refine gV ?_;refine ⟨i,rfl,gV ?_⟩;refine ⟨_,JH d,gV ?_⟩;refine ⟨λ h1=>?_,λ h1=>?_⟩
   .have g:0<i:=by have:=of_decide_eq_true h1;omega
    have a:i-1<l.length:=o_;have c:JM l i= !((true&& !decide (l[i-1].seq<l[i].seq))||(ak l[i].id l !=(i:Int))):=by unfold JM;rw [Aa d,Aa a,decide_eq_true g]
    refine gV ?_;refine .inl ⟨DU o_ o_,gV ?_⟩;refine ⟨i-1,by omega,gV ?_⟩;refine ⟨_,JH a,gV ?_⟩;refine .pure _ [] (H9 _ _) (gV ?_);refine ⟨λ e=>?_,λ e=>?_⟩
    .refine gV ?_;refine ⟨λ_=>?_,λ h3=>(by cases h3)⟩;refine gV ?_;rw [c,e] at b;rw [<-b];rfl
    .refine gV ?_;refine .pure _ [] (find_ok _ _) (gV ?_);refine ⟨λ h3=>?_,λ h3=>?_⟩
     .refine gV ?_;rw [c,e,h3] at b;rw [<-b];rfl
     .refine gV ?_;rw [c,e,h3] at b;obtain ⟨j,p⟩:=back b;refine .inl ⟨j,?_⟩;exact zW
   .have o:i=0:=by have:=of_decide_eq_false h1;omega
    have c:JM l i= !((false&&false)||(ak l[i].id l !=(i:Int))):=by unfold JM;have a:i-1<l.length:=o_;rw [Aa d,Aa a];subst o;simp
    refine gV ?_;refine ⟨λ e=>(by cases e),λ_=>gV ?_⟩;refine .pure _ [] (find_ok _ _) (gV ?_);refine ⟨λ h3=>?_,λ h3=>?_⟩
    .refine gV ?_;rw [c,h3] at b;rw [<-b];rfl
    .refine gV ?_;rw [c,h3] at b;obtain ⟨j,p⟩:=back b;refine .inl ⟨j,?_⟩;exact zW
  .exact absurd (of_decide_eq_false h) o_
def check_ok(l:bh)(hl:l.length<=1000000):aq 101 [.slice 11 (pav l) .no] [] (.ret (.bool (checkP l))) []:=by refine c_ Tryz.f101 λ_=>?_;have a:=TD l hl _ l.length 0 o_ rfl;exact zW
def DV(p:Pend->Bool):∀ (l:bh) (i:Int) (k:Nat) (h:k<l.length),p l[k]=true->(∀ (j:Nat) (a:j<l.length),j<k->p l[j]=false)->idx p l i=i+k
 | [],i,k,h,_,_=>by simp at h
 | x::r,i,0,h,h1,_=>by
  have:p x=true:=h1;simp [idx,this]
 | x::r,i,k+1,h,h1,h2=>by have c:p x=false:=h2 0 s_ o_;have:=DV p r (i+1) k (by simpa using h) (by simpa using h1) (λ j a b=>by have:=h2 (j+1) (by simpa using a) o_;simpa using this);unfold idx;rw [if_neg (by rw [c];simp),this];push_cast;omega
def aCV{p:Pend->Bool}:∀ {l:bh} {i:Int} {k:Nat} (h:k<l.length),p l[k]=true->idx p l i<=i+k
 | [],i,k,h,_=>by simp at h
 | x::r,i,0,h,h1=>by
  have:p x=true:=h1;simp [idx,this]
 | x::r,i,k+1,h,h1=>by
  unfold idx;split
  .omega
  .have:=aCV (l:=r) (i:=i+1) (k:=k) (by simpa using h) (by simpa using h1);push_cast at this⊢;omega
structure Good(l:bh):Prop where
 seq:l.Pairwise λ a b=>a.seq<b.seq
 id:l.Pairwise λ a b=>a.id≠b.id
def Good.sub{l m:bh}(h:Good l)(hs:m.Sublist l):Good m:=⟨h.seq.sublist hs,h.id.sublist hs⟩
def tX{l:bh}:∀ {n i:Nat},iK l n i=true↔ ∀ j,i<=j->j<i+n->JM l j=true
 | 0,i=>by simp [iK];omega
 | n+1,i=>by
  simp only [iK,Ad,tX (n:=n) (i:=i+1)];constructor
  .rintro ⟨h1,a⟩ j c b;by_cases h:j=i
   .subst h;exact h1
   .exact a j o_ o_
  .intro h;exact ⟨h i (Bd _) o_,λ j h1 a=>h j o_ o_⟩
def C7{l:bh}{j:Nat}(c:j<l.length):JM l j=true↔(∀ (h:0<j),(l[j-1]' o_).seq<l[j].seq)/\ak l[j].id l=(j:Int):=by
 have b:j-1<l.length:=o_;unfold JM;rw [Aa c,Aa b];simp only [Bool.not_or,Ad,Cw,bne_eq_false_iff_eq,Bool.and_eq_false_iff,decide_eq_false_iff_not];constructor
 .rintro ⟨h1,a⟩;refine ⟨λ h=>?_,a⟩;rcases h1 with h1 | h1
  .exact absurd h h1
  .simpa using h1
 .rintro ⟨h1,a⟩;refine ⟨?_,a⟩;by_cases h:0<j
  .right;simpa using h1 h
  .exact .inl h
def check_good{l:bh}:checkP l=true↔Good l:=by
 unfold checkP;rw [tX];constructor
 .intro h;have hs:∀ (j i:Nat) (b:j<l.length) (c:i<j),(l[i]' o_).seq<l[j].seq:=by
   intro j;induction j with
   | zero=>intro i _ c;omega
   | succ j f=>
    intro i b c;have h1:=((C7 b).1 (h (j+1) o_ o_)).1 o_;have h1:(l[j]' o_).seq<(l[j+1]).seq:=h1;by_cases a:i=j
    .subst a;exact h1
    .exact Int.lt_trans (f i o_ o_) h1
  refine ⟨Ga.2 λ i j c b a=>hs j i b a,Ga.2 λ i j c b a e=>?_⟩;have d:=((C7 b).1 (h j o_ o_)).2;have:=aCV (p:=λ x=>x.id==l[j].id) (l:=l) (i:=0) (k:=i) c (by simpa using e);unfold ak at d;omega
 .intro h j _ b;have b:j<l.length:=o_;refine (C7 b).2 ⟨λ g=>Ga.1 h.seq _ _ o_ b o_,?_⟩;have:=DV (λ x=>x.id==l[j].id) l 0 j b s_ λ i c a=>by have:=Ga.1 h.id i j c b a;simpa using this
  unfold ak;omega
def insP(p:Pend):bh->bh
 | []=>[p]
 | x::r=>if p.seq<x.seq then p::x::r else x::insP p r
def Q4(p x:Pend)(r:bh):putAt p (x::r)=if p.seq<x.seq then 0 else putAt p r+1:=by
 by_cases h:p.seq<x.seq
 .rw [if_pos h];have:idx (λ x=>decide (p.seq<x.seq)) (x::r) 0=0:=by unfold idx;rw [if_pos (by simpa using h)]
  unfold putAt;rw [this];rfl
 .rw [if_neg h];have e:idx (λ x=>decide (p.seq<x.seq)) (x::r) 0=idx (λ x=>decide (p.seq<x.seq)) r 1:=by
   conv=>lhs;unfold idx
   rw [if_neg (by simpa using h)];rfl
  have c:∀ (q:Pend->Bool) (l:bh) (i:Int),(idx q l i= -1/\idx q l (i+1)= -1)\/(i<=idx q l i/\idx q l (i+1)=idx q l i+1):=by
   intro q l;induction l with
   | nil=>intro i;exact .inl ⟨rfl,rfl⟩
   | cons y t d=>
    intro i;unfold idx;by_cases a:q y=true
    .rw [if_pos a,if_pos a];right;omega
    .rw [if_neg a,if_neg a];rcases d (i+1) with h | h
     .exact .inl h
     .right;omega
  rcases c (λ x=>decide (p.seq<x.seq)) r 0 with ⟨h1,b⟩ | ⟨h1,b⟩
  .unfold putAt;rw [e,show (1:Int)=0+1 from rfl,b,h1];simp
  .unfold putAt;rw [e,show (1:Int)=0+1 from rfl,b,if_neg o_,if_neg o_];omega
def putP_ins(p:Pend):∀ (l:bh),putP l p=insP p l
 | []=>rfl
 | x::r=>by
  have a:=putP_ins p r;unfold putP at a⊢;rw [Q4];unfold insP;by_cases h:p.seq<x.seq
  .rw [if_pos h,if_pos h];rfl
  .rw [if_neg h,if_neg h,<-a];rfl
def shift(n k q:Nat):Nat:=if k<=q then q-k else q+n-k
end Go.Proofs.YtaeegbkbahgjhaaGreatDoor.Q2
namespace Go.Proofs.YtaeegbkbahgjhaaGreatDoor
open Go Go.AW Go.Proofs
structure Pn where
 g:Gan
 (seq at':Int)
 deriving DecidableEq
abbrev _root_.a7:=List Pn
def Pn.cs(x:Pn):ay:=[ii x.g.id,ii x.g.ten,ii x.g.pods,ii x.g.need.a,ii x.g.need.b,ii x.g.need.c,ii x.g.run,ii x.g.lev,ii x.g.pref,ii x.seq,ii x.at']
def Pn.av(x:Pn):aa:=.agg x.cs
abbrev pnv(l:a7):ay:=l.map Pn.av
def JF{l:a7}{i:Nat}(h:i<l.length):(pnv l)[i]? =some l[i].av:=by simp [pnv,h]
abbrev fv(l:az):ay:=l.map λ x:Nat=>.int .u64 (x:Int)
structure Sta where
 c:Con
 (now nxt:Int)
 pend:a7
 run:a6
 hist:az
 deriving DecidableEq
def Sta.cs(s:Sta):ay:=[.slice 11 (nav s.c.ns) .no,.slice 6 (hav s.c.hs) .no,ii s.c.half,ii s.c.age,ii s.now,ii s.nxt,.slice 11 (pnv s.pend) .no,.slice 14 (rav s.run) .no,.slice 1 (fv s.hist) .no]
def Sta.av(s:Sta):aa:=.agg s.cs
def fZ(c:Con):Bool:=decide (c.ns=[])&&(decide (c.hs=[])&&(decide (c.half=0)&&decide (c.age=0)))
def KX(g:Gan):Bool:=decide (1<=g.id/\g.id<=1073741824/\1<=g.pods/\g.pods<=16)&&(bL g.need&&decide (1<=g.run/\g.run<=1048576/\0<=g.lev/\g.lev<=3/\0<=g.pref/\g.pref<=g.lev))
def eU(c:Con)(g:Gan):Int:=if KX g=true then (if bD c.ns g.ten=true then 0 else 3) else 1
def Rn.pn(r:Rn):Pn:=⟨r.g,r.seq,r.at'⟩
def pnB(s:Sta)(p:Pn):Bool:=decide (eU s.c p.g=0)&&(!(cM s.c [] p.g).isNone&&decide ((0<=p.seq/\p.seq<s.nxt)/\0<=p.at'/\p.at'<=s.now))
def rnB(s:Sta)(r:Rn):Bool:=decide ((r.at'<=r.st/\r.st<=s.now)/\s.now<dY r)&&(qO s.c (kI s.c (s.run.filter λ x=>!(x.g.id==r.g.id))) r.g r.hs&&decide ((bK s.c.hs (r.hs.headD 0)).f=r.fl))
def qA(c:Con)(n:Int):V3:=if bD c.ns n=true then fQ (lG c.ns n (qH c.ns)) (cY c.ns n).b else lG c.ns n (qH c.ns)
def MR(s:Sta):Bool:=(Di s.c.ns.length).all λ i:Nat=>cS (atV (ofL s.c s.run) (i:Int)) (qA s.c (i:Int))
def Pn.q(x:Pn):Q2.Pend:=⟨x.g.id,x.g.ten,x.g.pods,x.g.need.a,x.g.need.b,x.g.need.c,x.g.run,x.g.lev,x.g.pref,x.seq,x.at'⟩
def GG(l:a7):Q2.pav (l.map Pn.q)=pnv l:=by simp [Q2.pav,pnv,Pn.q,Q2.Pend.av,Q2.Pend.cs,Pn.av,Pn.cs]
def aBr(l:a7):Bool:=Q2.checkP (l.map Pn.q)
def ids(s:Sta):aw:=s.pend.map (λ p=>p.g.id)++s.run.map λ r=>r.g.id
def seqs(s:Sta):aw:=s.pend.map (λ p=>p.seq)++s.run.map λ r=>r.seq
def OC(s:Sta):Bool:=(fZ s.c||decide (bU s.c=0))&&decide ((0<=s.now/\s.now<=1099511627776)/\(1<=s.nxt/\s.nxt<=1099511627776)/\s.hist.length=s.c.ns.length/\s.pend.length+s.run.length<=32)
def mM(s:Sta):Bool:=OC s&&(aBr s.pend&&((s.pend.all (pnB s)&&s.run.all λ r=>pnB s r.pn&&rnB s r)&&(decide (ids s).Nodup&&(decide (seqs s).Nodup&&MR s))))
def oJ{c:Con}{g:Gan}:eU c g=0↔KX g=true/\bD c.ns g.ten=true:=by unfold eU;cases KX g<;>cases bD c.ns g.ten<;>decide
def vS(p:V3->Int)(u:Int)(x:Rn):Int:=p x.g.need*((x.hs.count u:Nat):Int)
def yA{p:V3->Int}(hp:Prj p)(need:V3)(a:0<=p need/\p need<=1048576)(j:Nat):∀ (hs:aw) (xs:a8) (v:Int),j<xs.length->v<=dE->p ((xs[j]?).getD V3.zero)=max v (-dE)->p (((hs.foldl (tQ need) xs)[j]?).getD V3.zero)=max (v-p need*((hs.count (j:Int):Nat):Int)) (-dE)
 | [],xs,v,_,_,h=>by simpa using h
 | u::r,xs,v,hj,hv,h=>by
  rw [Bc];have e:=ZH need xs u j;by_cases b:u=(j:Int)
  .subst b;rw [if_pos ⟨by omega,by omega,by omega⟩] at e;rw [Ii];have hm:p need*(((r.count (j:Int)+1:Nat):Nat):Int)=p need*((r.count (j:Int):Nat):Int)+p need:=by rw [Int.natCast_add,Int.mul_add];simp
   rw [hm];have c:p (((tQ need xs (j:Int))[j]?).getD V3.zero)=max (v-p need) (-dE):=by
    rw [e,hp.sub,h];unfold X3 hC dE at *
    omega
   rw [yA hp need a j r _ (v-p need) (by rw [sW];exact hj) o_ c];omega
  .rw [if_neg o_] at e;rw [Ms (by simpa using b)];exact yA hp need a j r _ v (by rw [sW];exact hj) hv (by rw [e];exact h)
def N2{p:V3->Int}(hp:Prj p)(j:Nat):∀ (l:a6) (xs:a8) (v:Int),(∀ x∈l,0<=p x.g.need/\p x.g.need<=1048576)->j<xs.length->v<=dE->p ((xs[j]?).getD V3.zero)=max v (-dE)->p (((l.foldl AD xs)[j]?).getD V3.zero)=max (v-cI (l.map (vS p (j:Int)))) (-dE)
 | [],xs,v,_,_,_,h=>by
  show _=max (v-0) _;rw [Int.sub_zero];exact h
 | x::r,xs,v,hn,hj,hv,h=>by have a:=hn x (Ao ..);have e:=yA hp x.g.need a j x.hs xs v hj hv h;have hz:0<=p x.g.need*((x.hs.count (j:Int):Nat):Int):=Lb a.1 o_;rw [Bc,Bl];have c:=N2 hp j r (AD xs x) (v-p x.g.need*((x.hs.count (j:Int):Nat):Int)) (λ y b=>hn y (Ay _ b)) (by rw [yJ];exact hj) o_ e;rw [c];show _=max (v-(vS p (j:Int) x+cI _)) _;unfold vS;congr 1;omega
structure RnOK(s:Sta)(r:Rn):Prop where
 gang:eU s.c r.g=0
 st:0<=r.st/\r.st<=s.now
 chk:qO s.c (kI s.c (s.run.filter λ x=>!(x.g.id==r.g.id))) r.g r.hs=true
def XB{s:Sta}(h:mM s=true){r:Rn}(e:r∈s.run):RnOK s r:=by unfold mM at h;simp only [Ad,Cr] at h;have h1:=h.2.2.1.2 r e;unfold pnB rnB at h1;simp only [Ad,decide_eq_true_eq] at h1;obtain ⟨⟨a,_,b⟩,c,d,_⟩:=h1;exact ⟨a,⟨Fl b.2.1 c.1.1,c.1.2⟩,d⟩
def KS{c:Con}{free:a8}{g:Gan}{hs:aw}(h:qO c free g hs=true):(hs.length:Int)=g.pods/\∀ u∈hs,0<=u/\u<(free.length:Int)/\((hs.count u:Nat):Int)<=eP ((free[u.toNat]?).getD V3.zero) g.need:=by
 unfold qO at h;by_cases hl:(hs.length:Int)=g.pods
 .rw [if_pos hl,Fq] at h;obtain ⟨G,_,b⟩:=h;refine ⟨hl,λ u f=>?_⟩;unfold chkG D4 at b;simp only [Ad,Cr] at b;have a:=b.2 u f;unfold aDo at a;by_cases h1:u<0
  .rw [if_pos (decide_eq_true h1)] at a;cases a
  .rw [if_neg (by rw [decide_eq_false h1];decide)] at a;by_cases d:(free.length:Int)<=u
   .rw [if_pos (decide_eq_true d)] at a;cases a
   .rw [if_neg (by rw [decide_eq_false d];decide)] at a;have e:A5 u hs=((hs.count u:Nat):Int):=by unfold A5;rw [yS];omega
    rw [e] at a;simp at a;exact ⟨by omega,by omega,a⟩
 .rw [if_neg hl] at h;cases h
def wY(c:Con)(l:a6):(kI c l).length=c.hs.length:=by
 have key:∀ (l:a6) (xs:a8),(l.foldl AD xs).length=xs.length:=λ l=>by
  induction l with
  | nil=>intro xs;rfl
  | cons x r a=>intro xs;rw [Bc,a,yJ]
 unfold kI;rw [key];simp
def aLM(c:Con){j:Nat}(a:j<c.hs.length):(((Di c.hs.length).map λ i:Nat=>(bK c.hs (i:Int)).c)[j]?).getD V3.zero=(bK c.hs (j:Int)).c:=by rw [Bg,Dm a];rfl
def TG{c:Con}(h:bU c=0){j:Nat}(b:j<c.hs.length):bL (bK c.hs (j:Int)).c=true:=by
 unfold bU at h;split at h
 .split at h
  .split at h
   .rename_i a;rw [Cr] at a;have d:bK c.hs (j:Int)=c.hs[j]:=by unfold bK;rw [Bv,Aa b];rfl
    have:=a c.hs[j] (Bf b);unfold lT at this;split at this
    .cases this
    .rw [d];exact this
   .cases h
  .cases h
 .cases h
def WG{p:V3->Int}(hp:Prj p){c:Con}(a:∀ j:Nat,j<c.hs.length->0<=p (bK c.hs (j:Int)).c/\p (bK c.hs (j:Int)).c<=1048576){l:a6}(d:∀ x∈l,0<=p x.g.need/\p x.g.need<=1048576){j:Nat}(b:j<c.hs.length):p (((kI c l)[j]?).getD V3.zero)=max (p (bK c.hs (j:Int)).c-cI (l.map (vS p (j:Int)))) (-dE):=by have e:=a j b;unfold kI;exact N2 hp j l _ _ d (by simpa using b) (by unfold dE;omega) (by rw [aLM c b];unfold dE;omega)
def UD{f:Rn->Int}{r:Rn}:∀ {l:a6},r∈l->(l.map λ x=>x.g.id).Nodup->cI (l.map f)=cI ((l.filter λ x=>!(x.g.id==r.g.id)).map f)+f r
 | [],h,_=>by cases h
 | x::l,h,hd=>by
  rw [Bl,Cg] at hd;rw [Bl];show f x+cI (l.map f)=_;rcases Aw.1 h with rfl | h
  .rw [Fs s_];have e:l.filter (λ x=>!(x.g.id==r.g.id))=l:=by rw [Gs];intro y b;have:y.g.id≠r.g.id:=λ q=>hd.1 (by rw [<-q];exact Ca.2 ⟨y,b,rfl⟩);simpa using this
   rw [e];omega
  .have a:x.g.id≠r.g.id:=λ q=>hd.1 (by rw [q];exact Ca.2 ⟨r,h,rfl⟩);rw [Ft (by simpa using a),Bl];show _=(f x+cI _)+f r;rw [UD h hd.2];omega
def sM{free need:V3}{n:Int}(e:bL need=true)(h1:1<=n)(h:n<=eP free need):need.a*n<=free.a/\need.b*n<=free.b/\need.c*n<=free.c:=by
 have d:cS need free=true:=by
  cases f:cS need free with
  | true=>rfl
  | false=>
   unfold eP at h;rw [if_neg (by rw [f];decide)] at h;omega
 exact ((US e d _).1 h).2
set_option maxRecDepth 10000
def gE(n lo a:Int):Bool:=decide (lo<=n)&&decide (n<=a)
def gD{n lo a:Int}:gE n lo a=true↔lo<=n/\n<=a:=by unfold gE;simp
def iW(n lo a:Int):aq 111 [ii n,ii lo,ii a] [] (.ret (.bool (gE n lo a))) []:=by
 unfold gE;by_cases h1:lo<=n
 .rw [decide_eq_true h1,Cz];exact c_ Tryz.f111 λ_=>zW
 .rw [decide_eq_false h1,Gi];exact c_ Tryz.f111 λ_=>zW
def vY(n lo a:Int):aq 85 [ii n,ii lo,ii a] [] (.ret (.bool (gE n lo a))) []:=by
 unfold gE;by_cases h1:lo<=n
 .rw [decide_eq_true h1,Cz];exact c_ Tryz.f85 λ_=>zW
 .rw [decide_eq_false h1,Gi];exact c_ Tryz.f85 λ_=>zW
def Q3(v:V3)(b:Bool)(d:bL v=b):aq 116 [v.av] [] (.ret (.bool b)) []:=by
 unfold bL at d;refine c_ Tryz.f116 λ_=>?_
 repeat' first
  | (refine gW hE ?_;conv=>whnf)
  | exact d
  | refine aY ?_
  | refine aN ?_
  | refine Ac (λ h=>?_) (λ h=>?_)
  | refine aJ ?_
  | refine Ap _ (Ac rfl ?_)
  | refine Ac d_ ?_
 all_goals (refine congrArg (λ b=>Res.ret (aa.bool b)) ?_;rw [<-d];simp only [decide_eq_true_eq,decide_eq_false_iff_not] at *)
 .rw [decide_eq_false (p:=0<=v.a/\v.a<=1048576) o_];rfl
 .rw [decide_eq_false (p:=0<=v.a/\v.a<=1048576) o_];rfl
 .rw [decide_eq_false (p:=0<=v.b/\v.b<=1048576) o_,Es];rfl
 .rw [decide_eq_false (p:=0<=v.b/\v.b<=1048576) o_,Es];rfl
 .rw [decide_eq_false (p:=0<=v.c/\v.c<=1048576) o_,Es]
 .rw [decide_eq_false (p:=0<=v.c/\v.c<=1048576) o_,Es]
 .rw [decide_eq_true (p:=0<=v.a/\v.a<=1048576) o_,decide_eq_true (p:=0<=v.b/\v.b<=1048576) o_,decide_eq_true (p:=0<=v.c/\v.c<=1048576) o_];rfl
def eS(v:V3):aq 116 [v.av] [] (.ret (.bool (bL v))) []:=Q3 v _ rfl
def G5(x:Hos):Bool:=gE x.f 0 100&&(gE x.b 0 100&&(gE x.r 0 100&&bL x.c))
def aHq(x:Hos):aq 113 [x.av] [] (.ret (.bool (G5 x))) []:=by
 have h1:=iW x.f 0 100;have a:=iW x.b 0 100;have h3:=iW x.r 0 100;have d:=eS x.c;unfold G5;generalize gE x.f 0 100=b1 at h1;generalize gE x.b 0 100=b2 at a;generalize gE x.r 0 100=b3 at h3;generalize bL x.c=b4 at d;cases b1<;>cases b2<;>cases b3<;>cases b4
 all_goals
  exact c_ Tryz.f113 λ_=>zW
def aCY(x:Hos):G5 x=lT x:=by
 rw [Hw];unfold G5 lT;by_cases h:FS x
 .rw [if_pos h];unfold FS at h;simp only [Ad,gD];constructor
  .intro q;omega
  .intro q;cases q
 .rw [if_neg h];unfold FS at h;simp only [Ad,gD];constructor
  .intro q;exact q.2.2.2
  .intro q;exact ⟨by omega,by omega,by omega,q⟩
def YR(c:Con)(i:Nat)(t:i<1048576)(x:Nod)(get:(nav c.ns)[i]? =some x.av)(s:A8 i x):aq 112 [c.av,ii i] [] (.ret (.bool false)) []:=by
 have d:=iW x.p 0 ((i:Int)-1);have e:=iW x.w 1 1000;have hl:=iW x.w 1 1000;have q:=eS x.n;have j:=eS x.b;have k:=eS x.l;have m:=lF x.l x.n;unfold A8 at s;by_cases r:i=0
 .by_cases hp:x.p= -1
  .have o:gE x.w 1 1000=false:=by
    cases a:gE x.w 1 1000 with
    | false=>rfl
    | true=>have:=gD.1 a;omega
   rw [o] at e;subst r;refine c_ Tryz.f112 λ_=>?_
   repeat' first | (refine gN hE ?_;conv=>whnf) | refine ⟨i,rfl,?_⟩ | refine ⟨_,get,?_⟩ | refine .pure _ [] d ?_ | refine .pure _ [] e ?_ | refine .pure _ [] hl ?_ | refine .pure _ [] q ?_ | refine .pure _ [] j ?_ | refine .pure _ [] k ?_ | refine .pure _ [] m ?_ | exact rfl | refine zt ?_ | refine zu ?_ ?_ | intro h | fail
  .subst r;refine c_ Tryz.f112 λ_=>?_
   repeat' first | (refine gN hE ?_;conv=>whnf) | refine ⟨i,rfl,?_⟩ | refine ⟨_,get,?_⟩ | refine .pure _ [] d ?_ | refine .pure _ [] e ?_ | refine .pure _ [] hl ?_ | refine .pure _ [] q ?_ | refine .pure _ [] j ?_ | refine .pure _ [] k ?_ | refine .pure _ [] m ?_ | exact rfl | refine zt ?_ | refine zu ?_ ?_ | intro h | fail
   all_goals (exfalso;simp at *;omega)
 .cases a:gE x.p 0 ((i:Int)-1) with
  | false=>
   rw [a] at d;exact c_ Tryz.f112 λ_=>zW
  | true=>
   rw [a] at d;have:=gD.1 a;have o:gE x.w 1 1000=false:=by
    cases a:gE x.w 1 1000 with
    | false=>rfl
    | true=>have:=gD.1 a;omega
   rw [o] at e;refine c_ Tryz.f112 λ_=>?_
   repeat' first | (refine gN hE ?_;conv=>whnf) | refine ⟨i,rfl,?_⟩ | refine ⟨_,get,?_⟩ | refine .pure _ [] d ?_ | refine .pure _ [] e ?_ | refine .pure _ [] hl ?_ | refine .pure _ [] q ?_ | refine .pure _ [] j ?_ | refine .pure _ [] k ?_ | refine .pure _ [] m ?_ | exact rfl | refine zt ?_ | refine zu ?_ ?_ | intro h | fail
set_option maxHeartbeats 2000000 in
def Q5(c:Con)(i:Nat)(s:i<1048576)(x:Nod)(get:(nav c.ns)[i]? =some x.av)(q:¬ A8 i x)(a:bD c.ns (i:Int)=true):aq 112 [c.av,ii i] [] (.ret (.bool (bL x.n&&(bL x.b&&(bL x.l&&cS x.l x.n))))) []:=by
 have e:=iW x.p 0 ((i:Int)-1);have m:=iW x.w 1 1000;have hl:=jW c (i:Int);rw [a] at hl;have o:=eS x.n;have d:=eS x.b;have j:=eS x.l;have k:=lF x.l x.n;unfold A8 at q;rw [gD.2 (show 1<=x.w/\x.w<=1000 by omega)] at m;generalize bL x.n=q1 at o;generalize bL x.b=q2 at d;generalize bL x.l=q3 at j;generalize cS x.l x.n=q4 at k;by_cases r:i=0
 .have hp:x.p= -1:=o_;subst r;cases q1<;>cases q2<;>cases q3<;>cases q4
  all_goals
   refine c_ Tryz.f112 λ_=>?_
   repeat' first | (refine gN hE ?_;conv=>whnf) | refine ⟨i,rfl,?_⟩ | refine ⟨_,get,?_⟩ | refine .pure _ [] e ?_ | refine .pure _ [] m ?_ | refine .pure _ [] hl ?_ | refine .pure _ [] o ?_ | refine .pure _ [] d ?_ | refine .pure _ [] j ?_ | refine .pure _ [] k ?_ | exact rfl | refine zt ?_ | refine zu ?_ ?_ | intro h | fail
   all_goals (exfalso;simp at *;omega)
 .rw [gD.2 (show 0<=x.p/\x.p<=(i:Int)-1 by omega)] at e;cases q1<;>cases q2<;>cases q3<;>cases q4
  all_goals
   exact c_ Tryz.f112 λ_=>zW
def aBZ(c:Con)(i:Nat)(v:i<1048576)(x:Nod)(get:(nav c.ns)[i]? =some x.av)(t:¬ A8 i x)(d:bD c.ns (i:Int)=false)(r:Bool)(s:(zB x.n&&(zB x.b&&zB x.l))=r):aq 112 [c.av,ii i] [] (.ret (.bool r)) []:=by
 have e:=iW x.p 0 ((i:Int)-1);have j:=iW x.w 1 1000;have hl:=jW c (i:Int);rw [d] at hl;have q:=eS x.n;have k:=eS x.b;have m:=eS x.l;have o:=lF x.l x.n;unfold A8 at t;rw [gD.2 (show 1<=x.w/\x.w<=1000 by omega)] at j;have fin:(((x.p==x.p)&&((x.w==x.w)&&((x.n.a==0)&&((x.n.b==0)&&((x.n.c==0)&&((x.b.a==0)&&((x.b.b==0)&&((x.b.c==0)&&((x.l.a==0)&&((x.l.b==0)&&((x.l.c==0)&&true)))))))))))=r):=by rw [<-s];unfold zB;simp [Ih]
 by_cases u:i=0
 .have hp:x.p= -1:=o_;subst u;refine c_ Tryz.f112 λ_=>?_
  repeat' first | (refine gN hE ?_;conv=>whnf) | refine ⟨i,rfl,?_⟩ | refine ⟨_,get,?_⟩ | refine .pure _ [] e ?_ | refine .pure _ [] j ?_ | refine .pure _ [] hl ?_ | refine .pure _ [] q ?_ | refine .pure _ [] k ?_ | refine .pure _ [] m ?_ | refine .pure _ [] o ?_ | exact rfl | refine zt ?_ | refine zu ?_ ?_ | intro h | fail
  .exact absurd (show (x.p != -1)=true by assumption) (by rw [hp];decide)
  .exact congrArg (λ b=>Res.ret (aa.bool b)) fin
 .rw [gD.2 (show 0<=x.p/\x.p<=(i:Int)-1 by omega)] at e;refine c_ Tryz.f112 λ_=>?_
  repeat' first | (refine gN hE ?_;conv=>whnf) | refine ⟨i,rfl,?_⟩ | refine ⟨_,get,?_⟩ | refine .pure _ [] e ?_ | refine .pure _ [] j ?_ | refine .pure _ [] hl ?_ | refine .pure _ [] q ?_ | refine .pure _ [] k ?_ | refine .pure _ [] m ?_ | refine .pure _ [] o ?_ | exact rfl | refine zt ?_ | refine zu ?_ ?_ | intro h | fail
  exact congrArg (λ b=>Res.ret (aa.bool b)) fin
def aBY(c:Con)(i:Nat)(b:i<1048576)(x:Nod)(get:(nav c.ns)[i]? =some x.av):aq 112 [c.av,ii i] [] (.ret (.bool (oC (bD c.ns (i:Int)) i x))) []:=by
 unfold oC;by_cases a:A8 i x
 .rw [if_pos a];exact YR c i b x get a
 .rw [if_neg a];cases hl:bD c.ns (i:Int) with
  | false=>rw [if_neg d_];exact aBZ c i b x get a hl _ rfl
  | true=>rw [if_pos rfl];exact Q5 c i b x get a hl
noncomputable abbrev WR:Func:=Tryz.f76
def DD(ns:bc):Nat->bc->Bool
 | _,[]=>true
 | i,x::r=>oC (bD ns (i:Int)) i x&&DD ns (i+1) r
def CZ(c:Con)(j:c.sm)(r:Int):∀ (m i:Nat) (b:Bool),i+m=c.hs.length->(if (b&&(c.hs.drop i).all lT)=true then (0:Int) else 2)=r->
  To E WR (.pure (.ret (ii r))) (.head (stk WR 1) [(1,.ref 0 0),(3,.bool b),(5,ii i)] [.cells 30 c.cs]):=by
 have f:(hav c.hs).length=c.hs.length:=by simp
 have h1:=j.hs;intro m;induction m with
 | zero=>
  intro i b g a;rw [Ah o_] at a;cases b with
  | false=>
   have a:2=r:=a;subst a;refine gV ?_;exact zW
  | true=>
   have a:0=r:=a;subst a;refine gV ?_;exact zW
 | succ m h=>
  intro i b g a;cases b with
  | false=>
   have a:2=r:=a;subst a;refine gV ?_;exact zW
  | true=>
   have e:i<c.hs.length:=o_;rw [Ae e,Kb,<-aCY] at a;have get:=wU e;generalize c.hs[i]=x at a get;have d:=aHq x;have next:=h (i+1) (G5 x) o_ a
   generalize G5 x=q at d next
   refine gV ?_;exact zW
def Q8(c:Con)(f:c.sm)(r:Int):∀ (m i:Nat) (b:Bool),i+m=c.ns.length->(if ((b&&DD c.ns i (c.ns.drop i))&&c.hs.all lT)=true then (0:Int) else 2)=r->
  To E WR (.pure (.ret (ii r))) (.head (stk WR 0) [(1,.ref 0 0),(3,.bool b),(4,ii i)] [.cells 30 c.cs]):=by
 have g:(nav c.ns).length=c.ns.length:=by simp
 have h1:=f.ns;intro m;induction m with
 | zero=>
  intro i b h a;rw [Ah o_] at a;have next:=CZ c f r c.hs.length 0 b o_ (by rw [<-a];show _=if ((b&&true)&&_)=true then (0:Int) else 2;rw [Kc];rfl)
  cases b with
  | false=>
   refine gV ?_;exact zW
  | true=>
   refine gV ?_;exact zW
 | succ m j=>
  intro i b h a;cases b with
  | false=>
   have next:=CZ c f r c.hs.length 0 false o_ (by rw [<-a];rfl)
   refine gV ?_;exact zW
  | true=>
   have e:i<c.ns.length:=o_;rw [Ae e] at a;have get:=kX e;generalize c.ns[i]=x at a get;have d:=aBY c i o_ x get;have next:=j (i+1) (oC (bD c.ns (i:Int)) i x) o_ a
   generalize oC (bD c.ns (i:Int)) i x=q at d next
   refine gV ?_;exact zW
def NH(ns:bc):∀ (l:bc) (i:Nat),DD ns i l=kM ns i l
 | [],_=>rfl
 | x::r,i=>by unfold DD kM;rw [NH ns r (i+1),aKa];cases oC (bD ns (i:Int)) i x<;>rfl
def X8(c:Con):Bool:=gE c.ns.length 1 12&&(gE c.hs.length 1 24&&(gE c.half 1 1048576&&gE c.age 0 1048576))
def L5(c:Con):X8 c=true↔AV c:=by unfold X8 AV;simp only [Ad,gD];omega
def aAe(c:Con):(if ((X8 c&&DD c.ns 0 (c.ns.drop 0))&&c.hs.all lT)=true then (0:Int) else 2)=bU c:=by
 unfold bU;rw [Cq,NH];cases hs:X8 c with
 | false=>
  rw [if_neg (c:=AV c) (λ q=>by rw [(L5 c).2 q] at hs;cases hs)];rfl
 | true=>
  rw [if_pos (c:=AV c) ((L5 c).1 hs)];cases kM c.ns 0 c.ns<;>cases c.hs.all lT<;>rfl
set_option maxHeartbeats 2000000 in
def sO(c:Con)(i:c.sm):aq 76 [c.av] [] (.ret (ii (bU c))) []:=by
 have a:(nav c.ns).length=c.ns.length:=by simp
 have b:(hav c.hs).length=c.hs.length:=by simp
 have h:=Q8 c i (bU c) c.ns.length 0 (X8 c) o_ (aAe c);have k:=iW ((nav c.ns).length:Nat) 1 12;have d:=iW ((hav c.hs).length:Nat) 1 24;have j:=iW c.half 1 1048576;have e:=iW c.age 0 1048576;unfold X8 at h;rw [<-a,<-b] at h;generalize gE ((nav c.ns).length:Nat) 1 12=q1 at k h;generalize gE ((hav c.hs).length:Nat) 1 24=q2 at d h;generalize gE c.half 1 1048576=q3 at j h;generalize gE c.age 0 1048576=q4 at e h;generalize bU c=r at h;cases q1<;>cases q2<;>cases q3<;>cases q4
 all_goals
  exact c_ Tryz.f76 λ_=>zW
def aLP(g:Gan):Bool:=gE g.id 1 1073741824&&(gE g.pods 1 16&&(bL g.need&&(gE g.run 1 1048576&&(gE g.lev 0 3&&gE g.pref 0 g.lev))))
def aIM(g:Gan):aLP g=KX g:=by
 rw [Hw];unfold aLP KX;simp only [Ad,gD,decide_eq_true_eq];constructor
 .rintro ⟨a,b,c,d,e,f⟩;exact ⟨⟨a.1,a.2,b.1,b.2⟩,c,d.1,d.2,e.1,e.2,f.1,f.2⟩
 .rintro ⟨⟨a,b,c,d⟩,v,e,f,h,i,j,k⟩;exact ⟨⟨a,b⟩,⟨c,d⟩,v,⟨e,f⟩,⟨h,i⟩,j,k⟩
def L6(c:Con)(g:Gan):aq 78 [c.av,g.av] [] (.ret (ii (eU c g))) []:=by
 have j:=vY g.id 1 1073741824;have b:=vY g.pods 1 16;have i:=eS g.need;have d:=vY g.run 1 1048576;have a:=vY g.lev 0 3;have e:=vY g.pref 0 g.lev;have h:=jW c g.ten;unfold eU;rw [<-aIM];unfold aLP;generalize gE g.id 1 1073741824=q1 at j;generalize gE g.pods 1 16=q2 at b;generalize bL g.need=q3 at i;generalize gE g.run 1 1048576=q4 at d;generalize gE g.lev 0 3=q5 at a;generalize gE g.pref 0 g.lev=q6 at e;generalize bD c.ns g.ten=q7 at h;cases q1 with
 | false=>
  exact zqca12
 | true=>
  cases q2 with
  | false=>
   exact zqca12
  | true=>
   cases q3 with
   | false=>
    exact zqca12
   | true=>
    cases q4 with
    | false=>
     exact zqca12
    | true=>
     cases q5 with
     | false=>
      exact zqca12
     | true=>
      cases q6 with
      | false=>
       exact zqca12
      | true=>
       cases q7 with
       | false=>
        exact zqca12
       | true=>
        exact zqca12
def SE(c:Con):Bool:=C8.eqL Nod.eqb c.ns []&&(C8.eqL Hos.eqb c.hs []&&(c.half==0&&c.age==0))
def ZT(c:Con):SE c=fZ c:=by obtain ⟨ns,hs,b,a⟩:=c;unfold SE fZ;cases ns<;>cases hs<;>simp [C8.eqL]<;>rfl
def aEh:Con:=⟨[],[],0,0⟩
def aBh(c:Con):aq 20 [c.av,aEh.av] [] (.ret (.bool (fZ c))) []:=by
 have h1:=C8.eqN_ok c.ns [];have b:=C8.eqH_ok c.hs [];rw [<-ZT];unfold SE;generalize C8.eqL Nod.eqb c.ns []=q1 at h1;generalize C8.eqL Hos.eqb c.hs []=q2 at b
 obtain ⟨R,a⟩:∃ R:Bool,R=(q1&&(q2&&(c.half==0&&c.age==0))):=⟨_,rfl⟩
 rw [<-a];cases q1 with
 | false=>
  exact zqca40
 | true=>
  cases q2 with
  | false=>
   exact zqca40
  | true=>
   have a:R=(c.half==0&&c.age==0):=a;refine c_ Tryz.f20 λ_=>?_
   repeat' first | (refine gN hE ?_;conv=>whnf) | refine .pure _ [] h1 ?_ | refine .pure _ [] b ?_ | exact rfl | refine zt ?_ | refine zu ?_ ?_ | intro h | fail
   all_goals (rw [a];simp_all [aEh])
def aDL(c:Con):aq 100 [c.av] [] (.ret (.bool (fZ c))) []:=by have h:=aBh c;generalize fZ c=q at h;exact c_ Tryz.f100 λ_=>zW
def J3{α:Type}(p:α->Bool):List α->Int->Int
 | [],_=> -1
 | x::r,i=>if p x=true then i else J3 p r (i+1)
def DX{α:Type}(p:α->Bool):∀ (l:List α) (i:Int),0<=i->decide (0<=J3 p l i)=l.any p
 | [],i,_=>rfl
 | x::r,i,h=>by
  unfold J3;rw [Hh];cases hp:p x with
  | true=>rw [if_pos rfl,decide_eq_true h];rfl
  | false=>rw [if_neg d_,DX p r (i+1) o_];rfl
def RV(f:FuncId)(cap:ay)(xs:aw)(p:Int->Bool)(j:∀ x∈xs,aA Tryz.prog f [ii x,.ptr cap] [] (.ret (.bool (p x))) [])(hl:((iv xs).length:Int)<=9223372036854775807)(r:Int):
  ∀ (n i:Nat),i+n=xs.length->J3 p (xs.drop i) i=r->
  To E Tryz.f230 (.pure (.ret (.int .i64 r))) (.head (stk Tryz.f230 0) [(0,.slice 1 (iv xs) .no),(1,.func (.func f) [] [.ptr cap]),(7,.int .i64 ((iv xs).length:Nat)),(8,.int .i64 i)] []):=by
  have e:(iv xs).length=xs.length:=by simp
  intro n;induction n with
  | zero=>
   exact zqca32
  | succ n k=>
   intro i g a;have b:i<xs.length:=o_;refine gV ?_;refine aT λ h=>gV ?_;refine ⟨i,rfl,gV ?_⟩;refine ⟨_,gR b,?_⟩;exact zqca5
def RX(f:FuncId)(cap:ay)(xs:List aw)(p:aw->Bool)(j:∀ x∈xs,aA Tryz.prog f [.slice 1 (iv x) .no,.ptr cap] [] (.ret (.bool (p x))) [])(hl:((gav xs).length:Int)<=9223372036854775807)(r:Int):
  ∀ (n i:Nat),i+n=xs.length->J3 p (xs.drop i) i=r->
  To E Tryz.f258 (.pure (.ret (.int .i64 r))) (.head (stk Tryz.f258 0) [(0,.slice 1 (gav xs) .no),(1,.func (.func f) [] [.ptr cap]),(7,.int .i64 ((gav xs).length:Nat)),(8,.int .i64 i)] []):=by
  have e:(gav xs).length=xs.length:=by simp
  intro n;induction n with
  | zero=>
   exact zqca32
  | succ n k=>
   intro i g a;have b:i<xs.length:=o_;refine gV ?_;refine aT λ h=>gV ?_;refine ⟨i,rfl,gV ?_⟩;refine ⟨_,V7 b,?_⟩;exact zqca5
def aEb(f:FuncId)(cap:ay)(xs:aw)(p:Int->Bool)(a:∀ x∈xs,aA Tryz.prog f [ii x,.ptr cap] [] (.ret (.bool (p x))) []):
  aq 237 [.slice 1 (iv xs) .no,.func (.func f) [] [.ptr cap]] [] (.ret (.bool (xs.any p))) []:=by
 have c:aq 230 [.slice 1 (iv xs) .no,.func (.func f) [] [.ptr cap]] [] (.ret (.int .i64 (J3 p xs 0))) []:=by refine c_ Tryz.f230 λ b=>gV ?_;refine To.head [0,1,7,8] ?_;exact RV f cap xs p a b.1 _ xs.length 0 o_ s_
 rw [<-DX p xs 0 (De _)];exact c_ Tryz.f237 λ_=>zW
def aEc(f:FuncId)(cap:ay)(xs:List aw)(p:aw->Bool)(a:∀ x∈xs,aA Tryz.prog f [.slice 1 (iv x) .no,.ptr cap] [] (.ret (.bool (p x))) []):
  aq 235 [.slice 1 (gav xs) .no,.func (.func f) [] [.ptr cap]] [] (.ret (.bool (xs.any p))) []:=by
 have c:aq 258 [.slice 1 (gav xs) .no,.func (.func f) [] [.ptr cap]] [] (.ret (.int .i64 (J3 p xs 0))) []:=by refine c_ Tryz.f258 λ b=>gV ?_;refine To.head [0,1,7,8] ?_;exact RX f cap xs p a b.1 _ xs.length 0 o_ s_
 rw [<-DX p xs 0 (De _)];exact c_ Tryz.f235 λ_=>zW
def aIB(G:aw)(a:G.length<=1048576)(h:Int):aq 238 [ii h,.ptr [.slice 1 (iv G) .no]] [] (.ret (.bool (!inB h G))) []:=by have b:=xI G a h;exact c_ Tryz.f238 λ_=>zW
def aLG(G l:aw)(a:G.length<=1048576):aq 236 [.slice 1 (iv G) .no,.ptr [.slice 1 (iv l) .no]] [] (.ret (.bool (!(l.any λ h=>!inB h G)))) []:=by
 have b:=aEb 238 [.slice 1 (iv G) .no] l (λ h=>!inB h G) λ x _=>aIB G a x;refine c_ Tryz.f236 λ_=>?_;refine cP hE 10 ?_;conv=>whnf
 refine To.frz [2] [0] ?_;exact zW
def aAy{l:a8}{u:Int}(a:0<=u)(h1:u<(l.length:Int)):(vav l)[u.toNat]? =some ((l[u.toNat]?).getD V3.zero).av:=by rw [Aa (show u.toNat<l.length by omega)];exact vM o_
def aE2{c:Con}{l:a6}{n:Int}(h:c.ok n):(vav (ofL c l))[n.toNat]? =some (atV (ofL c l) n).av:=by
 obtain ⟨a,h1⟩:=h;have hl:(ofL c l).length=c.ns.length:=by unfold ofL mN;simp
 unfold atV;rw [if_neg q_];exact aAy a o_
def JT(k:aw)(v:aa)(x:aw):∀ (es:List (aw×aa)),bR (lP es k v) x=if k=x then some v else bR es x
 | []=>rfl
 | (j,w)::r=>by
  show bR (if j=k then (k,v)::r else (j,w)::lP r k v) x=if k=x then some v else (if j=x then some w else bR r x)
  by_cases b:j=k
  .subst b;rw [if_pos rfl];show (if j=x then some v else bR r x)=_;by_cases a:j=x
   .rw [if_pos a,if_pos a]
   .rw [if_neg a,if_neg a,if_neg a]
  .rw [if_neg b];show (if j=x then some w else bR (lP r k v) x)=_;rw [JT k v x r];by_cases a:j=x
   .subst a;rw [if_pos rfl,if_neg (λ q=>b q.symm),if_pos rfl]
   .rw [if_neg a,if_neg a]
def aLX(es:List (aw×aa))(pre:aw):Prop:=∀ h:Int,bR es [h]=if pre.count h=0 then none else some (ii ((pre.count h:Nat):Int))
def aCw{es:List (aw×aa)}{pre:aw}(hm:aLX es pre)(h v:Int)(b:v=((pre.count h:Nat):Int)+1):aLX (lP es [h] (ii v)) (pre++[h]):=λ x=>by
 rw [JT,Jg];by_cases a:h=x
 .subst a;rw [if_pos rfl,if_neg s_,b];simp
 .rw [if_neg (by simpa using a),hm x];have:[h].count x=0:=Lc.2 (by simpa using λ q=>a q.symm);rw [this,Fm]
def plS(free:a8)(need:V3)(n h:Int):Bool:=if decide (h<0)=true then false else if decide ((free.length:Int)<=h)=true then false else !decide (eP ((free[h.toNat]?).getD V3.zero) need<n)
def plB(free:a8)(need:V3):aw->aw->Bool
 | _,[]=>true
 | pre,h::r=>plS free need (((pre.count h:Nat):Int)+1) h&&plB free need (pre++[h]) r
noncomputable abbrev aHM:Func:=Tryz.f199
def aC2(l:aw)(G:aw):Bool:=!(l.any λ h=>!inB h G)
abbrev plF(c:Con)(free:a8)(g:Gan)(l:aw)(i:Int):ar:=[(1,.slice 3 (vav free) .no),(4,.ptr c.cs),(6,.ptr g.cs),(7,.ptr [.slice 1 (iv l) .no]),(9,.mref 0),(18,.slice 1 (iv l) .no),(19,.int .i64 ((iv l).length:Nat)),(20,ii i)]
def aB2(c:Con)(H:c.sm)(free:a8)(g:Gan)(l:aw)(hl:l.length<=1048576)(A:Bool)(K:(gpL c g.lev).any (aC2 l)=A)(r:Bool):∀ (m i:Nat) (es:List (aw×aa)),i+m=l.length->aLX es (l.take i)->(plB free g.need (l.take i) (l.drop i)&&A)=r->
  To E aHM (.pure (.ret (.bool r))) (.head (stk aHM 0) (plF c free g l (i:Int)) [.mp false es]):=by
 have I:(iv l).length=l.length:=by simp
 have O:(vav free).length=free.length:=by simp
 intro m;induction m with
 | zero=>
  intro i es N hm b;rw [Ah o_] at b;have b:A=r:=b;subst b;have D:=aC4 c g.lev;have L:=H.hs;have h1:=G9 c H g.lev;have s:=aEc 236 [.slice 1 (iv l) .no] (gpL c g.lev) (aC2 l) λ G P=>aLG G l (by have:=(D.2 G P).2.1;omega);rw [K] at s;generalize gpL c g.lev=gs at h1 s;refine gV ?_;exact zW
 | succ m t=>
  intro i es N hm b;have p:i<l.length:=o_;have C:l.take (i+1)=l.take i++[l[i]]:=by rw [Lj,Aa p];rfl
  rw [Ae p] at b;have get:=gR p;have t:=λ es=>t (i+1) es o_;rw [C] at t;generalize l[i]=u0 at b get t;have y:((l.take i).count u0)<=1048576:=Cx Mx q_;have next:=λ v (J:v=(((l.take i).count u0:Nat):Int)+1)=>t (lP es [u0] (ii v)) (aCw hm u0 v J)
  have x:=hm u0;have d:∀ v,bR (lP es [u0] v) [u0]=some v:=λ v=>by rw [JT,if_pos rfl]
  have b:((plS free g.need ((((l.take i).count u0:Nat):Int)+1) u0&&plB free g.need (l.take i++[u0]) (l.drop (i+1)))&&A)=r:=b;generalize plB free g.need (l.take i++[u0]) (l.drop (i+1))=B at b next
  generalize (l.take i).count u0=k at y x b next
  unfold plS at b;have go:∀ (w:Int),w=(k:Int)->(∃ o,bR es [u0]=o/\(o=none/\w=0\/o=some (ii w)))->To E aHM (.pure (.ret (.bool r))) (.head (stk aHM 0) (plF c free g l (i:Int)) [.mp false es]):=λ w M ⟨o,n,z⟩=>by
   have next:=next (w+1) o_
   rw [show ((k:Int)+1)=w+1 from by omega] at b;by_cases h1:u0<0
   .rw [decide_eq_true h1] at b;exact zqca0
   .rw [decide_eq_false h1,if_neg d_] at b;by_cases s:(free.length:Int)<=u0
    .rw [decide_eq_true s] at b;exact zqca0
    .rw [decide_eq_false s,if_neg d_] at b;have j:u0=(u0.toNat:Int):=o_;have e:=aAy (l:=free) (u:=u0) o_ o_;generalize (free[u0.toNat]?).getD V3.zero=fv at e b;have a:=UR fv g.need;generalize eP fv g.need=q at a b;by_cases h3:q<w+1
     .rw [decide_eq_true h3] at b;exact zqca0
     .rw [decide_eq_false h3] at b;have next:=next b
      rcases z with ⟨rfl,rfl⟩ | rfl
      .refine gV ?_;refine aT λ h=>?_
       repeat' first | (refine gN hE ?_;conv=>whnf) | refine ⟨i,rfl,?_⟩ | refine ⟨u0.toNat,j,?_⟩ | refine ⟨_,get,?_⟩ | refine ⟨_,e,?_⟩ | refine ⟨_,n,?_⟩ | refine Ap _ (Ac (d _) ?_) | refine .pure _ [] a ?_ | exact rfl | refine zt ?_ | refine zu ?_ ?_ | intro h | fail
       exact To.cut [1,4,6,7,9,18,19,20] 1 rfl rfl rfl rfl next
      .refine gV ?_;refine aT λ h=>?_
       repeat' first | (refine gN hE ?_;conv=>whnf) | refine ⟨i,rfl,?_⟩ | refine ⟨u0.toNat,j,?_⟩ | refine ⟨_,get,?_⟩ | refine ⟨_,e,?_⟩ | refine ⟨_,n,?_⟩ | refine Ap _ (Ac (d _) ?_) | refine .pure _ [] a ?_ | exact rfl | refine zt ?_ | refine zu ?_ ?_ | intro h | fail
       exact To.cut [1,4,6,7,9,18,19,20] 1 rfl rfl rfl rfl next
  by_cases F:k=0
  .rw [if_pos F] at x;exact go 0 o_ ⟨_,x,.inl ⟨rfl,rfl⟩⟩
  .rw [if_neg F] at x;exact go k rfl ⟨_,x,.inr rfl⟩
def JG{free:a8}{need:V3}{n h:Int}:plS free need n h=true↔0<=h/\h<(free.length:Int)/\n<=eP ((free[h.toNat]?).getD V3.zero) need:=by
 unfold plS;by_cases h1:h<0
 .rw [if_pos (decide_eq_true h1)];constructor
  .intro q;cases q
  .intro q;omega
 .rw [if_neg (by rw [decide_eq_false h1];decide)];by_cases a:(free.length:Int)<=h
  .rw [if_pos (decide_eq_true a)];constructor
   .intro q;cases q
   .intro q;omega
  .rw [if_neg (by rw [decide_eq_false a];decide)];simp;omega
def U4{free:a8}{need:V3}:∀ (l pre:aw),plB free need pre l=true↔ ∀ u∈l,0<=u/\u<(free.length:Int)/\(((pre++l).count u:Nat):Int)<=eP ((free[u.toNat]?).getD V3.zero) need
 | [],pre=>by simp [plB]
 | h::r,pre=>by
  unfold plB;rw [Ad,JG,U4 r (pre++[h]),Af];show _↔ ∀ u∈h::r,0<=u/\u<(free.length:Int)/\(((pre++h::r).count u:Nat):Int)<=eP ((free[u.toNat]?).getD V3.zero) need;have e:pre++([h]++r)=pre++h::r:=rfl;rw [e];constructor
  .rintro ⟨⟨a,b,c⟩,d⟩ u f;by_cases g:u∈r
   .exact d u g
   .rcases Aw.1 f with rfl | f
    .refine ⟨a,b,?_⟩;rw [Jg,Ii,Lc.2 g];simpa using c
    .exact absurd f g
  .intro d;refine ⟨?_,λ u f=>d u (Ay _ f)⟩;obtain ⟨a,b,c⟩:=d h (Ao ..);refine ⟨a,b,?_⟩;rw [Jg,Ii] at c;omega
def HK{free:a8}{need:V3}{hs:aw}:D4 free need hs=true↔ ∀ u∈hs,0<=u/\u<(free.length:Int)/\((hs.count u:Nat):Int)<=eP ((free[u.toNat]?).getD V3.zero) need:=by
 unfold D4;rw [Cr];have key:∀ u,aDo free need hs u=plS free need (A5 u hs) u:=λ u=>rfl;constructor
 .intro q u a;have:=q u a;rw [key,JG] at this;have e:A5 u hs=((hs.count u:Nat):Int):=by unfold A5;rw [yS];omega
  rw [e] at this;exact this
 .intro q u a;rw [key,JG];have e:A5 u hs=((hs.count u:Nat):Int):=by unfold A5;rw [yS];omega
  rw [e];exact q u a
def aHt(l G:aw):aC2 l G=vG G l:=by rw [Hw,vF];unfold aC2 inB;simp [Fq]
def aLJ(c:Con)(free:a8)(g:Gan)(l:aw)(hl:(l.length:Int)=g.pods):(plB free g.need [] l&&(gpL c g.lev).any (aC2 l))=qO c free g l:=by
 unfold qO;rw [if_pos hl];have e:plB free g.need [] l=D4 free g.need l:=by rw [Hw,U4,HK];rfl
 rw [e,Hw,Ad,Fq,Fq];unfold chkG;simp only [aHt,Ad];constructor
 .rintro ⟨a,G,b,d⟩;exact ⟨G,b,d,a⟩
 .rintro ⟨G,b,d,a⟩;exact ⟨a,G,b,d⟩
def aKp(c:Con)(i:c.sm)(free:a8)(g:Gan)(l:aw)(hl:l.length<=1048576):aq 199 [c.av,.slice 3 (vav free) .no,g.av,.slice 1 (iv l) .no] [] (.ret (.bool (qO c free g l))) []:=by
 have a:(iv l).length=l.length:=by simp
 by_cases h1:(l.length:Int)=g.pods
 .have b:=aB2 c i free g l hl _ rfl (qO c free g l) l.length 0 [] o_ (λ h=>by simp [bR]) (aLJ c free g l h1);have d:((((iv l).length:Nat):Int) !=g.pods)=false:=by rw [a];simp [h1]
  generalize qO c free g l=r at b;refine c_ Tryz.f199 λ_=>?_;refine cP hE 16 ?_;conv=>whnf
  refine To.frz [4,6,7] [0,1,2] ?_
  repeat' first | (refine gN hE ?_;conv=>whnf) | refine Ac (λ h=>absurd h (by rw [d];decide)) (λ h=>?_) | exact rfl | refine zt ?_ | refine zu ?_ ?_ | intro h | fail
  refine To.part [1,4,6,7,9,18,19,20] [3] rfl rfl rfl ?_;exact b
 .have d:((((iv l).length:Nat):Int) !=g.pods)=true:=by rw [a];simp [h1]
  have e:qO c free g l=false:=if_neg h1;rw [e];refine c_ Tryz.f199 λ_=>?_;refine cP hE 16 ?_;conv=>whnf
  refine To.frz [4,6,7] [0,1,2] ?_;exact zW
abbrev itP(p:Pn):aa:=.iface 79 p.av
abbrev itR(r:Rn):aa:=.iface 68 r.av
abbrev aHf(l:a7):ay:=l.map itP
abbrev Y8(l:a6):ay:=l.map itR
noncomputable abbrev WQ:Func:=Tryz.f148
abbrev alO(s:Sta):au:=[.cells 49 s.cs,.tail 0 1 20]
def aIX(s:Sta)(j:s.run.length<=1000000)(l:ay)(R:ay):∀ (m i:Nat) (a:ay),i+m=s.run.length->a.length<=1000000+i->a++Y8 (s.run.drop i)=R->
  To (Eo [3] []) WQ (.pure (.ret (.slice 1 R .no))) (.head (stk WQ 1) [(1,.ref 0 0),(3,.slice 1 a (.own 1 0)),(22,.slice 14 (rav s.run) .no),(23,.int .i64 ((rav s.run).length:Nat)),(24,ii i)] (alO s)):=by
 have d:(rav s.run).length=s.run.length:=by simp
 intro m;induction m with
 | zero=>
  intro i a g f b;rw [Ah o_] at b;have b:a++[]=R:=b;rw [Ar] at b;subst b;refine gV ?_;exact zW
 | succ m e=>
  intro i a g f b;have c:i<s.run.length:=o_;rw [Ae c] at b;have get:=dT c;generalize s.run[i]=x at b get;have next:=e (i+1) (a++[itR x]) o_ q_ (by rw [Af];exact b)
  refine gV ?_;refine aT λ h=>?_
  repeat' first | (refine gN (hEo [3] []) ?_;conv=>whnf) | refine ⟨i,rfl,?_⟩ | refine ⟨_,get,?_⟩ | refine Ac (Ac (show a.length+1<=maxLen by simp only [maxLen];omega) (show (a.length+1)*16<=140737488355328 by omega)) ?_ | exact rfl | refine zt ?_ | refine zu ?_ ?_ | intro h | fail
  exact zW
def aIY(s:Sta)(hp:s.pend.length<=1000000)(e:s.run.length<=1000000)(R:ay):∀ (m i:Nat) (a:ay),i+m=s.pend.length->a.length<=i->(a++aHf (s.pend.drop i))++Y8 s.run=R->
  To (Eo [3] []) WQ (.pure (.ret (.slice 1 R .no))) (.head (stk WQ 0) [(1,.ref 0 0),(3,.slice 1 a (.own 1 0)),(9,.slice 11 (pnv s.pend) .no),(10,.int .i64 ((pnv s.pend).length:Nat)),(11,ii i)] (alO s)):=by
 have d:(pnv s.pend).length=s.pend.length:=by simp
 intro m;induction m with
 | zero=>
  intro i a j g b;rw [Ah o_] at b;have b:(a++[])++Y8 s.run=R:=b;rw [Ar] at b;have next:=aIX s e [] R s.run.length 0 a o_ o_ b
  refine gV ?_;exact zW
 | succ m f=>
  intro i a j g b;have c:i<s.pend.length:=o_;rw [Ae c] at b;have get:=JF c;generalize s.pend[i]=x at b get;have next:=f (i+1) (a++[itP x]) o_ q_ (by rw [Af a];exact b)
  refine gV ?_;refine aT λ h=>?_
  repeat' first | (refine gN (hEo [3] []) ?_;conv=>whnf) | refine ⟨i,rfl,?_⟩ | refine ⟨_,get,?_⟩ | refine Ac (Ac (show a.length+1<=maxLen by simp only [maxLen];omega) (show (a.length+1)*16<=140737488355328 by omega)) ?_ | exact rfl | refine zt ?_ | refine zu ?_ ?_ | intro h | fail
  exact zW
def aFV(s:Sta)(hp:s.pend.length<=1000000)(a:s.run.length<=1000000):aq 148 [s.av] [] (.ret (.slice 1 (aHf s.pend++Y8 s.run) .no)) []:=by
 have next:=aIY s hp a (aHf s.pend++Y8 s.run) s.pend.length 0 [] o_ s_ rfl
 refine cT (E:=(Eo [3] [])) (fn:=Tryz.f148) (g:=.pure _) λ_=>?_;exact zW
def TV(p:Pn):aq 149 [itP p] [] (.ret (.tup [p.av,.bool true])) []:=by exact c_ Tryz.f149 λ_=>zW
def TU(r:Rn):aq 149 [itR r] [] (.ret (.tup [r.pn.av,.bool true])) []:=by exact c_ Tryz.f149 λ_=>zW
def aJv(l:a6)(id:Int):aE l [id]=l.filter λ x=>!(x.g.id==id):=by unfold aE;congr 1;funext x;simp [inB]
def aCZ{l:List Hos}{n:Int}(a:0<=n)(h1:n<(l.length:Int)):(hav l)[n.toNat]? =some (bK l n).av:=by have h:n.toNat<l.length:=o_;unfold bK;rw [Bg,Aa h];rfl
def aAd{c:Con}{free:a8}{g:Gan}{l:aw}(d:free.length=c.hs.length)(hp:1<=g.pods)(h:qO c free g l=true):(iv l)[0]? =some (ii (l.headD 0))/\0<=l.headD 0/\l.headD 0<(c.hs.length:Int):=by
 unfold qO at h;by_cases hl:(l.length:Int)=g.pods
 .rw [if_pos hl] at h;cases l with
  | nil=>simp at hl;omega
  | cons u r=>
   rw [Fq] at h;obtain ⟨G,e,b⟩:=h;unfold chkG at b;rw [Ad] at b;have a:=HK.1 b.2 u (Ao ..);refine ⟨rfl,a.1,?_⟩;have:=a.2.1;show u<_;omega
 .rw [if_neg hl] at h;cases h
noncomputable abbrev aM8:Func:=Tryz.f150
def rnO(s:Sta)(r:Rn):au:=[.cells 49 s.cs,.cells 68 r.cs]
def aJ9(s:Sta)(r:Rn):au:=[.fcells s.cs,.fcells r.cs]
def aJ8(s:Sta)(r:Rn):aj [0,1] (rnO s r)=aJ9 s r:=by kernel_rfl
def aF7(s:Sta)(r:Rn):wX [2,3] (aB (aJ9 s r)) [(2,.ref 0 0),(3,.ref 1 0)]=[(2,.ptr s.cs),(3,.ptr r.cs)]:=by kernel_rfl
def UT{g:Goal}{ks:bf}(s:Sta)(r:Rn)(h:To E aM8 g (.code ks [(2,.ptr s.cs),(3,.ptr r.cs)] (aJ9 s r))):To E aM8 g (.code ks [(2,.ref 0 0),(3,.ref 1 0)] (rnO s r)):=by refine To.frz [2,3] [0,1] ?_;rw [aJ8,aF7];exact h
def aBj(s:Sta)(r:Rn)(W:a6)(F:a8)(i:Int)(k:Bool)(b:Bool)
  (h1:aq 88 [r.av] [] (.ret (ii i)) [])
  (a:aq 70 [.slice 14 (rav s.run) .no,.slice 1 (iv [r.g.id]) .no] [] (.ret (.slice 14 (rav W) .no)) [])
  (h3:aq 172 [s.c.av,.slice 14 (rav W) .no] [] (.ret (.slice 3 (vav F) .no)) [])
  (m:aq 199 [s.c.av,.slice 3 (vav F) .no,r.g.av,.slice 1 (iv r.hs) .no] [] (.ret (.bool k)) [])
  (n:k=true->(iv r.hs)[0]? =some (ii (r.hs.headD 0))/\0<=r.hs.headD 0/\(hav s.c.hs)[(r.hs.headD 0).toNat]? =some (bK s.c.hs (r.hs.headD 0)).av)
  (d:(decide ((r.at'<=r.st/\r.st<=s.now)/\s.now<i)&&(k&&decide ((bK s.c.hs (r.hs.headD 0)).f=r.fl)))=b):
  aq 150 [s.av,r.av] [] (.ret (.bool b)) []:=by
 have a:aq 70 [.slice 14 (rav s.run) .no,.slice 1 (iv [r.g.id]) .full] [] (.ret (.slice 14 (rav W) .no)) []:=aA.strip a;cases k with
 | true=>
  obtain ⟨j,l,e⟩:=n rfl;generalize r.hs.headD 0=u at j l e d;generalize bK s.c.hs u=y at e d;refine c_ Tryz.f150 λ_=>?_;refine cP hE 13 ?_;conv=>whnf
  refine To.cutC [2,3] 2 rfl rfl rfl rfl ?_;refine UT s r ?_
  repeat' first | (refine gN hE ?_;conv=>whnf) | refine .pure _ [] h1 ?_ | refine .pure _ [] a ?_ | refine .pure _ [] h3 ?_ | refine .pure _ [] m ?_ | refine ⟨0,rfl,?_⟩ | refine ⟨_,j,?_⟩ | refine Ap u.toNat (Ac (by simp only [Kw l]) ?_) | refine ⟨_,e,?_⟩ | exact rfl | refine zt ?_ | refine zu ?_ ?_ | intro h | fail
  all_goals
   exact zqca21
 | false=>
  refine c_ Tryz.f150 λ_=>?_;refine cP hE 13 ?_;conv=>whnf
  refine To.cutC [2,3] 2 rfl rfl rfl rfl ?_;refine UT s r ?_
  repeat' first | (refine gN hE ?_;conv=>whnf) | refine .pure _ [] h1 ?_ | refine .pure _ [] a ?_ | refine .pure _ [] h3 ?_ | refine .pure _ [] m ?_ | exact rfl | refine zt ?_ | refine zu ?_ ?_ | intro h | fail
  all_goals
   exact zqca21
def aFW(s:Sta)(b:s.c.sm)(hs:Sm s.run)(r:Rn)(hp:1<=r.g.pods)(j:r.hs.length<=1048576):aq 150 [s.av,r.av] [] (.ret (.bool (rnB s r))) []:=by
 have k:=oX hs [r.g.id];have e:=oY s.run hs [r.g.id] s_;have h3:=V9 s.c b (aE s.run [r.g.id]) k;have l:=wY s.c (aE s.run [r.g.id]);have m:=aKp s.c b (kI s.c (aE s.run [r.g.id])) r.g r.hs j;refine aBj s r _ _ _ _ _ (ED r) e h3 m (λ d=>?_) ?_
 .obtain ⟨i,a,h⟩:=aAd l hp d;exact ⟨i,a,aCZ a h⟩
 .rw [aJv];rfl
noncomputable abbrev qM:Func:=Tryz.f102
def aI3(es:List (aw×aa))(l:aw):Prop:=∀ h:Int,bR es [h]=if l.contains h=true then some (.bool true) else none
def NR{es:List (aw×aa)}{l:aw}(hm:aI3 es l)(h:Int):aI3 (lP es [h] (.bool true)) (h::l):=λ x=>by
 rw [JT,List.contains_cons];by_cases a:h=x
 .subst a;simp
 .have b:(x==h)=false:=by simp;exact λ q=>a q.symm
  rw [if_neg (by simpa using a),hm x,b,Nf]
def ggO(s:Sta):au:=[.cells 49 s.cs]
def aK0(s:Sta):au:=[.fcells s.cs]
def aKZ(s:Sta):aj [0] (ggO s)=aK0 s:=by kernel_rfl
def aHx(s:Sta):wX [1] (aB (aK0 s)) [(1,.ref 0 0)]=[(1,.ptr s.cs)]:=by kernel_rfl
def aHv{g:Goal}{ks:bf}(s:Sta)(h:To (Er [] [64,65,66]) qM g (.code ks [(1,.ptr s.cs)] (aK0 s))):To (Er [] [64,65,66]) qM g (.code ks [(1,.ref 0 0)] (ggO s)):=by refine To.frz [1] [0] ?_;rw [aKZ,aHx];exact h
abbrev ggF(s:Sta)(xs:ay)(i:Int):ar:=[(1,.ptr s.cs),(3,.mref 0),(4,.mref 1),(14,.slice 1 xs .no),(15,.int .i64 (xs.length:Nat)),(16,ii i)]
def gbF(s:Sta)(xs:ay)(i:Int)(x:aa):ar:=[(1,.ptr s.cs),(3,.mref 0),(4,.mref 1),(6,x),(7,.ref 2 0),(14,.slice 1 xs .no),(15,.int .i64 (xs.length:Nat)),(16,ii i)]
def aMV(s:Sta)(xs:ay)(i:Int)(x:aa)(p:Pn):ar:=[(1,.ptr s.cs),(3,.mref 0),(4,.mref 1),(6,x),(7,.ptr p.cs),(14,.slice 1 xs .no),(15,.int .i64 (xs.length:Nat)),(16,ii i)]
abbrev Ent:Type:=List (aw×aa)
def gbO(b a:Ent)(p:Pn):au:=[.mp false b,.mp false a,.cells 79 p.cs]
def aK6(b a:Ent)(p:Pn):au:=[.mp false b,.mp false a,.fcells p.cs]
def aK5(b a:Ent)(p:Pn):aj [2] (gbO b a p)=aK6 b a p:=by kernel_rfl
def aHz(s:Sta)(xs:ay)(i:Int)(x:aa)(b a:Ent)(p:Pn):wX [7] (aB (aK6 b a p)) (gbF s xs i x)=aMV s xs i x p:=by kernel_rfl
def sV{g:Goal}{ks:bf}{s:Sta}{xs:ay}{i:Int}{x:aa}{b a:Ent}(p:Pn)(h:To (Er [] [64,65,66]) qM g (.code ks (aMV s xs i x p) (aK6 b a p))):To (Er [] [64,65,66]) qM g (.code ks (gbF s xs i x) (gbO b a p)):=by refine To.frz [7] [2] ?_;rw [aK5,aHz];exact h
def gcB(s:Sta)(p:Pn)(b a:Bool)(G:Int)(N Q:Bool):Bool:=!b&&(!a&&(decide ((0<=p.seq/\p.seq<s.nxt)/\0<=p.at'/\p.at'<=s.now)&&(decide (G=0)&&(!N&&Q))))
def ggP(s:Sta)(xs:ay)(k:xs.length<=1048576)(i:Nat)(t:i<xs.length)(p:Pn)(get:xs[i]? =some (itP p))(e j:Ent)(l:bR e [p.g.id]=none)(m:bR j [p.seq]=none)(G:Int)(N b:Bool)
  (r:aq 78 [s.c.av,p.g.av] [] (.ret (ii G)) []) (n:G=0->aq 81 [s.c.av,p.g.av] [] (.ret (.bool N)) [])
  (d:gcB s p false false G N true=false->b=false)
  (a:gcB s p false false G N true=true->To (Er [] [64,65,66]) qM (.pure (.ret (.bool b))) (.head (stk qM 0) (ggF s xs ((i:Int)+1)) [.mp false (lP e [p.g.id] (.bool true)),.mp false (lP j [p.seq] (.bool true))])):
  To (Er [] [64,65,66]) qM (.pure (.ret (.bool b))) (.head (stk qM 0) (ggF s xs (i:Int)) [.mp false e,.mp false j]):=by
 have o:=TV p;cases N<;>skip
 all_goals
  refine gV ?_;refine aT λ h=>gV ?_;refine ⟨i,rfl,gV ?_⟩;refine ⟨_,get,gV ?_⟩;refine .pure _ [] o ?_;refine cP (hEr [] [64,65,66]) 20 ?_;conv=>whnf
  refine To.cutC [1,3,4,6,7,14,15,16] 3 rfl rfl rfl rfl ?_;refine sV p ?_
  repeat' first | (refine gN (hEr [] [64,65,66]) ?_;conv=>whnf) | refine ⟨_,l,?_⟩ | refine ⟨_,m,?_⟩ | refine .pure _ [] r ?_ | refine .pure _ [] (n (by simpa using ‹(G !=0)=false›)) ?_ | exact rfl | refine zt ?_ | refine zu ?_ ?_ | intro h | fail
  all_goals (try (
   refine congrArg (λ q=>Res.ret (aa.bool q)) (d ?_).symm;clear d a;simp only [decide_eq_true_eq,decide_eq_false_iff_not,bne_iff_ne,ne_eq,bne_eq_false_iff_eq,Fh] at *
   simp [gcB]
   try omega))
  all_goals
   exact zqca20
def ggR(s:Sta)(xs:ay)(l:xs.length<=1048576)(i:Nat)(v:i<xs.length)(r:Rn)(p:Pn)(hp:r.pn=p)(get:xs[i]? =some (itR r))(e j:Ent)(m:bR e [p.g.id]=none)(n:bR j [p.seq]=none)(G:Int)(N Q b:Bool)
  (u:aq 78 [s.c.av,p.g.av] [] (.ret (ii G)) []) (o:G=0->aq 81 [s.c.av,p.g.av] [] (.ret (.bool N)) [])
  (t:G=0->aq 150 [s.av,r.av] [] (.ret (.bool Q)) [])
  (d:gcB s p false false G N Q=false->b=false)
  (a:gcB s p false false G N Q=true->To (Er [] [64,65,66]) qM (.pure (.ret (.bool b))) (.head (stk qM 0) (ggF s xs ((i:Int)+1)) [.mp false (lP e [p.g.id] (.bool true)),.mp false (lP j [p.seq] (.bool true))])):
  To (Er [] [64,65,66]) qM (.pure (.ret (.bool b))) (.head (stk qM 0) (ggF s xs (i:Int)) [.mp false e,.mp false j]):=by
 have k:=TU r;rw [hp] at k;cases N<;>cases Q
 all_goals
  refine gV ?_;refine aT λ h=>gV ?_;refine ⟨i,rfl,gV ?_⟩;refine ⟨_,get,gV ?_⟩;refine .pure _ [] k ?_;refine cP (hEr [] [64,65,66]) 20 ?_;conv=>whnf
  refine To.cutC [1,3,4,6,7,14,15,16] 3 rfl rfl rfl rfl ?_;refine sV p ?_
  repeat' first | (refine gN (hEr [] [64,65,66]) ?_;conv=>whnf) | refine ⟨_,m,?_⟩ | refine ⟨_,n,?_⟩ | refine .pure _ [] u ?_ | refine .pure _ [] (o (by simpa using ‹(G !=0)=false›)) ?_ | refine .pure _ [] (t (by simpa using ‹(G !=0)=false›)) ?_ | exact rfl | refine zt ?_ | refine zu ?_ ?_ | intro h | fail
  all_goals (try (
   refine congrArg (λ q=>Res.ret (aa.bool q)) (d ?_).symm;clear d a;simp only [decide_eq_true_eq,decide_eq_false_iff_not,bne_iff_ne,ne_eq,bne_eq_false_iff_eq,Fh] at *
   simp [gcB]
   try omega))
  all_goals
   exact zqca20
def aMT(s:Sta)(xs:ay)(e:xs.length<=1048576)(i:Nat)(f:i<xs.length)(p:Pn)(get:xs[i]? =some (itP p))(a b:Ent)(m:bR a [p.g.id]=some (.bool true)\/bR a [p.g.id]=none/\bR b [p.seq]=some (.bool true)):
  To (Er [] [64,65,66]) qM (.pure (.ret (.bool false))) (.head (stk qM 0) (ggF s xs (i:Int)) [.mp false a,.mp false b]):=by
 have c:=TV p;rcases m with d | ⟨d,j⟩
 .exact zqca2
 .exact zqca2
def aMS(s:Sta)(xs:ay)(e:xs.length<=1048576)(i:Nat)(f:i<xs.length)(r:Rn)(p:Pn)(hp:r.pn=p)(get:xs[i]? =some (itR r))(a b:Ent)(m:bR a [p.g.id]=some (.bool true)\/bR a [p.g.id]=none/\bR b [p.seq]=some (.bool true)):
  To (Er [] [64,65,66]) qM (.pure (.ret (.bool false))) (.head (stk qM 0) (ggF s xs (i:Int)) [.mp false a,.mp false b]):=by
 have c:=TU r;rw [hp] at c;rcases m with d | ⟨d,j⟩
 .exact zqca2
 .exact zqca2
inductive It where
 | p (x:Pn)
 | r (x:Rn)
def It.av:It->aa
 | .p x=>itP x
 | .r x=>itR x
def It.pn:It->Pn
 | .p x=>x
 | .r x=>x.pn
def It.q(s:Sta):It->Bool
 | .p _=>true
 | .r x=>rnB s x
def It.sm:It->Prop
 | .p _=>True
 | .r x=>x.hs.length<=1048576
def gaB(s:Sta):aw->aw->List It->Bool
 | _,_,[]=>true
 | a,b,x::l=>gcB s x.pn (a.contains x.pn.g.id) (b.contains x.pn.seq) (eU s.c x.pn.g) (cM s.c [] x.pn.g).isNone (x.q s)&&gaB s (x.pn.g.id::a) (x.pn.seq::b) l
def uO{c:Con}{g:Gan}(h:eU c g=0):1<=g.pods/\g.pods<=16:=by obtain ⟨h1,_⟩:=oJ.1 h;unfold KX at h1;rw [Ad] at h1;have:=of_decide_eq_true h1.1;omega
def aHw(s:Sta)(A:s.c.sm)(hs:Sm s.run)(l:List It)(hl:l.length<=1048576)(v:∀ x∈l,x.sm)(b:Bool):∀ (m i:Nat) (a d:Ent) (j f:aw),i+m=l.length->aI3 a j->aI3 d f->gaB s j f (l.drop i)=b->
  To (Er [] [64,65,66]) qM (.pure (.ret (.bool b))) (.head (stk qM 0) (ggF s (l.map It.av) (i:Int)) [.mp false a,.mp false d]):=by
 have C:(l.map It.av).length=l.length:=by simp
 intro m;induction m with
 | zero=>
  intro i a d j f G h1 u e;rw [Ah o_] at e;have e:true=b:=e;subst e;refine gV ?_;exact zW
 | succ m w=>
  intro i a d j f G h1 u e;have n:i<l.length:=o_;rw [Ae n] at e;have get:(l.map It.av)[i]? =some (l[i].av):=by simp [n]
  have z:=v l[i] (Bf n);have w:=λ a d j f=>w (i+1) a d j f o_;generalize l[i]=x at e get z;have e:(gcB s x.pn (j.contains x.pn.g.id) (f.contains x.pn.seq) (eU s.c x.pn.g) (cM s.c [] x.pn.g).isNone (x.q s)&&gaB s (x.pn.g.id::j) (x.pn.seq::f) (l.drop (i+1)))=b:=e;have k:=h1 x.pn.g.id;have t:=u x.pn.seq;have next:=w _ _ (x.pn.g.id::j) (x.pn.seq::f) (NR h1 x.pn.g.id) (NR u x.pn.seq)
  generalize gaB s (x.pn.g.id::j) (x.pn.seq::f) (l.drop (i+1))=R at e next
  cases D:j.contains x.pn.g.id with
  | true=>
   rw [D] at e k;have e:false=b:=by rw [<-e];rfl
   subst e;cases x with
   | p x=>exact aMT s _ o_ i o_ x get a d (.inl k)
   | r x=>exact aMS s _ o_ i o_ x x.pn rfl get a d (.inl k)
  | false=>
   rw [D] at e k;cases y:f.contains x.pn.seq with
   | true=>
    rw [y] at e t;have e:false=b:=by rw [<-e];rfl
    subst e;cases x with
    | p x=>exact aMT s _ o_ i o_ x get a d (.inr ⟨k,t⟩)
    | r x=>exact aMS s _ o_ i o_ x x.pn rfl get a d (.inr ⟨k,t⟩)
   | false=>
    rw [y] at e t;have F:=L6 s.c x.pn.g;have B:=λ h:eU s.c x.pn.g=0=>NN s.c A x.pn.g (by have:=uO h;omega);cases x with
    | p x=>
     refine ggP s _ o_ i o_ x get a d k t _ _ b F B (λ o=>?_) (λ o=>?_)
     .exact e.symm.trans (congrArg (λ q:Bool=>q&&R) o)
     .exact next ((congrArg (λ q:Bool=>q&&R) o).symm.trans e)
    | r x=>
     have H:=λ h:eU s.c x.pn.g=0=>aFW s A hs x (uO (g:=x.g) h).1 z;refine ggR s _ o_ i o_ x x.pn rfl get a d k t _ _ _ b F B H (λ o=>?_) (λ o=>?_)
     .exact e.symm.trans (congrArg (λ q:Bool=>q&&R) o)
     .exact next ((congrArg (λ q:Bool=>q&&R) o).symm.trans e)
def qK(s:Sta):List It:=s.pend.map It.p++s.run.map It.r
def aKP(s:Sta):(qK s).map It.av=aHf s.pend++Y8 s.run:=by unfold qK;rw [Bm,Dw,Dw];rfl
def aDb(s:Sta)(i:s.c.sm)(hp:s.pend.length<=1000)(k:s.run.length<=1000)(hs:Sm s.run):aq 102 [s.av] [] (.ret (.bool (gaB s [] [] (qK s)))) []:=by
 have a:=aFV s o_ o_;rw [<-aKP] at a;have e:(qK s).length<=2000:=by unfold qK;simp;omega
 have next:=aHw s i hs (qK s) o_ (λ x d=>by
  unfold qK at d;rw [Ba,Ca,Ca] at d;rcases d with ⟨y,_,rfl⟩ | ⟨y,j,rfl⟩
  .trivial
  .exact hs.2 y j) _ (qK s).length 0 [] [] [] [] o_ (λ h=>rfl) (λ h=>rfl) rfl
 rw [Cq] at next
 generalize (qK s).map It.av=xs at a next
 generalize gaB s [] [] (qK s)=b at next
 refine cT (E:=(Er [] [64,65,66])) (fn:=Tryz.f102) (g:=.pure _) λ_=>?_;refine cP (hEr [] [64,65,66]) 10 ?_;conv=>whnf
 refine To.cutC [1] 1 rfl rfl rfl rfl ?_;refine aHv s ?_
 repeat' first | (refine gN (hEr [] [64,65,66]) ?_;conv=>whnf) | refine .pure _ [] a ?_ | exact rfl | refine zt ?_ | refine zu ?_ ?_ | intro h | fail
 refine To.part [1,3,4,14,15,16] [1,2] rfl rfl rfl ?_;exact next
def aK4(s:Sta)(p:Pn)(q e d:Bool):gcB s p e d (eU s.c p.g) (cM s.c [] p.g).isNone q=(!e&&(!d&&(pnB s p&&q))):=by unfold gcB pnB;generalize decide (eU s.c p.g=0)=a;generalize (cM s.c [] p.g).isNone=b;generalize decide ((0<=p.seq/\p.seq<s.nxt)/\0<=p.at'/\p.at'<=s.now)=c;cases e<;>cases d<;>cases a<;>cases b<;>cases c<;>cases q<;>rfl
def V8(s:Sta):∀ (l:List It) (a b:aw),gaB s a b l=true↔(∀ x∈l,(pnB s x.pn&&x.q s)=true)/\((l.map λ x=>x.pn.g.id).Nodup/\∀ x∈l,x.pn.g.id∉a)/\((l.map λ x=>x.pn.seq).Nodup/\∀ x∈l,x.pn.seq∉b)
 | [],a,b=>by simp [gaB]
 | x::r,a,b=>by
  unfold gaB;rw [aK4,Ad,V8 s r];simp only [Ad,Cw,List.contains_eq_mem,decide_eq_false_iff_not,Bl,Cg,Aw,forall_eq_or_imp,not_or,Ca,not_exists,not_and];constructor
  .rintro ⟨⟨h1,i,h3⟩,m,⟨h,f⟩,k,d⟩;exact ⟨⟨h3,m⟩,⟨⟨λ y c e=>(f y c).1 e,h⟩,h1,λ y c=>(f y c).2⟩,⟨λ y c e=>(d y c).1 e,k⟩,i,λ y c=>(d y c).2⟩
  .rintro ⟨⟨h3,m⟩,⟨⟨f,h⟩,h1,n⟩,⟨d,k⟩,i,j⟩;exact ⟨⟨h1,i,h3⟩,m,⟨h,λ y c=>⟨λ e=>f y c e,n y c⟩⟩,k,λ y c=>⟨λ e=>d y c e,j y c⟩⟩
def aK7(s:Sta):gaB s [] [] (qK s)=((s.pend.all (pnB s)&&s.run.all λ r=>pnB s r.pn&&rnB s r)&&(decide (ids s).Nodup&&decide (seqs s).Nodup)):=by
 rw [Hw,V8];have c:((qK s).map λ x=>x.pn.g.id)=ids s:=by unfold qK ids;rw [Bm,Dw,Dw];rfl
 have e:((qK s).map λ x=>x.pn.seq)=seqs s:=by unfold qK seqs;rw [Bm,Dw,Dw];rfl
 rw [c,e];simp only [Hk,not_false_eq_true,implies_true,and_true,Ad,decide_eq_true_eq,Cr];have f:(∀ x∈qK s,pnB s x.pn=true/\x.q s=true)↔(∀ x∈s.pend,pnB s x=true)/\∀ x∈s.run,pnB s x.pn=true/\rnB s x=true:=by
  unfold qK;constructor
  .intro h;exact ⟨λ x a=>(h (.p x) (Dc _ (Cm a))).1,λ x a=>h (.r x) (Cv _ (Cm a))⟩
  .rintro ⟨h1,d⟩ x a;rw [Ba,Ca,Ca] at a;rcases a with ⟨y,b,rfl⟩ | ⟨y,b,rfl⟩
   .exact ⟨h1 y b,rfl⟩
   .exact d y b
 rw [f]
noncomputable abbrev aHL:Func:=Tryz.f103
def quO(s:Sta):au:=[.cells 49 s.cs]
def aKj(s:Sta):au:=[.fcells s.cs]
def aKi(s:Sta):aj [0] (quO s)=aKj s:=by kernel_rfl
def aGl(s:Sta):wX [1] (aB (aKj s)) [(1,.ref 0 0)]=[(1,.ptr s.cs)]:=by kernel_rfl
def aGj{g:Goal}{ks:bf}(s:Sta)(h:To E aHL g (.code ks [(1,.ptr s.cs)] (aKj s))):To E aHL g (.code ks [(1,.ref 0 0)] (quO s)):=by refine To.frz [1] [0] ?_;rw [aKi,aGl];exact h
def aGk(s:Sta)(g:s.c.sm)(U:a8)(t:U.length=s.c.ns.length)(p:∀ i:Nat,i<U.length->(vav U)[i]? =some (atV U (i:Int)).av)(b:Bool):∀ (m i:Nat),i+m=U.length->((Ij i m).all λ i:Nat=>cS (atV U (i:Int)) (qA s.c (i:Int)))=b->
  To E aHL (.pure (.ret (.bool b))) (.head (stk aHL 0) [(1,.ptr s.cs),(10,.slice 3 (vav U) .no),(11,.int .i64 ((vav U).length:Nat)),(12,ii (i:Int))] []):=by
 have j:(vav U).length=U.length:=by simp
 have h1:=g.ns;intro m;induction m with
 | zero=>
  intro i r a;have a:true=b:=a;subst a;refine gV ?_;exact zW
 | succ m k=>
  intro i r a;have f:i<U.length:=o_;have a:(cS (atV U (i:Int)) (qA s.c (i:Int))&&((Ij (i+1) m).all λ i:Nat=>cS (atV U (i:Int)) (qA s.c (i:Int))))=b:=a;have next:=k (i+1) o_
  generalize ((Ij (i+1) m).all λ i:Nat=>cS (atV U (i:Int)) (qA s.c (i:Int)))=R at a next
  have get:=p i f;have q:=wI (c:=s.c) (n:=(i:Int)) ⟨by omega,by omega⟩;have l:=aCh s.c g (i:Int);have hl:=jW s.c (i:Int);unfold qA at a;generalize atV U (i:Int)=u at a get;generalize cY s.c.ns (i:Int)=y at a q;generalize lG s.c.ns (i:Int) (qH s.c.ns)=v at a l;cases h:bD s.c.ns (i:Int) with
  | true=>
   rw [h] at a hl;have o:=iN v y.b;have a:(cS u (fQ v y.b)&&R)=b:=a;generalize fQ v y.b=w at o a;have e:=vI u w;cases d:cS u w with
   | true=>
    rw [d] at a e;have next:=next a
    refine gV ?_;exact zW
   | false=>
    exact zqca39
  | false=>
   rw [h] at a hl;have a:(cS u v&&R)=b:=a;have e:=vI u v;cases d:cS u v with
   | true=>
    rw [d] at a e;have next:=next a
    refine gV ?_;exact zW
   | false=>
    exact zqca39
def aCf(c:Con)(l:a6):(ofL c l).length=c.ns.length:=by unfold ofL mN;simp
def YN(s:Sta)(b:s.c.sm)(h:s.run.length<=1048576):aq 103 [s.av] [] (.ret (.bool (MR s))) []:=by
 have d:=NE s.c b s.run h;have a:=aCf s.c s.run
 have next:=aGk s b (ofL s.c s.run) a (λ i j=>by
  have:=aE2 (c:=s.c) (l:=s.run) (n:=(i:Int)) ⟨by omega,by omega⟩;rw [Bv] at this
  exact this) _ (ofL s.c s.run).length 0 o_ rfl
 have e:((Ij 0 (ofL s.c s.run).length).all λ i:Nat=>cS (atV (ofL s.c s.run) (i:Int)) (qA s.c (i:Int)))=MR s:=by unfold MR;rw [a,Ik]
 rw [e] at next
 generalize MR s=q at next
 generalize ofL s.c s.run=U at d next
 refine c_ Tryz.f103 λ_=>?_;refine cP hE 10 ?_;conv=>whnf
 refine To.cutC [1] 1 rfl rfl rfl rfl ?_;refine aGj s ?_;exact zW
def DG(s:Sta):Prop:=(0<=s.now/\s.now<=1099511627776)/\(1<=s.nxt/\s.nxt<=1099511627776)/\s.hist.length=s.c.ns.length/\s.pend.length+s.run.length<=32
instance (s:Sta):Decidable (DG s):=by unfold DG;infer_instance
def QO(s:Sta)(e:Bool)(k:Int)(q g u:Bool)(b:Int)
  (v:aq 100 [s.c.av] [] (.ret (.bool e)) [])
  (i:aq 76 [s.c.av] [] (.ret (ii k)) [])
  (r:s.pend.length+s.run.length<=32->aq 101 [.slice 11 (pnv s.pend) .no] [] (.ret (.bool q)) [])
  (m:s.pend.length+s.run.length<=32->aq 102 [s.av] [] (.ret (.bool g)) [])
  (j:s.pend.length+s.run.length<=32->aq 103 [s.av] [] (.ret (.bool u)) [])
  (o:(if (((e||decide (k=0))&&decide (DG s))&&(q&&(g&&u)))=true then 0 else 1)=b):
  aq 54 [s.av] [] (.ret (ii b)) []:=by
 have t:(pnv s.pend).length=s.pend.length:=by simp
 have d:(rav s.run).length=s.run.length:=by simp
 have l:(fv s.hist).length=s.hist.length:=by simp
 have p:(nav s.c.ns).length=s.c.ns.length:=by simp
 refine c_ Tryz.f54 λ_=>?_
 repeat' first | (refine gN hE ?_;conv=>whnf) | refine Gd (Ac (Ac (by simp only [cJ,decide_eq_true_eq] at *;omega) (by simp only [bE,decide_eq_true_eq] at *;omega)) ?_) | refine .pure _ [] v ?_ | refine .pure _ [] i ?_ | refine .pure _ [] (r (by simp only [decide_eq_true_eq,decide_eq_false_iff_not,Cw,Ja] at *;omega)) ?_ | refine .pure _ [] (m (by simp only [decide_eq_true_eq,decide_eq_false_iff_not,Cw,Ja] at *;omega)) ?_ | refine .pure _ [] (j (by simp only [decide_eq_true_eq,decide_eq_false_iff_not,Cw,Ja] at *;omega)) ?_ | exact rfl | refine zt ?_ | refine zu ?_ ?_ | intro h | fail
 all_goals
  subst o;refine congrArg (λ n=>Res.ret (aa.int .i64 n)) ?_;simp only [decide_eq_true_eq,decide_eq_false_iff_not,Cw,Ja,beq_iff_eq,beq_eq_false_iff_ne,ne_eq] at *
  first
  | (exfalso;omega)
  | (by_cases a:DG s
     .rw [decide_eq_true a];unfold DG at a
      first
      | (exfalso;omega)
      | simp [*]
     .rw [decide_eq_false a]
      first
      | (exfalso;unfold DG at a;omega)
      | simp)
def GA(s:Sta)(a:s.c.sm)(hs:Sm s.run):aq 54 [s.av] [] (.ret (ii (if mM s=true then 0 else 1))) []:=by
 refine QO s (fZ s.c) (bU s.c) (aBr s.pend) (gaB s [] [] (qK s)) (MR s) _ (aDL s.c) (sO s.c a) (λ h=>?_) (λ h=>aDb s a o_ o_ hs) (λ h=>YN s a o_) ?_
 .have:=Q2.check_ok (s.pend.map Pn.q) (by rw [Cc];omega);rw [GG] at this;exact this
 .rw [aK7];unfold mM OC DG;congr 1;simp only [Ih]
end Go.Proofs.YtaeegbkbahgjhaaGreatDoor
namespace Go.Proofs.YtaeegbkbahgjhaaGreatDoor.C8
open Go Go.AW Go.Proofs Go.RowKit
set_option maxRecDepth 100000
set_option maxHeartbeats 2000000
abbrev tWr:TypeId:=196
def wN:liesAt Tryz.prog Tryz.prog.depth tWr (2 / Tryz.prog.cellsOf tWr) 0 144 1=true:=by kernel_rfl
def vW:(Tryz.prog.info? 144).map (·.size)=some 2:=by kernel_rfl
def LK:Tryz.prog.underlying 142=some (.pointer 144):=by kernel_rfl
def LJ:Tryz.prog.underlying 273=some .unsafePointer:=by kernel_rfl
def OP:Tryz.prog.funcs[154]? =some Tryz.f154:=by kernel_rfl
def gC(b:Nat)(w:World)(h:w.cell? ⟨b,0,none⟩=some (.pointer none))(a:w.shape? b=some (tWr,2))(g:w.frozen? ⟨b,0,none⟩=false):
  Calls Tryz.prog 105 #[.pointer (some ⟨b,0,none⟩)] w λ e w'=>e= .returned (.tuple #[])/\w'=w.setCell ⟨b,0,none⟩ (.pointer (some ⟨b,0,none⟩)):=by
 obtain ⟨j,d,c⟩:=Cf.1 vW
 go_enter Tryz.func105,Tryz.ntmps105
 go_wp2
 rw [Lib.run_to_unsafe w ⟨b,0,none⟩ LK LJ d (by rw [c];decide) a (Lw 1)];simp only [Ee];rw [Oper.upon_value]
 go_wp2
 rw [run_callFunc_extern OP (by kernel_rfl) (by kernel_rfl) (by kernel_rfl) (e:=Extern.AbiNoEscape.same) (by kernel_rfl)];rw [Lib.run_noEscape];simp only [Ee];rw [Oper.upon_value]
 go_wp2
 rw [Lib.run_from_unsafe w ⟨b,0,none⟩ LJ LK d a wN];simp only [Ee];rw [Oper.upon_value]
 go_wp2
 go_end0;exact ⟨rfl,rfl⟩
def aAH:Tryz.prog.underlying 201=some (.pointer 5):=by kernel_rfl
def aEu:Tryz.prog.cellsOf 5=1:=by kernel_rfl
def nS(b g cap:Nat)(p:Value)(a:Array Value)(l:ax)(w:World)(i:w.heap[b]? =some (.cells #[p,.slice (some ⟨g,0,none⟩) l.length cap] tWr (0,0)))(u:w.heap[g]? =some (.cells a 5 (0,0)))(o:l≠[])
  (n:l.length<=cap) (k:cap<=maxLen) (v:a.size=cap) (c:∀ (j:Nat) x,l[j]? =some x->w.cell? ⟨g,j,none⟩=some (.int .u8 x.toNat)):
  Calls Tryz.prog 59 #[.pointer (some ⟨b,0,none⟩)] w λ e w'=>e= .returned (.string ⟨l.toArray⟩)/\IF g l.length w w':=by
 have d:l.length≠0:=by simpa using o
 have y:w.drew.cell? ⟨b,1,none⟩=some (.slice (some ⟨g,0,none⟩) l.length cap):=by exact zqca31
 have r:(Iy #[83] 201 #[.slice (some ⟨g,0,none⟩) l.length cap]).run Tryz.prog w.drew= .ok (.pointer (some ⟨g,0,none⟩)) w.drew:=
  Lib.run_unsafeSliceData_row _ _ _ _ _ _ o_
 have q:(Jr #[201,3] 9 #[.pointer (some ⟨g,0,none⟩),.int .i64 l.length]).run Tryz.prog w.drew= .ok (.string ⟨l.toArray⟩) (w.drew.freeze ⟨g,0,none⟩ l.length):=by exact zqca13
 have m:Tryz.prog.follows Departure.mixedOrders=true:=hE.mix
 go_enter Tryz.func59,Tryz.ntmps59
 go_wp2
 go_region_o
 all_goals (go_wp2;go_ret;exact ⟨rfl,R0 d⟩)
def cc_fresh(s:aa):aq 105 [.ref 0 0] [.cells tWr [.nilptr,s]] (.ret (.tup [])) [.cells tWr [.ref 0 0,s]]:=
 nM (λ_ _=>by rfl) gC s
def str_ok(l:ax)(a:l≠[])(p:aa):aq 59 [.ref 0 0] [.cells tWr [p,.slice 1 (l.map ub) (.own 1 0)],.tail 0 1 5] (.ret (.str l)) [.dead,.dead]:=
 mD (λ_ _=>by rfl) nS l a p
open Go Go.AW Go.Proofs
def aU:Nat->Nat->Nat->ax->Option (Nat×Nat)
 | 0,_,_,_=>none
 | _+1,_,_,[]=>none
 | f+1,i,acc,c::r=>if c.toNat<128 then (if c.toNat=0/\0<i then none else some (acc+(c.toNat % 128)*2 ^ (7*i),i+1)) else aU f (i+1) (acc+(c.toNat % 128)*2 ^ (7*i)) r
def cR(l:ax):Option (Nat×Nat):=aU 9 0 0 l
def aMU:Option (Nat×Nat)->aa
 | some (n,k)=>.tup [.int .i64 n,.int .i64 k,.int .i64 0]
 | none=>.tup [.int .i64 0,.int .i64 0,.int .i64 10]
def putN(n:Nat):ax:=if n<128 then [Dt n] else Dt (128+n % 128)::putN (n / 128)
termination_by n
decreasing_by omega
def iB:∀ (f i a:Nat) (l:ax) (n k:Nat),i+f=9->a<2 ^ (7*i)->aU f i a l=some (n,k)->n<2 ^ 63/\i<k/\k<=9/\k<=i+l.length
 | 0,_,_,_,_,_,_,_,h=>by cases h
 | f+1,i,a,[],_,_,_,_,h=>by cases h
 | f+1,i,a,c::r,n,k,hi,ha,h=>by
  have b:a+(c.toNat % 128)*2 ^ (7*i)<2 ^ (7*(i+1)):=by
   have h3:c.toNat % 128<=127:=o_;have e:(c.toNat % 128)*2 ^ (7*i)<=127*2 ^ (7*i):=Br _ h3;have d:2 ^ (7*(i+1))=128*2 ^ (7*i):=by rw [Gj,Fi];omega
   omega
  simp only [aU] at h;split at h
  .split at h
   .cases h
   .cases h;have:2 ^ (7*(i+1))<=2 ^ 63:=Eu d_ o_;simp only [Al];omega
  .have:=iB f (i+1) _ r n k o_ b h;simp only [Al];omega
def MV:∀ (f i a:Nat) (l:ax) (n k:Nat),i+f=9->a<2 ^ (7*i)->aU f i a l=some (n,k)->∃ m,n=a+m*2 ^ (7*i)/\putN m=l.take (k-i)/\(0<i->0<m)
 | 0,_,_,_,_,_,_,_,h=>by cases h
 | f+1,i,a,[],_,_,_,_,h=>by cases h
 | f+1,i,a,c::r,n,k,q,ha,h=>by
  have p:2 ^ (7*(i+1))=128*2 ^ (7*i):=by rw [Gj,Fi];omega
  simp only [aU] at h;split at h
  .rename_i b;split at h
   .cases h
   .rename_i hz;cases h;refine ⟨c.toNat,by rw [Gx b],?_,λ q=>by omega⟩;rw [putN,if_pos b,Gm];simp
  .rename_i b;have d:a+(c.toNat % 128)*2 ^ (7*i)<2 ^ (7*(i+1)):=by have h3:c.toNat % 128<=127:=o_;have t:(c.toNat % 128)*2 ^ (7*i)<=127*2 ^ (7*i):=Br _ h3;omega
   obtain ⟨m,e,g,o⟩:=MV f (i+1) _ r n k o_ d h;have hm:=o o_;have s:=(iB f (i+1) _ r n k o_ d h).2.1;have j:c.toNat<256:=c.toNat_lt;refine ⟨c.toNat % 128+128*m,?_,?_,λ_=>by omega⟩
   .rw [e,p,Bw];have:m*(128*2 ^ (7*i))=128*m*2 ^ (7*i):=by rw [Nat.mul_left_comm,Hz]
    omega
   .rw [putN,if_neg o_,show (c.toNat % 128+128*m) / 128=m from by omega,show 128+(c.toNat % 128+128*m) % 128=c.toNat from by omega,g,show k-i=(k-(i+1))+1 from by omega];simp
def OG:∀ (f i a n:Nat) (s:ax),i+f=9->n<2 ^ (7*f)->(0<i->0<n)->aU f i a (putN n++s)=some (a+n*2 ^ (7*i),i+(putN n).length)
 | 0,i,a,n,s,_,hn,h0=>by simp at hn;omega
 | f+1,i,a,n,s,hi,hn,h0=>by
  have d:2 ^ (7*(f+1))=128*2 ^ (7*f):=by rw [Gj,Fi];omega
  have c:2 ^ (7*(i+1))=128*2 ^ (7*i):=by rw [Gj,Fi];omega
  rw [putN];by_cases h:n<128
  .have e:(Dt n).toNat=n:=by rw [Gy,Gx o_]
   rw [if_pos h];simp only [Ce,Bn,aU,e,if_pos h,Gx h];rw [if_neg o_];simp
  .have e:(Dt (128+n % 128)).toNat=128+n % 128:=by rw [Gy,Gx o_]
   rw [if_neg h];simp only [Ce,aU,e];rw [if_neg o_,OG f (i+1) _ (n / 128) s o_ o_ (λ_=>by omega)];have b:(128+n % 128) % 128=n % 128:=o_;rw [b,c];have g:n*2 ^ (7*i)=(n % 128)*2 ^ (7*i)+n / 128*(128*2 ^ (7*i)):=by rw [<-Hz,<-Bw];congr 1;omega
   simp only [Al,Dq,Lp];omega
def V6{l:ax}{n k:Nat}(h:cR l=some (n,k)):n<2 ^ 63/\0<k/\k<=9/\k<=l.length:=by have:=iB 9 0 0 l n k rfl d_ h;omega
def leN:ax->Nat
 | []=>0
 | c::r=>c.toNat+256*leN r
def JX:∀ (l:ax),leN l<2 ^ (8*l.length)
 | []=>by simp [leN]
 | c::r=>by have:=JX r;have h:=c.toNat_lt;simp only [leN,Al,Gj,Fi];omega
def rQ:∀ (l:ax) (c:UInt8),leN (l++[c])=leN l+c.toNat*2 ^ (8*l.length)
 | [],c=>by simp [leN]
 | d::r,c=>by
  simp only [Ce,leN,rQ r c,Al,Gj,Fi];have:c.toNat*(2 ^ (8*r.length)*2 ^ (8*1))=256*(c.toNat*2 ^ (8*r.length)):=by rw [<-Hz,Dd]
  omega
def F3{l:ax}{i:Nat}{c:UInt8}(h:l[i]? =some c):l.take (i+1)=l.take i++[c]:=by rw [Lj,h];rfl
def MU(n:Nat):∀ b,n<2 ^ (7*b)->(putN n).length<=b+1:=by
 induction n using Hx with
 | ind n c=>
  intro b a;rw [putN];split
  .simp
  .rename_i h;cases b with
   | zero=>simp at a;omega
   | succ b=>
    have:=c (n / 128) o_ b (by rw [Gj,Fi] at a;omega);simp only [Al];omega
def aC8(n:Nat)(s:ax)(a:n<2 ^ 63):cR (putN n++s)=some (n,(putN n).length):=by have:=OG 9 0 0 n s rfl o_ (λ h=>by omega);simpa [cR] using this
set_option maxRecDepth 10000
def aBU(n:Nat):∀ (a:ax),a.length+(putN n).length<=100->(n:Int)<=9223372036854775807->
  To (Eo [3] []) Tryz.f104 (.pure (.ret (.str (a++putN n)))) (.head (stk Tryz.f104 0) [(0,.int .i64 n),(3,.slice 1 (a.map ub) (.own 0 0))] [.tail 0 1 5]):=by
 induction n using Hx with
 | ind n g=>
  intro a c j;have e:(n:Int).fdiv (2 ^ Dp 7)=((n / 128:Nat):Int):=by rw [Dz _ d_];simp
  have d:=IG n;have hp:1<=(putN n).length:=by rw [putN];split<;>simp
  have hl:(a.map ub).length=a.length:=by simp
  refine gV ?_;refine ⟨λ h=>?_,λ h=>?_⟩
  .have h:127<n:=by have:=of_decide_eq_true h;omega
   have i:dL .or .u8 ((n % 256:Nat):Int) 128=((128+n % 128:Nat):Int):=by have:=oM .u8 (n % 256) 128 (by simp only [bE];omega) d_;rw [aKx ⟨n % 256,by omega⟩] at this;simp only at this;rw [show n % 256 % 128=n % 128 from by omega] at this;exact this
   have b:putN n=Dt (128+n % 128)::putN (n / 128):=by rw [putN,if_neg o_]
   refine gV ?_;refine .inr (gV ?_);refine ⟨⟨by simp only [maxLen];simp;omega,by simp;omega⟩,?_⟩;refine gV ?_;refine ⟨⟨by decide,by decide⟩,gV ?_⟩;rw [e,d,i];refine To.part [0,3] [0] rfl rfl rfl ?_;have:=g (n / 128) o_ (a++[Dt (128+n % 128)]) (by rw [b] at c;simp at c⊢;omega) o_;rw [b];rw [Af,Bm,Bl,LH o_] at this;exact this
  .have h:¬ 127<n:=by have:=of_decide_eq_false h;omega
   have b:putN n=[Dt n]:=by rw [putN,if_pos o_]
   refine gV ?_;refine .inr (gV ?_);refine ⟨⟨by simp only [maxLen];simp;omega,by simp;omega⟩,?_⟩;refine gV ?_;refine ⟨a++[Dt n],?_,by simp;omega,?_⟩
   .rw [d,Gx o_,<-LH o_,Bm];rfl
   refine gV ?_;rw [b]
def put_ok(n:Int):aq 104 [.int .i64 n] [] (.ret (.str (putN n.toNat))) []:=by refine cT (E:=(Eo [3] [])) (fn:=Tryz.f104) (g:=.pure _) λ a=>?_;have b:n<=9223372036854775807:=a.1.2;have:=MU n.toNat 9 o_;have e:max n 0=(n.toNat:Int):=o_;refine gV ?_;rw [e];refine To.head [0,3] ?_;exact aBU n.toNat [] (by simpa using (by omega:(putN n.toNat).length<=100)) o_
def pl:aw->ax
 | []=>[]
 | n::r=>putN n.toNat++pl r
def pl_append(a b:aw):pl (a++b)=pl a++pl b:=by
 induction a with
 | nil=>rfl
 | cons n r c=>simp [pl,c]
def pn_len{n:Int}(h:n<=9223372036854775807):(putN n.toNat).length<=10:=by have:=MU n.toNat 9 o_;omega
def pl_len:∀ {l:aw},(∀ n∈l,n<=9223372036854775807)->(pl l).length<=10*l.length
 | [],_=>by simp [pl]
 | n::r,h=>by have h1:=pn_len (h n s_);have a:=pl_len (l:=r) λ m hm=>h m (by simp [hm]);simp only [pl,Ai,Al];omega
def aKQ{n:Int}(h:pM n=true):0<=n/\n<=1099511627776:=by simpa [pM] using h
def okI_b:∀ {l:aw},okI l=true->∀ n∈l,0<=n/\n<=1099511627776
 | [],_,n,a=>by cases a
 | x::r,h,n,a=>by
  simp only [okI,Ad] at h;rcases Aw.1 a with rfl | a
  .exact aKQ h.1
  .exact okI_b h.2 n a
def _root_.Go.Proofs.YtaeegbkbahgjhaaGreatDoor.Gan.il(g:Gan):aw:=[g.id,g.ten,g.pods,g.need.a,g.need.b,g.need.c,g.run,g.lev,g.pref]
def _root_.Go.Proofs.YtaeegbkbahgjhaaGreatDoor.Nod.il(x:Nod):aw:=[x.p+1,x.w,x.n.a,x.n.b,x.n.c,x.b.a,x.b.b,x.b.c,x.l.a,x.l.b,x.l.c]
def _root_.Go.Proofs.YtaeegbkbahgjhaaGreatDoor.Hos.il(x:Hos):aw:=[x.f,x.b,x.r,x.c.a,x.c.b,x.c.c]
def nodL:bc->aw
 | []=>[]
 | x::r=>x.il++nodL r
def hosL:List Hos->aw
 | []=>[]
 | x::r=>x.il++hosL r
def _root_.Go.Proofs.YtaeegbkbahgjhaaGreatDoor.Con.il(c:Con):aw:=[((nav c.ns).length:Int)]++nodL c.ns++([((hav c.hs).length:Int)]++hosL c.hs++[c.half,c.age])
def _root_.Go.Proofs.YtaeegbkbahgjhaaGreatDoor.Cmd.il(x:Cmd):aw:=x.k::(if x.k==1 then x.c.il else if x.k==2 then x.g.il else if x.k==6 then [] else [x.n])
def aAA{v:V3}(h:okI v.l=true):(0<=v.a/\v.a<=1099511627776)/\(0<=v.b/\v.b<=1099511627776)/\(0<=v.c/\v.c<=1099511627776):=
 ⟨okI_b h _ (by simp [V3.l]),okI_b h _ (by simp [V3.l]),okI_b h _ (by simp [V3.l])⟩
abbrev wrO(bs:ax)(g:Nat):au:=[.cells tWr [.ref 0 0,.slice 1 (bs.map ub) (.own 1 g)],.tail g 1 5]
def KT(xs:ay):aq 105 [.ref 0 0] [.cells tWr [.ref 0 0,.slice 1 xs (.own 1 0)],.tail 0 1 5] (.ret (.tup [])) [.cells tWr [.ref 0 0,.slice 1 xs (.own 1 0)],.tail 0 1 5]:=by
 refine cT (E:=E) (fn:=Tryz.f105) (g:=.full 2 _ _) λ_=>?_
 repeat' first | (refine gN hE ?_;conv=>whnf) | exact rfl | refine zt ?_ | refine zu ?_ ?_ | intro h | fail
 exact zx [0,1]
def vD(s:ax)(hs:s.length<=1000):aq 56 [.ref 0 0,.str s] [.cells tWr [.nilptr,.slice 1 [] .nil]] (.ret (.tup [ii s.length,.nilif])) (wrO s 0):=by exact zqca11
def ws_ok(bs s:ax)(hs:bs.length+s.length<=1000000):aq 56 [.ref 0 0,.str s] (wrO bs 0) (.ret (.tup [ii s.length,.nilif])) (wrO (bs++s) 1):=by exact zqca8
noncomputable abbrev OQ:Func:=Tryz.f97
def xX(l:aw)(hl:((iv l).length:Int)<=9223372036854775807)(s:∀ n∈l,n<=9223372036854775807)(B:ax)(j:Nat)(o:10*l.length<=1000):∀ (n i g:Nat) (bs:ax),i+n=l.length->(g=0\/g=1)->(n=0->g=j)->(0<n->j=1)->bs.length+10*n<=100000->bs++pl (l.drop i)=B->
  To E OQ (.full 2 (.ret (.tup [])) (wrO B j)) (.head (stk OQ 0) [(0,.ref 0 0),(6,.slice 1 (iv l) .no),(7,.int .i64 ((iv l).length:Nat)),(8,.int .i64 i)] (wrO bs g)):=by
 have t:(iv l).length=l.length:=by simp
 intro n;induction n with
 | zero=>
  exact zqca10
 | succ n q=>
  intro i g bs u k _ m d a;have p:=m o_;subst p;have b:i<l.length:=o_;rw [Ae b] at a;have c:=s l[i] (Bf b);generalize r:l[i]=x at a c;have a:bs++(putN x.toNat++pl (l.drop (i+1)))=B:=a;rw [<-Af] at a;have get:(iv l)[i]? =some (ii x):=(gR b).trans (by rw [r]);have hp:=pn_len c;refine gV ?_;refine aT λ h=>gV ?_;refine ⟨i,rfl,gV ?_⟩;refine ⟨_,get,gV ?_⟩;refine .pure _ [] (put_ok x) ?_;exact zqca4
def nums_ok(l:aw)(i:l≠[])(c:∀ n∈l,n<=9223372036854775807)(b:l.length<=100)(bs:ax)(d:bs.length+10*l.length<=100000):
  aq 97 [.ref 0 0,.slice 1 (iv l) .no] (wrO bs 0) (.ret (.tup [])) (wrO (bs++pl l) 1):=by
 have e:(iv l).length=l.length:=by simp
 have a:0<l.length:=Dx.2 i;refine cT (E:=E) (fn:=Tryz.f97) (g:=.full 2 _ _) λ_=>?_;exact zqca25
def nums_fresh(k:Int)(a:k<=9223372036854775807):aq 97 [.ref 0 0,.slice 1 [ii k] .no] [.cells tWr [.nilptr,.slice 1 [] .nil]] (.ret (.tup [])) (wrO (putN k.toNat) 0):=by have hp:=pn_len a;refine cT (E:=E) (fn:=Tryz.f97) (g:=.full 1 _ _) λ_=>gV ?_;refine gV ?_;refine Ac (λ_=>?_) (λ h=>absurd (of_decide_eq_false h) s_);refine gV ?_;refine ⟨0,rfl,gV ?_⟩;refine ⟨_,rfl,gV ?_⟩;refine .pure _ [] (put_ok k) (gV ?_);refine .sole rfl (.eff [] [0] _ _ rfl (vD _ o_) ?_);exact zqca6
def v3_m{v:V3}(h:okI v.l=true):∀ n∈v.l,n<=9223372036854775807:=λ n a=>by have:=okI_b h n a;omega
def l3_m{a b c:Int}(h:okI [a,b,c]=true):∀ n∈[a,b,c],n<=9223372036854775807:=λ n d=>by have:=okI_b h n d;omega
def sF(v:V3)(h:okI v.l=true)(bs:ax)(a:bs.length<=90000):aq 147 [.ref 0 0,.agg v.cs] (wrO bs 0) (.ret (.tup [])) (wrO (bs++pl v.l) 1):=by refine cT (E:=E) (fn:=Tryz.f147) (g:=.full 2 _ _) λ_=>gV ?_;refine ⟨by decide,gV ?_⟩;refine .eff [2] [0,1] _ _ rfl (aA.strip (nums_ok v.l (by simp [V3.l]) (v3_m h) (by simp [V3.l]) bs (by simp [V3.l];omega))) ?_;exact zqca28
def gan_b{g:Gan}(h:g.ok=true):okI [g.id,g.ten,g.pods]=true/\okI g.need.l=true/\okI [g.run,g.lev,g.pref]=true:=by simp only [Gan.ok,okI,Ad,Kc] at h⊢;obtain ⟨⟨h1,b,h3,d,a,e⟩,c⟩:=h;exact ⟨⟨h1,b,h3⟩,c,d,a,e⟩
def aAw(g:Gan)(h:g.ok=true)(bs:ax)(b:bs.length<=80000):aq 99 [.ref 0 0,g.av] (wrO bs 0) (.ret (.tup [])) (wrO (bs++pl g.il) 1):=by
 obtain ⟨h1,a,h3⟩:=gan_b h;have l1:=pl_len (l3_m h1);have l2:=pl_len (v3_m a);have e:bs++pl g.il=((bs++pl [g.id,g.ten,g.pods])++pl g.need.l)++pl [g.run,g.lev,g.pref]:=by rw [Af,Af,<-pl_append,<-pl_append];rfl
 rw [e];simp only [V3.l,Al,Bu] at l1 l2;refine cT (E:=E) (fn:=Tryz.f99) (g:=.full 2 _ _) λ_=>gV ?_;refine .eff [] [0,1] _ _ rfl (aA.strip (nums_ok [g.id,g.ten,g.pods] s_ (l3_m h1) s_ bs q_)) (gV ?_);refine .eff [] [0,1] _ _ rfl (sF g.need a _ q_) (gV ?_);refine .eff [] [0,1] _ _ rfl (aA.strip (nums_ok [g.run,g.lev,g.pref] s_ (l3_m h3) s_ _ (by simp [V3.l];omega))) ?_;exact zqca28
noncomputable abbrev WT:Func:=Tryz.f98
def aCm{x:Nod}(h:x.ok=true):(-1<=x.p/\x.p<=1099511627776)/\(0<=x.w/\x.w<=1099511627776)/\okI x.n.l=true/\okI x.b.l=true/\okI x.l.l=true:=by simp only [Nod.ok,Ad,decide_eq_true_eq] at h;obtain ⟨⟨⟨⟨h1,c⟩,h3⟩,d⟩,a⟩:=h;exact ⟨h1,okI_b c _ s_,h3,d,a⟩
def aC0{x:Hos}(h:x.ok=true):okI [x.f,x.b,x.r]=true/\okI x.c.l=true:=by simpa only [Hos.ok,Ad] using h
def aIZ{l:bc}(h:uZ l=true):∀ (i:Nat) (a:i<l.length),l[i].ok=true:=by
 induction l with
 | nil=>intro i a;simp at a
 | cons x r b=>
  simp only [uZ,Ad] at h;intro i a;cases i with
  | zero=>exact h.1
  | succ i=>exact b h.2 i (by simpa using a)
def aI0{l:List Hos}(h:qP l=true):∀ (i:Nat) (a:i<l.length),l[i].ok=true:=by
 induction l with
 | nil=>intro i a;simp at a
 | cons x r b=>
  simp only [qP,Ad] at h;intro i a;cases i with
  | zero=>exact h.1
  | succ i=>exact b h.2 i (by simpa using a)
def il_len(x:Nod)(h:x.ok=true):(pl x.il).length<=110:=by
 obtain ⟨h1,d,h3,c,b⟩:=aCm h
 have:=pl_len (l:=x.il) (λ n a=>by
  simp only [Nod.il,Aw,Hk,or_false] at a;have f:=aAA h3;have g:=aAA c;have e:=aAA b
  rcases a with rfl | rfl | rfl | rfl | rfl | rfl | rfl | rfl | rfl | rfl | rfl<;>omega)
 simpa [Nod.il] using this
def ih_len(x:Hos)(h:x.ok=true):(pl x.il).length<=60:=by
 obtain ⟨h1,d⟩:=aC0 h
 have:=pl_len (l:=x.il) (λ n c=>by
  simp only [Hos.il,Aw,Hk,or_false] at c;have a:=okI_b h1;have e:=aAA d;have j:=a x.f s_;have g:=a x.b s_;have i:=a x.r s_
  rcases c with rfl | rfl | rfl | rfl | rfl | rfl<;>omega)
 simpa [Hos.il] using this
def XO(c:Con)(w:((hav c.hs).length:Int)<=24)(q:qP c.hs=true)(o:okI [c.half,c.age]=true)(B:ax):∀ (n i:Nat) (bs:ax),i+n=c.hs.length->bs.length+60*n<=20000->bs++(pl (hosL (c.hs.drop i))++pl [c.half,c.age])=B->
  To E WT (.full 2 (.ret (.tup [])) (wrO B 1)) (.head (stk WT 1) [(0,.ref 0 0),(3,.ref 2 0),(49,.slice 6 (hav c.hs) .no),(50,.int .i64 ((hav c.hs).length:Nat)),(51,.int .i64 i)] (wrO bs 1++[.cells 30 c.cs])):=by
 have s:(hav c.hs).length=c.hs.length:=by simp
 have hm:∀ n∈[c.half,c.age],n<=9223372036854775807:=λ n m=>by have:=okI_b o n m;omega
 intro n;induction n with
 | zero=>
  intro i bs u g a;rw [Ah o_] at a;have a:bs++pl [c.half,c.age]=B:=a;subst a;refine gV ?_;refine aF λ h=>gV ?_;refine .eff [] [0,1] _ _ rfl (aA.strip (nums_ok [c.half,c.age] s_ hm s_ bs q_)) ?_;exact zqca28
 | succ n k=>
  intro i bs u g a;have d:i<c.hs.length:=o_;rw [Ae d] at a;have e:=aI0 q i d;generalize p:c.hs[i]=x at a e;have a:bs++(pl (x.il++hosL (c.hs.drop (i+1)))++pl [c.half,c.age])=B:=a;obtain ⟨h1,j⟩:=aC0 e;have l1:=pl_len (l3_m h1);have l2:=pl_len (v3_m j);have v:=ih_len x e;simp only [V3.l,Al,Bu] at l1 l2;have ex:bs++pl x.il=(bs++pl [x.f,x.b,x.r])++pl x.c.l:=by rw [Af,<-pl_append];rfl
  rw [pl_append,Af,<-Af,ex] at a;have get:(hav c.hs)[i]? =some x.av:=(wU d).trans (by rw [p]);refine gV ?_;refine aT λ h=>gV ?_;refine ⟨i,rfl,gV ?_⟩;refine ⟨_,get,gV ?_⟩;refine .eff [] [0,1] _ _ rfl (aA.strip (nums_ok [x.f,x.b,x.r] s_ (l3_m h1) s_ bs q_)) (gV ?_);refine .eff [] [0,1] _ _ rfl (sF x.c j _ q_) (gV ?_);refine aJ (gV ?_);refine To.part [0,3,49,50,51] [0,1,2] rfl rfl rfl ?_;exact k (i+1) _ o_ (by rw [<-ex];simp;omega) a
def XM(c:Con)(g:((nav c.ns).length:Int)<=12)(D:((hav c.hs).length:Int)<=24)(k:uZ c.ns=true)(y:qP c.hs=true)(s:okI [c.half,c.age]=true)(B:ax):∀ (n i:Nat) (bs:ax),i+n=c.ns.length->bs.length+110*n<=10000->
  bs++(pl (nodL (c.ns.drop i))++(pl [((hav c.hs).length:Int)]++(pl (hosL c.hs)++pl [c.half,c.age])))=B->
  To E WT (.full 2 (.ret (.tup [])) (wrO B 1)) (.head (stk WT 0) [(0,.ref 0 0),(3,.ref 2 0),(15,.slice 11 (nav c.ns) .no),(16,.int .i64 ((nav c.ns).length:Nat)),(17,.int .i64 i)] (wrO bs 1++[.cells 30 c.cs])):=by
 have z:(nav c.ns).length=c.ns.length:=by simp
 have u:(hav c.hs).length=c.hs.length:=by simp
 intro n;induction n with
 | zero=>
  intro i bs A j a;rw [Ah o_] at a;have a:bs++(pl [((hav c.hs).length:Int)]++(pl (hosL c.hs)++pl [c.half,c.age]))=B:=a;rw [<-Af] at a;have f:∀ n∈[((hav c.hs).length:Int)],n<=9223372036854775807:=λ n g=>by simp at g;omega
  have l1:=pl_len f;simp only [Al,Bu] at l1;refine gV ?_;refine aF λ h=>gV ?_;refine .eff [] [0,1] _ _ rfl (aA.strip (nums_ok [((hav c.hs).length:Int)] s_ f s_ bs q_)) (gV ?_);refine To.part [0,3,49,50,51] [0,1,2] rfl rfl rfl ?_;exact XO c D y s B c.hs.length 0 _ o_ (by simp only [Ai];omega) a
 | succ n r=>
  intro i bs A j a;have d:i<c.ns.length:=o_;rw [Ae d] at a;have e:=aIZ k i d;generalize v:c.ns[i]=x at a e;have a:bs++(pl (x.il++nodL (c.ns.drop (i+1)))++_)=B:=a;obtain ⟨h1,F,h3,m,o⟩:=aCm e;have hm:∀ n∈[x.p+1,x.w],n<=9223372036854775807:=λ n g=>by simp at g;omega
  have l1:=pl_len hm;have l2:=pl_len (v3_m h3);have q:=pl_len (v3_m m);have C:=pl_len (v3_m o);have G:=il_len x e;simp only [V3.l,Al,Bu] at l1 l2 q C;have ex:bs++pl x.il=(((bs++pl [x.p+1,x.w])++pl x.n.l)++pl x.b.l)++pl x.l.l:=by rw [Af,Af,Af,<-pl_append,<-pl_append,<-pl_append];rfl
  rw [pl_append,Af,<-Af,ex] at a;have get:(nav c.ns)[i]? =some x.av:=(kX d).trans (by rw [v]);refine gV ?_;refine aT λ h=>gV ?_;refine ⟨i,rfl,gV ?_⟩;refine ⟨_,get,gV ?_⟩;refine aJ (gV ?_);refine .eff [] [0,1] _ _ rfl (aA.strip (nums_ok [x.p+1,x.w] s_ hm s_ bs q_)) (gV ?_);refine .eff [] [0,1] _ _ rfl (sF x.n h3 _ q_) (gV ?_);refine .eff [] [0,1] _ _ rfl (sF x.b m _ (by simp [V3.l];omega)) ?_;refine gV ?_;refine .eff [] [0,1] _ _ rfl (sF x.l o _ (by simp [V3.l];omega)) ?_;refine gV ?_;refine aJ (gV ?_);refine To.part [0,3,15,16,17] [0,1,2] rfl rfl rfl ?_;exact r (i+1) _ o_ (by rw [<-ex];simp;omega) a
def aAx(c:Con)(b:((nav c.ns).length:Int)<=12)(j:((hav c.hs).length:Int)<=24)(d:c.tok=true)(bs:ax)(e:bs.length<=100):
  aq 98 [.ref 0 0,c.av] (wrO bs 0) (.ret (.tup [])) (wrO (bs++pl c.il) 1):=by
 have i:(nav c.ns).length=c.ns.length:=by simp
 simp only [Con.tok,Ad] at d;obtain ⟨⟨h1,h⟩,h3⟩:=d;have a:∀ n∈[((nav c.ns).length:Int)],n<=9223372036854775807:=λ n b=>by simp at b;omega
 have l1:=pl_len a;simp only [Al,Bu] at l1;refine cT (E:=E) (fn:=Tryz.f98) (g:=.full 2 _ _) λ_=>gV ?_;refine .eff [] [0,1] _ _ rfl (aA.strip (nums_ok [((nav c.ns).length:Int)] s_ a s_ bs q_)) (gV ?_);refine To.part [0,3,15,16,17] [0,1,2] rfl rfl rfl ?_;exact XM c b j h1 h h3 _ c.ns.length 0 _ o_ (by simp only [Ai];omega) (by simp only [Con.il,pl_append,Af,Cq])
structure Told(x:Cmd):Prop where
 k:1<=x.k/\x.k<=6
 c:x.k=1\/x.c.non=true
 g:x.k=2\/x.g.isZ=true
 n:(x.k=3\/x.k=4\/x.k=5)\/x.n=0
 cok:x.c.tok=true
 gok:x.g.ok=true
 nok:0<=x.n/\x.n<=1099511627776
 ln:((nav x.c.ns).length:Int)<=12
 lh:((hav x.c.hs).length:Int)<=24
def pL{b:Bool}{y:Int}(h:(if b then y else 1)=0):b=true/\y=0:=by
 cases b with
 | true=>exact ⟨rfl,h⟩
 | false=>cases h
def chk_told{x:Cmd}(h:chk x=0):Told x:=by
 unfold chk at h;obtain ⟨h1,h⟩:=pL h;unfold chk2 at h;obtain ⟨h2,h⟩:=pL h;unfold chk3 at h;obtain ⟨h3,h⟩:=pL h;unfold chk4 at h;obtain ⟨h4,h⟩:=pL h;unfold chkC at h;obtain ⟨h5,h⟩:=pL h;unfold chkG at h;obtain ⟨h6,h⟩:=pL h;unfold chkN at h;obtain ⟨h7,h⟩:=pL h;unfold chkL at h;simp only [Ad,Fb,decide_eq_true_eq,beq_iff_eq] at h1 h2 h3 h4;have h8:decide (((nav x.c.ns).length:Int)<=12)=true/\decide (((hav x.c.hs).length:Int)<=24)=true:=by
  split at h
  .rename_i hh;simpa using hh
  .cases h
 exact ⟨h1,h2,h3,by rcases h4 with ((h4 | h4) | h4) | h4
                    .exact .inl (.inl h4)
                    .exact .inl (.inr (.inl h4))
                    .exact .inl (.inr (.inr h4))
                    .exact .inr h4,h5,h6,okI_b h7 _ s_,of_decide_eq_true h8.1,of_decide_eq_true h8.2⟩
def encB(x:Cmd):ax:=if chk x=0 then pl x.il else []
def pl_ne(k:Int)(r:aw):pl (k::r)≠[]:=by
 have:1<=(putN k.toNat).length:=by rw [putN];split<;>simp
 intro h;have h1:(pl (k::r)).length=0:=by rw [h];rfl
 simp only [pl,Ai] at h1;omega
def il_cons(x:Cmd)(r:aw)(h:(if x.k==1 then x.c.il else if x.k==2 then x.g.il else if x.k==6 then [] else [x.n])=r):putN x.k.toNat++pl r=pl x.il:=by subst h;rfl
def enc_ok(x:Cmd):aq 53 [x.av] [] (.ret (.tup [.str (encB x),ii (chk x)])) []:=by
 refine c_ Tryz.f53 λ_=>gV ?_;refine .pure _ [] (check_ok x) (gV ?_);refine ⟨λ h=>?_,λ h=>?_⟩
 .have h:(chk x !=0)=true:=h;have m:¬ chk x=0:=by simpa using h
  have e:encB x=[]:=if_neg m;rw [e];refine gW hE ?_;conv=>whnf
 .have h:(chk x !=0)=false:=h;have m:chk x=0:=by simpa using h
  have e:encB x=pl x.il:=if_pos m;rw [e,m];have T:=chk_told m;have o:x.k<=9223372036854775807:=by have:=T.k;omega
  have hp:=pn_len o;refine gV ?_;refine .eff [] [1] _ _ rfl (aA.strip (nums_fresh x.k o)) (gV ?_);refine Ac (λ h1=>?_) (λ h1=>?_)
  .have h1:(x.k==1)=true:=h1;have il:=il_cons x x.c.il (by rw [h1];rfl);have a:putN x.k.toNat++pl x.c.il≠[]:=by rw [il];exact pl_ne _ _
   refine gV ?_;refine .eff [] [1,2] _ _ rfl (aAx x.c T.ln T.lh T.cok _ o_) ?_;exact zqca23
  .have h1:(x.k==1)=false:=h1;refine gV ?_;refine Ac (λ b=>?_) (λ b=>?_)
   .have b:(x.k==2)=true:=b;have il:=il_cons x x.g.il (by rw [h1,b];rfl);have a:putN x.k.toNat++pl x.g.il≠[]:=by rw [il];exact pl_ne _ _
    refine gV ?_;refine .eff [] [1,2] _ _ rfl (aAw x.g T.gok _ o_) ?_;exact zqca23
   .have b:(x.k==2)=false:=b;have l:∀ n∈[x.n],n<=9223372036854775807:=λ n l=>by have:=T.nok;simp at l;omega
    refine gV ?_;refine Ac (λ h3=>?_) (λ h3=>?_)
    .have h3:(x.k==3)=true:=h3;have j:(x.k==6)=false:=by have:=eq_of_beq h3;rw [this];rfl
     refine gV ?_;refine Ac (λ_=>?_) (λ h=>absurd (h3.symm.trans h) d_);exact zqca3
    .have h3:(x.k==3)=false:=h3;refine gV ?_;refine Ac (λ d=>?_) (λ d=>?_)
     .have d:(x.k==4)=true:=d;have j:(x.k==6)=false:=by have:=eq_of_beq d;rw [this];rfl
      refine gV ?_;refine Ac (λ_=>?_) (λ h=>absurd (d.symm.trans h) d_);exact zqca3
     .have d:(x.k==4)=false:=d;refine gV ?_;refine Ac (λ i=>?_) (λ i=>?_)
      .have i:(x.k==5)=true:=i;have j:(x.k==6)=false:=by have:=eq_of_beq i;rw [this];rfl
       exact zqca3
      .have i:(x.k==5)=false:=i;have j:(x.k==6)=true:=by have:=T.k;simp at h1 b h3 d i⊢;omega
       have il:=il_cons x [] (by rw [h1,b,j];rfl);rw [show putN x.k.toNat++pl []=putN x.k.toNat from Ar _] at il;have a:putN x.k.toNat≠[]:=by rw [il];exact pl_ne _ _
       exact zqca23
def aC7(l:ax):∀ (f i a:Nat) (rest:ax),i+f=9->rest=l.drop i->i<=l.length->a<2 ^ (7*i)->
  To E Tryz.f205 (.pure (.ret (aMU (aU f i a rest)))) (.head (stk Tryz.f205 0) [(0,.str l),(5,.int .i64 a),(10,.int .i64 (min (l.length:Int) 9)),(11,.int .i64 i)] []):=by
 intro f;induction f with
 | zero=>
  intro i a rest x g hl o;refine gV ?_;refine aF λ h=>gV ?_;rfl
 | succ f s=>
  intro i a rest x g hl o;cases rest with
  | nil=>
   have u:l.length<=i:=by simpa using g.symm
   refine gV ?_;refine aF λ h=>gV ?_;rfl
  | cons c r=>
   have p:l[i]? =some c:=by
    have:(l.drop i)[0]? =some c:=by rw [<-g];rfl
    simpa using this
   have v:i<l.length:=(Ab.1 p).1;have m:r=l.drop (i+1):=by rw [<-Hl,<-g];rfl
   have z:2 ^ (7*(i+1))=128*2 ^ (7*i):=by rw [Gj,Fi];omega
   have h3:c.toNat % 128<=127:=o_;have y:(c.toNat % 128)*2 ^ (7*i)<=127*2 ^ (7*i):=Br _ h3;have B:2 ^ (7*(i+1))<=2 ^ 63:=Eu d_ o_;have w:c.toNat<256:=c.toNat_lt;have j:dL .and .u8 (c.toNat:Int) 127=((c.toNat % 128:Nat):Int):=by have:=yM .u8 c.toNat 127 (by simp only [bE];omega) d_;rw [show (127:Nat)=2 ^ 7-1 from rfl,aIW] at this;exact this
   have k:(7*(i:Int)).toNat=7*i:=o_;have q:((c.toNat % 128:Nat):Int)*2 ^ (7*i)=((c.toNat % 128*2 ^ (7*i):Nat):Int):=by simp
   have t:dL .or .i64 (a:Int) ((c.toNat % 128*2 ^ (7*i):Nat):Int)=((a+c.toNat % 128*2 ^ (7*i):Nat):Int):=by rw [oM .i64 _ _ (by simp only [bE];omega) (by simp only [bE];omega),RC o]
   refine gV ?_;refine aT λ h=>gV ?_;refine ⟨i,rfl,gV ?_⟩;refine ⟨c,p,gV ?_⟩;refine .inl ⟨by rw [j];exact sU (by simp only [bE];omega),?_⟩;refine gV ?_;refine aJ (gV ?_);refine ⟨by omega,gV ?_⟩;refine .inl ⟨⟨by rw [k];simp only [IntKind.bits];omega,by rw [j,k,q];exact sU (by simp only [bE];omega)⟩,?_⟩;refine gV ?_;rw [j,k,q,t];refine ⟨λ h=>?_,λ h=>?_⟩
   .have b:c.toNat<128:=by have:=of_decide_eq_true h;omega
    have n:¬ (c.toNat=0/\0<i)->aU (f+1) i a (c::r)=some (a+(c.toNat % 128)*2 ^ (7*i),i+1):=λ hz=>by rw [aU,if_pos b,if_neg hz]
    refine gV ?_;refine Ac (λ hz=>?_) (λ hz=>?_)
    .have hz:c.toNat=0:=by have hz:((c.toNat:Int)==0)=true:=hz;have:=eq_of_beq hz;omega
     refine gV ?_;refine Ac (λ d=>?_) (λ d=>?_)
     .have d:0<i:=by have:=of_decide_eq_true d;omega
      refine gV ?_;rw [aU,if_pos b,if_pos ⟨hz,d⟩];rfl
     .have d:¬ 0<i:=by have:=of_decide_eq_false d;omega
      rw [n o_];refine gV ?_;refine aJ (gV ?_);rfl
    .have hz:¬ c.toNat=0:=by have hz:((c.toNat:Int)==0)=false:=hz;intro e;rw [e] at hz;cases hz
     rw [n o_];refine gV ?_;refine aN (gV ?_);refine aJ (gV ?_);rfl
   .have b:¬ c.toNat<128:=by have:=of_decide_eq_false h;omega
    rw [aU,if_neg b];refine gV ?_;refine aJ (gV ?_);refine To.head [0,5,10,11] ?_;exact s (i+1) (a+(c.toNat % 128)*2 ^ (7*i)) r o_ m o_ o_
def aC6(l:ax):aq 205 [.str l] [] (.ret (aMU (cR l))) []:=by refine c_ Tryz.f205 λ_=>gV ?_;refine To.head [0,5,10,11] ?_;exact aC7 l 9 0 0 l rfl rfl (Bx _) d_
def aO{α:Type}{o:Option α}{C:Prop}(a:o=none->C)(h1:∀ x,o=some x->C):C:=by
 cases o with
 | none=>exact a rfl
 | some x=>exact h1 x rfl
abbrev tRd:TypeId:=279
abbrev rdO(s:ax):au:=[.cells tRd [.str s]]
abbrev rdU:au:=[.cells tRd [.undef]]
def bI(s:ax):Option (Int×ax):=match cR s with
 | some (n,k)=>some ((n:Int),s.drop k)
 | none=>none
def pE{α:Type}(av:α->aa):Option (α×ax)->Res
 | some (a,_)=>.ret (av a)
 | none=>.pan (aX 10)
def xW{α:Type}:Option (α×ax)->au
 | some (_,s)=>rdO s
 | none=>rdU
def bG{s s':ax}{n:Int}(h:bI s=some (n,s')):aq 159 [.ref 0 0] (rdO s) (.ret (ii n)) (rdO s'):=by
 unfold bI at h;split at h
 .rename_i m k b;cases h;have a:=aC6 s;rw [b] at a;have c:=V6 b;refine cT (E:=E) (fn:=Tryz.f159) (g:=.full 1 _ _) λ_=>gV ?_;refine .pure _ [] a (gV ?_);refine .pure _ [] (fP _ _ rfl) (gV ?_);refine ⟨k,rfl,gV ?_⟩;refine ⟨by omega,gV ?_⟩;exact zx [0]
 .cases h
def bO{s:ax}(h:bI s=none):aq 159 [.ref 0 0] (rdO s) (.pan (aX 10)) rdU:=by
 unfold bI at h;split at h
 .cases h
 .rename_i b;have a:=aC6 s;rw [b] at a;refine aA.blur (ao:=rdO s) ?_;refine cT (E:=E) (fn:=Tryz.f159) (g:=.full 1 _ _) λ_=>gV ?_;refine .pure _ [] a (gV ?_);refine .pan _ (dC _ _ rfl) ?_;exact zx [0]
def cU(s:ax):Option (Int×ax):=match bI s with
 | some (n,s')=>if decide (n<=(s'.length:Int)) then some (n,s') else none
 | none=>none
def mA{s s':ax}{n:Int}(h:cU s=some (n,s')):aq 206 [.ref 0 0] (rdO s) (.ret (ii n)) (rdO s'):=by
 unfold cU at h;split at h
 .rename_i m c b;split at h
  .rename_i a;cases h;refine cT (E:=E) (fn:=Tryz.f206) (g:=.full 1 _ _) λ_=>gV ?_;refine .eff [] [0] _ _ rfl (bG b) (gV ?_);refine .pure _ [] (fP _ _ a) (gV ?_);exact zx [0]
  .cases h
 .cases h
def jQ{s:ax}(h:cU s=none):aq 206 [.ref 0 0] (rdO s) (.pan (aX 10)) rdU:=by
 unfold cU at h;split at h
 .rename_i m c a;split at h
  .cases h
  .rename_i b;refine aA.blur (ao:=rdO c) ?_;refine cT (E:=E) (fn:=Tryz.f206) (g:=.full 1 _ _) λ_=>gV ?_;refine .eff [] [0] _ _ rfl (bG a) (gV ?_);refine .pan _ (dC _ _ (by simpa using b)) ?_;exact zx [0]
 .rename_i a;refine cT (E:=E) (fn:=Tryz.f206) (g:=.full 1 _ _) λ_=>gV ?_;refine .effp [] [0] _ _ rfl (bO a) ?_;exact zx [0]
def nE(s:ax):Option (V3×ax):=match bI s with
 | none=>none
 | some (a,s)=>match bI s with
  | none=>none
  | some (b,s)=>match bI s with
   | none=>none
   | some (c,s)=>some (⟨a,b,c⟩,s)
def TW(s:ax)(r:Res)(O:au)(d:pE (λ v:V3=>.agg v.cs) (nE s)=r)(e:xW (nE s)=O):aq 207 [.ref 0 0] (rdO s) r O:=by
 unfold nE at d e;refine cT (E:=E) (fn:=Tryz.f207) (g:=.full 1 _ _) λ_=>gV ?_;refine gV ?_;refine aY (gV ?_);refine aO (o:=bI s) (λ h1=>?_) (λ⟨a,i⟩ h1=>?_)
 .simp only [h1] at d e;have d:Res.pan (aX 10)=r:=d;have e:rdU=O:=e;subst d e;exact zqca19
 simp only [h1] at d e;refine .eff [] [0] _ _ rfl (bG h1) (gV ?_);refine ⟨⟨by decide,by decide⟩,gV ?_⟩;refine aJ (gV ?_);refine gV ?_;refine aY (gV ?_);refine aO (o:=bI i) (λ h=>?_) (λ⟨b,j⟩ h=>?_)
 .simp only [h] at d e;have d:Res.pan (aX 10)=r:=d;have e:rdU=O:=e;subst d e;refine .effp [] [0] _ _ rfl (bO h) ?_;exact zx [0]
 simp only [h] at d e;refine .eff [] [0] _ _ rfl (bG h) (gV ?_);refine ⟨⟨by decide,by decide⟩,gV ?_⟩;refine aJ (gV ?_);refine gV ?_;refine aY (gV ?_);refine aO (o:=bI j) (λ h3=>?_) (λ⟨c,k⟩ h3=>?_)
 .simp only [h3] at d e;have d:Res.pan (aX 10)=r:=d;have e:rdU=O:=e;subst d e;exact zqca18
 simp only [h3] at d e;refine .eff [] [0] _ _ rfl (bG h3) (gV ?_);refine ⟨⟨by decide,by decide⟩,gV ?_⟩;refine aJ (gV ?_);refine gV ?_;refine aN (gV ?_);subst d e;exact zqca7
def vK{s s':ax}{v:V3}(h:nE s=some (v,s')):aq 207 [.ref 0 0] (rdO s) (.ret (.agg v.cs)) (rdO s'):=TW s _ _ (by rw [h];rfl) (by rw [h];rfl)
def vL{s:ax}(h:nE s=none):aq 207 [.ref 0 0] (rdO s) (.pan (aX 10)) rdU:=TW s _ _ (by rw [h];rfl) (by rw [h];rfl)
def rGan(s:ax):Option (Gan×ax):=match bI s with
 | none=>none
 | some (a,s)=>match bI s with
  | none=>none
  | some (b,s)=>match bI s with
   | none=>none
   | some (c,s)=>match nE s with
    | none=>none
    | some (v,s)=>match bI s with
         | none=>none
         | some (d,s)=>match bI s with
          | none=>none
          | some (e,s)=>match bI s with
           | none=>none
           | some (f,s)=>some (⟨a,b,c,v,d,e,f⟩,s)
def MG(s:ax)(r:Res)(O:au)(h:pE Gan.av (rGan s)=r)(i:xW (rGan s)=O):aq 161 [.ref 0 0] (rdO s) r O:=by
 unfold rGan at h i;refine cT (E:=E) (fn:=Tryz.f161) (g:=.full 1 _ _) λ_=>gV ?_;refine aO (o:=bI s) (λ h1=>?_) (λ⟨a,q⟩ h1=>?_)
 .simp only [h1] at h i;have h:Res.pan (aX 10)=r:=h;have i:rdU=O:=i;subst h i;exact zqca19
 simp only [h1] at h i;refine .eff [] [0] _ _ rfl (bG h1) (gV ?_);refine aO (o:=bI q) (λ j=>?_) (λ⟨b,w⟩ j=>?_)
 .simp only [j] at h i;have h:Res.pan (aX 10)=r:=h;have i:rdU=O:=i;subst h i;exact zqca24
 simp only [j] at h i;refine .eff [] [0] _ _ rfl (bG j) (gV ?_);refine aO (o:=bI w) (λ h3=>?_) (λ⟨c,t⟩ h3=>?_)
 .simp only [h3] at h i;have h:Res.pan (aX 10)=r:=h;have i:rdU=O:=i;subst h i;exact zqca18
 simp only [h3] at h i;refine .eff [] [0] _ _ rfl (bG h3) (gV ?_);refine aO (o:=nE t) (λ l=>?_) (λ⟨v,u⟩ l=>?_)
 .simp only [l] at h i;have h:Res.pan (aX 10)=r:=h;have i:rdU=O:=i;subst h i;refine .effp [] [0] _ _ rfl (vL l) ?_;exact zx [0]
 simp only [l] at h i;refine .eff [] [0] _ _ rfl (vK l) (gV ?_);refine aO (o:=bI u) (λ m=>?_) (λ⟨d,x⟩ m=>?_)
 .simp only [m] at h i;have h:Res.pan (aX 10)=r:=h;have i:rdU=O:=i;subst h i;refine .effp [] [0] _ _ rfl (bO m) ?_;exact zx [0]
 simp only [m] at h i;refine .eff [] [0] _ _ rfl (bG m) (gV ?_);refine aO (o:=bI x) (λ n=>?_) (λ⟨e,p⟩ n=>?_)
 .simp only [n] at h i;have h:Res.pan (aX 10)=r:=h;have i:rdU=O:=i;subst h i;refine .effp [] [0] _ _ rfl (bO n) ?_;exact zx [0]
 simp only [n] at h i;refine .eff [] [0] _ _ rfl (bG n) (gV ?_);refine aO (o:=bI p) (λ k=>?_) (λ⟨f,y⟩ k=>?_)
 .simp only [k] at h i;have h:Res.pan (aX 10)=r:=h;have i:rdU=O:=i;subst h i;refine .effp [] [0] _ _ rfl (bO k) ?_;exact zx [0]
 simp only [k] at h i;refine .eff [] [0] _ _ rfl (bG k) (gV ?_);subst h i;exact zqca7
def BE{s s':ax}{v:Gan}(h:rGan s=some (v,s')):aq 161 [.ref 0 0] (rdO s) (.ret v.av) (rdO s'):=MG s _ _ (by rw [h];rfl) (by rw [h];rfl)
def wB{s:ax}(h:rGan s=none):aq 161 [.ref 0 0] (rdO s) (.pan (aX 10)) rdU:=MG s _ _ (by rw [h];rfl) (by rw [h];rfl)
def bP{s s':ax}{n:Int}(h:bI s=some (n,s')):0<=n/\n<=9223372036854775807/\s'.length+1<=s.length:=by
 unfold bI at h;split at h
 .rename_i m k a;cases h;have:=V6 a;simp only [Eh];omega
 .cases h
def eQ{s s':ax}{n:Int}(h:cU s=some (n,s')):0<=n/\n<=9223372036854775807/\s'.length+1<=s.length/\n<=s'.length:=by
 unfold cU at h;split at h
 .rename_i m c b;split at h
  .rename_i a;cases h;have:=bP b;have:=of_decide_eq_true a;omega
  .cases h
 .cases h
def rVec_b{s s':ax}{v:V3}(h:nE s=some (v,s')):s'.length+1<=s.length:=by
 unfold nE at h;split at h
 .cases h
 .rename_i h1;split at h
  .cases h
  .rename_i a;split at h
   .cases h
   .rename_i h3;cases h;have:=bP h1;have:=bP a;have:=bP h3;omega
def aGg(s:ax):Option (Nod×ax):=match bI s with
 | none=>none
 | some (p,s)=>match bI s with
  | none=>none
  | some (w,s)=>match nE s with
   | none=>none
   | some (a,s)=>match nE s with
    | none=>none
    | some (b,s)=>match nE s with
         | none=>none
         | some (c,s)=>some (⟨p-1,w,a,b,c⟩,s)
def wF(s:ax):Option (Hos×ax):=match bI s with
 | none=>none
 | some (f,s)=>match bI s with
  | none=>none
  | some (b,s)=>match bI s with
   | none=>none
   | some (r,s)=>match nE s with
    | none=>none
    | some (c,s)=>some (⟨f,b,r,c⟩,s)
def aGh(ns:bc)(hs:List Hos)(s:ax):Option (Con×ax):=match bI s with
 | none=>none
 | some (a,s)=>match bI s with
  | none=>none
  | some (b,s)=>some (⟨ns,hs,a,b⟩,s)
def rH(ns:bc):Nat->List Hos->ax->Option (Con×ax)
 | 0,hs,s=>aGh ns hs s
 | m+1,hs,s=>match wF s with
  | none=>none
  | some (x,s)=>rH ns m (hs++[x]) s
def rHs(ns:bc)(s:ax):Option (Con×ax):=match cU s with
 | none=>none
 | some (n,s)=>rH ns n.toNat [] s
def rN:Nat->bc->ax->Option (Con×ax)
 | 0,ns,s=>rHs ns s
 | m+1,ns,s=>match aGg s with
  | none=>none
  | some (x,s)=>rN m (ns++[x]) s
def FG(s:ax):Option (Con×ax):=match cU s with
 | none=>none
 | some (n,s)=>rN n.toNat [] s
noncomputable abbrev fRc:Func:=Tryz.f160
def aBL(ns:bc)(n:Int)(y:n<=9223372036854775807)(r:Res)(O:au):∀ (m i:Nat) (s:ax) (hs:List Hos),(i+m:Int)=n->hs.length+s.length<=1000000000->pE Con.av (rH ns m hs s)=r->xW (rH ns m hs s)=O->
  To E fRc (.full 1 r O) (.head (stk fRc 1) [(0,.ref 0 0),(2,.ref 1 0),(32,.int .i64 n),(33,.int .i64 i)] [.cells tRd [.str s],.cells 30 [.slice 11 (nav ns) .no,.slice 6 (hav hs) (.own 2 0),ii 0,ii 0],.tail 0 6 91]):=by
 intro m;induction m with
 | zero=>
  intro i s hs x hl d f;unfold rH aGh at d f;refine gV ?_;refine aF λ h=>gV ?_;refine aO (o:=bI s) (λ h1=>?_) (λ⟨a,k⟩ h1=>?_)
  .exact zqca35
  simp only [h1] at d f;refine .eff [] [0] _ _ rfl (bG h1) (gV ?_);refine aO (o:=bI k) (λ g=>?_) (λ⟨b,p⟩ g=>?_)
  .exact zqca27
  simp only [g] at d f;refine .eff [] [0] _ _ rfl (bG g) (gV ?_);subst d f;exact zqca7
 | succ m q=>
  intro i s hs x hl d f;unfold rH wF at d f;have l:(hav hs).length=hs.length:=by simp
  refine gV ?_;refine aT λ h=>gV ?_;refine aO (o:=bI s) (λ h1=>?_) (λ⟨a,k⟩ h1=>?_)
  .exact zqca35
  simp only [h1] at d f;refine .eff [] [0] _ _ rfl (bG h1) (gV ?_);refine aO (o:=bI k) (λ g=>?_) (λ⟨b,p⟩ g=>?_)
  .exact zqca27
  simp only [g] at d f;refine .eff [] [0] _ _ rfl (bG g) (gV ?_);refine aO (o:=bI p) (λ h3=>?_) (λ⟨c,u⟩ h3=>?_)
  .simp only [h3] at d f;have d:Res.pan (aX 10)=r:=d;have f:rdU=O:=f;subst d f;exact zqca18
  simp only [h3] at d f;refine .eff [] [0] _ _ rfl (bG h3) (gV ?_);refine aO (o:=nE u) (λ j=>?_) (λ⟨v,w⟩ j=>?_)
  .simp only [j] at d f;have d:Res.pan (aX 10)=r:=d;have f:rdU=O:=f;subst d f;refine .effp [] [0] _ _ rfl (vL j) ?_;exact zx [0]
  simp only [j] at d f;refine .eff [] [0] _ _ rfl (vK j) (gV ?_);have z:=bP h1;have A:=bP g;have C:=bP h3;have B:=rVec_b j;refine Ac ⟨by simp only [maxLen];simp;omega,by simp;omega⟩ ?_;refine gV ?_;refine aJ (gV ?_);refine To.part [0,2,32,33] [0,1,2] rfl rfl rfl ?_;have next:=q (i+1) w (hs++[⟨a,b,c,v⟩]) o_ q_ d f
  have e:hav (hs++[⟨a,b,c,v⟩])=hav hs++[Hos.av ⟨a,b,c,v⟩]:=by simp
  rw [e] at next
  exact next
def aBK(n:Int)(C:n<=9223372036854775807)(r:Res)(O:au):∀ (m i:Nat) (s:ax) (ns:bc),(i+m:Int)=n->ns.length+s.length<=1000000000->pE Con.av (rN m ns s)=r->xW (rN m ns s)=O->
  To E fRc (.full 1 r O) (.head (stk fRc 0) [(0,.ref 0 0),(2,.ref 1 0),(6,.int .i64 n),(7,.int .i64 i)] [.cells tRd [.str s],.cells 30 [.slice 11 (nav ns) (.own 2 0),.slice 6 [] .nil,ii 0,ii 0],.tail 0 11 89]):=by
 intro m;induction m with
 | zero=>
  intro i s ns A hl f g;unfold rN rHs at f g;refine gV ?_;refine aF λ h=>gV ?_;refine aO (o:=cU s) (λ h1=>?_) (λ⟨k,q⟩ h1=>?_)
  .simp only [h1] at f g;have f:Res.pan (aX 10)=r:=f;have g:rdU=O:=g;subst f g;refine .effp [] [0] _ _ rfl (jQ h1) ?_;exact zx [0]
  simp only [h1] at f g;refine .eff [] [0] _ _ rfl (mA h1) (gV ?_);have x:=eQ h1;refine To.part [0,2,32,33] [0,1] rfl rfl rfl ?_;refine To.begin 1 1 91 rfl rfl ?_;exact aBL ns k o_ r O k.toNat 0 q [] o_ q_ f g
 | succ m v=>
  intro i s ns A hl f g;unfold rN aGg at f g;have u:(nav ns).length=ns.length:=by simp
  refine gV ?_;refine aT λ h=>gV ?_;refine aO (o:=bI s) (λ h1=>?_) (λ⟨a,q⟩ h1=>?_)
  .simp only [h1] at f g;have f:Res.pan (aX 10)=r:=f;have g:rdU=O:=g;subst f g;exact zqca19
  simp only [h1] at f g;refine .eff [] [0] _ _ rfl (bG h1) (gV ?_);have x:=bP h1;refine aJ (gV ?_);refine aO (o:=bI q) (λ j=>?_) (λ⟨b,z⟩ j=>?_)
  .simp only [j] at f g;have f:Res.pan (aX 10)=r:=f;have g:rdU=O:=g;subst f g;exact zqca24
  simp only [j] at f g;refine .eff [] [0] _ _ rfl (bG j) (gV ?_);refine aO (o:=nE z) (λ h3=>?_) (λ⟨c,w⟩ h3=>?_)
  .simp only [h3] at f g;have f:Res.pan (aX 10)=r:=f;have g:rdU=O:=g;subst f g;refine .effp [] [0] _ _ rfl (vL h3) ?_;exact zx [0]
  simp only [h3] at f g;refine .eff [] [0] _ _ rfl (vK h3) (gV ?_);refine aO (o:=nE w) (λ l=>?_) (λ⟨d,y⟩ l=>?_)
  .simp only [l] at f g;have f:Res.pan (aX 10)=r:=f;have g:rdU=O:=g;subst f g;refine .effp [] [0] _ _ rfl (vL l) ?_;exact zx [0]
  simp only [l] at f g;refine .eff [] [0] _ _ rfl (vK l) (gV ?_);refine aO (o:=nE y) (λ p=>?_) (λ⟨e,B⟩ p=>?_)
  .simp only [p] at f g;have f:Res.pan (aX 10)=r:=f;have g:rdU=O:=g;subst f g;refine .effp [] [0] _ _ rfl (vL p) ?_;exact zx [0]
  simp only [p] at f g;refine .eff [] [0] _ _ rfl (vK p) (gV ?_);have F:=bP j;have H:=rVec_b h3;have G:=rVec_b l;have D:=rVec_b p;refine Ac ⟨by simp only [maxLen];simp;omega,by simp;omega⟩ ?_;refine gV ?_;refine aJ (gV ?_);refine To.part [0,2,6,7] [0,1,2] rfl rfl rfl ?_;have next:=v (i+1) B (ns++[⟨a-1,b,c,d,e⟩]) o_ q_ f g
  have e:nav (ns++[⟨a-1,b,c,d,e⟩])=nav ns++[Nod.av ⟨a-1,b,c,d,e⟩]:=by simp
  rw [e] at next
  exact next
def ML(s:ax)(hs:s.length<=1000000000)(r:Res)(O:au)(a:pE Con.av (FG s)=r)(b:xW (FG s)=O):aq 160 [.ref 0 0] (rdO s) r O:=by
 unfold FG at a b;refine cT (E:=E) (fn:=Tryz.f160) (g:=.full 1 _ _) λ_=>gV ?_;refine aO (o:=cU s) (λ h1=>?_) (λ⟨k,c⟩ h1=>?_)
 .exact zqca14
 simp only [h1] at a b;refine .eff [] [0] _ _ rfl (mA h1) (gV ?_);have d:=eQ h1;refine To.part [0,2,6,7] [0,1] rfl rfl rfl ?_;refine To.begin 1 0 89 rfl rfl ?_;exact aBK k o_ r O k.toNat 0 c [] o_ q_ a b
def aGe{s s':ax}(hs:s.length<=1000000000){v:Con}(h:FG s=some (v,s')):aq 160 [.ref 0 0] (rdO s) (.ret v.av) (rdO s'):=ML s hs _ _ (by rw [h];rfl) (by rw [h];rfl)
def aBJ{s:ax}(hs:s.length<=1000000000)(h:FG s=none):aq 160 [.ref 0 0] (rdO s) (.pan (aX 10)) rdU:=ML s hs _ _ (by rw [h];rfl) (by rw [h];rfl)
def _root_.Go.Proofs.YtaeegbkbahgjhaaGreatDoor.Con.zero:Con:=⟨[],[],0,0⟩
def FH(s:ax):Option (Cmd×ax):=match bI s with
 | none=>none
 | some (k,s)=>if k==1 then (match FG s with
   | none=>none
   | some (c,s)=>some (⟨k,c,Gan.zero,0⟩,s))
  else if k==2 then (match rGan s with
   | none=>none
   | some (g,s)=>some (⟨k,Con.zero,g,0⟩,s))
  else if (k==3||k==4)||k==5 then (match bI s with
   | none=>none
   | some (n,s)=>some (⟨k,Con.zero,Gan.zero,n⟩,s))
  else some (⟨k,Con.zero,Gan.zero,0⟩,s)
abbrev zCs:ay:=[ii 0,.slice 11 [] .nil,.slice 6 [] .nil,ii 0,ii 0,ii 0,ii 0,ii 0,ii 0,ii 0,ii 0,ii 0,ii 0,ii 0,ii 0]
abbrev dcO(s:ax):au:=[.cells 36 zCs,.cells tRd [.str s],.cells 277 [.ref 1 0]]
abbrev dcX(x:Cmd)(s:ax):au:=[.cells 36 x.cs,.cells tRd [.str s],.cells 277 [.ref 1 0]]
abbrev dcU:au:=tO (λ_=>.undef) (dcO [])
def aIs{s:ax}(h:bI s=none):aq 158 [.ref 2 0,.ref 0 0] (dcO s) (.pan (aX 10)) dcU:=by refine aA.blur (ao:=[.cells 36 zCs,.cells tRd [.undef],.cells 277 [.ref 1 0]]) ?_;refine cT (E:=E) (fn:=Tryz.f158) (g:=.full 3 _ _) λ_=>gV ?_;refine .effp [] [1] _ _ rfl (bO h) ?_;exact zx [0,1,2]
def aNq{s a:ax}(hs:a.length<=1000000000)(h:bI s=some (1,a))(b:FG a=none):aq 158 [.ref 2 0,.ref 0 0] (dcO s) (.pan (aX 10)) dcU:=by refine aA.blur (ao:=[.cells 36 (ii 1::zCs.tail),.cells tRd [.undef],.cells 277 [.ref 1 0]]) ?_;refine cT (E:=E) (fn:=Tryz.f158) (g:=.full 3 _ _) λ_=>gV ?_;refine .eff [] [1] _ _ rfl (bG h) (gV ?_);refine aY (gV ?_);refine .effp [] [1] _ _ rfl (aBJ hs b) ?_;exact zx [0,1,2]
def aN1{s a b:ax}{c:Con}(hs:a.length<=1000000000)(h:bI s=some (1,a))(d:FG a=some (c,b)):aq 158 [.ref 2 0,.ref 0 0] (dcO s) (.ret (.tup [])) (dcX ⟨1,c,Gan.zero,0⟩ b):=by refine cT (E:=E) (fn:=Tryz.f158) (g:=.full 3 _ _) λ_=>gV ?_;refine .eff [] [1] _ _ rfl (bG h) (gV ?_);refine aY (gV ?_);refine .eff [] [1] _ _ rfl (aGe hs d) (gV ?_);exact zx [0,1,2]
def aNp{s a:ax}(h:bI s=some (2,a))(b:rGan a=none):aq 158 [.ref 2 0,.ref 0 0] (dcO s) (.pan (aX 10)) dcU:=by refine aA.blur (ao:=[.cells 36 (ii 2::zCs.tail),.cells tRd [.undef],.cells 277 [.ref 1 0]]) ?_;refine cT (E:=E) (fn:=Tryz.f158) (g:=.full 3 _ _) λ_=>gV ?_;refine .eff [] [1] _ _ rfl (bG h) (gV ?_);refine aN (gV ?_);refine aY (gV ?_);refine .effp [] [1] _ _ rfl (wB b) ?_;exact zx [0,1,2]
def aN0{s e d:ax}{g:Gan}(h:bI s=some (2,e))(i:rGan e=some (g,d)):aq 158 [.ref 2 0,.ref 0 0] (dcO s) (.ret (.tup [])) (dcX ⟨2,Con.zero,g,0⟩ d):=by refine aA.loose (ao:=[.cells 36 [ii 2,.slice 11 [] .nil,.slice 6 [] .nil,ii 0,ii 0,ii g.id,ii g.ten,ii g.pods,ii g.need.a,ii g.need.b,ii g.need.c,ii g.run,ii g.lev,ii g.pref,ii 0],.cells tRd [.str d],.cells 277 [.ref 1 0]]) ?_;refine cT (E:=E) (fn:=Tryz.f158) (g:=.full 3 _ _) λ_=>gV ?_;refine .eff [] [1] _ _ rfl (bG h) (gV ?_);refine aN (gV ?_);refine aY (gV ?_);refine .eff [] [1] _ _ rfl (BE i) (gV ?_);exact zx [0,1,2]
def aNo{s b:ax}{k:Int}(c:k=3\/k=4\/k=5)(h:bI s=some (k,b))(a:bI b=none):aq 158 [.ref 2 0,.ref 0 0] (dcO s) (.pan (aX 10)) dcU:=by
 rcases c with rfl | rfl | rfl
 .refine aA.blur (ao:=[.cells 36 (ii 3::zCs.tail),.cells tRd [.undef],.cells 277 [.ref 1 0]]) ?_;refine cT (E:=E) (fn:=Tryz.f158) (g:=.full 3 _ _) λ_=>gV ?_;refine .eff [] [1] _ _ rfl (bG h) (gV ?_)
  repeat' first | (refine gN hE ?_;conv=>whnf) | refine .effp [] [1] _ _ rfl (bO a) ?_ | exact rfl | refine zt ?_ | refine zu ?_ ?_ | intro h | fail
  exact zx [0,1,2]
 .refine aA.blur (ao:=[.cells 36 (ii 4::zCs.tail),.cells tRd [.undef],.cells 277 [.ref 1 0]]) ?_;refine cT (E:=E) (fn:=Tryz.f158) (g:=.full 3 _ _) λ_=>gV ?_;refine .eff [] [1] _ _ rfl (bG h) (gV ?_)
  repeat' first | (refine gN hE ?_;conv=>whnf) | refine .effp [] [1] _ _ rfl (bO a) ?_ | exact rfl | refine zt ?_ | refine zu ?_ ?_ | intro h | fail
  exact zx [0,1,2]
 .refine aA.blur (ao:=[.cells 36 (ii 5::zCs.tail),.cells tRd [.undef],.cells 277 [.ref 1 0]]) ?_;refine cT (E:=E) (fn:=Tryz.f158) (g:=.full 3 _ _) λ_=>gV ?_;refine .eff [] [1] _ _ rfl (bG h) (gV ?_)
  repeat' first | (refine gN hE ?_;conv=>whnf) | refine .effp [] [1] _ _ rfl (bO a) ?_ | exact rfl | refine zt ?_ | refine zu ?_ ?_ | intro h | fail
  exact zx [0,1,2]
abbrev nCs(k n:Int):ay:=[ii k,.slice 11 [] .nil,.slice 6 [] .nil,ii 0,ii 0,ii 0,ii 0,ii 0,ii 0,ii 0,ii 0,ii 0,ii 0,ii 0,ii n]
def aNZ{s c b:ax}{k n:Int}(d:k=3\/k=4\/k=5)(h:bI s=some (k,c))(a:bI c=some (n,b)):aq 158 [.ref 2 0,.ref 0 0] (dcO s) (.ret (.tup [])) (dcX ⟨k,Con.zero,Gan.zero,n⟩ b):=by
 refine aA.loose (ao:=[.cells 36 (nCs k n),.cells tRd [.str b],.cells 277 [.ref 1 0]]) ?_;rcases d with rfl | rfl | rfl
 .refine cT (E:=E) (fn:=Tryz.f158) (g:=.full 3 _ _) λ_=>gV ?_;refine .eff [] [1] _ _ rfl (bG h) (gV ?_)
  repeat' first | (refine gN hE ?_;conv=>whnf) | refine .eff [] [1] _ _ rfl (bG a) ?_ | exact rfl | refine zt ?_ | refine zu ?_ ?_ | intro h | fail
  exact zx [0,1,2]
 .refine cT (E:=E) (fn:=Tryz.f158) (g:=.full 3 _ _) λ_=>gV ?_;refine .eff [] [1] _ _ rfl (bG h) (gV ?_)
  repeat' first | (refine gN hE ?_;conv=>whnf) | refine .eff [] [1] _ _ rfl (bG a) ?_ | exact rfl | refine zt ?_ | refine zu ?_ ?_ | intro h | fail
  exact zx [0,1,2]
 .refine cT (E:=E) (fn:=Tryz.f158) (g:=.full 3 _ _) λ_=>gV ?_;refine .eff [] [1] _ _ rfl (bG h) (gV ?_)
  repeat' first | (refine gN hE ?_;conv=>whnf) | refine .eff [] [1] _ _ rfl (bG a) ?_ | exact rfl | refine zt ?_ | refine zu ?_ ?_ | intro h | fail
  exact zx [0,1,2]
def aNY{s a:ax}{k:Int}(h1:(k==1)=false)(c:(k==2)=false)(h3:(k==3)=false)(d:(k==4)=false)(b:(k==5)=false)(h:bI s=some (k,a)):
  aq 158 [.ref 2 0,.ref 0 0] (dcO s) (.ret (.tup [])) (dcX ⟨k,Con.zero,Gan.zero,0⟩ a):=by
 refine aA.loose (ao:=[.cells 36 (nCs k 0),.cells tRd [.str a],.cells 277 [.ref 1 0]]) ?_;refine cT (E:=E) (fn:=Tryz.f158) (g:=.full 3 _ _) λ_=>gV ?_;refine .eff [] [1] _ _ rfl (bG h) (gV ?_);refine Ac (λ h=>absurd (h.symm.trans h1) d_) (λ_=>gV ?_);refine Ac (λ h=>absurd (h.symm.trans c) d_) (λ_=>gV ?_);refine Ac (λ h=>absurd (h.symm.trans h3) d_) (λ_=>gV ?_);refine Ac (λ h=>absurd (h.symm.trans d) d_) (λ_=>gV ?_);refine Ac (λ h=>absurd (h.symm.trans b) d_) (λ_=>gV ?_);exact zx [0,1,2]
def aNn{s s':ax}{x:Cmd}(hs:s.length<=1000000000)(h:FH s=some (x,s')):aq 158 [.ref 2 0,.ref 0 0] (dcO s) (.ret (.tup [])) (dcX x s'):=by
 unfold FH at h;split at h
 .cases h
 .rename_i k i h1;have g:=bP h1;split at h
  .rename_i a;have a:=eq_of_beq a;subst a;split at h
   .cases h
   .rename_i c;cases h;exact aN1 o_ h1 c
  .rename_i d;split at h
   .rename_i a;have a:=eq_of_beq a;subst a;split at h
    .cases h
    .rename_i c;cases h;exact aN0 h1 c
   .rename_i e;split at h
    .rename_i a;simp at a;split at h
     .cases h
     .rename_i c;cases h;exact aNZ o_ h1 c
    .rename_i b;cases h;simp only [Fb,not_or,Bool.not_eq_true] at d e b;exact aNY d e b.1.1 b.1.2 b.2 h1
def aLE{s:ax}(hs:s.length<=1000000000)(h:FH s=none):aq 158 [.ref 2 0,.ref 0 0] (dcO s) (.pan (aX 10)) dcU:=by
 unfold FH at h;split at h
 .rename_i h1;exact aIs h1
 .rename_i k d h1;have c:=bP h1;split at h
  .rename_i a;have a:=eq_of_beq a;subst a;split at h
   .rename_i b;exact aNq o_ h1 b
   .cases h
  .split at h
   .rename_i a;have a:=eq_of_beq a;subst a;split at h
    .rename_i b;exact aNp h1 b
    .cases h
   .split at h
    .rename_i a;simp at a;split at h
     .rename_i b;exact aNo o_ h1 b
     .cases h
    .cases h
abbrev d1V:aa:=.func (.func 158) [] [.ref 2 0,.ref 0 0]
noncomputable abbrev Et:Env:=Ed [(71,[.ref 3 0])]
def hEt:ae Et:=hEd _
def aJA{s s':ax}{x:Cmd}(hs:s.length<=1000000000)(h:FH s=some (x,s')):aq 157 [d1V] (dcO s) (.ret (ii 0)) (dcX x s'):=by
 refine cT (E:=E) (fn:=Tryz.f157) (g:=.full 3 _ _) λ_=>gV ?_;refine To.defer (f:=71) (args:=[.ref 3 0]) _ rfl rfl ?_;refine gW hEt ?_;conv=>whnf
 refine .eff [] [0,1,2] _ _ rfl (aNn hs h) ?_;refine gW hEt ?_;conv=>whnf
 refine To.leave (f:=71) (args:=[.ref 3 0]) [] rfl [] [3] rfl (catch_ret 0) ?_;exact zqca15
def aE8{s:ax}(hs:s.length<=1000000000)(h:FH s=none):aq 157 [d1V] (dcO s) (.ret (ii 10)) dcU:=by
 refine cT (E:=E) (fn:=Tryz.f157) (g:=.full 3 _ _) λ_=>gV ?_;refine To.defer (f:=71) (args:=[.ref 3 0]) _ rfl rfl ?_;refine gW hEt ?_;conv=>whnf
 refine .effp [] [0,1,2] _ _ rfl (aLE hs h) ?_;conv=>whnf
 refine To.leave (f:=71) (args:=[.ref 3 0]) [] rfl [] [3] rfl (catch_pan 0 10) ?_;exact zqca15
def _root_.Go.Proofs.YtaeegbkbahgjhaaGreatDoor.Cmd.zero:Cmd:=⟨0,Con.zero,Gan.zero,0⟩
def dec(s:ax):Option Cmd:=match FH s with
 | some (x,r)=>if r=[]/\chk x=0 then some x else none
 | none=>none
def decX(s:ax):Cmd:=(dec s).getD Cmd.zero
def decE(s:ax):Int:=match dec s with | some _=>0 | none=>10
def decode_ok(s:ax)(hs:s.length<=1000000000):aq 107 [.str s] [] (.ret (.tup [(decX s).av,ii (decE s)])) []:=by
 refine c_ Tryz.f107 λ_=>gV ?_;refine aO (o:=FH s) (λ h=>?_) (λ⟨x,r⟩ h=>?_)
 .have c:decX s=Cmd.zero:=by unfold decX dec;rw [h];rfl
  have k:decE s=10:=by unfold decE dec;rw [h]
  rw [c,k];refine .eff [] [1,2,3] _ _ rfl (aE8 hs h) ?_
  repeat' first | (refine gN hE ?_;conv=>whnf) | exact rfl | refine zt ?_ | refine zu ?_ ?_ | intro h | fail
 .refine .eff [] [1,2,3] _ _ rfl (aJA hs h) (gV ?_);refine aN (gV ?_);refine Ac (λ b=>?_) (λ b=>?_)
  .have b:(!(r==[]))=true:=b;have d:¬ r=[]:=by intro e;rw [e] at b;simp at b
   have a:dec s=none:=by unfold dec;rw [h];exact if_neg (λ h=>d h.1)
   have c:decX s=Cmd.zero:=by unfold decX;rw [a];rfl
   have k:decE s=10:=by unfold decE;rw [a]
   rw [c,k]
   repeat' first | (refine gN hE ?_;conv=>whnf) | exact rfl | refine zt ?_ | refine zu ?_ ?_ | intro h | fail
  .have b:(!(r==[]))=false:=b;have d:r=[]:=by simpa using b
   refine gV ?_;refine .pure _ [] (check_ok x) (gV ?_);refine Ac (λ j=>?_) (λ j=>?_)
   .have j:(chk x !=0)=true:=j;have i:¬ chk x=0:=by simpa using j
    have a:dec s=none:=by unfold dec;rw [h];exact if_neg (λ h=>i h.2)
    have c:decX s=Cmd.zero:=by unfold decX;rw [a];rfl
    have k:decE s=10:=by unfold decE;rw [a]
    rw [c,k]
    repeat' first | (refine gN hE ?_;conv=>whnf) | exact rfl | refine zt ?_ | refine zu ?_ ?_ | intro h | fail
   .have j:(chk x !=0)=false:=j;have i:chk x=0:=by simpa using j
    have a:dec s=some x:=by unfold dec;rw [h];exact if_pos ⟨d,i⟩
    have c:decX s=x:=by unfold decX;rw [a];rfl
    have k:decE s=0:=by unfold decE;rw [a]
    rw [c,k]
    repeat' first | (refine gN hE ?_;conv=>whnf) | exact rfl | refine zt ?_ | refine zu ?_ ?_ | intro h | fail
def aZ{n:Int}(a:0<=n)(h:n<=1099511627777)(s:ax):bI (putN n.toNat++s)=some (n,s):=by unfold bI;rw [aC8 n.toNat s o_];simp only [Ji,Dq,Lp,and_true];omega
def rG{v:V3}(h:okI v.l=true)(s:ax):nE (pl v.l++s)=some (v,s):=by
 obtain ⟨h1,d,h3⟩:=aAA h;have e:pl v.l++s=putN v.a.toNat++(putN v.b.toNat++(putN v.c.toNat++s)):=by simp [pl,V3.l]
 rw [e];unfold nE;rw [aZ h1.1 o_];dsimp only;rw [aZ d.1 o_];dsimp only;rw [aZ h3.1 o_]
def nY{g:Gan}(h:g.ok=true)(s:ax):rGan (pl g.il++s)=some (g,s):=by
 obtain ⟨h1,a,h3⟩:=gan_b h;have j:=okI_b h1 g.id s_;have c:=okI_b h1 g.ten s_;have i:=okI_b h1 g.pods s_;have d:=okI_b h3 g.run s_;have b:=okI_b h3 g.lev s_;have f:=okI_b h3 g.pref s_;have e:pl g.il++s=putN g.id.toNat++(putN g.ten.toNat++(putN g.pods.toNat++(pl g.need.l++(putN g.run.toNat++(putN g.lev.toNat++(putN g.pref.toNat++s)))))):=by simp [pl,Gan.il,V3.l]
 rw [e];unfold rGan;rw [aZ j.1 o_];dsimp only;rw [aZ c.1 o_];dsimp only;rw [aZ i.1 o_];dsimp only;rw [rG a];dsimp only;rw [aZ d.1 o_];dsimp only;rw [aZ b.1 o_];dsimp only;rw [aZ f.1 o_]
def aBP{x:Nod}(h:x.ok=true)(s:ax):aGg (pl x.il++s)=some (x,s):=by
 obtain ⟨h1,c,h3,d,a⟩:=aCm h;have e:pl x.il++s=putN (x.p+1).toNat++(putN x.w.toNat++(pl x.n.l++(pl x.b.l++(pl x.l.l++s)))):=by simp [pl,Nod.il,V3.l]
 rw [e];unfold aGg;rw [aZ o_ o_];dsimp only;rw [aZ c.1 o_];dsimp only;rw [rG h3];dsimp only;rw [rG d];dsimp only;rw [rG a];simp
def wE{x:Hos}(h:x.ok=true)(s:ax):wF (pl x.il++s)=some (x,s):=by
 obtain ⟨h1,a⟩:=aC0 h;have i:=okI_b h1 x.f s_;have d:=okI_b h1 x.b s_;have g:=okI_b h1 x.r s_;have e:pl x.il++s=putN x.f.toNat++(putN x.b.toNat++(putN x.r.toNat++(pl x.c.l++s))):=by simp [pl,Hos.il,V3.l]
 rw [e];unfold wF;rw [aZ i.1 o_];dsimp only;rw [aZ d.1 o_];dsimp only;rw [aZ g.1 o_];dsimp only;rw [rG a]
def putN_pos(n:Nat):1<=(putN n).length:=by rw [putN];split<;>simp
def NJ:∀ (l:bc),l.length<=(pl (nodL l)).length
 | []=>by simp
 | x::r=>by
  have h1:=NJ r;have a:=putN_pos (x.p+1).toNat;simp only [nodL,pl_append,Ai,Al];have:1<=(pl x.il).length:=by simp only [Nod.il,pl,Ai];omega
  omega
def N9:∀ (l:List Hos),l.length<=(pl (hosL l)).length
 | []=>by simp
 | x::r=>by
  have h1:=N9 r;have a:=putN_pos x.f.toNat;simp only [hosL,pl_append,Ai,Al];have:1<=(pl x.il).length:=by simp only [Hos.il,pl,Ai];omega
  omega
def fX{n:Int}(a:0<=n)(h:n<=1099511627777)(s:ax)(hs:n<=s.length):cU (putN n.toNat++s)=some (n,s):=by unfold cU;rw [aZ a h];dsimp only;rw [if_pos (by simpa using hs)]
def aBQ:∀ (l:bc) (a:bc) (s:ax),uZ l=true->rN l.length a (pl (nodL l)++s)=rHs (a++l) s
 | [],a,s,_=>by simp [rN,nodL,pl]
 | x::r,a,s,h=>by
  simp only [uZ,Ad] at h;have e:pl (nodL (x::r))++s=pl x.il++(pl (nodL r)++s):=by simp [nodL,pl_append]
  rw [e,Al];unfold rN;rw [aBP h.1];dsimp only;rw [aBQ r (a++[x]) s h.2];simp
def CN(ns:bc):∀ (l:List Hos) (a:List Hos) (s:ax),qP l=true->rH ns l.length a (pl (hosL l)++s)=aGh ns (a++l) s
 | [],a,s,_=>by simp [rH,hosL,pl]
 | x::r,a,s,h=>by
  simp only [qP,Ad] at h;have e:pl (hosL (x::r))++s=pl x.il++(pl (hosL r)++s):=by simp [hosL,pl_append]
  rw [e,Al];unfold rH;rw [wE h.1];dsimp only;rw [CN ns r (a++[x]) s h.2];simp
def MP{c:Con}(h:c.tok=true)(g:c.ns.length<=12)(j:c.hs.length<=24)(s:ax):FG (pl c.il++s)=some (c,s):=by
 simp only [Con.tok,Ad] at h;obtain ⟨⟨h1,a⟩,h3⟩:=h;have d:=okI_b h3 c.half s_;have b:=okI_b h3 c.age s_;have l1:(nav c.ns).length=c.ns.length:=by simp
 have l2:(hav c.hs).length=c.hs.length:=by simp
 have i:=NJ c.ns;have f:=N9 c.hs;have e:pl c.il++s=putN ((nav c.ns).length:Int).toNat++(pl (nodL c.ns)++(putN ((hav c.hs).length:Int).toNat++(pl (hosL c.hs)++(putN c.half.toNat++(putN c.age.toNat++s))))):=by simp [pl,pl_append,Con.il]
 rw [e];unfold FG;rw [fX o_ o_ _ (by simp only [Ai];omega)];dsimp only;rw [Bv,l1,aBQ c.ns [] _ h1];unfold rHs;rw [fX o_ o_ _ (by simp only [Ai];omega)];dsimp only;rw [Bv,l2,CN _ c.hs [] _ a];unfold aGh;rw [aZ d.1 o_];dsimp only;rw [aZ b.1 o_];simp
def aEe{c:Con}(h:c.non=true):c=Con.zero:=by
 simp only [Con.non,Ad,beq_iff_eq] at h;obtain ⟨⟨⟨h1,b⟩,h3⟩,d⟩:=h;obtain ⟨ns,hs,half,age⟩:=c;dsimp only at h1 b h3 d;have e:ns=[]:=by cases ns with | nil=>rfl | cons a l=>simp at h1;omega
 have f:hs=[]:=by cases hs with | nil=>rfl | cons a l=>simp at b;omega
 subst e f h3 d;rfl
def OJ{g:Gan}(h:g.isZ=true):g=Gan.zero:=Gan.eqb_eq.1 h
def rCmd_put{x:Cmd}(T:Told x):FH (pl x.il)=some (x,[]):=by
 obtain ⟨k,c,g,n⟩:=x;have l1:(nav c.ns).length=c.ns.length:=by simp
 have l2:(hav c.hs).length=c.hs.length:=by simp
 have o:((nav c.ns).length:Int)<=12:=T.ln;have m:((hav c.hs).length:Int)<=24:=T.lh;have r:1<=k/\k<=6:=T.k;have t:k=1\/c.non=true:=T.c;have i:k=2\/g.isZ=true:=T.g;have b:(k=3\/k=4\/k=5)\/n=0:=T.n;have h:0<=n/\n<=1099511627776:=T.nok;have cok:c.tok=true:=T.cok;have gok:g.ok=true:=T.gok;clear T;have e:pl (Cmd.il ⟨k,c,g,n⟩)=putN k.toNat++pl (if k==1 then c.il else if k==2 then g.il else if k==6 then [] else [n]):=rfl;rw [e];unfold FH;rw [aZ o_ o_];dsimp only;rcases t with rfl | f
 .have d:g=Gan.zero:=OJ (i.resolve_left o_);have a:n=0:=b.resolve_left o_;subst d a;have:=MP cok o_ o_ [];rw [Ar] at this;simp only [beq_self_eq_true,if_true];rw [this]
 .have f:c=Con.zero:=aEe f;subst f;rcases i with rfl | d
  .have a:n=0:=b.resolve_left o_;subst a;have:=nY gok [];exact zqca30
  .have d:g=Gan.zero:=OJ d;subst d;have one:bI (pl [n])=some (n,[]):=aZ h.1 o_ [];have p:(match bI (pl [n]) with | none=>none | some (n,s)=>some ((⟨3,Con.zero,Gan.zero,n⟩:Cmd),s))=some (⟨3,Con.zero,Gan.zero,n⟩,[]):=by rw [one]
   have q:(match bI (pl [n]) with | none=>none | some (n,s)=>some ((⟨4,Con.zero,Gan.zero,n⟩:Cmd),s))=some (⟨4,Con.zero,Gan.zero,n⟩,[]):=by rw [one]
   have l:(match bI (pl [n]) with | none=>none | some (n,s)=>some ((⟨5,Con.zero,Gan.zero,n⟩:Cmd),s))=some (⟨5,Con.zero,Gan.zero,n⟩,[]):=by rw [one]
   have j:k=1\/k=2\/k=3\/k=4\/k=5\/k=6:=o_;rcases j with rfl | rfl | rfl | rfl | rfl | rfl
   .have a:n=0:=b.resolve_left o_;subst a;have:=MP (c:=Con.zero) rfl d_ d_ [];rw [Ar] at this;simp only [beq_self_eq_true,if_true];rw [this]
   .have a:n=0:=b.resolve_left o_;subst a;have:=nY (g:=Gan.zero) rfl [];exact zqca30
   .exact p
   .exact q
   .exact l
   .have a:n=0:=b.resolve_left o_;subst a;rfl
def fW{s s':ax}{n:Int}(h:bI s=some (n,s')):s=putN n.toNat++s':=by
 unfold bI at h;split at h
 .rename_i m k b;cases h;obtain ⟨x,c,a,_⟩:=MV 9 0 0 s m k rfl d_ b;have:x=m:=o_;subst this;rw [Bv,a,Iq,Bo]
 .cases h
def aBM{s s':ax}{v:V3}(h:nE s=some (v,s')):s=pl v.l++s':=by
 unfold nE at h;split at h
 .cases h
 .rename_i h1;split at h
  .cases h
  .rename_i a;split at h
   .cases h
   .rename_i h3;cases h;rw [fW h1,fW a,fW h3];simp [pl,V3.l]
def MO{s s':ax}{v:Gan}(h:rGan s=some (v,s')):s=pl v.il++s':=by
 unfold rGan at h;split at h
 .cases h
 .rename_i h1;split at h
  .cases h
  .rename_i b;split at h
   .cases h
   .rename_i h3;split at h
    .cases h
    .rename_i d;split at h
     .cases h
     .rename_i a;split at h
      .cases h
      .rename_i e;split at h
       .cases h
       .rename_i c;cases h;rw [fW h1,fW b,fW h3,aBM d,fW a,fW e,fW c];simp [pl,Gan.il,V3.l]
def CO{s s':ax}{n:Int}(h:cU s=some (n,s')):bI s=some (n,s'):=by
 unfold cU at h;split at h
 .rename_i h1;split at h
  .cases h;exact h1
  .cases h
 .cases h
def dec_enc{x:Cmd}(h:chk x=0):decX (encB x)=x/\decE (encB x)=0:=by
 have e:encB x=pl x.il:=if_pos h;have a:dec (encB x)=some x:=by unfold dec;rw [e,rCmd_put (chk_told h)];exact if_pos ⟨rfl,h⟩
 unfold decX decE;rw [a];exact ⟨rfl,rfl⟩
end Go.Proofs.YtaeegbkbahgjhaaGreatDoor.C8
namespace Go.Proofs.YtaeegbkbahgjhaaGreatDoor.SW
open Go Go.AW Go.Proofs Go.RowKit
set_option maxRecDepth 100000
set_option maxHeartbeats 2000000
abbrev tWr:TypeId:=146
def wN:liesAt Tryz.prog Tryz.prog.depth tWr (2 / Tryz.prog.cellsOf tWr) 0 144 1=true:=by kernel_rfl
def vW:(Tryz.prog.info? 144).map (·.size)=some 2:=by kernel_rfl
def LK:Tryz.prog.underlying 142=some (.pointer 144):=by kernel_rfl
def LJ:Tryz.prog.underlying 273=some .unsafePointer:=by kernel_rfl
def OP:Tryz.prog.funcs[154]? =some Tryz.f154:=by kernel_rfl
def gC(b:Nat)(w:World)(h:w.cell? ⟨b,0,none⟩=some (.pointer none))(a:w.shape? b=some (tWr,2))(g:w.frozen? ⟨b,0,none⟩=false):
  Calls Tryz.prog 105 #[.pointer (some ⟨b,0,none⟩)] w λ e w'=>e= .returned (.tuple #[])/\w'=w.setCell ⟨b,0,none⟩ (.pointer (some ⟨b,0,none⟩)):=by
 obtain ⟨j,d,c⟩:=Cf.1 vW
 go_enter Tryz.func105,Tryz.ntmps105
 go_wp2
 rw [Lib.run_to_unsafe w ⟨b,0,none⟩ LK LJ d (by rw [c];decide) a (Lw 1)];simp only [Ee];rw [Oper.upon_value]
 go_wp2
 rw [run_callFunc_extern OP (by kernel_rfl) (by kernel_rfl) (by kernel_rfl) (e:=Extern.AbiNoEscape.same) (by kernel_rfl)];rw [Lib.run_noEscape];simp only [Ee];rw [Oper.upon_value]
 go_wp2
 rw [Lib.run_from_unsafe w ⟨b,0,none⟩ LJ LK d a wN];simp only [Ee];rw [Oper.upon_value]
 go_wp2
 go_end0;exact ⟨rfl,rfl⟩
def aAH:Tryz.prog.underlying 201=some (.pointer 5):=by kernel_rfl
def aEu:Tryz.prog.cellsOf 5=1:=by kernel_rfl
def nS(b g cap:Nat)(p:Value)(a:Array Value)(l:ax)(w:World)(i:w.heap[b]? =some (.cells #[p,.slice (some ⟨g,0,none⟩) l.length cap] tWr (0,0)))(u:w.heap[g]? =some (.cells a 5 (0,0)))(o:l≠[])
  (n:l.length<=cap) (k:cap<=maxLen) (v:a.size=cap) (c:∀ (j:Nat) x,l[j]? =some x->w.cell? ⟨g,j,none⟩=some (.int .u8 x.toNat)):
  Calls Tryz.prog 59 #[.pointer (some ⟨b,0,none⟩)] w λ e w'=>e= .returned (.string ⟨l.toArray⟩)/\IF g l.length w w':=by
 have d:l.length≠0:=by simpa using o
 have y:w.drew.cell? ⟨b,1,none⟩=some (.slice (some ⟨g,0,none⟩) l.length cap):=by exact zqca31
 have r:(Iy #[83] 201 #[.slice (some ⟨g,0,none⟩) l.length cap]).run Tryz.prog w.drew= .ok (.pointer (some ⟨g,0,none⟩)) w.drew:=
  Lib.run_unsafeSliceData_row _ _ _ _ _ _ o_
 have q:(Jr #[201,3] 9 #[.pointer (some ⟨g,0,none⟩),.int .i64 l.length]).run Tryz.prog w.drew= .ok (.string ⟨l.toArray⟩) (w.drew.freeze ⟨g,0,none⟩ l.length):=by exact zqca13
 have m:Tryz.prog.follows Departure.mixedOrders=true:=hE.mix
 go_enter Tryz.func59,Tryz.ntmps59
 go_wp2
 go_region_o
 all_goals (go_wp2;go_ret;exact ⟨rfl,R0 d⟩)
def cc_fresh(s:aa):aq 105 [.ref 0 0] [.cells tWr [.nilptr,s]] (.ret (.tup [])) [.cells tWr [.ref 0 0,s]]:=
 nM (λ_ _=>by rfl) gC s
def str_ok(l:ax)(a:l≠[])(p:aa):aq 59 [.ref 0 0] [.cells tWr [p,.slice 1 (l.map ub) (.own 1 0)],.tail 0 1 5] (.ret (.str l)) [.dead,.dead]:=
 mD (λ_ _=>by rfl) nS l a p
open Go Go.AW Go.Proofs
open C8 (pl putN put_ok pn_len)
set_option maxRecDepth 10000
abbrev wrO(bs:ax)(g:Nat):au:=[.cells tWr [.ref 0 0,.slice 1 (bs.map ub) (.own 1 g)],.tail g 1 5]
def KT(xs:ay):aq 105 [.ref 0 0] [.cells tWr [.ref 0 0,.slice 1 xs (.own 1 0)],.tail 0 1 5] (.ret (.tup [])) [.cells tWr [.ref 0 0,.slice 1 xs (.own 1 0)],.tail 0 1 5]:=by
 refine cT (E:=E) (fn:=Tryz.f105) (g:=.full 2 _ _) λ_=>?_
 repeat' first | (refine gN hE ?_;conv=>whnf) | exact rfl | refine zt ?_ | refine zu ?_ ?_ | intro h | fail
 exact zx [0,1]
def vD(s:ax)(hs:s.length<=1000):aq 56 [.ref 0 0,.str s] [.cells tWr [.nilptr,.slice 1 [] .nil]] (.ret (.tup [ii s.length,.nilif])) (wrO s 0):=by exact zqca11
def ws_ok(bs s:ax)(hs:bs.length+s.length<=1000000):aq 56 [.ref 0 0,.str s] (wrO bs 0) (.ret (.tup [ii s.length,.nilif])) (wrO (bs++s) 1):=by exact zqca8
noncomputable abbrev OQ:Func:=Tryz.f55
def xX(l:aw)(hl:((iv l).length:Int)<=9223372036854775807)(s:∀ n∈l,n<=9223372036854775807)(B:ax)(j:Nat)(o:10*l.length<=1000):∀ (n i g:Nat) (bs:ax),i+n=l.length->(g=0\/g=1)->(n=0->g=j)->(0<n->j=1)->bs.length+10*n<=100000->bs++pl (l.drop i)=B->
  To E OQ (.full 2 (.ret (.tup [])) (wrO B j)) (.head (stk OQ 0) [(0,.ref 0 0),(6,.slice 1 (iv l) .no),(7,.int .i64 ((iv l).length:Nat)),(8,.int .i64 i)] (wrO bs g)):=by
 have t:(iv l).length=l.length:=by simp
 intro n;induction n with
 | zero=>
  exact zqca10
 | succ n q=>
  intro i g bs u k _ m d a;have p:=m o_;subst p;have b:i<l.length:=o_;rw [Ae b] at a;have c:=s l[i] (Bf b);generalize r:l[i]=x at a c;have a:bs++(putN x.toNat++pl (l.drop (i+1)))=B:=a;rw [<-Af] at a;have get:(iv l)[i]? =some (ii x):=(gR b).trans (by rw [r]);have hp:=pn_len c;refine gV ?_;refine aT λ h=>gV ?_;refine ⟨i,rfl,gV ?_⟩;refine ⟨_,get,gV ?_⟩;refine .pure _ [] (C8.put_ok x) ?_;exact zqca4
def nums_ok(l:aw)(i:l≠[])(c:∀ n∈l,n<=9223372036854775807)(b:l.length<=100)(bs:ax)(d:bs.length+10*l.length<=100000):
  aq 55 [.ref 0 0,.slice 1 (iv l) .no] (wrO bs 0) (.ret (.tup [])) (wrO (bs++pl l) 1):=by
 have e:(iv l).length=l.length:=by simp
 have a:0<l.length:=Dx.2 i;refine cT (E:=E) (fn:=Tryz.f55) (g:=.full 2 _ _) λ_=>?_;exact zqca25
def nums_fresh(k:Int)(a:k<=9223372036854775807):aq 55 [.ref 0 0,.slice 1 [ii k] .no] [.cells tWr [.nilptr,.slice 1 [] .nil]] (.ret (.tup [])) (wrO (putN k.toNat) 0):=by have hp:=pn_len a;refine cT (E:=E) (fn:=Tryz.f55) (g:=.full 1 _ _) λ_=>gV ?_;refine gV ?_;refine Ac (λ_=>?_) (λ h=>absurd (of_decide_eq_false h) s_);refine gV ?_;refine ⟨0,rfl,gV ?_⟩;refine ⟨_,rfl,gV ?_⟩;refine .pure _ [] (C8.put_ok k) (gV ?_);refine .sole rfl (.eff [] [0] _ _ rfl (vD _ o_) ?_);exact zqca6
end Go.Proofs.YtaeegbkbahgjhaaGreatDoor.SW
namespace Go.Proofs.YtaeegbkbahgjhaaGreatDoor
open Go Go.AW Go.Proofs
set_option maxRecDepth 10000
def HJ(x i:Nat):UInt8:=Dt (x / 2 ^ (8*i) % 256)
def FM(x i:Nat):ax:=(Di i).map (HJ x)
def xA(x:Nat):ax:=FM x 8
def kJ(x i:Nat):(FM x i).length=i:=by simp [FM]
def HI(x i:Nat):FM x (i+1)=FM x i++[HJ x i]:=by simp [FM,Mo]
def aNU(x i:Nat):IntKind.u8.wrap ((x:Int).fdiv (2 ^ (8*i)))=((((HJ x i).toNat:Nat)):Int):=by
 rw [Dz _ (by exact Int.le_of_lt (Int.pow_pos d_))];have:(x:Int) / 2 ^ (8*i)=((x / 2 ^ (8*i):Nat):Int):=by simp
 rw [this,IG,HJ,Gy,Nat.mod_mod]
noncomputable abbrev fPF:Func:=Tryz.f57
def YS(x:Nat):∀ (m i:Nat) (row:ay),i+m=8->row=(FM x i).map ub++Aj m (.int .u8 0)->
  To E fPF (.pure (.ret (.str (xA x)))) (.head (stk fPF 0) [(0,.int .u64 x),(3,.row 0 0),(7,.int .i64 8),(8,.int .i64 i)] [.row 0 1 5 row]):=by
 intro m;induction m with
 | zero=>
  intro i row c a;have e:i=8:=o_;subst e;subst a;refine gV ?_;refine aF λ h=>gV ?_;refine Ap (FM x 8) (Ac s_ (Ac (by simp [kJ]) (gV ?_)));rfl
 | succ m g=>
  intro i row c a;have b:row.length=8:=by rw [a];simp [kJ];omega
  have d:(8*(i:Int)).toNat=8*i:=o_;have f:=aNU x i
  have next:=g (i+1) (row.set i (ub (HJ x i))) o_ (by
   rw [a,HI,Bm,Ha _ _ (by simp [kJ])]
   simp [kJ,Kx])
  refine gV ?_;refine aT λ h=>?_
  repeat' first | (refine gN hE ?_;conv=>whnf) | refine @Ko (inR IntKind.u8 _/\_) _ ?_ | refine aJ ?_ | refine Ac (Ac (show (0:Int)<=8*(i:Int) by omega) (show (8*(i:Int)).toNat<=64 by omega)) ?_ | refine ⟨i,rfl,?_⟩ | refine Ac (show i<row.length by omega) ?_ | exact rfl | refine zt ?_ | refine zu ?_ ?_ | intro h | fail
  refine To.part [0,3,7,8] [0] rfl rfl rfl ?_;rw [d,f];exact next
def aGw(x:Nat):aq 57 [.int .u64 x] [] (.ret (.str (xA x))) []:=by
 have next:=YS x 8 0 (Aj 8 (.int .u8 0)) rfl rfl
 refine c_ Tryz.f57 λ_=>?_
 repeat' first | (refine gN hE ?_;conv=>whnf) | exact rfl | refine zt ?_ | refine zu ?_ ?_ | intro h | fail
 refine To.part [0,3,7,8] [0] rfl rfl rfl ?_;exact next
end Go.Proofs.YtaeegbkbahgjhaaGreatDoor
namespace Go.Proofs.YtaeegbkbahgjhaaGreatDoor.C8
open Go Go.AW Go.Proofs
set_option maxRecDepth 10000
def NF(a b c:Int)(e:a<=9223372036854775807)(d:b<=9223372036854775807)(i:c<=9223372036854775807):aq 97 [.ref 0 0,.slice 1 [ii a,ii b,ii c] .no] [.cells tWr [.nilptr,.slice 1 [] .nil]] (.ret (.tup [])) (wrO (putN a.toNat++putN b.toNat++putN c.toNat) 0):=by have k:=pn_len e;have l:=pn_len d;have j:=pn_len i;refine cT (E:=E) (fn:=Tryz.f97) (g:=.full 1 _ _) λ_=>gV ?_;refine gV ?_;refine Ac (λ_=>?_) (λ h=>absurd (of_decide_eq_false h) s_);refine gV ?_;refine ⟨0,rfl,gV ?_⟩;refine ⟨_,rfl,gV ?_⟩;refine .pure _ [] (put_ok _) (gV ?_);refine .sole rfl (.eff [] [0] _ _ rfl (vD _ o_) (gV ?_));refine aJ (gV ?_);refine gV ?_;refine Ac (λ_=>?_) (λ h=>absurd (of_decide_eq_false h) s_);refine gV ?_;refine ⟨1,rfl,gV ?_⟩;refine ⟨_,rfl,gV ?_⟩;refine .pure _ [] (put_ok _) (gV ?_);refine .sole rfl (.eff [] [0,1] _ _ rfl (ws_ok _ _ o_) (gV ?_));refine aJ (gV ?_);refine gV ?_;refine Ac (λ_=>?_) (λ h=>absurd (of_decide_eq_false h) s_);refine gV ?_;refine ⟨2,rfl,gV ?_⟩;refine ⟨_,rfl,gV ?_⟩;refine .pure _ [] (put_ok _) (gV ?_);refine .sole rfl (.eff [] [0,1] _ _ rfl (ws_ok _ _ q_) ?_);exact zqca6
def LE(g:Gan)(h:g.ok=true):aq 99 [.ref 0 0,g.av] [.cells tWr [.nilptr,.slice 1 [] .nil]] (.ret (.tup [])) (wrO (pl g.il) 0):=by
 obtain ⟨h1,a,h3⟩:=gan_b h;have d:=l3_m h1 g.id s_;have b:=l3_m h1 g.ten s_;have c:=l3_m h1 g.pods s_;have j:=pn_len d;have k:=pn_len b;have i:=pn_len c;have l2:=pl_len (v3_m a);simp only [V3.l,Al,Bu] at l2;have e:pl g.il=(putN g.id.toNat++putN g.ten.toNat++putN g.pods.toNat)++pl g.need.l++pl [g.run,g.lev,g.pref]:=by simp [pl,Gan.il,V3.l]
 rw [e];refine cT (E:=E) (fn:=Tryz.f99) (g:=.full 1 _ _) λ_=>gV ?_;refine .eff [] [0] _ _ rfl (aA.strip (NF g.id g.ten g.pods d b c)) (gV ?_);refine .eff [] [0,2] _ _ rfl (sF g.need a _ q_) (gV ?_);refine .eff [] [0,2] _ _ rfl (aA.strip (nums_ok [g.run,g.lev,g.pref] s_ (l3_m h3) s_ _ (by simp [V3.l];omega))) ?_;refine gV ?_;refine ⟨[],[0,2],⟨rfl,rfl⟩,?_⟩;exact ⟨rfl,rfl⟩
def pg_ok(g:Gan)(h:g.ok=true):aq 58 [g.av] [] (.ret (.str (pl g.il))) []:=by have a:pl g.il≠[]:=pl_ne _ _;refine c_ Tryz.f58 λ_=>gV ?_;refine .eff [] [1] _ _ rfl (LE g h) (gV ?_);refine .eff [] [1,2] _ _ rfl (str_ok _ a _) ?_;refine gW hE ?_;conv=>whnf
end Go.Proofs.YtaeegbkbahgjhaaGreatDoor.C8
namespace Go.Proofs.YtaeegbkbahgjhaaGreatDoor
open Go Go.AW Go.Proofs
set_option maxRecDepth 10000
def Sta.cmd(s:Sta):Cmd:=⟨1,s.c,Gan.zero,0⟩
def mL(s:Sta):ax:=C8.encB s.cmd
def yG:az->ax
 | []=>[]
 | x::r=>xA x++yG r
def tG:a7->ax
 | []=>[]
 | x::r=>(C8.pl x.g.il++C8.pl [x.seq,x.at'])++tG r
def pD:a6->ax
 | []=>[]
 | x::r=>(C8.pl x.g.il++C8.pl [x.seq,x.at',x.st,x.fl]++C8.pl x.hs)++pD r
def cX(s:Sta):ax:=C8.putN (mL s).length++mL s++C8.pl [s.now,s.nxt,(s.hist.length:Int)]++yG s.hist++C8.pl [(s.pend.length:Int)]++tG s.pend++C8.pl [(s.run.length:Int)]++pD s.run
structure Wr(s:Sta):Prop where
 con:(mL s).length<=10000
 nums:0<=s.now/\s.now<=1099511627776/\0<=s.nxt/\s.nxt<=1099511627776
 his:s.hist.length<=100
 pen:s.pend.length<=32
 run:s.run.length<=32
 pg:∀ x∈s.pend,x.g.ok=true/\okI [x.seq,x.at']=true
 rg:∀ x∈s.run,x.g.ok=true/\okI [x.seq,x.at',x.st,x.fl]=true/\okI x.hs=true/\x.hs≠[]/\x.hs.length<=16
noncomputable abbrev OU:Func:=Tryz.f32
abbrev enO(bs:ax)(g:Nat):au:=SW.wrO bs g
def wW(g:Gan)(h:g.ok=true):(C8.pl g.il).length<=90:=by
 obtain ⟨h1,a,h3⟩:=C8.gan_b h;have l1:=C8.pl_len (C8.l3_m h1);have l2:=C8.pl_len (C8.v3_m a);have b:=C8.pl_len (C8.l3_m h3);have e:C8.pl g.il=C8.pl [g.id,g.ten,g.pods]++C8.pl g.need.l++C8.pl [g.run,g.lev,g.pref]:=by simp [C8.pl,Gan.il,V3.l]
 simp only [V3.l,Al,Bu] at l1 l2 b;rw [e,Ai,Ai];simp only [V3.l];omega
def nG{l:aw}(h:okI l=true):∀ n∈l,n<=9223372036854775807:=λ n a=>by have:=C8.okI_b h n a;omega
def aHX(s:Sta)(w:Wr s)(B:ax)(f:B≠[]):∀ (m i:Nat) (bs:ax),i+m=s.run.length->bs.length+300*m<=40000->bs++pD (s.run.drop i)=B->
  To E OU (.pure (.ret (.tup [.str B,ii 0]))) (.head (stk OU 2) [(7,.ref 0 0),(97,.slice 14 (rav s.run) .no),(98,.int .i64 ((rav s.run).length:Nat)),(99,ii (i:Int))] (enO bs 0)):=by
 have k:(rav s.run).length=s.run.length:=by simp
 have p:=w.run;intro m;induction m with
 | zero=>
  intro i bs r c a;rw [Ah o_] at a;have a:bs++[]=B:=a;rw [Ar] at a;subst a;refine gV ?_;refine aF λ h=>gV ?_;refine .eff [] [0,1] _ _ rfl (SW.str_ok _ f _) ?_;refine gW hE ?_;conv=>whnf
 | succ m o=>
  intro i bs r c a;have b:i<s.run.length:=o_;rw [Ae b] at a;have get:=dT b;obtain ⟨d,e,j,l,q⟩:=w.rg s.run[i] (Bf b);generalize s.run[i]=x at a get d e j l q;have a:bs++((C8.pl x.g.il++C8.pl [x.seq,x.at',x.st,x.fl]++C8.pl x.hs)++pD (s.run.drop (i+1)))=B:=a;rw [<-Af,<-Af,<-Af] at a;have l1:=wW x.g d;have l2:=C8.pl_len (nG e);have t:=C8.pl_len (nG j);simp only [Al,Bu] at l2;have hp:=C8.pg_ok x.g d;have h1:=SW.ws_ok bs (C8.pl x.g.il) o_;have n:=SW.nums_ok [x.seq,x.at',x.st,x.fl] s_ (nG e) s_ (bs++C8.pl x.g.il) q_;have h3:=SW.nums_ok x.hs l (nG j) o_ (bs++C8.pl x.g.il++C8.pl [x.seq,x.at',x.st,x.fl]) (by simp only [Ai];omega);have next:=o (i+1) _ o_ (by simp only [Ai];omega) a
  refine gV ?_;refine aT λ h=>gV ?_;refine ⟨i,rfl,gV ?_⟩;refine ⟨_,get,gV ?_⟩;refine .pure _ [] hp (gV ?_);refine .sole rfl (.eff [] [0,1] _ _ rfl h1 (gV ?_));refine .eff [] [0,1] _ _ rfl (aA.strip n) (gV ?_);refine .eff [] [0,1] _ _ rfl h3 (gV ?_);refine aJ (gV ?_);refine To.part [7,97,98,99] [0,1] rfl rfl rfl ?_;exact next
def aHY(s:Sta)(w:Wr s)(B:ax)(j:B≠[]):∀ (m i:Nat) (bs:ax),i+m=s.pend.length->bs.length+150*m<=20000->bs++tG (s.pend.drop i)++(C8.pl [(s.run.length:Int)]++pD s.run)=B->
  To E OU (.pure (.ret (.tup [.str B,ii 0]))) (.head (stk OU 1) [(1,.ptr s.cs),(7,.ref 0 0),(69,.slice 11 (pnv s.pend) .no),(70,.int .i64 ((pnv s.pend).length:Nat)),(71,ii (i:Int))] (enO bs 0)):=by
 have k:(pnv s.pend).length=s.pend.length:=by simp
 have c:(rav s.run).length=s.run.length:=by simp
 have q:=w.pen;have t:=w.run;intro m;induction m with
 | zero=>
  intro i bs r d a;rw [Ah o_] at a;have a:bs++[]++(C8.pl [(s.run.length:Int)]++pD s.run)=B:=a;rw [Ar,<-Af] at a;have hm:∀ n∈[(s.run.length:Int)],n<=9223372036854775807:=λ n p=>by simp at p;omega
  have l1:=C8.pl_len hm;simp only [Al,Bu] at l1;have h1:=SW.nums_ok [(s.run.length:Int)] s_ hm s_ bs q_;have next:=aHX s w B j s.run.length 0 (bs++C8.pl [(s.run.length:Int)]) o_ (by rw [Ai];omega) a
  rw [<-c] at h1;rw [<-c] at next
  refine gV ?_;refine aF λ h=>gV ?_;refine .eff [] [0,1] _ _ rfl (aA.strip h1) (gV ?_);refine To.part [7,97,98,99] [0,1] rfl rfl rfl ?_;exact next
 | succ m o=>
  intro i bs r d a;have b:i<s.pend.length:=o_;rw [Ae b] at a;have get:=JF b;obtain ⟨e,f⟩:=w.pg s.pend[i] (Bf b);generalize s.pend[i]=x at a get e f;have a:bs++((C8.pl x.g.il++C8.pl [x.seq,x.at'])++tG (s.pend.drop (i+1)))++(C8.pl [(s.run.length:Int)]++pD s.run)=B:=a;rw [<-Af bs,<-Af bs] at a;have l1:=wW x.g e;have l2:=C8.pl_len (nG f);simp only [Al,Bu] at l2;have hp:=C8.pg_ok x.g e;have h1:=SW.ws_ok bs (C8.pl x.g.il) o_;have l:=SW.nums_ok [x.seq,x.at'] s_ (nG f) s_ (bs++C8.pl x.g.il) q_;have next:=o (i+1) _ o_ (by simp only [Ai];omega) a
  refine gV ?_;refine aT λ h=>gV ?_;refine ⟨i,rfl,gV ?_⟩;refine ⟨_,get,gV ?_⟩;refine .pure _ [] hp (gV ?_);refine .sole rfl (.eff [] [0,1] _ _ rfl h1 (gV ?_));refine .eff [] [0,1] _ _ rfl (aA.strip l) (gV ?_);refine aJ ?_;exact zqca42
def aK8{l:az}{i:Nat}(h:i<l.length):(fv l)[i]? =some (.int .u64 (l[i]:Int)):=by simp [fv,h]
def aHZ(s:Sta)(w:Wr s)(B:ax)(e:B≠[]):∀ (m i:Nat) (bs:ax),i+m=s.hist.length->bs.length+8*m<=15000->bs++yG (s.hist.drop i)++(C8.pl [(s.pend.length:Int)]++(tG s.pend++(C8.pl [(s.run.length:Int)]++pD s.run)))=B->
  To E OU (.pure (.ret (.tup [.str B,ii 0]))) (.head (stk OU 0) [(1,.ptr s.cs),(7,.ref 0 0),(49,.slice 1 (fv s.hist) .no),(50,.int .i64 ((fv s.hist).length:Nat)),(51,ii (i:Int))] (enO bs 0)):=by
 have f:(fv s.hist).length=s.hist.length:=by simp
 have c:(pnv s.pend).length=s.pend.length:=by simp
 have l:=w.pen;have k:=w.his;intro m;induction m with
 | zero=>
  intro i bs o d a;rw [Ah o_] at a;have a:bs++[]++(C8.pl [(s.pend.length:Int)]++(tG s.pend++(C8.pl [(s.run.length:Int)]++pD s.run)))=B:=a;rw [Ar,<-Af,<-Af] at a;have hm:∀ n∈[(s.pend.length:Int)],n<=9223372036854775807:=λ n j=>by simp at j;omega
  have l1:=C8.pl_len hm;simp only [Al,Bu] at l1;have h1:=SW.nums_ok [(s.pend.length:Int)] s_ hm s_ bs q_;have next:=aHY s w B e s.pend.length 0 (bs++C8.pl [(s.pend.length:Int)]) o_ (by rw [Ai];omega) a
  rw [<-c] at h1;rw [<-c] at next
  refine gV ?_;refine aF λ h=>gV ?_;refine .eff [] [0,1] _ _ rfl (aA.strip h1) ?_;exact zqca42
 | succ m g=>
  intro i bs o d a;have b:i<s.hist.length:=o_;rw [Ae b] at a;have get:=aK8 b;generalize s.hist[i]=x at a get;have a:bs++(xA x++yG (s.hist.drop (i+1)))++(C8.pl [(s.pend.length:Int)]++(tG s.pend++(C8.pl [(s.run.length:Int)]++pD s.run)))=B:=a;rw [<-Af bs] at a;have l1:(xA x).length=8:=kJ x 8;have hp:=aGw x;have h1:=SW.ws_ok bs (xA x) o_;have next:=g (i+1) _ o_ (by simp only [Ai];omega) a
  refine gV ?_;refine aT λ h=>gV ?_;refine ⟨i,rfl,gV ?_⟩;refine ⟨_,get,gV ?_⟩;refine .pure _ [] hp (gV ?_);refine .sole rfl (.eff [] [0,1] _ _ rfl h1 (gV ?_));refine aJ (gV ?_);refine To.part [1,7,49,50,51] [0,1] rfl rfl rfl ?_;exact next
def enB(s:Sta):au:=[.cells 49 s.cs]
def aLn(s:Sta):au:=[.fcells s.cs]
def aLm(s:Sta):aj [0] (enB s)=aLn s:=by kernel_rfl
def aH2(s:Sta):wX [1] (aB (aLn s)) [(1,.ref 0 0),(2,.str []),(3,ii 0)]=[(1,.ptr s.cs),(2,.str []),(3,ii 0)]:=by kernel_rfl
def aH1{g:Goal}{ks:bf}(s:Sta)(h:To E OU g (.code ks [(1,.ptr s.cs),(2,.str []),(3,ii 0)] (aLn s))):To E OU g (.code ks [(1,.ref 0 0),(2,.str []),(3,ii 0)] (enB s)):=by refine To.frz [1] [0] ?_;rw [aLm,aH2];exact h
def aLl(s:Sta):ax:=if mM s=true then cX s else []
def aFP(s:Sta)(o:s.c.sm)(hs:Sm s.run)(q:mM s=true->Wr s):aq 32 [s.av] [] (.ret (.tup [.str (aLl s),ii (if mM s=true then 0 else 1)])) []:=by
 have a:=GA s o hs;unfold aLl;cases i:mM s with
 | false=>
  rw [i] at a;have a:aq 54 [s.av] [] (.ret (ii 1)) []:=a;show aA _ _ _ _ (.ret (.tup [.str [],ii 1])) _;refine c_ Tryz.f32 λ_=>?_
  repeat' first | (refine gN hE ?_;conv=>whnf) | refine .pure _ [] a ?_ | exact rfl | refine zt ?_ | refine zu ?_ ?_ | intro h | fail
 | true=>
  rw [i] at a;have a:aq 54 [s.av] [] (.ret (ii 0)) []:=a;show aA _ _ _ _ (.ret (.tup [.str (cX s),ii 0])) _;have w:=q i;have j:aq 53 [s.cmd.av] [] (.ret (.tup [.str (mL s),ii (C8.chk s.cmd)])) []:=C8.enc_ok s.cmd;have b:(fv s.hist).length=s.hist.length:=by simp
  have p:=w.con;have r:=w.his;obtain ⟨n1,n2,u,t⟩:=w.nums;have h1:=SW.nums_fresh ((mL s).length:Int) o_;rw [Bv] at h1;have v:(C8.putN (mL s).length).length<=10:=by have:=C8.pn_len (n:=((mL s).length:Int)) o_;rw [Bv] at this;omega
  have k:=SW.ws_ok (C8.putN (mL s).length) (mL s) o_;have hm:∀ n∈[s.now,s.nxt,(s.hist.length:Int)],n<=9223372036854775807:=λ n m=>by simp at m;omega
  have l:=C8.pl_len hm;simp only [Al,Bu] at l;have h3:=SW.nums_ok [s.now,s.nxt,(s.hist.length:Int)] s_ hm s_ (C8.putN (mL s).length++mL s) q_;have d:cX s≠[]:=by
   intro h;have:=congrArg Lk h;unfold cX at this;have e:C8.pl [s.now,s.nxt,(s.hist.length:Int)]≠[]:=C8.pl_ne _ _;have:=Dx.2 e;simp only [Ai,Bu] at *
   omega
  have next:=aHZ s w (cX s) d s.hist.length 0 (C8.putN (mL s).length++mL s++C8.pl [s.now,s.nxt,(s.hist.length:Int)]) o_ (by simp only [Ai];omega) (by unfold cX;simp only [Cq,Af])
  rw [<-b] at h3;rw [<-b] at next
  generalize mL s=C at j h1 k h3 next
  generalize cX s=B at next
  generalize C8.chk s.cmd=ck at j;refine c_ Tryz.f32 λ_=>?_;refine cP hE 13 ?_;conv=>whnf
  refine To.cutC [1,2,3] 1 rfl rfl rfl rfl ?_;refine aH1 s (gV ?_);refine .pure _ [] a (gV ?_);refine Ac (λ h=>absurd h d_) (λ_=>gV ?_);refine .pure _ [] j (gV ?_);refine .eff [] [1] _ _ rfl (aA.strip h1) (gV ?_);refine .eff [] [1,2] _ _ rfl k (gV ?_);refine .eff [] [1,2] _ _ rfl (aA.strip h3) (gV ?_);refine To.part [1,7,49,50,51] [1,2] rfl rfl rfl ?_;exact next
open C8 (leN JX rQ F3)
set_option maxRecDepth 10000
def J7(l:ax):aa:=if l.length<8 then .tup [.int .u64 0,.int .i64 0,.int .i64 10] else .tup [.int .u64 (leN (l.take 8)),.int .i64 8,.int .i64 0]
noncomputable abbrev fGF:Func:=Tryz.f208
def ZF(l:ax)(hl:8<=l.length):∀ (f i:Nat),i+f=8->
  To E fGF (.pure (.ret (.tup [.int .u64 (leN (l.take 8)),.int .i64 8,.int .i64 0]))) (.head (stk fGF 0) [(0,.str l),(5,.int .u64 (leN (l.take i))),(10,.int .i64 i)] []):=by
 intro f;induction f with
 | zero=>
  intro i n;have e:i=8:=o_;subst e;refine gV ?_;refine aF λ h=>?_
  repeat' first | (refine gN hE ?_;conv=>whnf) | exact rfl | refine zt ?_ | refine zu ?_ ?_ | intro h | fail
 | succ f j=>
  intro i n
  obtain ⟨c,d⟩:∃ c,l[i]? =some c:=⟨l[i]' o_,Aa o_⟩
  have m:c.toNat<256:=c.toNat_lt;have a:=JX (l.take i);rw [Dn,Gr o_] at a;have p:2 ^ (8*(i+1))=256*2 ^ (8*i):=by rw [Gj,Fi];omega
  have o:c.toNat*2 ^ (8*i)<=255*2 ^ (8*i):=Br _ o_;have q:2 ^ (8*(i+1))<=2 ^ 64:=Eu d_ o_;have b:(8*(i:Int)).toNat=8*i:=o_;have g:(c.toNat:Int)*2 ^ (8*i)=((c.toNat*2 ^ (8*i):Nat):Int):=by simp
  have k:dL .or .u64 (leN (l.take i):Int) ((c.toNat*2 ^ (8*i):Nat):Int)=((leN (l.take (i+1)):Nat):Int):=by rw [oM .u64 _ _ (by simp only [bE];omega) (by simp only [bE];omega),RC a,F3 d,rQ,Dn,Gr o_]
  have next:=j (i+1) o_
  refine gV ?_;refine aT λ h=>gV ?_;refine ⟨i,rfl,gV ?_⟩;refine ⟨c,d,gV ?_⟩;refine Gd (Ac (show inR IntKind.u64 (c.toNat:Int) from sU (by simp only [bE];omega)) ?_);refine gV ?_;refine aJ (gV ?_);refine Ac (show (0:Int)<=8*(i:Int) by omega) ?_;refine gV ?_;refine Gd (Ac (Ac (by rw [b];simp only [IntKind.bits];omega) (by rw [b,g];exact sU (by simp only [bE];omega))) ?_);refine gV ?_;rw [b,g,k];refine aJ (gV ?_);refine To.part [0,5,10] [] rfl rfl rfl ?_;exact next
def aHy(l:ax):aq 208 [.str l] [] (.ret (J7 l)) []:=by
 unfold J7;by_cases h:l.length<8
 .rw [if_pos h];refine c_ Tryz.f208 λ_=>gV ?_;refine Ac (λ_=>?_) (λ h=>absurd (of_decide_eq_false h) o_)
  repeat' first | (refine gN hE ?_;conv=>whnf) | exact rfl | refine zt ?_ | refine zu ?_ ?_ | intro h | fail
 .rw [if_neg h];have next:=ZF l o_ 8 0 rfl
  refine c_ Tryz.f208 λ_=>gV ?_;refine Ac (λ h=>absurd (of_decide_eq_true h) o_) (λ_=>?_)
  repeat' first | (refine gN hE ?_;conv=>whnf) | exact rfl | refine zt ?_ | refine zu ?_ ?_ | intro h | fail
  refine To.part [0,5,10] [] rfl rfl rfl ?_;exact next
open C8 (leN bI cU rGan rdO rdU pE xW aX aO bG bO mA jQ BE wB bP eQ tRd)
set_option maxRecDepth 10000
abbrev RSt:Type:=Option ((Sta×Bool)×ax)
def Con.nil:Con:=⟨[],[],0,0⟩
def Sta.nil:Sta:=⟨Con.nil,0,0,[],[],[]⟩
def wF:Nat->aw->ax->Option (aw×ax)
 | 0,hs,s=>some (hs,s)
 | m+1,hs,s=>match bI s with
  | none=>none
  | some (h,s)=>wF m (hs++[h]) s
def rR(c:Con)(now nxt:Int)(b:az)(d:a7):Nat->a6->ax->RSt
 | 0,rs,s=>some ((⟨c,now,nxt,d,rs,b⟩,s==[]),s)
 | m+1,rs,s=>match rGan s with
  | none=>none
  | some (g,s)=>match bI s with
   | none=>none
   | some (q,s)=>match bI s with
        | none=>none
        | some (a,s)=>match bI s with
         | none=>none
         | some (t,s)=>match bI s with
          | none=>none
          | some (f,s)=>if decide ((s.length:Int)<g.pods)=true then some ((⟨c,now,nxt,d,rs,b⟩,false),s) else match wF g.pods.toNat [] s with
           | none=>none
           | some (hs,s)=>rR c now nxt b d m (rs++[⟨g,q,a,t,f,hs⟩]) s
def rRs(c:Con)(now nxt:Int)(a:az)(b:a7)(s:ax):RSt:=match cU s with
 | none=>none
 | some (n,s)=>rR c now nxt a b n.toNat [] s
def rP(c:Con)(now nxt:Int)(b:az):Nat->a7->ax->RSt
 | 0,ps,s=>rRs c now nxt b ps s
 | m+1,ps,s=>match rGan s with
  | none=>none
  | some (g,s)=>match bI s with
   | none=>none
   | some (q,s)=>match bI s with
        | none=>none
        | some (a,s)=>rP c now nxt b m (ps++[⟨g,q,a⟩]) s
def rPs(c:Con)(now nxt:Int)(a:az)(s:ax):RSt:=match cU s with
 | none=>none
 | some (n,s)=>rP c now nxt a n.toNat [] s
def rH(c:Con)(now nxt:Int):Nat->az->ax->RSt
 | 0,hi,s=>rPs c now nxt hi s
 | m+1,hi,s=>if s.length<8 then some ((⟨c,now,nxt,[],[],hi⟩,false),s) else rH c now nxt m (hi++[leN (s.take 8)]) (s.drop 8)
def rB(c:Con)(s:ax):RSt:=match bI s with
 | none=>none
 | some (now,s)=>match bI s with
  | none=>none
  | some (nxt,s)=>match cU s with
   | none=>none
   | some (n,s)=>rH c now nxt n.toNat [] s
def rSt(s:ax):RSt:=match cU s with
 | none=>none
 | some (n,s)=>match C8.dec (s.take n.toNat) with
  | none=>some ((Sta.nil,false),s)
  | some x=>if x.k=1 then rB x.c (s.drop n.toNat) else some ((Sta.nil,false),s)
def stR(p:Sta×Bool):aa:=.tup [p.1.av,.bool p.2]
noncomputable abbrev fRd:Func:=Tryz.f163
abbrev reC(c:Con)(now nxt:Int)(p r h:aa):ay:=[.slice 11 (nav c.ns) .no,.slice 6 (hav c.hs) .no,ii c.half,ii c.age,ii now,ii nxt,p,r,h]
def JB{s s':ax}{g:Gan}(h:rGan s=some (g,s')):s'.length+1<=s.length/\0<=g.pods/\g.pods<=9223372036854775807:=by
 unfold C8.rGan at h;split at h
 .cases h
 .rename_i h1;split at h
  .cases h
  .rename_i c;split at h
   .cases h
   .rename_i h3;split at h
    .cases h
    .rename_i e;split at h
     .cases h
     .rename_i b;split at h
      .cases h
      .rename_i f;split at h
       .cases h
       .rename_i d;cases h;have l:=bP h1;have k:=bP c;have a:=bP h3;have m:=C8.rVec_b e;have j:=bP b;have n:=bP f;have i:=bP d;exact ⟨by omega,a.1,a.2.1⟩
abbrev reR(c:Con)(now nxt:Int)(hi:az)(ps:a7)(rs:a6)(s:ax):au:=[.cells tRd [.str s],.cells 49 (reC c now nxt (.slice 11 (pnv ps) .no) (.slice 14 (rav rs) (.own 2 0)) (.slice 1 (fv hi) .no)),.tail 0 14 68]
abbrev reG(g:Gan)(q a t f:Int)(x:aa):ay:=[ii g.id,ii g.ten,ii g.pods,ii g.need.a,ii g.need.b,ii g.need.c,ii g.run,ii g.lev,ii g.pref,ii q,ii a,ii t,ii f,x]
def aF9(c:Con)(now nxt:Int)(v:az)(p:a7)(b:a6)(z:b.length<=1000000)(n:Int)(i:Nat)(D:(i:Int)<9223372036854775807)(g:Gan)(q a t f:Int)(hp:0<=g.pods/\g.pods<=9223372036854775807)(r:Res)(O:au)(m:Nat)
  (x:∀ (hs:aw) (s:ax),s.length<=1000000->b.length+s.length+1<=1000000->hs.length<=1000000->pE stR (rR c now nxt v p m (b++[⟨g,q,a,t,f,hs⟩]) s)=r->xW (rR c now nxt v p m (b++[⟨g,q,a,t,f,hs⟩]) s)=O->
   To E fRd (.full 1 r O) (.head (stk fRd 2) [(0,.ref 0 0),(2,.ref 1 0),(99,.int .i64 n),(100,.int .i64 ((i:Int)+1))] (reR c now nxt v p (b++[⟨g,q,a,t,f,hs⟩]) s))):
  ∀ (k j:Nat) (s:ax) (hs:aw),(j+k:Int)=g.pods->hs.length+s.length<=1000000->b.length+s.length+1<=1000000->
   pE stR (match wF k hs s with | none=>none | some (hs,s)=>rR c now nxt v p m (b++[⟨g,q,a,t,f,hs⟩]) s)=r->xW (match wF k hs s with | none=>none | some (hs,s)=>rR c now nxt v p m (b++[⟨g,q,a,t,f,hs⟩]) s)=O->
  To E fRd (.full 1 r O) (.head (stk fRd 3) [(0,.ref 0 0),(2,.ref 1 0),(10,.ref 3 0),(99,.int .i64 n),(100,.int .i64 i),(125,ii g.pods),(126,.int .i64 j)]
   (reR c now nxt v p b s++[.cells 68 (reG g q a t f (.slice 1 (iv hs) (.own 4 0))),.tail 0 1 3])):=by
 intro k;induction k with
 | zero=>
  intro j s hs C hl y d l;have d:pE stR (rR c now nxt v p m (b++[⟨g,q,a,t,f,hs⟩]) s)=r:=d;have l:xW (rR c now nxt v p m (b++[⟨g,q,a,t,f,hs⟩]) s)=O:=l;have w:(rav b).length=b.length:=by simp
  have next:=x hs s o_ y o_ d l
  have e:rav (b++[⟨g,q,a,t,f,hs⟩])=rav b++[Rn.av ⟨g,q,a,t,f,hs⟩]:=by simp
  unfold reR at next
  rw [e] at next
  refine gV ?_;refine aF λ h=>?_
  repeat' first | (refine gN hE ?_;conv=>whnf) | refine ⟨⟨by simp only [maxLen];simp;omega,by simp;omega⟩,?_⟩ | exact rfl | refine zt ?_ | refine zu ?_ ?_ | intro h | fail
  refine To.part [0,2,99,100] [0,1,2] rfl rfl rfl ?_;exact next
 | succ k B=>
  intro j s hs C hl y d l;unfold wF at d l;have w:(iv hs).length=hs.length:=by simp
  refine gV ?_;refine aT λ h=>?_;refine cP hE 3 ?_;conv=>whnf
  refine To.permAt hE [0,1,2,6] [3,4,5,7] (by rfl) ?_;conv=>whnf
  refine aL ?_;conv=>whnf
  refine aO (o:=bI s) (λ h1=>?_) (λ⟨u,A⟩ h1=>?_)
  .simp only [h1] at d l;have d:Res.pan (aX 10)=r:=d;have l:rdU=O:=l;subst d l;exact zqca19
  simp only [h1] at d l;refine .eff [] [0] _ _ rfl (bG h1) ?_;have F:=bP h1;have next:=B (j+1) A (hs++[u]) o_ q_ o_ d l
  have e:iv (hs++[u])=iv hs++[ii u]:=by simp
  rw [e] at next;conv=>whnf
  refine aL ?_;conv=>whnf;conv=>whnf
  refine aL ?_;conv=>whnf
  refine ⟨⟨by simp only [maxLen];simp;omega,by simp;omega⟩,?_⟩;conv=>whnf
  refine aL ?_;conv=>whnf;conv=>whnf
  refine aL ?_;conv=>whnf
  refine gV ?_;refine aJ (gV ?_);refine To.part [0,2,10,99,100,125,126] [0,1,2,3,4] rfl rfl rfl ?_;exact next
def aF0(c:Con)(now nxt:Int)(u:az)(k:a7)(n:Int)(H:n<=9223372036854775807)(r:Res)(O:au):∀ (m i:Nat) (s:ax) (e:a6),(i+m:Int)=n->e.length+s.length<=1000000->pE stR (rR c now nxt u k m e s)=r->xW (rR c now nxt u k m e s)=O->
  To E fRd (.full 1 r O) (.head (stk fRd 2) [(0,.ref 0 0),(2,.ref 1 0),(99,.int .i64 n),(100,.int .i64 i)] (reR c now nxt u k e s)):=by
 intro m;induction m with
 | zero=>
  intro i s e w hl b d;have b:Res.ret (.tup [Sta.av ⟨c,now,nxt,k,e,u⟩,.bool (s==[])])=r:=b;have d:rdO s=O:=d;subst b d;refine gV ?_;refine aF λ h=>?_;refine cP hE 2 ?_;conv=>whnf
  refine To.permAt hE [0,1,2,3,4,5] [6,7] (by rfl) ?_;conv=>whnf
  refine aL ?_;conv=>whnf;conv=>whnf
  refine aL ?_;conv=>whnf;conv=>whnf
  refine aL ?_;conv=>whnf
  refine gV ?_;exact zqca7
 | succ m A=>
  intro i s e w hl b d;unfold rR at b d;have x:(rav e).length=e.length:=by simp
  refine gV ?_;refine aT λ h=>gV ?_;refine aO (o:=rGan s) (λ h1=>?_) (λ⟨g,z⟩ h1=>?_)
  .exact zqca26
  simp only [h1] at b d;refine .eff [] [0] _ _ rfl (BE h1) (gV ?_);refine aO (o:=bI z) (λ j=>?_) (λ⟨q,F⟩ j=>?_)
  .exact zqca37
  simp only [j] at b d;refine .eff [] [0] _ _ rfl (bG j) (gV ?_);refine aO (o:=bI F) (λ h3=>?_) (λ⟨a,B⟩ h3=>?_)
  .exact zqca36
  simp only [h3] at b d;refine .eff [] [0] _ _ rfl (bG h3) (gV ?_);refine aO (o:=bI B) (λ l=>?_) (λ⟨t,D⟩ l=>?_)
  .simp only [l] at b d;have b:Res.pan (aX 10)=r:=b;have d:rdU=O:=d;subst b d;refine .effp [] [0] _ _ rfl (bO l) ?_;exact zx [0]
  simp only [l] at b d;refine .eff [] [0] _ _ rfl (bG l) (gV ?_);refine aO (o:=bI D) (λ p=>?_) (λ⟨f,y⟩ p=>?_)
  .simp only [p] at b d;have b:Res.pan (aX 10)=r:=b;have d:rdU=O:=d;subst b d;refine .effp [] [0] _ _ rfl (bO p) ?_;exact zx [0]
  simp only [p] at b d;refine .eff [] [0] _ _ rfl (bG p) ?_;have C:=JB h1;have K:=bP j;have J:=bP h3;have N:=bP l;have I:=bP p;refine gV ?_;refine Ac (λ v=>?_) (λ v=>?_)
  .rw [if_pos v] at b d;have b:Res.ret (.tup [Sta.av ⟨c,now,nxt,k,e,u⟩,.bool false])=r:=b;have d:rdO y=O:=d;subst b d;refine gV ?_;exact zqca7
  .rw [if_neg (by rw [v];decide)] at b d;refine gV ?_;refine To.part [0,2,10,99,100,125,126] [0,1,2,3] rfl rfl rfl ?_;refine To.begin 3 13 3 rfl rfl ?_;exact aF9 c now nxt u k e o_ n i o_ g q a t f C.2 r O m (λ hs s' G L M b d=>A (i+1) s' _ o_ q_ b d) g.pods.toNat 0 y [] o_ q_ o_ b d
abbrev reP(c:Con)(now nxt:Int)(hi:az)(ps:a7)(s:ax):au:=[.cells tRd [.str s],.cells 49 (reC c now nxt (.slice 11 (pnv ps) (.own 2 0)) (.slice 14 [] .nil) (.slice 1 (fv hi) .no)),.tail 0 11 79]
def aF2(c:Con)(now nxt:Int)(l:az)(n:Int)(A:n<=9223372036854775807)(r:Res)(O:au):∀ (m i:Nat) (s:ax) (f:a7),(i+m:Int)=n->f.length+s.length<=1000000->pE stR (rP c now nxt l m f s)=r->xW (rP c now nxt l m f s)=O->
  To E fRd (.full 1 r O) (.head (stk fRd 1) [(0,.ref 0 0),(2,.ref 1 0),(82,.int .i64 n),(83,.int .i64 i)] (reP c now nxt l f s)):=by
 intro m;induction m with
 | zero=>
  intro i s f u hl b d;unfold rP rRs at b d;refine gV ?_;refine aF λ h=>gV ?_;refine aO (o:=cU s) (λ h1=>?_) (λ⟨k,p⟩ h1=>?_)
  .simp only [h1] at b d;have b:Res.pan (aX 10)=r:=b;have d:rdU=O:=d;subst b d;refine .effp [] [0] _ _ rfl (jQ h1) ?_;exact zx [0]
  simp only [h1] at b d;refine .eff [] [0] _ _ rfl (mA h1) ?_;have y:=eQ h1;refine gV ?_;refine To.part [0,2,99,100] [0,1] rfl rfl rfl ?_;refine To.begin 1 7 68 rfl rfl ?_;exact aF0 c now nxt l f k o_ r O k.toNat 0 p [] o_ q_ b d
 | succ m w=>
  intro i s f u hl b d;unfold rP at b d;have v:(pnv f).length=f.length:=by simp
  refine gV ?_;refine aT λ h=>?_;refine cP hE 3 ?_;conv=>whnf
  refine To.permAt hE [0,1,2,4,6,11] [3,5,7,8,9,10,12] (by rfl) ?_;conv=>whnf
  refine aL ?_;conv=>whnf
  refine aO (o:=rGan s) (λ h1=>?_) (λ⟨g,p⟩ h1=>?_)
  .exact zqca26
  simp only [h1] at b d;refine .eff [] [0] _ _ rfl (BE h1) ?_;conv=>whnf
  refine aL ?_;conv=>whnf
  refine aO (o:=bI p) (λ j=>?_) (λ⟨q,z⟩ j=>?_)
  .exact zqca37
  simp only [j] at b d;refine .eff [] [0] _ _ rfl (bG j) ?_;conv=>whnf
  refine aL ?_;conv=>whnf
  refine aO (o:=bI z) (λ h3=>?_) (λ⟨a,x⟩ h3=>?_)
  .exact zqca36
  simp only [h3] at b d;refine .eff [] [0] _ _ rfl (bG h3) ?_;conv=>whnf
  refine aL ?_;conv=>whnf;conv=>whnf
  refine aL ?_;conv=>whnf;conv=>whnf
  refine aL ?_;conv=>whnf
  refine ⟨⟨by simp only [maxLen];simp;omega,by simp;omega⟩,?_⟩;conv=>whnf
  refine aL ?_;conv=>whnf;conv=>whnf
  refine aL ?_;conv=>whnf
  refine gV ?_;refine aJ (gV ?_);refine To.part [0,2,82,83] [0,1,2] rfl rfl rfl ?_;have y:=JB h1;have C:=bP j;have B:=bP h3;have next:=w (i+1) x (f++[⟨g,q,a⟩]) o_ q_ b d
  have e:pnv (f++[⟨g,q,a⟩])=pnv f++[Pn.av ⟨g,q,a⟩]:=by simp
  unfold reP at next
  rw [e] at next
  exact next
abbrev reH(c:Con)(now nxt:Int)(hi:az)(s:ax):au:=[.cells tRd [.str s],.cells 49 (reC c now nxt (.slice 11 [] .nil) (.slice 14 [] .nil) (.slice 1 (fv hi) (.own 2 0))),.tail 0 1 82]
def aF8(c:Con)(now nxt:Int)(n:Int)(u:n<=9223372036854775807)(r:Res)(O:au):∀ (m i:Nat) (s:ax) (d:az),(i+m:Int)=n->d.length+s.length<=1000000->pE stR (rH c now nxt m d s)=r->xW (rH c now nxt m d s)=O->
  To E fRd (.full 1 r O) (.head (stk fRd 0) [(0,.ref 0 0),(2,.ref 1 0),(50,.int .i64 n),(51,.int .i64 i)] (reH c now nxt d s)):=by
 intro m;induction m with
 | zero=>
  intro i s d g hl a b;unfold rH rPs at a b;refine gV ?_;refine aF λ h=>gV ?_;refine aO (o:=cU s) (λ h1=>?_) (λ⟨k,p⟩ h1=>?_)
  .exact zqca14
  simp only [h1] at a b;refine .eff [] [0] _ _ rfl (mA h1) ?_;have v:=eQ h1;refine gV ?_;refine To.part [0,2,82,83] [0,1] rfl rfl rfl ?_;refine To.begin 1 6 79 rfl rfl ?_;exact aF2 c now nxt d k o_ r O k.toNat 0 p [] o_ q_ a b
 | succ m q=>
  intro i s d g hl a b;unfold rH at a b;have l:(fv d).length=d.length:=by simp
  have f:=aHy s;unfold J7 at f;by_cases j:s.length<8
  .rw [if_pos j] at a b f;have a:Res.ret (.tup [Sta.av ⟨c,now,nxt,[],[],d⟩,.bool false])=r:=a;have b:rdO s=O:=b;subst a b;refine gV ?_;refine aT λ h=>gV ?_;refine .pure _ [] f ?_;exact zqca33
  .rw [if_neg j] at a b f;have next:=q (i+1) (s.drop 8) (d++[leN (s.take 8)]) o_ q_ a b
   have e:fv (d++[leN (s.take 8)])=fv d++[.int .u64 ((leN (s.take 8):Nat):Int)]:=by simp
   unfold reH at next
   rw [e] at next
   refine gV ?_;refine aT λ h=>gV ?_;refine .pure _ [] f (gV ?_);refine Ac (λ h=>absurd h d_) (λ_=>gV ?_);refine ⟨8,rfl,gV ?_⟩;refine ⟨by omega,gV ?_⟩;refine ⟨⟨by simp only [maxLen];simp;omega,by simp;omega⟩,?_⟩;refine gV ?_;refine aJ (gV ?_);refine To.part [0,2,50,51] [0,1,2] rfl rfl rfl ?_;exact next
def MK(s:ax)(hs:s.length<=1000000)(r:Res)(O:au)(a:pE stR (rSt s)=r)(b:xW (rSt s)=O):aq 163 [.ref 0 0] (rdO s) r O:=by
 unfold rSt at a b;refine cT (E:=E) (fn:=Tryz.f163) (g:=.full 1 _ _) λ_=>gV ?_;refine aO (o:=cU s) (λ h1=>?_) (λ⟨n,e⟩ h1=>?_)
 .exact zqca14
 simp only [h1] at a b;refine .eff [] [0] _ _ rfl (mA h1) ?_;have y:=eQ h1;have d:=C8.decode_ok (e.take n.toNat) q_;unfold C8.decX C8.decE at d;have i:n=((n.toNat:Nat):Int):=o_;refine aO (o:=C8.dec (e.take n.toNat)) (λ p=>?_) (λ x p=>?_)
 .simp only [p] at a b d;have d:aq 107 [.str (e.take n.toNat)] [] (.ret (.tup [Cmd.zero.av,ii 10])) []:=d;have a:Res.ret (.tup [Sta.av Sta.nil,.bool false])=r:=a;have b:rdO e=O:=b;subst a b;refine gV ?_;refine ⟨n.toNat,i,gV ?_⟩;refine ⟨by omega,gV ?_⟩;refine .pure _ [] d (gV ?_);refine Ac (λ_=>?_) (λ h=>absurd h d_);exact zqca33
 .simp only [p] at a b d;have d:aq 107 [.str (e.take n.toNat)] [] (.ret (.tup [x.av,ii 0])) []:=d;by_cases m:x.k=1
  .rw [if_pos m] at a b;unfold rB at a b;refine gV ?_;refine ⟨n.toNat,i,gV ?_⟩;refine ⟨by omega,gV ?_⟩;refine .pure _ [] d (gV ?_);refine Ac (λ h=>absurd h d_) (λ_=>gV ?_);refine Ac (λ h=>absurd h (by simp [m])) (λ_=>gV ?_);refine ⟨n.toNat,i,gV ?_⟩;refine ⟨by omega,?_⟩;refine cP hE 13 ?_;conv=>whnf
   refine To.permAt hE [0,1,2,4,6,8,10] [3,5,7,9,11] (by rfl) ?_;conv=>whnf
   refine aL ?_;conv=>whnf
   refine aO (o:=bI (e.drop n.toNat)) (λ h3=>?_) (λ⟨now,v⟩ h3=>?_)
   .simp only [h3] at a b;have a:Res.pan (aX 10)=r:=a;have b:rdU=O:=b;subst a b;exact zqca18
   simp only [h3] at a b;refine .eff [] [0] _ _ rfl (bG h3) ?_;have C:=bP h3;conv=>whnf
   refine aL ?_;conv=>whnf
   refine aO (o:=bI v) (λ j=>?_) (λ⟨nxt,q⟩ j=>?_)
   .simp only [j] at a b;have a:Res.pan (aX 10)=r:=a;have b:rdU=O:=b;subst a b;exact zqca24
   simp only [j] at a b;refine .eff [] [0] _ _ rfl (bG j) ?_;have B:=bP j;conv=>whnf
   refine aL ?_;conv=>whnf;conv=>whnf
   refine aL ?_;conv=>whnf;conv=>whnf
   refine aL ?_;conv=>whnf;conv=>whnf
   refine aL ?_;conv=>whnf
   refine gV ?_;refine aO (o:=cU q) (λ l=>?_) (λ⟨k,u⟩ l=>?_)
   .simp only [l] at a b;have a:Res.pan (aX 10)=r:=a;have b:rdU=O:=b;subst a b;refine .effp [] [0] _ _ rfl (jQ l) ?_;exact zx [0]
   simp only [l] at a b;refine .eff [] [0] _ _ rfl (mA l) ?_;have w:=eQ l;have z:(e.drop n.toNat).length<=e.length:=by simp
   refine gV ?_;refine To.part [0,2,50,51] [0,1] rfl rfl rfl ?_;refine To.begin 1 8 82 rfl rfl ?_;exact aF8 x.c now nxt k o_ r O k.toNat 0 u [] o_ q_ a b
  .rw [if_neg m] at a b;have a:Res.ret (.tup [Sta.av Sta.nil,.bool false])=r:=a;have b:rdO e=O:=b;subst a b;refine gV ?_;refine ⟨n.toNat,i,gV ?_⟩;refine ⟨by omega,gV ?_⟩;refine .pure _ [] d (gV ?_);refine Ac (λ h=>absurd h d_) (λ_=>gV ?_);refine Ac (λ_=>?_) (λ h=>absurd h (by simp [m]));refine To.loose (gV ?_);exact zqca7
def aGd{s s':ax}(hs:s.length<=1000000){x:Sta}{b:Bool}(h:rSt s=some ((x,b),s')):aq 163 [.ref 0 0] (rdO s) (.ret (.tup [x.av,.bool b])) (rdO s'):=MK s hs _ _ (by rw [h];rfl) (by rw [h];rfl)
def aBI{s:ax}(hs:s.length<=1000000)(h:rSt s=none):aq 163 [.ref 0 0] (rdO s) (.pan (aX 10)) rdU:=MK s hs _ _ (by rw [h];rfl) (by rw [h];rfl)
open C8 (bI cU rGan rdO rdU aX aO bP eQ tRd)
set_option maxRecDepth 10000
abbrev zSt:ay:=[.slice 11 [] .nil,.slice 6 [] .nil,ii 0,ii 0,ii 0,ii 0,.slice 11 [] .nil,.slice 14 [] .nil,.slice 1 [] .nil]
abbrev deO(s:ax):au:=[.cells 9 [.str s],.cells 49 zSt,.cells 4 [.bool false]]
abbrev deX(s:ax)(x:Sta)(b:Bool):au:=[.cells 9 [.str s],.cells 49 x.cs,.cells 4 [.bool b]]
abbrev deU:au:=tO (λ_=>.undef) (deO [])
def aLD{s s':ax}(hs:s.length<=1000000){x:Sta}{b:Bool}(h:rSt s=some ((x,b),s')):aq 162 [.ref 0 0,.ref 1 0,.ref 2 0] (deO s) (.ret (.tup [])) (deX s x b):=by refine cT (E:=E) (fn:=Tryz.f162) (g:=.full 3 _ _) λ_=>gV ?_;refine .eff [] [3] _ _ rfl (aGd hs h) (gV ?_);exact zx [0,1,2]
def aIr{s:ax}(hs:s.length<=1000000)(h:rSt s=none):aq 162 [.ref 0 0,.ref 1 0,.ref 2 0] (deO s) (.pan (aX 10)) deU:=by refine aA.blur (ao:=deO s) ?_;refine cT (E:=E) (fn:=Tryz.f162) (g:=.full 3 _ _) λ_=>gV ?_;refine .effp [] [3] _ _ rfl (aBI hs h) ?_;exact zx [0,1,2]
abbrev dV:aa:=.func (.func 162) [] [.ref 0 0,.ref 1 0,.ref 2 0]
def aFq{s s':ax}(hs:s.length<=1000000){x:Sta}{b:Bool}(h:rSt s=some ((x,b),s')):aq 157 [dV] (deO s) (.ret (ii 0)) (deX s x b):=by
 refine cT (E:=E) (fn:=Tryz.f157) (g:=.full 3 _ _) λ_=>gV ?_;refine To.defer (f:=71) (args:=[.ref 3 0]) _ rfl rfl ?_;refine gW C8.hEt ?_;conv=>whnf
 refine .eff [] [0,1,2] _ _ rfl (aLD hs h) ?_;refine gW C8.hEt ?_;conv=>whnf
 refine To.leave (f:=71) (args:=[.ref 3 0]) [] rfl [] [3] rfl (C8.catch_ret 0) ?_;exact zqca15
def aA1{s:ax}(hs:s.length<=1000000)(h:rSt s=none):aq 157 [dV] (deO s) (.ret (ii 10)) deU:=by
 refine cT (E:=E) (fn:=Tryz.f157) (g:=.full 3 _ _) λ_=>gV ?_;refine To.defer (f:=71) (args:=[.ref 3 0]) _ rfl rfl ?_;refine gW C8.hEt ?_;conv=>whnf
 refine .effp [] [0,1,2] _ _ rfl (aIr hs h) ?_;conv=>whnf
 refine To.leave (f:=71) (args:=[.ref 3 0]) [] rfl [] [3] rfl (C8.catch_pan 0 10) ?_;exact zqca15
def aBR:∀ (m:Nat) (hs:aw) (s:ax) (hs':aw) (s':ax),wF m hs s=some (hs',s')->hs'.length+s'.length<=hs.length+s.length
 | 0,hs,s,hs',s',h=>by cases h;exact Bd _
 | m+1,hs,s,hs',s',h=>by
  unfold wF at h;split at h
  .cases h
  .rename_i h1;have b:=bP h1;have:=aBR m _ _ _ _ h;simp at this;omega
def aMz(c:Con)(now nxt:Int)(e:az)(d:a7)(N:Nat):∀ (m:Nat) (a:a6) (s:ax) (x:Sta) (b:Bool) (s':ax),rR c now nxt e d m a s=some ((x,b),s')->a.length+s.length<=N->(∀ y∈a,y.hs.length<=N)->x.c=c/\x.run.length<=N/\∀ y∈x.run,y.hs.length<=N
 | 0,a,s,x,b,s',h,hl,hy=>by cases h;exact ⟨rfl,by show a.length<=N;omega,hy⟩
 | m+1,a,s,x,b,s',h,hl,hy=>by
  unfold rR at h;split at h
  .cases h
  .rename_i h1;split at h
   .cases h
   .rename_i f;split at h
    .cases h
    .rename_i h3;split at h
     .cases h
     .rename_i i;split at h
      .cases h
      .rename_i j;have p:=JB h1;have q:=bP f;have o:=bP h3;have r:=bP i;have n:=bP j;split at h
       .cases h;exact ⟨rfl,by show a.length<=N;omega,hy⟩
       .split at h
        .cases h
        .rename_i hs' l k;have g:=aBR _ _ _ _ _ k;simp at g;refine aMz c now nxt e d N m _ _ x b s' h q_ λ y hm=>?_;rcases Ba.1 hm with hm | hm
         .exact hy y hm
         .rw [Dj] at hm;subst hm;show hs'.length<=N;omega
def aMA(c:Con)(now nxt:Int)(d:az)(N:Nat):∀ (m:Nat) (a:a7) (s:ax) (x:Sta) (b:Bool) (s':ax),rP c now nxt d m a s=some ((x,b),s')->s.length<=N->x.c=c/\x.run.length<=N/\∀ y∈x.run,y.hs.length<=N
 | 0,a,s,x,b,s',h,hl=>by
  unfold rP rRs at h;split at h
  .cases h
  .rename_i h1;have f:=eQ h1;exact aMz c now nxt d a N _ _ _ x b s' h q_ λ y g=>by cases g
 | m+1,a,s,x,b,s',h,hl=>by
  unfold rP at h;split at h
  .cases h
  .rename_i h1;split at h
   .cases h
   .rename_i e;split at h
    .cases h
    .rename_i h3;have f:=JB h1;have i:=bP e;have j:=bP h3;exact aMA c now nxt d N m _ _ x b s' h o_
def aMB(c:Con)(now nxt:Int)(N:Nat):∀ (m:Nat) (a:az) (s:ax) (x:Sta) (b:Bool) (s':ax),rH c now nxt m a s=some ((x,b),s')->s.length<=N->x.c=c/\x.run.length<=N/\∀ y∈x.run,y.hs.length<=N
 | 0,a,s,x,b,s',h,hl=>by
  unfold rH rPs at h;split at h
  .cases h
  .rename_i h1;have e:=eQ h1;exact aMA c now nxt a N _ _ _ x b s' h o_
 | m+1,a,s,x,b,s',h,hl=>by
  unfold rH at h;split at h
  .cases h;exact ⟨rfl,Bx _,λ y d=>by cases d⟩
  .exact aMB c now nxt N m _ _ x b s' h q_
def aMy{s s':ax}{x:Sta}{b:Bool}(h:rSt s=some ((x,b),s'))(hl:s.length<=1000000):x.c.sm/\Sm x.run:=by
 unfold rSt at h;split at h
 .cases h
 .rename_i n p h1;have r:=eQ h1;split at h
  .cases h;exact ⟨⟨Bx _,Bx _⟩,Bx _,λ y e=>by cases e⟩
  .rename_i y a;have d:C8.chk y=0:=by
    unfold C8.dec at a;split at a
    .split at a
     .rename_i o;cases a;exact o.2
     .cases a
    .cases a
   have T:=C8.chk_told d;have i:=T.ln;have g:=T.lh;simp only [Cc] at i g;split at h
   .unfold rB at h;split at h
    .cases h
    .rename_i h3;split at h
     .cases h
     .rename_i j;split at h
      .cases h
      .rename_i l;have m:=bP h3;have u:=bP j;have q:=eQ l;simp only [Eh] at m;obtain ⟨f,t,k⟩:=aMB y.c _ _ 1000000 _ _ _ x b s' h o_;rw [f];exact ⟨⟨by omega,by omega⟩,by omega,λ z hz=>by have:=k z hz;omega⟩
   .cases h;exact ⟨⟨Bx _,Bx _⟩,Bx _,λ y e=>by cases e⟩
def Z3(s:ax):Option Sta:=match rSt s with
 | some ((x,b),_)=>if b=true/\mM x=true then some x else none
 | none=>none
def aBf(s:ax):Sta:=(Z3 s).getD Sta.nil
def aLC(s:ax):Int:=match Z3 s with | some _=>0 | none=>10
def aFR(s:ax)(hs:s.length<=1000000):aq 108 [.str s] [] (.ret (.tup [(aBf s).av,ii (aLC s)])) []:=by
 unfold aBf aLC Z3;refine c_ Tryz.f108 λ_=>gV ?_;refine aO (o:=rSt s) (λ h=>?_) (λ⟨⟨x,b⟩,s'⟩ h=>?_)
 .simp only [h];refine .eff [] [0,2,3] _ _ rfl (aA1 hs h) ?_
  repeat' first | (refine gN hE ?_;conv=>whnf) | exact rfl | refine zt ?_ | refine zu ?_ ?_ | intro h | fail
 .obtain ⟨e,d⟩:=aMy h hs;have a:=GA x e d;simp only [h];refine .eff [] [0,2,3] _ _ rfl (aFq hs h) ?_;cases b with
  | false=>
   rw [if_neg (λ q=>absurd q.1 d_)]
   repeat' first | (refine gN hE ?_;conv=>whnf) | exact rfl | refine zt ?_ | refine zu ?_ ?_ | intro h | fail
  | true=>
   cases c:mM x with
   | false=>
    rw [c] at a;have a:aq 54 [x.av] [] (.ret (ii 1)) []:=a;rw [if_neg (λ q=>absurd q.2 d_)]
    repeat' first | (refine gN hE ?_;conv=>whnf) | refine .pure _ [] a ?_ | exact rfl | refine zt ?_ | refine zu ?_ ?_ | intro h | fail
   | true=>
    rw [c] at a;have a:aq 54 [x.av] [] (.ret (ii 0)) []:=a;rw [if_pos ⟨rfl,rfl⟩]
    repeat' first | (refine gN hE ?_;conv=>whnf) | refine .pure _ [] a ?_ | exact rfl | refine zt ?_ | refine zu ?_ ?_ | intro h | fail
open C8 (leN bI cU rGan aZ nY fX pl putN fW MO CO)
def nQ{v:V3}(h:bL v=true):okI v.l=true:=by unfold bL at h;simp only [Ad,decide_eq_true_eq] at h;simp only [V3.l,okI,pM,Ad,decide_eq_true_eq,and_true];omega
def aAs{v:V3}(h:zB v=true):okI v.l=true:=by unfold zB at h;simp at h;simp only [V3.l,okI,pM,Ad,decide_eq_true_eq,and_true];omega
def aCl{bl:Bool}{i:Nat}{x:Nod}(c:i<=100)(h:oC bl i x=true):x.ok=true:=by
 unfold oC at h;by_cases a:A8 i x
 .rw [if_pos a] at h;cases h
 .rw [if_neg a] at h;unfold A8 at a;have h3:okI x.n.l=true/\okI x.b.l=true/\okI x.l.l=true:=by
   cases bl with
   | true=>
    simp only [if_true,Ad] at h;exact ⟨nQ h.1,nQ h.2.1,nQ h.2.2.1⟩
   | false=>
    rw [if_neg d_] at h;simp only [Ad] at h;exact ⟨aAs h.1,aAs h.2.1,aAs h.2.2⟩
  unfold Nod.ok;rw [h3.1,h3.2.1,h3.2.2];exact zqca22
def GL(ns:bc):∀ (l:bc) (i:Nat),i+l.length<=100->kM ns i l=true->uZ l=true
 | [],_,_,_=>rfl
 | x::r,i,hi,h=>by
  unfold kM at h;simp at hi;by_cases a:oC (rlB ns i) i x=true
  .rw [if_pos a] at h;unfold uZ;rw [aCl o_ a,GL ns r (i+1) o_ h];rfl
  .rw [if_neg a] at h;cases h
def aCX{x:Hos}(h:lT x=true):x.ok=true:=by
 unfold lT at h;by_cases a:FS x
 .rw [if_pos a] at h;cases h
 .rw [if_neg a] at h;unfold FS at a;unfold Hos.ok;rw [nQ h];exact zqca22
def N8:∀ (l:List Hos),l.all lT=true->qP l=true
 | [],_=>rfl
 | x::r,h=>by rw [Kb,Ad] at h;unfold qP;rw [aCX h.1,N8 r h.2];rfl
def H6{c:Con}(h:bU c=0):c.tok=true/\c.ns.length<=12/\c.hs.length<=24:=by
 unfold bU at h;by_cases h1:AV c
 .rw [if_pos h1] at h;by_cases a:kM c.ns 0 c.ns=true
  .rw [if_pos a] at h;by_cases h3:c.hs.all lT=true
   .unfold AV at h1;refine ⟨?_,h1.1.2,h1.2.1.2⟩;unfold Con.tok;rw [GL c.ns c.ns 0 o_ a,N8 _ h3];simp only [Bool.and_self,Cz,okI,pM,Ad,decide_eq_true_eq,and_true];omega
   .rw [if_neg h3] at h;cases h
  .rw [if_neg a] at h;cases h
 .rw [if_neg h1] at h;cases h
def HR{c:Con}(h:fZ c=true):c.tok=true/\c.ns.length<=12/\c.hs.length<=24:=by unfold fZ at h;simp only [Ad,decide_eq_true_eq] at h;obtain ⟨ns,hs,half,age⟩:=c;obtain ⟨h1,a,h3,b⟩:=h;simp only at h1 a h3 b;subst h1 a h3 b;exact ⟨rfl,by simp,by simp⟩
def T8{c:Con}(h:c.tok=true)(e:c.ns.length<=12)(f:c.hs.length<=24):C8.chk ⟨1,c,Gan.zero,0⟩=0:=by
 have a:((nav c.ns).length:Int)<=12:=by simp;omega
 have b:((hav c.hs).length:Int)<=24:=by simp;omega
 have d:C8.chkL ⟨1,c,Gan.zero,0⟩=0:=by unfold C8.chkL;rw [decide_eq_true a,decide_eq_true b];rfl
 unfold C8.chk C8.chk2 C8.chk3 C8.chk4 C8.chkC C8.chkG C8.chkN;rw [d,h];rfl
def XA{s:Sta}(h:mM s=true):C8.chk s.cmd=0:=by
 unfold mM OC at h;simp only [Ad,Fb,decide_eq_true_eq] at h;obtain ⟨⟨h1,_⟩,_⟩:=h;rcases h1 with h1 | h1
 .obtain ⟨a,b,c⟩:=HR h1;exact T8 a b c
 .obtain ⟨a,b,c⟩:=H6 h1;exact T8 a b c
def RJ{c:Con}{t:Int}(h:bD c.ns t=true):0<=t/\t<(c.ns.length:Int):=by
 unfold bD at h;by_cases h1:0<=t
 .rw [if_pos (decide_eq_true h1)] at h;by_cases a:t<(c.ns.length:Int)
  .exact ⟨h1,a⟩
  .rw [if_neg (by rw [decide_eq_false a];decide)] at h;cases h
 .rw [if_neg (by rw [decide_eq_false h1];decide)] at h;cases h
def OH{c:Con}{g:Gan}(d:c.ns.length<=12)(h:eU c g=0):g.ok=true:=by obtain ⟨h1,a⟩:=oJ.1 h;have h3:=RJ a;unfold KX at h1;simp only [Ad,decide_eq_true_eq] at h1;have b:=nQ h1.2.1;unfold Gan.ok;rw [b];exact zqca22
def XC{s:Sta}(h:mM s=true):(s.c.tok=true/\s.c.ns.length<=12/\s.c.hs.length<=24)/\(∀ x∈s.c.hs,0<=x.f/\x.f<=100)/\(0<=s.now/\s.now<=1099511627776)/\(1<=s.nxt/\s.nxt<=1099511627776)/\s.hist.length=s.c.ns.length/\s.pend.length+s.run.length<=32:=by
 unfold mM OC at h;simp only [Ad,Fb,decide_eq_true_eq] at h;obtain ⟨⟨h1,j,h3,k,i⟩,_⟩:=h;refine ⟨?_,?_,j,h3,k,i⟩
 .rcases h1 with h1 | h1
  .exact HR h1
  .exact H6 h1
 .intro x a;rcases h1 with h1 | h1
  .unfold fZ at h1;simp only [Ad,decide_eq_true_eq] at h1;rw [h1.2.1] at a;cases a
  .unfold bU at h1;by_cases e:AV s.c
   .rw [if_pos e] at h1;by_cases g:kM s.c.ns 0 s.c.ns=true
    .rw [if_pos g] at h1;by_cases b:s.c.hs.all lT=true
     .have:=Cr.1 b x a;unfold lT at this;by_cases d:FS x
      .rw [if_pos d] at this;cases this
      .unfold FS at d;omega
     .rw [if_neg b] at h1;cases h1
    .rw [if_neg g] at h1;cases h1
   .rw [if_neg e] at h1;cases h1
def PC{s:Sta}(h:mM s=true):(mL s).length<=3000:=by
 obtain ⟨⟨h1,i,h3⟩,_⟩:=XC h;have e:mL s=pl s.cmd.il:=if_pos (XA h);rw [e];have key:∀ (l:aw),okI l=true->(pl l).length<=10*l.length:=λ l hl=>C8.pl_len (nG hl);have g:∀ (l:bc),uZ l=true->(pl (C8.nodL l)).length<=110*l.length:=by
  intro l;induction l with
  | nil=>intro _;simp [C8.nodL,pl]
  | cons x r a=>
   intro hl;unfold uZ at hl;rw [Ad] at hl;have e:C8.nodL (x::r)=x.il++C8.nodL r:=rfl;rw [e,C8.pl_append,Ai];have:=C8.il_len x hl.1;have:=a hl.2;simp only [Al];omega
 have d:∀ (l:List Hos),qP l=true->(pl (C8.hosL l)).length<=60*l.length:=by
  intro l;induction l with
  | nil=>intro _;simp [C8.hosL,pl]
  | cons x r a=>
   intro hl;unfold qP at hl;rw [Ad] at hl;have e:C8.hosL (x::r)=x.il++C8.hosL r:=rfl;rw [e,C8.pl_append,Ai];have:=C8.ih_len x hl.1;have:=a hl.2;simp only [Al];omega
 unfold Con.tok at h1;simp only [Ad] at h1;have q:=g _ h1.1.1;have j:=d _ h1.1.2;have m:=key [(1:Int)] rfl;have p:(pl [((nav s.c.ns).length:Int)]).length<=10:=by have:=C8.pl_len (l:=[((nav s.c.ns).length:Int)]) (λ n b=>by simp at b;omega);simpa using this
 have o:(pl [((hav s.c.hs).length:Int)]).length<=10:=by have:=C8.pl_len (l:=[((hav s.c.hs).length:Int)]) (λ n b=>by simp at b;omega);simpa using this
 have k:=key [s.c.half,s.c.age] h1.2;have f:s.cmd.il=[(1:Int)]++([((nav s.c.ns).length:Int)]++(C8.nodL s.c.ns++([((hav s.c.hs).length:Int)]++(C8.hosL s.c.hs++[s.c.half,s.c.age])))):=rfl;rw [f];simp only [C8.pl_append,Ai,Al,Bu] at *
 omega
def TC{s:Sta}(h:mM s=true):Wr s:=by
 obtain ⟨⟨h1,p,h3⟩,C,w,F,K,H⟩:=XC h;have k:=h;unfold mM at k;simp only [Ad,Cr] at k;refine ⟨Cx (PC h) d_,⟨w.1,w.2,by omega,F.2⟩,by omega,by omega,by omega,λ x j=>?_,λ x j=>?_⟩
 .have a:=k.2.2.1.1 x j;unfold pnB at a;simp only [Ad,decide_eq_true_eq] at a;refine ⟨OH p a.1,?_⟩;have:=a.2.2;exact zqca22
 .have a:=k.2.2.1.2 x j;have B:=(XB h j).chk;obtain ⟨q,m⟩:=KS B;rw [wY] at m;unfold pnB rnB at a;simp only [Ad,decide_eq_true_eq] at a;obtain ⟨⟨y,_,t⟩,⟨I,J⟩,_,n⟩:=a;have hp:=uO y;have D:1<=x.g.pods/\x.g.pods<=16:=hp;have d:x.hs≠[]:=λ e=>by rw [e] at q;simp at q;omega
  have G:0<=x.fl/\x.fl<=100:=by
   cases o:x.hs with
   | nil=>exact absurd o d
   | cons u r=>
    have i:=m u (by rw [o];exact Ao ..);rw [o] at n;have n:(bK s.c.hs u).f=x.fl:=n;have b:u.toNat<s.c.hs.length:=o_;have hm:bK s.c.hs u∈s.c.hs:=by unfold bK;rw [Aa b];exact Bf b
    have:=C _ hm;omega
  have t:(0<=x.seq/\x.seq<s.nxt)/\0<=x.at'/\x.at'<=s.now:=t;refine ⟨OH p y,?_,?_,d,by omega⟩
  .exact zqca22
  .have key:∀ (l:aw),(∀ u∈l,0<=u/\u<(s.c.hs.length:Int))->okI l=true:=by
    intro l;induction l with
    | nil=>intro _;rfl
    | cons u r z=>
     intro hl;have i:=hl u (Ao ..);unfold okI;rw [z λ v A=>hl v (Ay _ A)];simp only [pM,Ad,decide_eq_true_eq,and_true];omega
   exact key x.hs λ u i=>⟨(m u i).1,(m u i).2.1⟩
open C8 (leN JX rQ bI cU rGan aZ nY fX pl putN fW MO CO bP eQ)
def N3(x:Nat):∀ (i:Nat),leN (FM x i)=x % 2 ^ (8*i)
 | 0=>by simp [FM,leN,Jc]
 | i+1=>by rw [HI,rQ,kJ,N3 x i];unfold HJ;rw [Gy,Nat.mod_mod,Gj,Fi,Nat.mod_mul,Dd (2 ^ (8*i)),show (2:Nat) ^ (8*1)=256 from rfl]
def aG4{x:Nat}(h:x<18446744073709551616):leN (xA x)=x:=by unfold xA;rw [N3,Gx o_]
def CN(c:Con)(now nxt:Int):∀ (l a:az) (s:ax),(∀ x∈l,x<18446744073709551616)->rH c now nxt l.length a (yG l++s)=rPs c now nxt (a++l) s
 | [],a,s,_=>by rw [Ar];rfl
 | x::r,a,s,h=>by
  have hl:(xA x).length=8:=kJ x 8;have e:yG (x::r)++s=xA x++(yG r++s):=by rw [<-Af];rfl
  rw [e,Al];unfold rH;rw [if_neg (by rw [Ai];omega)];have b:(xA x++(yG r++s)).take 8=xA x:=by rw [Db o_,Ch o_]
  have f:(xA x++(yG r++s)).drop 8=yG r++s:=by rw [<-hl,Ji]
  rw [b,f,aG4 (h x (Ao ..)),CN c now nxt r _ s λ y d=>h y (Ay _ d),Af];rfl
def aKq(a b:Int)(s:ax):pl [a,b]++s=putN a.toNat++(putN b.toNat++s):=by simp [pl]
def ok2{a b:Int}(h:okI [a,b]=true):(0<=a/\a<=1099511627777)/\0<=b/\b<=1099511627777:=by have h1:=C8.okI_b h a s_;have c:=C8.okI_b h b s_;omega
def aBO(c:Con)(now nxt:Int)(b:az):∀ (l a:a7) (s:ax),(∀ x∈l,x.g.ok=true/\okI [x.seq,x.at']=true)->rP c now nxt b l.length a (tG l++s)=rRs c now nxt b (a++l) s
 | [],a,s,_=>by rw [Ar];rfl
 | x::r,a,s,h=>by
  obtain ⟨h1,i⟩:=h x (Ao ..);obtain ⟨f,d⟩:=ok2 i;have e:tG (x::r)++s=pl x.g.il++(putN x.seq.toNat++(putN x.at'.toNat++(tG r++s))):=by rw [<-aKq];show (pl x.g.il++pl [x.seq,x.at']++tG r)++s=_;simp only [Af]
  rw [e,Al];unfold rP;rw [nY h1];dsimp only;rw [aZ f.1 f.2];dsimp only;rw [aZ d.1 d.2];dsimp only;rw [aBO c now nxt b r _ s λ y j=>h y (Ay _ j),Af];rfl
def wE:∀ (l a:aw) (s:ax),okI l=true->wF l.length a (pl l++s)=some (a++l,s)
 | [],a,s,_=>by rw [Ar];rfl
 | x::r,a,s,h=>by
  have b:=C8.okI_b h x (Ao ..);have e:pl (x::r)++s=putN x.toNat++(pl r++s):=by simp [pl]
  have c:okI r=true:=by unfold okI at h;rw [Ad] at h;exact h.2
  rw [e,Al];unfold wF;rw [aZ b.1 o_];dsimp only;rw [wE r _ s c,Af];rfl
def U3:∀ (l:aw),l.length<=(pl l).length
 | []=>Bx _
 | x::r=>by have:=U3 r;have:=C8.putN_pos x.toNat;simp only [pl,Ai,Al];omega
def aBN(c:Con)(now nxt:Int)(f:az)(d:a7):∀ (l a:a6),(∀ x∈l,(x.hs.length:Int)=x.g.pods/\x.g.ok=true/\okI [x.seq,x.at',x.st,x.fl]=true/\okI x.hs=true)->rR c now nxt f d l.length a (pD l)=some ((⟨c,now,nxt,d,a++l,f⟩,true),[])
 | [],a,_=>by rw [Ar];rfl
 | x::r,a,h=>by
  obtain ⟨p,h1,b,h3⟩:=h x (Ao ..);have i:=C8.okI_b b x.seq s_;have k:=C8.okI_b b x.at' s_;have n:=C8.okI_b b x.st s_;have m:=C8.okI_b b x.fl s_;have e:pD (x::r)=pl x.g.il++(putN x.seq.toNat++(putN x.at'.toNat++(putN x.st.toNat++(putN x.fl.toNat++(pl x.hs++pD r))))):=by show (pl x.g.il++pl [x.seq,x.at',x.st,x.fl]++pl x.hs)++pD r=_;simp [pl]
  rw [e,Al];unfold rR;rw [nY h1];dsimp only;rw [aZ i.1 o_];dsimp only;rw [aZ k.1 o_];dsimp only;rw [aZ n.1 o_];dsimp only;rw [aZ m.1 o_];dsimp only;have o:=U3 x.hs;rw [if_neg (by rw [decide_eq_false (by rw [Ai];omega)];decide),show x.g.pods.toNat=x.hs.length from by omega,wE _ _ _ h3];dsimp only;rw [aBN c now nxt f d r _ λ y j=>h y (Ay _ j),Af];rfl
def DZ:∀ (l:az),(yG l).length=8*l.length
 | []=>rfl
 | x::r=>by have:(xA x).length=8:=kJ x 8;unfold yG;rw [Ai,DZ r,Al];omega
def M6:∀ (l:a7),l.length<=(tG l).length
 | []=>Bx _
 | x::r=>by
  have h1:=M6 r;have a:=U3 [x.seq,x.at'];unfold tG;simp only [Ai,Al,Bu] at *
  omega
def ME:∀ (l:a6),l.length<=(pD l).length
 | []=>Bx _
 | x::r=>by
  have h1:=ME r;have a:=U3 [x.seq,x.at',x.st,x.fl];unfold pD;simp only [Ai,Al,Bu] at *
  omega
def aGf{s:Sta}(h:mM s=true)(g:∀ x∈s.hist,x<18446744073709551616):rSt (cX s)=some ((s,true),[]):=by
 have w:=TC h;have a:=XA h;obtain ⟨q,⟨n1,n2,i,o⟩,r,p,t,c,l⟩:=w;have f:C8.dec (mL s)=some s.cmd:=by have e:mL s=pl s.cmd.il:=if_pos a;unfold C8.dec;rw [e,C8.rCmd_put (C8.chk_told a)];exact if_pos ⟨rfl,a⟩
 have l1:=DZ s.hist;have l2:=M6 s.pend;have n:=ME s.run;have e:cX s=putN ((mL s).length:Int).toNat++(mL s++(putN s.now.toNat++(putN s.nxt.toNat++(putN (s.hist.length:Int).toNat++(yG s.hist++(putN (s.pend.length:Int).toNat++(tG s.pend++(putN (s.run.length:Int).toNat++pD s.run)))))))):=by unfold cX;simp [pl]
 rw [e];unfold rSt;rw [fX o_ o_ _ (by rw [Ai];omega)];dsimp only;rw [Bv,Hn,Ji,f];dsimp only;rw [if_pos (show s.cmd.k=1 from rfl)];unfold rB;rw [aZ n1 o_];dsimp only;rw [aZ i o_];dsimp only;rw [fX o_ o_ _ (by rw [Ai];omega)];dsimp only;rw [Bv,CN _ _ _ _ _ _ g];unfold rPs;rw [fX o_ o_ _ (by rw [Ai];omega)];dsimp only;rw [Bv,aBO _ _ _ _ _ _ _ c];unfold rRs;rw [fX o_ o_ _ o_];dsimp only;rw [Bv,aBN _ _ _ _ _ _ _ λ x b=>?_]
 .rfl
 .obtain ⟨d,j,m,_,_⟩:=l x b;exact ⟨(KS (XB h b).chk).1,d,j,m⟩
def aIq{s:Sta}(h:mM s=true)(a:∀ x∈s.hist,x<18446744073709551616):Z3 (cX s)=some s:=by unfold Z3;rw [aGf h a];exact if_pos ⟨rfl,h⟩
end Go.Proofs.YtaeegbkbahgjhaaGreatDoor
