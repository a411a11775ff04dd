/- Part 8 of what the statement rests on. -/
import Derived.Lib.Builder
import Derived.Lib.UnsafeStr
import Derived.Lib.Walk
import Derived.Shelf.RegionOpenPlain
import Derived.Test.YtidhfoefaomodaaGreatDoorMRA
set_option linter.all false
set_option maxHeartbeats 1000000
open And renaming intro->Ae
open Bool renaming and_assoc->Dd,and_eq_true->Af,and_false->Bl,and_true->Em,eq_false_or_eq_true->Eu,eq_iff_iff->Ig,false_and->De,false_eq_true->Cr,false_or->Nh,not_eq_false'->Jg,not_eq_true'->Df,or_eq_true->Fl,true_and->Bw
open Decidable renaming not_not->Fs
open Exists renaming intro->Aq
open Go.Builtin renaming unsafeSliceData_->Je,unsafeString_->Jy
open Go.Result renaming andThen->Ep
open Go.World renaming shape?->Jo
open Int renaming fdiv_eq_ediv_of_nonneg->Ei,le_refl->Dc,le_trans->Ds,mul_nonneg->Lh,toNat->Dx,toNat_natCast->Br,toNat_of_nonneg->Ld
open List renaming all_cons->Kj,all_eq_true->Cb,any_cons->Hq,any_eq_true->Ga,append_assoc->Ag,append_nil->Ar,cons_append->Bu,count_append->Jm,count_cons_of_ne->Mu,count_cons_self->Ir,count_eq_zero->Li,count_le_length->Na,drop->Ht,drop_drop->Hv,drop_eq_getElem_cons->Aa,drop_eq_nil_of_le->Ab,drop_left->Jp,drop_zero->Ap,eraseIdx_eq_take_drop_succ->Gi,ext_getElem?->Ek,filter_cons_of_neg->Fc,filter_cons_of_pos->Gb,filter_eq_self->Gf,foldl_cons->Bb,getElem?_append_left->Ah,getElem?_append_right->Al,getElem?_drop->Ca,getElem?_eq_getElem->Ac,getElem?_eq_none->Bm,getElem?_eq_some_iff->Ad,getElem?_map->Bi,getElem?_range->Dr,getElem?_take_of_lt->Bn,getElem_mem->Ax,length->Ko,length_append->Ai,length_cons->Ak,length_drop->Ew,length_eraseIdx->Kn,length_map->Cm,length_nil->Bz,length_pos_iff->Eg,length_take->Dw,map_append->Bq,map_cons->Bj,map_drop->Jd,map_map->Ef,map_take->Gq,mem_append->Bd,mem_append_left->Cf,mem_append_right->Ct,mem_cons->Aw,mem_cons_of_mem->Av,mem_cons_self->Ao,mem_map->Ce,mem_map_of_mem->Cq,mem_singleton->Dp,nil_append->Bp,nodup_cons->Cl,not_mem_nil->Hu,pairwise_iff_getElem->Gj,range->Du,range'->Iu,range_eq_range'->Iv,range_succ->Mr,replicate->Aj,replicate_succ->Le,set_append_right->Hj,take->Ii,take_add_one->Jn,take_append_drop->Bv,take_append_of_le_length->Dm,take_left->Hw,take_of_length_le->Cn
open Nat renaming add_mul->Cg,add_sub_cancel_left->Gu,add_zero->Fx,beq->Ba,le_refl->Bh,le_trans->Dh,min_eq_left->Gy,mod_eq_of_lt->Hf,mod_one->Ji,mul_add->Gr,mul_assoc->Ij,mul_comm->Dn,mul_le_mul_right->Cc,pow_add->Ft,pow_le_pow_right->Fg,strongRecOn->Ih,sub_zero->Iz,zero_add->Bx,zero_le->Ch,zero_lt_succ->Lz
open Option renaming map_eq_some_iff->Co
open Option.some renaming injEq->Dy
open Or renaming inl->Gl,inr->Kx
open Prod.mk renaming injEq->Ha
open UInt8 renaming ofNat->Dj,toNat_ofNat'->Hh
namespace Go.Proofs.YtidhfoefaomodaaGreatDoor
open Go Go.AW Go.Proofs
def zqca0{P:Prop}(h:P:=by
 have b:false=r:=b;subst b;rcases z with ⟨rfl,rfl⟩ | rfl
 .refine gV ?_;refine aT λ h=>?_
  repeat' first | (refine gN hE ?_;conv=>whnf) | refine ⟨i,rfl,?_⟩ | refine ⟨u0.toNat,n,?_⟩ | refine ⟨_,get,?_⟩ | refine ⟨_,e,?_⟩ | refine ⟨_,j,?_⟩ | refine Aq _ (Ae (d _) ?_) | refine .pure _ [] a ?_ | exact rfl | refine zt ?_ | refine zu ?_ ?_ | intro h | fail
 .refine gV ?_;refine aT λ h=>?_
  repeat' first | (refine gN hE ?_;conv=>whnf) | refine ⟨i,rfl,?_⟩ | refine ⟨u0.toNat,n,?_⟩ | refine ⟨_,get,?_⟩ | refine ⟨_,e,?_⟩ | refine ⟨_,j,?_⟩ | refine Aq _ (Ae (d _) ?_) | refine .pure _ [] a ?_ | exact rfl | refine zt ?_ | refine zu ?_ ?_ | intro h | fail):P:=h
def zqca1{P:Prop}(h:P:=by
 refine To.leave (f:=152) (args:=[.ref 1 0]) [] rfl [] [1] rfl (catch_pan 0 1) ?_
 exact To.left hE rfl rfl rfl):P:=h
def zqca2{P:Prop}(h:P:=by
 refine gV ?_;refine aT λ h=>gV ?_;refine ⟨i,rfl,gV ?_⟩;refine ⟨_,get,gV ?_⟩;refine .pure _ [] c ?_;refine dF (hEr [] [64,65,66]) 20 ?_;conv=>whnf
 refine To.cutC [1,3,4,6,7,14,15,16] 3 rfl rfl rfl rfl ?_;refine xI p ?_
 exact zW):P:=h
def zqca3{P:Prop}(h:P:=by
 refine gV ?_;refine .eff [] [1,2] _ _ rfl (aA.strip (nums_ok [x.n] s_ m s_ _ q_)) (gV ?_);have il:=il_cons x [x.n] (by rw [h1,b,i];rfl);have a:putN x.k.toNat++pl [x.n]≠[]:=by rw [il];exact pl_ne _ _
 refine .eff [] [1,2] _ _ rfl (str_ok _ a _) (gV ?_)
 rw [il]):P:=h
def zqca4{P:Prop}(h:P:=by
 refine ⟨λ c=>?_,λ c=>?_⟩
 .refine gV ?_;rw [if_pos c] at a;rw [a]
 .refine gV ?_;rw [if_neg (by rw [c];simp)] at a;refine .inl ⟨⟨by simp only [dA];omega,by simp only [bN];omega⟩,?_⟩;have e:=k (i+1) o_ (by rw [<-a];push_cast;rfl)
  exact zW):P:=h
def zqca5{P:Prop}(h:P:=by
 refine gV ?_;have next:=u (i+1) 1 (bs++putN x.toNat) o_ (.inr rfl) (λ_=>rfl) (λ_=>rfl) q_ a
 rcases d with rfl | rfl
 .refine .sole rfl (.eff [] [0,1] _ _ rfl (ws_ok bs _ o_) (gV ?_));refine aJ (gV ?_);refine To.part [0,6,7,8] [0,1] rfl rfl rfl ?_;exact next
 .refine .sole rfl (.eff [] [0,1] _ _ rfl (ws_ok bs _ o_) (gV ?_));refine aJ (gV ?_);refine To.part [0,6,7,8] [0,1] rfl rfl rfl ?_
  exact next):P:=h
def zqca6{P:Prop}(h:P:=by
 refine gV ?_;refine aJ (gV ?_);refine gV ?_;refine Ae (λ h=>absurd (of_decide_eq_true h) s_) (λ_=>gV ?_);refine ⟨[],[0,1],⟨rfl,rfl⟩,?_⟩
 exact ⟨rfl,rfl⟩):P:=h
def zqca7{P:Prop}(h:P:=by
 refine ⟨[],[0],⟨rfl,rfl⟩,?_⟩
 exact ⟨rfl,rfl⟩):P:=h
def zqca8{P:Prop}(h:P:=by
 refine cT (E:=(Eo [14] [])) (fn:=Tryz.f87) (g:=.full 2 _ _) λ_=>gV ?_;refine .eff [] [0,1] _ _ rfl (P3 _) (gV ?_);refine ⟨⟨by simp only [maxLen];simp;omega,by simp;omega⟩,?_⟩;refine gV ?_;refine ⟨[],[0,1],⟨rfl,rfl⟩,?_⟩;conv=>whnf
 refine ⟨rfl,?_⟩;rw [Bq]
 rfl):P:=h
def zqca9{P:Prop}(h:P:=by
 refine gW hEc ?_;conv=>whnf
 refine .pure _ [] (iG _ _ rfl) ?_;refine dF hEc 2 ?_;conv=>whnf
 refine To.cutC [1,2] 2 rfl rfl rfl rfl ?_
 exact (aBe x r a)):P:=h
def zqca10{P:Prop}(h:P:=by
 intro i g bs r d m _ j a;have e:=m rfl;subst e;rw [Ab o_] at a;have a:bs++[]=B:=a;rw [Ar] at a;subst a;refine gV ?_;refine aF λ h=>gV ?_;refine ⟨[],[0,1],⟨rfl,rfl⟩,?_⟩;rcases d with rfl | rfl
 .exact ⟨rfl,rfl⟩
 .exact ⟨rfl,rfl⟩):P:=h
def zqca11{P:Prop}(h:P:=by
 refine cT (E:=(Eo [14] [])) (fn:=Tryz.f87) (g:=.full 1 _ _) λ_=>gV ?_;refine .eff [] [0] _ _ rfl (cc_fresh _) (gV ?_);refine ⟨⟨by simp only [maxLen];simp;omega,by simp;omega⟩,?_⟩;refine gV ?_
 exact zx [0,1]):P:=h
def zqca12{P:Prop}(h:P:=by exact c_ Tryz.f204 λ_=>zW):P:=h
def zqca13{P:Prop}(h:P:=by
 refine Lib.run_unsafeString_row w.drew 254 3 9 5 aDq aHp g a.size (by have m:w.drew.heap[g]? =some (.cells a 5 (0,0)):=q;simp [Jo,m]) l n o_ (by unfold maxLen at h;omega) ?_;intro j x r;rw [bK,Bx]
 exact c j x r):P:=h
def zqca14{P:Prop}(h:P:=by
 refine To.left hE rfl rfl ?_;refine ⟨[],[0,1,2],⟨rfl,rfl⟩,?_⟩
 exact ⟨rfl,rfl⟩):P:=h
def zqca15{P:Prop}(h:P:=by
 refine gW hEc ?_;conv=>whnf
 refine .pan _ (dP _ _ rfl) ?_;conv=>whnf
 exact zqca1):P:=h
def zqca16{P:Prop}(h:P:=by
 have h2:pav (xs.take i++[p]++xs.drop i)=(pav xs).take i++[p.av]++(pav xs).drop i:=by simp
 rw [h2]
 exact congrArg (λ l=>[ab.row 1 11 47 l,.row 0 11 47 [p.av]]) h):P:=h
def zqca17{P:Prop}(h:P:=by
 refine .effp [] [0] _ _ rfl (bZ h3) ?_
 exact zx [0]):P:=h
def zqca18{P:Prop}(h:P:=by
 refine .effp [] [0] _ _ rfl (bZ h1) ?_
 exact zx [0]):P:=h
def zqca19{P:Prop}(h:P:=by
 refine To.part [1,3,4,14,15,16] [0,1] rfl rfl rfl ?_;refine a ?_;clear d a;simp only [decide_eq_true_eq,decide_eq_false_iff_not,bne_iff_ne,ne_eq,bne_eq_false_iff_eq,Fs] at *
 simp [gcB]
 try omega):P:=h
def zqca20{P:Prop}(h:P:=by
 subst a;refine congrArg (λ q=>Res.ret (aa.bool q)) ?_;simp only [decide_eq_true_eq,decide_eq_false_iff_not] at *
 first | (rw [decide_eq_false o_];rfl) | (rw [decide_eq_true o_];rfl)):P:=h
def zqca21{P:Prop}(h:P:=by
 refine gV ?_;refine .pure _ [] (j xs[i] (Ax b)) (gV ?_);rw [Aa b] at a;have a:(if p xs[i]=true then (i:Int) else O8 p (xs.drop (i+1)) ((i:Int)+1))=r:=a
 exact zqca4):P:=h
def zqca22{P:Prop}(h:P:=by
 simp only [okI,pG,Af,decide_eq_true_eq,and_true]
 omega):P:=h
def zqca23{P:Prop}(h:P:=by
 refine gV ?_;refine .eff [] [1,2] _ _ rfl (str_ok _ a _) (gV ?_)
 rw [il]):P:=h
def zqca24{P:Prop}(h:P:=by
 refine .effp [] [0] _ _ rfl (mK h1) ?_
 exact zx [0]):P:=h
def zqca25{P:Prop}(h:P:=by
 refine gV ?_;refine To.part [0,6,7,8] [0,1] rfl rfl rfl ?_
 exact CY l o_ c _ 1 o_ l.length 0 0 bs o_ (.inl rfl) (λ h=>by omega) (λ_=>rfl) o_ rfl):P:=h
def zqca26{P:Prop}(h:P:=by
 simp only [h1] at d b;have d:Res.pan (bF 10)=r:=d;have b:rdU=O:=b;subst d b;refine .effp [] [0] _ _ rfl (AU h1) ?_
 exact zx [0]):P:=h
def zqca27{P:Prop}(h:P:=by
 simp only [g] at f d;have f:Res.pan (bF 10)=r:=f;have d:rdU=O:=d;subst f d;refine .effp [] [0] _ _ rfl (bZ g) ?_
 exact zx [0]):P:=h
def zqca28{P:Prop}(h:P:=by
 simp only [j] at d b;have d:Res.pan (bF 10)=r:=d;have b:rdU=O:=b;subst d b;refine .effp [] [0] _ _ rfl (bZ j) ?_
 exact zx [0]):P:=h
def zqca29{P:Prop}(h:P:=by
 refine gV ?_;refine ⟨[],[0,1],⟨rfl,rfl⟩,?_⟩
 exact ⟨rfl,rfl⟩):P:=h
def zqca30{P:Prop}(h:P:=by
 refine To.leave (f:=152) (args:=[.ref 1 0]) [] rfl [] [1] rfl (catch_pan 0 8) ?_
 exact To.left hE rfl rfl rfl):P:=h
def zqca31{P:Prop}(h:P:=by
 rw [Ar] at this;simp only [show ((2:Int)==1)=false from rfl,show ((2:Int)==2)=true from rfl,if_true,Cr,if_false]
 rw [this]):P:=h
def zqca32{P:Prop}(h:P:=by
 have:w.drew.heap[b]? =some (.cells #[p,.slice (some ⟨g,0,none⟩) l.length cap] tWr (0,0)):=k
 rw [Lib.cell_of_heap this];rfl):P:=h
def zqca33{P:Prop}(h:P:=by
 intro i g a;refine gV ?_;refine aF λ h=>gV ?_;rw [Ab o_] at a;rw [<-a]
 rfl):P:=h
def zqca34{P:Prop}(h:P:=by
 refine gV ?_;refine Ae (λ_=>?_) (λ h=>absurd h d_);refine To.loose (gV ?_)
 exact zqca7):P:=h
def zqca35{P:Prop}(h:P:=by
 refine dF hEc 2 ?_;conv=>whnf
 refine To.cutC [1,2] 2 rfl rfl rfl rfl ?_
 exact (aL6 x r a)):P:=h
def zqca36{P:Prop}(h:P:=by
 simp only [h1] at f d;have f:Res.pan (bF 10)=r:=f;have d:rdU=O:=d;subst f d
 exact zqca18):P:=h
def zqca37{P:Prop}(h:P:=by
 simp only [h3] at d b;have d:Res.pan (bF 10)=r:=d;have b:rdU=O:=b;subst d b
 exact zqca17):P:=h
def zqca38{P:Prop}(h:P:=by
 refine dF hEc 2 ?_;conv=>whnf
 refine To.cutC [1,2] 2 rfl rfl rfl rfl ?_
 exact (aL5 x r a)):P:=h
def zqca39{P:Prop}(h:P:=by
 simp only [h1] at b a;have b:Res.pan (bF 10)=r:=b;have a:rdU=O:=a;subst b a
 exact zqca24):P:=h
def zqca40{P:Prop}(h:P:=by
 rw [e] at a d;have a:false=b:=a;subst a;refine gV ?_
 exact zW):P:=h
def zqca41{P:Prop}(h:P:=by
 have a:R=false:=a;subst a
 exact c_ Tryz.f61 λ_=>zW):P:=h
def zqca42{P:Prop}(h:P:=by
 rw [eqL_len (by intro e;rw [d,c,e] at h;simp at h)]
 refine gW hE ?_;conv=>whnf):P:=h
def zqca43{P:Prop}(h:P:=by
 refine gV ?_;refine To.part [1,7,69,70,71] [0,1] rfl rfl rfl ?_
 exact next):P:=h
structure Cmd where
 k:Int
 c:Con
 g:Gan
 n:Int
 deriving DecidableEq
abbrev _root_.bj:=List Cmd
def Cmd.cs(x:Cmd):ay:=[ii x.k,.slice 11 (nav x.c.ns) .no,.slice 6 (hav x.c.hs) .no,ii x.c.half,ii x.c.age,ii x.g.id,ii x.g.ten,ii x.g.pods,ii x.g.need.a,ii x.g.need.b,ii x.g.need.c,ii x.g.run,ii x.g.lev,ii x.g.pref,ii x.n]
def Cmd.av(x:Cmd):aa:=.agg x.cs
def pG(x:Int):Bool:=decide (0<=x)&&decide (x<=1099511627776)
def okI:ax->Bool
 | []=>true
 | x::r=>pG x&&okI r
def V3.l(v:V3):ax:=[v.a,v.b,v.c]
def Nod.ok(x:Nod):Bool:=(decide (-1<=x.p)&&decide (x.p<=1099511627776))&&okI [x.w]&&okI x.n.l&&okI x.b.l&&okI x.l.l
def Hos.ok(x:Hos):Bool:=okI [x.f,x.b,x.r]&&okI x.c.l
def zQ:bc->Bool
 | []=>true
 | x::r=>x.ok&&zQ r
def uR:List Hos->Bool
 | []=>true
 | x::r=>x.ok&&uR r
def Con.tok(c:Con):Bool:=zQ c.ns&&uR c.hs&&okI [c.half,c.age]
def Gan.ok(g:Gan):Bool:=okI [g.id,g.ten,g.pods,g.run,g.lev,g.pref]&&okI g.need.l
def Con.none(c:Con):Bool:=decide ((c.ns.length:Int)=0)&&decide ((c.hs.length:Int)=0)&&decide (c.half=0)&&decide (c.age=0)
def Gan.zero:Gan:=⟨0,0,0,⟨0,0,0⟩,0,0,0⟩
end Go.Proofs.YtidhfoefaomodaaGreatDoor
namespace Go.Proofs.YtidhfoefaomodaaGreatDoor.C8
open Go Go.AW Go.Proofs
set_option maxRecDepth 10000
def bF(e:Int):aa:=.iface 337 (.agg [ii e])
def iG(b:Bool)(e:Int)(h:b=true):aq 155 [.bool b,ii e] [] (.ret (.tup [])) []:=by subst h;refine c_ Tryz.f155 λ_=>gV ?_;refine ⟨λ h=>absurd h d_,λ h=>?_⟩;refine gW hE ?_;conv=>whnf
def dP(b:Bool)(e:Int)(h:b=false):aq 155 [.bool b,ii e] [] (.pan (bF e)) []:=by subst h;refine c_ Tryz.f155 λ_=>gV ?_;refine ⟨λ h=>?_,λ h=>absurd h d_⟩;refine gV ?_;rfl
def aLN(l:ax):Res:=if okI l then .ret (.tup []) else .pan (bF 1)
def aBu(l:ax)(hl:((iv l).length:Int)<=9223372036854775807)(r:Res):∀ (n i:Nat),i+n=l.length->aLN (l.drop i)=r->
  To E Tryz.f158 (.pure r) (.head (stk Tryz.f158 0) [(4,.slice 1 (iv l) .no),(5,.int .i64 ((iv l).length:Nat)),(6,.int .i64 i)] []):=by
 have d:(iv l).length=l.length:=by simp
 intro n;induction n with
 | zero=>
  intro i e a;rw [Ab o_] at a;refine gV ?_;refine ⟨λ h=>absurd (of_decide_eq_true h) o_,λ h=>gV ?_⟩;exact a
 | succ n g=>
  intro i e a;have b:i<l.length:=o_;rw [Aa b] at a;have a:(if pG l[i]&&okI (l.drop (i+1)) then Res.ret (.tup []) else .pan (bF 1))=r:=a;refine gV ?_;refine ⟨λ h=>?_,λ h=>absurd (of_decide_eq_false h) o_⟩;refine gV ?_;refine ⟨i,rfl,gV ?_⟩;refine ⟨_,dJ b,gV ?_⟩;refine ⟨λ h1=>?_,λ h1=>?_⟩
  .refine gV ?_;rcases Eu (decide (l[i]<=1099511627776)) with c | c
   .refine .pure _ [] (iG _ _ c) (gV ?_);refine .inl ⟨⟨by simp only [dA];omega,by simp only [bN];omega⟩,?_⟩;refine gV ?_;refine To.head [4,5,6] ?_;refine g (i+1) o_ ?_;have h3:pG l[i]=true:=by unfold pG;rw [c];simpa using h1
    rw [h3,Bw] at a;exact a
   .refine .pan _ (dP _ _ c) ?_;have h3:pG l[i]=false:=by unfold pG;rw [c];simp
    rw [h3] at a;exact a
  .refine gV ?_;refine .pan _ (dP _ _ rfl) ?_;have h3:pG l[i]=false:=by unfold pG;have:decide (0<=l[i])=false:=h1;rw [this];rfl
   rw [h3] at a;exact a
def QS(l:ax)(r:Res)(b:aLN l=r):aq 158 [.slice 1 (iv l) .no] [] r []:=by refine c_ Tryz.f158 λ c=>?_;have a:=aBu l c.1 _ l.length 0 o_ b;exact zW
def mO(l:ax)(h:okI l=true):aq 158 [.slice 1 (iv l) .no] [] (.ret (.tup [])) []:=QS l _ (if_pos h)
def jP(l:ax)(h:okI l=false):aq 158 [.slice 1 (iv l) .no] [] (.pan (bF 1)) []:=QS l _ (if_neg (by rw [h];simp))
def oR(b:Bool):Res:=if b then .ret (.tup []) else .pan (bF 1)
def HS{b:Bool}{r:Res}(a:oR b=r)(h:b=false):Res.pan (bF 1)=r:=by subst h;exact a
def YG(c:Con)(r:Res)(hl:((hav c.hs).length:Int)<=9223372036854775807):∀ (n i:Nat),i+n=c.hs.length->oR (uR (c.hs.drop i)&&okI [c.half,c.age])=r->
  To E Tryz.f156 (.pure r) (.head (stk Tryz.f156 1) [(1,.ref 0 0),(37,.slice 6 (hav c.hs) .no),(38,.int .i64 ((hav c.hs).length:Nat)),(39,.int .i64 i)] [.cells 26 c.cs]):=by
 have g:(hav c.hs).length=c.hs.length:=by simp
 intro n;induction n with
 | zero=>
  intro i j a;rw [Ab o_] at a;refine gV ?_;refine ⟨λ h=>absurd (of_decide_eq_true h) o_,λ h=>gV ?_⟩;cases d:okI [c.half,c.age] with
  | true=>
   refine .pure _ [] (aA.strip (mO [c.half,c.age] d)) (gV ?_);rw [d] at a;exact a
  | false=>
   refine .pan _ (aA.strip (jP [c.half,c.age] d)) ?_;rw [d] at a;exact a
 | succ n k=>
  intro i j a;have e:i<c.hs.length:=o_;rw [Aa e] at a;have a:oR ((c.hs[i].ok&&uR (c.hs.drop (i+1)))&&okI [c.half,c.age])=r:=a;generalize m:c.hs[i]=x at a;refine gV ?_;refine ⟨λ h=>?_,λ h=>absurd (of_decide_eq_false h) o_⟩;refine gV ?_;refine ⟨i,rfl,gV ?_⟩;refine ⟨_,(BG e).trans (by rw [m]),gV ?_⟩;cases d:okI [x.f,x.b,x.r] with
  | false=>
   refine .pan _ (aA.strip (jP [x.f,x.b,x.r] d)) ?_;exact HS a (by unfold Hos.ok;rw [d];rfl)
  | true=>
   refine .pure _ [] (aA.strip (mO [x.f,x.b,x.r] d)) (gV ?_);refine ⟨by decide,gV ?_⟩;cases h3:okI x.c.l with
   | false=>
    refine .pan _ (aA.strip (jP x.c.l h3)) ?_;exact HS a (by unfold Hos.ok;rw [d,h3];rfl)
   | true=>
    refine .pure _ [] (aA.strip (mO x.c.l h3)) (gV ?_);refine .inl ⟨⟨by simp only [dA];omega,by simp only [bN];omega⟩,?_⟩;refine gV ?_;refine To.cut [1,37,38,39] 1 rfl rfl rfl rfl ?_;refine k (i+1) o_ ?_;have:x.ok=true:=by unfold Hos.ok;rw [d,h3];rfl
    rw [this,Bw] at a;exact a
def aCN(c:Con)(r:Res)(hl:((nav c.ns).length:Int)<=9223372036854775807)(y:((hav c.hs).length:Int)<=9223372036854775807):∀ (n i:Nat),i+n=c.ns.length->oR (zQ (c.ns.drop i)&&(uR c.hs&&okI [c.half,c.age]))=r->
  To E Tryz.f156 (.pure r) (.head (stk Tryz.f156 0) [(1,.ref 0 0),(7,.slice 11 (nav c.ns) .no),(8,.int .i64 ((nav c.ns).length:Nat)),(9,.int .i64 i)] [.cells 26 c.cs]):=by
 have q:(nav c.ns).length=c.ns.length:=by simp
 intro n;induction n with
 | zero=>
  intro i u d;rw [Ab o_] at d;refine gV ?_;refine ⟨λ h=>absurd (of_decide_eq_true h) o_,λ h=>?_⟩;have o:=YG c r y c.hs.length 0 o_ d;exact zW
 | succ n v=>
  intro i u d;have e:i<c.ns.length:=o_;rw [Aa e] at d;have d:oR ((c.ns[i].ok&&zQ (c.ns.drop (i+1)))&&(uR c.hs&&okI [c.half,c.age]))=r:=d;generalize s:c.ns[i]=x at d;have a:x.ok=false->Res.pan (bF 1)=r:=λ h=>HS d (by rw [h];rfl);refine gV ?_;refine ⟨λ h=>?_,λ h=>absurd (of_decide_eq_false h) o_⟩;refine gV ?_;refine ⟨i,rfl,gV ?_⟩;refine ⟨_,(nU e).trans (by rw [s]),gV ?_⟩;refine ⟨λ h1=>?_,λ h1=>?_⟩
  .have h1:decide (-1<=x.p)=true:=h1;refine gV ?_;rcases Eu (decide (x.p<=1099511627776)) with g | g
   .refine .pure _ [] (iG _ _ g) (gV ?_);cases h3:okI [x.w] with
    | false=>
     refine .pan _ (aA.strip (jP [x.w] h3)) ?_;exact a (by unfold Nod.ok;rw [h3];simp)
    | true=>
    refine .pure _ [] (aA.strip (mO [x.w] h3)) (gV ?_);refine ⟨by decide,gV ?_⟩;cases m:okI x.n.l with
    | false=>
     refine .pan _ (aA.strip (jP x.n.l m)) ?_;exact a (by unfold Nod.ok;rw [m];simp)
    | true=>
    refine .pure _ [] (aA.strip (mO x.n.l m)) (gV ?_);refine ⟨by decide,gV ?_⟩;cases k:okI x.b.l with
    | false=>
     refine .pan _ (aA.strip (jP x.b.l k)) ?_;exact a (by unfold Nod.ok;rw [k];simp)
    | true=>
    refine .pure _ [] (aA.strip (mO x.b.l k)) (gV ?_);refine ⟨by decide,gV ?_⟩;cases j:okI x.l.l with
    | false=>
     refine .pan _ (aA.strip (jP x.l.l j)) ?_;exact a (by unfold Nod.ok;rw [j];simp)
    | true=>
    refine .pure _ [] (aA.strip (mO x.l.l j)) (gV ?_);refine .inl ⟨⟨by simp only [dA];omega,by simp only [bN];omega⟩,?_⟩;refine gV ?_;refine To.cut [1,7,8,9] 1 rfl rfl rfl rfl ?_;refine v (i+1) o_ ?_;have:x.ok=true:=by unfold Nod.ok;rw [h1,g,h3,m,k,j];rfl
    rw [this,Bw] at d;exact d
   .refine .pan _ (dP _ _ g) ?_;exact a (by unfold Nod.ok;rw [g];simp)
  .have h1:decide (-1<=x.p)=false:=h1;refine gV ?_;refine .pan _ (dP _ _ rfl) ?_;exact a (by unfold Nod.ok;rw [h1];simp)
def aA9(c:Con)(M:Imm)(ob:Hs)(vs:ba)(h:cM M ob vs [c.av]):((nav c.ns).length:Int)<=9223372036854775807/\((hav c.hs).length:Int)<=9223372036854775807:=by
 have hl:0<vs.length:=by rw [h.1];simp
 have:=h.2 0 _ c.av (Ac hl) rfl;exact ⟨bE this 0 _ rfl,bE this 1 _ rfl⟩
def JE(c:Con)(r:Res)(b:oR c.tok=r):aq 156 [c.av] [] r []:=by refine aA.get _ (aA9 c) λ⟨hl,d⟩=>?_;refine c_ Tryz.f156 λ_=>?_;have a:=aCN c r hl d c.ns.length 0 o_ (by rw [<-b];unfold Con.tok;rw [Dd];rfl);exact zW
def aCL(c:Con)(h:c.tok=true):aq 156 [c.av] [] (.ret (.tup [])) []:=JE c _ (if_pos h)
def YC(c:Con)(h:c.tok=false):aq 156 [c.av] [] (.pan (bF 1)) []:=JE c _ (if_neg (by rw [h];simp))
def TO(x:Gan)(r:Res)(b:oR x.ok=r):aq 157 [x.av] [] r []:=by
 refine c_ Tryz.f157 λ_=>gV ?_;cases h1:okI [x.id,x.ten,x.pods,x.run,x.lev,x.pref] with
 | false=>
  refine .pan _ (aA.strip (jP [x.id,x.ten,x.pods,x.run,x.lev,x.pref] h1)) ?_;exact HS b (by unfold Gan.ok;rw [h1];rfl)
 | true=>
  refine .pure _ [] (aA.strip (mO [x.id,x.ten,x.pods,x.run,x.lev,x.pref] h1)) (gV ?_);refine ⟨by decide,gV ?_⟩;cases a:okI x.need.l with
  | false=>
   refine .pan _ (aA.strip (jP x.need.l a)) ?_;exact HS b (by unfold Gan.ok;rw [h1,a];rfl)
  | true=>
   refine .pure _ [] (aA.strip (mO x.need.l a)) (gV ?_);rw [<-b];unfold Gan.ok;rw [h1,a];rfl
def aKl(x:Gan)(h:x.ok=true):aq 157 [x.av] [] (.ret (.tup [])) []:=TO x _ (if_pos h)
def aF7(x:Gan)(h:x.ok=false):aq 157 [x.av] [] (.pan (bF 1)) []:=TO x _ (if_neg (by rw [h];simp))
def catch_ret(x:Int):EK Tryz.prog 152 [.ref 0 0] [.cells 61 [ii x]] none [.cells 61 [ii x]]:=by refine EK.of (E:=E) (fn:=Tryz.f152) (n0:=1) (r:=.tup []) (by rfl) (by rfl) (by rfl) (λ_ _=>by rfl) (by rfl) (by decide+kernel) (by rfl) (by rfl) (by rfl) (by rfl) λ_=>gV ?_;refine ⟨λ_=>?_,λ h=>absurd h d_⟩;exact zW
def catch_pan(x e:Int):EK Tryz.prog 152 [.ref 0 0] [.cells 61 [ii x]] (some (bF e)) [.cells 61 [ii e]]:=by refine EK.of (E:=E) (fn:=Tryz.f152) (n0:=1) (r:=.tup []) (by rfl) (by rfl) (by rfl) (λ_ _=>by rfl) (by rfl) (by decide+kernel) (by rfl) (by rfl) (by rfl) (by rfl) λ_=>gV ?_;refine ⟨λ h=>absurd h d_,λ_=>gV ?_⟩;refine ⟨λ_=>?_,λ h=>absurd h d_⟩;exact zW
def _root_.Go.Proofs.YtidhfoefaomodaaGreatDoor.Gan.isZ(g:Gan):Bool:=((g.id==0)&&((g.ten==0)&&((g.pods==0)&&((g.need.a==0)&&((g.need.b==0)&&((g.need.c==0)&&((g.run==0)&&((g.lev==0)&&((g.pref==0)&&true)))))))))
def chkL(x:Cmd):Int:=if decide (((nav x.c.ns).length:Int)<=12)&&decide (((hav x.c.hs).length:Int)<=24) then 0 else 8
def chkN(x:Cmd):Int:=if okI [x.n] then chkL x else 1
def chkG(x:Cmd):Int:=if x.g.ok then chkN x else 1
def chkC(x:Cmd):Int:=if x.c.tok then chkG x else 1
def chk4(x:Cmd):Int:=if ((x.k==3||x.k==4)||x.k==5)||x.n==0 then chkC x else 1
def chk3(x:Cmd):Int:=if x.k==2||x.g.isZ then chk4 x else 1
def _root_.Go.Proofs.YtidhfoefaomodaaGreatDoor.Con.non(c:Con):Bool:=((((nav c.ns).length:Int)==0&&((hav c.hs).length:Int)==0)&&c.half==0)&&c.age==0
def chk2(x:Cmd):Int:=if x.k==1||x.c.non then chk3 x else 1
def chk(x:Cmd):Int:=if decide (1<=x.k)&&decide (x.k<=6) then chk2 x else 1
abbrev chF:ar:=[(1,.ref 0 0),(2,.ref 1 0)]
abbrev chO(x:Cmd):au:=[.cells 58 x.cs,.cells 61 [ii 0]]
noncomputable abbrev Ec:Env:=Ed [(152,[.ref 1 0])]
def hEc:ae Ec:=hEd _
def aLl(x:Cmd)(r:Int)(h:0=r):To Ec Tryz.f94 (.pure (.ret (ii r))) (.code (eM Tryz.f94 9) chF (chO x)):=by
 subst h;refine gW hEc ?_;conv=>whnf
 refine To.leave (f:=152) (args:=[.ref 1 0]) [] rfl [] [1] rfl (catch_ret 0) ?_;exact To.left hE rfl rfl rfl
def aP0(x:Cmd)(r:Int)(a:chkL x=r):To Ec Tryz.f94 (.pure (.ret (ii r))) (.code (eM Tryz.f94 8) chF (chO x)):=by
 unfold chkL at a;refine gW hEc ?_;conv=>whnf
 refine ⟨λ h1=>?_,λ h1=>?_⟩
 .refine gW hEc ?_;conv=>whnf
  rcases Eu (decide (((hav x.c.hs).length:Int)<=24)) with b | b
  .rw [b,h1] at a;refine .pure _ [] (iG _ _ b) ?_;refine dF hEc 2 ?_;conv=>whnf
   refine To.cutC [1,2] 2 rfl rfl rfl rfl ?_;exact (aLl x r a)
  .rw [b,Bl] at a;subst a;refine .pan _ (dP _ _ b) ?_;conv=>whnf
   exact zqca30
 .rw [h1,De] at a;subst a;refine gW hEc ?_;conv=>whnf
  refine .pan _ (dP _ _ rfl) ?_;conv=>whnf
  exact zqca30
def aP1(x:Cmd)(r:Int)(a:chkN x=r):To Ec Tryz.f94 (.pure (.ret (ii r))) (.code (eM Tryz.f94 7) chF (chO x)):=by
 unfold chkN at a;refine gW hEc ?_;conv=>whnf
 cases h:okI [x.n] with
 | true=>
  rw [h] at a;refine .pure _ [] (aA.strip (mO [x.n] h)) ?_;refine dF hEc 2 ?_;conv=>whnf
  refine To.cutC [1,2] 2 rfl rfl rfl rfl ?_;exact (aP0 x r a)
 | false=>
  rw [h] at a;subst a;refine .pan _ (aA.strip (jP [x.n] h)) ?_;conv=>whnf
  exact zqca1
def aP2(x:Cmd)(r:Int)(a:chkG x=r):To Ec Tryz.f94 (.pure (.ret (ii r))) (.code (eM Tryz.f94 6) chF (chO x)):=by
 unfold chkG at a;refine gW hEc ?_;conv=>whnf
 cases h:x.g.ok with
 | true=>
  rw [h] at a;refine .pure _ [] (aKl x.g h) ?_;refine dF hEc 2 ?_;conv=>whnf
  refine To.cutC [1,2] 2 rfl rfl rfl rfl ?_;exact (aP1 x r a)
 | false=>
  rw [h] at a;subst a;refine .pan _ (aF7 x.g h) ?_;conv=>whnf
  exact zqca1
def aBe(x:Cmd)(r:Int)(a:chkC x=r):To Ec Tryz.f94 (.pure (.ret (ii r))) (.code (eM Tryz.f94 5) chF (chO x)):=by
 unfold chkC at a;refine gW hEc ?_;conv=>whnf
 cases h:x.c.tok with
 | true=>
  rw [h] at a;refine .pure _ [] (aCL x.c h) ?_;refine dF hEc 2 ?_;conv=>whnf
  refine To.cutC [1,2] 2 rfl rfl rfl rfl ?_;exact (aP2 x r a)
 | false=>
  rw [h] at a;subst a;refine .pan _ (YC x.c h) ?_;conv=>whnf
  exact zqca1
def pR{b:Bool}{p q r:Int}(a:(if b then p else q)=r)(h:b=true):p=r:=by subst h;exact a
def C2{b:Bool}{p q r:Int}(a:(if b then p else q)=r)(h:b=false):q=r:=by subst h;exact a
def aL5(x:Cmd)(r:Int)(a:chk4 x=r):To Ec Tryz.f94 (.pure (.ret (ii r))) (.code (eM Tryz.f94 4) chF (chO x)):=by
 unfold chk4 at a;refine gW hEc ?_;conv=>whnf
 refine ⟨λ h1=>?_,λ h1=>?_⟩
 .have h1:(x.k==3)=true:=h1;replace a:=pR a (by simp [h1]);refine gW hEc ?_;conv=>whnf
  refine aY ?_;refine gW hEc ?_;conv=>whnf
  refine aY ?_;exact zqca9
 .have h1:(x.k==3)=false:=h1;refine gW hEc ?_;conv=>whnf
  refine ⟨λ b=>?_,λ b=>?_⟩
  .have b:(x.k==4)=true:=b;replace a:=pR a (by simp [b]);refine gW hEc ?_;conv=>whnf
   refine aY ?_;exact zqca9
  .have b:(x.k==4)=false:=b;refine gW hEc ?_;conv=>whnf
   refine ⟨λ h3=>?_,λ h3=>?_⟩
   .have h3:(x.k==5)=true:=h3;replace a:=pR a (by simp [h3]);exact zqca9
   .have h3:(x.k==5)=false:=h3;refine gW hEc ?_;conv=>whnf
    refine (Eu (x.n==0)).elim (λ c=>?_) (λ c=>?_)
    .replace a:=pR a (by simp [c]);refine .pure _ [] (iG _ _ c) ?_;refine dF hEc 2 ?_;conv=>whnf
     refine To.cutC [1,2] 2 rfl rfl rfl rfl ?_;exact (aBe x r a)
    .replace a:=C2 a (by simp [h1,b,h3,c]);subst a;refine .pan _ (dP _ _ c) ?_;conv=>whnf
     exact zqca1
def aL6(x:Cmd)(r:Int)(a:chk3 x=r):To Ec Tryz.f94 (.pure (.ret (ii r))) (.code (eM Tryz.f94 3) chF (chO x)):=by
 unfold chk3 at a;refine gW hEc ?_;conv=>whnf
 refine ⟨λ h1=>?_,λ h1=>?_⟩
 .have h1:(x.k==2)=true:=h1;replace a:=pR a (by simp [h1]);refine gW hEc ?_;conv=>whnf
  refine .pure _ [] (iG _ _ rfl) ?_;exact zqca38
 .have h1:(x.k==2)=false:=h1;refine gW hEc ?_;conv=>whnf
  refine (Eu x.g.isZ).elim (λ b=>?_) (λ b=>?_)
  .replace a:=pR a (by simp [b]);refine .pure _ [] (iG _ _ b) ?_;exact zqca38
  .replace a:=C2 a (by simp [h1,b]);subst a;refine .pan _ (dP _ _ b) ?_;conv=>whnf
   exact zqca1
def aP3(x:Cmd)(r:Int)(a:chk2 x=r):To Ec Tryz.f94 (.pure (.ret (ii r))) (.code (eM Tryz.f94 2) chF (chO x)):=by
 unfold chk2 Con.non at a;refine gW hEc ?_;conv=>whnf
 refine ⟨λ h1=>?_,λ h1=>?_⟩
 .have h1:(x.k==1)=true:=h1;replace a:=pR a (by rw [h1];rfl);refine gW hEc ?_;conv=>whnf
  refine .pure _ [] (iG _ _ rfl) ?_;exact zqca35
 .have h1:(x.k==1)=false:=h1;refine gW hEc ?_;conv=>whnf
  refine ⟨λ b=>?_,λ b=>?_⟩
  .have b:(((nav x.c.ns).length:Int)==0)=true:=b;refine gW hEc ?_;conv=>whnf
   refine ⟨λ h3=>?_,λ h3=>?_⟩
   .have h3:(((hav x.c.hs).length:Int)==0)=true:=h3;refine gW hEc ?_;conv=>whnf
    refine ⟨λ d=>?_,λ d=>?_⟩
    .have d:(x.c.half==0)=true:=d;refine gW hEc ?_;conv=>whnf
     refine (Eu (x.c.age==0)).elim (λ e=>?_) (λ e=>?_)
     .replace a:=pR a (by rw [h1,b,h3,d,e];rfl);refine .pure _ [] (iG _ _ e) ?_;exact zqca35
     .replace a:=C2 a (by rw [h1,e,Bl];rfl);subst a;refine .pan _ (dP _ _ e) ?_;conv=>whnf
      exact zqca1
    .have d:(x.c.half==0)=false:=d;replace a:=C2 a (by rw [h1,d,Bl,De];rfl);subst a;exact zqca15
   .have h3:(((hav x.c.hs).length:Int)==0)=false:=h3;replace a:=C2 a (by rw [h1,h3,Bl];rfl);subst a;refine gW hEc ?_;conv=>whnf
    refine aN ?_;exact zqca15
  .have b:(((nav x.c.ns).length:Int)==0)=false:=b;replace a:=C2 a (by rw [h1,b];rfl);subst a;refine gW hEc ?_;conv=>whnf
   refine aN ?_;refine gW hEc ?_;conv=>whnf
   refine aN ?_;exact zqca15
def aP4(x:Cmd)(r:Int)(a:chk x=r):To Ec Tryz.f94 (.pure (.ret (ii r))) (.code (eM Tryz.f94 1) chF (chO x)):=by
 unfold chk at a;refine gW hEc ?_;conv=>whnf
 refine ⟨λ h1=>?_,λ h1=>?_⟩
 .have h1:decide (1<=x.k)=true:=h1;refine gW hEc ?_;conv=>whnf
  refine (Eu (decide (x.k<=6))).elim (λ b=>?_) (λ b=>?_)
  .rw [h1,b] at a;refine .pure _ [] (iG _ _ b) ?_;refine dF hEc 2 ?_;conv=>whnf
   refine To.cutC [1,2] 2 rfl rfl rfl rfl ?_;exact (aP3 x r a)
  .rw [b,Bl] at a;subst a;refine .pan _ (dP _ _ b) ?_;conv=>whnf
   exact zqca1
 .have h1:decide (1<=x.k)=false:=h1;rw [h1,De] at a;subst a;exact zqca15
def check_any(x:Cmd)(r:Int)(a:chk x=r):aq 94 [x.av] [] (.ret (ii r)) []:=by refine c_ Tryz.f94 λ_=>gV ?_;refine To.defer (f:=152) (args:=[.ref 1 0]) _ rfl rfl ?_;refine To.cutC [1,2] 2 rfl rfl rfl rfl ?_;exact aP4 x r a
def check_ok(x:Cmd):aq 94 [x.av] [] (.ret (ii (chk x))) []:=check_any x _ rfl
def pE(r:Nat):Code->bh->Option bh
 | .region id o d,ks=>bif Ba id r then some (.code (.region id o d)::ks) else none
 | .seq a b,ks=>(match pE r a (.code b::ks) with | some x=>some x | none=>pE r b ks)
 | .cond _ a b,ks=>(match pE r a ks with | some x=>some x | none=>pE r b ks)
 | .block id b,ks=>pE r b (.inB id::ks)
 | .loop b,ks=>pE r b (.inL b::ks)
 | _,_=>none
def iC(fn:Func)(r:Nat):bh:=match pE r (eK fn) [] with | some ks=>ks | none=>[]
def eqL{α:Type}(f:α->α->Bool):List α->List α->Bool
 | [],[]=>true
 | x::r,y::s=>f x y&&eqL f r s
 | _,_=>false
def eqL_len{α:Type}{f:α->α->Bool}:∀ {a b:List α},a.length≠b.length->eqL f a b=false
 | [],[],h=>absurd rfl h
 | [],_::_,_=>rfl
 | _::_,[],_=>rfl
 | x::r,y::s,h=>by have:=eqL_len (f:=f) (a:=r) (b:=s) (by simpa using h);simp [eqL,this]
def _root_.Go.Proofs.YtidhfoefaomodaaGreatDoor.Nod.eqb(x y:Nod):Bool:=(x.p==y.p)&&((x.w==y.w)&&((x.n.a==y.n.a)&&((x.n.b==y.n.b)&&((x.n.c==y.n.c)&&((x.b.a==y.b.a)&&((x.b.b==y.b.b)&&((x.b.c==y.b.c)&&((x.l.a==y.l.a)&&((x.l.b==y.l.b)&&((x.l.c==y.l.c)&&true))))))))))
def _root_.Go.Proofs.YtidhfoefaomodaaGreatDoor.Hos.eqb(x y:Hos):Bool:=(x.f==y.f)&&((x.b==y.b)&&((x.r==y.r)&&((x.c.a==y.c.a)&&((x.c.b==y.c.b)&&((x.c.c==y.c.c)&&true)))))
def _root_.Go.Proofs.YtidhfoefaomodaaGreatDoor.Gan.eqb(x y:Gan):Bool:=(x.id==y.id)&&((x.ten==y.ten)&&((x.pods==y.pods)&&((x.need.a==y.need.a)&&((x.need.b==y.need.b)&&((x.need.c==y.need.c)&&((x.run==y.run)&&((x.lev==y.lev)&&((x.pref==y.pref)&&true))))))))
def _root_.Go.Proofs.YtidhfoefaomodaaGreatDoor.Nod.eqb_eq{x y:Nod}:x.eqb y=true↔x=y:=by obtain ⟨_,_,⟨_,_,_⟩,⟨_,_,_⟩,⟨_,_,_⟩⟩:=x;obtain ⟨_,_,⟨_,_,_⟩,⟨_,_,_⟩,⟨_,_,_⟩⟩:=y;simp [Nod.eqb,and_assoc]
def _root_.Go.Proofs.YtidhfoefaomodaaGreatDoor.Hos.eqb_eq{x y:Hos}:x.eqb y=true↔x=y:=by obtain ⟨_,_,_,⟨_,_,_⟩⟩:=x;obtain ⟨_,_,_,⟨_,_,_⟩⟩:=y;simp [Hos.eqb]
def _root_.Go.Proofs.YtidhfoefaomodaaGreatDoor.Gan.eqb_eq{x y:Gan}:x.eqb y=true↔x=y:=by obtain ⟨_,_,_,⟨_,_,_⟩,_,_,_⟩:=x;obtain ⟨_,_,_,⟨_,_,_⟩,_,_,_⟩:=y;simp [Gan.eqb,and_assoc]
def aGA(a b:bc)(q:a.length=b.length)(hl:((nav a).length:Int)<=9223372036854775807)(r:Bool):∀ (n i:Nat),i+n=a.length->eqL Nod.eqb (a.drop i) (b.drop i)=r->
  To E Tryz.f102 (.pure (.ret (.bool r))) (.head (stk Tryz.f102 0) [(0,.slice 11 (nav a) .no),(1,.slice 11 (nav b) .no),(12,.int .i64 ((nav a).length:Nat)),(13,.int .i64 i)] []):=by
 have e:(nav a).length=a.length:=by simp
 intro n;induction n with
 | zero=>
  intro i l c;rw [Ab o_,Ab o_] at c;subst c;refine gV ?_;exact zW
 | succ n o=>
  intro i l c;have h1:i<a.length:=o_;have d:i<b.length:=o_;rw [Aa h1,Aa d] at c;have c:(Nod.eqb a[i] b[i]&&eqL Nod.eqb (a.drop (i+1)) (b.drop (i+1)))=r:=c;generalize k:a[i]=x at c;generalize m:b[i]=y at c;have j:(nav a)[i]? =some (Nod.av x):=by simp [k,h1]
  have p:(nav b)[i]? =some (Nod.av y):=by simp [m,d]
  refine gV ?_;refine aT λ h=>?_
  repeat' first | (refine gN hE ?_;conv=>whnf) | refine ⟨_,j,?_⟩ | refine ⟨_,p,?_⟩ | exact rfl | refine zt ?_ | refine zu ?_ ?_ | intro h | fail
  .rename_i h;have h:Nod.eqb x y=false:=eD h;rw [h] at c;rw [<-c];rfl
  .rename_i h;have h:Nod.eqb x y=true:=eF h;rw [h,Bw] at c;have g:=o (i+1) o_ c;exact zW
def eqN_ok(a b:bc):aq 102 [.slice 11 (nav a) .no,.slice 11 (nav b) .no] [] (.ret (.bool (eqL Nod.eqb a b))) []:=by
 have d:(nav a).length=a.length:=by simp
 have c:(nav b).length=b.length:=by simp
 refine c_ Tryz.f102 λ j=>?_;have hl:((nav a).length:Int)<=9223372036854775807:=j.1;refine gV ?_;refine ⟨λ h=>?_,λ h=>?_⟩
 .have h:(((nav a).length:Int) !=((nav b).length:Int))=true:=h;exact zqca42
 .have h:(((nav a).length:Int) !=((nav b).length:Int))=false:=h;have i:=aGA a b (by simp at h;omega) hl _ a.length 0 o_ rfl;exact zW
def aGB(a b:List Hos)(q:a.length=b.length)(hl:((hav a).length:Int)<=9223372036854775807)(r:Bool):∀ (n i:Nat),i+n=a.length->eqL Hos.eqb (a.drop i) (b.drop i)=r->
  To E Tryz.f103 (.pure (.ret (.bool r))) (.head (stk Tryz.f103 0) [(0,.slice 6 (hav a) .no),(1,.slice 6 (hav b) .no),(12,.int .i64 ((hav a).length:Nat)),(13,.int .i64 i)] []):=by
 have e:(hav a).length=a.length:=by simp
 intro n;induction n with
 | zero=>
  intro i l c;rw [Ab o_,Ab o_] at c;subst c;refine gV ?_;exact zW
 | succ n o=>
  intro i l c;have h1:i<a.length:=o_;have d:i<b.length:=o_;rw [Aa h1,Aa d] at c;have c:(Hos.eqb a[i] b[i]&&eqL Hos.eqb (a.drop (i+1)) (b.drop (i+1)))=r:=c;generalize k:a[i]=x at c;generalize m:b[i]=y at c;have j:(hav a)[i]? =some (Hos.av x):=by simp [k,h1]
  have p:(hav b)[i]? =some (Hos.av y):=by simp [m,d]
  refine gV ?_;refine aT λ h=>?_
  repeat' first | (refine gN hE ?_;conv=>whnf) | refine ⟨_,j,?_⟩ | refine ⟨_,p,?_⟩ | exact rfl | refine zt ?_ | refine zu ?_ ?_ | intro h | fail
  .rename_i h;have h:Hos.eqb x y=false:=eD h;rw [h] at c;rw [<-c];rfl
  .rename_i h;have h:Hos.eqb x y=true:=eF h;rw [h,Bw] at c;have g:=o (i+1) o_ c;exact zW
def eqH_ok(a b:List Hos):aq 103 [.slice 6 (hav a) .no,.slice 6 (hav b) .no] [] (.ret (.bool (eqL Hos.eqb a b))) []:=by
 have d:(hav a).length=a.length:=by simp
 have c:(hav b).length=b.length:=by simp
 refine c_ Tryz.f103 λ j=>?_;have hl:((hav a).length:Int)<=9223372036854775807:=j.1;refine gV ?_;refine ⟨λ h=>?_,λ h=>?_⟩
 .have h:(((hav a).length:Int) !=((hav b).length:Int))=true:=h;exact zqca42
 .have h:(((hav a).length:Int) !=((hav b).length:Int))=false:=h;have i:=aGB a b (by simp at h;omega) hl _ a.length 0 o_ rfl;exact zW
def sameC(a b:Con):Bool:=eqL Nod.eqb a.ns b.ns&&(eqL Hos.eqb a.hs b.hs&&((a.half==b.half)&&(a.age==b.age)))
def same(a b:Cmd):Bool:=(a.k==b.k)&&(a.g.eqb b.g&&((a.n==b.n)&&sameC a.c b.c))
set_option maxHeartbeats 2000000
end Go.Proofs.YtidhfoefaomodaaGreatDoor.C8
namespace Go.Proofs.YtidhfoefaomodaaGreatDoor.Q2
open Go Go.AW Go.Proofs
structure Pend where
 (id tenant pods n0 n1 n2 run level prefer seq since:Int)
 deriving DecidableEq
abbrev _root_.bi:=List Pend
def Pend.cs(p:Pend):ay:=[.int .i64 p.id,.int .i64 p.tenant,.int .i64 p.pods,.int .i64 p.n0,.int .i64 p.n1,.int .i64 p.n2,.int .i64 p.run,.int .i64 p.level,.int .i64 p.prefer,.int .i64 p.seq,.int .i64 p.since]
def Pend.av(p:Pend):aa:=.agg p.cs
abbrev pav(l:bi):ay:=l.map Pend.av
def xU{n:Int}(h1: -9223372036854775808<=n)(a:n<=9223372036854775807):inR .i64 n:=⟨by simp only [dA];omega,by simp only [bN];omega⟩
def idx(p:Pend->Bool):bi->Int->Int
 | [],_=> -1
 | x::r,i=>if p x then i else idx p r (i+1)
def ak(a:Int)(l:bi):Int:=idx (λ x=>x.id==a) l 0
def aE3(a b:Int):Pend:=⟨a,0,0,0,0,0,0,0,0,b,0⟩
def jE{l:bi}{i:Nat}(h:i<l.length):(pav l)[i]? =some l[i].av:=by simp [pav,h]
set_option maxRecDepth 10000
def aPn(p:Pend):aq 340 [p.av] [] (.ret (.int .i64 p.id)) []:=by refine c_ Tryz.f340 λ_=>?_;refine gW hE ?_;conv=>whnf
def aD4(p:Pend):aq 341 [p.av] [] (.ret (.int .i64 p.seq)) []:=by refine c_ Tryz.f341 λ_=>?_;refine gW hE ?_;conv=>whnf
def aPk(p:Pend)(b:Int):aq 253 [.iface 325 p.av,.int .i64 b] [] (.ret (.bool (p.id==b))) []:=by refine c_ Tryz.f253 λ_=>?_;have a:=aPn p;exact zW
def ND(p q:Pend):aq 219 [.iface 325 p.av,.iface 325 q.av] [] (.ret (.bool (decide (q.seq<p.seq)))) []:=by refine c_ Tryz.f219 λ_=>?_;have b:=aD4 p;have a:=aD4 q;exact zW
def aI9(x p:Pend):aq 239 [x.av,.ptr p.cs] [] (.ret (.bool (decide (p.seq<x.seq)))) []:=by refine c_ Tryz.f239 λ_=>?_;have a:=ND x p;exact zW
def aGm(x:Pend)(a:Int):aq 252 [x.av,.ptr [.int .i64 a]] [] (.ret (.bool (x.id==a))) []:=by refine c_ Tryz.f252 λ_=>?_;have b:=aPk x a;exact zW
def WY(f:FuncId)(l:ay)(xs:bi)(p:Pend->Bool)(j:∀ x∈xs,aA Tryz.prog f [x.av,.ptr l] [] (.ret (.bool (p x))) [])(hl:((pav xs).length:Int)<=9223372036854775807)(r:Int):
  ∀ (n i:Nat),i+n=xs.length->idx p (xs.drop i) i=r->
  To E Tryz.f238 (.pure (.ret (.int .i64 r))) (.head (stk Tryz.f238 0)
   [(0,.slice 11 (pav xs) .no),(1,.func (.func f) [] [.ptr l]),(7,.int .i64 ((pav xs).length:Nat)),(8,.int .i64 i)] []):=by
 have d:(pav xs).length=xs.length:=by simp
 intro n;induction n with
 | zero=>
  intro i g a;refine gV ?_;refine ⟨λ h=>?_,λ h=>?_⟩
  .exact absurd (of_decide_eq_true h) o_
  .refine gV ?_;rw [Ab o_] at a;rw [<-a];rfl
 | succ n k=>
  intro i g a;have b:i<xs.length:=o_;refine gV ?_;refine ⟨λ h=>?_,λ h=>?_⟩
  .refine gV ?_;refine ⟨i,rfl,gV ?_⟩;refine ⟨_,jE b,gV ?_⟩;refine .pure _ [] (j xs[i] (Ax b)) (gV ?_);rw [Aa b] at a;have a:(if p xs[i] then (i:Int) else idx p (xs.drop (i+1)) ((i:Int)+1))=r:=a;exact zqca4
  .exact absurd (of_decide_eq_false h) o_
def TD(f:FuncId)(l:ay)(xs:bi)(p:Pend->Bool)(a:∀ x∈xs,aA Tryz.prog f [x.av,.ptr l] [] (.ret (.bool (p x))) []):
  aq 238 [.slice 11 (pav xs) .no,.func (.func f) [] [.ptr l]] [] (.ret (.int .i64 (idx p xs 0))) []:=by
 refine c_ Tryz.f238 λ b=>gV ?_;refine To.head [0,1,7,8] ?_;exact WY f l xs p a b.1 _ xs.length 0 o_ s_
def find_ok(xs:bi)(a:Int):aq 205 [.slice 11 (pav xs) .no,.int .i64 a] [] (.ret (.int .i64 (ak a xs))) []:=by refine c_ Tryz.f205 λ_=>?_;have b:=TD _ _ xs (λ x=>x.id==a) λ x _=>aGm x a;exact zW
def aNU{n:Nat}(h:n<=1000000):EY n 88:=⟨by simp only [maxLen];omega,by omega⟩
def JH(xs:bi)(c:xs.length<=1000000):aq 106 [.slice 11 (pav xs) .no] [] (.ret (.row 0 0)) [.row 0 11 47 (pav xs)]:=by
 refine cT (E:=(Er [2,5] [])) (fn:=Tryz.f106) (g:=.full 0 _ _) λ_=>gV ?_;intro b a;refine gV ?_;refine ⟨λ h=>?_,λ h=>?_⟩
 .refine gV ?_;refine ⟨[],[1],⟨rfl,rfl⟩,?_⟩;conv=>whnf
  rw [a (by simpa using h)];exact ⟨rfl,rfl⟩
 .refine gV ?_;refine ⟨aNU (by simpa using c),gV ?_⟩;refine ⟨[],[1],⟨rfl,rfl⟩,?_⟩;exact ⟨rfl,rfl⟩
def del_list{α:Type}(l:List α)(i:Nat)(f:i<l.length)(z:α):
  (l.take (0+i)++(l.drop (i+1)).take (l.length-(i+1))++l.drop (0+i+(l.length-(i+1)))).take (0+(l.length-1))++Aj (l.length-(l.length-1)) z++
   (l.take (0+i)++(l.drop (i+1)).take (l.length-(i+1))++l.drop (0+i+(l.length-(i+1)))).drop (0+(l.length-1)+(l.length-(l.length-1)))=l.eraseIdx i++[z]:=by
 have b:(l.drop (i+1)).take (l.length-(i+1))=l.drop (i+1):=Cn s_;have d:l.length-(l.length-1)=1:=o_;have a:(l.take (0+i)++l.drop (i+1)).length=l.length-1:=by simp;omega
 rw [b,d,Gi];simp only [Bx] at a⊢;have c:(l.take i++l.drop (i+1)++l.drop (i+(l.length-(i+1)))).take (l.length-1)=l.take i++l.drop (i+1):=by rw [Dm o_,Cn o_]
 have e:(l.take i++l.drop (i+1)++l.drop (i+(l.length-(i+1)))).drop (l.length-1+1)=[]:=by refine Ab ?_;rw [Ai,a,Ew];omega
 rw [c,e];simp
def aCG(xs:bi)(i:Nat)(c:i<xs.length)(e:xs.length<=1000000):aq 209 [.row 0 0,.int .i64 i,.int .i64 ((i:Int)+1)] [.row 0 11 47 (pav xs)]
  (.ret (.sub 0 0 0 (xs.length-1) 11)) [.row 0 11 47 (pav (xs.eraseIdx i)++[(aE3 0 0).av])]:=by
 refine cT (E:=E) (fn:=Tryz.f209) (g:=.full 1 _ _) λ_=>gV ?_;refine ⟨i,rfl,gV ?_⟩;refine ⟨i+1,by push_cast;rfl,?_⟩;refine gV ?_;refine ⟨xs.length,by simp,gV ?_⟩;refine ⟨⟨⟨by omega,by omega⟩,by simp⟩,gV ?_⟩;refine ⟨λ h=>?_,λ h=>?_⟩
 .simp at h;omega
 .refine gV ?_;refine ⟨i,rfl,gV ?_⟩;refine ⟨by simp;omega,?_⟩;refine gV ?_;refine ⟨i+1,by push_cast;rfl,?_⟩;refine gV ?_;refine ⟨by simp;omega,?_⟩;refine gV ?_;have a:(pav xs).length=xs.length:=by simp
  have b:(Ii ((pav xs).length-(i+1)) (Ht (i+1) (pav xs))).length=xs.length-(i+1):=by simp
  rw [b,a];refine ⟨by omega,gV ?_⟩;refine ⟨xs.length-1,by omega,gV ?_⟩;refine ⟨xs.length,rfl,gV ?_⟩;refine ⟨by simp;omega,?_⟩;refine gV ?_;refine ⟨[],[0],⟨rfl,rfl⟩,?_⟩;conv=>whnf
  refine ⟨?_,?_⟩
  .show Res.ret (.sub 0 0 0 (i+(xs.length-(i+1))) 11)=_;rw [show i+(xs.length-(i+1))=xs.length-1 from by omega]
  .have h:=del_list (pav xs) i (by rw [a];exact c) (aE3 0 0).av;rw [a] at h;have d:(pav xs).eraseIdx i=pav (xs.eraseIdx i):=by simp only [pav,Gi,Bq,Gq,Jd]
   rw [d] at h;exact congrArg (λ l=>[ab.row 0 11 47 l]) h
def ON(xs ys:ay)(lo len:Nat):aq 271 [.row 0 0,.sub 1 0 lo len 11] [.row 0 11 47 xs,.row 0 11 47 ys] (.ret (.bool false)) [.row 0 11 47 xs,.row 0 11 47 ys]:=
 R7 (fn:=Tryz.f271) (tS:=27) (tR:=4) (e:=47) (by kernel_rfl) (by kernel_rfl) (by kernel_rfl) (by kernel_rfl) (by kernel_rfl) (by kernel_rfl) (by kernel_rfl) d_ xs ys lo len
def FB{α:Type}(xs ys:List α)(lo len q:Nat)(h:lo+len<=xs.length):(xs.take lo++ys.take len++xs.drop (lo+min ys.length len))[q]? =if lo<=q/\q<lo+min ys.length len then ys[q-lo]? else xs[q]?:=by
 have a:(xs.take lo).length=lo:=by simp;omega
 have c:(ys.take len).length=min ys.length len:=by rw [Dw,Nat.min_comm]
 by_cases h1:q<lo
 .rw [if_neg o_,Ag,Ah o_,Bn h1]
 .by_cases b:q<lo+min ys.length len
  .rw [if_pos ⟨by omega,b⟩,Ah (by rw [Ai];omega),Al o_,a,Bn o_]
  .rw [if_neg o_,Al (by rw [Ai];omega),Ai,a,c,Ca];congr 1;omega
def aAr{α:Type}(l:List α)(p:α)(i q:Nat)(c:i<=l.length):(l.take i++[p]++l.drop i)[q]? =if q<i then l[q]? else if q=i then some p else l[q-1]?:=by
 have b:(l.take i).length=i:=by simp;omega
 by_cases h1:q<i
 .rw [if_pos h1,Ag,Ah o_,Bn h1]
 .rw [if_neg h1,Ag,Al o_,b];by_cases a:q=i
  .rw [if_pos a,a];simp
  .rw [if_neg a,show q-i=(q-1-i)+1 from by omega];show (l.drop i)[q-1-i]? =_;rw [Ca];congr 1;omega
def WX{α:Type}(l L:List α)(p:α)(i:Nat)(k:i<l.length)(f:L.length=l.length+1)(hl:∀ q,q<l.length->L[q]? =l[q]?):
  ∀ A B,A=L.take (i+1)++((L.drop i).take (L.length-i)).take (L.length-(i+1))++L.drop (i+1+min ((L.drop i).take (L.length-i)).length (L.length-(i+1)))->
   B=A.take i++[p].take (A.length-i)++A.drop (i+min [p].length (A.length-i))->B=l.take i++[p]++l.drop i:=by
 intro A B c g;have j:((L.drop i).take (L.length-i)).length=l.length+1-i:=by simp;omega
 have d:∀ q,A[q]? =if i+1<=q/\q<l.length+1 then L[q-1]? else L[q]?:=λ q=>by
  rw [c,FB _ _ _ _ _ o_,j,f];by_cases h:i+1<=q/\q<l.length+1
  .rw [if_pos o_,if_pos h,Bn o_,Ca];congr 1;omega
  .rw [if_neg o_,if_neg h]
 have a:A.length=l.length+1:=by rw [c];simp;omega
 refine Ek λ q=>?_;rw [aAr _ _ _ _ o_,g,FB _ _ _ _ _ o_];have e:min [p].length (A.length-i)=1:=by rw [a];simp;omega
 rw [e];by_cases h1:q<i
 .rw [if_neg o_,if_pos h1,d,if_neg o_,hl q o_]
 .rw [if_neg h1];by_cases b:q=i
  .rw [if_pos o_,if_pos b,b];simp
  .rw [if_neg o_,if_neg b,d];by_cases h3:q<l.length+1
   .rw [if_pos o_,hl _ o_]
   .rw [if_neg o_,Bm o_,Bm o_]
def aJZ{α:Type}(l L:List α)(p:α)(i:Nat)(k:i<l.length)(f:L.length=l.length+1)(hl:∀ q,q<i->L[q]? =l[q]?):
  ∀ A B,A=L.take i++[p].take (L.length-i)++L.drop (i+min [p].length (L.length-i))->
   B=A.take (i+1)++((l.drop i).take (l.length-i)).take (A.length-(i+1))++A.drop (i+1+min ((l.drop i).take (l.length-i)).length (A.length-(i+1)))->B=l.take i++[p]++l.drop i:=by
 intro A B d g;have j:((l.drop i).take (l.length-i)).length=l.length-i:=by simp
 have e:min [p].length (L.length-i)=1:=by rw [f];simp;omega
 have c:∀ q,A[q]? =if q=i then some p else L[q]?:=λ q=>by
  rw [d,FB _ _ _ _ _ o_,e];by_cases h:q=i
  .rw [if_pos o_,if_pos h,h];simp
  .rw [if_neg o_,if_neg h]
 have b:A.length=l.length+1:=by rw [d];simp;omega
 refine Ek λ q=>?_;rw [aAr _ _ _ _ o_,g,FB _ _ _ _ _ o_,j,b,show min (l.length-i) (l.length+1-(i+1))=l.length-i from by omega];by_cases h1:q<i
 .rw [if_neg o_,if_pos h1,c,if_neg o_,hl q h1]
 .rw [if_neg h1];by_cases a:q=i
  .rw [if_neg o_,if_pos a,c,if_pos a]
  .rw [if_neg a];by_cases h3:q<l.length+1
   .rw [if_pos o_,Bn o_,Ca];congr 1;omega
   .rw [if_neg o_,c,if_neg a,Bm o_,Bm o_]
def FS{n:Nat}(h:n<=1000001):EY n 88:=⟨by simp only [maxLen];omega,by omega⟩
def L6(xs:bi)(p:Pend)(i:Nat)(hi:i<=xs.length)(hx:xs.length<=1000000):
  aq 240 [.row 0 0,.int .i64 i,.row 1 0] [.row 0 11 47 (pav xs),.row 0 11 47 [p.av]]
  (.ret (.row 0 1)) [.row 1 11 47 (pav (xs.take i++[p]++xs.drop i)),.row 0 11 47 [p.av]]:=by
 have hlen:(pav xs).length=xs.length:=by simp
 refine cT (E:=(Er [60] [])) (fn:=Tryz.f240) (g:=.full 2 _ _) λ_=>?_;refine To.cap (t:=0) rfl rfl λ c hc hcm=>?_;rw [hlen] at hc;refine gV ?_;refine ⟨i,rfl,gV ?_⟩;rw [hlen];refine ⟨hi,gV ?_⟩;refine ⟨λ h=>?_,λ h=>?_⟩
 .cases h
 .refine gV ?_;refine ⟨λ h=>?_,λ h=>?_⟩
  .refine gV ?_
   have hi2:i=xs.length:=by have:(i:Int)=xs.length:=by simpa using h
                            omega
   refine ⟨by rw [hlen];exact FS q_,?_⟩;refine gV ?_;refine ⟨[],[0,1],⟨rfl,rfl⟩,?_⟩;conv=>whnf
   refine ⟨rfl,?_⟩;have:pav (xs.take i++[p]++xs.drop i)=pav xs++[p.av]:=by simp [hi2]
   rw [this];rfl
  .have hi2:i<xs.length:=by
    have:¬ (i:Int)=xs.length:=by simpa using h
    omega
   refine gV ?_;have h1:([p.av].length)=1:=rfl;rw [hlen,h1];refine .inl ⟨xU o_ o_,gV ?_⟩;refine ⟨λ h=>?_,λ h=>?_⟩
   .have hg:c<xs.length+1:=by have:=of_decide_eq_true h;omega
    refine gV ?_;refine ⟨i,rfl,gV ?_⟩;refine ⟨⟨by simp;omega,by omega⟩,?_⟩;refine gV ?_;refine .inl ⟨xU o_ o_,gV ?_⟩;refine .inl ⟨xU o_ o_,gV ?_⟩;refine ⟨xs.length+1-i,by omega,gV ?_⟩;refine ⟨⟨by omega,FS o_⟩,gV ?_⟩;refine ⟨i,rfl,gV ?_⟩;have hL:(Ii i (pav xs)++Aj (xs.length+1-i) (aE3 0 0).av).length=xs.length+1:=by simp;omega
    refine ⟨by simp;omega,?_⟩;refine gV ?_;refine .inl ⟨xU o_ o_,gV ?_⟩;refine ⟨i+1,by push_cast;rfl,?_⟩;refine gV ?_;refine ⟨by simp;omega,?_⟩;refine gV ?_;refine ⟨i,rfl,gV ?_⟩;refine ⟨by simp;omega,?_⟩;refine dF (hEr [60] []) 7 ?_;conv=>whnf
    refine To.become (j:=0) (k:=2) [9] rfl rfl rfl rfl (gV ?_);refine ⟨[],[0,1],⟨rfl,rfl⟩,?_⟩;conv=>whnf
    refine ⟨rfl,?_⟩;have h:=aJZ (pav xs) _ p.av i (by rw [hlen];exact hi2) (by rw [hL,hlen]) (λ q hq=>by rw [Ah q_,Bn hq]) _ _ rfl rfl;exact zqca16
   .have hg:xs.length+1<=c:=by have:=of_decide_eq_false h;omega
    refine gV ?_;refine .inl ⟨xU o_ o_,gV ?_⟩;refine ⟨xs.length+1,by push_cast;rfl,?_⟩;refine gV ?_;refine ⟨⟨by simp,hg⟩,gV ?_⟩;refine .inl ⟨xU o_ o_,gV ?_⟩;refine ⟨i+1,by push_cast;rfl,?_⟩;refine gV ?_;refine ⟨by simp;omega,?_⟩;refine gV ?_;refine .eff [] [1,0] _ _ rfl (ON _ _ _ _) (gV ?_);refine ⟨λ h=>?_,λ h=>?_⟩
    .refine gV ?_;refine .inl ⟨xU o_ o_,gV ?_⟩;refine ⟨i+1,by push_cast;rfl,?_⟩;refine gV ?_;refine ⟨by simp;omega,?_⟩;refine gV ?_;refine ⟨i,rfl,gV ?_⟩;refine ⟨by simp;omega,?_⟩;refine gV ?_;refine ⟨i,rfl,gV ?_⟩;refine ⟨by simp;omega,?_⟩;refine gV ?_;refine ⟨[],[0,1],⟨rfl,rfl⟩,?_⟩;conv=>whnf
     refine ⟨rfl,?_⟩;have hL:(pav xs++Aj (xs.length+1-(pav xs).length) (aa.agg (Aj 11 aa.undef))).length=(pav xs).length+1:=by simp
     have h:=WX (pav xs) _ p.av i (by rw [hlen];exact hi2) hL (λ q hq=>by rw [Ah hq]) _ _ rfl rfl;exact zqca16
    .cases h
def putAt(p:Pend)(l:bi):Nat:=if idx (λ x=>decide (p.seq<x.seq)) l 0<0 then l.length else (idx (λ x=>decide (p.seq<x.seq)) l 0).toNat
def putP(l:bi)(p:Pend):bi:=l.take (putAt p l)++[p]++l.drop (putAt p l)
def takeP(l:bi)(a:Int):bi:=if ak a l<0 then l else l.eraseIdx (ak a l).toNat
def C5(p:Pend->Bool):∀ (l:bi) (i:Int),idx p l i= -1\/(i<=idx p l i/\idx p l i<i+l.length)
 | [],i=>.inl rfl
 | x::r,i=>by
  unfold idx;split
  .right;simp;omega
  .rcases C5 p r (i+1) with h | h
   .exact .inl h
   .right;simp;omega
def put_ok(l:bi)(p:Pend)(hl:l.length<=1000000):aq 180 [.slice 11 (pav l) .no,p.av] [] (.ret (.slice 11 (pav (putP l p)) .no)) []:=by
 have a:(pav l).length=l.length:=by simp
 refine cT (E:=(Er [17] [])) (fn:=Tryz.f180) (g:=.pure _) λ_=>gV ?_;refine .pure _ [] (TD _ _ l (λ x=>decide (p.seq<x.seq)) λ x _=>aI9 x p) (gV ?_);have fin:∀ (i:Nat),i=putAt p l->i<=l.length:=λ i c=>by
  subst c;unfold putAt;rcases C5 (λ x=>decide (p.seq<x.seq)) l 0 with h | h
  .rw [if_pos o_];exact Bh _
  .rw [if_neg o_];omega
 refine ⟨λ h=>?_,λ h=>?_⟩
 .have b:putAt p l=l.length:=if_pos (of_decide_eq_true h);refine gV ?_;refine .pure _ _ (JH l hl) (gV ?_);rw [a];refine .sole rfl (.eff [] [1,2] _ _ rfl (L6 l p l.length (Bh _) hl) (gV ?_));rw [<-b];rfl
 .have b:idx (λ x=>decide (p.seq<x.seq)) l 0=((putAt p l:Nat):Int):=by have:=of_decide_eq_false h;unfold putAt;rw [if_neg this];omega
  rw [b];refine gV ?_;refine .pure _ _ (JH l hl) (gV ?_);refine .sole rfl (.eff [] [1,2] _ _ rfl (L6 l p (putAt p l) (fin _ rfl) hl) (gV ?_));rfl
def take_ok(l:bi)(a:Int)(hl:l.length<=1000000):aq 138 [.slice 11 (pav l) .no,.int .i64 a] [] (.ret (.tup [.slice 11 (pav (takeP l a)) .no,.bool (!decide (ak a l<0))])) []:=by
 refine c_ Tryz.f138 λ_=>gV ?_;refine .pure _ _ (JH l hl) (gV ?_);refine .pure _ [] (find_ok l a) (gV ?_);refine ⟨λ h=>?_,λ h=>?_⟩
 .refine gV ?_;have c:=of_decide_eq_true h;unfold takeP;rw [if_pos c,h];rfl
 .have c:=of_decide_eq_false h;have j:ak a l<l.length:=by
   rcases C5 (λ x=>x.id==a) l 0 with h | h
   .unfold ak at c;omega
   .unfold ak;omega
  have i:ak a l=(((ak a l).toNat:Nat):Int):=o_;have e:takeP l a=l.eraseIdx (ak a l).toNat:=if_neg c;rw [h,e]
  obtain ⟨k,d⟩:∃ k:Nat,ak a l=(k:Int):=⟨_,i⟩
  have b:k<l.length:=o_;rw [d,Br];refine gV ?_;refine .inl ⟨xU o_ o_,gV ?_⟩;refine .eff [] [0] _ _ rfl (aCG l k b hl) (gV ?_);have:Ii (l.length-1) (Ht 0 (pav (l.eraseIdx k)++[(aE3 0 0).av]))=pav (l.eraseIdx k):=by rw [Ap,Dm (by simp [Kn,b]),Cn (by simp [Kn,b])]
  have h3:Res.ret (.tup [.slice 11 (Ii (l.length-1) (Ht 0 (pav (l.eraseIdx k)++[(aE3 0 0).av]))) .no,.bool true])=Res.ret (.tup [.slice 11 (pav (l.eraseIdx k)) .no,.bool (!false)]):=by rw [this];rfl
  exact h3
def OQ(l:bi)(i:Nat):Bool:=match l[i]?,l[i-1]? with
 | some c,some p=>!((decide (0<i)&& !decide (p.seq<c.seq))||(ak c.id l !=(i:Int)))
 | _,_=>true
def kM(l:bi):Nat->Nat->Bool
 | 0,_=>true
 | n+1,i=>OQ l i&&kM l n (i+1)
def checkP(l:bi):Bool:=kM l l.length 0
def YJ(l:bi)(hl:l.length<=1000000)(r:Bool):∀ (n i:Nat),i+n=l.length->kM l n i=r->
  To E Tryz.f145 (.pure (.ret (.bool r))) (.head (stk Tryz.f145 0) [(0,.slice 11 (pav l) .no),(5,.slice 11 (pav l) .no),(6,.int .i64 ((pav l).length:Nat)),(7,.int .i64 i)] []):=by
 have k:(pav l).length=l.length:=by simp
 intro n;induction n with
 | zero=>
  intro i o b;refine gV ?_;refine ⟨λ h=>?_,λ h=>?_⟩
  .exact absurd (of_decide_eq_true h) o_
  .refine gV ?_;rw [<-b];rfl
 | succ n p=>
  intro i o b;have d:i<l.length:=o_;have b:(OQ l i&&kM l n (i+1))=r:=b
  have back:kM l n (i+1)=r->inR .i64 ((i:Int)+1)/\To E Tryz.f145 (.pure (.ret (.bool r))) (.head (stk Tryz.f145 0) [(0,.slice 11 (pav l) .no),(5,.slice 11 (pav l) .no),(6,.int .i64 ((pav l).length:Nat)),(7,.int .i64 ((i:Int)+1))] []):=λ h=>
   ⟨xU o_ o_,by have:=p (i+1) o_ h;push_cast at this;exact this⟩
  refine gV ?_;refine ⟨λ h=>?_,λ h=>?_⟩
  .refine gV ?_;refine ⟨i,rfl,gV ?_⟩;refine ⟨_,jE d,gV ?_⟩;refine ⟨λ h1=>?_,λ h1=>?_⟩
   .have g:0<i:=by have:=of_decide_eq_true h1;omega
    have a:i-1<l.length:=o_;have c:OQ l i= !((true&& !decide (l[i-1].seq<l[i].seq))||(ak l[i].id l !=(i:Int))):=by unfold OQ;rw [Ac d,Ac a,decide_eq_true g]
    refine gV ?_;refine .inl ⟨xU o_ o_,gV ?_⟩;refine ⟨i-1,by omega,gV ?_⟩;refine ⟨_,jE a,gV ?_⟩;refine .pure _ [] (ND _ _) (gV ?_);refine ⟨λ e=>?_,λ e=>?_⟩
    .refine gV ?_;refine ⟨λ_=>?_,λ h3=>(by cases h3)⟩;refine gV ?_;rw [c,e] at b;rw [<-b];rfl
    .refine gV ?_;refine .pure _ [] (find_ok _ _) (gV ?_);refine ⟨λ h3=>?_,λ h3=>?_⟩
     .refine gV ?_;rw [c,e,h3] at b;rw [<-b];rfl
     .refine gV ?_;rw [c,e,h3] at b;obtain ⟨j,q⟩:=back b;refine .inl ⟨j,?_⟩;exact zW
   .have m:i=0:=by have:=of_decide_eq_false h1;omega
    have c:OQ l i= !((false&&false)||(ak l[i].id l !=(i:Int))):=by unfold OQ;have a:i-1<l.length:=o_;rw [Ac d,Ac a];subst m;simp
    refine gV ?_;refine ⟨λ e=>(by cases e),λ_=>gV ?_⟩;refine .pure _ [] (find_ok _ _) (gV ?_);refine ⟨λ h3=>?_,λ h3=>?_⟩
    .refine gV ?_;rw [c,h3] at b;rw [<-b];rfl
    .refine gV ?_;rw [c,h3] at b;obtain ⟨j,q⟩:=back b;refine .inl ⟨j,?_⟩;exact zW
  .exact absurd (of_decide_eq_false h) o_
def check_ok(l:bi)(hl:l.length<=1000000):aq 145 [.slice 11 (pav l) .no] [] (.ret (.bool (checkP l))) []:=by refine c_ Tryz.f145 λ_=>?_;have a:=YJ l hl _ l.length 0 o_ rfl;exact zW
def IB(p:Pend->Bool):∀ (l:bi) (i:Int) (k:Nat) (h:k<l.length),p l[k]=true->(∀ (j:Nat) (a:j<l.length),j<k->p l[j]=false)->idx p l i=i+k
 | [],i,k,h,_,_=>by simp at h
 | x::r,i,0,h,h1,_=>by
  have:p x=true:=h1;simp [idx,this]
 | x::r,i,k+1,h,h1,h2=>by have c:p x=false:=h2 0 s_ o_;have:=IB p r (i+1) k (by simpa using h) (by simpa using h1) (λ j a b=>by have:=h2 (j+1) (by simpa using a) o_;simpa using this);unfold idx;rw [if_neg (by rw [c];simp),this];push_cast;omega
def aFQ{p:Pend->Bool}:∀ {l:bi} {i:Int} {k:Nat} (h:k<l.length),p l[k]=true->idx p l i<=i+k
 | [],i,k,h,_=>by simp at h
 | x::r,i,0,h,h1=>by
  have:p x=true:=h1;simp [idx,this]
 | x::r,i,k+1,h,h1=>by
  unfold idx;split
  .omega
  .have:=aFQ (l:=r) (i:=i+1) (k:=k) (by simpa using h) (by simpa using h1);push_cast at this⊢;omega
structure Good(l:bi):Prop where
 seq:l.Pairwise λ a b=>a.seq<b.seq
 id:l.Pairwise λ a b=>a.id≠b.id
def Good.sub{l m:bi}(h:Good l)(hs:m.Sublist l):Good m:=⟨h.seq.sublist hs,h.id.sublist hs⟩
def yH{l:bi}:∀ {n i:Nat},kM l n i=true↔ ∀ j,i<=j->j<i+n->OQ l j=true
 | 0,i=>by simp [kM];omega
 | n+1,i=>by
  simp only [kM,Af,yH (n:=n) (i:=i+1)];constructor
  .rintro ⟨h1,a⟩ j b c;by_cases h:j=i
   .subst h;exact h1
   .exact a j o_ o_
  .intro h;exact ⟨h i (Bh _) o_,λ j h1 a=>h j o_ o_⟩
def HQ{l:bi}{j:Nat}(c:j<l.length):OQ l j=true↔(∀ (h:0<j),(l[j-1]' o_).seq<l[j].seq)/\ak l[j].id l=(j:Int):=by
 have a:j-1<l.length:=o_;unfold OQ;rw [Ac c,Ac a];simp only [Bool.not_or,Af,Df,bne_eq_false_iff_eq,Bool.and_eq_false_iff,decide_eq_false_iff_not];constructor
 .rintro ⟨h1,b⟩;refine ⟨λ h=>?_,b⟩;rcases h1 with h1 | h1
  .exact absurd h h1
  .simpa using h1
 .rintro ⟨h1,b⟩;refine ⟨?_,b⟩;by_cases h:0<j
  .right;simpa using h1 h
  .exact .inl h
def check_good{l:bi}:checkP l=true↔Good l:=by
 unfold checkP;rw [yH];constructor
 .intro h;have hs:∀ (j i:Nat) (b:j<l.length) (c:i<j),(l[i]' o_).seq<l[j].seq:=by
   intro j;induction j with
   | zero=>intro i _ c;omega
   | succ j f=>
    intro i b c;have h1:=((HQ b).1 (h (j+1) o_ o_)).1 o_;have h1:(l[j]' o_).seq<(l[j+1]).seq:=h1;by_cases a:i=j
    .subst a;exact h1
    .exact Int.lt_trans (f i o_ o_) h1
  refine ⟨Gj.2 λ i j c b a=>hs j i b a,Gj.2 λ i j c b a e=>?_⟩;have d:=((HQ b).1 (h j o_ o_)).2;have:=aFQ (p:=λ x=>x.id==l[j].id) (l:=l) (i:=0) (k:=i) c (by simpa using e);unfold ak at d;omega
 .intro h j _ b;have b:j<l.length:=o_;refine (HQ b).2 ⟨λ g=>Gj.1 h.seq _ _ o_ b o_,?_⟩;have:=IB (λ x=>x.id==l[j].id) l 0 j b s_ λ i c a=>by have:=Gj.1 h.id i j c b a;simpa using this
  unfold ak;omega
def insP(p:Pend):bi->bi
 | []=>[p]
 | x::r=>if p.seq<x.seq then p::x::r else x::insP p r
def WH(p x:Pend)(r:bi):putAt p (x::r)=if p.seq<x.seq then 0 else putAt p r+1:=by
 by_cases h:p.seq<x.seq
 .rw [if_pos h];have:idx (λ x=>decide (p.seq<x.seq)) (x::r) 0=0:=by unfold idx;rw [if_pos (by simpa using h)]
  unfold putAt;rw [this];rfl
 .rw [if_neg h];have e:idx (λ x=>decide (p.seq<x.seq)) (x::r) 0=idx (λ x=>decide (p.seq<x.seq)) r 1:=by
   conv=>lhs;unfold idx
   rw [if_neg (by simpa using h)];rfl
  have c:∀ (q:Pend->Bool) (l:bi) (i:Int),(idx q l i= -1/\idx q l (i+1)= -1)\/(i<=idx q l i/\idx q l (i+1)=idx q l i+1):=by
   intro q l;induction l with
   | nil=>intro i;exact .inl ⟨rfl,rfl⟩
   | cons y t d=>
    intro i;unfold idx;by_cases a:q y=true
    .rw [if_pos a,if_pos a];right;omega
    .rw [if_neg a,if_neg a];rcases d (i+1) with h | h
     .exact .inl h
     .right;omega
  rcases c (λ x=>decide (p.seq<x.seq)) r 0 with ⟨h1,b⟩ | ⟨h1,b⟩
  .unfold putAt;rw [e,show (1:Int)=0+1 from rfl,b,h1];simp
  .unfold putAt;rw [e,show (1:Int)=0+1 from rfl,b,if_neg o_,if_neg o_];omega
def putP_ins(p:Pend):∀ (l:bi),putP l p=insP p l
 | []=>rfl
 | x::r=>by
  have a:=putP_ins p r;unfold putP at a⊢;rw [WH];unfold insP;by_cases h:p.seq<x.seq
  .rw [if_pos h,if_pos h];rfl
  .rw [if_neg h,if_neg h,<-a];rfl
def shift(n k q:Nat):Nat:=if k<=q then q-k else q+n-k
end Go.Proofs.YtidhfoefaomodaaGreatDoor.Q2
namespace Go.Proofs.YtidhfoefaomodaaGreatDoor
open Go Go.AW Go.Proofs
structure Pn where
 g:Gan
 (seq at':Int)
 deriving DecidableEq
abbrev _root_.a7:=List Pn
def Pn.cs(x:Pn):ay:=[ii x.g.id,ii x.g.ten,ii x.g.pods,ii x.g.need.a,ii x.g.need.b,ii x.g.need.c,ii x.g.run,ii x.g.lev,ii x.g.pref,ii x.seq,ii x.at']
def Pn.av(x:Pn):aa:=.agg x.cs
abbrev pnv(l:a7):ay:=l.map Pn.av
def OK{l:a7}{i:Nat}(h:i<l.length):(pnv l)[i]? =some l[i].av:=by simp [pnv,h]
abbrev fv(l:az):ay:=l.map λ x:Nat=>.int .u64 (x:Int)
structure Sta where
 c:Con
 (now nxt:Int)
 pend:a7
 run:a6
 hist:az
 deriving DecidableEq
def Sta.cs(s:Sta):ay:=[.slice 11 (nav s.c.ns) .no,.slice 6 (hav s.c.hs) .no,ii s.c.half,ii s.c.age,ii s.now,ii s.nxt,.slice 11 (pnv s.pend) .no,.slice 14 (rav s.run) .no,.slice 1 (fv s.hist) .no]
def Sta.av(s:Sta):aa:=.agg s.cs
def iU(c:Con):Bool:=decide (c.ns=[])&&(decide (c.hs=[])&&(decide (c.half=0)&&decide (c.age=0)))
def P6(g:Gan):Bool:=decide (1<=g.id/\g.id<=1073741824/\1<=g.pods/\g.pods<=16)&&(bH g.need&&decide (1<=g.run/\g.run<=1048576/\0<=g.lev/\g.lev<=3/\0<=g.pref/\g.pref<=g.lev))
def fU(c:Con)(g:Gan):Int:=if P6 g=true then (if bL c.ns g.ten=true then 0 else 3) else 1
def Rn.pn(r:Rn):Pn:=⟨r.g,r.seq,r.at'⟩
def pnB(s:Sta)(p:Pn):Bool:=decide (fU s.c p.g=0)&&(!(bM s.c [] p.g).isNone&&decide ((0<=p.seq/\p.seq<s.nxt)/\0<=p.at'/\p.at'<=s.now))
def rnB(s:Sta)(r:Rn):Bool:=decide ((r.at'<=r.st/\r.st<=s.now)/\s.now<eZ r)&&(uQ s.c (lT s.c (s.run.filter λ x=>!(x.g.id==r.g.id))) r.g r.hs&&decide ((bQ s.c.hs (r.hs.headD 0)).f=r.fl))
def tZ(c:Con)(n:Int):V3:=if bL c.ns n=true then fK (lY c.ns n (uJ c.ns)) (cZ c.ns n).b else lY c.ns n (uJ c.ns)
def RT(s:Sta):Bool:=(Du s.c.ns.length).all λ i:Nat=>dC (atV (ofL s.c s.run) (i:Int)) (tZ s.c (i:Int))
def Pn.q(x:Pn):Q2.Pend:=⟨x.g.id,x.g.ten,x.g.pods,x.g.need.a,x.g.need.b,x.g.need.c,x.g.run,x.g.lev,x.g.pref,x.seq,x.at'⟩
def nO(l:a7):Q2.pav (l.map Pn.q)=pnv l:=by simp [Q2.pav,pnv,Pn.q,Q2.Pend.av,Q2.Pend.cs,Pn.av,Pn.cs]
def aEg(l:a7):Bool:=Q2.checkP (l.map Pn.q)
def ids(s:Sta):ax:=s.pend.map (λ p=>p.g.id)++s.run.map λ r=>r.g.id
def seqs(s:Sta):ax:=s.pend.map (λ p=>p.seq)++s.run.map λ r=>r.seq
def TH(s:Sta):Bool:=(iU s.c||decide (cJ s.c=0))&&decide ((0<=s.now/\s.now<=1099511627776)/\(1<=s.nxt/\s.nxt<=1099511627776)/\s.hist.length=s.c.ns.length/\s.pend.length+s.run.length<=32)
def pI(s:Sta):Bool:=TH s&&(aEg s.pend&&((s.pend.all (pnB s)&&s.run.all λ r=>pnB s r.pn&&rnB s r)&&(decide (ids s).Nodup&&(decide (seqs s).Nodup&&RT s))))
def rY{c:Con}{g:Gan}:fU c g=0↔P6 g=true/\bL c.ns g.ten=true:=by unfold fU;cases P6 g<;>cases bL c.ns g.ten<;>decide
def AI(p:V3->Int)(u:Int)(x:Rn):Int:=p x.g.need*((x.hs.count u:Nat):Int)
def C0{p:V3->Int}(hp:Prj p)(need:V3)(a:0<=p need/\p need<=1048576)(j:Nat):∀ (hs:ax) (xs:a8) (v:Int),j<xs.length->v<=cD->p ((xs[j]?).getD V3.zero)=max v (-cD)->p (((hs.foldl (lS need) xs)[j]?).getD V3.zero)=max (v-p need*((hs.count (j:Int):Nat):Int)) (-cD)
 | [],xs,v,_,_,h=>by simpa using h
 | u::r,xs,v,hj,hv,h=>by
  rw [Bb];have e:=sA need xs u j;by_cases b:u=(j:Int)
  .subst b;rw [if_pos ⟨by omega,by omega,by omega⟩] at e;rw [Ir];have hm:p need*(((r.count (j:Int)+1:Nat):Nat):Int)=p need*((r.count (j:Int):Nat):Int)+p need:=by rw [Int.natCast_add,Int.mul_add];simp
   rw [hm];have c:p (((lS need xs (j:Int))[j]?).getD V3.zero)=max (v-p need) (-cD):=by
    rw [e,hp.sub,h];unfold sT iB cD at *
    omega
   rw [C0 hp need a j r _ (v-p need) (by rw [mB];exact hj) o_ c];omega
  .rw [if_neg o_] at e;rw [Mu (by simpa using b)];exact C0 hp need a j r _ v (by rw [mB];exact hj) hv (by rw [e];exact h)
def S6{p:V3->Int}(hp:Prj p)(j:Nat):∀ (l:a6) (xs:a8) (v:Int),(∀ x∈l,0<=p x.g.need/\p x.g.need<=1048576)->j<xs.length->v<=cD->p ((xs[j]?).getD V3.zero)=max v (-cD)->p (((l.foldl yF xs)[j]?).getD V3.zero)=max (v-cI (l.map (AI p (j:Int)))) (-cD)
 | [],xs,v,_,_,_,h=>by
  show _=max (v-0) _;rw [Int.sub_zero];exact h
 | x::r,xs,v,hn,hj,hv,h=>by have a:=hn x (Ao ..);have e:=C0 hp x.g.need a j x.hs xs v hj hv h;have hz:0<=p x.g.need*((x.hs.count (j:Int):Nat):Int):=Lh a.1 o_;rw [Bb,Bj];have c:=S6 hp j r (yF xs x) (v-p x.g.need*((x.hs.count (j:Int):Nat):Int)) (λ y b=>hn y (Av _ b)) (by rw [C9];exact hj) o_ e;rw [c];show _=max (v-(AI p (j:Int) x+cI _)) _;unfold AI;congr 1;omega
structure RnOK(s:Sta)(r:Rn):Prop where
 gang:fU s.c r.g=0
 st:0<=r.st/\r.st<=s.now
 chk:uQ s.c (lT s.c (s.run.filter λ x=>!(x.g.id==r.g.id))) r.g r.hs=true
def aBc{s:Sta}(h:pI s=true){r:Rn}(e:r∈s.run):RnOK s r:=by unfold pI at h;simp only [Af,Cb] at h;have h1:=h.2.2.1.2 r e;unfold pnB rnB at h1;simp only [Af,decide_eq_true_eq] at h1;obtain ⟨⟨a,_,b⟩,c,d,_⟩:=h1;exact ⟨a,⟨Ds b.2.1 c.1.1,c.1.2⟩,d⟩
def P2{c:Con}{free:a8}{g:Gan}{hs:ax}(h:uQ c free g hs=true):(hs.length:Int)=g.pods/\∀ u∈hs,0<=u/\u<(free.length:Int)/\((hs.count u:Nat):Int)<=dN ((free[u.toNat]?).getD V3.zero) g.need:=by
 unfold uQ at h;by_cases hl:(hs.length:Int)=g.pods
 .rw [if_pos hl,Ga] at h;obtain ⟨G,_,b⟩:=h;refine ⟨hl,λ u f=>?_⟩;unfold chkG IL at b;simp only [Af,Cb] at b;have a:=b.2 u f;unfold aGj at a;by_cases h1:u<0
  .rw [if_pos (decide_eq_true h1)] at a;cases a
  .rw [if_neg (by rw [decide_eq_false h1];decide)] at a;by_cases d:(free.length:Int)<=u
   .rw [if_pos (decide_eq_true d)] at a;cases a
   .rw [if_neg (by rw [decide_eq_false d];decide)] at a;have e:E4 u hs=((hs.count u:Nat):Int):=by unfold E4;rw [DM];omega
    rw [e] at a;simp at a;exact ⟨by omega,by omega,a⟩
 .rw [if_neg hl] at h;cases h
def BJ(c:Con)(l:a6):(lT c l).length=c.hs.length:=by
 have key:∀ (l:a6) (xs:a8),(l.foldl yF xs).length=xs.length:=λ l=>by
  induction l with
  | nil=>intro xs;rfl
  | cons x r a=>intro xs;rw [Bb,a,C9]
 unfold lT;rw [key];simp
def aOv(c:Con){j:Nat}(a:j<c.hs.length):(((Du c.hs.length).map λ i:Nat=>(bQ c.hs (i:Int)).c)[j]?).getD V3.zero=(bQ c.hs (j:Int)).c:=by rw [Bi,Dr a];rfl
def YM{c:Con}(h:cJ c=0){j:Nat}(a:j<c.hs.length):bH (bQ c.hs (j:Int)).c=true:=by
 unfold cJ at h;split at h
 .split at h
  .split at h
   .rename_i b;rw [Cb] at b;have d:bQ c.hs (j:Int)=c.hs[j]:=by unfold bQ;rw [Br,Ac a];rfl
    have:=b c.hs[j] (Ax a);unfold nP at this;split at this
    .cases this
    .rw [d];exact this
   .cases h
  .cases h
 .cases h
def aAI{p:V3->Int}(hp:Prj p){c:Con}(a:∀ j:Nat,j<c.hs.length->0<=p (bQ c.hs (j:Int)).c/\p (bQ c.hs (j:Int)).c<=1048576){l:a6}(d:∀ x∈l,0<=p x.g.need/\p x.g.need<=1048576){j:Nat}(b:j<c.hs.length):p (((lT c l)[j]?).getD V3.zero)=max (p (bQ c.hs (j:Int)).c-cI (l.map (AI p (j:Int)))) (-cD):=by have e:=a j b;unfold lT;exact S6 hp j l _ _ d (by simpa using b) (by unfold cD;omega) (by rw [aOv c b];unfold cD;omega)
def ZH{f:Rn->Int}{r:Rn}:∀ {l:a6},r∈l->(l.map λ x=>x.g.id).Nodup->cI (l.map f)=cI ((l.filter λ x=>!(x.g.id==r.g.id)).map f)+f r
 | [],h,_=>by cases h
 | x::l,h,hd=>by
  rw [Bj,Cl] at hd;rw [Bj];show f x+cI (l.map f)=_;rcases Aw.1 h with rfl | h
  .rw [Fc s_];have e:l.filter (λ x=>!(x.g.id==r.g.id))=l:=by rw [Gf];intro y b;have:y.g.id≠r.g.id:=λ q=>hd.1 (by rw [<-q];exact Ce.2 ⟨y,b,rfl⟩);simpa using this
   rw [e];omega
  .have a:x.g.id≠r.g.id:=λ q=>hd.1 (by rw [q];exact Ce.2 ⟨r,h,rfl⟩);rw [Gb (by simpa using a),Bj];show _=(f x+cI _)+f r;rw [ZH h hd.2];omega
def wX{free need:V3}{n:Int}(f:bH need=true)(h1:1<=n)(h:n<=dN free need):need.a*n<=free.a/\need.b*n<=free.b/\need.c*n<=free.c:=by
 have d:dC need free=true:=by
  cases e:dC need free with
  | true=>rfl
  | false=>
   unfold dN at h;rw [if_neg (by rw [e];decide)] at h;omega
 exact ((AT f d _).1 h).2
set_option maxRecDepth 10000
def iZ(n lo a:Int):Bool:=decide (lo<=n)&&decide (n<=a)
def iY{n lo a:Int}:iZ n lo a=true↔lo<=n/\n<=a:=by unfold iZ;simp
def lL(n lo a:Int):aq 216 [ii n,ii lo,ii a] [] (.ret (.bool (iZ n lo a))) []:=by
 unfold iZ;by_cases h1:lo<=n
 .rw [decide_eq_true h1,Bw];exact c_ Tryz.f216 λ_=>zW
 .rw [decide_eq_false h1,De];exact c_ Tryz.f216 λ_=>zW
def AR(n lo a:Int):aq 210 [ii n,ii lo,ii a] [] (.ret (.bool (iZ n lo a))) []:=by
 unfold iZ;by_cases h1:lo<=n
 .rw [decide_eq_true h1,Bw];exact c_ Tryz.f210 λ_=>zW
 .rw [decide_eq_false h1,De];exact c_ Tryz.f210 λ_=>zW
def WG(v:V3)(b:Bool)(d:bH v=b):aq 251 [v.av] [] (.ret (.bool b)) []:=by
 unfold bH at d;refine c_ Tryz.f251 λ_=>?_
 repeat' first
  | (refine gW hE ?_;conv=>whnf)
  | exact d
  | refine aY ?_
  | refine aN ?_
  | refine Ae (λ h=>?_) (λ h=>?_)
  | refine aJ ?_
  | refine Aq _ (Ae rfl ?_)
  | refine Ae d_ ?_
 all_goals (refine congrArg (λ b=>Res.ret (aa.bool b)) ?_;rw [<-d];simp only [decide_eq_true_eq,decide_eq_false_iff_not] at *)
 .rw [decide_eq_false (p:=0<=v.a/\v.a<=1048576) o_];rfl
 .rw [decide_eq_false (p:=0<=v.a/\v.a<=1048576) o_];rfl
 .rw [decide_eq_false (p:=0<=v.b/\v.b<=1048576) o_,Bl];rfl
 .rw [decide_eq_false (p:=0<=v.b/\v.b<=1048576) o_,Bl];rfl
 .rw [decide_eq_false (p:=0<=v.c/\v.c<=1048576) o_,Bl]
 .rw [decide_eq_false (p:=0<=v.c/\v.c<=1048576) o_,Bl]
 .rw [decide_eq_true (p:=0<=v.a/\v.a<=1048576) o_,decide_eq_true (p:=0<=v.b/\v.b<=1048576) o_,decide_eq_true (p:=0<=v.c/\v.c<=1048576) o_];rfl
def fP(v:V3):aq 251 [v.av] [] (.ret (.bool (bH v))) []:=WG v _ rfl
def L7(x:Hos):Bool:=iZ x.f 0 100&&(iZ x.b 0 100&&(iZ x.r 0 100&&bH x.c))
def aJ9(x:Hos):aq 218 [x.av] [] (.ret (.bool (L7 x))) []:=by
 have h1:=lL x.f 0 100;have a:=lL x.b 0 100;have h3:=lL x.r 0 100;have d:=fP x.c;unfold L7;generalize iZ x.f 0 100=b1 at h1;generalize iZ x.b 0 100=b2 at a;generalize iZ x.r 0 100=b3 at h3;generalize bH x.c=b4 at d;cases b1<;>cases b2<;>cases b3<;>cases b4
 all_goals
  exact c_ Tryz.f218 λ_=>zW
def aFT(x:Hos):L7 x=nP x:=by
 rw [Ig];unfold L7 nP;by_cases h:KS x
 .rw [if_pos h];unfold KS at h;simp only [Af,iY];constructor
  .intro q;omega
  .intro q;cases q
 .rw [if_neg h];unfold KS at h;simp only [Af,iY];constructor
  .intro q;exact q.2.2.2
  .intro q;exact ⟨by omega,by omega,by omega,q⟩
def aBU(c:Con)(i:Nat)(t:i<1048576)(x:Nod)(get:(nav c.ns)[i]? =some x.av)(s:E7 i x):aq 217 [c.av,ii i] [] (.ret (.bool false)) []:=by
 have d:=lL x.p 0 ((i:Int)-1);have e:=lL x.w 1 1000;have hl:=lL x.w 1 1000;have j:=fP x.n;have m:=fP x.b;have q:=fP x.l;have k:=oA x.l x.n;unfold E7 at s;by_cases r:i=0
 .by_cases hp:x.p= -1
  .have o:iZ x.w 1 1000=false:=by
    cases a:iZ x.w 1 1000 with
    | false=>rfl
    | true=>have:=iY.1 a;omega
   rw [o] at e;subst r;refine c_ Tryz.f217 λ_=>?_
   repeat' first | (refine gN hE ?_;conv=>whnf) | refine ⟨i,rfl,?_⟩ | refine ⟨_,get,?_⟩ | refine .pure _ [] d ?_ | refine .pure _ [] e ?_ | refine .pure _ [] hl ?_ | refine .pure _ [] j ?_ | refine .pure _ [] m ?_ | refine .pure _ [] q ?_ | refine .pure _ [] k ?_ | exact rfl | refine zt ?_ | refine zu ?_ ?_ | intro h | fail
  .subst r;refine c_ Tryz.f217 λ_=>?_
   repeat' first | (refine gN hE ?_;conv=>whnf) | refine ⟨i,rfl,?_⟩ | refine ⟨_,get,?_⟩ | refine .pure _ [] d ?_ | refine .pure _ [] e ?_ | refine .pure _ [] hl ?_ | refine .pure _ [] j ?_ | refine .pure _ [] m ?_ | refine .pure _ [] q ?_ | refine .pure _ [] k ?_ | exact rfl | refine zt ?_ | refine zu ?_ ?_ | intro h | fail
   all_goals (exfalso;simp at *;omega)
 .cases a:iZ x.p 0 ((i:Int)-1) with
  | false=>
   rw [a] at d;exact c_ Tryz.f217 λ_=>zW
  | true=>
   rw [a] at d;have:=iY.1 a;have o:iZ x.w 1 1000=false:=by
    cases a:iZ x.w 1 1000 with
    | false=>rfl
    | true=>have:=iY.1 a;omega
   rw [o] at e;refine c_ Tryz.f217 λ_=>?_
   repeat' first | (refine gN hE ?_;conv=>whnf) | refine ⟨i,rfl,?_⟩ | refine ⟨_,get,?_⟩ | refine .pure _ [] d ?_ | refine .pure _ [] e ?_ | refine .pure _ [] hl ?_ | refine .pure _ [] j ?_ | refine .pure _ [] m ?_ | refine .pure _ [] q ?_ | refine .pure _ [] k ?_ | exact rfl | refine zt ?_ | refine zu ?_ ?_ | intro h | fail
set_option maxHeartbeats 2000000 in
def WI(c:Con)(i:Nat)(s:i<1048576)(x:Nod)(get:(nav c.ns)[i]? =some x.av)(r:¬ E7 i x)(a:bL c.ns (i:Int)=true):aq 217 [c.av,ii i] [] (.ret (.bool (bH x.n&&(bH x.b&&(bH x.l&&dC x.l x.n))))) []:=by
 have j:=lL x.p 0 ((i:Int)-1);have o:=lL x.w 1 1000;have hl:=mQ c (i:Int);rw [a] at hl;have d:=fP x.n;have k:=fP x.b;have m:=fP x.l;have e:=oA x.l x.n;unfold E7 at r;rw [iY.2 (show 1<=x.w/\x.w<=1000 by omega)] at o;generalize bH x.n=q1 at d;generalize bH x.b=q2 at k;generalize bH x.l=q3 at m;generalize dC x.l x.n=q4 at e;by_cases q:i=0
 .have hp:x.p= -1:=o_;subst q;cases q1<;>cases q2<;>cases q3<;>cases q4
  all_goals
   refine c_ Tryz.f217 λ_=>?_
   repeat' first | (refine gN hE ?_;conv=>whnf) | refine ⟨i,rfl,?_⟩ | refine ⟨_,get,?_⟩ | refine .pure _ [] j ?_ | refine .pure _ [] o ?_ | refine .pure _ [] hl ?_ | refine .pure _ [] d ?_ | refine .pure _ [] k ?_ | refine .pure _ [] m ?_ | refine .pure _ [] e ?_ | exact rfl | refine zt ?_ | refine zu ?_ ?_ | intro h | fail
   all_goals (exfalso;simp at *;omega)
 .rw [iY.2 (show 0<=x.p/\x.p<=(i:Int)-1 by omega)] at j;cases q1<;>cases q2<;>cases q3<;>cases q4
  all_goals
   exact c_ Tryz.f217 λ_=>zW
def aEQ(c:Con)(i:Nat)(v:i<1048576)(x:Nod)(get:(nav c.ns)[i]? =some x.av)(t:¬ E7 i x)(e:bL c.ns (i:Int)=false)(r:Bool)(u:(zB x.n&&(zB x.b&&zB x.l))=r):aq 217 [c.av,ii i] [] (.ret (.bool r)) []:=by
 have d:=lL x.p 0 ((i:Int)-1);have j:=lL x.w 1 1000;have hl:=mQ c (i:Int);rw [e] at hl;have k:=fP x.n;have o:=fP x.b;have q:=fP x.l;have m:=oA x.l x.n;unfold E7 at t;rw [iY.2 (show 1<=x.w/\x.w<=1000 by omega)] at j;have fin:(((x.p==x.p)&&((x.w==x.w)&&((x.n.a==0)&&((x.n.b==0)&&((x.n.c==0)&&((x.b.a==0)&&((x.b.b==0)&&((x.b.c==0)&&((x.l.a==0)&&((x.l.b==0)&&((x.l.c==0)&&true)))))))))))=r):=by rw [<-u];unfold zB;simp [Dd]
 by_cases s:i=0
 .have hp:x.p= -1:=o_;subst s;refine c_ Tryz.f217 λ_=>?_
  repeat' first | (refine gN hE ?_;conv=>whnf) | refine ⟨i,rfl,?_⟩ | refine ⟨_,get,?_⟩ | refine .pure _ [] d ?_ | refine .pure _ [] j ?_ | refine .pure _ [] hl ?_ | refine .pure _ [] k ?_ | refine .pure _ [] o ?_ | refine .pure _ [] q ?_ | refine .pure _ [] m ?_ | exact rfl | refine zt ?_ | refine zu ?_ ?_ | intro h | fail
  .exact absurd (show (x.p != -1)=true by assumption) (by rw [hp];decide)
  .exact congrArg (λ b=>Res.ret (aa.bool b)) fin
 .rw [iY.2 (show 0<=x.p/\x.p<=(i:Int)-1 by omega)] at d;refine c_ Tryz.f217 λ_=>?_
  repeat' first | (refine gN hE ?_;conv=>whnf) | refine ⟨i,rfl,?_⟩ | refine ⟨_,get,?_⟩ | refine .pure _ [] d ?_ | refine .pure _ [] j ?_ | refine .pure _ [] hl ?_ | refine .pure _ [] k ?_ | refine .pure _ [] o ?_ | refine .pure _ [] q ?_ | refine .pure _ [] m ?_ | exact rfl | refine zt ?_ | refine zu ?_ ?_ | intro h | fail
  exact congrArg (λ b=>Res.ret (aa.bool b)) fin
def aEP(c:Con)(i:Nat)(b:i<1048576)(x:Nod)(get:(nav c.ns)[i]? =some x.av):aq 217 [c.av,ii i] [] (.ret (.bool (rT (bL c.ns (i:Int)) i x))) []:=by
 unfold rT;by_cases a:E7 i x
 .rw [if_pos a];exact aBU c i b x get a
 .rw [if_neg a];cases hl:bL c.ns (i:Int) with
  | false=>rw [if_neg d_];exact aEQ c i b x get a hl _ rfl
  | true=>rw [if_pos rfl];exact WI c i b x get a hl
noncomputable abbrev aAU:Func:=Tryz.f144
def HU(ns:bc):Nat->bc->Bool
 | _,[]=>true
 | i,x::r=>rT (bL ns (i:Int)) i x&&HU ns (i+1) r
def HJ(c:Con)(h:c.sm)(r:Int):∀ (m i:Nat) (b:Bool),i+m=c.hs.length->(if (b&&(c.hs.drop i).all nP)=true then (0:Int) else 2)=r->
  To E aAU (.pure (.ret (ii r))) (.head (stk aAU 1) [(1,.ref 0 0),(3,.bool b),(5,ii i)] [.cells 26 c.cs]):=by
 have f:(hav c.hs).length=c.hs.length:=by simp
 have h1:=h.hs;intro m;induction m with
 | zero=>
  intro i b g a;rw [Ab o_] at a;cases b with
  | false=>
   have a:2=r:=a;subst a;refine gV ?_;exact zW
  | true=>
   have a:0=r:=a;subst a;refine gV ?_;exact zW
 | succ m j=>
  intro i b g a;cases b with
  | false=>
   have a:2=r:=a;subst a;refine gV ?_;exact zW
  | true=>
   have d:i<c.hs.length:=o_;rw [Aa d,Kj,<-aFT] at a;have get:=BG d;generalize c.hs[i]=x at a get;have e:=aJ9 x;have next:=j (i+1) (L7 x) o_ a
   generalize L7 x=q at e next
   refine gV ?_;exact zW
def WK(c:Con)(f:c.sm)(r:Int):∀ (m i:Nat) (b:Bool),i+m=c.ns.length->(if ((b&&HU c.ns i (c.ns.drop i))&&c.hs.all nP)=true then (0:Int) else 2)=r->
  To E aAU (.pure (.ret (ii r))) (.head (stk aAU 0) [(1,.ref 0 0),(3,.bool b),(4,ii i)] [.cells 26 c.cs]):=by
 have g:(nav c.ns).length=c.ns.length:=by simp
 have h1:=f.ns;intro m;induction m with
 | zero=>
  intro i b h a;rw [Ab o_] at a;have next:=HJ c f r c.hs.length 0 b o_ (by rw [<-a];show _=if ((b&&true)&&_)=true then (0:Int) else 2;rw [Em];rfl)
  cases b with
  | false=>
   refine gV ?_;exact zW
  | true=>
   refine gV ?_;exact zW
 | succ m j=>
  intro i b h a;cases b with
  | false=>
   have next:=HJ c f r c.hs.length 0 false o_ (by rw [<-a];rfl)
   refine gV ?_;exact zW
  | true=>
   have d:i<c.ns.length:=o_;rw [Aa d] at a;have get:=nU d;generalize c.ns[i]=x at a get;have e:=aEP c i o_ x get;have next:=j (i+1) (rT (bL c.ns (i:Int)) i x) o_ a
   generalize rT (bL c.ns (i:Int)) i x=q at e next
   refine gV ?_;exact zW
def SJ(ns:bc):∀ (l:bc) (i:Nat),HU ns i l=nK ns i l
 | [],_=>rfl
 | x::r,i=>by unfold HU nK;rw [SJ ns r (i+1),aMT];cases rT (bL ns (i:Int)) i x<;>rfl
def aBD(c:Con):Bool:=iZ c.ns.length 1 12&&(iZ c.hs.length 1 24&&(iZ c.half 1 1048576&&iZ c.age 0 1048576))
def Q1(c:Con):aBD c=true↔ET c:=by unfold aBD ET;simp only [Af,iY];omega
def aCS(c:Con):(if ((aBD c&&HU c.ns 0 (c.ns.drop 0))&&c.hs.all nP)=true then (0:Int) else 2)=cJ c:=by
 unfold cJ;rw [Ap,SJ];cases hs:aBD c with
 | false=>
  rw [if_neg (c:=ET c) (λ q=>by rw [(Q1 c).2 q] at hs;cases hs)];rfl
 | true=>
  rw [if_pos (c:=ET c) ((Q1 c).1 hs)];cases nK c.ns 0 c.ns<;>cases c.hs.all nP<;>rfl
set_option maxHeartbeats 2000000 in
def wZ(c:Con)(d:c.sm):aq 144 [c.av] [] (.ret (ii (cJ c))) []:=by
 have b:(nav c.ns).length=c.ns.length:=by simp
 have a:(hav c.hs).length=c.hs.length:=by simp
 have h:=WK c d (cJ c) c.ns.length 0 (aBD c) o_ (aCS c);have j:=lL ((nav c.ns).length:Nat) 1 12;have k:=lL ((hav c.hs).length:Nat) 1 24;have i:=lL c.half 1 1048576;have e:=lL c.age 0 1048576;unfold aBD at h;rw [<-b,<-a] at h;generalize iZ ((nav c.ns).length:Nat) 1 12=q1 at j h;generalize iZ ((hav c.hs).length:Nat) 1 24=q2 at k h;generalize iZ c.half 1 1048576=q3 at i h;generalize iZ c.age 0 1048576=q4 at e h;generalize cJ c=r at h;cases q1<;>cases q2<;>cases q3<;>cases q4
 all_goals
  exact c_ Tryz.f144 λ_=>zW
def aOy(g:Gan):Bool:=iZ g.id 1 1073741824&&(iZ g.pods 1 16&&(bH g.need&&(iZ g.run 1 1048576&&(iZ g.lev 0 3&&iZ g.pref 0 g.lev))))
def aLu(g:Gan):aOy g=P6 g:=by
 rw [Ig];unfold aOy P6;simp only [Af,iY,decide_eq_true_eq];constructor
 .rintro ⟨a,b,c,d,e,f⟩;exact ⟨⟨a.1,a.2,b.1,b.2⟩,c,d.1,d.2,e.1,e.2,f.1,f.2⟩
 .rintro ⟨⟨a,b,c,d⟩,v,e,f,h,i,j,k⟩;exact ⟨⟨a,b⟩,⟨c,d⟩,v,⟨e,f⟩,⟨h,i⟩,j,k⟩
def Q3(c:Con)(g:Gan):aq 204 [c.av,g.av] [] (.ret (ii (fU c g))) []:=by
 have d:=AR g.id 1 1073741824;have h:=AR g.pods 1 16;have b:=fP g.need;have j:=AR g.run 1 1048576;have a:=AR g.lev 0 3;have e:=AR g.pref 0 g.lev;have i:=mQ c g.ten;unfold fU;rw [<-aLu];unfold aOy;generalize iZ g.id 1 1073741824=q1 at d;generalize iZ g.pods 1 16=q2 at h;generalize bH g.need=q3 at b;generalize iZ g.run 1 1048576=q4 at j;generalize iZ g.lev 0 3=q5 at a;generalize iZ g.pref 0 g.lev=q6 at e;generalize bL c.ns g.ten=q7 at i;cases q1 with
 | false=>
  exact zqca12
 | true=>
  cases q2 with
  | false=>
   exact zqca12
  | true=>
   cases q3 with
   | false=>
    exact zqca12
   | true=>
    cases q4 with
    | false=>
     exact zqca12
    | true=>
     cases q5 with
     | false=>
      exact zqca12
     | true=>
      cases q6 with
      | false=>
       exact zqca12
      | true=>
       cases q7 with
       | false=>
        exact zqca12
       | true=>
        exact zqca12
def XQ(c:Con):Bool:=C8.eqL Nod.eqb c.ns []&&(C8.eqL Hos.eqb c.hs []&&(c.half==0&&c.age==0))
def aCy(c:Con):XQ c=iU c:=by obtain ⟨ns,hs,b,a⟩:=c;unfold XQ iU;cases ns<;>cases hs<;>simp [C8.eqL]<;>rfl
def E3:Con:=⟨[],[],0,0⟩
def aD6(c:Con):aq 61 [c.av,E3.av] [] (.ret (.bool (iU c))) []:=by
 have h1:=C8.eqN_ok c.ns [];have b:=C8.eqH_ok c.hs [];rw [<-aCy];unfold XQ;generalize C8.eqL Nod.eqb c.ns []=q1 at h1;generalize C8.eqL Hos.eqb c.hs []=q2 at b
 obtain ⟨R,a⟩:∃ R:Bool,R=(q1&&(q2&&(c.half==0&&c.age==0))):=⟨_,rfl⟩
 rw [<-a];cases q1 with
 | false=>
  exact zqca41
 | true=>
  cases q2 with
  | false=>
   exact zqca41
  | true=>
   have a:R=(c.half==0&&c.age==0):=a;refine c_ Tryz.f61 λ_=>?_
   repeat' first | (refine gN hE ?_;conv=>whnf) | refine .pure _ [] h1 ?_ | refine .pure _ [] b ?_ | exact rfl | refine zt ?_ | refine zu ?_ ?_ | intro h | fail
   all_goals (rw [a];simp_all [E3])
def aGG(c:Con):aq 143 [c.av] [] (.ret (.bool (iU c))) []:=by have h:=aD6 c;generalize iU c=q at h;exact c_ Tryz.f143 λ_=>zW
def O8{α:Type}(p:α->Bool):List α->Int->Int
 | [],_=> -1
 | x::r,i=>if p x=true then i else O8 p r (i+1)
def ID{α:Type}(p:α->Bool):∀ (l:List α) (i:Int),0<=i->decide (0<=O8 p l i)=l.any p
 | [],i,_=>rfl
 | x::r,i,h=>by
  unfold O8;rw [Hq];cases hp:p x with
  | true=>rw [if_pos rfl,decide_eq_true h];rfl
  | false=>rw [if_neg d_,ID p r (i+1) o_];rfl
def W3(f:FuncId)(cap:ay)(xs:ax)(p:Int->Bool)(j:∀ x∈xs,aA Tryz.prog f [ii x,.ptr cap] [] (.ret (.bool (p x))) [])(hl:((iv xs).length:Int)<=9223372036854775807)(r:Int):
  ∀ (n i:Nat),i+n=xs.length->O8 p (xs.drop i) i=r->
  To E Tryz.f237 (.pure (.ret (.int .i64 r))) (.head (stk Tryz.f237 0) [(0,.slice 1 (iv xs) .no),(1,.func (.func f) [] [.ptr cap]),(7,.int .i64 ((iv xs).length:Nat)),(8,.int .i64 i)] []):=by
  have d:(iv xs).length=xs.length:=by simp
  intro n;induction n with
  | zero=>
   exact zqca33
  | succ n k=>
   intro i g a;have b:i<xs.length:=o_;refine gV ?_;refine aT λ h=>gV ?_;refine ⟨i,rfl,gV ?_⟩;refine ⟨_,dJ b,?_⟩;exact zqca21
def W5(f:FuncId)(cap:ay)(xs:List ax)(p:ax->Bool)(j:∀ x∈xs,aA Tryz.prog f [.slice 1 (iv x) .no,.ptr cap] [] (.ret (.bool (p x))) [])(hl:((gav xs).length:Int)<=9223372036854775807)(r:Int):
  ∀ (n i:Nat),i+n=xs.length->O8 p (xs.drop i) i=r->
  To E Tryz.f302 (.pure (.ret (.int .i64 r))) (.head (stk Tryz.f302 0) [(0,.slice 1 (gav xs) .no),(1,.func (.func f) [] [.ptr cap]),(7,.int .i64 ((gav xs).length:Nat)),(8,.int .i64 i)] []):=by
  have d:(gav xs).length=xs.length:=by simp
  intro n;induction n with
  | zero=>
   exact zqca33
  | succ n k=>
   intro i g a;have b:i<xs.length:=o_;refine gV ?_;refine aT λ h=>gV ?_;refine ⟨i,rfl,gV ?_⟩;refine ⟨_,aAF b,?_⟩;exact zqca21
def aG9(f:FuncId)(cap:ay)(xs:ax)(p:Int->Bool)(a:∀ x∈xs,aA Tryz.prog f [ii x,.ptr cap] [] (.ret (.bool (p x))) []):
  aq 286 [.slice 1 (iv xs) .no,.func (.func f) [] [.ptr cap]] [] (.ret (.bool (xs.any p))) []:=by
 have c:aq 237 [.slice 1 (iv xs) .no,.func (.func f) [] [.ptr cap]] [] (.ret (.int .i64 (O8 p xs 0))) []:=by refine c_ Tryz.f237 λ b=>gV ?_;refine To.head [0,1,7,8] ?_;exact W3 f cap xs p a b.1 _ xs.length 0 o_ s_
 rw [<-ID p xs 0 (Dc _)];exact c_ Tryz.f286 λ_=>zW
def aHa(f:FuncId)(cap:ay)(xs:List ax)(p:ax->Bool)(a:∀ x∈xs,aA Tryz.prog f [.slice 1 (iv x) .no,.ptr cap] [] (.ret (.bool (p x))) []):
  aq 284 [.slice 1 (gav xs) .no,.func (.func f) [] [.ptr cap]] [] (.ret (.bool (xs.any p))) []:=by
 have c:aq 302 [.slice 1 (gav xs) .no,.func (.func f) [] [.ptr cap]] [] (.ret (.int .i64 (O8 p xs 0))) []:=by refine c_ Tryz.f302 λ b=>gV ?_;refine To.head [0,1,7,8] ?_;exact W5 f cap xs p a b.1 _ xs.length 0 o_ s_
 rw [<-ID p xs 0 (Dc _)];exact c_ Tryz.f284 λ_=>zW
def aLk(G:ax)(a:G.length<=1048576)(h:Int):aq 287 [ii h,.ptr [.slice 1 (iv G) .no]] [] (.ret (.bool (!inB h G))) []:=by have b:=B4 G a h;exact c_ Tryz.f287 λ_=>zW
def aOo(G l:ax)(a:G.length<=1048576):aq 285 [.slice 1 (iv G) .no,.ptr [.slice 1 (iv l) .no]] [] (.ret (.bool (!(l.any λ h=>!inB h G)))) []:=by
 have b:=aG9 287 [.slice 1 (iv G) .no] l (λ h=>!inB h G) λ x _=>aLk G a x;refine c_ Tryz.f285 λ_=>?_;refine dF hE 10 ?_;conv=>whnf
 refine To.frz [2] [0] ?_;exact zW
def aDh{l:a8}{u:Int}(a:0<=u)(h1:u<(l.length:Int)):(vav l)[u.toNat]? =some ((l[u.toNat]?).getD V3.zero).av:=by rw [Ac (show u.toNat<l.length by omega)];exact AB o_
def aH0{c:Con}{l:a6}{n:Int}(h:c.ok n):(vav (ofL c l))[n.toNat]? =some (atV (ofL c l) n).av:=by
 obtain ⟨a,h1⟩:=h;have hl:(ofL c l).length=c.ns.length:=by unfold ofL pJ;simp
 unfold atV;rw [if_neg q_];exact aDh a o_
def OZ(k:ax)(v:aa)(x:ax):∀ (es:List (ax×aa)),cG (oJ es k v) x=if k=x then some v else cG es x
 | []=>rfl
 | (j,w)::r=>by
  show cG (if j=k then (k,v)::r else (j,w)::oJ r k v) x=if k=x then some v else (if j=x then some w else cG r x)
  by_cases b:j=k
  .subst b;rw [if_pos rfl];show (if j=x then some v else cG r x)=_;by_cases a:j=x
   .rw [if_pos a,if_pos a]
   .rw [if_neg a,if_neg a,if_neg a]
  .rw [if_neg b];show (if j=x then some w else cG (oJ r k v) x)=_;rw [OZ k v x r];by_cases a:j=x
   .subst a;rw [if_pos rfl,if_neg (λ q=>b q.symm),if_pos rfl]
   .rw [if_neg a,if_neg a]
def aOF(es:List (ax×aa))(pre:ax):Prop:=∀ h:Int,cG es [h]=if pre.count h=0 then none else some (ii ((pre.count h:Nat):Int))
def aFq{es:List (ax×aa)}{pre:ax}(hm:aOF es pre)(h v:Int)(b:v=((pre.count h:Nat):Int)+1):aOF (oJ es [h] (ii v)) (pre++[h]):=λ x=>by
 rw [OZ,Jm];by_cases a:h=x
 .subst a;rw [if_pos rfl,if_neg s_,b];simp
 .rw [if_neg (by simpa using a),hm x];have:[h].count x=0:=Li.2 (by simpa using λ q=>a q.symm);rw [this,Fx]
def plS(free:a8)(need:V3)(n h:Int):Bool:=if decide (h<0)=true then false else if decide ((free.length:Int)<=h)=true then false else !decide (dN ((free[h.toNat]?).getD V3.zero) need<n)
def plB(free:a8)(need:V3):ax->ax->Bool
 | _,[]=>true
 | pre,h::r=>plS free need (((pre.count h:Nat):Int)+1) h&&plB free need (pre++[h]) r
noncomputable abbrev aKx:Func:=Tryz.f265
def aFX(l:ax)(G:ax):Bool:=!(l.any λ h=>!inB h G)
abbrev plF(c:Con)(free:a8)(g:Gan)(l:ax)(i:Int):ar:=[(1,.slice 3 (vav free) .no),(4,.ptr c.cs),(6,.ptr g.cs),(7,.ptr [.slice 1 (iv l) .no]),(9,.mref 0),(18,.slice 1 (iv l) .no),(19,.int .i64 ((iv l).length:Nat)),(20,ii i)]
def aET(c:Con)(F:c.sm)(free:a8)(g:Gan)(l:ax)(hl:l.length<=1048576)(A:Bool)(M:(gpL c g.lev).any (aFX l)=A)(r:Bool):∀ (m i:Nat) (es:List (ax×aa)),i+m=l.length->aOF es (l.take i)->(plB free g.need (l.take i) (l.drop i)&&A)=r->
  To E aKx (.pure (.ret (.bool r))) (.head (stk aKx 0) (plF c free g l (i:Int)) [.mp false es]):=by
 have I:(iv l).length=l.length:=by simp
 have L:(vav free).length=free.length:=by simp
 intro m;induction m with
 | zero=>
  intro i es K hm b;rw [Ab o_] at b;have b:A=r:=b;subst b;have D:=aFZ c g.lev;have O:=F.hs;have h1:=MC c F g.lev;have s:=aHa 285 [.slice 1 (iv l) .no] (gpL c g.lev) (aFX l) λ G J=>aOo G l (by have:=(D.2 G J).2.1;omega);rw [M] at s;generalize gpL c g.lev=gs at h1 s;refine gV ?_;exact zW
 | succ m x=>
  intro i es K hm b;have p:i<l.length:=o_;have C:l.take (i+1)=l.take i++[l[i]]:=by rw [Jn,Ac p];rfl
  rw [Aa p] at b;have get:=dJ p;have x:=λ es=>x (i+1) es o_;rw [C] at x;generalize l[i]=u0 at b get x;have y:((l.take i).count u0)<=1048576:=Dh Na q_;have next:=λ v (N:v=(((l.take i).count u0:Nat):Int)+1)=>x (oJ es [u0] (ii v)) (aFq hm u0 v N)
  have t:=hm u0;have d:∀ v,cG (oJ es [u0] v) [u0]=some v:=λ v=>by rw [OZ,if_pos rfl]
  have b:((plS free g.need ((((l.take i).count u0:Nat):Int)+1) u0&&plB free g.need (l.take i++[u0]) (l.drop (i+1)))&&A)=r:=b;generalize plB free g.need (l.take i++[u0]) (l.drop (i+1))=B at b next
  generalize (l.take i).count u0=k at y t b next
  unfold plS at b;have go:∀ (w:Int),w=(k:Int)->(∃ o,cG es [u0]=o/\(o=none/\w=0\/o=some (ii w)))->To E aKx (.pure (.ret (.bool r))) (.head (stk aKx 0) (plF c free g l (i:Int)) [.mp false es]):=λ w P ⟨o,j,z⟩=>by
   have next:=next (w+1) o_
   rw [show ((k:Int)+1)=w+1 from by omega] at b;by_cases h1:u0<0
   .rw [decide_eq_true h1] at b;exact zqca0
   .rw [decide_eq_false h1,if_neg d_] at b;by_cases s:(free.length:Int)<=u0
    .rw [decide_eq_true s] at b;exact zqca0
    .rw [decide_eq_false s,if_neg d_] at b;have n:u0=(u0.toNat:Int):=o_;have e:=aDh (l:=free) (u:=u0) o_ o_;generalize (free[u0.toNat]?).getD V3.zero=fv at e b;have a:=ZV fv g.need;generalize dN fv g.need=q at a b;by_cases h3:q<w+1
     .rw [decide_eq_true h3] at b;exact zqca0
     .rw [decide_eq_false h3] at b;have next:=next b
      rcases z with ⟨rfl,rfl⟩ | rfl
      .refine gV ?_;refine aT λ h=>?_
       repeat' first | (refine gN hE ?_;conv=>whnf) | refine ⟨i,rfl,?_⟩ | refine ⟨u0.toNat,n,?_⟩ | refine ⟨_,get,?_⟩ | refine ⟨_,e,?_⟩ | refine ⟨_,j,?_⟩ | refine Aq _ (Ae (d _) ?_) | refine .pure _ [] a ?_ | exact rfl | refine zt ?_ | refine zu ?_ ?_ | intro h | fail
       exact To.cut [1,4,6,7,9,18,19,20] 1 rfl rfl rfl rfl next
      .refine gV ?_;refine aT λ h=>?_
       repeat' first | (refine gN hE ?_;conv=>whnf) | refine ⟨i,rfl,?_⟩ | refine ⟨u0.toNat,n,?_⟩ | refine ⟨_,get,?_⟩ | refine ⟨_,e,?_⟩ | refine ⟨_,j,?_⟩ | refine Aq _ (Ae (d _) ?_) | refine .pure _ [] a ?_ | exact rfl | refine zt ?_ | refine zu ?_ ?_ | intro h | fail
       exact To.cut [1,4,6,7,9,18,19,20] 1 rfl rfl rfl rfl next
  by_cases H:k=0
  .rw [if_pos H] at t;exact go 0 o_ ⟨_,t,.inl ⟨rfl,rfl⟩⟩
  .rw [if_neg H] at t;exact go k rfl ⟨_,t,.inr rfl⟩
def OL{free:a8}{need:V3}{n h:Int}:plS free need n h=true↔0<=h/\h<(free.length:Int)/\n<=dN ((free[h.toNat]?).getD V3.zero) need:=by
 unfold plS;by_cases h1:h<0
 .rw [if_pos (decide_eq_true h1)];constructor
  .intro q;cases q
  .intro q;omega
 .rw [if_neg (by rw [decide_eq_false h1];decide)];by_cases a:(free.length:Int)<=h
  .rw [if_pos (decide_eq_true a)];constructor
   .intro q;cases q
   .intro q;omega
  .rw [if_neg (by rw [decide_eq_false a];decide)];simp;omega
def Z8{free:a8}{need:V3}:∀ (l pre:ax),plB free need pre l=true↔ ∀ u∈l,0<=u/\u<(free.length:Int)/\(((pre++l).count u:Nat):Int)<=dN ((free[u.toNat]?).getD V3.zero) need
 | [],pre=>by simp [plB]
 | h::r,pre=>by
  unfold plB;rw [Af,OL,Z8 r (pre++[h]),Ag];show _↔ ∀ u∈h::r,0<=u/\u<(free.length:Int)/\(((pre++h::r).count u:Nat):Int)<=dN ((free[u.toNat]?).getD V3.zero) need;have e:pre++([h]++r)=pre++h::r:=rfl;rw [e];constructor
  .rintro ⟨⟨a,b,c⟩,d⟩ u f;by_cases g:u∈r
   .exact d u g
   .rcases Aw.1 f with rfl | f
    .refine ⟨a,b,?_⟩;rw [Jm,Ir,Li.2 g];simpa using c
    .exact absurd f g
  .intro d;refine ⟨?_,λ u f=>d u (Av _ f)⟩;obtain ⟨a,b,c⟩:=d h (Ao ..);refine ⟨a,b,?_⟩;rw [Jm,Ir] at c;omega
def MM{free:a8}{need:V3}{hs:ax}:IL free need hs=true↔ ∀ u∈hs,0<=u/\u<(free.length:Int)/\((hs.count u:Nat):Int)<=dN ((free[u.toNat]?).getD V3.zero) need:=by
 unfold IL;rw [Cb];have key:∀ u,aGj free need hs u=plS free need (E4 u hs) u:=λ u=>rfl;constructor
 .intro q u a;have:=q u a;rw [key,OL] at this;have e:E4 u hs=((hs.count u:Nat):Int):=by unfold E4;rw [DM];omega
  rw [e] at this;exact this
 .intro q u a;rw [key,OL];have e:E4 u hs=((hs.count u:Nat):Int):=by unfold E4;rw [DM];omega
  rw [e];exact q u a
def aKe(l G:ax):aFX l G=KZ G l:=by rw [Ig,zV];unfold aFX inB;simp [Ga]
def aOs(c:Con)(free:a8)(g:Gan)(l:ax)(hl:(l.length:Int)=g.pods):(plB free g.need [] l&&(gpL c g.lev).any (aFX l))=uQ c free g l:=by
 unfold uQ;rw [if_pos hl];have e:plB free g.need [] l=IL free g.need l:=by rw [Ig,Z8,MM];rfl
 rw [e,Ig,Af,Ga,Ga];unfold chkG;simp only [aKe,Af];constructor
 .rintro ⟨a,G,b,d⟩;exact ⟨G,b,d,a⟩
 .rintro ⟨G,b,d,a⟩;exact ⟨a,G,b,d⟩
def aM8(c:Con)(i:c.sm)(free:a8)(g:Gan)(l:ax)(hl:l.length<=1048576):aq 265 [c.av,.slice 3 (vav free) .no,g.av,.slice 1 (iv l) .no] [] (.ret (.bool (uQ c free g l))) []:=by
 have a:(iv l).length=l.length:=by simp
 by_cases h1:(l.length:Int)=g.pods
 .have b:=aET c i free g l hl _ rfl (uQ c free g l) l.length 0 [] o_ (λ h=>by simp [cG]) (aOs c free g l h1);have d:((((iv l).length:Nat):Int) !=g.pods)=false:=by rw [a];simp [h1]
  generalize uQ c free g l=r at b;refine c_ Tryz.f265 λ_=>?_;refine dF hE 16 ?_;conv=>whnf
  refine To.frz [4,6,7] [0,1,2] ?_
  repeat' first | (refine gN hE ?_;conv=>whnf) | refine Ae (λ h=>absurd h (by rw [d];decide)) (λ h=>?_) | exact rfl | refine zt ?_ | refine zu ?_ ?_ | intro h | fail
  refine To.part [1,4,6,7,9,18,19,20] [3] rfl rfl rfl ?_;exact b
 .have d:((((iv l).length:Nat):Int) !=g.pods)=true:=by rw [a];simp [h1]
  have e:uQ c free g l=false:=if_neg h1;rw [e];refine c_ Tryz.f265 λ_=>?_;refine dF hE 16 ?_;conv=>whnf
  refine To.frz [4,6,7] [0,1,2] ?_;exact zW
abbrev itP(p:Pn):aa:=.iface 47 p.av
abbrev itR(r:Rn):aa:=.iface 107 r.av
abbrev aJY(l:a7):ay:=l.map itP
abbrev aCb(l:a6):ay:=l.map itR
noncomputable abbrev aAT:Func:=Tryz.f220
abbrev alO(s:Sta):au:=[.cells 31 s.cs,.tail 0 1 20]
def aLE(s:Sta)(j:s.run.length<=1000000)(l:ay)(R:ay):∀ (m i:Nat) (a:ay),i+m=s.run.length->a.length<=1000000+i->a++aCb (s.run.drop i)=R->
  To (Eo [3] []) aAT (.pure (.ret (.slice 1 R .no))) (.head (stk aAT 1) [(1,.ref 0 0),(3,.slice 1 a (.own 1 0)),(22,.slice 14 (rav s.run) .no),(23,.int .i64 ((rav s.run).length:Nat)),(24,ii i)] (alO s)):=by
 have d:(rav s.run).length=s.run.length:=by simp
 intro m;induction m with
 | zero=>
  intro i a e g b;rw [Ab o_] at b;have b:a++[]=R:=b;rw [Ar] at b;subst b;refine gV ?_;exact zW
 | succ m f=>
  intro i a e g b;have c:i<s.run.length:=o_;rw [Aa c] at b;have get:=cF c;generalize s.run[i]=x at b get;have next:=f (i+1) (a++[itR x]) o_ q_ (by rw [Ag];exact b)
  refine gV ?_;refine aT λ h=>?_
  repeat' first | (refine gN (hEo [3] []) ?_;conv=>whnf) | refine ⟨i,rfl,?_⟩ | refine ⟨_,get,?_⟩ | refine Ae (Ae (show a.length+1<=maxLen by simp only [maxLen];omega) (show (a.length+1)*16<=140737488355328 by omega)) ?_ | exact rfl | refine zt ?_ | refine zu ?_ ?_ | intro h | fail
  exact zW
def aLF(s:Sta)(hp:s.pend.length<=1000000)(f:s.run.length<=1000000)(R:ay):∀ (m i:Nat) (a:ay),i+m=s.pend.length->a.length<=i->(a++aJY (s.pend.drop i))++aCb s.run=R->
  To (Eo [3] []) aAT (.pure (.ret (.slice 1 R .no))) (.head (stk aAT 0) [(1,.ref 0 0),(3,.slice 1 a (.own 1 0)),(9,.slice 11 (pnv s.pend) .no),(10,.int .i64 ((pnv s.pend).length:Nat)),(11,ii i)] (alO s)):=by
 have d:(pnv s.pend).length=s.pend.length:=by simp
 intro m;induction m with
 | zero=>
  intro i a e j b;rw [Ab o_] at b;have b:(a++[])++aCb s.run=R:=b;rw [Ar] at b;have next:=aLE s f [] R s.run.length 0 a o_ o_ b
  refine gV ?_;exact zW
 | succ m g=>
  intro i a e j b;have c:i<s.pend.length:=o_;rw [Aa c] at b;have get:=OK c;generalize s.pend[i]=x at b get;have next:=g (i+1) (a++[itP x]) o_ q_ (by rw [Ag a];exact b)
  refine gV ?_;refine aT λ h=>?_
  repeat' first | (refine gN (hEo [3] []) ?_;conv=>whnf) | refine ⟨i,rfl,?_⟩ | refine ⟨_,get,?_⟩ | refine Ae (Ae (show a.length+1<=maxLen by simp only [maxLen];omega) (show (a.length+1)*16<=140737488355328 by omega)) ?_ | exact rfl | refine zt ?_ | refine zu ?_ ?_ | intro h | fail
  exact zW
def aIH(s:Sta)(hp:s.pend.length<=1000000)(a:s.run.length<=1000000):aq 220 [s.av] [] (.ret (.slice 1 (aJY s.pend++aCb s.run) .no)) []:=by
 have next:=aLF s hp a (aJY s.pend++aCb s.run) s.pend.length 0 [] o_ s_ rfl
 refine cT (E:=(Eo [3] [])) (fn:=Tryz.f220) (g:=.pure _) λ_=>?_;exact zW
def Y1(p:Pn):aq 221 [itP p] [] (.ret (.tup [p.av,.bool true])) []:=by exact c_ Tryz.f221 λ_=>zW
def Y0(r:Rn):aq 221 [itR r] [] (.ret (.tup [r.pn.av,.bool true])) []:=by exact c_ Tryz.f221 λ_=>zW
def aMe(l:a6)(id:Int):aH l [id]=l.filter λ x=>!(x.g.id==id):=by unfold aH;congr 1;funext x;simp [inB]
def aFU{l:List Hos}{n:Int}(a:0<=n)(h1:n<(l.length:Int)):(hav l)[n.toNat]? =some (bQ l n).av:=by have h:n.toNat<l.length:=o_;unfold bQ;rw [Bi,Ac h];rfl
def aCR{c:Con}{free:a8}{g:Gan}{l:ax}(e:free.length=c.hs.length)(hp:1<=g.pods)(h:uQ c free g l=true):(iv l)[0]? =some (ii (l.headD 0))/\0<=l.headD 0/\l.headD 0<(c.hs.length:Int):=by
 unfold uQ at h;by_cases hl:(l.length:Int)=g.pods
 .rw [if_pos hl] at h;cases l with
  | nil=>simp at hl;omega
  | cons u r=>
   rw [Ga] at h;obtain ⟨G,d,b⟩:=h;unfold chkG at b;rw [Af] at b;have a:=MM.1 b.2 u (Ao ..);refine ⟨rfl,a.1,?_⟩;have:=a.2.1;show u<_;omega
 .rw [if_neg hl] at h;cases h
noncomputable abbrev aPF:Func:=Tryz.f222
def rnO(s:Sta)(r:Rn):au:=[.cells 31 s.cs,.cells 107 r.cs]
def aMS(s:Sta)(r:Rn):au:=[.fcells s.cs,.fcells r.cs]
def aMR(s:Sta)(r:Rn):aj [0,1] (rnO s r)=aMS s r:=by kernel_rfl
def aIT(s:Sta)(r:Rn):BI [2,3] (aB (aMS s r)) [(2,.ref 0 0),(3,.ref 1 0)]=[(2,.ptr s.cs),(3,.ptr r.cs)]:=by kernel_rfl
def ZX{g:Goal}{ks:bh}(s:Sta)(r:Rn)(h:To E aPF g (.code ks [(2,.ptr s.cs),(3,.ptr r.cs)] (aMS s r))):To E aPF g (.code ks [(2,.ref 0 0),(3,.ref 1 0)] (rnO s r)):=by refine To.frz [2,3] [0,1] ?_;rw [aMR,aIT];exact h
def aD8(s:Sta)(r:Rn)(W:a6)(F:a8)(i:Int)(k:Bool)(b:Bool)
  (h1:aq 58 [r.av] [] (.ret (ii i)) [])
  (d:aq 108 [.slice 14 (rav s.run) .no,.slice 1 (iv [r.g.id]) .no] [] (.ret (.slice 14 (rav W) .no)) [])
  (h3:aq 57 [s.c.av,.slice 14 (rav W) .no] [] (.ret (.slice 3 (vav F) .no)) [])
  (l:aq 265 [s.c.av,.slice 3 (vav F) .no,r.g.av,.slice 1 (iv r.hs) .no] [] (.ret (.bool k)) [])
  (n:k=true->(iv r.hs)[0]? =some (ii (r.hs.headD 0))/\0<=r.hs.headD 0/\(hav s.c.hs)[(r.hs.headD 0).toNat]? =some (bQ s.c.hs (r.hs.headD 0)).av)
  (a:(decide ((r.at'<=r.st/\r.st<=s.now)/\s.now<i)&&(k&&decide ((bQ s.c.hs (r.hs.headD 0)).f=r.fl)))=b):
  aq 222 [s.av,r.av] [] (.ret (.bool b)) []:=by
 have d:aq 108 [.slice 14 (rav s.run) .no,.slice 1 (iv [r.g.id]) .full] [] (.ret (.slice 14 (rav W) .no)) []:=aA.strip d;cases k with
 | true=>
  obtain ⟨m,j,e⟩:=n rfl;generalize r.hs.headD 0=u at m j e a;generalize bQ s.c.hs u=y at e a;refine c_ Tryz.f222 λ_=>?_;refine dF hE 13 ?_;conv=>whnf
  refine To.cutC [2,3] 2 rfl rfl rfl rfl ?_;refine ZX s r ?_
  repeat' first | (refine gN hE ?_;conv=>whnf) | refine .pure _ [] h1 ?_ | refine .pure _ [] d ?_ | refine .pure _ [] h3 ?_ | refine .pure _ [] l ?_ | refine ⟨0,rfl,?_⟩ | refine ⟨_,m,?_⟩ | refine Aq u.toNat (Ae (by simp only [Ld j]) ?_) | refine ⟨_,e,?_⟩ | exact rfl | refine zt ?_ | refine zu ?_ ?_ | intro h | fail
  all_goals
   exact zqca20
 | false=>
  refine c_ Tryz.f222 λ_=>?_;refine dF hE 13 ?_;conv=>whnf
  refine To.cutC [2,3] 2 rfl rfl rfl rfl ?_;refine ZX s r ?_
  repeat' first | (refine gN hE ?_;conv=>whnf) | refine .pure _ [] h1 ?_ | refine .pure _ [] d ?_ | refine .pure _ [] h3 ?_ | refine .pure _ [] l ?_ | exact rfl | refine zt ?_ | refine zu ?_ ?_ | intro h | fail
  all_goals
   exact zqca20
def aIJ(s:Sta)(b:s.c.sm)(hs:Sm s.run)(r:Rn)(hp:1<=r.g.pods)(e:r.hs.length<=1048576):aq 222 [s.av,r.av] [] (.ret (.bool (rnB s r))) []:=by
 have h:=sP hs [r.g.id];have i:=sQ s.run hs [r.g.id] s_;have h3:=aAH s.c b (aH s.run [r.g.id]) h;have l:=BJ s.c (aH s.run [r.g.id]);have j:=aM8 s.c b (lT s.c (aH s.run [r.g.id])) r.g r.hs e;refine aD8 s r _ _ _ _ _ (I0 r) i h3 j (λ k=>?_) ?_
 .obtain ⟨d,a,m⟩:=aCR l hp k;exact ⟨d,a,aFU a m⟩
 .rw [aMe];rfl
noncomputable abbrev uO:Func:=Tryz.f146
def aLJ(es:List (ax×aa))(l:ax):Prop:=∀ h:Int,cG es [h]=if l.contains h=true then some (.bool true) else none
def SV{es:List (ax×aa)}{l:ax}(hm:aLJ es l)(h:Int):aLJ (oJ es [h] (.bool true)) (h::l):=λ x=>by
 rw [OZ,List.contains_cons];by_cases a:h=x
 .subst a;simp
 .have b:(x==h)=false:=by simp;exact λ q=>a q.symm
  rw [if_neg (by simpa using a),hm x,b,Nh]
def ggO(s:Sta):au:=[.cells 31 s.cs]
def aNL(s:Sta):au:=[.fcells s.cs]
def aNK(s:Sta):aj [0] (ggO s)=aNL s:=by kernel_rfl
def aKi(s:Sta):BI [1] (aB (aNL s)) [(1,.ref 0 0)]=[(1,.ptr s.cs)]:=by kernel_rfl
def aKg{g:Goal}{ks:bh}(s:Sta)(h:To (Er [] [64,65,66]) uO g (.code ks [(1,.ptr s.cs)] (aNL s))):To (Er [] [64,65,66]) uO g (.code ks [(1,.ref 0 0)] (ggO s)):=by refine To.frz [1] [0] ?_;rw [aNK,aKi];exact h
abbrev ggF(s:Sta)(xs:ay)(i:Int):ar:=[(1,.ptr s.cs),(3,.mref 0),(4,.mref 1),(14,.slice 1 xs .no),(15,.int .i64 (xs.length:Nat)),(16,ii i)]
def gbF(s:Sta)(xs:ay)(i:Int)(x:aa):ar:=[(1,.ptr s.cs),(3,.mref 0),(4,.mref 1),(6,x),(7,.ref 2 0),(14,.slice 1 xs .no),(15,.int .i64 (xs.length:Nat)),(16,ii i)]
def aPs(s:Sta)(xs:ay)(i:Int)(x:aa)(p:Pn):ar:=[(1,.ptr s.cs),(3,.mref 0),(4,.mref 1),(6,x),(7,.ptr p.cs),(14,.slice 1 xs .no),(15,.int .i64 (xs.length:Nat)),(16,ii i)]
abbrev Ent:Type:=List (ax×aa)
def gbO(a b:Ent)(p:Pn):au:=[.mp false a,.mp false b,.cells 47 p.cs]
def aNR(a b:Ent)(p:Pn):au:=[.mp false a,.mp false b,.fcells p.cs]
def aNQ(a b:Ent)(p:Pn):aj [2] (gbO a b p)=aNR a b p:=by kernel_rfl
def aKk(s:Sta)(xs:ay)(i:Int)(x:aa)(a b:Ent)(p:Pn):BI [7] (aB (aNR a b p)) (gbF s xs i x)=aPs s xs i x p:=by kernel_rfl
def xI{g:Goal}{ks:bh}{s:Sta}{xs:ay}{i:Int}{x:aa}{a b:Ent}(p:Pn)(h:To (Er [] [64,65,66]) uO g (.code ks (aPs s xs i x p) (aNR a b p))):To (Er [] [64,65,66]) uO g (.code ks (gbF s xs i x) (gbO a b p)):=by refine To.frz [7] [2] ?_;rw [aNQ,aKk];exact h
def gcB(s:Sta)(p:Pn)(b a:Bool)(G:Int)(N Q:Bool):Bool:=!b&&(!a&&(decide ((0<=p.seq/\p.seq<s.nxt)/\0<=p.at'/\p.at'<=s.now)&&(decide (G=0)&&(!N&&Q))))
def ggP(s:Sta)(xs:ay)(n:xs.length<=1048576)(i:Nat)(t:i<xs.length)(p:Pn)(get:xs[i]? =some (itP p))(e j:Ent)(m:cG e [p.g.id]=none)(l:cG j [p.seq]=none)(G:Int)(N b:Bool)
  (k:aq 204 [s.c.av,p.g.av] [] (.ret (ii G)) []) (o:G=0->aq 207 [s.c.av,p.g.av] [] (.ret (.bool N)) [])
  (d:gcB s p false false G N true=false->b=false)
  (a:gcB s p false false G N true=true->To (Er [] [64,65,66]) uO (.pure (.ret (.bool b))) (.head (stk uO 0) (ggF s xs ((i:Int)+1)) [.mp false (oJ e [p.g.id] (.bool true)),.mp false (oJ j [p.seq] (.bool true))])):
  To (Er [] [64,65,66]) uO (.pure (.ret (.bool b))) (.head (stk uO 0) (ggF s xs (i:Int)) [.mp false e,.mp false j]):=by
 have r:=Y1 p;cases N<;>skip
 all_goals
  refine gV ?_;refine aT λ h=>gV ?_;refine ⟨i,rfl,gV ?_⟩;refine ⟨_,get,gV ?_⟩;refine .pure _ [] r ?_;refine dF (hEr [] [64,65,66]) 20 ?_;conv=>whnf
  refine To.cutC [1,3,4,6,7,14,15,16] 3 rfl rfl rfl rfl ?_;refine xI p ?_
  repeat' first | (refine gN (hEr [] [64,65,66]) ?_;conv=>whnf) | refine ⟨_,m,?_⟩ | refine ⟨_,l,?_⟩ | refine .pure _ [] k ?_ | refine .pure _ [] (o (by simpa using ‹(G !=0)=false›)) ?_ | exact rfl | refine zt ?_ | refine zu ?_ ?_ | intro h | fail
  all_goals (try (
   refine congrArg (λ q=>Res.ret (aa.bool q)) (d ?_).symm;clear d a;simp only [decide_eq_true_eq,decide_eq_false_iff_not,bne_iff_ne,ne_eq,bne_eq_false_iff_eq,Fs] at *
   simp [gcB]
   try omega))
  all_goals
   exact zqca19
def ggR(s:Sta)(xs:ay)(t:xs.length<=1048576)(i:Nat)(v:i<xs.length)(r:Rn)(p:Pn)(hp:r.pn=p)(get:xs[i]? =some (itR r))(e j:Ent)(o:cG e [p.g.id]=none)(n:cG j [p.seq]=none)(G:Int)(N Q b:Bool)
  (m:aq 204 [s.c.av,p.g.av] [] (.ret (ii G)) []) (u:G=0->aq 207 [s.c.av,p.g.av] [] (.ret (.bool N)) [])
  (l:G=0->aq 222 [s.av,r.av] [] (.ret (.bool Q)) [])
  (d:gcB s p false false G N Q=false->b=false)
  (a:gcB s p false false G N Q=true->To (Er [] [64,65,66]) uO (.pure (.ret (.bool b))) (.head (stk uO 0) (ggF s xs ((i:Int)+1)) [.mp false (oJ e [p.g.id] (.bool true)),.mp false (oJ j [p.seq] (.bool true))])):
  To (Er [] [64,65,66]) uO (.pure (.ret (.bool b))) (.head (stk uO 0) (ggF s xs (i:Int)) [.mp false e,.mp false j]):=by
 have k:=Y0 r;rw [hp] at k;cases N<;>cases Q
 all_goals
  refine gV ?_;refine aT λ h=>gV ?_;refine ⟨i,rfl,gV ?_⟩;refine ⟨_,get,gV ?_⟩;refine .pure _ [] k ?_;refine dF (hEr [] [64,65,66]) 20 ?_;conv=>whnf
  refine To.cutC [1,3,4,6,7,14,15,16] 3 rfl rfl rfl rfl ?_;refine xI p ?_
  repeat' first | (refine gN (hEr [] [64,65,66]) ?_;conv=>whnf) | refine ⟨_,o,?_⟩ | refine ⟨_,n,?_⟩ | refine .pure _ [] m ?_ | refine .pure _ [] (u (by simpa using ‹(G !=0)=false›)) ?_ | refine .pure _ [] (l (by simpa using ‹(G !=0)=false›)) ?_ | exact rfl | refine zt ?_ | refine zu ?_ ?_ | intro h | fail
  all_goals (try (
   refine congrArg (λ q=>Res.ret (aa.bool q)) (d ?_).symm;clear d a;simp only [decide_eq_true_eq,decide_eq_false_iff_not,bne_iff_ne,ne_eq,bne_eq_false_iff_eq,Fs] at *
   simp [gcB]
   try omega))
  all_goals
   exact zqca19
def aPq(s:Sta)(xs:ay)(e:xs.length<=1048576)(i:Nat)(f:i<xs.length)(p:Pn)(get:xs[i]? =some (itP p))(a b:Ent)(m:cG a [p.g.id]=some (.bool true)\/cG a [p.g.id]=none/\cG b [p.seq]=some (.bool true)):
  To (Er [] [64,65,66]) uO (.pure (.ret (.bool false))) (.head (stk uO 0) (ggF s xs (i:Int)) [.mp false a,.mp false b]):=by
 have c:=Y1 p;rcases m with d | ⟨d,j⟩
 .exact zqca2
 .exact zqca2
def aPp(s:Sta)(xs:ay)(e:xs.length<=1048576)(i:Nat)(f:i<xs.length)(r:Rn)(p:Pn)(hp:r.pn=p)(get:xs[i]? =some (itR r))(a b:Ent)(m:cG a [p.g.id]=some (.bool true)\/cG a [p.g.id]=none/\cG b [p.seq]=some (.bool true)):
  To (Er [] [64,65,66]) uO (.pure (.ret (.bool false))) (.head (stk uO 0) (ggF s xs (i:Int)) [.mp false a,.mp false b]):=by
 have c:=Y0 r;rw [hp] at c;rcases m with d | ⟨d,j⟩
 .exact zqca2
 .exact zqca2
inductive It where
 | p (x:Pn)
 | r (x:Rn)
def It.av:It->aa
 | .p x=>itP x
 | .r x=>itR x
def It.pn:It->Pn
 | .p x=>x
 | .r x=>x.pn
def It.q(s:Sta):It->Bool
 | .p _=>true
 | .r x=>rnB s x
def It.sm:It->Prop
 | .p _=>True
 | .r x=>x.hs.length<=1048576
def gaB(s:Sta):ax->ax->List It->Bool
 | _,_,[]=>true
 | a,b,x::l=>gcB s x.pn (a.contains x.pn.g.id) (b.contains x.pn.seq) (fU s.c x.pn.g) (bM s.c [] x.pn.g).isNone (x.q s)&&gaB s (x.pn.g.id::a) (x.pn.seq::b) l
def yX{c:Con}{g:Gan}(h:fU c g=0):1<=g.pods/\g.pods<=16:=by obtain ⟨h1,_⟩:=rY.1 h;unfold P6 at h1;rw [Af] at h1;have:=of_decide_eq_true h1.1;omega
def aKh(s:Sta)(y:s.c.sm)(hs:Sm s.run)(l:List It)(hl:l.length<=1048576)(u:∀ x∈l,x.sm)(b:Bool):∀ (m i:Nat) (a d:Ent) (f j:ax),i+m=l.length->aLJ a f->aLJ d j->gaB s f j (l.drop i)=b->
  To (Er [] [64,65,66]) uO (.pure (.ret (.bool b))) (.head (stk uO 0) (ggF s (l.map It.av) (i:Int)) [.mp false a,.mp false d]):=by
 have F:(l.map It.av).length=l.length:=by simp
 intro m;induction m with
 | zero=>
  intro i a d f j H h1 v e;rw [Ab o_] at e;have e:true=b:=e;subst e;refine gV ?_;exact zW
 | succ m w=>
  intro i a d f j H h1 v e;have n:i<l.length:=o_;rw [Aa n] at e;have get:(l.map It.av)[i]? =some (l[i].av):=by simp [n]
  have z:=u l[i] (Ax n);have w:=λ a d f j=>w (i+1) a d f j o_;generalize l[i]=x at e get z;have e:(gcB s x.pn (f.contains x.pn.g.id) (j.contains x.pn.seq) (fU s.c x.pn.g) (bM s.c [] x.pn.g).isNone (x.q s)&&gaB s (x.pn.g.id::f) (x.pn.seq::j) (l.drop (i+1)))=b:=e;have k:=h1 x.pn.g.id;have t:=v x.pn.seq;have next:=w _ _ (x.pn.g.id::f) (x.pn.seq::j) (SV h1 x.pn.g.id) (SV v x.pn.seq)
  generalize gaB s (x.pn.g.id::f) (x.pn.seq::j) (l.drop (i+1))=R at e next
  cases B:f.contains x.pn.g.id with
  | true=>
   rw [B] at e k;have e:false=b:=by rw [<-e];rfl
   subst e;cases x with
   | p x=>exact aPq s _ o_ i o_ x get a d (.inl k)
   | r x=>exact aPp s _ o_ i o_ x x.pn rfl get a d (.inl k)
  | false=>
   rw [B] at e k;cases C:j.contains x.pn.seq with
   | true=>
    rw [C] at e t;have e:false=b:=by rw [<-e];rfl
    subst e;cases x with
    | p x=>exact aPq s _ o_ i o_ x get a d (.inr ⟨k,t⟩)
    | r x=>exact aPp s _ o_ i o_ x x.pn rfl get a d (.inr ⟨k,t⟩)
   | false=>
    rw [C] at e t;have A:=Q3 s.c x.pn.g;have D:=λ h:fU s.c x.pn.g=0=>SQ s.c y x.pn.g (by have:=yX h;omega);cases x with
    | p x=>
     refine ggP s _ o_ i o_ x get a d k t _ _ b A D (λ o=>?_) (λ o=>?_)
     .exact e.symm.trans (congrArg (λ q:Bool=>q&&R) o)
     .exact next ((congrArg (λ q:Bool=>q&&R) o).symm.trans e)
    | r x=>
     have G:=λ h:fU s.c x.pn.g=0=>aIJ s y hs x (yX (g:=x.g) h).1 z;refine ggR s _ o_ i o_ x x.pn rfl get a d k t _ _ _ b A D G (λ o=>?_) (λ o=>?_)
     .exact e.symm.trans (congrArg (λ q:Bool=>q&&R) o)
     .exact next ((congrArg (λ q:Bool=>q&&R) o).symm.trans e)
def uM(s:Sta):List It:=s.pend.map It.p++s.run.map It.r
def aNA(s:Sta):(uM s).map It.av=aJY s.pend++aCb s.run:=by unfold uM;rw [Bq,Ef,Ef];rfl
def aF6(s:Sta)(i:s.c.sm)(hp:s.pend.length<=1000)(k:s.run.length<=1000)(hs:Sm s.run):aq 146 [s.av] [] (.ret (.bool (gaB s [] [] (uM s)))) []:=by
 have d:=aIH s o_ o_;rw [<-aNA] at d;have e:(uM s).length<=2000:=by unfold uM;simp;omega
 have next:=aKh s i hs (uM s) o_ (λ x a=>by
  unfold uM at a;rw [Bd,Ce,Ce] at a;rcases a with ⟨y,_,rfl⟩ | ⟨y,j,rfl⟩
  .trivial
  .exact hs.2 y j) _ (uM s).length 0 [] [] [] [] o_ (λ h=>rfl) (λ h=>rfl) rfl
 rw [Ap] at next
 generalize (uM s).map It.av=xs at d next
 generalize gaB s [] [] (uM s)=b at next
 refine cT (E:=(Er [] [64,65,66])) (fn:=Tryz.f146) (g:=.pure _) λ_=>?_;refine dF (hEr [] [64,65,66]) 10 ?_;conv=>whnf
 refine To.cutC [1] 1 rfl rfl rfl rfl ?_;refine aKg s ?_
 repeat' first | (refine gN (hEr [] [64,65,66]) ?_;conv=>whnf) | refine .pure _ [] d ?_ | exact rfl | refine zt ?_ | refine zu ?_ ?_ | intro h | fail
 refine To.part [1,3,4,14,15,16] [1,2] rfl rfl rfl ?_;exact next
def aNP(s:Sta)(p:Pn)(q e d:Bool):gcB s p e d (fU s.c p.g) (bM s.c [] p.g).isNone q=(!e&&(!d&&(pnB s p&&q))):=by unfold gcB pnB;generalize decide (fU s.c p.g=0)=a;generalize (bM s.c [] p.g).isNone=b;generalize decide ((0<=p.seq/\p.seq<s.nxt)/\0<=p.at'/\p.at'<=s.now)=c;cases e<;>cases d<;>cases a<;>cases b<;>cases c<;>cases q<;>rfl
def aAG(s:Sta):∀ (l:List It) (a b:ax),gaB s a b l=true↔(∀ x∈l,(pnB s x.pn&&x.q s)=true)/\((l.map λ x=>x.pn.g.id).Nodup/\∀ x∈l,x.pn.g.id∉a)/\((l.map λ x=>x.pn.seq).Nodup/\∀ x∈l,x.pn.seq∉b)
 | [],a,b=>by simp [gaB]
 | x::r,a,b=>by
  unfold gaB;rw [aNP,Af,aAG s r];simp only [Af,Df,List.contains_eq_mem,decide_eq_false_iff_not,Bj,Cl,Aw,forall_eq_or_imp,not_or,Ce,not_exists,not_and];constructor
  .rintro ⟨⟨h1,i,h3⟩,j,⟨h,d⟩,m,f⟩;exact ⟨⟨h3,j⟩,⟨⟨λ y c e=>(d y c).1 e,h⟩,h1,λ y c=>(d y c).2⟩,⟨λ y c e=>(f y c).1 e,m⟩,i,λ y c=>(f y c).2⟩
  .rintro ⟨⟨h3,j⟩,⟨⟨d,h⟩,h1,n⟩,⟨f,m⟩,i,k⟩;exact ⟨⟨h1,i,h3⟩,j,⟨h,λ y c=>⟨λ e=>d y c e,n y c⟩⟩,m,λ y c=>⟨λ e=>f y c e,k y c⟩⟩
def aNS(s:Sta):gaB s [] [] (uM s)=((s.pend.all (pnB s)&&s.run.all λ r=>pnB s r.pn&&rnB s r)&&(decide (ids s).Nodup&&decide (seqs s).Nodup)):=by
 rw [Ig,aAG];have c:((uM s).map λ x=>x.pn.g.id)=ids s:=by unfold uM ids;rw [Bq,Ef,Ef];rfl
 have f:((uM s).map λ x=>x.pn.seq)=seqs s:=by unfold uM seqs;rw [Bq,Ef,Ef];rfl
 rw [c,f];simp only [Hu,not_false_eq_true,implies_true,and_true,Af,decide_eq_true_eq,Cb];have d:(∀ x∈uM s,pnB s x.pn=true/\x.q s=true)↔(∀ x∈s.pend,pnB s x=true)/\∀ x∈s.run,pnB s x.pn=true/\rnB s x=true:=by
  unfold uM;constructor
  .intro h;exact ⟨λ x a=>(h (.p x) (Cf _ (Cq a))).1,λ x a=>h (.r x) (Ct _ (Cq a))⟩
  .rintro ⟨h1,e⟩ x a;rw [Bd,Ce,Ce] at a;rcases a with ⟨y,b,rfl⟩ | ⟨y,b,rfl⟩
   .exact ⟨h1 y b,rfl⟩
   .exact e y b
 rw [d]
noncomputable abbrev aKw:Func:=Tryz.f147
def quO(s:Sta):au:=[.cells 31 s.cs]
def aM2(s:Sta):au:=[.fcells s.cs]
def aM1(s:Sta):aj [0] (quO s)=aM2 s:=by kernel_rfl
def aI6(s:Sta):BI [1] (aB (aM2 s)) [(1,.ref 0 0)]=[(1,.ptr s.cs)]:=by kernel_rfl
def aI4{g:Goal}{ks:bh}(s:Sta)(h:To E aKw g (.code ks [(1,.ptr s.cs)] (aM2 s))):To E aKw g (.code ks [(1,.ref 0 0)] (quO s)):=by refine To.frz [1] [0] ?_;rw [aM1,aI6];exact h
def aI5(s:Sta)(g:s.c.sm)(U:a8)(t:U.length=s.c.ns.length)(k:∀ i:Nat,i<U.length->(vav U)[i]? =some (atV U (i:Int)).av)(b:Bool):∀ (m i:Nat),i+m=U.length->((Iu i m).all λ i:Nat=>dC (atV U (i:Int)) (tZ s.c (i:Int)))=b->
  To E aKw (.pure (.ret (.bool b))) (.head (stk aKw 0) [(1,.ptr s.cs),(10,.slice 3 (vav U) .no),(11,.int .i64 ((vav U).length:Nat)),(12,ii (i:Int))] []):=by
 have j:(vav U).length=U.length:=by simp
 have h1:=g.ns;intro m;induction m with
 | zero=>
  intro i l a;have a:true=b:=a;subst a;refine gV ?_;exact zW
 | succ m q=>
  intro i l a;have f:i<U.length:=o_;have a:(dC (atV U (i:Int)) (tZ s.c (i:Int))&&((Iu (i+1) m).all λ i:Nat=>dC (atV U (i:Int)) (tZ s.c (i:Int))))=b:=a;have next:=q (i+1) o_
  generalize ((Iu (i+1) m).all λ i:Nat=>dC (atV U (i:Int)) (tZ s.c (i:Int)))=R at a next
  have get:=k i f;have p:=A3 (c:=s.c) (n:=(i:Int)) ⟨by omega,by omega⟩;have o:=aFa s.c g (i:Int);have hl:=mQ s.c (i:Int);unfold tZ at a;generalize atV U (i:Int)=u at a get;generalize cZ s.c.ns (i:Int)=y at a p;generalize lY s.c.ns (i:Int) (uJ s.c.ns)=v at a o;cases h:bL s.c.ns (i:Int) with
  | true=>
   rw [h] at a hl;have r:=kQ v y.b;have a:(dC u (fK v y.b)&&R)=b:=a;generalize fK v y.b=w at r a;have d:=zY u w;cases e:dC u w with
   | true=>
    rw [e] at a d;have next:=next a
    refine gV ?_;exact zW
   | false=>
    exact zqca40
  | false=>
   rw [h] at a hl;have a:(dC u v&&R)=b:=a;have d:=zY u v;cases e:dC u v with
   | true=>
    rw [e] at a d;have next:=next a
    refine gV ?_;exact zW
   | false=>
    exact zqca40
def aE8(c:Con)(l:a6):(ofL c l).length=c.ns.length:=by unfold ofL pJ;simp
def aBR(s:Sta)(a:s.c.sm)(d:s.run.length<=1048576):aq 147 [s.av] [] (.ret (.bool (RT s))) []:=by
 have h:=SG s.c a s.run d;have b:=aE8 s.c s.run
 have next:=aI5 s a (ofL s.c s.run) b (λ i j=>by
  have:=aH0 (c:=s.c) (l:=s.run) (n:=(i:Int)) ⟨by omega,by omega⟩;rw [Br] at this
  exact this) _ (ofL s.c s.run).length 0 o_ rfl
 have e:((Iu 0 (ofL s.c s.run).length).all λ i:Nat=>dC (atV (ofL s.c s.run) (i:Int)) (tZ s.c (i:Int)))=RT s:=by unfold RT;rw [b,Iv]
 rw [e] at next
 generalize RT s=q at next
 generalize ofL s.c s.run=U at h next
 refine c_ Tryz.f147 λ_=>?_;refine dF hE 10 ?_;conv=>whnf
 refine To.cutC [1] 1 rfl rfl rfl rfl ?_;refine aI4 s ?_;exact zW
def HZ(s:Sta):Prop:=(0<=s.now/\s.now<=1099511627776)/\(1<=s.nxt/\s.nxt<=1099511627776)/\s.hist.length=s.c.ns.length/\s.pend.length+s.run.length<=32
instance (s:Sta):Decidable (HZ s):=by unfold HZ;infer_instance
def VT(s:Sta)(e:Bool)(k:Int)(q g u:Bool)(b:Int)
  (t:aq 143 [s.c.av] [] (.ret (.bool e)) [])
  (l:aq 144 [s.c.av] [] (.ret (ii k)) [])
  (p:s.pend.length+s.run.length<=32->aq 145 [.slice 11 (pnv s.pend) .no] [] (.ret (.bool q)) [])
  (d:s.pend.length+s.run.length<=32->aq 146 [s.av] [] (.ret (.bool g)) [])
  (v:s.pend.length+s.run.length<=32->aq 147 [s.av] [] (.ret (.bool u)) [])
  (o:(if (((e||decide (k=0))&&decide (HZ s))&&(q&&(g&&u)))=true then 0 else 1)=b):
  aq 84 [s.av] [] (.ret (ii b)) []:=by
 have j:(pnv s.pend).length=s.pend.length:=by simp
 have r:(rav s.run).length=s.run.length:=by simp
 have i:(fv s.hist).length=s.hist.length:=by simp
 have m:(nav s.c.ns).length=s.c.ns.length:=by simp
 refine c_ Tryz.f84 λ_=>?_
 repeat' first | (refine gN hE ?_;conv=>whnf) | refine Gl (Ae (Ae (by simp only [dA,decide_eq_true_eq] at *;omega) (by simp only [bN,decide_eq_true_eq] at *;omega)) ?_) | refine .pure _ [] t ?_ | refine .pure _ [] l ?_ | refine .pure _ [] (p (by simp only [decide_eq_true_eq,decide_eq_false_iff_not,Df,Jg] at *;omega)) ?_ | refine .pure _ [] (d (by simp only [decide_eq_true_eq,decide_eq_false_iff_not,Df,Jg] at *;omega)) ?_ | refine .pure _ [] (v (by simp only [decide_eq_true_eq,decide_eq_false_iff_not,Df,Jg] at *;omega)) ?_ | exact rfl | refine zt ?_ | refine zu ?_ ?_ | intro h | fail
 all_goals
  subst o;refine congrArg (λ n=>Res.ret (aa.int .i64 n)) ?_;simp only [decide_eq_true_eq,decide_eq_false_iff_not,Df,Jg,beq_iff_eq,beq_eq_false_iff_ne,ne_eq] at *
  first
  | (exfalso;omega)
  | (by_cases a:HZ s
     .rw [decide_eq_true a];unfold HZ at a
      first
      | (exfalso;omega)
      | simp [*]
     .rw [decide_eq_false a]
      first
      | (exfalso;unfold HZ at a;omega)
      | simp)
def CN(s:Sta)(a:s.c.sm)(hs:Sm s.run):aq 84 [s.av] [] (.ret (ii (if pI s=true then 0 else 1))) []:=by
 refine VT s (iU s.c) (cJ s.c) (aEg s.pend) (gaB s [] [] (uM s)) (RT s) _ (aGG s.c) (wZ s.c a) (λ h=>?_) (λ h=>aF6 s a o_ o_ hs) (λ h=>aBR s a o_) ?_
 .have:=Q2.check_ok (s.pend.map Pn.q) (by rw [Cm];omega);rw [nO] at this;exact this
 .rw [aNS];unfold pI TH HZ;congr 1;simp only [Dd]
end Go.Proofs.YtidhfoefaomodaaGreatDoor
namespace Go.Proofs.YtidhfoefaomodaaGreatDoor.C8
open Go Go.AW Go.Proofs Go.RowKit
set_option maxRecDepth 100000
set_option maxHeartbeats 2000000
abbrev tWr:TypeId:=173
def A8:liesAt Tryz.prog Tryz.prog.depth tWr (2 / Tryz.prog.cellsOf tWr) 0 158 1=true:=by kernel_rfl
def AP:(Tryz.prog.info? 158).map (·.size)=some 2:=by kernel_rfl
def QN:Tryz.prog.underlying 156=some (.pointer 158):=by kernel_rfl
def QM:Tryz.prog.underlying 334=some .unsafePointer:=by kernel_rfl
def TY:Tryz.prog.funcs[225]? =some Tryz.f225:=by kernel_rfl
def iX(b:Nat)(w:World)(h:w.cell? ⟨b,0,none⟩=some (.pointer none))(a:w.shape? b=some (tWr,2))(g:w.frozen? ⟨b,0,none⟩=false):
  Calls Tryz.prog 151 #[.pointer (some ⟨b,0,none⟩)] w λ e w'=>e= .returned (.tuple #[])/\w'=w.setCell ⟨b,0,none⟩ (.pointer (some ⟨b,0,none⟩)):=by
 obtain ⟨j,d,c⟩:=Co.1 AP
 go_enter Tryz.func151,Tryz.ntmps151
 go_wp2
 rw [Lib.run_to_unsafe w ⟨b,0,none⟩ QN QM d (by rw [c];decide) a (Lz 1)];simp only [Ep];rw [Oper.upon_value]
 go_wp2
 rw [run_callFunc_extern TY (by kernel_rfl) (by kernel_rfl) (by kernel_rfl) (e:=Extern.AbiNoEscape.same) (by kernel_rfl)];rw [Lib.run_noEscape];simp only [Ep];rw [Oper.upon_value]
 go_wp2
 rw [Lib.run_from_unsafe w ⟨b,0,none⟩ QM QN d a A8];simp only [Ep];rw [Oper.upon_value]
 go_wp2
 go_end0;exact ⟨rfl,rfl⟩
def aDq:Tryz.prog.underlying 254=some (.pointer 5):=by kernel_rfl
def aHp:Tryz.prog.cellsOf 5=1:=by kernel_rfl
def rC(b g cap:Nat)(p:Value)(a:Array Value)(l:aw)(w:World)(k:w.heap[b]? =some (.cells #[p,.slice (some ⟨g,0,none⟩) l.length cap] tWr (0,0)))(q:w.heap[g]? =some (.cells a 5 (0,0)))(n:l≠[])
  (o:l.length<=cap) (h:cap<=maxLen) (s:a.size=cap) (c:∀ (j:Nat) x,l[j]? =some x->w.cell? ⟨g,j,none⟩=some (.int .u8 x.toNat)):
  Calls Tryz.prog 90 #[.pointer (some ⟨b,0,none⟩)] w λ e w'=>e= .returned (.string ⟨l.toArray⟩)/\NI g l.length w w':=by
 have d:l.length≠0:=by simpa using n
 have y:w.drew.cell? ⟨b,1,none⟩=some (.slice (some ⟨g,0,none⟩) l.length cap):=by exact zqca32
 have u:(Je #[132] 254 #[.slice (some ⟨g,0,none⟩) l.length cap]).run Tryz.prog w.drew= .ok (.pointer (some ⟨g,0,none⟩)) w.drew:=
  Lib.run_unsafeSliceData_row _ _ _ _ _ _ o_
 have v:(Jy #[254,3] 9 #[.pointer (some ⟨g,0,none⟩),.int .i64 l.length]).run Tryz.prog w.drew= .ok (.string ⟨l.toArray⟩) (w.drew.freeze ⟨g,0,none⟩ l.length):=by exact zqca13
 have i:Tryz.prog.follows Departure.mixedOrders=true:=hE.mix
 go_enter Tryz.func90,Tryz.ntmps90
 go_wp2
 go_region_o
 all_goals (go_wp2;go_ret;exact ⟨rfl,W8 d⟩)
def cc_fresh(s:aa):aq 151 [.ref 0 0] [.cells tWr [.nilptr,s]] (.ret (.tup [])) [.cells tWr [.ref 0 0,s]]:=
 qP (λ_ _=>by rfl) iX s
def str_ok(l:aw)(a:l≠[])(p:aa):aq 90 [.ref 0 0] [.cells tWr [p,.slice 1 (l.map ub) (.own 1 0)],.tail 0 1 5] (.ret (.str l)) [.dead,.dead]:=
 oY (λ_ _=>by rfl) rC l a p
open Go Go.AW Go.Proofs
def bB:Nat->Nat->Nat->aw->Option (Nat×Nat)
 | 0,_,_,_=>none
 | _+1,_,_,[]=>none
 | f+1,i,acc,c::r=>if c.toNat<128 then (if c.toNat=0/\0<i then none else some (acc+(c.toNat % 128)*2 ^ (7*i),i+1)) else bB f (i+1) (acc+(c.toNat % 128)*2 ^ (7*i)) r
def dM(l:aw):Option (Nat×Nat):=bB 9 0 0 l
def aPr:Option (Nat×Nat)->aa
 | some (n,k)=>.tup [.int .i64 n,.int .i64 k,.int .i64 0]
 | none=>.tup [.int .i64 0,.int .i64 0,.int .i64 10]
def putN(n:Nat):aw:=if n<128 then [Dj n] else Dj (128+n % 128)::putN (n / 128)
termination_by n
decreasing_by omega
def jX:∀ (f i a:Nat) (l:aw) (n k:Nat),i+f=9->a<2 ^ (7*i)->bB f i a l=some (n,k)->n<2 ^ 63/\i<k/\k<=9/\k<=i+l.length
 | 0,_,_,_,_,_,_,_,h=>by cases h
 | f+1,i,a,[],_,_,_,_,h=>by cases h
 | f+1,i,a,c::r,n,k,hi,ha,h=>by
  have b:a+(c.toNat % 128)*2 ^ (7*i)<2 ^ (7*(i+1)):=by
   have h3:c.toNat % 128<=127:=o_;have e:(c.toNat % 128)*2 ^ (7*i)<=127*2 ^ (7*i):=Cc _ h3;have d:2 ^ (7*(i+1))=128*2 ^ (7*i):=by rw [Gr,Ft];omega
   omega
  simp only [bB] at h;split at h
  .split at h
   .cases h
   .cases h;have:2 ^ (7*(i+1))<=2 ^ 63:=Fg d_ o_;simp only [Ak];omega
  .have:=jX f (i+1) _ r n k o_ b h;simp only [Ak];omega
def RX:∀ (f i a:Nat) (l:aw) (n k:Nat),i+f=9->a<2 ^ (7*i)->bB f i a l=some (n,k)->∃ m,n=a+m*2 ^ (7*i)/\putN m=l.take (k-i)/\(0<i->0<m)
 | 0,_,_,_,_,_,_,_,h=>by cases h
 | f+1,i,a,[],_,_,_,_,h=>by cases h
 | f+1,i,a,c::r,n,k,j,ha,h=>by
  have g:2 ^ (7*(i+1))=128*2 ^ (7*i):=by rw [Gr,Ft];omega
  simp only [bB] at h;split at h
  .rename_i b;split at h
   .cases h
   .rename_i hz;cases h;refine ⟨c.toNat,by rw [Hf b],?_,λ j=>by omega⟩;rw [putN,if_pos b,Gu];simp
  .rename_i b;have d:a+(c.toNat % 128)*2 ^ (7*i)<2 ^ (7*(i+1)):=by have h3:c.toNat % 128<=127:=o_;have s:(c.toNat % 128)*2 ^ (7*i)<=127*2 ^ (7*i):=Cc _ h3;omega
   obtain ⟨m,e,o,p⟩:=RX f (i+1) _ r n k o_ d h;have hm:=p o_;have t:=(jX f (i+1) _ r n k o_ d h).2.1;have q:c.toNat<256:=c.toNat_lt;refine ⟨c.toNat % 128+128*m,?_,?_,λ_=>by omega⟩
   .rw [e,g,Cg];have:m*(128*2 ^ (7*i))=128*m*2 ^ (7*i):=by rw [Nat.mul_left_comm,Ij]
    omega
   .rw [putN,if_neg o_,show (c.toNat % 128+128*m) / 128=m from by omega,show 128+(c.toNat % 128+128*m) % 128=c.toNat from by omega,o,show k-i=(k-(i+1))+1 from by omega];simp
def TM:∀ (f i a n:Nat) (s:aw),i+f=9->n<2 ^ (7*f)->(0<i->0<n)->bB f i a (putN n++s)=some (a+n*2 ^ (7*i),i+(putN n).length)
 | 0,i,a,n,s,_,hn,h0=>by simp at hn;omega
 | f+1,i,a,n,s,hi,hn,h0=>by
  have d:2 ^ (7*(f+1))=128*2 ^ (7*f):=by rw [Gr,Ft];omega
  have b:2 ^ (7*(i+1))=128*2 ^ (7*i):=by rw [Gr,Ft];omega
  rw [putN];by_cases h:n<128
  .have e:(Dj n).toNat=n:=by rw [Hh,Hf o_]
   rw [if_pos h];simp only [Bu,Bp,bB,e,if_pos h,Hf h];rw [if_neg o_];simp
  .have e:(Dj (128+n % 128)).toNat=128+n % 128:=by rw [Hh,Hf o_]
   rw [if_neg h];simp only [Bu,bB,e];rw [if_neg o_,TM f (i+1) _ (n / 128) s o_ o_ (λ_=>by omega)];have c:(128+n % 128) % 128=n % 128:=o_;rw [c,b];have g:n*2 ^ (7*i)=(n % 128)*2 ^ (7*i)+n / 128*(128*2 ^ (7*i)):=by rw [<-Ij,<-Cg];congr 1;omega
   simp only [Ak,Dy,Ha];omega
def aAE{l:aw}{n k:Nat}(h:dM l=some (n,k)):n<2 ^ 63/\0<k/\k<=9/\k<=l.length:=by have:=jX 9 0 0 l n k rfl d_ h;omega
def leN:aw->Nat
 | []=>0
 | c::r=>c.toNat+256*leN r
def O3:∀ (l:aw),leN l<2 ^ (8*l.length)
 | []=>by simp [leN]
 | c::r=>by have:=O3 r;have h:=c.toNat_lt;simp only [leN,Ak,Gr,Ft];omega
def vY:∀ (l:aw) (c:UInt8),leN (l++[c])=leN l+c.toNat*2 ^ (8*l.length)
 | [],c=>by simp [leN]
 | d::r,c=>by
  simp only [Bu,leN,vY r c,Ak,Gr,Ft];have:c.toNat*(2 ^ (8*r.length)*2 ^ (8*1))=256*(c.toNat*2 ^ (8*r.length)):=by rw [<-Ij,Dn]
  omega
def K7{l:aw}{i:Nat}{c:UInt8}(h:l[i]? =some c):l.take (i+1)=l.take i++[c]:=by rw [Jn,h];rfl
def RW(n:Nat):∀ b,n<2 ^ (7*b)->(putN n).length<=b+1:=by
 induction n using Ih with
 | ind n c=>
  intro b a;rw [putN];split
  .simp
  .rename_i h;cases b with
   | zero=>simp at a;omega
   | succ b=>
    have:=c (n / 128) o_ b (by rw [Gr,Ft] at a;omega);simp only [Ak];omega
def aF3(n:Nat)(s:aw)(a:n<2 ^ 63):dM (putN n++s)=some (n,(putN n).length):=by have:=TM 9 0 0 n s rfl o_ (λ h=>by omega);simpa [dM] using this
set_option maxRecDepth 10000
def aEI(n:Nat):∀ (a:aw),a.length+(putN n).length<=100->(n:Int)<=9223372036854775807->
  To (Eo [3] []) Tryz.f150 (.pure (.ret (.str (a++putN n)))) (.head (stk Tryz.f150 0) [(0,.int .i64 n),(3,.slice 1 (a.map ub) (.own 0 0))] [.tail 0 1 5]):=by
 induction n using Ih with
 | ind n i=>
  intro a c j;have e:(n:Int).fdiv (2 ^ Dx 7)=((n / 128:Nat):Int):=by rw [Ei _ d_];simp
  have d:=NJ n;have hp:1<=(putN n).length:=by rw [putN];split<;>simp
  have hl:(a.map ub).length=a.length:=by simp
  refine gV ?_;refine ⟨λ h=>?_,λ h=>?_⟩
  .have h:127<n:=by have:=of_decide_eq_true h;omega
   have g:eG .or .u8 ((n % 256:Nat):Int) 128=((128+n % 128:Nat):Int):=by have:=sD .u8 (n % 256) 128 (by simp only [bN];omega) d_;rw [aNg ⟨n % 256,by omega⟩] at this;simp only at this;rw [show n % 256 % 128=n % 128 from by omega] at this;exact this
   have b:putN n=Dj (128+n % 128)::putN (n / 128):=by rw [putN,if_neg o_]
   refine gV ?_;refine .inr (gV ?_);refine ⟨⟨by simp only [maxLen];simp;omega,by simp;omega⟩,?_⟩;refine gV ?_;refine ⟨⟨by decide,by decide⟩,gV ?_⟩;rw [e,d,g];refine To.part [0,3] [0] rfl rfl rfl ?_;have:=i (n / 128) o_ (a++[Dj (128+n % 128)]) (by rw [b] at c;simp at c⊢;omega) o_;rw [b];rw [Ag,Bq,Bj,QL o_] at this;exact this
  .have h:¬ 127<n:=by have:=of_decide_eq_false h;omega
   have b:putN n=[Dj n]:=by rw [putN,if_pos o_]
   refine gV ?_;refine .inr (gV ?_);refine ⟨⟨by simp only [maxLen];simp;omega,by simp;omega⟩,?_⟩;refine gV ?_;refine ⟨a++[Dj n],?_,by simp;omega,?_⟩
   .rw [d,Hf o_,<-QL o_,Bq];rfl
   refine gV ?_;rw [b]
def put_ok(n:Int):aq 150 [.int .i64 n] [] (.ret (.str (putN n.toNat))) []:=by refine cT (E:=(Eo [3] [])) (fn:=Tryz.f150) (g:=.pure _) λ a=>?_;have b:n<=9223372036854775807:=a.1.2;have:=RW n.toNat 9 o_;have e:max n 0=(n.toNat:Int):=o_;refine gV ?_;rw [e];refine To.head [0,3] ?_;exact aEI n.toNat [] (by simpa using (by omega:(putN n.toNat).length<=100)) o_
def pl:ax->aw
 | []=>[]
 | n::r=>putN n.toNat++pl r
def pl_append(a b:ax):pl (a++b)=pl a++pl b:=by
 induction a with
 | nil=>rfl
 | cons n r c=>simp [pl,c]
def pn_len{n:Int}(h:n<=9223372036854775807):(putN n.toNat).length<=10:=by have:=RW n.toNat 9 o_;omega
def pl_len:∀ {l:ax},(∀ n∈l,n<=9223372036854775807)->(pl l).length<=10*l.length
 | [],_=>by simp [pl]
 | n::r,h=>by have h1:=pn_len (h n s_);have a:=pl_len (l:=r) λ m hm=>h m (by simp [hm]);simp only [pl,Ai,Ak];omega
def aNB{n:Int}(h:pG n=true):0<=n/\n<=1099511627776:=by simpa [pG] using h
def okI_b:∀ {l:ax},okI l=true->∀ n∈l,0<=n/\n<=1099511627776
 | [],_,n,a=>by cases a
 | x::r,h,n,a=>by
  simp only [okI,Af] at h;rcases Aw.1 a with rfl | a
  .exact aNB h.1
  .exact okI_b h.2 n a
def _root_.Go.Proofs.YtidhfoefaomodaaGreatDoor.Gan.il(g:Gan):ax:=[g.id,g.ten,g.pods,g.need.a,g.need.b,g.need.c,g.run,g.lev,g.pref]
def _root_.Go.Proofs.YtidhfoefaomodaaGreatDoor.Nod.il(x:Nod):ax:=[x.p+1,x.w,x.n.a,x.n.b,x.n.c,x.b.a,x.b.b,x.b.c,x.l.a,x.l.b,x.l.c]
def _root_.Go.Proofs.YtidhfoefaomodaaGreatDoor.Hos.il(x:Hos):ax:=[x.f,x.b,x.r,x.c.a,x.c.b,x.c.c]
def nodL:bc->ax
 | []=>[]
 | x::r=>x.il++nodL r
def hosL:List Hos->ax
 | []=>[]
 | x::r=>x.il++hosL r
def _root_.Go.Proofs.YtidhfoefaomodaaGreatDoor.Con.il(c:Con):ax:=[((nav c.ns).length:Int)]++nodL c.ns++([((hav c.hs).length:Int)]++hosL c.hs++[c.half,c.age])
def _root_.Go.Proofs.YtidhfoefaomodaaGreatDoor.Cmd.il(x:Cmd):ax:=x.k::(if x.k==1 then x.c.il else if x.k==2 then x.g.il else if x.k==6 then [] else [x.n])
def aDj{v:V3}(h:okI v.l=true):(0<=v.a/\v.a<=1099511627776)/\(0<=v.b/\v.b<=1099511627776)/\(0<=v.c/\v.c<=1099511627776):=
 ⟨okI_b h _ (by simp [V3.l]),okI_b h _ (by simp [V3.l]),okI_b h _ (by simp [V3.l])⟩
abbrev wrO(bs:aw)(g:Nat):au:=[.cells tWr [.ref 0 0,.slice 1 (bs.map ub) (.own 1 g)],.tail g 1 5]
def P3(xs:ay):aq 151 [.ref 0 0] [.cells tWr [.ref 0 0,.slice 1 xs (.own 1 0)],.tail 0 1 5] (.ret (.tup [])) [.cells tWr [.ref 0 0,.slice 1 xs (.own 1 0)],.tail 0 1 5]:=by
 refine cT (E:=E) (fn:=Tryz.f151) (g:=.full 2 _ _) λ_=>?_
 repeat' first | (refine gN hE ?_;conv=>whnf) | exact rfl | refine zt ?_ | refine zu ?_ ?_ | intro h | fail
 exact zx [0,1]
def zS(s:aw)(hs:s.length<=1000):aq 87 [.ref 0 0,.str s] [.cells tWr [.nilptr,.slice 1 [] .nil]] (.ret (.tup [ii s.length,.nilif])) (wrO s 0):=by exact zqca11
def ws_ok(bs s:aw)(hs:bs.length+s.length<=1000000):aq 87 [.ref 0 0,.str s] (wrO bs 0) (.ret (.tup [ii s.length,.nilif])) (wrO (bs++s) 1):=by exact zqca8
noncomputable abbrev TZ:Func:=Tryz.f95
def CY(l:ax)(hl:((iv l).length:Int)<=9223372036854775807)(t:∀ n∈l,n<=9223372036854775807)(B:aw)(f:Nat)(o:10*l.length<=1000):∀ (n i g:Nat) (bs:aw),i+n=l.length->(g=0\/g=1)->(n=0->g=f)->(0<n->f=1)->bs.length+10*n<=100000->bs++pl (l.drop i)=B->
  To E TZ (.full 2 (.ret (.tup [])) (wrO B f)) (.head (stk TZ 0) [(0,.ref 0 0),(6,.slice 1 (iv l) .no),(7,.int .i64 ((iv l).length:Nat)),(8,.int .i64 i)] (wrO bs g)):=by
 have s:(iv l).length=l.length:=by simp
 intro n;induction n with
 | zero=>
  exact zqca10
 | succ n u=>
  intro i g bs r d _ k j a;have p:=k o_;subst p;have b:i<l.length:=o_;rw [Aa b] at a;have c:=t l[i] (Ax b);generalize q:l[i]=x at a c;have a:bs++(putN x.toNat++pl (l.drop (i+1)))=B:=a;rw [<-Ag] at a;have get:(iv l)[i]? =some (ii x):=(dJ b).trans (by rw [q]);have hp:=pn_len c;refine gV ?_;refine aT λ h=>gV ?_;refine ⟨i,rfl,gV ?_⟩;refine ⟨_,get,gV ?_⟩;refine .pure _ [] (put_ok x) ?_;exact zqca5
def nums_ok(l:ax)(d:l≠[])(c:∀ n∈l,n<=9223372036854775807)(a:l.length<=100)(bs:aw)(e:bs.length+10*l.length<=100000):
  aq 95 [.ref 0 0,.slice 1 (iv l) .no] (wrO bs 0) (.ret (.tup [])) (wrO (bs++pl l) 1):=by
 have i:(iv l).length=l.length:=by simp
 have b:0<l.length:=Eg.2 d;refine cT (E:=E) (fn:=Tryz.f95) (g:=.full 2 _ _) λ_=>?_;exact zqca25
def nums_fresh(k:Int)(a:k<=9223372036854775807):aq 95 [.ref 0 0,.slice 1 [ii k] .no] [.cells tWr [.nilptr,.slice 1 [] .nil]] (.ret (.tup [])) (wrO (putN k.toNat) 0):=by have hp:=pn_len a;refine cT (E:=E) (fn:=Tryz.f95) (g:=.full 1 _ _) λ_=>gV ?_;refine gV ?_;refine Ae (λ_=>?_) (λ h=>absurd (of_decide_eq_false h) s_);refine gV ?_;refine ⟨0,rfl,gV ?_⟩;refine ⟨_,rfl,gV ?_⟩;refine .pure _ [] (put_ok k) (gV ?_);refine .sole rfl (.eff [] [0] _ _ rfl (zS _ o_) ?_);exact zqca6
def v3_m{v:V3}(h:okI v.l=true):∀ n∈v.l,n<=9223372036854775807:=λ n a=>by have:=okI_b h n a;omega
def l3_m{a b c:Int}(h:okI [a,b,c]=true):∀ n∈[a,b,c],n<=9223372036854775807:=λ n d=>by have:=okI_b h n d;omega
def wQ(v:V3)(h:okI v.l=true)(bs:aw)(a:bs.length<=90000):aq 159 [.ref 0 0,.agg v.cs] (wrO bs 0) (.ret (.tup [])) (wrO (bs++pl v.l) 1):=by refine cT (E:=E) (fn:=Tryz.f159) (g:=.full 2 _ _) λ_=>gV ?_;refine ⟨by decide,gV ?_⟩;refine .eff [2] [0,1] _ _ rfl (aA.strip (nums_ok v.l (by simp [V3.l]) (v3_m h) (by simp [V3.l]) bs (by simp [V3.l];omega))) ?_;exact zqca29
def gan_b{g:Gan}(h:g.ok=true):okI [g.id,g.ten,g.pods]=true/\okI g.need.l=true/\okI [g.run,g.lev,g.pref]=true:=by simp only [Gan.ok,okI,Af,Em] at h⊢;obtain ⟨⟨h1,c,h3,d,b,a⟩,e⟩:=h;exact ⟨⟨h1,c,h3⟩,e,d,b,a⟩
def aDb(g:Gan)(h:g.ok=true)(bs:aw)(b:bs.length<=80000):aq 97 [.ref 0 0,g.av] (wrO bs 0) (.ret (.tup [])) (wrO (bs++pl g.il) 1):=by
 obtain ⟨h1,a,h3⟩:=gan_b h;have l1:=pl_len (l3_m h1);have l2:=pl_len (v3_m a);have e:bs++pl g.il=((bs++pl [g.id,g.ten,g.pods])++pl g.need.l)++pl [g.run,g.lev,g.pref]:=by rw [Ag,Ag,<-pl_append,<-pl_append];rfl
 rw [e];simp only [V3.l,Ak,Bz] at l1 l2;refine cT (E:=E) (fn:=Tryz.f97) (g:=.full 2 _ _) λ_=>gV ?_;refine .eff [] [0,1] _ _ rfl (aA.strip (nums_ok [g.id,g.ten,g.pods] s_ (l3_m h1) s_ bs q_)) (gV ?_);refine .eff [] [0,1] _ _ rfl (wQ g.need a _ q_) (gV ?_);refine .eff [] [0,1] _ _ rfl (aA.strip (nums_ok [g.run,g.lev,g.pref] s_ (l3_m h3) s_ _ (by simp [V3.l];omega))) ?_;exact zqca29
noncomputable abbrev aAW:Func:=Tryz.f96
def aFf{x:Nod}(h:x.ok=true):(-1<=x.p/\x.p<=1099511627776)/\(0<=x.w/\x.w<=1099511627776)/\okI x.n.l=true/\okI x.b.l=true/\okI x.l.l=true:=by simp only [Nod.ok,Af,decide_eq_true_eq] at h;obtain ⟨⟨⟨⟨h1,c⟩,h3⟩,d⟩,a⟩:=h;exact ⟨h1,okI_b c _ s_,h3,d,a⟩
def aFV{x:Hos}(h:x.ok=true):okI [x.f,x.b,x.r]=true/\okI x.c.l=true:=by simpa only [Hos.ok,Af] using h
def aLG{l:bc}(h:zQ l=true):∀ (i:Nat) (a:i<l.length),l[i].ok=true:=by
 induction l with
 | nil=>intro i a;simp at a
 | cons x r b=>
  simp only [zQ,Af] at h;intro i a;cases i with
  | zero=>exact h.1
  | succ i=>exact b h.2 i (by simpa using a)
def aLH{l:List Hos}(h:uR l=true):∀ (i:Nat) (a:i<l.length),l[i].ok=true:=by
 induction l with
 | nil=>intro i a;simp at a
 | cons x r b=>
  simp only [uR,Af] at h;intro i a;cases i with
  | zero=>exact h.1
  | succ i=>exact b h.2 i (by simpa using a)
def il_len(x:Nod)(h:x.ok=true):(pl x.il).length<=110:=by
 obtain ⟨h1,f,h3,c,b⟩:=aFf h
 have:=pl_len (l:=x.il) (λ n a=>by
  simp only [Nod.il,Aw,Hu,or_false] at a;have d:=aDj h3;have e:=aDj c;have g:=aDj b
  rcases a with rfl | rfl | rfl | rfl | rfl | rfl | rfl | rfl | rfl | rfl | rfl<;>omega)
 simpa [Nod.il] using this
def ih_len(x:Hos)(h:x.ok=true):(pl x.il).length<=60:=by
 obtain ⟨h1,d⟩:=aFV h
 have:=pl_len (l:=x.il) (λ n c=>by
  simp only [Hos.il,Aw,Hu,or_false] at c;have a:=okI_b h1;have e:=aDj d;have i:=a x.f s_;have j:=a x.b s_;have g:=a x.r s_
  rcases c with rfl | rfl | rfl | rfl | rfl | rfl<;>omega)
 simpa [Hos.il] using this
def aBp(c:Con)(w:((hav c.hs).length:Int)<=24)(k:uR c.hs=true)(o:okI [c.half,c.age]=true)(B:aw):∀ (n i:Nat) (bs:aw),i+n=c.hs.length->bs.length+60*n<=20000->bs++(pl (hosL (c.hs.drop i))++pl [c.half,c.age])=B->
  To E aAW (.full 2 (.ret (.tup [])) (wrO B 1)) (.head (stk aAW 1) [(0,.ref 0 0),(3,.ref 2 0),(49,.slice 6 (hav c.hs) .no),(50,.int .i64 ((hav c.hs).length:Nat)),(51,.int .i64 i)] (wrO bs 1++[.cells 26 c.cs])):=by
 have s:(hav c.hs).length=c.hs.length:=by simp
 have hm:∀ n∈[c.half,c.age],n<=9223372036854775807:=λ n q=>by have:=okI_b o n q;omega
 intro n;induction n with
 | zero=>
  intro i bs p g a;rw [Ab o_] at a;have a:bs++pl [c.half,c.age]=B:=a;subst a;refine gV ?_;refine aF λ h=>gV ?_;refine .eff [] [0,1] _ _ rfl (aA.strip (nums_ok [c.half,c.age] s_ hm s_ bs q_)) ?_;exact zqca29
 | succ n u=>
  intro i bs p g a;have d:i<c.hs.length:=o_;rw [Aa d] at a;have e:=aLH k i d;generalize m:c.hs[i]=x at a e;have a:bs++(pl (x.il++hosL (c.hs.drop (i+1)))++pl [c.half,c.age])=B:=a;obtain ⟨h1,j⟩:=aFV e;have l1:=pl_len (l3_m h1);have l2:=pl_len (v3_m j);have v:=ih_len x e;simp only [V3.l,Ak,Bz] at l1 l2;have ex:bs++pl x.il=(bs++pl [x.f,x.b,x.r])++pl x.c.l:=by rw [Ag,<-pl_append];rfl
  rw [pl_append,Ag,<-Ag,ex] at a;have get:(hav c.hs)[i]? =some x.av:=(BG d).trans (by rw [m]);refine gV ?_;refine aT λ h=>gV ?_;refine ⟨i,rfl,gV ?_⟩;refine ⟨_,get,gV ?_⟩;refine .eff [] [0,1] _ _ rfl (aA.strip (nums_ok [x.f,x.b,x.r] s_ (l3_m h1) s_ bs q_)) (gV ?_);refine .eff [] [0,1] _ _ rfl (wQ x.c j _ q_) (gV ?_);refine aJ (gV ?_);refine To.part [0,3,49,50,51] [0,1,2] rfl rfl rfl ?_;exact u (i+1) _ o_ (by rw [<-ex];simp;omega) a
def aBn(c:Con)(g:((nav c.ns).length:Int)<=12)(D:((hav c.hs).length:Int)<=24)(k:zQ c.ns=true)(r:uR c.hs=true)(u:okI [c.half,c.age]=true)(B:aw):∀ (n i:Nat) (bs:aw),i+n=c.ns.length->bs.length+110*n<=10000->
  bs++(pl (nodL (c.ns.drop i))++(pl [((hav c.hs).length:Int)]++(pl (hosL c.hs)++pl [c.half,c.age])))=B->
  To E aAW (.full 2 (.ret (.tup [])) (wrO B 1)) (.head (stk aAW 0) [(0,.ref 0 0),(3,.ref 2 0),(15,.slice 11 (nav c.ns) .no),(16,.int .i64 ((nav c.ns).length:Nat)),(17,.int .i64 i)] (wrO bs 1++[.cells 26 c.cs])):=by
 have z:(nav c.ns).length=c.ns.length:=by simp
 have q:(hav c.hs).length=c.hs.length:=by simp
 intro n;induction n with
 | zero=>
  intro i bs v j a;rw [Ab o_] at a;have a:bs++(pl [((hav c.hs).length:Int)]++(pl (hosL c.hs)++pl [c.half,c.age]))=B:=a;rw [<-Ag] at a;have f:∀ n∈[((hav c.hs).length:Int)],n<=9223372036854775807:=λ n g=>by simp at g;omega
  have l1:=pl_len f;simp only [Ak,Bz] at l1;refine gV ?_;refine aF λ h=>gV ?_;refine .eff [] [0,1] _ _ rfl (aA.strip (nums_ok [((hav c.hs).length:Int)] s_ f s_ bs q_)) (gV ?_);refine To.part [0,3,49,50,51] [0,1,2] rfl rfl rfl ?_;exact aBp c D r u B c.hs.length 0 _ o_ (by simp only [Ai];omega) a
 | succ n C=>
  intro i bs v j a;have d:i<c.ns.length:=o_;rw [Aa d] at a;have e:=aLG k i d;generalize s:c.ns[i]=x at a e;have a:bs++(pl (x.il++nodL (c.ns.drop (i+1)))++_)=B:=a;obtain ⟨h1,F,h3,o,m⟩:=aFf e;have hm:∀ n∈[x.p+1,x.w],n<=9223372036854775807:=λ n g=>by simp at g;omega
  have l1:=pl_len hm;have l2:=pl_len (v3_m h3);have A:=pl_len (v3_m o);have y:=pl_len (v3_m m);have G:=il_len x e;simp only [V3.l,Ak,Bz] at l1 l2 A y;have ex:bs++pl x.il=(((bs++pl [x.p+1,x.w])++pl x.n.l)++pl x.b.l)++pl x.l.l:=by rw [Ag,Ag,Ag,<-pl_append,<-pl_append,<-pl_append];rfl
  rw [pl_append,Ag,<-Ag,ex] at a;have get:(nav c.ns)[i]? =some x.av:=(nU d).trans (by rw [s]);refine gV ?_;refine aT λ h=>gV ?_;refine ⟨i,rfl,gV ?_⟩;refine ⟨_,get,gV ?_⟩;refine aJ (gV ?_);refine .eff [] [0,1] _ _ rfl (aA.strip (nums_ok [x.p+1,x.w] s_ hm s_ bs q_)) (gV ?_);refine .eff [] [0,1] _ _ rfl (wQ x.n h3 _ q_) (gV ?_);refine .eff [] [0,1] _ _ rfl (wQ x.b o _ (by simp [V3.l];omega)) ?_;refine gV ?_;refine .eff [] [0,1] _ _ rfl (wQ x.l m _ (by simp [V3.l];omega)) ?_;refine gV ?_;refine aJ (gV ?_);refine To.part [0,3,15,16,17] [0,1,2] rfl rfl rfl ?_;exact C (i+1) _ o_ (by rw [<-ex];simp;omega) a
def aDc(c:Con)(b:((nav c.ns).length:Int)<=12)(i:((hav c.hs).length:Int)<=24)(d:c.tok=true)(bs:aw)(e:bs.length<=100):
  aq 96 [.ref 0 0,c.av] (wrO bs 0) (.ret (.tup [])) (wrO (bs++pl c.il) 1):=by
 have j:(nav c.ns).length=c.ns.length:=by simp
 simp only [Con.tok,Af] at d;obtain ⟨⟨h1,h⟩,h3⟩:=d;have a:∀ n∈[((nav c.ns).length:Int)],n<=9223372036854775807:=λ n b=>by simp at b;omega
 have l1:=pl_len a;simp only [Ak,Bz] at l1;refine cT (E:=E) (fn:=Tryz.f96) (g:=.full 2 _ _) λ_=>gV ?_;refine .eff [] [0,1] _ _ rfl (aA.strip (nums_ok [((nav c.ns).length:Int)] s_ a s_ bs q_)) (gV ?_);refine To.part [0,3,15,16,17] [0,1,2] rfl rfl rfl ?_;exact aBn c b i h1 h h3 _ c.ns.length 0 _ o_ (by simp only [Ai];omega) (by simp only [Con.il,pl_append,Ag,Ap])
structure Told(x:Cmd):Prop where
 k:1<=x.k/\x.k<=6
 c:x.k=1\/x.c.non=true
 g:x.k=2\/x.g.isZ=true
 n:(x.k=3\/x.k=4\/x.k=5)\/x.n=0
 cok:x.c.tok=true
 gok:x.g.ok=true
 nok:0<=x.n/\x.n<=1099511627776
 ln:((nav x.c.ns).length:Int)<=12
 lh:((hav x.c.hs).length:Int)<=24
def tH{b:Bool}{y:Int}(h:(if b then y else 1)=0):b=true/\y=0:=by
 cases b with
 | true=>exact ⟨rfl,h⟩
 | false=>cases h
def chk_told{x:Cmd}(h:chk x=0):Told x:=by
 unfold chk at h;obtain ⟨h1,h⟩:=tH h;unfold chk2 at h;obtain ⟨h2,h⟩:=tH h;unfold chk3 at h;obtain ⟨h3,h⟩:=tH h;unfold chk4 at h;obtain ⟨h4,h⟩:=tH h;unfold chkC at h;obtain ⟨h5,h⟩:=tH h;unfold chkG at h;obtain ⟨h6,h⟩:=tH h;unfold chkN at h;obtain ⟨h7,h⟩:=tH h;unfold chkL at h;simp only [Af,Fl,decide_eq_true_eq,beq_iff_eq] at h1 h2 h3 h4;have h8:decide (((nav x.c.ns).length:Int)<=12)=true/\decide (((hav x.c.hs).length:Int)<=24)=true:=by
  split at h
  .rename_i hh;simpa using hh
  .cases h
 exact ⟨h1,h2,h3,by rcases h4 with ((h4 | h4) | h4) | h4
                    .exact .inl (.inl h4)
                    .exact .inl (.inr (.inl h4))
                    .exact .inl (.inr (.inr h4))
                    .exact .inr h4,h5,h6,okI_b h7 _ s_,of_decide_eq_true h8.1,of_decide_eq_true h8.2⟩
def encB(x:Cmd):aw:=if chk x=0 then pl x.il else []
def pl_ne(k:Int)(r:ax):pl (k::r)≠[]:=by
 have:1<=(putN k.toNat).length:=by rw [putN];split<;>simp
 intro h;have h1:(pl (k::r)).length=0:=by rw [h];rfl
 simp only [pl,Ai] at h1;omega
def il_cons(x:Cmd)(r:ax)(h:(if x.k==1 then x.c.il else if x.k==2 then x.g.il else if x.k==6 then [] else [x.n])=r):putN x.k.toNat++pl r=pl x.il:=by subst h;rfl
def enc_ok(x:Cmd):aq 42 [x.av] [] (.ret (.tup [.str (encB x),ii (chk x)])) []:=by
 refine c_ Tryz.f42 λ_=>gV ?_;refine .pure _ [] (check_ok x) (gV ?_);refine ⟨λ h=>?_,λ h=>?_⟩
 .have h:(chk x !=0)=true:=h;have l:¬ chk x=0:=by simpa using h
  have e:encB x=[]:=if_neg l;rw [e];refine gW hE ?_;conv=>whnf
 .have h:(chk x !=0)=false:=h;have l:chk x=0:=by simpa using h
  have e:encB x=pl x.il:=if_pos l;rw [e,l];have T:=chk_told l;have o:x.k<=9223372036854775807:=by have:=T.k;omega
  have hp:=pn_len o;refine gV ?_;refine .eff [] [1] _ _ rfl (aA.strip (nums_fresh x.k o)) (gV ?_);refine Ae (λ h1=>?_) (λ h1=>?_)
  .have h1:(x.k==1)=true:=h1;have il:=il_cons x x.c.il (by rw [h1];rfl);have a:putN x.k.toNat++pl x.c.il≠[]:=by rw [il];exact pl_ne _ _
   refine gV ?_;refine .eff [] [1,2] _ _ rfl (aDc x.c T.ln T.lh T.cok _ o_) ?_;exact zqca23
  .have h1:(x.k==1)=false:=h1;refine gV ?_;refine Ae (λ b=>?_) (λ b=>?_)
   .have b:(x.k==2)=true:=b;have il:=il_cons x x.g.il (by rw [h1,b];rfl);have a:putN x.k.toNat++pl x.g.il≠[]:=by rw [il];exact pl_ne _ _
    refine gV ?_;refine .eff [] [1,2] _ _ rfl (aDb x.g T.gok _ o_) ?_;exact zqca23
   .have b:(x.k==2)=false:=b;have m:∀ n∈[x.n],n<=9223372036854775807:=λ n m=>by have:=T.nok;simp at m;omega
    refine gV ?_;refine Ae (λ h3=>?_) (λ h3=>?_)
    .have h3:(x.k==3)=true:=h3;have i:(x.k==6)=false:=by have:=eq_of_beq h3;rw [this];rfl
     refine gV ?_;refine Ae (λ_=>?_) (λ h=>absurd (h3.symm.trans h) d_);exact zqca3
    .have h3:(x.k==3)=false:=h3;refine gV ?_;refine Ae (λ d=>?_) (λ d=>?_)
     .have d:(x.k==4)=true:=d;have i:(x.k==6)=false:=by have:=eq_of_beq d;rw [this];rfl
      refine gV ?_;refine Ae (λ_=>?_) (λ h=>absurd (d.symm.trans h) d_);exact zqca3
     .have d:(x.k==4)=false:=d;refine gV ?_;refine Ae (λ j=>?_) (λ j=>?_)
      .have j:(x.k==5)=true:=j;have i:(x.k==6)=false:=by have:=eq_of_beq j;rw [this];rfl
       exact zqca3
      .have j:(x.k==5)=false:=j;have i:(x.k==6)=true:=by have:=T.k;simp at h1 b h3 d j⊢;omega
       have il:=il_cons x [] (by rw [h1,b,i];rfl);rw [show putN x.k.toNat++pl []=putN x.k.toNat from Ar _] at il;have a:putN x.k.toNat≠[]:=by rw [il];exact pl_ne _ _
       exact zqca23
def aF2(l:aw):∀ (f i a:Nat) (rest:aw),i+f=9->rest=l.drop i->i<=l.length->a<2 ^ (7*i)->
  To E Tryz.f160 (.pure (.ret (aPr (bB f i a rest)))) (.head (stk Tryz.f160 0) [(0,.str l),(5,.int .i64 a),(10,.int .i64 (min (l.length:Int) 9)),(11,.int .i64 i)] []):=by
 intro f;induction f with
 | zero=>
  intro i a rest s g hl p;refine gV ?_;refine aF λ h=>gV ?_;rfl
 | succ f v=>
  intro i a rest s g hl p;cases rest with
  | nil=>
   have q:l.length<=i:=by simpa using g.symm
   refine gV ?_;refine aF λ h=>gV ?_;rfl
  | cons c r=>
   have n:l[i]? =some c:=by
    have:(l.drop i)[0]? =some c:=by rw [<-g];rfl
    simpa using this
   have t:i<l.length:=(Ad.1 n).1;have m:r=l.drop (i+1):=by rw [<-Hv,<-g];rfl
   have y:2 ^ (7*(i+1))=128*2 ^ (7*i):=by rw [Gr,Ft];omega
   have h3:c.toNat % 128<=127:=o_;have z:(c.toNat % 128)*2 ^ (7*i)<=127*2 ^ (7*i):=Cc _ h3;have x:2 ^ (7*(i+1))<=2 ^ 63:=Fg d_ o_;have w:c.toNat<256:=c.toNat_lt;have j:eG .and .u8 (c.toNat:Int) 127=((c.toNat % 128:Nat):Int):=by have:=DE .u8 c.toNat 127 (by simp only [bN];omega) d_;rw [show (127:Nat)=2 ^ 7-1 from rfl,aLD] at this;exact this
   have k:(7*(i:Int)).toNat=7*i:=o_;have o:((c.toNat % 128:Nat):Int)*2 ^ (7*i)=((c.toNat % 128*2 ^ (7*i):Nat):Int):=by simp
   have u:eG .or .i64 (a:Int) ((c.toNat % 128*2 ^ (7*i):Nat):Int)=((a+c.toNat % 128*2 ^ (7*i):Nat):Int):=by rw [sD .i64 _ _ (by simp only [bN];omega) (by simp only [bN];omega),WN p]
   refine gV ?_;refine aT λ h=>gV ?_;refine ⟨i,rfl,gV ?_⟩;refine ⟨c,n,gV ?_⟩;refine .inl ⟨by rw [j];exact xF (by simp only [bN];omega),?_⟩;refine gV ?_;refine aJ (gV ?_);refine ⟨by omega,gV ?_⟩;refine .inl ⟨⟨by rw [k];simp only [IntKind.bits];omega,by rw [j,k,o];exact xF (by simp only [bN];omega)⟩,?_⟩;refine gV ?_;rw [j,k,o,u];refine ⟨λ h=>?_,λ h=>?_⟩
   .have b:c.toNat<128:=by have:=of_decide_eq_true h;omega
    have hd:¬ (c.toNat=0/\0<i)->bB (f+1) i a (c::r)=some (a+(c.toNat % 128)*2 ^ (7*i),i+1):=λ hz=>by rw [bB,if_pos b,if_neg hz]
    refine gV ?_;refine Ae (λ hz=>?_) (λ hz=>?_)
    .have hz:c.toNat=0:=by have hz:((c.toNat:Int)==0)=true:=hz;have:=eq_of_beq hz;omega
     refine gV ?_;refine Ae (λ d=>?_) (λ d=>?_)
     .have d:0<i:=by have:=of_decide_eq_true d;omega
      refine gV ?_;rw [bB,if_pos b,if_pos ⟨hz,d⟩];rfl
     .have d:¬ 0<i:=by have:=of_decide_eq_false d;omega
      rw [hd o_];refine gV ?_;refine aJ (gV ?_);rfl
    .have hz:¬ c.toNat=0:=by have hz:((c.toNat:Int)==0)=false:=hz;intro e;rw [e] at hz;cases hz
     rw [hd o_];refine gV ?_;refine aN (gV ?_);refine aJ (gV ?_);rfl
   .have b:¬ c.toNat<128:=by have:=of_decide_eq_false h;omega
    rw [bB,if_neg b];refine gV ?_;refine aJ (gV ?_);refine To.head [0,5,10,11] ?_;exact v (i+1) (a+(c.toNat % 128)*2 ^ (7*i)) r o_ m o_ o_
def aF1(l:aw):aq 160 [.str l] [] (.ret (aPr (dM l))) []:=by refine c_ Tryz.f160 λ_=>gV ?_;refine To.head [0,5,10,11] ?_;exact aF2 l 9 0 0 l rfl rfl (Ch _) d_
def aQ{α:Type}{o:Option α}{C:Prop}(a:o=none->C)(h1:∀ x,o=some x->C):C:=by
 cases o with
 | none=>exact a rfl
 | some x=>exact h1 x rfl
abbrev tRd:TypeId:=170
abbrev rdO(s:aw):au:=[.cells tRd [.str s]]
abbrev rdU:au:=[.cells tRd [.undef]]
def bV(s:aw):Option (Int×aw):=match dM s with
 | some (n,k)=>some ((n:Int),s.drop k)
 | none=>none
def rL{α:Type}(av:α->aa):Option (α×aw)->Res
 | some (a,_)=>.ret (av a)
 | none=>.pan (bF 10)
def CX{α:Type}:Option (α×aw)->au
 | some (_,s)=>rdO s
 | none=>rdU
def bR{s s':aw}{n:Int}(h:bV s=some (n,s')):aq 99 [.ref 0 0] (rdO s) (.ret (ii n)) (rdO s'):=by
 unfold bV at h;split at h
 .rename_i m k a;cases h;have b:=aF1 s;rw [a] at b;have c:=aAE a;refine cT (E:=E) (fn:=Tryz.f99) (g:=.full 1 _ _) λ_=>gV ?_;refine .pure _ [] b (gV ?_);refine .pure _ [] (iG _ _ rfl) (gV ?_);refine ⟨k,rfl,gV ?_⟩;refine ⟨by omega,gV ?_⟩;exact zx [0]
 .cases h
def bZ{s:aw}(h:bV s=none):aq 99 [.ref 0 0] (rdO s) (.pan (bF 10)) rdU:=by
 unfold bV at h;split at h
 .cases h
 .rename_i b;have a:=aF1 s;rw [b] at a;refine aA.blur (ao:=rdO s) ?_;refine cT (E:=E) (fn:=Tryz.f99) (g:=.full 1 _ _) λ_=>gV ?_;refine .pure _ [] a (gV ?_);refine .pan _ (dP _ _ rfl) ?_;exact zx [0]
def dI(s:aw):Option (Int×aw):=match bV s with
 | some (n,s')=>if decide (n<=(s'.length:Int)) then some (n,s') else none
 | none=>none
def oW{s s':aw}{n:Int}(h:dI s=some (n,s')):aq 153 [.ref 0 0] (rdO s) (.ret (ii n)) (rdO s'):=by
 unfold dI at h;split at h
 .rename_i m b a;split at h
  .rename_i hd;cases h;refine cT (E:=E) (fn:=Tryz.f153) (g:=.full 1 _ _) λ_=>gV ?_;refine .eff [] [0] _ _ rfl (bR a) (gV ?_);refine .pure _ [] (iG _ _ hd) (gV ?_);exact zx [0]
  .cases h
 .cases h
def mK{s:aw}(h:dI s=none):aq 153 [.ref 0 0] (rdO s) (.pan (bF 10)) rdU:=by
 unfold dI at h;split at h
 .rename_i m b a;split at h
  .cases h
  .rename_i hd;refine aA.blur (ao:=rdO b) ?_;refine cT (E:=E) (fn:=Tryz.f153) (g:=.full 1 _ _) λ_=>gV ?_;refine .eff [] [0] _ _ rfl (bR a) (gV ?_);refine .pan _ (dP _ _ (by simpa using hd)) ?_;exact zx [0]
 .rename_i a;refine cT (E:=E) (fn:=Tryz.f153) (g:=.full 1 _ _) λ_=>gV ?_;refine .effp [] [0] _ _ rfl (bZ a) ?_;exact zx [0]
def qH(s:aw):Option (V3×aw):=match bV s with
 | none=>none
 | some (a,s)=>match bV s with
  | none=>none
  | some (b,s)=>match bV s with
   | none=>none
   | some (c,s)=>some (⟨a,b,c⟩,s)
def Y2(s:aw)(r:Res)(O:au)(e:rL (λ v:V3=>.agg v.cs) (qH s)=r)(d:CX (qH s)=O):aq 161 [.ref 0 0] (rdO s) r O:=by
 unfold qH at e d;refine cT (E:=E) (fn:=Tryz.f161) (g:=.full 1 _ _) λ_=>gV ?_;refine gV ?_;refine aY (gV ?_);refine aQ (o:=bV s) (λ h1=>?_) (λ⟨a,j⟩ h1=>?_)
 .simp only [h1] at e d;have e:Res.pan (bF 10)=r:=e;have d:rdU=O:=d;subst e d;exact zqca18
 simp only [h1] at e d;refine .eff [] [0] _ _ rfl (bR h1) (gV ?_);refine ⟨⟨by decide,by decide⟩,gV ?_⟩;refine aJ (gV ?_);refine gV ?_;refine aY (gV ?_);refine aQ (o:=bV j) (λ h=>?_) (λ⟨b,i⟩ h=>?_)
 .simp only [h] at e d;have e:Res.pan (bF 10)=r:=e;have d:rdU=O:=d;subst e d;refine .effp [] [0] _ _ rfl (bZ h) ?_;exact zx [0]
 simp only [h] at e d;refine .eff [] [0] _ _ rfl (bR h) (gV ?_);refine ⟨⟨by decide,by decide⟩,gV ?_⟩;refine aJ (gV ?_);refine gV ?_;refine aY (gV ?_);refine aQ (o:=bV i) (λ h3=>?_) (λ⟨c,k⟩ h3=>?_)
 .simp only [h3] at e d;have e:Res.pan (bF 10)=r:=e;have d:rdU=O:=d;subst e d;exact zqca17
 simp only [h3] at e d;refine .eff [] [0] _ _ rfl (bR h3) (gV ?_);refine ⟨⟨by decide,by decide⟩,gV ?_⟩;refine aJ (gV ?_);refine gV ?_;refine aN (gV ?_);subst e d;exact zqca7
def zZ{s s':aw}{v:V3}(h:qH s=some (v,s')):aq 161 [.ref 0 0] (rdO s) (.ret (.agg v.cs)) (rdO s'):=Y2 s _ _ (by rw [h];rfl) (by rw [h];rfl)
def AA{s:aw}(h:qH s=none):aq 161 [.ref 0 0] (rdO s) (.pan (bF 10)) rdU:=Y2 s _ _ (by rw [h];rfl) (by rw [h];rfl)
def rGan(s:aw):Option (Gan×aw):=match bV s with
 | none=>none
 | some (a,s)=>match bV s with
  | none=>none
  | some (b,s)=>match bV s with
   | none=>none
   | some (c,s)=>match qH s with
    | none=>none
    | some (v,s)=>match bV s with
         | none=>none
         | some (d,s)=>match bV s with
          | none=>none
          | some (e,s)=>match bV s with
           | none=>none
           | some (f,s)=>some (⟨a,b,c,v,d,e,f⟩,s)
def RE(s:aw)(r:Res)(O:au)(i:rL Gan.av (rGan s)=r)(h:CX (rGan s)=O):aq 101 [.ref 0 0] (rdO s) r O:=by
 unfold rGan at i h;refine cT (E:=E) (fn:=Tryz.f101) (g:=.full 1 _ _) λ_=>gV ?_;refine aQ (o:=bV s) (λ h1=>?_) (λ⟨a,x⟩ h1=>?_)
 .simp only [h1] at i h;have i:Res.pan (bF 10)=r:=i;have h:rdU=O:=h;subst i h;exact zqca18
 simp only [h1] at i h;refine .eff [] [0] _ _ rfl (bR h1) (gV ?_);refine aQ (o:=bV x) (λ n=>?_) (λ⟨b,q⟩ n=>?_)
 .simp only [n] at i h;have i:Res.pan (bF 10)=r:=i;have h:rdU=O:=h;subst i h;refine .effp [] [0] _ _ rfl (bZ n) ?_;exact zx [0]
 simp only [n] at i h;refine .eff [] [0] _ _ rfl (bR n) (gV ?_);refine aQ (o:=bV q) (λ h3=>?_) (λ⟨c,t⟩ h3=>?_)
 .simp only [h3] at i h;have i:Res.pan (bF 10)=r:=i;have h:rdU=O:=h;subst i h;exact zqca17
 simp only [h3] at i h;refine .eff [] [0] _ _ rfl (bR h3) (gV ?_);refine aQ (o:=qH t) (λ m=>?_) (λ⟨v,u⟩ m=>?_)
 .simp only [m] at i h;have i:Res.pan (bF 10)=r:=i;have h:rdU=O:=h;subst i h;refine .effp [] [0] _ _ rfl (AA m) ?_;exact zx [0]
 simp only [m] at i h;refine .eff [] [0] _ _ rfl (zZ m) (gV ?_);refine aQ (o:=bV u) (λ k=>?_) (λ⟨d,w⟩ k=>?_)
 .simp only [k] at i h;have i:Res.pan (bF 10)=r:=i;have h:rdU=O:=h;subst i h;refine .effp [] [0] _ _ rfl (bZ k) ?_;exact zx [0]
 simp only [k] at i h;refine .eff [] [0] _ _ rfl (bR k) (gV ?_);refine aQ (o:=bV w) (λ j=>?_) (λ⟨e,p⟩ j=>?_)
 .simp only [j] at i h;have i:Res.pan (bF 10)=r:=i;have h:rdU=O:=h;subst i h;refine .effp [] [0] _ _ rfl (bZ j) ?_;exact zx [0]
 simp only [j] at i h;refine .eff [] [0] _ _ rfl (bR j) (gV ?_);refine aQ (o:=bV p) (λ l=>?_) (λ⟨f,y⟩ l=>?_)
 .simp only [l] at i h;have i:Res.pan (bF 10)=r:=i;have h:rdU=O:=h;subst i h;refine .effp [] [0] _ _ rfl (bZ l) ?_;exact zx [0]
 simp only [l] at i h;refine .eff [] [0] _ _ rfl (bR l) (gV ?_);subst i h;exact zqca7
def FI{s s':aw}{v:Gan}(h:rGan s=some (v,s')):aq 101 [.ref 0 0] (rdO s) (.ret v.av) (rdO s'):=RE s _ _ (by rw [h];rfl) (by rw [h];rfl)
def AU{s:aw}(h:rGan s=none):aq 101 [.ref 0 0] (rdO s) (.pan (bF 10)) rdU:=RE s _ _ (by rw [h];rfl) (by rw [h];rfl)
def cB{s s':aw}{n:Int}(h:bV s=some (n,s')):0<=n/\n<=9223372036854775807/\s'.length+1<=s.length:=by
 unfold bV at h;split at h
 .rename_i m k a;cases h;have:=aAE a;simp only [Ew];omega
 .cases h
def fO{s s':aw}{n:Int}(h:dI s=some (n,s')):0<=n/\n<=9223372036854775807/\s'.length+1<=s.length/\n<=s'.length:=by
 unfold dI at h;split at h
 .rename_i m b a;split at h
  .rename_i hd;cases h;have:=cB a;have:=of_decide_eq_true hd;omega
  .cases h
 .cases h
def rVec_b{s s':aw}{v:V3}(h:qH s=some (v,s')):s'.length+1<=s.length:=by
 unfold qH at h;split at h
 .cases h
 .rename_i h1;split at h
  .cases h
  .rename_i a;split at h
   .cases h
   .rename_i h3;cases h;have:=cB h1;have:=cB a;have:=cB h3;omega
def aI1(s:aw):Option (Nod×aw):=match bV s with
 | none=>none
 | some (p,s)=>match bV s with
  | none=>none
  | some (w,s)=>match qH s with
   | none=>none
   | some (a,s)=>match qH s with
    | none=>none
    | some (b,s)=>match qH s with
         | none=>none
         | some (c,s)=>some (⟨p-1,w,a,b,c⟩,s)
def AZ(s:aw):Option (Hos×aw):=match bV s with
 | none=>none
 | some (f,s)=>match bV s with
  | none=>none
  | some (b,s)=>match bV s with
   | none=>none
   | some (r,s)=>match qH s with
    | none=>none
    | some (c,s)=>some (⟨f,b,r,c⟩,s)
def aI2(ns:bc)(hs:List Hos)(s:aw):Option (Con×aw):=match bV s with
 | none=>none
 | some (a,s)=>match bV s with
  | none=>none
  | some (b,s)=>some (⟨ns,hs,a,b⟩,s)
def rH(ns:bc):Nat->List Hos->aw->Option (Con×aw)
 | 0,hs,s=>aI2 ns hs s
 | m+1,hs,s=>match AZ s with
  | none=>none
  | some (x,s)=>rH ns m (hs++[x]) s
def rHs(ns:bc)(s:aw):Option (Con×aw):=match dI s with
 | none=>none
 | some (n,s)=>rH ns n.toNat [] s
def rN:Nat->bc->aw->Option (Con×aw)
 | 0,ns,s=>rHs ns s
 | m+1,ns,s=>match aI1 s with
  | none=>none
  | some (x,s)=>rN m (ns++[x]) s
def KF(s:aw):Option (Con×aw):=match dI s with
 | none=>none
 | some (n,s)=>rN n.toNat [] s
noncomputable abbrev fRc:Func:=Tryz.f100
def aEz(ns:bc)(n:Int)(z:n<=9223372036854775807)(r:Res)(O:au):∀ (m i:Nat) (s:aw) (hs:List Hos),(i+m:Int)=n->hs.length+s.length<=1000000000->rL Con.av (rH ns m hs s)=r->CX (rH ns m hs s)=O->
  To E fRc (.full 1 r O) (.head (stk fRc 1) [(0,.ref 0 0),(2,.ref 1 0),(32,.int .i64 n),(33,.int .i64 i)] [.cells tRd [.str s],.cells 26 [.slice 11 (nav ns) .no,.slice 6 (hav hs) (.own 2 0),ii 0,ii 0],.tail 0 6 182]):=by
 intro m;induction m with
 | zero=>
  intro i s hs q hl f d;unfold rH aI2 at f d;refine gV ?_;refine aF λ h=>gV ?_;refine aQ (o:=bV s) (λ h1=>?_) (λ⟨a,k⟩ h1=>?_)
  .exact zqca36
  simp only [h1] at f d;refine .eff [] [0] _ _ rfl (bR h1) (gV ?_);refine aQ (o:=bV k) (λ g=>?_) (λ⟨b,l⟩ g=>?_)
  .exact zqca27
  simp only [g] at f d;refine .eff [] [0] _ _ rfl (bR g) (gV ?_);subst f d;exact zqca7
 | succ m x=>
  intro i s hs q hl f d;unfold rH AZ at f d;have p:(hav hs).length=hs.length:=by simp
  refine gV ?_;refine aT λ h=>gV ?_;refine aQ (o:=bV s) (λ h1=>?_) (λ⟨a,k⟩ h1=>?_)
  .exact zqca36
  simp only [h1] at f d;refine .eff [] [0] _ _ rfl (bR h1) (gV ?_);refine aQ (o:=bV k) (λ g=>?_) (λ⟨b,l⟩ g=>?_)
  .exact zqca27
  simp only [g] at f d;refine .eff [] [0] _ _ rfl (bR g) (gV ?_);refine aQ (o:=bV l) (λ h3=>?_) (λ⟨c,u⟩ h3=>?_)
  .simp only [h3] at f d;have f:Res.pan (bF 10)=r:=f;have d:rdU=O:=d;subst f d;exact zqca17
  simp only [h3] at f d;refine .eff [] [0] _ _ rfl (bR h3) (gV ?_);refine aQ (o:=qH u) (λ j=>?_) (λ⟨v,w⟩ j=>?_)
  .simp only [j] at f d;have f:Res.pan (bF 10)=r:=f;have d:rdU=O:=d;subst f d;refine .effp [] [0] _ _ rfl (AA j) ?_;exact zx [0]
  simp only [j] at f d;refine .eff [] [0] _ _ rfl (zZ j) (gV ?_);have y:=cB h1;have C:=cB g;have B:=cB h3;have A:=rVec_b j;refine Ae ⟨by simp only [maxLen];simp;omega,by simp;omega⟩ ?_;refine gV ?_;refine aJ (gV ?_);refine To.part [0,2,32,33] [0,1,2] rfl rfl rfl ?_;have next:=x (i+1) w (hs++[⟨a,b,c,v⟩]) o_ q_ f d
  have e:hav (hs++[⟨a,b,c,v⟩])=hav hs++[Hos.av ⟨a,b,c,v⟩]:=by simp
  rw [e] at next
  exact next
def aEy(n:Int)(C:n<=9223372036854775807)(r:Res)(O:au):∀ (m i:Nat) (s:aw) (ns:bc),(i+m:Int)=n->ns.length+s.length<=1000000000->rL Con.av (rN m ns s)=r->CX (rN m ns s)=O->
  To E fRc (.full 1 r O) (.head (stk fRc 0) [(0,.ref 0 0),(2,.ref 1 0),(6,.int .i64 n),(7,.int .i64 i)] [.cells tRd [.str s],.cells 26 [.slice 11 (nav ns) (.own 2 0),.slice 6 [] .nil,ii 0,ii 0],.tail 0 11 179]):=by
 intro m;induction m with
 | zero=>
  intro i s ns w hl g f;unfold rN rHs at g f;refine gV ?_;refine aF λ h=>gV ?_;refine aQ (o:=dI s) (λ h1=>?_) (λ⟨k,q⟩ h1=>?_)
  .simp only [h1] at g f;have g:Res.pan (bF 10)=r:=g;have f:rdU=O:=f;subst g f;exact zqca24
  simp only [h1] at g f;refine .eff [] [0] _ _ rfl (oW h1) (gV ?_);have y:=fO h1;refine To.part [0,2,32,33] [0,1] rfl rfl rfl ?_;refine To.begin 1 1 182 rfl rfl ?_;exact aEz ns k o_ r O k.toNat 0 q [] o_ q_ g f
 | succ m B=>
  intro i s ns w hl g f;unfold rN aI1 at g f;have u:(nav ns).length=ns.length:=by simp
  refine gV ?_;refine aT λ h=>gV ?_;refine aQ (o:=bV s) (λ h1=>?_) (λ⟨a,q⟩ h1=>?_)
  .simp only [h1] at g f;have g:Res.pan (bF 10)=r:=g;have f:rdU=O:=f;subst g f;exact zqca18
  simp only [h1] at g f;refine .eff [] [0] _ _ rfl (bR h1) (gV ?_);have y:=cB h1;refine aJ (gV ?_);refine aQ (o:=bV q) (λ p=>?_) (λ⟨b,v⟩ p=>?_)
  .simp only [p] at g f;have g:Res.pan (bF 10)=r:=g;have f:rdU=O:=f;subst g f;refine .effp [] [0] _ _ rfl (bZ p) ?_;exact zx [0]
  simp only [p] at g f;refine .eff [] [0] _ _ rfl (bR p) (gV ?_);refine aQ (o:=qH v) (λ h3=>?_) (λ⟨c,x⟩ h3=>?_)
  .simp only [h3] at g f;have g:Res.pan (bF 10)=r:=g;have f:rdU=O:=f;subst g f;refine .effp [] [0] _ _ rfl (AA h3) ?_;exact zx [0]
  simp only [h3] at g f;refine .eff [] [0] _ _ rfl (zZ h3) (gV ?_);refine aQ (o:=qH x) (λ l=>?_) (λ⟨d,z⟩ l=>?_)
  .simp only [l] at g f;have g:Res.pan (bF 10)=r:=g;have f:rdU=O:=f;subst g f;refine .effp [] [0] _ _ rfl (AA l) ?_;exact zx [0]
  simp only [l] at g f;refine .eff [] [0] _ _ rfl (zZ l) (gV ?_);refine aQ (o:=qH z) (λ j=>?_) (λ⟨e,A⟩ j=>?_)
  .simp only [j] at g f;have g:Res.pan (bF 10)=r:=g;have f:rdU=O:=f;subst g f;refine .effp [] [0] _ _ rfl (AA j) ?_;exact zx [0]
  simp only [j] at g f;refine .eff [] [0] _ _ rfl (zZ j) (gV ?_);have H:=cB p;have F:=rVec_b h3;have D:=rVec_b l;have G:=rVec_b j;refine Ae ⟨by simp only [maxLen];simp;omega,by simp;omega⟩ ?_;refine gV ?_;refine aJ (gV ?_);refine To.part [0,2,6,7] [0,1,2] rfl rfl rfl ?_;have next:=B (i+1) A (ns++[⟨a-1,b,c,d,e⟩]) o_ q_ g f
  have e:nav (ns++[⟨a-1,b,c,d,e⟩])=nav ns++[Nod.av ⟨a-1,b,c,d,e⟩]:=by simp
  rw [e] at next
  exact next
def RM(s:aw)(hs:s.length<=1000000000)(r:Res)(O:au)(a:rL Con.av (KF s)=r)(b:CX (KF s)=O):aq 100 [.ref 0 0] (rdO s) r O:=by
 unfold KF at a b;refine cT (E:=E) (fn:=Tryz.f100) (g:=.full 1 _ _) λ_=>gV ?_;refine aQ (o:=dI s) (λ h1=>?_) (λ⟨k,c⟩ h1=>?_)
 .simp only [h1] at a b;have a:Res.pan (bF 10)=r:=a;have b:rdU=O:=b;subst a b;exact zqca24
 simp only [h1] at a b;refine .eff [] [0] _ _ rfl (oW h1) (gV ?_);have d:=fO h1;refine To.part [0,2,6,7] [0,1] rfl rfl rfl ?_;refine To.begin 1 0 179 rfl rfl ?_;exact aEy k o_ r O k.toNat 0 c [] o_ q_ a b
def aIZ{s s':aw}(hs:s.length<=1000000000){v:Con}(h:KF s=some (v,s')):aq 100 [.ref 0 0] (rdO s) (.ret v.av) (rdO s'):=RM s hs _ _ (by rw [h];rfl) (by rw [h];rfl)
def aEx{s:aw}(hs:s.length<=1000000000)(h:KF s=none):aq 100 [.ref 0 0] (rdO s) (.pan (bF 10)) rdU:=RM s hs _ _ (by rw [h];rfl) (by rw [h];rfl)
def _root_.Go.Proofs.YtidhfoefaomodaaGreatDoor.Con.zero:Con:=⟨[],[],0,0⟩
def KG(s:aw):Option (Cmd×aw):=match bV s with
 | none=>none
 | some (k,s)=>if k==1 then (match KF s with
   | none=>none
   | some (c,s)=>some (⟨k,c,Gan.zero,0⟩,s))
  else if k==2 then (match rGan s with
   | none=>none
   | some (g,s)=>some (⟨k,Con.zero,g,0⟩,s))
  else if (k==3||k==4)||k==5 then (match bV s with
   | none=>none
   | some (n,s)=>some (⟨k,Con.zero,Gan.zero,n⟩,s))
  else some (⟨k,Con.zero,Gan.zero,0⟩,s)
abbrev zCs:ay:=[ii 0,.slice 11 [] .nil,.slice 6 [] .nil,ii 0,ii 0,ii 0,ii 0,ii 0,ii 0,ii 0,ii 0,ii 0,ii 0,ii 0,ii 0]
abbrev dcO(s:aw):au:=[.cells 58 zCs,.cells tRd [.str s],.cells 168 [.ref 1 0]]
abbrev dcX(x:Cmd)(s:aw):au:=[.cells 58 x.cs,.cells tRd [.str s],.cells 168 [.ref 1 0]]
abbrev dcU:au:=yD (λ_=>.undef) (dcO [])
def aK9{s:aw}(h:bV s=none):aq 98 [.ref 2 0,.ref 0 0] (dcO s) (.pan (bF 10)) dcU:=by refine aA.blur (ao:=[.cells 58 zCs,.cells tRd [.undef],.cells 168 [.ref 1 0]]) ?_;refine cT (E:=E) (fn:=Tryz.f98) (g:=.full 3 _ _) λ_=>gV ?_;refine .effp [] [1] _ _ rfl (bZ h) ?_;exact zx [0,1,2]
def aPX{s a:aw}(hs:a.length<=1000000000)(h:bV s=some (1,a))(b:KF a=none):aq 98 [.ref 2 0,.ref 0 0] (dcO s) (.pan (bF 10)) dcU:=by refine aA.blur (ao:=[.cells 58 (ii 1::zCs.tail),.cells tRd [.undef],.cells 168 [.ref 1 0]]) ?_;refine cT (E:=E) (fn:=Tryz.f98) (g:=.full 3 _ _) λ_=>gV ?_;refine .eff [] [1] _ _ rfl (bR h) (gV ?_);refine aY (gV ?_);refine .effp [] [1] _ _ rfl (aEx hs b) ?_;exact zx [0,1,2]
def aQy{s a b:aw}{c:Con}(hs:a.length<=1000000000)(h:bV s=some (1,a))(d:KF a=some (c,b)):aq 98 [.ref 2 0,.ref 0 0] (dcO s) (.ret (.tup [])) (dcX ⟨1,c,Gan.zero,0⟩ b):=by refine cT (E:=E) (fn:=Tryz.f98) (g:=.full 3 _ _) λ_=>gV ?_;refine .eff [] [1] _ _ rfl (bR h) (gV ?_);refine aY (gV ?_);refine .eff [] [1] _ _ rfl (aIZ hs d) (gV ?_);exact zx [0,1,2]
def aPW{s a:aw}(h:bV s=some (2,a))(b:rGan a=none):aq 98 [.ref 2 0,.ref 0 0] (dcO s) (.pan (bF 10)) dcU:=by refine aA.blur (ao:=[.cells 58 (ii 2::zCs.tail),.cells tRd [.undef],.cells 168 [.ref 1 0]]) ?_;refine cT (E:=E) (fn:=Tryz.f98) (g:=.full 3 _ _) λ_=>gV ?_;refine .eff [] [1] _ _ rfl (bR h) (gV ?_);refine aN (gV ?_);refine aY (gV ?_);refine .effp [] [1] _ _ rfl (AU b) ?_;exact zx [0,1,2]
def aQx{s e d:aw}{g:Gan}(h:bV s=some (2,e))(i:rGan e=some (g,d)):aq 98 [.ref 2 0,.ref 0 0] (dcO s) (.ret (.tup [])) (dcX ⟨2,Con.zero,g,0⟩ d):=by refine aA.loose (ao:=[.cells 58 [ii 2,.slice 11 [] .nil,.slice 6 [] .nil,ii 0,ii 0,ii g.id,ii g.ten,ii g.pods,ii g.need.a,ii g.need.b,ii g.need.c,ii g.run,ii g.lev,ii g.pref,ii 0],.cells tRd [.str d],.cells 168 [.ref 1 0]]) ?_;refine cT (E:=E) (fn:=Tryz.f98) (g:=.full 3 _ _) λ_=>gV ?_;refine .eff [] [1] _ _ rfl (bR h) (gV ?_);refine aN (gV ?_);refine aY (gV ?_);refine .eff [] [1] _ _ rfl (FI i) (gV ?_);exact zx [0,1,2]
def aPV{s b:aw}{k:Int}(c:k=3\/k=4\/k=5)(h:bV s=some (k,b))(a:bV b=none):aq 98 [.ref 2 0,.ref 0 0] (dcO s) (.pan (bF 10)) dcU:=by
 rcases c with rfl | rfl | rfl
 .refine aA.blur (ao:=[.cells 58 (ii 3::zCs.tail),.cells tRd [.undef],.cells 168 [.ref 1 0]]) ?_;refine cT (E:=E) (fn:=Tryz.f98) (g:=.full 3 _ _) λ_=>gV ?_;refine .eff [] [1] _ _ rfl (bR h) (gV ?_)
  repeat' first | (refine gN hE ?_;conv=>whnf) | refine .effp [] [1] _ _ rfl (bZ a) ?_ | exact rfl | refine zt ?_ | refine zu ?_ ?_ | intro h | fail
  exact zx [0,1,2]
 .refine aA.blur (ao:=[.cells 58 (ii 4::zCs.tail),.cells tRd [.undef],.cells 168 [.ref 1 0]]) ?_;refine cT (E:=E) (fn:=Tryz.f98) (g:=.full 3 _ _) λ_=>gV ?_;refine .eff [] [1] _ _ rfl (bR h) (gV ?_)
  repeat' first | (refine gN hE ?_;conv=>whnf) | refine .effp [] [1] _ _ rfl (bZ a) ?_ | exact rfl | refine zt ?_ | refine zu ?_ ?_ | intro h | fail
  exact zx [0,1,2]
 .refine aA.blur (ao:=[.cells 58 (ii 5::zCs.tail),.cells tRd [.undef],.cells 168 [.ref 1 0]]) ?_;refine cT (E:=E) (fn:=Tryz.f98) (g:=.full 3 _ _) λ_=>gV ?_;refine .eff [] [1] _ _ rfl (bR h) (gV ?_)
  repeat' first | (refine gN hE ?_;conv=>whnf) | refine .effp [] [1] _ _ rfl (bZ a) ?_ | exact rfl | refine zt ?_ | refine zu ?_ ?_ | intro h | fail
  exact zx [0,1,2]
abbrev nCs(k n:Int):ay:=[ii k,.slice 11 [] .nil,.slice 6 [] .nil,ii 0,ii 0,ii 0,ii 0,ii 0,ii 0,ii 0,ii 0,ii 0,ii 0,ii 0,ii n]
def aQw{s c b:aw}{k n:Int}(d:k=3\/k=4\/k=5)(h:bV s=some (k,c))(a:bV c=some (n,b)):aq 98 [.ref 2 0,.ref 0 0] (dcO s) (.ret (.tup [])) (dcX ⟨k,Con.zero,Gan.zero,n⟩ b):=by
 refine aA.loose (ao:=[.cells 58 (nCs k n),.cells tRd [.str b],.cells 168 [.ref 1 0]]) ?_;rcases d with rfl | rfl | rfl
 .refine cT (E:=E) (fn:=Tryz.f98) (g:=.full 3 _ _) λ_=>gV ?_;refine .eff [] [1] _ _ rfl (bR h) (gV ?_)
  repeat' first | (refine gN hE ?_;conv=>whnf) | refine .eff [] [1] _ _ rfl (bR a) ?_ | exact rfl | refine zt ?_ | refine zu ?_ ?_ | intro h | fail
  exact zx [0,1,2]
 .refine cT (E:=E) (fn:=Tryz.f98) (g:=.full 3 _ _) λ_=>gV ?_;refine .eff [] [1] _ _ rfl (bR h) (gV ?_)
  repeat' first | (refine gN hE ?_;conv=>whnf) | refine .eff [] [1] _ _ rfl (bR a) ?_ | exact rfl | refine zt ?_ | refine zu ?_ ?_ | intro h | fail
  exact zx [0,1,2]
 .refine cT (E:=E) (fn:=Tryz.f98) (g:=.full 3 _ _) λ_=>gV ?_;refine .eff [] [1] _ _ rfl (bR h) (gV ?_)
  repeat' first | (refine gN hE ?_;conv=>whnf) | refine .eff [] [1] _ _ rfl (bR a) ?_ | exact rfl | refine zt ?_ | refine zu ?_ ?_ | intro h | fail
  exact zx [0,1,2]
def aQv{s a:aw}{k:Int}(h1:(k==1)=false)(c:(k==2)=false)(h3:(k==3)=false)(d:(k==4)=false)(b:(k==5)=false)(h:bV s=some (k,a)):
  aq 98 [.ref 2 0,.ref 0 0] (dcO s) (.ret (.tup [])) (dcX ⟨k,Con.zero,Gan.zero,0⟩ a):=by
 refine aA.loose (ao:=[.cells 58 (nCs k 0),.cells tRd [.str a],.cells 168 [.ref 1 0]]) ?_;refine cT (E:=E) (fn:=Tryz.f98) (g:=.full 3 _ _) λ_=>gV ?_;refine .eff [] [1] _ _ rfl (bR h) (gV ?_);refine Ae (λ h=>absurd (h.symm.trans h1) d_) (λ_=>gV ?_);refine Ae (λ h=>absurd (h.symm.trans c) d_) (λ_=>gV ?_);refine Ae (λ h=>absurd (h.symm.trans h3) d_) (λ_=>gV ?_);refine Ae (λ h=>absurd (h.symm.trans d) d_) (λ_=>gV ?_);refine Ae (λ h=>absurd (h.symm.trans b) d_) (λ_=>gV ?_);exact zx [0,1,2]
def aPU{s s':aw}{x:Cmd}(hs:s.length<=1000000000)(h:KG s=some (x,s')):aq 98 [.ref 2 0,.ref 0 0] (dcO s) (.ret (.tup [])) (dcX x s'):=by
 unfold KG at h;split at h
 .cases h
 .rename_i k i h1;have g:=cB h1;split at h
  .rename_i b;have b:=eq_of_beq b;subst b;split at h
   .cases h
   .rename_i c;cases h;exact aQy o_ h1 c
  .rename_i d;split at h
   .rename_i b;have b:=eq_of_beq b;subst b;split at h
    .cases h
    .rename_i c;cases h;exact aQx h1 c
   .rename_i e;split at h
    .rename_i b;simp at b;split at h
     .cases h
     .rename_i c;cases h;exact aQw o_ h1 c
    .rename_i a;cases h;simp only [Fl,not_or,Bool.not_eq_true] at d e a;exact aQv d e a.1.1 a.1.2 a.2 h1
def aOm{s:aw}(hs:s.length<=1000000000)(h:KG s=none):aq 98 [.ref 2 0,.ref 0 0] (dcO s) (.pan (bF 10)) dcU:=by
 unfold KG at h;split at h
 .rename_i h1;exact aK9 h1
 .rename_i k d h1;have c:=cB h1;split at h
  .rename_i a;have a:=eq_of_beq a;subst a;split at h
   .rename_i b;exact aPX o_ h1 b
   .cases h
  .split at h
   .rename_i a;have a:=eq_of_beq a;subst a;split at h
    .rename_i b;exact aPW h1 b
    .cases h
   .split at h
    .rename_i a;simp at a;split at h
     .rename_i b;exact aPV o_ h1 b
     .cases h
    .cases h
abbrev d1V:aa:=.func (.func 98) [] [.ref 2 0,.ref 0 0]
noncomputable abbrev Et:Env:=Ed [(152,[.ref 3 0])]
def hEt:ae Et:=hEd _
def aMk{s s':aw}{x:Cmd}(hs:s.length<=1000000000)(h:KG s=some (x,s')):aq 91 [d1V] (dcO s) (.ret (ii 0)) (dcX x s'):=by
 refine cT (E:=E) (fn:=Tryz.f91) (g:=.full 3 _ _) λ_=>gV ?_;refine To.defer (f:=152) (args:=[.ref 3 0]) _ rfl rfl ?_;refine gW hEt ?_;conv=>whnf
 refine .eff [] [0,1,2] _ _ rfl (aPU hs h) ?_;refine gW hEt ?_;conv=>whnf
 refine To.leave (f:=152) (args:=[.ref 3 0]) [] rfl [] [3] rfl (catch_ret 0) ?_;exact zqca14
def aH6{s:aw}(hs:s.length<=1000000000)(h:KG s=none):aq 91 [d1V] (dcO s) (.ret (ii 10)) dcU:=by
 refine cT (E:=E) (fn:=Tryz.f91) (g:=.full 3 _ _) λ_=>gV ?_;refine To.defer (f:=152) (args:=[.ref 3 0]) _ rfl rfl ?_;refine gW hEt ?_;conv=>whnf
 refine .effp [] [0,1,2] _ _ rfl (aOm hs h) ?_;conv=>whnf
 refine To.leave (f:=152) (args:=[.ref 3 0]) [] rfl [] [3] rfl (catch_pan 0 10) ?_;exact zqca14
def _root_.Go.Proofs.YtidhfoefaomodaaGreatDoor.Cmd.zero:Cmd:=⟨0,Con.zero,Gan.zero,0⟩
def dec(s:aw):Option Cmd:=match KG s with
 | some (x,r)=>if r=[]/\chk x=0 then some x else none
 | none=>none
def decX(s:aw):Cmd:=(dec s).getD Cmd.zero
def decE(s:aw):Int:=match dec s with | some _=>0 | none=>10
def decode_ok(s:aw)(hs:s.length<=1000000000):aq 43 [.str s] [] (.ret (.tup [(decX s).av,ii (decE s)])) []:=by
 refine c_ Tryz.f43 λ_=>gV ?_;refine aQ (o:=KG s) (λ h=>?_) (λ⟨x,r⟩ h=>?_)
 .have c:decX s=Cmd.zero:=by unfold decX dec;rw [h];rfl
  have k:decE s=10:=by unfold decE dec;rw [h]
  rw [c,k];refine .eff [] [1,2,3] _ _ rfl (aH6 hs h) ?_
  repeat' first | (refine gN hE ?_;conv=>whnf) | exact rfl | refine zt ?_ | refine zu ?_ ?_ | intro h | fail
 .refine .eff [] [1,2,3] _ _ rfl (aMk hs h) (gV ?_);refine aN (gV ?_);refine Ae (λ a=>?_) (λ a=>?_)
  .have a:(!(r==[]))=true:=a;have d:¬ r=[]:=by intro e;rw [e] at a;simp at a
   have b:dec s=none:=by unfold dec;rw [h];exact if_neg (λ h=>d h.1)
   have c:decX s=Cmd.zero:=by unfold decX;rw [b];rfl
   have k:decE s=10:=by unfold decE;rw [b]
   rw [c,k]
   repeat' first | (refine gN hE ?_;conv=>whnf) | exact rfl | refine zt ?_ | refine zu ?_ ?_ | intro h | fail
  .have a:(!(r==[]))=false:=a;have d:r=[]:=by simpa using a
   refine gV ?_;refine .pure _ [] (check_ok x) (gV ?_);refine Ae (λ i=>?_) (λ i=>?_)
   .have i:(chk x !=0)=true:=i;have j:¬ chk x=0:=by simpa using i
    have b:dec s=none:=by unfold dec;rw [h];exact if_neg (λ h=>j h.2)
    have c:decX s=Cmd.zero:=by unfold decX;rw [b];rfl
    have k:decE s=10:=by unfold decE;rw [b]
    rw [c,k]
    repeat' first | (refine gN hE ?_;conv=>whnf) | exact rfl | refine zt ?_ | refine zu ?_ ?_ | intro h | fail
   .have i:(chk x !=0)=false:=i;have j:chk x=0:=by simpa using i
    have b:dec s=some x:=by unfold dec;rw [h];exact if_pos ⟨d,j⟩
    have c:decX s=x:=by unfold decX;rw [b];rfl
    have k:decE s=0:=by unfold decE;rw [b]
    rw [c,k]
    repeat' first | (refine gN hE ?_;conv=>whnf) | exact rfl | refine zt ?_ | refine zu ?_ ?_ | intro h | fail
def bJ{n:Int}(a:0<=n)(h:n<=1099511627777)(s:aw):bV (putN n.toNat++s)=some (n,s):=by unfold bV;rw [aF3 n.toNat s o_];simp only [Jp,Dy,Ha,and_true];omega
def vS{v:V3}(h:okI v.l=true)(s:aw):qH (pl v.l++s)=some (v,s):=by
 obtain ⟨h1,d,h3⟩:=aDj h;have e:pl v.l++s=putN v.a.toNat++(putN v.b.toNat++(putN v.c.toNat++s)):=by simp [pl,V3.l]
 rw [e];unfold qH;rw [bJ h1.1 o_];dsimp only;rw [bJ d.1 o_];dsimp only;rw [bJ h3.1 o_]
def rM{g:Gan}(h:g.ok=true)(s:aw):rGan (pl g.il++s)=some (g,s):=by
 obtain ⟨h1,b,h3⟩:=gan_b h;have d:=okI_b h1 g.id s_;have i:=okI_b h1 g.ten s_;have c:=okI_b h1 g.pods s_;have j:=okI_b h3 g.run s_;have a:=okI_b h3 g.lev s_;have f:=okI_b h3 g.pref s_;have e:pl g.il++s=putN g.id.toNat++(putN g.ten.toNat++(putN g.pods.toNat++(pl g.need.l++(putN g.run.toNat++(putN g.lev.toNat++(putN g.pref.toNat++s)))))):=by simp [pl,Gan.il,V3.l]
 rw [e];unfold rGan;rw [bJ d.1 o_];dsimp only;rw [bJ i.1 o_];dsimp only;rw [bJ c.1 o_];dsimp only;rw [vS b];dsimp only;rw [bJ j.1 o_];dsimp only;rw [bJ a.1 o_];dsimp only;rw [bJ f.1 o_]
def aED{x:Nod}(h:x.ok=true)(s:aw):aI1 (pl x.il++s)=some (x,s):=by
 obtain ⟨h1,c,h3,d,a⟩:=aFf h;have e:pl x.il++s=putN (x.p+1).toNat++(putN x.w.toNat++(pl x.n.l++(pl x.b.l++(pl x.l.l++s)))):=by simp [pl,Nod.il,V3.l]
 rw [e];unfold aI1;rw [bJ o_ o_];dsimp only;rw [bJ c.1 o_];dsimp only;rw [vS h3];dsimp only;rw [vS d];dsimp only;rw [vS a];simp
def AY{x:Hos}(h:x.ok=true)(s:aw):AZ (pl x.il++s)=some (x,s):=by
 obtain ⟨h1,a⟩:=aFV h;have g:=okI_b h1 x.f s_;have i:=okI_b h1 x.b s_;have d:=okI_b h1 x.r s_;have e:pl x.il++s=putN x.f.toNat++(putN x.b.toNat++(putN x.r.toNat++(pl x.c.l++s))):=by simp [pl,Hos.il,V3.l]
 rw [e];unfold AZ;rw [bJ g.1 o_];dsimp only;rw [bJ i.1 o_];dsimp only;rw [bJ d.1 o_];dsimp only;rw [vS a]
def putN_pos(n:Nat):1<=(putN n).length:=by rw [putN];split<;>simp
def SL:∀ (l:bc),l.length<=(pl (nodL l)).length
 | []=>by simp
 | x::r=>by
  have h1:=SL r;have a:=putN_pos (x.p+1).toNat;simp only [nodL,pl_append,Ai,Ak];have:1<=(pl x.il).length:=by simp only [Nod.il,pl,Ai];omega
  omega
def TF:∀ (l:List Hos),l.length<=(pl (hosL l)).length
 | []=>by simp
 | x::r=>by
  have h1:=TF r;have a:=putN_pos x.f.toNat;simp only [hosL,pl_append,Ai,Ak];have:1<=(pl x.il).length:=by simp only [Hos.il,pl,Ai];omega
  omega
def iQ{n:Int}(a:0<=n)(h:n<=1099511627777)(s:aw)(hs:n<=s.length):dI (putN n.toNat++s)=some (n,s):=by unfold dI;rw [bJ a h];dsimp only;rw [if_pos (by simpa using hs)]
def aEE:∀ (l:bc) (a:bc) (s:aw),zQ l=true->rN l.length a (pl (nodL l)++s)=rHs (a++l) s
 | [],a,s,_=>by simp [rN,nodL,pl]
 | x::r,a,s,h=>by
  simp only [zQ,Af] at h;have e:pl (nodL (x::r))++s=pl x.il++(pl (nodL r)++s):=by simp [nodL,pl_append]
  rw [e,Ak];unfold rN;rw [aED h.1];dsimp only;rw [aEE r (a++[x]) s h.2];simp
def G8(ns:bc):∀ (l:List Hos) (a:List Hos) (s:aw),uR l=true->rH ns l.length a (pl (hosL l)++s)=aI2 ns (a++l) s
 | [],a,s,_=>by simp [rH,hosL,pl]
 | x::r,a,s,h=>by
  simp only [uR,Af] at h;have e:pl (hosL (x::r))++s=pl x.il++(pl (hosL r)++s):=by simp [hosL,pl_append]
  rw [e,Ak];unfold rH;rw [AY h.1];dsimp only;rw [G8 ns r (a++[x]) s h.2];simp
def RQ{c:Con}(h:c.tok=true)(i:c.ns.length<=12)(j:c.hs.length<=24)(s:aw):KF (pl c.il++s)=some (c,s):=by
 simp only [Con.tok,Af] at h;obtain ⟨⟨h1,a⟩,h3⟩:=h;have b:=okI_b h3 c.half s_;have d:=okI_b h3 c.age s_;have l1:(nav c.ns).length=c.ns.length:=by simp
 have l2:(hav c.hs).length=c.hs.length:=by simp
 have g:=SL c.ns;have f:=TF c.hs;have e:pl c.il++s=putN ((nav c.ns).length:Int).toNat++(pl (nodL c.ns)++(putN ((hav c.hs).length:Int).toNat++(pl (hosL c.hs)++(putN c.half.toNat++(putN c.age.toNat++s))))):=by simp [pl,pl_append,Con.il]
 rw [e];unfold KF;rw [iQ o_ o_ _ (by simp only [Ai];omega)];dsimp only;rw [Br,l1,aEE c.ns [] _ h1];unfold rHs;rw [iQ o_ o_ _ (by simp only [Ai];omega)];dsimp only;rw [Br,l2,G8 _ c.hs [] _ a];unfold aI2;rw [bJ b.1 o_];dsimp only;rw [bJ d.1 o_];simp
def aHc{c:Con}(h:c.non=true):c=Con.zero:=by
 simp only [Con.non,Af,beq_iff_eq] at h;obtain ⟨⟨⟨h1,b⟩,h3⟩,d⟩:=h;obtain ⟨ns,hs,half,age⟩:=c;dsimp only at h1 b h3 d;have e:ns=[]:=by cases ns with | nil=>rfl | cons a l=>simp at h1;omega
 have f:hs=[]:=by cases hs with | nil=>rfl | cons a l=>simp at b;omega
 subst e f h3 d;rfl
def TP{g:Gan}(h:g.isZ=true):g=Gan.zero:=Gan.eqb_eq.1 h
def rCmd_put{x:Cmd}(T:Told x):KG (pl x.il)=some (x,[]):=by
 obtain ⟨k,c,g,n⟩:=x;have l1:(nav c.ns).length=c.ns.length:=by simp
 have l2:(hav c.hs).length=c.hs.length:=by simp
 have q:((nav c.ns).length:Int)<=12:=T.ln;have j:((hav c.hs).length:Int)<=24:=T.lh;have l:1<=k/\k<=6:=T.k;have p:k=1\/c.non=true:=T.c;have i:k=2\/g.isZ=true:=T.g;have d:(k=3\/k=4\/k=5)\/n=0:=T.n;have h:0<=n/\n<=1099511627776:=T.nok;have cok:c.tok=true:=T.cok;have gok:g.ok=true:=T.gok;clear T;have e:pl (Cmd.il ⟨k,c,g,n⟩)=putN k.toNat++pl (if k==1 then c.il else if k==2 then g.il else if k==6 then [] else [n]):=rfl;rw [e];unfold KG;rw [bJ o_ o_];dsimp only;rcases p with rfl | f
 .have b:g=Gan.zero:=TP (i.resolve_left o_);have a:n=0:=d.resolve_left o_;subst b a;have:=RQ cok o_ o_ [];rw [Ar] at this;simp only [beq_self_eq_true,if_true];rw [this]
 .have f:c=Con.zero:=aHc f;subst f;rcases i with rfl | b
  .have a:n=0:=d.resolve_left o_;subst a;have:=rM gok [];exact zqca31
  .have b:g=Gan.zero:=TP b;subst b;have one:bV (pl [n])=some (n,[]):=bJ h.1 o_ [];have m:(match bV (pl [n]) with | none=>none | some (n,s)=>some ((⟨3,Con.zero,Gan.zero,n⟩:Cmd),s))=some (⟨3,Con.zero,Gan.zero,n⟩,[]):=by rw [one]
   have r:(match bV (pl [n]) with | none=>none | some (n,s)=>some ((⟨4,Con.zero,Gan.zero,n⟩:Cmd),s))=some (⟨4,Con.zero,Gan.zero,n⟩,[]):=by rw [one]
   have t:(match bV (pl [n]) with | none=>none | some (n,s)=>some ((⟨5,Con.zero,Gan.zero,n⟩:Cmd),s))=some (⟨5,Con.zero,Gan.zero,n⟩,[]):=by rw [one]
   have o:k=1\/k=2\/k=3\/k=4\/k=5\/k=6:=o_;rcases o with rfl | rfl | rfl | rfl | rfl | rfl
   .have a:n=0:=d.resolve_left o_;subst a;have:=RQ (c:=Con.zero) rfl d_ d_ [];rw [Ar] at this;simp only [beq_self_eq_true,if_true];rw [this]
   .have a:n=0:=d.resolve_left o_;subst a;have:=rM (g:=Gan.zero) rfl [];exact zqca31
   .exact m
   .exact r
   .exact t
   .have a:n=0:=d.resolve_left o_;subst a;rfl
def iP{s s':aw}{n:Int}(h:bV s=some (n,s')):s=putN n.toNat++s':=by
 unfold bV at h;split at h
 .rename_i m k a;cases h;obtain ⟨x,c,b,_⟩:=RX 9 0 0 s m k rfl d_ a;have:x=m:=o_;subst this;rw [Br,b,Iz,Bv]
 .cases h
def aEA{s s':aw}{v:V3}(h:qH s=some (v,s')):s=pl v.l++s':=by
 unfold qH at h;split at h
 .cases h
 .rename_i h1;split at h
  .cases h
  .rename_i a;split at h
   .cases h
   .rename_i h3;cases h;rw [iP h1,iP a,iP h3];simp [pl,V3.l]
def RP{s s':aw}{v:Gan}(h:rGan s=some (v,s')):s=pl v.il++s':=by
 unfold rGan at h;split at h
 .cases h
 .rename_i h1;split at h
  .cases h
  .rename_i c;split at h
   .cases h
   .rename_i h3;split at h
    .cases h
    .rename_i d;split at h
     .cases h
     .rename_i b;split at h
      .cases h
      .rename_i a;split at h
       .cases h
       .rename_i e;cases h;rw [iP h1,iP c,iP h3,aEA d,iP b,iP a,iP e];simp [pl,Gan.il,V3.l]
def G9{s s':aw}{n:Int}(h:dI s=some (n,s')):bV s=some (n,s'):=by
 unfold dI at h;split at h
 .rename_i h1;split at h
  .cases h;exact h1
  .cases h
 .cases h
def dec_enc{x:Cmd}(h:chk x=0):decX (encB x)=x/\decE (encB x)=0:=by
 have e:encB x=pl x.il:=if_pos h;have hd:dec (encB x)=some x:=by unfold dec;rw [e,rCmd_put (chk_told h)];exact if_pos ⟨rfl,h⟩
 unfold decX decE;rw [hd];exact ⟨rfl,rfl⟩
end Go.Proofs.YtidhfoefaomodaaGreatDoor.C8
namespace Go.Proofs.YtidhfoefaomodaaGreatDoor.SW
open Go Go.AW Go.Proofs Go.RowKit
set_option maxRecDepth 100000
set_option maxHeartbeats 2000000
abbrev tWr:TypeId:=160
def A8:liesAt Tryz.prog Tryz.prog.depth tWr (2 / Tryz.prog.cellsOf tWr) 0 158 1=true:=by kernel_rfl
def AP:(Tryz.prog.info? 158).map (·.size)=some 2:=by kernel_rfl
def QN:Tryz.prog.underlying 156=some (.pointer 158):=by kernel_rfl
def QM:Tryz.prog.underlying 334=some .unsafePointer:=by kernel_rfl
def TY:Tryz.prog.funcs[225]? =some Tryz.f225:=by kernel_rfl
def iX(b:Nat)(w:World)(h:w.cell? ⟨b,0,none⟩=some (.pointer none))(a:w.shape? b=some (tWr,2))(g:w.frozen? ⟨b,0,none⟩=false):
  Calls Tryz.prog 151 #[.pointer (some ⟨b,0,none⟩)] w λ e w'=>e= .returned (.tuple #[])/\w'=w.setCell ⟨b,0,none⟩ (.pointer (some ⟨b,0,none⟩)):=by
 obtain ⟨j,d,c⟩:=Co.1 AP
 go_enter Tryz.func151,Tryz.ntmps151
 go_wp2
 rw [Lib.run_to_unsafe w ⟨b,0,none⟩ QN QM d (by rw [c];decide) a (Lz 1)];simp only [Ep];rw [Oper.upon_value]
 go_wp2
 rw [run_callFunc_extern TY (by kernel_rfl) (by kernel_rfl) (by kernel_rfl) (e:=Extern.AbiNoEscape.same) (by kernel_rfl)];rw [Lib.run_noEscape];simp only [Ep];rw [Oper.upon_value]
 go_wp2
 rw [Lib.run_from_unsafe w ⟨b,0,none⟩ QM QN d a A8];simp only [Ep];rw [Oper.upon_value]
 go_wp2
 go_end0;exact ⟨rfl,rfl⟩
def aDq:Tryz.prog.underlying 254=some (.pointer 5):=by kernel_rfl
def aHp:Tryz.prog.cellsOf 5=1:=by kernel_rfl
def rC(b g cap:Nat)(p:Value)(a:Array Value)(l:aw)(w:World)(k:w.heap[b]? =some (.cells #[p,.slice (some ⟨g,0,none⟩) l.length cap] tWr (0,0)))(q:w.heap[g]? =some (.cells a 5 (0,0)))(n:l≠[])
  (o:l.length<=cap) (h:cap<=maxLen) (s:a.size=cap) (c:∀ (j:Nat) x,l[j]? =some x->w.cell? ⟨g,j,none⟩=some (.int .u8 x.toNat)):
  Calls Tryz.prog 90 #[.pointer (some ⟨b,0,none⟩)] w λ e w'=>e= .returned (.string ⟨l.toArray⟩)/\NI g l.length w w':=by
 have d:l.length≠0:=by simpa using n
 have y:w.drew.cell? ⟨b,1,none⟩=some (.slice (some ⟨g,0,none⟩) l.length cap):=by exact zqca32
 have u:(Je #[132] 254 #[.slice (some ⟨g,0,none⟩) l.length cap]).run Tryz.prog w.drew= .ok (.pointer (some ⟨g,0,none⟩)) w.drew:=
  Lib.run_unsafeSliceData_row _ _ _ _ _ _ o_
 have v:(Jy #[254,3] 9 #[.pointer (some ⟨g,0,none⟩),.int .i64 l.length]).run Tryz.prog w.drew= .ok (.string ⟨l.toArray⟩) (w.drew.freeze ⟨g,0,none⟩ l.length):=by exact zqca13
 have i:Tryz.prog.follows Departure.mixedOrders=true:=hE.mix
 go_enter Tryz.func90,Tryz.ntmps90
 go_wp2
 go_region_o
 all_goals (go_wp2;go_ret;exact ⟨rfl,W8 d⟩)
def cc_fresh(s:aa):aq 151 [.ref 0 0] [.cells tWr [.nilptr,s]] (.ret (.tup [])) [.cells tWr [.ref 0 0,s]]:=
 qP (λ_ _=>by rfl) iX s
def str_ok(l:aw)(a:l≠[])(p:aa):aq 90 [.ref 0 0] [.cells tWr [p,.slice 1 (l.map ub) (.own 1 0)],.tail 0 1 5] (.ret (.str l)) [.dead,.dead]:=
 oY (λ_ _=>by rfl) rC l a p
open Go Go.AW Go.Proofs
open C8 (pl putN put_ok pn_len)
set_option maxRecDepth 10000
abbrev wrO(bs:aw)(g:Nat):au:=[.cells tWr [.ref 0 0,.slice 1 (bs.map ub) (.own 1 g)],.tail g 1 5]
def P3(xs:ay):aq 151 [.ref 0 0] [.cells tWr [.ref 0 0,.slice 1 xs (.own 1 0)],.tail 0 1 5] (.ret (.tup [])) [.cells tWr [.ref 0 0,.slice 1 xs (.own 1 0)],.tail 0 1 5]:=by
 refine cT (E:=E) (fn:=Tryz.f151) (g:=.full 2 _ _) λ_=>?_
 repeat' first | (refine gN hE ?_;conv=>whnf) | exact rfl | refine zt ?_ | refine zu ?_ ?_ | intro h | fail
 exact zx [0,1]
def zS(s:aw)(hs:s.length<=1000):aq 87 [.ref 0 0,.str s] [.cells tWr [.nilptr,.slice 1 [] .nil]] (.ret (.tup [ii s.length,.nilif])) (wrO s 0):=by exact zqca11
def ws_ok(bs s:aw)(hs:bs.length+s.length<=1000000):aq 87 [.ref 0 0,.str s] (wrO bs 0) (.ret (.tup [ii s.length,.nilif])) (wrO (bs++s) 1):=by exact zqca8
noncomputable abbrev TZ:Func:=Tryz.f86
def CY(l:ax)(hl:((iv l).length:Int)<=9223372036854775807)(t:∀ n∈l,n<=9223372036854775807)(B:aw)(f:Nat)(o:10*l.length<=1000):∀ (n i g:Nat) (bs:aw),i+n=l.length->(g=0\/g=1)->(n=0->g=f)->(0<n->f=1)->bs.length+10*n<=100000->bs++pl (l.drop i)=B->
  To E TZ (.full 2 (.ret (.tup [])) (wrO B f)) (.head (stk TZ 0) [(0,.ref 0 0),(6,.slice 1 (iv l) .no),(7,.int .i64 ((iv l).length:Nat)),(8,.int .i64 i)] (wrO bs g)):=by
 have s:(iv l).length=l.length:=by simp
 intro n;induction n with
 | zero=>
  exact zqca10
 | succ n u=>
  intro i g bs r d _ k j a;have p:=k o_;subst p;have b:i<l.length:=o_;rw [Aa b] at a;have c:=t l[i] (Ax b);generalize q:l[i]=x at a c;have a:bs++(putN x.toNat++pl (l.drop (i+1)))=B:=a;rw [<-Ag] at a;have get:(iv l)[i]? =some (ii x):=(dJ b).trans (by rw [q]);have hp:=pn_len c;refine gV ?_;refine aT λ h=>gV ?_;refine ⟨i,rfl,gV ?_⟩;refine ⟨_,get,gV ?_⟩;refine .pure _ [] (C8.put_ok x) ?_;exact zqca5
def nums_ok(l:ax)(d:l≠[])(c:∀ n∈l,n<=9223372036854775807)(a:l.length<=100)(bs:aw)(e:bs.length+10*l.length<=100000):
  aq 86 [.ref 0 0,.slice 1 (iv l) .no] (wrO bs 0) (.ret (.tup [])) (wrO (bs++pl l) 1):=by
 have i:(iv l).length=l.length:=by simp
 have b:0<l.length:=Eg.2 d;refine cT (E:=E) (fn:=Tryz.f86) (g:=.full 2 _ _) λ_=>?_;exact zqca25
def nums_fresh(k:Int)(a:k<=9223372036854775807):aq 86 [.ref 0 0,.slice 1 [ii k] .no] [.cells tWr [.nilptr,.slice 1 [] .nil]] (.ret (.tup [])) (wrO (putN k.toNat) 0):=by have hp:=pn_len a;refine cT (E:=E) (fn:=Tryz.f86) (g:=.full 1 _ _) λ_=>gV ?_;refine gV ?_;refine Ae (λ_=>?_) (λ h=>absurd (of_decide_eq_false h) s_);refine gV ?_;refine ⟨0,rfl,gV ?_⟩;refine ⟨_,rfl,gV ?_⟩;refine .pure _ [] (C8.put_ok k) (gV ?_);refine .sole rfl (.eff [] [0] _ _ rfl (zS _ o_) ?_);exact zqca6
end Go.Proofs.YtidhfoefaomodaaGreatDoor.SW
namespace Go.Proofs.YtidhfoefaomodaaGreatDoor
open Go Go.AW Go.Proofs
set_option maxRecDepth 10000
def ML(x i:Nat):UInt8:=Dj (x / 2 ^ (8*i) % 256)
def KM(x i:Nat):aw:=(Du i).map (ML x)
def BM(x:Nat):aw:=KM x 8
def nE(x i:Nat):(KM x i).length=i:=by simp [KM]
def MK(x i:Nat):KM x (i+1)=KM x i++[ML x i]:=by simp [KM,Mr]
def aQr(x i:Nat):IntKind.u8.wrap ((x:Int).fdiv (2 ^ (8*i)))=((((ML x i).toNat:Nat)):Int):=by
 rw [Ei _ (by exact Int.le_of_lt (Int.pow_pos d_))];have:(x:Int) / 2 ^ (8*i)=((x / 2 ^ (8*i):Nat):Int):=by simp
 rw [this,NJ,ML,Hh,Nat.mod_mod]
noncomputable abbrev fPF:Func:=Tryz.f88
def aBW(x:Nat):∀ (m i:Nat) (row:ay),i+m=8->row=(KM x i).map ub++Aj m (.int .u8 0)->
  To E fPF (.pure (.ret (.str (BM x)))) (.head (stk fPF 0) [(0,.int .u64 x),(3,.row 0 0),(7,.int .i64 8),(8,.int .i64 i)] [.row 0 1 5 row]):=by
 intro m;induction m with
 | zero=>
  intro i row d a;have e:i=8:=o_;subst e;subst a;refine gV ?_;refine aF λ h=>gV ?_;refine Aq (KM x 8) (Ae s_ (Ae (by simp [nE]) (gV ?_)));rfl
 | succ m f=>
  intro i row d a;have b:row.length=8:=by rw [a];simp [nE];omega
  have c:(8*(i:Int)).toNat=8*i:=o_;have g:=aQr x i
  have next:=f (i+1) (row.set i (ub (ML x i))) o_ (by
   rw [a,MK,Bq,Hj _ _ (by simp [nE])]
   simp [nE,Le])
  refine gV ?_;refine aT λ h=>?_
  repeat' first | (refine gN hE ?_;conv=>whnf) | refine @Kx (inR IntKind.u8 _/\_) _ ?_ | refine aJ ?_ | refine Ae (Ae (show (0:Int)<=8*(i:Int) by omega) (show (8*(i:Int)).toNat<=64 by omega)) ?_ | refine ⟨i,rfl,?_⟩ | refine Ae (show i<row.length by omega) ?_ | exact rfl | refine zt ?_ | refine zu ?_ ?_ | intro h | fail
  refine To.part [0,3,7,8] [0] rfl rfl rfl ?_;rw [c,g];exact next
def aJc(x:Nat):aq 88 [.int .u64 x] [] (.ret (.str (BM x))) []:=by
 have next:=aBW x 8 0 (Aj 8 (.int .u8 0)) rfl rfl
 refine c_ Tryz.f88 λ_=>?_
 repeat' first | (refine gN hE ?_;conv=>whnf) | exact rfl | refine zt ?_ | refine zu ?_ ?_ | intro h | fail
 refine To.part [0,3,7,8] [0] rfl rfl rfl ?_;exact next
end Go.Proofs.YtidhfoefaomodaaGreatDoor
namespace Go.Proofs.YtidhfoefaomodaaGreatDoor.C8
open Go Go.AW Go.Proofs
set_option maxRecDepth 10000
def SH(a b c:Int)(i:a<=9223372036854775807)(d:b<=9223372036854775807)(e:c<=9223372036854775807):aq 95 [.ref 0 0,.slice 1 [ii a,ii b,ii c] .no] [.cells tWr [.nilptr,.slice 1 [] .nil]] (.ret (.tup [])) (wrO (putN a.toNat++putN b.toNat++putN c.toNat) 0):=by have j:=pn_len i;have l:=pn_len d;have k:=pn_len e;refine cT (E:=E) (fn:=Tryz.f95) (g:=.full 1 _ _) λ_=>gV ?_;refine gV ?_;refine Ae (λ_=>?_) (λ h=>absurd (of_decide_eq_false h) s_);refine gV ?_;refine ⟨0,rfl,gV ?_⟩;refine ⟨_,rfl,gV ?_⟩;refine .pure _ [] (put_ok _) (gV ?_);refine .sole rfl (.eff [] [0] _ _ rfl (zS _ o_) (gV ?_));refine aJ (gV ?_);refine gV ?_;refine Ae (λ_=>?_) (λ h=>absurd (of_decide_eq_false h) s_);refine gV ?_;refine ⟨1,rfl,gV ?_⟩;refine ⟨_,rfl,gV ?_⟩;refine .pure _ [] (put_ok _) (gV ?_);refine .sole rfl (.eff [] [0,1] _ _ rfl (ws_ok _ _ o_) (gV ?_));refine aJ (gV ?_);refine gV ?_;refine Ae (λ_=>?_) (λ h=>absurd (of_decide_eq_false h) s_);refine gV ?_;refine ⟨2,rfl,gV ?_⟩;refine ⟨_,rfl,gV ?_⟩;refine .pure _ [] (put_ok _) (gV ?_);refine .sole rfl (.eff [] [0,1] _ _ rfl (ws_ok _ _ q_) ?_);exact zqca6
def QH(g:Gan)(h:g.ok=true):aq 97 [.ref 0 0,g.av] [.cells tWr [.nilptr,.slice 1 [] .nil]] (.ret (.tup [])) (wrO (pl g.il) 0):=by
 obtain ⟨h1,a,h3⟩:=gan_b h;have c:=l3_m h1 g.id s_;have d:=l3_m h1 g.ten s_;have b:=l3_m h1 g.pods s_;have i:=pn_len c;have k:=pn_len d;have j:=pn_len b;have l2:=pl_len (v3_m a);simp only [V3.l,Ak,Bz] at l2;have e:pl g.il=(putN g.id.toNat++putN g.ten.toNat++putN g.pods.toNat)++pl g.need.l++pl [g.run,g.lev,g.pref]:=by simp [pl,Gan.il,V3.l]
 rw [e];refine cT (E:=E) (fn:=Tryz.f97) (g:=.full 1 _ _) λ_=>gV ?_;refine .eff [] [0] _ _ rfl (aA.strip (SH g.id g.ten g.pods c d b)) (gV ?_);refine .eff [] [0,2] _ _ rfl (wQ g.need a _ q_) (gV ?_);refine .eff [] [0,2] _ _ rfl (aA.strip (nums_ok [g.run,g.lev,g.pref] s_ (l3_m h3) s_ _ (by simp [V3.l];omega))) ?_;refine gV ?_;refine ⟨[],[0,2],⟨rfl,rfl⟩,?_⟩;exact ⟨rfl,rfl⟩
def pg_ok(g:Gan)(h:g.ok=true):aq 89 [g.av] [] (.ret (.str (pl g.il))) []:=by have a:pl g.il≠[]:=pl_ne _ _;refine c_ Tryz.f89 λ_=>gV ?_;refine .eff [] [1] _ _ rfl (QH g h) (gV ?_);refine .eff [] [1,2] _ _ rfl (str_ok _ a _) ?_;refine gW hE ?_;conv=>whnf
end Go.Proofs.YtidhfoefaomodaaGreatDoor.C8
namespace Go.Proofs.YtidhfoefaomodaaGreatDoor
open Go Go.AW Go.Proofs
set_option maxRecDepth 10000
def Sta.cmd(s:Sta):Cmd:=⟨1,s.c,Gan.zero,0⟩
def kP(s:Sta):aw:=C8.encB s.cmd
def yW:az->aw
 | []=>[]
 | x::r=>BM x++yW r
def uI:a7->aw
 | []=>[]
 | x::r=>(C8.pl x.g.il++C8.pl [x.seq,x.at'])++uI r
def qG:a6->aw
 | []=>[]
 | x::r=>(C8.pl x.g.il++C8.pl [x.seq,x.at',x.st,x.fl]++C8.pl x.hs)++qG r
def cE(s:Sta):aw:=C8.putN (kP s).length++kP s++C8.pl [s.now,s.nxt,(s.hist.length:Int)]++yW s.hist++C8.pl [(s.pend.length:Int)]++uI s.pend++C8.pl [(s.run.length:Int)]++qG s.run
structure Wr(s:Sta):Prop where
 con:(kP s).length<=10000
 nums:0<=s.now/\s.now<=1099511627776/\0<=s.nxt/\s.nxt<=1099511627776
 his:s.hist.length<=100
 pen:s.pend.length<=32
 run:s.run.length<=32
 pg:∀ x∈s.pend,x.g.ok=true/\okI [x.seq,x.at']=true
 rg:∀ x∈s.run,x.g.ok=true/\okI [x.seq,x.at',x.st,x.fl]=true/\okI x.hs=true/\x.hs≠[]/\x.hs.length<=16
noncomputable abbrev T3:Func:=Tryz.f40
abbrev enO(bs:aw)(g:Nat):au:=SW.wrO bs g
def BH(g:Gan)(h:g.ok=true):(C8.pl g.il).length<=90:=by
 obtain ⟨h1,a,h3⟩:=C8.gan_b h;have l1:=C8.pl_len (C8.l3_m h1);have l2:=C8.pl_len (C8.v3_m a);have b:=C8.pl_len (C8.l3_m h3);have e:C8.pl g.il=C8.pl [g.id,g.ten,g.pods]++C8.pl g.need.l++C8.pl [g.run,g.lev,g.pref]:=by simp [C8.pl,Gan.il,V3.l]
 simp only [V3.l,Ak,Bz] at l1 l2 b;rw [e,Ai,Ai];simp only [V3.l];omega
def qJ{l:ax}(h:okI l=true):∀ n∈l,n<=9223372036854775807:=λ n a=>by have:=C8.okI_b h n a;omega
def aKF(s:Sta)(w:Wr s)(B:aw)(d:B≠[]):∀ (m i:Nat) (bs:aw),i+m=s.run.length->bs.length+300*m<=40000->bs++qG (s.run.drop i)=B->
  To E T3 (.pure (.ret (.tup [.str B,ii 0]))) (.head (stk T3 2) [(7,.ref 0 0),(97,.slice 14 (rav s.run) .no),(98,.int .i64 ((rav s.run).length:Nat)),(99,ii (i:Int))] (enO bs 0)):=by
 have l:(rav s.run).length=s.run.length:=by simp
 have r:=w.run;intro m;induction m with
 | zero=>
  intro i bs o f a;rw [Ab o_] at a;have a:bs++[]=B:=a;rw [Ar] at a;subst a;refine gV ?_;refine aF λ h=>gV ?_;refine .eff [] [0,1] _ _ rfl (SW.str_ok _ d _) ?_;refine gW hE ?_;conv=>whnf
 | succ m q=>
  intro i bs o f a;have b:i<s.run.length:=o_;rw [Aa b] at a;have get:=cF b;obtain ⟨e,c,j,k,n⟩:=w.rg s.run[i] (Ax b);generalize s.run[i]=x at a get e c j k n;have a:bs++((C8.pl x.g.il++C8.pl [x.seq,x.at',x.st,x.fl]++C8.pl x.hs)++qG (s.run.drop (i+1)))=B:=a;rw [<-Ag,<-Ag,<-Ag] at a;have l1:=BH x.g e;have l2:=C8.pl_len (qJ c);have t:=C8.pl_len (qJ j);simp only [Ak,Bz] at l2;have hp:=C8.pg_ok x.g e;have h1:=SW.ws_ok bs (C8.pl x.g.il) o_;have p:=SW.nums_ok [x.seq,x.at',x.st,x.fl] s_ (qJ c) s_ (bs++C8.pl x.g.il) q_;have h3:=SW.nums_ok x.hs k (qJ j) o_ (bs++C8.pl x.g.il++C8.pl [x.seq,x.at',x.st,x.fl]) (by simp only [Ai];omega);have next:=q (i+1) _ o_ (by simp only [Ai];omega) a
  refine gV ?_;refine aT λ h=>gV ?_;refine ⟨i,rfl,gV ?_⟩;refine ⟨_,get,gV ?_⟩;refine .pure _ [] hp (gV ?_);refine .sole rfl (.eff [] [0,1] _ _ rfl h1 (gV ?_));refine .eff [] [0,1] _ _ rfl (aA.strip p) (gV ?_);refine .eff [] [0,1] _ _ rfl h3 (gV ?_);refine aJ (gV ?_);refine To.part [7,97,98,99] [0,1] rfl rfl rfl ?_;exact next
def aKG(s:Sta)(w:Wr s)(B:aw)(e:B≠[]):∀ (m i:Nat) (bs:aw),i+m=s.pend.length->bs.length+150*m<=20000->bs++uI (s.pend.drop i)++(C8.pl [(s.run.length:Int)]++qG s.run)=B->
  To E T3 (.pure (.ret (.tup [.str B,ii 0]))) (.head (stk T3 1) [(1,.ptr s.cs),(7,.ref 0 0),(69,.slice 11 (pnv s.pend) .no),(70,.int .i64 ((pnv s.pend).length:Nat)),(71,ii (i:Int))] (enO bs 0)):=by
 have k:(pnv s.pend).length=s.pend.length:=by simp
 have c:(rav s.run).length=s.run.length:=by simp
 have o:=w.pen;have q:=w.run;intro m;induction m with
 | zero=>
  intro i bs l j a;rw [Ab o_] at a;have a:bs++[]++(C8.pl [(s.run.length:Int)]++qG s.run)=B:=a;rw [Ar,<-Ag] at a;have hm:∀ n∈[(s.run.length:Int)],n<=9223372036854775807:=λ n p=>by simp at p;omega
  have l1:=C8.pl_len hm;simp only [Ak,Bz] at l1;have h1:=SW.nums_ok [(s.run.length:Int)] s_ hm s_ bs q_;have next:=aKF s w B e s.run.length 0 (bs++C8.pl [(s.run.length:Int)]) o_ (by rw [Ai];omega) a
  rw [<-c] at h1;rw [<-c] at next
  refine gV ?_;refine aF λ h=>gV ?_;refine .eff [] [0,1] _ _ rfl (aA.strip h1) (gV ?_);refine To.part [7,97,98,99] [0,1] rfl rfl rfl ?_;exact next
 | succ m t=>
  intro i bs l j a;have b:i<s.pend.length:=o_;rw [Aa b] at a;have get:=OK b;obtain ⟨f,d⟩:=w.pg s.pend[i] (Ax b);generalize s.pend[i]=x at a get f d;have a:bs++((C8.pl x.g.il++C8.pl [x.seq,x.at'])++uI (s.pend.drop (i+1)))++(C8.pl [(s.run.length:Int)]++qG s.run)=B:=a;rw [<-Ag bs,<-Ag bs] at a;have l1:=BH x.g f;have l2:=C8.pl_len (qJ d);simp only [Ak,Bz] at l2;have hp:=C8.pg_ok x.g f;have h1:=SW.ws_ok bs (C8.pl x.g.il) o_;have r:=SW.nums_ok [x.seq,x.at'] s_ (qJ d) s_ (bs++C8.pl x.g.il) q_;have next:=t (i+1) _ o_ (by simp only [Ai];omega) a
  refine gV ?_;refine aT λ h=>gV ?_;refine ⟨i,rfl,gV ?_⟩;refine ⟨_,get,gV ?_⟩;refine .pure _ [] hp (gV ?_);refine .sole rfl (.eff [] [0,1] _ _ rfl h1 (gV ?_));refine .eff [] [0,1] _ _ rfl (aA.strip r) (gV ?_);refine aJ ?_;exact zqca43
def aNT{l:az}{i:Nat}(h:i<l.length):(fv l)[i]? =some (.int .u64 (l[i]:Int)):=by simp [fv,h]
def aKH(s:Sta)(w:Wr s)(B:aw)(d:B≠[]):∀ (m i:Nat) (bs:aw),i+m=s.hist.length->bs.length+8*m<=15000->bs++yW (s.hist.drop i)++(C8.pl [(s.pend.length:Int)]++(uI s.pend++(C8.pl [(s.run.length:Int)]++qG s.run)))=B->
  To E T3 (.pure (.ret (.tup [.str B,ii 0]))) (.head (stk T3 0) [(1,.ptr s.cs),(7,.ref 0 0),(49,.slice 1 (fv s.hist) .no),(50,.int .i64 ((fv s.hist).length:Nat)),(51,ii (i:Int))] (enO bs 0)):=by
 have f:(fv s.hist).length=s.hist.length:=by simp
 have c:(pnv s.pend).length=s.pend.length:=by simp
 have k:=w.pen;have g:=w.his;intro m;induction m with
 | zero=>
  intro i bs j e a;rw [Ab o_] at a;have a:bs++[]++(C8.pl [(s.pend.length:Int)]++(uI s.pend++(C8.pl [(s.run.length:Int)]++qG s.run)))=B:=a;rw [Ar,<-Ag,<-Ag] at a;have hm:∀ n∈[(s.pend.length:Int)],n<=9223372036854775807:=λ n l=>by simp at l;omega
  have l1:=C8.pl_len hm;simp only [Ak,Bz] at l1;have h1:=SW.nums_ok [(s.pend.length:Int)] s_ hm s_ bs q_;have next:=aKG s w B d s.pend.length 0 (bs++C8.pl [(s.pend.length:Int)]) o_ (by rw [Ai];omega) a
  rw [<-c] at h1;rw [<-c] at next
  refine gV ?_;refine aF λ h=>gV ?_;refine .eff [] [0,1] _ _ rfl (aA.strip h1) ?_;exact zqca43
 | succ m o=>
  intro i bs j e a;have b:i<s.hist.length:=o_;rw [Aa b] at a;have get:=aNT b;generalize s.hist[i]=x at a get;have a:bs++(BM x++yW (s.hist.drop (i+1)))++(C8.pl [(s.pend.length:Int)]++(uI s.pend++(C8.pl [(s.run.length:Int)]++qG s.run)))=B:=a;rw [<-Ag bs] at a;have l1:(BM x).length=8:=nE x 8;have hp:=aJc x;have h1:=SW.ws_ok bs (BM x) o_;have next:=o (i+1) _ o_ (by simp only [Ai];omega) a
  refine gV ?_;refine aT λ h=>gV ?_;refine ⟨i,rfl,gV ?_⟩;refine ⟨_,get,gV ?_⟩;refine .pure _ [] hp (gV ?_);refine .sole rfl (.eff [] [0,1] _ _ rfl h1 (gV ?_));refine aJ (gV ?_);refine To.part [1,7,49,50,51] [0,1] rfl rfl rfl ?_;exact next
def enB(s:Sta):au:=[.cells 31 s.cs]
def aN5(s:Sta):au:=[.fcells s.cs]
def aN4(s:Sta):aj [0] (enB s)=aN5 s:=by kernel_rfl
def aKJ(s:Sta):BI [1] (aB (aN5 s)) [(1,.ref 0 0),(2,.str []),(3,ii 0)]=[(1,.ptr s.cs),(2,.str []),(3,ii 0)]:=by kernel_rfl
def aKI{g:Goal}{ks:bh}(s:Sta)(h:To E T3 g (.code ks [(1,.ptr s.cs),(2,.str []),(3,ii 0)] (aN5 s))):To E T3 g (.code ks [(1,.ref 0 0),(2,.str []),(3,ii 0)] (enB s)):=by refine To.frz [1] [0] ?_;rw [aN4,aKJ];exact h
def aN3(s:Sta):aw:=if pI s=true then cE s else []
def aID(s:Sta)(l:s.c.sm)(hs:Sm s.run)(r:pI s=true->Wr s):aq 40 [s.av] [] (.ret (.tup [.str (aN3 s),ii (if pI s=true then 0 else 1)])) []:=by
 have a:=CN s l hs;unfold aN3;cases i:pI s with
 | false=>
  rw [i] at a;have a:aq 84 [s.av] [] (.ret (ii 1)) []:=a;show aA _ _ _ _ (.ret (.tup [.str [],ii 1])) _;refine c_ Tryz.f40 λ_=>?_
  repeat' first | (refine gN hE ?_;conv=>whnf) | refine .pure _ [] a ?_ | exact rfl | refine zt ?_ | refine zu ?_ ?_ | intro h | fail
 | true=>
  rw [i] at a;have a:aq 84 [s.av] [] (.ret (ii 0)) []:=a;show aA _ _ _ _ (.ret (.tup [.str (cE s),ii 0])) _;have w:=r i;have j:aq 42 [s.cmd.av] [] (.ret (.tup [.str (kP s),ii (C8.chk s.cmd)])) []:=C8.enc_ok s.cmd;have b:(fv s.hist).length=s.hist.length:=by simp
  have q:=w.con;have m:=w.his;obtain ⟨n1,n2,t,v⟩:=w.nums;have h1:=SW.nums_fresh ((kP s).length:Int) o_;rw [Br] at h1;have u:(C8.putN (kP s).length).length<=10:=by have:=C8.pn_len (n:=((kP s).length:Int)) o_;rw [Br] at this;omega
  have k:=SW.ws_ok (C8.putN (kP s).length) (kP s) o_;have hm:∀ n∈[s.now,s.nxt,(s.hist.length:Int)],n<=9223372036854775807:=λ n o=>by simp at o;omega
  have p:=C8.pl_len hm;simp only [Ak,Bz] at p;have h3:=SW.nums_ok [s.now,s.nxt,(s.hist.length:Int)] s_ hm s_ (C8.putN (kP s).length++kP s) q_;have d:cE s≠[]:=by
   intro h;have:=congrArg Ko h;unfold cE at this;have e:C8.pl [s.now,s.nxt,(s.hist.length:Int)]≠[]:=C8.pl_ne _ _;have:=Eg.2 e;simp only [Ai,Bz] at *
   omega
  have next:=aKH s w (cE s) d s.hist.length 0 (C8.putN (kP s).length++kP s++C8.pl [s.now,s.nxt,(s.hist.length:Int)]) o_ (by simp only [Ai];omega) (by unfold cE;simp only [Ap,Ag])
  rw [<-b] at h3;rw [<-b] at next
  generalize kP s=C at j h1 k h3 next
  generalize cE s=B at next
  generalize C8.chk s.cmd=ck at j;refine c_ Tryz.f40 λ_=>?_;refine dF hE 13 ?_;conv=>whnf
  refine To.cutC [1,2,3] 1 rfl rfl rfl rfl ?_;refine aKI s (gV ?_);refine .pure _ [] a (gV ?_);refine Ae (λ h=>absurd h d_) (λ_=>gV ?_);refine .pure _ [] j (gV ?_);refine .eff [] [1] _ _ rfl (aA.strip h1) (gV ?_);refine .eff [] [1,2] _ _ rfl k (gV ?_);refine .eff [] [1,2] _ _ rfl (aA.strip h3) (gV ?_);refine To.part [1,7,49,50,51] [1,2] rfl rfl rfl ?_;exact next
open C8 (leN O3 vY K7)
set_option maxRecDepth 10000
def PD(l:aw):aa:=if l.length<8 then .tup [.int .u64 0,.int .i64 0,.int .i64 10] else .tup [.int .u64 (leN (l.take 8)),.int .i64 8,.int .i64 0]
noncomputable abbrev fGF:Func:=Tryz.f154
def aCj(l:aw)(hl:8<=l.length):∀ (f i:Nat),i+f=8->
  To E fGF (.pure (.ret (.tup [.int .u64 (leN (l.take 8)),.int .i64 8,.int .i64 0]))) (.head (stk fGF 0) [(0,.str l),(5,.int .u64 (leN (l.take i))),(10,.int .i64 i)] []):=by
 intro f;induction f with
 | zero=>
  intro i j;have e:i=8:=o_;subst e;refine gV ?_;refine aF λ h=>?_
  repeat' first | (refine gN hE ?_;conv=>whnf) | exact rfl | refine zt ?_ | refine zu ?_ ?_ | intro h | fail
 | succ f m=>
  intro i j
  obtain ⟨c,d⟩:∃ c,l[i]? =some c:=⟨l[i]' o_,Ac o_⟩
  have n:c.toNat<256:=c.toNat_lt;have a:=O3 (l.take i);rw [Dw,Gy o_] at a;have p:2 ^ (8*(i+1))=256*2 ^ (8*i):=by rw [Gr,Ft];omega
  have q:c.toNat*2 ^ (8*i)<=255*2 ^ (8*i):=Cc _ o_;have o:2 ^ (8*(i+1))<=2 ^ 64:=Fg d_ o_;have b:(8*(i:Int)).toNat=8*i:=o_;have g:(c.toNat:Int)*2 ^ (8*i)=((c.toNat*2 ^ (8*i):Nat):Int):=by simp
  have k:eG .or .u64 (leN (l.take i):Int) ((c.toNat*2 ^ (8*i):Nat):Int)=((leN (l.take (i+1)):Nat):Int):=by rw [sD .u64 _ _ (by simp only [bN];omega) (by simp only [bN];omega),WN a,K7 d,vY,Dw,Gy o_]
  have next:=m (i+1) o_
  refine gV ?_;refine aT λ h=>gV ?_;refine ⟨i,rfl,gV ?_⟩;refine ⟨c,d,gV ?_⟩;refine Gl (Ae (show inR IntKind.u64 (c.toNat:Int) from xF (by simp only [bN];omega)) ?_);refine gV ?_;refine aJ (gV ?_);refine Ae (show (0:Int)<=8*(i:Int) by omega) ?_;refine gV ?_;refine Gl (Ae (Ae (by rw [b];simp only [IntKind.bits];omega) (by rw [b,g];exact xF (by simp only [bN];omega))) ?_);refine gV ?_;rw [b,g,k];refine aJ (gV ?_);refine To.part [0,5,10] [] rfl rfl rfl ?_;exact next
def aKj(l:aw):aq 154 [.str l] [] (.ret (PD l)) []:=by
 unfold PD;by_cases h:l.length<8
 .rw [if_pos h];refine c_ Tryz.f154 λ_=>gV ?_;refine Ae (λ_=>?_) (λ h=>absurd (of_decide_eq_false h) o_)
  repeat' first | (refine gN hE ?_;conv=>whnf) | exact rfl | refine zt ?_ | refine zu ?_ ?_ | intro h | fail
 .rw [if_neg h];have next:=aCj l o_ 8 0 rfl
  refine c_ Tryz.f154 λ_=>gV ?_;refine Ae (λ h=>absurd (of_decide_eq_true h) o_) (λ_=>?_)
  repeat' first | (refine gN hE ?_;conv=>whnf) | exact rfl | refine zt ?_ | refine zu ?_ ?_ | intro h | fail
  refine To.part [0,5,10] [] rfl rfl rfl ?_;exact next
open C8 (leN bV dI rGan rdO rdU rL CX bF aQ bR bZ oW mK FI AU cB fO tRd)
set_option maxRecDepth 10000
abbrev RSt:Type:=Option ((Sta×Bool)×aw)
def Con.nil:Con:=⟨[],[],0,0⟩
def Sta.nil:Sta:=⟨Con.nil,0,0,[],[],[]⟩
def AZ:Nat->ax->aw->Option (ax×aw)
 | 0,hs,s=>some (hs,s)
 | m+1,hs,s=>match bV s with
  | none=>none
  | some (h,s)=>AZ m (hs++[h]) s
def rR(c:Con)(now nxt:Int)(b:az)(d:a7):Nat->a6->aw->RSt
 | 0,rs,s=>some ((⟨c,now,nxt,d,rs,b⟩,s==[]),s)
 | m+1,rs,s=>match rGan s with
  | none=>none
  | some (g,s)=>match bV s with
   | none=>none
   | some (q,s)=>match bV s with
        | none=>none
        | some (a,s)=>match bV s with
         | none=>none
         | some (t,s)=>match bV s with
          | none=>none
          | some (f,s)=>if decide ((s.length:Int)<g.pods)=true then some ((⟨c,now,nxt,d,rs,b⟩,false),s) else match AZ g.pods.toNat [] s with
           | none=>none
           | some (hs,s)=>rR c now nxt b d m (rs++[⟨g,q,a,t,f,hs⟩]) s
def rRs(c:Con)(now nxt:Int)(a:az)(b:a7)(s:aw):RSt:=match dI s with
 | none=>none
 | some (n,s)=>rR c now nxt a b n.toNat [] s
def rP(c:Con)(now nxt:Int)(b:az):Nat->a7->aw->RSt
 | 0,ps,s=>rRs c now nxt b ps s
 | m+1,ps,s=>match rGan s with
  | none=>none
  | some (g,s)=>match bV s with
   | none=>none
   | some (q,s)=>match bV s with
        | none=>none
        | some (a,s)=>rP c now nxt b m (ps++[⟨g,q,a⟩]) s
def rPs(c:Con)(now nxt:Int)(a:az)(s:aw):RSt:=match dI s with
 | none=>none
 | some (n,s)=>rP c now nxt a n.toNat [] s
def rH(c:Con)(now nxt:Int):Nat->az->aw->RSt
 | 0,hi,s=>rPs c now nxt hi s
 | m+1,hi,s=>if s.length<8 then some ((⟨c,now,nxt,[],[],hi⟩,false),s) else rH c now nxt m (hi++[leN (s.take 8)]) (s.drop 8)
def rB(c:Con)(s:aw):RSt:=match bV s with
 | none=>none
 | some (now,s)=>match bV s with
  | none=>none
  | some (nxt,s)=>match dI s with
   | none=>none
   | some (n,s)=>rH c now nxt n.toNat [] s
def rSt(s:aw):RSt:=match dI s with
 | none=>none
 | some (n,s)=>match C8.dec (s.take n.toNat) with
  | none=>some ((Sta.nil,false),s)
  | some x=>if x.k=1 then rB x.c (s.drop n.toNat) else some ((Sta.nil,false),s)
def stR(p:Sta×Bool):aa:=.tup [p.1.av,.bool p.2]
noncomputable abbrev fRd:Func:=Tryz.f93
abbrev reC(c:Con)(now nxt:Int)(p r h:aa):ay:=[.slice 11 (nav c.ns) .no,.slice 6 (hav c.hs) .no,ii c.half,ii c.age,ii now,ii nxt,p,r,h]
def OG{s s':aw}{g:Gan}(h:rGan s=some (g,s')):s'.length+1<=s.length/\0<=g.pods/\g.pods<=9223372036854775807:=by
 unfold C8.rGan at h;split at h
 .cases h
 .rename_i h1;split at h
  .cases h
  .rename_i d;split at h
   .cases h
   .rename_i h3;split at h
    .cases h
    .rename_i e;split at h
     .cases h
     .rename_i c;split at h
      .cases h
      .rename_i b;split at h
       .cases h
       .rename_i f;cases h;have j:=cB h1;have l:=cB d;have a:=cB h3;have n:=C8.rVec_b e;have i:=cB c;have k:=cB b;have m:=cB f;exact ⟨by omega,a.1,a.2.1⟩
abbrev reR(c:Con)(now nxt:Int)(hi:az)(ps:a7)(rs:a6)(s:aw):au:=[.cells tRd [.str s],.cells 31 (reC c now nxt (.slice 11 (pnv ps) .no) (.slice 14 (rav rs) (.own 2 0)) (.slice 1 (fv hi) .no)),.tail 0 14 107]
abbrev reG(g:Gan)(q a t f:Int)(x:aa):ay:=[ii g.id,ii g.ten,ii g.pods,ii g.need.a,ii g.need.b,ii g.need.c,ii g.run,ii g.lev,ii g.pref,ii q,ii a,ii t,ii f,x]
def aIV(c:Con)(now nxt:Int)(p:az)(v:a7)(b:a6)(A:b.length<=1000000)(n:Int)(i:Nat)(C:(i:Int)<9223372036854775807)(g:Gan)(q a t f:Int)(hp:0<=g.pods/\g.pods<=9223372036854775807)(r:Res)(O:au)(m:Nat)
  (w:∀ (hs:ax) (s:aw),s.length<=1000000->b.length+s.length+1<=1000000->hs.length<=1000000->rL stR (rR c now nxt p v m (b++[⟨g,q,a,t,f,hs⟩]) s)=r->CX (rR c now nxt p v m (b++[⟨g,q,a,t,f,hs⟩]) s)=O->
   To E fRd (.full 1 r O) (.head (stk fRd 2) [(0,.ref 0 0),(2,.ref 1 0),(99,.int .i64 n),(100,.int .i64 ((i:Int)+1))] (reR c now nxt p v (b++[⟨g,q,a,t,f,hs⟩]) s))):
  ∀ (k j:Nat) (s:aw) (hs:ax),(j+k:Int)=g.pods->hs.length+s.length<=1000000->b.length+s.length+1<=1000000->
   rL stR (match AZ k hs s with | none=>none | some (hs,s)=>rR c now nxt p v m (b++[⟨g,q,a,t,f,hs⟩]) s)=r->CX (match AZ k hs s with | none=>none | some (hs,s)=>rR c now nxt p v m (b++[⟨g,q,a,t,f,hs⟩]) s)=O->
  To E fRd (.full 1 r O) (.head (stk fRd 3) [(0,.ref 0 0),(2,.ref 1 0),(10,.ref 3 0),(99,.int .i64 n),(100,.int .i64 i),(125,ii g.pods),(126,.int .i64 j)]
   (reR c now nxt p v b s++[.cells 107 (reG g q a t f (.slice 1 (iv hs) (.own 4 0))),.tail 0 1 3])):=by
 intro k;induction k with
 | zero=>
  intro j s hs z hl x l d;have l:rL stR (rR c now nxt p v m (b++[⟨g,q,a,t,f,hs⟩]) s)=r:=l;have d:CX (rR c now nxt p v m (b++[⟨g,q,a,t,f,hs⟩]) s)=O:=d;have y:(rav b).length=b.length:=by simp
  have next:=w hs s o_ x o_ l d
  have e:rav (b++[⟨g,q,a,t,f,hs⟩])=rav b++[Rn.av ⟨g,q,a,t,f,hs⟩]:=by simp
  unfold reR at next
  rw [e] at next
  refine gV ?_;refine aF λ h=>?_
  repeat' first | (refine gN hE ?_;conv=>whnf) | refine ⟨⟨by simp only [maxLen];simp;omega,by simp;omega⟩,?_⟩ | exact rfl | refine zt ?_ | refine zu ?_ ?_ | intro h | fail
  refine To.part [0,2,99,100] [0,1,2] rfl rfl rfl ?_;exact next
 | succ k B=>
  intro j s hs z hl x l d;unfold AZ at l d;have y:(iv hs).length=hs.length:=by simp
  refine gV ?_;refine aT λ h=>?_;refine dF hE 3 ?_;conv=>whnf
  refine To.permAt hE [0,1,2,6] [3,4,5,7] (by rfl) ?_;conv=>whnf
  refine aL ?_;conv=>whnf
  refine aQ (o:=bV s) (λ h1=>?_) (λ⟨u,D⟩ h1=>?_)
  .simp only [h1] at l d;have l:Res.pan (bF 10)=r:=l;have d:rdU=O:=d;subst l d;exact zqca18
  simp only [h1] at l d;refine .eff [] [0] _ _ rfl (bR h1) ?_;have F:=cB h1;have next:=B (j+1) D (hs++[u]) o_ q_ o_ l d
  have e:iv (hs++[u])=iv hs++[ii u]:=by simp
  rw [e] at next;conv=>whnf
  refine aL ?_;conv=>whnf;conv=>whnf
  refine aL ?_;conv=>whnf
  refine ⟨⟨by simp only [maxLen];simp;omega,by simp;omega⟩,?_⟩;conv=>whnf
  refine aL ?_;conv=>whnf;conv=>whnf
  refine aL ?_;conv=>whnf
  refine gV ?_;refine aJ (gV ?_);refine To.part [0,2,10,99,100,125,126] [0,1,2,3,4] rfl rfl rfl ?_;exact next
def aIM(c:Con)(now nxt:Int)(k:az)(u:a7)(n:Int)(H:n<=9223372036854775807)(r:Res)(O:au):∀ (m i:Nat) (s:aw) (e:a6),(i+m:Int)=n->e.length+s.length<=1000000->rL stR (rR c now nxt k u m e s)=r->CX (rR c now nxt k u m e s)=O->
  To E fRd (.full 1 r O) (.head (stk fRd 2) [(0,.ref 0 0),(2,.ref 1 0),(99,.int .i64 n),(100,.int .i64 i)] (reR c now nxt k u e s)):=by
 intro m;induction m with
 | zero=>
  intro i s e v hl d b;have d:Res.ret (.tup [Sta.av ⟨c,now,nxt,u,e,k⟩,.bool (s==[])])=r:=d;have b:rdO s=O:=b;subst d b;refine gV ?_;refine aF λ h=>?_;refine dF hE 2 ?_;conv=>whnf
  refine To.permAt hE [0,1,2,3,4,5] [6,7] (by rfl) ?_;conv=>whnf
  refine aL ?_;conv=>whnf;conv=>whnf
  refine aL ?_;conv=>whnf;conv=>whnf
  refine aL ?_;conv=>whnf
  refine gV ?_;exact zqca7
 | succ m C=>
  intro i s e v hl d b;unfold rR at d b;have x:(rav e).length=e.length:=by simp
  refine gV ?_;refine aT λ h=>gV ?_;refine aQ (o:=rGan s) (λ h1=>?_) (λ⟨g,D⟩ h1=>?_)
  .exact zqca26
  simp only [h1] at d b;refine .eff [] [0] _ _ rfl (FI h1) (gV ?_);refine aQ (o:=bV D) (λ p=>?_) (λ⟨q,y⟩ p=>?_)
  .simp only [p] at d b;have d:Res.pan (bF 10)=r:=d;have b:rdU=O:=b;subst d b;refine .effp [] [0] _ _ rfl (bZ p) ?_;exact zx [0]
  simp only [p] at d b;refine .eff [] [0] _ _ rfl (bR p) (gV ?_);refine aQ (o:=bV y) (λ h3=>?_) (λ⟨a,z⟩ h3=>?_)
  .exact zqca37
  simp only [h3] at d b;refine .eff [] [0] _ _ rfl (bR h3) (gV ?_);refine aQ (o:=bV z) (λ l=>?_) (λ⟨t,B⟩ l=>?_)
  .simp only [l] at d b;have d:Res.pan (bF 10)=r:=d;have b:rdU=O:=b;subst d b;refine .effp [] [0] _ _ rfl (bZ l) ?_;exact zx [0]
  simp only [l] at d b;refine .eff [] [0] _ _ rfl (bR l) (gV ?_);refine aQ (o:=bV B) (λ j=>?_) (λ⟨f,w⟩ j=>?_)
  .exact zqca28
  simp only [j] at d b;refine .eff [] [0] _ _ rfl (bR j) ?_;have A:=OG h1;have M:=cB p;have J:=cB h3;have I:=cB l;have L:=cB j;refine gV ?_;refine Ae (λ hd=>?_) (λ hd=>?_)
  .rw [if_pos hd] at d b;have d:Res.ret (.tup [Sta.av ⟨c,now,nxt,u,e,k⟩,.bool false])=r:=d;have b:rdO w=O:=b;subst d b;refine gV ?_;exact zqca7
  .rw [if_neg (by rw [hd];decide)] at d b;refine gV ?_;refine To.part [0,2,10,99,100,125,126] [0,1,2,3] rfl rfl rfl ?_;refine To.begin 3 13 3 rfl rfl ?_;exact aIV c now nxt k u e o_ n i o_ g q a t f A.2 r O m (λ hs s' G K F d b=>C (i+1) s' _ o_ q_ d b) g.pods.toNat 0 w [] o_ q_ o_ d b
abbrev reP(c:Con)(now nxt:Int)(hi:az)(ps:a7)(s:aw):au:=[.cells tRd [.str s],.cells 31 (reC c now nxt (.slice 11 (pnv ps) (.own 2 0)) (.slice 14 [] .nil) (.slice 1 (fv hi) .no)),.tail 0 11 47]
def aIO(c:Con)(now nxt:Int)(l:az)(n:Int)(A:n<=9223372036854775807)(r:Res)(O:au):∀ (m i:Nat) (s:aw) (f:a7),(i+m:Int)=n->f.length+s.length<=1000000->rL stR (rP c now nxt l m f s)=r->CX (rP c now nxt l m f s)=O->
  To E fRd (.full 1 r O) (.head (stk fRd 1) [(0,.ref 0 0),(2,.ref 1 0),(82,.int .i64 n),(83,.int .i64 i)] (reP c now nxt l f s)):=by
 intro m;induction m with
 | zero=>
  intro i s f p hl d b;unfold rP rRs at d b;refine gV ?_;refine aF λ h=>gV ?_;refine aQ (o:=dI s) (λ h1=>?_) (λ⟨k,u⟩ h1=>?_)
  .simp only [h1] at d b;have d:Res.pan (bF 10)=r:=d;have b:rdU=O:=b;subst d b;exact zqca24
  simp only [h1] at d b;refine .eff [] [0] _ _ rfl (oW h1) ?_;have y:=fO h1;refine gV ?_;refine To.part [0,2,99,100] [0,1] rfl rfl rfl ?_;refine To.begin 1 7 107 rfl rfl ?_;exact aIM c now nxt l f k o_ r O k.toNat 0 u [] o_ q_ d b
 | succ m z=>
  intro i s f p hl d b;unfold rP at d b;have v:(pnv f).length=f.length:=by simp
  refine gV ?_;refine aT λ h=>?_;refine dF hE 3 ?_;conv=>whnf
  refine To.permAt hE [0,1,2,4,6,11] [3,5,7,8,9,10,12] (by rfl) ?_;conv=>whnf
  refine aL ?_;conv=>whnf
  refine aQ (o:=rGan s) (λ h1=>?_) (λ⟨g,u⟩ h1=>?_)
  .exact zqca26
  simp only [h1] at d b;refine .eff [] [0] _ _ rfl (FI h1) ?_;conv=>whnf
  refine aL ?_;conv=>whnf
  refine aQ (o:=bV u) (λ j=>?_) (λ⟨q,w⟩ j=>?_)
  .exact zqca28
  simp only [j] at d b;refine .eff [] [0] _ _ rfl (bR j) ?_;conv=>whnf
  refine aL ?_;conv=>whnf
  refine aQ (o:=bV w) (λ h3=>?_) (λ⟨a,x⟩ h3=>?_)
  .exact zqca37
  simp only [h3] at d b;refine .eff [] [0] _ _ rfl (bR h3) ?_;conv=>whnf
  refine aL ?_;conv=>whnf;conv=>whnf
  refine aL ?_;conv=>whnf;conv=>whnf
  refine aL ?_;conv=>whnf
  refine ⟨⟨by simp only [maxLen];simp;omega,by simp;omega⟩,?_⟩;conv=>whnf
  refine aL ?_;conv=>whnf;conv=>whnf
  refine aL ?_;conv=>whnf
  refine gV ?_;refine aJ (gV ?_);refine To.part [0,2,82,83] [0,1,2] rfl rfl rfl ?_;have y:=OG h1;have C:=cB j;have B:=cB h3;have next:=z (i+1) x (f++[⟨g,q,a⟩]) o_ q_ d b
  have e:pnv (f++[⟨g,q,a⟩])=pnv f++[Pn.av ⟨g,q,a⟩]:=by simp
  unfold reP at next
  rw [e] at next
  exact next
abbrev reH(c:Con)(now nxt:Int)(hi:az)(s:aw):au:=[.cells tRd [.str s],.cells 31 (reC c now nxt (.slice 11 [] .nil) (.slice 14 [] .nil) (.slice 1 (fv hi) (.own 2 0))),.tail 0 1 130]
def aIU(c:Con)(now nxt:Int)(n:Int)(v:n<=9223372036854775807)(r:Res)(O:au):∀ (m i:Nat) (s:aw) (d:az),(i+m:Int)=n->d.length+s.length<=1000000->rL stR (rH c now nxt m d s)=r->CX (rH c now nxt m d s)=O->
  To E fRd (.full 1 r O) (.head (stk fRd 0) [(0,.ref 0 0),(2,.ref 1 0),(50,.int .i64 n),(51,.int .i64 i)] (reH c now nxt d s)):=by
 intro m;induction m with
 | zero=>
  intro i s d g hl b a;unfold rH rPs at b a;refine gV ?_;refine aF λ h=>gV ?_;refine aQ (o:=dI s) (λ h1=>?_) (λ⟨k,q⟩ h1=>?_)
  .exact zqca39
  simp only [h1] at b a;refine .eff [] [0] _ _ rfl (oW h1) ?_;have u:=fO h1;refine gV ?_;refine To.part [0,2,82,83] [0,1] rfl rfl rfl ?_;refine To.begin 1 6 47 rfl rfl ?_;exact aIO c now nxt d k o_ r O k.toNat 0 q [] o_ q_ b a
 | succ m p=>
  intro i s d g hl b a;unfold rH at b a;have l:(fv d).length=d.length:=by simp
  have f:=aKj s;unfold PD at f;by_cases j:s.length<8
  .rw [if_pos j] at b a f;have b:Res.ret (.tup [Sta.av ⟨c,now,nxt,[],[],d⟩,.bool false])=r:=b;have a:rdO s=O:=a;subst b a;refine gV ?_;refine aT λ h=>gV ?_;refine .pure _ [] f ?_;exact zqca34
  .rw [if_neg j] at b a f;have next:=p (i+1) (s.drop 8) (d++[leN (s.take 8)]) o_ q_ b a
   have e:fv (d++[leN (s.take 8)])=fv d++[.int .u64 ((leN (s.take 8):Nat):Int)]:=by simp
   unfold reH at next
   rw [e] at next
   refine gV ?_;refine aT λ h=>gV ?_;refine .pure _ [] f (gV ?_);refine Ae (λ h=>absurd h d_) (λ_=>gV ?_);refine ⟨8,rfl,gV ?_⟩;refine ⟨by omega,gV ?_⟩;refine ⟨⟨by simp only [maxLen];simp;omega,by simp;omega⟩,?_⟩;refine gV ?_;refine aJ (gV ?_);refine To.part [0,2,50,51] [0,1,2] rfl rfl rfl ?_;exact next
def RL(s:aw)(hs:s.length<=1000000)(r:Res)(O:au)(b:rL stR (rSt s)=r)(a:CX (rSt s)=O):aq 93 [.ref 0 0] (rdO s) r O:=by
 unfold rSt at b a;refine cT (E:=E) (fn:=Tryz.f93) (g:=.full 1 _ _) λ_=>gV ?_;refine aQ (o:=dI s) (λ h1=>?_) (λ⟨n,e⟩ h1=>?_)
 .exact zqca39
 simp only [h1] at b a;refine .eff [] [0] _ _ rfl (oW h1) ?_;have v:=fO h1;have hd:=C8.decode_ok (e.take n.toNat) q_;unfold C8.decX C8.decE at hd;have d:n=((n.toNat:Nat):Int):=o_;refine aQ (o:=C8.dec (e.take n.toNat)) (λ m=>?_) (λ x m=>?_)
 .simp only [m] at b a hd;have hd:aq 43 [.str (e.take n.toNat)] [] (.ret (.tup [Cmd.zero.av,ii 10])) []:=hd;have b:Res.ret (.tup [Sta.av Sta.nil,.bool false])=r:=b;have a:rdO e=O:=a;subst b a;refine gV ?_;refine ⟨n.toNat,d,gV ?_⟩;refine ⟨by omega,gV ?_⟩;refine .pure _ [] hd (gV ?_);refine Ae (λ_=>?_) (λ h=>absurd h d_);exact zqca34
 .simp only [m] at b a hd;have hd:aq 43 [.str (e.take n.toNat)] [] (.ret (.tup [x.av,ii 0])) []:=hd;by_cases l:x.k=1
  .rw [if_pos l] at b a;unfold rB at b a;refine gV ?_;refine ⟨n.toNat,d,gV ?_⟩;refine ⟨by omega,gV ?_⟩;refine .pure _ [] hd (gV ?_);refine Ae (λ h=>absurd h d_) (λ_=>gV ?_);refine Ae (λ h=>absurd h (by simp [l])) (λ_=>gV ?_);refine ⟨n.toNat,d,gV ?_⟩;refine ⟨by omega,?_⟩;refine dF hE 13 ?_;conv=>whnf
   refine To.permAt hE [0,1,2,4,6,8,10] [3,5,7,9,11] (by rfl) ?_;conv=>whnf
   refine aL ?_;conv=>whnf
   refine aQ (o:=bV (e.drop n.toNat)) (λ h3=>?_) (λ⟨now,p⟩ h3=>?_)
   .simp only [h3] at b a;have b:Res.pan (bF 10)=r:=b;have a:rdU=O:=a;subst b a;exact zqca17
   simp only [h3] at b a;refine .eff [] [0] _ _ rfl (bR h3) ?_;have y:=cB h3;conv=>whnf
   refine aL ?_;conv=>whnf
   refine aQ (o:=bV p) (λ j=>?_) (λ⟨nxt,q⟩ j=>?_)
   .simp only [j] at b a;have b:Res.pan (bF 10)=r:=b;have a:rdU=O:=a;subst b a;refine .effp [] [0] _ _ rfl (bZ j) ?_;exact zx [0]
   simp only [j] at b a;refine .eff [] [0] _ _ rfl (bR j) ?_;have w:=cB j;conv=>whnf
   refine aL ?_;conv=>whnf;conv=>whnf
   refine aL ?_;conv=>whnf;conv=>whnf
   refine aL ?_;conv=>whnf;conv=>whnf
   refine aL ?_;conv=>whnf
   refine gV ?_;refine aQ (o:=dI q) (λ i=>?_) (λ⟨k,u⟩ i=>?_)
   .simp only [i] at b a;have b:Res.pan (bF 10)=r:=b;have a:rdU=O:=a;subst b a;refine .effp [] [0] _ _ rfl (mK i) ?_;exact zx [0]
   simp only [i] at b a;refine .eff [] [0] _ _ rfl (oW i) ?_;have z:=fO i;have B:(e.drop n.toNat).length<=e.length:=by simp
   refine gV ?_;refine To.part [0,2,50,51] [0,1] rfl rfl rfl ?_;refine To.begin 1 8 130 rfl rfl ?_;exact aIU x.c now nxt k o_ r O k.toNat 0 u [] o_ q_ b a
  .rw [if_neg l] at b a;have b:Res.ret (.tup [Sta.av Sta.nil,.bool false])=r:=b;have a:rdO e=O:=a;subst b a;refine gV ?_;refine ⟨n.toNat,d,gV ?_⟩;refine ⟨by omega,gV ?_⟩;refine .pure _ [] hd (gV ?_);refine Ae (λ h=>absurd h d_) (λ_=>gV ?_);refine Ae (λ_=>?_) (λ h=>absurd h (by simp [l]));refine To.loose (gV ?_);exact zqca7
def aIY{s s':aw}(hs:s.length<=1000000){x:Sta}{b:Bool}(h:rSt s=some ((x,b),s')):aq 93 [.ref 0 0] (rdO s) (.ret (.tup [x.av,.bool b])) (rdO s'):=RL s hs _ _ (by rw [h];rfl) (by rw [h];rfl)
def aEw{s:aw}(hs:s.length<=1000000)(h:rSt s=none):aq 93 [.ref 0 0] (rdO s) (.pan (bF 10)) rdU:=RL s hs _ _ (by rw [h];rfl) (by rw [h];rfl)
open C8 (bV dI rGan rdO rdU bF aQ cB fO tRd)
set_option maxRecDepth 10000
abbrev zSt:ay:=[.slice 11 [] .nil,.slice 6 [] .nil,ii 0,ii 0,ii 0,ii 0,.slice 11 [] .nil,.slice 14 [] .nil,.slice 1 [] .nil]
abbrev deO(s:aw):au:=[.cells 9 [.str s],.cells 31 zSt,.cells 4 [.bool false]]
abbrev deX(s:aw)(x:Sta)(b:Bool):au:=[.cells 9 [.str s],.cells 31 x.cs,.cells 4 [.bool b]]
abbrev deU:au:=yD (λ_=>.undef) (deO [])
def aOl{s s':aw}(hs:s.length<=1000000){x:Sta}{b:Bool}(h:rSt s=some ((x,b),s')):aq 92 [.ref 0 0,.ref 1 0,.ref 2 0] (deO s) (.ret (.tup [])) (deX s x b):=by refine cT (E:=E) (fn:=Tryz.f92) (g:=.full 3 _ _) λ_=>gV ?_;refine .eff [] [3] _ _ rfl (aIY hs h) (gV ?_);exact zx [0,1,2]
def aK8{s:aw}(hs:s.length<=1000000)(h:rSt s=none):aq 92 [.ref 0 0,.ref 1 0,.ref 2 0] (deO s) (.pan (bF 10)) deU:=by refine aA.blur (ao:=deO s) ?_;refine cT (E:=E) (fn:=Tryz.f92) (g:=.full 3 _ _) λ_=>gV ?_;refine .effp [] [3] _ _ rfl (aEw hs h) ?_;exact zx [0,1,2]
abbrev dV:aa:=.func (.func 92) [] [.ref 0 0,.ref 1 0,.ref 2 0]
def aIp{s s':aw}(hs:s.length<=1000000){x:Sta}{b:Bool}(h:rSt s=some ((x,b),s')):aq 91 [dV] (deO s) (.ret (ii 0)) (deX s x b):=by
 refine cT (E:=E) (fn:=Tryz.f91) (g:=.full 3 _ _) λ_=>gV ?_;refine To.defer (f:=152) (args:=[.ref 3 0]) _ rfl rfl ?_;refine gW C8.hEt ?_;conv=>whnf
 refine .eff [] [0,1,2] _ _ rfl (aOl hs h) ?_;refine gW C8.hEt ?_;conv=>whnf
 refine To.leave (f:=152) (args:=[.ref 3 0]) [] rfl [] [3] rfl (C8.catch_ret 0) ?_;exact zqca14
def aDQ{s:aw}(hs:s.length<=1000000)(h:rSt s=none):aq 91 [dV] (deO s) (.ret (ii 10)) deU:=by
 refine cT (E:=E) (fn:=Tryz.f91) (g:=.full 3 _ _) λ_=>gV ?_;refine To.defer (f:=152) (args:=[.ref 3 0]) _ rfl rfl ?_;refine gW C8.hEt ?_;conv=>whnf
 refine .effp [] [0,1,2] _ _ rfl (aK8 hs h) ?_;conv=>whnf
 refine To.leave (f:=152) (args:=[.ref 3 0]) [] rfl [] [3] rfl (C8.catch_pan 0 10) ?_;exact zqca14
def aEF:∀ (m:Nat) (hs:ax) (s:aw) (hs':ax) (s':aw),AZ m hs s=some (hs',s')->hs'.length+s'.length<=hs.length+s.length
 | 0,hs,s,hs',s',h=>by cases h;exact Bh _
 | m+1,hs,s,hs',s',h=>by
  unfold AZ at h;split at h
  .cases h
  .rename_i h1;have b:=cB h1;have:=aEF m _ _ _ _ h;simp at this;omega
def aO6(c:Con)(now nxt:Int)(d:az)(e:a7)(N:Nat):∀ (m:Nat) (a:a6) (s:aw) (x:Sta) (b:Bool) (s':aw),rR c now nxt d e m a s=some ((x,b),s')->a.length+s.length<=N->(∀ y∈a,y.hs.length<=N)->x.c=c/\x.run.length<=N/\∀ y∈x.run,y.hs.length<=N
 | 0,a,s,x,b,s',h,hl,hy=>by cases h;exact ⟨rfl,by show a.length<=N;omega,hy⟩
 | m+1,a,s,x,b,s',h,hl,hy=>by
  unfold rR at h;split at h
  .cases h
  .rename_i h1;split at h
   .cases h
   .rename_i j;split at h
    .cases h
    .rename_i h3;split at h
     .cases h
     .rename_i i;split at h
      .cases h
      .rename_i g;have n:=OG h1;have r:=cB j;have p:=cB h3;have o:=cB i;have q:=cB g;split at h
       .cases h;exact ⟨rfl,by show a.length<=N;omega,hy⟩
       .split at h
        .cases h
        .rename_i hs' l f;have k:=aEF _ _ _ _ _ f;simp at k;refine aO6 c now nxt d e N m _ _ x b s' h q_ λ y hm=>?_;rcases Bd.1 hm with hm | hm
         .exact hy y hm
         .rw [Dp] at hm;subst hm;show hs'.length<=N;omega
def aO7(c:Con)(now nxt:Int)(d:az)(N:Nat):∀ (m:Nat) (a:a7) (s:aw) (x:Sta) (b:Bool) (s':aw),rP c now nxt d m a s=some ((x,b),s')->s.length<=N->x.c=c/\x.run.length<=N/\∀ y∈x.run,y.hs.length<=N
 | 0,a,s,x,b,s',h,hl=>by
  unfold rP rRs at h;split at h
  .cases h
  .rename_i h1;have f:=fO h1;exact aO6 c now nxt d a N _ _ _ x b s' h q_ λ y e=>by cases e
 | m+1,a,s,x,b,s',h,hl=>by
  unfold rP at h;split at h
  .cases h
  .rename_i h1;split at h
   .cases h
   .rename_i g;split at h
    .cases h
    .rename_i h3;have f:=OG h1;have j:=cB g;have i:=cB h3;exact aO7 c now nxt d N m _ _ x b s' h o_
def aO8(c:Con)(now nxt:Int)(N:Nat):∀ (m:Nat) (a:az) (s:aw) (x:Sta) (b:Bool) (s':aw),rH c now nxt m a s=some ((x,b),s')->s.length<=N->x.c=c/\x.run.length<=N/\∀ y∈x.run,y.hs.length<=N
 | 0,a,s,x,b,s',h,hl=>by
  unfold rH rPs at h;split at h
  .cases h
  .rename_i h1;have e:=fO h1;exact aO7 c now nxt a N _ _ _ x b s' h o_
 | m+1,a,s,x,b,s',h,hl=>by
  unfold rH at h;split at h
  .cases h;exact ⟨rfl,Ch _,λ y d=>by cases d⟩
  .exact aO8 c now nxt N m _ _ x b s' h q_
def aO5{s s':aw}{x:Sta}{b:Bool}(h:rSt s=some ((x,b),s'))(hl:s.length<=1000000):x.c.sm/\Sm x.run:=by
 unfold rSt at h;split at h
 .cases h
 .rename_i n u h1;have p:=fO h1;split at h
  .cases h;exact ⟨⟨Ch _,Ch _⟩,Ch _,λ y d=>by cases d⟩
  .rename_i y a;have e:C8.chk y=0:=by
    unfold C8.dec at a;split at a
    .split at a
     .rename_i l;cases a;exact l.2
     .cases a
    .cases a
   have T:=C8.chk_told e;have i:=T.ln;have o:=T.lh;simp only [Cm] at i o;split at h
   .unfold rB at h;split at h
    .cases h
    .rename_i h3;split at h
     .cases h
     .rename_i j;split at h
      .cases h
      .rename_i g;have k:=cB h3;have q:=cB j;have t:=fO g;simp only [Ew] at k;obtain ⟨f,r,m⟩:=aO8 y.c _ _ 1000000 _ _ _ x b s' h o_;rw [f];exact ⟨⟨by omega,by omega⟩,by omega,λ z hz=>by have:=m z hz;omega⟩
   .cases h;exact ⟨⟨Ch _,Ch _⟩,Ch _,λ y d=>by cases d⟩
def aCH(s:aw):Option Sta:=match rSt s with
 | some ((x,b),_)=>if b=true/\pI x=true then some x else none
 | none=>none
def ZT(s:aw):Sta:=(aCH s).getD Sta.nil
def aK7(s:aw):Int:=match aCH s with | some _=>0 | none=>10
def ZS(s:aw)(hs:s.length<=1000000):aq 41 [.str s] [] (.ret (.tup [(ZT s).av,ii (aK7 s)])) []:=by
 unfold ZT aK7 aCH;refine c_ Tryz.f41 λ_=>gV ?_;refine aQ (o:=rSt s) (λ h=>?_) (λ⟨⟨x,b⟩,s'⟩ h=>?_)
 .simp only [h];refine .eff [] [0,2,3] _ _ rfl (aDQ hs h) ?_
  repeat' first | (refine gN hE ?_;conv=>whnf) | exact rfl | refine zt ?_ | refine zu ?_ ?_ | intro h | fail
 .obtain ⟨e,d⟩:=aO5 h hs;have a:=CN x e d;simp only [h];refine .eff [] [0,2,3] _ _ rfl (aIp hs h) ?_;cases b with
  | false=>
   rw [if_neg (λ q=>absurd q.1 d_)]
   repeat' first | (refine gN hE ?_;conv=>whnf) | exact rfl | refine zt ?_ | refine zu ?_ ?_ | intro h | fail
  | true=>
   cases c:pI x with
   | false=>
    rw [c] at a;have a:aq 84 [x.av] [] (.ret (ii 1)) []:=a;rw [if_neg (λ q=>absurd q.2 d_)]
    repeat' first | (refine gN hE ?_;conv=>whnf) | refine .pure _ [] a ?_ | exact rfl | refine zt ?_ | refine zu ?_ ?_ | intro h | fail
   | true=>
    rw [c] at a;have a:aq 84 [x.av] [] (.ret (ii 0)) []:=a;rw [if_pos ⟨rfl,rfl⟩]
    repeat' first | (refine gN hE ?_;conv=>whnf) | refine .pure _ [] a ?_ | exact rfl | refine zt ?_ | refine zu ?_ ?_ | intro h | fail
open C8 (leN bV dI rGan bJ rM iQ pl putN iP RP G9)
def qU{v:V3}(h:bH v=true):okI v.l=true:=by unfold bH at h;simp only [Af,decide_eq_true_eq] at h;simp only [V3.l,okI,pG,Af,decide_eq_true_eq,and_true];omega
def aC7{v:V3}(h:zB v=true):okI v.l=true:=by unfold zB at h;simp at h;simp only [V3.l,okI,pG,Af,decide_eq_true_eq,and_true];omega
def aFe{bl:Bool}{i:Nat}{x:Nod}(c:i<=100)(h:rT bl i x=true):x.ok=true:=by
 unfold rT at h;by_cases a:E7 i x
 .rw [if_pos a] at h;cases h
 .rw [if_neg a] at h;unfold E7 at a;have h3:okI x.n.l=true/\okI x.b.l=true/\okI x.l.l=true:=by
   cases bl with
   | true=>
    simp only [if_true,Af] at h;exact ⟨qU h.1,qU h.2.1,qU h.2.2.1⟩
   | false=>
    rw [if_neg d_] at h;simp only [Af] at h;exact ⟨aC7 h.1,aC7 h.2.1,aC7 h.2.2⟩
  unfold Nod.ok;rw [h3.1,h3.2.1,h3.2.2];exact zqca22
def LL(ns:bc):∀ (l:bc) (i:Nat),i+l.length<=100->nK ns i l=true->zQ l=true
 | [],_,_,_=>rfl
 | x::r,i,hi,h=>by
  unfold nK at h;simp at hi;by_cases a:rT (rlB ns i) i x=true
  .rw [if_pos a] at h;unfold zQ;rw [aFe o_ a,LL ns r (i+1) o_ h];rfl
  .rw [if_neg a] at h;cases h
def aFS{x:Hos}(h:nP x=true):x.ok=true:=by
 unfold nP at h;by_cases a:KS x
 .rw [if_pos a] at h;cases h
 .rw [if_neg a] at h;unfold KS at a;unfold Hos.ok;rw [qU h];exact zqca22
def TE:∀ (l:List Hos),l.all nP=true->uR l=true
 | [],_=>rfl
 | x::r,h=>by rw [Kj,Af] at h;unfold uR;rw [aFS h.1,TE r h.2];rfl
def NA{c:Con}(h:cJ c=0):c.tok=true/\c.ns.length<=12/\c.hs.length<=24:=by
 unfold cJ at h;by_cases h1:ET c
 .rw [if_pos h1] at h;by_cases a:nK c.ns 0 c.ns=true
  .rw [if_pos a] at h;by_cases h3:c.hs.all nP=true
   .unfold ET at h1;refine ⟨?_,h1.1.2,h1.2.1.2⟩;unfold Con.tok;rw [LL c.ns c.ns 0 o_ a,TE _ h3];simp only [Bool.and_self,Bw,okI,pG,Af,decide_eq_true_eq,and_true];omega
   .rw [if_neg h3] at h;cases h
  .rw [if_neg a] at h;cases h
 .rw [if_neg h1] at h;cases h
def MT{c:Con}(h:iU c=true):c.tok=true/\c.ns.length<=12/\c.hs.length<=24:=by unfold iU at h;simp only [Af,decide_eq_true_eq] at h;obtain ⟨ns,hs,half,age⟩:=c;obtain ⟨h1,a,h3,b⟩:=h;simp only at h1 a h3 b;subst h1 a h3 b;exact ⟨rfl,by simp,by simp⟩
def ZD{c:Con}(h:c.tok=true)(e:c.ns.length<=12)(f:c.hs.length<=24):C8.chk ⟨1,c,Gan.zero,0⟩=0:=by
 have a:((nav c.ns).length:Int)<=12:=by simp;omega
 have b:((hav c.hs).length:Int)<=24:=by simp;omega
 have d:C8.chkL ⟨1,c,Gan.zero,0⟩=0:=by unfold C8.chkL;rw [decide_eq_true a,decide_eq_true b];rfl
 unfold C8.chk C8.chk2 C8.chk3 C8.chk4 C8.chkC C8.chkG C8.chkN;rw [d,h];rfl
def aBb{s:Sta}(h:pI s=true):C8.chk s.cmd=0:=by
 unfold pI TH at h;simp only [Af,Fl,decide_eq_true_eq] at h;obtain ⟨⟨h1,_⟩,_⟩:=h;rcases h1 with h1 | h1
 .obtain ⟨a,b,c⟩:=MT h1;exact ZD a b c
 .obtain ⟨a,b,c⟩:=NA h1;exact ZD a b c
def WR{c:Con}{t:Int}(h:bL c.ns t=true):0<=t/\t<(c.ns.length:Int):=by
 unfold bL at h;by_cases h1:0<=t
 .rw [if_pos (decide_eq_true h1)] at h;by_cases a:t<(c.ns.length:Int)
  .exact ⟨h1,a⟩
  .rw [if_neg (by rw [decide_eq_false a];decide)] at h;cases h
 .rw [if_neg (by rw [decide_eq_false h1];decide)] at h;cases h
def TN{c:Con}{g:Gan}(d:c.ns.length<=12)(h:fU c g=0):g.ok=true:=by obtain ⟨h1,a⟩:=rY.1 h;have h3:=WR a;unfold P6 at h1;simp only [Af,decide_eq_true_eq] at h1;have b:=qU h1.2.1;unfold Gan.ok;rw [b];exact zqca22
def aBd{s:Sta}(h:pI s=true):(s.c.tok=true/\s.c.ns.length<=12/\s.c.hs.length<=24)/\(∀ x∈s.c.hs,0<=x.f/\x.f<=100)/\(0<=s.now/\s.now<=1099511627776)/\(1<=s.nxt/\s.nxt<=1099511627776)/\s.hist.length=s.c.ns.length/\s.pend.length+s.run.length<=32:=by
 unfold pI TH at h;simp only [Af,Fl,decide_eq_true_eq] at h;obtain ⟨⟨h1,j,h3,k,i⟩,_⟩:=h;refine ⟨?_,?_,j,h3,k,i⟩
 .rcases h1 with h1 | h1
  .exact MT h1
  .exact NA h1
 .intro x a;rcases h1 with h1 | h1
  .unfold iU at h1;simp only [Af,decide_eq_true_eq] at h1;rw [h1.2.1] at a;cases a
  .unfold cJ at h1;by_cases e:ET s.c
   .rw [if_pos e] at h1;by_cases g:nK s.c.ns 0 s.c.ns=true
    .rw [if_pos g] at h1;by_cases d:s.c.hs.all nP=true
     .have:=Cb.1 d x a;unfold nP at this;by_cases b:KS x
      .rw [if_pos b] at this;cases this
      .unfold KS at b;omega
     .rw [if_neg d] at h1;cases h1
    .rw [if_neg g] at h1;cases h1
   .rw [if_neg e] at h1;cases h1
def UH{s:Sta}(h:pI s=true):(kP s).length<=3000:=by
 obtain ⟨⟨h1,m,h3⟩,_⟩:=aBd h;have e:kP s=pl s.cmd.il:=if_pos (aBb h);rw [e];have key:∀ (l:ax),okI l=true->(pl l).length<=10*l.length:=λ l hl=>C8.pl_len (qJ hl);have d:∀ (l:bc),zQ l=true->(pl (C8.nodL l)).length<=110*l.length:=by
  intro l;induction l with
  | nil=>intro _;simp [C8.nodL,pl]
  | cons x r b=>
   intro hl;unfold zQ at hl;rw [Af] at hl;have e:C8.nodL (x::r)=x.il++C8.nodL r:=rfl;rw [e,C8.pl_append,Ai];have:=C8.il_len x hl.1;have:=b hl.2;simp only [Ak];omega
 have f:∀ (l:List Hos),uR l=true->(pl (C8.hosL l)).length<=60*l.length:=by
  intro l;induction l with
  | nil=>intro _;simp [C8.hosL,pl]
  | cons x r b=>
   intro hl;unfold uR at hl;rw [Af] at hl;have e:C8.hosL (x::r)=x.il++C8.hosL r:=rfl;rw [e,C8.pl_append,Ai];have:=C8.ih_len x hl.1;have:=b hl.2;simp only [Ak];omega
 unfold Con.tok at h1;simp only [Af] at h1;have i:=d _ h1.1.1;have j:=f _ h1.1.2;have o:=key [(1:Int)] rfl;have k:(pl [((nav s.c.ns).length:Int)]).length<=10:=by have:=C8.pl_len (l:=[((nav s.c.ns).length:Int)]) (λ n a=>by simp at a;omega);simpa using this
 have p:(pl [((hav s.c.hs).length:Int)]).length<=10:=by have:=C8.pl_len (l:=[((hav s.c.hs).length:Int)]) (λ n a=>by simp at a;omega);simpa using this
 have q:=key [s.c.half,s.c.age] h1.2;have g:s.cmd.il=[(1:Int)]++([((nav s.c.ns).length:Int)]++(C8.nodL s.c.ns++([((hav s.c.hs).length:Int)]++(C8.hosL s.c.hs++[s.c.half,s.c.age])))):=rfl;rw [g];simp only [C8.pl_append,Ai,Ak,Bz] at *
 omega
def YI{s:Sta}(h:pI s=true):Wr s:=by
 obtain ⟨⟨h1,y,h3⟩,F,w,z,H,K⟩:=aBd h;have j:=h;unfold pI at j;simp only [Af,Cb] at j;refine ⟨Dh (UH h) d_,⟨w.1,w.2,by omega,z.2⟩,by omega,by omega,by omega,λ x i=>?_,λ x i=>?_⟩
 .have a:=j.2.2.1.1 x i;unfold pnB at a;simp only [Af,decide_eq_true_eq] at a;refine ⟨TN y a.1,?_⟩;have:=a.2.2;exact zqca22
 .have a:=j.2.2.1.2 x i;have A:=(aBc h i).chk;obtain ⟨t,k⟩:=P2 A;rw [BJ] at k;unfold pnB rnB at a;simp only [Af,decide_eq_true_eq] at a;obtain ⟨⟨p,_,q⟩,⟨I,J⟩,_,n⟩:=a;have hp:=yX p;have D:1<=x.g.pods/\x.g.pods<=16:=hp;have b:x.hs≠[]:=λ e=>by rw [e] at t;simp at t;omega
  have B:0<=x.fl/\x.fl<=100:=by
   cases o:x.hs with
   | nil=>exact absurd o b
   | cons u r=>
    have m:=k u (by rw [o];exact Ao ..);rw [o] at n;have n:(bQ s.c.hs u).f=x.fl:=n;have d:u.toNat<s.c.hs.length:=o_;have hm:bQ s.c.hs u∈s.c.hs:=by unfold bQ;rw [Ac d];exact Ax d
    have:=F _ hm;omega
  have q:(0<=x.seq/\x.seq<s.nxt)/\0<=x.at'/\x.at'<=s.now:=q;refine ⟨TN y p,?_,?_,b,by omega⟩
  .exact zqca22
  .have key:∀ (l:ax),(∀ u∈l,0<=u/\u<(s.c.hs.length:Int))->okI l=true:=by
    intro l;induction l with
    | nil=>intro _;rfl
    | cons u r G=>
     intro hl;have m:=hl u (Ao ..);unfold okI;rw [G λ v C=>hl v (Av _ C)];simp only [pG,Af,decide_eq_true_eq,and_true];omega
   exact key x.hs λ u m=>⟨(k u m).1,(k u m).2.1⟩
open C8 (leN O3 vY bV dI rGan bJ rM iQ pl putN iP RP G9 cB fO)
def S7(x:Nat):∀ (i:Nat),leN (KM x i)=x % 2 ^ (8*i)
 | 0=>by simp [KM,leN,Ji]
 | i+1=>by rw [MK,vY,nE,S7 x i];unfold ML;rw [Hh,Nat.mod_mod,Gr,Ft,Nat.mod_mul,Dn (2 ^ (8*i)),show (2:Nat) ^ (8*1)=256 from rfl]
def aJL{x:Nat}(h:x<18446744073709551616):leN (BM x)=x:=by unfold BM;rw [S7,Hf o_]
def G8(c:Con)(now nxt:Int):∀ (l a:az) (s:aw),(∀ x∈l,x<18446744073709551616)->rH c now nxt l.length a (yW l++s)=rPs c now nxt (a++l) s
 | [],a,s,_=>by rw [Ar];rfl
 | x::r,a,s,h=>by
  have hl:(BM x).length=8:=nE x 8;have e:yW (x::r)++s=BM x++(yW r++s):=by rw [<-Ag];rfl
  rw [e,Ak];unfold rH;rw [if_neg (by rw [Ai];omega)];have b:(BM x++(yW r++s)).take 8=BM x:=by rw [Dm o_,Cn o_]
  have f:(BM x++(yW r++s)).drop 8=yW r++s:=by rw [<-hl,Jp]
  rw [b,f,aJL (h x (Ao ..)),G8 c now nxt r _ s λ y d=>h y (Av _ d),Ag];rfl
def aM9(a b:Int)(s:aw):pl [a,b]++s=putN a.toNat++(putN b.toNat++s):=by simp [pl]
def ok2{a b:Int}(h:okI [a,b]=true):(0<=a/\a<=1099511627777)/\0<=b/\b<=1099511627777:=by have h1:=C8.okI_b h a s_;have c:=C8.okI_b h b s_;omega
def aEC(c:Con)(now nxt:Int)(b:az):∀ (l a:a7) (s:aw),(∀ x∈l,x.g.ok=true/\okI [x.seq,x.at']=true)->rP c now nxt b l.length a (uI l++s)=rRs c now nxt b (a++l) s
 | [],a,s,_=>by rw [Ar];rfl
 | x::r,a,s,h=>by
  obtain ⟨h1,i⟩:=h x (Ao ..);obtain ⟨d,f⟩:=ok2 i;have e:uI (x::r)++s=pl x.g.il++(putN x.seq.toNat++(putN x.at'.toNat++(uI r++s))):=by rw [<-aM9];show (pl x.g.il++pl [x.seq,x.at']++uI r)++s=_;simp only [Ag]
  rw [e,Ak];unfold rP;rw [rM h1];dsimp only;rw [bJ d.1 d.2];dsimp only;rw [bJ f.1 f.2];dsimp only;rw [aEC c now nxt b r _ s λ y j=>h y (Av _ j),Ag];rfl
def AY:∀ (l a:ax) (s:aw),okI l=true->AZ l.length a (pl l++s)=some (a++l,s)
 | [],a,s,_=>by rw [Ar];rfl
 | x::r,a,s,h=>by
  have b:=C8.okI_b h x (Ao ..);have e:pl (x::r)++s=putN x.toNat++(pl r++s):=by simp [pl]
  have c:okI r=true:=by unfold okI at h;rw [Af] at h;exact h.2
  rw [e,Ak];unfold AZ;rw [bJ b.1 o_];dsimp only;rw [AY r _ s c,Ag];rfl
def Z7:∀ (l:ax),l.length<=(pl l).length
 | []=>Ch _
 | x::r=>by have:=Z7 r;have:=C8.putN_pos x.toNat;simp only [pl,Ai,Ak];omega
def aEB(c:Con)(now nxt:Int)(d:az)(f:a7):∀ (l a:a6),(∀ x∈l,(x.hs.length:Int)=x.g.pods/\x.g.ok=true/\okI [x.seq,x.at',x.st,x.fl]=true/\okI x.hs=true)->rR c now nxt d f l.length a (qG l)=some ((⟨c,now,nxt,f,a++l,d⟩,true),[])
 | [],a,_=>by rw [Ar];rfl
 | x::r,a,h=>by
  obtain ⟨p,h1,b,h3⟩:=h x (Ao ..);have j:=C8.okI_b b x.seq s_;have n:=C8.okI_b b x.at' s_;have m:=C8.okI_b b x.st s_;have k:=C8.okI_b b x.fl s_;have e:qG (x::r)=pl x.g.il++(putN x.seq.toNat++(putN x.at'.toNat++(putN x.st.toNat++(putN x.fl.toNat++(pl x.hs++qG r))))):=by show (pl x.g.il++pl [x.seq,x.at',x.st,x.fl]++pl x.hs)++qG r=_;simp [pl]
  rw [e,Ak];unfold rR;rw [rM h1];dsimp only;rw [bJ j.1 o_];dsimp only;rw [bJ n.1 o_];dsimp only;rw [bJ m.1 o_];dsimp only;rw [bJ k.1 o_];dsimp only;have o:=Z7 x.hs;rw [if_neg (by rw [decide_eq_false (by rw [Ai];omega)];decide),show x.g.pods.toNat=x.hs.length from by omega,AY _ _ _ h3];dsimp only;rw [aEB c now nxt d f r _ λ y i=>h y (Av _ i),Ag];rfl
def IF:∀ (l:az),(yW l).length=8*l.length
 | []=>rfl
 | x::r=>by have:(BM x).length=8:=nE x 8;unfold yW;rw [Ai,IF r,Ak];omega
def R6:∀ (l:a7),l.length<=(uI l).length
 | []=>Ch _
 | x::r=>by
  have h1:=R6 r;have a:=Z7 [x.seq,x.at'];unfold uI;simp only [Ai,Ak,Bz] at *
  omega
def RC:∀ (l:a6),l.length<=(qG l).length
 | []=>Ch _
 | x::r=>by
  have h1:=RC r;have a:=Z7 [x.seq,x.at',x.st,x.fl];unfold qG;simp only [Ai,Ak,Bz] at *
  omega
def aI0{s:Sta}(h:pI s=true)(l:∀ x∈s.hist,x<18446744073709551616):rSt (cE s)=some ((s,true),[]):=by
 have w:=YI h;have a:=aBb h;obtain ⟨n,⟨n1,n2,g,r⟩,o,q,m,d,i⟩:=w;have hd:C8.dec (kP s)=some s.cmd:=by have e:kP s=pl s.cmd.il:=if_pos a;unfold C8.dec;rw [e,C8.rCmd_put (C8.chk_told a)];exact if_pos ⟨rfl,a⟩
 have l1:=IF s.hist;have l2:=R6 s.pend;have p:=RC s.run;have e:cE s=putN ((kP s).length:Int).toNat++(kP s++(putN s.now.toNat++(putN s.nxt.toNat++(putN (s.hist.length:Int).toNat++(yW s.hist++(putN (s.pend.length:Int).toNat++(uI s.pend++(putN (s.run.length:Int).toNat++qG s.run)))))))):=by unfold cE;simp [pl]
 rw [e];unfold rSt;rw [iQ o_ o_ _ (by rw [Ai];omega)];dsimp only;rw [Br,Hw,Jp,hd];dsimp only;rw [if_pos (show s.cmd.k=1 from rfl)];unfold rB;rw [bJ n1 o_];dsimp only;rw [bJ g o_];dsimp only;rw [iQ o_ o_ _ (by rw [Ai];omega)];dsimp only;rw [Br,G8 _ _ _ _ _ _ l];unfold rPs;rw [iQ o_ o_ _ (by rw [Ai];omega)];dsimp only;rw [Br,aEC _ _ _ _ _ _ _ d];unfold rRs;rw [iQ o_ o_ _ o_];dsimp only;rw [Br,aEB _ _ _ _ _ _ _ λ x b=>?_]
 .rfl
 .obtain ⟨f,j,c,_,_⟩:=i x b;exact ⟨(P2 (aBc h b).chk).1,f,j,c⟩
def aK6{s:Sta}(h:pI s=true)(a:∀ x∈s.hist,x<18446744073709551616):aCH (cE s)=some s:=by unfold aCH;rw [aI0 h a];exact if_pos ⟨rfl,h⟩
end Go.Proofs.YtidhfoefaomodaaGreatDoor
