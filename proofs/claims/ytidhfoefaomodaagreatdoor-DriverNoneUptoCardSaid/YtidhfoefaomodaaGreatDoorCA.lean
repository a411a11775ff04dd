/- Part 8 of what the statement rests on. -/
import Derived.Lib.Builder
import Derived.Lib.UnsafeStr
import Derived.Lib.Walk
import Derived.Shelf.RegionOpenPlain
import Derived.Test.YtidhfoefaomodaaGreatDoorRA
set_option linter.all false
set_option maxHeartbeats 1000000
open And renaming intro->Ac
open Bool renaming and_assoc->Ij,and_eq_true->Ad,and_false->Db,and_true->Hz,eq_false_or_eq_true->Eh,eq_iff_iff->Hx,false_and->Fj,false_eq_true->Cp,false_or->Nf,not_eq_false'->Jb,not_eq_true'->Cx,or_eq_true->Fc,true_and->Cy
open Decidable renaming not_not->Fh
open Exists renaming intro->Ao
open Go.Builtin renaming unsafeSliceData_->Iy,unsafeString_->Js
open Go.Result renaming andThen->Ef
open Go.World renaming shape?->Ji
open Int renaming fdiv_eq_ediv_of_nonneg->Ea,le_refl->Dh,le_trans->Fk,mul_nonneg->Ld,toNat->Dq,toNat_natCast->Bt,toNat_of_nonneg->Ky
open List renaming all_cons->Kd,all_eq_true->Cq,any_cons->Hg,any_eq_true->Fq,append_assoc->Af,append_nil->Av,cons_append->Cc,count_append->Jh,count_cons_of_ne->Ms,count_cons_self->Ik,count_eq_zero->Le,count_le_length->Mx,drop->Hi,drop_drop->Hk,drop_eq_getElem_cons->Ae,drop_eq_nil_of_le->Ah,drop_left->Jj,drop_zero->Ci,eraseIdx_eq_take_drop_succ->Ga,ext_getElem?->Ek,filter_cons_of_neg->Fs,filter_cons_of_pos->Ft,filter_eq_self->Gq,foldl_cons->Ba,getElem?_append_left->Ag,getElem?_append_right->Ak,getElem?_drop->Bp,getElem?_eq_getElem->Aa,getElem?_eq_none->Bk,getElem?_eq_some_iff->Ab,getElem?_map->Bf,getElem?_range->Dn,getElem?_take_of_lt->Bi,getElem_mem->Bh,length->Lm,length_append->Ai,length_cons->Al,length_drop->Ei,length_eraseIdx->Kj,length_map->Ch,length_nil->Br,length_pos_iff->Dy,length_take->Dp,map_append->Bm,map_cons->Bl,map_drop->Ix,map_map->Dx,map_take->Gh,mem_append->Az,mem_append_left->Dd,mem_append_right->Cu,mem_cons->Bb,mem_cons_of_mem->Bd,mem_cons_self->Ap,mem_map->Ca,mem_map_of_mem->Cm,mem_singleton->Dj,nil_append->Bn,nodup_cons->Ce,not_mem_nil->Ju,pairwise_iff_getElem->Gb,range->Di,range'->Il,range_eq_range'->Im,range_succ->Mp,replicate->Aj,replicate_succ->Kz,set_append_right->Gy,take->Ia,take_add_one->Ll,take_append_of_le_length->Dc,take_left->Hl,take_of_length_le->Cf
open List.cons renaming inj->Gi
open Nat renaming add_mul->Bx,add_zero->Fl,beq->Aw,le_refl->Bc,le_trans->Cz,min_eq_left->Gp,mod_eq_of_lt->Hj,mod_one->Jd,mul_add->Gs,mul_assoc->Iz,mul_comm->De,mul_le_mul_right->Bu,pow_add->Fu,pow_le_pow_right->Ew,strongRecOn->Hy,zero_add->Bo,zero_le->Bv,zero_lt_succ->Lx
open Option renaming map_eq_some_iff->Cd
open Option.some renaming injEq->Ds
open Or renaming inl->Gd,inr->Ks
open Prod.mk renaming injEq->Ke
open UInt8 renaming ofNat->Dm,toNat_ofNat'->Gw
namespace Go.Proofs.YtidhfoefaomodaaGreatDoor
open Go Go.AW Go.Proofs
def zqca0 {P:Prop} (h:P:=by
 have b:false=r:=b;subst b;rcases z with ⟨rfl,rfl⟩ | rfl
 .refine gV ?_;refine aT λ h=>?_
  repeat' first | (refine gN hE ?_;conv=>whnf) | refine ⟨i,rfl,?_⟩ | refine ⟨u0.toNat,j,?_⟩ | refine ⟨_,get,?_⟩ | refine ⟨_,e,?_⟩ | refine ⟨_,n,?_⟩ | refine Ao _ (Ac (d _) ?_) | refine .pure _ [] a ?_ | exact rfl | (refine zt ?_;try intro h) | refine zu (λ h=>?_) λ h=>?_ | fail
 .refine gV ?_;refine aT λ h=>?_
  repeat' first | (refine gN hE ?_;conv=>whnf) | refine ⟨i,rfl,?_⟩ | refine ⟨u0.toNat,j,?_⟩ | refine ⟨_,get,?_⟩ | refine ⟨_,e,?_⟩ | refine ⟨_,n,?_⟩ | refine Ao _ (Ac (d _) ?_) | refine .pure _ [] a ?_ | exact rfl | (refine zt ?_;try intro h) | refine zu (λ h=>?_) λ h=>?_ | fail):P:=h
def zqca1 {P:Prop} (h:P:=by
 refine To.leave (f:=152) (args:=[.ref 1 0]) [] rfl [] [1] rfl (catch_pan 0 1) ?_
 exact To.left hE rfl rfl rfl):P:=h
def zqca2 {P:Prop} (h:P:=by
 refine gV ?_;refine aT λ h=>?_;refine gV ?_;refine ⟨i,rfl,?_⟩;refine gV ?_;refine ⟨_,get,?_⟩;refine gV ?_;refine .pure _ [] c ?_;refine cO (hEr [] [64,65,66]) 20 ?_;conv=>whnf
 refine To.cutC [1,3,4,6,7,14,15,16] 3 rfl rfl rfl rfl ?_;refine sB p ?_
 exact zW):P:=h
def zqca3 {P:Prop} (h:P:=by
 refine gV ?_;refine .eff [] [1,2] _ _ rfl (aA.strip (nums_ok [x.n] s_ l s_ _ q_)) ?_;refine gV ?_;have il:=il_cons x [x.n] (by rw [h1,b,i];rfl);have a:putN x.k.toNat++pl [x.n]≠[]:=by rw [il];exact pl_ne _ _
 refine .eff [] [1,2] _ _ rfl (str_ok _ a _) ?_;refine gV ?_
 rw [il]):P:=h
def zqca4 {P:Prop} (h:P:=by
 refine ⟨λ c=>?_,λ c=>?_⟩
 .refine gV ?_;rw [if_pos c] at a;rw [a]
 .refine gV ?_;rw [if_neg (by rw [c];simp)] at a;refine .inl ⟨⟨by simp only [cJ];omega,by simp only [bE];omega⟩,?_⟩;have d:=g (i+1) o_ (by rw [<-a];push_cast;rfl)
  exact zW):P:=h
def zqca5 {P:Prop} (h:P:=by
 refine gV ?_;have ao:=t (i+1) 1 (bs++putN x.toNat) o_ (.inr rfl) (λ_=>rfl) (λ_=>rfl) q_ a
 rcases k with rfl | rfl
 .refine .sole rfl (.eff [] [0,1] _ _ rfl (ws_ok bs _ o_) ?_);refine gV ?_;refine aJ ?_;refine gV ?_;refine To.part [0,6,7,8] [0,1] rfl rfl rfl ?_;exact ao
 .refine .sole rfl (.eff [] [0,1] _ _ rfl (ws_ok bs _ o_) ?_);refine gV ?_;refine aJ ?_;refine gV ?_;refine To.part [0,6,7,8] [0,1] rfl rfl rfl ?_
  exact ao):P:=h
def zqca6 {P:Prop} (h:P:=by
 refine gV ?_;refine aJ ?_;refine gV ?_;refine gV ?_;refine Ac (λ h=>absurd (of_decide_eq_true h) s_) (λ_=>?_);refine gV ?_;refine ⟨[],[0,1],⟨rfl,rfl⟩,?_⟩
 exact ⟨rfl,rfl⟩):P:=h
def zqca7 {P:Prop} (h:P:=by
 refine ⟨[],[0],⟨rfl,rfl⟩,?_⟩
 exact ⟨rfl,rfl⟩):P:=h
def zqca8 {P:Prop} (h:P:=by
 refine cT (E:=(Eo [14] [])) (fn:=Tryz.f87) (g:=.full 2 _ _) λ_=>?_;refine gV ?_;refine .eff [] [0,1] _ _ rfl (JT _) ?_;refine gV ?_;refine ⟨⟨by simp only [maxLen];simp;omega,by simp;omega⟩,?_⟩;refine gV ?_;refine ⟨[],[0,1],⟨rfl,rfl⟩,?_⟩;conv=>whnf
 refine ⟨rfl,?_⟩;rw [Bm]
 rfl):P:=h
def zqca9 {P:Prop} (h:P:=by
 refine gW hEc ?_;conv=>whnf
 refine .pure _ [] (fN _ _ rfl) ?_;refine cO hEc 2 ?_;conv=>whnf
 refine To.cutC [1,2] 2 rfl rfl rfl rfl ?_
 exact (VV x r a)):P:=h
def zqca10 {P:Prop} (h:P:=by
 intro i g bs r k j _ d a;have e:=j rfl;subst e;rw [Ah o_] at a;have a:bs++[]=B:=a;rw [Av] at a;subst a;refine gV ?_;refine aF λ h=>?_;refine gV ?_;refine ⟨[],[0,1],⟨rfl,rfl⟩,?_⟩;rcases k with rfl | rfl
 .exact ⟨rfl,rfl⟩
 .exact ⟨rfl,rfl⟩):P:=h
def zqca11 {P:Prop} (h:P:=by
 refine cT (E:=(Eo [14] [])) (fn:=Tryz.f87) (g:=.full 1 _ _) λ_=>?_;refine gV ?_;refine .eff [] [0] _ _ rfl (cc_fresh _) ?_;refine gV ?_;refine ⟨⟨by simp only [maxLen];simp;omega,by simp;omega⟩,?_⟩;refine gV ?_
 exact zx [0,1]):P:=h
def zqca12 {P:Prop} (h:P:=by exact c_ Tryz.f204 λ_=>zW):P:=h
def zqca13 {P:Prop} (h:P:=by
 refine Lib.run_unsafeString_row w.drew 254 3 9 5 ZY aDI g a.size (by have k:w.drew.heap[g]? =some (.cells a 5 (0,0)):=u;simp [Ji,k]) l n o_ (by unfold maxLen at m;omega) ?_;intro j x v;rw [bA,Bo]
 exact c j x v):P:=h
def zqca14 {P:Prop} (h:P:=by
 simp only [h1] at b a;have b:Res.pan (aW 10)=r:=b;have a:rdU=O:=a;subst b a;refine .effp [] [0] _ _ rfl (iY h1) ?_
 exact zx [0]):P:=h
def zqca15 {P:Prop} (h:P:=by
 refine To.left hE rfl rfl ?_;refine ⟨[],[0,1,2],⟨rfl,rfl⟩,?_⟩
 exact ⟨rfl,rfl⟩):P:=h
def zqca16 {P:Prop} (h:P:=by
 refine gW hEc ?_;conv=>whnf
 refine .pan _ (cX _ _ rfl) ?_;conv=>whnf
 exact zqca1):P:=h
def zqca17 {P:Prop} (h:P:=by
 have h2:pav (xs.take i++[p]++xs.drop i)=(pav xs).take i++[p.av]++(pav xs).drop i:=by simp
 rw [h2]
 exact congrArg (λ l=>[ab.row 1 11 47 l,.row 0 11 47 [p.av]]) h):P:=h
def zqca18 {P:Prop} (h:P:=by
 refine .effp [] [0] _ _ rfl (bM h3) ?_
 exact zx [0]):P:=h
def zqca19 {P:Prop} (h:P:=by
 refine .effp [] [0] _ _ rfl (bM h1) ?_
 exact zx [0]):P:=h
def zqca20 {P:Prop} (h:P:=by
 refine To.part [1,3,4,14,15,16] [0,1] rfl rfl rfl ?_;refine a ?_;clear d a;simp only [decide_eq_true_eq,decide_eq_false_iff_not,bne_iff_ne,ne_eq,bne_eq_false_iff_eq,Fh] at *
 simp [gcB]
 try omega):P:=h
def zqca21 {P:Prop} (h:P:=by
 subst d;refine congrArg (λ q=>Res.ret (aa.bool q)) ?_;simp only [decide_eq_true_eq,decide_eq_false_iff_not] at *
 first | (rw [decide_eq_false o_];rfl) | (rw [decide_eq_true o_];rfl)):P:=h
def zqca22 {P:Prop} (h:P:=by
 refine gV ?_;refine .pure _ [] (k xs[i] (Bh b)) ?_;refine gV ?_;rw [Ae b] at a;have a:(if p xs[i]=true then (i:Int) else I6 p (xs.drop (i+1)) ((i:Int)+1))=r:=a
 exact zqca4):P:=h
def zqca23 {P:Prop} (h:P:=by
 simp only [okI,nV,Ad,decide_eq_true_eq,and_true]
 omega):P:=h
def zqca24 {P:Prop} (h:P:=by
 refine gV ?_;refine .eff [] [1,2] _ _ rfl (str_ok _ a _) ?_;refine gV ?_
 rw [il]):P:=h
def zqca25 {P:Prop} (h:P:=by
 refine .effp [] [0] _ _ rfl (bM j) ?_
 exact zx [0]):P:=h
def zqca26 {P:Prop} (h:P:=by
 refine gV ?_;refine To.part [0,6,7,8] [0,1] rfl rfl rfl ?_
 exact xE l o_ e _ 1 o_ l.length 0 0 bs o_ (.inl rfl) (λ h=>by omega) (λ_=>rfl) o_ rfl):P:=h
def zqca27 {P:Prop} (h:P:=by
 simp only [h1] at d b;have d:Res.pan (aW 10)=r:=d;have b:rdU=O:=b;subst d b;refine .effp [] [0] _ _ rfl (uX h1) ?_
 exact zx [0]):P:=h
def zqca28 {P:Prop} (h:P:=by
 simp only [g] at f d;have f:Res.pan (aW 10)=r:=f;have d:rdU=O:=d;subst f d;refine .effp [] [0] _ _ rfl (bM g) ?_
 exact zx [0]):P:=h
def zqca29 {P:Prop} (h:P:=by
 refine gV ?_;refine ⟨[],[0,1],⟨rfl,rfl⟩,?_⟩
 exact ⟨rfl,rfl⟩):P:=h
def zqca30 {P:Prop} (h:P:=by
 refine To.leave (f:=152) (args:=[.ref 1 0]) [] rfl [] [1] rfl (catch_pan 0 8) ?_
 exact To.left hE rfl rfl rfl):P:=h
def zqca31 {P:Prop} (h:P:=by
 rw [Av] at this;simp only [show ((2:Int)==1)=false from rfl,show ((2:Int)==2)=true from rfl,if_true,Cp,if_false]
 rw [this]):P:=h
def zqca32 {P:Prop} (h:P:=by
 have:w.drew.heap[b]? =some (.cells #[p,.slice (some ⟨g,0,none⟩) l.length cap] tWr (0,0)):=d
 rw [Lib.cell_of_heap this];rfl):P:=h
def zqca33 {P:Prop} (h:P:=by
 intro i j a;refine gV ?_;refine aF λ h=>?_;refine gV ?_;rw [Ah o_] at a;rw [<-a]
 rfl):P:=h
def zqca34 {P:Prop} (h:P:=by
 refine gV ?_;refine Ac (λ_=>?_) (λ h=>absurd h d_);refine To.loose ?_;refine gV ?_
 exact zqca7):P:=h
def zqca35 {P:Prop} (h:P:=by
 rw [Ah o_,Ah o_] at c;subst c;refine gV ?_
 exact zW):P:=h
def zqca36 {P:Prop} (h:P:=by
 refine cO hEc 2 ?_;conv=>whnf
 refine To.cutC [1,2] 2 rfl rfl rfl rfl ?_
 exact (aIm x r a)):P:=h
def zqca37 {P:Prop} (h:P:=by
 simp only [h1] at f d;have f:Res.pan (aW 10)=r:=f;have d:rdU=O:=d;subst f d
 exact zqca19):P:=h
def zqca38 {P:Prop} (h:P:=by
 simp only [h3] at d b;have d:Res.pan (aW 10)=r:=d;have b:rdU=O:=b;subst d b
 exact zqca18):P:=h
def zqca39 {P:Prop} (h:P:=by
 simp only [j] at d b;have d:Res.pan (aW 10)=r:=d;have b:rdU=O:=b;subst d b
 exact zqca25):P:=h
def zqca40 {P:Prop} (h:P:=by
 refine cO hEc 2 ?_;conv=>whnf
 refine To.cutC [1,2] 2 rfl rfl rfl rfl ?_
 exact (aIl x r a)):P:=h
def zqca41 {P:Prop} (h:P:=by
 rw [e] at a d;have a:false=b:=a;subst a;refine gV ?_
 exact zW):P:=h
def zqca42 {P:Prop} (h:P:=by
 have a:R=false:=a;subst a
 exact c_ Tryz.f61 λ_=>zW):P:=h
def zqca43 {P:Prop} (h:P:=by
 refine gV ?_;refine To.part [1,7,69,70,71] [0,1] rfl rfl rfl ?_
 exact ao):P:=h
structure Cmd where
 k:Int
 c:Con
 g:Gan
 n:Int
 deriving DecidableEq
def Cmd.cs (x:Cmd):List aa:=[ii x.k,.slice 11 (nav x.c.ns) .no,.slice 6 (hav x.c.hs) .no,ii x.c.half,ii x.c.age,ii x.g.id,ii x.g.ten,ii x.g.pods,ii x.g.need.a,ii x.g.need.b,ii x.g.need.c,ii x.g.run,ii x.g.lev,ii x.g.pref,ii x.n]
def Cmd.av (x:Cmd):aa:=.agg x.cs
def nV (x:Int):Bool:=decide (0<=x)&&decide (x<=1099511627776)
def okI:List Int->Bool
 | []=>true
 | x::r=>nV x&&okI r
def V3.l (v:V3):List Int:=[v.a,v.b,v.c]
def Nod.ok (x:Nod):Bool:=(decide (-1<=x.p)&&decide (x.p<=1099511627776))&&okI [x.w]&&okI x.n.l&&okI x.b.l&&okI x.l.l
def Hos.ok (x:Hos):Bool:=okI [x.f,x.b,x.r]&&okI x.c.l
def tX:List Nod->Bool
 | []=>true
 | x::r=>x.ok&&tX r
def qB:List Hos->Bool
 | []=>true
 | x::r=>x.ok&&qB r
def Con.tok (c:Con):Bool:=tX c.ns&&qB c.hs&&okI [c.half,c.age]
def Gan.ok (g:Gan):Bool:=okI [g.id,g.ten,g.pods,g.run,g.lev,g.pref]&&okI g.need.l
def Con.none (c:Con):Bool:=decide ((c.ns.length:Int)=0)&&decide ((c.hs.length:Int)=0)&&decide (c.half=0)&&decide (c.age=0)
def Gan.zero:Gan:=⟨0,0,0,⟨0,0,0⟩,0,0,0⟩
end Go.Proofs.YtidhfoefaomodaaGreatDoor
namespace Go.Proofs.YtidhfoefaomodaaGreatDoor.C8
open Go Go.AW Go.Proofs
set_option maxRecDepth 10000
def aW (e:Int):aa:=.iface 337 (.agg [ii e])
def fN (b:Bool) (e:Int) (h:b=true):ar 155 [.bool b,ii e] [] (.ret (.tup [])) []:=by subst h;refine c_ Tryz.f155 λ_=>?_;refine gV ?_;refine ⟨λ h=>absurd h d_,λ h=>?_⟩;refine gW hE ?_;conv=>whnf
def cX (b:Bool) (e:Int) (h:b=false):ar 155 [.bool b,ii e] [] (.pan (aW e)) []:=by subst h;refine c_ Tryz.f155 λ_=>?_;refine gV ?_;refine ⟨λ h=>?_,λ h=>absurd h d_⟩;refine gV ?_;rfl
def aH5 (l:List Int):Res:=if okI l then .ret (.tup []) else .pan (aW 1)
def WL (l:List Int) (hl:((iv l).length:Int)<=9223372036854775807) (r:Res):∀ (n i:Nat),i+n=l.length->aH5 (l.drop i)=r->
  To E Tryz.f158 (.pure r) (.head (stk Tryz.f158 0) [(4,.slice 1 (iv l) .no),(5,.int .i64 ((iv l).length:Nat)),(6,.int .i64 i)] []):=by
 have d:(iv l).length=l.length:=by simp
 intro n;induction n with
 | zero=>
  intro i g a;rw [Ah o_] at a;refine gV ?_;refine ⟨λ h=>absurd (of_decide_eq_true h) o_,λ h=>?_⟩;refine gV ?_;exact a
 | succ n e=>
  intro i g a;have b:i<l.length:=o_;rw [Ae b] at a;have a:(if nV l[i]&&okI (l.drop (i+1)) then Res.ret (.tup []) else .pan (aW 1))=r:=a;refine gV ?_;refine ⟨λ h=>?_,λ h=>absurd (of_decide_eq_false h) o_⟩;refine gV ?_;refine ⟨i,rfl,?_⟩;refine gV ?_;refine ⟨_,fJ b,?_⟩;refine gV ?_;refine ⟨λ h1=>?_,λ h1=>?_⟩
  .refine gV ?_;rcases Eh (decide (l[i]<=1099511627776)) with c | c
   .refine .pure _ [] (fN _ _ c) ?_;refine gV ?_;refine .inl ⟨⟨by simp only [cJ];omega,by simp only [bE];omega⟩,?_⟩;refine gV ?_;refine To.head [4,5,6] ?_;refine e (i+1) o_ ?_;have h3:nV l[i]=true:=by unfold nV;rw [c];simpa using h1
    rw [h3,Cy] at a;exact a
   .refine .pan _ (cX _ _ c) ?_;have h3:nV l[i]=false:=by unfold nV;rw [c];simp
    rw [h3] at a;exact a
  .refine gV ?_;refine .pan _ (cX _ _ rfl) ?_;have h3:nV l[i]=false:=by unfold nV;have:decide (0<=l[i])=false:=h1;rw [this];rfl
   rw [h3] at a;exact a
def KP (l:List Int) (r:Res) (c:aH5 l=r):ar 158 [.slice 1 (iv l) .no] [] r []:=by refine c_ Tryz.f158 λ b=>?_;have a:=WL l b.1 _ l.length 0 o_ c;exact zW
def jD (l:List Int) (h:okI l=true):ar 158 [.slice 1 (iv l) .no] [] (.ret (.tup [])) []:=KP l _ (if_pos h)
def gJ (l:List Int) (h:okI l=false):ar 158 [.slice 1 (iv l) .no] [] (.pan (aW 1)) []:=KP l _ (if_neg (by rw [h];simp))
def oR (b:Bool):Res:=if b then .ret (.tup []) else .pan (aW 1)
def CH {b:Bool} {r:Res} (a:oR b=r) (h:b=false):Res.pan (aW 1)=r:=by subst h;exact a
def RV (c:Con) (r:Res) (hl:((hav c.hs).length:Int)<=9223372036854775807):∀ (n i:Nat),i+n=c.hs.length->oR (qB (c.hs.drop i)&&okI [c.half,c.age])=r->
  To E Tryz.f156 (.pure r) (.head (stk Tryz.f156 1) [(1,.ref 0 0),(37,.slice 6 (hav c.hs) .no),(38,.int .i64 ((hav c.hs).length:Nat)),(39,.int .i64 i)] [.cells 26 c.cs]):=by
 have g:(hav c.hs).length=c.hs.length:=by simp
 intro n;induction n with
 | zero=>
  intro i m a;rw [Ah o_] at a;refine gV ?_;refine ⟨λ h=>absurd (of_decide_eq_true h) o_,λ h=>?_⟩;refine gV ?_;cases d:okI [c.half,c.age] with
  | true=>
   refine .pure _ [] (aA.strip (jD [c.half,c.age] d)) ?_;refine gV ?_;rw [d] at a;exact a
  | false=>
   refine .pan _ (aA.strip (gJ [c.half,c.age] d)) ?_;rw [d] at a;exact a
 | succ n j=>
  intro i m a;have e:i<c.hs.length:=o_;rw [Ae e] at a;have a:oR ((c.hs[i].ok&&qB (c.hs.drop (i+1)))&&okI [c.half,c.age])=r:=a;generalize k:c.hs[i]=x at a;refine gV ?_;refine ⟨λ h=>?_,λ h=>absurd (of_decide_eq_false h) o_⟩;refine gV ?_;refine ⟨i,rfl,?_⟩;refine gV ?_;refine ⟨_,(vX e).trans (by rw [k]),?_⟩;refine gV ?_;cases d:okI [x.f,x.b,x.r] with
  | false=>
   refine .pan _ (aA.strip (gJ [x.f,x.b,x.r] d)) ?_;exact CH a (by unfold Hos.ok;rw [d];rfl)
  | true=>
   refine .pure _ [] (aA.strip (jD [x.f,x.b,x.r] d)) ?_;refine gV ?_;refine ⟨by decide,?_⟩;refine gV ?_;cases h3:okI x.c.l with
   | false=>
    refine .pan _ (aA.strip (gJ x.c.l h3)) ?_;exact CH a (by unfold Hos.ok;rw [d,h3];rfl)
   | true=>
    refine .pure _ [] (aA.strip (jD x.c.l h3)) ?_;refine gV ?_;refine .inl ⟨⟨by simp only [cJ];omega,by simp only [bE];omega⟩,?_⟩;refine gV ?_;refine To.cut [1,37,38,39] 1 rfl rfl rfl rfl ?_;refine j (i+1) o_ ?_;have:x.ok=true:=by unfold Hos.ok;rw [d,h3];rfl
    rw [this,Cy] at a;exact a
def YZ (c:Con) (r:Res) (hl:((nav c.ns).length:Int)<=9223372036854775807) (s:((hav c.hs).length:Int)<=9223372036854775807):∀ (n i:Nat),i+n=c.ns.length->oR (tX (c.ns.drop i)&&(qB c.hs&&okI [c.half,c.age]))=r->
  To E Tryz.f156 (.pure r) (.head (stk Tryz.f156 0) [(1,.ref 0 0),(7,.slice 11 (nav c.ns) .no),(8,.int .i64 ((nav c.ns).length:Nat)),(9,.int .i64 i)] [.cells 26 c.cs]):=by
 have q:(nav c.ns).length=c.ns.length:=by simp
 intro n;induction n with
 | zero=>
  intro i u d;rw [Ah o_] at d;refine gV ?_;refine ⟨λ h=>absurd (of_decide_eq_true h) o_,λ h=>?_⟩;have o:=RV c r s c.hs.length 0 o_ d;exact zW
 | succ n y=>
  intro i u d;have g:i<c.ns.length:=o_;rw [Ae g] at d;have d:oR ((c.ns[i].ok&&tX (c.ns.drop (i+1)))&&(qB c.hs&&okI [c.half,c.age]))=r:=d;generalize v:c.ns[i]=x at d;have a:x.ok=false->Res.pan (aW 1)=r:=λ h=>CH d (by rw [h];rfl);refine gV ?_;refine ⟨λ h=>?_,λ h=>absurd (of_decide_eq_false h) o_⟩;refine gV ?_;refine ⟨i,rfl,?_⟩;refine gV ?_;refine ⟨_,(kL g).trans (by rw [v]),?_⟩;refine gV ?_;refine ⟨λ h1=>?_,λ h1=>?_⟩
  .have h1:decide (-1<=x.p)=true:=h1;refine gV ?_;rcases Eh (decide (x.p<=1099511627776)) with e | e
   .refine .pure _ [] (fN _ _ e) ?_;refine gV ?_;cases h3:okI [x.w] with
    | false=>
     refine .pan _ (aA.strip (gJ [x.w] h3)) ?_;exact a (by unfold Nod.ok;rw [h3];simp)
    | true=>
    refine .pure _ [] (aA.strip (jD [x.w] h3)) ?_;refine gV ?_;refine ⟨by decide,?_⟩;refine gV ?_;cases j:okI x.n.l with
    | false=>
     refine .pan _ (aA.strip (gJ x.n.l j)) ?_;exact a (by unfold Nod.ok;rw [j];simp)
    | true=>
    refine .pure _ [] (aA.strip (jD x.n.l j)) ?_;refine gV ?_;refine ⟨by decide,?_⟩;refine gV ?_;cases m:okI x.b.l with
    | false=>
     refine .pan _ (aA.strip (gJ x.b.l m)) ?_;exact a (by unfold Nod.ok;rw [m];simp)
    | true=>
    refine .pure _ [] (aA.strip (jD x.b.l m)) ?_;refine gV ?_;refine ⟨by decide,?_⟩;refine gV ?_;cases k:okI x.l.l with
    | false=>
     refine .pan _ (aA.strip (gJ x.l.l k)) ?_;exact a (by unfold Nod.ok;rw [k];simp)
    | true=>
    refine .pure _ [] (aA.strip (jD x.l.l k)) ?_;refine gV ?_;refine .inl ⟨⟨by simp only [cJ];omega,by simp only [bE];omega⟩,?_⟩;refine gV ?_;refine To.cut [1,7,8,9] 1 rfl rfl rfl rfl ?_;refine y (i+1) o_ ?_;have:x.ok=true:=by unfold Nod.ok;rw [h1,e,h3,j,m,k];rfl
    rw [this,Cy] at d;exact d
   .refine .pan _ (cX _ _ e) ?_;exact a (by unfold Nod.ok;rw [e];simp)
  .have h1:decide (-1<=x.p)=false:=h1;refine gV ?_;refine .pan _ (cX _ _ rfl) ?_;exact a (by unfold Nod.ok;rw [h1];simp)
def aHv (c:Con) (M:Imm) (ob:Hs) (vs:List Value) (h:cA M ob vs [c.av]):((nav c.ns).length:Int)<=9223372036854775807/\((hav c.hs).length:Int)<=9223372036854775807:=by
 have hl:0<vs.length:=by rw [h.1];simp
 have:=h.2 0 _ c.av (Aa hl) rfl;exact ⟨cD this 0 _ rfl,cD this 1 _ rfl⟩
def DZ (c:Con) (r:Res) (b:oR c.tok=r):ar 156 [c.av] [] r []:=by refine aA.get _ (aHv c) λ⟨hl,d⟩=>?_;refine c_ Tryz.f156 λ_=>?_;have a:=YZ c r hl d c.ns.length 0 o_ (by rw [<-b];unfold Con.tok;rw [Ij];rfl);exact zW
def YX (c:Con) (h:c.tok=true):ar 156 [c.av] [] (.ret (.tup [])) []:=DZ c _ (if_pos h)
def RP (c:Con) (h:c.tok=false):ar 156 [c.av] [] (.pan (aW 1)) []:=DZ c _ (if_neg (by rw [h];simp))
def NG (x:Gan) (r:Res) (b:oR x.ok=r):ar 157 [x.av] [] r []:=by
 refine c_ Tryz.f157 λ_=>?_;refine gV ?_;cases h1:okI [x.id,x.ten,x.pods,x.run,x.lev,x.pref] with
 | false=>
  refine .pan _ (aA.strip (gJ [x.id,x.ten,x.pods,x.run,x.lev,x.pref] h1)) ?_;exact CH b (by unfold Gan.ok;rw [h1];rfl)
 | true=>
  refine .pure _ [] (aA.strip (jD [x.id,x.ten,x.pods,x.run,x.lev,x.pref] h1)) ?_;refine gV ?_;refine ⟨by decide,?_⟩;refine gV ?_;cases a:okI x.need.l with
  | false=>
   refine .pan _ (aA.strip (gJ x.need.l a)) ?_;exact CH b (by unfold Gan.ok;rw [h1,a];rfl)
  | true=>
   refine .pure _ [] (aA.strip (jD x.need.l a)) ?_;refine gV ?_;rw [<-b];unfold Gan.ok;rw [h1,a];rfl
def aGz (x:Gan) (h:x.ok=true):ar 157 [x.av] [] (.ret (.tup [])) []:=NG x _ (if_pos h)
def aCu (x:Gan) (h:x.ok=false):ar 157 [x.av] [] (.pan (aW 1)) []:=NG x _ (if_neg (by rw [h];simp))
def catch_ret (x:Int):zO Tryz.prog 152 [.ref 0 0] [.cells 61 [ii x]] none [.cells 61 [ii x]]:=by refine zO.of (E:=E) (fn:=Tryz.f152) (n0:=1) (r:=.tup []) (by rfl) (by rfl) (by rfl) (λ_ _=>by rfl) (by rfl) (by decide+kernel) (by rfl) (by rfl) (by rfl) (by rfl) λ_=>?_;refine gV ?_;refine ⟨λ_=>?_,λ h=>absurd h d_⟩;exact zW
def catch_pan (x e:Int):zO Tryz.prog 152 [.ref 0 0] [.cells 61 [ii x]] (some (aW e)) [.cells 61 [ii e]]:=by refine zO.of (E:=E) (fn:=Tryz.f152) (n0:=1) (r:=.tup []) (by rfl) (by rfl) (by rfl) (λ_ _=>by rfl) (by rfl) (by decide+kernel) (by rfl) (by rfl) (by rfl) (by rfl) λ_=>?_;refine gV ?_;refine ⟨λ h=>absurd h d_,λ_=>?_⟩;refine gV ?_;refine ⟨λ_=>?_,λ h=>absurd h d_⟩;exact zW
def _root_.Go.Proofs.YtidhfoefaomodaaGreatDoor.Gan.isZ (g:Gan):Bool:=((g.id==0)&&((g.ten==0)&&((g.pods==0)&&((g.need.a==0)&&((g.need.b==0)&&((g.need.c==0)&&((g.run==0)&&((g.lev==0)&&((g.pref==0)&&true)))))))))
def chkL (x:Cmd):Int:=if decide (((nav x.c.ns).length:Int)<=12)&&decide (((hav x.c.hs).length:Int)<=24) then 0 else 8
def chkN (x:Cmd):Int:=if okI [x.n] then chkL x else 1
def chkG (x:Cmd):Int:=if x.g.ok then chkN x else 1
def chkC (x:Cmd):Int:=if x.c.tok then chkG x else 1
def chk4 (x:Cmd):Int:=if ((x.k==3||x.k==4)||x.k==5)||x.n==0 then chkC x else 1
def chk3 (x:Cmd):Int:=if x.k==2||x.g.isZ then chk4 x else 1
def _root_.Go.Proofs.YtidhfoefaomodaaGreatDoor.Con.non (c:Con):Bool:=((((nav c.ns).length:Int)==0&&((hav c.hs).length:Int)==0)&&c.half==0)&&c.age==0
def chk2 (x:Cmd):Int:=if x.k==1||x.c.non then chk3 x else 1
def chk (x:Cmd):Int:=if decide (1<=x.k)&&decide (x.k<=6) then chk2 x else 1
abbrev chF:List (Nat×aa):=[(1,.ref 0 0),(2,.ref 1 0)]
abbrev chO (x:Cmd):List ab:=[.cells 58 x.cs,.cells 61 [ii 0]]
noncomputable abbrev Ec:Env:=Ed [(152,[.ref 1 0])]
def hEc:ae Ec:=hEd _
def aHA (x:Cmd) (r:Int) (h:0=r):To Ec Tryz.f94 (.pure (.ret (ii r))) (.code (iM Tryz.f94 9) chF (chO x)):=by
 subst h;refine gW hEc ?_;conv=>whnf
 refine To.leave (f:=152) (args:=[.ref 1 0]) [] rfl [] [1] rfl (catch_ret 0) ?_;exact To.left hE rfl rfl rfl
def aMk (x:Cmd) (r:Int) (a:chkL x=r):To Ec Tryz.f94 (.pure (.ret (ii r))) (.code (iM Tryz.f94 8) chF (chO x)):=by
 unfold chkL at a;refine gW hEc ?_;conv=>whnf
 refine ⟨λ h1=>?_,λ h1=>?_⟩
 .refine gW hEc ?_;conv=>whnf
  rcases Eh (decide (((hav x.c.hs).length:Int)<=24)) with b | b
  .rw [b,h1] at a;refine .pure _ [] (fN _ _ b) ?_;refine cO hEc 2 ?_;conv=>whnf
   refine To.cutC [1,2] 2 rfl rfl rfl rfl ?_;exact (aHA x r a)
  .rw [b,Db] at a;subst a;refine .pan _ (cX _ _ b) ?_;conv=>whnf
   exact zqca30
 .rw [h1,Fj] at a;subst a;refine gW hEc ?_;conv=>whnf
  refine .pan _ (cX _ _ rfl) ?_;conv=>whnf
  exact zqca30
def aMl (x:Cmd) (r:Int) (a:chkN x=r):To Ec Tryz.f94 (.pure (.ret (ii r))) (.code (iM Tryz.f94 7) chF (chO x)):=by
 unfold chkN at a;refine gW hEc ?_;conv=>whnf
 cases h:okI [x.n] with
 | true=>
  rw [h] at a;refine .pure _ [] (aA.strip (jD [x.n] h)) ?_;refine cO hEc 2 ?_;conv=>whnf
  refine To.cutC [1,2] 2 rfl rfl rfl rfl ?_;exact (aMk x r a)
 | false=>
  rw [h] at a;subst a;refine .pan _ (aA.strip (gJ [x.n] h)) ?_;conv=>whnf
  exact zqca1
def aMm (x:Cmd) (r:Int) (a:chkG x=r):To Ec Tryz.f94 (.pure (.ret (ii r))) (.code (iM Tryz.f94 6) chF (chO x)):=by
 unfold chkG at a;refine gW hEc ?_;conv=>whnf
 cases h:x.g.ok with
 | true=>
  rw [h] at a;refine .pure _ [] (aGz x.g h) ?_;refine cO hEc 2 ?_;conv=>whnf
  refine To.cutC [1,2] 2 rfl rfl rfl rfl ?_;exact (aMl x r a)
 | false=>
  rw [h] at a;subst a;refine .pan _ (aCu x.g h) ?_;conv=>whnf
  exact zqca1
def VV (x:Cmd) (r:Int) (a:chkC x=r):To Ec Tryz.f94 (.pure (.ret (ii r))) (.code (iM Tryz.f94 5) chF (chO x)):=by
 unfold chkC at a;refine gW hEc ?_;conv=>whnf
 cases h:x.c.tok with
 | true=>
  rw [h] at a;refine .pure _ [] (YX x.c h) ?_;refine cO hEc 2 ?_;conv=>whnf
  refine To.cutC [1,2] 2 rfl rfl rfl rfl ?_;exact (aMm x r a)
 | false=>
  rw [h] at a;subst a;refine .pan _ (RP x.c h) ?_;conv=>whnf
  exact zqca1
def mG {b:Bool} {p q r:Int} (a:(if b then p else q)=r) (h:b=true):p=r:=by subst h;exact a
def xK {b:Bool} {p q r:Int} (a:(if b then p else q)=r) (h:b=false):q=r:=by subst h;exact a
def aIl (x:Cmd) (r:Int) (a:chk4 x=r):To Ec Tryz.f94 (.pure (.ret (ii r))) (.code (iM Tryz.f94 4) chF (chO x)):=by
 unfold chk4 at a;refine gW hEc ?_;conv=>whnf
 refine ⟨λ h1=>?_,λ h1=>?_⟩
 .have h1:(x.k==3)=true:=h1;replace a:=mG a (by simp [h1]);refine gW hEc ?_;conv=>whnf
  refine aY ?_;refine gW hEc ?_;conv=>whnf
  refine aY ?_;exact zqca9
 .have h1:(x.k==3)=false:=h1;refine gW hEc ?_;conv=>whnf
  refine ⟨λ b=>?_,λ b=>?_⟩
  .have b:(x.k==4)=true:=b;replace a:=mG a (by simp [b]);refine gW hEc ?_;conv=>whnf
   refine aY ?_;exact zqca9
  .have b:(x.k==4)=false:=b;refine gW hEc ?_;conv=>whnf
   refine ⟨λ h3=>?_,λ h3=>?_⟩
   .have h3:(x.k==5)=true:=h3;replace a:=mG a (by simp [h3]);exact zqca9
   .have h3:(x.k==5)=false:=h3;refine gW hEc ?_;conv=>whnf
    refine (Eh (x.n==0)).elim (λ c=>?_) (λ c=>?_)
    .replace a:=mG a (by simp [c]);refine .pure _ [] (fN _ _ c) ?_;refine cO hEc 2 ?_;conv=>whnf
     refine To.cutC [1,2] 2 rfl rfl rfl rfl ?_;exact (VV x r a)
    .replace a:=xK a (by simp [h1,b,h3,c]);subst a;refine .pan _ (cX _ _ c) ?_;conv=>whnf
     exact zqca1
def aIm (x:Cmd) (r:Int) (a:chk3 x=r):To Ec Tryz.f94 (.pure (.ret (ii r))) (.code (iM Tryz.f94 3) chF (chO x)):=by
 unfold chk3 at a;refine gW hEc ?_;conv=>whnf
 refine ⟨λ h1=>?_,λ h1=>?_⟩
 .have h1:(x.k==2)=true:=h1;replace a:=mG a (by simp [h1]);refine gW hEc ?_;conv=>whnf
  refine .pure _ [] (fN _ _ rfl) ?_;exact zqca40
 .have h1:(x.k==2)=false:=h1;refine gW hEc ?_;conv=>whnf
  refine (Eh x.g.isZ).elim (λ b=>?_) (λ b=>?_)
  .replace a:=mG a (by simp [b]);refine .pure _ [] (fN _ _ b) ?_;exact zqca40
  .replace a:=xK a (by simp [h1,b]);subst a;refine .pan _ (cX _ _ b) ?_;conv=>whnf
   exact zqca1
def aMn (x:Cmd) (r:Int) (a:chk2 x=r):To Ec Tryz.f94 (.pure (.ret (ii r))) (.code (iM Tryz.f94 2) chF (chO x)):=by
 unfold chk2 Con.non at a;refine gW hEc ?_;conv=>whnf
 refine ⟨λ h1=>?_,λ h1=>?_⟩
 .have h1:(x.k==1)=true:=h1;replace a:=mG a (by rw [h1];rfl);refine gW hEc ?_;conv=>whnf
  refine .pure _ [] (fN _ _ rfl) ?_;exact zqca36
 .have h1:(x.k==1)=false:=h1;refine gW hEc ?_;conv=>whnf
  refine ⟨λ b=>?_,λ b=>?_⟩
  .have b:(((nav x.c.ns).length:Int)==0)=true:=b;refine gW hEc ?_;conv=>whnf
   refine ⟨λ h3=>?_,λ h3=>?_⟩
   .have h3:(((hav x.c.hs).length:Int)==0)=true:=h3;refine gW hEc ?_;conv=>whnf
    refine ⟨λ d=>?_,λ d=>?_⟩
    .have d:(x.c.half==0)=true:=d;refine gW hEc ?_;conv=>whnf
     refine (Eh (x.c.age==0)).elim (λ e=>?_) (λ e=>?_)
     .replace a:=mG a (by rw [h1,b,h3,d,e];rfl);refine .pure _ [] (fN _ _ e) ?_;exact zqca36
     .replace a:=xK a (by rw [h1,e,Db];rfl);subst a;refine .pan _ (cX _ _ e) ?_;conv=>whnf
      exact zqca1
    .have d:(x.c.half==0)=false:=d;replace a:=xK a (by rw [h1,d,Db,Fj];rfl);subst a;exact zqca16
   .have h3:(((hav x.c.hs).length:Int)==0)=false:=h3;replace a:=xK a (by rw [h1,h3,Db];rfl);subst a;refine gW hEc ?_;conv=>whnf
    refine aN ?_;exact zqca16
  .have b:(((nav x.c.ns).length:Int)==0)=false:=b;replace a:=xK a (by rw [h1,b];rfl);subst a;refine gW hEc ?_;conv=>whnf
   refine aN ?_;refine gW hEc ?_;conv=>whnf
   refine aN ?_;exact zqca16
def aMo (x:Cmd) (r:Int) (a:chk x=r):To Ec Tryz.f94 (.pure (.ret (ii r))) (.code (iM Tryz.f94 1) chF (chO x)):=by
 unfold chk at a;refine gW hEc ?_;conv=>whnf
 refine ⟨λ h1=>?_,λ h1=>?_⟩
 .have h1:decide (1<=x.k)=true:=h1;refine gW hEc ?_;conv=>whnf
  refine (Eh (decide (x.k<=6))).elim (λ b=>?_) (λ b=>?_)
  .rw [h1,b] at a;refine .pure _ [] (fN _ _ b) ?_;refine cO hEc 2 ?_;conv=>whnf
   refine To.cutC [1,2] 2 rfl rfl rfl rfl ?_;exact (aMn x r a)
  .rw [b,Db] at a;subst a;refine .pan _ (cX _ _ b) ?_;conv=>whnf
   exact zqca1
 .have h1:decide (1<=x.k)=false:=h1;rw [h1,Fj] at a;subst a;exact zqca16
def check_any (x:Cmd) (r:Int) (a:chk x=r):ar 94 [x.av] [] (.ret (ii r)) []:=by refine c_ Tryz.f94 λ_=>?_;refine gV ?_;refine To.defer (f:=152) (args:=[.ref 1 0]) _ rfl rfl ?_;refine To.cutC [1,2] 2 rfl rfl rfl rfl ?_;exact aMo x r a
def check_ok (x:Cmd):ar 94 [x.av] [] (.ret (ii (chk x))) []:=check_any x _ rfl
def lS (r:Nat):Code->List KI->Option (List KI)
 | .region id o d,ks=>bif Aw id r then some (.code (.region id o d)::ks) else none
 | .seq a b,ks=>(match lS r a (.code b::ks) with | some x=>some x | none=>lS r b ks)
 | .cond _ a b,ks=>(match lS r a ks with | some x=>some x | none=>lS r b ks)
 | .block id b,ks=>lS r b (.inB id::ks)
 | .loop b,ks=>lS r b (.inL b::ks)
 | _,_=>none
def JW (fn:Func) (r:Nat):List KI:=match lS r (dG fn) [] with | some ks=>ks | none=>[]
def eqL {α:Type} (f:α->α->Bool):List α->List α->Bool
 | [],[]=>true
 | x::r,y::s=>f x y&&eqL f r s
 | _,_=>false
def wG {α:Type} {f:α->α->Bool}:∀ {a b:List α},a.length≠b.length->eqL f a b=false
 | [],[],h=>absurd rfl h
 | [],_::_,_=>rfl
 | _::_,[],_=>rfl
 | x::r,y::s,h=>by have:=wG (f:=f) (a:=r) (b:=s) (by simpa using h);simp [eqL,this]
def _root_.Go.Proofs.YtidhfoefaomodaaGreatDoor.Nod.eqb (x y:Nod):Bool:=(x.p==y.p)&&((x.w==y.w)&&((x.n.a==y.n.a)&&((x.n.b==y.n.b)&&((x.n.c==y.n.c)&&((x.b.a==y.b.a)&&((x.b.b==y.b.b)&&((x.b.c==y.b.c)&&((x.l.a==y.l.a)&&((x.l.b==y.l.b)&&((x.l.c==y.l.c)&&true))))))))))
def _root_.Go.Proofs.YtidhfoefaomodaaGreatDoor.Hos.eqb (x y:Hos):Bool:=(x.f==y.f)&&((x.b==y.b)&&((x.r==y.r)&&((x.c.a==y.c.a)&&((x.c.b==y.c.b)&&((x.c.c==y.c.c)&&true)))))
def _root_.Go.Proofs.YtidhfoefaomodaaGreatDoor.Gan.eqb (x y:Gan):Bool:=(x.id==y.id)&&((x.ten==y.ten)&&((x.pods==y.pods)&&((x.need.a==y.need.a)&&((x.need.b==y.need.b)&&((x.need.c==y.need.c)&&((x.run==y.run)&&((x.lev==y.lev)&&((x.pref==y.pref)&&true))))))))
def _root_.Go.Proofs.YtidhfoefaomodaaGreatDoor.Nod.eqb_eq {x y:Nod}:x.eqb y=true↔x=y:=by obtain ⟨_,_,⟨_,_,_⟩,⟨_,_,_⟩,⟨_,_,_⟩⟩:=x;obtain ⟨_,_,⟨_,_,_⟩,⟨_,_,_⟩,⟨_,_,_⟩⟩:=y;simp [Nod.eqb,and_assoc]
def _root_.Go.Proofs.YtidhfoefaomodaaGreatDoor.Hos.eqb_eq {x y:Hos}:x.eqb y=true↔x=y:=by obtain ⟨_,_,_,⟨_,_,_⟩⟩:=x;obtain ⟨_,_,_,⟨_,_,_⟩⟩:=y;simp [Hos.eqb]
def _root_.Go.Proofs.YtidhfoefaomodaaGreatDoor.Gan.eqb_eq {x y:Gan}:x.eqb y=true↔x=y:=by obtain ⟨_,_,_,⟨_,_,_⟩,_,_,_⟩:=x;obtain ⟨_,_,_,⟨_,_,_⟩,_,_,_⟩:=y;simp [Gan.eqb,and_assoc]
def aCU (a b:List Nod) (k:a.length=b.length) (hl:((nav a).length:Int)<=9223372036854775807) (r:Bool):∀ (n i:Nat),i+n=a.length->eqL Nod.eqb (a.drop i) (b.drop i)=r->
  To E Tryz.f102 (.pure (.ret (.bool r))) (.head (stk Tryz.f102 0) [(0,.slice 11 (nav a) .no),(1,.slice 11 (nav b) .no),(12,.int .i64 ((nav a).length:Nat)),(13,.int .i64 i)] []):=by
 have g:(nav a).length=a.length:=by simp
 intro n;induction n with
 | zero=>
  intro i m c;exact zqca35
 | succ n p=>
  intro i m c;have h1:i<a.length:=o_;have d:i<b.length:=o_;rw [Ae h1,Ae d] at c;have c:(Nod.eqb a[i] b[i]&&eqL Nod.eqb (a.drop (i+1)) (b.drop (i+1)))=r:=c;generalize o:a[i]=x at c;generalize l:b[i]=y at c;have q:(nav a)[i]? =some (Nod.av x):=by simp [o,h1]
  have j:(nav b)[i]? =some (Nod.av y):=by simp [l,d]
  refine gV ?_;refine aT λ h=>?_
  repeat' first | (refine gN hE ?_;conv=>whnf) | refine ⟨_,q,?_⟩ | refine ⟨_,j,?_⟩ | exact rfl | (refine zt ?_;try intro h) | refine zu (λ h=>?_) λ h=>?_ | fail
  .rename_i h;have h:Nod.eqb x y=false:=vJ h;rw [h] at c;rw [<-c];rfl
  .rename_i h;have h:Nod.eqb x y=true:=vK h;rw [h,Cy] at c;have e:=p (i+1) o_ c;exact zW
def eqN_ok (a b:List Nod):ar 102 [.slice 11 (nav a) .no,.slice 11 (nav b) .no] [] (.ret (.bool (eqL Nod.eqb a b))) []:=by
 have d:(nav a).length=a.length:=by simp
 have c:(nav b).length=b.length:=by simp
 refine c_ Tryz.f102 λ j=>?_;have hl:((nav a).length:Int)<=9223372036854775807:=j.1;refine gV ?_;refine ⟨λ h=>?_,λ h=>?_⟩
 .have h:(((nav a).length:Int) !=((nav b).length:Int))=true:=h;rw [wG (by intro e;rw [d,c,e] at h;simp at h)];refine gW hE ?_;conv=>whnf
 .have h:(((nav a).length:Int) !=((nav b).length:Int))=false:=h;have i:=aCU a b (by simp at h;omega) hl _ a.length 0 o_ rfl;exact zW
def aCV (a b:List Hos) (k:a.length=b.length) (hl:((hav a).length:Int)<=9223372036854775807) (r:Bool):∀ (n i:Nat),i+n=a.length->eqL Hos.eqb (a.drop i) (b.drop i)=r->
  To E Tryz.f103 (.pure (.ret (.bool r))) (.head (stk Tryz.f103 0) [(0,.slice 6 (hav a) .no),(1,.slice 6 (hav b) .no),(12,.int .i64 ((hav a).length:Nat)),(13,.int .i64 i)] []):=by
 have e:(hav a).length=a.length:=by simp
 intro n;induction n with
 | zero=>
  intro i m c;exact zqca35
 | succ n p=>
  intro i m c;have h1:i<a.length:=o_;have d:i<b.length:=o_;rw [Ae h1,Ae d] at c;have c:(Hos.eqb a[i] b[i]&&eqL Hos.eqb (a.drop (i+1)) (b.drop (i+1)))=r:=c;generalize o:a[i]=x at c;generalize l:b[i]=y at c;have q:(hav a)[i]? =some (Hos.av x):=by simp [o,h1]
  have j:(hav b)[i]? =some (Hos.av y):=by simp [l,d]
  refine gV ?_;refine aT λ h=>?_
  repeat' first | (refine gN hE ?_;conv=>whnf) | refine ⟨_,q,?_⟩ | refine ⟨_,j,?_⟩ | exact rfl | (refine zt ?_;try intro h) | refine zu (λ h=>?_) λ h=>?_ | fail
  .rename_i h;have h:Hos.eqb x y=false:=vJ h;rw [h] at c;rw [<-c];rfl
  .rename_i h;have h:Hos.eqb x y=true:=vK h;rw [h,Cy] at c;have g:=p (i+1) o_ c;exact zW
def eqH_ok (a b:List Hos):ar 103 [.slice 6 (hav a) .no,.slice 6 (hav b) .no] [] (.ret (.bool (eqL Hos.eqb a b))) []:=by
 have d:(hav a).length=a.length:=by simp
 have c:(hav b).length=b.length:=by simp
 refine c_ Tryz.f103 λ j=>?_;have hl:((hav a).length:Int)<=9223372036854775807:=j.1;refine gV ?_;refine ⟨λ h=>?_,λ h=>?_⟩
 .have h:(((hav a).length:Int) !=((hav b).length:Int))=true:=h;rw [wG (by intro e;rw [d,c,e] at h;simp at h)];refine gW hE ?_;conv=>whnf
 .have h:(((hav a).length:Int) !=((hav b).length:Int))=false:=h;have i:=aCV a b (by simp at h;omega) hl _ a.length 0 o_ rfl;exact zW
def sameC (a b:Con):Bool:=eqL Nod.eqb a.ns b.ns&&(eqL Hos.eqb a.hs b.hs&&((a.half==b.half)&&(a.age==b.age)))
def same (a b:Cmd):Bool:=(a.k==b.k)&&(a.g.eqb b.g&&((a.n==b.n)&&sameC a.c b.c))
noncomputable abbrev aGK:Func:=Tryz.f75
def aAE (a b:Con) (j:a.hs.length=b.hs.length) (hl:((hav a.hs).length:Int)<=9223372036854775807) (r:Bool):∀ (n i:Nat),i+n=a.hs.length->eqL Hos.eqb (a.hs.drop i) (b.hs.drop i)=r->
  To E aGK (.pure (.ret (.bool r))) (.head (stk aGK 1) [(2,.ref 0 0),(3,.ref 1 0),(6,.int .i64 i)] [.cells 26 a.cs,.cells 26 b.cs]):=by
 have f:(hav a.hs).length=a.hs.length:=by simp
 intro n;induction n with
 | zero=>
  intro i l c;exact zqca35
 | succ n o=>
  intro i l c;have h1:i<a.hs.length:=o_;have d:i<b.hs.length:=o_;rw [Ae h1,Ae d] at c;have c:(Hos.eqb a.hs[i] b.hs[i]&&eqL Hos.eqb (a.hs.drop (i+1)) (b.hs.drop (i+1)))=r:=c;generalize m:a.hs[i]=x at c;generalize k:b.hs[i]=y at c;have p:(hav a.hs)[i]? =some (Hos.av x):=by simp [m,h1]
  have g:(hav b.hs)[i]? =some (Hos.av y):=by simp [k,d]
  refine gV ?_;refine aT λ h=>?_
  repeat' first | (refine gN hE ?_;conv=>whnf) | refine ⟨_,p,?_⟩ | refine ⟨_,g,?_⟩ | exact rfl | (refine zt ?_;try intro h) | refine zu (λ h=>?_) λ h=>?_ | fail
  .have h:Hos.eqb x y=false:=vJ h;rw [h] at c;rw [<-c];rfl
  .have h:Hos.eqb x y=true:=vK h;rw [h,Cy] at c;have e:=o (i+1) o_ c;exact zW
def aAD (a b:Con) (m:a.ns.length=b.ns.length) (e:a.hs.length=b.hs.length) (hl:((nav a.ns).length:Int)<=9223372036854775807) (d:((hav a.hs).length:Int)<=9223372036854775807) (r:Bool):∀ (n i:Nat),i+n=a.ns.length->(eqL Nod.eqb (a.ns.drop i) (b.ns.drop i)&&eqL Hos.eqb a.hs b.hs)=r->
  To E aGK (.pure (.ret (.bool r))) (.head (stk aGK 0) [(2,.ref 0 0),(3,.ref 1 0),(5,.int .i64 i)] [.cells 26 a.cs,.cells 26 b.cs]):=by
 have j:(nav a.ns).length=a.ns.length:=by simp
 intro n;induction n with
 | zero=>
  intro i p c;rw [Ah o_,Ah o_] at c;have c:eqL Hos.eqb a.hs b.hs=r:=c;refine gV ?_;have g:=aAE a b e d r a.hs.length 0 o_ c;exact zW
 | succ n s=>
  intro i p c;have h1:i<a.ns.length:=o_;have f:i<b.ns.length:=o_;rw [Ae h1,Ae f] at c;have c:((Nod.eqb a.ns[i] b.ns[i]&&eqL Nod.eqb (a.ns.drop (i+1)) (b.ns.drop (i+1)))&&eqL Hos.eqb a.hs b.hs)=r:=c;generalize q:a.ns[i]=x at c;generalize o:b.ns[i]=y at c;have u:(nav a.ns)[i]? =some (Nod.av x):=by simp [q,h1]
  have l:(nav b.ns)[i]? =some (Nod.av y):=by simp [o,f]
  refine gV ?_;refine aT λ h=>?_
  repeat' first | (refine gN hE ?_;conv=>whnf) | refine ⟨_,u,?_⟩ | refine ⟨_,l,?_⟩ | exact rfl | (refine zt ?_;try intro h) | refine zu (λ h=>?_) λ h=>?_ | fail
  .have h:Nod.eqb x y=false:=vJ h;rw [h] at c;rw [<-c];rfl
  .have h:Nod.eqb x y=true:=vK h;rw [h,Cy] at c;have k:=s (i+1) o_ c;exact zW
def aDv (a b:Con) (M:Imm) (ob:Hs) (vs:List Value) (h:cA M ob vs [a.av,b.av]):((nav a.ns).length:Int)<=9223372036854775807/\((hav a.hs).length:Int)<=9223372036854775807:=by
 have hl:0<vs.length:=by rw [h.1];simp
 have:=h.2 0 _ a.av (Aa hl) rfl;exact ⟨cD this 0 _ rfl,cD this 1 _ rfl⟩
def T5 {a b:Nat} (h:((a:Int) !=(b:Int))=true):a≠b:=by intro e;rw [e] at h;simp at h
def VD {a b:Nat} (h:((a:Int) !=(b:Int))=false):a=b:=by simp at h;omega
def aAF (a b:Con) (r:Bool) (d:sameC a b=r):ar 75 [a.av,b.av] [] (.ret (.bool r)) []:=by
 refine aA.get _ (aDv a b) λ⟨hl,i⟩=>?_;have l:(nav a.ns).length=a.ns.length:=by simp
 have m:(nav b.ns).length=b.ns.length:=by simp
 have k:(hav a.hs).length=a.hs.length:=by simp
 have n:(hav b.hs).length=b.hs.length:=by simp
 refine c_ Tryz.f75 λ_=>?_;refine gV ?_;refine Ac (λ h1=>?_) (λ h1=>?_)
 .have h1:(((nav a.ns).length:Int) !=((nav b.ns).length:Int))=true:=h1;have e:sameC a b=false:=by unfold sameC;rw [wG (by rw [<-l,<-m];exact T5 h1)];rfl
  rw [e] at d;subst d;exact zW
 .have h1:(((nav a.ns).length:Int) !=((nav b.ns).length:Int))=false:=h1;refine gV ?_;refine Ac (λ h=>?_) (λ h=>?_)
  .have h:(((hav a.hs).length:Int) !=((hav b.hs).length:Int))=true:=h;have e:sameC a b=false:=by unfold sameC;rw [wG (f:=Hos.eqb) (by rw [<-k,<-n];exact T5 h),Fj,Db]
   rw [e] at d;subst d;exact zW
  .have h:(((hav a.hs).length:Int) !=((hav b.hs).length:Int))=false:=h;have p:=VD h1;have o:=VD h;refine gV ?_;refine Ac (λ h3=>?_) (λ h3=>?_)
   .have h3:(!(a.half==b.half))=true:=h3;have h3:=vJ h3;have e:sameC a b=false:=by unfold sameC;rw [h3,Fj,Db,Db]
    rw [e] at d;subst d;exact zW
   .have h3:(!(a.half==b.half))=false:=h3;have h3:=vK h3;refine gV ?_;refine Ac (λ c=>?_) (λ c=>?_)
    .have c:(!(a.age==b.age))=true:=c;have c:=vJ c;have e:sameC a b=false:=by unfold sameC;rw [c,Db,Db,Db]
     rw [e] at d;subst d;exact zW
    .have c:(!(a.age==b.age))=false:=c;have c:=vK c;have e:sameC a b=(eqL Nod.eqb a.ns b.ns&&eqL Hos.eqb a.hs b.hs):=by unfold sameC;rw [h3,c,Hz,Hz]
     rw [e] at d;have j:=aAD a b o_ o_ hl i _ a.ns.length 0 o_ d;exact zW
def rsame_c (a b:Con):ar 75 [a.av,b.av] [] (.ret (.bool (sameC a b))) []:=aAF a b _ rfl
set_option maxHeartbeats 2000000
end Go.Proofs.YtidhfoefaomodaaGreatDoor.C8
namespace Go.Proofs.YtidhfoefaomodaaGreatDoor.Q2
open Go Go.AW Go.Proofs
structure Pend where
 (id tenant pods n0 n1 n2 run level prefer seq since:Int)
 deriving DecidableEq
def Pend.cs (p:Pend):List aa:=[.int .i64 p.id,.int .i64 p.tenant,.int .i64 p.pods,.int .i64 p.n0,.int .i64 p.n1,.int .i64 p.n2,.int .i64 p.run,.int .i64 p.level,.int .i64 p.prefer,.int .i64 p.seq,.int .i64 p.since]
def Pend.av (p:Pend):aa:=.agg p.cs
abbrev pav (l:List Pend):List aa:=l.map Pend.av
def C1 {n:Int} (h1: -9223372036854775808<=n) (a:n<=9223372036854775807):inR .i64 n:=⟨by simp only [cJ];omega,by simp only [bE];omega⟩
def idx (p:Pend->Bool):List Pend->Int->Int
 | [],_=> -1
 | x::r,i=>if p x then i else idx p r (i+1)
def ak (a:Int) (l:List Pend):Int:=idx (λ x=>x.id==a) l 0
def aBq (a b:Int):Pend:=⟨a,0,0,0,0,0,0,0,0,b,0⟩
def vE {l:List Pend} {i:Nat} (h:i<l.length):(pav l)[i]? =some l[i].av:=by simp [pav,h]
set_option maxRecDepth 10000
def aLF (p:Pend):ar 340 [p.av] [] (.ret (.int .i64 p.id)) []:=by refine c_ Tryz.f340 λ_=>?_;refine gW hE ?_;conv=>whnf
def aAs (p:Pend):ar 341 [p.av] [] (.ret (.int .i64 p.seq)) []:=by refine c_ Tryz.f341 λ_=>?_;refine gW hE ?_;conv=>whnf
def aLB (p:Pend) (b:Int):ar 253 [.iface 325 p.av,.int .i64 b] [] (.ret (.bool (p.id==b))) []:=by refine c_ Tryz.f253 λ_=>?_;have a:=aLF p;exact zW
def HG (p q:Pend):ar 219 [.iface 325 p.av,.iface 325 q.av] [] (.ret (.bool (decide (q.seq<p.seq)))) []:=by refine c_ Tryz.f219 λ_=>?_;have b:=aAs p;have a:=aAs q;exact zW
def aFo (x p:Pend):ar 239 [x.av,.ptr p.cs] [] (.ret (.bool (decide (p.seq<x.seq)))) []:=by refine c_ Tryz.f239 λ_=>?_;have a:=HG x p;exact zW
def aCJ (x:Pend) (a:Int):ar 252 [x.av,.ptr [.int .i64 a]] [] (.ret (.bool (x.id==a))) []:=by refine c_ Tryz.f252 λ_=>?_;have b:=aLB x a;exact zW
def QD (f:FuncId) (l:List aa) (xs:List Pend) (p:Pend->Bool) (k:∀ x∈xs,aA Tryz.prog f [x.av,.ptr l] [] (.ret (.bool (p x))) []) (hl:((pav xs).length:Int)<=9223372036854775807) (r:Int):
  ∀ (n i:Nat),i+n=xs.length->idx p (xs.drop i) i=r->
  To E Tryz.f238 (.pure (.ret (.int .i64 r))) (.head (stk Tryz.f238 0)
   [(0,.slice 11 (pav xs) .no),(1,.func (.func f) [] [.ptr l]),(7,.int .i64 ((pav xs).length:Nat)),(8,.int .i64 i)] []):=by
 have e:(pav xs).length=xs.length:=by simp
 intro n;induction n with
 | zero=>
  intro i j a;refine gV ?_;refine ⟨λ h=>?_,λ h=>?_⟩
  .exact absurd (of_decide_eq_true h) o_
  .refine gV ?_;rw [Ah o_] at a;rw [<-a];rfl
 | succ n g=>
  intro i j a;have b:i<xs.length:=o_;refine gV ?_;refine ⟨λ h=>?_,λ h=>?_⟩
  .refine gV ?_;refine ⟨i,rfl,?_⟩;refine gV ?_;refine ⟨_,vE b,?_⟩;refine gV ?_;refine .pure _ [] (k xs[i] (Bh b)) ?_;refine gV ?_;rw [Ae b] at a;have a:(if p xs[i] then (i:Int) else idx p (xs.drop (i+1)) ((i:Int)+1))=r:=a;exact zqca4
  .exact absurd (of_decide_eq_false h) o_
def M7 (f:FuncId) (l:List aa) (xs:List Pend) (p:Pend->Bool) (b:∀ x∈xs,aA Tryz.prog f [x.av,.ptr l] [] (.ret (.bool (p x))) []):
  ar 238 [.slice 11 (pav xs) .no,.func (.func f) [] [.ptr l]] [] (.ret (.int .i64 (idx p xs 0))) []:=by
 refine c_ Tryz.f238 λ a=>?_;refine gV ?_;refine To.head [0,1,7,8] ?_;exact QD f l xs p b a.1 _ xs.length 0 o_ s_
def find_ok (xs:List Pend) (a:Int):ar 205 [.slice 11 (pav xs) .no,.int .i64 a] [] (.ret (.int .i64 (ak a xs))) []:=by refine c_ Tryz.f205 λ_=>?_;have b:=M7 _ _ xs (λ x=>x.id==a) λ x _=>aCJ x a;exact zW
def aJ9 {n:Nat} (h:n<=1000000):zX n 88:=⟨by simp only [maxLen];omega,by omega⟩
def D0 (xs:List Pend) (a:xs.length<=1000000):ar 106 [.slice 11 (pav xs) .no] [] (.ret (.row 0 0)) [.row 0 11 47 (pav xs)]:=by
 refine cT (E:=(Er [2,5] [])) (fn:=Tryz.f106) (g:=.full 0 _ _) λ_=>?_;refine gV ?_;intro b c;refine gV ?_;refine ⟨λ h=>?_,λ h=>?_⟩
 .refine gV ?_;refine ⟨[],[1],⟨rfl,rfl⟩,?_⟩;conv=>whnf
  rw [c (by simpa using h)];exact ⟨rfl,rfl⟩
 .refine gV ?_;refine ⟨aJ9 (by simpa using a),?_⟩;refine gV ?_;refine ⟨[],[1],⟨rfl,rfl⟩,?_⟩;exact ⟨rfl,rfl⟩
def del_list {α:Type} (l:List α) (i:Nat) (f:i<l.length) (z:α):
  (l.take (0+i)++(l.drop (i+1)).take (l.length-(i+1))++l.drop (0+i+(l.length-(i+1)))).take (0+(l.length-1))++Aj (l.length-(l.length-1)) z++
   (l.take (0+i)++(l.drop (i+1)).take (l.length-(i+1))++l.drop (0+i+(l.length-(i+1)))).drop (0+(l.length-1)+(l.length-(l.length-1)))=l.eraseIdx i++[z]:=by
 have e:(l.drop (i+1)).take (l.length-(i+1))=l.drop (i+1):=Cf s_;have b:l.length-(l.length-1)=1:=o_;have a:(l.take (0+i)++l.drop (i+1)).length=l.length-1:=by simp;omega
 rw [e,b,Ga];simp only [Bo] at a⊢;have d:(l.take i++l.drop (i+1)++l.drop (i+(l.length-(i+1)))).take (l.length-1)=l.take i++l.drop (i+1):=by rw [Dc o_,Cf o_]
 have c:(l.take i++l.drop (i+1)++l.drop (i+(l.length-(i+1)))).drop (l.length-1+1)=[]:=by refine Ah ?_;rw [Ai,a,Ei];omega
 rw [d,c];simp
def YS (xs:List Pend) (i:Nat) (d:i<xs.length) (e:xs.length<=1000000):ar 209 [.row 0 0,.int .i64 i,.int .i64 ((i:Int)+1)] [.row 0 11 47 (pav xs)]
  (.ret (.sub 0 0 0 (xs.length-1) 11)) [.row 0 11 47 (pav (xs.eraseIdx i)++[(aBq 0 0).av])]:=by
 refine cT (E:=E) (fn:=Tryz.f209) (g:=.full 1 _ _) λ_=>?_;refine gV ?_;refine ⟨i,rfl,?_⟩;refine gV ?_;refine ⟨i+1,by push_cast;rfl,?_⟩;refine gV ?_;refine ⟨xs.length,by simp,?_⟩;refine gV ?_;refine ⟨⟨⟨by omega,by omega⟩,by simp⟩,?_⟩;refine gV ?_;refine ⟨λ h=>?_,λ h=>?_⟩
 .simp at h;omega
 .refine gV ?_;refine ⟨i,rfl,?_⟩;refine gV ?_;refine ⟨by simp;omega,?_⟩;refine gV ?_;refine ⟨i+1,by push_cast;rfl,?_⟩;refine gV ?_;refine ⟨by simp;omega,?_⟩;refine gV ?_;have a:(pav xs).length=xs.length:=by simp
  have b:(Ia ((pav xs).length-(i+1)) (Hi (i+1) (pav xs))).length=xs.length-(i+1):=by simp
  rw [b,a];refine ⟨by omega,?_⟩;refine gV ?_;refine ⟨xs.length-1,by omega,?_⟩;refine gV ?_;refine ⟨xs.length,rfl,?_⟩;refine gV ?_;refine ⟨by simp;omega,?_⟩;refine gV ?_;refine ⟨[],[0],⟨rfl,rfl⟩,?_⟩;conv=>whnf
  refine ⟨?_,?_⟩
  .show Res.ret (.sub 0 0 0 (i+(xs.length-(i+1))) 11)=_;rw [show i+(xs.length-(i+1))=xs.length-1 from by omega]
  .have h:=del_list (pav xs) i (by rw [a];exact d) (aBq 0 0).av;rw [a] at h;have c:(pav xs).eraseIdx i=pav (xs.eraseIdx i):=by simp only [pav,Ga,Bm,Gh,Ix]
   rw [c] at h;exact congrArg (λ l=>[ab.row 0 11 47 l]) h
def IM (xs ys:List aa) (lo len:Nat):ar 271 [.row 0 0,.sub 1 0 lo len 11] [.row 0 11 47 xs,.row 0 11 47 ys] (.ret (.bool false)) [.row 0 11 47 xs,.row 0 11 47 ys]:=
 L6 (fn:=Tryz.f271) (tS:=27) (tR:=4) (e:=47) (by kernel_rfl) (by kernel_rfl) (by kernel_rfl) (by kernel_rfl) (by kernel_rfl) (by kernel_rfl) (by kernel_rfl) d_ xs ys lo len
def AH {α:Type} (xs ys:List α) (lo len q:Nat) (h:lo+len<=xs.length):(xs.take lo++ys.take len++xs.drop (lo+min ys.length len))[q]? =if lo<=q/\q<lo+min ys.length len then ys[q-lo]? else xs[q]?:=by
 have a:(xs.take lo).length=lo:=by simp;omega
 have b:(ys.take len).length=min ys.length len:=by rw [Dp,Nat.min_comm]
 by_cases h1:q<lo
 .rw [if_neg o_,Af,Ag o_,Bi h1]
 .by_cases c:q<lo+min ys.length len
  .rw [if_pos ⟨by omega,c⟩,Ag (by rw [Ai];omega),Ak o_,a,Bi o_]
  .rw [if_neg o_,Ak (by rw [Ai];omega),Ai,a,b,Bp];congr 1;omega
def UH {α:Type} (l:List α) (p:α) (i q:Nat) (c:i<=l.length):(l.take i++[p]++l.drop i)[q]? =if q<i then l[q]? else if q=i then some p else l[q-1]?:=by
 have b:(l.take i).length=i:=by simp;omega
 by_cases h1:q<i
 .rw [if_pos h1,Af,Ag o_,Bi h1]
 .rw [if_neg h1,Af,Ak o_,b];by_cases a:q=i
  .rw [if_pos a,a];simp
  .rw [if_neg a,show q-i=(q-1-i)+1 from by omega];show (l.drop i)[q-1-i]? =_;rw [Bp];congr 1;omega
def QC {α:Type} (l L:List α) (p:α) (i:Nat) (k:i<l.length) (e:L.length=l.length+1) (hl:∀ q,q<l.length->L[q]? =l[q]?):
  ∀ A B,A=L.take (i+1)++((L.drop i).take (L.length-i)).take (L.length-(i+1))++L.drop (i+1+min ((L.drop i).take (L.length-i)).length (L.length-(i+1)))->
   B=A.take i++[p].take (A.length-i)++A.drop (i+min [p].length (A.length-i))->B=l.take i++[p]++l.drop i:=by
 intro A B c f;have j:((L.drop i).take (L.length-i)).length=l.length+1-i:=by simp;omega
 have d:∀ q,A[q]? =if i+1<=q/\q<l.length+1 then L[q-1]? else L[q]?:=λ q=>by
  rw [c,AH _ _ _ _ _ o_,j,e];by_cases h:i+1<=q/\q<l.length+1
  .rw [if_pos o_,if_pos h,Bi o_,Bp];congr 1;omega
  .rw [if_neg o_,if_neg h]
 have b:A.length=l.length+1:=by rw [c];simp;omega
 refine Ek λ q=>?_;rw [UH _ _ _ _ o_,f,AH _ _ _ _ _ o_];have g:min [p].length (A.length-i)=1:=by rw [b];simp;omega
 rw [g];by_cases h1:q<i
 .rw [if_neg o_,if_pos h1,d,if_neg o_,hl q o_]
 .rw [if_neg h1];by_cases a:q=i
  .rw [if_pos o_,if_pos a,a];simp
  .rw [if_neg o_,if_neg a,d];by_cases h3:q<l.length+1
   .rw [if_pos o_,hl _ o_]
   .rw [if_neg o_,Bk o_,Bk o_]
def aGf {α:Type} (l L:List α) (p:α) (i:Nat) (k:i<l.length) (e:L.length=l.length+1) (hl:∀ q,q<i->L[q]? =l[q]?):
  ∀ A B,A=L.take i++[p].take (L.length-i)++L.drop (i+min [p].length (L.length-i))->
   B=A.take (i+1)++((l.drop i).take (l.length-i)).take (A.length-(i+1))++A.drop (i+1+min ((l.drop i).take (l.length-i)).length (A.length-(i+1)))->B=l.take i++[p]++l.drop i:=by
 intro A B d f;have j:((l.drop i).take (l.length-i)).length=l.length-i:=by simp
 have g:min [p].length (L.length-i)=1:=by rw [e];simp;omega
 have b:∀ q,A[q]? =if q=i then some p else L[q]?:=λ q=>by
  rw [d,AH _ _ _ _ _ o_,g];by_cases h:q=i
  .rw [if_pos o_,if_pos h,h];simp
  .rw [if_neg o_,if_neg h]
 have c:A.length=l.length+1:=by rw [d];simp;omega
 refine Ek λ q=>?_;rw [UH _ _ _ _ o_,f,AH _ _ _ _ _ o_,j,c,show min (l.length-i) (l.length+1-(i+1))=l.length-i from by omega];by_cases h1:q<i
 .rw [if_neg o_,if_pos h1,b,if_neg o_,hl q h1]
 .rw [if_neg h1];by_cases a:q=i
  .rw [if_neg o_,if_pos a,b,if_pos a]
  .rw [if_neg a];by_cases h3:q<l.length+1
   .rw [if_pos o_,Bi o_,Bp];congr 1;omega
   .rw [if_neg o_,b,if_neg a,Bk o_,Bk o_]
def AV {n:Nat} (h:n<=1000001):zX n 88:=⟨by simp only [maxLen];omega,by omega⟩
def F7 (xs:List Pend) (p:Pend) (i:Nat) (hi:i<=xs.length) (hx:xs.length<=1000000):
  ar 240 [.row 0 0,.int .i64 i,.row 1 0] [.row 0 11 47 (pav xs),.row 0 11 47 [p.av]]
  (.ret (.row 0 1)) [.row 1 11 47 (pav (xs.take i++[p]++xs.drop i)),.row 0 11 47 [p.av]]:=by
 have hlen:(pav xs).length=xs.length:=by simp
 refine cT (E:=(Er [60] [])) (fn:=Tryz.f240) (g:=.full 2 _ _) λ_=>?_;refine To.cap (t:=0) rfl rfl λ c hc hcm=>?_;rw [hlen] at hc;refine gV ?_;refine ⟨i,rfl,?_⟩;refine gV ?_;rw [hlen];refine ⟨hi,?_⟩;refine gV ?_;refine ⟨λ h=>?_,λ h=>?_⟩
 .cases h
 .refine gV ?_;refine ⟨λ h=>?_,λ h=>?_⟩
  .refine gV ?_
   have hi2:i=xs.length:=by have:(i:Int)=xs.length:=by simpa using h
                            omega
   refine ⟨by rw [hlen];exact AV q_,?_⟩;refine gV ?_;refine ⟨[],[0,1],⟨rfl,rfl⟩,?_⟩;conv=>whnf
   refine ⟨rfl,?_⟩;have:pav (xs.take i++[p]++xs.drop i)=pav xs++[p.av]:=by simp [hi2]
   rw [this];rfl
  .have hi2:i<xs.length:=by
    have:¬ (i:Int)=xs.length:=by simpa using h
    omega
   refine gV ?_;have h1:([p.av].length)=1:=rfl;rw [hlen,h1];refine .inl ⟨C1 o_ o_,?_⟩;refine gV ?_;refine ⟨λ h=>?_,λ h=>?_⟩
   .have hg:c<xs.length+1:=by have:=of_decide_eq_true h;omega
    refine gV ?_;refine ⟨i,rfl,?_⟩;refine gV ?_;refine ⟨⟨by simp;omega,by omega⟩,?_⟩;refine gV ?_;refine .inl ⟨C1 o_ o_,?_⟩;refine gV ?_;refine .inl ⟨C1 o_ o_,?_⟩;refine gV ?_;refine ⟨xs.length+1-i,by omega,?_⟩;refine gV ?_;refine ⟨⟨by omega,AV o_⟩,?_⟩;refine gV ?_;refine ⟨i,rfl,?_⟩;refine gV ?_;have hL:(Ia i (pav xs)++Aj (xs.length+1-i) (aBq 0 0).av).length=xs.length+1:=by simp;omega
    refine ⟨by simp;omega,?_⟩;refine gV ?_;refine .inl ⟨C1 o_ o_,?_⟩;refine gV ?_;refine ⟨i+1,by push_cast;rfl,?_⟩;refine gV ?_;refine ⟨by simp;omega,?_⟩;refine gV ?_;refine ⟨i,rfl,?_⟩;refine gV ?_;refine ⟨by simp;omega,?_⟩;refine cO (hEr [60] []) 7 ?_;conv=>whnf
    refine To.become (j:=0) (k:=2) [9] rfl rfl rfl rfl ?_;refine gV ?_;refine ⟨[],[0,1],⟨rfl,rfl⟩,?_⟩;conv=>whnf
    refine ⟨rfl,?_⟩;have h:=aGf (pav xs) _ p.av i (by rw [hlen];exact hi2) (by rw [hL,hlen]) (λ q hq=>by rw [Ag q_,Bi hq]) _ _ rfl rfl;exact zqca17
   .have hg:xs.length+1<=c:=by have:=of_decide_eq_false h;omega
    refine gV ?_;refine .inl ⟨C1 o_ o_,?_⟩;refine gV ?_;refine ⟨xs.length+1,by push_cast;rfl,?_⟩;refine gV ?_;refine ⟨⟨by simp,hg⟩,?_⟩;refine gV ?_;refine .inl ⟨C1 o_ o_,?_⟩;refine gV ?_;refine ⟨i+1,by push_cast;rfl,?_⟩;refine gV ?_;refine ⟨by simp;omega,?_⟩;refine gV ?_;refine .eff [] [1,0] _ _ rfl (IM _ _ _ _) ?_;refine gV ?_;refine ⟨λ h=>?_,λ h=>?_⟩
    .refine gV ?_;refine .inl ⟨C1 o_ o_,?_⟩;refine gV ?_;refine ⟨i+1,by push_cast;rfl,?_⟩;refine gV ?_;refine ⟨by simp;omega,?_⟩;refine gV ?_;refine ⟨i,rfl,?_⟩;refine gV ?_;refine ⟨by simp;omega,?_⟩;refine gV ?_;refine ⟨i,rfl,?_⟩;refine gV ?_;refine ⟨by simp;omega,?_⟩;refine gV ?_;refine ⟨[],[0,1],⟨rfl,rfl⟩,?_⟩;conv=>whnf
     refine ⟨rfl,?_⟩;have hL:(pav xs++Aj (xs.length+1-(pav xs).length) (aa.agg (Aj 11 aa.undef))).length=(pav xs).length+1:=by simp
     have h:=QC (pav xs) _ p.av i (by rw [hlen];exact hi2) hL (λ q hq=>by rw [Ag hq]) _ _ rfl rfl;exact zqca17
    .cases h
def putAt (p:Pend) (l:List Pend):Nat:=if idx (λ x=>decide (p.seq<x.seq)) l 0<0 then l.length else (idx (λ x=>decide (p.seq<x.seq)) l 0).toNat
def putP (l:List Pend) (p:Pend):List Pend:=l.take (putAt p l)++[p]++l.drop (putAt p l)
def takeP (l:List Pend) (a:Int):List Pend:=if ak a l<0 then l else l.eraseIdx (ak a l).toNat
def xM (p:Pend->Bool):∀ (l:List Pend) (i:Int),idx p l i= -1\/(i<=idx p l i/\idx p l i<i+l.length)
 | [],i=>.inl rfl
 | x::r,i=>by
  unfold idx;split
  .right;simp;omega
  .rcases xM p r (i+1) with h | h
   .exact .inl h
   .right;simp;omega
def put_ok (l:List Pend) (p:Pend) (hl:l.length<=1000000):ar 180 [.slice 11 (pav l) .no,p.av] [] (.ret (.slice 11 (pav (putP l p)) .no)) []:=by
 have a:(pav l).length=l.length:=by simp
 refine cT (E:=(Er [17] [])) (fn:=Tryz.f180) (g:=.pure _) λ_=>?_;refine gV ?_;refine .pure _ [] (M7 _ _ l (λ x=>decide (p.seq<x.seq)) λ x _=>aFo x p) ?_;refine gV ?_;have fin:∀ (i:Nat),i=putAt p l->i<=l.length:=λ i c=>by
  subst c;unfold putAt;rcases xM (λ x=>decide (p.seq<x.seq)) l 0 with h | h
  .rw [if_pos o_];exact Bc _
  .rw [if_neg o_];omega
 refine ⟨λ h=>?_,λ h=>?_⟩
 .have b:putAt p l=l.length:=if_pos (of_decide_eq_true h);refine gV ?_;refine .pure _ _ (D0 l hl) ?_;refine gV ?_;rw [a];refine .sole rfl (.eff [] [1,2] _ _ rfl (F7 l p l.length (Bc _) hl) ?_);refine gV ?_;rw [<-b];rfl
 .have b:idx (λ x=>decide (p.seq<x.seq)) l 0=((putAt p l:Nat):Int):=by have:=of_decide_eq_false h;unfold putAt;rw [if_neg this];omega
  rw [b];refine gV ?_;refine .pure _ _ (D0 l hl) ?_;refine gV ?_;refine .sole rfl (.eff [] [1,2] _ _ rfl (F7 l p (putAt p l) (fin _ rfl) hl) ?_);refine gV ?_;rfl
def take_ok (l:List Pend) (a:Int) (hl:l.length<=1000000):ar 138 [.slice 11 (pav l) .no,.int .i64 a] [] (.ret (.tup [.slice 11 (pav (takeP l a)) .no,.bool (!decide (ak a l<0))])) []:=by
 refine c_ Tryz.f138 λ_=>?_;refine gV ?_;refine .pure _ _ (D0 l hl) ?_;refine gV ?_;refine .pure _ [] (find_ok l a) ?_;refine gV ?_;refine ⟨λ h=>?_,λ h=>?_⟩
 .refine gV ?_;have c:=of_decide_eq_true h;unfold takeP;rw [if_pos c,h];rfl
 .have c:=of_decide_eq_false h;have j:ak a l<l.length:=by
   rcases xM (λ x=>x.id==a) l 0 with h | h
   .unfold ak at c;omega
   .unfold ak;omega
  have i:ak a l=(((ak a l).toNat:Nat):Int):=o_;have e:takeP l a=l.eraseIdx (ak a l).toNat:=if_neg c;rw [h,e]
  obtain ⟨k,d⟩:∃ k:Nat,ak a l=(k:Int):=⟨_,i⟩
  have b:k<l.length:=o_;rw [d,Bt];refine gV ?_;refine .inl ⟨C1 o_ o_,?_⟩;refine gV ?_;refine .eff [] [0] _ _ rfl (YS l k b hl) ?_;refine gV ?_;have:Ia (l.length-1) (Hi 0 (pav (l.eraseIdx k)++[(aBq 0 0).av]))=pav (l.eraseIdx k):=by rw [Ci,Dc (by simp [Kj,b]),Cf (by simp [Kj,b])]
  have h3:Res.ret (.tup [.slice 11 (Ia (l.length-1) (Hi 0 (pav (l.eraseIdx k)++[(aBq 0 0).av]))) .no,.bool true])=Res.ret (.tup [.slice 11 (pav (l.eraseIdx k)) .no,.bool (!false)]):=by rw [this];rfl
  exact h3
def IP (l:List Pend) (i:Nat):Bool:=match l[i]?,l[i-1]? with
 | some c,some p=>!((decide (0<i)&& !decide (p.seq<c.seq))||(ak c.id l !=(i:Int)))
 | _,_=>true
def hD (l:List Pend):Nat->Nat->Bool
 | 0,_=>true
 | n+1,i=>IP l i&&hD l n (i+1)
def checkP (l:List Pend):Bool:=hD l l.length 0
def RY (l:List Pend) (hl:l.length<=1000000) (r:Bool):∀ (n i:Nat),i+n=l.length->hD l n i=r->
  To E Tryz.f145 (.pure (.ret (.bool r))) (.head (stk Tryz.f145 0) [(0,.slice 11 (pav l) .no),(5,.slice 11 (pav l) .no),(6,.int .i64 ((pav l).length:Nat)),(7,.int .i64 i)] []):=by
 have k:(pav l).length=l.length:=by simp
 intro n;induction n with
 | zero=>
  intro i p a;refine gV ?_;refine ⟨λ h=>?_,λ h=>?_⟩
  .exact absurd (of_decide_eq_true h) o_
  .refine gV ?_;rw [<-a];rfl
 | succ n q=>
  intro i p a;have d:i<l.length:=o_;have a:(IP l i&&hD l n (i+1))=r:=a
  have back:hD l n (i+1)=r->inR .i64 ((i:Int)+1)/\To E Tryz.f145 (.pure (.ret (.bool r))) (.head (stk Tryz.f145 0) [(0,.slice 11 (pav l) .no),(5,.slice 11 (pav l) .no),(6,.int .i64 ((pav l).length:Nat)),(7,.int .i64 ((i:Int)+1))] []):=λ h=>
   ⟨C1 o_ o_,by have:=q (i+1) o_ h;push_cast at this;exact this⟩
  refine gV ?_;refine ⟨λ h=>?_,λ h=>?_⟩
  .refine gV ?_;refine ⟨i,rfl,?_⟩;refine gV ?_;refine ⟨_,vE d,?_⟩;refine gV ?_;refine ⟨λ h1=>?_,λ h1=>?_⟩
   .have g:0<i:=by have:=of_decide_eq_true h1;omega
    have b:i-1<l.length:=o_;have c:IP l i= !((true&& !decide (l[i-1].seq<l[i].seq))||(ak l[i].id l !=(i:Int))):=by unfold IP;rw [Aa d,Aa b,decide_eq_true g]
    refine gV ?_;refine .inl ⟨C1 o_ o_,?_⟩;refine gV ?_;refine ⟨i-1,by omega,?_⟩;refine gV ?_;refine ⟨_,vE b,?_⟩;refine gV ?_;refine .pure _ [] (HG _ _) ?_;refine gV ?_;refine ⟨λ e=>?_,λ e=>?_⟩
    .refine gV ?_;refine ⟨λ_=>?_,λ h3=>(by cases h3)⟩;refine gV ?_;rw [c,e] at a;rw [<-a];rfl
    .refine gV ?_;refine .pure _ [] (find_ok _ _) ?_;refine gV ?_;refine ⟨λ h3=>?_,λ h3=>?_⟩
     .refine gV ?_;rw [c,e,h3] at a;rw [<-a];rfl
     .refine gV ?_;rw [c,e,h3] at a;obtain ⟨j,m⟩:=back a;refine .inl ⟨j,?_⟩;exact zW
   .have o:i=0:=by have:=of_decide_eq_false h1;omega
    have c:IP l i= !((false&&false)||(ak l[i].id l !=(i:Int))):=by unfold IP;have b:i-1<l.length:=o_;rw [Aa d,Aa b];subst o;simp
    refine gV ?_;refine ⟨λ e=>(by cases e),λ_=>?_⟩;refine gV ?_;refine .pure _ [] (find_ok _ _) ?_;refine gV ?_;refine ⟨λ h3=>?_,λ h3=>?_⟩
    .refine gV ?_;rw [c,h3] at a;rw [<-a];rfl
    .refine gV ?_;rw [c,h3] at a;obtain ⟨j,m⟩:=back a;refine .inl ⟨j,?_⟩;exact zW
  .exact absurd (of_decide_eq_false h) o_
def check_ok (l:List Pend) (hl:l.length<=1000000):ar 145 [.slice 11 (pav l) .no] [] (.ret (.bool (checkP l))) []:=by refine c_ Tryz.f145 λ_=>?_;have a:=RY l hl _ l.length 0 o_ rfl;exact zW
def eqP (x y:Pend):Bool:=(x.id==y.id)&&((x.tenant==y.tenant)&&((x.pods==y.pods)&&((x.n0==y.n0)&&((x.n1==y.n1)&&((x.n2==y.n2)&&((x.run==y.run)&&((x.level==y.level)&&((x.prefer==y.prefer)&&((x.seq==y.seq)&&((x.since==y.since)&&true))))))))))
def VE {x y:Pend}:eqP x y=true↔x=y:=by obtain ⟨h,t,l,f,d,p,q,v,s,o,a⟩:=x;obtain ⟨g,c,k,n,j,r,e,i,m,u,b⟩:=y;simp [eqP]
def WY (a b:List Pend) (o:a.length=b.length) (hl:((pav a).length:Int)<=9223372036854775807) (r:Bool):∀ (n i:Nat),i+n=a.length->decide (a.drop i=b.drop i)=r->
  To E Tryz.f76 (.pure (.ret (.bool r))) (.head (stk Tryz.f76 0) [(0,.slice 11 (pav a) .no),(1,.slice 11 (pav b) .no),(5,.int .i64 i)] []):=by
 have l:(pav a).length=a.length:=by simp
 intro n;induction n with
 | zero=>
  intro i p d;refine gV ?_;refine ⟨λ h=>?_,λ h=>?_⟩
  .exact absurd (of_decide_eq_true h) o_
  .refine gV ?_;rw [Ah o_,Ah o_] at d;rw [<-d];rfl
 | succ n q=>
  intro i p d;have g:i<a.length:=o_;have c:i<b.length:=o_;rw [Ae g,Ae c] at d;refine gV ?_;refine ⟨λ h=>?_,λ h=>?_⟩
  .refine gV ?_;refine ⟨i,rfl,?_⟩;refine gV ?_;refine ⟨_,vE g,?_⟩;refine gV ?_;refine ⟨i,rfl,?_⟩;refine gV ?_;refine ⟨_,vE c,?_⟩;refine gV ?_;refine ⟨λ j=>?_,λ j=>?_⟩
   .have h3:(!eqP a[i] b[i])=true:=j;refine gV ?_;have k:a[i]≠b[i]:=λ e=>by rw [VE.2 e] at h3;cases h3
    rw [<-d,decide_eq_false λ e=>k (Gi e).1]
   .have h3:(!eqP a[i] b[i])=false:=j;have m:a[i]=b[i]:=VE.1 (by simpa using h3);refine gV ?_;refine .inl ⟨C1 o_ o_,?_⟩;refine gV ?_;refine To.head [0,1,5] ?_;have:=q (i+1) o_ (by rw [<-d,m];exact decide_eq_decide.2 ⟨λ e=>by rw [e],λ e=>(Gi e).2⟩);push_cast at this;exact this
  .exact absurd (of_decide_eq_false h) o_
def same_ok (a b:List Pend):ar 76 [.slice 11 (pav a) .no,.slice 11 (pav b) .no] [] (.ret (.bool (decide (a=b)))) []:=by
 have j:(pav a).length=a.length:=by simp
 have i:(pav b).length=b.length:=by simp
 refine c_ Tryz.f76 λ k=>?_;refine gV ?_;refine ⟨λ h=>?_,λ h=>?_⟩
 .refine gV ?_;have d:a≠b:=λ e=>by subst e;simp at h
  rw [decide_eq_false d]
 .have c:a.length=b.length:=by
   have:((a.length:Nat):Int)=b.length:=by simpa using h
   omega
  refine gV ?_;refine To.head [0,1,5] ?_;exact WY a b c k.1 _ a.length 0 o_ s_
def C2 (p:Pend->Bool):∀ (l:List Pend) (i:Int) (k:Nat) (h:k<l.length),p l[k]=true->(∀ (j:Nat) (a:j<l.length),j<k->p l[j]=false)->idx p l i=i+k
 | [],i,k,h,_,_=>by simp at h
 | x::r,i,0,h,h1,_=>by
  have:p x=true:=h1;simp [idx,this]
 | x::r,i,k+1,h,h1,h2=>by have c:p x=false:=h2 0 s_ o_;have:=C2 p r (i+1) k (by simpa using h) (by simpa using h1) (λ j a b=>by have:=h2 (j+1) (by simpa using a) o_;simpa using this);unfold idx;rw [if_neg (by rw [c];simp),this];push_cast;omega
def aCd {p:Pend->Bool}:∀ {l:List Pend} {i:Int} {k:Nat} (h:k<l.length),p l[k]=true->idx p l i<=i+k
 | [],i,k,h,_=>by simp at h
 | x::r,i,0,h,h1=>by
  have:p x=true:=h1;simp [idx,this]
 | x::r,i,k+1,h,h1=>by
  unfold idx;split
  .omega
  .have:=aCd (l:=r) (i:=i+1) (k:=k) (by simpa using h) (by simpa using h1);push_cast at this⊢;omega
structure Good (l:List Pend):Prop where
 seq:l.Pairwise λ a b=>a.seq<b.seq
 id:l.Pairwise λ a b=>a.id≠b.id
def sT {l:List Pend}:∀ {n i:Nat},hD l n i=true↔ ∀ j,i<=j->j<i+n->IP l j=true
 | 0,i=>by simp [hD];omega
 | n+1,i=>by
  simp only [hD,Ad,sT (n:=n) (i:=i+1)];constructor
  .rintro ⟨h1,a⟩ j c b;by_cases h:j=i
   .subst h;exact h1
   .exact a j o_ o_
  .intro h;exact ⟨h i (Bc _) o_,λ j h1 a=>h j o_ o_⟩
def CF {l:List Pend} {j:Nat} (c:j<l.length):IP l j=true↔(∀ (h:0<j),(l[j-1]' o_).seq<l[j].seq)/\ak l[j].id l=(j:Int):=by
 have b:j-1<l.length:=o_;unfold IP;rw [Aa c,Aa b];simp only [Bool.not_or,Ad,Cx,bne_eq_false_iff_eq,Bool.and_eq_false_iff,decide_eq_false_iff_not];constructor
 .rintro ⟨h1,a⟩;refine ⟨λ h=>?_,a⟩;rcases h1 with h1 | h1
  .exact absurd h h1
  .simpa using h1
 .rintro ⟨h1,a⟩;refine ⟨?_,a⟩;by_cases h:0<j
  .right;simpa using h1 h
  .exact .inl h
def check_good {l:List Pend}:checkP l=true↔Good l:=by
 unfold checkP;rw [sT];constructor
 .intro h;have hs:∀ (j i:Nat) (b:j<l.length) (c:i<j),(l[i]' o_).seq<l[j].seq:=by
   intro j;induction j with
   | zero=>intro i _ c;omega
   | succ j f=>
    intro i b c;have h1:=((CF b).1 (h (j+1) o_ o_)).1 o_;have h1:(l[j]' o_).seq<(l[j+1]).seq:=h1;by_cases a:i=j
    .subst a;exact h1
    .exact Int.lt_trans (f i o_ o_) h1
  refine ⟨Gb.2 λ i j c b a=>hs j i b a,Gb.2 λ i j c b a e=>?_⟩;have d:=((CF b).1 (h j o_ o_)).2;have:=aCd (p:=λ x=>x.id==l[j].id) (l:=l) (i:=0) (k:=i) c (by simpa using e);unfold ak at d;omega
 .intro h j _ b;have b:j<l.length:=o_;refine (CF b).2 ⟨λ g=>Gb.1 h.seq _ _ o_ b o_,?_⟩;have:=C2 (λ x=>x.id==l[j].id) l 0 j b s_ λ i c a=>by have:=Gb.1 h.id i j c b a;simpa using this
  unfold ak;omega
def insP (p:Pend):List Pend->List Pend
 | []=>[p]
 | x::r=>if p.seq<x.seq then p::x::r else x::insP p r
def PU (p x:Pend) (r:List Pend):putAt p (x::r)=if p.seq<x.seq then 0 else putAt p r+1:=by
 by_cases h:p.seq<x.seq
 .rw [if_pos h];have:idx (λ x=>decide (p.seq<x.seq)) (x::r) 0=0:=by unfold idx;rw [if_pos (by simpa using h)]
  unfold putAt;rw [this];rfl
 .rw [if_neg h];have e:idx (λ x=>decide (p.seq<x.seq)) (x::r) 0=idx (λ x=>decide (p.seq<x.seq)) r 1:=by
   conv=>lhs;unfold idx
   rw [if_neg (by simpa using h)];rfl
  have d:∀ (q:Pend->Bool) (l:List Pend) (i:Int),(idx q l i= -1/\idx q l (i+1)= -1)\/(i<=idx q l i/\idx q l (i+1)=idx q l i+1):=by
   intro q l;induction l with
   | nil=>intro i;exact .inl ⟨rfl,rfl⟩
   | cons y t c=>
    intro i;unfold idx;by_cases a:q y=true
    .rw [if_pos a,if_pos a];right;omega
    .rw [if_neg a,if_neg a];rcases c (i+1) with h | h
     .exact .inl h
     .right;omega
  rcases d (λ x=>decide (p.seq<x.seq)) r 0 with ⟨h1,b⟩ | ⟨h1,b⟩
  .unfold putAt;rw [e,show (1:Int)=0+1 from rfl,b,h1];simp
  .unfold putAt;rw [e,show (1:Int)=0+1 from rfl,b,if_neg o_,if_neg o_];omega
def putP_ins (p:Pend):∀ (l:List Pend),putP l p=insP p l
 | []=>rfl
 | x::r=>by
  have a:=putP_ins p r;unfold putP at a⊢;rw [PU];unfold insP;by_cases h:p.seq<x.seq
  .rw [if_pos h,if_pos h];rfl
  .rw [if_neg h,if_neg h,<-a];rfl
def shift (n k q:Nat):Nat:=if k<=q then q-k else q+n-k
end Go.Proofs.YtidhfoefaomodaaGreatDoor.Q2
namespace Go.Proofs.YtidhfoefaomodaaGreatDoor
open Go Go.AW Go.Proofs
structure Pn where
 g:Gan
 (seq at':Int)
 deriving DecidableEq
def Pn.cs (x:Pn):List aa:=[ii x.g.id,ii x.g.ten,ii x.g.pods,ii x.g.need.a,ii x.g.need.b,ii x.g.need.c,ii x.g.run,ii x.g.lev,ii x.g.pref,ii x.seq,ii x.at']
def Pn.av (x:Pn):aa:=.agg x.cs
abbrev pnv (l:List Pn):List aa:=l.map Pn.av
def IJ {l:List Pn} {i:Nat} (h:i<l.length):(pnv l)[i]? =some l[i].av:=by simp [pnv,h]
abbrev fv (l:List Nat):List aa:=l.map λ x:Nat=>.int .u64 (x:Int)
structure Sta where
 c:Con
 (now nxt:Int)
 pend:List Pn
 run:List Rn
 hist:List Nat
 deriving DecidableEq
def Sta.cs (s:Sta):List aa:=[.slice 11 (nav s.c.ns) .no,.slice 6 (hav s.c.hs) .no,ii s.c.half,ii s.c.age,ii s.now,ii s.nxt,.slice 11 (pnv s.pend) .no,.slice 14 (rav s.run) .no,.slice 1 (fv s.hist) .no]
def Sta.av (s:Sta):aa:=.agg s.cs
def fU (c:Con):Bool:=decide (c.ns=[])&&(decide (c.hs=[])&&(decide (c.half=0)&&decide (c.age=0)))
def JX (g:Gan):Bool:=decide (1<=g.id/\g.id<=1073741824/\1<=g.pods/\g.pods<=16)&&(bI g.need&&decide (1<=g.run/\g.run<=1048576/\0<=g.lev/\g.lev<=3/\0<=g.pref/\g.pref<=g.lev))
def eM (c:Con) (g:Gan):Int:=if JX g=true then (if bB c.ns g.ten=true then 0 else 3) else 1
def Rn.pn (r:Rn):Pn:=⟨r.g,r.seq,r.at'⟩
def pnB (s:Sta) (p:Pn):Bool:=decide (eM s.c p.g=0)&&(!(cK s.c [] p.g).isNone&&decide ((0<=p.seq/\p.seq<s.nxt)/\0<=p.at'/\p.at'<=s.now))
def rnB (s:Sta) (r:Rn):Bool:=decide ((r.at'<=r.st/\r.st<=s.now)/\s.now<gD r)&&(qA s.c (jR s.c (s.run.filter λ x=>!(x.g.id==r.g.id))) r.g r.hs&&decide ((bH s.c.hs (r.hs.headD 0)).f=r.fl))
def pN (c:Con) (n:Int):V3:=if bB c.ns n=true then fO (kS c.ns n (pR c.ns)) (cW c.ns n).b else kS c.ns n (pR c.ns)
def LQ (s:Sta):Bool:=(Di s.c.ns.length).all λ i:Nat=>cR (atV (ofL s.c s.run) (i:Int)) (pN s.c (i:Int))
def Pn.q (x:Pn):Q2.Pend:=⟨x.g.id,x.g.ten,x.g.pods,x.g.need.a,x.g.need.b,x.g.need.c,x.g.run,x.g.lev,x.g.pref,x.seq,x.at'⟩
def yT (l:List Pn):Q2.pav (l.map Pn.q)=pnv l:=by simp [Q2.pav,pnv,Pn.q,Q2.Pend.av,Q2.Pend.cs,Pn.av,Pn.cs]
def aAI (l:List Pn):Bool:=Q2.checkP (l.map Pn.q)
def ids (s:Sta):List Int:=s.pend.map (λ p=>p.g.id)++s.run.map λ r=>r.g.id
def seqs (s:Sta):List Int:=s.pend.map (λ p=>p.seq)++s.run.map λ r=>r.seq
def NB (s:Sta):Bool:=(fU s.c||decide (bT s.c=0))&&decide ((0<=s.now/\s.now<=1099511627776)/\(1<=s.nxt/\s.nxt<=1099511627776)/\s.hist.length=s.c.ns.length/\s.pend.length+s.run.length<=32)
def lW (s:Sta):Bool:=NB s&&(aAI s.pend&&((s.pend.all (pnB s)&&s.run.all λ r=>pnB s r.pn&&rnB s r)&&(decide (ids s).Nodup&&(decide (seqs s).Nodup&&LQ s))))
def nW {c:Con} {g:Gan}:eM c g=0↔JX g=true/\bB c.ns g.ten=true:=by unfold eM;cases JX g<;>cases bB c.ns g.ten<;>decide
def uO (p:V3->Int) (u:Int) (x:Rn):Int:=p x.g.need*((x.hs.count u:Nat):Int)
def xH {p:V3->Int} (hp:Prj p) (need:V3) (a:0<=p need/\p need<=1048576) (j:Nat):∀ (hs:List Int) (xs:List V3) (v:Int),j<xs.length->v<=cZ->p ((xs[j]?).getD V3.zero)=max v (-cZ)->p (((hs.foldl (sS need) xs)[j]?).getD V3.zero)=max (v-p need*((hs.count (j:Int):Nat):Int)) (-cZ)
 | [],xs,v,_,_,h=>by simpa using h
 | u::r,xs,v,hj,hv,h=>by
  rw [Ba];have e:=X5 need xs u j;by_cases b:u=(j:Int)
  .subst b;rw [if_pos ⟨by omega,by omega,by omega⟩] at e;rw [Ik];have hm:p need*(((r.count (j:Int)+1:Nat):Nat):Int)=p need*((r.count (j:Int):Nat):Int)+p need:=by rw [Int.natCast_add,Int.mul_add];simp
   rw [hm];have c:p (((sS need xs (j:Int))[j]?).getD V3.zero)=max (v-p need) (-cZ):=by
    rw [e,hp.sub,h];unfold WQ gO cZ at *
    omega
   rw [xH hp need a j r _ (v-p need) (by rw [sC];exact hj) o_ c];omega
  .rw [if_neg o_] at e;rw [Ms (by simpa using b)];exact xH hp need a j r _ v (by rw [sC];exact hj) hv (by rw [e];exact h)
def M3 {p:V3->Int} (hp:Prj p) (j:Nat):∀ (l:List Rn) (xs:List V3) (v:Int),(∀ x∈l,0<=p x.g.need/\p x.g.need<=1048576)->j<xs.length->v<=cZ->p ((xs[j]?).getD V3.zero)=max v (-cZ)->p (((l.foldl yZ xs)[j]?).getD V3.zero)=max (v-cG (l.map (uO p (j:Int)))) (-cZ)
 | [],xs,v,_,_,_,h=>by
  show _=max (v-0) _;rw [Int.sub_zero];exact h
 | x::r,xs,v,hn,hj,hv,h=>by have a:=hn x (Ap ..);have e:=xH hp x.g.need a j x.hs xs v hj hv h;have hz:0<=p x.g.need*((x.hs.count (j:Int):Nat):Int):=Ld a.1 o_;rw [Ba,Bl];have c:=M3 hp j r (yZ xs x) (v-p x.g.need*((x.hs.count (j:Int):Nat):Int)) (λ y b=>hn y (Bd _ b)) (by rw [xP];exact hj) o_ e;rw [c];show _=max (v-(uO p (j:Int) x+cG _)) _;unfold uO;congr 1;omega
structure RnOK (s:Sta) (r:Rn):Prop where
 gang:eM s.c r.g=0
 st:0<=r.st/\r.st<=s.now
 chk:qA s.c (jR s.c (s.run.filter λ x=>!(x.g.id==r.g.id))) r.g r.hs=true
def VR {s:Sta} (h:lW s=true) {r:Rn} (e:r∈s.run):RnOK s r:=by unfold lW at h;simp only [Ad,Cq] at h;have h1:=h.2.2.1.2 r e;unfold pnB rnB at h1;simp only [Ad,decide_eq_true_eq] at h1;obtain ⟨⟨a,_,b⟩,c,d,_⟩:=h1;exact ⟨a,⟨Fk b.2.1 c.1.1,c.1.2⟩,d⟩
def JS {c:Con} {free:List V3} {g:Gan} {hs:List Int} (h:qA c free g hs=true):(hs.length:Int)=g.pods/\∀ u∈hs,0<=u/\u<(free.length:Int)/\((hs.count u:Nat):Int)<=eD ((free[u.toNat]?).getD V3.zero) g.need:=by
 unfold qA at h;by_cases hl:(hs.length:Int)=g.pods
 .rw [if_pos hl,Fq] at h;obtain ⟨G,_,b⟩:=h;refine ⟨hl,λ u f=>?_⟩;unfold chkG DD at b;simp only [Ad,Cq] at b;have a:=b.2 u f;unfold aCG at a;by_cases h1:u<0
  .rw [if_pos (decide_eq_true h1)] at a;cases a
  .rw [if_neg (by rw [decide_eq_false h1];decide)] at a;by_cases d:(free.length:Int)<=u
   .rw [if_pos (decide_eq_true d)] at a;cases a
   .rw [if_neg (by rw [decide_eq_false d];decide)] at a;have e:AB u hs=((hs.count u:Nat):Int):=by unfold AB;rw [xZ];omega
    rw [e] at a;simp at a;exact ⟨by omega,by omega,a⟩
 .rw [if_neg hl] at h;cases h
def wA (c:Con) (l:List Rn):(jR c l).length=c.hs.length:=by
 have key:∀ (l:List Rn) (xs:List V3),(l.foldl yZ xs).length=xs.length:=λ l=>by
  induction l with
  | nil=>intro xs;rfl
  | cons x r a=>intro xs;rw [Ba,a,xP]
 unfold jR;rw [key];simp
def aKI (c:Con) {j:Nat} (a:j<c.hs.length):(((Di c.hs.length).map λ i:Nat=>(bH c.hs (i:Int)).c)[j]?).getD V3.zero=(bH c.hs (j:Int)).c:=by rw [Bf,Dn a];rfl
def R1 {c:Con} (h:bT c=0) {j:Nat} (a:j<c.hs.length):bI (bH c.hs (j:Int)).c=true:=by
 unfold bT at h;split at h
 .split at h
  .split at h
   .rename_i b;rw [Cq] at b;have d:bH c.hs (j:Int)=c.hs[j]:=by unfold bH;rw [Bt,Aa a];rfl
    have:=b c.hs[j] (Bh a);unfold lF at this;split at this
    .cases this
    .rw [d];exact this
   .cases h
  .cases h
 .cases h
def UW {p:V3->Int} (hp:Prj p) {c:Con} (a:∀ j:Nat,j<c.hs.length->0<=p (bH c.hs (j:Int)).c/\p (bH c.hs (j:Int)).c<=1048576) {l:List Rn} (d:∀ x∈l,0<=p x.g.need/\p x.g.need<=1048576) {j:Nat} (b:j<c.hs.length):p (((jR c l)[j]?).getD V3.zero)=max (p (bH c.hs (j:Int)).c-cG (l.map (uO p (j:Int)))) (-cZ):=by have e:=a j b;unfold jR;exact M3 hp j l _ _ d (by simpa using b) (by unfold cZ;omega) (by rw [aKI c b];unfold cZ;omega)
def SZ {f:Rn->Int} {r:Rn}:∀ {l:List Rn},r∈l->(l.map λ x=>x.g.id).Nodup->cG (l.map f)=cG ((l.filter λ x=>!(x.g.id==r.g.id)).map f)+f r
 | [],h,_=>by cases h
 | x::l,h,hd=>by
  rw [Bl,Ce] at hd;rw [Bl];show f x+cG (l.map f)=_;rcases Bb.1 h with rfl | h
  .rw [Fs s_];have e:l.filter (λ x=>!(x.g.id==r.g.id))=l:=by rw [Gq];intro y b;have:y.g.id≠r.g.id:=λ q=>hd.1 (by rw [<-q];exact Ca.2 ⟨y,b,rfl⟩);simpa using this
   rw [e];omega
  .have a:x.g.id≠r.g.id:=λ q=>hd.1 (by rw [q];exact Ca.2 ⟨r,h,rfl⟩);rw [Ft (by simpa using a),Bl];show _=(f x+cG _)+f r;rw [SZ h hd.2];omega
def rU {free need:V3} {n:Int} (e:bI need=true) (h1:1<=n) (h:n<=eD free need):need.a*n<=free.a/\need.b*n<=free.b/\need.c*n<=free.c:=by
 have d:cR need free=true:=by
  cases f:cR need free with
  | true=>rfl
  | false=>
   unfold eD at h;rw [if_neg (by rw [f];decide)] at h;omega
 exact ((TJ e d _).1 h).2
set_option maxRecDepth 10000
def fY (n lo a:Int):Bool:=decide (lo<=n)&&decide (n<=a)
def fX {n lo a:Int}:fY n lo a=true↔lo<=n/\n<=a:=by unfold fY;simp
def iK (n lo a:Int):ar 216 [ii n,ii lo,ii a] [] (.ret (.bool (fY n lo a))) []:=by
 unfold fY;by_cases h1:lo<=n
 .rw [decide_eq_true h1,Cy];exact c_ Tryz.f216 λ_=>zW
 .rw [decide_eq_false h1,Fj];exact c_ Tryz.f216 λ_=>zW
def uT (n lo a:Int):ar 210 [ii n,ii lo,ii a] [] (.ret (.bool (fY n lo a))) []:=by
 unfold fY;by_cases h1:lo<=n
 .rw [decide_eq_true h1,Cy];exact c_ Tryz.f210 λ_=>zW
 .rw [decide_eq_false h1,Fj];exact c_ Tryz.f210 λ_=>zW
def PT (v:V3) (b:Bool) (d:bI v=b):ar 251 [v.av] [] (.ret (.bool b)) []:=by
 unfold bI at d;refine c_ Tryz.f251 λ_=>?_
 repeat' first
  | (refine gW hE ?_;conv=>whnf)
  | exact d
  | refine aY ?_
  | refine aN ?_
  | refine Ac (λ h=>?_) (λ h=>?_)
  | refine aJ ?_
  | refine Ao _ (Ac rfl ?_)
  | refine Ac d_ ?_
 all_goals (refine congrArg (λ b=>Res.ret (aa.bool b)) ?_;rw [<-d];simp only [decide_eq_true_eq,decide_eq_false_iff_not] at *)
 .rw [decide_eq_false (p:=0<=v.a/\v.a<=1048576) o_];rfl
 .rw [decide_eq_false (p:=0<=v.a/\v.a<=1048576) o_];rfl
 .rw [decide_eq_false (p:=0<=v.b/\v.b<=1048576) o_,Db];rfl
 .rw [decide_eq_false (p:=0<=v.b/\v.b<=1048576) o_,Db];rfl
 .rw [decide_eq_false (p:=0<=v.c/\v.c<=1048576) o_,Db]
 .rw [decide_eq_false (p:=0<=v.c/\v.c<=1048576) o_,Db]
 .rw [decide_eq_true (p:=0<=v.a/\v.a<=1048576) o_,decide_eq_true (p:=0<=v.b/\v.b<=1048576) o_,decide_eq_true (p:=0<=v.c/\v.c<=1048576) o_];rfl
def eG (v:V3):ar 251 [v.av] [] (.ret (.bool (bI v))) []:=PT v _ rfl
def F8 (x:Hos):Bool:=fY x.f 0 100&&(fY x.b 0 100&&(fY x.r 0 100&&bI x.c))
def aGp (x:Hos):ar 218 [x.av] [] (.ret (.bool (F8 x))) []:=by
 have h1:=iK x.f 0 100;have a:=iK x.b 0 100;have h3:=iK x.r 0 100;have d:=eG x.c;unfold F8;generalize fY x.f 0 100=b1 at h1;generalize fY x.b 0 100=b2 at a;generalize fY x.r 0 100=b3 at h3;generalize bI x.c=b4 at d;cases b1<;>cases b2<;>cases b3<;>cases b4
 all_goals
  exact c_ Tryz.f218 λ_=>zW
def aCg (x:Hos):F8 x=lF x:=by
 rw [Hx];unfold F8 lF;by_cases h:EY x
 .rw [if_pos h];unfold EY at h;simp only [Ad,fX];constructor
  .intro q;omega
  .intro q;cases q
 .rw [if_neg h];unfold EY at h;simp only [Ad,fX];constructor
  .intro q;exact q.2.2.2
  .intro q;exact ⟨by omega,by omega,by omega,q⟩
def XF (c:Con) (i:Nat) (t:i<1048576) (x:Nod) (get:(nav c.ns)[i]? =some x.av) (s:AE i x):ar 217 [c.av,ii i] [] (.ret (.bool false)) []:=by
 have d:=iK x.p 0 ((i:Int)-1);have e:=iK x.w 1 1000;have hl:=iK x.w 1 1000;have k:=eG x.n;have o:=eG x.b;have q:=eG x.l;have j:=kR x.l x.n;unfold AE at s;by_cases r:i=0
 .by_cases hp:x.p= -1
  .have m:fY x.w 1 1000=false:=by
    cases a:fY x.w 1 1000 with
    | false=>rfl
    | true=>have:=fX.1 a;omega
   rw [m] at e;subst r;refine c_ Tryz.f217 λ_=>?_
   repeat' first | (refine gN hE ?_;conv=>whnf) | refine ⟨i,rfl,?_⟩ | refine ⟨_,get,?_⟩ | refine .pure _ [] d ?_ | refine .pure _ [] e ?_ | refine .pure _ [] hl ?_ | refine .pure _ [] k ?_ | refine .pure _ [] o ?_ | refine .pure _ [] q ?_ | refine .pure _ [] j ?_ | exact rfl | (refine zt ?_;try intro h) | refine zu (λ h=>?_) λ h=>?_ | fail
  .subst r;refine c_ Tryz.f217 λ_=>?_
   repeat' first | (refine gN hE ?_;conv=>whnf) | refine ⟨i,rfl,?_⟩ | refine ⟨_,get,?_⟩ | refine .pure _ [] d ?_ | refine .pure _ [] e ?_ | refine .pure _ [] hl ?_ | refine .pure _ [] k ?_ | refine .pure _ [] o ?_ | refine .pure _ [] q ?_ | refine .pure _ [] j ?_ | exact rfl | (refine zt ?_;try intro h) | refine zu (λ h=>?_) λ h=>?_ | fail
   all_goals (exfalso;simp at *;omega)
 .cases a:fY x.p 0 ((i:Int)-1) with
  | false=>
   rw [a] at d;exact c_ Tryz.f217 λ_=>zW
  | true=>
   rw [a] at d;have:=fX.1 a;have m:fY x.w 1 1000=false:=by
    cases a:fY x.w 1 1000 with
    | false=>rfl
    | true=>have:=fX.1 a;omega
   rw [m] at e;refine c_ Tryz.f217 λ_=>?_
   repeat' first | (refine gN hE ?_;conv=>whnf) | refine ⟨i,rfl,?_⟩ | refine ⟨_,get,?_⟩ | refine .pure _ [] d ?_ | refine .pure _ [] e ?_ | refine .pure _ [] hl ?_ | refine .pure _ [] k ?_ | refine .pure _ [] o ?_ | refine .pure _ [] q ?_ | refine .pure _ [] j ?_ | exact rfl | (refine zt ?_;try intro h) | refine zu (λ h=>?_) λ h=>?_ | fail
set_option maxHeartbeats 2000000 in
def PW (c:Con) (i:Nat) (s:i<1048576) (x:Nod) (get:(nav c.ns)[i]? =some x.av) (q:¬ AE i x) (a:bB c.ns (i:Int)=true):ar 217 [c.av,ii i] [] (.ret (.bool (bI x.n&&(bI x.b&&(bI x.l&&cR x.l x.n))))) []:=by
 have d:=iK x.p 0 ((i:Int)-1);have k:=iK x.w 1 1000;have hl:=jF c (i:Int);rw [a] at hl;have j:=eG x.n;have m:=eG x.b;have o:=eG x.l;have e:=kR x.l x.n;unfold AE at q;rw [fX.2 (show 1<=x.w/\x.w<=1000 by omega)] at k;generalize bI x.n=q1 at j;generalize bI x.b=q2 at m;generalize bI x.l=q3 at o;generalize cR x.l x.n=q4 at e;by_cases r:i=0
 .have hp:x.p= -1:=o_;subst r;cases q1<;>cases q2<;>cases q3<;>cases q4
  all_goals
   refine c_ Tryz.f217 λ_=>?_
   repeat' first | (refine gN hE ?_;conv=>whnf) | refine ⟨i,rfl,?_⟩ | refine ⟨_,get,?_⟩ | refine .pure _ [] d ?_ | refine .pure _ [] k ?_ | refine .pure _ [] hl ?_ | refine .pure _ [] j ?_ | refine .pure _ [] m ?_ | refine .pure _ [] o ?_ | refine .pure _ [] e ?_ | exact rfl | (refine zt ?_;try intro h) | refine zu (λ h=>?_) λ h=>?_ | fail
   all_goals (exfalso;simp at *;omega)
 .rw [fX.2 (show 0<=x.p/\x.p<=(i:Int)-1 by omega)] at d;cases q1<;>cases q2<;>cases q3<;>cases q4
  all_goals
   exact c_ Tryz.f217 λ_=>zW
def aBf (c:Con) (i:Nat) (v:i<1048576) (x:Nod) (get:(nav c.ns)[i]? =some x.av) (s:¬ AE i x) (j:bB c.ns (i:Int)=false) (r:Bool) (t:(zB x.n&&(zB x.b&&zB x.l))=r):ar 217 [c.av,ii i] [] (.ret (.bool r)) []:=by
 have d:=iK x.p 0 ((i:Int)-1);have e:=iK x.w 1 1000;have hl:=jF c (i:Int);rw [j] at hl;have m:=eG x.n;have o:=eG x.b;have q:=eG x.l;have k:=kR x.l x.n;unfold AE at s;rw [fX.2 (show 1<=x.w/\x.w<=1000 by omega)] at e;have fin:(((x.p==x.p)&&((x.w==x.w)&&((x.n.a==0)&&((x.n.b==0)&&((x.n.c==0)&&((x.b.a==0)&&((x.b.b==0)&&((x.b.c==0)&&((x.l.a==0)&&((x.l.b==0)&&((x.l.c==0)&&true)))))))))))=r):=by rw [<-t];unfold zB;simp [Ij]
 by_cases u:i=0
 .have hp:x.p= -1:=o_;subst u;refine c_ Tryz.f217 λ_=>?_
  repeat' first | (refine gN hE ?_;conv=>whnf) | refine ⟨i,rfl,?_⟩ | refine ⟨_,get,?_⟩ | refine .pure _ [] d ?_ | refine .pure _ [] e ?_ | refine .pure _ [] hl ?_ | refine .pure _ [] m ?_ | refine .pure _ [] o ?_ | refine .pure _ [] q ?_ | refine .pure _ [] k ?_ | exact rfl | (refine zt ?_;try intro h) | refine zu (λ h=>?_) λ h=>?_ | fail
  .exact absurd (show (x.p != -1)=true by assumption) (by rw [hp];decide)
  .exact congrArg (λ b=>Res.ret (aa.bool b)) fin
 .rw [fX.2 (show 0<=x.p/\x.p<=(i:Int)-1 by omega)] at d;refine c_ Tryz.f217 λ_=>?_
  repeat' first | (refine gN hE ?_;conv=>whnf) | refine ⟨i,rfl,?_⟩ | refine ⟨_,get,?_⟩ | refine .pure _ [] d ?_ | refine .pure _ [] e ?_ | refine .pure _ [] hl ?_ | refine .pure _ [] m ?_ | refine .pure _ [] o ?_ | refine .pure _ [] q ?_ | refine .pure _ [] k ?_ | exact rfl | (refine zt ?_;try intro h) | refine zu (λ h=>?_) λ h=>?_ | fail
  exact congrArg (λ b=>Res.ret (aa.bool b)) fin
def aBe (c:Con) (i:Nat) (b:i<1048576) (x:Nod) (get:(nav c.ns)[i]? =some x.av):ar 217 [c.av,ii i] [] (.ret (.bool (nP (bB c.ns (i:Int)) i x))) []:=by
 unfold nP;by_cases a:AE i x
 .rw [if_pos a];exact XF c i b x get a
 .rw [if_neg a];cases hl:bB c.ns (i:Int) with
  | false=>rw [if_neg d_];exact aBf c i b x get a hl _ rfl
  | true=>rw [if_pos rfl];exact PW c i b x get a hl
noncomputable abbrev U9:Func:=Tryz.f144
def CJ (ns:List Nod):Nat->List Nod->Bool
 | _,[]=>true
 | i,x::r=>nP (bB ns (i:Int)) i x&&CJ ns (i+1) r
def B5 (c:Con) (g:c.sm) (r:Int):∀ (m i:Nat) (b:Bool),i+m=c.hs.length->(if (b&&(c.hs.drop i).all lF)=true then (0:Int) else 2)=r->
  To E U9 (.pure (.ret (ii r))) (.head (stk U9 1) [(1,.ref 0 0),(3,.bool b),(5,ii i)] [.cells 26 c.cs]):=by
 have f:(hav c.hs).length=c.hs.length:=by simp
 have h1:=g.hs;intro m;induction m with
 | zero=>
  intro i b j a;rw [Ah o_] at a;cases b with
  | false=>
   have a:2=r:=a;subst a;refine gV ?_;exact zW
  | true=>
   have a:0=r:=a;subst a;refine gV ?_;exact zW
 | succ m h=>
  intro i b j a;cases b with
  | false=>
   have a:2=r:=a;subst a;refine gV ?_;exact zW
  | true=>
   have d:i<c.hs.length:=o_;rw [Ae d,Kd,<-aCg] at a;have get:=vX d;generalize c.hs[i]=x at a get;have e:=aGp x;have ao:=h (i+1) (F8 x) o_ a
   generalize F8 x=q at e ao
   refine gV ?_;exact zW
def PY (c:Con) (f:c.sm) (r:Int):∀ (m i:Nat) (b:Bool),i+m=c.ns.length->(if ((b&&CJ c.ns i (c.ns.drop i))&&c.hs.all lF)=true then (0:Int) else 2)=r->
  To E U9 (.pure (.ret (ii r))) (.head (stk U9 0) [(1,.ref 0 0),(3,.bool b),(4,ii i)] [.cells 26 c.cs]):=by
 have g:(nav c.ns).length=c.ns.length:=by simp
 have h1:=f.ns;intro m;induction m with
 | zero=>
  intro i b j a;rw [Ah o_] at a;have ao:=B5 c f r c.hs.length 0 b o_ (by rw [<-a];show _=if ((b&&true)&&_)=true then (0:Int) else 2;rw [Hz];rfl)
  cases b with
  | false=>
   refine gV ?_;exact zW
  | true=>
   refine gV ?_;exact zW
 | succ m h=>
  intro i b j a;cases b with
  | false=>
   have ao:=B5 c f r c.hs.length 0 false o_ (by rw [<-a];rfl)
   refine gV ?_;exact zW
  | true=>
   have d:i<c.ns.length:=o_;rw [Ae d] at a;have get:=kL d;generalize c.ns[i]=x at a get;have e:=aBe c i o_ x get;have ao:=h (i+1) (nP (bB c.ns (i:Int)) i x) o_ a
   generalize nP (bB c.ns (i:Int)) i x=q at e ao
   refine gV ?_;exact zW
def MG (ns:List Nod):∀ (l:List Nod) (i:Nat),CJ ns i l=jY ns i l
 | [],_=>rfl
 | x::r,i=>by unfold CJ jY;rw [MG ns r (i+1),aI8];cases nP (bB ns (i:Int)) i x<;>rfl
def WT (c:Con):Bool:=fY c.ns.length 1 12&&(fY c.hs.length 1 24&&(fY c.half 1 1048576&&fY c.age 0 1048576))
def KZ (c:Con):WT c=true↔zR c:=by unfold WT zR;simp only [Ad,fX];omega
def Y4 (c:Con):(if ((WT c&&CJ c.ns 0 (c.ns.drop 0))&&c.hs.all lF)=true then (0:Int) else 2)=bT c:=by
 unfold bT;rw [Ci,MG];cases hs:WT c with
 | false=>
  rw [if_neg (c:=zR c) (λ q=>by rw [(KZ c).2 q] at hs;cases hs)];rfl
 | true=>
  rw [if_pos (c:=zR c) ((KZ c).1 hs)];cases jY c.ns 0 c.ns<;>cases c.hs.all lF<;>rfl
set_option maxHeartbeats 2000000 in
def rV (c:Con) (j:c.sm):ar 144 [c.av] [] (.ret (ii (bT c))) []:=by
 have b:(nav c.ns).length=c.ns.length:=by simp
 have a:(hav c.hs).length=c.hs.length:=by simp
 have h:=PY c j (bT c) c.ns.length 0 (WT c) o_ (Y4 c);have d:=iK ((nav c.ns).length:Nat) 1 12;have i:=iK ((hav c.hs).length:Nat) 1 24;have k:=iK c.half 1 1048576;have e:=iK c.age 0 1048576;unfold WT at h;rw [<-b,<-a] at h;generalize fY ((nav c.ns).length:Nat) 1 12=q1 at d h;generalize fY ((hav c.hs).length:Nat) 1 24=q2 at i h;generalize fY c.half 1 1048576=q3 at k h;generalize fY c.age 0 1048576=q4 at e h;generalize bT c=r at h;cases q1<;>cases q2<;>cases q3<;>cases q4
 all_goals
  exact c_ Tryz.f144 λ_=>zW
def aKL (g:Gan):Bool:=fY g.id 1 1073741824&&(fY g.pods 1 16&&(bI g.need&&(fY g.run 1 1048576&&(fY g.lev 0 3&&fY g.pref 0 g.lev))))
def aHK (g:Gan):aKL g=JX g:=by
 rw [Hx];unfold aKL JX;simp only [Ad,fX,decide_eq_true_eq];constructor
 .rintro ⟨a,b,c,d,e,f⟩;exact ⟨⟨a.1,a.2,b.1,b.2⟩,c,d.1,d.2,e.1,e.2,f.1,f.2⟩
 .rintro ⟨⟨a,b,c,d⟩,v,e,f,h,i,j,k⟩;exact ⟨⟨a,b⟩,⟨c,d⟩,v,⟨e,f⟩,⟨h,i⟩,j,k⟩
def K4 (c:Con) (g:Gan):ar 204 [c.av,g.av] [] (.ret (ii (eM c g))) []:=by
 have b:=uT g.id 1 1073741824;have i:=uT g.pods 1 16;have j:=eG g.need;have d:=uT g.run 1 1048576;have a:=uT g.lev 0 3;have e:=uT g.pref 0 g.lev;have h:=jF c g.ten;unfold eM;rw [<-aHK];unfold aKL;generalize fY g.id 1 1073741824=q1 at b;generalize fY g.pods 1 16=q2 at i;generalize bI g.need=q3 at j;generalize fY g.run 1 1048576=q4 at d;generalize fY g.lev 0 3=q5 at a;generalize fY g.pref 0 g.lev=q6 at e;generalize bB c.ns g.ten=q7 at h;cases q1 with
 | false=>
  exact zqca12
 | true=>
  cases q2 with
  | false=>
   exact zqca12
  | true=>
   cases q3 with
   | false=>
    exact zqca12
   | true=>
    cases q4 with
    | false=>
     exact zqca12
    | true=>
     cases q5 with
     | false=>
      exact zqca12
     | true=>
      cases q6 with
      | false=>
       exact zqca12
      | true=>
       cases q7 with
       | false=>
        exact zqca12
       | true=>
        exact zqca12
def QY (c:Con):Bool:=C8.eqL Nod.eqb c.ns []&&(C8.eqL Hos.eqb c.hs []&&(c.half==0&&c.age==0))
def YI (c:Con):QY c=fU c:=by obtain ⟨ns,hs,b,a⟩:=c;unfold QY fU;cases ns<;>cases hs<;>simp [C8.eqL]<;>rfl
def aHw:Con:=⟨[],[],0,0⟩
def aAv (c:Con):ar 61 [c.av,aHw.av] [] (.ret (.bool (fU c))) []:=by
 have h1:=C8.eqN_ok c.ns [];have b:=C8.eqH_ok c.hs [];rw [<-YI];unfold QY;generalize C8.eqL Nod.eqb c.ns []=q1 at h1;generalize C8.eqL Hos.eqb c.hs []=q2 at b
 obtain ⟨R,a⟩:∃ R:Bool,R=(q1&&(q2&&(c.half==0&&c.age==0))):=⟨_,rfl⟩
 rw [<-a];cases q1 with
 | false=>
  exact zqca42
 | true=>
  cases q2 with
  | false=>
   exact zqca42
  | true=>
   have a:R=(c.half==0&&c.age==0):=a;refine c_ Tryz.f61 λ_=>?_
   repeat' first | (refine gN hE ?_;conv=>whnf) | refine .pure _ [] h1 ?_ | refine .pure _ [] b ?_ | exact rfl | (refine zt ?_;try intro h) | refine zu (λ h=>?_) λ h=>?_ | fail
   all_goals (rw [a];simp_all [aHw])
def aCY (c:Con):ar 143 [c.av] [] (.ret (.bool (fU c))) []:=by have h:=aAv c;generalize fU c=q at h;exact c_ Tryz.f143 λ_=>zW
def I6 {α:Type} (p:α->Bool):List α->Int->Int
 | [],_=> -1
 | x::r,i=>if p x=true then i else I6 p r (i+1)
def C5 {α:Type} (p:α->Bool):∀ (l:List α) (i:Int),0<=i->decide (0<=I6 p l i)=l.any p
 | [],i,_=>rfl
 | x::r,i,h=>by
  unfold I6;rw [Hg];cases hp:p x with
  | true=>rw [if_pos rfl,decide_eq_true h];rfl
  | false=>rw [if_neg d_,C5 p r (i+1) o_];rfl
def QG (f:FuncId) (cap:List aa) (xs:List Int) (p:Int->Bool) (k:∀ x∈xs,aA Tryz.prog f [ii x,.ptr cap] [] (.ret (.bool (p x))) []) (hl:((iv xs).length:Int)<=9223372036854775807) (r:Int):
  ∀ (n i:Nat),i+n=xs.length->I6 p (xs.drop i) i=r->
  To E Tryz.f237 (.pure (.ret (.int .i64 r))) (.head (stk Tryz.f237 0) [(0,.slice 1 (iv xs) .no),(1,.func (.func f) [] [.ptr cap]),(7,.int .i64 ((iv xs).length:Nat)),(8,.int .i64 i)] []):=by
  have e:(iv xs).length=xs.length:=by simp
  intro n;induction n with
  | zero=>
   exact zqca33
  | succ n g=>
   intro i j a;have b:i<xs.length:=o_;refine gV ?_;refine aT λ h=>?_;refine gV ?_;refine ⟨i,rfl,?_⟩;refine gV ?_;refine ⟨_,fJ b,?_⟩;exact zqca22
def QI (f:FuncId) (cap:List aa) (xs:List (List Int)) (p:List Int->Bool) (k:∀ x∈xs,aA Tryz.prog f [.slice 1 (iv x) .no,.ptr cap] [] (.ret (.bool (p x))) []) (hl:((gav xs).length:Int)<=9223372036854775807) (r:Int):
  ∀ (n i:Nat),i+n=xs.length->I6 p (xs.drop i) i=r->
  To E Tryz.f302 (.pure (.ret (.int .i64 r))) (.head (stk Tryz.f302 0) [(0,.slice 1 (gav xs) .no),(1,.func (.func f) [] [.ptr cap]),(7,.int .i64 ((gav xs).length:Nat)),(8,.int .i64 i)] []):=by
  have e:(gav xs).length=xs.length:=by simp
  intro n;induction n with
  | zero=>
   exact zqca33
  | succ n g=>
   intro i j a;have b:i<xs.length:=o_;refine gV ?_;refine aT λ h=>?_;refine gV ?_;refine ⟨i,rfl,?_⟩;refine gV ?_;refine ⟨_,UT b,?_⟩;exact zqca22
def aDr (f:FuncId) (cap:List aa) (xs:List Int) (p:Int->Bool) (b:∀ x∈xs,aA Tryz.prog f [ii x,.ptr cap] [] (.ret (.bool (p x))) []):
  ar 286 [.slice 1 (iv xs) .no,.func (.func f) [] [.ptr cap]] [] (.ret (.bool (xs.any p))) []:=by
 have c:ar 237 [.slice 1 (iv xs) .no,.func (.func f) [] [.ptr cap]] [] (.ret (.int .i64 (I6 p xs 0))) []:=by refine c_ Tryz.f237 λ a=>?_;refine gV ?_;refine To.head [0,1,7,8] ?_;exact QG f cap xs p b a.1 _ xs.length 0 o_ s_
 rw [<-C5 p xs 0 (Dh _)];exact c_ Tryz.f286 λ_=>zW
def aDs (f:FuncId) (cap:List aa) (xs:List (List Int)) (p:List Int->Bool) (b:∀ x∈xs,aA Tryz.prog f [.slice 1 (iv x) .no,.ptr cap] [] (.ret (.bool (p x))) []):
  ar 284 [.slice 1 (gav xs) .no,.func (.func f) [] [.ptr cap]] [] (.ret (.bool (xs.any p))) []:=by
 have c:ar 302 [.slice 1 (gav xs) .no,.func (.func f) [] [.ptr cap]] [] (.ret (.int .i64 (I6 p xs 0))) []:=by refine c_ Tryz.f302 λ a=>?_;refine gV ?_;refine To.head [0,1,7,8] ?_;exact QI f cap xs p b a.1 _ xs.length 0 o_ s_
 rw [<-C5 p xs 0 (Dh _)];exact c_ Tryz.f284 λ_=>zW
def aHz (G:List Int) (a:G.length<=1048576) (h:Int):ar 287 [ii h,.ptr [.slice 1 (iv G) .no]] [] (.ret (.bool (!inB h G))) []:=by have b:=wP G a h;exact c_ Tryz.f287 λ_=>zW
def aKC (G l:List Int) (a:G.length<=1048576):ar 285 [.slice 1 (iv G) .no,.ptr [.slice 1 (iv l) .no]] [] (.ret (.bool (!(l.any λ h=>!inB h G)))) []:=by
 have b:=aDr 287 [.slice 1 (iv G) .no] l (λ h=>!inB h G) λ x _=>aHz G a x;refine c_ Tryz.f285 λ_=>?_;refine cO hE 10 ?_;conv=>whnf
 refine To.frz [2] [0] ?_;exact zW
def ZP {l:List V3} {u:Int} (a:0<=u) (h1:u<(l.length:Int)):(vav l)[u.toNat]? =some ((l[u.toNat]?).getD V3.zero).av:=by rw [Aa (show u.toNat<l.length by omega)];exact uJ o_
def aEj {c:Con} {l:List Rn} {n:Int} (h:c.ok n):(vav (ofL c l))[n.toNat]? =some (atV (ofL c l) n).av:=by
 obtain ⟨a,h1⟩:=h;have hl:(ofL c l).length=c.ns.length:=by unfold ofL lX;simp
 unfold atV;rw [if_neg q_];exact ZP a o_
def IW (k:List Int) (v:aa) (x:List Int):∀ (es:List (List Int×aa)),bR (lC es k v) x=if k=x then some v else bR es x
 | []=>rfl
 | (j,w)::r=>by
  show bR (if j=k then (k,v)::r else (j,w)::lC r k v) x=if k=x then some v else (if j=x then some w else bR r x)
  by_cases b:j=k
  .subst b;rw [if_pos rfl];show (if j=x then some v else bR r x)=_;by_cases a:j=x
   .rw [if_pos a,if_pos a]
   .rw [if_neg a,if_neg a,if_neg a]
  .rw [if_neg b];show (if j=x then some w else bR (lC r k v) x)=_;rw [IW k v x r];by_cases a:j=x
   .subst a;rw [if_pos rfl,if_neg (λ q=>b q.symm),if_pos rfl]
   .rw [if_neg a,if_neg a]
def aKS (es:List (List Int×aa)) (pre:List Int):Prop:=∀ h:Int,bR es [h]=if pre.count h=0 then none else some (ii ((pre.count h:Nat):Int))
def aBN {es:List (List Int×aa)} {pre:List Int} (hm:aKS es pre) (h v:Int) (b:v=((pre.count h:Nat):Int)+1):aKS (lC es [h] (ii v)) (pre++[h]):=λ x=>by
 rw [IW,Jh];by_cases a:h=x
 .subst a;rw [if_pos rfl,if_neg s_,b];simp
 .rw [if_neg (by simpa using a),hm x];have:[h].count x=0:=Le.2 (by simpa using λ q=>a q.symm);rw [this,Fl]
def plS (free:List V3) (need:V3) (n h:Int):Bool:=if decide (h<0)=true then false else if decide ((free.length:Int)<=h)=true then false else !decide (eD ((free[h.toNat]?).getD V3.zero) need<n)
def plB (free:List V3) (need:V3):List Int->List Int->Bool
 | _,[]=>true
 | pre,h::r=>plS free need (((pre.count h:Nat):Int)+1) h&&plB free need (pre++[h]) r
noncomputable abbrev aGM:Func:=Tryz.f265
def aCk (l:List Int) (G:List Int):Bool:=!(l.any λ h=>!inB h G)
abbrev plF (c:Con) (free:List V3) (g:Gan) (l:List Int) (i:Int):List (Nat×aa):=[(1,.slice 3 (vav free) .no),(4,.ptr c.cs),(6,.ptr g.cs),(7,.ptr [.slice 1 (iv l) .no]),(9,.mref 0),(18,.slice 1 (iv l) .no),(19,.int .i64 ((iv l).length:Nat)),(20,ii i)]
def aBi (c:Con) (F:c.sm) (free:List V3) (g:Gan) (l:List Int) (hl:l.length<=1048576) (A:Bool) (O:(gpL c g.lev).any (aCk l)=A) (r:Bool):∀ (m i:Nat) (es:List (List Int×aa)),i+m=l.length->aKS es (l.take i)->(plB free g.need (l.take i) (l.drop i)&&A)=r->
  To E aGM (.pure (.ret (.bool r))) (.head (stk aGM 0) (plF c free g l (i:Int)) [.mp false es]):=by
 have I:(iv l).length=l.length:=by simp
 have L:(vav free).length=free.length:=by simp
 intro m;induction m with
 | zero=>
  intro i es P hm b;rw [Ah o_] at b;have b:A=r:=b;subst b;have D:=aCm c g.lev;have N:=F.hs;have h1:=GD c F g.lev;have t:=aDs 285 [.slice 1 (iv l) .no] (gpL c g.lev) (aCk l) λ G J=>aKC G l (by have:=(D.2 G J).2.1;omega);rw [O] at t;generalize gpL c g.lev=gs at h1 t;refine gV ?_;exact zW
 | succ m y=>
  intro i es P hm b;have p:i<l.length:=o_;have C:l.take (i+1)=l.take i++[l[i]]:=by rw [Ll,Aa p];rfl
  rw [Ae p] at b;have get:=fJ p;have y:=λ es=>y (i+1) es o_;rw [C] at y;generalize l[i]=u0 at b get y;have s:((l.take i).count u0)<=1048576:=Cz Mx q_;have ao:=λ v (M:v=(((l.take i).count u0:Nat):Int)+1)=>y (lC es [u0] (ii v)) (aBN hm u0 v M)
  have x:=hm u0;have d:∀ v,bR (lC es [u0] v) [u0]=some v:=λ v=>by rw [IW,if_pos rfl]
  have b:((plS free g.need ((((l.take i).count u0:Nat):Int)+1) u0&&plB free g.need (l.take i++[u0]) (l.drop (i+1)))&&A)=r:=b;generalize plB free g.need (l.take i++[u0]) (l.drop (i+1))=B at b ao
  generalize (l.take i).count u0=k at s x b ao
  unfold plS at b;have go:∀ (w:Int),w=(k:Int)->(∃ o,bR es [u0]=o/\(o=none/\w=0\/o=some (ii w)))->To E aGM (.pure (.ret (.bool r))) (.head (stk aGM 0) (plF c free g l (i:Int)) [.mp false es]):=λ w K ⟨o,n,z⟩=>by
   have ao:=ao (w+1) o_
   rw [show ((k:Int)+1)=w+1 from by omega] at b;by_cases h1:u0<0
   .rw [decide_eq_true h1] at b;exact zqca0
   .rw [decide_eq_false h1,if_neg d_] at b;by_cases t:(free.length:Int)<=u0
    .rw [decide_eq_true t] at b;exact zqca0
    .rw [decide_eq_false t,if_neg d_] at b;have j:u0=(u0.toNat:Int):=o_;have e:=ZP (l:=free) (u:=u0) o_ o_;generalize (free[u0.toNat]?).getD V3.zero=fv at e b;have a:=TH fv g.need;generalize eD fv g.need=q at a b;by_cases h3:q<w+1
     .rw [decide_eq_true h3] at b;exact zqca0
     .rw [decide_eq_false h3] at b;have ao:=ao b
      rcases z with ⟨rfl,rfl⟩ | rfl
      .refine gV ?_;refine aT λ h=>?_
       repeat' first | (refine gN hE ?_;conv=>whnf) | refine ⟨i,rfl,?_⟩ | refine ⟨u0.toNat,j,?_⟩ | refine ⟨_,get,?_⟩ | refine ⟨_,e,?_⟩ | refine ⟨_,n,?_⟩ | refine Ao _ (Ac (d _) ?_) | refine .pure _ [] a ?_ | exact rfl | (refine zt ?_;try intro h) | refine zu (λ h=>?_) λ h=>?_ | fail
       exact To.cut [1,4,6,7,9,18,19,20] 1 rfl rfl rfl rfl ao
      .refine gV ?_;refine aT λ h=>?_
       repeat' first | (refine gN hE ?_;conv=>whnf) | refine ⟨i,rfl,?_⟩ | refine ⟨u0.toNat,j,?_⟩ | refine ⟨_,get,?_⟩ | refine ⟨_,e,?_⟩ | refine ⟨_,n,?_⟩ | refine Ao _ (Ac (d _) ?_) | refine .pure _ [] a ?_ | exact rfl | (refine zt ?_;try intro h) | refine zu (λ h=>?_) λ h=>?_ | fail
       exact To.cut [1,4,6,7,9,18,19,20] 1 rfl rfl rfl rfl ao
  by_cases H:k=0
  .rw [if_pos H] at x;exact go 0 o_ ⟨_,x,.inl ⟨rfl,rfl⟩⟩
  .rw [if_neg H] at x;exact go k rfl ⟨_,x,.inr rfl⟩
def IK {free:List V3} {need:V3} {n h:Int}:plS free need n h=true↔0<=h/\h<(free.length:Int)/\n<=eD ((free[h.toNat]?).getD V3.zero) need:=by
 unfold plS;by_cases h1:h<0
 .rw [if_pos (decide_eq_true h1)];constructor
  .intro q;cases q
  .intro q;omega
 .rw [if_neg (by rw [decide_eq_false h1];decide)];by_cases a:(free.length:Int)<=h
  .rw [if_pos (decide_eq_true a)];constructor
   .intro q;cases q
   .intro q;omega
  .rw [if_neg (by rw [decide_eq_false a];decide)];simp;omega
def TW {free:List V3} {need:V3}:∀ (l pre:List Int),plB free need pre l=true↔ ∀ u∈l,0<=u/\u<(free.length:Int)/\(((pre++l).count u:Nat):Int)<=eD ((free[u.toNat]?).getD V3.zero) need
 | [],pre=>by simp [plB]
 | h::r,pre=>by
  unfold plB;rw [Ad,IK,TW r (pre++[h]),Af];show _↔ ∀ u∈h::r,0<=u/\u<(free.length:Int)/\(((pre++h::r).count u:Nat):Int)<=eD ((free[u.toNat]?).getD V3.zero) need;have e:pre++([h]++r)=pre++h::r:=rfl;rw [e];constructor
  .rintro ⟨⟨a,b,c⟩,d⟩ u f;by_cases g:u∈r
   .exact d u g
   .rcases Bb.1 f with rfl | f
    .refine ⟨a,b,?_⟩;rw [Jh,Ik,Le.2 g];simpa using c
    .exact absurd f g
  .intro d;refine ⟨?_,λ u f=>d u (Bd _ f)⟩;obtain ⟨a,b,c⟩:=d h (Ap ..);refine ⟨a,b,?_⟩;rw [Jh,Ik] at c;omega
def GP {free:List V3} {need:V3} {hs:List Int}:DD free need hs=true↔ ∀ u∈hs,0<=u/\u<(free.length:Int)/\((hs.count u:Nat):Int)<=eD ((free[u.toNat]?).getD V3.zero) need:=by
 unfold DD;rw [Cq];have key:∀ u,aCG free need hs u=plS free need (AB u hs) u:=λ u=>rfl;constructor
 .intro q u a;have:=q u a;rw [key,IK] at this;have e:AB u hs=((hs.count u:Nat):Int):=by unfold AB;rw [xZ];omega
  rw [e] at this;exact this
 .intro q u a;rw [key,IK];have e:AB u hs=((hs.count u:Nat):Int):=by unfold AB;rw [xZ];omega
  rw [e];exact q u a
def aGs (l G:List Int):aCk l G=E4 G l:=by rw [Hx,uD];unfold aCk inB;simp [Fq]
def aKF (c:Con) (free:List V3) (g:Gan) (l:List Int) (hl:(l.length:Int)=g.pods):(plB free g.need [] l&&(gpL c g.lev).any (aCk l))=qA c free g l:=by
 unfold qA;rw [if_pos hl];have e:plB free g.need [] l=DD free g.need l:=by rw [Hx,TW,GP];rfl
 rw [e,Hx,Ad,Fq,Fq];unfold chkG;simp only [aGs,Ad];constructor
 .rintro ⟨a,G,b,d⟩;exact ⟨G,b,d,a⟩
 .rintro ⟨G,b,d,a⟩;exact ⟨a,G,b,d⟩
def aJn (c:Con) (i:c.sm) (free:List V3) (g:Gan) (l:List Int) (hl:l.length<=1048576):ar 265 [c.av,.slice 3 (vav free) .no,g.av,.slice 1 (iv l) .no] [] (.ret (.bool (qA c free g l))) []:=by
 have a:(iv l).length=l.length:=by simp
 by_cases h1:(l.length:Int)=g.pods
 .have b:=aBi c i free g l hl _ rfl (qA c free g l) l.length 0 [] o_ (λ h=>by simp [bR]) (aKF c free g l h1);have d:((((iv l).length:Nat):Int) !=g.pods)=false:=by rw [a];simp [h1]
  generalize qA c free g l=r at b;refine c_ Tryz.f265 λ_=>?_;refine cO hE 16 ?_;conv=>whnf
  refine To.frz [4,6,7] [0,1,2] ?_
  repeat' first | (refine gN hE ?_;conv=>whnf) | refine Ac (λ h=>absurd h (by rw [d];decide)) (λ h=>?_) | exact rfl | (refine zt ?_;try intro h) | refine zu (λ h=>?_) λ h=>?_ | fail
  refine To.part [1,4,6,7,9,18,19,20] [3] rfl rfl rfl ?_;exact b
 .have d:((((iv l).length:Nat):Int) !=g.pods)=true:=by rw [a];simp [h1]
  have e:qA c free g l=false:=if_neg h1;rw [e];refine c_ Tryz.f265 λ_=>?_;refine cO hE 16 ?_;conv=>whnf
  refine To.frz [4,6,7] [0,1,2] ?_;exact zW
abbrev itP (p:Pn):aa:=.iface 47 p.av
abbrev itR (r:Rn):aa:=.iface 107 r.av
abbrev aGe (l:List Pn):List aa:=l.map itP
abbrev XU (l:List Rn):List aa:=l.map itR
noncomputable abbrev U8:Func:=Tryz.f220
abbrev alO (s:Sta):List ab:=[.cells 31 s.cs,.tail 0 1 20]
def aHV (s:Sta) (j:s.run.length<=1000000) (l:List aa) (R:List aa):∀ (m i:Nat) (a:List aa),i+m=s.run.length->a.length<=1000000+i->a++XU (s.run.drop i)=R->
  To (Eo [3] []) U8 (.pure (.ret (.slice 1 R .no))) (.head (stk U8 1) [(1,.ref 0 0),(3,.slice 1 a (.own 1 0)),(22,.slice 14 (rav s.run) .no),(23,.int .i64 ((rav s.run).length:Nat)),(24,ii i)] (alO s)):=by
 have d:(rav s.run).length=s.run.length:=by simp
 intro m;induction m with
 | zero=>
  intro i a e f b;rw [Ah o_] at b;have b:a++[]=R:=b;rw [Av] at b;subst b;refine gV ?_;exact zW
 | succ m g=>
  intro i a e f b;have c:i<s.run.length:=o_;rw [Ae c] at b;have get:=dL c;generalize s.run[i]=x at b get;have ao:=g (i+1) (a++[itR x]) o_ q_ (by rw [Af];exact b)
  refine gV ?_;refine aT λ h=>?_
  repeat' first | (refine gN (hEo [3] []) ?_;conv=>whnf) | refine ⟨i,rfl,?_⟩ | refine ⟨_,get,?_⟩ | refine Ac (Ac (show a.length+1<=maxLen by simp only [maxLen];omega) (show (a.length+1)*16<=140737488355328 by omega)) ?_ | exact rfl | (refine zt ?_;try intro h) | refine zu (λ h=>?_) λ h=>?_ | fail
  exact zW
def aHW (s:Sta) (hp:s.pend.length<=1000000) (e:s.run.length<=1000000) (R:List aa):∀ (m i:Nat) (a:List aa),i+m=s.pend.length->a.length<=i->(a++aGe (s.pend.drop i))++XU s.run=R->
  To (Eo [3] []) U8 (.pure (.ret (.slice 1 R .no))) (.head (stk U8 0) [(1,.ref 0 0),(3,.slice 1 a (.own 1 0)),(9,.slice 11 (pnv s.pend) .no),(10,.int .i64 ((pnv s.pend).length:Nat)),(11,ii i)] (alO s)):=by
 have d:(pnv s.pend).length=s.pend.length:=by simp
 intro m;induction m with
 | zero=>
  intro i a f g b;rw [Ah o_] at b;have b:(a++[])++XU s.run=R:=b;rw [Av] at b;have ao:=aHV s e [] R s.run.length 0 a o_ o_ b
  refine gV ?_;exact zW
 | succ m j=>
  intro i a f g b;have c:i<s.pend.length:=o_;rw [Ae c] at b;have get:=IJ c;generalize s.pend[i]=x at b get;have ao:=j (i+1) (a++[itP x]) o_ q_ (by rw [Af a];exact b)
  refine gV ?_;refine aT λ h=>?_
  repeat' first | (refine gN (hEo [3] []) ?_;conv=>whnf) | refine ⟨i,rfl,?_⟩ | refine ⟨_,get,?_⟩ | refine Ac (Ac (show a.length+1<=maxLen by simp only [maxLen];omega) (show (a.length+1)*16<=140737488355328 by omega)) ?_ | exact rfl | (refine zt ?_;try intro h) | refine zu (λ h=>?_) λ h=>?_ | fail
  exact zW
def aEV (s:Sta) (hp:s.pend.length<=1000000) (a:s.run.length<=1000000):ar 220 [s.av] [] (.ret (.slice 1 (aGe s.pend++XU s.run) .no)) []:=by
 have ao:=aHW s hp a (aGe s.pend++XU s.run) s.pend.length 0 [] o_ s_ rfl
 refine cT (E:=(Eo [3] [])) (fn:=Tryz.f220) (g:=.pure _) λ_=>?_;exact zW
def SH (p:Pn):ar 221 [itP p] [] (.ret (.tup [p.av,.bool true])) []:=by exact c_ Tryz.f221 λ_=>zW
def SG (r:Rn):ar 221 [itR r] [] (.ret (.tup [r.pn.av,.bool true])) []:=by exact c_ Tryz.f221 λ_=>zW
def aIt (l:List Rn) (id:Int):aE l [id]=l.filter λ x=>!(x.g.id==id):=by unfold aE;congr 1;funext x;simp [inB]
def aCh {l:List Hos} {n:Int} (a:0<=n) (h1:n<(l.length:Int)):(hav l)[n.toNat]? =some (bH l n).av:=by have h:n.toNat<l.length:=o_;unfold bH;rw [Bf,Aa h];rfl
def Y3 {c:Con} {free:List V3} {g:Gan} {l:List Int} (e:free.length=c.hs.length) (hp:1<=g.pods) (h:qA c free g l=true):(iv l)[0]? =some (ii (l.headD 0))/\0<=l.headD 0/\l.headD 0<(c.hs.length:Int):=by
 unfold qA at h;by_cases hl:(l.length:Int)=g.pods
 .rw [if_pos hl] at h;cases l with
  | nil=>simp at hl;omega
  | cons u r=>
   rw [Fq] at h;obtain ⟨G,d,b⟩:=h;unfold chkG at b;rw [Ad] at b;have a:=GP.1 b.2 u (Ap ..);refine ⟨rfl,a.1,?_⟩;have:=a.2.1;show u<_;omega
 .rw [if_neg hl] at h;cases h
noncomputable abbrev aLY:Func:=Tryz.f222
def rnO (s:Sta) (r:Rn):List ab:=[.cells 31 s.cs,.cells 107 r.cs]
def aI7 (s:Sta) (r:Rn):List ab:=[.fcells s.cs,.fcells r.cs]
def aI6 (s:Sta) (r:Rn):aj [0,1] (rnO s r)=aI7 s r:=by kernel_rfl
def aE8 (s:Sta) (r:Rn):vZ [2,3] (aC (aI7 s r)) [(2,.ref 0 0),(3,.ref 1 0)]=[(2,.ptr s.cs),(3,.ptr r.cs)]:=by kernel_rfl
def TL {g:Goal} {ks:List KI} (s:Sta) (r:Rn) (h:To E aLY g (.code ks [(2,.ptr s.cs),(3,.ptr r.cs)] (aI7 s r))):To E aLY g (.code ks [(2,.ref 0 0),(3,.ref 1 0)] (rnO s r)):=by refine To.frz [2,3] [0,1] ?_;rw [aI6,aE8];exact h
def aAx (s:Sta) (r:Rn) (W:List Rn) (F:List V3) (m:Int) (k:Bool) (b:Bool)
  (h1:ar 58 [r.av] [] (.ret (ii m)) [])
  (a:ar 108 [.slice 14 (rav s.run) .no,.slice 1 (iv [r.g.id]) .no] [] (.ret (.slice 14 (rav W) .no)) [])
  (h3:ar 57 [s.c.av,.slice 14 (rav W) .no] [] (.ret (.slice 3 (vav F) .no)) [])
  (i:ar 265 [s.c.av,.slice 3 (vav F) .no,r.g.av,.slice 1 (iv r.hs) .no] [] (.ret (.bool k)) [])
  (n:k=true->(iv r.hs)[0]? =some (ii (r.hs.headD 0))/\0<=r.hs.headD 0/\(hav s.c.hs)[(r.hs.headD 0).toNat]? =some (bH s.c.hs (r.hs.headD 0)).av)
  (d:(decide ((r.at'<=r.st/\r.st<=s.now)/\s.now<m)&&(k&&decide ((bH s.c.hs (r.hs.headD 0)).f=r.fl)))=b):
  ar 222 [s.av,r.av] [] (.ret (.bool b)) []:=by
 have a:ar 108 [.slice 14 (rav s.run) .no,.slice 1 (iv [r.g.id]) .full] [] (.ret (.slice 14 (rav W) .no)) []:=aA.strip a;cases k with
 | true=>
  obtain ⟨l,j,e⟩:=n rfl;generalize r.hs.headD 0=u at l j e d;generalize bH s.c.hs u=y at e d;refine c_ Tryz.f222 λ_=>?_;refine cO hE 13 ?_;conv=>whnf
  refine To.cutC [2,3] 2 rfl rfl rfl rfl ?_;refine TL s r ?_
  repeat' first | (refine gN hE ?_;conv=>whnf) | refine .pure _ [] h1 ?_ | refine .pure _ [] a ?_ | refine .pure _ [] h3 ?_ | refine .pure _ [] i ?_ | refine ⟨0,rfl,?_⟩ | refine ⟨_,l,?_⟩ | refine Ao u.toNat (Ac (by simp only [Ky j]) ?_) | refine ⟨_,e,?_⟩ | exact rfl | (refine zt ?_;try intro h) | refine zu (λ h=>?_) λ h=>?_ | fail
  all_goals
   exact zqca21
 | false=>
  refine c_ Tryz.f222 λ_=>?_;refine cO hE 13 ?_;conv=>whnf
  refine To.cutC [2,3] 2 rfl rfl rfl rfl ?_;refine TL s r ?_
  repeat' first | (refine gN hE ?_;conv=>whnf) | refine .pure _ [] h1 ?_ | refine .pure _ [] a ?_ | refine .pure _ [] h3 ?_ | refine .pure _ [] i ?_ | exact rfl | (refine zt ?_;try intro h) | refine zu (λ h=>?_) λ h=>?_ | fail
  all_goals
   exact zqca21
def aEW (s:Sta) (b:s.c.sm) (hs:Sm s.run) (r:Rn) (hp:1<=r.g.pods) (i:r.hs.length<=1048576):ar 222 [s.av,r.av] [] (.ret (.bool (rnB s r))) []:=by
 have d:=oJ hs [r.g.id];have k:=oK s.run hs [r.g.id] s_;have h3:=UV s.c b (aE s.run [r.g.id]) d;have m:=wA s.c (aE s.run [r.g.id]);have l:=aJn s.c b (jR s.c (aE s.run [r.g.id])) r.g r.hs i;refine aAx s r _ _ _ _ _ (DM r) k h3 l (λ j=>?_) ?_
 .obtain ⟨e,a,h⟩:=Y3 m hp j;exact ⟨e,a,aCh a h⟩
 .rw [aIt];rfl
noncomputable abbrev pY:Func:=Tryz.f146
def aH1 (es:List (List Int×aa)) (l:List Int):Prop:=∀ h:Int,bR es [h]=if l.contains h=true then some (.bool true) else none
def MQ {es:List (List Int×aa)} {l:List Int} (hm:aH1 es l) (h:Int):aH1 (lC es [h] (.bool true)) (h::l):=λ x=>by
 rw [IW,List.contains_cons];by_cases a:h=x
 .subst a;simp
 .have b:(x==h)=false:=by simp;exact λ q=>a q.symm
  rw [if_neg (by simpa using a),hm x,b,Nf]
def ggO (s:Sta):List ab:=[.cells 31 s.cs]
def aJ0 (s:Sta):List ab:=[.fcells s.cs]
def aJZ (s:Sta):aj [0] (ggO s)=aJ0 s:=by kernel_rfl
def aGw (s:Sta):vZ [1] (aC (aJ0 s)) [(1,.ref 0 0)]=[(1,.ptr s.cs)]:=by kernel_rfl
def aGu {g:Goal} {ks:List KI} (s:Sta) (h:To (Er [] [64,65,66]) pY g (.code ks [(1,.ptr s.cs)] (aJ0 s))):To (Er [] [64,65,66]) pY g (.code ks [(1,.ref 0 0)] (ggO s)):=by refine To.frz [1] [0] ?_;rw [aJZ,aGw];exact h
abbrev ggF (s:Sta) (xs:List aa) (i:Int):List (Nat×aa):=[(1,.ptr s.cs),(3,.mref 0),(4,.mref 1),(14,.slice 1 xs .no),(15,.int .i64 (xs.length:Nat)),(16,ii i)]
def gbF (s:Sta) (xs:List aa) (i:Int) (x:aa):List (Nat×aa):=[(1,.ptr s.cs),(3,.mref 0),(4,.mref 1),(6,x),(7,.ref 2 0),(14,.slice 1 xs .no),(15,.int .i64 (xs.length:Nat)),(16,ii i)]
def aLK (s:Sta) (xs:List aa) (i:Int) (x:aa) (p:Pn):List (Nat×aa):=[(1,.ptr s.cs),(3,.mref 0),(4,.mref 1),(6,x),(7,.ptr p.cs),(14,.slice 1 xs .no),(15,.int .i64 (xs.length:Nat)),(16,ii i)]
abbrev Ent:Type:=List (List Int×aa)
def gbO (a b:Ent) (p:Pn):List ab:=[.mp false a,.mp false b,.cells 47 p.cs]
def aJ6 (a b:Ent) (p:Pn):List ab:=[.mp false a,.mp false b,.fcells p.cs]
def aJ5 (a b:Ent) (p:Pn):aj [2] (gbO a b p)=aJ6 a b p:=by kernel_rfl
def aGy (s:Sta) (xs:List aa) (i:Int) (x:aa) (b a:Ent) (p:Pn):vZ [7] (aC (aJ6 b a p)) (gbF s xs i x)=aLK s xs i x p:=by kernel_rfl
def sB {g:Goal} {ks:List KI} {s:Sta} {xs:List aa} {i:Int} {x:aa} {b a:Ent} (p:Pn) (h:To (Er [] [64,65,66]) pY g (.code ks (aLK s xs i x p) (aJ6 b a p))):To (Er [] [64,65,66]) pY g (.code ks (gbF s xs i x) (gbO b a p)):=by refine To.frz [7] [2] ?_;rw [aJ5,aGy];exact h
def gcB (s:Sta) (p:Pn) (b a:Bool) (G:Int) (N Q:Bool):Bool:=!b&&(!a&&(decide ((0<=p.seq/\p.seq<s.nxt)/\0<=p.at'/\p.at'<=s.now)&&(decide (G=0)&&(!N&&Q))))
def ggP (s:Sta) (xs:List aa) (l:xs.length<=1048576) (i:Nat) (t:i<xs.length) (p:Pn) (get:xs[i]? =some (itP p)) (j e:Ent) (k:bR j [p.g.id]=none) (o:bR e [p.seq]=none) (G:Int) (N b:Bool)
  (m:ar 204 [s.c.av,p.g.av] [] (.ret (ii G)) []) (n:G=0->ar 207 [s.c.av,p.g.av] [] (.ret (.bool N)) [])
  (d:gcB s p false false G N true=false->b=false)
  (a:gcB s p false false G N true=true->To (Er [] [64,65,66]) pY (.pure (.ret (.bool b))) (.head (stk pY 0) (ggF s xs ((i:Int)+1)) [.mp false (lC j [p.g.id] (.bool true)),.mp false (lC e [p.seq] (.bool true))])):
  To (Er [] [64,65,66]) pY (.pure (.ret (.bool b))) (.head (stk pY 0) (ggF s xs (i:Int)) [.mp false j,.mp false e]):=by
 have r:=SH p;cases N<;>skip
 all_goals
  refine gV ?_;refine aT λ h=>?_;refine gV ?_;refine ⟨i,rfl,?_⟩;refine gV ?_;refine ⟨_,get,?_⟩;refine gV ?_;refine .pure _ [] r ?_;refine cO (hEr [] [64,65,66]) 20 ?_;conv=>whnf
  refine To.cutC [1,3,4,6,7,14,15,16] 3 rfl rfl rfl rfl ?_;refine sB p ?_
  repeat' first | (refine gN (hEr [] [64,65,66]) ?_;conv=>whnf) | refine ⟨_,k,?_⟩ | refine ⟨_,o,?_⟩ | refine .pure _ [] m ?_ | refine .pure _ [] (n (by simpa using ‹(G !=0)=false›)) ?_ | exact rfl | (refine zt ?_;try intro h) | refine zu (λ h=>?_) λ h=>?_ | fail
  all_goals (try (
   refine congrArg (λ q=>Res.ret (aa.bool q)) (d ?_).symm;clear d a;simp only [decide_eq_true_eq,decide_eq_false_iff_not,bne_iff_ne,ne_eq,bne_eq_false_iff_eq,Fh] at *
   simp [gcB]
   try omega))
  all_goals
   exact zqca20
def ggR (s:Sta) (xs:List aa) (m:xs.length<=1048576) (i:Nat) (v:i<xs.length) (r:Rn) (p:Pn) (hp:r.pn=p) (get:xs[i]? =some (itR r)) (j e:Ent) (l:bR j [p.g.id]=none) (u:bR e [p.seq]=none) (G:Int) (N Q b:Bool)
  (n:ar 204 [s.c.av,p.g.av] [] (.ret (ii G)) []) (t:G=0->ar 207 [s.c.av,p.g.av] [] (.ret (.bool N)) [])
  (o:G=0->ar 222 [s.av,r.av] [] (.ret (.bool Q)) [])
  (d:gcB s p false false G N Q=false->b=false)
  (a:gcB s p false false G N Q=true->To (Er [] [64,65,66]) pY (.pure (.ret (.bool b))) (.head (stk pY 0) (ggF s xs ((i:Int)+1)) [.mp false (lC j [p.g.id] (.bool true)),.mp false (lC e [p.seq] (.bool true))])):
  To (Er [] [64,65,66]) pY (.pure (.ret (.bool b))) (.head (stk pY 0) (ggF s xs (i:Int)) [.mp false j,.mp false e]):=by
 have k:=SG r;rw [hp] at k;cases N<;>cases Q
 all_goals
  refine gV ?_;refine aT λ h=>?_;refine gV ?_;refine ⟨i,rfl,?_⟩;refine gV ?_;refine ⟨_,get,?_⟩;refine gV ?_;refine .pure _ [] k ?_;refine cO (hEr [] [64,65,66]) 20 ?_;conv=>whnf
  refine To.cutC [1,3,4,6,7,14,15,16] 3 rfl rfl rfl rfl ?_;refine sB p ?_
  repeat' first | (refine gN (hEr [] [64,65,66]) ?_;conv=>whnf) | refine ⟨_,l,?_⟩ | refine ⟨_,u,?_⟩ | refine .pure _ [] n ?_ | refine .pure _ [] (t (by simpa using ‹(G !=0)=false›)) ?_ | refine .pure _ [] (o (by simpa using ‹(G !=0)=false›)) ?_ | exact rfl | (refine zt ?_;try intro h) | refine zu (λ h=>?_) λ h=>?_ | fail
  all_goals (try (
   refine congrArg (λ q=>Res.ret (aa.bool q)) (d ?_).symm;clear d a;simp only [decide_eq_true_eq,decide_eq_false_iff_not,bne_iff_ne,ne_eq,bne_eq_false_iff_eq,Fh] at *
   simp [gcB]
   try omega))
  all_goals
   exact zqca20
def aLI (s:Sta) (xs:List aa) (e:xs.length<=1048576) (i:Nat) (j:i<xs.length) (p:Pn) (get:xs[i]? =some (itP p)) (a b:Ent) (m:bR a [p.g.id]=some (.bool true)\/bR a [p.g.id]=none/\bR b [p.seq]=some (.bool true)):
  To (Er [] [64,65,66]) pY (.pure (.ret (.bool false))) (.head (stk pY 0) (ggF s xs (i:Int)) [.mp false a,.mp false b]):=by
 have c:=SH p;rcases m with d | ⟨d,f⟩
 .exact zqca2
 .exact zqca2
def aLH (s:Sta) (xs:List aa) (e:xs.length<=1048576) (i:Nat) (j:i<xs.length) (r:Rn) (p:Pn) (hp:r.pn=p) (get:xs[i]? =some (itR r)) (a b:Ent) (m:bR a [p.g.id]=some (.bool true)\/bR a [p.g.id]=none/\bR b [p.seq]=some (.bool true)):
  To (Er [] [64,65,66]) pY (.pure (.ret (.bool false))) (.head (stk pY 0) (ggF s xs (i:Int)) [.mp false a,.mp false b]):=by
 have c:=SG r;rw [hp] at c;rcases m with d | ⟨d,f⟩
 .exact zqca2
 .exact zqca2
inductive It where
 | p (x:Pn)
 | r (x:Rn)
def It.av:It->aa
 | .p x=>itP x
 | .r x=>itR x
def It.pn:It->Pn
 | .p x=>x
 | .r x=>x.pn
def It.q (s:Sta):It->Bool
 | .p _=>true
 | .r x=>rnB s x
def It.sm:It->Prop
 | .p _=>True
 | .r x=>x.hs.length<=1048576
def gaB (s:Sta):List Int->List Int->List It->Bool
 | _,_,[]=>true
 | a,b,x::l=>gcB s x.pn (a.contains x.pn.g.id) (b.contains x.pn.seq) (eM s.c x.pn.g) (cK s.c [] x.pn.g).isNone (x.q s)&&gaB s (x.pn.g.id::a) (x.pn.seq::b) l
def tK {c:Con} {g:Gan} (h:eM c g=0):1<=g.pods/\g.pods<=16:=by obtain ⟨h1,_⟩:=nW.1 h;unfold JX at h1;rw [Ad] at h1;have:=of_decide_eq_true h1.1;omega
def aGv (s:Sta) (z:s.c.sm) (hs:Sm s.run) (l:List It) (hl:l.length<=1048576) (v:∀ x∈l,x.sm) (b:Bool):∀ (m i:Nat) (d a:Ent) (j f:List Int),i+m=l.length->aH1 d j->aH1 a f->gaB s j f (l.drop i)=b->
  To (Er [] [64,65,66]) pY (.pure (.ret (.bool b))) (.head (stk pY 0) (ggF s (l.map It.av) (i:Int)) [.mp false d,.mp false a]):=by
 have F:(l.map It.av).length=l.length:=by simp
 intro m;induction m with
 | zero=>
  intro i d a j f H h1 u e;rw [Ah o_] at e;have e:true=b:=e;subst e;refine gV ?_;exact zW
 | succ m w=>
  intro i d a j f H h1 u e;have n:i<l.length:=o_;rw [Ae n] at e;have get:(l.map It.av)[i]? =some (l[i].av):=by simp [n]
  have D:=v l[i] (Bh n);have w:=λ d a j f=>w (i+1) d a j f o_;generalize l[i]=x at e get D;have e:(gcB s x.pn (j.contains x.pn.g.id) (f.contains x.pn.seq) (eM s.c x.pn.g) (cK s.c [] x.pn.g).isNone (x.q s)&&gaB s (x.pn.g.id::j) (x.pn.seq::f) (l.drop (i+1)))=b:=e;have k:=h1 x.pn.g.id;have t:=u x.pn.seq;have ao:=w _ _ (x.pn.g.id::j) (x.pn.seq::f) (MQ h1 x.pn.g.id) (MQ u x.pn.seq)
  generalize gaB s (x.pn.g.id::j) (x.pn.seq::f) (l.drop (i+1))=R at e ao
  cases C:j.contains x.pn.g.id with
  | true=>
   rw [C] at e k;have e:false=b:=by rw [<-e];rfl
   subst e;cases x with
   | p x=>exact aLI s _ o_ i o_ x get d a (.inl k)
   | r x=>exact aLH s _ o_ i o_ x x.pn rfl get d a (.inl k)
  | false=>
   rw [C] at e k;cases B:f.contains x.pn.seq with
   | true=>
    rw [B] at e t;have e:false=b:=by rw [<-e];rfl
    subst e;cases x with
    | p x=>exact aLI s _ o_ i o_ x get d a (.inr ⟨k,t⟩)
    | r x=>exact aLH s _ o_ i o_ x x.pn rfl get d a (.inr ⟨k,t⟩)
   | false=>
    rw [B] at e t;have y:=K4 s.c x.pn.g;have A:=λ h:eM s.c x.pn.g=0=>MM s.c z x.pn.g (by have:=tK h;omega);cases x with
    | p x=>
     refine ggP s _ o_ i o_ x get d a k t _ _ b y A (λ o=>?_) (λ o=>?_)
     .exact e.symm.trans (congrArg (λ q:Bool=>q&&R) o)
     .exact ao ((congrArg (λ q:Bool=>q&&R) o).symm.trans e)
    | r x=>
     have G:=λ h:eM s.c x.pn.g=0=>aEW s z hs x (tK (g:=x.g) h).1 D;refine ggR s _ o_ i o_ x x.pn rfl get d a k t _ _ _ b y A G (λ o=>?_) (λ o=>?_)
     .exact e.symm.trans (congrArg (λ q:Bool=>q&&R) o)
     .exact ao ((congrArg (λ q:Bool=>q&&R) o).symm.trans e)
def pW (s:Sta):List It:=s.pend.map It.p++s.run.map It.r
def aJP (s:Sta):(pW s).map It.av=aGe s.pend++XU s.run:=by unfold pW;rw [Bm,Dx,Dx];rfl
def aCt (s:Sta) (i:s.c.sm) (hp:s.pend.length<=1000) (k:s.run.length<=1000) (hs:Sm s.run):ar 146 [s.av] [] (.ret (.bool (gaB s [] [] (pW s)))) []:=by
 have a:=aEV s o_ o_;rw [<-aJP] at a;have e:(pW s).length<=2000:=by unfold pW;simp;omega
 have ao:=aGv s i hs (pW s) o_ (λ x d=>by
  unfold pW at d;rw [Az,Ca,Ca] at d;rcases d with ⟨y,_,rfl⟩ | ⟨y,j,rfl⟩
  .trivial
  .exact hs.2 y j) _ (pW s).length 0 [] [] [] [] o_ (λ h=>rfl) (λ h=>rfl) rfl
 rw [Ci] at ao
 generalize (pW s).map It.av=xs at a ao
 generalize gaB s [] [] (pW s)=b at ao
 refine cT (E:=(Er [] [64,65,66])) (fn:=Tryz.f146) (g:=.pure _) λ_=>?_;refine cO (hEr [] [64,65,66]) 10 ?_;conv=>whnf
 refine To.cutC [1] 1 rfl rfl rfl rfl ?_;refine aGu s ?_
 repeat' first | (refine gN (hEr [] [64,65,66]) ?_;conv=>whnf) | refine .pure _ [] a ?_ | exact rfl | (refine zt ?_;try intro h) | refine zu (λ h=>?_) λ h=>?_ | fail
 refine To.part [1,3,4,14,15,16] [1,2] rfl rfl rfl ?_;exact ao
def aJ4 (s:Sta) (p:Pn) (q e d:Bool):gcB s p e d (eM s.c p.g) (cK s.c [] p.g).isNone q=(!e&&(!d&&(pnB s p&&q))):=by unfold gcB pnB;generalize decide (eM s.c p.g=0)=a;generalize (cK s.c [] p.g).isNone=b;generalize decide ((0<=p.seq/\p.seq<s.nxt)/\0<=p.at'/\p.at'<=s.now)=c;cases e<;>cases d<;>cases a<;>cases b<;>cases c<;>cases q<;>rfl
def UU (s:Sta):∀ (l:List It) (a b:List Int),gaB s a b l=true↔(∀ x∈l,(pnB s x.pn&&x.q s)=true)/\((l.map λ x=>x.pn.g.id).Nodup/\∀ x∈l,x.pn.g.id∉a)/\((l.map λ x=>x.pn.seq).Nodup/\∀ x∈l,x.pn.seq∉b)
 | [],a,b=>by simp [gaB]
 | x::r,a,b=>by
  unfold gaB;rw [aJ4,Ad,UU s r];simp only [Ad,Cx,List.contains_eq_mem,decide_eq_false_iff_not,Bl,Ce,Bb,forall_eq_or_imp,not_or,Ca,not_exists,not_and];constructor
  .rintro ⟨⟨h1,k,h3⟩,h,⟨j,f⟩,m,d⟩;exact ⟨⟨h3,h⟩,⟨⟨λ y c e=>(f y c).1 e,j⟩,h1,λ y c=>(f y c).2⟩,⟨λ y c e=>(d y c).1 e,m⟩,k,λ y c=>(d y c).2⟩
  .rintro ⟨⟨h3,h⟩,⟨⟨f,j⟩,h1,n⟩,⟨d,m⟩,k,i⟩;exact ⟨⟨h1,k,h3⟩,h,⟨j,λ y c=>⟨λ e=>f y c e,n y c⟩⟩,m,λ y c=>⟨λ e=>d y c e,i y c⟩⟩
def aJ7 (s:Sta):gaB s [] [] (pW s)=((s.pend.all (pnB s)&&s.run.all λ r=>pnB s r.pn&&rnB s r)&&(decide (ids s).Nodup&&decide (seqs s).Nodup)):=by
 rw [Hx,UU];have f:((pW s).map λ x=>x.pn.g.id)=ids s:=by unfold pW ids;rw [Bm,Dx,Dx];rfl
 have c:((pW s).map λ x=>x.pn.seq)=seqs s:=by unfold pW seqs;rw [Bm,Dx,Dx];rfl
 rw [f,c];simp only [Ju,not_false_eq_true,implies_true,and_true,Ad,decide_eq_true_eq,Cq];have d:(∀ x∈pW s,pnB s x.pn=true/\x.q s=true)↔(∀ x∈s.pend,pnB s x=true)/\∀ x∈s.run,pnB s x.pn=true/\rnB s x=true:=by
  unfold pW;constructor
  .intro h;exact ⟨λ x a=>(h (.p x) (Dd _ (Cm a))).1,λ x a=>h (.r x) (Cu _ (Cm a))⟩
  .rintro ⟨h1,e⟩ x a;rw [Az,Ca,Ca] at a;rcases a with ⟨y,b,rfl⟩ | ⟨y,b,rfl⟩
   .exact ⟨h1 y b,rfl⟩
   .exact e y b
 rw [d]
noncomputable abbrev aGL:Func:=Tryz.f147
def quO (s:Sta):List ab:=[.cells 31 s.cs]
def aJh (s:Sta):List ab:=[.fcells s.cs]
def aJg (s:Sta):aj [0] (quO s)=aJh s:=by kernel_rfl
def aFl (s:Sta):vZ [1] (aC (aJh s)) [(1,.ref 0 0)]=[(1,.ptr s.cs)]:=by kernel_rfl
def aFj {g:Goal} {ks:List KI} (s:Sta) (h:To E aGL g (.code ks [(1,.ptr s.cs)] (aJh s))):To E aGL g (.code ks [(1,.ref 0 0)] (quO s)):=by refine To.frz [1] [0] ?_;rw [aJg,aFl];exact h
def aFk (s:Sta) (g:s.c.sm) (U:List V3) (t:U.length=s.c.ns.length) (o:∀ i:Nat,i<U.length->(vav U)[i]? =some (atV U (i:Int)).av) (b:Bool):∀ (m i:Nat),i+m=U.length->((Il i m).all λ i:Nat=>cR (atV U (i:Int)) (pN s.c (i:Int)))=b->
  To E aGL (.pure (.ret (.bool b))) (.head (stk aGL 0) [(1,.ptr s.cs),(10,.slice 3 (vav U) .no),(11,.int .i64 ((vav U).length:Nat)),(12,ii (i:Int))] []):=by
 have j:(vav U).length=U.length:=by simp
 have h1:=g.ns;intro m;induction m with
 | zero=>
  intro i p a;have a:true=b:=a;subst a;refine gV ?_;exact zW
 | succ m r=>
  intro i p a;have f:i<U.length:=o_;have a:(cR (atV U (i:Int)) (pN s.c (i:Int))&&((Il (i+1) m).all λ i:Nat=>cR (atV U (i:Int)) (pN s.c (i:Int))))=b:=a;have ao:=r (i+1) o_
  generalize ((Il (i+1) m).all λ i:Nat=>cR (atV U (i:Int)) (pN s.c (i:Int)))=R at a ao
  have get:=o i f;have l:=vL (c:=s.c) (n:=(i:Int)) ⟨by omega,by omega⟩;have k:=aBy s.c g (i:Int);have hl:=jF s.c (i:Int);unfold pN at a;generalize atV U (i:Int)=u at a get;generalize cW s.c.ns (i:Int)=y at a l;generalize kS s.c.ns (i:Int) (pR s.c.ns)=v at a k;cases h:bB s.c.ns (i:Int) with
  | true=>
   rw [h] at a hl;have q:=iB v y.b;have a:(cR u (fO v y.b)&&R)=b:=a;generalize fO v y.b=w at q a;have d:=uF u w;cases e:cR u w with
   | true=>
    rw [e] at a d;have ao:=ao a
    refine gV ?_;exact zW
   | false=>
    exact zqca41
  | false=>
   rw [h] at a hl;have a:(cR u v&&R)=b:=a;have d:=uF u v;cases e:cR u v with
   | true=>
    rw [e] at a d;have ao:=ao a
    refine gV ?_;exact zW
   | false=>
    exact zqca41
def aBv (c:Con) (l:List Rn):(ofL c l).length=c.ns.length:=by unfold ofL lX;simp
def XB (s:Sta) (a:s.c.sm) (h:s.run.length<=1048576):ar 147 [s.av] [] (.ret (.bool (LQ s))) []:=by
 have d:=MD s.c a s.run h;have b:=aBv s.c s.run
 have ao:=aFk s a (ofL s.c s.run) b (λ i j=>by
  have:=aEj (c:=s.c) (l:=s.run) (n:=(i:Int)) ⟨by omega,by omega⟩;rw [Bt] at this
  exact this) _ (ofL s.c s.run).length 0 o_ rfl
 have e:((Il 0 (ofL s.c s.run).length).all λ i:Nat=>cR (atV (ofL s.c s.run) (i:Int)) (pN s.c (i:Int)))=LQ s:=by unfold LQ;rw [b,Im]
 rw [e] at ao
 generalize LQ s=q at ao
 generalize ofL s.c s.run=U at d ao
 refine c_ Tryz.f147 λ_=>?_;refine cO hE 10 ?_;conv=>whnf
 refine To.cutC [1] 1 rfl rfl rfl rfl ?_;refine aFj s ?_;exact zW
def CN (s:Sta):Prop:=(0<=s.now/\s.now<=1099511627776)/\(1<=s.nxt/\s.nxt<=1099511627776)/\s.hist.length=s.c.ns.length/\s.pend.length+s.run.length<=32
instance (s:Sta):Decidable (CN s):=by unfold CN;infer_instance
def PC (s:Sta) (e:Bool) (k:Int) (q g u:Bool) (b:Int)
  (i:ar 143 [s.c.av] [] (.ret (.bool e)) [])
  (m:ar 144 [s.c.av] [] (.ret (ii k)) [])
  (r:s.pend.length+s.run.length<=32->ar 145 [.slice 11 (pnv s.pend) .no] [] (.ret (.bool q)) [])
  (o:s.pend.length+s.run.length<=32->ar 146 [s.av] [] (.ret (.bool g)) [])
  (p:s.pend.length+s.run.length<=32->ar 147 [s.av] [] (.ret (.bool u)) [])
  (j:(if (((e||decide (k=0))&&decide (CN s))&&(q&&(g&&u)))=true then 0 else 1)=b):
  ar 84 [s.av] [] (.ret (ii b)) []:=by
 have v:(pnv s.pend).length=s.pend.length:=by simp
 have t:(rav s.run).length=s.run.length:=by simp
 have d:(fv s.hist).length=s.hist.length:=by simp
 have l:(nav s.c.ns).length=s.c.ns.length:=by simp
 refine c_ Tryz.f84 λ_=>?_
 repeat' first | (refine gN hE ?_;conv=>whnf) | refine Gd (Ac (Ac (by simp only [cJ,decide_eq_true_eq] at *;omega) (by simp only [bE,decide_eq_true_eq] at *;omega)) ?_) | refine .pure _ [] i ?_ | refine .pure _ [] m ?_ | refine .pure _ [] (r (by simp only [decide_eq_true_eq,decide_eq_false_iff_not,Cx,Jb] at *;omega)) ?_ | refine .pure _ [] (o (by simp only [decide_eq_true_eq,decide_eq_false_iff_not,Cx,Jb] at *;omega)) ?_ | refine .pure _ [] (p (by simp only [decide_eq_true_eq,decide_eq_false_iff_not,Cx,Jb] at *;omega)) ?_ | exact rfl | (refine zt ?_;try intro h) | refine zu (λ h=>?_) λ h=>?_ | fail
 all_goals
  subst j;refine congrArg (λ n=>Res.ret (aa.int .i64 n)) ?_;simp only [decide_eq_true_eq,decide_eq_false_iff_not,Cx,Jb,beq_iff_eq,beq_eq_false_iff_ne,ne_eq] at *
  first
  | (exfalso;omega)
  | (by_cases a:CN s
     .rw [decide_eq_true a];unfold CN at a
      first
      | (exfalso;omega)
      | simp [*]
     .rw [decide_eq_false a]
      first
      | (exfalso;unfold CN at a;omega)
      | simp)
def FI (s:Sta) (a:s.c.sm) (hs:Sm s.run):ar 84 [s.av] [] (.ret (ii (if lW s=true then 0 else 1))) []:=by
 refine PC s (fU s.c) (bT s.c) (aAI s.pend) (gaB s [] [] (pW s)) (LQ s) _ (aCY s.c) (rV s.c a) (λ h=>?_) (λ h=>aCt s a o_ o_ hs) (λ h=>XB s a o_) ?_
 .have:=Q2.check_ok (s.pend.map Pn.q) (by rw [Ch];omega);rw [yT] at this;exact this
 .rw [aJ7];unfold lW NB CN;congr 1;simp only [Ij]
end Go.Proofs.YtidhfoefaomodaaGreatDoor
namespace Go.Proofs.YtidhfoefaomodaaGreatDoor.C8
open Go Go.AW Go.Proofs Go.RowKit
set_option maxRecDepth 100000
set_option maxHeartbeats 2000000
abbrev tWr:TypeId:=173
def vQ:liesAt Tryz.prog Tryz.prog.depth tWr (2 / Tryz.prog.cellsOf tWr) 0 158 1=true:=by kernel_rfl
def uR:(Tryz.prog.info? 158).map (·.size)=some 2:=by kernel_rfl
def KM:Tryz.prog.underlying 156=some (.pointer 158):=by kernel_rfl
def KL:Tryz.prog.underlying 334=some .unsafePointer:=by kernel_rfl
def NP:Tryz.prog.funcs[225]? =some Tryz.f225:=by kernel_rfl
def fW (b:Nat) (w:World) (h:w.cell? ⟨b,0,none⟩=some (.pointer none)) (a:w.shape? b=some (tWr,2)) (g:w.frozen? ⟨b,0,none⟩=false):
  Calls Tryz.prog 151 #[.pointer (some ⟨b,0,none⟩)] w λ e w'=>e= .returned (.tuple #[])/\w'=w.setCell ⟨b,0,none⟩ (.pointer (some ⟨b,0,none⟩)):=by
 obtain ⟨j,d,c⟩:=Cd.1 uR
 go_enter Tryz.func151,Tryz.ntmps151
 go_wp2
 rw [Lib.run_to_unsafe w ⟨b,0,none⟩ KM KL d (by rw [c];decide) a (Lx 1)];simp only [Ef];rw [Oper.upon_value]
 go_wp2
 rw [run_callFunc_extern NP (by kernel_rfl) (by kernel_rfl) (by kernel_rfl) (e:=Extern.AbiNoEscape.same) (by kernel_rfl)];rw [Lib.run_noEscape];simp only [Ef];rw [Oper.upon_value]
 go_wp2
 rw [Lib.run_from_unsafe w ⟨b,0,none⟩ KL KM d a vQ];simp only [Ef];rw [Oper.upon_value]
 go_wp2
 go_end0;exact ⟨rfl,rfl⟩
def ZY:Tryz.prog.underlying 254=some (.pointer 5):=by kernel_rfl
def aDI:Tryz.prog.cellsOf 5=1:=by kernel_rfl
def nG (b g cap:Nat) (p:Value) (a:Array Value) (l:List UInt8) (w:World) (d:w.heap[b]? =some (.cells #[p,.slice (some ⟨g,0,none⟩) l.length cap] tWr (0,0))) (u:w.heap[g]? =some (.cells a 5 (0,0))) (n:l≠[])
  (o:l.length<=cap) (m:cap<=maxLen) (s:a.size=cap) (c:∀ (j:Nat) x,l[j]? =some x->w.cell? ⟨g,j,none⟩=some (.int .u8 x.toNat)):
  Calls Tryz.prog 90 #[.pointer (some ⟨b,0,none⟩)] w λ e w'=>e= .returned (.string ⟨l.toArray⟩)/\HL g l.length w w':=by
 have h:l.length≠0:=by simpa using n
 have y:w.drew.cell? ⟨b,1,none⟩=some (.slice (some ⟨g,0,none⟩) l.length cap):=by exact zqca32
 have r:(Iy #[132] 254 #[.slice (some ⟨g,0,none⟩) l.length cap]).run Tryz.prog w.drew= .ok (.pointer (some ⟨g,0,none⟩)) w.drew:=
  Lib.run_unsafeSliceData_row _ _ _ _ _ _ o_
 have q:(Js #[254,3] 9 #[.pointer (some ⟨g,0,none⟩),.int .i64 l.length]).run Tryz.prog w.drew= .ok (.string ⟨l.toArray⟩) (w.drew.freeze ⟨g,0,none⟩ l.length):=by exact zqca13
 have i:Tryz.prog.follows Departure.mixedOrders=true:=hE.mix
 go_enter Tryz.func90,Tryz.ntmps90
 go_wp2
 go_region_o
 all_goals (go_wp2;go_ret;exact ⟨rfl,QL h⟩)
def cc_fresh (s:aa):ar 151 [.ref 0 0] [.cells tWr [.nilptr,s]] (.ret (.tup [])) [.cells tWr [.ref 0 0,s]]:=
 mZ (λ_ _=>by rfl) fW s
def str_ok (l:List UInt8) (a:l≠[]) (p:aa):ar 90 [.ref 0 0] [.cells tWr [p,.slice 1 (l.map ub) (.own 1 0)],.tail 0 1 5] (.ret (.str l)) [.dead,.dead]:=
 lO (λ_ _=>by rfl) nG l a p
open Go Go.AW Go.Proofs
def aS:Nat->Nat->Nat->List UInt8->Option (Nat×Nat)
 | 0,_,_,_=>none
 | _+1,_,_,[]=>none
 | f+1,i,acc,c::r=>if c.toNat<128 then (if c.toNat=0/\0<i then none else some (acc+(c.toNat % 128)*2 ^ (7*i),i+1)) else aS f (i+1) (acc+(c.toNat % 128)*2 ^ (7*i)) r
def cV (l:List UInt8):Option (Nat×Nat):=aS 9 0 0 l
def aLJ:Option (Nat×Nat)->aa
 | some (n,k)=>.tup [.int .i64 n,.int .i64 k,.int .i64 0]
 | none=>.tup [.int .i64 0,.int .i64 0,.int .i64 10]
def putN (n:Nat):List UInt8:=if n<128 then [Dm n] else Dm (128+n % 128)::putN (n / 128)
termination_by n
decreasing_by omega
def iG:∀ (f i a:Nat) (l:List UInt8) (n k:Nat),i+f=9->a<2 ^ (7*i)->aS f i a l=some (n,k)->n<2 ^ 63/\i<k/\k<=9/\k<=i+l.length
 | 0,_,_,_,_,_,_,_,h=>by cases h
 | f+1,i,a,[],_,_,_,_,h=>by cases h
 | f+1,i,a,c::r,n,k,hi,ha,h=>by
  have b:a+(c.toNat % 128)*2 ^ (7*i)<2 ^ (7*(i+1)):=by
   have h3:c.toNat % 128<=127:=o_;have e:(c.toNat % 128)*2 ^ (7*i)<=127*2 ^ (7*i):=Bu _ h3;have d:2 ^ (7*(i+1))=128*2 ^ (7*i):=by rw [Gs,Fu];omega
   omega
  simp only [aS] at h;split at h
  .split at h
   .cases h
   .cases h;have:2 ^ (7*(i+1))<=2 ^ 63:=Ew d_ o_;simp only [Al];omega
  .have:=iG f (i+1) _ r n k o_ b h;simp only [Al];omega
def NE:∀ (f i a n:Nat) (s:List UInt8),i+f=9->n<2 ^ (7*f)->(0<i->0<n)->aS f i a (putN n++s)=some (a+n*2 ^ (7*i),i+(putN n).length)
 | 0,i,a,n,s,_,hn,h0=>by simp at hn;omega
 | f+1,i,a,n,s,hi,hn,h0=>by
  have g:2 ^ (7*(f+1))=128*2 ^ (7*f):=by rw [Gs,Fu];omega
  have c:2 ^ (7*(i+1))=128*2 ^ (7*i):=by rw [Gs,Fu];omega
  rw [putN];by_cases h:n<128
  .have e:(Dm n).toNat=n:=by rw [Gw,Hj o_]
   rw [if_pos h];simp only [Cc,Bn,aS,e,if_pos h,Hj h];rw [if_neg o_];simp
  .have e:(Dm (128+n % 128)).toNat=128+n % 128:=by rw [Gw,Hj o_]
   rw [if_neg h];simp only [Cc,aS,e];rw [if_neg o_,NE f (i+1) _ (n / 128) s o_ o_ (λ_=>by omega)];have b:(128+n % 128) % 128=n % 128:=o_;rw [b,c];have d:n*2 ^ (7*i)=(n % 128)*2 ^ (7*i)+n / 128*(128*2 ^ (7*i)):=by rw [<-Iz,<-Bx];congr 1;omega
   simp only [Al,Ds,Ke];omega
def US {l:List UInt8} {n k:Nat} (h:cV l=some (n,k)):n<2 ^ 63/\0<k/\k<=9/\k<=l.length:=by have:=iG 9 0 0 l n k rfl d_ h;omega
def leN:List UInt8->Nat
 | []=>0
 | c::r=>c.toNat+256*leN r
def I0:∀ (l:List UInt8),leN l<2 ^ (8*l.length)
 | []=>by simp [leN]
 | c::r=>by have:=I0 r;have h:=c.toNat_lt;simp only [leN,Al,Gs,Fu];omega
def qT:∀ (l:List UInt8) (c:UInt8),leN (l++[c])=leN l+c.toNat*2 ^ (8*l.length)
 | [],c=>by simp [leN]
 | d::r,c=>by
  simp only [Cc,leN,qT r c,Al,Gs,Fu];have:c.toNat*(2 ^ (8*r.length)*2 ^ (8*1))=256*(c.toNat*2 ^ (8*r.length)):=by rw [<-Iz,De]
  omega
def E9 {l:List UInt8} {i:Nat} {c:UInt8} (h:l[i]? =some c):l.take (i+1)=l.take i++[c]:=by rw [Ll,h];rfl
def LT (n:Nat):∀ b,n<2 ^ (7*b)->(putN n).length<=b+1:=by
 induction n using Hy with
 | ind n c=>
  intro b a;rw [putN];split
  .simp
  .rename_i h;cases b with
   | zero=>simp at a;omega
   | succ b=>
    have:=c (n / 128) o_ b (by rw [Gs,Fu] at a;omega);simp only [Al];omega
def aCq (n:Nat) (s:List UInt8) (a:n<2 ^ 63):cV (putN n++s)=some (n,(putN n).length):=by have:=NE 9 0 0 n s rfl o_ (λ h=>by omega);simpa [cV] using this
set_option maxRecDepth 10000
def aBa (n:Nat):∀ (a:List UInt8),a.length+(putN n).length<=100->(n:Int)<=9223372036854775807->
  To (Eo [3] []) Tryz.f150 (.pure (.ret (.str (a++putN n)))) (.head (stk Tryz.f150 0) [(0,.int .i64 n),(3,.slice 1 (a.map ub) (.own 0 0))] [.tail 0 1 5]):=by
 induction n using Hy with
 | ind n g=>
  intro a c j;have i:(n:Int).fdiv (2 ^ Dq 7)=((n / 128:Nat):Int):=by rw [Ea _ d_];simp
  have d:=HM n;have hp:1<=(putN n).length:=by rw [putN];split<;>simp
  have hl:(a.map ub).length=a.length:=by simp
  refine gV ?_;refine ⟨λ h=>?_,λ h=>?_⟩
  .have h:127<n:=by have:=of_decide_eq_true h;omega
   have e:dF .or .u8 ((n % 256:Nat):Int) 128=((128+n % 128:Nat):Int):=by have:=nZ .u8 (n % 256) 128 (by simp only [bE];omega) d_;rw [aJu ⟨n % 256,by omega⟩] at this;simp only at this;rw [show n % 256 % 128=n % 128 from by omega] at this;exact this
   have b:putN n=Dm (128+n % 128)::putN (n / 128):=by rw [putN,if_neg o_]
   refine gV ?_;refine .inr ?_;refine gV ?_;refine ⟨⟨by simp only [maxLen];simp;omega,by simp;omega⟩,?_⟩;refine gV ?_;refine ⟨⟨by decide,by decide⟩,?_⟩;refine gV ?_;rw [i,d,e];refine To.part [0,3] [0] rfl rfl rfl ?_;have:=g (n / 128) o_ (a++[Dm (128+n % 128)]) (by rw [b] at c;simp at c⊢;omega) o_;rw [b];rw [Af,Bm,Bl,KK o_] at this;exact this
  .have h:¬ 127<n:=by have:=of_decide_eq_false h;omega
   have b:putN n=[Dm n]:=by rw [putN,if_pos o_]
   refine gV ?_;refine .inr ?_;refine gV ?_;refine ⟨⟨by simp only [maxLen];simp;omega,by simp;omega⟩,?_⟩;refine gV ?_;refine ⟨a++[Dm n],?_,by simp;omega,?_⟩
   .rw [d,Hj o_,<-KK o_,Bm];rfl
   refine gV ?_;rw [b]
def put_ok (n:Int):ar 150 [.int .i64 n] [] (.ret (.str (putN n.toNat))) []:=by refine cT (E:=(Eo [3] [])) (fn:=Tryz.f150) (g:=.pure _) λ a=>?_;have b:n<=9223372036854775807:=a.1.2;have:=LT n.toNat 9 o_;have e:max n 0=(n.toNat:Int):=o_;refine gV ?_;rw [e];refine To.head [0,3] ?_;exact aBa n.toNat [] (by simpa using (by omega:(putN n.toNat).length<=100)) o_
def pl:List Int->List UInt8
 | []=>[]
 | n::r=>putN n.toNat++pl r
def pl_append (a b:List Int):pl (a++b)=pl a++pl b:=by
 induction a with
 | nil=>rfl
 | cons n r c=>simp [pl,c]
def pn_len {n:Int} (h:n<=9223372036854775807):(putN n.toNat).length<=10:=by have:=LT n.toNat 9 o_;omega
def pl_len:∀ {l:List Int},(∀ n∈l,n<=9223372036854775807)->(pl l).length<=10*l.length
 | [],_=>by simp [pl]
 | n::r,h=>by have h1:=pn_len (h n s_);have a:=pl_len (l:=r) λ m hm=>h m (by simp [hm]);simp only [pl,Ai,Al];omega
def aJQ {n:Int} (h:nV n=true):0<=n/\n<=1099511627776:=by simpa [nV] using h
def okI_b:∀ {l:List Int},okI l=true->∀ n∈l,0<=n/\n<=1099511627776
 | [],_,n,a=>by cases a
 | x::r,h,n,a=>by
  simp only [okI,Ad] at h;rcases Bb.1 a with rfl | a
  .exact aJQ h.1
  .exact okI_b h.2 n a
def _root_.Go.Proofs.YtidhfoefaomodaaGreatDoor.Gan.il (g:Gan):List Int:=[g.id,g.ten,g.pods,g.need.a,g.need.b,g.need.c,g.run,g.lev,g.pref]
def _root_.Go.Proofs.YtidhfoefaomodaaGreatDoor.Nod.il (x:Nod):List Int:=[x.p+1,x.w,x.n.a,x.n.b,x.n.c,x.b.a,x.b.b,x.b.c,x.l.a,x.l.b,x.l.c]
def _root_.Go.Proofs.YtidhfoefaomodaaGreatDoor.Hos.il (x:Hos):List Int:=[x.f,x.b,x.r,x.c.a,x.c.b,x.c.c]
def nodL:List Nod->List Int
 | []=>[]
 | x::r=>x.il++nodL r
def hosL:List Hos->List Int
 | []=>[]
 | x::r=>x.il++hosL r
def _root_.Go.Proofs.YtidhfoefaomodaaGreatDoor.Con.il (c:Con):List Int:=[((nav c.ns).length:Int)]++nodL c.ns++([((hav c.hs).length:Int)]++hosL c.hs++[c.half,c.age])
def _root_.Go.Proofs.YtidhfoefaomodaaGreatDoor.Cmd.il (x:Cmd):List Int:=x.k::(if x.k==1 then x.c.il else if x.k==2 then x.g.il else if x.k==6 then [] else [x.n])
def ZR {v:V3} (h:okI v.l=true):(0<=v.a/\v.a<=1099511627776)/\(0<=v.b/\v.b<=1099511627776)/\(0<=v.c/\v.c<=1099511627776):=
 ⟨okI_b h _ (by simp [V3.l]),okI_b h _ (by simp [V3.l]),okI_b h _ (by simp [V3.l])⟩
abbrev wrO (bs:List UInt8) (g:Nat):List ab:=[.cells tWr [.ref 0 0,.slice 1 (bs.map ub) (.own 1 g)],.tail g 1 5]
def JT (xs:List aa):ar 151 [.ref 0 0] [.cells tWr [.ref 0 0,.slice 1 xs (.own 1 0)],.tail 0 1 5] (.ret (.tup [])) [.cells tWr [.ref 0 0,.slice 1 xs (.own 1 0)],.tail 0 1 5]:=by
 refine cT (E:=E) (fn:=Tryz.f151) (g:=.full 2 _ _) λ_=>?_
 repeat' first | (refine gN hE ?_;conv=>whnf) | exact rfl | (refine zt ?_;try intro h) | refine zu (λ h=>?_) λ h=>?_ | fail
 exact zx [0,1]
def tZ (s:List UInt8) (hs:s.length<=1000):ar 87 [.ref 0 0,.str s] [.cells tWr [.nilptr,.slice 1 [] .nil]] (.ret (.tup [ii s.length,.nilif])) (wrO s 0):=by exact zqca11
def ws_ok (bs s:List UInt8) (hs:bs.length+s.length<=1000000):ar 87 [.ref 0 0,.str s] (wrO bs 0) (.ret (.tup [ii s.length,.nilif])) (wrO (bs++s) 1):=by exact zqca8
noncomputable abbrev NQ:Func:=Tryz.f95
def xE (l:List Int) (hl:((iv l).length:Int)<=9223372036854775807) (p:∀ n∈l,n<=9223372036854775807) (B:List UInt8) (m:Nat) (o:10*l.length<=1000):∀ (n i g:Nat) (bs:List UInt8),i+n=l.length->(g=0\/g=1)->(n=0->g=m)->(0<n->m=1)->bs.length+10*n<=100000->bs++pl (l.drop i)=B->
  To E NQ (.full 2 (.ret (.tup [])) (wrO B m)) (.head (stk NQ 0) [(0,.ref 0 0),(6,.slice 1 (iv l) .no),(7,.int .i64 ((iv l).length:Nat)),(8,.int .i64 i)] (wrO bs g)):=by
 have q:(iv l).length=l.length:=by simp
 intro n;induction n with
 | zero=>
  exact zqca10
 | succ n t=>
  intro i g bs r k _ f d a;have u:=f o_;subst u;have b:i<l.length:=o_;rw [Ae b] at a;have c:=p l[i] (Bh b);generalize s:l[i]=x at a c;have a:bs++(putN x.toNat++pl (l.drop (i+1)))=B:=a;rw [<-Af] at a;have get:(iv l)[i]? =some (ii x):=(fJ b).trans (by rw [s]);have hp:=pn_len c;refine gV ?_;refine aT λ h=>?_;refine gV ?_;refine ⟨i,rfl,?_⟩;refine gV ?_;refine ⟨_,get,?_⟩;refine gV ?_;refine .pure _ [] (put_ok x) ?_;exact zqca5
def nums_ok (l:List Int) (d:l≠[]) (e:∀ n∈l,n<=9223372036854775807) (b:l.length<=100) (bs:List UInt8) (c:bs.length+10*l.length<=100000):
  ar 95 [.ref 0 0,.slice 1 (iv l) .no] (wrO bs 0) (.ret (.tup [])) (wrO (bs++pl l) 1):=by
 have i:(iv l).length=l.length:=by simp
 have a:0<l.length:=Dy.2 d;refine cT (E:=E) (fn:=Tryz.f95) (g:=.full 2 _ _) λ_=>?_;exact zqca26
def nums_fresh (k:Int) (a:k<=9223372036854775807):ar 95 [.ref 0 0,.slice 1 [ii k] .no] [.cells tWr [.nilptr,.slice 1 [] .nil]] (.ret (.tup [])) (wrO (putN k.toNat) 0):=by have hp:=pn_len a;refine cT (E:=E) (fn:=Tryz.f95) (g:=.full 1 _ _) λ_=>?_;refine gV ?_;refine gV ?_;refine Ac (λ_=>?_) (λ h=>absurd (of_decide_eq_false h) s_);refine gV ?_;refine ⟨0,rfl,?_⟩;refine gV ?_;refine ⟨_,rfl,?_⟩;refine gV ?_;refine .pure _ [] (put_ok k) ?_;refine gV ?_;refine .sole rfl (.eff [] [0] _ _ rfl (tZ _ o_) ?_);exact zqca6
def v3_m {v:V3} (h:okI v.l=true):∀ n∈v.l,n<=9223372036854775807:=λ n a=>by have:=okI_b h n a;omega
def l3_m {a b c:Int} (h:okI [a,b,c]=true):∀ n∈[a,b,c],n<=9223372036854775807:=λ n d=>by have:=okI_b h n d;omega
def rL (v:V3) (h:okI v.l=true) (bs:List UInt8) (a:bs.length<=90000):ar 159 [.ref 0 0,.agg v.cs] (wrO bs 0) (.ret (.tup [])) (wrO (bs++pl v.l) 1):=by refine cT (E:=E) (fn:=Tryz.f159) (g:=.full 2 _ _) λ_=>?_;refine gV ?_;refine ⟨by decide,?_⟩;refine gV ?_;refine .eff [2] [0,1] _ _ rfl (aA.strip (nums_ok v.l (by simp [V3.l]) (v3_m h) (by simp [V3.l]) bs (by simp [V3.l];omega))) ?_;exact zqca29
def gan_b {g:Gan} (h:g.ok=true):okI [g.id,g.ten,g.pods]=true/\okI g.need.l=true/\okI [g.run,g.lev,g.pref]=true:=by simp only [Gan.ok,okI,Ad,Hz] at h⊢;obtain ⟨⟨h1,c,h3,e,a,b⟩,d⟩:=h;exact ⟨⟨h1,c,h3⟩,d,e,a,b⟩
def ZN (g:Gan) (h:g.ok=true) (bs:List UInt8) (b:bs.length<=80000):ar 97 [.ref 0 0,g.av] (wrO bs 0) (.ret (.tup [])) (wrO (bs++pl g.il) 1):=by
 obtain ⟨h1,a,h3⟩:=gan_b h;have l1:=pl_len (l3_m h1);have l2:=pl_len (v3_m a);have e:bs++pl g.il=((bs++pl [g.id,g.ten,g.pods])++pl g.need.l)++pl [g.run,g.lev,g.pref]:=by rw [Af,Af,<-pl_append,<-pl_append];rfl
 rw [e];simp only [V3.l,Al,Br] at l1 l2;refine cT (E:=E) (fn:=Tryz.f97) (g:=.full 2 _ _) λ_=>?_;refine gV ?_;refine .eff [] [0,1] _ _ rfl (aA.strip (nums_ok [g.id,g.ten,g.pods] s_ (l3_m h1) s_ bs q_)) ?_;refine gV ?_;refine .eff [] [0,1] _ _ rfl (rL g.need a _ q_) ?_;refine gV ?_;refine .eff [] [0,1] _ _ rfl (aA.strip (nums_ok [g.run,g.lev,g.pref] s_ (l3_m h3) s_ _ (by simp [V3.l];omega))) ?_;exact zqca29
noncomputable abbrev VB:Func:=Tryz.f96
def aBD {x:Nod} (h:x.ok=true):(-1<=x.p/\x.p<=1099511627776)/\(0<=x.w/\x.w<=1099511627776)/\okI x.n.l=true/\okI x.b.l=true/\okI x.l.l=true:=by simp only [Nod.ok,Ad,decide_eq_true_eq] at h;obtain ⟨⟨⟨⟨h1,c⟩,h3⟩,d⟩,a⟩:=h;exact ⟨h1,okI_b c _ s_,h3,d,a⟩
def aCi {x:Hos} (h:x.ok=true):okI [x.f,x.b,x.r]=true/\okI x.c.l=true:=by simpa only [Hos.ok,Ad] using h
def aHX {l:List Nod} (h:tX l=true):∀ (i:Nat) (a:i<l.length),l[i].ok=true:=by
 induction l with
 | nil=>intro i a;simp at a
 | cons x r b=>
  simp only [tX,Ad] at h;intro i a;cases i with
  | zero=>exact h.1
  | succ i=>exact b h.2 i (by simpa using a)
def aHY {l:List Hos} (h:qB l=true):∀ (i:Nat) (a:i<l.length),l[i].ok=true:=by
 induction l with
 | nil=>intro i a;simp at a
 | cons x r b=>
  simp only [qB,Ad] at h;intro i a;cases i with
  | zero=>exact h.1
  | succ i=>exact b h.2 i (by simpa using a)
def il_len (x:Nod) (h:x.ok=true):(pl x.il).length<=110:=by
 obtain ⟨h1,g,h3,c,b⟩:=aBD h
 have:=pl_len (l:=x.il) (λ n a=>by
  simp only [Nod.il,Bb,Ju,or_false] at a;have d:=ZR h3;have f:=ZR c;have e:=ZR b
  rcases a with rfl | rfl | rfl | rfl | rfl | rfl | rfl | rfl | rfl | rfl | rfl<;>omega)
 simpa [Nod.il] using this
def ih_len (x:Hos) (h:x.ok=true):(pl x.il).length<=60:=by
 obtain ⟨h1,d⟩:=aCi h
 have:=pl_len (l:=x.il) (λ n c=>by
  simp only [Hos.il,Bb,Ju,or_false] at c;have a:=okI_b h1;have i:=ZR d;have e:=a x.f s_;have g:=a x.b s_;have j:=a x.r s_
  rcases c with rfl | rfl | rfl | rfl | rfl | rfl<;>omega)
 simpa [Hos.il] using this
def V8 (c:Con) (v:((hav c.hs).length:Int)<=24) (m:qB c.hs=true) (p:okI [c.half,c.age]=true) (B:List UInt8):∀ (n i:Nat) (bs:List UInt8),i+n=c.hs.length->bs.length+60*n<=20000->bs++(pl (hosL (c.hs.drop i))++pl [c.half,c.age])=B->
  To E VB (.full 2 (.ret (.tup [])) (wrO B 1)) (.head (stk VB 1) [(0,.ref 0 0),(3,.ref 2 0),(49,.slice 6 (hav c.hs) .no),(50,.int .i64 ((hav c.hs).length:Nat)),(51,.int .i64 i)] (wrO bs 1++[.cells 26 c.cs])):=by
 have o:(hav c.hs).length=c.hs.length:=by simp
 have hm:∀ n∈[c.half,c.age],n<=9223372036854775807:=λ n k=>by have:=okI_b p n k;omega
 intro n;induction n with
 | zero=>
  intro i bs q g a;rw [Ah o_] at a;have a:bs++pl [c.half,c.age]=B:=a;subst a;refine gV ?_;refine aF λ h=>?_;refine gV ?_;refine .eff [] [0,1] _ _ rfl (aA.strip (nums_ok [c.half,c.age] s_ hm s_ bs q_)) ?_;exact zqca29
 | succ n u=>
  intro i bs q g a;have e:i<c.hs.length:=o_;rw [Ae e] at a;have d:=aHY m i e;generalize s:c.hs[i]=x at a d;have a:bs++(pl (x.il++hosL (c.hs.drop (i+1)))++pl [c.half,c.age])=B:=a;obtain ⟨h1,j⟩:=aCi d;have l1:=pl_len (l3_m h1);have l2:=pl_len (v3_m j);have w:=ih_len x d;simp only [V3.l,Al,Br] at l1 l2;have ex:bs++pl x.il=(bs++pl [x.f,x.b,x.r])++pl x.c.l:=by rw [Af,<-pl_append];rfl
  rw [pl_append,Af,<-Af,ex] at a;have get:(hav c.hs)[i]? =some x.av:=(vX e).trans (by rw [s]);refine gV ?_;refine aT λ h=>?_;refine gV ?_;refine ⟨i,rfl,?_⟩;refine gV ?_;refine ⟨_,get,?_⟩;refine gV ?_;refine .eff [] [0,1] _ _ rfl (aA.strip (nums_ok [x.f,x.b,x.r] s_ (l3_m h1) s_ bs q_)) ?_;refine gV ?_;refine .eff [] [0,1] _ _ rfl (rL x.c j _ q_) ?_;refine gV ?_;refine aJ ?_;refine gV ?_;refine To.part [0,3,49,50,51] [0,1,2] rfl rfl rfl ?_;exact u (i+1) _ o_ (by rw [<-ex];simp;omega) a
def V6 (c:Con) (g:((nav c.ns).length:Int)<=12) (v:((hav c.hs).length:Int)<=24) (k:tX c.ns=true) (r:qB c.hs=true) (u:okI [c.half,c.age]=true) (B:List UInt8):∀ (n i:Nat) (bs:List UInt8),i+n=c.ns.length->bs.length+110*n<=10000->
  bs++(pl (nodL (c.ns.drop i))++(pl [((hav c.hs).length:Int)]++(pl (hosL c.hs)++pl [c.half,c.age])))=B->
  To E VB (.full 2 (.ret (.tup [])) (wrO B 1)) (.head (stk VB 0) [(0,.ref 0 0),(3,.ref 2 0),(15,.slice 11 (nav c.ns) .no),(16,.int .i64 ((nav c.ns).length:Nat)),(17,.int .i64 i)] (wrO bs 1++[.cells 26 c.cs])):=by
 have s:(nav c.ns).length=c.ns.length:=by simp
 have q:(hav c.hs).length=c.hs.length:=by simp
 intro n;induction n with
 | zero=>
  intro i bs y j a;rw [Ah o_] at a;have a:bs++(pl [((hav c.hs).length:Int)]++(pl (hosL c.hs)++pl [c.half,c.age]))=B:=a;rw [<-Af] at a;have f:∀ n∈[((hav c.hs).length:Int)],n<=9223372036854775807:=λ n g=>by simp at g;omega
  have l1:=pl_len f;simp only [Al,Br] at l1;refine gV ?_;refine aF λ h=>?_;refine gV ?_;refine .eff [] [0,1] _ _ rfl (aA.strip (nums_ok [((hav c.hs).length:Int)] s_ f s_ bs q_)) ?_;refine gV ?_;refine To.part [0,3,49,50,51] [0,1,2] rfl rfl rfl ?_;exact V8 c v r u B c.hs.length 0 _ o_ (by simp only [Ai];omega) a
 | succ n D=>
  intro i bs y j a;have e:i<c.ns.length:=o_;rw [Ae e] at a;have d:=aHX k i e;generalize C:c.ns[i]=x at a d;have a:bs++(pl (x.il++nodL (c.ns.drop (i+1)))++_)=B:=a;obtain ⟨h1,F,h3,m,o⟩:=aBD d;have hm:∀ n∈[x.p+1,x.w],n<=9223372036854775807:=λ n g=>by simp at g;omega
  have l1:=pl_len hm;have l2:=pl_len (v3_m h3);have A:=pl_len (v3_m m);have z:=pl_len (v3_m o);have G:=il_len x d;simp only [V3.l,Al,Br] at l1 l2 A z;have ex:bs++pl x.il=(((bs++pl [x.p+1,x.w])++pl x.n.l)++pl x.b.l)++pl x.l.l:=by rw [Af,Af,Af,<-pl_append,<-pl_append,<-pl_append];rfl
  rw [pl_append,Af,<-Af,ex] at a;have get:(nav c.ns)[i]? =some x.av:=(kL e).trans (by rw [C]);refine gV ?_;refine aT λ h=>?_;refine gV ?_;refine ⟨i,rfl,?_⟩;refine gV ?_;refine ⟨_,get,?_⟩;refine gV ?_;refine aJ ?_;refine gV ?_;refine .eff [] [0,1] _ _ rfl (aA.strip (nums_ok [x.p+1,x.w] s_ hm s_ bs q_)) ?_;refine gV ?_;refine .eff [] [0,1] _ _ rfl (rL x.n h3 _ q_) ?_;refine gV ?_;refine .eff [] [0,1] _ _ rfl (rL x.b m _ (by simp [V3.l];omega)) ?_;refine gV ?_;refine .eff [] [0,1] _ _ rfl (rL x.l o _ (by simp [V3.l];omega)) ?_;refine gV ?_;refine aJ ?_;refine gV ?_;refine To.part [0,3,15,16,17] [0,1,2] rfl rfl rfl ?_;exact D (i+1) _ o_ (by rw [<-ex];simp;omega) a
def ZO (c:Con) (b:((nav c.ns).length:Int)<=12) (h:((hav c.hs).length:Int)<=24) (d:c.tok=true) (bs:List UInt8) (e:bs.length<=100):
  ar 96 [.ref 0 0,c.av] (wrO bs 0) (.ret (.tup [])) (wrO (bs++pl c.il) 1):=by
 have j:(nav c.ns).length=c.ns.length:=by simp
 simp only [Con.tok,Ad] at d;obtain ⟨⟨h1,i⟩,h3⟩:=d;have a:∀ n∈[((nav c.ns).length:Int)],n<=9223372036854775807:=λ n b=>by simp at b;omega
 have l1:=pl_len a;simp only [Al,Br] at l1;refine cT (E:=E) (fn:=Tryz.f96) (g:=.full 2 _ _) λ_=>?_;refine gV ?_;refine .eff [] [0,1] _ _ rfl (aA.strip (nums_ok [((nav c.ns).length:Int)] s_ a s_ bs q_)) ?_;refine gV ?_;refine To.part [0,3,15,16,17] [0,1,2] rfl rfl rfl ?_;exact V6 c b h h1 i h3 _ c.ns.length 0 _ o_ (by simp only [Ai];omega) (by simp only [Con.il,pl_append,Af,Ci])
structure Told (x:Cmd):Prop where
 k:1<=x.k/\x.k<=6
 c:x.k=1\/x.c.non=true
 g:x.k=2\/x.g.isZ=true
 n:(x.k=3\/x.k=4\/x.k=5)\/x.n=0
 cok:x.c.tok=true
 gok:x.g.ok=true
 nok:0<=x.n/\x.n<=1099511627776
 ln:((nav x.c.ns).length:Int)<=12
 lh:((hav x.c.hs).length:Int)<=24
def oZ {b:Bool} {y:Int} (h:(if b then y else 1)=0):b=true/\y=0:=by
 cases b with
 | true=>exact ⟨rfl,h⟩
 | false=>cases h
def chk_told {x:Cmd} (h:chk x=0):Told x:=by
 unfold chk at h;obtain ⟨h1,h⟩:=oZ h;unfold chk2 at h;obtain ⟨h2,h⟩:=oZ h;unfold chk3 at h;obtain ⟨h3,h⟩:=oZ h;unfold chk4 at h;obtain ⟨h4,h⟩:=oZ h;unfold chkC at h;obtain ⟨h5,h⟩:=oZ h;unfold chkG at h;obtain ⟨h6,h⟩:=oZ h;unfold chkN at h;obtain ⟨h7,h⟩:=oZ h;unfold chkL at h;simp only [Ad,Fc,decide_eq_true_eq,beq_iff_eq] at h1 h2 h3 h4;have h8:decide (((nav x.c.ns).length:Int)<=12)=true/\decide (((hav x.c.hs).length:Int)<=24)=true:=by
  split at h
  .rename_i hh;simpa using hh
  .cases h
 exact ⟨h1,h2,h3,by rcases h4 with ((h4 | h4) | h4) | h4
                    .exact .inl (.inl h4)
                    .exact .inl (.inr (.inl h4))
                    .exact .inl (.inr (.inr h4))
                    .exact .inr h4,h5,h6,okI_b h7 _ s_,of_decide_eq_true h8.1,of_decide_eq_true h8.2⟩
def encB (x:Cmd):List UInt8:=if chk x=0 then pl x.il else []
def pl_ne (k:Int) (r:List Int):pl (k::r)≠[]:=by
 have:1<=(putN k.toNat).length:=by rw [putN];split<;>simp
 intro h;have h1:(pl (k::r)).length=0:=by rw [h];rfl
 simp only [pl,Ai] at h1;omega
def il_cons (x:Cmd) (r:List Int) (h:(if x.k==1 then x.c.il else if x.k==2 then x.g.il else if x.k==6 then [] else [x.n])=r):putN x.k.toNat++pl r=pl x.il:=by subst h;rfl
def enc_ok (x:Cmd):ar 42 [x.av] [] (.ret (.tup [.str (encB x),ii (chk x)])) []:=by
 refine c_ Tryz.f42 λ_=>?_;refine gV ?_;refine .pure _ [] (check_ok x) ?_;refine gV ?_;refine ⟨λ h=>?_,λ h=>?_⟩
 .have h:(chk x !=0)=true:=h;have m:¬ chk x=0:=by simpa using h
  have e:encB x=[]:=if_neg m;rw [e];refine gW hE ?_;conv=>whnf
 .have h:(chk x !=0)=false:=h;have m:chk x=0:=by simpa using h
  have e:encB x=pl x.il:=if_pos m;rw [e,m];have T:=chk_told m;have o:x.k<=9223372036854775807:=by have:=T.k;omega
  have hp:=pn_len o;refine gV ?_;refine .eff [] [1] _ _ rfl (aA.strip (nums_fresh x.k o)) ?_;refine gV ?_;refine Ac (λ h1=>?_) (λ h1=>?_)
  .have h1:(x.k==1)=true:=h1;have il:=il_cons x x.c.il (by rw [h1];rfl);have a:putN x.k.toNat++pl x.c.il≠[]:=by rw [il];exact pl_ne _ _
   refine gV ?_;refine .eff [] [1,2] _ _ rfl (ZO x.c T.ln T.lh T.cok _ o_) ?_;exact zqca24
  .have h1:(x.k==1)=false:=h1;refine gV ?_;refine Ac (λ b=>?_) (λ b=>?_)
   .have b:(x.k==2)=true:=b;have il:=il_cons x x.g.il (by rw [h1,b];rfl);have a:putN x.k.toNat++pl x.g.il≠[]:=by rw [il];exact pl_ne _ _
    refine gV ?_;refine .eff [] [1,2] _ _ rfl (ZN x.g T.gok _ o_) ?_;exact zqca24
   .have b:(x.k==2)=false:=b;have l:∀ n∈[x.n],n<=9223372036854775807:=λ n l=>by have:=T.nok;simp at l;omega
    refine gV ?_;refine Ac (λ h3=>?_) (λ h3=>?_)
    .have h3:(x.k==3)=true:=h3;have i:(x.k==6)=false:=by have:=eq_of_beq h3;rw [this];rfl
     refine gV ?_;refine Ac (λ_=>?_) (λ h=>absurd (h3.symm.trans h) d_);exact zqca3
    .have h3:(x.k==3)=false:=h3;refine gV ?_;refine Ac (λ d=>?_) (λ d=>?_)
     .have d:(x.k==4)=true:=d;have i:(x.k==6)=false:=by have:=eq_of_beq d;rw [this];rfl
      refine gV ?_;refine Ac (λ_=>?_) (λ h=>absurd (d.symm.trans h) d_);exact zqca3
     .have d:(x.k==4)=false:=d;refine gV ?_;refine Ac (λ j=>?_) (λ j=>?_)
      .have j:(x.k==5)=true:=j;have i:(x.k==6)=false:=by have:=eq_of_beq j;rw [this];rfl
       exact zqca3
      .have j:(x.k==5)=false:=j;have i:(x.k==6)=true:=by have:=T.k;simp at h1 b h3 d j⊢;omega
       have il:=il_cons x [] (by rw [h1,b,i];rfl);rw [show putN x.k.toNat++pl []=putN x.k.toNat from Av _] at il;have a:putN x.k.toNat≠[]:=by rw [il];exact pl_ne _ _
       exact zqca24
def aCp (l:List UInt8):∀ (f i a:Nat) (rest:List UInt8),i+f=9->rest=l.drop i->i<=l.length->a<2 ^ (7*i)->
  To E Tryz.f160 (.pure (.ret (aLJ (aS f i a rest)))) (.head (stk Tryz.f160 0) [(0,.str l),(5,.int .i64 a),(10,.int .i64 (min (l.length:Int) 9)),(11,.int .i64 i)] []):=by
 intro f;induction f with
 | zero=>
  intro i a rest v g hl q;refine gV ?_;refine aF λ h=>?_;refine gV ?_;rfl
 | succ f x=>
  intro i a rest v g hl q;cases rest with
  | nil=>
   have t:l.length<=i:=by simpa using g.symm
   refine gV ?_;refine aF λ h=>?_;refine gV ?_;rfl
  | cons c r=>
   have o:l[i]? =some c:=by
    have:(l.drop i)[0]? =some c:=by rw [<-g];rfl
    simpa using this
   have s:i<l.length:=(Ab.1 o).1;have j:r=l.drop (i+1):=by rw [<-Hk,<-g];rfl
   have B:2 ^ (7*(i+1))=128*2 ^ (7*i):=by rw [Gs,Fu];omega
   have h3:c.toNat % 128<=127:=o_;have y:(c.toNat % 128)*2 ^ (7*i)<=127*2 ^ (7*i):=Bu _ h3;have z:2 ^ (7*(i+1))<=2 ^ 63:=Ew d_ o_;have w:c.toNat<256:=c.toNat_lt;have m:dF .and .u8 (c.toNat:Int) 127=((c.toNat % 128:Nat):Int):=by have:=xS .u8 c.toNat 127 (by simp only [bE];omega) d_;rw [show (127:Nat)=2 ^ 7-1 from rfl,aHU] at this;exact this
   have k:(7*(i:Int)).toNat=7*i:=o_;have n:((c.toNat % 128:Nat):Int)*2 ^ (7*i)=((c.toNat % 128*2 ^ (7*i):Nat):Int):=by simp
   have u:dF .or .i64 (a:Int) ((c.toNat % 128*2 ^ (7*i):Nat):Int)=((a+c.toNat % 128*2 ^ (7*i):Nat):Int):=by rw [nZ .i64 _ _ (by simp only [bE];omega) (by simp only [bE];omega),CC q]
   refine gV ?_;refine aT λ h=>?_;refine gV ?_;refine ⟨i,rfl,?_⟩;refine gV ?_;refine ⟨c,o,?_⟩;refine gV ?_;refine .inl ⟨by rw [m];exact rZ (by simp only [bE];omega),?_⟩;refine gV ?_;refine aJ ?_;refine gV ?_;refine ⟨by omega,?_⟩;refine gV ?_;refine .inl ⟨⟨by rw [k];simp only [IntKind.bits];omega,by rw [m,k,n];exact rZ (by simp only [bE];omega)⟩,?_⟩;refine gV ?_;rw [m,k,n,u];refine ⟨λ h=>?_,λ h=>?_⟩
   .have b:c.toNat<128:=by have:=of_decide_eq_true h;omega
    have p:¬ (c.toNat=0/\0<i)->aS (f+1) i a (c::r)=some (a+(c.toNat % 128)*2 ^ (7*i),i+1):=λ hz=>by rw [aS,if_pos b,if_neg hz]
    refine gV ?_;refine Ac (λ hz=>?_) (λ hz=>?_)
    .have hz:c.toNat=0:=by have hz:((c.toNat:Int)==0)=true:=hz;have:=eq_of_beq hz;omega
     refine gV ?_;refine Ac (λ d=>?_) (λ d=>?_)
     .have d:0<i:=by have:=of_decide_eq_true d;omega
      refine gV ?_;rw [aS,if_pos b,if_pos ⟨hz,d⟩];rfl
     .have d:¬ 0<i:=by have:=of_decide_eq_false d;omega
      rw [p o_];refine gV ?_;refine aJ ?_;refine gV ?_;rfl
    .have hz:¬ c.toNat=0:=by have hz:((c.toNat:Int)==0)=false:=hz;intro e;rw [e] at hz;cases hz
     rw [p o_];refine gV ?_;refine aN ?_;refine gV ?_;refine aJ ?_;refine gV ?_;rfl
   .have b:¬ c.toNat<128:=by have:=of_decide_eq_false h;omega
    rw [aS,if_neg b];refine gV ?_;refine aJ ?_;refine gV ?_;refine To.head [0,5,10,11] ?_;exact x (i+1) (a+(c.toNat % 128)*2 ^ (7*i)) r o_ j o_ o_
def aCo (l:List UInt8):ar 160 [.str l] [] (.ret (aLJ (cV l))) []:=by refine c_ Tryz.f160 λ_=>?_;refine gV ?_;refine To.head [0,5,10,11] ?_;exact aCp l 9 0 0 l rfl rfl (Bv _) d_
def aK {α:Type} {o:Option α} {C:Prop} (a:o=none->C) (h1:∀ x,o=some x->C):C:=by
 cases o with
 | none=>exact a rfl
 | some x=>exact h1 x rfl
abbrev tRd:TypeId:=170
abbrev rdO (s:List UInt8):List ab:=[.cells tRd [.str s]]
abbrev rdU:List ab:=[.cells tRd [.undef]]
def bL (s:List UInt8):Option (Int×List UInt8):=match cV s with
 | some (n,k)=>some ((n:Int),s.drop k)
 | none=>none
def oQ {α:Type} (av:α->aa):Option (α×List UInt8)->Res
 | some (a,_)=>.ret (av a)
 | none=>.pan (aW 10)
def xD {α:Type}:Option (α×List UInt8)->List ab
 | some (_,s)=>rdO s
 | none=>rdU
def bF {s s':List UInt8} {n:Int} (h:bL s=some (n,s')):ar 99 [.ref 0 0] (rdO s) (.ret (ii n)) (rdO s'):=by
 unfold bL at h;split at h
 .rename_i m k a;cases h;have b:=aCo s;rw [a] at b;have c:=US a;refine cT (E:=E) (fn:=Tryz.f99) (g:=.full 1 _ _) λ_=>?_;refine gV ?_;refine .pure _ [] b ?_;refine gV ?_;refine .pure _ [] (fN _ _ rfl) ?_;refine gV ?_;refine ⟨k,rfl,?_⟩;refine gV ?_;refine ⟨by omega,?_⟩;refine gV ?_;exact zx [0]
 .cases h
def bM {s:List UInt8} (h:bL s=none):ar 99 [.ref 0 0] (rdO s) (.pan (aW 10)) rdU:=by
 unfold bL at h;split at h
 .cases h
 .rename_i b;have a:=aCo s;rw [b] at a;refine aA.blur (ap:=rdO s) ?_;refine cT (E:=E) (fn:=Tryz.f99) (g:=.full 1 _ _) λ_=>?_;refine gV ?_;refine .pure _ [] a ?_;refine gV ?_;refine .pan _ (cX _ _ rfl) ?_;exact zx [0]
def dB (s:List UInt8):Option (Int×List UInt8):=match bL s with
 | some (n,s')=>if decide (n<=(s'.length:Int)) then some (n,s') else none
 | none=>none
def lM {s s':List UInt8} {n:Int} (h:dB s=some (n,s')):ar 153 [.ref 0 0] (rdO s) (.ret (ii n)) (rdO s'):=by
 unfold dB at h;split at h
 .rename_i m c a;split at h
  .rename_i b;cases h;refine cT (E:=E) (fn:=Tryz.f153) (g:=.full 1 _ _) λ_=>?_;refine gV ?_;refine .eff [] [0] _ _ rfl (bF a) ?_;refine gV ?_;refine .pure _ [] (fN _ _ b) ?_;refine gV ?_;exact zx [0]
  .cases h
 .cases h
def iY {s:List UInt8} (h:dB s=none):ar 153 [.ref 0 0] (rdO s) (.pan (aW 10)) rdU:=by
 unfold dB at h;split at h
 .rename_i m b a;split at h
  .cases h
  .rename_i c;refine aA.blur (ap:=rdO b) ?_;refine cT (E:=E) (fn:=Tryz.f153) (g:=.full 1 _ _) λ_=>?_;refine gV ?_;refine .eff [] [0] _ _ rfl (bF a) ?_;refine gV ?_;refine .pan _ (cX _ _ (by simpa using c)) ?_;exact zx [0]
 .rename_i a;refine cT (E:=E) (fn:=Tryz.f153) (g:=.full 1 _ _) λ_=>?_;refine gV ?_;refine .effp [] [0] _ _ rfl (bM a) ?_;exact zx [0]
def oS (s:List UInt8):Option (V3×List UInt8):=match bL s with
 | none=>none
 | some (a,s)=>match bL s with
  | none=>none
  | some (b,s)=>match bL s with
   | none=>none
   | some (c,s)=>some (⟨a,b,c⟩,s)
def SI (s:List UInt8) (r:Res) (O:List ab) (e:oQ (λ v:V3=>.agg v.cs) (oS s)=r) (d:xD (oS s)=O):ar 161 [.ref 0 0] (rdO s) r O:=by
 unfold oS at e d;refine cT (E:=E) (fn:=Tryz.f161) (g:=.full 1 _ _) λ_=>?_;refine gV ?_;refine gV ?_;refine aY ?_;refine gV ?_;refine aK (o:=bL s) (λ h1=>?_) (λ⟨a,i⟩ h1=>?_)
 .simp only [h1] at e d;have e:Res.pan (aW 10)=r:=e;have d:rdU=O:=d;subst e d;exact zqca19
 simp only [h1] at e d;refine .eff [] [0] _ _ rfl (bF h1) ?_;refine gV ?_;refine ⟨⟨by decide,by decide⟩,?_⟩;refine gV ?_;refine aJ ?_;refine gV ?_;refine gV ?_;refine aY ?_;refine gV ?_;refine aK (o:=bL i) (λ h=>?_) (λ⟨b,j⟩ h=>?_)
 .simp only [h] at e d;have e:Res.pan (aW 10)=r:=e;have d:rdU=O:=d;subst e d;refine .effp [] [0] _ _ rfl (bM h) ?_;exact zx [0]
 simp only [h] at e d;refine .eff [] [0] _ _ rfl (bF h) ?_;refine gV ?_;refine ⟨⟨by decide,by decide⟩,?_⟩;refine gV ?_;refine aJ ?_;refine gV ?_;refine gV ?_;refine aY ?_;refine gV ?_;refine aK (o:=bL j) (λ h3=>?_) (λ⟨c,k⟩ h3=>?_)
 .simp only [h3] at e d;have e:Res.pan (aW 10)=r:=e;have d:rdU=O:=d;subst e d;exact zqca18
 simp only [h3] at e d;refine .eff [] [0] _ _ rfl (bF h3) ?_;refine gV ?_;refine ⟨⟨by decide,by decide⟩,?_⟩;refine gV ?_;refine aJ ?_;refine gV ?_;refine gV ?_;refine aN ?_;refine gV ?_;subst e d;exact zqca7
def uH {s s':List UInt8} {v:V3} (h:oS s=some (v,s')):ar 161 [.ref 0 0] (rdO s) (.ret (.agg v.cs)) (rdO s'):=SI s _ _ (by rw [h];rfl) (by rw [h];rfl)
def uI {s:List UInt8} (h:oS s=none):ar 161 [.ref 0 0] (rdO s) (.pan (aW 10)) rdU:=SI s _ _ (by rw [h];rfl) (by rw [h];rfl)
def rGan (s:List UInt8):Option (Gan×List UInt8):=match bL s with
 | none=>none
 | some (a,s)=>match bL s with
  | none=>none
  | some (b,s)=>match bL s with
   | none=>none
   | some (c,s)=>match oS s with
    | none=>none
    | some (v,s)=>match bL s with
         | none=>none
         | some (d,s)=>match bL s with
          | none=>none
          | some (e,s)=>match bL s with
           | none=>none
           | some (f,s)=>some (⟨a,b,c,v,d,e,f⟩,s)
def LE (s:List UInt8) (r:Res) (O:List ab) (i:oQ Gan.av (rGan s)=r) (h:xD (rGan s)=O):ar 101 [.ref 0 0] (rdO s) r O:=by
 unfold rGan at i h;refine cT (E:=E) (fn:=Tryz.f101) (g:=.full 1 _ _) λ_=>?_;refine gV ?_;refine aK (o:=bL s) (λ h1=>?_) (λ⟨a,p⟩ h1=>?_)
 .simp only [h1] at i h;have i:Res.pan (aW 10)=r:=i;have h:rdU=O:=h;subst i h;exact zqca19
 simp only [h1] at i h;refine .eff [] [0] _ _ rfl (bF h1) ?_;refine gV ?_;refine aK (o:=bL p) (λ j=>?_) (λ⟨b,q⟩ j=>?_)
 .simp only [j] at i h;have i:Res.pan (aW 10)=r:=i;have h:rdU=O:=h;subst i h;exact zqca25
 simp only [j] at i h;refine .eff [] [0] _ _ rfl (bF j) ?_;refine gV ?_;refine aK (o:=bL q) (λ h3=>?_) (λ⟨c,u⟩ h3=>?_)
 .simp only [h3] at i h;have i:Res.pan (aW 10)=r:=i;have h:rdU=O:=h;subst i h;exact zqca18
 simp only [h3] at i h;refine .eff [] [0] _ _ rfl (bF h3) ?_;refine gV ?_;refine aK (o:=oS u) (λ k=>?_) (λ⟨v,t⟩ k=>?_)
 .simp only [k] at i h;have i:Res.pan (aW 10)=r:=i;have h:rdU=O:=h;subst i h;refine .effp [] [0] _ _ rfl (uI k) ?_;exact zx [0]
 simp only [k] at i h;refine .eff [] [0] _ _ rfl (uH k) ?_;refine gV ?_;refine aK (o:=bL t) (λ m=>?_) (λ⟨d,x⟩ m=>?_)
 .simp only [m] at i h;have i:Res.pan (aW 10)=r:=i;have h:rdU=O:=h;subst i h;refine .effp [] [0] _ _ rfl (bM m) ?_;exact zx [0]
 simp only [m] at i h;refine .eff [] [0] _ _ rfl (bF m) ?_;refine gV ?_;refine aK (o:=bL x) (λ l=>?_) (λ⟨e,w⟩ l=>?_)
 .simp only [l] at i h;have i:Res.pan (aW 10)=r:=i;have h:rdU=O:=h;subst i h;refine .effp [] [0] _ _ rfl (bM l) ?_;exact zx [0]
 simp only [l] at i h;refine .eff [] [0] _ _ rfl (bF l) ?_;refine gV ?_;refine aK (o:=bL w) (λ n=>?_) (λ⟨f,y⟩ n=>?_)
 .simp only [n] at i h;have i:Res.pan (aW 10)=r:=i;have h:rdU=O:=h;subst i h;refine .effp [] [0] _ _ rfl (bM n) ?_;exact zx [0]
 simp only [n] at i h;refine .eff [] [0] _ _ rfl (bF n) ?_;refine gV ?_;subst i h;exact zqca7
def AL {s s':List UInt8} {v:Gan} (h:rGan s=some (v,s')):ar 101 [.ref 0 0] (rdO s) (.ret v.av) (rdO s'):=LE s _ _ (by rw [h];rfl) (by rw [h];rfl)
def uX {s:List UInt8} (h:rGan s=none):ar 101 [.ref 0 0] (rdO s) (.pan (aW 10)) rdU:=LE s _ _ (by rw [h];rfl) (by rw [h];rfl)
def bO {s s':List UInt8} {n:Int} (h:bL s=some (n,s')):0<=n/\n<=9223372036854775807/\s'.length+1<=s.length:=by
 unfold bL at h;split at h
 .rename_i m k a;cases h;have:=US a;simp only [Ei];omega
 .cases h
def eF {s s':List UInt8} {n:Int} (h:dB s=some (n,s')):0<=n/\n<=9223372036854775807/\s'.length+1<=s.length/\n<=s'.length:=by
 unfold dB at h;split at h
 .rename_i m c a;split at h
  .rename_i b;cases h;have:=bO a;have:=of_decide_eq_true b;omega
  .cases h
 .cases h
def rVec_b {s s':List UInt8} {v:V3} (h:oS s=some (v,s')):s'.length+1<=s.length:=by
 unfold oS at h;split at h
 .cases h
 .rename_i h1;split at h
  .cases h
  .rename_i a;split at h
   .cases h
   .rename_i h3;cases h;have:=bO h1;have:=bO a;have:=bO h3;omega
def aFg (s:List UInt8):Option (Nod×List UInt8):=match bL s with
 | none=>none
 | some (p,s)=>match bL s with
  | none=>none
  | some (w,s)=>match oS s with
   | none=>none
   | some (a,s)=>match oS s with
    | none=>none
    | some (b,s)=>match oS s with
         | none=>none
         | some (c,s)=>some (⟨p-1,w,a,b,c⟩,s)
def vD (s:List UInt8):Option (Hos×List UInt8):=match bL s with
 | none=>none
 | some (f,s)=>match bL s with
  | none=>none
  | some (b,s)=>match bL s with
   | none=>none
   | some (r,s)=>match oS s with
    | none=>none
    | some (c,s)=>some (⟨f,b,r,c⟩,s)
def aFh (ns:List Nod) (hs:List Hos) (s:List UInt8):Option (Con×List UInt8):=match bL s with
 | none=>none
 | some (a,s)=>match bL s with
  | none=>none
  | some (b,s)=>some (⟨ns,hs,a,b⟩,s)
def rH (ns:List Nod):Nat->List Hos->List UInt8->Option (Con×List UInt8)
 | 0,hs,s=>aFh ns hs s
 | m+1,hs,s=>match vD s with
  | none=>none
  | some (x,s)=>rH ns m (hs++[x]) s
def rHs (ns:List Nod) (s:List UInt8):Option (Con×List UInt8):=match dB s with
 | none=>none
 | some (n,s)=>rH ns n.toNat [] s
def rN:Nat->List Nod->List UInt8->Option (Con×List UInt8)
 | 0,ns,s=>rHs ns s
 | m+1,ns,s=>match aFg s with
  | none=>none
  | some (x,s)=>rN m (ns++[x]) s
def EN (s:List UInt8):Option (Con×List UInt8):=match dB s with
 | none=>none
 | some (n,s)=>rN n.toNat [] s
noncomputable abbrev fRc:Func:=Tryz.f100
def aA2 (ns:List Nod) (n:Int) (z:n<=9223372036854775807) (r:Res) (O:List ab):∀ (m i:Nat) (s:List UInt8) (hs:List Hos),(i+m:Int)=n->hs.length+s.length<=1000000000->oQ Con.av (rH ns m hs s)=r->xD (rH ns m hs s)=O->
  To E fRc (.full 1 r O) (.head (stk fRc 1) [(0,.ref 0 0),(2,.ref 1 0),(32,.int .i64 n),(33,.int .i64 i)] [.cells tRd [.str s],.cells 26 [.slice 11 (nav ns) .no,.slice 6 (hav hs) (.own 2 0),ii 0,ii 0],.tail 0 6 182]):=by
 intro m;induction m with
 | zero=>
  intro i s hs w hl f d;unfold rH aFh at f d;refine gV ?_;refine aF λ h=>?_;refine gV ?_;refine aK (o:=bL s) (λ h1=>?_) (λ⟨a,k⟩ h1=>?_)
  .exact zqca37
  simp only [h1] at f d;refine .eff [] [0] _ _ rfl (bF h1) ?_;refine gV ?_;refine aK (o:=bL k) (λ g=>?_) (λ⟨b,l⟩ g=>?_)
  .exact zqca28
  simp only [g] at f d;refine .eff [] [0] _ _ rfl (bF g) ?_;refine gV ?_;subst f d;exact zqca7
 | succ m x=>
  intro i s hs w hl f d;unfold rH vD at f d;have p:(hav hs).length=hs.length:=by simp
  refine gV ?_;refine aT λ h=>?_;refine gV ?_;refine aK (o:=bL s) (λ h1=>?_) (λ⟨a,k⟩ h1=>?_)
  .exact zqca37
  simp only [h1] at f d;refine .eff [] [0] _ _ rfl (bF h1) ?_;refine gV ?_;refine aK (o:=bL k) (λ g=>?_) (λ⟨b,l⟩ g=>?_)
  .exact zqca28
  simp only [g] at f d;refine .eff [] [0] _ _ rfl (bF g) ?_;refine gV ?_;refine aK (o:=bL l) (λ h3=>?_) (λ⟨c,u⟩ h3=>?_)
  .simp only [h3] at f d;have f:Res.pan (aW 10)=r:=f;have d:rdU=O:=d;subst f d;exact zqca18
  simp only [h3] at f d;refine .eff [] [0] _ _ rfl (bF h3) ?_;refine gV ?_;refine aK (o:=oS u) (λ j=>?_) (λ⟨v,q⟩ j=>?_)
  .simp only [j] at f d;have f:Res.pan (aW 10)=r:=f;have d:rdU=O:=d;subst f d;refine .effp [] [0] _ _ rfl (uI j) ?_;exact zx [0]
  simp only [j] at f d;refine .eff [] [0] _ _ rfl (uH j) ?_;refine gV ?_;have y:=bO h1;have B:=bO g;have C:=bO h3;have A:=rVec_b j;refine Ac ⟨by simp only [maxLen];simp;omega,by simp;omega⟩ ?_;refine gV ?_;refine aJ ?_;refine gV ?_;refine To.part [0,2,32,33] [0,1,2] rfl rfl rfl ?_;have ao:=x (i+1) q (hs++[⟨a,b,c,v⟩]) o_ q_ f d
  have e:hav (hs++[⟨a,b,c,v⟩])=hav hs++[Hos.av ⟨a,b,c,v⟩]:=by simp
  rw [e] at ao
  exact ao
def aA1 (n:Int) (C:n<=9223372036854775807) (r:Res) (O:List ab):∀ (m i:Nat) (s:List UInt8) (ns:List Nod),(i+m:Int)=n->ns.length+s.length<=1000000000->oQ Con.av (rN m ns s)=r->xD (rN m ns s)=O->
  To E fRc (.full 1 r O) (.head (stk fRc 0) [(0,.ref 0 0),(2,.ref 1 0),(6,.int .i64 n),(7,.int .i64 i)] [.cells tRd [.str s],.cells 26 [.slice 11 (nav ns) (.own 2 0),.slice 6 [] .nil,ii 0,ii 0],.tail 0 11 179]):=by
 intro m;induction m with
 | zero=>
  intro i s ns z hl g f;unfold rN rHs at g f;refine gV ?_;refine aF λ h=>?_;refine gV ?_;refine aK (o:=dB s) (λ h1=>?_) (λ⟨k,q⟩ h1=>?_)
  .simp only [h1] at g f;have g:Res.pan (aW 10)=r:=g;have f:rdU=O:=f;subst g f;refine .effp [] [0] _ _ rfl (iY h1) ?_;exact zx [0]
  simp only [h1] at g f;refine .eff [] [0] _ _ rfl (lM h1) ?_;refine gV ?_;have v:=eF h1;refine To.part [0,2,32,33] [0,1] rfl rfl rfl ?_;refine To.begin 1 1 182 rfl rfl ?_;exact aA2 ns k o_ r O k.toNat 0 q [] o_ q_ g f
 | succ m B=>
  intro i s ns z hl g f;unfold rN aFg at g f;have u:(nav ns).length=ns.length:=by simp
  refine gV ?_;refine aT λ h=>?_;refine gV ?_;refine aK (o:=bL s) (λ h1=>?_) (λ⟨a,q⟩ h1=>?_)
  .simp only [h1] at g f;have g:Res.pan (aW 10)=r:=g;have f:rdU=O:=f;subst g f;exact zqca19
  simp only [h1] at g f;refine .eff [] [0] _ _ rfl (bF h1) ?_;refine gV ?_;have v:=bO h1;refine aJ ?_;refine gV ?_;refine aK (o:=bL q) (λ j=>?_) (λ⟨b,w⟩ j=>?_)
  .simp only [j] at g f;have g:Res.pan (aW 10)=r:=g;have f:rdU=O:=f;subst g f;exact zqca25
  simp only [j] at g f;refine .eff [] [0] _ _ rfl (bF j) ?_;refine gV ?_;refine aK (o:=oS w) (λ h3=>?_) (λ⟨c,y⟩ h3=>?_)
  .simp only [h3] at g f;have g:Res.pan (aW 10)=r:=g;have f:rdU=O:=f;subst g f;refine .effp [] [0] _ _ rfl (uI h3) ?_;exact zx [0]
  simp only [h3] at g f;refine .eff [] [0] _ _ rfl (uH h3) ?_;refine gV ?_;refine aK (o:=oS y) (λ l=>?_) (λ⟨d,x⟩ l=>?_)
  .simp only [l] at g f;have g:Res.pan (aW 10)=r:=g;have f:rdU=O:=f;subst g f;refine .effp [] [0] _ _ rfl (uI l) ?_;exact zx [0]
  simp only [l] at g f;refine .eff [] [0] _ _ rfl (uH l) ?_;refine gV ?_;refine aK (o:=oS x) (λ p=>?_) (λ⟨e,A⟩ p=>?_)
  .simp only [p] at g f;have g:Res.pan (aW 10)=r:=g;have f:rdU=O:=f;subst g f;refine .effp [] [0] _ _ rfl (uI p) ?_;exact zx [0]
  simp only [p] at g f;refine .eff [] [0] _ _ rfl (uH p) ?_;refine gV ?_;have F:=bO j;have G:=rVec_b h3;have D:=rVec_b l;have H:=rVec_b p;refine Ac ⟨by simp only [maxLen];simp;omega,by simp;omega⟩ ?_;refine gV ?_;refine aJ ?_;refine gV ?_;refine To.part [0,2,6,7] [0,1,2] rfl rfl rfl ?_;have ao:=B (i+1) A (ns++[⟨a-1,b,c,d,e⟩]) o_ q_ g f
  have e:nav (ns++[⟨a-1,b,c,d,e⟩])=nav ns++[Nod.av ⟨a-1,b,c,d,e⟩]:=by simp
  rw [e] at ao
  exact ao
def LL (s:List UInt8) (hs:s.length<=1000000000) (r:Res) (O:List ab) (b:oQ Con.av (EN s)=r) (a:xD (EN s)=O):ar 100 [.ref 0 0] (rdO s) r O:=by
 unfold EN at b a;refine cT (E:=E) (fn:=Tryz.f100) (g:=.full 1 _ _) λ_=>?_;refine gV ?_;refine aK (o:=dB s) (λ h1=>?_) (λ⟨k,c⟩ h1=>?_)
 .exact zqca14
 simp only [h1] at b a;refine .eff [] [0] _ _ rfl (lM h1) ?_;refine gV ?_;have d:=eF h1;refine To.part [0,2,6,7] [0,1] rfl rfl rfl ?_;refine To.begin 1 0 179 rfl rfl ?_;exact aA1 k o_ r O k.toNat 0 c [] o_ q_ b a
def aFe {s s':List UInt8} (hs:s.length<=1000000000) {v:Con} (h:EN s=some (v,s')):ar 100 [.ref 0 0] (rdO s) (.ret v.av) (rdO s'):=LL s hs _ _ (by rw [h];rfl) (by rw [h];rfl)
def aA0 {s:List UInt8} (hs:s.length<=1000000000) (h:EN s=none):ar 100 [.ref 0 0] (rdO s) (.pan (aW 10)) rdU:=LL s hs _ _ (by rw [h];rfl) (by rw [h];rfl)
def _root_.Go.Proofs.YtidhfoefaomodaaGreatDoor.Con.zero:Con:=⟨[],[],0,0⟩
def EO (s:List UInt8):Option (Cmd×List UInt8):=match bL s with
 | none=>none
 | some (k,s)=>if k==1 then (match EN s with
   | none=>none
   | some (c,s)=>some (⟨k,c,Gan.zero,0⟩,s))
  else if k==2 then (match rGan s with
   | none=>none
   | some (g,s)=>some (⟨k,Con.zero,g,0⟩,s))
  else if (k==3||k==4)||k==5 then (match bL s with
   | none=>none
   | some (n,s)=>some (⟨k,Con.zero,Gan.zero,n⟩,s))
  else some (⟨k,Con.zero,Gan.zero,0⟩,s)
abbrev zCs:List aa:=[ii 0,.slice 11 [] .nil,.slice 6 [] .nil,ii 0,ii 0,ii 0,ii 0,ii 0,ii 0,ii 0,ii 0,ii 0,ii 0,ii 0,ii 0]
abbrev dcO (s:List UInt8):List ab:=[.cells 58 zCs,.cells tRd [.str s],.cells 168 [.ref 1 0]]
abbrev dcX (x:Cmd) (s:List UInt8):List ab:=[.cells 58 x.cs,.cells tRd [.str s],.cells 168 [.ref 1 0]]
abbrev dcU:List ab:=sR (λ_=>.undef) (dcO [])
def aHo {s:List UInt8} (h:bL s=none):ar 98 [.ref 2 0,.ref 0 0] (dcO s) (.pan (aW 10)) dcU:=by refine aA.blur (ap:=[.cells 58 zCs,.cells tRd [.undef],.cells 168 [.ref 1 0]]) ?_;refine cT (E:=E) (fn:=Tryz.f98) (g:=.full 3 _ _) λ_=>?_;refine gV ?_;refine .effp [] [1] _ _ rfl (bM h) ?_;exact zx [0,1,2]
def aMh {s a:List UInt8} (hs:a.length<=1000000000) (h:bL s=some (1,a)) (b:EN a=none):ar 98 [.ref 2 0,.ref 0 0] (dcO s) (.pan (aW 10)) dcU:=by refine aA.blur (ap:=[.cells 58 (ii 1::zCs.tail),.cells tRd [.undef],.cells 168 [.ref 1 0]]) ?_;refine cT (E:=E) (fn:=Tryz.f98) (g:=.full 3 _ _) λ_=>?_;refine gV ?_;refine .eff [] [1] _ _ rfl (bF h) ?_;refine gV ?_;refine aY ?_;refine gV ?_;refine .effp [] [1] _ _ rfl (aA0 hs b) ?_;exact zx [0,1,2]
def aMV {s a b:List UInt8} {c:Con} (hs:a.length<=1000000000) (h:bL s=some (1,a)) (d:EN a=some (c,b)):ar 98 [.ref 2 0,.ref 0 0] (dcO s) (.ret (.tup [])) (dcX ⟨1,c,Gan.zero,0⟩ b):=by refine cT (E:=E) (fn:=Tryz.f98) (g:=.full 3 _ _) λ_=>?_;refine gV ?_;refine .eff [] [1] _ _ rfl (bF h) ?_;refine gV ?_;refine aY ?_;refine gV ?_;refine .eff [] [1] _ _ rfl (aFe hs d) ?_;refine gV ?_;exact zx [0,1,2]
def aMg {s a:List UInt8} (h:bL s=some (2,a)) (b:rGan a=none):ar 98 [.ref 2 0,.ref 0 0] (dcO s) (.pan (aW 10)) dcU:=by refine aA.blur (ap:=[.cells 58 (ii 2::zCs.tail),.cells tRd [.undef],.cells 168 [.ref 1 0]]) ?_;refine cT (E:=E) (fn:=Tryz.f98) (g:=.full 3 _ _) λ_=>?_;refine gV ?_;refine .eff [] [1] _ _ rfl (bF h) ?_;refine gV ?_;refine aN ?_;refine gV ?_;refine aY ?_;refine gV ?_;refine .effp [] [1] _ _ rfl (uX b) ?_;exact zx [0,1,2]
def aMU {s e d:List UInt8} {g:Gan} (h:bL s=some (2,e)) (i:rGan e=some (g,d)):ar 98 [.ref 2 0,.ref 0 0] (dcO s) (.ret (.tup [])) (dcX ⟨2,Con.zero,g,0⟩ d):=by refine aA.loose (ap:=[.cells 58 [ii 2,.slice 11 [] .nil,.slice 6 [] .nil,ii 0,ii 0,ii g.id,ii g.ten,ii g.pods,ii g.need.a,ii g.need.b,ii g.need.c,ii g.run,ii g.lev,ii g.pref,ii 0],.cells tRd [.str d],.cells 168 [.ref 1 0]]) ?_;refine cT (E:=E) (fn:=Tryz.f98) (g:=.full 3 _ _) λ_=>?_;refine gV ?_;refine .eff [] [1] _ _ rfl (bF h) ?_;refine gV ?_;refine aN ?_;refine gV ?_;refine aY ?_;refine gV ?_;refine .eff [] [1] _ _ rfl (AL i) ?_;refine gV ?_;exact zx [0,1,2]
def aMf {s b:List UInt8} {k:Int} (c:k=3\/k=4\/k=5) (h:bL s=some (k,b)) (a:bL b=none):ar 98 [.ref 2 0,.ref 0 0] (dcO s) (.pan (aW 10)) dcU:=by
 rcases c with rfl | rfl | rfl
 .refine aA.blur (ap:=[.cells 58 (ii 3::zCs.tail),.cells tRd [.undef],.cells 168 [.ref 1 0]]) ?_;refine cT (E:=E) (fn:=Tryz.f98) (g:=.full 3 _ _) λ_=>?_;refine gV ?_;refine .eff [] [1] _ _ rfl (bF h) ?_;refine gV ?_
  repeat' first | (refine gN hE ?_;conv=>whnf) | refine .effp [] [1] _ _ rfl (bM a) ?_ | exact rfl | (refine zt ?_;try intro h) | refine zu (λ h=>?_) λ h=>?_ | fail
  exact zx [0,1,2]
 .refine aA.blur (ap:=[.cells 58 (ii 4::zCs.tail),.cells tRd [.undef],.cells 168 [.ref 1 0]]) ?_;refine cT (E:=E) (fn:=Tryz.f98) (g:=.full 3 _ _) λ_=>?_;refine gV ?_;refine .eff [] [1] _ _ rfl (bF h) ?_;refine gV ?_
  repeat' first | (refine gN hE ?_;conv=>whnf) | refine .effp [] [1] _ _ rfl (bM a) ?_ | exact rfl | (refine zt ?_;try intro h) | refine zu (λ h=>?_) λ h=>?_ | fail
  exact zx [0,1,2]
 .refine aA.blur (ap:=[.cells 58 (ii 5::zCs.tail),.cells tRd [.undef],.cells 168 [.ref 1 0]]) ?_;refine cT (E:=E) (fn:=Tryz.f98) (g:=.full 3 _ _) λ_=>?_;refine gV ?_;refine .eff [] [1] _ _ rfl (bF h) ?_;refine gV ?_
  repeat' first | (refine gN hE ?_;conv=>whnf) | refine .effp [] [1] _ _ rfl (bM a) ?_ | exact rfl | (refine zt ?_;try intro h) | refine zu (λ h=>?_) λ h=>?_ | fail
  exact zx [0,1,2]
abbrev nCs (k n:Int):List aa:=[ii k,.slice 11 [] .nil,.slice 6 [] .nil,ii 0,ii 0,ii 0,ii 0,ii 0,ii 0,ii 0,ii 0,ii 0,ii 0,ii 0,ii n]
def aMT {s c b:List UInt8} {k n:Int} (d:k=3\/k=4\/k=5) (h:bL s=some (k,c)) (a:bL c=some (n,b)):ar 98 [.ref 2 0,.ref 0 0] (dcO s) (.ret (.tup [])) (dcX ⟨k,Con.zero,Gan.zero,n⟩ b):=by
 refine aA.loose (ap:=[.cells 58 (nCs k n),.cells tRd [.str b],.cells 168 [.ref 1 0]]) ?_;rcases d with rfl | rfl | rfl
 .refine cT (E:=E) (fn:=Tryz.f98) (g:=.full 3 _ _) λ_=>?_;refine gV ?_;refine .eff [] [1] _ _ rfl (bF h) ?_;refine gV ?_
  repeat' first | (refine gN hE ?_;conv=>whnf) | refine .eff [] [1] _ _ rfl (bF a) ?_ | exact rfl | (refine zt ?_;try intro h) | refine zu (λ h=>?_) λ h=>?_ | fail
  exact zx [0,1,2]
 .refine cT (E:=E) (fn:=Tryz.f98) (g:=.full 3 _ _) λ_=>?_;refine gV ?_;refine .eff [] [1] _ _ rfl (bF h) ?_;refine gV ?_
  repeat' first | (refine gN hE ?_;conv=>whnf) | refine .eff [] [1] _ _ rfl (bF a) ?_ | exact rfl | (refine zt ?_;try intro h) | refine zu (λ h=>?_) λ h=>?_ | fail
  exact zx [0,1,2]
 .refine cT (E:=E) (fn:=Tryz.f98) (g:=.full 3 _ _) λ_=>?_;refine gV ?_;refine .eff [] [1] _ _ rfl (bF h) ?_;refine gV ?_
  repeat' first | (refine gN hE ?_;conv=>whnf) | refine .eff [] [1] _ _ rfl (bF a) ?_ | exact rfl | (refine zt ?_;try intro h) | refine zu (λ h=>?_) λ h=>?_ | fail
  exact zx [0,1,2]
def aMS {s a:List UInt8} {k:Int} (h1:(k==1)=false) (c:(k==2)=false) (h3:(k==3)=false) (d:(k==4)=false) (b:(k==5)=false) (h:bL s=some (k,a)):
  ar 98 [.ref 2 0,.ref 0 0] (dcO s) (.ret (.tup [])) (dcX ⟨k,Con.zero,Gan.zero,0⟩ a):=by
 refine aA.loose (ap:=[.cells 58 (nCs k 0),.cells tRd [.str a],.cells 168 [.ref 1 0]]) ?_;refine cT (E:=E) (fn:=Tryz.f98) (g:=.full 3 _ _) λ_=>?_;refine gV ?_;refine .eff [] [1] _ _ rfl (bF h) ?_;refine gV ?_;refine Ac (λ h=>absurd (h.symm.trans h1) d_) (λ_=>?_);refine gV ?_;refine Ac (λ h=>absurd (h.symm.trans c) d_) (λ_=>?_);refine gV ?_;refine Ac (λ h=>absurd (h.symm.trans h3) d_) (λ_=>?_);refine gV ?_;refine Ac (λ h=>absurd (h.symm.trans d) d_) (λ_=>?_);refine gV ?_;refine Ac (λ h=>absurd (h.symm.trans b) d_) (λ_=>?_);refine gV ?_;exact zx [0,1,2]
def aMe {s s':List UInt8} {x:Cmd} (hs:s.length<=1000000000) (h:EO s=some (x,s')):ar 98 [.ref 2 0,.ref 0 0] (dcO s) (.ret (.tup [])) (dcX x s'):=by
 unfold EO at h;split at h
 .cases h
 .rename_i k g h1;have i:=bO h1;split at h
  .rename_i b;have b:=eq_of_beq b;subst b;split at h
   .cases h
   .rename_i e;cases h;exact aMV o_ h1 e
  .rename_i d;split at h
   .rename_i b;have b:=eq_of_beq b;subst b;split at h
    .cases h
    .rename_i e;cases h;exact aMU h1 e
   .rename_i c;split at h
    .rename_i b;simp at b;split at h
     .cases h
     .rename_i e;cases h;exact aMT o_ h1 e
    .rename_i a;cases h;simp only [Fc,not_or,Bool.not_eq_true] at d c a;exact aMS d c a.1.1 a.1.2 a.2 h1
def aKA {s:List UInt8} (hs:s.length<=1000000000) (h:EO s=none):ar 98 [.ref 2 0,.ref 0 0] (dcO s) (.pan (aW 10)) dcU:=by
 unfold EO at h;split at h
 .rename_i h1;exact aHo h1
 .rename_i k c h1;have d:=bO h1;split at h
  .rename_i a;have a:=eq_of_beq a;subst a;split at h
   .rename_i b;exact aMh o_ h1 b
   .cases h
  .split at h
   .rename_i a;have a:=eq_of_beq a;subst a;split at h
    .rename_i b;exact aMg h1 b
    .cases h
   .split at h
    .rename_i a;simp at a;split at h
     .rename_i b;exact aMf o_ h1 b
     .cases h
    .cases h
abbrev d1V:aa:=.func (.func 98) [] [.ref 2 0,.ref 0 0]
noncomputable abbrev Et:Env:=Ed [(152,[.ref 3 0])]
def hEt:ae Et:=hEd _
def aIy {s s':List UInt8} {x:Cmd} (hs:s.length<=1000000000) (h:EO s=some (x,s')):ar 91 [d1V] (dcO s) (.ret (ii 0)) (dcX x s'):=by
 refine cT (E:=E) (fn:=Tryz.f91) (g:=.full 3 _ _) λ_=>?_;refine gV ?_;refine To.defer (f:=152) (args:=[.ref 3 0]) _ rfl rfl ?_;refine gW hEt ?_;conv=>whnf
 refine .eff [] [0,1,2] _ _ rfl (aMe hs h) ?_;refine gW hEt ?_;conv=>whnf
 refine To.leave (f:=152) (args:=[.ref 3 0]) [] rfl [] [3] rfl (catch_ret 0) ?_;exact zqca15
def aEp {s:List UInt8} (hs:s.length<=1000000000) (h:EO s=none):ar 91 [d1V] (dcO s) (.ret (ii 10)) dcU:=by
 refine cT (E:=E) (fn:=Tryz.f91) (g:=.full 3 _ _) λ_=>?_;refine gV ?_;refine To.defer (f:=152) (args:=[.ref 3 0]) _ rfl rfl ?_;refine gW hEt ?_;conv=>whnf
 refine .effp [] [0,1,2] _ _ rfl (aKA hs h) ?_;conv=>whnf
 refine To.leave (f:=152) (args:=[.ref 3 0]) [] rfl [] [3] rfl (catch_pan 0 10) ?_;exact zqca15
def _root_.Go.Proofs.YtidhfoefaomodaaGreatDoor.Cmd.zero:Cmd:=⟨0,Con.zero,Gan.zero,0⟩
def dec (s:List UInt8):Option Cmd:=match EO s with
 | some (x,r)=>if r=[]/\chk x=0 then some x else none
 | none=>none
def decX (s:List UInt8):Cmd:=(dec s).getD Cmd.zero
def decE (s:List UInt8):Int:=match dec s with | some _=>0 | none=>10
def decode_ok (s:List UInt8) (hs:s.length<=1000000000):ar 43 [.str s] [] (.ret (.tup [(decX s).av,ii (decE s)])) []:=by
 refine c_ Tryz.f43 λ_=>?_;refine gV ?_;refine aK (o:=EO s) (λ h=>?_) (λ⟨x,r⟩ h=>?_)
 .have k:decX s=Cmd.zero:=by unfold decX dec;rw [h];rfl
  have i:decE s=10:=by unfold decE dec;rw [h]
  rw [k,i];refine .eff [] [1,2,3] _ _ rfl (aEp hs h) ?_
  repeat' first | (refine gN hE ?_;conv=>whnf) | exact rfl | (refine zt ?_;try intro h) | refine zu (λ h=>?_) λ h=>?_ | fail
 .refine .eff [] [1,2,3] _ _ rfl (aIy hs h) ?_;refine gV ?_;refine aN ?_;refine gV ?_;refine Ac (λ a=>?_) (λ a=>?_)
  .have a:(!(r==[]))=true:=a;have j:¬ r=[]:=by intro e;rw [e] at a;simp at a
   have b:dec s=none:=by unfold dec;rw [h];exact if_neg (λ h=>j h.1)
   have k:decX s=Cmd.zero:=by unfold decX;rw [b];rfl
   have i:decE s=10:=by unfold decE;rw [b]
   rw [k,i]
   repeat' first | (refine gN hE ?_;conv=>whnf) | exact rfl | (refine zt ?_;try intro h) | refine zu (λ h=>?_) λ h=>?_ | fail
  .have a:(!(r==[]))=false:=a;have j:r=[]:=by simpa using a
   refine gV ?_;refine .pure _ [] (check_ok x) ?_;refine gV ?_;refine Ac (λ c=>?_) (λ c=>?_)
   .have c:(chk x !=0)=true:=c;have d:¬ chk x=0:=by simpa using c
    have b:dec s=none:=by unfold dec;rw [h];exact if_neg (λ h=>d h.2)
    have k:decX s=Cmd.zero:=by unfold decX;rw [b];rfl
    have i:decE s=10:=by unfold decE;rw [b]
    rw [k,i]
    repeat' first | (refine gN hE ?_;conv=>whnf) | exact rfl | (refine zt ?_;try intro h) | refine zu (λ h=>?_) λ h=>?_ | fail
   .have c:(chk x !=0)=false:=c;have d:chk x=0:=by simpa using c
    have b:dec s=some x:=by unfold dec;rw [h];exact if_pos ⟨j,d⟩
    have k:decX s=x:=by unfold decX;rw [b];rfl
    have i:decE s=0:=by unfold decE;rw [b]
    rw [k,i]
    repeat' first | (refine gN hE ?_;conv=>whnf) | exact rfl | (refine zt ?_;try intro h) | refine zu (λ h=>?_) λ h=>?_ | fail
def aZ {n:Int} (a:0<=n) (h:n<=1099511627777) (s:List UInt8):bL (putN n.toNat++s)=some (n,s):=by unfold bL;rw [aCq n.toNat s o_];simp only [Jj,Ds,Ke,and_true];omega
def qN {v:V3} (h:okI v.l=true) (s:List UInt8):oS (pl v.l++s)=some (v,s):=by
 obtain ⟨h1,d,h3⟩:=ZR h;have e:pl v.l++s=putN v.a.toNat++(putN v.b.toNat++(putN v.c.toNat++s)):=by simp [pl,V3.l]
 rw [e];unfold oS;rw [aZ h1.1 o_];dsimp only;rw [aZ d.1 o_];dsimp only;rw [aZ h3.1 o_]
def nM {g:Gan} (h:g.ok=true) (s:List UInt8):rGan (pl g.il++s)=some (g,s):=by
 obtain ⟨h1,i,h3⟩:=gan_b h;have a:=okI_b h1 g.id s_;have f:=okI_b h1 g.ten s_;have j:=okI_b h1 g.pods s_;have b:=okI_b h3 g.run s_;have c:=okI_b h3 g.lev s_;have d:=okI_b h3 g.pref s_;have e:pl g.il++s=putN g.id.toNat++(putN g.ten.toNat++(putN g.pods.toNat++(pl g.need.l++(putN g.run.toNat++(putN g.lev.toNat++(putN g.pref.toNat++s)))))):=by simp [pl,Gan.il,V3.l]
 rw [e];unfold rGan;rw [aZ a.1 o_];dsimp only;rw [aZ f.1 o_];dsimp only;rw [aZ j.1 o_];dsimp only;rw [qN i];dsimp only;rw [aZ b.1 o_];dsimp only;rw [aZ c.1 o_];dsimp only;rw [aZ d.1 o_]
def aA5 {x:Nod} (h:x.ok=true) (s:List UInt8):aFg (pl x.il++s)=some (x,s):=by
 obtain ⟨h1,c,h3,d,a⟩:=aBD h;have e:pl x.il++s=putN (x.p+1).toNat++(putN x.w.toNat++(pl x.n.l++(pl x.b.l++(pl x.l.l++s)))):=by simp [pl,Nod.il,V3.l]
 rw [e];unfold aFg;rw [aZ o_ o_];dsimp only;rw [aZ c.1 o_];dsimp only;rw [qN h3];dsimp only;rw [qN d];dsimp only;rw [qN a];simp
def vC {x:Hos} (h:x.ok=true) (s:List UInt8):vD (pl x.il++s)=some (x,s):=by
 obtain ⟨h1,g⟩:=aCi h;have a:=okI_b h1 x.f s_;have d:=okI_b h1 x.b s_;have i:=okI_b h1 x.r s_;have e:pl x.il++s=putN x.f.toNat++(putN x.b.toNat++(putN x.r.toNat++(pl x.c.l++s))):=by simp [pl,Hos.il,V3.l]
 rw [e];unfold vD;rw [aZ a.1 o_];dsimp only;rw [aZ d.1 o_];dsimp only;rw [aZ i.1 o_];dsimp only;rw [qN g]
def putN_pos (n:Nat):1<=(putN n).length:=by rw [putN];split<;>simp
def MI:∀ (l:List Nod),l.length<=(pl (nodL l)).length
 | []=>by simp
 | x::r=>by
  have h1:=MI r;have a:=putN_pos (x.p+1).toNat;simp only [nodL,pl_append,Ai,Al];have:1<=(pl x.il).length:=by simp only [Nod.il,pl,Ai];omega
  omega
def M9:∀ (l:List Hos),l.length<=(pl (hosL l)).length
 | []=>by simp
 | x::r=>by
  have h1:=M9 r;have a:=putN_pos x.f.toNat;simp only [hosL,pl_append,Ai,Al];have:1<=(pl x.il).length:=by simp only [Hos.il,pl,Ai];omega
  omega
def fT {n:Int} (a:0<=n) (h:n<=1099511627777) (s:List UInt8) (hs:n<=s.length):dB (putN n.toNat++s)=some (n,s):=by unfold dB;rw [aZ a h];dsimp only;rw [if_pos (by simpa using hs)]
def aA6:∀ (l:List Nod) (a:List Nod) (s:List UInt8),tX l=true->rN l.length a (pl (nodL l)++s)=rHs (a++l) s
 | [],a,s,_=>by simp [rN,nodL,pl]
 | x::r,a,s,h=>by
  simp only [tX,Ad] at h;have e:pl (nodL (x::r))++s=pl x.il++(pl (nodL r)++s):=by simp [nodL,pl_append]
  rw [e,Al];unfold rN;rw [aA5 h.1];dsimp only;rw [aA6 r (a++[x]) s h.2];simp
def BV (ns:List Nod):∀ (l:List Hos) (a:List Hos) (s:List UInt8),qB l=true->rH ns l.length a (pl (hosL l)++s)=aFh ns (a++l) s
 | [],a,s,_=>by simp [rH,hosL,pl]
 | x::r,a,s,h=>by
  simp only [qB,Ad] at h;have e:pl (hosL (x::r))++s=pl x.il++(pl (hosL r)++s):=by simp [hosL,pl_append]
  rw [e,Al];unfold rH;rw [vC h.1];dsimp only;rw [BV ns r (a++[x]) s h.2];simp
def LO {c:Con} (h:c.tok=true) (g:c.ns.length<=12) (j:c.hs.length<=24) (s:List UInt8):EN (pl c.il++s)=some (c,s):=by
 simp only [Con.tok,Ad] at h;obtain ⟨⟨h1,d⟩,h3⟩:=h;have a:=okI_b h3 c.half s_;have b:=okI_b h3 c.age s_;have l1:(nav c.ns).length=c.ns.length:=by simp
 have l2:(hav c.hs).length=c.hs.length:=by simp
 have i:=MI c.ns;have f:=M9 c.hs;have e:pl c.il++s=putN ((nav c.ns).length:Int).toNat++(pl (nodL c.ns)++(putN ((hav c.hs).length:Int).toNat++(pl (hosL c.hs)++(putN c.half.toNat++(putN c.age.toNat++s))))):=by simp [pl,pl_append,Con.il]
 rw [e];unfold EN;rw [fT o_ o_ _ (by simp only [Ai];omega)];dsimp only;rw [Bt,l1,aA6 c.ns [] _ h1];unfold rHs;rw [fT o_ o_ _ (by simp only [Ai];omega)];dsimp only;rw [Bt,l2,BV _ c.hs [] _ d];unfold aFh;rw [aZ a.1 o_];dsimp only;rw [aZ b.1 o_];simp
def aDu {c:Con} (h:c.non=true):c=Con.zero:=by
 simp only [Con.non,Ad,beq_iff_eq] at h;obtain ⟨⟨⟨h1,b⟩,h3⟩,d⟩:=h;obtain ⟨ns,hs,half,age⟩:=c;dsimp only at h1 b h3 d;have f:ns=[]:=by cases ns with | nil=>rfl | cons a l=>simp at h1;omega
 have e:hs=[]:=by cases hs with | nil=>rfl | cons a l=>simp at b;omega
 subst f e h3 d;rfl
def NH {g:Gan} (h:g.isZ=true):g=Gan.zero:=Gan.eqb_eq.1 h
def rCmd_put {x:Cmd} (T:Told x):EO (pl x.il)=some (x,[]):=by
 obtain ⟨k,c,g,n⟩:=x;have l1:(nav c.ns).length=c.ns.length:=by simp
 have l2:(hav c.hs).length=c.hs.length:=by simp
 have m:((nav c.ns).length:Int)<=12:=T.ln;have j:((hav c.hs).length:Int)<=24:=T.lh;have l:1<=k/\k<=6:=T.k;have t:k=1\/c.non=true:=T.c;have i:k=2\/g.isZ=true:=T.g;have b:(k=3\/k=4\/k=5)\/n=0:=T.n;have h:0<=n/\n<=1099511627776:=T.nok;have cok:c.tok=true:=T.cok;have gok:g.ok=true:=T.gok;clear T;have e:pl (Cmd.il ⟨k,c,g,n⟩)=putN k.toNat++pl (if k==1 then c.il else if k==2 then g.il else if k==6 then [] else [n]):=rfl;rw [e];unfold EO;rw [aZ o_ o_];dsimp only;rcases t with rfl | f
 .have d:g=Gan.zero:=NH (i.resolve_left o_);have a:n=0:=b.resolve_left o_;subst d a;have:=LO cok o_ o_ [];rw [Av] at this;simp only [beq_self_eq_true,if_true];rw [this]
 .have f:c=Con.zero:=aDu f;subst f;rcases i with rfl | d
  .have a:n=0:=b.resolve_left o_;subst a;have:=nM gok [];exact zqca31
  .have d:g=Gan.zero:=NH d;subst d;have one:bL (pl [n])=some (n,[]):=aZ h.1 o_ [];have p:(match bL (pl [n]) with | none=>none | some (n,s)=>some ((⟨3,Con.zero,Gan.zero,n⟩:Cmd),s))=some (⟨3,Con.zero,Gan.zero,n⟩,[]):=by rw [one]
   have q:(match bL (pl [n]) with | none=>none | some (n,s)=>some ((⟨4,Con.zero,Gan.zero,n⟩:Cmd),s))=some (⟨4,Con.zero,Gan.zero,n⟩,[]):=by rw [one]
   have r:(match bL (pl [n]) with | none=>none | some (n,s)=>some ((⟨5,Con.zero,Gan.zero,n⟩:Cmd),s))=some (⟨5,Con.zero,Gan.zero,n⟩,[]):=by rw [one]
   have o:k=1\/k=2\/k=3\/k=4\/k=5\/k=6:=o_;rcases o with rfl | rfl | rfl | rfl | rfl | rfl
   .have a:n=0:=b.resolve_left o_;subst a;have:=LO (c:=Con.zero) rfl d_ d_ [];rw [Av] at this;simp only [beq_self_eq_true,if_true];rw [this]
   .have a:n=0:=b.resolve_left o_;subst a;have:=nM (g:=Gan.zero) rfl [];exact zqca31
   .exact p
   .exact q
   .exact r
   .have a:n=0:=b.resolve_left o_;subst a;rfl
def dec_enc {x:Cmd} (h:chk x=0):decX (encB x)=x/\decE (encB x)=0:=by
 have e:encB x=pl x.il:=if_pos h;have a:dec (encB x)=some x:=by unfold dec;rw [e,rCmd_put (chk_told h)];exact if_pos ⟨rfl,h⟩
 unfold decX decE;rw [a];exact ⟨rfl,rfl⟩
end Go.Proofs.YtidhfoefaomodaaGreatDoor.C8
namespace Go.Proofs.YtidhfoefaomodaaGreatDoor.SW
open Go Go.AW Go.Proofs Go.RowKit
set_option maxRecDepth 100000
set_option maxHeartbeats 2000000
abbrev tWr:TypeId:=160
def vQ:liesAt Tryz.prog Tryz.prog.depth tWr (2 / Tryz.prog.cellsOf tWr) 0 158 1=true:=by kernel_rfl
def uR:(Tryz.prog.info? 158).map (·.size)=some 2:=by kernel_rfl
def KM:Tryz.prog.underlying 156=some (.pointer 158):=by kernel_rfl
def KL:Tryz.prog.underlying 334=some .unsafePointer:=by kernel_rfl
def NP:Tryz.prog.funcs[225]? =some Tryz.f225:=by kernel_rfl
def fW (b:Nat) (w:World) (h:w.cell? ⟨b,0,none⟩=some (.pointer none)) (a:w.shape? b=some (tWr,2)) (g:w.frozen? ⟨b,0,none⟩=false):
  Calls Tryz.prog 151 #[.pointer (some ⟨b,0,none⟩)] w λ e w'=>e= .returned (.tuple #[])/\w'=w.setCell ⟨b,0,none⟩ (.pointer (some ⟨b,0,none⟩)):=by
 obtain ⟨j,d,c⟩:=Cd.1 uR
 go_enter Tryz.func151,Tryz.ntmps151
 go_wp2
 rw [Lib.run_to_unsafe w ⟨b,0,none⟩ KM KL d (by rw [c];decide) a (Lx 1)];simp only [Ef];rw [Oper.upon_value]
 go_wp2
 rw [run_callFunc_extern NP (by kernel_rfl) (by kernel_rfl) (by kernel_rfl) (e:=Extern.AbiNoEscape.same) (by kernel_rfl)];rw [Lib.run_noEscape];simp only [Ef];rw [Oper.upon_value]
 go_wp2
 rw [Lib.run_from_unsafe w ⟨b,0,none⟩ KL KM d a vQ];simp only [Ef];rw [Oper.upon_value]
 go_wp2
 go_end0;exact ⟨rfl,rfl⟩
def ZY:Tryz.prog.underlying 254=some (.pointer 5):=by kernel_rfl
def aDI:Tryz.prog.cellsOf 5=1:=by kernel_rfl
def nG (b g cap:Nat) (p:Value) (a:Array Value) (l:List UInt8) (w:World) (d:w.heap[b]? =some (.cells #[p,.slice (some ⟨g,0,none⟩) l.length cap] tWr (0,0))) (u:w.heap[g]? =some (.cells a 5 (0,0))) (n:l≠[])
  (o:l.length<=cap) (m:cap<=maxLen) (s:a.size=cap) (c:∀ (j:Nat) x,l[j]? =some x->w.cell? ⟨g,j,none⟩=some (.int .u8 x.toNat)):
  Calls Tryz.prog 90 #[.pointer (some ⟨b,0,none⟩)] w λ e w'=>e= .returned (.string ⟨l.toArray⟩)/\HL g l.length w w':=by
 have h:l.length≠0:=by simpa using n
 have y:w.drew.cell? ⟨b,1,none⟩=some (.slice (some ⟨g,0,none⟩) l.length cap):=by exact zqca32
 have r:(Iy #[132] 254 #[.slice (some ⟨g,0,none⟩) l.length cap]).run Tryz.prog w.drew= .ok (.pointer (some ⟨g,0,none⟩)) w.drew:=
  Lib.run_unsafeSliceData_row _ _ _ _ _ _ o_
 have q:(Js #[254,3] 9 #[.pointer (some ⟨g,0,none⟩),.int .i64 l.length]).run Tryz.prog w.drew= .ok (.string ⟨l.toArray⟩) (w.drew.freeze ⟨g,0,none⟩ l.length):=by exact zqca13
 have i:Tryz.prog.follows Departure.mixedOrders=true:=hE.mix
 go_enter Tryz.func90,Tryz.ntmps90
 go_wp2
 go_region_o
 all_goals (go_wp2;go_ret;exact ⟨rfl,QL h⟩)
def cc_fresh (s:aa):ar 151 [.ref 0 0] [.cells tWr [.nilptr,s]] (.ret (.tup [])) [.cells tWr [.ref 0 0,s]]:=
 mZ (λ_ _=>by rfl) fW s
def str_ok (l:List UInt8) (a:l≠[]) (p:aa):ar 90 [.ref 0 0] [.cells tWr [p,.slice 1 (l.map ub) (.own 1 0)],.tail 0 1 5] (.ret (.str l)) [.dead,.dead]:=
 lO (λ_ _=>by rfl) nG l a p
open Go Go.AW Go.Proofs
open C8 (pl putN put_ok pn_len)
set_option maxRecDepth 10000
abbrev wrO (bs:List UInt8) (g:Nat):List ab:=[.cells tWr [.ref 0 0,.slice 1 (bs.map ub) (.own 1 g)],.tail g 1 5]
def JT (xs:List aa):ar 151 [.ref 0 0] [.cells tWr [.ref 0 0,.slice 1 xs (.own 1 0)],.tail 0 1 5] (.ret (.tup [])) [.cells tWr [.ref 0 0,.slice 1 xs (.own 1 0)],.tail 0 1 5]:=by
 refine cT (E:=E) (fn:=Tryz.f151) (g:=.full 2 _ _) λ_=>?_
 repeat' first | (refine gN hE ?_;conv=>whnf) | exact rfl | (refine zt ?_;try intro h) | refine zu (λ h=>?_) λ h=>?_ | fail
 exact zx [0,1]
def tZ (s:List UInt8) (hs:s.length<=1000):ar 87 [.ref 0 0,.str s] [.cells tWr [.nilptr,.slice 1 [] .nil]] (.ret (.tup [ii s.length,.nilif])) (wrO s 0):=by exact zqca11
def ws_ok (bs s:List UInt8) (hs:bs.length+s.length<=1000000):ar 87 [.ref 0 0,.str s] (wrO bs 0) (.ret (.tup [ii s.length,.nilif])) (wrO (bs++s) 1):=by exact zqca8
noncomputable abbrev NQ:Func:=Tryz.f86
def xE (l:List Int) (hl:((iv l).length:Int)<=9223372036854775807) (p:∀ n∈l,n<=9223372036854775807) (B:List UInt8) (m:Nat) (o:10*l.length<=1000):∀ (n i g:Nat) (bs:List UInt8),i+n=l.length->(g=0\/g=1)->(n=0->g=m)->(0<n->m=1)->bs.length+10*n<=100000->bs++pl (l.drop i)=B->
  To E NQ (.full 2 (.ret (.tup [])) (wrO B m)) (.head (stk NQ 0) [(0,.ref 0 0),(6,.slice 1 (iv l) .no),(7,.int .i64 ((iv l).length:Nat)),(8,.int .i64 i)] (wrO bs g)):=by
 have q:(iv l).length=l.length:=by simp
 intro n;induction n with
 | zero=>
  exact zqca10
 | succ n t=>
  intro i g bs r k _ f d a;have u:=f o_;subst u;have b:i<l.length:=o_;rw [Ae b] at a;have c:=p l[i] (Bh b);generalize s:l[i]=x at a c;have a:bs++(putN x.toNat++pl (l.drop (i+1)))=B:=a;rw [<-Af] at a;have get:(iv l)[i]? =some (ii x):=(fJ b).trans (by rw [s]);have hp:=pn_len c;refine gV ?_;refine aT λ h=>?_;refine gV ?_;refine ⟨i,rfl,?_⟩;refine gV ?_;refine ⟨_,get,?_⟩;refine gV ?_;refine .pure _ [] (C8.put_ok x) ?_;exact zqca5
def nums_ok (l:List Int) (d:l≠[]) (e:∀ n∈l,n<=9223372036854775807) (b:l.length<=100) (bs:List UInt8) (c:bs.length+10*l.length<=100000):
  ar 86 [.ref 0 0,.slice 1 (iv l) .no] (wrO bs 0) (.ret (.tup [])) (wrO (bs++pl l) 1):=by
 have i:(iv l).length=l.length:=by simp
 have a:0<l.length:=Dy.2 d;refine cT (E:=E) (fn:=Tryz.f86) (g:=.full 2 _ _) λ_=>?_;exact zqca26
def nums_fresh (k:Int) (a:k<=9223372036854775807):ar 86 [.ref 0 0,.slice 1 [ii k] .no] [.cells tWr [.nilptr,.slice 1 [] .nil]] (.ret (.tup [])) (wrO (putN k.toNat) 0):=by have hp:=pn_len a;refine cT (E:=E) (fn:=Tryz.f86) (g:=.full 1 _ _) λ_=>?_;refine gV ?_;refine gV ?_;refine Ac (λ_=>?_) (λ h=>absurd (of_decide_eq_false h) s_);refine gV ?_;refine ⟨0,rfl,?_⟩;refine gV ?_;refine ⟨_,rfl,?_⟩;refine gV ?_;refine .pure _ [] (C8.put_ok k) ?_;refine gV ?_;refine .sole rfl (.eff [] [0] _ _ rfl (tZ _ o_) ?_);exact zqca6
end Go.Proofs.YtidhfoefaomodaaGreatDoor.SW
namespace Go.Proofs.YtidhfoefaomodaaGreatDoor
open Go Go.AW Go.Proofs
set_option maxRecDepth 10000
def GN (x i:Nat):UInt8:=Dm (x / 2 ^ (8*i) % 256)
def ET (x i:Nat):List UInt8:=(Di i).map (GN x)
def wC (x:Nat):List UInt8:=ET x 8
def jS (x i:Nat):(ET x i).length=i:=by simp [ET]
def GM (x i:Nat):ET x (i+1)=ET x i++[GN x i]:=by simp [ET,Mp]
def aMO (x i:Nat):IntKind.u8.wrap ((x:Int).fdiv (2 ^ (8*i)))=((((GN x i).toNat:Nat)):Int):=by
 rw [Ea _ (by exact Int.le_of_lt (Int.pow_pos d_))];have:(x:Int) / 2 ^ (8*i)=((x / 2 ^ (8*i):Nat):Int):=by simp
 rw [this,HM,GN,Gw,Nat.mod_mod]
noncomputable abbrev fPF:Func:=Tryz.f88
def XG (x:Nat):∀ (m i:Nat) (row:List aa),i+m=8->row=(ET x i).map ub++Aj m (.int .u8 0)->
  To E fPF (.pure (.ret (.str (wC x)))) (.head (stk fPF 0) [(0,.int .u64 x),(3,.row 0 0),(7,.int .i64 8),(8,.int .i64 i)] [.row 0 1 5 row]):=by
 intro m;induction m with
 | zero=>
  intro i row f a;have e:i=8:=o_;subst e;subst a;refine gV ?_;refine aF λ h=>?_;refine gV ?_;refine Ao (ET x 8) (Ac s_ (Ac (by simp [jS]) ?_));refine gV ?_;rfl
 | succ m d=>
  intro i row f a;have b:row.length=8:=by rw [a];simp [jS];omega
  have g:(8*(i:Int)).toNat=8*i:=o_;have c:=aMO x i
  have ao:=d (i+1) (row.set i (ub (GN x i))) o_ (by
   rw [a,GM,Bm,Gy _ _ (by simp [jS])]
   simp [jS,Kz])
  refine gV ?_;refine aT λ h=>?_
  repeat' first | (refine gN hE ?_;conv=>whnf) | refine @Ks (inR IntKind.u8 _/\_) _ ?_ | refine aJ ?_ | refine Ac (Ac (show (0:Int)<=8*(i:Int) by omega) (show (8*(i:Int)).toNat<=64 by omega)) ?_ | refine ⟨i,rfl,?_⟩ | refine Ac (show i<row.length by omega) ?_ | exact rfl | (refine zt ?_;try intro h) | refine zu (λ h=>?_) λ h=>?_ | fail
  refine To.part [0,3,7,8] [0] rfl rfl rfl ?_;rw [g,c];exact ao
def aFw (x:Nat):ar 88 [.int .u64 x] [] (.ret (.str (wC x))) []:=by
 have ao:=XG x 8 0 (Aj 8 (.int .u8 0)) rfl rfl
 refine c_ Tryz.f88 λ_=>?_
 repeat' first | (refine gN hE ?_;conv=>whnf) | exact rfl | (refine zt ?_;try intro h) | refine zu (λ h=>?_) λ h=>?_ | fail
 refine To.part [0,3,7,8] [0] rfl rfl rfl ?_;exact ao
end Go.Proofs.YtidhfoefaomodaaGreatDoor
namespace Go.Proofs.YtidhfoefaomodaaGreatDoor.C8
open Go Go.AW Go.Proofs
set_option maxRecDepth 10000
def ME (a b c:Int) (d:a<=9223372036854775807) (i:b<=9223372036854775807) (e:c<=9223372036854775807):ar 95 [.ref 0 0,.slice 1 [ii a,ii b,ii c] .no] [.cells tWr [.nilptr,.slice 1 [] .nil]] (.ret (.tup [])) (wrO (putN a.toNat++putN b.toNat++putN c.toNat) 0):=by have j:=pn_len d;have l:=pn_len i;have k:=pn_len e;refine cT (E:=E) (fn:=Tryz.f95) (g:=.full 1 _ _) λ_=>?_;refine gV ?_;refine gV ?_;refine Ac (λ_=>?_) (λ h=>absurd (of_decide_eq_false h) s_);refine gV ?_;refine ⟨0,rfl,?_⟩;refine gV ?_;refine ⟨_,rfl,?_⟩;refine gV ?_;refine .pure _ [] (put_ok _) ?_;refine gV ?_;refine .sole rfl (.eff [] [0] _ _ rfl (tZ _ o_) ?_);refine gV ?_;refine aJ ?_;refine gV ?_;refine gV ?_;refine Ac (λ_=>?_) (λ h=>absurd (of_decide_eq_false h) s_);refine gV ?_;refine ⟨1,rfl,?_⟩;refine gV ?_;refine ⟨_,rfl,?_⟩;refine gV ?_;refine .pure _ [] (put_ok _) ?_;refine gV ?_;refine .sole rfl (.eff [] [0,1] _ _ rfl (ws_ok _ _ o_) ?_);refine gV ?_;refine aJ ?_;refine gV ?_;refine gV ?_;refine Ac (λ_=>?_) (λ h=>absurd (of_decide_eq_false h) s_);refine gV ?_;refine ⟨2,rfl,?_⟩;refine gV ?_;refine ⟨_,rfl,?_⟩;refine gV ?_;refine .pure _ [] (put_ok _) ?_;refine gV ?_;refine .sole rfl (.eff [] [0,1] _ _ rfl (ws_ok _ _ q_) ?_);exact zqca6
def KF (g:Gan) (h:g.ok=true):ar 97 [.ref 0 0,g.av] [.cells tWr [.nilptr,.slice 1 [] .nil]] (.ret (.tup [])) (wrO (pl g.il) 0):=by
 obtain ⟨h1,c,h3⟩:=gan_b h;have a:=l3_m h1 g.id s_;have b:=l3_m h1 g.ten s_;have d:=l3_m h1 g.pods s_;have i:=pn_len a;have k:=pn_len b;have j:=pn_len d;have l2:=pl_len (v3_m c);simp only [V3.l,Al,Br] at l2;have e:pl g.il=(putN g.id.toNat++putN g.ten.toNat++putN g.pods.toNat)++pl g.need.l++pl [g.run,g.lev,g.pref]:=by simp [pl,Gan.il,V3.l]
 rw [e];refine cT (E:=E) (fn:=Tryz.f97) (g:=.full 1 _ _) λ_=>?_;refine gV ?_;refine .eff [] [0] _ _ rfl (aA.strip (ME g.id g.ten g.pods a b d)) ?_;refine gV ?_;refine .eff [] [0,2] _ _ rfl (rL g.need c _ q_) ?_;refine gV ?_;refine .eff [] [0,2] _ _ rfl (aA.strip (nums_ok [g.run,g.lev,g.pref] s_ (l3_m h3) s_ _ (by simp [V3.l];omega))) ?_;refine gV ?_;refine ⟨[],[0,2],⟨rfl,rfl⟩,?_⟩;exact ⟨rfl,rfl⟩
def pg_ok (g:Gan) (h:g.ok=true):ar 89 [g.av] [] (.ret (.str (pl g.il))) []:=by have a:pl g.il≠[]:=pl_ne _ _;refine c_ Tryz.f89 λ_=>?_;refine gV ?_;refine .eff [] [1] _ _ rfl (KF g h) ?_;refine gV ?_;refine .eff [] [1,2] _ _ rfl (str_ok _ a _) ?_;refine gW hE ?_;conv=>whnf
end Go.Proofs.YtidhfoefaomodaaGreatDoor.C8
namespace Go.Proofs.YtidhfoefaomodaaGreatDoor
open Go Go.AW Go.Proofs
set_option maxRecDepth 10000
def Sta.cmd (s:Sta):Cmd:=⟨1,s.c,Gan.zero,0⟩
def lV (s:Sta):List UInt8:=C8.encB s.cmd
def xN:List Nat->List UInt8
 | []=>[]
 | x::r=>wC x++xN r
def sI:List Pn->List UInt8
 | []=>[]
 | x::r=>(C8.pl x.g.il++C8.pl [x.seq,x.at'])++sI r
def oP:List Rn->List UInt8
 | []=>[]
 | x::r=>(C8.pl x.g.il++C8.pl [x.seq,x.at',x.st,x.fl]++C8.pl x.hs)++oP r
def bW (s:Sta):List UInt8:=C8.putN (lV s).length++lV s++C8.pl [s.now,s.nxt,(s.hist.length:Int)]++xN s.hist++C8.pl [(s.pend.length:Int)]++sI s.pend++C8.pl [(s.run.length:Int)]++oP s.run
structure Wr (s:Sta):Prop where
 con:(lV s).length<=10000
 nums:0<=s.now/\s.now<=1099511627776/\0<=s.nxt/\s.nxt<=1099511627776
 his:s.hist.length<=100
 pen:s.pend.length<=32
 run:s.run.length<=32
 pg:∀ x∈s.pend,x.g.ok=true/\okI [x.seq,x.at']=true
 rg:∀ x∈s.run,x.g.ok=true/\okI [x.seq,x.at',x.st,x.fl]=true/\okI x.hs=true/\x.hs≠[]/\x.hs.length<=16
noncomputable abbrev NT:Func:=Tryz.f40
abbrev enO (bs:List UInt8) (g:Nat):List ab:=SW.wrO bs g
def vY (g:Gan) (h:g.ok=true):(C8.pl g.il).length<=90:=by
 obtain ⟨h1,b,h3⟩:=C8.gan_b h;have l1:=C8.pl_len (C8.l3_m h1);have l2:=C8.pl_len (C8.v3_m b);have a:=C8.pl_len (C8.l3_m h3);have e:C8.pl g.il=C8.pl [g.id,g.ten,g.pods]++C8.pl g.need.l++C8.pl [g.run,g.lev,g.pref]:=by simp [C8.pl,Gan.il,V3.l]
 simp only [V3.l,Al,Br] at l1 l2 a;rw [e,Ai,Ai];simp only [V3.l];omega
def mT {l:List Int} (h:okI l=true):∀ n∈l,n<=9223372036854775807:=λ n a=>by have:=C8.okI_b h n a;omega
def aGU (s:Sta) (w:Wr s) (B:List UInt8) (f:B≠[]):∀ (m i:Nat) (bs:List UInt8),i+m=s.run.length->bs.length+300*m<=40000->bs++oP (s.run.drop i)=B->
  To E NT (.pure (.ret (.tup [.str B,ii 0]))) (.head (stk NT 2) [(7,.ref 0 0),(97,.slice 14 (rav s.run) .no),(98,.int .i64 ((rav s.run).length:Nat)),(99,ii (i:Int))] (enO bs 0)):=by
 have l:(rav s.run).length=s.run.length:=by simp
 have q:=w.run;intro m;induction m with
 | zero=>
  intro i bs p c a;rw [Ah o_] at a;have a:bs++[]=B:=a;rw [Av] at a;subst a;refine gV ?_;refine aF λ h=>?_;refine gV ?_;refine .eff [] [0,1] _ _ rfl (SW.str_ok _ f _) ?_;refine gW hE ?_;conv=>whnf
 | succ m r=>
  intro i bs p c a;have b:i<s.run.length:=o_;rw [Ae b] at a;have get:=dL b;obtain ⟨j,e,d,k,o⟩:=w.rg s.run[i] (Bh b);generalize s.run[i]=x at a get j e d k o;have a:bs++((C8.pl x.g.il++C8.pl [x.seq,x.at',x.st,x.fl]++C8.pl x.hs)++oP (s.run.drop (i+1)))=B:=a;rw [<-Af,<-Af,<-Af] at a;have l1:=vY x.g j;have l2:=C8.pl_len (mT e);have t:=C8.pl_len (mT d);simp only [Al,Br] at l2;have hp:=C8.pg_ok x.g j;have h1:=SW.ws_ok bs (C8.pl x.g.il) o_;have n:=SW.nums_ok [x.seq,x.at',x.st,x.fl] s_ (mT e) s_ (bs++C8.pl x.g.il) q_;have h3:=SW.nums_ok x.hs k (mT d) o_ (bs++C8.pl x.g.il++C8.pl [x.seq,x.at',x.st,x.fl]) (by simp only [Ai];omega);have ao:=r (i+1) _ o_ (by simp only [Ai];omega) a
  refine gV ?_;refine aT λ h=>?_;refine gV ?_;refine ⟨i,rfl,?_⟩;refine gV ?_;refine ⟨_,get,?_⟩;refine gV ?_;refine .pure _ [] hp ?_;refine gV ?_;refine .sole rfl (.eff [] [0,1] _ _ rfl h1 ?_);refine gV ?_;refine .eff [] [0,1] _ _ rfl (aA.strip n) ?_;refine gV ?_;refine .eff [] [0,1] _ _ rfl h3 ?_;refine gV ?_;refine aJ ?_;refine gV ?_;refine To.part [7,97,98,99] [0,1] rfl rfl rfl ?_;exact ao
def aGV (s:Sta) (w:Wr s) (B:List UInt8) (f:B≠[]):∀ (m i:Nat) (bs:List UInt8),i+m=s.pend.length->bs.length+150*m<=20000->bs++sI (s.pend.drop i)++(C8.pl [(s.run.length:Int)]++oP s.run)=B->
  To E NT (.pure (.ret (.tup [.str B,ii 0]))) (.head (stk NT 1) [(1,.ptr s.cs),(7,.ref 0 0),(69,.slice 11 (pnv s.pend) .no),(70,.int .i64 ((pnv s.pend).length:Nat)),(71,ii (i:Int))] (enO bs 0)):=by
 have k:(pnv s.pend).length=s.pend.length:=by simp
 have c:(rav s.run).length=s.run.length:=by simp
 have t:=w.pen;have q:=w.run;intro m;induction m with
 | zero=>
  intro i bs p d a;rw [Ah o_] at a;have a:bs++[]++(C8.pl [(s.run.length:Int)]++oP s.run)=B:=a;rw [Av,<-Af] at a;have hm:∀ n∈[(s.run.length:Int)],n<=9223372036854775807:=λ n l=>by simp at l;omega
  have l1:=C8.pl_len hm;simp only [Al,Br] at l1;have h1:=SW.nums_ok [(s.run.length:Int)] s_ hm s_ bs q_;have ao:=aGU s w B f s.run.length 0 (bs++C8.pl [(s.run.length:Int)]) o_ (by rw [Ai];omega) a
  rw [<-c] at h1;rw [<-c] at ao
  refine gV ?_;refine aF λ h=>?_;refine gV ?_;refine .eff [] [0,1] _ _ rfl (aA.strip h1) ?_;refine gV ?_;refine To.part [7,97,98,99] [0,1] rfl rfl rfl ?_;exact ao
 | succ m r=>
  intro i bs p d a;have b:i<s.pend.length:=o_;rw [Ae b] at a;have get:=IJ b;obtain ⟨j,e⟩:=w.pg s.pend[i] (Bh b);generalize s.pend[i]=x at a get j e;have a:bs++((C8.pl x.g.il++C8.pl [x.seq,x.at'])++sI (s.pend.drop (i+1)))++(C8.pl [(s.run.length:Int)]++oP s.run)=B:=a;rw [<-Af bs,<-Af bs] at a;have l1:=vY x.g j;have l2:=C8.pl_len (mT e);simp only [Al,Br] at l2;have hp:=C8.pg_ok x.g j;have h1:=SW.ws_ok bs (C8.pl x.g.il) o_;have o:=SW.nums_ok [x.seq,x.at'] s_ (mT e) s_ (bs++C8.pl x.g.il) q_;have ao:=r (i+1) _ o_ (by simp only [Ai];omega) a
  refine gV ?_;refine aT λ h=>?_;refine gV ?_;refine ⟨i,rfl,?_⟩;refine gV ?_;refine ⟨_,get,?_⟩;refine gV ?_;refine .pure _ [] hp ?_;refine gV ?_;refine .sole rfl (.eff [] [0,1] _ _ rfl h1 ?_);refine gV ?_;refine .eff [] [0,1] _ _ rfl (aA.strip o) ?_;refine gV ?_;refine aJ ?_;exact zqca43
def aJ8 {l:List Nat} {i:Nat} (h:i<l.length):(fv l)[i]? =some (.int .u64 (l[i]:Int)):=by simp [fv,h]
def aGW (s:Sta) (w:Wr s) (B:List UInt8) (e:B≠[]):∀ (m i:Nat) (bs:List UInt8),i+m=s.hist.length->bs.length+8*m<=15000->bs++xN (s.hist.drop i)++(C8.pl [(s.pend.length:Int)]++(sI s.pend++(C8.pl [(s.run.length:Int)]++oP s.run)))=B->
  To E NT (.pure (.ret (.tup [.str B,ii 0]))) (.head (stk NT 0) [(1,.ptr s.cs),(7,.ref 0 0),(49,.slice 1 (fv s.hist) .no),(50,.int .i64 ((fv s.hist).length:Nat)),(51,ii (i:Int))] (enO bs 0)):=by
 have f:(fv s.hist).length=s.hist.length:=by simp
 have c:(pnv s.pend).length=s.pend.length:=by simp
 have o:=w.pen;have g:=w.his;intro m;induction m with
 | zero=>
  intro i bs k d a;rw [Ah o_] at a;have a:bs++[]++(C8.pl [(s.pend.length:Int)]++(sI s.pend++(C8.pl [(s.run.length:Int)]++oP s.run)))=B:=a;rw [Av,<-Af,<-Af] at a;have hm:∀ n∈[(s.pend.length:Int)],n<=9223372036854775807:=λ n j=>by simp at j;omega
  have l1:=C8.pl_len hm;simp only [Al,Br] at l1;have h1:=SW.nums_ok [(s.pend.length:Int)] s_ hm s_ bs q_;have ao:=aGV s w B e s.pend.length 0 (bs++C8.pl [(s.pend.length:Int)]) o_ (by rw [Ai];omega) a
  rw [<-c] at h1;rw [<-c] at ao
  refine gV ?_;refine aF λ h=>?_;refine gV ?_;refine .eff [] [0,1] _ _ rfl (aA.strip h1) ?_;exact zqca43
 | succ m l=>
  intro i bs k d a;have b:i<s.hist.length:=o_;rw [Ae b] at a;have get:=aJ8 b;generalize s.hist[i]=x at a get;have a:bs++(wC x++xN (s.hist.drop (i+1)))++(C8.pl [(s.pend.length:Int)]++(sI s.pend++(C8.pl [(s.run.length:Int)]++oP s.run)))=B:=a;rw [<-Af bs] at a;have l1:(wC x).length=8:=jS x 8;have hp:=aFw x;have h1:=SW.ws_ok bs (wC x) o_;have ao:=l (i+1) _ o_ (by simp only [Ai];omega) a
  refine gV ?_;refine aT λ h=>?_;refine gV ?_;refine ⟨i,rfl,?_⟩;refine gV ?_;refine ⟨_,get,?_⟩;refine gV ?_;refine .pure _ [] hp ?_;refine gV ?_;refine .sole rfl (.eff [] [0,1] _ _ rfl h1 ?_);refine gV ?_;refine aJ ?_;refine gV ?_;refine To.part [1,7,49,50,51] [0,1] rfl rfl rfl ?_;exact ao
def enB (s:Sta):List ab:=[.cells 31 s.cs]
def aKj (s:Sta):List ab:=[.fcells s.cs]
def aKi (s:Sta):aj [0] (enB s)=aKj s:=by kernel_rfl
def aGZ (s:Sta):vZ [1] (aC (aKj s)) [(1,.ref 0 0),(2,.str []),(3,ii 0)]=[(1,.ptr s.cs),(2,.str []),(3,ii 0)]:=by kernel_rfl
def aGY {g:Goal} {ks:List KI} (s:Sta) (h:To E NT g (.code ks [(1,.ptr s.cs),(2,.str []),(3,ii 0)] (aKj s))):To E NT g (.code ks [(1,.ref 0 0),(2,.str []),(3,ii 0)] (enB s)):=by refine To.frz [1] [0] ?_;rw [aKi,aGZ];exact h
def aKh (s:Sta):List UInt8:=if lW s=true then bW s else []
def aEQ (s:Sta) (m:s.c.sm) (hs:Sm s.run) (p:lW s=true->Wr s):ar 40 [s.av] [] (.ret (.tup [.str (aKh s),ii (if lW s=true then 0 else 1)])) []:=by
 have a:=FI s m hs;unfold aKh;cases j:lW s with
 | false=>
  rw [j] at a;have a:ar 84 [s.av] [] (.ret (ii 1)) []:=a;show aA _ _ _ _ (.ret (.tup [.str [],ii 1])) _;refine c_ Tryz.f40 λ_=>?_
  repeat' first | (refine gN hE ?_;conv=>whnf) | refine .pure _ [] a ?_ | exact rfl | (refine zt ?_;try intro h) | refine zu (λ h=>?_) λ h=>?_ | fail
 | true=>
  rw [j] at a;have a:ar 84 [s.av] [] (.ret (ii 0)) []:=a;show aA _ _ _ _ (.ret (.tup [.str (bW s),ii 0])) _;have w:=p j;have d:ar 42 [s.cmd.av] [] (.ret (.tup [.str (lV s),ii (C8.chk s.cmd)])) []:=C8.enc_ok s.cmd;have b:(fv s.hist).length=s.hist.length:=by simp
  have o:=w.con;have q:=w.his;obtain ⟨n1,n2,v,t⟩:=w.nums;have h1:=SW.nums_fresh ((lV s).length:Int) o_;rw [Bt] at h1;have u:(C8.putN (lV s).length).length<=10:=by have:=C8.pn_len (n:=((lV s).length:Int)) o_;rw [Bt] at this;omega
  have k:=SW.ws_ok (C8.putN (lV s).length) (lV s) o_;have hm:∀ n∈[s.now,s.nxt,(s.hist.length:Int)],n<=9223372036854775807:=λ n l=>by simp at l;omega
  have r:=C8.pl_len hm;simp only [Al,Br] at r;have h3:=SW.nums_ok [s.now,s.nxt,(s.hist.length:Int)] s_ hm s_ (C8.putN (lV s).length++lV s) q_;have i:bW s≠[]:=by
   intro h;have:=congrArg Lm h;unfold bW at this;have e:C8.pl [s.now,s.nxt,(s.hist.length:Int)]≠[]:=C8.pl_ne _ _;have:=Dy.2 e;simp only [Ai,Br] at *
   omega
  have ao:=aGW s w (bW s) i s.hist.length 0 (C8.putN (lV s).length++lV s++C8.pl [s.now,s.nxt,(s.hist.length:Int)]) o_ (by simp only [Ai];omega) (by unfold bW;simp only [Ci,Af])
  rw [<-b] at h3;rw [<-b] at ao
  generalize lV s=C at d h1 k h3 ao
  generalize bW s=B at ao
  generalize C8.chk s.cmd=ck at d;refine c_ Tryz.f40 λ_=>?_;refine cO hE 13 ?_;conv=>whnf
  refine To.cutC [1,2,3] 1 rfl rfl rfl rfl ?_;refine aGY s ?_;refine gV ?_;refine .pure _ [] a ?_;refine gV ?_;refine Ac (λ h=>absurd h d_) (λ_=>?_);refine gV ?_;refine .pure _ [] d ?_;refine gV ?_;refine .eff [] [1] _ _ rfl (aA.strip h1) ?_;refine gV ?_;refine .eff [] [1,2] _ _ rfl k ?_;refine gV ?_;refine .eff [] [1,2] _ _ rfl (aA.strip h3) ?_;refine gV ?_;refine To.part [1,7,49,50,51] [1,2] rfl rfl rfl ?_;exact ao
open C8 (leN I0 qT E9)
set_option maxRecDepth 10000
def JA (l:List UInt8):aa:=if l.length<8 then .tup [.int .u64 0,.int .i64 0,.int .i64 10] else .tup [.int .u64 (leN (l.take 8)),.int .i64 8,.int .i64 0]
noncomputable abbrev fGF:Func:=Tryz.f154
def X3 (l:List UInt8) (hl:8<=l.length):∀ (f i:Nat),i+f=8->
  To E fGF (.pure (.ret (.tup [.int .u64 (leN (l.take 8)),.int .i64 8,.int .i64 0]))) (.head (stk fGF 0) [(0,.str l),(5,.int .u64 (leN (l.take i))),(10,.int .i64 i)] []):=by
 intro f;induction f with
 | zero=>
  intro i k;have e:i=8:=o_;subst e;refine gV ?_;refine aF λ h=>?_
  repeat' first | (refine gN hE ?_;conv=>whnf) | exact rfl | (refine zt ?_;try intro h) | refine zu (λ h=>?_) λ h=>?_ | fail
 | succ f n=>
  intro i k
  obtain ⟨c,g⟩:∃ c,l[i]? =some c:=⟨l[i]' o_,Aa o_⟩
  have m:c.toNat<256:=c.toNat_lt;have a:=I0 (l.take i);rw [Dp,Gp o_] at a;have q:2 ^ (8*(i+1))=256*2 ^ (8*i):=by rw [Gs,Fu];omega
  have o:c.toNat*2 ^ (8*i)<=255*2 ^ (8*i):=Bu _ o_;have p:2 ^ (8*(i+1))<=2 ^ 64:=Ew d_ o_;have b:(8*(i:Int)).toNat=8*i:=o_;have d:(c.toNat:Int)*2 ^ (8*i)=((c.toNat*2 ^ (8*i):Nat):Int):=by simp
  have j:dF .or .u64 (leN (l.take i):Int) ((c.toNat*2 ^ (8*i):Nat):Int)=((leN (l.take (i+1)):Nat):Int):=by rw [nZ .u64 _ _ (by simp only [bE];omega) (by simp only [bE];omega),CC a,E9 g,qT,Dp,Gp o_]
  have ao:=n (i+1) o_
  refine gV ?_;refine aT λ h=>?_;refine gV ?_;refine ⟨i,rfl,?_⟩;refine gV ?_;refine ⟨c,g,?_⟩;refine gV ?_;refine Gd (Ac (show inR IntKind.u64 (c.toNat:Int) from rZ (by simp only [bE];omega)) ?_);refine gV ?_;refine aJ ?_;refine gV ?_;refine Ac (show (0:Int)<=8*(i:Int) by omega) ?_;refine gV ?_;refine Gd (Ac (Ac (by rw [b];simp only [IntKind.bits];omega) (by rw [b,d];exact rZ (by simp only [bE];omega))) ?_);refine gV ?_;rw [b,d,j];refine aJ ?_;refine gV ?_;refine To.part [0,5,10] [] rfl rfl rfl ?_;exact ao
def aGx (l:List UInt8):ar 154 [.str l] [] (.ret (JA l)) []:=by
 unfold JA;by_cases h:l.length<8
 .rw [if_pos h];refine c_ Tryz.f154 λ_=>?_;refine gV ?_;refine Ac (λ_=>?_) (λ h=>absurd (of_decide_eq_false h) o_)
  repeat' first | (refine gN hE ?_;conv=>whnf) | exact rfl | (refine zt ?_;try intro h) | refine zu (λ h=>?_) λ h=>?_ | fail
 .rw [if_neg h];have ao:=X3 l o_ 8 0 rfl
  refine c_ Tryz.f154 λ_=>?_;refine gV ?_;refine Ac (λ h=>absurd (of_decide_eq_true h) o_) (λ_=>?_)
  repeat' first | (refine gN hE ?_;conv=>whnf) | exact rfl | (refine zt ?_;try intro h) | refine zu (λ h=>?_) λ h=>?_ | fail
  refine To.part [0,5,10] [] rfl rfl rfl ?_;exact ao
open C8 (leN bL dB rGan rdO rdU oQ xD aW aK bF bM lM iY AL uX bO eF tRd)
set_option maxRecDepth 10000
abbrev RSt:Type:=Option ((Sta×Bool)×List UInt8)
def Con.nil:Con:=⟨[],[],0,0⟩
def Sta.nil:Sta:=⟨Con.nil,0,0,[],[],[]⟩
def vD:Nat->List Int->List UInt8->Option (List Int×List UInt8)
 | 0,hs,s=>some (hs,s)
 | m+1,hs,s=>match bL s with
  | none=>none
  | some (h,s)=>vD m (hs++[h]) s
def rR (c:Con) (now nxt:Int) (d:List Nat) (b:List Pn):Nat->List Rn->List UInt8->RSt
 | 0,rs,s=>some ((⟨c,now,nxt,b,rs,d⟩,s==[]),s)
 | m+1,rs,s=>match rGan s with
  | none=>none
  | some (g,s)=>match bL s with
   | none=>none
   | some (q,s)=>match bL s with
        | none=>none
        | some (a,s)=>match bL s with
         | none=>none
         | some (t,s)=>match bL s with
          | none=>none
          | some (f,s)=>if decide ((s.length:Int)<g.pods)=true then some ((⟨c,now,nxt,b,rs,d⟩,false),s) else match vD g.pods.toNat [] s with
           | none=>none
           | some (hs,s)=>rR c now nxt d b m (rs++[⟨g,q,a,t,f,hs⟩]) s
def rRs (c:Con) (now nxt:Int) (b:List Nat) (a:List Pn) (s:List UInt8):RSt:=match dB s with
 | none=>none
 | some (n,s)=>rR c now nxt b a n.toNat [] s
def rP (c:Con) (now nxt:Int) (b:List Nat):Nat->List Pn->List UInt8->RSt
 | 0,ps,s=>rRs c now nxt b ps s
 | m+1,ps,s=>match rGan s with
  | none=>none
  | some (g,s)=>match bL s with
   | none=>none
   | some (q,s)=>match bL s with
        | none=>none
        | some (a,s)=>rP c now nxt b m (ps++[⟨g,q,a⟩]) s
def rPs (c:Con) (now nxt:Int) (a:List Nat) (s:List UInt8):RSt:=match dB s with
 | none=>none
 | some (n,s)=>rP c now nxt a n.toNat [] s
def rH (c:Con) (now nxt:Int):Nat->List Nat->List UInt8->RSt
 | 0,hi,s=>rPs c now nxt hi s
 | m+1,hi,s=>if s.length<8 then some ((⟨c,now,nxt,[],[],hi⟩,false),s) else rH c now nxt m (hi++[leN (s.take 8)]) (s.drop 8)
def rB (c:Con) (s:List UInt8):RSt:=match bL s with
 | none=>none
 | some (now,s)=>match bL s with
  | none=>none
  | some (nxt,s)=>match dB s with
   | none=>none
   | some (n,s)=>rH c now nxt n.toNat [] s
def rSt (s:List UInt8):RSt:=match dB s with
 | none=>none
 | some (n,s)=>match C8.dec (s.take n.toNat) with
  | none=>some ((Sta.nil,false),s)
  | some x=>if x.k=1 then rB x.c (s.drop n.toNat) else some ((Sta.nil,false),s)
def stR (p:Sta×Bool):aa:=.tup [p.1.av,.bool p.2]
noncomputable abbrev fRd:Func:=Tryz.f93
abbrev reC (c:Con) (now nxt:Int) (p r h:aa):List aa:=[.slice 11 (nav c.ns) .no,.slice 6 (hav c.hs) .no,ii c.half,ii c.age,ii now,ii nxt,p,r,h]
def IF {s s':List UInt8} {g:Gan} (h:rGan s=some (g,s')):s'.length+1<=s.length/\0<=g.pods/\g.pods<=9223372036854775807:=by
 unfold C8.rGan at h;split at h
 .cases h
 .rename_i h1;split at h
  .cases h
  .rename_i d;split at h
   .cases h
   .rename_i h3;split at h
    .cases h
    .rename_i f;split at h
     .cases h
     .rename_i b;split at h
      .cases h
      .rename_i c;split at h
       .cases h
       .rename_i e;cases h;have i:=bO h1;have n:=bO d;have a:=bO h3;have j:=C8.rVec_b f;have k:=bO b;have l:=bO c;have m:=bO e;exact ⟨by omega,a.1,a.2.1⟩
abbrev reR (c:Con) (now nxt:Int) (hi:List Nat) (ps:List Pn) (rs:List Rn) (s:List UInt8):List ab:=[.cells tRd [.str s],.cells 31 (reC c now nxt (.slice 11 (pnv ps) .no) (.slice 14 (rav rs) (.own 2 0)) (.slice 1 (fv hi) .no)),.tail 0 14 107]
abbrev reG (g:Gan) (q a t f:Int) (x:aa):List aa:=[ii g.id,ii g.ten,ii g.pods,ii g.need.a,ii g.need.b,ii g.need.c,ii g.run,ii g.lev,ii g.pref,ii q,ii a,ii t,ii f,x]
def aFa (c:Con) (now nxt:Int) (v:List Nat) (p:List Pn) (b:List Rn) (C:b.length<=1000000) (n:Int) (i:Nat) (D:(i:Int)<9223372036854775807) (g:Gan) (q a t f:Int) (hp:0<=g.pods/\g.pods<=9223372036854775807) (r:Res) (O:List ab) (m:Nat)
  (w:∀ (hs:List Int) (s:List UInt8),s.length<=1000000->b.length+s.length+1<=1000000->hs.length<=1000000->oQ stR (rR c now nxt v p m (b++[⟨g,q,a,t,f,hs⟩]) s)=r->xD (rR c now nxt v p m (b++[⟨g,q,a,t,f,hs⟩]) s)=O->
   To E fRd (.full 1 r O) (.head (stk fRd 2) [(0,.ref 0 0),(2,.ref 1 0),(99,.int .i64 n),(100,.int .i64 ((i:Int)+1))] (reR c now nxt v p (b++[⟨g,q,a,t,f,hs⟩]) s))):
  ∀ (k j:Nat) (s:List UInt8) (hs:List Int),(j+k:Int)=g.pods->hs.length+s.length<=1000000->b.length+s.length+1<=1000000->
   oQ stR (match vD k hs s with | none=>none | some (hs,s)=>rR c now nxt v p m (b++[⟨g,q,a,t,f,hs⟩]) s)=r->xD (match vD k hs s with | none=>none | some (hs,s)=>rR c now nxt v p m (b++[⟨g,q,a,t,f,hs⟩]) s)=O->
  To E fRd (.full 1 r O) (.head (stk fRd 3) [(0,.ref 0 0),(2,.ref 1 0),(10,.ref 3 0),(99,.int .i64 n),(100,.int .i64 i),(125,ii g.pods),(126,.int .i64 j)]
   (reR c now nxt v p b s++[.cells 107 (reG g q a t f (.slice 1 (iv hs) (.own 4 0))),.tail 0 1 3])):=by
 intro k;induction k with
 | zero=>
  intro j s hs A hl x l d;have l:oQ stR (rR c now nxt v p m (b++[⟨g,q,a,t,f,hs⟩]) s)=r:=l;have d:xD (rR c now nxt v p m (b++[⟨g,q,a,t,f,hs⟩]) s)=O:=d;have y:(rav b).length=b.length:=by simp
  have ao:=w hs s o_ x o_ l d
  have e:rav (b++[⟨g,q,a,t,f,hs⟩])=rav b++[Rn.av ⟨g,q,a,t,f,hs⟩]:=by simp
  unfold reR at ao
  rw [e] at ao
  refine gV ?_;refine aF λ h=>?_
  repeat' first | (refine gN hE ?_;conv=>whnf) | refine ⟨⟨by simp only [maxLen];simp;omega,by simp;omega⟩,?_⟩ | exact rfl | (refine zt ?_;try intro h) | refine zu (λ h=>?_) λ h=>?_ | fail
  refine To.part [0,2,99,100] [0,1,2] rfl rfl rfl ?_;exact ao
 | succ k B=>
  intro j s hs A hl x l d;unfold vD at l d;have y:(iv hs).length=hs.length:=by simp
  refine gV ?_;refine aT λ h=>?_;refine cO hE 3 ?_;conv=>whnf
  refine To.permAt hE [0,1,2,6] [3,4,5,7] (by rfl) ?_;conv=>whnf
  refine aL ?_;conv=>whnf
  refine aK (o:=bL s) (λ h1=>?_) (λ⟨u,z⟩ h1=>?_)
  .simp only [h1] at l d;have l:Res.pan (aW 10)=r:=l;have d:rdU=O:=d;subst l d;exact zqca19
  simp only [h1] at l d;refine .eff [] [0] _ _ rfl (bF h1) ?_;have F:=bO h1;have ao:=B (j+1) z (hs++[u]) o_ q_ o_ l d
  have e:iv (hs++[u])=iv hs++[ii u]:=by simp
  rw [e] at ao;conv=>whnf
  refine aL ?_;conv=>whnf;conv=>whnf
  refine aL ?_;conv=>whnf
  refine ⟨⟨by simp only [maxLen];simp;omega,by simp;omega⟩,?_⟩;conv=>whnf
  refine aL ?_;conv=>whnf;conv=>whnf
  refine aL ?_;conv=>whnf
  refine gV ?_;refine aJ ?_;refine gV ?_;refine To.part [0,2,10,99,100,125,126] [0,1,2,3,4] rfl rfl rfl ?_;exact ao
def aE0 (c:Con) (now nxt:Int) (u:List Nat) (l:List Pn) (n:Int) (G:n<=9223372036854775807) (r:Res) (O:List ab):∀ (m i:Nat) (s:List UInt8) (e:List Rn),(i+m:Int)=n->e.length+s.length<=1000000->oQ stR (rR c now nxt u l m e s)=r->xD (rR c now nxt u l m e s)=O->
  To E fRd (.full 1 r O) (.head (stk fRd 2) [(0,.ref 0 0),(2,.ref 1 0),(99,.int .i64 n),(100,.int .i64 i)] (reR c now nxt u l e s)):=by
 intro m;induction m with
 | zero=>
  intro i s e v hl d b;have d:Res.ret (.tup [Sta.av ⟨c,now,nxt,l,e,u⟩,.bool (s==[])])=r:=d;have b:rdO s=O:=b;subst d b;refine gV ?_;refine aF λ h=>?_;refine cO hE 2 ?_;conv=>whnf
  refine To.permAt hE [0,1,2,3,4,5] [6,7] (by rfl) ?_;conv=>whnf
  refine aL ?_;conv=>whnf;conv=>whnf
  refine aL ?_;conv=>whnf;conv=>whnf
  refine aL ?_;conv=>whnf
  refine gV ?_;exact zqca7
 | succ m F=>
  intro i s e v hl d b;unfold rR at d b;have y:(rav e).length=e.length:=by simp
  refine gV ?_;refine aT λ h=>?_;refine gV ?_;refine aK (o:=rGan s) (λ h1=>?_) (λ⟨g,z⟩ h1=>?_)
  .exact zqca27
  simp only [h1] at d b;refine .eff [] [0] _ _ rfl (AL h1) ?_;refine gV ?_;refine aK (o:=bL z) (λ j=>?_) (λ⟨q,B⟩ j=>?_)
  .exact zqca39
  simp only [j] at d b;refine .eff [] [0] _ _ rfl (bF j) ?_;refine gV ?_;refine aK (o:=bL B) (λ h3=>?_) (λ⟨a,D⟩ h3=>?_)
  .exact zqca38
  simp only [h3] at d b;refine .eff [] [0] _ _ rfl (bF h3) ?_;refine gV ?_;refine aK (o:=bL D) (λ k=>?_) (λ⟨t,C⟩ k=>?_)
  .simp only [k] at d b;have d:Res.pan (aW 10)=r:=d;have b:rdU=O:=b;subst d b;refine .effp [] [0] _ _ rfl (bM k) ?_;exact zx [0]
  simp only [k] at d b;refine .eff [] [0] _ _ rfl (bF k) ?_;refine gV ?_;refine aK (o:=bL C) (λ p=>?_) (λ⟨f,x⟩ p=>?_)
  .simp only [p] at d b;have d:Res.pan (aW 10)=r:=d;have b:rdU=O:=b;subst d b;refine .effp [] [0] _ _ rfl (bM p) ?_;exact zx [0]
  simp only [p] at d b;refine .eff [] [0] _ _ rfl (bF p) ?_;have A:=IF h1;have K:=bO j;have L:=bO h3;have J:=bO k;have M:=bO p;refine gV ?_;refine Ac (λ w=>?_) (λ w=>?_)
  .rw [if_pos w] at d b;have d:Res.ret (.tup [Sta.av ⟨c,now,nxt,l,e,u⟩,.bool false])=r:=d;have b:rdO x=O:=b;subst d b;refine gV ?_;exact zqca7
  .rw [if_neg (by rw [w];decide)] at d b;refine gV ?_;refine To.part [0,2,10,99,100,125,126] [0,1,2,3] rfl rfl rfl ?_;refine To.begin 3 13 3 rfl rfl ?_;exact aFa c now nxt u l e o_ n i o_ g q a t f A.2 r O m (λ hs s' H N I d b=>F (i+1) s' _ o_ q_ d b) g.pods.toNat 0 x [] o_ q_ o_ d b
abbrev reP (c:Con) (now nxt:Int) (hi:List Nat) (ps:List Pn) (s:List UInt8):List ab:=[.cells tRd [.str s],.cells 31 (reC c now nxt (.slice 11 (pnv ps) (.own 2 0)) (.slice 14 [] .nil) (.slice 1 (fv hi) .no)),.tail 0 11 47]
def aE2 (c:Con) (now nxt:Int) (l:List Nat) (n:Int) (A:n<=9223372036854775807) (r:Res) (O:List ab):∀ (m i:Nat) (s:List UInt8) (f:List Pn),(i+m:Int)=n->f.length+s.length<=1000000->oQ stR (rP c now nxt l m f s)=r->xD (rP c now nxt l m f s)=O->
  To E fRd (.full 1 r O) (.head (stk fRd 1) [(0,.ref 0 0),(2,.ref 1 0),(82,.int .i64 n),(83,.int .i64 i)] (reP c now nxt l f s)):=by
 intro m;induction m with
 | zero=>
  intro i s f u hl d b;unfold rP rRs at d b;refine gV ?_;refine aF λ h=>?_;refine gV ?_;refine aK (o:=dB s) (λ h1=>?_) (λ⟨k,p⟩ h1=>?_)
  .simp only [h1] at d b;have d:Res.pan (aW 10)=r:=d;have b:rdU=O:=b;subst d b;refine .effp [] [0] _ _ rfl (iY h1) ?_;exact zx [0]
  simp only [h1] at d b;refine .eff [] [0] _ _ rfl (lM h1) ?_;have w:=eF h1;refine gV ?_;refine To.part [0,2,99,100] [0,1] rfl rfl rfl ?_;refine To.begin 1 7 107 rfl rfl ?_;exact aE0 c now nxt l f k o_ r O k.toNat 0 p [] o_ q_ d b
 | succ m z=>
  intro i s f u hl d b;unfold rP at d b;have v:(pnv f).length=f.length:=by simp
  refine gV ?_;refine aT λ h=>?_;refine cO hE 3 ?_;conv=>whnf
  refine To.permAt hE [0,1,2,4,6,11] [3,5,7,8,9,10,12] (by rfl) ?_;conv=>whnf
  refine aL ?_;conv=>whnf
  refine aK (o:=rGan s) (λ h1=>?_) (λ⟨g,p⟩ h1=>?_)
  .exact zqca27
  simp only [h1] at d b;refine .eff [] [0] _ _ rfl (AL h1) ?_;conv=>whnf
  refine aL ?_;conv=>whnf
  refine aK (o:=bL p) (λ j=>?_) (λ⟨q,x⟩ j=>?_)
  .exact zqca39
  simp only [j] at d b;refine .eff [] [0] _ _ rfl (bF j) ?_;conv=>whnf
  refine aL ?_;conv=>whnf
  refine aK (o:=bL x) (λ h3=>?_) (λ⟨a,y⟩ h3=>?_)
  .exact zqca38
  simp only [h3] at d b;refine .eff [] [0] _ _ rfl (bF h3) ?_;conv=>whnf
  refine aL ?_;conv=>whnf;conv=>whnf
  refine aL ?_;conv=>whnf;conv=>whnf
  refine aL ?_;conv=>whnf
  refine ⟨⟨by simp only [maxLen];simp;omega,by simp;omega⟩,?_⟩;conv=>whnf
  refine aL ?_;conv=>whnf;conv=>whnf
  refine aL ?_;conv=>whnf
  refine gV ?_;refine aJ ?_;refine gV ?_;refine To.part [0,2,82,83] [0,1,2] rfl rfl rfl ?_;have w:=IF h1;have B:=bO j;have C:=bO h3;have ao:=z (i+1) y (f++[⟨g,q,a⟩]) o_ q_ d b
  have e:pnv (f++[⟨g,q,a⟩])=pnv f++[Pn.av ⟨g,q,a⟩]:=by simp
  unfold reP at ao
  rw [e] at ao
  exact ao
abbrev reH (c:Con) (now nxt:Int) (hi:List Nat) (s:List UInt8):List ab:=[.cells tRd [.str s],.cells 31 (reC c now nxt (.slice 11 [] .nil) (.slice 14 [] .nil) (.slice 1 (fv hi) (.own 2 0))),.tail 0 1 130]
def aE9 (c:Con) (now nxt:Int) (n:Int) (v:n<=9223372036854775807) (r:Res) (O:List ab):∀ (m i:Nat) (s:List UInt8) (d:List Nat),(i+m:Int)=n->d.length+s.length<=1000000->oQ stR (rH c now nxt m d s)=r->xD (rH c now nxt m d s)=O->
  To E fRd (.full 1 r O) (.head (stk fRd 0) [(0,.ref 0 0),(2,.ref 1 0),(50,.int .i64 n),(51,.int .i64 i)] (reH c now nxt d s)):=by
 intro m;induction m with
 | zero=>
  intro i s d g hl b a;unfold rH rPs at b a;refine gV ?_;refine aF λ h=>?_;refine gV ?_;refine aK (o:=dB s) (λ h1=>?_) (λ⟨k,p⟩ h1=>?_)
  .exact zqca14
  simp only [h1] at b a;refine .eff [] [0] _ _ rfl (lM h1) ?_;have u:=eF h1;refine gV ?_;refine To.part [0,2,82,83] [0,1] rfl rfl rfl ?_;refine To.begin 1 6 47 rfl rfl ?_;exact aE2 c now nxt d k o_ r O k.toNat 0 p [] o_ q_ b a
 | succ m q=>
  intro i s d g hl b a;unfold rH at b a;have l:(fv d).length=d.length:=by simp
  have f:=aGx s;unfold JA at f;by_cases j:s.length<8
  .rw [if_pos j] at b a f;have b:Res.ret (.tup [Sta.av ⟨c,now,nxt,[],[],d⟩,.bool false])=r:=b;have a:rdO s=O:=a;subst b a;refine gV ?_;refine aT λ h=>?_;refine gV ?_;refine .pure _ [] f ?_;exact zqca34
  .rw [if_neg j] at b a f;have ao:=q (i+1) (s.drop 8) (d++[leN (s.take 8)]) o_ q_ b a
   have e:fv (d++[leN (s.take 8)])=fv d++[.int .u64 ((leN (s.take 8):Nat):Int)]:=by simp
   unfold reH at ao
   rw [e] at ao
   refine gV ?_;refine aT λ h=>?_;refine gV ?_;refine .pure _ [] f ?_;refine gV ?_;refine Ac (λ h=>absurd h d_) (λ_=>?_);refine gV ?_;refine ⟨8,rfl,?_⟩;refine gV ?_;refine ⟨by omega,?_⟩;refine gV ?_;refine ⟨⟨by simp only [maxLen];simp;omega,by simp;omega⟩,?_⟩;refine gV ?_;refine aJ ?_;refine gV ?_;refine To.part [0,2,50,51] [0,1,2] rfl rfl rfl ?_;exact ao
def LK (s:List UInt8) (hs:s.length<=1000000) (r:Res) (O:List ab) (b:oQ stR (rSt s)=r) (a:xD (rSt s)=O):ar 93 [.ref 0 0] (rdO s) r O:=by
 unfold rSt at b a;refine cT (E:=E) (fn:=Tryz.f93) (g:=.full 1 _ _) λ_=>?_;refine gV ?_;refine aK (o:=dB s) (λ h1=>?_) (λ⟨n,e⟩ h1=>?_)
 .exact zqca14
 simp only [h1] at b a;refine .eff [] [0] _ _ rfl (lM h1) ?_;have w:=eF h1;have d:=C8.decode_ok (e.take n.toNat) q_;unfold C8.decX C8.decE at d;have i:n=((n.toNat:Nat):Int):=o_;refine aK (o:=C8.dec (e.take n.toNat)) (λ p=>?_) (λ x p=>?_)
 .simp only [p] at b a d;have d:ar 43 [.str (e.take n.toNat)] [] (.ret (.tup [Cmd.zero.av,ii 10])) []:=d;have b:Res.ret (.tup [Sta.av Sta.nil,.bool false])=r:=b;have a:rdO e=O:=a;subst b a;refine gV ?_;refine ⟨n.toNat,i,?_⟩;refine gV ?_;refine ⟨by omega,?_⟩;refine gV ?_;refine .pure _ [] d ?_;refine gV ?_;refine Ac (λ_=>?_) (λ h=>absurd h d_);exact zqca34
 .simp only [p] at b a d;have d:ar 43 [.str (e.take n.toNat)] [] (.ret (.tup [x.av,ii 0])) []:=d;by_cases m:x.k=1
  .rw [if_pos m] at b a;unfold rB at b a;refine gV ?_;refine ⟨n.toNat,i,?_⟩;refine gV ?_;refine ⟨by omega,?_⟩;refine gV ?_;refine .pure _ [] d ?_;refine gV ?_;refine Ac (λ h=>absurd h d_) (λ_=>?_);refine gV ?_;refine Ac (λ h=>absurd h (by simp [m])) (λ_=>?_);refine gV ?_;refine ⟨n.toNat,i,?_⟩;refine gV ?_;refine ⟨by omega,?_⟩;refine cO hE 13 ?_;conv=>whnf
   refine To.permAt hE [0,1,2,4,6,8,10] [3,5,7,9,11] (by rfl) ?_;conv=>whnf
   refine aL ?_;conv=>whnf
   refine aK (o:=bL (e.drop n.toNat)) (λ h3=>?_) (λ⟨now,q⟩ h3=>?_)
   .simp only [h3] at b a;have b:Res.pan (aW 10)=r:=b;have a:rdU=O:=a;subst b a;exact zqca18
   simp only [h3] at b a;refine .eff [] [0] _ _ rfl (bF h3) ?_;have B:=bO h3;conv=>whnf
   refine aL ?_;conv=>whnf
   refine aK (o:=bL q) (λ j=>?_) (λ⟨nxt,v⟩ j=>?_)
   .simp only [j] at b a;have b:Res.pan (aW 10)=r:=b;have a:rdU=O:=a;subst b a;exact zqca25
   simp only [j] at b a;refine .eff [] [0] _ _ rfl (bF j) ?_;have z:=bO j;conv=>whnf
   refine aL ?_;conv=>whnf;conv=>whnf
   refine aL ?_;conv=>whnf;conv=>whnf
   refine aL ?_;conv=>whnf;conv=>whnf
   refine aL ?_;conv=>whnf
   refine gV ?_;refine aK (o:=dB v) (λ l=>?_) (λ⟨k,u⟩ l=>?_)
   .simp only [l] at b a;have b:Res.pan (aW 10)=r:=b;have a:rdU=O:=a;subst b a;refine .effp [] [0] _ _ rfl (iY l) ?_;exact zx [0]
   simp only [l] at b a;refine .eff [] [0] _ _ rfl (lM l) ?_;have C:=eF l;have y:(e.drop n.toNat).length<=e.length:=by simp
   refine gV ?_;refine To.part [0,2,50,51] [0,1] rfl rfl rfl ?_;refine To.begin 1 8 130 rfl rfl ?_;exact aE9 x.c now nxt k o_ r O k.toNat 0 u [] o_ q_ b a
  .rw [if_neg m] at b a;have b:Res.ret (.tup [Sta.av Sta.nil,.bool false])=r:=b;have a:rdO e=O:=a;subst b a;refine gV ?_;refine ⟨n.toNat,i,?_⟩;refine gV ?_;refine ⟨by omega,?_⟩;refine gV ?_;refine .pure _ [] d ?_;refine gV ?_;refine Ac (λ h=>absurd h d_) (λ_=>?_);refine gV ?_;refine Ac (λ_=>?_) (λ h=>absurd h (by simp [m]));refine To.loose ?_;refine gV ?_;exact zqca7
def aFd {s s':List UInt8} (hs:s.length<=1000000) {x:Sta} {b:Bool} (h:rSt s=some ((x,b),s')):ar 93 [.ref 0 0] (rdO s) (.ret (.tup [x.av,.bool b])) (rdO s'):=LK s hs _ _ (by rw [h];rfl) (by rw [h];rfl)
def aAZ {s:List UInt8} (hs:s.length<=1000000) (h:rSt s=none):ar 93 [.ref 0 0] (rdO s) (.pan (aW 10)) rdU:=LK s hs _ _ (by rw [h];rfl) (by rw [h];rfl)
open C8 (bL dB rGan rdO rdU aW aK bO eF tRd)
set_option maxRecDepth 10000
abbrev zSt:List aa:=[.slice 11 [] .nil,.slice 6 [] .nil,ii 0,ii 0,ii 0,ii 0,.slice 11 [] .nil,.slice 14 [] .nil,.slice 1 [] .nil]
abbrev deO (s:List UInt8):List ab:=[.cells 9 [.str s],.cells 31 zSt,.cells 4 [.bool false]]
abbrev deX (s:List UInt8) (x:Sta) (b:Bool):List ab:=[.cells 9 [.str s],.cells 31 x.cs,.cells 4 [.bool b]]
abbrev deU:List ab:=sR (λ_=>.undef) (deO [])
def aKz {s s':List UInt8} (hs:s.length<=1000000) {x:Sta} {b:Bool} (h:rSt s=some ((x,b),s')):ar 92 [.ref 0 0,.ref 1 0,.ref 2 0] (deO s) (.ret (.tup [])) (deX s x b):=by refine cT (E:=E) (fn:=Tryz.f92) (g:=.full 3 _ _) λ_=>?_;refine gV ?_;refine .eff [] [3] _ _ rfl (aFd hs h) ?_;refine gV ?_;exact zx [0,1,2]
def aHn {s:List UInt8} (hs:s.length<=1000000) (h:rSt s=none):ar 92 [.ref 0 0,.ref 1 0,.ref 2 0] (deO s) (.pan (aW 10)) deU:=by refine aA.blur (ap:=deO s) ?_;refine cT (E:=E) (fn:=Tryz.f92) (g:=.full 3 _ _) λ_=>?_;refine gV ?_;refine .effp [] [3] _ _ rfl (aAZ hs h) ?_;exact zx [0,1,2]
abbrev dV:aa:=.func (.func 92) [] [.ref 0 0,.ref 1 0,.ref 2 0]
def aEF {s s':List UInt8} (hs:s.length<=1000000) {x:Sta} {b:Bool} (h:rSt s=some ((x,b),s')):ar 91 [dV] (deO s) (.ret (ii 0)) (deX s x b):=by
 refine cT (E:=E) (fn:=Tryz.f91) (g:=.full 3 _ _) λ_=>?_;refine gV ?_;refine To.defer (f:=152) (args:=[.ref 3 0]) _ rfl rfl ?_;refine gW C8.hEt ?_;conv=>whnf
 refine .eff [] [0,1,2] _ _ rfl (aKz hs h) ?_;refine gW C8.hEt ?_;conv=>whnf
 refine To.leave (f:=152) (args:=[.ref 3 0]) [] rfl [] [3] rfl (C8.catch_ret 0) ?_;exact zqca15
def aAf {s:List UInt8} (hs:s.length<=1000000) (h:rSt s=none):ar 91 [dV] (deO s) (.ret (ii 10)) deU:=by
 refine cT (E:=E) (fn:=Tryz.f91) (g:=.full 3 _ _) λ_=>?_;refine gV ?_;refine To.defer (f:=152) (args:=[.ref 3 0]) _ rfl rfl ?_;refine gW C8.hEt ?_;conv=>whnf
 refine .effp [] [0,1,2] _ _ rfl (aHn hs h) ?_;conv=>whnf
 refine To.leave (f:=152) (args:=[.ref 3 0]) [] rfl [] [3] rfl (C8.catch_pan 0 10) ?_;exact zqca15
def aA7:∀ (m:Nat) (hs:List Int) (s:List UInt8) (hs':List Int) (s':List UInt8),vD m hs s=some (hs',s')->hs'.length+s'.length<=hs.length+s.length
 | 0,hs,s,hs',s',h=>by cases h;exact Bc _
 | m+1,hs,s,hs',s',h=>by
  unfold vD at h;split at h
  .cases h
  .rename_i h1;have b:=bO h1;have:=aA7 m _ _ _ _ h;simp at this;omega
def aLp (c:Con) (now nxt:Int) (e:List Nat) (d:List Pn) (N:Nat):∀ (m:Nat) (a:List Rn) (s:List UInt8) (x:Sta) (b:Bool) (s':List UInt8),rR c now nxt e d m a s=some ((x,b),s')->a.length+s.length<=N->(∀ y∈a,y.hs.length<=N)->x.c=c/\x.run.length<=N/\∀ y∈x.run,y.hs.length<=N
 | 0,a,s,x,b,s',h,hl,hy=>by cases h;exact ⟨rfl,by show a.length<=N;omega,hy⟩
 | m+1,a,s,x,b,s',h,hl,hy=>by
  unfold rR at h;split at h
  .cases h
  .rename_i h1;split at h
   .cases h
   .rename_i g;split at h
    .cases h
    .rename_i h3;split at h
     .cases h
     .rename_i i;split at h
      .cases h
      .rename_i k;have l:=IF h1;have o:=bO g;have p:=bO h3;have n:=bO i;have r:=bO k;split at h
       .cases h;exact ⟨rfl,by show a.length<=N;omega,hy⟩
       .split at h
        .cases h
        .rename_i hs' q j;have f:=aA7 _ _ _ _ _ j;simp at f;refine aLp c now nxt e d N m _ _ x b s' h q_ λ y hm=>?_;rcases Az.1 hm with hm | hm
         .exact hy y hm
         .rw [Dj] at hm;subst hm;show hs'.length<=N;omega
def aLq (c:Con) (now nxt:Int) (d:List Nat) (N:Nat):∀ (m:Nat) (a:List Pn) (s:List UInt8) (x:Sta) (b:Bool) (s':List UInt8),rP c now nxt d m a s=some ((x,b),s')->s.length<=N->x.c=c/\x.run.length<=N/\∀ y∈x.run,y.hs.length<=N
 | 0,a,s,x,b,s',h,hl=>by
  unfold rP rRs at h;split at h
  .cases h
  .rename_i h1;have e:=eF h1;exact aLp c now nxt d a N _ _ _ x b s' h q_ λ y g=>by cases g
 | m+1,a,s,x,b,s',h,hl=>by
  unfold rP at h;split at h
  .cases h
  .rename_i h1;split at h
   .cases h
   .rename_i f;split at h
    .cases h
    .rename_i h3;have e:=IF h1;have i:=bO f;have j:=bO h3;exact aLq c now nxt d N m _ _ x b s' h o_
def aLr (c:Con) (now nxt:Int) (N:Nat):∀ (m:Nat) (a:List Nat) (s:List UInt8) (x:Sta) (b:Bool) (s':List UInt8),rH c now nxt m a s=some ((x,b),s')->s.length<=N->x.c=c/\x.run.length<=N/\∀ y∈x.run,y.hs.length<=N
 | 0,a,s,x,b,s',h,hl=>by
  unfold rH rPs at h;split at h
  .cases h
  .rename_i h1;have e:=eF h1;exact aLq c now nxt a N _ _ _ x b s' h o_
 | m+1,a,s,x,b,s',h,hl=>by
  unfold rH at h;split at h
  .cases h;exact ⟨rfl,Bv _,λ y d=>by cases d⟩
  .exact aLr c now nxt N m _ _ x b s' h q_
def aLo {s s':List UInt8} {x:Sta} {b:Bool} (h:rSt s=some ((x,b),s')) (hl:s.length<=1000000):x.c.sm/\Sm x.run:=by
 unfold rSt at h;split at h
 .cases h
 .rename_i n p h1;have q:=eF h1;split at h
  .cases h;exact ⟨⟨Bv _,Bv _⟩,Bv _,λ y e=>by cases e⟩
  .rename_i y a;have d:C8.chk y=0:=by
    unfold C8.dec at a;split at a
    .split at a
     .rename_i j;cases a;exact j.2
     .cases a
    .cases a
   have T:=C8.chk_told d;have i:=T.ln;have m:=T.lh;simp only [Ch] at i m;split at h
   .unfold rB at h;split at h
    .cases h
    .rename_i h3;split at h
     .cases h
     .rename_i g;split at h
      .cases h
      .rename_i l;have k:=bO h3;have r:=bO g;have t:=eF l;simp only [Ei] at k;obtain ⟨o,u,f⟩:=aLr y.c _ _ 1000000 _ _ _ x b s' h o_;rw [o];exact ⟨⟨by omega,by omega⟩,by omega,λ z hz=>by have:=f z hz;omega⟩
   .cases h;exact ⟨⟨Bv _,Bv _⟩,Bv _,λ y e=>by cases e⟩
def YT (s:List UInt8):Option Sta:=match rSt s with
 | some ((x,b),_)=>if b=true/\lW x=true then some x else none
 | none=>none
def aAt (s:List UInt8):Sta:=(YT s).getD Sta.nil
def aKy (s:List UInt8):Int:=match YT s with | some _=>0 | none=>10
def aES (s:List UInt8) (hs:s.length<=1000000):ar 41 [.str s] [] (.ret (.tup [(aAt s).av,ii (aKy s)])) []:=by
 unfold aAt aKy YT;refine c_ Tryz.f41 λ_=>?_;refine gV ?_;refine aK (o:=rSt s) (λ h=>?_) (λ⟨⟨x,b⟩,s'⟩ h=>?_)
 .simp only [h];refine .eff [] [0,2,3] _ _ rfl (aAf hs h) ?_
  repeat' first | (refine gN hE ?_;conv=>whnf) | exact rfl | (refine zt ?_;try intro h) | refine zu (λ h=>?_) λ h=>?_ | fail
 .obtain ⟨e,d⟩:=aLo h hs;have a:=FI x e d;simp only [h];refine .eff [] [0,2,3] _ _ rfl (aEF hs h) ?_;cases b with
  | false=>
   rw [if_neg (λ q=>absurd q.1 d_)]
   repeat' first | (refine gN hE ?_;conv=>whnf) | exact rfl | (refine zt ?_;try intro h) | refine zu (λ h=>?_) λ h=>?_ | fail
  | true=>
   cases c:lW x with
   | false=>
    rw [c] at a;have a:ar 84 [x.av] [] (.ret (ii 1)) []:=a;rw [if_neg (λ q=>absurd q.2 d_)]
    repeat' first | (refine gN hE ?_;conv=>whnf) | refine .pure _ [] a ?_ | exact rfl | (refine zt ?_;try intro h) | refine zu (λ h=>?_) λ h=>?_ | fail
   | true=>
    rw [c] at a;have a:ar 84 [x.av] [] (.ret (ii 0)) []:=a;rw [if_pos ⟨rfl,rfl⟩]
    repeat' first | (refine gN hE ?_;conv=>whnf) | refine .pure _ [] a ?_ | exact rfl | (refine zt ?_;try intro h) | refine zu (λ h=>?_) λ h=>?_ | fail
open C8 (leN bL dB rGan aZ nM fT pl putN)
def nD {v:V3} (h:bI v=true):okI v.l=true:=by unfold bI at h;simp only [Ad,decide_eq_true_eq] at h;simp only [V3.l,okI,nV,Ad,decide_eq_true_eq,and_true];omega
def ZJ {v:V3} (h:zB v=true):okI v.l=true:=by unfold zB at h;simp at h;simp only [V3.l,okI,nV,Ad,decide_eq_true_eq,and_true];omega
def aBC {bl:Bool} {i:Nat} {x:Nod} (c:i<=100) (h:nP bl i x=true):x.ok=true:=by
 unfold nP at h;by_cases a:AE i x
 .rw [if_pos a] at h;cases h
 .rw [if_neg a] at h;unfold AE at a;have h3:okI x.n.l=true/\okI x.b.l=true/\okI x.l.l=true:=by
   cases bl with
   | true=>
    simp only [if_true,Ad] at h;exact ⟨nD h.1,nD h.2.1,nD h.2.2.1⟩
   | false=>
    rw [if_neg d_] at h;simp only [Ad] at h;exact ⟨ZJ h.1,ZJ h.2.1,ZJ h.2.2⟩
  unfold Nod.ok;rw [h3.1,h3.2.1,h3.2.2];exact zqca23
def FR (ns:List Nod):∀ (l:List Nod) (i:Nat),i+l.length<=100->jY ns i l=true->tX l=true
 | [],_,_,_=>rfl
 | x::r,i,hi,h=>by
  unfold jY at h;simp at hi;by_cases a:nP (rlB ns i) i x=true
  .rw [if_pos a] at h;unfold tX;rw [aBC o_ a,FR ns r (i+1) o_ h];rfl
  .rw [if_neg a] at h;cases h
def aCf {x:Hos} (h:lF x=true):x.ok=true:=by
 unfold lF at h;by_cases a:EY x
 .rw [if_pos a] at h;cases h
 .rw [if_neg a] at h;unfold EY at a;unfold Hos.ok;rw [nD h];exact zqca23
def M8:∀ (l:List Hos),l.all lF=true->qB l=true
 | [],_=>rfl
 | x::r,h=>by rw [Kd,Ad] at h;unfold qB;rw [aCf h.1,M8 r h.2];rfl
def HD {c:Con} (h:bT c=0):c.tok=true/\c.ns.length<=12/\c.hs.length<=24:=by
 unfold bT at h;by_cases h1:zR c
 .rw [if_pos h1] at h;by_cases a:jY c.ns 0 c.ns=true
  .rw [if_pos a] at h;by_cases h3:c.hs.all lF=true
   .unfold zR at h1;refine ⟨?_,h1.1.2,h1.2.1.2⟩;unfold Con.tok;rw [FR c.ns c.ns 0 o_ a,M8 _ h3];simp only [Bool.and_self,Cy,okI,nV,Ad,decide_eq_true_eq,and_true];omega
   .rw [if_neg h3] at h;cases h
  .rw [if_neg a] at h;cases h
 .rw [if_neg h1] at h;cases h
def GU {c:Con} (h:fU c=true):c.tok=true/\c.ns.length<=12/\c.hs.length<=24:=by unfold fU at h;simp only [Ad,decide_eq_true_eq] at h;obtain ⟨ns,hs,half,age⟩:=c;obtain ⟨h1,a,h3,b⟩:=h;simp only at h1 a h3 b;subst h1 a h3 b;exact ⟨rfl,by simp,by simp⟩
def SU {c:Con} (h:c.tok=true) (e:c.ns.length<=12) (f:c.hs.length<=24):C8.chk ⟨1,c,Gan.zero,0⟩=0:=by
 have d:((nav c.ns).length:Int)<=12:=by simp;omega
 have a:((hav c.hs).length:Int)<=24:=by simp;omega
 have b:C8.chkL ⟨1,c,Gan.zero,0⟩=0:=by unfold C8.chkL;rw [decide_eq_true d,decide_eq_true a];rfl
 unfold C8.chk C8.chk2 C8.chk3 C8.chk4 C8.chkC C8.chkG C8.chkN;rw [b,h];rfl
def VQ {s:Sta} (h:lW s=true):C8.chk s.cmd=0:=by
 unfold lW NB at h;simp only [Ad,Fc,decide_eq_true_eq] at h;obtain ⟨⟨h1,_⟩,_⟩:=h;rcases h1 with h1 | h1
 .obtain ⟨a,b,c⟩:=GU h1;exact SU a b c
 .obtain ⟨a,b,c⟩:=HD h1;exact SU a b c
def P7 {c:Con} {t:Int} (h:bB c.ns t=true):0<=t/\t<(c.ns.length:Int):=by
 unfold bB at h;by_cases h1:0<=t
 .rw [if_pos (decide_eq_true h1)] at h;by_cases a:t<(c.ns.length:Int)
  .exact ⟨h1,a⟩
  .rw [if_neg (by rw [decide_eq_false a];decide)] at h;cases h
 .rw [if_neg (by rw [decide_eq_false h1];decide)] at h;cases h
def NF {c:Con} {g:Gan} (d:c.ns.length<=12) (h:eM c g=0):g.ok=true:=by obtain ⟨h1,a⟩:=nW.1 h;have h3:=P7 a;unfold JX at h1;simp only [Ad,decide_eq_true_eq] at h1;have b:=nD h1.2.1;unfold Gan.ok;rw [b];exact zqca23
def VT {s:Sta} (h:lW s=true):(s.c.tok=true/\s.c.ns.length<=12/\s.c.hs.length<=24)/\(∀ x∈s.c.hs,0<=x.f/\x.f<=100)/\(0<=s.now/\s.now<=1099511627776)/\(1<=s.nxt/\s.nxt<=1099511627776)/\s.hist.length=s.c.ns.length/\s.pend.length+s.run.length<=32:=by
 unfold lW NB at h;simp only [Ad,Fc,decide_eq_true_eq] at h;obtain ⟨⟨h1,j,h3,k,i⟩,_⟩:=h;refine ⟨?_,?_,j,h3,k,i⟩
 .rcases h1 with h1 | h1
  .exact GU h1
  .exact HD h1
 .intro x a;rcases h1 with h1 | h1
  .unfold fU at h1;simp only [Ad,decide_eq_true_eq] at h1;rw [h1.2.1] at a;cases a
  .unfold bT at h1;by_cases b:zR s.c
   .rw [if_pos b] at h1;by_cases d:jY s.c.ns 0 s.c.ns=true
    .rw [if_pos d] at h1;by_cases e:s.c.hs.all lF=true
     .have:=Cq.1 e x a;unfold lF at this;by_cases g:EY x
      .rw [if_pos g] at this;cases this
      .unfold EY at g;omega
     .rw [if_neg e] at h1;cases h1
    .rw [if_neg d] at h1;cases h1
   .rw [if_neg b] at h1;cases h1
def N7 {s:Sta} (h:lW s=true):(lV s).length<=3000:=by
 obtain ⟨⟨h1,j,h3⟩,_⟩:=VT h;have e:lV s=pl s.cmd.il:=if_pos (VQ h);rw [e];have key:∀ (l:List Int),okI l=true->(pl l).length<=10*l.length:=λ l hl=>C8.pl_len (mT hl);have d:∀ (l:List Nod),tX l=true->(pl (C8.nodL l)).length<=110*l.length:=by
  intro l;induction l with
  | nil=>intro _;simp [C8.nodL,pl]
  | cons x r b=>
   intro hl;unfold tX at hl;rw [Ad] at hl;have e:C8.nodL (x::r)=x.il++C8.nodL r:=rfl;rw [e,C8.pl_append,Ai];have:=C8.il_len x hl.1;have:=b hl.2;simp only [Al];omega
 have f:∀ (l:List Hos),qB l=true->(pl (C8.hosL l)).length<=60*l.length:=by
  intro l;induction l with
  | nil=>intro _;simp [C8.hosL,pl]
  | cons x r b=>
   intro hl;unfold qB at hl;rw [Ad] at hl;have e:C8.hosL (x::r)=x.il++C8.hosL r:=rfl;rw [e,C8.pl_append,Ai];have:=C8.ih_len x hl.1;have:=b hl.2;simp only [Al];omega
 unfold Con.tok at h1;simp only [Ad] at h1;have p:=d _ h1.1.1;have k:=f _ h1.1.2;have i:=key [(1:Int)] rfl;have m:(pl [((nav s.c.ns).length:Int)]).length<=10:=by have:=C8.pl_len (l:=[((nav s.c.ns).length:Int)]) (λ n a=>by simp at a;omega);simpa using this
 have q:(pl [((hav s.c.hs).length:Int)]).length<=10:=by have:=C8.pl_len (l:=[((hav s.c.hs).length:Int)]) (λ n a=>by simp at a;omega);simpa using this
 have o:=key [s.c.half,s.c.age] h1.2;have g:s.cmd.il=[(1:Int)]++([((nav s.c.ns).length:Int)]++(C8.nodL s.c.ns++([((hav s.c.hs).length:Int)]++(C8.hosL s.c.hs++[s.c.half,s.c.age])))):=rfl;rw [g];simp only [C8.pl_append,Ai,Al,Br] at *
 omega
def RX {s:Sta} (h:lW s=true):Wr s:=by
 obtain ⟨⟨h1,q,h3⟩,C,t,F,J,K⟩:=VT h;have k:=h;unfold lW at k;simp only [Ad,Cq] at k;refine ⟨Cz (N7 h) d_,⟨t.1,t.2,by omega,F.2⟩,by omega,by omega,by omega,λ x m=>?_,λ x m=>?_⟩
 .have a:=k.2.2.1.1 x m;unfold pnB at a;simp only [Ad,decide_eq_true_eq] at a;refine ⟨NF q a.1,?_⟩;have:=a.2.2;exact zqca23
 .have a:=k.2.2.1.2 x m;have z:=(VR h m).chk;obtain ⟨p,j⟩:=JS z;rw [wA] at j;unfold pnB rnB at a;simp only [Ad,decide_eq_true_eq] at a;obtain ⟨⟨y,_,w⟩,⟨H,I⟩,_,o⟩:=a;have hp:=tK y;have A:1<=x.g.pods/\x.g.pods<=16:=hp;have b:x.hs≠[]:=λ e=>by rw [e] at p;simp at p;omega
  have B:0<=x.fl/\x.fl<=100:=by
   cases n:x.hs with
   | nil=>exact absurd n b
   | cons u r=>
    have i:=j u (by rw [n];exact Ap ..);rw [n] at o;have o:(bH s.c.hs u).f=x.fl:=o;have d:u.toNat<s.c.hs.length:=o_;have hm:bH s.c.hs u∈s.c.hs:=by unfold bH;rw [Aa d];exact Bh d
    have:=C _ hm;omega
  have w:(0<=x.seq/\x.seq<s.nxt)/\0<=x.at'/\x.at'<=s.now:=w;refine ⟨NF q y,?_,?_,b,by omega⟩
  .exact zqca23
  .have key:∀ (l:List Int),(∀ u∈l,0<=u/\u<(s.c.hs.length:Int))->okI l=true:=by
    intro l;induction l with
    | nil=>intro _;rfl
    | cons u r G=>
     intro hl;have i:=hl u (Ap ..);unfold okI;rw [G λ v D=>hl v (Bd _ D)];simp only [nV,Ad,decide_eq_true_eq,and_true];omega
   exact key x.hs λ u i=>⟨(j u i).1,(j u i).2.1⟩
open C8 (leN I0 qT bL dB rGan aZ nM fT pl putN bO eF)
def M4 (x:Nat):∀ (i:Nat),leN (ET x i)=x % 2 ^ (8*i)
 | 0=>by simp [ET,leN,Jd]
 | i+1=>by rw [GM,qT,jS,M4 x i];unfold GN;rw [Gw,Nat.mod_mod,Gs,Fu,Nat.mod_mul,De (2 ^ (8*i)),show (2:Nat) ^ (8*1)=256 from rfl]
def aF3 {x:Nat} (h:x<18446744073709551616):leN (wC x)=x:=by unfold wC;rw [M4,Hj o_]
def BV (c:Con) (now nxt:Int):∀ (l a:List Nat) (s:List UInt8),(∀ x∈l,x<18446744073709551616)->rH c now nxt l.length a (xN l++s)=rPs c now nxt (a++l) s
 | [],a,s,_=>by rw [Av];rfl
 | x::r,a,s,h=>by
  have hl:(wC x).length=8:=jS x 8;have e:xN (x::r)++s=wC x++(xN r++s):=by rw [<-Af];rfl
  rw [e,Al];unfold rH;rw [if_neg (by rw [Ai];omega)];have f:(wC x++(xN r++s)).take 8=wC x:=by rw [Dc o_,Cf o_]
  have b:(wC x++(xN r++s)).drop 8=xN r++s:=by rw [<-hl,Jj]
  rw [f,b,aF3 (h x (Ap ..)),BV c now nxt r _ s λ y d=>h y (Bd _ d),Af];rfl
def aJo (a b:Int) (s:List UInt8):pl [a,b]++s=putN a.toNat++(putN b.toNat++s):=by simp [pl]
def ok2 {a b:Int} (h:okI [a,b]=true):(0<=a/\a<=1099511627777)/\0<=b/\b<=1099511627777:=by have h1:=C8.okI_b h a s_;have c:=C8.okI_b h b s_;omega
def aA4 (c:Con) (now nxt:Int) (b:List Nat):∀ (l a:List Pn) (s:List UInt8),(∀ x∈l,x.g.ok=true/\okI [x.seq,x.at']=true)->rP c now nxt b l.length a (sI l++s)=rRs c now nxt b (a++l) s
 | [],a,s,_=>by rw [Av];rfl
 | x::r,a,s,h=>by
  obtain ⟨h1,i⟩:=h x (Ap ..);obtain ⟨d,f⟩:=ok2 i;have e:sI (x::r)++s=pl x.g.il++(putN x.seq.toNat++(putN x.at'.toNat++(sI r++s))):=by rw [<-aJo];show (pl x.g.il++pl [x.seq,x.at']++sI r)++s=_;simp only [Af]
  rw [e,Al];unfold rP;rw [nM h1];dsimp only;rw [aZ d.1 d.2];dsimp only;rw [aZ f.1 f.2];dsimp only;rw [aA4 c now nxt b r _ s λ y j=>h y (Bd _ j),Af];rfl
def vC:∀ (l a:List Int) (s:List UInt8),okI l=true->vD l.length a (pl l++s)=some (a++l,s)
 | [],a,s,_=>by rw [Av];rfl
 | x::r,a,s,h=>by
  have b:=C8.okI_b h x (Ap ..);have e:pl (x::r)++s=putN x.toNat++(pl r++s):=by simp [pl]
  have c:okI r=true:=by unfold okI at h;rw [Ad] at h;exact h.2
  rw [e,Al];unfold vD;rw [aZ b.1 o_];dsimp only;rw [vC r _ s c,Af];rfl
def TV:∀ (l:List Int),l.length<=(pl l).length
 | []=>Bv _
 | x::r=>by have:=TV r;have:=C8.putN_pos x.toNat;simp only [pl,Ai,Al];omega
def aA3 (c:Con) (now nxt:Int) (f:List Nat) (d:List Pn):∀ (l a:List Rn),(∀ x∈l,(x.hs.length:Int)=x.g.pods/\x.g.ok=true/\okI [x.seq,x.at',x.st,x.fl]=true/\okI x.hs=true)->rR c now nxt f d l.length a (oP l)=some ((⟨c,now,nxt,d,a++l,f⟩,true),[])
 | [],a,_=>by rw [Av];rfl
 | x::r,a,h=>by
  obtain ⟨p,h1,b,h3⟩:=h x (Ap ..);have i:=C8.okI_b b x.seq s_;have k:=C8.okI_b b x.at' s_;have m:=C8.okI_b b x.st s_;have j:=C8.okI_b b x.fl s_;have e:oP (x::r)=pl x.g.il++(putN x.seq.toNat++(putN x.at'.toNat++(putN x.st.toNat++(putN x.fl.toNat++(pl x.hs++oP r))))):=by show (pl x.g.il++pl [x.seq,x.at',x.st,x.fl]++pl x.hs)++oP r=_;simp [pl]
  rw [e,Al];unfold rR;rw [nM h1];dsimp only;rw [aZ i.1 o_];dsimp only;rw [aZ k.1 o_];dsimp only;rw [aZ m.1 o_];dsimp only;rw [aZ j.1 o_];dsimp only;have o:=TV x.hs;rw [if_neg (by rw [decide_eq_false (by rw [Ai];omega)];decide),show x.g.pods.toNat=x.hs.length from by omega,vC _ _ _ h3];dsimp only;rw [aA3 c now nxt f d r _ λ y n=>h y (Bd _ n),Af];rfl
def C7:∀ (l:List Nat),(xN l).length=8*l.length
 | []=>rfl
 | x::r=>by have:(wC x).length=8:=jS x 8;unfold xN;rw [Ai,C7 r,Al];omega
def L5:∀ (l:List Pn),l.length<=(sI l).length
 | []=>Bv _
 | x::r=>by
  have h1:=L5 r;have a:=TV [x.seq,x.at'];unfold sI;simp only [Ai,Al,Br] at *
  omega
def LC:∀ (l:List Rn),l.length<=(oP l).length
 | []=>Bv _
 | x::r=>by
  have h1:=LC r;have a:=TV [x.seq,x.at',x.st,x.fl];unfold oP;simp only [Ai,Al,Br] at *
  omega
def aFf {s:Sta} (h:lW s=true) (j:∀ x∈s.hist,x<18446744073709551616):rSt (bW s)=some ((s,true),[]):=by
 have w:=RX h;have a:=VQ h;obtain ⟨p,⟨n1,n2,m,n⟩,r,o,q,f,l⟩:=w;have g:C8.dec (lV s)=some s.cmd:=by have e:lV s=pl s.cmd.il:=if_pos a;unfold C8.dec;rw [e,C8.rCmd_put (C8.chk_told a)];exact if_pos ⟨rfl,a⟩
 have l1:=C7 s.hist;have l2:=L5 s.pend;have t:=LC s.run;have e:bW s=putN ((lV s).length:Int).toNat++(lV s++(putN s.now.toNat++(putN s.nxt.toNat++(putN (s.hist.length:Int).toNat++(xN s.hist++(putN (s.pend.length:Int).toNat++(sI s.pend++(putN (s.run.length:Int).toNat++oP s.run)))))))):=by unfold bW;simp [pl]
 rw [e];unfold rSt;rw [fT o_ o_ _ (by rw [Ai];omega)];dsimp only;rw [Bt,Hl,Jj,g];dsimp only;rw [if_pos (show s.cmd.k=1 from rfl)];unfold rB;rw [aZ n1 o_];dsimp only;rw [aZ m o_];dsimp only;rw [fT o_ o_ _ (by rw [Ai];omega)];dsimp only;rw [Bt,BV _ _ _ _ _ _ j];unfold rPs;rw [fT o_ o_ _ (by rw [Ai];omega)];dsimp only;rw [Bt,aA4 _ _ _ _ _ _ _ f];unfold rRs;rw [fT o_ o_ _ o_];dsimp only;rw [Bt,aA3 _ _ _ _ _ _ _ λ x b=>?_]
 .rfl
 .obtain ⟨c,i,d,_,_⟩:=l x b;exact ⟨(JS (VR h b).chk).1,c,i,d⟩
def aHm {s:Sta} (h:lW s=true) (a:∀ x∈s.hist,x<18446744073709551616):YT (bW s)=some s:=by unfold YT;rw [aFf h a];exact if_pos ⟨rfl,h⟩
end Go.Proofs.YtidhfoefaomodaaGreatDoor
