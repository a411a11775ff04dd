/- Part 8 of what the statement rests on. -/
import Derived.Lib.Builder
import Derived.Lib.UnsafeStr
import Derived.Lib.Walk
import Derived.Shelf.RegionOpenPlain
import Derived.Test.YtbpccabomgalhaaGreatDoorRA
set_option linter.all false
set_option maxHeartbeats 1000000
open And renaming intro->Ab
open Bool renaming and_assoc->Ia,and_eq_true->Ad,and_false->Fc,and_true->Jz,eq_false_or_eq_true->Ef,eq_iff_iff->Hp,false_and->Gb,false_eq_true->Cn,false_or->Mv,not_eq_false'->Iv,not_eq_true'->Cw,or_eq_true->Ew,true_and->Dc
open Decidable renaming not_not->Fa
open Exists renaming intro->Ao
open Go.Builtin renaming unsafeSliceData_->Iq,unsafeString_->Jn
open Go.Result renaming andThen->Eb
open Go.World renaming shape?->Jc
open Int renaming fdiv_eq_ediv_of_nonneg->Dy,le_refl->Dd,le_trans->Fe,mul_nonneg->Ky,toNat->Dm,toNat_natCast->Bn,toNat_of_nonneg->Kt
open List renaming all_cons->Jy,all_eq_true->Ct,any_cons->Gz,any_eq_true->Fj,append_assoc->Ae,append_nil->Au,cons_append->Ca,count_append->Jb,count_cons_of_ne->Ml,count_cons_self->Ib,count_eq_zero->Kz,count_le_length->Mp,drop->Hc,drop_drop->Hf,drop_eq_getElem_cons->Ag,drop_eq_nil_of_le->Ai,drop_left->Jd,drop_zero->Cg,eraseIdx_eq_take_drop_succ->Fu,ext_getElem?->Ea,filter_cons_of_neg->Fk,filter_cons_of_pos->Fl,filter_eq_self->Gj,foldl_cons->Ba,getElem?_append_left->Af,getElem?_append_right->Ak,getElem?_drop->Bo,getElem?_eq_getElem->Aa,getElem?_eq_none->Bg,getElem?_eq_some_iff->Ac,getElem?_map->Bh,getElem?_range->Dj,getElem?_take_of_lt->Bj,getElem_mem->Bd,length->Lh,length_append->Ah,length_cons->Al,length_drop->Eg,length_eraseIdx->Kd,length_map->Cf,length_nil->Br,length_pos_iff->Dw,length_take->Dl,map_append->Bk,map_cons->Bl,map_drop->Ip,map_map->Dn,map_take->Ga,mem_append->Az,mem_append_left->De,mem_append_right->Cv,mem_cons->Bc,mem_cons_of_mem->Bb,mem_cons_self->Ar,mem_map->Bq,mem_map_of_mem->Cc,mem_singleton->Dh,nil_append->Bm,nodup_cons->Bx,not_mem_nil->Lq,pairwise_iff_getElem->Fv,range->Dr,range'->Ic,range_eq_range'->Ie,range_succ->Mh,replicate->Aj,replicate_succ->Ku,set_append_right->Gt,take->Hr,take_add_one->Lg,take_append_of_le_length->Cz,take_left->Hg,take_of_length_le->Cd
open Nat renaming add_mul->Bv,add_zero->Ff,beq->Aw,le_refl->Bf,le_trans->Cx,min_eq_left->Gh,mod_eq_of_lt->Hd,mod_one->Ix,mul_add->Gl,mul_assoc->Ir,mul_comm->Da,mul_le_mul_right->Bs,pow_add->Fm,pow_le_pow_right->Ek,strongRecOn->Hq,zero_add->Bw,zero_le->Bt,zero_lt_succ->Lr
open Option renaming map_eq_some_iff->Cb
open Option.some renaming injEq->Dp
open Or renaming inl->Fq,inr->Kl
open Prod.mk renaming injEq->Ll
open UInt8 renaming ofNat->Dt,toNat_ofNat'->Gr
namespace Go.Proofs.YtbpccabomgalhaaGreatDoor
open Go Go.AW Go.Proofs
def zqca0{P:Prop}(h:P:=by
 have b:false=r:=b;subst b;rcases z with ⟨rfl,rfl⟩ | rfl
 .refine gV ?_;refine aT λ h=>?_
  repeat' first | (refine gN hE ?_;conv=>whnf) | refine ⟨i,rfl,?_⟩ | refine ⟨u0.toNat,j,?_⟩ | refine ⟨_,get,?_⟩ | refine ⟨_,e,?_⟩ | refine ⟨_,n,?_⟩ | refine Ao _ (Ab (d _) ?_) | refine .pure _ [] a ?_ | exact rfl | refine zt ?_ | refine zu ?_ ?_ | intro h | fail
 .refine gV ?_;refine aT λ h=>?_
  repeat' first | (refine gN hE ?_;conv=>whnf) | refine ⟨i,rfl,?_⟩ | refine ⟨u0.toNat,j,?_⟩ | refine ⟨_,get,?_⟩ | refine ⟨_,e,?_⟩ | refine ⟨_,n,?_⟩ | refine Ao _ (Ab (d _) ?_) | refine .pure _ [] a ?_ | exact rfl | refine zt ?_ | refine zu ?_ ?_ | intro h | fail):P:=h
def zqca1{P:Prop}(h:P:=by
 refine To.leave (f:=71) (args:=[.ref 1 0]) [] rfl [] [1] rfl (catch_pan 0 1) ?_
 exact To.left hE rfl rfl rfl):P:=h
def zqca2{P:Prop}(h:P:=by
 refine gV ?_;refine aT λ h=>gV ?_;refine ⟨i,rfl,gV ?_⟩;refine ⟨_,get,gV ?_⟩;refine .pure _ [] c ?_;refine cJ (hEr [] [64,65,66]) 20 ?_;conv=>whnf
 refine To.cutC [1,3,4,6,7,14,15,16] 3 rfl rfl rfl rfl ?_;refine sT p ?_
 exact zW):P:=h
def zqca3{P:Prop}(h:P:=by
 refine gV ?_;refine .eff [] [1,2] _ _ rfl (aA.strip (nums_ok [x.n] s_ l s_ _ q_)) (gV ?_);have il:=il_cons x [x.n] (by rw [h1,b,i];rfl);have a:putN x.k.toNat++pl [x.n]≠[]:=by rw [il];exact pl_ne _ _
 refine .eff [] [1,2] _ _ rfl (str_ok _ a _) (gV ?_)
 rw [il]):P:=h
def zqca4{P:Prop}(h:P:=by
 refine ⟨λ c=>?_,λ c=>?_⟩
 .refine gV ?_;rw [if_pos c] at a;rw [a]
 .refine gV ?_;rw [if_neg (by rw [c];simp)] at a;refine .inl ⟨⟨by simp only [bW];omega,by simp only [aW];omega⟩,?_⟩;have e:=k (i+1) o_ (by rw [<-a];push_cast;rfl)
  exact zW):P:=h
def zqca5{P:Prop}(h:P:=by
 refine gV ?_;have next:=s (i+1) 1 (bs++putN x.toNat) o_ (.inr rfl) (λ_=>rfl) (λ_=>rfl) q_ a
 rcases f with rfl | rfl
 .refine .sole rfl (.eff [] [0,1] _ _ rfl (ws_ok bs _ o_) (gV ?_));refine aJ (gV ?_);refine To.part [0,6,7,8] [0,1] rfl rfl rfl ?_;exact next
 .refine .sole rfl (.eff [] [0,1] _ _ rfl (ws_ok bs _ o_) (gV ?_));refine aJ (gV ?_);refine To.part [0,6,7,8] [0,1] rfl rfl rfl ?_
  exact next):P:=h
def zqca6{P:Prop}(h:P:=by
 refine gV ?_;refine aJ (gV ?_);refine gV ?_;refine Ab (λ h=>absurd (of_decide_eq_true h) s_) (λ_=>gV ?_);refine ⟨[],[0,1],⟨rfl,rfl⟩,?_⟩
 exact ⟨rfl,rfl⟩):P:=h
def zqca7{P:Prop}(h:P:=by
 refine ⟨[],[0],⟨rfl,rfl⟩,?_⟩
 exact ⟨rfl,rfl⟩):P:=h
def zqca8{P:Prop}(h:P:=by
 refine cT (E:=(Eo [14] [])) (fn:=Tryz.f149) (g:=.full 2 _ _) λ_=>gV ?_;refine .eff [] [0,1] _ _ rfl (KG _) (gV ?_);refine ⟨⟨by simp only [maxLen];simp;omega,by simp;omega⟩,?_⟩;refine gV ?_;refine ⟨[],[0,1],⟨rfl,rfl⟩,?_⟩;conv=>whnf
 refine ⟨rfl,?_⟩;rw [Bk]
 rfl):P:=h
def zqca9{P:Prop}(h:P:=by
 refine gW hEc ?_;conv=>whnf
 refine .pure _ [] (fO _ _ rfl) ?_;refine cJ hEc 2 ?_;conv=>whnf
 refine To.cutC [1,2] 2 rfl rfl rfl rfl ?_
 exact (WS x r a)):P:=h
def zqca10{P:Prop}(h:P:=by
 intro i g bs q f d _ k a;have e:=d rfl;subst e;rw [Ai o_] at a;have a:bs++[]=B:=a;rw [Au] at a;subst a;refine gV ?_;refine aF λ h=>gV ?_;refine ⟨[],[0,1],⟨rfl,rfl⟩,?_⟩;rcases f with rfl | rfl
 .exact ⟨rfl,rfl⟩
 .exact ⟨rfl,rfl⟩):P:=h
def zqca11{P:Prop}(h:P:=by
 refine cT (E:=(Eo [14] [])) (fn:=Tryz.f149) (g:=.full 1 _ _) λ_=>gV ?_;refine .eff [] [0] _ _ rfl (cc_fresh _) (gV ?_);refine ⟨⟨by simp only [maxLen];simp;omega,by simp;omega⟩,?_⟩;refine gV ?_
 exact zx [0,1]):P:=h
def zqca12{P:Prop}(h:P:=by exact c_ Tryz.f78 λ_=>zW):P:=h
def zqca13{P:Prop}(h:P:=by
 refine Lib.run_unsafeString_row w.drew 323 3 9 5 aAw aEt g a.size (by have i:w.drew.heap[g]? =some (.cells a 5 (0,0)):=r;simp [Jc,i]) l n o_ (by unfold maxLen at m;omega) ?_;intro j x q;rw [aZ,Bw]
 exact c j x q):P:=h
def zqca14{P:Prop}(h:P:=by
 simp only [h1] at a b;have a:Res.pan (aV 10)=r:=a;have b:rdU=O:=b;subst a b;refine .effp [] [0] _ _ rfl (jF h1) ?_
 exact zx [0]):P:=h
def zqca15{P:Prop}(h:P:=by
 refine To.left hE rfl rfl ?_;refine ⟨[],[0,1,2],⟨rfl,rfl⟩,?_⟩
 exact ⟨rfl,rfl⟩):P:=h
def zqca16{P:Prop}(h:P:=by
 refine gW hEc ?_;conv=>whnf
 refine .pan _ (dA _ _ rfl) ?_;conv=>whnf
 exact zqca1):P:=h
def zqca17{P:Prop}(h:P:=by
 have h2:pav (xs.take i++[p]++xs.drop i)=(pav xs).take i++[p.av]++(pav xs).drop i:=by simp
 rw [h2]
 exact congrArg (λ l=>[ab.row 1 11 45 l,.row 0 11 45 [p.av]]) h):P:=h
def zqca18{P:Prop}(h:P:=by
 refine .effp [] [0] _ _ rfl (bM h3) ?_
 exact zx [0]):P:=h
def zqca19{P:Prop}(h:P:=by
 refine .effp [] [0] _ _ rfl (bM h1) ?_
 exact zx [0]):P:=h
def zqca20{P:Prop}(h:P:=by
 refine To.part [1,3,4,14,15,16] [0,1] rfl rfl rfl ?_;refine a ?_;clear d a;simp only [decide_eq_true_eq,decide_eq_false_iff_not,bne_iff_ne,ne_eq,bne_eq_false_iff_eq,Fa] at *
 simp [gcB]
 try omega):P:=h
def zqca21{P:Prop}(h:P:=by
 subst d;refine congrArg (λ q=>Res.ret (aa.bool q)) ?_;simp only [decide_eq_true_eq,decide_eq_false_iff_not] at *
 first | (rw [decide_eq_false o_];rfl) | (rw [decide_eq_true o_];rfl)):P:=h
def zqca22{P:Prop}(h:P:=by
 refine gV ?_;refine .pure _ [] (g xs[i] (Bd b)) (gV ?_);rw [Ag b] at a;have a:(if p xs[i]=true then (i:Int) else JO p (xs.drop (i+1)) ((i:Int)+1))=r:=a
 exact zqca4):P:=h
def zqca23{P:Prop}(h:P:=by
 simp only [okI,pO,Ad,decide_eq_true_eq,and_true]
 omega):P:=h
def zqca24{P:Prop}(h:P:=by
 refine gV ?_;refine .eff [] [1,2] _ _ rfl (str_ok _ a _) (gV ?_)
 rw [il]):P:=h
def zqca25{P:Prop}(h:P:=by
 refine gV ?_;refine To.part [0,6,7,8] [0,1] rfl rfl rfl ?_
 exact xT l o_ c _ 1 o_ l.length 0 0 bs o_ (.inl rfl) (λ h=>by omega) (λ_=>rfl) o_ rfl):P:=h
def zqca26{P:Prop}(h:P:=by
 simp only [h1] at b d;have b:Res.pan (aV 10)=r:=b;have d:rdU=O:=d;subst b d;refine .effp [] [0] _ _ rfl (vT h1) ?_
 exact zx [0]):P:=h
def zqca27{P:Prop}(h:P:=by
 simp only [g] at d f;have d:Res.pan (aV 10)=r:=d;have f:rdU=O:=f;subst d f;refine .effp [] [0] _ _ rfl (bM g) ?_
 exact zx [0]):P:=h
def zqca28{P:Prop}(h:P:=by
 refine gV ?_;refine ⟨[],[0,1],⟨rfl,rfl⟩,?_⟩
 exact ⟨rfl,rfl⟩):P:=h
def zqca29{P:Prop}(h:P:=by
 refine To.leave (f:=71) (args:=[.ref 1 0]) [] rfl [] [1] rfl (catch_pan 0 8) ?_
 exact To.left hE rfl rfl rfl):P:=h
def zqca30{P:Prop}(h:P:=by
 rw [Au] at this;simp only [show ((2:Int)==1)=false from rfl,show ((2:Int)==2)=true from rfl,if_true,Cn,if_false]
 rw [this]):P:=h
def zqca31{P:Prop}(h:P:=by
 have:w.drew.heap[b]? =some (.cells #[p,.slice (some ⟨g,0,none⟩) l.length cap] tWr (0,0)):=k
 rw [Lib.cell_of_heap this];rfl):P:=h
def zqca32{P:Prop}(h:P:=by
 intro i j a;refine gV ?_;refine aF λ h=>gV ?_;rw [Ai o_] at a;rw [<-a]
 rfl):P:=h
def zqca33{P:Prop}(h:P:=by
 refine gV ?_;refine Ab (λ_=>?_) (λ h=>absurd h d_);refine To.loose (gV ?_)
 exact zqca7):P:=h
def zqca34{P:Prop}(h:P:=by
 refine cJ hEc 2 ?_;conv=>whnf
 refine To.cutC [1,2] 2 rfl rfl rfl rfl ?_
 exact (aJh x r a)):P:=h
def zqca35{P:Prop}(h:P:=by
 simp only [h1] at d f;have d:Res.pan (aV 10)=r:=d;have f:rdU=O:=f;subst d f
 exact zqca19):P:=h
def zqca36{P:Prop}(h:P:=by
 simp only [h3] at b d;have b:Res.pan (aV 10)=r:=b;have d:rdU=O:=d;subst b d
 exact zqca18):P:=h
def zqca37{P:Prop}(h:P:=by
 refine cJ hEc 2 ?_;conv=>whnf
 refine To.cutC [1,2] 2 rfl rfl rfl rfl ?_
 exact (aJg x r a)):P:=h
def zqca38{P:Prop}(h:P:=by
 refine .effp [] [0] _ _ rfl (bM j) ?_
 exact zx [0]):P:=h
def zqca39{P:Prop}(h:P:=by
 rw [e] at a d;have a:false=b:=a;subst a;refine gV ?_
 exact zW):P:=h
def zqca40{P:Prop}(h:P:=by
 have a:R=false:=a;subst a
 exact c_ Tryz.f239 λ_=>zW):P:=h
def zqca41{P:Prop}(h:P:=by
 refine gV ?_;refine To.part [1,7,69,70,71] [0,1] rfl rfl rfl ?_
 exact next):P:=h
structure Cmd where
 k:Int
 c:Con
 g:Gan
 n:Int
 deriving DecidableEq
def Cmd.cs(x:Cmd):ax:=[ii x.k,.slice 11 (nav x.c.ns) .no,.slice 6 (hav x.c.hs) .no,ii x.c.half,ii x.c.age,ii x.g.id,ii x.g.ten,ii x.g.pods,ii x.g.need.a,ii x.g.need.b,ii x.g.need.c,ii x.g.run,ii x.g.lev,ii x.g.pref,ii x.n]
def Cmd.av(x:Cmd):aa:=.agg x.cs
def pO(x:Int):Bool:=decide (0<=x)&&decide (x<=1099511627776)
def okI:aw->Bool
 | []=>true
 | x::r=>pO x&&okI r
def V3.l(v:V3):aw:=[v.a,v.b,v.c]
def Nod.ok(x:Nod):Bool:=(decide (-1<=x.p)&&decide (x.p<=1099511627776))&&okI [x.w]&&okI x.n.l&&okI x.b.l&&okI x.l.l
def Hos.ok(x:Hos):Bool:=okI [x.f,x.b,x.r]&&okI x.c.l
def uR:bb->Bool
 | []=>true
 | x::r=>x.ok&&uR r
def qQ:List Hos->Bool
 | []=>true
 | x::r=>x.ok&&qQ r
def Con.tok(c:Con):Bool:=uR c.ns&&qQ c.hs&&okI [c.half,c.age]
def Gan.ok(g:Gan):Bool:=okI [g.id,g.ten,g.pods,g.run,g.lev,g.pref]&&okI g.need.l
def Con.none(c:Con):Bool:=decide ((c.ns.length:Int)=0)&&decide ((c.hs.length:Int)=0)&&decide (c.half=0)&&decide (c.age=0)
def Gan.zero:Gan:=⟨0,0,0,⟨0,0,0⟩,0,0,0⟩
end Go.Proofs.YtbpccabomgalhaaGreatDoor
namespace Go.Proofs.YtbpccabomgalhaaGreatDoor.C8
open Go Go.AW Go.Proofs
set_option maxRecDepth 10000
def aV(e:Int):aa:=.iface 219 (.agg [ii e])
def fO(b:Bool)(e:Int)(h:b=true):aq 72 [.bool b,ii e] [] (.ret (.tup [])) []:=by subst h;refine c_ Tryz.f72 λ_=>gV ?_;refine ⟨λ h=>absurd h d_,λ h=>?_⟩;refine gW hE ?_;conv=>whnf
def dA(b:Bool)(e:Int)(h:b=false):aq 72 [.bool b,ii e] [] (.pan (aV e)) []:=by subst h;refine c_ Tryz.f72 λ_=>gV ?_;refine ⟨λ h=>?_,λ h=>absurd h d_⟩;refine gV ?_;rfl
def aI0(l:aw):Res:=if okI l then .ret (.tup []) else .pan (aV 1)
def XF(l:aw)(hl:((iv l).length:Int)<=9223372036854775807)(r:Res):∀ (n i:Nat),i+n=l.length->aI0 (l.drop i)=r->
  To E Tryz.f75 (.pure r) (.head (stk Tryz.f75 0) [(4,.slice 1 (iv l) .no),(5,.int .i64 ((iv l).length:Nat)),(6,.int .i64 i)] []):=by
 have d:(iv l).length=l.length:=by simp
 intro n;induction n with
 | zero=>
  intro i e a;rw [Ai o_] at a;refine gV ?_;refine ⟨λ h=>absurd (of_decide_eq_true h) o_,λ h=>gV ?_⟩;exact a
 | succ n g=>
  intro i e a;have c:i<l.length:=o_;rw [Ag c] at a;have a:(if pO l[i]&&okI (l.drop (i+1)) then Res.ret (.tup []) else .pan (aV 1))=r:=a;refine gV ?_;refine ⟨λ h=>?_,λ h=>absurd (of_decide_eq_false h) o_⟩;refine gV ?_;refine ⟨i,rfl,gV ?_⟩;refine ⟨_,gM c,gV ?_⟩;refine ⟨λ h1=>?_,λ h1=>?_⟩
  .refine gV ?_;rcases Ef (decide (l[i]<=1099511627776)) with b | b
   .refine .pure _ [] (fO _ _ b) (gV ?_);refine .inl ⟨⟨by simp only [bW];omega,by simp only [aW];omega⟩,?_⟩;refine gV ?_;refine To.head [4,5,6] ?_;refine g (i+1) o_ ?_;have h3:pO l[i]=true:=by unfold pO;rw [b];simpa using h1
    rw [h3,Dc] at a;exact a
   .refine .pan _ (dA _ _ b) ?_;have h3:pO l[i]=false:=by unfold pO;rw [b];simp
    rw [h3] at a;exact a
  .refine gV ?_;refine .pan _ (dA _ _ rfl) ?_;have h3:pO l[i]=false:=by unfold pO;have:decide (0<=l[i])=false:=h1;rw [this];rfl
   rw [h3] at a;exact a
def LA(l:aw)(r:Res)(b:aI0 l=r):aq 75 [.slice 1 (iv l) .no] [] r []:=by refine c_ Tryz.f75 λ c=>?_;have a:=XF l c.1 _ l.length 0 o_ b;exact zW
def jJ(l:aw)(h:okI l=true):aq 75 [.slice 1 (iv l) .no] [] (.ret (.tup [])) []:=LA l _ (if_pos h)
def gQ(l:aw)(h:okI l=false):aq 75 [.slice 1 (iv l) .no] [] (.pan (aV 1)) []:=LA l _ (if_neg (by rw [h];simp))
def oR(b:Bool):Res:=if b then .ret (.tup []) else .pan (aV 1)
def CX{b:Bool}{r:Res}(a:oR b=r)(h:b=false):Res.pan (aV 1)=r:=by subst h;exact a
def SR(c:Con)(r:Res)(hl:((hav c.hs).length:Int)<=9223372036854775807):∀ (n i:Nat),i+n=c.hs.length->oR (qQ (c.hs.drop i)&&okI [c.half,c.age])=r->
  To E Tryz.f73 (.pure r) (.head (stk Tryz.f73 1) [(1,.ref 0 0),(37,.slice 6 (hav c.hs) .no),(38,.int .i64 ((hav c.hs).length:Nat)),(39,.int .i64 i)] [.cells 26 c.cs]):=by
 have g:(hav c.hs).length=c.hs.length:=by simp
 intro n;induction n with
 | zero=>
  intro i k a;rw [Ai o_] at a;refine gV ?_;refine ⟨λ h=>absurd (of_decide_eq_true h) o_,λ h=>gV ?_⟩;cases d:okI [c.half,c.age] with
  | true=>
   refine .pure _ [] (aA.strip (jJ [c.half,c.age] d)) (gV ?_);rw [d] at a;exact a
  | false=>
   refine .pan _ (aA.strip (gQ [c.half,c.age] d)) ?_;rw [d] at a;exact a
 | succ n m=>
  intro i k a;have e:i<c.hs.length:=o_;rw [Ag e] at a;have a:oR ((c.hs[i].ok&&qQ (c.hs.drop (i+1)))&&okI [c.half,c.age])=r:=a;generalize j:c.hs[i]=x at a;refine gV ?_;refine ⟨λ h=>?_,λ h=>absurd (of_decide_eq_false h) o_⟩;refine gV ?_;refine ⟨i,rfl,gV ?_⟩;refine ⟨_,(wK e).trans (by rw [j]),gV ?_⟩;cases d:okI [x.f,x.b,x.r] with
  | false=>
   refine .pan _ (aA.strip (gQ [x.f,x.b,x.r] d)) ?_;exact CX a (by unfold Hos.ok;rw [d];rfl)
  | true=>
   refine .pure _ [] (aA.strip (jJ [x.f,x.b,x.r] d)) (gV ?_);refine ⟨by decide,gV ?_⟩;cases h3:okI x.c.l with
   | false=>
    refine .pan _ (aA.strip (gQ x.c.l h3)) ?_;exact CX a (by unfold Hos.ok;rw [d,h3];rfl)
   | true=>
    refine .pure _ [] (aA.strip (jJ x.c.l h3)) (gV ?_);refine .inl ⟨⟨by simp only [bW];omega,by simp only [aW];omega⟩,?_⟩;refine gV ?_;refine To.cut [1,37,38,39] 1 rfl rfl rfl rfl ?_;refine m (i+1) o_ ?_;have:x.ok=true:=by unfold Hos.ok;rw [d,h3];rfl
    rw [this,Dc] at a;exact a
def ZS(c:Con)(r:Res)(hl:((nav c.ns).length:Int)<=9223372036854775807)(v:((hav c.hs).length:Int)<=9223372036854775807):∀ (n i:Nat),i+n=c.ns.length->oR (uR (c.ns.drop i)&&(qQ c.hs&&okI [c.half,c.age]))=r->
  To E Tryz.f73 (.pure r) (.head (stk Tryz.f73 0) [(1,.ref 0 0),(7,.slice 11 (nav c.ns) .no),(8,.int .i64 ((nav c.ns).length:Nat)),(9,.int .i64 i)] [.cells 26 c.cs]):=by
 have q:(nav c.ns).length=c.ns.length:=by simp
 intro n;induction n with
 | zero=>
  intro i s d;rw [Ai o_] at d;refine gV ?_;refine ⟨λ h=>absurd (of_decide_eq_true h) o_,λ h=>?_⟩;have o:=SR c r v c.hs.length 0 o_ d;exact zW
 | succ n y=>
  intro i s d;have g:i<c.ns.length:=o_;rw [Ag g] at d;have d:oR ((c.ns[i].ok&&uR (c.ns.drop (i+1)))&&(qQ c.hs&&okI [c.half,c.age]))=r:=d;generalize u:c.ns[i]=x at d;have a:x.ok=false->Res.pan (aV 1)=r:=λ h=>CX d (by rw [h];rfl);refine gV ?_;refine ⟨λ h=>?_,λ h=>absurd (of_decide_eq_false h) o_⟩;refine gV ?_;refine ⟨i,rfl,gV ?_⟩;refine ⟨_,(kS g).trans (by rw [u]),gV ?_⟩;refine ⟨λ h1=>?_,λ h1=>?_⟩
  .have h1:decide (-1<=x.p)=true:=h1;refine gV ?_;rcases Ef (decide (x.p<=1099511627776)) with e | e
   .refine .pure _ [] (fO _ _ e) (gV ?_);cases h3:okI [x.w] with
    | false=>
     refine .pan _ (aA.strip (gQ [x.w] h3)) ?_;exact a (by unfold Nod.ok;rw [h3];simp)
    | true=>
    refine .pure _ [] (aA.strip (jJ [x.w] h3)) (gV ?_);refine ⟨by decide,gV ?_⟩;cases j:okI x.n.l with
    | false=>
     refine .pan _ (aA.strip (gQ x.n.l j)) ?_;exact a (by unfold Nod.ok;rw [j];simp)
    | true=>
    refine .pure _ [] (aA.strip (jJ x.n.l j)) (gV ?_);refine ⟨by decide,gV ?_⟩;cases m:okI x.b.l with
    | false=>
     refine .pan _ (aA.strip (gQ x.b.l m)) ?_;exact a (by unfold Nod.ok;rw [m];simp)
    | true=>
    refine .pure _ [] (aA.strip (jJ x.b.l m)) (gV ?_);refine ⟨by decide,gV ?_⟩;cases k:okI x.l.l with
    | false=>
     refine .pan _ (aA.strip (gQ x.l.l k)) ?_;exact a (by unfold Nod.ok;rw [k];simp)
    | true=>
    refine .pure _ [] (aA.strip (jJ x.l.l k)) (gV ?_);refine .inl ⟨⟨by simp only [bW];omega,by simp only [aW];omega⟩,?_⟩;refine gV ?_;refine To.cut [1,7,8,9] 1 rfl rfl rfl rfl ?_;refine y (i+1) o_ ?_;have:x.ok=true:=by unfold Nod.ok;rw [h1,e,h3,j,m,k];rfl
    rw [this,Dc] at d;exact d
   .refine .pan _ (dA _ _ e) ?_;exact a (by unfold Nod.ok;rw [e];simp)
  .have h1:decide (-1<=x.p)=false:=h1;refine gV ?_;refine .pan _ (dA _ _ rfl) ?_;exact a (by unfold Nod.ok;rw [h1];simp)
def aIs(c:Con)(M:Imm)(ob:Hs)(vs:ba)(h:bX M ob vs [c.av]):((nav c.ns).length:Int)<=9223372036854775807/\((hav c.hs).length:Int)<=9223372036854775807:=by
 have hl:0<vs.length:=by rw [h.1];simp
 have:=h.2 0 _ c.av (Aa hl) rfl;exact ⟨cN this 0 _ rfl,cN this 1 _ rfl⟩
def EB(c:Con)(r:Res)(d:oR c.tok=r):aq 73 [c.av] [] r []:=by refine aA.get _ (aIs c) λ⟨hl,b⟩=>?_;refine c_ Tryz.f73 λ_=>?_;have a:=ZS c r hl b c.ns.length 0 o_ (by rw [<-d];unfold Con.tok;rw [Ia];rfl);exact zW
def ZQ(c:Con)(h:c.tok=true):aq 73 [c.av] [] (.ret (.tup [])) []:=EB c _ (if_pos h)
def SI(c:Con)(h:c.tok=false):aq 73 [c.av] [] (.pan (aV 1)) []:=EB c _ (if_neg (by rw [h];simp))
def N1(x:Gan)(r:Res)(b:oR x.ok=r):aq 74 [x.av] [] r []:=by
 refine c_ Tryz.f74 λ_=>gV ?_;cases h1:okI [x.id,x.ten,x.pods,x.run,x.lev,x.pref] with
 | false=>
  refine .pan _ (aA.strip (gQ [x.id,x.ten,x.pods,x.run,x.lev,x.pref] h1)) ?_;exact CX b (by unfold Gan.ok;rw [h1];rfl)
 | true=>
  refine .pure _ [] (aA.strip (jJ [x.id,x.ten,x.pods,x.run,x.lev,x.pref] h1)) (gV ?_);refine ⟨by decide,gV ?_⟩;cases a:okI x.need.l with
  | false=>
   refine .pan _ (aA.strip (gQ x.need.l a)) ?_;exact CX b (by unfold Gan.ok;rw [h1,a];rfl)
  | true=>
   refine .pure _ [] (aA.strip (jJ x.need.l a)) (gV ?_);rw [<-b];unfold Gan.ok;rw [h1,a];rfl
def aHw(x:Gan)(h:x.ok=true):aq 74 [x.av] [] (.ret (.tup [])) []:=N1 x _ (if_pos h)
def aDc(x:Gan)(h:x.ok=false):aq 74 [x.av] [] (.pan (aV 1)) []:=N1 x _ (if_neg (by rw [h];simp))
def catch_ret(x:Int):nE Tryz.prog 71 [.ref 0 0] [.cells 70 [ii x]] none [.cells 70 [ii x]]:=by refine nE.of (E:=E) (fn:=Tryz.f71) (n0:=1) (r:=.tup []) (by rfl) (by rfl) (by rfl) (λ_ _=>by rfl) (by rfl) (by decide+kernel) (by rfl) (by rfl) (by rfl) (by rfl) λ_=>gV ?_;refine ⟨λ_=>?_,λ h=>absurd h d_⟩;exact zW
def catch_pan(x e:Int):nE Tryz.prog 71 [.ref 0 0] [.cells 70 [ii x]] (some (aV e)) [.cells 70 [ii e]]:=by refine nE.of (E:=E) (fn:=Tryz.f71) (n0:=1) (r:=.tup []) (by rfl) (by rfl) (by rfl) (λ_ _=>by rfl) (by rfl) (by decide+kernel) (by rfl) (by rfl) (by rfl) (by rfl) λ_=>gV ?_;refine ⟨λ h=>absurd h d_,λ_=>gV ?_⟩;refine ⟨λ_=>?_,λ h=>absurd h d_⟩;exact zW
def _root_.Go.Proofs.YtbpccabomgalhaaGreatDoor.Gan.isZ(g:Gan):Bool:=((g.id==0)&&((g.ten==0)&&((g.pods==0)&&((g.need.a==0)&&((g.need.b==0)&&((g.need.c==0)&&((g.run==0)&&((g.lev==0)&&((g.pref==0)&&true)))))))))
def chkL(x:Cmd):Int:=if decide (((nav x.c.ns).length:Int)<=12)&&decide (((hav x.c.hs).length:Int)<=24) then 0 else 8
def chkN(x:Cmd):Int:=if okI [x.n] then chkL x else 1
def chkG(x:Cmd):Int:=if x.g.ok then chkN x else 1
def chkC(x:Cmd):Int:=if x.c.tok then chkG x else 1
def chk4(x:Cmd):Int:=if ((x.k==3||x.k==4)||x.k==5)||x.n==0 then chkC x else 1
def chk3(x:Cmd):Int:=if x.k==2||x.g.isZ then chk4 x else 1
def _root_.Go.Proofs.YtbpccabomgalhaaGreatDoor.Con.non(c:Con):Bool:=((((nav c.ns).length:Int)==0&&((hav c.hs).length:Int)==0)&&c.half==0)&&c.age==0
def chk2(x:Cmd):Int:=if x.k==1||x.c.non then chk3 x else 1
def chk(x:Cmd):Int:=if decide (1<=x.k)&&decide (x.k<=6) then chk2 x else 1
abbrev chF:ar:=[(1,.ref 0 0),(2,.ref 1 0)]
abbrev chO(x:Cmd):au:=[.cells 56 x.cs,.cells 70 [ii 0]]
noncomputable abbrev Ec:Env:=Ed [(71,[.ref 1 0])]
def hEc:ae Ec:=hEd _
def aIw(x:Cmd)(r:Int)(h:0=r):To Ec Tryz.f45 (.pure (.ret (ii r))) (.code (fL Tryz.f45 9) chF (chO x)):=by
 subst h;refine gW hEc ?_;conv=>whnf
 refine To.leave (f:=71) (args:=[.ref 1 0]) [] rfl [] [1] rfl (catch_ret 0) ?_;exact To.left hE rfl rfl rfl
def aNv(x:Cmd)(r:Int)(a:chkL x=r):To Ec Tryz.f45 (.pure (.ret (ii r))) (.code (fL Tryz.f45 8) chF (chO x)):=by
 unfold chkL at a;refine gW hEc ?_;conv=>whnf
 refine ⟨λ h1=>?_,λ h1=>?_⟩
 .refine gW hEc ?_;conv=>whnf
  rcases Ef (decide (((hav x.c.hs).length:Int)<=24)) with b | b
  .rw [b,h1] at a;refine .pure _ [] (fO _ _ b) ?_;refine cJ hEc 2 ?_;conv=>whnf
   refine To.cutC [1,2] 2 rfl rfl rfl rfl ?_;exact (aIw x r a)
  .rw [b,Fc] at a;subst a;refine .pan _ (dA _ _ b) ?_;conv=>whnf
   exact zqca29
 .rw [h1,Gb] at a;subst a;refine gW hEc ?_;conv=>whnf
  refine .pan _ (dA _ _ rfl) ?_;conv=>whnf
  exact zqca29
def aNw(x:Cmd)(r:Int)(a:chkN x=r):To Ec Tryz.f45 (.pure (.ret (ii r))) (.code (fL Tryz.f45 7) chF (chO x)):=by
 unfold chkN at a;refine gW hEc ?_;conv=>whnf
 cases h:okI [x.n] with
 | true=>
  rw [h] at a;refine .pure _ [] (aA.strip (jJ [x.n] h)) ?_;refine cJ hEc 2 ?_;conv=>whnf
  refine To.cutC [1,2] 2 rfl rfl rfl rfl ?_;exact (aNv x r a)
 | false=>
  rw [h] at a;subst a;refine .pan _ (aA.strip (gQ [x.n] h)) ?_;conv=>whnf
  exact zqca1
def aNx(x:Cmd)(r:Int)(a:chkG x=r):To Ec Tryz.f45 (.pure (.ret (ii r))) (.code (fL Tryz.f45 6) chF (chO x)):=by
 unfold chkG at a;refine gW hEc ?_;conv=>whnf
 cases h:x.g.ok with
 | true=>
  rw [h] at a;refine .pure _ [] (aHw x.g h) ?_;refine cJ hEc 2 ?_;conv=>whnf
  refine To.cutC [1,2] 2 rfl rfl rfl rfl ?_;exact (aNw x r a)
 | false=>
  rw [h] at a;subst a;refine .pan _ (aDc x.g h) ?_;conv=>whnf
  exact zqca1
def WS(x:Cmd)(r:Int)(a:chkC x=r):To Ec Tryz.f45 (.pure (.ret (ii r))) (.code (fL Tryz.f45 5) chF (chO x)):=by
 unfold chkC at a;refine gW hEc ?_;conv=>whnf
 cases h:x.c.tok with
 | true=>
  rw [h] at a;refine .pure _ [] (ZQ x.c h) ?_;refine cJ hEc 2 ?_;conv=>whnf
  refine To.cutC [1,2] 2 rfl rfl rfl rfl ?_;exact (aNx x r a)
 | false=>
  rw [h] at a;subst a;refine .pan _ (SI x.c h) ?_;conv=>whnf
  exact zqca1
def mU{b:Bool}{p q r:Int}(a:(if b then p else q)=r)(h:b=true):p=r:=by subst h;exact a
def xZ{b:Bool}{p q r:Int}(a:(if b then p else q)=r)(h:b=false):q=r:=by subst h;exact a
def aJg(x:Cmd)(r:Int)(a:chk4 x=r):To Ec Tryz.f45 (.pure (.ret (ii r))) (.code (fL Tryz.f45 4) chF (chO x)):=by
 unfold chk4 at a;refine gW hEc ?_;conv=>whnf
 refine ⟨λ h1=>?_,λ h1=>?_⟩
 .have h1:(x.k==3)=true:=h1;replace a:=mU a (by simp [h1]);refine gW hEc ?_;conv=>whnf
  refine aY ?_;refine gW hEc ?_;conv=>whnf
  refine aY ?_;exact zqca9
 .have h1:(x.k==3)=false:=h1;refine gW hEc ?_;conv=>whnf
  refine ⟨λ b=>?_,λ b=>?_⟩
  .have b:(x.k==4)=true:=b;replace a:=mU a (by simp [b]);refine gW hEc ?_;conv=>whnf
   refine aY ?_;exact zqca9
  .have b:(x.k==4)=false:=b;refine gW hEc ?_;conv=>whnf
   refine ⟨λ h3=>?_,λ h3=>?_⟩
   .have h3:(x.k==5)=true:=h3;replace a:=mU a (by simp [h3]);exact zqca9
   .have h3:(x.k==5)=false:=h3;refine gW hEc ?_;conv=>whnf
    refine (Ef (x.n==0)).elim (λ c=>?_) (λ c=>?_)
    .replace a:=mU a (by simp [c]);refine .pure _ [] (fO _ _ c) ?_;refine cJ hEc 2 ?_;conv=>whnf
     refine To.cutC [1,2] 2 rfl rfl rfl rfl ?_;exact (WS x r a)
    .replace a:=xZ a (by simp [h1,b,h3,c]);subst a;refine .pan _ (dA _ _ c) ?_;conv=>whnf
     exact zqca1
def aJh(x:Cmd)(r:Int)(a:chk3 x=r):To Ec Tryz.f45 (.pure (.ret (ii r))) (.code (fL Tryz.f45 3) chF (chO x)):=by
 unfold chk3 at a;refine gW hEc ?_;conv=>whnf
 refine ⟨λ h1=>?_,λ h1=>?_⟩
 .have h1:(x.k==2)=true:=h1;replace a:=mU a (by simp [h1]);refine gW hEc ?_;conv=>whnf
  refine .pure _ [] (fO _ _ rfl) ?_;exact zqca37
 .have h1:(x.k==2)=false:=h1;refine gW hEc ?_;conv=>whnf
  refine (Ef x.g.isZ).elim (λ b=>?_) (λ b=>?_)
  .replace a:=mU a (by simp [b]);refine .pure _ [] (fO _ _ b) ?_;exact zqca37
  .replace a:=xZ a (by simp [h1,b]);subst a;refine .pan _ (dA _ _ b) ?_;conv=>whnf
   exact zqca1
def aNy(x:Cmd)(r:Int)(a:chk2 x=r):To Ec Tryz.f45 (.pure (.ret (ii r))) (.code (fL Tryz.f45 2) chF (chO x)):=by
 unfold chk2 Con.non at a;refine gW hEc ?_;conv=>whnf
 refine ⟨λ h1=>?_,λ h1=>?_⟩
 .have h1:(x.k==1)=true:=h1;replace a:=mU a (by rw [h1];rfl);refine gW hEc ?_;conv=>whnf
  refine .pure _ [] (fO _ _ rfl) ?_;exact zqca34
 .have h1:(x.k==1)=false:=h1;refine gW hEc ?_;conv=>whnf
  refine ⟨λ b=>?_,λ b=>?_⟩
  .have b:(((nav x.c.ns).length:Int)==0)=true:=b;refine gW hEc ?_;conv=>whnf
   refine ⟨λ h3=>?_,λ h3=>?_⟩
   .have h3:(((hav x.c.hs).length:Int)==0)=true:=h3;refine gW hEc ?_;conv=>whnf
    refine ⟨λ d=>?_,λ d=>?_⟩
    .have d:(x.c.half==0)=true:=d;refine gW hEc ?_;conv=>whnf
     refine (Ef (x.c.age==0)).elim (λ e=>?_) (λ e=>?_)
     .replace a:=mU a (by rw [h1,b,h3,d,e];rfl);refine .pure _ [] (fO _ _ e) ?_;exact zqca34
     .replace a:=xZ a (by rw [h1,e,Fc];rfl);subst a;refine .pan _ (dA _ _ e) ?_;conv=>whnf
      exact zqca1
    .have d:(x.c.half==0)=false:=d;replace a:=xZ a (by rw [h1,d,Fc,Gb];rfl);subst a;exact zqca16
   .have h3:(((hav x.c.hs).length:Int)==0)=false:=h3;replace a:=xZ a (by rw [h1,h3,Fc];rfl);subst a;refine gW hEc ?_;conv=>whnf
    refine aN ?_;exact zqca16
  .have b:(((nav x.c.ns).length:Int)==0)=false:=b;replace a:=xZ a (by rw [h1,b];rfl);subst a;refine gW hEc ?_;conv=>whnf
   refine aN ?_;refine gW hEc ?_;conv=>whnf
   refine aN ?_;exact zqca16
def aNz(x:Cmd)(r:Int)(a:chk x=r):To Ec Tryz.f45 (.pure (.ret (ii r))) (.code (fL Tryz.f45 1) chF (chO x)):=by
 unfold chk at a;refine gW hEc ?_;conv=>whnf
 refine ⟨λ h1=>?_,λ h1=>?_⟩
 .have h1:decide (1<=x.k)=true:=h1;refine gW hEc ?_;conv=>whnf
  refine (Ef (decide (x.k<=6))).elim (λ b=>?_) (λ b=>?_)
  .rw [h1,b] at a;refine .pure _ [] (fO _ _ b) ?_;refine cJ hEc 2 ?_;conv=>whnf
   refine To.cutC [1,2] 2 rfl rfl rfl rfl ?_;exact (aNy x r a)
  .rw [b,Fc] at a;subst a;refine .pan _ (dA _ _ b) ?_;conv=>whnf
   exact zqca1
 .have h1:decide (1<=x.k)=false:=h1;rw [h1,Gb] at a;subst a;exact zqca16
def check_any(x:Cmd)(r:Int)(a:chk x=r):aq 45 [x.av] [] (.ret (ii r)) []:=by refine c_ Tryz.f45 λ_=>gV ?_;refine To.defer (f:=71) (args:=[.ref 1 0]) _ rfl rfl ?_;refine To.cutC [1,2] 2 rfl rfl rfl rfl ?_;exact aNz x r a
def check_ok(x:Cmd):aq 45 [x.av] [] (.ret (ii (chk x))) []:=check_any x _ rfl
def mE(r:Nat):Code->bf->Option bf
 | .region id o d,ks=>bif Aw id r then some (.code (.region id o d)::ks) else none
 | .seq a b,ks=>(match mE r a (.code b::ks) with | some x=>some x | none=>mE r b ks)
 | .cond _ a b,ks=>(match mE r a ks with | some x=>some x | none=>mE r b ks)
 | .block id b,ks=>mE r b (.inB id::ks)
 | .loop b,ks=>mE r b (.inL b::ks)
 | _,_=>none
def rZ(fn:Func)(r:Nat):bf:=match mE r (cH fn) [] with | some ks=>ks | none=>[]
def eqL{α:Type}(f:α->α->Bool):List α->List α->Bool
 | [],[]=>true
 | x::r,y::s=>f x y&&eqL f r s
 | _,_=>false
def JX{α:Type}{f:α->α->Bool}:∀ {a b:List α},a.length≠b.length->eqL f a b=false
 | [],[],h=>absurd rfl h
 | [],_::_,_=>rfl
 | _::_,[],_=>rfl
 | x::r,y::s,h=>by have:=JX (f:=f) (a:=r) (b:=s) (by simpa using h);simp [eqL,this]
def _root_.Go.Proofs.YtbpccabomgalhaaGreatDoor.Nod.eqb(x y:Nod):Bool:=(x.p==y.p)&&((x.w==y.w)&&((x.n.a==y.n.a)&&((x.n.b==y.n.b)&&((x.n.c==y.n.c)&&((x.b.a==y.b.a)&&((x.b.b==y.b.b)&&((x.b.c==y.b.c)&&((x.l.a==y.l.a)&&((x.l.b==y.l.b)&&((x.l.c==y.l.c)&&true))))))))))
def _root_.Go.Proofs.YtbpccabomgalhaaGreatDoor.Hos.eqb(x y:Hos):Bool:=(x.f==y.f)&&((x.b==y.b)&&((x.r==y.r)&&((x.c.a==y.c.a)&&((x.c.b==y.c.b)&&((x.c.c==y.c.c)&&true)))))
def _root_.Go.Proofs.YtbpccabomgalhaaGreatDoor.Gan.eqb(x y:Gan):Bool:=(x.id==y.id)&&((x.ten==y.ten)&&((x.pods==y.pods)&&((x.need.a==y.need.a)&&((x.need.b==y.need.b)&&((x.need.c==y.need.c)&&((x.run==y.run)&&((x.lev==y.lev)&&((x.pref==y.pref)&&true))))))))
def _root_.Go.Proofs.YtbpccabomgalhaaGreatDoor.Nod.eqb_eq{x y:Nod}:x.eqb y=true↔x=y:=by obtain ⟨_,_,⟨_,_,_⟩,⟨_,_,_⟩,⟨_,_,_⟩⟩:=x;obtain ⟨_,_,⟨_,_,_⟩,⟨_,_,_⟩,⟨_,_,_⟩⟩:=y;simp [Nod.eqb,and_assoc]
def _root_.Go.Proofs.YtbpccabomgalhaaGreatDoor.Gan.eqb_eq{x y:Gan}:x.eqb y=true↔x=y:=by obtain ⟨_,_,_,⟨_,_,_⟩,_,_,_⟩:=x;obtain ⟨_,_,_,⟨_,_,_⟩,_,_,_⟩:=y;simp [Gan.eqb,and_assoc]
def aDE(a b:bb)(q:a.length=b.length)(hl:((nav a).length:Int)<=9223372036854775807)(r:Bool):∀ (n i:Nat),i+n=a.length->eqL Nod.eqb (a.drop i) (b.drop i)=r->
  To E Tryz.f279 (.pure (.ret (.bool r))) (.head (stk Tryz.f279 0) [(0,.slice 11 (nav a) .no),(1,.slice 11 (nav b) .no),(12,.int .i64 ((nav a).length:Nat)),(13,.int .i64 i)] []):=by
 have g:(nav a).length=a.length:=by simp
 intro n;induction n with
 | zero=>
  intro i j c;rw [Ai o_,Ai o_] at c;subst c;refine gV ?_;exact zW
 | succ n p=>
  intro i j c;have h1:i<a.length:=o_;have d:i<b.length:=o_;rw [Ag h1,Ag d] at c;have c:(Nod.eqb a[i] b[i]&&eqL Nod.eqb (a.drop (i+1)) (b.drop (i+1)))=r:=c;generalize o:a[i]=x at c;generalize l:b[i]=y at c;have m:(nav a)[i]? =some (Nod.av x):=by simp [o,h1]
  have k:(nav b)[i]? =some (Nod.av y):=by simp [l,d]
  refine gV ?_;refine aT λ h=>?_
  repeat' first | (refine gN hE ?_;conv=>whnf) | refine ⟨_,m,?_⟩ | refine ⟨_,k,?_⟩ | exact rfl | refine zt ?_ | refine zu ?_ ?_ | intro h | fail
  .rename_i h;have h:Nod.eqb x y=false:=MV h;rw [h] at c;rw [<-c];rfl
  .rename_i h;have h:Nod.eqb x y=true:=MW h;rw [h,Dc] at c;have e:=p (i+1) o_ c;exact zW
def eqN_ok(a b:bb):aq 279 [.slice 11 (nav a) .no,.slice 11 (nav b) .no] [] (.ret (.bool (eqL Nod.eqb a b))) []:=by
 have d:(nav a).length=a.length:=by simp
 have c:(nav b).length=b.length:=by simp
 refine c_ Tryz.f279 λ j=>?_;have hl:((nav a).length:Int)<=9223372036854775807:=j.1;refine gV ?_;refine ⟨λ h=>?_,λ h=>?_⟩
 .have h:(((nav a).length:Int) !=((nav b).length:Int))=true:=h;rw [JX (by intro e;rw [d,c,e] at h;simp at h)];refine gW hE ?_;conv=>whnf
 .have h:(((nav a).length:Int) !=((nav b).length:Int))=false:=h;have i:=aDE a b (by simp at h;omega) hl _ a.length 0 o_ rfl;exact zW
def aDF(a b:List Hos)(q:a.length=b.length)(hl:((hav a).length:Int)<=9223372036854775807)(r:Bool):∀ (n i:Nat),i+n=a.length->eqL Hos.eqb (a.drop i) (b.drop i)=r->
  To E Tryz.f280 (.pure (.ret (.bool r))) (.head (stk Tryz.f280 0) [(0,.slice 6 (hav a) .no),(1,.slice 6 (hav b) .no),(12,.int .i64 ((hav a).length:Nat)),(13,.int .i64 i)] []):=by
 have g:(hav a).length=a.length:=by simp
 intro n;induction n with
 | zero=>
  intro i j c;rw [Ai o_,Ai o_] at c;subst c;refine gV ?_;exact zW
 | succ n p=>
  intro i j c;have h1:i<a.length:=o_;have e:i<b.length:=o_;rw [Ag h1,Ag e] at c;have c:(Hos.eqb a[i] b[i]&&eqL Hos.eqb (a.drop (i+1)) (b.drop (i+1)))=r:=c;generalize o:a[i]=x at c;generalize l:b[i]=y at c;have m:(hav a)[i]? =some (Hos.av x):=by simp [o,h1]
  have k:(hav b)[i]? =some (Hos.av y):=by simp [l,e]
  refine gV ?_;refine aT λ h=>?_
  repeat' first | (refine gN hE ?_;conv=>whnf) | refine ⟨_,m,?_⟩ | refine ⟨_,k,?_⟩ | exact rfl | refine zt ?_ | refine zu ?_ ?_ | intro h | fail
  .rename_i h;have h:Hos.eqb x y=false:=MV h;rw [h] at c;rw [<-c];rfl
  .rename_i h;have h:Hos.eqb x y=true:=MW h;rw [h,Dc] at c;have d:=p (i+1) o_ c;exact zW
def eqH_ok(a b:List Hos):aq 280 [.slice 6 (hav a) .no,.slice 6 (hav b) .no] [] (.ret (.bool (eqL Hos.eqb a b))) []:=by
 have d:(hav a).length=a.length:=by simp
 have c:(hav b).length=b.length:=by simp
 refine c_ Tryz.f280 λ j=>?_;have hl:((hav a).length:Int)<=9223372036854775807:=j.1;refine gV ?_;refine ⟨λ h=>?_,λ h=>?_⟩
 .have h:(((hav a).length:Int) !=((hav b).length:Int))=true:=h;rw [JX (by intro e;rw [d,c,e] at h;simp at h)];refine gW hE ?_;conv=>whnf
 .have h:(((hav a).length:Int) !=((hav b).length:Int))=false:=h;have i:=aDF a b (by simp at h;omega) hl _ a.length 0 o_ rfl;exact zW
def aMm(a b:Con):Bool:=eqL Nod.eqb a.ns b.ns&&(eqL Hos.eqb a.hs b.hs&&((a.half==b.half)&&(a.age==b.age)))
def same(a b:Cmd):Bool:=(a.k==b.k)&&(a.g.eqb b.g&&((a.n==b.n)&&aMm a.c b.c))
set_option maxHeartbeats 2000000
end Go.Proofs.YtbpccabomgalhaaGreatDoor.C8
namespace Go.Proofs.YtbpccabomgalhaaGreatDoor.Q2
open Go Go.AW Go.Proofs
structure Pend where
 (id tenant pods n0 n1 n2 run level prefer seq since:Int)
 deriving DecidableEq
abbrev _root_.bh:=List Pend
def Pend.cs(p:Pend):ax:=[.int .i64 p.id,.int .i64 p.tenant,.int .i64 p.pods,.int .i64 p.n0,.int .i64 p.n1,.int .i64 p.n2,.int .i64 p.run,.int .i64 p.level,.int .i64 p.prefer,.int .i64 p.seq,.int .i64 p.since]
def Pend.av(p:Pend):aa:=.agg p.cs
abbrev pav(l:bh):ax:=l.map Pend.av
def uI{n:Int}(h1: -9223372036854775808<=n)(a:n<=9223372036854775807):inR .i64 n:=⟨by simp only [bW];omega,by simp only [aW];omega⟩
def idx(p:Pend->Bool):bh->Int->Int
 | [],_=> -1
 | x::r,i=>if p x then i else idx p r (i+1)
def ak(a:Int)(l:bh):Int:=idx (λ x=>x.id==a) l 0
def aB2(a b:Int):Pend:=⟨a,0,0,0,0,0,0,0,0,b,0⟩
def I5{l:bh}{i:Nat}(h:i<l.length):(pav l)[i]? =some l[i].av:=by simp [pav,h]
set_option maxRecDepth 10000
def aMR(p:Pend):aq 335 [p.av] [] (.ret (.int .i64 p.id)) []:=by refine c_ Tryz.f335 λ_=>?_;refine gW hE ?_;conv=>whnf
def aA5(p:Pend):aq 336 [p.av] [] (.ret (.int .i64 p.seq)) []:=by refine c_ Tryz.f336 λ_=>?_;refine gW hE ?_;conv=>whnf
def aMN(p:Pend)(b:Int):aq 114 [.iface 226 p.av,.int .i64 b] [] (.ret (.bool (p.id==b))) []:=by refine c_ Tryz.f114 λ_=>?_;have a:=aMR p;exact zW
def HZ(p q:Pend):aq 119 [.iface 226 p.av,.iface 226 q.av] [] (.ret (.bool (decide (q.seq<p.seq)))) []:=by refine c_ Tryz.f119 λ_=>?_;have b:=aA5 p;have a:=aA5 q;exact zW
def aGg(x p:Pend):aq 118 [x.av,.ptr p.cs] [] (.ret (.bool (decide (p.seq<x.seq)))) []:=by refine c_ Tryz.f118 λ_=>?_;have a:=HZ x p;exact zW
def aDt(x:Pend)(a:Int):aq 113 [x.av,.ptr [.int .i64 a]] [] (.ret (.bool (x.id==a))) []:=by refine c_ Tryz.f113 λ_=>?_;have b:=aMN x a;exact zW
def Q6(f:FuncId)(l:ax)(xs:bh)(p:Pend->Bool)(g:∀ x∈xs,aA Tryz.prog f [x.av,.ptr l] [] (.ret (.bool (p x))) [])(hl:((pav xs).length:Int)<=9223372036854775807)(r:Int):
  ∀ (n i:Nat),i+n=xs.length->idx p (xs.drop i) i=r->
  To E Tryz.f112 (.pure (.ret (.int .i64 r))) (.head (stk Tryz.f112 0)
   [(0,.slice 11 (pav xs) .no),(1,.func (.func f) [] [.ptr l]),(7,.int .i64 ((pav xs).length:Nat)),(8,.int .i64 i)] []):=by
 have d:(pav xs).length=xs.length:=by simp
 intro n;induction n with
 | zero=>
  intro i j a;refine gV ?_;refine ⟨λ h=>?_,λ h=>?_⟩
  .exact absurd (of_decide_eq_true h) o_
  .refine gV ?_;rw [Ai o_] at a;rw [<-a];rfl
 | succ n k=>
  intro i j a;have b:i<xs.length:=o_;refine gV ?_;refine ⟨λ h=>?_,λ h=>?_⟩
  .refine gV ?_;refine ⟨i,rfl,gV ?_⟩;refine ⟨_,I5 b,gV ?_⟩;refine .pure _ [] (g xs[i] (Bd b)) (gV ?_);rw [Ag b] at a;have a:(if p xs[i] then (i:Int) else idx p (xs.drop (i+1)) ((i:Int)+1))=r:=a;exact zqca4
  .exact absurd (of_decide_eq_false h) o_
def NR(f:FuncId)(l:ax)(xs:bh)(p:Pend->Bool)(a:∀ x∈xs,aA Tryz.prog f [x.av,.ptr l] [] (.ret (.bool (p x))) []):
  aq 112 [.slice 11 (pav xs) .no,.func (.func f) [] [.ptr l]] [] (.ret (.int .i64 (idx p xs 0))) []:=by
 refine c_ Tryz.f112 λ b=>gV ?_;refine To.head [0,1,7,8] ?_;exact Q6 f l xs p a b.1 _ xs.length 0 o_ s_
def find_ok(xs:bh)(a:Int):aq 79 [.slice 11 (pav xs) .no,.int .i64 a] [] (.ret (.int .i64 (ak a xs))) []:=by refine c_ Tryz.f79 λ_=>?_;have b:=NR _ _ xs (λ x=>x.id==a) λ x _=>aDt x a;exact zW
def aK7{n:Nat}(h:n<=1000000):AO n 88:=⟨by simp only [maxLen];omega,by omega⟩
def EC(xs:bh)(c:xs.length<=1000000):aq 19 [.slice 11 (pav xs) .no] [] (.ret (.row 0 0)) [.row 0 11 45 (pav xs)]:=by
 refine cT (E:=(Er [2,5] [])) (fn:=Tryz.f19) (g:=.full 0 _ _) λ_=>gV ?_;intro b a;refine gV ?_;refine ⟨λ h=>?_,λ h=>?_⟩
 .refine gV ?_;refine ⟨[],[1],⟨rfl,rfl⟩,?_⟩;conv=>whnf
  rw [a (by simpa using h)];exact ⟨rfl,rfl⟩
 .refine gV ?_;refine ⟨aK7 (by simpa using c),gV ?_⟩;refine ⟨[],[1],⟨rfl,rfl⟩,?_⟩;exact ⟨rfl,rfl⟩
def del_list{α:Type}(l:List α)(i:Nat)(f:i<l.length)(z:α):
  (l.take (0+i)++(l.drop (i+1)).take (l.length-(i+1))++l.drop (0+i+(l.length-(i+1)))).take (0+(l.length-1))++Aj (l.length-(l.length-1)) z++
   (l.take (0+i)++(l.drop (i+1)).take (l.length-(i+1))++l.drop (0+i+(l.length-(i+1)))).drop (0+(l.length-1)+(l.length-(l.length-1)))=l.eraseIdx i++[z]:=by
 have d:(l.drop (i+1)).take (l.length-(i+1))=l.drop (i+1):=Cd s_;have c:l.length-(l.length-1)=1:=o_;have a:(l.take (0+i)++l.drop (i+1)).length=l.length-1:=by simp;omega
 rw [d,c,Fu];simp only [Bw] at a⊢;have b:(l.take i++l.drop (i+1)++l.drop (i+(l.length-(i+1)))).take (l.length-1)=l.take i++l.drop (i+1):=by rw [Cz o_,Cd o_]
 have e:(l.take i++l.drop (i+1)++l.drop (i+(l.length-(i+1)))).drop (l.length-1+1)=[]:=by refine Ai ?_;rw [Ah,a,Eg];omega
 rw [b,e];simp
def ZL(xs:bh)(i:Nat)(d:i<xs.length)(e:xs.length<=1000000):aq 84 [.row 0 0,.int .i64 i,.int .i64 ((i:Int)+1)] [.row 0 11 45 (pav xs)]
  (.ret (.sub 0 0 0 (xs.length-1) 11)) [.row 0 11 45 (pav (xs.eraseIdx i)++[(aB2 0 0).av])]:=by
 refine cT (E:=E) (fn:=Tryz.f84) (g:=.full 1 _ _) λ_=>gV ?_;refine ⟨i,rfl,gV ?_⟩;refine ⟨i+1,by push_cast;rfl,?_⟩;refine gV ?_;refine ⟨xs.length,by simp,gV ?_⟩;refine ⟨⟨⟨by omega,by omega⟩,by simp⟩,gV ?_⟩;refine ⟨λ h=>?_,λ h=>?_⟩
 .simp at h;omega
 .refine gV ?_;refine ⟨i,rfl,gV ?_⟩;refine ⟨by simp;omega,?_⟩;refine gV ?_;refine ⟨i+1,by push_cast;rfl,?_⟩;refine gV ?_;refine ⟨by simp;omega,?_⟩;refine gV ?_;have a:(pav xs).length=xs.length:=by simp
  have b:(Hr ((pav xs).length-(i+1)) (Hc (i+1) (pav xs))).length=xs.length-(i+1):=by simp
  rw [b,a];refine ⟨by omega,gV ?_⟩;refine ⟨xs.length-1,by omega,gV ?_⟩;refine ⟨xs.length,rfl,gV ?_⟩;refine ⟨by simp;omega,?_⟩;refine gV ?_;refine ⟨[],[0],⟨rfl,rfl⟩,?_⟩;conv=>whnf
  refine ⟨?_,?_⟩
  .show Res.ret (.sub 0 0 0 (i+(xs.length-(i+1))) 11)=_;rw [show i+(xs.length-(i+1))=xs.length-1 from by omega]
  .have h:=del_list (pav xs) i (by rw [a];exact d) (aB2 0 0).av;rw [a] at h;have c:(pav xs).eraseIdx i=pav (xs.eraseIdx i):=by simp only [pav,Fu,Bk,Ga,Ip]
   rw [c] at h;exact congrArg (λ l=>[ab.row 0 11 45 l]) h
def I7(xs ys:ax)(lo len:Nat):aq 164 [.row 0 0,.sub 1 0 lo len 11] [.row 0 11 45 xs,.row 0 11 45 ys] (.ret (.bool false)) [.row 0 11 45 xs,.row 0 11 45 ys]:=
 MK (fn:=Tryz.f164) (tS:=27) (tR:=4) (e:=45) (by kernel_rfl) (by kernel_rfl) (by kernel_rfl) (by kernel_rfl) (by kernel_rfl) (by kernel_rfl) (by kernel_rfl) d_ xs ys lo len
def AZ{α:Type}(xs ys:List α)(lo len q:Nat)(h:lo+len<=xs.length):(xs.take lo++ys.take len++xs.drop (lo+min ys.length len))[q]? =if lo<=q/\q<lo+min ys.length len then ys[q-lo]? else xs[q]?:=by
 have a:(xs.take lo).length=lo:=by simp;omega
 have b:(ys.take len).length=min ys.length len:=by rw [Dl,Nat.min_comm]
 by_cases h1:q<lo
 .rw [if_neg o_,Ae,Af o_,Bj h1]
 .by_cases c:q<lo+min ys.length len
  .rw [if_pos ⟨by omega,c⟩,Af (by rw [Ah];omega),Ak o_,a,Bj o_]
  .rw [if_neg o_,Ak (by rw [Ah];omega),Ah,a,b,Bo];congr 1;omega
def U7{α:Type}(l:List α)(p:α)(i q:Nat)(c:i<=l.length):(l.take i++[p]++l.drop i)[q]? =if q<i then l[q]? else if q=i then some p else l[q-1]?:=by
 have b:(l.take i).length=i:=by simp;omega
 by_cases h1:q<i
 .rw [if_pos h1,Ae,Af o_,Bj h1]
 .rw [if_neg h1,Ae,Ak o_,b];by_cases a:q=i
  .rw [if_pos a,a];simp
  .rw [if_neg a,show q-i=(q-1-i)+1 from by omega];show (l.drop i)[q-1-i]? =_;rw [Bo];congr 1;omega
def Q5{α:Type}(l L:List α)(p:α)(i:Nat)(k:i<l.length)(g:L.length=l.length+1)(hl:∀ q,q<l.length->L[q]? =l[q]?):
  ∀ A B,A=L.take (i+1)++((L.drop i).take (L.length-i)).take (L.length-(i+1))++L.drop (i+1+min ((L.drop i).take (L.length-i)).length (L.length-(i+1)))->
   B=A.take i++[p].take (A.length-i)++A.drop (i+min [p].length (A.length-i))->B=l.take i++[p]++l.drop i:=by
 intro A B c f;have j:((L.drop i).take (L.length-i)).length=l.length+1-i:=by simp;omega
 have d:∀ q,A[q]? =if i+1<=q/\q<l.length+1 then L[q-1]? else L[q]?:=λ q=>by
  rw [c,AZ _ _ _ _ _ o_,j,g];by_cases h:i+1<=q/\q<l.length+1
  .rw [if_pos o_,if_pos h,Bj o_,Bo];congr 1;omega
  .rw [if_neg o_,if_neg h]
 have b:A.length=l.length+1:=by rw [c];simp;omega
 refine Ea λ q=>?_;rw [U7 _ _ _ _ o_,f,AZ _ _ _ _ _ o_];have e:min [p].length (A.length-i)=1:=by rw [b];simp;omega
 rw [e];by_cases h1:q<i
 .rw [if_neg o_,if_pos h1,d,if_neg o_,hl q o_]
 .rw [if_neg h1];by_cases a:q=i
  .rw [if_pos o_,if_pos a,a];simp
  .rw [if_neg o_,if_neg a,d];by_cases h3:q<l.length+1
   .rw [if_pos o_,hl _ o_]
   .rw [if_neg o_,Bg o_,Bg o_]
def aG8{α:Type}(l L:List α)(p:α)(i:Nat)(k:i<l.length)(g:L.length=l.length+1)(hl:∀ q,q<i->L[q]? =l[q]?):
  ∀ A B,A=L.take i++[p].take (L.length-i)++L.drop (i+min [p].length (L.length-i))->
   B=A.take (i+1)++((l.drop i).take (l.length-i)).take (A.length-(i+1))++A.drop (i+1+min ((l.drop i).take (l.length-i)).length (A.length-(i+1)))->B=l.take i++[p]++l.drop i:=by
 intro A B d f;have j:((l.drop i).take (l.length-i)).length=l.length-i:=by simp
 have e:min [p].length (L.length-i)=1:=by rw [g];simp;omega
 have c:∀ q,A[q]? =if q=i then some p else L[q]?:=λ q=>by
  rw [d,AZ _ _ _ _ _ o_,e];by_cases h:q=i
  .rw [if_pos o_,if_pos h,h];simp
  .rw [if_neg o_,if_neg h]
 have b:A.length=l.length+1:=by rw [d];simp;omega
 refine Ea λ q=>?_;rw [U7 _ _ _ _ o_,f,AZ _ _ _ _ _ o_,j,b,show min (l.length-i) (l.length+1-(i+1))=l.length-i from by omega];by_cases h1:q<i
 .rw [if_neg o_,if_pos h1,c,if_neg o_,hl q h1]
 .rw [if_neg h1];by_cases a:q=i
  .rw [if_neg o_,if_pos a,c,if_pos a]
  .rw [if_neg a];by_cases h3:q<l.length+1
   .rw [if_pos o_,Bj o_,Bo];congr 1;omega
   .rw [if_neg o_,c,if_neg a,Bg o_,Bg o_]
def BB{n:Nat}(h:n<=1000001):AO n 88:=⟨by simp only [maxLen];omega,by omega⟩
def GR(xs:bh)(p:Pend)(i:Nat)(hi:i<=xs.length)(hx:xs.length<=1000000):
  aq 120 [.row 0 0,.int .i64 i,.row 1 0] [.row 0 11 45 (pav xs),.row 0 11 45 [p.av]]
  (.ret (.row 0 1)) [.row 1 11 45 (pav (xs.take i++[p]++xs.drop i)),.row 0 11 45 [p.av]]:=by
 have hlen:(pav xs).length=xs.length:=by simp
 refine cT (E:=(Er [60] [])) (fn:=Tryz.f120) (g:=.full 2 _ _) λ_=>?_;refine To.cap (t:=0) rfl rfl λ c hc hcm=>?_;rw [hlen] at hc;refine gV ?_;refine ⟨i,rfl,gV ?_⟩;rw [hlen];refine ⟨hi,gV ?_⟩;refine ⟨λ h=>?_,λ h=>?_⟩
 .cases h
 .refine gV ?_;refine ⟨λ h=>?_,λ h=>?_⟩
  .refine gV ?_
   have hi2:i=xs.length:=by have:(i:Int)=xs.length:=by simpa using h
                            omega
   refine ⟨by rw [hlen];exact BB q_,?_⟩;refine gV ?_;refine ⟨[],[0,1],⟨rfl,rfl⟩,?_⟩;conv=>whnf
   refine ⟨rfl,?_⟩;have:pav (xs.take i++[p]++xs.drop i)=pav xs++[p.av]:=by simp [hi2]
   rw [this];rfl
  .have hi2:i<xs.length:=by
    have:¬ (i:Int)=xs.length:=by simpa using h
    omega
   refine gV ?_;have h1:([p.av].length)=1:=rfl;rw [hlen,h1];refine .inl ⟨uI o_ o_,gV ?_⟩;refine ⟨λ h=>?_,λ h=>?_⟩
   .have hg:c<xs.length+1:=by have:=of_decide_eq_true h;omega
    refine gV ?_;refine ⟨i,rfl,gV ?_⟩;refine ⟨⟨by simp;omega,by omega⟩,?_⟩;refine gV ?_;refine .inl ⟨uI o_ o_,gV ?_⟩;refine .inl ⟨uI o_ o_,gV ?_⟩;refine ⟨xs.length+1-i,by omega,gV ?_⟩;refine ⟨⟨by omega,BB o_⟩,gV ?_⟩;refine ⟨i,rfl,gV ?_⟩;have hL:(Hr i (pav xs)++Aj (xs.length+1-i) (aB2 0 0).av).length=xs.length+1:=by simp;omega
    refine ⟨by simp;omega,?_⟩;refine gV ?_;refine .inl ⟨uI o_ o_,gV ?_⟩;refine ⟨i+1,by push_cast;rfl,?_⟩;refine gV ?_;refine ⟨by simp;omega,?_⟩;refine gV ?_;refine ⟨i,rfl,gV ?_⟩;refine ⟨by simp;omega,?_⟩;refine cJ (hEr [60] []) 7 ?_;conv=>whnf
    refine To.become (j:=0) (k:=2) [9] rfl rfl rfl rfl (gV ?_);refine ⟨[],[0,1],⟨rfl,rfl⟩,?_⟩;conv=>whnf
    refine ⟨rfl,?_⟩;have h:=aG8 (pav xs) _ p.av i (by rw [hlen];exact hi2) (by rw [hL,hlen]) (λ q hq=>by rw [Af q_,Bj hq]) _ _ rfl rfl;exact zqca17
   .have hg:xs.length+1<=c:=by have:=of_decide_eq_false h;omega
    refine gV ?_;refine .inl ⟨uI o_ o_,gV ?_⟩;refine ⟨xs.length+1,by push_cast;rfl,?_⟩;refine gV ?_;refine ⟨⟨by simp,hg⟩,gV ?_⟩;refine .inl ⟨uI o_ o_,gV ?_⟩;refine ⟨i+1,by push_cast;rfl,?_⟩;refine gV ?_;refine ⟨by simp;omega,?_⟩;refine gV ?_;refine .eff [] [1,0] _ _ rfl (I7 _ _ _ _) (gV ?_);refine ⟨λ h=>?_,λ h=>?_⟩
    .refine gV ?_;refine .inl ⟨uI o_ o_,gV ?_⟩;refine ⟨i+1,by push_cast;rfl,?_⟩;refine gV ?_;refine ⟨by simp;omega,?_⟩;refine gV ?_;refine ⟨i,rfl,gV ?_⟩;refine ⟨by simp;omega,?_⟩;refine gV ?_;refine ⟨i,rfl,gV ?_⟩;refine ⟨by simp;omega,?_⟩;refine gV ?_;refine ⟨[],[0,1],⟨rfl,rfl⟩,?_⟩;conv=>whnf
     refine ⟨rfl,?_⟩;have hL:(pav xs++Aj (xs.length+1-(pav xs).length) (aa.agg (Aj 11 aa.undef))).length=(pav xs).length+1:=by simp
     have h:=Q5 (pav xs) _ p.av i (by rw [hlen];exact hi2) hL (λ q hq=>by rw [Af hq]) _ _ rfl rfl;exact zqca17
    .cases h
def putAt(p:Pend)(l:bh):Nat:=if idx (λ x=>decide (p.seq<x.seq)) l 0<0 then l.length else (idx (λ x=>decide (p.seq<x.seq)) l 0).toNat
def putP(l:bh)(p:Pend):bh:=l.take (putAt p l)++[p]++l.drop (putAt p l)
def takeP(l:bh)(a:Int):bh:=if ak a l<0 then l else l.eraseIdx (ak a l).toNat
def yB(p:Pend->Bool):∀ (l:bh) (i:Int),idx p l i= -1\/(i<=idx p l i/\idx p l i<i+l.length)
 | [],i=>.inl rfl
 | x::r,i=>by
  unfold idx;split
  .right;simp;omega
  .rcases yB p r (i+1) with h | h
   .exact .inl h
   .right;simp;omega
def put_ok(l:bh)(p:Pend)(hl:l.length<=1000000):aq 82 [.slice 11 (pav l) .no,p.av] [] (.ret (.slice 11 (pav (putP l p)) .no)) []:=by
 have a:(pav l).length=l.length:=by simp
 refine cT (E:=(Er [17] [])) (fn:=Tryz.f82) (g:=.pure _) λ_=>gV ?_;refine .pure _ [] (NR _ _ l (λ x=>decide (p.seq<x.seq)) λ x _=>aGg x p) (gV ?_);have fin:∀ (i:Nat),i=putAt p l->i<=l.length:=λ i c=>by
  subst c;unfold putAt;rcases yB (λ x=>decide (p.seq<x.seq)) l 0 with h | h
  .rw [if_pos o_];exact Bf _
  .rw [if_neg o_];omega
 refine ⟨λ h=>?_,λ h=>?_⟩
 .have b:putAt p l=l.length:=if_pos (of_decide_eq_true h);refine gV ?_;refine .pure _ _ (EC l hl) (gV ?_);rw [a];refine .sole rfl (.eff [] [1,2] _ _ rfl (GR l p l.length (Bf _) hl) (gV ?_));rw [<-b];rfl
 .have b:idx (λ x=>decide (p.seq<x.seq)) l 0=((putAt p l:Nat):Int):=by have:=of_decide_eq_false h;unfold putAt;rw [if_neg this];omega
  rw [b];refine gV ?_;refine .pure _ _ (EC l hl) (gV ?_);refine .sole rfl (.eff [] [1,2] _ _ rfl (GR l p (putAt p l) (fin _ rfl) hl) (gV ?_));rfl
def take_ok(l:bh)(a:Int)(hl:l.length<=1000000):aq 50 [.slice 11 (pav l) .no,.int .i64 a] [] (.ret (.tup [.slice 11 (pav (takeP l a)) .no,.bool (!decide (ak a l<0))])) []:=by
 refine c_ Tryz.f50 λ_=>gV ?_;refine .pure _ _ (EC l hl) (gV ?_);refine .pure _ [] (find_ok l a) (gV ?_);refine ⟨λ h=>?_,λ h=>?_⟩
 .refine gV ?_;have c:=of_decide_eq_true h;unfold takeP;rw [if_pos c,h];rfl
 .have c:=of_decide_eq_false h;have j:ak a l<l.length:=by
   rcases yB (λ x=>x.id==a) l 0 with h | h
   .unfold ak at c;omega
   .unfold ak;omega
  have e:ak a l=(((ak a l).toNat:Nat):Int):=o_;have i:takeP l a=l.eraseIdx (ak a l).toNat:=if_neg c;rw [h,i]
  obtain ⟨k,d⟩:∃ k:Nat,ak a l=(k:Int):=⟨_,e⟩
  have b:k<l.length:=o_;rw [d,Bn];refine gV ?_;refine .inl ⟨uI o_ o_,gV ?_⟩;refine .eff [] [0] _ _ rfl (ZL l k b hl) (gV ?_);have:Hr (l.length-1) (Hc 0 (pav (l.eraseIdx k)++[(aB2 0 0).av]))=pav (l.eraseIdx k):=by rw [Cg,Cz (by simp [Kd,b]),Cd (by simp [Kd,b])]
  have h3:Res.ret (.tup [.slice 11 (Hr (l.length-1) (Hc 0 (pav (l.eraseIdx k)++[(aB2 0 0).av]))) .no,.bool true])=Res.ret (.tup [.slice 11 (pav (l.eraseIdx k)) .no,.bool (!false)]):=by rw [this];rfl
  exact h3
def JA(l:bh)(i:Nat):Bool:=match l[i]?,l[i-1]? with
 | some c,some p=>!((decide (0<i)&& !decide (p.seq<c.seq))||(ak c.id l !=(i:Int)))
 | _,_=>true
def iC(l:bh):Nat->Nat->Bool
 | 0,_=>true
 | n+1,i=>JA l i&&iC l n (i+1)
def checkP(l:bh):Bool:=iC l l.length 0
def SV(l:bh)(hl:l.length<=1000000)(r:Bool):∀ (n i:Nat),i+n=l.length->iC l n i=r->
  To E Tryz.f200 (.pure (.ret (.bool r))) (.head (stk Tryz.f200 0) [(0,.slice 11 (pav l) .no),(5,.slice 11 (pav l) .no),(6,.int .i64 ((pav l).length:Nat)),(7,.int .i64 i)] []):=by
 have k:(pav l).length=l.length:=by simp
 intro n;induction n with
 | zero=>
  intro i m a;refine gV ?_;refine ⟨λ h=>?_,λ h=>?_⟩
  .exact absurd (of_decide_eq_true h) o_
  .refine gV ?_;rw [<-a];rfl
 | succ n q=>
  intro i m a;have d:i<l.length:=o_;have a:(JA l i&&iC l n (i+1))=r:=a
  have back:iC l n (i+1)=r->inR .i64 ((i:Int)+1)/\To E Tryz.f200 (.pure (.ret (.bool r))) (.head (stk Tryz.f200 0) [(0,.slice 11 (pav l) .no),(5,.slice 11 (pav l) .no),(6,.int .i64 ((pav l).length:Nat)),(7,.int .i64 ((i:Int)+1))] []):=λ h=>
   ⟨uI o_ o_,by have:=q (i+1) o_ h;push_cast at this;exact this⟩
  refine gV ?_;refine ⟨λ h=>?_,λ h=>?_⟩
  .refine gV ?_;refine ⟨i,rfl,gV ?_⟩;refine ⟨_,I5 d,gV ?_⟩;refine ⟨λ h1=>?_,λ h1=>?_⟩
   .have g:0<i:=by have:=of_decide_eq_true h1;omega
    have b:i-1<l.length:=o_;have c:JA l i= !((true&& !decide (l[i-1].seq<l[i].seq))||(ak l[i].id l !=(i:Int))):=by unfold JA;rw [Aa d,Aa b,decide_eq_true g]
    refine gV ?_;refine .inl ⟨uI o_ o_,gV ?_⟩;refine ⟨i-1,by omega,gV ?_⟩;refine ⟨_,I5 b,gV ?_⟩;refine .pure _ [] (HZ _ _) (gV ?_);refine ⟨λ e=>?_,λ e=>?_⟩
    .refine gV ?_;refine ⟨λ_=>?_,λ h3=>(by cases h3)⟩;refine gV ?_;rw [c,e] at a;rw [<-a];rfl
    .refine gV ?_;refine .pure _ [] (find_ok _ _) (gV ?_);refine ⟨λ h3=>?_,λ h3=>?_⟩
     .refine gV ?_;rw [c,e,h3] at a;rw [<-a];rfl
     .refine gV ?_;rw [c,e,h3] at a;obtain ⟨j,p⟩:=back a;refine .inl ⟨j,?_⟩;exact zW
   .have o:i=0:=by have:=of_decide_eq_false h1;omega
    have c:JA l i= !((false&&false)||(ak l[i].id l !=(i:Int))):=by unfold JA;have b:i-1<l.length:=o_;rw [Aa d,Aa b];subst o;simp
    refine gV ?_;refine ⟨λ e=>(by cases e),λ_=>gV ?_⟩;refine .pure _ [] (find_ok _ _) (gV ?_);refine ⟨λ h3=>?_,λ h3=>?_⟩
    .refine gV ?_;rw [c,h3] at a;rw [<-a];rfl
    .refine gV ?_;rw [c,h3] at a;obtain ⟨j,p⟩:=back a;refine .inl ⟨j,?_⟩;exact zW
  .exact absurd (of_decide_eq_false h) o_
def check_ok(l:bh)(hl:l.length<=1000000):aq 200 [.slice 11 (pav l) .no] [] (.ret (.bool (checkP l))) []:=by refine c_ Tryz.f200 λ_=>?_;have a:=SV l hl _ l.length 0 o_ rfl;exact zW
def DK(p:Pend->Bool):∀ (l:bh) (i:Int) (k:Nat) (h:k<l.length),p l[k]=true->(∀ (j:Nat) (a:j<l.length),j<k->p l[j]=false)->idx p l i=i+k
 | [],i,k,h,_,_=>by simp at h
 | x::r,i,0,h,h1,_=>by
  have:p x=true:=h1;simp [idx,this]
 | x::r,i,k+1,h,h1,h2=>by have b:p x=false:=h2 0 s_ o_;have:=DK p r (i+1) k (by simpa using h) (by simpa using h1) (λ j a c=>by have:=h2 (j+1) (by simpa using a) o_;simpa using this);unfold idx;rw [if_neg (by rw [b];simp),this];push_cast;omega
def aCT{p:Pend->Bool}:∀ {l:bh} {i:Int} {k:Nat} (h:k<l.length),p l[k]=true->idx p l i<=i+k
 | [],i,k,h,_=>by simp at h
 | x::r,i,0,h,h1=>by
  have:p x=true:=h1;simp [idx,this]
 | x::r,i,k+1,h,h1=>by
  unfold idx;split
  .omega
  .have:=aCT (l:=r) (i:=i+1) (k:=k) (by simpa using h) (by simpa using h1);push_cast at this⊢;omega
structure Good(l:bh):Prop where
 seq:l.Pairwise λ a b=>a.seq<b.seq
 id:l.Pairwise λ a b=>a.id≠b.id
def tN{l:bh}:∀ {n i:Nat},iC l n i=true↔ ∀ j,i<=j->j<i+n->JA l j=true
 | 0,i=>by simp [iC];omega
 | n+1,i=>by
  simp only [iC,Ad,tN (n:=n) (i:=i+1)];constructor
  .rintro ⟨h1,a⟩ j b c;by_cases h:j=i
   .subst h;exact h1
   .exact a j o_ o_
  .intro h;exact ⟨h i (Bf _) o_,λ j h1 a=>h j o_ o_⟩
def CU{l:bh}{j:Nat}(c:j<l.length):JA l j=true↔(∀ (h:0<j),(l[j-1]' o_).seq<l[j].seq)/\ak l[j].id l=(j:Int):=by
 have b:j-1<l.length:=o_;unfold JA;rw [Aa c,Aa b];simp only [Bool.not_or,Ad,Cw,bne_eq_false_iff_eq,Bool.and_eq_false_iff,decide_eq_false_iff_not];constructor
 .rintro ⟨h1,a⟩;refine ⟨λ h=>?_,a⟩;rcases h1 with h1 | h1
  .exact absurd h h1
  .simpa using h1
 .rintro ⟨h1,a⟩;refine ⟨?_,a⟩;by_cases h:0<j
  .right;simpa using h1 h
  .exact .inl h
def check_good{l:bh}:checkP l=true↔Good l:=by
 unfold checkP;rw [tN];constructor
 .intro h;have hs:∀ (j i:Nat) (b:j<l.length) (c:i<j),(l[i]' o_).seq<l[j].seq:=by
   intro j;induction j with
   | zero=>intro i _ c;omega
   | succ j f=>
    intro i b c;have h1:=((CU b).1 (h (j+1) o_ o_)).1 o_;have h1:(l[j]' o_).seq<(l[j+1]).seq:=h1;by_cases a:i=j
    .subst a;exact h1
    .exact Int.lt_trans (f i o_ o_) h1
  refine ⟨Fv.2 λ i j c b a=>hs j i b a,Fv.2 λ i j c b a e=>?_⟩;have d:=((CU b).1 (h j o_ o_)).2;have:=aCT (p:=λ x=>x.id==l[j].id) (l:=l) (i:=0) (k:=i) c (by simpa using e);unfold ak at d;omega
 .intro h j _ b;have b:j<l.length:=o_;refine (CU b).2 ⟨λ g=>Fv.1 h.seq _ _ o_ b o_,?_⟩;have:=DK (λ x=>x.id==l[j].id) l 0 j b s_ λ i c a=>by have:=Fv.1 h.id i j c b a;simpa using this
  unfold ak;omega
def insP(p:Pend):bh->bh
 | []=>[p]
 | x::r=>if p.seq<x.seq then p::x::r else x::insP p r
def QM(p x:Pend)(r:bh):putAt p (x::r)=if p.seq<x.seq then 0 else putAt p r+1:=by
 by_cases h:p.seq<x.seq
 .rw [if_pos h];have:idx (λ x=>decide (p.seq<x.seq)) (x::r) 0=0:=by unfold idx;rw [if_pos (by simpa using h)]
  unfold putAt;rw [this];rfl
 .rw [if_neg h];have e:idx (λ x=>decide (p.seq<x.seq)) (x::r) 0=idx (λ x=>decide (p.seq<x.seq)) r 1:=by
   conv=>lhs;unfold idx
   rw [if_neg (by simpa using h)];rfl
  have c:∀ (q:Pend->Bool) (l:bh) (i:Int),(idx q l i= -1/\idx q l (i+1)= -1)\/(i<=idx q l i/\idx q l (i+1)=idx q l i+1):=by
   intro q l;induction l with
   | nil=>intro i;exact .inl ⟨rfl,rfl⟩
   | cons y t d=>
    intro i;unfold idx;by_cases a:q y=true
    .rw [if_pos a,if_pos a];right;omega
    .rw [if_neg a,if_neg a];rcases d (i+1) with h | h
     .exact .inl h
     .right;omega
  rcases c (λ x=>decide (p.seq<x.seq)) r 0 with ⟨h1,b⟩ | ⟨h1,b⟩
  .unfold putAt;rw [e,show (1:Int)=0+1 from rfl,b,h1];simp
  .unfold putAt;rw [e,show (1:Int)=0+1 from rfl,b,if_neg o_,if_neg o_];omega
def putP_ins(p:Pend):∀ (l:bh),putP l p=insP p l
 | []=>rfl
 | x::r=>by
  have a:=putP_ins p r;unfold putP at a⊢;rw [QM];unfold insP;by_cases h:p.seq<x.seq
  .rw [if_pos h,if_pos h];rfl
  .rw [if_neg h,if_neg h,<-a];rfl
def shift(n k q:Nat):Nat:=if k<=q then q-k else q+n-k
end Go.Proofs.YtbpccabomgalhaaGreatDoor.Q2
namespace Go.Proofs.YtbpccabomgalhaaGreatDoor
open Go Go.AW Go.Proofs
structure Pn where
 g:Gan
 (seq at':Int)
 deriving DecidableEq
abbrev _root_.a7:=List Pn
def Pn.cs(x:Pn):ax:=[ii x.g.id,ii x.g.ten,ii x.g.pods,ii x.g.need.a,ii x.g.need.b,ii x.g.need.c,ii x.g.run,ii x.g.lev,ii x.g.pref,ii x.seq,ii x.at']
def Pn.av(x:Pn):aa:=.agg x.cs
abbrev pnv(l:a7):ax:=l.map Pn.av
def I3{l:a7}{i:Nat}(h:i<l.length):(pnv l)[i]? =some l[i].av:=by simp [pnv,h]
abbrev fv(l:az):ax:=l.map λ x:Nat=>.int .u64 (x:Int)
structure Sta where
 c:Con
 (now nxt:Int)
 pend:a7
 run:a6
 hist:az
 deriving DecidableEq
def Sta.cs(s:Sta):ax:=[.slice 11 (nav s.c.ns) .no,.slice 6 (hav s.c.hs) .no,ii s.c.half,ii s.c.age,ii s.now,ii s.nxt,.slice 11 (pnv s.pend) .no,.slice 14 (rav s.run) .no,.slice 1 (fv s.hist) .no]
def Sta.av(s:Sta):aa:=.agg s.cs
def fY(c:Con):Bool:=decide (c.ns=[])&&(decide (c.hs=[])&&(decide (c.half=0)&&decide (c.age=0)))
def KK(g:Gan):Bool:=decide (1<=g.id/\g.id<=1073741824/\1<=g.pods/\g.pods<=16)&&(bI g.need&&decide (1<=g.run/\g.run<=1048576/\0<=g.lev/\g.lev<=3/\0<=g.pref/\g.pref<=g.lev))
def eQ(c:Con)(g:Gan):Int:=if KK g=true then (if bC c.ns g.ten=true then 0 else 3) else 1
def Rn.pn(r:Rn):Pn:=⟨r.g,r.seq,r.at'⟩
def pnB(s:Sta)(p:Pn):Bool:=decide (eQ s.c p.g=0)&&(!(cG s.c [] p.g).isNone&&decide ((0<=p.seq/\p.seq<s.nxt)/\0<=p.at'/\p.at'<=s.now))
def rnB(s:Sta)(r:Rn):Bool:=decide ((r.at'<=r.st/\r.st<=s.now)/\s.now<dG r)&&(qP s.c (jZ s.c (s.run.filter λ x=>!(x.g.id==r.g.id))) r.g r.hs&&decide ((bH s.c.hs (r.hs.headD 0)).f=r.fl))
def qD(c:Con)(n:Int):V3:=if bC c.ns n=true then fP (lE c.ns n (qI c.ns)) (cX c.ns n).b else lE c.ns n (qI c.ns)
def L8(s:Sta):Bool:=(Dr s.c.ns.length).all λ i:Nat=>cQ (atV (ofL s.c s.run) (i:Int)) (qD s.c (i:Int))
def Pn.q(x:Pn):Q2.Pend:=⟨x.g.id,x.g.ten,x.g.pods,x.g.need.a,x.g.need.b,x.g.need.c,x.g.run,x.g.lev,x.g.pref,x.seq,x.at'⟩
def F5(l:a7):Q2.pav (l.map Pn.q)=pnv l:=by simp [Q2.pav,pnv,Pn.q,Q2.Pend.av,Q2.Pend.cs,Pn.av,Pn.cs]
def aBi(l:a7):Bool:=Q2.checkP (l.map Pn.q)
def ids(s:Sta):aw:=s.pend.map (λ p=>p.g.id)++s.run.map λ r=>r.g.id
def seqs(s:Sta):aw:=s.pend.map (λ p=>p.seq)++s.run.map λ r=>r.seq
def NW(s:Sta):Bool:=(fY s.c||decide (bS s.c=0))&&decide ((0<=s.now/\s.now<=1099511627776)/\(1<=s.nxt/\s.nxt<=1099511627776)/\s.hist.length=s.c.ns.length/\s.pend.length+s.run.length<=32)
def mH(s:Sta):Bool:=NW s&&(aBi s.pend&&((s.pend.all (pnB s)&&s.run.all λ r=>pnB s r.pn&&rnB s r)&&(decide (ids s).Nodup&&(decide (seqs s).Nodup&&L8 s))))
def oH{c:Con}{g:Gan}:eQ c g=0↔KK g=true/\bC c.ns g.ten=true:=by unfold eQ;cases KK g<;>cases bC c.ns g.ten<;>decide
def vL(p:V3->Int)(u:Int)(x:Rn):Int:=p x.g.need*((x.hs.count u:Nat):Int)
def xW{p:V3->Int}(hp:Prj p)(need:V3)(a:0<=p need/\p need<=1048576)(j:Nat):∀ (hs:aw) (xs:a8) (v:Int),j<xs.length->v<=dC->p ((xs[j]?).getD V3.zero)=max v (-dC)->p (((hs.foldl (tL need) xs)[j]?).getD V3.zero)=max (v-p need*((hs.count (j:Int):Nat):Int)) (-dC)
 | [],xs,v,_,_,h=>by simpa using h
 | u::r,xs,v,hj,hv,h=>by
  rw [Ba];have e:=YY need xs u j;by_cases b:u=(j:Int)
  .subst b;rw [if_pos ⟨by omega,by omega,by omega⟩] at e;rw [Ib];have hm:p need*(((r.count (j:Int)+1:Nat):Nat):Int)=p need*((r.count (j:Int):Nat):Int)+p need:=by rw [Int.natCast_add,Int.mul_add];simp
   rw [hm];have c:p (((tL need xs (j:Int))[j]?).getD V3.zero)=max (v-p need) (-dC):=by
    rw [e,hp.sub,h];unfold XJ gU dC at *
    omega
   rw [xW hp need a j r _ (v-p need) (by rw [sU];exact hj) o_ c];omega
  .rw [if_neg o_] at e;rw [Ml (by simpa using b)];exact xW hp need a j r _ v (by rw [sU];exact hj) hv (by rw [e];exact h)
def NL{p:V3->Int}(hp:Prj p)(j:Nat):∀ (l:a6) (xs:a8) (v:Int),(∀ x∈l,0<=p x.g.need/\p x.g.need<=1048576)->j<xs.length->v<=dC->p ((xs[j]?).getD V3.zero)=max v (-dC)->p (((l.foldl zU xs)[j]?).getD V3.zero)=max (v-cF (l.map (vL p (j:Int)))) (-dC)
 | [],xs,v,_,_,_,h=>by
  show _=max (v-0) _;rw [Int.sub_zero];exact h
 | x::r,xs,v,hn,hj,hv,h=>by have a:=hn x (Ar ..);have e:=xW hp x.g.need a j x.hs xs v hj hv h;have hz:0<=p x.g.need*((x.hs.count (j:Int):Nat):Int):=Ky a.1 o_;rw [Ba,Bl];have c:=NL hp j r (zU xs x) (v-p x.g.need*((x.hs.count (j:Int):Nat):Int)) (λ y b=>hn y (Bb _ b)) (by rw [yE];exact hj) o_ e;rw [c];show _=max (v-(vL p (j:Int) x+cF _)) _;unfold vL;congr 1;omega
structure RnOK(s:Sta)(r:Rn):Prop where
 gang:eQ s.c r.g=0
 st:0<=r.st/\r.st<=s.now
 chk:qP s.c (jZ s.c (s.run.filter λ x=>!(x.g.id==r.g.id))) r.g r.hs=true
def WQ{s:Sta}(h:mH s=true){r:Rn}(e:r∈s.run):RnOK s r:=by unfold mH at h;simp only [Ad,Ct] at h;have h1:=h.2.2.1.2 r e;unfold pnB rnB at h1;simp only [Ad,decide_eq_true_eq] at h1;obtain ⟨⟨a,_,b⟩,c,d,_⟩:=h1;exact ⟨a,⟨Fe b.2.1 c.1.1,c.1.2⟩,d⟩
def KF{c:Con}{free:a8}{g:Gan}{hs:aw}(h:qP c free g hs=true):(hs.length:Int)=g.pods/\∀ u∈hs,0<=u/\u<(free.length:Int)/\((hs.count u:Nat):Int)<=eK ((free[u.toNat]?).getD V3.zero) g.need:=by
 unfold qP at h;by_cases hl:(hs.length:Int)=g.pods
 .rw [if_pos hl,Fj] at h;obtain ⟨G,_,b⟩:=h;refine ⟨hl,λ u f=>?_⟩;unfold chkG DR at b;simp only [Ad,Ct] at b;have a:=b.2 u f;unfold aDq at a;by_cases h1:u<0
  .rw [if_pos (decide_eq_true h1)] at a;cases a
  .rw [if_neg (by rw [decide_eq_false h1];decide)] at a;by_cases d:(free.length:Int)<=u
   .rw [if_pos (decide_eq_true d)] at a;cases a
   .rw [if_neg (by rw [decide_eq_false d];decide)] at a;have e:AR u hs=((hs.count u:Nat):Int):=by unfold AR;rw [yO];omega
    rw [e] at a;simp at a;exact ⟨by omega,by omega,a⟩
 .rw [if_neg hl] at h;cases h
def wQ(c:Con)(l:a6):(jZ c l).length=c.hs.length:=by
 have key:∀ (l:a6) (xs:a8),(l.foldl zU xs).length=xs.length:=λ l=>by
  induction l with
  | nil=>intro xs;rfl
  | cons x r a=>intro xs;rw [Ba,a,yE]
 unfold jZ;rw [key];simp
def aLK(c:Con){j:Nat}(a:j<c.hs.length):(((Dr c.hs.length).map λ i:Nat=>(bH c.hs (i:Int)).c)[j]?).getD V3.zero=(bH c.hs (j:Int)).c:=by rw [Bh,Dj a];rfl
def SY{c:Con}(h:bS c=0){j:Nat}(b:j<c.hs.length):bI (bH c.hs (j:Int)).c=true:=by
 unfold bS at h;split at h
 .split at h
  .split at h
   .rename_i a;rw [Ct] at a;have d:bH c.hs (j:Int)=c.hs[j]:=by unfold bH;rw [Bn,Aa b];rfl
    have:=a c.hs[j] (Bd b);unfold lR at this;split at this
    .cases this
    .rw [d];exact this
   .cases h
  .cases h
 .cases h
def VN{p:V3->Int}(hp:Prj p){c:Con}(a:∀ j:Nat,j<c.hs.length->0<=p (bH c.hs (j:Int)).c/\p (bH c.hs (j:Int)).c<=1048576){l:a6}(d:∀ x∈l,0<=p x.g.need/\p x.g.need<=1048576){j:Nat}(b:j<c.hs.length):p (((jZ c l)[j]?).getD V3.zero)=max (p (bH c.hs (j:Int)).c-cF (l.map (vL p (j:Int)))) (-dC):=by have e:=a j b;unfold jZ;exact NL hp j l _ _ d (by simpa using b) (by unfold dC;omega) (by rw [aLK c b];unfold dC;omega)
def TW{f:Rn->Int}{r:Rn}:∀ {l:a6},r∈l->(l.map λ x=>x.g.id).Nodup->cF (l.map f)=cF ((l.filter λ x=>!(x.g.id==r.g.id)).map f)+f r
 | [],h,_=>by cases h
 | x::l,h,hd=>by
  rw [Bl,Bx] at hd;rw [Bl];show f x+cF (l.map f)=_;rcases Bc.1 h with rfl | h
  .rw [Fk s_];have e:l.filter (λ x=>!(x.g.id==r.g.id))=l:=by rw [Gj];intro y b;have:y.g.id≠r.g.id:=λ q=>hd.1 (by rw [<-q];exact Bq.2 ⟨y,b,rfl⟩);simpa using this
   rw [e];omega
  .have a:x.g.id≠r.g.id:=λ q=>hd.1 (by rw [q];exact Bq.2 ⟨r,h,rfl⟩);rw [Fl (by simpa using a),Bl];show _=(f x+cF _)+f r;rw [TW h hd.2];omega
def sJ{free need:V3}{n:Int}(f:bI need=true)(h1:1<=n)(h:n<=eK free need):need.a*n<=free.a/\need.b*n<=free.b/\need.c*n<=free.c:=by
 have d:cQ need free=true:=by
  cases e:cQ need free with
  | true=>rfl
  | false=>
   unfold eK at h;rw [if_neg (by rw [e];decide)] at h;omega
 exact ((UC f d _).1 h).2
set_option maxRecDepth 10000
def gD(n lo a:Int):Bool:=decide (lo<=n)&&decide (n<=a)
def gC{n lo a:Int}:gD n lo a=true↔lo<=n/\n<=a:=by unfold gD;simp
def iN(n lo a:Int):aq 106 [ii n,ii lo,ii a] [] (.ret (.bool (gD n lo a))) []:=by
 unfold gD;by_cases h1:lo<=n
 .rw [decide_eq_true h1,Dc];exact c_ Tryz.f106 λ_=>zW
 .rw [decide_eq_false h1,Gb];exact c_ Tryz.f106 λ_=>zW
def vR(n lo a:Int):aq 85 [ii n,ii lo,ii a] [] (.ret (.bool (gD n lo a))) []:=by
 unfold gD;by_cases h1:lo<=n
 .rw [decide_eq_true h1,Dc];exact c_ Tryz.f85 λ_=>zW
 .rw [decide_eq_false h1,Gb];exact c_ Tryz.f85 λ_=>zW
def QL(v:V3)(b:Bool)(d:bI v=b):aq 111 [v.av] [] (.ret (.bool b)) []:=by
 unfold bI at d;refine c_ Tryz.f111 λ_=>?_
 repeat' first
  | (refine gW hE ?_;conv=>whnf)
  | exact d
  | refine aY ?_
  | refine aN ?_
  | refine Ab (λ h=>?_) (λ h=>?_)
  | refine aJ ?_
  | refine Ao _ (Ab rfl ?_)
  | refine Ab d_ ?_
 all_goals (refine congrArg (λ b=>Res.ret (aa.bool b)) ?_;rw [<-d];simp only [decide_eq_true_eq,decide_eq_false_iff_not] at *)
 .rw [decide_eq_false (p:=0<=v.a/\v.a<=1048576) o_];rfl
 .rw [decide_eq_false (p:=0<=v.a/\v.a<=1048576) o_];rfl
 .rw [decide_eq_false (p:=0<=v.b/\v.b<=1048576) o_,Fc];rfl
 .rw [decide_eq_false (p:=0<=v.b/\v.b<=1048576) o_,Fc];rfl
 .rw [decide_eq_false (p:=0<=v.c/\v.c<=1048576) o_,Fc]
 .rw [decide_eq_false (p:=0<=v.c/\v.c<=1048576) o_,Fc]
 .rw [decide_eq_true (p:=0<=v.a/\v.a<=1048576) o_,decide_eq_true (p:=0<=v.b/\v.b<=1048576) o_,decide_eq_true (p:=0<=v.c/\v.c<=1048576) o_];rfl
def eO(v:V3):aq 111 [v.av] [] (.ret (.bool (bI v))) []:=QL v _ rfl
def GU(x:Hos):Bool:=gD x.f 0 100&&(gD x.b 0 100&&(gD x.r 0 100&&bI x.c))
def aHk(x:Hos):aq 108 [x.av] [] (.ret (.bool (GU x))) []:=by
 have h1:=iN x.f 0 100;have a:=iN x.b 0 100;have h3:=iN x.r 0 100;have d:=eO x.c;unfold GU;generalize gD x.f 0 100=b1 at h1;generalize gD x.b 0 100=b2 at a;generalize gD x.r 0 100=b3 at h3;generalize bI x.c=b4 at d;cases b1<;>cases b2<;>cases b3<;>cases b4
 all_goals
  exact c_ Tryz.f108 λ_=>zW
def aCX(x:Hos):GU x=lR x:=by
 rw [Hp];unfold GU lR;by_cases h:FD x
 .rw [if_pos h];unfold FD at h;simp only [Ad,gC];constructor
  .intro q;omega
  .intro q;cases q
 .rw [if_neg h];unfold FD at h;simp only [Ad,gC];constructor
  .intro q;exact q.2.2.2
  .intro q;exact ⟨by omega,by omega,by omega,q⟩
def X4(c:Con)(i:Nat)(t:i<1048576)(x:Nod)(get:(nav c.ns)[i]? =some x.av)(s:AV i x):aq 107 [c.av,ii i] [] (.ret (.bool false)) []:=by
 have e:=iN x.p 0 ((i:Int)-1);have d:=iN x.w 1 1000;have hl:=iN x.w 1 1000;have k:=eO x.n;have m:=eO x.b;have j:=eO x.l;have o:=lD x.l x.n;unfold AV at s;by_cases r:i=0
 .by_cases hp:x.p= -1
  .have q:gD x.w 1 1000=false:=by
    cases a:gD x.w 1 1000 with
    | false=>rfl
    | true=>have:=gC.1 a;omega
   rw [q] at d;subst r;refine c_ Tryz.f107 λ_=>?_
   repeat' first | (refine gN hE ?_;conv=>whnf) | refine ⟨i,rfl,?_⟩ | refine ⟨_,get,?_⟩ | refine .pure _ [] e ?_ | refine .pure _ [] d ?_ | refine .pure _ [] hl ?_ | refine .pure _ [] k ?_ | refine .pure _ [] m ?_ | refine .pure _ [] j ?_ | refine .pure _ [] o ?_ | exact rfl | refine zt ?_ | refine zu ?_ ?_ | intro h | fail
  .subst r;refine c_ Tryz.f107 λ_=>?_
   repeat' first | (refine gN hE ?_;conv=>whnf) | refine ⟨i,rfl,?_⟩ | refine ⟨_,get,?_⟩ | refine .pure _ [] e ?_ | refine .pure _ [] d ?_ | refine .pure _ [] hl ?_ | refine .pure _ [] k ?_ | refine .pure _ [] m ?_ | refine .pure _ [] j ?_ | refine .pure _ [] o ?_ | exact rfl | refine zt ?_ | refine zu ?_ ?_ | intro h | fail
   all_goals (exfalso;simp at *;omega)
 .cases a:gD x.p 0 ((i:Int)-1) with
  | false=>
   rw [a] at e;exact c_ Tryz.f107 λ_=>zW
  | true=>
   rw [a] at e;have:=gC.1 a;have q:gD x.w 1 1000=false:=by
    cases a:gD x.w 1 1000 with
    | false=>rfl
    | true=>have:=gC.1 a;omega
   rw [q] at d;refine c_ Tryz.f107 λ_=>?_
   repeat' first | (refine gN hE ?_;conv=>whnf) | refine ⟨i,rfl,?_⟩ | refine ⟨_,get,?_⟩ | refine .pure _ [] e ?_ | refine .pure _ [] d ?_ | refine .pure _ [] hl ?_ | refine .pure _ [] k ?_ | refine .pure _ [] m ?_ | refine .pure _ [] j ?_ | refine .pure _ [] o ?_ | exact rfl | refine zt ?_ | refine zu ?_ ?_ | intro h | fail
set_option maxHeartbeats 2000000 in
def QN(c:Con)(i:Nat)(s:i<1048576)(x:Nod)(get:(nav c.ns)[i]? =some x.av)(r:¬ AV i x)(a:bC c.ns (i:Int)=true):aq 107 [c.av,ii i] [] (.ret (.bool (bI x.n&&(bI x.b&&(bI x.l&&cQ x.l x.n))))) []:=by
 have m:=iN x.p 0 ((i:Int)-1);have j:=iN x.w 1 1000;have hl:=jL c (i:Int);rw [a] at hl;have e:=eO x.n;have k:=eO x.b;have d:=eO x.l;have o:=lD x.l x.n;unfold AV at r;rw [gC.2 (show 1<=x.w/\x.w<=1000 by omega)] at j;generalize bI x.n=q1 at e;generalize bI x.b=q2 at k;generalize bI x.l=q3 at d;generalize cQ x.l x.n=q4 at o;by_cases q:i=0
 .have hp:x.p= -1:=o_;subst q;cases q1<;>cases q2<;>cases q3<;>cases q4
  all_goals
   refine c_ Tryz.f107 λ_=>?_
   repeat' first | (refine gN hE ?_;conv=>whnf) | refine ⟨i,rfl,?_⟩ | refine ⟨_,get,?_⟩ | refine .pure _ [] m ?_ | refine .pure _ [] j ?_ | refine .pure _ [] hl ?_ | refine .pure _ [] e ?_ | refine .pure _ [] k ?_ | refine .pure _ [] d ?_ | refine .pure _ [] o ?_ | exact rfl | refine zt ?_ | refine zu ?_ ?_ | intro h | fail
   all_goals (exfalso;simp at *;omega)
 .rw [gC.2 (show 0<=x.p/\x.p<=(i:Int)-1 by omega)] at m;cases q1<;>cases q2<;>cases q3<;>cases q4
  all_goals
   exact c_ Tryz.f107 λ_=>zW
def aBR(c:Con)(i:Nat)(v:i<1048576)(x:Nod)(get:(nav c.ns)[i]? =some x.av)(u:¬ AV i x)(j:bC c.ns (i:Int)=false)(r:Bool)(s:(zB x.n&&(zB x.b&&zB x.l))=r):aq 107 [c.av,ii i] [] (.ret (.bool r)) []:=by
 have e:=iN x.p 0 ((i:Int)-1);have d:=iN x.w 1 1000;have hl:=jL c (i:Int);rw [j] at hl;have m:=eO x.n;have o:=eO x.b;have k:=eO x.l;have q:=lD x.l x.n;unfold AV at u;rw [gC.2 (show 1<=x.w/\x.w<=1000 by omega)] at d;have fin:(((x.p==x.p)&&((x.w==x.w)&&((x.n.a==0)&&((x.n.b==0)&&((x.n.c==0)&&((x.b.a==0)&&((x.b.b==0)&&((x.b.c==0)&&((x.l.a==0)&&((x.l.b==0)&&((x.l.c==0)&&true)))))))))))=r):=by rw [<-s];unfold zB;simp [Ia]
 by_cases t:i=0
 .have hp:x.p= -1:=o_;subst t;refine c_ Tryz.f107 λ_=>?_
  repeat' first | (refine gN hE ?_;conv=>whnf) | refine ⟨i,rfl,?_⟩ | refine ⟨_,get,?_⟩ | refine .pure _ [] e ?_ | refine .pure _ [] d ?_ | refine .pure _ [] hl ?_ | refine .pure _ [] m ?_ | refine .pure _ [] o ?_ | refine .pure _ [] k ?_ | refine .pure _ [] q ?_ | exact rfl | refine zt ?_ | refine zu ?_ ?_ | intro h | fail
  .exact absurd (show (x.p != -1)=true by assumption) (by rw [hp];decide)
  .exact congrArg (λ b=>Res.ret (aa.bool b)) fin
 .rw [gC.2 (show 0<=x.p/\x.p<=(i:Int)-1 by omega)] at e;refine c_ Tryz.f107 λ_=>?_
  repeat' first | (refine gN hE ?_;conv=>whnf) | refine ⟨i,rfl,?_⟩ | refine ⟨_,get,?_⟩ | refine .pure _ [] e ?_ | refine .pure _ [] d ?_ | refine .pure _ [] hl ?_ | refine .pure _ [] m ?_ | refine .pure _ [] o ?_ | refine .pure _ [] k ?_ | refine .pure _ [] q ?_ | exact rfl | refine zt ?_ | refine zu ?_ ?_ | intro h | fail
  exact congrArg (λ b=>Res.ret (aa.bool b)) fin
def aBQ(c:Con)(i:Nat)(b:i<1048576)(x:Nod)(get:(nav c.ns)[i]? =some x.av):aq 107 [c.av,ii i] [] (.ret (.bool (oC (bC c.ns (i:Int)) i x))) []:=by
 unfold oC;by_cases a:AV i x
 .rw [if_pos a];exact X4 c i b x get a
 .rw [if_neg a];cases hl:bC c.ns (i:Int) with
  | false=>rw [if_neg d_];exact aBR c i b x get a hl _ rfl
  | true=>rw [if_pos rfl];exact QN c i b x get a hl
noncomputable abbrev V0:Func:=Tryz.f76
def CZ(ns:bb):Nat->bb->Bool
 | _,[]=>true
 | i,x::r=>oC (bC ns (i:Int)) i x&&CZ ns (i+1) r
def CK(c:Con)(g:c.sm)(r:Int):∀ (m i:Nat) (b:Bool),i+m=c.hs.length->(if (b&&(c.hs.drop i).all lR)=true then (0:Int) else 2)=r->
  To E V0 (.pure (.ret (ii r))) (.head (stk V0 1) [(1,.ref 0 0),(3,.bool b),(5,ii i)] [.cells 26 c.cs]):=by
 have f:(hav c.hs).length=c.hs.length:=by simp
 have h1:=g.hs;intro m;induction m with
 | zero=>
  intro i b h a;rw [Ai o_] at a;cases b with
  | false=>
   have a:2=r:=a;subst a;refine gV ?_;exact zW
  | true=>
   have a:0=r:=a;subst a;refine gV ?_;exact zW
 | succ m j=>
  intro i b h a;cases b with
  | false=>
   have a:2=r:=a;subst a;refine gV ?_;exact zW
  | true=>
   have d:i<c.hs.length:=o_;rw [Ag d,Jy,<-aCX] at a;have get:=wK d;generalize c.hs[i]=x at a get;have e:=aHk x;have next:=j (i+1) (GU x) o_ a
   generalize GU x=q at e next
   refine gV ?_;exact zW
def QP(c:Con)(f:c.sm)(r:Int):∀ (m i:Nat) (b:Bool),i+m=c.ns.length->(if ((b&&CZ c.ns i (c.ns.drop i))&&c.hs.all lR)=true then (0:Int) else 2)=r->
  To E V0 (.pure (.ret (ii r))) (.head (stk V0 0) [(1,.ref 0 0),(3,.bool b),(4,ii i)] [.cells 26 c.cs]):=by
 have g:(nav c.ns).length=c.ns.length:=by simp
 have h1:=f.ns;intro m;induction m with
 | zero=>
  intro i b h a;rw [Ai o_] at a;have next:=CK c f r c.hs.length 0 b o_ (by rw [<-a];show _=if ((b&&true)&&_)=true then (0:Int) else 2;rw [Jz];rfl)
  cases b with
  | false=>
   refine gV ?_;exact zW
  | true=>
   refine gV ?_;exact zW
 | succ m j=>
  intro i b h a;cases b with
  | false=>
   have next:=CK c f r c.hs.length 0 false o_ (by rw [<-a];rfl)
   refine gV ?_;exact zW
  | true=>
   have e:i<c.ns.length:=o_;rw [Ag e] at a;have get:=kS e;generalize c.ns[i]=x at a get;have d:=aBQ c i o_ x get;have next:=j (i+1) (oC (bC c.ns (i:Int)) i x) o_ a
   generalize oC (bC c.ns (i:Int)) i x=q at d next
   refine gV ?_;exact zW
def MX(ns:bb):∀ (l:bb) (i:Nat),CZ ns i l=kD ns i l
 | [],_=>rfl
 | x::r,i=>by unfold CZ kD;rw [MX ns r (i+1),aJ4];cases oC (bC ns (i:Int)) i x<;>rfl
def XM(c:Con):Bool:=gD c.ns.length 1 12&&(gD c.hs.length 1 24&&(gD c.half 1 1048576&&gD c.age 0 1048576))
def LK(c:Con):XM c=true↔AK c:=by unfold XM AK;simp only [Ad,gC];omega
def ZX(c:Con):(if ((XM c&&CZ c.ns 0 (c.ns.drop 0))&&c.hs.all lR)=true then (0:Int) else 2)=bS c:=by
 unfold bS;rw [Cg,MX];cases hs:XM c with
 | false=>
  rw [if_neg (c:=AK c) (λ q=>by rw [(LK c).2 q] at hs;cases hs)];rfl
 | true=>
  rw [if_pos (c:=AK c) ((LK c).1 hs)];cases kD c.ns 0 c.ns<;>cases c.hs.all lR<;>rfl
set_option maxHeartbeats 2000000 in
def sL(c:Con)(e:c.sm):aq 76 [c.av] [] (.ret (ii (bS c))) []:=by
 have b:(nav c.ns).length=c.ns.length:=by simp
 have a:(hav c.hs).length=c.hs.length:=by simp
 have h:=QP c e (bS c) c.ns.length 0 (XM c) o_ (ZX c);have d:=iN ((nav c.ns).length:Nat) 1 12;have j:=iN ((hav c.hs).length:Nat) 1 24;have k:=iN c.half 1 1048576;have i:=iN c.age 0 1048576;unfold XM at h;rw [<-b,<-a] at h;generalize gD ((nav c.ns).length:Nat) 1 12=q1 at d h;generalize gD ((hav c.hs).length:Nat) 1 24=q2 at j h;generalize gD c.half 1 1048576=q3 at k h;generalize gD c.age 0 1048576=q4 at i h;generalize bS c=r at h;cases q1<;>cases q2<;>cases q3<;>cases q4
 all_goals
  exact c_ Tryz.f76 λ_=>zW
def aLN(g:Gan):Bool:=gD g.id 1 1073741824&&(gD g.pods 1 16&&(bI g.need&&(gD g.run 1 1048576&&(gD g.lev 0 3&&gD g.pref 0 g.lev))))
def aIG(g:Gan):aLN g=KK g:=by
 rw [Hp];unfold aLN KK;simp only [Ad,gC,decide_eq_true_eq];constructor
 .rintro ⟨a,b,c,d,e,f⟩;exact ⟨⟨a.1,a.2,b.1,b.2⟩,c,d.1,d.2,e.1,e.2,f.1,f.2⟩
 .rintro ⟨⟨a,b,c,d⟩,v,e,f,h,i,j,k⟩;exact ⟨⟨a,b⟩,⟨c,d⟩,v,⟨e,f⟩,⟨h,i⟩,j,k⟩
def LL(c:Con)(g:Gan):aq 78 [c.av,g.av] [] (.ret (ii (eQ c g))) []:=by
 have a:=vR g.id 1 1073741824;have h:=vR g.pods 1 16;have j:=eO g.need;have e:=vR g.run 1 1048576;have i:=vR g.lev 0 3;have d:=vR g.pref 0 g.lev;have b:=jL c g.ten;unfold eQ;rw [<-aIG];unfold aLN;generalize gD g.id 1 1073741824=q1 at a;generalize gD g.pods 1 16=q2 at h;generalize bI g.need=q3 at j;generalize gD g.run 1 1048576=q4 at e;generalize gD g.lev 0 3=q5 at i;generalize gD g.pref 0 g.lev=q6 at d;generalize bC c.ns g.ten=q7 at b;cases q1 with
 | false=>
  exact zqca12
 | true=>
  cases q2 with
  | false=>
   exact zqca12
  | true=>
   cases q3 with
   | false=>
    exact zqca12
   | true=>
    cases q4 with
    | false=>
     exact zqca12
    | true=>
     cases q5 with
     | false=>
      exact zqca12
     | true=>
      cases q6 with
      | false=>
       exact zqca12
      | true=>
       cases q7 with
       | false=>
        exact zqca12
       | true=>
        exact zqca12
def RU(c:Con):Bool:=C8.eqL Nod.eqb c.ns []&&(C8.eqL Hos.eqb c.hs []&&(c.half==0&&c.age==0))
def ZA(c:Con):RU c=fY c:=by obtain ⟨ns,hs,a,b⟩:=c;unfold RU fY;cases ns<;>cases hs<;>simp [C8.eqL]<;>rfl
def aEg:Con:=⟨[],[],0,0⟩
def aA9(c:Con):aq 239 [c.av,aEg.av] [] (.ret (.bool (fY c))) []:=by
 have h1:=C8.eqN_ok c.ns [];have b:=C8.eqH_ok c.hs [];rw [<-ZA];unfold RU;generalize C8.eqL Nod.eqb c.ns []=q1 at h1;generalize C8.eqL Hos.eqb c.hs []=q2 at b
 obtain ⟨R,a⟩:∃ R:Bool,R=(q1&&(q2&&(c.half==0&&c.age==0))):=⟨_,rfl⟩
 rw [<-a];cases q1 with
 | false=>
  exact zqca40
 | true=>
  cases q2 with
  | false=>
   exact zqca40
  | true=>
   have a:R=(c.half==0&&c.age==0):=a;refine c_ Tryz.f239 λ_=>?_
   repeat' first | (refine gN hE ?_;conv=>whnf) | refine .pure _ [] h1 ?_ | refine .pure _ [] b ?_ | exact rfl | refine zt ?_ | refine zu ?_ ?_ | intro h | fail
   all_goals (rw [a];simp_all [aEg])
def aDI(c:Con):aq 199 [c.av] [] (.ret (.bool (fY c))) []:=by have h:=aA9 c;generalize fY c=q at h;exact c_ Tryz.f199 λ_=>zW
def JO{α:Type}(p:α->Bool):List α->Int->Int
 | [],_=> -1
 | x::r,i=>if p x=true then i else JO p r (i+1)
def DM{α:Type}(p:α->Bool):∀ (l:List α) (i:Int),0<=i->decide (0<=JO p l i)=l.any p
 | [],i,_=>rfl
 | x::r,i,h=>by
  unfold JO;rw [Gz];cases hp:p x with
  | true=>rw [if_pos rfl,decide_eq_true h];rfl
  | false=>rw [if_neg d_,DM p r (i+1) o_];rfl
def Q9(f:FuncId)(cap:ax)(xs:aw)(p:Int->Bool)(g:∀ x∈xs,aA Tryz.prog f [ii x,.ptr cap] [] (.ret (.bool (p x))) [])(hl:((iv xs).length:Int)<=9223372036854775807)(r:Int):
  ∀ (n i:Nat),i+n=xs.length->JO p (xs.drop i) i=r->
  To E Tryz.f231 (.pure (.ret (.int .i64 r))) (.head (stk Tryz.f231 0) [(0,.slice 1 (iv xs) .no),(1,.func (.func f) [] [.ptr cap]),(7,.int .i64 ((iv xs).length:Nat)),(8,.int .i64 i)] []):=by
  have d:(iv xs).length=xs.length:=by simp
  intro n;induction n with
  | zero=>
   exact zqca32
  | succ n k=>
   intro i j a;have b:i<xs.length:=o_;refine gV ?_;refine aT λ h=>gV ?_;refine ⟨i,rfl,gV ?_⟩;refine ⟨_,gM b,?_⟩;exact zqca22
def RC(f:FuncId)(cap:ax)(xs:List aw)(p:aw->Bool)(g:∀ x∈xs,aA Tryz.prog f [.slice 1 (iv x) .no,.ptr cap] [] (.ret (.bool (p x))) [])(hl:((gav xs).length:Int)<=9223372036854775807)(r:Int):
  ∀ (n i:Nat),i+n=xs.length->JO p (xs.drop i) i=r->
  To E Tryz.f315 (.pure (.ret (.int .i64 r))) (.head (stk Tryz.f315 0) [(0,.slice 1 (gav xs) .no),(1,.func (.func f) [] [.ptr cap]),(7,.int .i64 ((gav xs).length:Nat)),(8,.int .i64 i)] []):=by
  have d:(gav xs).length=xs.length:=by simp
  intro n;induction n with
  | zero=>
   exact zqca32
  | succ n k=>
   intro i j a;have b:i<xs.length:=o_;refine gV ?_;refine aT λ h=>gV ?_;refine ⟨i,rfl,gV ?_⟩;refine ⟨_,VJ b,?_⟩;exact zqca22
def aEc(f:FuncId)(cap:ax)(xs:aw)(p:Int->Bool)(a:∀ x∈xs,aA Tryz.prog f [ii x,.ptr cap] [] (.ret (.bool (p x))) []):
  aq 305 [.slice 1 (iv xs) .no,.func (.func f) [] [.ptr cap]] [] (.ret (.bool (xs.any p))) []:=by
 have c:aq 231 [.slice 1 (iv xs) .no,.func (.func f) [] [.ptr cap]] [] (.ret (.int .i64 (JO p xs 0))) []:=by refine c_ Tryz.f231 λ b=>gV ?_;refine To.head [0,1,7,8] ?_;exact Q9 f cap xs p a b.1 _ xs.length 0 o_ s_
 rw [<-DM p xs 0 (Dd _)];exact c_ Tryz.f305 λ_=>zW
def aEd(f:FuncId)(cap:ax)(xs:List aw)(p:aw->Bool)(a:∀ x∈xs,aA Tryz.prog f [.slice 1 (iv x) .no,.ptr cap] [] (.ret (.bool (p x))) []):
  aq 303 [.slice 1 (gav xs) .no,.func (.func f) [] [.ptr cap]] [] (.ret (.bool (xs.any p))) []:=by
 have c:aq 315 [.slice 1 (gav xs) .no,.func (.func f) [] [.ptr cap]] [] (.ret (.int .i64 (JO p xs 0))) []:=by refine c_ Tryz.f315 λ b=>gV ?_;refine To.head [0,1,7,8] ?_;exact RC f cap xs p a b.1 _ xs.length 0 o_ s_
 rw [<-DM p xs 0 (Dd _)];exact c_ Tryz.f303 λ_=>zW
def aIv(G:aw)(a:G.length<=1048576)(h:Int):aq 306 [ii h,.ptr [.slice 1 (iv G) .no]] [] (.ret (.bool (!inB h G))) []:=by have b:=xA G a h;exact c_ Tryz.f306 λ_=>zW
def aLE(G l:aw)(a:G.length<=1048576):aq 304 [.slice 1 (iv G) .no,.ptr [.slice 1 (iv l) .no]] [] (.ret (.bool (!(l.any λ h=>!inB h G)))) []:=by
 have b:=aEc 306 [.slice 1 (iv G) .no] l (λ h=>!inB h G) λ x _=>aIv G a x;refine c_ Tryz.f304 λ_=>?_;refine cJ hE 10 ?_;conv=>whnf
 refine To.frz [2] [0] ?_;exact zW
def aAk{l:a8}{u:Int}(a:0<=u)(h1:u<(l.length:Int)):(vav l)[u.toNat]? =some ((l[u.toNat]?).getD V3.zero).av:=by rw [Aa (show u.toNat<l.length by omega)];exact vF o_
def aE3{c:Con}{l:a6}{n:Int}(h:c.ok n):(vav (ofL c l))[n.toNat]? =some (atV (ofL c l) n).av:=by
 obtain ⟨a,h1⟩:=h;have hl:(ofL c l).length=c.ns.length:=by unfold ofL mJ;simp
 unfold atV;rw [if_neg q_];exact aAk a o_
def xU(k:aw)(v:aa)(x:aw):∀ (es:List (aw×aa)),bB (kF es k v) x=if k=x then some v else bB es x
 | []=>rfl
 | (j,w)::r=>by
  show bB (if j=k then (k,v)::r else (j,w)::kF r k v) x=if k=x then some v else (if j=x then some w else bB r x)
  by_cases b:j=k
  .subst b;rw [if_pos rfl];show (if j=x then some v else bB r x)=_;by_cases a:j=x
   .rw [if_pos a,if_pos a]
   .rw [if_neg a,if_neg a,if_neg a]
  .rw [if_neg b];show (if j=x then some w else bB (kF r k v) x)=_;rw [xU k v x r];by_cases a:j=x
   .subst a;rw [if_pos rfl,if_neg (λ q=>b q.symm),if_pos rfl]
   .rw [if_neg a,if_neg a]
def aLW(es:List (aw×aa))(pre:aw):Prop:=∀ h:Int,bB es [h]=if pre.count h=0 then none else some (ii ((pre.count h:Nat):Int))
def aCt{es:List (aw×aa)}{pre:aw}(hm:aLW es pre)(h v:Int)(b:v=((pre.count h:Nat):Int)+1):aLW (kF es [h] (ii v)) (pre++[h]):=λ x=>by
 rw [xU,Jb];by_cases a:h=x
 .subst a;rw [if_pos rfl,if_neg s_,b];simp
 .rw [if_neg (by simpa using a),hm x];have:[h].count x=0:=Kz.2 (by simpa using λ q=>a q.symm);rw [this,Ff]
def plS(free:a8)(need:V3)(n h:Int):Bool:=if decide (h<0)=true then false else if decide ((free.length:Int)<=h)=true then false else !decide (eK ((free[h.toNat]?).getD V3.zero) need<n)
def plB(free:a8)(need:V3):aw->aw->Bool
 | _,[]=>true
 | pre,h::r=>plS free need (((pre.count h:Nat):Int)+1) h&&plB free need (pre++[h]) r
noncomputable abbrev aHJ:Func:=Tryz.f281
def aC1(l:aw)(G:aw):Bool:=!(l.any λ h=>!inB h G)
abbrev plF(c:Con)(free:a8)(g:Gan)(l:aw)(i:Int):ar:=[(1,.slice 3 (vav free) .no),(4,.ptr c.cs),(6,.ptr g.cs),(7,.ptr [.slice 1 (iv l) .no]),(9,.mref 0),(18,.slice 1 (iv l) .no),(19,.int .i64 ((iv l).length:Nat)),(20,ii i)]
def aBU(c:Con)(H:c.sm)(free:a8)(g:Gan)(l:aw)(hl:l.length<=1048576)(A:Bool)(N:(gpL c g.lev).any (aC1 l)=A)(r:Bool):∀ (m i:Nat) (es:List (aw×aa)),i+m=l.length->aLW es (l.take i)->(plB free g.need (l.take i) (l.drop i)&&A)=r->
  To E aHJ (.pure (.ret (.bool r))) (.head (stk aHJ 0) (plF c free g l (i:Int)) [.mp false es]):=by
 have I:(iv l).length=l.length:=by simp
 have M:(vav free).length=free.length:=by simp
 intro m;induction m with
 | zero=>
  intro i es L hm b;rw [Ai o_] at b;have b:A=r:=b;subst b;have D:=aC3 c g.lev;have P:=H.hs;have h1:=GZ c H g.lev;have t:=aEd 304 [.slice 1 (iv l) .no] (gpL c g.lev) (aC1 l) λ G O=>aLE G l (by have:=(D.2 G O).2.1;omega);rw [N] at t;generalize gpL c g.lev=gs at h1 t;refine gV ?_;exact zW
 | succ m x=>
  intro i es L hm b;have p:i<l.length:=o_;have C:l.take (i+1)=l.take i++[l[i]]:=by rw [Lg,Aa p];rfl
  rw [Ag p] at b;have get:=gM p;have x:=λ es=>x (i+1) es o_;rw [C] at x;generalize l[i]=u0 at b get x;have s:((l.take i).count u0)<=1048576:=Cx Mp q_;have next:=λ v (K:v=(((l.take i).count u0:Nat):Int)+1)=>x (kF es [u0] (ii v)) (aCt hm u0 v K)
  have y:=hm u0;have d:∀ v,bB (kF es [u0] v) [u0]=some v:=λ v=>by rw [xU,if_pos rfl]
  have b:((plS free g.need ((((l.take i).count u0:Nat):Int)+1) u0&&plB free g.need (l.take i++[u0]) (l.drop (i+1)))&&A)=r:=b;generalize plB free g.need (l.take i++[u0]) (l.drop (i+1))=B at b next
  generalize (l.take i).count u0=k at s y b next
  unfold plS at b;have go:∀ (w:Int),w=(k:Int)->(∃ o,bB es [u0]=o/\(o=none/\w=0\/o=some (ii w)))->To E aHJ (.pure (.ret (.bool r))) (.head (stk aHJ 0) (plF c free g l (i:Int)) [.mp false es]):=λ w J ⟨o,n,z⟩=>by
   have next:=next (w+1) o_
   rw [show ((k:Int)+1)=w+1 from by omega] at b;by_cases h1:u0<0
   .rw [decide_eq_true h1] at b;exact zqca0
   .rw [decide_eq_false h1,if_neg d_] at b;by_cases t:(free.length:Int)<=u0
    .rw [decide_eq_true t] at b;exact zqca0
    .rw [decide_eq_false t,if_neg d_] at b;have j:u0=(u0.toNat:Int):=o_;have e:=aAk (l:=free) (u:=u0) o_ o_;generalize (free[u0.toNat]?).getD V3.zero=fv at e b;have a:=UB fv g.need;generalize eK fv g.need=q at a b;by_cases h3:q<w+1
     .rw [decide_eq_true h3] at b;exact zqca0
     .rw [decide_eq_false h3] at b;have next:=next b
      rcases z with ⟨rfl,rfl⟩ | rfl
      .refine gV ?_;refine aT λ h=>?_
       repeat' first | (refine gN hE ?_;conv=>whnf) | refine ⟨i,rfl,?_⟩ | refine ⟨u0.toNat,j,?_⟩ | refine ⟨_,get,?_⟩ | refine ⟨_,e,?_⟩ | refine ⟨_,n,?_⟩ | refine Ao _ (Ab (d _) ?_) | refine .pure _ [] a ?_ | exact rfl | refine zt ?_ | refine zu ?_ ?_ | intro h | fail
       exact To.cut [1,4,6,7,9,18,19,20] 1 rfl rfl rfl rfl next
      .refine gV ?_;refine aT λ h=>?_
       repeat' first | (refine gN hE ?_;conv=>whnf) | refine ⟨i,rfl,?_⟩ | refine ⟨u0.toNat,j,?_⟩ | refine ⟨_,get,?_⟩ | refine ⟨_,e,?_⟩ | refine ⟨_,n,?_⟩ | refine Ao _ (Ab (d _) ?_) | refine .pure _ [] a ?_ | exact rfl | refine zt ?_ | refine zu ?_ ?_ | intro h | fail
       exact To.cut [1,4,6,7,9,18,19,20] 1 rfl rfl rfl rfl next
  by_cases F:k=0
  .rw [if_pos F] at y;exact go 0 o_ ⟨_,y,.inl ⟨rfl,rfl⟩⟩
  .rw [if_neg F] at y;exact go k rfl ⟨_,y,.inr rfl⟩
def I4{free:a8}{need:V3}{n h:Int}:plS free need n h=true↔0<=h/\h<(free.length:Int)/\n<=eK ((free[h.toNat]?).getD V3.zero) need:=by
 unfold plS;by_cases h1:h<0
 .rw [if_pos (decide_eq_true h1)];constructor
  .intro q;cases q
  .intro q;omega
 .rw [if_neg (by rw [decide_eq_false h1];decide)];by_cases a:(free.length:Int)<=h
  .rw [if_pos (decide_eq_true a)];constructor
   .intro q;cases q
   .intro q;omega
  .rw [if_neg (by rw [decide_eq_false a];decide)];simp;omega
def UL{free:a8}{need:V3}:∀ (l pre:aw),plB free need pre l=true↔ ∀ u∈l,0<=u/\u<(free.length:Int)/\(((pre++l).count u:Nat):Int)<=eK ((free[u.toNat]?).getD V3.zero) need
 | [],pre=>by simp [plB]
 | h::r,pre=>by
  unfold plB;rw [Ad,I4,UL r (pre++[h]),Ae];show _↔ ∀ u∈h::r,0<=u/\u<(free.length:Int)/\(((pre++h::r).count u:Nat):Int)<=eK ((free[u.toNat]?).getD V3.zero) need;have e:pre++([h]++r)=pre++h::r:=rfl;rw [e];constructor
  .rintro ⟨⟨a,b,c⟩,d⟩ u f;by_cases g:u∈r
   .exact d u g
   .rcases Bc.1 f with rfl | f
    .refine ⟨a,b,?_⟩;rw [Jb,Ib,Kz.2 g];simpa using c
    .exact absurd f g
  .intro d;refine ⟨?_,λ u f=>d u (Bb _ f)⟩;obtain ⟨a,b,c⟩:=d h (Ar ..);refine ⟨a,b,?_⟩;rw [Jb,Ib] at c;omega
def G9{free:a8}{need:V3}{hs:aw}:DR free need hs=true↔ ∀ u∈hs,0<=u/\u<(free.length:Int)/\((hs.count u:Nat):Int)<=eK ((free[u.toNat]?).getD V3.zero) need:=by
 unfold DR;rw [Ct];have key:∀ u,aDq free need hs u=plS free need (AR u hs) u:=λ u=>rfl;constructor
 .intro q u a;have:=q u a;rw [key,I4] at this;have e:AR u hs=((hs.count u:Nat):Int):=by unfold AR;rw [yO];omega
  rw [e] at this;exact this
 .intro q u a;rw [key,I4];have e:AR u hs=((hs.count u:Nat):Int):=by unfold AR;rw [yO];omega
  rw [e];exact q u a
def aHo(l G:aw):aC1 l G=FK G l:=by rw [Hp,uY];unfold aC1 inB;simp [Fj]
def aLH(c:Con)(free:a8)(g:Gan)(l:aw)(hl:(l.length:Int)=g.pods):(plB free g.need [] l&&(gpL c g.lev).any (aC1 l))=qP c free g l:=by
 unfold qP;rw [if_pos hl];have e:plB free g.need [] l=DR free g.need l:=by rw [Hp,UL,G9];rfl
 rw [e,Hp,Ad,Fj,Fj];unfold chkG;simp only [aHo,Ad];constructor
 .rintro ⟨a,G,b,d⟩;exact ⟨G,b,d,a⟩
 .rintro ⟨G,b,d,a⟩;exact ⟨a,G,b,d⟩
def aKj(c:Con)(i:c.sm)(free:a8)(g:Gan)(l:aw)(hl:l.length<=1048576):aq 281 [c.av,.slice 3 (vav free) .no,g.av,.slice 1 (iv l) .no] [] (.ret (.bool (qP c free g l))) []:=by
 have a:(iv l).length=l.length:=by simp
 by_cases h1:(l.length:Int)=g.pods
 .have b:=aBU c i free g l hl _ rfl (qP c free g l) l.length 0 [] o_ (λ h=>by simp [bB]) (aLH c free g l h1);have d:((((iv l).length:Nat):Int) !=g.pods)=false:=by rw [a];simp [h1]
  generalize qP c free g l=r at b;refine c_ Tryz.f281 λ_=>?_;refine cJ hE 16 ?_;conv=>whnf
  refine To.frz [4,6,7] [0,1,2] ?_
  repeat' first | (refine gN hE ?_;conv=>whnf) | refine Ab (λ h=>absurd h (by rw [d];decide)) (λ h=>?_) | exact rfl | refine zt ?_ | refine zu ?_ ?_ | intro h | fail
  refine To.part [1,4,6,7,9,18,19,20] [3] rfl rfl rfl ?_;exact b
 .have d:((((iv l).length:Nat):Int) !=g.pods)=true:=by rw [a];simp [h1]
  have e:qP c free g l=false:=if_neg h1;rw [e];refine c_ Tryz.f281 λ_=>?_;refine cJ hE 16 ?_;conv=>whnf
  refine To.frz [4,6,7] [0,1,2] ?_;exact zW
abbrev itP(p:Pn):aa:=.iface 45 p.av
abbrev itR(r:Rn):aa:=.iface 48 r.av
abbrev aG7(l:a7):ax:=l.map itP
abbrev YN(l:a6):ax:=l.map itR
noncomputable abbrev VZ:Func:=Tryz.f240
abbrev alO(s:Sta):au:=[.cells 31 s.cs,.tail 0 1 20]
def aIR(s:Sta)(j:s.run.length<=1000000)(l:ax)(R:ax):∀ (m i:Nat) (a:ax),i+m=s.run.length->a.length<=1000000+i->a++YN (s.run.drop i)=R->
  To (Eo [3] []) VZ (.pure (.ret (.slice 1 R .no))) (.head (stk VZ 1) [(1,.ref 0 0),(3,.slice 1 a (.own 1 0)),(22,.slice 14 (rav s.run) .no),(23,.int .i64 ((rav s.run).length:Nat)),(24,ii i)] (alO s)):=by
 have d:(rav s.run).length=s.run.length:=by simp
 intro m;induction m with
 | zero=>
  intro i a e g b;rw [Ai o_] at b;have b:a++[]=R:=b;rw [Au] at b;subst b;refine gV ?_;exact zW
 | succ m f=>
  intro i a e g b;have c:i<s.run.length:=o_;rw [Ag c] at b;have get:=eX c;generalize s.run[i]=x at b get;have next:=f (i+1) (a++[itR x]) o_ q_ (by rw [Ae];exact b)
  refine gV ?_;refine aT λ h=>?_
  repeat' first | (refine gN (hEo [3] []) ?_;conv=>whnf) | refine ⟨i,rfl,?_⟩ | refine ⟨_,get,?_⟩ | refine Ab (Ab (show a.length+1<=maxLen by simp only [maxLen];omega) (show (a.length+1)*16<=140737488355328 by omega)) ?_ | exact rfl | refine zt ?_ | refine zu ?_ ?_ | intro h | fail
  exact zW
def aIS(s:Sta)(hp:s.pend.length<=1000000)(f:s.run.length<=1000000)(R:ax):∀ (m i:Nat) (a:ax),i+m=s.pend.length->a.length<=i->(a++aG7 (s.pend.drop i))++YN s.run=R->
  To (Eo [3] []) VZ (.pure (.ret (.slice 1 R .no))) (.head (stk VZ 0) [(1,.ref 0 0),(3,.slice 1 a (.own 1 0)),(9,.slice 11 (pnv s.pend) .no),(10,.int .i64 ((pnv s.pend).length:Nat)),(11,ii i)] (alO s)):=by
 have d:(pnv s.pend).length=s.pend.length:=by simp
 intro m;induction m with
 | zero=>
  intro i a e j b;rw [Ai o_] at b;have b:(a++[])++YN s.run=R:=b;rw [Au] at b;have next:=aIR s f [] R s.run.length 0 a o_ o_ b
  refine gV ?_;exact zW
 | succ m g=>
  intro i a e j b;have c:i<s.pend.length:=o_;rw [Ag c] at b;have get:=I3 c;generalize s.pend[i]=x at b get;have next:=g (i+1) (a++[itP x]) o_ q_ (by rw [Ae a];exact b)
  refine gV ?_;refine aT λ h=>?_
  repeat' first | (refine gN (hEo [3] []) ?_;conv=>whnf) | refine ⟨i,rfl,?_⟩ | refine ⟨_,get,?_⟩ | refine Ab (Ab (show a.length+1<=maxLen by simp only [maxLen];omega) (show (a.length+1)*16<=140737488355328 by omega)) ?_ | exact rfl | refine zt ?_ | refine zu ?_ ?_ | intro h | fail
  exact zW
def aFM(s:Sta)(hp:s.pend.length<=1000000)(a:s.run.length<=1000000):aq 240 [s.av] [] (.ret (.slice 1 (aG7 s.pend++YN s.run) .no)) []:=by
 have next:=aIS s hp a (aG7 s.pend++YN s.run) s.pend.length 0 [] o_ s_ rfl
 refine cT (E:=(Eo [3] [])) (fn:=Tryz.f240) (g:=.pure _) λ_=>?_;exact zW
def TE(p:Pn):aq 241 [itP p] [] (.ret (.tup [p.av,.bool true])) []:=by exact c_ Tryz.f241 λ_=>zW
def TD(r:Rn):aq 241 [itR r] [] (.ret (.tup [r.pn.av,.bool true])) []:=by exact c_ Tryz.f241 λ_=>zW
def aJp(l:a6)(id:Int):aE l [id]=l.filter λ x=>!(x.g.id==id):=by unfold aE;congr 1;funext x;simp [inB]
def aCY{l:List Hos}{n:Int}(a:0<=n)(h1:n<(l.length:Int)):(hav l)[n.toNat]? =some (bH l n).av:=by have h:n.toNat<l.length:=o_;unfold bH;rw [Bh,Aa h];rfl
def ZW{c:Con}{free:a8}{g:Gan}{l:aw}(d:free.length=c.hs.length)(hp:1<=g.pods)(h:qP c free g l=true):(iv l)[0]? =some (ii (l.headD 0))/\0<=l.headD 0/\l.headD 0<(c.hs.length:Int):=by
 unfold qP at h;by_cases hl:(l.length:Int)=g.pods
 .rw [if_pos hl] at h;cases l with
  | nil=>simp at hl;omega
  | cons u r=>
   rw [Fj] at h;obtain ⟨G,e,b⟩:=h;unfold chkG at b;rw [Ad] at b;have a:=G9.1 b.2 u (Ar ..);refine ⟨rfl,a.1,?_⟩;have:=a.2.1;show u<_;omega
 .rw [if_neg hl] at h;cases h
noncomputable abbrev aNb:Func:=Tryz.f242
def rnO(s:Sta)(r:Rn):au:=[.cells 31 s.cs,.cells 48 r.cs]
def aJ3(s:Sta)(r:Rn):au:=[.fcells s.cs,.fcells r.cs]
def aJ2(s:Sta)(r:Rn):aj [0,1] (rnO s r)=aJ3 s r:=by kernel_rfl
def aFY(s:Sta)(r:Rn):wP [2,3] (aB (aJ3 s r)) [(2,.ref 0 0),(3,.ref 1 0)]=[(2,.ptr s.cs),(3,.ptr r.cs)]:=by kernel_rfl
def UD{g:Goal}{ks:bf}(s:Sta)(r:Rn)(h:To E aNb g (.code ks [(2,.ptr s.cs),(3,.ptr r.cs)] (aJ3 s r))):To E aNb g (.code ks [(2,.ref 0 0),(3,.ref 1 0)] (rnO s r)):=by refine To.frz [2,3] [0,1] ?_;rw [aJ2,aFY];exact h
def aBa(s:Sta)(r:Rn)(W:a6)(F:a8)(i:Int)(k:Bool)(b:Bool)
  (h1:aq 62 [r.av] [] (.ret (ii i)) [])
  (a:aq 70 [.slice 14 (rav s.run) .no,.slice 1 (iv [r.g.id]) .no] [] (.ret (.slice 14 (rav W) .no)) [])
  (h3:aq 163 [s.c.av,.slice 14 (rav W) .no] [] (.ret (.slice 3 (vav F) .no)) [])
  (l:aq 281 [s.c.av,.slice 3 (vav F) .no,r.g.av,.slice 1 (iv r.hs) .no] [] (.ret (.bool k)) [])
  (n:k=true->(iv r.hs)[0]? =some (ii (r.hs.headD 0))/\0<=r.hs.headD 0/\(hav s.c.hs)[(r.hs.headD 0).toNat]? =some (bH s.c.hs (r.hs.headD 0)).av)
  (d:(decide ((r.at'<=r.st/\r.st<=s.now)/\s.now<i)&&(k&&decide ((bH s.c.hs (r.hs.headD 0)).f=r.fl)))=b):
  aq 242 [s.av,r.av] [] (.ret (.bool b)) []:=by
 have a:aq 70 [.slice 14 (rav s.run) .no,.slice 1 (iv [r.g.id]) .full] [] (.ret (.slice 14 (rav W) .no)) []:=aA.strip a;cases k with
 | true=>
  obtain ⟨m,j,e⟩:=n rfl;generalize r.hs.headD 0=u at m j e d;generalize bH s.c.hs u=y at e d;refine c_ Tryz.f242 λ_=>?_;refine cJ hE 13 ?_;conv=>whnf
  refine To.cutC [2,3] 2 rfl rfl rfl rfl ?_;refine UD s r ?_
  repeat' first | (refine gN hE ?_;conv=>whnf) | refine .pure _ [] h1 ?_ | refine .pure _ [] a ?_ | refine .pure _ [] h3 ?_ | refine .pure _ [] l ?_ | refine ⟨0,rfl,?_⟩ | refine ⟨_,m,?_⟩ | refine Ao u.toNat (Ab (by simp only [Kt j]) ?_) | refine ⟨_,e,?_⟩ | exact rfl | refine zt ?_ | refine zu ?_ ?_ | intro h | fail
  all_goals
   exact zqca21
 | false=>
  refine c_ Tryz.f242 λ_=>?_;refine cJ hE 13 ?_;conv=>whnf
  refine To.cutC [2,3] 2 rfl rfl rfl rfl ?_;refine UD s r ?_
  repeat' first | (refine gN hE ?_;conv=>whnf) | refine .pure _ [] h1 ?_ | refine .pure _ [] a ?_ | refine .pure _ [] h3 ?_ | refine .pure _ [] l ?_ | exact rfl | refine zt ?_ | refine zu ?_ ?_ | intro h | fail
  all_goals
   exact zqca21
def aFN(s:Sta)(b:s.c.sm)(hs:Sm s.run)(r:Rn)(hp:1<=r.g.pods)(d:r.hs.length<=1048576):aq 242 [s.av,r.av] [] (.ret (.bool (rnB s r))) []:=by
 have l:=oV hs [r.g.id];have j:=oW s.run hs [r.g.id] s_;have h3:=VL s.c b (aE s.run [r.g.id]) l;have e:=wQ s.c (aE s.run [r.g.id]);have k:=aKj s.c b (jZ s.c (aE s.run [r.g.id])) r.g r.hs d;refine aBa s r _ _ _ _ _ (yI r) j h3 k (λ m=>?_) ?_
 .obtain ⟨i,a,h⟩:=ZW e hp m;exact ⟨i,a,aCY a h⟩
 .rw [aJp];rfl
noncomputable abbrev qN:Func:=Tryz.f201
def aIX(es:List (aw×aa))(l:aw):Prop:=∀ h:Int,bB es [h]=if l.contains h=true then some (.bool true) else none
def NA{es:List (aw×aa)}{l:aw}(hm:aIX es l)(h:Int):aIX (kF es [h] (.bool true)) (h::l):=λ x=>by
 rw [xU,List.contains_cons];by_cases a:h=x
 .subst a;simp
 .have b:(x==h)=false:=by simp;exact λ q=>a q.symm
  rw [if_neg (by simpa using a),hm x,b,Mv]
def ggO(s:Sta):au:=[.cells 31 s.cs]
def aKY(s:Sta):au:=[.fcells s.cs]
def aKX(s:Sta):aj [0] (ggO s)=aKY s:=by kernel_rfl
def aHt(s:Sta):wP [1] (aB (aKY s)) [(1,.ref 0 0)]=[(1,.ptr s.cs)]:=by kernel_rfl
def aHr{g:Goal}{ks:bf}(s:Sta)(h:To (Er [] [64,65,66]) qN g (.code ks [(1,.ptr s.cs)] (aKY s))):To (Er [] [64,65,66]) qN g (.code ks [(1,.ref 0 0)] (ggO s)):=by refine To.frz [1] [0] ?_;rw [aKX,aHt];exact h
abbrev ggF(s:Sta)(xs:ax)(i:Int):ar:=[(1,.ptr s.cs),(3,.mref 0),(4,.mref 1),(14,.slice 1 xs .no),(15,.int .i64 (xs.length:Nat)),(16,ii i)]
def gbF(s:Sta)(xs:ax)(i:Int)(x:aa):ar:=[(1,.ptr s.cs),(3,.mref 0),(4,.mref 1),(6,x),(7,.ref 2 0),(14,.slice 1 xs .no),(15,.int .i64 (xs.length:Nat)),(16,ii i)]
def aMY(s:Sta)(xs:ax)(i:Int)(x:aa)(p:Pn):ar:=[(1,.ptr s.cs),(3,.mref 0),(4,.mref 1),(6,x),(7,.ptr p.cs),(14,.slice 1 xs .no),(15,.int .i64 (xs.length:Nat)),(16,ii i)]
abbrev Ent:Type:=List (aw×aa)
def gbO(a b:Ent)(p:Pn):au:=[.mp false a,.mp false b,.cells 45 p.cs]
def aK4(a b:Ent)(p:Pn):au:=[.mp false a,.mp false b,.fcells p.cs]
def aK3(a b:Ent)(p:Pn):aj [2] (gbO a b p)=aK4 a b p:=by kernel_rfl
def aHv(s:Sta)(xs:ax)(i:Int)(x:aa)(b a:Ent)(p:Pn):wP [7] (aB (aK4 b a p)) (gbF s xs i x)=aMY s xs i x p:=by kernel_rfl
def sT{g:Goal}{ks:bf}{s:Sta}{xs:ax}{i:Int}{x:aa}{b a:Ent}(p:Pn)(h:To (Er [] [64,65,66]) qN g (.code ks (aMY s xs i x p) (aK4 b a p))):To (Er [] [64,65,66]) qN g (.code ks (gbF s xs i x) (gbO b a p)):=by refine To.frz [7] [2] ?_;rw [aK3,aHv];exact h
def gcB(s:Sta)(p:Pn)(b a:Bool)(G:Int)(N Q:Bool):Bool:=!b&&(!a&&(decide ((0<=p.seq/\p.seq<s.nxt)/\0<=p.at'/\p.at'<=s.now)&&(decide (G=0)&&(!N&&Q))))
def ggP(s:Sta)(xs:ax)(k:xs.length<=1048576)(i:Nat)(t:i<xs.length)(p:Pn)(get:xs[i]? =some (itP p))(e j:Ent)(l:bB e [p.g.id]=none)(o:bB j [p.seq]=none)(G:Int)(N b:Bool)
  (n:aq 78 [s.c.av,p.g.av] [] (.ret (ii G)) []) (m:G=0->aq 81 [s.c.av,p.g.av] [] (.ret (.bool N)) [])
  (d:gcB s p false false G N true=false->b=false)
  (a:gcB s p false false G N true=true->To (Er [] [64,65,66]) qN (.pure (.ret (.bool b))) (.head (stk qN 0) (ggF s xs ((i:Int)+1)) [.mp false (kF e [p.g.id] (.bool true)),.mp false (kF j [p.seq] (.bool true))])):
  To (Er [] [64,65,66]) qN (.pure (.ret (.bool b))) (.head (stk qN 0) (ggF s xs (i:Int)) [.mp false e,.mp false j]):=by
 have r:=TE p;cases N<;>skip
 all_goals
  refine gV ?_;refine aT λ h=>gV ?_;refine ⟨i,rfl,gV ?_⟩;refine ⟨_,get,gV ?_⟩;refine .pure _ [] r ?_;refine cJ (hEr [] [64,65,66]) 20 ?_;conv=>whnf
  refine To.cutC [1,3,4,6,7,14,15,16] 3 rfl rfl rfl rfl ?_;refine sT p ?_
  repeat' first | (refine gN (hEr [] [64,65,66]) ?_;conv=>whnf) | refine ⟨_,l,?_⟩ | refine ⟨_,o,?_⟩ | refine .pure _ [] n ?_ | refine .pure _ [] (m (by simpa using ‹(G !=0)=false›)) ?_ | exact rfl | refine zt ?_ | refine zu ?_ ?_ | intro h | fail
  all_goals (try (
   refine congrArg (λ q=>Res.ret (aa.bool q)) (d ?_).symm;clear d a;simp only [decide_eq_true_eq,decide_eq_false_iff_not,bne_iff_ne,ne_eq,bne_eq_false_iff_eq,Fa] at *
   simp [gcB]
   try omega))
  all_goals
   exact zqca20
def ggR(s:Sta)(xs:ax)(l:xs.length<=1048576)(i:Nat)(v:i<xs.length)(r:Rn)(p:Pn)(hp:r.pn=p)(get:xs[i]? =some (itR r))(e j:Ent)(n:bB e [p.g.id]=none)(u:bB j [p.seq]=none)(G:Int)(N Q b:Bool)
  (t:aq 78 [s.c.av,p.g.av] [] (.ret (ii G)) []) (o:G=0->aq 81 [s.c.av,p.g.av] [] (.ret (.bool N)) [])
  (m:G=0->aq 242 [s.av,r.av] [] (.ret (.bool Q)) [])
  (d:gcB s p false false G N Q=false->b=false)
  (a:gcB s p false false G N Q=true->To (Er [] [64,65,66]) qN (.pure (.ret (.bool b))) (.head (stk qN 0) (ggF s xs ((i:Int)+1)) [.mp false (kF e [p.g.id] (.bool true)),.mp false (kF j [p.seq] (.bool true))])):
  To (Er [] [64,65,66]) qN (.pure (.ret (.bool b))) (.head (stk qN 0) (ggF s xs (i:Int)) [.mp false e,.mp false j]):=by
 have k:=TD r;rw [hp] at k;cases N<;>cases Q
 all_goals
  refine gV ?_;refine aT λ h=>gV ?_;refine ⟨i,rfl,gV ?_⟩;refine ⟨_,get,gV ?_⟩;refine .pure _ [] k ?_;refine cJ (hEr [] [64,65,66]) 20 ?_;conv=>whnf
  refine To.cutC [1,3,4,6,7,14,15,16] 3 rfl rfl rfl rfl ?_;refine sT p ?_
  repeat' first | (refine gN (hEr [] [64,65,66]) ?_;conv=>whnf) | refine ⟨_,n,?_⟩ | refine ⟨_,u,?_⟩ | refine .pure _ [] t ?_ | refine .pure _ [] (o (by simpa using ‹(G !=0)=false›)) ?_ | refine .pure _ [] (m (by simpa using ‹(G !=0)=false›)) ?_ | exact rfl | refine zt ?_ | refine zu ?_ ?_ | intro h | fail
  all_goals (try (
   refine congrArg (λ q=>Res.ret (aa.bool q)) (d ?_).symm;clear d a;simp only [decide_eq_true_eq,decide_eq_false_iff_not,bne_iff_ne,ne_eq,bne_eq_false_iff_eq,Fa] at *
   simp [gcB]
   try omega))
  all_goals
   exact zqca20
def aMW(s:Sta)(xs:ax)(d:xs.length<=1048576)(i:Nat)(j:i<xs.length)(p:Pn)(get:xs[i]? =some (itP p))(a b:Ent)(m:bB a [p.g.id]=some (.bool true)\/bB a [p.g.id]=none/\bB b [p.seq]=some (.bool true)):
  To (Er [] [64,65,66]) qN (.pure (.ret (.bool false))) (.head (stk qN 0) (ggF s xs (i:Int)) [.mp false a,.mp false b]):=by
 have c:=TE p;rcases m with e | ⟨e,f⟩
 .exact zqca2
 .exact zqca2
def aMV(s:Sta)(xs:ax)(d:xs.length<=1048576)(i:Nat)(j:i<xs.length)(r:Rn)(p:Pn)(hp:r.pn=p)(get:xs[i]? =some (itR r))(a b:Ent)(m:bB a [p.g.id]=some (.bool true)\/bB a [p.g.id]=none/\bB b [p.seq]=some (.bool true)):
  To (Er [] [64,65,66]) qN (.pure (.ret (.bool false))) (.head (stk qN 0) (ggF s xs (i:Int)) [.mp false a,.mp false b]):=by
 have c:=TD r;rw [hp] at c;rcases m with e | ⟨e,f⟩
 .exact zqca2
 .exact zqca2
inductive It where
 | p (x:Pn)
 | r (x:Rn)
def It.av:It->aa
 | .p x=>itP x
 | .r x=>itR x
def It.pn:It->Pn
 | .p x=>x
 | .r x=>x.pn
def It.q(s:Sta):It->Bool
 | .p _=>true
 | .r x=>rnB s x
def It.sm:It->Prop
 | .p _=>True
 | .r x=>x.hs.length<=1048576
def gaB(s:Sta):aw->aw->List It->Bool
 | _,_,[]=>true
 | a,b,x::l=>gcB s x.pn (a.contains x.pn.g.id) (b.contains x.pn.seq) (eQ s.c x.pn.g) (cG s.c [] x.pn.g).isNone (x.q s)&&gaB s (x.pn.g.id::a) (x.pn.seq::b) l
def uJ{c:Con}{g:Gan}(h:eQ c g=0):1<=g.pods/\g.pods<=16:=by obtain ⟨h1,_⟩:=oH.1 h;unfold KK at h1;rw [Ad] at h1;have:=of_decide_eq_true h1.1;omega
def aHs(s:Sta)(C:s.c.sm)(hs:Sm s.run)(l:List It)(hl:l.length<=1048576)(w:∀ x∈l,x.sm)(b:Bool):∀ (m i:Nat) (a d:Ent) (j f:aw),i+m=l.length->aIX a j->aIX d f->gaB s j f (l.drop i)=b->
  To (Er [] [64,65,66]) qN (.pure (.ret (.bool b))) (.head (stk qN 0) (ggF s (l.map It.av) (i:Int)) [.mp false a,.mp false d]):=by
 have F:(l.map It.av).length=l.length:=by simp
 intro m;induction m with
 | zero=>
  intro i a d j f G h1 u e;rw [Ai o_] at e;have e:true=b:=e;subst e;refine gV ?_;exact zW
 | succ m v=>
  intro i a d j f G h1 u e;have n:i<l.length:=o_;rw [Ag n] at e;have get:(l.map It.av)[i]? =some (l[i].av):=by simp [n]
  have z:=w l[i] (Bd n);have v:=λ a d j f=>v (i+1) a d j f o_;generalize l[i]=x at e get z;have e:(gcB s x.pn (j.contains x.pn.g.id) (f.contains x.pn.seq) (eQ s.c x.pn.g) (cG s.c [] x.pn.g).isNone (x.q s)&&gaB s (x.pn.g.id::j) (x.pn.seq::f) (l.drop (i+1)))=b:=e;have k:=h1 x.pn.g.id;have t:=u x.pn.seq;have next:=v _ _ (x.pn.g.id::j) (x.pn.seq::f) (NA h1 x.pn.g.id) (NA u x.pn.seq)
  generalize gaB s (x.pn.g.id::j) (x.pn.seq::f) (l.drop (i+1))=R at e next
  cases A:j.contains x.pn.g.id with
  | true=>
   rw [A] at e k;have e:false=b:=by rw [<-e];rfl
   subst e;cases x with
   | p x=>exact aMW s _ o_ i o_ x get a d (.inl k)
   | r x=>exact aMV s _ o_ i o_ x x.pn rfl get a d (.inl k)
  | false=>
   rw [A] at e k;cases y:f.contains x.pn.seq with
   | true=>
    rw [y] at e t;have e:false=b:=by rw [<-e];rfl
    subst e;cases x with
    | p x=>exact aMW s _ o_ i o_ x get a d (.inr ⟨k,t⟩)
    | r x=>exact aMV s _ o_ i o_ x x.pn rfl get a d (.inr ⟨k,t⟩)
   | false=>
    rw [y] at e t;have D:=LL s.c x.pn.g;have B:=λ h:eQ s.c x.pn.g=0=>M6 s.c C x.pn.g (by have:=uJ h;omega);cases x with
    | p x=>
     refine ggP s _ o_ i o_ x get a d k t _ _ b D B (λ o=>?_) (λ o=>?_)
     .exact e.symm.trans (congrArg (λ q:Bool=>q&&R) o)
     .exact next ((congrArg (λ q:Bool=>q&&R) o).symm.trans e)
    | r x=>
     have H:=λ h:eQ s.c x.pn.g=0=>aFN s C hs x (uJ (g:=x.g) h).1 z;refine ggR s _ o_ i o_ x x.pn rfl get a d k t _ _ _ b D B H (λ o=>?_) (λ o=>?_)
     .exact e.symm.trans (congrArg (λ q:Bool=>q&&R) o)
     .exact next ((congrArg (λ q:Bool=>q&&R) o).symm.trans e)
def qL(s:Sta):List It:=s.pend.map It.p++s.run.map It.r
def aKN(s:Sta):(qL s).map It.av=aG7 s.pend++YN s.run:=by unfold qL;rw [Bk,Dn,Dn];rfl
def aDb(s:Sta)(j:s.c.sm)(hp:s.pend.length<=1000)(k:s.run.length<=1000)(hs:Sm s.run):aq 201 [s.av] [] (.ret (.bool (gaB s [] [] (qL s)))) []:=by
 have d:=aFM s o_ o_;rw [<-aKN] at d;have e:(qL s).length<=2000:=by unfold qL;simp;omega
 have next:=aHs s j hs (qL s) o_ (λ x a=>by
  unfold qL at a;rw [Az,Bq,Bq] at a;rcases a with ⟨y,_,rfl⟩ | ⟨y,i,rfl⟩
  .trivial
  .exact hs.2 y i) _ (qL s).length 0 [] [] [] [] o_ (λ h=>rfl) (λ h=>rfl) rfl
 rw [Cg] at next
 generalize (qL s).map It.av=xs at d next
 generalize gaB s [] [] (qL s)=b at next
 refine cT (E:=(Er [] [64,65,66])) (fn:=Tryz.f201) (g:=.pure _) λ_=>?_;refine cJ (hEr [] [64,65,66]) 10 ?_;conv=>whnf
 refine To.cutC [1] 1 rfl rfl rfl rfl ?_;refine aHr s ?_
 repeat' first | (refine gN (hEr [] [64,65,66]) ?_;conv=>whnf) | refine .pure _ [] d ?_ | exact rfl | refine zt ?_ | refine zu ?_ ?_ | intro h | fail
 refine To.part [1,3,4,14,15,16] [1,2] rfl rfl rfl ?_;exact next
def aK2(s:Sta)(p:Pn)(q e d:Bool):gcB s p e d (eQ s.c p.g) (cG s.c [] p.g).isNone q=(!e&&(!d&&(pnB s p&&q))):=by unfold gcB pnB;generalize decide (eQ s.c p.g=0)=a;generalize (cG s.c [] p.g).isNone=b;generalize decide ((0<=p.seq/\p.seq<s.nxt)/\0<=p.at'/\p.at'<=s.now)=c;cases e<;>cases d<;>cases a<;>cases b<;>cases c<;>cases q<;>rfl
def VK(s:Sta):∀ (l:List It) (a b:aw),gaB s a b l=true↔(∀ x∈l,(pnB s x.pn&&x.q s)=true)/\((l.map λ x=>x.pn.g.id).Nodup/\∀ x∈l,x.pn.g.id∉a)/\((l.map λ x=>x.pn.seq).Nodup/\∀ x∈l,x.pn.seq∉b)
 | [],a,b=>by simp [gaB]
 | x::r,a,b=>by
  unfold gaB;rw [aK2,Ad,VK s r];simp only [Ad,Cw,List.contains_eq_mem,decide_eq_false_iff_not,Bl,Bx,Bc,forall_eq_or_imp,not_or,Bq,not_exists,not_and];constructor
  .rintro ⟨⟨h1,j,h3⟩,k,⟨m,d⟩,h,f⟩;exact ⟨⟨h3,k⟩,⟨⟨λ y c e=>(d y c).1 e,m⟩,h1,λ y c=>(d y c).2⟩,⟨λ y c e=>(f y c).1 e,h⟩,j,λ y c=>(f y c).2⟩
  .rintro ⟨⟨h3,k⟩,⟨⟨d,m⟩,h1,n⟩,⟨f,h⟩,j,i⟩;exact ⟨⟨h1,j,h3⟩,k,⟨m,λ y c=>⟨λ e=>d y c e,n y c⟩⟩,h,λ y c=>⟨λ e=>f y c e,i y c⟩⟩
def aK5(s:Sta):gaB s [] [] (qL s)=((s.pend.all (pnB s)&&s.run.all λ r=>pnB s r.pn&&rnB s r)&&(decide (ids s).Nodup&&decide (seqs s).Nodup)):=by
 rw [Hp,VK];have e:((qL s).map λ x=>x.pn.g.id)=ids s:=by unfold qL ids;rw [Bk,Dn,Dn];rfl
 have c:((qL s).map λ x=>x.pn.seq)=seqs s:=by unfold qL seqs;rw [Bk,Dn,Dn];rfl
 rw [e,c];simp only [Lq,not_false_eq_true,implies_true,and_true,Ad,decide_eq_true_eq,Ct];have f:(∀ x∈qL s,pnB s x.pn=true/\x.q s=true)↔(∀ x∈s.pend,pnB s x=true)/\∀ x∈s.run,pnB s x.pn=true/\rnB s x=true:=by
  unfold qL;constructor
  .intro h;exact ⟨λ x a=>(h (.p x) (De _ (Cc a))).1,λ x a=>h (.r x) (Cv _ (Cc a))⟩
  .rintro ⟨h1,d⟩ x a;rw [Az,Bq,Bq] at a;rcases a with ⟨y,b,rfl⟩ | ⟨y,b,rfl⟩
   .exact ⟨h1 y b,rfl⟩
   .exact d y b
 rw [f]
noncomputable abbrev aHI:Func:=Tryz.f202
def quO(s:Sta):au:=[.cells 31 s.cs]
def aKd(s:Sta):au:=[.fcells s.cs]
def aKc(s:Sta):aj [0] (quO s)=aKd s:=by kernel_rfl
def aGd(s:Sta):wP [1] (aB (aKd s)) [(1,.ref 0 0)]=[(1,.ptr s.cs)]:=by kernel_rfl
def aGb{g:Goal}{ks:bf}(s:Sta)(h:To E aHI g (.code ks [(1,.ptr s.cs)] (aKd s))):To E aHI g (.code ks [(1,.ref 0 0)] (quO s)):=by refine To.frz [1] [0] ?_;rw [aKc,aGd];exact h
def aGc(s:Sta)(h:s.c.sm)(U:a8)(t:U.length=s.c.ns.length)(o:∀ i:Nat,i<U.length->(vav U)[i]? =some (atV U (i:Int)).av)(b:Bool):∀ (m i:Nat),i+m=U.length->((Ic i m).all λ i:Nat=>cQ (atV U (i:Int)) (qD s.c (i:Int)))=b->
  To E aHI (.pure (.ret (.bool b))) (.head (stk aHI 0) [(1,.ptr s.cs),(10,.slice 3 (vav U) .no),(11,.int .i64 ((vav U).length:Nat)),(12,ii (i:Int))] []):=by
 have j:(vav U).length=U.length:=by simp
 have h1:=h.ns;intro m;induction m with
 | zero=>
  intro i k a;have a:true=b:=a;subst a;refine gV ?_;exact zW
 | succ m p=>
  intro i k a;have f:i<U.length:=o_;have a:(cQ (atV U (i:Int)) (qD s.c (i:Int))&&((Ic (i+1) m).all λ i:Nat=>cQ (atV U (i:Int)) (qD s.c (i:Int))))=b:=a;have next:=p (i+1) o_
  generalize ((Ic (i+1) m).all λ i:Nat=>cQ (atV U (i:Int)) (qD s.c (i:Int)))=R at a next
  have get:=o i f;have r:=wA (c:=s.c) (n:=(i:Int)) ⟨by omega,by omega⟩;have l:=aCa s.c h (i:Int);have hl:=jL s.c (i:Int);unfold qD at a;generalize atV U (i:Int)=u at a get;generalize cX s.c.ns (i:Int)=y at a r;generalize lE s.c.ns (i:Int) (qI s.c.ns)=v at a l;cases g:bC s.c.ns (i:Int) with
  | true=>
   rw [g] at a hl;have q:=iH v y.b;have a:(cQ u (fP v y.b)&&R)=b:=a;generalize fP v y.b=w at q a;have d:=uZ u w;cases e:cQ u w with
   | true=>
    rw [e] at a d;have next:=next a
    refine gV ?_;exact zW
   | false=>
    exact zqca39
  | false=>
   rw [g] at a hl;have a:(cQ u v&&R)=b:=a;have d:=uZ u v;cases e:cQ u v with
   | true=>
    rw [e] at a d;have next:=next a
    refine gV ?_;exact zW
   | false=>
    exact zqca39
def aB8(c:Con)(l:a6):(ofL c l).length=c.ns.length:=by unfold ofL mJ;simp
def XZ(s:Sta)(a:s.c.sm)(h:s.run.length<=1048576):aq 202 [s.av] [] (.ret (.bool (L8 s))) []:=by
 have d:=CW s.c a s.run h;have b:=aB8 s.c s.run
 have next:=aGc s a (ofL s.c s.run) b (λ i j=>by
  have:=aE3 (c:=s.c) (l:=s.run) (n:=(i:Int)) ⟨by omega,by omega⟩;rw [Bn] at this
  exact this) _ (ofL s.c s.run).length 0 o_ rfl
 have e:((Ic 0 (ofL s.c s.run).length).all λ i:Nat=>cQ (atV (ofL s.c s.run) (i:Int)) (qD s.c (i:Int)))=L8 s:=by unfold L8;rw [b,Ie]
 rw [e] at next
 generalize L8 s=q at next
 generalize ofL s.c s.run=U at d next
 refine c_ Tryz.f202 λ_=>?_;refine cJ hE 10 ?_;conv=>whnf
 refine To.cutC [1] 1 rfl rfl rfl rfl ?_;refine aGb s ?_;exact zW
def C4(s:Sta):Prop:=(0<=s.now/\s.now<=1099511627776)/\(1<=s.nxt/\s.nxt<=1099511627776)/\s.hist.length=s.c.ns.length/\s.pend.length+s.run.length<=32
instance (s:Sta):Decidable (C4 s):=by unfold C4;infer_instance
def P6(s:Sta)(e:Bool)(k:Int)(q g u:Bool)(b:Int)
  (o:aq 199 [s.c.av] [] (.ret (.bool e)) [])
  (v:aq 76 [s.c.av] [] (.ret (ii k)) [])
  (m:s.pend.length+s.run.length<=32->aq 200 [.slice 11 (pnv s.pend) .no] [] (.ret (.bool q)) [])
  (i:s.pend.length+s.run.length<=32->aq 201 [s.av] [] (.ret (.bool g)) [])
  (r:s.pend.length+s.run.length<=32->aq 202 [s.av] [] (.ret (.bool u)) [])
  (t:(if (((e||decide (k=0))&&decide (C4 s))&&(q&&(g&&u)))=true then 0 else 1)=b):
  aq 147 [s.av] [] (.ret (ii b)) []:=by
 have d:(pnv s.pend).length=s.pend.length:=by simp
 have j:(rav s.run).length=s.run.length:=by simp
 have l:(fv s.hist).length=s.hist.length:=by simp
 have p:(nav s.c.ns).length=s.c.ns.length:=by simp
 refine c_ Tryz.f147 λ_=>?_
 repeat' first | (refine gN hE ?_;conv=>whnf) | refine Fq (Ab (Ab (by simp only [bW,decide_eq_true_eq] at *;omega) (by simp only [aW,decide_eq_true_eq] at *;omega)) ?_) | refine .pure _ [] o ?_ | refine .pure _ [] v ?_ | refine .pure _ [] (m (by simp only [decide_eq_true_eq,decide_eq_false_iff_not,Cw,Iv] at *;omega)) ?_ | refine .pure _ [] (i (by simp only [decide_eq_true_eq,decide_eq_false_iff_not,Cw,Iv] at *;omega)) ?_ | refine .pure _ [] (r (by simp only [decide_eq_true_eq,decide_eq_false_iff_not,Cw,Iv] at *;omega)) ?_ | exact rfl | refine zt ?_ | refine zu ?_ ?_ | intro h | fail
 all_goals
  subst t;refine congrArg (λ n=>Res.ret (aa.int .i64 n)) ?_;simp only [decide_eq_true_eq,decide_eq_false_iff_not,Cw,Iv,beq_iff_eq,beq_eq_false_iff_ne,ne_eq] at *
  first
  | (exfalso;omega)
  | (by_cases a:C4 s
     .rw [decide_eq_true a];unfold C4 at a
      first
      | (exfalso;omega)
      | simp [*]
     .rw [decide_eq_false a]
      first
      | (exfalso;unfold C4 at a;omega)
      | simp)
def FX(s:Sta)(a:s.c.sm)(hs:Sm s.run):aq 147 [s.av] [] (.ret (ii (if mH s=true then 0 else 1))) []:=by
 refine P6 s (fY s.c) (bS s.c) (aBi s.pend) (gaB s [] [] (qL s)) (L8 s) _ (aDI s.c) (sL s.c a) (λ h=>?_) (λ h=>aDb s a o_ o_ hs) (λ h=>XZ s a o_) ?_
 .have:=Q2.check_ok (s.pend.map Pn.q) (by rw [Cf];omega);rw [F5] at this;exact this
 .rw [aK5];unfold mH NW C4;congr 1;simp only [Ia]
end Go.Proofs.YtbpccabomgalhaaGreatDoor
namespace Go.Proofs.YtbpccabomgalhaaGreatDoor.C8
open Go Go.AW Go.Proofs Go.RowKit
set_option maxRecDepth 100000
set_option maxHeartbeats 2000000
abbrev tWr:TypeId:=318
def wE:liesAt Tryz.prog Tryz.prog.depth tWr (2 / Tryz.prog.cellsOf tWr) 0 270 1=true:=by kernel_rfl
def vP:(Tryz.prog.info? 270).map (·.size)=some 2:=by kernel_rfl
def K7:Tryz.prog.underlying 268=some (.pointer 270):=by kernel_rfl
def K6:Tryz.prog.underlying 328=some .unsafePointer:=by kernel_rfl
def OA:Tryz.prog.funcs[244]? =some Tryz.f244:=by kernel_rfl
def gB(b:Nat)(w:World)(h:w.cell? ⟨b,0,none⟩=some (.pointer none))(a:w.shape? b=some (tWr,2))(g:w.frozen? ⟨b,0,none⟩=false):
  Calls Tryz.prog 204 #[.pointer (some ⟨b,0,none⟩)] w λ e w'=>e= .returned (.tuple #[])/\w'=w.setCell ⟨b,0,none⟩ (.pointer (some ⟨b,0,none⟩)):=by
 obtain ⟨j,d,c⟩:=Cb.1 vP
 go_enter Tryz.func204,Tryz.ntmps204
 go_wp2
 rw [Lib.run_to_unsafe w ⟨b,0,none⟩ K7 K6 d (by rw [c];decide) a (Lr 1)];simp only [Eb];rw [Oper.upon_value]
 go_wp2
 rw [run_callFunc_extern OA (by kernel_rfl) (by kernel_rfl) (by kernel_rfl) (e:=Extern.AbiNoEscape.same) (by kernel_rfl)];rw [Lib.run_noEscape];simp only [Eb];rw [Oper.upon_value]
 go_wp2
 rw [Lib.run_from_unsafe w ⟨b,0,none⟩ K6 K7 d a wE];simp only [Eb];rw [Oper.upon_value]
 go_wp2
 go_end0;exact ⟨rfl,rfl⟩
def aAw:Tryz.prog.underlying 323=some (.pointer 5):=by kernel_rfl
def aEt:Tryz.prog.cellsOf 5=1:=by kernel_rfl
def nR(b g cap:Nat)(p:Value)(a:Array Value)(l:ay)(w:World)(k:w.heap[b]? =some (.cells #[p,.slice (some ⟨g,0,none⟩) l.length cap] tWr (0,0)))(r:w.heap[g]? =some (.cells a 5 (0,0)))(n:l≠[])
  (o:l.length<=cap) (m:cap<=maxLen) (v:a.size=cap) (c:∀ (j:Nat) x,l[j]? =some x->w.cell? ⟨g,j,none⟩=some (.int .u8 x.toNat)):
  Calls Tryz.prog 152 #[.pointer (some ⟨b,0,none⟩)] w λ e w'=>e= .returned (.string ⟨l.toArray⟩)/\H4 g l.length w w':=by
 have h:l.length≠0:=by simpa using n
 have y:w.drew.cell? ⟨b,1,none⟩=some (.slice (some ⟨g,0,none⟩) l.length cap):=by exact zqca31
 have s:(Iq #[195] 323 #[.slice (some ⟨g,0,none⟩) l.length cap]).run Tryz.prog w.drew= .ok (.pointer (some ⟨g,0,none⟩)) w.drew:=
  Lib.run_unsafeSliceData_row _ _ _ _ _ _ o_
 have u:(Jn #[323,3] 9 #[.pointer (some ⟨g,0,none⟩),.int .i64 l.length]).run Tryz.prog w.drew= .ok (.string ⟨l.toArray⟩) (w.drew.freeze ⟨g,0,none⟩ l.length):=by exact zqca13
 have d:Tryz.prog.follows Departure.mixedOrders=true:=hE.mix
 go_enter Tryz.func152,Tryz.ntmps152
 go_wp2
 go_region_o
 all_goals (go_wp2;go_ret;exact ⟨rfl,RF h⟩)
def cc_fresh(s:aa):aq 204 [.ref 0 0] [.cells tWr [.nilptr,s]] (.ret (.tup [])) [.cells tWr [.ref 0 0,s]]:=
 nN (λ_ _=>by rfl) gB s
def str_ok(l:ay)(a:l≠[])(p:aa):aq 152 [.ref 0 0] [.cells tWr [p,.slice 1 (l.map ub) (.own 1 0)],.tail 0 1 5] (.ret (.str l)) [.dead,.dead]:=
 lZ (λ_ _=>by rfl) nR l a p
open Go Go.AW Go.Proofs
def aR:Nat->Nat->Nat->ay->Option (Nat×Nat)
 | 0,_,_,_=>none
 | _+1,_,_,[]=>none
 | f+1,i,acc,c::r=>if c.toNat<128 then (if c.toNat=0/\0<i then none else some (acc+(c.toNat % 128)*2 ^ (7*i),i+1)) else aR f (i+1) (acc+(c.toNat % 128)*2 ^ (7*i)) r
def cY(l:ay):Option (Nat×Nat):=aR 9 0 0 l
def aMX:Option (Nat×Nat)->aa
 | some (n,k)=>.tup [.int .i64 n,.int .i64 k,.int .i64 0]
 | none=>.tup [.int .i64 0,.int .i64 0,.int .i64 10]
def putN(n:Nat):ay:=if n<128 then [Dt n] else Dt (128+n % 128)::putN (n / 128)
termination_by n
decreasing_by omega
def iK:∀ (f i a:Nat) (l:ay) (n k:Nat),i+f=9->a<2 ^ (7*i)->aR f i a l=some (n,k)->n<2 ^ 63/\i<k/\k<=9/\k<=i+l.length
 | 0,_,_,_,_,_,_,_,h=>by cases h
 | f+1,i,a,[],_,_,_,_,h=>by cases h
 | f+1,i,a,c::r,n,k,hi,ha,h=>by
  have b:a+(c.toNat % 128)*2 ^ (7*i)<2 ^ (7*(i+1)):=by
   have h3:c.toNat % 128<=127:=o_;have d:(c.toNat % 128)*2 ^ (7*i)<=127*2 ^ (7*i):=Bs _ h3;have e:2 ^ (7*(i+1))=128*2 ^ (7*i):=by rw [Gl,Fm];omega
   omega
  simp only [aR] at h;split at h
  .split at h
   .cases h
   .cases h;have:2 ^ (7*(i+1))<=2 ^ 63:=Ek d_ o_;simp only [Al];omega
  .have:=iK f (i+1) _ r n k o_ b h;simp only [Al];omega
def NZ:∀ (f i a n:Nat) (s:ay),i+f=9->n<2 ^ (7*f)->(0<i->0<n)->aR f i a (putN n++s)=some (a+n*2 ^ (7*i),i+(putN n).length)
 | 0,i,a,n,s,_,hn,h0=>by simp at hn;omega
 | f+1,i,a,n,s,hi,hn,h0=>by
  have d:2 ^ (7*(f+1))=128*2 ^ (7*f):=by rw [Gl,Fm];omega
  have c:2 ^ (7*(i+1))=128*2 ^ (7*i):=by rw [Gl,Fm];omega
  rw [putN];by_cases h:n<128
  .have e:(Dt n).toNat=n:=by rw [Gr,Hd o_]
   rw [if_pos h];simp only [Ca,Bm,aR,e,if_pos h,Hd h];rw [if_neg o_];simp
  .have e:(Dt (128+n % 128)).toNat=128+n % 128:=by rw [Gr,Hd o_]
   rw [if_neg h];simp only [Ca,aR,e];rw [if_neg o_,NZ f (i+1) _ (n / 128) s o_ o_ (λ_=>by omega)];have b:(128+n % 128) % 128=n % 128:=o_;rw [b,c];have g:n*2 ^ (7*i)=(n % 128)*2 ^ (7*i)+n / 128*(128*2 ^ (7*i)):=by rw [<-Ir,<-Bv];congr 1;omega
   simp only [Al,Dp,Ll];omega
def VI{l:ay}{n k:Nat}(h:cY l=some (n,k)):n<2 ^ 63/\0<k/\k<=9/\k<=l.length:=by have:=iK 9 0 0 l n k rfl d_ h;omega
def leN:ay->Nat
 | []=>0
 | c::r=>c.toNat+256*leN r
def JK:∀ (l:ay),leN l<2 ^ (8*l.length)
 | []=>by simp [leN]
 | c::r=>by have:=JK r;have h:=c.toNat_lt;simp only [leN,Al,Gl,Fm];omega
def rO:∀ (l:ay) (c:UInt8),leN (l++[c])=leN l+c.toNat*2 ^ (8*l.length)
 | [],c=>by simp [leN]
 | d::r,c=>by
  simp only [Ca,leN,rO r c,Al,Gl,Fm];have:c.toNat*(2 ^ (8*r.length)*2 ^ (8*1))=256*(c.toNat*2 ^ (8*r.length)):=by rw [<-Ir,Da]
  omega
def FP{l:ay}{i:Nat}{c:UInt8}(h:l[i]? =some c):l.take (i+1)=l.take i++[c]:=by rw [Lg,h];rfl
def MB(n:Nat):∀ b,n<2 ^ (7*b)->(putN n).length<=b+1:=by
 induction n using Hq with
 | ind n c=>
  intro b a;rw [putN];split
  .simp
  .rename_i h;cases b with
   | zero=>simp at a;omega
   | succ b=>
    have:=c (n / 128) o_ b (by rw [Gl,Fm] at a;omega);simp only [Al];omega
def aC8(n:Nat)(s:ay)(a:n<2 ^ 63):cY (putN n++s)=some (n,(putN n).length):=by have:=NZ 9 0 0 n s rfl o_ (λ h=>by omega);simpa [cY] using this
set_option maxRecDepth 10000
def aBL(n:Nat):∀ (a:ay),a.length+(putN n).length<=100->(n:Int)<=9223372036854775807->
  To (Eo [3] []) Tryz.f203 (.pure (.ret (.str (a++putN n)))) (.head (stk Tryz.f203 0) [(0,.int .i64 n),(3,.slice 1 (a.map ub) (.own 0 0))] [.tail 0 1 5]):=by
 induction n using Hq with
 | ind n i=>
  intro a c j;have e:(n:Int).fdiv (2 ^ Dm 7)=((n / 128:Nat):Int):=by rw [Dy _ d_];simp
  have d:=H5 n;have hp:1<=(putN n).length:=by rw [putN];split<;>simp
  have hl:(a.map ub).length=a.length:=by simp
  refine gV ?_;refine ⟨λ h=>?_,λ h=>?_⟩
  .have h:127<n:=by have:=of_decide_eq_true h;omega
   have g:dK .or .u8 ((n % 256:Nat):Int) 128=((128+n % 128:Nat):Int):=by have:=oK .u8 (n % 256) 128 (by simp only [aW];omega) d_;rw [aKv ⟨n % 256,by omega⟩] at this;simp only at this;rw [show n % 256 % 128=n % 128 from by omega] at this;exact this
   have b:putN n=Dt (128+n % 128)::putN (n / 128):=by rw [putN,if_neg o_]
   refine gV ?_;refine .inr (gV ?_);refine ⟨⟨by simp only [maxLen];simp;omega,by simp;omega⟩,?_⟩;refine gV ?_;refine ⟨⟨by decide,by decide⟩,gV ?_⟩;rw [e,d,g];refine To.part [0,3] [0] rfl rfl rfl ?_;have:=i (n / 128) o_ (a++[Dt (128+n % 128)]) (by rw [b] at c;simp at c⊢;omega) o_;rw [b];rw [Ae,Bk,Bl,K5 o_] at this;exact this
  .have h:¬ 127<n:=by have:=of_decide_eq_false h;omega
   have b:putN n=[Dt n]:=by rw [putN,if_pos o_]
   refine gV ?_;refine .inr (gV ?_);refine ⟨⟨by simp only [maxLen];simp;omega,by simp;omega⟩,?_⟩;refine gV ?_;refine ⟨a++[Dt n],?_,by simp;omega,?_⟩
   .rw [d,Hd o_,<-K5 o_,Bk];rfl
   refine gV ?_;rw [b]
def put_ok(n:Int):aq 203 [.int .i64 n] [] (.ret (.str (putN n.toNat))) []:=by refine cT (E:=(Eo [3] [])) (fn:=Tryz.f203) (g:=.pure _) λ a=>?_;have b:n<=9223372036854775807:=a.1.2;have:=MB n.toNat 9 o_;have e:max n 0=(n.toNat:Int):=o_;refine gV ?_;rw [e];refine To.head [0,3] ?_;exact aBL n.toNat [] (by simpa using (by omega:(putN n.toNat).length<=100)) o_
def pl:aw->ay
 | []=>[]
 | n::r=>putN n.toNat++pl r
def pl_append(a b:aw):pl (a++b)=pl a++pl b:=by
 induction a with
 | nil=>rfl
 | cons n r c=>simp [pl,c]
def pn_len{n:Int}(h:n<=9223372036854775807):(putN n.toNat).length<=10:=by have:=MB n.toNat 9 o_;omega
def pl_len:∀ {l:aw},(∀ n∈l,n<=9223372036854775807)->(pl l).length<=10*l.length
 | [],_=>by simp [pl]
 | n::r,h=>by have h1:=pn_len (h n s_);have a:=pl_len (l:=r) λ m hm=>h m (by simp [hm]);simp only [pl,Ah,Al];omega
def aKO{n:Int}(h:pO n=true):0<=n/\n<=1099511627776:=by simpa [pO] using h
def okI_b:∀ {l:aw},okI l=true->∀ n∈l,0<=n/\n<=1099511627776
 | [],_,n,a=>by cases a
 | x::r,h,n,a=>by
  simp only [okI,Ad] at h;rcases Bc.1 a with rfl | a
  .exact aKO h.1
  .exact okI_b h.2 n a
def _root_.Go.Proofs.YtbpccabomgalhaaGreatDoor.Gan.il(g:Gan):aw:=[g.id,g.ten,g.pods,g.need.a,g.need.b,g.need.c,g.run,g.lev,g.pref]
def _root_.Go.Proofs.YtbpccabomgalhaaGreatDoor.Nod.il(x:Nod):aw:=[x.p+1,x.w,x.n.a,x.n.b,x.n.c,x.b.a,x.b.b,x.b.c,x.l.a,x.l.b,x.l.c]
def _root_.Go.Proofs.YtbpccabomgalhaaGreatDoor.Hos.il(x:Hos):aw:=[x.f,x.b,x.r,x.c.a,x.c.b,x.c.c]
def nodL:bb->aw
 | []=>[]
 | x::r=>x.il++nodL r
def hosL:List Hos->aw
 | []=>[]
 | x::r=>x.il++hosL r
def _root_.Go.Proofs.YtbpccabomgalhaaGreatDoor.Con.il(c:Con):aw:=[((nav c.ns).length:Int)]++nodL c.ns++([((hav c.hs).length:Int)]++hosL c.hs++[c.half,c.age])
def _root_.Go.Proofs.YtbpccabomgalhaaGreatDoor.Cmd.il(x:Cmd):aw:=x.k::(if x.k==1 then x.c.il else if x.k==2 then x.g.il else if x.k==6 then [] else [x.n])
def aAm{v:V3}(h:okI v.l=true):(0<=v.a/\v.a<=1099511627776)/\(0<=v.b/\v.b<=1099511627776)/\(0<=v.c/\v.c<=1099511627776):=
 ⟨okI_b h _ (by simp [V3.l]),okI_b h _ (by simp [V3.l]),okI_b h _ (by simp [V3.l])⟩
abbrev wrO(bs:ay)(g:Nat):au:=[.cells tWr [.ref 0 0,.slice 1 (bs.map ub) (.own 1 g)],.tail g 1 5]
def KG(xs:ax):aq 204 [.ref 0 0] [.cells tWr [.ref 0 0,.slice 1 xs (.own 1 0)],.tail 0 1 5] (.ret (.tup [])) [.cells tWr [.ref 0 0,.slice 1 xs (.own 1 0)],.tail 0 1 5]:=by
 refine cT (E:=E) (fn:=Tryz.f204) (g:=.full 2 _ _) λ_=>?_
 repeat' first | (refine gN hE ?_;conv=>whnf) | exact rfl | refine zt ?_ | refine zu ?_ ?_ | intro h | fail
 exact zx [0,1]
def uW(s:ay)(hs:s.length<=1000):aq 149 [.ref 0 0,.str s] [.cells tWr [.nilptr,.slice 1 [] .nil]] (.ret (.tup [ii s.length,.nilif])) (wrO s 0):=by exact zqca11
def ws_ok(bs s:ay)(hs:bs.length+s.length<=1000000):aq 149 [.ref 0 0,.str s] (wrO bs 0) (.ret (.tup [ii s.length,.nilif])) (wrO (bs++s) 1):=by exact zqca8
noncomputable abbrev OB:Func:=Tryz.f196
def xT(l:aw)(hl:((iv l).length:Int)<=9223372036854775807)(u:∀ n∈l,n<=9223372036854775807)(B:ay)(m:Nat)(o:10*l.length<=1000):∀ (n i g:Nat) (bs:ay),i+n=l.length->(g=0\/g=1)->(n=0->g=m)->(0<n->m=1)->bs.length+10*n<=100000->bs++pl (l.drop i)=B->
  To E OB (.full 2 (.ret (.tup [])) (wrO B m)) (.head (stk OB 0) [(0,.ref 0 0),(6,.slice 1 (iv l) .no),(7,.int .i64 ((iv l).length:Nat)),(8,.int .i64 i)] (wrO bs g)):=by
 have t:(iv l).length=l.length:=by simp
 intro n;induction n with
 | zero=>
  exact zqca10
 | succ n s=>
  intro i g bs q f _ j k a;have p:=j o_;subst p;have b:i<l.length:=o_;rw [Ag b] at a;have c:=u l[i] (Bd b);generalize r:l[i]=x at a c;have a:bs++(putN x.toNat++pl (l.drop (i+1)))=B:=a;rw [<-Ae] at a;have get:(iv l)[i]? =some (ii x):=(gM b).trans (by rw [r]);have hp:=pn_len c;refine gV ?_;refine aT λ h=>gV ?_;refine ⟨i,rfl,gV ?_⟩;refine ⟨_,get,gV ?_⟩;refine .pure _ [] (put_ok x) ?_;exact zqca5
def nums_ok(l:aw)(d:l≠[])(c:∀ n∈l,n<=9223372036854775807)(b:l.length<=100)(bs:ay)(e:bs.length+10*l.length<=100000):
  aq 196 [.ref 0 0,.slice 1 (iv l) .no] (wrO bs 0) (.ret (.tup [])) (wrO (bs++pl l) 1):=by
 have i:(iv l).length=l.length:=by simp
 have a:0<l.length:=Dw.2 d;refine cT (E:=E) (fn:=Tryz.f196) (g:=.full 2 _ _) λ_=>?_;exact zqca25
def nums_fresh(k:Int)(a:k<=9223372036854775807):aq 196 [.ref 0 0,.slice 1 [ii k] .no] [.cells tWr [.nilptr,.slice 1 [] .nil]] (.ret (.tup [])) (wrO (putN k.toNat) 0):=by have hp:=pn_len a;refine cT (E:=E) (fn:=Tryz.f196) (g:=.full 1 _ _) λ_=>gV ?_;refine gV ?_;refine Ab (λ_=>?_) (λ h=>absurd (of_decide_eq_false h) s_);refine gV ?_;refine ⟨0,rfl,gV ?_⟩;refine ⟨_,rfl,gV ?_⟩;refine .pure _ [] (put_ok k) (gV ?_);refine .sole rfl (.eff [] [0] _ _ rfl (uW _ o_) ?_);exact zqca6
def v3_m{v:V3}(h:okI v.l=true):∀ n∈v.l,n<=9223372036854775807:=λ n a=>by have:=okI_b h n a;omega
def l3_m{a b c:Int}(h:okI [a,b,c]=true):∀ n∈[a,b,c],n<=9223372036854775807:=λ n d=>by have:=okI_b h n d;omega
def sD(v:V3)(h:okI v.l=true)(bs:ay)(a:bs.length<=90000):aq 238 [.ref 0 0,.agg v.cs] (wrO bs 0) (.ret (.tup [])) (wrO (bs++pl v.l) 1):=by refine cT (E:=E) (fn:=Tryz.f238) (g:=.full 2 _ _) λ_=>gV ?_;refine ⟨by decide,gV ?_⟩;refine .eff [2] [0,1] _ _ rfl (aA.strip (nums_ok v.l (by simp [V3.l]) (v3_m h) (by simp [V3.l]) bs (by simp [V3.l];omega))) ?_;exact zqca28
def gan_b{g:Gan}(h:g.ok=true):okI [g.id,g.ten,g.pods]=true/\okI g.need.l=true/\okI [g.run,g.lev,g.pref]=true:=by simp only [Gan.ok,okI,Ad,Jz] at h⊢;obtain ⟨⟨h1,c,h3,d,e,b⟩,a⟩:=h;exact ⟨⟨h1,c,h3⟩,a,d,e,b⟩
def aAi(g:Gan)(h:g.ok=true)(bs:ay)(b:bs.length<=80000):aq 198 [.ref 0 0,g.av] (wrO bs 0) (.ret (.tup [])) (wrO (bs++pl g.il) 1):=by
 obtain ⟨h1,a,h3⟩:=gan_b h;have l1:=pl_len (l3_m h1);have l2:=pl_len (v3_m a);have e:bs++pl g.il=((bs++pl [g.id,g.ten,g.pods])++pl g.need.l)++pl [g.run,g.lev,g.pref]:=by rw [Ae,Ae,<-pl_append,<-pl_append];rfl
 rw [e];simp only [V3.l,Al,Br] at l1 l2;refine cT (E:=E) (fn:=Tryz.f198) (g:=.full 2 _ _) λ_=>gV ?_;refine .eff [] [0,1] _ _ rfl (aA.strip (nums_ok [g.id,g.ten,g.pods] s_ (l3_m h1) s_ bs q_)) (gV ?_);refine .eff [] [0,1] _ _ rfl (sD g.need a _ q_) (gV ?_);refine .eff [] [0,1] _ _ rfl (aA.strip (nums_ok [g.run,g.lev,g.pref] s_ (l3_m h3) s_ _ (by simp [V3.l];omega))) ?_;exact zqca28
noncomputable abbrev V5:Func:=Tryz.f197
def aCf{x:Nod}(h:x.ok=true):(-1<=x.p/\x.p<=1099511627776)/\(0<=x.w/\x.w<=1099511627776)/\okI x.n.l=true/\okI x.b.l=true/\okI x.l.l=true:=by simp only [Nod.ok,Ad,decide_eq_true_eq] at h;obtain ⟨⟨⟨⟨h1,a⟩,h3⟩,c⟩,d⟩:=h;exact ⟨h1,okI_b a _ s_,h3,c,d⟩
def aCZ{x:Hos}(h:x.ok=true):okI [x.f,x.b,x.r]=true/\okI x.c.l=true:=by simpa only [Hos.ok,Ad] using h
def aIT{l:bb}(h:uR l=true):∀ (i:Nat) (a:i<l.length),l[i].ok=true:=by
 induction l with
 | nil=>intro i a;simp at a
 | cons x r b=>
  simp only [uR,Ad] at h;intro i a;cases i with
  | zero=>exact h.1
  | succ i=>exact b h.2 i (by simpa using a)
def aIU{l:List Hos}(h:qQ l=true):∀ (i:Nat) (a:i<l.length),l[i].ok=true:=by
 induction l with
 | nil=>intro i a;simp at a
 | cons x r b=>
  simp only [qQ,Ad] at h;intro i a;cases i with
  | zero=>exact h.1
  | succ i=>exact b h.2 i (by simpa using a)
def il_len(x:Nod)(h:x.ok=true):(pl x.il).length<=110:=by
 obtain ⟨h1,g,h3,b,c⟩:=aCf h
 have:=pl_len (l:=x.il) (λ n a=>by
  simp only [Nod.il,Bc,Lq,or_false] at a;have f:=aAm h3;have d:=aAm b;have e:=aAm c
  rcases a with rfl | rfl | rfl | rfl | rfl | rfl | rfl | rfl | rfl | rfl | rfl<;>omega)
 simpa [Nod.il] using this
def ih_len(x:Hos)(h:x.ok=true):(pl x.il).length<=60:=by
 obtain ⟨h1,d⟩:=aCZ h
 have:=pl_len (l:=x.il) (λ n c=>by
  simp only [Hos.il,Bc,Lq,or_false] at c;have a:=okI_b h1;have e:=aAm d;have g:=a x.f s_;have i:=a x.b s_;have j:=a x.r s_
  rcases c with rfl | rfl | rfl | rfl | rfl | rfl<;>omega)
 simpa [Hos.il] using this
def W5(c:Con)(v:((hav c.hs).length:Int)<=24)(q:qQ c.hs=true)(u:okI [c.half,c.age]=true)(B:ay):∀ (n i:Nat) (bs:ay),i+n=c.hs.length->bs.length+60*n<=20000->bs++(pl (hosL (c.hs.drop i))++pl [c.half,c.age])=B->
  To E V5 (.full 2 (.ret (.tup [])) (wrO B 1)) (.head (stk V5 1) [(0,.ref 0 0),(3,.ref 2 0),(49,.slice 6 (hav c.hs) .no),(50,.int .i64 ((hav c.hs).length:Nat)),(51,.int .i64 i)] (wrO bs 1++[.cells 26 c.cs])):=by
 have s:(hav c.hs).length=c.hs.length:=by simp
 have hm:∀ n∈[c.half,c.age],n<=9223372036854775807:=λ n m=>by have:=okI_b u n m;omega
 intro n;induction n with
 | zero=>
  intro i bs k g a;rw [Ai o_] at a;have a:bs++pl [c.half,c.age]=B:=a;subst a;refine gV ?_;refine aF λ h=>gV ?_;refine .eff [] [0,1] _ _ rfl (aA.strip (nums_ok [c.half,c.age] s_ hm s_ bs q_)) ?_;exact zqca28
 | succ n p=>
  intro i bs k g a;have d:i<c.hs.length:=o_;rw [Ag d] at a;have e:=aIU q i d;generalize o:c.hs[i]=x at a e;have a:bs++(pl (x.il++hosL (c.hs.drop (i+1)))++pl [c.half,c.age])=B:=a;obtain ⟨h1,j⟩:=aCZ e;have l1:=pl_len (l3_m h1);have l2:=pl_len (v3_m j);have w:=ih_len x e;simp only [V3.l,Al,Br] at l1 l2;have ex:bs++pl x.il=(bs++pl [x.f,x.b,x.r])++pl x.c.l:=by rw [Ae,<-pl_append];rfl
  rw [pl_append,Ae,<-Ae,ex] at a;have get:(hav c.hs)[i]? =some x.av:=(wK d).trans (by rw [o]);refine gV ?_;refine aT λ h=>gV ?_;refine ⟨i,rfl,gV ?_⟩;refine ⟨_,get,gV ?_⟩;refine .eff [] [0,1] _ _ rfl (aA.strip (nums_ok [x.f,x.b,x.r] s_ (l3_m h1) s_ bs q_)) (gV ?_);refine .eff [] [0,1] _ _ rfl (sD x.c j _ q_) (gV ?_);refine aJ (gV ?_);refine To.part [0,3,49,50,51] [0,1,2] rfl rfl rfl ?_;exact p (i+1) _ o_ (by rw [<-ex];simp;omega) a
def W3(c:Con)(g:((nav c.ns).length:Int)<=12)(s:((hav c.hs).length:Int)<=24)(k:uR c.ns=true)(y:qQ c.hs=true)(C:okI [c.half,c.age]=true)(B:ay):∀ (n i:Nat) (bs:ay),i+n=c.ns.length->bs.length+110*n<=10000->
  bs++(pl (nodL (c.ns.drop i))++(pl [((hav c.hs).length:Int)]++(pl (hosL c.hs)++pl [c.half,c.age])))=B->
  To E V5 (.full 2 (.ret (.tup [])) (wrO B 1)) (.head (stk V5 0) [(0,.ref 0 0),(3,.ref 2 0),(15,.slice 11 (nav c.ns) .no),(16,.int .i64 ((nav c.ns).length:Nat)),(17,.int .i64 i)] (wrO bs 1++[.cells 26 c.cs])):=by
 have A:(nav c.ns).length=c.ns.length:=by simp
 have u:(hav c.hs).length=c.hs.length:=by simp
 intro n;induction n with
 | zero=>
  intro i bs q j a;rw [Ai o_] at a;have a:bs++(pl [((hav c.hs).length:Int)]++(pl (hosL c.hs)++pl [c.half,c.age]))=B:=a;rw [<-Ae] at a;have f:∀ n∈[((hav c.hs).length:Int)],n<=9223372036854775807:=λ n g=>by simp at g;omega
  have l1:=pl_len f;simp only [Al,Br] at l1;refine gV ?_;refine aF λ h=>gV ?_;refine .eff [] [0,1] _ _ rfl (aA.strip (nums_ok [((hav c.hs).length:Int)] s_ f s_ bs q_)) (gV ?_);refine To.part [0,3,49,50,51] [0,1,2] rfl rfl rfl ?_;exact W5 c s y C B c.hs.length 0 _ o_ (by simp only [Ah];omega) a
 | succ n v=>
  intro i bs q j a;have d:i<c.ns.length:=o_;rw [Ag d] at a;have e:=aIT k i d;generalize r:c.ns[i]=x at a e;have a:bs++(pl (x.il++nodL (c.ns.drop (i+1)))++_)=B:=a;obtain ⟨h1,G,h3,m,o⟩:=aCf e;have hm:∀ n∈[x.p+1,x.w],n<=9223372036854775807:=λ n g=>by simp at g;omega
  have l1:=pl_len hm;have l2:=pl_len (v3_m h3);have z:=pl_len (v3_m m);have D:=pl_len (v3_m o);have F:=il_len x e;simp only [V3.l,Al,Br] at l1 l2 z D;have ex:bs++pl x.il=(((bs++pl [x.p+1,x.w])++pl x.n.l)++pl x.b.l)++pl x.l.l:=by rw [Ae,Ae,Ae,<-pl_append,<-pl_append,<-pl_append];rfl
  rw [pl_append,Ae,<-Ae,ex] at a;have get:(nav c.ns)[i]? =some x.av:=(kS d).trans (by rw [r]);refine gV ?_;refine aT λ h=>gV ?_;refine ⟨i,rfl,gV ?_⟩;refine ⟨_,get,gV ?_⟩;refine aJ (gV ?_);refine .eff [] [0,1] _ _ rfl (aA.strip (nums_ok [x.p+1,x.w] s_ hm s_ bs q_)) (gV ?_);refine .eff [] [0,1] _ _ rfl (sD x.n h3 _ q_) (gV ?_);refine .eff [] [0,1] _ _ rfl (sD x.b m _ (by simp [V3.l];omega)) ?_;refine gV ?_;refine .eff [] [0,1] _ _ rfl (sD x.l o _ (by simp [V3.l];omega)) ?_;refine gV ?_;refine aJ (gV ?_);refine To.part [0,3,15,16,17] [0,1,2] rfl rfl rfl ?_;exact v (i+1) _ o_ (by rw [<-ex];simp;omega) a
def aAj(c:Con)(b:((nav c.ns).length:Int)<=12)(i:((hav c.hs).length:Int)<=24)(d:c.tok=true)(bs:ay)(e:bs.length<=100):
  aq 197 [.ref 0 0,c.av] (wrO bs 0) (.ret (.tup [])) (wrO (bs++pl c.il) 1):=by
 have j:(nav c.ns).length=c.ns.length:=by simp
 simp only [Con.tok,Ad] at d;obtain ⟨⟨h1,h⟩,h3⟩:=d;have a:∀ n∈[((nav c.ns).length:Int)],n<=9223372036854775807:=λ n b=>by simp at b;omega
 have l1:=pl_len a;simp only [Al,Br] at l1;refine cT (E:=E) (fn:=Tryz.f197) (g:=.full 2 _ _) λ_=>gV ?_;refine .eff [] [0,1] _ _ rfl (aA.strip (nums_ok [((nav c.ns).length:Int)] s_ a s_ bs q_)) (gV ?_);refine To.part [0,3,15,16,17] [0,1,2] rfl rfl rfl ?_;exact W3 c b i h1 h h3 _ c.ns.length 0 _ o_ (by simp only [Ah];omega) (by simp only [Con.il,pl_append,Ae,Cg])
structure Told(x:Cmd):Prop where
 k:1<=x.k/\x.k<=6
 c:x.k=1\/x.c.non=true
 g:x.k=2\/x.g.isZ=true
 n:(x.k=3\/x.k=4\/x.k=5)\/x.n=0
 cok:x.c.tok=true
 gok:x.g.ok=true
 nok:0<=x.n/\x.n<=1099511627776
 ln:((nav x.c.ns).length:Int)<=12
 lh:((hav x.c.hs).length:Int)<=24
def pM{b:Bool}{y:Int}(h:(if b then y else 1)=0):b=true/\y=0:=by
 cases b with
 | true=>exact ⟨rfl,h⟩
 | false=>cases h
def chk_told{x:Cmd}(h:chk x=0):Told x:=by
 unfold chk at h;obtain ⟨h1,h⟩:=pM h;unfold chk2 at h;obtain ⟨h2,h⟩:=pM h;unfold chk3 at h;obtain ⟨h3,h⟩:=pM h;unfold chk4 at h;obtain ⟨h4,h⟩:=pM h;unfold chkC at h;obtain ⟨h5,h⟩:=pM h;unfold chkG at h;obtain ⟨h6,h⟩:=pM h;unfold chkN at h;obtain ⟨h7,h⟩:=pM h;unfold chkL at h;simp only [Ad,Ew,decide_eq_true_eq,beq_iff_eq] at h1 h2 h3 h4;have h8:decide (((nav x.c.ns).length:Int)<=12)=true/\decide (((hav x.c.hs).length:Int)<=24)=true:=by
  split at h
  .rename_i hh;simpa using hh
  .cases h
 exact ⟨h1,h2,h3,by rcases h4 with ((h4 | h4) | h4) | h4
                    .exact .inl (.inl h4)
                    .exact .inl (.inr (.inl h4))
                    .exact .inl (.inr (.inr h4))
                    .exact .inr h4,h5,h6,okI_b h7 _ s_,of_decide_eq_true h8.1,of_decide_eq_true h8.2⟩
def encB(x:Cmd):ay:=if chk x=0 then pl x.il else []
def pl_ne(k:Int)(r:aw):pl (k::r)≠[]:=by
 have:1<=(putN k.toNat).length:=by rw [putN];split<;>simp
 intro h;have h1:(pl (k::r)).length=0:=by rw [h];rfl
 simp only [pl,Ah] at h1;omega
def il_cons(x:Cmd)(r:aw)(h:(if x.k==1 then x.c.il else if x.k==2 then x.g.il else if x.k==6 then [] else [x.n])=r):putN x.k.toNat++pl r=pl x.il:=by subst h;rfl
def enc_ok(x:Cmd):aq 146 [x.av] [] (.ret (.tup [.str (encB x),ii (chk x)])) []:=by
 refine c_ Tryz.f146 λ_=>gV ?_;refine .pure _ [] (check_ok x) (gV ?_);refine ⟨λ h=>?_,λ h=>?_⟩
 .have h:(chk x !=0)=true:=h;have m:¬ chk x=0:=by simpa using h
  have e:encB x=[]:=if_neg m;rw [e];refine gW hE ?_;conv=>whnf
 .have h:(chk x !=0)=false:=h;have m:chk x=0:=by simpa using h
  have e:encB x=pl x.il:=if_pos m;rw [e,m];have T:=chk_told m;have o:x.k<=9223372036854775807:=by have:=T.k;omega
  have hp:=pn_len o;refine gV ?_;refine .eff [] [1] _ _ rfl (aA.strip (nums_fresh x.k o)) (gV ?_);refine Ab (λ h1=>?_) (λ h1=>?_)
  .have h1:(x.k==1)=true:=h1;have il:=il_cons x x.c.il (by rw [h1];rfl);have a:putN x.k.toNat++pl x.c.il≠[]:=by rw [il];exact pl_ne _ _
   refine gV ?_;refine .eff [] [1,2] _ _ rfl (aAj x.c T.ln T.lh T.cok _ o_) ?_;exact zqca24
  .have h1:(x.k==1)=false:=h1;refine gV ?_;refine Ab (λ b=>?_) (λ b=>?_)
   .have b:(x.k==2)=true:=b;have il:=il_cons x x.g.il (by rw [h1,b];rfl);have a:putN x.k.toNat++pl x.g.il≠[]:=by rw [il];exact pl_ne _ _
    refine gV ?_;refine .eff [] [1,2] _ _ rfl (aAi x.g T.gok _ o_) ?_;exact zqca24
   .have b:(x.k==2)=false:=b;have l:∀ n∈[x.n],n<=9223372036854775807:=λ n l=>by have:=T.nok;simp at l;omega
    refine gV ?_;refine Ab (λ h3=>?_) (λ h3=>?_)
    .have h3:(x.k==3)=true:=h3;have i:(x.k==6)=false:=by have:=eq_of_beq h3;rw [this];rfl
     refine gV ?_;refine Ab (λ_=>?_) (λ h=>absurd (h3.symm.trans h) d_);exact zqca3
    .have h3:(x.k==3)=false:=h3;refine gV ?_;refine Ab (λ d=>?_) (λ d=>?_)
     .have d:(x.k==4)=true:=d;have i:(x.k==6)=false:=by have:=eq_of_beq d;rw [this];rfl
      refine gV ?_;refine Ab (λ_=>?_) (λ h=>absurd (d.symm.trans h) d_);exact zqca3
     .have d:(x.k==4)=false:=d;refine gV ?_;refine Ab (λ j=>?_) (λ j=>?_)
      .have j:(x.k==5)=true:=j;have i:(x.k==6)=false:=by have:=eq_of_beq j;rw [this];rfl
       exact zqca3
      .have j:(x.k==5)=false:=j;have i:(x.k==6)=true:=by have:=T.k;simp at h1 b h3 d j⊢;omega
       have il:=il_cons x [] (by rw [h1,b,i];rfl);rw [show putN x.k.toNat++pl []=putN x.k.toNat from Au _] at il;have a:putN x.k.toNat≠[]:=by rw [il];exact pl_ne _ _
       exact zqca24
def aC7(l:ay):∀ (f i a:Nat) (rest:ay),i+f=9->rest=l.drop i->i<=l.length->a<2 ^ (7*i)->
  To E Tryz.f299 (.pure (.ret (aMX (aR f i a rest)))) (.head (stk Tryz.f299 0) [(0,.str l),(5,.int .i64 a),(10,.int .i64 (min (l.length:Int) 9)),(11,.int .i64 i)] []):=by
 intro f;induction f with
 | zero=>
  intro i a rest s g hl p;refine gV ?_;refine aF λ h=>gV ?_;rfl
 | succ f u=>
  intro i a rest s g hl p;cases rest with
  | nil=>
   have q:l.length<=i:=by simpa using g.symm
   refine gV ?_;refine aF λ h=>gV ?_;rfl
  | cons c r=>
   have n:l[i]? =some c:=by
    have:(l.drop i)[0]? =some c:=by rw [<-g];rfl
    simpa using this
   have t:i<l.length:=(Ac.1 n).1;have k:r=l.drop (i+1):=by rw [<-Hf,<-g];rfl
   have z:2 ^ (7*(i+1))=128*2 ^ (7*i):=by rw [Gl,Fm];omega
   have h3:c.toNat % 128<=127:=o_;have x:(c.toNat % 128)*2 ^ (7*i)<=127*2 ^ (7*i):=Bs _ h3;have y:2 ^ (7*(i+1))<=2 ^ 63:=Ek d_ o_;have w:c.toNat<256:=c.toNat_lt;have j:dK .and .u8 (c.toNat:Int) 127=((c.toNat % 128:Nat):Int):=by have:=yJ .u8 c.toNat 127 (by simp only [aW];omega) d_;rw [show (127:Nat)=2 ^ 7-1 from rfl,aIQ] at this;exact this
   have m:(7*(i:Int)).toNat=7*i:=o_;have o:((c.toNat % 128:Nat):Int)*2 ^ (7*i)=((c.toNat % 128*2 ^ (7*i):Nat):Int):=by simp
   have v:dK .or .i64 (a:Int) ((c.toNat % 128*2 ^ (7*i):Nat):Int)=((a+c.toNat % 128*2 ^ (7*i):Nat):Int):=by rw [oK .i64 _ _ (by simp only [aW];omega) (by simp only [aW];omega),QT p]
   refine gV ?_;refine aT λ h=>gV ?_;refine ⟨i,rfl,gV ?_⟩;refine ⟨c,n,gV ?_⟩;refine .inl ⟨by rw [j];exact sR (by simp only [aW];omega),?_⟩;refine gV ?_;refine aJ (gV ?_);refine ⟨by omega,gV ?_⟩;refine .inl ⟨⟨by rw [m];simp only [IntKind.bits];omega,by rw [j,m,o];exact sR (by simp only [aW];omega)⟩,?_⟩;refine gV ?_;rw [j,m,o,v];refine ⟨λ h=>?_,λ h=>?_⟩
   .have b:c.toNat<128:=by have:=of_decide_eq_true h;omega
    have hd:¬ (c.toNat=0/\0<i)->aR (f+1) i a (c::r)=some (a+(c.toNat % 128)*2 ^ (7*i),i+1):=λ hz=>by rw [aR,if_pos b,if_neg hz]
    refine gV ?_;refine Ab (λ hz=>?_) (λ hz=>?_)
    .have hz:c.toNat=0:=by have hz:((c.toNat:Int)==0)=true:=hz;have:=eq_of_beq hz;omega
     refine gV ?_;refine Ab (λ d=>?_) (λ d=>?_)
     .have d:0<i:=by have:=of_decide_eq_true d;omega
      refine gV ?_;rw [aR,if_pos b,if_pos ⟨hz,d⟩];rfl
     .have d:¬ 0<i:=by have:=of_decide_eq_false d;omega
      rw [hd o_];refine gV ?_;refine aJ (gV ?_);rfl
    .have hz:¬ c.toNat=0:=by have hz:((c.toNat:Int)==0)=false:=hz;intro e;rw [e] at hz;cases hz
     rw [hd o_];refine gV ?_;refine aN (gV ?_);refine aJ (gV ?_);rfl
   .have b:¬ c.toNat<128:=by have:=of_decide_eq_false h;omega
    rw [aR,if_neg b];refine gV ?_;refine aJ (gV ?_);refine To.head [0,5,10,11] ?_;exact u (i+1) (a+(c.toNat % 128)*2 ^ (7*i)) r o_ k o_ o_
def aC6(l:ay):aq 299 [.str l] [] (.ret (aMX (cY l))) []:=by refine c_ Tryz.f299 λ_=>gV ?_;refine To.head [0,5,10,11] ?_;exact aC7 l 9 0 0 l rfl rfl (Bt _) d_
def aK{α:Type}{o:Option α}{C:Prop}(a:o=none->C)(h1:∀ x,o=some x->C):C:=by
 cases o with
 | none=>exact a rfl
 | some x=>exact h1 x rfl
abbrev tRd:TypeId:=405
abbrev rdO(s:ay):au:=[.cells tRd [.str s]]
abbrev rdU:au:=[.cells tRd [.undef]]
def bL(s:ay):Option (Int×ay):=match cY s with
 | some (n,k)=>some ((n:Int),s.drop k)
 | none=>none
def pE{α:Type}(av:α->aa):Option (α×ay)->Res
 | some (a,_)=>.ret (av a)
 | none=>.pan (aV 10)
def xS{α:Type}:Option (α×ay)->au
 | some (_,s)=>rdO s
 | none=>rdU
def bE{s s':ay}{n:Int}(h:bL s=some (n,s')):aq 274 [.ref 0 0] (rdO s) (.ret (ii n)) (rdO s'):=by
 unfold bL at h;split at h
 .rename_i m k b;cases h;have a:=aC6 s;rw [b] at a;have c:=VI b;refine cT (E:=E) (fn:=Tryz.f274) (g:=.full 1 _ _) λ_=>gV ?_;refine .pure _ [] a (gV ?_);refine .pure _ [] (fO _ _ rfl) (gV ?_);refine ⟨k,rfl,gV ?_⟩;refine ⟨by omega,gV ?_⟩;exact zx [0]
 .cases h
def bM{s:ay}(h:bL s=none):aq 274 [.ref 0 0] (rdO s) (.pan (aV 10)) rdU:=by
 unfold bL at h;split at h
 .cases h
 .rename_i b;have a:=aC6 s;rw [b] at a;refine aA.blur (ao:=rdO s) ?_;refine cT (E:=E) (fn:=Tryz.f274) (g:=.full 1 _ _) λ_=>gV ?_;refine .pure _ [] a (gV ?_);refine .pan _ (dA _ _ rfl) ?_;exact zx [0]
def dE(s:ay):Option (Int×ay):=match bL s with
 | some (n,s')=>if decide (n<=(s'.length:Int)) then some (n,s') else none
 | none=>none
def lX{s s':ay}{n:Int}(h:dE s=some (n,s')):aq 300 [.ref 0 0] (rdO s) (.ret (ii n)) (rdO s'):=by
 unfold dE at h;split at h
 .rename_i m b a;split at h
  .rename_i hd;cases h;refine cT (E:=E) (fn:=Tryz.f300) (g:=.full 1 _ _) λ_=>gV ?_;refine .eff [] [0] _ _ rfl (bE a) (gV ?_);refine .pure _ [] (fO _ _ hd) (gV ?_);exact zx [0]
  .cases h
 .cases h
def jF{s:ay}(h:dE s=none):aq 300 [.ref 0 0] (rdO s) (.pan (aV 10)) rdU:=by
 unfold dE at h;split at h
 .rename_i m b a;split at h
  .cases h
  .rename_i hd;refine aA.blur (ao:=rdO b) ?_;refine cT (E:=E) (fn:=Tryz.f300) (g:=.full 1 _ _) λ_=>gV ?_;refine .eff [] [0] _ _ rfl (bE a) (gV ?_);refine .pan _ (dA _ _ (by simpa using hd)) ?_;exact zx [0]
 .rename_i a;refine cT (E:=E) (fn:=Tryz.f300) (g:=.full 1 _ _) λ_=>gV ?_;refine .effp [] [0] _ _ rfl (bM a) ?_;exact zx [0]
def pF(s:ay):Option (V3×ay):=match bL s with
 | none=>none
 | some (a,s)=>match bL s with
  | none=>none
  | some (b,s)=>match bL s with
   | none=>none
   | some (c,s)=>some (⟨a,b,c⟩,s)
def TF(s:ay)(r:Res)(O:au)(d:pE (λ v:V3=>.agg v.cs) (pF s)=r)(e:xS (pF s)=O):aq 301 [.ref 0 0] (rdO s) r O:=by
 unfold pF at d e;refine cT (E:=E) (fn:=Tryz.f301) (g:=.full 1 _ _) λ_=>gV ?_;refine gV ?_;refine aY (gV ?_);refine aK (o:=bL s) (λ h1=>?_) (λ⟨a,i⟩ h1=>?_)
 .simp only [h1] at d e;have d:Res.pan (aV 10)=r:=d;have e:rdU=O:=e;subst d e;exact zqca19
 simp only [h1] at d e;refine .eff [] [0] _ _ rfl (bE h1) (gV ?_);refine ⟨⟨by decide,by decide⟩,gV ?_⟩;refine aJ (gV ?_);refine gV ?_;refine aY (gV ?_);refine aK (o:=bL i) (λ h=>?_) (λ⟨b,j⟩ h=>?_)
 .simp only [h] at d e;have d:Res.pan (aV 10)=r:=d;have e:rdU=O:=e;subst d e;refine .effp [] [0] _ _ rfl (bM h) ?_;exact zx [0]
 simp only [h] at d e;refine .eff [] [0] _ _ rfl (bE h) (gV ?_);refine ⟨⟨by decide,by decide⟩,gV ?_⟩;refine aJ (gV ?_);refine gV ?_;refine aY (gV ?_);refine aK (o:=bL j) (λ h3=>?_) (λ⟨c,k⟩ h3=>?_)
 .simp only [h3] at d e;have d:Res.pan (aV 10)=r:=d;have e:rdU=O:=e;subst d e;exact zqca18
 simp only [h3] at d e;refine .eff [] [0] _ _ rfl (bE h3) (gV ?_);refine ⟨⟨by decide,by decide⟩,gV ?_⟩;refine aJ (gV ?_);refine gV ?_;refine aN (gV ?_);subst d e;exact zqca7
def vD{s s':ay}{v:V3}(h:pF s=some (v,s')):aq 301 [.ref 0 0] (rdO s) (.ret (.agg v.cs)) (rdO s'):=TF s _ _ (by rw [h];rfl) (by rw [h];rfl)
def vE{s:ay}(h:pF s=none):aq 301 [.ref 0 0] (rdO s) (.pan (aV 10)) rdU:=TF s _ _ (by rw [h];rfl) (by rw [h];rfl)
def rGan(s:ay):Option (Gan×ay):=match bL s with
 | none=>none
 | some (a,s)=>match bL s with
  | none=>none
  | some (b,s)=>match bL s with
   | none=>none
   | some (c,s)=>match pF s with
    | none=>none
    | some (v,s)=>match bL s with
         | none=>none
         | some (d,s)=>match bL s with
          | none=>none
          | some (e,s)=>match bL s with
           | none=>none
           | some (f,s)=>some (⟨a,b,c,v,d,e,f⟩,s)
def LV(s:ay)(r:Res)(O:au)(h:pE Gan.av (rGan s)=r)(i:xS (rGan s)=O):aq 276 [.ref 0 0] (rdO s) r O:=by
 unfold rGan at h i;refine cT (E:=E) (fn:=Tryz.f276) (g:=.full 1 _ _) λ_=>gV ?_;refine aK (o:=bL s) (λ h1=>?_) (λ⟨a,p⟩ h1=>?_)
 .simp only [h1] at h i;have h:Res.pan (aV 10)=r:=h;have i:rdU=O:=i;subst h i;exact zqca19
 simp only [h1] at h i;refine .eff [] [0] _ _ rfl (bE h1) (gV ?_);refine aK (o:=bL p) (λ k=>?_) (λ⟨b,u⟩ k=>?_)
 .simp only [k] at h i;have h:Res.pan (aV 10)=r:=h;have i:rdU=O:=i;subst h i;refine .effp [] [0] _ _ rfl (bM k) ?_;exact zx [0]
 simp only [k] at h i;refine .eff [] [0] _ _ rfl (bE k) (gV ?_);refine aK (o:=bL u) (λ h3=>?_) (λ⟨c,q⟩ h3=>?_)
 .simp only [h3] at h i;have h:Res.pan (aV 10)=r:=h;have i:rdU=O:=i;subst h i;exact zqca18
 simp only [h3] at h i;refine .eff [] [0] _ _ rfl (bE h3) (gV ?_);refine aK (o:=pF q) (λ l=>?_) (λ⟨v,x⟩ l=>?_)
 .simp only [l] at h i;have h:Res.pan (aV 10)=r:=h;have i:rdU=O:=i;subst h i;refine .effp [] [0] _ _ rfl (vE l) ?_;exact zx [0]
 simp only [l] at h i;refine .eff [] [0] _ _ rfl (vD l) (gV ?_);refine aK (o:=bL x) (λ n=>?_) (λ⟨d,t⟩ n=>?_)
 .simp only [n] at h i;have h:Res.pan (aV 10)=r:=h;have i:rdU=O:=i;subst h i;refine .effp [] [0] _ _ rfl (bM n) ?_;exact zx [0]
 simp only [n] at h i;refine .eff [] [0] _ _ rfl (bE n) (gV ?_);refine aK (o:=bL t) (λ m=>?_) (λ⟨e,w⟩ m=>?_)
 .simp only [m] at h i;have h:Res.pan (aV 10)=r:=h;have i:rdU=O:=i;subst h i;refine .effp [] [0] _ _ rfl (bM m) ?_;exact zx [0]
 simp only [m] at h i;refine .eff [] [0] _ _ rfl (bE m) (gV ?_);refine aK (o:=bL w) (λ j=>?_) (λ⟨f,y⟩ j=>?_)
 .simp only [j] at h i;have h:Res.pan (aV 10)=r:=h;have i:rdU=O:=i;subst h i;exact zqca38
 simp only [j] at h i;refine .eff [] [0] _ _ rfl (bE j) (gV ?_);subst h i;exact zqca7
def A3{s s':ay}{v:Gan}(h:rGan s=some (v,s')):aq 276 [.ref 0 0] (rdO s) (.ret v.av) (rdO s'):=LV s _ _ (by rw [h];rfl) (by rw [h];rfl)
def vT{s:ay}(h:rGan s=none):aq 276 [.ref 0 0] (rdO s) (.pan (aV 10)) rdU:=LV s _ _ (by rw [h];rfl) (by rw [h];rfl)
def bN{s s':ay}{n:Int}(h:bL s=some (n,s')):0<=n/\n<=9223372036854775807/\s'.length+1<=s.length:=by
 unfold bL at h;split at h
 .rename_i m k a;cases h;have:=VI a;simp only [Eg];omega
 .cases h
def eM{s s':ay}{n:Int}(h:dE s=some (n,s')):0<=n/\n<=9223372036854775807/\s'.length+1<=s.length/\n<=s'.length:=by
 unfold dE at h;split at h
 .rename_i m b a;split at h
  .rename_i hd;cases h;have:=bN a;have:=of_decide_eq_true hd;omega
  .cases h
 .cases h
def rVec_b{s s':ay}{v:V3}(h:pF s=some (v,s')):s'.length+1<=s.length:=by
 unfold pF at h;split at h
 .cases h
 .rename_i h1;split at h
  .cases h
  .rename_i a;split at h
   .cases h
   .rename_i h3;cases h;have:=bN h1;have:=bN a;have:=bN h3;omega
def aF8(s:ay):Option (Nod×ay):=match bL s with
 | none=>none
 | some (p,s)=>match bL s with
  | none=>none
  | some (w,s)=>match pF s with
   | none=>none
   | some (a,s)=>match pF s with
    | none=>none
    | some (b,s)=>match pF s with
         | none=>none
         | some (c,s)=>some (⟨p-1,w,a,b,c⟩,s)
def vX(s:ay):Option (Hos×ay):=match bL s with
 | none=>none
 | some (f,s)=>match bL s with
  | none=>none
  | some (b,s)=>match bL s with
   | none=>none
   | some (r,s)=>match pF s with
    | none=>none
    | some (c,s)=>some (⟨f,b,r,c⟩,s)
def aF9(ns:bb)(hs:List Hos)(s:ay):Option (Con×ay):=match bL s with
 | none=>none
 | some (a,s)=>match bL s with
  | none=>none
  | some (b,s)=>some (⟨ns,hs,a,b⟩,s)
def rH(ns:bb):Nat->List Hos->ay->Option (Con×ay)
 | 0,hs,s=>aF9 ns hs s
 | m+1,hs,s=>match vX s with
  | none=>none
  | some (x,s)=>rH ns m (hs++[x]) s
def rHs(ns:bb)(s:ay):Option (Con×ay):=match dE s with
 | none=>none
 | some (n,s)=>rH ns n.toNat [] s
def rN:Nat->bb->ay->Option (Con×ay)
 | 0,ns,s=>rHs ns s
 | m+1,ns,s=>match aF8 s with
  | none=>none
  | some (x,s)=>rN m (ns++[x]) s
def E0(s:ay):Option (Con×ay):=match dE s with
 | none=>none
 | some (n,s)=>rN n.toNat [] s
noncomputable abbrev fRc:Func:=Tryz.f275
def aBD(ns:bb)(n:Int)(y:n<=9223372036854775807)(r:Res)(O:au):∀ (m i:Nat) (s:ay) (hs:List Hos),(i+m:Int)=n->hs.length+s.length<=1000000000->pE Con.av (rH ns m hs s)=r->xS (rH ns m hs s)=O->
  To E fRc (.full 1 r O) (.head (stk fRc 1) [(0,.ref 0 0),(2,.ref 1 0),(32,.int .i64 n),(33,.int .i64 i)] [.cells tRd [.str s],.cells 26 [.slice 11 (nav ns) .no,.slice 6 (hav hs) (.own 2 0),ii 0,ii 0],.tail 0 6 112]):=by
 intro m;induction m with
 | zero=>
  intro i s hs q hl d f;unfold rH aF9 at d f;refine gV ?_;refine aF λ h=>gV ?_;refine aK (o:=bL s) (λ h1=>?_) (λ⟨a,k⟩ h1=>?_)
  .exact zqca35
  simp only [h1] at d f;refine .eff [] [0] _ _ rfl (bE h1) (gV ?_);refine aK (o:=bL k) (λ g=>?_) (λ⟨b,l⟩ g=>?_)
  .exact zqca27
  simp only [g] at d f;refine .eff [] [0] _ _ rfl (bE g) (gV ?_);subst d f;exact zqca7
 | succ m w=>
  intro i s hs q hl d f;unfold rH vX at d f;have p:(hav hs).length=hs.length:=by simp
  refine gV ?_;refine aT λ h=>gV ?_;refine aK (o:=bL s) (λ h1=>?_) (λ⟨a,k⟩ h1=>?_)
  .exact zqca35
  simp only [h1] at d f;refine .eff [] [0] _ _ rfl (bE h1) (gV ?_);refine aK (o:=bL k) (λ g=>?_) (λ⟨b,l⟩ g=>?_)
  .exact zqca27
  simp only [g] at d f;refine .eff [] [0] _ _ rfl (bE g) (gV ?_);refine aK (o:=bL l) (λ h3=>?_) (λ⟨c,u⟩ h3=>?_)
  .simp only [h3] at d f;have d:Res.pan (aV 10)=r:=d;have f:rdU=O:=f;subst d f;exact zqca18
  simp only [h3] at d f;refine .eff [] [0] _ _ rfl (bE h3) (gV ?_);refine aK (o:=pF u) (λ j=>?_) (λ⟨v,x⟩ j=>?_)
  .simp only [j] at d f;have d:Res.pan (aV 10)=r:=d;have f:rdU=O:=f;subst d f;refine .effp [] [0] _ _ rfl (vE j) ?_;exact zx [0]
  simp only [j] at d f;refine .eff [] [0] _ _ rfl (vD j) (gV ?_);have B:=bN h1;have z:=bN g;have A:=bN h3;have C:=rVec_b j;refine Ab ⟨by simp only [maxLen];simp;omega,by simp;omega⟩ ?_;refine gV ?_;refine aJ (gV ?_);refine To.part [0,2,32,33] [0,1,2] rfl rfl rfl ?_;have next:=w (i+1) x (hs++[⟨a,b,c,v⟩]) o_ q_ d f
  have e:hav (hs++[⟨a,b,c,v⟩])=hav hs++[Hos.av ⟨a,b,c,v⟩]:=by simp
  rw [e] at next
  exact next
def aBC(n:Int)(C:n<=9223372036854775807)(r:Res)(O:au):∀ (m i:Nat) (s:ay) (ns:bb),(i+m:Int)=n->ns.length+s.length<=1000000000->pE Con.av (rN m ns s)=r->xS (rN m ns s)=O->
  To E fRc (.full 1 r O) (.head (stk fRc 0) [(0,.ref 0 0),(2,.ref 1 0),(6,.int .i64 n),(7,.int .i64 i)] [.cells tRd [.str s],.cells 26 [.slice 11 (nav ns) (.own 2 0),.slice 6 [] .nil,ii 0,ii 0],.tail 0 11 78]):=by
 intro m;induction m with
 | zero=>
  intro i s ns v hl f g;unfold rN rHs at f g;refine gV ?_;refine aF λ h=>gV ?_;refine aK (o:=dE s) (λ h1=>?_) (λ⟨k,q⟩ h1=>?_)
  .simp only [h1] at f g;have f:Res.pan (aV 10)=r:=f;have g:rdU=O:=g;subst f g;refine .effp [] [0] _ _ rfl (jF h1) ?_;exact zx [0]
  simp only [h1] at f g;refine .eff [] [0] _ _ rfl (lX h1) (gV ?_);have A:=eM h1;refine To.part [0,2,32,33] [0,1] rfl rfl rfl ?_;refine To.begin 1 1 112 rfl rfl ?_;exact aBD ns k o_ r O k.toNat 0 q [] o_ q_ f g
 | succ m z=>
  intro i s ns v hl f g;unfold rN aF8 at f g;have u:(nav ns).length=ns.length:=by simp
  refine gV ?_;refine aT λ h=>gV ?_;refine aK (o:=bL s) (λ h1=>?_) (λ⟨a,q⟩ h1=>?_)
  .simp only [h1] at f g;have f:Res.pan (aV 10)=r:=f;have g:rdU=O:=g;subst f g;exact zqca19
  simp only [h1] at f g;refine .eff [] [0] _ _ rfl (bE h1) (gV ?_);have A:=bN h1;refine aJ (gV ?_);refine aK (o:=bL q) (λ j=>?_) (λ⟨b,y⟩ j=>?_)
  .simp only [j] at f g;have f:Res.pan (aV 10)=r:=f;have g:rdU=O:=g;subst f g;exact zqca38
  simp only [j] at f g;refine .eff [] [0] _ _ rfl (bE j) (gV ?_);refine aK (o:=pF y) (λ h3=>?_) (λ⟨c,w⟩ h3=>?_)
  .simp only [h3] at f g;have f:Res.pan (aV 10)=r:=f;have g:rdU=O:=g;subst f g;refine .effp [] [0] _ _ rfl (vE h3) ?_;exact zx [0]
  simp only [h3] at f g;refine .eff [] [0] _ _ rfl (vD h3) (gV ?_);refine aK (o:=pF w) (λ l=>?_) (λ⟨d,B⟩ l=>?_)
  .simp only [l] at f g;have f:Res.pan (aV 10)=r:=f;have g:rdU=O:=g;subst f g;refine .effp [] [0] _ _ rfl (vE l) ?_;exact zx [0]
  simp only [l] at f g;refine .eff [] [0] _ _ rfl (vD l) (gV ?_);refine aK (o:=pF B) (λ p=>?_) (λ⟨e,x⟩ p=>?_)
  .simp only [p] at f g;have f:Res.pan (aV 10)=r:=f;have g:rdU=O:=g;subst f g;refine .effp [] [0] _ _ rfl (vE p) ?_;exact zx [0]
  simp only [p] at f g;refine .eff [] [0] _ _ rfl (vD p) (gV ?_);have D:=bN j;have F:=rVec_b h3;have H:=rVec_b l;have G:=rVec_b p;refine Ab ⟨by simp only [maxLen];simp;omega,by simp;omega⟩ ?_;refine gV ?_;refine aJ (gV ?_);refine To.part [0,2,6,7] [0,1,2] rfl rfl rfl ?_;have next:=z (i+1) x (ns++[⟨a-1,b,c,d,e⟩]) o_ q_ f g
  have e:nav (ns++[⟨a-1,b,c,d,e⟩])=nav ns++[Nod.av ⟨a-1,b,c,d,e⟩]:=by simp
  rw [e] at next
  exact next
def LZ(s:ay)(hs:s.length<=1000000000)(r:Res)(O:au)(a:pE Con.av (E0 s)=r)(b:xS (E0 s)=O):aq 275 [.ref 0 0] (rdO s) r O:=by
 unfold E0 at a b;refine cT (E:=E) (fn:=Tryz.f275) (g:=.full 1 _ _) λ_=>gV ?_;refine aK (o:=dE s) (λ h1=>?_) (λ⟨k,c⟩ h1=>?_)
 .exact zqca14
 simp only [h1] at a b;refine .eff [] [0] _ _ rfl (lX h1) (gV ?_);have d:=eM h1;refine To.part [0,2,6,7] [0,1] rfl rfl rfl ?_;refine To.begin 1 0 78 rfl rfl ?_;exact aBC k o_ r O k.toNat 0 c [] o_ q_ a b
def aF6{s s':ay}(hs:s.length<=1000000000){v:Con}(h:E0 s=some (v,s')):aq 275 [.ref 0 0] (rdO s) (.ret v.av) (rdO s'):=LZ s hs _ _ (by rw [h];rfl) (by rw [h];rfl)
def aBB{s:ay}(hs:s.length<=1000000000)(h:E0 s=none):aq 275 [.ref 0 0] (rdO s) (.pan (aV 10)) rdU:=LZ s hs _ _ (by rw [h];rfl) (by rw [h];rfl)
def _root_.Go.Proofs.YtbpccabomgalhaaGreatDoor.Con.zero:Con:=⟨[],[],0,0⟩
def E1(s:ay):Option (Cmd×ay):=match bL s with
 | none=>none
 | some (k,s)=>if k==1 then (match E0 s with
   | none=>none
   | some (c,s)=>some (⟨k,c,Gan.zero,0⟩,s))
  else if k==2 then (match rGan s with
   | none=>none
   | some (g,s)=>some (⟨k,Con.zero,g,0⟩,s))
  else if (k==3||k==4)||k==5 then (match bL s with
   | none=>none
   | some (n,s)=>some (⟨k,Con.zero,Gan.zero,n⟩,s))
  else some (⟨k,Con.zero,Gan.zero,0⟩,s)
abbrev zCs:ax:=[ii 0,.slice 11 [] .nil,.slice 6 [] .nil,ii 0,ii 0,ii 0,ii 0,ii 0,ii 0,ii 0,ii 0,ii 0,ii 0,ii 0,ii 0]
abbrev dcO(s:ay):au:=[.cells 56 zCs,.cells tRd [.str s],.cells 403 [.ref 1 0]]
abbrev dcX(x:Cmd)(s:ay):au:=[.cells 56 x.cs,.cells tRd [.str s],.cells 403 [.ref 1 0]]
abbrev dcU:au:=tK (λ_=>.undef) (dcO [])
def aIl{s:ay}(h:bL s=none):aq 273 [.ref 2 0,.ref 0 0] (dcO s) (.pan (aV 10)) dcU:=by refine aA.blur (ao:=[.cells 56 zCs,.cells tRd [.undef],.cells 403 [.ref 1 0]]) ?_;refine cT (E:=E) (fn:=Tryz.f273) (g:=.full 3 _ _) λ_=>gV ?_;refine .effp [] [1] _ _ rfl (bM h) ?_;exact zx [0,1,2]
def aNs{s a:ay}(hs:a.length<=1000000000)(h:bL s=some (1,a))(b:E0 a=none):aq 273 [.ref 2 0,.ref 0 0] (dcO s) (.pan (aV 10)) dcU:=by refine aA.blur (ao:=[.cells 56 (ii 1::zCs.tail),.cells tRd [.undef],.cells 403 [.ref 1 0]]) ?_;refine cT (E:=E) (fn:=Tryz.f273) (g:=.full 3 _ _) λ_=>gV ?_;refine .eff [] [1] _ _ rfl (bE h) (gV ?_);refine aY (gV ?_);refine .effp [] [1] _ _ rfl (aBB hs b) ?_;exact zx [0,1,2]
def aN2{s a b:ay}{c:Con}(hs:a.length<=1000000000)(h:bL s=some (1,a))(d:E0 a=some (c,b)):aq 273 [.ref 2 0,.ref 0 0] (dcO s) (.ret (.tup [])) (dcX ⟨1,c,Gan.zero,0⟩ b):=by refine cT (E:=E) (fn:=Tryz.f273) (g:=.full 3 _ _) λ_=>gV ?_;refine .eff [] [1] _ _ rfl (bE h) (gV ?_);refine aY (gV ?_);refine .eff [] [1] _ _ rfl (aF6 hs d) (gV ?_);exact zx [0,1,2]
def aNr{s a:ay}(h:bL s=some (2,a))(b:rGan a=none):aq 273 [.ref 2 0,.ref 0 0] (dcO s) (.pan (aV 10)) dcU:=by refine aA.blur (ao:=[.cells 56 (ii 2::zCs.tail),.cells tRd [.undef],.cells 403 [.ref 1 0]]) ?_;refine cT (E:=E) (fn:=Tryz.f273) (g:=.full 3 _ _) λ_=>gV ?_;refine .eff [] [1] _ _ rfl (bE h) (gV ?_);refine aN (gV ?_);refine aY (gV ?_);refine .effp [] [1] _ _ rfl (vT b) ?_;exact zx [0,1,2]
def aN1{s e d:ay}{g:Gan}(h:bL s=some (2,e))(i:rGan e=some (g,d)):aq 273 [.ref 2 0,.ref 0 0] (dcO s) (.ret (.tup [])) (dcX ⟨2,Con.zero,g,0⟩ d):=by refine aA.loose (ao:=[.cells 56 [ii 2,.slice 11 [] .nil,.slice 6 [] .nil,ii 0,ii 0,ii g.id,ii g.ten,ii g.pods,ii g.need.a,ii g.need.b,ii g.need.c,ii g.run,ii g.lev,ii g.pref,ii 0],.cells tRd [.str d],.cells 403 [.ref 1 0]]) ?_;refine cT (E:=E) (fn:=Tryz.f273) (g:=.full 3 _ _) λ_=>gV ?_;refine .eff [] [1] _ _ rfl (bE h) (gV ?_);refine aN (gV ?_);refine aY (gV ?_);refine .eff [] [1] _ _ rfl (A3 i) (gV ?_);exact zx [0,1,2]
def aNq{s b:ay}{k:Int}(c:k=3\/k=4\/k=5)(h:bL s=some (k,b))(a:bL b=none):aq 273 [.ref 2 0,.ref 0 0] (dcO s) (.pan (aV 10)) dcU:=by
 rcases c with rfl | rfl | rfl
 .refine aA.blur (ao:=[.cells 56 (ii 3::zCs.tail),.cells tRd [.undef],.cells 403 [.ref 1 0]]) ?_;refine cT (E:=E) (fn:=Tryz.f273) (g:=.full 3 _ _) λ_=>gV ?_;refine .eff [] [1] _ _ rfl (bE h) (gV ?_)
  repeat' first | (refine gN hE ?_;conv=>whnf) | refine .effp [] [1] _ _ rfl (bM a) ?_ | exact rfl | refine zt ?_ | refine zu ?_ ?_ | intro h | fail
  exact zx [0,1,2]
 .refine aA.blur (ao:=[.cells 56 (ii 4::zCs.tail),.cells tRd [.undef],.cells 403 [.ref 1 0]]) ?_;refine cT (E:=E) (fn:=Tryz.f273) (g:=.full 3 _ _) λ_=>gV ?_;refine .eff [] [1] _ _ rfl (bE h) (gV ?_)
  repeat' first | (refine gN hE ?_;conv=>whnf) | refine .effp [] [1] _ _ rfl (bM a) ?_ | exact rfl | refine zt ?_ | refine zu ?_ ?_ | intro h | fail
  exact zx [0,1,2]
 .refine aA.blur (ao:=[.cells 56 (ii 5::zCs.tail),.cells tRd [.undef],.cells 403 [.ref 1 0]]) ?_;refine cT (E:=E) (fn:=Tryz.f273) (g:=.full 3 _ _) λ_=>gV ?_;refine .eff [] [1] _ _ rfl (bE h) (gV ?_)
  repeat' first | (refine gN hE ?_;conv=>whnf) | refine .effp [] [1] _ _ rfl (bM a) ?_ | exact rfl | refine zt ?_ | refine zu ?_ ?_ | intro h | fail
  exact zx [0,1,2]
abbrev nCs(k n:Int):ax:=[ii k,.slice 11 [] .nil,.slice 6 [] .nil,ii 0,ii 0,ii 0,ii 0,ii 0,ii 0,ii 0,ii 0,ii 0,ii 0,ii 0,ii n]
def aN0{s c a:ay}{k n:Int}(d:k=3\/k=4\/k=5)(h:bL s=some (k,c))(b:bL c=some (n,a)):aq 273 [.ref 2 0,.ref 0 0] (dcO s) (.ret (.tup [])) (dcX ⟨k,Con.zero,Gan.zero,n⟩ a):=by
 refine aA.loose (ao:=[.cells 56 (nCs k n),.cells tRd [.str a],.cells 403 [.ref 1 0]]) ?_;rcases d with rfl | rfl | rfl
 .refine cT (E:=E) (fn:=Tryz.f273) (g:=.full 3 _ _) λ_=>gV ?_;refine .eff [] [1] _ _ rfl (bE h) (gV ?_)
  repeat' first | (refine gN hE ?_;conv=>whnf) | refine .eff [] [1] _ _ rfl (bE b) ?_ | exact rfl | refine zt ?_ | refine zu ?_ ?_ | intro h | fail
  exact zx [0,1,2]
 .refine cT (E:=E) (fn:=Tryz.f273) (g:=.full 3 _ _) λ_=>gV ?_;refine .eff [] [1] _ _ rfl (bE h) (gV ?_)
  repeat' first | (refine gN hE ?_;conv=>whnf) | refine .eff [] [1] _ _ rfl (bE b) ?_ | exact rfl | refine zt ?_ | refine zu ?_ ?_ | intro h | fail
  exact zx [0,1,2]
 .refine cT (E:=E) (fn:=Tryz.f273) (g:=.full 3 _ _) λ_=>gV ?_;refine .eff [] [1] _ _ rfl (bE h) (gV ?_)
  repeat' first | (refine gN hE ?_;conv=>whnf) | refine .eff [] [1] _ _ rfl (bE b) ?_ | exact rfl | refine zt ?_ | refine zu ?_ ?_ | intro h | fail
  exact zx [0,1,2]
def aNZ{s a:ay}{k:Int}(h1:(k==1)=false)(b:(k==2)=false)(h3:(k==3)=false)(c:(k==4)=false)(d:(k==5)=false)(h:bL s=some (k,a)):
  aq 273 [.ref 2 0,.ref 0 0] (dcO s) (.ret (.tup [])) (dcX ⟨k,Con.zero,Gan.zero,0⟩ a):=by
 refine aA.loose (ao:=[.cells 56 (nCs k 0),.cells tRd [.str a],.cells 403 [.ref 1 0]]) ?_;refine cT (E:=E) (fn:=Tryz.f273) (g:=.full 3 _ _) λ_=>gV ?_;refine .eff [] [1] _ _ rfl (bE h) (gV ?_);refine Ab (λ h=>absurd (h.symm.trans h1) d_) (λ_=>gV ?_);refine Ab (λ h=>absurd (h.symm.trans b) d_) (λ_=>gV ?_);refine Ab (λ h=>absurd (h.symm.trans h3) d_) (λ_=>gV ?_);refine Ab (λ h=>absurd (h.symm.trans c) d_) (λ_=>gV ?_);refine Ab (λ h=>absurd (h.symm.trans d) d_) (λ_=>gV ?_);exact zx [0,1,2]
def aNp{s s':ay}{x:Cmd}(hs:s.length<=1000000000)(h:E1 s=some (x,s')):aq 273 [.ref 2 0,.ref 0 0] (dcO s) (.ret (.tup [])) (dcX x s'):=by
 unfold E1 at h;split at h
 .cases h
 .rename_i k i h1;have g:=bN h1;split at h
  .rename_i b;have b:=eq_of_beq b;subst b;split at h
   .cases h
   .rename_i e;cases h;exact aN2 o_ h1 e
  .rename_i c;split at h
   .rename_i b;have b:=eq_of_beq b;subst b;split at h
    .cases h
    .rename_i e;cases h;exact aN1 h1 e
   .rename_i d;split at h
    .rename_i b;simp at b;split at h
     .cases h
     .rename_i e;cases h;exact aN0 o_ h1 e
    .rename_i a;cases h;simp only [Ew,not_or,Bool.not_eq_true] at c d a;exact aNZ c d a.1.1 a.1.2 a.2 h1
def aLA{s:ay}(hs:s.length<=1000000000)(h:E1 s=none):aq 273 [.ref 2 0,.ref 0 0] (dcO s) (.pan (aV 10)) dcU:=by
 unfold E1 at h;split at h
 .rename_i h1;exact aIl h1
 .rename_i k d h1;have c:=bN h1;split at h
  .rename_i a;have a:=eq_of_beq a;subst a;split at h
   .rename_i b;exact aNs o_ h1 b
   .cases h
  .split at h
   .rename_i a;have a:=eq_of_beq a;subst a;split at h
    .rename_i b;exact aNr h1 b
    .cases h
   .split at h
    .rename_i a;simp at a;split at h
     .rename_i b;exact aNq o_ h1 b
     .cases h
    .cases h
abbrev d1V:aa:=.func (.func 273) [] [.ref 2 0,.ref 0 0]
noncomputable abbrev Et:Env:=Ed [(71,[.ref 3 0])]
def hEt:ae Et:=hEd _
def aJv{s s':ay}{x:Cmd}(hs:s.length<=1000000000)(h:E1 s=some (x,s')):aq 272 [d1V] (dcO s) (.ret (ii 0)) (dcX x s'):=by
 refine cT (E:=E) (fn:=Tryz.f272) (g:=.full 3 _ _) λ_=>gV ?_;refine To.defer (f:=71) (args:=[.ref 3 0]) _ rfl rfl ?_;refine gW hEt ?_;conv=>whnf
 refine .eff [] [0,1,2] _ _ rfl (aNp hs h) ?_;refine gW hEt ?_;conv=>whnf
 refine To.leave (f:=71) (args:=[.ref 3 0]) [] rfl [] [3] rfl (catch_ret 0) ?_;exact zqca15
def aFa{s:ay}(hs:s.length<=1000000000)(h:E1 s=none):aq 272 [d1V] (dcO s) (.ret (ii 10)) dcU:=by
 refine cT (E:=E) (fn:=Tryz.f272) (g:=.full 3 _ _) λ_=>gV ?_;refine To.defer (f:=71) (args:=[.ref 3 0]) _ rfl rfl ?_;refine gW hEt ?_;conv=>whnf
 refine .effp [] [0,1,2] _ _ rfl (aLA hs h) ?_;conv=>whnf
 refine To.leave (f:=71) (args:=[.ref 3 0]) [] rfl [] [3] rfl (catch_pan 0 10) ?_;exact zqca15
def _root_.Go.Proofs.YtbpccabomgalhaaGreatDoor.Cmd.zero:Cmd:=⟨0,Con.zero,Gan.zero,0⟩
def dec(s:ay):Option Cmd:=match E1 s with
 | some (x,r)=>if r=[]/\chk x=0 then some x else none
 | none=>none
def decX(s:ay):Cmd:=(dec s).getD Cmd.zero
def decE(s:ay):Int:=match dec s with | some _=>0 | none=>10
def decode_ok(s:ay)(hs:s.length<=1000000000):aq 236 [.str s] [] (.ret (.tup [(decX s).av,ii (decE s)])) []:=by
 refine c_ Tryz.f236 λ_=>gV ?_;refine aK (o:=E1 s) (λ h=>?_) (λ⟨x,r⟩ h=>?_)
 .have c:decX s=Cmd.zero:=by unfold decX dec;rw [h];rfl
  have j:decE s=10:=by unfold decE dec;rw [h]
  rw [c,j];refine .eff [] [1,2,3] _ _ rfl (aFa hs h) ?_
  repeat' first | (refine gN hE ?_;conv=>whnf) | exact rfl | refine zt ?_ | refine zu ?_ ?_ | intro h | fail
 .refine .eff [] [1,2,3] _ _ rfl (aJv hs h) (gV ?_);refine aN (gV ?_);refine Ab (λ a=>?_) (λ a=>?_)
  .have a:(!(r==[]))=true:=a;have k:¬ r=[]:=by intro e;rw [e] at a;simp at a
   have b:dec s=none:=by unfold dec;rw [h];exact if_neg (λ h=>k h.1)
   have c:decX s=Cmd.zero:=by unfold decX;rw [b];rfl
   have j:decE s=10:=by unfold decE;rw [b]
   rw [c,j]
   repeat' first | (refine gN hE ?_;conv=>whnf) | exact rfl | refine zt ?_ | refine zu ?_ ?_ | intro h | fail
  .have a:(!(r==[]))=false:=a;have k:r=[]:=by simpa using a
   refine gV ?_;refine .pure _ [] (check_ok x) (gV ?_);refine Ab (λ i=>?_) (λ i=>?_)
   .have i:(chk x !=0)=true:=i;have d:¬ chk x=0:=by simpa using i
    have b:dec s=none:=by unfold dec;rw [h];exact if_neg (λ h=>d h.2)
    have c:decX s=Cmd.zero:=by unfold decX;rw [b];rfl
    have j:decE s=10:=by unfold decE;rw [b]
    rw [c,j]
    repeat' first | (refine gN hE ?_;conv=>whnf) | exact rfl | refine zt ?_ | refine zu ?_ ?_ | intro h | fail
   .have i:(chk x !=0)=false:=i;have d:chk x=0:=by simpa using i
    have b:dec s=some x:=by unfold dec;rw [h];exact if_pos ⟨k,d⟩
    have c:decX s=x:=by unfold decX;rw [b];rfl
    have j:decE s=0:=by unfold decE;rw [b]
    rw [c,j]
    repeat' first | (refine gN hE ?_;conv=>whnf) | exact rfl | refine zt ?_ | refine zu ?_ ?_ | intro h | fail
def aX{n:Int}(a:0<=n)(h:n<=1099511627777)(s:ay):bL (putN n.toNat++s)=some (n,s):=by unfold bL;rw [aC8 n.toNat s o_];simp only [Jd,Dp,Ll,and_true];omega
def rG{v:V3}(h:okI v.l=true)(s:ay):pF (pl v.l++s)=some (v,s):=by
 obtain ⟨h1,d,h3⟩:=aAm h;have e:pl v.l++s=putN v.a.toNat++(putN v.b.toNat++(putN v.c.toNat++s)):=by simp [pl,V3.l]
 rw [e];unfold pF;rw [aX h1.1 o_];dsimp only;rw [aX d.1 o_];dsimp only;rw [aX h3.1 o_]
def nY{g:Gan}(h:g.ok=true)(s:ay):rGan (pl g.il++s)=some (g,s):=by
 obtain ⟨h1,j,h3⟩:=gan_b h;have a:=okI_b h1 g.id s_;have d:=okI_b h1 g.ten s_;have i:=okI_b h1 g.pods s_;have c:=okI_b h3 g.run s_;have f:=okI_b h3 g.lev s_;have b:=okI_b h3 g.pref s_;have e:pl g.il++s=putN g.id.toNat++(putN g.ten.toNat++(putN g.pods.toNat++(pl g.need.l++(putN g.run.toNat++(putN g.lev.toNat++(putN g.pref.toNat++s)))))):=by simp [pl,Gan.il,V3.l]
 rw [e];unfold rGan;rw [aX a.1 o_];dsimp only;rw [aX d.1 o_];dsimp only;rw [aX i.1 o_];dsimp only;rw [rG j];dsimp only;rw [aX c.1 o_];dsimp only;rw [aX f.1 o_];dsimp only;rw [aX b.1 o_]
def aBG{x:Nod}(h:x.ok=true)(s:ay):aF8 (pl x.il++s)=some (x,s):=by
 obtain ⟨h1,a,h3,c,d⟩:=aCf h;have e:pl x.il++s=putN (x.p+1).toNat++(putN x.w.toNat++(pl x.n.l++(pl x.b.l++(pl x.l.l++s)))):=by simp [pl,Nod.il,V3.l]
 rw [e];unfold aF8;rw [aX o_ o_];dsimp only;rw [aX a.1 o_];dsimp only;rw [rG h3];dsimp only;rw [rG c];dsimp only;rw [rG d];simp
def vW{x:Hos}(h:x.ok=true)(s:ay):vX (pl x.il++s)=some (x,s):=by
 obtain ⟨h1,g⟩:=aCZ h;have a:=okI_b h1 x.f s_;have d:=okI_b h1 x.b s_;have i:=okI_b h1 x.r s_;have e:pl x.il++s=putN x.f.toNat++(putN x.b.toNat++(putN x.r.toNat++(pl x.c.l++s))):=by simp [pl,Hos.il,V3.l]
 rw [e];unfold vX;rw [aX a.1 o_];dsimp only;rw [aX d.1 o_];dsimp only;rw [aX i.1 o_];dsimp only;rw [rG g]
def putN_pos(n:Nat):1<=(putN n).length:=by rw [putN];split<;>simp
def MZ:∀ (l:bb),l.length<=(pl (nodL l)).length
 | []=>by simp
 | x::r=>by
  have h1:=MZ r;have a:=putN_pos (x.p+1).toNat;simp only [nodL,pl_append,Ah,Al];have:1<=(pl x.il).length:=by simp only [Nod.il,pl,Ah];omega
  omega
def NU:∀ (l:List Hos),l.length<=(pl (hosL l)).length
 | []=>by simp
 | x::r=>by
  have h1:=NU r;have a:=putN_pos x.f.toNat;simp only [hosL,pl_append,Ah,Al];have:1<=(pl x.il).length:=by simp only [Hos.il,pl,Ah];omega
  omega
def fV{n:Int}(a:0<=n)(h:n<=1099511627777)(s:ay)(hs:n<=s.length):dE (putN n.toNat++s)=some (n,s):=by unfold dE;rw [aX a h];dsimp only;rw [if_pos (by simpa using hs)]
def aBH:∀ (l:bb) (a:bb) (s:ay),uR l=true->rN l.length a (pl (nodL l)++s)=rHs (a++l) s
 | [],a,s,_=>by simp [rN,nodL,pl]
 | x::r,a,s,h=>by
  simp only [uR,Ad] at h;have e:pl (nodL (x::r))++s=pl x.il++(pl (nodL r)++s):=by simp [nodL,pl_append]
  rw [e,Al];unfold rN;rw [aBG h.1];dsimp only;rw [aBH r (a++[x]) s h.2];simp
def CC(ns:bb):∀ (l:List Hos) (a:List Hos) (s:ay),qQ l=true->rH ns l.length a (pl (hosL l)++s)=aF9 ns (a++l) s
 | [],a,s,_=>by simp [rH,hosL,pl]
 | x::r,a,s,h=>by
  simp only [qQ,Ad] at h;have e:pl (hosL (x::r))++s=pl x.il++(pl (hosL r)++s):=by simp [hosL,pl_append]
  rw [e,Al];unfold rH;rw [vW h.1];dsimp only;rw [CC ns r (a++[x]) s h.2];simp
def L6{c:Con}(h:c.tok=true)(f:c.ns.length<=12)(j:c.hs.length<=24)(s:ay):E0 (pl c.il++s)=some (c,s):=by
 simp only [Con.tok,Ad] at h;obtain ⟨⟨h1,d⟩,h3⟩:=h;have a:=okI_b h3 c.half s_;have b:=okI_b h3 c.age s_;have l1:(nav c.ns).length=c.ns.length:=by simp
 have l2:(hav c.hs).length=c.hs.length:=by simp
 have g:=MZ c.ns;have i:=NU c.hs;have e:pl c.il++s=putN ((nav c.ns).length:Int).toNat++(pl (nodL c.ns)++(putN ((hav c.hs).length:Int).toNat++(pl (hosL c.hs)++(putN c.half.toNat++(putN c.age.toNat++s))))):=by simp [pl,pl_append,Con.il]
 rw [e];unfold E0;rw [fV o_ o_ _ (by simp only [Ah];omega)];dsimp only;rw [Bn,l1,aBH c.ns [] _ h1];unfold rHs;rw [fV o_ o_ _ (by simp only [Ah];omega)];dsimp only;rw [Bn,l2,CC _ c.hs [] _ d];unfold aF9;rw [aX a.1 o_];dsimp only;rw [aX b.1 o_];simp
def aEf{c:Con}(h:c.non=true):c=Con.zero:=by
 simp only [Con.non,Ad,beq_iff_eq] at h;obtain ⟨⟨⟨h1,b⟩,h3⟩,d⟩:=h;obtain ⟨ns,hs,half,age⟩:=c;dsimp only at h1 b h3 d;have f:ns=[]:=by cases ns with | nil=>rfl | cons a l=>simp at h1;omega
 have e:hs=[]:=by cases hs with | nil=>rfl | cons a l=>simp at b;omega
 subst f e h3 d;rfl
def N3{g:Gan}(h:g.isZ=true):g=Gan.zero:=Gan.eqb_eq.1 h
def rCmd_put{x:Cmd}(T:Told x):E1 (pl x.il)=some (x,[]):=by
 obtain ⟨k,c,g,n⟩:=x;have l1:(nav c.ns).length=c.ns.length:=by simp
 have l2:(hav c.hs).length=c.hs.length:=by simp
 have p:((nav c.ns).length:Int)<=12:=T.ln;have m:((hav c.hs).length:Int)<=24:=T.lh;have r:1<=k/\k<=6:=T.k;have j:k=1\/c.non=true:=T.c;have i:k=2\/g.isZ=true:=T.g;have d:(k=3\/k=4\/k=5)\/n=0:=T.n;have h:0<=n/\n<=1099511627776:=T.nok;have cok:c.tok=true:=T.cok;have gok:g.ok=true:=T.gok;clear T;have e:pl (Cmd.il ⟨k,c,g,n⟩)=putN k.toNat++pl (if k==1 then c.il else if k==2 then g.il else if k==6 then [] else [n]):=rfl;rw [e];unfold E1;rw [aX o_ o_];dsimp only;rcases j with rfl | f
 .have b:g=Gan.zero:=N3 (i.resolve_left o_);have a:n=0:=d.resolve_left o_;subst b a;have:=L6 cok o_ o_ [];rw [Au] at this;simp only [beq_self_eq_true,if_true];rw [this]
 .have f:c=Con.zero:=aEf f;subst f;rcases i with rfl | b
  .have a:n=0:=d.resolve_left o_;subst a;have:=nY gok [];exact zqca30
  .have b:g=Gan.zero:=N3 b;subst b;have one:bL (pl [n])=some (n,[]):=aX h.1 o_ [];have q:(match bL (pl [n]) with | none=>none | some (n,s)=>some ((⟨3,Con.zero,Gan.zero,n⟩:Cmd),s))=some (⟨3,Con.zero,Gan.zero,n⟩,[]):=by rw [one]
   have l:(match bL (pl [n]) with | none=>none | some (n,s)=>some ((⟨4,Con.zero,Gan.zero,n⟩:Cmd),s))=some (⟨4,Con.zero,Gan.zero,n⟩,[]):=by rw [one]
   have o:(match bL (pl [n]) with | none=>none | some (n,s)=>some ((⟨5,Con.zero,Gan.zero,n⟩:Cmd),s))=some (⟨5,Con.zero,Gan.zero,n⟩,[]):=by rw [one]
   have t:k=1\/k=2\/k=3\/k=4\/k=5\/k=6:=o_;rcases t with rfl | rfl | rfl | rfl | rfl | rfl
   .have a:n=0:=d.resolve_left o_;subst a;have:=L6 (c:=Con.zero) rfl d_ d_ [];rw [Au] at this;simp only [beq_self_eq_true,if_true];rw [this]
   .have a:n=0:=d.resolve_left o_;subst a;have:=nY (g:=Gan.zero) rfl [];exact zqca30
   .exact q
   .exact l
   .exact o
   .have a:n=0:=d.resolve_left o_;subst a;rfl
def dec_enc{x:Cmd}(h:chk x=0):decX (encB x)=x/\decE (encB x)=0:=by
 have e:encB x=pl x.il:=if_pos h;have hd:dec (encB x)=some x:=by unfold dec;rw [e,rCmd_put (chk_told h)];exact if_pos ⟨rfl,h⟩
 unfold decX decE;rw [hd];exact ⟨rfl,rfl⟩
end Go.Proofs.YtbpccabomgalhaaGreatDoor.C8
namespace Go.Proofs.YtbpccabomgalhaaGreatDoor.SW
open Go Go.AW Go.Proofs Go.RowKit
set_option maxRecDepth 100000
set_option maxHeartbeats 2000000
abbrev tWr:TypeId:=272
def wE:liesAt Tryz.prog Tryz.prog.depth tWr (2 / Tryz.prog.cellsOf tWr) 0 270 1=true:=by kernel_rfl
def vP:(Tryz.prog.info? 270).map (·.size)=some 2:=by kernel_rfl
def K7:Tryz.prog.underlying 268=some (.pointer 270):=by kernel_rfl
def K6:Tryz.prog.underlying 328=some .unsafePointer:=by kernel_rfl
def OA:Tryz.prog.funcs[244]? =some Tryz.f244:=by kernel_rfl
def gB(b:Nat)(w:World)(h:w.cell? ⟨b,0,none⟩=some (.pointer none))(a:w.shape? b=some (tWr,2))(g:w.frozen? ⟨b,0,none⟩=false):
  Calls Tryz.prog 204 #[.pointer (some ⟨b,0,none⟩)] w λ e w'=>e= .returned (.tuple #[])/\w'=w.setCell ⟨b,0,none⟩ (.pointer (some ⟨b,0,none⟩)):=by
 obtain ⟨j,d,c⟩:=Cb.1 vP
 go_enter Tryz.func204,Tryz.ntmps204
 go_wp2
 rw [Lib.run_to_unsafe w ⟨b,0,none⟩ K7 K6 d (by rw [c];decide) a (Lr 1)];simp only [Eb];rw [Oper.upon_value]
 go_wp2
 rw [run_callFunc_extern OA (by kernel_rfl) (by kernel_rfl) (by kernel_rfl) (e:=Extern.AbiNoEscape.same) (by kernel_rfl)];rw [Lib.run_noEscape];simp only [Eb];rw [Oper.upon_value]
 go_wp2
 rw [Lib.run_from_unsafe w ⟨b,0,none⟩ K6 K7 d a wE];simp only [Eb];rw [Oper.upon_value]
 go_wp2
 go_end0;exact ⟨rfl,rfl⟩
def aAw:Tryz.prog.underlying 323=some (.pointer 5):=by kernel_rfl
def aEt:Tryz.prog.cellsOf 5=1:=by kernel_rfl
def nR(b g cap:Nat)(p:Value)(a:Array Value)(l:ay)(w:World)(k:w.heap[b]? =some (.cells #[p,.slice (some ⟨g,0,none⟩) l.length cap] tWr (0,0)))(r:w.heap[g]? =some (.cells a 5 (0,0)))(n:l≠[])
  (o:l.length<=cap) (m:cap<=maxLen) (v:a.size=cap) (c:∀ (j:Nat) x,l[j]? =some x->w.cell? ⟨g,j,none⟩=some (.int .u8 x.toNat)):
  Calls Tryz.prog 152 #[.pointer (some ⟨b,0,none⟩)] w λ e w'=>e= .returned (.string ⟨l.toArray⟩)/\H4 g l.length w w':=by
 have h:l.length≠0:=by simpa using n
 have y:w.drew.cell? ⟨b,1,none⟩=some (.slice (some ⟨g,0,none⟩) l.length cap):=by exact zqca31
 have s:(Iq #[195] 323 #[.slice (some ⟨g,0,none⟩) l.length cap]).run Tryz.prog w.drew= .ok (.pointer (some ⟨g,0,none⟩)) w.drew:=
  Lib.run_unsafeSliceData_row _ _ _ _ _ _ o_
 have u:(Jn #[323,3] 9 #[.pointer (some ⟨g,0,none⟩),.int .i64 l.length]).run Tryz.prog w.drew= .ok (.string ⟨l.toArray⟩) (w.drew.freeze ⟨g,0,none⟩ l.length):=by exact zqca13
 have d:Tryz.prog.follows Departure.mixedOrders=true:=hE.mix
 go_enter Tryz.func152,Tryz.ntmps152
 go_wp2
 go_region_o
 all_goals (go_wp2;go_ret;exact ⟨rfl,RF h⟩)
def cc_fresh(s:aa):aq 204 [.ref 0 0] [.cells tWr [.nilptr,s]] (.ret (.tup [])) [.cells tWr [.ref 0 0,s]]:=
 nN (λ_ _=>by rfl) gB s
def str_ok(l:ay)(a:l≠[])(p:aa):aq 152 [.ref 0 0] [.cells tWr [p,.slice 1 (l.map ub) (.own 1 0)],.tail 0 1 5] (.ret (.str l)) [.dead,.dead]:=
 lZ (λ_ _=>by rfl) nR l a p
open Go Go.AW Go.Proofs
open C8 (pl putN put_ok pn_len)
set_option maxRecDepth 10000
abbrev wrO(bs:ay)(g:Nat):au:=[.cells tWr [.ref 0 0,.slice 1 (bs.map ub) (.own 1 g)],.tail g 1 5]
def KG(xs:ax):aq 204 [.ref 0 0] [.cells tWr [.ref 0 0,.slice 1 xs (.own 1 0)],.tail 0 1 5] (.ret (.tup [])) [.cells tWr [.ref 0 0,.slice 1 xs (.own 1 0)],.tail 0 1 5]:=by
 refine cT (E:=E) (fn:=Tryz.f204) (g:=.full 2 _ _) λ_=>?_
 repeat' first | (refine gN hE ?_;conv=>whnf) | exact rfl | refine zt ?_ | refine zu ?_ ?_ | intro h | fail
 exact zx [0,1]
def uW(s:ay)(hs:s.length<=1000):aq 149 [.ref 0 0,.str s] [.cells tWr [.nilptr,.slice 1 [] .nil]] (.ret (.tup [ii s.length,.nilif])) (wrO s 0):=by exact zqca11
def ws_ok(bs s:ay)(hs:bs.length+s.length<=1000000):aq 149 [.ref 0 0,.str s] (wrO bs 0) (.ret (.tup [ii s.length,.nilif])) (wrO (bs++s) 1):=by exact zqca8
noncomputable abbrev OB:Func:=Tryz.f148
def xT(l:aw)(hl:((iv l).length:Int)<=9223372036854775807)(u:∀ n∈l,n<=9223372036854775807)(B:ay)(m:Nat)(o:10*l.length<=1000):∀ (n i g:Nat) (bs:ay),i+n=l.length->(g=0\/g=1)->(n=0->g=m)->(0<n->m=1)->bs.length+10*n<=100000->bs++pl (l.drop i)=B->
  To E OB (.full 2 (.ret (.tup [])) (wrO B m)) (.head (stk OB 0) [(0,.ref 0 0),(6,.slice 1 (iv l) .no),(7,.int .i64 ((iv l).length:Nat)),(8,.int .i64 i)] (wrO bs g)):=by
 have t:(iv l).length=l.length:=by simp
 intro n;induction n with
 | zero=>
  exact zqca10
 | succ n s=>
  intro i g bs q f _ j k a;have p:=j o_;subst p;have b:i<l.length:=o_;rw [Ag b] at a;have c:=u l[i] (Bd b);generalize r:l[i]=x at a c;have a:bs++(putN x.toNat++pl (l.drop (i+1)))=B:=a;rw [<-Ae] at a;have get:(iv l)[i]? =some (ii x):=(gM b).trans (by rw [r]);have hp:=pn_len c;refine gV ?_;refine aT λ h=>gV ?_;refine ⟨i,rfl,gV ?_⟩;refine ⟨_,get,gV ?_⟩;refine .pure _ [] (C8.put_ok x) ?_;exact zqca5
def nums_ok(l:aw)(d:l≠[])(c:∀ n∈l,n<=9223372036854775807)(b:l.length<=100)(bs:ay)(e:bs.length+10*l.length<=100000):
  aq 148 [.ref 0 0,.slice 1 (iv l) .no] (wrO bs 0) (.ret (.tup [])) (wrO (bs++pl l) 1):=by
 have i:(iv l).length=l.length:=by simp
 have a:0<l.length:=Dw.2 d;refine cT (E:=E) (fn:=Tryz.f148) (g:=.full 2 _ _) λ_=>?_;exact zqca25
def nums_fresh(k:Int)(a:k<=9223372036854775807):aq 148 [.ref 0 0,.slice 1 [ii k] .no] [.cells tWr [.nilptr,.slice 1 [] .nil]] (.ret (.tup [])) (wrO (putN k.toNat) 0):=by have hp:=pn_len a;refine cT (E:=E) (fn:=Tryz.f148) (g:=.full 1 _ _) λ_=>gV ?_;refine gV ?_;refine Ab (λ_=>?_) (λ h=>absurd (of_decide_eq_false h) s_);refine gV ?_;refine ⟨0,rfl,gV ?_⟩;refine ⟨_,rfl,gV ?_⟩;refine .pure _ [] (C8.put_ok k) (gV ?_);refine .sole rfl (.eff [] [0] _ _ rfl (uW _ o_) ?_);exact zqca6
end Go.Proofs.YtbpccabomgalhaaGreatDoor.SW
namespace Go.Proofs.YtbpccabomgalhaaGreatDoor
open Go Go.AW Go.Proofs
set_option maxRecDepth 10000
def G8(x i:Nat):UInt8:=Dt (x / 2 ^ (8*i) % 256)
def E6(x i:Nat):ay:=(Dr i).map (G8 x)
def wS(x:Nat):ay:=E6 x 8
def kA(x i:Nat):(E6 x i).length=i:=by simp [E6]
def G7(x i:Nat):E6 x (i+1)=E6 x i++[G8 x i]:=by simp [E6,Mh]
def aNV(x i:Nat):IntKind.u8.wrap ((x:Int).fdiv (2 ^ (8*i)))=((((G8 x i).toNat:Nat)):Int):=by
 rw [Dy _ (by exact Int.le_of_lt (Int.pow_pos d_))];have:(x:Int) / 2 ^ (8*i)=((x / 2 ^ (8*i):Nat):Int):=by simp
 rw [this,H5,G8,Gr,Nat.mod_mod]
noncomputable abbrev fPF:Func:=Tryz.f150
def X7(x:Nat):∀ (m i:Nat) (row:ax),i+m=8->row=(E6 x i).map ub++Aj m (.int .u8 0)->
  To E fPF (.pure (.ret (.str (wS x)))) (.head (stk fPF 0) [(0,.int .u64 x),(3,.row 0 0),(7,.int .i64 8),(8,.int .i64 i)] [.row 0 1 5 row]):=by
 intro m;induction m with
 | zero=>
  intro i row d a;have e:i=8:=o_;subst e;subst a;refine gV ?_;refine aF λ h=>gV ?_;refine Ao (E6 x 8) (Ab s_ (Ab (by simp [kA]) (gV ?_)));rfl
 | succ m g=>
  intro i row d a;have b:row.length=8:=by rw [a];simp [kA];omega
  have f:(8*(i:Int)).toNat=8*i:=o_;have c:=aNV x i
  have next:=g (i+1) (row.set i (ub (G8 x i))) o_ (by
   rw [a,G7,Bk,Gt _ _ (by simp [kA])]
   simp [kA,Ku])
  refine gV ?_;refine aT λ h=>?_
  repeat' first | (refine gN hE ?_;conv=>whnf) | refine @Kl (inR IntKind.u8 _/\_) _ ?_ | refine aJ ?_ | refine Ab (Ab (show (0:Int)<=8*(i:Int) by omega) (show (8*(i:Int)).toNat<=64 by omega)) ?_ | refine ⟨i,rfl,?_⟩ | refine Ab (show i<row.length by omega) ?_ | exact rfl | refine zt ?_ | refine zu ?_ ?_ | intro h | fail
  refine To.part [0,3,7,8] [0] rfl rfl rfl ?_;rw [f,c];exact next
def aGp(x:Nat):aq 150 [.int .u64 x] [] (.ret (.str (wS x))) []:=by
 have next:=X7 x 8 0 (Aj 8 (.int .u8 0)) rfl rfl
 refine c_ Tryz.f150 λ_=>?_
 repeat' first | (refine gN hE ?_;conv=>whnf) | exact rfl | refine zt ?_ | refine zu ?_ ?_ | intro h | fail
 refine To.part [0,3,7,8] [0] rfl rfl rfl ?_;exact next
end Go.Proofs.YtbpccabomgalhaaGreatDoor
namespace Go.Proofs.YtbpccabomgalhaaGreatDoor.C8
open Go Go.AW Go.Proofs
set_option maxRecDepth 10000
def MT(a b c:Int)(e:a<=9223372036854775807)(d:b<=9223372036854775807)(i:c<=9223372036854775807):aq 196 [.ref 0 0,.slice 1 [ii a,ii b,ii c] .no] [.cells tWr [.nilptr,.slice 1 [] .nil]] (.ret (.tup [])) (wrO (putN a.toNat++putN b.toNat++putN c.toNat) 0):=by have l:=pn_len e;have j:=pn_len d;have k:=pn_len i;refine cT (E:=E) (fn:=Tryz.f196) (g:=.full 1 _ _) λ_=>gV ?_;refine gV ?_;refine Ab (λ_=>?_) (λ h=>absurd (of_decide_eq_false h) s_);refine gV ?_;refine ⟨0,rfl,gV ?_⟩;refine ⟨_,rfl,gV ?_⟩;refine .pure _ [] (put_ok _) (gV ?_);refine .sole rfl (.eff [] [0] _ _ rfl (uW _ o_) (gV ?_));refine aJ (gV ?_);refine gV ?_;refine Ab (λ_=>?_) (λ h=>absurd (of_decide_eq_false h) s_);refine gV ?_;refine ⟨1,rfl,gV ?_⟩;refine ⟨_,rfl,gV ?_⟩;refine .pure _ [] (put_ok _) (gV ?_);refine .sole rfl (.eff [] [0,1] _ _ rfl (ws_ok _ _ o_) (gV ?_));refine aJ (gV ?_);refine gV ?_;refine Ab (λ_=>?_) (λ h=>absurd (of_decide_eq_false h) s_);refine gV ?_;refine ⟨2,rfl,gV ?_⟩;refine ⟨_,rfl,gV ?_⟩;refine .pure _ [] (put_ok _) (gV ?_);refine .sole rfl (.eff [] [0,1] _ _ rfl (ws_ok _ _ q_) ?_);exact zqca6
def KX(g:Gan)(h:g.ok=true):aq 198 [.ref 0 0,g.av] [.cells tWr [.nilptr,.slice 1 [] .nil]] (.ret (.tup [])) (wrO (pl g.il) 0):=by
 obtain ⟨h1,c,h3⟩:=gan_b h;have a:=l3_m h1 g.id s_;have b:=l3_m h1 g.ten s_;have d:=l3_m h1 g.pods s_;have k:=pn_len a;have i:=pn_len b;have j:=pn_len d;have l2:=pl_len (v3_m c);simp only [V3.l,Al,Br] at l2;have e:pl g.il=(putN g.id.toNat++putN g.ten.toNat++putN g.pods.toNat)++pl g.need.l++pl [g.run,g.lev,g.pref]:=by simp [pl,Gan.il,V3.l]
 rw [e];refine cT (E:=E) (fn:=Tryz.f198) (g:=.full 1 _ _) λ_=>gV ?_;refine .eff [] [0] _ _ rfl (aA.strip (MT g.id g.ten g.pods a b d)) (gV ?_);refine .eff [] [0,2] _ _ rfl (sD g.need c _ q_) (gV ?_);refine .eff [] [0,2] _ _ rfl (aA.strip (nums_ok [g.run,g.lev,g.pref] s_ (l3_m h3) s_ _ (by simp [V3.l];omega))) ?_;refine gV ?_;refine ⟨[],[0,2],⟨rfl,rfl⟩,?_⟩;exact ⟨rfl,rfl⟩
def pg_ok(g:Gan)(h:g.ok=true):aq 151 [g.av] [] (.ret (.str (pl g.il))) []:=by have a:pl g.il≠[]:=pl_ne _ _;refine c_ Tryz.f151 λ_=>gV ?_;refine .eff [] [1] _ _ rfl (KX g h) (gV ?_);refine .eff [] [1,2] _ _ rfl (str_ok _ a _) ?_;refine gW hE ?_;conv=>whnf
end Go.Proofs.YtbpccabomgalhaaGreatDoor.C8
namespace Go.Proofs.YtbpccabomgalhaaGreatDoor
open Go Go.AW Go.Proofs
set_option maxRecDepth 10000
def Sta.cmd(s:Sta):Cmd:=⟨1,s.c,Gan.zero,0⟩
def mG(s:Sta):ay:=C8.encB s.cmd
def yC:az->ay
 | []=>[]
 | x::r=>wS x++yC r
def tC:a7->ay
 | []=>[]
 | x::r=>(C8.pl x.g.il++C8.pl [x.seq,x.at'])++tC r
def pD:a6->ay
 | []=>[]
 | x::r=>(C8.pl x.g.il++C8.pl [x.seq,x.at',x.st,x.fl]++C8.pl x.hs)++pD r
def cW(s:Sta):ay:=C8.putN (mG s).length++mG s++C8.pl [s.now,s.nxt,(s.hist.length:Int)]++yC s.hist++C8.pl [(s.pend.length:Int)]++tC s.pend++C8.pl [(s.run.length:Int)]++pD s.run
structure Wr(s:Sta):Prop where
 con:(mG s).length<=10000
 nums:0<=s.now/\s.now<=1099511627776/\0<=s.nxt/\s.nxt<=1099511627776
 his:s.hist.length<=100
 pen:s.pend.length<=32
 run:s.run.length<=32
 pg:∀ x∈s.pend,x.g.ok=true/\okI [x.seq,x.at']=true
 rg:∀ x∈s.run,x.g.ok=true/\okI [x.seq,x.at',x.st,x.fl]=true/\okI x.hs=true/\x.hs≠[]/\x.hs.length<=16
noncomputable abbrev OF:Func:=Tryz.f95
abbrev enO(bs:ay)(g:Nat):au:=SW.wrO bs g
def wM(g:Gan)(h:g.ok=true):(C8.pl g.il).length<=90:=by
 obtain ⟨h1,a,h3⟩:=C8.gan_b h;have l1:=C8.pl_len (C8.l3_m h1);have l2:=C8.pl_len (C8.v3_m a);have b:=C8.pl_len (C8.l3_m h3);have e:C8.pl g.il=C8.pl [g.id,g.ten,g.pods]++C8.pl g.need.l++C8.pl [g.run,g.lev,g.pref]:=by simp [C8.pl,Gan.il,V3.l]
 simp only [V3.l,Al,Br] at l1 l2 b;rw [e,Ah,Ah];simp only [V3.l];omega
def nH{l:aw}(h:okI l=true):∀ n∈l,n<=9223372036854775807:=λ n a=>by have:=C8.okI_b h n a;omega
def aHR(s:Sta)(w:Wr s)(B:ay)(e:B≠[]):∀ (m i:Nat) (bs:ay),i+m=s.run.length->bs.length+300*m<=40000->bs++pD (s.run.drop i)=B->
  To E OF (.pure (.ret (.tup [.str B,ii 0]))) (.head (stk OF 2) [(7,.ref 0 0),(97,.slice 14 (rav s.run) .no),(98,.int .i64 ((rav s.run).length:Nat)),(99,ii (i:Int))] (enO bs 0)):=by
 have l:(rav s.run).length=s.run.length:=by simp
 have o:=w.run;intro m;induction m with
 | zero=>
  intro i bs n j a;rw [Ai o_] at a;have a:bs++[]=B:=a;rw [Au] at a;subst a;refine gV ?_;refine aF λ h=>gV ?_;refine .eff [] [0,1] _ _ rfl (SW.str_ok _ e _) ?_;refine gW hE ?_;conv=>whnf
 | succ m r=>
  intro i bs n j a;have b:i<s.run.length:=o_;rw [Ag b] at a;have get:=eX b;obtain ⟨f,d,c,k,q⟩:=w.rg s.run[i] (Bd b);generalize s.run[i]=x at a get f d c k q;have a:bs++((C8.pl x.g.il++C8.pl [x.seq,x.at',x.st,x.fl]++C8.pl x.hs)++pD (s.run.drop (i+1)))=B:=a;rw [<-Ae,<-Ae,<-Ae] at a;have l1:=wM x.g f;have l2:=C8.pl_len (nH d);have t:=C8.pl_len (nH c);simp only [Al,Br] at l2;have hp:=C8.pg_ok x.g f;have h1:=SW.ws_ok bs (C8.pl x.g.il) o_;have p:=SW.nums_ok [x.seq,x.at',x.st,x.fl] s_ (nH d) s_ (bs++C8.pl x.g.il) q_;have h3:=SW.nums_ok x.hs k (nH c) o_ (bs++C8.pl x.g.il++C8.pl [x.seq,x.at',x.st,x.fl]) (by simp only [Ah];omega);have next:=r (i+1) _ o_ (by simp only [Ah];omega) a
  refine gV ?_;refine aT λ h=>gV ?_;refine ⟨i,rfl,gV ?_⟩;refine ⟨_,get,gV ?_⟩;refine .pure _ [] hp (gV ?_);refine .sole rfl (.eff [] [0,1] _ _ rfl h1 (gV ?_));refine .eff [] [0,1] _ _ rfl (aA.strip p) (gV ?_);refine .eff [] [0,1] _ _ rfl h3 (gV ?_);refine aJ (gV ?_);refine To.part [7,97,98,99] [0,1] rfl rfl rfl ?_;exact next
def aHS(s:Sta)(w:Wr s)(B:ay)(e:B≠[]):∀ (m i:Nat) (bs:ay),i+m=s.pend.length->bs.length+150*m<=20000->bs++tC (s.pend.drop i)++(C8.pl [(s.run.length:Int)]++pD s.run)=B->
  To E OF (.pure (.ret (.tup [.str B,ii 0]))) (.head (stk OF 1) [(1,.ptr s.cs),(7,.ref 0 0),(69,.slice 11 (pnv s.pend) .no),(70,.int .i64 ((pnv s.pend).length:Nat)),(71,ii (i:Int))] (enO bs 0)):=by
 have k:(pnv s.pend).length=s.pend.length:=by simp
 have c:(rav s.run).length=s.run.length:=by simp
 have l:=w.pen;have t:=w.run;intro m;induction m with
 | zero=>
  intro i bs o j a;rw [Ai o_] at a;have a:bs++[]++(C8.pl [(s.run.length:Int)]++pD s.run)=B:=a;rw [Au,<-Ae] at a;have hm:∀ n∈[(s.run.length:Int)],n<=9223372036854775807:=λ n p=>by simp at p;omega
  have l1:=C8.pl_len hm;simp only [Al,Br] at l1;have h1:=SW.nums_ok [(s.run.length:Int)] s_ hm s_ bs q_;have next:=aHR s w B e s.run.length 0 (bs++C8.pl [(s.run.length:Int)]) o_ (by rw [Ah];omega) a
  rw [<-c] at h1;rw [<-c] at next
  refine gV ?_;refine aF λ h=>gV ?_;refine .eff [] [0,1] _ _ rfl (aA.strip h1) (gV ?_);refine To.part [7,97,98,99] [0,1] rfl rfl rfl ?_;exact next
 | succ m r=>
  intro i bs o j a;have b:i<s.pend.length:=o_;rw [Ag b] at a;have get:=I3 b;obtain ⟨f,d⟩:=w.pg s.pend[i] (Bd b);generalize s.pend[i]=x at a get f d;have a:bs++((C8.pl x.g.il++C8.pl [x.seq,x.at'])++tC (s.pend.drop (i+1)))++(C8.pl [(s.run.length:Int)]++pD s.run)=B:=a;rw [<-Ae bs,<-Ae bs] at a;have l1:=wM x.g f;have l2:=C8.pl_len (nH d);simp only [Al,Br] at l2;have hp:=C8.pg_ok x.g f;have h1:=SW.ws_ok bs (C8.pl x.g.il) o_;have q:=SW.nums_ok [x.seq,x.at'] s_ (nH d) s_ (bs++C8.pl x.g.il) q_;have next:=r (i+1) _ o_ (by simp only [Ah];omega) a
  refine gV ?_;refine aT λ h=>gV ?_;refine ⟨i,rfl,gV ?_⟩;refine ⟨_,get,gV ?_⟩;refine .pure _ [] hp (gV ?_);refine .sole rfl (.eff [] [0,1] _ _ rfl h1 (gV ?_));refine .eff [] [0,1] _ _ rfl (aA.strip q) (gV ?_);refine aJ ?_;exact zqca41
def aK6{l:az}{i:Nat}(h:i<l.length):(fv l)[i]? =some (.int .u64 (l[i]:Int)):=by simp [fv,h]
def aHT(s:Sta)(w:Wr s)(B:ay)(d:B≠[]):∀ (m i:Nat) (bs:ay),i+m=s.hist.length->bs.length+8*m<=15000->bs++yC (s.hist.drop i)++(C8.pl [(s.pend.length:Int)]++(tC s.pend++(C8.pl [(s.run.length:Int)]++pD s.run)))=B->
  To E OF (.pure (.ret (.tup [.str B,ii 0]))) (.head (stk OF 0) [(1,.ptr s.cs),(7,.ref 0 0),(49,.slice 1 (fv s.hist) .no),(50,.int .i64 ((fv s.hist).length:Nat)),(51,ii (i:Int))] (enO bs 0)):=by
 have f:(fv s.hist).length=s.hist.length:=by simp
 have b:(pnv s.pend).length=s.pend.length:=by simp
 have g:=w.pen;have l:=w.his;intro m;induction m with
 | zero=>
  intro i bs j e a;rw [Ai o_] at a;have a:bs++[]++(C8.pl [(s.pend.length:Int)]++(tC s.pend++(C8.pl [(s.run.length:Int)]++pD s.run)))=B:=a;rw [Au,<-Ae,<-Ae] at a;have hm:∀ n∈[(s.pend.length:Int)],n<=9223372036854775807:=λ n k=>by simp at k;omega
  have l1:=C8.pl_len hm;simp only [Al,Br] at l1;have h1:=SW.nums_ok [(s.pend.length:Int)] s_ hm s_ bs q_;have next:=aHS s w B d s.pend.length 0 (bs++C8.pl [(s.pend.length:Int)]) o_ (by rw [Ah];omega) a
  rw [<-b] at h1;rw [<-b] at next
  refine gV ?_;refine aF λ h=>gV ?_;refine .eff [] [0,1] _ _ rfl (aA.strip h1) ?_;exact zqca41
 | succ m o=>
  intro i bs j e a;have c:i<s.hist.length:=o_;rw [Ag c] at a;have get:=aK6 c;generalize s.hist[i]=x at a get;have a:bs++(wS x++yC (s.hist.drop (i+1)))++(C8.pl [(s.pend.length:Int)]++(tC s.pend++(C8.pl [(s.run.length:Int)]++pD s.run)))=B:=a;rw [<-Ae bs] at a;have l1:(wS x).length=8:=kA x 8;have hp:=aGp x;have h1:=SW.ws_ok bs (wS x) o_;have next:=o (i+1) _ o_ (by simp only [Ah];omega) a
  refine gV ?_;refine aT λ h=>gV ?_;refine ⟨i,rfl,gV ?_⟩;refine ⟨_,get,gV ?_⟩;refine .pure _ [] hp (gV ?_);refine .sole rfl (.eff [] [0,1] _ _ rfl h1 (gV ?_));refine aJ (gV ?_);refine To.part [1,7,49,50,51] [0,1] rfl rfl rfl ?_;exact next
def enB(s:Sta):au:=[.cells 31 s.cs]
def aLh(s:Sta):au:=[.fcells s.cs]
def aLg(s:Sta):aj [0] (enB s)=aLh s:=by kernel_rfl
def aHW(s:Sta):wP [1] (aB (aLh s)) [(1,.ref 0 0),(2,.str []),(3,ii 0)]=[(1,.ptr s.cs),(2,.str []),(3,ii 0)]:=by kernel_rfl
def aHV{g:Goal}{ks:bf}(s:Sta)(h:To E OF g (.code ks [(1,.ptr s.cs),(2,.str []),(3,ii 0)] (aLh s))):To E OF g (.code ks [(1,.ref 0 0),(2,.str []),(3,ii 0)] (enB s)):=by refine To.frz [1] [0] ?_;rw [aLg,aHW];exact h
def aLf(s:Sta):ay:=if mH s=true then cW s else []
def aFG(s:Sta)(p:s.c.sm)(hs:Sm s.run)(r:mH s=true->Wr s):aq 95 [s.av] [] (.ret (.tup [.str (aLf s),ii (if mH s=true then 0 else 1)])) []:=by
 have a:=FX s p hs;unfold aLf;cases d:mH s with
 | false=>
  rw [d] at a;have a:aq 147 [s.av] [] (.ret (ii 1)) []:=a;show aA _ _ _ _ (.ret (.tup [.str [],ii 1])) _;refine c_ Tryz.f95 λ_=>?_
  repeat' first | (refine gN hE ?_;conv=>whnf) | refine .pure _ [] a ?_ | exact rfl | refine zt ?_ | refine zu ?_ ?_ | intro h | fail
 | true=>
  rw [d] at a;have a:aq 147 [s.av] [] (.ret (ii 0)) []:=a;show aA _ _ _ _ (.ret (.tup [.str (cW s),ii 0])) _;have w:=r d;have j:aq 146 [s.cmd.av] [] (.ret (.tup [.str (mG s),ii (C8.chk s.cmd)])) []:=C8.enc_ok s.cmd;have b:(fv s.hist).length=s.hist.length:=by simp
  have m:=w.con;have l:=w.his;obtain ⟨n1,n2,t,v⟩:=w.nums;have h1:=SW.nums_fresh ((mG s).length:Int) o_;rw [Bn] at h1;have u:(C8.putN (mG s).length).length<=10:=by have:=C8.pn_len (n:=((mG s).length:Int)) o_;rw [Bn] at this;omega
  have k:=SW.ws_ok (C8.putN (mG s).length) (mG s) o_;have hm:∀ n∈[s.now,s.nxt,(s.hist.length:Int)],n<=9223372036854775807:=λ n o=>by simp at o;omega
  have q:=C8.pl_len hm;simp only [Al,Br] at q;have h3:=SW.nums_ok [s.now,s.nxt,(s.hist.length:Int)] s_ hm s_ (C8.putN (mG s).length++mG s) q_;have i:cW s≠[]:=by
   intro h;have:=congrArg Lh h;unfold cW at this;have e:C8.pl [s.now,s.nxt,(s.hist.length:Int)]≠[]:=C8.pl_ne _ _;have:=Dw.2 e;simp only [Ah,Br] at *
   omega
  have next:=aHT s w (cW s) i s.hist.length 0 (C8.putN (mG s).length++mG s++C8.pl [s.now,s.nxt,(s.hist.length:Int)]) o_ (by simp only [Ah];omega) (by unfold cW;simp only [Cg,Ae])
  rw [<-b] at h3;rw [<-b] at next
  generalize mG s=C at j h1 k h3 next
  generalize cW s=B at next
  generalize C8.chk s.cmd=ck at j;refine c_ Tryz.f95 λ_=>?_;refine cJ hE 13 ?_;conv=>whnf
  refine To.cutC [1,2,3] 1 rfl rfl rfl rfl ?_;refine aHV s (gV ?_);refine .pure _ [] a (gV ?_);refine Ab (λ h=>absurd h d_) (λ_=>gV ?_);refine .pure _ [] j (gV ?_);refine .eff [] [1] _ _ rfl (aA.strip h1) (gV ?_);refine .eff [] [1,2] _ _ rfl k (gV ?_);refine .eff [] [1,2] _ _ rfl (aA.strip h3) (gV ?_);refine To.part [1,7,49,50,51] [1,2] rfl rfl rfl ?_;exact next
open C8 (leN JK rO FP)
set_option maxRecDepth 10000
def JT(l:ay):aa:=if l.length<8 then .tup [.int .u64 0,.int .i64 0,.int .i64 10] else .tup [.int .u64 (leN (l.take 8)),.int .i64 8,.int .i64 0]
noncomputable abbrev fGF:Func:=Tryz.f302
def YW(l:ay)(hl:8<=l.length):∀ (f i:Nat),i+f=8->
  To E fGF (.pure (.ret (.tup [.int .u64 (leN (l.take 8)),.int .i64 8,.int .i64 0]))) (.head (stk fGF 0) [(0,.str l),(5,.int .u64 (leN (l.take i))),(10,.int .i64 i)] []):=by
 intro f;induction f with
 | zero=>
  intro i j;have e:i=8:=o_;subst e;refine gV ?_;refine aF λ h=>?_
  repeat' first | (refine gN hE ?_;conv=>whnf) | exact rfl | refine zt ?_ | refine zu ?_ ?_ | intro h | fail
 | succ f k=>
  intro i j
  obtain ⟨c,d⟩:∃ c,l[i]? =some c:=⟨l[i]' o_,Aa o_⟩
  have n:c.toNat<256:=c.toNat_lt;have a:=JK (l.take i);rw [Dl,Gh o_] at a;have q:2 ^ (8*(i+1))=256*2 ^ (8*i):=by rw [Gl,Fm];omega
  have o:c.toNat*2 ^ (8*i)<=255*2 ^ (8*i):=Bs _ o_;have p:2 ^ (8*(i+1))<=2 ^ 64:=Ek d_ o_;have b:(8*(i:Int)).toNat=8*i:=o_;have g:(c.toNat:Int)*2 ^ (8*i)=((c.toNat*2 ^ (8*i):Nat):Int):=by simp
  have m:dK .or .u64 (leN (l.take i):Int) ((c.toNat*2 ^ (8*i):Nat):Int)=((leN (l.take (i+1)):Nat):Int):=by rw [oK .u64 _ _ (by simp only [aW];omega) (by simp only [aW];omega),QT a,FP d,rO,Dl,Gh o_]
  have next:=k (i+1) o_
  refine gV ?_;refine aT λ h=>gV ?_;refine ⟨i,rfl,gV ?_⟩;refine ⟨c,d,gV ?_⟩;refine Fq (Ab (show inR IntKind.u64 (c.toNat:Int) from sR (by simp only [aW];omega)) ?_);refine gV ?_;refine aJ (gV ?_);refine Ab (show (0:Int)<=8*(i:Int) by omega) ?_;refine gV ?_;refine Fq (Ab (Ab (by rw [b];simp only [IntKind.bits];omega) (by rw [b,g];exact sR (by simp only [aW];omega))) ?_);refine gV ?_;rw [b,g,m];refine aJ (gV ?_);refine To.part [0,5,10] [] rfl rfl rfl ?_;exact next
def aHu(l:ay):aq 302 [.str l] [] (.ret (JT l)) []:=by
 unfold JT;by_cases h:l.length<8
 .rw [if_pos h];refine c_ Tryz.f302 λ_=>gV ?_;refine Ab (λ_=>?_) (λ h=>absurd (of_decide_eq_false h) o_)
  repeat' first | (refine gN hE ?_;conv=>whnf) | exact rfl | refine zt ?_ | refine zu ?_ ?_ | intro h | fail
 .rw [if_neg h];have next:=YW l o_ 8 0 rfl
  refine c_ Tryz.f302 λ_=>gV ?_;refine Ab (λ h=>absurd (of_decide_eq_true h) o_) (λ_=>?_)
  repeat' first | (refine gN hE ?_;conv=>whnf) | exact rfl | refine zt ?_ | refine zu ?_ ?_ | intro h | fail
  refine To.part [0,5,10] [] rfl rfl rfl ?_;exact next
open C8 (leN bL dE rGan rdO rdU pE xS aV aK bE bM lX jF A3 vT bN eM tRd)
set_option maxRecDepth 10000
abbrev RSt:Type:=Option ((Sta×Bool)×ay)
def Con.nil:Con:=⟨[],[],0,0⟩
def Sta.nil:Sta:=⟨Con.nil,0,0,[],[],[]⟩
def vX:Nat->aw->ay->Option (aw×ay)
 | 0,hs,s=>some (hs,s)
 | m+1,hs,s=>match bL s with
  | none=>none
  | some (h,s)=>vX m (hs++[h]) s
def rR(c:Con)(now nxt:Int)(d:az)(b:a7):Nat->a6->ay->RSt
 | 0,rs,s=>some ((⟨c,now,nxt,b,rs,d⟩,s==[]),s)
 | m+1,rs,s=>match rGan s with
  | none=>none
  | some (g,s)=>match bL s with
   | none=>none
   | some (q,s)=>match bL s with
        | none=>none
        | some (a,s)=>match bL s with
         | none=>none
         | some (t,s)=>match bL s with
          | none=>none
          | some (f,s)=>if decide ((s.length:Int)<g.pods)=true then some ((⟨c,now,nxt,b,rs,d⟩,false),s) else match vX g.pods.toNat [] s with
           | none=>none
           | some (hs,s)=>rR c now nxt d b m (rs++[⟨g,q,a,t,f,hs⟩]) s
def rRs(c:Con)(now nxt:Int)(b:az)(a:a7)(s:ay):RSt:=match dE s with
 | none=>none
 | some (n,s)=>rR c now nxt b a n.toNat [] s
def rP(c:Con)(now nxt:Int)(b:az):Nat->a7->ay->RSt
 | 0,ps,s=>rRs c now nxt b ps s
 | m+1,ps,s=>match rGan s with
  | none=>none
  | some (g,s)=>match bL s with
   | none=>none
   | some (q,s)=>match bL s with
        | none=>none
        | some (a,s)=>rP c now nxt b m (ps++[⟨g,q,a⟩]) s
def rPs(c:Con)(now nxt:Int)(a:az)(s:ay):RSt:=match dE s with
 | none=>none
 | some (n,s)=>rP c now nxt a n.toNat [] s
def rH(c:Con)(now nxt:Int):Nat->az->ay->RSt
 | 0,hi,s=>rPs c now nxt hi s
 | m+1,hi,s=>if s.length<8 then some ((⟨c,now,nxt,[],[],hi⟩,false),s) else rH c now nxt m (hi++[leN (s.take 8)]) (s.drop 8)
def rB(c:Con)(s:ay):RSt:=match bL s with
 | none=>none
 | some (now,s)=>match bL s with
  | none=>none
  | some (nxt,s)=>match dE s with
   | none=>none
   | some (n,s)=>rH c now nxt n.toNat [] s
def rSt(s:ay):RSt:=match dE s with
 | none=>none
 | some (n,s)=>match C8.dec (s.take n.toNat) with
  | none=>some ((Sta.nil,false),s)
  | some x=>if x.k=1 then rB x.c (s.drop n.toNat) else some ((Sta.nil,false),s)
def stR(p:Sta×Bool):aa:=.tup [p.1.av,.bool p.2]
noncomputable abbrev fRd:Func:=Tryz.f278
abbrev reC(c:Con)(now nxt:Int)(p r h:aa):ax:=[.slice 11 (nav c.ns) .no,.slice 6 (hav c.hs) .no,ii c.half,ii c.age,ii now,ii nxt,p,r,h]
def IY{s s':ay}{g:Gan}(h:rGan s=some (g,s')):s'.length+1<=s.length/\0<=g.pods/\g.pods<=9223372036854775807:=by
 unfold C8.rGan at h;split at h
 .cases h
 .rename_i h1;split at h
  .cases h
  .rename_i d;split at h
   .cases h
   .rename_i h3;split at h
    .cases h
    .rename_i e;split at h
     .cases h
     .rename_i f;split at h
      .cases h
      .rename_i c;split at h
       .cases h
       .rename_i b;cases h;have i:=bN h1;have l:=bN d;have a:=bN h3;have m:=C8.rVec_b e;have n:=bN f;have k:=bN c;have j:=bN b;exact ⟨by omega,a.1,a.2.1⟩
abbrev reR(c:Con)(now nxt:Int)(hi:az)(ps:a7)(rs:a6)(s:ay):au:=[.cells tRd [.str s],.cells 31 (reC c now nxt (.slice 11 (pnv ps) .no) (.slice 14 (rav rs) (.own 2 0)) (.slice 1 (fv hi) .no)),.tail 0 14 48]
abbrev reG(g:Gan)(q a t f:Int)(x:aa):ax:=[ii g.id,ii g.ten,ii g.pods,ii g.need.a,ii g.need.b,ii g.need.c,ii g.run,ii g.lev,ii g.pref,ii q,ii a,ii t,ii f,x]
def aF0(c:Con)(now nxt:Int)(p:az)(v:a7)(b:a6)(A:b.length<=1000000)(n:Int)(i:Nat)(C:(i:Int)<9223372036854775807)(g:Gan)(q a t f:Int)(hp:0<=g.pods/\g.pods<=9223372036854775807)(r:Res)(O:au)(m:Nat)
  (x:∀ (hs:aw) (s:ay),s.length<=1000000->b.length+s.length+1<=1000000->hs.length<=1000000->pE stR (rR c now nxt p v m (b++[⟨g,q,a,t,f,hs⟩]) s)=r->xS (rR c now nxt p v m (b++[⟨g,q,a,t,f,hs⟩]) s)=O->
   To E fRd (.full 1 r O) (.head (stk fRd 2) [(0,.ref 0 0),(2,.ref 1 0),(99,.int .i64 n),(100,.int .i64 ((i:Int)+1))] (reR c now nxt p v (b++[⟨g,q,a,t,f,hs⟩]) s))):
  ∀ (k j:Nat) (s:ay) (hs:aw),(j+k:Int)=g.pods->hs.length+s.length<=1000000->b.length+s.length+1<=1000000->
   pE stR (match vX k hs s with | none=>none | some (hs,s)=>rR c now nxt p v m (b++[⟨g,q,a,t,f,hs⟩]) s)=r->xS (match vX k hs s with | none=>none | some (hs,s)=>rR c now nxt p v m (b++[⟨g,q,a,t,f,hs⟩]) s)=O->
  To E fRd (.full 1 r O) (.head (stk fRd 3) [(0,.ref 0 0),(2,.ref 1 0),(10,.ref 3 0),(99,.int .i64 n),(100,.int .i64 i),(125,ii g.pods),(126,.int .i64 j)]
   (reR c now nxt p v b s++[.cells 48 (reG g q a t f (.slice 1 (iv hs) (.own 4 0))),.tail 0 1 3])):=by
 intro k;induction k with
 | zero=>
  intro j s hs D hl w d l;have d:pE stR (rR c now nxt p v m (b++[⟨g,q,a,t,f,hs⟩]) s)=r:=d;have l:xS (rR c now nxt p v m (b++[⟨g,q,a,t,f,hs⟩]) s)=O:=l;have y:(rav b).length=b.length:=by simp
  have next:=x hs s o_ w o_ d l
  have e:rav (b++[⟨g,q,a,t,f,hs⟩])=rav b++[Rn.av ⟨g,q,a,t,f,hs⟩]:=by simp
  unfold reR at next
  rw [e] at next
  refine gV ?_;refine aF λ h=>?_
  repeat' first | (refine gN hE ?_;conv=>whnf) | refine ⟨⟨by simp only [maxLen];simp;omega,by simp;omega⟩,?_⟩ | exact rfl | refine zt ?_ | refine zu ?_ ?_ | intro h | fail
  refine To.part [0,2,99,100] [0,1,2] rfl rfl rfl ?_;exact next
 | succ k B=>
  intro j s hs D hl w d l;unfold vX at d l;have y:(iv hs).length=hs.length:=by simp
  refine gV ?_;refine aT λ h=>?_;refine cJ hE 3 ?_;conv=>whnf
  refine To.permC hE [0,1,2,6] [3,4,5,7] (by rfl) ?_;conv=>whnf
  refine aLC ?_;conv=>whnf
  refine aK (o:=bL s) (λ h1=>?_) (λ⟨u,z⟩ h1=>?_)
  .simp only [h1] at d l;have d:Res.pan (aV 10)=r:=d;have l:rdU=O:=l;subst d l;exact zqca19
  simp only [h1] at d l;refine .eff [] [0] _ _ rfl (bE h1) ?_;have F:=bN h1;have next:=B (j+1) z (hs++[u]) o_ q_ o_ d l
  have e:iv (hs++[u])=iv hs++[ii u]:=by simp
  rw [e] at next;conv=>whnf
  refine aLC ?_;conv=>whnf;conv=>whnf
  refine aLC ?_;conv=>whnf
  refine ⟨⟨by simp only [maxLen];simp;omega,by simp;omega⟩,?_⟩;conv=>whnf
  refine aLC ?_;conv=>whnf;conv=>whnf
  refine aLC ?_;conv=>whnf
  refine gV ?_;refine aJ (gV ?_);refine To.part [0,2,10,99,100,125,126] [0,1,2,3,4] rfl rfl rfl ?_;exact next
def aFR(c:Con)(now nxt:Int)(j:az)(p:a7)(n:Int)(F:n<=9223372036854775807)(r:Res)(O:au):∀ (m i:Nat) (s:ay) (e:a6),(i+m:Int)=n->e.length+s.length<=1000000->pE stR (rR c now nxt j p m e s)=r->xS (rR c now nxt j p m e s)=O->
  To E fRd (.full 1 r O) (.head (stk fRd 2) [(0,.ref 0 0),(2,.ref 1 0),(99,.int .i64 n),(100,.int .i64 i)] (reR c now nxt j p e s)):=by
 intro m;induction m with
 | zero=>
  intro i s e v hl b d;have b:Res.ret (.tup [Sta.av ⟨c,now,nxt,p,e,j⟩,.bool (s==[])])=r:=b;have d:rdO s=O:=d;subst b d;refine gV ?_;refine aF λ h=>?_;refine cJ hE 2 ?_;conv=>whnf
  refine To.permC hE [0,1,2,3,4,5] [6,7] (by rfl) ?_;conv=>whnf
  refine aLC ?_;conv=>whnf;conv=>whnf
  refine aLC ?_;conv=>whnf;conv=>whnf
  refine aLC ?_;conv=>whnf
  refine gV ?_;exact zqca7
 | succ m B=>
  intro i s e v hl b d;unfold rR at b d;have x:(rav e).length=e.length:=by simp
  refine gV ?_;refine aT λ h=>gV ?_;refine aK (o:=rGan s) (λ h1=>?_) (λ⟨g,y⟩ h1=>?_)
  .exact zqca26
  simp only [h1] at b d;refine .eff [] [0] _ _ rfl (A3 h1) (gV ?_);refine aK (o:=bL y) (λ k=>?_) (λ⟨q,A⟩ k=>?_)
  .simp only [k] at b d;have b:Res.pan (aV 10)=r:=b;have d:rdU=O:=d;subst b d;refine .effp [] [0] _ _ rfl (bM k) ?_;exact zx [0]
  simp only [k] at b d;refine .eff [] [0] _ _ rfl (bE k) (gV ?_);refine aK (o:=bL A) (λ h3=>?_) (λ⟨a,z⟩ h3=>?_)
  .exact zqca36
  simp only [h3] at b d;refine .eff [] [0] _ _ rfl (bE h3) (gV ?_);refine aK (o:=bL z) (λ l=>?_) (λ⟨t,D⟩ l=>?_)
  .simp only [l] at b d;have b:Res.pan (aV 10)=r:=b;have d:rdU=O:=d;subst b d;refine .effp [] [0] _ _ rfl (bM l) ?_;exact zx [0]
  simp only [l] at b d;refine .eff [] [0] _ _ rfl (bE l) (gV ?_);refine aK (o:=bL D) (λ u=>?_) (λ⟨f,w⟩ u=>?_)
  .simp only [u] at b d;have b:Res.pan (aV 10)=r:=b;have d:rdU=O:=d;subst b d;refine .effp [] [0] _ _ rfl (bM u) ?_;exact zx [0]
  simp only [u] at b d;refine .eff [] [0] _ _ rfl (bE u) ?_;have C:=IY h1;have H:=bN k;have I:=bN h3;have M:=bN l;have J:=bN u;refine gV ?_;refine Ab (λ hd=>?_) (λ hd=>?_)
  .rw [if_pos hd] at b d;have b:Res.ret (.tup [Sta.av ⟨c,now,nxt,p,e,j⟩,.bool false])=r:=b;have d:rdO w=O:=d;subst b d;refine gV ?_;exact zqca7
  .rw [if_neg (by rw [hd];decide)] at b d;refine gV ?_;refine To.part [0,2,10,99,100,125,126] [0,1,2,3] rfl rfl rfl ?_;refine To.begin 3 13 3 rfl rfl ?_;exact aF0 c now nxt j p e o_ n i o_ g q a t f C.2 r O m (λ hs s' K G L b d=>B (i+1) s' _ o_ q_ b d) g.pods.toNat 0 w [] o_ q_ o_ b d
abbrev reP(c:Con)(now nxt:Int)(hi:az)(ps:a7)(s:ay):au:=[.cells tRd [.str s],.cells 31 (reC c now nxt (.slice 11 (pnv ps) (.own 2 0)) (.slice 14 [] .nil) (.slice 1 (fv hi) .no)),.tail 0 11 45]
def aFT(c:Con)(now nxt:Int)(l:az)(n:Int)(A:n<=9223372036854775807)(r:Res)(O:au):∀ (m i:Nat) (s:ay) (f:a7),(i+m:Int)=n->f.length+s.length<=1000000->pE stR (rP c now nxt l m f s)=r->xS (rP c now nxt l m f s)=O->
  To E fRd (.full 1 r O) (.head (stk fRd 1) [(0,.ref 0 0),(2,.ref 1 0),(82,.int .i64 n),(83,.int .i64 i)] (reP c now nxt l f s)):=by
 intro m;induction m with
 | zero=>
  intro i s f u hl b d;unfold rP rRs at b d;refine gV ?_;refine aF λ h=>gV ?_;refine aK (o:=dE s) (λ h1=>?_) (λ⟨k,p⟩ h1=>?_)
  .simp only [h1] at b d;have b:Res.pan (aV 10)=r:=b;have d:rdU=O:=d;subst b d;refine .effp [] [0] _ _ rfl (jF h1) ?_;exact zx [0]
  simp only [h1] at b d;refine .eff [] [0] _ _ rfl (lX h1) ?_;have z:=eM h1;refine gV ?_;refine To.part [0,2,99,100] [0,1] rfl rfl rfl ?_;refine To.begin 1 7 48 rfl rfl ?_;exact aFR c now nxt l f k o_ r O k.toNat 0 p [] o_ q_ b d
 | succ m y=>
  intro i s f u hl b d;unfold rP at b d;have v:(pnv f).length=f.length:=by simp
  refine gV ?_;refine aT λ h=>?_;refine cJ hE 3 ?_;conv=>whnf
  refine To.permC hE [0,1,2,4,6,11] [3,5,7,8,9,10,12] (by rfl) ?_;conv=>whnf
  refine aLC ?_;conv=>whnf
  refine aK (o:=rGan s) (λ h1=>?_) (λ⟨g,p⟩ h1=>?_)
  .exact zqca26
  simp only [h1] at b d;refine .eff [] [0] _ _ rfl (A3 h1) ?_;conv=>whnf
  refine aLC ?_;conv=>whnf
  refine aK (o:=bL p) (λ j=>?_) (λ⟨q,x⟩ j=>?_)
  .simp only [j] at b d;have b:Res.pan (aV 10)=r:=b;have d:rdU=O:=d;subst b d;exact zqca38
  simp only [j] at b d;refine .eff [] [0] _ _ rfl (bE j) ?_;conv=>whnf
  refine aLC ?_;conv=>whnf
  refine aK (o:=bL x) (λ h3=>?_) (λ⟨a,w⟩ h3=>?_)
  .exact zqca36
  simp only [h3] at b d;refine .eff [] [0] _ _ rfl (bE h3) ?_;conv=>whnf
  refine aLC ?_;conv=>whnf;conv=>whnf
  refine aLC ?_;conv=>whnf;conv=>whnf
  refine aLC ?_;conv=>whnf
  refine ⟨⟨by simp only [maxLen];simp;omega,by simp;omega⟩,?_⟩;conv=>whnf
  refine aLC ?_;conv=>whnf;conv=>whnf
  refine aLC ?_;conv=>whnf
  refine gV ?_;refine aJ (gV ?_);refine To.part [0,2,82,83] [0,1,2] rfl rfl rfl ?_;have z:=IY h1;have B:=bN j;have C:=bN h3;have next:=y (i+1) w (f++[⟨g,q,a⟩]) o_ q_ b d
  have e:pnv (f++[⟨g,q,a⟩])=pnv f++[Pn.av ⟨g,q,a⟩]:=by simp
  unfold reP at next
  rw [e] at next
  exact next
abbrev reH(c:Con)(now nxt:Int)(hi:az)(s:ay):au:=[.cells tRd [.str s],.cells 31 (reC c now nxt (.slice 11 [] .nil) (.slice 14 [] .nil) (.slice 1 (fv hi) (.own 2 0))),.tail 0 1 169]
def aFZ(c:Con)(now nxt:Int)(n:Int)(u:n<=9223372036854775807)(r:Res)(O:au):∀ (m i:Nat) (s:ay) (d:az),(i+m:Int)=n->d.length+s.length<=1000000->pE stR (rH c now nxt m d s)=r->xS (rH c now nxt m d s)=O->
  To E fRd (.full 1 r O) (.head (stk fRd 0) [(0,.ref 0 0),(2,.ref 1 0),(50,.int .i64 n),(51,.int .i64 i)] (reH c now nxt d s)):=by
 intro m;induction m with
 | zero=>
  intro i s d g hl a b;unfold rH rPs at a b;refine gV ?_;refine aF λ h=>gV ?_;refine aK (o:=dE s) (λ h1=>?_) (λ⟨k,p⟩ h1=>?_)
  .exact zqca14
  simp only [h1] at a b;refine .eff [] [0] _ _ rfl (lX h1) ?_;have v:=eM h1;refine gV ?_;refine To.part [0,2,82,83] [0,1] rfl rfl rfl ?_;refine To.begin 1 6 45 rfl rfl ?_;exact aFT c now nxt d k o_ r O k.toNat 0 p [] o_ q_ a b
 | succ m q=>
  intro i s d g hl a b;unfold rH at a b;have j:(fv d).length=d.length:=by simp
  have f:=aHu s;unfold JT at f;by_cases l:s.length<8
  .rw [if_pos l] at a b f;have a:Res.ret (.tup [Sta.av ⟨c,now,nxt,[],[],d⟩,.bool false])=r:=a;have b:rdO s=O:=b;subst a b;refine gV ?_;refine aT λ h=>gV ?_;refine .pure _ [] f ?_;exact zqca33
  .rw [if_neg l] at a b f;have next:=q (i+1) (s.drop 8) (d++[leN (s.take 8)]) o_ q_ a b
   have e:fv (d++[leN (s.take 8)])=fv d++[.int .u64 ((leN (s.take 8):Nat):Int)]:=by simp
   unfold reH at next
   rw [e] at next
   refine gV ?_;refine aT λ h=>gV ?_;refine .pure _ [] f (gV ?_);refine Ab (λ h=>absurd h d_) (λ_=>gV ?_);refine ⟨8,rfl,gV ?_⟩;refine ⟨by omega,gV ?_⟩;refine ⟨⟨by simp only [maxLen];simp;omega,by simp;omega⟩,?_⟩;refine gV ?_;refine aJ (gV ?_);refine To.part [0,2,50,51] [0,1,2] rfl rfl rfl ?_;exact next
def LY(s:ay)(hs:s.length<=1000000)(r:Res)(O:au)(a:pE stR (rSt s)=r)(b:xS (rSt s)=O):aq 278 [.ref 0 0] (rdO s) r O:=by
 unfold rSt at a b;refine cT (E:=E) (fn:=Tryz.f278) (g:=.full 1 _ _) λ_=>gV ?_;refine aK (o:=dE s) (λ h1=>?_) (λ⟨n,d⟩ h1=>?_)
 .exact zqca14
 simp only [h1] at a b;refine .eff [] [0] _ _ rfl (lX h1) ?_;have y:=eM h1;have hd:=C8.decode_ok (d.take n.toNat) q_;unfold C8.decX C8.decE at hd;have e:n=((n.toNat:Nat):Int):=o_;refine aK (o:=C8.dec (d.take n.toNat)) (λ m=>?_) (λ x m=>?_)
 .simp only [m] at a b hd;have hd:aq 236 [.str (d.take n.toNat)] [] (.ret (.tup [Cmd.zero.av,ii 10])) []:=hd;have a:Res.ret (.tup [Sta.av Sta.nil,.bool false])=r:=a;have b:rdO d=O:=b;subst a b;refine gV ?_;refine ⟨n.toNat,e,gV ?_⟩;refine ⟨by omega,gV ?_⟩;refine .pure _ [] hd (gV ?_);refine Ab (λ_=>?_) (λ h=>absurd h d_);exact zqca33
 .simp only [m] at a b hd;have hd:aq 236 [.str (d.take n.toNat)] [] (.ret (.tup [x.av,ii 0])) []:=hd;by_cases l:x.k=1
  .rw [if_pos l] at a b;unfold rB at a b;refine gV ?_;refine ⟨n.toNat,e,gV ?_⟩;refine ⟨by omega,gV ?_⟩;refine .pure _ [] hd (gV ?_);refine Ab (λ h=>absurd h d_) (λ_=>gV ?_);refine Ab (λ h=>absurd h (by simp [l])) (λ_=>gV ?_);refine ⟨n.toNat,e,gV ?_⟩;refine ⟨by omega,?_⟩;refine cJ hE 13 ?_;conv=>whnf
   refine To.permC hE [0,1,2,4,6,8,10] [3,5,7,9,11] (by rfl) ?_;conv=>whnf
   refine aLC ?_;conv=>whnf
   refine aK (o:=bL (d.drop n.toNat)) (λ h3=>?_) (λ⟨now,q⟩ h3=>?_)
   .simp only [h3] at a b;have a:Res.pan (aV 10)=r:=a;have b:rdU=O:=b;subst a b;exact zqca18
   simp only [h3] at a b;refine .eff [] [0] _ _ rfl (bE h3) ?_;have w:=bN h3;conv=>whnf
   refine aLC ?_;conv=>whnf
   refine aK (o:=bL q) (λ i=>?_) (λ⟨nxt,p⟩ i=>?_)
   .simp only [i] at a b;have a:Res.pan (aV 10)=r:=a;have b:rdU=O:=b;subst a b;refine .effp [] [0] _ _ rfl (bM i) ?_;exact zx [0]
   simp only [i] at a b;refine .eff [] [0] _ _ rfl (bE i) ?_;have B:=bN i;conv=>whnf
   refine aLC ?_;conv=>whnf;conv=>whnf
   refine aLC ?_;conv=>whnf;conv=>whnf
   refine aLC ?_;conv=>whnf;conv=>whnf
   refine aLC ?_;conv=>whnf
   refine gV ?_;refine aK (o:=dE p) (λ j=>?_) (λ⟨k,u⟩ j=>?_)
   .simp only [j] at a b;have a:Res.pan (aV 10)=r:=a;have b:rdU=O:=b;subst a b;refine .effp [] [0] _ _ rfl (jF j) ?_;exact zx [0]
   simp only [j] at a b;refine .eff [] [0] _ _ rfl (lX j) ?_;have v:=eM j;have z:(d.drop n.toNat).length<=d.length:=by simp
   refine gV ?_;refine To.part [0,2,50,51] [0,1] rfl rfl rfl ?_;refine To.begin 1 8 169 rfl rfl ?_;exact aFZ x.c now nxt k o_ r O k.toNat 0 u [] o_ q_ a b
  .rw [if_neg l] at a b;have a:Res.ret (.tup [Sta.av Sta.nil,.bool false])=r:=a;have b:rdO d=O:=b;subst a b;refine gV ?_;refine ⟨n.toNat,e,gV ?_⟩;refine ⟨by omega,gV ?_⟩;refine .pure _ [] hd (gV ?_);refine Ab (λ h=>absurd h d_) (λ_=>gV ?_);refine Ab (λ_=>?_) (λ h=>absurd h (by simp [l]));refine To.loose (gV ?_);exact zqca7
def aF5{s s':ay}(hs:s.length<=1000000){x:Sta}{b:Bool}(h:rSt s=some ((x,b),s')):aq 278 [.ref 0 0] (rdO s) (.ret (.tup [x.av,.bool b])) (rdO s'):=LY s hs _ _ (by rw [h];rfl) (by rw [h];rfl)
def aBA{s:ay}(hs:s.length<=1000000)(h:rSt s=none):aq 278 [.ref 0 0] (rdO s) (.pan (aV 10)) rdU:=LY s hs _ _ (by rw [h];rfl) (by rw [h];rfl)
open C8 (bL dE rGan rdO rdU aV aK bN eM tRd)
set_option maxRecDepth 10000
abbrev zSt:ax:=[.slice 11 [] .nil,.slice 6 [] .nil,ii 0,ii 0,ii 0,ii 0,.slice 11 [] .nil,.slice 14 [] .nil,.slice 1 [] .nil]
abbrev deO(s:ay):au:=[.cells 9 [.str s],.cells 31 zSt,.cells 4 [.bool false]]
abbrev deX(s:ay)(x:Sta)(b:Bool):au:=[.cells 9 [.str s],.cells 31 x.cs,.cells 4 [.bool b]]
abbrev deU:au:=tK (λ_=>.undef) (deO [])
def aLz{s s':ay}(hs:s.length<=1000000){x:Sta}{b:Bool}(h:rSt s=some ((x,b),s')):aq 277 [.ref 0 0,.ref 1 0,.ref 2 0] (deO s) (.ret (.tup [])) (deX s x b):=by refine cT (E:=E) (fn:=Tryz.f277) (g:=.full 3 _ _) λ_=>gV ?_;refine .eff [] [3] _ _ rfl (aF5 hs h) (gV ?_);exact zx [0,1,2]
def aIk{s:ay}(hs:s.length<=1000000)(h:rSt s=none):aq 277 [.ref 0 0,.ref 1 0,.ref 2 0] (deO s) (.pan (aV 10)) deU:=by refine aA.blur (ao:=deO s) ?_;refine cT (E:=E) (fn:=Tryz.f277) (g:=.full 3 _ _) λ_=>gV ?_;refine .effp [] [3] _ _ rfl (aBA hs h) ?_;exact zx [0,1,2]
abbrev dV:aa:=.func (.func 277) [] [.ref 0 0,.ref 1 0,.ref 2 0]
def aFs{s s':ay}(hs:s.length<=1000000){x:Sta}{b:Bool}(h:rSt s=some ((x,b),s')):aq 272 [dV] (deO s) (.ret (ii 0)) (deX s x b):=by
 refine cT (E:=E) (fn:=Tryz.f272) (g:=.full 3 _ _) λ_=>gV ?_;refine To.defer (f:=71) (args:=[.ref 3 0]) _ rfl rfl ?_;refine gW C8.hEt ?_;conv=>whnf
 refine .eff [] [0,1,2] _ _ rfl (aLz hs h) ?_;refine gW C8.hEt ?_;conv=>whnf
 refine To.leave (f:=71) (args:=[.ref 3 0]) [] rfl [] [3] rfl (C8.catch_ret 0) ?_;exact zqca15
def aAR{s:ay}(hs:s.length<=1000000)(h:rSt s=none):aq 272 [dV] (deO s) (.ret (ii 10)) deU:=by
 refine cT (E:=E) (fn:=Tryz.f272) (g:=.full 3 _ _) λ_=>gV ?_;refine To.defer (f:=71) (args:=[.ref 3 0]) _ rfl rfl ?_;refine gW C8.hEt ?_;conv=>whnf
 refine .effp [] [0,1,2] _ _ rfl (aIk hs h) ?_;conv=>whnf
 refine To.leave (f:=71) (args:=[.ref 3 0]) [] rfl [] [3] rfl (C8.catch_pan 0 10) ?_;exact zqca15
def aBI:∀ (m:Nat) (hs:aw) (s:ay) (hs':aw) (s':ay),vX m hs s=some (hs',s')->hs'.length+s'.length<=hs.length+s.length
 | 0,hs,s,hs',s',h=>by cases h;exact Bf _
 | m+1,hs,s,hs',s',h=>by
  unfold vX at h;split at h
  .cases h
  .rename_i h1;have b:=bN h1;have:=aBI m _ _ _ _ h;simp at this;omega
def aMv(c:Con)(now nxt:Int)(d:az)(e:a7)(N:Nat):∀ (m:Nat) (a:a6) (s:ay) (x:Sta) (b:Bool) (s':ay),rR c now nxt d e m a s=some ((x,b),s')->a.length+s.length<=N->(∀ y∈a,y.hs.length<=N)->x.c=c/\x.run.length<=N/\∀ y∈x.run,y.hs.length<=N
 | 0,a,s,x,b,s',h,hl,hy=>by cases h;exact ⟨rfl,by show a.length<=N;omega,hy⟩
 | m+1,a,s,x,b,s',h,hl,hy=>by
  unfold rR at h;split at h
  .cases h
  .rename_i h1;split at h
   .cases h
   .rename_i f;split at h
    .cases h
    .rename_i h3;split at h
     .cases h
     .rename_i g;split at h
      .cases h
      .rename_i k;have p:=IY h1;have l:=bN f;have n:=bN h3;have r:=bN g;have o:=bN k;split at h
       .cases h;exact ⟨rfl,by show a.length<=N;omega,hy⟩
       .split at h
        .cases h
        .rename_i hs' q i;have j:=aBI _ _ _ _ _ i;simp at j;refine aMv c now nxt d e N m _ _ x b s' h q_ λ y hm=>?_;rcases Az.1 hm with hm | hm
         .exact hy y hm
         .rw [Dh] at hm;subst hm;show hs'.length<=N;omega
def aMw(c:Con)(now nxt:Int)(d:az)(N:Nat):∀ (m:Nat) (a:a7) (s:ay) (x:Sta) (b:Bool) (s':ay),rP c now nxt d m a s=some ((x,b),s')->s.length<=N->x.c=c/\x.run.length<=N/\∀ y∈x.run,y.hs.length<=N
 | 0,a,s,x,b,s',h,hl=>by
  unfold rP rRs at h;split at h
  .cases h
  .rename_i h1;have g:=eM h1;exact aMv c now nxt d a N _ _ _ x b s' h q_ λ y e=>by cases e
 | m+1,a,s,x,b,s',h,hl=>by
  unfold rP at h;split at h
  .cases h
  .rename_i h1;split at h
   .cases h
   .rename_i f;split at h
    .cases h
    .rename_i h3;have g:=IY h1;have i:=bN f;have j:=bN h3;exact aMw c now nxt d N m _ _ x b s' h o_
def aMx(c:Con)(now nxt:Int)(N:Nat):∀ (m:Nat) (a:az) (s:ay) (x:Sta) (b:Bool) (s':ay),rH c now nxt m a s=some ((x,b),s')->s.length<=N->x.c=c/\x.run.length<=N/\∀ y∈x.run,y.hs.length<=N
 | 0,a,s,x,b,s',h,hl=>by
  unfold rH rPs at h;split at h
  .cases h
  .rename_i h1;have e:=eM h1;exact aMw c now nxt a N _ _ _ x b s' h o_
 | m+1,a,s,x,b,s',h,hl=>by
  unfold rH at h;split at h
  .cases h;exact ⟨rfl,Bt _,λ y d=>by cases d⟩
  .exact aMx c now nxt N m _ _ x b s' h q_
def aMu{s s':ay}{x:Sta}{b:Bool}(h:rSt s=some ((x,b),s'))(hl:s.length<=1000000):x.c.sm/\Sm x.run:=by
 unfold rSt at h;split at h
 .cases h
 .rename_i n p h1;have r:=eM h1;split at h
  .cases h;exact ⟨⟨Bt _,Bt _⟩,Bt _,λ y d=>by cases d⟩
  .rename_i y a;have e:C8.chk y=0:=by
    unfold C8.dec at a;split at a
    .split at a
     .rename_i j;cases a;exact j.2
     .cases a
    .cases a
   have T:=C8.chk_told e;have f:=T.ln;have m:=T.lh;simp only [Cf] at f m;split at h
   .unfold rB at h;split at h
    .cases h
    .rename_i h3;split at h
     .cases h
     .rename_i i;split at h
      .cases h
      .rename_i o;have k:=bN h3;have u:=bN i;have q:=eM o;simp only [Eg] at k;obtain ⟨g,t,l⟩:=aMx y.c _ _ 1000000 _ _ _ x b s' h o_;rw [g];exact ⟨⟨by omega,by omega⟩,by omega,λ z hz=>by have:=l z hz;omega⟩
   .cases h;exact ⟨⟨Bt _,Bt _⟩,Bt _,λ y d=>by cases d⟩
def ZM(s:ay):Option Sta:=match rSt s with
 | some ((x,b),_)=>if b=true/\mH x=true then some x else none
 | none=>none
def aA7(s:ay):Sta:=(ZM s).getD Sta.nil
def aLy(s:ay):Int:=match ZM s with | some _=>0 | none=>10
def aFJ(s:ay)(hs:s.length<=1000000):aq 237 [.str s] [] (.ret (.tup [(aA7 s).av,ii (aLy s)])) []:=by
 unfold aA7 aLy ZM;refine c_ Tryz.f237 λ_=>gV ?_;refine aK (o:=rSt s) (λ h=>?_) (λ⟨⟨x,b⟩,s'⟩ h=>?_)
 .simp only [h];refine .eff [] [0,2,3] _ _ rfl (aAR hs h) ?_
  repeat' first | (refine gN hE ?_;conv=>whnf) | exact rfl | refine zt ?_ | refine zu ?_ ?_ | intro h | fail
 .obtain ⟨d,e⟩:=aMu h hs;have a:=FX x d e;simp only [h];refine .eff [] [0,2,3] _ _ rfl (aFs hs h) ?_;cases b with
  | false=>
   rw [if_neg (λ q=>absurd q.1 d_)]
   repeat' first | (refine gN hE ?_;conv=>whnf) | exact rfl | refine zt ?_ | refine zu ?_ ?_ | intro h | fail
  | true=>
   cases c:mH x with
   | false=>
    rw [c] at a;have a:aq 147 [x.av] [] (.ret (ii 1)) []:=a;rw [if_neg (λ q=>absurd q.2 d_)]
    repeat' first | (refine gN hE ?_;conv=>whnf) | refine .pure _ [] a ?_ | exact rfl | refine zt ?_ | refine zu ?_ ?_ | intro h | fail
   | true=>
    rw [c] at a;have a:aq 147 [x.av] [] (.ret (ii 0)) []:=a;rw [if_pos ⟨rfl,rfl⟩]
    repeat' first | (refine gN hE ?_;conv=>whnf) | refine .pure _ [] a ?_ | exact rfl | refine zt ?_ | refine zu ?_ ?_ | intro h | fail
open C8 (leN bL dE rGan aX nY fV pl putN)
def nP{v:V3}(h:bI v=true):okI v.l=true:=by unfold bI at h;simp only [Ad,decide_eq_true_eq] at h;simp only [V3.l,okI,pO,Ad,decide_eq_true_eq,and_true];omega
def aAe{v:V3}(h:zB v=true):okI v.l=true:=by unfold zB at h;simp at h;simp only [V3.l,okI,pO,Ad,decide_eq_true_eq,and_true];omega
def aCe{bl:Bool}{i:Nat}{x:Nod}(c:i<=100)(h:oC bl i x=true):x.ok=true:=by
 unfold oC at h;by_cases a:AV i x
 .rw [if_pos a] at h;cases h
 .rw [if_neg a] at h;unfold AV at a;have h3:okI x.n.l=true/\okI x.b.l=true/\okI x.l.l=true:=by
   cases bl with
   | true=>
    simp only [if_true,Ad] at h;exact ⟨nP h.1,nP h.2.1,nP h.2.2.1⟩
   | false=>
    rw [if_neg d_] at h;simp only [Ad] at h;exact ⟨aAe h.1,aAe h.2.1,aAe h.2.2⟩
  unfold Nod.ok;rw [h3.1,h3.2.1,h3.2.2];exact zqca23
def F8(ns:bb):∀ (l:bb) (i:Nat),i+l.length<=100->kD ns i l=true->uR l=true
 | [],_,_,_=>rfl
 | x::r,i,hi,h=>by
  unfold kD at h;simp at hi;by_cases a:oC (rlB ns i) i x=true
  .rw [if_pos a] at h;unfold uR;rw [aCe o_ a,F8 ns r (i+1) o_ h];rfl
  .rw [if_neg a] at h;cases h
def aCW{x:Hos}(h:lR x=true):x.ok=true:=by
 unfold lR at h;by_cases a:FD x
 .rw [if_pos a] at h;cases h
 .rw [if_neg a] at h;unfold FD at a;unfold Hos.ok;rw [nP h];exact zqca23
def NT:∀ (l:List Hos),l.all lR=true->qQ l=true
 | [],_=>rfl
 | x::r,h=>by rw [Jy,Ad] at h;unfold qQ;rw [aCW h.1,NT r h.2];rfl
def HU{c:Con}(h:bS c=0):c.tok=true/\c.ns.length<=12/\c.hs.length<=24:=by
 unfold bS at h;by_cases h1:AK c
 .rw [if_pos h1] at h;by_cases a:kD c.ns 0 c.ns=true
  .rw [if_pos a] at h;by_cases h3:c.hs.all lR=true
   .unfold AK at h1;refine ⟨?_,h1.1.2,h1.2.1.2⟩;unfold Con.tok;rw [F8 c.ns c.ns 0 o_ a,NT _ h3];simp only [Bool.and_self,Dc,okI,pO,Ad,decide_eq_true_eq,and_true];omega
   .rw [if_neg h3] at h;cases h
  .rw [if_neg a] at h;cases h
 .rw [if_neg h1] at h;cases h
def HF{c:Con}(h:fY c=true):c.tok=true/\c.ns.length<=12/\c.hs.length<=24:=by unfold fY at h;simp only [Ad,decide_eq_true_eq] at h;obtain ⟨ns,hs,half,age⟩:=c;obtain ⟨h1,a,h3,b⟩:=h;simp only at h1 a h3 b;subst h1 a h3 b;exact ⟨rfl,by simp,by simp⟩
def TS{c:Con}(h:c.tok=true)(e:c.ns.length<=12)(f:c.hs.length<=24):C8.chk ⟨1,c,Gan.zero,0⟩=0:=by
 have b:((nav c.ns).length:Int)<=12:=by simp;omega
 have a:((hav c.hs).length:Int)<=24:=by simp;omega
 have d:C8.chkL ⟨1,c,Gan.zero,0⟩=0:=by unfold C8.chkL;rw [decide_eq_true b,decide_eq_true a];rfl
 unfold C8.chk C8.chk2 C8.chk3 C8.chk4 C8.chkC C8.chkG C8.chkN;rw [d,h];rfl
def WP{s:Sta}(h:mH s=true):C8.chk s.cmd=0:=by
 unfold mH NW at h;simp only [Ad,Ew,decide_eq_true_eq] at h;obtain ⟨⟨h1,_⟩,_⟩:=h;rcases h1 with h1 | h1
 .obtain ⟨a,b,c⟩:=HF h1;exact TS a b c
 .obtain ⟨a,b,c⟩:=HU h1;exact TS a b c
def QZ{c:Con}{t:Int}(h:bC c.ns t=true):0<=t/\t<(c.ns.length:Int):=by
 unfold bC at h;by_cases h1:0<=t
 .rw [if_pos (decide_eq_true h1)] at h;by_cases a:t<(c.ns.length:Int)
  .exact ⟨h1,a⟩
  .rw [if_neg (by rw [decide_eq_false a];decide)] at h;cases h
 .rw [if_neg (by rw [decide_eq_false h1];decide)] at h;cases h
def N0{c:Con}{g:Gan}(d:c.ns.length<=12)(h:eQ c g=0):g.ok=true:=by obtain ⟨h1,b⟩:=oH.1 h;have h3:=QZ b;unfold KK at h1;simp only [Ad,decide_eq_true_eq] at h1;have a:=nP h1.2.1;unfold Gan.ok;rw [a];exact zqca23
def WR{s:Sta}(h:mH s=true):(s.c.tok=true/\s.c.ns.length<=12/\s.c.hs.length<=24)/\(∀ x∈s.c.hs,0<=x.f/\x.f<=100)/\(0<=s.now/\s.now<=1099511627776)/\(1<=s.nxt/\s.nxt<=1099511627776)/\s.hist.length=s.c.ns.length/\s.pend.length+s.run.length<=32:=by
 unfold mH NW at h;simp only [Ad,Ew,decide_eq_true_eq] at h;obtain ⟨⟨h1,i,h3,j,k⟩,_⟩:=h;refine ⟨?_,?_,i,h3,j,k⟩
 .rcases h1 with h1 | h1
  .exact HF h1
  .exact HU h1
 .intro x a;rcases h1 with h1 | h1
  .unfold fY at h1;simp only [Ad,decide_eq_true_eq] at h1;rw [h1.2.1] at a;cases a
  .unfold bS at h1;by_cases e:AK s.c
   .rw [if_pos e] at h1;by_cases g:kD s.c.ns 0 s.c.ns=true
    .rw [if_pos g] at h1;by_cases d:s.c.hs.all lR=true
     .have:=Ct.1 d x a;unfold lR at this;by_cases b:FD x
      .rw [if_pos b] at this;cases this
      .unfold FD at b;omega
     .rw [if_neg d] at h1;cases h1
    .rw [if_neg g] at h1;cases h1
   .rw [if_neg e] at h1;cases h1
def OV{s:Sta}(h:mH s=true):(mG s).length<=3000:=by
 obtain ⟨⟨h1,k,h3⟩,_⟩:=WR h;have e:mG s=pl s.cmd.il:=if_pos (WP h);rw [e];have key:∀ (l:aw),okI l=true->(pl l).length<=10*l.length:=λ l hl=>C8.pl_len (nH hl);have d:∀ (l:bb),uR l=true->(pl (C8.nodL l)).length<=110*l.length:=by
  intro l;induction l with
  | nil=>intro _;simp [C8.nodL,pl]
  | cons x r b=>
   intro hl;unfold uR at hl;rw [Ad] at hl;have e:C8.nodL (x::r)=x.il++C8.nodL r:=rfl;rw [e,C8.pl_append,Ah];have:=C8.il_len x hl.1;have:=b hl.2;simp only [Al];omega
 have g:∀ (l:List Hos),qQ l=true->(pl (C8.hosL l)).length<=60*l.length:=by
  intro l;induction l with
  | nil=>intro _;simp [C8.hosL,pl]
  | cons x r b=>
   intro hl;unfold qQ at hl;rw [Ad] at hl;have e:C8.hosL (x::r)=x.il++C8.hosL r:=rfl;rw [e,C8.pl_append,Ah];have:=C8.ih_len x hl.1;have:=b hl.2;simp only [Al];omega
 unfold Con.tok at h1;simp only [Ad] at h1;have j:=d _ h1.1.1;have i:=g _ h1.1.2;have m:=key [(1:Int)] rfl;have p:(pl [((nav s.c.ns).length:Int)]).length<=10:=by have:=C8.pl_len (l:=[((nav s.c.ns).length:Int)]) (λ n a=>by simp at a;omega);simpa using this
 have o:(pl [((hav s.c.hs).length:Int)]).length<=10:=by have:=C8.pl_len (l:=[((hav s.c.hs).length:Int)]) (λ n a=>by simp at a;omega);simpa using this
 have q:=key [s.c.half,s.c.age] h1.2;have f:s.cmd.il=[(1:Int)]++([((nav s.c.ns).length:Int)]++(C8.nodL s.c.ns++([((hav s.c.hs).length:Int)]++(C8.hosL s.c.hs++[s.c.half,s.c.age])))):=rfl;rw [f];simp only [C8.pl_append,Ah,Al,Br] at *
 omega
def SU{s:Sta}(h:mH s=true):Wr s:=by
 obtain ⟨⟨h1,t,h3⟩,F,w,G,K,H⟩:=WR h;have k:=h;unfold mH at k;simp only [Ad,Ct] at k;refine ⟨Cx (OV h) d_,⟨w.1,w.2,by omega,G.2⟩,by omega,by omega,by omega,λ x i=>?_,λ x i=>?_⟩
 .have a:=k.2.2.1.1 x i;unfold pnB at a;simp only [Ad,decide_eq_true_eq] at a;refine ⟨N0 t a.1,?_⟩;have:=a.2.2;exact zqca23
 .have a:=k.2.2.1.2 x i;have D:=(WQ h i).chk;obtain ⟨y,j⟩:=KF D;rw [wQ] at j;unfold pnB rnB at a;simp only [Ad,decide_eq_true_eq] at a;obtain ⟨⟨q,_,p⟩,⟨J,I⟩,_,n⟩:=a;have hp:=uJ q;have z:1<=x.g.pods/\x.g.pods<=16:=hp;have d:x.hs≠[]:=λ e=>by rw [e] at y;simp at y;omega
  have B:0<=x.fl/\x.fl<=100:=by
   cases o:x.hs with
   | nil=>exact absurd o d
   | cons u r=>
    have m:=j u (by rw [o];exact Ar ..);rw [o] at n;have n:(bH s.c.hs u).f=x.fl:=n;have b:u.toNat<s.c.hs.length:=o_;have hm:bH s.c.hs u∈s.c.hs:=by unfold bH;rw [Aa b];exact Bd b
    have:=F _ hm;omega
  have p:(0<=x.seq/\x.seq<s.nxt)/\0<=x.at'/\x.at'<=s.now:=p;refine ⟨N0 t q,?_,?_,d,by omega⟩
  .exact zqca23
  .have key:∀ (l:aw),(∀ u∈l,0<=u/\u<(s.c.hs.length:Int))->okI l=true:=by
    intro l;induction l with
    | nil=>intro _;rfl
    | cons u r C=>
     intro hl;have m:=hl u (Ar ..);unfold okI;rw [C λ v A=>hl v (Bb _ A)];simp only [pO,Ad,decide_eq_true_eq,and_true];omega
   exact key x.hs λ u m=>⟨(j u m).1,(j u m).2.1⟩
open C8 (leN JK rO bL dE rGan aX nY fV pl putN bN eM)
def NM(x:Nat):∀ (i:Nat),leN (E6 x i)=x % 2 ^ (8*i)
 | 0=>by simp [E6,leN,Ix]
 | i+1=>by rw [G7,rO,kA,NM x i];unfold G8;rw [Gr,Nat.mod_mod,Gl,Fm,Nat.mod_mul,Da (2 ^ (8*i)),show (2:Nat) ^ (8*1)=256 from rfl]
def aGW{x:Nat}(h:x<18446744073709551616):leN (wS x)=x:=by unfold wS;rw [NM,Hd o_]
def CC(c:Con)(now nxt:Int):∀ (l a:az) (s:ay),(∀ x∈l,x<18446744073709551616)->rH c now nxt l.length a (yC l++s)=rPs c now nxt (a++l) s
 | [],a,s,_=>by rw [Au];rfl
 | x::r,a,s,h=>by
  have hl:(wS x).length=8:=kA x 8;have e:yC (x::r)++s=wS x++(yC r++s):=by rw [<-Ae];rfl
  rw [e,Al];unfold rH;rw [if_neg (by rw [Ah];omega)];have f:(wS x++(yC r++s)).take 8=wS x:=by rw [Cz o_,Cd o_]
  have b:(wS x++(yC r++s)).drop 8=yC r++s:=by rw [<-hl,Jd]
  rw [f,b,aGW (h x (Ar ..)),CC c now nxt r _ s λ y d=>h y (Bb _ d),Ae];rfl
def aKk(a b:Int)(s:ay):pl [a,b]++s=putN a.toNat++(putN b.toNat++s):=by simp [pl]
def ok2{a b:Int}(h:okI [a,b]=true):(0<=a/\a<=1099511627777)/\0<=b/\b<=1099511627777:=by have h1:=C8.okI_b h a s_;have c:=C8.okI_b h b s_;omega
def aBF(c:Con)(now nxt:Int)(b:az):∀ (l a:a7) (s:ay),(∀ x∈l,x.g.ok=true/\okI [x.seq,x.at']=true)->rP c now nxt b l.length a (tC l++s)=rRs c now nxt b (a++l) s
 | [],a,s,_=>by rw [Au];rfl
 | x::r,a,s,h=>by
  obtain ⟨h1,j⟩:=h x (Ar ..);obtain ⟨d,f⟩:=ok2 j;have e:tC (x::r)++s=pl x.g.il++(putN x.seq.toNat++(putN x.at'.toNat++(tC r++s))):=by rw [<-aKk];show (pl x.g.il++pl [x.seq,x.at']++tC r)++s=_;simp only [Ae]
  rw [e,Al];unfold rP;rw [nY h1];dsimp only;rw [aX d.1 d.2];dsimp only;rw [aX f.1 f.2];dsimp only;rw [aBF c now nxt b r _ s λ y i=>h y (Bb _ i),Ae];rfl
def vW:∀ (l a:aw) (s:ay),okI l=true->vX l.length a (pl l++s)=some (a++l,s)
 | [],a,s,_=>by rw [Au];rfl
 | x::r,a,s,h=>by
  have b:=C8.okI_b h x (Ar ..);have e:pl (x::r)++s=putN x.toNat++(pl r++s):=by simp [pl]
  have c:okI r=true:=by unfold okI at h;rw [Ad] at h;exact h.2
  rw [e,Al];unfold vX;rw [aX b.1 o_];dsimp only;rw [vW r _ s c,Ae];rfl
def UK:∀ (l:aw),l.length<=(pl l).length
 | []=>Bt _
 | x::r=>by have:=UK r;have:=C8.putN_pos x.toNat;simp only [pl,Ah,Al];omega
def aBE(c:Con)(now nxt:Int)(d:az)(f:a7):∀ (l a:a6),(∀ x∈l,(x.hs.length:Int)=x.g.pods/\x.g.ok=true/\okI [x.seq,x.at',x.st,x.fl]=true/\okI x.hs=true)->rR c now nxt d f l.length a (pD l)=some ((⟨c,now,nxt,f,a++l,d⟩,true),[])
 | [],a,_=>by rw [Au];rfl
 | x::r,a,h=>by
  obtain ⟨o,h1,b,h3⟩:=h x (Ar ..);have m:=C8.okI_b b x.seq s_;have j:=C8.okI_b b x.at' s_;have k:=C8.okI_b b x.st s_;have n:=C8.okI_b b x.fl s_;have e:pD (x::r)=pl x.g.il++(putN x.seq.toNat++(putN x.at'.toNat++(putN x.st.toNat++(putN x.fl.toNat++(pl x.hs++pD r))))):=by show (pl x.g.il++pl [x.seq,x.at',x.st,x.fl]++pl x.hs)++pD r=_;simp [pl]
  rw [e,Al];unfold rR;rw [nY h1];dsimp only;rw [aX m.1 o_];dsimp only;rw [aX j.1 o_];dsimp only;rw [aX k.1 o_];dsimp only;rw [aX n.1 o_];dsimp only;have p:=UK x.hs;rw [if_neg (by rw [decide_eq_false (by rw [Ah];omega)];decide),show x.g.pods.toNat=x.hs.length from by omega,vW _ _ _ h3];dsimp only;rw [aBE c now nxt d f r _ λ y i=>h y (Bb _ i),Ae];rfl
def DO:∀ (l:az),(yC l).length=8*l.length
 | []=>rfl
 | x::r=>by have:(wS x).length=8:=kA x 8;unfold yC;rw [Ah,DO r,Al];omega
def MJ:∀ (l:a7),l.length<=(tC l).length
 | []=>Bt _
 | x::r=>by
  have h1:=MJ r;have a:=UK [x.seq,x.at'];unfold tC;simp only [Ah,Al,Br] at *
  omega
def LT:∀ (l:a6),l.length<=(pD l).length
 | []=>Bt _
 | x::r=>by
  have h1:=LT r;have a:=UK [x.seq,x.at',x.st,x.fl];unfold pD;simp only [Ah,Al,Br] at *
  omega
def aF7{s:Sta}(h:mH s=true)(l:∀ x∈s.hist,x<18446744073709551616):rSt (cW s)=some ((s,true),[]):=by
 have w:=SU h;have a:=WP h;obtain ⟨o,⟨n1,n2,d,r⟩,q,m,n,f,g⟩:=w;have hd:C8.dec (mG s)=some s.cmd:=by have e:mG s=pl s.cmd.il:=if_pos a;unfold C8.dec;rw [e,C8.rCmd_put (C8.chk_told a)];exact if_pos ⟨rfl,a⟩
 have l1:=DO s.hist;have l2:=MJ s.pend;have p:=LT s.run;have e:cW s=putN ((mG s).length:Int).toNat++(mG s++(putN s.now.toNat++(putN s.nxt.toNat++(putN (s.hist.length:Int).toNat++(yC s.hist++(putN (s.pend.length:Int).toNat++(tC s.pend++(putN (s.run.length:Int).toNat++pD s.run)))))))):=by unfold cW;simp [pl]
 rw [e];unfold rSt;rw [fV o_ o_ _ (by rw [Ah];omega)];dsimp only;rw [Bn,Hg,Jd,hd];dsimp only;rw [if_pos (show s.cmd.k=1 from rfl)];unfold rB;rw [aX n1 o_];dsimp only;rw [aX d o_];dsimp only;rw [fV o_ o_ _ (by rw [Ah];omega)];dsimp only;rw [Bn,CC _ _ _ _ _ _ l];unfold rPs;rw [fV o_ o_ _ (by rw [Ah];omega)];dsimp only;rw [Bn,aBF _ _ _ _ _ _ _ f];unfold rRs;rw [fV o_ o_ _ o_];dsimp only;rw [Bn,aBE _ _ _ _ _ _ _ λ x b=>?_]
 .rfl
 .obtain ⟨i,c,j,_,_⟩:=g x b;exact ⟨(KF (WQ h b).chk).1,i,c,j⟩
def aIj{s:Sta}(h:mH s=true)(a:∀ x∈s.hist,x<18446744073709551616):ZM (cW s)=some s:=by unfold ZM;rw [aF7 h a];exact if_pos ⟨rfl,h⟩
end Go.Proofs.YtbpccabomgalhaaGreatDoor
