/-
  Which commands may be told; the row of those that wait; which states may be, as walks.
-/
import Derived.Lib.Builder
import Derived.Lib.UnsafeStr
import Derived.Lib.Walk
import Derived.Shelf.RegionOpenPlain
import Derived.Test.YticlgfdibfobdaaGreatRAP
set_option linter.all false
set_option maxHeartbeats 1000000
open And renaming intro->Ad
open Bool renaming and_assoc->Gr,and_eq_true->Af,and_false->Bn,and_true->Hc,eq_false_or_eq_true->Dq,eq_iff_iff->Fy,false_and->Ct,false_or->La,not_eq_false'->Ih,not_eq_true'->Cm,or_eq_true->Eg,true_and->Cd
open Decidable renaming not_not->Dz
open Exists renaming intro->Aw
open Go.Builtin renaming unsafeSliceData_->Lb,unsafeString_->Lz
open Go.Result renaming andThen->Ey
open Go.World renaming shape?->Mm
open Int renaming fdiv_eq_ediv_of_nonneg->Ge,le_refl->Dc,mul_nonneg->Ip,toNat->Hf,toNat_natCast->Cl,toNat_of_nonneg->Hy
open List renaming all_cons->Gm,all_eq_true->Cj,any_cons->Gn,any_eq_true->Ej,append_assoc->Aj,append_nil->Bo,cons_append->Je,count_append->Iq,count_cons_of_ne->Ly,count_cons_self->Hj,count_eq_zero->Kj,count_le_length->Md,drop->Hd,drop_drop->Ir,drop_eq_getElem_cons->Ac,drop_eq_nil_of_le->Ae,drop_zero->Cn,eraseIdx_eq_take_drop_succ->Ja,filter_cons_of_neg->Ek,filter_cons_of_pos->Em,filter_eq_self->Kc,foldl_cons->Al,getElem?_eq_getElem->Aa,getElem?_eq_some_iff->Ab,getElem?_map->Bc,getElem?_range->Ch,getElem_mem->Bf,length->Js,length_append->Ar,length_cons->Ba,length_drop->Fo,length_map->Cw,length_nil->Ck,length_pos_iff->Fz,length_take->Es,map_append->Bm,map_cons->Bk,map_drop->Jp,map_map->Dm,map_take->Jo,mem_append->Ay,mem_append_left->Dh,mem_append_right->Cu,mem_cons->Ao,mem_cons_of_mem->Bb,mem_cons_self->Az,mem_map->Bu,mem_map_of_mem->Ci,mem_singleton->Dd,nodup_cons->Bw,not_mem_nil->Gs,pairwise_iff_getElem->Dl,range->Db,range'->Gz,range_eq_range'->Gj,range_succ->Ie,replicate->Ah,replicate_succ->Kd,set_append_right->Jb,take->Fv
open List.cons renaming inj->Fu
open Nat renaming add_zero->Df,beq->Ap,le_refl->Bg,le_trans->Cs,min_eq_left->Fh,mod_eq_of_lt->Jf,mul_add->Ik,mul_assoc->Ia,mul_comm->Dn,mul_le_mul_right->Bq,pow_add->Ha,pow_le_pow_right->Ep,strongRecOn->Lu,zero_add->Bp,zero_le->Bt
open Option renaming map_eq_some_iff->Cb
open Or renaming inl->Hk
open UInt8 renaming ofNat->Gk
namespace Go.Proofs.YticlgfdibfobdaaGreat
open Go Go.AW Go.Proofs
theorem zqca0 {P:Prop} (h:P:=by
 have b:false=r:=b
 subst b
 rcases z with ⟨rfl,rfl⟩ | rfl
 .refine gV ?_
  refine aT fun h=>?_
  repeat' first | (refine gN hE ?_;conv=>whnf) | refine ⟨i,rfl,?_⟩ | refine ⟨u0.toNat,n,?_⟩ | refine ⟨_,get,?_⟩ | refine ⟨_,e,?_⟩ | refine ⟨_,j,?_⟩ | refine Aw _ (Ad (d _) ?_) | refine .pure _ [] a ?_ | exact rfl | refine aY ?_ | refine aN ?_ | refine aT fun h=>?_ | refine aF fun h=>?_ | refine ⟨fun h=>?_,fun h=>?_⟩ | refine aJ ?_ | refine ⟨_,rfl,?_⟩ | refine aD ?_ | fail
 .refine gV ?_
  refine aT fun h=>?_
  repeat' first | (refine gN hE ?_;conv=>whnf) | refine ⟨i,rfl,?_⟩ | refine ⟨u0.toNat,n,?_⟩ | refine ⟨_,get,?_⟩ | refine ⟨_,e,?_⟩ | refine ⟨_,j,?_⟩ | refine Aw _ (Ad (d _) ?_) | refine .pure _ [] a ?_ | exact rfl | refine aY ?_ | refine aN ?_ | refine aT fun h=>?_ | refine aF fun h=>?_ | refine ⟨fun h=>?_,fun h=>?_⟩ | refine aJ ?_ | refine ⟨_,rfl,?_⟩ | refine aD ?_ | fail):P:=h
theorem zqca1 {P:Prop} (h:P:=by
 refine To.leave (f:=103) (args:=[.ref 1 0]) [] rfl [] [1] rfl (catch_pan 0 1) ?_
 exact To.left hE rfl rfl rfl):P:=h
theorem zqca2 {P:Prop} (h:P:=by
 refine gV ?_
 refine aT fun h=>?_
 refine gV ?_
 refine ⟨i,rfl,?_⟩
 refine gV ?_
 refine ⟨_,get,?_⟩
 refine gV ?_
 refine .pure _ [] c ?_
 refine bV (hEr [] [64,65,66]) 20 ?_;conv=>whnf
 refine To.cutC [1,3,4,6,7,14,15,16] 3 rfl rfl rfl rfl ?_
 refine qL p ?_
 exact zW):P:=h
theorem zqca3 {P:Prop} (h:P:=by
 refine gV ?_
 refine .eff [] [1,2] _ _ rfl (aA.strip (nums_ok [x.n] s_ l s_ _ q_)) ?_
 refine gV ?_
 have il:=qJ x [x.n] (by rw [h1,b,j];rfl)
 have a:putN x.k.toNat++pl [x.n]≠[]:=by rw [il];exact pl_ne _ _
 refine .eff [] [1,2] _ _ rfl (str_ok _ a _) ?_
 refine gV ?_
 rw [il]):P:=h
theorem zqca4 {P:Prop} (h:P:=by
 refine gV ?_
 refine ⟨i,rfl,?_⟩
 refine gV ?_
 refine ⟨by rw [a];omega,?_⟩
 refine gV ?_
 refine ⟨BD (by have:=yP (pav l) i;omega),?_⟩
 refine gV ?_
 refine ⟨xT q_,?_⟩
 refine gV ?_
 refine ⟨i,rfl,?_⟩
 refine gV ?_
 refine ⟨by rw [a];omega,?_⟩
 refine gV ?_
 refine ⟨xT q_,?_⟩
 refine gV ?_
 rw [putP,hp]
 have:Fv i (pav l)++[p.av]++Hd i (pav l)=pav (l.take i++[p]++l.drop i):=by simp
 rw [<-this]
 rfl):P:=h
theorem zqca5 {P:Prop} (h:P:=by
 refine gV ?_
 have next:=q (i+1) 1 (bs++putN x.toNat) o_ (.inr rfl) (fun _=>rfl) (fun _=>rfl) q_ a
 rcases j with rfl | rfl
 .refine .sole rfl (.eff [] [0,1] _ _ rfl (ws_ok bs _ o_) ?_)
  refine gV ?_
  refine aJ ?_
  refine gV ?_
  refine To.part [0,6,7,8] [0,1] rfl rfl rfl ?_
  exact next
 .refine .sole rfl (.eff [] [0,1] _ _ rfl (ws_ok bs _ o_) ?_)
  refine gV ?_
  refine aJ ?_
  refine gV ?_
  refine To.part [0,6,7,8] [0,1] rfl rfl rfl ?_
  exact next):P:=h
theorem zqca6 {P:Prop} (h:P:=by
 refine gV ?_
 refine .pure _ [] (l xs[i] (Bf b)) ?_
 refine gV ?_
 rw [Ac b] at a
 have a:(if p xs[i]=true then (i:Int) else GP p (xs.drop (i+1)) ((i:Int)+1))=r:=a
 refine ⟨fun d=>?_,fun d=>?_⟩
 .refine gV ?_
  rw [if_pos d] at a
  rw [a]
 .refine gV ?_
  rw [if_neg (by rw [d];simp)] at a
  refine .inl ⟨⟨by simp only [cL];omega,by simp only [bI];omega⟩,?_⟩
  have e:=j (i+1) o_ (by rw [<-a];push_cast;rfl)
  exact zW):P:=h
theorem zqca7 {P:Prop} (h:P:=by
 refine To.cutC [1,4] 1 rfl rfl rfl rfl ?_
 exact (fG x false r a)):P:=h
theorem zqca8 {P:Prop} (h:P:=by
 exact ⟨[],[0,1,2],⟨rfl,rfl⟩,rfl,rfl⟩):P:=h
theorem zqca9 {P:Prop} (h:P:=by
 refine gV ?_
 refine aJ ?_
 refine gV ?_
 refine gV ?_
 refine Ad (fun h=>absurd (of_decide_eq_true h) s_) (fun _=>?_)
 refine gV ?_
 refine ⟨[],[0,1],⟨rfl,rfl⟩,?_⟩
 exact ⟨rfl,rfl⟩):P:=h
theorem zqca10 {P:Prop} (h:P:=by
 refine .effp [] [0] _ _ rfl (bG h3) ?_
 exact ⟨[],[0],⟨rfl,rfl⟩,rfl,rfl⟩):P:=h
theorem zqca11 {P:Prop} (h:P:=by
 refine .effp [] [0] _ _ rfl (bG h1) ?_
 exact ⟨[],[0],⟨rfl,rfl⟩,rfl,rfl⟩):P:=h
theorem zqca12 {P:Prop} (h:P:=by
 refine cT (E:=(Eo [14] [])) (fn:=Tryz.f51) (g:=.full 2 _ _) fun _=>?_
 refine gV ?_
 refine .eff [] [0,1] _ _ rfl (HE _) ?_
 refine gV ?_
 refine ⟨⟨by simp only [maxLen];simp;omega,by simp;omega⟩,?_⟩
 refine gV ?_
 refine ⟨[],[0,1],⟨rfl,rfl⟩,?_⟩;conv=>whnf
 refine ⟨rfl,?_⟩
 rw [Bm]
 rfl):P:=h
theorem zqca13 {P:Prop} (h:P:=by
 refine ⟨[],[0],⟨rfl,rfl⟩,?_⟩
 exact ⟨rfl,rfl⟩):P:=h
theorem zqca14 {P:Prop} (h:P:=by
 refine gW hEc ?_;conv=>whnf
 refine .pure _ [] (eX _ _ rfl) ?_
 refine bV hEc 2 ?_;conv=>whnf
 refine To.cutC [1,2] 2 rfl rfl rfl rfl ?_
 exact (RJ x r a)):P:=h
theorem zqca15 {P:Prop} (h:P:=by
 simp only [h1] at a b
 have a:Res.pan (aV 10)=r:=a
 have b:rdU=O:=b
 subst a b
 refine .effp [] [0] _ _ rfl (iB h1) ?_
 exact ⟨[],[0],⟨rfl,rfl⟩,rfl,rfl⟩):P:=h
theorem zqca16 {P:Prop} (h:P:=by
 refine cT (E:=(Eo [14] [])) (fn:=Tryz.f51) (g:=.full 1 _ _) fun _=>?_
 refine gV ?_
 refine .eff [] [0] _ _ rfl (B5 _) ?_
 refine gV ?_
 refine ⟨⟨by simp only [maxLen];simp;omega,by simp;omega⟩,?_⟩
 refine gV ?_
 exact ⟨[],[0,1],⟨rfl,rfl⟩,rfl,rfl⟩):P:=h
theorem zqca17 {P:Prop} (h:P:=by
 intro i g bs r j d _ f a
 have e:=d rfl
 subst e
 rw [Ae o_] at a
 have a:bs++[]=B:=a
 rw [Bo] at a
 subst a
 refine gV ?_
 refine aF fun h=>?_
 refine gV ?_
 refine ⟨[],[0,1],⟨rfl,rfl⟩,?_⟩
 rcases j with rfl | rfl
 .exact ⟨rfl,rfl⟩
 .exact ⟨rfl,rfl⟩):P:=h
theorem zqca18 {P:Prop} (h:P:=by
 exact c_ Tryz.f82 fun _=>zW):P:=h
theorem zqca19 {P:Prop} (h:P:=by
 refine Lib.run_unsafeString_row w.drew 192 3 9 5 aEU aGF g c.size (by have i:w.drew.heap[g]? =some (.cells c 5 (0,0)):=v;simp [Mm,i]) l q o_ (by unfold maxLen at m;omega) ?_
 intro j x u
 rw [bA,Bp]
 exact d j x u):P:=h
theorem zqca20 {P:Prop} (h:P:=by
 refine To.left hE rfl rfl ?_
 refine ⟨[],[0,1,2],⟨rfl,rfl⟩,?_⟩
 exact ⟨rfl,rfl⟩):P:=h
theorem zqca21 {P:Prop} (h:P:=by
 refine gW hEc ?_;conv=>whnf
 refine .pan _ (cW _ _ rfl) ?_;conv=>whnf
 exact zqca1):P:=h
theorem zqca22 {P:Prop} (h:P:=by
 refine To.part [1,3,4,14,15,16] [0,1] rfl rfl rfl ?_
 refine a ?_
 clear d a
 simp only [decide_eq_true_eq,decide_eq_false_iff_not,bne_iff_ne,ne_eq,bne_eq_false_iff_eq,Dz] at *
 simp [gcB]
 try omega):P:=h
theorem zqca23 {P:Prop} (h:P:=by
 subst a
 refine congrArg (fun q=>Res.ret (AVal.bool q)) ?_
 simp only [decide_eq_true_eq,decide_eq_false_iff_not] at *
 first | (rw [decide_eq_false o_];rfl) | (rw [decide_eq_true o_];rfl)):P:=h
theorem zqca24 {P:Prop} (h:P:=by
 exact c_ Tryz.f64 fun _=>zW):P:=h
theorem zqca25 {P:Prop} (h:P:=by
 refine gV ?_
 refine .eff [] [1,2] _ _ rfl (str_ok _ a _) ?_
 refine gV ?_
 rw [il]):P:=h
theorem zqca26 {P:Prop} (h:P:=by
 refine bV hE 8 ?_;conv=>whnf
 refine To.cutC [1,4] 1 rfl rfl rfl rfl ?_
 exact (fG x _ r a)):P:=h
theorem zqca27 {P:Prop} (h:P:=by
 replace a:=fW a b
 refine gV ?_
 refine aN ?_
 refine bV hE 10 ?_;conv=>whnf
 exact zqca7):P:=h
theorem zqca28 {P:Prop} (h:P:=by
 refine gV ?_
 refine aY ?_
 refine gW hE ?_;conv=>whnf):P:=h
theorem zqca29 {P:Prop} (h:P:=by
 simp only [h1] at b d
 have b:Res.pan (aV 10)=r:=b
 have d:rdU=O:=d
 subst b d
 refine .effp [] [0] _ _ rfl (sU h1) ?_
 exact ⟨[],[0],⟨rfl,rfl⟩,rfl,rfl⟩):P:=h
theorem zqca30 {P:Prop} (h:P:=by
 simp only [g] at d f
 have d:Res.pan (aV 10)=r:=d
 have f:rdU=O:=f
 subst d f
 refine .effp [] [0] _ _ rfl (bG g) ?_
 exact ⟨[],[0],⟨rfl,rfl⟩,rfl,rfl⟩):P:=h
theorem zqca31 {P:Prop} (h:P:=by
 refine gV ?_
 refine To.part [0,6,7,8] [0,1] rfl rfl rfl ?_
 exact uO l o_ c _ 1 o_ l.length 0 0 bs o_ (.inl rfl) (fun h=>by omega) (fun _=>rfl) o_ rfl):P:=h
theorem zqca32 {P:Prop} (h:P:=by
 refine gV ?_
 refine ⟨[],[0,1],⟨rfl,rfl⟩,?_⟩
 exact ⟨rfl,rfl⟩):P:=h
theorem zqca33 {P:Prop} (h:P:=by
 refine To.leave (f:=103) (args:=[.ref 1 0]) [] rfl [] [1] rfl (catch_pan 0 8) ?_
 exact To.left hE rfl rfl rfl):P:=h
theorem zqca34 {P:Prop} (h:P:=by
 have:w.drew.heap[b]? =some (.cells #[p,.slice (some ⟨g,0,none⟩) l.length a] tWr (0,0)):=h
 rw [Lib.cell_of_heap this];rfl):P:=h
theorem zqca35 {P:Prop} (h:P:=by
 replace a:=fW a h3
 refine bV hE 10 ?_;conv=>whnf
 exact zqca7):P:=h
theorem zqca36 {P:Prop} (h:P:=by
 exact absurd (of_decide_eq_false h) o_):P:=h
theorem zqca37 {P:Prop} (h:P:=by
 intro i k a
 refine gV ?_
 refine aF fun h=>?_
 refine gV ?_
 rw [Ae o_] at a
 rw [<-a]
 rfl):P:=h
theorem zqca38 {P:Prop} (h:P:=by
 refine gV ?_
 refine Ad (fun _=>?_) (fun h=>absurd h d_)
 refine To.loose ?_
 refine gV ?_
 exact zqca13):P:=h
theorem zqca39 {P:Prop} (h:P:=by
 exact absurd (of_decide_eq_true h) o_):P:=h
theorem zqca40 {P:Prop} (h:P:=by
 rw [Ae o_,Ae o_] at c
 subst c
 refine gV ?_
 exact zW):P:=h
theorem zqca41 {P:Prop} (h:P:=by
 refine bV hEc 2 ?_;conv=>whnf
 refine To.cutC [1,2] 2 rfl rfl rfl rfl ?_
 exact (aEK x r a)):P:=h
theorem zqca42 {P:Prop} (h:P:=by
 simp only [h1] at d f
 have d:Res.pan (aV 10)=r:=d
 have f:rdU=O:=f
 subst d f
 exact zqca11):P:=h
theorem zqca43 {P:Prop} (h:P:=by
 simp only [h3] at b d
 have b:Res.pan (aV 10)=r:=b
 have d:rdU=O:=d
 subst b d
 exact zqca10):P:=h
theorem zqca44 {P:Prop} (h:P:=by
 refine bV hEc 2 ?_;conv=>whnf
 refine To.cutC [1,2] 2 rfl rfl rfl rfl ?_
 exact (aEJ x r a)):P:=h
theorem zqca45 {P:Prop} (h:P:=by
 rw [e] at a d
 have a:false=b:=a
 subst a
 refine gV ?_
 exact zW):P:=h
theorem zqca46 {P:Prop} (h:P:=by
 have a:R=false:=a
 subst a
 exact c_ Tryz.f74 fun _=>zW):P:=h
theorem zqca47 {P:Prop} (h:P:=by
 refine .effp [] [0] _ _ rfl (iB h1) ?_
 exact ⟨[],[0],⟨rfl,rfl⟩,rfl,rfl⟩):P:=h
theorem zqca48 {P:Prop} (h:P:=by
 refine .effp [] [0] _ _ rfl (bG l) ?_
 exact ⟨[],[0],⟨rfl,rfl⟩,rfl,rfl⟩):P:=h
theorem zqca49 {P:Prop} (h:P:=by
 refine .effp [] [0] _ _ rfl (sL j) ?_
 exact ⟨[],[0],⟨rfl,rfl⟩,rfl,rfl⟩):P:=h
theorem zqca50 {P:Prop} (h:P:=by
 refine .effp [] [0] _ _ rfl (bG p) ?_
 exact ⟨[],[0],⟨rfl,rfl⟩,rfl,rfl⟩):P:=h
theorem zqca51 {P:Prop} (h:P:=by
 refine .effp [] [0] _ _ rfl (sL l) ?_
 exact ⟨[],[0],⟨rfl,rfl⟩,rfl,rfl⟩):P:=h
theorem zqca52 {P:Prop} (h:P:=by
 refine .effp [] [0] _ _ rfl (bG j) ?_
 exact ⟨[],[0],⟨rfl,rfl⟩,rfl,rfl⟩):P:=h
theorem zqca53 {P:Prop} (h:P:=by
 refine gV ?_
 refine To.part [1,7,69,70,71] [0,1] rfl rfl rfl ?_
 exact next):P:=h
structure Cmd where
 k:Int
 c:Con
 g:Gan
 n:Int
 deriving DecidableEq
def Cmd.cs (x:Cmd):List AVal:=[ii x.k,.slice 11 (nav x.c.ns) .no,.slice 6 (hav x.c.hs) .no,ii x.c.half,ii x.c.age,ii x.g.id,ii x.g.ten,ii x.g.pods,ii x.g.need.a,ii x.g.need.b,ii x.g.need.c,ii x.g.run,ii x.g.lev,ii x.g.pref,ii x.n]
def Cmd.av (x:Cmd):AVal:=.agg x.cs
def oZ (x:Int):Bool:=decide (0<=x)&&decide (x<=1099511627776)
def okI:List Int->Bool
 | []=>true
 | x::r=>oZ x&&okI r
def V3.l (v:V3):List Int:=[v.a,v.b,v.c]
def Nod.ok (x:Nod):Bool:=(decide (-1<=x.p)&&decide (x.p<=1099511627776))&&okI [x.w]&&okI x.n.l&&okI x.b.l&&okI x.l.l
def Hos.ok (x:Hos):Bool:=okI [x.f,x.b,x.r]&&okI x.c.l
def HL:List Nod->Bool
 | []=>true
 | x::r=>x.ok&&HL r
def tU:List Hos->Bool
 | []=>true
 | x::r=>x.ok&&tU r
def Con.tok (c:Con):Bool:=HL c.ns&&tU c.hs&&okI [c.half,c.age]
def Gan.ok (g:Gan):Bool:=okI [g.id,g.ten,g.pods,g.run,g.lev,g.pref]&&okI g.need.l
def Con.none (c:Con):Bool:=decide ((c.ns.length:Int)=0)&&decide ((c.hs.length:Int)=0)&&decide (c.half=0)&&decide (c.age=0)
def Gan.zero:Gan:=⟨0,0,0,⟨0,0,0⟩,0,0,0⟩
end Go.Proofs.YticlgfdibfobdaaGreat
namespace Go.Proofs.YticlgfdibfobdaaGreat.C8
open Go Go.AW Go.Proofs
set_option maxRecDepth 10000
def aV (e:Int):AVal:=.iface 235 (.agg [ii e])
theorem eX (b:Bool) (e:Int) (h:b=true):aA Tryz.prog 104 [.bool b,ii e] [] (.ret (.tup [])) []:=by
 subst h
 refine c_ Tryz.f104 fun _=>?_
 refine gV ?_
 refine ⟨fun h=>absurd h d_,fun h=>?_⟩
 refine gW hE ?_;conv=>whnf
theorem cW (b:Bool) (e:Int) (h:b=false):aA Tryz.prog 104 [.bool b,ii e] [] (.pan (aV e)) []:=by
 subst h
 refine c_ Tryz.f104 fun _=>?_
 refine gV ?_
 refine ⟨fun h=>?_,fun h=>absurd h d_⟩
 refine gV ?_
 rfl
def aEj (l:List Int):Res:=if okI l then .ret (.tup []) else .pan (aV 1)
theorem R1 (l:List Int) (hl:((iv l).length:Int)<=9223372036854775807) (r:Res):∀ (n i:Nat),i+n=l.length->aEj (l.drop i)=r->
  To E Tryz.f107 (.pure r) (.head (stk Tryz.f107 0) [(4,.slice 1 (iv l) .no),(5,.int .i64 ((iv l).length:Nat)),(6,.int .i64 i)] []):=by
 have d:(iv l).length=l.length:=by simp
 intro n
 induction n with
 | zero=>
  intro i g a
  rw [Ae o_] at a
  refine gV ?_
  refine ⟨fun h=>absurd (of_decide_eq_true h) o_,fun h=>?_⟩
  refine gV ?_
  exact a
 | succ n e=>
  intro i g a
  have b:i<l.length:=o_
  rw [Ac b] at a
  have a:(if oZ l[i]&&okI (l.drop (i+1)) then Res.ret (.tup []) else .pan (aV 1))=r:=a
  refine gV ?_
  refine ⟨fun h=>?_,fun h=>absurd (of_decide_eq_false h) o_⟩
  refine gV ?_
  refine ⟨i,rfl,?_⟩
  refine gV ?_
  refine ⟨_,cH b,?_⟩
  refine gV ?_
  refine ⟨fun h1=>?_,fun h1=>?_⟩
  .refine gV ?_
   rcases Dq (decide (l[i]<=1099511627776)) with c | c
   .refine .pure _ [] (eX _ _ c) ?_
    refine gV ?_
    refine .inl ⟨⟨by simp only [cL];omega,by simp only [bI];omega⟩,?_⟩
    refine gV ?_
    refine To.head [4,5,6] ?_
    refine e (i+1) o_ ?_
    have h3:oZ l[i]=true:=by unfold oZ;rw [c];simpa using h1
    rw [h3,Cd] at a
    exact a
   .refine .pan _ (cW _ _ c) ?_
    have h3:oZ l[i]=false:=by unfold oZ;rw [c];simp
    rw [h3] at a
    exact a
  .refine gV ?_
   refine .pan _ (cW _ _ rfl) ?_
   have h3:oZ l[i]=false:=by
    unfold oZ
    have:decide (0<=l[i])=false:=h1
    rw [this];rfl
   rw [h3] at a
   exact a
theorem H5 (l:List Int) (r:Res) (b:aEj l=r):aA Tryz.prog 107 [.slice 1 (iv l) .no] [] r []:=by
 refine c_ Tryz.f107 fun c=>?_
 have a:=R1 l c.1 _ l.length 0 o_ b
 exact zW
theorem iF (l:List Int) (h:okI l=true):aA Tryz.prog 107 [.slice 1 (iv l) .no] [] (.ret (.tup [])) []:=H5 l _ (if_pos h)
theorem fN (l:List Int) (h:okI l=false):aA Tryz.prog 107 [.slice 1 (iv l) .no] [] (.pan (aV 1)) []:=H5 l _ (if_neg (by rw [h];simp))
def oR (b:Bool):Res:=if b then .ret (.tup []) else .pan (aV 1)
theorem AF {b:Bool} {r:Res} (a:oR b=r) (h:b=false):Res.pan (aV 1)=r:=by subst h;exact a
theorem OC (c:Con) (r:Res) (hl:((hav c.hs).length:Int)<=9223372036854775807):∀ (n i:Nat),i+n=c.hs.length->oR (tU (c.hs.drop i)&&okI [c.half,c.age])=r->
  To E Tryz.f105 (.pure r) (.head (stk Tryz.f105 1) [(1,.ref 0 0),(37,.slice 6 (hav c.hs) .no),(38,.int .i64 ((hav c.hs).length:Nat)),(39,.int .i64 i)] [.cells 26 c.cs]):=by
 have g:(hav c.hs).length=c.hs.length:=by simp
 intro n
 induction n with
 | zero=>
  intro i m a
  rw [Ae o_] at a
  refine gV ?_
  refine ⟨fun h=>absurd (of_decide_eq_true h) o_,fun h=>?_⟩
  refine gV ?_
  cases d:okI [c.half,c.age] with
  | true=>
   refine .pure _ [] (aA.strip (iF [c.half,c.age] d)) ?_
   refine gV ?_
   rw [d] at a
   exact a
  | false=>
   refine .pan _ (aA.strip (fN [c.half,c.age] d)) ?_
   rw [d] at a
   exact a
 | succ n j=>
  intro i m a
  have e:i<c.hs.length:=o_
  rw [Ac e] at a
  have a:oR ((c.hs[i].ok&&tU (c.hs.drop (i+1)))&&okI [c.half,c.age])=r:=a
  generalize k:c.hs[i]=x at a
  refine gV ?_
  refine ⟨fun h=>?_,fun h=>absurd (of_decide_eq_false h) o_⟩
  refine gV ?_
  refine ⟨i,rfl,?_⟩
  refine gV ?_
  refine ⟨_,(nI e).trans (by rw [k]),?_⟩
  refine gV ?_
  cases d:okI [x.f,x.b,x.r] with
  | false=>
   refine .pan _ (aA.strip (fN [x.f,x.b,x.r] d)) ?_
   exact AF a (by unfold Hos.ok;rw [d];rfl)
  | true=>
   refine .pure _ [] (aA.strip (iF [x.f,x.b,x.r] d)) ?_
   refine gV ?_
   refine ⟨by decide,?_⟩
   refine gV ?_
   cases h3:okI x.c.l with
   | false=>
    refine .pan _ (aA.strip (fN x.c.l h3)) ?_
    exact AF a (by unfold Hos.ok;rw [d,h3];rfl)
   | true=>
    refine .pure _ [] (aA.strip (iF x.c.l h3)) ?_
    refine gV ?_
    refine .inl ⟨⟨by simp only [cL];omega,by simp only [bI];omega⟩,?_⟩
    refine gV ?_
    refine To.cut [1,37,38,39] 1 rfl rfl rfl rfl ?_
    refine j (i+1) o_ ?_
    have:x.ok=true:=by unfold Hos.ok;rw [d,h3];rfl
    rw [this,Cd] at a
    exact a
theorem UR (c:Con) (r:Res) (hl:((nav c.ns).length:Int)<=9223372036854775807) (s:((hav c.hs).length:Int)<=9223372036854775807):∀ (n i:Nat),i+n=c.ns.length->oR (HL (c.ns.drop i)&&(tU c.hs&&okI [c.half,c.age]))=r->
  To E Tryz.f105 (.pure r) (.head (stk Tryz.f105 0) [(1,.ref 0 0),(7,.slice 11 (nav c.ns) .no),(8,.int .i64 ((nav c.ns).length:Nat)),(9,.int .i64 i)] [.cells 26 c.cs]):=by
 have q:(nav c.ns).length=c.ns.length:=by simp
 intro n
 induction n with
 | zero=>
  intro i v d
  rw [Ae o_] at d
  refine gV ?_
  refine ⟨fun h=>absurd (of_decide_eq_true h) o_,fun h=>?_⟩
  have o:=OC c r s c.hs.length 0 o_ d
  exact zW
 | succ n u=>
  intro i v d
  have e:i<c.ns.length:=o_
  rw [Ac e] at d
  have d:oR ((c.ns[i].ok&&HL (c.ns.drop (i+1)))&&(tU c.hs&&okI [c.half,c.age]))=r:=d
  generalize y:c.ns[i]=x at d
  have a:x.ok=false->Res.pan (aV 1)=r:=fun h=>AF d (by rw [h];rfl)
  refine gV ?_
  refine ⟨fun h=>?_,fun h=>absurd (of_decide_eq_false h) o_⟩
  refine gV ?_
  refine ⟨i,rfl,?_⟩
  refine gV ?_
  refine ⟨_,(eW e).trans (by rw [y]),?_⟩
  refine gV ?_
  refine ⟨fun h1=>?_,fun h1=>?_⟩
  .have h1:decide (-1<=x.p)=true:=h1
   refine gV ?_
   rcases Dq (decide (x.p<=1099511627776)) with g | g
   .refine .pure _ [] (eX _ _ g) ?_
    refine gV ?_
    cases h3:okI [x.w] with
    | false=>
     refine .pan _ (aA.strip (fN [x.w] h3)) ?_
     exact a (by unfold Nod.ok;rw [h3];simp)
    | true=>
    refine .pure _ [] (aA.strip (iF [x.w] h3)) ?_
    refine gV ?_
    refine ⟨by decide,?_⟩
    refine gV ?_
    cases k:okI x.n.l with
    | false=>
     refine .pan _ (aA.strip (fN x.n.l k)) ?_
     exact a (by unfold Nod.ok;rw [k];simp)
    | true=>
    refine .pure _ [] (aA.strip (iF x.n.l k)) ?_
    refine gV ?_
    refine ⟨by decide,?_⟩
    refine gV ?_
    cases j:okI x.b.l with
    | false=>
     refine .pan _ (aA.strip (fN x.b.l j)) ?_
     exact a (by unfold Nod.ok;rw [j];simp)
    | true=>
    refine .pure _ [] (aA.strip (iF x.b.l j)) ?_
    refine gV ?_
    refine ⟨by decide,?_⟩
    refine gV ?_
    cases m:okI x.l.l with
    | false=>
     refine .pan _ (aA.strip (fN x.l.l m)) ?_
     exact a (by unfold Nod.ok;rw [m];simp)
    | true=>
    refine .pure _ [] (aA.strip (iF x.l.l m)) ?_
    refine gV ?_
    refine .inl ⟨⟨by simp only [cL];omega,by simp only [bI];omega⟩,?_⟩
    refine gV ?_
    refine To.cut [1,7,8,9] 1 rfl rfl rfl rfl ?_
    refine u (i+1) o_ ?_
    have:x.ok=true:=by unfold Nod.ok;rw [h1,g,h3,k,j,m];rfl
    rw [this,Cd] at d
    exact d
   .refine .pan _ (cW _ _ g) ?_
    exact a (by unfold Nod.ok;rw [g];simp)
  .have h1:decide (-1<=x.p)=false:=h1
   refine gV ?_
   refine .pan _ (cW _ _ rfl) ?_
   exact a (by unfold Nod.ok;rw [h1];simp)
theorem RH (c:Con) (M:Imm) (ob:Hs) (vs:List Value) (h:cD M ob vs [c.av]):((nav c.ns).length:Int)<=9223372036854775807/\((hav c.hs).length:Int)<=9223372036854775807:=by
 have hl:0<vs.length:=by rw [h.1];simp
 have:=h.2 0 _ c.av (Aa hl) rfl
 exact ⟨bZ this 0 _ rfl,bZ this 1 _ rfl⟩
theorem B1 (c:Con) (r:Res) (d:oR c.tok=r):aA Tryz.prog 105 [c.av] [] r []:=by
 refine aA.get _ (RH c) fun ⟨hl,b⟩=>?_
 refine c_ Tryz.f105 fun _=>?_
 have a:=UR c r hl b c.ns.length 0 o_ (by rw [<-d];unfold Con.tok;rw [Gr];rfl)
 exact zW
theorem UQ (c:Con) (h:c.tok=true):aA Tryz.prog 105 [c.av] [] (.ret (.tup [])) []:=B1 c _ (if_pos h)
theorem OA (c:Con) (h:c.tok=false):aA Tryz.prog 105 [c.av] [] (.pan (aV 1)) []:=B1 c _ (if_neg (by rw [h];simp))
theorem KH (x:Gan) (r:Res) (b:oR x.ok=r):aA Tryz.prog 106 [x.av] [] r []:=by
 refine c_ Tryz.f106 fun _=>?_
 refine gV ?_
 cases h1:okI [x.id,x.ten,x.pods,x.run,x.lev,x.pref] with
 | false=>
  refine .pan _ (aA.strip (fN [x.id,x.ten,x.pods,x.run,x.lev,x.pref] h1)) ?_
  exact AF b (by unfold Gan.ok;rw [h1];rfl)
 | true=>
  refine .pure _ [] (aA.strip (iF [x.id,x.ten,x.pods,x.run,x.lev,x.pref] h1)) ?_
  refine gV ?_
  refine ⟨by decide,?_⟩
  refine gV ?_
  cases a:okI x.need.l with
  | false=>
   refine .pan _ (aA.strip (fN x.need.l a)) ?_
   exact AF b (by unfold Gan.ok;rw [h1,a];rfl)
  | true=>
   refine .pure _ [] (aA.strip (iF x.need.l a)) ?_
   refine gV ?_
   rw [<-b];unfold Gan.ok;rw [h1,a];rfl
theorem aDc (x:Gan) (h:x.ok=true):aA Tryz.prog 106 [x.av] [] (.ret (.tup [])) []:=KH x _ (if_pos h)
theorem ZY (x:Gan) (h:x.ok=false):aA Tryz.prog 106 [x.av] [] (.pan (aV 1)) []:=KH x _ (if_neg (by rw [h];simp))
theorem catch_ret (x:Int):wS Tryz.prog 103 [.ref 0 0] [.cells 43 [ii x]] none [.cells 43 [ii x]]:=by
 refine wS.of (E:=E) (fn:=Tryz.f103) (n0:=1) (r:=.tup []) (by rfl) (by rfl) (by rfl) (fun _ _=>by rfl) (by rfl) (by decide+kernel) (by rfl) (by rfl) (by rfl) (by rfl) fun _=>?_
 refine gV ?_
 refine ⟨fun _=>?_,fun h=>absurd h d_⟩
 exact zW
theorem catch_pan (x e:Int):wS Tryz.prog 103 [.ref 0 0] [.cells 43 [ii x]] (some (aV e)) [.cells 43 [ii e]]:=by
 refine wS.of (E:=E) (fn:=Tryz.f103) (n0:=1) (r:=.tup []) (by rfl) (by rfl) (by rfl) (fun _ _=>by rfl) (by rfl) (by decide+kernel) (by rfl) (by rfl) (by rfl) (by rfl) fun _=>?_
 refine gV ?_
 refine ⟨fun h=>absurd h d_,fun _=>?_⟩
 refine gV ?_
 refine ⟨fun _=>?_,fun h=>absurd h d_⟩
 exact zW
def _root_.Go.Proofs.YticlgfdibfobdaaGreat.Gan.isZ (g:Gan):Bool:=((g.id==0)&&((g.ten==0)&&((g.pods==0)&&((g.need.a==0)&&((g.need.b==0)&&((g.need.c==0)&&((g.run==0)&&((g.lev==0)&&((g.pref==0)&&true)))))))))
def xG (x:Cmd):Int:=if decide (((nav x.c.ns).length:Int)<=12)&&decide (((hav x.c.hs).length:Int)<=24) then 0 else 8
def K5 (x:Cmd):Int:=if okI [x.n] then xG x else 1
def oC (x:Cmd):Int:=if x.g.ok then K5 x else 1
def sC (x:Cmd):Int:=if x.c.tok then oC x else 1
def K7 (x:Cmd):Int:=if ((x.k==3||x.k==4)||x.k==5)||x.n==0 then sC x else 1
def K8 (x:Cmd):Int:=if x.k==2||x.g.isZ then K7 x else 1
def _root_.Go.Proofs.YticlgfdibfobdaaGreat.Con.non (c:Con):Bool:=((((nav c.ns).length:Int)==0&&((hav c.hs).length:Int)==0)&&c.half==0)&&c.age==0
def K9 (x:Cmd):Int:=if x.k==1||x.c.non then K8 x else 1
def chk (x:Cmd):Int:=if decide (1<=x.k)&&decide (x.k<=6) then K9 x else 1
abbrev chF:List (Nat×AVal):=[(1,.ref 0 0),(2,.ref 1 0)]
abbrev chO (x:Cmd):List AObj:=[.cells 38 x.cs,.cells 43 [ii 0]]
noncomputable abbrev Ec:Env:=Ed [(103,[.ref 1 0])]
theorem hEc:EnvOK Ec:=hEd _
theorem aDT (x:Cmd) (r:Int) (h:0=r):To Ec Tryz.f37 (.pure (.ret (ii r))) (.code (fY Tryz.f37 9) chF (chO x)):=by
 subst h
 refine gW hEc ?_;conv=>whnf
 refine To.leave (f:=103) (args:=[.ref 1 0]) [] rfl [] [1] rfl (catch_ret 0) ?_
 exact To.left hE rfl rfl rfl
theorem aHU (x:Cmd) (r:Int) (a:xG x=r):To Ec Tryz.f37 (.pure (.ret (ii r))) (.code (fY Tryz.f37 8) chF (chO x)):=by
 unfold xG at a
 refine gW hEc ?_;conv=>whnf
 refine ⟨fun h1=>?_,fun h1=>?_⟩
 .refine gW hEc ?_;conv=>whnf
  rcases Dq (decide (((hav x.c.hs).length:Int)<=24)) with b | b
  .rw [b,h1] at a
   refine .pure _ [] (eX _ _ b) ?_
   refine bV hEc 2 ?_;conv=>whnf
   refine To.cutC [1,2] 2 rfl rfl rfl rfl ?_
   exact (aDT x r a)
  .rw [b,Bn] at a
   subst a
   refine .pan _ (cW _ _ b) ?_;conv=>whnf
   exact zqca33
 .rw [h1,Ct] at a
  subst a
  refine gW hEc ?_;conv=>whnf
  refine .pan _ (cW _ _ rfl) ?_;conv=>whnf
  exact zqca33
theorem aHV (x:Cmd) (r:Int) (a:K5 x=r):To Ec Tryz.f37 (.pure (.ret (ii r))) (.code (fY Tryz.f37 7) chF (chO x)):=by
 unfold K5 at a
 refine gW hEc ?_;conv=>whnf
 cases h:okI [x.n] with
 | true=>
  rw [h] at a
  refine .pure _ [] (aA.strip (iF [x.n] h)) ?_
  refine bV hEc 2 ?_;conv=>whnf
  refine To.cutC [1,2] 2 rfl rfl rfl rfl ?_
  exact (aHU x r a)
 | false=>
  rw [h] at a
  subst a
  refine .pan _ (aA.strip (fN [x.n] h)) ?_;conv=>whnf
  exact zqca1
theorem aHW (x:Cmd) (r:Int) (a:oC x=r):To Ec Tryz.f37 (.pure (.ret (ii r))) (.code (fY Tryz.f37 6) chF (chO x)):=by
 unfold oC at a
 refine gW hEc ?_;conv=>whnf
 cases h:x.g.ok with
 | true=>
  rw [h] at a
  refine .pure _ [] (aDc x.g h) ?_
  refine bV hEc 2 ?_;conv=>whnf
  refine To.cutC [1,2] 2 rfl rfl rfl rfl ?_
  exact (aHV x r a)
 | false=>
  rw [h] at a
  subst a
  refine .pan _ (ZY x.g h) ?_;conv=>whnf
  exact zqca1
theorem RJ (x:Cmd) (r:Int) (a:sC x=r):To Ec Tryz.f37 (.pure (.ret (ii r))) (.code (fY Tryz.f37 5) chF (chO x)):=by
 unfold sC at a
 refine gW hEc ?_;conv=>whnf
 cases h:x.c.tok with
 | true=>
  rw [h] at a
  refine .pure _ [] (UQ x.c h) ?_
  refine bV hEc 2 ?_;conv=>whnf
  refine To.cutC [1,2] 2 rfl rfl rfl rfl ?_
  exact (aHW x r a)
 | false=>
  rw [h] at a
  subst a
  refine .pan _ (OA x.c h) ?_;conv=>whnf
  exact zqca1
theorem dO {b:Bool} {p q r:Int} (a:(if b then p else q)=r) (h:b=true):p=r:=by subst h;exact a
theorem fW {b:Bool} {p q r:Int} (a:(if b then p else q)=r) (h:b=false):q=r:=by subst h;exact a
theorem aEJ (x:Cmd) (r:Int) (a:K7 x=r):To Ec Tryz.f37 (.pure (.ret (ii r))) (.code (fY Tryz.f37 4) chF (chO x)):=by
 unfold K7 at a
 refine gW hEc ?_;conv=>whnf
 refine ⟨fun h1=>?_,fun h1=>?_⟩
 .have h1:(x.k==3)=true:=h1
  replace a:=dO a (by simp [h1])
  refine gW hEc ?_;conv=>whnf
  refine aY ?_
  refine gW hEc ?_;conv=>whnf
  refine aY ?_
  exact zqca14
 .have h1:(x.k==3)=false:=h1
  refine gW hEc ?_;conv=>whnf
  refine ⟨fun b=>?_,fun b=>?_⟩
  .have b:(x.k==4)=true:=b
   replace a:=dO a (by simp [b])
   refine gW hEc ?_;conv=>whnf
   refine aY ?_
   exact zqca14
  .have b:(x.k==4)=false:=b
   refine gW hEc ?_;conv=>whnf
   refine ⟨fun h3=>?_,fun h3=>?_⟩
   .have h3:(x.k==5)=true:=h3
    replace a:=dO a (by simp [h3])
    exact zqca14
   .have h3:(x.k==5)=false:=h3
    refine gW hEc ?_;conv=>whnf
    refine (Dq (x.n==0)).elim (fun c=>?_) (fun c=>?_)
    .replace a:=dO a (by simp [c])
     refine .pure _ [] (eX _ _ c) ?_
     refine bV hEc 2 ?_;conv=>whnf
     refine To.cutC [1,2] 2 rfl rfl rfl rfl ?_
     exact (RJ x r a)
    .replace a:=fW a (by simp [h1,b,h3,c])
     subst a
     refine .pan _ (cW _ _ c) ?_;conv=>whnf
     exact zqca1
theorem aEK (x:Cmd) (r:Int) (a:K8 x=r):To Ec Tryz.f37 (.pure (.ret (ii r))) (.code (fY Tryz.f37 3) chF (chO x)):=by
 unfold K8 at a
 refine gW hEc ?_;conv=>whnf
 refine ⟨fun h1=>?_,fun h1=>?_⟩
 .have h1:(x.k==2)=true:=h1
  replace a:=dO a (by simp [h1])
  refine gW hEc ?_;conv=>whnf
  refine .pure _ [] (eX _ _ rfl) ?_
  exact zqca44
 .have h1:(x.k==2)=false:=h1
  refine gW hEc ?_;conv=>whnf
  refine (Dq x.g.isZ).elim (fun b=>?_) (fun b=>?_)
  .replace a:=dO a (by simp [b])
   refine .pure _ [] (eX _ _ b) ?_
   exact zqca44
  .replace a:=fW a (by simp [h1,b])
   subst a
   refine .pan _ (cW _ _ b) ?_;conv=>whnf
   exact zqca1
theorem aHX (x:Cmd) (r:Int) (a:K9 x=r):To Ec Tryz.f37 (.pure (.ret (ii r))) (.code (fY Tryz.f37 2) chF (chO x)):=by
 unfold K9 Con.non at a
 refine gW hEc ?_;conv=>whnf
 refine ⟨fun h1=>?_,fun h1=>?_⟩
 .have h1:(x.k==1)=true:=h1
  replace a:=dO a (by rw [h1];rfl)
  refine gW hEc ?_;conv=>whnf
  refine .pure _ [] (eX _ _ rfl) ?_
  exact zqca41
 .have h1:(x.k==1)=false:=h1
  refine gW hEc ?_;conv=>whnf
  refine ⟨fun d=>?_,fun d=>?_⟩
  .have d:(((nav x.c.ns).length:Int)==0)=true:=d
   refine gW hEc ?_;conv=>whnf
   refine ⟨fun h3=>?_,fun h3=>?_⟩
   .have h3:(((hav x.c.hs).length:Int)==0)=true:=h3
    refine gW hEc ?_;conv=>whnf
    refine ⟨fun b=>?_,fun b=>?_⟩
    .have b:(x.c.half==0)=true:=b
     refine gW hEc ?_;conv=>whnf
     refine (Dq (x.c.age==0)).elim (fun e=>?_) (fun e=>?_)
     .replace a:=dO a (by rw [h1,d,h3,b,e];rfl)
      refine .pure _ [] (eX _ _ e) ?_
      exact zqca41
     .replace a:=fW a (by rw [h1,e,Bn];rfl)
      subst a
      refine .pan _ (cW _ _ e) ?_;conv=>whnf
      exact zqca1
    .have b:(x.c.half==0)=false:=b
     replace a:=fW a (by rw [h1,b,Bn,Ct];rfl)
     subst a
     exact zqca21
   .have h3:(((hav x.c.hs).length:Int)==0)=false:=h3
    replace a:=fW a (by rw [h1,h3,Bn];rfl)
    subst a
    refine gW hEc ?_;conv=>whnf
    refine aN ?_
    exact zqca21
  .have d:(((nav x.c.ns).length:Int)==0)=false:=d
   replace a:=fW a (by rw [h1,d];rfl)
   subst a
   refine gW hEc ?_;conv=>whnf
   refine aN ?_
   refine gW hEc ?_;conv=>whnf
   refine aN ?_
   exact zqca21
theorem aHY (x:Cmd) (r:Int) (a:chk x=r):To Ec Tryz.f37 (.pure (.ret (ii r))) (.code (fY Tryz.f37 1) chF (chO x)):=by
 unfold chk at a
 refine gW hEc ?_;conv=>whnf
 refine ⟨fun h1=>?_,fun h1=>?_⟩
 .have h1:decide (1<=x.k)=true:=h1
  refine gW hEc ?_;conv=>whnf
  refine (Dq (decide (x.k<=6))).elim (fun b=>?_) (fun b=>?_)
  .rw [h1,b] at a
   refine .pure _ [] (eX _ _ b) ?_
   refine bV hEc 2 ?_;conv=>whnf
   refine To.cutC [1,2] 2 rfl rfl rfl rfl ?_
   exact (aHX x r a)
  .rw [b,Bn] at a
   subst a
   refine .pan _ (cW _ _ b) ?_;conv=>whnf
   exact zqca1
 .have h1:decide (1<=x.k)=false:=h1
  rw [h1,Ct] at a
  subst a
  exact zqca21
theorem vF (x:Cmd) (r:Int) (a:chk x=r):aA Tryz.prog 37 [x.av] [] (.ret (ii r)) []:=by
 refine c_ Tryz.f37 fun _=>?_
 refine gV ?_
 refine To.defer (f:=103) (args:=[.ref 1 0]) _ rfl rfl ?_
 refine To.cutC [1,2] 2 rfl rfl rfl rfl ?_
 exact aHY x r a
theorem check_ok (x:Cmd):aA Tryz.prog 37 [x.av] [] (.ret (ii (chk x))) []:=vF x _ rfl
theorem GN (l:List Int) (hl:((iv l).length:Int)<=9223372036854775807) (r:Bool):∀ (n i:Nat),i+n=l.length->okI (l.drop i)=r->
  To E Tryz.f61 (.pure (.ret (.bool r))) (.head (stk Tryz.f61 0) [(0,.slice 1 (iv l) .no),(3,.int .i64 i)] []):=by
 have e:(iv l).length=l.length:=by simp
 intro n
 induction n with
 | zero=>
  intro i j a
  rw [Ae o_] at a
  subst a
  refine gV ?_
  refine ⟨fun h=>absurd (of_decide_eq_true h) o_,fun h=>?_⟩
  refine gV ?_
  rfl
 | succ n g=>
  intro i j a
  have c:i<l.length:=o_
  rw [Ac c] at a
  have a:(oZ l[i]&&okI (l.drop (i+1)))=r:=a
  generalize k:l[i]=x at a
  have get:(iv l)[i]? =some (ii x):=(cH c).trans (by rw [k])
  refine gV ?_
  refine ⟨fun h=>?_,fun h=>absurd (of_decide_eq_false h) o_⟩
  refine gV ?_
  refine ⟨i,rfl,?_⟩
  refine gV ?_
  refine ⟨_,get,?_⟩
  refine gV ?_
  refine ⟨fun h1=>?_,fun h1=>?_⟩
  .have h1:decide (x<0)=true:=h1
   have h3:oZ x=false:=by
    have:=of_decide_eq_true h1
    unfold oZ
    rw [decide_eq_false o_];rfl
   rw [h3] at a
   subst a
   refine gV ?_
   refine ⟨fun _=>?_,fun h=>absurd h d_⟩
   refine gV ?_
   rfl
  .have h1:decide (x<0)=false:=h1
   have h1:=of_decide_eq_false h1
   refine gV ?_
   refine ⟨i,rfl,?_⟩
   refine gV ?_
   refine ⟨_,get,?_⟩
   refine gV ?_
   refine ⟨fun b=>?_,fun b=>?_⟩
   .have b:decide (1099511627776<x)=true:=b
    have h3:oZ x=false:=by
     have:=of_decide_eq_true b
     unfold oZ
     rw [decide_eq_false (p:=x<=1099511627776) o_,Bn]
    rw [h3] at a
    subst a
    refine gV ?_
    rfl
   .have b:decide (1099511627776<x)=false:=b
    have b:=of_decide_eq_false b
    have h3:oZ x=true:=by
     unfold oZ
     rw [decide_eq_true o_,decide_eq_true o_];rfl
    rw [h3,Cd] at a
    refine gV ?_
    refine .inl ⟨⟨by simp only [cL];omega,by simp only [bI];omega⟩,?_⟩
    have d:=g (i+1) o_ a
    exact zW
theorem wH (l:List Int):aA Tryz.prog 61 [.slice 1 (iv l) .no] [] (.ret (.bool (okI l))) []:=by
 refine c_ Tryz.f61 fun b=>?_
 have a:=GN l b.1 _ l.length 0 o_ rfl
 exact zW
theorem yK (v:V3):aA Tryz.prog 132 [.agg v.cs] [] (.ret (.bool (okI v.l))) []:=by
 refine c_ Tryz.f132 fun _=>?_
 refine gV ?_
 refine ⟨by decide,?_⟩
 refine gV ?_
 refine ⟨by decide,?_⟩
 refine gV ?_
 refine ⟨by decide,?_⟩
 refine gV ?_
 refine .pure _ [] (aA.strip (wH v.l)) ?_
 refine gW hE ?_;conv=>whnf
theorem W6 (g:Gan):aA Tryz.prog 60 [g.av] [] (.ret (.bool g.ok)) []:=by
 refine c_ Tryz.f60 fun _=>?_
 refine gV ?_
 refine .pure _ [] (aA.strip (wH [g.id,g.ten,g.pods,g.run,g.lev,g.pref])) ?_
 refine gV ?_
 refine ⟨fun h=>?_,fun h=>?_⟩
 .refine gV ?_
  refine .pure _ [] (yK g.need) ?_
  refine gV ?_
  unfold Gan.ok
  rw [h]
  rfl
 .refine gV ?_
  unfold Gan.ok
  rw [h]
  rfl
theorem pF (c:Con):aA Tryz.prog 59 [c.av] [] (.ret (.bool c.non)) []:=by
 refine c_ Tryz.f59 fun _=>?_
 unfold Con.non
 refine gV ?_
 refine ⟨fun h1=>?_,fun h1=>?_⟩
 .have h1:(((nav c.ns).length:Int)==0)=true:=h1
  refine gV ?_
  refine ⟨fun a=>?_,fun a=>?_⟩
  .have a:(((hav c.hs).length:Int)==0)=true:=a
   refine gV ?_
   refine ⟨fun h3=>?_,fun h3=>?_⟩
   .have h3:(c.half==0)=true:=h3
    refine gV ?_
    rw [h1,a,h3];rfl
   .have h3:(c.half==0)=false:=h3
    refine gV ?_
    rw [h1,a,h3];rfl
  .have a:(((hav c.hs).length:Int)==0)=false:=a
   refine gV ?_
   refine ⟨fun h=>absurd h d_,fun _=>?_⟩
   refine gV ?_
   rw [h1,a];rfl
 .have h1:(((nav c.ns).length:Int)==0)=false:=h1
  refine gV ?_
  refine ⟨fun h=>absurd h d_,fun _=>?_⟩
  refine gV ?_
  refine ⟨fun h=>absurd h d_,fun _=>?_⟩
  refine gV ?_
  rw [h1];rfl
theorem ML (c:Con) (o:((hav c.hs).length:Int)<=9223372036854775807) (r:Bool):∀ (n i:Nat),i+n=c.hs.length->(tU (c.hs.drop i)&&okI [c.half,c.age])=r->
  To E Tryz.f58 (.pure (.ret (.bool r))) (.head (stk Tryz.f58 1) [(1,.ref 0 0),(5,.int .i64 i)] [.cells 26 c.cs]):=by
 have j:(hav c.hs).length=c.hs.length:=by simp
 intro n
 induction n with
 | zero=>
  intro i m a
  rw [Ae o_] at a
  subst a
  refine gV ?_
  refine ⟨fun h=>absurd (of_decide_eq_true h) o_,fun h=>?_⟩
  refine gV ?_
  refine .pure _ [] (aA.strip (wH [c.half,c.age])) ?_
  refine gV ?_
  rfl
 | succ n k=>
  intro i m a
  have g:i<c.hs.length:=o_
  rw [Ac g] at a
  have a:((c.hs[i].ok&&tU (c.hs.drop (i+1)))&&okI [c.half,c.age])=r:=a
  generalize l:c.hs[i]=x at a
  have get:(hav c.hs)[i]? =some x.av:=(nI g).trans (by rw [l])
  have e:x.ok=false->r=false:=fun h=>by rw [h] at a;exact a.symm
  refine gV ?_
  refine ⟨fun h=>?_,fun h=>absurd (of_decide_eq_false h) o_⟩
  refine gV ?_
  refine ⟨i,rfl,?_⟩
  refine gV ?_
  refine ⟨_,get,?_⟩
  refine gV ?_
  refine .pure _ [] (aA.strip (wH [x.f,x.b,x.r])) ?_
  refine gV ?_
  refine ⟨fun h1=>?_,fun h1=>?_⟩
  .have h1:=iZ h1
   have:=e (by unfold Hos.ok;rw [h1];rfl)
   subst this
   exact zqca28
  .have h1:=jA h1
   refine gV ?_
   refine .pure _ [] (yK x.c) ?_
   refine gV ?_
   refine ⟨fun d=>?_,fun d=>?_⟩
   .have d:=iZ d
    have:=e (by unfold Hos.ok;rw [d,Bn])
    subst this
    refine gW hE ?_;conv=>whnf
   .have d:=jA d
    refine gV ?_
    refine .inl ⟨⟨by simp only [cL];omega,by simp only [bI];omega⟩,?_⟩
    refine gV ?_
    refine To.cut [1,5] 1 rfl rfl rfl rfl ?_
    refine k (i+1) o_ ?_
    have:x.ok=true:=by unfold Hos.ok;rw [h1,d];rfl
    rw [this,Cd] at a
    exact a
theorem SO (c:Con) (hl:((nav c.ns).length:Int)<=9223372036854775807) (s:((hav c.hs).length:Int)<=9223372036854775807) (r:Bool):∀ (n i:Nat),i+n=c.ns.length->(HL (c.ns.drop i)&&(tU c.hs&&okI [c.half,c.age]))=r->
  To E Tryz.f58 (.pure (.ret (.bool r))) (.head (stk Tryz.f58 0) [(1,.ref 0 0),(3,.int .i64 i)] [.cells 26 c.cs]):=by
 have q:(nav c.ns).length=c.ns.length:=by simp
 intro n
 induction n with
 | zero=>
  intro i v d
  rw [Ae o_] at d
  refine gV ?_
  refine ⟨fun h=>absurd (of_decide_eq_true h) o_,fun h=>?_⟩
  have o:=ML c s r c.hs.length 0 o_ d
  exact zW
 | succ n u=>
  intro i v d
  have m:i<c.ns.length:=o_
  rw [Ac m] at d
  have d:((c.ns[i].ok&&HL (c.ns.drop (i+1)))&&(tU c.hs&&okI [c.half,c.age]))=r:=d
  generalize y:c.ns[i]=x at d
  have get:(nav c.ns)[i]? =some x.av:=(eW m).trans (by rw [y])
  have a:x.ok=false->r=false:=fun h=>by rw [h] at d;exact d.symm
  refine gV ?_
  refine ⟨fun h=>?_,fun h=>absurd (of_decide_eq_false h) o_⟩
  refine gV ?_
  refine ⟨i,rfl,?_⟩
  refine gV ?_
  refine ⟨_,get,?_⟩
  refine gV ?_
  refine ⟨fun h1=>?_,fun h1=>?_⟩
  .have h1:decide (x.p< -1)=true:=h1
   have h1:=of_decide_eq_true h1
   have:=a (by unfold Nod.ok;rw [decide_eq_false (p:= -1<=x.p) o_];simp only [Ct])
   subst this
   exact zW
  .have h1:decide (x.p< -1)=false:=h1
   have h1:=of_decide_eq_false h1
   refine gV ?_
   refine ⟨fun e=>?_,fun e=>?_⟩
   .have e:decide (1099511627776<x.p)=true:=e
    have e:=of_decide_eq_true e
    have:=a (by unfold Nod.ok;rw [decide_eq_false (p:=x.p<=1099511627776) o_];simp only [Ct,Bn])
    subst this
    exact zW
   .have e:decide (1099511627776<x.p)=false:=e
    have e:=of_decide_eq_false e
    refine gV ?_
    refine .pure _ [] (aA.strip (wH [x.w])) ?_
    refine gV ?_
    refine ⟨fun h3=>?_,fun h3=>?_⟩
    .have h3:=iZ h3
     have:=a (by unfold Nod.ok;rw [h3];simp only [Ct,Bn])
     subst this
     refine gV ?_
     refine aY ?_
     refine gV ?_
     refine aY ?_
     exact zqca28
    .have h3:=jA h3
     refine gV ?_
     refine .pure _ [] (yK x.n) ?_
     refine gV ?_
     refine ⟨fun j=>?_,fun j=>?_⟩
     .have j:=iZ j
      have:=a (by unfold Nod.ok;rw [j];simp only [Ct,Bn])
      subst this
      refine gV ?_
      refine aY ?_
      exact zqca28
     .have j:=jA j
      refine gV ?_
      refine .pure _ [] (yK x.b) ?_
      refine gV ?_
      refine ⟨fun g=>?_,fun g=>?_⟩
      .have g:=iZ g
       have:=a (by unfold Nod.ok;rw [g];simp only [Ct,Bn])
       subst this
       exact zqca28
      .have g:=jA g
       refine gV ?_
       refine .pure _ [] (yK x.l) ?_
       refine gV ?_
       refine ⟨fun k=>?_,fun k=>?_⟩
       .have k:=iZ k
        have:=a (by unfold Nod.ok;rw [k];simp only [Bn])
        subst this
        refine gW hE ?_;conv=>whnf
       .have k:=jA k
        refine gV ?_
        refine .inl ⟨⟨by simp only [cL];omega,by simp only [bI];omega⟩,?_⟩
        refine gV ?_
        refine To.cut [1,3] 1 rfl rfl rfl rfl ?_
        refine u (i+1) o_ ?_
        have:x.ok=true:=by unfold Nod.ok;rw [h3,j,g,k,decide_eq_true (p:= -1<=x.p) o_,decide_eq_true (p:=x.p<=1099511627776) o_];rfl
        rw [this,Cd] at d
        exact d
theorem aDP (c:Con):aA Tryz.prog 58 [c.av] [] (.ret (.bool c.tok)) []:=by
 refine aA.get _ (RH c) fun ⟨hl,a⟩=>?_
 refine c_ Tryz.f58 fun _=>?_
 refine gV ?_
 refine To.cut [1,3] 1 rfl rfl rfl rfl ?_
 exact SO c hl a _ c.ns.length 0 o_ (by unfold Con.tok;rw [Gr];rfl)
def kN (r:Nat):Code->List KI->Option (List KI)
 | .region id o d,ks=>bif Ap id r then some (.code (.region id o d)::ks) else none
 | .seq a b,ks=>(match kN r a (.code b::ks) with | some x=>some x | none=>kN r b ks)
 | .cond _ a b,ks=>(match kN r a ks with | some x=>some x | none=>kN r b ks)
 | .block id b,ks=>kN r b (.inB id::ks)
 | .loop b,ks=>kN r b (.inL b::ks)
 | _,_=>none
def pO (fn:Func) (r:Nat):List KI:=match kN r (dA fn) [] with | some ks=>ks | none=>[]
theorem fG (x:Cmd) (b:Bool) (r:Int) (a:(if b then xG x else 1)=r):To E Tryz.f19 (.pure (.ret (ii r))) (.code (fY Tryz.f19 5) [(1,.ref 0 0),(4,.bool b)] [.cells 38 x.cs]):=by
 refine gV ?_
 refine ⟨fun h=>?_,fun h=>?_⟩
 .have h:=iZ h
  subst h
  refine gV ?_
  rw [<-a];rfl
 .have h:=jA h
  subst h
  have a:xG x=r:=a
  unfold xG at a
  refine gV ?_
  refine ⟨fun h1=>?_,fun h1=>?_⟩
  .have h1:decide ((12:Int)<((nav x.c.ns).length:Int))=true:=h1
   have h1:=of_decide_eq_true h1
   rw [decide_eq_false o_,Ct] at a
   subst a
   refine gV ?_
   refine aY ?_
   refine gV ?_
   rfl
  .have h1:decide ((12:Int)<((nav x.c.ns).length:Int))=false:=h1
   have h1:=of_decide_eq_false h1
   rw [decide_eq_true o_,Cd] at a
   refine gV ?_
   refine ⟨fun d=>?_,fun d=>?_⟩
   .have d:decide ((24:Int)<((hav x.c.hs).length:Int))=true:=d
    have d:=of_decide_eq_true d
    rw [decide_eq_false o_] at a
    subst a
    refine gV ?_
    rfl
   .have d:decide ((24:Int)<((hav x.c.hs).length:Int))=false:=d
    have d:=of_decide_eq_false d
    rw [decide_eq_true o_] at a
    subst a
    refine gV ?_
    rfl
theorem NJ {g:Gan} (h:g.isZ=true):g.ok=true:=by
 simp only [Gan.isZ,Af,beq_iff_eq,and_true] at h
 obtain ⟨h1,d,h3,b,i,c,a,e,f⟩:=h
 unfold Gan.ok V3.l
 rw [h1,d,h3,b,i,c,a,e,f]
 rfl
theorem aIf (x:Cmd) (r:Int) (a:chk x=r) (h1:(x.k==1)=true):To E Tryz.f19 (.pure (.ret (ii r))) (.code (pO Tryz.f19 5) [(1,.ref 0 0),(3,.ref 1 0)] [.cells 38 x.cs,.cells 36 Gan.zero.cs]):=by
 have h:x.k=1:=by simpa using h1
 have i:chk x=if x.g.isZ then (if x.n==0 then (if x.c.tok then oC x else 1) else 1) else 1:=by
  unfold chk K9 K8 K7 sC
  rw [h]
  rfl
 rw [i] at a
 refine gV ?_
 refine ⟨fun b=>?_,fun b=>?_⟩
 .have b:x.g.isZ=true:=b
  replace a:=dO a b
  refine gV ?_
  refine ⟨fun h3=>?_,fun h3=>?_⟩
  .have h3:(x.n==0)=true:=h3
   replace a:=dO a h3
   have d:x.n=0:=by simpa using h3
   have e:oC x=xG x:=by unfold oC K5;rw [NJ b,d];rfl
   rw [e] at a
   refine gV ?_
   refine .pure _ [] (aDP x.c) ?_
   exact zqca26
  .have h3:(x.n==0)=false:=h3
   exact zqca35
 .have b:x.g.isZ=false:=b
  exact zqca27
theorem NE {c:Con} (h:c.non=true):c.tok=true:=by
 simp only [Con.non,Af,beq_iff_eq] at h
 obtain ⟨⟨⟨h1,d⟩,h3⟩,b⟩:=h
 obtain ⟨ns,hs,half,age⟩:=c
 dsimp only at h1 d h3 b
 have f:ns=[]:=by cases ns with | nil=>rfl | cons a l=>simp at h1;omega
 have e:hs=[]:=by cases hs with | nil=>rfl | cons a l=>simp at d;omega
 subst f e h3 b
 rfl
theorem aIe (x:Cmd) (r:Int) (a:chk x=r) (h1:(x.k==2)=true):To E Tryz.f19 (.pure (.ret (ii r))) (.code (pO Tryz.f19 7) [(1,.ref 0 0),(3,.ref 1 0)] [.cells 38 x.cs,.cells 36 Gan.zero.cs]):=by
 have h:x.k=2:=by simpa using h1
 have i:chk x=if x.c.non then (if x.n==0 then sC x else 1) else 1:=by
  unfold chk K9 K8 K7
  rw [h]
  rfl
 rw [i] at a
 refine gV ?_
 refine .pure _ [] (pF x.c) ?_
 refine gV ?_
 refine ⟨fun b=>?_,fun b=>?_⟩
 .have b:x.c.non=true:=b
  replace a:=dO a b
  refine gV ?_
  refine ⟨fun h3=>?_,fun h3=>?_⟩
  .have h3:(x.n==0)=true:=h3
   replace a:=dO a h3
   have d:x.n=0:=by simpa using h3
   have e:sC x=if x.g.ok then xG x else 1:=by unfold sC oC K5;rw [NE b,d];rfl
   rw [e] at a
   refine gV ?_
   refine .pure _ [] (W6 x.g) ?_
   exact zqca26
  .have h3:(x.n==0)=false:=h3
   exact zqca35
 .have b:x.c.non=false:=b
  exact zqca27
theorem aFv (x:Cmd) (r:Int) (a:chk x=r) (h1:x.k=3\/x.k=4\/x.k=5):To E Tryz.f19 (.pure (.ret (ii r))) (.code (pO Tryz.f19 11) [(1,.ref 0 0),(3,.ref 1 0)] [.cells 38 x.cs,.cells 36 Gan.zero.cs]):=by
 have d:chk x=if x.c.non then (if x.g.isZ then sC x else 1) else 1:=by
  unfold chk K9 K8 K7
  rcases h1 with h | h | h<;>rw [h]<;>rfl
 rw [d] at a
 refine gV ?_
 refine .pure _ [] (pF x.c) ?_
 refine gV ?_
 refine ⟨fun b=>?_,fun b=>?_⟩
 .have b:x.c.non=true:=b
  replace a:=dO a b
  refine gV ?_
  refine ⟨fun h3=>?_,fun h3=>?_⟩
  .have h3:x.g.isZ=true:=h3
   replace a:=dO a h3
   have e:sC x=if okI [x.n] then xG x else 1:=by unfold sC oC K5;rw [NE b,NJ h3];rfl
   rw [e] at a
   refine gV ?_
   refine .pure _ [] (aA.strip (wH [x.n])) ?_
   exact zqca26
  .have h3:x.g.isZ=false:=h3
   replace a:=fW a h3
   refine bV hE 11 ?_;conv=>whnf
   exact zqca7
 .have b:x.c.non=false:=b
  replace a:=fW a b
  refine gV ?_
  refine aN ?_
  refine bV hE 11 ?_;conv=>whnf
  exact zqca7
theorem aId (x:Cmd) (r:Int) (a:chk x=r) (h1:x.k=6):To E Tryz.f19 (.pure (.ret (ii r))) (.code (pO Tryz.f19 13) [(1,.ref 0 0),(3,.ref 1 0)] [.cells 38 x.cs,.cells 36 Gan.zero.cs]):=by
 have i:chk x=if x.c.non then (if x.g.isZ then (if x.n==0 then sC x else 1) else 1) else 1:=by
  unfold chk K9 K8 K7
  rw [h1]
  rfl
 rw [i] at a
 refine gV ?_
 refine .pure _ [] (pF x.c) ?_
 refine gV ?_
 refine ⟨fun b=>?_,fun b=>?_⟩
 .have b:x.c.non=true:=b
  replace a:=dO a b
  refine gV ?_
  refine ⟨fun h3=>?_,fun h3=>?_⟩
  .have h3:x.g.isZ=true:=h3
   replace a:=dO a h3
   have e:(if x.n==0 then sC x else 1)=if (x.n==0) then xG x else 1:=by
    cases h:(x.n==0) with
    | false=>rfl
    | true=>
     have d:x.n=0:=by simpa using h
     show sC x=xG x
     unfold sC oC K5
     rw [NE b,NJ h3,d]
     rfl
   rw [e] at a
   refine bV hE 16 ?_;conv=>whnf
   refine To.cutC [1,4] 1 rfl rfl rfl rfl ?_
   exact (fG x _ r a)
  .have h3:x.g.isZ=false:=h3
   exact zqca35
 .have b:x.c.non=false:=b
  exact zqca27
theorem rcheck_any (x:Cmd) (r:Int) (a:chk x=r):aA Tryz.prog 19 [x.av] [] (.ret (ii r)) []:=by
 refine c_ Tryz.f19 fun _=>?_
 refine gV ?_
 refine ⟨fun h1=>?_,fun h1=>?_⟩
 .refine To.cutC [1,3] 2 rfl rfl rfl rfl ?_
  exact aIf x r a h1
 .have h1:(x.k==1)=false:=h1
  refine gV ?_
  refine ⟨fun j=>?_,fun j=>?_⟩
  .refine To.cutC [1,3] 2 rfl rfl rfl rfl ?_
   exact aIe x r a j
  .have j:(x.k==2)=false:=j
   refine gV ?_
   refine ⟨fun h3=>?_,fun h3=>?_⟩
   .have h3:(x.k==3)=true:=h3
    have b:x.k=3:=by simpa using h3
    refine gV ?_
    refine ⟨fun _=>?_,fun h=>absurd (h3.symm.trans h) d_⟩
    refine To.cutC [1,3] 2 rfl rfl rfl rfl ?_
    exact aFv x r a (.inl b)
   .have h3:(x.k==3)=false:=h3
    refine gV ?_
    refine ⟨fun c=>?_,fun c=>?_⟩
    .have c:(x.k==4)=true:=c
     have b:x.k=4:=by simpa using c
     refine gV ?_
     refine ⟨fun _=>?_,fun h=>absurd (c.symm.trans h) d_⟩
     refine To.cutC [1,3] 2 rfl rfl rfl rfl ?_
     exact aFv x r a (.inr (.inl b))
    .have c:(x.k==4)=false:=c
     refine gV ?_
     refine ⟨fun i=>?_,fun i=>?_⟩
     .have i:(x.k==5)=true:=i
      have b:x.k=5:=by simpa using i
      refine To.cutC [1,3] 2 rfl rfl rfl rfl ?_
      exact aFv x r a (.inr (.inr b))
     .have i:(x.k==5)=false:=i
      refine gV ?_
      refine ⟨fun d=>?_,fun d=>?_⟩
      .have d:(x.k==6)=true:=d
       have b:x.k=6:=by simpa using d
       refine To.cutC [1,3] 2 rfl rfl rfl rfl ?_
       exact aId x r a b
      .have d:(x.k==6)=false:=d
       have e:(decide (1<=x.k)&&decide (x.k<=6))=false:=by
        simp only [beq_eq_false_iff_ne] at h1 j h3 c i d
        by_cases b:1<=x.k
        .rw [decide_eq_false (p:=x.k<=6) o_,Bn]
        .rw [decide_eq_false b,Ct]
       replace a:=fW a e
       refine bV hE 1 ?_;conv=>whnf
       exact zqca7
def eqL {α:Type} (f:α->α->Bool):List α->List α->Bool
 | [],[]=>true
 | x::r,y::s=>f x y&&eqL f r s
 | _,_=>false
theorem tL {α:Type} {f:α->α->Bool}:∀ {a b:List α},a.length≠b.length->eqL f a b=false
 | [],[],h=>absurd rfl h
 | [],_::_,_=>rfl
 | _::_,[],_=>rfl
 | x::r,y::s,h=>by
  have:=tL (f:=f) (a:=r) (b:=s) (by simpa using h)
  simp [eqL,this]
def _root_.Go.Proofs.YticlgfdibfobdaaGreat.Nod.eqb (x y:Nod):Bool:=(x.p==y.p)&&((x.w==y.w)&&((x.n.a==y.n.a)&&((x.n.b==y.n.b)&&((x.n.c==y.n.c)&&((x.b.a==y.b.a)&&((x.b.b==y.b.b)&&((x.b.c==y.b.c)&&((x.l.a==y.l.a)&&((x.l.b==y.l.b)&&((x.l.c==y.l.c)&&true))))))))))
def _root_.Go.Proofs.YticlgfdibfobdaaGreat.Hos.eqb (x y:Hos):Bool:=(x.f==y.f)&&((x.b==y.b)&&((x.r==y.r)&&((x.c.a==y.c.a)&&((x.c.b==y.c.b)&&((x.c.c==y.c.c)&&true)))))
def _root_.Go.Proofs.YticlgfdibfobdaaGreat.Gan.eqb (x y:Gan):Bool:=(x.id==y.id)&&((x.ten==y.ten)&&((x.pods==y.pods)&&((x.need.a==y.need.a)&&((x.need.b==y.need.b)&&((x.need.c==y.need.c)&&((x.run==y.run)&&((x.lev==y.lev)&&((x.pref==y.pref)&&true))))))))
theorem _root_.Go.Proofs.YticlgfdibfobdaaGreat.Nod.eqb_eq {x y:Nod}:x.eqb y=true↔x=y:=by
 obtain ⟨_,_,⟨_,_,_⟩,⟨_,_,_⟩,⟨_,_,_⟩⟩:=x
 obtain ⟨_,_,⟨_,_,_⟩,⟨_,_,_⟩,⟨_,_,_⟩⟩:=y
 simp [Nod.eqb,and_assoc]
theorem _root_.Go.Proofs.YticlgfdibfobdaaGreat.Hos.eqb_eq {x y:Hos}:x.eqb y=true↔x=y:=by
 obtain ⟨_,_,_,⟨_,_,_⟩⟩:=x
 obtain ⟨_,_,_,⟨_,_,_⟩⟩:=y
 simp [Hos.eqb]
theorem _root_.Go.Proofs.YticlgfdibfobdaaGreat.Gan.eqb_eq {x y:Gan}:x.eqb y=true↔x=y:=by
 obtain ⟨_,_,_,⟨_,_,_⟩,_,_,_⟩:=x
 obtain ⟨_,_,_,⟨_,_,_⟩,_,_,_⟩:=y
 simp [Gan.eqb,and_assoc]
theorem aAn (a b:List Nod) (l:a.length=b.length) (hl:((nav a).length:Int)<=9223372036854775807) (r:Bool):∀ (n i:Nat),i+n=a.length->eqL Nod.eqb (a.drop i) (b.drop i)=r->
  To E Tryz.f149 (.pure (.ret (.bool r))) (.head (stk Tryz.f149 0) [(0,.slice 11 (nav a) .no),(1,.slice 11 (nav b) .no),(12,.int .i64 ((nav a).length:Nat)),(13,.int .i64 i)] []):=by
 have e:(nav a).length=a.length:=by simp
 intro n
 induction n with
 | zero=>
  intro i k c
  exact zqca40
 | succ n j=>
  intro i k c
  have h1:i<a.length:=o_
  have g:i<b.length:=o_
  rw [Ac h1,Ac g] at c
  have c:(Nod.eqb a[i] b[i]&&eqL Nod.eqb (a.drop (i+1)) (b.drop (i+1)))=r:=c
  generalize m:a[i]=x at c
  generalize o:b[i]=y at c
  have q:(nav a)[i]? =some (Nod.av x):=by simp [m,h1]
  have p:(nav b)[i]? =some (Nod.av y):=by simp [o,g]
  refine gV ?_
  refine aT fun h=>?_
  repeat' first | (refine gN hE ?_;conv=>whnf) | refine ⟨_,q,?_⟩ | refine ⟨_,p,?_⟩ | exact rfl | refine aY ?_ | refine aN ?_ | refine aT fun h=>?_ | refine aF fun h=>?_ | refine ⟨fun h=>?_,fun h=>?_⟩ | refine aJ ?_ | refine ⟨_,rfl,?_⟩ | refine aD ?_ | fail
  .rename_i h
   have h:Nod.eqb x y=false:=iZ h
   rw [h] at c
   rw [<-c];rfl
  .rename_i h
   have h:Nod.eqb x y=true:=jA h
   rw [h,Cd] at c
   have d:=j (i+1) o_ c
   exact zW
theorem eqN_ok (a b:List Nod):aA Tryz.prog 149 [.slice 11 (nav a) .no,.slice 11 (nav b) .no] [] (.ret (.bool (eqL Nod.eqb a b))) []:=by
 have c:(nav a).length=a.length:=by simp
 have d:(nav b).length=b.length:=by simp
 refine c_ Tryz.f149 fun j=>?_
 have hl:((nav a).length:Int)<=9223372036854775807:=j.1
 refine gV ?_
 refine ⟨fun h=>?_,fun h=>?_⟩
 .have h:(((nav a).length:Int) !=((nav b).length:Int))=true:=h
  rw [tL (by intro e;rw [c,d,e] at h;simp at h)]
  refine gW hE ?_;conv=>whnf
 .have h:(((nav a).length:Int) !=((nav b).length:Int))=false:=h
  have i:=aAn a b (by simp at h;omega) hl _ a.length 0 o_ rfl
  exact zW
theorem aAo (a b:List Hos) (l:a.length=b.length) (hl:((hav a).length:Int)<=9223372036854775807) (r:Bool):∀ (n i:Nat),i+n=a.length->eqL Hos.eqb (a.drop i) (b.drop i)=r->
  To E Tryz.f150 (.pure (.ret (.bool r))) (.head (stk Tryz.f150 0) [(0,.slice 6 (hav a) .no),(1,.slice 6 (hav b) .no),(12,.int .i64 ((hav a).length:Nat)),(13,.int .i64 i)] []):=by
 have d:(hav a).length=a.length:=by simp
 intro n
 induction n with
 | zero=>
  intro i k c
  exact zqca40
 | succ n j=>
  intro i k c
  have h1:i<a.length:=o_
  have g:i<b.length:=o_
  rw [Ac h1,Ac g] at c
  have c:(Hos.eqb a[i] b[i]&&eqL Hos.eqb (a.drop (i+1)) (b.drop (i+1)))=r:=c
  generalize m:a[i]=x at c
  generalize o:b[i]=y at c
  have q:(hav a)[i]? =some (Hos.av x):=by simp [m,h1]
  have p:(hav b)[i]? =some (Hos.av y):=by simp [o,g]
  refine gV ?_
  refine aT fun h=>?_
  repeat' first | (refine gN hE ?_;conv=>whnf) | refine ⟨_,q,?_⟩ | refine ⟨_,p,?_⟩ | exact rfl | refine aY ?_ | refine aN ?_ | refine aT fun h=>?_ | refine aF fun h=>?_ | refine ⟨fun h=>?_,fun h=>?_⟩ | refine aJ ?_ | refine ⟨_,rfl,?_⟩ | refine aD ?_ | fail
  .rename_i h
   have h:Hos.eqb x y=false:=iZ h
   rw [h] at c
   rw [<-c];rfl
  .rename_i h
   have h:Hos.eqb x y=true:=jA h
   rw [h,Cd] at c
   have e:=j (i+1) o_ c
   exact zW
theorem eqH_ok (a b:List Hos):aA Tryz.prog 150 [.slice 6 (hav a) .no,.slice 6 (hav b) .no] [] (.ret (.bool (eqL Hos.eqb a b))) []:=by
 have c:(hav a).length=a.length:=by simp
 have d:(hav b).length=b.length:=by simp
 refine c_ Tryz.f150 fun j=>?_
 have hl:((hav a).length:Int)<=9223372036854775807:=j.1
 refine gV ?_
 refine ⟨fun h=>?_,fun h=>?_⟩
 .have h:(((hav a).length:Int) !=((hav b).length:Int))=true:=h
  rw [tL (by intro e;rw [c,d,e] at h;simp at h)]
  refine gW hE ?_;conv=>whnf
 .have h:(((hav a).length:Int) !=((hav b).length:Int))=false:=h
  have i:=aAo a b (by simp at h;omega) hl _ a.length 0 o_ rfl
  exact zW
def sameC (a b:Con):Bool:=eqL Nod.eqb a.ns b.ns&&(eqL Hos.eqb a.hs b.hs&&((a.half==b.half)&&(a.age==b.age)))
def same (a b:Cmd):Bool:=(a.k==b.k)&&(a.g.eqb b.g&&((a.n==b.n)&&sameC a.c b.c))
noncomputable abbrev aDk:Func:=Tryz.f45
theorem yZ (a b:Con) (k:a.hs.length=b.hs.length) (hl:((hav a.hs).length:Int)<=9223372036854775807) (r:Bool):∀ (n i:Nat),i+n=a.hs.length->eqL Hos.eqb (a.hs.drop i) (b.hs.drop i)=r->
  To E aDk (.pure (.ret (.bool r))) (.head (stk aDk 1) [(2,.ref 0 0),(3,.ref 1 0),(6,.int .i64 i)] [.cells 26 a.cs,.cells 26 b.cs]):=by
 have e:(hav a.hs).length=a.hs.length:=by simp
 intro n
 induction n with
 | zero=>
  intro i j c
  exact zqca40
 | succ n g=>
  intro i j c
  have h1:i<a.hs.length:=o_
  have f:i<b.hs.length:=o_
  rw [Ac h1,Ac f] at c
  have c:(Hos.eqb a.hs[i] b.hs[i]&&eqL Hos.eqb (a.hs.drop (i+1)) (b.hs.drop (i+1)))=r:=c
  generalize l:a.hs[i]=x at c
  generalize m:b.hs[i]=y at c
  have p:(hav a.hs)[i]? =some (Hos.av x):=by simp [l,h1]
  have o:(hav b.hs)[i]? =some (Hos.av y):=by simp [m,f]
  refine gV ?_
  refine aT fun h=>?_
  repeat' first | (refine gN hE ?_;conv=>whnf) | refine ⟨_,p,?_⟩ | refine ⟨_,o,?_⟩ | exact rfl | refine aY ?_ | refine aN ?_ | refine aT fun h=>?_ | refine aF fun h=>?_ | refine ⟨fun h=>?_,fun h=>?_⟩ | refine aJ ?_ | refine ⟨_,rfl,?_⟩ | refine aD ?_ | fail
  .have h:Hos.eqb x y=false:=iZ h
   rw [h] at c
   rw [<-c];rfl
  .have h:Hos.eqb x y=true:=jA h
   rw [h,Cd] at c
   have d:=g (i+1) o_ c
   exact zW
theorem WN (a b:Con) (o:a.ns.length=b.ns.length) (d:a.hs.length=b.hs.length) (hl:((nav a.ns).length:Int)<=9223372036854775807) (e:((hav a.hs).length:Int)<=9223372036854775807) (r:Bool):∀ (n i:Nat),i+n=a.ns.length->(eqL Nod.eqb (a.ns.drop i) (b.ns.drop i)&&eqL Hos.eqb a.hs b.hs)=r->
  To E aDk (.pure (.ret (.bool r))) (.head (stk aDk 0) [(2,.ref 0 0),(3,.ref 1 0),(5,.int .i64 i)] [.cells 26 a.cs,.cells 26 b.cs]):=by
 have j:(nav a.ns).length=a.ns.length:=by simp
 intro n
 induction n with
 | zero=>
  intro i m c
  rw [Ae o_,Ae o_] at c
  have c:eqL Hos.eqb a.hs b.hs=r:=c
  refine gV ?_
  have g:=yZ a b d e r a.hs.length 0 o_ c
  exact zW
 | succ n l=>
  intro i m c
  have h1:i<a.ns.length:=o_
  have k:i<b.ns.length:=o_
  rw [Ac h1,Ac k] at c
  have c:((Nod.eqb a.ns[i] b.ns[i]&&eqL Nod.eqb (a.ns.drop (i+1)) (b.ns.drop (i+1)))&&eqL Hos.eqb a.hs b.hs)=r:=c
  generalize p:a.ns[i]=x at c
  generalize q:b.ns[i]=y at c
  have u:(nav a.ns)[i]? =some (Nod.av x):=by simp [p,h1]
  have s:(nav b.ns)[i]? =some (Nod.av y):=by simp [q,k]
  refine gV ?_
  refine aT fun h=>?_
  repeat' first | (refine gN hE ?_;conv=>whnf) | refine ⟨_,u,?_⟩ | refine ⟨_,s,?_⟩ | exact rfl | refine aY ?_ | refine aN ?_ | refine aT fun h=>?_ | refine aF fun h=>?_ | refine ⟨fun h=>?_,fun h=>?_⟩ | refine aJ ?_ | refine ⟨_,rfl,?_⟩ | refine aD ?_ | fail
  .have h:Nod.eqb x y=false:=iZ h
   rw [h] at c
   rw [<-c];rfl
  .have h:Nod.eqb x y=true:=jA h
   rw [h,Cd] at c
   have f:=l (i+1) o_ c
   exact zW
theorem aAJ (a b:Con) (M:Imm) (ob:Hs) (vs:List Value) (h:cD M ob vs [a.av,b.av]):((nav a.ns).length:Int)<=9223372036854775807/\((hav a.hs).length:Int)<=9223372036854775807:=by
 have hl:0<vs.length:=by rw [h.1];simp
 have:=h.2 0 _ a.av (Aa hl) rfl
 exact ⟨bZ this 0 _ rfl,bZ this 1 _ rfl⟩
theorem P8 {a b:Nat} (h:((a:Int) !=(b:Int))=true):a≠b:=by
 intro e;rw [e] at h;simp at h
theorem Q9 {a b:Nat} (h:((a:Int) !=(b:Int))=false):a=b:=by
 simp at h;omega
theorem WO (a b:Con) (r:Bool) (d:sameC a b=r):aA Tryz.prog 45 [a.av,b.av] [] (.ret (.bool r)) []:=by
 refine aA.get _ (aAJ a b) fun ⟨hl,i⟩=>?_
 have l:(nav a.ns).length=a.ns.length:=by simp
 have k:(nav b.ns).length=b.ns.length:=by simp
 have n:(hav a.hs).length=a.hs.length:=by simp
 have m:(hav b.hs).length=b.hs.length:=by simp
 refine c_ Tryz.f45 fun _=>?_
 refine gV ?_
 refine Ad (fun h1=>?_) (fun h1=>?_)
 .have h1:(((nav a.ns).length:Int) !=((nav b.ns).length:Int))=true:=h1
  have e:sameC a b=false:=by unfold sameC;rw [tL (by rw [<-l,<-k];exact P8 h1)];rfl
  rw [e] at d
  subst d
  exact zW
 .have h1:(((nav a.ns).length:Int) !=((nav b.ns).length:Int))=false:=h1
  refine gV ?_
  refine Ad (fun h=>?_) (fun h=>?_)
  .have h:(((hav a.hs).length:Int) !=((hav b.hs).length:Int))=true:=h
   have e:sameC a b=false:=by unfold sameC;rw [tL (f:=Hos.eqb) (by rw [<-n,<-m];exact P8 h),Ct,Bn]
   rw [e] at d
   subst d
   exact zW
  .have h:(((hav a.hs).length:Int) !=((hav b.hs).length:Int))=false:=h
   have o:=Q9 h1
   have p:=Q9 h
   refine gV ?_
   refine Ad (fun h3=>?_) (fun h3=>?_)
   .have h3:(!(a.half==b.half))=true:=h3
    have h3:=iZ h3
    have e:sameC a b=false:=by unfold sameC;rw [h3,Ct,Bn,Bn]
    rw [e] at d
    subst d
    exact zW
   .have h3:(!(a.half==b.half))=false:=h3
    have h3:=jA h3
    refine gV ?_
    refine Ad (fun c=>?_) (fun c=>?_)
    .have c:(!(a.age==b.age))=true:=c
     have c:=iZ c
     have e:sameC a b=false:=by unfold sameC;rw [c,Bn,Bn,Bn]
     rw [e] at d
     subst d
     exact zW
    .have c:(!(a.age==b.age))=false:=c
     have c:=jA c
     have e:sameC a b=(eqL Nod.eqb a.ns b.ns&&eqL Hos.eqb a.hs b.hs):=by unfold sameC;rw [h3,c,Hc,Hc]
     rw [e] at d
     have j:=WN a b o_ o_ hl i _ a.ns.length 0 o_ d
     exact zW
theorem rsame_c (a b:Con):aA Tryz.prog 45 [a.av,b.av] [] (.ret (.bool (sameC a b))) []:=WO a b _ rfl
set_option maxHeartbeats 2000000
end Go.Proofs.YticlgfdibfobdaaGreat.C8
namespace Go.Proofs.YticlgfdibfobdaaGreat.Q2
open Go Go.AW Go.Proofs
structure Pend where
 (id tenant pods n0 n1 n2 run level prefer seq since:Int)
 deriving DecidableEq
def Pend.cs (p:Pend):List AVal:=[.int .i64 p.id,.int .i64 p.tenant,.int .i64 p.pods,.int .i64 p.n0,.int .i64 p.n1,.int .i64 p.n2,.int .i64 p.run,.int .i64 p.level,.int .i64 p.prefer,.int .i64 p.seq,.int .i64 p.since]
def Pend.av (p:Pend):AVal:=.agg p.cs
abbrev pav (l:List Pend):List AVal:=l.map Pend.av
theorem TV {n:Int} (h1: -9223372036854775808<=n) (a:n<=9223372036854775807):inR .i64 n:=⟨by simp only [cL];omega,by simp only [bI];omega⟩
def idx (p:Pend->Bool):List Pend->Int->Int
 | [],_=> -1
 | x::r,i=>if p x then i else idx p r (i+1)
def findP (a:Int) (l:List Pend):Int:=idx (fun x=>x.id==a) l 0
theorem mX {l:List Pend} {i:Nat} (h:i<l.length):(pav l)[i]? =some l[i].av:=by
 simp [pav,h]
set_option maxRecDepth 10000
theorem aHn (p:Pend):aA Tryz.prog 355 [p.av] [] (.ret (.int .i64 p.id)) []:=by
 refine c_ Tryz.f355 fun _=>?_
 refine gW hE ?_;conv=>whnf
theorem V4 (p:Pend):aA Tryz.prog 356 [p.av] [] (.ret (.int .i64 p.seq)) []:=by
 refine c_ Tryz.f356 fun _=>?_
 refine gW hE ?_;conv=>whnf
theorem aHl (p:Pend) (b:Int):aA Tryz.prog 155 [.iface 155 p.av,.int .i64 b] [] (.ret (.bool (p.id==b))) []:=by
 refine c_ Tryz.f155 fun _=>?_
 have a:=aHn p
 exact zW
theorem UX (p q:Pend):aA Tryz.prog 78 [.iface 155 p.av,.iface 155 q.av] [] (.ret (.bool (decide (q.seq<p.seq)))) []:=by
 refine c_ Tryz.f78 fun _=>?_
 have b:=V4 p
 have a:=V4 q
 exact zW
theorem aAc (x:Pend) (a:Int):aA Tryz.prog 154 [x.av,.ptr [.int .i64 a]] [] (.ret (.bool (x.id==a))) []:=by
 refine c_ Tryz.f154 fun _=>?_
 have b:=aHl x a
 exact zW
theorem NK (f:FuncId) (l:List AVal) (xs:List Pend) (p:Pend->Bool) (k:∀ x∈xs,aA Tryz.prog f [x.av,.ptr l] [] (.ret (.bool (p x))) []) (hl:((pav xs).length:Int)<=9223372036854775807) (r:Int):
  ∀ (n i:Nat),i+n=xs.length->idx p (xs.drop i) i=r->
  To E Tryz.f153 (.pure (.ret (.int .i64 r))) (.head (stk Tryz.f153 0)
   [(0,.slice 11 (pav xs) .no),(1,.func (.func f) [] [.ptr l]),(7,.int .i64 ((pav xs).length:Nat)),(8,.int .i64 i)] []):=by
 have e:(pav xs).length=xs.length:=by simp
 intro n
 induction n with
 | zero=>
  intro i j a
  refine gV ?_
  refine ⟨fun h=>?_,fun h=>?_⟩
  .exact zqca39
  .refine gV ?_
   rw [Ae o_] at a
   rw [<-a]
   rfl
 | succ n g=>
  intro i j a
  have b:i<xs.length:=o_
  refine gV ?_
  refine ⟨fun h=>?_,fun h=>?_⟩
  .refine gV ?_
   refine ⟨i,rfl,?_⟩
   refine gV ?_
   refine ⟨_,mX b,?_⟩
   refine gV ?_
   refine .pure _ [] (k xs[i] (Bf b)) ?_
   refine gV ?_
   rw [Ac b] at a
   have a:(if p xs[i] then (i:Int) else idx p (xs.drop (i+1)) ((i:Int)+1))=r:=a
   refine ⟨fun c=>?_,fun c=>?_⟩
   .refine gV ?_
    rw [if_pos c] at a
    rw [a]
   .refine gV ?_
    rw [if_neg (by rw [c];simp)] at a
    refine .inl ⟨⟨by simp only [cL];omega,by simp only [bI];omega⟩,?_⟩
    have d:=g (i+1) o_ (by rw [<-a];push_cast;rfl)
    exact zW
  .exact zqca36
theorem ZI (f:FuncId) (l:List AVal) (xs:List Pend) (p:Pend->Bool) (b:∀ x∈xs,aA Tryz.prog f [x.av,.ptr l] [] (.ret (.bool (p x))) []):
  aA Tryz.prog 153 [.slice 11 (pav xs) .no,.func (.func f) [] [.ptr l]] [] (.ret (.int .i64 (idx p xs 0))) []:=by
 refine c_ Tryz.f153 fun a=>?_
 refine gV ?_
 refine To.head [0,1,7,8] ?_
 exact NK f l xs p b a.1 _ xs.length 0 o_ s_
theorem xU (xs:List Pend) (a:Int):aA Tryz.prog 79 [.slice 11 (pav xs) .no,.int .i64 a] [] (.ret (.int .i64 (findP a xs))) []:=by
 refine c_ Tryz.f79 fun _=>?_
 have b:=ZI _ _ xs (fun x=>x.id==a) fun x _=>aAc x a
 exact zW
theorem BD {n:Nat} (h:n<=1000000):BE n 88:=⟨by simp only [maxLen];omega,by omega⟩
theorem xT {n:Nat} (h:n<=1000001):BE n 88:=⟨by simp only [maxLen];omega,by omega⟩
def putAt (p:Pend) (l:List Pend):Nat:=if idx (fun x=>decide (p.seq<x.seq)) l 0<0 then l.length else (idx (fun x=>decide (p.seq<x.seq)) l 0).toNat
def putP (l:List Pend) (p:Pend):List Pend:=l.take (putAt p l)++[p]++l.drop (putAt p l)
def takeP (l:List Pend) (a:Int):List Pend:=if findP a l<0 then l else l.eraseIdx (findP a l).toNat
theorem D8 (p:Pend->Bool):∀ (l:List Pend) (i:Int),idx p l i= -1\/(i<=idx p l i/\idx p l i<i+l.length)
 | [],i=>.inl rfl
 | x::r,i=>by
  unfold idx
  split
  .right;simp;omega
  .rcases D8 p r (i+1) with h | h
   .exact .inl h
   .right;simp;omega
theorem GU (xs:List Pend) (a:Int) (hl:((pav xs).length:Int)<=9223372036854775807) (r:Int):∀ (n i:Nat),i+n=xs.length->idx (fun x=>x.id==a) (xs.drop i) i=r->
  To E Tryz.f26 (.pure (.ret (.int .i64 r))) (.head (stk Tryz.f26 0) [(0,.slice 11 (pav xs) .no),(1,.int .i64 a),(5,.int .i64 i)] []):=by
 have g:(pav xs).length=xs.length:=by simp
 intro n
 induction n with
 | zero=>
  intro i k b
  refine gV ?_
  refine ⟨fun h=>?_,fun h=>?_⟩
  .exact zqca39
  .refine gV ?_
   rw [Ae o_] at b
   rw [<-b]
   rfl
 | succ n j=>
  intro i k b
  have c:i<xs.length:=o_
  refine gV ?_
  refine ⟨fun h=>?_,fun h=>?_⟩
  .refine gV ?_
   refine ⟨i,rfl,?_⟩
   refine gV ?_
   refine ⟨_,mX c,?_⟩
   refine gV ?_
   rw [Ac c] at b
   have b:(if xs[i].id==a then (i:Int) else idx (fun x=>x.id==a) (xs.drop (i+1)) ((i:Int)+1))=r:=b
   refine ⟨fun d=>?_,fun d=>?_⟩
   .refine gV ?_
    rw [if_pos d] at b
    rw [b]
   .refine gV ?_
    rw [if_neg (by rw [d];simp)] at b
    refine .inl ⟨TV o_ o_,?_⟩
    have e:=j (i+1) o_ (by rw [<-b];push_cast;rfl)
    exact zW
  .exact zqca36
theorem findref_ok (xs:List Pend) (a:Int):aA Tryz.prog 26 [.slice 11 (pav xs) .no,.int .i64 a] [] (.ret (.int .i64 (findP a xs))) []:=by
 refine c_ Tryz.f26 fun b=>?_
 refine gV ?_
 refine To.head [0,1,5] ?_
 exact GU xs a b.1 _ xs.length 0 o_ (by simp [findP])
theorem yP {α:Type} (l:List α) (k:Nat):(l.take k).length<=l.length:=by simp;omega
theorem takeref_ok (l:List Pend) (a:Int) (hl:l.length<=1000000):aA Tryz.prog 27 [.slice 11 (pav l) .no,.int .i64 a] [] (.ret (.tup [.slice 11 (pav (takeP l a)) .no,.bool (!decide (findP a l<0))])) []:=by
 have b:(pav l).length=l.length:=by simp
 refine c_ Tryz.f27 fun _=>?_
 refine gV ?_
 refine .pure _ [] (findref_ok l a) ?_
 refine gV ?_
 refine ⟨fun h=>?_,fun h=>?_⟩
 .refine gV ?_
  refine ⟨BD (by rw [b];exact hl),?_⟩
  refine gV ?_
  have c:=of_decide_eq_true h
  unfold takeP
  rw [if_pos c,h]
  rfl
 .have c:=of_decide_eq_false h
  have j:findP a l<l.length:=by
   rcases D8 (fun x=>x.id==a) l 0 with h | h
   .unfold findP at c;omega
   .unfold findP;omega
  have e:takeP l a=l.eraseIdx (findP a l).toNat:=if_neg c
  rw [h,e]
  obtain ⟨k,d⟩:∃ k:Nat,findP a l=(k:Int):=⟨(findP a l).toNat,by omega⟩
  have i:k<l.length:=o_
  rw [d,Cl]
  refine gV ?_
  refine ⟨k,rfl,?_⟩
  refine gV ?_
  refine ⟨by rw [b];omega,?_⟩
  refine gV ?_
  refine ⟨BD (by have:=yP (pav l) k;omega),?_⟩
  refine gV ?_
  refine .inl ⟨TV o_ o_,?_⟩
  refine gV ?_
  refine ⟨k+1,by push_cast;rfl,?_⟩
  refine gV ?_
  refine ⟨by rw [b];omega,?_⟩
  refine gV ?_
  refine ⟨BD q_,?_⟩
  refine gV ?_
  have:Fv k (pav l)++Hd (k+1) (pav l)=pav (l.eraseIdx k):=by simp only [pav,Ja,Bm,Jo,Jp]
  rw [this]
  rfl
theorem S5 {p:Pend} {l:List Pend} {i:Nat} (h:idx (fun x=>decide (p.seq<x.seq)) l 0=(i:Int)):putAt p l=i:=by
 unfold putAt
 rw [h,if_neg o_]
 rfl
theorem M4 {p:Pend} {l:List Pend} (h:idx (fun x=>decide (p.seq<x.seq)) l 0= -1):putAt p l=l.length:=by
 unfold putAt
 rw [h,if_pos o_]
theorem I8 (l:List Pend) (p:Pend) (hl:l.length<=1000000):∀ (n i:Nat),i+n=l.length->idx (fun x=>decide (p.seq<x.seq)) (l.drop i) i=idx (fun x=>decide (p.seq<x.seq)) l 0->
  To (Er [] [29,30,31]) Tryz.f66 (.pure (.ret (.slice 11 (pav (putP l p)) .no))) (.head (stk Tryz.f66 0) [(0,.slice 11 (pav l) .no),(3,.ref 0 0),(5,.int .i64 i)] [.cells 78 p.cs]):=by
 have a:(pav l).length=l.length:=by simp
 intro n
 induction n with
 | zero=>
  intro i j b
  refine gV ?_
  refine ⟨fun h=>?_,fun h=>?_⟩
  .exact zqca39
  .refine gV ?_
   refine ⟨fun d=>(by cases d),fun _=>?_⟩
   have hp:putAt p l=i:=by
    rw [M4]
    .omega
    .rw [<-b,Ae o_];rfl
   exact zqca4
 | succ n g=>
  intro i j b
  have c:i<l.length:=o_
  refine gV ?_
  refine ⟨fun h=>?_,fun h=>?_⟩
  .refine gV ?_
   refine ⟨i,rfl,?_⟩
   refine gV ?_
   refine ⟨_,mX c,?_⟩
   refine gV ?_
   rw [Ac c] at b
   have b:(if decide (p.seq<l[i].seq) then (i:Int) else idx (fun x=>decide (p.seq<x.seq)) (l.drop (i+1)) ((i:Int)+1))=idx (fun x=>decide (p.seq<x.seq)) l 0:=b
   refine ⟨fun d=>?_,fun d=>?_⟩
   .refine gV ?_
    have h3:=of_decide_eq_true d
    rw [if_neg q_] at b
    refine .inl ⟨TV o_ o_,?_⟩
    have e:=g (i+1) o_ (by rw [<-b];push_cast;rfl)
    exact zW
   .have h3:=of_decide_eq_false d
    rw [if_pos q_] at b
    have hp:putAt p l=i:=S5 b.symm
    exact zqca4
  .exact zqca36
theorem putref_ok (l:List Pend) (p:Pend) (hl:l.length<=1000000):aA Tryz.prog 66 [.slice 11 (pav l) .no,p.av] [] (.ret (.slice 11 (pav (putP l p)) .no)) []:=by
 refine cT (E:=(Er [] [29,30,31])) (fn:=Tryz.f66) (g:=.pure _) fun _=>?_
 have a:=I8 l p hl l.length 0 o_ s_
 exact zW
def F7 (l:List Pend) (i:Nat):Bool:=match l[i]?,l[i-1]? with
 | some c,some p=>!((decide (0<i)&& !decide (p.seq<c.seq))||(findP c.id l !=(i:Int)))
 | _,_=>true
def gE (l:List Pend):Nat->Nat->Bool
 | 0,_=>true
 | n+1,i=>F7 l i&&gE l n (i+1)
def checkP (l:List Pend):Bool:=gE l l.length 0
theorem OE (l:List Pend) (hl:l.length<=1000000) (r:Bool):∀ (n i:Nat),i+n=l.length->gE l n i=r->
  To E Tryz.f30 (.pure (.ret (.bool r))) (.head (stk Tryz.f30 0) [(0,.slice 11 (pav l) .no),(5,.slice 11 (pav l) .no),(6,.int .i64 ((pav l).length:Nat)),(7,.int .i64 i)] []):=by
 have k:(pav l).length=l.length:=by simp
 intro n
 induction n with
 | zero=>
  intro i o b
  refine gV ?_
  refine ⟨fun h=>?_,fun h=>?_⟩
  .exact zqca39
  .refine gV ?_
   rw [<-b]
   rfl
 | succ n m=>
  intro i o b
  have d:i<l.length:=o_
  have b:(F7 l i&&gE l n (i+1))=r:=b
  have back:gE l n (i+1)=r->inR .i64 ((i:Int)+1)/\To E Tryz.f30 (.pure (.ret (.bool r))) (.head (stk Tryz.f30 0) [(0,.slice 11 (pav l) .no),(5,.slice 11 (pav l) .no),(6,.int .i64 ((pav l).length:Nat)),(7,.int .i64 ((i:Int)+1))] []):=fun h=>
   ⟨TV o_ o_,by have:=m (i+1) o_ h;push_cast at this;exact this⟩
  refine gV ?_
  refine ⟨fun h=>?_,fun h=>?_⟩
  .refine gV ?_
   refine ⟨i,rfl,?_⟩
   refine gV ?_
   refine ⟨_,mX d,?_⟩
   refine gV ?_
   refine ⟨fun h1=>?_,fun h1=>?_⟩
   .have g:0<i:=by have:=of_decide_eq_true h1;omega
    have a:i-1<l.length:=o_
    have c:F7 l i= !((true&& !decide (l[i-1].seq<l[i].seq))||(findP l[i].id l !=(i:Int))):=by
     unfold F7
     rw [Aa d,Aa a,decide_eq_true g]
    refine gV ?_
    refine .inl ⟨TV o_ o_,?_⟩
    refine gV ?_
    refine ⟨i-1,by omega,?_⟩
    refine gV ?_
    refine ⟨_,mX a,?_⟩
    refine gV ?_
    refine .pure _ [] (UX _ _) ?_
    refine gV ?_
    refine ⟨fun e=>?_,fun e=>?_⟩
    .refine gV ?_
     refine ⟨fun _=>?_,fun h3=>(by cases h3)⟩
     refine gV ?_
     rw [c,e] at b
     rw [<-b]
     rfl
    .refine gV ?_
     refine .pure _ [] (xU _ _) ?_
     refine gV ?_
     refine ⟨fun h3=>?_,fun h3=>?_⟩
     .refine gV ?_
      rw [c,e,h3] at b
      rw [<-b]
      rfl
     .refine gV ?_
      rw [c,e,h3] at b
      obtain ⟨j,p⟩:=back b
      refine .inl ⟨j,?_⟩
      exact zW
   .have q:i=0:=by have:=of_decide_eq_false h1;omega
    have c:F7 l i= !((false&&false)||(findP l[i].id l !=(i:Int))):=by
     unfold F7
     have a:i-1<l.length:=o_
     rw [Aa d,Aa a]
     subst q
     simp
    refine gV ?_
    refine ⟨fun e=>(by cases e),fun _=>?_⟩
    refine gV ?_
    refine .pure _ [] (xU _ _) ?_
    refine gV ?_
    refine ⟨fun h3=>?_,fun h3=>?_⟩
    .refine gV ?_
     rw [c,h3] at b
     rw [<-b]
     rfl
    .refine gV ?_
     rw [c,h3] at b
     obtain ⟨j,p⟩:=back b
     refine .inl ⟨j,?_⟩
     exact zW
  .exact zqca36
theorem check_ok (l:List Pend) (hl:l.length<=1000000):aA Tryz.prog 30 [.slice 11 (pav l) .no] [] (.ret (.bool (checkP l))) []:=by
 refine c_ Tryz.f30 fun _=>?_
 have a:=OE l hl _ l.length 0 o_ rfl
 exact zW
def eqP (x y:Pend):Bool:=(x.id==y.id)&&((x.tenant==y.tenant)&&((x.pods==y.pods)&&((x.n0==y.n0)&&((x.n1==y.n1)&&((x.n2==y.n2)&&((x.run==y.run)&&((x.level==y.level)&&((x.prefer==y.prefer)&&((x.seq==y.seq)&&((x.since==y.since)&&true))))))))))
theorem RB {x y:Pend}:eqP x y=true↔x=y:=by
 obtain ⟨h,d,u,i,t,l,v,q,n,k,b⟩:=x
 obtain ⟨s,c,o,g,r,p,e,j,f,m,a⟩:=y
 simp [eqP]
theorem SC (a b:List Pend) (q:a.length=b.length) (hl:((pav a).length:Int)<=9223372036854775807) (r:Bool):∀ (n i:Nat),i+n=a.length->decide (a.drop i=b.drop i)=r->
  To E Tryz.f46 (.pure (.ret (.bool r))) (.head (stk Tryz.f46 0) [(0,.slice 11 (pav a) .no),(1,.slice 11 (pav b) .no),(5,.int .i64 i)] []):=by
 have l:(pav a).length=a.length:=by simp
 intro n
 induction n with
 | zero=>
  intro i p d
  refine gV ?_
  refine ⟨fun h=>?_,fun h=>?_⟩
  .exact zqca39
  .refine gV ?_
   rw [Ae o_,Ae o_] at d
   rw [<-d]
   rfl
 | succ n o=>
  intro i p d
  have g:i<a.length:=o_
  have c:i<b.length:=o_
  rw [Ac g,Ac c] at d
  refine gV ?_
  refine ⟨fun h=>?_,fun h=>?_⟩
  .refine gV ?_
   refine ⟨i,rfl,?_⟩
   refine gV ?_
   refine ⟨_,mX g,?_⟩
   refine gV ?_
   refine ⟨i,rfl,?_⟩
   refine gV ?_
   refine ⟨_,mX c,?_⟩
   refine gV ?_
   refine ⟨fun k=>?_,fun k=>?_⟩
   .have h3:(!eqP a[i] b[i])=true:=k
    refine gV ?_
    have j:a[i]≠b[i]:=fun e=>by rw [RB.2 e] at h3;cases h3
    rw [<-d,decide_eq_false fun e=>j (Fu e).1]
   .have h3:(!eqP a[i] b[i])=false:=k
    have m:a[i]=b[i]:=RB.1 (by simpa using h3)
    refine gV ?_
    refine .inl ⟨TV o_ o_,?_⟩
    refine gV ?_
    refine To.head [0,1,5] ?_
    have:=o (i+1) o_ (by rw [<-d,m];exact decide_eq_decide.2 ⟨fun e=>by rw [e],fun e=>(Fu e).2⟩)
    push_cast at this
    exact this
  .exact zqca36
theorem same_ok (a b:List Pend):aA Tryz.prog 46 [.slice 11 (pav a) .no,.slice 11 (pav b) .no] [] (.ret (.bool (decide (a=b)))) []:=by
 have j:(pav a).length=a.length:=by simp
 have d:(pav b).length=b.length:=by simp
 refine c_ Tryz.f46 fun k=>?_
 refine gV ?_
 refine ⟨fun h=>?_,fun h=>?_⟩
 .refine gV ?_
  have c:a≠b:=fun e=>by subst e;simp at h
  rw [decide_eq_false c]
 .have i:a.length=b.length:=by
   have:((a.length:Nat):Int)=b.length:=by simpa using h
   omega
  refine gV ?_
  refine To.head [0,1,5] ?_
  exact SC a b i k.1 _ a.length 0 o_ s_
theorem A3 (p:Pend->Bool):∀ (l:List Pend) (i:Int) (k:Nat) (h:k<l.length),p l[k]=true->(∀ (j:Nat) (a:j<l.length),j<k->p l[j]=false)->idx p l i=i+k
 | [],i,k,h,_,_=>by simp at h
 | x::r,i,0,h,h1,_=>by
  have:p x=true:=h1
  simp [idx,this]
 | x::r,i,k+1,h,h1,h2=>by
  have c:p x=false:=h2 0 s_ o_
  have:=A3 p r (i+1) k (by simpa using h) (by simpa using h1) (fun j a b=>by have:=h2 (j+1) (by simpa using a) o_;simpa using this)
  unfold idx
  rw [if_neg (by rw [c];simp),this]
  push_cast
  omega
theorem ZL {p:Pend->Bool}:∀ {l:List Pend} {i:Int} {k:Nat} (h:k<l.length),p l[k]=true->idx p l i<=i+k
 | [],i,k,h,_=>by simp at h
 | x::r,i,0,h,h1=>by
  have:p x=true:=h1
  simp [idx,this]
 | x::r,i,k+1,h,h1=>by
  unfold idx
  split
  .omega
  .have:=ZL (l:=r) (i:=i+1) (k:=k) (by simpa using h) (by simpa using h1)
   push_cast at this⊢
   omega
structure Good (l:List Pend):Prop where
 seq:l.Pairwise fun a b=>a.seq<b.seq
 id:l.Pairwise fun a b=>a.id≠b.id
theorem rI {l:List Pend}:∀ {n i:Nat},gE l n i=true↔ ∀ j,i<=j->j<i+n->F7 l j=true
 | 0,i=>by simp [gE];omega
 | n+1,i=>by
  simp only [gE,Af,rI (n:=n) (i:=i+1)]
  constructor
  .rintro ⟨h1,a⟩ j b c
   by_cases h:j=i
   .subst h;exact h1
   .exact a j o_ o_
  .intro h
   exact ⟨h i (Bg _) o_,fun j h1 a=>h j o_ o_⟩
theorem AD {l:List Pend} {j:Nat} (c:j<l.length):F7 l j=true↔(∀ (h:0<j),(l[j-1]' o_).seq<l[j].seq)/\findP l[j].id l=(j:Int):=by
 have a:j-1<l.length:=o_
 unfold F7
 rw [Aa c,Aa a]
 simp only [Bool.not_or,Af,Cm,bne_eq_false_iff_eq,Bool.and_eq_false_iff,decide_eq_false_iff_not]
 constructor
 .rintro ⟨h1,b⟩
  refine ⟨fun h=>?_,b⟩
  rcases h1 with h1 | h1
  .exact absurd h h1
  .simpa using h1
 .rintro ⟨h1,b⟩
  refine ⟨?_,b⟩
  by_cases h:0<j
  .right;simpa using h1 h
  .exact .inl h
theorem check_good {l:List Pend}:checkP l=true↔Good l:=by
 unfold checkP
 rw [rI]
 constructor
 .intro h
  have hs:∀ (j i:Nat) (b:j<l.length) (c:i<j),(l[i]' o_).seq<l[j].seq:=by
   intro j
   induction j with
   | zero=>intro i _ c;omega
   | succ j f=>
    intro i b c
    have h1:=((AD b).1 (h (j+1) o_ o_)).1 o_
    have h1:(l[j]' o_).seq<(l[j+1]).seq:=h1
    by_cases a:i=j
    .subst a;exact h1
    .exact Int.lt_trans (f i o_ o_) h1
  refine ⟨Dl.2 fun i j c b a=>hs j i b a,Dl.2 fun i j c b a e=>?_⟩
  have d:=((AD b).1 (h j o_ o_)).2
  have:=ZL (p:=fun x=>x.id==l[j].id) (l:=l) (i:=0) (k:=i) c (by simpa using e)
  unfold findP at d
  omega
 .intro h j _ b
  have b:j<l.length:=o_
  refine (AD b).2 ⟨fun g=>Dl.1 h.seq _ _ o_ b o_,?_⟩
  have:=A3 (fun x=>x.id==l[j].id) l 0 j b s_ fun i c a=>by
   have:=Dl.1 h.id i j c b a
   simpa using this
  unfold findP
  omega
def insP (p:Pend):List Pend->List Pend
 | []=>[p]
 | x::r=>if p.seq<x.seq then p::x::r else x::insP p r
theorem M5 (p x:Pend) (r:List Pend):putAt p (x::r)=if p.seq<x.seq then 0 else putAt p r+1:=by
 by_cases h:p.seq<x.seq
 .rw [if_pos h]
  have:idx (fun x=>decide (p.seq<x.seq)) (x::r) 0=0:=by unfold idx;rw [if_pos (by simpa using h)]
  unfold putAt
  rw [this]
  rfl
 .rw [if_neg h]
  have e:idx (fun x=>decide (p.seq<x.seq)) (x::r) 0=idx (fun x=>decide (p.seq<x.seq)) r 1:=by
   conv=>lhs;unfold idx
   rw [if_neg (by simpa using h)]
   rfl
  have d:∀ (q:Pend->Bool) (l:List Pend) (i:Int),(idx q l i= -1/\idx q l (i+1)= -1)\/(i<=idx q l i/\idx q l (i+1)=idx q l i+1):=by
   intro q l
   induction l with
   | nil=>intro i;exact .inl ⟨rfl,rfl⟩
   | cons y t c=>
    intro i
    unfold idx
    by_cases a:q y=true
    .rw [if_pos a,if_pos a];right;omega
    .rw [if_neg a,if_neg a]
     rcases c (i+1) with h | h
     .exact .inl h
     .right;omega
  rcases d (fun x=>decide (p.seq<x.seq)) r 0 with ⟨h1,b⟩ | ⟨h1,b⟩
  .unfold putAt
   rw [e,show (1:Int)=0+1 from rfl,b,h1]
   simp
  .unfold putAt
   rw [e,show (1:Int)=0+1 from rfl,b,if_neg o_,if_neg o_]
   omega
theorem putP_ins (p:Pend):∀ (l:List Pend),putP l p=insP p l
 | []=>rfl
 | x::r=>by
  have a:=putP_ins p r
  unfold putP at a⊢
  rw [M5]
  unfold insP
  by_cases h:p.seq<x.seq
  .rw [if_pos h,if_pos h];rfl
  .rw [if_neg h,if_neg h,<-a];rfl
def shift (n k q:Nat):Nat:=if k<=q then q-k else q+n-k
end Go.Proofs.YticlgfdibfobdaaGreat.Q2
namespace Go.Proofs.YticlgfdibfobdaaGreat
open Go Go.AW Go.Proofs
structure Pn where
 g:Gan
 (seq at':Int)
 deriving DecidableEq
def Pn.cs (x:Pn):List AVal:=[ii x.g.id,ii x.g.ten,ii x.g.pods,ii x.g.need.a,ii x.g.need.b,ii x.g.need.c,ii x.g.run,ii x.g.lev,ii x.g.pref,ii x.seq,ii x.at']
def Pn.av (x:Pn):AVal:=.agg x.cs
abbrev pnv (l:List Pn):List AVal:=l.map Pn.av
theorem sZ {l:List Pn} {i:Nat} (h:i<l.length):(pnv l)[i]? =some l[i].av:=by simp [pnv,h]
abbrev fv (l:List Nat):List AVal:=l.map fun x:Nat=>.int .u64 (x:Int)
structure Sta where
 c:Con
 (now nxt:Int)
 pend:List Pn
 run:List Rn
 hist:List Nat
 deriving DecidableEq
def Sta.cs (s:Sta):List AVal:=[.slice 11 (nav s.c.ns) .no,.slice 6 (hav s.c.hs) .no,ii s.c.half,ii s.c.age,ii s.now,ii s.nxt,.slice 11 (pnv s.pend) .no,.slice 14 (rav s.run) .no,.slice 1 (fv s.hist) .no]
def Sta.av (s:Sta):AVal:=.agg s.cs
def gQ (c:Con):Bool:=decide (c.ns=[])&&(decide (c.hs=[])&&(decide (c.half=0)&&decide (c.age=0)))
def HH (g:Gan):Bool:=decide (1<=g.id/\g.id<=1073741824/\1<=g.pods/\g.pods<=16)&&(aM g.need&&decide (1<=g.run/\g.run<=1048576/\0<=g.lev/\g.lev<=3/\0<=g.pref/\g.pref<=g.lev))
def dM (c:Con) (g:Gan):Int:=if HH g=true then (if aW c.ns g.ten=true then 0 else 3) else 1
def Rn.pn (r:Rn):Pn:=⟨r.g,r.seq,r.at'⟩
def pnB (s:Sta) (p:Pn):Bool:=decide (dM s.c p.g=0)&&(!(cE s.c [] p.g).isNone&&decide ((0<=p.seq/\p.seq<s.nxt)/\0<=p.at'/\p.at'<=s.now))
def rnB (s:Sta) (r:Rn):Bool:=decide ((r.at'<=r.st/\r.st<=s.now)/\s.now<fC r)&&(oD s.c (fM s.c (s.run.filter fun x=>!(x.g.id==r.g.id))) r.g r.hs&&decide ((aX s.c.hs (r.hs.headD 0)).f=r.fl))
def nT (c:Con) (n:Int):V3:=if aW c.ns n=true then dG (gG c.ns n (jH c.ns)) (bT c.ns n).b else gG c.ns n (jH c.ns)
def I7 (s:Sta):Bool:=(Db s.c.ns.length).all fun i:Nat=>bK (atV (ofL s.c s.run) (i:Int)) (nT s.c (i:Int))
def Pn.q (x:Pn):Q2.Pend:=⟨x.g.id,x.g.ten,x.g.pods,x.g.need.a,x.g.need.b,x.g.need.c,x.g.run,x.g.lev,x.g.pref,x.seq,x.at'⟩
theorem wC (l:List Pn):Q2.pav (l.map Pn.q)=pnv l:=by simp [Q2.pav,pnv,Pn.q,Q2.Pend.av,Q2.Pend.cs,Pn.av,Pn.cs]
def WT (l:List Pn):Bool:=Q2.checkP (l.map Pn.q)
def ids (s:Sta):List Int:=s.pend.map (fun p=>p.g.id)++s.run.map fun r=>r.g.id
def seqs (s:Sta):List Int:=s.pend.map (fun p=>p.seq)++s.run.map fun r=>r.seq
def ZO (s:Sta):Bool:=(gQ s.c||decide (bR s.c=0))&&decide ((0<=s.now/\s.now<=1099511627776)/\(1<=s.nxt/\s.nxt<=1099511627776)/\s.hist.length=s.c.ns.length/\s.pend.length+s.run.length<=32)
def xF (s:Sta):Bool:=ZO s&&(WT s.pend&&((s.pend.all (pnB s)&&s.run.all fun r=>pnB s r.pn&&rnB s r)&&(decide (ids s).Nodup&&(decide (seqs s).Nodup&&I7 s))))
theorem qM {c:Con} {g:Gan}:dM c g=0↔HH g=true/\aW c.ns g.ten=true:=by
 unfold dM
 cases HH g<;>cases aW c.ns g.ten<;>decide
def sP (p:V3->Int) (u:Int) (x:Rn):Int:=p x.g.need*((x.hs.count u:Nat):Int)
theorem uR {p:V3->Int} (hp:Prj p) (need:V3) (b:0<=p need/\p need<=1048576) (j:Nat):∀ (hs:List Int) (xs:List V3) (v:Int),j<xs.length->v<=cY->p ((xs[j]?).getD V3.zero)=max v (-cY)->p (((hs.foldl (mF need) xs)[j]?).getD V3.zero)=max (v-p need*((hs.count (j:Int):Nat):Int)) (-cY)
 | [],xs,v,_,_,h=>by simpa using h
 | u::r,xs,v,hj,hv,h=>by
  rw [Al]
  have e:=T4 need xs u j
  by_cases a:u=(j:Int)
  .subst a
   rw [if_pos ⟨by omega,by omega,by omega⟩] at e
   rw [Hj]
   have hm:p need*(((r.count (j:Int)+1:Nat):Nat):Int)=p need*((r.count (j:Int):Nat):Int)+p need:=by rw [Int.natCast_add,Int.mul_add];simp
   rw [hm]
   have c:p (((mF need xs (j:Int))[j]?).getD V3.zero)=max (v-p need) (-cY):=by
    rw [e,hp.sub,h]
    unfold R4 eV cY at *
    omega
   rw [uR hp need b j r _ (v-p need) (by rw [mE];exact hj) o_ c]
   omega
  .rw [if_neg o_] at e
   rw [Ly (by simpa using a)]
   exact uR hp need b j r _ v (by rw [mE];exact hj) hv (by rw [e];exact h)
theorem J6 {p:V3->Int} (hp:Prj p) (j:Nat):∀ (l:List Rn) (xs:List V3) (v:Int),(∀ x∈l,0<=p x.g.need/\p x.g.need<=1048576)->j<xs.length->v<=cY->p ((xs[j]?).getD V3.zero)=max v (-cY)->p (((l.foldl rF xs)[j]?).getD V3.zero)=max (v-cG (l.map (sP p (j:Int)))) (-cY)
 | [],xs,v,_,_,_,h=>by
  show _=max (v-0) _
  rw [Int.sub_zero]
  exact h
 | x::r,xs,v,hn,hj,hv,h=>by
  have a:=hn x (Az ..)
  have e:=uR hp x.g.need a j x.hs xs v hj hv h
  have hz:0<=p x.g.need*((x.hs.count (j:Int):Nat):Int):=Ip a.1 o_
  rw [Al,Bk]
  have b:=J6 hp j r (rF xs x) (v-p x.g.need*((x.hs.count (j:Int):Nat):Int)) (fun y c=>hn y (Bb _ c)) (by rw [qN];exact hj) o_ e
  rw [b]
  show _=max (v-(sP p (j:Int) x+cG _)) _
  unfold sP
  congr 1
  omega
structure RnOK (s:Sta) (r:Rn):Prop where
 gang:dM s.c r.g=0
 st:0<=r.st/\r.st<=s.now
 chk:oD s.c (fM s.c (s.run.filter fun x=>!(x.g.id==r.g.id))) r.g r.hs=true
theorem aDV {c:Con} {free:List V3} {g:Gan} {hs:List Int} (h:oD c free g hs=true):(hs.length:Int)=g.pods/\∀ u∈hs,0<=u/\u<(free.length:Int)/\((hs.count u:Nat):Int)<=cS ((free[u.toNat]?).getD V3.zero) g.need:=by
 unfold oD at h
 by_cases hl:(hs.length:Int)=g.pods
 .rw [if_pos hl,Ej] at h
  obtain ⟨G,_,b⟩:=h
  refine ⟨hl,fun u f=>?_⟩
  unfold oC BC at b
  simp only [Af,Cj] at b
  have a:=b.2 u f
  unfold Z9 at a
  by_cases h1:u<0
  .rw [if_pos (decide_eq_true h1)] at a
   cases a
  .rw [if_neg (by rw [decide_eq_false h1];decide)] at a
   by_cases d:(free.length:Int)<=u
   .rw [if_pos (decide_eq_true d)] at a
    cases a
   .rw [if_neg (by rw [decide_eq_false d];decide)] at a
    have e:xE u hs=((hs.count u:Nat):Int):=by unfold xE;rw [vC];omega
    rw [e] at a
    simp at a
    exact ⟨by omega,by omega,a⟩
 .rw [if_neg hl] at h
  cases h
theorem A9 (c:Con) (l:List Rn):(fM c l).length=c.hs.length:=by
 have key:∀ (l:List Rn) (xs:List V3),(l.foldl rF xs).length=xs.length:=fun l=>by
  induction l with
  | nil=>intro xs;rfl
  | cons x r a=>intro xs;rw [Al,a,qN]
 unfold fM
 rw [key]
 simp
theorem aGE (c:Con) {j:Nat} (a:j<c.hs.length):(((Db c.hs.length).map fun i:Nat=>(aX c.hs (i:Int)).c)[j]?).getD V3.zero=(aX c.hs (j:Int)).c:=by
 rw [Bc,Ch a]
 rfl
theorem OH {c:Con} (h:bR c=0) {j:Nat} (b:j<c.hs.length):aM (aX c.hs (j:Int)).c=true:=by
 unfold bR at h
 split at h
 .split at h
  .split at h
   .rename_i a
    rw [Cj] at a
    have d:aX c.hs (j:Int)=c.hs[j]:=by unfold aX;rw [Cl,Aa b];rfl
    have:=a c.hs[j] (Bf b)
    unfold mD at this
    split at this
    .cases this
    .rw [d];exact this
   .cases h
  .cases h
 .cases h
theorem QW {p:V3->Int} (hp:Prj p) {c:Con} (a:∀ j:Nat,j<c.hs.length->0<=p (aX c.hs (j:Int)).c/\p (aX c.hs (j:Int)).c<=1048576) {l:List Rn} (d:∀ x∈l,0<=p x.g.need/\p x.g.need<=1048576) {j:Nat} (b:j<c.hs.length):p (((fM c l)[j]?).getD V3.zero)=max (p (aX c.hs (j:Int)).c-cG (l.map (sP p (j:Int)))) (-cY):=by
 have e:=a j b
 unfold fM
 exact J6 hp j l _ _ d (by simpa using b) (by unfold cY;omega) (by rw [aGE c b];unfold cY;omega)
theorem O9 {f:Rn->Int} {r:Rn}:∀ {l:List Rn},r∈l->(l.map fun x=>x.g.id).Nodup->cG (l.map f)=cG ((l.filter fun x=>!(x.g.id==r.g.id)).map f)+f r
 | [],h,_=>by cases h
 | x::l,h,hd=>by
  rw [Bk,Bw] at hd
  rw [Bk]
  show f x+cG (l.map f)=_
  rcases Ao.1 h with rfl | h
  .rw [Ek s_]
   have e:l.filter (fun x=>!(x.g.id==r.g.id))=l:=by
    rw [Kc]
    intro y b
    have:y.g.id≠r.g.id:=fun q=>hd.1 (by rw [<-q];exact Bu.2 ⟨y,b,rfl⟩)
    simpa using this
   rw [e]
   omega
  .have a:x.g.id≠r.g.id:=fun q=>hd.1 (by rw [q];exact Bu.2 ⟨r,h,rfl⟩)
   rw [Em (by simpa using a),Bk]
   show _=(f x+cG _)+f r
   rw [O9 h hd.2]
   omega
theorem qD {free need:V3} {n:Int} (f:aM need=true) (h1:1<=n) (h:n<=cS free need):need.a*n<=free.a/\need.b*n<=free.b/\need.c*n<=free.c:=by
 have d:bK need free=true:=by
  cases e:bK need free with
  | true=>rfl
  | false=>
   unfold cS at h
   rw [if_neg (by rw [e];decide)] at h
   omega
 exact ((xL f d _).1 h).2
set_option maxRecDepth 10000
def fE (n lo a:Int):Bool:=decide (lo<=n)&&decide (n<=a)
theorem fD {n lo a:Int}:fE n lo a=true↔lo<=n/\n<=a:=by unfold fE;simp
theorem gX (n lo a:Int):aA Tryz.prog 75 [ii n,ii lo,ii a] [] (.ret (.bool (fE n lo a))) []:=by
 unfold fE
 by_cases h1:lo<=n
 .rw [decide_eq_true h1,Cd]
  exact c_ Tryz.f75 fun _=>zW
 .rw [decide_eq_false h1,Ct]
  exact c_ Tryz.f75 fun _=>zW
theorem sR (n lo a:Int):aA Tryz.prog 113 [ii n,ii lo,ii a] [] (.ret (.bool (fE n lo a))) []:=by
 unfold fE
 by_cases h1:lo<=n
 .rw [decide_eq_true h1,Cd]
  exact c_ Tryz.f113 fun _=>zW
 .rw [decide_eq_false h1,Ct]
  exact c_ Tryz.f113 fun _=>zW
theorem M3 (v:V3) (b:Bool) (d:aM v=b):aA Tryz.prog 151 [v.av] [] (.ret (.bool b)) []:=by
 unfold aM at d
 refine c_ Tryz.f151 fun _=>?_
 repeat' first
  | (refine gW hE ?_;conv=>whnf)
  | exact d
  | refine aY ?_
  | refine aN ?_
  | refine Ad (fun h=>?_) (fun h=>?_)
  | refine aJ ?_
  | refine Aw _ (Ad rfl ?_)
  | refine Ad d_ ?_
 all_goals (refine congrArg (fun b=>Res.ret (AVal.bool b)) ?_;rw [<-d];simp only [decide_eq_true_eq,decide_eq_false_iff_not] at *)
 .rw [decide_eq_false (p:=0<=v.a/\v.a<=1048576) o_];rfl
 .rw [decide_eq_false (p:=0<=v.a/\v.a<=1048576) o_];rfl
 .rw [decide_eq_false (p:=0<=v.b/\v.b<=1048576) o_,Bn];rfl
 .rw [decide_eq_false (p:=0<=v.b/\v.b<=1048576) o_,Bn];rfl
 .rw [decide_eq_false (p:=0<=v.c/\v.c<=1048576) o_,Bn]
 .rw [decide_eq_false (p:=0<=v.c/\v.c<=1048576) o_,Bn]
 .rw [decide_eq_true (p:=0<=v.a/\v.a<=1048576) o_,decide_eq_true (p:=0<=v.b/\v.b<=1048576) o_,decide_eq_true (p:=0<=v.c/\v.c<=1048576) o_];rfl
theorem dS (v:V3):aA Tryz.prog 151 [v.av] [] (.ret (.bool (aM v))) []:=M3 v _ rfl
def D9 (x:Hos):Bool:=fE x.f 0 100&&(fE x.b 0 100&&(fE x.r 0 100&&aM x.c))
theorem aC0 (x:Hos):aA Tryz.prog 77 [x.av] [] (.ret (.bool (D9 x))) []:=by
 have h1:=gX x.f 0 100
 have d:=gX x.b 0 100
 have h3:=gX x.r 0 100
 have a:=dS x.c
 unfold D9
 generalize fE x.f 0 100=b1 at h1
 generalize fE x.b 0 100=b2 at d
 generalize fE x.r 0 100=b3 at h3
 generalize aM x.c=b4 at a
 cases b1<;>cases b2<;>cases b3<;>cases b4
 all_goals
  exact c_ Tryz.f77 fun _=>zW
theorem ZM (x:Hos):D9 x=mD x:=by
 rw [Fy]
 unfold D9 mD
 by_cases h:HI x
 .rw [if_pos h]
  unfold HI at h
  simp only [Af,fD]
  constructor
  .intro q;omega
  .intro q;cases q
 .rw [if_neg h]
  unfold HI at h
  simp only [Af,fD]
  constructor
  .intro q;exact q.2.2.2
  .intro q;exact ⟨by omega,by omega,by omega,q⟩
theorem S9 (c:Con) (i:Nat) (t:i<1048576) (x:Nod) (get:(nav c.ns)[i]? =some x.av) (s:pP i x):aA Tryz.prog 76 [c.av,ii i] [] (.ret (.bool false)) []:=by
 have d:=gX x.p 0 ((i:Int)-1)
 have e:=gX x.w 1 1000
 have hl:=gX x.w 1 1000
 have j:=dS x.n
 have m:=dS x.b
 have o:=dS x.l
 have k:=lP x.l x.n
 unfold pP at s
 by_cases r:i=0
 .by_cases hp:x.p= -1
  .have q:fE x.w 1 1000=false:=by
    cases a:fE x.w 1 1000 with
    | false=>rfl
    | true=>have:=fD.1 a;omega
   rw [q] at e
   subst r
   refine c_ Tryz.f76 fun _=>?_
   repeat' first | (refine gN hE ?_;conv=>whnf) | refine ⟨i,rfl,?_⟩ | refine ⟨_,get,?_⟩ | refine .pure _ [] d ?_ | refine .pure _ [] e ?_ | refine .pure _ [] hl ?_ | refine .pure _ [] j ?_ | refine .pure _ [] m ?_ | refine .pure _ [] o ?_ | refine .pure _ [] k ?_ | exact rfl | refine aY ?_ | refine aN ?_ | refine aT fun h=>?_ | refine aF fun h=>?_ | refine ⟨fun h=>?_,fun h=>?_⟩ | refine aJ ?_ | refine ⟨_,rfl,?_⟩ | refine aD ?_ | fail
  .subst r
   refine c_ Tryz.f76 fun _=>?_
   repeat' first | (refine gN hE ?_;conv=>whnf) | refine ⟨i,rfl,?_⟩ | refine ⟨_,get,?_⟩ | refine .pure _ [] d ?_ | refine .pure _ [] e ?_ | refine .pure _ [] hl ?_ | refine .pure _ [] j ?_ | refine .pure _ [] m ?_ | refine .pure _ [] o ?_ | refine .pure _ [] k ?_ | exact rfl | refine aY ?_ | refine aN ?_ | refine aT fun h=>?_ | refine aF fun h=>?_ | refine ⟨fun h=>?_,fun h=>?_⟩ | refine aJ ?_ | refine ⟨_,rfl,?_⟩ | refine aD ?_ | fail
   all_goals (exfalso;simp at *;omega)
 .cases a:fE x.p 0 ((i:Int)-1) with
  | false=>
   rw [a] at d
   exact c_ Tryz.f76 fun _=>zW
  | true=>
   rw [a] at d
   have:=fD.1 a
   have q:fE x.w 1 1000=false:=by
    cases a:fE x.w 1 1000 with
    | false=>rfl
    | true=>have:=fD.1 a;omega
   rw [q] at e
   refine c_ Tryz.f76 fun _=>?_
   repeat' first | (refine gN hE ?_;conv=>whnf) | refine ⟨i,rfl,?_⟩ | refine ⟨_,get,?_⟩ | refine .pure _ [] d ?_ | refine .pure _ [] e ?_ | refine .pure _ [] hl ?_ | refine .pure _ [] j ?_ | refine .pure _ [] m ?_ | refine .pure _ [] o ?_ | refine .pure _ [] k ?_ | exact rfl | refine aY ?_ | refine aN ?_ | refine aT fun h=>?_ | refine aF fun h=>?_ | refine ⟨fun h=>?_,fun h=>?_⟩ | refine aJ ?_ | refine ⟨_,rfl,?_⟩ | refine aD ?_ | fail
set_option maxHeartbeats 2000000 in
theorem M6 (c:Con) (i:Nat) (s:i<1048576) (x:Nod) (get:(nav c.ns)[i]? =some x.av) (q:¬ pP i x) (a:aW c.ns (i:Int)=true):aA Tryz.prog 76 [c.av,ii i] [] (.ret (.bool (aM x.n&&(aM x.b&&(aM x.l&&bK x.l x.n))))) []:=by
 have e:=gX x.p 0 ((i:Int)-1)
 have o:=gX x.w 1 1000
 have hl:=nF c (i:Int)
 rw [a] at hl
 have d:=dS x.n
 have k:=dS x.b
 have m:=dS x.l
 have j:=lP x.l x.n
 unfold pP at q
 rw [fD.2 (show 1<=x.w/\x.w<=1000 by omega)] at o
 generalize aM x.n=q1 at d
 generalize aM x.b=q2 at k
 generalize aM x.l=q3 at m
 generalize bK x.l x.n=q4 at j
 by_cases r:i=0
 .have hp:x.p= -1:=o_
  subst r
  cases q1<;>cases q2<;>cases q3<;>cases q4
  all_goals
   refine c_ Tryz.f76 fun _=>?_
   repeat' first | (refine gN hE ?_;conv=>whnf) | refine ⟨i,rfl,?_⟩ | refine ⟨_,get,?_⟩ | refine .pure _ [] e ?_ | refine .pure _ [] o ?_ | refine .pure _ [] hl ?_ | refine .pure _ [] d ?_ | refine .pure _ [] k ?_ | refine .pure _ [] m ?_ | refine .pure _ [] j ?_ | exact rfl | refine aY ?_ | refine aN ?_ | refine aT fun h=>?_ | refine aF fun h=>?_ | refine ⟨fun h=>?_,fun h=>?_⟩ | refine aJ ?_ | refine ⟨_,rfl,?_⟩ | refine aD ?_ | fail
   all_goals (exfalso;simp at *;omega)
 .rw [fD.2 (show 0<=x.p/\x.p<=(i:Int)-1 by omega)] at e
  cases q1<;>cases q2<;>cases q3<;>cases q4
  all_goals
   exact c_ Tryz.f76 fun _=>zW
theorem X4 (c:Con) (i:Nat) (v:i<1048576) (x:Nod) (get:(nav c.ns)[i]? =some x.av) (s:¬ pP i x) (e:aW c.ns (i:Int)=false) (r:Bool) (t:(zB x.n&&(zB x.b&&zB x.l))=r):aA Tryz.prog 76 [c.av,ii i] [] (.ret (.bool r)) []:=by
 have d:=gX x.p 0 ((i:Int)-1)
 have j:=gX x.w 1 1000
 have hl:=nF c (i:Int)
 rw [e] at hl
 have k:=dS x.n
 have o:=dS x.b
 have q:=dS x.l
 have m:=lP x.l x.n
 unfold pP at s
 rw [fD.2 (show 1<=x.w/\x.w<=1000 by omega)] at j
 have fin:(((x.p==x.p)&&((x.w==x.w)&&((x.n.a==0)&&((x.n.b==0)&&((x.n.c==0)&&((x.b.a==0)&&((x.b.b==0)&&((x.b.c==0)&&((x.l.a==0)&&((x.l.b==0)&&((x.l.c==0)&&true)))))))))))=r):=by
  rw [<-t]
  unfold zB
  simp [Gr]
 by_cases u:i=0
 .have hp:x.p= -1:=o_
  subst u
  refine c_ Tryz.f76 fun _=>?_
  repeat' first | (refine gN hE ?_;conv=>whnf) | refine ⟨i,rfl,?_⟩ | refine ⟨_,get,?_⟩ | refine .pure _ [] d ?_ | refine .pure _ [] j ?_ | refine .pure _ [] hl ?_ | refine .pure _ [] k ?_ | refine .pure _ [] o ?_ | refine .pure _ [] q ?_ | refine .pure _ [] m ?_ | exact rfl | refine aY ?_ | refine aN ?_ | refine aT fun h=>?_ | refine aF fun h=>?_ | refine ⟨fun h=>?_,fun h=>?_⟩ | refine aJ ?_ | refine ⟨_,rfl,?_⟩ | refine aD ?_ | fail
  .exact absurd (show (x.p != -1)=true by assumption) (by rw [hp];decide)
  .exact congrArg (fun b=>Res.ret (AVal.bool b)) fin
 .rw [fD.2 (show 0<=x.p/\x.p<=(i:Int)-1 by omega)] at d
  refine c_ Tryz.f76 fun _=>?_
  repeat' first | (refine gN hE ?_;conv=>whnf) | refine ⟨i,rfl,?_⟩ | refine ⟨_,get,?_⟩ | refine .pure _ [] d ?_ | refine .pure _ [] j ?_ | refine .pure _ [] hl ?_ | refine .pure _ [] k ?_ | refine .pure _ [] o ?_ | refine .pure _ [] q ?_ | refine .pure _ [] m ?_ | exact rfl | refine aY ?_ | refine aN ?_ | refine aT fun h=>?_ | refine aF fun h=>?_ | refine ⟨fun h=>?_,fun h=>?_⟩ | refine aJ ?_ | refine ⟨_,rfl,?_⟩ | refine aD ?_ | fail
  exact congrArg (fun b=>Res.ret (AVal.bool b)) fin
theorem X3 (c:Con) (i:Nat) (b:i<1048576) (x:Nod) (get:(nav c.ns)[i]? =some x.av):aA Tryz.prog 76 [c.av,ii i] [] (.ret (.bool (lY (aW c.ns (i:Int)) i x))) []:=by
 unfold lY
 by_cases a:pP i x
 .rw [if_pos a]
  exact S9 c i b x get a
 .rw [if_neg a]
  cases hl:aW c.ns (i:Int) with
  | false=>rw [if_neg d_];exact X4 c i b x get a hl _ rfl
  | true=>rw [if_pos rfl];exact M6 c i b x get a hl
noncomputable abbrev Q7:Func:=Tryz.f29
def AH (ns:List Nod):Nat->List Nod->Bool
 | _,[]=>true
 | i,x::r=>lY (aW ns (i:Int)) i x&&AH ns (i+1) r
theorem zX (c:Con) (j:c.sm) (r:Int):∀ (m i:Nat) (b:Bool),i+m=c.hs.length->(if (b&&(c.hs.drop i).all mD)=true then (0:Int) else 2)=r->
  To E Q7 (.pure (.ret (ii r))) (.head (stk Q7 1) [(1,.ref 0 0),(3,.bool b),(5,ii i)] [.cells 26 c.cs]):=by
 have f:(hav c.hs).length=c.hs.length:=by simp
 have h1:=j.hs
 intro m
 induction m with
 | zero=>
  intro i b h a
  rw [Ae o_] at a
  cases b with
  | false=>
   have a:2=r:=a
   subst a
   refine gV ?_
   exact zW
  | true=>
   have a:0=r:=a
   subst a
   refine gV ?_
   exact zW
 | succ m g=>
  intro i b h a
  cases b with
  | false=>
   have a:2=r:=a
   subst a
   refine gV ?_
   exact zW
  | true=>
   have d:i<c.hs.length:=o_
   rw [Ac d,Gm,<-ZM] at a
   have get:=nI d
   generalize c.hs[i]=x at a get
   have e:=aC0 x
   have next:=g (i+1) (D9 x) o_ a
   generalize D9 x=q at e next
   refine gV ?_
   exact zW
theorem M8 (c:Con) (f:c.sm) (r:Int):∀ (m i:Nat) (b:Bool),i+m=c.ns.length->(if ((b&&AH c.ns i (c.ns.drop i))&&c.hs.all mD)=true then (0:Int) else 2)=r->
  To E Q7 (.pure (.ret (ii r))) (.head (stk Q7 0) [(1,.ref 0 0),(3,.bool b),(4,ii i)] [.cells 26 c.cs]):=by
 have g:(nav c.ns).length=c.ns.length:=by simp
 have h1:=f.ns
 intro m
 induction m with
 | zero=>
  intro i b j a
  rw [Ae o_] at a
  have next:=zX c f r c.hs.length 0 b o_ (by rw [<-a];show _=if ((b&&true)&&_)=true then (0:Int) else 2;rw [Hc];rfl)
  cases b with
  | false=>
   refine gV ?_
   exact zW
  | true=>
   refine gV ?_
   exact zW
 | succ m h=>
  intro i b j a
  cases b with
  | false=>
   have next:=zX c f r c.hs.length 0 false o_ (by rw [<-a];rfl)
   refine gV ?_
   exact zW
  | true=>
   have d:i<c.ns.length:=o_
   rw [Ac d] at a
   have get:=eW d
   generalize c.ns[i]=x at a get
   have e:=X3 c i o_ x get
   have next:=h (i+1) (lY (aW c.ns (i:Int)) i x) o_ a
   generalize lY (aW c.ns (i:Int)) i x=q at e next
   refine gV ?_
   exact zW
theorem JQ (ns:List Nod):∀ (l:List Nod) (i:Nat),AH ns i l=lH ns i l
 | [],_=>rfl
 | x::r,i=>by
  unfold AH lH
  rw [JQ ns r (i+1),oN]
  cases lY (aW ns (i:Int)) i x<;>rfl
def R7 (c:Con):Bool:=fE c.ns.length 1 12&&(fE c.hs.length 1 24&&(fE c.half 1 1048576&&fE c.age 0 1048576))
theorem IC (c:Con):R7 c=true↔wU c:=by
 unfold R7 wU
 simp only [Af,fD]
 omega
theorem UU (c:Con):(if ((R7 c&&AH c.ns 0 (c.ns.drop 0))&&c.hs.all mD)=true then (0:Int) else 2)=bR c:=by
 unfold bR
 rw [Cn,JQ]
 cases hs:R7 c with
 | false=>
  rw [if_neg (c:=wU c) (fun q=>by rw [(IC c).2 q] at hs;cases hs)]
  rfl
 | true=>
  rw [if_pos (c:=wU c) ((IC c).1 hs)]
  cases lH c.ns 0 c.ns<;>cases c.hs.all mD<;>rfl
set_option maxHeartbeats 2000000 in
theorem TC (c:Con) (k:c.sm):aA Tryz.prog 29 [c.av] [] (.ret (ii (bR c))) []:=by
 have b:(nav c.ns).length=c.ns.length:=by simp
 have a:(hav c.hs).length=c.hs.length:=by simp
 have h:=M8 c k (bR c) c.ns.length 0 (R7 c) o_ (UU c)
 have i:=gX ((nav c.ns).length:Nat) 1 12
 have d:=gX ((hav c.hs).length:Nat) 1 24
 have e:=gX c.half 1 1048576
 have j:=gX c.age 0 1048576
 unfold R7 at h
 rw [<-b,<-a] at h
 generalize fE ((nav c.ns).length:Nat) 1 12=q1 at i h
 generalize fE ((hav c.hs).length:Nat) 1 24=q2 at d h
 generalize fE c.half 1 1048576=q3 at e h
 generalize fE c.age 0 1048576=q4 at j h
 generalize bR c=r at h
 cases q1<;>cases q2<;>cases q3<;>cases q4
 all_goals
  exact c_ Tryz.f29 fun _=>zW
def aGI (g:Gan):Bool:=fE g.id 1 1073741824&&(fE g.pods 1 16&&(aM g.need&&(fE g.run 1 1048576&&(fE g.lev 0 3&&fE g.pref 0 g.lev))))
theorem aD0 (g:Gan):aGI g=HH g:=by
 rw [Fy]
 unfold aGI HH
 simp only [Af,fD,decide_eq_true_eq]
 constructor
 .rintro ⟨a,b,c,d,e,f⟩
  exact ⟨⟨a.1,a.2,b.1,b.2⟩,c,d.1,d.2,e.1,e.2,f.1,f.2⟩
 .rintro ⟨⟨a,b,c,d⟩,v,e,f,h,i,j,k⟩
  exact ⟨⟨a,b⟩,⟨c,d⟩,v,⟨e,f⟩,⟨h,i⟩,j,k⟩
theorem V2 (c:Con) (g:Gan):aA Tryz.prog 82 [c.av,g.av] [] (.ret (ii (dM c g))) []:=by
 have e:=sR g.id 1 1073741824
 have b:=sR g.pods 1 16
 have d:=dS g.need
 have h:=sR g.run 1 1048576
 have a:=sR g.lev 0 3
 have i:=sR g.pref 0 g.lev
 have j:=nF c g.ten
 unfold dM
 rw [<-aD0]
 unfold aGI
 generalize fE g.id 1 1073741824=q1 at e
 generalize fE g.pods 1 16=q2 at b
 generalize aM g.need=q3 at d
 generalize fE g.run 1 1048576=q4 at h
 generalize fE g.lev 0 3=q5 at a
 generalize fE g.pref 0 g.lev=q6 at i
 generalize aW c.ns g.ten=q7 at j
 cases q1 with
 | false=>
  exact zqca18
 | true=>
  cases q2 with
  | false=>
   exact zqca18
  | true=>
   cases q3 with
   | false=>
    exact zqca18
   | true=>
    cases q4 with
    | false=>
     exact zqca18
    | true=>
     cases q5 with
     | false=>
      exact zqca18
     | true=>
      cases q6 with
      | false=>
       exact zqca18
      | true=>
       cases q7 with
       | false=>
        exact zqca18
       | true=>
        exact zqca18
theorem MX (c:Con) (e:c.sm) (g:Gan):aA Tryz.prog 64 [c.av,g.av] [] (.ret (ii (dM c g))) []:=by
 have d:=oF g.need
 have hl:=iM c e g.ten
 rw [oN] at hl
 unfold dM HH
 generalize aM g.need=q3 at d
 generalize aW c.ns g.ten=q7 at hl
 by_cases b:1<=g.id/\g.id<=1073741824/\1<=g.pods/\g.pods<=16
 .rw [decide_eq_true b]
  cases q3 with
  | false=>
   exact zqca24
  | true=>
   by_cases a:1<=g.run/\g.run<=1048576/\0<=g.lev/\g.lev<=3/\0<=g.pref/\g.pref<=g.lev
   .rw [decide_eq_true a]
    cases q7 with
    | false=>
     exact zqca24
    | true=>
     exact zqca24
   .rw [decide_eq_false a]
    exact zqca24
 .rw [decide_eq_false b]
  exact zqca24
def NY (c:Con):Bool:=C8.eqL Nod.eqb c.ns []&&(C8.eqL Hos.eqb c.hs []&&(c.half==0&&c.age==0))
theorem UI (c:Con):NY c=gQ c:=by
 obtain ⟨ns,hs,b,a⟩:=c
 unfold NY gQ
 cases ns<;>cases hs<;>simp [C8.eqL]<;>rfl
def aHS:Con:=⟨[],[],0,0⟩
theorem V5 (c:Con):aA Tryz.prog 74 [c.av,aHS.av] [] (.ret (.bool (gQ c))) []:=by
 have h1:=C8.eqN_ok c.ns []
 have b:=C8.eqH_ok c.hs []
 rw [<-UI]
 unfold NY
 generalize C8.eqL Nod.eqb c.ns []=q1 at h1
 generalize C8.eqL Hos.eqb c.hs []=q2 at b
 obtain ⟨R,a⟩:∃ R:Bool,R=(q1&&(q2&&(c.half==0&&c.age==0))):=⟨_,rfl⟩
 rw [<-a]
 cases q1 with
 | false=>
  exact zqca46
 | true=>
  cases q2 with
  | false=>
   exact zqca46
  | true=>
   have a:R=(c.half==0&&c.age==0):=a
   refine c_ Tryz.f74 fun _=>?_
   repeat' first | (refine gN hE ?_;conv=>whnf) | refine .pure _ [] h1 ?_ | refine .pure _ [] b ?_ | exact rfl | refine aY ?_ | refine aN ?_ | refine aT fun h=>?_ | refine aF fun h=>?_ | refine ⟨fun h=>?_,fun h=>?_⟩ | refine aJ ?_ | refine ⟨_,rfl,?_⟩ | refine aD ?_ | fail
   all_goals (rw [a];simp_all [aHS])
theorem pF (c:Con):aA Tryz.prog 28 [c.av] [] (.ret (.bool (gQ c))) []:=by
 have h:=V5 c
 generalize gQ c=q at h
 exact c_ Tryz.f28 fun _=>zW
def GP {α:Type} (p:α->Bool):List α->Int->Int
 | [],_=> -1
 | x::r,i=>if p x=true then i else GP p r (i+1)
theorem A4 {α:Type} (p:α->Bool):∀ (l:List α) (i:Int),0<=i->decide (0<=GP p l i)=l.any p
 | [],i,_=>rfl
 | x::r,i,h=>by
  unfold GP
  rw [Gn]
  cases hp:p x with
  | true=>rw [if_pos rfl,decide_eq_true h];rfl
  | false=>rw [if_neg d_,A4 p r (i+1) o_];rfl
theorem NM (f:FuncId) (c:List AVal) (xs:List Int) (p:Int->Bool) (l:∀ x∈xs,aA Tryz.prog f [ii x,.ptr c] [] (.ret (.bool (p x))) []) (hl:((iv xs).length:Int)<=9223372036854775807) (r:Int):
  ∀ (n i:Nat),i+n=xs.length->GP p (xs.drop i) i=r->
  To E Tryz.f276 (.pure (.ret (.int .i64 r))) (.head (stk Tryz.f276 0) [(0,.slice 1 (iv xs) .no),(1,.func (.func f) [] [.ptr c]),(7,.int .i64 ((iv xs).length:Nat)),(8,.int .i64 i)] []):=by
  have g:(iv xs).length=xs.length:=by simp
  intro n
  induction n with
  | zero=>
   exact zqca37
  | succ n j=>
   intro i k a
   have b:i<xs.length:=o_
   refine gV ?_
   refine aT fun h=>?_
   refine gV ?_
   refine ⟨i,rfl,?_⟩
   refine gV ?_
   refine ⟨_,cH b,?_⟩
   exact zqca6
theorem NN (f:FuncId) (c:List AVal) (xs:List (List Int)) (p:List Int->Bool) (l:∀ x∈xs,aA Tryz.prog f [.slice 1 (iv x) .no,.ptr c] [] (.ret (.bool (p x))) []) (hl:((gav xs).length:Int)<=9223372036854775807) (r:Int):
  ∀ (n i:Nat),i+n=xs.length->GP p (xs.drop i) i=r->
  To E Tryz.f274 (.pure (.ret (.int .i64 r))) (.head (stk Tryz.f274 0) [(0,.slice 1 (gav xs) .no),(1,.func (.func f) [] [.ptr c]),(7,.int .i64 ((gav xs).length:Nat)),(8,.int .i64 i)] []):=by
  have g:(gav xs).length=xs.length:=by simp
  intro n
  induction n with
  | zero=>
   exact zqca37
  | succ n j=>
   intro i k a
   have b:i<xs.length:=o_
   refine gV ?_
   refine aT fun h=>?_
   refine gV ?_
   refine ⟨i,rfl,?_⟩
   refine gV ?_
   refine ⟨_,xS b,?_⟩
   exact zqca6
theorem aAG (f:FuncId) (a:List AVal) (xs:List Int) (p:Int->Bool) (c:∀ x∈xs,aA Tryz.prog f [ii x,.ptr a] [] (.ret (.bool (p x))) []):
  aA Tryz.prog 224 [.slice 1 (iv xs) .no,.func (.func f) [] [.ptr a]] [] (.ret (.bool (xs.any p))) []:=by
 have d:aA Tryz.prog 276 [.slice 1 (iv xs) .no,.func (.func f) [] [.ptr a]] [] (.ret (.int .i64 (GP p xs 0))) []:=by
  refine c_ Tryz.f276 fun b=>?_
  refine gV ?_
  refine To.head [0,1,7,8] ?_
  exact NM f a xs p c b.1 _ xs.length 0 o_ s_
 rw [<-A4 p xs 0 (Dc _)]
 exact c_ Tryz.f224 fun _=>zW
theorem aAH (f:FuncId) (a:List AVal) (xs:List (List Int)) (p:List Int->Bool) (c:∀ x∈xs,aA Tryz.prog f [.slice 1 (iv x) .no,.ptr a] [] (.ret (.bool (p x))) []):
  aA Tryz.prog 221 [.slice 1 (gav xs) .no,.func (.func f) [] [.ptr a]] [] (.ret (.bool (xs.any p))) []:=by
 have d:aA Tryz.prog 274 [.slice 1 (gav xs) .no,.func (.func f) [] [.ptr a]] [] (.ret (.int .i64 (GP p xs 0))) []:=by
  refine c_ Tryz.f274 fun b=>?_
  refine gV ?_
  refine To.head [0,1,7,8] ?_
  exact NN f a xs p c b.1 _ xs.length 0 o_ s_
 rw [<-A4 p xs 0 (Dc _)]
 exact c_ Tryz.f221 fun _=>zW
theorem aDR (G:List Int) (a:G.length<=1048576) (h:Int):aA Tryz.prog 225 [ii h,.ptr [.slice 1 (iv G) .no]] [] (.ret (.bool (!inB h G))) []:=by
 have b:=K1 G a h
 exact c_ Tryz.f225 fun _=>zW
theorem aGB (G l:List Int) (a:G.length<=1048576):aA Tryz.prog 223 [.slice 1 (iv G) .no,.ptr [.slice 1 (iv l) .no]] [] (.ret (.bool (!(l.any fun h=>!inB h G)))) []:=by
 have b:=aAG 225 [.slice 1 (iv G) .no] l (fun h=>!inB h G) fun x _=>aDR G a x
 refine c_ Tryz.f223 fun _=>?_
 refine bV hE 10 ?_;conv=>whnf
 refine To.frz [2] [0] ?_
 exact zW
theorem U9 {l:List V3} {u:Int} (a:0<=u) (h1:u<(l.length:Int)):(vav l)[u.toNat]? =some ((l[u.toNat]?).getD V3.zero).av:=by
 rw [Aa (show u.toNat<l.length by omega)]
 exact jD o_
theorem aBh {c:Con} {l:List Rn} {n:Int} (h:c.ok n):(vav (ofL c l))[n.toNat]? =some (atV (ofL c l) n).av:=by
 obtain ⟨a,h1⟩:=h
 have hl:(ofL c l).length=c.ns.length:=by unfold ofL kR;simp
 unfold atV
 rw [if_neg q_]
 exact U9 a o_
theorem GC (k:List Int) (v:AVal) (x:List Int):∀ (es:List (List Int×AVal)),bO (jW es k v) x=if k=x then some v else bO es x
 | []=>rfl
 | (j,w)::r=>by
  show bO (if j=k then (k,v)::r else (j,w)::jW r k v) x=if k=x then some v else (if j=x then some w else bO r x)
  by_cases b:j=k
  .subst b
   rw [if_pos rfl]
   show (if j=x then some v else bO r x)=_
   by_cases a:j=x
   .rw [if_pos a,if_pos a]
   .rw [if_neg a,if_neg a,if_neg a]
  .rw [if_neg b]
   show (if j=x then some w else bO (jW r k v) x)=_
   rw [GC k v x r]
   by_cases a:j=x
   .subst a
    rw [if_pos rfl,if_neg (fun q=>b q.symm),if_pos rfl]
   .rw [if_neg a,if_neg a]
def aGT (es:List (List Int×AVal)) (pre:List Int):Prop:=∀ h:Int,bO es [h]=if pre.count h=0 then none else some (ii ((pre.count h:Nat):Int))
theorem Y3 {es:List (List Int×AVal)} {pre:List Int} (hm:aGT es pre) (h v:Int) (b:v=((pre.count h:Nat):Int)+1):aGT (jW es [h] (ii v)) (pre++[h]):=fun x=>by
 rw [GC,Iq]
 by_cases a:h=x
 .subst a
  rw [if_pos rfl,if_neg s_,b]
  simp
 .rw [if_neg (by simpa using a),hm x]
  have:[h].count x=0:=Kj.2 (by simpa using fun q=>a q.symm)
  rw [this,Df]
def plS (free:List V3) (need:V3) (n h:Int):Bool:=if decide (h<0)=true then false else if decide ((free.length:Int)<=h)=true then false else !decide (cS ((free[h.toNat]?).getD V3.zero) need<n)
def plB (free:List V3) (need:V3):List Int->List Int->Bool
 | _,[]=>true
 | pre,h::r=>plS free need (((pre.count h:Nat):Int)+1) h&&plB free need (pre++[h]) r
noncomputable abbrev aDm:Func:=Tryz.f158
def ZQ (l:List Int) (G:List Int):Bool:=!(l.any fun h=>!inB h G)
abbrev plF (c:Con) (free:List V3) (g:Gan) (l:List Int) (i:Int):List (Nat×AVal):=[(1,.slice 3 (vav free) .no),(4,.ptr c.cs),(6,.ptr g.cs),(7,.ptr [.slice 1 (iv l) .no]),(9,.mref 0),(18,.slice 1 (iv l) .no),(19,.int .i64 ((iv l).length:Nat)),(20,ii i)]
theorem X7 (c:Con) (H:c.sm) (free:List V3) (g:Gan) (l:List Int) (hl:l.length<=1048576) (A:Bool) (N:(gpL c g.lev).any (ZQ l)=A) (r:Bool):∀ (m i:Nat) (es:List (List Int×AVal)),i+m=l.length->aGT es (l.take i)->(plB free g.need (l.take i) (l.drop i)&&A)=r->
  To E aDm (.pure (.ret (.bool r))) (.head (stk aDm 0) (plF c free g l (i:Int)) [.mp false es]):=by
 have I:(iv l).length=l.length:=by simp
 have P:(vav free).length=free.length:=by simp
 intro m
 induction m with
 | zero=>
  intro i es L hm b
  rw [Ae o_] at b
  have b:A=r:=b
  subst b
  have D:=NO c g.lev
  have K:=H.hs
  have h1:=ED c H g.lev
  have x:=aAH 223 [.slice 1 (iv l) .no] (gpL c g.lev) (ZQ l) fun G J=>aGB G l (by have:=(D.2 G J).2.1;omega)
  rw [N] at x
  generalize gpL c g.lev=gs at h1 x
  refine gV ?_
  exact zW
 | succ m s=>
  intro i es L hm b
  have p:i<l.length:=o_
  have C:l.take (i+1)=l.take i++[l[i]]:=by rw [List.take_add_one,Aa p];rfl
  rw [Ac p] at b
  have get:=cH p
  have s:=fun es=>s (i+1) es o_
  rw [C] at s
  generalize l[i]=u0 at b get s
  have t:((l.take i).count u0)<=1048576:=Cs Md q_
  have next:=fun v (M:v=(((l.take i).count u0:Nat):Int)+1)=>s (jW es [u0] (ii v)) (Y3 hm u0 v M)
  have y:=hm u0
  have d:∀ v,bO (jW es [u0] v) [u0]=some v:=fun v=>by rw [GC,if_pos rfl]
  have b:((plS free g.need ((((l.take i).count u0:Nat):Int)+1) u0&&plB free g.need (l.take i++[u0]) (l.drop (i+1)))&&A)=r:=b
  generalize plB free g.need (l.take i++[u0]) (l.drop (i+1))=B at b next
  generalize (l.take i).count u0=k at t y b next
  unfold plS at b
  have go:∀ (w:Int),w=(k:Int)->(∃ o,bO es [u0]=o/\(o=none/\w=0\/o=some (ii w)))->To E aDm (.pure (.ret (.bool r))) (.head (stk aDm 0) (plF c free g l (i:Int)) [.mp false es]):=fun w O ⟨o,j,z⟩=>by
   have next:=next (w+1) o_
   rw [show ((k:Int)+1)=w+1 from by omega] at b
   by_cases h1:u0<0
   .rw [decide_eq_true h1] at b
    exact zqca0
   .rw [decide_eq_false h1,if_neg d_] at b
    by_cases x:(free.length:Int)<=u0
    .rw [decide_eq_true x] at b
     exact zqca0
    .rw [decide_eq_false x,if_neg d_] at b
     have n:u0=(u0.toNat:Int):=o_
     have e:=U9 (l:=free) (u:=u0) o_ o_
     generalize (free[u0.toNat]?).getD V3.zero=fv at e b
     have a:=PN fv g.need
     generalize cS fv g.need=q at a b
     by_cases h3:q<w+1
     .rw [decide_eq_true h3] at b
      exact zqca0
     .rw [decide_eq_false h3] at b
      have next:=next b
      rcases z with ⟨rfl,rfl⟩ | rfl
      .refine gV ?_
       refine aT fun h=>?_
       repeat' first | (refine gN hE ?_;conv=>whnf) | refine ⟨i,rfl,?_⟩ | refine ⟨u0.toNat,n,?_⟩ | refine ⟨_,get,?_⟩ | refine ⟨_,e,?_⟩ | refine ⟨_,j,?_⟩ | refine Aw _ (Ad (d _) ?_) | refine .pure _ [] a ?_ | exact rfl | refine aY ?_ | refine aN ?_ | refine aT fun h=>?_ | refine aF fun h=>?_ | refine ⟨fun h=>?_,fun h=>?_⟩ | refine aJ ?_ | refine ⟨_,rfl,?_⟩ | refine aD ?_ | fail
       exact To.cut [1,4,6,7,9,18,19,20] 1 rfl rfl rfl rfl next
      .refine gV ?_
       refine aT fun h=>?_
       repeat' first | (refine gN hE ?_;conv=>whnf) | refine ⟨i,rfl,?_⟩ | refine ⟨u0.toNat,n,?_⟩ | refine ⟨_,get,?_⟩ | refine ⟨_,e,?_⟩ | refine ⟨_,j,?_⟩ | refine Aw _ (Ad (d _) ?_) | refine .pure _ [] a ?_ | exact rfl | refine aY ?_ | refine aN ?_ | refine aT fun h=>?_ | refine aF fun h=>?_ | refine ⟨fun h=>?_,fun h=>?_⟩ | refine aJ ?_ | refine ⟨_,rfl,?_⟩ | refine aD ?_ | fail
       exact To.cut [1,4,6,7,9,18,19,20] 1 rfl rfl rfl rfl next
  by_cases F:k=0
  .rw [if_pos F] at y
   exact go 0 o_ ⟨_,y,.inl ⟨rfl,rfl⟩⟩
  .rw [if_neg F] at y
   exact go k rfl ⟨_,y,.inr rfl⟩
theorem F3 {free:List V3} {need:V3} {n h:Int}:plS free need n h=true↔0<=h/\h<(free.length:Int)/\n<=cS ((free[h.toNat]?).getD V3.zero) need:=by
 unfold plS
 by_cases h1:h<0
 .rw [if_pos (decide_eq_true h1)]
  constructor
  .intro q;cases q
  .intro q;omega
 .rw [if_neg (by rw [decide_eq_false h1];decide)]
  by_cases a:(free.length:Int)<=h
  .rw [if_pos (decide_eq_true a)]
   constructor
   .intro q;cases q
   .intro q;omega
  .rw [if_neg (by rw [decide_eq_false a];decide)]
   simp
   omega
theorem P2 {free:List V3} {need:V3}:∀ (l pre:List Int),plB free need pre l=true↔ ∀ u∈l,0<=u/\u<(free.length:Int)/\(((pre++l).count u:Nat):Int)<=cS ((free[u.toNat]?).getD V3.zero) need
 | [],pre=>by simp [plB]
 | h::r,pre=>by
  unfold plB
  rw [Af,F3,P2 r (pre++[h]),Aj]
  show _↔ ∀ u∈h::r,0<=u/\u<(free.length:Int)/\(((pre++h::r).count u:Nat):Int)<=cS ((free[u.toNat]?).getD V3.zero) need
  have e:pre++([h]++r)=pre++h::r:=rfl
  rw [e]
  constructor
  .rintro ⟨⟨a,b,c⟩,d⟩ u f
   by_cases g:u∈r
   .exact d u g
   .rcases Ao.1 f with rfl | f
    .refine ⟨a,b,?_⟩
     rw [Iq,Hj,Kj.2 g]
     simpa using c
    .exact absurd f g
  .intro d
   refine ⟨?_,fun u f=>d u (Bb _ f)⟩
   obtain ⟨a,b,c⟩:=d h (Az ..)
   refine ⟨a,b,?_⟩
   rw [Iq,Hj] at c
   omega
theorem EN {free:List V3} {need:V3} {hs:List Int}:BC free need hs=true↔ ∀ u∈hs,0<=u/\u<(free.length:Int)/\((hs.count u:Nat):Int)<=cS ((free[u.toNat]?).getD V3.zero) need:=by
 unfold BC
 rw [Cj]
 have key:∀ u,Z9 free need hs u=plS free need (xE u hs) u:=fun u=>rfl
 constructor
 .intro q u a
  have:=q u a
  rw [key,F3] at this
  have e:xE u hs=((hs.count u:Nat):Int):=by unfold xE;rw [vC];omega
  rw [e] at this
  exact this
 .intro q u a
  rw [key,F3]
  have e:xE u hs=((hs.count u:Nat):Int):=by unfold xE;rw [vC];omega
  rw [e]
  exact q u a
theorem aC4 (l G:List Int):ZQ l G=C4 G l:=by
 rw [Fy,sH]
 unfold ZQ inB
 simp [Ej]
theorem aGD (c:Con) (free:List V3) (g:Gan) (l:List Int) (hl:(l.length:Int)=g.pods):(plB free g.need [] l&&(gpL c g.lev).any (ZQ l))=oD c free g l:=by
 unfold oD
 rw [if_pos hl]
 have e:plB free g.need [] l=BC free g.need l:=by
  rw [Fy,P2,EN]
  rfl
 rw [e,Fy,Af,Ej,Ej]
 unfold oC
 simp only [aC4,Af]
 constructor
 .rintro ⟨a,G,b,d⟩
  exact ⟨G,b,d,a⟩
 .rintro ⟨G,b,d,a⟩
  exact ⟨a,G,b,d⟩
theorem aFz (c:Con) (i:c.sm) (free:List V3) (g:Gan) (l:List Int) (hl:l.length<=1048576):aA Tryz.prog 158 [c.av,.slice 3 (vav free) .no,g.av,.slice 1 (iv l) .no] [] (.ret (.bool (oD c free g l))) []:=by
 have a:(iv l).length=l.length:=by simp
 by_cases h1:(l.length:Int)=g.pods
 .have b:=X7 c i free g l hl _ rfl (oD c free g l) l.length 0 [] o_ (fun h=>by simp [bO]) (aGD c free g l h1)
  have d:((((iv l).length:Nat):Int) !=g.pods)=false:=by rw [a];simp [h1]
  generalize oD c free g l=r at b
  refine c_ Tryz.f158 fun _=>?_
  refine bV hE 16 ?_;conv=>whnf
  refine To.frz [4,6,7] [0,1,2] ?_
  repeat' first | (refine gN hE ?_;conv=>whnf) | refine Ad (fun h=>absurd h (by rw [d];decide)) (fun h=>?_) | exact rfl | refine aY ?_ | refine aN ?_ | refine aT fun h=>?_ | refine aF fun h=>?_ | refine ⟨fun h=>?_,fun h=>?_⟩ | refine aJ ?_ | refine ⟨_,rfl,?_⟩ | refine aD ?_ | fail
  refine To.part [1,4,6,7,9,18,19,20] [3] rfl rfl rfl ?_
  exact b
 .have d:((((iv l).length:Nat):Int) !=g.pods)=true:=by rw [a];simp [h1]
  have e:oD c free g l=false:=if_neg h1
  rw [e]
  refine c_ Tryz.f158 fun _=>?_
  refine bV hE 16 ?_;conv=>whnf
  refine To.frz [4,6,7] [0,1,2] ?_
  exact zW
abbrev itP (p:Pn):AVal:=.iface 78 p.av
abbrev itR (r:Rn):AVal:=.iface 127 r.av
abbrev aCR (l:List Pn):List AVal:=l.map itP
abbrev TT (l:List Rn):List AVal:=l.map itR
noncomputable abbrev Q4:Func:=Tryz.f80
abbrev alO (s:Sta):List AObj:=[.cells 31 s.cs,.tail 0 1 20]
theorem aD8 (s:Sta) (j:s.run.length<=1000000) (l:List AVal) (R:List AVal):∀ (m i:Nat) (a:List AVal),i+m=s.run.length->a.length<=1000000+i->a++TT (s.run.drop i)=R->
  To (Eo [3] []) Q4 (.pure (.ret (.slice 1 R .no))) (.head (stk Q4 1) [(1,.ref 0 0),(3,.slice 1 a (.own 1 0)),(22,.slice 14 (rav s.run) .no),(23,.int .i64 ((rav s.run).length:Nat)),(24,ii i)] (alO s)):=by
 have d:(rav s.run).length=s.run.length:=by simp
 intro m
 induction m with
 | zero=>
  intro i a g e b
  rw [Ae o_] at b
  have b:a++[]=R:=b
  rw [Bo] at b
  subst b
  refine gV ?_
  exact zW
 | succ m f=>
  intro i a g e b
  have c:i<s.run.length:=o_
  rw [Ac c] at b
  have get:=dH c
  generalize s.run[i]=x at b get
  have next:=f (i+1) (a++[itR x]) o_ q_ (by rw [Aj];exact b)
  refine gV ?_
  refine aT fun h=>?_
  repeat' first | (refine gN (hEo [3] []) ?_;conv=>whnf) | refine ⟨i,rfl,?_⟩ | refine ⟨_,get,?_⟩ | refine Ad (Ad (show a.length+1<=maxLen by simp only [maxLen];omega) (show (a.length+1)*16<=140737488355328 by omega)) ?_ | exact rfl | refine aY ?_ | refine aN ?_ | refine aT fun h=>?_ | refine aF fun h=>?_ | refine ⟨fun h=>?_,fun h=>?_⟩ | refine aJ ?_ | refine ⟨_,rfl,?_⟩ | refine aD ?_ | fail
  exact zW
theorem aD9 (s:Sta) (hp:s.pend.length<=1000000) (f:s.run.length<=1000000) (R:List AVal):∀ (m i:Nat) (a:List AVal),i+m=s.pend.length->a.length<=i->(a++aCR (s.pend.drop i))++TT s.run=R->
  To (Eo [3] []) Q4 (.pure (.ret (.slice 1 R .no))) (.head (stk Q4 0) [(1,.ref 0 0),(3,.slice 1 a (.own 1 0)),(9,.slice 11 (pnv s.pend) .no),(10,.int .i64 ((pnv s.pend).length:Nat)),(11,ii i)] (alO s)):=by
 have d:(pnv s.pend).length=s.pend.length:=by simp
 intro m
 induction m with
 | zero=>
  intro i a j e b
  rw [Ae o_] at b
  have b:(a++[])++TT s.run=R:=b
  rw [Bo] at b
  have next:=aD8 s f [] R s.run.length 0 a o_ o_ b
  refine gV ?_
  exact zW
 | succ m g=>
  intro i a j e b
  have c:i<s.pend.length:=o_
  rw [Ac c] at b
  have get:=sZ c
  generalize s.pend[i]=x at b get
  have next:=g (i+1) (a++[itP x]) o_ q_ (by rw [Aj a];exact b)
  refine gV ?_
  refine aT fun h=>?_
  repeat' first | (refine gN (hEo [3] []) ?_;conv=>whnf) | refine ⟨i,rfl,?_⟩ | refine ⟨_,get,?_⟩ | refine Ad (Ad (show a.length+1<=maxLen by simp only [maxLen];omega) (show (a.length+1)*16<=140737488355328 by omega)) ?_ | exact rfl | refine aY ?_ | refine aN ?_ | refine aT fun h=>?_ | refine aF fun h=>?_ | refine ⟨fun h=>?_,fun h=>?_⟩ | refine aJ ?_ | refine ⟨_,rfl,?_⟩ | refine aD ?_ | fail
  exact zW
theorem aBF (s:Sta) (hp:s.pend.length<=1000000) (a:s.run.length<=1000000):aA Tryz.prog 80 [s.av] [] (.ret (.slice 1 (aCR s.pend++TT s.run) .no)) []:=by
 have next:=aD9 s hp a (aCR s.pend++TT s.run) s.pend.length 0 [] o_ s_ rfl
 refine cT (E:=(Eo [3] [])) (fn:=Tryz.f80) (g:=.pure _) fun _=>?_
 exact zW
theorem OY (p:Pn):aA Tryz.prog 81 [itP p] [] (.ret (.tup [p.av,.bool true])) []:=by
 exact c_ Tryz.f81 fun _=>zW
theorem OX (r:Rn):aA Tryz.prog 81 [itR r] [] (.ret (.tup [r.pn.av,.bool true])) []:=by
 exact c_ Tryz.f81 fun _=>zW
theorem aEP (l:List Rn) (id:Int):aC l [id]=l.filter fun x=>!(x.g.id==id):=by
 unfold aC
 congr 1
 funext x
 simp [inB]
theorem ZN {l:List Hos} {n:Int} (a:0<=n) (h1:n<(l.length:Int)):(hav l)[n.toNat]? =some (aX l n).av:=by
 have h:n.toNat<l.length:=o_
 unfold aX
 rw [Bc,Aa h]
 rfl
theorem UT {c:Con} {free:List V3} {g:Gan} {l:List Int} (e:free.length=c.hs.length) (hp:1<=g.pods) (h:oD c free g l=true):(iv l)[0]? =some (ii (l.headD 0))/\0<=l.headD 0/\l.headD 0<(c.hs.length:Int):=by
 unfold oD at h
 by_cases hl:(l.length:Int)=g.pods
 .rw [if_pos hl] at h
  cases l with
  | nil=>simp at hl;omega
  | cons u r=>
   rw [Ej] at h
   obtain ⟨G,d,b⟩:=h
   unfold oC at b
   rw [Af] at b
   have a:=EN.1 b.2 u (Az ..)
   refine ⟨rfl,a.1,?_⟩
   have:=a.2.1
   show u<_
   omega
 .rw [if_neg hl] at h
  cases h
noncomputable abbrev aHA:Func:=Tryz.f84
def rnO (s:Sta) (r:Rn):List AObj:=[.cells 31 s.cs,.cells 127 r.cs]
def aFi (s:Sta) (r:Rn):List AObj:=[.fcells s.cs,.fcells r.cs]
theorem aFh (s:Sta) (r:Rn):frzs [0,1] (rnO s r)=aFi s r:=by kernel_rfl
theorem aBS (s:Sta) (r:Rn):xA [2,3] (aE (aFi s r)) [(2,.ref 0 0),(3,.ref 1 0)]=[(2,.ptr s.cs),(3,.ptr r.cs)]:=by kernel_rfl
theorem PQ {g:Goal} {ks:List KI} (s:Sta) (r:Rn) (h:To E aHA g (.code ks [(2,.ptr s.cs),(3,.ptr r.cs)] (aFi s r))):To E aHA g (.code ks [(2,.ref 0 0),(3,.ref 1 0)] (rnO s r)):=by
 refine To.frz [2,3] [0,1] ?_
 rw [aFh,aBS]
 exact h
theorem V8 (s:Sta) (r:Rn) (W:List Rn) (F:List V3) (i:Int) (k:Bool) (b:Bool)
  (h1:aA Tryz.prog 116 [r.av] [] (.ret (ii i)) [])
  (d:aA Tryz.prog 102 [.slice 14 (rav s.run) .no,.slice 1 (iv [r.g.id]) .no] [] (.ret (.slice 14 (rav W) .no)) [])
  (h3:aA Tryz.prog 157 [s.c.av,.slice 14 (rav W) .no] [] (.ret (.slice 3 (vav F) .no)) [])
  (m:aA Tryz.prog 158 [s.c.av,.slice 3 (vav F) .no,r.g.av,.slice 1 (iv r.hs) .no] [] (.ret (.bool k)) [])
  (n:k=true->(iv r.hs)[0]? =some (ii (r.hs.headD 0))/\0<=r.hs.headD 0/\(hav s.c.hs)[(r.hs.headD 0).toNat]? =some (aX s.c.hs (r.hs.headD 0)).av)
  (a:(decide ((r.at'<=r.st/\r.st<=s.now)/\s.now<i)&&(k&&decide ((aX s.c.hs (r.hs.headD 0)).f=r.fl)))=b):
  aA Tryz.prog 84 [s.av,r.av] [] (.ret (.bool b)) []:=by
 have d:aA Tryz.prog 102 [.slice 14 (rav s.run) .no,.slice 1 (iv [r.g.id]) .full] [] (.ret (.slice 14 (rav W) .no)) []:=aA.strip d
 cases k with
 | true=>
  obtain ⟨j,l,e⟩:=n rfl
  generalize r.hs.headD 0=u at j l e a
  generalize aX s.c.hs u=y at e a
  refine c_ Tryz.f84 fun _=>?_
  refine bV hE 13 ?_;conv=>whnf
  refine To.cutC [2,3] 2 rfl rfl rfl rfl ?_
  refine PQ s r ?_
  repeat' first | (refine gN hE ?_;conv=>whnf) | refine .pure _ [] h1 ?_ | refine .pure _ [] d ?_ | refine .pure _ [] h3 ?_ | refine .pure _ [] m ?_ | refine ⟨0,rfl,?_⟩ | refine ⟨_,j,?_⟩ | refine Aw u.toNat (Ad (by simp only [Hy l]) ?_) | refine ⟨_,e,?_⟩ | exact rfl | refine aY ?_ | refine aN ?_ | refine aT fun h=>?_ | refine aF fun h=>?_ | refine ⟨fun h=>?_,fun h=>?_⟩ | refine aJ ?_ | refine ⟨_,rfl,?_⟩ | refine aD ?_ | fail
  all_goals
   exact zqca23
 | false=>
  refine c_ Tryz.f84 fun _=>?_
  refine bV hE 13 ?_;conv=>whnf
  refine To.cutC [2,3] 2 rfl rfl rfl rfl ?_
  refine PQ s r ?_
  repeat' first | (refine gN hE ?_;conv=>whnf) | refine .pure _ [] h1 ?_ | refine .pure _ [] d ?_ | refine .pure _ [] h3 ?_ | refine .pure _ [] m ?_ | exact rfl | refine aY ?_ | refine aN ?_ | refine aT fun h=>?_ | refine aF fun h=>?_ | refine ⟨fun h=>?_,fun h=>?_⟩ | refine aJ ?_ | refine ⟨_,rfl,?_⟩ | refine aD ?_ | fail
  all_goals
   exact zqca23
theorem aBG (s:Sta) (a:s.c.sm) (hs:Sm s.run) (r:Rn) (hp:1<=r.g.pods) (k:r.hs.length<=1048576):aA Tryz.prog 84 [s.av,r.av] [] (.ret (.bool (rnB s r))) []:=by
 have i:=mR hs [r.g.id]
 have j:=LT s.run hs [r.g.id] s_
 have h3:=QV s.c a (aC s.run [r.g.id]) i
 have m:=A9 s.c (aC s.run [r.g.id])
 have d:=aFz s.c a (fM s.c (aC s.run [r.g.id])) r.g r.hs k
 refine V8 s r _ _ _ _ _ (aGk r) j h3 d (fun l=>?_) ?_
 .obtain ⟨e,b,h⟩:=UT m hp l
  exact ⟨e,b,ZN b h⟩
 .rw [aEP]
  rfl
noncomputable abbrev oB:Func:=Tryz.f31
def aEe (es:List (List Int×AVal)) (l:List Int):Prop:=∀ h:Int,bO es [h]=if l.contains h=true then some (.bool true) else none
theorem JW {es:List (List Int×AVal)} {l:List Int} (hm:aEe es l) (h:Int):aEe (jW es [h] (.bool true)) (h::l):=fun x=>by
 rw [GC,List.contains_cons]
 by_cases a:h=x
 .subst a;simp
 .have b:(x==h)=false:=by simp;exact fun q=>a q.symm
  rw [if_neg (by simpa using a),hm x,b,La]
def ggO (s:Sta):List AObj:=[.cells 31 s.cs]
def aF7 (s:Sta):List AObj:=[.fcells s.cs]
theorem aF6 (s:Sta):frzs [0] (ggO s)=aF7 s:=by kernel_rfl
theorem aC8 (s:Sta):xA [1] (aE (aF7 s)) [(1,.ref 0 0)]=[(1,.ptr s.cs)]:=by kernel_rfl
theorem aC6 {g:Goal} {ks:List KI} (s:Sta) (h:To (Er [] [64,65,66]) oB g (.code ks [(1,.ptr s.cs)] (aF7 s))):To (Er [] [64,65,66]) oB g (.code ks [(1,.ref 0 0)] (ggO s)):=by
 refine To.frz [1] [0] ?_
 rw [aF6,aC8]
 exact h
abbrev ggF (s:Sta) (xs:List AVal) (i:Int):List (Nat×AVal):=[(1,.ptr s.cs),(3,.mref 0),(4,.mref 1),(14,.slice 1 xs .no),(15,.int .i64 (xs.length:Nat)),(16,ii i)]
def gbF (s:Sta) (xs:List AVal) (i:Int) (x:AVal):List (Nat×AVal):=[(1,.ptr s.cs),(3,.mref 0),(4,.mref 1),(6,x),(7,.ref 2 0),(14,.slice 1 xs .no),(15,.int .i64 (xs.length:Nat)),(16,ii i)]
def aHt (s:Sta) (xs:List AVal) (i:Int) (x:AVal) (p:Pn):List (Nat×AVal):=[(1,.ptr s.cs),(3,.mref 0),(4,.mref 1),(6,x),(7,.ptr p.cs),(14,.slice 1 xs .no),(15,.int .i64 (xs.length:Nat)),(16,ii i)]
abbrev Ent:Type:=List (List Int×AVal)
def gbO (b a:Ent) (p:Pn):List AObj:=[.mp false b,.mp false a,.cells 78 p.cs]
def aGa (b a:Ent) (p:Pn):List AObj:=[.mp false b,.mp false a,.fcells p.cs]
theorem aF9 (b a:Ent) (p:Pn):frzs [2] (gbO b a p)=aGa b a p:=by kernel_rfl
theorem aDa (s:Sta) (xs:List AVal) (i:Int) (x:AVal) (b a:Ent) (p:Pn):xA [7] (aE (aGa b a p)) (gbF s xs i x)=aHt s xs i x p:=by kernel_rfl
theorem qL {g:Goal} {ks:List KI} {s:Sta} {xs:List AVal} {i:Int} {x:AVal} {b a:Ent} (p:Pn) (h:To (Er [] [64,65,66]) oB g (.code ks (aHt s xs i x p) (aGa b a p))):To (Er [] [64,65,66]) oB g (.code ks (gbF s xs i x) (gbO b a p)):=by
 refine To.frz [7] [2] ?_
 rw [aF9,aDa]
 exact h
def gcB (s:Sta) (p:Pn) (b a:Bool) (G:Int) (N Q:Bool):Bool:=!b&&(!a&&(decide ((0<=p.seq/\p.seq<s.nxt)/\0<=p.at'/\p.at'<=s.now)&&(decide (G=0)&&(!N&&Q))))
theorem ggP (s:Sta) (xs:List AVal) (r:xs.length<=1048576) (i:Nat) (t:i<xs.length) (p:Pn) (get:xs[i]? =some (itP p)) (j e:Ent) (n:bO j [p.g.id]=none) (o:bO e [p.seq]=none) (G:Int) (N b:Bool)
  (k:aA Tryz.prog 82 [s.c.av,p.g.av] [] (.ret (ii G)) []) (l:G=0->aA Tryz.prog 83 [s.c.av,p.g.av] [] (.ret (.bool N)) [])
  (d:gcB s p false false G N true=false->b=false)
  (a:gcB s p false false G N true=true->To (Er [] [64,65,66]) oB (.pure (.ret (.bool b))) (.head (stk oB 0) (ggF s xs ((i:Int)+1)) [.mp false (jW j [p.g.id] (.bool true)),.mp false (jW e [p.seq] (.bool true))])):
  To (Er [] [64,65,66]) oB (.pure (.ret (.bool b))) (.head (stk oB 0) (ggF s xs (i:Int)) [.mp false j,.mp false e]):=by
 have m:=OY p
 cases N<;>skip
 all_goals
  refine gV ?_
  refine aT fun h=>?_
  refine gV ?_
  refine ⟨i,rfl,?_⟩
  refine gV ?_
  refine ⟨_,get,?_⟩
  refine gV ?_
  refine .pure _ [] m ?_
  refine bV (hEr [] [64,65,66]) 20 ?_;conv=>whnf
  refine To.cutC [1,3,4,6,7,14,15,16] 3 rfl rfl rfl rfl ?_
  refine qL p ?_
  repeat' first | (refine gN (hEr [] [64,65,66]) ?_;conv=>whnf) | refine ⟨_,n,?_⟩ | refine ⟨_,o,?_⟩ | refine .pure _ [] k ?_ | refine .pure _ [] (l (by simpa using ‹(G !=0)=false›)) ?_ | exact rfl | refine aY ?_ | refine aN ?_ | refine aT fun h=>?_ | refine aF fun h=>?_ | refine ⟨fun h=>?_,fun h=>?_⟩ | refine aJ ?_ | refine ⟨_,rfl,?_⟩ | refine aD ?_ | fail
  all_goals (try (
   refine congrArg (fun q=>Res.ret (AVal.bool q)) (d ?_).symm
   clear d a
   simp only [decide_eq_true_eq,decide_eq_false_iff_not,bne_iff_ne,ne_eq,bne_eq_false_iff_eq,Dz] at *
   simp [gcB]
   try omega))
  all_goals
   exact zqca22
theorem ggR (s:Sta) (xs:List AVal) (u:xs.length<=1048576) (i:Nat) (v:i<xs.length) (r:Rn) (p:Pn) (hp:r.pn=p) (get:xs[i]? =some (itR r)) (j e:Ent) (o:bO j [p.g.id]=none) (t:bO e [p.seq]=none) (G:Int) (N Q b:Bool)
  (l:aA Tryz.prog 82 [s.c.av,p.g.av] [] (.ret (ii G)) []) (m:G=0->aA Tryz.prog 83 [s.c.av,p.g.av] [] (.ret (.bool N)) [])
  (n:G=0->aA Tryz.prog 84 [s.av,r.av] [] (.ret (.bool Q)) [])
  (d:gcB s p false false G N Q=false->b=false)
  (a:gcB s p false false G N Q=true->To (Er [] [64,65,66]) oB (.pure (.ret (.bool b))) (.head (stk oB 0) (ggF s xs ((i:Int)+1)) [.mp false (jW j [p.g.id] (.bool true)),.mp false (jW e [p.seq] (.bool true))])):
  To (Er [] [64,65,66]) oB (.pure (.ret (.bool b))) (.head (stk oB 0) (ggF s xs (i:Int)) [.mp false j,.mp false e]):=by
 have k:=OX r
 rw [hp] at k
 cases N<;>cases Q
 all_goals
  refine gV ?_
  refine aT fun h=>?_
  refine gV ?_
  refine ⟨i,rfl,?_⟩
  refine gV ?_
  refine ⟨_,get,?_⟩
  refine gV ?_
  refine .pure _ [] k ?_
  refine bV (hEr [] [64,65,66]) 20 ?_;conv=>whnf
  refine To.cutC [1,3,4,6,7,14,15,16] 3 rfl rfl rfl rfl ?_
  refine qL p ?_
  repeat' first | (refine gN (hEr [] [64,65,66]) ?_;conv=>whnf) | refine ⟨_,o,?_⟩ | refine ⟨_,t,?_⟩ | refine .pure _ [] l ?_ | refine .pure _ [] (m (by simpa using ‹(G !=0)=false›)) ?_ | refine .pure _ [] (n (by simpa using ‹(G !=0)=false›)) ?_ | exact rfl | refine aY ?_ | refine aN ?_ | refine aT fun h=>?_ | refine aF fun h=>?_ | refine ⟨fun h=>?_,fun h=>?_⟩ | refine aJ ?_ | refine ⟨_,rfl,?_⟩ | refine aD ?_ | fail
  all_goals (try (
   refine congrArg (fun q=>Res.ret (AVal.bool q)) (d ?_).symm
   clear d a
   simp only [decide_eq_true_eq,decide_eq_false_iff_not,bne_iff_ne,ne_eq,bne_eq_false_iff_eq,Dz] at *
   simp [gcB]
   try omega))
  all_goals
   exact zqca22
theorem aHr (s:Sta) (xs:List AVal) (d:xs.length<=1048576) (i:Nat) (j:i<xs.length) (p:Pn) (get:xs[i]? =some (itP p)) (a b:Ent) (m:bO a [p.g.id]=some (.bool true)\/bO a [p.g.id]=none/\bO b [p.seq]=some (.bool true)):
  To (Er [] [64,65,66]) oB (.pure (.ret (.bool false))) (.head (stk oB 0) (ggF s xs (i:Int)) [.mp false a,.mp false b]):=by
 have c:=OY p
 rcases m with e | ⟨e,f⟩
 .exact zqca2
 .exact zqca2
theorem aHq (s:Sta) (xs:List AVal) (d:xs.length<=1048576) (i:Nat) (j:i<xs.length) (r:Rn) (p:Pn) (hp:r.pn=p) (get:xs[i]? =some (itR r)) (a b:Ent) (m:bO a [p.g.id]=some (.bool true)\/bO a [p.g.id]=none/\bO b [p.seq]=some (.bool true)):
  To (Er [] [64,65,66]) oB (.pure (.ret (.bool false))) (.head (stk oB 0) (ggF s xs (i:Int)) [.mp false a,.mp false b]):=by
 have c:=OX r
 rw [hp] at c
 rcases m with e | ⟨e,f⟩
 .exact zqca2
 .exact zqca2
inductive It where
 | p (x:Pn)
 | r (x:Rn)
def It.av:It->AVal
 | .p x=>itP x
 | .r x=>itR x
def It.pn:It->Pn
 | .p x=>x
 | .r x=>x.pn
def It.q (s:Sta):It->Bool
 | .p _=>true
 | .r x=>rnB s x
def It.sm:It->Prop
 | .p _=>True
 | .r x=>x.hs.length<=1048576
def gaB (s:Sta):List Int->List Int->List It->Bool
 | _,_,[]=>true
 | a,b,x::l=>gcB s x.pn (a.contains x.pn.g.id) (b.contains x.pn.seq) (dM s.c x.pn.g) (cE s.c [] x.pn.g).isNone (x.q s)&&gaB s (x.pn.g.id::a) (x.pn.seq::b) l
theorem A8 {c:Con} {g:Gan} (h:dM c g=0):1<=g.pods/\g.pods<=16:=by
 obtain ⟨h1,_⟩:=qM.1 h
 unfold HH at h1
 rw [Af] at h1
 have:=of_decide_eq_true h1.1
 omega
theorem aC7 (s:Sta) (D:s.c.sm) (hs:Sm s.run) (l:List It) (hl:l.length<=1048576) (u:∀ x∈l,x.sm) (b:Bool):∀ (m i:Nat) (d a:Ent) (f j:List Int),i+m=l.length->aEe d f->aEe a j->gaB s f j (l.drop i)=b->
  To (Er [] [64,65,66]) oB (.pure (.ret (.bool b))) (.head (stk oB 0) (ggF s (l.map It.av) (i:Int)) [.mp false d,.mp false a]):=by
 have F:(l.map It.av).length=l.length:=by simp
 intro m
 induction m with
 | zero=>
  intro i d a f j H h1 w e
  rw [Ae o_] at e
  have e:true=b:=e
  subst e
  refine gV ?_
  exact zW
 | succ m v=>
  intro i d a f j H h1 w e
  have n:i<l.length:=o_
  rw [Ac n] at e
  have get:(l.map It.av)[i]? =some (l[i].av):=by simp [n]
  have C:=u l[i] (Bf n)
  have v:=fun d a f j=>v (i+1) d a f j o_
  generalize l[i]=x at e get C
  have e:(gcB s x.pn (f.contains x.pn.g.id) (j.contains x.pn.seq) (dM s.c x.pn.g) (cE s.c [] x.pn.g).isNone (x.q s)&&gaB s (x.pn.g.id::f) (x.pn.seq::j) (l.drop (i+1)))=b:=e
  have k:=h1 x.pn.g.id
  have t:=w x.pn.seq
  have next:=v _ _ (x.pn.g.id::f) (x.pn.seq::j) (JW h1 x.pn.g.id) (JW w x.pn.seq)
  generalize gaB s (x.pn.g.id::f) (x.pn.seq::j) (l.drop (i+1))=R at e next
  cases A:f.contains x.pn.g.id with
  | true=>
   rw [A] at e k
   have e:false=b:=by rw [<-e];rfl
   subst e
   cases x with
   | p x=>exact aHr s _ o_ i o_ x get d a (.inl k)
   | r x=>exact aHq s _ o_ i o_ x x.pn rfl get d a (.inl k)
  | false=>
   rw [A] at e k
   cases B:j.contains x.pn.seq with
   | true=>
    rw [B] at e t
    have e:false=b:=by rw [<-e];rfl
    subst e
    cases x with
    | p x=>exact aHr s _ o_ i o_ x get d a (.inr ⟨k,t⟩)
    | r x=>exact aHq s _ o_ i o_ x x.pn rfl get d a (.inr ⟨k,t⟩)
   | false=>
    rw [B] at e t
    have y:=V2 s.c x.pn.g
    have z:=fun h:dM s.c x.pn.g=0=>YW s.c D x.pn.g (by have:=A8 h;omega)
    cases x with
    | p x=>
     refine ggP s _ o_ i o_ x get d a k t _ _ b y z (fun o=>?_) (fun o=>?_)
     .exact e.symm.trans (congrArg (fun q:Bool=>q&&R) o)
     .exact next ((congrArg (fun q:Bool=>q&&R) o).symm.trans e)
    | r x=>
     have G:=fun h:dM s.c x.pn.g=0=>aBG s D hs x (A8 (g:=x.g) h).1 C
     refine ggR s _ o_ i o_ x x.pn rfl get d a k t _ _ _ b y z G (fun o=>?_) (fun o=>?_)
     .exact e.symm.trans (congrArg (fun q:Bool=>q&&R) o)
     .exact next ((congrArg (fun q:Bool=>q&&R) o).symm.trans e)
def oA (s:Sta):List It:=s.pend.map It.p++s.run.map It.r
theorem aFW (s:Sta):(oA s).map It.av=aCR s.pend++TT s.run:=by
 unfold oA
 rw [Bm,Dm,Dm]
 rfl
theorem ZX (s:Sta) (j:s.c.sm) (hp:s.pend.length<=1000) (k:s.run.length<=1000) (hs:Sm s.run):aA Tryz.prog 31 [s.av] [] (.ret (.bool (gaB s [] [] (oA s)))) []:=by
 have d:=aBF s o_ o_
 rw [<-aFW] at d
 have e:(oA s).length<=2000:=by unfold oA;simp;omega
 have next:=aC7 s j hs (oA s) o_ (fun x a=>by
  unfold oA at a
  rw [Ay,Bu,Bu] at a
  rcases a with ⟨y,_,rfl⟩ | ⟨y,i,rfl⟩
  .trivial
  .exact hs.2 y i) _ (oA s).length 0 [] [] [] [] o_ (fun h=>rfl) (fun h=>rfl) rfl
 rw [Cn] at next
 generalize (oA s).map It.av=xs at d next
 generalize gaB s [] [] (oA s)=b at next
 refine cT (E:=(Er [] [64,65,66])) (fn:=Tryz.f31) (g:=.pure _) fun _=>?_
 refine bV (hEr [] [64,65,66]) 10 ?_;conv=>whnf
 refine To.cutC [1] 1 rfl rfl rfl rfl ?_
 refine aC6 s ?_
 repeat' first | (refine gN (hEr [] [64,65,66]) ?_;conv=>whnf) | refine .pure _ [] d ?_ | exact rfl | refine aY ?_ | refine aN ?_ | refine aT fun h=>?_ | refine aF fun h=>?_ | refine ⟨fun h=>?_,fun h=>?_⟩ | refine aJ ?_ | refine ⟨_,rfl,?_⟩ | refine aD ?_ | fail
 refine To.part [1,3,4,14,15,16] [1,2] rfl rfl rfl ?_
 exact next
theorem aF8 (s:Sta) (p:Pn) (q e d:Bool):gcB s p e d (dM s.c p.g) (cE s.c [] p.g).isNone q=(!e&&(!d&&(pnB s p&&q))):=by
 unfold gcB pnB
 generalize decide (dM s.c p.g=0)=a
 generalize (cE s.c [] p.g).isNone=b
 generalize decide ((0<=p.seq/\p.seq<s.nxt)/\0<=p.at'/\p.at'<=s.now)=c
 cases e<;>cases d<;>cases a<;>cases b<;>cases c<;>cases q<;>rfl
theorem QU (s:Sta):∀ (l:List It) (a b:List Int),gaB s a b l=true↔(∀ x∈l,(pnB s x.pn&&x.q s)=true)/\((l.map fun x=>x.pn.g.id).Nodup/\∀ x∈l,x.pn.g.id∉a)/\((l.map fun x=>x.pn.seq).Nodup/\∀ x∈l,x.pn.seq∉b)
 | [],a,b=>by simp [gaB]
 | x::r,a,b=>by
  unfold gaB
  rw [aF8,Af,QU s r]
  simp only [Af,Cm,List.contains_eq_mem,decide_eq_false_iff_not,Bk,Bw,Ao,forall_eq_or_imp,not_or,Bu,not_exists,not_and]
  constructor
  .rintro ⟨⟨h1,k,h3⟩,j,⟨m,d⟩,h,f⟩
   exact ⟨⟨h3,j⟩,⟨⟨fun y c e=>(d y c).1 e,m⟩,h1,fun y c=>(d y c).2⟩,⟨fun y c e=>(f y c).1 e,h⟩,k,fun y c=>(f y c).2⟩
  .rintro ⟨⟨h3,j⟩,⟨⟨d,m⟩,h1,n⟩,⟨f,h⟩,k,i⟩
   exact ⟨⟨h1,k,h3⟩,j,⟨m,fun y c=>⟨fun e=>d y c e,n y c⟩⟩,h,fun y c=>⟨fun e=>f y c e,i y c⟩⟩
theorem aGb (s:Sta):gaB s [] [] (oA s)=((s.pend.all (pnB s)&&s.run.all fun r=>pnB s r.pn&&rnB s r)&&(decide (ids s).Nodup&&decide (seqs s).Nodup)):=by
 rw [Fy,QU]
 have f:((oA s).map fun x=>x.pn.g.id)=ids s:=by
  unfold oA ids
  rw [Bm,Dm,Dm]
  rfl
 have d:((oA s).map fun x=>x.pn.seq)=seqs s:=by
  unfold oA seqs
  rw [Bm,Dm,Dm]
  rfl
 rw [f,d]
 simp only [Gs,not_false_eq_true,implies_true,and_true,Af,decide_eq_true_eq,Cj]
 have c:(∀ x∈oA s,pnB s x.pn=true/\x.q s=true)↔(∀ x∈s.pend,pnB s x=true)/\∀ x∈s.run,pnB s x.pn=true/\rnB s x=true:=by
  unfold oA
  constructor
  .intro h
   exact ⟨fun x a=>(h (.p x) (Dh _ (Ci a))).1,fun x a=>h (.r x) (Cu _ (Ci a))⟩
  .rintro ⟨h1,e⟩ x a
   rw [Ay,Bu,Bu] at a
   rcases a with ⟨y,b,rfl⟩ | ⟨y,b,rfl⟩
   .exact ⟨h1 y b,rfl⟩
   .exact e y b
 rw [c]
noncomputable abbrev aDl:Func:=Tryz.f32
def quO (s:Sta):List AObj:=[.cells 31 s.cs]
def aFx (s:Sta):List AObj:=[.fcells s.cs]
theorem aFw (s:Sta):frzs [0] (quO s)=aFx s:=by kernel_rfl
theorem aCb (s:Sta):xA [1] (aE (aFx s)) [(1,.ref 0 0)]=[(1,.ptr s.cs)]:=by kernel_rfl
theorem aB9 {g:Goal} {ks:List KI} (s:Sta) (h:To E aDl g (.code ks [(1,.ptr s.cs)] (aFx s))):To E aDl g (.code ks [(1,.ref 0 0)] (quO s)):=by
 refine To.frz [1] [0] ?_
 rw [aFw,aCb]
 exact h
theorem aCa (s:Sta) (h:s.c.sm) (U:List V3) (t:U.length=s.c.ns.length) (p:∀ i:Nat,i<U.length->(vav U)[i]? =some (atV U (i:Int)).av) (b:Bool):∀ (m i:Nat),i+m=U.length->((Gz i m).all fun i:Nat=>bK (atV U (i:Int)) (nT s.c (i:Int)))=b->
  To E aDl (.pure (.ret (.bool b))) (.head (stk aDl 0) [(1,.ptr s.cs),(10,.slice 3 (vav U) .no),(11,.int .i64 ((vav U).length:Nat)),(12,ii (i:Int))] []):=by
 have j:(vav U).length=U.length:=by simp
 have h1:=h.ns
 intro m
 induction m with
 | zero=>
  intro i l a
  have a:true=b:=a
  subst a
  refine gV ?_
  exact zW
 | succ m k=>
  intro i l a
  have f:i<U.length:=o_
  have a:(bK (atV U (i:Int)) (nT s.c (i:Int))&&((Gz (i+1) m).all fun i:Nat=>bK (atV U (i:Int)) (nT s.c (i:Int))))=b:=a
  have next:=k (i+1) o_
  generalize ((Gz (i+1) m).all fun i:Nat=>bK (atV U (i:Int)) (nT s.c (i:Int)))=R at a next
  have get:=p i f
  have q:=tC (c:=s.c) (n:=(i:Int)) ⟨by omega,by omega⟩
  have o:=YQ s.c h (i:Int)
  have hl:=nF s.c (i:Int)
  unfold nT at a
  generalize atV U (i:Int)=u at a get
  generalize bT s.c.ns (i:Int)=y at a q
  generalize gG s.c.ns (i:Int) (jH s.c.ns)=v at a o
  cases g:aW s.c.ns (i:Int) with
  | true=>
   rw [g] at a hl
   have r:=jE v y.b
   have a:(bK u (dG v y.b)&&R)=b:=a
   generalize dG v y.b=w at r a
   have d:=yJ u w
   cases e:bK u w with
   | true=>
    rw [e] at a d
    have next:=next a
    refine gV ?_
    exact zW
   | false=>
    exact zqca45
  | false=>
   rw [g] at a hl
   have a:(bK u v&&R)=b:=a
   have d:=yJ u v
   cases e:bK u v with
   | true=>
    rw [e] at a d
    have next:=next a
    refine gV ?_
    exact zW
   | false=>
    exact zqca45
theorem YN (c:Con) (l:List Rn):(ofL c l).length=c.ns.length:=by unfold ofL kR;simp
theorem S4 (s:Sta) (b:s.c.sm) (h:s.run.length<=1048576):aA Tryz.prog 32 [s.av] [] (.ret (.bool (I7 s))) []:=by
 have d:=aEr s.c b s.run h
 have a:=YN s.c s.run
 have next:=aCa s b (ofL s.c s.run) a (fun i j=>by
  have:=aBh (c:=s.c) (l:=s.run) (n:=(i:Int)) ⟨by omega,by omega⟩
  rw [Cl] at this
  exact this) _ (ofL s.c s.run).length 0 o_ rfl
 have e:((Gz 0 (ofL s.c s.run).length).all fun i:Nat=>bK (atV (ofL s.c s.run) (i:Int)) (nT s.c (i:Int)))=I7 s:=by
  unfold I7
  rw [a,Gj]
 rw [e] at next
 generalize I7 s=q at next
 generalize ofL s.c s.run=U at d next
 refine c_ Tryz.f32 fun _=>?_
 refine bV hE 10 ?_;conv=>whnf
 refine To.cutC [1] 1 rfl rfl rfl rfl ?_
 refine aB9 s ?_
 exact zW
def AL (s:Sta):Prop:=(0<=s.now/\s.now<=1099511627776)/\(1<=s.nxt/\s.nxt<=1099511627776)/\s.hist.length=s.c.ns.length/\s.pend.length+s.run.length<=32
instance (s:Sta):Decidable (AL s):=by unfold AL;infer_instance
theorem L7 (s:Sta) (e:Bool) (k:Int) (q g u:Bool) (b:Int)
  (i:aA Tryz.prog 28 [s.c.av] [] (.ret (.bool e)) [])
  (l:aA Tryz.prog 29 [s.c.av] [] (.ret (ii k)) [])
  (m:s.pend.length+s.run.length<=32->aA Tryz.prog 30 [.slice 11 (pnv s.pend) .no] [] (.ret (.bool q)) [])
  (t:s.pend.length+s.run.length<=32->aA Tryz.prog 31 [s.av] [] (.ret (.bool g)) [])
  (d:s.pend.length+s.run.length<=32->aA Tryz.prog 32 [s.av] [] (.ret (.bool u)) [])
  (o:(if (((e||decide (k=0))&&decide (AL s))&&(q&&(g&&u)))=true then 0 else 1)=b):
  aA Tryz.prog 9 [s.av] [] (.ret (ii b)) []:=by
 have v:(pnv s.pend).length=s.pend.length:=by simp
 have j:(rav s.run).length=s.run.length:=by simp
 have p:(fv s.hist).length=s.hist.length:=by simp
 have r:(nav s.c.ns).length=s.c.ns.length:=by simp
 refine c_ Tryz.f9 fun _=>?_
 repeat' first | (refine gN hE ?_;conv=>whnf) | refine Hk (Ad (Ad (by simp only [cL,decide_eq_true_eq] at *;omega) (by simp only [bI,decide_eq_true_eq] at *;omega)) ?_) | refine .pure _ [] i ?_ | refine .pure _ [] l ?_ | refine .pure _ [] (m (by simp only [decide_eq_true_eq,decide_eq_false_iff_not,Cm,Ih] at *;omega)) ?_ | refine .pure _ [] (t (by simp only [decide_eq_true_eq,decide_eq_false_iff_not,Cm,Ih] at *;omega)) ?_ | refine .pure _ [] (d (by simp only [decide_eq_true_eq,decide_eq_false_iff_not,Cm,Ih] at *;omega)) ?_ | exact rfl | refine aY ?_ | refine aN ?_ | refine aT fun h=>?_ | refine aF fun h=>?_ | refine ⟨fun h=>?_,fun h=>?_⟩ | refine aJ ?_ | refine ⟨_,rfl,?_⟩ | refine aD ?_ | fail
 all_goals
  subst o
  refine congrArg (fun n=>Res.ret (AVal.int .i64 n)) ?_
  simp only [decide_eq_true_eq,decide_eq_false_iff_not,Cm,Ih,beq_iff_eq,beq_eq_false_iff_ne,ne_eq] at *
  first
  | (exfalso;omega)
  | (by_cases a:AL s
     .rw [decide_eq_true a]
      unfold AL at a
      first
      | (exfalso;omega)
      | simp [*]
     .rw [decide_eq_false a]
      first
      | (exfalso;unfold AL at a;omega)
      | simp)
theorem qC (s:Sta) (a:s.c.sm) (hs:Sm s.run):aA Tryz.prog 9 [s.av] [] (.ret (ii (if xF s=true then 0 else 1))) []:=by
 refine L7 s (gQ s.c) (bR s.c) (WT s.pend) (gaB s [] [] (oA s)) (I7 s) _ (pF s.c) (TC s.c a) (fun h=>?_) (fun h=>ZX s a o_ o_ hs) (fun h=>S4 s a o_) ?_
 .have:=Q2.check_ok (s.pend.map Pn.q) (by rw [Cw];omega)
  rw [wC] at this
  exact this
 .rw [aGb]
  unfold xF ZO AL
  congr 1
  simp only [Gr]
end Go.Proofs.YticlgfdibfobdaaGreat
namespace Go.Proofs.YticlgfdibfobdaaGreat.C8
open Go Go.AW Go.Proofs Go.RowKit
set_option maxRecDepth 100000
set_option maxHeartbeats 2000000
abbrev tWr:TypeId:=190
theorem GG:liesAt Tryz.prog Tryz.prog.depth tWr (2 / Tryz.prog.cellsOf tWr) 0 114 1=true:=by kernel_rfl
theorem FJ:(Tryz.prog.info? 114).map (·.size)=some 2:=by kernel_rfl
theorem VH:Tryz.prog.underlying 111=some (.pointer 114):=by kernel_rfl
theorem VG:Tryz.prog.underlying 255=some .unsafePointer:=by kernel_rfl
theorem aAf:Tryz.prog.funcs[197]? =some Tryz.f197:=by kernel_rfl
theorem kJ (b:Nat) (w:World) (h:w.cell? ⟨b,0,none⟩=some (.pointer none)) (a:w.shape? b=some (tWr,2)) (g:w.frozen? ⟨b,0,none⟩=false):
  Calls Tryz.prog 126 #[.pointer (some ⟨b,0,none⟩)] w fun e w'=>e= .returned (.tuple #[])/\w'=w.setCell ⟨b,0,none⟩ (.pointer (some ⟨b,0,none⟩)):=by
 obtain ⟨j,d,c⟩:=Cb.1 FJ
 go_enter Tryz.func126,Tryz.ntmps126
 go_wp2
 rw [Lib.run_to_unsafe w ⟨b,0,none⟩ VH VG d (by rw [c];decide) a (Nat.zero_lt_succ 1)]
 simp only [Ey]
 rw [Oper.upon_value]
 go_wp2
 rw [run_callFunc_extern aAf (by kernel_rfl) (by kernel_rfl) (by kernel_rfl) (e:=Extern.AbiNoEscape.same) (by kernel_rfl)]
 rw [Lib.run_noEscape]
 simp only [Ey]
 rw [Oper.upon_value]
 go_wp2
 rw [Lib.run_from_unsafe w ⟨b,0,none⟩ VG VH d a GG]
 simp only [Ey]
 rw [Oper.upon_value]
 go_wp2
 go_end0
 exact ⟨rfl,rfl⟩
theorem aEU:Tryz.prog.underlying 192=some (.pointer 5):=by kernel_rfl
theorem aGF:Tryz.prog.cellsOf 5=1:=by kernel_rfl
theorem tX (b g a:Nat) (p:Value) (c:Array Value) (l:List UInt8) (w:World) (h:w.heap[b]? =some (.cells #[p,.slice (some ⟨g,0,none⟩) l.length a] tWr (0,0))) (v:w.heap[g]? =some (.cells c 5 (0,0))) (q:l≠[])
  (o:l.length<=a) (m:a<=maxLen) (s:c.size=a) (d:∀ (j:Nat) x,l[j]? =some x->w.cell? ⟨g,j,none⟩=some (.int .u8 x.toNat)):
  Calls Tryz.prog 54 #[.pointer (some ⟨b,0,none⟩)] w fun e w'=>e= .returned (.string ⟨l.toArray⟩)/\LS g l.length w w':=by
 have k:l.length≠0:=by simpa using q
 have z:w.drew.cell? ⟨b,1,none⟩=some (.slice (some ⟨g,0,none⟩) l.length a):=by
  exact zqca34
 have y:(Lb #[112] 192 #[.slice (some ⟨g,0,none⟩) l.length a]).run Tryz.prog w.drew= .ok (.pointer (some ⟨g,0,none⟩)) w.drew:=
  Lib.run_unsafeSliceData_row _ _ _ _ _ _ o_
 have r:(Lz #[192,3] 9 #[.pointer (some ⟨g,0,none⟩),.int .i64 l.length]).run Tryz.prog w.drew= .ok (.string ⟨l.toArray⟩) (w.drew.freeze ⟨g,0,none⟩ l.length):=by
  exact zqca19
 have n:Tryz.prog.follows Departure.mixedOrders=true:=hE.mix
 go_enter Tryz.func54,Tryz.ntmps54
 go_wp2
 go_region_o
 all_goals (go_wp2;go_ret;exact ⟨rfl,Z4 k⟩)
theorem B5 (s:AVal):aA Tryz.prog 126 [.ref 0 0] [.cells tWr [.nilptr,s]] (.ret (.tup [])) [.cells tWr [.ref 0 0,s]]:=
 rJ (fun _ _=>by rfl) kJ s
theorem str_ok (l:List UInt8) (a:l≠[]) (p:AVal):aA Tryz.prog 54 [.ref 0 0] [.cells tWr [p,.slice 1 (l.map ub) (.own 1 0)],.tail 0 1 5] (.ret (.str l)) [.dead,.dead]:=
 pM (fun _ _=>by rfl) tX l a p
open Go Go.AW Go.Proofs
def aU:Nat->Nat->Nat->List UInt8->Option (Nat×Nat)
 | 0,_,_,_=>none
 | _+1,_,_,[]=>none
 | f+1,i,acc,c::r=>if c.toNat<128 then (if c.toNat=0/\0<i then none else some (acc+(c.toNat % 128)*2 ^ (7*i),i+1)) else aU f (i+1) (acc+(c.toNat % 128)*2 ^ (7*i)) r
def cV (l:List UInt8):Option (Nat×Nat):=aU 9 0 0 l
def aHs:Option (Nat×Nat)->AVal
 | some (n,k)=>.tup [.int .i64 n,.int .i64 k,.int .i64 0]
 | none=>.tup [.int .i64 0,.int .i64 0,.int .i64 10]
def putN (n:Nat):List UInt8:=if n<128 then [Gk n] else Gk (128+n % 128)::putN (n / 128)
termination_by n
decreasing_by omega
theorem tK:∀ (f i a:Nat) (l:List UInt8) (n k:Nat),i+f=9->a<2 ^ (7*i)->aU f i a l=some (n,k)->n<2 ^ 63/\i<k/\k<=9/\k<=i+l.length
 | 0,_,_,_,_,_,_,_,h=>by cases h
 | f+1,i,a,[],_,_,_,_,h=>by cases h
 | f+1,i,a,c::r,n,k,hi,ha,h=>by
  have b:a+(c.toNat % 128)*2 ^ (7*i)<2 ^ (7*(i+1)):=by
   have h3:c.toNat % 128<=127:=o_
   have d:(c.toNat % 128)*2 ^ (7*i)<=127*2 ^ (7*i):=Bq _ h3
   have e:2 ^ (7*(i+1))=128*2 ^ (7*i):=by rw [Ik,Ha];omega
   omega
  simp only [aU] at h
  split at h
  .split at h
   .cases h
   .cases h
    have:2 ^ (7*(i+1))<=2 ^ 63:=Ep d_ o_
    simp only [Ba]
    omega
  .have:=tK f (i+1) _ r n k o_ b h
   simp only [Ba]
   omega
theorem QT {l:List UInt8} {n k:Nat} (h:cV l=some (n,k)):n<2 ^ 63/\0<k/\k<=9/\k<=l.length:=by
 have:=tK 9 0 0 l n k rfl d_ h
 omega
def leN:List UInt8->Nat
 | []=>0
 | c::r=>c.toNat+256*leN r
theorem NI:∀ (l:List UInt8),leN l<2 ^ (8*l.length)
 | []=>by simp [leN]
 | c::r=>by
  have:=NI r
  have h:=c.toNat_lt
  simp only [leN,Ba,Ik,Ha]
  omega
theorem AQ:∀ (l:List UInt8) (c:UInt8),leN (l++[c])=leN l+c.toNat*2 ^ (8*l.length)
 | [],c=>by simp [leN]
 | d::r,c=>by
  simp only [Je,leN,AQ r c,Ba,Ik,Ha]
  have:c.toNat*(2 ^ (8*r.length)*2 ^ (8*1))=256*(c.toNat*2 ^ (8*r.length)):=by
   rw [<-Ia,Dn]
  omega
theorem C9 {l:List UInt8} {i:Nat} {c:UInt8} (h:l[i]? =some c):l.take (i+1)=l.take i++[c]:=by
 rw [List.take_add_one,h]
 rfl
theorem JB (n:Nat):∀ b,n<2 ^ (7*b)->(putN n).length<=b+1:=by
 induction n using Lu with
 | ind n c=>
  intro b a
  rw [putN]
  split
  .simp
  .rename_i h
   cases b with
   | zero=>simp at a;omega
   | succ b=>
    have:=c (n / 128) o_ b (by rw [Ik,Ha] at a;omega)
    simp only [Ba]
    omega
set_option maxRecDepth 10000
theorem XY (n:Nat):∀ (a:List UInt8),a.length+(putN n).length<=100->(n:Int)<=9223372036854775807->
  To (Eo [3] []) Tryz.f125 (.pure (.ret (.str (a++putN n)))) (.head (stk Tryz.f125 0) [(0,.int .i64 n),(3,.slice 1 (a.map ub) (.own 0 0))] [.tail 0 1 5]):=by
 induction n using Lu with
 | ind n i=>
  intro a c j
  have g:(n:Int).fdiv (2 ^ Hf 7)=((n / 128:Nat):Int):=by
   rw [Ge _ d_]
   simp
  have d:=OW n
  have hp:1<=(putN n).length:=by rw [putN];split<;>simp
  have hl:(a.map ub).length=a.length:=by simp
  refine gV ?_
  refine ⟨fun h=>?_,fun h=>?_⟩
  .have h:127<n:=by
    have:=of_decide_eq_true h
    omega
   have e:fQ .or .u8 ((n % 256:Nat):Int) 128=((128+n % 128:Nat):Int):=by
    have:=tM .u8 (n % 256) 128 (by simp only [bI];omega) d_
    rw [aFE ⟨n % 256,by omega⟩] at this
    simp only at this
    rw [show n % 256 % 128=n % 128 from by omega] at this
    exact this
   have b:putN n=Gk (128+n % 128)::putN (n / 128):=by rw [putN,if_neg o_]
   refine gV ?_
   refine .inr ?_
   refine gV ?_
   refine ⟨⟨by simp only [maxLen];simp;omega,by simp;omega⟩,?_⟩
   refine gV ?_
   refine ⟨⟨by decide,by decide⟩,?_⟩
   refine gV ?_
   rw [g,d,e]
   refine To.part [0,3] [0] rfl rfl rfl ?_
   have:=i (n / 128) o_ (a++[Gk (128+n % 128)]) (by rw [b] at c;simp at c⊢;omega) o_
   rw [b]
   rw [Aj,Bm,Bk,H2 o_] at this
   exact this
  .have h:¬ 127<n:=by
    have:=of_decide_eq_false h
    omega
   have b:putN n=[Gk n]:=by rw [putN,if_pos o_]
   refine gV ?_
   refine .inr ?_
   refine gV ?_
   refine ⟨⟨by simp only [maxLen];simp;omega,by simp;omega⟩,?_⟩
   refine gV ?_
   refine ⟨a++[Gk n],?_,by simp;omega,?_⟩
   .rw [d,Jf o_,<-H2 o_,Bm]
    rfl
   refine gV ?_
   rw [b]
theorem put_ok (n:Int):aA Tryz.prog 125 [.int .i64 n] [] (.ret (.str (putN n.toNat))) []:=by
 refine cT (E:=(Eo [3] [])) (fn:=Tryz.f125) (g:=.pure _) fun a=>?_
 have b:n<=9223372036854775807:=a.1.2
 have:=JB n.toNat 9 o_
 have e:max n 0=(n.toNat:Int):=o_
 refine gV ?_
 rw [e]
 refine To.head [0,3] ?_
 exact XY n.toNat [] (by simpa using (by omega:(putN n.toNat).length<=100)) o_
def pl:List Int->List UInt8
 | []=>[]
 | n::r=>putN n.toNat++pl r
theorem fH (a b:List Int):pl (a++b)=pl a++pl b:=by
 induction a with
 | nil=>rfl
 | cons n r c=>simp [pl,c]
theorem pn_len {n:Int} (h:n<=9223372036854775807):(putN n.toNat).length<=10:=by
 have:=JB n.toNat 9 o_
 omega
theorem pl_len:∀ {l:List Int},(∀ n∈l,n<=9223372036854775807)->(pl l).length<=10*l.length
 | [],_=>by simp [pl]
 | n::r,h=>by
  have h1:=pn_len (h n s_)
  have a:=pl_len (l:=r) fun m hm=>h m (by simp [hm])
  simp only [pl,Ar,Ba]
  omega
theorem aFX {n:Int} (h:oZ n=true):0<=n/\n<=1099511627776:=by
 simpa [oZ] using h
theorem okI_b:∀ {l:List Int},okI l=true->∀ n∈l,0<=n/\n<=1099511627776
 | [],_,n,a=>by cases a
 | x::r,h,n,a=>by
  simp only [okI,Af] at h
  rcases Ao.1 a with rfl | a
  .exact aFX h.1
  .exact okI_b h.2 n a
def _root_.Go.Proofs.YticlgfdibfobdaaGreat.Gan.il (g:Gan):List Int:=[g.id,g.ten,g.pods,g.need.a,g.need.b,g.need.c,g.run,g.lev,g.pref]
def _root_.Go.Proofs.YticlgfdibfobdaaGreat.Nod.il (x:Nod):List Int:=[x.p+1,x.w,x.n.a,x.n.b,x.n.c,x.b.a,x.b.b,x.b.c,x.l.a,x.l.b,x.l.c]
def _root_.Go.Proofs.YticlgfdibfobdaaGreat.Hos.il (x:Hos):List Int:=[x.f,x.b,x.r,x.c.a,x.c.b,x.c.c]
def aCv:List Nod->List Int
 | []=>[]
 | x::r=>x.il++aCv r
def TY:List Hos->List Int
 | []=>[]
 | x::r=>x.il++TY r
def _root_.Go.Proofs.YticlgfdibfobdaaGreat.Con.il (c:Con):List Int:=[((nav c.ns).length:Int)]++aCv c.ns++([((hav c.hs).length:Int)]++TY c.hs++[c.half,c.age])
def _root_.Go.Proofs.YticlgfdibfobdaaGreat.Cmd.il (x:Cmd):List Int:=x.k::(if x.k==1 then x.c.il else if x.k==2 then x.g.il else if x.k==6 then [] else [x.n])
theorem aBg {v:V3} (h:okI v.l=true):(0<=v.a/\v.a<=1099511627776)/\(0<=v.b/\v.b<=1099511627776)/\(0<=v.c/\v.c<=1099511627776):=
 ⟨okI_b h _ (by simp [V3.l]),okI_b h _ (by simp [V3.l]),okI_b h _ (by simp [V3.l])⟩
abbrev wrO (bs:List UInt8) (g:Nat):List AObj:=[.cells tWr [.ref 0 0,.slice 1 (bs.map ub) (.own 1 g)],.tail g 1 5]
theorem HE (xs:List AVal):aA Tryz.prog 126 [.ref 0 0] [.cells tWr [.ref 0 0,.slice 1 xs (.own 1 0)],.tail 0 1 5] (.ret (.tup [])) [.cells tWr [.ref 0 0,.slice 1 xs (.own 1 0)],.tail 0 1 5]:=by
 refine cT (E:=E) (fn:=Tryz.f126) (g:=.full 2 _ _) fun _=>?_
 repeat' first | (refine gN hE ?_;conv=>whnf) | exact rfl | refine aY ?_ | refine aN ?_ | refine aT fun h=>?_ | refine aF fun h=>?_ | refine ⟨fun h=>?_,fun h=>?_⟩ | refine aJ ?_ | refine ⟨_,rfl,?_⟩ | refine aD ?_ | fail
 exact ⟨[],[0,1],⟨rfl,rfl⟩,rfl,rfl⟩
theorem sE (s:List UInt8) (hs:s.length<=1000):aA Tryz.prog 51 [.ref 0 0,.str s] [.cells tWr [.nilptr,.slice 1 [] .nil]] (.ret (.tup [ii s.length,.nilif])) (wrO s 0):=by
 exact zqca16
theorem ws_ok (bs s:List UInt8) (hs:bs.length+s.length<=1000000):aA Tryz.prog 51 [.ref 0 0,.str s] (wrO bs 0) (.ret (.tup [ii s.length,.nilif])) (wrO (bs++s) 1):=by
 exact zqca12
noncomputable abbrev KQ:Func:=Tryz.f122
theorem uO (l:List Int) (hl:((iv l).length:Int)<=9223372036854775807) (s:∀ n∈l,n<=9223372036854775807) (B:List UInt8) (k:Nat) (o:10*l.length<=1000):∀ (n i g:Nat) (bs:List UInt8),i+n=l.length->(g=0\/g=1)->(n=0->g=k)->(0<n->k=1)->bs.length+10*n<=100000->bs++pl (l.drop i)=B->
  To E KQ (.full 2 (.ret (.tup [])) (wrO B k)) (.head (stk KQ 0) [(0,.ref 0 0),(6,.slice 1 (iv l) .no),(7,.int .i64 ((iv l).length:Nat)),(8,.int .i64 i)] (wrO bs g)):=by
 have u:(iv l).length=l.length:=by simp
 intro n
 induction n with
 | zero=>
  exact zqca17
 | succ n q=>
  intro i g bs r j _ m f a
  have p:=m o_
  subst p
  have b:i<l.length:=o_
  rw [Ac b] at a
  have c:=s l[i] (Bf b)
  generalize t:l[i]=x at a c
  have a:bs++(putN x.toNat++pl (l.drop (i+1)))=B:=a
  rw [<-Aj] at a
  have get:(iv l)[i]? =some (ii x):=(cH b).trans (by rw [t])
  have hp:=pn_len c
  refine gV ?_
  refine aT fun h=>?_
  refine gV ?_
  refine ⟨i,rfl,?_⟩
  refine gV ?_
  refine ⟨_,get,?_⟩
  refine gV ?_
  refine .pure _ [] (put_ok x) ?_
  exact zqca5
theorem nums_ok (l:List Int) (e:l≠[]) (c:∀ n∈l,n<=9223372036854775807) (a:l.length<=100) (bs:List UInt8) (d:bs.length+10*l.length<=100000):
  aA Tryz.prog 122 [.ref 0 0,.slice 1 (iv l) .no] (wrO bs 0) (.ret (.tup [])) (wrO (bs++pl l) 1):=by
 have i:(iv l).length=l.length:=by simp
 have b:0<l.length:=Fz.2 e
 refine cT (E:=E) (fn:=Tryz.f122) (g:=.full 2 _ _) fun _=>?_
 exact zqca31
theorem nums_fresh (k:Int) (a:k<=9223372036854775807):aA Tryz.prog 122 [.ref 0 0,.slice 1 [ii k] .no] [.cells tWr [.nilptr,.slice 1 [] .nil]] (.ret (.tup [])) (wrO (putN k.toNat) 0):=by
 have hp:=pn_len a
 refine cT (E:=E) (fn:=Tryz.f122) (g:=.full 1 _ _) fun _=>?_
 refine gV ?_
 refine gV ?_
 refine Ad (fun _=>?_) (fun h=>absurd (of_decide_eq_false h) s_)
 refine gV ?_
 refine ⟨0,rfl,?_⟩
 refine gV ?_
 refine ⟨_,rfl,?_⟩
 refine gV ?_
 refine .pure _ [] (put_ok k) ?_
 refine gV ?_
 refine .sole rfl (.eff [] [0] _ _ rfl (sE _ o_) ?_)
 exact zqca9
theorem v3_m {v:V3} (h:okI v.l=true):∀ n∈v.l,n<=9223372036854775807:=fun n a=>by
 have:=okI_b h n a
 omega
theorem l3_m {a b c:Int} (h:okI [a,b,c]=true):∀ n∈[a,b,c],n<=9223372036854775807:=fun n d=>by
 have:=okI_b h n d
 omega
theorem pW (v:V3) (h:okI v.l=true) (bs:List UInt8) (a:bs.length<=90000):aA Tryz.prog 196 [.ref 0 0,.agg v.cs] (wrO bs 0) (.ret (.tup [])) (wrO (bs++pl v.l) 1):=by
 refine cT (E:=E) (fn:=Tryz.f196) (g:=.full 2 _ _) fun _=>?_
 refine gV ?_
 refine ⟨by decide,?_⟩
 refine gV ?_
 refine .eff [2] [0,1] _ _ rfl (aA.strip (nums_ok v.l (by simp [V3.l]) (v3_m h) (by simp [V3.l]) bs (by simp [V3.l];omega))) ?_
 exact zqca32
theorem gan_b {g:Gan} (h:g.ok=true):okI [g.id,g.ten,g.pods]=true/\okI g.need.l=true/\okI [g.run,g.lev,g.pref]=true:=by
 simp only [Gan.ok,okI,Af,Hc] at h⊢
 obtain ⟨⟨h1,d,h3,b,e,c⟩,a⟩:=h
 exact ⟨⟨h1,d,h3⟩,a,b,e,c⟩
theorem U7 (g:Gan) (h:g.ok=true) (bs:List UInt8) (b:bs.length<=80000):aA Tryz.prog 124 [.ref 0 0,g.av] (wrO bs 0) (.ret (.tup [])) (wrO (bs++pl g.il) 1):=by
 obtain ⟨h1,a,h3⟩:=gan_b h
 have l1:=pl_len (l3_m h1)
 have l2:=pl_len (v3_m a)
 have e:bs++pl g.il=((bs++pl [g.id,g.ten,g.pods])++pl g.need.l)++pl [g.run,g.lev,g.pref]:=by
  rw [Aj,Aj,<-fH,<-fH];rfl
 rw [e]
 simp only [V3.l,Ba,Ck] at l1 l2
 refine cT (E:=E) (fn:=Tryz.f124) (g:=.full 2 _ _) fun _=>?_
 refine gV ?_
 refine .eff [] [0,1] _ _ rfl (aA.strip (nums_ok [g.id,g.ten,g.pods] s_ (l3_m h1) s_ bs q_)) ?_
 refine gV ?_
 refine .eff [] [0,1] _ _ rfl (pW g.need a _ q_) ?_
 refine gV ?_
 refine .eff [] [0,1] _ _ rfl (aA.strip (nums_ok [g.run,g.lev,g.pref] s_ (l3_m h3) s_ _ (by simp [V3.l];omega))) ?_
 exact zqca32
noncomputable abbrev Q8:Func:=Tryz.f123
theorem aEt {x:Nod} (h:x.ok=true):(-1<=x.p/\x.p<=1099511627776)/\(0<=x.w/\x.w<=1099511627776)/\okI x.n.l=true/\okI x.b.l=true/\okI x.l.l=true:=by
 simp only [Nod.ok,Af,decide_eq_true_eq] at h
 obtain ⟨⟨⟨⟨h1,c⟩,h3⟩,a⟩,d⟩:=h
 exact ⟨h1,okI_b c _ s_,h3,a,d⟩
theorem aEw {x:Hos} (h:x.ok=true):okI [x.f,x.b,x.r]=true/\okI x.c.l=true:=by
 simpa only [Hos.ok,Af] using h
theorem aEa {l:List Nod} (h:HL l=true):∀ (i:Nat) (a:i<l.length),l[i].ok=true:=by
 induction l with
 | nil=>intro i a;simp at a
 | cons x r b=>
  simp only [HL,Af] at h
  intro i a
  cases i with
  | zero=>exact h.1
  | succ i=>exact b h.2 i (by simpa using a)
theorem aEb {l:List Hos} (h:tU l=true):∀ (i:Nat) (a:i<l.length),l[i].ok=true:=by
 induction l with
 | nil=>intro i a;simp at a
 | cons x r b=>
  simp only [tU,Af] at h
  intro i a
  cases i with
  | zero=>exact h.1
  | succ i=>exact b h.2 i (by simpa using a)
theorem aFY (x:Nod) (h:x.ok=true):(pl x.il).length<=110:=by
 obtain ⟨h1,f,h3,b,c⟩:=aEt h
 have:=pl_len (l:=x.il) (fun n a=>by
  simp only [Nod.il,Ao,Gs,or_false] at a
  have d:=aBg h3
  have g:=aBg b
  have e:=aBg c
  rcases a with rfl | rfl | rfl | rfl | rfl | rfl | rfl | rfl | rfl | rfl | rfl<;>omega)
 simpa [Nod.il] using this
theorem aFZ (x:Hos) (h:x.ok=true):(pl x.il).length<=60:=by
 obtain ⟨h1,d⟩:=aEw h
 have:=pl_len (l:=x.il) (fun n c=>by
  simp only [Hos.il,Ao,Gs,or_false] at c
  have a:=okI_b h1
  have j:=aBg d
  have i:=a x.f s_
  have e:=a x.b s_
  have g:=a x.r s_
  rcases c with rfl | rfl | rfl | rfl | rfl | rfl<;>omega)
 simpa [Hos.il] using this
theorem RT (c:Con) (w:((hav c.hs).length:Int)<=24) (q:tU c.hs=true) (u:okI [c.half,c.age]=true) (B:List UInt8):∀ (n i:Nat) (bs:List UInt8),i+n=c.hs.length->bs.length+60*n<=20000->bs++(pl (TY (c.hs.drop i))++pl [c.half,c.age])=B->
  To E Q8 (.full 2 (.ret (.tup [])) (wrO B 1)) (.head (stk Q8 1) [(0,.ref 0 0),(3,.ref 2 0),(49,.slice 6 (hav c.hs) .no),(50,.int .i64 ((hav c.hs).length:Nat)),(51,.int .i64 i)] (wrO bs 1++[.cells 26 c.cs])):=by
 have s:(hav c.hs).length=c.hs.length:=by simp
 have hm:∀ n∈[c.half,c.age],n<=9223372036854775807:=fun n v=>by have:=okI_b u n v;omega
 intro n
 induction n with
 | zero=>
  intro i bs o g a
  rw [Ae o_] at a
  have a:bs++pl [c.half,c.age]=B:=a
  subst a
  refine gV ?_
  refine aF fun h=>?_
  refine gV ?_
  refine .eff [] [0,1] _ _ rfl (aA.strip (nums_ok [c.half,c.age] s_ hm s_ bs q_)) ?_
  exact zqca32
 | succ n m=>
  intro i bs o g a
  have d:i<c.hs.length:=o_
  rw [Ac d] at a
  have e:=aEb q i d
  generalize p:c.hs[i]=x at a e
  have a:bs++(pl (x.il++TY (c.hs.drop (i+1)))++pl [c.half,c.age])=B:=a
  obtain ⟨h1,j⟩:=aEw e
  have l1:=pl_len (l3_m h1)
  have l2:=pl_len (v3_m j)
  have y:=aFZ x e
  simp only [V3.l,Ba,Ck] at l1 l2
  have k:bs++pl x.il=(bs++pl [x.f,x.b,x.r])++pl x.c.l:=by rw [Aj,<-fH];rfl
  rw [fH,Aj,<-Aj,k] at a
  have get:(hav c.hs)[i]? =some x.av:=(nI d).trans (by rw [p])
  refine gV ?_
  refine aT fun h=>?_
  refine gV ?_
  refine ⟨i,rfl,?_⟩
  refine gV ?_
  refine ⟨_,get,?_⟩
  refine gV ?_
  refine .eff [] [0,1] _ _ rfl (aA.strip (nums_ok [x.f,x.b,x.r] s_ (l3_m h1) s_ bs q_)) ?_
  refine gV ?_
  refine .eff [] [0,1] _ _ rfl (pW x.c j _ q_) ?_
  refine gV ?_
  refine aJ ?_
  refine gV ?_
  refine To.part [0,3,49,50,51] [0,1,2] rfl rfl rfl ?_
  exact m (i+1) _ o_ (by rw [<-k];simp;omega) a
theorem RS (c:Con) (g:((nav c.ns).length:Int)<=12) (r:((hav c.hs).length:Int)<=24) (j:HL c.ns=true) (z:tU c.hs=true) (D:okI [c.half,c.age]=true) (B:List UInt8):∀ (n i:Nat) (bs:List UInt8),i+n=c.ns.length->bs.length+110*n<=10000->
  bs++(pl (aCv (c.ns.drop i))++(pl [((hav c.hs).length:Int)]++(pl (TY c.hs)++pl [c.half,c.age])))=B->
  To E Q8 (.full 2 (.ret (.tup [])) (wrO B 1)) (.head (stk Q8 0) [(0,.ref 0 0),(3,.ref 2 0),(15,.slice 11 (nav c.ns) .no),(16,.int .i64 ((nav c.ns).length:Nat)),(17,.int .i64 i)] (wrO bs 1++[.cells 26 c.cs])):=by
 have A:(nav c.ns).length=c.ns.length:=by simp
 have v:(hav c.hs).length=c.hs.length:=by simp
 intro n
 induction n with
 | zero=>
  intro i bs u k a
  rw [Ae o_] at a
  have a:bs++(pl [((hav c.hs).length:Int)]++(pl (TY c.hs)++pl [c.half,c.age]))=B:=a
  rw [<-Aj] at a
  have f:∀ n∈[((hav c.hs).length:Int)],n<=9223372036854775807:=fun n g=>by simp at g;omega
  have l1:=pl_len f
  simp only [Ba,Ck] at l1
  refine gV ?_
  refine aF fun h=>?_
  refine gV ?_
  refine .eff [] [0,1] _ _ rfl (aA.strip (nums_ok [((hav c.hs).length:Int)] s_ f s_ bs q_)) ?_
  refine gV ?_
  refine To.part [0,3,49,50,51] [0,1,2] rfl rfl rfl ?_
  exact RT c r z D B c.hs.length 0 _ o_ (by simp only [Ar];omega) a
 | succ n s=>
  intro i bs u k a
  have d:i<c.ns.length:=o_
  rw [Ac d] at a
  have e:=aEa j i d
  generalize y:c.ns[i]=x at a e
  have a:bs++(pl (x.il++aCv (c.ns.drop (i+1)))++_)=B:=a
  obtain ⟨h1,H,h3,o,m⟩:=aEt e
  have hm:∀ n∈[x.p+1,x.w],n<=9223372036854775807:=fun n g=>by simp at g;omega
  have l1:=pl_len hm
  have l2:=pl_len (v3_m h3)
  have F:=pl_len (v3_m o)
  have C:=pl_len (v3_m m)
  have G:=aFY x e
  simp only [V3.l,Ba,Ck] at l1 l2 F C
  have q:bs++pl x.il=(((bs++pl [x.p+1,x.w])++pl x.n.l)++pl x.b.l)++pl x.l.l:=by rw [Aj,Aj,Aj,<-fH,<-fH,<-fH];rfl
  rw [fH,Aj,<-Aj,q] at a
  have get:(nav c.ns)[i]? =some x.av:=(eW d).trans (by rw [y])
  refine gV ?_
  refine aT fun h=>?_
  refine gV ?_
  refine ⟨i,rfl,?_⟩
  refine gV ?_
  refine ⟨_,get,?_⟩
  refine gV ?_
  refine aJ ?_
  refine gV ?_
  refine .eff [] [0,1] _ _ rfl (aA.strip (nums_ok [x.p+1,x.w] s_ hm s_ bs q_)) ?_
  refine gV ?_
  refine .eff [] [0,1] _ _ rfl (pW x.n h3 _ q_) ?_
  refine gV ?_
  refine .eff [] [0,1] _ _ rfl (pW x.b o _ (by simp [V3.l];omega)) ?_
  refine gV ?_
  refine .eff [] [0,1] _ _ rfl (pW x.l m _ (by simp [V3.l];omega)) ?_
  refine gV ?_
  refine aJ ?_
  refine gV ?_
  refine To.part [0,3,15,16,17] [0,1,2] rfl rfl rfl ?_
  exact s (i+1) _ o_ (by rw [<-q];simp;omega) a
theorem U8 (c:Con) (b:((nav c.ns).length:Int)<=12) (e:((hav c.hs).length:Int)<=24) (d:c.tok=true) (bs:List UInt8) (i:bs.length<=100):
  aA Tryz.prog 123 [.ref 0 0,c.av] (wrO bs 0) (.ret (.tup [])) (wrO (bs++pl c.il) 1):=by
 have j:(nav c.ns).length=c.ns.length:=by simp
 simp only [Con.tok,Af] at d
 obtain ⟨⟨h1,h⟩,h3⟩:=d
 have a:∀ n∈[((nav c.ns).length:Int)],n<=9223372036854775807:=fun n b=>by simp at b;omega
 have l1:=pl_len a
 simp only [Ba,Ck] at l1
 refine cT (E:=E) (fn:=Tryz.f123) (g:=.full 2 _ _) fun _=>?_
 refine gV ?_
 refine .eff [] [0,1] _ _ rfl (aA.strip (nums_ok [((nav c.ns).length:Int)] s_ a s_ bs q_)) ?_
 refine gV ?_
 refine To.part [0,3,15,16,17] [0,1,2] rfl rfl rfl ?_
 exact RS c b e h1 h h3 _ c.ns.length 0 _ o_ (by simp only [Ar];omega) (by simp only [Con.il,fH,Aj,Cn])
structure Told (x:Cmd):Prop where
 k:1<=x.k/\x.k<=6
 c:x.k=1\/x.c.non=true
 g:x.k=2\/x.g.isZ=true
 n:(x.k=3\/x.k=4\/x.k=5)\/x.n=0
 cok:x.c.tok=true
 gok:x.g.ok=true
 nok:0<=x.n/\x.n<=1099511627776
 ln:((nav x.c.ns).length:Int)<=12
 lh:((hav x.c.hs).length:Int)<=24
theorem nG {b:Bool} {y:Int} (h:(if b then y else 1)=0):b=true/\y=0:=by
 cases b with
 | true=>exact ⟨rfl,h⟩
 | false=>cases h
theorem chk_told {x:Cmd} (h:chk x=0):Told x:=by
 unfold chk at h
 obtain ⟨h1,h⟩:=nG h
 unfold K9 at h
 obtain ⟨h2,h⟩:=nG h
 unfold K8 at h
 obtain ⟨h3,h⟩:=nG h
 unfold K7 at h
 obtain ⟨h4,h⟩:=nG h
 unfold sC at h
 obtain ⟨h5,h⟩:=nG h
 unfold oC at h
 obtain ⟨h6,h⟩:=nG h
 unfold K5 at h
 obtain ⟨h7,h⟩:=nG h
 unfold xG at h
 simp only [Af,Eg,decide_eq_true_eq,beq_iff_eq] at h1 h2 h3 h4
 have h8:decide (((nav x.c.ns).length:Int)<=12)=true/\decide (((hav x.c.hs).length:Int)<=24)=true:=by
  split at h
  .rename_i hh
   simpa using hh
  .cases h
 exact ⟨h1,h2,h3,by rcases h4 with ((h4 | h4) | h4) | h4
                    .exact .inl (.inl h4)
                    .exact .inl (.inr (.inl h4))
                    .exact .inl (.inr (.inr h4))
                    .exact .inr h4,h5,h6,okI_b h7 _ s_,of_decide_eq_true h8.1,of_decide_eq_true h8.2⟩
def encB (x:Cmd):List UInt8:=if chk x=0 then pl x.il else []
theorem pl_ne (k:Int) (r:List Int):pl (k::r)≠[]:=by
 have:1<=(putN k.toNat).length:=by rw [putN];split<;>simp
 intro h
 have h1:(pl (k::r)).length=0:=by rw [h];rfl
 simp only [pl,Ar] at h1
 omega
theorem qJ (x:Cmd) (r:List Int) (h:(if x.k==1 then x.c.il else if x.k==2 then x.g.il else if x.k==6 then [] else [x.n])=r):putN x.k.toNat++pl r=pl x.il:=by
 subst h
 rfl
theorem enc_ok (x:Cmd):aA Tryz.prog 49 [x.av] [] (.ret (.tup [.str (encB x),ii (chk x)])) []:=by
 refine c_ Tryz.f49 fun _=>?_
 refine gV ?_
 refine .pure _ [] (check_ok x) ?_
 refine gV ?_
 refine ⟨fun h=>?_,fun h=>?_⟩
 .have h:(chk x !=0)=true:=h
  have m:¬ chk x=0:=by simpa using h
  have e:encB x=[]:=if_neg m
  rw [e]
  refine gW hE ?_;conv=>whnf
 .have h:(chk x !=0)=false:=h
  have m:chk x=0:=by simpa using h
  have e:encB x=pl x.il:=if_pos m
  rw [e,m]
  have T:=chk_told m
  have o:x.k<=9223372036854775807:=by have:=T.k;omega
  have hp:=pn_len o
  refine gV ?_
  refine .eff [] [1] _ _ rfl (aA.strip (nums_fresh x.k o)) ?_
  refine gV ?_
  refine Ad (fun h1=>?_) (fun h1=>?_)
  .have h1:(x.k==1)=true:=h1
   have il:=qJ x x.c.il (by rw [h1];rfl)
   have a:putN x.k.toNat++pl x.c.il≠[]:=by rw [il];exact pl_ne _ _
   refine gV ?_
   refine .eff [] [1,2] _ _ rfl (U8 x.c T.ln T.lh T.cok _ o_) ?_
   exact zqca25
  .have h1:(x.k==1)=false:=h1
   refine gV ?_
   refine Ad (fun b=>?_) (fun b=>?_)
   .have b:(x.k==2)=true:=b
    have il:=qJ x x.g.il (by rw [h1,b];rfl)
    have a:putN x.k.toNat++pl x.g.il≠[]:=by rw [il];exact pl_ne _ _
    refine gV ?_
    refine .eff [] [1,2] _ _ rfl (U7 x.g T.gok _ o_) ?_
    exact zqca25
   .have b:(x.k==2)=false:=b
    have l:∀ n∈[x.n],n<=9223372036854775807:=fun n l=>by have:=T.nok;simp at l;omega
    refine gV ?_
    refine Ad (fun h3=>?_) (fun h3=>?_)
    .have h3:(x.k==3)=true:=h3
     have j:(x.k==6)=false:=by have:=eq_of_beq h3;rw [this];rfl
     refine gV ?_
     refine Ad (fun _=>?_) (fun h=>absurd (h3.symm.trans h) d_)
     exact zqca3
    .have h3:(x.k==3)=false:=h3
     refine gV ?_
     refine Ad (fun d=>?_) (fun d=>?_)
     .have d:(x.k==4)=true:=d
      have j:(x.k==6)=false:=by have:=eq_of_beq d;rw [this];rfl
      refine gV ?_
      refine Ad (fun _=>?_) (fun h=>absurd (d.symm.trans h) d_)
      exact zqca3
     .have d:(x.k==4)=false:=d
      refine gV ?_
      refine Ad (fun i=>?_) (fun i=>?_)
      .have i:(x.k==5)=true:=i
       have j:(x.k==6)=false:=by have:=eq_of_beq i;rw [this];rfl
       exact zqca3
      .have i:(x.k==5)=false:=i
       have j:(x.k==6)=true:=by
              have:=T.k
              simp at h1 b h3 d i⊢
              omega
       have il:=qJ x [] (by rw [h1,b,j];rfl)
       rw [show putN x.k.toNat++pl []=putN x.k.toNat from Bo _] at il
       have a:putN x.k.toNat≠[]:=by rw [il];exact pl_ne _ _
       exact zqca25
theorem ZU (l:List UInt8):∀ (f i a:Nat) (rest:List UInt8),i+f=9->rest=l.drop i->i<=l.length->a<2 ^ (7*i)->
  To E Tryz.f200 (.pure (.ret (aHs (aU f i a rest)))) (.head (stk Tryz.f200 0) [(0,.str l),(5,.int .i64 a),(10,.int .i64 (min (l.length:Int) 9)),(11,.int .i64 i)] []):=by
 intro f
 induction f with
 | zero=>
  intro i a rest u g hl q
  refine gV ?_
  refine aF fun h=>?_
  refine gV ?_
  rfl
 | succ f t=>
  intro i a rest u g hl q
  cases rest with
  | nil=>
   have s:l.length<=i:=by simpa using g.symm
   refine gV ?_
   refine aF fun h=>?_
   refine gV ?_
   rfl
  | cons c r=>
   have n:l[i]? =some c:=by
    have:(l.drop i)[0]? =some c:=by rw [<-g];rfl
    simpa using this
   have w:i<l.length:=(Ab.1 n).1
   have k:r=l.drop (i+1):=by rw [<-Ir,<-g];rfl
   have y:2 ^ (7*(i+1))=128*2 ^ (7*i):=by rw [Ik,Ha];omega
   have h3:c.toNat % 128<=127:=o_
   have z:(c.toNat % 128)*2 ^ (7*i)<=127*2 ^ (7*i):=Bq _ h3
   have B:2 ^ (7*(i+1))<=2 ^ 63:=Ep d_ o_
   have v:c.toNat<256:=c.toNat_lt
   have j:fQ .and .u8 (c.toNat:Int) 127=((c.toNat % 128:Nat):Int):=by
    have:=EU .u8 c.toNat 127 (by simp only [bI];omega) d_
    rw [show (127:Nat)=2 ^ 7-1 from rfl,aD7] at this
    exact this
   have m:(7*(i:Int)).toNat=7*i:=o_
   have p:((c.toNat % 128:Nat):Int)*2 ^ (7*i)=((c.toNat % 128*2 ^ (7*i):Nat):Int):=by simp
   have x:fQ .or .i64 (a:Int) ((c.toNat % 128*2 ^ (7*i):Nat):Int)=((a+c.toNat % 128*2 ^ (7*i):Nat):Int):=by
    rw [tM .i64 _ _ (by simp only [bI];omega) (by simp only [bI];omega),YH q]
   refine gV ?_
   refine aT fun h=>?_
   refine gV ?_
   refine ⟨i,rfl,?_⟩
   refine gV ?_
   refine ⟨c,n,?_⟩
   refine gV ?_
   refine .inl ⟨by rw [j];exact qI (by simp only [bI];omega),?_⟩
   refine gV ?_
   refine aJ ?_
   refine gV ?_
   refine ⟨by omega,?_⟩
   refine gV ?_
   refine .inl ⟨⟨by rw [m];simp only [IntKind.bits];omega,by rw [j,m,p];exact qI (by simp only [bI];omega)⟩,?_⟩
   refine gV ?_
   rw [j,m,p,x]
   refine ⟨fun h=>?_,fun h=>?_⟩
   .have b:c.toNat<128:=by have:=of_decide_eq_true h;omega
    have o:¬ (c.toNat=0/\0<i)->aU (f+1) i a (c::r)=some (a+(c.toNat % 128)*2 ^ (7*i),i+1):=fun hz=>by
     rw [aU,if_pos b,if_neg hz]
    refine gV ?_
    refine Ad (fun hz=>?_) (fun hz=>?_)
    .have hz:c.toNat=0:=by
      have hz:((c.toNat:Int)==0)=true:=hz
      have:=eq_of_beq hz
      omega
     refine gV ?_
     refine Ad (fun d=>?_) (fun d=>?_)
     .have d:0<i:=by have:=of_decide_eq_true d;omega
      refine gV ?_
      rw [aU,if_pos b,if_pos ⟨hz,d⟩]
      rfl
     .have d:¬ 0<i:=by have:=of_decide_eq_false d;omega
      rw [o o_]
      refine gV ?_
      refine aJ ?_
      refine gV ?_
      rfl
    .have hz:¬ c.toNat=0:=by
      have hz:((c.toNat:Int)==0)=false:=hz
      intro e
      rw [e] at hz
      cases hz
     rw [o o_]
     refine gV ?_
     refine aN ?_
     refine gV ?_
     refine aJ ?_
     refine gV ?_
     rfl
   .have b:¬ c.toNat<128:=by have:=of_decide_eq_false h;omega
    rw [aU,if_neg b]
    refine gV ?_
    refine aJ ?_
    refine gV ?_
    refine To.head [0,5,10,11] ?_
    exact t (i+1) (a+(c.toNat % 128)*2 ^ (7*i)) r o_ k o_ o_
theorem ZT (l:List UInt8):aA Tryz.prog 200 [.str l] [] (.ret (aHs (cV l))) []:=by
 refine c_ Tryz.f200 fun _=>?_
 refine gV ?_
 refine To.head [0,5,10,11] ?_
 exact ZU l 9 0 0 l rfl rfl (Bt _) d_
theorem aK {α:Type} {o:Option α} {C:Prop} (a:o=none->C) (h1:∀ x,o=some x->C):C:=by
 cases o with
 | none=>exact a rfl
 | some x=>exact h1 x rfl
abbrev tRd:TypeId:=134
abbrev rdO (s:List UInt8):List AObj:=[.cells tRd [.str s]]
abbrev rdU:List AObj:=[.cells tRd [.undef]]
def bQ (s:List UInt8):Option (Int×List UInt8):=match cV s with
 | some (n,k)=>some ((n:Int),s.drop k)
 | none=>none
def mV {α:Type} (av:α->AVal):Option (α×List UInt8)->Res
 | some (a,_)=>.ret (av a)
 | none=>.pan (aV 10)
def uN {α:Type}:Option (α×List UInt8)->List AObj
 | some (_,s)=>rdO s
 | none=>rdU
theorem bC {s s':List UInt8} {n:Int} (h:bQ s=some (n,s')):aA Tryz.prog 129 [.ref 0 0] (rdO s) (.ret (ii n)) (rdO s'):=by
 unfold bQ at h
 split at h
 .rename_i m k a
  cases h
  have b:=ZT s
  rw [a] at b
  have c:=QT a
  refine cT (E:=E) (fn:=Tryz.f129) (g:=.full 1 _ _) fun _=>?_
  refine gV ?_
  refine .pure _ [] b ?_
  refine gV ?_
  refine .pure _ [] (eX _ _ rfl) ?_
  refine gV ?_
  refine ⟨k,rfl,?_⟩
  refine gV ?_
  refine ⟨by omega,?_⟩
  refine gV ?_
  exact ⟨[],[0],⟨rfl,rfl⟩,rfl,rfl⟩
 .cases h
theorem bG {s:List UInt8} (h:bQ s=none):aA Tryz.prog 129 [.ref 0 0] (rdO s) (.pan (aV 10)) rdU:=by
 unfold bQ at h
 split at h
 .cases h
 .rename_i b
  have a:=ZT s
  rw [b] at a
  refine aA.blur (obs':=rdO s) ?_
  refine cT (E:=E) (fn:=Tryz.f129) (g:=.full 1 _ _) fun _=>?_
  refine gV ?_
  refine .pure _ [] a ?_
  refine gV ?_
  refine .pan _ (cW _ _ rfl) ?_
  exact ⟨[],[0],⟨rfl,rfl⟩,rfl,rfl⟩
def dR (s:List UInt8):Option (Int×List UInt8):=match bQ s with
 | some (n,s')=>if decide (n<=(s'.length:Int)) then some (n,s') else none
 | none=>none
theorem kH {s s':List UInt8} {n:Int} (h:dR s=some (n,s')):aA Tryz.prog 127 [.ref 0 0] (rdO s) (.ret (ii n)) (rdO s'):=by
 unfold dR at h
 split at h
 .rename_i m c b
  split at h
  .rename_i a
   cases h
   refine cT (E:=E) (fn:=Tryz.f127) (g:=.full 1 _ _) fun _=>?_
   refine gV ?_
   refine .eff [] [0] _ _ rfl (bC b) ?_
   refine gV ?_
   refine .pure _ [] (eX _ _ a) ?_
   refine gV ?_
   exact ⟨[],[0],⟨rfl,rfl⟩,rfl,rfl⟩
  .cases h
 .cases h
theorem iB {s:List UInt8} (h:dR s=none):aA Tryz.prog 127 [.ref 0 0] (rdO s) (.pan (aV 10)) rdU:=by
 unfold dR at h
 split at h
 .rename_i m c a
  split at h
  .cases h
  .rename_i b
   refine aA.blur (obs':=rdO c) ?_
   refine cT (E:=E) (fn:=Tryz.f127) (g:=.full 1 _ _) fun _=>?_
   refine gV ?_
   refine .eff [] [0] _ _ rfl (bC a) ?_
   refine gV ?_
   refine .pan _ (cW _ _ (by simpa using b)) ?_
   exact ⟨[],[0],⟨rfl,rfl⟩,rfl,rfl⟩
 .rename_i a
  refine cT (E:=E) (fn:=Tryz.f127) (g:=.full 1 _ _) fun _=>?_
  refine gV ?_
  refine .effp [] [0] _ _ rfl (bG a) ?_
  exact ⟨[],[0],⟨rfl,rfl⟩,rfl,rfl⟩
def oP (s:List UInt8):Option (V3×List UInt8):=match bQ s with
 | none=>none
 | some (a,s)=>match bQ s with
  | none=>none
  | some (b,s)=>match bQ s with
   | none=>none
   | some (c,s)=>some (⟨a,b,c⟩,s)
theorem OZ (s:List UInt8) (r:Res) (O:List AObj) (d:mV (fun v:V3=>.agg v.cs) (oP s)=r) (e:uN (oP s)=O):aA Tryz.prog 201 [.ref 0 0] (rdO s) r O:=by
 unfold oP at d e
 refine cT (E:=E) (fn:=Tryz.f201) (g:=.full 1 _ _) fun _=>?_
 refine gV ?_
 refine gV ?_
 refine aY ?_
 refine gV ?_
 refine aK (o:=bQ s) (fun h1=>?_) (fun ⟨a,i⟩ h1=>?_)
 .simp only [h1] at d e
  have d:Res.pan (aV 10)=r:=d
  have e:rdU=O:=e
  subst d e
  exact zqca11
 simp only [h1] at d e
 refine .eff [] [0] _ _ rfl (bC h1) ?_
 refine gV ?_
 refine ⟨⟨by decide,by decide⟩,?_⟩
 refine gV ?_
 refine aJ ?_
 refine gV ?_
 refine gV ?_
 refine aY ?_
 refine gV ?_
 refine aK (o:=bQ i) (fun h=>?_) (fun ⟨b,j⟩ h=>?_)
 .simp only [h] at d e
  have d:Res.pan (aV 10)=r:=d
  have e:rdU=O:=e
  subst d e
  refine .effp [] [0] _ _ rfl (bG h) ?_
  exact ⟨[],[0],⟨rfl,rfl⟩,rfl,rfl⟩
 simp only [h] at d e
 refine .eff [] [0] _ _ rfl (bC h) ?_
 refine gV ?_
 refine ⟨⟨by decide,by decide⟩,?_⟩
 refine gV ?_
 refine aJ ?_
 refine gV ?_
 refine gV ?_
 refine aY ?_
 refine gV ?_
 refine aK (o:=bQ j) (fun h3=>?_) (fun ⟨c,k⟩ h3=>?_)
 .simp only [h3] at d e
  have d:Res.pan (aV 10)=r:=d
  have e:rdU=O:=e
  subst d e
  exact zqca10
 simp only [h3] at d e
 refine .eff [] [0] _ _ rfl (bC h3) ?_
 refine gV ?_
 refine ⟨⟨by decide,by decide⟩,?_⟩
 refine gV ?_
 refine aJ ?_
 refine gV ?_
 refine gV ?_
 refine aN ?_
 refine gV ?_
 subst d e
 exact zqca13
theorem sK {s s':List UInt8} {v:V3} (h:oP s=some (v,s')):aA Tryz.prog 201 [.ref 0 0] (rdO s) (.ret (.agg v.cs)) (rdO s'):=OZ s _ _ (by rw [h];rfl) (by rw [h];rfl)
theorem sL {s:List UInt8} (h:oP s=none):aA Tryz.prog 201 [.ref 0 0] (rdO s) (.pan (aV 10)) rdU:=OZ s _ _ (by rw [h];rfl) (by rw [h];rfl)
def rGan (s:List UInt8):Option (Gan×List UInt8):=match bQ s with
 | none=>none
 | some (a,s)=>match bQ s with
  | none=>none
  | some (b,s)=>match bQ s with
   | none=>none
   | some (c,s)=>match oP s with
    | none=>none
    | some (v,s)=>match bQ s with
         | none=>none
         | some (d,s)=>match bQ s with
          | none=>none
          | some (e,s)=>match bQ s with
           | none=>none
           | some (f,s)=>some (⟨a,b,c,v,d,e,f⟩,s)
theorem IN (s:List UInt8) (r:Res) (O:List AObj) (h:mV Gan.av (rGan s)=r) (i:uN (rGan s)=O):aA Tryz.prog 131 [.ref 0 0] (rdO s) r O:=by
 unfold rGan at h i
 refine cT (E:=E) (fn:=Tryz.f131) (g:=.full 1 _ _) fun _=>?_
 refine gV ?_
 refine aK (o:=bQ s) (fun h1=>?_) (fun ⟨a,q⟩ h1=>?_)
 .simp only [h1] at h i
  have h:Res.pan (aV 10)=r:=h
  have i:rdU=O:=i
  subst h i
  exact zqca11
 simp only [h1] at h i
 refine .eff [] [0] _ _ rfl (bC h1) ?_
 refine gV ?_
 refine aK (o:=bQ q) (fun n=>?_) (fun ⟨b,u⟩ n=>?_)
 .simp only [n] at h i
  have h:Res.pan (aV 10)=r:=h
  have i:rdU=O:=i
  subst h i
  refine .effp [] [0] _ _ rfl (bG n) ?_
  exact ⟨[],[0],⟨rfl,rfl⟩,rfl,rfl⟩
 simp only [n] at h i
 refine .eff [] [0] _ _ rfl (bC n) ?_
 refine gV ?_
 refine aK (o:=bQ u) (fun h3=>?_) (fun ⟨c,x⟩ h3=>?_)
 .simp only [h3] at h i
  have h:Res.pan (aV 10)=r:=h
  have i:rdU=O:=i
  subst h i
  exact zqca10
 simp only [h3] at h i
 refine .eff [] [0] _ _ rfl (bC h3) ?_
 refine gV ?_
 refine aK (o:=oP x) (fun l=>?_) (fun ⟨v,t⟩ l=>?_)
 .simp only [l] at h i
  have h:Res.pan (aV 10)=r:=h
  have i:rdU=O:=i
  subst h i
  exact zqca51
 simp only [l] at h i
 refine .eff [] [0] _ _ rfl (sK l) ?_
 refine gV ?_
 refine aK (o:=bQ t) (fun k=>?_) (fun ⟨d,w⟩ k=>?_)
 .simp only [k] at h i
  have h:Res.pan (aV 10)=r:=h
  have i:rdU=O:=i
  subst h i
  refine .effp [] [0] _ _ rfl (bG k) ?_
  exact ⟨[],[0],⟨rfl,rfl⟩,rfl,rfl⟩
 simp only [k] at h i
 refine .eff [] [0] _ _ rfl (bC k) ?_
 refine gV ?_
 refine aK (o:=bQ w) (fun m=>?_) (fun ⟨e,p⟩ m=>?_)
 .simp only [m] at h i
  have h:Res.pan (aV 10)=r:=h
  have i:rdU=O:=i
  subst h i
  refine .effp [] [0] _ _ rfl (bG m) ?_
  exact ⟨[],[0],⟨rfl,rfl⟩,rfl,rfl⟩
 simp only [m] at h i
 refine .eff [] [0] _ _ rfl (bC m) ?_
 refine gV ?_
 refine aK (o:=bQ p) (fun j=>?_) (fun ⟨f,y⟩ j=>?_)
 .simp only [j] at h i
  have h:Res.pan (aV 10)=r:=h
  have i:rdU=O:=i
  subst h i
  exact zqca52
 simp only [j] at h i
 refine .eff [] [0] _ _ rfl (bC j) ?_
 refine gV ?_
 subst h i
 exact zqca13
theorem xM {s s':List UInt8} {v:Gan} (h:rGan s=some (v,s')):aA Tryz.prog 131 [.ref 0 0] (rdO s) (.ret v.av) (rdO s'):=IN s _ _ (by rw [h];rfl) (by rw [h];rfl)
theorem sU {s:List UInt8} (h:rGan s=none):aA Tryz.prog 131 [.ref 0 0] (rdO s) (.pan (aV 10)) rdU:=IN s _ _ (by rw [h];rfl) (by rw [h];rfl)
theorem bJ {s s':List UInt8} {n:Int} (h:bQ s=some (n,s')):0<=n/\n<=9223372036854775807/\s'.length+1<=s.length:=by
 unfold bQ at h
 split at h
 .rename_i m k a
  cases h
  have:=QT a
  simp only [Fo]
  omega
 .cases h
theorem eG {s s':List UInt8} {n:Int} (h:dR s=some (n,s')):0<=n/\n<=9223372036854775807/\s'.length+1<=s.length/\n<=s'.length:=by
 unfold dR at h
 split at h
 .rename_i m c b
  split at h
  .rename_i a
   cases h
   have:=bJ b
   have:=of_decide_eq_true a
   omega
  .cases h
 .cases h
theorem rVec_b {s s':List UInt8} {v:V3} (h:oP s=some (v,s')):s'.length+1<=s.length:=by
 unfold oP at h
 split at h
 .cases h
 .rename_i h1
  split at h
  .cases h
  .rename_i a
   split at h
   .cases h
   .rename_i h3
    cases h
    have:=bJ h1
    have:=bJ a
    have:=bJ h3
    omega
def aHf (s:List UInt8):Option (Nod×List UInt8):=match bQ s with
 | none=>none
 | some (p,s)=>match bQ s with
  | none=>none
  | some (w,s)=>match oP s with
   | none=>none
   | some (a,s)=>match oP s with
    | none=>none
    | some (b,s)=>match oP s with
         | none=>none
         | some (c,s)=>some (⟨p-1,w,a,b,c⟩,s)
def CN (s:List UInt8):Option (Hos×List UInt8):=match bQ s with
 | none=>none
 | some (f,s)=>match bQ s with
  | none=>none
  | some (b,s)=>match bQ s with
   | none=>none
   | some (r,s)=>match oP s with
    | none=>none
    | some (c,s)=>some (⟨f,b,r,c⟩,s)
def aHh (ns:List Nod) (hs:List Hos) (s:List UInt8):Option (Con×List UInt8):=match bQ s with
 | none=>none
 | some (a,s)=>match bQ s with
  | none=>none
  | some (b,s)=>some (⟨ns,hs,a,b⟩,s)
def rH (ns:List Nod):Nat->List Hos->List UInt8->Option (Con×List UInt8)
 | 0,hs,s=>aHh ns hs s
 | m+1,hs,s=>match CN s with
  | none=>none
  | some (x,s)=>rH ns m (hs++[x]) s
def rHs (ns:List Nod) (s:List UInt8):Option (Con×List UInt8):=match dR s with
 | none=>none
 | some (n,s)=>rH ns n.toNat [] s
def rN:Nat->List Nod->List UInt8->Option (Con×List UInt8)
 | 0,ns,s=>rHs ns s
 | m+1,ns,s=>match aHf s with
  | none=>none
  | some (x,s)=>rN m (ns++[x]) s
def IZ (s:List UInt8):Option (Con×List UInt8):=match dR s with
 | none=>none
 | some (n,s)=>rN n.toNat [] s
noncomputable abbrev fRc:Func:=Tryz.f199
theorem XQ (ns:List Nod) (n:Int) (B:n<=9223372036854775807) (r:Res) (O:List AObj):∀ (m i:Nat) (s:List UInt8) (hs:List Hos),(i+m:Int)=n->hs.length+s.length<=1000000000->mV Con.av (rH ns m hs s)=r->uN (rH ns m hs s)=O->
  To E fRc (.full 1 r O) (.head (stk fRc 1) [(0,.ref 0 0),(2,.ref 1 0),(32,.int .i64 n),(33,.int .i64 i)] [.cells tRd [.str s],.cells 26 [.slice 11 (nav ns) .no,.slice 6 (hav hs) (.own 2 0),ii 0,ii 0],.tail 0 6 82]):=by
 intro m
 induction m with
 | zero=>
  intro i s hs u hl d f
  unfold rH aHh at d f
  refine gV ?_
  refine aF fun h=>?_
  refine gV ?_
  refine aK (o:=bQ s) (fun h1=>?_) (fun ⟨a,k⟩ h1=>?_)
  .exact zqca42
  simp only [h1] at d f
  refine .eff [] [0] _ _ rfl (bC h1) ?_
  refine gV ?_
  refine aK (o:=bQ k) (fun g=>?_) (fun ⟨b,p⟩ g=>?_)
  .exact zqca30
  simp only [g] at d f
  refine .eff [] [0] _ _ rfl (bC g) ?_
  refine gV ?_
  subst d f
  exact zqca13
 | succ m q=>
  intro i s hs u hl d f
  unfold rH CN at d f
  have l:(hav hs).length=hs.length:=by simp
  refine gV ?_
  refine aT fun h=>?_
  refine gV ?_
  refine aK (o:=bQ s) (fun h1=>?_) (fun ⟨a,k⟩ h1=>?_)
  .exact zqca42
  simp only [h1] at d f
  refine .eff [] [0] _ _ rfl (bC h1) ?_
  refine gV ?_
  refine aK (o:=bQ k) (fun g=>?_) (fun ⟨b,p⟩ g=>?_)
  .exact zqca30
  simp only [g] at d f
  refine .eff [] [0] _ _ rfl (bC g) ?_
  refine gV ?_
  refine aK (o:=bQ p) (fun h3=>?_) (fun ⟨c,x⟩ h3=>?_)
  .simp only [h3] at d f
   have d:Res.pan (aV 10)=r:=d
   have f:rdU=O:=f
   subst d f
   exact zqca10
  simp only [h3] at d f
  refine .eff [] [0] _ _ rfl (bC h3) ?_
  refine gV ?_
  refine aK (o:=oP x) (fun j=>?_) (fun ⟨v,w⟩ j=>?_)
  .simp only [j] at d f
   have d:Res.pan (aV 10)=r:=d
   have f:rdU=O:=f
   subst d f
   exact zqca49
  simp only [j] at d f
  refine .eff [] [0] _ _ rfl (sK j) ?_
  refine gV ?_
  have y:=bJ h1
  have A:=bJ g
  have z:=bJ h3
  have C:=rVec_b j
  refine Ad ⟨by simp only [maxLen];simp;omega,by simp;omega⟩ ?_
  refine gV ?_
  refine aJ ?_
  refine gV ?_
  refine To.part [0,2,32,33] [0,1,2] rfl rfl rfl ?_
  have next:=q (i+1) w (hs++[⟨a,b,c,v⟩]) o_ q_ d f
  have e:hav (hs++[⟨a,b,c,v⟩])=hav hs++[Hos.av ⟨a,b,c,v⟩]:=by simp
  rw [e] at next
  exact next
theorem XN (n:Int) (G:n<=9223372036854775807) (r:Res) (O:List AObj):∀ (m i:Nat) (s:List UInt8) (ns:List Nod),(i+m:Int)=n->ns.length+s.length<=1000000000->mV Con.av (rN m ns s)=r->uN (rN m ns s)=O->
  To E fRc (.full 1 r O) (.head (stk fRc 0) [(0,.ref 0 0),(2,.ref 1 0),(6,.int .i64 n),(7,.int .i64 i)] [.cells tRd [.str s],.cells 26 [.slice 11 (nav ns) (.own 2 0),.slice 6 [] .nil,ii 0,ii 0],.tail 0 11 80]):=by
 intro m
 induction m with
 | zero=>
  intro i s ns x hl f g
  unfold rN rHs at f g
  refine gV ?_
  refine aF fun h=>?_
  refine gV ?_
  refine aK (o:=dR s) (fun h1=>?_) (fun ⟨k,q⟩ h1=>?_)
  .simp only [h1] at f g
   have f:Res.pan (aV 10)=r:=f
   have g:rdU=O:=g
   subst f g
   exact zqca47
  simp only [h1] at f g
  refine .eff [] [0] _ _ rfl (kH h1) ?_
  refine gV ?_
  have v:=eG h1
  refine To.part [0,2,32,33] [0,1] rfl rfl rfl ?_
  refine To.begin 1 1 82 rfl rfl ?_
  exact XQ ns k o_ r O k.toNat 0 q [] o_ q_ f g
 | succ m w=>
  intro i s ns x hl f g
  unfold rN aHf at f g
  have u:(nav ns).length=ns.length:=by simp
  refine gV ?_
  refine aT fun h=>?_
  refine gV ?_
  refine aK (o:=bQ s) (fun h1=>?_) (fun ⟨a,q⟩ h1=>?_)
  .simp only [h1] at f g
   have f:Res.pan (aV 10)=r:=f
   have g:rdU=O:=g
   subst f g
   exact zqca11
  simp only [h1] at f g
  refine .eff [] [0] _ _ rfl (bC h1) ?_
  refine gV ?_
  have v:=bJ h1
  refine aJ ?_
  refine gV ?_
  refine aK (o:=bQ q) (fun p=>?_) (fun ⟨b,z⟩ p=>?_)
  .simp only [p] at f g
   have f:Res.pan (aV 10)=r:=f
   have g:rdU=O:=g
   subst f g
   exact zqca50
  simp only [p] at f g
  refine .eff [] [0] _ _ rfl (bC p) ?_
  refine gV ?_
  refine aK (o:=oP z) (fun h3=>?_) (fun ⟨c,B⟩ h3=>?_)
  .simp only [h3] at f g
   have f:Res.pan (aV 10)=r:=f
   have g:rdU=O:=g
   subst f g
   refine .effp [] [0] _ _ rfl (sL h3) ?_
   exact ⟨[],[0],⟨rfl,rfl⟩,rfl,rfl⟩
  simp only [h3] at f g
  refine .eff [] [0] _ _ rfl (sK h3) ?_
  refine gV ?_
  refine aK (o:=oP B) (fun l=>?_) (fun ⟨d,y⟩ l=>?_)
  .simp only [l] at f g
   have f:Res.pan (aV 10)=r:=f
   have g:rdU=O:=g
   subst f g
   exact zqca51
  simp only [l] at f g
  refine .eff [] [0] _ _ rfl (sK l) ?_
  refine gV ?_
  refine aK (o:=oP y) (fun j=>?_) (fun ⟨e,A⟩ j=>?_)
  .simp only [j] at f g
   have f:Res.pan (aV 10)=r:=f
   have g:rdU=O:=g
   subst f g
   exact zqca49
  simp only [j] at f g
  refine .eff [] [0] _ _ rfl (sK j) ?_
  refine gV ?_
  have F:=bJ p
  have C:=rVec_b h3
  have H:=rVec_b l
  have D:=rVec_b j
  refine Ad ⟨by simp only [maxLen];simp;omega,by simp;omega⟩ ?_
  refine gV ?_
  refine aJ ?_
  refine gV ?_
  refine To.part [0,2,6,7] [0,1,2] rfl rfl rfl ?_
  have next:=w (i+1) A (ns++[⟨a-1,b,c,d,e⟩]) o_ q_ f g
  have e:nav (ns++[⟨a-1,b,c,d,e⟩])=nav ns++[Nod.av ⟨a-1,b,c,d,e⟩]:=by simp
  rw [e] at next
  exact next
theorem IV (s:List UInt8) (hs:s.length<=1000000000) (r:Res) (O:List AObj) (a:mV Con.av (IZ s)=r) (b:uN (IZ s)=O):aA Tryz.prog 199 [.ref 0 0] (rdO s) r O:=by
 unfold IZ at a b
 refine cT (E:=E) (fn:=Tryz.f199) (g:=.full 1 _ _) fun _=>?_
 refine gV ?_
 refine aK (o:=dR s) (fun h1=>?_) (fun ⟨k,c⟩ h1=>?_)
 .exact zqca15
 simp only [h1] at a b
 refine .eff [] [0] _ _ rfl (kH h1) ?_
 refine gV ?_
 have d:=eG h1
 refine To.part [0,2,6,7] [0,1] rfl rfl rfl ?_
 refine To.begin 1 0 80 rfl rfl ?_
 exact XN k o_ r O k.toNat 0 c [] o_ q_ a b
theorem aB6 {s s':List UInt8} (hs:s.length<=1000000000) {v:Con} (h:IZ s=some (v,s')):aA Tryz.prog 199 [.ref 0 0] (rdO s) (.ret v.av) (rdO s'):=IV s hs _ _ (by rw [h];rfl) (by rw [h];rfl)
theorem XM {s:List UInt8} (hs:s.length<=1000000000) (h:IZ s=none):aA Tryz.prog 199 [.ref 0 0] (rdO s) (.pan (aV 10)) rdU:=IV s hs _ _ (by rw [h];rfl) (by rw [h];rfl)
def _root_.Go.Proofs.YticlgfdibfobdaaGreat.Con.zero:Con:=⟨[],[],0,0⟩
def I0 (s:List UInt8):Option (Cmd×List UInt8):=match bQ s with
 | none=>none
 | some (k,s)=>if k==1 then (match IZ s with
   | none=>none
   | some (c,s)=>some (⟨k,c,Gan.zero,0⟩,s))
  else if k==2 then (match rGan s with
   | none=>none
   | some (g,s)=>some (⟨k,Con.zero,g,0⟩,s))
  else if (k==3||k==4)||k==5 then (match bQ s with
   | none=>none
   | some (n,s)=>some (⟨k,Con.zero,Gan.zero,n⟩,s))
  else some (⟨k,Con.zero,Gan.zero,0⟩,s)
abbrev zCs:List AVal:=[ii 0,.slice 11 [] .nil,.slice 6 [] .nil,ii 0,ii 0,ii 0,ii 0,ii 0,ii 0,ii 0,ii 0,ii 0,ii 0,ii 0,ii 0]
abbrev dcO (s:List UInt8):List AObj:=[.cells 38 zCs,.cells tRd [.str s],.cells 132 [.ref 1 0]]
abbrev dcX (x:Cmd) (s:List UInt8):List AObj:=[.cells 38 x.cs,.cells tRd [.str s],.cells 132 [.ref 1 0]]
abbrev dcU:List AObj:=rD (fun _=>.undef) (dcO [])
theorem aDN {s:List UInt8} (h:bQ s=none):aA Tryz.prog 198 [.ref 2 0,.ref 0 0] (dcO s) (.pan (aV 10)) dcU:=by
 refine aA.blur (obs':=[.cells 38 zCs,.cells tRd [.undef],.cells 132 [.ref 1 0]]) ?_
 refine cT (E:=E) (fn:=Tryz.f198) (g:=.full 3 _ _) fun _=>?_
 refine gV ?_
 refine .effp [] [1] _ _ rfl (bG h) ?_
 exact zqca8
theorem aHR {s a:List UInt8} (hs:a.length<=1000000000) (h:bQ s=some (1,a)) (b:IZ a=none):aA Tryz.prog 198 [.ref 2 0,.ref 0 0] (dcO s) (.pan (aV 10)) dcU:=by
 refine aA.blur (obs':=[.cells 38 (ii 1::zCs.tail),.cells tRd [.undef],.cells 132 [.ref 1 0]]) ?_
 refine cT (E:=E) (fn:=Tryz.f198) (g:=.full 3 _ _) fun _=>?_
 refine gV ?_
 refine .eff [] [1] _ _ rfl (bC h) ?_
 refine gV ?_
 refine aY ?_
 refine gV ?_
 refine .effp [] [1] _ _ rfl (XM hs b) ?_
 exact zqca8
theorem aIt {s a b:List UInt8} {c:Con} (hs:a.length<=1000000000) (h:bQ s=some (1,a)) (d:IZ a=some (c,b)):aA Tryz.prog 198 [.ref 2 0,.ref 0 0] (dcO s) (.ret (.tup [])) (dcX ⟨1,c,Gan.zero,0⟩ b):=by
 refine cT (E:=E) (fn:=Tryz.f198) (g:=.full 3 _ _) fun _=>?_
 refine gV ?_
 refine .eff [] [1] _ _ rfl (bC h) ?_
 refine gV ?_
 refine aY ?_
 refine gV ?_
 refine .eff [] [1] _ _ rfl (aB6 hs d) ?_
 refine gV ?_
 exact zqca8
theorem aHQ {s a:List UInt8} (h:bQ s=some (2,a)) (b:rGan a=none):aA Tryz.prog 198 [.ref 2 0,.ref 0 0] (dcO s) (.pan (aV 10)) dcU:=by
 refine aA.blur (obs':=[.cells 38 (ii 2::zCs.tail),.cells tRd [.undef],.cells 132 [.ref 1 0]]) ?_
 refine cT (E:=E) (fn:=Tryz.f198) (g:=.full 3 _ _) fun _=>?_
 refine gV ?_
 refine .eff [] [1] _ _ rfl (bC h) ?_
 refine gV ?_
 refine aN ?_
 refine gV ?_
 refine aY ?_
 refine gV ?_
 refine .effp [] [1] _ _ rfl (sU b) ?_
 exact zqca8
theorem aIs {s e d:List UInt8} {g:Gan} (h:bQ s=some (2,e)) (i:rGan e=some (g,d)):aA Tryz.prog 198 [.ref 2 0,.ref 0 0] (dcO s) (.ret (.tup [])) (dcX ⟨2,Con.zero,g,0⟩ d):=by
 refine aA.loose (obs':=[.cells 38 [ii 2,.slice 11 [] .nil,.slice 6 [] .nil,ii 0,ii 0,ii g.id,ii g.ten,ii g.pods,ii g.need.a,ii g.need.b,ii g.need.c,ii g.run,ii g.lev,ii g.pref,ii 0],.cells tRd [.str d],.cells 132 [.ref 1 0]]) ?_
 refine cT (E:=E) (fn:=Tryz.f198) (g:=.full 3 _ _) fun _=>?_
 refine gV ?_
 refine .eff [] [1] _ _ rfl (bC h) ?_
 refine gV ?_
 refine aN ?_
 refine gV ?_
 refine aY ?_
 refine gV ?_
 refine .eff [] [1] _ _ rfl (xM i) ?_
 refine gV ?_
 exact zqca8
theorem aHP {s b:List UInt8} {k:Int} (c:k=3\/k=4\/k=5) (h:bQ s=some (k,b)) (a:bQ b=none):aA Tryz.prog 198 [.ref 2 0,.ref 0 0] (dcO s) (.pan (aV 10)) dcU:=by
 rcases c with rfl | rfl | rfl
 .refine aA.blur (obs':=[.cells 38 (ii 3::zCs.tail),.cells tRd [.undef],.cells 132 [.ref 1 0]]) ?_
  refine cT (E:=E) (fn:=Tryz.f198) (g:=.full 3 _ _) fun _=>?_
  refine gV ?_
  refine .eff [] [1] _ _ rfl (bC h) ?_
  refine gV ?_
  repeat' first | (refine gN hE ?_;conv=>whnf) | refine .effp [] [1] _ _ rfl (bG a) ?_ | exact rfl | refine aY ?_ | refine aN ?_ | refine aT fun h=>?_ | refine aF fun h=>?_ | refine ⟨fun h=>?_,fun h=>?_⟩ | refine aJ ?_ | refine ⟨_,rfl,?_⟩ | refine aD ?_ | fail
  exact zqca8
 .refine aA.blur (obs':=[.cells 38 (ii 4::zCs.tail),.cells tRd [.undef],.cells 132 [.ref 1 0]]) ?_
  refine cT (E:=E) (fn:=Tryz.f198) (g:=.full 3 _ _) fun _=>?_
  refine gV ?_
  refine .eff [] [1] _ _ rfl (bC h) ?_
  refine gV ?_
  repeat' first | (refine gN hE ?_;conv=>whnf) | refine .effp [] [1] _ _ rfl (bG a) ?_ | exact rfl | refine aY ?_ | refine aN ?_ | refine aT fun h=>?_ | refine aF fun h=>?_ | refine ⟨fun h=>?_,fun h=>?_⟩ | refine aJ ?_ | refine ⟨_,rfl,?_⟩ | refine aD ?_ | fail
  exact zqca8
 .refine aA.blur (obs':=[.cells 38 (ii 5::zCs.tail),.cells tRd [.undef],.cells 132 [.ref 1 0]]) ?_
  refine cT (E:=E) (fn:=Tryz.f198) (g:=.full 3 _ _) fun _=>?_
  refine gV ?_
  refine .eff [] [1] _ _ rfl (bC h) ?_
  refine gV ?_
  repeat' first | (refine gN hE ?_;conv=>whnf) | refine .effp [] [1] _ _ rfl (bG a) ?_ | exact rfl | refine aY ?_ | refine aN ?_ | refine aT fun h=>?_ | refine aF fun h=>?_ | refine ⟨fun h=>?_,fun h=>?_⟩ | refine aJ ?_ | refine ⟨_,rfl,?_⟩ | refine aD ?_ | fail
  exact zqca8
abbrev nCs (k n:Int):List AVal:=[ii k,.slice 11 [] .nil,.slice 6 [] .nil,ii 0,ii 0,ii 0,ii 0,ii 0,ii 0,ii 0,ii 0,ii 0,ii 0,ii 0,ii n]
theorem aIr {s c a:List UInt8} {k n:Int} (d:k=3\/k=4\/k=5) (h:bQ s=some (k,c)) (b:bQ c=some (n,a)):aA Tryz.prog 198 [.ref 2 0,.ref 0 0] (dcO s) (.ret (.tup [])) (dcX ⟨k,Con.zero,Gan.zero,n⟩ a):=by
 refine aA.loose (obs':=[.cells 38 (nCs k n),.cells tRd [.str a],.cells 132 [.ref 1 0]]) ?_
 rcases d with rfl | rfl | rfl
 .refine cT (E:=E) (fn:=Tryz.f198) (g:=.full 3 _ _) fun _=>?_
  refine gV ?_
  refine .eff [] [1] _ _ rfl (bC h) ?_
  refine gV ?_
  repeat' first | (refine gN hE ?_;conv=>whnf) | refine .eff [] [1] _ _ rfl (bC b) ?_ | exact rfl | refine aY ?_ | refine aN ?_ | refine aT fun h=>?_ | refine aF fun h=>?_ | refine ⟨fun h=>?_,fun h=>?_⟩ | refine aJ ?_ | refine ⟨_,rfl,?_⟩ | refine aD ?_ | fail
  exact zqca8
 .refine cT (E:=E) (fn:=Tryz.f198) (g:=.full 3 _ _) fun _=>?_
  refine gV ?_
  refine .eff [] [1] _ _ rfl (bC h) ?_
  refine gV ?_
  repeat' first | (refine gN hE ?_;conv=>whnf) | refine .eff [] [1] _ _ rfl (bC b) ?_ | exact rfl | refine aY ?_ | refine aN ?_ | refine aT fun h=>?_ | refine aF fun h=>?_ | refine ⟨fun h=>?_,fun h=>?_⟩ | refine aJ ?_ | refine ⟨_,rfl,?_⟩ | refine aD ?_ | fail
  exact zqca8
 .refine cT (E:=E) (fn:=Tryz.f198) (g:=.full 3 _ _) fun _=>?_
  refine gV ?_
  refine .eff [] [1] _ _ rfl (bC h) ?_
  refine gV ?_
  repeat' first | (refine gN hE ?_;conv=>whnf) | refine .eff [] [1] _ _ rfl (bC b) ?_ | exact rfl | refine aY ?_ | refine aN ?_ | refine aT fun h=>?_ | refine aF fun h=>?_ | refine ⟨fun h=>?_,fun h=>?_⟩ | refine aJ ?_ | refine ⟨_,rfl,?_⟩ | refine aD ?_ | fail
  exact zqca8
theorem aIq {s a:List UInt8} {k:Int} (h1:(k==1)=false) (c:(k==2)=false) (h3:(k==3)=false) (b:(k==4)=false) (d:(k==5)=false) (h:bQ s=some (k,a)):
  aA Tryz.prog 198 [.ref 2 0,.ref 0 0] (dcO s) (.ret (.tup [])) (dcX ⟨k,Con.zero,Gan.zero,0⟩ a):=by
 refine aA.loose (obs':=[.cells 38 (nCs k 0),.cells tRd [.str a],.cells 132 [.ref 1 0]]) ?_
 refine cT (E:=E) (fn:=Tryz.f198) (g:=.full 3 _ _) fun _=>?_
 refine gV ?_
 refine .eff [] [1] _ _ rfl (bC h) ?_
 refine gV ?_
 refine Ad (fun h=>absurd (h.symm.trans h1) d_) (fun _=>?_)
 refine gV ?_
 refine Ad (fun h=>absurd (h.symm.trans c) d_) (fun _=>?_)
 refine gV ?_
 refine Ad (fun h=>absurd (h.symm.trans h3) d_) (fun _=>?_)
 refine gV ?_
 refine Ad (fun h=>absurd (h.symm.trans b) d_) (fun _=>?_)
 refine gV ?_
 refine Ad (fun h=>absurd (h.symm.trans d) d_) (fun _=>?_)
 refine gV ?_
 exact zqca8
theorem aHO {s s':List UInt8} {x:Cmd} (hs:s.length<=1000000000) (h:I0 s=some (x,s')):aA Tryz.prog 198 [.ref 2 0,.ref 0 0] (dcO s) (.ret (.tup [])) (dcX x s'):=by
 unfold I0 at h
 split at h
 .cases h
 .rename_i k i h1
  have g:=bJ h1
  split at h
  .rename_i b
   have b:=eq_of_beq b
   subst b
   split at h
   .cases h
   .rename_i e
    cases h
    exact aIt o_ h1 e
  .rename_i c
   split at h
   .rename_i b
    have b:=eq_of_beq b
    subst b
    split at h
    .cases h
    .rename_i e
     cases h
     exact aIs h1 e
   .rename_i d
    split at h
    .rename_i b
     simp at b
     split at h
     .cases h
     .rename_i e
      cases h
      exact aIr o_ h1 e
    .rename_i a
     cases h
     simp only [Eg,not_or,Bool.not_eq_true] at c d a
     exact aIq c d a.1.1 a.1.2 a.2 h1
theorem aGy {s:List UInt8} (hs:s.length<=1000000000) (h:I0 s=none):aA Tryz.prog 198 [.ref 2 0,.ref 0 0] (dcO s) (.pan (aV 10)) dcU:=by
 unfold I0 at h
 split at h
 .rename_i h1
  exact aDN h1
 .rename_i k d h1
  have c:=bJ h1
  split at h
  .rename_i a
   have a:=eq_of_beq a
   subst a
   split at h
   .rename_i b
    exact aHR o_ h1 b
   .cases h
  .split at h
   .rename_i a
    have a:=eq_of_beq a
    subst a
    split at h
    .rename_i b
     exact aHQ h1 b
    .cases h
   .split at h
    .rename_i a
     simp at a
     split at h
     .rename_i b
      exact aHP o_ h1 b
     .cases h
    .cases h
abbrev d1V:AVal:=.func (.func 198) [] [.ref 2 0,.ref 0 0]
noncomputable abbrev Et:Env:=Ed [(103,[.ref 3 0])]
theorem hEt:EnvOK Et:=hEd _
theorem aEV {s s':List UInt8} {x:Cmd} (hs:s.length<=1000000000) (h:I0 s=some (x,s')):aA Tryz.prog 55 [d1V] (dcO s) (.ret (ii 0)) (dcX x s'):=by
 refine cT (E:=E) (fn:=Tryz.f55) (g:=.full 3 _ _) fun _=>?_
 refine gV ?_
 refine To.defer (f:=103) (args:=[.ref 3 0]) _ rfl rfl ?_
 refine gW hEt ?_;conv=>whnf
 refine .eff [] [0,1,2] _ _ rfl (aHO hs h) ?_
 refine gW hEt ?_;conv=>whnf
 refine To.leave (f:=103) (args:=[.ref 3 0]) [] rfl [] [3] rfl (catch_ret 0) ?_
 exact zqca20
theorem aBm {s:List UInt8} (hs:s.length<=1000000000) (h:I0 s=none):aA Tryz.prog 55 [d1V] (dcO s) (.ret (ii 10)) dcU:=by
 refine cT (E:=E) (fn:=Tryz.f55) (g:=.full 3 _ _) fun _=>?_
 refine gV ?_
 refine To.defer (f:=103) (args:=[.ref 3 0]) _ rfl rfl ?_
 refine gW hEt ?_;conv=>whnf
 refine .effp [] [0,1,2] _ _ rfl (aGy hs h) ?_;conv=>whnf
 refine To.leave (f:=103) (args:=[.ref 3 0]) [] rfl [] [3] rfl (catch_pan 0 10) ?_
 exact zqca20
def _root_.Go.Proofs.YticlgfdibfobdaaGreat.Cmd.zero:Cmd:=⟨0,Con.zero,Gan.zero,0⟩
def dec (s:List UInt8):Option Cmd:=match I0 s with
 | some (x,r)=>if r=[]/\chk x=0 then some x else none
 | none=>none
def decX (s:List UInt8):Cmd:=(dec s).getD Cmd.zero
def decE (s:List UInt8):Int:=match dec s with | some _=>0 | none=>10
theorem decode_ok (s:List UInt8) (hs:s.length<=1000000000):aA Tryz.prog 128 [.str s] [] (.ret (.tup [(decX s).av,ii (decE s)])) []:=by
 refine c_ Tryz.f128 fun _=>?_
 refine gV ?_
 refine aK (o:=I0 s) (fun h=>?_) (fun ⟨x,r⟩ h=>?_)
 .have i:decX s=Cmd.zero:=by unfold decX dec;rw [h];rfl
  have d:decE s=10:=by unfold decE dec;rw [h]
  rw [i,d]
  refine .eff [] [1,2,3] _ _ rfl (aBm hs h) ?_
  repeat' first | (refine gN hE ?_;conv=>whnf) | exact rfl | refine aY ?_ | refine aN ?_ | refine aT fun h=>?_ | refine aF fun h=>?_ | refine ⟨fun h=>?_,fun h=>?_⟩ | refine aJ ?_ | refine ⟨_,rfl,?_⟩ | refine aD ?_ | fail
 .refine .eff [] [1,2,3] _ _ rfl (aEV hs h) ?_
  refine gV ?_
  refine aN ?_
  refine gV ?_
  refine Ad (fun b=>?_) (fun b=>?_)
  .have b:(!(r==[]))=true:=b
   have c:¬ r=[]:=by intro e;rw [e] at b;simp at b
   have a:dec s=none:=by unfold dec;rw [h];exact if_neg (fun h=>c h.1)
   have i:decX s=Cmd.zero:=by unfold decX;rw [a];rfl
   have d:decE s=10:=by unfold decE;rw [a]
   rw [i,d]
   repeat' first | (refine gN hE ?_;conv=>whnf) | exact rfl | refine aY ?_ | refine aN ?_ | refine aT fun h=>?_ | refine aF fun h=>?_ | refine ⟨fun h=>?_,fun h=>?_⟩ | refine aJ ?_ | refine ⟨_,rfl,?_⟩ | refine aD ?_ | fail
  .have b:(!(r==[]))=false:=b
   have c:r=[]:=by simpa using b
   refine gV ?_
   refine .pure _ [] (check_ok x) ?_
   refine gV ?_
   refine Ad (fun k=>?_) (fun k=>?_)
   .have k:(chk x !=0)=true:=k
    have j:¬ chk x=0:=by simpa using k
    have a:dec s=none:=by unfold dec;rw [h];exact if_neg (fun h=>j h.2)
    have i:decX s=Cmd.zero:=by unfold decX;rw [a];rfl
    have d:decE s=10:=by unfold decE;rw [a]
    rw [i,d]
    repeat' first | (refine gN hE ?_;conv=>whnf) | exact rfl | refine aY ?_ | refine aN ?_ | refine aT fun h=>?_ | refine aF fun h=>?_ | refine ⟨fun h=>?_,fun h=>?_⟩ | refine aJ ?_ | refine ⟨_,rfl,?_⟩ | refine aD ?_ | fail
   .have k:(chk x !=0)=false:=k
    have j:chk x=0:=by simpa using k
    have a:dec s=some x:=by unfold dec;rw [h];exact if_pos ⟨c,j⟩
    have i:decX s=x:=by unfold decX;rw [a];rfl
    have d:decE s=0:=by unfold decE;rw [a]
    rw [i,d]
    repeat' first | (refine gN hE ?_;conv=>whnf) | exact rfl | refine aY ?_ | refine aN ?_ | refine aT fun h=>?_ | refine aF fun h=>?_ | refine ⟨fun h=>?_,fun h=>?_⟩ | refine aJ ?_ | refine ⟨_,rfl,?_⟩ | refine aD ?_ | fail
end Go.Proofs.YticlgfdibfobdaaGreat.C8
namespace Go.Proofs.YticlgfdibfobdaaGreat.SW
open Go Go.AW Go.Proofs Go.RowKit
set_option maxRecDepth 100000
set_option maxHeartbeats 2000000
abbrev tWr:TypeId:=116
theorem GG:liesAt Tryz.prog Tryz.prog.depth tWr (2 / Tryz.prog.cellsOf tWr) 0 114 1=true:=by kernel_rfl
theorem FJ:(Tryz.prog.info? 114).map (·.size)=some 2:=by kernel_rfl
theorem VH:Tryz.prog.underlying 111=some (.pointer 114):=by kernel_rfl
theorem VG:Tryz.prog.underlying 255=some .unsafePointer:=by kernel_rfl
theorem aAf:Tryz.prog.funcs[197]? =some Tryz.f197:=by kernel_rfl
theorem kJ (b:Nat) (w:World) (h:w.cell? ⟨b,0,none⟩=some (.pointer none)) (a:w.shape? b=some (tWr,2)) (g:w.frozen? ⟨b,0,none⟩=false):
  Calls Tryz.prog 126 #[.pointer (some ⟨b,0,none⟩)] w fun e w'=>e= .returned (.tuple #[])/\w'=w.setCell ⟨b,0,none⟩ (.pointer (some ⟨b,0,none⟩)):=by
 obtain ⟨j,d,c⟩:=Cb.1 FJ
 go_enter Tryz.func126,Tryz.ntmps126
 go_wp2
 rw [Lib.run_to_unsafe w ⟨b,0,none⟩ VH VG d (by rw [c];decide) a (Nat.zero_lt_succ 1)]
 simp only [Ey]
 rw [Oper.upon_value]
 go_wp2
 rw [run_callFunc_extern aAf (by kernel_rfl) (by kernel_rfl) (by kernel_rfl) (e:=Extern.AbiNoEscape.same) (by kernel_rfl)]
 rw [Lib.run_noEscape]
 simp only [Ey]
 rw [Oper.upon_value]
 go_wp2
 rw [Lib.run_from_unsafe w ⟨b,0,none⟩ VG VH d a GG]
 simp only [Ey]
 rw [Oper.upon_value]
 go_wp2
 go_end0
 exact ⟨rfl,rfl⟩
theorem aEU:Tryz.prog.underlying 192=some (.pointer 5):=by kernel_rfl
theorem aGF:Tryz.prog.cellsOf 5=1:=by kernel_rfl
theorem tX (b g a:Nat) (p:Value) (c:Array Value) (l:List UInt8) (w:World) (h:w.heap[b]? =some (.cells #[p,.slice (some ⟨g,0,none⟩) l.length a] tWr (0,0))) (v:w.heap[g]? =some (.cells c 5 (0,0))) (q:l≠[])
  (o:l.length<=a) (m:a<=maxLen) (s:c.size=a) (d:∀ (j:Nat) x,l[j]? =some x->w.cell? ⟨g,j,none⟩=some (.int .u8 x.toNat)):
  Calls Tryz.prog 54 #[.pointer (some ⟨b,0,none⟩)] w fun e w'=>e= .returned (.string ⟨l.toArray⟩)/\LS g l.length w w':=by
 have k:l.length≠0:=by simpa using q
 have z:w.drew.cell? ⟨b,1,none⟩=some (.slice (some ⟨g,0,none⟩) l.length a):=by
  exact zqca34
 have y:(Lb #[112] 192 #[.slice (some ⟨g,0,none⟩) l.length a]).run Tryz.prog w.drew= .ok (.pointer (some ⟨g,0,none⟩)) w.drew:=
  Lib.run_unsafeSliceData_row _ _ _ _ _ _ o_
 have r:(Lz #[192,3] 9 #[.pointer (some ⟨g,0,none⟩),.int .i64 l.length]).run Tryz.prog w.drew= .ok (.string ⟨l.toArray⟩) (w.drew.freeze ⟨g,0,none⟩ l.length):=by
  exact zqca19
 have n:Tryz.prog.follows Departure.mixedOrders=true:=hE.mix
 go_enter Tryz.func54,Tryz.ntmps54
 go_wp2
 go_region_o
 all_goals (go_wp2;go_ret;exact ⟨rfl,Z4 k⟩)
theorem B5 (s:AVal):aA Tryz.prog 126 [.ref 0 0] [.cells tWr [.nilptr,s]] (.ret (.tup [])) [.cells tWr [.ref 0 0,s]]:=
 rJ (fun _ _=>by rfl) kJ s
theorem str_ok (l:List UInt8) (a:l≠[]) (p:AVal):aA Tryz.prog 54 [.ref 0 0] [.cells tWr [p,.slice 1 (l.map ub) (.own 1 0)],.tail 0 1 5] (.ret (.str l)) [.dead,.dead]:=
 pM (fun _ _=>by rfl) tX l a p
open Go Go.AW Go.Proofs
open C8 (pl putN put_ok pn_len)
set_option maxRecDepth 10000
abbrev wrO (bs:List UInt8) (g:Nat):List AObj:=[.cells tWr [.ref 0 0,.slice 1 (bs.map ub) (.own 1 g)],.tail g 1 5]
theorem HE (xs:List AVal):aA Tryz.prog 126 [.ref 0 0] [.cells tWr [.ref 0 0,.slice 1 xs (.own 1 0)],.tail 0 1 5] (.ret (.tup [])) [.cells tWr [.ref 0 0,.slice 1 xs (.own 1 0)],.tail 0 1 5]:=by
 refine cT (E:=E) (fn:=Tryz.f126) (g:=.full 2 _ _) fun _=>?_
 repeat' first | (refine gN hE ?_;conv=>whnf) | exact rfl | refine aY ?_ | refine aN ?_ | refine aT fun h=>?_ | refine aF fun h=>?_ | refine ⟨fun h=>?_,fun h=>?_⟩ | refine aJ ?_ | refine ⟨_,rfl,?_⟩ | refine aD ?_ | fail
 exact ⟨[],[0,1],⟨rfl,rfl⟩,rfl,rfl⟩
theorem sE (s:List UInt8) (hs:s.length<=1000):aA Tryz.prog 51 [.ref 0 0,.str s] [.cells tWr [.nilptr,.slice 1 [] .nil]] (.ret (.tup [ii s.length,.nilif])) (wrO s 0):=by
 exact zqca16
theorem ws_ok (bs s:List UInt8) (hs:bs.length+s.length<=1000000):aA Tryz.prog 51 [.ref 0 0,.str s] (wrO bs 0) (.ret (.tup [ii s.length,.nilif])) (wrO (bs++s) 1):=by
 exact zqca12
noncomputable abbrev KQ:Func:=Tryz.f50
theorem uO (l:List Int) (hl:((iv l).length:Int)<=9223372036854775807) (s:∀ n∈l,n<=9223372036854775807) (B:List UInt8) (k:Nat) (o:10*l.length<=1000):∀ (n i g:Nat) (bs:List UInt8),i+n=l.length->(g=0\/g=1)->(n=0->g=k)->(0<n->k=1)->bs.length+10*n<=100000->bs++pl (l.drop i)=B->
  To E KQ (.full 2 (.ret (.tup [])) (wrO B k)) (.head (stk KQ 0) [(0,.ref 0 0),(6,.slice 1 (iv l) .no),(7,.int .i64 ((iv l).length:Nat)),(8,.int .i64 i)] (wrO bs g)):=by
 have u:(iv l).length=l.length:=by simp
 intro n
 induction n with
 | zero=>
  exact zqca17
 | succ n q=>
  intro i g bs r j _ m f a
  have p:=m o_
  subst p
  have b:i<l.length:=o_
  rw [Ac b] at a
  have c:=s l[i] (Bf b)
  generalize t:l[i]=x at a c
  have a:bs++(putN x.toNat++pl (l.drop (i+1)))=B:=a
  rw [<-Aj] at a
  have get:(iv l)[i]? =some (ii x):=(cH b).trans (by rw [t])
  have hp:=pn_len c
  refine gV ?_
  refine aT fun h=>?_
  refine gV ?_
  refine ⟨i,rfl,?_⟩
  refine gV ?_
  refine ⟨_,get,?_⟩
  refine gV ?_
  refine .pure _ [] (C8.put_ok x) ?_
  exact zqca5
theorem nums_ok (l:List Int) (e:l≠[]) (c:∀ n∈l,n<=9223372036854775807) (a:l.length<=100) (bs:List UInt8) (d:bs.length+10*l.length<=100000):
  aA Tryz.prog 50 [.ref 0 0,.slice 1 (iv l) .no] (wrO bs 0) (.ret (.tup [])) (wrO (bs++pl l) 1):=by
 have i:(iv l).length=l.length:=by simp
 have b:0<l.length:=Fz.2 e
 refine cT (E:=E) (fn:=Tryz.f50) (g:=.full 2 _ _) fun _=>?_
 exact zqca31
theorem nums_fresh (k:Int) (a:k<=9223372036854775807):aA Tryz.prog 50 [.ref 0 0,.slice 1 [ii k] .no] [.cells tWr [.nilptr,.slice 1 [] .nil]] (.ret (.tup [])) (wrO (putN k.toNat) 0):=by
 have hp:=pn_len a
 refine cT (E:=E) (fn:=Tryz.f50) (g:=.full 1 _ _) fun _=>?_
 refine gV ?_
 refine gV ?_
 refine Ad (fun _=>?_) (fun h=>absurd (of_decide_eq_false h) s_)
 refine gV ?_
 refine ⟨0,rfl,?_⟩
 refine gV ?_
 refine ⟨_,rfl,?_⟩
 refine gV ?_
 refine .pure _ [] (C8.put_ok k) ?_
 refine gV ?_
 refine .sole rfl (.eff [] [0] _ _ rfl (sE _ o_) ?_)
 exact zqca9
end Go.Proofs.YticlgfdibfobdaaGreat.SW
namespace Go.Proofs.YticlgfdibfobdaaGreat
open Go Go.AW Go.Proofs
set_option maxRecDepth 10000
def KN (x i:Nat):UInt8:=Gk (x / 2 ^ (8*i) % 256)
def KM (x i:Nat):List UInt8:=(Db i).map (KN x)
def T6 (x:Nat):List UInt8:=KM x 8
theorem pC (x i:Nat):(KM x i).length=i:=by simp [KM]
theorem T5 (x i:Nat):KM x (i+1)=KM x i++[KN x i]:=by simp [KM,Ie]
theorem aIo (x i:Nat):IntKind.u8.wrap ((x:Int).fdiv (2 ^ (8*i)))=((((KN x i).toNat:Nat)):Int):=by
 rw [Ge _ (by exact Int.le_of_lt (Int.pow_pos d_))]
 have:(x:Int) / 2 ^ (8*i)=((x / 2 ^ (8*i):Nat):Int):=by simp
 rw [this,OW,KN,UInt8.toNat_ofNat',Nat.mod_mod]
noncomputable abbrev fPF:Func:=Tryz.f52
theorem TA (x:Nat):∀ (m i:Nat) (row:List AVal),i+m=8->row=(KM x i).map ub++Ah m (.int .u8 0)->
  To E fPF (.pure (.ret (.str (T6 x)))) (.head (stk fPF 0) [(0,.int .u64 x),(3,.row 0 0),(7,.int .i64 8),(8,.int .i64 i)] [.row 0 1 5 row]):=by
 intro m
 induction m with
 | zero=>
  intro i row g a
  have e:i=8:=o_
  subst e
  subst a
  refine gV ?_
  refine aF fun h=>?_
  refine gV ?_
  refine Aw (KM x 8) (Ad s_ (Ad (by simp [pC]) ?_))
  refine gV ?_
  rfl
 | succ m f=>
  intro i row g a
  have b:row.length=8:=by rw [a];simp [pC];omega
  have d:(8*(i:Int)).toNat=8*i:=o_
  have c:=aIo x i
  have next:=f (i+1) (row.set i (ub (KN x i))) o_ (by
   rw [a,T5,Bm,Jb _ _ (by simp [pC])]
   simp [pC,Kd])
  refine gV ?_
  refine aT fun h=>?_
  repeat' first | (refine gN hE ?_;conv=>whnf) | refine @Or.inr (inR IntKind.u8 _/\_) _ ?_ | refine aJ ?_ | refine Ad (Ad (show (0:Int)<=8*(i:Int) by omega) (show (8*(i:Int)).toNat<=64 by omega)) ?_ | refine ⟨i,rfl,?_⟩ | refine Ad (show i<row.length by omega) ?_ | exact rfl | refine aY ?_ | refine aN ?_ | refine aT fun h=>?_ | refine aF fun h=>?_ | refine ⟨fun h=>?_,fun h=>?_⟩ | refine aJ ?_ | refine ⟨_,rfl,?_⟩ | refine aD ?_ | fail
  refine To.part [0,3,7,8] [0] rfl rfl rfl ?_
  rw [d,c]
  exact next
theorem aCi (x:Nat):aA Tryz.prog 52 [.int .u64 x] [] (.ret (.str (T6 x))) []:=by
 have next:=TA x 8 0 (Ah 8 (.int .u8 0)) rfl rfl
 refine c_ Tryz.f52 fun _=>?_
 repeat' first | (refine gN hE ?_;conv=>whnf) | exact rfl | refine aY ?_ | refine aN ?_ | refine aT fun h=>?_ | refine aF fun h=>?_ | refine ⟨fun h=>?_,fun h=>?_⟩ | refine aJ ?_ | refine ⟨_,rfl,?_⟩ | refine aD ?_ | fail
 refine To.part [0,3,7,8] [0] rfl rfl rfl ?_
 exact next
end Go.Proofs.YticlgfdibfobdaaGreat
namespace Go.Proofs.YticlgfdibfobdaaGreat.C8
open Go Go.AW Go.Proofs
set_option maxRecDepth 10000
theorem JP (a b c:Int) (e:a<=9223372036854775807) (d:b<=9223372036854775807) (i:c<=9223372036854775807):aA Tryz.prog 122 [.ref 0 0,.slice 1 [ii a,ii b,ii c] .no] [.cells tWr [.nilptr,.slice 1 [] .nil]] (.ret (.tup [])) (wrO (putN a.toNat++putN b.toNat++putN c.toNat) 0):=by
 have l:=pn_len e
 have j:=pn_len d
 have k:=pn_len i
 refine cT (E:=E) (fn:=Tryz.f122) (g:=.full 1 _ _) fun _=>?_
 refine gV ?_
 refine gV ?_
 refine Ad (fun _=>?_) (fun h=>absurd (of_decide_eq_false h) s_)
 refine gV ?_
 refine ⟨0,rfl,?_⟩
 refine gV ?_
 refine ⟨_,rfl,?_⟩
 refine gV ?_
 refine .pure _ [] (put_ok _) ?_
 refine gV ?_
 refine .sole rfl (.eff [] [0] _ _ rfl (sE _ o_) ?_)
 refine gV ?_
 refine aJ ?_
 refine gV ?_
 refine gV ?_
 refine Ad (fun _=>?_) (fun h=>absurd (of_decide_eq_false h) s_)
 refine gV ?_
 refine ⟨1,rfl,?_⟩
 refine gV ?_
 refine ⟨_,rfl,?_⟩
 refine gV ?_
 refine .pure _ [] (put_ok _) ?_
 refine gV ?_
 refine .sole rfl (.eff [] [0,1] _ _ rfl (ws_ok _ _ o_) ?_)
 refine gV ?_
 refine aJ ?_
 refine gV ?_
 refine gV ?_
 refine Ad (fun _=>?_) (fun h=>absurd (of_decide_eq_false h) s_)
 refine gV ?_
 refine ⟨2,rfl,?_⟩
 refine gV ?_
 refine ⟨_,rfl,?_⟩
 refine gV ?_
 refine .pure _ [] (put_ok _) ?_
 refine gV ?_
 refine .sole rfl (.eff [] [0,1] _ _ rfl (ws_ok _ _ q_) ?_)
 exact zqca9
theorem HW (g:Gan) (h:g.ok=true):aA Tryz.prog 124 [.ref 0 0,g.av] [.cells tWr [.nilptr,.slice 1 [] .nil]] (.ret (.tup [])) (wrO (pl g.il) 0):=by
 obtain ⟨h1,d,h3⟩:=gan_b h
 have c:=l3_m h1 g.id s_
 have a:=l3_m h1 g.ten s_
 have b:=l3_m h1 g.pods s_
 have k:=pn_len c
 have i:=pn_len a
 have j:=pn_len b
 have l2:=pl_len (v3_m d)
 simp only [V3.l,Ba,Ck] at l2
 have e:pl g.il=(putN g.id.toNat++putN g.ten.toNat++putN g.pods.toNat)++pl g.need.l++pl [g.run,g.lev,g.pref]:=by simp [pl,Gan.il,V3.l]
 rw [e]
 refine cT (E:=E) (fn:=Tryz.f124) (g:=.full 1 _ _) fun _=>?_
 refine gV ?_
 refine .eff [] [0] _ _ rfl (aA.strip (JP g.id g.ten g.pods c a b)) ?_
 refine gV ?_
 refine .eff [] [0,2] _ _ rfl (pW g.need d _ q_) ?_
 refine gV ?_
 refine .eff [] [0,2] _ _ rfl (aA.strip (nums_ok [g.run,g.lev,g.pref] s_ (l3_m h3) s_ _ (by simp [V3.l];omega))) ?_
 refine gV ?_
 refine ⟨[],[0,2],⟨rfl,rfl⟩,?_⟩
 exact ⟨rfl,rfl⟩
theorem pg_ok (g:Gan) (h:g.ok=true):aA Tryz.prog 53 [g.av] [] (.ret (.str (pl g.il))) []:=by
 have a:pl g.il≠[]:=pl_ne _ _
 refine c_ Tryz.f53 fun _=>?_
 refine gV ?_
 refine .eff [] [1] _ _ rfl (HW g h) ?_
 refine gV ?_
 refine .eff [] [1,2] _ _ rfl (str_ok _ a _) ?_
 refine gW hE ?_;conv=>whnf
end Go.Proofs.YticlgfdibfobdaaGreat.C8
namespace Go.Proofs.YticlgfdibfobdaaGreat
open Go Go.AW Go.Proofs
set_option maxRecDepth 10000
def Sta.cmd (s:Sta):Cmd:=⟨1,s.c,Gan.zero,0⟩
def pK (s:Sta):List UInt8:=C8.encB s.cmd
def aC2:List Nat->List UInt8
 | []=>[]
 | x::r=>T6 x++aC2 r
def M7:List Pn->List UInt8
 | []=>[]
 | x::r=>(C8.pl x.g.il++C8.pl [x.seq,x.at'])++M7 r
def CK:List Rn->List UInt8
 | []=>[]
 | x::r=>(C8.pl x.g.il++C8.pl [x.seq,x.at',x.st,x.fl]++C8.pl x.hs)++CK r
def eZ (s:Sta):List UInt8:=C8.putN (pK s).length++pK s++C8.pl [s.now,s.nxt,(s.hist.length:Int)]++aC2 s.hist++C8.pl [(s.pend.length:Int)]++M7 s.pend++C8.pl [(s.run.length:Int)]++CK s.run
structure Wr (s:Sta):Prop where
 con:(pK s).length<=10000
 nums:0<=s.now/\s.now<=1099511627776/\0<=s.nxt/\s.nxt<=1099511627776
 his:s.hist.length<=100
 pen:s.pend.length<=32
 run:s.run.length<=32
 pg:∀ x∈s.pend,x.g.ok=true/\okI [x.seq,x.at']=true
 rg:∀ x∈s.run,x.g.ok=true/\okI [x.seq,x.at',x.st,x.fl]=true/\okI x.hs=true/\x.hs≠[]/\x.hs.length<=16
noncomputable abbrev KS:Func:=Tryz.f17
abbrev enO (bs:List UInt8) (g:Nat):List AObj:=SW.wrO bs g
theorem QS (g:Gan) (h:g.ok=true):(C8.pl g.il).length<=90:=by
 obtain ⟨h1,b,h3⟩:=C8.gan_b h
 have l1:=C8.pl_len (C8.l3_m h1)
 have l2:=C8.pl_len (C8.v3_m b)
 have a:=C8.pl_len (C8.l3_m h3)
 have e:C8.pl g.il=C8.pl [g.id,g.ten,g.pods]++C8.pl g.need.l++C8.pl [g.run,g.lev,g.pref]:=by simp [C8.pl,Gan.il,V3.l]
 simp only [V3.l,Ba,Ck] at l1 l2 a
 rw [e,Ar,Ar]
 simp only [V3.l]
 omega
theorem uM {l:List Int} (h:okI l=true):∀ n∈l,n<=9223372036854775807:=fun n a=>by have:=C8.okI_b h n a;omega
theorem aDr (s:Sta) (w:Wr s) (B:List UInt8) (j:B≠[]):∀ (m i:Nat) (bs:List UInt8),i+m=s.run.length->bs.length+300*m<=40000->bs++CK (s.run.drop i)=B->
  To E KS (.pure (.ret (.tup [.str B,ii 0]))) (.head (stk KS 2) [(7,.ref 0 0),(97,.slice 14 (rav s.run) .no),(98,.int .i64 ((rav s.run).length:Nat)),(99,ii (i:Int))] (enO bs 0)):=by
 have l:(rav s.run).length=s.run.length:=by simp
 have n:=w.run
 intro m
 induction m with
 | zero=>
  intro i bs o e a
  rw [Ae o_] at a
  have a:bs++[]=B:=a
  rw [Bo] at a
  subst a
  refine gV ?_
  refine aF fun h=>?_
  refine gV ?_
  refine .eff [] [0,1] _ _ rfl (SW.str_ok _ j _) ?_
  refine gW hE ?_;conv=>whnf
 | succ m q=>
  intro i bs o e a
  have b:i<s.run.length:=o_
  rw [Ac b] at a
  have get:=dH b
  obtain ⟨c,d,f,k,p⟩:=w.rg s.run[i] (Bf b)
  generalize s.run[i]=x at a get c d f k p
  have a:bs++((C8.pl x.g.il++C8.pl [x.seq,x.at',x.st,x.fl]++C8.pl x.hs)++CK (s.run.drop (i+1)))=B:=a
  rw [<-Aj,<-Aj,<-Aj] at a
  have l1:=QS x.g c
  have l2:=C8.pl_len (uM d)
  have t:=C8.pl_len (uM f)
  simp only [Ba,Ck] at l2
  have hp:=C8.pg_ok x.g c
  have h1:=SW.ws_ok bs (C8.pl x.g.il) o_
  have r:=SW.nums_ok [x.seq,x.at',x.st,x.fl] s_ (uM d) s_ (bs++C8.pl x.g.il) q_
  have h3:=SW.nums_ok x.hs k (uM f) o_ (bs++C8.pl x.g.il++C8.pl [x.seq,x.at',x.st,x.fl]) (by simp only [Ar];omega)
  have next:=q (i+1) _ o_ (by simp only [Ar];omega) a
  refine gV ?_
  refine aT fun h=>?_
  refine gV ?_
  refine ⟨i,rfl,?_⟩
  refine gV ?_
  refine ⟨_,get,?_⟩
  refine gV ?_
  refine .pure _ [] hp ?_
  refine gV ?_
  refine .sole rfl (.eff [] [0,1] _ _ rfl h1 ?_)
  refine gV ?_
  refine .eff [] [0,1] _ _ rfl (aA.strip r) ?_
  refine gV ?_
  refine .eff [] [0,1] _ _ rfl h3 ?_
  refine gV ?_
  refine aJ ?_
  refine gV ?_
  refine To.part [7,97,98,99] [0,1] rfl rfl rfl ?_
  exact next
theorem aDs (s:Sta) (w:Wr s) (B:List UInt8) (j:B≠[]):∀ (m i:Nat) (bs:List UInt8),i+m=s.pend.length->bs.length+150*m<=20000->bs++M7 (s.pend.drop i)++(C8.pl [(s.run.length:Int)]++CK s.run)=B->
  To E KS (.pure (.ret (.tup [.str B,ii 0]))) (.head (stk KS 1) [(1,.ptr s.cs),(7,.ref 0 0),(69,.slice 11 (pnv s.pend) .no),(70,.int .i64 ((pnv s.pend).length:Nat)),(71,ii (i:Int))] (enO bs 0)):=by
 have k:(pnv s.pend).length=s.pend.length:=by simp
 have c:(rav s.run).length=s.run.length:=by simp
 have t:=w.pen
 have p:=w.run
 intro m
 induction m with
 | zero=>
  intro i bs l f a
  rw [Ae o_] at a
  have a:bs++[]++(C8.pl [(s.run.length:Int)]++CK s.run)=B:=a
  rw [Bo,<-Aj] at a
  have hm:∀ n∈[(s.run.length:Int)],n<=9223372036854775807:=fun n q=>by simp at q;omega
  have l1:=C8.pl_len hm
  simp only [Ba,Ck] at l1
  have h1:=SW.nums_ok [(s.run.length:Int)] s_ hm s_ bs q_
  have next:=aDr s w B j s.run.length 0 (bs++C8.pl [(s.run.length:Int)]) o_ (by rw [Ar];omega) a
  rw [<-c] at h1
  rw [<-c] at next
  refine gV ?_
  refine aF fun h=>?_
  refine gV ?_
  refine .eff [] [0,1] _ _ rfl (aA.strip h1) ?_
  refine gV ?_
  refine To.part [7,97,98,99] [0,1] rfl rfl rfl ?_
  exact next
 | succ m o=>
  intro i bs l f a
  have b:i<s.pend.length:=o_
  rw [Ac b] at a
  have get:=sZ b
  obtain ⟨d,e⟩:=w.pg s.pend[i] (Bf b)
  generalize s.pend[i]=x at a get d e
  have a:bs++((C8.pl x.g.il++C8.pl [x.seq,x.at'])++M7 (s.pend.drop (i+1)))++(C8.pl [(s.run.length:Int)]++CK s.run)=B:=a
  rw [<-Aj bs,<-Aj bs] at a
  have l1:=QS x.g d
  have l2:=C8.pl_len (uM e)
  simp only [Ba,Ck] at l2
  have hp:=C8.pg_ok x.g d
  have h1:=SW.ws_ok bs (C8.pl x.g.il) o_
  have r:=SW.nums_ok [x.seq,x.at'] s_ (uM e) s_ (bs++C8.pl x.g.il) q_
  have next:=o (i+1) _ o_ (by simp only [Ar];omega) a
  refine gV ?_
  refine aT fun h=>?_
  refine gV ?_
  refine ⟨i,rfl,?_⟩
  refine gV ?_
  refine ⟨_,get,?_⟩
  refine gV ?_
  refine .pure _ [] hp ?_
  refine gV ?_
  refine .sole rfl (.eff [] [0,1] _ _ rfl h1 ?_)
  refine gV ?_
  refine .eff [] [0,1] _ _ rfl (aA.strip r) ?_
  refine gV ?_
  refine aJ ?_
  exact zqca53
theorem aGc {l:List Nat} {i:Nat} (h:i<l.length):(fv l)[i]? =some (.int .u64 (l[i]:Int)):=by simp [fv,h]
theorem aDt (s:Sta) (w:Wr s) (B:List UInt8) (e:B≠[]):∀ (m i:Nat) (bs:List UInt8),i+m=s.hist.length->bs.length+8*m<=15000->bs++aC2 (s.hist.drop i)++(C8.pl [(s.pend.length:Int)]++(M7 s.pend++(C8.pl [(s.run.length:Int)]++CK s.run)))=B->
  To E KS (.pure (.ret (.tup [.str B,ii 0]))) (.head (stk KS 0) [(1,.ptr s.cs),(7,.ref 0 0),(49,.slice 1 (fv s.hist) .no),(50,.int .i64 ((fv s.hist).length:Nat)),(51,ii (i:Int))] (enO bs 0)):=by
 have f:(fv s.hist).length=s.hist.length:=by simp
 have c:(pnv s.pend).length=s.pend.length:=by simp
 have o:=w.pen
 have k:=w.his
 intro m
 induction m with
 | zero=>
  intro i bs g d a
  rw [Ae o_] at a
  have a:bs++[]++(C8.pl [(s.pend.length:Int)]++(M7 s.pend++(C8.pl [(s.run.length:Int)]++CK s.run)))=B:=a
  rw [Bo,<-Aj,<-Aj] at a
  have hm:∀ n∈[(s.pend.length:Int)],n<=9223372036854775807:=fun n l=>by simp at l;omega
  have l1:=C8.pl_len hm
  simp only [Ba,Ck] at l1
  have h1:=SW.nums_ok [(s.pend.length:Int)] s_ hm s_ bs q_
  have next:=aDs s w B e s.pend.length 0 (bs++C8.pl [(s.pend.length:Int)]) o_ (by rw [Ar];omega) a
  rw [<-c] at h1
  rw [<-c] at next
  refine gV ?_
  refine aF fun h=>?_
  refine gV ?_
  refine .eff [] [0,1] _ _ rfl (aA.strip h1) ?_
  exact zqca53
 | succ m j=>
  intro i bs g d a
  have b:i<s.hist.length:=o_
  rw [Ac b] at a
  have get:=aGc b
  generalize s.hist[i]=x at a get
  have a:bs++(T6 x++aC2 (s.hist.drop (i+1)))++(C8.pl [(s.pend.length:Int)]++(M7 s.pend++(C8.pl [(s.run.length:Int)]++CK s.run)))=B:=a
  rw [<-Aj bs] at a
  have l1:(T6 x).length=8:=pC x 8
  have hp:=aCi x
  have h1:=SW.ws_ok bs (T6 x) o_
  have next:=j (i+1) _ o_ (by simp only [Ar];omega) a
  refine gV ?_
  refine aT fun h=>?_
  refine gV ?_
  refine ⟨i,rfl,?_⟩
  refine gV ?_
  refine ⟨_,get,?_⟩
  refine gV ?_
  refine .pure _ [] hp ?_
  refine gV ?_
  refine .sole rfl (.eff [] [0,1] _ _ rfl h1 ?_)
  refine gV ?_
  refine aJ ?_
  refine gV ?_
  refine To.part [1,7,49,50,51] [0,1] rfl rfl rfl ?_
  exact next
def enB (s:Sta):List AObj:=[.cells 31 s.cs]
def aGn (s:Sta):List AObj:=[.fcells s.cs]
theorem aGm (s:Sta):frzs [0] (enB s)=aGn s:=by kernel_rfl
theorem aDw (s:Sta):xA [1] (aE (aGn s)) [(1,.ref 0 0),(2,.str []),(3,ii 0)]=[(1,.ptr s.cs),(2,.str []),(3,ii 0)]:=by kernel_rfl
theorem aDv {g:Goal} {ks:List KI} (s:Sta) (h:To E KS g (.code ks [(1,.ptr s.cs),(2,.str []),(3,ii 0)] (aGn s))):To E KS g (.code ks [(1,.ref 0 0),(2,.str []),(3,ii 0)] (enB s)):=by
 refine To.frz [1] [0] ?_
 rw [aGm,aDw]
 exact h
def aGl (s:Sta):List UInt8:=if xF s=true then eZ s else []
theorem aBD (s:Sta) (o:s.c.sm) (hs:Sm s.run) (l:xF s=true->Wr s):aA Tryz.prog 17 [s.av] [] (.ret (.tup [.str (aGl s),ii (if xF s=true then 0 else 1)])) []:=by
 have a:=qC s o hs
 unfold aGl
 cases i:xF s with
 | false=>
  rw [i] at a
  have a:aA Tryz.prog 9 [s.av] [] (.ret (ii 1)) []:=a
  show aA _ _ _ _ (.ret (.tup [.str [],ii 1])) _
  refine c_ Tryz.f17 fun _=>?_
  repeat' first | (refine gN hE ?_;conv=>whnf) | refine .pure _ [] a ?_ | exact rfl | refine aY ?_ | refine aN ?_ | refine aT fun h=>?_ | refine aF fun h=>?_ | refine ⟨fun h=>?_,fun h=>?_⟩ | refine aJ ?_ | refine ⟨_,rfl,?_⟩ | refine aD ?_ | fail
 | true=>
  rw [i] at a
  have a:aA Tryz.prog 9 [s.av] [] (.ret (ii 0)) []:=a
  show aA _ _ _ _ (.ret (.tup [.str (eZ s),ii 0])) _
  have w:=l i
  have d:aA Tryz.prog 49 [s.cmd.av] [] (.ret (.tup [.str (pK s),ii (C8.chk s.cmd)])) []:=C8.enc_ok s.cmd
  have b:(fv s.hist).length=s.hist.length:=by simp
  have m:=w.con
  have r:=w.his
  obtain ⟨n1,n2,u,t⟩:=w.nums
  have h1:=SW.nums_fresh ((pK s).length:Int) o_
  rw [Cl] at h1
  have v:(C8.putN (pK s).length).length<=10:=by
   have:=C8.pn_len (n:=((pK s).length:Int)) o_
   rw [Cl] at this
   omega
  have k:=SW.ws_ok (C8.putN (pK s).length) (pK s) o_
  have hm:∀ n∈[s.now,s.nxt,(s.hist.length:Int)],n<=9223372036854775807:=fun n p=>by simp at p;omega
  have q:=C8.pl_len hm
  simp only [Ba,Ck] at q
  have h3:=SW.nums_ok [s.now,s.nxt,(s.hist.length:Int)] s_ hm s_ (C8.putN (pK s).length++pK s) q_
  have j:eZ s≠[]:=by
   intro h
   have:=congrArg Js h
   unfold eZ at this
   have e:C8.pl [s.now,s.nxt,(s.hist.length:Int)]≠[]:=C8.pl_ne _ _
   have:=Fz.2 e
   simp only [Ar,Ck] at *
   omega
  have next:=aDt s w (eZ s) j s.hist.length 0 (C8.putN (pK s).length++pK s++C8.pl [s.now,s.nxt,(s.hist.length:Int)]) o_ (by simp only [Ar];omega) (by unfold eZ;simp only [Cn,Aj])
  rw [<-b] at h3
  rw [<-b] at next
  generalize pK s=C at d h1 k h3 next
  generalize eZ s=B at next
  generalize C8.chk s.cmd=ck at d
  refine c_ Tryz.f17 fun _=>?_
  refine bV hE 13 ?_;conv=>whnf
  refine To.cutC [1,2,3] 1 rfl rfl rfl rfl ?_
  refine aDv s ?_
  refine gV ?_
  refine .pure _ [] a ?_
  refine gV ?_
  refine Ad (fun h=>absurd h d_) (fun _=>?_)
  refine gV ?_
  refine .pure _ [] d ?_
  refine gV ?_
  refine .eff [] [1] _ _ rfl (aA.strip h1) ?_
  refine gV ?_
  refine .eff [] [1,2] _ _ rfl k ?_
  refine gV ?_
  refine .eff [] [1,2] _ _ rfl (aA.strip h3) ?_
  refine gV ?_
  refine To.part [1,7,49,50,51] [1,2] rfl rfl rfl ?_
  exact next
open C8 (leN NI AQ C9)
set_option maxRecDepth 10000
def GT (l:List UInt8):AVal:=if l.length<8 then .tup [.int .u64 0,.int .i64 0,.int .i64 10] else .tup [.int .u64 (leN (l.take 8)),.int .i64 8,.int .i64 0]
noncomputable abbrev fGF:Func:=Tryz.f130
theorem T2 (l:List UInt8) (hl:8<=l.length):∀ (f i:Nat),i+f=8->
  To E fGF (.pure (.ret (.tup [.int .u64 (leN (l.take 8)),.int .i64 8,.int .i64 0]))) (.head (stk fGF 0) [(0,.str l),(5,.int .u64 (leN (l.take i))),(10,.int .i64 i)] []):=by
 intro f
 induction f with
 | zero=>
  intro i k
  have e:i=8:=o_
  subst e
  refine gV ?_
  refine aF fun h=>?_
  repeat' first | (refine gN hE ?_;conv=>whnf) | exact rfl | refine aY ?_ | refine aN ?_ | refine aT fun h=>?_ | refine aF fun h=>?_ | refine ⟨fun h=>?_,fun h=>?_⟩ | refine aJ ?_ | refine ⟨_,rfl,?_⟩ | refine aD ?_ | fail
 | succ f j=>
  intro i k
  obtain ⟨c,d⟩:∃ c,l[i]? =some c:=⟨l[i]' o_,Aa o_⟩
  have m:c.toNat<256:=c.toNat_lt
  have a:=NI (l.take i)
  rw [Es,Fh o_] at a
  have o:2 ^ (8*(i+1))=256*2 ^ (8*i):=by rw [Ik,Ha];omega
  have p:c.toNat*2 ^ (8*i)<=255*2 ^ (8*i):=Bq _ o_
  have q:2 ^ (8*(i+1))<=2 ^ 64:=Ep d_ o_
  have b:(8*(i:Int)).toNat=8*i:=o_
  have g:(c.toNat:Int)*2 ^ (8*i)=((c.toNat*2 ^ (8*i):Nat):Int):=by simp
  have n:fQ .or .u64 (leN (l.take i):Int) ((c.toNat*2 ^ (8*i):Nat):Int)=((leN (l.take (i+1)):Nat):Int):=by
   rw [tM .u64 _ _ (by simp only [bI];omega) (by simp only [bI];omega),YH a,C9 d,AQ,Es,Fh o_]
  have next:=j (i+1) o_
  refine gV ?_
  refine aT fun h=>?_
  refine gV ?_
  refine ⟨i,rfl,?_⟩
  refine gV ?_
  refine ⟨c,d,?_⟩
  refine gV ?_
  refine Hk (Ad (show inR IntKind.u64 (c.toNat:Int) from qI (by simp only [bI];omega)) ?_)
  refine gV ?_
  refine aJ ?_
  refine gV ?_
  refine Ad (show (0:Int)<=8*(i:Int) by omega) ?_
  refine gV ?_
  refine Hk (Ad (Ad (by rw [b];simp only [IntKind.bits];omega) (by rw [b,g];exact qI (by simp only [bI];omega))) ?_)
  refine gV ?_
  rw [b,g,n]
  refine aJ ?_
  refine gV ?_
  refine To.part [0,5,10] [] rfl rfl rfl ?_
  exact next
theorem aC9 (l:List UInt8):aA Tryz.prog 130 [.str l] [] (.ret (GT l)) []:=by
 unfold GT
 by_cases h:l.length<8
 .rw [if_pos h]
  refine c_ Tryz.f130 fun _=>?_
  refine gV ?_
  refine Ad (fun _=>?_) (fun h=>absurd (of_decide_eq_false h) o_)
  repeat' first | (refine gN hE ?_;conv=>whnf) | exact rfl | refine aY ?_ | refine aN ?_ | refine aT fun h=>?_ | refine aF fun h=>?_ | refine ⟨fun h=>?_,fun h=>?_⟩ | refine aJ ?_ | refine ⟨_,rfl,?_⟩ | refine aD ?_ | fail
 .rw [if_neg h]
  have next:=T2 l o_ 8 0 rfl
  refine c_ Tryz.f130 fun _=>?_
  refine gV ?_
  refine Ad (fun h=>absurd (of_decide_eq_true h) o_) (fun _=>?_)
  repeat' first | (refine gN hE ?_;conv=>whnf) | exact rfl | refine aY ?_ | refine aN ?_ | refine aT fun h=>?_ | refine aF fun h=>?_ | refine ⟨fun h=>?_,fun h=>?_⟩ | refine aJ ?_ | refine ⟨_,rfl,?_⟩ | refine aD ?_ | fail
  refine To.part [0,5,10] [] rfl rfl rfl ?_
  exact next
open C8 (leN bQ dR rGan rdO rdU mV uN aV aK bC bG kH iB xM sU bJ eG tRd)
set_option maxRecDepth 10000
abbrev RSt:Type:=Option ((Sta×Bool)×List UInt8)
def Con.nil:Con:=⟨[],[],0,0⟩
def Sta.nil:Sta:=⟨Con.nil,0,0,[],[],[]⟩
def CN:Nat->List Int->List UInt8->Option (List Int×List UInt8)
 | 0,hs,s=>some (hs,s)
 | m+1,hs,s=>match bQ s with
  | none=>none
  | some (h,s)=>CN m (hs++[h]) s
def rR (c:Con) (now nxt:Int) (d:List Nat) (b:List Pn):Nat->List Rn->List UInt8->RSt
 | 0,rs,s=>some ((⟨c,now,nxt,b,rs,d⟩,s==[]),s)
 | m+1,rs,s=>match rGan s with
  | none=>none
  | some (g,s)=>match bQ s with
   | none=>none
   | some (q,s)=>match bQ s with
        | none=>none
        | some (a,s)=>match bQ s with
         | none=>none
         | some (t,s)=>match bQ s with
          | none=>none
          | some (f,s)=>if decide ((s.length:Int)<g.pods)=true then some ((⟨c,now,nxt,b,rs,d⟩,false),s) else match CN g.pods.toNat [] s with
           | none=>none
           | some (hs,s)=>rR c now nxt d b m (rs++[⟨g,q,a,t,f,hs⟩]) s
def rRs (c:Con) (now nxt:Int) (b:List Nat) (a:List Pn) (s:List UInt8):RSt:=match dR s with
 | none=>none
 | some (n,s)=>rR c now nxt b a n.toNat [] s
def rP (c:Con) (now nxt:Int) (b:List Nat):Nat->List Pn->List UInt8->RSt
 | 0,ps,s=>rRs c now nxt b ps s
 | m+1,ps,s=>match rGan s with
  | none=>none
  | some (g,s)=>match bQ s with
   | none=>none
   | some (q,s)=>match bQ s with
        | none=>none
        | some (a,s)=>rP c now nxt b m (ps++[⟨g,q,a⟩]) s
def rPs (c:Con) (now nxt:Int) (a:List Nat) (s:List UInt8):RSt:=match dR s with
 | none=>none
 | some (n,s)=>rP c now nxt a n.toNat [] s
def rH (c:Con) (now nxt:Int):Nat->List Nat->List UInt8->RSt
 | 0,hi,s=>rPs c now nxt hi s
 | m+1,hi,s=>if s.length<8 then some ((⟨c,now,nxt,[],[],hi⟩,false),s) else rH c now nxt m (hi++[leN (s.take 8)]) (s.drop 8)
def rB (c:Con) (s:List UInt8):RSt:=match bQ s with
 | none=>none
 | some (now,s)=>match bQ s with
  | none=>none
  | some (nxt,s)=>match dR s with
   | none=>none
   | some (n,s)=>rH c now nxt n.toNat [] s
def rSt (s:List UInt8):RSt:=match dR s with
 | none=>none
 | some (n,s)=>match C8.dec (s.take n.toNat) with
  | none=>some ((Sta.nil,false),s)
  | some x=>if x.k=1 then rB x.c (s.drop n.toNat) else some ((Sta.nil,false),s)
def stR (p:Sta×Bool):AVal:=.tup [p.1.av,.bool p.2]
noncomputable abbrev fRd:Func:=Tryz.f57
abbrev reC (c:Con) (now nxt:Int) (p r h:AVal):List AVal:=[.slice 11 (nav c.ns) .no,.slice 6 (hav c.hs) .no,ii c.half,ii c.age,ii now,ii nxt,p,r,h]
theorem F1 {s s':List UInt8} {g:Gan} (h:rGan s=some (g,s')):s'.length+1<=s.length/\0<=g.pods/\g.pods<=9223372036854775807:=by
 unfold C8.rGan at h
 split at h
 .cases h
 .rename_i h1
  split at h
  .cases h
  .rename_i e
   split at h
   .cases h
   .rename_i h3
    split at h
    .cases h
    .rename_i c
     split at h
     .cases h
     .rename_i f
      split at h
      .cases h
      .rename_i d
       split at h
       .cases h
       .rename_i b
        cases h
        have k:=bJ h1
        have j:=bJ e
        have a:=bJ h3
        have l:=C8.rVec_b c
        have i:=bJ f
        have m:=bJ d
        have n:=bJ b
        exact ⟨by omega,a.1,a.2.1⟩
abbrev reR (c:Con) (now nxt:Int) (hi:List Nat) (ps:List Pn) (rs:List Rn) (s:List UInt8):List AObj:=[.cells tRd [.str s],.cells 31 (reC c now nxt (.slice 11 (pnv ps) .no) (.slice 14 (rav rs) (.own 2 0)) (.slice 1 (fv hi) .no)),.tail 0 14 127]
abbrev reG (g:Gan) (q a t f:Int) (x:AVal):List AVal:=[ii g.id,ii g.ten,ii g.pods,ii g.need.a,ii g.need.b,ii g.need.c,ii g.run,ii g.lev,ii g.pref,ii q,ii a,ii t,ii f,x]
theorem aBX (c:Con) (now nxt:Int) (v:List Nat) (p:List Pn) (b:List Rn) (z:b.length<=1000000) (n:Int) (i:Nat) (D:(i:Int)<9223372036854775807) (g:Gan) (q a t f:Int) (hp:0<=g.pods/\g.pods<=9223372036854775807) (r:Res) (O:List AObj) (m:Nat)
  (x:∀ (hs:List Int) (s:List UInt8),s.length<=1000000->b.length+s.length+1<=1000000->hs.length<=1000000->mV stR (rR c now nxt v p m (b++[⟨g,q,a,t,f,hs⟩]) s)=r->uN (rR c now nxt v p m (b++[⟨g,q,a,t,f,hs⟩]) s)=O->
   To E fRd (.full 1 r O) (.head (stk fRd 2) [(0,.ref 0 0),(2,.ref 1 0),(99,.int .i64 n),(100,.int .i64 ((i:Int)+1))] (reR c now nxt v p (b++[⟨g,q,a,t,f,hs⟩]) s))):
  ∀ (k j:Nat) (s:List UInt8) (hs:List Int),(j+k:Int)=g.pods->hs.length+s.length<=1000000->b.length+s.length+1<=1000000->
   mV stR (match CN k hs s with | none=>none | some (hs,s)=>rR c now nxt v p m (b++[⟨g,q,a,t,f,hs⟩]) s)=r->uN (match CN k hs s with | none=>none | some (hs,s)=>rR c now nxt v p m (b++[⟨g,q,a,t,f,hs⟩]) s)=O->
  To E fRd (.full 1 r O) (.head (stk fRd 3) [(0,.ref 0 0),(2,.ref 1 0),(10,.ref 3 0),(99,.int .i64 n),(100,.int .i64 i),(125,ii g.pods),(126,.int .i64 j)]
   (reR c now nxt v p b s++[.cells 127 (reG g q a t f (.slice 1 (iv hs) (.own 4 0))),.tail 0 1 3])):=by
 intro k
 induction k with
 | zero=>
  intro j s hs C hl y d l
  have d:mV stR (rR c now nxt v p m (b++[⟨g,q,a,t,f,hs⟩]) s)=r:=d
  have l:uN (rR c now nxt v p m (b++[⟨g,q,a,t,f,hs⟩]) s)=O:=l
  have w:(rav b).length=b.length:=by simp
  have next:=x hs s o_ y o_ d l
  have e:rav (b++[⟨g,q,a,t,f,hs⟩])=rav b++[Rn.av ⟨g,q,a,t,f,hs⟩]:=by simp
  unfold reR at next
  rw [e] at next
  refine gV ?_
  refine aF fun h=>?_
  repeat' first | (refine gN hE ?_;conv=>whnf) | refine ⟨⟨by simp only [maxLen];simp;omega,by simp;omega⟩,?_⟩ | exact rfl | refine aY ?_ | refine aN ?_ | refine aT fun h=>?_ | refine aF fun h=>?_ | refine ⟨fun h=>?_,fun h=>?_⟩ | refine aJ ?_ | refine ⟨_,rfl,?_⟩ | refine aD ?_ | fail
  refine To.part [0,2,99,100] [0,1,2] rfl rfl rfl ?_
  exact next
 | succ k A=>
  intro j s hs C hl y d l
  unfold CN at d l
  have w:(iv hs).length=hs.length:=by simp
  refine gV ?_
  refine aT fun h=>?_
  refine bV hE 3 ?_;conv=>whnf
  refine To.permAt hE [0,1,2,6] [3,4,5,7] (by rfl) ?_;conv=>whnf
  refine aL ?_;conv=>whnf
  refine aK (o:=bQ s) (fun h1=>?_) (fun ⟨u,B⟩ h1=>?_)
  .simp only [h1] at d l
   have d:Res.pan (aV 10)=r:=d
   have l:rdU=O:=l
   subst d l
   exact zqca11
  simp only [h1] at d l
  refine .eff [] [0] _ _ rfl (bC h1) ?_
  have F:=bJ h1
  have next:=A (j+1) B (hs++[u]) o_ q_ o_ d l
  have e:iv (hs++[u])=iv hs++[ii u]:=by simp
  rw [e] at next;conv=>whnf
  refine aL ?_;conv=>whnf;conv=>whnf
  refine aL ?_;conv=>whnf
  refine ⟨⟨by simp only [maxLen];simp;omega,by simp;omega⟩,?_⟩;conv=>whnf
  refine aL ?_;conv=>whnf;conv=>whnf
  refine aL ?_;conv=>whnf
  refine gV ?_
  refine aJ ?_
  refine gV ?_
  refine To.part [0,2,10,99,100,125,126] [0,1,2,3,4] rfl rfl rfl ?_
  exact next
theorem aBL (c:Con) (now nxt:Int) (k:List Nat) (j:List Pn) (n:Int) (M:n<=9223372036854775807) (r:Res) (O:List AObj):∀ (m i:Nat) (s:List UInt8) (e:List Rn),(i+m:Int)=n->e.length+s.length<=1000000->mV stR (rR c now nxt k j m e s)=r->uN (rR c now nxt k j m e s)=O->
  To E fRd (.full 1 r O) (.head (stk fRd 2) [(0,.ref 0 0),(2,.ref 1 0),(99,.int .i64 n),(100,.int .i64 i)] (reR c now nxt k j e s)):=by
 intro m
 induction m with
 | zero=>
  intro i s e w hl b d
  have b:Res.ret (.tup [Sta.av ⟨c,now,nxt,j,e,k⟩,.bool (s==[])])=r:=b
  have d:rdO s=O:=d
  subst b d
  refine gV ?_
  refine aF fun h=>?_
  refine bV hE 2 ?_;conv=>whnf
  refine To.permAt hE [0,1,2,3,4,5] [6,7] (by rfl) ?_;conv=>whnf
  refine aL ?_;conv=>whnf;conv=>whnf
  refine aL ?_;conv=>whnf;conv=>whnf
  refine aL ?_;conv=>whnf
  refine gV ?_
  exact zqca13
 | succ m A=>
  intro i s e w hl b d
  unfold rR at b d
  have x:(rav e).length=e.length:=by simp
  refine gV ?_
  refine aT fun h=>?_
  refine gV ?_
  refine aK (o:=rGan s) (fun h1=>?_) (fun ⟨g,B⟩ h1=>?_)
  .exact zqca29
  simp only [h1] at b d
  refine .eff [] [0] _ _ rfl (xM h1) ?_
  refine gV ?_
  refine aK (o:=bQ B) (fun u=>?_) (fun ⟨q,D⟩ u=>?_)
  .simp only [u] at b d
   have b:Res.pan (aV 10)=r:=b
   have d:rdU=O:=d
   subst b d
   refine .effp [] [0] _ _ rfl (bG u) ?_
   exact ⟨[],[0],⟨rfl,rfl⟩,rfl,rfl⟩
  simp only [u] at b d
  refine .eff [] [0] _ _ rfl (bC u) ?_
  refine gV ?_
  refine aK (o:=bQ D) (fun h3=>?_) (fun ⟨a,F⟩ h3=>?_)
  .exact zqca43
  simp only [h3] at b d
  refine .eff [] [0] _ _ rfl (bC h3) ?_
  refine gV ?_
  refine aK (o:=bQ F) (fun p=>?_) (fun ⟨t,C⟩ p=>?_)
  .simp only [p] at b d
   have b:Res.pan (aV 10)=r:=b
   have d:rdU=O:=d
   subst b d
   exact zqca50
  simp only [p] at b d
  refine .eff [] [0] _ _ rfl (bC p) ?_
  refine gV ?_
  refine aK (o:=bQ C) (fun l=>?_) (fun ⟨f,y⟩ l=>?_)
  .simp only [l] at b d
   have b:Res.pan (aV 10)=r:=b
   have d:rdU=O:=d
   subst b d
   exact zqca48
  simp only [l] at b d
  refine .eff [] [0] _ _ rfl (bC l) ?_
  have z:=F1 h1
  have L:=bJ u
  have I:=bJ h3
  have N:=bJ p
  have K:=bJ l
  refine gV ?_
  refine Ad (fun v=>?_) (fun v=>?_)
  .rw [if_pos v] at b d
   have b:Res.ret (.tup [Sta.av ⟨c,now,nxt,j,e,k⟩,.bool false])=r:=b
   have d:rdO y=O:=d
   subst b d
   refine gV ?_
   exact zqca13
  .rw [if_neg (by rw [v];decide)] at b d
   refine gV ?_
   refine To.part [0,2,10,99,100,125,126] [0,1,2,3] rfl rfl rfl ?_
   refine To.begin 3 13 3 rfl rfl ?_
   exact aBX c now nxt k j e o_ n i o_ g q a t f z.2 r O m (fun hs s' H J G b d=>A (i+1) s' _ o_ q_ b d) g.pods.toNat 0 y [] o_ q_ o_ b d
abbrev reP (c:Con) (now nxt:Int) (hi:List Nat) (ps:List Pn) (s:List UInt8):List AObj:=[.cells tRd [.str s],.cells 31 (reC c now nxt (.slice 11 (pnv ps) (.own 2 0)) (.slice 14 [] .nil) (.slice 1 (fv hi) .no)),.tail 0 11 78]
theorem aBN (c:Con) (now nxt:Int) (l:List Nat) (n:Int) (C:n<=9223372036854775807) (r:Res) (O:List AObj):∀ (m i:Nat) (s:List UInt8) (f:List Pn),(i+m:Int)=n->f.length+s.length<=1000000->mV stR (rP c now nxt l m f s)=r->uN (rP c now nxt l m f s)=O->
  To E fRd (.full 1 r O) (.head (stk fRd 1) [(0,.ref 0 0),(2,.ref 1 0),(82,.int .i64 n),(83,.int .i64 i)] (reP c now nxt l f s)):=by
 intro m
 induction m with
 | zero=>
  intro i s f u hl b d
  unfold rP rRs at b d
  refine gV ?_
  refine aF fun h=>?_
  refine gV ?_
  refine aK (o:=dR s) (fun h1=>?_) (fun ⟨k,p⟩ h1=>?_)
  .simp only [h1] at b d
   have b:Res.pan (aV 10)=r:=b
   have d:rdU=O:=d
   subst b d
   exact zqca47
  simp only [h1] at b d
  refine .eff [] [0] _ _ rfl (kH h1) ?_
  have w:=eG h1
  refine gV ?_
  refine To.part [0,2,99,100] [0,1] rfl rfl rfl ?_
  refine To.begin 1 7 127 rfl rfl ?_
  exact aBL c now nxt l f k o_ r O k.toNat 0 p [] o_ q_ b d
 | succ m x=>
  intro i s f u hl b d
  unfold rP at b d
  have v:(pnv f).length=f.length:=by simp
  refine gV ?_
  refine aT fun h=>?_
  refine bV hE 3 ?_;conv=>whnf
  refine To.permAt hE [0,1,2,4,6,11] [3,5,7,8,9,10,12] (by rfl) ?_;conv=>whnf
  refine aL ?_;conv=>whnf
  refine aK (o:=rGan s) (fun h1=>?_) (fun ⟨g,p⟩ h1=>?_)
  .exact zqca29
  simp only [h1] at b d
  refine .eff [] [0] _ _ rfl (xM h1) ?_;conv=>whnf
  refine aL ?_;conv=>whnf
  refine aK (o:=bQ p) (fun j=>?_) (fun ⟨q,y⟩ j=>?_)
  .simp only [j] at b d
   have b:Res.pan (aV 10)=r:=b
   have d:rdU=O:=d
   subst b d
   exact zqca52
  simp only [j] at b d
  refine .eff [] [0] _ _ rfl (bC j) ?_;conv=>whnf
  refine aL ?_;conv=>whnf
  refine aK (o:=bQ y) (fun h3=>?_) (fun ⟨a,z⟩ h3=>?_)
  .exact zqca43
  simp only [h3] at b d
  refine .eff [] [0] _ _ rfl (bC h3) ?_;conv=>whnf
  refine aL ?_;conv=>whnf;conv=>whnf
  refine aL ?_;conv=>whnf;conv=>whnf
  refine aL ?_;conv=>whnf
  refine ⟨⟨by simp only [maxLen];simp;omega,by simp;omega⟩,?_⟩;conv=>whnf
  refine aL ?_;conv=>whnf;conv=>whnf
  refine aL ?_;conv=>whnf
  refine gV ?_
  refine aJ ?_
  refine gV ?_
  refine To.part [0,2,82,83] [0,1,2] rfl rfl rfl ?_
  have w:=F1 h1
  have B:=bJ j
  have A:=bJ h3
  have next:=x (i+1) z (f++[⟨g,q,a⟩]) o_ q_ b d
  have e:pnv (f++[⟨g,q,a⟩])=pnv f++[Pn.av ⟨g,q,a⟩]:=by simp
  unfold reP at next
  rw [e] at next
  exact next
abbrev reH (c:Con) (now nxt:Int) (hi:List Nat) (s:List UInt8):List AObj:=[.cells tRd [.str s],.cells 31 (reC c now nxt (.slice 11 [] .nil) (.slice 14 [] .nil) (.slice 1 (fv hi) (.own 2 0))),.tail 0 1 123]
theorem aBW (c:Con) (now nxt:Int) (n:Int) (v:n<=9223372036854775807) (r:Res) (O:List AObj):∀ (m i:Nat) (s:List UInt8) (d:List Nat),(i+m:Int)=n->d.length+s.length<=1000000->mV stR (rH c now nxt m d s)=r->uN (rH c now nxt m d s)=O->
  To E fRd (.full 1 r O) (.head (stk fRd 0) [(0,.ref 0 0),(2,.ref 1 0),(50,.int .i64 n),(51,.int .i64 i)] (reH c now nxt d s)):=by
 intro m
 induction m with
 | zero=>
  intro i s d g hl a b
  unfold rH rPs at a b
  refine gV ?_
  refine aF fun h=>?_
  refine gV ?_
  refine aK (o:=dR s) (fun h1=>?_) (fun ⟨k,q⟩ h1=>?_)
  .exact zqca15
  simp only [h1] at a b
  refine .eff [] [0] _ _ rfl (kH h1) ?_
  have u:=eG h1
  refine gV ?_
  refine To.part [0,2,82,83] [0,1] rfl rfl rfl ?_
  refine To.begin 1 6 78 rfl rfl ?_
  exact aBN c now nxt d k o_ r O k.toNat 0 q [] o_ q_ a b
 | succ m p=>
  intro i s d g hl a b
  unfold rH at a b
  have l:(fv d).length=d.length:=by simp
  have f:=aC9 s
  unfold GT at f
  by_cases j:s.length<8
  .rw [if_pos j] at a b f
   have a:Res.ret (.tup [Sta.av ⟨c,now,nxt,[],[],d⟩,.bool false])=r:=a
   have b:rdO s=O:=b
   subst a b
   refine gV ?_
   refine aT fun h=>?_
   refine gV ?_
   refine .pure _ [] f ?_
   exact zqca38
  .rw [if_neg j] at a b f
   have next:=p (i+1) (s.drop 8) (d++[leN (s.take 8)]) o_ q_ a b
   have e:fv (d++[leN (s.take 8)])=fv d++[.int .u64 ((leN (s.take 8):Nat):Int)]:=by simp
   unfold reH at next
   rw [e] at next
   refine gV ?_
   refine aT fun h=>?_
   refine gV ?_
   refine .pure _ [] f ?_
   refine gV ?_
   refine Ad (fun h=>absurd h d_) (fun _=>?_)
   refine gV ?_
   refine ⟨8,rfl,?_⟩
   refine gV ?_
   refine ⟨by omega,?_⟩
   refine gV ?_
   refine ⟨⟨by simp only [maxLen];simp;omega,by simp;omega⟩,?_⟩
   refine gV ?_
   refine aJ ?_
   refine gV ?_
   refine To.part [0,2,50,51] [0,1,2] rfl rfl rfl ?_
   exact next
theorem IU (s:List UInt8) (hs:s.length<=1000000) (r:Res) (O:List AObj) (a:mV stR (rSt s)=r) (b:uN (rSt s)=O):aA Tryz.prog 57 [.ref 0 0] (rdO s) r O:=by
 unfold rSt at a b
 refine cT (E:=E) (fn:=Tryz.f57) (g:=.full 1 _ _) fun _=>?_
 refine gV ?_
 refine aK (o:=dR s) (fun h1=>?_) (fun ⟨n,e⟩ h1=>?_)
 .exact zqca15
 simp only [h1] at a b
 refine .eff [] [0] _ _ rfl (kH h1) ?_
 have w:=eG h1
 have d:=C8.decode_ok (e.take n.toNat) q_
 unfold C8.decX C8.decE at d
 have i:n=((n.toNat:Nat):Int):=o_
 refine aK (o:=C8.dec (e.take n.toNat)) (fun p=>?_) (fun x p=>?_)
 .simp only [p] at a b d
  have d:aA Tryz.prog 128 [.str (e.take n.toNat)] [] (.ret (.tup [Cmd.zero.av,ii 10])) []:=d
  have a:Res.ret (.tup [Sta.av Sta.nil,.bool false])=r:=a
  have b:rdO e=O:=b
  subst a b
  refine gV ?_
  refine ⟨n.toNat,i,?_⟩
  refine gV ?_
  refine ⟨by omega,?_⟩
  refine gV ?_
  refine .pure _ [] d ?_
  refine gV ?_
  refine Ad (fun _=>?_) (fun h=>absurd h d_)
  exact zqca38
 .simp only [p] at a b d
  have d:aA Tryz.prog 128 [.str (e.take n.toNat)] [] (.ret (.tup [x.av,ii 0])) []:=d
  by_cases m:x.k=1
  .rw [if_pos m] at a b
   unfold rB at a b
   refine gV ?_
   refine ⟨n.toNat,i,?_⟩
   refine gV ?_
   refine ⟨by omega,?_⟩
   refine gV ?_
   refine .pure _ [] d ?_
   refine gV ?_
   refine Ad (fun h=>absurd h d_) (fun _=>?_)
   refine gV ?_
   refine Ad (fun h=>absurd h (by simp [m])) (fun _=>?_)
   refine gV ?_
   refine ⟨n.toNat,i,?_⟩
   refine gV ?_
   refine ⟨by omega,?_⟩
   refine bV hE 13 ?_;conv=>whnf
   refine To.permAt hE [0,1,2,4,6,8,10] [3,5,7,9,11] (by rfl) ?_;conv=>whnf
   refine aL ?_;conv=>whnf
   refine aK (o:=bQ (e.drop n.toNat)) (fun h3=>?_) (fun ⟨now,u⟩ h3=>?_)
   .simp only [h3] at a b
    have a:Res.pan (aV 10)=r:=a
    have b:rdU=O:=b
    subst a b
    exact zqca10
   simp only [h3] at a b
   refine .eff [] [0] _ _ rfl (bC h3) ?_
   have z:=bJ h3;conv=>whnf
   refine aL ?_;conv=>whnf
   refine aK (o:=bQ u) (fun l=>?_) (fun ⟨nxt,v⟩ l=>?_)
   .simp only [l] at a b
    have a:Res.pan (aV 10)=r:=a
    have b:rdU=O:=b
    subst a b
    exact zqca48
   simp only [l] at a b
   refine .eff [] [0] _ _ rfl (bC l) ?_
   have C:=bJ l;conv=>whnf
   refine aL ?_;conv=>whnf;conv=>whnf
   refine aL ?_;conv=>whnf;conv=>whnf
   refine aL ?_;conv=>whnf;conv=>whnf
   refine aL ?_;conv=>whnf
   refine gV ?_
   refine aK (o:=dR v) (fun j=>?_) (fun ⟨k,q⟩ j=>?_)
   .simp only [j] at a b
    have a:Res.pan (aV 10)=r:=a
    have b:rdU=O:=b
    subst a b
    refine .effp [] [0] _ _ rfl (iB j) ?_
    exact ⟨[],[0],⟨rfl,rfl⟩,rfl,rfl⟩
   simp only [j] at a b
   refine .eff [] [0] _ _ rfl (kH j) ?_
   have B:=eG j
   have y:(e.drop n.toNat).length<=e.length:=by simp
   refine gV ?_
   refine To.part [0,2,50,51] [0,1] rfl rfl rfl ?_
   refine To.begin 1 8 123 rfl rfl ?_
   exact aBW x.c now nxt k o_ r O k.toNat 0 q [] o_ q_ a b
  .rw [if_neg m] at a b
   have a:Res.ret (.tup [Sta.av Sta.nil,.bool false])=r:=a
   have b:rdO e=O:=b
   subst a b
   refine gV ?_
   refine ⟨n.toNat,i,?_⟩
   refine gV ?_
   refine ⟨by omega,?_⟩
   refine gV ?_
   refine .pure _ [] d ?_
   refine gV ?_
   refine Ad (fun h=>absurd h d_) (fun _=>?_)
   refine gV ?_
   refine Ad (fun _=>?_) (fun h=>absurd h (by simp [m]))
   refine To.loose ?_
   refine gV ?_
   exact zqca13
theorem aB4 {s s':List UInt8} (hs:s.length<=1000000) {x:Sta} {b:Bool} (h:rSt s=some ((x,b),s')):aA Tryz.prog 57 [.ref 0 0] (rdO s) (.ret (.tup [x.av,.bool b])) (rdO s'):=IU s hs _ _ (by rw [h];rfl) (by rw [h];rfl)
theorem XK {s:List UInt8} (hs:s.length<=1000000) (h:rSt s=none):aA Tryz.prog 57 [.ref 0 0] (rdO s) (.pan (aV 10)) rdU:=IU s hs _ _ (by rw [h];rfl) (by rw [h];rfl)
open C8 (bQ dR rGan rdO rdU aV aK bJ eG tRd)
set_option maxRecDepth 10000
abbrev zSt:List AVal:=[.slice 11 [] .nil,.slice 6 [] .nil,ii 0,ii 0,ii 0,ii 0,.slice 11 [] .nil,.slice 14 [] .nil,.slice 1 [] .nil]
abbrev deO (s:List UInt8):List AObj:=[.cells 9 [.str s],.cells 31 zSt,.cells 4 [.bool false]]
abbrev deX (s:List UInt8) (x:Sta) (b:Bool):List AObj:=[.cells 9 [.str s],.cells 31 x.cs,.cells 4 [.bool b]]
abbrev deU:List AObj:=rD (fun _=>.undef) (deO [])
theorem aGx {s s':List UInt8} (hs:s.length<=1000000) {x:Sta} {b:Bool} (h:rSt s=some ((x,b),s')):aA Tryz.prog 56 [.ref 0 0,.ref 1 0,.ref 2 0] (deO s) (.ret (.tup [])) (deX s x b):=by
 refine cT (E:=E) (fn:=Tryz.f56) (g:=.full 3 _ _) fun _=>?_
 refine gV ?_
 refine .eff [] [3] _ _ rfl (aB4 hs h) ?_
 refine gV ?_
 exact zqca8
theorem aDM {s:List UInt8} (hs:s.length<=1000000) (h:rSt s=none):aA Tryz.prog 56 [.ref 0 0,.ref 1 0,.ref 2 0] (deO s) (.pan (aV 10)) deU:=by
 refine aA.blur (obs':=deO s) ?_
 refine cT (E:=E) (fn:=Tryz.f56) (g:=.full 3 _ _) fun _=>?_
 refine gV ?_
 refine .effp [] [3] _ _ rfl (XK hs h) ?_
 exact zqca8
abbrev dV:AVal:=.func (.func 56) [] [.ref 0 0,.ref 1 0,.ref 2 0]
theorem aBx {s s':List UInt8} (hs:s.length<=1000000) {x:Sta} {b:Bool} (h:rSt s=some ((x,b),s')):aA Tryz.prog 55 [dV] (deO s) (.ret (ii 0)) (deX s x b):=by
 refine cT (E:=E) (fn:=Tryz.f55) (g:=.full 3 _ _) fun _=>?_
 refine gV ?_
 refine To.defer (f:=103) (args:=[.ref 3 0]) _ rfl rfl ?_
 refine gW C8.hEt ?_;conv=>whnf
 refine .eff [] [0,1,2] _ _ rfl (aGx hs h) ?_
 refine gW C8.hEt ?_;conv=>whnf
 refine To.leave (f:=103) (args:=[.ref 3 0]) [] rfl [] [3] rfl (C8.catch_ret 0) ?_
 exact zqca20
theorem VW {s:List UInt8} (hs:s.length<=1000000) (h:rSt s=none):aA Tryz.prog 55 [dV] (deO s) (.ret (ii 10)) deU:=by
 refine cT (E:=E) (fn:=Tryz.f55) (g:=.full 3 _ _) fun _=>?_
 refine gV ?_
 refine To.defer (f:=103) (args:=[.ref 3 0]) _ rfl rfl ?_
 refine gW C8.hEt ?_;conv=>whnf
 refine .effp [] [0,1,2] _ _ rfl (aDM hs h) ?_;conv=>whnf
 refine To.leave (f:=103) (args:=[.ref 3 0]) [] rfl [] [3] rfl (C8.catch_pan 0 10) ?_
 exact zqca20
theorem XV:∀ (m:Nat) (hs:List Int) (s:List UInt8) (hs':List Int) (s':List UInt8),CN m hs s=some (hs',s')->hs'.length+s'.length<=hs.length+s.length
 | 0,hs,s,hs',s',h=>by cases h;exact Bg _
 | m+1,hs,s,hs',s',h=>by
  unfold CN at h
  split at h
  .cases h
  .rename_i h1
   have b:=bJ h1
   have:=XV m _ _ _ _ h
   simp at this
   omega
theorem aHd (c:Con) (now nxt:Int) (e:List Nat) (d:List Pn) (N:Nat):∀ (m:Nat) (a:List Rn) (s:List UInt8) (x:Sta) (b:Bool) (s':List UInt8),rR c now nxt e d m a s=some ((x,b),s')->a.length+s.length<=N->(∀ y∈a,y.hs.length<=N)->x.c=c/\x.run.length<=N/\∀ y∈x.run,y.hs.length<=N
 | 0,a,s,x,b,s',h,hl,hy=>by cases h;exact ⟨rfl,by show a.length<=N;omega,hy⟩
 | m+1,a,s,x,b,s',h,hl,hy=>by
  unfold rR at h
  split at h
  .cases h
  .rename_i h1
   split at h
   .cases h
   .rename_i k
    split at h
    .cases h
    .rename_i h3
     split at h
     .cases h
     .rename_i i
      split at h
      .cases h
      .rename_i g
       have l:=F1 h1
       have q:=bJ k
       have o:=bJ h3
       have r:=bJ i
       have p:=bJ g
       split at h
       .cases h;exact ⟨rfl,by show a.length<=N;omega,hy⟩
       .split at h
        .cases h
        .rename_i hs' n j
         have f:=XV _ _ _ _ _ j
         simp at f
         refine aHd c now nxt e d N m _ _ x b s' h q_ fun y hm=>?_
         rcases Ay.1 hm with hm | hm
         .exact hy y hm
         .rw [Dd] at hm
          subst hm
          show hs'.length<=N
          omega
theorem aHe (c:Con) (now nxt:Int) (d:List Nat) (N:Nat):∀ (m:Nat) (a:List Pn) (s:List UInt8) (x:Sta) (b:Bool) (s':List UInt8),rP c now nxt d m a s=some ((x,b),s')->s.length<=N->x.c=c/\x.run.length<=N/\∀ y∈x.run,y.hs.length<=N
 | 0,a,s,x,b,s',h,hl=>by
  unfold rP rRs at h
  split at h
  .cases h
  .rename_i h1
   have e:=eG h1
   exact aHd c now nxt d a N _ _ _ x b s' h q_ fun y g=>by cases g
 | m+1,a,s,x,b,s',h,hl=>by
  unfold rP at h
  split at h
  .cases h
  .rename_i h1
   split at h
   .cases h
   .rename_i f
    split at h
    .cases h
    .rename_i h3
     have e:=F1 h1
     have j:=bJ f
     have i:=bJ h3
     exact aHe c now nxt d N m _ _ x b s' h o_
theorem aHg (c:Con) (now nxt:Int) (N:Nat):∀ (m:Nat) (a:List Nat) (s:List UInt8) (x:Sta) (b:Bool) (s':List UInt8),rH c now nxt m a s=some ((x,b),s')->s.length<=N->x.c=c/\x.run.length<=N/\∀ y∈x.run,y.hs.length<=N
 | 0,a,s,x,b,s',h,hl=>by
  unfold rH rPs at h
  split at h
  .cases h
  .rename_i h1
   have e:=eG h1
   exact aHe c now nxt a N _ _ _ x b s' h o_
 | m+1,a,s,x,b,s',h,hl=>by
  unfold rH at h
  split at h
  .cases h;exact ⟨rfl,Bt _,fun y d=>by cases d⟩
  .exact aHg c now nxt N m _ _ x b s' h q_
theorem aHc {s s':List UInt8} {x:Sta} {b:Bool} (h:rSt s=some ((x,b),s')) (hl:s.length<=1000000):x.c.sm/\Sm x.run:=by
 unfold rSt at h
 split at h
 .cases h
 .rename_i n q h1
  have p:=eG h1
  split at h
  .cases h
   exact ⟨⟨Bt _,Bt _⟩,Bt _,fun y e=>by cases e⟩
  .rename_i y a
   have d:C8.chk y=0:=by
    unfold C8.dec at a
    split at a
    .split at a
     .rename_i f
      cases a
      exact f.2
     .cases a
    .cases a
   have T:=C8.chk_told d
   have g:=T.ln
   have k:=T.lh
   simp only [Cw] at g k
   split at h
   .unfold rB at h
    split at h
    .cases h
    .rename_i h3
     split at h
     .cases h
     .rename_i o
      split at h
      .cases h
      .rename_i l
       have j:=bJ h3
       have u:=bJ o
       have t:=eG l
       simp only [Fo] at j
       obtain ⟨i,r,m⟩:=aHg y.c _ _ 1000000 _ _ _ x b s' h o_
       rw [i]
       exact ⟨⟨by omega,by omega⟩,by omega,fun z hz=>by have:=m z hz;omega⟩
   .cases h
    exact ⟨⟨Bt _,Bt _⟩,Bt _,fun y e=>by cases e⟩
def aAE (s:List UInt8):Option Sta:=match rSt s with
 | some ((x,b),_)=>if b=true/\xF x=true then some x else none
 | none=>none
def PJ (s:List UInt8):Sta:=(aAE s).getD Sta.nil
def aDK (s:List UInt8):Int:=match aAE s with | some _=>0 | none=>10
theorem PI (s:List UInt8) (hs:s.length<=1000000):aA Tryz.prog 18 [.str s] [] (.ret (.tup [(PJ s).av,ii (aDK s)])) []:=by
 unfold PJ aDK aAE
 refine c_ Tryz.f18 fun _=>?_
 refine gV ?_
 refine aK (o:=rSt s) (fun h=>?_) (fun ⟨⟨x,b⟩,s'⟩ h=>?_)
 .simp only [h]
  refine .eff [] [0,2,3] _ _ rfl (VW hs h) ?_
  repeat' first | (refine gN hE ?_;conv=>whnf) | exact rfl | refine aY ?_ | refine aN ?_ | refine aT fun h=>?_ | refine aF fun h=>?_ | refine ⟨fun h=>?_,fun h=>?_⟩ | refine aJ ?_ | refine ⟨_,rfl,?_⟩ | refine aD ?_ | fail
 .obtain ⟨e,d⟩:=aHc h hs
  have a:=qC x e d
  simp only [h]
  refine .eff [] [0,2,3] _ _ rfl (aBx hs h) ?_
  cases b with
  | false=>
   rw [if_neg (fun q=>absurd q.1 d_)]
   repeat' first | (refine gN hE ?_;conv=>whnf) | exact rfl | refine aY ?_ | refine aN ?_ | refine aT fun h=>?_ | refine aF fun h=>?_ | refine ⟨fun h=>?_,fun h=>?_⟩ | refine aJ ?_ | refine ⟨_,rfl,?_⟩ | refine aD ?_ | fail
  | true=>
   cases c:xF x with
   | false=>
    rw [c] at a
    have a:aA Tryz.prog 9 [x.av] [] (.ret (ii 1)) []:=a
    rw [if_neg (fun q=>absurd q.2 d_)]
    repeat' first | (refine gN hE ?_;conv=>whnf) | refine .pure _ [] a ?_ | exact rfl | refine aY ?_ | refine aN ?_ | refine aT fun h=>?_ | refine aF fun h=>?_ | refine ⟨fun h=>?_,fun h=>?_⟩ | refine aJ ?_ | refine ⟨_,rfl,?_⟩ | refine aD ?_ | fail
   | true=>
    rw [c] at a
    have a:aA Tryz.prog 9 [x.av] [] (.ret (ii 0)) []:=a
    rw [if_pos ⟨rfl,rfl⟩]
    repeat' first | (refine gN hE ?_;conv=>whnf) | refine .pure _ [] a ?_ | exact rfl | refine aY ?_ | refine aN ?_ | refine aT fun h=>?_ | refine aF fun h=>?_ | refine ⟨fun h=>?_,fun h=>?_⟩ | refine aJ ?_ | refine ⟨_,rfl,?_⟩ | refine aD ?_ | fail
end Go.Proofs.YticlgfdibfobdaaGreat
