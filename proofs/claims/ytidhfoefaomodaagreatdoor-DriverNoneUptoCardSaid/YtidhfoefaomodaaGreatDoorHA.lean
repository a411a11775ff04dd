/- Part 6 of what the statement rests on. -/
import Derived.Test.YtidhfoefaomodaaGreatDoorProg
import Derived.Shelf.Sort.Plain
import Derived.Shelf.Slices.In.SortNone
import Derived.Test.YtidhfoefaomodaaGreatDoorWE
set_option linter.all false
set_option maxHeartbeats 1000000
open And renaming intro->Ac
open Bool renaming false_and->Fj,false_eq_true->Cp,true_and->Cy
open Exists renaming intro->Ao
open Int renaming tdiv->Ly,toNat_natCast->Bt,toNat_of_nonneg->Ky
open List renaming all_cons->Kd,append_assoc->Af,append_nil->Av,drop->Hi,drop_eq_getElem_cons->Ae,drop_eq_nil_of_le->Ah,drop_zero->Ci,filter_cons_of_neg->Fs,filter_cons_of_pos->Ft,flatMap_cons->Jm,foldl_cons->Ba,getElem?_append_right->Ak,getElem?_eq_getElem->Aa,getElem?_eq_none->Bk,getElem?_eq_some_iff->Ab,getElem?_map->Bf,getElem_mem->Bh,length->Lm,length_append->Ai,length_cons->Al,length_filter_le->Ie,length_map->Ch,length_mergeSort->Mu,length_nil->Br,length_replicate->Gz,map_append->Bm,map_cons->Bl,map_map->Dx,map_set->Gr,mem_append->Az,mem_cons->Bb,mem_filter->Fm,mem_map->Ca,mem_or_eq_of_mem_set->Df,nil_append->Bn,pairwise_cons->Cv,range->Di,range'->Il,range'_succ->Lz,range_eq_range'->Im,range_succ->Mp,replicate->Aj,replicate_succ->Kz,set_append_right->Gy,take->Ia,take_append_of_le_length->Dc,take_of_length_le->Cf
open List.cons renaming injEq->Kv
open Nat renaming ble->Fw,div_le_self->Hb,le_refl->Bc,le_trans->Cz,mul_le_mul->Gj,zero_le->Bv
open Option renaming map_eq_some_iff->Cd
open Or renaming inl->Gd
namespace Go.Proofs.YtidhfoefaomodaaGreatDoor
open Go Go.AW Go.Proofs
def zqha0 {P:Prop} (h:P:=by
 unfold P6 at hp;by_cases f:x=t
 .rw [if_pos (decide_eq_true f)] at hp;refine gV ?_;refine To.beginR (k:=7) (gg:=0) rfl rfl e ?_
  repeat' first | (refine gN (hEl k [] [] []) ?_;conv=>whnf) | refine .pure _ [] (IL c a need x d) ?_ | refine .pure _ [] (A2 c b a need t x) ?_ | exact ⟨⟨rfl,rfl⟩,⟨rfl,rfl⟩⟩ | exact rfl | (refine zt ?_;try intro h) | refine zu (λ h=>?_) λ h=>?_ | fail
  all_goals (exfalso;simp_all)
 .rw [if_neg (by rw [decide_eq_false f];decide)] at hp;refine gV ?_;refine To.beginR (k:=7) (gg:=0) rfl rfl e ?_
  repeat' first | (refine gN (hEl k [] [] []) ?_;conv=>whnf) | refine .pure _ [] (IL c a need x d) ?_ | refine .pure _ [] (A2 c b a need t x) ?_ | exact ⟨⟨rfl,rfl⟩,⟨rfl,rfl⟩⟩ | exact rfl | (refine zt ?_;try intro h) | refine zu (λ h=>?_) λ h=>?_ | fail
  all_goals (exfalso;simp_all)):P:=h
def zqha1 {P:Prop} (h:P:=by
 refine gV ?_;refine ⟨i,rfl,?_⟩;refine gV ?_;refine ⟨by omega,?_⟩;refine gV ?_;refine ⟨by omega,?_⟩
 exact zW):P:=h
def zqha2 {P:Prop} (h:P:=by
 refine ⟨ii n,1,?_⟩;refine gV ?_
 exact zW):P:=h
def zqha3 {P:Prop} (h:P:=by
 refine gV ?_;refine To.beginR (k:=4) (gg:=0) rfl rfl b ?_
 exact zW):P:=h
def zqha4 {P:Prop} (h:P:=by
 have c:(iv a).length=a.length:=by simp
 have e:iv (a++[x])=iv a++[ii x]:=by simp
 unfold sU;rw [e];refine gV ?_;refine To.beginR (k:=2) (gg:=0) rfl rfl b ?_
 exact zW):P:=h
def zqha5 {P:Prop} (h:P:=by
 rw [<-hs] at ao
 refine gV ?_;refine aT λ h=>?_;refine gV ?_;refine ⟨i,rfl,?_⟩;refine gV ?_;refine ⟨_,g,?_⟩
 exact zqha1):P:=h
def zqha6 {P:Prop} (h:P:=by
 have hl:=BQ a k 0;have b:k=N:=o_;subst b;have e:rp a k 0=iv (Aj k a):=by simp [rp]
 rw [e] at hl⊢;refine gV ?_
 exact zW):P:=h
def zqha7 {P:Prop} (h:P:=by
 refine c_ Tryz.f58 λ_=>?_;refine gV ?_;refine .inr ?_
 exact zW):P:=h
def zqha8 {P:Prop} (h:P:=by exact c_ Tryz.f16 λ_=>zW):P:=h
def zqha9 {P:Prop} (h:P:=by
 refine gV ?_;refine .sole rfl (.eff [] [0,1] _ _ rfl (put_ok c x _ L) ?_)
 exact zW):P:=h
def zqha10 {P:Prop} (h:P:=by
 rw [if_pos (show (some x).isSome=true from rfl)] at a;subst a
 exact zW):P:=h
def zqha11 {P:Prop} (h:P:=by exact c_ Tryz.f187 λ_=>zW):P:=h
abbrev _root_.ar:=aA Tryz.prog
noncomputable def T0:Tab:=[
 (3,.mk (.int .i64) 1 false (.int .i64 0)),
 (4,.mk .bool 1 false (.bool false)),
 (43,.mk (.arr 3 1 false) 3 true (.agg [.int .i64 0,.int .i64 0,.int .i64 0])),
 (26,.mk (.strct [(0,1,false),(1,1,false),(2,1,false),(3,1,false)]) 4 true (.agg [.slice 11 [] .nil,.slice 6 [] .nil,.int .i64 0,.int .i64 0])),
 (23,.mk (.slc 179 11 88) 1 false (.slice 11 [] .nil)),
 (179,.mk (.strct [(0,1,false),(1,1,false),(2,3,true),(5,3,true),(8,3,true)]) 11 true (.agg [.int .i64 0,.int .i64 0,.int .i64 0,.int .i64 0,.int .i64 0,.int .i64 0,.int .i64 0,.int .i64 0,.int .i64 0,.int .i64 0,.int .i64 0])),
 (48,.mk (.slc 3 1 8) 1 false (.slice 1 [] .nil)),
 (115,.mk (.slc 43 3 24) 1 false (.slice 3 [] .nil)),
 (45,.mk (.strct [(0,1,false),(1,1,false),(2,1,false),(3,3,true),(6,1,false),(7,1,false),(8,1,false)]) 9 true (.agg [.int .i64 0,.int .i64 0,.int .i64 0,.int .i64 0,.int .i64 0,.int .i64 0,.int .i64 0,.int .i64 0,.int .i64 0])),
 (28,.mk (.slc 107 14 128) 1 false (.slice 14 [] .nil)),
 (107,.mk (.strct [(0,9,true),(9,1,false),(10,1,false),(11,1,false),(12,1,false),(13,1,false)]) 14 true (.agg [.int .i64 0,.int .i64 0,.int .i64 0,.int .i64 0,.int .i64 0,.int .i64 0,.int .i64 0,.int .i64 0,.int .i64 0,.int .i64 0,.int .i64 0,.int .i64 0,.int .i64 0,.slice 1 [] .nil])),
 (24,.mk (.slc 182 6 48) 1 false (.slice 6 [] .nil)),
 (182,.mk (.strct [(0,1,false),(1,1,false),(2,1,false),(3,3,true)]) 6 true (.agg [.int .i64 0,.int .i64 0,.int .i64 0,.int .i64 0,.int .i64 0,.int .i64 0])),
 (1,.mk .other 1 false .nilfunc),
 (5,.mk (.int .u8) 1 false (.int .u8 0)),
 (6,.mk (.int .u8) 1 false (.int .u8 0)),
 (8,.mk (.strct [(0,1,false),(1,1,false),(2,1,false),(3,1,false)]) 4 true (.agg [.int .i64 0,.int .i64 0,.bool false,.int .u8 0])),
 (9,.mk .str 1 false (.str [])),
 (11,.mk .str 1 false (.str [])),
 (14,.mk (.strct [(0,1,false),(1,1,false)]) 2 true (.agg [.str [],.int .u64 0])),
 (16,.mk (.ptr 421) 1 false .nilptr),
 (17,.mk (.ptr 428) 1 false .nilptr),
 (20,.mk .iface 1 false .nilif),
 (27,.mk (.slc 47 11 88) 1 false (.slice 11 [] .nil)),
 (29,.mk (.slc 130 1 8) 1 false (.slice 1 [] .nil)),
 (31,.mk (.strct [(0,4,true),(4,1,false),(5,1,false),(6,1,false),(7,1,false),(8,1,false)]) 9 true (.agg [.slice 11 [] .nil,.slice 6 [] .nil,.int .i64 0,.int .i64 0,.int .i64 0,.int .i64 0,.slice 11 [] .nil,.slice 14 [] .nil,.slice 1 [] .nil])),
 (35,.mk (.slc 41 3 24) 1 false (.slice 3 [] .nil)),
 (41,.mk (.strct [(0,1,false),(1,1,false),(2,1,false)]) 3 true (.agg [.int .i64 0,.int .i64 0,.int .i64 0])),
 (47,.mk (.strct [(0,9,true),(9,1,false),(10,1,false)]) 11 true (.agg [.int .i64 0,.int .i64 0,.int .i64 0,.int .i64 0,.int .i64 0,.int .i64 0,.int .i64 0,.int .i64 0,.int .i64 0,.int .i64 0,.int .i64 0])),
 (53,.mk (.slc 60 17 168) 1 false (.slice 17 [] .nil)),
 (54,.mk (.ptr 121) 1 false .nilptr),
 (58,.mk (.strct [(0,1,false),(1,4,true),(5,9,true),(14,1,false)]) 15 true (.agg [.int .i64 0,.slice 11 [] .nil,.slice 6 [] .nil,.int .i64 0,.int .i64 0,.int .i64 0,.int .i64 0,.int .i64 0,.int .i64 0,.int .i64 0,.int .i64 0,.int .i64 0,.int .i64 0,.int .i64 0,.int .i64 0])),
 (60,.mk (.strct [(0,1,false),(1,15,true),(16,1,false)]) 17 true (.agg [.int .i64 0,.int .i64 0,.slice 11 [] .nil,.slice 6 [] .nil,.int .i64 0,.int .i64 0,.int .i64 0,.int .i64 0,.int .i64 0,.int .i64 0,.int .i64 0,.int .i64 0,.int .i64 0,.int .i64 0,.int .i64 0,.int .i64 0,.int .i64 0])),
 (61,.mk (.int .i64) 1 false (.int .i64 0)),
 (63,.mk (.strct [(0,1,false),(1,1,false)]) 2 true (.agg [.int .i64 0,.slice 3 [] .nil])),
 (68,.mk (.ptr 134) 1 false .nilptr),
 (70,.mk (.ptr 144) 1 false .nilptr),
 (80,.mk (.slc 63 2 32) 1 false (.slice 2 [] .nil)),
 (88,.mk .other 1 false .nilfunc),
 (89,.mk (.slc 9 1 16) 1 false (.slice 1 [] .nil)),
 (108,.mk (.ptr 111) 1 false .nilptr),
 (111,.mk (.strct [(0,9,true),(9,1,false),(10,1,false),(11,1,false)]) 12 true (.agg [.slice 11 [] .nil,.slice 6 [] .nil,.int .i64 0,.int .i64 0,.int .i64 0,.int .i64 0,.slice 11 [] .nil,.slice 14 [] .nil,.slice 1 [] .nil,.slice 3 [] .nil,.bool false,.int .i64 0])),
 (121,.mk (.strct [(0,1,false),(1,1,false)]) 2 true (.agg [.nilptr,.nilptr])),
 (126,.mk .other 1 false .nilfunc),
 (128,.mk .other 1 false .nilfunc),
 (129,.mk (.int .u64) 1 false (.int .u64 0)),
 (130,.mk (.int .u64) 1 false (.int .u64 0)),
 (132,.mk (.slc 5 1 1) 1 false (.slice 1 [] .nil)),
 (134,.mk (.strct [(0,1,false),(1,1,false),(2,1,false),(3,1,false)]) 4 true (.agg [.int .i64 0,.slice 1 [] .nil,.slice 1 [] .nil,.bool false])),
 (135,.mk (.ptr 220) 1 false .nilptr),
 (139,.mk .iface 1 false .nilif),
 (144,.mk (.strct [(0,1,false),(1,9,true)]) 10 true (.agg [.nilptr,.slice 11 [] .nil,.slice 6 [] .nil,.int .i64 0,.int .i64 0,.int .i64 0,.int .i64 0,.slice 11 [] .nil,.slice 14 [] .nil,.slice 1 [] .nil])),
 (152,.mk .other 1 false .nilfunc),
 (155,.mk (.ptr 160) 1 false .nilptr),
 (156,.mk (.ptr 158) 1 false .nilptr),
 (158,.mk (.strct [(0,1,false),(1,1,false)]) 2 true (.agg [.nilptr,.slice 1 [] .nil])),
 (160,.mk (.strct [(0,2,true)]) 2 true (.agg [.nilptr,.slice 1 [] .nil])),
 (168,.mk (.ptr 170) 1 false .nilptr),
 (170,.mk (.strct [(0,1,false)]) 1 true (.agg [.str []])),
 (171,.mk (.ptr 173) 1 false .nilptr),
 (173,.mk (.strct [(0,2,true)]) 2 true (.agg [.nilptr,.slice 1 [] .nil])),
 (188,.mk .other 1 false .nilfunc),
 (189,.mk .other 1 false .nilfunc),
 (190,.mk (.ptr 193) 1 false .nilptr),
 (193,.mk (.strct [(0,9,true)]) 9 true (.agg [.slice 11 [] .nil,.slice 6 [] .nil,.int .i64 0,.int .i64 0,.int .i64 0,.int .i64 0,.slice 11 [] .nil,.slice 14 [] .nil,.slice 1 [] .nil])),
 (194,.mk .other 1 false .nilfunc),
 (202,.mk .other 1 false .nilfunc),
 (204,.mk (.strct [(0,1,false)]) 1 true (.agg [.nilfunc])),
 (207,.mk .other 1 false .nilfunc),
 (208,.mk .other 1 false .nilfunc),
 (210,.mk (.ptr 290) 1 false .nilptr),
 (213,.mk .other 1 false .nilfunc),
 (216,.mk (.slc 48 1 24) 1 false (.slice 1 [] .nil)),
 (220,.mk (.strct [(0,1,false),(1,1,false)]) 2 true (.agg [.nilptr,.int .i64 0])),
 (224,.mk .iface 1 false .nilif),
 (229,.mk (.strct [(0,4,true)]) 4 true (.agg [.slice 11 [] .nil,.slice 6 [] .nil,.int .i64 0,.int .i64 0])),
 (231,.mk (.ptr 31) 1 false .nilptr),
 (233,.mk (.strct [(0,9,true)]) 9 true (.agg [.int .i64 0,.int .i64 0,.int .i64 0,.int .i64 0,.int .i64 0,.int .i64 0,.int .i64 0,.int .i64 0,.int .i64 0])),
 (236,.mk (.strct [(0,1,false)]) 1 true (.agg [.int .i64 0])),
 (238,.mk (.strct [(0,1,false)]) 1 true (.agg [.int .i64 0])),
 (242,.mk (.strct [(0,1,false)]) 1 true (.agg [.int .i64 0])),
 (245,.mk (.strct []) 0 true (.agg [])),
 (256,.mk (.ptr 61) 1 false .nilptr),
 (267,.mk .other 1 false .nilfunc),
 (271,.mk .other 1 false .nilfunc),
 (275,.mk .other 1 false .nilfunc),
 (282,.mk .other 1 false .nilfunc),
 (288,.mk (.mp 3 43) 1 false .nilmap),
 (290,.mk (.strct [(0,4,true),(4,1,false)]) 5 true (.agg [.slice 11 [] .nil,.slice 6 [] .nil,.int .i64 0,.int .i64 0,.nilmap])),
 (293,.mk (.mp 295 3) 1 false .nilmap),
 (295,.mk (.strct [(0,1,false),(1,1,false),(2,1,false),(3,1,false)]) 4 true (.agg [.int .i64 0,.int .i64 0,.int .i64 0,.int .i64 0])),
 (321,.mk (.int .u32) 1 false (.int .u32 0)),
 (325,.mk (.strct [(0,9,true),(9,1,false),(10,1,false)]) 11 true (.agg [.int .i64 0,.int .i64 0,.int .i64 0,.int .i64 0,.int .i64 0,.int .i64 0,.int .i64 0,.int .i64 0,.int .i64 0,.int .i64 0,.int .i64 0])),
 (326,.mk (.mp 3 4) 1 false .nilmap),
 (327,.mk (.slc 20 1 16) 1 false (.slice 1 [] .nil)),
 (333,.mk (.int .u64) 1 false (.int .u64 0)),
 (334,.mk .other 1 false .nilptr),
 (337,.mk (.strct [(0,1,false)]) 1 true (.agg [.int .i64 0])),
 (344,.mk (.ptr 346) 1 false .nilptr),
 (346,.mk (.strct [(0,1,false),(1,1,false)]) 2 true (.agg [.slice 14 [] .nil,.nilfunc])),
 (352,.mk (.slc 354 1 8) 1 false (.slice 1 [] .nil)),
 (354,.mk (.arr 1 1 false) 1 true (.agg [.int .i64 0])),
 (356,.mk .other 1 false .nilfunc),
 (361,.mk .other 1 false .nilfunc),
 (368,.mk .other 1 false .nilfunc),
 (372,.mk .other 1 false .nilfunc),
 (374,.mk .iface 1 false .nilif),
 (387,.mk (.arr 16 1 false) 16 true (.agg [.int .u64 0,.int .u64 0,.int .u64 0,.int .u64 0,.int .u64 0,.int .u64 0,.int .u64 0,.int .u64 0,.int .u64 0,.int .u64 0,.int .u64 0,.int .u64 0,.int .u64 0,.int .u64 0,.int .u64 0,.int .u64 0])),
 (391,.mk (.mp 3 3) 1 false .nilmap),
 (421,.mk (.strct [(0,0,true)]) 0 true (.agg [])),
 (428,.mk (.strct [(0,1,false),(1,1,false),(2,1,false),(3,1,false),(4,1,false),(5,1,false),(6,1,false),(7,1,false),(8,1,false),(9,1,false),(10,1,false)]) 11 true (.agg [.int .u64 0,.int .u64 0,.int .u32 0,.int .u8 0,.int .u8 0,.int .u8 0,.int .u8 0,.nilfunc,.nilptr,.int .i32 0,.int .i32 0]))]
def F0:List (Nat×Nat):=[(42,3),(43,3),(44,9),(45,9),(178,11),(179,11),(181,6),(182,6),(353,1),(354,1),(294,4),(295,4),(46,11),(47,11),(325,11),(41,3),(40,3)]
def M0:aD4:=[(325,"tithebarn/queue.id",340),(325,"tithebarn/queue.seq",341)]
noncomputable def E:Env:={P:=Tryz.prog,T:=T0,mt:=M0,fl:=F0,own:=[],rws:=[],bl:=[],df:=[]}
def hE:ae E where
 mix:=by kernel_rfl
 tab:=O6 (by kernel_rfl) (by kernel_rfl)
 mth:=zL.cons (λ v w=>by kernel_rfl) (zL.cons (λ v w=>by kernel_rfl) zL.nil)
 fl:=NM (by kernel_rfl)
noncomputable def Er (l b:List Nat):Env:={E with rws:=l,bl:=b}
def hEr (l b:List Nat):ae (Er l b):=⟨hE.mix,hE.tab,hE.mth,hE.fl⟩
noncomputable def Eo (l b:List Nat):Env:={E with own:=l,bl:=b}
def hEo (l b:List Nat):ae (Eo l b):=⟨hE.mix,hE.tab,hE.mth,hE.fl⟩
noncomputable def Ed (df:List (Nat×List aa)):Env:={E with df:=df}
def hEd (df:List (Nat×List aa)):ae (Ed df):=⟨hE.mix,hE.tab,hE.mth,hE.fl⟩
noncomputable def Ex (o r b:List Nat):Env:={E with own:=o,rws:=r,bl:=b}
def hEx (o r b:List Nat):ae (Ex o r b):=⟨hE.mix,hE.tab,hE.mth,hE.fl⟩
noncomputable def El (l:Nat) (o r b:List Nat):Env:={Ex o r b with rd:=some l}
def hEl (l:Nat) (o r b:List Nat):ae (El l o r b):=⟨hE.mix,hE.tab,hE.mth,hE.fl⟩
def c_ (fn:Func) {f:FuncId} {args:List aa} {r:Res} (h:okL args->To E fn (.pure r) (.code [.code (dG fn)] (frA 0 args) [])) (l:Tryz.prog.funcs[f]? =some fn:=by rfl) (k:fn.body=some (dG fn):=by rfl) (d:nC Tryz.prog f:=by exact λ_ _=>by rfl) (e:dC fn.ntmps (dG fn)=true:=by decide+kernel) (i:Fw args.length fn.ntmps=true:=by rfl):aA Tryz.prog f args [] r []:=cT (E:=E) (g:=.pure r) h rfl l k d e i rfl rfl rfl
structure V3 where
 (a b c:Int)
 deriving DecidableEq
structure Nod where
 (p w:Int)
 (n b l:V3)
 deriving DecidableEq
structure Hos where
 (f b r:Int)
 (c:V3)
 deriving DecidableEq
structure Con where
 ns:List Nod
 hs:List Hos
 (half age:Int)
 deriving DecidableEq
structure Gan where
 (id ten pods:Int)
 need:V3
 (run lev pref:Int)
 deriving DecidableEq
abbrev ii (n:Int):aa:=.int .i64 n
def V3.cs (v:V3):List aa:=[ii v.a,ii v.b,ii v.c]
def Nod.cs (x:Nod):List aa:=[ii x.p,ii x.w,ii x.n.a,ii x.n.b,ii x.n.c,ii x.b.a,ii x.b.b,ii x.b.c,ii x.l.a,ii x.l.b,ii x.l.c]
def Nod.av (x:Nod):aa:=.agg x.cs
def Hos.cs (x:Hos):List aa:=[ii x.f,ii x.b,ii x.r,ii x.c.a,ii x.c.b,ii x.c.c]
def Hos.av (x:Hos):aa:=.agg x.cs
abbrev nav (l:List Nod):List aa:=l.map Nod.av
abbrev hav (l:List Hos):List aa:=l.map Hos.av
def Con.cs (x:Con):List aa:=[.slice 11 (nav x.ns) .no,.slice 6 (hav x.hs) .no,ii x.half,ii x.age]
def Con.av (x:Con):aa:=.agg x.cs
def Gan.cs (x:Gan):List aa:=[ii x.id,ii x.ten,ii x.pods,ii x.need.a,ii x.need.b,ii x.need.c,ii x.run,ii x.lev,ii x.pref]
def Gan.av (x:Gan):aa:=.agg x.cs
abbrev iv (l:List Int):List aa:=l.map ii
def V3.zero:V3:=⟨0,0,0⟩
def V3.av (v:V3):aa:=.agg v.cs
abbrev vav (l:List V3):List aa:=l.map V3.av
def kL {l:List Nod} {i:Nat} (h:i<l.length):(nav l)[i]? =some l[i].av:=by simp [nav,h]
def vX {l:List Hos} {i:Nat} (h:i<l.length):(hav l)[i]? =some l[i].av:=by simp [hav,h]
def fJ {l:List Int} {i:Nat} (h:i<l.length):(iv l)[i]? =some (ii l[i]):=by simp [iv,h]
def cD {M:Imm} {ob:Hs} {v:Value} {cs:List aa} (h:Rep M ob v (.agg cs)) (i:Nat) (a:aa) (c:cs[i]? =some a):okA a:=by
 obtain ⟨vs,_,hl,d⟩:=h.agg_inv;have b:i<vs.length:=by rw [hl];exact (Ab.1 c).1
 exact (d i _ a (Aa b) c).okA
def aA.get {P:Program} {f:FuncId} {args:List aa} {ac ap:List ab} {r:Res} (Q:Prop) (c:∀ M ob vs,cA M ob vs args->Q) (h:Q->aA P f args ac r ap):aA P f args ac r ap:=
 λ M ob w a hm b=>h (c _ _ _ b) M ob w a hm b
def vJ {b:Bool} (h:(!b)=true):b=false:=by cases b<;>first | rfl | cases h
def vK {b:Bool} (h:(!b)=false):b=true:=by cases b<;>first | rfl | cases h
structure Rn where
 g:Gan
 (seq at' st fl:Int)
 hs:List Int
 deriving DecidableEq
def Rn.cs (x:Rn):List aa:=[ii x.g.id,ii x.g.ten,ii x.g.pods,ii x.g.need.a,ii x.g.need.b,ii x.g.need.c,ii x.g.run,ii x.g.lev,ii x.g.pref,ii x.seq,ii x.at',ii x.st,ii x.fl,.slice 1 (iv x.hs) .no]
def Rn.av (x:Rn):aa:=.agg x.cs
abbrev rav (l:List Rn):=l.map Rn.av
def dL {l:List Rn} {i:Nat} (h:i<l.length):(rav l)[i]? =some l[i].av:=by simp [rav,h]
def uJ {l:List V3} {i:Nat} (h:i<l.length):(vav l)[i]? =some l[i].av:=by simp [vav,h]
def aEb {n:Int} (h:9223372036854775807<n) (a:n<=18446744073709551614):IntKind.wrap .i64 n=n-18446744073709551616:=by simp [IntKind.wrap,IntKind.signed,IntKind.bits];omega
def aEa {n:Int} (h:n< -9223372036854775808) (a: -18446744073709551616<=n):IntKind.wrap .i64 n=n+18446744073709551616:=by simp [IntKind.wrap,IntKind.signed,IntKind.bits];omega
set_option maxRecDepth 10000
def gO (n m:Int):Int:=min (max n (0-m)) m
def xX (n m:Int) (h:0<=m): -m<=gO n m/\gO n m<=m:=by unfold gO;omega
def RG (n m:Int) (a:0<=m) (h1:m<=1099511627776):ar 196 [ii n,ii m] [] (.ret (ii (gO n m))) []:=by exact c_ Tryz.f196 λ_=>zW
def iP (x y:Int):Int:=gO (gO x 1099511627776+gO y 1099511627776) 1099511627776
def WQ (x y:Int):Int:=gO (gO x 1099511627776-gO y 1099511627776) 1099511627776
def aBI (x n:Int):Int:=gO (gO x 1099511627776*gO n 1048576) 1099511627776
def aLw (x n:Int): -1152921504606846976<=gO x 1099511627776*gO n 1048576/\gO x 1099511627776*gO n 1048576<=1152921504606846976:=by
 have h1:=xX x 1099511627776 d_;have a:=xX n 1048576 d_;have h3:(gO x 1099511627776*gO n 1048576).natAbs<=1099511627776*1048576:=by rw [Int.natAbs_mul];exact Gj o_ o_
 omega
def aH0 (x y:Int):ar 195 [ii x,ii y] [] (.ret (ii (iP x y))) []:=by
 have h1:=xX x 1099511627776 d_;have a:=xX y 1099511627776 d_;refine c_ Tryz.f195 λ_=>?_
 repeat' first | (refine gN hE ?_;conv=>whnf) | refine .pure _ [] (RG _ _ d_ d_) ?_ | exact rfl | (refine zt ?_;try intro h) | refine zu (λ h=>?_) λ h=>?_ | fail
def aEE (x y:Int):ar 201 [ii x,ii y] [] (.ret (ii (WQ x y))) []:=by
 have h1:=xX x 1099511627776 d_;have a:=xX y 1099511627776 d_;refine c_ Tryz.f201 λ_=>?_
 repeat' first | (refine gN hE ?_;conv=>whnf) | refine .pure _ [] (RG _ _ d_ d_) ?_ | exact rfl | (refine zt ?_;try intro h) | refine zu (λ h=>?_) λ h=>?_ | fail
def aFR (x y n:Int):ar 197 [ii x,ii y,.ptr [ii n]] [] (.ret (ii (aBI x n))) []:=by
 have h1:=aLw x n;refine c_ Tryz.f197 λ_=>?_
 repeat' first | (refine gN hE ?_;conv=>whnf) | refine .pure _ [] (RG _ _ d_ d_) ?_ | exact rfl | (refine zt ?_;try intro h) | refine zu (λ h=>?_) λ h=>?_ | fail
def V3.map2 (op:Int->Int->Int) (a b:V3):V3:=⟨op a.a b.a,op a.b b.b,op a.c b.c⟩
def VJ (f:FuncId) (op:Int->Int->Int) (a b:V3) (h:∀ x y,aA Tryz.prog f [ii x,ii y] [] (.ret (ii (op x y))) []):ar 194 [a.av,b.av,.func (.func f) [] []] [] (.ret (V3.map2 op a b).av) []:=by
  refine c_ Tryz.f194 λ_=>?_;refine gV ?_
  repeat' first
   | (refine gW hE ?_;conv=>whnf)
   | refine .pure _ [] (h _ _) ?_
   | exact rfl
   | refine aY ?_
   | refine aN ?_
   | refine aJ ?_
   | refine Ao _ (Ac rfl ?_)
   | refine Ac d_ ?_
def aC9 (f:FuncId) (op:Int->Int->Int) (n:Int) (a b:V3) (h:∀ x y,aA Tryz.prog f [ii x,ii y,.ptr [ii n]] [] (.ret (ii (op x y))) []):ar 194 [a.av,b.av,.func (.func f) [] [.ptr [ii n]]] [] (.ret (V3.map2 op a b).av) []:=by
  refine c_ Tryz.f194 λ_=>?_;refine gV ?_
  repeat' first
   | (refine gW hE ?_;conv=>whnf)
   | refine .pure _ [] (h _ _) ?_
   | exact rfl
   | refine aY ?_
   | refine aN ?_
   | refine aJ ?_
   | refine Ao _ (Ac rfl ?_)
   | refine Ac d_ ?_
def fO (a b:V3):V3:=V3.map2 iP a b
def EI (a b:V3):V3:=V3.map2 WQ a b
def aKX (a:V3) (n:Int):V3:=V3.map2 (λ x _=>aBI x n) a a
def iB (a b:V3):ar 122 [a.av,b.av] [] (.ret (fO a b).av) []:=by refine c_ Tryz.f122 λ_=>?_;have c:=VJ _ iP a b aH0;exact zW
def HR (a b:V3):ar 127 [a.av,b.av] [] (.ret (EI a b).av) []:=by refine c_ Tryz.f127 λ_=>?_;have c:=VJ _ WQ a b aEE;exact zW
def aEg (a:V3) (n:Int):ar 124 [a.av,ii n] [] (.ret (aKX a n).av) []:=by refine c_ Tryz.f124 λ_=>?_;have b:=aC9 _ (λ x _=>aBI x n) n a a λ x y=>aFR x y n;exact zW
def cR (a b:V3):Bool:=if decide (b.a<a.a)=true then false else if decide (b.b<a.b)=true then false else if decide (b.c<a.c)=true then false else true
abbrev aJq (n:Int):aa:=.func (.func 184) [] [.ptr [ii n]]
def aJp (x:Nod) (n:Int):ar 184 [x.av,.ptr [ii n]] [] (.ret (.bool (decide (x.p=n)))) []:=by exact c_ Tryz.f184 λ_=>zW
def ak (n:Int):List Nod->Nat->Int
 | [],_=> -1
 | x::r,i=>if decide (x.p=n)=true then (i:Int) else ak n r (i+1)
noncomputable abbrev aIg:Func:=Tryz.f245
def XX (l:List Nod) (n:Int) (hl:((nav l).length:Int)<=9223372036854775807) (r:Int):∀ (m i:Nat),i+m=l.length->ak n (l.drop i) i=r->
  To E aIg (.pure (.ret (ii r))) (.head (stk aIg 0) [(0,.slice 11 (nav l) .no),(1,aJq n),(7,.int .i64 ((nav l).length:Nat)),(8,.int .i64 i)] []):=by
 have d:(nav l).length=l.length:=by simp
 intro m;induction m with
 | zero=>
  intro i e a;rw [Ah o_] at a;subst a;refine gV ?_;exact zW
 | succ m g=>
  intro i e a;have b:i<l.length:=o_;rw [Ae b] at a;generalize f:l[i]=x at a;have get:(nav l)[i]? =some x.av:=(kL b).trans (by rw [f]);unfold ak at a;refine gV ?_;refine aT λ h=>?_
  repeat' first | (refine gN hE ?_;conv=>whnf) | refine ⟨_,get,?_⟩ | refine .pure _ [] (aJp x n) ?_ | exact rfl | (refine zt ?_;try intro h) | refine zu (λ h=>?_) λ h=>?_ | fail
  .have h:decide (x.p=n)=true:=h;rw [if_pos h] at a;rw [<-a]
  .have h:decide (x.p=n)=false:=h;rw [if_neg (by rw [h];decide)] at a;have c:=g (i+1) o_ a;exact zW
def aGn (l:List Nod) (n:Int):ar 245 [.slice 11 (nav l) .no,aJq n] [] (.ret (ii (ak n l 0))) []:=by refine c_ Tryz.f245 λ b=>?_;have hl:((nav l).length:Int)<=9223372036854775807:=b.1;have a:=XX l n hl _ l.length 0 o_ rfl;exact zW
def aGr (l:List Nod) (n:Int):ar 183 [.slice 11 (nav l) .no,aJq n] [] (.ret (.bool (decide (0<=ak n l 0)))) []:=by refine c_ Tryz.f183 λ_=>?_;have a:=aGn l n;exact zW
def bB (ns:List Nod) (n:Int):Bool:=if decide (0<=n)=true then (if decide (n<(ns.length:Int))=true then !decide (0<=ak n ns 0) else false) else false
def aBU (c:Con) (n:Int) (r:Bool) (b:bB c.ns n=r):ar 117 [c.av,ii n] [] (.ret (.bool r)) []:=by
 have d:(nav c.ns).length=c.ns.length:=by simp
 unfold bB at b;refine c_ Tryz.f117 λ_=>?_;refine gV ?_;refine Ac (λ h1=>?_) (λ h1=>?_)
 .have h1:decide (0<=n)=true:=h1;rw [if_pos h1] at b;refine gV ?_;refine Ac (λ a=>?_) (λ a=>?_)
  .have a:decide (n<((nav c.ns).length:Int))=true:=a;rw [d] at a;rw [if_pos a] at b
   repeat' first | (refine gN hE ?_;conv=>whnf) | refine .pure _ [] (aGr c.ns n) ?_ | exact rfl | (refine zt ?_;try intro h) | refine zu (λ h=>?_) λ h=>?_ | fail
   rw [<-b]
  .have a:decide (n<((nav c.ns).length:Int))=false:=a;rw [d] at a;rw [if_neg (by rw [a];decide)] at b
   repeat' first | (refine gN hE ?_;conv=>whnf) | exact rfl | (refine zt ?_;try intro h) | refine zu (λ h=>?_) λ h=>?_ | fail
   rw [<-b]
 .have h1:decide (0<=n)=false:=h1;rw [if_neg (by rw [h1];decide)] at b
  repeat' first | (refine gN hE ?_;conv=>whnf) | exact rfl | (refine zt ?_;try intro h) | refine zu (λ h=>?_) λ h=>?_ | fail
  rw [<-b]
def jF (c:Con) (n:Int):ar 117 [c.av,ii n] [] (.ret (.bool (bB c.ns n))) []:=aBU c n _ rfl
inductive Ylds (P:Program) (l:Nat):List Int->BInv->BInv->Bool->Prop
 | nil (I:BInv):Ylds P l [] I I true
 | stop (x:Int) (r:List Int) (I I':BInv) (h:bN P (.yield l) [ii x] [.bun 0 I] (.ret (.bool false)) [.bun 1 I']):Ylds P l (x::r) I I' false
 | next (x:Int) (r:List Int) (I I1 I2:BInv) (b:Bool) (h:bN P (.yield l) [ii x] [.bun 0 I] (.ret (.bool true)) [.bun 1 I1]) (k:Ylds P l r I1 I2 b):Ylds P l (x::r) I I2 b
def upF (ns:List Nod):Nat->Int->List Int
 | 0,_=>[]
 | f+1,n=>if decide (0<=n)=true then (if h:n.toNat<ns.length then (if decide (n<=(ns[n.toNat]).p)=true then [n] else n::upF ns f (ns[n.toNat]).p) else []) else []
def upL (ns:List Nod) (n:Int):List Int:=upF ns (n.toNat+1) n
noncomputable abbrev aGF:Func:=Tryz.f192
def ZX (l:Nat) (c:Con) (hl:((nav c.ns).length:Int)<=9223372036854775807) (g:BInv) (b:Bool):∀ (f:Nat) (n:Int),n<(f:Int)->∀ (I:BInv),Ylds Tryz.prog l (upF c.ns f n) I g b->
  ∃ m j,To E aGF (.full 2 (.ret (.tup [])) [.cells 3 [m],.bun j g]) (.head (stk aGF 0) [(0,.func (.yield l) [] []),(1,.ref 0 0),(2,.ptr c.cs)] [.cells 3 [ii n],.bun 1 I]):=by
 have o:(nav c.ns).length=c.ns.length:=by simp
 intro f;induction f with
 | zero=>
  intro n q I a;have h1:¬ 0<=n:=o_;cases a;exact zqha2
 | succ f k=>
  intro n q I a;have u:=λ(p:Int) (hp:¬ n<=p) (e:BInv) (h1:Ylds Tryz.prog l (upF c.ns f p) e g b)=>k p o_ e h1;unfold upF at a;by_cases h1:0<=n
  .rw [if_pos (decide_eq_true h1)] at a;by_cases h:n.toNat<c.ns.length
   .rw [dif_pos h] at a;generalize s:c.ns[n.toNat]=x at a;have get:(nav c.ns)[n.toNat]? =some x.av:=(kL h).trans (by rw [s]);have v:n=(n.toNat:Int):=o_;by_cases h3:n<=x.p
    .rw [if_pos (decide_eq_true h3)] at a;cases a with
     | stop _ _ _ _ d=>
      exact zqha2
     | next _ _ _ e _ _ d i=>
      cases i;exact zqha2
    .rw [if_neg (by rw [decide_eq_false h3];decide)] at a;cases a with
     | stop _ _ _ _ d=>
      exact zqha2
     | next _ _ _ e _ _ d i=>
      obtain ⟨m,j,r⟩:=u x.p o_ _ i;refine ⟨m,j,?_⟩;refine gV ?_;exact zW
   .rw [dif_neg h] at a;cases a;exact zqha2
  .rw [if_neg (by rw [decide_eq_false h1];decide)] at a;cases a;exact zqha2
def WK (l:Nat) (c:Con) (n:Int) (I e:BInv) (b:Bool) (hl:((nav c.ns).length:Int)<=9223372036854775807) (a:Ylds Tryz.prog l (upL c.ns n) I e b):
  ∃ m i,To E aGF (.full 2 (.ret (.tup [])) [.cells 3 [m],.bun i e]) (.head (stk aGF 0) [(0,.func (.yield l) [] []),(1,.ref 0 0),(2,.ptr c.cs)] [.cells 3 [ii n],.bun 0 I]):=by
 have j:(nav c.ns).length=c.ns.length:=by simp
 unfold upL at a;have q:=λ(p:Int) (hp:¬ n<=p) (f:BInv) (h1:Ylds Tryz.prog l (upF c.ns n.toNat p) f e b)=>ZX l c hl e b n.toNat p o_ f h1;unfold upF at a;by_cases h1:0<=n
 .rw [if_pos (decide_eq_true h1)] at a;by_cases g:n.toNat<c.ns.length
  .rw [dif_pos g] at a;generalize o:c.ns[n.toNat]=x at a;have get:(nav c.ns)[n.toNat]? =some x.av:=(kL g).trans (by rw [o]);have r:n=(n.toNat:Int):=o_;by_cases h3:n<=x.p
   .rw [if_pos (decide_eq_true h3)] at a;cases a with
    | stop _ _ _ _ d=>
     exact zqha2
    | next _ _ _ f _ _ d h=>
     cases h;exact zqha2
   .rw [if_neg (by rw [decide_eq_false h3];decide)] at a;cases a with
    | stop _ _ _ _ d=>
     exact zqha2
    | next _ _ _ f _ _ d h=>
     obtain ⟨m,i,k⟩:=q x.p o_ _ h;refine ⟨m,i,?_⟩;refine gV ?_;exact zW
  .rw [dif_neg g] at a;cases a;refine ⟨ii n,0,?_⟩;refine gV ?_;exact zW
 .rw [if_neg (by rw [decide_eq_false h1];decide)] at a;cases a;refine ⟨ii n,0,?_⟩;refine gV ?_;exact zW
def HW (l:Nat) (c:Con) (n:Int) (I a:BInv) (b:Bool) (hl:((nav c.ns).length:Int)<=9223372036854775807) (e:Ylds Tryz.prog l (upL c.ns n) I a b):∃ m d,ar 192 [.func (.yield l) [] [],.ref 0 0,.ptr c.cs] [.cells 3 [ii n],.bun 0 I] (.ret (.tup [])) [.cells 3 [m],.bun d a]:=by obtain ⟨m,d,h⟩:=WK l c n I a b hl e;refine ⟨m,d,?_⟩;refine cT (E:=E) (fn:=Tryz.f192) (g:=.full 2 _ _) λ_=>?_;exact zW
def SK (c:Con) (n:Int):ar 119 [c.av,ii n] [] (.ret (.func (.func 192) [] [.ref 0 0,.ptr c.cs])) [.cells 3 [ii n]]:=by refine cT (E:=E) (fn:=Tryz.f119) (g:=.full 0 _ _) λ_=>?_;refine gV ?_;refine ⟨[0],[1],⟨rfl,rfl⟩,?_⟩;exact ⟨rfl,rfl⟩
abbrev Led:=List (Int×V3)
def led (L:Led):List (List Int×aa):=L.map λ p=>([p.1],p.2.av)
def iF:Led->Int->Option V3
 | [],_=>none
 | (k,v)::r,n=>if k=n then some v else iF r n
def xG:Led->Int->V3->Led
 | [],n,v=>[(n,v)]
 | (k,w)::r,n,v=>if k=n then (n,v)::r else (k,w)::xG r n v
def CT:Led->Int->Led
 | [],_=>[]
 | (k,w)::r,n=>if k=n then r else (k,w)::CT r n
def CO (n:Int):∀ (L:Led),bR (led L) [n]=(iF L n).map V3.av
 | []=>rfl
 | (k,v)::r=>by
  have:=CO n r;simp only [led,Bl,bR,iF,Kv,and_true] at this⊢;split
  .rfl
  .exact this
def T9 (n:Int) (v:V3):∀ (L:Led),lC (led L) [n] v.av=led (xG L n v)
 | []=>rfl
 | (k,w)::r=>by
  have:=T9 n v r;simp only [led,Bl,lC,xG,Kv,and_true] at this⊢;split
  .rfl
  .rw [this];rfl
def UB (n:Int):∀ (L:Led),EP (led L) [n]=led (CT L n)
 | []=>rfl
 | (k,w)::r=>by
  have:=UB n r;simp only [led,Bl,EP,CT,Kv,and_true] at this⊢;split
  .rfl
  .rw [this];rfl
def pO (L:Led) (n:Int):V3:=(iF L n).getD V3.zero
def isZ (v:V3):Bool:=(v.a==0)&&((v.b==0)&&((v.c==0)&&true))
def MR (L:Led) (n:Int) (v:V3):Led:=if isZ v=true then CT L n else xG L n v
abbrev ER (c:Con):List aa:=[.slice 11 (nav c.ns) .no,.slice 6 (hav c.hs) .no,ii c.half,ii c.age,.mref 1]
def aFm (c:Con) (n:Int) (v:V3) (L L':Led) (a:MR L n v=L'):ar 193 [.ref 0 0,ii n,v.av] [.cells 290 (ER c),.mp false (led L)] (.ret (.tup [])) [.cells 290 (ER c),.mp false (led L')]:=by
 unfold MR at a;refine cT (E:=E) (fn:=Tryz.f193) (g:=.full 2 _ _) λ_=>?_;refine gV ?_;refine Ac (λ h1=>?_) (λ h1=>?_)
 .have h1:isZ v=true:=h1;rw [if_pos h1] at a;refine gV ?_;refine ⟨[],[0,1],⟨rfl,rfl⟩,?_⟩;refine ⟨rfl,?_⟩;show [ab.cells _ _,ab.mp false (EP (led L) [n])]=_;rw [UB,a]
 .have h1:isZ v=false:=h1;rw [if_neg (by rw [h1];decide)] at a;refine gV ?_;refine ⟨[],[0,1],⟨rfl,rfl⟩,?_⟩;refine ⟨rfl,?_⟩;show [ab.cells _ _,ab.mp false (lC (led L) [n] v.av)]=_;rw [T9,a]
def put_ok (c:Con) (n:Int) (v:V3) (L:Led):ar 193 [.ref 0 0,ii n,v.av] [.cells 290 (ER c),.mp false (led L)] (.ret (.tup [])) [.cells 290 (ER c),.mp false (led (MR L n v))]:=aFm c n v L _ rfl
def A9 {α:Type} {P:Program} {l:Nat} (F:α->BInv) (st:α->Int->α) (h:∀ a x,bN P (.yield l) [ii x] [.bun 0 (F a)] (.ret (.bool true)) [.bun 1 (F (st a x))]):∀ (xs:List Int) (a:α),Ylds P l xs (F a) (F (xs.foldl st a)) true
 | [],a=>.nil _
 | x::r,a=>.next x r _ _ _ _ (h a x) (A9 F st h r (st a x))
def yC (v:V3) (L:Led) (x:Int):Led:=MR L x (fO (pO L x) v)
noncomputable abbrev aGO:Func:=Tryz.f121
def aMq (c:Con):List (Nat×aa):=[(4,.ref 2 0),(6,.ref 3 0),(7,.ref 4 0),(22,.func (.func 192) [] [.ref 5 0,.ptr c.cs])]
def VW (c:Con) (v:V3) (L:Led) (o:ab):List ab:=[.cells 290 (ER c),.mp false (led L),.cells 210 [.ref 0 0],.cells 43 v.cs,.cells 213 [.func (.func 122) [] []],.dead,o]
def aDC (c:Con) (v:V3) (L:Led) (x:Int) (l:Nat) (R:Loop) (d:R.state= .ready):
  To (El l [] [] []) aGO (.keep 7 (.ret (.bool true)) (VW c v (yC v L x) (.bun 0 (bY l {R with state:=.busy})))) (.code [.code (rfA aGO),.beginR,.code (rfB aGO)] (bW (aMq c) 23 (ii x)) (VW c v L (.bun 0 (bY l R)))):=by
 refine gV ?_;refine To.beginR (k:=6) (gg:=0) rfl rfl d ?_;have a:=CO x L;unfold yC pO;cases b:iF L x with
 | none=>
  rw [b] at a;have a:bR (led L) [x]=none:=a;refine gV ?_;refine ⟨none,a,?_⟩;refine gV ?_;refine .pure _ [] (iB V3.zero v) ?_;exact zqha9
 | some u=>
  rw [b] at a;have a:bR (led L) [x]=some u.av:=a;refine gV ?_;refine ⟨some u.av,a,?_⟩;refine gV ?_;refine .pure _ [] (iB u v) ?_;exact zqha9
def RZ (c:Con) (t:Int) (v:V3) (L L':Led) (e:Int) (i:bB c.ns t=true->L'=(upL c.ns t).foldl (yC v) L/\e=0) (h:bB c.ns t=false->L'=L/\e=3) (hl:((nav c.ns).length:Int)<=9223372036854775807):
  ar 121 [.ref 0 0,ii t,v.av,.func (.func 122) [] []] [.cells 290 (ER c),.mp false (led L)] (.ret (ii e)) [.cells 290 (ER c),.mp false (led L')]:=by
 refine cT (E:=E) (fn:=Tryz.f121) (g:=.full 2 _ _) λ_=>?_;refine gV ?_;refine .pure _ [] (jF c t) ?_;refine gV ?_;refine Ac (λ h1=>?_) (λ h1=>?_)
 .have h1:bB c.ns t=false:=vJ h1;obtain ⟨rfl,rfl⟩:=h h1;refine gV ?_;refine ⟨[],[0,1],⟨rfl,rfl⟩,⟨rfl,rfl⟩⟩
 .have h1:bB c.ns t=true:=vK h1;obtain ⟨rfl,rfl⟩:=i h1;refine gV ?_;refine .pure _ [.cells 3 [ii t]] (SK c t) ?_;refine gV ?_;refine To.cutC [4,6,7,22] 6 rfl rfl rfl rfl ?_;refine To.range [5] rfl rfl (λ_ _=>by rfl) rfl (λ_ _=>rfl) rfl λ l ob0 R _ a=>?_;obtain ⟨m,j,d⟩:=HW l c t _ _ true hl (A9 (P:=Tryz.prog) (l:=l) (λ L=>iZ ob0 (aMq c) R (VW c v L (.bun 0 (bY l R)))) (yC v) (λ L x=>gI (E:=Ex [] [] []) (fn:=aGO) (k:=6) (n:=7) (p:=23) (gg:=0) (L':=VW c v (yC v L x) (.bun 0 (bY l {R with state:=.busy}))) (b:=true) a.params a.ready a.pend a.assign a.body a.size rfl rfl rfl rfl rfl rfl rfl λ_=>aDC c v L x l R a.ready) (upL c.ns t) L);refine ⟨_,true,_,[.cells 3 [m]],j,d,rfl,rfl,?_⟩;refine gV ?_;refine ⟨[],[0,1],⟨rfl,rfl⟩,⟨rfl,rfl⟩⟩
structure Con.sm (c:Con):Prop where
 ns:c.ns.length<=1048576
 hs:c.hs.length<=1048576
def aJz (c:Con) (b:c.sm):ar 120 [c.av] [] (.ret (.ref 0 0)) [.cells 290 (ER c),.mp false (led [])]:=by
 have h1:=b.ns;have a:(nav c.ns).length=c.ns.length:=by simp
 refine cT (E:=E) (fn:=Tryz.f120) (g:=.full 0 _ _) λ_=>?_;refine gV ?_;refine Ac (Ac (by simp only [maxLen];omega) o_) ?_;refine gV ?_;refine ⟨[],[3,2],⟨rfl,rfl⟩,⟨rfl,rfl⟩⟩
def jT (f:Nat->V3) (i m:Nat):List V3:=(Di i).map f++Aj m V3.zero
def DI (f:Nat->V3) (i m:Nat):(jT f i m).length=i+m:=by simp [jT]
def DH (f:Nat->V3) (i m:Nat):(vav (jT f i (m+1))).set i (f i).av=vav (jT f (i+1) m):=by
 have h1:(Di i).length=i:=by simp
 unfold jT vav;rw [Mp,Bm,Bm,Bm,Kz,Bl];rw [Gy _ _ s_];simp
def DJ (f:Nat->V3) (n:Nat):jT f n 0=(Di n).map f:=by simp [jT]
def xQ (f:Nat->V3) (n:Nat):vav (jT f 0 n)=Aj n (aa.agg [ii 0,ii 0,ii 0]):=by simp [jT,vav,V3.av,V3.zero,V3.cs]
noncomputable abbrev aL8:Func:=Tryz.f123
abbrev aBT (c:Con) (L:Led):List ab:=[.cells 290 (ER c),.mp false (led L)]
def lX (n:Nat) (L:Led):List V3:=(Di n).map λ i:Nat=>pO L (i:Int)
def aDX (c:Con) (L:Led) (g:c.ns.length<=1048576) (K:Int) (j:K=(c.ns.length:Nat)):∀ (m i:Nat),i+m=c.ns.length->
  To E aL8 (.full 2 (.ret (.slice 3 (vav (lX c.ns.length L)) .no)) (aBT c L)) (.head (stk aL8 0) [(0,.ref 0 0),(3,.row 2 0),(15,.int .i64 K),(16,.int .i64 i)] [.cells 290 (ER c),.mp false (led L),.row 0 3 43 (vav (jT (λ i:Nat=>pO L (i:Int)) i m))]):=by
 intro m;induction m with
 | zero=>
  intro i d;have e:jT (λ i:Nat=>pO L (i:Int)) i 0=lX c.ns.length L:=by rw [DJ];unfold lX;rw [<-d];rfl
  rw [e];refine gV ?_;refine aF λ h=>?_;refine gV ?_;refine ⟨[2],[0,1],⟨rfl,rfl⟩,⟨rfl,rfl⟩⟩
 | succ m f=>
  intro i d;have hl:(vav (jT (λ i:Nat=>pO L (i:Int)) i (m+1))).length=i+(m+1):=by rw [Ch,DI]
  have hs:=DH (λ i:Nat=>pO L (i:Int)) i m;have a:=CO (i:Int) L;have ao:=f (i+1) o_
  rw [<-hs] at ao
  unfold pO at ao
  refine gV ?_;refine aT λ h=>?_;cases b:iF L (i:Int) with
  | none=>
   rw [b] at a ao
   have a:bR (led L) [(i:Int)]=none:=a;refine gV ?_;refine ⟨none,a,?_⟩;exact zqha1
  | some u=>
   rw [b] at a ao
   have a:bR (led L) [(i:Int)]=some u.av:=a;refine gV ?_;refine ⟨some u.av,a,?_⟩;exact zqha1
def aKR (c:Con) (L:Led) (b:c.sm):ar 123 [.ref 0 0] (aBT c L) (.ret (.slice 3 (vav (lX c.ns.length L)) .no)) (aBT c L):=by
 have h1:=b.ns;have a:(nav c.ns).length=c.ns.length:=by simp
 refine cT (E:=E) (fn:=Tryz.f123) (g:=.full 2 _ _) λ_=>?_;refine gV ?_;refine aN ?_;refine gV ?_;refine ⟨c.ns.length,by rw [a],?_⟩;refine gV ?_;refine ⟨⟨rfl,by omega,by simp only [maxLen];omega⟩,?_⟩;refine gV ?_;have ao:=aDX c L h1 ((Aj c.ns.length (aa.agg [ii 0,ii 0,ii 0])).length:Nat) (by rw [Gz]) c.ns.length 0 o_
 rw [xQ] at ao
 exact To.head [0,3,15,16] ao
def dem (g:Gan):V3:=aKX g.need g.pods
def RC (g:Gan):ar 55 [g.av] [] (.ret (dem g).av) []:=by refine c_ Tryz.f55 λ_=>?_;have a:=aEg g.need g.pods;exact zW
def tG (c:Con) (L:Led) (x:Rn):Led:=if bB c.ns x.g.ten=true then (upL c.ns x.g.ten).foldl (yC (dem x.g)) L else L
def ofL (c:Con) (l:List Rn):List V3:=lX c.ns.length (l.foldl (tG c) [])
def Y5 (c:Con) (t:Int) (v:V3) (L:Led) (a:c.sm):ar 121 [.ref 0 0,ii t,v.av,.func (.func 122) [] []] (aBT c L) (.ret (ii (if bB c.ns t=true then 0 else 3))) (aBT c (if bB c.ns t=true then (upL c.ns t).foldl (yC v) L else L)):=
 RZ c t v L _ _ (λ h=>⟨if_pos h,if_pos h⟩) (λ h=>⟨if_neg (by rw [h];decide),if_neg (by rw [h];decide)⟩) (by have:=a.ns;simp only [Ch];omega)
noncomputable abbrev fOf:Func:=Tryz.f54
def aFA (c:Con) (d:c.sm) (l:List Rn) (hl:l.length<=1048576) (R:List V3):∀ (m i:Nat) (L:Led),i+m=l.length->lX c.ns.length ((l.drop i).foldl (tG c) L)=R->
  To E fOf (.pure (.ret (.slice 3 (vav R) .no))) (.head (stk fOf 0) [(5,.ref 1 0),(10,.slice 14 (rav l) .no),(11,.int .i64 ((rav l).length:Nat)),(12,.int .i64 i)] [.cells 26 c.cs,.cells 290 [.slice 11 (nav c.ns) .no,.slice 6 (hav c.hs) .no,ii c.half,ii c.age,.mref 2],.mp false (led L)]):=by
 have e:(rav l).length=l.length:=by simp
 intro m;induction m with
 | zero=>
  intro i L k a;rw [Ah o_] at a;subst a;refine gV ?_;refine aF λ h=>?_;refine gV ?_;refine .eff [] [1,2] _ _ rfl (aKR c L d) ?_;exact zW
 | succ m f=>
  intro i L k a;have b:i<l.length:=o_;rw [Ae b,Ba] at a;generalize j:l[i]=x at a;have get:(rav l)[i]? =some x.av:=(dL b).trans (by rw [j]);have ao:=f (i+1) (tG c L x) o_ a
  refine gV ?_;refine aT λ h=>?_;refine gV ?_;refine ⟨i,rfl,?_⟩;refine gV ?_;refine ⟨_,get,?_⟩;refine gV ?_;refine .pure _ [] (RC x.g) ?_;refine gV ?_;refine .sole rfl (.eff [] [1,2] _ _ rfl (Y5 c x.g.ten (dem x.g) L d) ?_);exact zW
def MD (c:Con) (a:c.sm) (l:List Rn) (hl:l.length<=1048576):ar 54 [c.av,.slice 14 (rav l) .no] [] (.ret (.slice 3 (vav (ofL c l)) .no)) []:=by refine c_ Tryz.f54 λ_=>?_;refine gV ?_;refine .pure _ [_,_] (aJz c a) ?_;refine gV ?_;exact To.cut [5,10,11,12] 3 rfl rfl rfl rfl (aFA c a l hl _ l.length 0 [] o_ rfl)
def lvF (ns:List Nod):Nat->Nat->List Int
 | 0,_=>[]
 | m+1,i=>if bB ns (i:Int)=true then (i:Int)::lvF ns m (i+1) else lvF ns m (i+1)
def rY (ns:List Nod):List Int:=lvF ns ns.length 0
def IY (ns:List Nod):∀ (m i:Nat),(lvF ns m i).length<=m
 | 0,_=>by simp [lvF]
 | m+1,i=>by
  have:=IY ns m (i+1);unfold lvF;split
  .simp;omega
  .omega
noncomputable abbrev aL2:Func:=Tryz.f277
def aBO (c:Con) (k:c.sm) (R:List Int):∀ (m i:Nat) (a:List Int),i+m=c.ns.length->a.length<=i->a++lvF c.ns m i=R->
  To (Eo [3] []) aL2 (.pure (.ret (.slice 1 (iv R) .no))) (.head (stk aL2 0) [(1,.ref 0 0),(3,.slice 1 (iv a) (.own 1 0)),(7,.int .i64 ((nav c.ns).length:Nat)),(8,.int .i64 i)] [.cells 26 c.cs,.tail 0 1 3]):=by
 have g:(nav c.ns).length=c.ns.length:=by simp
 have h1:=k.ns;intro m;induction m with
 | zero=>
  intro i a n j b;unfold lvF at b;rw [Av] at b;subst b;refine gV ?_;exact zW
 | succ m f=>
  intro i a n j b;have l:(iv a).length=a.length:=by simp
  unfold lvF at b;refine gV ?_;refine aT λ h=>?_;refine gV ?_;refine .pure _ [] (jF c i) ?_;refine gV ?_;refine Ac (λ d=>?_) (λ d=>?_)
  .have d:bB c.ns (i:Int)=true:=d;rw [if_pos d] at b;have ao:=f (i+1) (a++[(i:Int)]) o_ q_ (by rw [Af];exact b)
   have e:iv (a++[(i:Int)])=iv a++[ii i]:=by simp
   rw [e] at ao
   exact zW
  .have d:bB c.ns (i:Int)=false:=d;rw [if_neg (by rw [d];decide)] at b;have ao:=f (i+1) a o_ o_ b
   exact zW
def aJH (c:Con) (b:c.sm):ar 277 [c.av] [] (.ret (.slice 1 (iv (rY c.ns)) .no)) []:=by refine cT (E:=(Eo [3] [])) (fn:=Tryz.f277) (g:=.pure _) λ_=>?_;have a:=aBO c b _ c.ns.length 0 [] o_ s_ rfl;exact zW
def ZW (ns:List Nod):∀ (f:Nat) (n x:Int),x∈upF ns f n->x<=n
 | 0,n,x,h=>by simp [upF] at h
 | f+1,n,x,h=>by
  unfold upF at h;split at h
  .split at h
   .split at h
    .simp at h;omega
    .rename_i h3;rcases Bb.1 h with rfl | h
     .omega
     .have:=ZW ns f _ x h;have:¬ n<=(ns[n.toNat]).p:=λ a=>h3 (decide_eq_true a);omega
   .simp at h
  .simp at h
def O4 (ns:List Nod):∀ (f:Nat) (n:Int),(upF ns f n).Pairwise λ a b=>b<a
 | 0,n=>by simp [upF]
 | f+1,n=>by
  unfold upF;split
  .split
   .split
    .simp
    .rename_i h3;refine Cv.2 ⟨λ x c=>?_,O4 ns f _⟩;have:=ZW ns f _ x c;have:¬ n<=(ns[n.toNat]).p:=λ d=>h3 (decide_eq_true d);omega
   .simp
  .simp
def vU (ns:List Nod) (n t:Int):List Int:=if n∈upL ns t then [t] else []
def bQ (ns:List Nod) (n:Int):List Int:=(rY ns).flatMap (vU ns n)
noncomputable abbrev kA:Func:=Tryz.f276
def aEu (c:Con) (n:Int) (lv:List Int) (i K:Int):List (Nat×aa):=[(1,.ptr c.cs),(2,.ptr [ii n]),(3,.ref 1 0),(5,.ref 2 0),(8,.slice 1 (iv lv) .no),(9,.int .i64 K),(10,.int .i64 i),(16,.func (.func 192) [] [.ref 3 0,.ptr c.cs])]
def qD (l:Nat) (t:Int) (G:Nat) (I:BInv) (o:ab):List ab:=[.bun G I,.cells 202 [.func (.yield l) [] []],.cells 3 [ii t],.dead,o]
abbrev busy (R:Loop):Loop:={R with state:=.busy}
def aEr (c:Con) (n t x i K:Int) (lv:List Int) (l l2 G:Nat) (I:BInv) (R:Loop) (a:R.state= .ready) (b:x≠n):
  To (El l2 [] [] []) kA (.keep 5 (.ret (.bool true)) (qD l t G I (.bun 0 (bY l2 (busy R))))) (.code [.code (rfA kA),.beginR,.code (rfB kA)] (bW (aEu c n lv i K) 17 (ii x)) (qD l t G I (.bun 0 (bY l2 R)))):=by
 refine gV ?_;refine To.beginR (k:=4) (gg:=0) rfl rfl a ?_;exact zW
def aIA (c:Con) (n t i K:Int) (lv:List Int) (l l2 G:Nat) (I a:BInv) (R:Loop) (b:R.state= .ready) (e:G=0\/G=1) (d:bN Tryz.prog (.yield l) [ii t] [.bun 0 I] (.ret (.bool true)) [.bun 1 a]):
  To (El l2 [] [] []) kA (.keep 5 (.ret (.bool true)) (qD l t (G+1) a (.bun 0 (bY l2 (busy R))))) (.code [.code (rfA kA),.beginR,.code (rfB kA)] (bW (aEu c n lv i K) 17 (ii n)) (qD l t G I (.bun 0 (bY l2 R)))):=by
 rcases e with rfl | rfl
 .exact zqha3
 .exact zqha3
def aEq (c:Con) (n t i K:Int) (lv:List Int) (l l2 G:Nat) (I a:BInv) (R:Loop) (b:R.state= .ready) (e:G=0\/G=1) (d:bN Tryz.prog (.yield l) [ii t] [.bun 0 I] (.ret (.bool false)) [.bun 1 a]):
  To (El l2 [] [] []) kA (.keep 5 (.ret (.bool false)) (qD l t (G+1) a (.bun 0 (bY l2 (busy R))))) (.code [.code (rfA kA),.beginR,.code (rfB kA)] (bW (aEu c n lv i K) 17 (ii n)) (qD l t G I (.bun 0 (bY l2 R)))):=by
 rcases e with rfl | rfl
 .exact zqha3
 .exact zqha3
def wT {P:Program} {l:Nat} {J:BInv} {n:Int} (hs:∀ x,x≠n->bN P (.yield l) [ii x] [.bun 0 J] (.ret (.bool true)) [.bun 1 J]):∀ (xs:List Int),n∉xs->Ylds P l xs J J true
 | [],_=>.nil _
 | x::r,h=>.next x r _ _ _ _ (hs x λ e=>h (by simp [e])) (wT hs r λ e=>h (by simp [e]))
def A8 {P:Program} {l:Nat} {J J1:BInv} {n:Int} {b:Bool} (hs:∀ x,x≠n->bN P (.yield l) [ii x] [.bun 0 J] (.ret (.bool true)) [.bun 1 J]) (c:bN P (.yield l) [ii n] [.bun 0 J] (.ret (.bool b)) [.bun 1 J1])
  (h1:b=true->∀ x,x≠n->bN P (.yield l) [ii x] [.bun 0 J1] (.ret (.bool true)) [.bun 1 J1]):∀ (xs:List Int),xs.Pairwise (λ a b=>b<a)->n∈xs->Ylds P l xs J J1 b
 | [],_,h=>by simp at h
 | x::r,hp,h=>by
  rw [Cv] at hp;by_cases d:x=n
  .subst d;cases b with
   | true=>exact .next x r _ _ _ _ c (wT (h1 rfl) r λ e=>by have:=hp.1 x e;omega)
   | false=>exact .stop x r _ _ c
  .exact .next x r _ _ _ _ (hs x d) (A8 hs c h1 r hp.2 ((Bb.1 h).resolve_left λ e=>d e.symm))
def tnJ (c:Con) (n t i K:Int) (lv:List Int) (l l2:Nat) (ob0:Hs) (R a:Loop) (G:Nat) (I:BInv):BInv:=iZ ob0 (aEu c n lv i K) R (qD l t G I (.bun 0 (bY l2 a)))
def uN {e d:Code} (c:Con) (n t x i K:Int) (lv:List Int) (l l2 G:Nat) (ob0:Hs) (I:BInv) (R:Loop) (a:RecOK kA 17 e d R) (g:rfA kA=e) (f:rfB kA=d) (h:x≠n):
  bN Tryz.prog (.yield l2) [ii x] [.bun 0 (tnJ c n t i K lv l l2 ob0 R R G I)] (.ret (.bool true)) [.bun 1 (tnJ c n t i K lv l l2 ob0 R R G I)]:=by
 subst g f;exact gI (E:=Ex [] [] []) (fn:=kA) (k:=4) (n:=5) (p:=17) (gg:=0) (L':=qD l t G I (.bun 0 (bY l2 (busy R)))) (b:=true) a.params a.ready a.pend a.assign a.body a.size rfl rfl rfl rfl rfl rfl rfl λ_=>aEr c n t x i K lv l l2 G I R a.ready h
def SX {h g:Code} (c:Con) (n t i K:Int) (lv:List Int) (l l2 G:Nat) (ob0:Hs) (I d:BInv) (R:Loop) (b:Bool) (a:RecOK kA 17 h g R) (m:rfA kA=h) (j:rfB kA=g) (f:G=0\/G=1) (e:bN Tryz.prog (.yield l) [ii t] [.bun 0 I] (.ret (.bool b)) [.bun 1 d]):
  bN Tryz.prog (.yield l2) [ii n] [.bun 0 (tnJ c n t i K lv l l2 ob0 R R G I)] (.ret (.bool b)) [.bun 1 (tnJ c n t i K lv l l2 ob0 R (kV R b) (G+1) d)]:=by
 subst m j;cases b with
 | true=>exact gI (E:=Ex [] [] []) (fn:=kA) (k:=4) (n:=5) (p:=17) (gg:=0) (L':=qD l t (G+1) d (.bun 0 (bY l2 (busy R)))) (b:=true) a.params a.ready a.pend a.assign a.body a.size rfl rfl rfl rfl rfl rfl rfl λ_=>aIA c n t i K lv l l2 G I d R a.ready f e
 | false=>exact gI (E:=Ex [] [] []) (fn:=kA) (k:=4) (n:=5) (p:=17) (gg:=0) (L':=qD l t (G+1) d (.bun 0 (bY l2 (busy R)))) (b:=false) a.params a.ready a.pend a.assign a.body a.size rfl rfl rfl rfl rfl rfl rfl λ_=>aEq c n t i K lv l l2 G I d R a.ready f e
def Z7 (c:Con) (Q:c.sm) (n:Int) (l:Nat) (lv:List Int) (j:BInv) (b:Bool) (S:lv.length<=1048576):∀ (m i:Nat) (G:Nat) (I:BInv),i+m=lv.length->(G=0\/G=1)->Ylds Tryz.prog l ((lv.drop i).flatMap (vU c.ns n)) I j b->
  ∃ f,To E kA (.full 1 (.ret (.tup [])) [.bun f j]) (.head (stk kA 0) [(1,.ptr c.cs),(2,.ptr [ii n]),(3,.ref 1 0),(8,.slice 1 (iv lv) .no),(9,.int .i64 ((iv lv).length:Nat)),(10,.int .i64 i)] [.bun G I,.cells 202 [.func (.yield l) [] []]]):=by
 have O:(iv lv).length=lv.length:=by simp
 have M:((nav c.ns).length:Int)<=9223372036854775807:=by have:=Q.ns;simp only [Ch];omega
 intro m;induction m with
 | zero=>
  intro i G I V p d;rw [Ah o_] at d;have d:Ylds Tryz.prog l [] I j b:=d;cases d;rcases p with rfl | rfl
  .refine ⟨0,?_⟩;refine gV ?_;exact zW
  .refine ⟨1,?_⟩;refine gV ?_;exact zW
 | succ m N=>
  intro i G I V p d;have B:i<lv.length:=o_;rw [Ae B,Jm] at d;generalize o:lv[i]=t at d;have get:(iv lv)[i]? =some (ii t):=(fJ B).trans (by rw [o])
  -- what the loop within comes to
  have key:∃ (f u:Nat) (C:BInv) (k:Bool),(k=true->(u=G\/u=G+1)/\To E kA (.full 1 (.ret (.tup [])) [.bun f j]) (.head (stk kA 0) [(1,.ptr c.cs),(2,.ptr [ii n]),(3,.ref 1 0),(8,.slice 1 (iv lv) .no),(9,.int .i64 ((iv lv).length:Nat)),(10,.int .i64 ((i:Int)+1))] [.bun (if u=0 then 0 else 1) C,.cells 202 [.func (.yield l) [] []]]))/\(k=false->u=G+1/\f=1/\C=j)/\
    ∀ (l2:Nat) (ob0:Hs) (R:Loop) (z w:Code),RecOK kA 17 z w R->rfA kA=z->rfB kA=w->Ylds Tryz.prog l2 (upL c.ns t) (tnJ c n t i ((iv lv).length:Nat) lv l l2 ob0 R R G I) (tnJ c n t i ((iv lv).length:Nat) lv l l2 ob0 R (kV R k) u C) k:=by
   unfold vU at d;have y:(upL c.ns t).Pairwise λ a b=>b<a:=O4 _ _ _;by_cases v:n∈upL c.ns t
   .rw [if_pos v] at d;have d:Ylds Tryz.prog l (t::(lv.drop (i+1)).flatMap (vU c.ns n)) I j b:=d;cases d with
    | stop _ _ _ _ s=>
     refine ⟨1,G+1,j,false,(λ h=>by cases h),λ_=>⟨rfl,rfl,rfl⟩,λ l2 ob0 R z w g r q=>?_⟩;exact A8 (λ x o=>uN c n t x i _ lv l l2 G ob0 I R g r q o) (SX c n t i _ lv l l2 G ob0 I j R false g r q p s) (λ h=>by cases h) _ y v
    | next _ _ _ D _ _ s T=>
     obtain ⟨f,e⟩:=N (i+1) 1 D o_ (.inr rfl) T;refine ⟨f,G+1,D,true,λ_=>⟨.inr rfl,?_⟩,(λ h=>by cases h),λ l2 ob0 R z w g r q=>?_⟩
     .rw [if_neg o_];exact e
     .exact A8 (λ x o=>uN c n t x i _ lv l l2 G ob0 I R g r q o) (SX c n t i _ lv l l2 G ob0 I D R true g r q p s) (λ_ x o=>uN c n t x i _ lv l l2 (G+1) ob0 D R g r q o) _ y v
   .rw [if_neg v] at d;have d:Ylds Tryz.prog l ((lv.drop (i+1)).flatMap (vU c.ns n)) I j b:=d;obtain ⟨f,e⟩:=N (i+1) G I o_ p d;refine ⟨f,G,I,true,λ_=>⟨.inl rfl,?_⟩,(λ h=>by cases h),λ l2 ob0 R z w g r q=>?_⟩
    .rcases p with rfl | rfl
     .exact e
     .exact e
    .exact wT (λ x o=>uN c n t x i _ lv l l2 G ob0 I R g r q o) _ v
  obtain ⟨f,u,C,k,H,F,L⟩:=key;refine ⟨f,?_⟩;refine gV ?_;refine aT λ h=>?_;refine gV ?_;refine ⟨i,rfl,?_⟩;refine gV ?_;refine ⟨_,get,?_⟩;refine gV ?_;refine .pure _ [.cells 3 [ii t]] (SK c t) ?_;refine gV ?_;refine To.cutC [1,2,3,5,8,9,10,16] 4 rfl rfl rfl rfl ?_;refine To.range [3] rfl rfl (λ_ _=>by rfl) rfl (λ_ _=>rfl) rfl λ l2 ob0 R _ g=>?_;obtain ⟨X,U,J⟩:=HW l2 c t _ _ k M (L l2 ob0 R _ _ g rfl rfl);refine ⟨qD l t u C (.bun 0 (bY l2 (kV R k))),k,_,[.cells 3 [X]],U,J,rfl,rfl,?_⟩;cases k with
  | false=>
   obtain ⟨Y,W,P⟩:=F rfl;subst Y W P;rcases p with rfl | rfl
   .refine gV ?_;refine ⟨[],[0],⟨rfl,rfl⟩,⟨rfl,rfl⟩⟩
   .refine gV ?_;refine ⟨[],[0],⟨rfl,rfl⟩,⟨rfl,rfl⟩⟩
  | true=>
   obtain ⟨K,e⟩:=H rfl;refine gV ?_;refine aJ ?_;refine gV ?_;refine To.part [1,2,3,8,9,10] [0,1] rfl rfl rfl ?_;rcases p with rfl | rfl<;>rcases K with rfl | rfl<;>exact e
def Z6 (c:Con) (e:c.sm) (n:Int) (l:Nat) (I d:BInv) (b:Bool) (k:Ylds Tryz.prog l (bQ c.ns n) I d b):∃ i,ar 276 [.func (.yield l) [] [],.ptr c.cs,.ptr [ii n]] [.bun 0 I] (.ret (.tup [])) [.bun i d]:=by have a:(rY c.ns).length<=1048576:=Cz (IY _ _ _) e.ns;obtain ⟨i,h⟩:=Z7 c e n l (rY c.ns) d b a (rY c.ns).length 0 0 I o_ (.inl rfl) k;refine ⟨i,?_⟩;refine cT (E:=E) (fn:=Tryz.f276) (g:=.full 1 _ _) λ_=>?_;have j:=aJH c e;exact zW
def BH (c:Con) (n:Int):ar 246 [c.av,ii n] [] (.ret (.func (.func 276) [] [.ptr c.cs,.ptr [ii n]])) []:=by exact c_ Tryz.f246 λ_=>zW
def KE {P:Program} {l:Nat} (F:List Int->BInv) (h:∀ (a:List Int) x,a.length<1048576->bN P (.yield l) [ii x] [.bun 0 (F a)] (.ret (.bool true)) [.bun 1 (F (a++[x]))]):∀ (xs a:List Int),a.length+xs.length<=1048576->Ylds P l xs (F a) (F (a++xs)) true
 | [],a,_=>by rw [Av];exact .nil _
 | x::r,a,hl=>by have:=KE F h r (a++[x]) (by simp at hl⊢;omega);rw [Af] at this;exact .next x r _ _ _ _ (h a x (by simp at hl;omega)) this
noncomputable abbrev pZ:Func:=Tryz.f266
abbrev WO (c:Con) (n:Int):aa:=.func (.func 276) [] [.ptr c.cs,.ptr [ii n]]
def aKQ (f:aa):List (Nat×aa):=[(2,.ref 0 0),(6,f)]
def sU (a:List Int) (g:Nat) (o:ab):List ab:=[.cells 48 [.slice 1 (iv a) (.own 1 g)],.tail g 1 3,o]
def ZB (f:aa) (a:List Int) (x:Int) (hl:a.length<1048576) (l:Nat) (R:Loop) (b:R.state= .ready):
  To (El l [] [] []) pZ (.keep 3 (.ret (.bool true)) (sU (a++[x]) 1 (.bun 0 (bY l (busy R))))) (.code [.code (rfA pZ),.beginR,.code (rfB pZ)] (bW (aKQ f) 7 (ii x)) (sU a 0 (.bun 0 (bY l R)))):=by
 exact zqha4
def ZA (f:aa) (a:List Int) (x:Int) (hl:a.length<1048576) (l:Nat) (R:Loop) (b:R.state= .ready):
  To (El l [] [] []) pZ (.keep 3 (.ret (.bool true)) (sU (a++[x]) 2 (.bun 0 (bY l (busy R))))) (.code [.code (rfA pZ),.beginR,.code (rfB pZ)] (bW (aKQ f) 7 (ii x)) (sU a 1 (.bun 0 (bY l R)))):=by
 exact zqha4
def gOf:List Int->Nat
 | []=>0
 | _::_=>1
def aCw (a:List Int) (x:Int):gOf (a++[x])=1:=by cases a<;>rfl
def apJ (f:aa) (ob0:Hs) (R:Loop) (l:Nat) (a:List Int):BInv:=iZ ob0 (aKQ f) R (sU a (gOf a) (.bun 0 (bY l R)))
def aDV {g e:Code} (f:aa) (i:∀ og,cvtV 3 [0,1,2] og 5 f=f) (ob0:Hs) (l:Nat) (R:Loop) (d:List Int) (x:Int) (hl:d.length<1048576) (h1:∀ hs∈ob0,hs.length=1) (m:ob0.length=0) (c:RecOK pZ 7 g e R) (j:rfA pZ=g) (h:rfB pZ=e):
  bN Tryz.prog (.yield l) [ii x] [.bun 0 (apJ f ob0 R l d)] (.ret (.bool true)) [.bun 1 (apJ f ob0 R l (d++[x]))]:=by
 subst j h;unfold apJ;rw [aCw];cases d with
 | nil=>exact gI (E:=Ex [] [] []) (fn:=pZ) (k:=2) (n:=3) (p:=7) (gg:=0) (L':=sU ([]++[x]) 1 (.bun 0 (bY l (busy R)))) (b:=true) c.params c.ready c.pend c.assign c.body c.size rfl rfl rfl rfl rfl rfl rfl λ_=>ZB f [] x hl l R c.ready
 | cons a r=>
  have:=gI (E:=Ex [] [] []) (fn:=pZ) (ob0:=ob0) (k:=2) (n:=3) (p:=7) (gg:=0) (L:=sU (a::r) 1 (.bun 0 (bY l R))) (L':=sU ((a::r)++[x]) 2 (.bun 0 (bY l (busy R)))) (b:=true) c.params c.ready c.pend c.assign c.body c.size rfl rfl rfl rfl rfl rfl rfl λ_=>ZA f (a::r) x hl l R c.ready;refine this.bunTo (aDy (n:=3) rfl h1 o_ rfl ?_ rfl);show [(2,aa.ref 0 0),(6,cvtV 3 [0,1,2] _ 5 f)]=_;rw [i];rfl
def aKP (c:Con) (d:c.sm) (n:Int) (e:(bQ c.ns n).length<=1048576):ar 266 [.nilslice,WO c n] [] (.ret (.slice 1 (iv (bQ c.ns n)) .no)) []:=by refine c_ Tryz.f266 λ_=>?_;refine gV ?_;refine To.cutC [2,6] 1 rfl rfl rfl rfl ?_;refine To.mapO (aFK 1) (MJ 1) ?_;refine To.beginC 0 0 3 rfl rfl ?_;refine To.range [] rfl rfl (λ_ _=>by rfl) rfl (λ_ _=>rfl) rfl λ l ob0 R hst i=>?_;obtain ⟨h,a⟩:=Z6 c d n l _ _ true (KE (P:=Tryz.prog) (l:=l) (apJ (WO c n) ob0 R l) (λ b x hl=>aDV (WO c n) (λ_=>rfl) ob0 l R b x hl (hst.2 rfl) hst.1 i rfl rfl) (bQ c.ns n) [] (by simpa using e));rw [Bn] at a;refine ⟨_,true,_,[],h,a,rfl,rfl,?_⟩;exact zW
def RQ (c:Con) (b:c.sm) (n:Int) (d:(bQ c.ns n).length<=1048576):ar 228 [WO c n] [] (.ret (.slice 1 (iv (bQ c.ns n)) .no)) []:=by refine c_ Tryz.f228 λ_=>?_;have a:=aKP c b n d;exact zW
def aGq (ns:List Nod) (n t:Int):(vU ns n t).length<=1:=by unfold vU;split<;>simp
def yG (c:Con) (a:c.sm) (n:Int):(bQ c.ns n).length<=1048576:=by
 have h:∀ (l:List Int),(l.flatMap (vU c.ns n)).length<=l.length:=by
  intro l;induction l with
  | nil=>simp
  | cons x r b=>
   have:=aGq c.ns n x;simp only [Jm,Ai,Al];omega
 exact Cz (h _) (Cz (IY _ _ _) a.ns)
def OM (c:Con) (b:c.sm) (n:Int):ar 247 [c.av,ii n] [] (.ret (.slice 1 (iv (bQ c.ns n)) .no)) []:=by refine c_ Tryz.f247 λ_=>?_;have a:=BH c n;have d:=RQ c b n (yG c b n);exact zW
def atV (l:List V3) (n:Int):V3:=if decide (n<0)=true then V3.zero else (l[n.toNat]?).getD V3.zero
def aHN (l:List V3) (n:Int) (r:V3) (a:atV l n=r):ar 187 [.slice 3 (vav l) .no,ii n] [] (.ret r.av) []:=by
 have c:(vav l).length=l.length:=by simp
 unfold atV at a;by_cases h1:n<0
 .rw [if_pos (decide_eq_true h1)] at a;subst a;exact zqha11
 .rw [if_neg (by rw [decide_eq_false h1];decide)] at a;by_cases b:n.toNat<l.length
  .rw [Aa b] at a;have a:l[n.toNat]=r:=a;have get:(vav l)[n.toNat]? =some r.av:=(uJ b).trans (by rw [a]);have d:n=(n.toNat:Int):=o_;exact zqha11
  .rw [Bk o_] at a;have a:V3.zero=r:=a;subst a;exact zqha11
def D6 (l:List V3) (n:Int):ar 187 [.slice 3 (vav l) .no,ii n] [] (.ret (atV l n).av) []:=aHN l n _ rfl
def WG (a b:V3) (r:Bool) (c:cR a b=r):ar 186 [a.av,b.av] [] (.ret (.bool r)) []:=by
 unfold cR at c;refine c_ Tryz.f186 λ_=>?_;refine gV ?_
 repeat' first
  | (refine gW hE ?_;conv=>whnf)
  | exact c
  | refine aY ?_
  | refine aN ?_
  | refine Ac (λ h=>?_) (λ h=>?_)
  | refine aJ ?_
  | refine Ao _ (Ac rfl ?_)
  | refine Ac d_ ?_
 all_goals (rw [<-c];simp_all)
def kR (a b:V3):ar 186 [a.av,b.av] [] (.ret (.bool (cR a b))) []:=WG a b _ rfl
def uF (a b:V3):ar 223 [a.av,b.av] [] (.ret (.bool (!cR a b))) []:=by refine c_ Tryz.f223 λ_=>?_;have c:=kR a b;exact zW
noncomputable abbrev aGG:Func:=Tryz.f189
def smS (l:List V3) (v:V3) (t:Int):V3:=fO v (atV l t)
def kS (ns:List Nod) (n:Int) (l:List V3):V3:=(bQ ns n).foldl (smS l) V3.zero
def aLb (f:aa):List (Nat×aa):=[(5,.ref 1 0),(6,.ref 2 0),(7,.ref 3 0),(11,f)]
def S9 (c:Con) (l:List V3) (v:V3) (o:ab):List ab:=[.cells 26 c.cs,.cells 115 [.slice 3 (vav l) .no],.cells 43 V3.zero.cs,.cells 43 v.cs,o]
def aAr (c:Con) (n:Int) (l:List V3) (v:V3) (x:Int) (k:Nat) (R:Loop) (d:R.state= .ready):
  To (El k [] [] []) aGG (.keep 5 (.ret (.bool true)) (S9 c l (smS l v x) (.bun 0 (bY k (busy R))))) (.code [.code (rfA aGG),.beginR,.code (rfB aGG)] (bW (aLb (WO c n)) 12 (ii x)) (S9 c l v (.bun 0 (bY k R)))):=by
 refine gV ?_;refine To.beginR (k:=4) (gg:=0) rfl rfl d ?_;have b:=D6 l x;have a:=iB v (atV l x);exact zW
def aAc (c:Con) (e:c.sm) (n:Int) (l:List V3):ar 189 [c.av,ii n,.slice 3 (vav l) .no] [] (.ret (kS c.ns n l).av) []:=by refine c_ Tryz.f189 λ_=>?_;refine gV ?_;refine .pure _ [] (BH c n) ?_;refine gV ?_;refine To.cutC [5,6,7,11] 4 rfl rfl rfl rfl ?_;refine To.range [] rfl rfl (λ_ _=>by rfl) rfl (λ_ _=>rfl) rfl λ k ob0 R hst a=>?_;obtain ⟨h,d⟩:=Z6 c e n k _ _ true (A9 (P:=Tryz.prog) (l:=k) (λ v=>iZ ob0 (aLb (WO c n)) R (S9 c l v (.bun 0 (bY k R)))) (smS l) (λ v x=>gI (E:=Ex [] [] []) (fn:=aGG) (k:=4) (n:=5) (p:=12) (gg:=0) (L':=S9 c l (smS l v x) (.bun 0 (bY k (busy R)))) (b:=true) a.params a.ready a.pend a.assign a.body a.size rfl rfl rfl rfl rfl rfl rfl λ_=>aAr c n l v x k R a.ready) (bQ c.ns n) V3.zero);refine ⟨_,true,_,[],h,d,rfl,rfl,?_⟩;exact zW
def Con.ok (c:Con) (n:Int):Prop:=0<=n/\n.toNat<c.ns.length
def IX (ns:List Nod):∀ (m i:Nat) (x:Int),x∈lvF ns m i->(i:Int)<=x/\x<i+m
 | 0,_,_,h=>by simp [lvF] at h
 | m+1,i,x,h=>by
  have a:=IX ns m (i+1) x;unfold lvF at h;split at h
  .rcases Bb.1 h with rfl | h
   .omega
   .have:=a h;omega
  .have:=a h;omega
def kO (c:Con) (n x:Int) (h:x∈bQ c.ns n):c.ok x:=by
 unfold bQ at h;obtain ⟨t,h1,a⟩:=List.mem_flatMap.1 h;have:x=t:=by
  unfold vU at a;split at a
  .simpa using a
  .simp at a
 subst this;have:=IX c.ns c.ns.length 0 x h1;exact ⟨by omega,by omega⟩
def HU (c:Con):∀ (f:Nat) (n x:Int),x∈upF c.ns f n->c.ok x
 | 0,_,_,h=>by simp [upF] at h
 | f+1,n,x,h=>by
  have b:=λ p=>HU c f p x;unfold upF at h;split at h
  .rename_i h1;split at h
   .rename_i a;split at h
    .simp at h;subst h;exact ⟨of_decide_eq_true h1,a⟩
    .rcases Bb.1 h with rfl | h
     .exact ⟨of_decide_eq_true h1,a⟩
     .exact b _ h
   .simp at h
  .simp at h
def cW (ns:List Nod) (n:Int):Nod:=(ns[n.toNat]?).getD ⟨0,0,V3.zero,V3.zero,V3.zero⟩
def vL {c:Con} {n:Int} (h:c.ok n):(nav c.ns)[n.toNat]? =some (cW c.ns n).av:=by unfold cW;rw [Aa h.2];exact kL h.2
def aJi (v:V3):V3:=⟨max v.a 0,max v.b 0,max v.c 0⟩
def F4 (ns:List Nod) (a:List V3) (t:Int) (v:V3) (s:Int):V3:=if decide (s=t)=true then v else fO v (aJi (EI (EI (cW ns s).n (cW ns s).l) (atV a s)))
def F5 (ns:List Nod) (a:List V3) (n t:Int):V3:=(bQ ns n).foldl (F4 ns a t) V3.zero
noncomputable abbrev aIf:Func:=Tryz.f190
def XR (c:Con) (a:List V3) (t:Int) (bl:List Int) (y:bl.length<=1048576) (q:∀ x∈bl,c.ok x) (R:V3):∀ (m i:Nat) (v:V3),i+m=bl.length->(bl.drop i).foldl (F4 c.ns a t) v=R->
  To E aIf (.pure (.ret R.av)) (.head (stk aIf 0) [(1,.slice 3 (vav a) .no),(3,ii t),(4,.ref 0 0),(8,.ref 1 0),(9,.ref 2 0),(18,.slice 1 (iv bl) .no),(19,.int .i64 ((iv bl).length:Nat)),(20,.int .i64 i)] [.cells 26 c.cs,.cells 43 V3.zero.cs,.cells 43 v.cs]):=by
 have k:(iv bl).length=bl.length:=by simp
 intro m;induction m with
 | zero=>
  intro i v r f;rw [Ah o_] at f;subst f;refine gV ?_;exact zW
 | succ m p=>
  intro i v r f;have e:i<bl.length:=o_;rw [Ae e,Ba] at f;have b:=q _ (Bh e);generalize w:bl[i]=s at f b;have get:(iv bl)[i]? =some (ii s):=(fJ e).trans (by rw [w]);have j:=vL b;have o:s=(s.toNat:Int):=by have:=b.1;omega
  have ao:=p (i+1) _ o_ f
  unfold F4 at ao
  generalize cW c.ns s=x at j ao
  refine gV ?_;refine aT λ h=>?_;refine gV ?_;refine ⟨i,rfl,?_⟩;refine gV ?_;refine ⟨_,get,?_⟩;refine gV ?_;refine Ac (λ d=>?_) (λ d=>?_)
  .have d:decide (s=t)=true:=d;rw [if_pos d] at ao
   exact zW
  .have d:decide (s=t)=false:=d;rw [if_neg (by rw [d];decide)] at ao
   refine gV ?_;refine ⟨s.toNat,o,?_⟩;refine gV ?_;refine ⟨_,j,?_⟩;refine gV ?_;refine .pure _ [] (HR x.n x.l) ?_;refine gV ?_;refine .pure _ [] (D6 a s) ?_;refine gV ?_;refine .pure _ [] (HR (EI x.n x.l) (atV a s)) ?_;generalize EI (EI x.n x.l) (atV a s)=u at ao⊢
   refine gV ?_;refine gV ?_;refine aY ?_;refine gV ?_;refine ⟨by decide,?_⟩;refine gV ?_;refine ⟨by decide,?_⟩;refine gV ?_;refine aJ ?_;refine gV ?_;refine gV ?_;refine aY ?_;refine gV ?_;refine ⟨by decide,?_⟩;refine gV ?_;refine ⟨by decide,?_⟩;refine gV ?_;refine aJ ?_;refine gV ?_;refine gV ?_;refine aY ?_;refine gV ?_;refine ⟨by decide,?_⟩;refine gV ?_;refine ⟨by decide,?_⟩;refine gV ?_;refine aJ ?_;refine gV ?_;refine gV ?_;have g:=iB v (aJi u);exact zW
def aF7 (c:Con) (d:c.sm) (a:List V3) (n t:Int):ar 190 [c.av,.slice 3 (vav a) .no,ii n,ii t] [] (.ret (F5 c.ns a n t).av) []:=by refine c_ Tryz.f190 λ_=>?_;have e:=OM c d n;have b:=XR c a t _ (yG c d n) (λ x h=>kO c n x h) _ (bQ c.ns n).length 0 V3.zero o_ rfl;exact zW
noncomputable abbrev aL1:Func:=Tryz.f191
def pR (ns:List Nod):List V3:=(Di ns.length).map λ i:Nat=>(cW ns (i:Int)).n
def aBz (c:Con) (a:c.sm) (n:Int) (K:Int) (k:K=((nav c.ns).length:Nat)):∀ (m i:Nat),i+m=c.ns.length->
  To E aL1 (.pure (.ret (kS c.ns n (pR c.ns)).av)) (.head (stk aL1 0) [(1,ii n),(2,.ref 0 0),(4,.ref 1 0),(5,.row 2 0),(13,.slice 11 (nav c.ns) .no),(14,.int .i64 K),(15,.int .i64 i)] [.cells 26 c.cs,.cells 43 V3.zero.cs,.row 0 3 43 (vav (jT (λ i:Nat=>(cW c.ns (i:Int)).n) i m))]):=by
 have f:(nav c.ns).length=c.ns.length:=by simp
 have h1:=a.ns;intro m;induction m with
 | zero=>
  intro i b;have e:jT (λ i:Nat=>(cW c.ns (i:Int)).n) i 0=pR c.ns:=by rw [DJ];unfold pR;rw [<-b];rfl
  rw [e];refine gV ?_;have d:=aAc c a n (pR c.ns);exact zW
 | succ m j=>
  intro i b;have hl:(vav (jT (λ i:Nat=>(cW c.ns (i:Int)).n) i (m+1))).length=i+(m+1):=by rw [Ch,DI]
  have hs:=DH (λ i:Nat=>(cW c.ns (i:Int)).n) i m;have g:(nav c.ns)[i]? =some (cW c.ns (i:Int)).av:=vL (c:=c) (n:=(i:Int)) ⟨by omega,by omega⟩;have ao:=j (i+1) o_
  exact zqha5
def aBy (c:Con) (b:c.sm) (n:Int):ar 191 [c.av,ii n] [] (.ret (kS c.ns n (pR c.ns)).av) []:=by
 have h1:=b.ns;have a:(nav c.ns).length=c.ns.length:=by simp
 refine c_ Tryz.f191 λ_=>?_;refine gV ?_;refine ⟨c.ns.length,by rw [a],?_⟩;refine gV ?_;refine ⟨⟨rfl,by omega,by simp only [maxLen];omega⟩,?_⟩;refine gV ?_;have ao:=aBz c b n _ rfl c.ns.length 0 o_
 rw [xQ] at ao
 exact To.cut [1,2,4,5,13,14,15] 3 rfl rfl rfl rfl ao
abbrev aBk (c:Con) (used:List V3) (need:V3):aa:=.func (.func 185) [] [.ptr c.cs,.ptr [.slice 3 (vav used) .no],.ptr need.cs]
abbrev aDY (c:Con) (used:List V3) (need:V3) (t:Int):aa:=.func (.func 188) [] [.ptr c.cs,.ptr [.slice 3 (vav used) .no],.ptr need.cs,.ptr [ii t]]
def aFx (c:Con) (a:List V3) (need:V3) (n:Int):Bool:=cR (fO (atV a n) need) (fO (cW c.ns n).n (cW c.ns n).b)
def aHZ (c:Con) (a:List V3) (need:V3) (t n:Int):Bool:=cR (fO (fO (kS c.ns n a) need) (F5 c.ns a n t)) (kS c.ns n (pR c.ns))
def IL (c:Con) (a:List V3) (need:V3) (n:Int) (h:c.ok n):ar 185 [ii n,.ptr c.cs,.ptr [.slice 3 (vav a) .no],.ptr need.cs] [] (.ret (.bool (aFx c a need n))) []:=by
 have j:=vL h;have m:n=(n.toNat:Int):=by have:=h.1;omega
 unfold aFx;generalize cW c.ns n=x at j⊢;refine c_ Tryz.f185 λ_=>?_;have d:=D6 a n;have i:=iB (atV a n) need;have e:=iB x.n x.b;have hz2:=λ k l=>kR k l;exact zW
def A2 (c:Con) (b:c.sm) (a:List V3) (need:V3) (t n:Int):ar 188 [ii n,.ptr c.cs,.ptr [.slice 3 (vav a) .no],.ptr need.cs,.ptr [ii t]] [] (.ret (.bool (aHZ c a need t n))) []:=by unfold aHZ;refine c_ Tryz.f188 λ_=>?_;have h:=aAc c b n a;have e:=iB (kS c.ns n a) need;have i:=aF7 c b a n t;have j:=iB (fO (kS c.ns n a) need) (F5 c.ns a n t);have d:=aBy c b n;have hz2:=λ k l=>kR k l;exact zW
noncomputable abbrev aLW:Func:=Tryz.f118
def ruO (c:Con) (a:List V3) (need:V3) (t:Int):List ab:=[.cells 26 c.cs,.cells 115 [.slice 3 (vav a) .no],.cells 3 [ii t],.cells 43 need.cs,.cells 204 [.nilfunc],.cells 204 [.nilfunc],
 .cells 204 [.func (.func 185) [] [.ref 0 0,.ref 1 0,.ref 3 0]],.cells 204 [.func (.func 188) [] [.ref 0 0,.ref 1 0,.ref 3 0,.ref 2 0]]]
def aI3 (c:Con) (a:List V3) (need:V3) (t:Int):List ab:=[.fcells c.cs,.fcells [.slice 3 (vav a) .no],.fcells [ii t],.fcells need.cs,.cells 204 [.nilfunc],.cells 204 [.nilfunc],
 .fcells [aBk c a need],.fcells [aDY c a need t]]
def aI2 (c:Con) (a:List V3) (need:V3) (t:Int):aj [6,7] (ruO c a need t)=aI3 c a need t:=by kernel_rfl
def aEZ (c:Con) (a:List V3) (need:V3) (t:Int):vZ [10,11] (aC (aI3 c a need t)) [(8,.ref 4 0),(9,.ref 5 0),(10,.ref 6 0),(11,.ref 7 0)]=[(8,.ref 4 0),(9,.ref 5 0),(10,.ptr [aBk c a need]),(11,.ptr [aDY c a need t])]:=by kernel_rfl
def aEY {g:Goal} {ks:List KI} (c:Con) (a:List V3) (need:V3) (t:Int) (h:To (Er [] [16,17]) aLW g (.code ks [(8,.ref 4 0),(9,.ref 5 0),(10,.ptr [aBk c a need]),(11,.ptr [aDY c a need t])] (aI3 c a need t))):
  To (Er [] [16,17]) aLW g (.code ks [(8,.ref 4 0),(9,.ref 5 0),(10,.ref 6 0),(11,.ref 7 0)] (ruO c a need t)):=by
 refine To.frz [10,11] [6,7] ?_;rw [aI2,aEZ];exact h
def aAC (c:Con) (a:List V3) (need:V3) (t:Int):ar 118 [c.av,.slice 3 (vav a) .no,ii t,need.av] [] (.ret (.tup [.agg [aBk c a need],.agg [aDY c a need t]])) []:=by
 refine cT (E:=(Er [] [16,17])) (fn:=Tryz.f118) (g:=.pure _) λ_=>?_;refine cO (hEr [] [16,17]) 51 ?_;conv=>whnf
 refine To.cutC [8,9,10,11] 8 rfl rfl rfl rfl ?_;refine aEY c a need t ?_;exact zW
def E3 {P:Program} {l:Nat} {J J1:BInv} {p:Int->Bool} {V:Int->Prop} (a:∀ x,V x->p x=true->bN P (.yield l) [ii x] [.bun 0 J] (.ret (.bool true)) [.bun 1 J]) (h1:∀ x,V x->p x=false->bN P (.yield l) [ii x] [.bun 0 J] (.ret (.bool false)) [.bun 1 J1]):
  ∀ (xs:List Int),(∀ x∈xs,V x)->Ylds P l xs J (if xs.all p=true then J else J1) (xs.all p)
 | [],_=>by simp;exact .nil _
 | x::r,hv=>by
  rw [Kd];cases hp:p x with
  | true=>
   rw [Cy];exact .next x r _ _ _ _ (a x (hv x s_) hp) (E3 a h1 r λ y b=>hv y (by simp [b]))
  | false=>
   rw [Fj,if_neg d_];exact .stop x r _ _ (h1 x (hv x s_) hp)
noncomputable abbrev NR:Func:=Tryz.f53
def P6 (c:Con) (a:List V3) (t:Int) (need:V3) (x:Int):Bool:=if decide (x=t)=true then aFx c a need x else aHZ c a need t x
def MP (c:Con) (a:List V3) (t:Int) (need:V3):Bool:=if bB c.ns t=true then (upL c.ns t).all (P6 c a t need) else false
def aFP (f:aa):List (Nat×aa):=[(6,.ref 1 0),(8,.ref 3 0),(9,.ref 4 0),(10,.ref 5 0),(26,f)]
def yW (c:Con) (a:List V3) (t:Int) (need:V3) (b:Bool) (o:ab):List ab:=[.cells 26 c.cs,.cells 3 [ii t],.cells 43 need.cs,.cells 4 [.bool b],.cells 204 [aBk c a need],.cells 204 [aDY c a need t],.dead,o]
abbrev aEl (c:Con):aa:=.func (.func 192) [] [.ref 6 0,.ptr c.cs]
def aLv (c:Con) (b:c.sm) (a:List V3) (t:Int) (need:V3) (x:Int) (d:c.ok x) (k:Nat) (R:Loop) (e:R.state= .ready) (hp:P6 c a t need x=true):
  To (El k [] [] []) NR (.keep 8 (.ret (.bool true)) (yW c a t need false (.bun 0 (bY k (busy R))))) (.code [.code (rfA NR),.beginR,.code (rfB NR)] (bW (aFP (aEl c)) 27 (ii x)) (yW c a t need false (.bun 0 (bY k R)))):=by
 exact zqha0
def aFO (c:Con) (b:c.sm) (a:List V3) (t:Int) (need:V3) (x:Int) (d:c.ok x) (k:Nat) (R:Loop) (e:R.state= .ready) (hp:P6 c a t need x=false):
  To (El k [] [] []) NR (.keep 8 (.ret (.bool false)) (yW c a t need false (.bun 0 (bY k (busy R))))) (.code [.code (rfA NR),.beginR,.code (rfB NR)] (bW (aFP (aEl c)) 27 (ii x)) (yW c a t need false (.bun 0 (bY k R)))):=by
 exact zqha0
def aFX (c:Con) (j:c.sm) (a:List V3) (t:Int) (need:V3) (r:Bool) (h:MP c a t need=r):ar 53 [c.av,.slice 3 (vav a) .no,ii t,need.av] [] (.ret (.bool r)) []:=by
 have q:((nav c.ns).length:Int)<=9223372036854775807:=by have:=j.ns;simp only [Ch];omega
 unfold MP at h;refine c_ Tryz.f53 λ_=>?_;refine gV ?_;refine .pure _ [] (jF c t) ?_;refine gV ?_;refine Ac (λ h1=>?_) (λ h1=>?_)
 .have h1:bB c.ns t=false:=vJ h1;rw [if_neg (by rw [h1];decide)] at h;subst h;exact zW
 .have h1:bB c.ns t=true:=vK h1;rw [if_pos h1] at h;refine gV ?_;refine .pure _ [] (aAC c a need t) ?_;refine gV ?_;refine .pure _ [.cells 3 [ii t]] (SK c t) ?_;refine gV ?_;refine To.cutC [6,8,9,10,26] 7 rfl rfl rfl rfl ?_;refine To.range [6] rfl rfl (λ_ _=>by rfl) rfl (λ_ _=>rfl) rfl λ k ob0 R hst d=>?_
  have i:=E3 (P:=Tryz.prog) (l:=k) (p:=P6 c a t need) (V:=c.ok) (J:=iZ ob0 (aFP (aEl c)) R (yW c a t need false (.bun 0 (bY k R)))) (J1:=iZ ob0 (aFP (aEl c)) R (yW c a t need false (.bun 0 (bY k (kV R false)))))
   (λ x o hp=>gI (E:=Ex [] [] []) (fn:=NR) (k:=7) (n:=8) (p:=27) (gg:=0) (L':=yW c a t need false (.bun 0 (bY k (busy R)))) (b:=true) d.params d.ready d.pend d.assign d.body d.size rfl rfl rfl rfl rfl rfl rfl λ_=>aLv c j a t need x o k R d.ready hp)
   (λ x o hp=>gI (E:=Ex [] [] []) (fn:=NR) (k:=7) (n:=8) (p:=27) (gg:=0) (L':=yW c a t need false (.bun 0 (bY k (busy R)))) (b:=false) d.params d.ready d.pend d.assign d.body d.size rfl rfl rfl rfl rfl rfl rfl λ_=>aFO c j a t need x o k R d.ready hp) (upL c.ns t) (λ x u=>HU c _ _ x u)
  rw [h] at i;obtain ⟨m,s,e⟩:=HW k c t _ _ r q i;cases r with
  | true=>
   refine ⟨_,true,_,[.cells 3 [m]],s,e,rfl,rfl,?_⟩;exact zW
  | false=>
   refine ⟨_,false,_,[.cells 3 [m]],s,e,rfl,rfl,?_⟩;exact zW
def aJF (c:Con) (b:c.sm) (a:List V3) (t:Int) (need:V3):ar 53 [c.av,.slice 3 (vav a) .no,ii t,need.av] [] (.ret (.bool (MP c a t need))) []:=aFX c b a t need _ rfl
def bH (hs:List Hos) (n:Int):Hos:=(hs[n.toNat]?).getD ⟨0,0,0,V3.zero⟩
def I7 {c:Con} {i:Nat} (h:i<c.hs.length):(hav c.hs)[i]? =some (bH c.hs (i:Int)).av:=by unfold bH;rw [Bt,Aa h];exact vX h
def aEh (l:List V3) (i:Nat) (v:V3):(vav l).set i v.av=vav (l.set i v):=by simp [vav,Gr]
def sS (need:V3) (xs:List V3) (h:Int):List V3:=if decide (0<=h)=true then (if decide (h<(xs.length:Int))=true then xs.set h.toNat (EI ((xs[h.toNat]?).getD V3.zero) need) else xs) else xs
def sC (need:V3) (xs:List V3) (h:Int):(sS need xs h).length=xs.length:=by unfold sS;split<;>(try split)<;>simp
def yZ (xs:List V3) (x:Rn):List V3:=x.hs.foldl (sS x.g.need) xs
def xP (x:Rn):∀ (xs:List V3),(yZ xs x).length=xs.length:=by
 unfold yZ;generalize x.hs=l;induction l with
 | nil=>intro xs;rfl
 | cons h r a=>intro xs;rw [Ba,a,sC]
def jR (c:Con) (r:List Rn):List V3:=r.foldl yZ ((Di c.hs.length).map λ i:Nat=>(bH c.hs (i:Int)).c)
noncomputable abbrev zD:Func:=Tryz.f57
abbrev frO (c:Con) (xs:List V3):List ab:=[.cells 26 c.cs,.row 0 3 43 (vav xs)]
def aGA (c:Con) (r:List Rn) (R:List V3) (x:Rn) (j:Nat) (z:x.hs.length<=1048576) (y:c.hs.length<=1048576) (O:List ab):
  ∀ (m i:Nat) (xs:List V3),xs.length=c.hs.length->i+m=x.hs.length->
   To E zD (.pure (.ret (.slice 3 (vav R) .no))) (.head (stk zD 1) [(5,.row 1 0),(30,.slice 14 (rav r) .no),(31,.int .i64 ((rav r).length:Nat)),(32,.int .i64 ((j:Int)+1))] (frO c ((x.hs.drop i).foldl (sS x.g.need) xs)))->
   j<1048576->
  To E zD (.pure (.ret (.slice 3 (vav R) .no))) (.head (stk zD 2) [(5,.row 1 0),(9,.ref 2 0),(30,.slice 14 (rav r) .no),(31,.int .i64 ((rav r).length:Nat)),(32,.int .i64 j),(37,.slice 1 (iv x.hs) .no),(38,.int .i64 ((iv x.hs).length:Nat)),(39,.int .i64 i)] (frO c xs++[.cells 107 x.cs])):=by
 have n:(iv x.hs).length=x.hs.length:=by simp
 intro m;induction m with
 | zero=>
  intro i xs l q a e;rw [Ah o_] at a;refine gV ?_;exact zW
 | succ m v=>
  intro i xs l q a e;have b:i<x.hs.length:=o_;rw [Ae b,Ba] at a;generalize s:x.hs[i]=u0 at a;have get:(iv x.hs)[i]? =some (ii u0):=(fJ b).trans (by rw [s]);have o:(vav xs).length=xs.length:=by simp
  have ao:=v (i+1) (sS x.g.need xs u0) (by rw [sC];exact l) o_ a e
  unfold sS frO at ao
  refine gV ?_;refine aT λ h=>?_;refine gV ?_;refine ⟨i,rfl,?_⟩;refine gV ?_;refine ⟨_,get,?_⟩;by_cases h1:0<=u0
  .rw [if_pos (decide_eq_true h1)] at ao
   by_cases f:u0<(xs.length:Int)
   .rw [if_pos (decide_eq_true f)] at ao
    have d:u0.toNat<xs.length:=o_;have w:u0=(u0.toNat:Int):=o_;rw [Aa d] at ao
    have p:(vav xs)[u0.toNat]? =some xs[u0.toNat].av:=uJ d;rw [show ((some xs[u0.toNat]).getD V3.zero)=xs[u0.toNat] from rfl] at ao
    generalize xs[u0.toNat]=u at p ao
    rw [<-aEh] at ao
    have k:=HR u x.g.need;exact zW
   .rw [if_neg (by rw [decide_eq_false f];decide)] at ao
    exact zW
  .rw [if_neg (by rw [decide_eq_false h1];decide)] at ao
   exact zW
def Sm (l:List Rn):Prop:=l.length<=1048576/\∀ x∈l,x.hs.length<=1048576
def Sm.at {l:List Rn} (h:Sm l) {i:Nat} (a:i<l.length):l[i].hs.length<=1048576:=h.2 _ (Bh a)
def aCA (c:Con) (j:c.sm) (r:List Rn) (f:Sm r) (R:List V3):∀ (m i:Nat) (xs:List V3),i+m=r.length->xs.length=c.hs.length->(r.drop i).foldl yZ xs=R->
  To E zD (.pure (.ret (.slice 3 (vav R) .no))) (.head (stk zD 1) [(5,.row 1 0),(30,.slice 14 (rav r) .no),(31,.int .i64 ((rav r).length:Nat)),(32,.int .i64 i)] (frO c xs)):=by
 have g:(rav r).length=r.length:=by simp
 have hl:=f.1;intro m;induction m with
 | zero=>
  intro i xs k d b;rw [Ah o_] at b;subst b;refine gV ?_;exact zW
 | succ m n=>
  intro i xs k d b;have a:i<r.length:=o_;have e:=f.at a;rw [Ae a,Ba] at b;generalize l:r[i]=x at b e;have get:(rav r)[i]? =some x.av:=(dL a).trans (by rw [l]);have ao:=n (i+1) (yZ xs x) o_ (by rw [xP];exact d) b
  refine gV ?_;refine aT λ h=>?_;refine gV ?_;refine ⟨i,rfl,?_⟩;refine gV ?_;refine ⟨_,get,?_⟩;refine gV ?_;exact To.cut [5,9,30,31,32,37,38,39] 3 rfl rfl rfl rfl (aGA c r R x i e j.hs [] x.hs.length 0 xs d o_ ao o_)
def X4 (c:Con) (a:c.sm) (r:List Rn) (f:Sm r):∀ (m i:Nat),i+m=c.hs.length->
  To E zD (.pure (.ret (.slice 3 (vav (jR c r)) .no))) (.head (stk zD 0) [(1,.slice 14 (rav r) .no),(2,.ref 0 0),(5,.row 1 0),(17,.slice 6 (hav c.hs) .no),(18,.int .i64 ((hav c.hs).length:Nat)),(19,.int .i64 i)] (frO c (jT (λ i:Nat=>(bH c.hs (i:Int)).c) i m))):=by
 have b:(hav c.hs).length=c.hs.length:=by simp
 have h1:=a.hs;intro m;induction m with
 | zero=>
  intro i d;rw [DJ];refine gV ?_;refine aF λ h=>?_;refine gV ?_;refine To.cut [5,30,31,32] 2 rfl rfl rfl rfl ?_;exact aCA c a r f _ r.length 0 _ o_ q_ (by unfold jR;rw [<-d];rfl)
 | succ m e=>
  intro i d;have hl:(vav (jT (λ i:Nat=>(bH c.hs (i:Int)).c) i (m+1))).length=i+(m+1):=by rw [Ch,DI]
  have hs:=DH (λ i:Nat=>(bH c.hs (i:Int)).c) i m;have g:(hav c.hs)[i]? =some (bH c.hs (i:Int)).av:=I7 o_;have ao:=e (i+1) o_
  unfold frO at ao
  exact zqha5
def UV (c:Con) (b:c.sm) (r:List Rn) (d:Sm r):ar 57 [c.av,.slice 14 (rav r) .no] [] (.ret (.slice 3 (vav (jR c r)) .no)) []:=by
 have h1:=b.hs;have a:(hav c.hs).length=c.hs.length:=by simp
 refine c_ Tryz.f57 λ_=>?_;refine gV ?_;refine ⟨c.hs.length,by rw [a],?_⟩;refine gV ?_;refine ⟨⟨rfl,by omega,by simp only [maxLen];omega⟩,?_⟩;refine gV ?_;have ao:=X4 c b r d c.hs.length 0 o_
 unfold frO at ao
 rw [xQ] at ao
 exact To.cut [1,2,5,17,18,19] 2 rfl rfl rfl rfl ao
def aII {a b:Int} (c:0<=a) (f:0<b) (d:a<=9223372036854775807):inR .i64 (Ly a b):=by
 have h3:(Ly a b).natAbs<=a.natAbs:=by rw [Int.natAbs_tdiv];exact Hb _ _
 have e:0<=Ly a b:=Int.tdiv_nonneg c o_;exact ⟨by simp only [cJ];omega,by simp only [bE];omega⟩
def yR (n free need:Int):Int:=if decide (0<need)=true then min n (Ly free need) else n
def eD (free need:V3):Int:=if cR need free=true then yR (yR (yR 16 free.a need.a) free.b need.b) free.c need.c else 0
def aMy (v:V3) (M:Imm) (ob:Hs) (vs:List Value) (d:List aa) (h:cA M ob vs (v.av::d)):inR .i64 v.a/\inR .i64 v.b/\inR .i64 v.c:=by
 have hl:0<vs.length:=by rw [h.1];simp
 have:=h.2 0 _ v.av (Aa hl) rfl;exact ⟨cD this 0 _ rfl,cD this 1 _ rfl,cD this 2 _ rfl⟩
def aAL (free need:V3) (r:Int) (d:eD free need=r):ar 199 [free.av,need.av] [] (.ret (ii r)) []:=by
 refine aA.get _ (λ M ob vs h=>aMy free M ob vs _ h) λ⟨⟨a1,a2⟩,⟨b1,b2⟩,⟨c1,c2⟩⟩=>?_;simp only [cJ,bE] at a1 a2 b1 b2 c1 c2;unfold eD at d;refine c_ Tryz.f199 λ_=>?_;refine gV ?_;refine .pure _ [] (uF need free) ?_;refine gV ?_;refine Ac (λ h1=>?_) (λ h1=>?_)
 .have h1:cR need free=false:=vJ h1;rw [if_neg (by rw [h1];decide)] at d;subst d;exact zW
 .have h1:cR need free=true:=vK h1;rw [if_pos h1] at d;unfold yR at d;have n:need.a<=free.a/\need.b<=free.b/\need.c<=free.c:=by
   unfold cR at h1;split at h1
   .cases h1
   .split at h1
    .cases h1
    .split at h1
     .cases h1
     .rename_i e l m;simp only [decide_eq_true_eq] at e l m;omega
  by_cases k:0<need.a<;>by_cases j:0<need.b<;>by_cases i:0<need.c<;>simp only [k,j,i,decide_true,decide_false,if_true,if_false,Cp] at d
  all_goals (refine gV ?_)
  all_goals repeat' first
   | (refine gW hE ?_;conv=>whnf)
   | exact d▸rfl
   | refine aY ?_
   | refine aN ?_
   | refine aT λ h=>?_
   | refine aF λ h=>?_
   | refine aJ ?_
   | refine Gd (Ac (aII o_ o_ o_) ?_)
   | refine Ao _ (Ac rfl ?_)
   | refine Ac d_ ?_
   | refine Ac o_ ?_
   | fail
def TH (free need:V3):ar 199 [free.av,need.av] [] (.ret (ii (eD free need))) []:=aAL free need _ rfl
def ofK (h:Hos) (i lv:Int):List Int:=[h.f,if decide (2<lv)=true then 0 else h.b,if decide (1<lv)=true then 0 else h.r,if decide (0<lv)=true then 0 else i]
def aFC (h:Hos) (i lv:Int) (K:List aa) (a:(ofK h i lv).map ii=K):ar 198 [h.av,ii i,ii lv] [] (.ret (.agg K)) []:=by
 unfold ofK at a;refine c_ Tryz.f198 λ_=>?_
 repeat' first | (refine gN hE ?_;conv=>whnf) | exact rfl | (refine zt ?_;try intro h) | refine zu (λ h=>?_) λ h=>?_ | fail
 all_goals first
  | (subst a;simp only [*,Cp,if_true,if_false,List.map];done)
  | (exfalso;simp only [decide_eq_true_eq,decide_eq_false_iff_not] at *;omega)
def aJw (h:Hos) (i lv:Int):ar 198 [h.av,ii i,ii lv] [] (.ret (.agg ((ofK h i lv).map ii))) []:=aFC h i lv _ rfl
def aIw {n:Nat} (h:n<=16):n=0\/n=1\/n=2\/n=3\/n=4\/n=5\/n=6\/n=7\/n=8\/n=9\/n=10\/n=11\/n=12\/n=13\/n=14\/n=15\/n=16:=o_
def aBJ (n:Nat) (a:n<=16):ar 279 [.int .u64 1,.int .u64 (n:Int)] [] (.ret (.tup [.int .u64 0,.int .u64 (n:Int)])) []:=by
 rcases aIw a with rfl | rfl | rfl | rfl | rfl | rfl | rfl | rfl | rfl | rfl | rfl | rfl | rfl | rfl | rfl | rfl | rfl
 all_goals
  refine c_ Tryz.f279 λ_=>?_
  repeat' first
   | (refine gN hE ?_;conv=>whnf)
   | exact rfl
   | refine Gd (Ac (Ac d_ d_) ?_)
   | refine Ac d_ ?_
   | fail
def aJB (n:Nat) (b:n<=16):ar 248 [.int .u64 1,.int .u64 (n:Int)] [] (.ret (.tup [.int .u64 0,.int .u64 (n:Int)])) []:=by refine c_ Tryz.f248 λ_=>?_;have a:=aBJ n b;exact zW
def rp (h:Int) (k m:Nat):List aa:=iv (Aj k h)++Aj m (ii 0)
def BQ (h:Int) (k m:Nat):(rp h k m).length=k+m:=by simp [rp]
noncomputable abbrev aLZ:Func:=Tryz.f200
def aE1 (h:Int) (k m:Nat):((k:Int)+ ↑(min (Ia k (Hi 0 (rp h k m))).length ((rp h k m).length-k)))=((k+min k m:Nat):Int)/\
  (rp h k m).take k++(Ia k (Hi 0 (rp h k m))).take ((rp h k m).length-k)++(rp h k m).drop (k+min (Ia k (Hi 0 (rp h k m))).length ((rp h k m).length-k))=rp h (k+min k m) (m-min k m):=by
 have a:(iv (Aj k h)).length=k:=by simp
 have h1:(rp h k m).take k=iv (Aj k h):=by unfold rp;rw [Dc o_,Cf o_]
 have hl:=BQ h k m;rw [Ci,h1,hl,a,show k+m-k=m from by omega];refine ⟨by omega,?_⟩;have b:(rp h k m).drop (k+min k m)=Aj (m-min k m) (ii 0):=by unfold rp;rw [List.drop_append,a,List.drop_of_length_le o_,Bn,List.drop_replicate];congr 1;omega
 rw [b];unfold rp;congr 1;simp only [iv,List.map_replicate,List.take_replicate,List.replicate_append_replicate];congr 1;omega
def aAV (a:Int) (N:Nat) (n:N<=16):∀ (f k m:Nat),k+m=N->1<=k->m<=f->
  To (Er [] [38]) aLZ (.pure (.ret (.slice 1 (iv (Aj N a)) .no))) (.head (stk aLZ 0) [(7,.row 0 0),(8,.int .i64 (k:Int))] [.row 0 1 3 (rp a k m)]):=by
 intro f;induction f with
 | zero=>
  intro k m b h1 hm;have hm:m=0:=o_;subst hm;exact zqha6
 | succ f i=>
  intro k m b h1 hm;by_cases c:m=0
  .subst c;exact zqha6
  have hl:=BQ a k m;have ao:=i (k+min k m) (m-min k m) o_ o_ o_
  generalize d:rp a k m=X at hl⊢;refine gV ?_;refine aT λ h=>?_;refine gV ?_;refine ⟨k,rfl,?_⟩;refine gV ?_;refine ⟨by omega,?_⟩;refine gV ?_;refine ⟨k,rfl,?_⟩;refine gV ?_;refine ⟨by omega,?_⟩;refine gV ?_;rw [<-d] at hl⊢;obtain ⟨j,g⟩:=aE1 a k m;rw [<-j,<-g] at ao
  have l:min (Ia k (Hi 0 (rp a k m))).length ((rp a k m).length-k)<=16:=by have:(rp a k m).length=k+m:=BQ a k m;omega
  exact zW
def aAH (h:Int) (m:Nat):((1:Nat):Int)= ↑(min [ii h].length (Aj (m+1) (aa.int .i64 0)).length)/\rp h 1 m=[ii h].take (Aj (m+1) (aa.int .i64 0)).length++(Aj (m+1) (aa.int .i64 0)).drop [ii h].length:=by refine ⟨by simp,?_⟩;simp [rp,List.drop_replicate]
def aJd (h:Int) (n:Nat) (a:n<=16):ar 200 [.slice 1 [ii h] .no,ii (n:Int)] [] (.ret (.slice 1 (iv (Aj n h)) .no)) []:=by
 have hm:=aJB n a;cases n with
 | zero=>
  refine cT (E:=(Er [] [38])) (fn:=Tryz.f200) (g:=.pure _) λ_=>?_;refine gV ?_;refine aF λ h=>?_;refine gV ?_;refine Gd (Ac (Ac (by simp only [cJ,Al,Br];omega) (by simp only [bE,Al,Br];omega)) ?_);refine gV ?_;refine Gd (Ac (Ac (by simp only [cJ];omega) (by simp only [bE];omega)) ?_);refine gV ?_;refine .pure _ [] hm ?_;refine gV ?_;refine aF λ h=>?_;refine gV ?_;refine aF λ h=>?_;refine gV ?_;refine Gd (Ac (Ac (by simp only [cJ];omega) (by simp only [bE];omega)) ?_);refine gV ?_;refine ⟨0,rfl,?_⟩;refine gV ?_;refine ⟨⟨rfl,by omega,by simp only [maxLen];omega⟩,?_⟩;refine gV ?_;refine gV ?_;exact zW
 | succ m=>
  have ao:=aAV h (m+1) a (m+1) 1 m o_ o_ o_
  obtain ⟨c,b⟩:=aAH h m;rw [c,b] at ao
  refine cT (E:=(Er [] [38])) (fn:=Tryz.f200) (g:=.pure _) λ_=>?_;refine gV ?_;refine aF λ h=>?_;refine gV ?_;refine Gd (Ac (Ac (by simp only [cJ,Al,Br];omega) (by simp only [bE,Al,Br];omega)) ?_);refine gV ?_;refine Gd (Ac (Ac (by simp only [cJ];omega) (by simp only [bE];omega)) ?_);refine gV ?_;refine .pure _ [] hm ?_;refine gV ?_;refine aF λ h=>?_;refine gV ?_;refine aF λ h=>?_;refine gV ?_;refine Gd (Ac (Ac (by simp only [cJ];omega) (by simp only [bE];omega)) ?_);refine gV ?_;refine ⟨m+1,rfl,?_⟩;refine gV ?_;refine ⟨⟨rfl,by omega,by simp only [maxLen];omega⟩,?_⟩;exact zW
def aAM (a b:V3):eD a b<=16:=by
 have h:∀ n f k,n<=16->yR n f k<=16:=λ n f k h=>by unfold yR;split<;>omega
 unfold eD;split
 .exact h _ _ _ (h _ _ _ (h _ _ _ d_))
 .decide
def inN (free need:V3) (pods len:Int):Int:=min (eD free need) (pods-len)
def inS (free:List V3) (g:Gan) (out:List Int) (h:Int):List Int:=if decide (h<0)=true then out else if decide ((free.length:Int)<=h)=true then out else out++Aj (max (inN ((free[h.toNat]?).getD V3.zero) g.need g.pods out.length) 0).toNat h
def inL (free:List V3) (g:Gan) (a:List Int):List Int:=a.foldl (inS free g) []
def I5 (free:List V3) (g:Gan) (out:List Int) (h:Int) (hp:(out.length:Int)<=g.pods):((inS free g out h).length:Int)<=g.pods:=by
 unfold inS;split
 .exact hp
 .split
  .exact hp
  .simp only [Ai,Gz,inN];omega
noncomputable abbrev fIn:Func:=Tryz.f126
def aCb (out:List Int) (g:Gan):aa:=if decide ((out.length:Int)<g.pods)=true then .tup [.slice 1 [] .no,.bool false] else .tup [.slice 1 (iv out) .no,.bool true]
def aGi (c:Con) (free:List V3) (g:Gan) (u:0<=g.pods/\g.pods<=16) (a:List Int) (hl:a.length<=1048576) (R:List Int):∀ (m i:Nat) (out:List Int),i+m=a.length->(out.length:Int)<=g.pods->(a.drop i).foldl (inS free g) out=R->
  To (Eo [10] []) fIn (.pure (.ret (aCb R g))) (.head (stk fIn 0) [(1,.slice 3 (vav free) .no),(7,.ref 1 0),(10,.slice 1 (iv out) (.own 2 0)),(14,.slice 1 (iv a) .no),(15,.int .i64 ((iv a).length:Nat)),(16,.int .i64 i)] [.cells 26 c.cs,.cells 45 g.cs,.tail 0 1 3]):=by
 have w:(iv a).length=a.length:=by simp
 have z:(vav free).length=free.length:=by simp
 intro m;induction m with
 | zero=>
  intro i out A hp f;rw [Ah o_] at f;have f:out=R:=f;subst f;have k:(iv out).length=out.length:=by simp
  obtain ⟨Q,j⟩:∃ Q,Q=aCb out g:=⟨_,rfl⟩
  rw [<-j];unfold aCb at j;by_cases h1:(out.length:Int)<g.pods
  .rw [if_pos (decide_eq_true h1)] at j;subst j;refine gV ?_;exact zW
  .rw [if_neg (by rw [decide_eq_false h1];decide)] at j;subst j;refine gV ?_;exact zW
 | succ m D=>
  intro i out A hp f;have n:i<a.length:=o_;rw [Ae n,Ba] at f;have l:=I5 free g out a[i] hp;generalize C:a[i]=u0 at f l;have get:(iv a)[i]? =some (ii u0):=(fJ n).trans (by rw [C]);have k:(iv out).length=out.length:=by simp
  have ao:=D (i+1) (inS free g out u0) o_ l f
  unfold inS at ao
  refine gV ?_;refine aT λ h=>?_;refine gV ?_;refine ⟨i,rfl,?_⟩;refine gV ?_;refine ⟨_,get,?_⟩;by_cases h1:u0<0
  .rw [if_pos (decide_eq_true h1)] at ao
   exact zW
  .rw [if_neg (by rw [decide_eq_false h1];decide)] at ao
   by_cases r:(free.length:Int)<=u0
   .rw [if_pos (decide_eq_true r)] at ao
    exact zW
   .rw [if_neg (by rw [decide_eq_false r];decide)] at ao
    have o:u0.toNat<free.length:=o_;have x:u0=(u0.toNat:Int):=o_;rw [Aa o] at ao
    have v:(vav free)[u0.toNat]? =some free[u0.toNat].av:=uJ o;rw [show ((some free[u0.toNat]).getD V3.zero)=free[u0.toNat] from rfl] at ao
    generalize free[u0.toNat]=f0 at v ao
    have q:=aAM f0 g.need;have d:(max (inN f0 g.need g.pods out.length) 0).toNat<=16:=by unfold inN;omega
    have p:max (min (eD f0 g.need) (g.pods-((iv out).length:Nat))) 0=(((max (inN f0 g.need g.pods out.length) 0).toNat:Nat):Int):=by unfold inN;rw [k];omega
    have b:=aJd u0 _ d;rw [<-p] at b;generalize F:(max (inN f0 g.need g.pods out.length) 0).toNat=N at d b ao
    have e:iv (out++Aj N u0)=iv out++iv (Aj N u0):=by simp
    rw [e] at ao
    have y:(iv (Aj N u0)).length=N:=by simp
    have B:=u.1;have s:=u.2
    repeat' first | (refine gN (hEo [10] []) ?_;conv=>whnf) | refine ⟨u0.toNat,x,?_⟩ | refine ⟨_,v,?_⟩ | refine .pure _ [] (TH f0 g.need) ?_ | refine .pure _ [] (aA.strip b) ?_ | refine Ac (Ac (by simp only [maxLen];omega) o_) ?_ | exact rfl | (refine zt ?_;try intro h) | refine zu (λ h=>?_) λ h=>?_ | fail
    exact zW
def aLE (c:Con) (free:List V3) (g:Gan) (b:0<=g.pods/\g.pods<=16) (a:List Int) (hl:a.length<=1048576):ar 126 [c.av,.slice 3 (vav free) .no,.slice 1 (iv a) .no,g.av] [] (.ret (aCb (inL free g a) g)) []:=by refine cT (E:=(Eo [10] [])) (fn:=Tryz.f126) (g:=.pure _) λ_=>?_;have d:=aGi c free g b a hl _ a.length 0 [] o_ (by simpa using b.1) rfl;exact zW
noncomputable abbrev sD:Func:=Tryz.f125
abbrev GSt:=List (List Int×Nat)×List (List Int)
def lE:List (List Int×Nat)->List Int->Option Nat
 | [],_=>none
 | (k,v)::r,x=>if k=x then some v else lE r x
abbrev kav (es:List (List Int×Nat)):List (List Int×aa):=es.map λ p=>(p.1,ii p.2)
def CY (x:List Int):∀ es,bR (kav es) x=(lE es x).map λ n:Nat=>ii n
 | []=>rfl
 | (k,v)::r=>by
  show (if k=x then some (ii v) else bR (kav r) x)=(if k=x then some v else lE r x).map _;split
  .rfl
  .exact CY x r
def UE (x:List Int) (v:Nat):∀ es,lE es x=none->lC (kav es) x (ii v)=kav (es++[(x,v)])
 | [],_=>rfl
 | (k,u)::r,h=>by
  have h:(if k=x then some u else lE r x)=none:=h;show (if k=x then (x,ii v)::kav r else (k,ii u)::lC (kav r) x (ii v))=(k,ii u)::kav (r++[(x,v)]);split at h
  .cases h
  .rename_i a;rw [if_neg a,UE x v r h]
def gpS (c:Con) (lv:Int) (s:GSt) (i:Nat):GSt:=
 match lE s.1 (ofK (bH c.hs (i:Int)) i lv) with
 | some k=>(s.1,s.2.set k ((s.2[k]?).getD []++[(i:Int)]))
 | none=>(s.1++[(ofK (bH c.hs (i:Int)) i lv,s.2.length)],s.2++[[(i:Int)]])
def gpL (c:Con) (lv:Int):List (List Int):=if decide (lv<0)=true then [] else if decide (3<lv)=true then [] else ((Di c.hs.length).foldl (gpS c lv) ([],[])).2
abbrev gav (l:List (List Int)):List aa:=l.map λ xs=>.slice 1 (iv xs) .no
abbrev NC (c:Con) (gr gb:Nat) (es:List (List Int×Nat)) (ms:List Hm):List ab:=[.cells 26 c.cs,.row gr 1 48 (ms.map hmA),.mp true (kav es),.bun gb (lU 1 3 ms)]
abbrev aLG (c:Con) (lv:Int) (gr i:Nat):List (Nat×aa):=[(1,ii lv),(5,.row 1 gr),(6,.mref 2),(20,.slice 6 (hav c.hs) .no),(21,.int .i64 ((hav c.hs).length:Nat)),(22,ii i)]
def aCl (c:Con) (lv:Int) (G:Goal) (i k:Nat) (l:i<1048576) (b:List Hm) (m:Hm) (hm:b[k]? =some m) (j:m.2.2.length<=1048576) (h:b.length<=1048576) (es:List (List Int×Nat)) (g:Fw G.n0 4=true)
  (ao:∀ a e,To (Er [5] []) sD G (.code (iM sD 14) (aLG c lv 0 i) (NC c 0 1 es (b.set k (a,e,m.2.2++[ii i]))))):
  To (Er [5] []) sD G (.code (mQ sD 14) [(1,ii lv),(5,.row 1 0),(6,.mref 2),(7,ii i),(10,ii k),(20,.slice 6 (hav c.hs) .no),(21,.int .i64 ((hav c.hs).length:Nat)),(22,ii i)] (NC c 0 0 es b)):=by
 refine To.handAt (hEr [5] []) 8 [] rfl rfl rfl ?_;conv=>whnf
 refine ⟨k,rfl,?_⟩;conv=>whnf
 have f:(b.map hmA)[k]? =some (hmA m):=by rw [Bf,hm];rfl
 refine ⟨by have:=(Ab.1 hm).1;simpa using this,?_⟩;conv=>whnf
 refine ⟨_,f,?_⟩;conv=>whnf
 refine .mk 3 0 k b m [ii i] 3 1 8 1 false (.slice 1 [] .nil) rfl hm rfl rfl rfl rfl ⟨by show _+1<=_;simp only [maxLen];omega,by show (_+1)*8<=_;omega⟩ λ a e=>?_;have d:k<(b.map hmA).length:=by have:=(Ab.1 hm).1;simpa using this
 have ao:=ao a e
 unfold NC at ao
 rw [Gr] at ao
 refine gV ?_;refine ⟨k,rfl,?_⟩;refine gV ?_;refine ⟨d,?_⟩;refine gV ?_;refine ⟨d,?_⟩;refine cO (hEr [5] []) 3 ?_;conv=>whnf
 refine To.cutC (fr:=[(1,_),(5,_),(6,_),(7,_),(10,_),(20,_),(21,_),(22,_),(47,_),(48,_),(49,_),(50,_),(51,_),(52,_),(53,_),(54,_),(55,_),(56,_)]) (ac:=[_,_,_,_]) [1,5,6,20,21,22] 4 g rfl rfl rfl ?_;exact ao
def FZ (x:List Int) (v:Nat) (y:List Int):∀ es,lE (es++[(x,v)]) y=match lE es y with | some k=>some k | none=>if x=y then some v else none
 | []=>rfl
 | (k,u)::r=>by
  show (if k=y then some u else lE (r++[(x,v)]) y)=match (if k=y then some u else lE r y) with | some k=>some k | none=>if x=y then some v else none
  split
  .rfl
  .exact FZ x v y r
structure GI (i:Nat) (s:GSt):Prop where
 key:∀ p∈s.1,p.1.length=4
 at':∀ x k,lE s.1 x=some k->k<s.2.length
 len:s.2.length<=i
 each:∀ xs∈s.2,xs.length<=i
def GI.step {c:Con} {lv:Int} {i:Nat} {s:GSt} (h:GI i s):GI (i+1) (gpS c lv s i):=by
 obtain ⟨h1,b,h3,d⟩:=h;unfold gpS;split
 .rename_i k f;refine ⟨h1,λ x k h=>by simpa using b x k h,by simp;omega,λ xs a=>?_⟩;rcases Df a with a | rfl
  .have:=d xs a;omega
  .have hl:=b _ k f;rw [Aa hl];have:=d _ (Bh hl);simp;omega
 .rename_i f;refine ⟨λ p hp=>?_,λ x k a=>?_,by simp;omega,λ xs a=>?_⟩
  .rcases Az.1 hp with hp | hp
   .exact h1 p hp
   .simp at hp;subst hp;rfl
  .rw [FZ] at a;split at a
   .rename_i g e;have:=b x g e;cases a;simp;omega
   .split at a
    .cases a;simp
    .cases a
  .rcases Az.1 a with a | a
   .have:=d xs a;omega
   .simp at a;subst a;simp
def aGt (c:Con) (G:c.sm) (lv:Int) (P:0<=lv) (O:lv<=3) (R:List (List Int)):∀ (n i:Nat) (s:GSt) (b:List Hm),i+n=c.hs.length->b.map (λ m=>m.2.2)=s.2.map iv->GI i s->((Il i n).foldl (gpS c lv) s).2=R->
  To (Er [5] []) sD (.pure (.ret (.slice 1 (gav R) .no))) (.head (stk sD 0) (aLG c lv 0 i) (NC c 0 0 s.1 b)):=by
 have h1:=G.hs;have F:(hav c.hs).length=c.hs.length:=by simp
 intro n;induction n with
 | zero=>
  intro i s b J d o y;have y:s.2=R:=y;subst y;refine To.ofC (To.famFrz 3 1 rfl rfl ?_);have e:(b.map λ m=>aa.slice 1 m.2.2 .no)=gav s.2:=by have:=congrArg (List.map λ xs=>aa.slice 1 xs .no) d;rw [Dx,Dx] at this;exact this
  rw [e];refine To.toC ?_;refine gV ?_;exact zW
 | succ n N=>
  intro i s b J d o y;rw [Lz,Ba] at y;have I:(hav c.hs)[i]? =some (bH c.hs (i:Int)).av:=I7 o_;have ao:=λ z h=>N (i+1) (gpS c lv s i) z o_ h o.step y
  have l:∀ p∈kav s.1,p.1.length=4:=λ p hp=>by obtain ⟨q,L,rfl⟩:=Ca.1 hp;exact o.key q L
  refine gV ?_;refine aT λ h=>?_;refine gV ?_;refine ⟨i,rfl,?_⟩;refine gV ?_;refine ⟨_,I,?_⟩;refine gV ?_;refine .pure _ [] (aJw (bH c.hs (i:Int)) i lv) ?_;refine gV ?_;refine ⟨l,?_⟩;refine gV ?_;cases v:lE s.1 (ofK (bH c.hs (i:Int)) i lv) with
  | none=>
   have C:bR (kav s.1) (ofK (bH c.hs (i:Int)) i lv)=none:=by rw [CY,v];rfl
   refine ⟨_,C,?_⟩;refine gV ?_;refine aY ?_;refine gV ?_;refine ⟨l,?_⟩;refine gV ?_;have g:b.length=s.2.length:=by have:=congrArg Lm d;simpa using this
   have B:=o.len;have f:(b.map hmA).length=b.length:=by simp
   refine ⟨⟨by show (b.map hmA).length+1<=_;simp only [maxLen];omega,by show ((b.map hmA).length+1)*24<=_;omega⟩,?_⟩;refine cO (hEr [5] []) 6 ?_;conv=>whnf
   have H:(b.map hmA).length=s.2.length:=f.trans g;have e:=UE (ofK (bH c.hs (i:Int)) i lv) (b.map hmA).length s.1 v;have D:gpS c lv s i=(s.1++[(ofK (bH c.hs (i:Int)) i lv,(b.map hmA).length)],s.2++[[(i:Int)]]):=by unfold gpS;rw [v,H]
   rw [D] at ao
   have hm:(b++[((none,0,[]):Hm)])[(b.map hmA).length]? =some (none,0,[]):=by rw [f,Ak (Bc _)];simp
   have r:=aCl c lv (.pure (.ret (.slice 1 (gav R) .no))) i (b.map hmA).length o_ (b++[(none,0,[])]) _ hm s_ q_ (s.1++[(ofK (bH c.hs (i:Int)) i lv,(b.map hmA).length)]) rfl λ a A=>by
    have ao:=ao ((b++[(none,0,[])]).set (b.map hmA).length (a,A,[]++[ii i])) (by rw [f,Gy _ _ (Bc _)];simp [d])
    exact zW
   unfold NC at r;rw [<-e] at r;refine To.cutC [1,5,6,7,10,20,21,22] 4 rfl rfl rfl rfl ?_;refine To.objTo 1 (x:=.row 1 1 48 (b.map hmA++[.nilslice])) (x':=.row 1 1 48 ((b++[(none,0,[])]).map hmA)) rfl (λ h=>by cases h) rfl (λ M ob w hs _ h=>aE4 h) ?_;refine To.objTo 3 (x:=.bun 0 (lU 1 3 b)) (x':=.bun 0 (lU 1 3 (b++[(none,0,[])]))) rfl (λ h=>by cases h) rfl (λ M ob w hs _ h=>aGC h) ?_;refine To.toC ?_;refine To.part [1,5,6,7,10,20,21,22] [0,1,2,3] rfl rfl rfl ?_;refine To.ofC ?_;exact r
  | some k=>
   have C:bR (kav s.1) (ofK (bH c.hs (i:Int)) i lv)=some (ii k):=by rw [CY,v];rfl
   refine ⟨_,C,?_⟩;refine gV ?_;refine aN ?_;refine cO (hEr [5] []) 1 ?_;conv=>whnf
   have u:=o.at' _ k v;have f:(b.map (λ m=>m.2.2))[k]? =some (iv s.2[k]):=by rw [d,Bf,Aa u];rfl
   rw [Bf] at f;obtain ⟨m,hm,j⟩:=Cd.1 f;have j:m.2.2=iv s.2[k]:=j;have g:b.length=s.2.length:=by have:=congrArg Lm d;simpa using this
   have K:=o.each _ (Bh u);have B:=o.len;have D:gpS c lv s i=(s.1,s.2.set k (s.2[k]++[(i:Int)])):=by unfold gpS;rw [v];show (s.1,s.2.set k ((s.2[k]?).getD []++[(i:Int)]))=_;rw [Aa u];rfl
   rw [D] at ao
   refine To.cutC [1,5,6,7,10,20,21,22] 4 rfl rfl rfl rfl ?_;refine aCl c lv _ i k o_ b m hm (by rw [j];simp;omega) o_ s.1 rfl λ a A=>?_;have ao:=ao (b.set k (a,A,m.2.2++[ii i])) (by rw [Gr,Gr,d,j];simp)
   exact zW
def GD (c:Con) (b:c.sm) (lv:Int):ar 125 [c.av,ii lv] [] (.ret (.slice 1 (gav (gpL c lv)) .no)) []:=by
 have h1:=b.hs;have i:(hav c.hs).length=c.hs.length:=by simp
 obtain ⟨R,a⟩:∃ R,R=gpL c lv:=⟨_,rfl⟩
 rw [<-a];unfold gpL at a;refine cT (E:=(Er [5] [])) (fn:=Tryz.f125) (g:=.pure _) λ_=>?_;by_cases e:lv<0
 .rw [if_pos (decide_eq_true e)] at a;subst a;exact zW
 rw [if_neg (by rw [decide_eq_false e];decide)] at a;by_cases d:3<lv
 .rw [if_pos (decide_eq_true d)] at a;subst a;exact zW
 rw [if_neg (by rw [decide_eq_false d];decide),Im] at a
 repeat' first | (refine gN (hEr [5] []) ?_;conv=>whnf) | exact rfl | (refine zt ?_;try intro h) | refine zu (λ h=>?_) λ h=>?_ | fail
 refine To.ofC (To.beginF 1 3 ?_);refine To.toC ?_;have:=aGt c b lv o_ o_ R c.hs.length 0 ([],[]) [] o_ rfl ⟨λ p h=>(by simp at h),λ x k h=>(by cases h),Bc _,λ xs h=>by simp at h⟩ a.symm;exact zW
structure GO (n i:Nat) (s:GSt):Prop where
 base:GI i s
 ok:∀ xs∈s.2,xs≠[]/\∀ h∈xs,0<=h/\h<(n:Int)
def GO.step {c:Con} {lv:Int} {n i:Nat} {s:GSt} (g:i<n) (h:GO n i s):GO n (i+1) (gpS c lv s i):=by
 refine ⟨h.base.step,?_⟩;obtain ⟨f,d⟩:=h;have one:∀ h∈[(i:Int)],0<=h/\h<(n:Int):=λ h b=>by simp at b;omega
 unfold gpS;split
 .rename_i k e;intro xs a;rcases Df a with a | rfl
  .exact d xs a
  .refine ⟨by simp,λ h b=>?_⟩;rcases Az.1 b with b | b
   .have hl:=f.at' _ k e;rw [Aa hl] at b;exact (d _ (Bh hl)).2 h b
   .exact one h b
 .intro xs a;rcases Az.1 a with a | a
  .exact d xs a
  .have a:xs=[(i:Int)]:=by simpa using a
   subst a;exact ⟨by simp,one⟩
def GO.fold {c:Con} {lv:Int} {n:Nat}:∀ (m i:Nat) (s:GSt),i+m=n->GO n i s->GO n n ((Il i m).foldl (gpS c lv) s)
 | 0,i,s,hi,h=>by have:i=n:=o_
                  subst this;exact h
 | m+1,i,s,hi,h=>by rw [Lz,Ba];exact GO.fold m (i+1) _ o_ (h.step o_)
def aCm (c:Con) (lv:Int):(gpL c lv).length<=c.hs.length/\∀ xs∈gpL c lv,xs≠[]/\xs.length<=c.hs.length/\∀ h∈xs,0<=h/\h<(c.hs.length:Int):=by
 unfold gpL;split
 .exact ⟨Bv _,λ xs h=>by simp at h⟩
 split
 .exact ⟨Bv _,λ xs h=>by simp at h⟩
 rw [Im];have:=GO.fold (c:=c) (lv:=lv) (n:=c.hs.length) c.hs.length 0 ([],[]) o_ ⟨⟨λ p h=>(by simp at h),λ x k h=>(by cases h),Bc _,λ xs h=>(by simp at h)⟩,λ xs h=>(by simp at h)⟩;exact ⟨this.base.len,λ xs a=>⟨(this.ok xs a).1,this.base.each xs a,(this.ok xs a).2⟩⟩
def fdG (c:Con) (free:List V3) (g:Gan):List (List Int)->Option (Int×List Int)
 | []=>none
 | gr::r=>if decide (((inL free g gr).length:Int)<g.pods)=true then fdG c free g r else some ((bH c.hs (gr.headD 0)).f,inL free g gr)
def fdL (c:Con) (free:List V3) (g:Gan):Nat->Int->Option (Int×List Int)
 | 0,_=>none
 | n+1,lv=>match fdG c free g (gpL c lv) with
  | some x=>some x
  | none=>fdL c free g n (lv+1)
def fdA:Option (Int×List Int)->aa
 | some x=>.tup [ii x.1,.slice 1 (iv x.2) .no,.bool true]
 | none=>.tup [ii 0,.slice 1 [] .no,.bool false]
def zC (c:Con) (free:List V3) (g:Gan):Option (Int×List Int):=fdL c free g (min g.lev 3+1-max g.pref 0).toNat (max g.pref 0)
noncomputable abbrev GT:Func:=Tryz.f56
abbrev U0 (c:Con) (g:Gan):List ab:=[.cells 26 c.cs,.cells 45 g.cs]
abbrev aKc (free:List V3) (lv:Int):List (Nat×aa):=[(1,.slice 3 (vav free) .no),(3,.ref 0 0),(5,.ref 1 0),(9,ii lv)]
def UT {l:List (List Int)} {i:Nat} (h:i<l.length):(gav l)[i]? =some (.slice 1 (iv l[i]) .no):=by simp [gav,h]
def aLQ (c:Con) (u:c.sm) (free:List V3) (g:Gan) (B:0<=g.pods/\g.pods<=16) (lv:Int) (w:0<=lv) (y:lv<=3) (Q:Option (Int×List Int)) (a:List (List Int)) (z:a.length<=1048576) (n:∀ xs∈a,xs≠[]/\xs.length<=c.hs.length/\∀ h∈xs,0<=h/\h<(c.hs.length:Int)):
  ∀ (m i:Nat),i+m=a.length->(∀ x,fdG c free g (a.drop i)=some x->Q=some x)->(fdG c free g (a.drop i)=none->To E GT (.pure (.ret (fdA Q))) (.head (stk GT 0) (aKc free (lv+1)) (U0 c g)))->
  To E GT (.pure (.ret (fdA Q))) (.head (stk GT 1) (aKc free lv++[(26,.slice 1 (gav a) .no),(27,.int .i64 ((gav a).length:Nat)),(28,ii i)]) (U0 c g)):=by
 have s:(gav a).length=a.length:=by simp
 have C:(hav c.hs).length=c.hs.length:=by simp
 have A:=u.hs;intro m;induction m with
 | zero=>
  intro i D hs b;rw [Ah o_] at b;have b:=b rfl;refine gV ?_;exact zW
 | succ m o=>
  intro i D hs b;have f:i<a.length:=o_;have o:=o (i+1) o_;rw [Ae f] at hs b;have j:=n _ (Bh f);have get:=UT f;generalize a[i]=gr at hs b j get;obtain ⟨k,t,l⟩:=j;have e:=aLE c free g B gr o_;unfold fdG at hs b;unfold aCb at e;refine gV ?_;refine aT λ h=>?_;refine gV ?_;refine ⟨i,rfl,?_⟩;refine gV ?_;refine ⟨_,get,?_⟩;refine gV ?_;by_cases q:((inL free g gr).length:Int)<g.pods
  .rw [if_pos (decide_eq_true q)] at hs b e;have ao:=o hs b
   exact zW
  .rw [if_neg (by rw [decide_eq_false q];decide)] at hs b e;have v:=hs _ rfl;subst v
   match gr,k with
   | d::r,_=>
   have F:=l d s_;have G:(hav c.hs)[d.toNat]? =some (bH c.hs d).av:=by have:=I7 (c:=c) (i:=d.toNat) o_;rwa [Ky F.1] at this
   have b:d=(d.toNat:Int):=o_;have p:(iv (d::r))[0]? =some (ii d):=rfl;exact zW
def aKb (c:Con) (d:c.sm) (free:List V3) (g:Gan) (m:0<=g.pods/\g.pods<=16):∀ (n:Nat) (lv:Int),0<=lv->n=(min g.lev 3+1-lv).toNat->
  To E GT (.pure (.ret (fdA (fdL c free g n lv)))) (.head (stk GT 0) (aKc free lv) (U0 c g)):=by
 intro n;induction n with
 | zero=>
  intro lv i k;refine gV ?_;exact zW
 | succ n f=>
  intro lv i k;have f:=f (lv+1) o_ o_;have e:=aCm c lv;have l:=d.hs;have j:(gav (gpL c lv)).length=(gpL c lv).length:=by simp
  obtain ⟨Q,b⟩:∃ Q,Q=fdL c free g (n+1) lv:=⟨_,rfl⟩
  rw [<-b];unfold fdL at b;refine gV ?_;refine aT λ h=>?_;refine gV ?_;refine .pure _ [] (GD c d lv) ?_
  repeat' first | (refine gN hE ?_;conv=>whnf) | exact rfl | (refine zt ?_;try intro h) | refine zu (λ h=>?_) λ h=>?_ | fail
  refine To.cut [1,3,5,9,26,27,28] 2 rfl rfl rfl rfl ?_;refine aLQ c d free g m lv i o_ Q (gpL c lv) o_ e.2 (gpL c lv).length 0 o_ (λ x a=>?_) (λ a=>?_)
  .have a:fdG c free g (gpL c lv)=some x:=a;rw [a] at b;exact b
  .have a:fdG c free g (gpL c lv)=none:=a;rw [a] at b;rw [b];exact f
def find_ok (c:Con) (b:c.sm) (free:List V3) (g:Gan) (a:0<=g.pods/\g.pods<=16):ar 56 [c.av,.slice 3 (vav free) .no,g.av] [] (.ret (fdA (zC c free g))) []:=by refine c_ Tryz.f56 λ_=>?_;refine gV ?_;exact To.cut [1,3,5,9] 2 rfl rfl rfl rfl (aKb c b free g a _ _ o_ rfl)
def cK (c:Con) (l:List Rn) (g:Gan):Option (Int×List Int):=if MP c (ofL c l) g.ten (dem g)=true then zC c (jR c l) g else none
def aCF (c:Con) (e:c.sm) (l:List Rn) (hl:Sm l) (g:Gan) (k:0<=g.pods/\g.pods<=16) (Q:Option (Int×List Int)) (a:cK c l g=Q):ar 16 [c.av,.slice 14 (rav l) .no,g.av] [] (.ret (fdA Q)) []:=by
 unfold cK at a;have hm:=aJF c e (ofL c l) g.ten (dem g);have m:=RC g;generalize MP c (ofL c l) g.ten (dem g)=b at a hm;generalize dem g=d at hm m;have j:=find_ok c e (jR c l) g k;have i:=UV c e l hl;have h:=MD c e l hl.1;generalize jR c l=fr at j a i;generalize ofL c l=us at hm h;cases b with
 | false=>
  have a:none=Q:=a;subst a;exact zqha8
 | true=>
  have a:zC c fr g=Q:=a;rw [a] at j;unfold fdA at j⊢;cases Q with
  | none=>
   exact zqha8
  | some x=>
   exact zqha8
def wE (c:Con) (b:c.sm) (l:List Rn) (hl:Sm l) (g:Gan) (a:0<=g.pods/\g.pods<=16):ar 16 [c.av,.slice 14 (rav l) .no,g.av] [] (.ret (fdA (cK c l g))) []:=aCF c b l hl g a _ rfl
def aA.nil2 {P:Program} {f:FuncId} {a:aa} {g:List aa} {j:Nat} {ac ap:List ab} {r:Res} (h:aA P f (a:: .slice j [] .no::g) ac r ap):aA P f (a:: .nilslice::g) ac r ap:=
 λ M ob w b hm d=>h M ob w b hm ⟨d.1,λ i v x e c=>by
  match i with
  | 0=>exact d.2 0 v x e c
  | 1=>
   have c:aa.slice j [] .no=x:=by simpa using c
   subst c;have:=d.2 1 v .nilslice e rfl;cases this;exact .slnil _ _ trivial
  | i+2=>exact d.2 (i+2) v x e c⟩
def XJ (c:Con) (k:c.sm) (g:Gan) (j:0<=g.pods/\g.pods<=16) (b:Bool) (i:(cK c [] g).isNone=b):ar 207 [c.av,g.av] [] (.ret (.bool b)) []:=by
 have a:=wE c k [] ⟨Bv _,λ x h=>by simp at h⟩ g j;generalize cK c [] g=Q at a i;subst i;unfold fdA at a;cases Q with
 | none=>
  refine c_ Tryz.f207 λ_=>?_;have d:=aA.nil2 a;exact zW
 | some x=>
  refine c_ Tryz.f207 λ_=>?_;have e:=aA.nil2 a;exact zW
def MM (c:Con) (b:c.sm) (g:Gan) (a:0<=g.pods/\g.pods<=16):ar 207 [c.av,g.av] [] (.ret (.bool (cK c [] g).isNone)) []:=XJ c b g a _ rfl
def aMG (x:Rn) (M:Imm) (ob:Hs) (vs:List Value) (h:cA M ob vs [x.av]):inR .i64 x.st/\inR .i64 x.g.run:=by
 have hl:0<vs.length:=by rw [h.1];simp
 have:=h.2 0 _ x.av (Aa hl) rfl;exact ⟨cD this 11 _ rfl,cD this 6 _ rfl⟩
def gD (x:Rn):Int:=if 9223372036854775807<x.st+x.g.run then 9223372036854775807 else if x.st+x.g.run< -9223372036854775808 then -9223372036854775808 else x.st+x.g.run
def aGT (x:Rn) (r:Int) (a:gD x=r):ar 58 [x.av] [] (.ret (ii r)) []:=by
 refine aA.get _ (aMG x) λ⟨⟨a1,a2⟩,⟨b1,b2⟩⟩=>?_;simp only [cJ,bE] at a1 a2 b1 b2;unfold gD at a;by_cases h1:9223372036854775807<x.st+x.g.run
 .rw [if_pos h1] at a;subst a;have e:=aEb h1 o_;exact zqha7
 .rw [if_neg h1] at a;by_cases b:x.st+x.g.run< -9223372036854775808
  .rw [if_pos b] at a;subst a;have e:=aEa b o_;exact zqha7
  .rw [if_neg b] at a;refine c_ Tryz.f58 λ_=>?_
   repeat' first | (refine gN hE ?_;conv=>whnf) | exact rfl | (refine zt ?_;try intro h) | refine zu (λ h=>?_) λ h=>?_ | fail
   all_goals first | exact a▸rfl | (exfalso;simp at *;omega)
def DM (x:Rn):ar 58 [x.av] [] (.ret (ii (gD x))) []:=aGT x _ rfl
def yA (l:List Int) (h:l.length<=1048576):ar 176 [.slice 1 (iv l) .no] [] (.ret (.slice 1 (iv l) .no)) []:=by
 have a:(iv l).length=l.length:=by simp
 refine c_ Tryz.f176 λ_=>?_;refine gV ?_;intro b c;refine gV ?_;refine ⟨λ h=>?_,λ h=>?_⟩
 .have h:b=true:=h;have e:iv l=[]:=c h;refine gV ?_;rw [e]
 .have h:b=false:=h;exact zW
def aE3 (x:Rn) (h:x.hs.length<=1048576):ar 244 [x.av] [] (.ret x.av) []:=by refine c_ Tryz.f244 λ_=>?_;have a:=yA x.hs h;exact zW
def atL (l:List Rn) (t:Int):List Rn:=l.filter λ x=>decide (t<gD x)
def aHO {x:Rn} {r:List Rn} {t:Int} (h:decide (t<gD x)=true):atL (x::r) t=x::atL r t:=Ft h
def aHP {x:Rn} {r:List Rn} {t:Int} (h:decide (t<gD x)=false):atL (x::r) t=atL r t:=Fs (by rw [h];decide)
noncomputable abbrev fAt:Func:=Tryz.f182
def aHM (l:List Rn) (hs:Sm l) (t:Int) (R:List Rn):∀ (n i:Nat) (a:List Rn),i+n=l.length->a.length<=i->a++atL (l.drop i) t=R->
  To (Eo [5] []) fAt (.pure (.ret (.slice 14 (rav R) .no))) (.head (stk fAt 0) [(1,.int .i64 t),(5,.slice 14 (rav a) (.own 0 0)),(8,.slice 14 (rav l) .no),(9,.int .i64 ((rav l).length:Nat)),(10,.int .i64 i)] [.tail 0 14 107]):=by
 have k:(rav l).length=l.length:=by simp
 have hl:=hs.1;intro n;induction n with
 | zero=>
  intro i a o p b;rw [Ah o_] at b;have b:a++[]=R:=b;rw [Av] at b;subst b;refine gV ?_;exact zW
 | succ n g=>
  intro i a o p b;have c:i<l.length:=o_;rw [Ae c] at b;have j:=hs.at c;generalize q:l[i]=x at b j;have get:(rav l)[i]? =some x.av:=(dL c).trans (by rw [q]);have r:(rav a).length=a.length:=by simp
  refine gV ?_;refine aT λ h=>?_;refine gV ?_;refine ⟨i,rfl,?_⟩;refine gV ?_;refine ⟨_,get,?_⟩;refine gV ?_;refine .pure _ [] (DM x) ?_;refine gV ?_;refine Ac (λ d=>?_) (λ d=>?_)
  .have d:decide (t<gD x)=true:=d;rw [aHO d] at b;refine gV ?_;refine .pure _ [] (aE3 x j) ?_;refine gV ?_;refine ⟨⟨by simp only [maxLen];simp;omega,by simp;omega⟩,?_⟩;refine gV ?_;refine aJ ?_;refine gV ?_;refine To.part [1,5,8,9,10] [0] rfl rfl rfl ?_;have ao:=g (i+1) (a++[x]) o_ q_ (by rw [Af];exact b)
   have e:rav (a++[x])=rav a++[x.av]:=by simp
   rw [e] at ao
   exact ao
  .have f:decide (t<gD x)=false:=d;rw [aHP f] at b;have m:=g (i+1) a o_ o_ b;exact zW
def aDR (l:List Rn) (hs:Sm l) (t:Int):ar 182 [.slice 14 (rav l) .no,ii t] [] (.ret (.slice 14 (rav (atL l t)) .no)) []:=by refine cT (E:=(Eo [5] [])) (fn:=Tryz.f182) (g:=.pure _) λ_=>?_;have a:=aHM l hs t _ l.length 0 [] o_ s_ rfl;exact zW
def aDT {l:List Rn} (h:Sm l) (t:Int):Sm (atL l t):=
 ⟨Cz (Ie _ _) h.1,λ x a=>h.2 x (Fm.1 a).1⟩
open Go Go.AW Go.Proofs Go.Shelf
set_option maxRecDepth 100000
def aEL:Go.Shelf.Ren:=⟨fun | 125=>275 | 128=>300 | 129=>301 | 189=>243 | 215=>227 | 216=>297 | 257=>274 | 294=>291 | 295=>292 | 296=>293 | 297=>294 | 298=>295 | 299=>296 | 300=>298 | 301=>299 | 328=>305 | 329=>306 | 330=>307 | 331=>308 | 332=>309 | 343=>311 | n=>n,fun | 0=>0 | 3=>3 | 4=>4 | 5=>5 | 9=>9 | 28=>48 | 46=>333 | 51=>321 | 53=>129 | 131=>198 | 182=>396 | 183=>397 | 218=>407 | 222=>411 | 228=>413 | 229=>414 | n=>n,λ n=>n⟩
def KX:Lays.n189 Tryz.prog aEL where
 mixed:=by kernel_rfl
 f125:=Tryz.func275.trans (congrArg some (by kernel_rfl))
 f128:=Tryz.func300.trans (congrArg some (by kernel_rfl))
 f129:=Tryz.func301.trans (congrArg some (by kernel_rfl))
 f189:=Tryz.func243.trans (congrArg some (by kernel_rfl))
 f215:=Tryz.func227.trans (congrArg some (by kernel_rfl))
 f216:=Tryz.func297.trans (congrArg some (by kernel_rfl))
 f257:=Tryz.func274.trans (congrArg some (by kernel_rfl))
 f294:=Tryz.func291.trans (congrArg some (by kernel_rfl))
 f295:=Tryz.func292.trans (congrArg some (by kernel_rfl))
 f296:=Tryz.func293.trans (congrArg some (by kernel_rfl))
 f297:=Tryz.func294.trans (congrArg some (by kernel_rfl))
 f298:=Tryz.func295.trans (congrArg some (by kernel_rfl))
 f299:=Tryz.func296.trans (congrArg some (by kernel_rfl))
 f300:=Tryz.func298.trans (congrArg some (by kernel_rfl))
 f301:=Tryz.func299.trans (congrArg some (by kernel_rfl))
 f328:=Tryz.func305.trans (congrArg some (by kernel_rfl))
 f329:=Tryz.func306.trans (congrArg some (by kernel_rfl))
 f330:=Tryz.func307.trans (congrArg some (by kernel_rfl))
 f331:=Tryz.func308.trans (congrArg some (by kernel_rfl))
 f332:=Tryz.func309.trans (congrArg some (by kernel_rfl))
 f343:=Tryz.func311.trans (congrArg some (by kernel_rfl))
 t0:=Tryz.underlying0
 a0:=Tryz.isAgg0
 z0:=Tryz.sizeOf0
 v0:=Tryz.zeroValue0
 t3:=Tryz.underlying3
 a3:=Tryz.isAgg3
 z3:=Tryz.sizeOf3
 v3:=Tryz.zeroValue3
 t4:=Tryz.underlying4
 a4:=Tryz.isAgg4
 z4:=Tryz.sizeOf4
 v4:=Tryz.zeroValue4
 t5:=Tryz.underlying5
 a5:=Tryz.isAgg5
 z5:=Tryz.sizeOf5
 v5:=Tryz.zeroValue5
 t9:=Tryz.underlying9
 a9:=Tryz.isAgg9
 z9:=Tryz.sizeOf9
 v9:=Tryz.zeroValue9
 t28:=Tryz.underlying48
 a28:=Tryz.isAgg48
 z28:=Tryz.sizeOf48
 v28:=Tryz.zeroValue48
 t46:=Tryz.underlying333
 a46:=Tryz.isAgg333
 z46:=Tryz.sizeOf333
 v46:=Tryz.zeroValue333
 t51:=Tryz.underlying321
 a51:=Tryz.isAgg321
 z51:=Tryz.sizeOf321
 v51:=Tryz.zeroValue321
 t53:=Tryz.underlying129
 a53:=Tryz.isAgg129
 z53:=Tryz.sizeOf129
 v53:=Tryz.zeroValue129
 t131:=Tryz.underlying198
 a131:=Tryz.isAgg198
 z131:=Tryz.sizeOf198
 v131:=Tryz.zeroValue198
 t182:=Tryz.underlying396
 a182:=Tryz.isAgg396
 z182:=Tryz.sizeOf396
 v182:=Tryz.zeroValue396
 t183:=Tryz.underlying397
 a183:=Tryz.isAgg397
 z183:=Tryz.sizeOf397
 v183:=Tryz.zeroValue397
 t218:=Tryz.underlying407
 a218:=Tryz.isAgg407
 z218:=Tryz.sizeOf407
 v218:=Tryz.zeroValue407
 t222:=Tryz.underlying411
 a222:=Tryz.isAgg411
 z222:=Tryz.sizeOf411
 v222:=Tryz.zeroValue411
 t228:=Tryz.underlying413
 a228:=Tryz.isAgg413
 z228:=Tryz.sizeOf413
 v228:=Tryz.zeroValue413
 t229:=Tryz.underlying414
 a229:=Tryz.isAgg414
 z229:=Tryz.sizeOf414
 v229:=Tryz.zeroValue414
def FF (l:List Int):List Int:=l.mergeSort λ x y=>decide (x<=y)
def aEK (l:List Int) (hl:l.length<=1000000000):ar 243 [.row 0 0] [.row 0 1 3 (iv l)] (.ret (.tup [])) [.row 0 1 3 (iv (FF l))]:=
 EK (λ_ _=>by rfl) (λ p cap w=>Any.slices_Sort_int_none KX p cap w) (λ blk off cap b w a c hz=>Any.slices_Sort_int KX blk off cap b w a c hz) 3 l hl
set_option maxRecDepth 10000
def kyv (n:Int):aa:=.agg [ii n]
abbrev kv (l:List Int):List aa:=l.map kyv
def aB1 {l:List Int} {i:Nat} (h:i<l.length):(kv l)[i]? =some (kyv l[i]):=by simp [kv,h]
abbrev aJN (n:Int):aa:=.func (.func 242) [] [.ptr [ii n]]
def aJL (x n:Int):ar 242 [kyv x,.ptr [ii n]] [] (.ret (.bool (x==n&&true))) []:=by exact c_ Tryz.f242 λ_=>zW
def NN (n:Int):List Int->Nat->Int
 | [],_=> -1
 | x::r,i=>if (x==n&&true) then (i:Int) else NN n r (i+1)
def has (l:List Int) (n:Int):Bool:=decide (0<=NN n l 0)
noncomputable abbrev aL5:Func:=Tryz.f273
def aCc (l:List Int) (n:Int) (hl:((kv l).length:Int)<=9223372036854775807) (r:Int):∀ (m i:Nat),i+m=l.length->NN n (l.drop i) i=r->
  To E aL5 (.pure (.ret (ii r))) (.head (stk aL5 0) [(0,.slice 1 (kv l) .no),(1,aJN n),(7,.int .i64 ((kv l).length:Nat)),(8,.int .i64 i)] []):=by
 have d:(kv l).length=l.length:=by simp
 intro m;induction m with
 | zero=>
  intro i e a;rw [Ah o_] at a;subst a;refine gV ?_;exact zW
 | succ m g=>
  intro i e a;have b:i<l.length:=o_;rw [Ae b] at a;generalize f:l[i]=x at a;have get:(kv l)[i]? =some (kyv x):=(aB1 b).trans (by rw [f]);unfold NN at a;refine gV ?_;refine aT λ h=>?_
  repeat' first | (refine gN hE ?_;conv=>whnf) | refine ⟨_,get,?_⟩ | refine .pure _ [] (aJL x n) ?_ | exact rfl | (refine zt ?_;try intro h) | refine zu (λ h=>?_) λ h=>?_ | fail
  .have h:(x==n&&true)=true:=h;rw [if_pos h] at a;rw [<-a]
  .have h:(x==n&&true)=false:=h;rw [if_neg (by rw [h];decide)] at a;have c:=g (i+1) o_ a;exact zW
def aJR (l:List Int) (n:Int):ar 273 [.slice 1 (kv l) .no,aJN n] [] (.ret (ii (NN n l 0))) []:=by refine c_ Tryz.f273 λ b=>?_;have hl:((kv l).length:Int)<=9223372036854775807:=b.1;have a:=aCc l n hl _ l.length 0 o_ rfl;exact zW
def aJW (l:List Int) (n:Int):ar 241 [.slice 1 (kv l) .no,aJN n] [] (.ret (.bool (has l n))) []:=by refine c_ Tryz.f241 λ_=>?_;have a:=aJR l n;exact zW
def CU (now:Int):List Rn->List Int->List Int
 | [],ks=>ks
 | x::r,ks=>CU now r (if decide (now<gD x)&& !has ks (gD x) then ks++[gD x] else ks)
def F1 (now:Int):∀ (l:List Rn) (ks:List Int),(CU now l ks).length<=ks.length+l.length
 | [],ks=>by simp [CU]
 | x::r,ks=>by
  unfold CU;have:=F1 now r (if decide (now<gD x)&& !has ks (gD x) then ks++[gD x] else ks);split at this
  .rename_i h;rw [if_pos h];simp only [Ai,Al,Br] at this⊢;omega
  .rename_i h;rw [if_neg h];simp only [Al];omega
noncomputable abbrev VA:Func:=Tryz.f181
noncomputable abbrev En:Env:=Ex [5] [9] []
def hEn:ae En:=hEx _ _ _
def QW (ks:List Int) (m:ks.length<=1048576):∀ (n i:Nat) (a:List Int),i+n=ks.length->a=ks.take i->
  To En VA (.pure (.ret (.slice 1 (iv (FF ks)) .no))) (.head (stk VA 1) [(9,.row 0 0),(36,.slice 1 (kv ks) .no),(37,.int .i64 ((kv ks).length:Nat)),(38,.int .i64 i)] [.row 0 1 3 (iv a)]):=by
 have f:(kv ks).length=ks.length:=by simp
 intro n;induction n with
 | zero=>
  intro i a k c;rw [Cf o_] at c;subst c;refine gW hEn ?_;conv=>whnf
  refine aF λ h=>?_;refine gW hEn ?_;conv=>whnf
  refine .eff [] [0] _ _ rfl (aEK a o_) ?_
  repeat' first | (refine gN hEn ?_;conv=>whnf) | exact rfl | (refine zt ?_;try intro h) | refine zu (λ h=>?_) λ h=>?_ | fail
 | succ n l=>
  intro i a k c;have b:i<ks.length:=o_;generalize d:ks[i]=x;have get:(kv ks)[i]? =some (kyv x):=(aB1 b).trans (by rw [d]);have g:a.length=i:=by rw [c];simp;omega
  have j:(iv a).length=a.length:=by simp
  refine gW hEn ?_;conv=>whnf
  refine aT λ h=>?_;refine gW hEn ?_;conv=>whnf
  refine ⟨i,rfl,?_⟩;refine gW hEn ?_;conv=>whnf
  refine ⟨_,get,?_⟩;refine gW hEn ?_;conv=>whnf
  refine ⟨⟨by decide,by decide⟩,?_⟩;refine gW hEn ?_;conv=>whnf
  refine ⟨⟨by simp only [maxLen];simp;omega,by simp;omega⟩,?_⟩;refine gW hEn ?_;conv=>whnf
  refine aJ ?_;refine gW hEn ?_;conv=>whnf
  refine To.part [9,36,37,38] [0] rfl rfl rfl ?_;have ao:=l (i+1) (a++[x]) o_ (by rw [c,<-d];exact List.take_append_getElem b)
  have e:iv (a++[x])=iv a++[ii x]:=by simp
  rw [e] at ao
  exact ao
def YF (l:List Rn) (hs:Sm l) (now:Int) (R:List Int):∀ (n i:Nat) (ks:List Int),i+n=l.length->ks.length<=i->FF (CU now (l.drop i) ks)=R->
  To En VA (.pure (.ret (.slice 1 (iv R) .no))) (.head (stk VA 0) [(1,.int .i64 now),(5,.slice 1 (kv ks) (.own 0 0)),(12,.slice 14 (rav l) .no),(13,.int .i64 ((rav l).length:Nat)),(14,.int .i64 i)] [.tail 0 1 354]):=by
 have k:(rav l).length=l.length:=by simp
 have hl:=hs.1;intro n;induction n with
 | zero=>
  intro i ks o m a;rw [Ah o_] at a;have a:FF ks=R:=a;subst a;refine gW hEn ?_;conv=>whnf
  refine aF λ h=>?_;refine gW hEn ?_;conv=>whnf
  refine To.part [9,36,37,38] [1] rfl rfl rfl ?_;have g:=QW ks o_ ks.length 0 [] o_ s_;exact zW
 | succ n d=>
  intro i ks o m a;have c:i<l.length:=o_;rw [Ae c] at a;generalize q:l[i]=x at a;have get:(rav l)[i]? =some x.av:=(dL c).trans (by rw [q]);have p:(kv ks).length=ks.length:=by simp
  unfold CU at a;refine gW hEn ?_;conv=>whnf
  refine aT λ h=>?_;refine gW hEn ?_;conv=>whnf
  refine ⟨i,rfl,?_⟩;refine gW hEn ?_;conv=>whnf
  refine ⟨_,get,?_⟩;refine gW hEn ?_;conv=>whnf
  refine .pure _ [] (DM x) ?_;refine gW hEn ?_;conv=>whnf
  refine ⟨⟨by decide,by decide⟩,?_⟩;refine gW hEn ?_;conv=>whnf
  refine Ac (λ h1=>?_) (λ h1=>?_)
  .have h1:decide (now<gD x)=true:=h1;refine gW hEn ?_;conv=>whnf
   refine .pure _ [] (aJW ks (gD x)) ?_;refine gW hEn ?_;conv=>whnf
   refine Ac (λ b=>?_) (λ b=>?_)
   .have b:(!has ks (gD x))=true:=b;rw [h1,b,if_pos d_] at a;refine gW hEn ?_;conv=>whnf
    refine ⟨⟨by simp only [maxLen];simp;omega,by simp;omega⟩,?_⟩;refine gW hEn ?_;conv=>whnf
    refine aJ ?_;refine gW hEn ?_;conv=>whnf
    refine To.part [1,5,12,13,14] [0] rfl rfl rfl ?_;have ao:=d (i+1) (ks++[gD x]) o_ q_ a
    have e:kv (ks++[gD x])=kv ks++[kyv (gD x)]:=by simp
    rw [e] at ao
    exact ao
   .have b:(!has ks (gD x))=false:=b;rw [h1,b,if_neg d_] at a;refine gW hEn ?_;conv=>whnf
    refine aJ ?_;refine gW hEn ?_;conv=>whnf
    have j:=d (i+1) ks o_ o_ a;exact zW
  .have h1:decide (now<gD x)=false:=h1;rw [h1,Fj,if_neg d_] at a
   repeat' first | (refine gN hEn ?_;conv=>whnf) | exact rfl | (refine zt ?_;try intro h) | refine zu (λ h=>?_) λ h=>?_ | fail
   have f:=d (i+1) ks o_ o_ a;exact zW
def NV (l:List Rn) (now:Int):List Int:=FF (CU now l [])
def aGS (l:List Rn) (hs:Sm l) (now:Int):ar 181 [.slice 14 (rav l) .no,ii now] [] (.ret (.slice 1 (iv (NV l now)) .no)) []:=by
 refine cT (E:=En) (fn:=Tryz.f181) (g:=.pure _) λ_=>?_;refine gW hEn ?_;conv=>whnf
 have a:=YF l hs now _ l.length 0 [] o_ s_ rfl;exact zW
def stF (c:Con) (l:List Rn) (g:Gan):List Int->Option Int
 | []=>none
 | t::r=>if (cK c (atL l t) g).isSome=true then some t else stF c l g r
def stA:Option Int->aa
 | some t=>.tup [ii t,.bool true]
 | none=>.tup [ii 0,.bool false]
def sY (c:Con) (now:Int) (l:List Rn) (g:Gan):Option Int:=stF c l g (now::NV l now)
noncomputable abbrev aCN:Func:=Tryz.f115
def O9 (c:Con) (k:c.sm) (now:Int) (l:List Rn) (hs:Sm l) (g:Gan) (n:0<=g.pods/\g.pods<=16) (es:List Int) (q:es.length<=1048576) (R:Option Int):∀ (m i:Nat),i+m=es.length+1->stF c l g ((now::es).drop i)=R->
  To E aCN (.pure (.ret (stA R))) (.head (stk aCN 0) [(1,ii now),(2,.slice 14 (rav l) .no),(4,.ref 0 0),(7,.ref 1 0),(10,.slice 1 (iv es) .no),(21,.int .i64 (((iv es).length:Nat)+1)),(22,ii i)] (U0 c g)):=by
 have o:(iv es).length=es.length:=by simp
 intro m;induction m with
 | zero=>
  intro i r a;rw [Ah q_] at a;have a:none=R:=a;subst a;refine gV ?_;exact zW
 | succ m f=>
  intro i r a;have e:i<(now::es).length:=by simp;omega
  rw [Ae e] at a;have f:=f (i+1) o_;cases i with
  | zero=>
   have a:stF c l g (now::(now::es).drop 1)=R:=a;have d:=wE c k (atL l now) (aDT hs now) g n;have b:=aDR l hs now;unfold stF at a;generalize cK c (atL l now) g=Q at a d;unfold fdA at d;generalize atL l now=al at b d;refine gV ?_;refine aT λ h=>?_;refine gV ?_;refine aF λ h=>?_;refine gV ?_;refine .pure _ [] b ?_;refine gV ?_;cases Q with
   | none=>
    rw [if_neg d_] at a;have ao:=f a
    exact zW
   | some x=>
    exact zqha10
  | succ j=>
   have p:j<es.length:=by simp at e;omega
   have a:stF c l g (es[j]::(now::es).drop (j+1+1))=R:=a;have get:(iv es)[j]? =some (ii es[j]):=fJ p;generalize es[j]=t at a get;have d:=wE c k (atL l t) (aDT hs t) g n;have b:=aDR l hs t;unfold stF at a;generalize cK c (atL l t) g=Q at a d;unfold fdA at d;generalize atL l t=al at b d;refine gV ?_;refine aT λ h=>?_;refine gV ?_;refine aT λ h=>?_;refine gV ?_;refine aJ ?_;refine gV ?_;refine ⟨j,by omega,?_⟩;refine gV ?_;refine ⟨_,get,?_⟩;refine gV ?_;refine .pure _ [] b ?_;refine gV ?_;cases Q with
   | none=>
    rw [if_neg d_] at a;have ao:=f a
    exact zW
   | some x=>
    exact zqha10
def aAg (c:Con) (h:c.sm) (now:Int) (l:List Rn) (hs:Sm l) (g:Gan) (e:0<=g.pods/\g.pods<=16):ar 115 [c.av,ii now,.slice 14 (rav l) .no,g.av] [] (.ret (stA (sY c now l g))) []:=by
 have a:(NV l now).length<=1048576:=by
  unfold NV FF;rw [Mu];have:=F1 now l [];have:=hs.1;simp at *
  omega
 have b:=aGS l hs now;unfold sY;generalize NV l now=es at a b;have d:(iv es).length=es.length:=by simp
 refine c_ Tryz.f115 λ_=>?_;refine gV ?_;refine .pure _ [] b ?_;refine gV ?_;refine aJ ?_;refine gV ?_;exact To.cut [1,2,4,7,10,21,22] 2 rfl rfl rfl rfl (O9 c h now l hs g e es a _ (es.length+1) 0 o_ rfl)
def bmB (now:Int) (g:Gan) (t:Int):Bool:=decide (gD ⟨g,0,0,now,0,[]⟩<=t)
def aDK (now:Int) (g:Gan) (t:Int) (b:Bool) (a:bmB now g t=b):ar 17 [ii now,g.av,ii t] [] (.ret (.bool b)) []:=by have c:=DM ⟨g,0,0,now,0,[]⟩;unfold bmB at a;generalize gD ⟨g,0,0,now,0,[]⟩=x at a c;subst a;exact c_ Tryz.f17 λ_=>zW
def aHI (now:Int) (g:Gan) (t:Int):ar 17 [ii now,g.av,ii t] [] (.ret (.bool (bmB now g t))) []:=aDK now g t _ rfl
def bI (v:V3):Bool:=decide (0<=v.a/\v.a<=1048576)&&decide (0<=v.b/\v.b<=1048576)&&decide (0<=v.c/\v.c<=1048576)
def rlB (ns:List Nod) (t:Int):Bool:=if decide (t<0)=true then false else if decide ((ns.length:Int)<=t)=true then false else ns.all λ x=>!(x.p==t)
def aLL (ns:List Nod) (g:Gan):Bool:=decide (1<=g.id/\g.id<=1073741824/\1<=g.pods/\g.pods<=16)&&(bI g.need&&(decide (1<=g.run/\g.run<=1048576/\0<=g.lev/\g.lev<=3/\0<=g.pref/\g.pref<=g.lev)&&rlB ns g.ten))
def aIc (ns:List Nod) (g:Gan):Int:=if aLL ns g=true then 1 else 0
def zB (v:V3):Bool:=v.a==0&&(v.b==0&&(v.c==0&&true))
def AE (i:Nat) (x:Nod):Prop:=(i=0/\x.p≠ -1)\/(0<i/\(x.p<0\/(i:Int)<=x.p))\/x.w<1\/1000<x.w
instance (i:Nat) (x:Nod):Decidable (AE i x):=by unfold AE;infer_instance
def nP (bl:Bool) (i:Nat) (x:Nod):Bool:=if AE i x then false else if bl=true then bI x.n&&(bI x.b&&(bI x.l&&cR x.l x.n)) else zB x.n&&(zB x.b&&zB x.l)
def EY (x:Hos):Prop:=x.f<0\/100<x.f\/x.b<0\/100<x.b\/x.r<0\/100<x.r
instance (x:Hos):Decidable (EY x):=by unfold EY;infer_instance
def lF (x:Hos):Bool:=if EY x then false else bI x.c
def jY (ns:List Nod):Nat->List Nod->Bool
 | _,[]=>true
 | i,x::r=>if nP (rlB ns i) i x=true then jY ns (i+1) r else false
def zR (c:Con):Prop:=(1<=c.ns.length/\c.ns.length<=12)/\(1<=c.hs.length/\c.hs.length<=24)/\(1<=c.half/\c.half<=1048576)/\0<=c.age/\c.age<=1048576
instance (c:Con):Decidable (zR c):=by unfold zR;infer_instance
def bT (c:Con):Int:=if zR c then (if jY c.ns 0 c.ns=true then (if c.hs.all lF=true then 0 else 2) else 2) else 2
def aJU (n:Nat) (l:List Int):Bool:=l.all λ h=>decide (0<=h/\h<(n:Int))
def aKM (c:Con) (now:Int) (x:Rn):Prop:=aIc c.ns x.g=0\/x.st<0\/now<x.st\/(x.hs.length:Int)≠x.g.pods
instance (c:Con) (now:Int) (x:Rn):Decidable (aKM c now x):=by unfold aKM;infer_instance
def aMD (c:Con) (now:Int) (x:Rn):Bool:=if aKM c now x then false else aJU c.hs.length x.hs
def aKN (c:Con) (now:Int) (l:List Rn):Prop:=bT c≠0\/32<l.length\/now<0\/1099511627776<now
instance (c:Con) (now:Int) (l:List Rn):Decidable (aKN c now l):=by unfold aKN;infer_instance
def aMP (c:Con) (now:Int) (l:List Rn):Int:=if aKN c now l then 0 else if l.all (aMD c now)=true then 1 else 0
abbrev St (l:List Int):Prop:=l.Pairwise (· < ·)
end Go.Proofs.YtidhfoefaomodaaGreatDoor
