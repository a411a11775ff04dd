/- Part 6 of what the statement rests on. -/
import Derived.Test.YtidhfoefaomodaaGreatDoorProg
import Derived.Shelf.Sort.Plain
import Derived.Shelf.Slices.In.SortNone
import Derived.Test.YtidhfoefaomodaaGreatDoorMWE
set_option linter.all false
set_option maxHeartbeats 1000000
open And renaming intro->Ae
open Bool renaming and_eq_true->Af,false_and->De,false_eq_true->Cr,not_eq_true'->Df,true_and->Bw
open Exists renaming intro->Aq
open Int renaming le_refl->Dc,tdiv->Ma,toNat_natCast->Br,toNat_of_nonneg->Ld
open List renaming all_cons->Kj,append_assoc->Ag,append_nil->Ar,drop->Ht,drop_eq_getElem_cons->Aa,drop_eq_nil_of_le->Ab,drop_zero->Ap,filter_congr->Lq,filter_cons_of_neg->Fc,filter_cons_of_pos->Gb,flatMap_cons->Js,foldl_cons->Bb,getElem?_append_right->Al,getElem?_eq_getElem->Ac,getElem?_eq_none->Bm,getElem?_eq_some_iff->Ad,getElem?_map->Bi,getElem_mem->Ax,length->Ko,length_append->Ai,length_cons->Ak,length_filter_le->Fv,length_map->Cm,length_mergeSort->Mx,length_nil->Bz,length_replicate->Fu,map_append->Bq,map_cons->Bj,map_map->Ef,map_set->Gz,mem_append->Bd,mem_cons->Aw,mem_cons_of_mem->Av,mem_filter->Fm,mem_map->Ce,mem_or_eq_of_mem_set->Dq,mergeSort_perm->Lg,nil_append->Bp,nodup_append->Cd,not_mem_nil->Hu,pairwise_cons->Ck,range->Du,range'->Iu,range'_succ->Mb,range_eq_range'->Iv,range_succ->Mr,replicate->Aj,replicate_succ->Le,set_append_right->Hj,take->Ii,take_append_of_le_length->Dm,take_of_length_le->Cn
open List.cons renaming injEq->La
open Nat renaming ble->Gd,div_le_self->Hl,le_refl->Bh,le_trans->Dh,mul_le_mul->Gs,zero_le->Ch
open Option renaming map_eq_some_iff->Co
open Or renaming inl->Gl
namespace Go.Proofs.YtidhfoefaomodaaGreatDoor
open Go Go.AW Go.Proofs
def zqha0{P:Prop}(h:P:=by
 unfold SU at hp;by_cases d:x=t
 .rw [if_pos (decide_eq_true d)] at hp;refine gV ?_;refine To.beginR (k:=7) (gg:=0) rfl rfl f ?_
  repeat' first | (refine gN (hEl k [] [] []) ?_;conv=>whnf) | refine .pure _ [] (OM c a need x e) ?_ | refine .pure _ [] (FZ c b a need t x) ?_ | exact ⟨⟨rfl,rfl⟩,⟨rfl,rfl⟩⟩ | exact rfl | refine zt ?_ | refine zu ?_ ?_ | intro h | fail
  all_goals (exfalso;simp_all)
 .rw [if_neg (by rw [decide_eq_false d];decide)] at hp;refine gV ?_;refine To.beginR (k:=7) (gg:=0) rfl rfl f ?_
  repeat' first | (refine gN (hEl k [] [] []) ?_;conv=>whnf) | refine .pure _ [] (OM c a need x e) ?_ | refine .pure _ [] (FZ c b a need t x) ?_ | exact ⟨⟨rfl,rfl⟩,⟨rfl,rfl⟩⟩ | exact rfl | refine zt ?_ | refine zu ?_ ?_ | intro h | fail
  all_goals (exfalso;simp_all)):P:=h
def zqha1{P:Prop}(h:P:=by
 refine gV ?_;refine ⟨i,rfl,gV ?_⟩;refine ⟨by omega,gV ?_⟩;refine ⟨by omega,?_⟩
 exact zW):P:=h
def zqha2{P:Prop}(h:P:=by
 refine ⟨ii n,1,gV ?_⟩
 exact zW):P:=h
def zqha3{P:Prop}(h:P:=by
 refine gV ?_;refine To.beginR (k:=4) (gg:=0) rfl rfl a ?_
 exact zW):P:=h
def zqha4{P:Prop}(h:P:=by
 have c:(iv a).length=a.length:=by simp
 have e:iv (a++[x])=iv a++[ii x]:=by simp
 unfold yI;rw [e];refine gV ?_;refine To.beginR (k:=2) (gg:=0) rfl rfl b ?_
 exact zW):P:=h
def zqha5{P:Prop}(h:P:=by
 have hl:=G1 a k 0;have b:k=N:=o_;subst b;have e:rp a k 0=iv (Aj k a):=by simp [rp]
 rw [e] at hl⊢;refine gV ?_
 exact zW):P:=h
def zqha6{P:Prop}(h:P:=by
 refine c_ Tryz.f58 λ_=>gV ?_;refine .inr ?_
 exact zW):P:=h
def zqha7{P:Prop}(h:P:=by exact c_ Tryz.f16 λ_=>zW):P:=h
def zqha8{P:Prop}(h:P:=by
 rintro (h | h | h)
 .exact .inr (.inl h)
 .exact .inl h
 .exact .inr (.inr h)):P:=h
def zqha9{P:Prop}(h:P:=by
 refine gV ?_;refine .sole rfl (.eff [] [0,1] _ _ rfl (put_ok c x _ L) ?_)
 exact zW):P:=h
def zqha10{P:Prop}(h:P:=by
 rw [if_pos (show (some x).isSome=true from rfl)] at a;subst a
 exact zW):P:=h
def zqha11{P:Prop}(h:P:=by exact c_ Tryz.f187 λ_=>zW):P:=h
abbrev _root_.aq:=aA Tryz.prog
noncomputable def T0:Tab:=[
 (3,.mk (.int .i64) 1 false (.int .i64 0)),
 (22,.mk (.slc 58 15 152) 1 false (.slice 15 [] .nil)),(100,.mk (.slc 61 1 8) 1 false (.slice 1 [] .nil)),(254,.mk (.ptr 5) 1 false .nilptr),(4,.mk .bool 1 false (.bool false)),
 (43,.mk (.arr 3 1 false) 3 true (.agg [.int .i64 0,.int .i64 0,.int .i64 0])),
 (26,.mk (.strct [(0,1,false),(1,1,false),(2,1,false),(3,1,false)]) 4 true (.agg [.slice 11 [] .nil,.slice 6 [] .nil,.int .i64 0,.int .i64 0])),
 (23,.mk (.slc 179 11 88) 1 false (.slice 11 [] .nil)),
 (179,.mk (.strct [(0,1,false),(1,1,false),(2,3,true),(5,3,true),(8,3,true)]) 11 true (.agg [.int .i64 0,.int .i64 0,.int .i64 0,.int .i64 0,.int .i64 0,.int .i64 0,.int .i64 0,.int .i64 0,.int .i64 0,.int .i64 0,.int .i64 0])),
 (48,.mk (.slc 3 1 8) 1 false (.slice 1 [] .nil)),
 (115,.mk (.slc 43 3 24) 1 false (.slice 3 [] .nil)),
 (45,.mk (.strct [(0,1,false),(1,1,false),(2,1,false),(3,3,true),(6,1,false),(7,1,false),(8,1,false)]) 9 true (.agg [.int .i64 0,.int .i64 0,.int .i64 0,.int .i64 0,.int .i64 0,.int .i64 0,.int .i64 0,.int .i64 0,.int .i64 0])),
 (28,.mk (.slc 107 14 128) 1 false (.slice 14 [] .nil)),
 (107,.mk (.strct [(0,9,true),(9,1,false),(10,1,false),(11,1,false),(12,1,false),(13,1,false)]) 14 true (.agg [.int .i64 0,.int .i64 0,.int .i64 0,.int .i64 0,.int .i64 0,.int .i64 0,.int .i64 0,.int .i64 0,.int .i64 0,.int .i64 0,.int .i64 0,.int .i64 0,.int .i64 0,.slice 1 [] .nil])),
 (24,.mk (.slc 182 6 48) 1 false (.slice 6 [] .nil)),
 (182,.mk (.strct [(0,1,false),(1,1,false),(2,1,false),(3,3,true)]) 6 true (.agg [.int .i64 0,.int .i64 0,.int .i64 0,.int .i64 0,.int .i64 0,.int .i64 0])),
 (1,.mk .other 1 false .nilfunc),
 (5,.mk (.int .u8) 1 false (.int .u8 0)),
 (6,.mk (.int .u8) 1 false (.int .u8 0)),
 (8,.mk (.strct [(0,1,false),(1,1,false),(2,1,false),(3,1,false)]) 4 true (.agg [.int .i64 0,.int .i64 0,.bool false,.int .u8 0])),
 (9,.mk .str 1 false (.str [])),
 (11,.mk .str 1 false (.str [])),
 (14,.mk (.strct [(0,1,false),(1,1,false)]) 2 true (.agg [.str [],.int .u64 0])),
 (16,.mk (.ptr 421) 1 false .nilptr),
 (17,.mk (.ptr 428) 1 false .nilptr),
 (20,.mk .iface 1 false .nilif),
 (27,.mk (.slc 47 11 88) 1 false (.slice 11 [] .nil)),
 (29,.mk (.slc 130 1 8) 1 false (.slice 1 [] .nil)),
 (31,.mk (.strct [(0,4,true),(4,1,false),(5,1,false),(6,1,false),(7,1,false),(8,1,false)]) 9 true (.agg [.slice 11 [] .nil,.slice 6 [] .nil,.int .i64 0,.int .i64 0,.int .i64 0,.int .i64 0,.slice 11 [] .nil,.slice 14 [] .nil,.slice 1 [] .nil])),
 (35,.mk (.slc 41 3 24) 1 false (.slice 3 [] .nil)),
 (41,.mk (.strct [(0,1,false),(1,1,false),(2,1,false)]) 3 true (.agg [.int .i64 0,.int .i64 0,.int .i64 0])),
 (47,.mk (.strct [(0,9,true),(9,1,false),(10,1,false)]) 11 true (.agg [.int .i64 0,.int .i64 0,.int .i64 0,.int .i64 0,.int .i64 0,.int .i64 0,.int .i64 0,.int .i64 0,.int .i64 0,.int .i64 0,.int .i64 0])),
 (53,.mk (.slc 60 17 168) 1 false (.slice 17 [] .nil)),
 (54,.mk (.ptr 121) 1 false .nilptr),
 (58,.mk (.strct [(0,1,false),(1,4,true),(5,9,true),(14,1,false)]) 15 true (.agg [.int .i64 0,.slice 11 [] .nil,.slice 6 [] .nil,.int .i64 0,.int .i64 0,.int .i64 0,.int .i64 0,.int .i64 0,.int .i64 0,.int .i64 0,.int .i64 0,.int .i64 0,.int .i64 0,.int .i64 0,.int .i64 0])),
 (60,.mk (.strct [(0,1,false),(1,15,true),(16,1,false)]) 17 true (.agg [.int .i64 0,.int .i64 0,.slice 11 [] .nil,.slice 6 [] .nil,.int .i64 0,.int .i64 0,.int .i64 0,.int .i64 0,.int .i64 0,.int .i64 0,.int .i64 0,.int .i64 0,.int .i64 0,.int .i64 0,.int .i64 0,.int .i64 0,.int .i64 0])),
 (61,.mk (.int .i64) 1 false (.int .i64 0)),
 (63,.mk (.strct [(0,1,false),(1,1,false)]) 2 true (.agg [.int .i64 0,.slice 3 [] .nil])),
 (68,.mk (.ptr 134) 1 false .nilptr),
 (70,.mk (.ptr 144) 1 false .nilptr),
 (80,.mk (.slc 63 2 32) 1 false (.slice 2 [] .nil)),
 (88,.mk .other 1 false .nilfunc),
 (89,.mk (.slc 9 1 16) 1 false (.slice 1 [] .nil)),
 (108,.mk (.ptr 111) 1 false .nilptr),
 (111,.mk (.strct [(0,9,true),(9,1,false),(10,1,false),(11,1,false)]) 12 true (.agg [.slice 11 [] .nil,.slice 6 [] .nil,.int .i64 0,.int .i64 0,.int .i64 0,.int .i64 0,.slice 11 [] .nil,.slice 14 [] .nil,.slice 1 [] .nil,.slice 3 [] .nil,.bool false,.int .i64 0])),
 (121,.mk (.strct [(0,1,false),(1,1,false)]) 2 true (.agg [.nilptr,.nilptr])),
 (126,.mk .other 1 false .nilfunc),
 (128,.mk .other 1 false .nilfunc),
 (129,.mk (.int .u64) 1 false (.int .u64 0)),
 (130,.mk (.int .u64) 1 false (.int .u64 0)),
 (132,.mk (.slc 5 1 1) 1 false (.slice 1 [] .nil)),
 (134,.mk (.strct [(0,1,false),(1,1,false),(2,1,false),(3,1,false)]) 4 true (.agg [.int .i64 0,.slice 1 [] .nil,.slice 1 [] .nil,.bool false])),
 (135,.mk (.ptr 220) 1 false .nilptr),
 (139,.mk .iface 1 false .nilif),
 (144,.mk (.strct [(0,1,false),(1,9,true)]) 10 true (.agg [.nilptr,.slice 11 [] .nil,.slice 6 [] .nil,.int .i64 0,.int .i64 0,.int .i64 0,.int .i64 0,.slice 11 [] .nil,.slice 14 [] .nil,.slice 1 [] .nil])),
 (152,.mk .other 1 false .nilfunc),
 (155,.mk (.ptr 160) 1 false .nilptr),
 (156,.mk (.ptr 158) 1 false .nilptr),
 (158,.mk (.strct [(0,1,false),(1,1,false)]) 2 true (.agg [.nilptr,.slice 1 [] .nil])),
 (160,.mk (.strct [(0,2,true)]) 2 true (.agg [.nilptr,.slice 1 [] .nil])),
 (168,.mk (.ptr 170) 1 false .nilptr),
 (170,.mk (.strct [(0,1,false)]) 1 true (.agg [.str []])),
 (171,.mk (.ptr 173) 1 false .nilptr),
 (173,.mk (.strct [(0,2,true)]) 2 true (.agg [.nilptr,.slice 1 [] .nil])),
 (188,.mk .other 1 false .nilfunc),
 (189,.mk .other 1 false .nilfunc),
 (190,.mk (.ptr 193) 1 false .nilptr),
 (193,.mk (.strct [(0,9,true)]) 9 true (.agg [.slice 11 [] .nil,.slice 6 [] .nil,.int .i64 0,.int .i64 0,.int .i64 0,.int .i64 0,.slice 11 [] .nil,.slice 14 [] .nil,.slice 1 [] .nil])),
 (194,.mk .other 1 false .nilfunc),
 (202,.mk .other 1 false .nilfunc),
 (204,.mk (.strct [(0,1,false)]) 1 true (.agg [.nilfunc])),
 (207,.mk .other 1 false .nilfunc),
 (208,.mk .other 1 false .nilfunc),
 (210,.mk (.ptr 290) 1 false .nilptr),
 (213,.mk .other 1 false .nilfunc),
 (216,.mk (.slc 48 1 24) 1 false (.slice 1 [] .nil)),
 (220,.mk (.strct [(0,1,false),(1,1,false)]) 2 true (.agg [.nilptr,.int .i64 0])),
 (224,.mk .iface 1 false .nilif),
 (229,.mk (.strct [(0,4,true)]) 4 true (.agg [.slice 11 [] .nil,.slice 6 [] .nil,.int .i64 0,.int .i64 0])),
 (231,.mk (.ptr 31) 1 false .nilptr),
 (233,.mk (.strct [(0,9,true)]) 9 true (.agg [.int .i64 0,.int .i64 0,.int .i64 0,.int .i64 0,.int .i64 0,.int .i64 0,.int .i64 0,.int .i64 0,.int .i64 0])),
 (236,.mk (.strct [(0,1,false)]) 1 true (.agg [.int .i64 0])),
 (238,.mk (.strct [(0,1,false)]) 1 true (.agg [.int .i64 0])),
 (242,.mk (.strct [(0,1,false)]) 1 true (.agg [.int .i64 0])),
 (245,.mk (.strct []) 0 true (.agg [])),
 (256,.mk (.ptr 61) 1 false .nilptr),
 (267,.mk .other 1 false .nilfunc),
 (271,.mk .other 1 false .nilfunc),
 (275,.mk .other 1 false .nilfunc),
 (282,.mk .other 1 false .nilfunc),
 (288,.mk (.mp 3 43) 1 false .nilmap),
 (290,.mk (.strct [(0,4,true),(4,1,false)]) 5 true (.agg [.slice 11 [] .nil,.slice 6 [] .nil,.int .i64 0,.int .i64 0,.nilmap])),
 (293,.mk (.mp 295 3) 1 false .nilmap),
 (295,.mk (.strct [(0,1,false),(1,1,false),(2,1,false),(3,1,false)]) 4 true (.agg [.int .i64 0,.int .i64 0,.int .i64 0,.int .i64 0])),
 (321,.mk (.int .u32) 1 false (.int .u32 0)),
 (325,.mk (.strct [(0,9,true),(9,1,false),(10,1,false)]) 11 true (.agg [.int .i64 0,.int .i64 0,.int .i64 0,.int .i64 0,.int .i64 0,.int .i64 0,.int .i64 0,.int .i64 0,.int .i64 0,.int .i64 0,.int .i64 0])),
 (326,.mk (.mp 3 4) 1 false .nilmap),
 (327,.mk (.slc 20 1 16) 1 false (.slice 1 [] .nil)),
 (333,.mk (.int .u64) 1 false (.int .u64 0)),
 (334,.mk .other 1 false .nilptr),
 (337,.mk (.strct [(0,1,false)]) 1 true (.agg [.int .i64 0])),
 (344,.mk (.ptr 346) 1 false .nilptr),
 (346,.mk (.strct [(0,1,false),(1,1,false)]) 2 true (.agg [.slice 14 [] .nil,.nilfunc])),
 (352,.mk (.slc 354 1 8) 1 false (.slice 1 [] .nil)),
 (354,.mk (.arr 1 1 false) 1 true (.agg [.int .i64 0])),
 (356,.mk .other 1 false .nilfunc),
 (361,.mk .other 1 false .nilfunc),
 (368,.mk .other 1 false .nilfunc),
 (372,.mk .other 1 false .nilfunc),
 (374,.mk .iface 1 false .nilif),
 (387,.mk (.arr 16 1 false) 16 true (.agg [.int .u64 0,.int .u64 0,.int .u64 0,.int .u64 0,.int .u64 0,.int .u64 0,.int .u64 0,.int .u64 0,.int .u64 0,.int .u64 0,.int .u64 0,.int .u64 0,.int .u64 0,.int .u64 0,.int .u64 0,.int .u64 0])),
 (391,.mk (.mp 3 3) 1 false .nilmap),
 (421,.mk (.strct [(0,0,true)]) 0 true (.agg [])),
 (428,.mk (.strct [(0,1,false),(1,1,false),(2,1,false),(3,1,false),(4,1,false),(5,1,false),(6,1,false),(7,1,false),(8,1,false),(9,1,false),(10,1,false)]) 11 true (.agg [.int .u64 0,.int .u64 0,.int .u32 0,.int .u8 0,.int .u8 0,.int .u8 0,.int .u8 0,.nilfunc,.nilptr,.int .i32 0,.int .i32 0]))]
def F0:List (Nat×Nat):=[(42,3),(43,3),(44,9),(45,9),(178,11),(179,11),(181,6),(182,6),(353,1),(354,1),(294,4),(295,4),(46,11),(47,11),(325,11),(41,3),(40,3)]
def M0:aHL:=[(325,"tithebarn/queue.id",340),(325,"tithebarn/queue.seq",341)]
noncomputable def E:Env:={P:=Tryz.prog,T:=T0,mt:=M0,fl:=F0,own:=[],rws:=[],bl:=[],df:=[]}
def hE:ae E where
 mix:=by kernel_rfl
 tab:=VH (by kernel_rfl) (by kernel_rfl)
 mth:=EI.cons (λ v w=>by kernel_rfl) (EI.cons (λ v w=>by kernel_rfl) EI.nil)
 fl:=TU (by kernel_rfl)
noncomputable def Er(l b:az):Env:={E with rws:=l,bl:=b}
def hEr(l b:az):ae (Er l b):=⟨hE.mix,hE.tab,hE.mth,hE.fl⟩
noncomputable def Eo(l b:az):Env:={E with own:=l,bl:=b}
def hEo(l b:az):ae (Eo l b):=⟨hE.mix,hE.tab,hE.mth,hE.fl⟩
noncomputable def Ed(df:List (Nat×ay)):Env:={E with df:=df}
def hEd(df:List (Nat×ay)):ae (Ed df):=⟨hE.mix,hE.tab,hE.mth,hE.fl⟩
noncomputable def Ex(o r b:az):Env:={E with own:=o,rws:=r,bl:=b}
def hEx(o r b:az):ae (Ex o r b):=⟨hE.mix,hE.tab,hE.mth,hE.fl⟩
noncomputable def El(l:Nat)(o r b:az):Env:={Ex o r b with rd:=some l}
def hEl(l:Nat)(o r b:az):ae (El l o r b):=⟨hE.mix,hE.tab,hE.mth,hE.fl⟩
def c_(fn:Func){f:FuncId}{args:ay}{r:Res}(h:okL args->To E fn (.pure r) (.code [.code (eK fn)] (frA 0 args) []))(k:Tryz.prog.funcs[f]? =some fn:=by rfl)(i:fn.body=some (eK fn):=by rfl)(a:qS Tryz.prog f:=by exact λ_ _=>by rfl)(b:dU fn.ntmps (eK fn)=true:=by decide+kernel)(l:Gd args.length fn.ntmps=true:=by rfl):aA Tryz.prog f args [] r []:=cT (E:=E) (g:=.pure r) h rfl k i a b l rfl rfl rfl
structure V3 where
 (a b c:Int)
 deriving DecidableEq
abbrev _root_.a8:=List V3
structure Nod where
 (p w:Int)
 (n b l:V3)
 deriving DecidableEq
abbrev _root_.bc:=List Nod
structure Hos where
 (f b r:Int)
 (c:V3)
 deriving DecidableEq
structure Con where
 ns:bc
 hs:List Hos
 (half age:Int)
 deriving DecidableEq
structure Gan where
 (id ten pods:Int)
 need:V3
 (run lev pref:Int)
 deriving DecidableEq
abbrev ii(n:Int):aa:=.int .i64 n
def V3.cs(v:V3):ay:=[ii v.a,ii v.b,ii v.c]
def Nod.cs(x:Nod):ay:=[ii x.p,ii x.w,ii x.n.a,ii x.n.b,ii x.n.c,ii x.b.a,ii x.b.b,ii x.b.c,ii x.l.a,ii x.l.b,ii x.l.c]
def Nod.av(x:Nod):aa:=.agg x.cs
def Hos.cs(x:Hos):ay:=[ii x.f,ii x.b,ii x.r,ii x.c.a,ii x.c.b,ii x.c.c]
def Hos.av(x:Hos):aa:=.agg x.cs
abbrev nav(l:bc):ay:=l.map Nod.av
abbrev hav(l:List Hos):ay:=l.map Hos.av
def Con.cs(x:Con):ay:=[.slice 11 (nav x.ns) .no,.slice 6 (hav x.hs) .no,ii x.half,ii x.age]
def Con.av(x:Con):aa:=.agg x.cs
def Gan.cs(x:Gan):ay:=[ii x.id,ii x.ten,ii x.pods,ii x.need.a,ii x.need.b,ii x.need.c,ii x.run,ii x.lev,ii x.pref]
def Gan.av(x:Gan):aa:=.agg x.cs
abbrev iv(l:ax):ay:=l.map ii
def V3.zero:V3:=⟨0,0,0⟩
def V3.av(v:V3):aa:=.agg v.cs
abbrev vav(l:a8):ay:=l.map V3.av
def xU{n:Int}(h1: -9223372036854775808<=n)(a:n<=9223372036854775807):inR .i64 n:=⟨by simp only [dA];omega,by simp only [bN];omega⟩
def nU{l:bc}{i:Nat}(h:i<l.length):(nav l)[i]? =some l[i].av:=by simp [nav,h]
def BG{l:List Hos}{i:Nat}(h:i<l.length):(hav l)[i]? =some l[i].av:=by simp [hav,h]
def dJ{l:ax}{i:Nat}(h:i<l.length):(iv l)[i]? =some (ii l[i]):=by simp [iv,h]
def bE{M:Imm}{ob:Hs}{v:Value}{cs:ay}(h:Rep M ob v (.agg cs))(i:Nat)(a:aa)(c:cs[i]? =some a):okA a:=by
 obtain ⟨vs,_,hl,d⟩:=h.agg_inv;have b:i<vs.length:=by rw [hl];exact (Ad.1 c).1
 exact (d i _ a (Ac b) c).okA
def aA.get{P:Program}{f:FuncId}{args:ay}{ac ao:au}{r:Res}(Q:Prop)(c:∀ M ob vs,cM M ob vs args->Q)(h:Q->aA P f args ac r ao):aA P f args ac r ao:=
 λ M ob w a hm b=>h (c _ _ _ b) M ob w a hm b
def eD{b:Bool}(h:(!b)=true):b=false:=by cases b<;>first | rfl | cases h
def eF{b:Bool}(h:(!b)=false):b=true:=by cases b<;>first | rfl | cases h
structure Rn where
 g:Gan
 (seq at' st fl:Int)
 hs:ax
 deriving DecidableEq
abbrev _root_.a6:=List Rn
def Rn.cs(x:Rn):ay:=[ii x.g.id,ii x.g.ten,ii x.g.pods,ii x.g.need.a,ii x.g.need.b,ii x.g.need.c,ii x.g.run,ii x.g.lev,ii x.g.pref,ii x.seq,ii x.at',ii x.st,ii x.fl,.slice 1 (iv x.hs) .no]
def Rn.av(x:Rn):aa:=.agg x.cs
abbrev rav(l:a6):=l.map Rn.av
def cF{l:a6}{i:Nat}(h:i<l.length):(rav l)[i]? =some l[i].av:=by simp [rav,h]
def AB{l:a8}{i:Nat}(h:i<l.length):(vav l)[i]? =some l[i].av:=by simp [vav,h]
def aHS{n:Int}(h:9223372036854775807<n)(a:n<=18446744073709551614):IntKind.wrap .i64 n=n-18446744073709551616:=by simp [IntKind.wrap,IntKind.signed,IntKind.bits];omega
def aHR{n:Int}(h:n< -9223372036854775808)(a: -18446744073709551616<=n):IntKind.wrap .i64 n=n+18446744073709551616:=by simp [IntKind.wrap,IntKind.signed,IntKind.bits];omega
set_option maxRecDepth 10000
def iB(n m:Int):Int:=min (max n (0-m)) m
def DK(n m:Int)(h:0<=m): -m<=iB n m/\iB n m<=m:=by unfold iB;omega
def X3(n m:Int)(a:0<=m)(h1:m<=1099511627776):aq 196 [ii n,ii m] [] (.ret (ii (iB n m))) []:=by exact c_ Tryz.f196 λ_=>zW
def lR(x y:Int):Int:=iB (iB x 1099511627776+iB y 1099511627776) 1099511627776
def sT(x y:Int):Int:=iB (iB x 1099511627776-iB y 1099511627776) 1099511627776
def aFk(x n:Int):Int:=iB (iB x 1099511627776*iB n 1048576) 1099511627776
def aPf(x n:Int): -1152921504606846976<=iB x 1099511627776*iB n 1048576/\iB x 1099511627776*iB n 1048576<=1152921504606846976:=by
 have h1:=DK x 1099511627776 d_;have a:=DK n 1048576 d_;have h3:(iB x 1099511627776*iB n 1048576).natAbs<=1099511627776*1048576:=by rw [Int.natAbs_mul];exact Gs o_ o_
 omega
def aLI(x y:Int):aq 195 [ii x,ii y] [] (.ret (ii (lR x y))) []:=by
 have h1:=DK x 1099511627776 d_;have a:=DK y 1099511627776 d_;refine c_ Tryz.f195 λ_=>?_
 repeat' first | (refine gN hE ?_;conv=>whnf) | refine .pure _ [] (X3 _ _ d_ d_) ?_ | exact rfl | refine zt ?_ | refine zu ?_ ?_ | intro h | fail
def aIo(x y:Int):aq 201 [ii x,ii y] [] (.ret (ii (sT x y))) []:=by
 have h1:=DK x 1099511627776 d_;have a:=DK y 1099511627776 d_;refine c_ Tryz.f201 λ_=>?_
 repeat' first | (refine gN hE ?_;conv=>whnf) | refine .pure _ [] (X3 _ _ d_ d_) ?_ | exact rfl | refine zt ?_ | refine zu ?_ ?_ | intro h | fail
def aJx(x y n:Int):aq 197 [ii x,ii y,.ptr [ii n]] [] (.ret (ii (aFk x n))) []:=by
 have h1:=aPf x n;refine c_ Tryz.f197 λ_=>?_
 repeat' first | (refine gN hE ?_;conv=>whnf) | refine .pure _ [] (X3 _ _ d_ d_) ?_ | exact rfl | refine zt ?_ | refine zu ?_ ?_ | intro h | fail
def V3.map2(op:Int->Int->Int)(a b:V3):V3:=⟨op a.a b.a,op a.b b.b,op a.c b.c⟩
def aA4(f:FuncId)(op:Int->Int->Int)(a b:V3)(h:∀ x y,aA Tryz.prog f [ii x,ii y] [] (.ret (ii (op x y))) []):aq 194 [a.av,b.av,.func (.func f) [] []] [] (.ret (V3.map2 op a b).av) []:=by
  refine c_ Tryz.f194 λ_=>gV ?_
  repeat' first
   | (refine gW hE ?_;conv=>whnf)
   | refine .pure _ [] (h _ _) ?_
   | exact rfl
   | refine aY ?_
   | refine aN ?_
   | refine aJ ?_
   | refine Aq _ (Ae rfl ?_)
   | refine Ae d_ ?_
def aGR(f:FuncId)(op:Int->Int->Int)(n:Int)(a b:V3)(h:∀ x y,aA Tryz.prog f [ii x,ii y,.ptr [ii n]] [] (.ret (ii (op x y))) []):aq 194 [a.av,b.av,.func (.func f) [] [.ptr [ii n]]] [] (.ret (V3.map2 op a b).av) []:=by
  refine c_ Tryz.f194 λ_=>gV ?_
  repeat' first
   | (refine gW hE ?_;conv=>whnf)
   | refine .pure _ [] (h _ _) ?_
   | exact rfl
   | refine aY ?_
   | refine aN ?_
   | refine aJ ?_
   | refine Aq _ (Ae rfl ?_)
   | refine Ae d_ ?_
def fK(a b:V3):V3:=V3.map2 lR a b
def J4(a b:V3):V3:=V3.map2 sT a b
def aOJ(a:V3)(n:Int):V3:=V3.map2 (λ x _=>aFk x n) a a
def kQ(a b:V3):aq 122 [a.av,b.av] [] (.ret (fK a b).av) []:=by refine c_ Tryz.f122 λ_=>?_;have c:=aA4 _ lR a b aLI;exact zW
def NO(a b:V3):aq 127 [a.av,b.av] [] (.ret (J4 a b).av) []:=by refine c_ Tryz.f127 λ_=>?_;have c:=aA4 _ sT a b aIo;exact zW
def aHX(a:V3)(n:Int):aq 124 [a.av,ii n] [] (.ret (aOJ a n).av) []:=by refine c_ Tryz.f124 λ_=>?_;have b:=aGR _ (λ x _=>aFk x n) n a a λ x y=>aJx x y n;exact zW
def dC(a b:V3):Bool:=if decide (b.a<a.a)=true then false else if decide (b.b<a.b)=true then false else if decide (b.c<a.c)=true then false else true
abbrev aNb(n:Int):aa:=.func (.func 184) [] [.ptr [ii n]]
def aNa(x:Nod)(n:Int):aq 184 [x.av,.ptr [ii n]] [] (.ret (.bool (decide (x.p=n)))) []:=by exact c_ Tryz.f184 λ_=>zW
def ak(n:Int):bc->Nat->Int
 | [],_=> -1
 | x::r,i=>if decide (x.p=n)=true then (i:Int) else ak n r (i+1)
noncomputable abbrev aL0:Func:=Tryz.f245
def aCe(l:bc)(n:Int)(hl:((nav l).length:Int)<=9223372036854775807)(r:Int):∀ (m i:Nat),i+m=l.length->ak n (l.drop i) i=r->
  To E aL0 (.pure (.ret (ii r))) (.head (stk aL0 0) [(0,.slice 11 (nav l) .no),(1,aNb n),(7,.int .i64 ((nav l).length:Nat)),(8,.int .i64 i)] []):=by
 have d:(nav l).length=l.length:=by simp
 intro m;induction m with
 | zero=>
  intro i f a;rw [Ab o_] at a;subst a;refine gV ?_;exact zW
 | succ m g=>
  intro i f a;have b:i<l.length:=o_;rw [Aa b] at a;generalize e:l[i]=x at a;have get:(nav l)[i]? =some x.av:=(nU b).trans (by rw [e]);unfold ak at a;refine gV ?_;refine aT λ h=>?_
  repeat' first | (refine gN hE ?_;conv=>whnf) | refine ⟨_,get,?_⟩ | refine .pure _ [] (aNa x n) ?_ | exact rfl | refine zt ?_ | refine zu ?_ ?_ | intro h | fail
  .have h:decide (x.p=n)=true:=h;rw [if_pos h] at a;rw [<-a]
  .have h:decide (x.p=n)=false:=h;rw [if_neg (by rw [h];decide)] at a;have c:=g (i+1) o_ a;exact zW
def aJ7(l:bc)(n:Int):aq 245 [.slice 11 (nav l) .no,aNb n] [] (.ret (ii (ak n l 0))) []:=by refine c_ Tryz.f245 λ b=>?_;have hl:((nav l).length:Int)<=9223372036854775807:=b.1;have a:=aCe l n hl _ l.length 0 o_ rfl;exact zW
def aKd(l:bc)(n:Int):aq 183 [.slice 11 (nav l) .no,aNb n] [] (.ret (.bool (decide (0<=ak n l 0)))) []:=by refine c_ Tryz.f183 λ_=>?_;have a:=aJ7 l n;exact zW
def bL(ns:bc)(n:Int):Bool:=if decide (0<=n)=true then (if decide (n<(ns.length:Int))=true then !decide (0<=ak n ns 0) else false) else false
def aA9(c:Con)(M:Imm)(ob:Hs)(vs:ba)(h:cM M ob vs [c.av]):((nav c.ns).length:Int)<=9223372036854775807/\((hav c.hs).length:Int)<=9223372036854775807:=by
 have hl:0<vs.length:=by rw [h.1];simp
 have:=h.2 0 _ c.av (Ac hl) rfl;exact ⟨bE this 0 _ rfl,bE this 1 _ rfl⟩
def aFy(c:Con)(n:Int)(r:Bool)(b:bL c.ns n=r):aq 117 [c.av,ii n] [] (.ret (.bool r)) []:=by
 have d:(nav c.ns).length=c.ns.length:=by simp
 unfold bL at b;refine c_ Tryz.f117 λ_=>gV ?_;refine Ae (λ h1=>?_) (λ h1=>?_)
 .have h1:decide (0<=n)=true:=h1;rw [if_pos h1] at b;refine gV ?_;refine Ae (λ a=>?_) (λ a=>?_)
  .have a:decide (n<((nav c.ns).length:Int))=true:=a;rw [d] at a;rw [if_pos a] at b
   repeat' first | (refine gN hE ?_;conv=>whnf) | refine .pure _ [] (aKd c.ns n) ?_ | exact rfl | refine zt ?_ | refine zu ?_ ?_ | intro h | fail
   rw [<-b]
  .have a:decide (n<((nav c.ns).length:Int))=false:=a;rw [d] at a;rw [if_neg (by rw [a];decide)] at b
   repeat' first | (refine gN hE ?_;conv=>whnf) | exact rfl | refine zt ?_ | refine zu ?_ ?_ | intro h | fail
   rw [<-b]
 .have h1:decide (0<=n)=false:=h1;rw [if_neg (by rw [h1];decide)] at b
  repeat' first | (refine gN hE ?_;conv=>whnf) | exact rfl | refine zt ?_ | refine zu ?_ ?_ | intro h | fail
  rw [<-b]
def mQ(c:Con)(n:Int):aq 117 [c.av,ii n] [] (.ret (.bool (bL c.ns n))) []:=aFy c n _ rfl
inductive Ylds(P:Program)(l:Nat):ax->BInv->BInv->Bool->Prop
 | nil (I:BInv):Ylds P l [] I I true
 | stop (x:Int) (r:ax) (I I':BInv) (h:bT P (.yield l) [ii x] [.bun 0 I] (.ret (.bool false)) [.bun 1 I']):Ylds P l (x::r) I I' false
 | next (x:Int) (r:ax) (I I1 I2:BInv) (b:Bool) (h:bT P (.yield l) [ii x] [.bun 0 I] (.ret (.bool true)) [.bun 1 I1]) (k:Ylds P l r I1 I2 b):Ylds P l (x::r) I I2 b
def upF(ns:bc):Nat->Int->ax
 | 0,_=>[]
 | f+1,n=>if decide (0<=n)=true then (if h:n.toNat<ns.length then (if decide (n<=(ns[n.toNat]).p)=true then [n] else n::upF ns f (ns[n.toNat]).p) else []) else []
def upL(ns:bc)(n:Int):ax:=upF ns (n.toNat+1) n
noncomputable abbrev aKr:Func:=Tryz.f192
def aDp(l:Nat)(c:Con)(hl:((nav c.ns).length:Int)<=9223372036854775807)(g:BInv)(b:Bool):∀ (f:Nat) (n:Int),n<(f:Int)->∀ (I:BInv),Ylds Tryz.prog l (upF c.ns f n) I g b->
  ∃ m g',To E aKr (.full 2 (.ret (.tup [])) [.cells 3 [m],.bun g' g]) (.head (stk aKr 0) [(0,.func (.yield l) [] []),(1,.ref 0 0),(2,.ptr c.cs)] [.cells 3 [ii n],.bun 1 I]):=by
 have k:(nav c.ns).length=c.ns.length:=by simp
 intro f;induction f with
 | zero=>
  intro n q I a;have h1:¬ 0<=n:=o_;cases a;exact zqha2
 | succ f i=>
  intro n q I a;have s:=λ(p:Int) (hp:¬ n<=p) (e:BInv) (h1:Ylds Tryz.prog l (upF c.ns f p) e g b)=>i p o_ e h1;unfold upF at a;by_cases h1:0<=n
  .rw [if_pos (decide_eq_true h1)] at a;by_cases j:n.toNat<c.ns.length
   .rw [dif_pos j] at a;generalize o:c.ns[n.toNat]=x at a;have get:(nav c.ns)[n.toNat]? =some x.av:=(nU j).trans (by rw [o]);have u:n=(n.toNat:Int):=o_;by_cases h3:n<=x.p
    .rw [if_pos (decide_eq_true h3)] at a;cases a with
     | stop _ _ _ _ d=>
      exact zqha2
     | next _ _ _ e _ _ d h=>
      cases h;exact zqha2
    .rw [if_neg (by rw [decide_eq_false h3];decide)] at a;cases a with
     | stop _ _ _ _ d=>
      exact zqha2
     | next _ _ _ e _ _ d h=>
      obtain ⟨m,g',r⟩:=s x.p o_ _ h;refine ⟨m,g',gV ?_⟩;exact zW
   .rw [dif_neg j] at a;cases a;exact zqha2
  .rw [if_neg (by rw [decide_eq_false h1];decide)] at a;cases a;exact zqha2
def aBt(l:Nat)(c:Con)(n:Int)(I e:BInv)(b:Bool)(hl:((nav c.ns).length:Int)<=9223372036854775807)(a:Ylds Tryz.prog l (upL c.ns n) I e b):
  ∃ m g',To E aKr (.full 2 (.ret (.tup [])) [.cells 3 [m],.bun g' e]) (.head (stk aKr 0) [(0,.func (.yield l) [] []),(1,.ref 0 0),(2,.ptr c.cs)] [.cells 3 [ii n],.bun 0 I]):=by
 have i:(nav c.ns).length=c.ns.length:=by simp
 unfold upL at a;have o:=λ(p:Int) (hp:¬ n<=p) (f:BInv) (h1:Ylds Tryz.prog l (upF c.ns n.toNat p) f e b)=>aDp l c hl e b n.toNat p o_ f h1;unfold upF at a;by_cases h1:0<=n
 .rw [if_pos (decide_eq_true h1)] at a;by_cases h:n.toNat<c.ns.length
  .rw [dif_pos h] at a;generalize j:c.ns[n.toNat]=x at a;have get:(nav c.ns)[n.toNat]? =some x.av:=(nU h).trans (by rw [j]);have q:n=(n.toNat:Int):=o_;by_cases h3:n<=x.p
   .rw [if_pos (decide_eq_true h3)] at a;cases a with
    | stop _ _ _ _ d=>
     exact zqha2
    | next _ _ _ f _ _ d g=>
     cases g;exact zqha2
   .rw [if_neg (by rw [decide_eq_false h3];decide)] at a;cases a with
    | stop _ _ _ _ d=>
     exact zqha2
    | next _ _ _ f _ _ d g=>
     obtain ⟨m,g',k⟩:=o x.p o_ _ g;refine ⟨m,g',gV ?_⟩;exact zW
  .rw [dif_neg h] at a;cases a;refine ⟨ii n,0,gV ?_⟩;exact zW
 .rw [if_neg (by rw [decide_eq_false h1];decide)] at a;cases a;refine ⟨ii n,0,gV ?_⟩;exact zW
def NS(l:Nat)(c:Con)(n:Int)(I a:BInv)(b:Bool)(hl:((nav c.ns).length:Int)<=9223372036854775807)(d:Ylds Tryz.prog l (upL c.ns n) I a b):∃ m g',aq 192 [.func (.yield l) [] [],.ref 0 0,.ptr c.cs] [.cells 3 [ii n],.bun 0 I] (.ret (.tup [])) [.cells 3 [m],.bun g' a]:=by obtain ⟨m,g',h⟩:=aBt l c n I a b hl d;refine ⟨m,g',?_⟩;refine cT (E:=E) (fn:=Tryz.f192) (g:=.full 2 _ _) λ_=>?_;exact zW
def Y4(c:Con)(n:Int):aq 119 [c.av,ii n] [] (.ret (.func (.func 192) [] [.ref 0 0,.ptr c.cs])) [.cells 3 [ii n]]:=by refine cT (E:=E) (fn:=Tryz.f119) (g:=.full 0 _ _) λ_=>gV ?_;refine ⟨[0],[1],⟨rfl,rfl⟩,?_⟩;exact ⟨rfl,rfl⟩
abbrev Led:=List (Int×V3)
def led(L:Led):List (ax×aa):=L.map λ p=>([p.1],p.2.av)
def lF:Led->Int->Option V3
 | [],_=>none
 | (k,v)::r,n=>if k=n then some v else lF r n
def CZ:Led->Int->V3->Led
 | [],n,v=>[(n,v)]
 | (k,w)::r,n,v=>if k=n then (n,v)::r else (k,w)::CZ r n v
def H3:Led->Int->Led
 | [],_=>[]
 | (k,w)::r,n=>if k=n then r else (k,w)::H3 r n
def H0(n:Int):∀ (L:Led),cG (led L) [n]=(lF L n).map V3.av
 | []=>rfl
 | (k,v)::r=>by
  have:=H0 n r;simp only [led,Bj,cG,lF,La,and_true] at this⊢;split
  .rfl
  .exact this
def aAk(n:Int)(v:V3):∀ (L:Led),oJ (led L) [n] v.av=led (CZ L n v)
 | []=>rfl
 | (k,w)::r=>by
  have:=aAk n v r;simp only [led,Bj,oJ,CZ,La,and_true] at this⊢;split
  .rfl
  .rw [this];rfl
def aAl(n:Int):∀ (L:Led),KH (led L) [n]=led (H3 L n)
 | []=>rfl
 | (k,w)::r=>by
  have:=aAl n r;simp only [led,Bj,KH,H3,La,and_true] at this⊢;split
  .rfl
  .rw [this];rfl
def uC(L:Led)(n:Int):V3:=(lF L n).getD V3.zero
def isZ(v:V3):Bool:=(v.a==0)&&((v.b==0)&&((v.c==0)&&true))
def SX(L:Led)(n:Int)(v:V3):Led:=if isZ v=true then H3 L n else CZ L n v
abbrev KK(c:Con):ay:=[.slice 11 (nav c.ns) .no,.slice 6 (hav c.hs) .no,ii c.half,ii c.age,.mref 1]
def aI7(c:Con)(n:Int)(v:V3)(L L':Led)(a:SX L n v=L'):aq 193 [.ref 0 0,ii n,v.av] [.cells 290 (KK c),.mp false (led L)] (.ret (.tup [])) [.cells 290 (KK c),.mp false (led L')]:=by
 unfold SX at a;refine cT (E:=E) (fn:=Tryz.f193) (g:=.full 2 _ _) λ_=>gV ?_;refine Ae (λ h1=>?_) (λ h1=>?_)
 .have h1:isZ v=true:=h1;rw [if_pos h1] at a;refine gV ?_;refine ⟨[],[0,1],⟨rfl,rfl⟩,?_⟩;refine ⟨rfl,?_⟩;show [ab.cells _ _,ab.mp false (KH (led L) [n])]=_;rw [aAl,a]
 .have h1:isZ v=false:=h1;rw [if_neg (by rw [h1];decide)] at a;refine gV ?_;refine ⟨[],[0,1],⟨rfl,rfl⟩,?_⟩;refine ⟨rfl,?_⟩;show [ab.cells _ _,ab.mp false (oJ (led L) [n] v.av)]=_;rw [aAk,a]
def put_ok(c:Con)(n:Int)(v:V3)(L:Led):aq 193 [.ref 0 0,ii n,v.av] [.cells 290 (KK c),.mp false (led L)] (.ret (.tup [])) [.cells 290 (KK c),.mp false (led (SX L n v))]:=aI7 c n v L _ rfl
def F7{α:Type}{P:Program}{l:Nat}(F:α->BInv)(st:α->Int->α)(h:∀ a x,bT P (.yield l) [ii x] [.bun 0 (F a)] (.ret (.bool true)) [.bun 1 (F (st a x))]):∀ (xs:ax) (a:α),Ylds P l xs (F a) (F (xs.foldl st a)) true
 | [],a=>.nil _
 | x::r,a=>.next x r _ _ _ _ (h a x) (F7 F st h r (st a x))
def DO(v:V3)(L:Led)(x:Int):Led:=SX L x (fK (uC L x) v)
noncomputable abbrev aKz:Func:=Tryz.f121
def aP6(c:Con):ar:=[(4,.ref 2 0),(6,.ref 3 0),(7,.ref 4 0),(22,.func (.func 192) [] [.ref 5 0,.ptr c.cs])]
def aBf(c:Con)(v:V3)(L:Led)(o:ab):au:=[.cells 290 (KK c),.mp false (led L),.cells 210 [.ref 0 0],.cells 43 v.cs,.cells 213 [.func (.func 122) [] []],.dead,o]
def aHj(c:Con)(v:V3)(L:Led)(x:Int)(l:Nat)(R:Loop)(d:R.state= .ready):
  To (El l [] [] []) aKz (.keep 7 (.ret (.bool true)) (aBf c v (DO v L x) (.bun 0 (cQ l {R with state:=.busy})))) (.code [.code (rfA aKz),.beginR,.code (rfB aKz)] (kC (aP6 c) 23 (ii x)) (aBf c v L (.bun 0 (cQ l R)))):=by
 refine gV ?_;refine To.beginR (k:=6) (gg:=0) rfl rfl d ?_;have a:=H0 x L;unfold DO uC;cases b:lF L x with
 | none=>
  rw [b] at a;have a:cG (led L) [x]=none:=a;refine gV ?_;refine ⟨none,a,gV ?_⟩;refine .pure _ [] (kQ V3.zero v) ?_;exact zqha9
 | some u=>
  rw [b] at a;have a:cG (led L) [x]=some u.av:=a;refine gV ?_;refine ⟨some u.av,a,gV ?_⟩;refine .pure _ [] (kQ u v) ?_;exact zqha9
def YK(c:Con)(t:Int)(v:V3)(L L':Led)(e:Int)(i:bL c.ns t=true->L'=(upL c.ns t).foldl (DO v) L/\e=0)(h:bL c.ns t=false->L'=L/\e=3)(hl:((nav c.ns).length:Int)<=9223372036854775807):
  aq 121 [.ref 0 0,ii t,v.av,.func (.func 122) [] []] [.cells 290 (KK c),.mp false (led L)] (.ret (ii e)) [.cells 290 (KK c),.mp false (led L')]:=by
 refine cT (E:=E) (fn:=Tryz.f121) (g:=.full 2 _ _) λ_=>gV ?_;refine .pure _ [] (mQ c t) (gV ?_);refine Ae (λ h1=>?_) (λ h1=>?_)
 .have h1:bL c.ns t=false:=eD h1;obtain ⟨rfl,rfl⟩:=h h1;refine gV ?_;refine ⟨[],[0,1],⟨rfl,rfl⟩,⟨rfl,rfl⟩⟩
 .have h1:bL c.ns t=true:=eF h1;obtain ⟨rfl,rfl⟩:=i h1;refine gV ?_;refine .pure _ [.cells 3 [ii t]] (Y4 c t) (gV ?_);refine To.cutC [4,6,7,22] 6 rfl rfl rfl rfl ?_;refine To.range [5] rfl rfl (λ_ _=>by rfl) rfl (λ_ _=>rfl) rfl λ l ob0 R _ a=>?_;obtain ⟨m,g',d⟩:=NS l c t _ _ true hl (F7 (P:=Tryz.prog) (l:=l) (λ L=>mL ob0 (aP6 c) R (aBf c v L (.bun 0 (cQ l R)))) (DO v) (λ L x=>jN (E:=Ex [] [] []) (fn:=aKz) (k:=6) (n:=7) (p:=23) (gg:=0) (L':=aBf c v (DO v L x) (.bun 0 (cQ l {R with state:=.busy}))) (b:=true) a.params a.ready a.pend a.assign a.body a.size rfl rfl rfl rfl rfl rfl rfl λ_=>aHj c v L x l R a.ready) (upL c.ns t) L);refine ⟨_,true,_,[.cells 3 [m]],g',d,rfl,rfl,gV ?_⟩;refine ⟨[],[0,1],⟨rfl,rfl⟩,⟨rfl,rfl⟩⟩
structure Con.sm(c:Con):Prop where
 ns:c.ns.length<=1048576
 hs:c.hs.length<=1048576
def aNl(c:Con)(b:c.sm):aq 120 [c.av] [] (.ret (.ref 0 0)) [.cells 290 (KK c),.mp false (led [])]:=by
 have h1:=b.ns;have a:(nav c.ns).length=c.ns.length:=by simp
 refine cT (E:=E) (fn:=Tryz.f120) (g:=.full 0 _ _) λ_=>gV ?_;refine Ae (Ae (by simp only [maxLen];omega) o_) ?_;refine gV ?_;refine ⟨[],[3,2],⟨rfl,rfl⟩,⟨rfl,rfl⟩⟩
def nF(f:Nat->V3)(i m:Nat):a8:=(Du i).map f++Aj m V3.zero
def IQ(f:Nat->V3)(i m:Nat):(nF f i m).length=i+m:=by simp [nF]
def IP(f:Nat->V3)(i m:Nat):(vav (nF f i (m+1))).set i (f i).av=vav (nF f (i+1) m):=by
 have h1:(Du i).length=i:=by simp
 unfold nF vav;rw [Mr,Bq,Bq,Bq,Le,Bj];rw [Hj _ _ s_];simp
def IR(f:Nat->V3)(n:Nat):nF f n 0=(Du n).map f:=by simp [nF]
def DB(f:Nat->V3)(n:Nat):vav (nF f 0 n)=Aj n (aa.agg [ii 0,ii 0,ii 0]):=by simp [nF,vav,V3.av,V3.zero,V3.cs]
noncomputable abbrev aPO:Func:=Tryz.f123
abbrev aFx(c:Con)(L:Led):au:=[.cells 290 (KK c),.mp false (led L)]
def pJ(n:Nat)(L:Led):a8:=(Du n).map λ i:Nat=>uC L (i:Int)
def aHD(c:Con)(L:Led)(g:c.ns.length<=1048576)(K:Int)(j:K=(c.ns.length:Nat)):∀ (m i:Nat),i+m=c.ns.length->
  To E aPO (.full 2 (.ret (.slice 3 (vav (pJ c.ns.length L)) .no)) (aFx c L)) (.head (stk aPO 0) [(0,.ref 0 0),(3,.row 2 0),(15,.int .i64 K),(16,.int .i64 i)] [.cells 290 (KK c),.mp false (led L),.row 0 3 43 (vav (nF (λ i:Nat=>uC L (i:Int)) i m))]):=by
 intro m;induction m with
 | zero=>
  intro i b;have e:nF (λ i:Nat=>uC L (i:Int)) i 0=pJ c.ns.length L:=by rw [IR];unfold pJ;rw [<-b];rfl
  rw [e];refine gV ?_;refine aF λ h=>gV ?_;refine ⟨[2],[0,1],⟨rfl,rfl⟩,⟨rfl,rfl⟩⟩
 | succ m f=>
  intro i b;have hl:(vav (nF (λ i:Nat=>uC L (i:Int)) i (m+1))).length=i+(m+1):=by rw [Cm,IQ]
  have hs:=IP (λ i:Nat=>uC L (i:Int)) i m;have a:=H0 (i:Int) L;have next:=f (i+1) o_
  rw [<-hs] at next
  unfold uC at next
  refine gV ?_;refine aT λ h=>?_;cases d:lF L (i:Int) with
  | none=>
   rw [d] at a next
   have a:cG (led L) [(i:Int)]=none:=a;refine gV ?_;refine ⟨none,a,?_⟩;exact zqha1
  | some u=>
   rw [d] at a next
   have a:cG (led L) [(i:Int)]=some u.av:=a;refine gV ?_;refine ⟨some u.av,a,?_⟩;exact zqha1
def aOE(c:Con)(L:Led)(b:c.sm):aq 123 [.ref 0 0] (aFx c L) (.ret (.slice 3 (vav (pJ c.ns.length L)) .no)) (aFx c L):=by
 have h1:=b.ns;have a:(nav c.ns).length=c.ns.length:=by simp
 refine cT (E:=E) (fn:=Tryz.f123) (g:=.full 2 _ _) λ_=>gV ?_;refine aN (gV ?_);refine ⟨c.ns.length,by rw [a],gV ?_⟩;refine ⟨⟨rfl,by omega,by simp only [maxLen];omega⟩,?_⟩;refine gV ?_;have next:=aHD c L h1 ((Aj c.ns.length (aa.agg [ii 0,ii 0,ii 0])).length:Nat) (by rw [Fu]) c.ns.length 0 o_
 rw [DB] at next
 exact To.head [0,3,15,16] next
def dem(g:Gan):V3:=aOJ g.need g.pods
def X0(g:Gan):aq 55 [g.av] [] (.ret (dem g).av) []:=by refine c_ Tryz.f55 λ_=>?_;have a:=aHX g.need g.pods;exact zW
def yT(c:Con)(L:Led)(x:Rn):Led:=if bL c.ns x.g.ten=true then (upL c.ns x.g.ten).foldl (DO (dem x.g)) L else L
def ofL(c:Con)(l:a6):a8:=pJ c.ns.length (l.foldl (yT c) [])
def aCT(c:Con)(t:Int)(v:V3)(L:Led)(a:c.sm):aq 121 [.ref 0 0,ii t,v.av,.func (.func 122) [] []] (aFx c L) (.ret (ii (if bL c.ns t=true then 0 else 3))) (aFx c (if bL c.ns t=true then (upL c.ns t).foldl (DO v) L else L)):=
 YK c t v L _ _ (λ h=>⟨if_pos h,if_pos h⟩) (λ h=>⟨if_neg (by rw [h];decide),if_neg (by rw [h];decide)⟩) (by have:=a.ns;simp only [Cm];omega)
noncomputable abbrev fOf:Func:=Tryz.f54
def aJf(c:Con)(e:c.sm)(l:a6)(hl:l.length<=1048576)(R:a8):∀ (m i:Nat) (L:Led),i+m=l.length->pJ c.ns.length ((l.drop i).foldl (yT c) L)=R->
  To E fOf (.pure (.ret (.slice 3 (vav R) .no))) (.head (stk fOf 0) [(5,.ref 1 0),(10,.slice 14 (rav l) .no),(11,.int .i64 ((rav l).length:Nat)),(12,.int .i64 i)] [.cells 26 c.cs,.cells 290 [.slice 11 (nav c.ns) .no,.slice 6 (hav c.hs) .no,ii c.half,ii c.age,.mref 2],.mp false (led L)]):=by
 have d:(rav l).length=l.length:=by simp
 intro m;induction m with
 | zero=>
  intro i L f a;rw [Ab o_] at a;subst a;refine gV ?_;refine aF λ h=>gV ?_;refine .eff [] [1,2] _ _ rfl (aOE c L e) ?_;exact zW
 | succ m j=>
  intro i L f a;have b:i<l.length:=o_;rw [Aa b,Bb] at a;generalize k:l[i]=x at a;have get:(rav l)[i]? =some x.av:=(cF b).trans (by rw [k]);have next:=j (i+1) (yT c L x) o_ a
  refine gV ?_;refine aT λ h=>gV ?_;refine ⟨i,rfl,gV ?_⟩;refine ⟨_,get,gV ?_⟩;refine .pure _ [] (X0 x.g) (gV ?_);refine .sole rfl (.eff [] [1,2] _ _ rfl (aCT c x.g.ten (dem x.g) L e) ?_);exact zW
def SG(c:Con)(a:c.sm)(l:a6)(hl:l.length<=1048576):aq 54 [c.av,.slice 14 (rav l) .no] [] (.ret (.slice 3 (vav (ofL c l)) .no)) []:=by refine c_ Tryz.f54 λ_=>gV ?_;refine .pure _ [_,_] (aNl c a) (gV ?_);exact To.cut [5,10,11,12] 3 rfl rfl rfl rfl (aJf c a l hl _ l.length 0 [] o_ rfl)
def lvF(ns:bc):Nat->Nat->ax
 | 0,_=>[]
 | m+1,i=>if bL ns (i:Int)=true then (i:Int)::lvF ns m (i+1) else lvF ns m (i+1)
def xE(ns:bc):ax:=lvF ns ns.length 0
def O1(ns:bc):∀ (m i:Nat),(lvF ns m i).length<=m
 | 0,_=>by simp [lvF]
 | m+1,i=>by
  have:=O1 ns m (i+1);unfold lvF;split
  .simp;omega
  .omega
noncomputable abbrev aPI:Func:=Tryz.f277
def aFr(c:Con)(l:c.sm)(R:ax):∀ (m i:Nat) (a:ax),i+m=c.ns.length->a.length<=i->a++lvF c.ns m i=R->
  To (Eo [3] []) aPI (.pure (.ret (.slice 1 (iv R) .no))) (.head (stk aPI 0) [(1,.ref 0 0),(3,.slice 1 (iv a) (.own 1 0)),(7,.int .i64 ((nav c.ns).length:Nat)),(8,.int .i64 i)] [.cells 26 c.cs,.tail 0 1 3]):=by
 have f:(nav c.ns).length=c.ns.length:=by simp
 have h1:=l.ns;intro m;induction m with
 | zero=>
  intro i a k j b;unfold lvF at b;rw [Ar] at b;subst b;refine gV ?_;exact zW
 | succ m g=>
  intro i a k j b;have n:(iv a).length=a.length:=by simp
  unfold lvF at b;refine gV ?_;refine aT λ h=>gV ?_;refine .pure _ [] (mQ c i) (gV ?_);refine Ae (λ d=>?_) (λ d=>?_)
  .have d:bL c.ns (i:Int)=true:=d;rw [if_pos d] at b;have next:=g (i+1) (a++[(i:Int)]) o_ q_ (by rw [Ag];exact b)
   have e:iv (a++[(i:Int)])=iv a++[ii i]:=by simp
   rw [e] at next
   exact zW
  .have d:bL c.ns (i:Int)=false:=d;rw [if_neg (by rw [d];decide)] at b;have next:=g (i+1) a o_ o_ b
   exact zW
def aNt(c:Con)(b:c.sm):aq 277 [c.av] [] (.ret (.slice 1 (iv (xE c.ns)) .no)) []:=by refine cT (E:=(Eo [3] [])) (fn:=Tryz.f277) (g:=.pure _) λ_=>?_;have a:=aFr c b _ c.ns.length 0 [] o_ s_ rfl;exact zW
def aDo(ns:bc):∀ (f:Nat) (n x:Int),x∈upF ns f n->x<=n
 | 0,n,x,h=>by simp [upF] at h
 | f+1,n,x,h=>by
  unfold upF at h;split at h
  .split at h
   .split at h
    .simp at h;omega
    .rename_i h3;rcases Aw.1 h with rfl | h
     .omega
     .have:=aDo ns f _ x h;have:¬ n<=(ns[n.toNat]).p:=λ a=>h3 (decide_eq_true a);omega
   .simp at h
  .simp at h
def VF(ns:bc):∀ (f:Nat) (n:Int),(upF ns f n).Pairwise λ a b=>b<a
 | 0,n=>by simp [upF]
 | f+1,n=>by
  unfold upF;split
  .split
   .split
    .simp
    .rename_i h3;refine Ck.2 ⟨λ x d=>?_,VF ns f _⟩;have:=aDo ns f _ x d;have:¬ n<=(ns[n.toNat]).p:=λ c=>h3 (decide_eq_true c);omega
   .simp
  .simp
def BD(ns:bc)(n t:Int):ax:=if n∈upL ns t then [t] else []
def bI(ns:bc)(n:Int):ax:=(xE ns).flatMap (BD ns n)
noncomputable abbrev nL:Func:=Tryz.f276
def aIb(c:Con)(n:Int)(lv:ax)(i K:Int):ar:=[(1,.ptr c.cs),(2,.ptr [ii n]),(3,.ref 1 0),(5,.ref 2 0),(8,.slice 1 (iv lv) .no),(9,.int .i64 K),(10,.int .i64 i),(16,.func (.func 192) [] [.ref 3 0,.ptr c.cs])]
def vD(l:Nat)(t:Int)(G:Nat)(I:BInv)(o:ab):au:=[.bun G I,.cells 202 [.func (.yield l) [] []],.cells 3 [ii t],.dead,o]
abbrev busy(R:Loop):Loop:={R with state:=.busy}
def aH8(c:Con)(n t x i K:Int)(lv:ax)(l l2 G:Nat)(I:BInv)(R:Loop)(a:R.state= .ready)(b:x≠n):
  To (El l2 [] [] []) nL (.keep 5 (.ret (.bool true)) (vD l t G I (.bun 0 (cQ l2 (busy R))))) (.code [.code (rfA nL),.beginR,.code (rfB nL)] (kC (aIb c n lv i K) 17 (ii x)) (vD l t G I (.bun 0 (cQ l2 R)))):=by
 exact zqha3
def aMm(c:Con)(n t i K:Int)(lv:ax)(l l2 G:Nat)(I b:BInv)(R:Loop)(a:R.state= .ready)(d:G=0\/G=1)(e:bT Tryz.prog (.yield l) [ii t] [.bun 0 I] (.ret (.bool true)) [.bun 1 b]):
  To (El l2 [] [] []) nL (.keep 5 (.ret (.bool true)) (vD l t (G+1) b (.bun 0 (cQ l2 (busy R))))) (.code [.code (rfA nL),.beginR,.code (rfB nL)] (kC (aIb c n lv i K) 17 (ii n)) (vD l t G I (.bun 0 (cQ l2 R)))):=by
 rcases d with rfl | rfl
 .exact zqha3
 .exact zqha3
def aH7(c:Con)(n t i K:Int)(lv:ax)(l l2 G:Nat)(I b:BInv)(R:Loop)(a:R.state= .ready)(d:G=0\/G=1)(e:bT Tryz.prog (.yield l) [ii t] [.bun 0 I] (.ret (.bool false)) [.bun 1 b]):
  To (El l2 [] [] []) nL (.keep 5 (.ret (.bool false)) (vD l t (G+1) b (.bun 0 (cQ l2 (busy R))))) (.code [.code (rfA nL),.beginR,.code (rfB nL)] (kC (aIb c n lv i K) 17 (ii n)) (vD l t G I (.bun 0 (cQ l2 R)))):=by
 rcases d with rfl | rfl
 .exact zqha3
 .exact zqha3
def B9{P:Program}{l:Nat}{J:BInv}{n:Int}(hs:∀ x,x≠n->bT P (.yield l) [ii x] [.bun 0 J] (.ret (.bool true)) [.bun 1 J]):∀ (xs:ax),n∉xs->Ylds P l xs J J true
 | [],_=>.nil _
 | x::r,h=>.next x r _ _ _ _ (hs x λ e=>h (by simp [e])) (B9 hs r λ e=>h (by simp [e]))
def F6{P:Program}{l:Nat}{J J1:BInv}{n:Int}{b:Bool}(hs:∀ x,x≠n->bT P (.yield l) [ii x] [.bun 0 J] (.ret (.bool true)) [.bun 1 J])(c:bT P (.yield l) [ii n] [.bun 0 J] (.ret (.bool b)) [.bun 1 J1])
  (h1:b=true->∀ x,x≠n->bT P (.yield l) [ii x] [.bun 0 J1] (.ret (.bool true)) [.bun 1 J1]):∀ (xs:ax),xs.Pairwise (λ a b=>b<a)->n∈xs->Ylds P l xs J J1 b
 | [],_,h=>by simp at h
 | x::r,hp,h=>by
  rw [Ck] at hp;by_cases d:x=n
  .subst d;cases b with
   | true=>exact .next x r _ _ _ _ c (B9 (h1 rfl) r λ e=>by have:=hp.1 x e;omega)
   | false=>exact .stop x r _ _ c
  .exact .next x r _ _ _ _ (hs x d) (F6 hs c h1 r hp.2 ((Aw.1 h).resolve_left λ e=>d e.symm))
def tnJ(c:Con)(n t i K:Int)(lv:ax)(l l2:Nat)(ob0:Hs)(R a:Loop)(G:Nat)(I:BInv):BInv:=mL ob0 (aIb c n lv i K) R (vD l t G I (.bun 0 (cQ l2 a)))
def AG{e d:Code}(c:Con)(n t x i K:Int)(lv:ax)(l l2 G:Nat)(ob0:Hs)(I:BInv)(R:Loop)(a:RecOK nL 17 e d R)(h:rfA nL=e)(g:rfB nL=d)(f:x≠n):
  bT Tryz.prog (.yield l2) [ii x] [.bun 0 (tnJ c n t i K lv l l2 ob0 R R G I)] (.ret (.bool true)) [.bun 1 (tnJ c n t i K lv l l2 ob0 R R G I)]:=by
 subst h g;exact jN (E:=Ex [] [] []) (fn:=nL) (k:=4) (n:=5) (p:=17) (gg:=0) (L':=vD l t G I (.bun 0 (cQ l2 (busy R)))) (b:=true) a.params a.ready a.pend a.assign a.body a.size rfl rfl rfl rfl rfl rfl rfl λ_=>aH8 c n t x i K lv l l2 G I R a.ready f
def ZF{h f:Code}(c:Con)(n t i K:Int)(lv:ax)(l l2 G:Nat)(ob0:Hs)(I d:BInv)(R:Loop)(b:Bool)(a:RecOK nL 17 h f R)(m:rfA nL=h)(j:rfB nL=f)(g:G=0\/G=1)(e:bT Tryz.prog (.yield l) [ii t] [.bun 0 I] (.ret (.bool b)) [.bun 1 d]):
  bT Tryz.prog (.yield l2) [ii n] [.bun 0 (tnJ c n t i K lv l l2 ob0 R R G I)] (.ret (.bool b)) [.bun 1 (tnJ c n t i K lv l l2 ob0 R (oD R b) (G+1) d)]:=by
 subst m j;cases b with
 | true=>exact jN (E:=Ex [] [] []) (fn:=nL) (k:=4) (n:=5) (p:=17) (gg:=0) (L':=vD l t (G+1) d (.bun 0 (cQ l2 (busy R)))) (b:=true) a.params a.ready a.pend a.assign a.body a.size rfl rfl rfl rfl rfl rfl rfl λ_=>aMm c n t i K lv l l2 G I d R a.ready g e
 | false=>exact jN (E:=Ex [] [] []) (fn:=nL) (k:=4) (n:=5) (p:=17) (gg:=0) (L':=vD l t (G+1) d (.bun 0 (cQ l2 (busy R)))) (b:=false) a.params a.ready a.pend a.assign a.body a.size rfl rfl rfl rfl rfl rfl rfl λ_=>aH7 c n t i K lv l l2 G I d R a.ready g e
def aDE(c:Con)(P:c.sm)(n:Int)(l:Nat)(lv:ax)(j:BInv)(b:Bool)(X:lv.length<=1048576):∀ (m i:Nat) (G:Nat) (I:BInv),i+m=lv.length->(G=0\/G=1)->Ylds Tryz.prog l ((lv.drop i).flatMap (BD c.ns n)) I j b->
  ∃ g',To E nL (.full 1 (.ret (.tup [])) [.bun g' j]) (.head (stk nL 0) [(1,.ptr c.cs),(2,.ptr [ii n]),(3,.ref 1 0),(8,.slice 1 (iv lv) .no),(9,.int .i64 ((iv lv).length:Nat)),(10,.int .i64 i)] [.bun G I,.cells 202 [.func (.yield l) [] []]]):=by
 have N:(iv lv).length=lv.length:=by simp
 have H:((nav c.ns).length:Int)<=9223372036854775807:=by have:=P.ns;simp only [Cm];omega
 intro m;induction m with
 | zero=>
  intro i G I S o d;rw [Ab o_] at d;have d:Ylds Tryz.prog l [] I j b:=d;cases d;rcases o with rfl | rfl
  .refine ⟨0,gV ?_⟩;exact zW
  .refine ⟨1,gV ?_⟩;exact zW
 | succ m M=>
  intro i G I S o d;have z:i<lv.length:=o_;rw [Aa z,Js] at d;generalize g:lv[i]=t at d;have get:(iv lv)[i]? =some (ii t):=(dJ z).trans (by rw [g])
  -- what the loop within comes to
  have key:∃ (g' r:Nat) (v:BInv) (k:Bool),(k=true->(r=G\/r=G+1)/\To E nL (.full 1 (.ret (.tup [])) [.bun g' j]) (.head (stk nL 0) [(1,.ptr c.cs),(2,.ptr [ii n]),(3,.ref 1 0),(8,.slice 1 (iv lv) .no),(9,.int .i64 ((iv lv).length:Nat)),(10,.int .i64 ((i:Int)+1))] [.bun (if r=0 then 0 else 1) v,.cells 202 [.func (.yield l) [] []]]))/\(k=false->r=G+1/\g'=1/\v=j)/\
    ∀ (l2:Nat) (ob0:Hs) (R:Loop) (B u:Code),RecOK nL 17 B u R->rfA nL=B->rfB nL=u->Ylds Tryz.prog l2 (upL c.ns t) (tnJ c n t i ((iv lv).length:Nat) lv l l2 ob0 R R G I) (tnJ c n t i ((iv lv).length:Nat) lv l l2 ob0 R (oD R k) r v) k:=by
   unfold BD at d;have w:(upL c.ns t).Pairwise λ a b=>b<a:=VF _ _ _;by_cases y:n∈upL c.ns t
   .rw [if_pos y] at d;have d:Ylds Tryz.prog l (t::(lv.drop (i+1)).flatMap (BD c.ns n)) I j b:=d;cases d with
    | stop _ _ _ _ s=>
     refine ⟨1,G+1,j,false,(λ h=>by cases h),λ_=>⟨rfl,rfl,rfl⟩,λ l2 ob0 R B u f q p=>?_⟩;exact F6 (λ x g=>AG c n t x i _ lv l l2 G ob0 I R f q p g) (ZF c n t i _ lv l l2 G ob0 I j R false f q p o s) (λ h=>by cases h) _ w y
    | next _ _ _ C _ _ s T=>
     obtain ⟨g',e⟩:=M (i+1) 1 C o_ (.inr rfl) T;refine ⟨g',G+1,C,true,λ_=>⟨.inr rfl,?_⟩,(λ h=>by cases h),λ l2 ob0 R B u f q p=>?_⟩
     .rw [if_neg o_];exact e
     .exact F6 (λ x g=>AG c n t x i _ lv l l2 G ob0 I R f q p g) (ZF c n t i _ lv l l2 G ob0 I C R true f q p o s) (λ_ x g=>AG c n t x i _ lv l l2 (G+1) ob0 C R f q p g) _ w y
   .rw [if_neg y] at d;have d:Ylds Tryz.prog l ((lv.drop (i+1)).flatMap (BD c.ns n)) I j b:=d;obtain ⟨g',e⟩:=M (i+1) G I o_ o d;refine ⟨g',G,I,true,λ_=>⟨.inl rfl,?_⟩,(λ h=>by cases h),λ l2 ob0 R B u f q p=>?_⟩
    .rcases o with rfl | rfl
     .exact e
     .exact e
    .exact B9 (λ x g=>AG c n t x i _ lv l l2 G ob0 I R f q p g) _ y
  obtain ⟨g',r,v,k,L,J,D⟩:=key;refine ⟨g',gV ?_⟩;refine aT λ h=>gV ?_;refine ⟨i,rfl,gV ?_⟩;refine ⟨_,get,gV ?_⟩;refine .pure _ [.cells 3 [ii t]] (Y4 c t) (gV ?_);refine To.cutC [1,2,3,5,8,9,10,16] 4 rfl rfl rfl rfl ?_;refine To.range [3] rfl rfl (λ_ _=>by rfl) rfl (λ_ _=>rfl) rfl λ l2 ob0 R _ f=>?_;obtain ⟨V,Q,F⟩:=NS l2 c t _ _ k H (D l2 ob0 R _ _ f rfl rfl);refine ⟨vD l t r v (.bun 0 (cQ l2 (oD R k))),k,_,[.cells 3 [V]],Q,F,rfl,rfl,?_⟩;cases k with
  | false=>
   obtain ⟨O,U,W⟩:=J rfl;subst O U W;rcases o with rfl | rfl
   .refine gV ?_;refine ⟨[],[0],⟨rfl,rfl⟩,⟨rfl,rfl⟩⟩
   .refine gV ?_;refine ⟨[],[0],⟨rfl,rfl⟩,⟨rfl,rfl⟩⟩
  | true=>
   obtain ⟨K,e⟩:=L rfl;refine gV ?_;refine aJ (gV ?_);refine To.part [1,2,3,8,9,10] [0,1] rfl rfl rfl ?_;rcases o with rfl | rfl<;>rcases K with rfl | rfl<;>exact e
def aDD(c:Con)(a:c.sm)(n:Int)(l:Nat)(I e:BInv)(b:Bool)(j:Ylds Tryz.prog l (bI c.ns n) I e b):∃ g',aq 276 [.func (.yield l) [] [],.ptr c.cs,.ptr [ii n]] [.bun 0 I] (.ret (.tup [])) [.bun g' e]:=by have d:(xE c.ns).length<=1048576:=Dh (O1 _ _ _) a.ns;obtain ⟨g',h⟩:=aDE c a n l (xE c.ns) e b d (xE c.ns).length 0 0 I o_ (.inl rfl) j;refine ⟨g',?_⟩;refine cT (E:=E) (fn:=Tryz.f276) (g:=.full 1 _ _) λ_=>?_;have i:=aNt c a;exact zW
def GQ(c:Con)(n:Int):aq 246 [c.av,ii n] [] (.ret (.func (.func 276) [] [.ptr c.cs,.ptr [ii n]])) []:=by exact c_ Tryz.f246 λ_=>zW
def QG{P:Program}{l:Nat}(F:ax->BInv)(h:∀ (a:ax) x,a.length<1048576->bT P (.yield l) [ii x] [.bun 0 (F a)] (.ret (.bool true)) [.bun 1 (F (a++[x]))]):∀ (xs a:ax),a.length+xs.length<=1048576->Ylds P l xs (F a) (F (a++xs)) true
 | [],a,_=>by rw [Ar];exact .nil _
 | x::r,a,hl=>by have:=QG F h r (a++[x]) (by simp at hl⊢;omega);rw [Ag] at this;exact .next x r _ _ _ _ (h a x (by simp at hl;omega)) this
noncomputable abbrev uP:Func:=Tryz.f266
abbrev aBw(c:Con)(n:Int):aa:=.func (.func 276) [] [.ptr c.cs,.ptr [ii n]]
def aOD(f:aa):ar:=[(2,.ref 0 0),(6,f)]
def yI(a:ax)(g:Nat)(o:ab):au:=[.cells 48 [.slice 1 (iv a) (.own 1 g)],.tail g 1 3,o]
def aCZ(f:aa)(a:ax)(x:Int)(hl:a.length<1048576)(l:Nat)(R:Loop)(b:R.state= .ready):
  To (El l [] [] []) uP (.keep 3 (.ret (.bool true)) (yI (a++[x]) 1 (.bun 0 (cQ l (busy R))))) (.code [.code (rfA uP),.beginR,.code (rfB uP)] (kC (aOD f) 7 (ii x)) (yI a 0 (.bun 0 (cQ l R)))):=by
 exact zqha4
def aCY(f:aa)(a:ax)(x:Int)(hl:a.length<1048576)(l:Nat)(R:Loop)(b:R.state= .ready):
  To (El l [] [] []) uP (.keep 3 (.ret (.bool true)) (yI (a++[x]) 2 (.bun 0 (cQ l (busy R))))) (.code [.code (rfA uP),.beginR,.code (rfB uP)] (kC (aOD f) 7 (ii x)) (yI a 1 (.bun 0 (cQ l R)))):=by
 exact zqha4
def gOf:ax->Nat
 | []=>0
 | _::_=>1
def aF9(a:ax)(x:Int):gOf (a++[x])=1:=by cases a<;>rfl
def apJ(f:aa)(ob0:Hs)(R:Loop)(l:Nat)(a:ax):BInv:=mL ob0 (aOD f) R (yI a (gOf a) (.bun 0 (cQ l R)))
def aHC{g e:Code}(f:aa)(i:∀ og,cvtV 3 [0,1,2] og 5 f=f)(ob0:Hs)(l:Nat)(R:Loop)(d:ax)(x:Int)(hl:d.length<1048576)(h1:∀ hs∈ob0,hs.length=1)(m:ob0.length=0)(c:RecOK uP 7 g e R)(j:rfA uP=g)(h:rfB uP=e):
  bT Tryz.prog (.yield l) [ii x] [.bun 0 (apJ f ob0 R l d)] (.ret (.bool true)) [.bun 1 (apJ f ob0 R l (d++[x]))]:=by
 subst j h;unfold apJ;rw [aF9];cases d with
 | nil=>exact jN (E:=Ex [] [] []) (fn:=uP) (k:=2) (n:=3) (p:=7) (gg:=0) (L':=yI ([]++[x]) 1 (.bun 0 (cQ l (busy R)))) (b:=true) c.params c.ready c.pend c.assign c.body c.size rfl rfl rfl rfl rfl rfl rfl λ_=>aCZ f [] x hl l R c.ready
 | cons a r=>
  have:=jN (E:=Ex [] [] []) (fn:=uP) (ob0:=ob0) (k:=2) (n:=3) (p:=7) (gg:=0) (L:=yI (a::r) 1 (.bun 0 (cQ l R))) (L':=yI ((a::r)++[x]) 2 (.bun 0 (cQ l (busy R)))) (b:=true) c.params c.ready c.pend c.assign c.body c.size rfl rfl rfl rfl rfl rfl rfl λ_=>aCY f (a::r) x hl l R c.ready;refine this.bunTo (aHf (n:=3) rfl h1 o_ rfl ?_ rfl);show [(2,aa.ref 0 0),(6,cvtV 3 [0,1,2] _ 5 f)]=_;rw [i];rfl
def aOC(c:Con)(d:c.sm)(n:Int)(e:(bI c.ns n).length<=1048576):aq 266 [.nilslice,aBw c n] [] (.ret (.slice 1 (iv (bI c.ns n)) .no)) []:=by refine c_ Tryz.f266 λ_=>gV ?_;refine To.cutC [2,6] 1 rfl rfl rfl rfl ?_;refine To.mapO (aJq 1) (SN 1) ?_;refine To.beginC 0 0 3 rfl rfl ?_;refine To.range [] rfl rfl (λ_ _=>by rfl) rfl (λ_ _=>rfl) rfl λ l ob0 R hst h=>?_;obtain ⟨g',a⟩:=aDD c d n l _ _ true (QG (P:=Tryz.prog) (l:=l) (apJ (aBw c n) ob0 R l) (λ b x hl=>aHC (aBw c n) (λ_=>rfl) ob0 l R b x hl (hst.2 rfl) hst.1 h rfl rfl) (bI c.ns n) [] (by simpa using e));rw [Bp] at a;refine ⟨_,true,_,[],g',a,rfl,rfl,?_⟩;exact zW
def YD(c:Con)(d:c.sm)(n:Int)(b:(bI c.ns n).length<=1048576):aq 228 [aBw c n] [] (.ret (.slice 1 (iv (bI c.ns n)) .no)) []:=by refine c_ Tryz.f228 λ_=>?_;have a:=aOC c d n b;exact zW
def aKa(ns:bc)(n t:Int):(BD ns n t).length<=1:=by unfold BD;split<;>simp
def DT(c:Con)(a:c.sm)(n:Int):(bI c.ns n).length<=1048576:=by
 have h:∀ (l:ax),(l.flatMap (BD c.ns n)).length<=l.length:=by
  intro l;induction l with
  | nil=>simp
  | cons x r b=>
   have:=aKa c.ns n x;simp only [Js,Ai,Ak];omega
 exact Dh (h _) (Dh (O1 _ _ _) a.ns)
def UV(c:Con)(b:c.sm)(n:Int):aq 247 [c.av,ii n] [] (.ret (.slice 1 (iv (bI c.ns n)) .no)) []:=by refine c_ Tryz.f247 λ_=>?_;have a:=GQ c n;have d:=YD c b n (DT c b n);exact zW
def atV(l:a8)(n:Int):V3:=if decide (n<0)=true then V3.zero else (l[n.toNat]?).getD V3.zero
def aLx(l:a8)(n:Int)(r:V3)(a:atV l n=r):aq 187 [.slice 3 (vav l) .no,ii n] [] (.ret r.av) []:=by
 have b:(vav l).length=l.length:=by simp
 unfold atV at a;by_cases h1:n<0
 .rw [if_pos (decide_eq_true h1)] at a;subst a;exact zqha11
 .rw [if_neg (by rw [decide_eq_false h1];decide)] at a;by_cases c:n.toNat<l.length
  .rw [Ac c] at a;have a:l[n.toNat]=r:=a;have get:(vav l)[n.toNat]? =some r.av:=(AB c).trans (by rw [a]);have d:n=(n.toNat:Int):=o_;exact zqha11
  .rw [Bm o_] at a;have a:V3.zero=r:=a;subst a;exact zqha11
def JN(l:a8)(n:Int):aq 187 [.slice 3 (vav l) .no,ii n] [] (.ret (atV l n).av) []:=aLx l n _ rfl
def aBq(a b:V3)(r:Bool)(c:dC a b=r):aq 186 [a.av,b.av] [] (.ret (.bool r)) []:=by
 unfold dC at c;refine c_ Tryz.f186 λ_=>gV ?_
 repeat' first
  | (refine gW hE ?_;conv=>whnf)
  | exact c
  | refine aY ?_
  | refine aN ?_
  | refine Ae (λ h=>?_) (λ h=>?_)
  | refine aJ ?_
  | refine Aq _ (Ae rfl ?_)
  | refine Ae d_ ?_
 all_goals (rw [<-c];simp_all)
def oA(a b:V3):aq 186 [a.av,b.av] [] (.ret (.bool (dC a b))) []:=aBq a b _ rfl
def zY(a b:V3):aq 223 [a.av,b.av] [] (.ret (.bool (!dC a b))) []:=by refine c_ Tryz.f223 λ_=>?_;have c:=oA a b;exact zW
noncomputable abbrev aKs:Func:=Tryz.f189
def smS(l:a8)(v:V3)(t:Int):V3:=fK v (atV l t)
def lY(ns:bc)(n:Int)(l:a8):V3:=(bI ns n).foldl (smS l) V3.zero
def aOV(f:aa):ar:=[(5,.ref 1 0),(6,.ref 2 0),(7,.ref 3 0),(11,f)]
def ZP(c:Con)(l:a8)(v:V3)(o:ab):au:=[.cells 26 c.cs,.cells 115 [.slice 3 (vav l) .no],.cells 43 V3.zero.cs,.cells 43 v.cs,o]
def aD3(c:Con)(n:Int)(l:a8)(v:V3)(x:Int)(k:Nat)(R:Loop)(d:R.state= .ready):
  To (El k [] [] []) aKs (.keep 5 (.ret (.bool true)) (ZP c l (smS l v x) (.bun 0 (cQ k (busy R))))) (.code [.code (rfA aKs),.beginR,.code (rfB aKs)] (kC (aOV (aBw c n)) 12 (ii x)) (ZP c l v (.bun 0 (cQ k R)))):=by
 refine gV ?_;refine To.beginR (k:=4) (gg:=0) rfl rfl d ?_;have b:=JN l x;have a:=kQ v (atV l x);exact zW
def aDM(c:Con)(e:c.sm)(n:Int)(l:a8):aq 189 [c.av,ii n,.slice 3 (vav l) .no] [] (.ret (lY c.ns n l).av) []:=by refine c_ Tryz.f189 λ_=>gV ?_;refine .pure _ [] (GQ c n) (gV ?_);refine To.cutC [5,6,7,11] 4 rfl rfl rfl rfl ?_;refine To.range [] rfl rfl (λ_ _=>by rfl) rfl (λ_ _=>rfl) rfl λ k ob0 R hst a=>?_;obtain ⟨g',d⟩:=aDD c e n k _ _ true (F7 (P:=Tryz.prog) (l:=k) (λ v=>mL ob0 (aOV (aBw c n)) R (ZP c l v (.bun 0 (cQ k R)))) (smS l) (λ v x=>jN (E:=Ex [] [] []) (fn:=aKs) (k:=4) (n:=5) (p:=12) (gg:=0) (L':=ZP c l (smS l v x) (.bun 0 (cQ k (busy R)))) (b:=true) a.params a.ready a.pend a.assign a.body a.size rfl rfl rfl rfl rfl rfl rfl λ_=>aD3 c n l v x k R a.ready) (bI c.ns n) V3.zero);refine ⟨_,true,_,[],g',d,rfl,rfl,?_⟩;exact zW
def Con.ok(c:Con)(n:Int):Prop:=0<=n/\n.toNat<c.ns.length
def O0(ns:bc):∀ (m i:Nat) (x:Int),x∈lvF ns m i->(i:Int)<=x/\x<i+m
 | 0,_,_,h=>by simp [lvF] at h
 | m+1,i,x,h=>by
  have a:=O0 ns m (i+1) x;unfold lvF at h;split at h
  .rcases Aw.1 h with rfl | h
   .omega
   .have:=a h;omega
  .have:=a h;omega
def nY(c:Con)(n x:Int)(h:x∈bI c.ns n):c.ok x:=by
 unfold bI at h;obtain ⟨t,h1,a⟩:=List.mem_flatMap.1 h;have:x=t:=by
  unfold BD at a;split at a
  .simpa using a
  .simp at a
 subst this;have:=O0 c.ns c.ns.length 0 x h1;exact ⟨by omega,by omega⟩
def NR(c:Con):∀ (f:Nat) (n x:Int),x∈upF c.ns f n->c.ok x
 | 0,_,_,h=>by simp [upF] at h
 | f+1,n,x,h=>by
  have b:=λ p=>NR c f p x;unfold upF at h;split at h
  .rename_i h1;split at h
   .rename_i a;split at h
    .simp at h;subst h;exact ⟨of_decide_eq_true h1,a⟩
    .rcases Aw.1 h with rfl | h
     .exact ⟨of_decide_eq_true h1,a⟩
     .exact b _ h
   .simp at h
  .simp at h
def cZ(ns:bc)(n:Int):Nod:=(ns[n.toNat]?).getD ⟨0,0,V3.zero,V3.zero,V3.zero⟩
def A3{c:Con}{n:Int}(h:c.ok n):(nav c.ns)[n.toNat]? =some (cZ c.ns n).av:=by unfold cZ;rw [Ac h.2];exact nU h.2
def aM3(v:V3):V3:=⟨max v.a 0,max v.b 0,max v.c 0⟩
def L4(ns:bc)(a:a8)(t:Int)(v:V3)(s:Int):V3:=if decide (s=t)=true then v else fK v (aM3 (J4 (J4 (cZ ns s).n (cZ ns s).l) (atV a s)))
def yE(ns:bc)(a:a8)(n t:Int):V3:=(bI ns n).foldl (L4 ns a t) V3.zero
noncomputable abbrev aLZ:Func:=Tryz.f190
def aB7(c:Con)(a:a8)(t:Int)(bl:ax)(y:bl.length<=1048576)(r:∀ x∈bl,c.ok x)(R:V3):∀ (m i:Nat) (v:V3),i+m=bl.length->(bl.drop i).foldl (L4 c.ns a t) v=R->
  To E aLZ (.pure (.ret R.av)) (.head (stk aLZ 0) [(1,.slice 3 (vav a) .no),(3,ii t),(4,.ref 0 0),(8,.ref 1 0),(9,.ref 2 0),(18,.slice 1 (iv bl) .no),(19,.int .i64 ((iv bl).length:Nat)),(20,.int .i64 i)] [.cells 26 c.cs,.cells 43 V3.zero.cs,.cells 43 v.cs]):=by
 have k:(iv bl).length=bl.length:=by simp
 intro m;induction m with
 | zero=>
  intro i v p f;rw [Ab o_] at f;subst f;refine gV ?_;exact zW
 | succ m w=>
  intro i v p f;have d:i<bl.length:=o_;rw [Aa d,Bb] at f;have b:=r _ (Ax d);generalize o:bl[i]=s at f b;have get:(iv bl)[i]? =some (ii s):=(dJ d).trans (by rw [o]);have g:=A3 b;have q:s=(s.toNat:Int):=by have:=b.1;omega
  have next:=w (i+1) _ o_ f
  unfold L4 at next
  generalize cZ c.ns s=x at g next
  refine gV ?_;refine aT λ h=>gV ?_;refine ⟨i,rfl,gV ?_⟩;refine ⟨_,get,gV ?_⟩;refine Ae (λ e=>?_) (λ e=>?_)
  .have e:decide (s=t)=true:=e;rw [if_pos e] at next
   exact zW
  .have e:decide (s=t)=false:=e;rw [if_neg (by rw [e];decide)] at next
   refine gV ?_;refine ⟨s.toNat,q,gV ?_⟩;refine ⟨_,g,gV ?_⟩;refine .pure _ [] (NO x.n x.l) (gV ?_);refine .pure _ [] (JN a s) (gV ?_);refine .pure _ [] (NO (J4 x.n x.l) (atV a s)) ?_;generalize J4 (J4 x.n x.l) (atV a s)=u at next⊢
   refine gV ?_;refine gV ?_;refine aY (gV ?_);refine ⟨by decide,gV ?_⟩;refine ⟨by decide,gV ?_⟩;refine aJ (gV ?_);refine gV ?_;refine aY (gV ?_);refine ⟨by decide,gV ?_⟩;refine ⟨by decide,gV ?_⟩;refine aJ (gV ?_);refine gV ?_;refine aY (gV ?_);refine ⟨by decide,gV ?_⟩;refine ⟨by decide,gV ?_⟩;refine aJ (gV ?_);refine gV ?_;have j:=kQ v (aM3 u);exact zW
def aJR(c:Con)(e:c.sm)(a:a8)(n t:Int):aq 190 [c.av,.slice 3 (vav a) .no,ii n,ii t] [] (.ret (yE c.ns a n t).av) []:=by refine c_ Tryz.f190 λ_=>?_;have d:=UV c e n;have b:=aB7 c a t _ (DT c e n) (λ x h=>nY c n x h) _ (bI c.ns n).length 0 V3.zero o_ rfl;exact zW
noncomputable abbrev aPH:Func:=Tryz.f191
def uJ(ns:bc):a8:=(Du ns.length).map λ i:Nat=>(cZ ns (i:Int)).n
def aFb(c:Con)(a:c.sm)(n:Int)(K:Int)(k:K=((nav c.ns).length:Nat)):∀ (m i:Nat),i+m=c.ns.length->
  To E aPH (.pure (.ret (lY c.ns n (uJ c.ns)).av)) (.head (stk aPH 0) [(1,ii n),(2,.ref 0 0),(4,.ref 1 0),(5,.row 2 0),(13,.slice 11 (nav c.ns) .no),(14,.int .i64 K),(15,.int .i64 i)] [.cells 26 c.cs,.cells 43 V3.zero.cs,.row 0 3 43 (vav (nF (λ i:Nat=>(cZ c.ns (i:Int)).n) i m))]):=by
 have f:(nav c.ns).length=c.ns.length:=by simp
 have h1:=a.ns;intro m;induction m with
 | zero=>
  intro i b;have e:nF (λ i:Nat=>(cZ c.ns (i:Int)).n) i 0=uJ c.ns:=by rw [IR];unfold uJ;rw [<-b];rfl
  rw [e];refine gV ?_;have d:=aDM c a n (uJ c.ns);exact zW
 | succ m j=>
  intro i b;have hl:(vav (nF (λ i:Nat=>(cZ c.ns (i:Int)).n) i (m+1))).length=i+(m+1):=by rw [Cm,IQ]
  have hs:=IP (λ i:Nat=>(cZ c.ns (i:Int)).n) i m;have g:(nav c.ns)[i]? =some (cZ c.ns (i:Int)).av:=A3 (c:=c) (n:=(i:Int)) ⟨by omega,by omega⟩;have next:=j (i+1) o_
  rw [<-hs] at next
  refine gV ?_;refine aT λ h=>gV ?_;refine ⟨i,rfl,gV ?_⟩;refine ⟨_,g,?_⟩;exact zqha1
def aFa(c:Con)(b:c.sm)(n:Int):aq 191 [c.av,ii n] [] (.ret (lY c.ns n (uJ c.ns)).av) []:=by
 have h1:=b.ns;have a:(nav c.ns).length=c.ns.length:=by simp
 refine c_ Tryz.f191 λ_=>gV ?_;refine ⟨c.ns.length,by rw [a],gV ?_⟩;refine ⟨⟨rfl,by omega,by simp only [maxLen];omega⟩,?_⟩;refine gV ?_;have next:=aFb c b n _ rfl c.ns.length 0 o_
 rw [DB] at next
 exact To.cut [1,2,4,5,13,14,15] 3 rfl rfl rfl rfl next
abbrev aEV(c:Con)(used:a8)(need:V3):aa:=.func (.func 185) [] [.ptr c.cs,.ptr [.slice 3 (vav used) .no],.ptr need.cs]
abbrev aHE(c:Con)(used:a8)(need:V3)(t:Int):aa:=.func (.func 188) [] [.ptr c.cs,.ptr [.slice 3 (vav used) .no],.ptr need.cs,.ptr [ii t]]
def aEW(c:Con)(a:a8)(need:V3)(n:Int):Bool:=dC (fK (atV a n) need) (fK (cZ c.ns n).n (cZ c.ns n).b)
def aHF(c:Con)(a:a8)(need:V3)(t n:Int):Bool:=dC (fK (fK (lY c.ns n a) need) (yE c.ns a n t)) (lY c.ns n (uJ c.ns))
def OM(c:Con)(a:a8)(need:V3)(n:Int)(h:c.ok n):aq 185 [ii n,.ptr c.cs,.ptr [.slice 3 (vav a) .no],.ptr need.cs] [] (.ret (.bool (aEW c a need n))) []:=by
 have l:=A3 h;have m:n=(n.toNat:Int):=by have:=h.1;omega
 unfold aEW;generalize cZ c.ns n=x at l⊢;refine c_ Tryz.f185 λ_=>?_;have e:=JN a n;have i:=kQ (atV a n) need;have d:=kQ x.n x.b;have hz2:=λ k j=>oA k j;exact zW
def FZ(c:Con)(b:c.sm)(a:a8)(need:V3)(t n:Int):aq 188 [ii n,.ptr c.cs,.ptr [.slice 3 (vav a) .no],.ptr need.cs,.ptr [ii t]] [] (.ret (.bool (aHF c a need t n))) []:=by unfold aHF;refine c_ Tryz.f188 λ_=>?_;have j:=aDM c b n a;have i:=kQ (lY c.ns n a) need;have h:=aJR c b a n t;have e:=kQ (fK (lY c.ns n a) need) (yE c.ns a n t);have d:=aFa c b n;have hz2:=λ l k=>oA l k;exact zW
noncomputable abbrev aPD:Func:=Tryz.f118
def ruO(c:Con)(a:a8)(need:V3)(t:Int):au:=[.cells 26 c.cs,.cells 115 [.slice 3 (vav a) .no],.cells 3 [ii t],.cells 43 need.cs,.cells 204 [.nilfunc],.cells 204 [.nilfunc],
 .cells 204 [.func (.func 185) [] [.ref 0 0,.ref 1 0,.ref 3 0]],.cells 204 [.func (.func 188) [] [.ref 0 0,.ref 1 0,.ref 3 0,.ref 2 0]]]
def aMO(c:Con)(a:a8)(need:V3)(t:Int):au:=[.fcells c.cs,.fcells [.slice 3 (vav a) .no],.fcells [ii t],.fcells need.cs,.cells 204 [.nilfunc],.cells 204 [.nilfunc],
 .fcells [aEV c a need],.fcells [aHE c a need t]]
def aMN(c:Con)(a:a8)(need:V3)(t:Int):aj [6,7] (ruO c a need t)=aMO c a need t:=by kernel_rfl
def aIL(c:Con)(a:a8)(need:V3)(t:Int):BI [10,11] (aB (aMO c a need t)) [(8,.ref 4 0),(9,.ref 5 0),(10,.ref 6 0),(11,.ref 7 0)]=[(8,.ref 4 0),(9,.ref 5 0),(10,.ptr [aEV c a need]),(11,.ptr [aHE c a need t])]:=by kernel_rfl
def aIK{g:Goal}{ks:bh}(c:Con)(a:a8)(need:V3)(t:Int)(h:To (Er [] [16,17]) aPD g (.code ks [(8,.ref 4 0),(9,.ref 5 0),(10,.ptr [aEV c a need]),(11,.ptr [aHE c a need t])] (aMO c a need t))):
  To (Er [] [16,17]) aPD g (.code ks [(8,.ref 4 0),(9,.ref 5 0),(10,.ref 6 0),(11,.ref 7 0)] (ruO c a need t)):=by
 refine To.frz [10,11] [6,7] ?_;rw [aMN,aIL];exact h
def aEd(c:Con)(a:a8)(need:V3)(t:Int):aq 118 [c.av,.slice 3 (vav a) .no,ii t,need.av] [] (.ret (.tup [.agg [aEV c a need],.agg [aHE c a need t]])) []:=by
 refine cT (E:=(Er [] [16,17])) (fn:=Tryz.f118) (g:=.pure _) λ_=>?_;refine dF (hEr [] [16,17]) 51 ?_;conv=>whnf
 refine To.cutC [8,9,10,11] 8 rfl rfl rfl rfl ?_;refine aIK c a need t ?_;exact zW
def KY{P:Program}{l:Nat}{J J1:BInv}{p:Int->Bool}{V:Int->Prop}(a:∀ x,V x->p x=true->bT P (.yield l) [ii x] [.bun 0 J] (.ret (.bool true)) [.bun 1 J])(h1:∀ x,V x->p x=false->bT P (.yield l) [ii x] [.bun 0 J] (.ret (.bool false)) [.bun 1 J1]):
  ∀ (xs:ax),(∀ x∈xs,V x)->Ylds P l xs J (if xs.all p=true then J else J1) (xs.all p)
 | [],_=>by simp;exact .nil _
 | x::r,hv=>by
  rw [Kj];cases hp:p x with
  | true=>
   rw [Bw];exact .next x r _ _ _ _ (a x (hv x s_) hp) (KY a h1 r λ y b=>hv y (by simp [b]))
  | false=>
   rw [De,if_neg d_];exact .stop x r _ _ (h1 x (hv x s_) hp)
noncomputable abbrev T1:Func:=Tryz.f53
def SU(c:Con)(a:a8)(t:Int)(need:V3)(x:Int):Bool:=if decide (x=t)=true then aEW c a need x else aHF c a need t x
def EX(c:Con)(a:a8)(t:Int)(need:V3):Bool:=if bL c.ns t=true then (upL c.ns t).all (SU c a t need) else false
def aJv(f:aa):ar:=[(6,.ref 1 0),(8,.ref 3 0),(9,.ref 4 0),(10,.ref 5 0),(26,f)]
def D8(c:Con)(a:a8)(t:Int)(need:V3)(b:Bool)(o:ab):au:=[.cells 26 c.cs,.cells 3 [ii t],.cells 43 need.cs,.cells 4 [.bool b],.cells 204 [aEV c a need],.cells 204 [aHE c a need t],.dead,o]
abbrev aH2(c:Con):aa:=.func (.func 192) [] [.ref 6 0,.ptr c.cs]
def aPe(c:Con)(b:c.sm)(a:a8)(t:Int)(need:V3)(x:Int)(e:c.ok x)(k:Nat)(R:Loop)(f:R.state= .ready)(hp:SU c a t need x=true):
  To (El k [] [] []) T1 (.keep 8 (.ret (.bool true)) (D8 c a t need false (.bun 0 (cQ k (busy R))))) (.code [.code (rfA T1),.beginR,.code (rfB T1)] (kC (aJv (aH2 c)) 27 (ii x)) (D8 c a t need false (.bun 0 (cQ k R)))):=by
 exact zqha0
def aJu(c:Con)(b:c.sm)(a:a8)(t:Int)(need:V3)(x:Int)(e:c.ok x)(k:Nat)(R:Loop)(f:R.state= .ready)(hp:SU c a t need x=false):
  To (El k [] [] []) T1 (.keep 8 (.ret (.bool false)) (D8 c a t need false (.bun 0 (cQ k (busy R))))) (.code [.code (rfA T1),.beginR,.code (rfB T1)] (kC (aJv (aH2 c)) 27 (ii x)) (D8 c a t need false (.bun 0 (cQ k R)))):=by
 exact zqha0
def aJD(c:Con)(o:c.sm)(a:a8)(t:Int)(need:V3)(r:Bool)(h:EX c a t need=r):aq 53 [c.av,.slice 3 (vav a) .no,ii t,need.av] [] (.ret (.bool r)) []:=by
 have j:((nav c.ns).length:Int)<=9223372036854775807:=by have:=o.ns;simp only [Cm];omega
 unfold EX at h;refine c_ Tryz.f53 λ_=>gV ?_;refine .pure _ [] (mQ c t) (gV ?_);refine Ae (λ h1=>?_) (λ h1=>?_)
 .have h1:bL c.ns t=false:=eD h1;rw [if_neg (by rw [h1];decide)] at h;subst h;exact zW
 .have h1:bL c.ns t=true:=eF h1;rw [if_pos h1] at h;refine gV ?_;refine .pure _ [] (aEd c a need t) (gV ?_);refine .pure _ [.cells 3 [ii t]] (Y4 c t) (gV ?_);refine To.cutC [6,8,9,10,26] 7 rfl rfl rfl rfl ?_;refine To.range [6] rfl rfl (λ_ _=>by rfl) rfl (λ_ _=>rfl) rfl λ k ob0 R hst d=>?_
  have i:=KY (P:=Tryz.prog) (l:=k) (p:=SU c a t need) (V:=c.ok) (J:=mL ob0 (aJv (aH2 c)) R (D8 c a t need false (.bun 0 (cQ k R)))) (J1:=mL ob0 (aJv (aH2 c)) R (D8 c a t need false (.bun 0 (cQ k (oD R false)))))
   (λ x q hp=>jN (E:=Ex [] [] []) (fn:=T1) (k:=7) (n:=8) (p:=27) (gg:=0) (L':=D8 c a t need false (.bun 0 (cQ k (busy R)))) (b:=true) d.params d.ready d.pend d.assign d.body d.size rfl rfl rfl rfl rfl rfl rfl λ_=>aPe c o a t need x q k R d.ready hp)
   (λ x q hp=>jN (E:=Ex [] [] []) (fn:=T1) (k:=7) (n:=8) (p:=27) (gg:=0) (L':=D8 c a t need false (.bun 0 (cQ k (busy R)))) (b:=false) d.params d.ready d.pend d.assign d.body d.size rfl rfl rfl rfl rfl rfl rfl λ_=>aJu c o a t need x q k R d.ready hp) (upL c.ns t) (λ x s=>NR c _ _ x s)
  rw [h] at i;obtain ⟨m,g',e⟩:=NS k c t _ _ r j i;cases r with
  | true=>
   refine ⟨_,true,_,[.cells 3 [m]],g',e,rfl,rfl,?_⟩;exact zW
  | false=>
   refine ⟨_,false,_,[.cells 3 [m]],g',e,rfl,rfl,?_⟩;exact zW
def aNr(c:Con)(b:c.sm)(a:a8)(t:Int)(need:V3):aq 53 [c.av,.slice 3 (vav a) .no,ii t,need.av] [] (.ret (.bool (EX c a t need))) []:=aJD c b a t need _ rfl
def bQ(hs:List Hos)(n:Int):Hos:=(hs[n.toNat]?).getD ⟨0,0,0,V3.zero⟩
def O9{c:Con}{i:Nat}(h:i<c.hs.length):(hav c.hs)[i]? =some (bQ c.hs (i:Int)).av:=by unfold bQ;rw [Br,Ac h];exact BG h
def aHY(l:a8)(i:Nat)(v:V3):(vav l).set i v.av=vav (l.set i v):=by simp [vav,Gz]
def lS(need:V3)(xs:a8)(h:Int):a8:=if decide (0<=h)=true then (if decide (h<(xs.length:Int))=true then xs.set h.toNat (J4 ((xs[h.toNat]?).getD V3.zero) need) else xs) else xs
def mB(need:V3)(xs:a8)(h:Int):(lS need xs h).length=xs.length:=by unfold lS;split<;>(try split)<;>simp
def yF(xs:a8)(x:Rn):a8:=x.hs.foldl (lS x.g.need) xs
def C9(x:Rn):∀ (xs:a8),(yF xs x).length=xs.length:=by
 unfold yF;generalize x.hs=l;induction l with
 | nil=>intro xs;rfl
 | cons h r a=>intro xs;rw [Bb,a,mB]
def lT(c:Con)(r:a6):a8:=r.foldl yF ((Du c.hs.length).map λ i:Nat=>(bQ c.hs (i:Int)).c)
noncomputable abbrev ED:Func:=Tryz.f57
abbrev frO(c:Con)(xs:a8):au:=[.cells 26 c.cs,.row 0 3 43 (vav xs)]
def aKm(c:Con)(r:a6)(R:a8)(x:Rn)(j:Nat)(z:x.hs.length<=1048576)(w:c.hs.length<=1048576)(O:au):
  ∀ (m i:Nat) (xs:a8),xs.length=c.hs.length->i+m=x.hs.length->
   To E ED (.pure (.ret (.slice 3 (vav R) .no))) (.head (stk ED 1) [(5,.row 1 0),(30,.slice 14 (rav r) .no),(31,.int .i64 ((rav r).length:Nat)),(32,.int .i64 ((j:Int)+1))] (frO c ((x.hs.drop i).foldl (lS x.g.need) xs)))->
   j<1048576->
  To E ED (.pure (.ret (.slice 3 (vav R) .no))) (.head (stk ED 2) [(5,.row 1 0),(9,.ref 2 0),(30,.slice 14 (rav r) .no),(31,.int .i64 ((rav r).length:Nat)),(32,.int .i64 j),(37,.slice 1 (iv x.hs) .no),(38,.int .i64 ((iv x.hs).length:Nat)),(39,.int .i64 i)] (frO c xs++[.cells 107 x.cs])):=by
 have l:(iv x.hs).length=x.hs.length:=by simp
 intro m;induction m with
 | zero=>
  intro i xs f o a e;rw [Ab o_] at a;refine gV ?_;exact zW
 | succ m s=>
  intro i xs f o a e;have d:i<x.hs.length:=o_;rw [Aa d,Bb] at a;generalize p:x.hs[i]=u0 at a;have get:(iv x.hs)[i]? =some (ii u0):=(dJ d).trans (by rw [p]);have v:(vav xs).length=xs.length:=by simp
  have next:=s (i+1) (lS x.g.need xs u0) (by rw [mB];exact f) o_ a e
  unfold lS frO at next
  refine gV ?_;refine aT λ h=>gV ?_;refine ⟨i,rfl,gV ?_⟩;refine ⟨_,get,?_⟩;by_cases h1:0<=u0
  .rw [if_pos (decide_eq_true h1)] at next
   by_cases k:u0<(xs.length:Int)
   .rw [if_pos (decide_eq_true k)] at next
    have b:u0.toNat<xs.length:=o_;have y:u0=(u0.toNat:Int):=o_;rw [Ac b] at next
    have q:(vav xs)[u0.toNat]? =some xs[u0.toNat].av:=AB b;rw [show ((some xs[u0.toNat]).getD V3.zero)=xs[u0.toNat] from rfl] at next
    generalize xs[u0.toNat]=u at q next
    rw [<-aHY] at next
    have n:=NO u x.g.need;exact zW
   .rw [if_neg (by rw [decide_eq_false k];decide)] at next
    exact zW
  .rw [if_neg (by rw [decide_eq_false h1];decide)] at next
   exact zW
def Sm(l:a6):Prop:=l.length<=1048576/\∀ x∈l,x.hs.length<=1048576
def Sm.at{l:a6}(h:Sm l){i:Nat}(a:i<l.length):l[i].hs.length<=1048576:=h.2 _ (Ax a)
def aGd(c:Con)(j:c.sm)(r:a6)(f:Sm r)(R:a8):∀ (m i:Nat) (xs:a8),i+m=r.length->xs.length=c.hs.length->(r.drop i).foldl yF xs=R->
  To E ED (.pure (.ret (.slice 3 (vav R) .no))) (.head (stk ED 1) [(5,.row 1 0),(30,.slice 14 (rav r) .no),(31,.int .i64 ((rav r).length:Nat)),(32,.int .i64 i)] (frO c xs)):=by
 have g:(rav r).length=r.length:=by simp
 have hl:=f.1;intro m;induction m with
 | zero=>
  intro i xs k d b;rw [Ab o_] at b;subst b;refine gV ?_;exact zW
 | succ m n=>
  intro i xs k d b;have a:i<r.length:=o_;have e:=f.at a;rw [Aa a,Bb] at b;generalize l:r[i]=x at b e;have get:(rav r)[i]? =some x.av:=(cF a).trans (by rw [l]);have next:=n (i+1) (yF xs x) o_ (by rw [C9];exact d) b
  refine gV ?_;refine aT λ h=>gV ?_;refine ⟨i,rfl,gV ?_⟩;refine ⟨_,get,gV ?_⟩;exact To.cut [5,9,30,31,32,37,38,39] 3 rfl rfl rfl rfl (aKm c r R x i e j.hs [] x.hs.length 0 xs d o_ next o_)
def aCk(c:Con)(d:c.sm)(r:a6)(e:Sm r):∀ (m i:Nat),i+m=c.hs.length->
  To E ED (.pure (.ret (.slice 3 (vav (lT c r)) .no))) (.head (stk ED 0) [(1,.slice 14 (rav r) .no),(2,.ref 0 0),(5,.row 1 0),(17,.slice 6 (hav c.hs) .no),(18,.int .i64 ((hav c.hs).length:Nat)),(19,.int .i64 i)] (frO c (nF (λ i:Nat=>(bQ c.hs (i:Int)).c) i m))):=by
 have a:(hav c.hs).length=c.hs.length:=by simp
 have h1:=d.hs;intro m;induction m with
 | zero=>
  intro i b;rw [IR];refine gV ?_;refine aF λ h=>gV ?_;refine To.cut [5,30,31,32] 2 rfl rfl rfl rfl ?_;exact aGd c d r e _ r.length 0 _ o_ q_ (by unfold lT;rw [<-b];rfl)
 | succ m g=>
  intro i b;have hl:(vav (nF (λ i:Nat=>(bQ c.hs (i:Int)).c) i (m+1))).length=i+(m+1):=by rw [Cm,IQ]
  have hs:=IP (λ i:Nat=>(bQ c.hs (i:Int)).c) i m;have f:(hav c.hs)[i]? =some (bQ c.hs (i:Int)).av:=O9 o_;have next:=g (i+1) o_
  unfold frO at next
  rw [<-hs] at next
  refine gV ?_;refine aT λ h=>gV ?_;refine ⟨i,rfl,gV ?_⟩;refine ⟨_,f,?_⟩;exact zqha1
def aAH(c:Con)(b:c.sm)(r:a6)(d:Sm r):aq 57 [c.av,.slice 14 (rav r) .no] [] (.ret (.slice 3 (vav (lT c r)) .no)) []:=by
 have h1:=b.hs;have a:(hav c.hs).length=c.hs.length:=by simp
 refine c_ Tryz.f57 λ_=>gV ?_;refine ⟨c.hs.length,by rw [a],gV ?_⟩;refine ⟨⟨rfl,by omega,by simp only [maxLen];omega⟩,?_⟩;refine gV ?_;have next:=aCk c b r d c.hs.length 0 o_
 unfold frO at next
 rw [DB] at next
 exact To.cut [1,2,5,17,18,19] 2 rfl rfl rfl rfl next
def aMt{a b:Int}(c:0<=a)(d:0<b)(e:a<=9223372036854775807):inR .i64 (Ma a b):=by
 have h3:(Ma a b).natAbs<=a.natAbs:=by rw [Int.natAbs_tdiv];exact Hl _ _
 have f:0<=Ma a b:=Int.tdiv_nonneg c o_;exact ⟨by simp only [dA];omega,by simp only [bN];omega⟩
def D3(n free need:Int):Int:=if decide (0<need)=true then min n (Ma free need) else n
def dN(free need:V3):Int:=if dC need free=true then D3 (D3 (D3 16 free.a need.a) free.b need.b) free.c need.c else 0
def aQd(v:V3)(M:Imm)(ob:Hs)(vs:ba)(d:ay)(h:cM M ob vs (v.av::d)):inR .i64 v.a/\inR .i64 v.b/\inR .i64 v.c:=by
 have hl:0<vs.length:=by rw [h.1];simp
 have:=h.2 0 _ v.av (Ac hl) rfl;exact ⟨bE this 0 _ rfl,bE this 1 _ rfl,bE this 2 _ rfl⟩
def aEj(free need:V3)(r:Int)(d:dN free need=r):aq 199 [free.av,need.av] [] (.ret (ii r)) []:=by
 refine aA.get _ (λ M ob vs h=>aQd free M ob vs _ h) λ⟨⟨a1,a2⟩,⟨b1,b2⟩,⟨c1,c2⟩⟩=>?_;simp only [dA,bN] at a1 a2 b1 b2 c1 c2;unfold dN at d;refine c_ Tryz.f199 λ_=>gV ?_;refine .pure _ [] (zY need free) (gV ?_);refine Ae (λ h1=>?_) (λ h1=>?_)
 .have h1:dC need free=false:=eD h1;rw [if_neg (by rw [h1];decide)] at d;subst d;exact zW
 .have h1:dC need free=true:=eF h1;rw [if_pos h1] at d;unfold D3 at d;have n:need.a<=free.a/\need.b<=free.b/\need.c<=free.c:=by
   unfold dC at h1;split at h1
   .cases h1
   .split at h1
    .cases h1
    .split at h1
     .cases h1
     .rename_i i j m;simp only [decide_eq_true_eq] at i j m;omega
  by_cases k:0<need.a<;>by_cases l:0<need.b<;>by_cases e:0<need.c<;>simp only [k,l,e,decide_true,decide_false,if_true,if_false,Cr] at d
  all_goals (refine gV ?_)
  all_goals repeat' first
   | (refine gW hE ?_;conv=>whnf)
   | exact d▸rfl
   | refine aY ?_
   | refine aN ?_
   | refine aT λ h=>?_
   | refine aF λ h=>?_
   | refine aJ ?_
   | refine Gl (Ae (aMt o_ o_ o_) ?_)
   | refine Aq _ (Ae rfl ?_)
   | refine Ae d_ ?_
   | refine Ae o_ ?_
   | fail
def ZV(free need:V3):aq 199 [free.av,need.av] [] (.ret (ii (dN free need))) []:=aEj free need _ rfl
def ofK(h:Hos)(i lv:Int):ax:=[h.f,if decide (2<lv)=true then 0 else h.b,if decide (1<lv)=true then 0 else h.r,if decide (0<lv)=true then 0 else i]
def aJh(h:Hos)(i lv:Int)(K:ay)(a:(ofK h i lv).map ii=K):aq 198 [h.av,ii i,ii lv] [] (.ret (.agg K)) []:=by
 unfold ofK at a;refine c_ Tryz.f198 λ_=>?_
 repeat' first | (refine gN hE ?_;conv=>whnf) | exact rfl | refine zt ?_ | refine zu ?_ ?_ | intro h | fail
 all_goals first
  | (subst a;simp only [*,Cr,if_true,if_false,List.map];done)
  | (exfalso;simp only [decide_eq_true_eq,decide_eq_false_iff_not] at *;omega)
def aNi(h:Hos)(i lv:Int):aq 198 [h.av,ii i,ii lv] [] (.ret (.agg ((ofK h i lv).map ii))) []:=aJh h i lv _ rfl
def aMi{n:Nat}(h:n<=16):n=0\/n=1\/n=2\/n=3\/n=4\/n=5\/n=6\/n=7\/n=8\/n=9\/n=10\/n=11\/n=12\/n=13\/n=14\/n=15\/n=16:=o_
def aFl(n:Nat)(a:n<=16):aq 279 [.int .u64 1,.int .u64 (n:Int)] [] (.ret (.tup [.int .u64 0,.int .u64 (n:Int)])) []:=by
 rcases aMi a with rfl | rfl | rfl | rfl | rfl | rfl | rfl | rfl | rfl | rfl | rfl | rfl | rfl | rfl | rfl | rfl | rfl
 all_goals
  refine c_ Tryz.f279 λ_=>?_
  repeat' first
   | (refine gN hE ?_;conv=>whnf)
   | exact rfl
   | refine Gl (Ae (Ae d_ d_) ?_)
   | refine Ae d_ ?_
   | fail
def aNn(n:Nat)(b:n<=16):aq 248 [.int .u64 1,.int .u64 (n:Int)] [] (.ret (.tup [.int .u64 0,.int .u64 (n:Int)])) []:=by refine c_ Tryz.f248 λ_=>?_;have a:=aFl n b;exact zW
def rp(h:Int)(k m:Nat):ay:=iv (Aj k h)++Aj m (ii 0)
def G1(h:Int)(k m:Nat):(rp h k m).length=k+m:=by simp [rp]
noncomputable abbrev aPG:Func:=Tryz.f200
def aIN(h:Int)(k m:Nat):((k:Int)+ ↑(min (Ii k (Ht 0 (rp h k m))).length ((rp h k m).length-k)))=((k+min k m:Nat):Int)/\
  (rp h k m).take k++(Ii k (Ht 0 (rp h k m))).take ((rp h k m).length-k)++(rp h k m).drop (k+min (Ii k (Ht 0 (rp h k m))).length ((rp h k m).length-k))=rp h (k+min k m) (m-min k m):=by
 have a:(iv (Aj k h)).length=k:=by simp
 have h1:(rp h k m).take k=iv (Aj k h):=by unfold rp;rw [Dm o_,Cn o_]
 have hl:=G1 h k m;rw [Ap,h1,hl,a,show k+m-k=m from by omega];refine ⟨by omega,?_⟩;have b:(rp h k m).drop (k+min k m)=Aj (m-min k m) (ii 0):=by unfold rp;rw [List.drop_append,a,List.drop_of_length_le o_,Bp,List.drop_replicate];congr 1;omega
 rw [b];unfold rp;congr 1;simp only [iv,List.map_replicate,List.take_replicate,List.replicate_append_replicate];congr 1;omega
def aEt(a:Int)(N:Nat)(n:N<=16):∀ (f k m:Nat),k+m=N->1<=k->m<=f->
  To (Er [] [38]) aPG (.pure (.ret (.slice 1 (iv (Aj N a)) .no))) (.head (stk aPG 0) [(7,.row 0 0),(8,.int .i64 (k:Int))] [.row 0 1 3 (rp a k m)]):=by
 intro f;induction f with
 | zero=>
  intro k m b h1 hm;have hm:m=0:=o_;subst hm;exact zqha5
 | succ f i=>
  intro k m b h1 hm;by_cases d:m=0
  .subst d;exact zqha5
  have hl:=G1 a k m;have next:=i (k+min k m) (m-min k m) o_ o_ o_
  generalize g:rp a k m=X at hl⊢;refine gV ?_;refine aT λ h=>gV ?_;refine ⟨k,rfl,gV ?_⟩;refine ⟨by omega,gV ?_⟩;refine ⟨k,rfl,gV ?_⟩;refine ⟨by omega,gV ?_⟩;rw [<-g] at hl⊢;obtain ⟨c,j⟩:=aIN a k m;rw [<-c,<-j] at next
  have l:min (Ii k (Ht 0 (rp a k m))).length ((rp a k m).length-k)<=16:=by have:(rp a k m).length=k+m:=G1 a k m;omega
  exact zW
def aEf(h:Int)(m:Nat):((1:Nat):Int)= ↑(min [ii h].length (Aj (m+1) (aa.int .i64 0)).length)/\rp h 1 m=[ii h].take (Aj (m+1) (aa.int .i64 0)).length++(Aj (m+1) (aa.int .i64 0)).drop [ii h].length:=by refine ⟨by simp,?_⟩;simp [rp,List.drop_replicate]
def aMY(h:Int)(n:Nat)(a:n<=16):aq 200 [.slice 1 [ii h] .no,ii (n:Int)] [] (.ret (.slice 1 (iv (Aj n h)) .no)) []:=by
 have hm:=aNn n a;cases n with
 | zero=>
  refine cT (E:=(Er [] [38])) (fn:=Tryz.f200) (g:=.pure _) λ_=>gV ?_;refine aF λ h=>gV ?_;refine Gl (Ae (Ae (by simp only [dA,Ak,Bz];omega) (by simp only [bN,Ak,Bz];omega)) ?_);refine gV ?_;refine Gl (Ae (Ae (by simp only [dA];omega) (by simp only [bN];omega)) ?_);refine gV ?_;refine .pure _ [] hm (gV ?_);refine aF λ h=>gV ?_;refine aF λ h=>gV ?_;refine Gl (Ae (Ae (by simp only [dA];omega) (by simp only [bN];omega)) ?_);refine gV ?_;refine ⟨0,rfl,gV ?_⟩;refine ⟨⟨rfl,by omega,by simp only [maxLen];omega⟩,?_⟩;refine gV ?_;refine gV ?_;exact zW
 | succ m=>
  have next:=aEt h (m+1) a (m+1) 1 m o_ o_ o_
  obtain ⟨b,c⟩:=aEf h m;rw [b,c] at next
  refine cT (E:=(Er [] [38])) (fn:=Tryz.f200) (g:=.pure _) λ_=>gV ?_;refine aF λ h=>gV ?_;refine Gl (Ae (Ae (by simp only [dA,Ak,Bz];omega) (by simp only [bN,Ak,Bz];omega)) ?_);refine gV ?_;refine Gl (Ae (Ae (by simp only [dA];omega) (by simp only [bN];omega)) ?_);refine gV ?_;refine .pure _ [] hm (gV ?_);refine aF λ h=>gV ?_;refine aF λ h=>gV ?_;refine Gl (Ae (Ae (by simp only [dA];omega) (by simp only [bN];omega)) ?_);refine gV ?_;refine ⟨m+1,rfl,gV ?_⟩;refine ⟨⟨rfl,by omega,by simp only [maxLen];omega⟩,?_⟩;exact zW
def aEk(a b:V3):dN a b<=16:=by
 have h:∀ n f k,n<=16->D3 n f k<=16:=λ n f k h=>by unfold D3;split<;>omega
 unfold dN;split
 .exact h _ _ _ (h _ _ _ (h _ _ _ d_))
 .decide
def inN(free need:V3)(pods len:Int):Int:=min (dN free need) (pods-len)
def inS(free:a8)(g:Gan)(out:ax)(h:Int):ax:=if decide (h<0)=true then out else if decide ((free.length:Int)<=h)=true then out else out++Aj (max (inN ((free[h.toNat]?).getD V3.zero) g.need g.pods out.length) 0).toNat h
def inL(free:a8)(g:Gan)(a:ax):ax:=a.foldl (inS free g) []
def FO(free:a8)(g:Gan)(out:ax)(h:Int)(hp:(out.length:Int)<=g.pods):((inS free g out h).length:Int)<=g.pods:=by
 unfold inS;split
 .exact hp
 .split
  .exact hp
  .simp only [Ai,Fu,inN];omega
noncomputable abbrev fIn:Func:=Tryz.f126
def aFO(out:ax)(g:Gan):aa:=if decide ((out.length:Int)<g.pods)=true then .tup [.slice 1 [] .no,.bool false] else .tup [.slice 1 (iv out) .no,.bool true]
def aJ2(c:Con)(free:a8)(g:Gan)(q:0<=g.pods/\g.pods<=16)(a:ax)(hl:a.length<=1048576)(R:ax):∀ (m i:Nat) (out:ax),i+m=a.length->(out.length:Int)<=g.pods->(a.drop i).foldl (inS free g) out=R->
  To (Eo [10] []) fIn (.pure (.ret (aFO R g))) (.head (stk fIn 0) [(1,.slice 3 (vav free) .no),(7,.ref 1 0),(10,.slice 1 (iv out) (.own 2 0)),(14,.slice 1 (iv a) .no),(15,.int .i64 ((iv a).length:Nat)),(16,.int .i64 i)] [.cells 26 c.cs,.cells 45 g.cs,.tail 0 1 3]):=by
 have w:(iv a).length=a.length:=by simp
 have A:(vav free).length=free.length:=by simp
 intro m;induction m with
 | zero=>
  intro i out z hp f;rw [Ab o_] at f;have f:out=R:=f;subst f;have l:(iv out).length=out.length:=by simp
  obtain ⟨Q,j⟩:∃ Q,Q=aFO out g:=⟨_,rfl⟩
  rw [<-j];unfold aFO at j;by_cases h1:(out.length:Int)<g.pods
  .rw [if_pos (decide_eq_true h1)] at j;subst j;refine gV ?_;exact zW
  .rw [if_neg (by rw [decide_eq_false h1];decide)] at j;subst j;refine gV ?_;exact zW
 | succ m D=>
  intro i out z hp f;have o:i<a.length:=o_;rw [Aa o,Bb] at f;have n:=FO free g out a[i] hp;generalize y:a[i]=u0 at f n;have get:(iv a)[i]? =some (ii u0):=(dJ o).trans (by rw [y]);have l:(iv out).length=out.length:=by simp
  have next:=D (i+1) (inS free g out u0) o_ n f
  unfold inS at next
  refine gV ?_;refine aT λ h=>gV ?_;refine ⟨i,rfl,gV ?_⟩;refine ⟨_,get,?_⟩;by_cases h1:u0<0
  .rw [if_pos (decide_eq_true h1)] at next
   exact zW
  .rw [if_neg (by rw [decide_eq_false h1];decide)] at next
   by_cases u:(free.length:Int)<=u0
   .rw [if_pos (decide_eq_true u)] at next
    exact zW
   .rw [if_neg (by rw [decide_eq_false u];decide)] at next
    have k:u0.toNat<free.length:=o_;have B:u0=(u0.toNat:Int):=o_;rw [Ac k] at next
    have v:(vav free)[u0.toNat]? =some free[u0.toNat].av:=AB k;rw [show ((some free[u0.toNat]).getD V3.zero)=free[u0.toNat] from rfl] at next
    generalize free[u0.toNat]=f0 at v next
    have r:=aEk f0 g.need;have d:(max (inN f0 g.need g.pods out.length) 0).toNat<=16:=by unfold inN;omega
    have p:max (min (dN f0 g.need) (g.pods-((iv out).length:Nat))) 0=(((max (inN f0 g.need g.pods out.length) 0).toNat:Nat):Int):=by unfold inN;rw [l];omega
    have b:=aMY u0 _ d;rw [<-p] at b;generalize F:(max (inN f0 g.need g.pods out.length) 0).toNat=N at d b next
    have e:iv (out++Aj N u0)=iv out++iv (Aj N u0):=by simp
    rw [e] at next
    have C:(iv (Aj N u0)).length=N:=by simp
    have x:=q.1;have s:=q.2
    repeat' first | (refine gN (hEo [10] []) ?_;conv=>whnf) | refine ⟨u0.toNat,B,?_⟩ | refine ⟨_,v,?_⟩ | refine .pure _ [] (ZV f0 g.need) ?_ | refine .pure _ [] (aA.strip b) ?_ | refine Ae (Ae (by simp only [maxLen];omega) o_) ?_ | exact rfl | refine zt ?_ | refine zu ?_ ?_ | intro h | fail
    exact zW
def aPm(c:Con)(free:a8)(g:Gan)(b:0<=g.pods/\g.pods<=16)(a:ax)(hl:a.length<=1048576):aq 126 [c.av,.slice 3 (vav free) .no,.slice 1 (iv a) .no,g.av] [] (.ret (aFO (inL free g a) g)) []:=by refine cT (E:=(Eo [10] [])) (fn:=Tryz.f126) (g:=.pure _) λ_=>?_;have d:=aJ2 c free g b a hl _ a.length 0 [] o_ (by simpa using b.1) rfl;exact zW
noncomputable abbrev xK:Func:=Tryz.f125
abbrev GSt:=List (ax×Nat)×List ax
def oM:List (ax×Nat)->ax->Option Nat
 | [],_=>none
 | (k,v)::r,x=>if k=x then some v else oM r x
abbrev kav(es:List (ax×Nat)):List (ax×aa):=es.map λ p=>(p.1,ii p.2)
def H7(x:ax):∀ es,cG (kav es) x=(oM es x).map λ n:Nat=>ii n
 | []=>rfl
 | (k,v)::r=>by
  show (if k=x then some (ii v) else cG (kav r) x)=(if k=x then some v else oM r x).map _;split
  .rfl
  .exact H7 x r
def aAo(x:ax)(v:Nat):∀ es,oM es x=none->oJ (kav es) x (ii v)=kav (es++[(x,v)])
 | [],_=>rfl
 | (k,u)::r,h=>by
  have h:(if k=x then some u else oM r x)=none:=h;show (if k=x then (x,ii v)::kav r else (k,ii u)::oJ (kav r) x (ii v))=(k,ii u)::kav (r++[(x,v)]);split at h
  .cases h
  .rename_i a;rw [if_neg a,aAo x v r h]
def gpS(c:Con)(lv:Int)(s:GSt)(i:Nat):GSt:=
 match oM s.1 (ofK (bQ c.hs (i:Int)) i lv) with
 | some k=>(s.1,s.2.set k ((s.2[k]?).getD []++[(i:Int)]))
 | none=>(s.1++[(ofK (bQ c.hs (i:Int)) i lv,s.2.length)],s.2++[[(i:Int)]])
def gpL(c:Con)(lv:Int):List ax:=if decide (lv<0)=true then [] else if decide (3<lv)=true then [] else ((Du c.hs.length).foldl (gpS c lv) ([],[])).2
abbrev gav(l:List ax):ay:=l.map λ xs=>.slice 1 (iv xs) .no
abbrev TJ(c:Con)(gr gb:Nat)(es:List (ax×Nat))(ms:List Hm):au:=[.cells 26 c.cs,.row gr 1 48 (ms.map hmA),.mp true (kav es),.bun gb (pH 1 3 ms)]
abbrev aPo(c:Con)(lv:Int)(gr i:Nat):ar:=[(1,ii lv),(5,.row 1 gr),(6,.mref 2),(20,.slice 6 (hav c.hs) .no),(21,.int .i64 ((hav c.hs).length:Nat)),(22,ii i)]
def aFY(c:Con)(lv:Int)(G:Goal)(i k:Nat)(l:i<1048576)(b:List Hm)(m:Hm)(hm:b[k]? =some m)(h:m.2.2.length<=1048576)(j:b.length<=1048576)(es:List (ax×Nat))(g:Gd G.n0 4=true)
  (next:∀ a e,To (Er [5] []) xK G (.code (eM xK 14) (aPo c lv 0 i) (TJ c 0 1 es (b.set k (a,e,m.2.2++[ii i]))))):
  To (Er [5] []) xK G (.code (qC xK 14) [(1,ii lv),(5,.row 1 0),(6,.mref 2),(7,ii i),(10,ii k),(20,.slice 6 (hav c.hs) .no),(21,.int .i64 ((hav c.hs).length:Nat)),(22,ii i)] (TJ c 0 0 es b)):=by
 refine To.handAt (hEr [5] []) 8 [] rfl rfl rfl ?_;conv=>whnf
 refine ⟨k,rfl,?_⟩;conv=>whnf
 have f:(b.map hmA)[k]? =some (hmA m):=by rw [Bi,hm];rfl
 refine ⟨by have:=(Ad.1 hm).1;simpa using this,?_⟩;conv=>whnf
 refine ⟨_,f,?_⟩;conv=>whnf
 refine .mk 3 0 k b m [ii i] 3 1 8 1 false (.slice 1 [] .nil) rfl hm rfl rfl rfl rfl ⟨by show _+1<=_;simp only [maxLen];omega,by show (_+1)*8<=_;omega⟩ λ a e=>?_;have d:k<(b.map hmA).length:=by have:=(Ad.1 hm).1;simpa using this
 have next:=next a e
 unfold TJ at next
 rw [Gz] at next
 refine gV ?_;refine ⟨k,rfl,gV ?_⟩;refine ⟨d,gV ?_⟩;refine ⟨d,?_⟩;refine dF (hEr [5] []) 3 ?_;conv=>whnf
 refine To.cutC (fr:=[(1,_),(5,_),(6,_),(7,_),(10,_),(20,_),(21,_),(22,_),(47,_),(48,_),(49,_),(50,_),(51,_),(52,_),(53,_),(54,_),(55,_),(56,_)]) (ac:=[_,_,_,_]) [1,5,6,20,21,22] 4 g rfl rfl rfl ?_;exact next
def LV(x:ax)(v:Nat)(y:ax):∀ es,oM (es++[(x,v)]) y=match oM es y with | some k=>some k | none=>if x=y then some v else none
 | []=>rfl
 | (k,u)::r=>by
  show (if k=y then some u else oM (r++[(x,v)]) y)=match (if k=y then some u else oM r y) with | some k=>some k | none=>if x=y then some v else none
  split
  .rfl
  .exact LV x v y r
structure GI(i:Nat)(s:GSt):Prop where
 key:∀ p∈s.1,p.1.length=4
 at':∀ x k,oM s.1 x=some k->k<s.2.length
 len:s.2.length<=i
 each:∀ xs∈s.2,xs.length<=i
def GI.step{c:Con}{lv:Int}{i:Nat}{s:GSt}(h:GI i s):GI (i+1) (gpS c lv s i):=by
 obtain ⟨h1,e,h3,d⟩:=h;unfold gpS;split
 .rename_i k f;refine ⟨h1,λ x k h=>by simpa using e x k h,by simp;omega,λ xs a=>?_⟩;rcases Dq a with a | rfl
  .have:=d xs a;omega
  .have hl:=e _ k f;rw [Ac hl];have:=d _ (Ax hl);simp;omega
 .rename_i f;refine ⟨λ p hp=>?_,λ x k a=>?_,by simp;omega,λ xs a=>?_⟩
  .rcases Bd.1 hp with hp | hp
   .exact h1 p hp
   .simp at hp;subst hp;rfl
  .rw [LV] at a;split at a
   .rename_i g b;have:=e x g b;cases a;simp;omega
   .split at a
    .cases a;simp
    .cases a
  .rcases Bd.1 a with a | a
   .have:=d xs a;omega
   .simp at a;subst a;simp
def aKf(c:Con)(H:c.sm)(lv:Int)(O:0<=lv)(P:lv<=3)(R:List ax):∀ (n i:Nat) (s:GSt) (b:List Hm),i+n=c.hs.length->b.map (λ m=>m.2.2)=s.2.map iv->GI i s->((Iu i n).foldl (gpS c lv) s).2=R->
  To (Er [5] []) xK (.pure (.ret (.slice 1 (gav R) .no))) (.head (stk xK 0) (aPo c lv 0 i) (TJ c 0 0 s.1 b)):=by
 have h1:=H.hs;have F:(hav c.hs).length=c.hs.length:=by simp
 intro n;induction n with
 | zero=>
  intro i s b I d o y;have y:s.2=R:=y;subst y;refine To.ofC (To.famFrz 3 1 rfl rfl ?_);have e:(b.map λ m=>aa.slice 1 m.2.2 .no)=gav s.2:=by have:=congrArg (List.map λ xs=>aa.slice 1 xs .no) d;rw [Ef,Ef] at this;exact this
  rw [e];refine To.toC (gV ?_);exact zW
 | succ n L=>
  intro i s b I d o y;rw [Mb,Bb] at y;have K:(hav c.hs)[i]? =some (bQ c.hs (i:Int)).av:=O9 o_;have next:=λ B h=>L (i+1) (gpS c lv s i) B o_ h o.step y
  have l:∀ p∈kav s.1,p.1.length=4:=λ p hp=>by obtain ⟨q,J,rfl⟩:=Ce.1 hp;exact o.key q J
  refine gV ?_;refine aT λ h=>gV ?_;refine ⟨i,rfl,gV ?_⟩;refine ⟨_,K,gV ?_⟩;refine .pure _ [] (aNi (bQ c.hs (i:Int)) i lv) (gV ?_);refine ⟨l,gV ?_⟩;cases v:oM s.1 (ofK (bQ c.hs (i:Int)) i lv) with
  | none=>
   have C:cG (kav s.1) (ofK (bQ c.hs (i:Int)) i lv)=none:=by rw [H7,v];rfl
   refine ⟨_,C,gV ?_⟩;refine aY (gV ?_);refine ⟨l,gV ?_⟩;have g:b.length=s.2.length:=by have:=congrArg Ko d;simpa using this
   have D:=o.len;have f:(b.map hmA).length=b.length:=by simp
   refine ⟨⟨by show (b.map hmA).length+1<=_;simp only [maxLen];omega,by show ((b.map hmA).length+1)*24<=_;omega⟩,?_⟩;refine dF (hEr [5] []) 6 ?_;conv=>whnf
   have G:(b.map hmA).length=s.2.length:=f.trans g;have e:=aAo (ofK (bQ c.hs (i:Int)) i lv) (b.map hmA).length s.1 v;have A:gpS c lv s i=(s.1++[(ofK (bQ c.hs (i:Int)) i lv,(b.map hmA).length)],s.2++[[(i:Int)]]):=by unfold gpS;rw [v,G]
   rw [A] at next
   have hm:(b++[((none,0,[]):Hm)])[(b.map hmA).length]? =some (none,0,[]):=by rw [f,Al (Bh _)];simp
   have r:=aFY c lv (.pure (.ret (.slice 1 (gav R) .no))) i (b.map hmA).length o_ (b++[(none,0,[])]) _ hm s_ q_ (s.1++[(ofK (bQ c.hs (i:Int)) i lv,(b.map hmA).length)]) rfl λ a z=>by
    have next:=next ((b++[(none,0,[])]).set (b.map hmA).length (a,z,[]++[ii i])) (by rw [f,Hj _ _ (Bh _)];simp [d])
    exact zW
   unfold TJ at r;rw [<-e] at r;refine To.cutC [1,5,6,7,10,20,21,22] 4 rfl rfl rfl rfl ?_;refine To.objTo 1 (x:=.row 1 1 48 (b.map hmA++[.nilslice])) (x':=.row 1 1 48 ((b++[(none,0,[])]).map hmA)) rfl (λ h=>by cases h) rfl (λ M ob w hs _ h=>aIQ h) ?_;refine To.objTo 3 (x:=.bun 0 (pH 1 3 b)) (x':=.bun 0 (pH 1 3 (b++[(none,0,[])]))) rfl (λ h=>by cases h) rfl (λ M ob w hs _ h=>aKo h) ?_;refine To.toC ?_;refine To.part [1,5,6,7,10,20,21,22] [0,1,2,3] rfl rfl rfl ?_;refine To.ofC ?_;exact r
  | some k=>
   have C:cG (kav s.1) (ofK (bQ c.hs (i:Int)) i lv)=some (ii k):=by rw [H7,v];rfl
   refine ⟨_,C,gV ?_⟩;refine aN ?_;refine dF (hEr [5] []) 1 ?_;conv=>whnf
   have u:=o.at' _ k v;have f:(b.map (λ m=>m.2.2))[k]? =some (iv s.2[k]):=by rw [d,Bi,Ac u];rfl
   rw [Bi] at f;obtain ⟨m,hm,j⟩:=Co.1 f;have j:m.2.2=iv s.2[k]:=j;have g:b.length=s.2.length:=by have:=congrArg Ko d;simpa using this
   have N:=o.each _ (Ax u);have D:=o.len;have A:gpS c lv s i=(s.1,s.2.set k (s.2[k]++[(i:Int)])):=by unfold gpS;rw [v];show (s.1,s.2.set k ((s.2[k]?).getD []++[(i:Int)]))=_;rw [Ac u];rfl
   rw [A] at next
   refine To.cutC [1,5,6,7,10,20,21,22] 4 rfl rfl rfl rfl ?_;refine aFY c lv _ i k o_ b m hm (by rw [j];simp;omega) o_ s.1 rfl λ a z=>?_;have next:=next (b.set k (a,z,m.2.2++[ii i])) (by rw [Gz,Gz,d,j];simp)
   exact zW
def MC(c:Con)(b:c.sm)(lv:Int):aq 125 [c.av,ii lv] [] (.ret (.slice 1 (gav (gpL c lv)) .no)) []:=by
 have h1:=b.hs;have d:(hav c.hs).length=c.hs.length:=by simp
 obtain ⟨R,a⟩:∃ R,R=gpL c lv:=⟨_,rfl⟩
 rw [<-a];unfold gpL at a;refine cT (E:=(Er [5] [])) (fn:=Tryz.f125) (g:=.pure _) λ_=>?_;by_cases e:lv<0
 .rw [if_pos (decide_eq_true e)] at a;subst a;exact zW
 rw [if_neg (by rw [decide_eq_false e];decide)] at a;by_cases i:3<lv
 .rw [if_pos (decide_eq_true i)] at a;subst a;exact zW
 rw [if_neg (by rw [decide_eq_false i];decide),Iv] at a
 repeat' first | (refine gN (hEr [5] []) ?_;conv=>whnf) | exact rfl | refine zt ?_ | refine zu ?_ ?_ | intro h | fail
 refine To.ofC (To.beginF 1 3 ?_);refine To.toC ?_;have:=aKf c b lv o_ o_ R c.hs.length 0 ([],[]) [] o_ rfl ⟨λ p h=>(by simp at h),λ x k h=>(by cases h),Bh _,λ xs h=>by simp at h⟩ a.symm;exact zW
structure GO(n i:Nat)(s:GSt):Prop where
 base:GI i s
 ok:∀ xs∈s.2,xs≠[]/\∀ h∈xs,0<=h/\h<(n:Int)
def GO.step{c:Con}{lv:Int}{n i:Nat}{s:GSt}(g:i<n)(h:GO n i s):GO n (i+1) (gpS c lv s i):=by
 refine ⟨h.base.step,?_⟩;obtain ⟨e,d⟩:=h;have one:∀ h∈[(i:Int)],0<=h/\h<(n:Int):=λ h b=>by simp at b;omega
 unfold gpS;split
 .rename_i k f;intro xs a;rcases Dq a with a | rfl
  .exact d xs a
  .refine ⟨by simp,λ h b=>?_⟩;rcases Bd.1 b with b | b
   .have hl:=e.at' _ k f;rw [Ac hl] at b;exact (d _ (Ax hl)).2 h b
   .exact one h b
 .intro xs a;rcases Bd.1 a with a | a
  .exact d xs a
  .have a:xs=[(i:Int)]:=by simpa using a
   subst a;exact ⟨by simp,one⟩
def GO.fold{c:Con}{lv:Int}{n:Nat}:∀ (m i:Nat) (s:GSt),i+m=n->GO n i s->GO n n ((Iu i m).foldl (gpS c lv) s)
 | 0,i,s,hi,h=>by have:i=n:=o_
                  subst this;exact h
 | m+1,i,s,hi,h=>by rw [Mb,Bb];exact GO.fold m (i+1) _ o_ (h.step o_)
def aFZ(c:Con)(lv:Int):(gpL c lv).length<=c.hs.length/\∀ xs∈gpL c lv,xs≠[]/\xs.length<=c.hs.length/\∀ h∈xs,0<=h/\h<(c.hs.length:Int):=by
 unfold gpL;split
 .exact ⟨Ch _,λ xs h=>by simp at h⟩
 split
 .exact ⟨Ch _,λ xs h=>by simp at h⟩
 rw [Iv];have:=GO.fold (c:=c) (lv:=lv) (n:=c.hs.length) c.hs.length 0 ([],[]) o_ ⟨⟨λ p h=>(by simp at h),λ x k h=>(by cases h),Bh _,λ xs h=>(by simp at h)⟩,λ xs h=>(by simp at h)⟩;exact ⟨this.base.len,λ xs a=>⟨(this.ok xs a).1,this.base.each xs a,(this.ok xs a).2⟩⟩
def fdG(c:Con)(free:a8)(g:Gan):List ax->Option (Int×ax)
 | []=>none
 | gr::r=>if decide (((inL free g gr).length:Int)<g.pods)=true then fdG c free g r else some ((bQ c.hs (gr.headD 0)).f,inL free g gr)
def fdL(c:Con)(free:a8)(g:Gan):Nat->Int->Option (Int×ax)
 | 0,_=>none
 | n+1,lv=>match fdG c free g (gpL c lv) with
  | some x=>some x
  | none=>fdL c free g n (lv+1)
def fdA:Option (Int×ax)->aa
 | some x=>.tup [ii x.1,.slice 1 (iv x.2) .no,.bool true]
 | none=>.tup [ii 0,.slice 1 [] .no,.bool false]
def BN(c:Con)(free:a8)(g:Gan):Option (Int×ax):=fdL c free g (min g.lev 3+1-max g.pref 0).toNat (max g.pref 0)
noncomputable abbrev MR:Func:=Tryz.f56
abbrev aAN(c:Con)(g:Gan):au:=[.cells 26 c.cs,.cells 45 g.cs]
abbrev aNX(free:a8)(lv:Int):ar:=[(1,.slice 3 (vav free) .no),(3,.ref 0 0),(5,.ref 1 0),(9,ii lv)]
def aAF{l:List ax}{i:Nat}(h:i<l.length):(gav l)[i]? =some (.slice 1 (iv l[i]) .no):=by simp [gav,h]
def aPy(c:Con)(u:c.sm)(free:a8)(g:Gan)(t:0<=g.pods/\g.pods<=16)(lv:Int)(v:0<=lv)(B:lv<=3)(Q:Option (Int×ax))(a:List ax)(z:a.length<=1048576)(o:∀ xs∈a,xs≠[]/\xs.length<=c.hs.length/\∀ h∈xs,0<=h/\h<(c.hs.length:Int)):
  ∀ (m i:Nat),i+m=a.length->(∀ x,fdG c free g (a.drop i)=some x->Q=some x)->(fdG c free g (a.drop i)=none->To E MR (.pure (.ret (fdA Q))) (.head (stk MR 0) (aNX free (lv+1)) (aAN c g)))->
  To E MR (.pure (.ret (fdA Q))) (.head (stk MR 1) (aNX free lv++[(26,.slice 1 (gav a) .no),(27,.int .i64 ((gav a).length:Nat)),(28,ii i)]) (aAN c g)):=by
 have q:(gav a).length=a.length:=by simp
 have D:(hav c.hs).length=c.hs.length:=by simp
 have C:=u.hs;intro m;induction m with
 | zero=>
  intro i A hs b;rw [Ab o_] at b;have b:=b rfl;refine gV ?_;exact zW
 | succ m n=>
  intro i A hs b;have e:i<a.length:=o_;have n:=n (i+1) o_;rw [Aa e] at hs b;have j:=o _ (Ax e);have get:=aAF e;generalize a[i]=gr at hs b j get;obtain ⟨k,w,l⟩:=j;have f:=aPm c free g t gr o_;unfold fdG at hs b;unfold aFO at f;refine gV ?_;refine aT λ h=>gV ?_;refine ⟨i,rfl,gV ?_⟩;refine ⟨_,get,gV ?_⟩;by_cases s:((inL free g gr).length:Int)<g.pods
  .rw [if_pos (decide_eq_true s)] at hs b f;have next:=n hs b
   exact zW
  .rw [if_neg (by rw [decide_eq_false s];decide)] at hs b f;have y:=hs _ rfl;subst y
   match gr,k with
   | d::r,_=>
   have F:=l d s_;have G:(hav c.hs)[d.toNat]? =some (bQ c.hs d).av:=by have:=O9 (c:=c) (i:=d.toNat) o_;rwa [Ld F.1] at this
   have b:d=(d.toNat:Int):=o_;have p:(iv (d::r))[0]? =some (ii d):=rfl;exact zW
def aNW(c:Con)(d:c.sm)(free:a8)(g:Gan)(k:0<=g.pods/\g.pods<=16):∀ (n:Nat) (lv:Int),0<=lv->n=(min g.lev 3+1-lv).toNat->
  To E MR (.pure (.ret (fdA (fdL c free g n lv)))) (.head (stk MR 0) (aNX free lv) (aAN c g)):=by
 intro n;induction n with
 | zero=>
  intro lv i l;refine gV ?_;exact zW
 | succ n e=>
  intro lv i l;have e:=e (lv+1) o_ o_;have f:=aFZ c lv;have m:=d.hs;have j:(gav (gpL c lv)).length=(gpL c lv).length:=by simp
  obtain ⟨Q,b⟩:∃ Q,Q=fdL c free g (n+1) lv:=⟨_,rfl⟩
  rw [<-b];unfold fdL at b;refine gV ?_;refine aT λ h=>gV ?_;refine .pure _ [] (MC c d lv) ?_
  repeat' first | (refine gN hE ?_;conv=>whnf) | exact rfl | refine zt ?_ | refine zu ?_ ?_ | intro h | fail
  refine To.cut [1,3,5,9,26,27,28] 2 rfl rfl rfl rfl ?_;refine aPy c d free g k lv i o_ Q (gpL c lv) o_ f.2 (gpL c lv).length 0 o_ (λ x a=>?_) (λ a=>?_)
  .have a:fdG c free g (gpL c lv)=some x:=a;rw [a] at b;exact b
  .have a:fdG c free g (gpL c lv)=none:=a;rw [a] at b;rw [b];exact e
def find_ok(c:Con)(b:c.sm)(free:a8)(g:Gan)(a:0<=g.pods/\g.pods<=16):aq 56 [c.av,.slice 3 (vav free) .no,g.av] [] (.ret (fdA (BN c free g))) []:=by refine c_ Tryz.f56 λ_=>gV ?_;exact To.cut [1,3,5,9] 2 rfl rfl rfl rfl (aNW c b free g a _ _ o_ rfl)
def bM(c:Con)(l:a6)(g:Gan):Option (Int×ax):=if EX c (ofL c l) g.ten (dem g)=true then BN c (lT c l) g else none
def aGi(c:Con)(e:c.sm)(l:a6)(hl:Sm l)(g:Gan)(k:0<=g.pods/\g.pods<=16)(Q:Option (Int×ax))(a:bM c l g=Q):aq 16 [c.av,.slice 14 (rav l) .no,g.av] [] (.ret (fdA Q)) []:=by
 unfold bM at a;have hm:=aNr c e (ofL c l) g.ten (dem g);have hd:=X0 g;generalize EX c (ofL c l) g.ten (dem g)=b at a hm;generalize dem g=d at hm hd;have i:=find_ok c e (lT c l) g k;have j:=aAH c e l hl;have h:=SG c e l hl.1;generalize lT c l=fr at i a j;generalize ofL c l=us at hm h;cases b with
 | false=>
  have a:none=Q:=a;subst a;exact zqha7
 | true=>
  have a:BN c fr g=Q:=a;rw [a] at i;unfold fdA at i⊢;cases Q with
  | none=>
   exact zqha7
  | some x=>
   exact zqha7
def xJ(c:Con)(b:c.sm)(l:a6)(hl:Sm l)(g:Gan)(a:0<=g.pods/\g.pods<=16):aq 16 [c.av,.slice 14 (rav l) .no,g.av] [] (.ret (fdA (bM c l g))) []:=aGi c b l hl g a _ rfl
def aA.nil2{P:Program}{f:FuncId}{a:aa}{g:ay}{j:Nat}{ac ao:au}{r:Res}(h:aA P f (a:: .slice j [] .no::g) ac r ao):aA P f (a:: .nilslice::g) ac r ao:=
 λ M ob w b hm d=>h M ob w b hm ⟨d.1,λ i v x e c=>by
  match i with
  | 0=>exact d.2 0 v x e c
  | 1=>
   have c:aa.slice j [] .no=x:=by simpa using c
   subst c;have:=d.2 1 v .nilslice e rfl;cases this;exact .slnil _ _ trivial
  | i+2=>exact d.2 (i+2) v x e c⟩
def aB0(c:Con)(k:c.sm)(g:Gan)(j:0<=g.pods/\g.pods<=16)(b:Bool)(d:(bM c [] g).isNone=b):aq 207 [c.av,g.av] [] (.ret (.bool b)) []:=by
 have a:=xJ c k [] ⟨Ch _,λ x h=>by simp at h⟩ g j;generalize bM c [] g=Q at a d;subst d;unfold fdA at a;cases Q with
 | none=>
  refine c_ Tryz.f207 λ_=>?_;have e:=aA.nil2 a;exact zW
 | some x=>
  refine c_ Tryz.f207 λ_=>?_;have i:=aA.nil2 a;exact zW
def SQ(c:Con)(b:c.sm)(g:Gan)(a:0<=g.pods/\g.pods<=16):aq 207 [c.av,g.av] [] (.ret (.bool (bM c [] g).isNone)) []:=aB0 c b g a _ rfl
def aQi(x:Rn)(M:Imm)(ob:Hs)(vs:ba)(h:cM M ob vs [x.av]):inR .i64 x.st/\inR .i64 x.g.run:=by
 have hl:0<vs.length:=by rw [h.1];simp
 have:=h.2 0 _ x.av (Ac hl) rfl;exact ⟨bE this 11 _ rfl,bE this 6 _ rfl⟩
def eZ(x:Rn):Int:=if 9223372036854775807<x.st+x.g.run then 9223372036854775807 else if x.st+x.g.run< -9223372036854775808 then -9223372036854775808 else x.st+x.g.run
def aKE(x:Rn)(r:Int)(a:eZ x=r):aq 58 [x.av] [] (.ret (ii r)) []:=by
 refine aA.get _ (aQi x) λ⟨⟨a1,a2⟩,⟨b1,b2⟩⟩=>?_;simp only [dA,bN] at a1 a2 b1 b2;unfold eZ at a;by_cases h1:9223372036854775807<x.st+x.g.run
 .rw [if_pos h1] at a;subst a;have e:=aHS h1 o_;exact zqha6
 .rw [if_neg h1] at a;by_cases b:x.st+x.g.run< -9223372036854775808
  .rw [if_pos b] at a;subst a;have e:=aHR b o_;exact zqha6
  .rw [if_neg b] at a;refine c_ Tryz.f58 λ_=>?_
   repeat' first | (refine gN hE ?_;conv=>whnf) | exact rfl | refine zt ?_ | refine zu ?_ ?_ | intro h | fail
   all_goals first | exact a▸rfl | (exfalso;simp at *;omega)
def I0(x:Rn):aq 58 [x.av] [] (.ret (ii (eZ x))) []:=aKE x _ rfl
def DN(l:ax)(h:l.length<=1048576):aq 176 [.slice 1 (iv l) .no] [] (.ret (.slice 1 (iv l) .no)) []:=by
 have a:(iv l).length=l.length:=by simp
 refine c_ Tryz.f176 λ_=>gV ?_;intro b c;refine gV ?_;refine ⟨λ h=>?_,λ h=>?_⟩
 .have h:b=true:=h;have e:iv l=[]:=c h;refine gV ?_;rw [e]
 .have h:b=false:=h;exact zW
def aIP(x:Rn)(h:x.hs.length<=1048576):aq 244 [x.av] [] (.ret x.av) []:=by refine c_ Tryz.f244 λ_=>?_;have a:=DN x.hs h;exact zW
def atL(l:a6)(t:Int):a6:=l.filter λ x=>decide (t<eZ x)
def aLy{x:Rn}{r:a6}{t:Int}(h:decide (t<eZ x)=true):atL (x::r) t=x::atL r t:=Gb h
def aLz{x:Rn}{r:a6}{t:Int}(h:decide (t<eZ x)=false):atL (x::r) t=atL r t:=Fc (by rw [h];decide)
noncomputable abbrev fAt:Func:=Tryz.f182
def aLw(l:a6)(hs:Sm l)(t:Int)(R:a6):∀ (n i:Nat) (a:a6),i+n=l.length->a.length<=i->a++atL (l.drop i) t=R->
  To (Eo [5] []) fAt (.pure (.ret (.slice 14 (rav R) .no))) (.head (stk fAt 0) [(1,.int .i64 t),(5,.slice 14 (rav a) (.own 0 0)),(8,.slice 14 (rav l) .no),(9,.int .i64 ((rav l).length:Nat)),(10,.int .i64 i)] [.tail 0 14 107]):=by
 have k:(rav l).length=l.length:=by simp
 have hl:=hs.1;intro n;induction n with
 | zero=>
  intro i a p q b;rw [Ab o_] at b;have b:a++[]=R:=b;rw [Ar] at b;subst b;refine gV ?_;exact zW
 | succ n j=>
  intro i a p q b;have c:i<l.length:=o_;rw [Aa c] at b;have g:=hs.at c;generalize o:l[i]=x at b g;have get:(rav l)[i]? =some x.av:=(cF c).trans (by rw [o]);have r:(rav a).length=a.length:=by simp
  refine gV ?_;refine aT λ h=>gV ?_;refine ⟨i,rfl,gV ?_⟩;refine ⟨_,get,gV ?_⟩;refine .pure _ [] (I0 x) (gV ?_);refine Ae (λ d=>?_) (λ d=>?_)
  .have d:decide (t<eZ x)=true:=d;rw [aLy d] at b;refine gV ?_;refine .pure _ [] (aIP x g) (gV ?_);refine ⟨⟨by simp only [maxLen];simp;omega,by simp;omega⟩,?_⟩;refine gV ?_;refine aJ (gV ?_);refine To.part [1,5,8,9,10] [0] rfl rfl rfl ?_;have next:=j (i+1) (a++[x]) o_ q_ (by rw [Ag];exact b)
   have e:rav (a++[x])=rav a++[x.av]:=by simp
   rw [e] at next
   exact next
  .have f:decide (t<eZ x)=false:=d;rw [aLz f] at b;have m:=j (i+1) a o_ o_ b;exact zW
def aHy(l:a6)(hs:Sm l)(t:Int):aq 182 [.slice 14 (rav l) .no,ii t] [] (.ret (.slice 14 (rav (atL l t)) .no)) []:=by refine cT (E:=(Eo [5] [])) (fn:=Tryz.f182) (g:=.pure _) λ_=>?_;have a:=aLw l hs t _ l.length 0 [] o_ s_ rfl;exact zW
def aHA{l:a6}(h:Sm l)(t:Int):Sm (atL l t):=
 ⟨Dh (Fv _ _) h.1,λ x a=>h.2 x (Fm.1 a).1⟩
open Go Go.AW Go.Proofs Go.Shelf
set_option maxRecDepth 100000
def aIw:Go.Shelf.Ren:=⟨fun | 125=>275 | 128=>300 | 129=>301 | 189=>243 | 215=>227 | 216=>297 | 257=>274 | 294=>291 | 295=>292 | 296=>293 | 297=>294 | 298=>295 | 299=>296 | 300=>298 | 301=>299 | 328=>305 | 329=>306 | 330=>307 | 331=>308 | 332=>309 | 343=>311 | n=>n,fun | 0=>0 | 3=>3 | 4=>4 | 5=>5 | 9=>9 | 28=>48 | 46=>333 | 51=>321 | 53=>129 | 131=>198 | 182=>396 | 183=>397 | 218=>407 | 222=>411 | 228=>413 | 229=>414 | n=>n,λ n=>n⟩
def QZ:Lays.n189 Tryz.prog aIw where
 mixed:=by kernel_rfl
 f125:=Tryz.func275.trans (congrArg some (by kernel_rfl))
 f128:=Tryz.func300.trans (congrArg some (by kernel_rfl))
 f129:=Tryz.func301.trans (congrArg some (by kernel_rfl))
 f189:=Tryz.func243.trans (congrArg some (by kernel_rfl))
 f215:=Tryz.func227.trans (congrArg some (by kernel_rfl))
 f216:=Tryz.func297.trans (congrArg some (by kernel_rfl))
 f257:=Tryz.func274.trans (congrArg some (by kernel_rfl))
 f294:=Tryz.func291.trans (congrArg some (by kernel_rfl))
 f295:=Tryz.func292.trans (congrArg some (by kernel_rfl))
 f296:=Tryz.func293.trans (congrArg some (by kernel_rfl))
 f297:=Tryz.func294.trans (congrArg some (by kernel_rfl))
 f298:=Tryz.func295.trans (congrArg some (by kernel_rfl))
 f299:=Tryz.func296.trans (congrArg some (by kernel_rfl))
 f300:=Tryz.func298.trans (congrArg some (by kernel_rfl))
 f301:=Tryz.func299.trans (congrArg some (by kernel_rfl))
 f328:=Tryz.func305.trans (congrArg some (by kernel_rfl))
 f329:=Tryz.func306.trans (congrArg some (by kernel_rfl))
 f330:=Tryz.func307.trans (congrArg some (by kernel_rfl))
 f331:=Tryz.func308.trans (congrArg some (by kernel_rfl))
 f332:=Tryz.func309.trans (congrArg some (by kernel_rfl))
 f343:=Tryz.func311.trans (congrArg some (by kernel_rfl))
 t0:=Tryz.underlying0
 a0:=Tryz.isAgg0
 z0:=Tryz.sizeOf0
 v0:=Tryz.zeroValue0
 t3:=Tryz.underlying3
 a3:=Tryz.isAgg3
 z3:=Tryz.sizeOf3
 v3:=Tryz.zeroValue3
 t4:=Tryz.underlying4
 a4:=Tryz.isAgg4
 z4:=Tryz.sizeOf4
 v4:=Tryz.zeroValue4
 t5:=Tryz.underlying5
 a5:=Tryz.isAgg5
 z5:=Tryz.sizeOf5
 v5:=Tryz.zeroValue5
 t9:=Tryz.underlying9
 a9:=Tryz.isAgg9
 z9:=Tryz.sizeOf9
 v9:=Tryz.zeroValue9
 t28:=Tryz.underlying48
 a28:=Tryz.isAgg48
 z28:=Tryz.sizeOf48
 v28:=Tryz.zeroValue48
 t46:=Tryz.underlying333
 a46:=Tryz.isAgg333
 z46:=Tryz.sizeOf333
 v46:=Tryz.zeroValue333
 t51:=Tryz.underlying321
 a51:=Tryz.isAgg321
 z51:=Tryz.sizeOf321
 v51:=Tryz.zeroValue321
 t53:=Tryz.underlying129
 a53:=Tryz.isAgg129
 z53:=Tryz.sizeOf129
 v53:=Tryz.zeroValue129
 t131:=Tryz.underlying198
 a131:=Tryz.isAgg198
 z131:=Tryz.sizeOf198
 v131:=Tryz.zeroValue198
 t182:=Tryz.underlying396
 a182:=Tryz.isAgg396
 z182:=Tryz.sizeOf396
 v182:=Tryz.zeroValue396
 t183:=Tryz.underlying397
 a183:=Tryz.isAgg397
 z183:=Tryz.sizeOf397
 v183:=Tryz.zeroValue397
 t218:=Tryz.underlying407
 a218:=Tryz.isAgg407
 z218:=Tryz.sizeOf407
 v218:=Tryz.zeroValue407
 t222:=Tryz.underlying411
 a222:=Tryz.isAgg411
 z222:=Tryz.sizeOf411
 v222:=Tryz.zeroValue411
 t228:=Tryz.underlying413
 a228:=Tryz.isAgg413
 z228:=Tryz.sizeOf413
 v228:=Tryz.zeroValue413
 t229:=Tryz.underlying414
 a229:=Tryz.isAgg414
 z229:=Tryz.sizeOf414
 v229:=Tryz.zeroValue414
def yB(l:ax):ax:=l.mergeSort λ x y=>decide (x<=y)
def aIv(l:ax)(hl:l.length<=1000000000):aq 243 [.row 0 0] [.row 0 1 3 (iv l)] (.ret (.tup [])) [.row 0 1 3 (iv (yB l))]:=
 KA (λ_ _=>by rfl) (λ p cap w=>Any.slices_Sort_int_none QZ p cap w) (λ blk off cap b w c a hz=>Any.slices_Sort_int QZ blk off cap b w c a hz) 3 l hl
set_option maxRecDepth 10000
def kyv(n:Int):aa:=.agg [ii n]
abbrev kv(l:ax):ay:=l.map kyv
def aFD{l:ax}{i:Nat}(h:i<l.length):(kv l)[i]? =some (kyv l[i]):=by simp [kv,h]
abbrev aNy(n:Int):aa:=.func (.func 242) [] [.ptr [ii n]]
def aNw(x n:Int):aq 242 [kyv x,.ptr [ii n]] [] (.ret (.bool (x==n&&true))) []:=by exact c_ Tryz.f242 λ_=>zW
def EC(n:Int):ax->Nat->Int
 | [],_=> -1
 | x::r,i=>if (x==n&&true) then (i:Int) else EC n r (i+1)
def has(l:ax)(n:Int):Bool:=decide (0<=EC n l 0)
noncomputable abbrev aPK:Func:=Tryz.f273
def aFP(l:ax)(n:Int)(hl:((kv l).length:Int)<=9223372036854775807)(r:Int):∀ (m i:Nat),i+m=l.length->EC n (l.drop i) i=r->
  To E aPK (.pure (.ret (ii r))) (.head (stk aPK 0) [(0,.slice 1 (kv l) .no),(1,aNy n),(7,.int .i64 ((kv l).length:Nat)),(8,.int .i64 i)] []):=by
 have d:(kv l).length=l.length:=by simp
 intro m;induction m with
 | zero=>
  intro i f a;rw [Ab o_] at a;subst a;refine gV ?_;exact zW
 | succ m g=>
  intro i f a;have b:i<l.length:=o_;rw [Aa b] at a;generalize e:l[i]=x at a;have get:(kv l)[i]? =some (kyv x):=(aFD b).trans (by rw [e]);unfold EC at a;refine gV ?_;refine aT λ h=>?_
  repeat' first | (refine gN hE ?_;conv=>whnf) | refine ⟨_,get,?_⟩ | refine .pure _ [] (aNw x n) ?_ | exact rfl | refine zt ?_ | refine zu ?_ ?_ | intro h | fail
  .have h:(x==n&&true)=true:=h;rw [if_pos h] at a;rw [<-a]
  .have h:(x==n&&true)=false:=h;rw [if_neg (by rw [h];decide)] at a;have c:=g (i+1) o_ a;exact zW
def aNC(l:ax)(n:Int):aq 273 [.slice 1 (kv l) .no,aNy n] [] (.ret (ii (EC n l 0))) []:=by refine c_ Tryz.f273 λ b=>?_;have hl:((kv l).length:Int)<=9223372036854775807:=b.1;have a:=aFP l n hl _ l.length 0 o_ rfl;exact zW
def aNH(l:ax)(n:Int):aq 241 [.slice 1 (kv l) .no,aNy n] [] (.ret (.bool (has l n))) []:=by refine c_ Tryz.f241 λ_=>?_;have a:=aNC l n;exact zW
def uD(now:Int):a6->ax->ax
 | [],ks=>ks
 | x::r,ks=>uD now r (if decide (now<eZ x)&& !has ks (eZ x) then ks++[eZ x] else ks)
def LX(now:Int):∀ (l:a6) (ks:ax),(uD now l ks).length<=ks.length+l.length
 | [],ks=>by simp [uD]
 | x::r,ks=>by
  unfold uD;have:=LX now r (if decide (now<eZ x)&& !has ks (eZ x) then ks++[eZ x] else ks);split at this
  .rename_i h;rw [if_pos h];simp only [Ai,Ak,Bz] at this⊢;omega
  .rename_i h;rw [if_neg h];simp only [Ak];omega
noncomputable abbrev aAV:Func:=Tryz.f181
noncomputable abbrev En:Env:=Ex [5] [9] []
def hEn:ae En:=hEx _ _ _
def XO(ks:ax)(m:ks.length<=1048576):∀ (n i:Nat) (a:ax),i+n=ks.length->a=ks.take i->
  To En aAV (.pure (.ret (.slice 1 (iv (yB ks)) .no))) (.head (stk aAV 1) [(9,.row 0 0),(36,.slice 1 (kv ks) .no),(37,.int .i64 ((kv ks).length:Nat)),(38,.int .i64 i)] [.row 0 1 3 (iv a)]):=by
 have f:(kv ks).length=ks.length:=by simp
 intro n;induction n with
 | zero=>
  intro i a k c;rw [Cn o_] at c;subst c;refine gW hEn ?_;conv=>whnf
  refine aF λ h=>?_;refine gW hEn ?_;conv=>whnf
  refine .eff [] [0] _ _ rfl (aIv a o_) ?_
  repeat' first | (refine gN hEn ?_;conv=>whnf) | exact rfl | refine zt ?_ | refine zu ?_ ?_ | intro h | fail
 | succ n l=>
  intro i a k c;have b:i<ks.length:=o_;generalize d:ks[i]=x;have get:(kv ks)[i]? =some (kyv x):=(aFD b).trans (by rw [d]);have j:a.length=i:=by rw [c];simp;omega
  have g:(iv a).length=a.length:=by simp
  refine gW hEn ?_;conv=>whnf
  refine aT λ h=>?_;refine gW hEn ?_;conv=>whnf
  refine ⟨i,rfl,?_⟩;refine gW hEn ?_;conv=>whnf
  refine ⟨_,get,?_⟩;refine gW hEn ?_;conv=>whnf
  refine ⟨⟨by decide,by decide⟩,?_⟩;refine gW hEn ?_;conv=>whnf
  refine ⟨⟨by simp only [maxLen];simp;omega,by simp;omega⟩,?_⟩;refine gW hEn ?_;conv=>whnf
  refine aJ ?_;refine gW hEn ?_;conv=>whnf
  refine To.part [9,36,37,38] [0] rfl rfl rfl ?_;have next:=l (i+1) (a++[x]) o_ (by rw [c,<-d];exact List.take_append_getElem b)
  have e:iv (a++[x])=iv a++[ii x]:=by simp
  rw [e] at next
  exact next
def aCv(l:a6)(hs:Sm l)(now:Int)(R:ax):∀ (n i:Nat) (ks:ax),i+n=l.length->ks.length<=i->yB (uD now (l.drop i) ks)=R->
  To En aAV (.pure (.ret (.slice 1 (iv R) .no))) (.head (stk aAV 0) [(1,.int .i64 now),(5,.slice 1 (kv ks) (.own 0 0)),(12,.slice 14 (rav l) .no),(13,.int .i64 ((rav l).length:Nat)),(14,.int .i64 i)] [.tail 0 1 354]):=by
 have k:(rav l).length=l.length:=by simp
 have hl:=hs.1;intro n;induction n with
 | zero=>
  intro i ks o p a;rw [Ab o_] at a;have a:yB ks=R:=a;subst a;refine gW hEn ?_;conv=>whnf
  refine aF λ h=>?_;refine gW hEn ?_;conv=>whnf
  refine To.part [9,36,37,38] [1] rfl rfl rfl ?_;have f:=XO ks o_ ks.length 0 [] o_ s_;exact zW
 | succ n d=>
  intro i ks o p a;have c:i<l.length:=o_;rw [Aa c] at a;generalize m:l[i]=x at a;have get:(rav l)[i]? =some x.av:=(cF c).trans (by rw [m]);have q:(kv ks).length=ks.length:=by simp
  unfold uD at a;refine gW hEn ?_;conv=>whnf
  refine aT λ h=>?_;refine gW hEn ?_;conv=>whnf
  refine ⟨i,rfl,?_⟩;refine gW hEn ?_;conv=>whnf
  refine ⟨_,get,?_⟩;refine gW hEn ?_;conv=>whnf
  refine .pure _ [] (I0 x) ?_;refine gW hEn ?_;conv=>whnf
  refine ⟨⟨by decide,by decide⟩,?_⟩;refine gW hEn ?_;conv=>whnf
  refine Ae (λ h1=>?_) (λ h1=>?_)
  .have h1:decide (now<eZ x)=true:=h1;refine gW hEn ?_;conv=>whnf
   refine .pure _ [] (aNH ks (eZ x)) ?_;refine gW hEn ?_;conv=>whnf
   refine Ae (λ b=>?_) (λ b=>?_)
   .have b:(!has ks (eZ x))=true:=b;rw [h1,b,if_pos d_] at a;refine gW hEn ?_;conv=>whnf
    refine ⟨⟨by simp only [maxLen];simp;omega,by simp;omega⟩,?_⟩;refine gW hEn ?_;conv=>whnf
    refine aJ ?_;refine gW hEn ?_;conv=>whnf
    refine To.part [1,5,12,13,14] [0] rfl rfl rfl ?_;have next:=d (i+1) (ks++[eZ x]) o_ q_ a
    have e:kv (ks++[eZ x])=kv ks++[kyv (eZ x)]:=by simp
    rw [e] at next
    exact next
   .have b:(!has ks (eZ x))=false:=b;rw [h1,b,if_neg d_] at a;refine gW hEn ?_;conv=>whnf
    refine aJ ?_;refine gW hEn ?_;conv=>whnf
    have g:=d (i+1) ks o_ o_ a;exact zW
  .have h1:decide (now<eZ x)=false:=h1;rw [h1,De,if_neg d_] at a
   repeat' first | (refine gN hEn ?_;conv=>whnf) | exact rfl | refine zt ?_ | refine zu ?_ ?_ | intro h | fail
   have j:=d (i+1) ks o_ o_ a;exact zW
def yG(l:a6)(now:Int):ax:=yB (uD now l [])
def aKD(l:a6)(hs:Sm l)(now:Int):aq 181 [.slice 14 (rav l) .no,ii now] [] (.ret (.slice 1 (iv (yG l now)) .no)) []:=by
 refine cT (E:=En) (fn:=Tryz.f181) (g:=.pure _) λ_=>?_;refine gW hEn ?_;conv=>whnf
 have a:=aCv l hs now _ l.length 0 [] o_ s_ rfl;exact zW
def TC(n:Int):ax->ax
 | []=>[n]
 | x::r=>if x<n then x::TC n r else if x=n then x::r else n::x::r
def rE(now:Int):a6->ax->ax
 | [],out=>out
 | x::r,out=>rE now r (if eZ x<=now then out else TC (eZ x) out)
def stF(c:Con)(l:a6)(g:Gan):ax->Option Int
 | []=>none
 | t::r=>if (bM c (atL l t) g).isSome=true then some t else stF c l g r
def stA:Option Int->aa
 | some t=>.tup [ii t,.bool true]
 | none=>.tup [ii 0,.bool false]
def vI(c:Con)(now:Int)(l:a6)(g:Gan):Option Int:=stF c l g (now::yG l now)
noncomputable abbrev aGq:Func:=Tryz.f115
def VN(c:Con)(n:c.sm)(now:Int)(l:a6)(hs:Sm l)(g:Gan)(k:0<=g.pods/\g.pods<=16)(es:ax)(q:es.length<=1048576)(R:Option Int):∀ (m i:Nat),i+m=es.length+1->stF c l g ((now::es).drop i)=R->
  To E aGq (.pure (.ret (stA R))) (.head (stk aGq 0) [(1,ii now),(2,.slice 14 (rav l) .no),(4,.ref 0 0),(7,.ref 1 0),(10,.slice 1 (iv es) .no),(21,.int .i64 (((iv es).length:Nat)+1)),(22,ii i)] (aAN c g)):=by
 have o:(iv es).length=es.length:=by simp
 intro m;induction m with
 | zero=>
  intro i r a;rw [Ab q_] at a;have a:none=R:=a;subst a;refine gV ?_;exact zW
 | succ m f=>
  intro i r a;have e:i<(now::es).length:=by simp;omega
  rw [Aa e] at a;have f:=f (i+1) o_;cases i with
  | zero=>
   have a:stF c l g (now::(now::es).drop 1)=R:=a;have d:=xJ c n (atL l now) (aHA hs now) g k;have b:=aHy l hs now;unfold stF at a;generalize bM c (atL l now) g=Q at a d;unfold fdA at d;generalize atL l now=al at b d;refine gV ?_;refine aT λ h=>gV ?_;refine aF λ h=>gV ?_;refine .pure _ [] b (gV ?_);cases Q with
   | none=>
    rw [if_neg d_] at a;have next:=f a
    exact zW
   | some x=>
    exact zqha10
  | succ j=>
   have p:j<es.length:=by simp at e;omega
   have a:stF c l g (es[j]::(now::es).drop (j+1+1))=R:=a;have get:(iv es)[j]? =some (ii es[j]):=dJ p;generalize es[j]=t at a get;have d:=xJ c n (atL l t) (aHA hs t) g k;have b:=aHy l hs t;unfold stF at a;generalize bM c (atL l t) g=Q at a d;unfold fdA at d;generalize atL l t=al at b d;refine gV ?_;refine aT λ h=>gV ?_;refine aT λ h=>gV ?_;refine aJ (gV ?_);refine ⟨j,by omega,gV ?_⟩;refine ⟨_,get,gV ?_⟩;refine .pure _ [] b (gV ?_);cases Q with
   | none=>
    rw [if_neg d_] at a;have next:=f a
    exact zW
   | some x=>
    exact zqha10
def aDR(c:Con)(h:c.sm)(now:Int)(l:a6)(hs:Sm l)(g:Gan)(e:0<=g.pods/\g.pods<=16):aq 115 [c.av,ii now,.slice 14 (rav l) .no,g.av] [] (.ret (stA (vI c now l g))) []:=by
 have a:(yG l now).length<=1048576:=by
  unfold yG yB;rw [Mx];have:=LX now l [];have:=hs.1;simp at *
  omega
 have d:=aKD l hs now;unfold vI;generalize yG l now=es at a d;have b:(iv es).length=es.length:=by simp
 refine c_ Tryz.f115 λ_=>gV ?_;refine .pure _ [] d (gV ?_);refine aJ (gV ?_);exact To.cut [1,2,4,7,10,21,22] 2 rfl rfl rfl rfl (VN c h now l hs g e es a _ (es.length+1) 0 o_ rfl)
def bmB(now:Int)(g:Gan)(t:Int):Bool:=decide (eZ ⟨g,0,0,now,0,[]⟩<=t)
def aHr(now:Int)(g:Gan)(t:Int)(b:Bool)(a:bmB now g t=b):aq 17 [ii now,g.av,ii t] [] (.ret (.bool b)) []:=by have c:=I0 ⟨g,0,0,now,0,[]⟩;unfold bmB at a;generalize eZ ⟨g,0,0,now,0,[]⟩=x at a c;subst a;exact c_ Tryz.f17 λ_=>zW
def aBi(now:Int)(g:Gan)(t:Int):aq 17 [ii now,g.av,ii t] [] (.ret (.bool (bmB now g t))) []:=aHr now g t _ rfl
def bH(v:V3):Bool:=decide (0<=v.a/\v.a<=1048576)&&decide (0<=v.b/\v.b<=1048576)&&decide (0<=v.c/\v.c<=1048576)
def rlB(ns:bc)(t:Int):Bool:=if decide (t<0)=true then false else if decide ((ns.length:Int)<=t)=true then false else ns.all λ x=>!(x.p==t)
def aPt(ns:bc)(g:Gan):Bool:=decide (1<=g.id/\g.id<=1073741824/\1<=g.pods/\g.pods<=16)&&(bH g.need&&(decide (1<=g.run/\g.run<=1048576/\0<=g.lev/\g.lev<=3/\0<=g.pref/\g.pref<=g.lev)&&rlB ns g.ten))
def aLV(ns:bc)(g:Gan):Int:=if aPt ns g=true then 1 else 0
def zB(v:V3):Bool:=v.a==0&&(v.b==0&&(v.c==0&&true))
def E7(i:Nat)(x:Nod):Prop:=(i=0/\x.p≠ -1)\/(0<i/\(x.p<0\/(i:Int)<=x.p))\/x.w<1\/1000<x.w
instance (i:Nat)(x:Nod):Decidable (E7 i x):=by unfold E7;infer_instance
def rT(bl:Bool)(i:Nat)(x:Nod):Bool:=if E7 i x then false else if bl=true then bH x.n&&(bH x.b&&(bH x.l&&dC x.l x.n)) else zB x.n&&(zB x.b&&zB x.l)
def KS(x:Hos):Prop:=x.f<0\/100<x.f\/x.b<0\/100<x.b\/x.r<0\/100<x.r
instance (x:Hos):Decidable (KS x):=by unfold KS;infer_instance
def nP(x:Hos):Bool:=if KS x then false else bH x.c
def nK(ns:bc):Nat->bc->Bool
 | _,[]=>true
 | i,x::r=>if rT (rlB ns i) i x=true then nK ns (i+1) r else false
def ET(c:Con):Prop:=(1<=c.ns.length/\c.ns.length<=12)/\(1<=c.hs.length/\c.hs.length<=24)/\(1<=c.half/\c.half<=1048576)/\0<=c.age/\c.age<=1048576
instance (c:Con):Decidable (ET c):=by unfold ET;infer_instance
def cJ(c:Con):Int:=if ET c then (if nK c.ns 0 c.ns=true then (if c.hs.all nP=true then 0 else 2) else 2) else 2
def aNF(n:Nat)(l:ax):Bool:=l.all λ h=>decide (0<=h/\h<(n:Int))
def aOz(c:Con)(now:Int)(x:Rn):Prop:=aLV c.ns x.g=0\/x.st<0\/now<x.st\/(x.hs.length:Int)≠x.g.pods
instance (c:Con)(now:Int)(x:Rn):Decidable (aOz c now x):=by unfold aOz;infer_instance
def aQf(c:Con)(now:Int)(x:Rn):Bool:=if aOz c now x then false else aNF c.hs.length x.hs
def aOA(c:Con)(now:Int)(l:a6):Prop:=cJ c≠0\/32<l.length\/now<0\/1099511627776<now
instance (c:Con)(now:Int)(l:a6):Decidable (aOA c now l):=by unfold aOA;infer_instance
def aQs(c:Con)(now:Int)(l:a6):Int:=if aOA c now l then 0 else if l.all (aQf c now)=true then 1 else 0
abbrev St(l:ax):Prop:=l.Pairwise (· < ·)
def H9{n x:Int}:∀ {l:ax},x∈TC n l↔x=n\/x∈l
 | []=>by simp [TC]
 | y::r=>by
  have a:=H9 (n:=n) (x:=x) (l:=r);unfold TC;split
  .simp only [Aw,a];constructor
   .exact zqha8
   .exact zqha8
  .split
   .rename_i h;subst h;simp only [Aw];constructor
    .rintro (h | h)
     .exact .inl h
     .exact .inr (.inr h)
    .rintro (h | h | h)
     .exact .inl h
     .exact .inl h
     .exact .inr h
   .simp only [Aw]
def aAs{n:Int}:∀ {l:ax},St l->St (TC n l)
 | [],_=>by simp [TC]
 | y::r,h=>by
  have a:=Ck.1 h;unfold TC;split
  .rename_i b;refine Ck.2 ⟨λ z hz=>?_,aAs a.2⟩;rcases H9.1 hz with rfl | hz
   .exact b
   .exact a.1 z hz
  .split
   .exact h
   .rename_i h1 c;refine Ck.2 ⟨λ z hz=>?_,h⟩;rcases Aw.1 hz with rfl | hz
    .omega
    .have:=a.1 z hz;omega
def Z3{now:Int}:∀ {l:a6} {out:ax},St out->St (rE now l out)
 | [],_,h=>h
 | x::r,out,h=>by
  unfold rE;split
  .exact Z3 h
  .exact Z3 (aAs h)
def OH{now n:Int}:∀ {l:a6} {out:ax},n∈rE now l out↔n∈out\/∃ x∈l,eZ x=n/\now<n
 | [],out=>by simp [rE]
 | x::r,out=>by
  unfold rE;split
  .rename_i h;rw [OH (l:=r)];constructor
   .rintro (h1 | ⟨y,a,h1⟩)
    .exact .inl h1
    .exact .inr ⟨y,Av _ a,h1⟩
   .rintro (h1 | ⟨y,a,h1,b⟩)
    .exact .inl h1
    .rcases Aw.1 a with rfl | a
     .omega
     .exact .inr ⟨y,a,h1,b⟩
  .rename_i h;rw [OH (l:=r),H9];constructor
   .rintro ((h1 | h1) | ⟨y,a,h1⟩)
    .exact .inr ⟨x,by simp,h1.symm,by omega⟩
    .exact .inl h1
    .exact .inr ⟨y,Av _ a,h1⟩
   .rintro (h1 | ⟨y,a,h1,b⟩)
    .exact .inl (.inr h1)
    .rcases Aw.1 a with rfl | a
     .exact .inl (.inl h1.symm)
     .exact .inr ⟨y,a,h1,b⟩
def MN{n:Int}:∀ {l:ax} {i:Nat},0<=EC n l i↔n∈l
 | [],i=>by simp [EC]
 | x::r,i=>by
  unfold EC;split
  .rename_i h;have:x=n:=by simpa using h
   simp [this]
  .rename_i h;have:¬ x=n:=by simpa using h
   rw [MN (l:=r),Aw];constructor
   .exact .inr
   .rintro (h | h)
    .exact absurd h.symm this
    .exact h
def aAB{l:ax}{n:Int}:has l n=true↔n∈l:=by unfold has;rw [decide_eq_true_eq,MN]
def LW{now n:Int}:∀ {l:a6} {ks:ax},n∈uD now l ks↔n∈ks\/∃ x∈l,eZ x=n/\now<n
 | [],ks=>by simp [uD]
 | x::r,ks=>by
  unfold uD;rw [LW (l:=r)];split
  .rename_i h;simp only [Af,decide_eq_true_eq] at h;simp only [Bd,Aw,Hu,or_false];constructor
   .rintro ((h1 | h1) | ⟨y,a,h1⟩)
    .exact .inl h1
    .exact .inr ⟨x,.inl rfl,h1.symm,by omega⟩
    .exact .inr ⟨y,.inr a,h1⟩
   .rintro (h1 | ⟨y,rfl | a,h1,b⟩)
    .exact .inl (.inl h1)
    .exact .inl (.inr h1.symm)
    .exact .inr ⟨y,a,h1,b⟩
  .rename_i h;simp only [Aw];constructor
   .rintro (h1 | ⟨y,a,h1⟩)
    .exact .inl h1
    .exact .inr ⟨y,.inr a,h1⟩
   .rintro (h1 | ⟨y,rfl | a,h1,b⟩)
    .exact .inl h1
    .cases c:has ks (eZ y) with
     | true=>exact .inl (h1▸aAB.1 c)
     | false=>
      refine absurd ?_ h;rw [c,decide_eq_true o_];rfl
    .exact .inr ⟨y,a,h1,b⟩
def vZ{now:Int}:∀ {l:a6} {ks:ax},ks.Nodup->(uD now l ks).Nodup
 | [],_,h=>h
 | x::r,ks,h=>by
  unfold uD;split
  .rename_i c;refine vZ ?_;simp only [Af,Df] at c;have f:eZ x∉ks:=λ hm=>by have:=aAB.2 hm;rw [this] at c;cases c.2
   exact Cd.2 ⟨h,by simp,λ a g b d=>by
    simp only [Aw,Hu,or_false] at d;subst d
    exact λ e=>f (e▸g)⟩
  .exact vZ h
def aBA{l:ax}{n:Int}:n∈yB l↔n∈l:=(Lg l _).mem_iff
def aD0{l:ax}(h:l.Nodup):St (yB l):=by have h1:(yB l).Pairwise (λ a b=>decide (a<=b)=true):=List.pairwise_mergeSort (λ a b c h1 d=>by simp at *;omega) (λ a b=>by simp;omega) l;have d:(yB l).Nodup:=(Lg l _).nodup_iff.2 h;exact (h1.and d).imp λ⟨a,b⟩=>by simp at a;omega
def aLO:∀ {a b:ax},St a->St b->(∀ x,x∈a↔x∈b)->a=b
 | [],[],_,_,_=>rfl
 | [],y::s,_,_,h=>absurd ((h y).2 s_) s_
 | x::r,[],_,_,h=>absurd ((h x).1 s_) s_
 | x::r,y::s,ha,hb,h=>by
  have c:=Ck.1 ha;have d:=Ck.1 hb;have e:x=y:=by
   rcases Aw.1 ((h x).1 s_) with e | h1
   .exact e
   .rcases Aw.1 ((h y).2 s_) with e | f
    .exact e.symm
    .have:=d.1 x h1;have:=c.1 y f;omega
  subst e;rw [aLO c.2 d.2 λ z=>?_];constructor
  .intro hz;rcases Aw.1 ((h z).1 (Av _ hz)) with rfl | h1
   .have:=c.1 z hz;omega
   .exact h1
  .intro hz;rcases Aw.1 ((h z).2 (Av _ hz)) with rfl | h1
   .have:=d.1 z hz;omega
   .exact h1
def T4(l:a6)(now:Int):yG l now=rE now l []:=by refine aLO (aD0 (vZ s_)) (Z3 s_) λ x=>?_;unfold yG;rw [aBA,LW,OH]
def aGD(l:a6)(now:Int):St (yG l now):=by rw [T4];exact Z3 s_
def MS{l:a6}{now n:Int}:n∈yG l now↔ ∃ x∈l,eZ x=n/\now<n:=by rw [T4,OH];simp
def MF(tick:Int):ax->Int->Int
 | [],f=>f
 | x::r,f=>MF tick r (if x<=tick then x else f)
def yY{tick:Int}:∀ {e:ax} {f:Int},St e->f<=tick->(∀ x∈e,f<x)->f<=MF tick e f/\MF tick e f<=tick/\∀ x∈e,x<=tick->x<=MF tick e f
 | [],f,_,h,_=>⟨Dc _,h,λ x a=>by cases a⟩
 | y::r,f,hs,h,hl=>by
  have hs':=Ck.1 hs;unfold MF;by_cases d:y<=tick
  .rw [if_pos d];obtain ⟨h1,c,h3⟩:=yY (f:=y) hs'.2 d hs'.1;have:=hl y s_;refine ⟨by omega,c,λ x a b=>?_⟩;rcases Aw.1 a with rfl | a
   .exact h1
   .exact h3 x a b
  .rw [if_neg d];obtain ⟨h1,c,h3⟩:=yY (f:=f) hs'.2 h λ x a=>hl x (by simp [a]);refine ⟨h1,c,λ x a b=>?_⟩;rcases Aw.1 a with rfl | a
   .omega
   .exact h3 x a b
def aQc{l:a6}{now tick:Int}(h:now<=tick):atL l (MF tick (yG l now) now)=atL l tick:=by
 obtain ⟨h1,d,h3⟩:=yY (tick:=tick) (f:=now) (aGD l now) h λ x a=>by obtain ⟨_,_,_,h⟩:=MS.1 a;exact h
 unfold atL;refine Lq λ x a=>?_;by_cases b:tick<eZ x
 .rw [decide_eq_true b,decide_eq_true o_]
 .rw [decide_eq_false b,decide_eq_false];intro c;have:=h3 (eZ x) (MS.2 ⟨x,a,rfl,by omega⟩) o_;omega
end Go.Proofs.YtidhfoefaomodaaGreatDoor
