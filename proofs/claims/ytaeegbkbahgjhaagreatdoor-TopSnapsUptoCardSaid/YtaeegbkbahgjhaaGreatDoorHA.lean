/- Part 6 of what the statement rests on. -/
import Derived.Test.YtaeegbkbahgjhaaGreatDoorProg
import Derived.Shelf.Sort.Plain
import Derived.Shelf.Slices.In.SortNone
import Derived.Test.YtaeegbkbahgjhaaGreatDoorWE
set_option linter.all false
set_option maxHeartbeats 1000000
open And renaming intro->Ac
open Bool renaming and_eq_true->Ad,false_and->Gi,false_eq_true->Cp,not_eq_true'->Cw,true_and->Cz
open Exists renaming intro->Ap
open Int renaming le_refl->De,tdiv->Lx,toNat_natCast->Bv,toNat_of_nonneg->Kw
open List renaming all_cons->Kb,append_assoc->Af,append_nil->Ar,drop->Hj,drop_eq_getElem_cons->Ae,drop_eq_nil_of_le->Ah,drop_zero->Cq,filter_congr->Lm,filter_cons_of_neg->Fs,filter_cons_of_pos->Ft,flatMap_cons->Jl,foldl_cons->Bc,getElem?_append_right->Ak,getElem?_eq_getElem->Aa,getElem?_eq_none->Bi,getElem?_eq_some_iff->Ab,getElem?_map->Bg,getElem_mem->Bf,length->Lk,length_append->Ai,length_cons->Al,length_filter_le->Fj,length_map->Cc,length_mergeSort->Mu,length_nil->Bu,length_replicate->Gc,map_append->Bm,map_cons->Bl,map_map->Dw,map_set->Gt,mem_append->Ba,mem_cons->Aw,mem_cons_of_mem->Ay,mem_filter->Fc,mem_map->Ca,mem_or_eq_of_mem_set->Df,mergeSort_perm->Kz,nil_append->Bn,nodup_append->Bt,not_mem_nil->Hk,pairwise_cons->Cb,range->Di,range'->Ij,range'_succ->Ly,range_eq_range'->Ik,range_succ->Mo,replicate->Aj,replicate_succ->Kx,set_append_right->Ha,take->Hy,take_append_of_le_length->Db,take_of_length_le->Ch
open List.cons renaming injEq->Kt
open Nat renaming ble->Fv,div_le_self->Hc,le_refl->Bd,le_trans->Cx,mul_le_mul->Gk,zero_le->Bx
open Option renaming map_eq_some_iff->Cf
open Or renaming inl->Gd
namespace Go.Proofs.YtaeegbkbahgjhaaGreatDoor
open Go Go.AW Go.Proofs
def zqha0{P:Prop}(h:P:=by
 unfold RH at hp;by_cases e:x=t
 .rw [if_pos (decide_eq_true e)] at hp;refine gV ?_;refine To.beginR (k:=7) (gg:=0) rfl rfl b ?_
  repeat' first | (refine gN (hEl k [] [] []) ?_;conv=>whnf) | refine .pure _ [] (JI c a need x d) ?_ | refine .pure _ [] (BT c f a need t x) ?_ | exact ⟨⟨rfl,rfl⟩,⟨rfl,rfl⟩⟩ | exact rfl | refine zt ?_ | refine zu ?_ ?_ | intro h | fail
  all_goals (exfalso;simp_all)
 .rw [if_neg (by rw [decide_eq_false e];decide)] at hp;refine gV ?_;refine To.beginR (k:=7) (gg:=0) rfl rfl b ?_
  repeat' first | (refine gN (hEl k [] [] []) ?_;conv=>whnf) | refine .pure _ [] (JI c a need x d) ?_ | refine .pure _ [] (BT c f a need t x) ?_ | exact ⟨⟨rfl,rfl⟩,⟨rfl,rfl⟩⟩ | exact rfl | refine zt ?_ | refine zu ?_ ?_ | intro h | fail
  all_goals (exfalso;simp_all)):P:=h
def zqha1{P:Prop}(h:P:=by
 refine gV ?_;refine ⟨i,rfl,gV ?_⟩;refine ⟨by omega,gV ?_⟩;refine ⟨by omega,?_⟩
 exact zW):P:=h
def zqha2{P:Prop}(h:P:=by
 refine ⟨ii n,1,gV ?_⟩
 exact zW):P:=h
def zqha3{P:Prop}(h:P:=by
 refine gV ?_;refine To.beginR (k:=4) (gg:=0) rfl rfl b ?_
 exact zW):P:=h
def zqha4{P:Prop}(h:P:=by
 have c:(iv a).length=a.length:=by simp
 have e:iv (a++[x])=iv a++[ii x]:=by simp
 unfold tY;rw [e];refine gV ?_;refine To.beginR (k:=2) (gg:=0) rfl rfl b ?_
 exact zW):P:=h
def zqha5{P:Prop}(h:P:=by
 have hl:=CK a k 0;have b:k=N:=o_;subst b;have e:rp a k 0=iv (Aj k a):=by simp [rp]
 rw [e] at hl⊢;refine gV ?_
 exact zW):P:=h
def zqha6{P:Prop}(h:P:=by
 refine c_ Tryz.f88 λ_=>gV ?_;refine .inr ?_
 exact zW):P:=h
def zqha7{P:Prop}(h:P:=by exact c_ Tryz.f123 λ_=>zW):P:=h
def zqha8{P:Prop}(h:P:=by
 rintro (h | h | h)
 .exact .inr (.inl h)
 .exact .inl h
 .exact .inr (.inr h)):P:=h
def zqha9{P:Prop}(h:P:=by
 refine gV ?_;refine .sole rfl (.eff [] [0,1] _ _ rfl (put_ok c x _ L) ?_)
 exact zW):P:=h
def zqha10{P:Prop}(h:P:=by
 rw [if_pos (show (some x).isSome=true from rfl)] at a;subst a
 exact zW):P:=h
def zqha11{P:Prop}(h:P:=by exact c_ Tryz.f226 λ_=>zW):P:=h
abbrev _root_.aq:=aA Tryz.prog
noncomputable def T0:Tab:=[
 (3,.mk (.int .i64) 1 false (.int .i64 0)),
 (201,.mk (.ptr 5) 1 false .nilptr),
 (4,.mk .bool 1 false (.bool false)),
 (32,.mk (.arr 3 1 false) 3 true (.agg [.int .i64 0,.int .i64 0,.int .i64 0])),
 (30,.mk (.strct [(0,1,false),(1,1,false),(2,1,false),(3,1,false)]) 4 true (.agg [.slice 11 [] .nil,.slice 6 [] .nil,.int .i64 0,.int .i64 0])),
 (27,.mk (.slc 89 11 88) 1 false (.slice 11 [] .nil)),
 (89,.mk (.strct [(0,1,false),(1,1,false),(2,3,true),(5,3,true),(8,3,true)]) 11 true (.agg [.int .i64 0,.int .i64 0,.int .i64 0,.int .i64 0,.int .i64 0,.int .i64 0,.int .i64 0,.int .i64 0,.int .i64 0,.int .i64 0,.int .i64 0])),
 (66,.mk (.slc 3 1 8) 1 false (.slice 1 [] .nil)),
 (245,.mk (.slc 32 3 24) 1 false (.slice 3 [] .nil)),
 (34,.mk (.strct [(0,1,false),(1,1,false),(2,1,false),(3,3,true),(6,1,false),(7,1,false),(8,1,false)]) 9 true (.agg [.int .i64 0,.int .i64 0,.int .i64 0,.int .i64 0,.int .i64 0,.int .i64 0,.int .i64 0,.int .i64 0,.int .i64 0])),
 (46,.mk (.slc 68 14 128) 1 false (.slice 14 [] .nil)),
 (68,.mk (.strct [(0,9,true),(9,1,false),(10,1,false),(11,1,false),(12,1,false),(13,1,false)]) 14 true (.agg [.int .i64 0,.int .i64 0,.int .i64 0,.int .i64 0,.int .i64 0,.int .i64 0,.int .i64 0,.int .i64 0,.int .i64 0,.int .i64 0,.int .i64 0,.int .i64 0,.int .i64 0,.slice 1 [] .nil])),
 (28,.mk (.slc 91 6 48) 1 false (.slice 6 [] .nil)),
 (91,.mk (.strct [(0,1,false),(1,1,false),(2,1,false),(3,3,true)]) 6 true (.agg [.int .i64 0,.int .i64 0,.int .i64 0,.int .i64 0,.int .i64 0,.int .i64 0])),
 (1,.mk .other 1 false .nilfunc),
 (5,.mk (.int .u8) 1 false (.int .u8 0)),
 (6,.mk (.int .u8) 1 false (.int .u8 0)),
 (8,.mk (.strct [(0,1,false),(1,1,false),(2,1,false),(3,1,false)]) 4 true (.agg [.int .i64 0,.int .i64 0,.bool false,.int .u8 0])),
 (9,.mk .str 1 false (.str [])),
 (11,.mk .str 1 false (.str [])),
 (14,.mk (.strct [(0,1,false),(1,1,false)]) 2 true (.agg [.str [],.int .u64 0])),
 (16,.mk (.ptr 404) 1 false .nilptr),
 (17,.mk (.ptr 411) 1 false .nilptr),
 (20,.mk .iface 1 false .nilif),
 (45,.mk (.slc 79 11 88) 1 false (.slice 11 [] .nil)),
 (47,.mk (.slc 82 1 8) 1 false (.slice 1 [] .nil)),
 (49,.mk (.strct [(0,4,true),(4,1,false),(5,1,false),(6,1,false),(7,1,false),(8,1,false)]) 9 true (.agg [.slice 11 [] .nil,.slice 6 [] .nil,.int .i64 0,.int .i64 0,.int .i64 0,.int .i64 0,.slice 11 [] .nil,.slice 14 [] .nil,.slice 1 [] .nil])),
 (40,.mk (.slc 52 3 24) 1 false (.slice 3 [] .nil)),
 (52,.mk (.strct [(0,1,false),(1,1,false),(2,1,false)]) 3 true (.agg [.int .i64 0,.int .i64 0,.int .i64 0])),
 (79,.mk (.strct [(0,9,true),(9,1,false),(10,1,false)]) 11 true (.agg [.int .i64 0,.int .i64 0,.int .i64 0,.int .i64 0,.int .i64 0,.int .i64 0,.int .i64 0,.int .i64 0,.int .i64 0,.int .i64 0,.int .i64 0])),
 (22,.mk (.slc 38 17 168) 1 false (.slice 17 [] .nil)),
 (23,.mk (.ptr 58) 1 false .nilptr),
 (36,.mk (.strct [(0,1,false),(1,4,true),(5,9,true),(14,1,false)]) 15 true (.agg [.int .i64 0,.slice 11 [] .nil,.slice 6 [] .nil,.int .i64 0,.int .i64 0,.int .i64 0,.int .i64 0,.int .i64 0,.int .i64 0,.int .i64 0,.int .i64 0,.int .i64 0,.int .i64 0,.int .i64 0,.int .i64 0])),
 (38,.mk (.strct [(0,1,false),(1,15,true),(16,1,false)]) 17 true (.agg [.int .i64 0,.int .i64 0,.slice 11 [] .nil,.slice 6 [] .nil,.int .i64 0,.int .i64 0,.int .i64 0,.int .i64 0,.int .i64 0,.int .i64 0,.int .i64 0,.int .i64 0,.int .i64 0,.int .i64 0,.int .i64 0,.int .i64 0,.int .i64 0])),
 (39,.mk (.int .i64) 1 false (.int .i64 0)),
 (42,.mk (.strct [(0,1,false),(1,1,false)]) 2 true (.agg [.int .i64 0,.slice 3 [] .nil])),
 (54,.mk (.ptr 85) 1 false .nilptr),
 (56,.mk (.ptr 96) 1 false .nilptr),
 (61,.mk (.slc 42 2 32) 1 false (.slice 2 [] .nil)),
 (140,.mk .other 1 false .nilfunc),
 (102,.mk (.slc 9 1 16) 1 false (.slice 1 [] .nil)),
 (185,.mk (.ptr 187) 1 false .nilptr),
 (187,.mk (.strct [(0,9,true),(9,1,false),(10,1,false),(11,1,false)]) 12 true (.agg [.slice 11 [] .nil,.slice 6 [] .nil,.int .i64 0,.int .i64 0,.int .i64 0,.int .i64 0,.slice 11 [] .nil,.slice 14 [] .nil,.slice 1 [] .nil,.slice 3 [] .nil,.bool false,.int .i64 0])),
 (58,.mk (.strct [(0,1,false),(1,1,false)]) 2 true (.agg [.nilptr,.nilptr])),
 (76,.mk .other 1 false .nilfunc),
 (80,.mk .other 1 false .nilfunc),
 (81,.mk (.int .u64) 1 false (.int .u64 0)),
 (82,.mk (.int .u64) 1 false (.int .u64 0)),
 (83,.mk (.slc 5 1 1) 1 false (.slice 1 [] .nil)),
 (85,.mk (.strct [(0,1,false),(1,1,false),(2,1,false),(3,1,false)]) 4 true (.agg [.int .i64 0,.slice 1 [] .nil,.slice 1 [] .nil,.bool false])),
 (94,.mk (.ptr 137) 1 false .nilptr),
 (110,.mk .iface 1 false .nilif),
 (96,.mk (.strct [(0,1,false),(1,9,true)]) 10 true (.agg [.nilptr,.slice 11 [] .nil,.slice 6 [] .nil,.int .i64 0,.int .i64 0,.int .i64 0,.int .i64 0,.slice 11 [] .nil,.slice 14 [] .nil,.slice 1 [] .nil])),
 (202,.mk .other 1 false .nilfunc),
 (141,.mk (.ptr 146) 1 false .nilptr),
 (142,.mk (.ptr 144) 1 false .nilptr),
 (144,.mk (.strct [(0,1,false),(1,1,false)]) 2 true (.agg [.nilptr,.slice 1 [] .nil])),
 (146,.mk (.strct [(0,2,true)]) 2 true (.agg [.nilptr,.slice 1 [] .nil])),
 (277,.mk (.ptr 279) 1 false .nilptr),
 (279,.mk (.strct [(0,1,false)]) 1 true (.agg [.str []])),
 (194,.mk (.ptr 196) 1 false .nilptr),
 (196,.mk (.strct [(0,2,true)]) 2 true (.agg [.nilptr,.slice 1 [] .nil])),
 (249,.mk .other 1 false .nilfunc),
 (250,.mk .other 1 false .nilfunc),
 (251,.mk (.ptr 254) 1 false .nilptr),
 (254,.mk (.strct [(0,9,true)]) 9 true (.agg [.slice 11 [] .nil,.slice 6 [] .nil,.int .i64 0,.int .i64 0,.int .i64 0,.int .i64 0,.slice 11 [] .nil,.slice 14 [] .nil,.slice 1 [] .nil])),
 (231,.mk .other 1 false .nilfunc),
 (314,.mk .other 1 false .nilfunc),
 (326,.mk (.strct [(0,1,false)]) 1 true (.agg [.nilfunc])),
 (329,.mk .other 1 false .nilfunc),
 (330,.mk .other 1 false .nilfunc),
 (300,.mk (.ptr 339) 1 false .nilptr),
 (271,.mk .other 1 false .nilfunc),
 (333,.mk (.slc 66 1 24) 1 false (.slice 1 [] .nil)),
 (137,.mk (.strct [(0,1,false),(1,1,false)]) 2 true (.agg [.nilptr,.int .i64 0])),
 (158,.mk .iface 1 false .nilif),
 (117,.mk (.strct [(0,4,true)]) 4 true (.agg [.slice 11 [] .nil,.slice 6 [] .nil,.int .i64 0,.int .i64 0])),
 (119,.mk (.ptr 49) 1 false .nilptr),
 (121,.mk (.strct [(0,9,true)]) 9 true (.agg [.int .i64 0,.int .i64 0,.int .i64 0,.int .i64 0,.int .i64 0,.int .i64 0,.int .i64 0,.int .i64 0,.int .i64 0])),
 (124,.mk (.strct [(0,1,false)]) 1 true (.agg [.int .i64 0])),
 (126,.mk (.strct [(0,1,false)]) 1 true (.agg [.int .i64 0])),
 (130,.mk (.strct [(0,1,false)]) 1 true (.agg [.int .i64 0])),
 (133,.mk (.strct []) 0 true (.agg [])),
 (167,.mk (.ptr 39) 1 false .nilptr),
 (305,.mk .other 1 false .nilfunc),
 (310,.mk .other 1 false .nilfunc),
 (233,.mk .other 1 false .nilfunc),
 (287,.mk .other 1 false .nilfunc),
 (337,.mk (.mp 3 32) 1 false .nilmap),
 (339,.mk (.strct [(0,4,true),(4,1,false)]) 5 true (.agg [.slice 11 [] .nil,.slice 6 [] .nil,.int .i64 0,.int .i64 0,.nilmap])),
 (363,.mk (.mp 365 3) 1 false .nilmap),
 (365,.mk (.strct [(0,1,false),(1,1,false),(2,1,false),(3,1,false)]) 4 true (.agg [.int .i64 0,.int .i64 0,.int .i64 0,.int .i64 0])),
 (192,.mk (.int .u32) 1 false (.int .u32 0)),
 (230,.mk (.strct [(0,9,true),(9,1,false),(10,1,false)]) 11 true (.agg [.int .i64 0,.int .i64 0,.int .i64 0,.int .i64 0,.int .i64 0,.int .i64 0,.int .i64 0,.int .i64 0,.int .i64 0,.int .i64 0,.int .i64 0])),
 (263,.mk (.mp 3 4) 1 false .nilmap),
 (264,.mk (.slc 20 1 16) 1 false (.slice 1 [] .nil)),
 (261,.mk (.int .u64) 1 false (.int .u64 0)),
 (273,.mk .other 1 false .nilptr),
 (222,.mk (.strct [(0,1,false)]) 1 true (.agg [.int .i64 0])),
 (347,.mk (.ptr 349) 1 false .nilptr),
 (349,.mk (.strct [(0,1,false),(1,1,false)]) 2 true (.agg [.slice 14 [] .nil,.nilfunc])),
 (353,.mk (.slc 355 1 8) 1 false (.slice 1 [] .nil)),
 (355,.mk (.arr 1 1 false) 1 true (.agg [.int .i64 0])),
 (357,.mk .other 1 false .nilfunc),
 (226,.mk .other 1 false .nilfunc),
 (242,.mk .other 1 false .nilfunc),
 (248,.mk .other 1 false .nilfunc),
 (289,.mk .iface 1 false .nilif),
 (294,.mk (.arr 16 1 false) 16 true (.agg [.int .u64 0,.int .u64 0,.int .u64 0,.int .u64 0,.int .u64 0,.int .u64 0,.int .u64 0,.int .u64 0,.int .u64 0,.int .u64 0,.int .u64 0,.int .u64 0,.int .u64 0,.int .u64 0,.int .u64 0,.int .u64 0])),
 (358,.mk (.mp 3 3) 1 false .nilmap),
 (404,.mk (.strct [(0,0,true)]) 0 true (.agg [])),
 (411,.mk (.strct [(0,1,false),(1,1,false),(2,1,false),(3,1,false),(4,1,false),(5,1,false),(6,1,false),(7,1,false),(8,1,false),(9,1,false),(10,1,false)]) 11 true (.agg [.int .u64 0,.int .u64 0,.int .u32 0,.int .u8 0,.int .u8 0,.int .u8 0,.int .u8 0,.nilfunc,.nilptr,.int .i32 0,.int .i32 0]))]
def F0:List (Nat×Nat):=[(31,3),(32,3),(33,9),(34,9),(88,11),(89,11),(90,6),(91,6),(354,1),(355,1),(364,4),(365,4),(78,11),(79,11),(230,11),(52,3),(51,3)]
def M0:aEO:=[(230,"tithebarn/queue.id",314),(230,"tithebarn/queue.seq",315)]
noncomputable def E:Env:={P:=Tryz.prog,T:=T0,mt:=M0,fl:=F0,own:=[],rws:=[],bl:=[],df:=[]}
def hE:ae E where
 mix:=by kernel_rfl
 tab:=QG (by kernel_rfl) (by kernel_rfl)
 mth:=AN.cons (λ v w=>by kernel_rfl) (AN.cons (λ v w=>by kernel_rfl) AN.nil)
 fl:=ON (by kernel_rfl)
noncomputable def Er(l b:az):Env:={E with rws:=l,bl:=b}
def hEr(l b:az):ae (Er l b):=⟨hE.mix,hE.tab,hE.mth,hE.fl⟩
noncomputable def Eo(l b:az):Env:={E with own:=l,bl:=b}
def hEo(l b:az):ae (Eo l b):=⟨hE.mix,hE.tab,hE.mth,hE.fl⟩
noncomputable def Ed(df:List (Nat×ay)):Env:={E with df:=df}
def hEd(df:List (Nat×ay)):ae (Ed df):=⟨hE.mix,hE.tab,hE.mth,hE.fl⟩
noncomputable def Ex(o r b:az):Env:={E with own:=o,rws:=r,bl:=b}
def hEx(o r b:az):ae (Ex o r b):=⟨hE.mix,hE.tab,hE.mth,hE.fl⟩
noncomputable def El(l:Nat)(o r b:az):Env:={Ex o r b with rd:=some l}
def hEl(l:Nat)(o r b:az):ae (El l o r b):=⟨hE.mix,hE.tab,hE.mth,hE.fl⟩
def c_(fn:Func){f:FuncId}{args:ay}{r:Res}(h:okL args->To E fn (.pure r) (.code [.code (dA fn)] (frA 0 args) []))(k:Tryz.prog.funcs[f]? =some fn:=by rfl)(i:fn.body=some (dA fn):=by rfl)(a:nP Tryz.prog f:=by exact λ_ _=>by rfl)(e:cZ fn.ntmps (dA fn)=true:=by decide+kernel)(j:Fv args.length fn.ntmps=true:=by rfl):aA Tryz.prog f args [] r []:=cT (E:=E) (g:=.pure r) h rfl k i a e j rfl rfl rfl
structure V3 where
 (a b c:Int)
 deriving DecidableEq
abbrev _root_.a8:=List V3
structure Nod where
 (p w:Int)
 (n b l:V3)
 deriving DecidableEq
abbrev _root_.bc:=List Nod
structure Hos where
 (f b r:Int)
 (c:V3)
 deriving DecidableEq
structure Con where
 ns:bc
 hs:List Hos
 (half age:Int)
 deriving DecidableEq
structure Gan where
 (id ten pods:Int)
 need:V3
 (run lev pref:Int)
 deriving DecidableEq
abbrev ii(n:Int):aa:=.int .i64 n
def V3.cs(v:V3):ay:=[ii v.a,ii v.b,ii v.c]
def Nod.cs(x:Nod):ay:=[ii x.p,ii x.w,ii x.n.a,ii x.n.b,ii x.n.c,ii x.b.a,ii x.b.b,ii x.b.c,ii x.l.a,ii x.l.b,ii x.l.c]
def Nod.av(x:Nod):aa:=.agg x.cs
def Hos.cs(x:Hos):ay:=[ii x.f,ii x.b,ii x.r,ii x.c.a,ii x.c.b,ii x.c.c]
def Hos.av(x:Hos):aa:=.agg x.cs
abbrev nav(l:bc):ay:=l.map Nod.av
abbrev hav(l:List Hos):ay:=l.map Hos.av
def Con.cs(x:Con):ay:=[.slice 11 (nav x.ns) .no,.slice 6 (hav x.hs) .no,ii x.half,ii x.age]
def Con.av(x:Con):aa:=.agg x.cs
def Gan.cs(x:Gan):ay:=[ii x.id,ii x.ten,ii x.pods,ii x.need.a,ii x.need.b,ii x.need.c,ii x.run,ii x.lev,ii x.pref]
def Gan.av(x:Gan):aa:=.agg x.cs
abbrev iv(l:aw):ay:=l.map ii
def V3.zero:V3:=⟨0,0,0⟩
def V3.av(v:V3):aa:=.agg v.cs
abbrev vav(l:a8):ay:=l.map V3.av
def DU{n:Int}(h1: -9223372036854775808<=n)(a:n<=9223372036854775807):inR .i64 n:=⟨by simp only [cJ];omega,by simp only [bE];omega⟩
def kX{l:bc}{i:Nat}(h:i<l.length):(nav l)[i]? =some l[i].av:=by simp [nav,h]
def wU{l:List Hos}{i:Nat}(h:i<l.length):(hav l)[i]? =some l[i].av:=by simp [hav,h]
def gR{l:aw}{i:Nat}(h:i<l.length):(iv l)[i]? =some (ii l[i]):=by simp [iv,h]
def cD{M:Imm}{ob:Hs}{v:Value}{cs:ay}(h:Rep M ob v (.agg cs))(i:Nat)(a:aa)(c:cs[i]? =some a):okA a:=by
 obtain ⟨vs,_,hl,d⟩:=h.agg_inv;have b:i<vs.length:=by rw [hl];exact (Ab.1 c).1
 exact (d i _ a (Aa b) c).okA
def aA.get{P:Program}{f:FuncId}{args:ay}{ac ao:au}{r:Res}(Q:Prop)(c:∀ M ob vs,cA M ob vs args->Q)(h:Q->aA P f args ac r ao):aA P f args ac r ao:=
 λ M ob w a hm b=>h (c _ _ _ b) M ob w a hm b
def zY{b:Bool}(h:(!b)=true):b=false:=by cases b<;>first | rfl | cases h
def zZ{b:Bool}(h:(!b)=false):b=true:=by cases b<;>first | rfl | cases h
structure Rn where
 g:Gan
 (seq at' st fl:Int)
 hs:aw
 deriving DecidableEq
abbrev _root_.a6:=List Rn
def Rn.cs(x:Rn):ay:=[ii x.g.id,ii x.g.ten,ii x.g.pods,ii x.g.need.a,ii x.g.need.b,ii x.g.need.c,ii x.g.run,ii x.g.lev,ii x.g.pref,ii x.seq,ii x.at',ii x.st,ii x.fl,.slice 1 (iv x.hs) .no]
def Rn.av(x:Rn):aa:=.agg x.cs
abbrev rav(l:a6):=l.map Rn.av
def dT{l:a6}{i:Nat}(h:i<l.length):(rav l)[i]? =some l[i].av:=by simp [rav,h]
def vM{l:a8}{i:Nat}(h:i<l.length):(vav l)[i]? =some l[i].av:=by simp [vav,h]
def aEV{n:Int}(h:9223372036854775807<n)(a:n<=18446744073709551614):IntKind.wrap .i64 n=n-18446744073709551616:=by simp [IntKind.wrap,IntKind.signed,IntKind.bits];omega
def aEU{n:Int}(h:n< -9223372036854775808)(a: -18446744073709551616<=n):IntKind.wrap .i64 n=n+18446744073709551616:=by simp [IntKind.wrap,IntKind.signed,IntKind.bits];omega
set_option maxRecDepth 10000
def hC(n m:Int):Int:=min (max n (0-m)) m
def yP(n m:Int)(h:0<=m): -m<=hC n m/\hC n m<=m:=by unfold hC;omega
def SV(n m:Int)(a:0<=m)(h1:m<=1099511627776):aq 203 [ii n,ii m] [] (.ret (ii (hC n m))) []:=by exact c_ Tryz.f203 λ_=>zW
def jH(x y:Int):Int:=hC (hC x 1099511627776+hC y 1099511627776) 1099511627776
def X3(x y:Int):Int:=hC (hC x 1099511627776-hC y 1099511627776) 1099511627776
def aCr(x n:Int):Int:=hC (hC x 1099511627776*hC n 1048576) 1099511627776
def aMH(x n:Int): -1152921504606846976<=hC x 1099511627776*hC n 1048576/\hC x 1099511627776*hC n 1048576<=1152921504606846976:=by
 have h1:=yP x 1099511627776 d_;have a:=yP n 1048576 d_;have h3:(hC x 1099511627776*hC n 1048576).natAbs<=1099511627776*1048576:=by rw [Int.natAbs_mul];exact Gk o_ o_
 omega
def aI2(x y:Int):aq 202 [ii x,ii y] [] (.ret (ii (jH x y))) []:=by
 have h1:=yP x 1099511627776 d_;have a:=yP y 1099511627776 d_;refine c_ Tryz.f202 λ_=>?_
 repeat' first | (refine gN hE ?_;conv=>whnf) | refine .pure _ [] (SV _ _ d_ d_) ?_ | exact rfl | refine zt ?_ | refine zu ?_ ?_ | intro h | fail
def aFp(x y:Int):aq 247 [ii x,ii y] [] (.ret (ii (X3 x y))) []:=by
 have h1:=yP x 1099511627776 d_;have a:=yP y 1099511627776 d_;refine c_ Tryz.f247 λ_=>?_
 repeat' first | (refine gN hE ?_;conv=>whnf) | refine .pure _ [] (SV _ _ d_ d_) ?_ | exact rfl | refine zt ?_ | refine zu ?_ ?_ | intro h | fail
def aGR(x y n:Int):aq 244 [ii x,ii y,.ptr [ii n]] [] (.ret (ii (aCr x n))) []:=by
 have h1:=aMH x n;refine c_ Tryz.f244 λ_=>?_
 repeat' first | (refine gN hE ?_;conv=>whnf) | refine .pure _ [] (SV _ _ d_ d_) ?_ | exact rfl | refine zt ?_ | refine zu ?_ ?_ | intro h | fail
def V3.map2(op:Int->Int->Int)(a b:V3):V3:=⟨op a.a b.a,op a.b b.b,op a.c b.c⟩
def W3(f:FuncId)(op:Int->Int->Int)(a b:V3)(h:∀ x y,aA Tryz.prog f [ii x,ii y] [] (.ret (ii (op x y))) []):aq 201 [a.av,b.av,.func (.func f) [] []] [] (.ret (V3.map2 op a b).av) []:=by
  refine c_ Tryz.f201 λ_=>gV ?_
  repeat' first
   | (refine gW hE ?_;conv=>whnf)
   | refine .pure _ [] (h _ _) ?_
   | exact rfl
   | refine aY ?_
   | refine aN ?_
   | refine aJ ?_
   | refine Ap _ (Ac rfl ?_)
   | refine Ac d_ ?_
def aDW(f:FuncId)(op:Int->Int->Int)(n:Int)(a b:V3)(h:∀ x y,aA Tryz.prog f [ii x,ii y,.ptr [ii n]] [] (.ret (ii (op x y))) []):aq 201 [a.av,b.av,.func (.func f) [] [.ptr [ii n]]] [] (.ret (V3.map2 op a b).av) []:=by
  refine c_ Tryz.f201 λ_=>gV ?_
  repeat' first
   | (refine gW hE ?_;conv=>whnf)
   | refine .pure _ [] (h _ _) ?_
   | exact rfl
   | refine aY ?_
   | refine aN ?_
   | refine aJ ?_
   | refine Ap _ (Ac rfl ?_)
   | refine Ac d_ ?_
def fQ(a b:V3):V3:=V3.map2 jH a b
def E9(a b:V3):V3:=V3.map2 X3 a b
def aL4(a:V3)(n:Int):V3:=V3.map2 (λ x _=>aCr x n) a a
def iN(a b:V3):aq 152 [a.av,b.av] [] (.ret (fQ a b).av) []:=by refine c_ Tryz.f152 λ_=>?_;have c:=W3 _ jH a b aI2;exact zW
def IM(a b:V3):aq 215 [a.av,b.av] [] (.ret (E9 a b).av) []:=by refine c_ Tryz.f215 λ_=>?_;have c:=W3 _ X3 a b aFp;exact zW
def aEZ(a:V3)(n:Int):aq 212 [a.av,ii n] [] (.ret (aL4 a n).av) []:=by refine c_ Tryz.f212 λ_=>?_;have b:=aDW _ (λ x _=>aCr x n) n a a λ x y=>aGR x y n;exact zW
def cS(a b:V3):Bool:=if decide (b.a<a.a)=true then false else if decide (b.b<a.b)=true then false else if decide (b.c<a.c)=true then false else true
abbrev aKs(n:Int):aa:=.func (.func 168) [] [.ptr [ii n]]
def aKr(x:Nod)(n:Int):aq 168 [x.av,.ptr [ii n]] [] (.ret (.bool (decide (x.p=n)))) []:=by exact c_ Tryz.f168 λ_=>zW
def ak(n:Int):bc->Nat->Int
 | [],_=> -1
 | x::r,i=>if decide (x.p=n)=true then (i:Int) else ak n r (i+1)
noncomputable abbrev aJh:Func:=Tryz.f209
def ZB(l:bc)(n:Int)(hl:((nav l).length:Int)<=9223372036854775807)(r:Int):∀ (m i:Nat),i+m=l.length->ak n (l.drop i) i=r->
  To E aJh (.pure (.ret (ii r))) (.head (stk aJh 0) [(0,.slice 11 (nav l) .no),(1,aKs n),(7,.int .i64 ((nav l).length:Nat)),(8,.int .i64 i)] []):=by
 have c:(nav l).length=l.length:=by simp
 intro m;induction m with
 | zero=>
  intro i g a;rw [Ah o_] at a;subst a;refine gV ?_;exact zW
 | succ m e=>
  intro i g a;have b:i<l.length:=o_;rw [Ae b] at a;generalize f:l[i]=x at a;have get:(nav l)[i]? =some x.av:=(kX b).trans (by rw [f]);unfold ak at a;refine gV ?_;refine aT λ h=>?_
  repeat' first | (refine gN hE ?_;conv=>whnf) | refine ⟨_,get,?_⟩ | refine .pure _ [] (aKr x n) ?_ | exact rfl | refine zt ?_ | refine zu ?_ ?_ | intro h | fail
  .have h:decide (x.p=n)=true:=h;rw [if_pos h] at a;rw [<-a]
  .have h:decide (x.p=n)=false:=h;rw [if_neg (by rw [h];decide)] at a;have d:=e (i+1) o_ a;exact zW
def aHo(l:bc)(n:Int):aq 209 [.slice 11 (nav l) .no,aKs n] [] (.ret (ii (ak n l 0))) []:=by refine c_ Tryz.f209 λ b=>?_;have hl:((nav l).length:Int)<=9223372036854775807:=b.1;have a:=ZB l n hl _ l.length 0 o_ rfl;exact zW
def aHs(l:bc)(n:Int):aq 167 [.slice 11 (nav l) .no,aKs n] [] (.ret (.bool (decide (0<=ak n l 0)))) []:=by refine c_ Tryz.f167 λ_=>?_;have a:=aHo l n;exact zW
def bD(ns:bc)(n:Int):Bool:=if decide (0<=n)=true then (if decide (n<(ns.length:Int))=true then !decide (0<=ak n ns 0) else false) else false
def W8(c:Con)(M:Imm)(ob:Hs)(vs:ba)(h:cA M ob vs [c.av]):((nav c.ns).length:Int)<=9223372036854775807/\((hav c.hs).length:Int)<=9223372036854775807:=by
 have hl:0<vs.length:=by rw [h.1];simp
 have:=h.2 0 _ c.av (Aa hl) rfl;exact ⟨cD this 0 _ rfl,cD this 1 _ rfl⟩
def aCD(c:Con)(n:Int)(r:Bool)(b:bD c.ns n=r):aq 117 [c.av,ii n] [] (.ret (.bool r)) []:=by
 have d:(nav c.ns).length=c.ns.length:=by simp
 unfold bD at b;refine c_ Tryz.f117 λ_=>gV ?_;refine Ac (λ h1=>?_) (λ h1=>?_)
 .have h1:decide (0<=n)=true:=h1;rw [if_pos h1] at b;refine gV ?_;refine Ac (λ a=>?_) (λ a=>?_)
  .have a:decide (n<((nav c.ns).length:Int))=true:=a;rw [d] at a;rw [if_pos a] at b
   repeat' first | (refine gN hE ?_;conv=>whnf) | refine .pure _ [] (aHs c.ns n) ?_ | exact rfl | refine zt ?_ | refine zu ?_ ?_ | intro h | fail
   rw [<-b]
  .have a:decide (n<((nav c.ns).length:Int))=false:=a;rw [d] at a;rw [if_neg (by rw [a];decide)] at b
   repeat' first | (refine gN hE ?_;conv=>whnf) | exact rfl | refine zt ?_ | refine zu ?_ ?_ | intro h | fail
   rw [<-b]
 .have h1:decide (0<=n)=false:=h1;rw [if_neg (by rw [h1];decide)] at b
  repeat' first | (refine gN hE ?_;conv=>whnf) | exact rfl | refine zt ?_ | refine zu ?_ ?_ | intro h | fail
  rw [<-b]
def jW(c:Con)(n:Int):aq 117 [c.av,ii n] [] (.ret (.bool (bD c.ns n))) []:=aCD c n _ rfl
inductive Ylds(P:Program)(l:Nat):aw->BInv->BInv->Bool->Prop
 | nil (I:BInv):Ylds P l [] I I true
 | stop (x:Int) (r:aw) (I I':BInv) (h:bH P (.yield l) [ii x] [.bun 0 I] (.ret (.bool false)) [.bun 1 I']):Ylds P l (x::r) I I' false
 | next (x:Int) (r:aw) (I I1 I2:BInv) (b:Bool) (h:bH P (.yield l) [ii x] [.bun 0 I] (.ret (.bool true)) [.bun 1 I1]) (k:Ylds P l r I1 I2 b):Ylds P l (x::r) I I2 b
def upF(ns:bc):Nat->Int->aw
 | 0,_=>[]
 | f+1,n=>if decide (0<=n)=true then (if h:n.toNat<ns.length then (if decide (n<=(ns[n.toNat]).p)=true then [n] else n::upF ns f (ns[n.toNat]).p) else []) else []
def upL(ns:bc)(n:Int):aw:=upF ns (n.toNat+1) n
noncomputable abbrev aHG:Func:=Tryz.f243
def aAG(l:Nat)(c:Con)(hl:((nav c.ns).length:Int)<=9223372036854775807)(k:BInv)(b:Bool):∀ (f:Nat) (n:Int),n<(f:Int)->∀ (I:BInv),Ylds Tryz.prog l (upF c.ns f n) I k b->
  ∃ m j,To E aHG (.full 2 (.ret (.tup [])) [.cells 3 [m],.bun j k]) (.head (stk aHG 0) [(0,.func (.yield l) [] []),(1,.ref 0 0),(2,.ptr c.cs)] [.cells 3 [ii n],.bun 1 I]):=by
 have o:(nav c.ns).length=c.ns.length:=by simp
 intro f;induction f with
 | zero=>
  intro n s I a;have h1:¬ 0<=n:=o_;cases a;exact zqha2
 | succ f h=>
  intro n s I a;have q:=λ(p:Int) (hp:¬ n<=p) (e:BInv) (h1:Ylds Tryz.prog l (upF c.ns f p) e k b)=>h p o_ e h1;unfold upF at a;by_cases h1:0<=n
  .rw [if_pos (decide_eq_true h1)] at a;by_cases g:n.toNat<c.ns.length
   .rw [dif_pos g] at a;generalize r:c.ns[n.toNat]=x at a;have get:(nav c.ns)[n.toNat]? =some x.av:=(kX g).trans (by rw [r]);have v:n=(n.toNat:Int):=o_;by_cases h3:n<=x.p
    .rw [if_pos (decide_eq_true h3)] at a;cases a with
     | stop _ _ _ _ d=>
      exact zqha2
     | next _ _ _ e _ _ d i=>
      cases i;exact zqha2
    .rw [if_neg (by rw [decide_eq_false h3];decide)] at a;cases a with
     | stop _ _ _ _ d=>
      exact zqha2
     | next _ _ _ e _ _ d i=>
      obtain ⟨m,j,u⟩:=q x.p o_ _ i;refine ⟨m,j,gV ?_⟩;exact zW
   .rw [dif_neg g] at a;cases a;exact zqha2
  .rw [if_neg (by rw [decide_eq_false h1];decide)] at a;cases a;exact zqha2
def XT(l:Nat)(c:Con)(n:Int)(I e:BInv)(b:Bool)(hl:((nav c.ns).length:Int)<=9223372036854775807)(a:Ylds Tryz.prog l (upL c.ns n) I e b):
  ∃ m i,To E aHG (.full 2 (.ret (.tup [])) [.cells 3 [m],.bun i e]) (.head (stk aHG 0) [(0,.func (.yield l) [] []),(1,.ref 0 0),(2,.ptr c.cs)] [.cells 3 [ii n],.bun 0 I]):=by
 have j:(nav c.ns).length=c.ns.length:=by simp
 unfold upL at a;have k:=λ(p:Int) (hp:¬ n<=p) (f:BInv) (h1:Ylds Tryz.prog l (upF c.ns n.toNat p) f e b)=>aAG l c hl e b n.toNat p o_ f h1;unfold upF at a;by_cases h1:0<=n
 .rw [if_pos (decide_eq_true h1)] at a;by_cases g:n.toNat<c.ns.length
  .rw [dif_pos g] at a;generalize o:c.ns[n.toNat]=x at a;have get:(nav c.ns)[n.toNat]? =some x.av:=(kX g).trans (by rw [o]);have r:n=(n.toNat:Int):=o_;by_cases h3:n<=x.p
   .rw [if_pos (decide_eq_true h3)] at a;cases a with
    | stop _ _ _ _ d=>
     exact zqha2
    | next _ _ _ f _ _ d h=>
     cases h;exact zqha2
   .rw [if_neg (by rw [decide_eq_false h3];decide)] at a;cases a with
    | stop _ _ _ _ d=>
     exact zqha2
    | next _ _ _ f _ _ d h=>
     obtain ⟨m,i,q⟩:=k x.p o_ _ h;refine ⟨m,i,gV ?_⟩;exact zW
  .rw [dif_neg g] at a;cases a;refine ⟨ii n,0,gV ?_⟩;exact zW
 .rw [if_neg (by rw [decide_eq_false h1];decide)] at a;cases a;refine ⟨ii n,0,gV ?_⟩;exact zW
def IQ(l:Nat)(c:Con)(n:Int)(I d:BInv)(b:Bool)(hl:((nav c.ns).length:Int)<=9223372036854775807)(e:Ylds Tryz.prog l (upL c.ns n) I d b):∃ m a,aq 243 [.func (.yield l) [] [],.ref 0 0,.ptr c.cs] [.cells 3 [ii n],.bun 0 I] (.ret (.tup [])) [.cells 3 [m],.bun a d]:=by obtain ⟨m,a,h⟩:=XT l c n I d b hl e;refine ⟨m,a,?_⟩;refine cT (E:=E) (fn:=Tryz.f243) (g:=.full 2 _ _) λ_=>?_;exact zW
def TY(c:Con)(n:Int):aq 211 [c.av,ii n] [] (.ret (.func (.func 243) [] [.ref 0 0,.ptr c.cs])) [.cells 3 [ii n]]:=by refine cT (E:=E) (fn:=Tryz.f211) (g:=.full 0 _ _) λ_=>gV ?_;refine ⟨[0],[1],⟨rfl,rfl⟩,?_⟩;exact ⟨rfl,rfl⟩
abbrev Led:=List (Int×V3)
def led(L:Led):List (aw×aa):=L.map λ p=>([p.1],p.2.av)
def iT:Led->Int->Option V3
 | [],_=>none
 | (k,v)::r,n=>if k=n then some v else iT r n
def xZ:Led->Int->V3->Led
 | [],n,v=>[(n,v)]
 | (k,w)::r,n,v=>if k=n then (n,v)::r else (k,w)::xZ r n v
def DL:Led->Int->Led
 | [],_=>[]
 | (k,w)::r,n=>if k=n then r else (k,w)::DL r n
def DH(n:Int):∀ (L:Led),bR (led L) [n]=(iT L n).map V3.av
 | []=>rfl
 | (k,v)::r=>by
  have:=DH n r;simp only [led,Bl,bR,iT,Kt,and_true] at this⊢;split
  .rfl
  .exact this
def VF(n:Int)(v:V3):∀ (L:Led),lP (led L) [n] v.av=led (xZ L n v)
 | []=>rfl
 | (k,w)::r=>by
  have:=VF n v r;simp only [led,Bl,lP,xZ,Kt,and_true] at this⊢;split
  .rfl
  .rw [this];rfl
def VG(n:Int):∀ (L:Led),FI (led L) [n]=led (DL L n)
 | []=>rfl
 | (k,w)::r=>by
  have:=VG n r;simp only [led,Bl,FI,DL,Kt,and_true] at this⊢;split
  .rfl
  .rw [this];rfl
def qB(L:Led)(n:Int):V3:=(iT L n).getD V3.zero
def isZ(v:V3):Bool:=(v.a==0)&&((v.b==0)&&((v.c==0)&&true))
def NS(L:Led)(n:Int)(v:V3):Led:=if isZ v=true then DL L n else xZ L n v
abbrev FK(c:Con):ay:=[.slice 11 (nav c.ns) .no,.slice 6 (hav c.hs) .no,ii c.half,ii c.age,.mref 1]
def aGm(c:Con)(n:Int)(v:V3)(L L':Led)(a:NS L n v=L'):aq 218 [.ref 0 0,ii n,v.av] [.cells 339 (FK c),.mp false (led L)] (.ret (.tup [])) [.cells 339 (FK c),.mp false (led L')]:=by
 unfold NS at a;refine cT (E:=E) (fn:=Tryz.f218) (g:=.full 2 _ _) λ_=>gV ?_;refine Ac (λ h1=>?_) (λ h1=>?_)
 .have h1:isZ v=true:=h1;rw [if_pos h1] at a;refine gV ?_;refine ⟨[],[0,1],⟨rfl,rfl⟩,?_⟩;refine ⟨rfl,?_⟩;show [ab.cells _ _,ab.mp false (FI (led L) [n])]=_;rw [VG,a]
 .have h1:isZ v=false:=h1;rw [if_neg (by rw [h1];decide)] at a;refine gV ?_;refine ⟨[],[0,1],⟨rfl,rfl⟩,?_⟩;refine ⟨rfl,?_⟩;show [ab.cells _ _,ab.mp false (lP (led L) [n] v.av)]=_;rw [VF,a]
def put_ok(c:Con)(n:Int)(v:V3)(L:Led):aq 218 [.ref 0 0,ii n,v.av] [.cells 339 (FK c),.mp false (led L)] (.ret (.tup [])) [.cells 339 (FK c),.mp false (led (NS L n v))]:=aGm c n v L _ rfl
def B0{α:Type}{P:Program}{l:Nat}(F:α->BInv)(st:α->Int->α)(h:∀ a x,bH P (.yield l) [ii x] [.bun 0 (F a)] (.ret (.bool true)) [.bun 1 (F (st a x))]):∀ (xs:aw) (a:α),Ylds P l xs (F a) (F (xs.foldl st a)) true
 | [],a=>.nil _
 | x::r,a=>.next x r _ _ _ _ (h a x) (B0 F st h r (st a x))
def yV(v:V3)(L:Led)(x:Int):Led:=NS L x (fQ (qB L x) v)
noncomputable abbrev aHO:Func:=Tryz.f181
def aNz(c:Con):ar:=[(4,.ref 2 0),(6,.ref 3 0),(7,.ref 4 0),(22,.func (.func 243) [] [.ref 5 0,.ptr c.cs])]
def XE(c:Con)(v:V3)(L:Led)(o:ab):au:=[.cells 339 (FK c),.mp false (led L),.cells 300 [.ref 0 0],.cells 32 v.cs,.cells 271 [.func (.func 152) [] []],.dead,o]
def aEo(c:Con)(v:V3)(L:Led)(x:Int)(l:Nat)(R:Loop)(d:R.state= .ready):
  To (El l [] [] []) aHO (.keep 7 (.ret (.bool true)) (XE c v (yV v L x) (.bun 0 (bY l {R with state:=.busy})))) (.code [.code (rfA aHO),.beginR,.code (rfB aHO)] (iE (aNz c) 23 (ii x)) (XE c v L (.bun 0 (bY l R)))):=by
 refine gV ?_;refine To.beginR (k:=6) (gg:=0) rfl rfl d ?_;have a:=DH x L;unfold yV qB;cases b:iT L x with
 | none=>
  rw [b] at a;have a:bR (led L) [x]=none:=a;refine gV ?_;refine ⟨none,a,gV ?_⟩;refine .pure _ [] (iN V3.zero v) ?_;exact zqha9
 | some u=>
  rw [b] at a;have a:bR (led L) [x]=some u.av:=a;refine gV ?_;refine ⟨some u.av,a,gV ?_⟩;refine .pure _ [] (iN u v) ?_;exact zqha9
def TE(c:Con)(t:Int)(v:V3)(L L':Led)(e:Int)(j:bD c.ns t=true->L'=(upL c.ns t).foldl (yV v) L/\e=0)(i:bD c.ns t=false->L'=L/\e=3)(hl:((nav c.ns).length:Int)<=9223372036854775807):
  aq 181 [.ref 0 0,ii t,v.av,.func (.func 152) [] []] [.cells 339 (FK c),.mp false (led L)] (.ret (ii e)) [.cells 339 (FK c),.mp false (led L')]:=by
 refine cT (E:=E) (fn:=Tryz.f181) (g:=.full 2 _ _) λ_=>gV ?_;refine .pure _ [] (jW c t) (gV ?_);refine Ac (λ h1=>?_) (λ h1=>?_)
 .have h1:bD c.ns t=false:=zY h1;obtain ⟨rfl,rfl⟩:=i h1;refine gV ?_;refine ⟨[],[0,1],⟨rfl,rfl⟩,⟨rfl,rfl⟩⟩
 .have h1:bD c.ns t=true:=zZ h1;obtain ⟨rfl,rfl⟩:=j h1;refine gV ?_;refine .pure _ [.cells 3 [ii t]] (TY c t) (gV ?_);refine To.cutC [4,6,7,22] 6 rfl rfl rfl rfl ?_;refine To.range [5] rfl rfl (λ_ _=>by rfl) rfl (λ_ _=>rfl) rfl λ l ob0 R _ a=>?_;obtain ⟨m,h,d⟩:=IQ l c t _ _ true hl (B0 (P:=Tryz.prog) (l:=l) (λ L=>jR ob0 (aNz c) R (XE c v L (.bun 0 (bY l R)))) (yV v) (λ L x=>gT (E:=Ex [] [] []) (fn:=aHO) (k:=6) (n:=7) (p:=23) (gg:=0) (L':=XE c v (yV v L x) (.bun 0 (bY l {R with state:=.busy}))) (b:=true) a.params a.ready a.pend a.assign a.body a.size rfl rfl rfl rfl rfl rfl rfl λ_=>aEo c v L x l R a.ready) (upL c.ns t) L);refine ⟨_,true,_,[.cells 3 [m]],h,d,rfl,rfl,gV ?_⟩;refine ⟨[],[0,1],⟨rfl,rfl⟩,⟨rfl,rfl⟩⟩
structure Con.sm(c:Con):Prop where
 ns:c.ns.length<=1048576
 hs:c.hs.length<=1048576
def aKB(c:Con)(b:c.sm):aq 180 [c.av] [] (.ret (.ref 0 0)) [.cells 339 (FK c),.mp false (led [])]:=by
 have h1:=b.ns;have a:(nav c.ns).length=c.ns.length:=by simp
 refine cT (E:=E) (fn:=Tryz.f180) (g:=.full 0 _ _) λ_=>gV ?_;refine Ac (Ac (by simp only [maxLen];omega) o_) ?_;refine gV ?_;refine ⟨[],[3,2],⟨rfl,rfl⟩,⟨rfl,rfl⟩⟩
def kK(f:Nat->V3)(i m:Nat):a8:=(Di i).map f++Aj m V3.zero
def D9(f:Nat->V3)(i m:Nat):(kK f i m).length=i+m:=by simp [kK]
def D8(f:Nat->V3)(i m:Nat):(vav (kK f i (m+1))).set i (f i).av=vav (kK f (i+1) m):=by
 have h1:(Di i).length=i:=by simp
 unfold kK vav;rw [Mo,Bm,Bm,Bm,Kx,Bl];rw [Ha _ _ s_];simp
def EA(f:Nat->V3)(n:Nat):kK f n 0=(Di n).map f:=by simp [kK]
def yK(f:Nat->V3)(n:Nat):vav (kK f 0 n)=Aj n (aa.agg [ii 0,ii 0,ii 0]):=by simp [kK,vav,V3.av,V3.zero,V3.cs]
noncomputable abbrev aNh:Func:=Tryz.f182
abbrev aCC(c:Con)(L:Led):au:=[.cells 339 (FK c),.mp false (led L)]
def mN(n:Nat)(L:Led):a8:=(Di n).map λ i:Nat=>qB L (i:Int)
def aEH(c:Con)(L:Led)(j:c.ns.length<=1048576)(K:Int)(g:K=(c.ns.length:Nat)):∀ (m i:Nat),i+m=c.ns.length->
  To E aNh (.full 2 (.ret (.slice 3 (vav (mN c.ns.length L)) .no)) (aCC c L)) (.head (stk aNh 0) [(0,.ref 0 0),(3,.row 2 0),(15,.int .i64 K),(16,.int .i64 i)] [.cells 339 (FK c),.mp false (led L),.row 0 3 32 (vav (kK (λ i:Nat=>qB L (i:Int)) i m))]):=by
 intro m;induction m with
 | zero=>
  intro i b;have e:kK (λ i:Nat=>qB L (i:Int)) i 0=mN c.ns.length L:=by rw [EA];unfold mN;rw [<-b];rfl
  rw [e];refine gV ?_;refine aF λ h=>gV ?_;refine ⟨[2],[0,1],⟨rfl,rfl⟩,⟨rfl,rfl⟩⟩
 | succ m f=>
  intro i b;have hl:(vav (kK (λ i:Nat=>qB L (i:Int)) i (m+1))).length=i+(m+1):=by rw [Cc,D9]
  have hs:=D8 (λ i:Nat=>qB L (i:Int)) i m;have a:=DH (i:Int) L;have next:=f (i+1) o_
  rw [<-hs] at next
  unfold qB at next
  refine gV ?_;refine aT λ h=>?_;cases d:iT L (i:Int) with
  | none=>
   rw [d] at a next
   have a:bR (led L) [(i:Int)]=none:=a;refine gV ?_;refine ⟨none,a,?_⟩;exact zqha1
  | some u=>
   rw [d] at a next
   have a:bR (led L) [(i:Int)]=some u.av:=a;refine gV ?_;refine ⟨some u.av,a,?_⟩;exact zqha1
def aLV(c:Con)(L:Led)(b:c.sm):aq 182 [.ref 0 0] (aCC c L) (.ret (.slice 3 (vav (mN c.ns.length L)) .no)) (aCC c L):=by
 have h1:=b.ns;have a:(nav c.ns).length=c.ns.length:=by simp
 refine cT (E:=E) (fn:=Tryz.f182) (g:=.full 2 _ _) λ_=>gV ?_;refine aN (gV ?_);refine ⟨c.ns.length,by rw [a],gV ?_⟩;refine ⟨⟨rfl,by omega,by simp only [maxLen];omega⟩,?_⟩;refine gV ?_;have next:=aEH c L h1 ((Aj c.ns.length (aa.agg [ii 0,ii 0,ii 0])).length:Nat) (by rw [Gc]) c.ns.length 0 o_
 rw [yK] at next
 exact To.head [0,3,15,16] next
def dem(g:Gan):V3:=aL4 g.need g.pods
def ST(g:Gan):aq 170 [g.av] [] (.ret (dem g).av) []:=by refine c_ Tryz.f170 λ_=>?_;have a:=aEZ g.need g.pods;exact zW
def uL(c:Con)(L:Led)(x:Rn):Led:=if bD c.ns x.g.ten=true then (upL c.ns x.g.ten).foldl (yV (dem x.g)) L else L
def ofL(c:Con)(l:a6):a8:=mN c.ns.length (l.foldl (uL c) [])
def aAf(c:Con)(t:Int)(v:V3)(L:Led)(a:c.sm):aq 181 [.ref 0 0,ii t,v.av,.func (.func 152) [] []] (aCC c L) (.ret (ii (if bD c.ns t=true then 0 else 3))) (aCC c (if bD c.ns t=true then (upL c.ns t).foldl (yV v) L else L)):=
 TE c t v L _ _ (λ h=>⟨if_pos h,if_pos h⟩) (λ h=>⟨if_neg (by rw [h];decide),if_neg (by rw [h];decide)⟩) (by have:=a.ns;simp only [Cc];omega)
noncomputable abbrev fOf:Func:=Tryz.f135
def aGB(c:Con)(d:c.sm)(l:a6)(hl:l.length<=1048576)(R:a8):∀ (m i:Nat) (L:Led),i+m=l.length->mN c.ns.length ((l.drop i).foldl (uL c) L)=R->
  To E fOf (.pure (.ret (.slice 3 (vav R) .no))) (.head (stk fOf 0) [(5,.ref 1 0),(10,.slice 14 (rav l) .no),(11,.int .i64 ((rav l).length:Nat)),(12,.int .i64 i)] [.cells 30 c.cs,.cells 339 [.slice 11 (nav c.ns) .no,.slice 6 (hav c.hs) .no,ii c.half,ii c.age,.mref 2],.mp false (led L)]):=by
 have e:(rav l).length=l.length:=by simp
 intro m;induction m with
 | zero=>
  intro i L f a;rw [Ah o_] at a;subst a;refine gV ?_;refine aF λ h=>gV ?_;refine .eff [] [1,2] _ _ rfl (aLV c L d) ?_;exact zW
 | succ m j=>
  intro i L f a;have b:i<l.length:=o_;rw [Ae b,Bc] at a;generalize k:l[i]=x at a;have get:(rav l)[i]? =some x.av:=(dT b).trans (by rw [k]);have next:=j (i+1) (uL c L x) o_ a
  refine gV ?_;refine aT λ h=>gV ?_;refine ⟨i,rfl,gV ?_⟩;refine ⟨_,get,gV ?_⟩;refine .pure _ [] (ST x.g) (gV ?_);refine .sole rfl (.eff [] [1,2] _ _ rfl (aAf c x.g.ten (dem x.g) L d) ?_);exact zW
def NE(c:Con)(a:c.sm)(l:a6)(hl:l.length<=1048576):aq 135 [c.av,.slice 14 (rav l) .no] [] (.ret (.slice 3 (vav (ofL c l)) .no)) []:=by refine c_ Tryz.f135 λ_=>gV ?_;refine .pure _ [_,_] (aKB c a) (gV ?_);exact To.cut [5,10,11,12] 3 rfl rfl rfl rfl (aGB c a l hl _ l.length 0 [] o_ rfl)
def lvF(ns:bc):Nat->Nat->aw
 | 0,_=>[]
 | m+1,i=>if bD ns (i:Int)=true then (i:Int)::lvF ns m (i+1) else lvF ns m (i+1)
def sT(ns:bc):aw:=lvF ns ns.length 0
def JV(ns:bc):∀ (m i:Nat),(lvF ns m i).length<=m
 | 0,_=>by simp [lvF]
 | m+1,i=>by
  have:=JV ns m (i+1);unfold lvF;split
  .simp;omega
  .omega
noncomputable abbrev aNb:Func:=Tryz.f260
def aCx(c:Con)(l:c.sm)(R:aw):∀ (m i:Nat) (a:aw),i+m=c.ns.length->a.length<=i->a++lvF c.ns m i=R->
  To (Eo [3] []) aNb (.pure (.ret (.slice 1 (iv R) .no))) (.head (stk aNb 0) [(1,.ref 0 0),(3,.slice 1 (iv a) (.own 1 0)),(7,.int .i64 ((nav c.ns).length:Nat)),(8,.int .i64 i)] [.cells 30 c.cs,.tail 0 1 3]):=by
 have g:(nav c.ns).length=c.ns.length:=by simp
 have h1:=l.ns;intro m;induction m with
 | zero=>
  intro i a j k b;unfold lvF at b;rw [Ar] at b;subst b;refine gV ?_;exact zW
 | succ m f=>
  intro i a j k b;have n:(iv a).length=a.length:=by simp
  unfold lvF at b;refine gV ?_;refine aT λ h=>gV ?_;refine .pure _ [] (jW c i) (gV ?_);refine Ac (λ d=>?_) (λ d=>?_)
  .have d:bD c.ns (i:Int)=true:=d;rw [if_pos d] at b;have next:=f (i+1) (a++[(i:Int)]) o_ q_ (by rw [Af];exact b)
   have e:iv (a++[(i:Int)])=iv a++[ii i]:=by simp
   rw [e] at next
   exact zW
  .have d:bD c.ns (i:Int)=false:=d;rw [if_neg (by rw [d];decide)] at b;have next:=f (i+1) a o_ o_ b
   exact zW
def aKI(c:Con)(b:c.sm):aq 260 [c.av] [] (.ret (.slice 1 (iv (sT c.ns)) .no)) []:=by refine cT (E:=(Eo [3] [])) (fn:=Tryz.f260) (g:=.pure _) λ_=>?_;have a:=aCx c b _ c.ns.length 0 [] o_ s_ rfl;exact zW
def aAF(ns:bc):∀ (f:Nat) (n x:Int),x∈upF ns f n->x<=n
 | 0,n,x,h=>by simp [upF] at h
 | f+1,n,x,h=>by
  unfold upF at h;split at h
  .split at h
   .split at h
    .simp at h;omega
    .rename_i h3;rcases Aw.1 h with rfl | h
     .omega
     .have:=aAF ns f _ x h;have:¬ n<=(ns[n.toNat]).p:=λ a=>h3 (decide_eq_true a);omega
   .simp at h
  .simp at h
def QE(ns:bc):∀ (f:Nat) (n:Int),(upF ns f n).Pairwise λ a b=>b<a
 | 0,n=>by simp [upF]
 | f+1,n=>by
  unfold upF;split
  .split
   .split
    .simp
    .rename_i h3;refine Cb.2 ⟨λ x c=>?_,QE ns f _⟩;have:=aAF ns f _ x c;have:¬ n<=(ns[n.toNat]).p:=λ d=>h3 (decide_eq_true d);omega
   .simp
  .simp
def wR(ns:bc)(n t:Int):aw:=if n∈upL ns t then [t] else []
def bQ(ns:bc)(n:Int):aw:=(sT ns).flatMap (wR ns n)
noncomputable abbrev kN:Func:=Tryz.f259
def aFe(c:Con)(n:Int)(lv:aw)(i K:Int):ar:=[(1,.ptr c.cs),(2,.ptr [ii n]),(3,.ref 1 0),(5,.ref 2 0),(8,.slice 1 (iv lv) .no),(9,.int .i64 K),(10,.int .i64 i),(16,.func (.func 243) [] [.ref 3 0,.ptr c.cs])]
def qS(l:Nat)(t:Int)(G:Nat)(I:BInv)(o:ab):au:=[.bun G I,.cells 314 [.func (.yield l) [] []],.cells 3 [ii t],.dead,o]
abbrev busy(R:Loop):Loop:={R with state:=.busy}
def aFb(c:Con)(n t x i K:Int)(lv:aw)(l l2 G:Nat)(I:BInv)(R:Loop)(a:R.state= .ready)(b:x≠n):
  To (El l2 [] [] []) kN (.keep 5 (.ret (.bool true)) (qS l t G I (.bun 0 (bY l2 (busy R))))) (.code [.code (rfA kN),.beginR,.code (rfB kN)] (iE (aFe c n lv i K) 17 (ii x)) (qS l t G I (.bun 0 (bY l2 R)))):=by
 refine gV ?_;refine To.beginR (k:=4) (gg:=0) rfl rfl a ?_;exact zW
def aJD(c:Con)(n t i K:Int)(lv:aw)(l l2 G:Nat)(I a:BInv)(R:Loop)(b:R.state= .ready)(e:G=0\/G=1)(d:bH Tryz.prog (.yield l) [ii t] [.bun 0 I] (.ret (.bool true)) [.bun 1 a]):
  To (El l2 [] [] []) kN (.keep 5 (.ret (.bool true)) (qS l t (G+1) a (.bun 0 (bY l2 (busy R))))) (.code [.code (rfA kN),.beginR,.code (rfB kN)] (iE (aFe c n lv i K) 17 (ii n)) (qS l t G I (.bun 0 (bY l2 R)))):=by
 rcases e with rfl | rfl
 .exact zqha3
 .exact zqha3
def aFa(c:Con)(n t i K:Int)(lv:aw)(l l2 G:Nat)(I a:BInv)(R:Loop)(b:R.state= .ready)(e:G=0\/G=1)(d:bH Tryz.prog (.yield l) [ii t] [.bun 0 I] (.ret (.bool false)) [.bun 1 a]):
  To (El l2 [] [] []) kN (.keep 5 (.ret (.bool false)) (qS l t (G+1) a (.bun 0 (bY l2 (busy R))))) (.code [.code (rfA kN),.beginR,.code (rfB kN)] (iE (aFe c n lv i K) 17 (ii n)) (qS l t G I (.bun 0 (bY l2 R)))):=by
 rcases e with rfl | rfl
 .exact zqha3
 .exact zqha3
def xN{P:Program}{l:Nat}{J:BInv}{n:Int}(hs:∀ x,x≠n->bH P (.yield l) [ii x] [.bun 0 J] (.ret (.bool true)) [.bun 1 J]):∀ (xs:aw),n∉xs->Ylds P l xs J J true
 | [],_=>.nil _
 | x::r,h=>.next x r _ _ _ _ (hs x λ e=>h (by simp [e])) (xN hs r λ e=>h (by simp [e]))
def BZ{P:Program}{l:Nat}{J J1:BInv}{n:Int}{b:Bool}(hs:∀ x,x≠n->bH P (.yield l) [ii x] [.bun 0 J] (.ret (.bool true)) [.bun 1 J])(d:bH P (.yield l) [ii n] [.bun 0 J] (.ret (.bool b)) [.bun 1 J1])
  (h1:b=true->∀ x,x≠n->bH P (.yield l) [ii x] [.bun 0 J1] (.ret (.bool true)) [.bun 1 J1]):∀ (xs:aw),xs.Pairwise (λ a b=>b<a)->n∈xs->Ylds P l xs J J1 b
 | [],_,h=>by simp at h
 | x::r,hp,h=>by
  rw [Cb] at hp;by_cases c:x=n
  .subst c;cases b with
   | true=>exact .next x r _ _ _ _ d (xN (h1 rfl) r λ e=>by have:=hp.1 x e;omega)
   | false=>exact .stop x r _ _ d
  .exact .next x r _ _ _ _ (hs x c) (BZ hs d h1 r hp.2 ((Aw.1 h).resolve_left λ e=>c e.symm))
def tnJ(c:Con)(n t i K:Int)(lv:aw)(l l2:Nat)(ob0:Hs)(R a:Loop)(G:Nat)(I:BInv):BInv:=jR ob0 (aFe c n lv i K) R (qS l t G I (.bun 0 (bY l2 a)))
def vR{e d:Code}(c:Con)(n t x i K:Int)(lv:aw)(l l2 G:Nat)(ob0:Hs)(I:BInv)(R:Loop)(a:RecOK kN 17 e d R)(f:rfA kN=e)(h:rfB kN=d)(g:x≠n):
  bH Tryz.prog (.yield l2) [ii x] [.bun 0 (tnJ c n t i K lv l l2 ob0 R R G I)] (.ret (.bool true)) [.bun 1 (tnJ c n t i K lv l l2 ob0 R R G I)]:=by
 subst f h;exact gT (E:=Ex [] [] []) (fn:=kN) (k:=4) (n:=5) (p:=17) (gg:=0) (L':=qS l t G I (.bun 0 (bY l2 (busy R)))) (b:=true) a.params a.ready a.pend a.assign a.body a.size rfl rfl rfl rfl rfl rfl rfl λ_=>aFb c n t x i K lv l l2 G I R a.ready g
def UB{g f:Code}(c:Con)(n t i K:Int)(lv:aw)(l l2 G:Nat)(ob0:Hs)(I d:BInv)(R:Loop)(b:Bool)(a:RecOK kN 17 g f R)(j:rfA kN=g)(m:rfB kN=f)(h:G=0\/G=1)(e:bH Tryz.prog (.yield l) [ii t] [.bun 0 I] (.ret (.bool b)) [.bun 1 d]):
  bH Tryz.prog (.yield l2) [ii n] [.bun 0 (tnJ c n t i K lv l l2 ob0 R R G I)] (.ret (.bool b)) [.bun 1 (tnJ c n t i K lv l l2 ob0 R (lK R b) (G+1) d)]:=by
 subst j m;cases b with
 | true=>exact gT (E:=Ex [] [] []) (fn:=kN) (k:=4) (n:=5) (p:=17) (gg:=0) (L':=qS l t (G+1) d (.bun 0 (bY l2 (busy R)))) (b:=true) a.params a.ready a.pend a.assign a.body a.size rfl rfl rfl rfl rfl rfl rfl λ_=>aJD c n t i K lv l l2 G I d R a.ready h e
 | false=>exact gT (E:=Ex [] [] []) (fn:=kN) (k:=4) (n:=5) (p:=17) (gg:=0) (L':=qS l t (G+1) d (.bun 0 (bY l2 (busy R)))) (b:=false) a.params a.ready a.pend a.assign a.body a.size rfl rfl rfl rfl rfl rfl rfl λ_=>aFa c n t i K lv l l2 G I d R a.ready h e
def aAT(c:Con)(U:c.sm)(n:Int)(l:Nat)(lv:aw)(k:BInv)(b:Bool)(T:lv.length<=1048576):∀ (m i:Nat) (G:Nat) (I:BInv),i+m=lv.length->(G=0\/G=1)->Ylds Tryz.prog l ((lv.drop i).flatMap (wR c.ns n)) I k b->
  ∃ f,To E kN (.full 1 (.ret (.tup [])) [.bun f k]) (.head (stk kN 0) [(1,.ptr c.cs),(2,.ptr [ii n]),(3,.ref 1 0),(8,.slice 1 (iv lv) .no),(9,.int .i64 ((iv lv).length:Nat)),(10,.int .i64 i)] [.bun G I,.cells 314 [.func (.yield l) [] []]]):=by
 have O:(iv lv).length=lv.length:=by simp
 have L:((nav c.ns).length:Int)<=9223372036854775807:=by have:=U.ns;simp only [Cc];omega
 intro m;induction m with
 | zero=>
  intro i G I Y r d;rw [Ah o_] at d;have d:Ylds Tryz.prog l [] I k b:=d;cases d;rcases r with rfl | rfl
  .refine ⟨0,gV ?_⟩;exact zW
  .refine ⟨1,gV ?_⟩;exact zW
 | succ m N=>
  intro i G I Y r d;have v:i<lv.length:=o_;rw [Ae v,Jl] at d;generalize j:lv[i]=t at d;have get:(iv lv)[i]? =some (ii t):=(gR v).trans (by rw [j])
  -- what the loop within comes to
  have key:∃ (f u:Nat) (z:BInv) (o:Bool),(o=true->(u=G\/u=G+1)/\To E kN (.full 1 (.ret (.tup [])) [.bun f k]) (.head (stk kN 0) [(1,.ptr c.cs),(2,.ptr [ii n]),(3,.ref 1 0),(8,.slice 1 (iv lv) .no),(9,.int .i64 ((iv lv).length:Nat)),(10,.int .i64 ((i:Int)+1))] [.bun (if u=0 then 0 else 1) z,.cells 314 [.func (.yield l) [] []]]))/\(o=false->u=G+1/\f=1/\z=k)/\
    ∀ (l2:Nat) (ob0:Hs) (R:Loop) (C w:Code),RecOK kN 17 C w R->rfA kN=C->rfB kN=w->Ylds Tryz.prog l2 (upL c.ns t) (tnJ c n t i ((iv lv).length:Nat) lv l l2 ob0 R R G I) (tnJ c n t i ((iv lv).length:Nat) lv l l2 ob0 R (lK R o) u z) o:=by
   unfold wR at d;have B:(upL c.ns t).Pairwise λ a b=>b<a:=QE _ _ _;by_cases y:n∈upL c.ns t
   .rw [if_pos y] at d;have d:Ylds Tryz.prog l (t::(lv.drop (i+1)).flatMap (wR c.ns n)) I k b:=d;cases d with
    | stop _ _ _ _ s=>
     refine ⟨1,G+1,k,false,(λ h=>by cases h),λ_=>⟨rfl,rfl,rfl⟩,λ l2 ob0 R C w g p q=>?_⟩;exact BZ (λ x j=>vR c n t x i _ lv l l2 G ob0 I R g p q j) (UB c n t i _ lv l l2 G ob0 I k R false g p q r s) (λ h=>by cases h) _ B y
    | next _ _ _ D _ _ s S=>
     obtain ⟨f,e⟩:=N (i+1) 1 D o_ (.inr rfl) S;refine ⟨f,G+1,D,true,λ_=>⟨.inr rfl,?_⟩,(λ h=>by cases h),λ l2 ob0 R C w g p q=>?_⟩
     .rw [if_neg o_];exact e
     .exact BZ (λ x j=>vR c n t x i _ lv l l2 G ob0 I R g p q j) (UB c n t i _ lv l l2 G ob0 I D R true g p q r s) (λ_ x j=>vR c n t x i _ lv l l2 (G+1) ob0 D R g p q j) _ B y
   .rw [if_neg y] at d;have d:Ylds Tryz.prog l ((lv.drop (i+1)).flatMap (wR c.ns n)) I k b:=d;obtain ⟨f,e⟩:=N (i+1) G I o_ r d;refine ⟨f,G,I,true,λ_=>⟨.inl rfl,?_⟩,(λ h=>by cases h),λ l2 ob0 R C w g p q=>?_⟩
    .rcases r with rfl | rfl
     .exact e
     .exact e
    .exact xN (λ x j=>vR c n t x i _ lv l l2 G ob0 I R g p q j) _ y
  obtain ⟨f,u,z,o,H,J,K⟩:=key;refine ⟨f,gV ?_⟩;refine aT λ h=>gV ?_;refine ⟨i,rfl,gV ?_⟩;refine ⟨_,get,gV ?_⟩;refine .pure _ [.cells 3 [ii t]] (TY c t) (gV ?_);refine To.cutC [1,2,3,5,8,9,10,16] 4 rfl rfl rfl rfl ?_;refine To.range [3] rfl rfl (λ_ _=>by rfl) rfl (λ_ _=>rfl) rfl λ l2 ob0 R _ g=>?_;obtain ⟨V,Q,F⟩:=IQ l2 c t _ _ o L (K l2 ob0 R _ _ g rfl rfl);refine ⟨qS l t u z (.bun 0 (bY l2 (lK R o))),o,_,[.cells 3 [V]],Q,F,rfl,rfl,?_⟩;cases o with
  | false=>
   obtain ⟨P,W,X⟩:=J rfl;subst P W X;rcases r with rfl | rfl
   .refine gV ?_;refine ⟨[],[0],⟨rfl,rfl⟩,⟨rfl,rfl⟩⟩
   .refine gV ?_;refine ⟨[],[0],⟨rfl,rfl⟩,⟨rfl,rfl⟩⟩
  | true=>
   obtain ⟨M,e⟩:=H rfl;refine gV ?_;refine aJ (gV ?_);refine To.part [1,2,3,8,9,10] [0,1] rfl rfl rfl ?_;rcases r with rfl | rfl<;>rcases M with rfl | rfl<;>exact e
def aAS(c:Con)(e:c.sm)(n:Int)(l:Nat)(I i:BInv)(b:Bool)(k:Ylds Tryz.prog l (bQ c.ns n) I i b):∃ a,aq 259 [.func (.yield l) [] [],.ptr c.cs,.ptr [ii n]] [.bun 0 I] (.ret (.tup [])) [.bun a i]:=by have d:(sT c.ns).length<=1048576:=Cx (JV _ _ _) e.ns;obtain ⟨a,h⟩:=aAT c e n l (sT c.ns) i b d (sT c.ns).length 0 0 I o_ (.inl rfl) k;refine ⟨a,?_⟩;refine cT (E:=E) (fn:=Tryz.f259) (g:=.full 1 _ _) λ_=>?_;have j:=aKI c e;exact zW
def CD(c:Con)(n:Int):aq 239 [c.av,ii n] [] (.ret (.func (.func 259) [] [.ptr c.cs,.ptr [ii n]])) []:=by exact c_ Tryz.f239 λ_=>zW
def LD{P:Program}{l:Nat}(F:aw->BInv)(h:∀ (a:aw) x,a.length<1048576->bH P (.yield l) [ii x] [.bun 0 (F a)] (.ret (.bool true)) [.bun 1 (F (a++[x]))]):∀ (xs a:aw),a.length+xs.length<=1048576->Ylds P l xs (F a) (F (a++xs)) true
 | [],a,_=>by rw [Ar];exact .nil _
 | x::r,a,hl=>by have:=LD F h r (a++[x]) (by simp at hl⊢;omega);rw [Af] at this;exact .next x r _ _ _ _ (h a x (by simp at hl;omega)) this
noncomputable abbrev qN:Func:=Tryz.f250
abbrev X0(c:Con)(n:Int):aa:=.func (.func 259) [] [.ptr c.cs,.ptr [ii n]]
def aLU(f:aa):ar:=[(2,.ref 0 0),(6,f)]
def tY(a:aw)(g:Nat)(o:ab):au:=[.cells 66 [.slice 1 (iv a) (.own 1 g)],.tail g 1 3,o]
def aAl(f:aa)(a:aw)(x:Int)(hl:a.length<1048576)(l:Nat)(R:Loop)(b:R.state= .ready):
  To (El l [] [] []) qN (.keep 3 (.ret (.bool true)) (tY (a++[x]) 1 (.bun 0 (bY l (busy R))))) (.code [.code (rfA qN),.beginR,.code (rfB qN)] (iE (aLU f) 7 (ii x)) (tY a 0 (.bun 0 (bY l R)))):=by
 exact zqha4
def aAk(f:aa)(a:aw)(x:Int)(hl:a.length<1048576)(l:Nat)(R:Loop)(b:R.state= .ready):
  To (El l [] [] []) qN (.keep 3 (.ret (.bool true)) (tY (a++[x]) 2 (.bun 0 (bY l (busy R))))) (.code [.code (rfA qN),.beginR,.code (rfB qN)] (iE (aLU f) 7 (ii x)) (tY a 1 (.bun 0 (bY l R)))):=by
 exact zqha4
def gOf:aw->Nat
 | []=>0
 | _::_=>1
def aDe(a:aw)(x:Int):gOf (a++[x])=1:=by cases a<;>rfl
def apJ(f:aa)(ob0:Hs)(R:Loop)(l:Nat)(a:aw):BInv:=jR ob0 (aLU f) R (tY a (gOf a) (.bun 0 (bY l R)))
def aEG{g e:Code}(f:aa)(i:∀ og,cvtV 3 [0,1,2] og 5 f=f)(ob0:Hs)(l:Nat)(R:Loop)(d:aw)(x:Int)(hl:d.length<1048576)(h1:∀ hs∈ob0,hs.length=1)(m:ob0.length=0)(c:RecOK qN 7 g e R)(h:rfA qN=g)(j:rfB qN=e):
  bH Tryz.prog (.yield l) [ii x] [.bun 0 (apJ f ob0 R l d)] (.ret (.bool true)) [.bun 1 (apJ f ob0 R l (d++[x]))]:=by
 subst h j;unfold apJ;rw [aDe];cases d with
 | nil=>exact gT (E:=Ex [] [] []) (fn:=qN) (k:=2) (n:=3) (p:=7) (gg:=0) (L':=tY ([]++[x]) 1 (.bun 0 (bY l (busy R)))) (b:=true) c.params c.ready c.pend c.assign c.body c.size rfl rfl rfl rfl rfl rfl rfl λ_=>aAl f [] x hl l R c.ready
 | cons a r=>
  have:=gT (E:=Ex [] [] []) (fn:=qN) (ob0:=ob0) (k:=2) (n:=3) (p:=7) (gg:=0) (L:=tY (a::r) 1 (.bun 0 (bY l R))) (L':=tY ((a::r)++[x]) 2 (.bun 0 (bY l (busy R)))) (b:=true) c.params c.ready c.pend c.assign c.body c.size rfl rfl rfl rfl rfl rfl rfl λ_=>aAk f (a::r) x hl l R c.ready;refine this.bunTo (aEk (n:=3) rfl h1 o_ rfl ?_ rfl);show [(2,aa.ref 0 0),(6,cvtV 3 [0,1,2] _ 5 f)]=_;rw [i];rfl
def aLT(c:Con)(e:c.sm)(n:Int)(h:(bQ c.ns n).length<=1048576):aq 250 [.nilslice,X0 c n] [] (.ret (.slice 1 (iv (bQ c.ns n)) .no)) []:=by refine c_ Tryz.f250 λ_=>gV ?_;refine To.cutC [2,6] 1 rfl rfl rfl rfl ?_;refine To.mapO (aGL 1) (NK 1) ?_;refine To.beginC 0 0 3 rfl rfl ?_;refine To.range [] rfl rfl (λ_ _=>by rfl) rfl (λ_ _=>rfl) rfl λ l ob0 R hst i=>?_;obtain ⟨d,a⟩:=aAS c e n l _ _ true (LD (P:=Tryz.prog) (l:=l) (apJ (X0 c n) ob0 R l) (λ b x hl=>aEG (X0 c n) (λ_=>rfl) ob0 l R b x hl (hst.2 rfl) hst.1 i rfl rfl) (bQ c.ns n) [] (by simpa using h));rw [Bn] at a;refine ⟨_,true,_,[],d,a,rfl,rfl,?_⟩;exact zW
def S5(c:Con)(d:c.sm)(n:Int)(b:(bQ c.ns n).length<=1048576):aq 220 [X0 c n] [] (.ret (.slice 1 (iv (bQ c.ns n)) .no)) []:=by refine c_ Tryz.f220 λ_=>?_;have a:=aLT c d n b;exact zW
def aHr(ns:bc)(n t:Int):(wR ns n t).length<=1:=by unfold wR;split<;>simp
def yZ(c:Con)(a:c.sm)(n:Int):(bQ c.ns n).length<=1048576:=by
 have h:∀ (l:aw),(l.flatMap (wR c.ns n)).length<=l.length:=by
  intro l;induction l with
  | nil=>simp
  | cons x r b=>
   have:=aHr c.ns n x;simp only [Jl,Ai,Al];omega
 exact Cx (h _) (Cx (JV _ _ _) a.ns)
def PU(c:Con)(d:c.sm)(n:Int):aq 261 [c.av,ii n] [] (.ret (.slice 1 (iv (bQ c.ns n)) .no)) []:=by refine c_ Tryz.f261 λ_=>?_;have b:=CD c n;have a:=S5 c d n (yZ c d n);exact zW
def atV(l:a8)(n:Int):V3:=if decide (n<0)=true then V3.zero else (l[n.toNat]?).getD V3.zero
def aIP(l:a8)(n:Int)(r:V3)(a:atV l n=r):aq 226 [.slice 3 (vav l) .no,ii n] [] (.ret r.av) []:=by
 have c:(vav l).length=l.length:=by simp
 unfold atV at a;by_cases h1:n<0
 .rw [if_pos (decide_eq_true h1)] at a;subst a;exact zqha11
 .rw [if_neg (by rw [decide_eq_false h1];decide)] at a;by_cases b:n.toNat<l.length
  .rw [Aa b] at a;have a:l[n.toNat]=r:=a;have get:(vav l)[n.toNat]? =some r.av:=(vM b).trans (by rw [a]);have d:n=(n.toNat:Int):=o_;exact zqha11
  .rw [Bi o_] at a;have a:V3.zero=r:=a;subst a;exact zqha11
def EW(l:a8)(n:Int):aq 226 [.slice 3 (vav l) .no,ii n] [] (.ret (atV l n).av) []:=aIP l n _ rfl
def XP(a b:V3)(r:Bool)(c:cS a b=r):aq 166 [a.av,b.av] [] (.ret (.bool r)) []:=by
 unfold cS at c;refine c_ Tryz.f166 λ_=>gV ?_
 repeat' first
  | (refine gW hE ?_;conv=>whnf)
  | exact c
  | refine aY ?_
  | refine aN ?_
  | refine Ac (λ h=>?_) (λ h=>?_)
  | refine aJ ?_
  | refine Ap _ (Ac rfl ?_)
  | refine Ac d_ ?_
 all_goals (rw [<-c];simp_all)
def lF(a b:V3):aq 166 [a.av,b.av] [] (.ret (.bool (cS a b))) []:=XP a b _ rfl
def vI(a b:V3):aq 153 [a.av,b.av] [] (.ret (.bool (!cS a b))) []:=by refine c_ Tryz.f153 λ_=>?_;have c:=lF a b;exact zW
noncomputable abbrev aHH:Func:=Tryz.f200
def smS(l:a8)(v:V3)(t:Int):V3:=fQ v (atV l t)
def lG(ns:bc)(n:Int)(l:a8):V3:=(bQ ns n).foldl (smS l) V3.zero
def aMl(f:aa):ar:=[(5,.ref 1 0),(6,.ref 2 0),(7,.ref 3 0),(11,f)]
def UM(c:Con)(l:a8)(v:V3)(o:ab):au:=[.cells 30 c.cs,.cells 245 [.slice 3 (vav l) .no],.cells 32 V3.zero.cs,.cells 32 v.cs,o]
def aBc(c:Con)(n:Int)(l:a8)(v:V3)(x:Int)(k:Nat)(R:Loop)(d:R.state= .ready):
  To (El k [] [] []) aHH (.keep 5 (.ret (.bool true)) (UM c l (smS l v x) (.bun 0 (bY k (busy R))))) (.code [.code (rfA aHH),.beginR,.code (rfB aHH)] (iE (aMl (X0 c n)) 12 (ii x)) (UM c l v (.bun 0 (bY k R)))):=by
 refine gV ?_;refine To.beginR (k:=4) (gg:=0) rfl rfl d ?_;have a:=EW l x;have b:=iN v (atV l x);exact zW
def aAY(c:Con)(h:c.sm)(n:Int)(l:a8):aq 200 [c.av,ii n,.slice 3 (vav l) .no] [] (.ret (lG c.ns n l).av) []:=by refine c_ Tryz.f200 λ_=>gV ?_;refine .pure _ [] (CD c n) (gV ?_);refine To.cutC [5,6,7,11] 4 rfl rfl rfl rfl ?_;refine To.range [] rfl rfl (λ_ _=>by rfl) rfl (λ_ _=>rfl) rfl λ k ob0 R hst a=>?_;obtain ⟨e,d⟩:=aAS c h n k _ _ true (B0 (P:=Tryz.prog) (l:=k) (λ v=>jR ob0 (aMl (X0 c n)) R (UM c l v (.bun 0 (bY k R)))) (smS l) (λ v x=>gT (E:=Ex [] [] []) (fn:=aHH) (k:=4) (n:=5) (p:=12) (gg:=0) (L':=UM c l (smS l v x) (.bun 0 (bY k (busy R)))) (b:=true) a.params a.ready a.pend a.assign a.body a.size rfl rfl rfl rfl rfl rfl rfl λ_=>aBc c n l v x k R a.ready) (bQ c.ns n) V3.zero);refine ⟨_,true,_,[],e,d,rfl,rfl,?_⟩;exact zW
def Con.ok(c:Con)(n:Int):Prop:=0<=n/\n.toNat<c.ns.length
def JU(ns:bc):∀ (m i:Nat) (x:Int),x∈lvF ns m i->(i:Int)<=x/\x<i+m
 | 0,_,_,h=>by simp [lvF] at h
 | m+1,i,x,h=>by
  have a:=JU ns m (i+1) x;unfold lvF at h;split at h
  .rcases Aw.1 h with rfl | h
   .omega
   .have:=a h;omega
  .have:=a h;omega
def lD(c:Con)(n x:Int)(h:x∈bQ c.ns n):c.ok x:=by
 unfold bQ at h;obtain ⟨t,h1,a⟩:=List.mem_flatMap.1 h;have:x=t:=by
  unfold wR at a;split at a
  .simpa using a
  .simp at a
 subst this;have:=JU c.ns c.ns.length 0 x h1;exact ⟨by omega,by omega⟩
def IP(c:Con):∀ (f:Nat) (n x:Int),x∈upF c.ns f n->c.ok x
 | 0,_,_,h=>by simp [upF] at h
 | f+1,n,x,h=>by
  have b:=λ p=>IP c f p x;unfold upF at h;split at h
  .rename_i h1;split at h
   .rename_i a;split at h
    .simp at h;subst h;exact ⟨of_decide_eq_true h1,a⟩
    .rcases Aw.1 h with rfl | h
     .exact ⟨of_decide_eq_true h1,a⟩
     .exact b _ h
   .simp at h
  .simp at h
def cY(ns:bc)(n:Int):Nod:=(ns[n.toNat]?).getD ⟨0,0,V3.zero,V3.zero,V3.zero⟩
def wI{c:Con}{n:Int}(h:c.ok n):(nav c.ns)[n.toNat]? =some (cY c.ns n).av:=by unfold cY;rw [Aa h.2];exact kX h.2
def aKk(v:V3):V3:=⟨max v.a 0,max v.b 0,max v.c 0⟩
def GZ(ns:bc)(a:a8)(t:Int)(v:V3)(s:Int):V3:=if decide (s=t)=true then v else fQ v (aKk (E9 (E9 (cY ns s).n (cY ns s).l) (atV a s)))
def G1(ns:bc)(a:a8)(n t:Int):V3:=(bQ ns n).foldl (GZ ns a t) V3.zero
noncomputable abbrev aJg:Func:=Tryz.f242
def Y5(c:Con)(a:a8)(t:Int)(bl:aw)(y:bl.length<=1048576)(p:∀ x∈bl,c.ok x)(R:V3):∀ (m i:Nat) (v:V3),i+m=bl.length->(bl.drop i).foldl (GZ c.ns a t) v=R->
  To E aJg (.pure (.ret R.av)) (.head (stk aJg 0) [(1,.slice 3 (vav a) .no),(3,ii t),(4,.ref 0 0),(8,.ref 1 0),(9,.ref 2 0),(18,.slice 1 (iv bl) .no),(19,.int .i64 ((iv bl).length:Nat)),(20,.int .i64 i)] [.cells 30 c.cs,.cells 32 V3.zero.cs,.cells 32 v.cs]):=by
 have g:(iv bl).length=bl.length:=by simp
 intro m;induction m with
 | zero=>
  intro i v w f;rw [Ah o_] at f;subst f;refine gV ?_;exact zW
 | succ m o=>
  intro i v w f;have e:i<bl.length:=o_;rw [Ae e,Bc] at f;have b:=p _ (Bf e);generalize r:bl[i]=s at f b;have get:(iv bl)[i]? =some (ii s):=(gR e).trans (by rw [r]);have j:=wI b;have q:s=(s.toNat:Int):=by have:=b.1;omega
  have next:=o (i+1) _ o_ f
  unfold GZ at next
  generalize cY c.ns s=x at j next
  refine gV ?_;refine aT λ h=>gV ?_;refine ⟨i,rfl,gV ?_⟩;refine ⟨_,get,gV ?_⟩;refine Ac (λ d=>?_) (λ d=>?_)
  .have d:decide (s=t)=true:=d;rw [if_pos d] at next
   exact zW
  .have d:decide (s=t)=false:=d;rw [if_neg (by rw [d];decide)] at next
   refine gV ?_;refine ⟨s.toNat,q,gV ?_⟩;refine ⟨_,j,gV ?_⟩;refine .pure _ [] (IM x.n x.l) (gV ?_);refine .pure _ [] (EW a s) (gV ?_);refine .pure _ [] (IM (E9 x.n x.l) (atV a s)) ?_;generalize E9 (E9 x.n x.l) (atV a s)=u at next⊢
   refine gV ?_;refine gV ?_;refine aY (gV ?_);refine ⟨by decide,gV ?_⟩;refine ⟨by decide,gV ?_⟩;refine aJ (gV ?_);refine gV ?_;refine aY (gV ?_);refine ⟨by decide,gV ?_⟩;refine ⟨by decide,gV ?_⟩;refine aJ (gV ?_);refine gV ?_;refine aY (gV ?_);refine ⟨by decide,gV ?_⟩;refine ⟨by decide,gV ?_⟩;refine aJ (gV ?_);refine gV ?_;have k:=iN v (aKk u);exact zW
def aG8(c:Con)(d:c.sm)(a:a8)(n t:Int):aq 242 [c.av,.slice 3 (vav a) .no,ii n,ii t] [] (.ret (G1 c.ns a n t).av) []:=by refine c_ Tryz.f242 λ_=>?_;have e:=PU c d n;have b:=Y5 c a t _ (yZ c d n) (λ x h=>lD c n x h) _ (bQ c.ns n).length 0 V3.zero o_ rfl;exact zW
noncomputable abbrev aNa:Func:=Tryz.f151
def qH(ns:bc):a8:=(Di ns.length).map λ i:Nat=>(cY ns (i:Int)).n
def aCi(c:Con)(a:c.sm)(n:Int)(K:Int)(k:K=((nav c.ns).length:Nat)):∀ (m i:Nat),i+m=c.ns.length->
  To E aNa (.pure (.ret (lG c.ns n (qH c.ns)).av)) (.head (stk aNa 0) [(1,ii n),(2,.ref 0 0),(4,.ref 1 0),(5,.row 2 0),(13,.slice 11 (nav c.ns) .no),(14,.int .i64 K),(15,.int .i64 i)] [.cells 30 c.cs,.cells 32 V3.zero.cs,.row 0 3 32 (vav (kK (λ i:Nat=>(cY c.ns (i:Int)).n) i m))]):=by
 have b:(nav c.ns).length=c.ns.length:=by simp
 have h1:=a.ns;intro m;induction m with
 | zero=>
  intro i d;have e:kK (λ i:Nat=>(cY c.ns (i:Int)).n) i 0=qH c.ns:=by rw [EA];unfold qH;rw [<-d];rfl
  rw [e];refine gV ?_;have f:=aAY c a n (qH c.ns);exact zW
 | succ m g=>
  intro i d;have hl:(vav (kK (λ i:Nat=>(cY c.ns (i:Int)).n) i (m+1))).length=i+(m+1):=by rw [Cc,D9]
  have hs:=D8 (λ i:Nat=>(cY c.ns (i:Int)).n) i m;have j:(nav c.ns)[i]? =some (cY c.ns (i:Int)).av:=wI (c:=c) (n:=(i:Int)) ⟨by omega,by omega⟩;have next:=g (i+1) o_
  rw [<-hs] at next
  refine gV ?_;refine aT λ h=>gV ?_;refine ⟨i,rfl,gV ?_⟩;refine ⟨_,j,?_⟩;exact zqha1
def aCh(c:Con)(b:c.sm)(n:Int):aq 151 [c.av,ii n] [] (.ret (lG c.ns n (qH c.ns)).av) []:=by
 have h1:=b.ns;have a:(nav c.ns).length=c.ns.length:=by simp
 refine c_ Tryz.f151 λ_=>gV ?_;refine ⟨c.ns.length,by rw [a],gV ?_⟩;refine ⟨⟨rfl,by omega,by simp only [maxLen];omega⟩,?_⟩;refine gV ?_;have next:=aCi c b n _ rfl c.ns.length 0 o_
 rw [yK] at next
 exact To.cut [1,2,4,5,13,14,15] 3 rfl rfl rfl rfl next
abbrev aB4(c:Con)(used:a8)(need:V3):aa:=.func (.func 240) [] [.ptr c.cs,.ptr [.slice 3 (vav used) .no],.ptr need.cs]
abbrev aEI(c:Con)(used:a8)(need:V3)(t:Int):aa:=.func (.func 241) [] [.ptr c.cs,.ptr [.slice 3 (vav used) .no],.ptr need.cs,.ptr [ii t]]
def aGx(c:Con)(a:a8)(need:V3)(n:Int):Bool:=cS (fQ (atV a n) need) (fQ (cY c.ns n).n (cY c.ns n).b)
def aI1(c:Con)(a:a8)(need:V3)(t n:Int):Bool:=cS (fQ (fQ (lG c.ns n a) need) (G1 c.ns a n t)) (lG c.ns n (qH c.ns))
def JI(c:Con)(a:a8)(need:V3)(n:Int)(h:c.ok n):aq 240 [ii n,.ptr c.cs,.ptr [.slice 3 (vav a) .no],.ptr need.cs] [] (.ret (.bool (aGx c a need n))) []:=by
 have l:=wI h;have m:n=(n.toNat:Int):=by have:=h.1;omega
 unfold aGx;generalize cY c.ns n=x at l⊢;refine c_ Tryz.f240 λ_=>?_;have e:=EW a n;have d:=iN (atV a n) need;have i:=iN x.n x.b;have hz2:=λ k j=>lF k j;exact zW
def BT(c:Con)(b:c.sm)(a:a8)(need:V3)(t n:Int):aq 241 [ii n,.ptr c.cs,.ptr [.slice 3 (vav a) .no],.ptr need.cs,.ptr [ii t]] [] (.ret (.bool (aI1 c a need t n))) []:=by unfold aI1;refine c_ Tryz.f241 λ_=>?_;have j:=aAY c b n a;have h:=iN (lG c.ns n a) need;have e:=aG8 c b a n t;have d:=iN (fQ (lG c.ns n a) need) (G1 c.ns a n t);have i:=aCh c b n;have hz2:=λ l k=>lF l k;exact zW
noncomputable abbrev aM6:Func:=Tryz.f210
def ruO(c:Con)(a:a8)(need:V3)(t:Int):au:=[.cells 30 c.cs,.cells 245 [.slice 3 (vav a) .no],.cells 3 [ii t],.cells 32 need.cs,.cells 326 [.nilfunc],.cells 326 [.nilfunc],
 .cells 326 [.func (.func 240) [] [.ref 0 0,.ref 1 0,.ref 3 0]],.cells 326 [.func (.func 241) [] [.ref 0 0,.ref 1 0,.ref 3 0,.ref 2 0]]]
def aJ5(c:Con)(a:a8)(need:V3)(t:Int):au:=[.fcells c.cs,.fcells [.slice 3 (vav a) .no],.fcells [ii t],.fcells need.cs,.cells 326 [.nilfunc],.cells 326 [.nilfunc],
 .fcells [aB4 c a need],.fcells [aEI c a need t]]
def aJ4(c:Con)(a:a8)(need:V3)(t:Int):aj [6,7] (ruO c a need t)=aJ5 c a need t:=by kernel_rfl
def aFZ(c:Con)(a:a8)(need:V3)(t:Int):wX [10,11] (aB (aJ5 c a need t)) [(8,.ref 4 0),(9,.ref 5 0),(10,.ref 6 0),(11,.ref 7 0)]=[(8,.ref 4 0),(9,.ref 5 0),(10,.ptr [aB4 c a need]),(11,.ptr [aEI c a need t])]:=by kernel_rfl
def aFY{g:Goal}{ks:bf}(c:Con)(a:a8)(need:V3)(t:Int)(h:To (Er [] [16,17]) aM6 g (.code ks [(8,.ref 4 0),(9,.ref 5 0),(10,.ptr [aB4 c a need]),(11,.ptr [aEI c a need t])] (aJ5 c a need t))):
  To (Er [] [16,17]) aM6 g (.code ks [(8,.ref 4 0),(9,.ref 5 0),(10,.ref 6 0),(11,.ref 7 0)] (ruO c a need t)):=by
 refine To.frz [10,11] [6,7] ?_;rw [aJ4,aFZ];exact h
def aBo(c:Con)(a:a8)(need:V3)(t:Int):aq 210 [c.av,.slice 3 (vav a) .no,ii t,need.av] [] (.ret (.tup [.agg [aB4 c a need],.agg [aEI c a need t]])) []:=by
 refine cT (E:=(Er [] [16,17])) (fn:=Tryz.f210) (g:=.pure _) λ_=>?_;refine cP (hEr [] [16,17]) 51 ?_;conv=>whnf
 refine To.cutC [8,9,10,11] 8 rfl rfl rfl rfl ?_;refine aFY c a need t ?_;exact zW
def FX{P:Program}{l:Nat}{J J1:BInv}{p:Int->Bool}{V:Int->Prop}(a:∀ x,V x->p x=true->bH P (.yield l) [ii x] [.bun 0 J] (.ret (.bool true)) [.bun 1 J])(h1:∀ x,V x->p x=false->bH P (.yield l) [ii x] [.bun 0 J] (.ret (.bool false)) [.bun 1 J1]):
  ∀ (xs:aw),(∀ x∈xs,V x)->Ylds P l xs J (if xs.all p=true then J else J1) (xs.all p)
 | [],_=>by simp;exact .nil _
 | x::r,hv=>by
  rw [Kb];cases hp:p x with
  | true=>
   rw [Cz];exact .next x r _ _ _ _ (a x (hv x s_) hp) (FX a h1 r λ y b=>hv y (by simp [b]))
  | false=>
   rw [Gi,if_neg d_];exact .stop x r _ _ (h1 x (hv x s_) hp)
noncomputable abbrev OS:Func:=Tryz.f169
def RH(c:Con)(a:a8)(t:Int)(need:V3)(x:Int):Bool:=if decide (x=t)=true then aGx c a need x else aI1 c a need t x
def NQ(c:Con)(a:a8)(t:Int)(need:V3):Bool:=if bD c.ns t=true then (upL c.ns t).all (RH c a t need) else false
def aGP(f:aa):ar:=[(6,.ref 1 0),(8,.ref 3 0),(9,.ref 4 0),(10,.ref 5 0),(26,f)]
def AA(c:Con)(a:a8)(t:Int)(need:V3)(b:Bool)(o:ab):au:=[.cells 30 c.cs,.cells 3 [ii t],.cells 32 need.cs,.cells 4 [.bool b],.cells 326 [aB4 c a need],.cells 326 [aEI c a need t],.dead,o]
abbrev aE4(c:Con):aa:=.func (.func 243) [] [.ref 6 0,.ptr c.cs]
def aMG(c:Con)(f:c.sm)(a:a8)(t:Int)(need:V3)(x:Int)(d:c.ok x)(k:Nat)(R:Loop)(b:R.state= .ready)(hp:RH c a t need x=true):
  To (El k [] [] []) OS (.keep 8 (.ret (.bool true)) (AA c a t need false (.bun 0 (bY k (busy R))))) (.code [.code (rfA OS),.beginR,.code (rfB OS)] (iE (aGP (aE4 c)) 27 (ii x)) (AA c a t need false (.bun 0 (bY k R)))):=by
 exact zqha0
def aGO(c:Con)(f:c.sm)(a:a8)(t:Int)(need:V3)(x:Int)(d:c.ok x)(k:Nat)(R:Loop)(b:R.state= .ready)(hp:RH c a t need x=false):
  To (El k [] [] []) OS (.keep 8 (.ret (.bool false)) (AA c a t need false (.bun 0 (bY k (busy R))))) (.code [.code (rfA OS),.beginR,.code (rfB OS)] (iE (aGP (aE4 c)) 27 (ii x)) (AA c a t need false (.bun 0 (bY k R)))):=by
 exact zqha0
def aGX(c:Con)(o:c.sm)(a:a8)(t:Int)(need:V3)(r:Bool)(e:NQ c a t need=r):aq 169 [c.av,.slice 3 (vav a) .no,ii t,need.av] [] (.ret (.bool r)) []:=by
 have q:((nav c.ns).length:Int)<=9223372036854775807:=by have:=o.ns;simp only [Cc];omega
 unfold NQ at e;refine c_ Tryz.f169 λ_=>gV ?_;refine .pure _ [] (jW c t) (gV ?_);refine Ac (λ h1=>?_) (λ h1=>?_)
 .have h1:bD c.ns t=false:=zY h1;rw [if_neg (by rw [h1];decide)] at e;subst e;exact zW
 .have h1:bD c.ns t=true:=zZ h1;rw [if_pos h1] at e;refine gV ?_;refine .pure _ [] (aBo c a need t) (gV ?_);refine .pure _ [.cells 3 [ii t]] (TY c t) (gV ?_);refine To.cutC [6,8,9,10,26] 7 rfl rfl rfl rfl ?_;refine To.range [6] rfl rfl (λ_ _=>by rfl) rfl (λ_ _=>rfl) rfl λ k ob0 R hst d=>?_
  have i:=FX (P:=Tryz.prog) (l:=k) (p:=RH c a t need) (V:=c.ok) (J:=jR ob0 (aGP (aE4 c)) R (AA c a t need false (.bun 0 (bY k R)))) (J1:=jR ob0 (aGP (aE4 c)) R (AA c a t need false (.bun 0 (bY k (lK R false)))))
   (λ x j hp=>gT (E:=Ex [] [] []) (fn:=OS) (k:=7) (n:=8) (p:=27) (gg:=0) (L':=AA c a t need false (.bun 0 (bY k (busy R)))) (b:=true) d.params d.ready d.pend d.assign d.body d.size rfl rfl rfl rfl rfl rfl rfl λ_=>aMG c o a t need x j k R d.ready hp)
   (λ x j hp=>gT (E:=Ex [] [] []) (fn:=OS) (k:=7) (n:=8) (p:=27) (gg:=0) (L':=AA c a t need false (.bun 0 (bY k (busy R)))) (b:=false) d.params d.ready d.pend d.assign d.body d.size rfl rfl rfl rfl rfl rfl rfl λ_=>aGO c o a t need x j k R d.ready hp) (upL c.ns t) (λ x u=>IP c _ _ x u)
  rw [e] at i;obtain ⟨m,s,h⟩:=IQ k c t _ _ r q i;cases r with
  | true=>
   refine ⟨_,true,_,[.cells 3 [m]],s,h,rfl,rfl,?_⟩;exact zW
  | false=>
   refine ⟨_,false,_,[.cells 3 [m]],s,h,rfl,rfl,?_⟩;exact zW
def aKG(c:Con)(b:c.sm)(a:a8)(t:Int)(need:V3):aq 169 [c.av,.slice 3 (vav a) .no,ii t,need.av] [] (.ret (.bool (NQ c a t need))) []:=aGX c b a t need _ rfl
def bK(hs:List Hos)(n:Int):Hos:=(hs[n.toNat]?).getD ⟨0,0,0,V3.zero⟩
def J4{c:Con}{i:Nat}(h:i<c.hs.length):(hav c.hs)[i]? =some (bK c.hs (i:Int)).av:=by unfold bK;rw [Bv,Aa h];exact wU h
def aE0(l:a8)(i:Nat)(v:V3):(vav l).set i v.av=vav (l.set i v):=by simp [vav,Gt]
def tQ(need:V3)(xs:a8)(h:Int):a8:=if decide (0<=h)=true then (if decide (h<(xs.length:Int))=true then xs.set h.toNat (E9 ((xs[h.toNat]?).getD V3.zero) need) else xs) else xs
def sW(need:V3)(xs:a8)(h:Int):(tQ need xs h).length=xs.length:=by unfold tQ;split<;>(try split)<;>simp
def AD(xs:a8)(x:Rn):a8:=x.hs.foldl (tQ x.g.need) xs
def yJ(x:Rn):∀ (xs:a8),(AD xs x).length=xs.length:=by
 unfold AD;generalize x.hs=l;induction l with
 | nil=>intro xs;rfl
 | cons h r a=>intro xs;rw [Bc,a,sW]
def kI(c:Con)(r:a6):a8:=r.foldl AD ((Di c.hs.length).map λ i:Nat=>(bK c.hs (i:Int)).c)
noncomputable abbrev AH:Func:=Tryz.f172
abbrev frO(c:Con)(xs:a8):au:=[.cells 30 c.cs,.row 0 3 32 (vav xs)]
def aHB(c:Con)(r:a6)(R:a8)(x:Rn)(j:Nat)(z:x.hs.length<=1048576)(y:c.hs.length<=1048576)(O:au):
  ∀ (m i:Nat) (xs:a8),xs.length=c.hs.length->i+m=x.hs.length->
   To E AH (.pure (.ret (.slice 3 (vav R) .no))) (.head (stk AH 1) [(5,.row 1 0),(30,.slice 14 (rav r) .no),(31,.int .i64 ((rav r).length:Nat)),(32,.int .i64 ((j:Int)+1))] (frO c ((x.hs.drop i).foldl (tQ x.g.need) xs)))->
   j<1048576->
  To E AH (.pure (.ret (.slice 3 (vav R) .no))) (.head (stk AH 2) [(5,.row 1 0),(9,.ref 2 0),(30,.slice 14 (rav r) .no),(31,.int .i64 ((rav r).length:Nat)),(32,.int .i64 j),(37,.slice 1 (iv x.hs) .no),(38,.int .i64 ((iv x.hs).length:Nat)),(39,.int .i64 i)] (frO c xs++[.cells 68 x.cs])):=by
 have n:(iv x.hs).length=x.hs.length:=by simp
 intro m;induction m with
 | zero=>
  intro i xs l v a k;rw [Ah o_] at a;refine gV ?_;exact zW
 | succ m o=>
  intro i xs l v a k;have b:i<x.hs.length:=o_;rw [Ae b,Bc] at a;generalize q:x.hs[i]=u0 at a;have get:(iv x.hs)[i]? =some (ii u0):=(gR b).trans (by rw [q]);have s:(vav xs).length=xs.length:=by simp
  have next:=o (i+1) (tQ x.g.need xs u0) (by rw [sW];exact l) o_ a k
  unfold tQ frO at next
  refine gV ?_;refine aT λ h=>gV ?_;refine ⟨i,rfl,gV ?_⟩;refine ⟨_,get,?_⟩;by_cases h1:0<=u0
  .rw [if_pos (decide_eq_true h1)] at next
   by_cases e:u0<(xs.length:Int)
   .rw [if_pos (decide_eq_true e)] at next
    have d:u0.toNat<xs.length:=o_;have w:u0=(u0.toNat:Int):=o_;rw [Aa d] at next
    have p:(vav xs)[u0.toNat]? =some xs[u0.toNat].av:=vM d;rw [show ((some xs[u0.toNat]).getD V3.zero)=xs[u0.toNat] from rfl] at next
    generalize xs[u0.toNat]=u at p next
    rw [<-aE0] at next
    have f:=IM u x.g.need;exact zW
   .rw [if_neg (by rw [decide_eq_false e];decide)] at next
    exact zW
  .rw [if_neg (by rw [decide_eq_false h1];decide)] at next
   exact zW
def Sm(l:a6):Prop:=l.length<=1048576/\∀ x∈l,x.hs.length<=1048576
def Sm.at{l:a6}(h:Sm l){i:Nat}(a:i<l.length):l[i].hs.length<=1048576:=h.2 _ (Bf a)
def aDi(c:Con)(k:c.sm)(r:a6)(e:Sm r)(R:a8):∀ (m i:Nat) (xs:a8),i+m=r.length->xs.length=c.hs.length->(r.drop i).foldl AD xs=R->
  To E AH (.pure (.ret (.slice 3 (vav R) .no))) (.head (stk AH 1) [(5,.row 1 0),(30,.slice 14 (rav r) .no),(31,.int .i64 ((rav r).length:Nat)),(32,.int .i64 i)] (frO c xs)):=by
 have g:(rav r).length=r.length:=by simp
 have hl:=e.1;intro m;induction m with
 | zero=>
  intro i xs n d b;rw [Ah o_] at b;subst b;refine gV ?_;exact zW
 | succ m j=>
  intro i xs n d b;have a:i<r.length:=o_;have f:=e.at a;rw [Ae a,Bc] at b;generalize l:r[i]=x at b f;have get:(rav r)[i]? =some x.av:=(dT a).trans (by rw [l]);have next:=j (i+1) (AD xs x) o_ (by rw [yJ];exact d) b
  refine gV ?_;refine aT λ h=>gV ?_;refine ⟨i,rfl,gV ?_⟩;refine ⟨_,get,gV ?_⟩;exact To.cut [5,9,30,31,32,37,38,39] 3 rfl rfl rfl rfl (aHB c r R x i f k.hs [] x.hs.length 0 xs d o_ next o_)
def ZG(c:Con)(b:c.sm)(r:a6)(e:Sm r):∀ (m i:Nat),i+m=c.hs.length->
  To E AH (.pure (.ret (.slice 3 (vav (kI c r)) .no))) (.head (stk AH 0) [(1,.slice 14 (rav r) .no),(2,.ref 0 0),(5,.row 1 0),(17,.slice 6 (hav c.hs) .no),(18,.int .i64 ((hav c.hs).length:Nat)),(19,.int .i64 i)] (frO c (kK (λ i:Nat=>(bK c.hs (i:Int)).c) i m))):=by
 have d:(hav c.hs).length=c.hs.length:=by simp
 have h1:=b.hs;intro m;induction m with
 | zero=>
  intro i a;rw [EA];refine gV ?_;refine aF λ h=>gV ?_;refine To.cut [5,30,31,32] 2 rfl rfl rfl rfl ?_;exact aDi c b r e _ r.length 0 _ o_ q_ (by unfold kI;rw [<-a];rfl)
 | succ m f=>
  intro i a;have hl:(vav (kK (λ i:Nat=>(bK c.hs (i:Int)).c) i (m+1))).length=i+(m+1):=by rw [Cc,D9]
  have hs:=D8 (λ i:Nat=>(bK c.hs (i:Int)).c) i m;have g:(hav c.hs)[i]? =some (bK c.hs (i:Int)).av:=J4 o_;have next:=f (i+1) o_
  unfold frO at next
  rw [<-hs] at next
  refine gV ?_;refine aT λ h=>gV ?_;refine ⟨i,rfl,gV ?_⟩;refine ⟨_,g,?_⟩;exact zqha1
def V9(c:Con)(b:c.sm)(r:a6)(d:Sm r):aq 172 [c.av,.slice 14 (rav r) .no] [] (.ret (.slice 3 (vav (kI c r)) .no)) []:=by
 have h1:=b.hs;have a:(hav c.hs).length=c.hs.length:=by simp
 refine c_ Tryz.f172 λ_=>gV ?_;refine ⟨c.hs.length,by rw [a],gV ?_⟩;refine ⟨⟨rfl,by omega,by simp only [maxLen];omega⟩,?_⟩;refine gV ?_;have next:=ZG c b r d c.hs.length 0 o_
 unfold frO at next
 rw [yK] at next
 exact To.cut [1,2,5,17,18,19] 2 rfl rfl rfl rfl next
def aJK{a b:Int}(c:0<=a)(d:0<b)(e:a<=9223372036854775807):inR .i64 (Lx a b):=by
 have h3:(Lx a b).natAbs<=a.natAbs:=by rw [Int.natAbs_tdiv];exact Hc _ _
 have f:0<=Lx a b:=Int.tdiv_nonneg c o_;exact ⟨by simp only [cJ];omega,by simp only [bE];omega⟩
def zR(n free need:Int):Int:=if decide (0<need)=true then min n (Lx free need) else n
def eP(free need:V3):Int:=if cS need free=true then zR (zR (zR 16 free.a need.a) free.b need.b) free.c need.c else 0
def aNJ(v:V3)(M:Imm)(ob:Hs)(vs:ba)(d:ay)(h:cA M ob vs (v.av::d)):inR .i64 v.a/\inR .i64 v.b/\inR .i64 v.c:=by
 have hl:0<vs.length:=by rw [h.1];simp
 have:=h.2 0 _ v.av (Aa hl) rfl;exact ⟨cD this 0 _ rfl,cD this 1 _ rfl,cD this 2 _ rfl⟩
def aBu(free need:V3)(r:Int)(d:eP free need=r):aq 234 [free.av,need.av] [] (.ret (ii r)) []:=by
 refine aA.get _ (λ M ob vs h=>aNJ free M ob vs _ h) λ⟨⟨a1,a2⟩,⟨b1,b2⟩,⟨c1,c2⟩⟩=>?_;simp only [cJ,bE] at a1 a2 b1 b2 c1 c2;unfold eP at d;refine c_ Tryz.f234 λ_=>gV ?_;refine .pure _ [] (vI need free) (gV ?_);refine Ac (λ h1=>?_) (λ h1=>?_)
 .have h1:cS need free=false:=zY h1;rw [if_neg (by rw [h1];decide)] at d;subst d;exact zW
 .have h1:cS need free=true:=zZ h1;rw [if_pos h1] at d;unfold zR at d;have n:need.a<=free.a/\need.b<=free.b/\need.c<=free.c:=by
   unfold cS at h1;split at h1
   .cases h1
   .split at h1
    .cases h1
    .split at h1
     .cases h1
     .rename_i m l j;simp only [decide_eq_true_eq] at m l j;omega
  by_cases k:0<need.a<;>by_cases e:0<need.b<;>by_cases i:0<need.c<;>simp only [k,e,i,decide_true,decide_false,if_true,if_false,Cp] at d
  all_goals (refine gV ?_)
  all_goals repeat' first
   | (refine gW hE ?_;conv=>whnf)
   | exact d▸rfl
   | refine aY ?_
   | refine aN ?_
   | refine aT λ h=>?_
   | refine aF λ h=>?_
   | refine aJ ?_
   | refine Gd (Ac (aJK o_ o_ o_) ?_)
   | refine Ap _ (Ac rfl ?_)
   | refine Ac d_ ?_
   | refine Ac o_ ?_
   | fail
def UR(free need:V3):aq 234 [free.av,need.av] [] (.ret (ii (eP free need))) []:=aBu free need _ rfl
def ofK(h:Hos)(i lv:Int):aw:=[h.f,if decide (2<lv)=true then 0 else h.b,if decide (1<lv)=true then 0 else h.r,if decide (0<lv)=true then 0 else i]
def aGD(h:Hos)(i lv:Int)(K:ay)(a:(ofK h i lv).map ii=K):aq 245 [h.av,ii i,ii lv] [] (.ret (.agg K)) []:=by
 unfold ofK at a;refine c_ Tryz.f245 λ_=>?_
 repeat' first | (refine gN hE ?_;conv=>whnf) | exact rfl | refine zt ?_ | refine zu ?_ ?_ | intro h | fail
 all_goals first
  | (subst a;simp only [*,Cp,if_true,if_false,List.map];done)
  | (exfalso;simp only [decide_eq_true_eq,decide_eq_false_iff_not] at *;omega)
def aKz(h:Hos)(i lv:Int):aq 245 [h.av,ii i,ii lv] [] (.ret (.agg ((ofK h i lv).map ii))) []:=aGD h i lv _ rfl
def aJy{n:Nat}(h:n<=16):n=0\/n=1\/n=2\/n=3\/n=4\/n=5\/n=6\/n=7\/n=8\/n=9\/n=10\/n=11\/n=12\/n=13\/n=14\/n=15\/n=16:=o_
def aCs(n:Nat)(a:n<=16):aq 177 [.int .u64 1,.int .u64 (n:Int)] [] (.ret (.tup [.int .u64 0,.int .u64 (n:Int)])) []:=by
 rcases aJy a with rfl | rfl | rfl | rfl | rfl | rfl | rfl | rfl | rfl | rfl | rfl | rfl | rfl | rfl | rfl | rfl | rfl
 all_goals
  refine c_ Tryz.f177 λ_=>?_
  repeat' first
   | (refine gN hE ?_;conv=>whnf)
   | exact rfl
   | refine Gd (Ac (Ac d_ d_) ?_)
   | refine Ac d_ ?_
   | fail
def aKC(n:Nat)(b:n<=16):aq 262 [.int .u64 1,.int .u64 (n:Int)] [] (.ret (.tup [.int .u64 0,.int .u64 (n:Int)])) []:=by refine c_ Tryz.f262 λ_=>?_;have a:=aCs n b;exact zW
def rp(h:Int)(k m:Nat):ay:=iv (Aj k h)++Aj m (ii 0)
def CK(h:Int)(k m:Nat):(rp h k m).length=k+m:=by simp [rp]
noncomputable abbrev aM9:Func:=Tryz.f246
def aF1(h:Int)(k m:Nat):((k:Int)+ ↑(min (Hy k (Hj 0 (rp h k m))).length ((rp h k m).length-k)))=((k+min k m:Nat):Int)/\
  (rp h k m).take k++(Hy k (Hj 0 (rp h k m))).take ((rp h k m).length-k)++(rp h k m).drop (k+min (Hy k (Hj 0 (rp h k m))).length ((rp h k m).length-k))=rp h (k+min k m) (m-min k m):=by
 have a:(iv (Aj k h)).length=k:=by simp
 have h1:(rp h k m).take k=iv (Aj k h):=by unfold rp;rw [Db o_,Ch o_]
 have hl:=CK h k m;rw [Cq,h1,hl,a,show k+m-k=m from by omega];refine ⟨by omega,?_⟩;have b:(rp h k m).drop (k+min k m)=Aj (m-min k m) (ii 0):=by unfold rp;rw [List.drop_append,a,List.drop_of_length_le o_,Bn,List.drop_replicate];congr 1;omega
 rw [b];unfold rp;congr 1;simp only [iv,List.map_replicate,List.take_replicate,List.replicate_append_replicate];congr 1;omega
def aBE(a:Int)(N:Nat)(l:N<=16):∀ (f k m:Nat),k+m=N->1<=k->m<=f->
  To (Er [] [38]) aM9 (.pure (.ret (.slice 1 (iv (Aj N a)) .no))) (.head (stk aM9 0) [(7,.row 0 0),(8,.int .i64 (k:Int))] [.row 0 1 3 (rp a k m)]):=by
 intro f;induction f with
 | zero=>
  intro k m b h1 hm;have hm:m=0:=o_;subst hm;exact zqha5
 | succ f g=>
  intro k m b h1 hm;by_cases i:m=0
  .subst i;exact zqha5
  have hl:=CK a k m;have next:=g (k+min k m) (m-min k m) o_ o_ o_
  generalize d:rp a k m=X at hl⊢;refine gV ?_;refine aT λ h=>gV ?_;refine ⟨k,rfl,gV ?_⟩;refine ⟨by omega,gV ?_⟩;refine ⟨k,rfl,gV ?_⟩;refine ⟨by omega,gV ?_⟩;rw [<-d] at hl⊢;obtain ⟨c,j⟩:=aF1 a k m;rw [<-c,<-j] at next
  have n:min (Hy k (Hj 0 (rp a k m))).length ((rp a k m).length-k)<=16:=by have:(rp a k m).length=k+m:=CK a k m;omega
  exact zW
def aBq(h:Int)(m:Nat):((1:Nat):Int)= ↑(min [ii h].length (Aj (m+1) (aa.int .i64 0)).length)/\rp h 1 m=[ii h].take (Aj (m+1) (aa.int .i64 0)).length++(Aj (m+1) (aa.int .i64 0)).drop [ii h].length:=by refine ⟨by simp,?_⟩;simp [rp,List.drop_replicate]
def aKf(h:Int)(n:Nat)(a:n<=16):aq 246 [.slice 1 [ii h] .no,ii (n:Int)] [] (.ret (.slice 1 (iv (Aj n h)) .no)) []:=by
 have hm:=aKC n a;cases n with
 | zero=>
  refine cT (E:=(Er [] [38])) (fn:=Tryz.f246) (g:=.pure _) λ_=>gV ?_;refine aF λ h=>gV ?_;refine Gd (Ac (Ac (by simp only [cJ,Al,Bu];omega) (by simp only [bE,Al,Bu];omega)) ?_);refine gV ?_;refine Gd (Ac (Ac (by simp only [cJ];omega) (by simp only [bE];omega)) ?_);refine gV ?_;refine .pure _ [] hm (gV ?_);refine aF λ h=>gV ?_;refine aF λ h=>gV ?_;refine Gd (Ac (Ac (by simp only [cJ];omega) (by simp only [bE];omega)) ?_);refine gV ?_;refine ⟨0,rfl,gV ?_⟩;refine ⟨⟨rfl,by omega,by simp only [maxLen];omega⟩,?_⟩;refine gV ?_;refine gV ?_;exact zW
 | succ m=>
  have next:=aBE h (m+1) a (m+1) 1 m o_ o_ o_
  obtain ⟨b,c⟩:=aBq h m;rw [b,c] at next
  refine cT (E:=(Er [] [38])) (fn:=Tryz.f246) (g:=.pure _) λ_=>gV ?_;refine aF λ h=>gV ?_;refine Gd (Ac (Ac (by simp only [cJ,Al,Bu];omega) (by simp only [bE,Al,Bu];omega)) ?_);refine gV ?_;refine Gd (Ac (Ac (by simp only [cJ];omega) (by simp only [bE];omega)) ?_);refine gV ?_;refine .pure _ [] hm (gV ?_);refine aF λ h=>gV ?_;refine aF λ h=>gV ?_;refine Gd (Ac (Ac (by simp only [cJ];omega) (by simp only [bE];omega)) ?_);refine gV ?_;refine ⟨m+1,rfl,gV ?_⟩;refine ⟨⟨rfl,by omega,by simp only [maxLen];omega⟩,?_⟩;exact zW
def aBv(a b:V3):eP a b<=16:=by
 have h:∀ n f k,n<=16->zR n f k<=16:=λ n f k h=>by unfold zR;split<;>omega
 unfold eP;split
 .exact h _ _ _ (h _ _ _ (h _ _ _ d_))
 .decide
def inN(free need:V3)(pods len:Int):Int:=min (eP free need) (pods-len)
def inS(free:a8)(g:Gan)(out:aw)(h:Int):aw:=if decide (h<0)=true then out else if decide ((free.length:Int)<=h)=true then out else out++Aj (max (inN ((free[h.toNat]?).getD V3.zero) g.need g.pods out.length) 0).toNat h
def inL(free:a8)(g:Gan)(a:aw):aw:=a.foldl (inS free g) []
def J2(free:a8)(g:Gan)(out:aw)(h:Int)(hp:(out.length:Int)<=g.pods):((inS free g out h).length:Int)<=g.pods:=by
 unfold inS;split
 .exact hp
 .split
  .exact hp
  .simp only [Ai,Gc,inN];omega
noncomputable abbrev fIn:Func:=Tryz.f214
def aCT(out:aw)(g:Gan):aa:=if decide ((out.length:Int)<g.pods)=true then .tup [.slice 1 [] .no,.bool false] else .tup [.slice 1 (iv out) .no,.bool true]
def aHj(c:Con)(free:a8)(g:Gan)(u:0<=g.pods/\g.pods<=16)(a:aw)(hl:a.length<=1048576)(R:aw):∀ (m i:Nat) (out:aw),i+m=a.length->(out.length:Int)<=g.pods->(a.drop i).foldl (inS free g) out=R->
  To (Eo [10] []) fIn (.pure (.ret (aCT R g))) (.head (stk fIn 0) [(1,.slice 3 (vav free) .no),(7,.ref 1 0),(10,.slice 1 (iv out) (.own 2 0)),(14,.slice 1 (iv a) .no),(15,.int .i64 ((iv a).length:Nat)),(16,.int .i64 i)] [.cells 30 c.cs,.cells 34 g.cs,.tail 0 1 3]):=by
 have w:(iv a).length=a.length:=by simp
 have D:(vav free).length=free.length:=by simp
 intro m;induction m with
 | zero=>
  intro i out C hp d;rw [Ah o_] at d;have d:out=R:=d;subst d;have n:(iv out).length=out.length:=by simp
  obtain ⟨Q,j⟩:∃ Q,Q=aCT out g:=⟨_,rfl⟩
  rw [<-j];unfold aCT at j;by_cases h1:(out.length:Int)<g.pods
  .rw [if_pos (decide_eq_true h1)] at j;subst j;refine gV ?_;exact zW
  .rw [if_neg (by rw [decide_eq_false h1];decide)] at j;subst j;refine gV ?_;exact zW
 | succ m x=>
  intro i out C hp d;have k:i<a.length:=o_;rw [Ae k,Bc] at d;have l:=J2 free g out a[i] hp;generalize z:a[i]=u0 at d l;have get:(iv a)[i]? =some (ii u0):=(gR k).trans (by rw [z]);have n:(iv out).length=out.length:=by simp
  have next:=x (i+1) (inS free g out u0) o_ l d
  unfold inS at next
  refine gV ?_;refine aT λ h=>gV ?_;refine ⟨i,rfl,gV ?_⟩;refine ⟨_,get,?_⟩;by_cases h1:u0<0
  .rw [if_pos (decide_eq_true h1)] at next
   exact zW
  .rw [if_neg (by rw [decide_eq_false h1];decide)] at next
   by_cases r:(free.length:Int)<=u0
   .rw [if_pos (decide_eq_true r)] at next
    exact zW
   .rw [if_neg (by rw [decide_eq_false r];decide)] at next
    have o:u0.toNat<free.length:=o_;have y:u0=(u0.toNat:Int):=o_;rw [Aa o] at next
    have v:(vav free)[u0.toNat]? =some free[u0.toNat].av:=vM o;rw [show ((some free[u0.toNat]).getD V3.zero)=free[u0.toNat] from rfl] at next
    generalize free[u0.toNat]=f0 at v next
    have s:=aBv f0 g.need;have f:(max (inN f0 g.need g.pods out.length) 0).toNat<=16:=by unfold inN;omega
    have p:max (min (eP f0 g.need) (g.pods-((iv out).length:Nat))) 0=(((max (inN f0 g.need g.pods out.length) 0).toNat:Nat):Int):=by unfold inN;rw [n];omega
    have b:=aKf u0 _ f;rw [<-p] at b;generalize F:(max (inN f0 g.need g.pods out.length) 0).toNat=N at f b next
    have e:iv (out++Aj N u0)=iv out++iv (Aj N u0):=by simp
    rw [e] at next
    have B:(iv (Aj N u0)).length=N:=by simp
    have A:=u.1;have q:=u.2
    repeat' first | (refine gN (hEo [10] []) ?_;conv=>whnf) | refine ⟨u0.toNat,y,?_⟩ | refine ⟨_,v,?_⟩ | refine .pure _ [] (UR f0 g.need) ?_ | refine .pure _ [] (aA.strip b) ?_ | refine Ac (Ac (by simp only [maxLen];omega) o_) ?_ | exact rfl | refine zt ?_ | refine zu ?_ ?_ | intro h | fail
    exact zW
def aMP(c:Con)(free:a8)(g:Gan)(d:0<=g.pods/\g.pods<=16)(a:aw)(hl:a.length<=1048576):aq 214 [c.av,.slice 3 (vav free) .no,.slice 1 (iv a) .no,g.av] [] (.ret (aCT (inL free g a) g)) []:=by refine cT (E:=(Eo [10] [])) (fn:=Tryz.f214) (g:=.pure _) λ_=>?_;have b:=aHj c free g d a hl _ a.length 0 [] o_ (by simpa using d.1) rfl;exact zW
noncomputable abbrev sX:Func:=Tryz.f213
abbrev GSt:=List (aw×Nat)×List aw
def lS:List (aw×Nat)->aw->Option Nat
 | [],_=>none
 | (k,v)::r,x=>if k=x then some v else lS r x
abbrev kav(es:List (aw×Nat)):List (aw×aa):=es.map λ p=>(p.1,ii p.2)
def DP(x:aw):∀ es,bR (kav es) x=(lS es x).map λ n:Nat=>ii n
 | []=>rfl
 | (k,v)::r=>by
  show (if k=x then some (ii v) else bR (kav r) x)=(if k=x then some v else lS r x).map _;split
  .rfl
  .exact DP x r
def VK(x:aw)(v:Nat):∀ es,lS es x=none->lP (kav es) x (ii v)=kav (es++[(x,v)])
 | [],_=>rfl
 | (k,u)::r,h=>by
  have h:(if k=x then some u else lS r x)=none:=h;show (if k=x then (x,ii v)::kav r else (k,ii u)::lP (kav r) x (ii v))=(k,ii u)::kav (r++[(x,v)]);split at h
  .cases h
  .rename_i a;rw [if_neg a,VK x v r h]
def gpS(c:Con)(lv:Int)(s:GSt)(i:Nat):GSt:=
 match lS s.1 (ofK (bK c.hs (i:Int)) i lv) with
 | some k=>(s.1,s.2.set k ((s.2[k]?).getD []++[(i:Int)]))
 | none=>(s.1++[(ofK (bK c.hs (i:Int)) i lv,s.2.length)],s.2++[[(i:Int)]])
def gpL(c:Con)(lv:Int):List aw:=if decide (lv<0)=true then [] else if decide (3<lv)=true then [] else ((Di c.hs.length).foldl (gpS c lv) ([],[])).2
abbrev gav(l:List aw):ay:=l.map λ xs=>.slice 1 (iv xs) .no
abbrev OE(c:Con)(gr gb:Nat)(es:List (aw×Nat))(ms:List Hm):au:=[.cells 30 c.cs,.row gr 1 66 (ms.map hmA),.mp true (kav es),.bun gb (mK 1 3 ms)]
abbrev aMR(c:Con)(lv:Int)(gr i:Nat):ar:=[(1,ii lv),(5,.row 1 gr),(6,.mref 2),(20,.slice 6 (hav c.hs) .no),(21,.int .i64 ((hav c.hs).length:Nat)),(22,ii i)]
def aC3(c:Con)(lv:Int)(G:Goal)(i k:Nat)(l:i<1048576)(b:List Hm)(m:Hm)(hm:b[k]? =some m)(g:m.2.2.length<=1048576)(h:b.length<=1048576)(es:List (aw×Nat))(j:Fv G.n0 4=true)
  (next:∀ a e,To (Er [5] []) sX G (.code (dB sX 14) (aMR c lv 0 i) (OE c 0 1 es (b.set k (a,e,m.2.2++[ii i]))))):
  To (Er [5] []) sX G (.code (nC sX 14) [(1,ii lv),(5,.row 1 0),(6,.mref 2),(7,ii i),(10,ii k),(20,.slice 6 (hav c.hs) .no),(21,.int .i64 ((hav c.hs).length:Nat)),(22,ii i)] (OE c 0 0 es b)):=by
 refine To.handAt (hEr [5] []) 8 [] rfl rfl rfl ?_;conv=>whnf
 refine ⟨k,rfl,?_⟩;conv=>whnf
 have f:(b.map hmA)[k]? =some (hmA m):=by rw [Bg,hm];rfl
 refine ⟨by have:=(Ab.1 hm).1;simpa using this,?_⟩;conv=>whnf
 refine ⟨_,f,?_⟩;conv=>whnf
 refine .mk 3 0 k b m [ii i] 3 1 8 1 false (.slice 1 [] .nil) rfl hm rfl rfl rfl rfl ⟨by show _+1<=_;simp only [maxLen];omega,by show (_+1)*8<=_;omega⟩ λ a e=>?_;have d:k<(b.map hmA).length:=by have:=(Ab.1 hm).1;simpa using this
 have next:=next a e
 unfold OE at next
 rw [Gt] at next
 refine gV ?_;refine ⟨k,rfl,gV ?_⟩;refine ⟨d,gV ?_⟩;refine ⟨d,?_⟩;refine cP (hEr [5] []) 3 ?_;conv=>whnf
 refine To.cutC (fr:=[(1,_),(5,_),(6,_),(7,_),(10,_),(20,_),(21,_),(22,_),(47,_),(48,_),(49,_),(50,_),(51,_),(52,_),(53,_),(54,_),(55,_),(56,_)]) (ac:=[_,_,_,_]) [1,5,6,20,21,22] 4 j rfl rfl rfl ?_;exact next
def GU(x:aw)(v:Nat)(y:aw):∀ es,lS (es++[(x,v)]) y=match lS es y with | some k=>some k | none=>if x=y then some v else none
 | []=>rfl
 | (k,u)::r=>by
  show (if k=y then some u else lS (r++[(x,v)]) y)=match (if k=y then some u else lS r y) with | some k=>some k | none=>if x=y then some v else none
  split
  .rfl
  .exact GU x v y r
structure GI(i:Nat)(s:GSt):Prop where
 key:∀ p∈s.1,p.1.length=4
 at':∀ x k,lS s.1 x=some k->k<s.2.length
 len:s.2.length<=i
 each:∀ xs∈s.2,xs.length<=i
def GI.step{c:Con}{lv:Int}{i:Nat}{s:GSt}(h:GI i s):GI (i+1) (gpS c lv s i):=by
 obtain ⟨h1,b,h3,e⟩:=h;unfold gpS;split
 .rename_i k f;refine ⟨h1,λ x k h=>by simpa using b x k h,by simp;omega,λ xs a=>?_⟩;rcases Df a with a | rfl
  .have:=e xs a;omega
  .have hl:=b _ k f;rw [Aa hl];have:=e _ (Bf hl);simp;omega
 .rename_i f;refine ⟨λ p hp=>?_,λ x k a=>?_,by simp;omega,λ xs a=>?_⟩
  .rcases Ba.1 hp with hp | hp
   .exact h1 p hp
   .simp at hp;subst hp;rfl
  .rw [GU] at a;split at a
   .rename_i k' d;have:=b x k' d;cases a;simp;omega
   .split at a
    .cases a;simp
    .cases a
  .rcases Ba.1 a with a | a
   .have:=e xs a;omega
   .simp at a;subst a;simp
def aHu(c:Con)(I:c.sm)(lv:Int)(P:0<=lv)(O:lv<=3)(R:List aw):∀ (n i:Nat) (s:GSt) (b:List Hm),i+n=c.hs.length->b.map (λ m=>m.2.2)=s.2.map iv->GI i s->((Ij i n).foldl (gpS c lv) s).2=R->
  To (Er [5] []) sX (.pure (.ret (.slice 1 (gav R) .no))) (.head (stk sX 0) (aMR c lv 0 i) (OE c 0 0 s.1 b)):=by
 have h1:=I.hs;have F:(hav c.hs).length=c.hs.length:=by simp
 intro n;induction n with
 | zero=>
  intro i s b L d u y;have y:s.2=R:=y;subst y;refine To.ofC (To.famFrz 3 1 rfl rfl ?_);have e:(b.map λ m=>aa.slice 1 m.2.2 .no)=gav s.2:=by have:=congrArg (List.map λ xs=>aa.slice 1 xs .no) d;rw [Dw,Dw] at this;exact this
  rw [e];refine To.toC (gV ?_);exact zW
 | succ n G=>
  intro i s b L d u y;rw [Ly,Bc] at y;have K:(hav c.hs)[i]? =some (bK c.hs (i:Int)).av:=J4 o_;have next:=λ z h=>G (i+1) (gpS c lv s i) z o_ h u.step y
  have l:∀ p∈kav s.1,p.1.length=4:=λ p hp=>by obtain ⟨q,J,rfl⟩:=Ca.1 hp;exact u.key q J
  refine gV ?_;refine aT λ h=>gV ?_;refine ⟨i,rfl,gV ?_⟩;refine ⟨_,K,gV ?_⟩;refine .pure _ [] (aKz (bK c.hs (i:Int)) i lv) (gV ?_);refine ⟨l,gV ?_⟩;cases v:lS s.1 (ofK (bK c.hs (i:Int)) i lv) with
  | none=>
   have D:bR (kav s.1) (ofK (bK c.hs (i:Int)) i lv)=none:=by rw [DP,v];rfl
   refine ⟨_,D,gV ?_⟩;refine aY (gV ?_);refine ⟨l,gV ?_⟩;have g:b.length=s.2.length:=by have:=congrArg Lk d;simpa using this
   have A:=u.len;have f:(b.map hmA).length=b.length:=by simp
   refine ⟨⟨by show (b.map hmA).length+1<=_;simp only [maxLen];omega,by show ((b.map hmA).length+1)*24<=_;omega⟩,?_⟩;refine cP (hEr [5] []) 6 ?_;conv=>whnf
   have N:(b.map hmA).length=s.2.length:=f.trans g;have e:=VK (ofK (bK c.hs (i:Int)) i lv) (b.map hmA).length s.1 v;have B:gpS c lv s i=(s.1++[(ofK (bK c.hs (i:Int)) i lv,(b.map hmA).length)],s.2++[[(i:Int)]]):=by unfold gpS;rw [v,N]
   rw [B] at next
   have hm:(b++[((none,0,[]):Hm)])[(b.map hmA).length]? =some (none,0,[]):=by rw [f,Ak (Bd _)];simp
   have r:=aC3 c lv (.pure (.ret (.slice 1 (gav R) .no))) i (b.map hmA).length o_ (b++[(none,0,[])]) _ hm s_ q_ (s.1++[(ofK (bK c.hs (i:Int)) i lv,(b.map hmA).length)]) rfl λ a C=>by
    have next:=next ((b++[(none,0,[])]).set (b.map hmA).length (a,C,[]++[ii i])) (by rw [f,Ha _ _ (Bd _)];simp [d])
    exact zW
   unfold OE at r;rw [<-e] at r;refine To.cutC [1,5,6,7,10,20,21,22] 4 rfl rfl rfl rfl ?_;refine To.objTo 1 (x:=.row 1 1 66 (b.map hmA++[.nilslice])) (x':=.row 1 1 66 ((b++[(none,0,[])]).map hmA)) rfl (λ h=>by cases h) rfl (λ M ob w hs _ h=>aF4 h) ?_;refine To.objTo 3 (x:=.bun 0 (mK 1 3 b)) (x':=.bun 0 (mK 1 3 (b++[(none,0,[])]))) rfl (λ h=>by cases h) rfl (λ M ob w hs _ h=>aHD h) ?_;refine To.toC ?_;refine To.part [1,5,6,7,10,20,21,22] [0,1,2,3] rfl rfl rfl ?_;refine To.ofC ?_;exact r
  | some k=>
   have D:bR (kav s.1) (ofK (bK c.hs (i:Int)) i lv)=some (ii k):=by rw [DP,v];rfl
   refine ⟨_,D,gV ?_⟩;refine aN ?_;refine cP (hEr [5] []) 1 ?_;conv=>whnf
   have o:=u.at' _ k v;have f:(b.map (λ m=>m.2.2))[k]? =some (iv s.2[k]):=by rw [d,Bg,Aa o];rfl
   rw [Bg] at f;obtain ⟨m,hm,j⟩:=Cf.1 f;have j:m.2.2=iv s.2[k]:=j;have g:b.length=s.2.length:=by have:=congrArg Lk d;simpa using this
   have H:=u.each _ (Bf o);have A:=u.len;have B:gpS c lv s i=(s.1,s.2.set k (s.2[k]++[(i:Int)])):=by unfold gpS;rw [v];show (s.1,s.2.set k ((s.2[k]?).getD []++[(i:Int)]))=_;rw [Aa o];rfl
   rw [B] at next
   refine To.cutC [1,5,6,7,10,20,21,22] 4 rfl rfl rfl rfl ?_;refine aC3 c lv _ i k o_ b m hm (by rw [j];simp;omega) o_ s.1 rfl λ a C=>?_;have next:=next (b.set k (a,C,m.2.2++[ii i])) (by rw [Gt,Gt,d,j];simp)
   exact zW
def G9(c:Con)(d:c.sm)(lv:Int):aq 213 [c.av,ii lv] [] (.ret (.slice 1 (gav (gpL c lv)) .no)) []:=by
 have h1:=d.hs;have i:(hav c.hs).length=c.hs.length:=by simp
 obtain ⟨R,a⟩:∃ R,R=gpL c lv:=⟨_,rfl⟩
 rw [<-a];unfold gpL at a;refine cT (E:=(Er [5] [])) (fn:=Tryz.f213) (g:=.pure _) λ_=>?_;by_cases e:lv<0
 .rw [if_pos (decide_eq_true e)] at a;subst a;exact zW
 rw [if_neg (by rw [decide_eq_false e];decide)] at a;by_cases b:3<lv
 .rw [if_pos (decide_eq_true b)] at a;subst a;exact zW
 rw [if_neg (by rw [decide_eq_false b];decide),Ik] at a
 repeat' first | (refine gN (hEr [5] []) ?_;conv=>whnf) | exact rfl | refine zt ?_ | refine zu ?_ ?_ | intro h | fail
 refine To.ofC (To.beginF 1 3 ?_);refine To.toC ?_;have:=aHu c d lv o_ o_ R c.hs.length 0 ([],[]) [] o_ rfl ⟨λ p h=>(by simp at h),λ x k h=>(by cases h),Bd _,λ xs h=>by simp at h⟩ a.symm;exact zW
structure GO(n i:Nat)(s:GSt):Prop where
 base:GI i s
 ok:∀ xs∈s.2,xs≠[]/\∀ h∈xs,0<=h/\h<(n:Int)
def GO.step{c:Con}{lv:Int}{n i:Nat}{s:GSt}(g:i<n)(h:GO n i s):GO n (i+1) (gpS c lv s i):=by
 refine ⟨h.base.step,?_⟩;obtain ⟨e,d⟩:=h;have one:∀ h∈[(i:Int)],0<=h/\h<(n:Int):=λ h b=>by simp at b;omega
 unfold gpS;split
 .rename_i k f;intro xs a;rcases Df a with a | rfl
  .exact d xs a
  .refine ⟨by simp,λ h b=>?_⟩;rcases Ba.1 b with b | b
   .have hl:=e.at' _ k f;rw [Aa hl] at b;exact (d _ (Bf hl)).2 h b
   .exact one h b
 .intro xs a;rcases Ba.1 a with a | a
  .exact d xs a
  .have a:xs=[(i:Int)]:=by simpa using a
   subst a;exact ⟨by simp,one⟩
def GO.fold{c:Con}{lv:Int}{n:Nat}:∀ (m i:Nat) (s:GSt),i+m=n->GO n i s->GO n n ((Ij i m).foldl (gpS c lv) s)
 | 0,i,s,hi,h=>by have:i=n:=o_
                  subst this;exact h
 | m+1,i,s,hi,h=>by rw [Ly,Bc];exact GO.fold m (i+1) _ o_ (h.step o_)
def aC4(c:Con)(lv:Int):(gpL c lv).length<=c.hs.length/\∀ xs∈gpL c lv,xs≠[]/\xs.length<=c.hs.length/\∀ h∈xs,0<=h/\h<(c.hs.length:Int):=by
 unfold gpL;split
 .exact ⟨Bx _,λ xs h=>by simp at h⟩
 split
 .exact ⟨Bx _,λ xs h=>by simp at h⟩
 rw [Ik];have:=GO.fold (c:=c) (lv:=lv) (n:=c.hs.length) c.hs.length 0 ([],[]) o_ ⟨⟨λ p h=>(by simp at h),λ x k h=>(by cases h),Bd _,λ xs h=>(by simp at h)⟩,λ xs h=>(by simp at h)⟩;exact ⟨this.base.len,λ xs a=>⟨(this.ok xs a).1,this.base.each xs a,(this.ok xs a).2⟩⟩
def fdG(c:Con)(free:a8)(g:Gan):List aw->Option (Int×aw)
 | []=>none
 | gr::r=>if decide (((inL free g gr).length:Int)<g.pods)=true then fdG c free g r else some ((bK c.hs (gr.headD 0)).f,inL free g gr)
def fdL(c:Con)(free:a8)(g:Gan):Nat->Int->Option (Int×aw)
 | 0,_=>none
 | n+1,lv=>match fdG c free g (gpL c lv) with
  | some x=>some x
  | none=>fdL c free g n (lv+1)
def fdA:Option (Int×aw)->aa
 | some x=>.tup [ii x.1,.slice 1 (iv x.2) .no,.bool true]
 | none=>.tup [ii 0,.slice 1 [] .no,.bool false]
def AF(c:Con)(free:a8)(g:Gan):Option (Int×aw):=fdL c free g (min g.lev 3+1-max g.pref 0).toNat (max g.pref 0)
noncomputable abbrev HP:Func:=Tryz.f171
abbrev WK(c:Con)(g:Gan):au:=[.cells 30 c.cs,.cells 34 g.cs]
abbrev aLc(free:a8)(lv:Int):ar:=[(1,.slice 3 (vav free) .no),(3,.ref 0 0),(5,.ref 1 0),(9,ii lv)]
def V7{l:List aw}{i:Nat}(h:i<l.length):(gav l)[i]? =some (.slice 1 (iv l[i]) .no):=by simp [gav,h]
def aM1(c:Con)(z:c.sm)(free:a8)(g:Gan)(A:0<=g.pods/\g.pods<=16)(lv:Int)(t:0<=lv)(v:lv<=3)(Q:Option (Int×aw))(a:List aw)(C:a.length<=1048576)(o:∀ xs∈a,xs≠[]/\xs.length<=c.hs.length/\∀ h∈xs,0<=h/\h<(c.hs.length:Int)):
  ∀ (m i:Nat),i+m=a.length->(∀ x,fdG c free g (a.drop i)=some x->Q=some x)->(fdG c free g (a.drop i)=none->To E HP (.pure (.ret (fdA Q))) (.head (stk HP 0) (aLc free (lv+1)) (WK c g)))->
  To E HP (.pure (.ret (fdA Q))) (.head (stk HP 1) (aLc free lv++[(26,.slice 1 (gav a) .no),(27,.int .i64 ((gav a).length:Nat)),(28,ii i)]) (WK c g)):=by
 have s:(gav a).length=a.length:=by simp
 have w:(hav c.hs).length=c.hs.length:=by simp
 have B:=z.hs;intro m;induction m with
 | zero=>
  intro i D hs b;rw [Ah o_] at b;have b:=b rfl;refine gV ?_;exact zW
 | succ m n=>
  intro i D hs b;have e:i<a.length:=o_;have n:=n (i+1) o_;rw [Ae e] at hs b;have j:=o _ (Bf e);have get:=V7 e;generalize a[i]=gr at hs b j get;obtain ⟨l,u,k⟩:=j;have f:=aMP c free g A gr o_;unfold fdG at hs b;unfold aCT at f;refine gV ?_;refine aT λ h=>gV ?_;refine ⟨i,rfl,gV ?_⟩;refine ⟨_,get,gV ?_⟩;by_cases q:((inL free g gr).length:Int)<g.pods
  .rw [if_pos (decide_eq_true q)] at hs b f;have next:=n hs b
   exact zW
  .rw [if_neg (by rw [decide_eq_false q];decide)] at hs b f;have F:=hs _ rfl;subst F
   match gr,l with
   | d::r,_=>
   have y:=k d s_;have G:(hav c.hs)[d.toNat]? =some (bK c.hs d).av:=by have:=J4 (c:=c) (i:=d.toNat) o_;rwa [Kw y.1] at this
   have b:d=(d.toNat:Int):=o_;have p:(iv (d::r))[0]? =some (ii d):=rfl;exact zW
def aLb(c:Con)(e:c.sm)(free:a8)(g:Gan)(l:0<=g.pods/\g.pods<=16):∀ (n:Nat) (lv:Int),0<=lv->n=(min g.lev 3+1-lv).toNat->
  To E HP (.pure (.ret (fdA (fdL c free g n lv)))) (.head (stk HP 0) (aLc free lv) (WK c g)):=by
 intro n;induction n with
 | zero=>
  intro lv i k;refine gV ?_;exact zW
 | succ n d=>
  intro lv i k;have d:=d (lv+1) o_ o_;have f:=aC4 c lv;have m:=e.hs;have j:(gav (gpL c lv)).length=(gpL c lv).length:=by simp
  obtain ⟨Q,b⟩:∃ Q,Q=fdL c free g (n+1) lv:=⟨_,rfl⟩
  rw [<-b];unfold fdL at b;refine gV ?_;refine aT λ h=>gV ?_;refine .pure _ [] (G9 c e lv) ?_
  repeat' first | (refine gN hE ?_;conv=>whnf) | exact rfl | refine zt ?_ | refine zu ?_ ?_ | intro h | fail
  refine To.cut [1,3,5,9,26,27,28] 2 rfl rfl rfl rfl ?_;refine aM1 c e free g l lv i o_ Q (gpL c lv) o_ f.2 (gpL c lv).length 0 o_ (λ x a=>?_) (λ a=>?_)
  .have a:fdG c free g (gpL c lv)=some x:=a;rw [a] at b;exact b
  .have a:fdG c free g (gpL c lv)=none:=a;rw [a] at b;rw [b];exact d
def find_ok(c:Con)(a:c.sm)(free:a8)(g:Gan)(b:0<=g.pods/\g.pods<=16):aq 171 [c.av,.slice 3 (vav free) .no,g.av] [] (.ret (fdA (AF c free g))) []:=by refine c_ Tryz.f171 λ_=>gV ?_;exact To.cut [1,3,5,9] 2 rfl rfl rfl rfl (aLb c a free g b _ _ o_ rfl)
def cM(c:Con)(l:a6)(g:Gan):Option (Int×aw):=if NQ c (ofL c l) g.ten (dem g)=true then AF c (kI c l) g else none
def aDn(c:Con)(e:c.sm)(l:a6)(hl:Sm l)(g:Gan)(m:0<=g.pods/\g.pods<=16)(Q:Option (Int×aw))(a:cM c l g=Q):aq 123 [c.av,.slice 14 (rav l) .no,g.av] [] (.ret (fdA Q)) []:=by
 unfold cM at a;have hm:=aKG c e (ofL c l) g.ten (dem g);have k:=ST g;generalize NQ c (ofL c l) g.ten (dem g)=b at a hm;generalize dem g=d at hm k;have i:=find_ok c e (kI c l) g m;have j:=V9 c e l hl;have h:=NE c e l hl.1;generalize kI c l=fr at i a j;generalize ofL c l=us at hm h;cases b with
 | false=>
  have a:none=Q:=a;subst a;exact zqha7
 | true=>
  have a:AF c fr g=Q:=a;rw [a] at i;unfold fdA at i⊢;cases Q with
  | none=>
   exact zqha7
  | some x=>
   exact zqha7
def xC(c:Con)(a:c.sm)(l:a6)(hl:Sm l)(g:Gan)(b:0<=g.pods/\g.pods<=16):aq 123 [c.av,.slice 14 (rav l) .no,g.av] [] (.ret (fdA (cM c l g))) []:=aDn c a l hl g b _ rfl
def aA.nil2{P:Program}{f:FuncId}{a:aa}{g:ay}{j:Nat}{ac ao:au}{r:Res}(h:aA P f (a:: .slice j [] .no::g) ac r ao):aA P f (a:: .nilslice::g) ac r ao:=
 λ M ob w b hm d=>h M ob w b hm ⟨d.1,λ i v x e c=>by
  match i with
  | 0=>exact d.2 0 v x e c
  | 1=>
   have c:aa.slice j [] .no=x:=by simpa using c
   subst c;have:=d.2 1 v .nilslice e rfl;cases this;exact .slnil _ _ trivial
  | i+2=>exact d.2 (i+2) v x e c⟩
def YX(c:Con)(j:c.sm)(g:Gan)(k:0<=g.pods/\g.pods<=16)(b:Bool)(d:(cM c [] g).isNone=b):aq 81 [c.av,g.av] [] (.ret (.bool b)) []:=by
 have a:=xC c j [] ⟨Bx _,λ x h=>by simp at h⟩ g k;generalize cM c [] g=Q at a d;subst d;unfold fdA at a;cases Q with
 | none=>
  refine c_ Tryz.f81 λ_=>?_;have i:=aA.nil2 a;exact zW
 | some x=>
  refine c_ Tryz.f81 λ_=>?_;have e:=aA.nil2 a;exact zW
def NN(c:Con)(b:c.sm)(g:Gan)(a:0<=g.pods/\g.pods<=16):aq 81 [c.av,g.av] [] (.ret (.bool (cM c [] g).isNone)) []:=YX c b g a _ rfl
def aNN(x:Rn)(M:Imm)(ob:Hs)(vs:ba)(h:cA M ob vs [x.av]):inR .i64 x.st/\inR .i64 x.g.run:=by
 have hl:0<vs.length:=by rw [h.1];simp
 have:=h.2 0 _ x.av (Aa hl) rfl;exact ⟨cD this 11 _ rfl,cD this 6 _ rfl⟩
def dY(x:Rn):Int:=if 9223372036854775807<x.st+x.g.run then 9223372036854775807 else if x.st+x.g.run< -9223372036854775808 then -9223372036854775808 else x.st+x.g.run
def aHW(x:Rn)(r:Int)(a:dY x=r):aq 88 [x.av] [] (.ret (ii r)) []:=by
 refine aA.get _ (aNN x) λ⟨⟨a1,a2⟩,⟨b1,b2⟩⟩=>?_;simp only [cJ,bE] at a1 a2 b1 b2;unfold dY at a;by_cases h1:9223372036854775807<x.st+x.g.run
 .rw [if_pos h1] at a;subst a;have e:=aEV h1 o_;exact zqha6
 .rw [if_neg h1] at a;by_cases b:x.st+x.g.run< -9223372036854775808
  .rw [if_pos b] at a;subst a;have e:=aEU b o_;exact zqha6
  .rw [if_neg b] at a;refine c_ Tryz.f88 λ_=>?_
   repeat' first | (refine gN hE ?_;conv=>whnf) | exact rfl | refine zt ?_ | refine zu ?_ ?_ | intro h | fail
   all_goals first | exact a▸rfl | (exfalso;simp at *;omega)
def ED(x:Rn):aq 88 [x.av] [] (.ret (ii (dY x))) []:=aHW x _ rfl
def yT(l:aw)(h:l.length<=1048576):aq 165 [.slice 1 (iv l) .no] [] (.ret (.slice 1 (iv l) .no)) []:=by
 have a:(iv l).length=l.length:=by simp
 refine c_ Tryz.f165 λ_=>gV ?_;intro b c;refine gV ?_;refine ⟨λ h=>?_,λ h=>?_⟩
 .have h:b=true:=h;have e:iv l=[]:=c h;refine gV ?_;rw [e]
 .have h:b=false:=h;exact zW
def aF3(x:Rn)(h:x.hs.length<=1048576):aq 138 [x.av] [] (.ret x.av) []:=by refine c_ Tryz.f138 λ_=>?_;have a:=yT x.hs h;exact zW
def atL(l:a6)(t:Int):a6:=l.filter λ x=>decide (t<dY x)
def aIQ{x:Rn}{r:a6}{t:Int}(h:decide (t<dY x)=true):atL (x::r) t=x::atL r t:=Ft h
def aIR{x:Rn}{r:a6}{t:Int}(h:decide (t<dY x)=false):atL (x::r) t=atL r t:=Fs (by rw [h];decide)
noncomputable abbrev fAt:Func:=Tryz.f89
def aIO(l:a6)(hs:Sm l)(t:Int)(R:a6):∀ (n i:Nat) (a:a6),i+n=l.length->a.length<=i->a++atL (l.drop i) t=R->
  To (Eo [5] []) fAt (.pure (.ret (.slice 14 (rav R) .no))) (.head (stk fAt 0) [(1,.int .i64 t),(5,.slice 14 (rav a) (.own 0 0)),(8,.slice 14 (rav l) .no),(9,.int .i64 ((rav l).length:Nat)),(10,.int .i64 i)] [.tail 0 14 68]):=by
 have k:(rav l).length=l.length:=by simp
 have hl:=hs.1;intro n;induction n with
 | zero=>
  intro i a r o b;rw [Ah o_] at b;have b:a++[]=R:=b;rw [Ar] at b;subst b;refine gV ?_;exact zW
 | succ n g=>
  intro i a r o b;have c:i<l.length:=o_;rw [Ae c] at b;have j:=hs.at c;generalize p:l[i]=x at b j;have get:(rav l)[i]? =some x.av:=(dT c).trans (by rw [p]);have q:(rav a).length=a.length:=by simp
  refine gV ?_;refine aT λ h=>gV ?_;refine ⟨i,rfl,gV ?_⟩;refine ⟨_,get,gV ?_⟩;refine .pure _ [] (ED x) (gV ?_);refine Ac (λ d=>?_) (λ d=>?_)
  .have d:decide (t<dY x)=true:=d;rw [aIQ d] at b;refine gV ?_;refine .pure _ [] (aF3 x j) (gV ?_);refine ⟨⟨by simp only [maxLen];simp;omega,by simp;omega⟩,?_⟩;refine gV ?_;refine aJ (gV ?_);refine To.part [1,5,8,9,10] [0] rfl rfl rfl ?_;have next:=g (i+1) (a++[x]) o_ q_ (by rw [Af];exact b)
   have e:rav (a++[x])=rav a++[x.av]:=by simp
   rw [e] at next
   exact next
  .have f:decide (t<dY x)=false:=d;rw [aIR f] at b;have m:=g (i+1) a o_ o_ b;exact zW
def aED(l:a6)(hs:Sm l)(t:Int):aq 89 [.slice 14 (rav l) .no,ii t] [] (.ret (.slice 14 (rav (atL l t)) .no)) []:=by refine cT (E:=(Eo [5] [])) (fn:=Tryz.f89) (g:=.pure _) λ_=>?_;have a:=aIO l hs t _ l.length 0 [] o_ s_ rfl;exact zW
def aEF{l:a6}(h:Sm l)(t:Int):Sm (atL l t):=
 ⟨Cx (Fj _ _) h.1,λ x a=>h.2 x (Fc.1 a).1⟩
open Go Go.AW Go.Proofs Go.Shelf
set_option maxRecDepth 100000
def aFx:Go.Shelf.Ren:=⟨fun | 125=>257 | 128=>274 | 129=>275 | 189=>233 | 215=>219 | 216=>271 | 257=>256 | 294=>265 | 295=>266 | 296=>267 | 297=>268 | 298=>269 | 299=>270 | 300=>272 | 301=>273 | 328=>277 | 329=>278 | 330=>279 | 331=>280 | 332=>281 | 343=>282 | n=>n,fun | 0=>0 | 3=>3 | 4=>4 | 5=>5 | 9=>9 | 28=>66 | 46=>261 | 51=>192 | 53=>81 | 131=>258 | 182=>380 | 183=>381 | 218=>390 | 222=>394 | 228=>396 | 229=>397 | n=>n,λ n=>n⟩
def LX:Lays.n189 Tryz.prog aFx where
 mixed:=by kernel_rfl
 f125:=Tryz.func257.trans (congrArg some (by kernel_rfl))
 f128:=Tryz.func274.trans (congrArg some (by kernel_rfl))
 f129:=Tryz.func275.trans (congrArg some (by kernel_rfl))
 f189:=Tryz.func233.trans (congrArg some (by kernel_rfl))
 f215:=Tryz.func219.trans (congrArg some (by kernel_rfl))
 f216:=Tryz.func271.trans (congrArg some (by kernel_rfl))
 f257:=Tryz.func256.trans (congrArg some (by kernel_rfl))
 f294:=Tryz.func265.trans (congrArg some (by kernel_rfl))
 f295:=Tryz.func266.trans (congrArg some (by kernel_rfl))
 f296:=Tryz.func267.trans (congrArg some (by kernel_rfl))
 f297:=Tryz.func268.trans (congrArg some (by kernel_rfl))
 f298:=Tryz.func269.trans (congrArg some (by kernel_rfl))
 f299:=Tryz.func270.trans (congrArg some (by kernel_rfl))
 f300:=Tryz.func272.trans (congrArg some (by kernel_rfl))
 f301:=Tryz.func273.trans (congrArg some (by kernel_rfl))
 f328:=Tryz.func277.trans (congrArg some (by kernel_rfl))
 f329:=Tryz.func278.trans (congrArg some (by kernel_rfl))
 f330:=Tryz.func279.trans (congrArg some (by kernel_rfl))
 f331:=Tryz.func280.trans (congrArg some (by kernel_rfl))
 f332:=Tryz.func281.trans (congrArg some (by kernel_rfl))
 f343:=Tryz.func282.trans (congrArg some (by kernel_rfl))
 t0:=Tryz.underlying0
 a0:=Tryz.isAgg0
 z0:=Tryz.sizeOf0
 v0:=Tryz.zeroValue0
 t3:=Tryz.underlying3
 a3:=Tryz.isAgg3
 z3:=Tryz.sizeOf3
 v3:=Tryz.zeroValue3
 t4:=Tryz.underlying4
 a4:=Tryz.isAgg4
 z4:=Tryz.sizeOf4
 v4:=Tryz.zeroValue4
 t5:=Tryz.underlying5
 a5:=Tryz.isAgg5
 z5:=Tryz.sizeOf5
 v5:=Tryz.zeroValue5
 t9:=Tryz.underlying9
 a9:=Tryz.isAgg9
 z9:=Tryz.sizeOf9
 v9:=Tryz.zeroValue9
 t28:=Tryz.underlying66
 a28:=Tryz.isAgg66
 z28:=Tryz.sizeOf66
 v28:=Tryz.zeroValue66
 t46:=Tryz.underlying261
 a46:=Tryz.isAgg261
 z46:=Tryz.sizeOf261
 v46:=Tryz.zeroValue261
 t51:=Tryz.underlying192
 a51:=Tryz.isAgg192
 z51:=Tryz.sizeOf192
 v51:=Tryz.zeroValue192
 t53:=Tryz.underlying81
 a53:=Tryz.isAgg81
 z53:=Tryz.sizeOf81
 v53:=Tryz.zeroValue81
 t131:=Tryz.underlying258
 a131:=Tryz.isAgg258
 z131:=Tryz.sizeOf258
 v131:=Tryz.zeroValue258
 t182:=Tryz.underlying380
 a182:=Tryz.isAgg380
 z182:=Tryz.sizeOf380
 v182:=Tryz.zeroValue380
 t183:=Tryz.underlying381
 a183:=Tryz.isAgg381
 z183:=Tryz.sizeOf381
 v183:=Tryz.zeroValue381
 t218:=Tryz.underlying390
 a218:=Tryz.isAgg390
 z218:=Tryz.sizeOf390
 v218:=Tryz.zeroValue390
 t222:=Tryz.underlying394
 a222:=Tryz.isAgg394
 z222:=Tryz.sizeOf394
 v222:=Tryz.zeroValue394
 t228:=Tryz.underlying396
 a228:=Tryz.isAgg396
 z228:=Tryz.sizeOf396
 v228:=Tryz.zeroValue396
 t229:=Tryz.underlying397
 a229:=Tryz.isAgg397
 z229:=Tryz.sizeOf397
 v229:=Tryz.zeroValue397
def tM(l:aw):aw:=l.mergeSort λ x y=>decide (x<=y)
def aFw(l:aw)(hl:l.length<=1000000000):aq 233 [.row 0 0] [.row 0 1 3 (iv l)] (.ret (.tup [])) [.row 0 1 3 (iv (tM l))]:=
 FC (λ_ _=>by rfl) (λ p cap w=>Any.slices_Sort_int_none LX p cap w) (λ blk off cap c w b a hz=>Any.slices_Sort_int LX blk off cap c w b a hz) 3 l hl
set_option maxRecDepth 10000
def kyv(n:Int):aa:=.agg [ii n]
abbrev kv(l:aw):ay:=l.map kyv
def aCJ{l:aw}{i:Nat}(h:i<l.length):(kv l)[i]? =some (kyv l[i]):=by simp [kv,h]
abbrev aKN(n:Int):aa:=.func (.func 232) [] [.ptr [ii n]]
def aKL(x n:Int):aq 232 [kyv x,.ptr [ii n]] [] (.ret (.bool (x==n&&true))) []:=by exact c_ Tryz.f232 λ_=>zW
def AG(n:Int):aw->Nat->Int
 | [],_=> -1
 | x::r,i=>if (x==n&&true) then (i:Int) else AG n r (i+1)
def has(l:aw)(n:Int):Bool:=decide (0<=AG n l 0)
noncomputable abbrev aNd:Func:=Tryz.f255
def aCU(l:aw)(n:Int)(hl:((kv l).length:Int)<=9223372036854775807)(r:Int):∀ (m i:Nat),i+m=l.length->AG n (l.drop i) i=r->
  To E aNd (.pure (.ret (ii r))) (.head (stk aNd 0) [(0,.slice 1 (kv l) .no),(1,aKN n),(7,.int .i64 ((kv l).length:Nat)),(8,.int .i64 i)] []):=by
 have c:(kv l).length=l.length:=by simp
 intro m;induction m with
 | zero=>
  intro i g a;rw [Ah o_] at a;subst a;refine gV ?_;exact zW
 | succ m e=>
  intro i g a;have b:i<l.length:=o_;rw [Ae b] at a;generalize f:l[i]=x at a;have get:(kv l)[i]? =some (kyv x):=(aCJ b).trans (by rw [f]);unfold AG at a;refine gV ?_;refine aT λ h=>?_
  repeat' first | (refine gN hE ?_;conv=>whnf) | refine ⟨_,get,?_⟩ | refine .pure _ [] (aKL x n) ?_ | exact rfl | refine zt ?_ | refine zu ?_ ?_ | intro h | fail
  .have h:(x==n&&true)=true:=h;rw [if_pos h] at a;rw [<-a]
  .have h:(x==n&&true)=false:=h;rw [if_neg (by rw [h];decide)] at a;have d:=e (i+1) o_ a;exact zW
def aKR(l:aw)(n:Int):aq 255 [.slice 1 (kv l) .no,aKN n] [] (.ret (ii (AG n l 0))) []:=by refine c_ Tryz.f255 λ b=>?_;have hl:((kv l).length:Int)<=9223372036854775807:=b.1;have a:=aCU l n hl _ l.length 0 o_ rfl;exact zW
def aKW(l:aw)(n:Int):aq 231 [.slice 1 (kv l) .no,aKN n] [] (.ret (.bool (has l n))) []:=by refine c_ Tryz.f231 λ_=>?_;have a:=aKR l n;exact zW
def qC(now:Int):a6->aw->aw
 | [],ks=>ks
 | x::r,ks=>qC now r (if decide (now<dY x)&& !has ks (dY x) then ks++[dY x] else ks)
def GW(now:Int):∀ (l:a6) (ks:aw),(qC now l ks).length<=ks.length+l.length
 | [],ks=>by simp [qC]
 | x::r,ks=>by
  unfold qC;have:=GW now r (if decide (now<dY x)&& !has ks (dY x) then ks++[dY x] else ks);split at this
  .rename_i h;rw [if_pos h];simp only [Ai,Al,Bu] at this⊢;omega
  .rename_i h;rw [if_neg h];simp only [Al];omega
noncomputable abbrev WS:Func:=Tryz.f198
noncomputable abbrev En:Env:=Ex [5] [9] []
def hEn:ae En:=hEx _ _ _
def SB(ks:aw)(m:ks.length<=1048576):∀ (n i:Nat) (a:aw),i+n=ks.length->a=ks.take i->
  To En WS (.pure (.ret (.slice 1 (iv (tM ks)) .no))) (.head (stk WS 1) [(9,.row 0 0),(36,.slice 1 (kv ks) .no),(37,.int .i64 ((kv ks).length:Nat)),(38,.int .i64 i)] [.row 0 1 3 (iv a)]):=by
 have f:(kv ks).length=ks.length:=by simp
 intro n;induction n with
 | zero=>
  intro i a k c;rw [Ch o_] at c;subst c;refine gW hEn ?_;conv=>whnf
  refine aF λ h=>?_;refine gW hEn ?_;conv=>whnf
  refine .eff [] [0] _ _ rfl (aFw a o_) ?_
  repeat' first | (refine gN hEn ?_;conv=>whnf) | exact rfl | refine zt ?_ | refine zu ?_ ?_ | intro h | fail
 | succ n j=>
  intro i a k c;have b:i<ks.length:=o_;generalize d:ks[i]=x;have get:(kv ks)[i]? =some (kyv x):=(aCJ b).trans (by rw [d]);have g:a.length=i:=by rw [c];simp;omega
  have l:(iv a).length=a.length:=by simp
  refine gW hEn ?_;conv=>whnf
  refine aT λ h=>?_;refine gW hEn ?_;conv=>whnf
  refine ⟨i,rfl,?_⟩;refine gW hEn ?_;conv=>whnf
  refine ⟨_,get,?_⟩;refine gW hEn ?_;conv=>whnf
  refine ⟨⟨by decide,by decide⟩,?_⟩;refine gW hEn ?_;conv=>whnf
  refine ⟨⟨by simp only [maxLen];simp;omega,by simp;omega⟩,?_⟩;refine gW hEn ?_;conv=>whnf
  refine aJ ?_;refine gW hEn ?_;conv=>whnf
  refine To.part [9,36,37,38] [0] rfl rfl rfl ?_;have next:=j (i+1) (a++[x]) o_ (by rw [c,<-d];exact List.take_append_getElem b)
  have e:iv (a++[x])=iv a++[ii x]:=by simp
  rw [e] at next
  exact next
def ZQ(l:a6)(hs:Sm l)(now:Int)(R:aw):∀ (n i:Nat) (ks:aw),i+n=l.length->ks.length<=i->tM (qC now (l.drop i) ks)=R->
  To En WS (.pure (.ret (.slice 1 (iv R) .no))) (.head (stk WS 0) [(1,.int .i64 now),(5,.slice 1 (kv ks) (.own 0 0)),(12,.slice 14 (rav l) .no),(13,.int .i64 ((rav l).length:Nat)),(14,.int .i64 i)] [.tail 0 1 355]):=by
 have j:(rav l).length=l.length:=by simp
 have hl:=hs.1;intro n;induction n with
 | zero=>
  intro i ks q m a;rw [Ah o_] at a;have a:tM ks=R:=a;subst a;refine gW hEn ?_;conv=>whnf
  refine aF λ h=>?_;refine gW hEn ?_;conv=>whnf
  refine To.part [9,36,37,38] [1] rfl rfl rfl ?_;have f:=SB ks o_ ks.length 0 [] o_ s_;exact zW
 | succ n d=>
  intro i ks q m a;have c:i<l.length:=o_;rw [Ae c] at a;generalize o:l[i]=x at a;have get:(rav l)[i]? =some x.av:=(dT c).trans (by rw [o]);have p:(kv ks).length=ks.length:=by simp
  unfold qC at a;refine gW hEn ?_;conv=>whnf
  refine aT λ h=>?_;refine gW hEn ?_;conv=>whnf
  refine ⟨i,rfl,?_⟩;refine gW hEn ?_;conv=>whnf
  refine ⟨_,get,?_⟩;refine gW hEn ?_;conv=>whnf
  refine .pure _ [] (ED x) ?_;refine gW hEn ?_;conv=>whnf
  refine ⟨⟨by decide,by decide⟩,?_⟩;refine gW hEn ?_;conv=>whnf
  refine Ac (λ h1=>?_) (λ h1=>?_)
  .have h1:decide (now<dY x)=true:=h1;refine gW hEn ?_;conv=>whnf
   refine .pure _ [] (aKW ks (dY x)) ?_;refine gW hEn ?_;conv=>whnf
   refine Ac (λ b=>?_) (λ b=>?_)
   .have b:(!has ks (dY x))=true:=b;rw [h1,b,if_pos d_] at a;refine gW hEn ?_;conv=>whnf
    refine ⟨⟨by simp only [maxLen];simp;omega,by simp;omega⟩,?_⟩;refine gW hEn ?_;conv=>whnf
    refine aJ ?_;refine gW hEn ?_;conv=>whnf
    refine To.part [1,5,12,13,14] [0] rfl rfl rfl ?_;have next:=d (i+1) (ks++[dY x]) o_ q_ a
    have e:kv (ks++[dY x])=kv ks++[kyv (dY x)]:=by simp
    rw [e] at next
    exact next
   .have b:(!has ks (dY x))=false:=b;rw [h1,b,if_neg d_] at a;refine gW hEn ?_;conv=>whnf
    refine aJ ?_;refine gW hEn ?_;conv=>whnf
    have k:=d (i+1) ks o_ o_ a;exact zW
  .have h1:decide (now<dY x)=false:=h1;rw [h1,Gi,if_neg d_] at a
   repeat' first | (refine gN hEn ?_;conv=>whnf) | exact rfl | refine zt ?_ | refine zu ?_ ?_ | intro h | fail
   have g:=d (i+1) ks o_ o_ a;exact zW
def tT(l:a6)(now:Int):aw:=tM (qC now l [])
def aHV(l:a6)(hs:Sm l)(now:Int):aq 198 [.slice 14 (rav l) .no,ii now] [] (.ret (.slice 1 (iv (tT l now)) .no)) []:=by
 refine cT (E:=En) (fn:=Tryz.f198) (g:=.pure _) λ_=>?_;refine gW hEn ?_;conv=>whnf
 have a:=ZQ l hs now _ l.length 0 [] o_ s_ rfl;exact zW
def N6(n:Int):aw->aw
 | []=>[n]
 | x::r=>if x<n then x::N6 n r else if x=n then x::r else n::x::r
def rE(now:Int):a6->aw->aw
 | [],out=>out
 | x::r,out=>rE now r (if dY x<=now then out else N6 (dY x) out)
def stF(c:Con)(l:a6)(g:Gan):aw->Option Int
 | []=>none
 | t::r=>if (cM c (atL l t) g).isSome=true then some t else stF c l g r
def stA:Option Int->aa
 | some t=>.tup [ii t,.bool true]
 | none=>.tup [ii 0,.bool false]
def uF(c:Con)(now:Int)(l:a6)(g:Gan):Option Int:=stF c l g (now::tT l now)
noncomputable abbrev aDv:Func:=Tryz.f145
def QJ(c:Con)(k:c.sm)(now:Int)(l:a6)(hs:Sm l)(g:Gan)(n:0<=g.pods/\g.pods<=16)(es:aw)(q:es.length<=1048576)(R:Option Int):∀ (m i:Nat),i+m=es.length+1->stF c l g ((now::es).drop i)=R->
  To E aDv (.pure (.ret (stA R))) (.head (stk aDv 0) [(1,ii now),(2,.slice 14 (rav l) .no),(4,.ref 0 0),(7,.ref 1 0),(10,.slice 1 (iv es) .no),(21,.int .i64 (((iv es).length:Nat)+1)),(22,ii i)] (WK c g)):=by
 have o:(iv es).length=es.length:=by simp
 intro m;induction m with
 | zero=>
  intro i r a;rw [Ah q_] at a;have a:none=R:=a;subst a;refine gV ?_;exact zW
 | succ m f=>
  intro i r a;have e:i<(now::es).length:=by simp;omega
  rw [Ae e] at a;have f:=f (i+1) o_;cases i with
  | zero=>
   have a:stF c l g (now::(now::es).drop 1)=R:=a;have d:=xC c k (atL l now) (aEF hs now) g n;have b:=aED l hs now;unfold stF at a;generalize cM c (atL l now) g=Q at a d;unfold fdA at d;generalize atL l now=al at b d;refine gV ?_;refine aT λ h=>gV ?_;refine aF λ h=>gV ?_;refine .pure _ [] b (gV ?_);cases Q with
   | none=>
    rw [if_neg d_] at a;have next:=f a
    exact zW
   | some x=>
    exact zqha10
  | succ j=>
   have p:j<es.length:=by simp at e;omega
   have a:stF c l g (es[j]::(now::es).drop (j+1+1))=R:=a;have get:(iv es)[j]? =some (ii es[j]):=gR p;generalize es[j]=t at a get;have d:=xC c k (atL l t) (aEF hs t) g n;have b:=aED l hs t;unfold stF at a;generalize cM c (atL l t) g=Q at a d;unfold fdA at d;generalize atL l t=al at b d;refine gV ?_;refine aT λ h=>gV ?_;refine aT λ h=>gV ?_;refine aJ (gV ?_);refine ⟨j,by omega,gV ?_⟩;refine ⟨_,get,gV ?_⟩;refine .pure _ [] b (gV ?_);cases Q with
   | none=>
    rw [if_neg d_] at a;have next:=f a
    exact zW
   | some x=>
    exact zqha10
def aA2(c:Con)(e:c.sm)(now:Int)(l:a6)(hs:Sm l)(g:Gan)(h:0<=g.pods/\g.pods<=16):aq 145 [c.av,ii now,.slice 14 (rav l) .no,g.av] [] (.ret (stA (uF c now l g))) []:=by
 have a:(tT l now).length<=1048576:=by
  unfold tT tM;rw [Mu];have:=GW now l [];have:=hs.1;simp at *
  omega
 have b:=aHV l hs now;unfold uF;generalize tT l now=es at a b;have d:(iv es).length=es.length:=by simp
 refine c_ Tryz.f145 λ_=>gV ?_;refine .pure _ [] b (gV ?_);refine aJ (gV ?_);exact To.cut [1,2,4,7,10,21,22] 2 rfl rfl rfl rfl (QJ c e now l hs g h es a _ (es.length+1) 0 o_ rfl)
def bmB(now:Int)(g:Gan)(t:Int):Bool:=decide (dY ⟨g,0,0,now,0,[]⟩<=t)
def aEw(now:Int)(g:Gan)(t:Int)(b:Bool)(a:bmB now g t=b):aq 189 [ii now,g.av,ii t] [] (.ret (.bool b)) []:=by have c:=ED ⟨g,0,0,now,0,[]⟩;unfold bmB at a;generalize dY ⟨g,0,0,now,0,[]⟩=x at a c;subst a;exact c_ Tryz.f189 λ_=>zW
def aIK(now:Int)(g:Gan)(t:Int):aq 189 [ii now,g.av,ii t] [] (.ret (.bool (bmB now g t))) []:=aEw now g t _ rfl
def bL(v:V3):Bool:=decide (0<=v.a/\v.a<=1048576)&&decide (0<=v.b/\v.b<=1048576)&&decide (0<=v.c/\v.c<=1048576)
def rlB(ns:bc)(t:Int):Bool:=if decide (t<0)=true then false else if decide ((ns.length:Int)<=t)=true then false else ns.all λ x=>!(x.p==t)
def aMW(ns:bc)(g:Gan):Bool:=decide (1<=g.id/\g.id<=1073741824/\1<=g.pods/\g.pods<=16)&&(bL g.need&&(decide (1<=g.run/\g.run<=1048576/\0<=g.lev/\g.lev<=3/\0<=g.pref/\g.pref<=g.lev)&&rlB ns g.ten))
def aJd(ns:bc)(g:Gan):Int:=if aMW ns g=true then 1 else 0
def zB(v:V3):Bool:=v.a==0&&(v.b==0&&(v.c==0&&true))
def A8(i:Nat)(x:Nod):Prop:=(i=0/\x.p≠ -1)\/(0<i/\(x.p<0\/(i:Int)<=x.p))\/x.w<1\/1000<x.w
instance (i:Nat)(x:Nod):Decidable (A8 i x):=by unfold A8;infer_instance
def oC(bl:Bool)(i:Nat)(x:Nod):Bool:=if A8 i x then false else if bl=true then bL x.n&&(bL x.b&&(bL x.l&&cS x.l x.n)) else zB x.n&&(zB x.b&&zB x.l)
def FS(x:Hos):Prop:=x.f<0\/100<x.f\/x.b<0\/100<x.b\/x.r<0\/100<x.r
instance (x:Hos):Decidable (FS x):=by unfold FS;infer_instance
def lT(x:Hos):Bool:=if FS x then false else bL x.c
def kM(ns:bc):Nat->bc->Bool
 | _,[]=>true
 | i,x::r=>if oC (rlB ns i) i x=true then kM ns (i+1) r else false
def AV(c:Con):Prop:=(1<=c.ns.length/\c.ns.length<=12)/\(1<=c.hs.length/\c.hs.length<=24)/\(1<=c.half/\c.half<=1048576)/\0<=c.age/\c.age<=1048576
instance (c:Con):Decidable (AV c):=by unfold AV;infer_instance
def bU(c:Con):Int:=if AV c then (if kM c.ns 0 c.ns=true then (if c.hs.all lT=true then 0 else 2) else 2) else 2
def aKU(n:Nat)(l:aw):Bool:=l.all λ h=>decide (0<=h/\h<(n:Int))
def aLQ(c:Con)(now:Int)(x:Rn):Prop:=aJd c.ns x.g=0\/x.st<0\/now<x.st\/(x.hs.length:Int)≠x.g.pods
instance (c:Con)(now:Int)(x:Rn):Decidable (aLQ c now x):=by unfold aLQ;infer_instance
def aNK(c:Con)(now:Int)(x:Rn):Bool:=if aLQ c now x then false else aKU c.hs.length x.hs
def aLR(c:Con)(now:Int)(l:a6):Prop:=bU c≠0\/32<l.length\/now<0\/1099511627776<now
instance (c:Con)(now:Int)(l:a6):Decidable (aLR c now l):=by unfold aLR;infer_instance
def aNV(c:Con)(now:Int)(l:a6):Int:=if aLR c now l then 0 else if l.all (aNK c now)=true then 1 else 0
abbrev St(l:aw):Prop:=l.Pairwise (· < ·)
def DR{n x:Int}:∀ {l:aw},x∈N6 n l↔x=n\/x∈l
 | []=>by simp [N6]
 | y::r=>by
  have a:=DR (n:=n) (x:=x) (l:=r);unfold N6;split
  .simp only [Aw,a];constructor
   .exact zqha8
   .exact zqha8
  .split
   .rename_i h;subst h;simp only [Aw];constructor
    .rintro (h | h)
     .exact .inl h
     .exact .inr (.inr h)
    .rintro (h | h | h)
     .exact .inl h
     .exact .inl h
     .exact .inr h
   .simp only [Aw]
def VP{n:Int}:∀ {l:aw},St l->St (N6 n l)
 | [],_=>by simp [N6]
 | y::r,h=>by
  have a:=Cb.1 h;unfold N6;split
  .rename_i b;refine Cb.2 ⟨λ z hz=>?_,VP a.2⟩;rcases DR.1 hz with rfl | hz
   .exact b
   .exact a.1 z hz
  .split
   .exact h
   .rename_i h1 c;refine Cb.2 ⟨λ z hz=>?_,h⟩;rcases Aw.1 hz with rfl | hz
    .omega
    .have:=a.1 z hz;omega
def UY{now:Int}:∀ {l:a6} {out:aw},St out->St (rE now l out)
 | [],_,h=>h
 | x::r,out,h=>by
  unfold rE;split
  .exact UY h
  .exact UY (VP h)
def JC{now n:Int}:∀ {l:a6} {out:aw},n∈rE now l out↔n∈out\/∃ x∈l,dY x=n/\now<n
 | [],out=>by simp [rE]
 | x::r,out=>by
  unfold rE;split
  .rename_i h;rw [JC (l:=r)];constructor
   .rintro (h1 | ⟨y,a,h1⟩)
    .exact .inl h1
    .exact .inr ⟨y,Ay _ a,h1⟩
   .rintro (h1 | ⟨y,a,h1,b⟩)
    .exact .inl h1
    .rcases Aw.1 a with rfl | a
     .omega
     .exact .inr ⟨y,a,h1,b⟩
  .rename_i h;rw [JC (l:=r),DR];constructor
   .rintro ((h1 | h1) | ⟨y,a,h1⟩)
    .exact .inr ⟨x,by simp,h1.symm,by omega⟩
    .exact .inl h1
    .exact .inr ⟨y,Ay _ a,h1⟩
   .rintro (h1 | ⟨y,a,h1,b⟩)
    .exact .inl (.inr h1)
    .rcases Aw.1 a with rfl | a
     .exact .inl (.inl h1.symm)
     .exact .inr ⟨y,a,h1,b⟩
def HL{n:Int}:∀ {l:aw} {i:Nat},0<=AG n l i↔n∈l
 | [],i=>by simp [AG]
 | x::r,i=>by
  unfold AG;split
  .rename_i h;have:x=n:=by simpa using h
   simp [this]
  .rename_i h;have:¬ x=n:=by simpa using h
   rw [HL (l:=r),Aw];constructor
   .exact .inr
   .rintro (h | h)
    .exact absurd h.symm this
    .exact h
def V0{l:aw}{n:Int}:has l n=true↔n∈l:=by unfold has;rw [decide_eq_true_eq,HL]
def GV{now n:Int}:∀ {l:a6} {ks:aw},n∈qC now l ks↔n∈ks\/∃ x∈l,dY x=n/\now<n
 | [],ks=>by simp [qC]
 | x::r,ks=>by
  unfold qC;rw [GV (l:=r)];split
  .rename_i h;simp only [Ad,decide_eq_true_eq] at h;simp only [Ba,Aw,Hk,or_false];constructor
   .rintro ((h1 | h1) | ⟨y,a,h1⟩)
    .exact .inl h1
    .exact .inr ⟨x,.inl rfl,h1.symm,by omega⟩
    .exact .inr ⟨y,.inr a,h1⟩
   .rintro (h1 | ⟨y,rfl | a,h1,b⟩)
    .exact .inl (.inl h1)
    .exact .inl (.inr h1.symm)
    .exact .inr ⟨y,a,h1,b⟩
  .rename_i h;simp only [Aw];constructor
   .rintro (h1 | ⟨y,a,h1⟩)
    .exact .inl h1
    .exact .inr ⟨y,.inr a,h1⟩
   .rintro (h1 | ⟨y,rfl | a,h1,b⟩)
    .exact .inl h1
    .cases c:has ks (dY y) with
     | true=>exact .inl (h1▸V0.1 c)
     | false=>
      refine absurd ?_ h;rw [c,decide_eq_true o_];rfl
    .exact .inr ⟨y,a,h1,b⟩
def rT{now:Int}:∀ {l:a6} {ks:aw},ks.Nodup->(qC now l ks).Nodup
 | [],_,h=>h
 | x::r,ks,h=>by
  unfold qC;split
  .rename_i c;refine rT ?_;simp only [Ad,Cw] at c;have f:dY x∉ks:=λ hm=>by have:=V0.2 hm;rw [this] at c;cases c.2
   exact Bt.2 ⟨h,by simp,λ a g b d=>by
    simp only [Aw,Hk,or_false] at d;subst d
    exact λ e=>f (e▸g)⟩
  .exact rT h
def X7{l:aw}{n:Int}:n∈tM l↔n∈l:=(Kz l _).mem_iff
def aBa{l:aw}(h:l.Nodup):St (tM l):=by have h1:(tM l).Pairwise (λ a b=>decide (a<=b)=true):=List.pairwise_mergeSort (λ a b c h1 d=>by simp at *;omega) (λ a b=>by simp;omega) l;have d:(tM l).Nodup:=(Kz l _).nodup_iff.2 h;exact (h1.and d).imp λ⟨a,b⟩=>by simp at a;omega
def aI7:∀ {a b:aw},St a->St b->(∀ x,x∈a↔x∈b)->a=b
 | [],[],_,_,_=>rfl
 | [],y::s,_,_,h=>absurd ((h y).2 s_) s_
 | x::r,[],_,_,h=>absurd ((h x).1 s_) s_
 | x::r,y::s,ha,hb,h=>by
  have c:=Cb.1 ha;have d:=Cb.1 hb;have e:x=y:=by
   rcases Aw.1 ((h x).1 s_) with e | h1
   .exact e
   .rcases Aw.1 ((h y).2 s_) with e | f
    .exact e.symm
    .have:=d.1 x h1;have:=c.1 y f;omega
  subst e;rw [aI7 c.2 d.2 λ z=>?_];constructor
  .intro hz;rcases Aw.1 ((h z).1 (Ay _ hz)) with rfl | h1
   .have:=c.1 z hz;omega
   .exact h1
  .intro hz;rcases Aw.1 ((h z).2 (Ay _ hz)) with rfl | h1
   .have:=d.1 z hz;omega
   .exact h1
def OW(l:a6)(now:Int):tT l now=rE now l []:=by refine aI7 (aBa (rT s_)) (UY s_) λ x=>?_;unfold tT;rw [X7,GV,JC]
def aDJ(l:a6)(now:Int):St (tT l now):=by rw [OW];exact UY s_
def HQ{l:a6}{now n:Int}:n∈tT l now↔ ∃ x∈l,dY x=n/\now<n:=by rw [OW,JC];simp
def HD(tick:Int):aw->Int->Int
 | [],f=>f
 | x::r,f=>HD tick r (if x<=tick then x else f)
def uP{tick:Int}:∀ {e:aw} {f:Int},St e->f<=tick->(∀ x∈e,f<x)->f<=HD tick e f/\HD tick e f<=tick/\∀ x∈e,x<=tick->x<=HD tick e f
 | [],f,_,h,_=>⟨De _,h,λ x a=>by cases a⟩
 | y::r,f,hs,h,hl=>by
  have hs':=Cb.1 hs;unfold HD;by_cases c:y<=tick
  .rw [if_pos c];obtain ⟨h1,b,h3⟩:=uP (f:=y) hs'.2 c hs'.1;have:=hl y s_;refine ⟨by omega,b,λ x a d=>?_⟩;rcases Aw.1 a with rfl | a
   .exact h1
   .exact h3 x a d
  .rw [if_neg c];obtain ⟨h1,b,h3⟩:=uP (f:=f) hs'.2 h λ x a=>hl x (by simp [a]);refine ⟨h1,b,λ x a d=>?_⟩;rcases Aw.1 a with rfl | a
   .omega
   .exact h3 x a d
def aNG{l:a6}{now tick:Int}(h:now<=tick):atL l (HD tick (tT l now) now)=atL l tick:=by
 obtain ⟨h1,d,h3⟩:=uP (tick:=tick) (f:=now) (aDJ l now) h λ x a=>by obtain ⟨_,_,_,h⟩:=HQ.1 a;exact h
 unfold atL;refine Lm λ x a=>?_;by_cases b:tick<dY x
 .rw [decide_eq_true b,decide_eq_true o_]
 .rw [decide_eq_false b,decide_eq_false];intro c;have:=h3 (dY x) (HQ.2 ⟨x,a,rfl,by omega⟩) o_;omega
end Go.Proofs.YtaeegbkbahgjhaaGreatDoor
