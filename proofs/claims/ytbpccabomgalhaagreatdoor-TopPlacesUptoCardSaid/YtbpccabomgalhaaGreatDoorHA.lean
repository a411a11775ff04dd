/- Part 6 of what the statement rests on. -/
import Derived.Test.YtbpccabomgalhaaGreatDoorProg
import Derived.Shelf.Sort.Plain
import Derived.Shelf.Slices.In.SortNone
import Derived.Test.YtbpccabomgalhaaGreatDoorWE
set_option linter.all false
set_option maxHeartbeats 1000000
open And renaming intro->Ab
open Bool renaming false_and->Gb,false_eq_true->Cn,true_and->Dc
open Exists renaming intro->Ao
open Int renaming tdiv->Lt,toNat_natCast->Bn,toNat_of_nonneg->Kt
open List renaming all_cons->Jy,append_assoc->Ae,append_nil->Au,drop->Hc,drop_eq_getElem_cons->Ag,drop_eq_nil_of_le->Ai,drop_zero->Cg,filter_cons_of_neg->Fk,filter_cons_of_pos->Fl,flatMap_cons->Jh,foldl_cons->Ba,getElem?_append_right->Ak,getElem?_eq_getElem->Aa,getElem?_eq_none->Bg,getElem?_eq_some_iff->Ac,getElem?_map->Bh,getElem_mem->Bd,length->Lh,length_append->Ah,length_cons->Al,length_filter_le->Hv,length_map->Cf,length_mergeSort->Mn,length_nil->Br,length_replicate->Gu,map_append->Bk,map_cons->Bl,map_map->Dn,map_set->Gk,mem_append->Az,mem_cons->Bc,mem_filter->Fg,mem_map->Bq,mem_or_eq_of_mem_set->Db,nil_append->Bm,pairwise_cons->Cr,range->Dr,range'->Ic,range'_succ->Lu,range_eq_range'->Ie,range_succ->Mh,replicate->Aj,replicate_succ->Ku,set_append_right->Gt,take->Hr,take_append_of_le_length->Cz,take_of_length_le->Cd
open List.cons renaming injEq->Ko
open Nat renaming ble->Fp,div_le_self->Gv,le_refl->Bf,le_trans->Cx,mul_le_mul->Gc,zero_le->Bt
open Option renaming map_eq_some_iff->Cb
open Or renaming inl->Fq
namespace Go.Proofs.YtbpccabomgalhaaGreatDoor
open Go Go.AW Go.Proofs
def zqha0{P:Prop}(h:P:=by
 unfold QY at hp;by_cases e:x=t
 .rw [if_pos (decide_eq_true e)] at hp;refine gV ?_;refine To.beginR (k:=7) (gg:=0) rfl rfl d ?_
  repeat' first | (refine gN (hEl k [] [] []) ?_;conv=>whnf) | refine .pure _ [] (I6 c a need x b) ?_ | refine .pure _ [] (BH c f a need t x) ?_ | exact ⟨⟨rfl,rfl⟩,⟨rfl,rfl⟩⟩ | exact rfl | refine zt ?_ | refine zu ?_ ?_ | intro h | fail
  all_goals (exfalso;simp_all)
 .rw [if_neg (by rw [decide_eq_false e];decide)] at hp;refine gV ?_;refine To.beginR (k:=7) (gg:=0) rfl rfl d ?_
  repeat' first | (refine gN (hEl k [] [] []) ?_;conv=>whnf) | refine .pure _ [] (I6 c a need x b) ?_ | refine .pure _ [] (BH c f a need t x) ?_ | exact ⟨⟨rfl,rfl⟩,⟨rfl,rfl⟩⟩ | exact rfl | refine zt ?_ | refine zu ?_ ?_ | intro h | fail
  all_goals (exfalso;simp_all)):P:=h
def zqha1{P:Prop}(h:P:=by
 refine gV ?_;refine ⟨i,rfl,gV ?_⟩;refine ⟨by omega,gV ?_⟩;refine ⟨by omega,?_⟩
 exact zW):P:=h
def zqha2{P:Prop}(h:P:=by
 refine ⟨ii n,1,gV ?_⟩
 exact zW):P:=h
def zqha3{P:Prop}(h:P:=by
 refine gV ?_;refine To.beginR (k:=4) (gg:=0) rfl rfl a ?_
 exact zW):P:=h
def zqha4{P:Prop}(h:P:=by
 have c:(iv a).length=a.length:=by simp
 have e:iv (a++[x])=iv a++[ii x]:=by simp
 unfold tO;rw [e];refine gV ?_;refine To.beginR (k:=2) (gg:=0) rfl rfl b ?_
 exact zW):P:=h
def zqha5{P:Prop}(h:P:=by
 have hl:=B6 a k 0;have b:k=N:=o_;subst b;have e:rp a k 0=iv (Aj k a):=by simp [rp]
 rw [e] at hl⊢;refine gV ?_
 exact zW):P:=h
def zqha6{P:Prop}(h:P:=by
 refine c_ Tryz.f62 λ_=>gV ?_;refine .inr ?_
 exact zW):P:=h
def zqha7{P:Prop}(h:P:=by exact c_ Tryz.f117 λ_=>zW):P:=h
def zqha8{P:Prop}(h:P:=by
 refine gV ?_;refine .sole rfl (.eff [] [0,1] _ _ rfl (put_ok c x _ L) ?_)
 exact zW):P:=h
def zqha9{P:Prop}(h:P:=by
 rw [if_pos (show (some x).isSome=true from rfl)] at a;subst a
 exact zW):P:=h
def zqha10{P:Prop}(h:P:=by exact c_ Tryz.f226 λ_=>zW):P:=h
abbrev _root_.aq:=aA Tryz.prog
noncomputable def T0:Tab:=[
 (3,.mk (.int .i64) 1 false (.int .i64 0)),
 (4,.mk .bool 1 false (.bool false)),
 (41,.mk (.arr 3 1 false) 3 true (.agg [.int .i64 0,.int .i64 0,.int .i64 0])),
 (26,.mk (.strct [(0,1,false),(1,1,false),(2,1,false),(3,1,false)]) 4 true (.agg [.slice 11 [] .nil,.slice 6 [] .nil,.int .i64 0,.int .i64 0])),
 (23,.mk (.slc 78 11 88) 1 false (.slice 11 [] .nil)),
 (78,.mk (.strct [(0,1,false),(1,1,false),(2,3,true),(5,3,true),(8,3,true)]) 11 true (.agg [.int .i64 0,.int .i64 0,.int .i64 0,.int .i64 0,.int .i64 0,.int .i64 0,.int .i64 0,.int .i64 0,.int .i64 0,.int .i64 0,.int .i64 0])),
 (46,.mk (.slc 3 1 8) 1 false (.slice 1 [] .nil)),
 (51,.mk (.slc 41 3 24) 1 false (.slice 3 [] .nil)),
 (43,.mk (.strct [(0,1,false),(1,1,false),(2,1,false),(3,3,true),(6,1,false),(7,1,false),(8,1,false)]) 9 true (.agg [.int .i64 0,.int .i64 0,.int .i64 0,.int .i64 0,.int .i64 0,.int .i64 0,.int .i64 0,.int .i64 0,.int .i64 0])),
 (28,.mk (.slc 48 14 128) 1 false (.slice 14 [] .nil)),
 (48,.mk (.strct [(0,9,true),(9,1,false),(10,1,false),(11,1,false),(12,1,false),(13,1,false)]) 14 true (.agg [.int .i64 0,.int .i64 0,.int .i64 0,.int .i64 0,.int .i64 0,.int .i64 0,.int .i64 0,.int .i64 0,.int .i64 0,.int .i64 0,.int .i64 0,.int .i64 0,.int .i64 0,.slice 1 [] .nil])),
 (24,.mk (.slc 112 6 48) 1 false (.slice 6 [] .nil)),
 (112,.mk (.strct [(0,1,false),(1,1,false),(2,1,false),(3,3,true)]) 6 true (.agg [.int .i64 0,.int .i64 0,.int .i64 0,.int .i64 0,.int .i64 0,.int .i64 0])),
 (1,.mk .other 1 false .nilfunc),
 (2,.mk (.int .i64) 1 false (.int .i64 0)),
 (5,.mk (.int .u8) 1 false (.int .u8 0)),
 (9,.mk .str 1 false (.str [])),
 (20,.mk .iface 1 false .nilif),
 (21,.mk (.int .i32) 1 false (.int .i32 0)),
 (22,.mk (.slc 56 15 152) 1 false (.slice 15 [] .nil)),
 (27,.mk (.slc 45 11 88) 1 false (.slice 11 [] .nil)),
 (29,.mk (.slc 169 1 8) 1 false (.slice 1 [] .nil)),
 (31,.mk (.strct [(0,4,true),(4,1,false),(5,1,false),(6,1,false),(7,1,false),(8,1,false)]) 9 true (.agg [.slice 11 [] .nil,.slice 6 [] .nil,.int .i64 0,.int .i64 0,.int .i64 0,.int .i64 0,.slice 11 [] .nil,.slice 14 [] .nil,.slice 1 [] .nil])),
 (35,.mk (.ptr 98) 1 false .nilptr),
 (38,.mk (.strct [(0,1,false),(1,1,false)]) 2 true (.agg [.int .i64 0,.int .i64 0])),
 (45,.mk (.strct [(0,9,true),(9,1,false),(10,1,false)]) 11 true (.agg [.int .i64 0,.int .i64 0,.int .i64 0,.int .i64 0,.int .i64 0,.int .i64 0,.int .i64 0,.int .i64 0,.int .i64 0,.int .i64 0,.int .i64 0])),
 (56,.mk (.strct [(0,1,false),(1,4,true),(5,9,true),(14,1,false)]) 15 true (.agg [.int .i64 0,.slice 11 [] .nil,.slice 6 [] .nil,.int .i64 0,.int .i64 0,.int .i64 0,.int .i64 0,.int .i64 0,.int .i64 0,.int .i64 0,.int .i64 0,.int .i64 0,.int .i64 0,.int .i64 0,.int .i64 0])),
 (58,.mk (.slc 70 1 8) 1 false (.slice 1 [] .nil)),
 (62,.mk (.strct [(0,1,false),(1,15,true),(16,1,false)]) 17 true (.agg [.int .i64 0,.int .i64 0,.slice 11 [] .nil,.slice 6 [] .nil,.int .i64 0,.int .i64 0,.int .i64 0,.int .i64 0,.int .i64 0,.int .i64 0,.int .i64 0,.int .i64 0,.int .i64 0,.int .i64 0,.int .i64 0,.int .i64 0,.int .i64 0])),
 (64,.mk (.slc 73 2 32) 1 false (.slice 2 [] .nil)),
 (69,.mk (.slc 62 17 168) 1 false (.slice 17 [] .nil)),
 (70,.mk (.int .i64) 1 false (.int .i64 0)),
 (71,.mk (.slc 75 3 24) 1 false (.slice 3 [] .nil)),
 (73,.mk (.strct [(0,1,false),(1,1,false)]) 2 true (.agg [.int .i64 0,.slice 3 [] .nil])),
 (75,.mk (.strct [(0,1,false),(1,1,false),(2,1,false)]) 3 true (.agg [.int .i64 0,.int .i64 0,.int .i64 0])),
 (84,.mk (.int .u32) 1 false (.int .u32 0)),
 (86,.mk (.strct [(0,0,true),(0,1,false)]) 1 true (.agg [.int .u32 0])),
 (90,.mk (.strct [(0,0,true),(0,2,true)]) 2 true (.agg [.int .i32 0,.int .u32 0])),
 (92,.mk (.strct [(0,0,true),(0,1,true),(1,2,true)]) 3 true (.agg [.int .u32 0,.int .i32 0,.int .u32 0])),
 (93,.mk (.mp 3 38) 1 false .nilmap),
 (96,.mk (.strct [(0,0,true),(0,0,true),(0,1,false)]) 1 true (.agg [.int .i64 0])),
 (98,.mk (.strct [(0,9,true),(9,3,true),(12,1,false),(13,1,false),(14,1,true)]) 15 true (.agg [.slice 11 [] .nil,.slice 6 [] .nil,.int .i64 0,.int .i64 0,.int .i64 0,.int .i64 0,.slice 11 [] .nil,.slice 14 [] .nil,.slice 1 [] .nil,.int .u32 0,.int .i32 0,.int .u32 0,.nilmap,.slice 3 [] .nil,.int .i64 0])),
 (99,.mk (.ptr 118) 1 false .nilptr),
 (103,.mk .other 1 false .nilfunc),
 (108,.mk (.ptr 157) 1 false .nilptr),
 (116,.mk (.mp 3 41) 1 false .nilmap),
 (118,.mk (.strct [(0,4,true),(4,1,false)]) 5 true (.agg [.slice 11 [] .nil,.slice 6 [] .nil,.int .i64 0,.int .i64 0,.nilmap])),
 (120,.mk .other 1 false .nilfunc),
 (121,.mk .other 1 false .nilfunc),
 (126,.mk .other 1 false .nilfunc),
 (127,.mk (.ptr 96) 1 false .nilptr),
 (129,.mk (.ptr 2) 1 false .nilptr),
 (134,.mk (.strct [(0,4,true)]) 4 true (.agg [.slice 11 [] .nil,.slice 6 [] .nil,.int .i64 0,.int .i64 0])),
 (136,.mk (.ptr 31) 1 false .nilptr),
 (138,.mk (.strct [(0,9,true)]) 9 true (.agg [.int .i64 0,.int .i64 0,.int .i64 0,.int .i64 0,.int .i64 0,.int .i64 0,.int .i64 0,.int .i64 0,.int .i64 0])),
 (141,.mk (.strct [(0,1,false)]) 1 true (.agg [.int .i64 0])),
 (143,.mk (.strct [(0,1,false)]) 1 true (.agg [.int .i64 0])),
 (147,.mk (.strct [(0,1,false)]) 1 true (.agg [.int .i64 0])),
 (150,.mk (.strct []) 0 true (.agg [])),
 (153,.mk (.ptr 197) 1 false .nilptr),
 (155,.mk (.ptr 202) 1 false .nilptr),
 (157,.mk (.strct [(0,1,false),(1,1,false)]) 2 true (.agg [.nilptr,.nilptr])),
 (161,.mk (.ptr 92) 1 false .nilptr),
 (164,.mk .other 1 false .nilfunc),
 (165,.mk .other 1 false .nilfunc),
 (168,.mk (.int .u64) 1 false (.int .u64 0)),
 (169,.mk (.int .u64) 1 false (.int .u64 0)),
 (172,.mk (.ptr 70) 1 false .nilptr),
 (190,.mk (.ptr 192) 1 false .nilptr),
 (192,.mk (.strct [(0,9,true),(9,1,false),(10,1,false),(11,1,false)]) 12 true (.agg [.slice 11 [] .nil,.slice 6 [] .nil,.int .i64 0,.int .i64 0,.int .i64 0,.int .i64 0,.slice 11 [] .nil,.slice 14 [] .nil,.slice 1 [] .nil,.slice 3 [] .nil,.bool false,.int .i64 0])),
 (195,.mk (.slc 5 1 1) 1 false (.slice 1 [] .nil)),
 (197,.mk (.strct [(0,1,false),(1,1,false),(2,1,false),(3,1,false)]) 4 true (.agg [.int .i64 0,.slice 1 [] .nil,.slice 1 [] .nil,.bool false])),
 (200,.mk (.ptr 263) 1 false .nilptr),
 (202,.mk (.strct [(0,1,false),(1,9,true)]) 10 true (.agg [.nilptr,.slice 11 [] .nil,.slice 6 [] .nil,.int .i64 0,.int .i64 0,.int .i64 0,.int .i64 0,.slice 11 [] .nil,.slice 14 [] .nil,.slice 1 [] .nil])),
 (208,.mk (.slc 9 1 16) 1 false (.slice 1 [] .nil)),
 (211,.mk (.ptr 86) 1 false .nilptr),
 (213,.mk (.ptr 84) 1 false .nilptr),
 (219,.mk (.strct [(0,1,false)]) 1 true (.agg [.int .i64 0])),
 (222,.mk .other 1 false .nilfunc),
 (226,.mk (.strct [(0,9,true),(9,1,false),(10,1,false)]) 11 true (.agg [.int .i64 0,.int .i64 0,.int .i64 0,.int .i64 0,.int .i64 0,.int .i64 0,.int .i64 0,.int .i64 0,.int .i64 0,.int .i64 0,.int .i64 0])),
 (227,.mk .other 1 false .nilfunc),
 (229,.mk .other 1 false .nilfunc),
 (238,.mk .other 1 false .nilfunc),
 (242,.mk .other 1 false .nilfunc),
 (243,.mk .other 1 false .nilfunc),
 (244,.mk .other 1 false .nilfunc),
 (245,.mk (.ptr 248) 1 false .nilptr),
 (248,.mk (.strct [(0,9,true)]) 9 true (.agg [.slice 11 [] .nil,.slice 6 [] .nil,.int .i64 0,.int .i64 0,.int .i64 0,.int .i64 0,.slice 11 [] .nil,.slice 14 [] .nil,.slice 1 [] .nil])),
 (258,.mk .iface 1 false .nilif),
 (263,.mk (.strct [(0,1,false),(1,1,false)]) 2 true (.agg [.nilptr,.int .i64 0])),
 (267,.mk (.ptr 272) 1 false .nilptr),
 (268,.mk (.ptr 270) 1 false .nilptr),
 (270,.mk (.strct [(0,1,false),(1,1,false)]) 2 true (.agg [.nilptr,.slice 1 [] .nil])),
 (272,.mk (.strct [(0,2,true)]) 2 true (.agg [.nilptr,.slice 1 [] .nil])),
 (285,.mk .iface 1 false .nilif),
 (290,.mk (.int .u64) 1 false (.int .u64 0)),
 (291,.mk (.arr 16 1 false) 16 true (.agg [.int .u64 0,.int .u64 0,.int .u64 0,.int .u64 0,.int .u64 0,.int .u64 0,.int .u64 0,.int .u64 0,.int .u64 0,.int .u64 0,.int .u64 0,.int .u64 0,.int .u64 0,.int .u64 0,.int .u64 0,.int .u64 0])),
 (302,.mk .other 1 false .nilfunc),
 (311,.mk .iface 1 false .nilif),
 (316,.mk (.ptr 318) 1 false .nilptr),
 (318,.mk (.strct [(0,2,true)]) 2 true (.agg [.nilptr,.slice 1 [] .nil])),
 (323,.mk (.ptr 5) 1 false .nilptr),
 (324,.mk (.ptr 88) 1 false .nilptr),
 (326,.mk (.ptr 21) 1 false .nilptr),
 (328,.mk .other 1 false .nilptr),
 (332,.mk (.strct [(0,1,false)]) 1 true (.agg [.nilfunc])),
 (335,.mk (.slc 46 1 24) 1 false (.slice 1 [] .nil)),
 (345,.mk (.ptr 348) 1 false .nilptr),
 (346,.mk .other 1 false .nilfunc),
 (348,.mk (.strct [(0,1,false),(1,1,false)]) 2 true (.agg [.slice 14 [] .nil,.nilfunc])),
 (352,.mk (.slc 354 1 8) 1 false (.slice 1 [] .nil)),
 (354,.mk (.arr 1 1 false) 1 true (.agg [.int .i64 0])),
 (356,.mk .other 1 false .nilfunc),
 (357,.mk .other 1 false .nilfunc),
 (376,.mk (.mp 3 4) 1 false .nilmap),
 (377,.mk (.slc 20 1 16) 1 false (.slice 1 [] .nil)),
 (389,.mk (.mp 391 3) 1 false .nilmap),
 (391,.mk (.strct [(0,1,false),(1,1,false),(2,1,false),(3,1,false)]) 4 true (.agg [.int .i64 0,.int .i64 0,.int .i64 0,.int .i64 0])),
 (403,.mk (.ptr 405) 1 false .nilptr),
 (405,.mk (.strct [(0,1,false)]) 1 true (.agg [.str []])),
 (416,.mk (.int .i64) 1 false (.int .i64 0)),
 (429,.mk (.mp 3 3) 1 false .nilmap),
 (435,.mk (.int .u64) 1 false (.int .u64 0)),
 (439,.mk (.ptr 3) 1 false .nilptr),
 (442,.mk (.ptr 435) 1 false .nilptr)]
def F0:List (Nat×Nat):=[(40,3),(41,3),(42,9),(43,9),(77,11),(78,11),(111,6),(112,6),(353,1),(354,1),(390,4),(391,4),(44,11),(45,11),(226,11),(75,3),(74,3),(38,2),(37,2)]
def M0:aEN:=[(226,"tithebarn/queue.id",335),(226,"tithebarn/queue.seq",336)]
noncomputable def E:Env:={P:=Tryz.prog,T:=T0,mt:=M0,fl:=F0,own:=[],rws:=[],bl:=[],df:=[]}
def hE:ae E where
 mix:=by kernel_rfl
 tab:=P0 (by kernel_rfl) (by kernel_rfl)
 mth:=AE.cons (λ v w=>by kernel_rfl) (AE.cons (λ v w=>by kernel_rfl) AE.nil)
 fl:=N7 (by kernel_rfl)
noncomputable def Er(l b:az):Env:={E with rws:=l,bl:=b}
def hEr(l b:az):ae (Er l b):=⟨hE.mix,hE.tab,hE.mth,hE.fl⟩
noncomputable def Eo(l b:az):Env:={E with own:=l,bl:=b}
def hEo(l b:az):ae (Eo l b):=⟨hE.mix,hE.tab,hE.mth,hE.fl⟩
noncomputable def Ed(df:List (Nat×ax)):Env:={E with df:=df}
def hEd(df:List (Nat×ax)):ae (Ed df):=⟨hE.mix,hE.tab,hE.mth,hE.fl⟩
noncomputable def Ex(o r b:az):Env:={E with own:=o,rws:=r,bl:=b}
def hEx(o r b:az):ae (Ex o r b):=⟨hE.mix,hE.tab,hE.mth,hE.fl⟩
noncomputable def El(l:Nat)(o r b:az):Env:={Ex o r b with rd:=some l}
def hEl(l:Nat)(o r b:az):ae (El l o r b):=⟨hE.mix,hE.tab,hE.mth,hE.fl⟩
def c_(fn:Func){f:FuncId}{args:ax}{r:Res}(h:okL args->To E fn (.pure r) (.code [.code (cH fn)] (frA 0 args) []))(i:Tryz.prog.funcs[f]? =some fn:=by rfl)(j:fn.body=some (cH fn):=by rfl)(d:kK Tryz.prog f:=by exact λ_ _=>by rfl)(a:cS fn.ntmps (cH fn)=true:=by decide+kernel)(k:Fp args.length fn.ntmps=true:=by rfl):aA Tryz.prog f args [] r []:=cT (E:=E) (g:=.pure r) h rfl i j d a k rfl rfl rfl
structure V3 where
 (a b c:Int)
 deriving DecidableEq
abbrev _root_.a8:=List V3
structure Nod where
 (p w:Int)
 (n b l:V3)
 deriving DecidableEq
abbrev _root_.bb:=List Nod
structure Hos where
 (f b r:Int)
 (c:V3)
 deriving DecidableEq
structure Con where
 ns:bb
 hs:List Hos
 (half age:Int)
 deriving DecidableEq
structure Gan where
 (id ten pods:Int)
 need:V3
 (run lev pref:Int)
 deriving DecidableEq
abbrev ii(n:Int):aa:=.int .i64 n
def V3.cs(v:V3):ax:=[ii v.a,ii v.b,ii v.c]
def Nod.cs(x:Nod):ax:=[ii x.p,ii x.w,ii x.n.a,ii x.n.b,ii x.n.c,ii x.b.a,ii x.b.b,ii x.b.c,ii x.l.a,ii x.l.b,ii x.l.c]
def Nod.av(x:Nod):aa:=.agg x.cs
def Hos.cs(x:Hos):ax:=[ii x.f,ii x.b,ii x.r,ii x.c.a,ii x.c.b,ii x.c.c]
def Hos.av(x:Hos):aa:=.agg x.cs
abbrev nav(l:bb):ax:=l.map Nod.av
abbrev hav(l:List Hos):ax:=l.map Hos.av
def Con.cs(x:Con):ax:=[.slice 11 (nav x.ns) .no,.slice 6 (hav x.hs) .no,ii x.half,ii x.age]
def Con.av(x:Con):aa:=.agg x.cs
def Gan.cs(x:Gan):ax:=[ii x.id,ii x.ten,ii x.pods,ii x.need.a,ii x.need.b,ii x.need.c,ii x.run,ii x.lev,ii x.pref]
def Gan.av(x:Gan):aa:=.agg x.cs
abbrev iv(l:aw):ax:=l.map ii
def V3.zero:V3:=⟨0,0,0⟩
def V3.av(v:V3):aa:=.agg v.cs
abbrev vav(l:a8):ax:=l.map V3.av
def uI{n:Int}(h1: -9223372036854775808<=n)(a:n<=9223372036854775807):inR .i64 n:=⟨by simp only [bW];omega,by simp only [aW];omega⟩
def kS{l:bb}{i:Nat}(h:i<l.length):(nav l)[i]? =some l[i].av:=by simp [nav,h]
def wK{l:List Hos}{i:Nat}(h:i<l.length):(hav l)[i]? =some l[i].av:=by simp [hav,h]
def gM{l:aw}{i:Nat}(h:i<l.length):(iv l)[i]? =some (ii l[i]):=by simp [iv,h]
def cN{M:Imm}{ob:Hs}{v:Value}{cs:ax}(h:Rep M ob v (.agg cs))(i:Nat)(a:aa)(c:cs[i]? =some a):okA a:=by
 obtain ⟨vs,_,hl,d⟩:=h.agg_inv;have b:i<vs.length:=by rw [hl];exact (Ac.1 c).1
 exact (d i _ a (Aa b) c).okA
def aA.get{P:Program}{f:FuncId}{args:ax}{ac ao:au}{r:Res}(Q:Prop)(c:∀ M ob vs,bX M ob vs args->Q)(h:Q->aA P f args ac r ao):aA P f args ac r ao:=
 λ M ob w a hm b=>h (c _ _ _ b) M ob w a hm b
def MV{b:Bool}(h:(!b)=true):b=false:=by cases b<;>first | rfl | cases h
def MW{b:Bool}(h:(!b)=false):b=true:=by cases b<;>first | rfl | cases h
structure Rn where
 g:Gan
 (seq at' st fl:Int)
 hs:aw
 deriving DecidableEq
abbrev _root_.a6:=List Rn
def Rn.cs(x:Rn):ax:=[ii x.g.id,ii x.g.ten,ii x.g.pods,ii x.g.need.a,ii x.g.need.b,ii x.g.need.c,ii x.g.run,ii x.g.lev,ii x.g.pref,ii x.seq,ii x.at',ii x.st,ii x.fl,.slice 1 (iv x.hs) .no]
def Rn.av(x:Rn):aa:=.agg x.cs
abbrev rav(l:a6):=l.map Rn.av
def eX{l:a6}{i:Nat}(h:i<l.length):(rav l)[i]? =some l[i].av:=by simp [rav,h]
def vF{l:a8}{i:Nat}(h:i<l.length):(vav l)[i]? =some l[i].av:=by simp [vav,h]
def aEV{n:Int}(h:9223372036854775807<n)(a:n<=18446744073709551614):IntKind.wrap .i64 n=n-18446744073709551616:=by simp [IntKind.wrap,IntKind.signed,IntKind.bits];omega
def aEU{n:Int}(h:n< -9223372036854775808)(a: -18446744073709551616<=n):IntKind.wrap .i64 n=n+18446744073709551616:=by simp [IntKind.wrap,IntKind.signed,IntKind.bits];omega
set_option maxRecDepth 10000
def gU(n m:Int):Int:=min (max n (0-m)) m
def yM(n m:Int)(h:0<=m): -m<=gU n m/\gU n m<=m:=by unfold gU;omega
def SB(n m:Int)(a:0<=m)(h1:m<=1099511627776):aq 42 [ii n,ii m] [] (.ret (ii (gU n m))) []:=by exact c_ Tryz.f42 λ_=>zW
def iV(x y:Int):Int:=gU (gU x 1099511627776+gU y 1099511627776) 1099511627776
def XJ(x y:Int):Int:=gU (gU x 1099511627776-gU y 1099511627776) 1099511627776
def aCk(x n:Int):Int:=gU (gU x 1099511627776*gU n 1048576) 1099511627776
def aMH(x n:Int): -1152921504606846976<=gU x 1099511627776*gU n 1048576/\gU x 1099511627776*gU n 1048576<=1152921504606846976:=by
 have h1:=yM x 1099511627776 d_;have a:=yM n 1048576 d_;have h3:(gU x 1099511627776*gU n 1048576).natAbs<=1099511627776*1048576:=by rw [Int.natAbs_mul];exact Gc o_ o_
 omega
def aIW(x y:Int):aq 41 [ii x,ii y] [] (.ret (ii (iV x y))) []:=by
 have h1:=yM x 1099511627776 d_;have a:=yM y 1099511627776 d_;refine c_ Tryz.f41 λ_=>?_
 repeat' first | (refine gN hE ?_;conv=>whnf) | refine .pure _ [] (SB _ _ d_ d_) ?_ | exact rfl | refine zt ?_ | refine zu ?_ ?_ | intro h | fail
def aFr(x y:Int):aq 259 [ii x,ii y] [] (.ret (ii (XJ x y))) []:=by
 have h1:=yM x 1099511627776 d_;have a:=yM y 1099511627776 d_;refine c_ Tryz.f259 λ_=>?_
 repeat' first | (refine gN hE ?_;conv=>whnf) | refine .pure _ [] (SB _ _ d_ d_) ?_ | exact rfl | refine zt ?_ | refine zu ?_ ?_ | intro h | fail
def aGJ(x y n:Int):aq 67 [ii x,ii y,.ptr [ii n]] [] (.ret (ii (aCk x n))) []:=by
 have h1:=aMH x n;refine c_ Tryz.f67 λ_=>?_
 repeat' first | (refine gN hE ?_;conv=>whnf) | refine .pure _ [] (SB _ _ d_ d_) ?_ | exact rfl | refine zt ?_ | refine zu ?_ ?_ | intro h | fail
def V3.map2(op:Int->Int->Int)(a b:V3):V3:=⟨op a.a b.a,op a.b b.b,op a.c b.c⟩
def WJ(f:FuncId)(op:Int->Int->Int)(a b:V3)(h:∀ x y,aA Tryz.prog f [ii x,ii y] [] (.ret (ii (op x y))) []):aq 40 [a.av,b.av,.func (.func f) [] []] [] (.ret (V3.map2 op a b).av) []:=by
  refine c_ Tryz.f40 λ_=>gV ?_
  repeat' first
   | (refine gW hE ?_;conv=>whnf)
   | refine .pure _ [] (h _ _) ?_
   | exact rfl
   | refine aY ?_
   | refine aN ?_
   | refine aJ ?_
   | refine Ao _ (Ab rfl ?_)
   | refine Ab d_ ?_
def aDT(f:FuncId)(op:Int->Int->Int)(n:Int)(a b:V3)(h:∀ x y,aA Tryz.prog f [ii x,ii y,.ptr [ii n]] [] (.ret (ii (op x y))) []):aq 40 [a.av,b.av,.func (.func f) [] [.ptr [ii n]]] [] (.ret (V3.map2 op a b).av) []:=by
  refine c_ Tryz.f40 λ_=>gV ?_
  repeat' first
   | (refine gW hE ?_;conv=>whnf)
   | refine .pure _ [] (h _ _) ?_
   | exact rfl
   | refine aY ?_
   | refine aN ?_
   | refine aJ ?_
   | refine Ao _ (Ab rfl ?_)
   | refine Ab d_ ?_
def fP(a b:V3):V3:=V3.map2 iV a b
def EV(a b:V3):V3:=V3.map2 XJ a b
def aL2(a:V3)(n:Int):V3:=V3.map2 (λ x _=>aCk x n) a a
def iH(a b:V3):aq 25 [a.av,b.av] [] (.ret (fP a b).av) []:=by refine c_ Tryz.f25 λ_=>?_;have c:=WJ _ iV a b aIW;exact zW
def IA(a b:V3):aq 216 [a.av,b.av] [] (.ret (EV a b).av) []:=by refine c_ Tryz.f216 λ_=>?_;have c:=WJ _ XJ a b aFr;exact zW
def aE0(a:V3)(n:Int):aq 39 [a.av,ii n] [] (.ret (aL2 a n).av) []:=by refine c_ Tryz.f39 λ_=>?_;have b:=aDT _ (λ x _=>aCk x n) n a a λ x y=>aGJ x y n;exact zW
def cQ(a b:V3):Bool:=if decide (b.a<a.a)=true then false else if decide (b.b<a.b)=true then false else if decide (b.c<a.c)=true then false else true
abbrev aKr(n:Int):aa:=.func (.func 65) [] [.ptr [ii n]]
def aKq(x:Nod)(n:Int):aq 65 [x.av,.ptr [ii n]] [] (.ret (.bool (decide (x.p=n)))) []:=by exact c_ Tryz.f65 λ_=>zW
def ak(n:Int):bb->Nat->Int
 | [],_=> -1
 | x::r,i=>if decide (x.p=n)=true then (i:Int) else ak n r (i+1)
noncomputable abbrev aJb:Func:=Tryz.f103
def YQ(l:bb)(n:Int)(hl:((nav l).length:Int)<=9223372036854775807)(r:Int):∀ (m i:Nat),i+m=l.length->ak n (l.drop i) i=r->
  To E aJb (.pure (.ret (ii r))) (.head (stk aJb 0) [(0,.slice 11 (nav l) .no),(1,aKr n),(7,.int .i64 ((nav l).length:Nat)),(8,.int .i64 i)] []):=by
 have d:(nav l).length=l.length:=by simp
 intro m;induction m with
 | zero=>
  intro i e a;rw [Ai o_] at a;subst a;refine gV ?_;exact zW
 | succ m g=>
  intro i e a;have b:i<l.length:=o_;rw [Ag b] at a;generalize f:l[i]=x at a;have get:(nav l)[i]? =some x.av:=(kS b).trans (by rw [f]);unfold ak at a;refine gV ?_;refine aT λ h=>?_
  repeat' first | (refine gN hE ?_;conv=>whnf) | refine ⟨_,get,?_⟩ | refine .pure _ [] (aKq x n) ?_ | exact rfl | refine zt ?_ | refine zu ?_ ?_ | intro h | fail
  .have h:decide (x.p=n)=true:=h;rw [if_pos h] at a;rw [<-a]
  .have h:decide (x.p=n)=false:=h;rw [if_neg (by rw [h];decide)] at a;have c:=g (i+1) o_ a;exact zW
def aHg(l:bb)(n:Int):aq 103 [.slice 11 (nav l) .no,aKr n] [] (.ret (ii (ak n l 0))) []:=by refine c_ Tryz.f103 λ b=>?_;have hl:((nav l).length:Int)<=9223372036854775807:=b.1;have a:=YQ l n hl _ l.length 0 o_ rfl;exact zW
def aHm(l:bb)(n:Int):aq 64 [.slice 11 (nav l) .no,aKr n] [] (.ret (.bool (decide (0<=ak n l 0)))) []:=by refine c_ Tryz.f64 λ_=>?_;have a:=aHg l n;exact zW
def bC(ns:bb)(n:Int):Bool:=if decide (0<=n)=true then (if decide (n<(ns.length:Int))=true then !decide (0<=ak n ns 0) else false) else false
def aCB(c:Con)(n:Int)(r:Bool)(b:bC c.ns n=r):aq 36 [c.av,ii n] [] (.ret (.bool r)) []:=by
 have d:(nav c.ns).length=c.ns.length:=by simp
 unfold bC at b;refine c_ Tryz.f36 λ_=>gV ?_;refine Ab (λ h1=>?_) (λ h1=>?_)
 .have h1:decide (0<=n)=true:=h1;rw [if_pos h1] at b;refine gV ?_;refine Ab (λ a=>?_) (λ a=>?_)
  .have a:decide (n<((nav c.ns).length:Int))=true:=a;rw [d] at a;rw [if_pos a] at b
   repeat' first | (refine gN hE ?_;conv=>whnf) | refine .pure _ [] (aHm c.ns n) ?_ | exact rfl | refine zt ?_ | refine zu ?_ ?_ | intro h | fail
   rw [<-b]
  .have a:decide (n<((nav c.ns).length:Int))=false:=a;rw [d] at a;rw [if_neg (by rw [a];decide)] at b
   repeat' first | (refine gN hE ?_;conv=>whnf) | exact rfl | refine zt ?_ | refine zu ?_ ?_ | intro h | fail
   rw [<-b]
 .have h1:decide (0<=n)=false:=h1;rw [if_neg (by rw [h1];decide)] at b
  repeat' first | (refine gN hE ?_;conv=>whnf) | exact rfl | refine zt ?_ | refine zu ?_ ?_ | intro h | fail
  rw [<-b]
def jL(c:Con)(n:Int):aq 36 [c.av,ii n] [] (.ret (.bool (bC c.ns n))) []:=aCB c n _ rfl
inductive Ylds(P:Program)(l:Nat):aw->BInv->BInv->Bool->Prop
 | nil (I:BInv):Ylds P l [] I I true
 | stop (x:Int) (r:aw) (I I':BInv) (h:bF P (.yield l) [ii x] [.bun 0 I] (.ret (.bool false)) [.bun 1 I']):Ylds P l (x::r) I I' false
 | next (x:Int) (r:aw) (I I1 I2:BInv) (b:Bool) (h:bF P (.yield l) [ii x] [.bun 0 I] (.ret (.bool true)) [.bun 1 I1]) (k:Ylds P l r I1 I2 b):Ylds P l (x::r) I I2 b
def upF(ns:bb):Nat->Int->aw
 | 0,_=>[]
 | f+1,n=>if decide (0<=n)=true then (if h:n.toNat<ns.length then (if decide (n<=(ns[n.toNat]).p)=true then [n] else n::upF ns f (ns[n.toNat]).p) else []) else []
def upL(ns:bb)(n:Int):aw:=upF ns (n.toNat+1) n
noncomputable abbrev aHD:Func:=Tryz.f66
def aAv(l:Nat)(c:Con)(hl:((nav c.ns).length:Int)<=9223372036854775807)(g:BInv)(b:Bool):∀ (f:Nat) (n:Int),n<(f:Int)->∀ (I:BInv),Ylds Tryz.prog l (upF c.ns f n) I g b->
  ∃ m k,To E aHD (.full 2 (.ret (.tup [])) [.cells 3 [m],.bun k g]) (.head (stk aHD 0) [(0,.func (.yield l) [] []),(1,.ref 0 0),(2,.ptr c.cs)] [.cells 3 [ii n],.bun 1 I]):=by
 have o:(nav c.ns).length=c.ns.length:=by simp
 intro f;induction f with
 | zero=>
  intro n u I a;have h1:¬ 0<=n:=o_;cases a;exact zqha2
 | succ f i=>
  intro n u I a;have s:=λ(p:Int) (hp:¬ n<=p) (e:BInv) (h1:Ylds Tryz.prog l (upF c.ns f p) e g b)=>i p o_ e h1;unfold upF at a;by_cases h1:0<=n
  .rw [if_pos (decide_eq_true h1)] at a;by_cases h:n.toNat<c.ns.length
   .rw [dif_pos h] at a;generalize r:c.ns[n.toNat]=x at a;have get:(nav c.ns)[n.toNat]? =some x.av:=(kS h).trans (by rw [r]);have v:n=(n.toNat:Int):=o_;by_cases h3:n<=x.p
    .rw [if_pos (decide_eq_true h3)] at a;cases a with
     | stop _ _ _ _ d=>
      exact zqha2
     | next _ _ _ e _ _ d j=>
      cases j;exact zqha2
    .rw [if_neg (by rw [decide_eq_false h3];decide)] at a;cases a with
     | stop _ _ _ _ d=>
      exact zqha2
     | next _ _ _ e _ _ d j=>
      obtain ⟨m,k,q⟩:=s x.p o_ _ j;refine ⟨m,k,gV ?_⟩;exact zW
   .rw [dif_neg h] at a;cases a;exact zqha2
  .rw [if_neg (by rw [decide_eq_false h1];decide)] at a;cases a;exact zqha2
def XA(l:Nat)(c:Con)(n:Int)(I e:BInv)(b:Bool)(hl:((nav c.ns).length:Int)<=9223372036854775807)(a:Ylds Tryz.prog l (upL c.ns n) I e b):
  ∃ m i,To E aHD (.full 2 (.ret (.tup [])) [.cells 3 [m],.bun i e]) (.head (stk aHD 0) [(0,.func (.yield l) [] []),(1,.ref 0 0),(2,.ptr c.cs)] [.cells 3 [ii n],.bun 0 I]):=by
 have j:(nav c.ns).length=c.ns.length:=by simp
 unfold upL at a;have q:=λ(p:Int) (hp:¬ n<=p) (f:BInv) (h1:Ylds Tryz.prog l (upF c.ns n.toNat p) f e b)=>aAv l c hl e b n.toNat p o_ f h1;unfold upF at a;by_cases h1:0<=n
 .rw [if_pos (decide_eq_true h1)] at a;by_cases g:n.toNat<c.ns.length
  .rw [dif_pos g] at a;generalize o:c.ns[n.toNat]=x at a;have get:(nav c.ns)[n.toNat]? =some x.av:=(kS g).trans (by rw [o]);have r:n=(n.toNat:Int):=o_;by_cases h3:n<=x.p
   .rw [if_pos (decide_eq_true h3)] at a;cases a with
    | stop _ _ _ _ d=>
     exact zqha2
    | next _ _ _ f _ _ d h=>
     cases h;exact zqha2
   .rw [if_neg (by rw [decide_eq_false h3];decide)] at a;cases a with
    | stop _ _ _ _ d=>
     exact zqha2
    | next _ _ _ f _ _ d h=>
     obtain ⟨m,i,k⟩:=q x.p o_ _ h;refine ⟨m,i,gV ?_⟩;exact zW
  .rw [dif_neg g] at a;cases a;refine ⟨ii n,0,gV ?_⟩;exact zW
 .rw [if_neg (by rw [decide_eq_false h1];decide)] at a;cases a;refine ⟨ii n,0,gV ?_⟩;exact zW
def IE(l:Nat)(c:Con)(n:Int)(I a:BInv)(b:Bool)(hl:((nav c.ns).length:Int)<=9223372036854775807)(e:Ylds Tryz.prog l (upL c.ns n) I a b):∃ m d,aq 66 [.func (.yield l) [] [],.ref 0 0,.ptr c.cs] [.cells 3 [ii n],.bun 0 I] (.ret (.tup [])) [.cells 3 [m],.bun d a]:=by obtain ⟨m,d,h⟩:=XA l c n I a b hl e;refine ⟨m,d,?_⟩;refine cT (E:=E) (fn:=Tryz.f66) (g:=.full 2 _ _) λ_=>?_;exact zW
def TH(c:Con)(n:Int):aq 37 [c.av,ii n] [] (.ret (.func (.func 66) [] [.ref 0 0,.ptr c.cs])) [.cells 3 [ii n]]:=by refine cT (E:=E) (fn:=Tryz.f37) (g:=.full 0 _ _) λ_=>gV ?_;refine ⟨[0],[1],⟨rfl,rfl⟩,?_⟩;exact ⟨rfl,rfl⟩
abbrev Led:=List (Int×V3)
def led(L:Led):List (aw×aa):=L.map λ p=>([p.1],p.2.av)
def iJ:Led->Int->Option V3
 | [],_=>none
 | (k,v)::r,n=>if k=n then some v else iJ r n
def xV:Led->Int->V3->Led
 | [],n,v=>[(n,v)]
 | (k,w)::r,n,v=>if k=n then (n,v)::r else (k,w)::xV r n v
def DB:Led->Int->Led
 | [],_=>[]
 | (k,w)::r,n=>if k=n then r else (k,w)::DB r n
def C5(n:Int):∀ (L:Led),bB (led L) [n]=(iJ L n).map V3.av
 | []=>rfl
 | (k,v)::r=>by
  have:=C5 n r;simp only [led,Bl,bB,iJ,Ko,and_true] at this⊢;split
  .rfl
  .exact this
def UX(n:Int)(v:V3):∀ (L:Led),kF (led L) [n] v.av=led (xV L n v)
 | []=>rfl
 | (k,w)::r=>by
  have:=UX n v r;simp only [led,Bl,kF,xV,Ko,and_true] at this⊢;split
  .rfl
  .rw [this];rfl
def UY(n:Int):∀ (L:Led),E2 (led L) [n]=led (DB L n)
 | []=>rfl
 | (k,w)::r=>by
  have:=UY n r;simp only [led,Bl,E2,DB,Ko,and_true] at this⊢;split
  .rfl
  .rw [this];rfl
def qE(L:Led)(n:Int):V3:=(iJ L n).getD V3.zero
def isZ(v:V3):Bool:=(v.a==0)&&((v.b==0)&&((v.c==0)&&true))
def NC(L:Led)(n:Int)(v:V3):Led:=if isZ v=true then DB L n else xV L n v
abbrev E4(c:Con):ax:=[.slice 11 (nav c.ns) .no,.slice 6 (hav c.hs) .no,ii c.half,ii c.age,.mref 1]
def aGe(c:Con)(n:Int)(v:V3)(L L':Led)(a:NC L n v=L'):aq 38 [.ref 0 0,ii n,v.av] [.cells 118 (E4 c),.mp false (led L)] (.ret (.tup [])) [.cells 118 (E4 c),.mp false (led L')]:=by
 unfold NC at a;refine cT (E:=E) (fn:=Tryz.f38) (g:=.full 2 _ _) λ_=>gV ?_;refine Ab (λ h1=>?_) (λ h1=>?_)
 .have h1:isZ v=true:=h1;rw [if_pos h1] at a;refine gV ?_;refine ⟨[],[0,1],⟨rfl,rfl⟩,?_⟩;refine ⟨rfl,?_⟩;show [ab.cells _ _,ab.mp false (E2 (led L) [n])]=_;rw [UY,a]
 .have h1:isZ v=false:=h1;rw [if_neg (by rw [h1];decide)] at a;refine gV ?_;refine ⟨[],[0,1],⟨rfl,rfl⟩,?_⟩;refine ⟨rfl,?_⟩;show [ab.cells _ _,ab.mp false (kF (led L) [n] v.av)]=_;rw [UX,a]
def put_ok(c:Con)(n:Int)(v:V3)(L:Led):aq 38 [.ref 0 0,ii n,v.av] [.cells 118 (E4 c),.mp false (led L)] (.ret (.tup [])) [.cells 118 (E4 c),.mp false (led (NC L n v))]:=aGe c n v L _ rfl
def BP{α:Type}{P:Program}{l:Nat}(F:α->BInv)(st:α->Int->α)(h:∀ a x,bF P (.yield l) [ii x] [.bun 0 (F a)] (.ret (.bool true)) [.bun 1 (F (st a x))]):∀ (xs:aw) (a:α),Ylds P l xs (F a) (F (xs.foldl st a)) true
 | [],a=>.nil _
 | x::r,a=>.next x r _ _ _ _ (h a x) (BP F st h r (st a x))
def yR(v:V3)(L:Led)(x:Int):Led:=NC L x (fP (qE L x) v)
noncomputable abbrev aHL:Func:=Tryz.f23
def aNB(c:Con):ar:=[(4,.ref 2 0),(6,.ref 3 0),(7,.ref 4 0),(22,.func (.func 66) [] [.ref 5 0,.ptr c.cs])]
def WT(c:Con)(v:V3)(L:Led)(o:ab):au:=[.cells 118 (E4 c),.mp false (led L),.cells 99 [.ref 0 0],.cells 41 v.cs,.cells 103 [.func (.func 25) [] []],.dead,o]
def aEn(c:Con)(v:V3)(L:Led)(x:Int)(l:Nat)(R:Loop)(d:R.state= .ready):
  To (El l [] [] []) aHL (.keep 7 (.ret (.bool true)) (WT c v (yR v L x) (.bun 0 (bY l {R with state:=.busy})))) (.code [.code (rfA aHL),.beginR,.code (rfB aHL)] (gR (aNB c) 23 (ii x)) (WT c v L (.bun 0 (bY l R)))):=by
 refine gV ?_;refine To.beginR (k:=6) (gg:=0) rfl rfl d ?_;have a:=C5 x L;unfold yR qE;cases b:iJ L x with
 | none=>
  rw [b] at a;have a:bB (led L) [x]=none:=a;refine gV ?_;refine ⟨none,a,gV ?_⟩;refine .pure _ [] (iH V3.zero v) ?_;exact zqha8
 | some u=>
  rw [b] at a;have a:bB (led L) [x]=some u.av:=a;refine gV ?_;refine ⟨some u.av,a,gV ?_⟩;refine .pure _ [] (iH u v) ?_;exact zqha8
def SX(c:Con)(t:Int)(v:V3)(L L':Led)(e:Int)(i:bC c.ns t=true->L'=(upL c.ns t).foldl (yR v) L/\e=0)(h:bC c.ns t=false->L'=L/\e=3)(hl:((nav c.ns).length:Int)<=9223372036854775807):
  aq 23 [.ref 0 0,ii t,v.av,.func (.func 25) [] []] [.cells 118 (E4 c),.mp false (led L)] (.ret (ii e)) [.cells 118 (E4 c),.mp false (led L')]:=by
 refine cT (E:=E) (fn:=Tryz.f23) (g:=.full 2 _ _) λ_=>gV ?_;refine .pure _ [] (jL c t) (gV ?_);refine Ab (λ h1=>?_) (λ h1=>?_)
 .have h1:bC c.ns t=false:=MV h1;obtain ⟨rfl,rfl⟩:=h h1;refine gV ?_;refine ⟨[],[0,1],⟨rfl,rfl⟩,⟨rfl,rfl⟩⟩
 .have h1:bC c.ns t=true:=MW h1;obtain ⟨rfl,rfl⟩:=i h1;refine gV ?_;refine .pure _ [.cells 3 [ii t]] (TH c t) (gV ?_);refine To.cutC [4,6,7,22] 6 rfl rfl rfl rfl ?_;refine To.range [5] rfl rfl (λ_ _=>by rfl) rfl (λ_ _=>rfl) rfl λ l ob0 R _ a=>?_;obtain ⟨m,j,d⟩:=IE l c t _ _ true hl (BP (P:=Tryz.prog) (l:=l) (λ L=>jG ob0 (aNB c) R (WT c v L (.bun 0 (bY l R)))) (yR v) (λ L x=>gO (E:=Ex [] [] []) (fn:=aHL) (k:=6) (n:=7) (p:=23) (gg:=0) (L':=WT c v (yR v L x) (.bun 0 (bY l {R with state:=.busy}))) (b:=true) a.params a.ready a.pend a.assign a.body a.size rfl rfl rfl rfl rfl rfl rfl λ_=>aEn c v L x l R a.ready) (upL c.ns t) L);refine ⟨_,true,_,[.cells 3 [m]],j,d,rfl,rfl,gV ?_⟩;refine ⟨[],[0,1],⟨rfl,rfl⟩,⟨rfl,rfl⟩⟩
structure Con.sm(c:Con):Prop where
 ns:c.ns.length<=1048576
 hs:c.hs.length<=1048576
def aKz(c:Con)(b:c.sm):aq 22 [c.av] [] (.ret (.ref 0 0)) [.cells 118 (E4 c),.mp false (led [])]:=by
 have h1:=b.ns;have a:(nav c.ns).length=c.ns.length:=by simp
 refine cT (E:=E) (fn:=Tryz.f22) (g:=.full 0 _ _) λ_=>gV ?_;refine Ab (Ab (by simp only [maxLen];omega) o_) ?_;refine gV ?_;refine ⟨[],[3,2],⟨rfl,rfl⟩,⟨rfl,rfl⟩⟩
def kB(f:Nat->V3)(i m:Nat):a8:=(Dr i).map f++Aj m V3.zero
def DX(f:Nat->V3)(i m:Nat):(kB f i m).length=i+m:=by simp [kB]
def DW(f:Nat->V3)(i m:Nat):(vav (kB f i (m+1))).set i (f i).av=vav (kB f (i+1) m):=by
 have h1:(Dr i).length=i:=by simp
 unfold kB vav;rw [Mh,Bk,Bk,Bk,Ku,Bl];rw [Gt _ _ s_];simp
def DY(f:Nat->V3)(n:Nat):kB f n 0=(Dr n).map f:=by simp [kB]
def yF(f:Nat->V3)(n:Nat):vav (kB f 0 n)=Aj n (aa.agg [ii 0,ii 0,ii 0]):=by simp [kB,vav,V3.av,V3.zero,V3.cs]
noncomputable abbrev aNj:Func:=Tryz.f26
abbrev aCA(c:Con)(L:Led):au:=[.cells 118 (E4 c),.mp false (led L)]
def mJ(n:Nat)(L:Led):a8:=(Dr n).map λ i:Nat=>qE L (i:Int)
def aEG(c:Con)(L:Led)(j:c.ns.length<=1048576)(K:Int)(g:K=(c.ns.length:Nat)):∀ (m i:Nat),i+m=c.ns.length->
  To E aNj (.full 2 (.ret (.slice 3 (vav (mJ c.ns.length L)) .no)) (aCA c L)) (.head (stk aNj 0) [(0,.ref 0 0),(3,.row 2 0),(15,.int .i64 K),(16,.int .i64 i)] [.cells 118 (E4 c),.mp false (led L),.row 0 3 41 (vav (kB (λ i:Nat=>qE L (i:Int)) i m))]):=by
 intro m;induction m with
 | zero=>
  intro i d;have e:kB (λ i:Nat=>qE L (i:Int)) i 0=mJ c.ns.length L:=by rw [DY];unfold mJ;rw [<-d];rfl
  rw [e];refine gV ?_;refine aF λ h=>gV ?_;refine ⟨[2],[0,1],⟨rfl,rfl⟩,⟨rfl,rfl⟩⟩
 | succ m f=>
  intro i d;have hl:(vav (kB (λ i:Nat=>qE L (i:Int)) i (m+1))).length=i+(m+1):=by rw [Cf,DX]
  have hs:=DW (λ i:Nat=>qE L (i:Int)) i m;have a:=C5 (i:Int) L;have next:=f (i+1) o_
  rw [<-hs] at next
  unfold qE at next
  refine gV ?_;refine aT λ h=>?_;cases b:iJ L (i:Int) with
  | none=>
   rw [b] at a next
   have a:bB (led L) [(i:Int)]=none:=a;refine gV ?_;refine ⟨none,a,?_⟩;exact zqha1
  | some u=>
   rw [b] at a next
   have a:bB (led L) [(i:Int)]=some u.av:=a;refine gV ?_;refine ⟨some u.av,a,?_⟩;exact zqha1
def aLU(c:Con)(L:Led)(b:c.sm):aq 26 [.ref 0 0] (aCA c L) (.ret (.slice 3 (vav (mJ c.ns.length L)) .no)) (aCA c L):=by
 have h1:=b.ns;have a:(nav c.ns).length=c.ns.length:=by simp
 refine cT (E:=E) (fn:=Tryz.f26) (g:=.full 2 _ _) λ_=>gV ?_;refine aN (gV ?_);refine ⟨c.ns.length,by rw [a],gV ?_⟩;refine ⟨⟨rfl,by omega,by simp only [maxLen];omega⟩,?_⟩;refine gV ?_;have next:=aEG c L h1 ((Aj c.ns.length (aa.agg [ii 0,ii 0,ii 0])).length:Nat) (by rw [Gu]) c.ns.length 0 o_
 rw [yF] at next
 exact To.head [0,3,15,16] next
def dem(g:Gan):V3:=aL2 g.need g.pods
def R9(g:Gan):aq 24 [g.av] [] (.ret (dem g).av) []:=by refine c_ Tryz.f24 λ_=>?_;have a:=aE0 g.need g.pods;exact zW
def uC(c:Con)(L:Led)(x:Rn):Led:=if bC c.ns x.g.ten=true then (upL c.ns x.g.ten).foldl (yR (dem x.g)) L else L
def ofL(c:Con)(l:a6):a8:=mJ c.ns.length (l.foldl (uC c) [])
def ZY(c:Con)(t:Int)(v:V3)(L:Led)(a:c.sm):aq 23 [.ref 0 0,ii t,v.av,.func (.func 25) [] []] (aCA c L) (.ret (ii (if bC c.ns t=true then 0 else 3))) (aCA c (if bC c.ns t=true then (upL c.ns t).foldl (yR v) L else L)):=
 SX c t v L _ _ (λ h=>⟨if_pos h,if_pos h⟩) (λ h=>⟨if_neg (by rw [h];decide),if_neg (by rw [h];decide)⟩) (by have:=a.ns;simp only [Cf];omega)
noncomputable abbrev fOf:Func:=Tryz.f10
def aGu(c:Con)(d:c.sm)(l:a6)(hl:l.length<=1048576)(R:a8):∀ (m i:Nat) (L:Led),i+m=l.length->mJ c.ns.length ((l.drop i).foldl (uC c) L)=R->
  To E fOf (.pure (.ret (.slice 3 (vav R) .no))) (.head (stk fOf 0) [(5,.ref 1 0),(10,.slice 14 (rav l) .no),(11,.int .i64 ((rav l).length:Nat)),(12,.int .i64 i)] [.cells 26 c.cs,.cells 118 [.slice 11 (nav c.ns) .no,.slice 6 (hav c.hs) .no,ii c.half,ii c.age,.mref 2],.mp false (led L)]):=by
 have e:(rav l).length=l.length:=by simp
 intro m;induction m with
 | zero=>
  intro i L j a;rw [Ai o_] at a;subst a;refine gV ?_;refine aF λ h=>gV ?_;refine .eff [] [1,2] _ _ rfl (aLU c L d) ?_;exact zW
 | succ m k=>
  intro i L j a;have b:i<l.length:=o_;rw [Ag b,Ba] at a;generalize f:l[i]=x at a;have get:(rav l)[i]? =some x.av:=(eX b).trans (by rw [f]);have next:=k (i+1) (uC c L x) o_ a
  refine gV ?_;refine aT λ h=>gV ?_;refine ⟨i,rfl,gV ?_⟩;refine ⟨_,get,gV ?_⟩;refine .pure _ [] (R9 x.g) (gV ?_);refine .sole rfl (.eff [] [1,2] _ _ rfl (ZY c x.g.ten (dem x.g) L d) ?_);exact zW
def CW(c:Con)(a:c.sm)(l:a6)(hl:l.length<=1048576):aq 10 [c.av,.slice 14 (rav l) .no] [] (.ret (.slice 3 (vav (ofL c l)) .no)) []:=by refine c_ Tryz.f10 λ_=>gV ?_;refine .pure _ [_,_] (aKz c a) (gV ?_);exact To.cut [5,10,11,12] 3 rfl rfl rfl rfl (aGu c a l hl _ l.length 0 [] o_ rfl)
def lvF(ns:bb):Nat->Nat->aw
 | 0,_=>[]
 | m+1,i=>if bC ns (i:Int)=true then (i:Int)::lvF ns m (i+1) else lvF ns m (i+1)
def sQ(ns:bb):aw:=lvF ns ns.length 0
def JI(ns:bb):∀ (m i:Nat),(lvF ns m i).length<=m
 | 0,_=>by simp [lvF]
 | m+1,i=>by
  have:=JI ns m (i+1);unfold lvF;split
  .simp;omega
  .omega
noncomputable abbrev aNe:Func:=Tryz.f308
def aCu(c:Con)(k:c.sm)(R:aw):∀ (m i:Nat) (a:aw),i+m=c.ns.length->a.length<=i->a++lvF c.ns m i=R->
  To (Eo [3] []) aNe (.pure (.ret (.slice 1 (iv R) .no))) (.head (stk aNe 0) [(1,.ref 0 0),(3,.slice 1 (iv a) (.own 1 0)),(7,.int .i64 ((nav c.ns).length:Nat)),(8,.int .i64 i)] [.cells 26 c.cs,.tail 0 1 3]):=by
 have g:(nav c.ns).length=c.ns.length:=by simp
 have h1:=k.ns;intro m;induction m with
 | zero=>
  intro i a n j b;unfold lvF at b;rw [Au] at b;subst b;refine gV ?_;exact zW
 | succ m f=>
  intro i a n j b;have l:(iv a).length=a.length:=by simp
  unfold lvF at b;refine gV ?_;refine aT λ h=>gV ?_;refine .pure _ [] (jL c i) (gV ?_);refine Ab (λ d=>?_) (λ d=>?_)
  .have d:bC c.ns (i:Int)=true:=d;rw [if_pos d] at b;have next:=f (i+1) (a++[(i:Int)]) o_ q_ (by rw [Ae];exact b)
   have e:iv (a++[(i:Int)])=iv a++[ii i]:=by simp
   rw [e] at next
   exact zW
  .have d:bC c.ns (i:Int)=false:=d;rw [if_neg (by rw [d];decide)] at b;have next:=f (i+1) a o_ o_ b
   exact zW
def aKG(c:Con)(b:c.sm):aq 308 [c.av] [] (.ret (.slice 1 (iv (sQ c.ns)) .no)) []:=by refine cT (E:=(Eo [3] [])) (fn:=Tryz.f308) (g:=.pure _) λ_=>?_;have a:=aCu c b _ c.ns.length 0 [] o_ s_ rfl;exact zW
def aAu(ns:bb):∀ (f:Nat) (n x:Int),x∈upF ns f n->x<=n
 | 0,n,x,h=>by simp [upF] at h
 | f+1,n,x,h=>by
  unfold upF at h;split at h
  .split at h
   .split at h
    .simp at h;omega
    .rename_i h3;rcases Bc.1 h with rfl | h
     .omega
     .have:=aAu ns f _ x h;have:¬ n<=(ns[n.toNat]).p:=λ a=>h3 (decide_eq_true a);omega
   .simp at h
  .simp at h
def PX(ns:bb):∀ (f:Nat) (n:Int),(upF ns f n).Pairwise λ a b=>b<a
 | 0,n=>by simp [upF]
 | f+1,n=>by
  unfold upF;split
  .split
   .split
    .simp
    .rename_i h3;refine Cr.2 ⟨λ x c=>?_,PX ns f _⟩;have:=aAu ns f _ x c;have:¬ n<=(ns[n.toNat]).p:=λ d=>h3 (decide_eq_true d);omega
   .simp
  .simp
def wH(ns:bb)(n t:Int):aw:=if n∈upL ns t then [t] else []
def bP(ns:bb)(n:Int):aw:=(sQ ns).flatMap (wH ns n)
noncomputable abbrev kI:Func:=Tryz.f307
def aFg(c:Con)(n:Int)(lv:aw)(i K:Int):ar:=[(1,.ptr c.cs),(2,.ptr [ii n]),(3,.ref 1 0),(5,.ref 2 0),(8,.slice 1 (iv lv) .no),(9,.int .i64 K),(10,.int .i64 i),(16,.func (.func 66) [] [.ref 3 0,.ptr c.cs])]
def qS(l:Nat)(t:Int)(G:Nat)(I:BInv)(o:ab):au:=[.bun G I,.cells 165 [.func (.yield l) [] []],.cells 3 [ii t],.dead,o]
abbrev busy(R:Loop):Loop:={R with state:=.busy}
def aFd(c:Con)(n t x i K:Int)(lv:aw)(l l2 G:Nat)(I:BInv)(R:Loop)(a:R.state= .ready)(b:x≠n):
  To (El l2 [] [] []) kI (.keep 5 (.ret (.bool true)) (qS l t G I (.bun 0 (bY l2 (busy R))))) (.code [.code (rfA kI),.beginR,.code (rfB kI)] (gR (aFg c n lv i K) 17 (ii x)) (qS l t G I (.bun 0 (bY l2 R)))):=by
 exact zqha3
def aJy(c:Con)(n t i K:Int)(lv:aw)(l l2 G:Nat)(I b:BInv)(R:Loop)(a:R.state= .ready)(e:G=0\/G=1)(d:bF Tryz.prog (.yield l) [ii t] [.bun 0 I] (.ret (.bool true)) [.bun 1 b]):
  To (El l2 [] [] []) kI (.keep 5 (.ret (.bool true)) (qS l t (G+1) b (.bun 0 (bY l2 (busy R))))) (.code [.code (rfA kI),.beginR,.code (rfB kI)] (gR (aFg c n lv i K) 17 (ii n)) (qS l t G I (.bun 0 (bY l2 R)))):=by
 rcases e with rfl | rfl
 .exact zqha3
 .exact zqha3
def aFc(c:Con)(n t i K:Int)(lv:aw)(l l2 G:Nat)(I b:BInv)(R:Loop)(a:R.state= .ready)(e:G=0\/G=1)(d:bF Tryz.prog (.yield l) [ii t] [.bun 0 I] (.ret (.bool false)) [.bun 1 b]):
  To (El l2 [] [] []) kI (.keep 5 (.ret (.bool false)) (qS l t (G+1) b (.bun 0 (bY l2 (busy R))))) (.code [.code (rfA kI),.beginR,.code (rfB kI)] (gR (aFg c n lv i K) 17 (ii n)) (qS l t G I (.bun 0 (bY l2 R)))):=by
 rcases e with rfl | rfl
 .exact zqha3
 .exact zqha3
def xG{P:Program}{l:Nat}{J:BInv}{n:Int}(hs:∀ x,x≠n->bF P (.yield l) [ii x] [.bun 0 J] (.ret (.bool true)) [.bun 1 J]):∀ (xs:aw),n∉xs->Ylds P l xs J J true
 | [],_=>.nil _
 | x::r,h=>.next x r _ _ _ _ (hs x λ e=>h (by simp [e])) (xG hs r λ e=>h (by simp [e]))
def BO{P:Program}{l:Nat}{J J1:BInv}{n:Int}{b:Bool}(hs:∀ x,x≠n->bF P (.yield l) [ii x] [.bun 0 J] (.ret (.bool true)) [.bun 1 J])(d:bF P (.yield l) [ii n] [.bun 0 J] (.ret (.bool b)) [.bun 1 J1])
  (h1:b=true->∀ x,x≠n->bF P (.yield l) [ii x] [.bun 0 J1] (.ret (.bool true)) [.bun 1 J1]):∀ (xs:aw),xs.Pairwise (λ a b=>b<a)->n∈xs->Ylds P l xs J J1 b
 | [],_,h=>by simp at h
 | x::r,hp,h=>by
  rw [Cr] at hp;by_cases c:x=n
  .subst c;cases b with
   | true=>exact .next x r _ _ _ _ d (xG (h1 rfl) r λ e=>by have:=hp.1 x e;omega)
   | false=>exact .stop x r _ _ d
  .exact .next x r _ _ _ _ (hs x c) (BO hs d h1 r hp.2 ((Bc.1 h).resolve_left λ e=>c e.symm))
def tnJ(c:Con)(n t i K:Int)(lv:aw)(l l2:Nat)(ob0:Hs)(R a:Loop)(G:Nat)(I:BInv):BInv:=jG ob0 (aFg c n lv i K) R (qS l t G I (.bun 0 (bY l2 a)))
def vK{e d:Code}(c:Con)(n t x i K:Int)(lv:aw)(l l2 G:Nat)(ob0:Hs)(I:BInv)(R:Loop)(a:RecOK kI 17 e d R)(g:rfA kI=e)(h:rfB kI=d)(f:x≠n):
  bF Tryz.prog (.yield l2) [ii x] [.bun 0 (tnJ c n t i K lv l l2 ob0 R R G I)] (.ret (.bool true)) [.bun 1 (tnJ c n t i K lv l l2 ob0 R R G I)]:=by
 subst g h;exact gO (E:=Ex [] [] []) (fn:=kI) (k:=4) (n:=5) (p:=17) (gg:=0) (L':=qS l t G I (.bun 0 (bY l2 (busy R)))) (b:=true) a.params a.ready a.pend a.assign a.body a.size rfl rfl rfl rfl rfl rfl rfl λ_=>aFd c n t x i K lv l l2 G I R a.ready f
def TU{h f:Code}(c:Con)(n t i K:Int)(lv:aw)(l l2 G:Nat)(ob0:Hs)(I d:BInv)(R:Loop)(b:Bool)(a:RecOK kI 17 h f R)(j:rfA kI=h)(m:rfB kI=f)(g:G=0\/G=1)(e:bF Tryz.prog (.yield l) [ii t] [.bun 0 I] (.ret (.bool b)) [.bun 1 d]):
  bF Tryz.prog (.yield l2) [ii n] [.bun 0 (tnJ c n t i K lv l l2 ob0 R R G I)] (.ret (.bool b)) [.bun 1 (tnJ c n t i K lv l l2 ob0 R (lI R b) (G+1) d)]:=by
 subst j m;cases b with
 | true=>exact gO (E:=Ex [] [] []) (fn:=kI) (k:=4) (n:=5) (p:=17) (gg:=0) (L':=qS l t (G+1) d (.bun 0 (bY l2 (busy R)))) (b:=true) a.params a.ready a.pend a.assign a.body a.size rfl rfl rfl rfl rfl rfl rfl λ_=>aJy c n t i K lv l l2 G I d R a.ready g e
 | false=>exact gO (E:=Ex [] [] []) (fn:=kI) (k:=4) (n:=5) (p:=17) (gg:=0) (L':=qS l t (G+1) d (.bun 0 (bY l2 (busy R)))) (b:=false) a.params a.ready a.pend a.assign a.body a.size rfl rfl rfl rfl rfl rfl rfl λ_=>aFc c n t i K lv l l2 G I d R a.ready g e
def aAJ(c:Con)(U:c.sm)(n:Int)(l:Nat)(lv:aw)(k:BInv)(b:Bool)(P:lv.length<=1048576):∀ (m i:Nat) (G:Nat) (I:BInv),i+m=lv.length->(G=0\/G=1)->Ylds Tryz.prog l ((lv.drop i).flatMap (wH c.ns n)) I k b->
  ∃ g,To E kI (.full 1 (.ret (.tup [])) [.bun g k]) (.head (stk kI 0) [(1,.ptr c.cs),(2,.ptr [ii n]),(3,.ref 1 0),(8,.slice 1 (iv lv) .no),(9,.int .i64 ((iv lv).length:Nat)),(10,.int .i64 i)] [.bun G I,.cells 165 [.func (.yield l) [] []]]):=by
 have O:(iv lv).length=lv.length:=by simp
 have F:((nav c.ns).length:Int)<=9223372036854775807:=by have:=U.ns;simp only [Cf];omega
 intro m;induction m with
 | zero=>
  intro i G I S p d;rw [Ai o_] at d;have d:Ylds Tryz.prog l [] I k b:=d;cases d;rcases p with rfl | rfl
  .refine ⟨0,gV ?_⟩;exact zW
  .refine ⟨1,gV ?_⟩;exact zW
 | succ m N=>
  intro i G I S p d;have B:i<lv.length:=o_;rw [Ag B,Jh] at d;generalize j:lv[i]=t at d;have get:(iv lv)[i]? =some (ii t):=(gM B).trans (by rw [j])
  -- what the loop within comes to
  have key:∃ (g u:Nat) (y:BInv) (o:Bool),(o=true->(u=G\/u=G+1)/\To E kI (.full 1 (.ret (.tup [])) [.bun g k]) (.head (stk kI 0) [(1,.ptr c.cs),(2,.ptr [ii n]),(3,.ref 1 0),(8,.slice 1 (iv lv) .no),(9,.int .i64 ((iv lv).length:Nat)),(10,.int .i64 ((i:Int)+1))] [.bun (if u=0 then 0 else 1) y,.cells 165 [.func (.yield l) [] []]]))/\(o=false->u=G+1/\g=1/\y=k)/\
    ∀ (l2:Nat) (ob0:Hs) (R:Loop) (C z:Code),RecOK kI 17 C z R->rfA kI=C->rfB kI=z->Ylds Tryz.prog l2 (upL c.ns t) (tnJ c n t i ((iv lv).length:Nat) lv l l2 ob0 R R G I) (tnJ c n t i ((iv lv).length:Nat) lv l l2 ob0 R (lI R o) u y) o:=by
   unfold wH at d;have v:(upL c.ns t).Pairwise λ a b=>b<a:=PX _ _ _;by_cases w:n∈upL c.ns t
   .rw [if_pos w] at d;have d:Ylds Tryz.prog l (t::(lv.drop (i+1)).flatMap (wH c.ns n)) I k b:=d;cases d with
    | stop _ _ _ _ s=>
     refine ⟨1,G+1,k,false,(λ h=>by cases h),λ_=>⟨rfl,rfl,rfl⟩,λ l2 ob0 R C z f q r=>?_⟩;exact BO (λ x j=>vK c n t x i _ lv l l2 G ob0 I R f q r j) (TU c n t i _ lv l l2 G ob0 I k R false f q r p s) (λ h=>by cases h) _ v w
    | next _ _ _ D _ _ s Y=>
     obtain ⟨g,e⟩:=N (i+1) 1 D o_ (.inr rfl) Y;refine ⟨g,G+1,D,true,λ_=>⟨.inr rfl,?_⟩,(λ h=>by cases h),λ l2 ob0 R C z f q r=>?_⟩
     .rw [if_neg o_];exact e
     .exact BO (λ x j=>vK c n t x i _ lv l l2 G ob0 I R f q r j) (TU c n t i _ lv l l2 G ob0 I D R true f q r p s) (λ_ x j=>vK c n t x i _ lv l l2 (G+1) ob0 D R f q r j) _ v w
   .rw [if_neg w] at d;have d:Ylds Tryz.prog l ((lv.drop (i+1)).flatMap (wH c.ns n)) I k b:=d;obtain ⟨g,e⟩:=N (i+1) G I o_ p d;refine ⟨g,G,I,true,λ_=>⟨.inl rfl,?_⟩,(λ h=>by cases h),λ l2 ob0 R C z f q r=>?_⟩
    .rcases p with rfl | rfl
     .exact e
     .exact e
    .exact xG (λ x j=>vK c n t x i _ lv l l2 G ob0 I R f q r j) _ w
  obtain ⟨g,u,y,o,M,J,H⟩:=key;refine ⟨g,gV ?_⟩;refine aT λ h=>gV ?_;refine ⟨i,rfl,gV ?_⟩;refine ⟨_,get,gV ?_⟩;refine .pure _ [.cells 3 [ii t]] (TH c t) (gV ?_);refine To.cutC [1,2,3,5,8,9,10,16] 4 rfl rfl rfl rfl ?_;refine To.range [3] rfl rfl (λ_ _=>by rfl) rfl (λ_ _=>rfl) rfl λ l2 ob0 R _ f=>?_;obtain ⟨X,T,L⟩:=IE l2 c t _ _ o F (H l2 ob0 R _ _ f rfl rfl);refine ⟨qS l t u y (.bun 0 (bY l2 (lI R o))),o,_,[.cells 3 [X]],T,L,rfl,rfl,?_⟩;cases o with
  | false=>
   obtain ⟨Q,W,V⟩:=J rfl;subst Q W V;rcases p with rfl | rfl
   .refine gV ?_;refine ⟨[],[0],⟨rfl,rfl⟩,⟨rfl,rfl⟩⟩
   .refine gV ?_;refine ⟨[],[0],⟨rfl,rfl⟩,⟨rfl,rfl⟩⟩
  | true=>
   obtain ⟨K,e⟩:=M rfl;refine gV ?_;refine aJ (gV ?_);refine To.part [1,2,3,8,9,10] [0,1] rfl rfl rfl ?_;rcases p with rfl | rfl<;>rcases K with rfl | rfl<;>exact e
def aAI(c:Con)(d:c.sm)(n:Int)(l:Nat)(I e:BInv)(b:Bool)(k:Ylds Tryz.prog l (bP c.ns n) I e b):∃ i,aq 307 [.func (.yield l) [] [],.ptr c.cs,.ptr [ii n]] [.bun 0 I] (.ret (.tup [])) [.bun i e]:=by have a:(sQ c.ns).length<=1048576:=Cx (JI _ _ _) d.ns;obtain ⟨i,h⟩:=aAJ c d n l (sQ c.ns) e b a (sQ c.ns).length 0 0 I o_ (.inl rfl) k;refine ⟨i,?_⟩;refine cT (E:=E) (fn:=Tryz.f307) (g:=.full 1 _ _) λ_=>?_;have j:=aKG c d;exact zW
def BY(c:Con)(n:Int):aq 282 [c.av,ii n] [] (.ret (.func (.func 307) [] [.ptr c.cs,.ptr [ii n]])) []:=by exact c_ Tryz.f282 λ_=>zW
def KV{P:Program}{l:Nat}(F:aw->BInv)(h:∀ (a:aw) x,a.length<1048576->bF P (.yield l) [ii x] [.bun 0 (F a)] (.ret (.bool true)) [.bun 1 (F (a++[x]))]):∀ (xs a:aw),a.length+xs.length<=1048576->Ylds P l xs (F a) (F (a++xs)) true
 | [],a,_=>by rw [Au];exact .nil _
 | x::r,a,hl=>by have:=KV F h r (a++[x]) (by simp at hl⊢;omega);rw [Ae] at this;exact .next x r _ _ _ _ (h a x (by simp at hl;omega)) this
noncomputable abbrev qO:Func:=Tryz.f262
abbrev XH(c:Con)(n:Int):aa:=.func (.func 307) [] [.ptr c.cs,.ptr [ii n]]
def aLT(f:aa):ar:=[(2,.ref 0 0),(6,f)]
def tO(a:aw)(g:Nat)(o:ab):au:=[.cells 46 [.slice 1 (iv a) (.own 1 g)],.tail g 1 3,o]
def Z6(f:aa)(a:aw)(x:Int)(hl:a.length<1048576)(l:Nat)(R:Loop)(b:R.state= .ready):
  To (El l [] [] []) qO (.keep 3 (.ret (.bool true)) (tO (a++[x]) 1 (.bun 0 (bY l (busy R))))) (.code [.code (rfA qO),.beginR,.code (rfB qO)] (gR (aLT f) 7 (ii x)) (tO a 0 (.bun 0 (bY l R)))):=by
 exact zqha4
def Z5(f:aa)(a:aw)(x:Int)(hl:a.length<1048576)(l:Nat)(R:Loop)(b:R.state= .ready):
  To (El l [] [] []) qO (.keep 3 (.ret (.bool true)) (tO (a++[x]) 2 (.bun 0 (bY l (busy R))))) (.code [.code (rfA qO),.beginR,.code (rfB qO)] (gR (aLT f) 7 (ii x)) (tO a 1 (.bun 0 (bY l R)))):=by
 exact zqha4
def gOf:aw->Nat
 | []=>0
 | _::_=>1
def aDg(a:aw)(x:Int):gOf (a++[x])=1:=by cases a<;>rfl
def apJ(f:aa)(ob0:Hs)(R:Loop)(l:Nat)(a:aw):BInv:=jG ob0 (aLT f) R (tO a (gOf a) (.bun 0 (bY l R)))
def aEF{g e:Code}(f:aa)(h:∀ og,cvtV 3 [0,1,2] og 5 f=f)(ob0:Hs)(l:Nat)(R:Loop)(d:aw)(x:Int)(hl:d.length<1048576)(h1:∀ hs∈ob0,hs.length=1)(m:ob0.length=0)(c:RecOK qO 7 g e R)(i:rfA qO=g)(j:rfB qO=e):
  bF Tryz.prog (.yield l) [ii x] [.bun 0 (apJ f ob0 R l d)] (.ret (.bool true)) [.bun 1 (apJ f ob0 R l (d++[x]))]:=by
 subst i j;unfold apJ;rw [aDg];cases d with
 | nil=>exact gO (E:=Ex [] [] []) (fn:=qO) (k:=2) (n:=3) (p:=7) (gg:=0) (L':=tO ([]++[x]) 1 (.bun 0 (bY l (busy R)))) (b:=true) c.params c.ready c.pend c.assign c.body c.size rfl rfl rfl rfl rfl rfl rfl λ_=>Z6 f [] x hl l R c.ready
 | cons a r=>
  have:=gO (E:=Ex [] [] []) (fn:=qO) (ob0:=ob0) (k:=2) (n:=3) (p:=7) (gg:=0) (L:=tO (a::r) 1 (.bun 0 (bY l R))) (L':=tO ((a::r)++[x]) 2 (.bun 0 (bY l (busy R)))) (b:=true) c.params c.ready c.pend c.assign c.body c.size rfl rfl rfl rfl rfl rfl rfl λ_=>Z5 f (a::r) x hl l R c.ready;refine this.bunTo (aEj (n:=3) rfl h1 o_ rfl ?_ rfl);show [(2,aa.ref 0 0),(6,cvtV 3 [0,1,2] _ 5 f)]=_;rw [h];rfl
def aLS(c:Con)(d:c.sm)(n:Int)(e:(bP c.ns n).length<=1048576):aq 262 [.nilslice,XH c n] [] (.ret (.slice 1 (iv (bP c.ns n)) .no)) []:=by refine c_ Tryz.f262 λ_=>gV ?_;refine To.cutC [2,6] 1 rfl rfl rfl rfl ?_;refine To.mapO (aGD 1) (M3 1) ?_;refine To.beginC 0 0 3 rfl rfl ?_;refine To.range [] rfl rfl (λ_ _=>by rfl) rfl (λ_ _=>rfl) rfl λ l ob0 R hst h=>?_;obtain ⟨i,a⟩:=aAI c d n l _ _ true (KV (P:=Tryz.prog) (l:=l) (apJ (XH c n) ob0 R l) (λ b x hl=>aEF (XH c n) (λ_=>rfl) ob0 l R b x hl (hst.2 rfl) hst.1 h rfl rfl) (bP c.ns n) [] (by simpa using e));rw [Bm] at a;refine ⟨_,true,_,[],i,a,rfl,rfl,?_⟩;exact zW
def SJ(c:Con)(d:c.sm)(n:Int)(b:(bP c.ns n).length<=1048576):aq 220 [XH c n] [] (.ret (.slice 1 (iv (bP c.ns n)) .no)) []:=by refine c_ Tryz.f220 λ_=>?_;have a:=aLS c d n b;exact zW
def aHl(ns:bb)(n t:Int):(wH ns n t).length<=1:=by unfold wH;split<;>simp
def yV(c:Con)(a:c.sm)(n:Int):(bP c.ns n).length<=1048576:=by
 have h:∀ (l:aw),(l.flatMap (wH c.ns n)).length<=l.length:=by
  intro l;induction l with
  | nil=>simp
  | cons x r b=>
   have:=aHl c.ns n x;simp only [Jh,Ah,Al];omega
 exact Cx (h _) (Cx (JI _ _ _) a.ns)
def O9(c:Con)(a:c.sm)(n:Int):aq 283 [c.av,ii n] [] (.ret (.slice 1 (iv (bP c.ns n)) .no)) []:=by refine c_ Tryz.f283 λ_=>?_;have b:=BY c n;have d:=SJ c a n (yV c a n);exact zW
def atV(l:a8)(n:Int):V3:=if decide (n<0)=true then V3.zero else (l[n.toNat]?).getD V3.zero
def aIJ(l:a8)(n:Int)(r:V3)(a:atV l n=r):aq 226 [.slice 3 (vav l) .no,ii n] [] (.ret r.av) []:=by
 have c:(vav l).length=l.length:=by simp
 unfold atV at a;by_cases h1:n<0
 .rw [if_pos (decide_eq_true h1)] at a;subst a;exact zqha10
 .rw [if_neg (by rw [decide_eq_false h1];decide)] at a;by_cases b:n.toNat<l.length
  .rw [Aa b] at a;have a:l[n.toNat]=r:=a;have get:(vav l)[n.toNat]? =some r.av:=(vF b).trans (by rw [a]);have d:n=(n.toNat:Int):=o_;exact zqha10
  .rw [Bg o_] at a;have a:V3.zero=r:=a;subst a;exact zqha10
def EJ(l:a8)(n:Int):aq 226 [.slice 3 (vav l) .no,ii n] [] (.ret (atV l n).av) []:=aIJ l n _ rfl
def W6(a b:V3)(r:Bool)(c:cQ a b=r):aq 160 [a.av,b.av] [] (.ret (.bool r)) []:=by
 unfold cQ at c;refine c_ Tryz.f160 λ_=>gV ?_
 repeat' first
  | (refine gW hE ?_;conv=>whnf)
  | exact c
  | refine aY ?_
  | refine aN ?_
  | refine Ab (λ h=>?_) (λ h=>?_)
  | refine aJ ?_
  | refine Ao _ (Ab rfl ?_)
  | refine Ab d_ ?_
 all_goals (rw [<-c];simp_all)
def lD(a b:V3):aq 160 [a.av,b.av] [] (.ret (.bool (cQ a b))) []:=W6 a b _ rfl
def uZ(a b:V3):aq 230 [a.av,b.av] [] (.ret (.bool (!cQ a b))) []:=by refine c_ Tryz.f230 λ_=>?_;have c:=lD a b;exact zW
noncomputable abbrev aHE:Func:=Tryz.f254
def smS(l:a8)(v:V3)(t:Int):V3:=fP v (atV l t)
def lE(ns:bb)(n:Int)(l:a8):V3:=(bP ns n).foldl (smS l) V3.zero
def aMf(f:aa):ar:=[(5,.ref 1 0),(6,.ref 2 0),(7,.ref 3 0),(11,f)]
def T5(c:Con)(l:a8)(v:V3)(o:ab):au:=[.cells 26 c.cs,.cells 51 [.slice 3 (vav l) .no],.cells 41 V3.zero.cs,.cells 41 v.cs,o]
def aA4(c:Con)(n:Int)(l:a8)(v:V3)(x:Int)(k:Nat)(R:Loop)(d:R.state= .ready):
  To (El k [] [] []) aHE (.keep 5 (.ret (.bool true)) (T5 c l (smS l v x) (.bun 0 (bY k (busy R))))) (.code [.code (rfA aHE),.beginR,.code (rfB aHE)] (gR (aMf (XH c n)) 12 (ii x)) (T5 c l v (.bun 0 (bY k R)))):=by
 refine gV ?_;refine To.beginR (k:=4) (gg:=0) rfl rfl d ?_;have a:=EJ l x;have b:=iH v (atV l x);exact zW
def aAO(c:Con)(e:c.sm)(n:Int)(l:a8):aq 254 [c.av,ii n,.slice 3 (vav l) .no] [] (.ret (lE c.ns n l).av) []:=by refine c_ Tryz.f254 λ_=>gV ?_;refine .pure _ [] (BY c n) (gV ?_);refine To.cutC [5,6,7,11] 4 rfl rfl rfl rfl ?_;refine To.range [] rfl rfl (λ_ _=>by rfl) rfl (λ_ _=>rfl) rfl λ k ob0 R hst a=>?_;obtain ⟨h,d⟩:=aAI c e n k _ _ true (BP (P:=Tryz.prog) (l:=k) (λ v=>jG ob0 (aMf (XH c n)) R (T5 c l v (.bun 0 (bY k R)))) (smS l) (λ v x=>gO (E:=Ex [] [] []) (fn:=aHE) (k:=4) (n:=5) (p:=12) (gg:=0) (L':=T5 c l (smS l v x) (.bun 0 (bY k (busy R)))) (b:=true) a.params a.ready a.pend a.assign a.body a.size rfl rfl rfl rfl rfl rfl rfl λ_=>aA4 c n l v x k R a.ready) (bP c.ns n) V3.zero);refine ⟨_,true,_,[],h,d,rfl,rfl,?_⟩;exact zW
def Con.ok(c:Con)(n:Int):Prop:=0<=n/\n.toNat<c.ns.length
def JH(ns:bb):∀ (m i:Nat) (x:Int),x∈lvF ns m i->(i:Int)<=x/\x<i+m
 | 0,_,_,h=>by simp [lvF] at h
 | m+1,i,x,h=>by
  have a:=JH ns m (i+1) x;unfold lvF at h;split at h
  .rcases Bc.1 h with rfl | h
   .omega
   .have:=a h;omega
  .have:=a h;omega
def kZ(c:Con)(n x:Int)(h:x∈bP c.ns n):c.ok x:=by
 unfold bP at h;obtain ⟨t,h1,a⟩:=List.mem_flatMap.1 h;have:x=t:=by
  unfold wH at a;split at a
  .simpa using a
  .simp at a
 subst this;have:=JH c.ns c.ns.length 0 x h1;exact ⟨by omega,by omega⟩
def ID(c:Con):∀ (f:Nat) (n x:Int),x∈upF c.ns f n->c.ok x
 | 0,_,_,h=>by simp [upF] at h
 | f+1,n,x,h=>by
  have b:=λ p=>ID c f p x;unfold upF at h;split at h
  .rename_i h1;split at h
   .rename_i a;split at h
    .simp at h;subst h;exact ⟨of_decide_eq_true h1,a⟩
    .rcases Bc.1 h with rfl | h
     .exact ⟨of_decide_eq_true h1,a⟩
     .exact b _ h
   .simp at h
  .simp at h
def cX(ns:bb)(n:Int):Nod:=(ns[n.toNat]?).getD ⟨0,0,V3.zero,V3.zero,V3.zero⟩
def wA{c:Con}{n:Int}(h:c.ok n):(nav c.ns)[n.toNat]? =some (cX c.ns n).av:=by unfold cX;rw [Aa h.2];exact kS h.2
def aKe(v:V3):V3:=⟨max v.a 0,max v.b 0,max v.c 0⟩
def GN(ns:bb)(a:a8)(t:Int)(v:V3)(s:Int):V3:=if decide (s=t)=true then v else fP v (aKe (EV (EV (cX ns s).n (cX ns s).l) (atV a s)))
def GP(ns:bb)(a:a8)(n t:Int):V3:=(bP ns n).foldl (GN ns a t) V3.zero
noncomputable abbrev aJa:Func:=Tryz.f255
def YK(c:Con)(a:a8)(t:Int)(bl:aw)(y:bl.length<=1048576)(o:∀ x∈bl,c.ok x)(R:V3):∀ (m i:Nat) (v:V3),i+m=bl.length->(bl.drop i).foldl (GN c.ns a t) v=R->
  To E aJa (.pure (.ret R.av)) (.head (stk aJa 0) [(1,.slice 3 (vav a) .no),(3,ii t),(4,.ref 0 0),(8,.ref 1 0),(9,.ref 2 0),(18,.slice 1 (iv bl) .no),(19,.int .i64 ((iv bl).length:Nat)),(20,.int .i64 i)] [.cells 26 c.cs,.cells 41 V3.zero.cs,.cells 41 v.cs]):=by
 have k:(iv bl).length=bl.length:=by simp
 intro m;induction m with
 | zero=>
  intro i v p f;rw [Ai o_] at f;subst f;refine gV ?_;exact zW
 | succ m w=>
  intro i v p f;have e:i<bl.length:=o_;rw [Ag e,Ba] at f;have b:=o _ (Bd e);generalize r:bl[i]=s at f b;have get:(iv bl)[i]? =some (ii s):=(gM e).trans (by rw [r]);have j:=wA b;have q:s=(s.toNat:Int):=by have:=b.1;omega
  have next:=w (i+1) _ o_ f
  unfold GN at next
  generalize cX c.ns s=x at j next
  refine gV ?_;refine aT λ h=>gV ?_;refine ⟨i,rfl,gV ?_⟩;refine ⟨_,get,gV ?_⟩;refine Ab (λ d=>?_) (λ d=>?_)
  .have d:decide (s=t)=true:=d;rw [if_pos d] at next
   exact zW
  .have d:decide (s=t)=false:=d;rw [if_neg (by rw [d];decide)] at next
   refine gV ?_;refine ⟨s.toNat,q,gV ?_⟩;refine ⟨_,j,gV ?_⟩;refine .pure _ [] (IA x.n x.l) (gV ?_);refine .pure _ [] (EJ a s) (gV ?_);refine .pure _ [] (IA (EV x.n x.l) (atV a s)) ?_;generalize EV (EV x.n x.l) (atV a s)=u at next⊢
   refine gV ?_;refine gV ?_;refine aY (gV ?_);refine ⟨by decide,gV ?_⟩;refine ⟨by decide,gV ?_⟩;refine aJ (gV ?_);refine gV ?_;refine aY (gV ?_);refine ⟨by decide,gV ?_⟩;refine ⟨by decide,gV ?_⟩;refine aJ (gV ?_);refine gV ?_;refine aY (gV ?_);refine ⟨by decide,gV ?_⟩;refine ⟨by decide,gV ?_⟩;refine aJ (gV ?_);refine gV ?_;have g:=iH v (aKe u);exact zW
def aG0(c:Con)(d:c.sm)(a:a8)(n t:Int):aq 255 [c.av,.slice 3 (vav a) .no,ii n,ii t] [] (.ret (GP c.ns a n t).av) []:=by refine c_ Tryz.f255 λ_=>?_;have e:=O9 c d n;have b:=YK c a t _ (yV c d n) (λ x h=>kZ c n x h) _ (bP c.ns n).length 0 V3.zero o_ rfl;exact zW
noncomputable abbrev aNd:Func:=Tryz.f243
def qI(ns:bb):a8:=(Dr ns.length).map λ i:Nat=>(cX ns (i:Int)).n
def aCb(c:Con)(b:c.sm)(n:Int)(K:Int)(k:K=((nav c.ns).length:Nat)):∀ (m i:Nat),i+m=c.ns.length->
  To E aNd (.pure (.ret (lE c.ns n (qI c.ns)).av)) (.head (stk aNd 0) [(1,ii n),(2,.ref 0 0),(4,.ref 1 0),(5,.row 2 0),(13,.slice 11 (nav c.ns) .no),(14,.int .i64 K),(15,.int .i64 i)] [.cells 26 c.cs,.cells 41 V3.zero.cs,.row 0 3 41 (vav (kB (λ i:Nat=>(cX c.ns (i:Int)).n) i m))]):=by
 have f:(nav c.ns).length=c.ns.length:=by simp
 have h1:=b.ns;intro m;induction m with
 | zero=>
  intro i a;have e:kB (λ i:Nat=>(cX c.ns (i:Int)).n) i 0=qI c.ns:=by rw [DY];unfold qI;rw [<-a];rfl
  rw [e];refine gV ?_;have d:=aAO c b n (qI c.ns);exact zW
 | succ m g=>
  intro i a;have hl:(vav (kB (λ i:Nat=>(cX c.ns (i:Int)).n) i (m+1))).length=i+(m+1):=by rw [Cf,DX]
  have hs:=DW (λ i:Nat=>(cX c.ns (i:Int)).n) i m;have j:(nav c.ns)[i]? =some (cX c.ns (i:Int)).av:=wA (c:=c) (n:=(i:Int)) ⟨by omega,by omega⟩;have next:=g (i+1) o_
  rw [<-hs] at next
  refine gV ?_;refine aT λ h=>gV ?_;refine ⟨i,rfl,gV ?_⟩;refine ⟨_,j,?_⟩;exact zqha1
def aCa(c:Con)(b:c.sm)(n:Int):aq 243 [c.av,ii n] [] (.ret (lE c.ns n (qI c.ns)).av) []:=by
 have h1:=b.ns;have a:(nav c.ns).length=c.ns.length:=by simp
 refine c_ Tryz.f243 λ_=>gV ?_;refine ⟨c.ns.length,by rw [a],gV ?_⟩;refine ⟨⟨rfl,by omega,by simp only [maxLen];omega⟩,?_⟩;refine gV ?_;have next:=aCb c b n _ rfl c.ns.length 0 o_
 rw [yF] at next
 exact To.cut [1,2,4,5,13,14,15] 3 rfl rfl rfl rfl next
abbrev aBX(c:Con)(used:a8)(need:V3):aa:=.func (.func 252) [] [.ptr c.cs,.ptr [.slice 3 (vav used) .no],.ptr need.cs]
abbrev aEH(c:Con)(used:a8)(need:V3)(t:Int):aa:=.func (.func 253) [] [.ptr c.cs,.ptr [.slice 3 (vav used) .no],.ptr need.cs,.ptr [ii t]]
def aGq(c:Con)(a:a8)(need:V3)(n:Int):Bool:=cQ (fP (atV a n) need) (fP (cX c.ns n).n (cX c.ns n).b)
def aIV(c:Con)(a:a8)(need:V3)(t n:Int):Bool:=cQ (fP (fP (lE c.ns n a) need) (GP c.ns a n t)) (lE c.ns n (qI c.ns))
def I6(c:Con)(a:a8)(need:V3)(n:Int)(h:c.ok n):aq 252 [ii n,.ptr c.cs,.ptr [.slice 3 (vav a) .no],.ptr need.cs] [] (.ret (.bool (aGq c a need n))) []:=by
 have j:=wA h;have m:n=(n.toNat:Int):=by have:=h.1;omega
 unfold aGq;generalize cX c.ns n=x at j⊢;refine c_ Tryz.f252 λ_=>?_;have e:=EJ a n;have d:=iH (atV a n) need;have i:=iH x.n x.b;have hz2:=λ k l=>lD k l;exact zW
def BH(c:Con)(b:c.sm)(a:a8)(need:V3)(t n:Int):aq 253 [ii n,.ptr c.cs,.ptr [.slice 3 (vav a) .no],.ptr need.cs,.ptr [ii t]] [] (.ret (.bool (aIV c a need t n))) []:=by unfold aIV;refine c_ Tryz.f253 λ_=>?_;have i:=aAO c b n a;have d:=iH (lE c.ns n a) need;have e:=aG0 c b a n t;have h:=iH (fP (lE c.ns n a) need) (GP c.ns a n t);have j:=aCa c b n;have hz2:=λ k l=>lD k l;exact zW
noncomputable abbrev aM9:Func:=Tryz.f213
def ruO(c:Con)(a:a8)(need:V3)(t:Int):au:=[.cells 26 c.cs,.cells 51 [.slice 3 (vav a) .no],.cells 3 [ii t],.cells 41 need.cs,.cells 332 [.nilfunc],.cells 332 [.nilfunc],
 .cells 332 [.func (.func 252) [] [.ref 0 0,.ref 1 0,.ref 3 0]],.cells 332 [.func (.func 253) [] [.ref 0 0,.ref 1 0,.ref 3 0,.ref 2 0]]]
def aJZ(c:Con)(a:a8)(need:V3)(t:Int):au:=[.fcells c.cs,.fcells [.slice 3 (vav a) .no],.fcells [ii t],.fcells need.cs,.cells 332 [.nilfunc],.cells 332 [.nilfunc],
 .fcells [aBX c a need],.fcells [aEH c a need t]]
def aJY(c:Con)(a:a8)(need:V3)(t:Int):aj [6,7] (ruO c a need t)=aJZ c a need t:=by kernel_rfl
def aFQ(c:Con)(a:a8)(need:V3)(t:Int):wP [10,11] (aB (aJZ c a need t)) [(8,.ref 4 0),(9,.ref 5 0),(10,.ref 6 0),(11,.ref 7 0)]=[(8,.ref 4 0),(9,.ref 5 0),(10,.ptr [aBX c a need]),(11,.ptr [aEH c a need t])]:=by kernel_rfl
def aFP{g:Goal}{ks:bf}(c:Con)(a:a8)(need:V3)(t:Int)(h:To (Er [] [16,17]) aM9 g (.code ks [(8,.ref 4 0),(9,.ref 5 0),(10,.ptr [aBX c a need]),(11,.ptr [aEH c a need t])] (aJZ c a need t))):
  To (Er [] [16,17]) aM9 g (.code ks [(8,.ref 4 0),(9,.ref 5 0),(10,.ref 6 0),(11,.ref 7 0)] (ruO c a need t)):=by
 refine To.frz [10,11] [6,7] ?_;rw [aJY,aFQ];exact h
def aBf(c:Con)(a:a8)(need:V3)(t:Int):aq 213 [c.av,.slice 3 (vav a) .no,ii t,need.av] [] (.ret (.tup [.agg [aBX c a need],.agg [aEH c a need t]])) []:=by
 refine cT (E:=(Er [] [16,17])) (fn:=Tryz.f213) (g:=.pure _) λ_=>?_;refine cJ (hEr [] [16,17]) 51 ?_;conv=>whnf
 refine To.cutC [8,9,10,11] 8 rfl rfl rfl rfl ?_;refine aFP c a need t ?_;exact zW
def FJ{P:Program}{l:Nat}{J J1:BInv}{p:Int->Bool}{V:Int->Prop}(a:∀ x,V x->p x=true->bF P (.yield l) [ii x] [.bun 0 J] (.ret (.bool true)) [.bun 1 J])(h1:∀ x,V x->p x=false->bF P (.yield l) [ii x] [.bun 0 J] (.ret (.bool false)) [.bun 1 J1]):
  ∀ (xs:aw),(∀ x∈xs,V x)->Ylds P l xs J (if xs.all p=true then J else J1) (xs.all p)
 | [],_=>by simp;exact .nil _
 | x::r,hv=>by
  rw [Jy];cases hp:p x with
  | true=>
   rw [Dc];exact .next x r _ _ _ _ (a x (hv x s_) hp) (FJ a h1 r λ y b=>hv y (by simp [b]))
  | false=>
   rw [Gb,if_neg d_];exact .stop x r _ _ (h1 x (hv x s_) hp)
noncomputable abbrev OC:Func:=Tryz.f161
def QY(c:Con)(a:a8)(t:Int)(need:V3)(x:Int):Bool:=if decide (x=t)=true then aGq c a need x else aIV c a need t x
def M9(c:Con)(a:a8)(t:Int)(need:V3):Bool:=if bC c.ns t=true then (upL c.ns t).all (QY c a t need) else false
def aGH(f:aa):ar:=[(6,.ref 1 0),(8,.ref 3 0),(9,.ref 4 0),(10,.ref 5 0),(26,f)]
def zQ(c:Con)(a:a8)(t:Int)(need:V3)(b:Bool)(o:ab):au:=[.cells 26 c.cs,.cells 3 [ii t],.cells 41 need.cs,.cells 4 [.bool b],.cells 332 [aBX c a need],.cells 332 [aEH c a need t],.dead,o]
abbrev aE5(c:Con):aa:=.func (.func 66) [] [.ref 6 0,.ptr c.cs]
def aMG(c:Con)(f:c.sm)(a:a8)(t:Int)(need:V3)(x:Int)(b:c.ok x)(k:Nat)(R:Loop)(d:R.state= .ready)(hp:QY c a t need x=true):
  To (El k [] [] []) OC (.keep 8 (.ret (.bool true)) (zQ c a t need false (.bun 0 (bY k (busy R))))) (.code [.code (rfA OC),.beginR,.code (rfB OC)] (gR (aGH (aE5 c)) 27 (ii x)) (zQ c a t need false (.bun 0 (bY k R)))):=by
 exact zqha0
def aGG(c:Con)(f:c.sm)(a:a8)(t:Int)(need:V3)(x:Int)(b:c.ok x)(k:Nat)(R:Loop)(d:R.state= .ready)(hp:QY c a t need x=false):
  To (El k [] [] []) OC (.keep 8 (.ret (.bool false)) (zQ c a t need false (.bun 0 (bY k (busy R))))) (.code [.code (rfA OC),.beginR,.code (rfB OC)] (gR (aGH (aE5 c)) 27 (ii x)) (zQ c a t need false (.bun 0 (bY k R)))):=by
 exact zqha0
def aGP(c:Con)(q:c.sm)(a:a8)(t:Int)(need:V3)(r:Bool)(h:M9 c a t need=r):aq 161 [c.av,.slice 3 (vav a) .no,ii t,need.av] [] (.ret (.bool r)) []:=by
 have o:((nav c.ns).length:Int)<=9223372036854775807:=by have:=q.ns;simp only [Cf];omega
 unfold M9 at h;refine c_ Tryz.f161 λ_=>gV ?_;refine .pure _ [] (jL c t) (gV ?_);refine Ab (λ h1=>?_) (λ h1=>?_)
 .have h1:bC c.ns t=false:=MV h1;rw [if_neg (by rw [h1];decide)] at h;subst h;exact zW
 .have h1:bC c.ns t=true:=MW h1;rw [if_pos h1] at h;refine gV ?_;refine .pure _ [] (aBf c a need t) (gV ?_);refine .pure _ [.cells 3 [ii t]] (TH c t) (gV ?_);refine To.cutC [6,8,9,10,26] 7 rfl rfl rfl rfl ?_;refine To.range [6] rfl rfl (λ_ _=>by rfl) rfl (λ_ _=>rfl) rfl λ k ob0 R hst d=>?_
  have e:=FJ (P:=Tryz.prog) (l:=k) (p:=QY c a t need) (V:=c.ok) (J:=jG ob0 (aGH (aE5 c)) R (zQ c a t need false (.bun 0 (bY k R)))) (J1:=jG ob0 (aGH (aE5 c)) R (zQ c a t need false (.bun 0 (bY k (lI R false)))))
   (λ x j hp=>gO (E:=Ex [] [] []) (fn:=OC) (k:=7) (n:=8) (p:=27) (gg:=0) (L':=zQ c a t need false (.bun 0 (bY k (busy R)))) (b:=true) d.params d.ready d.pend d.assign d.body d.size rfl rfl rfl rfl rfl rfl rfl λ_=>aMG c q a t need x j k R d.ready hp)
   (λ x j hp=>gO (E:=Ex [] [] []) (fn:=OC) (k:=7) (n:=8) (p:=27) (gg:=0) (L':=zQ c a t need false (.bun 0 (bY k (busy R)))) (b:=false) d.params d.ready d.pend d.assign d.body d.size rfl rfl rfl rfl rfl rfl rfl λ_=>aGG c q a t need x j k R d.ready hp) (upL c.ns t) (λ x u=>ID c _ _ x u)
  rw [h] at e;obtain ⟨m,s,i⟩:=IE k c t _ _ r o e;cases r with
  | true=>
   refine ⟨_,true,_,[.cells 3 [m]],s,i,rfl,rfl,?_⟩;exact zW
  | false=>
   refine ⟨_,false,_,[.cells 3 [m]],s,i,rfl,rfl,?_⟩;exact zW
def aKE(c:Con)(b:c.sm)(a:a8)(t:Int)(need:V3):aq 161 [c.av,.slice 3 (vav a) .no,ii t,need.av] [] (.ret (.bool (M9 c a t need))) []:=aGP c b a t need _ rfl
def bH(hs:List Hos)(n:Int):Hos:=(hs[n.toNat]?).getD ⟨0,0,0,V3.zero⟩
def JP{c:Con}{i:Nat}(h:i<c.hs.length):(hav c.hs)[i]? =some (bH c.hs (i:Int)).av:=by unfold bH;rw [Bn,Aa h];exact wK h
def aE1(l:a8)(i:Nat)(v:V3):(vav l).set i v.av=vav (l.set i v):=by simp [vav,Gk]
def tL(need:V3)(xs:a8)(h:Int):a8:=if decide (0<=h)=true then (if decide (h<(xs.length:Int))=true then xs.set h.toNat (EV ((xs[h.toNat]?).getD V3.zero) need) else xs) else xs
def sU(need:V3)(xs:a8)(h:Int):(tL need xs h).length=xs.length:=by unfold tL;split<;>(try split)<;>simp
def zU(xs:a8)(x:Rn):a8:=x.hs.foldl (tL x.g.need) xs
def yE(x:Rn):∀ (xs:a8),(zU xs x).length=xs.length:=by
 unfold zU;generalize x.hs=l;induction l with
 | nil=>intro xs;rfl
 | cons h r a=>intro xs;rw [Ba,a,sU]
def jZ(c:Con)(r:a6):a8:=r.foldl zU ((Dr c.hs.length).map λ i:Nat=>(bH c.hs (i:Int)).c)
noncomputable abbrev zY:Func:=Tryz.f163
abbrev frO(c:Con)(xs:a8):au:=[.cells 26 c.cs,.row 0 3 41 (vav xs)]
def aHx(c:Con)(r:a6)(R:a8)(x:Rn)(j:Nat)(y:x.hs.length<=1048576)(z:c.hs.length<=1048576)(O:au):
  ∀ (m i:Nat) (xs:a8),xs.length=c.hs.length->i+m=x.hs.length->
   To E zY (.pure (.ret (.slice 3 (vav R) .no))) (.head (stk zY 1) [(5,.row 1 0),(30,.slice 14 (rav r) .no),(31,.int .i64 ((rav r).length:Nat)),(32,.int .i64 ((j:Int)+1))] (frO c ((x.hs.drop i).foldl (tL x.g.need) xs)))->
   j<1048576->
  To E zY (.pure (.ret (.slice 3 (vav R) .no))) (.head (stk zY 2) [(5,.row 1 0),(9,.ref 2 0),(30,.slice 14 (rav r) .no),(31,.int .i64 ((rav r).length:Nat)),(32,.int .i64 j),(37,.slice 1 (iv x.hs) .no),(38,.int .i64 ((iv x.hs).length:Nat)),(39,.int .i64 i)] (frO c xs++[.cells 48 x.cs])):=by
 have n:(iv x.hs).length=x.hs.length:=by simp
 intro m;induction m with
 | zero=>
  intro i xs e p a l;rw [Ai o_] at a;refine gV ?_;exact zW
 | succ m q=>
  intro i xs e p a l;have d:i<x.hs.length:=o_;rw [Ag d,Ba] at a;generalize s:x.hs[i]=u0 at a;have get:(iv x.hs)[i]? =some (ii u0):=(gM d).trans (by rw [s]);have v:(vav xs).length=xs.length:=by simp
  have next:=q (i+1) (tL x.g.need xs u0) (by rw [sU];exact e) o_ a l
  unfold tL frO at next
  refine gV ?_;refine aT λ h=>gV ?_;refine ⟨i,rfl,gV ?_⟩;refine ⟨_,get,?_⟩;by_cases h1:0<=u0
  .rw [if_pos (decide_eq_true h1)] at next
   by_cases f:u0<(xs.length:Int)
   .rw [if_pos (decide_eq_true f)] at next
    have b:u0.toNat<xs.length:=o_;have w:u0=(u0.toNat:Int):=o_;rw [Aa b] at next
    have o:(vav xs)[u0.toNat]? =some xs[u0.toNat].av:=vF b;rw [show ((some xs[u0.toNat]).getD V3.zero)=xs[u0.toNat] from rfl] at next
    generalize xs[u0.toNat]=u at o next
    rw [<-aE1] at next
    have k:=IA u x.g.need;exact zW
   .rw [if_neg (by rw [decide_eq_false f];decide)] at next
    exact zW
  .rw [if_neg (by rw [decide_eq_false h1];decide)] at next
   exact zW
def Sm(l:a6):Prop:=l.length<=1048576/\∀ x∈l,x.hs.length<=1048576
def Sm.at{l:a6}(h:Sm l){i:Nat}(a:i<l.length):l[i].hs.length<=1048576:=h.2 _ (Bd a)
def aDk(c:Con)(n:c.sm)(r:a6)(e:Sm r)(R:a8):∀ (m i:Nat) (xs:a8),i+m=r.length->xs.length=c.hs.length->(r.drop i).foldl zU xs=R->
  To E zY (.pure (.ret (.slice 3 (vav R) .no))) (.head (stk zY 1) [(5,.row 1 0),(30,.slice 14 (rav r) .no),(31,.int .i64 ((rav r).length:Nat)),(32,.int .i64 i)] (frO c xs)):=by
 have g:(rav r).length=r.length:=by simp
 have hl:=e.1;intro m;induction m with
 | zero=>
  intro i xs j d b;rw [Ai o_] at b;subst b;refine gV ?_;exact zW
 | succ m k=>
  intro i xs j d b;have a:i<r.length:=o_;have f:=e.at a;rw [Ag a,Ba] at b;generalize l:r[i]=x at b f;have get:(rav r)[i]? =some x.av:=(eX a).trans (by rw [l]);have next:=k (i+1) (zU xs x) o_ (by rw [yE];exact d) b
  refine gV ?_;refine aT λ h=>gV ?_;refine ⟨i,rfl,gV ?_⟩;refine ⟨_,get,gV ?_⟩;exact To.cut [5,9,30,31,32,37,38,39] 3 rfl rfl rfl rfl (aHx c r R x i f n.hs [] x.hs.length 0 xs d o_ next o_)
def YX(c:Con)(a:c.sm)(r:a6)(g:Sm r):∀ (m i:Nat),i+m=c.hs.length->
  To E zY (.pure (.ret (.slice 3 (vav (jZ c r)) .no))) (.head (stk zY 0) [(1,.slice 14 (rav r) .no),(2,.ref 0 0),(5,.row 1 0),(17,.slice 6 (hav c.hs) .no),(18,.int .i64 ((hav c.hs).length:Nat)),(19,.int .i64 i)] (frO c (kB (λ i:Nat=>(bH c.hs (i:Int)).c) i m))):=by
 have d:(hav c.hs).length=c.hs.length:=by simp
 have h1:=a.hs;intro m;induction m with
 | zero=>
  intro i b;rw [DY];refine gV ?_;refine aF λ h=>gV ?_;refine To.cut [5,30,31,32] 2 rfl rfl rfl rfl ?_;exact aDk c a r g _ r.length 0 _ o_ q_ (by unfold jZ;rw [<-b];rfl)
 | succ m f=>
  intro i b;have hl:(vav (kB (λ i:Nat=>(bH c.hs (i:Int)).c) i (m+1))).length=i+(m+1):=by rw [Cf,DX]
  have hs:=DW (λ i:Nat=>(bH c.hs (i:Int)).c) i m;have e:(hav c.hs)[i]? =some (bH c.hs (i:Int)).av:=JP o_;have next:=f (i+1) o_
  unfold frO at next
  rw [<-hs] at next
  refine gV ?_;refine aT λ h=>gV ?_;refine ⟨i,rfl,gV ?_⟩;refine ⟨_,e,?_⟩;exact zqha1
def VL(c:Con)(b:c.sm)(r:a6)(d:Sm r):aq 163 [c.av,.slice 14 (rav r) .no] [] (.ret (.slice 3 (vav (jZ c r)) .no)) []:=by
 have h1:=b.hs;have a:(hav c.hs).length=c.hs.length:=by simp
 refine c_ Tryz.f163 λ_=>gV ?_;refine ⟨c.hs.length,by rw [a],gV ?_⟩;refine ⟨⟨rfl,by omega,by simp only [maxLen];omega⟩,?_⟩;refine gV ?_;have next:=YX c b r d c.hs.length 0 o_
 unfold frO at next
 rw [yF] at next
 exact To.cut [1,2,5,17,18,19] 2 rfl rfl rfl rfl next
def aJF{a b:Int}(c:0<=a)(d:0<b)(e:a<=9223372036854775807):inR .i64 (Lt a b):=by
 have h3:(Lt a b).natAbs<=a.natAbs:=by rw [Int.natAbs_tdiv];exact Gv _ _
 have f:0<=Lt a b:=Int.tdiv_nonneg c o_;exact ⟨by simp only [bW];omega,by simp only [aW];omega⟩
def zJ(n free need:Int):Int:=if decide (0<need)=true then min n (Lt free need) else n
def eK(free need:V3):Int:=if cQ need free=true then zJ (zJ (zJ 16 free.a need.a) free.b need.b) free.c need.c else 0
def aNK(v:V3)(M:Imm)(ob:Hs)(vs:ba)(d:ax)(h:bX M ob vs (v.av::d)):inR .i64 v.a/\inR .i64 v.b/\inR .i64 v.c:=by
 have hl:0<vs.length:=by rw [h.1];simp
 have:=h.2 0 _ v.av (Aa hl) rfl;exact ⟨cN this 0 _ rfl,cN this 1 _ rfl,cN this 2 _ rfl⟩
def aBl(free need:V3)(r:Int)(d:eK free need=r):aq 257 [free.av,need.av] [] (.ret (ii r)) []:=by
 refine aA.get _ (λ M ob vs h=>aNK free M ob vs _ h) λ⟨⟨a1,a2⟩,⟨b1,b2⟩,⟨c1,c2⟩⟩=>?_;simp only [bW,aW] at a1 a2 b1 b2 c1 c2;unfold eK at d;refine c_ Tryz.f257 λ_=>gV ?_;refine .pure _ [] (uZ need free) (gV ?_);refine Ab (λ h1=>?_) (λ h1=>?_)
 .have h1:cQ need free=false:=MV h1;rw [if_neg (by rw [h1];decide)] at d;subst d;exact zW
 .have h1:cQ need free=true:=MW h1;rw [if_pos h1] at d;unfold zJ at d;have n:need.a<=free.a/\need.b<=free.b/\need.c<=free.c:=by
   unfold cQ at h1;split at h1
   .cases h1
   .split at h1
    .cases h1
    .split at h1
     .cases h1
     .rename_i j m e;simp only [decide_eq_true_eq] at j m e;omega
  by_cases k:0<need.a<;>by_cases i:0<need.b<;>by_cases l:0<need.c<;>simp only [k,i,l,decide_true,decide_false,if_true,if_false,Cn] at d
  all_goals (refine gV ?_)
  all_goals repeat' first
   | (refine gW hE ?_;conv=>whnf)
   | exact d▸rfl
   | refine aY ?_
   | refine aN ?_
   | refine aT λ h=>?_
   | refine aF λ h=>?_
   | refine aJ ?_
   | refine Fq (Ab (aJF o_ o_ o_) ?_)
   | refine Ao _ (Ab rfl ?_)
   | refine Ab d_ ?_
   | refine Ab o_ ?_
   | fail
def UB(free need:V3):aq 257 [free.av,need.av] [] (.ret (ii (eK free need))) []:=aBl free need _ rfl
def ofK(h:Hos)(i lv:Int):aw:=[h.f,if decide (2<lv)=true then 0 else h.b,if decide (1<lv)=true then 0 else h.r,if decide (0<lv)=true then 0 else i]
def aGv(h:Hos)(i lv:Int)(K:ax)(a:(ofK h i lv).map ii=K):aq 256 [h.av,ii i,ii lv] [] (.ret (.agg K)) []:=by
 unfold ofK at a;refine c_ Tryz.f256 λ_=>?_
 repeat' first | (refine gN hE ?_;conv=>whnf) | exact rfl | refine zt ?_ | refine zu ?_ ?_ | intro h | fail
 all_goals first
  | (subst a;simp only [*,Cn,if_true,if_false,List.map];done)
  | (exfalso;simp only [decide_eq_true_eq,decide_eq_false_iff_not] at *;omega)
def aKx(h:Hos)(i lv:Int):aq 256 [h.av,ii i,ii lv] [] (.ret (.agg ((ofK h i lv).map ii))) []:=aGv h i lv _ rfl
def aJt{n:Nat}(h:n<=16):n=0\/n=1\/n=2\/n=3\/n=4\/n=5\/n=6\/n=7\/n=8\/n=9\/n=10\/n=11\/n=12\/n=13\/n=14\/n=15\/n=16:=o_
def aCl(n:Nat)(a:n<=16):aq 168 [.int .u64 1,.int .u64 (n:Int)] [] (.ret (.tup [.int .u64 0,.int .u64 (n:Int)])) []:=by
 rcases aJt a with rfl | rfl | rfl | rfl | rfl | rfl | rfl | rfl | rfl | rfl | rfl | rfl | rfl | rfl | rfl | rfl | rfl
 all_goals
  refine c_ Tryz.f168 λ_=>?_
  repeat' first
   | (refine gN hE ?_;conv=>whnf)
   | exact rfl
   | refine Fq (Ab (Ab d_ d_) ?_)
   | refine Ab d_ ?_
   | fail
def aKA(n:Nat)(b:n<=16):aq 284 [.int .u64 1,.int .u64 (n:Int)] [] (.ret (.tup [.int .u64 0,.int .u64 (n:Int)])) []:=by refine c_ Tryz.f284 λ_=>?_;have a:=aCl n b;exact zW
def rp(h:Int)(k m:Nat):ax:=iv (Aj k h)++Aj m (ii 0)
def B6(h:Int)(k m:Nat):(rp h k m).length=k+m:=by simp [rp]
noncomputable abbrev aNc:Func:=Tryz.f258
def aFS(h:Int)(k m:Nat):((k:Int)+ ↑(min (Hr k (Hc 0 (rp h k m))).length ((rp h k m).length-k)))=((k+min k m:Nat):Int)/\
  (rp h k m).take k++(Hr k (Hc 0 (rp h k m))).take ((rp h k m).length-k)++(rp h k m).drop (k+min (Hr k (Hc 0 (rp h k m))).length ((rp h k m).length-k))=rp h (k+min k m) (m-min k m):=by
 have a:(iv (Aj k h)).length=k:=by simp
 have h1:(rp h k m).take k=iv (Aj k h):=by unfold rp;rw [Cz o_,Cd o_]
 have hl:=B6 h k m;rw [Cg,h1,hl,a,show k+m-k=m from by omega];refine ⟨by omega,?_⟩;have b:(rp h k m).drop (k+min k m)=Aj (m-min k m) (ii 0):=by unfold rp;rw [List.drop_append,a,List.drop_of_length_le o_,Bm,List.drop_replicate];congr 1;omega
 rw [b];unfold rp;congr 1;simp only [iv,List.map_replicate,List.take_replicate,List.replicate_append_replicate];congr 1;omega
def aBv(a:Int)(N:Nat)(l:N<=16):∀ (f k m:Nat),k+m=N->1<=k->m<=f->
  To (Er [] [38]) aNc (.pure (.ret (.slice 1 (iv (Aj N a)) .no))) (.head (stk aNc 0) [(7,.row 0 0),(8,.int .i64 (k:Int))] [.row 0 1 3 (rp a k m)]):=by
 intro f;induction f with
 | zero=>
  intro k m b h1 hm;have hm:m=0:=o_;subst hm;exact zqha5
 | succ f i=>
  intro k m b h1 hm;by_cases d:m=0
  .subst d;exact zqha5
  have hl:=B6 a k m;have next:=i (k+min k m) (m-min k m) o_ o_ o_
  generalize g:rp a k m=X at hl⊢;refine gV ?_;refine aT λ h=>gV ?_;refine ⟨k,rfl,gV ?_⟩;refine ⟨by omega,gV ?_⟩;refine ⟨k,rfl,gV ?_⟩;refine ⟨by omega,gV ?_⟩;rw [<-g] at hl⊢;obtain ⟨c,j⟩:=aFS a k m;rw [<-c,<-j] at next
  have n:min (Hr k (Hc 0 (rp a k m))).length ((rp a k m).length-k)<=16:=by have:(rp a k m).length=k+m:=B6 a k m;omega
  exact zW
def aBh(h:Int)(m:Nat):((1:Nat):Int)= ↑(min [ii h].length (Aj (m+1) (aa.int .i64 0)).length)/\rp h 1 m=[ii h].take (Aj (m+1) (aa.int .i64 0)).length++(Aj (m+1) (aa.int .i64 0)).drop [ii h].length:=by refine ⟨by simp,?_⟩;simp [rp,List.drop_replicate]
def aJ9(h:Int)(n:Nat)(a:n<=16):aq 258 [.slice 1 [ii h] .no,ii (n:Int)] [] (.ret (.slice 1 (iv (Aj n h)) .no)) []:=by
 have hm:=aKA n a;cases n with
 | zero=>
  refine cT (E:=(Er [] [38])) (fn:=Tryz.f258) (g:=.pure _) λ_=>gV ?_;refine aF λ h=>gV ?_;refine Fq (Ab (Ab (by simp only [bW,Al,Br];omega) (by simp only [aW,Al,Br];omega)) ?_);refine gV ?_;refine Fq (Ab (Ab (by simp only [bW];omega) (by simp only [aW];omega)) ?_);refine gV ?_;refine .pure _ [] hm (gV ?_);refine aF λ h=>gV ?_;refine aF λ h=>gV ?_;refine Fq (Ab (Ab (by simp only [bW];omega) (by simp only [aW];omega)) ?_);refine gV ?_;refine ⟨0,rfl,gV ?_⟩;refine ⟨⟨rfl,by omega,by simp only [maxLen];omega⟩,?_⟩;refine gV ?_;refine gV ?_;exact zW
 | succ m=>
  have next:=aBv h (m+1) a (m+1) 1 m o_ o_ o_
  obtain ⟨c,b⟩:=aBh h m;rw [c,b] at next
  refine cT (E:=(Er [] [38])) (fn:=Tryz.f258) (g:=.pure _) λ_=>gV ?_;refine aF λ h=>gV ?_;refine Fq (Ab (Ab (by simp only [bW,Al,Br];omega) (by simp only [aW,Al,Br];omega)) ?_);refine gV ?_;refine Fq (Ab (Ab (by simp only [bW];omega) (by simp only [aW];omega)) ?_);refine gV ?_;refine .pure _ [] hm (gV ?_);refine aF λ h=>gV ?_;refine aF λ h=>gV ?_;refine Fq (Ab (Ab (by simp only [bW];omega) (by simp only [aW];omega)) ?_);refine gV ?_;refine ⟨m+1,rfl,gV ?_⟩;refine ⟨⟨rfl,by omega,by simp only [maxLen];omega⟩,?_⟩;exact zW
def aBm(a b:V3):eK a b<=16:=by
 have h:∀ n f k,n<=16->zJ n f k<=16:=λ n f k h=>by unfold zJ;split<;>omega
 unfold eK;split
 .exact h _ _ _ (h _ _ _ (h _ _ _ d_))
 .decide
def inN(free need:V3)(pods len:Int):Int:=min (eK free need) (pods-len)
def inS(free:a8)(g:Gan)(out:aw)(h:Int):aw:=if decide (h<0)=true then out else if decide ((free.length:Int)<=h)=true then out else out++Aj (max (inN ((free[h.toNat]?).getD V3.zero) g.need g.pods out.length) 0).toNat h
def inL(free:a8)(g:Gan)(a:aw):aw:=a.foldl (inS free g) []
def JN(free:a8)(g:Gan)(out:aw)(h:Int)(hp:(out.length:Int)<=g.pods):((inS free g out h).length:Int)<=g.pods:=by
 unfold inS;split
 .exact hp
 .split
  .exact hp
  .simp only [Ah,Gu,inN];omega
noncomputable abbrev fIn:Func:=Tryz.f215
def aCR(out:aw)(g:Gan):aa:=if decide ((out.length:Int)<g.pods)=true then .tup [.slice 1 [] .no,.bool false] else .tup [.slice 1 (iv out) .no,.bool true]
def aHb(c:Con)(free:a8)(g:Gan)(r:0<=g.pods/\g.pods<=16)(a:aw)(hl:a.length<=1048576)(R:aw):∀ (m i:Nat) (out:aw),i+m=a.length->(out.length:Int)<=g.pods->(a.drop i).foldl (inS free g) out=R->
  To (Eo [10] []) fIn (.pure (.ret (aCR R g))) (.head (stk fIn 0) [(1,.slice 3 (vav free) .no),(7,.ref 1 0),(10,.slice 1 (iv out) (.own 2 0)),(14,.slice 1 (iv a) .no),(15,.int .i64 ((iv a).length:Nat)),(16,.int .i64 i)] [.cells 26 c.cs,.cells 43 g.cs,.tail 0 1 3]):=by
 have w:(iv a).length=a.length:=by simp
 have B:(vav free).length=free.length:=by simp
 intro m;induction m with
 | zero=>
  intro i out x hp f;rw [Ai o_] at f;have f:out=R:=f;subst f;have o:(iv out).length=out.length:=by simp
  obtain ⟨Q,j⟩:∃ Q,Q=aCR out g:=⟨_,rfl⟩
  rw [<-j];unfold aCR at j;by_cases h1:(out.length:Int)<g.pods
  .rw [if_pos (decide_eq_true h1)] at j;subst j;refine gV ?_;exact zW
  .rw [if_neg (by rw [decide_eq_false h1];decide)] at j;subst j;refine gV ?_;exact zW
 | succ m C=>
  intro i out x hp f;have n:i<a.length:=o_;rw [Ag n,Ba] at f;have k:=JN free g out a[i] hp;generalize A:a[i]=u0 at f k;have get:(iv a)[i]? =some (ii u0):=(gM n).trans (by rw [A]);have o:(iv out).length=out.length:=by simp
  have next:=C (i+1) (inS free g out u0) o_ k f
  unfold inS at next
  refine gV ?_;refine aT λ h=>gV ?_;refine ⟨i,rfl,gV ?_⟩;refine ⟨_,get,?_⟩;by_cases h1:u0<0
  .rw [if_pos (decide_eq_true h1)] at next
   exact zW
  .rw [if_neg (by rw [decide_eq_false h1];decide)] at next
   by_cases s:(free.length:Int)<=u0
   .rw [if_pos (decide_eq_true s)] at next
    exact zW
   .rw [if_neg (by rw [decide_eq_false s];decide)] at next
    have l:u0.toNat<free.length:=o_;have z:u0=(u0.toNat:Int):=o_;rw [Aa l] at next
    have q:(vav free)[u0.toNat]? =some free[u0.toNat].av:=vF l;rw [show ((some free[u0.toNat]).getD V3.zero)=free[u0.toNat] from rfl] at next
    generalize free[u0.toNat]=f0 at q next
    have v:=aBm f0 g.need;have d:(max (inN f0 g.need g.pods out.length) 0).toNat<=16:=by unfold inN;omega
    have p:max (min (eK f0 g.need) (g.pods-((iv out).length:Nat))) 0=(((max (inN f0 g.need g.pods out.length) 0).toNat:Nat):Int):=by unfold inN;rw [o];omega
    have b:=aJ9 u0 _ d;rw [<-p] at b;generalize F:(max (inN f0 g.need g.pods out.length) 0).toNat=N at d b next
    have e:iv (out++Aj N u0)=iv out++iv (Aj N u0):=by simp
    rw [e] at next
    have y:(iv (Aj N u0)).length=N:=by simp
    have D:=r.1;have u:=r.2
    repeat' first | (refine gN (hEo [10] []) ?_;conv=>whnf) | refine ⟨u0.toNat,z,?_⟩ | refine ⟨_,q,?_⟩ | refine .pure _ [] (UB f0 g.need) ?_ | refine .pure _ [] (aA.strip b) ?_ | refine Ab (Ab (by simp only [maxLen];omega) o_) ?_ | exact rfl | refine zt ?_ | refine zu ?_ ?_ | intro h | fail
    exact zW
def aMQ(c:Con)(free:a8)(g:Gan)(b:0<=g.pods/\g.pods<=16)(a:aw)(hl:a.length<=1048576):aq 215 [c.av,.slice 3 (vav free) .no,.slice 1 (iv a) .no,g.av] [] (.ret (aCR (inL free g a) g)) []:=by refine cT (E:=(Eo [10] [])) (fn:=Tryz.f215) (g:=.pure _) λ_=>?_;have d:=aHb c free g b a hl _ a.length 0 [] o_ (by simpa using b.1) rfl;exact zW
noncomputable abbrev sV:Func:=Tryz.f214
abbrev GSt:=List (aw×Nat)×List aw
def lQ:List (aw×Nat)->aw->Option Nat
 | [],_=>none
 | (k,v)::r,x=>if k=x then some v else lQ r x
abbrev kav(es:List (aw×Nat)):List (aw×aa):=es.map λ p=>(p.1,ii p.2)
def DH(x:aw):∀ es,bB (kav es) x=(lQ es x).map λ n:Nat=>ii n
 | []=>rfl
 | (k,v)::r=>by
  show (if k=x then some (ii v) else bB (kav r) x)=(if k=x then some v else lQ r x).map _;split
  .rfl
  .exact DH x r
def U4(x:aw)(v:Nat):∀ es,lQ es x=none->kF (kav es) x (ii v)=kav (es++[(x,v)])
 | [],_=>rfl
 | (k,u)::r,h=>by
  have h:(if k=x then some u else lQ r x)=none:=h;show (if k=x then (x,ii v)::kav r else (k,ii u)::kF (kav r) x (ii v))=(k,ii u)::kav (r++[(x,v)]);split at h
  .cases h
  .rename_i a;rw [if_neg a,U4 x v r h]
def gpS(c:Con)(lv:Int)(s:GSt)(i:Nat):GSt:=
 match lQ s.1 (ofK (bH c.hs (i:Int)) i lv) with
 | some k=>(s.1,s.2.set k ((s.2[k]?).getD []++[(i:Int)]))
 | none=>(s.1++[(ofK (bH c.hs (i:Int)) i lv,s.2.length)],s.2++[[(i:Int)]])
def gpL(c:Con)(lv:Int):List aw:=if decide (lv<0)=true then [] else if decide (3<lv)=true then [] else ((Dr c.hs.length).foldl (gpS c lv) ([],[])).2
abbrev gav(l:List aw):ax:=l.map λ xs=>.slice 1 (iv xs) .no
abbrev NX(c:Con)(gr gb:Nat)(es:List (aw×Nat))(ms:List Hm):au:=[.cells 26 c.cs,.row gr 1 46 (ms.map hmA),.mp true (kav es),.bun gb (mF 1 3 ms)]
abbrev aMU(c:Con)(lv:Int)(gr i:Nat):ar:=[(1,ii lv),(5,.row 1 gr),(6,.mref 2),(20,.slice 6 (hav c.hs) .no),(21,.int .i64 ((hav c.hs).length:Nat)),(22,ii i)]
def aC2(c:Con)(lv:Int)(G:Goal)(i k:Nat)(l:i<1048576)(b:List Hm)(m:Hm)(hm:b[k]? =some m)(g:m.2.2.length<=1048576)(j:b.length<=1048576)(es:List (aw×Nat))(h:Fp G.n0 4=true)
  (next:∀ a f,To (Er [5] []) sV G (.code (fL sV 14) (aMU c lv 0 i) (NX c 0 1 es (b.set k (a,f,m.2.2++[ii i]))))):
  To (Er [5] []) sV G (.code (nD sV 14) [(1,ii lv),(5,.row 1 0),(6,.mref 2),(7,ii i),(10,ii k),(20,.slice 6 (hav c.hs) .no),(21,.int .i64 ((hav c.hs).length:Nat)),(22,ii i)] (NX c 0 0 es b)):=by
 refine To.handAt (hEr [5] []) 8 [] rfl rfl rfl ?_;conv=>whnf
 refine ⟨k,rfl,?_⟩;conv=>whnf
 have e:(b.map hmA)[k]? =some (hmA m):=by rw [Bh,hm];rfl
 refine ⟨by have:=(Ac.1 hm).1;simpa using this,?_⟩;conv=>whnf
 refine ⟨_,e,?_⟩;conv=>whnf
 refine .mk 3 0 k b m [ii i] 3 1 8 1 false (.slice 1 [] .nil) rfl hm rfl rfl rfl rfl ⟨by show _+1<=_;simp only [maxLen];omega,by show (_+1)*8<=_;omega⟩ λ a f=>?_;have d:k<(b.map hmA).length:=by have:=(Ac.1 hm).1;simpa using this
 have next:=next a f
 unfold NX at next
 rw [Gk] at next
 refine gV ?_;refine ⟨k,rfl,gV ?_⟩;refine ⟨d,gV ?_⟩;refine ⟨d,?_⟩;refine cJ (hEr [5] []) 3 ?_;conv=>whnf
 refine To.cutC (fr:=[(1,_),(5,_),(6,_),(7,_),(10,_),(20,_),(21,_),(22,_),(47,_),(48,_),(49,_),(50,_),(51,_),(52,_),(53,_),(54,_),(55,_),(56,_)]) (ac:=[_,_,_,_]) [1,5,6,20,21,22] 4 h rfl rfl rfl ?_;exact next
def GJ(x:aw)(v:Nat)(y:aw):∀ es,lQ (es++[(x,v)]) y=match lQ es y with | some k=>some k | none=>if x=y then some v else none
 | []=>rfl
 | (k,u)::r=>by
  show (if k=y then some u else lQ (r++[(x,v)]) y)=match (if k=y then some u else lQ r y) with | some k=>some k | none=>if x=y then some v else none
  split
  .rfl
  .exact GJ x v y r
structure GI(i:Nat)(s:GSt):Prop where
 key:∀ p∈s.1,p.1.length=4
 at':∀ x k,lQ s.1 x=some k->k<s.2.length
 len:s.2.length<=i
 each:∀ xs∈s.2,xs.length<=i
def GI.step{c:Con}{lv:Int}{i:Nat}{s:GSt}(h:GI i s):GI (i+1) (gpS c lv s i):=by
 obtain ⟨h1,b,h3,d⟩:=h;unfold gpS;split
 .rename_i k f;refine ⟨h1,λ x k h=>by simpa using b x k h,by simp;omega,λ xs a=>?_⟩;rcases Db a with a | rfl
  .have:=d xs a;omega
  .have hl:=b _ k f;rw [Aa hl];have:=d _ (Bd hl);simp;omega
 .rename_i f;refine ⟨λ p hp=>?_,λ x k a=>?_,by simp;omega,λ xs a=>?_⟩
  .rcases Az.1 hp with hp | hp
   .exact h1 p hp
   .simp at hp;subst hp;rfl
  .rw [GJ] at a;split at a
   .rename_i g e;have:=b x g e;cases a;simp;omega
   .split at a
    .cases a;simp
    .cases a
  .rcases Az.1 a with a | a
   .have:=d xs a;omega
   .simp at a;subst a;simp
def aHp(c:Con)(K:c.sm)(lv:Int)(P:0<=lv)(O:lv<=3)(R:List aw):∀ (n i:Nat) (s:GSt) (b:List Hm),i+n=c.hs.length->b.map (λ m=>m.2.2)=s.2.map iv->GI i s->((Ic i n).foldl (gpS c lv) s).2=R->
  To (Er [5] []) sV (.pure (.ret (.slice 1 (gav R) .no))) (.head (stk sV 0) (aMU c lv 0 i) (NX c 0 0 s.1 b)):=by
 have h1:=K.hs;have F:(hav c.hs).length=c.hs.length:=by simp
 intro n;induction n with
 | zero=>
  intro i s b H d u y;have y:s.2=R:=y;subst y;refine To.ofC (To.famFrz 3 1 rfl rfl ?_);have e:(b.map λ m=>aa.slice 1 m.2.2 .no)=gav s.2:=by have:=congrArg (List.map λ xs=>aa.slice 1 xs .no) d;rw [Dn,Dn] at this;exact this
  rw [e];refine To.toC (gV ?_);exact zW
 | succ n I=>
  intro i s b H d u y;rw [Lu,Ba] at y;have N:(hav c.hs)[i]? =some (bH c.hs (i:Int)).av:=JP o_;have next:=λ A h=>I (i+1) (gpS c lv s i) A o_ h u.step y
  have l:∀ p∈kav s.1,p.1.length=4:=λ p hp=>by obtain ⟨q,J,rfl⟩:=Bq.1 hp;exact u.key q J
  refine gV ?_;refine aT λ h=>gV ?_;refine ⟨i,rfl,gV ?_⟩;refine ⟨_,N,gV ?_⟩;refine .pure _ [] (aKx (bH c.hs (i:Int)) i lv) (gV ?_);refine ⟨l,gV ?_⟩;cases v:lQ s.1 (ofK (bH c.hs (i:Int)) i lv) with
  | none=>
   have C:bB (kav s.1) (ofK (bH c.hs (i:Int)) i lv)=none:=by rw [DH,v];rfl
   refine ⟨_,C,gV ?_⟩;refine aY (gV ?_);refine ⟨l,gV ?_⟩;have g:b.length=s.2.length:=by have:=congrArg Lh d;simpa using this
   have z:=u.len;have f:(b.map hmA).length=b.length:=by simp
   refine ⟨⟨by show (b.map hmA).length+1<=_;simp only [maxLen];omega,by show ((b.map hmA).length+1)*24<=_;omega⟩,?_⟩;refine cJ (hEr [5] []) 6 ?_;conv=>whnf
   have L:(b.map hmA).length=s.2.length:=f.trans g;have e:=U4 (ofK (bH c.hs (i:Int)) i lv) (b.map hmA).length s.1 v;have B:gpS c lv s i=(s.1++[(ofK (bH c.hs (i:Int)) i lv,(b.map hmA).length)],s.2++[[(i:Int)]]):=by unfold gpS;rw [v,L]
   rw [B] at next
   have hm:(b++[((none,0,[]):Hm)])[(b.map hmA).length]? =some (none,0,[]):=by rw [f,Ak (Bf _)];simp
   have r:=aC2 c lv (.pure (.ret (.slice 1 (gav R) .no))) i (b.map hmA).length o_ (b++[(none,0,[])]) _ hm s_ q_ (s.1++[(ofK (bH c.hs (i:Int)) i lv,(b.map hmA).length)]) rfl λ a D=>by
    have next:=next ((b++[(none,0,[])]).set (b.map hmA).length (a,D,[]++[ii i])) (by rw [f,Gt _ _ (Bf _)];simp [d])
    exact zW
   unfold NX at r;rw [<-e] at r;refine To.cutC [1,5,6,7,10,20,21,22] 4 rfl rfl rfl rfl ?_;refine To.objTo 1 (x:=.row 1 1 46 (b.map hmA++[.nilslice])) (x':=.row 1 1 46 ((b++[(none,0,[])]).map hmA)) rfl (λ h=>by cases h) rfl (λ M ob w hs _ h=>aFV h) ?_;refine To.objTo 3 (x:=.bun 0 (mF 1 3 b)) (x':=.bun 0 (mF 1 3 (b++[(none,0,[])]))) rfl (λ h=>by cases h) rfl (λ M ob w hs _ h=>aHz h) ?_;refine To.toC ?_;refine To.part [1,5,6,7,10,20,21,22] [0,1,2,3] rfl rfl rfl ?_;refine To.ofC ?_;exact r
  | some k=>
   have C:bB (kav s.1) (ofK (bH c.hs (i:Int)) i lv)=some (ii k):=by rw [DH,v];rfl
   refine ⟨_,C,gV ?_⟩;refine aN ?_;refine cJ (hEr [5] []) 1 ?_;conv=>whnf
   have o:=u.at' _ k v;have f:(b.map (λ m=>m.2.2))[k]? =some (iv s.2[k]):=by rw [d,Bh,Aa o];rfl
   rw [Bh] at f;obtain ⟨m,hm,j⟩:=Cb.1 f;have j:m.2.2=iv s.2[k]:=j;have g:b.length=s.2.length:=by have:=congrArg Lh d;simpa using this
   have G:=u.each _ (Bd o);have z:=u.len;have B:gpS c lv s i=(s.1,s.2.set k (s.2[k]++[(i:Int)])):=by unfold gpS;rw [v];show (s.1,s.2.set k ((s.2[k]?).getD []++[(i:Int)]))=_;rw [Aa o];rfl
   rw [B] at next
   refine To.cutC [1,5,6,7,10,20,21,22] 4 rfl rfl rfl rfl ?_;refine aC2 c lv _ i k o_ b m hm (by rw [j];simp;omega) o_ s.1 rfl λ a D=>?_;have next:=next (b.set k (a,D,m.2.2++[ii i])) (by rw [Gk,Gk,d,j];simp)
   exact zW
def GZ(c:Con)(e:c.sm)(lv:Int):aq 214 [c.av,ii lv] [] (.ret (.slice 1 (gav (gpL c lv)) .no)) []:=by
 have h1:=e.hs;have i:(hav c.hs).length=c.hs.length:=by simp
 obtain ⟨R,a⟩:∃ R,R=gpL c lv:=⟨_,rfl⟩
 rw [<-a];unfold gpL at a;refine cT (E:=(Er [5] [])) (fn:=Tryz.f214) (g:=.pure _) λ_=>?_;by_cases d:lv<0
 .rw [if_pos (decide_eq_true d)] at a;subst a;exact zW
 rw [if_neg (by rw [decide_eq_false d];decide)] at a;by_cases b:3<lv
 .rw [if_pos (decide_eq_true b)] at a;subst a;exact zW
 rw [if_neg (by rw [decide_eq_false b];decide),Ie] at a
 repeat' first | (refine gN (hEr [5] []) ?_;conv=>whnf) | exact rfl | refine zt ?_ | refine zu ?_ ?_ | intro h | fail
 refine To.ofC (To.beginF 1 3 ?_);refine To.toC ?_;have:=aHp c e lv o_ o_ R c.hs.length 0 ([],[]) [] o_ rfl ⟨λ p h=>(by simp at h),λ x k h=>(by cases h),Bf _,λ xs h=>by simp at h⟩ a.symm;exact zW
structure GO(n i:Nat)(s:GSt):Prop where
 base:GI i s
 ok:∀ xs∈s.2,xs≠[]/\∀ h∈xs,0<=h/\h<(n:Int)
def GO.step{c:Con}{lv:Int}{n i:Nat}{s:GSt}(g:i<n)(h:GO n i s):GO n (i+1) (gpS c lv s i):=by
 refine ⟨h.base.step,?_⟩;obtain ⟨e,d⟩:=h;have one:∀ h∈[(i:Int)],0<=h/\h<(n:Int):=λ h b=>by simp at b;omega
 unfold gpS;split
 .rename_i k f;intro xs a;rcases Db a with a | rfl
  .exact d xs a
  .refine ⟨by simp,λ h b=>?_⟩;rcases Az.1 b with b | b
   .have hl:=e.at' _ k f;rw [Aa hl] at b;exact (d _ (Bd hl)).2 h b
   .exact one h b
 .intro xs a;rcases Az.1 a with a | a
  .exact d xs a
  .have a:xs=[(i:Int)]:=by simpa using a
   subst a;exact ⟨by simp,one⟩
def GO.fold{c:Con}{lv:Int}{n:Nat}:∀ (m i:Nat) (s:GSt),i+m=n->GO n i s->GO n n ((Ic i m).foldl (gpS c lv) s)
 | 0,i,s,hi,h=>by have:i=n:=o_
                  subst this;exact h
 | m+1,i,s,hi,h=>by rw [Lu,Ba];exact GO.fold m (i+1) _ o_ (h.step o_)
def aC3(c:Con)(lv:Int):(gpL c lv).length<=c.hs.length/\∀ xs∈gpL c lv,xs≠[]/\xs.length<=c.hs.length/\∀ h∈xs,0<=h/\h<(c.hs.length:Int):=by
 unfold gpL;split
 .exact ⟨Bt _,λ xs h=>by simp at h⟩
 split
 .exact ⟨Bt _,λ xs h=>by simp at h⟩
 rw [Ie];have:=GO.fold (c:=c) (lv:=lv) (n:=c.hs.length) c.hs.length 0 ([],[]) o_ ⟨⟨λ p h=>(by simp at h),λ x k h=>(by cases h),Bf _,λ xs h=>(by simp at h)⟩,λ xs h=>(by simp at h)⟩;exact ⟨this.base.len,λ xs a=>⟨(this.ok xs a).1,this.base.each xs a,(this.ok xs a).2⟩⟩
def fdG(c:Con)(free:a8)(g:Gan):List aw->Option (Int×aw)
 | []=>none
 | gr::r=>if decide (((inL free g gr).length:Int)<g.pods)=true then fdG c free g r else some ((bH c.hs (gr.headD 0)).f,inL free g gr)
def fdL(c:Con)(free:a8)(g:Gan):Nat->Int->Option (Int×aw)
 | 0,_=>none
 | n+1,lv=>match fdG c free g (gpL c lv) with
  | some x=>some x
  | none=>fdL c free g n (lv+1)
def fdA:Option (Int×aw)->aa
 | some x=>.tup [ii x.1,.slice 1 (iv x.2) .no,.bool true]
 | none=>.tup [ii 0,.slice 1 [] .no,.bool false]
def zX(c:Con)(free:a8)(g:Gan):Option (Int×aw):=fdL c free g (min g.lev 3+1-max g.pref 0).toNat (max g.pref 0)
noncomputable abbrev HE:Func:=Tryz.f162
abbrev VR(c:Con)(g:Gan):au:=[.cells 26 c.cs,.cells 43 g.cs]
abbrev aLa(free:a8)(lv:Int):ar:=[(1,.slice 3 (vav free) .no),(3,.ref 0 0),(5,.ref 1 0),(9,ii lv)]
def VJ{l:List aw}{i:Nat}(h:i<l.length):(gav l)[i]? =some (.slice 1 (iv l[i]) .no):=by simp [gav,h]
def aM4(c:Con)(z:c.sm)(free:a8)(g:Gan)(w:0<=g.pods/\g.pods<=16)(lv:Int)(y:0<=lv)(v:lv<=3)(Q:Option (Int×aw))(a:List aw)(B:a.length<=1048576)(l:∀ xs∈a,xs≠[]/\xs.length<=c.hs.length/\∀ h∈xs,0<=h/\h<(c.hs.length:Int)):
  ∀ (m i:Nat),i+m=a.length->(∀ x,fdG c free g (a.drop i)=some x->Q=some x)->(fdG c free g (a.drop i)=none->To E HE (.pure (.ret (fdA Q))) (.head (stk HE 0) (aLa free (lv+1)) (VR c g)))->
  To E HE (.pure (.ret (fdA Q))) (.head (stk HE 1) (aLa free lv++[(26,.slice 1 (gav a) .no),(27,.int .i64 ((gav a).length:Nat)),(28,ii i)]) (VR c g)):=by
 have s:(gav a).length=a.length:=by simp
 have A:(hav c.hs).length=c.hs.length:=by simp
 have F:=z.hs;intro m;induction m with
 | zero=>
  intro i t hs b;rw [Ai o_] at b;have b:=b rfl;refine gV ?_;exact zW
 | succ m n=>
  intro i t hs b;have e:i<a.length:=o_;have n:=n (i+1) o_;rw [Ag e] at hs b;have j:=l _ (Bd e);have get:=VJ e;generalize a[i]=gr at hs b j get;obtain ⟨o,D,k⟩:=j;have f:=aMQ c free g w gr o_;unfold fdG at hs b;unfold aCR at f;refine gV ?_;refine aT λ h=>gV ?_;refine ⟨i,rfl,gV ?_⟩;refine ⟨_,get,gV ?_⟩;by_cases q:((inL free g gr).length:Int)<g.pods
  .rw [if_pos (decide_eq_true q)] at hs b f;have next:=n hs b
   exact zW
  .rw [if_neg (by rw [decide_eq_false q];decide)] at hs b f;have u:=hs _ rfl;subst u
   match gr,o with
   | d::r,_=>
   have C:=k d s_;have G:(hav c.hs)[d.toNat]? =some (bH c.hs d).av:=by have:=JP (c:=c) (i:=d.toNat) o_;rwa [Kt C.1] at this
   have b:d=(d.toNat:Int):=o_;have p:(iv (d::r))[0]? =some (ii d):=rfl;exact zW
def aK9(c:Con)(e:c.sm)(free:a8)(g:Gan)(l:0<=g.pods/\g.pods<=16):∀ (n:Nat) (lv:Int),0<=lv->n=(min g.lev 3+1-lv).toNat->
  To E HE (.pure (.ret (fdA (fdL c free g n lv)))) (.head (stk HE 0) (aLa free lv) (VR c g)):=by
 intro n;induction n with
 | zero=>
  intro lv i k;refine gV ?_;exact zW
 | succ n d=>
  intro lv i k;have d:=d (lv+1) o_ o_;have f:=aC3 c lv;have m:=e.hs;have j:(gav (gpL c lv)).length=(gpL c lv).length:=by simp
  obtain ⟨Q,b⟩:∃ Q,Q=fdL c free g (n+1) lv:=⟨_,rfl⟩
  rw [<-b];unfold fdL at b;refine gV ?_;refine aT λ h=>gV ?_;refine .pure _ [] (GZ c e lv) ?_
  repeat' first | (refine gN hE ?_;conv=>whnf) | exact rfl | refine zt ?_ | refine zu ?_ ?_ | intro h | fail
  refine To.cut [1,3,5,9,26,27,28] 2 rfl rfl rfl rfl ?_;refine aM4 c e free g l lv i o_ Q (gpL c lv) o_ f.2 (gpL c lv).length 0 o_ (λ x a=>?_) (λ a=>?_)
  .have a:fdG c free g (gpL c lv)=some x:=a;rw [a] at b;exact b
  .have a:fdG c free g (gpL c lv)=none:=a;rw [a] at b;rw [b];exact d
def find_ok(c:Con)(a:c.sm)(free:a8)(g:Gan)(b:0<=g.pods/\g.pods<=16):aq 162 [c.av,.slice 3 (vav free) .no,g.av] [] (.ret (fdA (zX c free g))) []:=by refine c_ Tryz.f162 λ_=>gV ?_;exact To.cut [1,3,5,9] 2 rfl rfl rfl rfl (aK9 c a free g b _ _ o_ rfl)
def cG(c:Con)(l:a6)(g:Gan):Option (Int×aw):=if M9 c (ofL c l) g.ten (dem g)=true then zX c (jZ c l) g else none
def aDp(c:Con)(e:c.sm)(l:a6)(hl:Sm l)(g:Gan)(k:0<=g.pods/\g.pods<=16)(Q:Option (Int×aw))(a:cG c l g=Q):aq 117 [c.av,.slice 14 (rav l) .no,g.av] [] (.ret (fdA Q)) []:=by
 unfold cG at a;have hm:=aKE c e (ofL c l) g.ten (dem g);have hd:=R9 g;generalize M9 c (ofL c l) g.ten (dem g)=b at a hm;generalize dem g=d at hm hd;have h:=find_ok c e (jZ c l) g k;have j:=VL c e l hl;have i:=CW c e l hl.1;generalize jZ c l=fr at h a j;generalize ofL c l=us at hm i;cases b with
 | false=>
  have a:none=Q:=a;subst a;exact zqha7
 | true=>
  have a:zX c fr g=Q:=a;rw [a] at h;unfold fdA at h⊢;cases Q with
  | none=>
   exact zqha7
  | some x=>
   exact zqha7
def wU(c:Con)(a:c.sm)(l:a6)(hl:Sm l)(g:Gan)(b:0<=g.pods/\g.pods<=16):aq 117 [c.av,.slice 14 (rav l) .no,g.av] [] (.ret (fdA (cG c l g))) []:=aDp c a l hl g b _ rfl
def aA.nil2{P:Program}{f:FuncId}{a:aa}{j:ax}{g:Nat}{ac ao:au}{r:Res}(h:aA P f (a:: .slice g [] .no::j) ac r ao):aA P f (a:: .nilslice::j) ac r ao:=
 λ M ob w b hm d=>h M ob w b hm ⟨d.1,λ i v x e c=>by
  match i with
  | 0=>exact d.2 0 v x e c
  | 1=>
   have c:aa.slice g [] .no=x:=by simpa using c
   subst c;have:=d.2 1 v .nilslice e rfl;cases this;exact .slnil _ _ trivial
  | i+2=>exact d.2 (i+2) v x e c⟩
def YC(c:Con)(j:c.sm)(g:Gan)(k:0<=g.pods/\g.pods<=16)(b:Bool)(d:(cG c [] g).isNone=b):aq 81 [c.av,g.av] [] (.ret (.bool b)) []:=by
 have a:=wU c j [] ⟨Bt _,λ x h=>by simp at h⟩ g k;generalize cG c [] g=Q at a d;subst d;unfold fdA at a;cases Q with
 | none=>
  refine c_ Tryz.f81 λ_=>?_;have i:=aA.nil2 a;exact zW
 | some x=>
  refine c_ Tryz.f81 λ_=>?_;have e:=aA.nil2 a;exact zW
def M6(c:Con)(a:c.sm)(g:Gan)(b:0<=g.pods/\g.pods<=16):aq 81 [c.av,g.av] [] (.ret (.bool (cG c [] g).isNone)) []:=YC c a g b _ rfl
def aMn(x:Rn)(M:Imm)(ob:Hs)(vs:ba)(h:bX M ob vs [x.av]):inR .i64 x.st/\inR .i64 x.g.run:=by
 have hl:0<vs.length:=by rw [h.1];simp
 have:=h.2 0 _ x.av (Aa hl) rfl;exact ⟨cN this 11 _ rfl,cN this 6 _ rfl⟩
def dG(x:Rn):Int:=if 9223372036854775807<x.st+x.g.run then 9223372036854775807 else if x.st+x.g.run< -9223372036854775808 then -9223372036854775808 else x.st+x.g.run
def aHQ(x:Rn)(r:Int)(a:dG x=r):aq 62 [x.av] [] (.ret (ii r)) []:=by
 refine aA.get _ (aMn x) λ⟨⟨a1,a2⟩,⟨b1,b2⟩⟩=>?_;simp only [bW,aW] at a1 a2 b1 b2;unfold dG at a;by_cases h1:9223372036854775807<x.st+x.g.run
 .rw [if_pos h1] at a;subst a;have e:=aEV h1 o_;exact zqha6
 .rw [if_neg h1] at a;by_cases b:x.st+x.g.run< -9223372036854775808
  .rw [if_pos b] at a;subst a;have e:=aEU b o_;exact zqha6
  .rw [if_neg b] at a;refine c_ Tryz.f62 λ_=>?_
   repeat' first | (refine gN hE ?_;conv=>whnf) | exact rfl | refine zt ?_ | refine zu ?_ ?_ | intro h | fail
   all_goals first | exact a▸rfl | (exfalso;simp at *;omega)
def yI(x:Rn):aq 62 [x.av] [] (.ret (ii (dG x))) []:=aHQ x _ rfl
def aBw(x:Rn)(r:Int)(a:dG x=r):aq 8 [x.av] [] (.ret (ii r)) []:=by
 refine aA.get _ (aMn x) λ⟨⟨a1,a2⟩,⟨b1,b2⟩⟩=>?_;simp only [bW,aW] at a1 a2 b1 b2;unfold dG at a;by_cases h1:9223372036854775807<x.st+x.g.run
 .rw [if_pos h1] at a;subst a;refine c_ Tryz.f8 λ_=>?_
  repeat' first | (refine gN hE ?_;conv=>whnf) | exact rfl | refine aY ?_ | refine aN ?_ | refine aT λ h=>?_ | refine aF λ h=>?_ | refine Ab (λ h=>?_) (λ h=>absurd (of_decide_eq_false h) (by simp only [decide_eq_true_eq,decide_eq_false_iff_not] at *;omega)) | refine Ab (λ h=>absurd (of_decide_eq_true h) (by simp only [decide_eq_true_eq,decide_eq_false_iff_not] at *;omega)) (λ h=>?_) | refine ⟨λ h=>?_,λ h=>?_⟩ | refine aJ ?_ | refine ⟨_,rfl,?_⟩ | refine Ab d_ ?_ | refine Ab o_ ?_ | refine Fq (Ab (Ab (by simp only [bW];simp only [decide_eq_true_eq,decide_eq_false_iff_not] at *;omega) (by simp only [aW];simp only [decide_eq_true_eq,decide_eq_false_iff_not] at *;omega)) ?_) | fail
 .rw [if_neg h1] at a;by_cases b:x.st+x.g.run< -9223372036854775808
  .rw [if_pos b] at a;subst a;refine c_ Tryz.f8 λ_=>?_
   repeat' first | (refine gN hE ?_;conv=>whnf) | exact rfl | refine aY ?_ | refine aN ?_ | refine aT λ h=>?_ | refine aF λ h=>?_ | refine Ab (λ h=>?_) (λ h=>absurd (of_decide_eq_false h) (by simp only [decide_eq_true_eq,decide_eq_false_iff_not] at *;omega)) | refine Ab (λ h=>absurd (of_decide_eq_true h) (by simp only [decide_eq_true_eq,decide_eq_false_iff_not] at *;omega)) (λ h=>?_) | refine ⟨λ h=>?_,λ h=>?_⟩ | refine aJ ?_ | refine ⟨_,rfl,?_⟩ | refine Ab d_ ?_ | refine Ab o_ ?_ | refine Fq (Ab (Ab (by simp only [bW];simp only [decide_eq_true_eq,decide_eq_false_iff_not] at *;omega) (by simp only [aW];simp only [decide_eq_true_eq,decide_eq_false_iff_not] at *;omega)) ?_) | fail
  .rw [if_neg b] at a;subst a;refine c_ Tryz.f8 λ_=>?_
   repeat' first | (refine gN hE ?_;conv=>whnf) | exact rfl | refine aY ?_ | refine aN ?_ | refine aT λ h=>?_ | refine aF λ h=>?_ | refine Ab (λ h=>?_) (λ h=>absurd (of_decide_eq_false h) (by simp only [decide_eq_true_eq,decide_eq_false_iff_not] at *;omega)) | refine Ab (λ h=>absurd (of_decide_eq_true h) (by simp only [decide_eq_true_eq,decide_eq_false_iff_not] at *;omega)) (λ h=>?_) | refine ⟨λ h=>?_,λ h=>?_⟩ | refine aJ ?_ | refine ⟨_,rfl,?_⟩ | refine Ab d_ ?_ | refine Ab o_ ?_ | refine Fq (Ab (Ab (by simp only [bW];simp only [decide_eq_true_eq,decide_eq_false_iff_not] at *;omega) (by simp only [aW];simp only [decide_eq_true_eq,decide_eq_false_iff_not] at *;omega)) ?_) | fail
def aF3(x:Rn):aq 8 [x.av] [] (.ret (ii (dG x))) []:=aBw x _ rfl
def yP(l:aw)(h:l.length<=1048576):aq 159 [.slice 1 (iv l) .no] [] (.ret (.slice 1 (iv l) .no)) []:=by
 have a:(iv l).length=l.length:=by simp
 refine c_ Tryz.f159 λ_=>gV ?_;intro b c;refine gV ?_;refine ⟨λ h=>?_,λ h=>?_⟩
 .have h:b=true:=h;have e:iv l=[]:=c h;refine gV ?_;rw [e]
 .have h:b=false:=h;exact zW
def aFU(x:Rn)(h:x.hs.length<=1048576):aq 131 [x.av] [] (.ret x.av) []:=by refine c_ Tryz.f131 λ_=>?_;have a:=yP x.hs h;exact zW
def atL(l:a6)(t:Int):a6:=l.filter λ x=>decide (t<dG x)
def aIK{x:Rn}{r:a6}{t:Int}(h:decide (t<dG x)=true):atL (x::r) t=x::atL r t:=Fl h
def aIL{x:Rn}{r:a6}{t:Int}(h:decide (t<dG x)=false):atL (x::r) t=atL r t:=Fk (by rw [h];decide)
noncomputable abbrev fAt:Func:=Tryz.f88
def aII(l:a6)(hs:Sm l)(t:Int)(R:a6):∀ (n i:Nat) (a:a6),i+n=l.length->a.length<=i->a++atL (l.drop i) t=R->
  To (Eo [5] []) fAt (.pure (.ret (.slice 14 (rav R) .no))) (.head (stk fAt 0) [(1,.int .i64 t),(5,.slice 14 (rav a) (.own 0 0)),(8,.slice 14 (rav l) .no),(9,.int .i64 ((rav l).length:Nat)),(10,.int .i64 i)] [.tail 0 14 48]):=by
 have m:(rav l).length=l.length:=by simp
 have hl:=hs.1;intro n;induction n with
 | zero=>
  intro i a o q b;rw [Ai o_] at b;have b:a++[]=R:=b;rw [Au] at b;subst b;refine gV ?_;exact zW
 | succ n j=>
  intro i a o q b;have c:i<l.length:=o_;rw [Ag c] at b;have k:=hs.at c;generalize p:l[i]=x at b k;have get:(rav l)[i]? =some x.av:=(eX c).trans (by rw [p]);have r:(rav a).length=a.length:=by simp
  refine gV ?_;refine aT λ h=>gV ?_;refine ⟨i,rfl,gV ?_⟩;refine ⟨_,get,gV ?_⟩;refine .pure _ [] (yI x) (gV ?_);refine Ab (λ d=>?_) (λ d=>?_)
  .have d:decide (t<dG x)=true:=d;rw [aIK d] at b;refine gV ?_;refine .pure _ [] (aFU x k) (gV ?_);refine ⟨⟨by simp only [maxLen];simp;omega,by simp;omega⟩,?_⟩;refine gV ?_;refine aJ (gV ?_);refine To.part [1,5,8,9,10] [0] rfl rfl rfl ?_;have next:=j (i+1) (a++[x]) o_ q_ (by rw [Ae];exact b)
   have e:rav (a++[x])=rav a++[x.av]:=by simp
   rw [e] at next
   exact next
  .have f:decide (t<dG x)=false:=d;rw [aIL f] at b;have g:=j (i+1) a o_ o_ b;exact zW
def aEC(l:a6)(hs:Sm l)(t:Int):aq 88 [.slice 14 (rav l) .no,ii t] [] (.ret (.slice 14 (rav (atL l t)) .no)) []:=by refine cT (E:=(Eo [5] [])) (fn:=Tryz.f88) (g:=.pure _) λ_=>?_;have a:=aII l hs t _ l.length 0 [] o_ s_ rfl;exact zW
def aEE{l:a6}(h:Sm l)(t:Int):Sm (atL l t):=
 ⟨Cx (Hv _ _) h.1,λ x a=>h.2 x (Fg.1 a).1⟩
open Go Go.AW Go.Proofs Go.Shelf
set_option maxRecDepth 100000
def aFz:Go.Shelf.Ren:=⟨fun | 125=>269 | 128=>296 | 129=>297 | 189=>234 | 215=>219 | 216=>293 | 257=>268 | 294=>287 | 295=>288 | 296=>289 | 297=>290 | 298=>291 | 299=>292 | 300=>294 | 301=>295 | 328=>310 | 329=>311 | 330=>312 | 331=>313 | 332=>314 | 343=>316 | n=>n,fun | 0=>0 | 3=>3 | 4=>4 | 5=>5 | 9=>9 | 28=>46 | 46=>290 | 51=>84 | 53=>168 | 131=>252 | 182=>416 | 183=>417 | 218=>435 | 222=>439 | 228=>442 | 229=>443 | n=>n,λ n=>n⟩
def LH:Lays.n189 Tryz.prog aFz where
 mixed:=by kernel_rfl
 f125:=Tryz.func269.trans (congrArg some (by kernel_rfl))
 f128:=Tryz.func296.trans (congrArg some (by kernel_rfl))
 f129:=Tryz.func297.trans (congrArg some (by kernel_rfl))
 f189:=Tryz.func234.trans (congrArg some (by kernel_rfl))
 f215:=Tryz.func219.trans (congrArg some (by kernel_rfl))
 f216:=Tryz.func293.trans (congrArg some (by kernel_rfl))
 f257:=Tryz.func268.trans (congrArg some (by kernel_rfl))
 f294:=Tryz.func287.trans (congrArg some (by kernel_rfl))
 f295:=Tryz.func288.trans (congrArg some (by kernel_rfl))
 f296:=Tryz.func289.trans (congrArg some (by kernel_rfl))
 f297:=Tryz.func290.trans (congrArg some (by kernel_rfl))
 f298:=Tryz.func291.trans (congrArg some (by kernel_rfl))
 f299:=Tryz.func292.trans (congrArg some (by kernel_rfl))
 f300:=Tryz.func294.trans (congrArg some (by kernel_rfl))
 f301:=Tryz.func295.trans (congrArg some (by kernel_rfl))
 f328:=Tryz.func310.trans (congrArg some (by kernel_rfl))
 f329:=Tryz.func311.trans (congrArg some (by kernel_rfl))
 f330:=Tryz.func312.trans (congrArg some (by kernel_rfl))
 f331:=Tryz.func313.trans (congrArg some (by kernel_rfl))
 f332:=Tryz.func314.trans (congrArg some (by kernel_rfl))
 f343:=Tryz.func316.trans (congrArg some (by kernel_rfl))
 t0:=Tryz.underlying0
 a0:=Tryz.isAgg0
 z0:=Tryz.sizeOf0
 v0:=Tryz.zeroValue0
 t3:=Tryz.underlying3
 a3:=Tryz.isAgg3
 z3:=Tryz.sizeOf3
 v3:=Tryz.zeroValue3
 t4:=Tryz.underlying4
 a4:=Tryz.isAgg4
 z4:=Tryz.sizeOf4
 v4:=Tryz.zeroValue4
 t5:=Tryz.underlying5
 a5:=Tryz.isAgg5
 z5:=Tryz.sizeOf5
 v5:=Tryz.zeroValue5
 t9:=Tryz.underlying9
 a9:=Tryz.isAgg9
 z9:=Tryz.sizeOf9
 v9:=Tryz.zeroValue9
 t28:=Tryz.underlying46
 a28:=Tryz.isAgg46
 z28:=Tryz.sizeOf46
 v28:=Tryz.zeroValue46
 t46:=Tryz.underlying290
 a46:=Tryz.isAgg290
 z46:=Tryz.sizeOf290
 v46:=Tryz.zeroValue290
 t51:=Tryz.underlying84
 a51:=Tryz.isAgg84
 z51:=Tryz.sizeOf84
 v51:=Tryz.zeroValue84
 t53:=Tryz.underlying168
 a53:=Tryz.isAgg168
 z53:=Tryz.sizeOf168
 v53:=Tryz.zeroValue168
 t131:=Tryz.underlying252
 a131:=Tryz.isAgg252
 z131:=Tryz.sizeOf252
 v131:=Tryz.zeroValue252
 t182:=Tryz.underlying416
 a182:=Tryz.isAgg416
 z182:=Tryz.sizeOf416
 v182:=Tryz.zeroValue416
 t183:=Tryz.underlying417
 a183:=Tryz.isAgg417
 z183:=Tryz.sizeOf417
 v183:=Tryz.zeroValue417
 t218:=Tryz.underlying435
 a218:=Tryz.isAgg435
 z218:=Tryz.sizeOf435
 v218:=Tryz.zeroValue435
 t222:=Tryz.underlying439
 a222:=Tryz.isAgg439
 z222:=Tryz.sizeOf439
 v222:=Tryz.zeroValue439
 t228:=Tryz.underlying442
 a228:=Tryz.isAgg442
 z228:=Tryz.sizeOf442
 v228:=Tryz.zeroValue442
 t229:=Tryz.underlying443
 a229:=Tryz.isAgg443
 z229:=Tryz.sizeOf443
 v229:=Tryz.zeroValue443
def FU(l:aw):aw:=l.mergeSort λ x y=>decide (x<=y)
def aFy(l:aw)(hl:l.length<=1000000000):aq 234 [.row 0 0] [.row 0 1 3 (iv l)] (.ret (.tup [])) [.row 0 1 3 (iv (FU l))]:=
 EX (λ_ _=>by rfl) (λ p cap w=>Any.slices_Sort_int_none LH p cap w) (λ blk off cap b w c a hz=>Any.slices_Sort_int LH blk off cap b w c a hz) 3 l hl
set_option maxRecDepth 10000
def kyv(n:Int):aa:=.agg [ii n]
abbrev kv(l:aw):ax:=l.map kyv
def aCH{l:aw}{i:Nat}(h:i<l.length):(kv l)[i]? =some (kyv l[i]):=by simp [kv,h]
abbrev aKL(n:Int):aa:=.func (.func 233) [] [.ptr [ii n]]
def aKJ(x n:Int):aq 233 [kyv x,.ptr [ii n]] [] (.ret (.bool (x==n&&true))) []:=by exact c_ Tryz.f233 λ_=>zW
def N8(n:Int):aw->Nat->Int
 | [],_=> -1
 | x::r,i=>if (x==n&&true) then (i:Int) else N8 n r (i+1)
def has(l:aw)(n:Int):Bool:=decide (0<=N8 n l 0)
noncomputable abbrev aNg:Func:=Tryz.f267
def aCS(l:aw)(n:Int)(hl:((kv l).length:Int)<=9223372036854775807)(r:Int):∀ (m i:Nat),i+m=l.length->N8 n (l.drop i) i=r->
  To E aNg (.pure (.ret (ii r))) (.head (stk aNg 0) [(0,.slice 1 (kv l) .no),(1,aKL n),(7,.int .i64 ((kv l).length:Nat)),(8,.int .i64 i)] []):=by
 have d:(kv l).length=l.length:=by simp
 intro m;induction m with
 | zero=>
  intro i e a;rw [Ai o_] at a;subst a;refine gV ?_;exact zW
 | succ m g=>
  intro i e a;have b:i<l.length:=o_;rw [Ag b] at a;generalize f:l[i]=x at a;have get:(kv l)[i]? =some (kyv x):=(aCH b).trans (by rw [f]);unfold N8 at a;refine gV ?_;refine aT λ h=>?_
  repeat' first | (refine gN hE ?_;conv=>whnf) | refine ⟨_,get,?_⟩ | refine .pure _ [] (aKJ x n) ?_ | exact rfl | refine zt ?_ | refine zu ?_ ?_ | intro h | fail
  .have h:(x==n&&true)=true:=h;rw [if_pos h] at a;rw [<-a]
  .have h:(x==n&&true)=false:=h;rw [if_neg (by rw [h];decide)] at a;have c:=g (i+1) o_ a;exact zW
def aKP(l:aw)(n:Int):aq 267 [.slice 1 (kv l) .no,aKL n] [] (.ret (ii (N8 n l 0))) []:=by refine c_ Tryz.f267 λ b=>?_;have hl:((kv l).length:Int)<=9223372036854775807:=b.1;have a:=aCS l n hl _ l.length 0 o_ rfl;exact zW
def aKU(l:aw)(n:Int):aq 232 [.slice 1 (kv l) .no,aKL n] [] (.ret (.bool (has l n))) []:=by refine c_ Tryz.f232 λ_=>?_;have a:=aKP l n;exact zW
def DD(now:Int):a6->aw->aw
 | [],ks=>ks
 | x::r,ks=>DD now r (if decide (now<dG x)&& !has ks (dG x) then ks++[dG x] else ks)
def GK(now:Int):∀ (l:a6) (ks:aw),(DD now l ks).length<=ks.length+l.length
 | [],ks=>by simp [DD]
 | x::r,ks=>by
  unfold DD;have:=GK now r (if decide (now<dG x)&& !has ks (dG x) then ks++[dG x] else ks);split at this
  .rename_i h;rw [if_pos h];simp only [Ah,Al,Br] at this⊢;omega
  .rename_i h;rw [if_neg h];simp only [Al];omega
noncomputable abbrev V4:Func:=Tryz.f186
noncomputable abbrev En:Env:=Ex [5] [9] []
def hEn:ae En:=hEx _ _ _
def RQ(ks:aw)(m:ks.length<=1048576):∀ (n i:Nat) (a:aw),i+n=ks.length->a=ks.take i->
  To En V4 (.pure (.ret (.slice 1 (iv (FU ks)) .no))) (.head (stk V4 1) [(9,.row 0 0),(36,.slice 1 (kv ks) .no),(37,.int .i64 ((kv ks).length:Nat)),(38,.int .i64 i)] [.row 0 1 3 (iv a)]):=by
 have f:(kv ks).length=ks.length:=by simp
 intro n;induction n with
 | zero=>
  intro i a j c;rw [Cd o_] at c;subst c;refine gW hEn ?_;conv=>whnf
  refine aF λ h=>?_;refine gW hEn ?_;conv=>whnf
  refine .eff [] [0] _ _ rfl (aFy a o_) ?_
  repeat' first | (refine gN hEn ?_;conv=>whnf) | exact rfl | refine zt ?_ | refine zu ?_ ?_ | intro h | fail
 | succ n l=>
  intro i a j c;have b:i<ks.length:=o_;generalize d:ks[i]=x;have get:(kv ks)[i]? =some (kyv x):=(aCH b).trans (by rw [d]);have g:a.length=i:=by rw [c];simp;omega
  have k:(iv a).length=a.length:=by simp
  refine gW hEn ?_;conv=>whnf
  refine aT λ h=>?_;refine gW hEn ?_;conv=>whnf
  refine ⟨i,rfl,?_⟩;refine gW hEn ?_;conv=>whnf
  refine ⟨_,get,?_⟩;refine gW hEn ?_;conv=>whnf
  refine ⟨⟨by decide,by decide⟩,?_⟩;refine gW hEn ?_;conv=>whnf
  refine ⟨⟨by simp only [maxLen];simp;omega,by simp;omega⟩,?_⟩;refine gW hEn ?_;conv=>whnf
  refine aJ ?_;refine gW hEn ?_;conv=>whnf
  refine To.part [9,36,37,38] [0] rfl rfl rfl ?_;have next:=l (i+1) (a++[x]) o_ (by rw [c,<-d];exact List.take_append_getElem b)
  have e:iv (a++[x])=iv a++[ii x]:=by simp
  rw [e] at next
  exact next
def Y7(l:a6)(hs:Sm l)(now:Int)(R:aw):∀ (n i:Nat) (ks:aw),i+n=l.length->ks.length<=i->FU (DD now (l.drop i) ks)=R->
  To En V4 (.pure (.ret (.slice 1 (iv R) .no))) (.head (stk V4 0) [(1,.int .i64 now),(5,.slice 1 (kv ks) (.own 0 0)),(12,.slice 14 (rav l) .no),(13,.int .i64 ((rav l).length:Nat)),(14,.int .i64 i)] [.tail 0 1 354]):=by
 have k:(rav l).length=l.length:=by simp
 have hl:=hs.1;intro n;induction n with
 | zero=>
  intro i ks m q a;rw [Ai o_] at a;have a:FU ks=R:=a;subst a;refine gW hEn ?_;conv=>whnf
  refine aF λ h=>?_;refine gW hEn ?_;conv=>whnf
  refine To.part [9,36,37,38] [1] rfl rfl rfl ?_;have f:=RQ ks o_ ks.length 0 [] o_ s_;exact zW
 | succ n d=>
  intro i ks m q a;have c:i<l.length:=o_;rw [Ag c] at a;generalize o:l[i]=x at a;have get:(rav l)[i]? =some x.av:=(eX c).trans (by rw [o]);have p:(kv ks).length=ks.length:=by simp
  unfold DD at a;refine gW hEn ?_;conv=>whnf
  refine aT λ h=>?_;refine gW hEn ?_;conv=>whnf
  refine ⟨i,rfl,?_⟩;refine gW hEn ?_;conv=>whnf
  refine ⟨_,get,?_⟩;refine gW hEn ?_;conv=>whnf
  refine .pure _ [] (yI x) ?_;refine gW hEn ?_;conv=>whnf
  refine ⟨⟨by decide,by decide⟩,?_⟩;refine gW hEn ?_;conv=>whnf
  refine Ab (λ h1=>?_) (λ h1=>?_)
  .have h1:decide (now<dG x)=true:=h1;refine gW hEn ?_;conv=>whnf
   refine .pure _ [] (aKU ks (dG x)) ?_;refine gW hEn ?_;conv=>whnf
   refine Ab (λ b=>?_) (λ b=>?_)
   .have b:(!has ks (dG x))=true:=b;rw [h1,b,if_pos d_] at a;refine gW hEn ?_;conv=>whnf
    refine ⟨⟨by simp only [maxLen];simp;omega,by simp;omega⟩,?_⟩;refine gW hEn ?_;conv=>whnf
    refine aJ ?_;refine gW hEn ?_;conv=>whnf
    refine To.part [1,5,12,13,14] [0] rfl rfl rfl ?_;have next:=d (i+1) (ks++[dG x]) o_ q_ a
    have e:kv (ks++[dG x])=kv ks++[kyv (dG x)]:=by simp
    rw [e] at next
    exact next
   .have b:(!has ks (dG x))=false:=b;rw [h1,b,if_neg d_] at a;refine gW hEn ?_;conv=>whnf
    refine aJ ?_;refine gW hEn ?_;conv=>whnf
    have g:=d (i+1) ks o_ o_ a;exact zW
  .have h1:decide (now<dG x)=false:=h1;rw [h1,Gb,if_neg d_] at a
   repeat' first | (refine gN hEn ?_;conv=>whnf) | exact rfl | refine zt ?_ | refine zu ?_ ?_ | intro h | fail
   have j:=d (i+1) ks o_ o_ a;exact zW
def OH(l:a6)(now:Int):aw:=FU (DD now l [])
def aHP(l:a6)(hs:Sm l)(now:Int):aq 186 [.slice 14 (rav l) .no,ii now] [] (.ret (.slice 1 (iv (OH l now)) .no)) []:=by
 refine cT (E:=En) (fn:=Tryz.f186) (g:=.pure _) λ_=>?_;refine gW hEn ?_;conv=>whnf
 have a:=Y7 l hs now _ l.length 0 [] o_ s_ rfl;exact zW
def stF(c:Con)(l:a6)(g:Gan):aw->Option Int
 | []=>none
 | t::r=>if (cG c (atL l t) g).isSome=true then some t else stF c l g r
def stA:Option Int->aa
 | some t=>.tup [ii t,.bool true]
 | none=>.tup [ii 0,.bool false]
def tW(c:Con)(now:Int)(l:a6)(g:Gan):Option Int:=stF c l g (now::OH l now)
noncomputable abbrev aDx:Func:=Tryz.f138
def P3(c:Con)(n:c.sm)(now:Int)(l:a6)(hs:Sm l)(g:Gan)(k:0<=g.pods/\g.pods<=16)(es:aw)(r:es.length<=1048576)(R:Option Int):∀ (m i:Nat),i+m=es.length+1->stF c l g ((now::es).drop i)=R->
  To E aDx (.pure (.ret (stA R))) (.head (stk aDx 0) [(1,ii now),(2,.slice 14 (rav l) .no),(4,.ref 0 0),(7,.ref 1 0),(10,.slice 1 (iv es) .no),(21,.int .i64 (((iv es).length:Nat)+1)),(22,ii i)] (VR c g)):=by
 have o:(iv es).length=es.length:=by simp
 intro m;induction m with
 | zero=>
  intro i p a;rw [Ai q_] at a;have a:none=R:=a;subst a;refine gV ?_;exact zW
 | succ m f=>
  intro i p a;have e:i<(now::es).length:=by simp;omega
  rw [Ag e] at a;have f:=f (i+1) o_;cases i with
  | zero=>
   have a:stF c l g (now::(now::es).drop 1)=R:=a;have d:=wU c n (atL l now) (aEE hs now) g k;have b:=aEC l hs now;unfold stF at a;generalize cG c (atL l now) g=Q at a d;unfold fdA at d;generalize atL l now=al at b d;refine gV ?_;refine aT λ h=>gV ?_;refine aF λ h=>gV ?_;refine .pure _ [] b (gV ?_);cases Q with
   | none=>
    rw [if_neg d_] at a;have next:=f a
    exact zW
   | some x=>
    exact zqha9
  | succ j=>
   have q:j<es.length:=by simp at e;omega
   have a:stF c l g (es[j]::(now::es).drop (j+1+1))=R:=a;have get:(iv es)[j]? =some (ii es[j]):=gM q;generalize es[j]=t at a get;have d:=wU c n (atL l t) (aEE hs t) g k;have b:=aEC l hs t;unfold stF at a;generalize cG c (atL l t) g=Q at a d;unfold fdA at d;generalize atL l t=al at b d;refine gV ?_;refine aT λ h=>gV ?_;refine aT λ h=>gV ?_;refine aJ (gV ?_);refine ⟨j,by omega,gV ?_⟩;refine ⟨_,get,gV ?_⟩;refine .pure _ [] b (gV ?_);cases Q with
   | none=>
    rw [if_neg d_] at a;have next:=f a
    exact zW
   | some x=>
    exact zqha9
def aAS(c:Con)(e:c.sm)(now:Int)(l:a6)(hs:Sm l)(g:Gan)(h:0<=g.pods/\g.pods<=16):aq 138 [c.av,ii now,.slice 14 (rav l) .no,g.av] [] (.ret (stA (tW c now l g))) []:=by
 have a:(OH l now).length<=1048576:=by
  unfold OH FU;rw [Mn];have:=GK now l [];have:=hs.1;simp at *
  omega
 have b:=aHP l hs now;unfold tW;generalize OH l now=es at a b;have d:(iv es).length=es.length:=by simp
 refine c_ Tryz.f138 λ_=>gV ?_;refine .pure _ [] b (gV ?_);refine aJ (gV ?_);exact To.cut [1,2,4,7,10,21,22] 2 rfl rfl rfl rfl (P3 c e now l hs g h es a _ (es.length+1) 0 o_ rfl)
def bmB(now:Int)(g:Gan)(t:Int):Bool:=decide (dG ⟨g,0,0,now,0,[]⟩<=t)
def aEv(now:Int)(g:Gan)(t:Int)(b:Bool)(a:bmB now g t=b):aq 177 [ii now,g.av,ii t] [] (.ret (.bool b)) []:=by have c:=yI ⟨g,0,0,now,0,[]⟩;unfold bmB at a;generalize dG ⟨g,0,0,now,0,[]⟩=x at a c;subst a;exact c_ Tryz.f177 λ_=>zW
def aIE(now:Int)(g:Gan)(t:Int):aq 177 [ii now,g.av,ii t] [] (.ret (.bool (bmB now g t))) []:=aEv now g t _ rfl
def bI(v:V3):Bool:=decide (0<=v.a/\v.a<=1048576)&&decide (0<=v.b/\v.b<=1048576)&&decide (0<=v.c/\v.c<=1048576)
def rlB(ns:bb)(t:Int):Bool:=if decide (t<0)=true then false else if decide ((ns.length:Int)<=t)=true then false else ns.all λ x=>!(x.p==t)
def aMZ(ns:bb)(g:Gan):Bool:=decide (1<=g.id/\g.id<=1073741824/\1<=g.pods/\g.pods<=16)&&(bI g.need&&(decide (1<=g.run/\g.run<=1048576/\0<=g.lev/\g.lev<=3/\0<=g.pref/\g.pref<=g.lev)&&rlB ns g.ten))
def aI6(ns:bb)(g:Gan):Int:=if aMZ ns g=true then 1 else 0
def zB(v:V3):Bool:=v.a==0&&(v.b==0&&(v.c==0&&true))
def AV(i:Nat)(x:Nod):Prop:=(i=0/\x.p≠ -1)\/(0<i/\(x.p<0\/(i:Int)<=x.p))\/x.w<1\/1000<x.w
instance (i:Nat)(x:Nod):Decidable (AV i x):=by unfold AV;infer_instance
def oC(bl:Bool)(i:Nat)(x:Nod):Bool:=if AV i x then false else if bl=true then bI x.n&&(bI x.b&&(bI x.l&&cQ x.l x.n)) else zB x.n&&(zB x.b&&zB x.l)
def FD(x:Hos):Prop:=x.f<0\/100<x.f\/x.b<0\/100<x.b\/x.r<0\/100<x.r
instance (x:Hos):Decidable (FD x):=by unfold FD;infer_instance
def lR(x:Hos):Bool:=if FD x then false else bI x.c
def kD(ns:bb):Nat->bb->Bool
 | _,[]=>true
 | i,x::r=>if oC (rlB ns i) i x=true then kD ns (i+1) r else false
def AK(c:Con):Prop:=(1<=c.ns.length/\c.ns.length<=12)/\(1<=c.hs.length/\c.hs.length<=24)/\(1<=c.half/\c.half<=1048576)/\0<=c.age/\c.age<=1048576
instance (c:Con):Decidable (AK c):=by unfold AK;infer_instance
def bS(c:Con):Int:=if AK c then (if kD c.ns 0 c.ns=true then (if c.hs.all lR=true then 0 else 2) else 2) else 2
def aKS(n:Nat)(l:aw):Bool:=l.all λ h=>decide (0<=h/\h<(n:Int))
def aLO(c:Con)(now:Int)(x:Rn):Prop:=aI6 c.ns x.g=0\/x.st<0\/now<x.st\/(x.hs.length:Int)≠x.g.pods
instance (c:Con)(now:Int)(x:Rn):Decidable (aLO c now x):=by unfold aLO;infer_instance
def aNL(c:Con)(now:Int)(x:Rn):Bool:=if aLO c now x then false else aKS c.hs.length x.hs
def aLP(c:Con)(now:Int)(l:a6):Prop:=bS c≠0\/32<l.length\/now<0\/1099511627776<now
instance (c:Con)(now:Int)(l:a6):Decidable (aLP c now l):=by unfold aLP;infer_instance
def aNW(c:Con)(now:Int)(l:a6):Int:=if aLP c now l then 0 else if l.all (aNL c now)=true then 1 else 0
abbrev St(l:aw):Prop:=l.Pairwise (· < ·)
end Go.Proofs.YtbpccabomgalhaaGreatDoor
