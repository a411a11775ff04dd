/- Part 6 of what the statement rests on. -/
import Derived.Test.YtenkdioaefckoaaGreatDoorProg
import Derived.Shelf.Sort.Plain
import Derived.Shelf.Slices.In.SortNone
import Derived.Test.YtenkdioaefckoaaGreatDoorWT
set_option linter.all false
set_option maxHeartbeats 2000000
open Go.AW.Res renaming ret->Io
open Go.AW.St renaming head->G0
open Go.AW.Tk renaming no->J0
open Go.AW.aa renaming agg->He,bool->DA,int->GE,ref->G2,slice->CA,tup->GT
open Go.AW.ab renaming bun->If,cells->Do,tail->Fr
open Go.IntKind renaming i64->Is,u64->IH
open List renaming length->Z
open Bool renaming true->O,false->S
open Option renaming some->X,none->U
open And renaming intro->Aa
open Bool renaming and_false->Bo,false_and->Cq,false_eq_true->Cy,true_and->Bt
open Exists renaming intro->Aj
open Int renaming tdiv->Hg
open List renaming all_cons->Hi,append_assoc->Ag,append_nil->Ap,drop->Fx,drop_eq_getElem_cons->Ac,drop_eq_nil_of_le->Ae,flatMap_cons->Lp,foldl_cons->Ao,getElem?_eq_getElem->Ab,getElem?_eq_some_iff->Ad,getElem?_map->Bw,getElem_mem->Av,length->Mt,length_append->Ah,length_cons->Al,length_map->Cb,length_nil->Bs,length_replicate->Ga,map_append->Bh,map_cons->Bg,map_map->Dx,map_set->Gb,mem_append->Bx,mem_cons->Ba,mem_cons_of_mem->Az,mem_or_eq_of_mem_set->De,mergeSort_perm->Lb,nil_append->Bi,pairwise_cons->Bp,range->Df,range'->Hw,range'_succ->Kb,range_eq_range'->Hd,replicate->Ak,set_append_right->Hb,take->Fi,take_append_getElem->Iv,take_of_length_le->Bq
open List.cons renaming injEq->Mn
open Nat renaming ble->Fv,le_refl->Bc,le_trans->Cl,zero_le->Bn
open Or renaming inl->Fk
namespace Go.Proofs.YtenkdioaefckoaaGreatDoor
open Go.Proofs.Tryz
open Go Go.AW Go.Proofs
def zqha0{P:Prop}(h:P:=by
 unfold NK at hp;by_cases d:x=t
 .rw [bu (bq d)]at hp;refine gV ?_;refine To.beginR (k:=7) (gg:=0) rfl rfl b ?_
  repeat' first|refine pA ?_|refine .p (M9 c a need x e) ?_|refine .p (D2 c f a need t x) ?_|exact⟨⟨rfl,rfl⟩,⟨rfl,rfl⟩⟩|exact rfl|refine lA ?_ ?_|intro h
  all_goals (exfalso;simp_all)
 .rw [bt (by rw[bp d];decide)]at hp;refine gV ?_;refine To.beginR (k:=7) (gg:=0) rfl rfl b ?_
  repeat' first|refine pA ?_|refine .p (M9 c a need x e) ?_|refine .p (D2 c f a need t x) ?_|exact⟨⟨rfl,rfl⟩,⟨rfl,rfl⟩⟩|exact rfl|refine lA ?_ ?_|intro h
  all_goals (exfalso;simp_all)):P:=h
def zqha1{P:Prop}(h:P:=by
 refine gV ?_;refine⟨i,rfl,gV ?_⟩;refine⟨by omega,gV ?_⟩;refine⟨by omega,?_⟩
 exact zW):P:=h
def zqha2{P:Prop}(h:P:=by
 refine⟨ii n,1,gV ?_⟩
 exact zW):P:=h
def zqha3{P:Prop}(h:P:=by
 refine gV ?_;refine To.beginR (k:=4) (gg:=0) rfl rfl d ?_
 exact zW):P:=h
def zqha4{P:Prop}(h:P:=by
 have b:Z (iv a)=Z a:=by simp
 have e:iv (a++[x])=iv a++[ii x]:=by simp
 unfold wR;rw[e];refine gV ?_;refine To.beginR (k:=2) (gg:=0) rfl rfl c ?_
 exact zW):P:=h
def zqha5{P:Prop}(h:P:=by
 rw[<-hs]at next
 refine gV ?_;refine aT λh=>gV ?_;refine⟨i,rfl,gV ?_⟩;refine⟨_,g,?_⟩
 exact zqha1):P:=h
def zqha6{P:Prop}(h:P:=by
 have hl:=E0 a k 0;have b:k=N:=o_;subst b;have e:rp a k 0=iv (Ak k a):=by simp[rp]
 rw[e]at hl⊢;refine gV ?_
 exact zW):P:=h
def zqha7{P:Prop}(h:P:=by
 refine c_ f158 λ_=>gV ?_;refine .inr ?_
 exact zW):P:=h
def zqha8{P:Prop}(h:P:=by exact c_ f213 λ_=>zW):P:=h
def zqha9{P:Prop}(h:P:=by
 rw[Ae o_]at b;have b:a++[]=R:=b;rw[Ap]at b;subst b;refine gV ?_
 exact zW):P:=h
def zqha10{P:Prop}(h:P:=by
 rintro(h|h|h)
 .exact .inr (.inl h)
 .exact .inl h
 .exact .inr (.inr h)):P:=h
def zqha11{P:Prop}(h:P:=by
 refine gV ?_;refine .sole rfl (.eff [] [0,1] _ _ rfl (put_ok c x _ L) ?_)
 exact zW):P:=h
def zqha12{P:Prop}(h:P:=by
 rw[bu (show(X x).isSome=O from rfl)]at a;subst a
 exact zW):P:=h
def zqha13{P:Prop}(h:P:=by exact c_ f326 λ_=>zW):P:=h
abbrev _root_.ar:=aA Tryz.prog
abbrev _root_.bj(f:FuncId)(a:List aa)(v:aa):Prop:=ar f a [] (Io v) []
def Iz:Nat->List aa|0=>[]|n+1=>.int .i64 0::Iz n
noncomputable def T0:Tab:=[
 (3,.mk (.int .i64) 1 S (.int .i64 0)),
 (4,.mk .bool 1 S (.bool S)),
 (43,.mk (.arr 3 1 S) 3 O (.agg (Iz 3))),
 (30,.mk (.strct [(0,1,S),(1,1,S),(2,1,S),(3,1,S)]) 4 O (.agg [.slice 11 [] .nil,.slice 6 [] .nil,.int .i64 0,.int .i64 0])),
 (27,.mk (.slc 130 11 88) 1 S (.slice 11 [] .nil)),
 (130,.mk (.strct [(0,1,S),(1,1,S),(2,3,O),(5,3,O),(8,3,O)]) 11 O (.agg (Iz 11))),
 (83,.mk (.slc 3 1 8) 1 S (.slice 1 [] .nil)),
 (206,.mk (.slc 43 3 24) 1 S (.slice 3 [] .nil)),
 (45,.mk (.strct [(0,1,S),(1,1,S),(2,1,S),(3,3,O),(6,1,S),(7,1,S),(8,1,S)]) 9 O (.agg (Iz 9))),
 (32,.mk (.slc 85 14 128) 1 S (.slice 14 [] .nil)),
 (85,.mk (.strct [(0,9,O),(9,1,S),(10,1,S),(11,1,S),(12,1,S),(13,1,S)]) 14 O (.agg [.int .i64 0,.int .i64 0,.int .i64 0,.int .i64 0,.int .i64 0,.int .i64 0,.int .i64 0,.int .i64 0,.int .i64 0,.int .i64 0,.int .i64 0,.int .i64 0,.int .i64 0,.slice 1 [] .nil])),
 (28,.mk (.slc 132 6 48) 1 S (.slice 6 [] .nil)),
 (132,.mk (.strct [(0,1,S),(1,1,S),(2,1,S),(3,3,O)]) 6 O (.agg (Iz 6))),
 (1,.mk .other 1 S .nilfunc),
 (5,.mk (.int .u8) 1 S (.int .u8 0)),
 (9,.mk .str 1 S (.str [])),
 (20,.mk .iface 1 S .nilif),
 (22,.mk (.slc 49 17 168) 1 S (.slice 17 [] .nil)),
 (23,.mk (.ptr 73) 1 S .nilptr),
 (31,.mk (.slc 104 11 88) 1 S (.slice 11 [] .nil)),
 (33,.mk (.slc 106 1 8) 1 S (.slice 1 [] .nil)),
 (35,.mk (.strct [(0,4,O),(4,1,S),(5,1,S),(6,1,S),(7,1,S),(8,1,S)]) 9 O (.agg [.slice 11 [] .nil,.slice 6 [] .nil,.int .i64 0,.int .i64 0,.int .i64 0,.int .i64 0,.slice 11 [] .nil,.slice 14 [] .nil,.slice 1 [] .nil])),
 (37,.mk (.int .i64) 1 S (.int .i64 0)),
 (38,.mk (.slc 82 3 24) 1 S (.slice 3 [] .nil)),
 (40,.mk (.strct [(0,1,S),(1,1,S)]) 2 O (.agg [.int .i64 0,.slice 3 [] .nil])),
 (47,.mk (.strct [(0,1,S),(1,4,O),(5,9,O),(14,1,S)]) 15 O (.agg [.int .i64 0,.slice 11 [] .nil,.slice 6 [] .nil,.int .i64 0,.int .i64 0,.int .i64 0,.int .i64 0,.int .i64 0,.int .i64 0,.int .i64 0,.int .i64 0,.int .i64 0,.int .i64 0,.int .i64 0,.int .i64 0])),
 (49,.mk (.strct [(0,1,S),(1,15,O),(16,1,S)]) 17 O (.agg [.int .i64 0,.int .i64 0,.slice 11 [] .nil,.slice 6 [] .nil,.int .i64 0,.int .i64 0,.int .i64 0,.int .i64 0,.int .i64 0,.int .i64 0,.int .i64 0,.int .i64 0,.int .i64 0,.int .i64 0,.int .i64 0,.int .i64 0,.int .i64 0])),
 (54,.mk (.slc 47 15 152) 1 S (.slice 15 [] .nil)),
 (55,.mk (.int .u64) 1 S (.int .u64 0)),
 (57,.mk (.ptr 111) 1 S .nilptr),
 (59,.mk (.ptr 122) 1 S .nilptr),
 (73,.mk (.strct [(0,1,S),(1,1,S)]) 2 O (.agg [.nilptr,.nilptr])),
 (76,.mk (.slc 40 2 32) 1 S (.slice 2 [] .nil)),
 (82,.mk (.strct [(0,1,S),(1,1,S),(2,1,S)]) 3 O (.agg (Iz 3))),
 (101,.mk .other 1 S .nilfunc),
 (104,.mk (.strct [(0,9,O),(9,1,S),(10,1,S)]) 11 O (.agg (Iz 11))),
 (106,.mk (.int .u64) 1 S (.int .u64 0)),
 (109,.mk (.slc 5 1 1) 1 S (.slice 1 [] .nil)),
 (111,.mk (.strct [(0,1,S),(1,1,S),(2,1,S),(3,1,S)]) 4 O (.agg [.int .i64 0,.slice 1 [] .nil,.slice 1 [] .nil,.bool S])),
 (112,.mk (.ptr 159) 1 S .nilptr),
 (113,.mk (.slc 9 1 16) 1 S (.slice 1 [] .nil)),
 (117,.mk .iface 1 S .nilif),
 (122,.mk (.strct [(0,1,S),(1,9,O)]) 10 O (.agg [.nilptr,.slice 11 [] .nil,.slice 6 [] .nil,.int .i64 0,.int .i64 0,.int .i64 0,.int .i64 0,.slice 11 [] .nil,.slice 14 [] .nil,.slice 1 [] .nil])),
 (148,.mk (.ptr 150) 1 S .nilptr),
 (150,.mk (.strct [(0,9,O),(9,1,S),(10,1,S),(11,1,S)]) 12 O (.agg [.slice 11 [] .nil,.slice 6 [] .nil,.int .i64 0,.int .i64 0,.int .i64 0,.int .i64 0,.slice 11 [] .nil,.slice 14 [] .nil,.slice 1 [] .nil,.slice 3 [] .nil,.bool S,.int .i64 0])),
 (159,.mk (.strct [(0,1,S),(1,1,S)]) 2 O (.agg [.nilptr,.int .i64 0])),
 (163,.mk .iface 1 S .nilif),
 (169,.mk (.strct [(0,4,O)]) 4 O (.agg [.slice 11 [] .nil,.slice 6 [] .nil,.int .i64 0,.int .i64 0])),
 (171,.mk (.ptr 35) 1 S .nilptr),
 (173,.mk (.strct [(0,9,O)]) 9 O (.agg (Iz 9))),
 (176,.mk (.strct [(0,1,S)]) 1 O (.agg [.int .i64 0])),
 (178,.mk (.strct [(0,1,S)]) 1 O (.agg [.int .i64 0])),
 (180,.mk (.strct [(0,1,S)]) 1 O (.agg [.int .i64 0])),
 (183,.mk (.strct []) 0 O (.agg [])),
 (190,.mk (.ptr 195) 1 S .nilptr),
 (191,.mk (.ptr 193) 1 S .nilptr),
 (193,.mk (.strct [(0,1,S),(1,1,S)]) 2 O (.agg [.nilptr,.slice 1 [] .nil])),
 (195,.mk (.strct [(0,2,O)]) 2 O (.agg [.nilptr,.slice 1 [] .nil])),
 (218,.mk .other 1 S .nilfunc),
 (240,.mk (.ptr 37) 1 S .nilptr),
 (250,.mk (.ptr 252) 1 S .nilptr),
 (252,.mk (.strct [(0,9,O),(9,1,S),(10,1,S),(11,1,S)]) 12 O (.agg [.slice 11 [] .nil,.slice 6 [] .nil,.int .i64 0,.int .i64 0,.int .i64 0,.int .i64 0,.slice 11 [] .nil,.slice 14 [] .nil,.slice 1 [] .nil,.slice 3 [] .nil,.bool S,.int .i64 0])),
 (254,.mk (.int .u32) 1 S (.int .u32 0)),
 (256,.mk (.ptr 258) 1 S .nilptr),
 (258,.mk (.strct [(0,2,O)]) 2 O (.agg [.nilptr,.slice 1 [] .nil])),
 (261,.mk (.ptr 5) 1 S .nilptr),
 (267,.mk .other 1 S .nilfunc),
 (270,.mk .other 1 S .nilfunc),
 (276,.mk (.ptr 278) 1 S .nilptr),
 (278,.mk (.strct [(0,1,S)]) 1 O (.agg [.str []])),
 (286,.mk (.strct [(0,1,S)]) 1 O (.agg [.int .i64 0])),
 (289,.mk .other 1 S .nilfunc),
 (292,.mk (.strct [(0,9,O),(9,1,S),(10,1,S)]) 11 O (.agg (Iz 11))),
 (293,.mk .other 1 S .nilfunc),
 (295,.mk .other 1 S .nilfunc),
 (299,.mk .other 1 S .nilfunc),
 (301,.mk .other 1 S .nilfunc),
 (302,.mk .other 1 S .nilfunc),
 (303,.mk .other 1 S .nilfunc),
 (304,.mk (.ptr 307) 1 S .nilptr),
 (307,.mk (.strct [(0,9,O)]) 9 O (.agg [.slice 11 [] .nil,.slice 6 [] .nil,.int .i64 0,.int .i64 0,.int .i64 0,.int .i64 0,.slice 11 [] .nil,.slice 14 [] .nil,.slice 1 [] .nil])),
 (309,.mk (.int .u64) 1 S (.int .u64 0)),
 (311,.mk (.mp 3 4) 1 S .nilmap),
 (312,.mk (.slc 20 1 16) 1 S (.slice 1 [] .nil)),
 (319,.mk .other 1 S .nilptr),
 (325,.mk (.slc 83 1 24) 1 S (.slice 1 [] .nil)),
 (328,.mk (.arr 16 1 S) 16 O (.agg [.int .u64 0,.int .u64 0,.int .u64 0,.int .u64 0,.int .u64 0,.int .u64 0,.int .u64 0,.int .u64 0,.int .u64 0,.int .u64 0,.int .u64 0,.int .u64 0,.int .u64 0,.int .u64 0,.int .u64 0,.int .u64 0])),
 (342,.mk .other 1 S .nilfunc),
 (344,.mk .iface 1 S .nilif),
 (350,.mk (.ptr 373) 1 S .nilptr),
 (356,.mk .other 1 S .nilfunc),
 (358,.mk .other 1 S .nilfunc),
 (365,.mk (.strct [(0,1,S)]) 1 O (.agg [.nilfunc])),
 (368,.mk .other 1 S .nilfunc),
 (369,.mk .other 1 S .nilfunc),
 (371,.mk (.mp 3 43) 1 S .nilmap),
 (373,.mk (.strct [(0,4,O),(4,1,S)]) 5 O (.agg [.slice 11 [] .nil,.slice 6 [] .nil,.int .i64 0,.int .i64 0,.nilmap])),
 (379,.mk (.ptr 381) 1 S .nilptr),
 (381,.mk (.strct [(0,1,S),(1,1,S)]) 2 O (.agg [.slice 14 [] .nil,.nilfunc])),
 (385,.mk (.slc 387 1 8) 1 S (.slice 1 [] .nil)),
 (387,.mk (.arr 1 1 S) 1 O (.agg [.int .i64 0])),
 (389,.mk .other 1 S .nilfunc),
 (390,.mk (.mp 3 3) 1 S .nilmap),
 (395,.mk (.mp 397 3) 1 S .nilmap),
 (397,.mk (.strct [(0,1,S),(1,1,S),(2,1,S),(3,1,S)]) 4 O (.agg (Iz 4))),
 (411,.mk (.int .i64) 1 S (.int .i64 0)),
 (421,.mk (.int .u64) 1 S (.int .u64 0)),
 (425,.mk (.ptr 3) 1 S .nilptr),
 (427,.mk (.ptr 421) 1 S .nilptr)]
def F0:List (Nat×Nat):=[(43,3),(45,9),(130,11),(132,6),(387,1),(397,4),(104,11),(292,11),(82,3)]
def M0:aI1:=[(292,"tithebarn/queue.id",413),(292,"tithebarn/queue.seq",414)]
noncomputable def E:Env:={P:=Tryz.prog,T:=T0,mt:=M0,fl:=F0,own:=[],rws:=[],bl:=[],df:=[]}
def hE:ae E where
 mix:=by kernel_rfl
 tab:=UW (by kernel_rfl) (by kernel_rfl)
 mth:=CP.cons (λv w=>by kernel_rfl) (CP.cons (λv w=>by kernel_rfl) CP.nil)
 fl:=SY (by kernel_rfl)
noncomputable def Er(l b:a6):Env:={E with rws:=l,bl:=b}
def hEr(l b:a6):ae (Er l b):=⟨hE.mix,hE.tab,hE.mth,hE.fl⟩
noncomputable def Eo(l b:a6):Env:={E with own:=l,bl:=b}
def hEo(l b:a6):ae (Eo l b):=⟨hE.mix,hE.tab,hE.mth,hE.fl⟩
noncomputable def Ed(df:List (Nat×az)):Env:={E with df:=df}
def hEd(df:List (Nat×az)):ae (Ed df):=⟨hE.mix,hE.tab,hE.mth,hE.fl⟩
noncomputable def Ex(o r b:a6):Env:={E with own:=o,rws:=r,bl:=b}
def hEx(o r b:a6):ae (Ex o r b):=⟨hE.mix,hE.tab,hE.mth,hE.fl⟩
noncomputable def El(l:Nat)(o r b:a6):Env:={Ex o r b with rd:=X l}
def hEl(l:Nat)(o r b:a6):ae (El l o r b):=⟨hE.mix,hE.tab,hE.mth,hE.fl⟩
def c_(fn:Func){f:FuncId}{args:az}{r:Res}(h:okL args->To E fn (.pure r) (.code [.code (dS fn)] (frA 0 args) []))(j:Tryz.prog.funcs[f]? =X fn:=by rfl)(k:fn.body=X (dS fn):=by rfl)(a:pD Tryz.prog f:=by exact λ_ _=>by rfl)(e:dR fn.ntmps (dS fn)=true:=by decide+kernel)(i:Fv (Z args) fn.ntmps=true:=by rfl):aA Tryz.prog f args [] r []:=cT (E:=E) (g:=.pure r) h rfl j k a e i rfl rfl rfl
structure V3 where
 (a b c:Int)
 deriving DecidableEq
abbrev _root_.a8:=List V3
structure Nod where
 (p w:Int)
 (n b l:V3)
 deriving DecidableEq
abbrev _root_.bc:=List Nod
structure Hos where
 (f b r:Int)
 (c:V3)
 deriving DecidableEq
structure Con where
 ns:bc
 hs:List Hos
 (half age:Int)
 deriving DecidableEq
structure Gan where
 (id ten pods:Int)
 need:V3
 (run lev pref:Int)
 deriving DecidableEq
abbrev ii(n:Int):aa:=GE Is n
def V3.cs(v:V3):az:=[ii v.a,ii v.b,ii v.c]
def Nod.cs(x:Nod):az:=[ii x.p,ii x.w,ii x.n.a,ii x.n.b,ii x.n.c,ii x.b.a,ii x.b.b,ii x.b.c,ii x.l.a,ii x.l.b,ii x.l.c]
def Nod.av(x:Nod):aa:=He x.cs
def Hos.cs(x:Hos):az:=[ii x.f,ii x.b,ii x.r,ii x.c.a,ii x.c.b,ii x.c.c]
def Hos.av(x:Hos):aa:=He x.cs
abbrev nav(l:bc):az:=l.map Nod.av
abbrev hav(l:List Hos):az:=l.map Hos.av
def Con.cs(x:Con):az:=[CA 11 (nav x.ns) J0,CA 6 (hav x.hs) J0,ii x.half,ii x.age]
def Con.av(x:Con):aa:=He x.cs
def Gan.cs(x:Gan):az:=[ii x.id,ii x.ten,ii x.pods,ii x.need.a,ii x.need.b,ii x.need.c,ii x.run,ii x.lev,ii x.pref]
def Gan.av(x:Gan):aa:=He x.cs
abbrev iv(l:ax):az:=l.map ii
def V3.zero:V3:=⟨0,0,0⟩
def V3.av(v:V3):aa:=He v.cs
abbrev vav(l:a8):az:=l.map V3.av
def fP{l:bc}{i:Nat}(h:i<Z l):(nav l)[i]? =X l[i].av:=by simp[nav,h]
def oG{l:List Hos}{i:Nat}(h:i<Z l):(hav l)[i]? =X l[i].av:=by simp[hav,h]
def cD{l:ax}{i:Nat}(h:i<Z l):(iv l)[i]? =X (ii l[i]):=by simp[iv,h]
def cN{M:Imm}{ob:Hs}{v:Value}{cs:az}(h:Rep M ob v (.agg cs))(i:Nat)(a:aa)(c:cs[i]? =X a):okA a:=by
 obtain⟨vs,_,hl,d⟩:=h.agg_inv;have b:i<Z vs:=by rw[hl];exact(Ad.1 c).1
 exact(d i _ a (Ab b) c).okA
def aA.get{P:Program}{f:FuncId}{args:az}{ac ap:aw}{r:Res}(Q:Prop)(c:∀M ob vs,cL M ob vs args->Q)(h:Q->aA P f args ac r ap):aA P f args ac r ap:=
 λM ob w a hm b=>h (c _ _ _ b) M ob w a hm b
def jF{b:Bool}(h:(!b)=O):b=false:=by cases b<;>first|rfl|cases h
def jG{b:Bool}(h:(!b)=S):b=true:=by cases b<;>first|rfl|cases h
structure Rn where
 g:Gan
 (seq at' st fl:Int)
 hs:ax
 deriving DecidableEq
abbrev _root_.a7:=List Rn
def Rn.cs(x:Rn):az:=[ii x.g.id,ii x.g.ten,ii x.g.pods,ii x.g.need.a,ii x.g.need.b,ii x.g.need.c,ii x.g.run,ii x.g.lev,ii x.g.pref,ii x.seq,ii x.at',ii x.st,ii x.fl,CA 1 (iv x.hs) J0]
def Rn.av(x:Rn):aa:=He x.cs
abbrev rav(l:a7):=l.map Rn.av
def cB{l:a7}{i:Nat}(h:i<Z l):(rav l)[i]? =X l[i].av:=by simp[rav,h]
def kN{l:a8}{i:Nat}(h:i<Z l):(vav l)[i]? =X l[i].av:=by simp[vav,h]
def aI8{n:Int}(h:9223372036854775807<n)(a:n<=18446744073709551614):IntKind.wrap Is n=n-18446744073709551616:=by simp[IntKind.wrap,IntKind.signed,IntKind.bits];omega
def aI7{n:Int}(h:n< -9223372036854775808)(a: -18446744073709551616<=n):IntKind.wrap Is n=n+18446744073709551616:=by simp[IntKind.wrap,IntKind.signed,IntKind.bits];omega
set_option maxRecDepth 10000
def fZ(n m:Int):Int:=min (max n (0-m)) m
def fY(n m:Int)(h:0<=m): -m<=fZ n m/\fZ n m<=m:=by unfold fZ;omega
def X5(n m:Int)(a:0<=m)(h1:m<=1099511627776):bj 303 [ii n,ii m] (ii (fZ n m)):=by exact c_ f303 λ_=>zW
def jV(x y:Int):Int:=fZ (fZ x 1099511627776+fZ y 1099511627776) 1099511627776
def aBY(x y:Int):Int:=fZ (fZ x 1099511627776-fZ y 1099511627776) 1099511627776
def H5(x n:Int):Int:=fZ (fZ x 1099511627776*fZ n 1048576) 1099511627776
def aAq(x n:Int): -1152921504606846976<=fZ x 1099511627776*fZ n 1048576/\fZ x 1099511627776*fZ n 1048576<=1152921504606846976:=by
 have h1:=fY x 1099511627776 d_;have a:=fY n 1048576 d_;have h3:(fZ x 1099511627776*fZ n 1048576).natAbs<=1099511627776*1048576:=by rw[Int.natAbs_mul];exact Nat.mul_le_mul o_ o_
 omega
def aNl(x y:Int):bj 302 [ii x,ii y] (ii (jV x y)):=by
 have h1:=fY x 1099511627776 d_;have a:=fY y 1099511627776 d_;refine c_ f302 λ_=>?_
 repeat' first|refine pA ?_|refine .p (X5 _ _ d_ d_) ?_|exact rfl|refine lA ?_ ?_|intro h
def aJC(x y:Int):bj 349 [ii x,ii y] (ii (aBY x y)):=by
 have h1:=fY x 1099511627776 d_;have a:=fY y 1099511627776 d_;refine c_ f349 λ_=>?_
 repeat' first|refine pA ?_|refine .p (X5 _ _ d_ d_) ?_|exact rfl|refine lA ?_ ?_|intro h
def aK8(x y n:Int):bj 346 [ii x,ii y,.ptr [ii n]] (ii (H5 x n)):=by
 have h1:=aAq x n;refine c_ f346 λ_=>?_
 repeat' first|refine pA ?_|refine .p (X5 _ _ d_ d_) ?_|exact rfl|refine lA ?_ ?_|intro h
def V3.map2(op:Int->Int->Int)(a b:V3):V3:=⟨op a.a b.a,op a.b b.b,op a.c b.c⟩
def aBk(f:FuncId)(op:Int->Int->Int)(a b:V3)(h:∀x y,aA Tryz.prog f [ii x,ii y] [] (Io (ii (op x y))) []):bj 301 [a.av,b.av,.func (.func f) [] []] ((V3.map2 op a b).av):=by
  refine c_ f301 λ_=>gV ?_
  repeat' first
   |(refine gW hE ?_;conv=>whnf)
   |refine .p (h _ _) ?_
   |exact rfl
   |refine aY ?_
   |refine aN ?_
   |refine aJ ?_
   |refine Aj _ (Aa rfl ?_)
   |refine Aa d_ ?_
def aH3(f:FuncId)(op:Int->Int->Int)(n:Int)(a b:V3)(h:∀x y,aA Tryz.prog f [ii x,ii y,.ptr [ii n]] [] (Io (ii (op x y))) []):bj 301 [a.av,b.av,.func (.func f) [] [.ptr [ii n]]] ((V3.map2 op a b).av):=by
  refine c_ f301 λ_=>gV ?_
  repeat' first
   |(refine gW hE ?_;conv=>whnf)
   |refine .p (h _ _) ?_
   |exact rfl
   |refine aY ?_
   |refine aN ?_
   |refine aJ ?_
   |refine Aj _ (Aa rfl ?_)
   |refine Aa d_ ?_
def dZ(a b:V3):V3:=V3.map2 jV a b
def xY(a b:V3):V3:=V3.map2 aBY a b
def UQ(a:V3)(n:Int):V3:=V3.map2 (λx _=>H5 x n) a a
def jA(a b:V3):bj 242 [a.av,b.av] ((dZ a b).av):=by refine c_ f242 λ_=>?_;have c:=aBk _ jV a b aNl;exact zW
def L4(a b:V3):bj 315 [a.av,b.av] ((xY a b).av):=by refine c_ f315 λ_=>?_;have c:=aBk _ aBY a b aJC;exact zW
def aJd(a:V3)(n:Int):bj 312 [a.av,ii n] ((UQ a n).av):=by refine c_ f312 λ_=>?_;have b:=aH3 _ (λx _=>H5 x n) n a a λx y=>aK8 x y n;exact zW
def bY(a b:V3):Bool:=if decide (b.a<a.a)=O then S else if decide (b.b<a.b)=O then S else if decide (b.c<a.c)=O then S else O
abbrev aPc(n:Int):aa:=.func (.func 268) [] [.ptr [ii n]]
def aPb(x:Nod)(n:Int):bj 268 [x.av,.ptr [ii n]] (DA (decide (x.p=n))):=by exact c_ f268 λ_=>zW
def am(n:Int):bc->Nat->Int
 |[],_=> -1
 |x::r,i=>if decide (x.p=n)=O then(i:Int)else am n r (i+1)
def aCX(l:bc)(n:Int)(hl:Ig (Z (nav l)))(r:Int):∀(m i:Nat),i+m=Z l->am n (l.drop i) i=r->
  BC E f309 (ii r) [(0,CA 11 (nav l) J0),(1,aPc n),(7,GE Is (Z (nav l):Nat)),(8,GE Is i)] []:=by
 have c:Z (nav l)=Z l:=by simp
 intro m;induction m with
 |zero=>
  intro i f a;rw[Ae o_]at a;subst a;exact tA
 |succ m g=>
  intro i f a;have b:i<Z l:=o_;rw[Ac b]at a;generalize e:l[i]=x at a;have get:(nav l)[i]? =X x.av:=(fP b).trans (by rw[e]);unfold am at a;refine gV ?_;refine aT λh=>?_
  repeat' first|refine pA ?_|refine⟨_,get,?_⟩|refine .p (aPb x n) ?_|exact rfl|refine lA ?_ ?_|intro h
  .have h:decide (x.p=n)=true:=h;rw[bu h]at a;rw[<-a]
  .have h:decide (x.p=n)=false:=h;rw[bt (by rw[h];decide)]at a;have d:=g (i+1) o_ a;exact zW
def aLE(l:bc)(n:Int):bj 309 [CA 11 (nav l) J0,aPc n] (ii (am n l 0)):=by refine c_ f309 λb=>?_;have hl:(Z (nav l):Int)<=9223372036854775807:=b.1;have a:=aCX l n hl _ (Z l) 0 o_ rfl;exact zW
def aLI(l:bc)(n:Int):bj 267 [CA 11 (nav l) J0,aPc n] (DA (decide (0<=am n l 0))):=by refine c_ f267 λ_=>?_;have a:=aLE l n;exact zW
def bB(ns:bc)(n:Int):Bool:=if decide (0<=n)=O then(if decide (n<(Z ns:Int))=O then !decide (0<=am n ns 0)else S)else S
def aGM(c:Con)(n:Int)(r:Bool)(d:bB c.ns n=r):bj 207 [c.av,ii n] (DA r):=by
 have b:Z (nav c.ns)=Z c.ns:=by simp
 unfold bB at d;refine c_ f207 λ_=>gV ?_;refine Aa (λh1=>?_) (λh1=>?_)
 .have h1:decide (0<=n)=true:=h1;rw[bu h1]at d;refine gV ?_;refine Aa (λa=>?_) (λa=>?_)
  .have a:decide (n<(Z (nav c.ns):Int))=true:=a;rw[b]at a;rw[bu a]at d
   repeat' first|refine pA ?_|refine .p (aLI c.ns n) ?_|exact rfl|refine lA ?_ ?_|intro h
   rw[<-d]
  .have a:decide (n<(Z (nav c.ns):Int))=false:=a;rw[b]at a;rw[bt (by rw[a];decide)]at d
   repeat' first|refine pA ?_|exact rfl|refine lA ?_ ?_|intro h
   rw[<-d]
 .have h1:decide (0<=n)=false:=h1;rw[bt (by rw[h1];decide)]at d
  repeat' first|refine pA ?_|exact rfl|refine lA ?_ ?_|intro h
  rw[<-d]
def kQ(c:Con)(n:Int):bj 207 [c.av,ii n] (DA (bB c.ns n)):=aGM c n _ rfl
inductive Ylds(P:Program)(l:Nat):ax->BInv->BInv->Bool->Prop
 |nil (I:BInv):Ylds P l [] I I O
 |stop (x:Int) (r:ax) (I I':BInv) (h:bN P (.yield l) [ii x] [.bun 0 I] (.ret (.bool S)) [.bun 1 I']):Ylds P l (x::r) I I' S
 |next (x:Int) (r:ax) (I I1 I2:BInv) (b:Bool) (h:bN P (.yield l) [ii x] [.bun 0 I] (.ret (.bool O)) [.bun 1 I1]) (k:Ylds P l r I1 I2 b):Ylds P l (x::r) I I2 b
def upF(ns:bc):Nat->Int->ax
 |0,_=>[]
 |f+1,n=>if decide (0<=n)=O then(if h:n.toNat<Z ns then(if decide (n<=(ns[n.toNat]).p)=O then[n]else n::upF ns f (ns[n.toNat]).p)else[])else[]
def upL(ns:bc)(n:Int):ax:=upF ns (n.toNat+1) n
def aD6(l:Nat)(c:Con)(hl:Ig (Z (nav c.ns)))(k:BInv)(b:Bool):∀(f:Nat) (n:Int),n<(f:Int)->∀(I:BInv),Ylds Tryz.prog l (upF c.ns f n) I k b->
  ∃m g,To E f345 (.full 2 (Io (GT [])) [Do 3 [m],If g k]) (BB f345 [(0,.func (.yield l) [] []),(1,G2 0 0),(2,.ptr c.cs)] [Do 3 [ii n],If 1 I]):=by
 have o:Z (nav c.ns)=Z c.ns:=by simp
 intro f;induction f with
 |zero=>
  intro n s I a;have h1:¬ 0<=n:=o_;cases a;exact zqha2
 |succ f i=>
  intro n s I a;have u:=λ(p:Int) (hp:¬ n<=p) (e:BInv) (h1:Ylds Tryz.prog l (upF c.ns f p) e k b)=>i p o_ e h1;unfold upF at a;by_cases h1:0<=n
  .rw [bu (bq h1)]at a;by_cases j:n.toNat<Z c.ns
   .rw [dif_pos j]at a;generalize q:c.ns[n.toNat]=x at a;have get:(nav c.ns)[n.toNat]? =X x.av:=(fP j).trans (by rw[q]);have v:n=(n.toNat:Int):=o_;by_cases h3:n<=x.p
    .rw [bu (bq h3)]at a;cases a with
     |stop _ _ _ _ d=>
      exact zqha2
     |next _ _ _ e _ _ d h=>
      cases h;exact zqha2
    .rw [bt (by rw[bp h3];decide)]at a;cases a with
     |stop _ _ _ _ d=>
      exact zqha2
     |next _ _ _ e _ _ d h=>
      obtain⟨m,g,r⟩:=u x.p o_ _ h;refine⟨m,g,gV ?_⟩;exact zW
   .rw [dif_neg j]at a;cases a;exact zqha2
  .rw [bt (by rw[bp h1];decide)]at a;cases a;exact zqha2
def aBP(l:Nat)(c:Con)(n:Int)(I f:BInv)(b:Bool)(hl:Ig (Z (nav c.ns)))(a:Ylds Tryz.prog l (upL c.ns n) I f b):
  ∃m g,To E f345 (.full 2 (Io (GT [])) [Do 3 [m],If g f]) (BB f345 [(0,.func (.yield l) [] []),(1,G2 0 0),(2,.ptr c.cs)] [Do 3 [ii n],If 0 I]):=by
 have j:Z (nav c.ns)=Z c.ns:=by simp
 unfold upL at a;have q:=λ(p:Int) (hp:¬ n<=p) (e:BInv) (h1:Ylds Tryz.prog l (upF c.ns n.toNat p) e f b)=>aD6 l c hl f b n.toNat p o_ e h1;unfold upF at a;by_cases h1:0<=n
 .rw [bu (bq h1)]at a;by_cases i:n.toNat<Z c.ns
  .rw [dif_pos i]at a;generalize k:c.ns[n.toNat]=x at a;have get:(nav c.ns)[n.toNat]? =X x.av:=(fP i).trans (by rw[k]);have r:n=(n.toNat:Int):=o_;by_cases h3:n<=x.p
   .rw [bu (bq h3)]at a;cases a with
    |stop _ _ _ _ d=>
     exact zqha2
    |next _ _ _ e _ _ d h=>
     cases h;exact zqha2
   .rw [bt (by rw[bp h3];decide)]at a;cases a with
    |stop _ _ _ _ d=>
     exact zqha2
    |next _ _ _ e _ _ d h=>
     obtain⟨m,g,o⟩:=q x.p o_ _ h;refine⟨m,g,gV ?_⟩;exact zW
  .rw [dif_neg i]at a;cases a;refine⟨ii n,0,gV ?_⟩;exact zW
 .rw [bt (by rw[bp h1];decide)]at a;cases a;refine⟨ii n,0,gV ?_⟩;exact zW
def MB(l:Nat)(c:Con)(n:Int)(I d:BInv)(b:Bool)(hl:Ig (Z (nav c.ns)))(e:Ylds Tryz.prog l (upL c.ns n) I d b):∃m a,ar 345 [.func (.yield l) [] [],G2 0 0,.ptr c.cs] [Do 3 [ii n],If 0 I] (Io (GT [])) [Do 3 [m],If a d]:=by obtain⟨m,a,h⟩:=aBP l c n I d b hl e;refine⟨m,a,?_⟩;refine eA E f345 2 λ_=>?_;exact zW
def Y8(c:Con)(n:Int):ar 311 [c.av,ii n] [] (Io (.func (.func 345) [] [G2 0 0,.ptr c.cs])) [Do 3 [ii n]]:=by refine eA E f311 0 λ_=>gV ?_;refine⟨[0],[1],⟨rfl,rfl⟩,?_⟩;exact⟨rfl,rfl⟩
abbrev Led:=List (Int×V3)
def led(L:Led):List (ax×aa):=L.map λp=>([p.1],p.2.av)
def jI:Led->Int->Option V3
 |[],_=>U
 |(k,v)::r,n=>if k=n then X v else jI r n
def A2:Led->Int->V3->Led
 |[],n,v=>[(n,v)]
 |(k,w)::r,n,v=>if k=n then(n,v)::r else(k,w)::A2 r n v
def FZ:Led->Int->Led
 |[],_=>[]
 |(k,w)::r,n=>if k=n then r else(k,w)::FZ r n
def FV(n:Int):∀(L:Led),bZ (led L) [n]=(jI L n).map V3.av
 |[]=>rfl
 |(k,v)::r=>by
  have:=FV n r;simp only[led,Bg,bZ,jI,Mn,and_true]at this⊢;split
  .rfl
  .exact this
def aAu(n:Int)(v:V3):∀(L:Led),mZ (led L) [n] v.av=led (A2 L n v)
 |[]=>rfl
 |(k,w)::r=>by
  have:=aAu n v r;simp only[led,Bg,mZ,A2,Mn,and_true]at this⊢;split
  .rfl
  .rw [this];rfl
def aAv(n:Int):∀(L:Led),H6 (led L) [n]=led (FZ L n)
 |[]=>rfl
 |(k,w)::r=>by
  have:=aAv n r;simp only[led,Bg,H6,FZ,Mn,and_true]at this⊢;split
  .rfl
  .rw [this];rfl
def sA(L:Led)(n:Int):V3:=(jI L n).getD V3.zero
def isZ(v:V3):Bool:=(v.a==0)&&((v.b==0)&&((v.c==0)&&O))
def RW(L:Led)(n:Int)(v:V3):Led:=if isZ v=O then FZ L n else A2 L n v
abbrev H8(c:Con):az:=[CA 11 (nav c.ns) J0,CA 6 (hav c.hs) J0,ii c.half,ii c.age,.mref 1]
def aKz(c:Con)(n:Int)(v:V3)(L L':Led)(a:RW L n v=L'):ar 318 [G2 0 0,ii n,v.av] [Do 373 (H8 c),.mp S (led L)] (Io (GT [])) [Do 373 (H8 c),.mp S (led L')]:=by
 unfold RW at a;refine eA E f318 2 λ_=>gV ?_;refine Aa (λh1=>?_) (λh1=>?_)
 .have h1:isZ v=true:=h1;rw[bu h1]at a;refine gV ?_;refine⟨[],[0,1],⟨rfl,rfl⟩,?_⟩;refine⟨rfl,?_⟩;show[ab.cells _ _,ab.mp S (H6 (led L) [n])]=_;rw[aAv,a]
 .have h1:isZ v=false:=h1;rw[bt (by rw[h1];decide)]at a;refine gV ?_;refine⟨[],[0,1],⟨rfl,rfl⟩,?_⟩;refine⟨rfl,?_⟩;show[ab.cells _ _,ab.mp S (mZ (led L) [n] v.av)]=_;rw[aAu,a]
def put_ok(c:Con)(n:Int)(v:V3)(L:Led):ar 318 [G2 0 0,ii n,v.av] [Do 373 (H8 c),.mp S (led L)] (Io (GT [])) [Do 373 (H8 c),.mp S (led (RW L n v))]:=aKz c n v L _ rfl
def EC{α:Type}{P:Program}{l:Nat}(F:α->BInv)(st:α->Int->α)(h:∀a x,bN P (.yield l) [ii x] [If 0 (F a)] (Io (DA O)) [If 1 (F (st a x))]):∀(xs:ax) (a:α),Ylds P l xs (F a) (F (xs.foldl st a)) O
 |[],a=>.nil _
 |x::r,a=>.next x r _ _ _ _ (h a x) (EC F st h r (st a x))
def BM(v:V3)(L:Led)(x:Int):Led:=RW L x (dZ (sA L x) v)
def aSA(c:Con):au:=[(4,G2 2 0),(6,G2 3 0),(7,G2 4 0),(22,.func (.func 345) [] [G2 5 0,.ptr c.cs])]
def aBv(c:Con)(v:V3)(L:Led)(o:ab):aw:=[Do 373 (H8 c),.mp S (led L),Do 350 [G2 0 0],Do 43 v.cs,Do 267 [.func (.func 242) [] []],.dead,o]
def aIx(c:Con)(v:V3)(L:Led)(x:Int)(l:Nat)(R:Loop)(d:R.state= .ready):
  To (El l [] [] []) f281 (.keep 7 (Io (DA O)) (aBv c v (BM v L x) (If 0 (cJ l {R with state:=.busy})))) (.code [.code (rfA f281),.beginR,.code (rfB f281)] (iI (aSA c) 23 (ii x)) (aBv c v L (If 0 (cJ l R)))):=by
 refine gV ?_;refine To.beginR (k:=6) (gg:=0) rfl rfl d ?_;have a:=FV x L;unfold BM sA;cases b:jI L x with
 |none=>
  rw[b]at a;have a:bZ (led L) [x]=none:=a;refine gV ?_;refine⟨U,a,gV ?_⟩;exact .p (jA V3.zero v) zqha11
 |some u=>
  rw[b]at a;have a:bZ (led L) [x]=X u.av:=a;refine gV ?_;refine⟨X u.av,a,gV ?_⟩;exact .p (jA u v) zqha11
def YM(c:Con)(t:Int)(v:V3)(L L':Led)(e:Int)(j:bB c.ns t=O->L'=(upL c.ns t).foldl (BM v) L/\e=0)(i:bB c.ns t=S->L'=L/\e=3)(hl:Ig (Z (nav c.ns))):
  ar 281 [G2 0 0,ii t,v.av,.func (.func 242) [] []] [Do 373 (H8 c),.mp S (led L)] (Io (ii e)) [Do 373 (H8 c),.mp S (led L')]:=by
 refine eA E f281 2 λ_=>gV ?_;refine .p (kQ c t) (gV ?_);refine Aa (λh1=>?_) (λh1=>?_)
 .have h1:bB c.ns t=false:=jF h1;obtain⟨rfl,rfl⟩:=i h1;refine gV ?_;refine⟨[],[0,1],⟨rfl,rfl⟩,⟨rfl,rfl⟩⟩
 .have h1:bB c.ns t=true:=jG h1;obtain⟨rfl,rfl⟩:=j h1;refine gV ?_;refine .pure _ [Do 3 [ii t]] (Y8 c t) (gV ?_);refine To.cutC [4,6,7,22] 6 rfl rfl rfl rfl ?_;refine To.range [5] rfl rfl (λ_ _=>by rfl) rfl (λ_ _=>rfl) rfl λl ob0 R _ a=>?_;obtain⟨m,h,d⟩:=MB l c t _ _ O hl (EC (P:=Tryz.prog) (l:=l) (λL=>kJ ob0 (aSA c) R (aBv c v L (If 0 (cJ l R)))) (BM v) (λL x=>iF (E:=Ex [] [] []) (fn:=f281) (k:=6) (n:=7) (p:=23) (gg:=0) (L':=aBv c v (BM v L x) (If 0 (cJ l {R with state:=.busy}))) (b:=O) a.params a.ready a.pend a.assign a.body a.size rfl rfl rfl rfl rfl rfl rfl λ_=>aIx c v L x l R a.ready) (upL c.ns t) L);refine⟨_,O,_,[Do 3 [m]],h,d,rfl,rfl,gV ?_⟩;refine⟨[],[0,1],⟨rfl,rfl⟩,⟨rfl,rfl⟩⟩
structure Con.sm(c:Con):Prop where
 ns:Z c.ns<=1048576
 hs:Z c.hs<=1048576
def aPn(c:Con)(b:c.sm):ar 280 [c.av] [] (Io (G2 0 0)) [Do 373 (H8 c),.mp S (led [])]:=by
 have h1:=b.ns;have a:Z (nav c.ns)=Z c.ns:=by simp
 refine eA E f280 0 λ_=>gV ?_;refine Aa (Aa (by simp only[maxLen];omega) o_) ?_;refine gV ?_;refine⟨[],[3,2],⟨rfl,rfl⟩,⟨rfl,rfl⟩⟩
def lG(f:Nat->V3)(i m:Nat):a8:=(Df i).map f++Ak m V3.zero
def GR(f:Nat->V3)(i m:Nat):Z (lG f i m)=i+m:=by simp[lG]
def GQ(f:Nat->V3)(i m:Nat):(vav (lG f i (m+1))).set i (f i).av=vav (lG f (i+1) m):=by
 have h1:Z (Df i)=i:=by simp
 unfold lG vav;rw[List.range_succ,Bh,Bh,Bh,List.replicate_succ,Bg];rw[Hb _ _ s_];simp
def GS(f:Nat->V3)(n:Nat):lG f n 0=(Df n).map f:=by simp[lG]
def A9(f:Nat->V3)(n:Nat):vav (lG f 0 n)=Ak n (aa.agg [ii 0,ii 0,ii 0]):=by simp[lG,vav,V3.av,V3.zero,V3.cs]
abbrev aGL(c:Con)(L:Led):aw:=[Do 373 (H8 c),.mp S (led L)]
def mK(n:Nat)(L:Led):a8:=(Df n).map λi:Nat=>sA L (i:Int)
def aIT(c:Con)(L:Led)(g:Z c.ns<=1048576)(K:Int)(j:K=(Z c.ns:Nat)):∀(m i:Nat),i+m=Z c.ns->
  To E f282 (.full 2 (Io (CA 3 (vav (mK (Z c.ns) L)) J0)) (aGL c L)) (BB f282 [(0,G2 0 0),(3,.row 2 0),(15,GE Is K),(16,GE Is i)] [Do 373 (H8 c),.mp S (led L),.row 0 3 43 (vav (lG (λi:Nat=>sA L (i:Int)) i m))]):=by
 intro m;induction m with
 |zero=>
  intro i b;have e:lG (λi:Nat=>sA L (i:Int)) i 0=mK (Z c.ns) L:=by rw[GS];unfold mK;rw[<-b];rfl
  rw[e];refine gV ?_;refine aF λh=>gV ?_;refine⟨[2],[0,1],⟨rfl,rfl⟩,⟨rfl,rfl⟩⟩
 |succ m f=>
  intro i b;have hl:Z (vav (lG (λi:Nat=>sA L (i:Int)) i (m+1)))=i+(m+1):=by rw[Cb,GR]
  have hs:=GQ (λi:Nat=>sA L (i:Int)) i m;have a:=FV (i:Int) L;have next:=f (i+1) o_
  rw[<-hs]at next
  unfold sA at next
  refine gV ?_;refine aT λh=>?_;cases d:jI L (i:Int)with
  |none=>
   rw[d]at a next
   have a:bZ (led L) [(i:Int)]=none:=a;refine gV ?_;refine⟨U,a,?_⟩;exact zqha1
  |some u=>
   rw[d]at a next
   have a:bZ (led L) [(i:Int)]=X u.av:=a;refine gV ?_;refine⟨X u.av,a,?_⟩;exact zqha1
def aQO(c:Con)(L:Led)(b:c.sm):ar 282 [G2 0 0] (aGL c L) (Io (CA 3 (vav (mK (Z c.ns) L)) J0)) (aGL c L):=by
 have h1:=b.ns;have a:Z (nav c.ns)=Z c.ns:=by simp
 refine eA E f282 2 λ_=>gV ?_;refine aN (gV ?_);refine⟨Z c.ns,by rw[a],gV ?_⟩;refine⟨⟨rfl,by omega,by simp only[maxLen];omega⟩,?_⟩;refine gV ?_;have next:=aIT c L h1 (Z (Ak (Z c.ns) (aa.agg [ii 0,ii 0,ii 0])):Nat) (by rw[Ga]) (Z c.ns) 0 o_
 rw[A9]at next
 exact To.head [0,3,15,16] next
def dem(g:Gan):V3:=UQ g.need g.pods
def X1(g:Gan):bj 270 [g.av] ((dem g).av):=by refine c_ f270 λ_=>?_;have a:=aJd g.need g.pods;exact zW
def xC(c:Con)(L:Led)(x:Rn):Led:=if bB c.ns x.g.ten=O then(upL c.ns x.g.ten).foldl (BM (dem x.g)) L else L
def ofL(c:Con)(l:a7):a8:=mK (Z c.ns) (l.foldl (xC c) [])
def aDE(c:Con)(t:Int)(v:V3)(L:Led)(a:c.sm):ar 281 [G2 0 0,ii t,v.av,.func (.func 242) [] []] (aGL c L) (Io (ii (if bB c.ns t=O then 0 else 3))) (aGL c (if bB c.ns t=O then(upL c.ns t).foldl (BM v) L else L)):=
 YM c t v L _ _ (λh=>⟨bu h,bu h⟩) (λh=>⟨bt (by rw[h];decide),bt (by rw[h];decide)⟩) (by have:=a.ns;simp only[Cb];omega)
def aKP(c:Con)(e:c.sm)(l:a7)(hl:Z l<=1048576)(R:a8):∀(m i:Nat) (L:Led),i+m=Z l->mK (Z c.ns) ((l.drop i).foldl (xC c) L)=R->
  BC E f225 (CA 3 (vav R) J0) [(5,G2 1 0),(10,CA 14 (rav l) J0),(11,GE Is (Z (rav l):Nat)),(12,GE Is i)] [Do 30 c.cs,Do 373 [CA 11 (nav c.ns) J0,CA 6 (hav c.hs) J0,ii c.half,ii c.age,.mref 2],.mp S (led L)]:=by
 have d:Z (rav l)=Z l:=by simp
 intro m;induction m with
 |zero=>
  intro i L j a;rw[Ae o_]at a;subst a;refine gV ?_;refine aF λh=>gV ?_;exact .eff [] [1,2] _ _ rfl (aQO c L e) zW
 |succ m f=>
  intro i L j a;have b:i<Z l:=o_;rw[Ac b,Ao]at a;generalize k:l[i]=x at a;have get:(rav l)[i]? =X x.av:=(cB b).trans (by rw[k]);have next:=f (i+1) (xC c L x) o_ a
  refine gV ?_;refine aT λh=>gV ?_;refine⟨i,rfl,gV ?_⟩;refine⟨_,get,gV ?_⟩;refine .p (X1 x.g) (gV ?_);refine .sole rfl (.eff [] [1,2] _ _ rfl (aDE c x.g.ten (dem x.g) L e) ?_);exact zW
def RF(c:Con)(a:c.sm)(l:a7)(hl:Z l<=1048576):bj 225 [c.av,CA 14 (rav l) J0] (CA 3 (vav (ofL c l)) J0):=by refine c_ f225 λ_=>gV ?_;refine .pure _ [_,_] (aPn c a) (gV ?_);exact To.cut [5,10,11,12] 3 rfl rfl rfl rfl (aKP c a l hl _ (Z l) 0 [] o_ rfl)
def lvF(ns:bc):Nat->Nat->ax
 |0,_=>[]
 |m+1,i=>if bB ns (i:Int)=O then(i:Int)::lvF ns m (i+1)else lvF ns m (i+1)
def mE(ns:bc):ax:=lvF ns (Z ns) 0
def DQ(ns:bc):∀(m i:Nat),Z (lvF ns m i)<=m
 |0,_=>by simp[lvF]
 |m+1,i=>by
  have:=DQ ns m (i+1);unfold lvF;split
  .simp;omega
  .omega
def aGE(c:Con)(n:c.sm)(R:ax):∀(m i:Nat) (a:ax),i+m=Z c.ns->Z a<=i->a++lvF c.ns m i=R->
  BC (Eo [3] []) f362 (CA 1 (iv R) J0) [(1,G2 0 0),(3,CA 1 (iv a) (.own 1 0)),(7,GE Is (Z (nav c.ns):Nat)),(8,GE Is i)] [Do 30 c.cs,Fr 0 1 3]:=by
 have f:Z (nav c.ns)=Z c.ns:=by simp
 have h1:=n.ns;intro m;induction m with
 |zero=>
  intro i a k l b;unfold lvF at b;rw[Ap]at b;subst b;exact tA
 |succ m g=>
  intro i a k l b;have j:Z (iv a)=Z a:=by simp
  unfold lvF at b;refine gV ?_;refine aT λh=>gV ?_;refine .p (kQ c i) (gV ?_);refine Aa (λd=>?_) (λd=>?_)
  .have d:bB c.ns (i:Int)=true:=d;rw[bu d]at b;have next:=g (i+1) (a++[(i:Int)]) o_ q_ (by rw[Ag];exact b)
   have e:iv (a++[(i:Int)])=iv a++[ii i]:=by simp
   rw[e]at next
   exact zW
  .have d:bB c.ns (i:Int)=false:=d;rw[bt (by rw[d];decide)]at b;have next:=g (i+1) a o_ o_ b
   exact zW
def aPu(c:Con)(b:c.sm):bj 362 [c.av] (CA 1 (iv (mE c.ns)) J0):=by refine gA (Eo [3] []) f362 λ_=>?_;have a:=aGE c b _ (Z c.ns) 0 [] o_ s_ rfl;exact zW
def aD5(ns:bc):∀(f:Nat) (n x:Int),x∈upF ns f n->x<=n
 |0,n,x,h=>by simp[upF]at h
 |f+1,n,x,h=>by
  unfold upF at h;split at h
  .split at h
   .split at h
    .simp at h;omega
    .rename_i h3;rcases Ba.1 h with rfl|h
     .omega
     .have:=aD5 ns f _ x h;have:¬ n<=(ns[n.toNat]).p:=λa=>h3 (bq a);omega
   .simp at h
  .simp at h
def L8(ns:bc):∀(f:Nat) (n:Int),(upF ns f n).Pairwise λa b=>b<a
 |0,n=>by simp[upF]
 |f+1,n=>by
  unfold upF;split
  .split
   .split
    .simp
    .rename_i h3;refine Bp.2 ⟨λx c=>?_,L8 ns f _⟩;have:=aD5 ns f _ x c;have:¬ n<=(ns[n.toNat]).p:=λd=>h3 (bq d);omega
   .simp
  .simp
def wF(ns:bc)(n t:Int):ax:=if n∈upL ns t then[t]else[]
def bE(ns:bc)(n:Int):ax:=(mE ns).flatMap (wF ns n)
def aJq(c:Con)(n:Int)(lv:ax)(i K:Int):au:=[(1,.ptr c.cs),(2,.ptr [ii n]),(3,G2 1 0),(5,G2 2 0),(8,CA 1 (iv lv) J0),(9,GE Is K),(10,GE Is i),(16,.func (.func 345) [] [G2 3 0,.ptr c.cs])]
def sV(l:Nat)(t:Int)(G:Nat)(I:BInv)(o:ab):aw:=[If G I,Do 358 [.func (.yield l) [] []],Do 3 [ii t],.dead,o]
abbrev busy(R:Loop):Loop:={R with state:=.busy}
def aJn(c:Con)(n t x i K:Int)(lv:ax)(l a G:Nat)(I:BInv)(R:Loop)(b:R.state= .ready)(d:x≠n):
  To (El a [] [] []) f361 (.keep 5 (Io (DA O)) (sV l t G I (If 0 (cJ a (busy R))))) (.code [.code (rfA f361),.beginR,.code (rfB f361)] (iI (aJq c n lv i K) 17 (ii x)) (sV l t G I (If 0 (cJ a R)))):=by
 refine gV ?_;refine To.beginR (k:=4) (gg:=0) rfl rfl b ?_;exact zW
def aOb(c:Con)(n t i K:Int)(lv:ax)(l a G:Nat)(I b:BInv)(R:Loop)(d:R.state= .ready)(e:G=0\/G=1)(f:bN Tryz.prog (.yield l) [ii t] [If 0 I] (Io (DA O)) [If 1 b]):
  To (El a [] [] []) f361 (.keep 5 (Io (DA O)) (sV l t (G+1) b (If 0 (cJ a (busy R))))) (.code [.code (rfA f361),.beginR,.code (rfB f361)] (iI (aJq c n lv i K) 17 (ii n)) (sV l t G I (If 0 (cJ a R)))):=by
 rcases e with rfl|rfl
 .exact zqha3
 .exact zqha3
def aJm(c:Con)(n t i K:Int)(lv:ax)(l a G:Nat)(I b:BInv)(R:Loop)(d:R.state= .ready)(e:G=0\/G=1)(f:bN Tryz.prog (.yield l) [ii t] [If 0 I] (Io (DA S)) [If 1 b]):
  To (El a [] [] []) f361 (.keep 5 (Io (DA S)) (sV l t (G+1) b (If 0 (cJ a (busy R))))) (.code [.code (rfA f361),.beginR,.code (rfB f361)] (iI (aJq c n lv i K) 17 (ii n)) (sV l t G I (If 0 (cJ a R)))):=by
 rcases e with rfl|rfl
 .exact zqha3
 .exact zqha3
def AJ{P:Program}{l:Nat}{J:BInv}{n:Int}(hs:∀x,x≠n->bN P (.yield l) [ii x] [If 0 J] (Io (DA O)) [If 1 J]):∀(xs:ax),n∉xs->Ylds P l xs J J O
 |[],_=>.nil _
 |x::r,h=>.next x r _ _ _ _ (hs x λe=>h (by simp[e])) (AJ hs r λe=>h (by simp[e]))
def EB{P:Program}{l:Nat}{J J1:BInv}{n:Int}{b:Bool}(hs:∀x,x≠n->bN P (.yield l) [ii x] [If 0 J] (Io (DA O)) [If 1 J])(d:bN P (.yield l) [ii n] [If 0 J] (Io (DA b)) [If 1 J1])
  (h1:b=O->∀x,x≠n->bN P (.yield l) [ii x] [If 0 J1] (Io (DA O)) [If 1 J1]):∀(xs:ax),xs.Pairwise (λa b=>b<a)->n∈xs->Ylds P l xs J J1 b
 |[],_,h=>by simp at h
 |x::r,hp,h=>by
  rw[Bp]at hp;by_cases c:x=n
  .subst c;cases b with
   |true=>exact .next x r _ _ _ _ d (AJ (h1 rfl) r λe=>by have:=hp.1 x e;omega)
   |false=>exact .stop x r _ _ d
  .exact .next x r _ _ _ _ (hs x c) (EB hs d h1 r hp.2 ((Ba.1 h).resolve_left λe=>c e.symm))
def tnJ(c:Con)(n t i K:Int)(lv:ax)(l b:Nat)(ob0:Hs)(R a:Loop)(G:Nat)(I:BInv):BInv:=kJ ob0 (aJq c n lv i K) R (sV l t G I (If 0 (cJ b a)))
def yH{e f:Code}(c:Con)(n t x i K:Int)(lv:ax)(l d G:Nat)(ob0:Hs)(I:BInv)(R:Loop)(a:RecOK f361 17 e f R)(j:rfA f361=e)(h:rfB f361=f)(g:x≠n):
  bN Tryz.prog (.yield d) [ii x] [If 0 (tnJ c n t i K lv l d ob0 R R G I)] (Io (DA O)) [If 1 (tnJ c n t i K lv l d ob0 R R G I)]:=by
 subst j h;exact iF (E:=Ex [] [] []) (fn:=f361) (k:=4) (n:=5) (p:=17) (gg:=0) (L':=sV l t G I (If 0 (cJ d (busy R)))) (b:=O) a.params a.ready a.pend a.assign a.body a.size rfl rfl rfl rfl rfl rfl rfl λ_=>aJn c n t x i K lv l d G I R a.ready g
def ZJ{g j:Code}(c:Con)(n t i K:Int)(lv:ax)(l d G:Nat)(ob0:Hs)(I e:BInv)(R:Loop)(b:Bool)(a:RecOK f361 17 g j R)(o:rfA f361=g)(m:rfB f361=j)(h:G=0\/G=1)(f:bN Tryz.prog (.yield l) [ii t] [If 0 I] (Io (DA b)) [If 1 e]):
  bN Tryz.prog (.yield d) [ii n] [If 0 (tnJ c n t i K lv l d ob0 R R G I)] (Io (DA b)) [If 1 (tnJ c n t i K lv l d ob0 R (mU R b) (G+1) e)]:=by
 subst o m;cases b with
 |true=>exact iF (E:=Ex [] [] []) (fn:=f361) (k:=4) (n:=5) (p:=17) (gg:=0) (L':=sV l t (G+1) e (.bun 0 (cJ d (busy R)))) (b:=O) a.params a.ready a.pend a.assign a.body a.size rfl rfl rfl rfl rfl rfl rfl λ_=>aOb c n t i K lv l d G I e R a.ready h f
 |false=>exact iF (E:=Ex [] [] []) (fn:=f361) (k:=4) (n:=5) (p:=17) (gg:=0) (L':=sV l t (G+1) e (.bun 0 (cJ d (busy R)))) (b:=S) a.params a.ready a.pend a.assign a.body a.size rfl rfl rfl rfl rfl rfl rfl λ_=>aJm c n t i K lv l d G I e R a.ready h f
def aEl(c:Con)(Y:c.sm)(n:Int)(l:Nat)(lv:ax)(o:BInv)(b:Bool)(Q:Z lv<=1048576):∀(m i:Nat) (G:Nat) (I:BInv),i+m=Z lv->(G=0\/G=1)->Ylds Tryz.prog l ((lv.drop i).flatMap (wF c.ns n)) I o b->
  ∃g,To E f361 (.full 1 (Io (GT [])) [If g o]) (BB f361 [(1,.ptr c.cs),(2,.ptr [ii n]),(3,G2 1 0),(8,CA 1 (iv lv) J0),(9,GE Is (Z (iv lv):Nat)),(10,GE Is i)] [If G I,Do 358 [.func (.yield l) [] []]]):=by
 have P:Z (iv lv)=Z lv:=by simp
 have H:(Z (nav c.ns):Int)<=9223372036854775807:=by have:=Y.ns;simp only[Cb];omega
 intro m;induction m with
 |zero=>
  intro i G I Be r d;rw[Ae o_]at d;have d:Ylds Tryz.prog l [] I o b:=d;cases d;rcases r with rfl|rfl
  .refine ⟨0,gV ?_⟩;exact zW
  .refine ⟨1,gV ?_⟩;exact zW
 |succ m As=>
  intro i G I Be r d;have z:i<Z lv:=o_;rw[Ac z,Lp]at d;generalize k:lv[i]=t at d;have get:(iv lv)[i]? =X (ii t):=(cD z).trans (by rw[k])
  have key:∃(g u:Nat) (C:BInv) (p:Bool),(p=O->(u=G\/u=G+1)/\To E f361 (.full 1 (Io (GT [])) [If g o]) (BB f361 [(1,.ptr c.cs),(2,.ptr [ii n]),(3,G2 1 0),(8,CA 1 (iv lv) J0),(9,GE Is (Z (iv lv):Nat)),(10,GE Is ((i:Int)+1))] [If (if u=0 then 0 else 1) C,Do 358 [.func (.yield l) [] []]]))/\(p=S->u=G+1/\g=1/\C=o)/\
    ∀(e:Nat) (ob0:Hs) (R:Loop) (w B:Code),RecOK f361 17 w B R->rfA f361=w->rfB f361=B->Ylds Tryz.prog e (upL c.ns t) (tnJ c n t i (Z (iv lv):Nat) lv l e ob0 R R G I) (tnJ c n t i (Z (iv lv):Nat) lv l e ob0 R (mU R p) u C) p:=by
   unfold wF at d;have D:(upL c.ns t).Pairwise λa b=>b<a:=L8 _ _ _;by_cases y:n∈upL c.ns t
   .rw [bu y]at d;have d:Ylds Tryz.prog l (t::(lv.drop (i+1)).flatMap (wF c.ns n)) I o b:=d;cases d with
    |stop _ _ _ _ v=>
     refine⟨1,G+1,o,S,(λh=>by cases h),λ_=>⟨rfl,rfl,rfl⟩,λe ob0 R w B j s q=>?_⟩;exact EB (λx k=>yH c n t x i _ lv l e G ob0 I R j s q k) (ZJ c n t i _ lv l e G ob0 I o R S j s q r v) (λh=>by cases h) _ D y
    |next _ _ _ F _ _ v T=>
     obtain⟨g,f⟩:=As (i+1) 1 F o_ (.inr rfl) T;refine⟨g,G+1,F,O,λ_=>⟨.inr rfl,?_⟩,(λh=>by cases h),λe ob0 R w B j s q=>?_⟩
     .rw [bt o_];exact f
     .exact EB (λx k=>yH c n t x i _ lv l e G ob0 I R j s q k) (ZJ c n t i _ lv l e G ob0 I F R O j s q r v) (λ_ x k=>yH c n t x i _ lv l e (G+1) ob0 F R j s q k) _ D y
   .rw [bt y]at d;have d:Ylds Tryz.prog l ((lv.drop (i+1)).flatMap (wF c.ns n)) I o b:=d;obtain⟨g,f⟩:=As (i+1) G I o_ r d;refine⟨g,G,I,O,λ_=>⟨.inl rfl,?_⟩,(λh=>by cases h),λe ob0 R w B j s q=>?_⟩
    .rcases r with rfl|rfl
     .exact f
     .exact f
    .exact AJ (λx k=>yH c n t x i _ lv l e G ob0 I R j s q k) _ y
  obtain⟨g,u,C,p,K,L,N⟩:=key;refine⟨g,gV ?_⟩;refine aT λh=>gV ?_;refine⟨i,rfl,gV ?_⟩;refine⟨_,get,gV ?_⟩;refine .pure _ [Do 3 [ii t]] (Y8 c t) (gV ?_);refine To.cutC [1,2,3,5,8,9,10,16] 4 rfl rfl rfl rfl ?_;refine To.range [3] rfl rfl (λ_ _=>by rfl) rfl (λ_ _=>rfl) rfl λe ob0 R _ j=>?_;obtain⟨V,At,J⟩:=MB e c t _ _ p H (N e ob0 R _ _ j rfl rfl);refine⟨sV l t u C (If 0 (cJ e (mU R p))),p,_,[Do 3 [V]],At,J,rfl,rfl,?_⟩;cases p with
  |false=>
   obtain⟨Am,An,W⟩:=L rfl;subst Am An W;rcases r with rfl|rfl
   all_goals (refine gV ?_;refine⟨[],[0],⟨rfl,rfl⟩,⟨rfl,rfl⟩⟩)
  |true=>
   obtain⟨M,f⟩:=K rfl;refine gV ?_;refine aJ (gV ?_);refine To.part [1,2,3,8,9,10] [0,1] rfl rfl rfl ?_;rcases r with rfl|rfl<;>rcases M with rfl|rfl<;>exact f
def aEk(c:Con)(e:c.sm)(n:Int)(l:Nat)(I i:BInv)(b:Bool)(k:Ylds Tryz.prog l (bE c.ns n) I i b):∃d,ar 361 [.func (.yield l) [] [],.ptr c.cs,.ptr [ii n]] [If 0 I] (Io (GT [])) [If d i]:=by have a:Z (mE c.ns)<=1048576:=Cl (DQ _ _ _) e.ns;obtain⟨d,h⟩:=aEl c e n l (mE c.ns) i b a (Z (mE c.ns)) 0 0 I o_ (.inl rfl) k;refine⟨d,?_⟩;refine eA E f361 1 λ_=>?_;have j:=aPu c e;exact zW
def EN(c:Con)(n:Int):bj 339 [c.av,ii n] (.func (.func 361) [] [.ptr c.cs,.ptr [ii n]]):=by exact c_ f339 λ_=>zW
def OW{P:Program}{l:Nat}(F:ax->BInv)(h:∀(a:ax) x,Z a<1048576->bN P (.yield l) [ii x] [If 0 (F a)] (Io (DA O)) [If 1 (F (a++[x]))]):∀(xs a:ax),Z a+Z xs<=1048576->Ylds P l xs (F a) (F (a++xs)) O
 |[],a,_=>by rw[Ap];exact .nil _
 |x::r,a,hl=>by have:=OW F h r (a++[x]) (by simp at hl⊢;omega);rw[Ag]at this;exact .next x r _ _ _ _ (h a x (by simp at hl;omega)) this
abbrev aBV(c:Con)(n:Int):aa:=.func (.func 361) [] [.ptr c.cs,.ptr [ii n]]
def aQL(f:aa):au:=[(2,G2 0 0),(6,f)]
def wR(a:ax)(g:Nat)(o:ab):aw:=[Do 83 [CA 1 (iv a) (.own 1 g)],Fr g 1 3,o]
def aDL(f:aa)(a:ax)(x:Int)(hl:Z a<1048576)(l:Nat)(R:Loop)(c:R.state= .ready):
  To (El l [] [] []) f352 (.keep 3 (Io (DA O)) (wR (a++[x]) 1 (If 0 (cJ l (busy R))))) (.code [.code (rfA f352),.beginR,.code (rfB f352)] (iI (aQL f) 7 (ii x)) (wR a 0 (If 0 (cJ l R)))):=by
 exact zqha4
def aDK(f:aa)(a:ax)(x:Int)(hl:Z a<1048576)(l:Nat)(R:Loop)(c:R.state= .ready):
  To (El l [] [] []) f352 (.keep 3 (Io (DA O)) (wR (a++[x]) 2 (If 0 (cJ l (busy R))))) (.code [.code (rfA f352),.beginR,.code (rfB f352)] (iI (aQL f) 7 (ii x)) (wR a 1 (If 0 (cJ l R)))):=by
 exact zqha4
def gOf:ax->Nat
 |[]=>0
 |_::_=>1
def aHk(a:ax)(x:Int):gOf (a++[x])=1:=by cases a<;>rfl
def apJ(f:aa)(ob0:Hs)(R:Loop)(l:Nat)(a:ax):BInv:=kJ ob0 (aQL f) R (wR a (gOf a) (If 0 (cJ l R)))
def aIQ{e g:Code}(f:aa)(h:∀og,cvtV 3 [0,1,2] og 5 f=f)(ob0:Hs)(l:Nat)(R:Loop)(d:ax)(x:Int)(hl:Z d<1048576)(h1:∀hs∈ob0,Z hs=1)(m:Z ob0=0)(c:RecOK f352 7 e g R)(j:rfA f352=e)(i:rfB f352=g):
  bN Tryz.prog (.yield l) [ii x] [If 0 (apJ f ob0 R l d)] (Io (DA O)) [If 1 (apJ f ob0 R l (d++[x]))]:=by
 subst j i;unfold apJ;rw[aHk];cases d with
 |nil=>exact iF (E:=Ex [] [] []) (fn:=f352) (k:=2) (n:=3) (p:=7) (gg:=0) (L':=wR ([]++[x]) 1 (.bun 0 (cJ l (busy R)))) (b:=O) c.params c.ready c.pend c.assign c.body c.size rfl rfl rfl rfl rfl rfl rfl λ_=>aDL f [] x hl l R c.ready
 |cons a r=>
  have:=iF (E:=Ex [] [] []) (fn:=f352) (ob0:=ob0) (k:=2) (n:=3) (p:=7) (gg:=0) (L:=wR (a::r) 1 (If 0 (cJ l R))) (L':=wR ((a::r)++[x]) 2 (If 0 (cJ l (busy R)))) (b:=O) c.params c.ready c.pend c.assign c.body c.size rfl rfl rfl rfl rfl rfl rfl λ_=>aDK f (a::r) x hl l R c.ready;refine this.bunTo (aIt (n:=3) rfl h1 o_ rfl ?_ rfl);show[(2,aa.ref 0 0),(6,cvtV 3 [0,1,2] _ 5 f)]=_;rw[h];rfl
def aQK(c:Con)(i:c.sm)(n:Int)(e:Z (bE c.ns n)<=1048576):bj 352 [.nilslice,aBV c n] (CA 1 (iv (bE c.ns n)) J0):=by refine c_ f352 λ_=>gV ?_;refine To.cutC [2,6] 1 rfl rfl rfl rfl ?_;refine To.mapO (aK0 1) (RO 1) ?_;refine To.beginC 0 0 3 rfl rfl ?_;refine To.range [] rfl rfl (λ_ _=>by rfl) rfl (λ_ _=>rfl) rfl λl ob0 R hst h=>?_;obtain⟨d,a⟩:=aEk c i n l _ _ O (OW (P:=Tryz.prog) (l:=l) (apJ (aBV c n) ob0 R l) (λb x hl=>aIQ (aBV c n) (λ_=>rfl) ob0 l R b x hl (hst.2 rfl) hst.1 h rfl rfl) (bE c.ns n) [] (by simpa using e));rw[Bi]at a;refine⟨_,O,_,[],d,a,rfl,rfl,?_⟩;exact zW
def YF(c:Con)(b:c.sm)(n:Int)(d:Z (bE c.ns n)<=1048576):bj 320 [aBV c n] (CA 1 (iv (bE c.ns n)) J0):=by refine c_ f320 λ_=>?_;have a:=aQK c b n d;exact zW
def aLH(ns:bc)(n t:Int):Z (wF ns n t)<=1:=by unfold wF;split<;>simp
def mM(c:Con)(a:c.sm)(n:Int):Z (bE c.ns n)<=1048576:=by
 have h:∀(l:ax),Z (l.flatMap (wF c.ns n))<=Z l:=by
  intro l;induction l with
  |nil=>simp
  |cons x r b=>
   have:=aLH c.ns n x;simp only[Lp,Ah,Al];omega
 exact Cl (h _) (Cl (DQ _ _ _) a.ns)
def UB(c:Con)(b:c.sm)(n:Int):bj 363 [c.av,ii n] (CA 1 (iv (bE c.ns n)) J0):=by refine c_ f363 λ_=>?_;have a:=EN c n;have d:=YF c b n (mM c b n);exact zW
def atV(l:a8)(n:Int):V3:=if decide (n<0)=O then V3.zero else(l[n.toNat]?).getD V3.zero
def aM7(l:a8)(n:Int)(r:V3)(a:atV l n=r):bj 326 [CA 3 (vav l) J0,ii n] r.av:=by
 have b:Z (vav l)=Z l:=by simp
 unfold atV at a;by_cases h1:n<0
 .rw [bu (bq h1)]at a;subst a;exact zqha13
 .rw [bt (by rw[bp h1];decide)]at a;by_cases c:n.toNat<Z l
  .rw [Ab c]at a;have a:l[n.toNat]=r:=a;have get:(vav l)[n.toNat]? =X r.av:=(kN c).trans (by rw[a]);have d:n=(n.toNat:Int):=o_;exact zqha13
  .rw [List.getElem?_eq_none o_]at a;have a:V3.zero=r:=a;subst a;exact zqha13
def HL(l:a8)(n:Int):bj 326 [CA 3 (vav l) J0,ii n] ((atV l n).av):=aM7 l n _ rfl
def aBK(a b:V3)(r:Bool)(c:bY a b=r):bj 266 [a.av,b.av] (DA r):=by
 unfold bY at c;refine c_ f266 λ_=>gV ?_
 repeat' first
  |(refine gW hE ?_;conv=>whnf)
  |exact c
  |refine aY ?_
  |refine aN ?_
  |refine Aa (λh=>?_) (λh=>?_)
  |refine aJ ?_
  |refine Aj _ (Aa rfl ?_)
  |refine Aa d_ ?_
 all_goals (rw[<-c];simp_all)
def mO(a b:V3):bj 266 [a.av,b.av] (DA (bY a b)):=aBK a b _ rfl
def xZ(a b:V3):bj 243 [a.av,b.av] (DA (!bY a b)):=by refine c_ f243 λ_=>?_;have c:=mO a b;exact zW
def smS(l:a8)(v:V3)(t:Int):V3:=dZ v (atV l t)
def iY(ns:bc)(n:Int)(l:a8):V3:=(bE ns n).foldl (smS l) V3.zero
def aQ8(f:aa):au:=[(5,G2 1 0),(6,G2 2 0),(7,G2 3 0),(11,f)]
def ZV(c:Con)(l:a8)(v:V3)(o:ab):aw:=[Do 30 c.cs,Do 206 [CA 3 (vav l) J0],Do 43 V3.zero.cs,Do 43 v.cs,o]
def aEE(c:Con)(n:Int)(l:a8)(v:V3)(x:Int)(k:Nat)(R:Loop)(d:R.state= .ready):
  To (El k [] [] []) f300 (.keep 5 (Io (DA O)) (ZV c l (smS l v x) (If 0 (cJ k (busy R))))) (.code [.code (rfA f300),.beginR,.code (rfB f300)] (iI (aQ8 (aBV c n)) 12 (ii x)) (ZV c l v (If 0 (cJ k R)))):=by
 refine gV ?_;refine To.beginR (k:=4) (gg:=0) rfl rfl d ?_;have b:=HL l x;have a:=jA v (atV l x);exact zW
def aEo(c:Con)(h:c.sm)(n:Int)(l:a8):bj 300 [c.av,ii n,CA 3 (vav l) J0] ((iY c.ns n l).av):=by refine c_ f300 λ_=>gV ?_;refine .p (EN c n) (gV ?_);refine To.cutC [5,6,7,11] 4 rfl rfl rfl rfl ?_;refine To.range [] rfl rfl (λ_ _=>by rfl) rfl (λ_ _=>rfl) rfl λk ob0 R hst a=>?_;obtain⟨e,d⟩:=aEk c h n k _ _ O (EC (P:=Tryz.prog) (l:=k) (λv=>kJ ob0 (aQ8 (aBV c n)) R (ZV c l v (If 0 (cJ k R)))) (smS l) (λv x=>iF (E:=Ex [] [] []) (fn:=f300) (k:=4) (n:=5) (p:=12) (gg:=0) (L':=ZV c l (smS l v x) (If 0 (cJ k (busy R)))) (b:=O) a.params a.ready a.pend a.assign a.body a.size rfl rfl rfl rfl rfl rfl rfl λ_=>aEE c n l v x k R a.ready) (bE c.ns n) V3.zero);refine⟨_,O,_,[],e,d,rfl,rfl,?_⟩;exact zW
def Con.ok(c:Con)(n:Int):Prop:=0<=n/\n.toNat<Z c.ns
def NL(ns:bc):∀(m i:Nat) (x:Int),x∈lvF ns m i->(i:Int)<=x/\x<i+m
 |0,_,_,h=>by simp[lvF]at h
 |m+1,i,x,h=>by
  have a:=NL ns m (i+1) x;unfold lvF at h;split at h
  .rcases Ba.1 h with rfl|h
   .omega
   .have:=a h;omega
  .have:=a h;omega
def iW(c:Con)(n x:Int)(h:x∈bE c.ns n):c.ok x:=by
 unfold bE at h;obtain⟨t,h1,a⟩:=List.mem_flatMap.1 h;have:x=t:=by
  unfold wF at a;split at a
  .simpa using a
  .simp at a
 subst this;have:=NL c.ns (Z c.ns) 0 x h1;exact⟨by omega,by omega⟩
def MA(c:Con):∀(f:Nat) (n x:Int),x∈upF c.ns f n->c.ok x
 |0,_,_,h=>by simp[upF]at h
 |f+1,n,x,h=>by
  have b:=λp=>MA c f p x;unfold upF at h;split at h
  .rename_i h1;split at h
   .rename_i a;split at h
    .simp at h;subst h;exact⟨bn h1,a⟩
    .rcases Ba.1 h with rfl|h
     .exact ⟨bn h1,a⟩
     .exact b _ h
   .simp at h
  .simp at h
def cH(ns:bc)(n:Int):Nod:=(ns[n.toNat]?).getD ⟨0,0,V3.zero,V3.zero,V3.zero⟩
def vF{c:Con}{n:Int}(h:c.ok n):(nav c.ns)[n.toNat]? =X (cH c.ns n).av:=by unfold cH;rw[Ab h.2];exact fP h.2
def aCB(v:V3):V3:=⟨max v.a 0,max v.b 0,max v.c 0⟩
def zD(ns:bc)(a:a8)(t:Int)(v:V3)(s:Int):V3:=if decide (s=t)=O then v else dZ v (aCB (xY (xY (cH ns s).n (cH ns s).l) (atV a s)))
def zG(ns:bc)(a:a8)(n t:Int):V3:=(bE ns n).foldl (zD ns a t) V3.zero
def aCR(c:Con)(a:a8)(t:Int)(bl:ax)(y:Z bl<=1048576)(r:∀x∈bl,c.ok x)(R:V3):∀(m i:Nat) (v:V3),i+m=Z bl->(bl.drop i).foldl (zD c.ns a t) v=R->
  BC E f344 R.av [(1,CA 3 (vav a) J0),(3,ii t),(4,G2 0 0),(8,G2 1 0),(9,G2 2 0),(18,CA 1 (iv bl) J0),(19,GE Is (Z (iv bl):Nat)),(20,GE Is i)] [Do 30 c.cs,Do 43 V3.zero.cs,Do 43 v.cs]:=by
 have j:Z (iv bl)=Z bl:=by simp
 intro m;induction m with
 |zero=>
  intro i v q f;rw[Ae o_]at f;subst f;exact tA
 |succ m w=>
  intro i v q f;have d:i<Z bl:=o_;rw[Ac d,Ao]at f;have b:=r _ (Av d);generalize o:bl[i]=s at f b;have get:(iv bl)[i]? =X (ii s):=(cD d).trans (by rw[o]);have g:=vF b;have p:s=(s.toNat:Int):=by have:=b.1;omega
  have next:=w (i+1) _ o_ f
  unfold zD at next
  generalize cH c.ns s=x at g next
  refine gV ?_;refine aT λh=>gV ?_;refine⟨i,rfl,gV ?_⟩;refine⟨_,get,gV ?_⟩;refine Aa (λe=>?_) (λe=>?_)
  .have e:decide (s=t)=true:=e;rw[bu e]at next
   exact zW
  .have e:decide (s=t)=false:=e;rw[bt (by rw[e];decide)]at next
   refine gV ?_;refine⟨s.toNat,p,gV ?_⟩;refine⟨_,g,gV ?_⟩;refine .p (L4 x.n x.l) (gV ?_);refine .p (HL a s) (gV ?_);refine .p (L4 (xY x.n x.l) (atV a s)) ?_;generalize xY (xY x.n x.l) (atV a s)=u at next⊢
   refine gV ?_;refine gV ?_;refine aY (gV ?_);refine⟨by decide,gV ?_⟩;refine⟨by decide,gV ?_⟩;refine aJ (gV ?_);refine gV ?_;refine aY (gV ?_);refine⟨by decide,gV ?_⟩;refine⟨by decide,gV ?_⟩;refine aJ (gV ?_);refine gV ?_;refine aY (gV ?_);refine⟨by decide,gV ?_⟩;refine⟨by decide,gV ?_⟩;refine aJ (gV ?_);refine gV ?_;have k:=jA v (aCB u);exact zW
def aLo(c:Con)(d:c.sm)(a:a8)(n t:Int):bj 344 [c.av,CA 3 (vav a) J0,ii n,ii t] ((zG c.ns a n t).av):=by refine c_ f344 λ_=>?_;have b:=UB c d n;have e:=aCR c a t _ (mM c d n) (λx h=>iW c n x h) _ (Z (bE c.ns n)) 0 V3.zero o_ rfl;exact zW
def mB(ns:bc):a8:=(Df (Z ns)).map λi:Nat=>(cH ns (i:Int)).n
def aGp(c:Con)(f:c.sm)(n:Int)(K:Int)(k:K=(Z (nav c.ns):Nat)):∀(m i:Nat),i+m=Z c.ns->
  To E f241 (.pure (Io (iY c.ns n (mB c.ns)).av)) (BB f241 [(1,ii n),(2,G2 0 0),(4,G2 1 0),(5,.row 2 0),(13,CA 11 (nav c.ns) J0),(14,GE Is K),(15,GE Is i)] [Do 30 c.cs,Do 43 V3.zero.cs,.row 0 3 43 (vav (lG (λi:Nat=>(cH c.ns (i:Int)).n) i m))]):=by
 have b:Z (nav c.ns)=Z c.ns:=by simp
 have h1:=f.ns;intro m;induction m with
 |zero=>
  intro i a;have e:lG (λi:Nat=>(cH c.ns (i:Int)).n) i 0=mB c.ns:=by rw[GS];unfold mB;rw[<-a];rfl
  rw[e];refine gV ?_;have d:=aEo c f n (mB c.ns);exact zW
 |succ m j=>
  intro i a;have hl:Z (vav (lG (λi:Nat=>(cH c.ns (i:Int)).n) i (m+1)))=i+(m+1):=by rw[Cb,GR]
  have hs:=GQ (λi:Nat=>(cH c.ns (i:Int)).n) i m;have g:(nav c.ns)[i]? =X (cH c.ns (i:Int)).av:=vF (c:=c) (n:=(i:Int)) ⟨by omega,by omega⟩;have next:=j (i+1) o_
  exact zqha5
def aGo(c:Con)(b:c.sm)(n:Int):bj 241 [c.av,ii n] ((iY c.ns n (mB c.ns)).av):=by
 have h1:=b.ns;have a:Z (nav c.ns)=Z c.ns:=by simp
 refine c_ f241 λ_=>gV ?_;refine⟨Z c.ns,by rw[a],gV ?_⟩;refine⟨⟨rfl,by omega,by simp only[maxLen];omega⟩,?_⟩;refine gV ?_;have next:=aGp c b n _ rfl (Z c.ns) 0 o_
 rw[A9]at next
 exact To.cut [1,2,4,5,13,14,15] 3 rfl rfl rfl rfl next
abbrev aF6(c:Con)(used:a8)(need:V3):aa:=.func (.func 342) [] [.ptr c.cs,.ptr [CA 3 (vav used) J0],.ptr need.cs]
abbrev aIU(c:Con)(used:a8)(need:V3)(t:Int):aa:=.func (.func 343) [] [.ptr c.cs,.ptr [CA 3 (vav used) J0],.ptr need.cs,.ptr [ii t]]
def aCE(c:Con)(a:a8)(need:V3)(n:Int):Bool:=bY (dZ (atV a n) need) (dZ (cH c.ns n).n (cH c.ns n).b)
def YS(c:Con)(a:a8)(need:V3)(t n:Int):Bool:=bY (dZ (dZ (iY c.ns n a) need) (zG c.ns a n t)) (iY c.ns n (mB c.ns))
def M9(c:Con)(a:a8)(need:V3)(n:Int)(h:c.ok n):bj 342 [ii n,.ptr c.cs,.ptr [CA 3 (vav a) J0],.ptr need.cs] (DA (aCE c a need n)):=by
 have l:=vF h;have m:n=(n.toNat:Int):=by have:=h.1;omega
 unfold aCE;generalize cH c.ns n=x at l⊢;refine c_ f342 λ_=>?_;have e:=HL a n;have d:=jA (atV a n) need;have i:=jA x.n x.b;have hz2:=λk j=>mO k j;exact zW
def D2(c:Con)(b:c.sm)(a:a8)(need:V3)(t n:Int):bj 343 [ii n,.ptr c.cs,.ptr [CA 3 (vav a) J0],.ptr need.cs,.ptr [ii t]] (DA (YS c a need t n)):=by unfold YS;refine c_ f343 λ_=>?_;have j:=aEo c b n a;have e:=jA (iY c.ns n a) need;have h:=aLo c b a n t;have d:=jA (dZ (iY c.ns n a) need) (zG c.ns a n t);have i:=aGo c b n;have hz2:=λl k=>mO l k;exact zW
def ruO(c:Con)(a:a8)(need:V3)(t:Int):aw:=[Do 30 c.cs,Do 206 [CA 3 (vav a) J0],Do 3 [ii t],Do 43 need.cs,Do 365 [.nilfunc],Do 365 [.nilfunc],
 Do 365 [.func (.func 342) [] [G2 0 0,G2 1 0,G2 3 0]],Do 365 [.func (.func 343) [] [G2 0 0,G2 1 0,G2 3 0,G2 2 0]]]
def aOG(c:Con)(a:a8)(need:V3)(t:Int):aw:=[.fcells c.cs,.fcells [CA 3 (vav a) J0],.fcells [ii t],.fcells need.cs,Do 365 [.nilfunc],Do 365 [.nilfunc],
 .fcells [aF6 c a need],.fcells [aIU c a need t]]
def aOF(c:Con)(a:a8)(need:V3)(t:Int):ak [6,7] (ruO c a need t)=aOG c a need t:=by kernel_rfl
def aJY(c:Con)(a:a8)(need:V3)(t:Int):xH [10,11] (aC (aOG c a need t)) [(8,G2 4 0),(9,G2 5 0),(10,G2 6 0),(11,G2 7 0)]=[(8,G2 4 0),(9,G2 5 0),(10,.ptr [aF6 c a need]),(11,.ptr [aIU c a need t])]:=by kernel_rfl
def aJX{g:Goal}{ks:bg}(c:Con)(a:a8)(need:V3)(t:Int)(h:To (Er [] [16,17]) f310 g (.code ks [(8,G2 4 0),(9,G2 5 0),(10,.ptr [aF6 c a need]),(11,.ptr [aIU c a need t])] (aOG c a need t))):
  To (Er [] [16,17]) f310 g (.code ks [(8,G2 4 0),(9,G2 5 0),(10,G2 6 0),(11,G2 7 0)] (ruO c a need t)):=by
 refine To.frz [10,11] [6,7] ?_;rw[aOF,aJY];exact h
def aET(c:Con)(a:a8)(need:V3)(t:Int):bj 310 [c.av,CA 3 (vav a) J0,ii t,need.av] (GT [He [aF6 c a need],He [aIU c a need t]]):=by
 refine gA (Er [] [16,17]) f310 λ_=>?_;refine bO (hEr [] [16,17]) 51 ?_;conv=>whnf
 refine To.cutC [8,9,10,11] 8 rfl rfl rfl rfl ?_;refine aJX c a need t ?_;exact zW
def IM{P:Program}{l:Nat}{J J1:BInv}{p:Int->Bool}{V:Int->Prop}(a:∀x,V x->p x=O->bN P (.yield l) [ii x] [If 0 J] (Io (DA O)) [If 1 J])(h1:∀x,V x->p x=S->bN P (.yield l) [ii x] [If 0 J] (Io (DA S)) [If 1 J1]):
  ∀(xs:ax),(∀x∈xs,V x)->Ylds P l xs J (if xs.all p=O then J else J1) (xs.all p)
 |[],_=>by simp;exact .nil _
 |x::r,hv=>by
  rw[Hi];cases hp:p x with
  |true=>
   rw[Bt];exact .next x r _ _ _ _ (a x (hv x s_) hp) (IM a h1 r λy b=>hv y (by simp[b]))
  |false=>
   rw[Cq,bt d_];exact .stop x r _ _ (h1 x (hv x s_) hp)
def NK(c:Con)(a:a8)(t:Int)(need:V3)(x:Int):Bool:=if decide (x=t)=O then aCE c a need x else YS c a need t x
def C0(c:Con)(a:a8)(t:Int)(need:V3):Bool:=if bB c.ns t=O then(upL c.ns t).all (NK c a t need)else S
def aK4(f:aa):au:=[(6,G2 1 0),(8,G2 3 0),(9,G2 4 0),(10,G2 5 0),(26,f)]
def CB(c:Con)(a:a8)(t:Int)(need:V3)(b:Bool)(o:ab):aw:=[Do 30 c.cs,Do 3 [ii t],Do 43 need.cs,Do 4 [DA b],Do 365 [aF6 c a need],Do 365 [aIU c a need t],.dead,o]
abbrev aJg(c:Con):aa:=.func (.func 345) [] [G2 6 0,.ptr c.cs]
def aRy(c:Con)(f:c.sm)(a:a8)(t:Int)(need:V3)(x:Int)(e:c.ok x)(k:Nat)(R:Loop)(b:R.state= .ready)(hp:NK c a t need x=O):
  To (El k [] [] []) f269 (.keep 8 (Io (DA O)) (CB c a t need S (If 0 (cJ k (busy R))))) (.code [.code (rfA f269),.beginR,.code (rfB f269)] (iI (aK4 (aJg c)) 27 (ii x)) (CB c a t need S (If 0 (cJ k R)))):=by
 exact zqha0
def aK3(c:Con)(f:c.sm)(a:a8)(t:Int)(need:V3)(x:Int)(e:c.ok x)(k:Nat)(R:Loop)(b:R.state= .ready)(hp:NK c a t need x=S):
  To (El k [] [] []) f269 (.keep 8 (Io (DA S)) (CB c a t need S (If 0 (cJ k (busy R))))) (.code [.code (rfA f269),.beginR,.code (rfB f269)] (iI (aK4 (aJg c)) 27 (ii x)) (CB c a t need S (If 0 (cJ k R)))):=by
 exact zqha0
def aLe(c:Con)(o:c.sm)(a:a8)(t:Int)(need:V3)(r:Bool)(e:C0 c a t need=r):bj 269 [c.av,CA 3 (vav a) J0,ii t,need.av] (DA r):=by
 have q:(Z (nav c.ns):Int)<=9223372036854775807:=by have:=o.ns;simp only[Cb];omega
 unfold C0 at e;refine c_ f269 λ_=>gV ?_;refine .p (kQ c t) (gV ?_);refine Aa (λh1=>?_) (λh1=>?_)
 .have h1:bB c.ns t=false:=jF h1;rw[bt (by rw[h1];decide)]at e;subst e;exact zW
 .have h1:bB c.ns t=true:=jG h1;rw[bu h1]at e;refine gV ?_;refine .p (aET c a need t) (gV ?_);refine .pure _ [Do 3 [ii t]] (Y8 c t) (gV ?_);refine To.cutC [6,8,9,10,26] 7 rfl rfl rfl rfl ?_;refine To.range [6] rfl rfl (λ_ _=>by rfl) rfl (λ_ _=>rfl) rfl λk ob0 R hst d=>?_
  have i:=IM (P:=Tryz.prog) (l:=k) (p:=NK c a t need) (V:=c.ok) (J:=kJ ob0 (aK4 (aJg c)) R (CB c a t need S (If 0 (cJ k R)))) (J1:=kJ ob0 (aK4 (aJg c)) R (CB c a t need S (If 0 (cJ k (mU R S)))))
   (λx j hp=>iF (E:=Ex [] [] []) (fn:=f269) (k:=7) (n:=8) (p:=27) (gg:=0) (L':=CB c a t need S (If 0 (cJ k (busy R)))) (b:=O) d.params d.ready d.pend d.assign d.body d.size rfl rfl rfl rfl rfl rfl rfl λ_=>aRy c o a t need x j k R d.ready hp)
   (λx j hp=>iF (E:=Ex [] [] []) (fn:=f269) (k:=7) (n:=8) (p:=27) (gg:=0) (L':=CB c a t need S (If 0 (cJ k (busy R)))) (b:=S) d.params d.ready d.pend d.assign d.body d.size rfl rfl rfl rfl rfl rfl rfl λ_=>aK3 c o a t need x j k R d.ready hp) (upL c.ns t) (λx u=>MA c _ _ x u)
  rw[e]at i;obtain⟨m,s,h⟩:=MB k c t _ _ r q i;cases r with
  |true=>
   refine⟨_,O,_,[Do 3 [m]],s,h,rfl,rfl,?_⟩;exact zW
  |false=>
   refine⟨_,S,_,[Do 3 [m]],s,h,rfl,rfl,?_⟩;exact zW
def aPs(c:Con)(b:c.sm)(a:a8)(t:Int)(need:V3):bj 269 [c.av,CA 3 (vav a) J0,ii t,need.av] (DA (C0 c a t need)):=aLe c b a t need _ rfl
def bC(hs:List Hos)(n:Int):Hos:=(hs[n.toNat]?).getD ⟨0,0,0,V3.zero⟩
def vN{c:Con}{i:Nat}(h:i<Z c.hs):(hav c.hs)[i]? =X (bC c.hs (i:Int)).av:=by unfold bC;rw[Int.toNat_natCast,Ab h];exact oG h
def L5(l:a8)(i:Nat)(v:V3):(vav l).set i v.av=vav (l.set i v):=by simp[vav,Gb]
def qF(need:V3)(xs:a8)(h:Int):a8:=if decide (0<=h)=O then(if decide (h<(Z xs:Int))=O then xs.set h.toNat (xY ((xs[h.toNat]?).getD V3.zero) need)else xs)else xs
def qE(need:V3)(xs:a8)(h:Int):Z (qF need xs h)=Z xs:=by unfold qF;split<;>(try split)<;>simp
def wN(xs:a8)(x:Rn):a8:=x.hs.foldl (qF x.g.need) xs
def vQ(x:Rn):∀(xs:a8),Z (wN xs x)=Z xs:=by
 unfold wN;generalize x.hs=l;induction l with
 |nil=>intro xs;rfl
 |cons h r a=>intro xs;rw[Ao,a,qE]
def iB(c:Con)(r:a7):a8:=r.foldl wN ((Df (Z c.hs)).map λi:Nat=>(bC c.hs (i:Int)).c)
abbrev frO(c:Con)(xs:a8):aw:=[Do 30 c.cs,.row 0 3 43 (vav xs)]
def aLS(c:Con)(r:a7)(R:a8)(x:Rn)(j:Nat)(w:Z x.hs<=1048576)(z:Z c.hs<=1048576)(As:aw):
  ∀(m i:Nat) (xs:a8),Z xs=Z c.hs->i+m=Z x.hs->
   To E f272 (.pure (Io (CA 3 (vav R) J0))) (G0 (stk f272 1) [(5,.row 1 0),(30,CA 14 (rav r) J0),(31,GE Is (Z (rav r):Nat)),(32,GE Is ((j:Int)+1))] (frO c ((x.hs.drop i).foldl (qF x.g.need) xs)))->
   j<1048576->
  To E f272 (.pure (Io (CA 3 (vav R) J0))) (G0 (stk f272 2) [(5,.row 1 0),(9,G2 2 0),(30,CA 14 (rav r) J0),(31,GE Is (Z (rav r):Nat)),(32,GE Is j),(37,CA 1 (iv x.hs) J0),(38,GE Is (Z (iv x.hs):Nat)),(39,GE Is i)] (frO c xs++[Do 85 x.cs])):=by
 have l:Z (iv x.hs)=Z x.hs:=by simp
 intro m;induction m with
 |zero=>
  intro i xs e p a f;rw[Ae o_]at a;exact tA
 |succ m s=>
  intro i xs e p a f;have d:i<Z x.hs:=o_;rw[Ac d,Ao]at a;generalize v:x.hs[i]=u0 at a;have get:(iv x.hs)[i]? =X (ii u0):=(cD d).trans (by rw[v]);have q:Z (vav xs)=Z xs:=by simp
  have next:=s (i+1) (qF x.g.need xs u0) (by rw[qE];exact e) o_ a f
  unfold qF frO at next
  refine gV ?_;refine aT λh=>gV ?_;refine⟨i,rfl,gV ?_⟩;refine⟨_,get,?_⟩;by_cases h1:0<=u0
  .rw [bu (bq h1)]at next
   by_cases k:u0<(Z xs:Int)
   .rw [bu (bq k)]at next
    have b:u0.toNat<Z xs:=o_;have y:u0=(u0.toNat:Int):=o_;rw[Ab b]at next
    have o:(vav xs)[u0.toNat]? =X xs[u0.toNat].av:=kN b;rw[show((X xs[u0.toNat]).getD V3.zero)=xs[u0.toNat]from rfl]at next
    generalize xs[u0.toNat]=u at o next
    rw[<-L5]at next
    have n:=L4 u x.g.need;exact zW
   .rw [bt (by rw[bp k];decide)]at next
    exact zW
  .rw [bt (by rw[bp h1];decide)]at next
   exact zW
def Sm(l:a7):Prop:=Z l<=1048576/\∀x∈l,Z x.hs<=1048576
def Sm.at{l:a7}(h:Sm l){i:Nat}(a:i<Z l):Z l[i].hs<=1048576:=h.2 _ (Av a)
def aHn(c:Con)(n:c.sm)(r:a7)(e:Sm r)(R:a8):∀(m i:Nat) (xs:a8),i+m=Z r->Z xs=Z c.hs->(r.drop i).foldl wN xs=R->
  To E f272 (.pure (Io (CA 3 (vav R) J0))) (G0 (stk f272 1) [(5,.row 1 0),(30,CA 14 (rav r) J0),(31,GE Is (Z (rav r):Nat)),(32,GE Is i)] (frO c xs)):=by
 have g:Z (rav r)=Z r:=by simp
 have hl:=e.1;intro m;induction m with
 |zero=>
  intro i xs j d b;rw[Ae o_]at b;subst b;exact tA
 |succ m k=>
  intro i xs j d b;have a:i<Z r:=o_;have f:=e.at a;rw[Ac a,Ao]at b;generalize l:r[i]=x at b f;have get:(rav r)[i]? =X x.av:=(cB a).trans (by rw[l]);have next:=k (i+1) (wN xs x) o_ (by rw[vQ];exact d) b
  refine gV ?_;refine aT λh=>gV ?_;refine⟨i,rfl,gV ?_⟩;refine⟨_,get,gV ?_⟩;exact To.cut [5,9,30,31,32,37,38,39] 3 rfl rfl rfl rfl (aLS c r R x i f n.hs [] (Z x.hs) 0 xs d o_ next o_)
def aC3(c:Con)(d:c.sm)(r:a7)(f:Sm r):∀(m i:Nat),i+m=Z c.hs->
  BC E f272 (CA 3 (vav (iB c r)) J0) [(1,CA 14 (rav r) J0),(2,G2 0 0),(5,.row 1 0),(17,CA 6 (hav c.hs) J0),(18,GE Is (Z (hav c.hs):Nat)),(19,GE Is i)] (frO c (lG (λi:Nat=>(bC c.hs (i:Int)).c) i m)):=by
 have a:Z (hav c.hs)=Z c.hs:=by simp
 have h1:=d.hs;intro m;induction m with
 |zero=>
  intro i b;rw[GS];refine gV ?_;refine aF λh=>gV ?_;refine To.cut [5,30,31,32] 2 rfl rfl rfl rfl ?_;exact aHn c d r f _ (Z r) 0 _ o_ q_ (by unfold iB;rw[<-b];rfl)
 |succ m e=>
  intro i b;have hl:Z (vav (lG (λi:Nat=>(bC c.hs (i:Int)).c) i (m+1)))=i+(m+1):=by rw[Cb,GR]
  have hs:=GQ (λi:Nat=>(bC c.hs (i:Int)).c) i m;have g:(hav c.hs)[i]? =X (bC c.hs (i:Int)).av:=vN o_;have next:=e (i+1) o_
  unfold frO at next
  exact zqha5
def aAT(c:Con)(b:c.sm)(r:a7)(d:Sm r):bj 272 [c.av,CA 14 (rav r) J0] (CA 3 (vav (iB c r)) J0):=by
 have h1:=b.hs;have a:Z (hav c.hs)=Z c.hs:=by simp
 refine c_ f272 λ_=>gV ?_;refine⟨Z c.hs,by rw[a],gV ?_⟩;refine⟨⟨rfl,by omega,by simp only[maxLen];omega⟩,?_⟩;refine gV ?_;have next:=aC3 c b r d (Z c.hs) 0 o_
 unfold frO at next
 rw[A9]at next
 exact To.cut [1,2,5,17,18,19] 2 rfl rfl rfl rfl next
def aOk{a b:Int}(c:0<=a)(e:0<b)(d:a<=9223372036854775807):inR Is (Hg a b):=by
 have h3:(Hg a b).natAbs<=a.natAbs:=by rw[Int.natAbs_tdiv];exact Nat.div_le_self _ _
 have f:0<=Hg a b:=Int.tdiv_nonneg c o_;exact⟨by simp only[bV];omega,by simp only[aW];omega⟩
def B1(n free need:Int):Int:=if decide (0<need)=O then min n (Hg free need)else n
def dM(free need:V3):Int:=if bY need free=O then B1 (B1 (B1 16 free.a need.a) free.b need.b) free.c need.c else 0
def aSP(v:V3)(M:Imm)(ob:Hs)(vs:bb)(d:az)(h:cL M ob vs (v.av::d)):inR Is v.a/\inR Is v.b/\inR Is v.c:=by
 have hl:0<Z vs:=by rw[h.1];simp
 have:=h.2 0 _ v.av (Ab hl) rfl;exact⟨cN this 0 _ rfl,cN this 1 _ rfl,cN this 2 _ rfl⟩
def aE8(free need:V3)(r:Int)(d:dM free need=r):bj 334 [free.av,need.av] (ii r):=by
 refine aA.get _ (λM ob vs h=>aSP free M ob vs _ h) λ⟨⟨a1,a2⟩,⟨b1,b2⟩,⟨c1,c2⟩⟩=>?_;simp only[bV,aW]at a1 a2 b1 b2 c1 c2;unfold dM at d;refine c_ f334 λ_=>gV ?_;refine .p (xZ need free) (gV ?_);refine Aa (λh1=>?_) (λh1=>?_)
 .have h1:bY need free=false:=jF h1;rw[bt (by rw[h1];decide)]at d;subst d;exact zW
 .have h1:bY need free=true:=jG h1;rw[bu h1]at d;unfold B1 at d;have n:need.a<=free.a/\need.b<=free.b/\need.c<=free.c:=by
   unfold bY at h1;split at h1
   .cases h1
   .split at h1
    .cases h1
    .split at h1
     .cases h1
     .rename_i e j i;simp only[bo]at e j i;omega
  by_cases l:0<need.a<;>by_cases m:0<need.b<;>by_cases k:0<need.c<;>simp only[l,m,k,decide_true,decide_false,if_true,if_false,Cy]at d
  all_goals (refine gV ?_)
  all_goals repeat' first
   |(refine gW hE ?_;conv=>whnf)
   |exact d▸rfl
   |refine aY ?_
   |refine aN ?_
   |refine aT λh=>?_
   |refine aF λh=>?_
   |refine aJ ?_
   |refine Fk (Aa (aOk o_ o_ o_) ?_)
   |refine Aj _ (Aa rfl ?_)
   |refine Aa d_ ?_
   |refine Aa o_ ?_
   |fail
def Z3(free need:V3):bj 334 [free.av,need.av] (ii (dM free need)):=aE8 free need _ rfl
def ofK(h:Hos)(i lv:Int):ax:=[h.f,if decide (2<lv)=O then 0 else h.b,if decide (1<lv)=O then 0 else h.r,if decide (0<lv)=O then 0 else i]
def aKR(h:Hos)(i lv:Int)(K:az)(a:(ofK h i lv).map ii=K):bj 347 [h.av,ii i,ii lv] (He K):=by
 unfold ofK at a;refine c_ f347 λ_=>?_
 repeat' first|refine pA ?_|exact rfl|refine lA ?_ ?_|intro h
 all_goals first
  |(subst a;simp only[*,Cy,if_true,if_false,List.map];done)
  |(exfalso;simp only[bo,bk]at*;omega)
def aPk(h:Hos)(i lv:Int):bj 347 [h.av,ii i,ii lv] (He ((ofK h i lv).map ii)):=aKR h i lv _ rfl
def aN6{n:Nat}(h:n<=16):n=0\/n=1\/n=2\/n=3\/n=4\/n=5\/n=6\/n=7\/n=8\/n=9\/n=10\/n=11\/n=12\/n=13\/n=14\/n=15\/n=16:=o_
def aGz(n:Nat)(a:n<=16):bj 277 [GE IH 1,GE IH (n:Int)] (GT [GE IH 0,GE IH (n:Int)]):=by
 rcases aN6 a with rfl|rfl|rfl|rfl|rfl|rfl|rfl|rfl|rfl|rfl|rfl|rfl|rfl|rfl|rfl|rfl|rfl
 all_goals
  refine c_ f277 λ_=>?_
  repeat' first
   |(refine gN hE ?_;conv=>whnf)
   |exact rfl
   |refine Fk (Aa (Aa d_ d_) ?_)
   |refine Aa d_ ?_
   |fail
def aPo(n:Nat)(b:n<=16):bj 364 [GE IH 1,GE IH (n:Int)] (GT [GE IH 0,GE IH (n:Int)]):=by refine c_ f364 λ_=>?_;have a:=aGz n b;exact zW
def rp(h:Int)(k m:Nat):az:=iv (Ak k h)++Ak m (ii 0)
def E0(h:Int)(k m:Nat):Z (rp h k m)=k+m:=by simp[rp]
def aJ2(h:Int)(k m:Nat):((k:Int)+ ↑(min (Z (Fi k (Fx 0 (rp h k m)))) (Z (rp h k m)-k)))=((k+min k m:Nat):Int)/\
  (rp h k m).take k++(Fi k (Fx 0 (rp h k m))).take (Z (rp h k m)-k)++(rp h k m).drop (k+min (Z (Fi k (Fx 0 (rp h k m)))) (Z (rp h k m)-k))=rp h (k+min k m) (m-min k m):=by
 have a:Z (iv (Ak k h))=k:=by simp
 have h1:(rp h k m).take k=iv (Ak k h):=by unfold rp;rw[List.take_append_of_le_length o_,Bq o_]
 have hl:=E0 h k m;rw[List.drop_zero,h1,hl,a,show k+m-k=m from by omega];refine⟨by omega,?_⟩;have b:(rp h k m).drop (k+min k m)=Ak (m-min k m) (ii 0):=by unfold rp;rw[List.drop_append,a,List.drop_of_length_le o_,Bi,List.drop_replicate];congr 1;omega
 rw[b];unfold rp;congr 1;simp only[iv,List.map_replicate,List.take_replicate,List.replicate_append_replicate];congr 1;omega
def aFv(a:Int)(N:Nat)(l:N<=16):∀(f k m:Nat),k+m=N->1<=k->m<=f->
  BC (Er [] [38]) f348 (CA 1 (iv (Ak N a)) J0) [(7,.row 0 0),(8,GE Is (k:Int))] [.row 0 1 3 (rp a k m)]:=by
 intro f;induction f with
 |zero=>
  intro k m b h1 hm;have hm:m=0:=o_;subst hm;exact zqha6
 |succ f c=>
  intro k m b h1 hm;by_cases j:m=0
  .subst j;exact zqha6
  have hl:=E0 a k m;have next:=c (k+min k m) (m-min k m) o_ o_ o_
  generalize i:rp a k m=An at hl⊢;refine gV ?_;refine aT λh=>gV ?_;refine⟨k,rfl,gV ?_⟩;refine⟨by omega,gV ?_⟩;refine⟨k,rfl,gV ?_⟩;refine⟨by omega,gV ?_⟩;rw[<-i]at hl⊢;obtain⟨g,d⟩:=aJ2 a k m;rw[<-g,<-d]at next
  have n:min (Z (Fi k (Fx 0 (rp a k m)))) (Z (rp a k m)-k)<=16:=by have:Z (rp a k m)=k+m:=E0 a k m;omega
  exact zW
def aE4(h:Int)(m:Nat):((1:Nat):Int)= ↑(min (Z [ii h]) (Z (Ak (m+1) (aa.int Is 0))))/\rp h 1 m=[ii h].take (Z (Ak (m+1) (aa.int Is 0)))++(Ak (m+1) (aa.int Is 0)).drop (Z [ii h]):=by refine⟨by simp,?_⟩;simp[rp,List.drop_replicate]
def aOX(h:Int)(n:Nat)(a:n<=16):bj 348 [CA 1 [ii h] J0,ii (n:Int)] (CA 1 (iv (Ak n h)) J0):=by
 have hm:=aPo n a;cases n with
 |zero=>
  refine gA (Er [] [38]) f348 λ_=>gV ?_;refine aF λh=>gV ?_;refine Fk (Aa (Aa (by simp only[bV,Al,Bs];omega) (by simp only[aW,Al,Bs];omega)) ?_);refine gV ?_;refine Fk (Aa (Aa (by simp only[bV];omega) (by simp only[aW];omega)) ?_);refine gV ?_;refine .p hm (gV ?_);refine aF λh=>gV ?_;refine aF λh=>gV ?_;refine Fk (Aa (Aa (by simp only[bV];omega) (by simp only[aW];omega)) ?_);refine gV ?_;refine⟨0,rfl,gV ?_⟩;refine⟨⟨rfl,by omega,by simp only[maxLen];omega⟩,?_⟩;refine gV ?_;exact tA
 |succ m=>
  have next:=aFv h (m+1) a (m+1) 1 m o_ o_ o_
  obtain⟨b,c⟩:=aE4 h m;rw[b,c]at next
  refine gA (Er [] [38]) f348 λ_=>gV ?_;refine aF λh=>gV ?_;refine Fk (Aa (Aa (by simp only[bV,Al,Bs];omega) (by simp only[aW,Al,Bs];omega)) ?_);refine gV ?_;refine Fk (Aa (Aa (by simp only[bV];omega) (by simp only[aW];omega)) ?_);refine gV ?_;refine .p hm (gV ?_);refine aF λh=>gV ?_;refine aF λh=>gV ?_;refine Fk (Aa (Aa (by simp only[bV];omega) (by simp only[aW];omega)) ?_);refine gV ?_;refine⟨m+1,rfl,gV ?_⟩;refine⟨⟨rfl,by omega,by simp only[maxLen];omega⟩,?_⟩;exact zW
def E2(a b:V3):dM a b<=16:=by
 have h:∀n f k,n<=16->B1 n f k<=16:=λn f k h=>by unfold B1;split<;>omega
 unfold dM;split
 .exact h _ _ _ (h _ _ _ (h _ _ _ d_))
 .decide
def inN(free need:V3)(pods len:Int):Int:=min (dM free need) (pods-len)
def inS(free:a8)(g:Gan)(out:ax)(h:Int):ax:=if decide (h<0)=O then out else if decide ((Z free:Int)<=h)=O then out else out++Ak (max (inN ((free[h.toNat]?).getD V3.zero) g.need g.pods (Z out)) 0).toNat h
def inL(free:a8)(g:Gan)(a:ax):ax:=a.foldl (inS free g) []
def DT(free:a8)(g:Gan)(out:ax)(h:Int)(hp:(Z out:Int)<=g.pods):(Z (inS free g out h):Int)<=g.pods:=by
 unfold inS;split
 .exact hp
 .split
  .exact hp
  .simp only[Ah,Ga,inN];omega
def F9(out:ax)(g:Gan):aa:=if decide ((Z out:Int)<g.pods)=O then GT [CA 1 [] J0,DA S]else GT [CA 1 (iv out) J0,DA O]
def NR(c:Con)(free:a8)(g:Gan)(u:0<=g.pods/\g.pods<=16)(b:ax)(hl:Z b<=1048576)(R:ax):∀(m i:Nat) (out:ax),i+m=Z b->(Z out:Int)<=g.pods->(b.drop i).foldl (inS free g) out=R->
  BC (Eo [10] []) f314 (F9 R g) [(1,CA 3 (vav free) J0),(7,G2 1 0),(10,CA 1 (iv out) (.own 2 0)),(14,CA 1 (iv b) J0),(15,GE Is (Z (iv b):Nat)),(16,GE Is i)] [Do 30 c.cs,Do 45 g.cs,Fr 0 1 3]:=by
 have w:Z (iv b)=Z b:=by simp
 have C:Z (vav free)=Z free:=by simp
 intro m;induction m with
 |zero=>
  intro i out A hp f;rw[Ae o_]at f;have f:out=R:=f;subst f;have k:Z (iv out)=Z out:=by simp
  obtain⟨Q,j⟩:∃Q,Q=F9 out g:=⟨_,rfl⟩
  rw[<-j];unfold F9 at j;by_cases h1:(Z out:Int)<g.pods
  .rw [bu (bq h1)]at j;subst j;exact tA
  .rw [bt (by rw[bp h1];decide)]at j;subst j;exact tA
 |succ m B=>
  intro i out A hp f;have o:i<Z b:=o_;rw[Ac o,Ao]at f;have n:=DT free g out b[i] hp;generalize x:b[i]=u0 at f n;have get:(iv b)[i]? =X (ii u0):=(cD o).trans (by rw[x]);have k:Z (iv out)=Z out:=by simp
  have next:=B (i+1) (inS free g out u0) o_ n f
  unfold inS at next
  refine gV ?_;refine aT λh=>gV ?_;refine⟨i,rfl,gV ?_⟩;refine⟨_,get,?_⟩;by_cases h1:u0<0
  .rw [bu (bq h1)]at next
   exact zW
  .rw [bt (by rw[bp h1];decide)]at next
   by_cases v:(Z free:Int)<=u0
   .rw [bu (bq v)]at next
    exact zW
   .rw [bt (by rw[bp v];decide)]at next
    have l:u0.toNat<Z free:=o_;have y:u0=(u0.toNat:Int):=o_;rw[Ab l]at next
    have r:(vav free)[u0.toNat]? =X free[u0.toNat].av:=kN l;rw[show((X free[u0.toNat]).getD V3.zero)=free[u0.toNat]from rfl]at next
    generalize free[u0.toNat]=f0 at r next
    have q:=E2 f0 g.need;have d:(max (inN f0 g.need g.pods (Z out)) 0).toNat<=16:=by unfold inN;omega
    have p:max (min (dM f0 g.need) (g.pods-(Z (iv out):Nat))) 0=(((max (inN f0 g.need g.pods (Z out)) 0).toNat:Nat):Int):=by unfold inN;rw[k];omega
    have a:=aOX u0 _ d;rw[<-p]at a;generalize F:(max (inN f0 g.need g.pods (Z out)) 0).toNat=N at d a next
    have e:iv (out++Ak N u0)=iv out++iv (Ak N u0):=by simp
    rw[e]at next
    have D:Z (iv (Ak N u0))=N:=by simp
    have z:=u.1;have s:=u.2
    repeat' first|refine pA ?_|refine⟨u0.toNat,y,?_⟩|refine⟨_,r,?_⟩|refine .p (Z3 f0 g.need) ?_|refine .p (aA.strip a) ?_|refine Aa (Aa (by simp only[maxLen];omega) o_) ?_|exact rfl|refine lA ?_ ?_|intro h
    exact zW
def CD(c:Con)(free:a8)(g:Gan)(d:0<=g.pods/\g.pods<=16)(a:ax)(hl:Z a<=1048576):bj 314 [c.av,CA 3 (vav free) J0,CA 1 (iv a) J0,g.av] (F9 (inL free g a) g):=by refine gA (Eo [10] []) f314 λ_=>?_;have b:=NR c free g d a hl _ (Z a) 0 [] o_ (by simpa using d.1) rfl;exact zW
abbrev GSt:=List (ax×Nat)×List ax
def nE:List (ax×Nat)->ax->Option Nat
 |[],_=>U
 |(k,v)::r,x=>if k=x then X v else nE r x
abbrev kav(es:List (ax×Nat)):List (ax×aa):=es.map λp=>(p.1,ii p.2)
def F4(x:ax):∀es,bZ (kav es) x=(nE es x).map λn:Nat=>ii n
 |[]=>rfl
 |(k,v)::r=>by
  show(if k=x then X (ii v)else bZ (kav r) x)=(if k=x then X v else nE r x).map _;split
  .rfl
  .exact F4 x r
def aAz(x:ax)(v:Nat):∀es,nE es x=U->mZ (kav es) x (ii v)=kav (es++[(x,v)])
 |[],_=>rfl
 |(k,u)::r,h=>by
  have h:(if k=x then X u else nE r x)=none:=h;show(if k=x then(x,ii v)::kav r else(k,ii u)::mZ (kav r) x (ii v))=(k,ii u)::kav (r++[(x,v)]);split at h
  .cases h
  .rename_i a;rw[bt a,aAz x v r h]
def gpS(c:Con)(lv:Int)(s:GSt)(i:Nat):GSt:=
 match nE s.1 (ofK (bC c.hs (i:Int)) i lv)with
 |some k=>(s.1,s.2.set k ((s.2[k]?).getD []++[(i:Int)]))
 |none=>(s.1++[(ofK (bC c.hs (i:Int)) i lv,Z s.2)],s.2++[[(i:Int)]])
def gpL(c:Con)(lv:Int):List ax:=if decide (lv<0)=O then[]else if decide (3<lv)=O then[]else((Df (Z c.hs)).foldl (gpS c lv) ([],[])).2
abbrev gav(l:List ax):az:=l.map λxs=>CA 1 (iv xs) J0
abbrev SH(c:Con)(gr gb:Nat)(es:List (ax×Nat))(ms:List Hm):aw:=[Do 30 c.cs,.row gr 1 83 (ms.map hmA),.mp O (kav es),If gb (nY 1 3 ms)]
abbrev aRJ(c:Con)(lv:Int)(gr i:Nat):au:=[(1,ii lv),(5,.row 1 gr),(6,.mref 2),(20,CA 6 (hav c.hs) J0),(21,GE Is (Z (hav c.hs):Nat)),(22,ii i)]
def aHb(c:Con)(lv:Int)(G:Goal)(i k:Nat)(l:i<1048576)(b:List Hm)(m:Hm)(hm:b[k]? =X m)(g:Z m.2.2<=1048576)(h:Z b<=1048576)(es:List (ax×Nat))(j:Fv G.n0 4=O)
  (next:∀a e,To (Er [5] []) f313 G (.code (gB f313 14) (aRJ c lv 0 i) (SH c 0 1 es (b.set k (a,e,m.2.2++[ii i]))))):
  To (Er [5] []) f313 G (.code (iP f313 14) [(1,ii lv),(5,.row 1 0),(6,.mref 2),(7,ii i),(10,ii k),(20,CA 6 (hav c.hs) J0),(21,GE Is (Z (hav c.hs):Nat)),(22,ii i)] (SH c 0 0 es b)):=by
 refine To.handAt (hEr [5] []) 8 [] rfl rfl rfl ?_;conv=>whnf
 refine⟨k,rfl,?_⟩;conv=>whnf
 have f:(b.map hmA)[k]? =X (hmA m):=by rw[Bw,hm];rfl
 refine⟨by have:=(Ad.1 hm).1;simpa using this,?_⟩;conv=>whnf
 refine⟨_,f,?_⟩;conv=>whnf
 refine .mk 3 0 k b m [ii i] 3 1 8 1 S (CA 1 [] .nil) rfl hm rfl rfl rfl rfl ⟨by show _+1<=_;simp only[maxLen];omega,by show(_+1)*8<=_;omega⟩ λa e=>?_;have d:k<Z (b.map hmA):=by have:=(Ad.1 hm).1;simpa using this
 have next:=next a e
 unfold SH at next
 rw[Gb]at next
 refine gV ?_;refine⟨k,rfl,gV ?_⟩;refine⟨d,gV ?_⟩;refine⟨d,?_⟩;refine bO (hEr [5] []) 3 ?_;conv=>whnf
 refine To.cutC (fr:=[(1,_),(5,_),(6,_),(7,_),(10,_),(20,_),(21,_),(22,_),(47,_),(48,_),(49,_),(50,_),(51,_),(52,_),(53,_),(54,_),(55,_),(56,_)]) (ac:=[_,_,_,_]) [1,5,6,20,21,22] 4 j rfl rfl rfl ?_;exact next
def JW(x:ax)(v:Nat)(y:ax):∀es,nE (es++[(x,v)]) y=match nE es y with|some k=>X k|none=>if x=y then X v else U
 |[]=>rfl
 |(k,u)::r=>by
  show(if k=y then X u else nE (r++[(x,v)]) y)=match (if k=y then X u else nE r y)with|some k=>X k|none=>if x=y then X v else U
  split
  .rfl
  .exact JW x v y r
structure GI(i:Nat)(s:GSt):Prop where
 key:∀p∈s.1,Z p.1=4
 at':∀x k,nE s.1 x=X k->k<Z s.2
 len:Z s.2<=i
 each:∀xs∈s.2,Z xs<=i
def GI.step{c:Con}{lv:Int}{i:Nat}{s:GSt}(h:GI i s):GI (i+1) (gpS c lv s i):=by
 obtain⟨h1,d,h3,b⟩:=h;unfold gpS;split
 .rename_i k f;refine⟨h1,λx k h=>by simpa using d x k h,by simp;omega,λxs a=>?_⟩;rcases De a with a|rfl
  .have:=b xs a;omega
  .have hl:=d _ k f;rw[Ab hl];have:=b _ (Av hl);simp;omega
 .rename_i f;refine⟨λp hp=>?_,λx k a=>?_,by simp;omega,λxs a=>?_⟩
  .rcases Bx.1 hp with hp|hp
   .exact h1 p hp
   .simp at hp;subst hp;rfl
  .rw [JW]at a;split at a
   .rename_i g e;have:=d x g e;cases a;simp;omega
   .split at a
    .cases a;simp
    .cases a
  .rcases Bx.1 a with a|a
   .have:=b xs a;omega
   .simp at a;subst a;simp
def aLK(c:Con)(N:c.sm)(lv:Int)(As:0<=lv)(P:lv<=3)(R:List ax):∀(n i:Nat) (s:GSt) (b:List Hm),i+n=Z c.hs->b.map (λm=>m.2.2)=s.2.map iv->GI i s->((Hw i n).foldl (gpS c lv) s).2=R->
  BC (Er [5] []) f313 (CA 1 (gav R) J0) (aRJ c lv 0 i) (SH c 0 0 s.1 b):=by
 have h1:=N.hs;have F:Z (hav c.hs)=Z c.hs:=by simp
 intro n;induction n with
 |zero=>
  intro i s b I d u y;have y:s.2=R:=y;subst y;refine To.ofC (To.famFrz 3 1 rfl rfl ?_);have e:(b.map λm=>aa.slice 1 m.2.2 J0)=gav s.2:=by have:=congrArg (List.map λxs=>aa.slice 1 xs J0) d;rw[Dx,Dx]at this;exact this
  rw[e];refine To.toC (gV ?_);exact zW
 |succ n J=>
  intro i s b I d u y;rw[Kb,Ao]at y;have G:(hav c.hs)[i]? =X (bC c.hs (i:Int)).av:=vN o_;have next:=λC h=>J (i+1) (gpS c lv s i) C o_ h u.step y
  have l:∀p∈kav s.1,Z p.1=4:=λp hp=>by obtain⟨q,L,rfl⟩:=List.mem_map.1 hp;exact u.key q L
  refine gV ?_;refine aT λh=>gV ?_;refine⟨i,rfl,gV ?_⟩;refine⟨_,G,gV ?_⟩;refine .p (aPk (bC c.hs (i:Int)) i lv) (gV ?_);refine⟨l,gV ?_⟩;cases v:nE s.1 (ofK (bC c.hs (i:Int)) i lv)with
  |none=>
   have A:bZ (kav s.1) (ofK (bC c.hs (i:Int)) i lv)=none:=by rw[F4,v];rfl
   refine⟨_,A,gV ?_⟩;refine aY (gV ?_);refine⟨l,gV ?_⟩;have g:Z b=Z s.2:=by have:=congrArg Mt d;simpa using this
   have D:=u.len;have f:Z (b.map hmA)=Z b:=by simp
   refine⟨⟨by show Z (b.map hmA)+1<=_;simp only[maxLen];omega,by show(Z (b.map hmA)+1)*24<=_;omega⟩,?_⟩;refine bO (hEr [5] []) 6 ?_;conv=>whnf
   have K:Z (b.map hmA)=Z s.2:=f.trans g;have e:=aAz (ofK (bC c.hs (i:Int)) i lv) (Z (b.map hmA)) s.1 v;have B:gpS c lv s i=(s.1++[(ofK (bC c.hs (i:Int)) i lv,Z (b.map hmA))],s.2++[[(i:Int)]]):=by unfold gpS;rw[v,K]
   rw[B]at next
   have hm:(b++[((U,0,[]):Hm)])[Z (b.map hmA)]? =X (U,0,[]):=by rw[f,List.getElem?_append_right (Bc _)];simp
   have o:=aHb c lv (.pure (Io (CA 1 (gav R) J0))) i (Z (b.map hmA)) o_ (b++[(U,0,[])]) _ hm s_ q_ (s.1++[(ofK (bC c.hs (i:Int)) i lv,Z (b.map hmA))]) rfl λa z=>by
    have next:=next ((b++[(U,0,[])]).set (Z (b.map hmA)) (a,z,[]++[ii i])) (by rw[f,Hb _ _ (Bc _)];simp[d])
    exact zW
   unfold SH at o;rw[<-e]at o;refine To.cutC [1,5,6,7,10,20,21,22] 4 rfl rfl rfl rfl ?_;refine To.objTo 1 (x:=.row 1 1 83 (b.map hmA++[.nilslice])) (x':=.row 1 1 83 ((b++[(U,0,[])]).map hmA)) rfl (λh=>by cases h) rfl (λM ob w hs _ h=>aJ5 h) ?_;refine To.objTo 3 (x:=If 0 (nY 1 3 b)) (x':=If 0 (nY 1 3 (b++[(U,0,[])]))) rfl (λh=>by cases h) rfl (λM ob w hs _ h=>aLU h) ?_;refine To.toC ?_;refine To.part [1,5,6,7,10,20,21,22] [0,1,2,3] rfl rfl rfl ?_;refine To.ofC ?_;exact o
  |some k=>
   have A:bZ (kav s.1) (ofK (bC c.hs (i:Int)) i lv)=X (ii k):=by rw[F4,v];rfl
   refine⟨_,A,gV ?_⟩;refine aN ?_;refine bO (hEr [5] []) 1 ?_;conv=>whnf
   have r:=u.at' _ k v;have f:(b.map (λm=>m.2.2))[k]? =X (iv s.2[k]):=by rw[d,Bw,Ab r];rfl
   rw[Bw]at f;obtain⟨m,hm,j⟩:=Option.map_eq_some_iff.1 f;have j:m.2.2=iv s.2[k]:=j;have g:Z b=Z s.2:=by have:=congrArg Mt d;simpa using this
   have H:=u.each _ (Av r);have D:=u.len;have B:gpS c lv s i=(s.1,s.2.set k (s.2[k]++[(i:Int)])):=by unfold gpS;rw[v];show(s.1,s.2.set k ((s.2[k]?).getD []++[(i:Int)]))=_;rw[Ab r];rfl
   rw[B]at next
   refine To.cutC [1,5,6,7,10,20,21,22] 4 rfl rfl rfl rfl ?_;refine aHb c lv _ i k o_ b m hm (by rw[j];simp;omega) o_ s.1 rfl λa z=>?_;have next:=next (b.set k (a,z,m.2.2++[ii i])) (by rw[Gb,Gb,d,j];simp)
   exact zW
def KE(c:Con)(e:c.sm)(lv:Int):bj 313 [c.av,ii lv] (CA 1 (gav (gpL c lv)) J0):=by
 have h1:=e.hs;have d:Z (hav c.hs)=Z c.hs:=by simp
 obtain⟨R,a⟩:∃R,R=gpL c lv:=⟨_,rfl⟩
 rw[<-a];unfold gpL at a;refine gA (Er [5] []) f313 λ_=>?_;by_cases b:lv<0
 .rw [bu (bq b)]at a;subst a;exact zW
 rw[bt (by rw[bp b];decide)]at a;by_cases i:3<lv
 .rw [bu (bq i)]at a;subst a;exact zW
 rw[bt (by rw[bp i];decide),Hd]at a
 repeat' first|refine pA ?_|exact rfl|refine lA ?_ ?_|intro h
 refine To.ofC (To.beginF 1 3 ?_);refine To.toC ?_;have:=aLK c e lv o_ o_ R (Z c.hs) 0 ([],[]) [] o_ rfl ⟨λp h=>(by simp at h),λx k h=>(by cases h),Bc _,λxs h=>by simp at h⟩ a.symm;exact zW
structure GO(n i:Nat)(s:GSt):Prop where
 base:GI i s
 ok:∀xs∈s.2,xs≠[]/\∀h∈xs,0<=h/\h<(n:Int)
def GO.step{c:Con}{lv:Int}{n i:Nat}{s:GSt}(g:i<n)(h:GO n i s):GO n (i+1) (gpS c lv s i):=by
 refine⟨h.base.step,?_⟩;obtain⟨f,d⟩:=h;have one:∀h∈[(i:Int)],0<=h/\h<(n:Int):=λh b=>by simp at b;omega
 unfold gpS;split
 .rename_i k e;intro xs a;rcases De a with a|rfl
  .exact d xs a
  .refine ⟨by simp,λh b=>?_⟩;rcases Bx.1 b with b|b
   .have hl:=f.at' _ k e;rw[Ab hl]at b;exact(d _ (Av hl)).2 h b
   .exact one h b
 .intro xs a;rcases Bx.1 a with a|a
  .exact d xs a
  .have a:xs=[(i:Int)]:=by simpa using a
   subst a;exact⟨by simp,one⟩
def GO.fold{c:Con}{lv:Int}{n:Nat}:∀(m i:Nat) (s:GSt),i+m=n->GO n i s->GO n n ((Hw i m).foldl (gpS c lv) s)
 |0,i,s,hi,h=>by have:i=n:=o_
                 subst this;exact h
 |m+1,i,s,hi,h=>by rw[Kb,Ao];exact GO.fold m (i+1) _ o_ (h.step o_)
def W8(c:Con)(lv:Int):Z (gpL c lv)<=Z c.hs/\∀xs∈gpL c lv,xs≠[]/\Z xs<=Z c.hs/\∀h∈xs,0<=h/\h<(Z c.hs:Int):=by
 unfold gpL;split
 .exact ⟨Bn _,λxs h=>by simp at h⟩
 split
 .exact ⟨Bn _,λxs h=>by simp at h⟩
 rw[Hd];have:=GO.fold (c:=c) (lv:=lv) (n:=Z c.hs) (Z c.hs) 0 ([],[]) o_ ⟨⟨λp h=>(by simp at h),λx k h=>(by cases h),Bc _,λxs h=>(by simp at h)⟩,λxs h=>(by simp at h)⟩;exact⟨this.base.len,λxs a=>⟨(this.ok xs a).1,this.base.each xs a,(this.ok xs a).2⟩⟩
def fdG(c:Con)(free:a8)(g:Gan):List ax->Option (Int×ax)
 |[]=>U
 |gr::r=>if decide ((Z (inL free g gr):Int)<g.pods)=O then fdG c free g r else X ((bC c.hs (gr.headD 0)).f,inL free g gr)
def fdL(c:Con)(free:a8)(g:Gan):Nat->Int->Option (Int×ax)
 |0,_=>U
 |n+1,lv=>match fdG c free g (gpL c lv)with
  |some x=>X x
  |none=>fdL c free g n (lv+1)
def fdA:Option (Int×ax)->aa
 |some x=>.tup [ii x.1,.slice 1 (iv x.2) .no,.bool O]
 |none=>.tup [ii 0,.slice 1 [] .no,.bool S]
def wO(c:Con)(free:a8)(g:Gan):Option (Int×ax):=fdL c free g (min g.lev 3+1-max g.pref 0).toNat (max g.pref 0)
abbrev aAY(c:Con)(g:Gan):aw:=[Do 30 c.cs,Do 45 g.cs]
abbrev aPZ(free:a8)(lv:Int):au:=[(1,CA 3 (vav free) J0),(3,G2 0 0),(5,G2 1 0),(9,ii lv)]
def DW{l:List ax}{i:Nat}(h:i<Z l):(gav l)[i]? =X (CA 1 (iv l[i]) J0):=by simp[gav,h]
def aRT(c:Con)(F:c.sm)(free:a8)(g:Gan)(A:0<=g.pods/\g.pods<=16)(lv:Int)(t:0<=lv)(y:lv<=3)(Q:Option (Int×ax))(a:List ax)(D:Z a<=1048576)(n:∀xs∈a,xs≠[]/\Z xs<=Z c.hs/\∀h∈xs,0<=h/\h<(Z c.hs:Int)):
  ∀(m i:Nat),i+m=Z a->(∀x,fdG c free g (a.drop i)=X x->Q=X x)->(fdG c free g (a.drop i)=U->BC E f271 (fdA Q) (aPZ free (lv+1)) (aAY c g))->
  To E f271 (.pure (Io (fdA Q))) (G0 (stk f271 1) (aPZ free lv++[(26,CA 1 (gav a) J0),(27,GE Is (Z (gav a):Nat)),(28,ii i)]) (aAY c g)):=by
 have s:Z (gav a)=Z a:=by simp
 have z:Z (hav c.hs)=Z c.hs:=by simp
 have C:=F.hs;intro m;induction m with
 |zero=>
  intro i u hs b;rw[Ae o_]at b;have b:=b rfl;exact tA
 |succ m k=>
  intro i u hs b;have f:i<Z a:=o_;have k:=k (i+1) o_;rw[Ac f]at hs b;have j:=n _ (Av f);have get:=DW f;generalize a[i]=gr at hs b j get;obtain⟨o,w,l⟩:=j;have e:=CD c free g A gr o_;unfold fdG at hs b;unfold F9 at e;refine gV ?_;refine aT λh=>gV ?_;refine⟨i,rfl,gV ?_⟩;refine⟨_,get,gV ?_⟩;by_cases q:(Z (inL free g gr):Int)<g.pods
  .rw [bu (bq q)]at hs b e;have next:=k hs b
   exact zW
  .rw [bt (by rw[bp q];decide)]at hs b e;have B:=hs _ rfl;subst B
   match gr,o with
   |d::r,_=>
   have v:=l d s_;have G:(hav c.hs)[d.toNat]? =X (bC c.hs d).av:=by have:=vN (c:=c) (i:=d.toNat) o_;rwa [Int.toNat_of_nonneg v.1]at this
   have b:d=(d.toNat:Int):=o_;have p:(iv (d::r))[0]? =X (ii d):=rfl;exact zW
def aPY(c:Con)(f:c.sm)(free:a8)(g:Gan)(l:0<=g.pods/\g.pods<=16):∀(n:Nat) (lv:Int),0<=lv->n=(min g.lev 3+1-lv).toNat->
  BC E f271 (fdA (fdL c free g n lv)) (aPZ free lv) (aAY c g):=by
 intro n;induction n with
 |zero=>
  intro lv j k;exact tA
 |succ n d=>
  intro lv j k;have d:=d (lv+1) o_ o_;have e:=W8 c lv;have m:=f.hs;have i:Z (gav (gpL c lv))=Z (gpL c lv):=by simp
  obtain⟨Q,b⟩:∃Q,Q=fdL c free g (n+1) lv:=⟨_,rfl⟩
  rw[<-b];unfold fdL at b;refine gV ?_;refine aT λh=>gV ?_;refine .p (KE c f lv) ?_
  repeat' first|refine pA ?_|exact rfl|refine lA ?_ ?_|intro h
  refine To.cut [1,3,5,9,26,27,28] 2 rfl rfl rfl rfl ?_;refine aRT c f free g l lv j o_ Q (gpL c lv) o_ e.2 (Z (gpL c lv)) 0 o_ (λx a=>?_) (λa=>?_)
  .have a:fdG c free g (gpL c lv)=X x:=a;rw[a]at b;exact b
  .have a:fdG c free g (gpL c lv)=none:=a;rw[a]at b;rw[b];exact d
def find_ok(c:Con)(a:c.sm)(free:a8)(g:Gan)(b:0<=g.pods/\g.pods<=16):bj 271 [c.av,CA 3 (vav free) J0,g.av] (fdA (wO c free g)):=by refine c_ f271 λ_=>gV ?_;exact To.cut [1,3,5,9] 2 rfl rfl rfl rfl (aPY c a free g b _ _ o_ rfl)
def cE(c:Con)(l:a7)(g:Gan):Option (Int×ax):=if C0 c (ofL c l) g.ten (dem g)=O then wO c (iB c l) g else U
def aHr(c:Con)(e:c.sm)(l:a7)(hl:Sm l)(g:Gan)(m:0<=g.pods/\g.pods<=16)(Q:Option (Int×ax))(a:cE c l g=Q):bj 213 [c.av,CA 14 (rav l) J0,g.av] (fdA Q):=by
 unfold cE at a;have hm:=aPs c e (ofL c l) g.ten (dem g);have k:=X1 g;generalize C0 c (ofL c l) g.ten (dem g)=b at a hm;generalize dem g=d at hm k;have h:=find_ok c e (iB c l) g m;have j:=aAT c e l hl;have i:=RF c e l hl.1;generalize iB c l=fr at h a j;generalize ofL c l=us at hm i;cases b with
 |false=>
  have a:U=Q:=a;subst a;exact zqha8
 |true=>
  have a:wO c fr g=Q:=a;rw[a]at h;unfold fdA at h⊢;cases Q with
  |none=>
   exact zqha8
  |some x=>
   exact zqha8
def zS(c:Con)(a:c.sm)(l:a7)(hl:Sm l)(g:Gan)(b:0<=g.pods/\g.pods<=16):bj 213 [c.av,CA 14 (rav l) J0,g.av] (fdA (cE c l g)):=aHr c a l hl g b _ rfl
def aA.nil2{P:Program}{f:FuncId}{a:aa}{j:az}{g:Nat}{ac ap:aw}{r:Res}(h:aA P f (a::CA g [] J0::j) ac r ap):aA P f (a:: .nilslice::j) ac r ap:=
 λM ob w b hm d=>h M ob w b hm ⟨d.1,λi v x e c=>by
  match i with
  |0=>exact d.2 0 v x e c
  |1=>
   have c:aa.slice g [] J0=x:=by simpa using c
   subst c;have:=d.2 1 v .nilslice e rfl;cases this;exact .slnil _ _ trivial
  |i+2=>exact d.2 (i+2) v x e c⟩
def aCJ(c:Con)(j:c.sm)(g:Gan)(k:0<=g.pods/\g.pods<=16)(b:Bool)(i:(cE c [] g).isNone=b):bj 151 [c.av,g.av] (DA b):=by
 have a:=zS c j [] ⟨Bn _,λx h=>by simp at h⟩ g k;generalize cE c [] g=Q at a i;subst i;unfold fdA at a;cases Q with
 |none=>
  refine c_ f151 λ_=>?_;have d:=aA.nil2 a;exact zW
 |some x=>
  refine c_ f151 λ_=>?_;have e:=aA.nil2 a;exact zW
def RS(c:Con)(a:c.sm)(g:Gan)(b:0<=g.pods/\g.pods<=16):bj 151 [c.av,g.av] (DA (cE c [] g).isNone):=aCJ c a g b _ rfl
def aRk(x:Rn)(M:Imm)(ob:Hs)(vs:bb)(h:cL M ob vs [x.av]):inR Is x.st/\inR Is x.g.run:=by
 have hl:0<Z vs:=by rw[h.1];simp
 have:=h.2 0 _ x.av (Ab hl) rfl;exact⟨cN this 11 _ rfl,cN this 6 _ rfl⟩
def dG(x:Rn):Int:=if 9223372036854775807<x.st+x.g.run then 9223372036854775807 else if x.st+x.g.run< -9223372036854775808 then -9223372036854775808 else x.st+x.g.run
def aMd(x:Rn)(r:Int)(a:dG x=r):bj 158 [x.av] (ii r):=by
 refine aA.get _ (aRk x) λ⟨⟨a1,a2⟩,⟨b1,b2⟩⟩=>?_;simp only[bV,aW]at a1 a2 b1 b2;unfold dG at a;by_cases h1:9223372036854775807<x.st+x.g.run
 .rw [bu h1]at a;subst a;have e:=aI8 h1 o_;exact zqha7
 .rw [bt h1]at a;by_cases b:x.st+x.g.run< -9223372036854775808
  .rw [bu b]at a;subst a;have e:=aI7 b o_;exact zqha7
  .rw [bt b]at a;refine c_ f158 λ_=>?_
   repeat' first|refine pA ?_|exact rfl|refine lA ?_ ?_|intro h
   all_goals first|exact a▸rfl|(exfalso;simp at*;omega)
def GW(x:Rn):bj 158 [x.av] (ii (dG x)):=aMd x _ rfl
def aFx(x:Rn)(r:Int)(a:dG x=r):bj 80 [x.av] (ii r):=by
 refine aA.get _ (aRk x) λ⟨⟨a1,a2⟩,⟨b1,b2⟩⟩=>?_;simp only[bV,aW]at a1 a2 b1 b2;unfold dG at a;by_cases h1:9223372036854775807<x.st+x.g.run
 .rw [bu h1]at a;subst a;refine c_ f80 λ_=>?_
  repeat' first|(refine gN hE ?_;conv=>whnf)|exact rfl|refine aY ?_|refine aN ?_|refine aT λh=>?_|refine aF λh=>?_|refine Aa (λh=>?_) (λh=>bv (bm h) (by simp only[bo,bk]at*;omega))|refine Aa (λh=>bv (bn h) (by simp only[bo,bk]at*;omega)) (λh=>?_)|refine⟨λh=>?_,λh=>?_⟩|refine aJ ?_|refine⟨_,rfl,?_⟩|refine Aa d_ ?_|refine Aa o_ ?_|refine Fk (Aa (Aa (by simp only[bV];simp only[bo,bk]at*;omega) (by simp only[aW];simp only[bo,bk]at*;omega)) ?_)
 .rw [bt h1]at a;by_cases b:x.st+x.g.run< -9223372036854775808
  .rw [bu b]at a;subst a;refine c_ f80 λ_=>?_
   repeat' first|(refine gN hE ?_;conv=>whnf)|exact rfl|refine aY ?_|refine aN ?_|refine aT λh=>?_|refine aF λh=>?_|refine Aa (λh=>?_) (λh=>bv (bm h) (by simp only[bo,bk]at*;omega))|refine Aa (λh=>bv (bn h) (by simp only[bo,bk]at*;omega)) (λh=>?_)|refine⟨λh=>?_,λh=>?_⟩|refine aJ ?_|refine⟨_,rfl,?_⟩|refine Aa d_ ?_|refine Aa o_ ?_|refine Fk (Aa (Aa (by simp only[bV];simp only[bo,bk]at*;omega) (by simp only[aW];simp only[bo,bk]at*;omega)) ?_)
  .rw [bt b]at a;subst a;refine c_ f80 λ_=>?_
   repeat' first|(refine gN hE ?_;conv=>whnf)|exact rfl|refine aY ?_|refine aN ?_|refine aT λh=>?_|refine aF λh=>?_|refine Aa (λh=>?_) (λh=>bv (bm h) (by simp only[bo,bk]at*;omega))|refine Aa (λh=>bv (bn h) (by simp only[bo,bk]at*;omega)) (λh=>?_)|refine⟨λh=>?_,λh=>?_⟩|refine aJ ?_|refine⟨_,rfl,?_⟩|refine Aa d_ ?_|refine Aa o_ ?_|refine Fk (Aa (Aa (by simp only[bV];simp only[bo,bk]at*;omega) (by simp only[aW];simp only[bo,bk]at*;omega)) ?_)
def DK(x:Rn):bj 80 [x.av] (ii (dG x)):=aFx x _ rfl
def BK(l:ax)(h:Z l<=1048576):bj 265 [CA 1 (iv l) J0] (CA 1 (iv l) J0):=by
 have a:Z (iv l)=Z l:=by simp
 refine c_ f265 λ_=>gV ?_;intro b c;refine gV ?_;refine⟨λh=>?_,λh=>?_⟩
 .have h:b=true:=h;have e:iv l=[]:=c h;refine gV ?_;rw[e]
 .have h:b=false:=h;exact zW
def aJ4(x:Rn)(h:Z x.hs<=1048576):bj 228 [x.av] x.av:=by refine c_ f228 λ_=>?_;have a:=BK x.hs h;exact zW
def atL(l:a7)(t:Int):a7:=l.filter λx=>decide (t<dG x)
def aBA{x:Rn}{r:a7}{t:Int}(h:decide (t<dG x)=O):atL (x::r) t=x::atL r t:=List.filter_cons_of_pos h
def aBB{x:Rn}{r:a7}{t:Int}(h:decide (t<dG x)=S):atL (x::r) t=atL r t:=List.filter_cons_of_neg (by rw[h];decide)
def aM6(l:a7)(hs:Sm l)(t:Int)(R:a7):∀(n i:Nat) (a:a7),i+n=Z l->Z a<=i->a++atL (l.drop i) t=R->
  BC (Eo [5] []) f159 (CA 14 (rav R) J0) [(1,GE Is t),(5,CA 14 (rav a) (.own 0 0)),(8,CA 14 (rav l) J0),(9,GE Is (Z (rav l):Nat)),(10,GE Is i)] [Fr 0 14 85]:=by
 have k:Z (rav l)=Z l:=by simp
 have hl:=hs.1;intro n;induction n with
 |zero=>
  intro i a q r b;exact zqha9
 |succ n g=>
  intro i a q r b;have c:i<Z l:=o_;rw[Ac c]at b;have j:=hs.at c;generalize o:l[i]=x at b j;have get:(rav l)[i]? =X x.av:=(cB c).trans (by rw[o]);have p:Z (rav a)=Z a:=by simp
  refine gV ?_;refine aT λh=>gV ?_;refine⟨i,rfl,gV ?_⟩;refine⟨_,get,gV ?_⟩;refine .p (GW x) (gV ?_);refine Aa (λd=>?_) (λd=>?_)
  .have d:decide (t<dG x)=true:=d;rw[aBA d]at b;refine gV ?_;refine .p (aJ4 x j) (gV ?_);refine⟨⟨by simp only[maxLen];simp;omega,by simp;omega⟩,?_⟩;refine gV ?_;refine aJ (gV ?_);refine To.part [1,5,8,9,10] [0] rfl rfl rfl ?_;have next:=g (i+1) (a++[x]) o_ q_ (by rw[Ag];exact b)
   have e:rav (a++[x])=rav a++[x.av]:=by simp
   rw[e]at next
   exact next
  .have f:decide (t<dG x)=false:=d;rw[aBB f]at b;have m:=g (i+1) a o_ o_ b;exact zW
def aIN(l:a7)(hs:Sm l)(t:Int):bj 159 [CA 14 (rav l) J0,ii t] (CA 14 (rav (atL l t)) J0):=by refine gA (Eo [5] []) f159 λ_=>?_;have a:=aM6 l hs t _ (Z l) 0 [] o_ s_ rfl;exact zW
def aFK(l:a7)(hs:Sm l)(t:Int)(R:a7):∀(n i:Nat) (a:a7),i+n=Z l->Z a<=i->a++atL (l.drop i) t=R->
  BC (Eo [5] []) f81 (CA 14 (rav R) J0) [(0,CA 14 (rav l) J0),(1,GE Is t),(5,CA 14 (rav a) (.own 0 0)),(6,GE Is i)] [Fr 0 14 85]:=by
 have k:Z (rav l)=Z l:=by simp
 have hl:=hs.1;intro n;induction n with
 |zero=>
  intro i a p q b;exact zqha9
 |succ n j=>
  intro i a p q b;have c:i<Z l:=o_;rw[Ac c]at b;generalize m:l[i]=x at b;have get:(rav l)[i]? =X x.av:=(cB c).trans (by rw[m]);have o:Z (rav a)=Z a:=by simp
  refine gV ?_;refine aT λh=>gV ?_;refine⟨i,rfl,gV ?_⟩;refine⟨_,get,gV ?_⟩;refine .p (DK x) (gV ?_);refine Aa (λd=>?_) (λd=>?_)
  .have d:decide (t<dG x)=true:=d;rw[aBA d]at b;refine gV ?_;refine⟨i,rfl,gV ?_⟩;refine⟨_,get,gV ?_⟩;refine⟨⟨by simp only[maxLen];simp;omega,by simp;omega⟩,?_⟩;refine gV ?_;refine aJ (gV ?_);refine To.part [0,1,5,6] [0] rfl rfl rfl ?_;have next:=j (i+1) (a++[x]) o_ q_ (by rw[Ag];exact b)
   have e:rav (a++[x])=rav a++[x.av]:=by simp
   rw[e]at next
   exact next
  .have f:decide (t<dG x)=false:=d;rw[aBB f]at b;have g:=j (i+1) a o_ o_ b;exact zW
def aFJ(l:a7)(hs:Sm l)(t:Int):bj 81 [CA 14 (rav l) J0,ii t] (CA 14 (rav (atL l t)) J0):=by refine gA (Eo [5] []) f81 λ_=>?_;have a:=aFK l hs t _ (Z l) 0 [] o_ s_ rfl;exact zW
def YP{l:a7}(h:Sm l)(t:Int):Sm (atL l t):=
 ⟨Cl (List.length_filter_le _ _) h.1,λx a=>h.2 x (List.mem_filter.1 a).1⟩
open Go.Shelf
set_option maxRecDepth 100000
def aJJ:Go.Shelf.Ren:=⟨fun|125=>359|128=>376|129=>377|189=>333|215=>319|216=>373|257=>358|294=>367|295=>368|296=>369|297=>370|298=>371|299=>372|300=>374|301=>375|328=>379|329=>380|330=>381|331=>382|332=>383|343=>384|n=>n,fun|0=>0|3=>3|4=>4|5=>5|9=>9|28=>83|46=>309|51=>254|53=>55|131=>216|182=>411|183=>412|218=>421|222=>425|228=>427|229=>428|n=>n,λn=>n⟩
def PJ:Lays.n189 Tryz.prog aJJ where
 mixed:=by kernel_rfl
 f125:=Tryz.func359.trans (congrArg X (by kernel_rfl))
 f128:=Tryz.func376.trans (congrArg X (by kernel_rfl))
 f129:=Tryz.func377.trans (congrArg X (by kernel_rfl))
 f189:=Tryz.func333.trans (congrArg X (by kernel_rfl))
 f215:=Tryz.func319.trans (congrArg X (by kernel_rfl))
 f216:=Tryz.func373.trans (congrArg X (by kernel_rfl))
 f257:=Tryz.func358.trans (congrArg X (by kernel_rfl))
 f294:=Tryz.func367.trans (congrArg X (by kernel_rfl))
 f295:=Tryz.func368.trans (congrArg X (by kernel_rfl))
 f296:=Tryz.func369.trans (congrArg X (by kernel_rfl))
 f297:=Tryz.func370.trans (congrArg X (by kernel_rfl))
 f298:=Tryz.func371.trans (congrArg X (by kernel_rfl))
 f299:=Tryz.func372.trans (congrArg X (by kernel_rfl))
 f300:=Tryz.func374.trans (congrArg X (by kernel_rfl))
 f301:=Tryz.func375.trans (congrArg X (by kernel_rfl))
 f328:=Tryz.func379.trans (congrArg X (by kernel_rfl))
 f329:=Tryz.func380.trans (congrArg X (by kernel_rfl))
 f330:=Tryz.func381.trans (congrArg X (by kernel_rfl))
 f331:=Tryz.func382.trans (congrArg X (by kernel_rfl))
 f332:=Tryz.func383.trans (congrArg X (by kernel_rfl))
 f343:=Tryz.func384.trans (congrArg X (by kernel_rfl))
 t0:=underlying0
 a0:=Tryz.isAgg0
 z0:=Tryz.sizeOf0
 v0:=Tryz.zeroValue0
 t3:=underlying3
 a3:=Tryz.isAgg3
 z3:=Tryz.sizeOf3
 v3:=Tryz.zeroValue3
 t4:=underlying4
 a4:=Tryz.isAgg4
 z4:=Tryz.sizeOf4
 v4:=Tryz.zeroValue4
 t5:=underlying5
 a5:=Tryz.isAgg5
 z5:=Tryz.sizeOf5
 v5:=Tryz.zeroValue5
 t9:=underlying9
 a9:=Tryz.isAgg9
 z9:=Tryz.sizeOf9
 v9:=Tryz.zeroValue9
 t28:=underlying83
 a28:=Tryz.isAgg83
 z28:=Tryz.sizeOf83
 v28:=Tryz.zeroValue83
 t46:=underlying309
 a46:=Tryz.isAgg309
 z46:=Tryz.sizeOf309
 v46:=Tryz.zeroValue309
 t51:=underlying254
 a51:=Tryz.isAgg254
 z51:=Tryz.sizeOf254
 v51:=Tryz.zeroValue254
 t53:=underlying55
 a53:=Tryz.isAgg55
 z53:=Tryz.sizeOf55
 v53:=Tryz.zeroValue55
 t131:=underlying216
 a131:=Tryz.isAgg216
 z131:=Tryz.sizeOf216
 v131:=Tryz.zeroValue216
 t182:=underlying411
 a182:=Tryz.isAgg411
 z182:=Tryz.sizeOf411
 v182:=Tryz.zeroValue411
 t183:=underlying412
 a183:=Tryz.isAgg412
 z183:=Tryz.sizeOf412
 v183:=Tryz.zeroValue412
 t218:=underlying421
 a218:=Tryz.isAgg421
 z218:=Tryz.sizeOf421
 v218:=Tryz.zeroValue421
 t222:=underlying425
 a222:=Tryz.isAgg425
 z222:=Tryz.sizeOf425
 v222:=Tryz.zeroValue425
 t228:=underlying427
 a228:=Tryz.isAgg427
 z228:=Tryz.sizeOf427
 v228:=Tryz.zeroValue427
 t229:=underlying428
 a229:=Tryz.isAgg428
 z229:=Tryz.sizeOf428
 v229:=Tryz.zeroValue428
def wK(l:ax):ax:=l.mergeSort λx y=>decide (x<=y)
def aJI(l:ax)(hl:Z l<=1000000000):ar 333 [.row 0 0] [.row 0 1 3 (iv l)] (Io (GT [])) [.row 0 1 3 (iv (wK l))]:=
 H0 (λ_ _=>by rfl) (λp cap w=>Any.slices_Sort_int_none PJ p cap w) (λblk off cap b w a c hz=>Any.slices_Sort_int PJ blk off cap b w a c hz) 3 l hl
set_option maxRecDepth 10000
def kyv(n:Int):aa:=He [ii n]
abbrev kv(l:ax):az:=l.map kyv
def aGS{l:ax}{i:Nat}(h:i<Z l):(kv l)[i]? =X (kyv l[i]):=by simp[kv,h]
abbrev aPA(n:Int):aa:=.func (.func 332) [] [.ptr [ii n]]
def aPy(x n:Int):bj 332 [kyv x,.ptr [ii n]] (DA (x==n&&O)):=by exact c_ f332 λ_=>zW
def CG(n:Int):ax->Nat->Int
 |[],_=> -1
 |x::r,i=>if(x==n&&O)then(i:Int)else CG n r (i+1)
def has(l:ax)(n:Int):Bool:=decide (0<=CG n l 0)
def aG2(l:ax)(n:Int)(hl:Ig (Z (kv l)))(r:Int):∀(m i:Nat),i+m=Z l->CG n (l.drop i) i=r->
  BC E f357 (ii r) [(0,CA 1 (kv l) J0),(1,aPA n),(7,GE Is (Z (kv l):Nat)),(8,GE Is i)] []:=by
 have c:Z (kv l)=Z l:=by simp
 intro m;induction m with
 |zero=>
  intro i f a;rw[Ae o_]at a;subst a;exact tA
 |succ m g=>
  intro i f a;have b:i<Z l:=o_;rw[Ac b]at a;generalize e:l[i]=x at a;have get:(kv l)[i]? =X (kyv x):=(aGS b).trans (by rw[e]);unfold CG at a;refine gV ?_;refine aT λh=>?_
  repeat' first|refine pA ?_|refine⟨_,get,?_⟩|refine .p (aPy x n) ?_|exact rfl|refine lA ?_ ?_|intro h
  .have h:(x==n&&O)=true:=h;rw[bu h]at a;rw[<-a]
  .have h:(x==n&&O)=false:=h;rw[bt (by rw[h];decide)]at a;have d:=g (i+1) o_ a;exact zW
def aPE(l:ax)(n:Int):bj 357 [CA 1 (kv l) J0,aPA n] (ii (CG n l 0)):=by refine c_ f357 λb=>?_;have hl:(Z (kv l):Int)<=9223372036854775807:=b.1;have a:=aG2 l n hl _ (Z l) 0 o_ rfl;exact zW
def aPJ(l:ax)(n:Int):bj 331 [CA 1 (kv l) J0,aPA n] (DA (has l n)):=by refine c_ f331 λ_=>?_;have a:=aPE l n;exact zW
def sB(now:Int):a7->ax->ax
 |[],ks=>ks
 |x::r,ks=>sB now r (if decide (now<dG x)&& !has ks (dG x)then ks++[dG x]else ks)
def JY(now:Int):∀(l:a7) (ks:ax),Z (sB now l ks)<=Z ks+Z l
 |[],ks=>by simp[sB]
 |x::r,ks=>by
  unfold sB;have:=JY now r (if decide (now<dG x)&& !has ks (dG x)then ks++[dG x]else ks);split at this
  .rename_i h;rw[bu h];simp only[Ah,Al,Bs]at this⊢;omega
  .rename_i h;rw[bt h];simp only[Al];omega
noncomputable abbrev En:Env:=Ex [5] [9] []
def hEn:ae En:=hEx _ _ _
def XL(ks:ax)(m:Z ks<=1048576):∀(n i:Nat) (a:ax),i+n=Z ks->a=ks.take i->
  To En f298 (.pure (Io (CA 1 (iv (wK ks)) J0))) (G0 (stk f298 1) [(9,.row 0 0),(36,CA 1 (kv ks) J0),(37,GE Is (Z (kv ks):Nat)),(38,GE Is i)] [.row 0 1 3 (iv a)]):=by
 have f:Z (kv ks)=Z ks:=by simp
 intro n;induction n with
 |zero=>
  intro i a g c;rw[Bq o_]at c;subst c;refine gW hEn ?_;conv=>whnf
  refine aF λh=>?_;refine gW hEn ?_;conv=>whnf
  refine .eff [] [0] _ _ rfl (aJI a o_) ?_
  repeat' first|refine pA ?_|exact rfl|refine lA ?_ ?_|intro h
 |succ n j=>
  intro i a g c;have b:i<Z ks:=o_;generalize d:ks[i]=x;have get:(kv ks)[i]? =X (kyv x):=(aGS b).trans (by rw[d]);have k:Z a=i:=by rw[c];simp;omega
  have l:Z (iv a)=Z a:=by simp
  refine gW hEn ?_;conv=>whnf
  refine aT λh=>?_;refine gW hEn ?_;conv=>whnf
  refine⟨i,rfl,?_⟩;refine gW hEn ?_;conv=>whnf
  refine⟨_,get,?_⟩;refine gW hEn ?_;conv=>whnf
  refine⟨⟨by decide,by decide⟩,?_⟩;refine gW hEn ?_;conv=>whnf
  refine⟨⟨by simp only[maxLen];simp;omega,by simp;omega⟩,?_⟩;refine gW hEn ?_;conv=>whnf
  refine aJ ?_;refine gW hEn ?_;conv=>whnf
  refine To.part [9,36,37,38] [0] rfl rfl rfl ?_;have next:=j (i+1) (a++[x]) o_ (by rw[c,<-d];exact Iv b)
  have e:iv (a++[x])=iv a++[ii x]:=by simp
  rw[e]at next
  exact next
def aDg(l:a7)(hs:Sm l)(now:Int)(R:ax):∀(n i:Nat) (ks:ax),i+n=Z l->Z ks<=i->wK (sB now (l.drop i) ks)=R->
  BC En f298 (CA 1 (iv R) J0) [(1,GE Is now),(5,CA 1 (kv ks) (.own 0 0)),(12,CA 14 (rav l) J0),(13,GE Is (Z (rav l):Nat)),(14,GE Is i)] [Fr 0 1 387]:=by
 have j:Z (rav l)=Z l:=by simp
 have hl:=hs.1;intro n;induction n with
 |zero=>
  intro i ks p o a;rw[Ae o_]at a;have a:wK ks=R:=a;subst a;refine gW hEn ?_;conv=>whnf
  refine aF λh=>?_;refine gW hEn ?_;conv=>whnf
  refine To.part [9,36,37,38] [1] rfl rfl rfl ?_;have g:=XL ks o_ (Z ks) 0 [] o_ s_;exact zW
 |succ n d=>
  intro i ks p o a;have c:i<Z l:=o_;rw[Ac c]at a;generalize m:l[i]=x at a;have get:(rav l)[i]? =X x.av:=(cB c).trans (by rw[m]);have q:Z (kv ks)=Z ks:=by simp
  unfold sB at a;refine gW hEn ?_;conv=>whnf
  refine aT λh=>?_;refine gW hEn ?_;conv=>whnf
  refine⟨i,rfl,?_⟩;refine gW hEn ?_;conv=>whnf
  refine⟨_,get,?_⟩;refine gW hEn ?_;conv=>whnf
  refine .p (GW x) ?_;refine gW hEn ?_;conv=>whnf
  refine⟨⟨by decide,by decide⟩,?_⟩;refine gW hEn ?_;conv=>whnf
  refine Aa (λh1=>?_) (λh1=>?_)
  .have h1:decide (now<dG x)=true:=h1;refine gW hEn ?_;conv=>whnf
   refine .p (aPJ ks (dG x)) ?_;refine gW hEn ?_;conv=>whnf
   refine Aa (λb=>?_) (λb=>?_)
   .have b:(!has ks (dG x))=true:=b;rw[h1,b,bu d_]at a;refine gW hEn ?_;conv=>whnf
    refine⟨⟨by simp only[maxLen];simp;omega,by simp;omega⟩,?_⟩;refine gW hEn ?_;conv=>whnf
    refine aJ ?_;refine gW hEn ?_;conv=>whnf
    refine To.part [1,5,12,13,14] [0] rfl rfl rfl ?_;have next:=d (i+1) (ks++[dG x]) o_ q_ a
    have e:kv (ks++[dG x])=kv ks++[kyv (dG x)]:=by simp
    rw[e]at next
    exact next
   .have b:(!has ks (dG x))=false:=b;rw[h1,b,bt d_]at a;refine gW hEn ?_;conv=>whnf
    refine aJ ?_;refine gW hEn ?_;conv=>whnf
    have k:=d (i+1) ks o_ o_ a;exact zW
  .have h1:decide (now<dG x)=false:=h1;rw[h1,Cq,bt d_]at a
   repeat' first|refine pA ?_|exact rfl|refine lA ?_ ?_|intro h
   have f:=d (i+1) ks o_ o_ a;exact zW
def zX(l:a7)(now:Int):ax:=wK (sB now l [])
def aMc(l:a7)(hs:Sm l)(now:Int):bj 298 [CA 14 (rav l) J0,ii now] (CA 1 (iv (zX l now)) J0):=by
 refine gA En f298 λ_=>?_;refine gW hEn ?_;conv=>whnf
 have a:=aDg l hs now _ (Z l) 0 [] o_ s_ rfl;exact zW
def rL(n:Int):ax->ax
 |[]=>[n]
 |x::r=>if x<n then x::rL n r else if x=n then x::r else n::x::r
def rE(now:Int):a7->ax->ax
 |[],out=>out
 |x::r,out=>rE now r (if dG x<=now then out else rL (dG x) out)
def SB(n:Int):∀(l:ax),Z (rL n l)<=Z l+1
 |[]=>by simp[rL]
 |x::r=>by
  have:=SB n r;unfold rL;split
  .simp only[Al];omega
  .split<;>simp
noncomputable abbrev Ee:Env:=Ex [5,54] [] [58,59,60]
def hEe:ae Ee:=hEx _ _ _
abbrev reO:aw:=[Fr 0 1 3]
def QA(l:a7)(now:Int)(R:ax)(i:Nat)(D:i<1048576)(n:Int)(out:ax)(C:Z out<=i)(rest:a7)
  (p:∀(c:ax),Z c<=i+1->rE now rest c=R->BC Ee f189 (CA 1 (iv R) J0) [(0,CA 14 (rav l) J0),(1,GE Is now),(5,CA 1 (iv c) (.own 0 0)),(6,GE Is ((i:Int)+1))] reO)
  (d:rE now rest (if n<=now then out else rL n out)=R):∀(m k:Nat),k+m=Z out->rL n out=out.take k++rL n (out.drop k)->
  To Ee f189 (.pure (Io (CA 1 (iv R) J0))) (G0 (stk f189 1) [(0,CA 14 (rav l) J0),(1,GE Is now),(5,CA 1 (iv out) (.own 0 0)),(6,GE Is i),(7,GE Is n),(8,GE Is k)] reO):=by
 have A:Z (iv out)=Z out:=by simp
 intro m;induction m with
 |zero=>
  intro k z a;rw[Ae o_,Bq o_]at a;have a:rL n out=out++[n]:=a;have w:Fx k (iv out)=[]:=Ae o_;have B:Fi k (iv out)=iv out:=Bq o_;refine gW hEe ?_;conv=>whnf
  refine aF λh=>?_;refine gW hEe ?_;conv=>whnf
  refine aN ?_;refine gW hEe ?_;conv=>whnf
  refine Aa (λh1=>?_) (λh1=>?_)
  .have b:=bn h1;have s:=p out o_ (by rw[bu b]at d;exact d);exact zW
  .have b:=bm h1;refine gW hEe ?_;conv=>whnf
   refine aF λh=>?_;refine gW hEe ?_;conv=>whnf
   refine aN ?_;refine gW hEe ?_;conv=>whnf
   refine⟨k,rfl,?_⟩;refine gW hEe ?_;conv=>whnf
   refine⟨by omega,?_⟩;refine gW hEe ?_;conv=>whnf
   refine⟨⟨by simp only[maxLen];simp;omega,by simp;omega⟩,?_⟩;refine gW hEe ?_;conv=>whnf
   refine⟨⟨by simp only[maxLen];simp;omega,by simp;omega⟩,?_⟩;refine gW hEe ?_;conv=>whnf
   refine⟨k,rfl,?_⟩;refine gW hEe ?_;conv=>whnf
   refine⟨by omega,?_⟩;refine gW hEe ?_;conv=>whnf
   refine⟨⟨by simp only[maxLen];simp;omega,by simp;omega⟩,?_⟩;refine gW hEe ?_;conv=>whnf
   refine aJ ?_;refine gW hEe ?_;conv=>whnf
   refine To.part [0,1,5,6] [1] rfl rfl rfl ?_;rw[bt b,a]at d;have next:=p (out++[n]) q_ d
   have e:iv (out++[n])=Fi k (iv out)++[ii n]++Fx k (iv out):=by rw[w,B];simp
   rw[e]at next
   exact next
 |succ m r=>
  intro k z a;have f:k<Z out:=o_;rw[Ac f]at a;have o:out.take k++[out[k]]=out.take (k+1):=Iv f;have g:out.drop k=out[k]::out.drop (k+1):=Ac f;generalize y:out[k]=x at a o g;have get:(iv out)[k]? =X (ii x):=(cD f).trans (by rw[y]);have a:rL n out=out.take k++(if x<n then x::rL n (out.drop (k+1))else if x=n then x::out.drop (k+1)else n::x::out.drop (k+1)):=a;refine gW hEe ?_;conv=>whnf
  refine aT λh=>?_;refine gW hEe ?_;conv=>whnf
  refine⟨k,rfl,?_⟩;refine gW hEe ?_;conv=>whnf
  refine⟨_,get,?_⟩;refine gW hEe ?_;conv=>whnf
  refine Aa (λh1=>?_) (λh1=>?_)
  .have j:=bn h1;rw[bu j]at a;have v:=r (k+1) o_ (by rw[a,<-o,Ag];rfl);exact zW
  .have j:=bm h1;rw[bt j]at a;refine gW hEe ?_;conv=>whnf
   refine Aa (λq=>?_) (λq=>?_)
   .have b:=bn q;have t:=p out o_ (by rw[bu b]at d;exact d);exact zW
   .have b:=bm q;rw[bt b]at d;refine gW hEe ?_;conv=>whnf
    refine aT λh=>?_;refine gW hEe ?_;conv=>whnf
    refine⟨k,rfl,?_⟩;refine gW hEe ?_;conv=>whnf
    refine⟨_,get,?_⟩;refine gW hEe ?_;conv=>whnf
    refine Aa (λh3=>?_) (λh3=>?_)
    .have h3:(x==n)=true:=h3;have h3:x=n:=by simpa using h3
     rw[bu h3]at a;have e:rL n out=out:=by rw[a,<-g,List.take_append_drop]
     rw[e]at d;have u:=p out o_ d;exact zW
    .have h3:(x==n)=false:=h3;have h3:¬ x=n:=by simpa using h3
     rw[bt h3,<-g]at a;refine gW hEe ?_;conv=>whnf
     refine⟨k,rfl,?_⟩;refine gW hEe ?_;conv=>whnf
     refine⟨by omega,?_⟩;refine gW hEe ?_;conv=>whnf
     refine⟨⟨by simp only[maxLen];simp;omega,by simp;omega⟩,?_⟩;refine gW hEe ?_;conv=>whnf
     refine⟨⟨by simp only[maxLen];simp;omega,by simp;omega⟩,?_⟩;refine gW hEe ?_;conv=>whnf
     refine⟨k,rfl,?_⟩;refine gW hEe ?_;conv=>whnf
     refine⟨by omega,?_⟩;refine gW hEe ?_;conv=>whnf
     refine⟨⟨by simp only[maxLen];simp;omega,by simp;omega⟩,?_⟩;refine gW hEe ?_;conv=>whnf
     refine aJ ?_;refine gW hEe ?_;conv=>whnf
     refine To.part [0,1,5,6] [1] rfl rfl rfl ?_;rw[a]at d;have next:=p (out.take k++n::out.drop k) q_ d
     have e:iv (out.take k++n::out.drop k)=Fi k (iv out)++[ii n]++Fx k (iv out):=by simp
     rw[e]at next
     exact next
def VR(l:a7)(hs:Sm l)(now:Int)(R:ax):∀(m i:Nat) (out:ax),i+m=Z l->Z out<=i->rE now (l.drop i) out=R->
  BC Ee f189 (CA 1 (iv R) J0) [(0,CA 14 (rav l) J0),(1,GE Is now),(5,CA 1 (iv out) (.own 0 0)),(6,GE Is i)] reO:=by
 have f:Z (rav l)=Z l:=by simp
 have hl:=hs.1;intro m;induction m with
 |zero=>
  intro i out k d a;rw[Ae o_]at a;have a:out=R:=a;subst a;refine gW hEe ?_;conv=>whnf
  exact zW
 |succ m n=>
  intro i out k d a;have b:i<Z l:=o_;rw[Ac b]at a;generalize j:l[i]=x at a;have get:(rav l)[i]? =X x.av:=(cB b).trans (by rw[j]);unfold rE at a;refine gW hEe ?_;conv=>whnf
  refine aT λh=>?_;refine gW hEe ?_;conv=>whnf
  refine⟨i,rfl,?_⟩;refine gW hEe ?_;conv=>whnf
  refine⟨_,get,?_⟩;have e:=DK x;have g:=QA l now R i o_ (dG x) out d (l.drop (i+1)) (λc h1 o=>n (i+1) c o_ h1 o) a (Z out) 0 o_ s_;exact zW
def aFw(l:a7)(hs:Sm l)(now:Int):bj 189 [CA 14 (rav l) J0,ii now] (CA 1 (iv (rE now l [])) J0):=by refine gA Ee f189 λ_=>?_;have a:=VR l hs now _ (Z l) 0 [] o_ s_ rfl;exact zW
def stF(c:Con)(l:a7)(g:Gan):ax->Option Int
 |[]=>U
 |t::r=>if(cE c (atL l t) g).isSome=O then X t else stF c l g r
def stA:Option Int->aa
 |some t=>.tup [ii t,.bool O]
 |none=>.tup [ii 0,.bool S]
def mQ(c:Con)(now:Int)(l:a7)(g:Gan):Option Int:=stF c l g (now::zX l now)
def U3(c:Con)(o:c.sm)(now:Int)(l:a7)(hs:Sm l)(g:Gan)(k:0<=g.pods/\g.pods<=16)(es:ax)(p:Z es<=1048576)(R:Option Int):∀(m i:Nat),i+m=Z es+1->stF c l g ((now::es).drop i)=R->
  BC E f235 (stA R) [(1,ii now),(2,CA 14 (rav l) J0),(4,G2 0 0),(7,G2 1 0),(10,CA 1 (iv es) J0),(21,GE Is ((Z (iv es):Nat)+1)),(22,ii i)] (aAY c g):=by
 have n:Z (iv es)=Z es:=by simp
 intro m;induction m with
 |zero=>
  intro i q a;rw[Ae q_]at a;have a:U=R:=a;subst a;exact tA
 |succ m f=>
  intro i q a;have e:i<Z (now::es):=by simp;omega
  rw[Ac e]at a;have f:=f (i+1) o_;cases i with
  |zero=>
   have a:stF c l g (now::(now::es).drop 1)=R:=a;have d:=zS c o (atL l now) (YP hs now) g k;have b:=aIN l hs now;unfold stF at a;generalize cE c (atL l now) g=Q at a d;unfold fdA at d;generalize atL l now=al at b d;refine gV ?_;refine aT λh=>gV ?_;refine aF λh=>gV ?_;refine .p b (gV ?_);cases Q with
   |none=>
    rw[bt d_]at a;have next:=f a
    exact zW
   |some x=>
    exact zqha12
  |succ j=>
   have r:j<Z es:=by simp at e;omega
   have a:stF c l g (es[j]::(now::es).drop (j+1+1))=R:=a;have get:(iv es)[j]? =X (ii es[j]):=cD r;generalize es[j]=t at a get;have d:=zS c o (atL l t) (YP hs t) g k;have b:=aIN l hs t;unfold stF at a;generalize cE c (atL l t) g=Q at a d;unfold fdA at d;generalize atL l t=al at b d;refine gV ?_;refine aT λh=>gV ?_;refine aT λh=>gV ?_;refine aJ (gV ?_);refine⟨j,by omega,gV ?_⟩;refine⟨_,get,gV ?_⟩;refine .p b (gV ?_);cases Q with
   |none=>
    rw[bt d_]at a;have next:=f a
    exact zW
   |some x=>
    exact zqha12
def aEs(c:Con)(e:c.sm)(now:Int)(l:a7)(hs:Sm l)(g:Gan)(h:0<=g.pods/\g.pods<=16):bj 235 [c.av,ii now,CA 14 (rav l) J0,g.av] (stA (mQ c now l g)):=by
 have a:Z (zX l now)<=1048576:=by
  unfold zX wK;rw[List.length_mergeSort];have:=JY now l [];have:=hs.1;simp at*
  omega
 have d:=aMc l hs now;unfold mQ;generalize zX l now=es at a d;have b:Z (iv es)=Z es:=by simp
 refine c_ f235 λ_=>gV ?_;refine .p d (gV ?_);refine aJ (gV ?_);exact To.cut [1,2,4,7,10,21,22] 2 rfl rfl rfl rfl (U3 c e now l hs g h es a _ (Z es+1) 0 o_ rfl)
def bmB(now:Int)(g:Gan)(t:Int):Bool:=decide (dG ⟨g,0,0,now,0,[]⟩<=t)
def aIF(now:Int)(g:Gan)(t:Int)(b:Bool)(a:bmB now g t=b):bj 289 [ii now,g.av,ii t] (DA b):=by have c:=GW ⟨g,0,0,now,0,[]⟩;unfold bmB at a;generalize dG ⟨g,0,0,now,0,[]⟩=x at a c;subst a;exact c_ f289 λ_=>zW
def aM2(now:Int)(g:Gan)(t:Int):bj 289 [ii now,g.av,ii t] (DA (bmB now g t)):=aIF now g t _ rfl
def aFe(now:Int)(g:Gan)(t:Int)(b:Bool)(a:bmB now g t=b):bj 128 [ii now,g.av,ii t] (DA b):=by have c:=DK ⟨g,0,0,now,0,[]⟩;unfold bmB at a;generalize dG ⟨g,0,0,now,0,[]⟩=x at a c;subst a;exact c_ f128 λ_=>zW
def aKc(now:Int)(g:Gan)(t:Int):bj 128 [ii now,g.av,ii t] (DA (bmB now g t)):=aFe now g t _ rfl
def aO(v:V3):Bool:=decide (0<=v.a/\v.a<=1048576)&&decide (0<=v.b/\v.b<=1048576)&&decide (0<=v.c/\v.c<=1048576)
def aBL(v:V3)(b:Bool)(d:aO v=b):bj 74 [v.av] (DA b):=by
 unfold aO at d;refine c_ f74 λ_=>?_
 repeat' first
  |(refine gW hE ?_;conv=>whnf)
  |exact d
  |refine aY ?_
  |refine aN ?_
  |refine Aa (λh=>?_) (λh=>?_)
  |refine aJ ?_
  |refine Aj _ (Aa rfl ?_)
  |refine Aa d_ ?_
 all_goals (refine congrArg (λb=>Res.ret (aa.bool b)) ?_;rw[<-d];simp only[bo,bk]at*)
 .rw [bp (p:=0<=v.a/\v.a<=1048576) o_];rfl
 .rw [bp (p:=0<=v.a/\v.a<=1048576) o_];rfl
 .rw [bp (p:=0<=v.b/\v.b<=1048576) o_,Bo];rfl
 .rw [bp (p:=0<=v.b/\v.b<=1048576) o_,Bo];rfl
 .rw [bp (p:=0<=v.c/\v.c<=1048576) o_,Bo]
 .rw [bp (p:=0<=v.c/\v.c<=1048576) o_,Bo]
 .rw [bq (p:=0<=v.a/\v.a<=1048576) o_,bq (p:=0<=v.b/\v.b<=1048576) o_,bq (p:=0<=v.c/\v.c<=1048576) o_];rfl
def sR(v:V3):bj 74 [v.av] (DA (aO v)):=aBL v _ rfl
def rlB(ns:bc)(t:Int):Bool:=if decide (t<0)=O then S else if decide ((Z ns:Int)<=t)=O then S else ns.all λx=>!(x.p==t)
def VH(c:Con)(j:c.sm)(t:Int)(r:Bool):∀(m i:Nat),i+m=Z c.ns->((c.ns.drop i).all λx=>!(x.p==t))=r->
  BC E f117 (DA r) [(1,ii t),(2,G2 0 0),(5,ii i)] [Do 30 c.cs]:=by
 have f:Z (nav c.ns)=Z c.ns:=by simp
 have h1:=j.ns;intro m;induction m with
 |zero=>
  intro i g a;rw[Ae o_]at a;have a:O=r:=a;subst a;exact tA
 |succ m e=>
  intro i g a;have d:i<Z c.ns:=o_;rw[Ac d,Hi]at a;have get:=fP d;generalize c.ns[i]=x at a get;have e:=e (i+1) o_;refine gV ?_;refine aT λh=>gV ?_;refine⟨i,rfl,gV ?_⟩;refine⟨_,get,gV ?_⟩;refine Aa (λb=>?_) (λb=>?_)
  .have b:(x.p==t)=true:=b;rw[b]at a;have a:S=r:=a;subst a;exact zW
  .have b:(x.p==t)=false:=b;rw[b]at a;have a:((c.ns.drop (i+1)).all λx=>!(x.p==t))=r:=a
   repeat' first|refine pA ?_|exact rfl|refine lA ?_ ?_|intro h
   exact To.cut [1,2,5] 1 rfl rfl rfl rfl (e a)
def aCk(c:Con)(i:c.sm)(t:Int)(r:Bool)(a:rlB c.ns t=r):bj 117 [c.av,ii t] (DA r):=by
 have b:Z (nav c.ns)=Z c.ns:=by simp
 unfold rlB at a;by_cases e:t<0
 .rw [bu (bq e)]at a;subst a;exact c_ f117 λ_=>zW
 rw[bt (by rw[bp e];decide)]at a;by_cases d:(Z c.ns:Int)<=t
 .rw [bu (bq d)]at a;subst a;exact c_ f117 λ_=>zW
 rw[bt (by rw[bp d];decide)]at a;refine c_ f117 λ_=>?_
 repeat' first|refine pA ?_|exact rfl|refine lA ?_ ?_|intro h
 exact To.cut [1,2,5] 1 rfl rfl rfl rfl (VH c i t r (Z c.ns) 0 o_ a)
def kX(c:Con)(a:c.sm)(t:Int):bj 117 [c.av,ii t] (DA (rlB c.ns t)):=aCk c a t _ rfl
def aRO(ns:bc)(g:Gan):Bool:=decide (1<=g.id/\g.id<=1073741824/\1<=g.pods/\g.pods<=16)&&(aO g.need&&(decide (1<=g.run/\g.run<=1048576/\0<=g.lev/\g.lev<=3/\0<=g.pref/\g.pref<=g.lev)&&rlB ns g.ten))
def aNC(ns:bc)(g:Gan):Int:=if aRO ns g=O then 1 else 0
def aCn(a b:V3)(r:Bool)(c:bY a b=r):bj 118 [a.av,b.av] (DA r):=by
 unfold bY at c;refine c_ f118 λ_=>?_
 repeat' first
  |(refine gW hE ?_;conv=>whnf)
  |exact c
  |refine aY ?_
  |refine aN ?_
  |refine Aa (λh=>?_) (λh=>?_)
  |refine aJ ?_
  |refine Aj _ (Aa rfl ?_)
  |refine Aa d_ ?_
 all_goals (rw[<-c];simp_all)
def mT(a b:V3):bj 118 [a.av,b.av] (DA (bY a b)):=aCn a b _ rfl
def zB(v:V3):Bool:=v.a==0&&(v.b==0&&(v.c==0&&O))
def rU(i:Nat)(x:Nod):Prop:=(i=0/\x.p≠ -1)\/(0<i/\(x.p<0\/(i:Int)<=x.p))\/x.w<1\/1000<x.w
instance (i:Nat)(x:Nod):Decidable (rU i x):=by unfold rU;infer_instance
def lQ(bl:Bool)(i:Nat)(x:Nod):Bool:=if rU i x then S else if bl=O then aO x.n&&(aO x.b&&(aO x.l&&bY x.l x.n))else zB x.n&&(zB x.b&&zB x.l)
def aGs(c:Con)(i:Nat)(x:Nod)(a:(nav c.ns)[i]? =X x.av)(b:rU i x):bj 73 [c.av,ii i] (DA S):=by
 unfold rU at b;refine c_ f73 λ_=>?_
 repeat' first
  |(refine gW hE ?_;conv=>whnf)
  |(refine gW hE ?_;(conv=>whnf);done)
  |exact rfl
  |refine Aj i (Aa rfl ?_)
  |refine Aj _ (Aa a ?_)
  |refine aY ?_
  |refine aN ?_
  |refine aF λh=>?_
  |refine aT λh=>?_
  |refine Aa (λh=>?_) (λh=>?_)
 all_goals (exfalso;simp at*;omega)
def aCI(c:Con)(i:Nat)(x:Nod)(k:(nav c.ns)[i]? =X x.av)(r:¬ rU i x)(a j e d:Bool)(hl:bj 117 [c.av,ii i] (DA O))
  (o:bj 74 [x.n.av] (DA a)) (p:bj 74 [x.b.av] (DA j)) (m:bj 74 [x.l.av] (DA e))
  (q:bj 118 [x.l.av,x.n.av] (DA d)):bj 73 [c.av,ii i] (DA (a&&(j&&(e&&d)))):=by
 unfold rU at r;refine c_ f73 λ_=>?_
 repeat' first
  |(refine gW hE ?_;conv=>whnf)
  |exact rfl
  |refine .p hl ?_
  |refine .p o ?_
  |refine .p p ?_
  |refine .p m ?_
  |refine .p q ?_
  |refine Aj i (Aa rfl ?_)
  |refine Aj _ (Aa k ?_)
  |refine aY ?_
  |refine aN ?_
  |refine aF λh=>?_
  |refine aT λh=>?_
  |refine Aa (λh=>?_) (λh=>?_)
 all_goals first
  |(simp only[*,Bt,Cq,Bo];done)
  |(exfalso;simp at*;omega)
def WQ(c:Con)(i:Nat)(x:Nod)(a:(nav c.ns)[i]? =X x.av)(d:¬ rU i x)(hl:bj 117 [c.av,ii i] (DA S)):bj 73 [c.av,ii i] (DA (zB x.n&&(zB x.b&&zB x.l))):=by
 unfold rU at d;unfold zB;refine c_ f73 λ_=>?_
 repeat' first
  |(refine gW hE ?_;conv=>whnf)
  |exact rfl
  |refine .p hl ?_
  |refine Aj i (Aa rfl ?_)
  |refine Aj _ (Aa a ?_)
  |refine aY ?_
  |refine aN ?_
  |refine aF λh=>?_
  |refine aT λh=>?_
  |refine Aa (λh=>?_) (λh=>?_)
 all_goals first
  |(simp only[*,Bt,Cq,Bo];done)
  |(exfalso;simp at*;omega)
def aKV(c:Con)(g:c.sm)(i:Nat)(x:Nod)(d:(nav c.ns)[i]? =X x.av):bj 73 [c.av,ii i] (DA (lQ (rlB c.ns i) i x)):=by
 have hl:=kX c g i;unfold lQ;by_cases a:rU i x
 .rw [bu a];exact aGs c i x d a
 .rw [bt a];cases e:rlB c.ns i with
  |true=>
   rw[e]at hl;rw[bu rfl];exact aCI c i x d a _ _ _ _ hl (sR x.n) (sR x.b) (sR x.l) (mT x.l x.n)
  |false=>
   rw[e]at hl;rw[bt d_];exact WQ c i x d a hl
def BR(x:Hos):Prop:=x.f<0\/100<x.f\/x.b<0\/100<x.b\/x.r<0\/100<x.r
instance (x:Hos):Decidable (BR x):=by unfold BR;infer_instance
def jJ(x:Hos):Bool:=if BR x then S else aO x.c
def jH(ns:bc):Nat->bc->Bool
 |_,[]=>O
 |i,x::r=>if lQ (rlB ns i) i x=O then jH ns (i+1) r else S
def wZ(c:Con):Prop:=(1<=Z c.ns/\Z c.ns<=12)/\(1<=Z c.hs/\Z c.hs<=24)/\(1<=c.half/\c.half<=1048576)/\0<=c.age/\c.age<=1048576
instance (c:Con):Decidable (wZ c):=by unfold wZ;infer_instance
def bG(c:Con):Int:=if wZ c then(if jH c.ns 0 c.ns=O then(if c.hs.all jJ=O then 0 else 2)else 2)else 2
def T1(c:Con)(k:c.sm)(r:Int):∀(m i:Nat),i+m=Z c.hs->(if(c.hs.drop i).all jJ=O then(0:Int)else 2)=r->
  To E f36 (.pure (Io (ii r))) (G0 (stk f36 1) [(1,G2 0 0),(4,ii i)] [Do 30 c.cs]):=by
 have g:Z (hav c.hs)=Z c.hs:=by simp
 have h1:=k.hs;intro m;induction m with
 |zero=>
  intro i j a;rw[Ae o_]at a;have a:0=r:=a;subst a;exact tA
 |succ m e=>
  intro i j a;have d:i<Z c.hs:=o_;rw[Ac d,Hi]at a;have get:=oG d;generalize c.hs[i]=x at a get;have e:=e (i+1) o_;have l:=sR x.c;unfold jJ at a;generalize aO x.c=b at l a;by_cases f:BR x
  .rw [bu f]at a;have a:2=r:=a;subst a;unfold BR at f;refine gV ?_;refine aT λh=>?_
   repeat' first
    |(refine gN hE ?_;conv=>whnf)
    |exact rfl
    |refine Aj i (Aa rfl ?_)
    |refine Aj _ (Aa get ?_)
    |refine aY ?_
    |refine aN ?_
    |refine aF λh=>?_
    |refine aT λh=>?_
    |refine Aa (λh=>?_) (λh=>?_)
   all_goals (exfalso;simp at*;omega)
  .rw [bt f]at a;unfold BR at f;cases b with
   |false=>
    have a:2=r:=a;subst a;exact tA
   |true=>
    have e:=e a;exact tA
def TZ(c:Con)(f:c.sm)(r:Int):∀(m i:Nat),i+m=Z c.ns->(if jH c.ns i (c.ns.drop i)=O then(if c.hs.all jJ=O then(0:Int)else 2)else 2)=r->
  BC E f36 (ii r) [(1,G2 0 0),(3,ii i)] [Do 30 c.cs]:=by
 have g:Z (nav c.ns)=Z c.ns:=by simp
 have h1:=f.ns;intro m;induction m with
 |zero=>
  intro i k a;rw[Ae o_]at a;have a:(if c.hs.all jJ=O then(0:Int)else 2)=r:=a;refine gV ?_;refine aF λh=>?_
  repeat' first|refine pA ?_|exact rfl|refine lA ?_ ?_|intro h
  exact To.cut [1,4] 1 rfl rfl rfl rfl (T1 c f r (Z c.hs) 0 o_ a)
 |succ m e=>
  intro i k a;have d:i<Z c.ns:=o_;rw[Ac d]at a;have j:=aKV c f i _ (fP d);unfold jH at a;have e:=e (i+1) o_;generalize lQ (rlB c.ns i) i c.ns[i]=b at a j;cases b with
  |false=>
   have a:2=r:=a;subst a;exact tA
  |true=>
   rw[bu (show O=O from rfl)]at a;have e:=e a;exact tA
def check_any(c:Con)(d:c.sm)(r:Int)(a:bG c=r):bj 36 [c.av] (ii r):=by
 have e:Z (nav c.ns)=Z c.ns:=by simp
 have i:Z (hav c.hs)=Z c.hs:=by simp
 unfold bG at a;by_cases b:wZ c
 .rw [bu b]at a;unfold wZ at b;refine c_ f36 λ_=>?_
  repeat' first|refine pA ?_|exact rfl|refine lA ?_ ?_|intro h
  exact To.cut [1,3] 1 rfl rfl rfl rfl (TZ c d r (Z c.ns) 0 o_ a)
 .rw [bt b]at a;subst a;unfold wZ at b;refine c_ f36 λ_=>?_
  repeat' first
   |(refine gN hE ?_;conv=>whnf)
   |exact rfl
   |refine aY ?_
   |refine aN ?_
   |refine aF λh=>?_
   |refine aT λh=>?_
   |refine Aa (λh=>?_) (λh=>?_)
  all_goals (exfalso;simp at*;omega)
def check_ok(c:Con)(a:c.sm):bj 36 [c.av] (ii (bG c)):=check_any c a _ rfl
def aPH(n:Nat)(l:ax):Bool:=l.all λh=>decide (0<=h/\h<(n:Int))
def aQH(c:Con)(now:Int)(x:Rn):Prop:=aNC c.ns x.g=0\/x.st<0\/now<x.st\/(Z x.hs:Int)≠x.g.pods
instance (c:Con)(now:Int)(x:Rn):Decidable (aQH c now x):=by unfold aQH;infer_instance
def aSU(c:Con)(now:Int)(x:Rn):Bool:=if aQH c now x then S else aPH (Z c.hs) x.hs
def aQI(c:Con)(now:Int)(l:a7):Prop:=bG c≠0\/32<Z l\/now<0\/1099511627776<now
instance (c:Con)(now:Int)(l:a7):Decidable (aQI c now l):=by unfold aQI;infer_instance
def aTh(c:Con)(now:Int)(l:a7):Int:=if aQI c now l then 0 else if l.all (aSU c now)=O then 1 else 0
abbrev St(l:ax):Prop:=l.Pairwise (· < ·)
def F6{n x:Int}:∀{l:ax},x∈rL n l↔x=n\/x∈l
 |[]=>by simp[rL]
 |y::r=>by
  have a:=F6 (n:=n) (x:=x) (l:=r);unfold rL;split
  .simp only[Ba,a];constructor
   .exact zqha10
   .exact zqha10
  .split
   .rename_i h;subst h;simp only[Ba];constructor
    .rintro (h|h)
     .exact .inl h
     .exact .inr (.inr h)
    .rintro (h|h|h)
     .exact .inl h
     .exact .inl h
     .exact .inr h
   .simp only[Ba]
def aAD{n:Int}:∀{l:ax},St l->St (rL n l)
 |[],_=>by simp[rL]
 |y::r,h=>by
  have a:=Bp.1 h;unfold rL;split
  .rename_i b;refine Bp.2 ⟨λz hz=>?_,aAD a.2⟩;rcases F6.1 hz with rfl|hz
   .exact b
   .exact a.1 z hz
  .split
   .exact h
   .rename_i h1 c;refine Bp.2 ⟨λz hz=>?_,h⟩;rcases Ba.1 hz with rfl|hz
    .omega
    .have:=a.1 z hz;omega
def aFS{now:Int}:∀{l:a7} {out:ax},St out->St (rE now l out)
 |[],_,h=>h
 |x::r,out,h=>by
  unfold rE;split
  .exact aFS h
  .exact aFS (aAD h)
def VY{now n:Int}:∀{l:a7} {out:ax},n∈rE now l out↔n∈out\/∃x∈l,dG x=n/\now<n
 |[],out=>by simp[rE]
 |x::r,out=>by
  unfold rE;split
  .rename_i h;rw[VY (l:=r)];constructor
   .rintro (h1|⟨y,a,h1⟩)
    .exact .inl h1
    .exact .inr ⟨y,Az _ a,h1⟩
   .rintro (h1|⟨y,a,h1,b⟩)
    .exact .inl h1
    .rcases Ba.1 a with rfl|a
     .omega
     .exact .inr ⟨y,a,h1,b⟩
  .rename_i h;rw[VY (l:=r),F6];constructor
   .rintro ((h1|h1)|⟨y,a,h1⟩)
    .exact .inr ⟨x,by simp,h1.symm,by omega⟩
    .exact .inl h1
    .exact .inr ⟨y,Az _ a,h1⟩
   .rintro (h1|⟨y,a,h1,b⟩)
    .exact .inl (.inr h1)
    .rcases Ba.1 a with rfl|a
     .exact .inl (.inl h1.symm)
     .exact .inr ⟨y,a,h1,b⟩
def KR{n:Int}:∀{l:ax} {i:Nat},0<=CG n l i↔n∈l
 |[],i=>by simp[CG]
 |x::r,i=>by
  unfold CG;split
  .rename_i h;have:x=n:=by simpa using h
   simp[this]
  .rename_i h;have:¬ x=n:=by simpa using h
   rw[KR (l:=r),Ba];constructor
   .exact .inr
   .rintro (h|h)
    .exact bv h.symm this
    .exact h
theorem aAO{l:ax}{n:Int}:has l n=O↔n∈l:=by unfold has;rw[bo,KR]
def JX{now n:Int}:∀{l:a7} {ks:ax},n∈sB now l ks↔n∈ks\/∃x∈l,dG x=n/\now<n
 |[],ks=>by simp[sB]
 |x::r,ks=>by
  unfold sB;rw[JX (l:=r)];split
  .grind
  grind[aAO,bq]
def tT{now:Int}:∀{l:a7} {ks:ax},ks.Nodup->(sB now l ks).Nodup
 |[],_,h=>h
 |x::r,ks,h=>by
  unfold sB;split
  .rename_i a;refine tT ?_;simp only[Bool.and_eq_true,Bool.not_eq_true']at a;have b:dG x∉ks:=λhm=>by grind[aAO]
   grind
  .exact tT h
def aB2{l:ax}{n:Int}:n∈wK l↔n∈l:=(Lb l _).mem_iff
def aEA{l:ax}(h:l.Nodup):St (wK l):=by have h1:(wK l).Pairwise (λa b=>decide (a<=b)=O):=List.pairwise_mergeSort (λa b c h1 d=>by simp at*;omega) (λa b=>by simp;omega) l;have d:(wK l).Nodup:=(Lb l _).nodup_iff.2 h;exact(h1.and d).imp λ⟨a,b⟩=>by simp at a;omega
def aNs:∀{a b:ax},St a->St b->(∀x,x∈a↔x∈b)->a=b
 |[],[],_,_,_=>rfl
 |[],y::s,_,_,h=>bv ((h y).2 s_) s_
 |x::r,[],_,_,h=>bv ((h x).1 s_) s_
 |x::r,y::s,ha,hb,h=>by
  have d:=Bp.1 ha;have c:=Bp.1 hb;have e:x=y:=by
   rcases Ba.1 ((h x).1 s_)with e|h1
   .exact e
   .rcases Ba.1 ((h y).2 s_)with e|f
    .exact e.symm
    .have:=c.1 x h1;have:=d.1 y f;omega
  subst e;rw[aNs d.2 c.2 λz=>?_];constructor
  .intro hz;rcases Ba.1 ((h z).1 (Az _ hz))with rfl|h1
   .have:=d.1 z hz;omega
   .exact h1
  .intro hz;rcases Ba.1 ((h z).2 (Az _ hz))with rfl|h1
   .have:=c.1 z hz;omega
   .exact h1
def S7(l:a7)(now:Int):zX l now=rE now l []:=by refine aNs (aEA (tT s_)) (aFS s_) λx=>?_;unfold zX;rw[aB2,JX,VY]
def VZ(now:Int):∀(l:a7) (out:ax),Z (rE now l out)<=Z out+Z l
 |[],out=>by simp[rE]
 |x::r,out=>by
  unfold rE;split
  .have:=VZ now r out;simp only[Al];omega
  .have:=VZ now r (rL (dG x) out);have:=SB (dG x) out;simp only[Al];omega
def aDh(l:a7)(now:Int):Z (zX l now)<=Z l:=by rw[S7];have:=VZ now l [];simpa using this
end Go.Proofs.YtenkdioaefckoaaGreatDoor
