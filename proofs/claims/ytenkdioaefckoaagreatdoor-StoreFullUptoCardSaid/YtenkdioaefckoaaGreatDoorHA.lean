/- Part 6 of what the statement rests on. -/
import Derived.Test.YtenkdioaefckoaaGreatDoorProg
import Derived.Shelf.Sort.Plain
import Derived.Shelf.Slices.In.SortNone
import Derived.Test.YtenkdioaefckoaaGreatDoorWE
set_option linter.all false
set_option maxHeartbeats 2000000
open Go.AW.Res renaming ret->Io
open Go.AW.St renaming head->G0
open Go.AW.Tk renaming no->J0
open Go.AW.aa renaming agg->He,bool->DA,int->GE,ref->G2,slice->CA,tup->GT
open Go.AW.ab renaming bun->If,cells->Do,tail->Fr
open Go.IntKind renaming i64->Is,u64->IH
open List renaming length->Z
open Bool renaming true->O,false->U
open Option renaming some->X,none->D
open And renaming intro->Aa
open Bool renaming and_false->Br,false_and->Cu,false_eq_true->Dc,true_and->Bz
open Exists renaming intro->Aj
open Int renaming tdiv->Hi
open List renaming all_cons->Hw,append_assoc->Ag,append_nil->Ao,drop->Gd,drop_eq_getElem_cons->Ac,drop_eq_nil_of_le->Ae,flatMap_cons->Lv,foldl_cons->Ap,getElem?_eq_getElem->Ab,getElem?_eq_some_iff->Ad,getElem?_map->Cd,getElem_mem->Aq,length->Lr,length_append->Ah,length_cons->Al,length_map->Bw,length_nil->Bj,length_replicate->Gj,map_append->Bi,map_cons->Bf,map_map->Dz,map_set->Gl,mem_append->Cc,mem_cons->Az,mem_cons_of_mem->Bb,mem_or_eq_of_mem_set->Dn,mergeSort_perm->Lg,nil_append->Bk,pairwise_cons->Bt,range->Dh,range'->Ig,range'_succ->Ki,range_eq_range'->Hr,replicate->Ak,set_append_right->Hl,take->Fs,take_append_getElem->Jf,take_of_length_le->Bl
open List.cons renaming injEq->Mz
open Nat renaming ble->Gc,le_refl->Bc,le_trans->Cp,zero_le->Bq
open Or renaming inl->Fu
namespace Go.Proofs.YtenkdioaefckoaaGreatDoor
open Go.Proofs.Tryz
open Go Go.AW Go.Proofs
def zqha0{P:Prop}(h:P:=by
 unfold P0 at hp;by_cases e:x=t
 .rw [bu (bq e)]at hp;refine gV ?_;refine To.beginR (k:=7) (gg:=0) rfl rfl b ?_
  repeat' first|refine pA ?_|refine .p (PL c a need x d) ?_|refine .p (FY c f a need t x) ?_|exact⟨⟨rfl,rfl⟩,⟨rfl,rfl⟩⟩|exact rfl|refine lA ?_ ?_|intro h
  all_goals (exfalso;simp_all)
 .rw [bt (by rw[bp e];decide)]at hp;refine gV ?_;refine To.beginR (k:=7) (gg:=0) rfl rfl b ?_
  repeat' first|refine pA ?_|refine .p (PL c a need x d) ?_|refine .p (FY c f a need t x) ?_|exact⟨⟨rfl,rfl⟩,⟨rfl,rfl⟩⟩|exact rfl|refine lA ?_ ?_|intro h
  all_goals (exfalso;simp_all)):P:=h
def zqha1{P:Prop}(h:P:=by
 refine gV ?_;refine⟨i,rfl,gV ?_⟩;refine⟨by omega,gV ?_⟩;refine⟨by omega,?_⟩
 exact zW):P:=h
def zqha2{P:Prop}(h:P:=by
 refine⟨ii n,1,gV ?_⟩
 exact zW):P:=h
def zqha3{P:Prop}(h:P:=by
 refine gV ?_;refine To.beginR (k:=4) (gg:=0) rfl rfl b ?_
 exact zW):P:=h
def zqha4{P:Prop}(h:P:=by
 have c:Z (iv a)=Z a:=by simp
 have e:iv (a++[x])=iv a++[ii x]:=by simp
 unfold yM;rw[e];refine gV ?_;refine To.beginR (k:=2) (gg:=0) rfl rfl b ?_
 exact zW):P:=h
def zqha5{P:Prop}(h:P:=by
 have hl:=G9 a k 0;have b:k=N:=o_;subst b;have e:rp a k 0=iv (Ak k a):=by simp[rp]
 rw[e]at hl⊢;refine gV ?_
 exact zW):P:=h
def zqha6{P:Prop}(h:P:=by
 have next:=g (i+1) (a++[x]) o_ q_ (by rw[Ag];exact b)
 have e:rav (a++[x])=rav a++[x.av]:=by simp
 rw[e]at next
 exact next):P:=h
def zqha7{P:Prop}(h:P:=by
 refine c_ f158 λ_=>gV ?_;refine .inr ?_
 exact zW):P:=h
def zqha8{P:Prop}(h:P:=by exact c_ f213 λ_=>zW):P:=h
def zqha9{P:Prop}(h:P:=by
 rw[Ae o_]at b;have b:a++[]=R:=b;rw[Ao]at b;subst b;refine gV ?_
 exact zW):P:=h
def zqha10{P:Prop}(h:P:=by
 rintro(h|h|h)
 .exact .inr (.inl h)
 .exact .inl h
 .exact .inr (.inr h)):P:=h
def zqha11{P:Prop}(h:P:=by
 refine gV ?_;refine .sole rfl (.eff [] [0,1] _ _ rfl (put_ok c x _ L) ?_)
 exact zW):P:=h
def zqha12{P:Prop}(h:P:=by
 rw[bu (show(X x).isSome=O from rfl)]at a;subst a
 exact zW):P:=h
def zqha13{P:Prop}(h:P:=by exact c_ f326 λ_=>zW):P:=h
abbrev _root_.ar:=aA Tryz.prog
abbrev _root_.bj(f:FuncId)(a:List aa)(v:aa):Prop:=ar f a [] (Io v) []
def Im:Nat->List aa|0=>[]|n+1=>.int .i64 0::Im n
noncomputable def T0:Tab:=[
 (3,.mk (.int .i64) 1 U (.int .i64 0)),
 (4,.mk .bool 1 U (.bool U)),
 (43,.mk (.arr 3 1 U) 3 O (.agg (Im 3))),
 (30,.mk (.strct [(0,1,U),(1,1,U),(2,1,U),(3,1,U)]) 4 O (.agg [.slice 11 [] .nil,.slice 6 [] .nil,.int .i64 0,.int .i64 0])),
 (27,.mk (.slc 130 11 88) 1 U (.slice 11 [] .nil)),
 (130,.mk (.strct [(0,1,U),(1,1,U),(2,3,O),(5,3,O),(8,3,O)]) 11 O (.agg (Im 11))),
 (83,.mk (.slc 3 1 8) 1 U (.slice 1 [] .nil)),
 (206,.mk (.slc 43 3 24) 1 U (.slice 3 [] .nil)),
 (45,.mk (.strct [(0,1,U),(1,1,U),(2,1,U),(3,3,O),(6,1,U),(7,1,U),(8,1,U)]) 9 O (.agg (Im 9))),
 (32,.mk (.slc 85 14 128) 1 U (.slice 14 [] .nil)),
 (85,.mk (.strct [(0,9,O),(9,1,U),(10,1,U),(11,1,U),(12,1,U),(13,1,U)]) 14 O (.agg [.int .i64 0,.int .i64 0,.int .i64 0,.int .i64 0,.int .i64 0,.int .i64 0,.int .i64 0,.int .i64 0,.int .i64 0,.int .i64 0,.int .i64 0,.int .i64 0,.int .i64 0,.slice 1 [] .nil])),
 (28,.mk (.slc 132 6 48) 1 U (.slice 6 [] .nil)),
 (132,.mk (.strct [(0,1,U),(1,1,U),(2,1,U),(3,3,O)]) 6 O (.agg (Im 6))),
 (1,.mk .other 1 U .nilfunc),
 (5,.mk (.int .u8) 1 U (.int .u8 0)),
 (9,.mk .str 1 U (.str [])),
 (20,.mk .iface 1 U .nilif),
 (22,.mk (.slc 49 17 168) 1 U (.slice 17 [] .nil)),
 (23,.mk (.ptr 73) 1 U .nilptr),
 (31,.mk (.slc 104 11 88) 1 U (.slice 11 [] .nil)),
 (33,.mk (.slc 106 1 8) 1 U (.slice 1 [] .nil)),
 (35,.mk (.strct [(0,4,O),(4,1,U),(5,1,U),(6,1,U),(7,1,U),(8,1,U)]) 9 O (.agg [.slice 11 [] .nil,.slice 6 [] .nil,.int .i64 0,.int .i64 0,.int .i64 0,.int .i64 0,.slice 11 [] .nil,.slice 14 [] .nil,.slice 1 [] .nil])),
 (37,.mk (.int .i64) 1 U (.int .i64 0)),
 (38,.mk (.slc 82 3 24) 1 U (.slice 3 [] .nil)),
 (40,.mk (.strct [(0,1,U),(1,1,U)]) 2 O (.agg [.int .i64 0,.slice 3 [] .nil])),
 (47,.mk (.strct [(0,1,U),(1,4,O),(5,9,O),(14,1,U)]) 15 O (.agg [.int .i64 0,.slice 11 [] .nil,.slice 6 [] .nil,.int .i64 0,.int .i64 0,.int .i64 0,.int .i64 0,.int .i64 0,.int .i64 0,.int .i64 0,.int .i64 0,.int .i64 0,.int .i64 0,.int .i64 0,.int .i64 0])),
 (49,.mk (.strct [(0,1,U),(1,15,O),(16,1,U)]) 17 O (.agg [.int .i64 0,.int .i64 0,.slice 11 [] .nil,.slice 6 [] .nil,.int .i64 0,.int .i64 0,.int .i64 0,.int .i64 0,.int .i64 0,.int .i64 0,.int .i64 0,.int .i64 0,.int .i64 0,.int .i64 0,.int .i64 0,.int .i64 0,.int .i64 0])),
 (54,.mk (.slc 47 15 152) 1 U (.slice 15 [] .nil)),
 (55,.mk (.int .u64) 1 U (.int .u64 0)),
 (57,.mk (.ptr 111) 1 U .nilptr),
 (59,.mk (.ptr 122) 1 U .nilptr),
 (73,.mk (.strct [(0,1,U),(1,1,U)]) 2 O (.agg [.nilptr,.nilptr])),
 (76,.mk (.slc 40 2 32) 1 U (.slice 2 [] .nil)),
 (82,.mk (.strct [(0,1,U),(1,1,U),(2,1,U)]) 3 O (.agg (Im 3))),
 (101,.mk .other 1 U .nilfunc),
 (104,.mk (.strct [(0,9,O),(9,1,U),(10,1,U)]) 11 O (.agg (Im 11))),
 (106,.mk (.int .u64) 1 U (.int .u64 0)),
 (109,.mk (.slc 5 1 1) 1 U (.slice 1 [] .nil)),
 (111,.mk (.strct [(0,1,U),(1,1,U),(2,1,U),(3,1,U)]) 4 O (.agg [.int .i64 0,.slice 1 [] .nil,.slice 1 [] .nil,.bool U])),
 (112,.mk (.ptr 159) 1 U .nilptr),
 (113,.mk (.slc 9 1 16) 1 U (.slice 1 [] .nil)),
 (117,.mk .iface 1 U .nilif),
 (122,.mk (.strct [(0,1,U),(1,9,O)]) 10 O (.agg [.nilptr,.slice 11 [] .nil,.slice 6 [] .nil,.int .i64 0,.int .i64 0,.int .i64 0,.int .i64 0,.slice 11 [] .nil,.slice 14 [] .nil,.slice 1 [] .nil])),
 (148,.mk (.ptr 150) 1 U .nilptr),
 (150,.mk (.strct [(0,9,O),(9,1,U),(10,1,U),(11,1,U)]) 12 O (.agg [.slice 11 [] .nil,.slice 6 [] .nil,.int .i64 0,.int .i64 0,.int .i64 0,.int .i64 0,.slice 11 [] .nil,.slice 14 [] .nil,.slice 1 [] .nil,.slice 3 [] .nil,.bool U,.int .i64 0])),
 (159,.mk (.strct [(0,1,U),(1,1,U)]) 2 O (.agg [.nilptr,.int .i64 0])),
 (163,.mk .iface 1 U .nilif),
 (169,.mk (.strct [(0,4,O)]) 4 O (.agg [.slice 11 [] .nil,.slice 6 [] .nil,.int .i64 0,.int .i64 0])),
 (171,.mk (.ptr 35) 1 U .nilptr),
 (173,.mk (.strct [(0,9,O)]) 9 O (.agg (Im 9))),
 (176,.mk (.strct [(0,1,U)]) 1 O (.agg [.int .i64 0])),
 (178,.mk (.strct [(0,1,U)]) 1 O (.agg [.int .i64 0])),
 (180,.mk (.strct [(0,1,U)]) 1 O (.agg [.int .i64 0])),
 (183,.mk (.strct []) 0 O (.agg [])),
 (190,.mk (.ptr 195) 1 U .nilptr),
 (191,.mk (.ptr 193) 1 U .nilptr),
 (193,.mk (.strct [(0,1,U),(1,1,U)]) 2 O (.agg [.nilptr,.slice 1 [] .nil])),
 (195,.mk (.strct [(0,2,O)]) 2 O (.agg [.nilptr,.slice 1 [] .nil])),
 (218,.mk .other 1 U .nilfunc),
 (240,.mk (.ptr 37) 1 U .nilptr),
 (250,.mk (.ptr 252) 1 U .nilptr),
 (252,.mk (.strct [(0,9,O),(9,1,U),(10,1,U),(11,1,U)]) 12 O (.agg [.slice 11 [] .nil,.slice 6 [] .nil,.int .i64 0,.int .i64 0,.int .i64 0,.int .i64 0,.slice 11 [] .nil,.slice 14 [] .nil,.slice 1 [] .nil,.slice 3 [] .nil,.bool U,.int .i64 0])),
 (254,.mk (.int .u32) 1 U (.int .u32 0)),
 (256,.mk (.ptr 258) 1 U .nilptr),
 (258,.mk (.strct [(0,2,O)]) 2 O (.agg [.nilptr,.slice 1 [] .nil])),
 (261,.mk (.ptr 5) 1 U .nilptr),
 (267,.mk .other 1 U .nilfunc),
 (270,.mk .other 1 U .nilfunc),
 (276,.mk (.ptr 278) 1 U .nilptr),
 (278,.mk (.strct [(0,1,U)]) 1 O (.agg [.str []])),
 (286,.mk (.strct [(0,1,U)]) 1 O (.agg [.int .i64 0])),
 (289,.mk .other 1 U .nilfunc),
 (292,.mk (.strct [(0,9,O),(9,1,U),(10,1,U)]) 11 O (.agg (Im 11))),
 (293,.mk .other 1 U .nilfunc),
 (295,.mk .other 1 U .nilfunc),
 (299,.mk .other 1 U .nilfunc),
 (301,.mk .other 1 U .nilfunc),
 (302,.mk .other 1 U .nilfunc),
 (303,.mk .other 1 U .nilfunc),
 (304,.mk (.ptr 307) 1 U .nilptr),
 (307,.mk (.strct [(0,9,O)]) 9 O (.agg [.slice 11 [] .nil,.slice 6 [] .nil,.int .i64 0,.int .i64 0,.int .i64 0,.int .i64 0,.slice 11 [] .nil,.slice 14 [] .nil,.slice 1 [] .nil])),
 (309,.mk (.int .u64) 1 U (.int .u64 0)),
 (311,.mk (.mp 3 4) 1 U .nilmap),
 (312,.mk (.slc 20 1 16) 1 U (.slice 1 [] .nil)),
 (319,.mk .other 1 U .nilptr),
 (325,.mk (.slc 83 1 24) 1 U (.slice 1 [] .nil)),
 (328,.mk (.arr 16 1 U) 16 O (.agg [.int .u64 0,.int .u64 0,.int .u64 0,.int .u64 0,.int .u64 0,.int .u64 0,.int .u64 0,.int .u64 0,.int .u64 0,.int .u64 0,.int .u64 0,.int .u64 0,.int .u64 0,.int .u64 0,.int .u64 0,.int .u64 0])),
 (342,.mk .other 1 U .nilfunc),
 (344,.mk .iface 1 U .nilif),
 (350,.mk (.ptr 373) 1 U .nilptr),
 (356,.mk .other 1 U .nilfunc),
 (358,.mk .other 1 U .nilfunc),
 (365,.mk (.strct [(0,1,U)]) 1 O (.agg [.nilfunc])),
 (368,.mk .other 1 U .nilfunc),
 (369,.mk .other 1 U .nilfunc),
 (371,.mk (.mp 3 43) 1 U .nilmap),
 (373,.mk (.strct [(0,4,O),(4,1,U)]) 5 O (.agg [.slice 11 [] .nil,.slice 6 [] .nil,.int .i64 0,.int .i64 0,.nilmap])),
 (379,.mk (.ptr 381) 1 U .nilptr),
 (381,.mk (.strct [(0,1,U),(1,1,U)]) 2 O (.agg [.slice 14 [] .nil,.nilfunc])),
 (385,.mk (.slc 387 1 8) 1 U (.slice 1 [] .nil)),
 (387,.mk (.arr 1 1 U) 1 O (.agg [.int .i64 0])),
 (389,.mk .other 1 U .nilfunc),
 (390,.mk (.mp 3 3) 1 U .nilmap),
 (395,.mk (.mp 397 3) 1 U .nilmap),
 (397,.mk (.strct [(0,1,U),(1,1,U),(2,1,U),(3,1,U)]) 4 O (.agg (Im 4))),
 (411,.mk (.int .i64) 1 U (.int .i64 0)),
 (421,.mk (.int .u64) 1 U (.int .u64 0)),
 (425,.mk (.ptr 3) 1 U .nilptr),
 (427,.mk (.ptr 421) 1 U .nilptr)]
def F0:List (Nat×Nat):=[(43,3),(45,9),(130,11),(132,6),(387,1),(397,4),(104,11),(292,11),(82,3)]
def M0:aKa:=[(292,"tithebarn/queue.id",413),(292,"tithebarn/queue.seq",414)]
noncomputable def E:Env:={P:=Tryz.prog,T:=T0,mt:=M0,fl:=F0,own:=[],rws:=[],bl:=[],df:=[]}
def hE:ae E where
 mix:=by kernel_rfl
 tab:=XG (by kernel_rfl) (by kernel_rfl)
 mth:=EP.cons (λv w=>by kernel_rfl) (EP.cons (λv w=>by kernel_rfl) EP.nil)
 fl:=VE (by kernel_rfl)
noncomputable def Er(l b:a6):Env:={E with rws:=l,bl:=b}
def hEr(l b:a6):ae (Er l b):=⟨hE.mix,hE.tab,hE.mth,hE.fl⟩
noncomputable def Eo(l b:a6):Env:={E with own:=l,bl:=b}
def hEo(l b:a6):ae (Eo l b):=⟨hE.mix,hE.tab,hE.mth,hE.fl⟩
noncomputable def Ed(df:List (Nat×az)):Env:={E with df:=df}
def hEd(df:List (Nat×az)):ae (Ed df):=⟨hE.mix,hE.tab,hE.mth,hE.fl⟩
noncomputable def Ex(o r b:a6):Env:={E with own:=o,rws:=r,bl:=b}
def hEx(o r b:a6):ae (Ex o r b):=⟨hE.mix,hE.tab,hE.mth,hE.fl⟩
noncomputable def El(l:Nat)(o r b:a6):Env:={Ex o r b with rd:=X l}
def hEl(l:Nat)(o r b:a6):ae (El l o r b):=⟨hE.mix,hE.tab,hE.mth,hE.fl⟩
def c_(fn:Func){f:FuncId}{args:az}{r:Res}(h:okL args->To E fn (.pure r) (.code [.code (eF fn)] (frA 0 args) []))(i:Tryz.prog.funcs[f]? =X fn:=by rfl)(j:fn.body=X (eF fn):=by rfl)(c:qO Tryz.prog f:=by exact λ_ _=>by rfl)(e:dW fn.ntmps (eF fn)=true:=by decide+kernel)(l:Gc (Z args) fn.ntmps=true:=by rfl):aA Tryz.prog f args [] r []:=cT (E:=E) (g:=.pure r) h rfl i j c e l rfl rfl rfl
structure V3 where
 (a b c:Int)
 deriving DecidableEq
abbrev _root_.a8:=List V3
structure Nod where
 (p w:Int)
 (n b l:V3)
 deriving DecidableEq
abbrev _root_.bf:=List Nod
structure Hos where
 (f b r:Int)
 (c:V3)
 deriving DecidableEq
structure Con where
 ns:bf
 hs:List Hos
 (half age:Int)
 deriving DecidableEq
structure Gan where
 (id ten pods:Int)
 need:V3
 (run lev pref:Int)
 deriving DecidableEq
abbrev ii(n:Int):aa:=GE Is n
def V3.cs(v:V3):az:=[ii v.a,ii v.b,ii v.c]
def Nod.cs(x:Nod):az:=[ii x.p,ii x.w,ii x.n.a,ii x.n.b,ii x.n.c,ii x.b.a,ii x.b.b,ii x.b.c,ii x.l.a,ii x.l.b,ii x.l.c]
def Nod.av(x:Nod):aa:=He x.cs
def Hos.cs(x:Hos):az:=[ii x.f,ii x.b,ii x.r,ii x.c.a,ii x.c.b,ii x.c.c]
def Hos.av(x:Hos):aa:=He x.cs
abbrev nav(l:bf):az:=l.map Nod.av
abbrev hav(l:List Hos):az:=l.map Hos.av
def Con.cs(x:Con):az:=[CA 11 (nav x.ns) J0,CA 6 (hav x.hs) J0,ii x.half,ii x.age]
def Con.av(x:Con):aa:=He x.cs
def Gan.cs(x:Gan):az:=[ii x.id,ii x.ten,ii x.pods,ii x.need.a,ii x.need.b,ii x.need.c,ii x.run,ii x.lev,ii x.pref]
def Gan.av(x:Gan):aa:=He x.cs
abbrev iv(l:ax):az:=l.map ii
def V3.zero:V3:=⟨0,0,0⟩
def V3.av(v:V3):aa:=He v.cs
abbrev vav(l:a8):az:=l.map V3.av
def fL{l:bf}{i:Nat}(h:i<Z l):(nav l)[i]? =X l[i].av:=by simp[nav,h]
def nC{l:List Hos}{i:Nat}(h:i<Z l):(hav l)[i]? =X l[i].av:=by simp[hav,h]
def cK{l:ax}{i:Nat}(h:i<Z l):(iv l)[i]? =X (ii l[i]):=by simp[iv,h]
def cX{M:Imm}{ob:Hs}{v:Value}{cs:az}(h:Rep M ob v (He cs))(i:Nat)(a:aa)(c:cs[i]? =X a):okA a:=by
 obtain⟨vs,_,hl,d⟩:=h.agg_inv;have b:i<Z vs:=by rw[hl];exact(Ad.1 c).1
 exact(d i _ a (Ab b) c).okA
def aA.get{P:Program}{f:FuncId}{args:az}{ac ap:aw}{r:Res}(Q:Prop)(c:∀M ob vs,cV M ob vs args->Q)(h:Q->aA P f args ac r ap):aA P f args ac r ap:=
 λM ob w a hm b=>h (c _ _ _ b) M ob w a hm b
def jU{b:Bool}(h:(!b)=O):b=false:=by cases b<;>first|rfl|cases h
def jV{b:Bool}(h:(!b)=U):b=true:=by cases b<;>first|rfl|cases h
structure Rn where
 g:Gan
 (seq at' st fl:Int)
 hs:ax
 deriving DecidableEq
abbrev _root_.a7:=List Rn
def Rn.cs(x:Rn):az:=[ii x.g.id,ii x.g.ten,ii x.g.pods,ii x.g.need.a,ii x.g.need.b,ii x.g.need.c,ii x.g.run,ii x.g.lev,ii x.g.pref,ii x.seq,ii x.at',ii x.st,ii x.fl,CA 1 (iv x.hs) J0]
def Rn.av(x:Rn):aa:=He x.cs
abbrev rav(l:a7):=l.map Rn.av
def cH{l:a7}{i:Nat}(h:i<Z l):(rav l)[i]? =X l[i].av:=by simp[rav,h]
def lN{l:a8}{i:Nat}(h:i<Z l):(vav l)[i]? =X l[i].av:=by simp[vav,h]
def aKh{n:Int}(h:9223372036854775807<n)(a:n<=18446744073709551614):IntKind.wrap Is n=n-18446744073709551616:=by simp[IntKind.wrap,IntKind.signed,IntKind.bits];omega
def aKg{n:Int}(h:n< -9223372036854775808)(a: -18446744073709551616<=n):IntKind.wrap Is n=n+18446744073709551616:=by simp[IntKind.wrap,IntKind.signed,IntKind.bits];omega
set_option maxRecDepth 10000
def gL(n m:Int):Int:=min (max n (0-m)) m
def gK(n m:Int)(h:0<=m): -m<=gL n m/\gL n m<=m:=by unfold gL;omega
def Z8(n m:Int)(a:0<=m)(h1:m<=1099511627776):bj 303 [ii n,ii m] (ii (gL n m)):=by exact c_ f303 λ_=>zW
def kQ(x y:Int):Int:=gL (gL x 1099511627776+gL y 1099511627776) 1099511627776
def aDa(x y:Int):Int:=gL (gL x 1099511627776-gL y 1099511627776) 1099511627776
def KQ(x n:Int):Int:=gL (gL x 1099511627776*gL n 1048576) 1099511627776
def aBB(x n:Int): -1152921504606846976<=gL x 1099511627776*gL n 1048576/\gL x 1099511627776*gL n 1048576<=1152921504606846976:=by
 have h1:=gK x 1099511627776 d_;have a:=gK n 1048576 d_;have h3:(gL x 1099511627776*gL n 1048576).natAbs<=1099511627776*1048576:=by rw[Int.natAbs_mul];exact Nat.mul_le_mul o_ o_
 omega
def aOm(x y:Int):bj 302 [ii x,ii y] (ii (kQ x y)):=by
 have h1:=gK x 1099511627776 d_;have a:=gK y 1099511627776 d_;refine c_ f302 λ_=>?_
 repeat' first|refine pA ?_|refine .p (Z8 _ _ d_ d_) ?_|exact rfl|refine lA ?_ ?_|intro h
def aKK(x y:Int):bj 349 [ii x,ii y] (ii (aDa x y)):=by
 have h1:=gK x 1099511627776 d_;have a:=gK y 1099511627776 d_;refine c_ f349 λ_=>?_
 repeat' first|refine pA ?_|refine .p (Z8 _ _ d_ d_) ?_|exact rfl|refine lA ?_ ?_|intro h
def aMe(x y n:Int):bj 346 [ii x,ii y,.ptr [ii n]] (ii (KQ x n)):=by
 have h1:=aBB x n;refine c_ f346 λ_=>?_
 repeat' first|refine pA ?_|refine .p (Z8 _ _ d_ d_) ?_|exact rfl|refine lA ?_ ?_|intro h
def V3.map2(op:Int->Int->Int)(a b:V3):V3:=⟨op a.a b.a,op a.b b.b,op a.c b.c⟩
def aCv(f:FuncId)(op:Int->Int->Int)(a b:V3)(h:∀x y,aA Tryz.prog f [ii x,ii y] [] (Io (ii (op x y))) []):bj 301 [a.av,b.av,.func (.func f) [] []] ((V3.map2 op a b).av):=by
  refine c_ f301 λ_=>gV ?_
  repeat' first
   | (refine gW hE ?_;conv=>whnf)
   | refine .p (h _ _) ?_
   | exact rfl
   | refine aY ?_
   | refine aN ?_
   | refine aJ ?_
   | refine Aj _ (Aa rfl ?_)
   | refine Aa d_ ?_
def aJk(f:FuncId)(op:Int->Int->Int)(n:Int)(a b:V3)(h:∀x y,aA Tryz.prog f [ii x,ii y,.ptr [ii n]] [] (Io (ii (op x y))) []):bj 301 [a.av,b.av,.func (.func f) [] [.ptr [ii n]]] ((V3.map2 op a b).av):=by
  refine c_ f301 λ_=>gV ?_
  repeat' first
   | (refine gW hE ?_;conv=>whnf)
   | refine .p (h _ _) ?_
   | exact rfl
   | refine aY ?_
   | refine aN ?_
   | refine aJ ?_
   | refine Aj _ (Aa rfl ?_)
   | refine Aa d_ ?_
def eU(a b:V3):V3:=V3.map2 kQ a b
def AF(a b:V3):V3:=V3.map2 aDa a b
def W5(a:V3)(n:Int):V3:=V3.map2 (λx _=>KQ x n) a a
def jQ(a b:V3):bj 242 [a.av,b.av] ((eU a b).av):=by refine c_ f242 λ_=>?_;have c:=aCv _ kQ a b aOm;exact zW
def OC(a b:V3):bj 315 [a.av,b.av] ((AF a b).av):=by refine c_ f315 λ_=>?_;have c:=aCv _ aDa a b aKK;exact zW
def aKm(a:V3)(n:Int):bj 312 [a.av,ii n] ((W5 a n).av):=by refine c_ f312 λ_=>?_;have b:=aJk _ (λx _=>KQ x n) n a a λx y=>aMe x y n;exact zW
def cD(a b:V3):Bool:=if decide (b.a<a.a)=O then U else if decide (b.b<a.b)=O then U else if decide (b.c<a.c)=O then U else O
abbrev aP9(n:Int):aa:=.func (.func 268) [] [.ptr [ii n]]
def aP8(x:Nod)(n:Int):bj 268 [x.av,.ptr [ii n]] (DA (decide (x.p=n))):=by exact c_ f268 λ_=>zW
def am(n:Int):bf->Nat->Int
 | [],_=> -1
 | x::r,i=>if decide (x.p=n)=O then(i:Int)else am n r (i+1)
def aEb(l:bf)(n:Int)(hl:Gf (Z (nav l)))(r:Int):∀(m i:Nat),i+m=Z l->am n (l.drop i) i=r->
  DE E f309 (ii r) [(0,CA 11 (nav l) J0),(1,aP9 n),(7,GE Is (Z (nav l):Nat)),(8,GE Is i)] []:=by
 have d:Z (nav l)=Z l:=by simp
 intro m;induction m with
 | zero=>
  intro i f a;rw[Ae o_]at a;subst a;exact tA
 | succ m e=>
  intro i f a;have b:i<Z l:=o_;rw[Ac b]at a;generalize g:l[i]=x at a;have get:(nav l)[i]? =X x.av:=(fL b).trans (by rw[g]);unfold am at a;refine gV ?_;refine aT λh=>?_
  repeat' first|refine pA ?_|refine⟨_,get,?_⟩|refine .p (aP8 x n) ?_|exact rfl|refine lA ?_ ?_|intro h
  .have h:decide (x.p=n)=true:=h;rw[bu h]at a;rw[<-a]
  .have h:decide (x.p=n)=false:=h;rw[bt (by rw[h];decide)]at a;have c:=e (i+1) o_ a;exact zW
def aMI(l:bf)(n:Int):bj 309 [CA 11 (nav l) J0,aP9 n] (ii (am n l 0)):=by refine c_ f309 λb=>?_;have hl:(Z (nav l):Int)<=9223372036854775807:=b.1;have a:=aEb l n hl _ (Z l) 0 o_ rfl;exact zW
def aMM(l:bf)(n:Int):bj 267 [CA 11 (nav l) J0,aP9 n] (DA (decide (0<=am n l 0))):=by refine c_ f267 λ_=>?_;have a:=aMI l n;exact zW
def bD(ns:bf)(n:Int):Bool:=if decide (0<=n)=O then(if decide (n<(Z ns:Int))=O then !decide (0<=am n ns 0)else U)else U
def aH2(c:Con)(n:Int)(r:Bool)(b:bD c.ns n=r):bj 207 [c.av,ii n] (DA r):=by
 have d:Z (nav c.ns)=Z c.ns:=by simp
 unfold bD at b;refine c_ f207 λ_=>gV ?_;refine Aa (λh1=>?_) (λh1=>?_)
 .have h1:decide (0<=n)=true:=h1;rw[bu h1]at b;refine gV ?_;refine Aa (λa=>?_) (λa=>?_)
  .have a:decide (n<(Z (nav c.ns):Int))=true:=a;rw[d]at a;rw[bu a]at b
   repeat' first|refine pA ?_|refine .p (aMM c.ns n) ?_|exact rfl|refine lA ?_ ?_|intro h
   rw[<-b]
  .have a:decide (n<(Z (nav c.ns):Int))=false:=a;rw[d]at a;rw[bt (by rw[a];decide)]at b
   repeat' first|refine pA ?_|exact rfl|refine lA ?_ ?_|intro h
   rw[<-b]
 .have h1:decide (0<=n)=false:=h1;rw[bt (by rw[h1];decide)]at b
  repeat' first|refine pA ?_|exact rfl|refine lA ?_ ?_|intro h
  rw[<-b]
def lR(c:Con)(n:Int):bj 207 [c.av,ii n] (DA (bD c.ns n)):=aH2 c n _ rfl
inductive Ylds(P:Program)(l:Nat):ax->BInv->BInv->Bool->Prop
 | nil (I:BInv):Ylds P l [] I I O
 | stop (x:Int) (r:ax) (I I':BInv) (h:bQ P (.yield l) [ii x] [.bun 0 I] (.ret (.bool U)) [.bun 1 I']):Ylds P l (x::r) I I' U
 | next (x:Int) (r:ax) (I I1 I2:BInv) (b:Bool) (h:bQ P (.yield l) [ii x] [.bun 0 I] (.ret (.bool O)) [.bun 1 I1]) (k:Ylds P l r I1 I2 b):Ylds P l (x::r) I I2 b
def upF(ns:bf):Nat->Int->ax
 | 0,_=>[]
 | f+1,n=>if decide (0<=n)=O then(if h:n.toNat<Z ns then(if decide (n<=(ns[n.toNat]).p)=O then[n]else n::upF ns f (ns[n.toNat]).p)else[])else[]
def upL(ns:bf)(n:Int):ax:=upF ns (n.toNat+1) n
def aFk(l:Nat)(c:Con)(hl:Gf (Z (nav c.ns)))(h:BInv)(b:Bool):∀(f:Nat) (n:Int),n<(f:Int)->∀(I:BInv),Ylds Tryz.prog l (upF c.ns f n) I h b->
  ∃m k,To E f345 (.full 2 (Io (GT [])) [Do 3 [m],If k h]) (BV f345 [(0,.func (.yield l) [] []),(1,G2 0 0),(2,.ptr c.cs)] [Do 3 [ii n],If 1 I]):=by
 have o:Z (nav c.ns)=Z c.ns:=by simp
 intro f;induction f with
 | zero=>
  intro n s I a;have h1:¬ 0<=n:=o_;cases a;exact zqha2
 | succ f i=>
  intro n s I a;have q:=λ(p:Int) (hp:¬ n<=p) (e:BInv) (h1:Ylds Tryz.prog l (upF c.ns f p) e h b)=>i p o_ e h1;unfold upF at a;by_cases h1:0<=n
  .rw [bu (bq h1)]at a;by_cases j:n.toNat<Z c.ns
   .rw [dif_pos j]at a;generalize u:c.ns[n.toNat]=x at a;have get:(nav c.ns)[n.toNat]? =X x.av:=(fL j).trans (by rw[u]);have v:n=(n.toNat:Int):=o_;by_cases h3:n<=x.p
    .rw [bu (bq h3)]at a;cases a with
     | stop _ _ _ _ d=>
      exact zqha2
     | next _ _ _ e _ _ d g=>
      cases g;exact zqha2
    .rw [bt (by rw[bp h3];decide)]at a;cases a with
     | stop _ _ _ _ d=>
      exact zqha2
     | next _ _ _ e _ _ d g=>
      obtain⟨m,k,r⟩:=q x.p o_ _ g;refine⟨m,k,gV ?_⟩;exact zW
   .rw [dif_neg j]at a;cases a;exact zqha2
  .rw [bt (by rw[bp h1];decide)]at a;cases a;exact zqha2
def aC1(l:Nat)(c:Con)(n:Int)(I f:BInv)(b:Bool)(hl:Gf (Z (nav c.ns)))(a:Ylds Tryz.prog l (upL c.ns n) I f b):
  ∃m i,To E f345 (.full 2 (Io (GT [])) [Do 3 [m],If i f]) (BV f345 [(0,.func (.yield l) [] []),(1,G2 0 0),(2,.ptr c.cs)] [Do 3 [ii n],If 0 I]):=by
 have j:Z (nav c.ns)=Z c.ns:=by simp
 unfold upL at a;have k:=λ(p:Int) (hp:¬ n<=p) (e:BInv) (h1:Ylds Tryz.prog l (upF c.ns n.toNat p) e f b)=>aFk l c hl f b n.toNat p o_ e h1;unfold upF at a;by_cases h1:0<=n
 .rw [bu (bq h1)]at a;by_cases h:n.toNat<Z c.ns
  .rw [dif_pos h]at a;generalize q:c.ns[n.toNat]=x at a;have get:(nav c.ns)[n.toNat]? =X x.av:=(fL h).trans (by rw[q]);have r:n=(n.toNat:Int):=o_;by_cases h3:n<=x.p
   .rw [bu (bq h3)]at a;cases a with
    | stop _ _ _ _ d=>
     exact zqha2
    | next _ _ _ e _ _ d g=>
     cases g;exact zqha2
   .rw [bt (by rw[bp h3];decide)]at a;cases a with
    | stop _ _ _ _ d=>
     exact zqha2
    | next _ _ _ e _ _ d g=>
     obtain⟨m,i,o⟩:=k x.p o_ _ g;refine⟨m,i,gV ?_⟩;exact zW
  .rw [dif_neg h]at a;cases a;refine⟨ii n,0,gV ?_⟩;exact zW
 .rw [bt (by rw[bp h1];decide)]at a;cases a;refine⟨ii n,0,gV ?_⟩;exact zW
def OK(l:Nat)(c:Con)(n:Int)(I a:BInv)(b:Bool)(hl:Gf (Z (nav c.ns)))(e:Ylds Tryz.prog l (upL c.ns n) I a b):∃m d,ar 345 [.func (.yield l) [] [],G2 0 0,.ptr c.cs] [Do 3 [ii n],If 0 I] (Io (GT [])) [Do 3 [m],If d a]:=by obtain⟨m,d,h⟩:=aC1 l c n I a b hl e;refine⟨m,d,?_⟩;refine eA E f345 2 λ_=>?_;exact zW
def aAG(c:Con)(n:Int):ar 311 [c.av,ii n] [] (Io (.func (.func 345) [] [G2 0 0,.ptr c.cs])) [Do 3 [ii n]]:=by refine eA E f311 0 λ_=>gV ?_;refine⟨[0],[1],⟨rfl,rfl⟩,?_⟩;exact⟨rfl,rfl⟩
abbrev Led:=List (Int×V3)
def led(L:Led):List (ax×aa):=L.map λp=>([p.1],p.2.av)
def jX:Led->Int->Option V3
 | [],_=>D
 | (k,v)::r,n=>if k=n then X v else jX r n
def C2:Led->Int->V3->Led
 | [],n,v=>[(n,v)]
 | (k,w)::r,n,v=>if k=n then(n,v)::r else(k,w)::C2 r n v
def IE:Led->Int->Led
 | [],_=>[]
 | (k,w)::r,n=>if k=n then r else(k,w)::IE r n
def IA(n:Int):∀(L:Led),cE (led L) [n]=(jX L n).map V3.av
 | []=>rfl
 | (k,v)::r=>by
  have:=IA n r;simp only[led,Bf,cE,jX,Mz,and_true]at this⊢;split
  .rfl
  .exact this
def aBF(n:Int)(v:V3):∀(L:Led),oA (led L) [n] v.av=led (C2 L n v)
 | []=>rfl
 | (k,w)::r=>by
  have:=aBF n v r;simp only[led,Bf,oA,C2,Mz,and_true]at this⊢;split
  .rfl
  .rw [this];rfl
def aBG(n:Int):∀(L:Led),KR (led L) [n]=led (IE L n)
 | []=>rfl
 | (k,w)::r=>by
  have:=aBG n r;simp only[led,Bf,KR,IE,Mz,and_true]at this⊢;split
  .rfl
  .rw [this];rfl
def tP(L:Led)(n:Int):V3:=(jX L n).getD V3.zero
def isZ(v:V3):Bool:=(v.a==0)&&((v.b==0)&&((v.c==0)&&O))
def UE(L:Led)(n:Int)(v:V3):Led:=if isZ v=O then IE L n else C2 L n v
abbrev KT(c:Con):az:=[CA 11 (nav c.ns) J0,CA 6 (hav c.hs) J0,ii c.half,ii c.age,.mref 1]
def aLG(c:Con)(n:Int)(v:V3)(L L':Led)(a:UE L n v=L'):ar 318 [G2 0 0,ii n,v.av] [Do 373 (KT c),.mp U (led L)] (Io (GT [])) [Do 373 (KT c),.mp U (led L')]:=by
 unfold UE at a;refine eA E f318 2 λ_=>gV ?_;refine Aa (λh1=>?_) (λh1=>?_)
 .have h1:isZ v=true:=h1;rw[bu h1]at a;refine gV ?_;refine⟨[],[0,1],⟨rfl,rfl⟩,?_⟩;refine⟨rfl,?_⟩;show[ab.cells _ _,ab.mp U (KR (led L) [n])]=_;rw[aBG,a]
 .have h1:isZ v=false:=h1;rw[bt (by rw[h1];decide)]at a;refine gV ?_;refine⟨[],[0,1],⟨rfl,rfl⟩,?_⟩;refine⟨rfl,?_⟩;show[ab.cells _ _,ab.mp U (oA (led L) [n] v.av)]=_;rw[aBF,a]
def put_ok(c:Con)(n:Int)(v:V3)(L:Led):ar 318 [G2 0 0,ii n,v.av] [Do 373 (KT c),.mp U (led L)] (Io (GT [])) [Do 373 (KT c),.mp U (led (UE L n v))]:=aLG c n v L _ rfl
def F8{α:Type}{P:Program}{l:Nat}(F:α->BInv)(st:α->Int->α)(h:∀a x,bQ P (.yield l) [ii x] [If 0 (F a)] (Io (DA O)) [If 1 (F (st a x))]):∀(xs:ax) (a:α),Ylds P l xs (F a) (F (xs.foldl st a)) O
 | [],a=>.nil _
 | x::r,a=>.next x r _ _ _ _ (h a x) (F8 F st h r (st a x))
def DP(v:V3)(L:Led)(x:Int):Led:=UE L x (eU (tP L x) v)
def aTq(c:Con):au:=[(4,G2 2 0),(6,G2 3 0),(7,G2 4 0),(22,.func (.func 345) [] [G2 5 0,.ptr c.cs])]
def aCF(c:Con)(v:V3)(L:Led)(o:ab):aw:=[Do 373 (KT c),.mp U (led L),Do 350 [G2 0 0],Do 43 v.cs,Do 267 [.func (.func 242) [] []],.dead,o]
def aJH(c:Con)(v:V3)(L:Led)(x:Int)(l:Nat)(R:Loop)(d:R.state= .ready):
  To (El l [] [] []) f281 (.keep 7 (Io (DA O)) (aCF c v (DP v L x) (If 0 (cR l {R with state:=.busy})))) (.code [.code (rfA f281),.beginR,.code (rfB f281)] (iS (aTq c) 23 (ii x)) (aCF c v L (If 0 (cR l R)))):=by
 refine gV ?_;refine To.beginR (k:=6) (gg:=0) rfl rfl d ?_;have a:=IA x L;unfold DP tP;cases b:jX L x with
 | none=>
  rw[b]at a;have a:cE (led L) [x]=none:=a;refine gV ?_;refine⟨D,a,gV ?_⟩;exact .p (jQ V3.zero v) zqha11
 | some u=>
  rw[b]at a;have a:cE (led L) [x]=X u.av:=a;refine gV ?_;refine⟨X u.av,a,gV ?_⟩;exact .p (jQ u v) zqha11
def aAl(c:Con)(t:Int)(v:V3)(L L':Led)(e:Int)(i:bD c.ns t=O->L'=(upL c.ns t).foldl (DP v) L/\e=0)(h:bD c.ns t=U->L'=L/\e=3)(hl:Gf (Z (nav c.ns))):
  ar 281 [G2 0 0,ii t,v.av,.func (.func 242) [] []] [Do 373 (KT c),.mp U (led L)] (Io (ii e)) [Do 373 (KT c),.mp U (led L')]:=by
 refine eA E f281 2 λ_=>gV ?_;refine .p (lR c t) (gV ?_);refine Aa (λh1=>?_) (λh1=>?_)
 .have h1:bD c.ns t=false:=jU h1;obtain⟨rfl,rfl⟩:=h h1;refine gV ?_;refine⟨[],[0,1],⟨rfl,rfl⟩,⟨rfl,rfl⟩⟩
 .have h1:bD c.ns t=true:=jV h1;obtain⟨rfl,rfl⟩:=i h1;refine gV ?_;refine .pure _ [Do 3 [ii t]] (aAG c t) (gV ?_);refine To.cutC [4,6,7,22] 6 rfl rfl rfl rfl ?_;refine To.range [5] rfl rfl (λ_ _=>by rfl) rfl (λ_ _=>rfl) rfl λl ob0 R _ a=>?_;obtain⟨m,j,d⟩:=OK l c t _ _ O hl (F8 (P:=Tryz.prog) (l:=l) (λL=>lH ob0 (aTq c) R (aCF c v L (If 0 (cR l R)))) (DP v) (λL x=>iP (E:=Ex [] [] []) (fn:=f281) (k:=6) (n:=7) (p:=23) (gg:=0) (L':=aCF c v (DP v L x) (If 0 (cR l {R with state:=.busy}))) (b:=O) a.params a.ready a.pend a.assign a.body a.size rfl rfl rfl rfl rfl rfl rfl λ_=>aJH c v L x l R a.ready) (upL c.ns t) L);refine⟨_,O,_,[Do 3 [m]],j,d,rfl,rfl,gV ?_⟩;refine⟨[],[0,1],⟨rfl,rfl⟩,⟨rfl,rfl⟩⟩
structure Con.sm(c:Con):Prop where
 ns:Z c.ns<=1048576
 hs:Z c.hs<=1048576
def aQk(c:Con)(b:c.sm):ar 280 [c.av] [] (Io (G2 0 0)) [Do 373 (KT c),.mp U (led [])]:=by
 have h1:=b.ns;have a:Z (nav c.ns)=Z c.ns:=by simp
 refine eA E f280 0 λ_=>gV ?_;refine Aa (Aa (by simp only[maxLen];omega) o_) ?_;refine gV ?_;refine⟨[],[3,2],⟨rfl,rfl⟩,⟨rfl,rfl⟩⟩
def mG(f:Nat->V3)(i m:Nat):a8:=(Dh i).map f++Ak m V3.zero
def I6(f:Nat->V3)(i m:Nat):Z (mG f i m)=i+m:=by simp[mG]
def I5(f:Nat->V3)(i m:Nat):(vav (mG f i (m+1))).set i (f i).av=vav (mG f (i+1) m):=by
 have h1:Z (Dh i)=i:=by simp
 unfold mG vav;rw[List.range_succ,Bi,Bi,Bi,List.replicate_succ,Bf];rw[Hl _ _ s_];simp
def I7(f:Nat->V3)(n:Nat):mG f n 0=(Dh n).map f:=by simp[mG]
def DC(f:Nat->V3)(n:Nat):vav (mG f 0 n)=Ak n (aa.agg [ii 0,ii 0,ii 0]):=by simp[mG,vav,V3.av,V3.zero,V3.cs]
abbrev aH1(c:Con)(L:Led):aw:=[Do 373 (KT c),.mp U (led L)]
def nG(n:Nat)(L:Led):a8:=(Dh n).map λi:Nat=>tP L (i:Int)
def aJ2(c:Con)(L:Led)(g:Z c.ns<=1048576)(K:Int)(j:K=(Z c.ns:Nat)):∀(m i:Nat),i+m=Z c.ns->
  To E f282 (.full 2 (Io (CA 3 (vav (nG (Z c.ns) L)) J0)) (aH1 c L)) (BV f282 [(0,G2 0 0),(3,.row 2 0),(15,GE Is K),(16,GE Is i)] [Do 373 (KT c),.mp U (led L),.row 0 3 43 (vav (mG (λi:Nat=>tP L (i:Int)) i m))]):=by
 intro m;induction m with
 | zero=>
  intro i b;have e:mG (λi:Nat=>tP L (i:Int)) i 0=nG (Z c.ns) L:=by rw[I7];unfold nG;rw[<-b];rfl
  rw[e];refine gV ?_;refine aF λh=>gV ?_;refine⟨[2],[0,1],⟨rfl,rfl⟩,⟨rfl,rfl⟩⟩
 | succ m f=>
  intro i b;have hl:Z (vav (mG (λi:Nat=>tP L (i:Int)) i (m+1)))=i+(m+1):=by rw[Bw,I6]
  have hs:=I5 (λi:Nat=>tP L (i:Int)) i m;have a:=IA (i:Int) L;have next:=f (i+1) o_
  rw[<-hs]at next
  unfold tP at next
  refine gV ?_;refine aT λh=>?_;cases d:jX L (i:Int)with
  | none=>
   rw[d]at a next
   have a:cE (led L) [(i:Int)]=none:=a;refine gV ?_;refine⟨D,a,?_⟩;exact zqha1
  | some u=>
   rw[d]at a next
   have a:cE (led L) [(i:Int)]=X u.av:=a;refine gV ?_;refine⟨X u.av,a,?_⟩;exact zqha1
def aRM(c:Con)(L:Led)(b:c.sm):ar 282 [G2 0 0] (aH1 c L) (Io (CA 3 (vav (nG (Z c.ns) L)) J0)) (aH1 c L):=by
 have h1:=b.ns;have a:Z (nav c.ns)=Z c.ns:=by simp
 refine eA E f282 2 λ_=>gV ?_;refine aN (gV ?_);refine⟨Z c.ns,by rw[a],gV ?_⟩;refine⟨⟨rfl,by omega,by simp only[maxLen];omega⟩,?_⟩;refine gV ?_;have next:=aJ2 c L h1 (Z (Ak (Z c.ns) (aa.agg [ii 0,ii 0,ii 0])):Nat) (by rw[Gj]) (Z c.ns) 0 o_
 rw[DC]at next
 exact To.head [0,3,15,16] next
def dem(g:Gan):V3:=W5 g.need g.pods
def Z5(g:Gan):bj 270 [g.av] ((dem g).av):=by refine c_ f270 λ_=>?_;have a:=aKm g.need g.pods;exact zW
def zA(c:Con)(L:Led)(x:Rn):Led:=if bD c.ns x.g.ten=O then(upL c.ns x.g.ten).foldl (DP (dem x.g)) L else L
def ofL(c:Con)(l:a7):a8:=nG (Z c.ns) (l.foldl (zA c) [])
def aES(c:Con)(t:Int)(v:V3)(L:Led)(a:c.sm):ar 281 [G2 0 0,ii t,v.av,.func (.func 242) [] []] (aH1 c L) (Io (ii (if bD c.ns t=O then 0 else 3))) (aH1 c (if bD c.ns t=O then(upL c.ns t).foldl (DP v) L else L)):=
 aAl c t v L _ _ (λh=>⟨bu h,bu h⟩) (λh=>⟨bt (by rw[h];decide),bt (by rw[h];decide)⟩) (by have:=a.ns;simp only[Bw];omega)
def aLV(c:Con)(e:c.sm)(l:a7)(hl:Z l<=1048576)(R:a8):∀(m i:Nat) (L:Led),i+m=Z l->nG (Z c.ns) ((l.drop i).foldl (zA c) L)=R->
  DE E f225 (CA 3 (vav R) J0) [(5,G2 1 0),(10,CA 14 (rav l) J0),(11,GE Is (Z (rav l):Nat)),(12,GE Is i)] [Do 30 c.cs,Do 373 [CA 11 (nav c.ns) J0,CA 6 (hav c.hs) J0,ii c.half,ii c.age,.mref 2],.mp U (led L)]:=by
 have d:Z (rav l)=Z l:=by simp
 intro m;induction m with
 | zero=>
  intro i L j a;rw[Ae o_]at a;subst a;refine gV ?_;refine aF λh=>gV ?_;exact .eff [] [1,2] _ _ rfl (aRM c L e) zW
 | succ m f=>
  intro i L j a;have b:i<Z l:=o_;rw[Ac b,Ap]at a;generalize k:l[i]=x at a;have get:(rav l)[i]? =X x.av:=(cH b).trans (by rw[k]);have next:=f (i+1) (zA c L x) o_ a
  refine gV ?_;refine aT λh=>gV ?_;refine⟨i,rfl,gV ?_⟩;refine⟨_,get,gV ?_⟩;refine .p (Z5 x.g) (gV ?_);refine .sole rfl (.eff [] [1,2] _ _ rfl (aES c x.g.ten (dem x.g) L e) ?_);exact zW
def TZ(c:Con)(a:c.sm)(l:a7)(hl:Z l<=1048576):bj 225 [c.av,CA 14 (rav l) J0] (CA 3 (vav (ofL c l)) J0):=by refine c_ f225 λ_=>gV ?_;refine .pure _ [_,_] (aQk c a) (gV ?_);exact To.cut [5,10,11,12] 3 rfl rfl rfl rfl (aLV c a l hl _ (Z l) 0 [] o_ rfl)
def lvF(ns:bf):Nat->Nat->ax
 | 0,_=>[]
 | m+1,i=>if bD ns (i:Int)=O then(i:Int)::lvF ns m (i+1)else lvF ns m (i+1)
def nA(ns:bf):ax:=lvF ns (Z ns) 0
def FO(ns:bf):∀(m i:Nat),Z (lvF ns m i)<=m
 | 0,_=>by simp[lvF]
 | m+1,i=>by
  have:=FO ns m (i+1);unfold lvF;split
  .simp;omega
  .omega
def aHV(c:Con)(l:c.sm)(R:ax):∀(m i:Nat) (a:ax),i+m=Z c.ns->Z a<=i->a++lvF c.ns m i=R->
  DE (Eo [3] []) f362 (CA 1 (iv R) J0) [(1,G2 0 0),(3,CA 1 (iv a) (.own 1 0)),(7,GE Is (Z (nav c.ns):Nat)),(8,GE Is i)] [Do 30 c.cs,Fr 0 1 3]:=by
 have g:Z (nav c.ns)=Z c.ns:=by simp
 have h1:=l.ns;intro m;induction m with
 | zero=>
  intro i a k j b;unfold lvF at b;rw[Ao]at b;subst b;exact tA
 | succ m f=>
  intro i a k j b;have n:Z (iv a)=Z a:=by simp
  unfold lvF at b;refine gV ?_;refine aT λh=>gV ?_;refine .p (lR c i) (gV ?_);refine Aa (λd=>?_) (λd=>?_)
  .have d:bD c.ns (i:Int)=true:=d;rw[bu d]at b;have next:=f (i+1) (a++[(i:Int)]) o_ q_ (by rw[Ag];exact b)
   have e:iv (a++[(i:Int)])=iv a++[ii i]:=by simp
   rw[e]at next
   exact zW
  .have d:bD c.ns (i:Int)=false:=d;rw[bt (by rw[d];decide)]at b;have next:=f (i+1) a o_ o_ b
   exact zW
def aQr(c:Con)(b:c.sm):bj 362 [c.av] (CA 1 (iv (nA c.ns)) J0):=by refine gA (Eo [3] []) f362 λ_=>?_;have a:=aHV c b _ (Z c.ns) 0 [] o_ s_ rfl;exact zW
def aFj(ns:bf):∀(f:Nat) (n x:Int),x∈upF ns f n->x<=n
 | 0,n,x,h=>by simp[upF]at h
 | f+1,n,x,h=>by
  unfold upF at h;split at h
  .split at h
   .split at h
    .simp at h;omega
    .rename_i h3;rcases Az.1 h with rfl|h
     .omega
     .have:=aFj ns f _ x h;have:¬ n<=(ns[n.toNat]).p:=λa=>h3 (bq a);omega
   .simp at h
  .simp at h
def OH(ns:bf):∀(f:Nat) (n:Int),(upF ns f n).Pairwise λa b=>b<a
 | 0,n=>by simp[upF]
 | f+1,n=>by
  unfold upF;split
  .split
   .split
    .simp
    .rename_i h3;refine Bt.2 ⟨λx d=>?_,OH ns f _⟩;have:=aFj ns f _ x d;have:¬ n<=(ns[n.toNat]).p:=λc=>h3 (bq c);omega
   .simp
  .simp
def yA(ns:bf)(n t:Int):ax:=if n∈upL ns t then[t]else[]
def bI(ns:bf)(n:Int):ax:=(nA ns).flatMap (yA ns n)
def aKy(c:Con)(n:Int)(lv:ax)(i K:Int):au:=[(1,.ptr c.cs),(2,.ptr [ii n]),(3,G2 1 0),(5,G2 2 0),(8,CA 1 (iv lv) J0),(9,GE Is K),(10,GE Is i),(16,.func (.func 345) [] [G2 3 0,.ptr c.cs])]
def uR(l:Nat)(t:Int)(G:Nat)(I:BInv)(o:ab):aw:=[If G I,Do 358 [.func (.yield l) [] []],Do 3 [ii t],.dead,o]
abbrev busy(R:Loop):Loop:={R with state:=.busy}
def aKw(c:Con)(n t x i K:Int)(lv:ax)(l a G:Nat)(I:BInv)(R:Loop)(b:R.state= .ready)(d:x≠n):
  To (El a [] [] []) f361 (.keep 5 (Io (DA O)) (uR l t G I (If 0 (cR a (busy R))))) (.code [.code (rfA f361),.beginR,.code (rfB f361)] (iS (aKy c n lv i K) 17 (ii x)) (uR l t G I (If 0 (cR a R)))):=by
 exact zqha3
def aPc(c:Con)(n t i K:Int)(lv:ax)(l a G:Nat)(I d:BInv)(R:Loop)(b:R.state= .ready)(f:G=0\/G=1)(e:bQ Tryz.prog (.yield l) [ii t] [If 0 I] (Io (DA O)) [If 1 d]):
  To (El a [] [] []) f361 (.keep 5 (Io (DA O)) (uR l t (G+1) d (If 0 (cR a (busy R))))) (.code [.code (rfA f361),.beginR,.code (rfB f361)] (iS (aKy c n lv i K) 17 (ii n)) (uR l t G I (If 0 (cR a R)))):=by
 rcases f with rfl|rfl
 .exact zqha3
 .exact zqha3
def aKv(c:Con)(n t i K:Int)(lv:ax)(l a G:Nat)(I d:BInv)(R:Loop)(b:R.state= .ready)(f:G=0\/G=1)(e:bQ Tryz.prog (.yield l) [ii t] [If 0 I] (Io (DA U)) [If 1 d]):
  To (El a [] [] []) f361 (.keep 5 (Io (DA U)) (uR l t (G+1) d (If 0 (cR a (busy R))))) (.code [.code (rfA f361),.beginR,.code (rfB f361)] (iS (aKy c n lv i K) 17 (ii n)) (uR l t G I (If 0 (cR a R)))):=by
 rcases f with rfl|rfl
 .exact zqha3
 .exact zqha3
def CC{P:Program}{l:Nat}{J:BInv}{n:Int}(hs:∀x,x≠n->bQ P (.yield l) [ii x] [If 0 J] (Io (DA O)) [If 1 J]):∀(xs:ax),n∉xs->Ylds P l xs J J O
 | [],_=>.nil _
 | x::r,h=>.next x r _ _ _ _ (hs x λe=>h (by simp[e])) (CC hs r λe=>h (by simp[e]))
def F7{P:Program}{l:Nat}{J J1:BInv}{n:Int}{b:Bool}(hs:∀x,x≠n->bQ P (.yield l) [ii x] [If 0 J] (Io (DA O)) [If 1 J])(c:bQ P (.yield l) [ii n] [If 0 J] (Io (DA b)) [If 1 J1])
  (h1:b=O->∀x,x≠n->bQ P (.yield l) [ii x] [If 0 J1] (Io (DA O)) [If 1 J1]):∀(xs:ax),xs.Pairwise (λa b=>b<a)->n∈xs->Ylds P l xs J J1 b
 | [],_,h=>by simp at h
 | x::r,hp,h=>by
  rw[Bt]at hp;by_cases d:x=n
  .subst d;cases b with
   | true=>exact .next x r _ _ _ _ c (CC (h1 rfl) r λe=>by have:=hp.1 x e;omega)
   | false=>exact .stop x r _ _ c
  .exact .next x r _ _ _ _ (hs x d) (F7 hs c h1 r hp.2 ((Az.1 h).resolve_left λe=>d e.symm))
def tnJ(c:Con)(n t i K:Int)(lv:ax)(l a:Nat)(ob0:Hs)(R b:Loop)(G:Nat)(I:BInv):BInv:=lH ob0 (aKy c n lv i K) R (uR l t G I (If 0 (cR a b)))
def AQ{e f:Code}(c:Con)(n t x i K:Int)(lv:ax)(l d G:Nat)(ob0:Hs)(I:BInv)(R:Loop)(a:RecOK f361 17 e f R)(g:rfA f361=e)(h:rfB f361=f)(j:x≠n):
  bQ Tryz.prog (.yield d) [ii x] [If 0 (tnJ c n t i K lv l d ob0 R R G I)] (Io (DA O)) [If 1 (tnJ c n t i K lv l d ob0 R R G I)]:=by
 subst g h;exact iP (E:=Ex [] [] []) (fn:=f361) (k:=4) (n:=5) (p:=17) (gg:=0) (L':=uR l t G I (If 0 (cR d (busy R)))) (b:=O) a.params a.ready a.pend a.assign a.body a.size rfl rfl rfl rfl rfl rfl rfl λ_=>aKw c n t x i K lv l d G I R a.ready j
def aAR{g h:Code}(c:Con)(n t i K:Int)(lv:ax)(l d G:Nat)(ob0:Hs)(I e:BInv)(R:Loop)(b:Bool)(a:RecOK f361 17 g h R)(m:rfA f361=g)(o:rfB f361=h)(j:G=0\/G=1)(f:bQ Tryz.prog (.yield l) [ii t] [If 0 I] (Io (DA b)) [If 1 e]):
  bQ Tryz.prog (.yield d) [ii n] [If 0 (tnJ c n t i K lv l d ob0 R R G I)] (Io (DA b)) [If 1 (tnJ c n t i K lv l d ob0 R (nV R b) (G+1) e)]:=by
 subst m o;cases b with
 | true=>exact iP (E:=Ex [] [] []) (fn:=f361) (k:=4) (n:=5) (p:=17) (gg:=0) (L':=uR l t (G+1) e (.bun 0 (cR d (busy R)))) (b:=O) a.params a.ready a.pend a.assign a.body a.size rfl rfl rfl rfl rfl rfl rfl λ_=>aPc c n t i K lv l d G I e R a.ready j f
 | false=>exact iP (E:=Ex [] [] []) (fn:=f361) (k:=4) (n:=5) (p:=17) (gg:=0) (L':=uR l t (G+1) e (.bun 0 (cR d (busy R)))) (b:=U) a.params a.ready a.pend a.assign a.body a.size rfl rfl rfl rfl rfl rfl rfl λ_=>aKv c n t i K lv l d G I e R a.ready j f
def aFC(c:Con)(Y:c.sm)(n:Int)(l:Nat)(lv:ax)(k:BInv)(b:Bool)(Am:Z lv<=1048576):∀(m i:Nat) (G:Nat) (I:BInv),i+m=Z lv->(G=0\/G=1)->Ylds Tryz.prog l ((lv.drop i).flatMap (yA c.ns n)) I k b->
  ∃j,To E f361 (.full 1 (Io (GT [])) [If j k]) (BV f361 [(1,.ptr c.cs),(2,.ptr [ii n]),(3,G2 1 0),(8,CA 1 (iv lv) J0),(9,GE Is (Z (iv lv):Nat)),(10,GE Is i)] [If G I,Do 358 [.func (.yield l) [] []]]):=by
 have P:Z (iv lv)=Z lv:=by simp
 have K:(Z (nav c.ns):Int)<=9223372036854775807:=by have:=Y.ns;simp only[Bw];omega
 intro m;induction m with
 | zero=>
  intro i G I V s e;rw[Ae o_]at e;have e:Ylds Tryz.prog l [] I k b:=e;cases e;rcases s with rfl|rfl
  .refine ⟨0,gV ?_⟩;exact zW
  .refine ⟨1,gV ?_⟩;exact zW
 | succ m As=>
  intro i G I V s e;have B:i<Z lv:=o_;rw[Ac B,Lv]at e;generalize p:lv[i]=t at e;have get:(iv lv)[i]? =X (ii t):=(cK B).trans (by rw[p])
  have key:∃(j u:Nat) (y:BInv) (o:Bool),(o=O->(u=G\/u=G+1)/\To E f361 (.full 1 (Io (GT [])) [If j k]) (BV f361 [(1,.ptr c.cs),(2,.ptr [ii n]),(3,G2 1 0),(8,CA 1 (iv lv) J0),(9,GE Is (Z (iv lv):Nat)),(10,GE Is ((i:Int)+1))] [If (if u=0 then 0 else 1) y,Do 358 [.func (.yield l) [] []]]))/\(o=U->u=G+1/\j=1/\y=k)/\
    ∀(d:Nat) (ob0:Hs) (R:Loop) (w C:Code),RecOK f361 17 w C R->rfA f361=w->rfB f361=C->Ylds Tryz.prog d (upL c.ns t) (tnJ c n t i (Z (iv lv):Nat) lv l d ob0 R R G I) (tnJ c n t i (Z (iv lv):Nat) lv l d ob0 R (nV R o) u y) o:=by
   unfold yA at e;have Be:(upL c.ns t).Pairwise λa b=>b<a:=OH _ _ _;by_cases z:n∈upL c.ns t
   .rw [bu z]at e;have e:Ylds Tryz.prog l (t::(lv.drop (i+1)).flatMap (yA c.ns n)) I k b:=e;cases e with
    | stop _ _ _ _ v=>
     refine⟨1,G+1,k,U,(λh=>by cases h),λ_=>⟨rfl,rfl,rfl⟩,λd ob0 R w C g q r=>?_⟩;exact F7 (λx p=>AQ c n t x i _ lv l d G ob0 I R g q r p) (aAR c n t i _ lv l d G ob0 I k R U g q r s v) (λh=>by cases h) _ Be z
    | next _ _ _ F _ _ v Q=>
     obtain⟨j,f⟩:=As (i+1) 1 F o_ (.inr rfl) Q;refine⟨j,G+1,F,O,λ_=>⟨.inr rfl,?_⟩,(λh=>by cases h),λd ob0 R w C g q r=>?_⟩
     .rw [bt o_];exact f
     .exact F7 (λx p=>AQ c n t x i _ lv l d G ob0 I R g q r p) (aAR c n t i _ lv l d G ob0 I F R O g q r s v) (λ_ x p=>AQ c n t x i _ lv l d (G+1) ob0 F R g q r p) _ Be z
   .rw [bt z]at e;have e:Ylds Tryz.prog l ((lv.drop (i+1)).flatMap (yA c.ns n)) I k b:=e;obtain⟨j,f⟩:=As (i+1) G I o_ s e;refine⟨j,G,I,O,λ_=>⟨.inl rfl,?_⟩,(λh=>by cases h),λd ob0 R w C g q r=>?_⟩
    .rcases s with rfl|rfl
     .exact f
     .exact f
    .exact CC (λx p=>AQ c n t x i _ lv l d G ob0 I R g q r p) _ z
  obtain⟨j,u,y,o,M,H,N⟩:=key;refine⟨j,gV ?_⟩;refine aT λh=>gV ?_;refine⟨i,rfl,gV ?_⟩;refine⟨_,get,gV ?_⟩;refine .pure _ [Do 3 [ii t]] (aAG c t) (gV ?_);refine To.cutC [1,2,3,5,8,9,10,16] 4 rfl rfl rfl rfl ?_;refine To.range [3] rfl rfl (λ_ _=>by rfl) rfl (λ_ _=>rfl) rfl λd ob0 R _ g=>?_;obtain⟨An,S,L⟩:=OK d c t _ _ o K (N d ob0 R _ _ g rfl rfl);refine⟨uR l t u y (If 0 (cR d (nV R o))),o,_,[Do 3 [An]],S,L,rfl,rfl,?_⟩;cases o with
  | false=>
   obtain⟨T,W,At⟩:=H rfl;subst T W At;rcases s with rfl|rfl
   all_goals (refine gV ?_;refine⟨[],[0],⟨rfl,rfl⟩,⟨rfl,rfl⟩⟩)
  | true=>
   obtain⟨J,f⟩:=M rfl;refine gV ?_;refine aJ (gV ?_);refine To.part [1,2,3,8,9,10] [0,1] rfl rfl rfl ?_;rcases s with rfl|rfl<;>rcases J with rfl|rfl<;>exact f
def aFB(c:Con)(d:c.sm)(n:Int)(l:Nat)(I a:BInv)(b:Bool)(k:Ylds Tryz.prog l (bI c.ns n) I a b):∃i,ar 361 [.func (.yield l) [] [],.ptr c.cs,.ptr [ii n]] [If 0 I] (Io (GT [])) [If i a]:=by have e:Z (nA c.ns)<=1048576:=Cp (FO _ _ _) d.ns;obtain⟨i,h⟩:=aFC c d n l (nA c.ns) a b e (Z (nA c.ns)) 0 0 I o_ (.inl rfl) k;refine⟨i,?_⟩;refine eA E f361 1 λ_=>?_;have j:=aQr c d;exact zW
def GM(c:Con)(n:Int):bj 339 [c.av,ii n] (.func (.func 361) [] [.ptr c.cs,.ptr [ii n]]):=by exact c_ f339 λ_=>zW
def RH{P:Program}{l:Nat}(F:ax->BInv)(h:∀(a:ax) x,Z a<1048576->bQ P (.yield l) [ii x] [If 0 (F a)] (Io (DA O)) [If 1 (F (a++[x]))]):∀(xs a:ax),Z a+Z xs<=1048576->Ylds P l xs (F a) (F (a++xs)) O
 | [],a,_=>by rw[Ao];exact .nil _
 | x::r,a,hl=>by have:=RH F h r (a++[x]) (by simp at hl⊢;omega);rw[Ag]at this;exact .next x r _ _ _ _ (h a x (by simp at hl;omega)) this
abbrev aC7(c:Con)(n:Int):aa:=.func (.func 361) [] [.ptr c.cs,.ptr [ii n]]
def aRJ(f:aa):au:=[(2,G2 0 0),(6,f)]
def yM(a:ax)(g:Nat)(o:ab):aw:=[Do 83 [CA 1 (iv a) (.own 1 g)],Fr g 1 3,o]
def aE0(f:aa)(a:ax)(x:Int)(hl:Z a<1048576)(l:Nat)(R:Loop)(b:R.state= .ready):
  To (El l [] [] []) f352 (.keep 3 (Io (DA O)) (yM (a++[x]) 1 (If 0 (cR l (busy R))))) (.code [.code (rfA f352),.beginR,.code (rfB f352)] (iS (aRJ f) 7 (ii x)) (yM a 0 (If 0 (cR l R)))):=by
 exact zqha4
def aEZ(f:aa)(a:ax)(x:Int)(hl:Z a<1048576)(l:Nat)(R:Loop)(b:R.state= .ready):
  To (El l [] [] []) f352 (.keep 3 (Io (DA O)) (yM (a++[x]) 2 (If 0 (cR l (busy R))))) (.code [.code (rfA f352),.beginR,.code (rfB f352)] (iS (aRJ f) 7 (ii x)) (yM a 1 (If 0 (cR l R)))):=by
 exact zqha4
def gOf:ax->Nat
 | []=>0
 | _::_=>1
def aIz(a:ax)(x:Int):gOf (a++[x])=1:=by cases a<;>rfl
def apJ(f:aa)(ob0:Hs)(R:Loop)(l:Nat)(a:ax):BInv:=lH ob0 (aRJ f) R (yM a (gOf a) (If 0 (cR l R)))
def aJZ{e g:Code}(f:aa)(j:∀og,cvtV 3 [0,1,2] og 5 f=f)(ob0:Hs)(l:Nat)(R:Loop)(d:ax)(x:Int)(hl:Z d<1048576)(h1:∀hs∈ob0,Z hs=1)(m:Z ob0=0)(c:RecOK f352 7 e g R)(h:rfA f352=e)(i:rfB f352=g):
  bQ Tryz.prog (.yield l) [ii x] [If 0 (apJ f ob0 R l d)] (Io (DA O)) [If 1 (apJ f ob0 R l (d++[x]))]:=by
 subst h i;unfold apJ;rw[aIz];cases d with
 | nil=>exact iP (E:=Ex [] [] []) (fn:=f352) (k:=2) (n:=3) (p:=7) (gg:=0) (L':=yM ([]++[x]) 1 (.bun 0 (cR l (busy R)))) (b:=O) c.params c.ready c.pend c.assign c.body c.size rfl rfl rfl rfl rfl rfl rfl λ_=>aE0 f [] x hl l R c.ready
 | cons a r=>
  have:=iP (E:=Ex [] [] []) (fn:=f352) (ob0:=ob0) (k:=2) (n:=3) (p:=7) (gg:=0) (L:=yM (a::r) 1 (If 0 (cR l R))) (L':=yM ((a::r)++[x]) 2 (If 0 (cR l (busy R)))) (b:=O) c.params c.ready c.pend c.assign c.body c.size rfl rfl rfl rfl rfl rfl rfl λ_=>aEZ f (a::r) x hl l R c.ready;refine this.bunTo (aJD (n:=3) rfl h1 o_ rfl ?_ rfl);show[(2,aa.ref 0 0),(6,cvtV 3 [0,1,2] _ 5 f)]=_;rw[j];rfl
def aRI(c:Con)(i:c.sm)(n:Int)(d:Z (bI c.ns n)<=1048576):bj 352 [.nilslice,aC7 c n] (CA 1 (iv (bI c.ns n)) J0):=by refine c_ f352 λ_=>gV ?_;refine To.cutC [2,6] 1 rfl rfl rfl rfl ?_;refine To.mapO (aL6 1) (T6 1) ?_;refine To.beginC 0 0 3 rfl rfl ?_;refine To.range [] rfl rfl (λ_ _=>by rfl) rfl (λ_ _=>rfl) rfl λl ob0 R hst e=>?_;obtain⟨h,a⟩:=aFB c i n l _ _ O (RH (P:=Tryz.prog) (l:=l) (apJ (aC7 c n) ob0 R l) (λb x hl=>aJZ (aC7 c n) (λ_=>rfl) ob0 l R b x hl (hst.2 rfl) hst.1 e rfl rfl) (bI c.ns n) [] (by simpa using d));rw[Bk]at a;refine⟨_,O,_,[],h,a,rfl,rfl,?_⟩;exact zW
def aAe(c:Con)(d:c.sm)(n:Int)(b:Z (bI c.ns n)<=1048576):bj 320 [aC7 c n] (CA 1 (iv (bI c.ns n)) J0):=by refine c_ f320 λ_=>?_;have a:=aRI c d n b;exact zW
def aML(ns:bf)(n t:Int):Z (yA ns n t)<=1:=by unfold yA;split<;>simp
def nM(c:Con)(a:c.sm)(n:Int):Z (bI c.ns n)<=1048576:=by
 have h:∀(l:ax),Z (l.flatMap (yA c.ns n))<=Z l:=by
  intro l;induction l with
  | nil=>simp
  | cons x r b=>
   have:=aML c.ns n x;simp only[Lv,Ah,Al];omega
 exact Cp (h _) (Cp (FO _ _ _) a.ns)
def WQ(c:Con)(d:c.sm)(n:Int):bj 363 [c.av,ii n] (CA 1 (iv (bI c.ns n)) J0):=by refine c_ f363 λ_=>?_;have b:=GM c n;have a:=aAe c d n (nM c d n);exact zW
def atV(l:a8)(n:Int):V3:=if decide (n<0)=O then V3.zero else(l[n.toNat]?).getD V3.zero
def aOb(l:a8)(n:Int)(r:V3)(a:atV l n=r):bj 326 [CA 3 (vav l) J0,ii n] r.av:=by
 have b:Z (vav l)=Z l:=by simp
 unfold atV at a;by_cases h1:n<0
 .rw [bu (bq h1)]at a;subst a;exact zqha13
 .rw [bt (by rw[bp h1];decide)]at a;by_cases c:n.toNat<Z l
  .rw [Ab c]at a;have a:l[n.toNat]=r:=a;have get:(vav l)[n.toNat]? =X r.av:=(lN c).trans (by rw[a]);have d:n=(n.toNat:Int):=o_;exact zqha13
  .rw [List.getElem?_eq_none o_]at a;have a:V3.zero=r:=a;subst a;exact zqha13
def J3(l:a8)(n:Int):bj 326 [CA 3 (vav l) J0,ii n] ((atV l n).av):=aOb l n _ rfl
def aCW(a b:V3)(r:Bool)(c:cD a b=r):bj 266 [a.av,b.av] (DA r):=by
 unfold cD at c;refine c_ f266 λ_=>gV ?_
 repeat' first
  | (refine gW hE ?_;conv=>whnf)
  | exact c
  | refine aY ?_
  | refine aN ?_
  | refine Aa (λh=>?_) (λh=>?_)
  | refine aJ ?_
  | refine Aj _ (Aa rfl ?_)
  | refine Aa d_ ?_
 all_goals (rw[<-c];simp_all)
def nO(a b:V3):bj 266 [a.av,b.av] (DA (cD a b)):=aCW a b _ rfl
def AG(a b:V3):bj 243 [a.av,b.av] (DA (!cD a b)):=by refine c_ f243 λ_=>?_;have c:=nO a b;exact zW
def smS(l:a8)(v:V3)(t:Int):V3:=eU v (atV l t)
def jN(ns:bf)(n:Int)(l:a8):V3:=(bI ns n).foldl (smS l) V3.zero
def aR0(f:aa):au:=[(5,G2 1 0),(6,G2 2 0),(7,G2 3 0),(11,f)]
def aA5(c:Con)(l:a8)(v:V3)(o:ab):aw:=[Do 30 c.cs,Do 206 [CA 3 (vav l) J0],Do 43 V3.zero.cs,Do 43 v.cs,o]
def aFV(c:Con)(n:Int)(l:a8)(v:V3)(x:Int)(k:Nat)(R:Loop)(d:R.state= .ready):
  To (El k [] [] []) f300 (.keep 5 (Io (DA O)) (aA5 c l (smS l v x) (If 0 (cR k (busy R))))) (.code [.code (rfA f300),.beginR,.code (rfB f300)] (iS (aR0 (aC7 c n)) 12 (ii x)) (aA5 c l v (If 0 (cR k R)))):=by
 refine gV ?_;refine To.beginR (k:=4) (gg:=0) rfl rfl d ?_;have b:=J3 l x;have a:=jQ v (atV l x);exact zW
def aFH(c:Con)(h:c.sm)(n:Int)(l:a8):bj 300 [c.av,ii n,CA 3 (vav l) J0] ((jN c.ns n l).av):=by refine c_ f300 λ_=>gV ?_;refine .p (GM c n) (gV ?_);refine To.cutC [5,6,7,11] 4 rfl rfl rfl rfl ?_;refine To.range [] rfl rfl (λ_ _=>by rfl) rfl (λ_ _=>rfl) rfl λk ob0 R hst a=>?_;obtain⟨e,d⟩:=aFB c h n k _ _ O (F8 (P:=Tryz.prog) (l:=k) (λv=>lH ob0 (aR0 (aC7 c n)) R (aA5 c l v (If 0 (cR k R)))) (smS l) (λv x=>iP (E:=Ex [] [] []) (fn:=f300) (k:=4) (n:=5) (p:=12) (gg:=0) (L':=aA5 c l (smS l v x) (If 0 (cR k (busy R)))) (b:=O) a.params a.ready a.pend a.assign a.body a.size rfl rfl rfl rfl rfl rfl rfl λ_=>aFV c n l v x k R a.ready) (bI c.ns n) V3.zero);refine⟨_,O,_,[],e,d,rfl,rfl,?_⟩;exact zW
def Con.ok(c:Con)(n:Int):Prop:=0<=n/\n.toNat<Z c.ns
def P1(ns:bf):∀(m i:Nat) (x:Int),x∈lvF ns m i->(i:Int)<=x/\x<i+m
 | 0,_,_,h=>by simp[lvF]at h
 | m+1,i,x,h=>by
  have a:=P1 ns m (i+1) x;unfold lvF at h;split at h
  .rcases Az.1 h with rfl|h
   .omega
   .have:=a h;omega
  .have:=a h;omega
def jL(c:Con)(n x:Int)(h:x∈bI c.ns n):c.ok x:=by
 unfold bI at h;obtain⟨t,h1,a⟩:=List.mem_flatMap.1 h;have:x=t:=by
  unfold yA at a;split at a
  .simpa using a
  .simp at a
 subst this;have:=P1 c.ns (Z c.ns) 0 x h1;exact⟨by omega,by omega⟩
def OJ(c:Con):∀(f:Nat) (n x:Int),x∈upF c.ns f n->c.ok x
 | 0,_,_,h=>by simp[upF]at h
 | f+1,n,x,h=>by
  have b:=λp=>OJ c f p x;unfold upF at h;split at h
  .rename_i h1;split at h
   .rename_i a;split at h
    .simp at h;subst h;exact⟨bn h1,a⟩
    .rcases Az.1 h with rfl|h
     .exact ⟨bn h1,a⟩
     .exact b _ h
   .simp at h
  .simp at h
def cO(ns:bf)(n:Int):Nod:=(ns[n.toNat]?).getD ⟨0,0,V3.zero,V3.zero,V3.zero⟩
def xD{c:Con}{n:Int}(h:c.ok n):(nav c.ns)[n.toNat]? =X (cO c.ns n).av:=by unfold cO;rw[Ab h.2];exact fL h.2
def aDO(v:V3):V3:=⟨max v.a 0,max v.b 0,max v.c 0⟩
def BI(ns:bf)(a:a8)(t:Int)(v:V3)(s:Int):V3:=if decide (s=t)=O then v else eU v (aDO (AF (AF (cO ns s).n (cO ns s).l) (atV a s)))
def BJ(ns:bf)(a:a8)(n t:Int):V3:=(bI ns n).foldl (BI ns a t) V3.zero
def aD5(c:Con)(a:a8)(t:Int)(bl:ax)(y:Z bl<=1048576)(r:∀x∈bl,c.ok x)(R:V3):∀(m i:Nat) (v:V3),i+m=Z bl->(bl.drop i).foldl (BI c.ns a t) v=R->
  DE E f344 R.av [(1,CA 3 (vav a) J0),(3,ii t),(4,G2 0 0),(8,G2 1 0),(9,G2 2 0),(18,CA 1 (iv bl) J0),(19,GE Is (Z (iv bl):Nat)),(20,GE Is i)] [Do 30 c.cs,Do 43 V3.zero.cs,Do 43 v.cs]:=by
 have k:Z (iv bl)=Z bl:=by simp
 intro m;induction m with
 | zero=>
  intro i v q f;rw[Ae o_]at f;subst f;exact tA
 | succ m o=>
  intro i v q f;have d:i<Z bl:=o_;rw[Ac d,Ap]at f;have b:=r _ (Aq d);generalize w:bl[i]=s at f b;have get:(iv bl)[i]? =X (ii s):=(cK d).trans (by rw[w]);have g:=xD b;have p:s=(s.toNat:Int):=by have:=b.1;omega
  have next:=o (i+1) _ o_ f
  unfold BI at next
  generalize cO c.ns s=x at g next
  refine gV ?_;refine aT λh=>gV ?_;refine⟨i,rfl,gV ?_⟩;refine⟨_,get,gV ?_⟩;refine Aa (λe=>?_) (λe=>?_)
  .have e:decide (s=t)=true:=e;rw[bu e]at next
   exact zW
  .have e:decide (s=t)=false:=e;rw[bt (by rw[e];decide)]at next
   refine gV ?_;refine⟨s.toNat,p,gV ?_⟩;refine⟨_,g,gV ?_⟩;refine .p (OC x.n x.l) (gV ?_);refine .p (J3 a s) (gV ?_);refine .p (OC (AF x.n x.l) (atV a s)) ?_;generalize AF (AF x.n x.l) (atV a s)=u at next⊢
   refine gV ?_;refine gV ?_;refine aY (gV ?_);refine⟨by decide,gV ?_⟩;refine⟨by decide,gV ?_⟩;refine aJ (gV ?_);refine gV ?_;refine aY (gV ?_);refine⟨by decide,gV ?_⟩;refine⟨by decide,gV ?_⟩;refine aJ (gV ?_);refine gV ?_;refine aY (gV ?_);refine⟨by decide,gV ?_⟩;refine⟨by decide,gV ?_⟩;refine aJ (gV ?_);refine gV ?_;have j:=jQ v (aDO u);exact zW
def aMu(c:Con)(e:c.sm)(a:a8)(n t:Int):bj 344 [c.av,CA 3 (vav a) J0,ii n,ii t] ((BJ c.ns a n t).av):=by refine c_ f344 λ_=>?_;have d:=WQ c e n;have b:=aD5 c a t _ (nM c e n) (λx h=>jL c n x h) _ (Z (bI c.ns n)) 0 V3.zero o_ rfl;exact zW
def mY(ns:bf):a8:=(Dh (Z ns)).map λi:Nat=>(cO ns (i:Int)).n
def aHI(c:Con)(f:c.sm)(n:Int)(K:Int)(k:K=(Z (nav c.ns):Nat)):∀(m i:Nat),i+m=Z c.ns->
  To E f241 (.pure (Io (jN c.ns n (mY c.ns)).av)) (BV f241 [(1,ii n),(2,G2 0 0),(4,G2 1 0),(5,.row 2 0),(13,CA 11 (nav c.ns) J0),(14,GE Is K),(15,GE Is i)] [Do 30 c.cs,Do 43 V3.zero.cs,.row 0 3 43 (vav (mG (λi:Nat=>(cO c.ns (i:Int)).n) i m))]):=by
 have d:Z (nav c.ns)=Z c.ns:=by simp
 have h1:=f.ns;intro m;induction m with
 | zero=>
  intro i b;have e:mG (λi:Nat=>(cO c.ns (i:Int)).n) i 0=mY c.ns:=by rw[I7];unfold mY;rw[<-b];rfl
  rw[e];refine gV ?_;have a:=aFH c f n (mY c.ns);exact zW
 | succ m g=>
  intro i b;have hl:Z (vav (mG (λi:Nat=>(cO c.ns (i:Int)).n) i (m+1)))=i+(m+1):=by rw[Bw,I6]
  have hs:=I5 (λi:Nat=>(cO c.ns (i:Int)).n) i m;have j:(nav c.ns)[i]? =X (cO c.ns (i:Int)).av:=xD (c:=c) (n:=(i:Int)) ⟨by omega,by omega⟩;have next:=g (i+1) o_
  rw[<-hs]at next
  refine gV ?_;refine aT λh=>gV ?_;refine⟨i,rfl,gV ?_⟩;refine⟨_,j,?_⟩;exact zqha1
def aHH(c:Con)(b:c.sm)(n:Int):bj 241 [c.av,ii n] ((jN c.ns n (mY c.ns)).av):=by
 have h1:=b.ns;have a:Z (nav c.ns)=Z c.ns:=by simp
 refine c_ f241 λ_=>gV ?_;refine⟨Z c.ns,by rw[a],gV ?_⟩;refine⟨⟨rfl,by omega,by simp only[maxLen];omega⟩,?_⟩;refine gV ?_;have next:=aHI c b n _ rfl (Z c.ns) 0 o_
 rw[DC]at next
 exact To.cut [1,2,4,5,13,14,15] 3 rfl rfl rfl rfl next
abbrev aHp(c:Con)(used:a8)(need:V3):aa:=.func (.func 342) [] [.ptr c.cs,.ptr [CA 3 (vav used) J0],.ptr need.cs]
abbrev aJ3(c:Con)(used:a8)(need:V3)(t:Int):aa:=.func (.func 343) [] [.ptr c.cs,.ptr [CA 3 (vav used) J0],.ptr need.cs,.ptr [ii t]]
def aDS(c:Con)(a:a8)(need:V3)(n:Int):Bool:=cD (eU (atV a n) need) (eU (cO c.ns n).n (cO c.ns n).b)
def aAp(c:Con)(a:a8)(need:V3)(t n:Int):Bool:=cD (eU (eU (jN c.ns n a) need) (BJ c.ns a n t)) (jN c.ns n (mY c.ns))
def PL(c:Con)(a:a8)(need:V3)(n:Int)(h:c.ok n):bj 342 [ii n,.ptr c.cs,.ptr [CA 3 (vav a) J0],.ptr need.cs] (DA (aDS c a need n)):=by
 have l:=xD h;have m:n=(n.toNat:Int):=by have:=h.1;omega
 unfold aDS;generalize cO c.ns n=x at l⊢;refine c_ f342 λ_=>?_;have d:=J3 a n;have e:=jQ (atV a n) need;have i:=jQ x.n x.b;have hz2:=λj k=>nO j k;exact zW
def FY(c:Con)(b:c.sm)(a:a8)(need:V3)(t n:Int):bj 343 [ii n,.ptr c.cs,.ptr [CA 3 (vav a) J0],.ptr need.cs,.ptr [ii t]] (DA (aAp c a need t n)):=by unfold aAp;refine c_ f343 λ_=>?_;have h:=aFH c b n a;have i:=jQ (jN c.ns n a) need;have d:=aMu c b a n t;have e:=jQ (eU (jN c.ns n a) need) (BJ c.ns a n t);have j:=aHH c b n;have hz2:=λk l=>nO k l;exact zW
def ruO(c:Con)(a:a8)(need:V3)(t:Int):aw:=[Do 30 c.cs,Do 206 [CA 3 (vav a) J0],Do 3 [ii t],Do 43 need.cs,Do 365 [.nilfunc],Do 365 [.nilfunc],
 Do 365 [.func (.func 342) [] [G2 0 0,G2 1 0,G2 3 0]],Do 365 [.func (.func 343) [] [G2 0 0,G2 1 0,G2 3 0,G2 2 0]]]
def aPC(c:Con)(a:a8)(need:V3)(t:Int):aw:=[.fcells c.cs,.fcells [CA 3 (vav a) J0],.fcells [ii t],.fcells need.cs,Do 365 [.nilfunc],Do 365 [.nilfunc],
 .fcells [aHp c a need],.fcells [aJ3 c a need t]]
def aPB(c:Con)(a:a8)(need:V3)(t:Int):ak [6,7] (ruO c a need t)=aPC c a need t:=by kernel_rfl
def aK5(c:Con)(a:a8)(need:V3)(t:Int):zJ [10,11] (aE (aPC c a need t)) [(8,G2 4 0),(9,G2 5 0),(10,G2 6 0),(11,G2 7 0)]=[(8,G2 4 0),(9,G2 5 0),(10,.ptr [aHp c a need]),(11,.ptr [aJ3 c a need t])]:=by kernel_rfl
def aK4{g:Goal}{ks:bg}(c:Con)(a:a8)(need:V3)(t:Int)(h:To (Er [] [16,17]) f310 g (.code ks [(8,G2 4 0),(9,G2 5 0),(10,.ptr [aHp c a need]),(11,.ptr [aJ3 c a need t])] (aPC c a need t))):
  To (Er [] [16,17]) f310 g (.code ks [(8,G2 4 0),(9,G2 5 0),(10,G2 6 0),(11,G2 7 0)] (ruO c a need t)):=by
 refine To.frz [10,11] [6,7] ?_;rw[aPB,aK5];exact h
def aGa(c:Con)(a:a8)(need:V3)(t:Int):bj 310 [c.av,CA 3 (vav a) J0,ii t,need.av] (GT [He [aHp c a need],He [aJ3 c a need t]]):=by
 refine gA (Er [] [16,17]) f310 λ_=>?_;refine bR (hEr [] [16,17]) 51 ?_;conv=>whnf
 refine To.cutC [8,9,10,11] 8 rfl rfl rfl rfl ?_;refine aK4 c a need t ?_;exact zW
def LD{P:Program}{l:Nat}{J J1:BInv}{p:Int->Bool}{V:Int->Prop}(a:∀x,V x->p x=O->bQ P (.yield l) [ii x] [If 0 J] (Io (DA O)) [If 1 J])(h1:∀x,V x->p x=U->bQ P (.yield l) [ii x] [If 0 J] (Io (DA U)) [If 1 J1]):
  ∀(xs:ax),(∀x∈xs,V x)->Ylds P l xs J (if xs.all p=O then J else J1) (xs.all p)
 | [],_=>by simp;exact .nil _
 | x::r,hv=>by
  rw[Hw];cases hp:p x with
  | true=>
   rw[Bz];exact .next x r _ _ _ _ (a x (hv x s_) hp) (LD a h1 r λy b=>hv y (by simp[b]))
  | false=>
   rw[Cu,bt d_];exact .stop x r _ _ (h1 x (hv x s_) hp)
def P0(c:Con)(a:a8)(t:Int)(need:V3)(x:Int):Bool:=if decide (x=t)=O then aDS c a need x else aAp c a need t x
def E2(c:Con)(a:a8)(t:Int)(need:V3):Bool:=if bD c.ns t=O then(upL c.ns t).all (P0 c a t need)else U
def aMa(f:aa):au:=[(6,G2 1 0),(8,G2 3 0),(9,G2 4 0),(10,G2 5 0),(26,f)]
def ED(c:Con)(a:a8)(t:Int)(need:V3)(b:Bool)(o:ab):aw:=[Do 30 c.cs,Do 3 [ii t],Do 43 need.cs,Do 4 [DA b],Do 365 [aHp c a need],Do 365 [aJ3 c a need t],.dead,o]
abbrev aKp(c:Con):aa:=.func (.func 345) [] [G2 6 0,.ptr c.cs]
def aSq(c:Con)(f:c.sm)(a:a8)(t:Int)(need:V3)(x:Int)(d:c.ok x)(k:Nat)(R:Loop)(b:R.state= .ready)(hp:P0 c a t need x=O):
  To (El k [] [] []) f269 (.keep 8 (Io (DA O)) (ED c a t need U (If 0 (cR k (busy R))))) (.code [.code (rfA f269),.beginR,.code (rfB f269)] (iS (aMa (aKp c)) 27 (ii x)) (ED c a t need U (If 0 (cR k R)))):=by
 exact zqha0
def aL9(c:Con)(f:c.sm)(a:a8)(t:Int)(need:V3)(x:Int)(d:c.ok x)(k:Nat)(R:Loop)(b:R.state= .ready)(hp:P0 c a t need x=U):
  To (El k [] [] []) f269 (.keep 8 (Io (DA U)) (ED c a t need U (If 0 (cR k (busy R))))) (.code [.code (rfA f269),.beginR,.code (rfB f269)] (iS (aMa (aKp c)) 27 (ii x)) (ED c a t need U (If 0 (cR k R)))):=by
 exact zqha0
def aMk(c:Con)(q:c.sm)(a:a8)(t:Int)(need:V3)(r:Bool)(e:E2 c a t need=r):bj 269 [c.av,CA 3 (vav a) J0,ii t,need.av] (DA r):=by
 have j:(Z (nav c.ns):Int)<=9223372036854775807:=by have:=q.ns;simp only[Bw];omega
 unfold E2 at e;refine c_ f269 λ_=>gV ?_;refine .p (lR c t) (gV ?_);refine Aa (λh1=>?_) (λh1=>?_)
 .have h1:bD c.ns t=false:=jU h1;rw[bt (by rw[h1];decide)]at e;subst e;exact zW
 .have h1:bD c.ns t=true:=jV h1;rw[bu h1]at e;refine gV ?_;refine .p (aGa c a need t) (gV ?_);refine .pure _ [Do 3 [ii t]] (aAG c t) (gV ?_);refine To.cutC [6,8,9,10,26] 7 rfl rfl rfl rfl ?_;refine To.range [6] rfl rfl (λ_ _=>by rfl) rfl (λ_ _=>rfl) rfl λk ob0 R hst d=>?_
  have h:=LD (P:=Tryz.prog) (l:=k) (p:=P0 c a t need) (V:=c.ok) (J:=lH ob0 (aMa (aKp c)) R (ED c a t need U (If 0 (cR k R)))) (J1:=lH ob0 (aMa (aKp c)) R (ED c a t need U (If 0 (cR k (nV R U)))))
   (λx o hp=>iP (E:=Ex [] [] []) (fn:=f269) (k:=7) (n:=8) (p:=27) (gg:=0) (L':=ED c a t need U (If 0 (cR k (busy R)))) (b:=O) d.params d.ready d.pend d.assign d.body d.size rfl rfl rfl rfl rfl rfl rfl λ_=>aSq c q a t need x o k R d.ready hp)
   (λx o hp=>iP (E:=Ex [] [] []) (fn:=f269) (k:=7) (n:=8) (p:=27) (gg:=0) (L':=ED c a t need U (If 0 (cR k (busy R)))) (b:=U) d.params d.ready d.pend d.assign d.body d.size rfl rfl rfl rfl rfl rfl rfl λ_=>aL9 c q a t need x o k R d.ready hp) (upL c.ns t) (λx u=>OJ c _ _ x u)
  rw[e]at h;obtain⟨m,s,i⟩:=OK k c t _ _ r j h;cases r with
  | true=>
   refine⟨_,O,_,[Do 3 [m]],s,i,rfl,rfl,?_⟩;exact zW
  | false=>
   refine⟨_,U,_,[Do 3 [m]],s,i,rfl,rfl,?_⟩;exact zW
def aQp(c:Con)(b:c.sm)(a:a8)(t:Int)(need:V3):bj 269 [c.av,CA 3 (vav a) J0,ii t,need.av] (DA (E2 c a t need)):=aMk c b a t need _ rfl
def bE(hs:List Hos)(n:Int):Hos:=(hs[n.toNat]?).getD ⟨0,0,0,V3.zero⟩
def xJ{c:Con}{i:Nat}(h:i<Z c.hs):(hav c.hs)[i]? =X (bE c.hs (i:Int)).av:=by unfold bE;rw[Int.toNat_natCast,Ab h];exact nC h
def OE(l:a8)(i:Nat)(v:V3):(vav l).set i v.av=vav (l.set i v):=by simp[vav,Gl]
def rQ(need:V3)(xs:a8)(h:Int):a8:=if decide (0<=h)=O then(if decide (h<(Z xs:Int))=O then xs.set h.toNat (AF ((xs[h.toNat]?).getD V3.zero) need)else xs)else xs
def rO(need:V3)(xs:a8)(h:Int):Z (rQ need xs h)=Z xs:=by unfold rQ;split<;>(try split)<;>simp
def yJ(xs:a8)(x:Rn):a8:=x.hs.foldl (rQ x.g.need) xs
def xL(x:Rn):∀(xs:a8),Z (yJ xs x)=Z xs:=by
 unfold yJ;generalize x.hs=l;induction l with
 | nil=>intro xs;rfl
 | cons h r a=>intro xs;rw[Ap,a,rO]
def iL(c:Con)(r:a7):a8:=r.foldl yJ ((Dh (Z c.hs)).map λi:Nat=>(bE c.hs (i:Int)).c)
abbrev frO(c:Con)(xs:a8):aw:=[Do 30 c.cs,.row 0 3 43 (vav xs)]
def aMX(c:Con)(r:a7)(R:a8)(x:Rn)(j:Nat)(y:Z x.hs<=1048576)(z:Z c.hs<=1048576)(As:aw):
  ∀(m i:Nat) (xs:a8),Z xs=Z c.hs->i+m=Z x.hs->
   To E f272 (.pure (Io (CA 3 (vav R) J0))) (G0 (stk f272 1) [(5,.row 1 0),(30,CA 14 (rav r) J0),(31,GE Is (Z (rav r):Nat)),(32,GE Is ((j:Int)+1))] (frO c ((x.hs.drop i).foldl (rQ x.g.need) xs)))->
   j<1048576->
  To E f272 (.pure (Io (CA 3 (vav R) J0))) (G0 (stk f272 2) [(5,.row 1 0),(9,G2 2 0),(30,CA 14 (rav r) J0),(31,GE Is (Z (rav r):Nat)),(32,GE Is j),(37,CA 1 (iv x.hs) J0),(38,GE Is (Z (iv x.hs):Nat)),(39,GE Is i)] (frO c xs++[Do 85 x.cs])):=by
 have f:Z (iv x.hs)=Z x.hs:=by simp
 intro m;induction m with
 | zero=>
  intro i xs n q a l;rw[Ae o_]at a;exact tA
 | succ m o=>
  intro i xs n q a l;have b:i<Z x.hs:=o_;rw[Ac b,Ap]at a;generalize s:x.hs[i]=u0 at a;have get:(iv x.hs)[i]? =X (ii u0):=(cK b).trans (by rw[s]);have v:Z (vav xs)=Z xs:=by simp
  have next:=o (i+1) (rQ x.g.need xs u0) (by rw[rO];exact n) o_ a l
  unfold rQ frO at next
  refine gV ?_;refine aT λh=>gV ?_;refine⟨i,rfl,gV ?_⟩;refine⟨_,get,?_⟩;by_cases h1:0<=u0
  .rw [bu (bq h1)]at next
   by_cases k:u0<(Z xs:Int)
   .rw [bu (bq k)]at next
    have d:u0.toNat<Z xs:=o_;have w:u0=(u0.toNat:Int):=o_;rw[Ab d]at next
    have p:(vav xs)[u0.toNat]? =X xs[u0.toNat].av:=lN d;rw[show((X xs[u0.toNat]).getD V3.zero)=xs[u0.toNat]from rfl]at next
    generalize xs[u0.toNat]=u at p next
    rw[<-OE]at next
    have e:=OC u x.g.need;exact zW
   .rw [bt (by rw[bp k];decide)]at next
    exact zW
  .rw [bt (by rw[bp h1];decide)]at next
   exact zW
def Sm(l:a7):Prop:=Z l<=1048576/\∀x∈l,Z x.hs<=1048576
def Sm.at{l:a7}(h:Sm l){i:Nat}(a:i<Z l):Z l[i].hs<=1048576:=h.2 _ (Aq a)
def aID(c:Con)(n:c.sm)(r:a7)(e:Sm r)(R:a8):∀(m i:Nat) (xs:a8),i+m=Z r->Z xs=Z c.hs->(r.drop i).foldl yJ xs=R->
  To E f272 (.pure (Io (CA 3 (vav R) J0))) (G0 (stk f272 1) [(5,.row 1 0),(30,CA 14 (rav r) J0),(31,GE Is (Z (rav r):Nat)),(32,GE Is i)] (frO c xs)):=by
 have g:Z (rav r)=Z r:=by simp
 have hl:=e.1;intro m;induction m with
 | zero=>
  intro i xs k d b;rw[Ae o_]at b;subst b;exact tA
 | succ m j=>
  intro i xs k d b;have a:i<Z r:=o_;have f:=e.at a;rw[Ac a,Ap]at b;generalize l:r[i]=x at b f;have get:(rav r)[i]? =X x.av:=(cH a).trans (by rw[l]);have next:=j (i+1) (yJ xs x) o_ (by rw[xL];exact d) b
  refine gV ?_;refine aT λh=>gV ?_;refine⟨i,rfl,gV ?_⟩;refine⟨_,get,gV ?_⟩;exact To.cut [5,9,30,31,32,37,38,39] 3 rfl rfl rfl rfl (aMX c r R x i f n.hs [] (Z x.hs) 0 xs d o_ next o_)
def aEg(c:Con)(d:c.sm)(r:a7)(e:Sm r):∀(m i:Nat),i+m=Z c.hs->
  DE E f272 (CA 3 (vav (iL c r)) J0) [(1,CA 14 (rav r) J0),(2,G2 0 0),(5,.row 1 0),(17,CA 6 (hav c.hs) J0),(18,GE Is (Z (hav c.hs):Nat)),(19,GE Is i)] (frO c (mG (λi:Nat=>(bE c.hs (i:Int)).c) i m)):=by
 have b:Z (hav c.hs)=Z c.hs:=by simp
 have h1:=d.hs;intro m;induction m with
 | zero=>
  intro i a;rw[I7];refine gV ?_;refine aF λh=>gV ?_;refine To.cut [5,30,31,32] 2 rfl rfl rfl rfl ?_;exact aID c d r e _ (Z r) 0 _ o_ q_ (by unfold iL;rw[<-a];rfl)
 | succ m f=>
  intro i a;have hl:Z (vav (mG (λi:Nat=>(bE c.hs (i:Int)).c) i (m+1)))=i+(m+1):=by rw[Bw,I6]
  have hs:=I5 (λi:Nat=>(bE c.hs (i:Int)).c) i m;have g:(hav c.hs)[i]? =X (bE c.hs (i:Int)).av:=xJ o_;have next:=f (i+1) o_
  unfold frO at next
  rw[<-hs]at next
  refine gV ?_;refine aT λh=>gV ?_;refine⟨i,rfl,gV ?_⟩;refine⟨_,g,?_⟩;exact zqha1
def aB4(c:Con)(b:c.sm)(r:a7)(d:Sm r):bj 272 [c.av,CA 14 (rav r) J0] (CA 3 (vav (iL c r)) J0):=by
 have h1:=b.hs;have a:Z (hav c.hs)=Z c.hs:=by simp
 refine c_ f272 λ_=>gV ?_;refine⟨Z c.hs,by rw[a],gV ?_⟩;refine⟨⟨rfl,by omega,by simp only[maxLen];omega⟩,?_⟩;refine gV ?_;have next:=aEg c b r d (Z c.hs) 0 o_
 unfold frO at next
 rw[DC]at next
 exact To.cut [1,2,5,17,18,19] 2 rfl rfl rfl rfl next
def aPh{a b:Int}(c:0<=a)(e:0<b)(f:a<=9223372036854775807):inR Is (Hi a b):=by
 have h3:(Hi a b).natAbs<=a.natAbs:=by rw[Int.natAbs_tdiv];exact Nat.div_le_self _ _
 have d:0<=Hi a b:=Int.tdiv_nonneg c o_;exact⟨by simp only[bS];omega,by simp only[aX];omega⟩
def D4(n free need:Int):Int:=if decide (0<need)=O then min n (Hi free need)else n
def dX(free need:V3):Int:=if cD need free=O then D4 (D4 (D4 16 free.a need.a) free.b need.b) free.c need.c else 0
def aTC(v:V3)(M:Imm)(ob:Hs)(vs:bb)(d:az)(h:cV M ob vs (v.av::d)):inR Is v.a/\inR Is v.b/\inR Is v.c:=by
 have hl:0<Z vs:=by rw[h.1];simp
 have:=h.2 0 _ v.av (Ab hl) rfl;exact⟨cX this 0 _ rfl,cX this 1 _ rfl,cX this 2 _ rfl⟩
def aGs(free need:V3)(r:Int)(d:dX free need=r):bj 334 [free.av,need.av] (ii r):=by
 refine aA.get _ (λM ob vs h=>aTC free M ob vs _ h) λ⟨⟨a1,a2⟩,⟨b1,b2⟩,⟨c1,c2⟩⟩=>?_;simp only[bS,aX]at a1 a2 b1 b2 c1 c2;unfold dX at d;refine c_ f334 λ_=>gV ?_;refine .p (AG need free) (gV ?_);refine Aa (λh1=>?_) (λh1=>?_)
 .have h1:cD need free=false:=jU h1;rw[bt (by rw[h1];decide)]at d;subst d;exact zW
 .have h1:cD need free=true:=jV h1;rw[bu h1]at d;unfold D4 at d;have n:need.a<=free.a/\need.b<=free.b/\need.c<=free.c:=by
   unfold cD at h1;split at h1
   .cases h1
   .split at h1
    .cases h1
    .split at h1
     .cases h1
     .rename_i i m e;simp only[bo]at i m e;omega
  by_cases k:0<need.a<;>by_cases l:0<need.b<;>by_cases j:0<need.c<;>simp only[k,l,j,decide_true,decide_false,if_true,if_false,Dc]at d
  all_goals (refine gV ?_)
  all_goals repeat' first
   | (refine gW hE ?_;conv=>whnf)
   | exact d▸rfl
   | refine aY ?_
   | refine aN ?_
   | refine aT λh=>?_
   | refine aF λh=>?_
   | refine aJ ?_
   | refine Fu (Aa (aPh o_ o_ o_) ?_)
   | refine Aj _ (Aa rfl ?_)
   | refine Aa d_ ?_
   | refine Aa o_ ?_
   | fail
def aBc(free need:V3):bj 334 [free.av,need.av] (ii (dX free need)):=aGs free need _ rfl
def ofK(h:Hos)(i lv:Int):ax:=[h.f,if decide (2<lv)=O then 0 else h.b,if decide (1<lv)=O then 0 else h.r,if decide (0<lv)=O then 0 else i]
def aLX(h:Hos)(i lv:Int)(K:az)(a:(ofK h i lv).map ii=K):bj 347 [h.av,ii i,ii lv] (He K):=by
 unfold ofK at a;refine c_ f347 λ_=>?_
 repeat' first|refine pA ?_|exact rfl|refine lA ?_ ?_|intro h
 all_goals first
  | (subst a;simp only[*,Dc,if_true,if_false,List.map];done)
  | (exfalso;simp only[bo,bk]at *;omega)
def aQh(h:Hos)(i lv:Int):bj 347 [h.av,ii i,ii lv] (He ((ofK h i lv).map ii)):=aLX h i lv _ rfl
def aO7{n:Nat}(h:n<=16):n=0\/n=1\/n=2\/n=3\/n=4\/n=5\/n=6\/n=7\/n=8\/n=9\/n=10\/n=11\/n=12\/n=13\/n=14\/n=15\/n=16:=o_
def aHQ(n:Nat)(a:n<=16):bj 277 [GE IH 1,GE IH (n:Int)] (GT [GE IH 0,GE IH (n:Int)]):=by
 rcases aO7 a with rfl|rfl|rfl|rfl|rfl|rfl|rfl|rfl|rfl|rfl|rfl|rfl|rfl|rfl|rfl|rfl|rfl
 all_goals
  refine c_ f277 λ_=>?_
  repeat' first
   | (refine gN hE ?_;conv=>whnf)
   | exact rfl
   | refine Fu (Aa (Aa d_ d_) ?_)
   | refine Aa d_ ?_
   | fail
def aQl(n:Nat)(b:n<=16):bj 364 [GE IH 1,GE IH (n:Int)] (GT [GE IH 0,GE IH (n:Int)]):=by refine c_ f364 λ_=>?_;have a:=aHQ n b;exact zW
def rp(h:Int)(k m:Nat):az:=iv (Ak k h)++Ak m (ii 0)
def G9(h:Int)(k m:Nat):Z (rp h k m)=k+m:=by simp[rp]
def aK9(h:Int)(k m:Nat):((k:Int)+ ↑(min (Z (Fs k (Gd 0 (rp h k m)))) (Z (rp h k m)-k)))=((k+min k m:Nat):Int)/\
  (rp h k m).take k++(Fs k (Gd 0 (rp h k m))).take (Z (rp h k m)-k)++(rp h k m).drop (k+min (Z (Fs k (Gd 0 (rp h k m)))) (Z (rp h k m)-k))=rp h (k+min k m) (m-min k m):=by
 have a:Z (iv (Ak k h))=k:=by simp
 have h1:(rp h k m).take k=iv (Ak k h):=by unfold rp;rw[List.take_append_of_le_length o_,Bl o_]
 have hl:=G9 h k m;rw[List.drop_zero,h1,hl,a,show k+m-k=m from by omega];refine⟨by omega,?_⟩;have b:(rp h k m).drop (k+min k m)=Ak (m-min k m) (ii 0):=by unfold rp;rw[List.drop_append,a,List.drop_of_length_le o_,Bk,List.drop_replicate];congr 1;omega
 rw[b];unfold rp;congr 1;simp only[iv,List.map_replicate,List.take_replicate,List.replicate_append_replicate];congr 1;omega
def aGP(a:Int)(N:Nat)(l:N<=16):∀(f k m:Nat),k+m=N->1<=k->m<=f->
  DE (Er [] [38]) f348 (CA 1 (iv (Ak N a)) J0) [(7,.row 0 0),(8,GE Is (k:Int))] [.row 0 1 3 (rp a k m)]:=by
 intro f;induction f with
 | zero=>
  intro k m b h1 hm;have hm:m=0:=o_;subst hm;exact zqha5
 | succ f d=>
  intro k m b h1 hm;by_cases i:m=0
  .subst i;exact zqha5
  have hl:=G9 a k m;have next:=d (k+min k m) (m-min k m) o_ o_ o_
  generalize c:rp a k m=An at hl⊢;refine gV ?_;refine aT λh=>gV ?_;refine⟨k,rfl,gV ?_⟩;refine⟨by omega,gV ?_⟩;refine⟨k,rfl,gV ?_⟩;refine⟨by omega,gV ?_⟩;rw[<-c]at hl⊢;obtain⟨g,j⟩:=aK9 a k m;rw[<-g,<-j]at next
  have n:min (Z (Fs k (Gd 0 (rp a k m)))) (Z (rp a k m)-k)<=16:=by have:Z (rp a k m)=k+m:=G9 a k m;omega
  exact zW
def aGo(h:Int)(m:Nat):((1:Nat):Int)= ↑(min (Z [ii h]) (Z (Ak (m+1) (aa.int Is 0))))/\rp h 1 m=[ii h].take (Z (Ak (m+1) (aa.int Is 0)))++(Ak (m+1) (aa.int Is 0)).drop (Z [ii h]):=by refine⟨by simp,?_⟩;simp[rp,List.drop_replicate]
def aPU(h:Int)(n:Nat)(a:n<=16):bj 348 [CA 1 [ii h] J0,ii (n:Int)] (CA 1 (iv (Ak n h)) J0):=by
 have hm:=aQl n a;cases n with
 | zero=>
  refine gA (Er [] [38]) f348 λ_=>gV ?_;refine aF λh=>gV ?_;refine Fu (Aa (Aa (by simp only[bS,Al,Bj];omega) (by simp only[aX,Al,Bj];omega)) ?_);refine gV ?_;refine Fu (Aa (Aa (by simp only[bS];omega) (by simp only[aX];omega)) ?_);refine gV ?_;refine .p hm (gV ?_);refine aF λh=>gV ?_;refine aF λh=>gV ?_;refine Fu (Aa (Aa (by simp only[bS];omega) (by simp only[aX];omega)) ?_);refine gV ?_;refine⟨0,rfl,gV ?_⟩;refine⟨⟨rfl,by omega,by simp only[maxLen];omega⟩,?_⟩;refine gV ?_;exact tA
 | succ m=>
  have next:=aGP h (m+1) a (m+1) 1 m o_ o_ o_
  obtain⟨b,c⟩:=aGo h m;rw[b,c]at next
  refine gA (Er [] [38]) f348 λ_=>gV ?_;refine aF λh=>gV ?_;refine Fu (Aa (Aa (by simp only[bS,Al,Bj];omega) (by simp only[aX,Al,Bj];omega)) ?_);refine gV ?_;refine Fu (Aa (Aa (by simp only[bS];omega) (by simp only[aX];omega)) ?_);refine gV ?_;refine .p hm (gV ?_);refine aF λh=>gV ?_;refine aF λh=>gV ?_;refine Fu (Aa (Aa (by simp only[bS];omega) (by simp only[aX];omega)) ?_);refine gV ?_;refine⟨m+1,rfl,gV ?_⟩;refine⟨⟨rfl,by omega,by simp only[maxLen];omega⟩,?_⟩;exact zW
def HC(a b:V3):dX a b<=16:=by
 have h:∀n f k,n<=16->D4 n f k<=16:=λn f k h=>by unfold D4;split<;>omega
 unfold dX;split
 .exact h _ _ _ (h _ _ _ (h _ _ _ d_))
 .decide
def inN(free need:V3)(pods len:Int):Int:=min (dX free need) (pods-len)
def inS(free:a8)(g:Gan)(out:ax)(h:Int):ax:=if decide (h<0)=O then out else if decide ((Z free:Int)<=h)=O then out else out++Ak (max (inN ((free[h.toNat]?).getD V3.zero) g.need g.pods (Z out)) 0).toNat h
def inL(free:a8)(g:Gan)(a:ax):ax:=a.foldl (inS free g) []
def FQ(free:a8)(g:Gan)(out:ax)(h:Int)(hp:(Z out:Int)<=g.pods):(Z (inS free g out h):Int)<=g.pods:=by
 unfold inS;split
 .exact hp
 .split
  .exact hp
  .simp only[Ah,Gj,inN];omega
def IP(out:ax)(g:Gan):aa:=if decide ((Z out:Int)<g.pods)=O then GT [CA 1 [] J0,DA U]else GT [CA 1 (iv out) J0,DA O]
def P8(c:Con)(free:a8)(g:Gan)(s:0<=g.pods/\g.pods<=16)(b:ax)(hl:Z b<=1048576)(R:ax):∀(m i:Nat) (out:ax),i+m=Z b->(Z out:Int)<=g.pods->(b.drop i).foldl (inS free g) out=R->
  DE (Eo [10] []) f314 (IP R g) [(1,CA 3 (vav free) J0),(7,G2 1 0),(10,CA 1 (iv out) (.own 2 0)),(14,CA 1 (iv b) J0),(15,GE Is (Z (iv b):Nat)),(16,GE Is i)] [Do 30 c.cs,Do 45 g.cs,Fr 0 1 3]:=by
 have v:Z (iv b)=Z b:=by simp
 have C:Z (vav free)=Z free:=by simp
 intro m;induction m with
 | zero=>
  intro i out B hp d;rw[Ae o_]at d;have d:out=R:=d;subst d;have k:Z (iv out)=Z out:=by simp
  obtain⟨Q,j⟩:∃Q,Q=IP out g:=⟨_,rfl⟩
  rw[<-j];unfold IP at j;by_cases h1:(Z out:Int)<g.pods
  .rw [bu (bq h1)]at j;subst j;exact tA
  .rw [bt (by rw[bp h1];decide)]at j;subst j;exact tA
 | succ m y=>
  intro i out B hp d;have n:i<Z b:=o_;rw[Ac n,Ap]at d;have l:=FQ free g out b[i] hp;generalize Be:b[i]=u0 at d l;have get:(iv b)[i]? =X (ii u0):=(cK n).trans (by rw[Be]);have k:Z (iv out)=Z out:=by simp
  have next:=y (i+1) (inS free g out u0) o_ l d
  unfold inS at next
  refine gV ?_;refine aT λh=>gV ?_;refine⟨i,rfl,gV ?_⟩;refine⟨_,get,?_⟩;by_cases h1:u0<0
  .rw [bu (bq h1)]at next
   exact zW
  .rw [bt (by rw[bp h1];decide)]at next
   by_cases w:(Z free:Int)<=u0
   .rw [bu (bq w)]at next
    exact zW
   .rw [bt (by rw[bp w];decide)]at next
    have o:u0.toNat<Z free:=o_;have z:u0=(u0.toNat:Int):=o_;rw[Ab o]at next
    have r:(vav free)[u0.toNat]? =X free[u0.toNat].av:=lN o;rw[show((X free[u0.toNat]).getD V3.zero)=free[u0.toNat]from rfl]at next
    generalize free[u0.toNat]=f0 at r next
    have q:=HC f0 g.need;have f:(max (inN f0 g.need g.pods (Z out)) 0).toNat<=16:=by unfold inN;omega
    have p:max (min (dX f0 g.need) (g.pods-(Z (iv out):Nat))) 0=(((max (inN f0 g.need g.pods (Z out)) 0).toNat:Nat):Int):=by unfold inN;rw[k];omega
    have a:=aPU u0 _ f;rw[<-p]at a;generalize F:(max (inN f0 g.need g.pods (Z out)) 0).toNat=N at f a next
    have e:iv (out++Ak N u0)=iv out++iv (Ak N u0):=by simp
    rw[e]at next
    have A:Z (iv (Ak N u0))=N:=by simp
    have x:=s.1;have u:=s.2
    repeat' first|refine pA ?_|refine⟨u0.toNat,z,?_⟩|refine⟨_,r,?_⟩|refine .p (aBc f0 g.need) ?_|refine .p (aA.strip a) ?_|refine Aa (Aa (by simp only[maxLen];omega) o_) ?_|exact rfl|refine lA ?_ ?_|intro h
    exact zW
def EF(c:Con)(free:a8)(g:Gan)(d:0<=g.pods/\g.pods<=16)(a:ax)(hl:Z a<=1048576):bj 314 [c.av,CA 3 (vav free) J0,CA 1 (iv a) J0,g.av] (IP (inL free g a) g):=by refine gA (Eo [10] []) f314 λ_=>?_;have b:=P8 c free g d a hl _ (Z a) 0 [] o_ (by simpa using d.1) rfl;exact zW
abbrev GSt:=List (ax×Nat)×List ax
def oE:List (ax×Nat)->ax->Option Nat
 | [],_=>D
 | (k,v)::r,x=>if k=x then X v else oE r x
abbrev kav(es:List (ax×Nat)):List (ax×aa):=es.map λp=>(p.1,ii p.2)
def IJ(x:ax):∀es,cE (kav es) x=(oE es x).map λn:Nat=>ii n
 | []=>rfl
 | (k,v)::r=>by
  show(if k=x then X (ii v)else cE (kav r) x)=(if k=x then X v else oE r x).map _;split
  .rfl
  .exact IJ x r
def aBK(x:ax)(v:Nat):∀es,oE es x=D->oA (kav es) x (ii v)=kav (es++[(x,v)])
 | [],_=>rfl
 | (k,u)::r,h=>by
  have h:(if k=x then X u else oE r x)=none:=h;show(if k=x then(x,ii v)::kav r else(k,ii u)::oA (kav r) x (ii v))=(k,ii u)::kav (r++[(x,v)]);split at h
  .cases h
  .rename_i a;rw[bt a,aBK x v r h]
def gpS(c:Con)(lv:Int)(s:GSt)(i:Nat):GSt:=
 match oE s.1 (ofK (bE c.hs (i:Int)) i lv)with
 | some k=>(s.1,s.2.set k ((s.2[k]?).getD []++[(i:Int)]))
 | none=>(s.1++[(ofK (bE c.hs (i:Int)) i lv,Z s.2)],s.2++[[(i:Int)]])
def gpL(c:Con)(lv:Int):List ax:=if decide (lv<0)=O then[]else if decide (3<lv)=O then[]else((Dh (Z c.hs)).foldl (gpS c lv) ([],[])).2
abbrev gav(l:List ax):az:=l.map λxs=>CA 1 (iv xs) J0
abbrev UZ(c:Con)(gr gb:Nat)(es:List (ax×Nat))(ms:List Hm):aw:=[Do 30 c.cs,.row gr 1 83 (ms.map hmA),.mp O (kav es),If gb (pH 1 3 ms)]
abbrev aSB(c:Con)(lv:Int)(gr i:Nat):au:=[(1,ii lv),(5,.row 1 gr),(6,.mref 2),(20,CA 6 (hav c.hs) J0),(21,GE Is (Z (hav c.hs):Nat)),(22,ii i)]
def aIp(c:Con)(lv:Int)(G:Goal)(i k:Nat)(l:i<1048576)(b:List Hm)(m:Hm)(hm:b[k]? =X m)(h:Z m.2.2<=1048576)(g:Z b<=1048576)(es:List (ax×Nat))(j:Gc G.n0 4=O)
  (next:∀a f,To (Er [5] []) f313 G (.code (eO f313 14) (aSB c lv 0 i) (UZ c 0 1 es (b.set k (a,f,m.2.2++[ii i]))))):
  To (Er [5] []) f313 G (.code (jB f313 14) [(1,ii lv),(5,.row 1 0),(6,.mref 2),(7,ii i),(10,ii k),(20,CA 6 (hav c.hs) J0),(21,GE Is (Z (hav c.hs):Nat)),(22,ii i)] (UZ c 0 0 es b)):=by
 refine To.handAt (hEr [5] []) 8 [] rfl rfl rfl ?_;conv=>whnf
 refine⟨k,rfl,?_⟩;conv=>whnf
 have e:(b.map hmA)[k]? =X (hmA m):=by rw[Cd,hm];rfl
 refine⟨by have:=(Ad.1 hm).1;simpa using this,?_⟩;conv=>whnf
 refine⟨_,e,?_⟩;conv=>whnf
 refine .mk 3 0 k b m [ii i] 3 1 8 1 U (CA 1 [] .nil) rfl hm rfl rfl rfl rfl ⟨by show _+1<=_;simp only[maxLen];omega,by show(_+1)*8<=_;omega⟩ λa f=>?_;have d:k<Z (b.map hmA):=by have:=(Ad.1 hm).1;simpa using this
 have next:=next a f
 unfold UZ at next
 rw[Gl]at next
 refine gV ?_;refine⟨k,rfl,gV ?_⟩;refine⟨d,gV ?_⟩;refine⟨d,?_⟩;refine bR (hEr [5] []) 3 ?_;conv=>whnf
 refine To.cutC (fr:=[(1,_),(5,_),(6,_),(7,_),(10,_),(20,_),(21,_),(22,_),(47,_),(48,_),(49,_),(50,_),(51,_),(52,_),(53,_),(54,_),(55,_),(56,_)]) (ac:=[_,_,_,_]) [1,5,6,20,21,22] 4 j rfl rfl rfl ?_;exact next
def MM(x:ax)(v:Nat)(y:ax):∀es,oE (es++[(x,v)]) y=match oE es y with|some k=>X k|none=>if x=y then X v else D
 | []=>rfl
 | (k,u)::r=>by
  show(if k=y then X u else oE (r++[(x,v)]) y)=match (if k=y then X u else oE r y)with|some k=>X k|none=>if x=y then X v else D
  split
  .rfl
  .exact MM x v y r
structure GI(i:Nat)(s:GSt):Prop where
 key:∀p∈s.1,Z p.1=4
 at':∀x k,oE s.1 x=X k->k<Z s.2
 len:Z s.2<=i
 each:∀xs∈s.2,Z xs<=i
def GI.step{c:Con}{lv:Int}{i:Nat}{s:GSt}(h:GI i s):GI (i+1) (gpS c lv s i):=by
 obtain⟨h1,e,h3,d⟩:=h;unfold gpS;split
 .rename_i k f;refine⟨h1,λx k h=>by simpa using e x k h,by simp;omega,λxs a=>?_⟩;rcases Dn a with a|rfl
  .have:=d xs a;omega
  .have hl:=e _ k f;rw[Ab hl];have:=d _ (Aq hl);simp;omega
 .rename_i f;refine⟨λp hp=>?_,λx k a=>?_,by simp;omega,λxs a=>?_⟩
  .rcases Cc.1 hp with hp|hp
   .exact h1 p hp
   .simp at hp;subst hp;rfl
  .rw [MM]at a;split at a
   .rename_i g b;have:=e x g b;cases a;simp;omega
   .split at a
    .cases a;simp
    .cases a
  .rcases Cc.1 a with a|a
   .have:=d xs a;omega
   .simp at a;subst a;simp
def aMO(c:Con)(N:c.sm)(lv:Int)(As:0<=lv)(P:lv<=3)(R:List ax):∀(n i:Nat) (s:GSt) (b:List Hm),i+n=Z c.hs->b.map (λm=>m.2.2)=s.2.map iv->GI i s->((Ig i n).foldl (gpS c lv) s).2=R->
  DE (Er [5] []) f313 (CA 1 (gav R) J0) (aSB c lv 0 i) (UZ c 0 0 s.1 b):=by
 have h1:=N.hs;have F:Z (hav c.hs)=Z c.hs:=by simp
 intro n;induction n with
 | zero=>
  intro i s b K d u y;have y:s.2=R:=y;subst y;refine To.ofC (To.famFrz 3 1 rfl rfl ?_);have e:(b.map λm=>aa.slice 1 m.2.2 J0)=gav s.2:=by have:=congrArg (List.map λxs=>aa.slice 1 xs J0) d;rw[Dz,Dz]at this;exact this
  rw[e];refine To.toC (gV ?_);exact zW
 | succ n G=>
  intro i s b K d u y;rw[Ki,Ap]at y;have H:(hav c.hs)[i]? =X (bE c.hs (i:Int)).av:=xJ o_;have next:=λC h=>G (i+1) (gpS c lv s i) C o_ h u.step y
  have l:∀p∈kav s.1,Z p.1=4:=λp hp=>by obtain⟨q,L,rfl⟩:=List.mem_map.1 hp;exact u.key q L
  refine gV ?_;refine aT λh=>gV ?_;refine⟨i,rfl,gV ?_⟩;refine⟨_,H,gV ?_⟩;refine .p (aQh (bE c.hs (i:Int)) i lv) (gV ?_);refine⟨l,gV ?_⟩;cases v:oE s.1 (ofK (bE c.hs (i:Int)) i lv)with
  | none=>
   have z:cE (kav s.1) (ofK (bE c.hs (i:Int)) i lv)=none:=by rw[IJ,v];rfl
   refine⟨_,z,gV ?_⟩;refine aY (gV ?_);refine⟨l,gV ?_⟩;have g:Z b=Z s.2:=by have:=congrArg Lr d;simpa using this
   have A:=u.len;have f:Z (b.map hmA)=Z b:=by simp
   refine⟨⟨by show Z (b.map hmA)+1<=_;simp only[maxLen];omega,by show(Z (b.map hmA)+1)*24<=_;omega⟩,?_⟩;refine bR (hEr [5] []) 6 ?_;conv=>whnf
   have I:Z (b.map hmA)=Z s.2:=f.trans g;have e:=aBK (ofK (bE c.hs (i:Int)) i lv) (Z (b.map hmA)) s.1 v;have Be:gpS c lv s i=(s.1++[(ofK (bE c.hs (i:Int)) i lv,Z (b.map hmA))],s.2++[[(i:Int)]]):=by unfold gpS;rw[v,I]
   rw[Be]at next
   have hm:(b++[((D,0,[]):Hm)])[Z (b.map hmA)]? =X (D,0,[]):=by rw[f,List.getElem?_append_right (Bc _)];simp
   have o:=aIp c lv (.pure (Io (CA 1 (gav R) J0))) i (Z (b.map hmA)) o_ (b++[(D,0,[])]) _ hm s_ q_ (s.1++[(ofK (bE c.hs (i:Int)) i lv,Z (b.map hmA))]) rfl λa B=>by
    have next:=next ((b++[(D,0,[])]).set (Z (b.map hmA)) (a,B,[]++[ii i])) (by rw[f,Hl _ _ (Bc _)];simp[d])
    exact zW
   unfold UZ at o;rw[<-e]at o;refine To.cutC [1,5,6,7,10,20,21,22] 4 rfl rfl rfl rfl ?_;refine To.objTo 1 (x:=.row 1 1 83 (b.map hmA++[.nilslice])) (x':=.row 1 1 83 ((b++[(D,0,[])]).map hmA)) rfl (λh=>by cases h) rfl (λM ob w hs _ h=>aLc h) ?_;refine To.objTo 3 (x:=If 0 (pH 1 3 b)) (x':=If 0 (pH 1 3 (b++[(D,0,[])]))) rfl (λh=>by cases h) rfl (λM ob w hs _ h=>aMZ h) ?_;refine To.toC ?_;refine To.part [1,5,6,7,10,20,21,22] [0,1,2,3] rfl rfl rfl ?_;refine To.ofC ?_;exact o
  | some k=>
   have z:cE (kav s.1) (ofK (bE c.hs (i:Int)) i lv)=X (ii k):=by rw[IJ,v];rfl
   refine⟨_,z,gV ?_⟩;refine aN ?_;refine bR (hEr [5] []) 1 ?_;conv=>whnf
   have r:=u.at' _ k v;have f:(b.map (λm=>m.2.2))[k]? =X (iv s.2[k]):=by rw[d,Cd,Ab r];rfl
   rw[Cd]at f;obtain⟨m,hm,j⟩:=Option.map_eq_some_iff.1 f;have j:m.2.2=iv s.2[k]:=j;have g:Z b=Z s.2:=by have:=congrArg Lr d;simpa using this
   have J:=u.each _ (Aq r);have A:=u.len;have Be:gpS c lv s i=(s.1,s.2.set k (s.2[k]++[(i:Int)])):=by unfold gpS;rw[v];show(s.1,s.2.set k ((s.2[k]?).getD []++[(i:Int)]))=_;rw[Ab r];rfl
   rw[Be]at next
   refine To.cutC [1,5,6,7,10,20,21,22] 4 rfl rfl rfl rfl ?_;refine aIp c lv _ i k o_ b m hm (by rw[j];simp;omega) o_ s.1 rfl λa B=>?_;have next:=next (b.set k (a,B,m.2.2++[ii i])) (by rw[Gl,Gl,d,j];simp)
   exact zW
def MZ(c:Con)(i:c.sm)(lv:Int):bj 313 [c.av,ii lv] (CA 1 (gav (gpL c lv)) J0):=by
 have h1:=i.hs;have b:Z (hav c.hs)=Z c.hs:=by simp
 obtain⟨R,a⟩:∃R,R=gpL c lv:=⟨_,rfl⟩
 rw[<-a];unfold gpL at a;refine gA (Er [5] []) f313 λ_=>?_;by_cases d:lv<0
 .rw [bu (bq d)]at a;subst a;exact zW
 rw[bt (by rw[bp d];decide)]at a;by_cases e:3<lv
 .rw [bu (bq e)]at a;subst a;exact zW
 rw[bt (by rw[bp e];decide),Hr]at a
 repeat' first|refine pA ?_|exact rfl|refine lA ?_ ?_|intro h
 refine To.ofC (To.beginF 1 3 ?_);refine To.toC ?_;have:=aMO c i lv o_ o_ R (Z c.hs) 0 ([],[]) [] o_ rfl ⟨λp h=>(by simp at h),λx k h=>(by cases h),Bc _,λxs h=>by simp at h⟩ a.symm;exact zW
structure GO(n i:Nat)(s:GSt):Prop where
 base:GI i s
 ok:∀xs∈s.2,xs≠[]/\∀h∈xs,0<=h/\h<(n:Int)
def GO.step{c:Con}{lv:Int}{n i:Nat}{s:GSt}(g:i<n)(h:GO n i s):GO n (i+1) (gpS c lv s i):=by
 refine⟨h.base.step,?_⟩;obtain⟨e,d⟩:=h;have one:∀h∈[(i:Int)],0<=h/\h<(n:Int):=λh b=>by simp at b;omega
 unfold gpS;split
 .rename_i k f;intro xs a;rcases Dn a with a|rfl
  .exact d xs a
  .refine ⟨by simp,λh b=>?_⟩;rcases Cc.1 b with b|b
   .have hl:=e.at' _ k f;rw[Ab hl]at b;exact(d _ (Aq hl)).2 h b
   .exact one h b
 .intro xs a;rcases Cc.1 a with a|a
  .exact d xs a
  .have a:xs=[(i:Int)]:=by simpa using a
   subst a;exact⟨by simp,one⟩
def GO.fold{c:Con}{lv:Int}{n:Nat}:∀(m i:Nat) (s:GSt),i+m=n->GO n i s->GO n n ((Ig i m).foldl (gpS c lv) s)
 | 0,i,s,hi,h=>by have:i=n:=o_
                  subst this;exact h
 | m+1,i,s,hi,h=>by rw[Ki,Ap];exact GO.fold m (i+1) _ o_ (h.step o_)
def ZE(c:Con)(lv:Int):Z (gpL c lv)<=Z c.hs/\∀xs∈gpL c lv,xs≠[]/\Z xs<=Z c.hs/\∀h∈xs,0<=h/\h<(Z c.hs:Int):=by
 unfold gpL;split
 .exact ⟨Bq _,λxs h=>by simp at h⟩
 split
 .exact ⟨Bq _,λxs h=>by simp at h⟩
 rw[Hr];have:=GO.fold (c:=c) (lv:=lv) (n:=Z c.hs) (Z c.hs) 0 ([],[]) o_ ⟨⟨λp h=>(by simp at h),λx k h=>(by cases h),Bc _,λxs h=>(by simp at h)⟩,λxs h=>(by simp at h)⟩;exact⟨this.base.len,λxs a=>⟨(this.ok xs a).1,this.base.each xs a,(this.ok xs a).2⟩⟩
def fdG(c:Con)(free:a8)(g:Gan):List ax->Option (Int×ax)
 | []=>D
 | gr::r=>if decide ((Z (inL free g gr):Int)<g.pods)=O then fdG c free g r else X ((bE c.hs (gr.headD 0)).f,inL free g gr)
def fdL(c:Con)(free:a8)(g:Gan):Nat->Int->Option (Int×ax)
 | 0,_=>D
 | n+1,lv=>match fdG c free g (gpL c lv)with
  | some x=>X x
  | none=>fdL c free g n (lv+1)
def fdA:Option (Int×ax)->aa
 | some x=>.tup [ii x.1,.slice 1 (iv x.2) .no,.bool O]
 | none=>.tup [ii 0,.slice 1 [] .no,.bool U]
def yK(c:Con)(free:a8)(g:Gan):Option (Int×ax):=fdL c free g (min g.lev 3+1-max g.pref 0).toNat (max g.pref 0)
abbrev aB9(c:Con)(g:Gan):aw:=[Do 30 c.cs,Do 45 g.cs]
abbrev aQW(free:a8)(lv:Int):au:=[(1,CA 3 (vav free) J0),(3,G2 0 0),(5,G2 1 0),(9,ii lv)]
def FS{l:List ax}{i:Nat}(h:i<Z l):(gav l)[i]? =X (CA 1 (iv l[i]) J0):=by simp[gav,h]
def aSL(c:Con)(w:c.sm)(free:a8)(g:Gan)(v:0<=g.pods/\g.pods<=16)(lv:Int)(F:0<=lv)(Be:lv<=3)(Q:Option (Int×ax))(a:List ax)(A:Z a<=1048576)(n:∀xs∈a,xs≠[]/\Z xs<=Z c.hs/\∀h∈xs,0<=h/\h<(Z c.hs:Int)):
  ∀(m i:Nat),i+m=Z a->(∀x,fdG c free g (a.drop i)=X x->Q=X x)->(fdG c free g (a.drop i)=D->DE E f271 (fdA Q) (aQW free (lv+1)) (aB9 c g))->
  To E f271 (.pure (Io (fdA Q))) (G0 (stk f271 1) (aQW free lv++[(26,CA 1 (gav a) J0),(27,GE Is (Z (gav a):Nat)),(28,ii i)]) (aB9 c g)):=by
 have q:Z (gav a)=Z a:=by simp
 have C:Z (hav c.hs)=Z c.hs:=by simp
 have z:=w.hs;intro m;induction m with
 | zero=>
  intro i y hs b;rw[Ae o_]at b;have b:=b rfl;exact tA
 | succ m k=>
  intro i y hs b;have e:i<Z a:=o_;have k:=k (i+1) o_;rw[Ac e]at hs b;have j:=n _ (Aq e);have get:=FS e;generalize a[i]=gr at hs b j get;obtain⟨l,B,o⟩:=j;have f:=EF c free g v gr o_;unfold fdG at hs b;unfold IP at f;refine gV ?_;refine aT λh=>gV ?_;refine⟨i,rfl,gV ?_⟩;refine⟨_,get,gV ?_⟩;by_cases s:(Z (inL free g gr):Int)<g.pods
  .rw [bu (bq s)]at hs b f;have next:=k hs b
   exact zW
  .rw [bt (by rw[bp s];decide)]at hs b f;have u:=hs _ rfl;subst u
   match gr,l with
   | d::r,_=>
   have t:=o d s_;have G:(hav c.hs)[d.toNat]? =X (bE c.hs d).av:=by have:=xJ (c:=c) (i:=d.toNat) o_;rwa [Int.toNat_of_nonneg t.1]at this
   have b:d=(d.toNat:Int):=o_;have p:(iv (d::r))[0]? =X (ii d):=rfl;exact zW
def aQV(c:Con)(f:c.sm)(free:a8)(g:Gan)(l:0<=g.pods/\g.pods<=16):∀(n:Nat) (lv:Int),0<=lv->n=(min g.lev 3+1-lv).toNat->
  DE E f271 (fdA (fdL c free g n lv)) (aQW free lv) (aB9 c g):=by
 intro n;induction n with
 | zero=>
  intro lv i k;exact tA
 | succ n d=>
  intro lv i k;have d:=d (lv+1) o_ o_;have e:=ZE c lv;have m:=f.hs;have j:Z (gav (gpL c lv))=Z (gpL c lv):=by simp
  obtain⟨Q,b⟩:∃Q,Q=fdL c free g (n+1) lv:=⟨_,rfl⟩
  rw[<-b];unfold fdL at b;refine gV ?_;refine aT λh=>gV ?_;refine .p (MZ c f lv) ?_
  repeat' first|refine pA ?_|exact rfl|refine lA ?_ ?_|intro h
  refine To.cut [1,3,5,9,26,27,28] 2 rfl rfl rfl rfl ?_;refine aSL c f free g l lv i o_ Q (gpL c lv) o_ e.2 (Z (gpL c lv)) 0 o_ (λx a=>?_) (λa=>?_)
  .have a:fdG c free g (gpL c lv)=X x:=a;rw[a]at b;exact b
  .have a:fdG c free g (gpL c lv)=none:=a;rw[a]at b;rw[b];exact d
def find_ok(c:Con)(a:c.sm)(free:a8)(g:Gan)(b:0<=g.pods/\g.pods<=16):bj 271 [c.av,CA 3 (vav free) J0,g.av] (fdA (yK c free g)):=by refine c_ f271 λ_=>gV ?_;exact To.cut [1,3,5,9] 2 rfl rfl rfl rfl (aQV c a free g b _ _ o_ rfl)
def cL(c:Con)(l:a7)(g:Gan):Option (Int×ax):=if E2 c (ofL c l) g.ten (dem g)=O then yK c (iL c l) g else D
def aIH(c:Con)(e:c.sm)(l:a7)(hl:Sm l)(g:Gan)(m:0<=g.pods/\g.pods<=16)(Q:Option (Int×ax))(a:cL c l g=Q):bj 213 [c.av,CA 14 (rav l) J0,g.av] (fdA Q):=by
 unfold cL at a;have hm:=aQp c e (ofL c l) g.ten (dem g);have k:=Z5 g;generalize E2 c (ofL c l) g.ten (dem g)=b at a hm;generalize dem g=d at hm k;have h:=find_ok c e (iL c l) g m;have i:=aB4 c e l hl;have j:=TZ c e l hl.1;generalize iL c l=fr at h a i;generalize ofL c l=us at hm j;cases b with
 | false=>
  have a:D=Q:=a;subst a;exact zqha8
 | true=>
  have a:yK c fr g=Q:=a;rw[a]at h;unfold fdA at h⊢;cases Q with
  | none=>
   exact zqha8
  | some x=>
   exact zqha8
def BU(c:Con)(a:c.sm)(l:a7)(hl:Sm l)(g:Gan)(b:0<=g.pods/\g.pods<=16):bj 213 [c.av,CA 14 (rav l) J0,g.av] (fdA (cL c l g)):=aIH c a l hl g b _ rfl
def aA.nil2{P:Program}{f:FuncId}{a:aa}{j:az}{g:Nat}{ac ap:aw}{r:Res}(h:aA P f (a::CA g [] J0::j) ac r ap):aA P f (a:: .nilslice::j) ac r ap:=
 λM ob w b hm d=>h M ob w b hm ⟨d.1,λi v x e c=>by
  match i with
  | 0=>exact d.2 0 v x e c
  | 1=>
   have c:aa.slice g [] J0=x:=by simpa using c
   subst c;have:=d.2 1 v .nilslice e rfl;cases this;exact .slnil _ _ trivial
  | i+2=>exact d.2 (i+2) v x e c⟩
def aDX(c:Con)(j:c.sm)(g:Gan)(k:0<=g.pods/\g.pods<=16)(b:Bool)(e:(cL c [] g).isNone=b):bj 151 [c.av,g.av] (DA b):=by
 have a:=BU c j [] ⟨Bq _,λx h=>by simp at h⟩ g k;generalize cL c [] g=Q at a e;subst e;unfold fdA at a;cases Q with
 | none=>
  refine c_ f151 λ_=>?_;have d:=aA.nil2 a;exact zW
 | some x=>
  refine c_ f151 λ_=>?_;have i:=aA.nil2 a;exact zW
def T9(c:Con)(b:c.sm)(g:Gan)(a:0<=g.pods/\g.pods<=16):bj 151 [c.av,g.av] (DA (cL c [] g).isNone):=aDX c b g a _ rfl
def aSc(x:Rn)(M:Imm)(ob:Hs)(vs:bb)(h:cV M ob vs [x.av]):inR Is x.st/\inR Is x.g.run:=by
 have hl:0<Z vs:=by rw[h.1];simp
 have:=h.2 0 _ x.av (Ab hl) rfl;exact⟨cX this 11 _ rfl,cX this 6 _ rfl⟩
def dQ(x:Rn):Int:=if 9223372036854775807<x.st+x.g.run then 9223372036854775807 else if x.st+x.g.run< -9223372036854775808 then -9223372036854775808 else x.st+x.g.run
def aNj(x:Rn)(r:Int)(a:dQ x=r):bj 158 [x.av] (ii r):=by
 refine aA.get _ (aSc x) λ⟨⟨a1,a2⟩,⟨b1,b2⟩⟩=>?_;simp only[bS,aX]at a1 a2 b1 b2;unfold dQ at a;by_cases h1:9223372036854775807<x.st+x.g.run
 .rw [bu h1]at a;subst a;have e:=aKh h1 o_;exact zqha7
 .rw [bt h1]at a;by_cases b:x.st+x.g.run< -9223372036854775808
  .rw [bu b]at a;subst a;have e:=aKg b o_;exact zqha7
  .rw [bt b]at a;refine c_ f158 λ_=>?_
   repeat' first|refine pA ?_|exact rfl|refine lA ?_ ?_|intro h
   all_goals first|exact a▸rfl|(exfalso;simp at *;omega)
def JA(x:Rn):bj 158 [x.av] (ii (dQ x)):=aNj x _ rfl
def aGR(x:Rn)(r:Int)(a:dQ x=r):bj 80 [x.av] (ii r):=by
 refine aA.get _ (aSc x) λ⟨⟨a1,a2⟩,⟨b1,b2⟩⟩=>?_;simp only[bS,aX]at a1 a2 b1 b2;unfold dQ at a;by_cases h1:9223372036854775807<x.st+x.g.run
 .rw [bu h1]at a;subst a;refine c_ f80 λ_=>?_
  repeat' first|(refine gN hE ?_;conv=>whnf)|exact rfl|refine aY ?_|refine aN ?_|refine aT λh=>?_|refine aF λh=>?_|refine Aa (λh=>?_) (λh=>bv (bm h) (by simp only[bo,bk]at *;omega))|refine Aa (λh=>bv (bn h) (by simp only[bo,bk]at *;omega)) (λh=>?_)|refine⟨λh=>?_,λh=>?_⟩|refine aJ ?_|refine⟨_,rfl,?_⟩|refine Aa d_ ?_|refine Aa o_ ?_|refine Fu (Aa (Aa (by simp only[bS];simp only[bo,bk]at *;omega) (by simp only[aX];simp only[bo,bk]at *;omega)) ?_)
 .rw [bt h1]at a;by_cases b:x.st+x.g.run< -9223372036854775808
  .rw [bu b]at a;subst a;refine c_ f80 λ_=>?_
   repeat' first|(refine gN hE ?_;conv=>whnf)|exact rfl|refine aY ?_|refine aN ?_|refine aT λh=>?_|refine aF λh=>?_|refine Aa (λh=>?_) (λh=>bv (bm h) (by simp only[bo,bk]at *;omega))|refine Aa (λh=>bv (bn h) (by simp only[bo,bk]at *;omega)) (λh=>?_)|refine⟨λh=>?_,λh=>?_⟩|refine aJ ?_|refine⟨_,rfl,?_⟩|refine Aa d_ ?_|refine Aa o_ ?_|refine Fu (Aa (Aa (by simp only[bS];simp only[bo,bk]at *;omega) (by simp only[aX];simp only[bo,bk]at *;omega)) ?_)
  .rw [bt b]at a;subst a;refine c_ f80 λ_=>?_
   repeat' first|(refine gN hE ?_;conv=>whnf)|exact rfl|refine aY ?_|refine aN ?_|refine aT λh=>?_|refine aF λh=>?_|refine Aa (λh=>?_) (λh=>bv (bm h) (by simp only[bo,bk]at *;omega))|refine Aa (λh=>bv (bn h) (by simp only[bo,bk]at *;omega)) (λh=>?_)|refine⟨λh=>?_,λh=>?_⟩|refine aJ ?_|refine⟨_,rfl,?_⟩|refine Aa d_ ?_|refine Aa o_ ?_|refine Fu (Aa (Aa (by simp only[bS];simp only[bo,bk]at *;omega) (by simp only[aX];simp only[bo,bk]at *;omega)) ?_)
def FK(x:Rn):bj 80 [x.av] (ii (dQ x)):=aGR x _ rfl
def DO(l:ax)(h:Z l<=1048576):bj 265 [CA 1 (iv l) J0] (CA 1 (iv l) J0):=by
 have a:Z (iv l)=Z l:=by simp
 refine c_ f265 λ_=>gV ?_;intro b c;refine gV ?_;refine⟨λh=>?_,λh=>?_⟩
 .have h:b=true:=h;have e:iv l=[]:=c h;refine gV ?_;rw[e]
 .have h:b=false:=h;exact zW
def aLb(x:Rn)(h:Z x.hs<=1048576):bj 228 [x.av] x.av:=by refine c_ f228 λ_=>?_;have a:=DO x.hs h;exact zW
def atL(l:a7)(t:Int):a7:=l.filter λx=>decide (t<dQ x)
def aCL{x:Rn}{r:a7}{t:Int}(h:decide (t<dQ x)=O):atL (x::r) t=x::atL r t:=List.filter_cons_of_pos h
def aCM{x:Rn}{r:a7}{t:Int}(h:decide (t<dQ x)=U):atL (x::r) t=atL r t:=List.filter_cons_of_neg (by rw[h];decide)
def aOa(l:a7)(hs:Sm l)(t:Int)(R:a7):∀(n i:Nat) (a:a7),i+n=Z l->Z a<=i->a++atL (l.drop i) t=R->
  DE (Eo [5] []) f159 (CA 14 (rav R) J0) [(1,GE Is t),(5,CA 14 (rav a) (.own 0 0)),(8,CA 14 (rav l) J0),(9,GE Is (Z (rav l):Nat)),(10,GE Is i)] [Fr 0 14 85]:=by
 have m:Z (rav l)=Z l:=by simp
 have hl:=hs.1;intro n;induction n with
 | zero=>
  intro i a p o b;exact zqha9
 | succ n g=>
  intro i a p o b;have c:i<Z l:=o_;rw[Ac c]at b;have k:=hs.at c;generalize q:l[i]=x at b k;have get:(rav l)[i]? =X x.av:=(cH c).trans (by rw[q]);have r:Z (rav a)=Z a:=by simp
  refine gV ?_;refine aT λh=>gV ?_;refine⟨i,rfl,gV ?_⟩;refine⟨_,get,gV ?_⟩;refine .p (JA x) (gV ?_);refine Aa (λd=>?_) (λd=>?_)
  .have d:decide (t<dQ x)=true:=d;rw[aCL d]at b;refine gV ?_;refine .p (aLb x k) (gV ?_);refine⟨⟨by simp only[maxLen];simp;omega,by simp;omega⟩,?_⟩;refine gV ?_;refine aJ (gV ?_);exact To.part [1,5,8,9,10] [0] rfl rfl rfl zqha6
  .have f:decide (t<dQ x)=false:=d;rw[aCM f]at b;have j:=g (i+1) a o_ o_ b;exact zW
def aJW(l:a7)(hs:Sm l)(t:Int):bj 159 [CA 14 (rav l) J0,ii t] (CA 14 (rav (atL l t)) J0):=by refine gA (Eo [5] []) f159 λ_=>?_;have a:=aOa l hs t _ (Z l) 0 [] o_ s_ rfl;exact zW
def aG4(l:a7)(hs:Sm l)(t:Int)(R:a7):∀(n i:Nat) (a:a7),i+n=Z l->Z a<=i->a++atL (l.drop i) t=R->
  DE (Eo [5] []) f81 (CA 14 (rav R) J0) [(0,CA 14 (rav l) J0),(1,GE Is t),(5,CA 14 (rav a) (.own 0 0)),(6,GE Is i)] [Fr 0 14 85]:=by
 have j:Z (rav l)=Z l:=by simp
 have hl:=hs.1;intro n;induction n with
 | zero=>
  intro i a o m b;exact zqha9
 | succ n g=>
  intro i a o m b;have c:i<Z l:=o_;rw[Ac c]at b;generalize p:l[i]=x at b;have get:(rav l)[i]? =X x.av:=(cH c).trans (by rw[p]);have q:Z (rav a)=Z a:=by simp
  refine gV ?_;refine aT λh=>gV ?_;refine⟨i,rfl,gV ?_⟩;refine⟨_,get,gV ?_⟩;refine .p (FK x) (gV ?_);refine Aa (λd=>?_) (λd=>?_)
  .have d:decide (t<dQ x)=true:=d;rw[aCL d]at b;refine gV ?_;refine⟨i,rfl,gV ?_⟩;refine⟨_,get,gV ?_⟩;refine⟨⟨by simp only[maxLen];simp;omega,by simp;omega⟩,?_⟩;refine gV ?_;refine aJ (gV ?_);exact To.part [0,1,5,6] [0] rfl rfl rfl zqha6
  .have f:decide (t<dQ x)=false:=d;rw[aCM f]at b;have k:=g (i+1) a o_ o_ b;exact zW
def aG3(l:a7)(hs:Sm l)(t:Int):bj 81 [CA 14 (rav l) J0,ii t] (CA 14 (rav (atL l t)) J0):=by refine gA (Eo [5] []) f81 λ_=>?_;have a:=aG4 l hs t _ (Z l) 0 [] o_ s_ rfl;exact zW
def aAo{l:a7}(h:Sm l)(t:Int):Sm (atL l t):=
 ⟨Cp (List.length_filter_le _ _) h.1,λx a=>h.2 x (List.mem_filter.1 a).1⟩
open Go.Shelf
set_option maxRecDepth 100000
def aKR:Go.Shelf.Ren:=⟨fun|125=>359|128=>376|129=>377|189=>333|215=>319|216=>373|257=>358|294=>367|295=>368|296=>369|297=>370|298=>371|299=>372|300=>374|301=>375|328=>379|329=>380|330=>381|331=>382|332=>383|343=>384|n=>n,fun|0=>0|3=>3|4=>4|5=>5|9=>9|28=>83|46=>309|51=>254|53=>55|131=>216|182=>411|183=>412|218=>421|222=>425|228=>427|229=>428|n=>n,λn=>n⟩
def R5:Lays.n189 Tryz.prog aKR where
 mixed:=by kernel_rfl
 f125:=Tryz.func359.trans (congrArg X (by kernel_rfl))
 f128:=Tryz.func376.trans (congrArg X (by kernel_rfl))
 f129:=Tryz.func377.trans (congrArg X (by kernel_rfl))
 f189:=Tryz.func333.trans (congrArg X (by kernel_rfl))
 f215:=Tryz.func319.trans (congrArg X (by kernel_rfl))
 f216:=Tryz.func373.trans (congrArg X (by kernel_rfl))
 f257:=Tryz.func358.trans (congrArg X (by kernel_rfl))
 f294:=Tryz.func367.trans (congrArg X (by kernel_rfl))
 f295:=Tryz.func368.trans (congrArg X (by kernel_rfl))
 f296:=Tryz.func369.trans (congrArg X (by kernel_rfl))
 f297:=Tryz.func370.trans (congrArg X (by kernel_rfl))
 f298:=Tryz.func371.trans (congrArg X (by kernel_rfl))
 f299:=Tryz.func372.trans (congrArg X (by kernel_rfl))
 f300:=Tryz.func374.trans (congrArg X (by kernel_rfl))
 f301:=Tryz.func375.trans (congrArg X (by kernel_rfl))
 f328:=Tryz.func379.trans (congrArg X (by kernel_rfl))
 f329:=Tryz.func380.trans (congrArg X (by kernel_rfl))
 f330:=Tryz.func381.trans (congrArg X (by kernel_rfl))
 f331:=Tryz.func382.trans (congrArg X (by kernel_rfl))
 f332:=Tryz.func383.trans (congrArg X (by kernel_rfl))
 f343:=Tryz.func384.trans (congrArg X (by kernel_rfl))
 t0:=underlying0
 a0:=Tryz.isAgg0
 z0:=Tryz.sizeOf0
 v0:=Tryz.zeroValue0
 t3:=underlying3
 a3:=Tryz.isAgg3
 z3:=Tryz.sizeOf3
 v3:=Tryz.zeroValue3
 t4:=underlying4
 a4:=Tryz.isAgg4
 z4:=Tryz.sizeOf4
 v4:=Tryz.zeroValue4
 t5:=underlying5
 a5:=Tryz.isAgg5
 z5:=Tryz.sizeOf5
 v5:=Tryz.zeroValue5
 t9:=underlying9
 a9:=Tryz.isAgg9
 z9:=Tryz.sizeOf9
 v9:=Tryz.zeroValue9
 t28:=underlying83
 a28:=Tryz.isAgg83
 z28:=Tryz.sizeOf83
 v28:=Tryz.zeroValue83
 t46:=underlying309
 a46:=Tryz.isAgg309
 z46:=Tryz.sizeOf309
 v46:=Tryz.zeroValue309
 t51:=underlying254
 a51:=Tryz.isAgg254
 z51:=Tryz.sizeOf254
 v51:=Tryz.zeroValue254
 t53:=underlying55
 a53:=Tryz.isAgg55
 z53:=Tryz.sizeOf55
 v53:=Tryz.zeroValue55
 t131:=underlying216
 a131:=Tryz.isAgg216
 z131:=Tryz.sizeOf216
 v131:=Tryz.zeroValue216
 t182:=underlying411
 a182:=Tryz.isAgg411
 z182:=Tryz.sizeOf411
 v182:=Tryz.zeroValue411
 t183:=underlying412
 a183:=Tryz.isAgg412
 z183:=Tryz.sizeOf412
 v183:=Tryz.zeroValue412
 t218:=underlying421
 a218:=Tryz.isAgg421
 z218:=Tryz.sizeOf421
 v218:=Tryz.zeroValue421
 t222:=underlying425
 a222:=Tryz.isAgg425
 z222:=Tryz.sizeOf425
 v222:=Tryz.zeroValue425
 t228:=underlying427
 a228:=Tryz.isAgg427
 z228:=Tryz.sizeOf427
 v228:=Tryz.zeroValue427
 t229:=underlying428
 a229:=Tryz.isAgg428
 z229:=Tryz.sizeOf428
 v229:=Tryz.zeroValue428
def yG(l:ax):ax:=l.mergeSort λx y=>decide (x<=y)
def aKQ(l:ax)(hl:Z l<=1000000000):ar 333 [.row 0 0] [.row 0 1 3 (iv l)] (Io (GT [])) [.row 0 1 3 (iv (yG l))]:=
 KL (λ_ _=>by rfl) (λp cap w=>Any.slices_Sort_int_none R5 p cap w) (λblk off cap a w b c hz=>Any.slices_Sort_int R5 blk off cap a w b c hz) 3 l hl
set_option maxRecDepth 10000
def kyv(n:Int):aa:=He [ii n]
abbrev kv(l:ax):az:=l.map kyv
def aH8{l:ax}{i:Nat}(h:i<Z l):(kv l)[i]? =X (kyv l[i]):=by simp[kv,h]
abbrev aQx(n:Int):aa:=.func (.func 332) [] [.ptr [ii n]]
def aQv(x n:Int):bj 332 [kyv x,.ptr [ii n]] (DA (x==n&&O)):=by exact c_ f332 λ_=>zW
def EI(n:Int):ax->Nat->Int
 | [],_=> -1
 | x::r,i=>if(x==n&&O)then(i:Int)else EI n r (i+1)
def has(l:ax)(n:Int):Bool:=decide (0<=EI n l 0)
def aIi(l:ax)(n:Int)(hl:Gf (Z (kv l)))(r:Int):∀(m i:Nat),i+m=Z l->EI n (l.drop i) i=r->
  DE E f357 (ii r) [(0,CA 1 (kv l) J0),(1,aQx n),(7,GE Is (Z (kv l):Nat)),(8,GE Is i)] []:=by
 have d:Z (kv l)=Z l:=by simp
 intro m;induction m with
 | zero=>
  intro i f a;rw[Ae o_]at a;subst a;exact tA
 | succ m e=>
  intro i f a;have b:i<Z l:=o_;rw[Ac b]at a;generalize g:l[i]=x at a;have get:(kv l)[i]? =X (kyv x):=(aH8 b).trans (by rw[g]);unfold EI at a;refine gV ?_;refine aT λh=>?_
  repeat' first|refine pA ?_|refine⟨_,get,?_⟩|refine .p (aQv x n) ?_|exact rfl|refine lA ?_ ?_|intro h
  .have h:(x==n&&O)=true:=h;rw[bu h]at a;rw[<-a]
  .have h:(x==n&&O)=false:=h;rw[bt (by rw[h];decide)]at a;have c:=e (i+1) o_ a;exact zW
def aQB(l:ax)(n:Int):bj 357 [CA 1 (kv l) J0,aQx n] (ii (EI n l 0)):=by refine c_ f357 λb=>?_;have hl:(Z (kv l):Int)<=9223372036854775807:=b.1;have a:=aIi l n hl _ (Z l) 0 o_ rfl;exact zW
def aQG(l:ax)(n:Int):bj 331 [CA 1 (kv l) J0,aQx n] (DA (has l n)):=by refine c_ f331 λ_=>?_;have a:=aQB l n;exact zW
def tQ(now:Int):a7->ax->ax
 | [],ks=>ks
 | x::r,ks=>tQ now r (if decide (now<dQ x)&& !has ks (dQ x)then ks++[dQ x]else ks)
def MO(now:Int):∀(l:a7) (ks:ax),Z (tQ now l ks)<=Z ks+Z l
 | [],ks=>by simp[tQ]
 | x::r,ks=>by
  unfold tQ;have:=MO now r (if decide (now<dQ x)&& !has ks (dQ x)then ks++[dQ x]else ks);split at this
  .rename_i h;rw[bu h];simp only[Ah,Al,Bj]at this⊢;omega
  .rename_i h;rw[bt h];simp only[Al];omega
noncomputable abbrev En:Env:=Ex [5] [9] []
def hEn:ae En:=hEx _ _ _
def ZR(ks:ax)(m:Z ks<=1048576):∀(n i:Nat) (a:ax),i+n=Z ks->a=ks.take i->
  To En f298 (.pure (Io (CA 1 (iv (yG ks)) J0))) (G0 (stk f298 1) [(9,.row 0 0),(36,CA 1 (kv ks) J0),(37,GE Is (Z (kv ks):Nat)),(38,GE Is i)] [.row 0 1 3 (iv a)]):=by
 have d:Z (kv ks)=Z ks:=by simp
 intro n;induction n with
 | zero=>
  intro i a l c;rw[Bl o_]at c;subst c;refine gW hEn ?_;conv=>whnf
  refine aF λh=>?_;refine gW hEn ?_;conv=>whnf
  refine .eff [] [0] _ _ rfl (aKQ a o_) ?_
  repeat' first|refine pA ?_|exact rfl|refine lA ?_ ?_|intro h
 | succ n g=>
  intro i a l c;have b:i<Z ks:=o_;generalize f:ks[i]=x;have get:(kv ks)[i]? =X (kyv x):=(aH8 b).trans (by rw[f]);have j:Z a=i:=by rw[c];simp;omega
  have k:Z (iv a)=Z a:=by simp
  refine gW hEn ?_;conv=>whnf
  refine aT λh=>?_;refine gW hEn ?_;conv=>whnf
  refine⟨i,rfl,?_⟩;refine gW hEn ?_;conv=>whnf
  refine⟨_,get,?_⟩;refine gW hEn ?_;conv=>whnf
  refine⟨⟨by decide,by decide⟩,?_⟩;refine gW hEn ?_;conv=>whnf
  refine⟨⟨by simp only[maxLen];simp;omega,by simp;omega⟩,?_⟩;refine gW hEn ?_;conv=>whnf
  refine aJ ?_;refine gW hEn ?_;conv=>whnf
  refine To.part [9,36,37,38] [0] rfl rfl rfl ?_;have next:=g (i+1) (a++[x]) o_ (by rw[c,<-f];exact Jf b)
  have e:iv (a++[x])=iv a++[ii x]:=by simp
  rw[e]at next
  exact next
def aEt(l:a7)(hs:Sm l)(now:Int)(R:ax):∀(n i:Nat) (ks:ax),i+n=Z l->Z ks<=i->yG (tQ now (l.drop i) ks)=R->
  DE En f298 (CA 1 (iv R) J0) [(1,GE Is now),(5,CA 1 (kv ks) (.own 0 0)),(12,CA 14 (rav l) J0),(13,GE Is (Z (rav l):Nat)),(14,GE Is i)] [Fr 0 1 387]:=by
 have g:Z (rav l)=Z l:=by simp
 have hl:=hs.1;intro n;induction n with
 | zero=>
  intro i ks p m a;rw[Ae o_]at a;have a:yG ks=R:=a;subst a;refine gW hEn ?_;conv=>whnf
  refine aF λh=>?_;refine gW hEn ?_;conv=>whnf
  refine To.part [9,36,37,38] [1] rfl rfl rfl ?_;have j:=ZR ks o_ (Z ks) 0 [] o_ s_;exact zW
 | succ n d=>
  intro i ks p m a;have c:i<Z l:=o_;rw[Ac c]at a;generalize q:l[i]=x at a;have get:(rav l)[i]? =X x.av:=(cH c).trans (by rw[q]);have o:Z (kv ks)=Z ks:=by simp
  unfold tQ at a;refine gW hEn ?_;conv=>whnf
  refine aT λh=>?_;refine gW hEn ?_;conv=>whnf
  refine⟨i,rfl,?_⟩;refine gW hEn ?_;conv=>whnf
  refine⟨_,get,?_⟩;refine gW hEn ?_;conv=>whnf
  refine .p (JA x) ?_;refine gW hEn ?_;conv=>whnf
  refine⟨⟨by decide,by decide⟩,?_⟩;refine gW hEn ?_;conv=>whnf
  refine Aa (λh1=>?_) (λh1=>?_)
  .have h1:decide (now<dQ x)=true:=h1;refine gW hEn ?_;conv=>whnf
   refine .p (aQG ks (dQ x)) ?_;refine gW hEn ?_;conv=>whnf
   refine Aa (λb=>?_) (λb=>?_)
   .have b:(!has ks (dQ x))=true:=b;rw[h1,b,bu d_]at a;refine gW hEn ?_;conv=>whnf
    refine⟨⟨by simp only[maxLen];simp;omega,by simp;omega⟩,?_⟩;refine gW hEn ?_;conv=>whnf
    refine aJ ?_;refine gW hEn ?_;conv=>whnf
    refine To.part [1,5,12,13,14] [0] rfl rfl rfl ?_;have next:=d (i+1) (ks++[dQ x]) o_ q_ a
    have e:kv (ks++[dQ x])=kv ks++[kyv (dQ x)]:=by simp
    rw[e]at next
    exact next
   .have b:(!has ks (dQ x))=false:=b;rw[h1,b,bt d_]at a;refine gW hEn ?_;conv=>whnf
    refine aJ ?_;refine gW hEn ?_;conv=>whnf
    have f:=d (i+1) ks o_ o_ a;exact zW
  .have h1:decide (now<dQ x)=false:=h1;rw[h1,Cu,bt d_]at a
   repeat' first|refine pA ?_|exact rfl|refine lA ?_ ?_|intro h
   have k:=d (i+1) ks o_ o_ a;exact zW
def BX(l:a7)(now:Int):ax:=yG (tQ now l [])
def aNi(l:a7)(hs:Sm l)(now:Int):bj 298 [CA 14 (rav l) J0,ii now] (CA 1 (iv (BX l now)) J0):=by
 refine gA En f298 λ_=>?_;refine gW hEn ?_;conv=>whnf
 have a:=aEt l hs now _ (Z l) 0 [] o_ s_ rfl;exact zW
def sZ(n:Int):ax->ax
 | []=>[n]
 | x::r=>if x<n then x::sZ n r else if x=n then x::r else n::x::r
def rE(now:Int):a7->ax->ax
 | [],out=>out
 | x::r,out=>rE now r (if dQ x<=now then out else sZ (dQ x) out)
def US(n:Int):∀(l:ax),Z (sZ n l)<=Z l+1
 | []=>by simp[sZ]
 | x::r=>by
  have:=US n r;unfold sZ;split
  .simp only[Al];omega
  .split<;>simp
noncomputable abbrev Ee:Env:=Ex [5,54] [] [58,59,60]
def hEe:ae Ee:=hEx _ _ _
abbrev reO:aw:=[Fr 0 1 3]
def SU(l:a7)(now:Int)(R:ax)(i:Nat)(Be:i<1048576)(n:Int)(out:ax)(C:Z out<=i)(rest:a7)
  (o:∀(c:ax),Z c<=i+1->rE now rest c=R->DE Ee f189 (CA 1 (iv R) J0) [(0,CA 14 (rav l) J0),(1,GE Is now),(5,CA 1 (iv c) (.own 0 0)),(6,GE Is ((i:Int)+1))] reO)
  (d:rE now rest (if n<=now then out else sZ n out)=R):∀(m k:Nat),k+m=Z out->sZ n out=out.take k++sZ n (out.drop k)->
  To Ee f189 (.pure (Io (CA 1 (iv R) J0))) (G0 (stk f189 1) [(0,CA 14 (rav l) J0),(1,GE Is now),(5,CA 1 (iv out) (.own 0 0)),(6,GE Is i),(7,GE Is n),(8,GE Is k)] reO):=by
 have A:Z (iv out)=Z out:=by simp
 intro m;induction m with
 | zero=>
  intro k w a;rw[Ae o_,Bl o_]at a;have a:sZ n out=out++[n]:=a;have y:Gd k (iv out)=[]:=Ae o_;have z:Fs k (iv out)=iv out:=Bl o_;refine gW hEe ?_;conv=>whnf
  refine aF λh=>?_;refine gW hEe ?_;conv=>whnf
  refine aN ?_;refine gW hEe ?_;conv=>whnf
  refine Aa (λh1=>?_) (λh1=>?_)
  .have b:=bn h1;have v:=o out o_ (by rw[bu b]at d;exact d);exact zW
  .have b:=bm h1;refine gW hEe ?_;conv=>whnf
   refine aF λh=>?_;refine gW hEe ?_;conv=>whnf
   refine aN ?_;refine gW hEe ?_;conv=>whnf
   refine⟨k,rfl,?_⟩;refine gW hEe ?_;conv=>whnf
   refine⟨by omega,?_⟩;refine gW hEe ?_;conv=>whnf
   refine⟨⟨by simp only[maxLen];simp;omega,by simp;omega⟩,?_⟩;refine gW hEe ?_;conv=>whnf
   refine⟨⟨by simp only[maxLen];simp;omega,by simp;omega⟩,?_⟩;refine gW hEe ?_;conv=>whnf
   refine⟨k,rfl,?_⟩;refine gW hEe ?_;conv=>whnf
   refine⟨by omega,?_⟩;refine gW hEe ?_;conv=>whnf
   refine⟨⟨by simp only[maxLen];simp;omega,by simp;omega⟩,?_⟩;refine gW hEe ?_;conv=>whnf
   refine aJ ?_;refine gW hEe ?_;conv=>whnf
   refine To.part [0,1,5,6] [1] rfl rfl rfl ?_;rw[bt b,a]at d;have next:=o (out++[n]) q_ d
   have e:iv (out++[n])=Fs k (iv out)++[ii n]++Gd k (iv out):=by rw[y,z];simp
   rw[e]at next
   exact next
 | succ m r=>
  intro k w a;have f:k<Z out:=o_;rw[Ac f]at a;have p:out.take k++[out[k]]=out.take (k+1):=Jf f;have g:out.drop k=out[k]::out.drop (k+1):=Ac f;generalize B:out[k]=x at a p g;have get:(iv out)[k]? =X (ii x):=(cK f).trans (by rw[B]);have a:sZ n out=out.take k++(if x<n then x::sZ n (out.drop (k+1))else if x=n then x::out.drop (k+1)else n::x::out.drop (k+1)):=a;refine gW hEe ?_;conv=>whnf
  refine aT λh=>?_;refine gW hEe ?_;conv=>whnf
  refine⟨k,rfl,?_⟩;refine gW hEe ?_;conv=>whnf
  refine⟨_,get,?_⟩;refine gW hEe ?_;conv=>whnf
  refine Aa (λh1=>?_) (λh1=>?_)
  .have j:=bn h1;rw[bu j]at a;have s:=r (k+1) o_ (by rw[a,<-p,Ag];rfl);exact zW
  .have j:=bm h1;rw[bt j]at a;refine gW hEe ?_;conv=>whnf
   refine Aa (λq=>?_) (λq=>?_)
   .have b:=bn q;have t:=o out o_ (by rw[bu b]at d;exact d);exact zW
   .have b:=bm q;rw[bt b]at d;refine gW hEe ?_;conv=>whnf
    refine aT λh=>?_;refine gW hEe ?_;conv=>whnf
    refine⟨k,rfl,?_⟩;refine gW hEe ?_;conv=>whnf
    refine⟨_,get,?_⟩;refine gW hEe ?_;conv=>whnf
    refine Aa (λh3=>?_) (λh3=>?_)
    .have h3:(x==n)=true:=h3;have h3:x=n:=by simpa using h3
     rw[bu h3]at a;have e:sZ n out=out:=by rw[a,<-g,List.take_append_drop]
     rw[e]at d;have u:=o out o_ d;exact zW
    .have h3:(x==n)=false:=h3;have h3:¬ x=n:=by simpa using h3
     rw[bt h3,<-g]at a;refine gW hEe ?_;conv=>whnf
     refine⟨k,rfl,?_⟩;refine gW hEe ?_;conv=>whnf
     refine⟨by omega,?_⟩;refine gW hEe ?_;conv=>whnf
     refine⟨⟨by simp only[maxLen];simp;omega,by simp;omega⟩,?_⟩;refine gW hEe ?_;conv=>whnf
     refine⟨⟨by simp only[maxLen];simp;omega,by simp;omega⟩,?_⟩;refine gW hEe ?_;conv=>whnf
     refine⟨k,rfl,?_⟩;refine gW hEe ?_;conv=>whnf
     refine⟨by omega,?_⟩;refine gW hEe ?_;conv=>whnf
     refine⟨⟨by simp only[maxLen];simp;omega,by simp;omega⟩,?_⟩;refine gW hEe ?_;conv=>whnf
     refine aJ ?_;refine gW hEe ?_;conv=>whnf
     refine To.part [0,1,5,6] [1] rfl rfl rfl ?_;rw[a]at d;have next:=o (out.take k++n::out.drop k) q_ d
     have e:iv (out.take k++n::out.drop k)=Fs k (iv out)++[ii n]++Gd k (iv out):=by simp
     rw[e]at next
     exact next
def YB(l:a7)(hs:Sm l)(now:Int)(R:ax):∀(m i:Nat) (out:ax),i+m=Z l->Z out<=i->rE now (l.drop i) out=R->
  DE Ee f189 (CA 1 (iv R) J0) [(0,CA 14 (rav l) J0),(1,GE Is now),(5,CA 1 (iv out) (.own 0 0)),(6,GE Is i)] reO:=by
 have f:Z (rav l)=Z l:=by simp
 have hl:=hs.1;intro m;induction m with
 | zero=>
  intro i out k d a;rw[Ae o_]at a;have a:out=R:=a;subst a;refine gW hEe ?_;conv=>whnf
  exact zW
 | succ m j=>
  intro i out k d a;have c:i<Z l:=o_;rw[Ac c]at a;generalize o:l[i]=x at a;have get:(rav l)[i]? =X x.av:=(cH c).trans (by rw[o]);unfold rE at a;refine gW hEe ?_;conv=>whnf
  refine aT λh=>?_;refine gW hEe ?_;conv=>whnf
  refine⟨i,rfl,?_⟩;refine gW hEe ?_;conv=>whnf
  refine⟨_,get,?_⟩;have e:=FK x;have g:=SU l now R i o_ (dQ x) out d (l.drop (i+1)) (λb h1 n=>j (i+1) b o_ h1 n) a (Z out) 0 o_ s_;exact zW
def aGQ(l:a7)(hs:Sm l)(now:Int):bj 189 [CA 14 (rav l) J0,ii now] (CA 1 (iv (rE now l [])) J0):=by refine gA Ee f189 λ_=>?_;have a:=YB l hs now _ (Z l) 0 [] o_ s_ rfl;exact zW
def stF(c:Con)(l:a7)(g:Gan):ax->Option Int
 | []=>D
 | t::r=>if(cL c (atL l t) g).isSome=O then X t else stF c l g r
def stA:Option Int->aa
 | some t=>.tup [ii t,.bool O]
 | none=>.tup [ii 0,.bool U]
def nR(c:Con)(now:Int)(l:a7)(g:Gan):Option Int:=stF c l g (now::BX l now)
def XN(c:Con)(o:c.sm)(now:Int)(l:a7)(hs:Sm l)(g:Gan)(k:0<=g.pods/\g.pods<=16)(es:ax)(q:Z es<=1048576)(R:Option Int):∀(m i:Nat),i+m=Z es+1->stF c l g ((now::es).drop i)=R->
  DE E f235 (stA R) [(1,ii now),(2,CA 14 (rav l) J0),(4,G2 0 0),(7,G2 1 0),(10,CA 1 (iv es) J0),(21,GE Is ((Z (iv es):Nat)+1)),(22,ii i)] (aB9 c g):=by
 have n:Z (iv es)=Z es:=by simp
 intro m;induction m with
 | zero=>
  intro i p a;rw[Ae q_]at a;have a:D=R:=a;subst a;exact tA
 | succ m f=>
  intro i p a;have e:i<Z (now::es):=by simp;omega
  rw[Ac e]at a;have f:=f (i+1) o_;cases i with
  | zero=>
   have a:stF c l g (now::(now::es).drop 1)=R:=a;have d:=BU c o (atL l now) (aAo hs now) g k;have b:=aJW l hs now;unfold stF at a;generalize cL c (atL l now) g=Q at a d;unfold fdA at d;generalize atL l now=al at b d;refine gV ?_;refine aT λh=>gV ?_;refine aF λh=>gV ?_;refine .p b (gV ?_);cases Q with
   | none=>
    rw[bt d_]at a;have next:=f a
    exact zW
   | some x=>
    exact zqha12
  | succ j=>
   have r:j<Z es:=by simp at e;omega
   have a:stF c l g (es[j]::(now::es).drop (j+1+1))=R:=a;have get:(iv es)[j]? =X (ii es[j]):=cK r;generalize es[j]=t at a get;have d:=BU c o (atL l t) (aAo hs t) g k;have b:=aJW l hs t;unfold stF at a;generalize cL c (atL l t) g=Q at a d;unfold fdA at d;generalize atL l t=al at b d;refine gV ?_;refine aT λh=>gV ?_;refine aT λh=>gV ?_;refine aJ (gV ?_);refine⟨j,by omega,gV ?_⟩;refine⟨_,get,gV ?_⟩;refine .p b (gV ?_);cases Q with
   | none=>
    rw[bt d_]at a;have next:=f a
    exact zW
   | some x=>
    exact zqha12
def aFM(c:Con)(e:c.sm)(now:Int)(l:a7)(hs:Sm l)(g:Gan)(h:0<=g.pods/\g.pods<=16):bj 235 [c.av,ii now,CA 14 (rav l) J0,g.av] (stA (nR c now l g)):=by
 have a:Z (BX l now)<=1048576:=by
  unfold BX yG;rw[List.length_mergeSort];have:=MO now l [];have:=hs.1;simp at *
  omega
 have b:=aNi l hs now;unfold nR;generalize BX l now=es at a b;have d:Z (iv es)=Z es:=by simp
 refine c_ f235 λ_=>gV ?_;refine .p b (gV ?_);refine aJ (gV ?_);exact To.cut [1,2,4,7,10,21,22] 2 rfl rfl rfl rfl (XN c e now l hs g h es a _ (Z es+1) 0 o_ rfl)
def bmB(now:Int)(g:Gan)(t:Int):Bool:=decide (dQ ⟨g,0,0,now,0,[]⟩<=t)
def aJO(now:Int)(g:Gan)(t:Int)(b:Bool)(a:bmB now g t=b):bj 289 [ii now,g.av,ii t] (DA b):=by have c:=JA ⟨g,0,0,now,0,[]⟩;unfold bmB at a;generalize dQ ⟨g,0,0,now,0,[]⟩=x at a c;subst a;exact c_ f289 λ_=>zW
def aN6(now:Int)(g:Gan)(t:Int):bj 289 [ii now,g.av,ii t] (DA (bmB now g t)):=aJO now g t _ rfl
def aGy(now:Int)(g:Gan)(t:Int)(b:Bool)(a:bmB now g t=b):bj 128 [ii now,g.av,ii t] (DA b):=by have c:=FK ⟨g,0,0,now,0,[]⟩;unfold bmB at a;generalize dQ ⟨g,0,0,now,0,[]⟩=x at a c;subst a;exact c_ f128 λ_=>zW
def aLj(now:Int)(g:Gan)(t:Int):bj 128 [ii now,g.av,ii t] (DA (bmB now g t)):=aGy now g t _ rfl
def aS(v:V3):Bool:=decide (0<=v.a/\v.a<=1048576)&&decide (0<=v.b/\v.b<=1048576)&&decide (0<=v.c/\v.c<=1048576)
def aCX(v:V3)(b:Bool)(d:aS v=b):bj 74 [v.av] (DA b):=by
 unfold aS at d;refine c_ f74 λ_=>?_
 repeat' first
  | (refine gW hE ?_;conv=>whnf)
  | exact d
  | refine aY ?_
  | refine aN ?_
  | refine Aa (λh=>?_) (λh=>?_)
  | refine aJ ?_
  | refine Aj _ (Aa rfl ?_)
  | refine Aa d_ ?_
 all_goals (refine congrArg (λb=>Res.ret (aa.bool b)) ?_;rw[<-d];simp only[bo,bk]at *)
 .rw [bp (p:=0<=v.a/\v.a<=1048576) o_];rfl
 .rw [bp (p:=0<=v.a/\v.a<=1048576) o_];rfl
 .rw [bp (p:=0<=v.b/\v.b<=1048576) o_,Br];rfl
 .rw [bp (p:=0<=v.b/\v.b<=1048576) o_,Br];rfl
 .rw [bp (p:=0<=v.c/\v.c<=1048576) o_,Br]
 .rw [bp (p:=0<=v.c/\v.c<=1048576) o_,Br]
 .rw [bq (p:=0<=v.a/\v.a<=1048576) o_,bq (p:=0<=v.b/\v.b<=1048576) o_,bq (p:=0<=v.c/\v.c<=1048576) o_];rfl
def uN(v:V3):bj 74 [v.av] (DA (aS v)):=aCX v _ rfl
def rlB(ns:bf)(t:Int):Bool:=if decide (t<0)=O then U else if decide ((Z ns:Int)<=t)=O then U else ns.all λx=>!(x.p==t)
def X0(c:Con)(j:c.sm)(t:Int)(r:Bool):∀(m i:Nat),i+m=Z c.ns->((c.ns.drop i).all λx=>!(x.p==t))=r->
  DE E f117 (DA r) [(1,ii t),(2,G2 0 0),(5,ii i)] [Do 30 c.cs]:=by
 have f:Z (nav c.ns)=Z c.ns:=by simp
 have h1:=j.ns;intro m;induction m with
 | zero=>
  intro i g a;rw[Ae o_]at a;have a:O=r:=a;subst a;exact tA
 | succ m e=>
  intro i g a;have d:i<Z c.ns:=o_;rw[Ac d,Hw]at a;have get:=fL d;generalize c.ns[i]=x at a get;have e:=e (i+1) o_;refine gV ?_;refine aT λh=>gV ?_;refine⟨i,rfl,gV ?_⟩;refine⟨_,get,gV ?_⟩;refine Aa (λb=>?_) (λb=>?_)
  .have b:(x.p==t)=true:=b;rw[b]at a;have a:U=r:=a;subst a;exact zW
  .have b:(x.p==t)=false:=b;rw[b]at a;have a:((c.ns.drop (i+1)).all λx=>!(x.p==t))=r:=a
   repeat' first|refine pA ?_|exact rfl|refine lA ?_ ?_|intro h
   exact To.cut [1,2,5] 1 rfl rfl rfl rfl (e a)
def aDw(c:Con)(i:c.sm)(t:Int)(r:Bool)(a:rlB c.ns t=r):bj 117 [c.av,ii t] (DA r):=by
 have d:Z (nav c.ns)=Z c.ns:=by simp
 unfold rlB at a;by_cases b:t<0
 .rw [bu (bq b)]at a;subst a;exact c_ f117 λ_=>zW
 rw[bt (by rw[bp b];decide)]at a;by_cases e:(Z c.ns:Int)<=t
 .rw [bu (bq e)]at a;subst a;exact c_ f117 λ_=>zW
 rw[bt (by rw[bp e];decide)]at a;refine c_ f117 λ_=>?_
 repeat' first|refine pA ?_|exact rfl|refine lA ?_ ?_|intro h
 exact To.cut [1,2,5] 1 rfl rfl rfl rfl (X0 c i t r (Z c.ns) 0 o_ a)
def mB(c:Con)(a:c.sm)(t:Int):bj 117 [c.av,ii t] (DA (rlB c.ns t)):=aDw c a t _ rfl
def aSG(ns:bf)(g:Gan):Bool:=decide (1<=g.id/\g.id<=1073741824/\1<=g.pods/\g.pods<=16)&&(aS g.need&&(decide (1<=g.run/\g.run<=1048576/\0<=g.lev/\g.lev<=3/\0<=g.pref/\g.pref<=g.lev)&&rlB ns g.ten))
def aOD(ns:bf)(g:Gan):Int:=if aSG ns g=O then 1 else 0
def aDz(a b:V3)(r:Bool)(c:cD a b=r):bj 118 [a.av,b.av] (DA r):=by
 unfold cD at c;refine c_ f118 λ_=>?_
 repeat' first
  | (refine gW hE ?_;conv=>whnf)
  | exact c
  | refine aY ?_
  | refine aN ?_
  | refine Aa (λh=>?_) (λh=>?_)
  | refine aJ ?_
  | refine Aj _ (Aa rfl ?_)
  | refine Aa d_ ?_
 all_goals (rw[<-c];simp_all)
def nU(a b:V3):bj 118 [a.av,b.av] (DA (cD a b)):=aDz a b _ rfl
def zB(v:V3):Bool:=v.a==0&&(v.b==0&&(v.c==0&&O))
def tJ(i:Nat)(x:Nod):Prop:=(i=0/\x.p≠ -1)\/(0<i/\(x.p<0\/(i:Int)<=x.p))\/x.w<1\/1000<x.w
instance (i:Nat)(x:Nod):Decidable (tJ i x):=by unfold tJ;infer_instance
def mO(bl:Bool)(i:Nat)(x:Nod):Bool:=if tJ i x then U else if bl=O then aS x.n&&(aS x.b&&(aS x.l&&cD x.l x.n))else zB x.n&&(zB x.b&&zB x.l)
def aHL(c:Con)(i:Nat)(x:Nod)(b:(nav c.ns)[i]? =X x.av)(a:tJ i x):bj 73 [c.av,ii i] (DA U):=by
 unfold tJ at a;refine c_ f73 λ_=>?_
 repeat' first
  | (refine gW hE ?_;conv=>whnf)
  | (refine gW hE ?_;(conv=>whnf);done)
  | exact rfl
  | refine Aj i (Aa rfl ?_)
  | refine Aj _ (Aa b ?_)
  | refine aY ?_
  | refine aN ?_
  | refine aF λh=>?_
  | refine aT λh=>?_
  | refine Aa (λh=>?_) (λh=>?_)
 all_goals (exfalso;simp at *;omega)
def aDV(c:Con)(i:Nat)(x:Nod)(r:(nav c.ns)[i]? =X x.av)(o:¬ tJ i x)(j e d a:Bool)(hl:bj 117 [c.av,ii i] (DA O))
  (k:bj 74 [x.n.av] (DA j)) (q:bj 74 [x.b.av] (DA e)) (m:bj 74 [x.l.av] (DA d))
  (p:bj 118 [x.l.av,x.n.av] (DA a)):bj 73 [c.av,ii i] (DA (j&&(e&&(d&&a)))):=by
 unfold tJ at o;refine c_ f73 λ_=>?_
 repeat' first
  | (refine gW hE ?_;conv=>whnf)
  | exact rfl
  | refine .p hl ?_
  | refine .p k ?_
  | refine .p q ?_
  | refine .p m ?_
  | refine .p p ?_
  | refine Aj i (Aa rfl ?_)
  | refine Aj _ (Aa r ?_)
  | refine aY ?_
  | refine aN ?_
  | refine aF λh=>?_
  | refine aT λh=>?_
  | refine Aa (λh=>?_) (λh=>?_)
 all_goals first
  | (simp only[*,Bz,Cu,Br];done)
  | (exfalso;simp at *;omega)
def YZ(c:Con)(i:Nat)(x:Nod)(d:(nav c.ns)[i]? =X x.av)(a:¬ tJ i x)(hl:bj 117 [c.av,ii i] (DA U)):bj 73 [c.av,ii i] (DA (zB x.n&&(zB x.b&&zB x.l))):=by
 unfold tJ at a;unfold zB;refine c_ f73 λ_=>?_
 repeat' first
  | (refine gW hE ?_;conv=>whnf)
  | exact rfl
  | refine .p hl ?_
  | refine Aj i (Aa rfl ?_)
  | refine Aj _ (Aa d ?_)
  | refine aY ?_
  | refine aN ?_
  | refine aF λh=>?_
  | refine aT λh=>?_
  | refine Aa (λh=>?_) (λh=>?_)
 all_goals first
  | (simp only[*,Bz,Cu,Br];done)
  | (exfalso;simp at *;omega)
def aL1(c:Con)(g:c.sm)(i:Nat)(x:Nod)(d:(nav c.ns)[i]? =X x.av):bj 73 [c.av,ii i] (DA (mO (rlB c.ns i) i x)):=by
 have hl:=mB c g i;unfold mO;by_cases a:tJ i x
 .rw [bu a];exact aHL c i x d a
 .rw [bt a];cases e:rlB c.ns i with
  | true=>
   rw[e]at hl;rw[bu rfl];exact aDV c i x d a _ _ _ _ hl (uN x.n) (uN x.b) (uN x.l) (nU x.l x.n)
  | false=>
   rw[e]at hl;rw[bt d_];exact YZ c i x d a hl
def DU(x:Hos):Prop:=x.f<0\/100<x.f\/x.b<0\/100<x.b\/x.r<0\/100<x.r
instance (x:Hos):Decidable (DU x):=by unfold DU;infer_instance
def jZ(x:Hos):Bool:=if DU x then U else aS x.c
def jW(ns:bf):Nat->bf->Bool
 | _,[]=>O
 | i,x::r=>if mO (rlB ns i) i x=O then jW ns (i+1) r else U
def yX(c:Con):Prop:=(1<=Z c.ns/\Z c.ns<=12)/\(1<=Z c.hs/\Z c.hs<=24)/\(1<=c.half/\c.half<=1048576)/\0<=c.age/\c.age<=1048576
instance (c:Con):Decidable (yX c):=by unfold yX;infer_instance
def bL(c:Con):Int:=if yX c then(if jW c.ns 0 c.ns=O then(if c.hs.all jZ=O then 0 else 2)else 2)else 2
def WI(c:Con)(l:c.sm)(r:Int):∀(m i:Nat),i+m=Z c.hs->(if(c.hs.drop i).all jZ=O then(0:Int)else 2)=r->
  To E f36 (.pure (Io (ii r))) (G0 (stk f36 1) [(1,G2 0 0),(4,ii i)] [Do 30 c.cs]):=by
 have g:Z (hav c.hs)=Z c.hs:=by simp
 have h1:=l.hs;intro m;induction m with
 | zero=>
  intro i j a;rw[Ae o_]at a;have a:0=r:=a;subst a;exact tA
 | succ m e=>
  intro i j a;have d:i<Z c.hs:=o_;rw[Ac d,Hw]at a;have get:=nC d;generalize c.hs[i]=x at a get;have e:=e (i+1) o_;have k:=uN x.c;unfold jZ at a;generalize aS x.c=b at k a;by_cases f:DU x
  .rw [bu f]at a;have a:2=r:=a;subst a;unfold DU at f;refine gV ?_;refine aT λh=>?_
   repeat' first
    | (refine gN hE ?_;conv=>whnf)
    | exact rfl
    | refine Aj i (Aa rfl ?_)
    | refine Aj _ (Aa get ?_)
    | refine aY ?_
    | refine aN ?_
    | refine aF λh=>?_
    | refine aT λh=>?_
    | refine Aa (λh=>?_) (λh=>?_)
   all_goals (exfalso;simp at *;omega)
  .rw [bt f]at a;unfold DU at f;cases b with
   | false=>
    have a:2=r:=a;subst a;exact tA
   | true=>
    have e:=e a;exact tA
def WH(c:Con)(f:c.sm)(r:Int):∀(m i:Nat),i+m=Z c.ns->(if jW c.ns i (c.ns.drop i)=O then(if c.hs.all jZ=O then(0:Int)else 2)else 2)=r->
  DE E f36 (ii r) [(1,G2 0 0),(3,ii i)] [Do 30 c.cs]:=by
 have g:Z (nav c.ns)=Z c.ns:=by simp
 have h1:=f.ns;intro m;induction m with
 | zero=>
  intro i j a;rw[Ae o_]at a;have a:(if c.hs.all jZ=O then(0:Int)else 2)=r:=a;refine gV ?_;refine aF λh=>?_
  repeat' first|refine pA ?_|exact rfl|refine lA ?_ ?_|intro h
  exact To.cut [1,4] 1 rfl rfl rfl rfl (WI c f r (Z c.hs) 0 o_ a)
 | succ m e=>
  intro i j a;have d:i<Z c.ns:=o_;rw[Ac d]at a;have k:=aL1 c f i _ (fL d);unfold jW at a;have e:=e (i+1) o_;generalize mO (rlB c.ns i) i c.ns[i]=b at a k;cases b with
  | false=>
   have a:2=r:=a;subst a;exact tA
  | true=>
   rw[bu (show O=O from rfl)]at a;have e:=e a;exact tA
def check_any(c:Con)(e:c.sm)(r:Int)(a:bL c=r):bj 36 [c.av] (ii r):=by
 have i:Z (nav c.ns)=Z c.ns:=by simp
 have d:Z (hav c.hs)=Z c.hs:=by simp
 unfold bL at a;by_cases b:yX c
 .rw [bu b]at a;unfold yX at b;refine c_ f36 λ_=>?_
  repeat' first|refine pA ?_|exact rfl|refine lA ?_ ?_|intro h
  exact To.cut [1,3] 1 rfl rfl rfl rfl (WH c e r (Z c.ns) 0 o_ a)
 .rw [bt b]at a;subst a;unfold yX at b;refine c_ f36 λ_=>?_
  repeat' first
   | (refine gN hE ?_;conv=>whnf)
   | exact rfl
   | refine aY ?_
   | refine aN ?_
   | refine aF λh=>?_
   | refine aT λh=>?_
   | refine Aa (λh=>?_) (λh=>?_)
  all_goals (exfalso;simp at *;omega)
def check_ok(c:Con)(a:c.sm):bj 36 [c.av] (ii (bL c)):=check_any c a _ rfl
def aQE(n:Nat)(l:ax):Bool:=l.all λh=>decide (0<=h/\h<(n:Int))
def aRE(c:Con)(now:Int)(x:Rn):Prop:=aOD c.ns x.g=0\/x.st<0\/now<x.st\/(Z x.hs:Int)≠x.g.pods
instance (c:Con)(now:Int)(x:Rn):Decidable (aRE c now x):=by unfold aRE;infer_instance
def aTF(c:Con)(now:Int)(x:Rn):Bool:=if aRE c now x then U else aQE (Z c.hs) x.hs
def aRF(c:Con)(now:Int)(l:a7):Prop:=bL c≠0\/32<Z l\/now<0\/1099511627776<now
instance (c:Con)(now:Int)(l:a7):Decidable (aRF c now l):=by unfold aRF;infer_instance
def aT2(c:Con)(now:Int)(l:a7):Int:=if aRF c now l then 0 else if l.all (aTF c now)=O then 1 else 0
abbrev St(l:ax):Prop:=l.Pairwise (· < ·)
def IL{n x:Int}:∀{l:ax},x∈sZ n l↔x=n\/x∈l
 | []=>by simp[sZ]
 | y::r=>by
  have a:=IL (n:=n) (x:=x) (l:=r);unfold sZ;split
  .simp only[Az,a];constructor
   .exact zqha10
   .exact zqha10
  .split
   .rename_i h;subst h;simp only[Az];constructor
    .rintro (h|h)
     .exact .inl h
     .exact .inr (.inr h)
    .rintro (h|h|h)
     .exact .inl h
     .exact .inl h
     .exact .inr h
   .simp only[Az]
def aBO{n:Int}:∀{l:ax},St l->St (sZ n l)
 | [],_=>by simp[sZ]
 | y::r,h=>by
  have a:=Bt.1 h;unfold sZ;split
  .rename_i b;refine Bt.2 ⟨λz hz=>?_,aBO a.2⟩;rcases IL.1 hz with rfl|hz
   .exact b
   .exact a.1 z hz
  .split
   .exact h
   .rename_i h1 c;refine Bt.2 ⟨λz hz=>?_,h⟩;rcases Az.1 hz with rfl|hz
    .omega
    .have:=a.1 z hz;omega
def aHc{now:Int}:∀{l:a7} {out:ax},St out->St (rE now l out)
 | [],_,h=>h
 | x::r,out,h=>by
  unfold rE;split
  .exact aHc h
  .exact aHc (aBO h)
def YG{now n:Int}:∀{l:a7} {out:ax},n∈rE now l out↔n∈out\/∃x∈l,dQ x=n/\now<n
 | [],out=>by simp[rE]
 | x::r,out=>by
  unfold rE;split
  .rename_i h;rw[YG (l:=r)];constructor
   .rintro (h1|⟨y,a,h1⟩)
    .exact .inl h1
    .exact .inr ⟨y,Bb _ a,h1⟩
   .rintro (h1|⟨y,a,h1,b⟩)
    .exact .inl h1
    .rcases Az.1 a with rfl|a
     .omega
     .exact .inr ⟨y,a,h1,b⟩
  .rename_i h;rw[YG (l:=r),IL];constructor
   .rintro ((h1|h1)|⟨y,a,h1⟩)
    .exact .inr ⟨x,by simp,h1.symm,by omega⟩
    .exact .inl h1
    .exact .inr ⟨y,Bb _ a,h1⟩
   .rintro (h1|⟨y,a,h1,b⟩)
    .exact .inl (.inr h1)
    .rcases Az.1 a with rfl|a
     .exact .inl (.inl h1.symm)
     .exact .inr ⟨y,a,h1,b⟩
def NE{n:Int}:∀{l:ax} {i:Nat},0<=EI n l i↔n∈l
 | [],i=>by simp[EI]
 | x::r,i=>by
  unfold EI;split
  .rename_i h;have:x=n:=by simpa using h
   simp[this]
  .rename_i h;have:¬ x=n:=by simpa using h
   rw[NE (l:=r),Az];constructor
   .exact .inr
   .rintro (h|h)
    .exact bv h.symm this
    .exact h
theorem aBZ{l:ax}{n:Int}:has l n=O↔n∈l:=by unfold has;rw[bo,NE]
def MN{now n:Int}:∀{l:a7} {ks:ax},n∈tQ now l ks↔n∈ks\/∃x∈l,dQ x=n/\now<n
 | [],ks=>by simp[tQ]
 | x::r,ks=>by
  unfold tQ;rw[MN (l:=r)];split
  .grind
  grind[aBZ,bq]
def vU{now:Int}:∀{l:a7} {ks:ax},ks.Nodup->(tQ now l ks).Nodup
 | [],_,h=>h
 | x::r,ks,h=>by
  unfold tQ;split
  .rename_i a;refine vU ?_;simp only[Bool.and_eq_true,Bool.not_eq_true']at a;have b:dQ x∉ks:=λhm=>by grind[aBZ]
   grind
  .exact vU h
def aDd{l:ax}{n:Int}:n∈yG l↔n∈l:=(Lg l _).mem_iff
def aFT{l:ax}(h:l.Nodup):St (yG l):=by have h1:(yG l).Pairwise (λa b=>decide (a<=b)=O):=List.pairwise_mergeSort (λa b c h1 d=>by simp at *;omega) (λa b=>by simp;omega) l;have d:(yG l).Nodup:=(Lg l _).nodup_iff.2 h;exact(h1.and d).imp λ⟨a,b⟩=>by simp at a;omega
def aOv:∀{a b:ax},St a->St b->(∀x,x∈a↔x∈b)->a=b
 | [],[],_,_,_=>rfl
 | [],y::s,_,_,h=>bv ((h y).2 s_) s_
 | x::r,[],_,_,h=>bv ((h x).1 s_) s_
 | x::r,y::s,ha,hb,h=>by
  have d:=Bt.1 ha;have c:=Bt.1 hb;have e:x=y:=by
   rcases Az.1 ((h x).1 s_)with e|h1
   .exact e
   .rcases Az.1 ((h y).2 s_)with e|f
    .exact e.symm
    .have:=c.1 x h1;have:=d.1 y f;omega
  subst e;rw[aOv d.2 c.2 λz=>?_];constructor
  .intro hz;rcases Az.1 ((h z).1 (Bb _ hz))with rfl|h1
   .have:=d.1 z hz;omega
   .exact h1
  .intro hz;rcases Az.1 ((h z).2 (Bb _ hz))with rfl|h1
   .have:=c.1 z hz;omega
   .exact h1
def VL(l:a7)(now:Int):BX l now=rE now l []:=by refine aOv (aFT (vU s_)) (aHc s_) λx=>?_;unfold BX;rw[aDd,MN,YG]
def YH(now:Int):∀(l:a7) (out:ax),Z (rE now l out)<=Z out+Z l
 | [],out=>by simp[rE]
 | x::r,out=>by
  unfold rE;split
  .have:=YH now r out;simp only[Al];omega
  .have:=YH now r (sZ (dQ x) out);have:=US (dQ x) out;simp only[Al];omega
def aEu(l:a7)(now:Int):Z (BX l now)<=Z l:=by rw[VL];have:=YH now l [];simpa using this
end Go.Proofs.YtenkdioaefckoaaGreatDoor
