/-
  What fits where: quotas, ledgers, hosts, placing, gangs, configurations, as walks.
-/
import Derived.Test.YtpomiadgghchnaaGreatProg
import Derived.Shelf.Sort.Plain
import Derived.Shelf.Slices.In.SortNone
import Derived.Test.YtpomiadgghchnaaGreatWE
set_option linter.all false
set_option maxHeartbeats 1000000
open And renaming intro->Ac
open Bool renaming and_false->Ci,false_and->Dz,false_eq_true->Db,true_and->Cb
open Exists renaming intro->Al
open Int renaming tdiv->Hb,toNat_natCast->Ck
open List renaming all_cons->Fk,append_assoc->Ai,append_nil->Bg,drop->Hi,drop_eq_getElem_cons->Ad,drop_eq_nil_of_le->Ae,drop_zero->Bt,filter_cons_of_neg->Et,filter_cons_of_pos->Eu,flatMap_cons->Ie,foldl_cons->Av,getElem?_append_right->Aj,getElem?_eq_getElem->Aa,getElem?_eq_none->Bb,getElem?_eq_some_iff->Ab,getElem?_map->Bi,getElem_mem->Bl,length->Lj,length_append->Aw,length_cons->Bo,length_filter_le->Gd,length_map->Cj,length_mergeSort->Mk,length_nil->Fz,length_replicate->Gy,map_append->Bu,map_cons->Bk,map_map->Fg,map_set->Gq,mem_append->Ba,mem_cons->Bd,mem_filter->Dx,mem_map->Bx,mem_or_eq_of_mem_set->Di,nil_append->Bp,pairwise_cons->Cv,range->Dh,range'->Mp,range'_succ->Lt,range_eq_range'->Kh,range_succ->Kr,replicate->Ah,set_append_right->Hz,take->Hw,take_append_of_le_length->Dm,take_of_length_le->Cl
open List.cons renaming injEq->Ko
open Nat renaming ble->Ft,div_le_self->Dk,le_refl->Au,le_trans->Da,mul_le_mul->Fl,zero_le->Cr
open Option renaming map_eq_some_iff->Co
open Or renaming inl->Fm
namespace Go.Proofs.YtpomiadgghchnaaGreat
open Go Go.AW Go.Proofs
noncomputable def T0:Tab:=[
 (3,.mk (.int .i64) 1 false (.int .i64 0)),
 (4,.mk .bool 1 false (.bool false)),
 (34,.mk (.arr 3 1 false) 3 true (.agg [.int .i64 0,.int .i64 0,.int .i64 0])),
 (26,.mk (.strct [(0,1,false),(1,1,false),(2,1,false),(3,1,false)]) 4 true (.agg [.slice 11 [] .nil,.slice 6 [] .nil,.int .i64 0,.int .i64 0])),
 (23,.mk (.slc 104 11 88) 1 false (.slice 11 [] .nil)),
 (104,.mk (.strct [(0,1,false),(1,1,false),(2,3,true),(5,3,true),(8,3,true)]) 11 true (.agg [.int .i64 0,.int .i64 0,.int .i64 0,.int .i64 0,.int .i64 0,.int .i64 0,.int .i64 0,.int .i64 0,.int .i64 0,.int .i64 0,.int .i64 0])),
 (47,.mk (.slc 3 1 8) 1 false (.slice 1 [] .nil)),
 (127,.mk (.slc 34 3 24) 1 false (.slice 3 [] .nil)),
 (36,.mk (.strct [(0,1,false),(1,1,false),(2,1,false),(3,3,true),(6,1,false),(7,1,false),(8,1,false)]) 9 true (.agg [.int .i64 0,.int .i64 0,.int .i64 0,.int .i64 0,.int .i64 0,.int .i64 0,.int .i64 0,.int .i64 0,.int .i64 0])),
 (28,.mk (.slc 53 14 128) 1 false (.slice 14 [] .nil)),
 (53,.mk (.strct [(0,9,true),(9,1,false),(10,1,false),(11,1,false),(12,1,false),(13,1,false)]) 14 true (.agg [.int .i64 0,.int .i64 0,.int .i64 0,.int .i64 0,.int .i64 0,.int .i64 0,.int .i64 0,.int .i64 0,.int .i64 0,.int .i64 0,.int .i64 0,.int .i64 0,.int .i64 0,.slice 1 [] .nil])),
 (24,.mk (.slc 106 6 48) 1 false (.slice 6 [] .nil)),
 (106,.mk (.strct [(0,1,false),(1,1,false),(2,1,false),(3,3,true)]) 6 true (.agg [.int .i64 0,.int .i64 0,.int .i64 0,.int .i64 0,.int .i64 0,.int .i64 0])),
 (5,.mk (.int .u8) 1 false (.int .u8 0)),
 (9,.mk .str 1 false (.str [])),
 (20,.mk .iface 1 false .nilif),
 (22,.mk (.slc 38 15 152) 1 false (.slice 15 [] .nil)),
 (27,.mk (.slc 102 11 88) 1 false (.slice 11 [] .nil)),
 (29,.mk (.slc 78 1 8) 1 false (.slice 1 [] .nil)),
 (31,.mk (.strct [(0,4,true),(4,1,false),(5,1,false),(6,1,false),(7,1,false),(8,1,false)]) 9 true (.agg [.slice 11 [] .nil,.slice 6 [] .nil,.int .i64 0,.int .i64 0,.int .i64 0,.int .i64 0,.slice 11 [] .nil,.slice 14 [] .nil,.slice 1 [] .nil])),
 (38,.mk (.strct [(0,1,false),(1,4,true),(5,9,true),(14,1,false)]) 15 true (.agg [.int .i64 0,.slice 11 [] .nil,.slice 6 [] .nil,.int .i64 0,.int .i64 0,.int .i64 0,.int .i64 0,.int .i64 0,.int .i64 0,.int .i64 0,.int .i64 0,.int .i64 0,.int .i64 0,.int .i64 0,.int .i64 0])),
 (40,.mk (.slc 55 3 24) 1 false (.slice 3 [] .nil)),
 (43,.mk (.int .i64) 1 false (.int .i64 0)),
 (55,.mk (.strct [(0,1,false),(1,1,false),(2,1,false)]) 3 true (.agg [.int .i64 0,.int .i64 0,.int .i64 0])),
 (65,.mk .other 1 false .nilfunc),
 (69,.mk (.slc 43 1 8) 1 false (.slice 1 [] .nil)),
 (74,.mk (.arr 2 1 false) 2 true (.agg [.int .i64 0,.int .i64 0])),
 (77,.mk (.int .u64) 1 false (.int .u64 0)),
 (78,.mk (.int .u64) 1 false (.int .u64 0)),
 (102,.mk (.strct [(0,9,true),(9,1,false),(10,1,false)]) 11 true (.agg [.int .i64 0,.int .i64 0,.int .i64 0,.int .i64 0,.int .i64 0,.int .i64 0,.int .i64 0,.int .i64 0,.int .i64 0,.int .i64 0,.int .i64 0])),
 (110,.mk .other 1 false .nilfunc),
 (118,.mk (.int .u32) 1 false (.int .u32 0)),
 (138,.mk (.strct [(0,4,true)]) 4 true (.agg [.slice 11 [] .nil,.slice 6 [] .nil,.int .i64 0,.int .i64 0])),
 (140,.mk (.ptr 31) 1 false .nilptr),
 (142,.mk (.strct [(0,9,true)]) 9 true (.agg [.int .i64 0,.int .i64 0,.int .i64 0,.int .i64 0,.int .i64 0,.int .i64 0,.int .i64 0,.int .i64 0,.int .i64 0])),
 (145,.mk (.strct [(0,1,false)]) 1 true (.agg [.int .i64 0])),
 (147,.mk (.strct [(0,1,false)]) 1 true (.agg [.int .i64 0])),
 (149,.mk (.strct [(0,1,false)]) 1 true (.agg [.int .i64 0])),
 (152,.mk (.strct []) 0 true (.agg [])),
 (160,.mk .other 1 false .nilfunc),
 (163,.mk .other 1 false .nilfunc),
 (177,.mk .iface 1 false .nilif),
 (196,.mk (.ptr 198) 1 false .nilptr),
 (198,.mk (.strct [(0,9,true),(9,1,false),(10,1,false),(11,1,false)]) 12 true (.agg [.slice 11 [] .nil,.slice 6 [] .nil,.int .i64 0,.int .i64 0,.int .i64 0,.int .i64 0,.slice 11 [] .nil,.slice 14 [] .nil,.slice 1 [] .nil,.slice 3 [] .nil,.bool false,.int .i64 0])),
 (205,.mk (.strct [(0,9,true),(9,1,false),(10,1,false)]) 11 true (.agg [.int .i64 0,.int .i64 0,.int .i64 0,.int .i64 0,.int .i64 0,.int .i64 0,.int .i64 0,.int .i64 0,.int .i64 0,.int .i64 0,.int .i64 0])),
 (217,.mk (.int .u64) 1 false (.int .u64 0)),
 (226,.mk (.ptr 43) 1 false .nilptr),
 (233,.mk (.ptr 235) 1 false .nilptr),
 (235,.mk (.strct [(0,9,true),(9,1,false),(10,1,false),(11,1,false)]) 12 true (.agg [.slice 11 [] .nil,.slice 6 [] .nil,.int .i64 0,.int .i64 0,.int .i64 0,.int .i64 0,.slice 11 [] .nil,.slice 14 [] .nil,.slice 1 [] .nil,.slice 3 [] .nil,.bool false,.int .i64 0])),
 (241,.mk (.arr 16 1 false) 16 true (.agg [.int .u64 0,.int .u64 0,.int .u64 0,.int .u64 0,.int .u64 0,.int .u64 0,.int .u64 0,.int .u64 0,.int .u64 0,.int .u64 0,.int .u64 0,.int .u64 0,.int .u64 0,.int .u64 0,.int .u64 0,.int .u64 0])),
 (267,.mk .iface 1 false .nilif),
 (270,.mk .other 1 false .nilfunc),
 (272,.mk (.ptr 336) 1 false .nilptr),
 (277,.mk .other 1 false .nilfunc),
 (293,.mk (.strct [(0,1,false)]) 1 true (.agg [.int .i64 0])),
 (295,.mk .other 1 false .nilfunc),
 (297,.mk .other 1 false .nilfunc),
 (300,.mk .other 1 false .nilfunc),
 (302,.mk .other 1 false .nilfunc),
 (303,.mk .other 1 false .nilfunc),
 (304,.mk .other 1 false .nilfunc),
 (305,.mk (.ptr 308) 1 false .nilptr),
 (308,.mk (.strct [(0,9,true)]) 9 true (.agg [.slice 11 [] .nil,.slice 6 [] .nil,.int .i64 0,.int .i64 0,.int .i64 0,.int .i64 0,.slice 11 [] .nil,.slice 14 [] .nil,.slice 1 [] .nil])),
 (330,.mk (.slc 47 1 24) 1 false (.slice 1 [] .nil)),
 (333,.mk .other 1 false .nilfunc),
 (334,.mk (.mp 3 34) 1 false .nilmap),
 (336,.mk (.strct [(0,4,true),(4,1,false)]) 5 true (.agg [.slice 11 [] .nil,.slice 6 [] .nil,.int .i64 0,.int .i64 0,.nilmap])),
 (337,.mk .other 1 false .nilfunc),
 (338,.mk .other 1 false .nilfunc),
 (369,.mk (.strct [(0,1,false)]) 1 true (.agg [.nilfunc])),
 (373,.mk (.mp 375 3) 1 false .nilmap),
 (375,.mk (.strct [(0,1,false),(1,1,false),(2,1,false),(3,1,false)]) 4 true (.agg [.int .i64 0,.int .i64 0,.int .i64 0,.int .i64 0])),
 (388,.mk (.ptr 390) 1 false .nilptr),
 (390,.mk (.strct [(0,1,false),(1,1,false)]) 2 true (.agg [.slice 14 [] .nil,.nilfunc])),
 (393,.mk (.slc 395 1 8) 1 false (.slice 1 [] .nil)),
 (395,.mk (.arr 1 1 false) 1 true (.agg [.int .i64 0])),
 (397,.mk .other 1 false .nilfunc),
 (440,.mk (.strct [(0,1,false)]) 1 true (.agg [.str []]))]
def F0:List (Nat×Nat):=[(33,3),(34,3),(35,9),(36,9),(103,11),(104,11),(105,6),(106,6),(394,1),(395,1),(374,4),(375,4),(101,11),(102,11),(205,11),(55,3),(54,3),(50,2),(49,2)]
def M0:aBO:=[(205,"tithebarn/queue.id",422),(205,"tithebarn/queue.seq",423)]
noncomputable def E:Env:={P:=Tryz.prog,T:=T0,mt:=M0,fl:=F0,own:=[],rws:=[],bl:=[],df:=[]}
theorem hE:EnvOK E where
 mix:=by kernel_rfl
 tab:=MY (by kernel_rfl) (by kernel_rfl)
 mth:=xP.cons (fun v w=>by kernel_rfl) (xP.cons (fun v w=>by kernel_rfl) xP.nil)
 fl:=LE (by kernel_rfl)
noncomputable def Er (l b:List Nat):Env:={E with rws:=l,bl:=b}
theorem hEr (l b:List Nat):EnvOK (Er l b):=⟨hE.mix,hE.tab,hE.mth,hE.fl⟩
noncomputable def Eo (l b:List Nat):Env:={E with own:=l,bl:=b}
theorem hEo (l b:List Nat):EnvOK (Eo l b):=⟨hE.mix,hE.tab,hE.mth,hE.fl⟩
noncomputable def Ed (df:List (Nat×List AVal)):Env:={E with df:=df}
theorem hEd (df:List (Nat×List AVal)):EnvOK (Ed df):=⟨hE.mix,hE.tab,hE.mth,hE.fl⟩
noncomputable def Ex (o r b:List Nat):Env:={E with own:=o,rws:=r,bl:=b}
theorem hEx (o r b:List Nat):EnvOK (Ex o r b):=⟨hE.mix,hE.tab,hE.mth,hE.fl⟩
noncomputable def El (l:Nat) (o r b:List Nat):Env:={Ex o r b with rd:=some l}
theorem hEl (l:Nat) (o r b:List Nat):EnvOK (El l o r b):=⟨hE.mix,hE.tab,hE.mth,hE.fl⟩
structure V3 where
 (a b c:Int)
 deriving DecidableEq
structure Nod where
 (p w:Int)
 (n b l:V3)
 deriving DecidableEq
structure Hos where
 (f b r:Int)
 (c:V3)
 deriving DecidableEq
structure Con where
 ns:List Nod
 hs:List Hos
 (half age:Int)
 deriving DecidableEq
structure Gan where
 (id ten pods:Int)
 need:V3
 (run lev pref:Int)
 deriving DecidableEq
abbrev ii (n:Int):AVal:=.int .i64 n
def V3.cs (v:V3):List AVal:=[ii v.a,ii v.b,ii v.c]
def Nod.cs (x:Nod):List AVal:=[ii x.p,ii x.w,ii x.n.a,ii x.n.b,ii x.n.c,ii x.b.a,ii x.b.b,ii x.b.c,ii x.l.a,ii x.l.b,ii x.l.c]
def Nod.av (x:Nod):AVal:=.agg x.cs
def Hos.cs (x:Hos):List AVal:=[ii x.f,ii x.b,ii x.r,ii x.c.a,ii x.c.b,ii x.c.c]
def Hos.av (x:Hos):AVal:=.agg x.cs
abbrev nav (l:List Nod):List AVal:=l.map Nod.av
abbrev hav (l:List Hos):List AVal:=l.map Hos.av
def Con.cs (x:Con):List AVal:=[.slice 11 (nav x.ns) .no,.slice 6 (hav x.hs) .no,ii x.half,ii x.age]
def Con.av (x:Con):AVal:=.agg x.cs
def Gan.cs (x:Gan):List AVal:=[ii x.id,ii x.ten,ii x.pods,ii x.need.a,ii x.need.b,ii x.need.c,ii x.run,ii x.lev,ii x.pref]
def Gan.av (x:Gan):AVal:=.agg x.cs
abbrev iv (l:List Int):List AVal:=l.map ii
def V3.zero:V3:=⟨0,0,0⟩
def V3.av (v:V3):AVal:=.agg v.cs
abbrev vav (l:List V3):List AVal:=l.map V3.av
theorem fQ {l:List Nod} {i:Nat} (h:i<l.length):(nav l)[i]? =some l[i].av:=by simp [nav,h]
theorem uD {l:List Hos} {i:Nat} (h:i<l.length):(hav l)[i]? =some l[i].av:=by simp [hav,h]
theorem dO {l:List Int} {i:Nat} (h:i<l.length):(iv l)[i]? =some (ii l[i]):=by simp [iv,h]
theorem bS {M:Imm} {ob:Hs} {v:Value} {cs:List AVal} (h:Rep M ob v (.agg cs)) (i:Nat) (a:AVal) (ha:cs[i]? =some a):okA a:=by
 obtain ⟨vs,_,hl,hr⟩:=h.agg_inv
 have hlt:i<vs.length:=by rw [hl];exact (Ab.1 ha).1
 exact (hr i _ a (Aa hlt) ha).okA
theorem aA.get {P:Program} {f:FuncId} {args:List AVal} {obs obs':List AObj} {r:Res} (Q:Prop) (hQ:∀ M ob vs,bV M ob vs args->Q) (h:Q->aA P f args obs r obs'):aA P f args obs r obs':=
 fun M ob w vargs hm hr=>h (hQ _ _ _ hr) M ob w vargs hm hr
theorem oL {b:Bool} (h:(!b)=true):b=false:=by cases b<;>first | rfl | cases h
theorem oM {b:Bool} (h:(!b)=false):b=true:=by cases b<;>first | rfl | cases h
structure Rn where
 g:Gan
 (seq at' st fl:Int)
 hs:List Int
 deriving DecidableEq
def Rn.cs (x:Rn):List AVal:=[ii x.g.id,ii x.g.ten,ii x.g.pods,ii x.g.need.a,ii x.g.need.b,ii x.g.need.c,ii x.g.run,ii x.g.lev,ii x.g.pref,ii x.seq,ii x.at',ii x.st,ii x.fl,.slice 1 (iv x.hs) .no]
def Rn.av (x:Rn):AVal:=.agg x.cs
abbrev rav (l:List Rn):=l.map Rn.av
theorem bN {l:List Rn} {i:Nat} (h:i<l.length):(rav l)[i]? =some l[i].av:=by simp [rav,h]
theorem kD {l:List V3} {i:Nat} (h:i<l.length):(vav l)[i]? =some l[i].av:=by simp [vav,h]
theorem aBV {n:Int} (h:9223372036854775807<n) (h2:n<=18446744073709551614):IntKind.wrap .i64 n=n-18446744073709551616:=by
 simp [IntKind.wrap,IntKind.signed,IntKind.bits];omega
theorem aBU {n:Int} (h:n< -9223372036854775808) (h2: -18446744073709551616<=n):IntKind.wrap .i64 n=n+18446744073709551616:=by
 simp [IntKind.wrap,IntKind.signed,IntKind.bits];omega
set_option maxRecDepth 10000
def fK (n m:Int):Int:=min (max n (0-m)) m
theorem fE (n m:Int) (h:0<=m): -m<=fK n m/\fK n m<=m:=by unfold fK;omega
theorem O0 (n m:Int) (h0:0<=m) (h1:m<=1099511627776):aA Tryz.prog 211 [ii n,ii m] [] (.ret (ii (fK n m))) []:=by
 refine cT (E:=E) (fn:=Tryz.f211) (g:=.pure _) fun _=>?_
 exact zW
def iL (x y:Int):Int:=fK (fK x 1099511627776+fK y 1099511627776) 1099511627776
def S9 (x y:Int):Int:=fK (fK x 1099511627776-fK y 1099511627776) 1099511627776
def ZO (x n:Int):Int:=fK (fK x 1099511627776*fK n 1048576) 1099511627776
theorem Q0 (x n:Int): -1152921504606846976<=fK x 1099511627776*fK n 1048576/\fK x 1099511627776*fK n 1048576<=1152921504606846976:=by
 have h1:=fE x 1099511627776 (by decide)
 have h2:=fE n 1048576 (by decide)
 have h3:(fK x 1099511627776*fK n 1048576).natAbs<=1099511627776*1048576:=by
  rw [Int.natAbs_mul]
  exact Fl (by omega) (by omega)
 omega
theorem aE9 (x y:Int):aA Tryz.prog 210 [ii x,ii y] [] (.ret (ii (iL x y))) []:=by
 have h1:=fE x 1099511627776 (by decide)
 have h2:=fE y 1099511627776 (by decide)
 refine cT (E:=E) (fn:=Tryz.f210) (g:=.pure _) fun _=>?_
 repeat' first | (refine gN hE ?_;conv=>whnf) | refine .pure _ [] (O0 _ _ (by decide) (by decide)) ?_ | exact rfl | refine aY ?_ | refine aN ?_ | refine aT fun h=>?_ | refine aF fun h=>?_ | refine ⟨fun h=>?_,fun h=>?_⟩ | refine aJ ?_ | refine ⟨_,rfl,?_⟩ | refine aD ?_ | fail
theorem aCm (x y:Int):aA Tryz.prog 329 [ii x,ii y] [] (.ret (ii (S9 x y))) []:=by
 have h1:=fE x 1099511627776 (by decide)
 have h2:=fE y 1099511627776 (by decide)
 refine cT (E:=E) (fn:=Tryz.f329) (g:=.pure _) fun _=>?_
 repeat' first | (refine gN hE ?_;conv=>whnf) | refine .pure _ [] (O0 _ _ (by decide) (by decide)) ?_ | exact rfl | refine aY ?_ | refine aN ?_ | refine aT fun h=>?_ | refine aF fun h=>?_ | refine ⟨fun h=>?_,fun h=>?_⟩ | refine aJ ?_ | refine ⟨_,rfl,?_⟩ | refine aD ?_ | fail
theorem aDt (x y n:Int):aA Tryz.prog 334 [ii x,ii y,.ptr [ii n]] [] (.ret (ii (ZO x n))) []:=by
 have h1:=Q0 x n
 refine cT (E:=E) (fn:=Tryz.f334) (g:=.pure _) fun _=>?_
 repeat' first | (refine gN hE ?_;conv=>whnf) | refine .pure _ [] (O0 _ _ (by decide) (by decide)) ?_ | exact rfl | refine aY ?_ | refine aN ?_ | refine aT fun h=>?_ | refine aF fun h=>?_ | refine ⟨fun h=>?_,fun h=>?_⟩ | refine aJ ?_ | refine ⟨_,rfl,?_⟩ | refine aD ?_ | fail
def V3.map2 (op:Int->Int->Int) (a b:V3):V3:=⟨op a.a b.a,op a.b b.b,op a.c b.c⟩
theorem SB (f:FuncId) (op:Int->Int->Int) (a b:V3) (h:∀ x y,aA Tryz.prog f [ii x,ii y] [] (.ret (ii (op x y))) []):aA Tryz.prog 209 [a.av,b.av,.func (.func f) [] []] [] (.ret (V3.map2 op a b).av) []:=by
  refine cT (E:=E) (fn:=Tryz.f209) (g:=.pure _) fun _=>?_
  refine gV ?_
  repeat' first
   | (refine gV ?_)
   | refine .pure _ [] (h _ _) ?_
   | exact rfl
   | refine aY ?_
   | refine aN ?_
   | refine aJ ?_
   | refine Al _ (Ac rfl ?_)
   | refine Ac (by decide) ?_
theorem aA8 (f:FuncId) (op:Int->Int->Int) (n:Int) (a b:V3) (h:∀ x y,aA Tryz.prog f [ii x,ii y,.ptr [ii n]] [] (.ret (ii (op x y))) []):aA Tryz.prog 209 [a.av,b.av,.func (.func f) [] [.ptr [ii n]]] [] (.ret (V3.map2 op a b).av) []:=by
  refine cT (E:=E) (fn:=Tryz.f209) (g:=.pure _) fun _=>?_
  refine gV ?_
  repeat' first
   | (refine gV ?_)
   | refine .pure _ [] (h _ _) ?_
   | exact rfl
   | refine aY ?_
   | refine aN ?_
   | refine aJ ?_
   | refine Al _ (Ac rfl ?_)
   | refine Ac (by decide) ?_
def eF (a b:V3):V3:=V3.map2 iL a b
def xS (a b:V3):V3:=V3.map2 S9 a b
def aFN (a:V3) (n:Int):V3:=V3.map2 (fun x _=>ZO x n) a a
theorem iY (a b:V3):aA Tryz.prog 131 [a.av,b.av] [] (.ret (eF a b).av) []:=by
 refine cT (E:=E) (fn:=Tryz.f131) (g:=.pure _) fun _=>?_
 have z6_1:=SB _ iL a b aE9
 exact zW
theorem FT (a b:V3):aA Tryz.prog 273 [a.av,b.av] [] (.ret (xS a b).av) []:=by
 refine cT (E:=E) (fn:=Tryz.f273) (g:=.pure _) fun _=>?_
 have z7_1:=SB _ S9 a b aCm
 exact zW
theorem aB0 (a:V3) (n:Int):aA Tryz.prog 282 [a.av,ii n] [] (.ret (aFN a n).av) []:=by
 refine cT (E:=E) (fn:=Tryz.f282) (g:=.pure _) fun _=>?_
 have z8_1:=aA8 _ (fun x _=>ZO x n) n a a fun x y=>aDt x y n
 exact zW
def cN (a b:V3):Bool:=if decide (b.a<a.a)=true then false else if decide (b.b<a.b)=true then false else if decide (b.c<a.c)=true then false else true
abbrev aGE (n:Int):AVal:=.func (.func 208) [] [.ptr [ii n]]
theorem aGD (x:Nod) (n:Int):aA Tryz.prog 208 [x.av,.ptr [ii n]] [] (.ret (.bool (decide (x.p=n)))) []:=by
 refine cT (E:=E) (fn:=Tryz.f208) (g:=.pure _) fun _=>?_
 exact zW
def findP (n:Int):List Nod->Nat->Int
 | [],_=> -1
 | x::r,i=>if decide (x.p=n)=true then (i:Int) else findP n r (i+1)
noncomputable abbrev aFx:Func:=Tryz.f285
theorem UN (l:List Nod) (n:Int) (hl:((nav l).length:Int)<=9223372036854775807) (r:Int):∀ (m i:Nat),i+m=l.length->findP n (l.drop i) i=r->
  To E aFx (.pure (.ret (ii r))) (.head (stk aFx 0) [(0,.slice 11 (nav l) .no),(1,aGE n),(7,.int .i64 ((nav l).length:Nat)),(8,.int .i64 i)] []):=by
 have hlen:(nav l).length=l.length:=by simp
 intro m
 induction m with
 | zero=>
  intro i hi hr
  rw [Ae (by omega)] at hr
  subst hr
  refine gV ?_
  exact zW
 | succ m ih=>
  intro i hi hr
  have hlt:i<l.length:=by omega
  rw [Ad hlt] at hr
  generalize hx:l[i]=x at hr
  have get:(nav l)[i]? =some x.av:=(fQ hlt).trans (by rw [hx])
  unfold findP at hr
  refine gV ?_
  refine aT fun h=>?_
  repeat' first | (refine gN hE ?_;conv=>whnf) | refine ⟨_,get,?_⟩ | refine .pure _ [] (aGD x n) ?_ | exact rfl | refine aY ?_ | refine aN ?_ | refine aT fun h=>?_ | refine aF fun h=>?_ | refine ⟨fun h=>?_,fun h=>?_⟩ | refine aJ ?_ | refine ⟨_,rfl,?_⟩ | refine aD ?_ | fail
  .have h:decide (x.p=n)=true:=h
   rw [if_pos h] at hr
   rw [<-hr]
  .have h:decide (x.p=n)=false:=h
   rw [if_neg (by rw [h];decide)] at hr
   have z2_1:=ih (i+1) (by omega) hr
   exact zW
theorem aDR (l:List Nod) (n:Int):aA Tryz.prog 285 [.slice 11 (nav l) .no,aGE n] [] (.ret (ii (findP n l 0))) []:=by
 refine cT (E:=E) (fn:=Tryz.f285) (g:=.pure _) fun ho=>?_
 have hl:((nav l).length:Int)<=9223372036854775807:=ho.1
 have z3_1:=UN l n hl _ l.length 0 (by omega) rfl
 exact zW
theorem aDV (l:List Nod) (n:Int):aA Tryz.prog 207 [.slice 11 (nav l) .no,aGE n] [] (.ret (.bool (decide (0<=findP n l 0)))) []:=by
 refine cT (E:=E) (fn:=Tryz.f207) (g:=.pure _) fun _=>?_
 have z4_1:=aDR l n
 exact zW
def aX (ns:List Nod) (n:Int):Bool:=if decide (0<=n)=true then (if decide (n<(ns.length:Int))=true then !decide (0<=findP n ns 0) else false) else false
theorem Z0 (c:Con) (n:Int) (r:Bool) (hr:aX c.ns n=r):aA Tryz.prog 130 [c.av,ii n] [] (.ret (.bool r)) []:=by
 have hlen:(nav c.ns).length=c.ns.length:=by simp
 unfold aX at hr
 refine cT (E:=E) (fn:=Tryz.f130) (g:=.pure _) fun _=>?_
 refine gV ?_
 refine Ac (fun h1=>?_) (fun h1=>?_)
 .have h1:decide (0<=n)=true:=h1
  rw [if_pos h1] at hr
  refine gV ?_
  refine Ac (fun h2=>?_) (fun h2=>?_)
  .have h2:decide (n<((nav c.ns).length:Int))=true:=h2
   rw [hlen] at h2
   rw [if_pos h2] at hr
   repeat' first | (refine gN hE ?_;conv=>whnf) | refine .pure _ [] (aDV c.ns n) ?_ | exact rfl | refine aY ?_ | refine aN ?_ | refine aT fun h=>?_ | refine aF fun h=>?_ | refine ⟨fun h=>?_,fun h=>?_⟩ | refine aJ ?_ | refine ⟨_,rfl,?_⟩ | refine aD ?_ | fail
   rw [<-hr]
  .have h2:decide (n<((nav c.ns).length:Int))=false:=h2
   rw [hlen] at h2
   rw [if_neg (by rw [h2];decide)] at hr
   repeat' first | (refine gN hE ?_;conv=>whnf) | exact rfl | refine aY ?_ | refine aN ?_ | refine aT fun h=>?_ | refine aF fun h=>?_ | refine ⟨fun h=>?_,fun h=>?_⟩ | refine aJ ?_ | refine ⟨_,rfl,?_⟩ | refine aD ?_ | fail
   rw [<-hr]
 .have h1:decide (0<=n)=false:=h1
  rw [if_neg (by rw [h1];decide)] at hr
  repeat' first | (refine gN hE ?_;conv=>whnf) | exact rfl | refine aY ?_ | refine aN ?_ | refine aT fun h=>?_ | refine aF fun h=>?_ | refine ⟨fun h=>?_,fun h=>?_⟩ | refine aJ ?_ | refine ⟨_,rfl,?_⟩ | refine aD ?_ | fail
  rw [<-hr]
theorem kG (c:Con) (n:Int):aA Tryz.prog 130 [c.av,ii n] [] (.ret (.bool (aX c.ns n))) []:=Z0 c n _ rfl
inductive Ylds (P:Program) (l:Nat):List Int->BInv->BInv->Bool->Prop
 | nil (I:BInv):Ylds P l [] I I true
 | stop (x:Int) (r:List Int) (I I':BInv) (h:bK P (.yield l) [ii x] [.bun 0 I] (.ret (.bool false)) [.bun 1 I']):Ylds P l (x::r) I I' false
 | next (x:Int) (r:List Int) (I I1 I2:BInv) (b:Bool) (h:bK P (.yield l) [ii x] [.bun 0 I] (.ret (.bool true)) [.bun 1 I1]) (k:Ylds P l r I1 I2 b):Ylds P l (x::r) I I2 b
def upF (ns:List Nod):Nat->Int->List Int
 | 0,_=>[]
 | f+1,n=>if decide (0<=n)=true then (if h:n.toNat<ns.length then (if decide (n<=(ns[n.toNat]).p)=true then [n] else n::upF ns f (ns[n.toNat]).p) else []) else []
def upL (ns:List Nod) (n:Int):List Int:=upF ns (n.toNat+1) n
noncomputable abbrev aD8:Func:=Tryz.f333
theorem WP (l:Nat) (c:Con) (hl:((nav c.ns).length:Int)<=9223372036854775807) (I':BInv) (b:Bool):∀ (f:Nat) (n:Int),n<(f:Int)->∀ (I:BInv),Ylds Tryz.prog l (upF c.ns f n) I I' b->
  ∃ m g',To E aD8 (.full 2 (.ret (.tup [])) [.cells 3 [m],.bun g' I']) (.head (stk aD8 0) [(0,.func (.yield l) [] []),(1,.ref 0 0),(2,.ptr c.cs)] [.cells 3 [ii n],.bun 1 I]):=by
 have hlen:(nav c.ns).length=c.ns.length:=by simp
 intro f
 induction f with
 | zero=>
  intro n hf I hy
  have h1:¬ 0<=n:=by omega
  cases hy
  refine ⟨ii n,1,?_⟩
  refine gV ?_
  exact zW
 | succ f ih0=>
  intro n hf I hy
  have ih:=fun (p:Int) (hp:¬ n<=p) (I1:BInv) (h1:Ylds Tryz.prog l (upF c.ns f p) I1 I' b)=>ih0 p (by omega) I1 h1
  unfold upF at hy
  by_cases h1:0<=n
  .rw [if_pos (decide_eq_true h1)] at hy
   by_cases h2:n.toNat<c.ns.length
   .rw [dif_pos h2] at hy
    generalize hx:c.ns[n.toNat]=x at hy
    have get:(nav c.ns)[n.toNat]? =some x.av:=(fQ h2).trans (by rw [hx])
    have hn:n=(n.toNat:Int):=by omega
    by_cases h3:n<=x.p
    .rw [if_pos (decide_eq_true h3)] at hy
     cases hy with
     | stop _ _ _ _ hyl=>
      refine ⟨ii n,1,?_⟩
      refine gV ?_
      exact zW
     | next _ _ _ I1 _ _ hyl hk=>
      cases hk
      refine ⟨ii n,1,?_⟩
      refine gV ?_
      exact zW
    .rw [if_neg (by rw [decide_eq_false h3];decide)] at hy
     cases hy with
     | stop _ _ _ _ hyl=>
      refine ⟨ii n,1,?_⟩
      refine gV ?_
      exact zW
     | next _ _ _ I1 _ _ hyl hk=>
      obtain ⟨m,g',hto⟩:=ih x.p (by omega) _ hk
      refine ⟨m,g',?_⟩
      refine gV ?_
      exact zW
   .rw [dif_neg h2] at hy
    cases hy
    refine ⟨ii n,1,?_⟩
    refine gV ?_
    exact zW
  .rw [if_neg (by rw [decide_eq_false h1];decide)] at hy
   cases hy
   refine ⟨ii n,1,?_⟩
   refine gV ?_
   exact zW
theorem S6 (l:Nat) (c:Con) (n:Int) (I I':BInv) (b:Bool) (hl:((nav c.ns).length:Int)<=9223372036854775807) (hy:Ylds Tryz.prog l (upL c.ns n) I I' b):
  ∃ m g',To E aD8 (.full 2 (.ret (.tup [])) [.cells 3 [m],.bun g' I']) (.head (stk aD8 0) [(0,.func (.yield l) [] []),(1,.ref 0 0),(2,.ptr c.cs)] [.cells 3 [ii n],.bun 0 I]):=by
 have hlen:(nav c.ns).length=c.ns.length:=by simp
 unfold upL at hy
 have ih:=fun (p:Int) (hp:¬ n<=p) (I1:BInv) (h1:Ylds Tryz.prog l (upF c.ns n.toNat p) I1 I' b)=>WP l c hl I' b n.toNat p (by omega) I1 h1
 unfold upF at hy
 by_cases h1:0<=n
 .rw [if_pos (decide_eq_true h1)] at hy
  by_cases h2:n.toNat<c.ns.length
  .rw [dif_pos h2] at hy
   generalize hx:c.ns[n.toNat]=x at hy
   have get:(nav c.ns)[n.toNat]? =some x.av:=(fQ h2).trans (by rw [hx])
   have hn:n=(n.toNat:Int):=by omega
   by_cases h3:n<=x.p
   .rw [if_pos (decide_eq_true h3)] at hy
    cases hy with
    | stop _ _ _ _ hyl=>
     refine ⟨ii n,1,?_⟩
     refine gV ?_
     exact zW
    | next _ _ _ I1 _ _ hyl hk=>
     cases hk
     refine ⟨ii n,1,?_⟩
     refine gV ?_
     exact zW
   .rw [if_neg (by rw [decide_eq_false h3];decide)] at hy
    cases hy with
    | stop _ _ _ _ hyl=>
     refine ⟨ii n,1,?_⟩
     refine gV ?_
     exact zW
    | next _ _ _ I1 _ _ hyl hk=>
     obtain ⟨m,g',hto⟩:=ih x.p (by omega) _ hk
     refine ⟨m,g',?_⟩
     refine gV ?_
     exact zW
  .rw [dif_neg h2] at hy
   cases hy
   refine ⟨ii n,0,?_⟩
   refine gV ?_
   exact zW
 .rw [if_neg (by rw [decide_eq_false h1];decide)] at hy
  cases hy
  refine ⟨ii n,0,?_⟩
  refine gV ?_
  exact zW
theorem FZ (l:Nat) (c:Con) (n:Int) (I I':BInv) (b:Bool) (hl:((nav c.ns).length:Int)<=9223372036854775807) (hy:Ylds Tryz.prog l (upL c.ns n) I I' b):∃ m g',aA Tryz.prog 333 [.func (.yield l) [] [],.ref 0 0,.ptr c.cs] [.cells 3 [ii n],.bun 0 I] (.ret (.tup [])) [.cells 3 [m],.bun g' I']:=by
 obtain ⟨m,g',h⟩:=S6 l c n I I' b hl hy
 refine ⟨m,g',?_⟩
 refine cT (E:=E) (fn:=Tryz.f333) (g:=.full 2 _ _) fun _=>?_
 exact zW
theorem PU (c:Con) (n:Int):aA Tryz.prog 280 [c.av,ii n] [] (.ret (.func (.func 333) [] [.ref 0 0,.ptr c.cs])) [.cells 3 [ii n]]:=by
 refine cT (E:=E) (fn:=Tryz.f280) (g:=.full 0 _ _) fun _=>?_
 refine gV ?_
 refine ⟨[0],[1],⟨rfl,rfl⟩,?_⟩
 exact ⟨rfl,rfl⟩
abbrev Led:=List (Int×V3)
def led (L:Led):List (List Int×AVal):=L.map fun p=>([p.1],p.2.av)
def hZ:Led->Int->Option V3
 | [],_=>none
 | (k,v)::r,n=>if k=n then some v else hZ r n
def vS:Led->Int->V3->Led
 | [],n,v=>[(n,v)]
 | (k,w)::r,n,v=>if k=n then (n,v)::r else (k,w)::vS r n v
def BI:Led->Int->Led
 | [],_=>[]
 | (k,w)::r,n=>if k=n then r else (k,w)::BI r n
theorem BE (n:Int):∀ (L:Led),dJ (led L) [n]=(hZ L n).map V3.av
 | []=>rfl
 | (k,v)::r=>by
  have:=BE n r
  simp only [led,Bk,dJ,hZ,Ko,and_true] at this⊢
  split
  .rfl
  .exact this
theorem Q5 (n:Int) (v:V3):∀ (L:Led),xZ (led L) [n] v.av=led (vS L n v)
 | []=>rfl
 | (k,w)::r=>by
  have:=Q5 n v r
  simp only [led,Bk,xZ,vS,Ko,and_true] at this⊢
  split
  .rfl
  .rw [this];rfl
theorem Q6 (n:Int):∀ (L:Led),DG (led L) [n]=led (BI L n)
 | []=>rfl
 | (k,w)::r=>by
  have:=Q6 n r
  simp only [led,Bk,DG,BI,Ko,and_true] at this⊢
  split
  .rfl
  .rw [this];rfl
def oN (L:Led) (n:Int):V3:=(hZ L n).getD V3.zero
def isZ (v:V3):Bool:=(v.a==0)&&((v.b==0)&&((v.c==0)&&true))
def KM (L:Led) (n:Int) (v:V3):Led:=if isZ v=true then BI L n else vS L n v
abbrev DI (c:Con):List AVal:=[.slice 11 (nav c.ns) .no,.slice 6 (hav c.hs) .no,ii c.half,ii c.age,.mref 1]
theorem aC1 (c:Con) (n:Int) (v:V3) (L L':Led) (hL:KM L n v=L'):aA Tryz.prog 281 [.ref 0 0,ii n,v.av] [.cells 336 (DI c),.mp false (led L)] (.ret (.tup [])) [.cells 336 (DI c),.mp false (led L')]:=by
 unfold KM at hL
 refine cT (E:=E) (fn:=Tryz.f281) (g:=.full 2 _ _) fun _=>?_
 refine gV ?_
 refine Ac (fun h1=>?_) (fun h1=>?_)
 .have h1:isZ v=true:=h1
  rw [if_pos h1] at hL
  refine gV ?_
  refine ⟨[],[0,1],⟨rfl,rfl⟩,?_⟩
  refine ⟨rfl,?_⟩
  show [AObj.cells _ _,AObj.mp false (DG (led L) [n])]=_
  rw [Q6,hL]
 .have h1:isZ v=false:=h1
  rw [if_neg (by rw [h1];decide)] at hL
  refine gV ?_
  refine ⟨[],[0,1],⟨rfl,rfl⟩,?_⟩
  refine ⟨rfl,?_⟩
  show [AObj.cells _ _,AObj.mp false (xZ (led L) [n] v.av)]=_
  rw [Q5,hL]
theorem put_ok (c:Con) (n:Int) (v:V3) (L:Led):aA Tryz.prog 281 [.ref 0 0,ii n,v.av] [.cells 336 (DI c),.mp false (led L)] (.ret (.tup [])) [.cells 336 (DI c),.mp false (led (KM L n v))]:=aC1 c n v L _ rfl
theorem zK {α:Type} {P:Program} {l:Nat} (F:α->BInv) (st:α->Int->α) (h:∀ a x,bK P (.yield l) [ii x] [.bun 0 (F a)] (.ret (.bool true)) [.bun 1 (F (st a x))]):∀ (xs:List Int) (a:α),Ylds P l xs (F a) (F (xs.foldl st a)) true
 | [],a=>.nil _
 | x::r,a=>.next x r _ _ _ _ (h a x) (zK F st h r (st a x))
def wJ (v:V3) (L:Led) (x:Int):Led:=KM L x (eF (oN L x) v)
noncomputable abbrev aEg:Func:=Tryz.f203
def aI7 (c:Con):List (Nat×AVal):=[(4,.ref 2 0),(6,.ref 3 0),(7,.ref 4 0),(22,.func (.func 333) [] [.ref 5 0,.ptr c.cs])]
def SL (c:Con) (v:V3) (L:Led) (o:AObj):List AObj:=[.cells 336 (DI c),.mp false (led L),.cells 272 [.ref 0 0],.cells 34 v.cs,.cells 160 [.func (.func 131) [] []],.dead,o]
theorem aBq (c:Con) (v:V3) (L:Led) (x:Int) (l:Nat) (R:Loop) (hr:R.state= .ready):
  To (El l [] [] []) aEg (.keep 7 (.ret (.bool true)) (SL c v (wJ v L x) (.bun 0 (bP l {R with state:=.busy})))) (.code [.code (rfA aEg),.beginR,.code (rfB aEg)] (gK (aI7 c) 23 (ii x)) (SL c v L (.bun 0 (bP l R)))):=by
 refine gV ?_
 refine To.beginR (k:=6) (gg:=0) rfl rfl hr ?_
 have hf:=BE x L
 unfold wJ oN
 cases hv:hZ L x with
 | none=>
  rw [hv] at hf
  have hf:dJ (led L) [x]=none:=hf
  refine gV ?_
  refine ⟨none,hf,?_⟩
  refine gV ?_
  refine .pure _ [] (iY V3.zero v) ?_
  refine gV ?_
  refine .sole rfl (.eff [] [0,1] _ _ rfl (put_ok c x _ L) ?_)
  exact zW
 | some u=>
  rw [hv] at hf
  have hf:dJ (led L) [x]=some u.av:=hf
  refine gV ?_
  refine ⟨some u.av,hf,?_⟩
  refine gV ?_
  refine .pure _ [] (iY u v) ?_
  refine gV ?_
  refine .sole rfl (.eff [] [0,1] _ _ rfl (put_ok c x _ L) ?_)
  exact zW
theorem PB (c:Con) (t:Int) (v:V3) (L L':Led) (e:Int) (hb:aX c.ns t=true->L'=(upL c.ns t).foldl (wJ v) L/\e=0) (hn:aX c.ns t=false->L'=L/\e=3) (hl:((nav c.ns).length:Int)<=9223372036854775807):
  aA Tryz.prog 203 [.ref 0 0,ii t,v.av,.func (.func 131) [] []] [.cells 336 (DI c),.mp false (led L)] (.ret (ii e)) [.cells 336 (DI c),.mp false (led L')]:=by
 refine cT (E:=E) (fn:=Tryz.f203) (g:=.full 2 _ _) fun _=>?_
 refine gV ?_
 refine .pure _ [] (kG c t) ?_
 refine gV ?_
 refine Ac (fun h1=>?_) (fun h1=>?_)
 .have h1:aX c.ns t=false:=oL h1
  obtain ⟨rfl,rfl⟩:=hn h1
  refine gV ?_
  refine ⟨[],[0,1],⟨rfl,rfl⟩,⟨rfl,rfl⟩⟩
 .have h1:aX c.ns t=true:=oM h1
  obtain ⟨rfl,rfl⟩:=hb h1
  refine gV ?_
  refine .pure _ [.cells 3 [ii t]] (PU c t) ?_
  refine gV ?_
  refine To.cutC [4,6,7,22] 6 rfl rfl rfl rfl ?_
  refine To.range [5] rfl rfl (fun _ _=>by rfl) rfl (fun _ _=>rfl) rfl fun l ob0 R _ hR=>?_
  obtain ⟨m,g',hup⟩:=FZ l c t _ _ true hl (zK (P:=Tryz.prog) (l:=l) (fun L=>iV ob0 (aI7 c) R (SL c v L (.bun 0 (bP l R)))) (wJ v) (fun L x=>fY (E:=Ex [] [] []) (fn:=aEg) (k:=6) (n:=7) (p:=23) (gg:=0) (L':=SL c v (wJ v L x) (.bun 0 (bP l {R with state:=.busy}))) (b:=true) hR.params hR.ready hR.pend hR.assign hR.body hR.size rfl rfl rfl rfl rfl rfl rfl fun _=>aBq c v L x l R hR.ready) (upL c.ns t) L)
  refine ⟨_,true,_,[.cells 3 [m]],g',hup,rfl,rfl,?_⟩
  refine gV ?_
  refine ⟨[],[0,1],⟨rfl,rfl⟩,⟨rfl,rfl⟩⟩
structure Con.sm (c:Con):Prop where
 ns:c.ns.length<=1048576
 hs:c.hs.length<=1048576
theorem aGN (c:Con) (hc:c.sm):aA Tryz.prog 202 [c.av] [] (.ret (.ref 0 0)) [.cells 336 (DI c),.mp false (led [])]:=by
 have h1:=hc.ns
 have hlen:(nav c.ns).length=c.ns.length:=by simp
 refine cT (E:=E) (fn:=Tryz.f202) (g:=.full 0 _ _) fun _=>?_
 refine gV ?_
 refine Ac (Ac (by simp only [maxLen];omega) (by omega)) ?_
 refine gV ?_
 refine ⟨[],[3,2],⟨rfl,rfl⟩,⟨rfl,rfl⟩⟩
def jM (f:Nat->V3) (i m:Nat):List V3:=(Dh i).map f++Ah m V3.zero
theorem B5 (f:Nat->V3) (i m:Nat):(jM f i m).length=i+m:=by simp [jM]
theorem B4 (f:Nat->V3) (i m:Nat):(vav (jM f i (m+1))).set i (f i).av=vav (jM f (i+1) m):=by
 have h1:(Dh i).length=i:=by simp
 unfold jM vav
 rw [Kr,Bu,Bu,Bu,List.replicate_succ,Bk]
 rw [Hz _ _ (by simp)]
 simp
theorem B6 (f:Nat->V3) (n:Nat):jM f n 0=(Dh n).map f:=by simp [jM]
theorem vZ (f:Nat->V3) (n:Nat):vav (jM f 0 n)=Ah n (AVal.agg [ii 0,ii 0,ii 0]):=by simp [jM,vav,V3.av,V3.zero,V3.cs]
noncomputable abbrev aIV:Func:=Tryz.f205
abbrev ZZ (c:Con) (L:Led):List AObj:=[.cells 336 (DI c),.mp false (led L)]
def lN (n:Nat) (L:Led):List V3:=(Dh n).map fun i:Nat=>oN L (i:Int)
theorem aBH (c:Con) (L:Led) (hN:c.ns.length<=1048576) (K:Int) (hK:K=(c.ns.length:Nat)):∀ (m i:Nat),i+m=c.ns.length->
  To E aIV (.full 2 (.ret (.slice 3 (vav (lN c.ns.length L)) .no)) (ZZ c L)) (.head (stk aIV 0) [(0,.ref 0 0),(3,.row 2 0),(15,.int .i64 K),(16,.int .i64 i)] [.cells 336 (DI c),.mp false (led L),.row 0 3 34 (vav (jM (fun i:Nat=>oN L (i:Int)) i m))]):=by
 intro m
 induction m with
 | zero=>
  intro i hi
  have e:jM (fun i:Nat=>oN L (i:Int)) i 0=lN c.ns.length L:=by rw [B6];unfold lN;rw [<-hi];rfl
  rw [e]
  refine gV ?_
  refine aF fun h=>?_
  refine gV ?_
  refine ⟨[2],[0,1],⟨rfl,rfl⟩,⟨rfl,rfl⟩⟩
 | succ m ih=>
  intro i hi
  have hl:(vav (jM (fun i:Nat=>oN L (i:Int)) i (m+1))).length=i+(m+1):=by rw [Cj,B5]
  have hs:=B4 (fun i:Nat=>oN L (i:Int)) i m
  have hf:=BE (i:Int) L
  have next:=ih (i+1) (by omega)
  rw [<-hs] at next
  unfold oN at next
  refine gV ?_
  refine aT fun h=>?_
  cases hv:hZ L (i:Int) with
  | none=>
   rw [hv] at hf next
   have hf:dJ (led L) [(i:Int)]=none:=hf
   refine gV ?_
   refine ⟨none,hf,?_⟩
   refine gV ?_
   refine ⟨i,rfl,?_⟩
   refine gV ?_
   refine ⟨by omega,?_⟩
   refine gV ?_
   refine ⟨by omega,?_⟩
   exact zW
  | some u=>
   rw [hv] at hf next
   have hf:dJ (led L) [(i:Int)]=some u.av:=hf
   refine gV ?_
   refine ⟨some u.av,hf,?_⟩
   refine gV ?_
   refine ⟨i,rfl,?_⟩
   refine gV ?_
   refine ⟨by omega,?_⟩
   refine gV ?_
   refine ⟨by omega,?_⟩
   exact zW
theorem aH1 (c:Con) (L:Led) (hc:c.sm):aA Tryz.prog 205 [.ref 0 0] (ZZ c L) (.ret (.slice 3 (vav (lN c.ns.length L)) .no)) (ZZ c L):=by
 have h1:=hc.ns
 have hlen:(nav c.ns).length=c.ns.length:=by simp
 refine cT (E:=E) (fn:=Tryz.f205) (g:=.full 2 _ _) fun _=>?_
 refine gV ?_
 refine aN ?_
 refine gV ?_
 refine ⟨c.ns.length,by rw [hlen],?_⟩
 refine gV ?_
 refine ⟨⟨rfl,by omega,by simp only [maxLen];omega⟩,?_⟩
 refine gV ?_
 have next:=aBH c L h1 ((Ah c.ns.length (AVal.agg [ii 0,ii 0,ii 0])).length:Nat) (by rw [Gy]) c.ns.length 0 (by omega)
 rw [vZ] at next
 exact To.head [0,3,15,16] next
def dem (g:Gan):V3:=aFN g.need g.pods
theorem OV (g:Gan):aA Tryz.prog 204 [g.av] [] (.ret (dem g).av) []:=by
 refine cT (E:=E) (fn:=Tryz.f204) (g:=.pure _) fun _=>?_
 have z2_1:=aB0 g.need g.pods
 exact zW
def sK (c:Con) (L:Led) (x:Rn):Led:=if aX c.ns x.g.ten=true then (upL c.ns x.g.ten).foldl (wJ (dem x.g)) L else L
def ofL (c:Con) (l:List Rn):List V3:=lN c.ns.length (l.foldl (sK c) [])
theorem VP (c:Con) (t:Int) (v:V3) (L:Led) (hc:c.sm):aA Tryz.prog 203 [.ref 0 0,ii t,v.av,.func (.func 131) [] []] (ZZ c L) (.ret (ii (if aX c.ns t=true then 0 else 3))) (ZZ c (if aX c.ns t=true then (upL c.ns t).foldl (wJ v) L else L)):=
 PB c t v L _ _ (fun h=>⟨if_pos h,if_pos h⟩) (fun h=>⟨if_neg (by rw [h];decide),if_neg (by rw [h];decide)⟩) (by have:=hc.ns;simp only [Cj];omega)
noncomputable abbrev fOf:Func:=Tryz.f128
theorem aDd (c:Con) (hc:c.sm) (l:List Rn) (hl:l.length<=1048576) (R:List V3):∀ (m i:Nat) (L:Led),i+m=l.length->lN c.ns.length ((l.drop i).foldl (sK c) L)=R->
  To E fOf (.pure (.ret (.slice 3 (vav R) .no))) (.head (stk fOf 0) [(5,.ref 1 0),(10,.slice 14 (rav l) .no),(11,.int .i64 ((rav l).length:Nat)),(12,.int .i64 i)] [.cells 26 c.cs,.cells 336 [.slice 11 (nav c.ns) .no,.slice 6 (hav c.hs) .no,ii c.half,ii c.age,.mref 2],.mp false (led L)]):=by
 have hlen:(rav l).length=l.length:=by simp
 intro m
 induction m with
 | zero=>
  intro i L hi hR
  rw [Ae (by omega)] at hR
  subst hR
  refine gV ?_
  refine aF fun h=>?_
  refine gV ?_
  refine .eff [] [1,2] _ _ rfl (aH1 c L hc) ?_
  exact zW
 | succ m ih=>
  intro i L hi hR
  have hlt:i<l.length:=by omega
  rw [Ad hlt,Av] at hR
  generalize hx:l[i]=x at hR
  have get:(rav l)[i]? =some x.av:=(bN hlt).trans (by rw [hx])
  have next:=ih (i+1) (sK c L x) (by omega) hR
  refine gV ?_
  refine aT fun h=>?_
  refine gV ?_
  refine ⟨i,rfl,?_⟩
  refine gV ?_
  refine ⟨_,get,?_⟩
  refine gV ?_
  refine .pure _ [] (OV x.g) ?_
  refine gV ?_
  refine .sole rfl (.eff [] [1,2] _ _ rfl (VP c x.g.ten (dem x.g) L hc) ?_)
  exact zW
theorem QU (c:Con) (hc:c.sm) (l:List Rn) (hl:l.length<=1048576):aA Tryz.prog 128 [c.av,.slice 14 (rav l) .no] [] (.ret (.slice 3 (vav (ofL c l)) .no)) []:=by
 refine cT (E:=E) (fn:=Tryz.f128) (g:=.pure _) fun _=>?_
 refine gV ?_
 refine .pure _ [_,_] (aGN c hc) ?_
 refine gV ?_
 exact To.cut [5,10,11,12] 3 rfl rfl rfl rfl (aDd c hc l hl _ l.length 0 [] (by omega) rfl)
def lvF (ns:List Nod):Nat->Nat->List Int
 | 0,_=>[]
 | m+1,i=>if aX ns (i:Int)=true then (i:Int)::lvF ns m (i+1) else lvF ns m (i+1)
def kF (ns:List Nod):List Int:=lvF ns ns.length 0
theorem yO (ns:List Nod):∀ (m i:Nat),(lvF ns m i).length<=m
 | 0,_=>by simp [lvF]
 | m+1,i=>by
  have:=yO ns m (i+1)
  unfold lvF
  split
  .simp;omega
  .omega
noncomputable abbrev aIO:Func:=Tryz.f336
theorem ZU (c:Con) (hc:c.sm) (R:List Int):∀ (m i:Nat) (acc:List Int),i+m=c.ns.length->acc.length<=i->acc++lvF c.ns m i=R->
  To (Eo [3] []) aIO (.pure (.ret (.slice 1 (iv R) .no))) (.head (stk aIO 0) [(1,.ref 0 0),(3,.slice 1 (iv acc) (.own 1 0)),(7,.int .i64 ((nav c.ns).length:Nat)),(8,.int .i64 i)] [.cells 26 c.cs,.tail 0 1 3]):=by
 have hlen:(nav c.ns).length=c.ns.length:=by simp
 have h1:=hc.ns
 intro m
 induction m with
 | zero=>
  intro i acc hi ha hR
  unfold lvF at hR
  rw [Bg] at hR
  subst hR
  refine gV ?_
  exact zW
 | succ m ih=>
  intro i acc hi ha hR
  have hla:(iv acc).length=acc.length:=by simp
  unfold lvF at hR
  refine gV ?_
  refine aT fun h=>?_
  refine gV ?_
  refine .pure _ [] (kG c i) ?_
  refine gV ?_
  refine Ac (fun h2=>?_) (fun h2=>?_)
  .have h2:aX c.ns (i:Int)=true:=h2
   rw [if_pos h2] at hR
   have next:=ih (i+1) (acc++[(i:Int)]) (by omega) (by simp;omega) (by rw [Ai];exact hR)
   have e:iv (acc++[(i:Int)])=iv acc++[ii i]:=by simp
   rw [e] at next
   exact zW
  .have h2:aX c.ns (i:Int)=false:=h2
   rw [if_neg (by rw [h2];decide)] at hR
   have next:=ih (i+1) acc (by omega) (by omega) hR
   exact zW
theorem aGU (c:Con) (hc:c.sm):aA Tryz.prog 336 [c.av] [] (.ret (.slice 1 (iv (kF c.ns)) .no)) []:=by
 refine cT (E:=(Eo [3] [])) (fn:=Tryz.f336) (g:=.pure _) fun _=>?_
 have z3_1:=ZU c hc _ c.ns.length 0 [] (by omega) (by simp) rfl
 exact zW
theorem WO (ns:List Nod):∀ (f:Nat) (n x:Int),x∈upF ns f n->x<=n
 | 0,n,x,h=>by simp [upF] at h
 | f+1,n,x,h=>by
  unfold upF at h
  split at h
  .split at h
   .split at h
    .simp at h;omega
    .rename_i h3
     rcases Bd.1 h with rfl | h
     .omega
     .have:=WO ns f _ x h
      have:¬ n<=(ns[n.toNat]).p:=fun h4=>h3 (decide_eq_true h4)
      omega
   .simp at h
  .simp at h
theorem MW (ns:List Nod):∀ (f:Nat) (n:Int),(upF ns f n).Pairwise fun a b=>b<a
 | 0,n=>by simp [upF]
 | f+1,n=>by
  unfold upF
  split
  .split
   .split
    .simp
    .rename_i h3
     refine Cv.2 ⟨fun x hx=>?_,MW ns f _⟩
     have:=WO ns f _ x hx
     have:¬ n<=(ns[n.toNat]).p:=fun h4=>h3 (decide_eq_true h4)
     omega
   .simp
  .simp
def rN (ns:List Nod) (n t:Int):List Int:=if n∈upL ns t then [t] else []
def bH (ns:List Nod) (n:Int):List Int:=(kF ns).flatMap (rN ns n)
noncomputable abbrev jS:Func:=Tryz.f335
def aCd (c:Con) (n:Int) (lv:List Int) (i K:Int):List (Nat×AVal):=[(1,.ptr c.cs),(2,.ptr [ii n]),(3,.ref 1 0),(5,.ref 2 0),(8,.slice 1 (iv lv) .no),(9,.int .i64 K),(10,.int .i64 i),(16,.func (.func 333) [] [.ref 3 0,.ptr c.cs])]
def oZ (l:Nat) (t:Int) (G:Nat) (I:BInv) (o:AObj):List AObj:=[.bun G I,.cells 65 [.func (.yield l) [] []],.cells 3 [ii t],.dead,o]
abbrev busy (R:Loop):Loop:={R with state:=.busy}
theorem aB8 (c:Con) (n t x i K:Int) (lv:List Int) (l l2 G:Nat) (I:BInv) (R:Loop) (hr:R.state= .ready) (hx:x≠n):
  To (El l2 [] [] []) jS (.keep 5 (.ret (.bool true)) (oZ l t G I (.bun 0 (bP l2 (busy R))))) (.code [.code (rfA jS),.beginR,.code (rfB jS)] (gK (aCd c n lv i K) 17 (ii x)) (oZ l t G I (.bun 0 (bP l2 R)))):=by
 refine gV ?_
 refine To.beginR (k:=4) (gg:=0) rfl rfl hr ?_
 exact zW
theorem aFU (c:Con) (n t i K:Int) (lv:List Int) (l l2 G:Nat) (I I1:BInv) (R:Loop) (hr:R.state= .ready) (hG:G=0\/G=1) (hyl:bK Tryz.prog (.yield l) [ii t] [.bun 0 I] (.ret (.bool true)) [.bun 1 I1]):
  To (El l2 [] [] []) jS (.keep 5 (.ret (.bool true)) (oZ l t (G+1) I1 (.bun 0 (bP l2 (busy R))))) (.code [.code (rfA jS),.beginR,.code (rfB jS)] (gK (aCd c n lv i K) 17 (ii n)) (oZ l t G I (.bun 0 (bP l2 R)))):=by
 rcases hG with rfl | rfl
 .refine gV ?_
  refine To.beginR (k:=4) (gg:=0) rfl rfl hr ?_
  exact zW
 .refine gV ?_
  refine To.beginR (k:=4) (gg:=0) rfl rfl hr ?_
  exact zW
theorem aB7 (c:Con) (n t i K:Int) (lv:List Int) (l l2 G:Nat) (I I1:BInv) (R:Loop) (hr:R.state= .ready) (hG:G=0\/G=1) (hyl:bK Tryz.prog (.yield l) [ii t] [.bun 0 I] (.ret (.bool false)) [.bun 1 I1]):
  To (El l2 [] [] []) jS (.keep 5 (.ret (.bool false)) (oZ l t (G+1) I1 (.bun 0 (bP l2 (busy R))))) (.code [.code (rfA jS),.beginR,.code (rfB jS)] (gK (aCd c n lv i K) 17 (ii n)) (oZ l t G I (.bun 0 (bP l2 R)))):=by
 rcases hG with rfl | rfl
 .refine gV ?_
  refine To.beginR (k:=4) (gg:=0) rfl rfl hr ?_
  exact zW
 .refine gV ?_
  refine To.beginR (k:=4) (gg:=0) rfl rfl hr ?_
  exact zW
theorem uR {P:Program} {l:Nat} {J:BInv} {n:Int} (hs:∀ x,x≠n->bK P (.yield l) [ii x] [.bun 0 J] (.ret (.bool true)) [.bun 1 J]):∀ (xs:List Int),n∉xs->Ylds P l xs J J true
 | [],_=>.nil _
 | x::r,h=>.next x r _ _ _ _ (hs x fun e=>h (by simp [e])) (uR hs r fun e=>h (by simp [e]))
theorem zJ {P:Program} {l:Nat} {J J1:BInv} {n:Int} {b:Bool} (hs:∀ x,x≠n->bK P (.yield l) [ii x] [.bun 0 J] (.ret (.bool true)) [.bun 1 J]) (hh:bK P (.yield l) [ii n] [.bun 0 J] (.ret (.bool b)) [.bun 1 J1])
  (h1:b=true->∀ x,x≠n->bK P (.yield l) [ii x] [.bun 0 J1] (.ret (.bool true)) [.bun 1 J1]):∀ (xs:List Int),xs.Pairwise (fun a b=>b<a)->n∈xs->Ylds P l xs J J1 b
 | [],_,h=>by simp at h
 | x::r,hp,h=>by
  rw [Cv] at hp
  by_cases hx:x=n
  .subst hx
   cases b with
   | true=>exact .next x r _ _ _ _ hh (uR (h1 rfl) r fun e=>by have:=hp.1 x e;omega)
   | false=>exact .stop x r _ _ hh
  .exact .next x r _ _ _ _ (hs x hx) (zJ hs hh h1 r hp.2 ((Bd.1 h).resolve_left fun e=>hx e.symm))
def tnJ (c:Con) (n t i K:Int) (lv:List Int) (l l2:Nat) (ob0:Hs) (R R':Loop) (G:Nat) (I:BInv):BInv:=iV ob0 (aCd c n lv i K) R (oZ l t G I (.bun 0 (bP l2 R')))
theorem sZ {qa qb:Code} (c:Con) (n t x i K:Int) (lv:List Int) (l l2 G:Nat) (ob0:Hs) (I:BInv) (R:Loop) (hR:RecOK jS 17 qa qb R) (ha:rfA jS=qa) (hb:rfB jS=qb) (hx:x≠n):
  bK Tryz.prog (.yield l2) [ii x] [.bun 0 (tnJ c n t i K lv l l2 ob0 R R G I)] (.ret (.bool true)) [.bun 1 (tnJ c n t i K lv l l2 ob0 R R G I)]:=by
 subst ha hb
 exact fY (E:=Ex [] [] []) (fn:=jS) (k:=4) (n:=5) (p:=17) (gg:=0) (L':=oZ l t G I (.bun 0 (bP l2 (busy R)))) (b:=true) hR.params hR.ready hR.pend hR.assign hR.body hR.size rfl rfl rfl rfl rfl rfl rfl fun _=>aB8 c n t x i K lv l l2 G I R hR.ready hx
theorem P4 {qa qb:Code} (c:Con) (n t i K:Int) (lv:List Int) (l l2 G:Nat) (ob0:Hs) (I I1:BInv) (R:Loop) (b:Bool) (hR:RecOK jS 17 qa qb R) (ha:rfA jS=qa) (hb:rfB jS=qb) (hG:G=0\/G=1) (hyl:bK Tryz.prog (.yield l) [ii t] [.bun 0 I] (.ret (.bool b)) [.bun 1 I1]):
  bK Tryz.prog (.yield l2) [ii n] [.bun 0 (tnJ c n t i K lv l l2 ob0 R R G I)] (.ret (.bool b)) [.bun 1 (tnJ c n t i K lv l l2 ob0 R (kP R b) (G+1) I1)]:=by
 subst ha hb
 cases b with
 | true=>exact fY (E:=Ex [] [] []) (fn:=jS) (k:=4) (n:=5) (p:=17) (gg:=0) (L':=oZ l t (G+1) I1 (.bun 0 (bP l2 (busy R)))) (b:=true) hR.params hR.ready hR.pend hR.assign hR.body hR.size rfl rfl rfl rfl rfl rfl rfl fun _=>aFU c n t i K lv l l2 G I I1 R hR.ready hG hyl
 | false=>exact fY (E:=Ex [] [] []) (fn:=jS) (k:=4) (n:=5) (p:=17) (gg:=0) (L':=oZ l t (G+1) I1 (.bun 0 (bP l2 (busy R)))) (b:=false) hR.params hR.ready hR.pend hR.assign hR.body hR.size rfl rfl rfl rfl rfl rfl rfl fun _=>aB7 c n t i K lv l l2 G I I1 R hR.ready hG hyl
theorem W0 (c:Con) (hc:c.sm) (n:Int) (l:Nat) (lv:List Int) (I':BInv) (b:Bool) (hlv:lv.length<=1048576):∀ (m i:Nat) (G:Nat) (I:BInv),i+m=lv.length->(G=0\/G=1)->Ylds Tryz.prog l ((lv.drop i).flatMap (rN c.ns n)) I I' b->
  ∃ g',To E jS (.full 1 (.ret (.tup [])) [.bun g' I']) (.head (stk jS 0) [(1,.ptr c.cs),(2,.ptr [ii n]),(3,.ref 1 0),(8,.slice 1 (iv lv) .no),(9,.int .i64 ((iv lv).length:Nat)),(10,.int .i64 i)] [.bun G I,.cells 65 [.func (.yield l) [] []]]):=by
 have hlen:(iv lv).length=lv.length:=by simp
 have hnl:((nav c.ns).length:Int)<=9223372036854775807:=by have:=hc.ns;simp only [Cj];omega
 intro m
 induction m with
 | zero=>
  intro i G I hi hG hy
  rw [Ae (by omega)] at hy
  have hy:Ylds Tryz.prog l [] I I' b:=hy
  cases hy
  rcases hG with rfl | rfl
  .refine ⟨0,?_⟩
   refine gV ?_
   exact zW
  .refine ⟨1,?_⟩
   refine gV ?_
   exact zW
 | succ m ih=>
  intro i G I hi hG hy
  have hlt:i<lv.length:=by omega
  rw [Ad hlt,Ie] at hy
  generalize hx:lv[i]=t at hy
  have get:(iv lv)[i]? =some (ii t):=(dO hlt).trans (by rw [hx])
  -- what the loop within comes to
  have key:∃ (g' G2:Nat) (I2:BInv) (b2:Bool),(b2=true->(G2=G\/G2=G+1)/\To E jS (.full 1 (.ret (.tup [])) [.bun g' I']) (.head (stk jS 0) [(1,.ptr c.cs),(2,.ptr [ii n]),(3,.ref 1 0),(8,.slice 1 (iv lv) .no),(9,.int .i64 ((iv lv).length:Nat)),(10,.int .i64 ((i:Int)+1))] [.bun (if G2=0 then 0 else 1) I2,.cells 65 [.func (.yield l) [] []]]))/\(b2=false->G2=G+1/\g'=1/\I2=I')/\
    ∀ (l2:Nat) (ob0:Hs) (R:Loop) (qa qb:Code),RecOK jS 17 qa qb R->rfA jS=qa->rfB jS=qb->Ylds Tryz.prog l2 (upL c.ns t) (tnJ c n t i ((iv lv).length:Nat) lv l l2 ob0 R R G I) (tnJ c n t i ((iv lv).length:Nat) lv l l2 ob0 R (kP R b2) G2 I2) b2:=by
   unfold rN at hy
   have hpw:(upL c.ns t).Pairwise fun a b=>b<a:=MW _ _ _
   by_cases hn:n∈upL c.ns t
   .rw [if_pos hn] at hy
    have hy:Ylds Tryz.prog l (t::(lv.drop (i+1)).flatMap (rN c.ns n)) I I' b:=hy
    cases hy with
    | stop _ _ _ _ hyl=>
     refine ⟨1,G+1,I',false,(fun h=>by cases h),fun _=>⟨rfl,rfl,rfl⟩,fun l2 ob0 R qa qb hR ha hb=>?_⟩
     exact zJ (fun x hx=>sZ c n t x i _ lv l l2 G ob0 I R hR ha hb hx) (P4 c n t i _ lv l l2 G ob0 I I' R false hR ha hb hG hyl) (fun h=>by cases h) _ hpw hn
    | next _ _ _ I1 _ _ hyl hk=>
     obtain ⟨g',hto⟩:=ih (i+1) 1 I1 (by omega) (.inr rfl) hk
     refine ⟨g',G+1,I1,true,fun _=>⟨.inr rfl,?_⟩,(fun h=>by cases h),fun l2 ob0 R qa qb hR ha hb=>?_⟩
     .rw [if_neg (by omega)];exact hto
     .exact zJ (fun x hx=>sZ c n t x i _ lv l l2 G ob0 I R hR ha hb hx) (P4 c n t i _ lv l l2 G ob0 I I1 R true hR ha hb hG hyl) (fun _ x hx=>sZ c n t x i _ lv l l2 (G+1) ob0 I1 R hR ha hb hx) _ hpw hn
   .rw [if_neg hn] at hy
    have hy:Ylds Tryz.prog l ((lv.drop (i+1)).flatMap (rN c.ns n)) I I' b:=hy
    obtain ⟨g',hto⟩:=ih (i+1) G I (by omega) hG hy
    refine ⟨g',G,I,true,fun _=>⟨.inl rfl,?_⟩,(fun h=>by cases h),fun l2 ob0 R qa qb hR ha hb=>?_⟩
    .rcases hG with rfl | rfl
     .exact hto
     .exact hto
    .exact uR (fun x hx=>sZ c n t x i _ lv l l2 G ob0 I R hR ha hb hx) _ hn
  obtain ⟨g',G2,I2,b2,hk1,hk2,hk3⟩:=key
  refine ⟨g',?_⟩
  refine gV ?_
  refine aT fun h=>?_
  refine gV ?_
  refine ⟨i,rfl,?_⟩
  refine gV ?_
  refine ⟨_,get,?_⟩
  refine gV ?_
  refine .pure _ [.cells 3 [ii t]] (PU c t) ?_
  refine gV ?_
  refine To.cutC [1,2,3,5,8,9,10,16] 4 rfl rfl rfl rfl ?_
  refine To.range [3] rfl rfl (fun _ _=>by rfl) rfl (fun _ _=>rfl) rfl fun l2 ob0 R _ hR=>?_
  obtain ⟨mm,g2,hup⟩:=FZ l2 c t _ _ b2 hnl (hk3 l2 ob0 R _ _ hR rfl rfl)
  refine ⟨oZ l t G2 I2 (.bun 0 (bP l2 (kP R b2))),b2,_,[.cells 3 [mm]],g2,hup,rfl,rfl,?_⟩
  cases b2 with
  | false=>
   obtain ⟨e1,e2,e3⟩:=hk2 rfl
   subst e1 e2 e3
   rcases hG with rfl | rfl
   .refine gV ?_
    refine ⟨[],[0],⟨rfl,rfl⟩,⟨rfl,rfl⟩⟩
   .refine gV ?_
    refine ⟨[],[0],⟨rfl,rfl⟩,⟨rfl,rfl⟩⟩
  | true=>
   obtain ⟨hG2,hto⟩:=hk1 rfl
   refine gV ?_
   refine aJ ?_
   refine gV ?_
   refine To.part [1,2,3,8,9,10] [0,1] rfl rfl rfl ?_
   rcases hG with rfl | rfl<;>rcases hG2 with rfl | rfl<;>exact hto
theorem WZ (c:Con) (hc:c.sm) (n:Int) (l:Nat) (I I':BInv) (b:Bool) (hy:Ylds Tryz.prog l (bH c.ns n) I I' b):∃ g',aA Tryz.prog 335 [.func (.yield l) [] [],.ptr c.cs,.ptr [ii n]] [.bun 0 I] (.ret (.tup [])) [.bun g' I']:=by
 have hlv:(kF c.ns).length<=1048576:=Da (yO _ _ _) hc.ns
 obtain ⟨g',h⟩:=W0 c hc n l (kF c.ns) I' b hlv (kF c.ns).length 0 0 I (by omega) (.inl rfl) hy
 refine ⟨g',?_⟩
 refine cT (E:=E) (fn:=Tryz.f335) (g:=.full 1 _ _) fun _=>?_
 have z2_1:=aGU c hc
 exact zW
theorem zV (c:Con) (n:Int):aA Tryz.prog 283 [c.av,ii n] [] (.ret (.func (.func 335) [] [.ptr c.cs,.ptr [ii n]])) []:=by
 refine cT (E:=E) (fn:=Tryz.f283) (g:=.pure _) fun _=>?_
 exact zW
theorem IE {P:Program} {l:Nat} (F:List Int->BInv) (h:∀ (acc:List Int) x,acc.length<1048576->bK P (.yield l) [ii x] [.bun 0 (F acc)] (.ret (.bool true)) [.bun 1 (F (acc++[x]))]):∀ (xs acc:List Int),acc.length+xs.length<=1048576->Ylds P l xs (F acc) (F (acc++xs)) true
 | [],acc,_=>by rw [Bg];exact .nil _
 | x::r,acc,hl=>by
  have:=IE F h r (acc++[x]) (by simp at hl⊢;omega)
  rw [Ai] at this
  exact .next x r _ _ _ _ (h acc x (by simp at hl;omega)) this
noncomputable abbrev oV:Func:=Tryz.f374
abbrev S8 (c:Con) (n:Int):AVal:=.func (.func 335) [] [.ptr c.cs,.ptr [ii n]]
def aH0 (f:AVal):List (Nat×AVal):=[(2,.ref 0 0),(6,f)]
def rW (acc:List Int) (g:Nat) (o:AObj):List AObj:=[.cells 47 [.slice 1 (iv acc) (.own 1 g)],.tail g 1 3,o]
theorem VY (f:AVal) (acc:List Int) (x:Int) (hl:acc.length<1048576) (l:Nat) (R:Loop) (hr:R.state= .ready):
  To (El l [] [] []) oV (.keep 3 (.ret (.bool true)) (rW (acc++[x]) 1 (.bun 0 (bP l (busy R))))) (.code [.code (rfA oV),.beginR,.code (rfB oV)] (gK (aH0 f) 7 (ii x)) (rW acc 0 (.bun 0 (bP l R)))):=by
 have hla:(iv acc).length=acc.length:=by simp
 have e:iv (acc++[x])=iv acc++[ii x]:=by simp
 unfold rW
 rw [e]
 refine gV ?_
 refine To.beginR (k:=2) (gg:=0) rfl rfl hr ?_
 exact zW
theorem VX (f:AVal) (acc:List Int) (x:Int) (hl:acc.length<1048576) (l:Nat) (R:Loop) (hr:R.state= .ready):
  To (El l [] [] []) oV (.keep 3 (.ret (.bool true)) (rW (acc++[x]) 2 (.bun 0 (bP l (busy R))))) (.code [.code (rfA oV),.beginR,.code (rfB oV)] (gK (aH0 f) 7 (ii x)) (rW acc 1 (.bun 0 (bP l R)))):=by
 have hla:(iv acc).length=acc.length:=by simp
 have e:iv (acc++[x])=iv acc++[ii x]:=by simp
 unfold rW
 rw [e]
 refine gV ?_
 refine To.beginR (k:=2) (gg:=0) rfl rfl hr ?_
 exact zW
def gOf:List Int->Nat
 | []=>0
 | _::_=>1
theorem aAs (acc:List Int) (x:Int):gOf (acc++[x])=1:=by cases acc<;>rfl
def apJ (f:AVal) (ob0:Hs) (R:Loop) (l:Nat) (acc:List Int):BInv:=iV ob0 (aH0 f) R (rW acc (gOf acc) (.bun 0 (bP l R)))
theorem aBG {qa qb:Code} (f:AVal) (hf:∀ og,cvtV 3 [0,1,2] og 5 f=f) (ob0:Hs) (l:Nat) (R:Loop) (acc:List Int) (x:Int) (hl:acc.length<1048576) (h1:∀ hs∈ob0,hs.length=1) (h0:ob0.length=0) (hR:RecOK oV 7 qa qb R) (ha:rfA oV=qa) (hb:rfB oV=qb):
  bK Tryz.prog (.yield l) [ii x] [.bun 0 (apJ f ob0 R l acc)] (.ret (.bool true)) [.bun 1 (apJ f ob0 R l (acc++[x]))]:=by
 subst ha hb
 unfold apJ
 rw [aAs]
 cases acc with
 | nil=>exact fY (E:=Ex [] [] []) (fn:=oV) (k:=2) (n:=3) (p:=7) (gg:=0) (L':=rW ([]++[x]) 1 (.bun 0 (bP l (busy R)))) (b:=true) hR.params hR.ready hR.pend hR.assign hR.body hR.size rfl rfl rfl rfl rfl rfl rfl fun _=>VY f [] x hl l R hR.ready
 | cons a r=>
  have:=fY (E:=Ex [] [] []) (fn:=oV) (ob0:=ob0) (k:=2) (n:=3) (p:=7) (gg:=0) (L:=rW (a::r) 1 (.bun 0 (bP l R))) (L':=rW ((a::r)++[x]) 2 (.bun 0 (bP l (busy R)))) (b:=true) hR.params hR.ready hR.pend hR.assign hR.body hR.size rfl rfl rfl rfl rfl rfl rfl fun _=>VX f (a::r) x hl l R hR.ready
  refine this.bunTo (aBl (n:=3) rfl h1 (by omega) rfl ?_ rfl)
  show [(2,AVal.ref 0 0),(6,cvtV 3 [0,1,2] _ 5 f)]=_
  rw [hf]
  rfl
theorem aHZ (c:Con) (hc:c.sm) (n:Int) (hb:(bH c.ns n).length<=1048576):aA Tryz.prog 374 [.nilslice,S8 c n] [] (.ret (.slice 1 (iv (bH c.ns n)) .no)) []:=by
 refine cT (E:=E) (fn:=Tryz.f374) (g:=.pure _) fun _=>?_
 refine gV ?_
 refine To.cutC [2,6] 1 rfl rfl rfl rfl ?_
 refine To.mapO (aDm 1) (KC 1) ?_
 refine To.beginC 0 0 3 rfl rfl ?_
 refine To.range [] rfl rfl (fun _ _=>by rfl) rfl (fun _ _=>rfl) rfl fun l ob0 R hst hR=>?_
 obtain ⟨g',hten⟩:=WZ c hc n l _ _ true (IE (P:=Tryz.prog) (l:=l) (apJ (S8 c n) ob0 R l) (fun acc x hl=>aBG (S8 c n) (fun _=>rfl) ob0 l R acc x hl (hst.2 rfl) hst.1 hR rfl rfl) (bH c.ns n) [] (by simpa using hb))
 rw [Bp] at hten
 refine ⟨_,true,_,[],g',hten,rfl,rfl,?_⟩
 exact zW
theorem O4 (c:Con) (hc:c.sm) (n:Int) (hb:(bH c.ns n).length<=1048576):aA Tryz.prog 344 [S8 c n] [] (.ret (.slice 1 (iv (bH c.ns n)) .no)) []:=by
 refine cT (E:=E) (fn:=Tryz.f344) (g:=.pure _) fun _=>?_
 have z3_1:=aHZ c hc n hb
 exact zW
theorem aDU (ns:List Nod) (n t:Int):(rN ns n t).length<=1:=by unfold rN;split<;>simp
theorem rE (c:Con) (hc:c.sm) (n:Int):(bH c.ns n).length<=1048576:=by
 have h:∀ (l:List Int),(l.flatMap (rN c.ns n)).length<=l.length:=by
  intro l
  induction l with
  | nil=>simp
  | cons x r ih=>
   have:=aDU c.ns n x
   simp only [Ie,Aw,Bo]
   omega
 exact Da (h _) (Da (yO _ _ _) hc.ns)
theorem ME (c:Con) (hc:c.sm) (n:Int):aA Tryz.prog 381 [c.av,ii n] [] (.ret (.slice 1 (iv (bH c.ns n)) .no)) []:=by
 refine cT (E:=E) (fn:=Tryz.f381) (g:=.pure _) fun _=>?_
 have z4_1:=zV c n
 have z4_2:=O4 c hc n (rE c hc n)
 exact zW
def atV (l:List V3) (n:Int):V3:=if decide (n<0)=true then V3.zero else (l[n.toNat]?).getD V3.zero
theorem aE3 (l:List V3) (n:Int) (r:V3) (hr:atV l n=r):aA Tryz.prog 284 [.slice 3 (vav l) .no,ii n] [] (.ret r.av) []:=by
 have hlen:(vav l).length=l.length:=by simp
 unfold atV at hr
 by_cases h1:n<0
 .rw [if_pos (decide_eq_true h1)] at hr
  subst hr
  refine cT (E:=E) (fn:=Tryz.f284) (g:=.pure _) fun _=>?_
  exact zW
 .rw [if_neg (by rw [decide_eq_false h1];decide)] at hr
  by_cases h2:n.toNat<l.length
  .rw [Aa h2] at hr
   have hr:l[n.toNat]=r:=hr
   have get:(vav l)[n.toNat]? =some r.av:=(kD h2).trans (by rw [hr])
   have hn:n=(n.toNat:Int):=by omega
   refine cT (E:=E) (fn:=Tryz.f284) (g:=.pure _) fun _=>?_
   exact zW
  .rw [Bb (by omega)] at hr
   have hr:V3.zero=r:=hr
   subst hr
   refine cT (E:=E) (fn:=Tryz.f284) (g:=.pure _) fun _=>?_
   exact zW
theorem CY (l:List V3) (n:Int):aA Tryz.prog 284 [.slice 3 (vav l) .no,ii n] [] (.ret (atV l n).av) []:=aE3 l n _ rfl
theorem SZ (a b:V3) (r:Bool) (hr:cN a b=r):aA Tryz.prog 195 [a.av,b.av] [] (.ret (.bool r)) []:=by
 unfold cN at hr
 refine cT (E:=E) (fn:=Tryz.f195) (g:=.pure _) fun _=>?_
 refine gV ?_
 repeat' first
  | (refine gV ?_)
  | exact hr
  | refine aY ?_
  | refine aN ?_
  | refine Ac (fun h=>?_) (fun h=>?_)
  | refine aJ ?_
  | refine Al _ (Ac rfl ?_)
  | refine Ac (by decide) ?_
 all_goals (rw [<-hr];simp_all)
theorem kM (a b:V3):aA Tryz.prog 195 [a.av,b.av] [] (.ret (.bool (cN a b))) []:=SZ a b _ rfl
theorem II (a b:V3):aA Tryz.prog 132 [a.av,b.av] [] (.ret (.bool (!cN a b))) []:=by
 refine cT (E:=E) (fn:=Tryz.f132) (g:=.pure _) fun _=>?_
 have z0_1:=kM a b
 exact zW
noncomputable abbrev aEa:Func:=Tryz.f206
def smS (l:List V3) (v:V3) (t:Int):V3:=eF v (atV l t)
def iJ (ns:List Nod) (n:Int) (l:List V3):V3:=(bH ns n).foldl (smS l) V3.zero
def aIe (f:AVal):List (Nat×AVal):=[(5,.ref 1 0),(6,.ref 2 0),(7,.ref 3 0),(11,f)]
def QC (c:Con) (l:List V3) (v:V3) (o:AObj):List AObj:=[.cells 26 c.cs,.cells 127 [.slice 3 (vav l) .no],.cells 34 V3.zero.cs,.cells 34 v.cs,o]
theorem XG (c:Con) (n:Int) (l:List V3) (v:V3) (x:Int) (k:Nat) (R:Loop) (hr:R.state= .ready):
  To (El k [] [] []) aEa (.keep 5 (.ret (.bool true)) (QC c l (smS l v x) (.bun 0 (bP k (busy R))))) (.code [.code (rfA aEa),.beginR,.code (rfB aEa)] (gK (aIe (S8 c n)) 12 (ii x)) (QC c l v (.bun 0 (bP k R)))):=by
 refine gV ?_
 refine To.beginR (k:=4) (gg:=0) rfl rfl hr ?_
 have z1_1:=CY l x
 have z1_2:=iY v (atV l x)
 exact zW
theorem W6 (c:Con) (hc:c.sm) (n:Int) (l:List V3):aA Tryz.prog 206 [c.av,ii n,.slice 3 (vav l) .no] [] (.ret (iJ c.ns n l).av) []:=by
 refine cT (E:=E) (fn:=Tryz.f206) (g:=.pure _) fun _=>?_
 refine gV ?_
 refine .pure _ [] (zV c n) ?_
 refine gV ?_
 refine To.cutC [5,6,7,11] 4 rfl rfl rfl rfl ?_
 refine To.range [] rfl rfl (fun _ _=>by rfl) rfl (fun _ _=>rfl) rfl fun k ob0 R hst hR=>?_
 obtain ⟨g',hten⟩:=WZ c hc n k _ _ true (zK (P:=Tryz.prog) (l:=k) (fun v=>iV ob0 (aIe (S8 c n)) R (QC c l v (.bun 0 (bP k R)))) (smS l) (fun v x=>fY (E:=Ex [] [] []) (fn:=aEa) (k:=4) (n:=5) (p:=12) (gg:=0) (L':=QC c l (smS l v x) (.bun 0 (bP k (busy R)))) (b:=true) hR.params hR.ready hR.pend hR.assign hR.body hR.size rfl rfl rfl rfl rfl rfl rfl fun _=>XG c n l v x k R hR.ready) (bH c.ns n) V3.zero)
 refine ⟨_,true,_,[],g',hten,rfl,rfl,?_⟩
 exact zW
def Con.ok (c:Con) (n:Int):Prop:=0<=n/\n.toNat<c.ns.length
theorem G1 (ns:List Nod):∀ (m i:Nat) (x:Int),x∈lvF ns m i->(i:Int)<=x/\x<i+m
 | 0,_,_,h=>by simp [lvF] at h
 | m+1,i,x,h=>by
  have ih:=G1 ns m (i+1) x
  unfold lvF at h
  split at h
  .rcases Bd.1 h with rfl | h
   .omega
   .have:=ih h;omega
  .have:=ih h;omega
theorem kK (c:Con) (n x:Int) (h:x∈bH c.ns n):c.ok x:=by
 unfold bH at h
 obtain ⟨t,h1,h2⟩:=List.mem_flatMap.1 h
 have:x=t:=by
  unfold rN at h2
  split at h2
  .simpa using h2
  .simp at h2
 subst this
 have:=G1 c.ns c.ns.length 0 x h1
 exact ⟨by omega,by omega⟩
theorem FY (c:Con):∀ (f:Nat) (n x:Int),x∈upF c.ns f n->c.ok x
 | 0,_,_,h=>by simp [upF] at h
 | f+1,n,x,h=>by
  have ih:=fun p=>FY c f p x
  unfold upF at h
  split at h
  .rename_i h1
   split at h
   .rename_i h2
    split at h
    .simp at h;subst h;exact ⟨of_decide_eq_true h1,h2⟩
    .rcases Bd.1 h with rfl | h
     .exact ⟨of_decide_eq_true h1,h2⟩
     .exact ih _ h
   .simp at h
  .simp at h
def bX (ns:List Nod) (n:Int):Nod:=(ns[n.toNat]?).getD ⟨0,0,V3.zero,V3.zero,V3.zero⟩
theorem tP {c:Con} {n:Int} (h:c.ok n):(nav c.ns)[n.toNat]? =some (bX c.ns n).av:=by
 unfold bX
 rw [Aa h.2]
 exact fQ h.2
def aGy (v:V3):V3:=⟨max v.a 0,max v.b 0,max v.c 0⟩
def EU (ns:List Nod) (used:List V3) (t:Int) (v:V3) (s:Int):V3:=if decide (s=t)=true then v else eF v (aGy (xS (xS (bX ns s).n (bX ns s).l) (atV used s)))
def EV (ns:List Nod) (used:List V3) (n t:Int):V3:=(bH ns n).foldl (EU ns used t) V3.zero
noncomputable abbrev aFw:Func:=Tryz.f362
theorem UK (c:Con) (used:List V3) (t:Int) (bl:List Int) (hb:bl.length<=1048576) (hv:∀ x∈bl,c.ok x) (R:V3):∀ (m i:Nat) (v:V3),i+m=bl.length->(bl.drop i).foldl (EU c.ns used t) v=R->
  To E aFw (.pure (.ret R.av)) (.head (stk aFw 0) [(1,.slice 3 (vav used) .no),(3,ii t),(4,.ref 0 0),(8,.ref 1 0),(9,.ref 2 0),(18,.slice 1 (iv bl) .no),(19,.int .i64 ((iv bl).length:Nat)),(20,.int .i64 i)] [.cells 26 c.cs,.cells 34 V3.zero.cs,.cells 34 v.cs]):=by
 have hlen:(iv bl).length=bl.length:=by simp
 intro m
 induction m with
 | zero=>
  intro i v hi hR
  rw [Ae (by omega)] at hR
  subst hR
  refine gV ?_
  exact zW
 | succ m ih=>
  intro i v hi hR
  have hlt:i<bl.length:=by omega
  rw [Ad hlt,Av] at hR
  have hval:=hv _ (Bl hlt)
  generalize hx:bl[i]=s at hR hval
  have get:(iv bl)[i]? =some (ii s):=(dO hlt).trans (by rw [hx])
  have gn:=tP hval
  have hn:s=(s.toNat:Int):=by have:=hval.1;omega
  have next:=ih (i+1) _ (by omega) hR
  unfold EU at next
  generalize bX c.ns s=x at gn next
  refine gV ?_
  refine aT fun h=>?_
  refine gV ?_
  refine ⟨i,rfl,?_⟩
  refine gV ?_
  refine ⟨_,get,?_⟩
  refine gV ?_
  refine Ac (fun h2=>?_) (fun h2=>?_)
  .have h2:decide (s=t)=true:=h2
   rw [if_pos h2] at next
   exact zW
  .have h2:decide (s=t)=false:=h2
   rw [if_neg (by rw [h2];decide)] at next
   refine gV ?_
   refine ⟨s.toNat,hn,?_⟩
   refine gV ?_
   refine ⟨_,gn,?_⟩
   refine gV ?_
   refine .pure _ [] (FT x.n x.l) ?_
   refine gV ?_
   refine .pure _ [] (CY used s) ?_
   refine gV ?_
   refine .pure _ [] (FT (xS x.n x.l) (atV used s)) ?_
   generalize xS (xS x.n x.l) (atV used s)=u at next⊢
   refine gV ?_
   refine gV ?_
   refine aY ?_
   refine gV ?_
   refine ⟨by decide,?_⟩
   refine gV ?_
   refine ⟨by decide,?_⟩
   refine gV ?_
   refine aJ ?_
   refine gV ?_
   refine gV ?_
   refine aY ?_
   refine gV ?_
   refine ⟨by decide,?_⟩
   refine gV ?_
   refine ⟨by decide,?_⟩
   refine gV ?_
   refine aJ ?_
   refine gV ?_
   refine gV ?_
   refine aY ?_
   refine gV ?_
   refine ⟨by decide,?_⟩
   refine gV ?_
   refine ⟨by decide,?_⟩
   refine gV ?_
   refine aJ ?_
   refine gV ?_
   refine gV ?_
   have z2_1:=iY v (aGy u)
   exact zW
theorem aDI (c:Con) (hc:c.sm) (used:List V3) (n t:Int):aA Tryz.prog 362 [c.av,.slice 3 (vav used) .no,ii n,ii t] [] (.ret (EV c.ns used n t).av) []:=by
 refine cT (E:=E) (fn:=Tryz.f362) (g:=.pure _) fun _=>?_
 have z3_1:=ME c hc n
 have z3_2:=UK c used t _ (rE c hc n) (fun x hx=>kK c n x hx) _ (bH c.ns n).length 0 V3.zero (by omega) rfl
 exact zW
noncomputable abbrev aIN:Func:=Tryz.f129
def kT (ns:List Nod):List V3:=(Dh ns.length).map fun i:Nat=>(bX ns (i:Int)).n
theorem ZF (c:Con) (hc:c.sm) (n:Int) (K:Int) (hK:K=((nav c.ns).length:Nat)):∀ (m i:Nat),i+m=c.ns.length->
  To E aIN (.pure (.ret (iJ c.ns n (kT c.ns)).av)) (.head (stk aIN 0) [(1,ii n),(2,.ref 0 0),(4,.ref 1 0),(5,.row 2 0),(13,.slice 11 (nav c.ns) .no),(14,.int .i64 K),(15,.int .i64 i)] [.cells 26 c.cs,.cells 34 V3.zero.cs,.row 0 3 34 (vav (jM (fun i:Nat=>(bX c.ns (i:Int)).n) i m))]):=by
 have hlen:(nav c.ns).length=c.ns.length:=by simp
 have h1:=hc.ns
 intro m
 induction m with
 | zero=>
  intro i hi
  have e:jM (fun i:Nat=>(bX c.ns (i:Int)).n) i 0=kT c.ns:=by rw [B6];unfold kT;rw [<-hi];rfl
  rw [e]
  refine gV ?_
  have z4_1:=W6 c hc n (kT c.ns)
  exact zW
 | succ m ih=>
  intro i hi
  have hl:(vav (jM (fun i:Nat=>(bX c.ns (i:Int)).n) i (m+1))).length=i+(m+1):=by rw [Cj,B5]
  have hs:=B4 (fun i:Nat=>(bX c.ns (i:Int)).n) i m
  have gn:(nav c.ns)[i]? =some (bX c.ns (i:Int)).av:=tP (c:=c) (n:=(i:Int)) ⟨by omega,by omega⟩
  have next:=ih (i+1) (by omega)
  rw [<-hs] at next
  refine gV ?_
  refine aT fun h=>?_
  refine gV ?_
  refine ⟨i,rfl,?_⟩
  refine gV ?_
  refine ⟨_,gn,?_⟩
  refine gV ?_
  refine ⟨i,rfl,?_⟩
  refine gV ?_
  refine ⟨by omega,?_⟩
  refine gV ?_
  refine ⟨by omega,?_⟩
  exact zW
theorem aGM (c:Con) (hc:c.sm) (n:Int):aA Tryz.prog 129 [c.av,ii n] [] (.ret (iJ c.ns n (kT c.ns)).av) []:=by
 have h1:=hc.ns
 have hlen:(nav c.ns).length=c.ns.length:=by simp
 refine cT (E:=E) (fn:=Tryz.f129) (g:=.pure _) fun _=>?_
 refine gV ?_
 refine ⟨c.ns.length,by rw [hlen],?_⟩
 refine gV ?_
 refine ⟨⟨rfl,by omega,by simp only [maxLen];omega⟩,?_⟩
 refine gV ?_
 have next:=ZF c hc n _ rfl c.ns.length 0 (by omega)
 rw [vZ] at next
 exact To.cut [1,2,4,5,13,14,15] 3 rfl rfl rfl rfl next
abbrev YW (c:Con) (used:List V3) (need:V3):AVal:=.func (.func 360) [] [.ptr c.cs,.ptr [.slice 3 (vav used) .no],.ptr need.cs]
abbrev aBI (c:Con) (used:List V3) (need:V3) (t:Int):AVal:=.func (.func 361) [] [.ptr c.cs,.ptr [.slice 3 (vav used) .no],.ptr need.cs,.ptr [ii t]]
def aC6 (c:Con) (used:List V3) (need:V3) (n:Int):Bool:=cN (eF (atV used n) need) (eF (bX c.ns n).n (bX c.ns n).b)
def aE8 (c:Con) (used:List V3) (need:V3) (t n:Int):Bool:=cN (eF (eF (iJ c.ns n used) need) (EV c.ns used n t)) (iJ c.ns n (kT c.ns))
theorem GP (c:Con) (used:List V3) (need:V3) (n:Int) (h:c.ok n):aA Tryz.prog 360 [ii n,.ptr c.cs,.ptr [.slice 3 (vav used) .no],.ptr need.cs] [] (.ret (.bool (aC6 c used need n))) []:=by
 have gn:=tP h
 have hn:n=(n.toNat:Int):=by have:=h.1;omega
 unfold aC6
 generalize bX c.ns n=x at gn⊢
 refine cT (E:=E) (fn:=Tryz.f360) (g:=.pure _) fun _=>?_
 have z6_1:=CY used n
 have z6_2:=iY (atV used n) need
 have z6_3:=iY x.n x.b
 have hz2:=fun y0 y1=>kM y0 y1
 exact zW
theorem yZ (c:Con) (hc:c.sm) (used:List V3) (need:V3) (t n:Int):aA Tryz.prog 361 [ii n,.ptr c.cs,.ptr [.slice 3 (vav used) .no],.ptr need.cs,.ptr [ii t]] [] (.ret (.bool (aE8 c used need t n))) []:=by
 unfold aE8
 refine cT (E:=E) (fn:=Tryz.f361) (g:=.pure _) fun _=>?_
 have z7_1:=W6 c hc n used
 have z7_2:=iY (iJ c.ns n used) need
 have z7_3:=aDI c hc used n t
 have z7_4:=iY (eF (iJ c.ns n used) need) (EV c.ns used n t)
 have z7_5:=aGM c hc n
 have hz2:=fun y0 y1=>kM y0 y1
 exact zW
noncomputable abbrev aIH:Func:=Tryz.f327
def ruO (c:Con) (used:List V3) (need:V3) (t:Int):List AObj:=[.cells 26 c.cs,.cells 127 [.slice 3 (vav used) .no],.cells 3 [ii t],.cells 34 need.cs,.cells 369 [.nilfunc],.cells 369 [.nilfunc],
 .cells 369 [.func (.func 360) [] [.ref 0 0,.ref 1 0,.ref 3 0]],.cells 369 [.func (.func 361) [] [.ref 0 0,.ref 1 0,.ref 3 0,.ref 2 0]]]
def aGl (c:Con) (used:List V3) (need:V3) (t:Int):List AObj:=[.fcells c.cs,.fcells [.slice 3 (vav used) .no],.fcells [ii t],.fcells need.cs,.cells 369 [.nilfunc],.cells 369 [.nilfunc],
 .fcells [YW c used need],.fcells [aBI c used need t]]
theorem aGk (c:Con) (used:List V3) (need:V3) (t:Int):frzs [6,7] (ruO c used need t)=aGl c used need t:=by kernel_rfl
theorem aCE (c:Con) (used:List V3) (need:V3) (t:Int):HC [10,11] (aE (aGl c used need t)) [(8,.ref 4 0),(9,.ref 5 0),(10,.ref 6 0),(11,.ref 7 0)]=[(8,.ref 4 0),(9,.ref 5 0),(10,.ptr [YW c used need]),(11,.ptr [aBI c used need t])]:=by kernel_rfl
theorem aCD {g:Goal} {ks:List KI} (c:Con) (used:List V3) (need:V3) (t:Int) (h:To (Er [] [16,17]) aIH g (.code ks [(8,.ref 4 0),(9,.ref 5 0),(10,.ptr [YW c used need]),(11,.ptr [aBI c used need t])] (aGl c used need t))):
  To (Er [] [16,17]) aIH g (.code ks [(8,.ref 4 0),(9,.ref 5 0),(10,.ref 6 0),(11,.ref 7 0)] (ruO c used need t)):=by
 refine To.frz [10,11] [6,7] ?_
 rw [aGk,aCE]
 exact h
theorem XQ (c:Con) (used:List V3) (need:V3) (t:Int):aA Tryz.prog 327 [c.av,.slice 3 (vav used) .no,ii t,need.av] [] (.ret (.tup [.agg [YW c used need],.agg [aBI c used need t]])) []:=by
 refine cT (E:=(Er [] [16,17])) (fn:=Tryz.f327) (g:=.pure _) fun _=>?_
 refine dP (hEr [] [16,17]) 51 ?_;conv=>whnf
 refine To.cutC [8,9,10,11] 8 rfl rfl rfl rfl ?_
 refine aCD c used need t ?_
 exact zW
theorem DV {P:Program} {l:Nat} {J J1:BInv} {p:Int->Bool} {V:Int->Prop} (h0:∀ x,V x->p x=true->bK P (.yield l) [ii x] [.bun 0 J] (.ret (.bool true)) [.bun 1 J]) (h1:∀ x,V x->p x=false->bK P (.yield l) [ii x] [.bun 0 J] (.ret (.bool false)) [.bun 1 J1]):
  ∀ (xs:List Int),(∀ x∈xs,V x)->Ylds P l xs J (if xs.all p=true then J else J1) (xs.all p)
 | [],_=>by simp;exact .nil _
 | x::r,hv=>by
  rw [Fk]
  cases hp:p x with
  | true=>
   rw [Cb]
   exact .next x r _ _ _ _ (h0 x (hv x (by simp)) hp) (DV h0 h1 r fun y hy=>hv y (by simp [hy]))
  | false=>
   rw [Dz,if_neg (by decide)]
   exact .stop x r _ _ (h1 x (hv x (by simp)) hp)
noncomputable abbrev LH:Func:=Tryz.f271
def N0 (c:Con) (used:List V3) (t:Int) (need:V3) (x:Int):Bool:=if decide (x=t)=true then aC6 c used need x else aE8 c used need t x
def KJ (c:Con) (used:List V3) (t:Int) (need:V3):Bool:=if aX c.ns t=true then (upL c.ns t).all (N0 c used t need) else false
def aDq (f:AVal):List (Nat×AVal):=[(6,.ref 1 0),(8,.ref 3 0),(9,.ref 4 0),(10,.ref 5 0),(26,f)]
def xD (c:Con) (used:List V3) (t:Int) (need:V3) (b:Bool) (o:AObj):List AObj:=[.cells 26 c.cs,.cells 3 [ii t],.cells 34 need.cs,.cells 4 [.bool b],.cells 369 [YW c used need],.cells 369 [aBI c used need t],.dead,o]
abbrev aB3 (c:Con):AVal:=.func (.func 333) [] [.ref 6 0,.ptr c.cs]
theorem aIo (c:Con) (hc:c.sm) (used:List V3) (t:Int) (need:V3) (x:Int) (hv:c.ok x) (k:Nat) (R:Loop) (hr:R.state= .ready) (hp:N0 c used t need x=true):
  To (El k [] [] []) LH (.keep 8 (.ret (.bool true)) (xD c used t need false (.bun 0 (bP k (busy R))))) (.code [.code (rfA LH),.beginR,.code (rfB LH)] (gK (aDq (aB3 c)) 27 (ii x)) (xD c used t need false (.bun 0 (bP k R)))):=by
 unfold N0 at hp
 by_cases hx:x=t
 .rw [if_pos (decide_eq_true hx)] at hp
  refine gV ?_
  refine To.beginR (k:=7) (gg:=0) rfl rfl hr ?_
  repeat' first | (refine gN (hEl k [] [] []) ?_;conv=>whnf) | refine .pure _ [] (GP c used need x hv) ?_ | refine .pure _ [] (yZ c hc used need t x) ?_ | exact ⟨⟨rfl,rfl⟩,⟨rfl,rfl⟩⟩ | exact rfl | refine aY ?_ | refine aN ?_ | refine aT fun h=>?_ | refine aF fun h=>?_ | refine ⟨fun h=>?_,fun h=>?_⟩ | refine aJ ?_ | refine ⟨_,rfl,?_⟩ | refine aD ?_ | fail
  all_goals (exfalso;simp_all)
 .rw [if_neg (by rw [decide_eq_false hx];decide)] at hp
  refine gV ?_
  refine To.beginR (k:=7) (gg:=0) rfl rfl hr ?_
  repeat' first | (refine gN (hEl k [] [] []) ?_;conv=>whnf) | refine .pure _ [] (GP c used need x hv) ?_ | refine .pure _ [] (yZ c hc used need t x) ?_ | exact ⟨⟨rfl,rfl⟩,⟨rfl,rfl⟩⟩ | exact rfl | refine aY ?_ | refine aN ?_ | refine aT fun h=>?_ | refine aF fun h=>?_ | refine ⟨fun h=>?_,fun h=>?_⟩ | refine aJ ?_ | refine ⟨_,rfl,?_⟩ | refine aD ?_ | fail
  all_goals (exfalso;simp_all)
theorem aDp (c:Con) (hc:c.sm) (used:List V3) (t:Int) (need:V3) (x:Int) (hv:c.ok x) (k:Nat) (R:Loop) (hr:R.state= .ready) (hp:N0 c used t need x=false):
  To (El k [] [] []) LH (.keep 8 (.ret (.bool false)) (xD c used t need false (.bun 0 (bP k (busy R))))) (.code [.code (rfA LH),.beginR,.code (rfB LH)] (gK (aDq (aB3 c)) 27 (ii x)) (xD c used t need false (.bun 0 (bP k R)))):=by
 unfold N0 at hp
 by_cases hx:x=t
 .rw [if_pos (decide_eq_true hx)] at hp
  refine gV ?_
  refine To.beginR (k:=7) (gg:=0) rfl rfl hr ?_
  repeat' first | (refine gN (hEl k [] [] []) ?_;conv=>whnf) | refine .pure _ [] (GP c used need x hv) ?_ | refine .pure _ [] (yZ c hc used need t x) ?_ | exact ⟨⟨rfl,rfl⟩,⟨rfl,rfl⟩⟩ | exact rfl | refine aY ?_ | refine aN ?_ | refine aT fun h=>?_ | refine aF fun h=>?_ | refine ⟨fun h=>?_,fun h=>?_⟩ | refine aJ ?_ | refine ⟨_,rfl,?_⟩ | refine aD ?_ | fail
  all_goals (exfalso;simp_all)
 .rw [if_neg (by rw [decide_eq_false hx];decide)] at hp
  refine gV ?_
  refine To.beginR (k:=7) (gg:=0) rfl rfl hr ?_
  repeat' first | (refine gN (hEl k [] [] []) ?_;conv=>whnf) | refine .pure _ [] (GP c used need x hv) ?_ | refine .pure _ [] (yZ c hc used need t x) ?_ | exact ⟨⟨rfl,rfl⟩,⟨rfl,rfl⟩⟩ | exact rfl | refine aY ?_ | refine aN ?_ | refine aT fun h=>?_ | refine aF fun h=>?_ | refine ⟨fun h=>?_,fun h=>?_⟩ | refine aJ ?_ | refine ⟨_,rfl,?_⟩ | refine aD ?_ | fail
  all_goals (exfalso;simp_all)
theorem aDz (c:Con) (hc:c.sm) (used:List V3) (t:Int) (need:V3) (r:Bool) (hr:KJ c used t need=r):aA Tryz.prog 271 [c.av,.slice 3 (vav used) .no,ii t,need.av] [] (.ret (.bool r)) []:=by
 have hnl:((nav c.ns).length:Int)<=9223372036854775807:=by have:=hc.ns;simp only [Cj];omega
 unfold KJ at hr
 refine cT (E:=E) (fn:=Tryz.f271) (g:=.pure _) fun _=>?_
 refine gV ?_
 refine .pure _ [] (kG c t) ?_
 refine gV ?_
 refine Ac (fun h1=>?_) (fun h1=>?_)
 .have h1:aX c.ns t=false:=oL h1
  rw [if_neg (by rw [h1];decide)] at hr
  subst hr
  exact zW
 .have h1:aX c.ns t=true:=oM h1
  rw [if_pos h1] at hr
  refine gV ?_
  refine .pure _ [] (XQ c used need t) ?_
  refine gV ?_
  refine .pure _ [.cells 3 [ii t]] (PU c t) ?_
  refine gV ?_
  refine To.cutC [6,8,9,10,26] 7 rfl rfl rfl rfl ?_
  refine To.range [6] rfl rfl (fun _ _=>by rfl) rfl (fun _ _=>rfl) rfl fun k ob0 R hst hR=>?_
  have hyl:=DV (P:=Tryz.prog) (l:=k) (p:=N0 c used t need) (V:=c.ok) (J:=iV ob0 (aDq (aB3 c)) R (xD c used t need false (.bun 0 (bP k R)))) (J1:=iV ob0 (aDq (aB3 c)) R (xD c used t need false (.bun 0 (bP k (kP R false)))))
   (fun x hv hp=>fY (E:=Ex [] [] []) (fn:=LH) (k:=7) (n:=8) (p:=27) (gg:=0) (L':=xD c used t need false (.bun 0 (bP k (busy R)))) (b:=true) hR.params hR.ready hR.pend hR.assign hR.body hR.size rfl rfl rfl rfl rfl rfl rfl fun _=>aIo c hc used t need x hv k R hR.ready hp)
   (fun x hv hp=>fY (E:=Ex [] [] []) (fn:=LH) (k:=7) (n:=8) (p:=27) (gg:=0) (L':=xD c used t need false (.bun 0 (bP k (busy R)))) (b:=false) hR.params hR.ready hR.pend hR.assign hR.body hR.size rfl rfl rfl rfl rfl rfl rfl fun _=>aDp c hc used t need x hv k R hR.ready hp) (upL c.ns t) (fun x hx=>FY c _ _ x hx)
  rw [hr] at hyl
  obtain ⟨m,g',hup⟩:=FZ k c t _ _ r hnl hyl
  cases r with
  | true=>
   refine ⟨_,true,_,[.cells 3 [m]],g',hup,rfl,rfl,?_⟩
   exact zW
  | false=>
   refine ⟨_,false,_,[.cells 3 [m]],g',hup,rfl,rfl,?_⟩
   exact zW
theorem aGS (c:Con) (hc:c.sm) (used:List V3) (t:Int) (need:V3):aA Tryz.prog 271 [c.av,.slice 3 (vav used) .no,ii t,need.av] [] (.ret (.bool (KJ c used t need))) []:=aDz c hc used t need _ rfl
def bF (hs:List Hos) (n:Int):Hos:=(hs[n.toNat]?).getD ⟨0,0,0,V3.zero⟩
theorem yQ {c:Con} {i:Nat} (h:i<c.hs.length):(hav c.hs)[i]? =some (bF c.hs (i:Int)).av:=by
 unfold bF
 rw [Ck,Aa h]
 exact uD h
theorem FU (l:List V3) (i:Nat) (v:V3):(vav l).set i v.av=vav (l.set i v):=by simp [vav,Gq]
def nG (need:V3) (xs:List V3) (h:Int):List V3:=if decide (0<=h)=true then (if decide (h<(xs.length:Int))=true then xs.set h.toNat (xS ((xs[h.toNat]?).getD V3.zero) need) else xs) else xs
theorem nF (need:V3) (xs:List V3) (h:Int):(nG need xs h).length=xs.length:=by unfold nG;split<;>(try split)<;>simp
def rU (xs:List V3) (x:Rn):List V3:=x.hs.foldl (nG x.g.need) xs
theorem qW (x:Rn):∀ (xs:List V3),(rU xs x).length=xs.length:=by
 unfold rU
 generalize x.hs=l
 induction l with
 | nil=>intro xs;rfl
 | cons h r ih=>intro xs;rw [Av,ih,nF]
def dQ (c:Con) (r:List Rn):List V3:=r.foldl rU ((Dh c.hs.length).map fun i:Nat=>(bF c.hs (i:Int)).c)
noncomputable abbrev xJ:Func:=Tryz.f200
abbrev frO (c:Con) (xs:List V3):List AObj:=[.cells 26 c.cs,.row 0 3 34 (vav xs)]
theorem aD1 (c:Con) (r:List Rn) (R:List V3) (x:Rn) (j:Nat) (hh:x.hs.length<=1048576) (hc:c.hs.length<=1048576) (O:List AObj):
  ∀ (m i:Nat) (xs:List V3),xs.length=c.hs.length->i+m=x.hs.length->
   To E xJ (.pure (.ret (.slice 3 (vav R) .no))) (.head (stk xJ 1) [(5,.row 1 0),(30,.slice 14 (rav r) .no),(31,.int .i64 ((rav r).length:Nat)),(32,.int .i64 ((j:Int)+1))] (frO c ((x.hs.drop i).foldl (nG x.g.need) xs)))->
   j<1048576->
  To E xJ (.pure (.ret (.slice 3 (vav R) .no))) (.head (stk xJ 2) [(5,.row 1 0),(9,.ref 2 0),(30,.slice 14 (rav r) .no),(31,.int .i64 ((rav r).length:Nat)),(32,.int .i64 j),(37,.slice 1 (iv x.hs) .no),(38,.int .i64 ((iv x.hs).length:Nat)),(39,.int .i64 i)] (frO c xs++[.cells 53 x.cs])):=by
 have hlen:(iv x.hs).length=x.hs.length:=by simp
 intro m
 induction m with
 | zero=>
  intro i xs hx hi hto hj
  rw [Ae (by omega)] at hto
  refine gV ?_
  exact zW
 | succ m ih=>
  intro i xs hx hi hto hj
  have hlt:i<x.hs.length:=by omega
  rw [Ad hlt,Av] at hto
  generalize hq:x.hs[i]=u0 at hto
  have get:(iv x.hs)[i]? =some (ii u0):=(dO hlt).trans (by rw [hq])
  have hvl:(vav xs).length=xs.length:=by simp
  have next:=ih (i+1) (nG x.g.need xs u0) (by rw [nF];exact hx) (by omega) hto hj
  unfold nG frO at next
  refine gV ?_
  refine aT fun h=>?_
  refine gV ?_
  refine ⟨i,rfl,?_⟩
  refine gV ?_
  refine ⟨_,get,?_⟩
  by_cases h1:0<=u0
  .rw [if_pos (decide_eq_true h1)] at next
   by_cases h2:u0<(xs.length:Int)
   .rw [if_pos (decide_eq_true h2)] at next
    have hl2:u0.toNat<xs.length:=by omega
    have hn:u0=(u0.toNat:Int):=by omega
    rw [Aa hl2] at next
    have gv:(vav xs)[u0.toNat]? =some xs[u0.toNat].av:=kD hl2
    rw [show ((some xs[u0.toNat]).getD V3.zero)=xs[u0.toNat] from rfl] at next
    generalize xs[u0.toNat]=u at gv next
    rw [<-FU] at next
    have z1_1:=FT u x.g.need
    exact zW
   .rw [if_neg (by rw [decide_eq_false h2];decide)] at next
    exact zW
  .rw [if_neg (by rw [decide_eq_false h1];decide)] at next
   exact zW
def Sm (l:List Rn):Prop:=l.length<=1048576/\∀ x∈l,x.hs.length<=1048576
theorem Sm.at {l:List Rn} (h:Sm l) {i:Nat} (hi:i<l.length):l[i].hs.length<=1048576:=h.2 _ (Bl hi)
theorem aAv (c:Con) (hc:c.sm) (r:List Rn) (hr:Sm r) (R:List V3):∀ (m i:Nat) (xs:List V3),i+m=r.length->xs.length=c.hs.length->(r.drop i).foldl rU xs=R->
  To E xJ (.pure (.ret (.slice 3 (vav R) .no))) (.head (stk xJ 1) [(5,.row 1 0),(30,.slice 14 (rav r) .no),(31,.int .i64 ((rav r).length:Nat)),(32,.int .i64 i)] (frO c xs)):=by
 have hlen:(rav r).length=r.length:=by simp
 have hl:=hr.1
 intro m
 induction m with
 | zero=>
  intro i xs hi hx hR
  rw [Ae (by omega)] at hR
  subst hR
  refine gV ?_
  exact zW
 | succ m ih=>
  intro i xs hi hx hR
  have hlt:i<r.length:=by omega
  have hb:=hr.at hlt
  rw [Ad hlt,Av] at hR
  generalize hq:r[i]=x at hR hb
  have get:(rav r)[i]? =some x.av:=(bN hlt).trans (by rw [hq])
  have next:=ih (i+1) (rU xs x) (by omega) (by rw [qW];exact hx) hR
  refine gV ?_
  refine aT fun h=>?_
  refine gV ?_
  refine ⟨i,rfl,?_⟩
  refine gV ?_
  refine ⟨_,get,?_⟩
  refine gV ?_
  exact To.cut [5,9,30,31,32,37,38,39] 3 rfl rfl rfl rfl (aD1 c r R x i hb hc.hs [] x.hs.length 0 xs hx (by omega) next (by omega))
theorem UT (c:Con) (hc:c.sm) (r:List Rn) (hr:Sm r):∀ (m i:Nat),i+m=c.hs.length->
  To E xJ (.pure (.ret (.slice 3 (vav (dQ c r)) .no))) (.head (stk xJ 0) [(1,.slice 14 (rav r) .no),(2,.ref 0 0),(5,.row 1 0),(17,.slice 6 (hav c.hs) .no),(18,.int .i64 ((hav c.hs).length:Nat)),(19,.int .i64 i)] (frO c (jM (fun i:Nat=>(bF c.hs (i:Int)).c) i m))):=by
 have hlen:(hav c.hs).length=c.hs.length:=by simp
 have h1:=hc.hs
 intro m
 induction m with
 | zero=>
  intro i hi
  rw [B6]
  refine gV ?_
  refine aF fun h=>?_
  refine gV ?_
  refine To.cut [5,30,31,32] 2 rfl rfl rfl rfl ?_
  exact aAv c hc r hr _ r.length 0 _ (by omega) (by simp;omega) (by unfold dQ;rw [<-hi];rfl)
 | succ m ih=>
  intro i hi
  have hl:(vav (jM (fun i:Nat=>(bF c.hs (i:Int)).c) i (m+1))).length=i+(m+1):=by rw [Cj,B5]
  have hs:=B4 (fun i:Nat=>(bF c.hs (i:Int)).c) i m
  have gn:(hav c.hs)[i]? =some (bF c.hs (i:Int)).av:=yQ (by omega)
  have next:=ih (i+1) (by omega)
  unfold frO at next
  rw [<-hs] at next
  refine gV ?_
  refine aT fun h=>?_
  refine gV ?_
  refine ⟨i,rfl,?_⟩
  refine gV ?_
  refine ⟨_,gn,?_⟩
  refine gV ?_
  refine ⟨i,rfl,?_⟩
  refine gV ?_
  refine ⟨by omega,?_⟩
  refine gV ?_
  refine ⟨by omega,?_⟩
  exact zW
theorem aD0 (c:Con) (hc:c.sm) (r:List Rn) (hr:Sm r):aA Tryz.prog 200 [c.av,.slice 14 (rav r) .no] [] (.ret (.slice 3 (vav (dQ c r)) .no)) []:=by
 have h1:=hc.hs
 have hlen:(hav c.hs).length=c.hs.length:=by simp
 refine cT (E:=E) (fn:=Tryz.f200) (g:=.pure _) fun _=>?_
 refine gV ?_
 refine ⟨c.hs.length,by rw [hlen],?_⟩
 refine gV ?_
 refine ⟨⟨rfl,by omega,by simp only [maxLen];omega⟩,?_⟩
 refine gV ?_
 have next:=UT c hc r hr c.hs.length 0 (by omega)
 unfold frO at next
 rw [vZ] at next
 exact To.cut [1,2,5,17,18,19] 2 rfl rfl rfl rfl next
theorem aF3 {a b:Int} (ha:0<=a) (hb:0<b) (h2:a<=9223372036854775807):inR .i64 (Hb a b):=by
 have h3:(Hb a b).natAbs<=a.natAbs:=by
  rw [Int.natAbs_tdiv]
  exact Dk _ _
 have h4:0<=Hb a b:=Int.tdiv_nonneg ha (by omega)
 exact ⟨by simp only [bY];omega,by simp only [bI];omega⟩
def xA (n free need:Int):Int:=if decide (0<need)=true then min n (Hb free need) else n
def fT (free need:V3):Int:=if cN need free=true then xA (xA (xA 16 free.a need.a) free.b need.b) free.c need.c else 0
theorem aJe (v:V3) (M:Imm) (ob:Hs) (vs:List Value) (qs:List AVal) (h:bV M ob vs (v.av::qs)):inR .i64 v.a/\inR .i64 v.b/\inR .i64 v.c:=by
 have hl:0<vs.length:=by rw [h.1];simp
 have:=h.2 0 _ v.av (Aa hl) rfl
 exact ⟨bS this 0 _ rfl,bS this 1 _ rfl,bS this 2 _ rfl⟩
theorem XX (free need:V3) (r:Int) (hr:fT free need=r):aA Tryz.prog 274 [free.av,need.av] [] (.ret (ii r)) []:=by
 refine aA.get _ (fun M ob vs h=>aJe free M ob vs _ h) fun ⟨⟨a1,a2⟩,⟨b1,b2⟩,⟨c1,c2⟩⟩=>?_
 simp only [bY,bI] at a1 a2 b1 b2 c1 c2
 unfold fT at hr
 refine cT (E:=E) (fn:=Tryz.f274) (g:=.pure _) fun _=>?_
 refine gV ?_
 refine .pure _ [] (II need free) ?_
 refine gV ?_
 refine Ac (fun h1=>?_) (fun h1=>?_)
 .have h1:cN need free=false:=oL h1
  rw [if_neg (by rw [h1];decide)] at hr
  subst hr
  exact zW
 .have h1:cN need free=true:=oM h1
  rw [if_pos h1] at hr
  unfold xA at hr
  have hf:need.a<=free.a/\need.b<=free.b/\need.c<=free.c:=by
   unfold cN at h1
   split at h1
   .cases h1
   .split at h1
    .cases h1
    .split at h1
     .cases h1
     .rename_i q1 q2 q3
      simp only [decide_eq_true_eq] at q1 q2 q3
      omega
  by_cases p1:0<need.a<;>by_cases p2:0<need.b<;>by_cases p3:0<need.c<;>simp only [p1,p2,p3,decide_true,decide_false,if_true,if_false,Db] at hr
  all_goals (refine gV ?_)
  all_goals repeat' first
   | (refine gV ?_)
   | exact hr▸rfl
   | refine aY ?_
   | refine aN ?_
   | refine aT fun h=>?_
   | refine aF fun h=>?_
   | refine aJ ?_
   | refine Fm (Ac (aF3 (by omega) (by omega) (by omega)) ?_)
   | refine Al _ (Ac rfl ?_)
   | refine Ac (by decide) ?_
   | refine Ac (by omega) ?_
   | fail
theorem aCM (free need:V3):aA Tryz.prog 274 [free.av,need.av] [] (.ret (ii (fT free need))) []:=XX free need _ rfl
def ofK (h:Hos) (i lv:Int):List Int:=[h.f,if decide (2<lv)=true then 0 else h.b,if decide (1<lv)=true then 0 else h.r,if decide (0<lv)=true then 0 else i]
theorem aDe (h:Hos) (i lv:Int) (K:List AVal) (hK:(ofK h i lv).map ii=K):aA Tryz.prog 331 [h.av,ii i,ii lv] [] (.ret (.agg K)) []:=by
 unfold ofK at hK
 refine cT (E:=E) (fn:=Tryz.f331) (g:=.pure _) fun _=>?_
 repeat' first | (refine gN hE ?_;conv=>whnf) | exact rfl | refine aY ?_ | refine aN ?_ | refine aT fun h=>?_ | refine aF fun h=>?_ | refine ⟨fun h=>?_,fun h=>?_⟩ | refine aJ ?_ | refine ⟨_,rfl,?_⟩ | refine aD ?_ | fail
 all_goals first
  | (subst hK;simp only [*,Db,if_true,if_false,List.map];done)
  | (exfalso;simp only [decide_eq_true_eq,decide_eq_false_iff_not] at *;omega)
theorem aGK (h:Hos) (i lv:Int):aA Tryz.prog 331 [h.av,ii i,ii lv] [] (.ret (.agg ((ofK h i lv).map ii))) []:=aDe h i lv _ rfl
theorem aFR {n:Nat} (h:n<=16):n=0\/n=1\/n=2\/n=3\/n=4\/n=5\/n=6\/n=7\/n=8\/n=9\/n=10\/n=11\/n=12\/n=13\/n=14\/n=15\/n=16:=by omega
theorem ZP (n:Nat) (hn:n<=16):aA Tryz.prog 301 [.int .u64 1,.int .u64 (n:Int)] [] (.ret (.tup [.int .u64 0,.int .u64 (n:Int)])) []:=by
 rcases aFR hn with rfl | rfl | rfl | rfl | rfl | rfl | rfl | rfl | rfl | rfl | rfl | rfl | rfl | rfl | rfl | rfl | rfl
 all_goals
  refine cT (E:=E) (fn:=Tryz.f301) (g:=.pure _) fun _=>?_
  repeat' first
   | (refine gN hE ?_;conv=>whnf)
   | exact rfl
   | refine Fm (Ac (Ac (by decide) (by decide)) ?_)
   | refine Ac (by decide) ?_
   | fail
theorem aGO (n:Nat) (hn:n<=16):aA Tryz.prog 382 [.int .u64 1,.int .u64 (n:Int)] [] (.ret (.tup [.int .u64 0,.int .u64 (n:Int)])) []:=by
 refine cT (E:=E) (fn:=Tryz.f382) (g:=.pure _) fun _=>?_
 have z0_1:=ZP n hn
 exact zW
def rp (h:Int) (k m:Nat):List AVal:=iv (Ah k h)++Ah m (ii 0)
theorem AG (h:Int) (k m:Nat):(rp h k m).length=k+m:=by simp [rp]
noncomputable abbrev aIJ:Func:=Tryz.f363
theorem aCI (h:Int) (k m:Nat):((k:Int)+ ↑(min (Hw k (Hi 0 (rp h k m))).length ((rp h k m).length-k)))=((k+min k m:Nat):Int)/\
  (rp h k m).take k++(Hw k (Hi 0 (rp h k m))).take ((rp h k m).length-k)++(rp h k m).drop (k+min (Hw k (Hi 0 (rp h k m))).length ((rp h k m).length-k))=rp h (k+min k m) (m-min k m):=by
 have hA:(iv (Ah k h)).length=k:=by simp
 have h1:(rp h k m).take k=iv (Ah k h):=by unfold rp;rw [Dm (by omega),Cl (by omega)]
 have hl:=AG h k m
 rw [Bt,h1,hl,hA,show k+m-k=m from by omega]
 refine ⟨by omega,?_⟩
 have h2:(rp h k m).drop (k+min k m)=Ah (m-min k m) (ii 0):=by
  unfold rp
  rw [List.drop_append,hA,List.drop_of_length_le (by omega),Bp,List.drop_replicate]
  congr 1
  omega
 rw [h2]
 unfold rp
 congr 1
 simp only [iv,List.map_replicate,List.take_replicate,List.replicate_append_replicate]
 congr 1
 omega
theorem YF (h0':Int) (N:Nat) (hN:N<=16):∀ (f k m:Nat),k+m=N->1<=k->m<=f->
  To (Er [] [38]) aIJ (.pure (.ret (.slice 1 (iv (Ah N h0')) .no))) (.head (stk aIJ 0) [(7,.row 0 0),(8,.int .i64 (k:Int))] [.row 0 1 3 (rp h0' k m)]):=by
 intro f
 induction f with
 | zero=>
  intro k m hk h1 hm
  have hm:m=0:=by omega
  subst hm
  have hl:=AG h0' k 0
  have hk:k=N:=by omega
  subst hk
  have e:rp h0' k 0=iv (Ah k h0'):=by simp [rp]
  rw [e] at hl⊢
  refine gV ?_
  exact zW
 | succ f ih=>
  intro k m hk h1 hm
  by_cases h0:m=0
  .subst h0
   have hl:=AG h0' k 0
   have hk:k=N:=by omega
   subst hk
   have e:rp h0' k 0=iv (Ah k h0'):=by simp [rp]
   rw [e] at hl⊢
   refine gV ?_
   exact zW
  have hl:=AG h0' k m
  have next:=ih (k+min k m) (m-min k m) (by omega) (by omega) (by omega)
  generalize hX:rp h0' k m=X at hl⊢
  refine gV ?_
  refine aT fun h=>?_
  refine gV ?_
  refine ⟨k,rfl,?_⟩
  refine gV ?_
  refine ⟨by omega,?_⟩
  refine gV ?_
  refine ⟨k,rfl,?_⟩
  refine gV ?_
  refine ⟨by omega,?_⟩
  refine gV ?_
  rw [<-hX] at hl⊢
  obtain ⟨e1,e2⟩:=aCI h0' k m
  rw [<-e1,<-e2] at next
  have e3:min (Hw k (Hi 0 (rp h0' k m))).length ((rp h0' k m).length-k)<=16:=by
   have:(rp h0' k m).length=k+m:=AG h0' k m
   omega
  exact zW
theorem XU (h:Int) (m:Nat):((1:Nat):Int)= ↑(min [ii h].length (Ah (m+1) (AVal.int .i64 0)).length)/\rp h 1 m=[ii h].take (Ah (m+1) (AVal.int .i64 0)).length++(Ah (m+1) (AVal.int .i64 0)).drop [ii h].length:=by
 refine ⟨by simp,?_⟩
 simp [rp,List.drop_replicate]
theorem aGu (h:Int) (n:Nat) (hn:n<=16):aA Tryz.prog 363 [.slice 1 [ii h] .no,ii (n:Int)] [] (.ret (.slice 1 (iv (Ah n h)) .no)) []:=by
 have hm:=aGO n hn
 cases n with
 | zero=>
  refine cT (E:=(Er [] [38])) (fn:=Tryz.f363) (g:=.pure _) fun _=>?_
  refine gV ?_
  refine aF fun h=>?_
  refine gV ?_
  refine Fm (Ac (Ac (by simp only [bY,Bo,Fz];omega) (by simp only [bI,Bo,Fz];omega)) ?_)
  refine gV ?_
  refine Fm (Ac (Ac (by simp only [bY];omega) (by simp only [bI];omega)) ?_)
  refine gV ?_
  refine .pure _ [] hm ?_
  refine gV ?_
  refine aF fun h=>?_
  refine gV ?_
  refine aF fun h=>?_
  refine gV ?_
  refine Fm (Ac (Ac (by simp only [bY];omega) (by simp only [bI];omega)) ?_)
  refine gV ?_
  refine ⟨0,rfl,?_⟩
  refine gV ?_
  refine ⟨⟨rfl,by omega,by simp only [maxLen];omega⟩,?_⟩
  refine gV ?_
  refine gV ?_
  exact zW
 | succ m=>
  have next:=YF h (m+1) hn (m+1) 1 m (by omega) (by omega) (by omega)
  obtain ⟨e1,e2⟩:=XU h m
  rw [e1,e2] at next
  refine cT (E:=(Er [] [38])) (fn:=Tryz.f363) (g:=.pure _) fun _=>?_
  refine gV ?_
  refine aF fun h=>?_
  refine gV ?_
  refine Fm (Ac (Ac (by simp only [bY,Bo,Fz];omega) (by simp only [bI,Bo,Fz];omega)) ?_)
  refine gV ?_
  refine Fm (Ac (Ac (by simp only [bY];omega) (by simp only [bI];omega)) ?_)
  refine gV ?_
  refine .pure _ [] hm ?_
  refine gV ?_
  refine aF fun h=>?_
  refine gV ?_
  refine aF fun h=>?_
  refine gV ?_
  refine Fm (Ac (Ac (by simp only [bY];omega) (by simp only [bI];omega)) ?_)
  refine gV ?_
  refine ⟨m+1,rfl,?_⟩
  refine gV ?_
  refine ⟨⟨rfl,by omega,by simp only [maxLen];omega⟩,?_⟩
  exact zW
theorem XY (a b:V3):fT a b<=16:=by
 have h:∀ n f k,n<=16->xA n f k<=16:=fun n f k h=>by unfold xA;split<;>omega
 unfold fT
 split
 .exact h _ _ _ (h _ _ _ (h _ _ _ (by decide)))
 .decide
def inN (free need:V3) (pods len:Int):Int:=min (fT free need) (pods-len)
def inS (free:List V3) (g:Gan) (out:List Int) (h:Int):List Int:=if decide (h<0)=true then out else if decide ((free.length:Int)<=h)=true then out else out++Ah (max (inN ((free[h.toNat]?).getD V3.zero) g.need g.pods out.length) 0).toNat h
def inL (free:List V3) (g:Gan) (gr:List Int):List Int:=gr.foldl (inS free g) []
theorem G5 (free:List V3) (g:Gan) (out:List Int) (h:Int) (hp:(out.length:Int)<=g.pods):((inS free g out h).length:Int)<=g.pods:=by
 unfold inS
 split
 .exact hp
 .split
  .exact hp
  .simp only [Aw,Gy,inN]
   omega
noncomputable abbrev fIn:Func:=Tryz.f328
def aAe (out:List Int) (g:Gan):AVal:=if decide ((out.length:Int)<g.pods)=true then .tup [.slice 1 [] .no,.bool false] else .tup [.slice 1 (iv out) .no,.bool true]
theorem aDM (c:Con) (free:List V3) (g:Gan) (hg:0<=g.pods/\g.pods<=16) (gr:List Int) (hl:gr.length<=1048576) (R:List Int):∀ (m i:Nat) (out:List Int),i+m=gr.length->(out.length:Int)<=g.pods->(gr.drop i).foldl (inS free g) out=R->
  To (Eo [10] []) fIn (.pure (.ret (aAe R g))) (.head (stk fIn 0) [(1,.slice 3 (vav free) .no),(7,.ref 1 0),(10,.slice 1 (iv out) (.own 2 0)),(14,.slice 1 (iv gr) .no),(15,.int .i64 ((iv gr).length:Nat)),(16,.int .i64 i)] [.cells 26 c.cs,.cells 36 g.cs,.tail 0 1 3]):=by
 have hlen:(iv gr).length=gr.length:=by simp
 have hfl:(vav free).length=free.length:=by simp
 intro m
 induction m with
 | zero=>
  intro i out hi hp hR
  rw [Ae (by omega)] at hR
  have hR:out=R:=hR
  subst hR
  have hol:(iv out).length=out.length:=by simp
  obtain ⟨Q,hQ⟩:∃ Q,Q=aAe out g:=⟨_,rfl⟩
  rw [<-hQ]
  unfold aAe at hQ
  by_cases h1:(out.length:Int)<g.pods
  .rw [if_pos (decide_eq_true h1)] at hQ
   subst hQ
   refine gV ?_
   exact zW
  .rw [if_neg (by rw [decide_eq_false h1];decide)] at hQ
   subst hQ
   refine gV ?_
   exact zW
 | succ m ih=>
  intro i out hi hp hR
  have hlt:i<gr.length:=by omega
  rw [Ad hlt,Av] at hR
  have hp2:=G5 free g out gr[i] hp
  generalize hx:gr[i]=u0 at hR hp2
  have get:(iv gr)[i]? =some (ii u0):=(dO hlt).trans (by rw [hx])
  have hol:(iv out).length=out.length:=by simp
  have next:=ih (i+1) (inS free g out u0) (by omega) hp2 hR
  unfold inS at next
  refine gV ?_
  refine aT fun h=>?_
  refine gV ?_
  refine ⟨i,rfl,?_⟩
  refine gV ?_
  refine ⟨_,get,?_⟩
  by_cases h1:u0<0
  .rw [if_pos (decide_eq_true h1)] at next
   exact zW
  .rw [if_neg (by rw [decide_eq_false h1];decide)] at next
   by_cases h2:(free.length:Int)<=u0
   .rw [if_pos (decide_eq_true h2)] at next
    exact zW
   .rw [if_neg (by rw [decide_eq_false h2];decide)] at next
    have hl2:u0.toNat<free.length:=by omega
    have hn:u0=(u0.toNat:Int):=by omega
    rw [Aa hl2] at next
    have gv:(vav free)[u0.toNat]? =some free[u0.toNat].av:=kD hl2
    rw [show ((some free[u0.toNat]).getD V3.zero)=free[u0.toNat] from rfl] at next
    generalize free[u0.toNat]=f0 at gv next
    have hr16:=XY f0 g.need
    have hn16:(max (inN f0 g.need g.pods out.length) 0).toNat<=16:=by unfold inN;omega
    have hnn:max (min (fT f0 g.need) (g.pods-((iv out).length:Nat))) 0=(((max (inN f0 g.need g.pods out.length) 0).toNat:Nat):Int):=by unfold inN;rw [hol];omega
    have hrep:=aGu u0 _ hn16
    rw [<-hnn] at hrep
    generalize hN:(max (inN f0 g.need g.pods out.length) 0).toNat=N at hn16 hrep next
    have e:iv (out++Ah N u0)=iv out++iv (Ah N u0):=by simp
    rw [e] at next
    have hrl:(iv (Ah N u0)).length=N:=by simp
    have hpb:=hg.1
    have hpb2:=hg.2
    repeat' first | (refine gN (hEo [10] []) ?_;conv=>whnf) | refine ⟨u0.toNat,hn,?_⟩ | refine ⟨_,gv,?_⟩ | refine .pure _ [] (aCM f0 g.need) ?_ | refine .pure _ [] (aA.strip hrep) ?_ | refine Ac (Ac (by simp only [maxLen];omega) (by omega)) ?_ | exact rfl | refine aY ?_ | refine aN ?_ | refine aT fun h=>?_ | refine aF fun h=>?_ | refine ⟨fun h=>?_,fun h=>?_⟩ | refine aJ ?_ | refine ⟨_,rfl,?_⟩ | refine aD ?_ | fail
    exact zW
theorem aIv (c:Con) (free:List V3) (g:Gan) (hg:0<=g.pods/\g.pods<=16) (gr:List Int) (hl:gr.length<=1048576):aA Tryz.prog 328 [c.av,.slice 3 (vav free) .no,.slice 1 (iv gr) .no,g.av] [] (.ret (aAe (inL free g gr) g)) []:=by
 refine cT (E:=(Eo [10] [])) (fn:=Tryz.f328) (g:=.pure _) fun _=>?_
 have z5_1:=aDM c free g hg gr hl _ gr.length 0 [] (by omega) (by simpa using hg.1) rfl
 exact zW
noncomputable abbrev qX:Func:=Tryz.f276
abbrev GSt:=List (List Int×Nat)×List (List Int)
def kV:List (List Int×Nat)->List Int->Option Nat
 | [],_=>none
 | (k,v)::r,x=>if k=x then some v else kV r x
abbrev kav (es:List (List Int×Nat)):List (List Int×AVal):=es.map fun p=>(p.1,ii p.2)
theorem BN (x:List Int):∀ es,dJ (kav es) x=(kV es x).map fun n:Nat=>ii n
 | []=>rfl
 | (k,v)::r=>by
  show (if k=x then some (ii v) else dJ (kav r) x)=(if k=x then some v else kV r x).map _
  split
  .rfl
  .exact BN x r
theorem Q9 (x:List Int) (v:Nat):∀ es,kV es x=none->xZ (kav es) x (ii v)=kav (es++[(x,v)])
 | [],_=>rfl
 | (k,u)::r,h=>by
  have h:(if k=x then some u else kV r x)=none:=h
  show (if k=x then (x,ii v)::kav r else (k,ii u)::xZ (kav r) x (ii v))=(k,ii u)::kav (r++[(x,v)])
  split at h
  .cases h
  .rename_i hne
   rw [if_neg hne,Q9 x v r h]
def gpS (c:Con) (lv:Int) (s:GSt) (i:Nat):GSt:=
 match kV s.1 (ofK (bF c.hs (i:Int)) i lv) with
 | some k=>(s.1,s.2.set k ((s.2[k]?).getD []++[(i:Int)]))
 | none=>(s.1++[(ofK (bF c.hs (i:Int)) i lv,s.2.length)],s.2++[[(i:Int)]])
def gpL (c:Con) (lv:Int):List (List Int):=if decide (lv<0)=true then [] else if decide (3<lv)=true then [] else ((Dh c.hs.length).foldl (gpS c lv) ([],[])).2
abbrev gav (l:List (List Int)):List AVal:=l.map fun xs=>.slice 1 (iv xs) .no
abbrev K7 (c:Con) (gr gb:Nat) (es:List (List Int×Nat)) (ms:List Hm):List AObj:=[.cells 26 c.cs,.row gr 1 47 (ms.map hmA),.mp true (kav es),.bun gb (lM 1 3 ms)]
abbrev aIx (c:Con) (lv:Int) (gr i:Nat):List (Nat×AVal):=[(1,ii lv),(5,.row 1 gr),(6,.mref 2),(20,.slice 6 (hav c.hs) .no),(21,.int .i64 ((hav c.hs).length:Nat)),(22,ii i)]
theorem aAl (c:Con) (lv:Int) (G:Goal) (i k:Nat) (hi:i<1048576) (ms:List Hm) (m:Hm) (hm:ms[k]? =some m) (hml:m.2.2.length<=1048576) (hms:ms.length<=1048576) (es:List (List Int×Nat)) (hG:Ft G.n0 4=true)
  (next:∀ a c',To (Er [5] []) qX G (.code (iG qX 14) (aIx c lv 0 i) (K7 c 0 1 es (ms.set k (a,c',m.2.2++[ii i]))))):
  To (Er [5] []) qX G (.code (gH qX 14) [(1,ii lv),(5,.row 1 0),(6,.mref 2),(7,ii i),(10,ii k),(20,.slice 6 (hav c.hs) .no),(21,.int .i64 ((hav c.hs).length:Nat)),(22,ii i)] (K7 c 0 0 es ms)):=by
 refine To.handAt (hEr [5] []) 8 [] rfl rfl rfl ?_;conv=>whnf
 refine ⟨k,rfl,?_⟩;conv=>whnf
 have hma:(ms.map hmA)[k]? =some (hmA m):=by rw [Bi,hm];rfl
 refine ⟨by have:=(Ab.1 hm).1;simpa using this,?_⟩;conv=>whnf
 refine ⟨_,hma,?_⟩;conv=>whnf
 refine .mk 3 0 k ms m [ii i] 3 1 8 1 false (.slice 1 [] .nil) rfl hm rfl rfl rfl rfl ⟨by show _+1<=_;simp only [maxLen];omega,by show (_+1)*8<=_;omega⟩ fun a c'=>?_
 have hkl:k<(ms.map hmA).length:=by have:=(Ab.1 hm).1;simpa using this
 have next:=next a c'
 unfold K7 at next
 rw [Gq] at next
 refine gV ?_
 refine ⟨k,rfl,?_⟩
 refine gV ?_
 refine ⟨hkl,?_⟩
 refine gV ?_
 refine ⟨hkl,?_⟩
 refine dP (hEr [5] []) 3 ?_;conv=>whnf
 refine To.cutC (fr:=[(1,_),(5,_),(6,_),(7,_),(10,_),(20,_),(21,_),(22,_),(47,_),(48,_),(49,_),(50,_),(51,_),(52,_),(53,_),(54,_),(55,_),(56,_)]) (obs:=[_,_,_,_]) [1,5,6,20,21,22] 4 hG rfl rfl rfl ?_
 exact next
theorem EQ (x:List Int) (v:Nat) (y:List Int):∀ es,kV (es++[(x,v)]) y=match kV es y with | some k=>some k | none=>if x=y then some v else none
 | []=>rfl
 | (k,u)::r=>by
  show (if k=y then some u else kV (r++[(x,v)]) y)=match (if k=y then some u else kV r y) with | some k=>some k | none=>if x=y then some v else none
  split
  .rfl
  .exact EQ x v y r
structure GI (i:Nat) (s:GSt):Prop where
 key:∀ p∈s.1,p.1.length=4
 at':∀ x k,kV s.1 x=some k->k<s.2.length
 len:s.2.length<=i
 each:∀ xs∈s.2,xs.length<=i
theorem GI.step {c:Con} {lv:Int} {i:Nat} {s:GSt} (h:GI i s):GI (i+1) (gpS c lv s i):=by
 obtain ⟨h1,h2,h3,h4⟩:=h
 unfold gpS
 split
 .rename_i k hk
  refine ⟨h1,fun x k h=>by simpa using h2 x k h,by simp;omega,fun xs hx=>?_⟩
  rcases Di hx with hx | rfl
  .have:=h4 xs hx;omega
  .have hl:=h2 _ k hk
   rw [Aa hl]
   have:=h4 _ (Bl hl)
   simp
   omega
 .rename_i hk
  refine ⟨fun p hp=>?_,fun x k hx=>?_,by simp;omega,fun xs hx=>?_⟩
  .rcases Ba.1 hp with hp | hp
   .exact h1 p hp
   .simp at hp;subst hp;rfl
  .rw [EQ] at hx
   split at hx
   .rename_i k' hk'
    have:=h2 x k' hk'
    cases hx
    simp;omega
   .split at hx
    .cases hx;simp
    .cases hx
  .rcases Ba.1 hx with hx | hx
   .have:=h4 xs hx;omega
   .simp at hx;subst hx;simp
theorem aDW (c:Con) (hc:c.sm) (lv:Int) (p1:0<=lv) (p2:lv<=3) (R:List (List Int)):∀ (n i:Nat) (s:GSt) (ms:List Hm),i+n=c.hs.length->ms.map (fun m=>m.2.2)=s.2.map iv->GI i s->((Mp i n).foldl (gpS c lv) s).2=R->
  To (Er [5] []) qX (.pure (.ret (.slice 1 (gav R) .no))) (.head (stk qX 0) (aIx c lv 0 i) (K7 c 0 0 s.1 ms)):=by
 have h1:=hc.hs
 have hlen:(hav c.hs).length=c.hs.length:=by simp
 intro n
 induction n with
 | zero=>
  intro i s ms hi hms hG hR
  have hR:s.2=R:=hR
  subst hR
  refine To.ofC (To.famFrz 3 1 rfl rfl ?_)
  have e:(ms.map fun m=>AVal.slice 1 m.2.2 .no)=gav s.2:=by
   have:=congrArg (List.map fun xs=>AVal.slice 1 xs .no) hms
   rw [Fg,Fg] at this
   exact this
  rw [e]
  refine To.toC ?_
  refine gV ?_
  exact zW
 | succ n ih=>
  intro i s ms hi hms hG hR
  rw [Lt,Av] at hR
  have gn:(hav c.hs)[i]? =some (bF c.hs (i:Int)).av:=yQ (by omega)
  have next:=fun ms' h=>ih (i+1) (gpS c lv s i) ms' (by omega) h hG.step hR
  have hkey:∀ p∈kav s.1,p.1.length=4:=fun p hp=>by
   obtain ⟨q,hq,rfl⟩:=Bx.1 hp
   exact hG.key q hq
  refine gV ?_
  refine aT fun h=>?_
  refine gV ?_
  refine ⟨i,rfl,?_⟩
  refine gV ?_
  refine ⟨_,gn,?_⟩
  refine gV ?_
  refine .pure _ [] (aGK (bF c.hs (i:Int)) i lv) ?_
  refine gV ?_
  refine ⟨hkey,?_⟩
  refine gV ?_
  cases hk:kV s.1 (ofK (bF c.hs (i:Int)) i lv) with
  | none=>
   have hf:dJ (kav s.1) (ofK (bF c.hs (i:Int)) i lv)=none:=by rw [BN,hk];rfl
   refine ⟨_,hf,?_⟩
   refine gV ?_
   refine aY ?_
   refine gV ?_
   refine ⟨hkey,?_⟩
   refine gV ?_
   have hmlen:ms.length=s.2.length:=by have:=congrArg Lj hms;simpa using this
   have hb2:=hG.len
   have hml:(ms.map hmA).length=ms.length:=by simp
   refine ⟨⟨by show (ms.map hmA).length+1<=_;simp only [maxLen];omega,by show ((ms.map hmA).length+1)*24<=_;omega⟩,?_⟩
   refine dP (hEr [5] []) 6 ?_;conv=>whnf
   have hL:(ms.map hmA).length=s.2.length:=hml.trans hmlen
   have e:=Q9 (ofK (bF c.hs (i:Int)) i lv) (ms.map hmA).length s.1 hk
   have eg:gpS c lv s i=(s.1++[(ofK (bF c.hs (i:Int)) i lv,(ms.map hmA).length)],s.2++[[(i:Int)]]):=by
    unfold gpS
    rw [hk,hL]
   rw [eg] at next
   have hm:(ms++[((none,0,[]):Hm)])[(ms.map hmA).length]? =some (none,0,[]):=by rw [hml,Aj (Au _)];simp
   have app:=aAl c lv (.pure (.ret (.slice 1 (gav R) .no))) i (ms.map hmA).length (by omega) (ms++[(none,0,[])]) _ hm (by simp) (by simp;omega) (s.1++[(ofK (bF c.hs (i:Int)) i lv,(ms.map hmA).length)]) rfl fun a c'=>by
    have next:=next ((ms++[(none,0,[])]).set (ms.map hmA).length (a,c',[]++[ii i])) (by rw [hml,Hz _ _ (Au _)];simp [hms])
    exact zW
   unfold K7 at app
   rw [<-e] at app
   refine To.cutC [1,5,6,7,10,20,21,22] 4 rfl rfl rfl rfl ?_
   refine To.objTo 1 (x:=.row 1 1 47 (ms.map hmA++[.nilslice])) (x':=.row 1 1 47 ((ms++[(none,0,[])]).map hmA)) rfl (fun h=>by cases h) rfl (fun M ob w hs _ h=>aCK h) ?_
   refine To.objTo 3 (x:=.bun 0 (lM 1 3 ms)) (x':=.bun 0 (lM 1 3 (ms++[(none,0,[])]))) rfl (fun h=>by cases h) rfl (fun M ob w hs _ h=>aD7 h) ?_
   refine To.toC ?_
   refine To.part [1,5,6,7,10,20,21,22] [0,1,2,3] rfl rfl rfl ?_
   refine To.ofC ?_
   exact app
  | some k=>
   have hf:dJ (kav s.1) (ofK (bF c.hs (i:Int)) i lv)=some (ii k):=by rw [BN,hk];rfl
   refine ⟨_,hf,?_⟩
   refine gV ?_
   refine aN ?_
   refine dP (hEr [5] []) 1 ?_;conv=>whnf
   have hkl:=hG.at' _ k hk
   have hml:(ms.map (fun m=>m.2.2))[k]? =some (iv s.2[k]):=by rw [hms,Bi,Aa hkl];rfl
   rw [Bi] at hml
   obtain ⟨m,hm,hmx⟩:=Co.1 hml
   have hmx:m.2.2=iv s.2[k]:=hmx
   have hmlen:ms.length=s.2.length:=by have:=congrArg Lj hms;simpa using this
   have hb1:=hG.each _ (Bl hkl)
   have hb2:=hG.len
   have eg:gpS c lv s i=(s.1,s.2.set k (s.2[k]++[(i:Int)])):=by
    unfold gpS
    rw [hk]
    show (s.1,s.2.set k ((s.2[k]?).getD []++[(i:Int)]))=_
    rw [Aa hkl]
    rfl
   rw [eg] at next
   refine To.cutC [1,5,6,7,10,20,21,22] 4 rfl rfl rfl rfl ?_
   refine aAl c lv _ i k (by omega) ms m hm (by rw [hmx];simp;omega) (by omega) s.1 rfl fun a c'=>?_
   have next:=next (ms.set k (a,c',m.2.2++[ii i])) (by rw [Gq,Gq,hms,hmx];simp)
   exact zW
theorem UR (c:Con) (hc:c.sm) (lv:Int):aA Tryz.prog 276 [c.av,ii lv] [] (.ret (.slice 1 (gav (gpL c lv)) .no)) []:=by
 have h1:=hc.hs
 have hlen:(hav c.hs).length=c.hs.length:=by simp
 obtain ⟨R,hR⟩:∃ R,R=gpL c lv:=⟨_,rfl⟩
 rw [<-hR]
 unfold gpL at hR
 refine cT (E:=(Er [5] [])) (fn:=Tryz.f276) (g:=.pure _) fun _=>?_
 by_cases p1:lv<0
 .rw [if_pos (decide_eq_true p1)] at hR
  subst hR
  exact zW
 rw [if_neg (by rw [decide_eq_false p1];decide)] at hR
 by_cases p2:3<lv
 .rw [if_pos (decide_eq_true p2)] at hR
  subst hR
  exact zW
 rw [if_neg (by rw [decide_eq_false p2];decide),Kh] at hR
 repeat' first | (refine gN (hEr [5] []) ?_;conv=>whnf) | exact rfl | refine aY ?_ | refine aN ?_ | refine aT fun h=>?_ | refine aF fun h=>?_ | refine ⟨fun h=>?_,fun h=>?_⟩ | refine aJ ?_ | refine ⟨_,rfl,?_⟩ | refine aD ?_ | fail
 refine To.ofC (To.beginF 1 3 ?_)
 refine To.toC ?_
 have:=aDW c hc lv (by omega) (by omega) R c.hs.length 0 ([],[]) [] (by omega) rfl ⟨fun p h=>(by simp at h),fun x k h=>(by cases h),Au _,fun xs h=>by simp at h⟩ hR.symm
 exact zW
structure GO (n i:Nat) (s:GSt):Prop where
 base:GI i s
 ok:∀ xs∈s.2,xs≠[]/\∀ h∈xs,0<=h/\h<(n:Int)
theorem GO.step {c:Con} {lv:Int} {n i:Nat} {s:GSt} (hi:i<n) (h:GO n i s):GO n (i+1) (gpS c lv s i):=by
 refine ⟨h.base.step,?_⟩
 obtain ⟨hb,h4⟩:=h
 have one:∀ h∈[(i:Int)],0<=h/\h<(n:Int):=fun h hh=>by simp at hh;omega
 unfold gpS
 split
 .rename_i k hk
  intro xs hx
  rcases Di hx with hx | rfl
  .exact h4 xs hx
  .refine ⟨by simp,fun h hh=>?_⟩
   rcases Ba.1 hh with hh | hh
   .have hl:=hb.at' _ k hk
    rw [Aa hl] at hh
    exact (h4 _ (Bl hl)).2 h hh
   .exact one h hh
 .intro xs hx
  rcases Ba.1 hx with hx | hx
  .exact h4 xs hx
  .have hx:xs=[(i:Int)]:=by simpa using hx
   subst hx
   exact ⟨by simp,one⟩
theorem GO.fold {c:Con} {lv:Int} {n:Nat}:∀ (m i:Nat) (s:GSt),i+m=n->GO n i s->GO n n ((Mp i m).foldl (gpS c lv) s)
 | 0,i,s,hi,h=>by have:i=n:=by omega
                  subst this;exact h
 | m+1,i,s,hi,h=>by
  rw [Lt,Av]
  exact GO.fold m (i+1) _ (by omega) (h.step (by omega))
theorem aG8 (c:Con) (lv:Int):(gpL c lv).length<=c.hs.length/\∀ xs∈gpL c lv,xs≠[]/\xs.length<=c.hs.length/\∀ h∈xs,0<=h/\h<(c.hs.length:Int):=by
 unfold gpL
 split
 .exact ⟨Cr _,fun xs h=>by simp at h⟩
 split
 .exact ⟨Cr _,fun xs h=>by simp at h⟩
 rw [Kh]
 have:=GO.fold (c:=c) (lv:=lv) (n:=c.hs.length) c.hs.length 0 ([],[]) (by omega) ⟨⟨fun p h=>(by simp at h),fun x k h=>(by cases h),Au _,fun xs h=>(by simp at h)⟩,fun xs h=>(by simp at h)⟩
 exact ⟨this.base.len,fun xs hx=>⟨(this.ok xs hx).1,this.base.each xs hx,(this.ok xs hx).2⟩⟩
def fdG (c:Con) (free:List V3) (g:Gan):List (List Int)->Option (Int×List Int)
 | []=>none
 | gr::r=>if decide (((inL free g gr).length:Int)<g.pods)=true then fdG c free g r else some ((bF c.hs (gr.headD 0)).f,inL free g gr)
def fdL (c:Con) (free:List V3) (g:Gan):Nat->Int->Option (Int×List Int)
 | 0,_=>none
 | n+1,lv=>match fdG c free g (gpL c lv) with
  | some x=>some x
  | none=>fdL c free g n (lv+1)
def fdA:Option (Int×List Int)->AVal
 | some x=>.tup [ii x.1,.slice 1 (iv x.2) .no,.bool true]
 | none=>.tup [ii 0,.slice 1 [] .no,.bool false]
def xI (c:Con) (free:List V3) (g:Gan):Option (Int×List Int):=fdL c free g (min g.lev 3+1-max g.pref 0).toNat (max g.pref 0)
noncomputable abbrev FB:Func:=Tryz.f272
abbrev RV (c:Con) (g:Gan):List AObj:=[.cells 26 c.cs,.cells 36 g.cs]
abbrev aHm (free:List V3) (lv:Int):List (Nat×AVal):=[(1,.slice 3 (vav free) .no),(3,.ref 0 0),(5,.ref 1 0),(9,ii lv)]
theorem aDY {l:List (List Int)} {i:Nat} (h:i<l.length):(gav l)[i]? =some (.slice 1 (iv l[i]) .no):=by simp [gav,h]
theorem aIC (c:Con) (hc:c.sm) (free:List V3) (g:Gan) (hg:0<=g.pods/\g.pods<=16) (lv:Int) (hl0:0<=lv) (hl3:lv<=3) (Q:Option (Int×List Int)) (grs:List (List Int)) (hgl:grs.length<=1048576) (hgr:∀ xs∈grs,xs≠[]/\xs.length<=c.hs.length/\∀ h∈xs,0<=h/\h<(c.hs.length:Int)):
  ∀ (m i:Nat),i+m=grs.length->(∀ x,fdG c free g (grs.drop i)=some x->Q=some x)->(fdG c free g (grs.drop i)=none->To E FB (.pure (.ret (fdA Q))) (.head (stk FB 0) (aHm free (lv+1)) (RV c g)))->
  To E FB (.pure (.ret (fdA Q))) (.head (stk FB 1) (aHm free lv++[(26,.slice 1 (gav grs) .no),(27,.int .i64 ((gav grs).length:Nat)),(28,ii i)]) (RV c g)):=by
 have hlen:(gav grs).length=grs.length:=by simp
 have hhl:(hav c.hs).length=c.hs.length:=by simp
 have hch:=hc.hs
 intro m
 induction m with
 | zero=>
  intro i hi hs hn
  rw [Ae (by omega)] at hn
  have hn:=hn rfl
  refine gV ?_
  exact zW
 | succ m ih=>
  intro i hi hs hn
  have hlt:i<grs.length:=by omega
  have ih:=ih (i+1) (by omega)
  rw [Ad hlt] at hs hn
  have hgx:=hgr _ (Bl hlt)
  have get:=aDY hlt
  generalize grs[i]=gr at hs hn hgx get
  obtain ⟨gne,gle,gin⟩:=hgx
  have hin:=aIv c free g hg gr (by omega)
  unfold fdG at hs hn
  unfold aAe at hin
  refine gV ?_
  refine aT fun h=>?_
  refine gV ?_
  refine ⟨i,rfl,?_⟩
  refine gV ?_
  refine ⟨_,get,?_⟩
  refine gV ?_
  by_cases p1:((inL free g gr).length:Int)<g.pods
  .rw [if_pos (decide_eq_true p1)] at hs hn hin
   have next:=ih hs hn
   exact zW
  .rw [if_neg (by rw [decide_eq_false p1];decide)] at hs hn hin
   have hQ:=hs _ rfl
   subst hQ
   match gr,gne with
   | u0::r,_=>
   have hu:=gin u0 (by simp)
   have gn:(hav c.hs)[u0.toNat]? =some (bF c.hs u0).av:=by
    have:=yQ (c:=c) (i:=u0.toNat) (by omega)
    rwa [Int.toNat_of_nonneg hu.1] at this
   have hn:u0=(u0.toNat:Int):=by omega
   have get0:(iv (u0::r))[0]? =some (ii u0):=rfl
   exact zW
theorem aHl (c:Con) (hc:c.sm) (free:List V3) (g:Gan) (hg:0<=g.pods/\g.pods<=16):∀ (n:Nat) (lv:Int),0<=lv->n=(min g.lev 3+1-lv).toNat->
  To E FB (.pure (.ret (fdA (fdL c free g n lv)))) (.head (stk FB 0) (aHm free lv) (RV c g)):=by
 intro n
 induction n with
 | zero=>
  intro lv h0 hn
  refine gV ?_
  exact zW
 | succ n ih=>
  intro lv h0 hn
  have ih:=ih (lv+1) (by omega) (by omega)
  have hok:=aG8 c lv
  have hch:=hc.hs
  have hlen:(gav (gpL c lv)).length=(gpL c lv).length:=by simp
  obtain ⟨Q,hQ⟩:∃ Q,Q=fdL c free g (n+1) lv:=⟨_,rfl⟩
  rw [<-hQ]
  unfold fdL at hQ
  refine gV ?_
  refine aT fun h=>?_
  refine gV ?_
  refine .pure _ [] (UR c hc lv) ?_
  repeat' first | (refine gN hE ?_;conv=>whnf) | exact rfl | refine aY ?_ | refine aN ?_ | refine aT fun h=>?_ | refine aF fun h=>?_ | refine ⟨fun h=>?_,fun h=>?_⟩ | refine aJ ?_ | refine ⟨_,rfl,?_⟩ | refine aD ?_ | fail
  refine To.cut [1,3,5,9,26,27,28] 2 rfl rfl rfl rfl ?_
  refine aIC c hc free g hg lv h0 (by omega) Q (gpL c lv) (by omega) hok.2 (gpL c lv).length 0 (by omega) (fun x hx=>?_) (fun hx=>?_)
  .have hx:fdG c free g (gpL c lv)=some x:=hx
   rw [hx] at hQ
   exact hQ
  .have hx:fdG c free g (gpL c lv)=none:=hx
   rw [hx] at hQ
   rw [hQ]
   exact ih
theorem find_ok (c:Con) (hc:c.sm) (free:List V3) (g:Gan) (hg:0<=g.pods/\g.pods<=16):aA Tryz.prog 272 [c.av,.slice 3 (vav free) .no,g.av] [] (.ret (fdA (xI c free g))) []:=by
 refine cT (E:=E) (fn:=Tryz.f272) (g:=.pure _) fun _=>?_
 refine gV ?_
 exact To.cut [1,3,5,9] 2 rfl rfl rfl rfl (aHl c hc free g hg _ _ (by omega) rfl)
def cK (c:Con) (l:List Rn) (g:Gan):Option (Int×List Int):=if KJ c (ofL c l) g.ten (dem g)=true then xI c (dQ c l) g else none
theorem aAB (c:Con) (hc:c.sm) (l:List Rn) (hl:Sm l) (g:Gan) (hg:0<=g.pods/\g.pods<=16) (Q:Option (Int×List Int)) (hQ:cK c l g=Q):aA Tryz.prog 199 [c.av,.slice 14 (rav l) .no,g.av] [] (.ret (fdA Q)) []:=by
 unfold cK at hQ
 have hm:=aGS c hc (ofL c l) g.ten (dem g)
 have hd:=OV g
 generalize KJ c (ofL c l) g.ten (dem g)=b at hQ hm
 generalize dem g=d at hm hd
 have hf:=find_ok c hc (dQ c l) g hg
 have hfr:=aD0 c hc l hl
 have hof:=QU c hc l hl.1
 generalize dQ c l=fr at hf hQ hfr
 generalize ofL c l=us at hm hof
 cases b with
 | false=>
  have hQ:none=Q:=hQ
  subst hQ
  refine cT (E:=E) (fn:=Tryz.f199) (g:=.pure _) fun _=>?_
  exact zW
 | true=>
  have hQ:xI c fr g=Q:=hQ
  rw [hQ] at hf
  unfold fdA at hf⊢
  cases Q with
  | none=>
   refine cT (E:=E) (fn:=Tryz.f199) (g:=.pure _) fun _=>?_
   exact zW
  | some x=>
   refine cT (E:=E) (fn:=Tryz.f199) (g:=.pure _) fun _=>?_
   exact zW
theorem uG (c:Con) (hc:c.sm) (l:List Rn) (hl:Sm l) (g:Gan) (hg:0<=g.pods/\g.pods<=16):aA Tryz.prog 199 [c.av,.slice 14 (rav l) .no,g.av] [] (.ret (fdA (cK c l g))) []:=aAB c hc l hl g hg _ rfl
theorem aA.nil2 {P:Program} {f:FuncId} {a:AVal} {qs:List AVal} {sz:Nat} {obs obs':List AObj} {r:Res} (h:aA P f (a:: .slice sz [] .no::qs) obs r obs'):aA P f (a:: .nilslice::qs) obs r obs':=
 fun M ob w vargs hm hr=>h M ob w vargs hm ⟨hr.1,fun i v x hv hx=>by
  match i with
  | 0=>exact hr.2 0 v x hv hx
  | 1=>
   have hx:AVal.slice sz [] .no=x:=by simpa using hx
   subst hx
   have:=hr.2 1 v .nilslice hv rfl
   cases this
   exact .slnil _ _ trivial
  | i+2=>exact hr.2 (i+2) v x hv hx⟩
theorem UC (c:Con) (hc:c.sm) (g:Gan) (hg:0<=g.pods/\g.pods<=16) (b:Bool) (hb:(cK c [] g).isNone=b):aA Tryz.prog 126 [c.av,g.av] [] (.ret (.bool b)) []:=by
 have hf:=uG c hc [] ⟨Cr _,fun x h=>by simp at h⟩ g hg
 generalize cK c [] g=Q at hf hb
 subst hb
 unfold fdA at hf
 cases Q with
 | none=>
  refine cT (E:=E) (fn:=Tryz.f126) (g:=.pure _) fun _=>?_
  have z3_1:=aA.nil2 hf
  exact zW
 | some x=>
  refine cT (E:=E) (fn:=Tryz.f126) (g:=.pure _) fun _=>?_
  have z4_1:=aA.nil2 hf
  exact zW
theorem ZL (c:Con) (hc:c.sm) (g:Gan) (hg:0<=g.pods/\g.pods<=16):aA Tryz.prog 126 [c.av,g.av] [] (.ret (.bool (cK c [] g).isNone)) []:=UC c hc g hg _ rfl
theorem aIj (x:Rn) (M:Imm) (ob:Hs) (vs:List Value) (h:bV M ob vs [x.av]):inR .i64 x.st/\inR .i64 x.g.run:=by
 have hl:0<vs.length:=by rw [h.1];simp
 have:=h.2 0 _ x.av (Aa hl) rfl
 exact ⟨bS this 11 _ rfl,bS this 6 _ rfl⟩
def dC (x:Rn):Int:=if 9223372036854775807<x.st+x.g.run then 9223372036854775807 else if x.st+x.g.run< -9223372036854775808 then -9223372036854775808 else x.st+x.g.run
theorem aEp (x:Rn) (r:Int) (hr:dC x=r):aA Tryz.prog 135 [x.av] [] (.ret (ii r)) []:=by
 refine aA.get _ (aIj x) fun ⟨⟨a1,a2⟩,⟨b1,b2⟩⟩=>?_
 simp only [bY,bI] at a1 a2 b1 b2
 unfold dC at hr
 by_cases h1:9223372036854775807<x.st+x.g.run
 .rw [if_pos h1] at hr
  subst hr
  have e:=aBV h1 (by omega)
  refine cT (E:=E) (fn:=Tryz.f135) (g:=.pure _) fun _=>?_
  refine gV ?_
  refine .inr ?_
  exact zW
 .rw [if_neg h1] at hr
  by_cases h2:x.st+x.g.run< -9223372036854775808
  .rw [if_pos h2] at hr
   subst hr
   have e:=aBU h2 (by omega)
   refine cT (E:=E) (fn:=Tryz.f135) (g:=.pure _) fun _=>?_
   refine gV ?_
   refine .inr ?_
   exact zW
  .rw [if_neg h2] at hr
   refine cT (E:=E) (fn:=Tryz.f135) (g:=.pure _) fun _=>?_
   repeat' first | (refine gN hE ?_;conv=>whnf) | exact rfl | refine aY ?_ | refine aN ?_ | refine aT fun h=>?_ | refine aF fun h=>?_ | refine ⟨fun h=>?_,fun h=>?_⟩ | refine aJ ?_ | refine ⟨_,rfl,?_⟩ | refine aD ?_ | fail
   all_goals first | exact hr▸rfl | (exfalso;simp at *;omega)
theorem HJ (x:Rn):aA Tryz.prog 135 [x.av] [] (.ret (ii (dC x))) []:=aEp x _ rfl
theorem JJ (x:Rn) (r:Int) (hr:dC x=r):aA Tryz.prog 36 [x.av] [] (.ret (ii r)) []:=by
 refine aA.get _ (aIj x) fun ⟨⟨a1,a2⟩,⟨b1,b2⟩⟩=>?_
 simp only [bY,bI] at a1 a2 b1 b2
 unfold dC at hr
 by_cases h1:9223372036854775807<x.st+x.g.run
 .rw [if_pos h1] at hr
  subst hr
  refine cT (E:=E) (fn:=Tryz.f36) (g:=.pure _) fun _=>?_
  repeat' first | (refine gN hE ?_;conv=>whnf) | exact rfl | refine aY ?_ | refine aN ?_ | refine aT fun h=>?_ | refine aF fun h=>?_ | refine Ac (fun h=>?_) (fun h=>absurd (of_decide_eq_false h) (by simp only [decide_eq_true_eq,decide_eq_false_iff_not] at *;omega)) | refine Ac (fun h=>absurd (of_decide_eq_true h) (by simp only [decide_eq_true_eq,decide_eq_false_iff_not] at *;omega)) (fun h=>?_) | refine ⟨fun h=>?_,fun h=>?_⟩ | refine aJ ?_ | refine ⟨_,rfl,?_⟩ | refine Ac (by decide) ?_ | refine Ac (by omega) ?_ | refine Fm (Ac (Ac (by simp only [bY];simp only [decide_eq_true_eq,decide_eq_false_iff_not] at *;omega) (by simp only [bI];simp only [decide_eq_true_eq,decide_eq_false_iff_not] at *;omega)) ?_) | fail
 .rw [if_neg h1] at hr
  by_cases h2:x.st+x.g.run< -9223372036854775808
  .rw [if_pos h2] at hr
   subst hr
   refine cT (E:=E) (fn:=Tryz.f36) (g:=.pure _) fun _=>?_
   repeat' first | (refine gN hE ?_;conv=>whnf) | exact rfl | refine aY ?_ | refine aN ?_ | refine aT fun h=>?_ | refine aF fun h=>?_ | refine Ac (fun h=>?_) (fun h=>absurd (of_decide_eq_false h) (by simp only [decide_eq_true_eq,decide_eq_false_iff_not] at *;omega)) | refine Ac (fun h=>absurd (of_decide_eq_true h) (by simp only [decide_eq_true_eq,decide_eq_false_iff_not] at *;omega)) (fun h=>?_) | refine ⟨fun h=>?_,fun h=>?_⟩ | refine aJ ?_ | refine ⟨_,rfl,?_⟩ | refine Ac (by decide) ?_ | refine Ac (by omega) ?_ | refine Fm (Ac (Ac (by simp only [bY];simp only [decide_eq_true_eq,decide_eq_false_iff_not] at *;omega) (by simp only [bI];simp only [decide_eq_true_eq,decide_eq_false_iff_not] at *;omega)) ?_) | fail
  .rw [if_neg h2] at hr
   subst hr
   refine cT (E:=E) (fn:=Tryz.f36) (g:=.pure _) fun _=>?_
   repeat' first | (refine gN hE ?_;conv=>whnf) | exact rfl | refine aY ?_ | refine aN ?_ | refine aT fun h=>?_ | refine aF fun h=>?_ | refine Ac (fun h=>?_) (fun h=>absurd (of_decide_eq_false h) (by simp only [decide_eq_true_eq,decide_eq_false_iff_not] at *;omega)) | refine Ac (fun h=>absurd (of_decide_eq_true h) (by simp only [decide_eq_true_eq,decide_eq_false_iff_not] at *;omega)) (fun h=>?_) | refine ⟨fun h=>?_,fun h=>?_⟩ | refine aJ ?_ | refine ⟨_,rfl,?_⟩ | refine Ac (by decide) ?_ | refine Ac (by omega) ?_ | refine Fm (Ac (Ac (by simp only [bY];simp only [decide_eq_true_eq,decide_eq_false_iff_not] at *;omega) (by simp only [bI];simp only [decide_eq_true_eq,decide_eq_false_iff_not] at *;omega)) ?_) | fail
theorem aCV (x:Rn):aA Tryz.prog 36 [x.av] [] (.ret (ii (dC x))) []:=JJ x _ rfl
theorem wH (l:List Int) (h:l.length<=1048576):aA Tryz.prog 296 [.slice 1 (iv l) .no] [] (.ret (.slice 1 (iv l) .no)) []:=by
 have hlen:(iv l).length=l.length:=by simp
 refine cT (E:=E) (fn:=Tryz.f296) (g:=.pure _) fun _=>?_
 refine gV ?_
 intro b hb
 refine gV ?_
 refine ⟨fun h=>?_,fun h=>?_⟩
 .have h:b=true:=h
  have e:iv l=[]:=hb h
  refine gV ?_
  rw [e]
 .have h:b=false:=h
  exact zW
theorem aCJ (x:Rn) (h:x.hs.length<=1048576):aA Tryz.prog 243 [x.av] [] (.ret x.av) []:=by
 refine cT (E:=E) (fn:=Tryz.f243) (g:=.pure _) fun _=>?_
 have z1_1:=wH x.hs h
 exact zW
def atL (l:List Rn) (t:Int):List Rn:=l.filter fun x=>decide (t<dC x)
theorem SU {x:Rn} {r:List Rn} {t:Int} (h:decide (t<dC x)=true):atL (x::r) t=x::atL r t:=Eu h
theorem SV {x:Rn} {r:List Rn} {t:Int} (h:decide (t<dC x)=false):atL (x::r) t=atL r t:=Et (by rw [h];decide)
noncomputable abbrev fAt:Func:=Tryz.f159
theorem aE2 (l:List Rn) (hs:Sm l) (t:Int) (R:List Rn):∀ (n i:Nat) (acc:List Rn),i+n=l.length->acc.length<=i->acc++atL (l.drop i) t=R->
  To (Eo [5] []) fAt (.pure (.ret (.slice 14 (rav R) .no))) (.head (stk fAt 0) [(1,.int .i64 t),(5,.slice 14 (rav acc) (.own 0 0)),(8,.slice 14 (rav l) .no),(9,.int .i64 ((rav l).length:Nat)),(10,.int .i64 i)] [.tail 0 14 53]):=by
 have hlen:(rav l).length=l.length:=by simp
 have hl:=hs.1
 intro n
 induction n with
 | zero=>
  intro i acc hi ha hR
  rw [Ae (by omega)] at hR
  have hR:acc++[]=R:=hR
  rw [Bg] at hR
  subst hR
  refine gV ?_
  exact zW
 | succ n ih=>
  intro i acc hi ha hR
  have hlt:i<l.length:=by omega
  rw [Ad hlt] at hR
  have hb:=hs.at hlt
  generalize hx:l[i]=x at hR hb
  have get:(rav l)[i]? =some x.av:=(bN hlt).trans (by rw [hx])
  have hla:(rav acc).length=acc.length:=by simp
  refine gV ?_
  refine aT fun h=>?_
  refine gV ?_
  refine ⟨i,rfl,?_⟩
  refine gV ?_
  refine ⟨_,get,?_⟩
  refine gV ?_
  refine .pure _ [] (HJ x) ?_
  refine gV ?_
  refine Ac (fun h2=>?_) (fun h2=>?_)
  .have h2:decide (t<dC x)=true:=h2
   rw [SU h2] at hR
   refine gV ?_
   refine .pure _ [] (aCJ x hb) ?_
   refine gV ?_
   refine ⟨⟨by simp only [maxLen];simp;omega,by simp;omega⟩,?_⟩
   refine gV ?_
   refine aJ ?_
   refine gV ?_
   refine To.part [1,5,8,9,10] [0] rfl rfl rfl ?_
   have next:=ih (i+1) (acc++[x]) (by omega) (by simp;omega) (by rw [Ai];exact hR)
   have e:rav (acc++[x])=rav acc++[x.av]:=by simp
   rw [e] at next
   exact next
  .have h2':decide (t<dC x)=false:=h2
   rw [SV h2'] at hR
   have z3_1:=ih (i+1) acc (by omega) (by omega) hR
   exact zW
theorem aBD (l:List Rn) (hs:Sm l) (t:Int):aA Tryz.prog 159 [.slice 14 (rav l) .no,ii t] [] (.ret (.slice 14 (rav (atL l t)) .no)) []:=by
 refine cT (E:=(Eo [5] [])) (fn:=Tryz.f159) (g:=.pure _) fun _=>?_
 have z4_1:=aE2 l hs t _ l.length 0 [] (by omega) (by simp) rfl
 exact zW
noncomputable abbrev aIL:Func:=Tryz.f39
theorem YH (l:List Rn) (hs:Sm l) (t:Int) (R:List Rn):∀ (n i:Nat) (acc:List Rn),i+n=l.length->acc.length<=i->acc++atL (l.drop i) t=R->
  To (Eo [5] []) aIL (.pure (.ret (.slice 14 (rav R) .no))) (.head (stk aIL 0) [(0,.slice 14 (rav l) .no),(1,.int .i64 t),(5,.slice 14 (rav acc) (.own 0 0)),(6,.int .i64 i)] [.tail 0 14 53]):=by
 have hlen:(rav l).length=l.length:=by simp
 have hl:=hs.1
 intro n
 induction n with
 | zero=>
  intro i acc hi ha hR
  rw [Ae (by omega)] at hR
  have hR:acc++[]=R:=hR
  rw [Bg] at hR
  subst hR
  refine gV ?_
  exact zW
 | succ n ih=>
  intro i acc hi ha hR
  have hlt:i<l.length:=by omega
  rw [Ad hlt] at hR
  generalize hx:l[i]=x at hR
  have get:(rav l)[i]? =some x.av:=(bN hlt).trans (by rw [hx])
  have hla:(rav acc).length=acc.length:=by simp
  refine gV ?_
  refine aT fun h=>?_
  refine gV ?_
  refine ⟨i,rfl,?_⟩
  refine gV ?_
  refine ⟨_,get,?_⟩
  refine gV ?_
  refine .pure _ [] (aCV x) ?_
  refine gV ?_
  refine Ac (fun h2=>?_) (fun h2=>?_)
  .have h2:decide (t<dC x)=true:=h2
   rw [SU h2] at hR
   refine gV ?_
   refine ⟨i,rfl,?_⟩
   refine gV ?_
   refine ⟨_,get,?_⟩
   refine gV ?_
   refine ⟨⟨by simp only [maxLen];simp;omega,by simp;omega⟩,?_⟩
   refine gV ?_
   refine aJ ?_
   refine gV ?_
   refine To.part [0,1,5,6] [0] rfl rfl rfl ?_
   have next:=ih (i+1) (acc++[x]) (by omega) (by simp;omega) (by rw [Ai];exact hR)
   have e:rav (acc++[x])=rav acc++[x.av]:=by simp
   rw [e] at next
   exact next
  .have h2':decide (t<dC x)=false:=h2
   rw [SV h2'] at hR
   have z6_1:=ih (i+1) acc (by omega) (by omega) hR
   exact zW
theorem aGx (l:List Rn) (hs:Sm l) (t:Int):aA Tryz.prog 39 [.slice 14 (rav l) .no,ii t] [] (.ret (.slice 14 (rav (atL l t)) .no)) []:=by
 refine cT (E:=(Eo [5] [])) (fn:=Tryz.f39) (g:=.pure _) fun _=>?_
 have z7_1:=YH l hs t _ l.length 0 [] (by omega) (by simp) rfl
 exact zW
theorem aBF {l:List Rn} (h:Sm l) (t:Int):Sm (atL l t):=
 ⟨Da (Gd _ _) h.1,fun x hx=>h.2 x (Dx.1 hx).1⟩
open Go Go.AW Go.Proofs Go.Shelf
set_option maxRecDepth 100000
def aCs:Go.Shelf.Ren:=⟨fun | 125=>137 | 128=>220 | 129=>221 | 189=>355 | 215=>138 | 216=>398 | 257=>380 | 294=>392 | 295=>393 | 296=>394 | 297=>395 | 298=>396 | 299=>397 | 300=>399 | 301=>400 | 328=>402 | 329=>287 | 330=>288 | 331=>403 | 332=>404 | 343=>405 | n=>n,fun | 0=>0 | 3=>3 | 4=>4 | 5=>5 | 9=>9 | 28=>47 | 46=>217 | 51=>118 | 53=>77 | 131=>264 | 182=>280 | 183=>281 | 218=>342 | 222=>346 | 228=>378 | 229=>379 | n=>n,fun n=>n⟩
theorem I0:Lays.n189 Tryz.prog aCs where
 mixed:=by kernel_rfl
 f125:=Tryz.func137.trans (congrArg some (by kernel_rfl))
 f128:=Tryz.func220.trans (congrArg some (by kernel_rfl))
 f129:=Tryz.func221.trans (congrArg some (by kernel_rfl))
 f189:=Tryz.func355.trans (congrArg some (by kernel_rfl))
 f215:=Tryz.func138.trans (congrArg some (by kernel_rfl))
 f216:=Tryz.func398.trans (congrArg some (by kernel_rfl))
 f257:=Tryz.func380.trans (congrArg some (by kernel_rfl))
 f294:=Tryz.func392.trans (congrArg some (by kernel_rfl))
 f295:=Tryz.func393.trans (congrArg some (by kernel_rfl))
 f296:=Tryz.func394.trans (congrArg some (by kernel_rfl))
 f297:=Tryz.func395.trans (congrArg some (by kernel_rfl))
 f298:=Tryz.func396.trans (congrArg some (by kernel_rfl))
 f299:=Tryz.func397.trans (congrArg some (by kernel_rfl))
 f300:=Tryz.func399.trans (congrArg some (by kernel_rfl))
 f301:=Tryz.func400.trans (congrArg some (by kernel_rfl))
 f328:=Tryz.func402.trans (congrArg some (by kernel_rfl))
 f329:=Tryz.func287.trans (congrArg some (by kernel_rfl))
 f330:=Tryz.func288.trans (congrArg some (by kernel_rfl))
 f331:=Tryz.func403.trans (congrArg some (by kernel_rfl))
 f332:=Tryz.func404.trans (congrArg some (by kernel_rfl))
 f343:=Tryz.func405.trans (congrArg some (by kernel_rfl))
 t0:=Tryz.underlying0
 a0:=Tryz.isAgg0
 z0:=Tryz.sizeOf0
 v0:=Tryz.zeroValue0
 t3:=Tryz.underlying3
 a3:=Tryz.isAgg3
 z3:=Tryz.sizeOf3
 v3:=Tryz.zeroValue3
 t4:=Tryz.underlying4
 a4:=Tryz.isAgg4
 z4:=Tryz.sizeOf4
 v4:=Tryz.zeroValue4
 t5:=Tryz.underlying5
 a5:=Tryz.isAgg5
 z5:=Tryz.sizeOf5
 v5:=Tryz.zeroValue5
 t9:=Tryz.underlying9
 a9:=Tryz.isAgg9
 z9:=Tryz.sizeOf9
 v9:=Tryz.zeroValue9
 t28:=Tryz.underlying47
 a28:=Tryz.isAgg47
 z28:=Tryz.sizeOf47
 v28:=Tryz.zeroValue47
 t46:=Tryz.underlying217
 a46:=Tryz.isAgg217
 z46:=Tryz.sizeOf217
 v46:=Tryz.zeroValue217
 t51:=Tryz.underlying118
 a51:=Tryz.isAgg118
 z51:=Tryz.sizeOf118
 v51:=Tryz.zeroValue118
 t53:=Tryz.underlying77
 a53:=Tryz.isAgg77
 z53:=Tryz.sizeOf77
 v53:=Tryz.zeroValue77
 t131:=Tryz.underlying264
 a131:=Tryz.isAgg264
 z131:=Tryz.sizeOf264
 v131:=Tryz.zeroValue264
 t182:=Tryz.underlying280
 a182:=Tryz.isAgg280
 z182:=Tryz.sizeOf280
 v182:=Tryz.zeroValue280
 t183:=Tryz.underlying281
 a183:=Tryz.isAgg281
 z183:=Tryz.sizeOf281
 v183:=Tryz.zeroValue281
 t218:=Tryz.underlying342
 a218:=Tryz.isAgg342
 z218:=Tryz.sizeOf342
 v218:=Tryz.zeroValue342
 t222:=Tryz.underlying346
 a222:=Tryz.isAgg346
 z222:=Tryz.sizeOf346
 v222:=Tryz.zeroValue346
 t228:=Tryz.underlying378
 a228:=Tryz.isAgg378
 z228:=Tryz.sizeOf378
 v228:=Tryz.zeroValue378
 t229:=Tryz.underlying379
 a229:=Tryz.isAgg379
 z229:=Tryz.sizeOf379
 v229:=Tryz.zeroValue379
def D6 (l:List Int):List Int:=l.mergeSort fun x y=>decide (x<=y)
theorem aCr (l:List Int) (hl:l.length<=1000000000):aA Tryz.prog 355 [.row 0 0] [.row 0 1 3 (iv l)] (.ret (.tup [])) [.row 0 1 3 (iv (D6 l))]:=
 DE (fun _ _=>by rfl) (fun p cap w=>Any.slices_Sort_int_none I0 p cap w) (fun blk off cap zs w hH hb hz=>Any.slices_Sort_int I0 blk off cap zs w hH hb hz) 3 l hl
set_option maxRecDepth 10000
def kyv (n:Int):AVal:=.agg [ii n]
abbrev kv (l:List Int):List AVal:=l.map kyv
theorem Z6 {l:List Int} {i:Nat} (h:i<l.length):(kv l)[i]? =some (kyv l[i]):=by simp [kv,h]
abbrev aG0 (n:Int):AVal:=.func (.func 354) [] [.ptr [ii n]]
theorem aGY (x n:Int):aA Tryz.prog 354 [kyv x,.ptr [ii n]] [] (.ret (.bool (x==n&&true))) []:=by
 refine cT (E:=E) (fn:=Tryz.f354) (g:=.pure _) fun _=>?_
 exact zW
def LF (n:Int):List Int->Nat->Int
 | [],_=> -1
 | x::r,i=>if (x==n&&true) then (i:Int) else LF n r (i+1)
def has (l:List Int) (n:Int):Bool:=decide (0<=LF n l 0)
noncomputable abbrev aIR:Func:=Tryz.f379
theorem aAf (l:List Int) (n:Int) (hl:((kv l).length:Int)<=9223372036854775807) (r:Int):∀ (m i:Nat),i+m=l.length->LF n (l.drop i) i=r->
  To E aIR (.pure (.ret (ii r))) (.head (stk aIR 0) [(0,.slice 1 (kv l) .no),(1,aG0 n),(7,.int .i64 ((kv l).length:Nat)),(8,.int .i64 i)] []):=by
 have hlen:(kv l).length=l.length:=by simp
 intro m
 induction m with
 | zero=>
  intro i hi hr
  rw [Ae (by omega)] at hr
  subst hr
  refine gV ?_
  exact zW
 | succ m ih=>
  intro i hi hr
  have hlt:i<l.length:=by omega
  rw [Ad hlt] at hr
  generalize hx:l[i]=x at hr
  have get:(kv l)[i]? =some (kyv x):=(Z6 hlt).trans (by rw [hx])
  unfold LF at hr
  refine gV ?_
  refine aT fun h=>?_
  repeat' first | (refine gN hE ?_;conv=>whnf) | refine ⟨_,get,?_⟩ | refine .pure _ [] (aGY x n) ?_ | exact rfl | refine aY ?_ | refine aN ?_ | refine aT fun h=>?_ | refine aF fun h=>?_ | refine ⟨fun h=>?_,fun h=>?_⟩ | refine aJ ?_ | refine ⟨_,rfl,?_⟩ | refine aD ?_ | fail
  .have h:(x==n&&true)=true:=h
   rw [if_pos h] at hr
   rw [<-hr]
  .have h:(x==n&&true)=false:=h
   rw [if_neg (by rw [h];decide)] at hr
   have z2_1:=ih (i+1) (by omega) hr
   exact zW
theorem aG2 (l:List Int) (n:Int):aA Tryz.prog 379 [.slice 1 (kv l) .no,aG0 n] [] (.ret (ii (LF n l 0))) []:=by
 refine cT (E:=E) (fn:=Tryz.f379) (g:=.pure _) fun ho=>?_
 have hl:((kv l).length:Int)<=9223372036854775807:=ho.1
 have z3_1:=aAf l n hl _ l.length 0 (by omega) rfl
 exact zW
theorem aG6 (l:List Int) (n:Int):aA Tryz.prog 353 [.slice 1 (kv l) .no,aG0 n] [] (.ret (.bool (has l n))) []:=by
 refine cT (E:=E) (fn:=Tryz.f353) (g:=.pure _) fun _=>?_
 have z4_1:=aG2 l n
 exact zW
def BJ (now:Int):List Rn->List Int->List Int
 | [],ks=>ks
 | x::r,ks=>BJ now r (if decide (now<dC x)&& !has ks (dC x) then ks++[dC x] else ks)
theorem ER (now:Int):∀ (l:List Rn) (ks:List Int),(BJ now l ks).length<=ks.length+l.length
 | [],ks=>by simp [BJ]
 | x::r,ks=>by
  unfold BJ
  have:=ER now r (if decide (now<dC x)&& !has ks (dC x) then ks++[dC x] else ks)
  split at this
  .rename_i h;rw [if_pos h];simp only [Aw,Bo,Fz] at this⊢;omega
  .rename_i h;rw [if_neg h];simp only [Bo];omega
noncomputable abbrev R5:Func:=Tryz.f318
noncomputable abbrev En:Env:=Ex [5] [9] []
theorem hEn:EnvOK En:=hEx _ _ _
theorem OM (ks:List Int) (hk:ks.length<=1048576):∀ (n i:Nat) (acc:List Int),i+n=ks.length->acc=ks.take i->
  To En R5 (.pure (.ret (.slice 1 (iv (D6 ks)) .no))) (.head (stk R5 1) [(9,.row 0 0),(36,.slice 1 (kv ks) .no),(37,.int .i64 ((kv ks).length:Nat)),(38,.int .i64 i)] [.row 0 1 3 (iv acc)]):=by
 have hlen:(kv ks).length=ks.length:=by simp
 intro n
 induction n with
 | zero=>
  intro i acc hi ha
  rw [Cl (by omega)] at ha
  subst ha
  refine gW hEn ?_;conv=>whnf
  refine aF fun h=>?_
  refine gW hEn ?_;conv=>whnf
  refine .eff [] [0] _ _ rfl (aCr acc (by omega)) ?_
  repeat' first | (refine gN hEn ?_;conv=>whnf) | exact rfl | refine aY ?_ | refine aN ?_ | refine aT fun h=>?_ | refine aF fun h=>?_ | refine ⟨fun h=>?_,fun h=>?_⟩ | refine aJ ?_ | refine ⟨_,rfl,?_⟩ | refine aD ?_ | fail
 | succ n ih=>
  intro i acc hi ha
  have hlt:i<ks.length:=by omega
  generalize hx:ks[i]=x
  have get:(kv ks)[i]? =some (kyv x):=(Z6 hlt).trans (by rw [hx])
  have hal:acc.length=i:=by rw [ha];simp;omega
  have hia:(iv acc).length=acc.length:=by simp
  refine gW hEn ?_;conv=>whnf
  refine aT fun h=>?_
  refine gW hEn ?_;conv=>whnf
  refine ⟨i,rfl,?_⟩
  refine gW hEn ?_;conv=>whnf
  refine ⟨_,get,?_⟩
  refine gW hEn ?_;conv=>whnf
  refine ⟨⟨by decide,by decide⟩,?_⟩
  refine gW hEn ?_;conv=>whnf
  refine ⟨⟨by simp only [maxLen];simp;omega,by simp;omega⟩,?_⟩
  refine gW hEn ?_;conv=>whnf
  refine aJ ?_
  refine gW hEn ?_;conv=>whnf
  refine To.part [9,36,37,38] [0] rfl rfl rfl ?_
  have next:=ih (i+1) (acc++[x]) (by omega) (by rw [ha,<-hx];exact List.take_append_getElem hlt)
  have e:iv (acc++[x])=iv acc++[ii x]:=by simp
  rw [e] at next
  exact next
theorem U7 (l:List Rn) (hs:Sm l) (now:Int) (R:List Int):∀ (n i:Nat) (ks:List Int),i+n=l.length->ks.length<=i->D6 (BJ now (l.drop i) ks)=R->
  To En R5 (.pure (.ret (.slice 1 (iv R) .no))) (.head (stk R5 0) [(1,.int .i64 now),(5,.slice 1 (kv ks) (.own 0 0)),(12,.slice 14 (rav l) .no),(13,.int .i64 ((rav l).length:Nat)),(14,.int .i64 i)] [.tail 0 1 395]):=by
 have hlen:(rav l).length=l.length:=by simp
 have hl:=hs.1
 intro n
 induction n with
 | zero=>
  intro i ks hi hk hR
  rw [Ae (by omega)] at hR
  have hR:D6 ks=R:=hR
  subst hR
  refine gW hEn ?_;conv=>whnf
  refine aF fun h=>?_
  refine gW hEn ?_;conv=>whnf
  refine To.part [9,36,37,38] [1] rfl rfl rfl ?_
  have z6_1:=OM ks (by omega) ks.length 0 [] (by omega) (by simp)
  exact zW
 | succ n ih=>
  intro i ks hi hk hR
  have hlt:i<l.length:=by omega
  rw [Ad hlt] at hR
  generalize hx:l[i]=x at hR
  have get:(rav l)[i]? =some x.av:=(bN hlt).trans (by rw [hx])
  have hkl:(kv ks).length=ks.length:=by simp
  unfold BJ at hR
  refine gW hEn ?_;conv=>whnf
  refine aT fun h=>?_
  refine gW hEn ?_;conv=>whnf
  refine ⟨i,rfl,?_⟩
  refine gW hEn ?_;conv=>whnf
  refine ⟨_,get,?_⟩
  refine gW hEn ?_;conv=>whnf
  refine .pure _ [] (HJ x) ?_
  refine gW hEn ?_;conv=>whnf
  refine ⟨⟨by decide,by decide⟩,?_⟩
  refine gW hEn ?_;conv=>whnf
  refine Ac (fun h1=>?_) (fun h1=>?_)
  .have h1:decide (now<dC x)=true:=h1
   refine gW hEn ?_;conv=>whnf
   refine .pure _ [] (aG6 ks (dC x)) ?_
   refine gW hEn ?_;conv=>whnf
   refine Ac (fun h2=>?_) (fun h2=>?_)
   .have h2:(!has ks (dC x))=true:=h2
    rw [h1,h2,if_pos (by decide)] at hR
    refine gW hEn ?_;conv=>whnf
    refine ⟨⟨by simp only [maxLen];simp;omega,by simp;omega⟩,?_⟩
    refine gW hEn ?_;conv=>whnf
    refine aJ ?_
    refine gW hEn ?_;conv=>whnf
    refine To.part [1,5,12,13,14] [0] rfl rfl rfl ?_
    have next:=ih (i+1) (ks++[dC x]) (by omega) (by simp;omega) hR
    have e:kv (ks++[dC x])=kv ks++[kyv (dC x)]:=by simp
    rw [e] at next
    exact next
   .have h2:(!has ks (dC x))=false:=h2
    rw [h1,h2,if_neg (by decide)] at hR
    refine gW hEn ?_;conv=>whnf
    refine aJ ?_
    refine gW hEn ?_;conv=>whnf
    have z7_1:=ih (i+1) ks (by omega) (by omega) hR
    exact zW
  .have h1:decide (now<dC x)=false:=h1
   rw [h1,Dz,if_neg (by decide)] at hR
   repeat' first | (refine gN hEn ?_;conv=>whnf) | exact rfl | refine aY ?_ | refine aN ?_ | refine aT fun h=>?_ | refine aF fun h=>?_ | refine ⟨fun h=>?_,fun h=>?_⟩ | refine aJ ?_ | refine ⟨_,rfl,?_⟩ | refine aD ?_ | fail
   have z8_1:=ih (i+1) ks (by omega) (by omega) hR
   exact zW
def LM (l:List Rn) (now:Int):List Int:=D6 (BJ now l [])
theorem aEo (l:List Rn) (hs:Sm l) (now:Int):aA Tryz.prog 318 [.slice 14 (rav l) .no,ii now] [] (.ret (.slice 1 (iv (LM l now)) .no)) []:=by
 refine cT (E:=En) (fn:=Tryz.f318) (g:=.pure _) fun _=>?_
 refine gW hEn ?_;conv=>whnf
 have z9_1:=U7 l hs now _ l.length 0 [] (by omega) (by simp) rfl
 exact zW
def stF (c:Con) (l:List Rn) (g:Gan):List Int->Option Int
 | []=>none
 | t::r=>if (cK c (atL l t) g).isSome=true then some t else stF c l g r
def stA:Option Int->AVal
 | some t=>.tup [ii t,.bool true]
 | none=>.tup [ii 0,.bool false]
def sF (c:Con) (now:Int) (l:List Rn) (g:Gan):Option Int:=stF c l g (now::LM l now)
noncomputable abbrev aAH:Func:=Tryz.f250
theorem M4 (c:Con) (hc:c.sm) (now:Int) (l:List Rn) (hs:Sm l) (g:Gan) (hg:0<=g.pods/\g.pods<=16) (es:List Int) (hes:es.length<=1048576) (R:Option Int):∀ (m i:Nat),i+m=es.length+1->stF c l g ((now::es).drop i)=R->
  To E aAH (.pure (.ret (stA R))) (.head (stk aAH 0) [(1,ii now),(2,.slice 14 (rav l) .no),(4,.ref 0 0),(7,.ref 1 0),(10,.slice 1 (iv es) .no),(21,.int .i64 (((iv es).length:Nat)+1)),(22,ii i)] (RV c g)):=by
 have hlen:(iv es).length=es.length:=by simp
 intro m
 induction m with
 | zero=>
  intro i hi hR
  rw [Ae (by simp;omega)] at hR
  have hR:none=R:=hR
  subst hR
  refine gV ?_
  exact zW
 | succ m ih=>
  intro i hi hR
  have hlt:i<(now::es).length:=by simp;omega
  rw [Ad hlt] at hR
  have ih:=ih (i+1) (by omega)
  cases i with
  | zero=>
   have hR:stF c l g (now::(now::es).drop 1)=R:=hR
   have hf:=uG c hc (atL l now) (aBF hs now) g hg
   have hat:=aBD l hs now
   unfold stF at hR
   generalize cK c (atL l now) g=Q at hR hf
   unfold fdA at hf
   generalize atL l now=al at hat hf
   refine gV ?_
   refine aT fun h=>?_
   refine gV ?_
   refine aF fun h=>?_
   refine gV ?_
   refine .pure _ [] hat ?_
   refine gV ?_
   cases Q with
   | none=>
    rw [if_neg (by decide)] at hR
    have next:=ih hR
    exact zW
   | some x=>
    rw [if_pos (show (some x).isSome=true from rfl)] at hR
    subst hR
    exact zW
  | succ j=>
   have hj:j<es.length:=by simp at hlt;omega
   have hR:stF c l g (es[j]::(now::es).drop (j+1+1))=R:=hR
   have get:(iv es)[j]? =some (ii es[j]):=dO hj
   generalize es[j]=t at hR get
   have hf:=uG c hc (atL l t) (aBF hs t) g hg
   have hat:=aBD l hs t
   unfold stF at hR
   generalize cK c (atL l t) g=Q at hR hf
   unfold fdA at hf
   generalize atL l t=al at hat hf
   refine gV ?_
   refine aT fun h=>?_
   refine gV ?_
   refine aT fun h=>?_
   refine gV ?_
   refine aJ ?_
   refine gV ?_
   refine ⟨j,by omega,?_⟩
   refine gV ?_
   refine ⟨_,get,?_⟩
   refine gV ?_
   refine .pure _ [] hat ?_
   refine gV ?_
   cases Q with
   | none=>
    rw [if_neg (by decide)] at hR
    have next:=ih hR
    exact zW
   | some x=>
    rw [if_pos (show (some x).isSome=true from rfl)] at hR
    subst hR
    exact zW
theorem W8 (c:Con) (hc:c.sm) (now:Int) (l:List Rn) (hs:Sm l) (g:Gan) (hg:0<=g.pods/\g.pods<=16):aA Tryz.prog 250 [c.av,ii now,.slice 14 (rav l) .no,g.av] [] (.ret (stA (sF c now l g))) []:=by
 have hel:(LM l now).length<=1048576:=by
  unfold LM D6
  rw [Mk]
  have:=ER now l []
  have:=hs.1
  simp at *
  omega
 have he:=aEo l hs now
 unfold sF
 generalize LM l now=es at hel he
 have hlen:(iv es).length=es.length:=by simp
 refine cT (E:=E) (fn:=Tryz.f250) (g:=.pure _) fun _=>?_
 refine gV ?_
 refine .pure _ [] he ?_
 refine gV ?_
 refine aJ ?_
 refine gV ?_
 exact To.cut [1,2,4,7,10,21,22] 2 rfl rfl rfl rfl (M4 c hc now l hs g hg es hel _ (es.length+1) 0 (by omega) rfl)
def bmB (now:Int) (g:Gan) (t:Int):Bool:=decide (dC ⟨g,0,0,now,0,[]⟩<=t)
theorem aBw (now:Int) (g:Gan) (t:Int) (b:Bool) (hb:bmB now g t=b):aA Tryz.prog 309 [ii now,g.av,ii t] [] (.ret (.bool b)) []:=by
 have he:=HJ ⟨g,0,0,now,0,[]⟩
 unfold bmB at hb
 generalize dC ⟨g,0,0,now,0,[]⟩=x at hb he
 subst hb
 refine cT (E:=E) (fn:=Tryz.f309) (g:=.pure _) fun _=>?_
 exact zW
theorem aEZ (now:Int) (g:Gan) (t:Int):aA Tryz.prog 309 [ii now,g.av,ii t] [] (.ret (.bool (bmB now g t))) []:=aBw now g t _ rfl
def aU (v:V3):Bool:=decide (0<=v.a/\v.a<=1048576)&&decide (0<=v.b/\v.b<=1048576)&&decide (0<=v.c/\v.c<=1048576)
theorem S0 (v:V3) (b:Bool) (hb:aU v=b):aA Tryz.prog 96 [v.av] [] (.ret (.bool b)) []:=by
 unfold aU at hb
 refine cT (E:=E) (fn:=Tryz.f96) (g:=.pure _) fun _=>?_
 repeat' first
  | (refine gV ?_)
  | exact hb
  | refine aY ?_
  | refine aN ?_
  | refine Ac (fun h=>?_) (fun h=>?_)
  | refine aJ ?_
  | refine Al _ (Ac rfl ?_)
  | refine Ac (by decide) ?_
 all_goals (refine congrArg (fun b=>Res.ret (AVal.bool b)) ?_;rw [<-hb];simp only [decide_eq_true_eq,decide_eq_false_iff_not] at *)
 .rw [decide_eq_false (p:=0<=v.a/\v.a<=1048576) (by omega)];rfl
 .rw [decide_eq_false (p:=0<=v.a/\v.a<=1048576) (by omega)];rfl
 .rw [decide_eq_false (p:=0<=v.b/\v.b<=1048576) (by omega),Ci];rfl
 .rw [decide_eq_false (p:=0<=v.b/\v.b<=1048576) (by omega),Ci];rfl
 .rw [decide_eq_false (p:=0<=v.c/\v.c<=1048576) (by omega),Ci]
 .rw [decide_eq_false (p:=0<=v.c/\v.c<=1048576) (by omega),Ci]
 .rw [decide_eq_true (p:=0<=v.a/\v.a<=1048576) (by omega),decide_eq_true (p:=0<=v.b/\v.b<=1048576) (by omega),decide_eq_true (p:=0<=v.c/\v.c<=1048576) (by omega)];rfl
theorem oY (v:V3):aA Tryz.prog 96 [v.av] [] (.ret (.bool (aU v))) []:=S0 v _ rfl
def rlB (ns:List Nod) (t:Int):Bool:=if decide (t<0)=true then false else if decide ((ns.length:Int)<=t)=true then false else ns.all fun x=>!(x.p==t)
noncomputable abbrev aAJ:Func:=Tryz.f84
theorem NE (c:Con) (hc:c.sm) (t:Int) (r:Bool):∀ (m i:Nat),i+m=c.ns.length->((c.ns.drop i).all fun x=>!(x.p==t))=r->
  To E aAJ (.pure (.ret (.bool r))) (.head (stk aAJ 0) [(1,ii t),(2,.ref 0 0),(5,ii i)] [.cells 26 c.cs]):=by
 have hlen:(nav c.ns).length=c.ns.length:=by simp
 have h1:=hc.ns
 intro m
 induction m with
 | zero=>
  intro i hi hr
  rw [Ae (by omega)] at hr
  have hr:true=r:=hr
  subst hr
  refine gV ?_
  exact zW
 | succ m ih=>
  intro i hi hr
  have hlt:i<c.ns.length:=by omega
  rw [Ad hlt,Fk] at hr
  have get:=fQ hlt
  generalize c.ns[i]=x at hr get
  have ih:=ih (i+1) (by omega)
  refine gV ?_
  refine aT fun h=>?_
  refine gV ?_
  refine ⟨i,rfl,?_⟩
  refine gV ?_
  refine ⟨_,get,?_⟩
  refine gV ?_
  refine Ac (fun h2=>?_) (fun h2=>?_)
  .have h2:(x.p==t)=true:=h2
   rw [h2] at hr
   have hr:false=r:=hr
   subst hr
   exact zW
  .have h2:(x.p==t)=false:=h2
   rw [h2] at hr
   have hr:((c.ns.drop (i+1)).all fun x=>!(x.p==t))=r:=hr
   repeat' first | (refine gN hE ?_;conv=>whnf) | exact rfl | refine aY ?_ | refine aN ?_ | refine aT fun h=>?_ | refine aF fun h=>?_ | refine ⟨fun h=>?_,fun h=>?_⟩ | refine aJ ?_ | refine ⟨_,rfl,?_⟩ | refine aD ?_ | fail
   exact To.cut [1,2,5] 1 rfl rfl rfl rfl (ih hr)
theorem TO (c:Con) (hc:c.sm) (t:Int) (r:Bool) (hr:rlB c.ns t=r):aA Tryz.prog 84 [c.av,ii t] [] (.ret (.bool r)) []:=by
 have hlen:(nav c.ns).length=c.ns.length:=by simp
 unfold rlB at hr
 by_cases p1:t<0
 .rw [if_pos (decide_eq_true p1)] at hr
  subst hr
  refine cT (E:=E) (fn:=Tryz.f84) (g:=.pure _) fun _=>?_
  exact zW
 rw [if_neg (by rw [decide_eq_false p1];decide)] at hr
 by_cases p2:(c.ns.length:Int)<=t
 .rw [if_pos (decide_eq_true p2)] at hr
  subst hr
  refine cT (E:=E) (fn:=Tryz.f84) (g:=.pure _) fun _=>?_
  exact zW
 rw [if_neg (by rw [decide_eq_false p2];decide)] at hr
 refine cT (E:=E) (fn:=Tryz.f84) (g:=.pure _) fun _=>?_
 repeat' first | (refine gN hE ?_;conv=>whnf) | exact rfl | refine aY ?_ | refine aN ?_ | refine aT fun h=>?_ | refine aF fun h=>?_ | refine ⟨fun h=>?_,fun h=>?_⟩ | refine aJ ?_ | refine ⟨_,rfl,?_⟩ | refine aD ?_ | fail
 exact To.cut [1,2,5] 1 rfl rfl rfl rfl (NE c hc t r c.ns.length 0 (by omega) hr)
theorem pH (c:Con) (hc:c.sm) (t:Int):aA Tryz.prog 84 [c.av,ii t] [] (.ret (.bool (rlB c.ns t))) []:=TO c hc t _ rfl
def K9 (ns:List Nod) (g:Gan):Bool:=decide (1<=g.id/\g.id<=1073741824/\1<=g.pods/\g.pods<=16)&&(aU g.need&&(decide (1<=g.run/\g.run<=1048576/\0<=g.lev/\g.lev<=3/\0<=g.pref/\g.pref<=g.lev)&&rlB ns g.ten))
def jL (ns:List Nod) (g:Gan):Int:=if K9 ns g=true then 1 else 0
theorem uF (c:Con) (hc:c.sm) (g:Gan) (r:Int) (hr:jL c.ns g=r):aA Tryz.prog 134 [c.av,g.av] [] (.ret (ii r)) []:=by
 have hv:=oY g.need
 have hl:=pH c hc g.ten
 unfold jL K9 at hr
 generalize aU g.need=bv at hr hv
 generalize rlB c.ns g.ten=bl at hr hl
 by_cases p1:1<=g.id/\g.id<=1073741824/\1<=g.pods/\g.pods<=16
 .rw [decide_eq_true p1] at hr
  cases bv with
  | false=>
   have hr:0=r:=hr
   subst hr
   refine cT (E:=E) (fn:=Tryz.f134) (g:=.pure _) fun _=>?_
   exact zW
  | true=>
   by_cases p2:1<=g.run/\g.run<=1048576/\0<=g.lev/\g.lev<=3/\0<=g.pref/\g.pref<=g.lev
   .rw [decide_eq_true p2] at hr
    cases bl with
    | false=>
     have hr:0=r:=hr
     subst hr
     refine cT (E:=E) (fn:=Tryz.f134) (g:=.pure _) fun _=>?_
     exact zW
    | true=>
     have hr:1=r:=hr
     subst hr
     refine cT (E:=E) (fn:=Tryz.f134) (g:=.pure _) fun _=>?_
     exact zW
   .rw [decide_eq_false p2] at hr
    have hr:0=r:=hr
    subst hr
    refine cT (E:=E) (fn:=Tryz.f134) (g:=.pure _) fun _=>?_
    exact zW
 .rw [decide_eq_false p1] at hr
  have hr:0=r:=hr
  subst hr
  refine cT (E:=E) (fn:=Tryz.f134) (g:=.pure _) fun _=>?_
  exact zW
theorem yR (c:Con) (hc:c.sm) (g:Gan):aA Tryz.prog 134 [c.av,g.av] [] (.ret (ii (jL c.ns g))) []:=uF c hc g _ rfl
theorem TR (a b:V3) (r:Bool) (hr:cN a b=r):aA Tryz.prog 81 [a.av,b.av] [] (.ret (.bool r)) []:=by
 unfold cN at hr
 refine cT (E:=E) (fn:=Tryz.f81) (g:=.pure _) fun _=>?_
 repeat' first
  | (refine gV ?_)
  | exact hr
  | refine aY ?_
  | refine aN ?_
  | refine Ac (fun h=>?_) (fun h=>?_)
  | refine aJ ?_
  | refine Al _ (Ac rfl ?_)
  | refine Ac (by decide) ?_
 all_goals (rw [<-hr];simp_all)
theorem tJ (a b:V3):aA Tryz.prog 81 [a.av,b.av] [] (.ret (.bool (cN a b))) []:=TR a b _ rfl
def zB (v:V3):Bool:=v.a==0&&(v.b==0&&(v.c==0&&true))
def qF (i:Nat) (x:Nod):Prop:=(i=0/\x.p≠ -1)\/(0<i/\(x.p<0\/(i:Int)<=x.p))\/x.w<1\/1000<x.w
instance (i:Nat) (x:Nod):Decidable (qF i x):=by unfold qF;infer_instance
def mY (bl:Bool) (i:Nat) (x:Nod):Bool:=if qF i x then false else if bl=true then aU x.n&&(aU x.b&&(aU x.l&&cN x.l x.n)) else zB x.n&&(zB x.b&&zB x.l)
theorem ZI (c:Con) (i:Nat) (x:Nod) (hx:(nav c.ns)[i]? =some x.av) (hb:qF i x):aA Tryz.prog 95 [c.av,ii i] [] (.ret (.bool false)) []:=by
 unfold qF at hb
 refine cT (E:=E) (fn:=Tryz.f95) (g:=.pure _) fun _=>?_
 repeat' first
  | (refine gV ?_)
  | (refine gW hE ?_;(conv=>whnf);done)
  | exact rfl
  | refine Al i (Ac rfl ?_)
  | refine Al _ (Ac hx ?_)
  | refine aY ?_
  | refine aN ?_
  | refine aF fun h=>?_
  | refine aT fun h=>?_
  | refine Ac (fun h=>?_) (fun h=>?_)
 all_goals (exfalso;simp at *;omega)
theorem UB (c:Con) (i:Nat) (x:Nod) (hx:(nav c.ns)[i]? =some x.av) (hb:¬ qF i x) (b1 b2 b3 b4:Bool) (hl:aA Tryz.prog 84 [c.av,ii i] [] (.ret (.bool true)) [])
  (v1:aA Tryz.prog 96 [x.n.av] [] (.ret (.bool b1)) []) (v2:aA Tryz.prog 96 [x.b.av] [] (.ret (.bool b2)) []) (v3:aA Tryz.prog 96 [x.l.av] [] (.ret (.bool b3)) [])
  (v4:aA Tryz.prog 81 [x.l.av,x.n.av] [] (.ret (.bool b4)) []):aA Tryz.prog 95 [c.av,ii i] [] (.ret (.bool (b1&&(b2&&(b3&&b4))))) []:=by
 unfold qF at hb
 refine cT (E:=E) (fn:=Tryz.f95) (g:=.pure _) fun _=>?_
 repeat' first
  | (refine gV ?_)
  | exact rfl
  | refine .pure _ [] hl ?_
  | refine .pure _ [] v1 ?_
  | refine .pure _ [] v2 ?_
  | refine .pure _ [] v3 ?_
  | refine .pure _ [] v4 ?_
  | refine Al i (Ac rfl ?_)
  | refine Al _ (Ac hx ?_)
  | refine aY ?_
  | refine aN ?_
  | refine aF fun h=>?_
  | refine aT fun h=>?_
  | refine Ac (fun h=>?_) (fun h=>?_)
 all_goals first
  | (simp only [*,Cb,Dz,Ci];done)
  | (exfalso;simp at *;omega)
theorem NY (c:Con) (i:Nat) (x:Nod) (hx:(nav c.ns)[i]? =some x.av) (hb:¬ qF i x) (hl:aA Tryz.prog 84 [c.av,ii i] [] (.ret (.bool false)) []):aA Tryz.prog 95 [c.av,ii i] [] (.ret (.bool (zB x.n&&(zB x.b&&zB x.l)))) []:=by
 unfold qF at hb
 unfold zB
 refine cT (E:=E) (fn:=Tryz.f95) (g:=.pure _) fun _=>?_
 repeat' first
  | (refine gV ?_)
  | exact rfl
  | refine .pure _ [] hl ?_
  | refine Al i (Ac rfl ?_)
  | refine Al _ (Ac hx ?_)
  | refine aY ?_
  | refine aN ?_
  | refine aF fun h=>?_
  | refine aT fun h=>?_
  | refine Ac (fun h=>?_) (fun h=>?_)
 all_goals first
  | (simp only [*,Cb,Dz,Ci];done)
  | (exfalso;simp at *;omega)
theorem aDh (c:Con) (hc:c.sm) (i:Nat) (x:Nod) (hx:(nav c.ns)[i]? =some x.av):aA Tryz.prog 95 [c.av,ii i] [] (.ret (.bool (mY (rlB c.ns i) i x))) []:=by
 have hl:=pH c hc i
 unfold mY
 by_cases hb:qF i x
 .rw [if_pos hb];exact ZI c i x hx hb
 .rw [if_neg hb]
  cases hq:rlB c.ns i with
  | true=>
   rw [hq] at hl
   rw [if_pos rfl]
   exact UB c i x hx hb _ _ _ _ hl (oY x.n) (oY x.b) (oY x.l) (tJ x.l x.n)
  | false=>
   rw [hq] at hl
   rw [if_neg (by decide)]
   exact NY c i x hx hb hl
def H3 (x:Hos):Prop:=x.f<0\/100<x.f\/x.b<0\/100<x.b\/x.r<0\/100<x.r
instance (x:Hos):Decidable (H3 x):=by unfold H3;infer_instance
def nE (x:Hos):Bool:=if H3 x then false else aU x.c
def mH (ns:List Nod):Nat->List Nod->Bool
 | _,[]=>true
 | i,x::r=>if mY (rlB ns i) i x=true then mH ns (i+1) r else false
def vE (c:Con):Prop:=(1<=c.ns.length/\c.ns.length<=12)/\(1<=c.hs.length/\c.hs.length<=24)/\(1<=c.half/\c.half<=1048576)/\0<=c.age/\c.age<=1048576
instance (c:Con):Decidable (vE c):=by unfold vE;infer_instance
def bB (c:Con):Int:=if vE c then (if mH c.ns 0 c.ns=true then (if c.hs.all nE=true then 0 else 2) else 2) else 2
noncomputable abbrev HG:Func:=Tryz.f41
theorem L5 (c:Con) (hc:c.sm) (r:Int):∀ (m i:Nat),i+m=c.hs.length->(if (c.hs.drop i).all nE=true then (0:Int) else 2)=r->
  To E HG (.pure (.ret (ii r))) (.head (stk HG 1) [(1,.ref 0 0),(4,ii i)] [.cells 26 c.cs]):=by
 have hlen:(hav c.hs).length=c.hs.length:=by simp
 have h1:=hc.hs
 intro m
 induction m with
 | zero=>
  intro i hi hr
  rw [Ae (by omega)] at hr
  have hr:0=r:=hr
  subst hr
  refine gV ?_
  exact zW
 | succ m ih=>
  intro i hi hr
  have hlt:i<c.hs.length:=by omega
  rw [Ad hlt,Fk] at hr
  have get:=uD hlt
  generalize c.hs[i]=x at hr get
  have ih:=ih (i+1) (by omega)
  have hv:=oY x.c
  unfold nE at hr
  generalize aU x.c=b at hv hr
  by_cases hb:H3 x
  .rw [if_pos hb] at hr
   have hr:2=r:=hr
   subst hr
   unfold H3 at hb
   refine gV ?_
   refine aT fun h=>?_
   repeat' first
    | (refine gN hE ?_;conv=>whnf)
    | exact rfl
    | refine Al i (Ac rfl ?_)
    | refine Al _ (Ac get ?_)
    | refine aY ?_
    | refine aN ?_
    | refine aF fun h=>?_
    | refine aT fun h=>?_
    | refine Ac (fun h=>?_) (fun h=>?_)
   all_goals (exfalso;simp at *;omega)
  .rw [if_neg hb] at hr
   unfold H3 at hb
   cases b with
   | false=>
    have hr:2=r:=hr
    subst hr
    refine gV ?_
    exact zW
   | true=>
    have ih:=ih hr
    refine gV ?_
    exact zW
theorem L4 (c:Con) (hc:c.sm) (r:Int):∀ (m i:Nat),i+m=c.ns.length->(if mH c.ns i (c.ns.drop i)=true then (if c.hs.all nE=true then (0:Int) else 2) else 2)=r->
  To E HG (.pure (.ret (ii r))) (.head (stk HG 0) [(1,.ref 0 0),(3,ii i)] [.cells 26 c.cs]):=by
 have hlen:(nav c.ns).length=c.ns.length:=by simp
 have h1:=hc.ns
 intro m
 induction m with
 | zero=>
  intro i hi hr
  rw [Ae (by omega)] at hr
  have hr:(if c.hs.all nE=true then (0:Int) else 2)=r:=hr
  refine gV ?_
  refine aF fun h=>?_
  repeat' first | (refine gN hE ?_;conv=>whnf) | exact rfl | refine aY ?_ | refine aN ?_ | refine aT fun h=>?_ | refine aF fun h=>?_ | refine ⟨fun h=>?_,fun h=>?_⟩ | refine aJ ?_ | refine ⟨_,rfl,?_⟩ | refine aD ?_ | fail
  exact To.cut [1,4] 1 rfl rfl rfl rfl (L5 c hc r c.hs.length 0 (by omega) hr)
 | succ m ih=>
  intro i hi hr
  have hlt:i<c.ns.length:=by omega
  rw [Ad hlt] at hr
  have hn:=aDh c hc i _ (fQ hlt)
  unfold mH at hr
  have ih:=ih (i+1) (by omega)
  generalize mY (rlB c.ns i) i c.ns[i]=b at hr hn
  cases b with
  | false=>
   have hr:2=r:=hr
   subst hr
   refine gV ?_
   exact zW
  | true=>
   rw [if_pos (show true=true from rfl)] at hr
   have ih:=ih hr
   refine gV ?_
   exact zW
theorem check_any (c:Con) (hc:c.sm) (r:Int) (hr:bB c=r):aA Tryz.prog 41 [c.av] [] (.ret (ii r)) []:=by
 have hln:(nav c.ns).length=c.ns.length:=by simp
 have hlh:(hav c.hs).length=c.hs.length:=by simp
 unfold bB at hr
 by_cases hb:vE c
 .rw [if_pos hb] at hr
  unfold vE at hb
  refine cT (E:=E) (fn:=Tryz.f41) (g:=.pure _) fun _=>?_
  repeat' first | (refine gN hE ?_;conv=>whnf) | exact rfl | refine aY ?_ | refine aN ?_ | refine aT fun h=>?_ | refine aF fun h=>?_ | refine ⟨fun h=>?_,fun h=>?_⟩ | refine aJ ?_ | refine ⟨_,rfl,?_⟩ | refine aD ?_ | fail
  exact To.cut [1,3] 1 rfl rfl rfl rfl (L4 c hc r c.ns.length 0 (by omega) hr)
 .rw [if_neg hb] at hr
  subst hr
  unfold vE at hb
  refine cT (E:=E) (fn:=Tryz.f41) (g:=.pure _) fun _=>?_
  repeat' first
   | (refine gN hE ?_;conv=>whnf)
   | exact rfl
   | refine aY ?_
   | refine aN ?_
   | refine aF fun h=>?_
   | refine aT fun h=>?_
   | refine Ac (fun h=>?_) (fun h=>?_)
  all_goals (exfalso;simp at *;omega)
theorem LZ (c:Con) (hc:c.sm):aA Tryz.prog 41 [c.av] [] (.ret (ii (bB c))) []:=check_any c hc _ rfl
def sM (n:Nat) (l:List Int):Bool:=l.all fun h=>decide (0<=h/\h<(n:Int))
def PE (c:Con) (now:Int) (x:Rn):Prop:=jL c.ns x.g=0\/x.st<0\/now<x.st\/(x.hs.length:Int)≠x.g.pods
instance (c:Con) (now:Int) (x:Rn):Decidable (PE c now x):=by unfold PE;infer_instance
def aCC (c:Con) (now:Int) (x:Rn):Bool:=if PE c now x then false else sM c.hs.length x.hs
def PF (c:Con) (now:Int) (l:List Rn):Prop:=bB c≠0\/32<l.length\/now<0\/1099511627776<now
instance (c:Con) (now:Int) (l:List Rn):Decidable (PF c now l):=by unfold PF;infer_instance
def wA (c:Con) (now:Int) (l:List Rn):Int:=if PF c now l then 0 else if l.all (aCC c now)=true then 1 else 0
noncomputable abbrev U5:Func:=Tryz.f133
theorem aHj (c:Con) (hc:c.sm) (now:Int) (l:List Rn) (x:Rn) (hxl:x.hs.length<=1048576) (r:Int) (j:Nat) (hj:j<1048576):
  ∀ (m i:Nat),i+m=x.hs.length->(sM c.hs.length (x.hs.drop i)=false->r=0)->(sM c.hs.length (x.hs.drop i)=true->To E U5 (.pure (.ret (ii r))) (.head (stk U5 0) [(1,ii now),(2,.slice 14 (rav l) .no),(3,.ref 0 0),(7,ii ((j:Int)+1))] [.cells 26 c.cs]))->
  To E U5 (.pure (.ret (ii r))) (.head (stk U5 1) [(1,ii now),(2,.slice 14 (rav l) .no),(3,.ref 0 0),(7,ii j),(8,.ref 1 0),(9,ii i)] [.cells 26 c.cs,.cells 53 x.cs]):=by
 have hlen:(iv x.hs).length=x.hs.length:=by simp
 have hhl:(hav c.hs).length=c.hs.length:=by simp
 have h1:=hc.hs
 intro m
 induction m with
 | zero=>
  intro i hi hn hy
  rw [Ae (by omega)] at hy
  have hy:=hy rfl
  refine gV ?_
  exact zW
 | succ m ih=>
  intro i hi hn hy
  have hlt:i<x.hs.length:=by omega
  rw [Ad hlt] at hn hy
  have get:=dO hlt
  generalize x.hs[i]=u at hn hy get
  have ih:=ih (i+1) (by omega)
  unfold sM at hn hy
  rw [Fk] at hn hy
  by_cases hb:0<=u/\u<(c.hs.length:Int)
  .rw [decide_eq_true hb] at hn hy
   have next:=ih hn hy
   refine gV ?_
   exact zW
  .rw [decide_eq_false hb] at hn
   have hr:=hn rfl
   subst hr
   refine gV ?_
   refine aT fun h=>?_
   repeat' first
    | (refine gN hE ?_;conv=>whnf)
    | exact rfl
    | refine Al i (Ac rfl ?_)
    | refine Al _ (Ac get ?_)
    | refine aY ?_
    | refine aN ?_
    | refine aF fun h=>?_
    | refine aT fun h=>?_
    | refine Ac (fun h=>?_) (fun h=>?_)
   all_goals (exfalso;simp at *;omega)
theorem aD5 (c:Con) (hc:c.sm) (now:Int) (l:List Rn) (hs:Sm l) (r:Int):∀ (m i:Nat),i+m=l.length->(if (l.drop i).all (aCC c now)=true then (1:Int) else 0)=r->
  To E U5 (.pure (.ret (ii r))) (.head (stk U5 0) [(1,ii now),(2,.slice 14 (rav l) .no),(3,.ref 0 0),(7,ii i)] [.cells 26 c.cs]):=by
 have hlen:(rav l).length=l.length:=by simp
 have h1:=hs.1
 intro m
 induction m with
 | zero=>
  intro i hi hr
  rw [Ae (by omega)] at hr
  have hr:1=r:=hr
  subst hr
  refine gV ?_
  exact zW
 | succ m ih=>
  intro i hi hr
  have hlt:i<l.length:=by omega
  have hb1:=hs.at hlt
  rw [Ad hlt,Fk] at hr
  have get:=bN hlt
  generalize l[i]=x at hr get hb1
  have ih:=ih (i+1) (by omega)
  have hgg:=yR c hc x.g
  have hxl:(iv x.hs).length=x.hs.length:=by simp
  unfold aCC at hr
  by_cases hb:PE c now x
  .rw [if_pos hb] at hr
   have hr:0=r:=hr
   subst hr
   unfold PE at hb
   generalize jL c.ns x.g=gi at hb hgg
   refine gV ?_
   refine aT fun h=>?_
   repeat' first
    | (refine gN hE ?_;conv=>whnf)
    | exact rfl
    | refine .pure _ [] hgg ?_
    | refine Al i (Ac rfl ?_)
    | refine Al _ (Ac get ?_)
    | refine aY ?_
    | refine aN ?_
    | refine aF fun h=>?_
    | refine aT fun h=>?_
    | refine Ac (fun h=>?_) (fun h=>?_)
   all_goals (exfalso;simp at *;omega)
  .rw [if_neg hb] at hr
   unfold PE at hb
   generalize jL c.ns x.g=gi at hb hgg
   have hgi:(gi==0)=false:=by simp;omega
   have hpl:((x.hs.length:Int) !=x.g.pods)=false:=by simp;omega
   have hin:=aHj c hc now l x hb1 r i (by omega) x.hs.length 0 (by omega) (fun h=>by
    have h:sM c.hs.length x.hs=false:=h
    rw [h] at hr
    exact hr.symm) (fun h=>by
    have h:sM c.hs.length x.hs=true:=h
    rw [h] at hr
    exact ih hr)
   refine gV ?_
   refine aT fun h=>?_
   repeat' first
    | (refine gN hE ?_;conv=>whnf)
    | refine .pure _ [] hgg ?_
    | refine Al i (Ac rfl ?_)
    | refine Al _ (Ac get ?_)
    | refine aY ?_
    | refine aN ?_
    | refine aF fun h=>?_
    | refine aT fun h=>?_
    | refine Ac (fun h=>absurd (show (gi==0)=true from h) (by rw [hgi];decide)) (fun h=>?_)
    | refine Ac (fun h=>absurd h (by rw [hxl,hpl];decide)) (fun h=>?_)
   all_goals exact To.cut [1,2,3,7,8,9] 2 rfl rfl rfl rfl hin
theorem aD6 (c:Con) (hc:c.sm) (now:Int) (l:List Rn) (hs:Sm l) (r:Int) (hr:wA c now l=r):aA Tryz.prog 133 [c.av,ii now,.slice 14 (rav l) .no] [] (.ret (ii r)) []:=by
 have hlen:(rav l).length=l.length:=by simp
 have hck:=LZ c hc
 unfold wA at hr
 by_cases hb:PF c now l
 .rw [if_pos hb] at hr
  subst hr
  unfold PF at hb
  generalize bB c=k at hb hck
  refine cT (E:=E) (fn:=Tryz.f133) (g:=.pure _) fun _=>?_
  repeat' first
   | (refine gN hE ?_;conv=>whnf)
   | exact rfl
   | refine .pure _ [] hck ?_
   | refine aY ?_
   | refine aN ?_
   | refine aF fun h=>?_
   | refine aT fun h=>?_
   | refine Ac (fun h=>?_) (fun h=>?_)
  all_goals (exfalso;simp at *;omega)
 .rw [if_neg hb] at hr
  unfold PF at hb
  generalize bB c=k at hb hck
  have hk:(k !=0)=false:=by simp;omega
  refine cT (E:=E) (fn:=Tryz.f133) (g:=.pure _) fun _=>?_
  repeat' first
   | (refine gN hE ?_;conv=>whnf)
   | refine .pure _ [] hck ?_
   | refine aY ?_
   | refine aN ?_
   | refine aF fun h=>?_
   | refine aT fun h=>?_
   | refine Ac (fun h=>absurd h (by rw [hk];decide)) (fun h=>?_)
  all_goals exact To.cut [1,2,3,7] 1 rfl rfl rfl rfl (aD5 c hc now l hs r l.length 0 (by omega) hr)
theorem aHi (c:Con) (hc:c.sm) (now:Int) (l:List Rn) (hs:Sm l):aA Tryz.prog 133 [c.av,ii now,.slice 14 (rav l) .no] [] (.ret (ii (wA c now l))) []:=aD6 c hc now l hs _ rfl
abbrev St (l:List Int):Prop:=l.Pairwise (· < ·)
end Go.Proofs.YtpomiadgghchnaaGreat
