/-
  What fits where: quotas, ledgers, hosts, placing, gangs, configurations, as walks.
-/
import Derived.Test.YticlgfdibfobdaaGreatProg
import Derived.Shelf.Sort.Plain
import Derived.Shelf.Slices.In.SortNone
import Derived.Test.YticlgfdibfobdaaGreatWEP
set_option linter.all false
set_option maxHeartbeats 1000000
open And renaming intro->Ad
open Bool renaming and_eq_true->Af,and_false->Bn,false_and->Ct,false_eq_true->Cv,not_eq_true'->Cm,true_and->Cd
open Exists renaming intro->Aw
open Int renaming tdiv->Hb,toNat_natCast->Cl,toNat_of_nonneg->Hy
open List renaming all_cons->Gm,append_assoc->Aj,append_nil->Bo,drop->Hd,drop_eq_getElem_cons->Ac,drop_eq_nil_of_le->Ae,drop_zero->Cn,filter_cons_of_neg->Ek,filter_cons_of_pos->Em,flatMap_cons->Hh,foldl_cons->Al,getElem?_append_right->Ak,getElem?_eq_getElem->Aa,getElem?_eq_none->Bj,getElem?_eq_some_iff->Ab,getElem?_map->Bc,getElem_mem->Bf,length->Js,length_append->Ar,length_cons->Ba,length_filter_le->Fk,length_map->Cw,length_nil->Ck,length_replicate->Gh,map_append->Bm,map_cons->Bk,map_map->Dm,map_set->Kf,mem_append->Ay,mem_cons->Ao,mem_cons_of_mem->Bb,mem_filter->Dw,mem_map->Bu,mem_or_eq_of_mem_set->Da,nil_append->Jz,nodup_append->Br,not_mem_nil->Gs,pairwise_cons->Ce,range->Db,range'->Gz,range'_succ->Jh,range_eq_range'->Gj,range_succ->Ie,replicate->Ah,replicate_succ->Kd,set_append_right->Jb,take->Fv,take_append_drop->Dj,take_append_getElem->Lc,take_append_of_le_length->Ea,take_of_length_le->Cf
open List.cons renaming injEq->Jy
open Nat renaming ble->Ew,div_le_self->Eh,le_refl->Bg,le_trans->Cs,mul_le_mul->Gf,zero_le->Bt
open Option renaming map_eq_some_iff->Cb
open Or renaming inl->Hk
namespace Go.Proofs.YticlgfdibfobdaaGreat
open Go Go.AW Go.Proofs
theorem zqha0 {P:Prop} (h:P:=by
 unfold GD at hp
 by_cases d:x=t
 .rw [if_pos (decide_eq_true d)] at hp
  refine gV ?_
  refine To.beginR (k:=7) (gg:=0) rfl rfl e ?_
  repeat' first | (refine gN (hEl k [] [] []) ?_;conv=>whnf) | refine .pure _ [] (F4 c a need x b) ?_ | refine .pure _ [] (xZ c f a need t x) ?_ | exact ⟨⟨rfl,rfl⟩,⟨rfl,rfl⟩⟩ | exact rfl | refine aY ?_ | refine aN ?_ | refine aT fun h=>?_ | refine aF fun h=>?_ | refine ⟨fun h=>?_,fun h=>?_⟩ | refine aJ ?_ | refine ⟨_,rfl,?_⟩ | refine aD ?_ | fail
  all_goals (exfalso;simp_all)
 .rw [if_neg (by rw [decide_eq_false d];decide)] at hp
  refine gV ?_
  refine To.beginR (k:=7) (gg:=0) rfl rfl e ?_
  repeat' first | (refine gN (hEl k [] [] []) ?_;conv=>whnf) | refine .pure _ [] (F4 c a need x b) ?_ | refine .pure _ [] (xZ c f a need t x) ?_ | exact ⟨⟨rfl,rfl⟩,⟨rfl,rfl⟩⟩ | exact rfl | refine aY ?_ | refine aN ?_ | refine aT fun h=>?_ | refine aF fun h=>?_ | refine ⟨fun h=>?_,fun h=>?_⟩ | refine aJ ?_ | refine ⟨_,rfl,?_⟩ | refine aD ?_ | fail
  all_goals (exfalso;simp_all)):P:=h
theorem zqha1 {P:Prop} (h:P:=by
 refine gV ?_
 refine ⟨i,rfl,?_⟩
 refine gV ?_
 refine ⟨by omega,?_⟩
 refine gV ?_
 refine ⟨by omega,?_⟩
 exact zW):P:=h
theorem zqha2 {P:Prop} (h:P:=by
 refine ⟨ii n,1,?_⟩
 refine gV ?_
 exact zW):P:=h
theorem zqha3 {P:Prop} (h:P:=by
 refine gV ?_
 refine To.beginR (k:=4) (gg:=0) rfl rfl b ?_
 exact zW):P:=h
theorem zqha4 {P:Prop} (h:P:=by
 have b:(iv a).length=a.length:=by simp
 have e:iv (a++[x])=iv a++[ii x]:=by simp
 unfold rK
 rw [e]
 refine gV ?_
 refine To.beginR (k:=2) (gg:=0) rfl rfl c ?_
 exact zW):P:=h
theorem zqha5 {P:Prop} (h:P:=by
 have hl:=zA a k 0
 have b:k=N:=o_
 subst b
 have e:rp a k 0=iv (Ah k a):=by simp [rp]
 rw [e] at hl⊢
 refine gV ?_
 exact zW):P:=h
theorem zqha6 {P:Prop} (h:P:=by
 refine c_ Tryz.f116 fun _=>?_
 refine gV ?_
 refine .inr ?_
 exact zW):P:=h
theorem zqha7 {P:Prop} (h:P:=by
 exact c_ Tryz.f156 fun _=>zW):P:=h
theorem zqha8 {P:Prop} (h:P:=by
 rintro (h | h | h)
 .exact .inr (.inl h)
 .exact .inl h
 .exact .inr (.inr h)):P:=h
theorem zqha9 {P:Prop} (h:P:=by
 refine gV ?_
 refine .sole rfl (.eff [] [0,1] _ _ rfl (put_ok c x _ L) ?_)
 exact zW):P:=h
theorem zqha10 {P:Prop} (h:P:=by
 exact c_ Tryz.f230 fun _=>zW):P:=h
noncomputable def T0:Tab:=[
 (3,.mk (.int .i64) 1 false (.int .i64 0)),
 (4,.mk .bool 1 false (.bool false)),
 (34,.mk (.arr 3 1 false) 3 true (.agg [.int .i64 0,.int .i64 0,.int .i64 0])),
 (26,.mk (.strct [(0,1,false),(1,1,false),(2,1,false),(3,1,false)]) 4 true (.agg [.slice 11 [] .nil,.slice 6 [] .nil,.int .i64 0,.int .i64 0])),
 (23,.mk (.slc 80 11 88) 1 false (.slice 11 [] .nil)),
 (80,.mk (.strct [(0,1,false),(1,1,false),(2,3,true),(5,3,true),(8,3,true)]) 11 true (.agg [.int .i64 0,.int .i64 0,.int .i64 0,.int .i64 0,.int .i64 0,.int .i64 0,.int .i64 0,.int .i64 0,.int .i64 0,.int .i64 0,.int .i64 0])),
 (53,.mk (.slc 3 1 8) 1 false (.slice 1 [] .nil)),
 (164,.mk (.slc 34 3 24) 1 false (.slice 3 [] .nil)),
 (36,.mk (.strct [(0,1,false),(1,1,false),(2,1,false),(3,3,true),(6,1,false),(7,1,false),(8,1,false)]) 9 true (.agg [.int .i64 0,.int .i64 0,.int .i64 0,.int .i64 0,.int .i64 0,.int .i64 0,.int .i64 0,.int .i64 0,.int .i64 0])),
 (28,.mk (.slc 127 14 128) 1 false (.slice 14 [] .nil)),
 (127,.mk (.strct [(0,9,true),(9,1,false),(10,1,false),(11,1,false),(12,1,false),(13,1,false)]) 14 true (.agg [.int .i64 0,.int .i64 0,.int .i64 0,.int .i64 0,.int .i64 0,.int .i64 0,.int .i64 0,.int .i64 0,.int .i64 0,.int .i64 0,.int .i64 0,.int .i64 0,.int .i64 0,.slice 1 [] .nil])),
 (24,.mk (.slc 82 6 48) 1 false (.slice 6 [] .nil)),
 (82,.mk (.strct [(0,1,false),(1,1,false),(2,1,false),(3,3,true)]) 6 true (.agg [.int .i64 0,.int .i64 0,.int .i64 0,.int .i64 0,.int .i64 0,.int .i64 0])),
 (1,.mk .other 1 false .nilfunc),
 (5,.mk (.int .u8) 1 false (.int .u8 0)),
 (9,.mk .str 1 false (.str [])),
 (20,.mk .iface 1 false .nilif),
 (22,.mk (.slc 38 15 152) 1 false (.slice 15 [] .nil)),
 (27,.mk (.slc 78 11 88) 1 false (.slice 11 [] .nil)),
 (29,.mk (.slc 123 1 8) 1 false (.slice 1 [] .nil)),
 (31,.mk (.strct [(0,4,true),(4,1,false),(5,1,false),(6,1,false),(7,1,false),(8,1,false)]) 9 true (.agg [.slice 11 [] .nil,.slice 6 [] .nil,.int .i64 0,.int .i64 0,.int .i64 0,.int .i64 0,.slice 11 [] .nil,.slice 14 [] .nil,.slice 1 [] .nil])),
 (38,.mk (.strct [(0,1,false),(1,4,true),(5,9,true),(14,1,false)]) 15 true (.agg [.int .i64 0,.slice 11 [] .nil,.slice 6 [] .nil,.int .i64 0,.int .i64 0,.int .i64 0,.int .i64 0,.int .i64 0,.int .i64 0,.int .i64 0,.int .i64 0,.int .i64 0,.int .i64 0,.int .i64 0,.int .i64 0])),
 (40,.mk (.slc 84 3 24) 1 false (.slice 3 [] .nil)),
 (43,.mk (.int .i64) 1 false (.int .i64 0)),
 (54,.mk (.slc 43 1 8) 1 false (.slice 1 [] .nil)),
 (78,.mk (.strct [(0,9,true),(9,1,false),(10,1,false)]) 11 true (.agg [.int .i64 0,.int .i64 0,.int .i64 0,.int .i64 0,.int .i64 0,.int .i64 0,.int .i64 0,.int .i64 0,.int .i64 0,.int .i64 0,.int .i64 0])),
 (84,.mk (.strct [(0,1,false),(1,1,false),(2,1,false)]) 3 true (.agg [.int .i64 0,.int .i64 0,.int .i64 0])),
 (89,.mk (.strct [(0,4,true)]) 4 true (.agg [.slice 11 [] .nil,.slice 6 [] .nil,.int .i64 0,.int .i64 0])),
 (91,.mk (.ptr 31) 1 false .nilptr),
 (93,.mk (.strct [(0,9,true)]) 9 true (.agg [.int .i64 0,.int .i64 0,.int .i64 0,.int .i64 0,.int .i64 0,.int .i64 0,.int .i64 0,.int .i64 0,.int .i64 0])),
 (96,.mk (.strct [(0,1,false)]) 1 true (.agg [.int .i64 0])),
 (98,.mk (.strct [(0,1,false)]) 1 true (.agg [.int .i64 0])),
 (100,.mk (.strct [(0,1,false)]) 1 true (.agg [.int .i64 0])),
 (104,.mk (.strct []) 0 true (.agg [])),
 (110,.mk (.ptr 116) 1 false .nilptr),
 (111,.mk (.ptr 114) 1 false .nilptr),
 (112,.mk (.slc 5 1 1) 1 false (.slice 1 [] .nil)),
 (114,.mk (.strct [(0,1,false),(1,1,false)]) 2 true (.agg [.nilptr,.slice 1 [] .nil])),
 (116,.mk (.strct [(0,2,true)]) 2 true (.agg [.nilptr,.slice 1 [] .nil])),
 (119,.mk .iface 1 false .nilif),
 (122,.mk (.int .u64) 1 false (.int .u64 0)),
 (123,.mk (.int .u64) 1 false (.int .u64 0)),
 (132,.mk (.ptr 134) 1 false .nilptr),
 (134,.mk (.strct [(0,1,false)]) 1 true (.agg [.str []])),
 (146,.mk (.ptr 148) 1 false .nilptr),
 (148,.mk (.strct [(0,9,true),(9,1,false),(10,1,false),(11,1,false)]) 12 true (.agg [.slice 11 [] .nil,.slice 6 [] .nil,.int .i64 0,.int .i64 0,.int .i64 0,.int .i64 0,.slice 11 [] .nil,.slice 14 [] .nil,.slice 1 [] .nil,.slice 3 [] .nil,.bool false,.int .i64 0])),
 (155,.mk (.strct [(0,9,true),(9,1,false),(10,1,false)]) 11 true (.agg [.int .i64 0,.int .i64 0,.int .i64 0,.int .i64 0,.int .i64 0,.int .i64 0,.int .i64 0,.int .i64 0,.int .i64 0,.int .i64 0,.int .i64 0])),
 (156,.mk (.mp 3 4) 1 false .nilmap),
 (157,.mk (.slc 20 1 16) 1 false (.slice 1 [] .nil)),
 (167,.mk .other 1 false .nilfunc),
 (172,.mk .other 1 false .nilfunc),
 (178,.mk (.ptr 43) 1 false .nilptr),
 (185,.mk (.ptr 187) 1 false .nilptr),
 (187,.mk (.strct [(0,9,true),(9,1,false),(10,1,false),(11,1,false)]) 12 true (.agg [.slice 11 [] .nil,.slice 6 [] .nil,.int .i64 0,.int .i64 0,.int .i64 0,.int .i64 0,.slice 11 [] .nil,.slice 14 [] .nil,.slice 1 [] .nil,.slice 3 [] .nil,.bool false,.int .i64 0])),
 (188,.mk (.ptr 190) 1 false .nilptr),
 (190,.mk (.strct [(0,2,true)]) 2 true (.agg [.nilptr,.slice 1 [] .nil])),
 (217,.mk .iface 1 false .nilif),
 (220,.mk .other 1 false .nilfunc),
 (222,.mk (.ptr 279) 1 false .nilptr),
 (229,.mk .other 1 false .nilfunc),
 (231,.mk .other 1 false .nilfunc),
 (235,.mk (.strct [(0,1,false)]) 1 true (.agg [.int .i64 0])),
 (237,.mk .other 1 false .nilfunc),
 (239,.mk .other 1 false .nilfunc),
 (243,.mk .other 1 false .nilfunc),
 (245,.mk .other 1 false .nilfunc),
 (246,.mk .other 1 false .nilfunc),
 (247,.mk .other 1 false .nilfunc),
 (248,.mk (.ptr 251) 1 false .nilptr),
 (251,.mk (.strct [(0,9,true)]) 9 true (.agg [.slice 11 [] .nil,.slice 6 [] .nil,.int .i64 0,.int .i64 0,.int .i64 0,.int .i64 0,.slice 11 [] .nil,.slice 14 [] .nil,.slice 1 [] .nil])),
 (254,.mk (.int .u64) 1 false (.int .u64 0)),
 (255,.mk .other 1 false .nilptr),
 (269,.mk (.mp 3 3) 1 false .nilmap),
 (272,.mk (.slc 53 1 24) 1 false (.slice 1 [] .nil)),
 (275,.mk .other 1 false .nilfunc),
 (276,.mk .other 1 false .nilfunc),
 (277,.mk (.mp 3 34) 1 false .nilmap),
 (279,.mk (.strct [(0,4,true),(4,1,false)]) 5 true (.agg [.slice 11 [] .nil,.slice 6 [] .nil,.int .i64 0,.int .i64 0,.nilmap])),
 (280,.mk .other 1 false .nilfunc),
 (281,.mk .other 1 false .nilfunc),
 (290,.mk (.arr 16 1 false) 16 true (.agg [.int .u64 0,.int .u64 0,.int .u64 0,.int .u64 0,.int .u64 0,.int .u64 0,.int .u64 0,.int .u64 0,.int .u64 0,.int .u64 0,.int .u64 0,.int .u64 0,.int .u64 0,.int .u64 0,.int .u64 0,.int .u64 0])),
 (306,.mk (.strct [(0,1,false)]) 1 true (.agg [.nilfunc])),
 (310,.mk (.mp 312 3) 1 false .nilmap),
 (312,.mk (.strct [(0,1,false),(1,1,false),(2,1,false),(3,1,false)]) 4 true (.agg [.int .i64 0,.int .i64 0,.int .i64 0,.int .i64 0])),
 (320,.mk (.ptr 322) 1 false .nilptr),
 (322,.mk (.strct [(0,1,false),(1,1,false)]) 2 true (.agg [.slice 14 [] .nil,.nilfunc])),
 (325,.mk (.slc 327 1 8) 1 false (.slice 1 [] .nil)),
 (327,.mk (.arr 1 1 false) 1 true (.agg [.int .i64 0])),
 (329,.mk .other 1 false .nilfunc),
 (351,.mk (.int .u32) 1 false (.int .u32 0))]
def F0:List (Nat×Nat):=[(33,3),(34,3),(35,9),(36,9),(79,11),(80,11),(81,6),(82,6),(326,1),(327,1),(311,4),(312,4),(77,11),(78,11),(155,11),(84,3),(83,3)]
def M0:aA5:=[(155,"tithebarn/queue.id",355),(155,"tithebarn/queue.seq",356)]
noncomputable def E:Env:={P:=Tryz.prog,T:=T0,mt:=M0,fl:=F0,own:=[],rws:=[],bl:=[],df:=[]}
theorem hE:EnvOK E where
 mix:=by kernel_rfl
 tab:=aE6 (by kernel_rfl) (by kernel_rfl)
 mth:=wQ.cons (fun v w=>by kernel_rfl) (wQ.cons (fun v w=>by kernel_rfl) wQ.nil)
 fl:=KL (by kernel_rfl)
noncomputable def Er (l b:List Nat):Env:={E with rws:=l,bl:=b}
theorem hEr (l b:List Nat):EnvOK (Er l b):=⟨hE.mix,hE.tab,hE.mth,hE.fl⟩
noncomputable def Eo (l b:List Nat):Env:={E with own:=l,bl:=b}
theorem hEo (l b:List Nat):EnvOK (Eo l b):=⟨hE.mix,hE.tab,hE.mth,hE.fl⟩
noncomputable def Ed (df:List (Nat×List AVal)):Env:={E with df:=df}
theorem hEd (df:List (Nat×List AVal)):EnvOK (Ed df):=⟨hE.mix,hE.tab,hE.mth,hE.fl⟩
noncomputable def Ex (o r b:List Nat):Env:={E with own:=o,rws:=r,bl:=b}
theorem hEx (o r b:List Nat):EnvOK (Ex o r b):=⟨hE.mix,hE.tab,hE.mth,hE.fl⟩
noncomputable def El (l:Nat) (o r b:List Nat):Env:={Ex o r b with rd:=some l}
theorem hEl (l:Nat) (o r b:List Nat):EnvOK (El l o r b):=⟨hE.mix,hE.tab,hE.mth,hE.fl⟩
theorem c_ (fn:Func) {f:FuncId} {args:List AVal} {r:Res} (h:okL args->To E fn (.pure r) (.code [.code (dA fn)] (frA 0 args) [])) (l:Tryz.prog.funcs[f]? =some fn:=by rfl) (i:fn.body=some (dA fn):=by rfl) (e:pV Tryz.prog f:=by exact fun _ _=>by rfl) (a:cZ fn.ntmps (dA fn)=true:=by decide+kernel) (j:Ew args.length fn.ntmps=true:=by rfl):aA Tryz.prog f args [] r []:=cT (E:=E) (g:=.pure r) h rfl l i e a j rfl rfl rfl
structure V3 where
 (a b c:Int)
 deriving DecidableEq
structure Nod where
 (p w:Int)
 (n b l:V3)
 deriving DecidableEq
structure Hos where
 (f b r:Int)
 (c:V3)
 deriving DecidableEq
structure Con where
 ns:List Nod
 hs:List Hos
 (half age:Int)
 deriving DecidableEq
structure Gan where
 (id ten pods:Int)
 need:V3
 (run lev pref:Int)
 deriving DecidableEq
abbrev ii (n:Int):AVal:=.int .i64 n
def V3.cs (v:V3):List AVal:=[ii v.a,ii v.b,ii v.c]
def Nod.cs (x:Nod):List AVal:=[ii x.p,ii x.w,ii x.n.a,ii x.n.b,ii x.n.c,ii x.b.a,ii x.b.b,ii x.b.c,ii x.l.a,ii x.l.b,ii x.l.c]
def Nod.av (x:Nod):AVal:=.agg x.cs
def Hos.cs (x:Hos):List AVal:=[ii x.f,ii x.b,ii x.r,ii x.c.a,ii x.c.b,ii x.c.c]
def Hos.av (x:Hos):AVal:=.agg x.cs
abbrev nav (l:List Nod):List AVal:=l.map Nod.av
abbrev hav (l:List Hos):List AVal:=l.map Hos.av
def Con.cs (x:Con):List AVal:=[.slice 11 (nav x.ns) .no,.slice 6 (hav x.hs) .no,ii x.half,ii x.age]
def Con.av (x:Con):AVal:=.agg x.cs
def Gan.cs (x:Gan):List AVal:=[ii x.id,ii x.ten,ii x.pods,ii x.need.a,ii x.need.b,ii x.need.c,ii x.run,ii x.lev,ii x.pref]
def Gan.av (x:Gan):AVal:=.agg x.cs
abbrev iv (l:List Int):List AVal:=l.map ii
def V3.zero:V3:=⟨0,0,0⟩
def V3.av (v:V3):AVal:=.agg v.cs
abbrev vav (l:List V3):List AVal:=l.map V3.av
theorem eW {l:List Nod} {i:Nat} (h:i<l.length):(nav l)[i]? =some l[i].av:=by simp [nav,h]
theorem nI {l:List Hos} {i:Nat} (h:i<l.length):(hav l)[i]? =some l[i].av:=by simp [hav,h]
theorem cH {l:List Int} {i:Nat} (h:i<l.length):(iv l)[i]? =some (ii l[i]):=by simp [iv,h]
theorem bZ {M:Imm} {ob:Hs} {v:Value} {cs:List AVal} (h:Rep M ob v (.agg cs)) (i:Nat) (a:AVal) (c:cs[i]? =some a):okA a:=by
 obtain ⟨vs,_,hl,d⟩:=h.agg_inv
 have b:i<vs.length:=by rw [hl];exact (Ab.1 c).1
 exact (d i _ a (Aa b) c).okA
theorem aA.get {P:Program} {f:FuncId} {args:List AVal} {obs obs':List AObj} {r:Res} (Q:Prop) (c:∀ M ob vs,cD M ob vs args->Q) (h:Q->aA P f args obs r obs'):aA P f args obs r obs':=
 fun M ob w a hm b=>h (c _ _ _ b) M ob w a hm b
theorem iZ {b:Bool} (h:(!b)=true):b=false:=by cases b<;>first | rfl | cases h
theorem jA {b:Bool} (h:(!b)=false):b=true:=by cases b<;>first | rfl | cases h
structure Rn where
 g:Gan
 (seq at' st fl:Int)
 hs:List Int
 deriving DecidableEq
def Rn.cs (x:Rn):List AVal:=[ii x.g.id,ii x.g.ten,ii x.g.pods,ii x.g.need.a,ii x.g.need.b,ii x.g.need.c,ii x.g.run,ii x.g.lev,ii x.g.pref,ii x.seq,ii x.at',ii x.st,ii x.fl,.slice 1 (iv x.hs) .no]
def Rn.av (x:Rn):AVal:=.agg x.cs
abbrev rav (l:List Rn):=l.map Rn.av
theorem dH {l:List Rn} {i:Nat} (h:i<l.length):(rav l)[i]? =some l[i].av:=by simp [rav,h]
theorem jD {l:List V3} {i:Nat} (h:i<l.length):(vav l)[i]? =some l[i].av:=by simp [vav,h]
theorem aBb {n:Int} (h:9223372036854775807<n) (a:n<=18446744073709551614):IntKind.wrap .i64 n=n-18446744073709551616:=by
 simp [IntKind.wrap,IntKind.signed,IntKind.bits];omega
theorem aBa {n:Int} (h:n< -9223372036854775808) (a: -18446744073709551616<=n):IntKind.wrap .i64 n=n+18446744073709551616:=by
 simp [IntKind.wrap,IntKind.signed,IntKind.bits];omega
set_option maxRecDepth 10000
def eV (n m:Int):Int:=min (max n (0-m)) m
theorem eU (n m:Int) (h:0<=m): -m<=eV n m/\eV n m<=m:=by unfold eV;omega
theorem N8 (n m:Int) (a:0<=m) (h1:m<=1099511627776):aA Tryz.prog 168 [ii n,ii m] [] (.ret (ii (eV n m))) []:=by
 exact c_ Tryz.f168 fun _=>zW
def hD (x y:Int):Int:=eV (eV x 1099511627776+eV y 1099511627776) 1099511627776
def R4 (x y:Int):Int:=eV (eV x 1099511627776-eV y 1099511627776) 1099511627776
def CP (x n:Int):Int:=eV (eV x 1099511627776*eV n 1048576) 1099511627776
theorem P9 (x n:Int): -1152921504606846976<=eV x 1099511627776*eV n 1048576/\eV x 1099511627776*eV n 1048576<=1152921504606846976:=by
 have h1:=eU x 1099511627776 d_
 have a:=eU n 1048576 d_
 have h3:(eV x 1099511627776*eV n 1048576).natAbs<=1099511627776*1048576:=by
  rw [Int.natAbs_mul]
  exact Gf o_ o_
 omega
theorem aEd (x y:Int):aA Tryz.prog 167 [ii x,ii y] [] (.ret (ii (hD x y))) []:=by
 have h1:=eU x 1099511627776 d_
 have a:=eU y 1099511627776 d_
 refine c_ Tryz.f167 fun _=>?_
 repeat' first | (refine gN hE ?_;conv=>whnf) | refine .pure _ [] (N8 _ _ d_ d_) ?_ | exact rfl | refine aY ?_ | refine aN ?_ | refine aT fun h=>?_ | refine aF fun h=>?_ | refine ⟨fun h=>?_,fun h=>?_⟩ | refine aJ ?_ | refine ⟨_,rfl,?_⟩ | refine aD ?_ | fail
theorem aBw (x y:Int):aA Tryz.prog 273 [ii x,ii y] [] (.ret (ii (R4 x y))) []:=by
 have h1:=eU x 1099511627776 d_
 have a:=eU y 1099511627776 d_
 refine c_ Tryz.f273 fun _=>?_
 repeat' first | (refine gN hE ?_;conv=>whnf) | refine .pure _ [] (N8 _ _ d_ d_) ?_ | exact rfl | refine aY ?_ | refine aN ?_ | refine aT fun h=>?_ | refine aF fun h=>?_ | refine ⟨fun h=>?_,fun h=>?_⟩ | refine aJ ?_ | refine ⟨_,rfl,?_⟩ | refine aD ?_ | fail
theorem aCF (x y n:Int):aA Tryz.prog 278 [ii x,ii y,.ptr [ii n]] [] (.ret (ii (CP x n))) []:=by
 have h1:=P9 x n
 refine c_ Tryz.f278 fun _=>?_
 repeat' first | (refine gN hE ?_;conv=>whnf) | refine .pure _ [] (N8 _ _ d_ d_) ?_ | exact rfl | refine aY ?_ | refine aN ?_ | refine aT fun h=>?_ | refine aF fun h=>?_ | refine ⟨fun h=>?_,fun h=>?_⟩ | refine aJ ?_ | refine ⟨_,rfl,?_⟩ | refine aD ?_ | fail
def V3.map2 (op:Int->Int->Int) (a b:V3):V3:=⟨op a.a b.a,op a.b b.b,op a.c b.c⟩
theorem RE (f:FuncId) (op:Int->Int->Int) (a b:V3) (h:∀ x y,aA Tryz.prog f [ii x,ii y] [] (.ret (ii (op x y))) []):aA Tryz.prog 166 [a.av,b.av,.func (.func f) [] []] [] (.ret (V3.map2 op a b).av) []:=by
  refine c_ Tryz.f166 fun _=>?_
  refine gV ?_
  repeat' first
   | (refine gW hE ?_;conv=>whnf)
   | refine .pure _ [] (h _ _) ?_
   | exact rfl
   | refine aY ?_
   | refine aN ?_
   | refine aJ ?_
   | refine Aw _ (Ad rfl ?_)
   | refine Ad d_ ?_
theorem aAB (f:FuncId) (op:Int->Int->Int) (n:Int) (a b:V3) (h:∀ x y,aA Tryz.prog f [ii x,ii y,.ptr [ii n]] [] (.ret (ii (op x y))) []):aA Tryz.prog 166 [a.av,b.av,.func (.func f) [] [.ptr [ii n]]] [] (.ret (V3.map2 op a b).av) []:=by
  refine c_ Tryz.f166 fun _=>?_
  refine gV ?_
  repeat' first
   | (refine gW hE ?_;conv=>whnf)
   | refine .pure _ [] (h _ _) ?_
   | exact rfl
   | refine aY ?_
   | refine aN ?_
   | refine aJ ?_
   | refine Aw _ (Ad rfl ?_)
   | refine Ad d_ ?_
def dG (a b:V3):V3:=V3.map2 hD a b
def sI (a b:V3):V3:=V3.map2 R4 a b
def LU (a:V3) (n:Int):V3:=V3.map2 (fun x _=>CP x n) a a
theorem jE (a b:V3):aA Tryz.prog 88 [a.av,b.av] [] (.ret (dG a b).av) []:=by
 refine c_ Tryz.f88 fun _=>?_
 have c:=RE _ hD a b aEd
 exact zW
theorem E9 (a b:V3):aA Tryz.prog 219 [a.av,b.av] [] (.ret (sI a b).av) []:=by
 refine c_ Tryz.f219 fun _=>?_
 have c:=RE _ R4 a b aBw
 exact zW
theorem aBe (a:V3) (n:Int):aA Tryz.prog 228 [a.av,ii n] [] (.ret (LU a n).av) []:=by
 refine c_ Tryz.f228 fun _=>?_
 have b:=aAB _ (fun x _=>CP x n) n a a fun x y=>aCF x y n
 exact zW
def bK (a b:V3):Bool:=if decide (b.a<a.a)=true then false else if decide (b.b<a.b)=true then false else if decide (b.c<a.c)=true then false else true
abbrev aFB (n:Int):AVal:=.func (.func 165) [] [.ptr [ii n]]
theorem aFA (x:Nod) (n:Int):aA Tryz.prog 165 [x.av,.ptr [ii n]] [] (.ret (.bool (decide (x.p=n)))) []:=by
 exact c_ Tryz.f165 fun _=>zW
def findP (n:Int):List Nod->Nat->Int
 | [],_=> -1
 | x::r,i=>if decide (x.p=n)=true then (i:Int) else findP n r (i+1)
noncomputable abbrev aEG:Func:=Tryz.f231
theorem TW (l:List Nod) (n:Int) (hl:((nav l).length:Int)<=9223372036854775807) (r:Int):∀ (m i:Nat),i+m=l.length->findP n (l.drop i) i=r->
  To E aEG (.pure (.ret (ii r))) (.head (stk aEG 0) [(0,.slice 11 (nav l) .no),(1,aFB n),(7,.int .i64 ((nav l).length:Nat)),(8,.int .i64 i)] []):=by
 have d:(nav l).length=l.length:=by simp
 intro m
 induction m with
 | zero=>
  intro i g a
  rw [Ae o_] at a
  subst a
  refine gV ?_
  exact zW
 | succ m f=>
  intro i g a
  have b:i<l.length:=o_
  rw [Ac b] at a
  generalize e:l[i]=x at a
  have get:(nav l)[i]? =some x.av:=(eW b).trans (by rw [e])
  unfold findP at a
  refine gV ?_
  refine aT fun h=>?_
  repeat' first | (refine gN hE ?_;conv=>whnf) | refine ⟨_,get,?_⟩ | refine .pure _ [] (aFA x n) ?_ | exact rfl | refine aY ?_ | refine aN ?_ | refine aT fun h=>?_ | refine aF fun h=>?_ | refine ⟨fun h=>?_,fun h=>?_⟩ | refine aJ ?_ | refine ⟨_,rfl,?_⟩ | refine aD ?_ | fail
  .have h:decide (x.p=n)=true:=h
   rw [if_pos h] at a
   rw [<-a]
  .have h:decide (x.p=n)=false:=h
   rw [if_neg (by rw [h];decide)] at a
   have c:=f (i+1) o_ a
   exact zW
theorem aCY (l:List Nod) (n:Int):aA Tryz.prog 231 [.slice 11 (nav l) .no,aFB n] [] (.ret (ii (findP n l 0))) []:=by
 refine c_ Tryz.f231 fun b=>?_
 have hl:((nav l).length:Int)<=9223372036854775807:=b.1
 have a:=TW l n hl _ l.length 0 o_ rfl
 exact zW
theorem aC3 (l:List Nod) (n:Int):aA Tryz.prog 164 [.slice 11 (nav l) .no,aFB n] [] (.ret (.bool (decide (0<=findP n l 0)))) []:=by
 refine c_ Tryz.f164 fun _=>?_
 have a:=aCY l n
 exact zW
def aW (ns:List Nod) (n:Int):Bool:=if decide (0<=n)=true then (if decide (n<(ns.length:Int))=true then !decide (0<=findP n ns 0) else false) else false
theorem Y9 (c:Con) (n:Int) (r:Bool) (d:aW c.ns n=r):aA Tryz.prog 87 [c.av,ii n] [] (.ret (.bool r)) []:=by
 have b:(nav c.ns).length=c.ns.length:=by simp
 unfold aW at d
 refine c_ Tryz.f87 fun _=>?_
 refine gV ?_
 refine Ad (fun h1=>?_) (fun h1=>?_)
 .have h1:decide (0<=n)=true:=h1
  rw [if_pos h1] at d
  refine gV ?_
  refine Ad (fun a=>?_) (fun a=>?_)
  .have a:decide (n<((nav c.ns).length:Int))=true:=a
   rw [b] at a
   rw [if_pos a] at d
   repeat' first | (refine gN hE ?_;conv=>whnf) | refine .pure _ [] (aC3 c.ns n) ?_ | exact rfl | refine aY ?_ | refine aN ?_ | refine aT fun h=>?_ | refine aF fun h=>?_ | refine ⟨fun h=>?_,fun h=>?_⟩ | refine aJ ?_ | refine ⟨_,rfl,?_⟩ | refine aD ?_ | fail
   rw [<-d]
  .have a:decide (n<((nav c.ns).length:Int))=false:=a
   rw [b] at a
   rw [if_neg (by rw [a];decide)] at d
   repeat' first | (refine gN hE ?_;conv=>whnf) | exact rfl | refine aY ?_ | refine aN ?_ | refine aT fun h=>?_ | refine aF fun h=>?_ | refine ⟨fun h=>?_,fun h=>?_⟩ | refine aJ ?_ | refine ⟨_,rfl,?_⟩ | refine aD ?_ | fail
   rw [<-d]
 .have h1:decide (0<=n)=false:=h1
  rw [if_neg (by rw [h1];decide)] at d
  repeat' first | (refine gN hE ?_;conv=>whnf) | exact rfl | refine aY ?_ | refine aN ?_ | refine aT fun h=>?_ | refine aF fun h=>?_ | refine ⟨fun h=>?_,fun h=>?_⟩ | refine aJ ?_ | refine ⟨_,rfl,?_⟩ | refine aD ?_ | fail
  rw [<-d]
theorem nF (c:Con) (n:Int):aA Tryz.prog 87 [c.av,ii n] [] (.ret (.bool (aW c.ns n))) []:=Y9 c n _ rfl
inductive Ylds (P:Program) (l:Nat):List Int->BInv->BInv->Bool->Prop
 | nil (I:BInv):Ylds P l [] I I true
 | stop (x:Int) (r:List Int) (I I':BInv) (h:bM P (.yield l) [ii x] [.bun 0 I] (.ret (.bool false)) [.bun 1 I']):Ylds P l (x::r) I I' false
 | next (x:Int) (r:List Int) (I I1 I2:BInv) (b:Bool) (h:bM P (.yield l) [ii x] [.bun 0 I] (.ret (.bool true)) [.bun 1 I1]) (k:Ylds P l r I1 I2 b):Ylds P l (x::r) I I2 b
def upF (ns:List Nod):Nat->Int->List Int
 | 0,_=>[]
 | f+1,n=>if decide (0<=n)=true then (if h:n.toNat<ns.length then (if decide (n<=(ns[n.toNat]).p)=true then [n] else n::upF ns f (ns[n.toNat]).p) else []) else []
def upL (ns:List Nod) (n:Int):List Int:=upF ns (n.toNat+1) n
noncomputable abbrev aDh:Func:=Tryz.f277
theorem VF (l:Nat) (c:Con) (hl:((nav c.ns).length:Int)<=9223372036854775807) (h:BInv) (b:Bool):∀ (f:Nat) (n:Int),n<(f:Int)->∀ (I:BInv),Ylds Tryz.prog l (upF c.ns f n) I h b->
  ∃ m i,To E aDh (.full 2 (.ret (.tup [])) [.cells 3 [m],.bun i h]) (.head (stk aDh 0) [(0,.func (.yield l) [] []),(1,.ref 0 0),(2,.ptr c.cs)] [.cells 3 [ii n],.bun 1 I]):=by
 have o:(nav c.ns).length=c.ns.length:=by simp
 intro f
 induction f with
 | zero=>
  intro n u I a
  have h1:¬ 0<=n:=o_
  cases a
  exact zqha2
 | succ f k=>
  intro n u I a
  have q:=fun (p:Int) (hp:¬ n<=p) (e:BInv) (h1:Ylds Tryz.prog l (upF c.ns f p) e h b)=>k p o_ e h1
  unfold upF at a
  by_cases h1:0<=n
  .rw [if_pos (decide_eq_true h1)] at a
   by_cases j:n.toNat<c.ns.length
   .rw [dif_pos j] at a
    generalize r:c.ns[n.toNat]=x at a
    have get:(nav c.ns)[n.toNat]? =some x.av:=(eW j).trans (by rw [r])
    have v:n=(n.toNat:Int):=o_
    by_cases h3:n<=x.p
    .rw [if_pos (decide_eq_true h3)] at a
     cases a with
     | stop _ _ _ _ d=>
      exact zqha2
     | next _ _ _ e _ _ d g=>
      cases g
      exact zqha2
    .rw [if_neg (by rw [decide_eq_false h3];decide)] at a
     cases a with
     | stop _ _ _ _ d=>
      exact zqha2
     | next _ _ _ e _ _ d g=>
      obtain ⟨m,i,s⟩:=q x.p o_ _ g
      refine ⟨m,i,?_⟩
      refine gV ?_
      exact zW
   .rw [dif_neg j] at a
    cases a
    exact zqha2
  .rw [if_neg (by rw [decide_eq_false h1];decide)] at a
   cases a
   exact zqha2
theorem R0 (l:Nat) (c:Con) (n:Int) (I e:BInv) (b:Bool) (hl:((nav c.ns).length:Int)<=9223372036854775807) (a:Ylds Tryz.prog l (upL c.ns n) I e b):
  ∃ m h,To E aDh (.full 2 (.ret (.tup [])) [.cells 3 [m],.bun h e]) (.head (stk aDh 0) [(0,.func (.yield l) [] []),(1,.ref 0 0),(2,.ptr c.cs)] [.cells 3 [ii n],.bun 0 I]):=by
 have j:(nav c.ns).length=c.ns.length:=by simp
 unfold upL at a
 have k:=fun (p:Int) (hp:¬ n<=p) (f:BInv) (h1:Ylds Tryz.prog l (upF c.ns n.toNat p) f e b)=>VF l c hl e b n.toNat p o_ f h1
 unfold upF at a
 by_cases h1:0<=n
 .rw [if_pos (decide_eq_true h1)] at a
  by_cases i:n.toNat<c.ns.length
  .rw [dif_pos i] at a
   generalize o:c.ns[n.toNat]=x at a
   have get:(nav c.ns)[n.toNat]? =some x.av:=(eW i).trans (by rw [o])
   have r:n=(n.toNat:Int):=o_
   by_cases h3:n<=x.p
   .rw [if_pos (decide_eq_true h3)] at a
    cases a with
    | stop _ _ _ _ d=>
     exact zqha2
    | next _ _ _ f _ _ d g=>
     cases g
     exact zqha2
   .rw [if_neg (by rw [decide_eq_false h3];decide)] at a
    cases a with
    | stop _ _ _ _ d=>
     exact zqha2
    | next _ _ _ f _ _ d g=>
     obtain ⟨m,h,q⟩:=k x.p o_ _ g
     refine ⟨m,h,?_⟩
     refine gV ?_
     exact zW
  .rw [dif_neg i] at a
   cases a
   refine ⟨ii n,0,?_⟩
   refine gV ?_
   exact zW
 .rw [if_neg (by rw [decide_eq_false h1];decide)] at a
  cases a
  refine ⟨ii n,0,?_⟩
  refine gV ?_
  exact zW
theorem LX (l:Nat) (c:Con) (n:Int) (I d:BInv) (b:Bool) (hl:((nav c.ns).length:Int)<=9223372036854775807) (e:Ylds Tryz.prog l (upL c.ns n) I d b):∃ m a,aA Tryz.prog 277 [.func (.yield l) [] [],.ref 0 0,.ptr c.cs] [.cells 3 [ii n],.bun 0 I] (.ret (.tup [])) [.cells 3 [m],.bun a d]:=by
 obtain ⟨m,a,h⟩:=R0 l c n I d b hl e
 refine ⟨m,a,?_⟩
 refine cT (E:=E) (fn:=Tryz.f277) (g:=.full 2 _ _) fun _=>?_
 exact zW
theorem VC (c:Con) (n:Int):aA Tryz.prog 226 [c.av,ii n] [] (.ret (.func (.func 277) [] [.ref 0 0,.ptr c.cs])) [.cells 3 [ii n]]:=by
 refine cT (E:=E) (fn:=Tryz.f226) (g:=.full 0 _ _) fun _=>?_
 refine gV ?_
 refine ⟨[0],[1],⟨rfl,rfl⟩,?_⟩
 exact ⟨rfl,rfl⟩
abbrev Led:=List (Int×V3)
def led (L:Led):List (List Int×AVal):=L.map fun p=>([p.1],p.2.av)
def gO:Led->Int->Option V3
 | [],_=>none
 | (k,v)::r,n=>if k=n then some v else gO r n
def uQ:Led->Int->V3->Led
 | [],n,v=>[(n,v)]
 | (k,w)::r,n,v=>if k=n then (n,v)::r else (k,w)::uQ r n v
def AR:Led->Int->Led
 | [],_=>[]
 | (k,w)::r,n=>if k=n then r else (k,w)::AR r n
theorem AM (n:Int):∀ (L:Led),bO (led L) [n]=(gO L n).map V3.av
 | []=>rfl
 | (k,v)::r=>by
  have:=AM n r
  simp only [led,Bk,bO,gO,Jy,and_true] at this⊢
  split
  .rfl
  .exact this
theorem QD (n:Int) (v:V3):∀ (L:Led),jW (led L) [n] v.av=led (uQ L n v)
 | []=>rfl
 | (k,w)::r=>by
  have:=QD n v r
  simp only [led,Bk,jW,uQ,Jy,and_true] at this⊢
  split
  .rfl
  .rw [this];rfl
theorem QE (n:Int):∀ (L:Led),CQ (led L) [n]=led (AR L n)
 | []=>rfl
 | (k,w)::r=>by
  have:=QE n r
  simp only [led,Bk,CQ,AR,Jy,and_true] at this⊢
  split
  .rfl
  .rw [this];rfl
def nU (L:Led) (n:Int):V3:=(gO L n).getD V3.zero
def isZ (v:V3):Bool:=(v.a==0)&&((v.b==0)&&((v.c==0)&&true))
def JY (L:Led) (n:Int) (v:V3):Led:=if isZ v=true then AR L n else uQ L n v
abbrev CT (c:Con):List AVal:=[.slice 11 (nav c.ns) .no,.slice 6 (hav c.hs) .no,ii c.half,ii c.age,.mref 1]
theorem aCc (c:Con) (n:Int) (v:V3) (L L':Led) (a:JY L n v=L'):aA Tryz.prog 227 [.ref 0 0,ii n,v.av] [.cells 279 (CT c),.mp false (led L)] (.ret (.tup [])) [.cells 279 (CT c),.mp false (led L')]:=by
 unfold JY at a
 refine cT (E:=E) (fn:=Tryz.f227) (g:=.full 2 _ _) fun _=>?_
 refine gV ?_
 refine Ad (fun h1=>?_) (fun h1=>?_)
 .have h1:isZ v=true:=h1
  rw [if_pos h1] at a
  refine gV ?_
  refine ⟨[],[0,1],⟨rfl,rfl⟩,?_⟩
  refine ⟨rfl,?_⟩
  show [AObj.cells _ _,AObj.mp false (CQ (led L) [n])]=_
  rw [QE,a]
 .have h1:isZ v=false:=h1
  rw [if_neg (by rw [h1];decide)] at a
  refine gV ?_
  refine ⟨[],[0,1],⟨rfl,rfl⟩,?_⟩
  refine ⟨rfl,?_⟩
  show [AObj.cells _ _,AObj.mp false (jW (led L) [n] v.av)]=_
  rw [QD,a]
theorem put_ok (c:Con) (n:Int) (v:V3) (L:Led):aA Tryz.prog 227 [.ref 0 0,ii n,v.av] [.cells 279 (CT c),.mp false (led L)] (.ret (.tup [])) [.cells 279 (CT c),.mp false (led (JY L n v))]:=aCc c n v L _ rfl
theorem yG {α:Type} {P:Program} {l:Nat} (F:α->BInv) (st:α->Int->α) (h:∀ a x,bM P (.yield l) [ii x] [.bun 0 (F a)] (.ret (.bool true)) [.bun 1 (F (st a x))]):∀ (xs:List Int) (a:α),Ylds P l xs (F a) (F (xs.foldl st a)) true
 | [],a=>.nil _
 | x::r,a=>.next x r _ _ _ _ (h a x) (yG F st h r (st a x))
def vE (v:V3) (L:Led) (x:Int):Led:=JY L x (dG (nU L x) v)
noncomputable abbrev aDn:Func:=Tryz.f160
def aH0 (c:Con):List (Nat×AVal):=[(4,.ref 2 0),(6,.ref 3 0),(7,.ref 4 0),(22,.func (.func 277) [] [.ref 5 0,.ptr c.cs])]
def RL (c:Con) (v:V3) (L:Led) (o:AObj):List AObj:=[.cells 279 (CT c),.mp false (led L),.cells 222 [.ref 0 0],.cells 34 v.cs,.cells 167 [.func (.func 88) [] []],.dead,o]
theorem aAM (c:Con) (v:V3) (L:Led) (x:Int) (l:Nat) (R:Loop) (d:R.state= .ready):
  To (El l [] [] []) aDn (.keep 7 (.ret (.bool true)) (RL c v (vE v L x) (.bun 0 (cF l {R with state:=.busy})))) (.code [.code (rfA aDn),.beginR,.code (rfB aDn)] (eZ (aH0 c) 23 (ii x)) (RL c v L (.bun 0 (cF l R)))):=by
 refine gV ?_
 refine To.beginR (k:=6) (gg:=0) rfl rfl d ?_
 have a:=AM x L
 unfold vE nU
 cases b:gO L x with
 | none=>
  rw [b] at a
  have a:bO (led L) [x]=none:=a
  refine gV ?_
  refine ⟨none,a,?_⟩
  refine gV ?_
  refine .pure _ [] (jE V3.zero v) ?_
  exact zqha9
 | some u=>
  rw [b] at a
  have a:bO (led L) [x]=some u.av:=a
  refine gV ?_
  refine ⟨some u.av,a,?_⟩
  refine gV ?_
  refine .pure _ [] (jE u v) ?_
  exact zqha9
theorem OF (c:Con) (t:Int) (v:V3) (L L':Led) (e:Int) (h:aW c.ns t=true->L'=(upL c.ns t).foldl (vE v) L/\e=0) (i:aW c.ns t=false->L'=L/\e=3) (hl:((nav c.ns).length:Int)<=9223372036854775807):
  aA Tryz.prog 160 [.ref 0 0,ii t,v.av,.func (.func 88) [] []] [.cells 279 (CT c),.mp false (led L)] (.ret (ii e)) [.cells 279 (CT c),.mp false (led L')]:=by
 refine cT (E:=E) (fn:=Tryz.f160) (g:=.full 2 _ _) fun _=>?_
 refine gV ?_
 refine .pure _ [] (nF c t) ?_
 refine gV ?_
 refine Ad (fun h1=>?_) (fun h1=>?_)
 .have h1:aW c.ns t=false:=iZ h1
  obtain ⟨rfl,rfl⟩:=i h1
  refine gV ?_
  refine ⟨[],[0,1],⟨rfl,rfl⟩,⟨rfl,rfl⟩⟩
 .have h1:aW c.ns t=true:=jA h1
  obtain ⟨rfl,rfl⟩:=h h1
  refine gV ?_
  refine .pure _ [.cells 3 [ii t]] (VC c t) ?_
  refine gV ?_
  refine To.cutC [4,6,7,22] 6 rfl rfl rfl rfl ?_
  refine To.range [5] rfl rfl (fun _ _=>by rfl) rfl (fun _ _=>rfl) rfl fun l ob0 R _ a=>?_
  obtain ⟨m,j,d⟩:=LX l c t _ _ true hl (yG (P:=Tryz.prog) (l:=l) (fun L=>iR ob0 (aH0 c) R (RL c v L (.bun 0 (cF l R)))) (vE v) (fun L x=>gI (E:=Ex [] [] []) (fn:=aDn) (k:=6) (n:=7) (p:=23) (gg:=0) (L':=RL c v (vE v L x) (.bun 0 (cF l {R with state:=.busy}))) (b:=true) a.params a.ready a.pend a.assign a.body a.size rfl rfl rfl rfl rfl rfl rfl fun _=>aAM c v L x l R a.ready) (upL c.ns t) L)
  refine ⟨_,true,_,[.cells 3 [m]],j,d,rfl,rfl,?_⟩
  refine gV ?_
  refine ⟨[],[0,1],⟨rfl,rfl⟩,⟨rfl,rfl⟩⟩
structure Con.sm (c:Con):Prop where
 ns:c.ns.length<=1048576
 hs:c.hs.length<=1048576
theorem aFL (c:Con) (b:c.sm):aA Tryz.prog 159 [c.av] [] (.ret (.ref 0 0)) [.cells 279 (CT c),.mp false (led [])]:=by
 have h1:=b.ns
 have a:(nav c.ns).length=c.ns.length:=by simp
 refine cT (E:=E) (fn:=Tryz.f159) (g:=.full 0 _ _) fun _=>?_
 refine gV ?_
 refine Ad (Ad (by simp only [maxLen];omega) o_) ?_
 refine gV ?_
 refine ⟨[],[3,2],⟨rfl,rfl⟩,⟨rfl,rfl⟩⟩
def iP (f:Nat->V3) (i m:Nat):List V3:=(Db i).map f++Ah m V3.zero
theorem BJ (f:Nat->V3) (i m:Nat):(iP f i m).length=i+m:=by simp [iP]
theorem BI (f:Nat->V3) (i m:Nat):(vav (iP f i (m+1))).set i (f i).av=vav (iP f (i+1) m):=by
 have h1:(Db i).length=i:=by simp
 unfold iP vav
 rw [Ie,Bm,Bm,Bm,Kd,Bk]
 rw [Jb _ _ s_]
 simp
theorem BK (f:Nat->V3) (n:Nat):iP f n 0=(Db n).map f:=by simp [iP]
theorem uU (f:Nat->V3) (n:Nat):vav (iP f 0 n)=Ah n (AVal.agg [ii 0,ii 0,ii 0]):=by simp [iP,vav,V3.av,V3.zero,V3.cs]
noncomputable abbrev aHL:Func:=Tryz.f162
abbrev Y8 (c:Con) (L:Led):List AObj:=[.cells 279 (CT c),.mp false (led L)]
def kR (n:Nat) (L:Led):List V3:=(Db n).map fun i:Nat=>nU L (i:Int)
theorem aAY (c:Con) (L:Led) (j:c.ns.length<=1048576) (K:Int) (g:K=(c.ns.length:Nat)):∀ (m i:Nat),i+m=c.ns.length->
  To E aHL (.full 2 (.ret (.slice 3 (vav (kR c.ns.length L)) .no)) (Y8 c L)) (.head (stk aHL 0) [(0,.ref 0 0),(3,.row 2 0),(15,.int .i64 K),(16,.int .i64 i)] [.cells 279 (CT c),.mp false (led L),.row 0 3 34 (vav (iP (fun i:Nat=>nU L (i:Int)) i m))]):=by
 intro m
 induction m with
 | zero=>
  intro i d
  have e:iP (fun i:Nat=>nU L (i:Int)) i 0=kR c.ns.length L:=by rw [BK];unfold kR;rw [<-d];rfl
  rw [e]
  refine gV ?_
  refine aF fun h=>?_
  refine gV ?_
  refine ⟨[2],[0,1],⟨rfl,rfl⟩,⟨rfl,rfl⟩⟩
 | succ m f=>
  intro i d
  have hl:(vav (iP (fun i:Nat=>nU L (i:Int)) i (m+1))).length=i+(m+1):=by rw [Cw,BJ]
  have hs:=BI (fun i:Nat=>nU L (i:Int)) i m
  have a:=AM (i:Int) L
  have next:=f (i+1) o_
  rw [<-hs] at next
  unfold nU at next
  refine gV ?_
  refine aT fun h=>?_
  cases b:gO L (i:Int) with
  | none=>
   rw [b] at a next
   have a:bO (led L) [(i:Int)]=none:=a
   refine gV ?_
   refine ⟨none,a,?_⟩
   exact zqha1
  | some u=>
   rw [b] at a next
   have a:bO (led L) [(i:Int)]=some u.av:=a
   refine gV ?_
   refine ⟨some u.av,a,?_⟩
   exact zqha1
theorem aGR (c:Con) (L:Led) (b:c.sm):aA Tryz.prog 162 [.ref 0 0] (Y8 c L) (.ret (.slice 3 (vav (kR c.ns.length L)) .no)) (Y8 c L):=by
 have h1:=b.ns
 have a:(nav c.ns).length=c.ns.length:=by simp
 refine cT (E:=E) (fn:=Tryz.f162) (g:=.full 2 _ _) fun _=>?_
 refine gV ?_
 refine aN ?_
 refine gV ?_
 refine ⟨c.ns.length,by rw [a],?_⟩
 refine gV ?_
 refine ⟨⟨rfl,by omega,by simp only [maxLen];omega⟩,?_⟩
 refine gV ?_
 have next:=aAY c L h1 ((Ah c.ns.length (AVal.agg [ii 0,ii 0,ii 0])).length:Nat) (by rw [Gh]) c.ns.length 0 o_
 rw [uU] at next
 exact To.head [0,3,15,16] next
def dem (g:Gan):V3:=LU g.need g.pods
theorem aAC (g:Gan):aA Tryz.prog 161 [g.av] [] (.ret (dem g).av) []:=by
 refine c_ Tryz.f161 fun _=>?_
 have a:=aBe g.need g.pods
 exact zW
def rW (c:Con) (L:Led) (x:Rn):Led:=if aW c.ns x.g.ten=true then (upL c.ns x.g.ten).foldl (vE (dem x.g)) L else L
def ofL (c:Con) (l:List Rn):List V3:=kR c.ns.length (l.foldl (rW c) [])
theorem UV (c:Con) (t:Int) (v:V3) (L:Led) (a:c.sm):aA Tryz.prog 160 [.ref 0 0,ii t,v.av,.func (.func 88) [] []] (Y8 c L) (.ret (ii (if aW c.ns t=true then 0 else 3))) (Y8 c (if aW c.ns t=true then (upL c.ns t).foldl (vE v) L else L)):=
 OF c t v L _ _ (fun h=>⟨if_pos h,if_pos h⟩) (fun h=>⟨if_neg (by rw [h];decide),if_neg (by rw [h];decide)⟩) (by have:=a.ns;simp only [Cw];omega)
noncomputable abbrev fOf:Func:=Tryz.f85
theorem aCp (c:Con) (e:c.sm) (l:List Rn) (hl:l.length<=1048576) (R:List V3):∀ (m i:Nat) (L:Led),i+m=l.length->kR c.ns.length ((l.drop i).foldl (rW c) L)=R->
  To E fOf (.pure (.ret (.slice 3 (vav R) .no))) (.head (stk fOf 0) [(5,.ref 1 0),(10,.slice 14 (rav l) .no),(11,.int .i64 ((rav l).length:Nat)),(12,.int .i64 i)] [.cells 26 c.cs,.cells 279 [.slice 11 (nav c.ns) .no,.slice 6 (hav c.hs) .no,ii c.half,ii c.age,.mref 2],.mp false (led L)]):=by
 have d:(rav l).length=l.length:=by simp
 intro m
 induction m with
 | zero=>
  intro i L k a
  rw [Ae o_] at a
  subst a
  refine gV ?_
  refine aF fun h=>?_
  refine gV ?_
  refine .eff [] [1,2] _ _ rfl (aGR c L e) ?_
  exact zW
 | succ m f=>
  intro i L k a
  have b:i<l.length:=o_
  rw [Ac b,Al] at a
  generalize j:l[i]=x at a
  have get:(rav l)[i]? =some x.av:=(dH b).trans (by rw [j])
  have next:=f (i+1) (rW c L x) o_ a
  refine gV ?_
  refine aT fun h=>?_
  refine gV ?_
  refine ⟨i,rfl,?_⟩
  refine gV ?_
  refine ⟨_,get,?_⟩
  refine gV ?_
  refine .pure _ [] (aAC x.g) ?_
  refine gV ?_
  refine .sole rfl (.eff [] [1,2] _ _ rfl (UV c x.g.ten (dem x.g) L e) ?_)
  exact zW
theorem aEr (c:Con) (a:c.sm) (l:List Rn) (hl:l.length<=1048576):aA Tryz.prog 85 [c.av,.slice 14 (rav l) .no] [] (.ret (.slice 3 (vav (ofL c l)) .no)) []:=by
 refine c_ Tryz.f85 fun _=>?_
 refine gV ?_
 refine .pure _ [_,_] (aFL c a) ?_
 refine gV ?_
 exact To.cut [5,10,11,12] 3 rfl rfl rfl rfl (aCp c a l hl _ l.length 0 [] o_ rfl)
def lvF (ns:List Nod):Nat->Nat->List Int
 | 0,_=>[]
 | m+1,i=>if aW ns (i:Int)=true then (i:Int)::lvF ns m (i+1) else lvF ns m (i+1)
def jI (ns:List Nod):List Int:=lvF ns ns.length 0
theorem xP (ns:List Nod):∀ (m i:Nat),(lvF ns m i).length<=m
 | 0,_=>by simp [lvF]
 | m+1,i=>by
  have:=xP ns m (i+1)
  unfold lvF
  split
  .simp;omega
  .omega
noncomputable abbrev aHJ:Func:=Tryz.f280
theorem Y4 (c:Con) (n:c.sm) (R:List Int):∀ (m i:Nat) (a:List Int),i+m=c.ns.length->a.length<=i->a++lvF c.ns m i=R->
  To (Eo [3] []) aHJ (.pure (.ret (.slice 1 (iv R) .no))) (.head (stk aHJ 0) [(1,.ref 0 0),(3,.slice 1 (iv a) (.own 1 0)),(7,.int .i64 ((nav c.ns).length:Nat)),(8,.int .i64 i)] [.cells 26 c.cs,.tail 0 1 3]):=by
 have g:(nav c.ns).length=c.ns.length:=by simp
 have h1:=n.ns
 intro m
 induction m with
 | zero=>
  intro i a l j b
  unfold lvF at b
  rw [Bo] at b
  subst b
  refine gV ?_
  exact zW
 | succ m f=>
  intro i a l j b
  have k:(iv a).length=a.length:=by simp
  unfold lvF at b
  refine gV ?_
  refine aT fun h=>?_
  refine gV ?_
  refine .pure _ [] (nF c i) ?_
  refine gV ?_
  refine Ad (fun d=>?_) (fun d=>?_)
  .have d:aW c.ns (i:Int)=true:=d
   rw [if_pos d] at b
   have next:=f (i+1) (a++[(i:Int)]) o_ q_ (by rw [Aj];exact b)
   have e:iv (a++[(i:Int)])=iv a++[ii i]:=by simp
   rw [e] at next
   exact zW
  .have d:aW c.ns (i:Int)=false:=d
   rw [if_neg (by rw [d];decide)] at b
   have next:=f (i+1) a o_ o_ b
   exact zW
theorem aFR (c:Con) (b:c.sm):aA Tryz.prog 280 [c.av] [] (.ret (.slice 1 (iv (jI c.ns)) .no)) []:=by
 refine cT (E:=(Eo [3] [])) (fn:=Tryz.f280) (g:=.pure _) fun _=>?_
 have a:=Y4 c b _ c.ns.length 0 [] o_ s_ rfl
 exact zW
theorem VE (ns:List Nod):∀ (f:Nat) (n x:Int),x∈upF ns f n->x<=n
 | 0,n,x,h=>by simp [upF] at h
 | f+1,n,x,h=>by
  unfold upF at h
  split at h
  .split at h
   .split at h
    .simp at h;omega
    .rename_i h3
     rcases Ao.1 h with rfl | h
     .omega
     .have:=VE ns f _ x h
      have:¬ n<=(ns[n.toNat]).p:=fun a=>h3 (decide_eq_true a)
      omega
   .simp at h
  .simp at h
theorem FD (ns:List Nod):∀ (f:Nat) (n:Int),(upF ns f n).Pairwise fun a b=>b<a
 | 0,n=>by simp [upF]
 | f+1,n=>by
  unfold upF
  split
  .split
   .split
    .simp
    .rename_i h3
     refine Ce.2 ⟨fun x d=>?_,FD ns f _⟩
     have:=VE ns f _ x d
     have:¬ n<=(ns[n.toNat]).p:=fun c=>h3 (decide_eq_true c)
     omega
   .simp
  .simp
def qV (ns:List Nod) (n t:Int):List Int:=if n∈upL ns t then [t] else []
def bD (ns:List Nod) (n:Int):List Int:=(jI ns).flatMap (qV ns n)
noncomputable abbrev iW:Func:=Tryz.f279
def aBr (c:Con) (n:Int) (lv:List Int) (i K:Int):List (Nat×AVal):=[(1,.ptr c.cs),(2,.ptr [ii n]),(3,.ref 1 0),(5,.ref 2 0),(8,.slice 1 (iv lv) .no),(9,.int .i64 K),(10,.int .i64 i),(16,.func (.func 277) [] [.ref 3 0,.ptr c.cs])]
def oG (l:Nat) (t:Int) (G:Nat) (I:BInv) (o:AObj):List AObj:=[.bun G I,.cells 275 [.func (.yield l) [] []],.cells 3 [ii t],.dead,o]
abbrev busy (R:Loop):Loop:={R with state:=.busy}
theorem aBo (c:Con) (n t x i K:Int) (lv:List Int) (l l2 G:Nat) (I:BInv) (R:Loop) (a:R.state= .ready) (b:x≠n):
  To (El l2 [] [] []) iW (.keep 5 (.ret (.bool true)) (oG l t G I (.bun 0 (cF l2 (busy R))))) (.code [.code (rfA iW),.beginR,.code (rfB iW)] (eZ (aBr c n lv i K) 17 (ii x)) (oG l t G I (.bun 0 (cF l2 R)))):=by
 refine gV ?_
 refine To.beginR (k:=4) (gg:=0) rfl rfl a ?_
 exact zW
theorem aEY (c:Con) (n t i K:Int) (lv:List Int) (l l2 G:Nat) (I a:BInv) (R:Loop) (b:R.state= .ready) (d:G=0\/G=1) (e:bM Tryz.prog (.yield l) [ii t] [.bun 0 I] (.ret (.bool true)) [.bun 1 a]):
  To (El l2 [] [] []) iW (.keep 5 (.ret (.bool true)) (oG l t (G+1) a (.bun 0 (cF l2 (busy R))))) (.code [.code (rfA iW),.beginR,.code (rfB iW)] (eZ (aBr c n lv i K) 17 (ii n)) (oG l t G I (.bun 0 (cF l2 R)))):=by
 rcases d with rfl | rfl
 .exact zqha3
 .exact zqha3
theorem aBn (c:Con) (n t i K:Int) (lv:List Int) (l l2 G:Nat) (I a:BInv) (R:Loop) (b:R.state= .ready) (d:G=0\/G=1) (e:bM Tryz.prog (.yield l) [ii t] [.bun 0 I] (.ret (.bool false)) [.bun 1 a]):
  To (El l2 [] [] []) iW (.keep 5 (.ret (.bool false)) (oG l t (G+1) a (.bun 0 (cF l2 (busy R))))) (.code [.code (rfA iW),.beginR,.code (rfB iW)] (eZ (aBr c n lv i K) 17 (ii n)) (oG l t G I (.bun 0 (cF l2 R)))):=by
 rcases d with rfl | rfl
 .exact zqha3
 .exact zqha3
theorem tV {P:Program} {l:Nat} {J:BInv} {n:Int} (hs:∀ x,x≠n->bM P (.yield l) [ii x] [.bun 0 J] (.ret (.bool true)) [.bun 1 J]):∀ (xs:List Int),n∉xs->Ylds P l xs J J true
 | [],_=>.nil _
 | x::r,h=>.next x r _ _ _ _ (hs x fun e=>h (by simp [e])) (tV hs r fun e=>h (by simp [e]))
theorem yF {P:Program} {l:Nat} {J J1:BInv} {n:Int} {b:Bool} (hs:∀ x,x≠n->bM P (.yield l) [ii x] [.bun 0 J] (.ret (.bool true)) [.bun 1 J]) (c:bM P (.yield l) [ii n] [.bun 0 J] (.ret (.bool b)) [.bun 1 J1])
  (h1:b=true->∀ x,x≠n->bM P (.yield l) [ii x] [.bun 0 J1] (.ret (.bool true)) [.bun 1 J1]):∀ (xs:List Int),xs.Pairwise (fun a b=>b<a)->n∈xs->Ylds P l xs J J1 b
 | [],_,h=>by simp at h
 | x::r,hp,h=>by
  rw [Ce] at hp
  by_cases d:x=n
  .subst d
   cases b with
   | true=>exact .next x r _ _ _ _ c (tV (h1 rfl) r fun e=>by have:=hp.1 x e;omega)
   | false=>exact .stop x r _ _ c
  .exact .next x r _ _ _ _ (hs x d) (yF hs c h1 r hp.2 ((Ao.1 h).resolve_left fun e=>d e.symm))
def tnJ (c:Con) (n t i K:Int) (lv:List Int) (l l2:Nat) (ob0:Hs) (R a:Loop) (G:Nat) (I:BInv):BInv:=iR ob0 (aBr c n lv i K) R (oG l t G I (.bun 0 (cF l2 a)))
theorem sN {d e:Code} (c:Con) (n t x i K:Int) (lv:List Int) (l l2 G:Nat) (ob0:Hs) (I:BInv) (R:Loop) (a:RecOK iW 17 d e R) (h:rfA iW=d) (f:rfB iW=e) (g:x≠n):
  bM Tryz.prog (.yield l2) [ii x] [.bun 0 (tnJ c n t i K lv l l2 ob0 R R G I)] (.ret (.bool true)) [.bun 1 (tnJ c n t i K lv l l2 ob0 R R G I)]:=by
 subst h f
 exact gI (E:=Ex [] [] []) (fn:=iW) (k:=4) (n:=5) (p:=17) (gg:=0) (L':=oG l t G I (.bun 0 (cF l2 (busy R)))) (b:=true) a.params a.ready a.pend a.assign a.body a.size rfl rfl rfl rfl rfl rfl rfl fun _=>aBo c n t x i K lv l l2 G I R a.ready g
theorem O7 {g h:Code} (c:Con) (n t i K:Int) (lv:List Int) (l l2 G:Nat) (ob0:Hs) (I d:BInv) (R:Loop) (b:Bool) (a:RecOK iW 17 g h R) (m:rfA iW=g) (j:rfB iW=h) (f:G=0\/G=1) (e:bM Tryz.prog (.yield l) [ii t] [.bun 0 I] (.ret (.bool b)) [.bun 1 d]):
  bM Tryz.prog (.yield l2) [ii n] [.bun 0 (tnJ c n t i K lv l l2 ob0 R R G I)] (.ret (.bool b)) [.bun 1 (tnJ c n t i K lv l l2 ob0 R (jR R b) (G+1) d)]:=by
 subst m j
 cases b with
 | true=>exact gI (E:=Ex [] [] []) (fn:=iW) (k:=4) (n:=5) (p:=17) (gg:=0) (L':=oG l t (G+1) d (.bun 0 (cF l2 (busy R)))) (b:=true) a.params a.ready a.pend a.assign a.body a.size rfl rfl rfl rfl rfl rfl rfl fun _=>aEY c n t i K lv l l2 G I d R a.ready f e
 | false=>exact gI (E:=Ex [] [] []) (fn:=iW) (k:=4) (n:=5) (p:=17) (gg:=0) (L':=oG l t (G+1) d (.bun 0 (cF l2 (busy R)))) (b:=false) a.params a.ready a.pend a.assign a.body a.size rfl rfl rfl rfl rfl rfl rfl fun _=>aBn c n t i K lv l l2 G I d R a.ready f e
theorem VQ (c:Con) (X:c.sm) (n:Int) (l:Nat) (lv:List Int) (k:BInv) (b:Bool) (T:lv.length<=1048576):∀ (m i:Nat) (G:Nat) (I:BInv),i+m=lv.length->(G=0\/G=1)->Ylds Tryz.prog l ((lv.drop i).flatMap (qV c.ns n)) I k b->
  ∃ g,To E iW (.full 1 (.ret (.tup [])) [.bun g k]) (.head (stk iW 0) [(1,.ptr c.cs),(2,.ptr [ii n]),(3,.ref 1 0),(8,.slice 1 (iv lv) .no),(9,.int .i64 ((iv lv).length:Nat)),(10,.int .i64 i)] [.bun G I,.cells 275 [.func (.yield l) [] []]]):=by
 have O:(iv lv).length=lv.length:=by simp
 have J:((nav c.ns).length:Int)<=9223372036854775807:=by have:=X.ns;simp only [Cw];omega
 intro m
 induction m with
 | zero=>
  intro i G I Q p d
  rw [Ae o_] at d
  have d:Ylds Tryz.prog l [] I k b:=d
  cases d
  rcases p with rfl | rfl
  .refine ⟨0,?_⟩
   refine gV ?_
   exact zW
  .refine ⟨1,?_⟩
   refine gV ?_
   exact zW
 | succ m N=>
  intro i G I Q p d
  have v:i<lv.length:=o_
  rw [Ac v,Hh] at d
  generalize j:lv[i]=t at d
  have get:(iv lv)[i]? =some (ii t):=(cH v).trans (by rw [j])
  -- what the loop within comes to
  have key:∃ (g u:Nat) (C:BInv) (o:Bool),(o=true->(u=G\/u=G+1)/\To E iW (.full 1 (.ret (.tup [])) [.bun g k]) (.head (stk iW 0) [(1,.ptr c.cs),(2,.ptr [ii n]),(3,.ref 1 0),(8,.slice 1 (iv lv) .no),(9,.int .i64 ((iv lv).length:Nat)),(10,.int .i64 ((i:Int)+1))] [.bun (if u=0 then 0 else 1) C,.cells 275 [.func (.yield l) [] []]]))/\(o=false->u=G+1/\g=1/\C=k)/\
    ∀ (l2:Nat) (ob0:Hs) (R:Loop) (w y:Code),RecOK iW 17 w y R->rfA iW=w->rfB iW=y->Ylds Tryz.prog l2 (upL c.ns t) (tnJ c n t i ((iv lv).length:Nat) lv l l2 ob0 R R G I) (tnJ c n t i ((iv lv).length:Nat) lv l l2 ob0 R (jR R o) u C) o:=by
   unfold qV at d
   have B:(upL c.ns t).Pairwise fun a b=>b<a:=FD _ _ _
   by_cases z:n∈upL c.ns t
   .rw [if_pos z] at d
    have d:Ylds Tryz.prog l (t::(lv.drop (i+1)).flatMap (qV c.ns n)) I k b:=d
    cases d with
    | stop _ _ _ _ s=>
     refine ⟨1,G+1,k,false,(fun h=>by cases h),fun _=>⟨rfl,rfl,rfl⟩,fun l2 ob0 R w y f r q=>?_⟩
     exact yF (fun x j=>sN c n t x i _ lv l l2 G ob0 I R f r q j) (O7 c n t i _ lv l l2 G ob0 I k R false f r q p s) (fun h=>by cases h) _ B z
    | next _ _ _ D _ _ s S=>
     obtain ⟨g,e⟩:=N (i+1) 1 D o_ (.inr rfl) S
     refine ⟨g,G+1,D,true,fun _=>⟨.inr rfl,?_⟩,(fun h=>by cases h),fun l2 ob0 R w y f r q=>?_⟩
     .rw [if_neg o_];exact e
     .exact yF (fun x j=>sN c n t x i _ lv l l2 G ob0 I R f r q j) (O7 c n t i _ lv l l2 G ob0 I D R true f r q p s) (fun _ x j=>sN c n t x i _ lv l l2 (G+1) ob0 D R f r q j) _ B z
   .rw [if_neg z] at d
    have d:Ylds Tryz.prog l ((lv.drop (i+1)).flatMap (qV c.ns n)) I k b:=d
    obtain ⟨g,e⟩:=N (i+1) G I o_ p d
    refine ⟨g,G,I,true,fun _=>⟨.inl rfl,?_⟩,(fun h=>by cases h),fun l2 ob0 R w y f r q=>?_⟩
    .rcases p with rfl | rfl
     .exact e
     .exact e
    .exact tV (fun x j=>sN c n t x i _ lv l l2 G ob0 I R f r q j) _ z
  obtain ⟨g,u,C,o,K,H,L⟩:=key
  refine ⟨g,?_⟩
  refine gV ?_
  refine aT fun h=>?_
  refine gV ?_
  refine ⟨i,rfl,?_⟩
  refine gV ?_
  refine ⟨_,get,?_⟩
  refine gV ?_
  refine .pure _ [.cells 3 [ii t]] (VC c t) ?_
  refine gV ?_
  refine To.cutC [1,2,3,5,8,9,10,16] 4 rfl rfl rfl rfl ?_
  refine To.range [3] rfl rfl (fun _ _=>by rfl) rfl (fun _ _=>rfl) rfl fun l2 ob0 R _ f=>?_
  obtain ⟨U,V,M⟩:=LX l2 c t _ _ o J (L l2 ob0 R _ _ f rfl rfl)
  refine ⟨oG l t u C (.bun 0 (cF l2 (jR R o))),o,_,[.cells 3 [U]],V,M,rfl,rfl,?_⟩
  cases o with
  | false=>
   obtain ⟨P,W,Y⟩:=H rfl
   subst P W Y
   rcases p with rfl | rfl
   .refine gV ?_
    refine ⟨[],[0],⟨rfl,rfl⟩,⟨rfl,rfl⟩⟩
   .refine gV ?_
    refine ⟨[],[0],⟨rfl,rfl⟩,⟨rfl,rfl⟩⟩
  | true=>
   obtain ⟨F,e⟩:=K rfl
   refine gV ?_
   refine aJ ?_
   refine gV ?_
   refine To.part [1,2,3,8,9,10] [0,1] rfl rfl rfl ?_
   rcases p with rfl | rfl<;>rcases F with rfl | rfl<;>exact e
theorem VP (c:Con) (i:c.sm) (n:Int) (l:Nat) (I e:BInv) (b:Bool) (k:Ylds Tryz.prog l (bD c.ns n) I e b):∃ a,aA Tryz.prog 279 [.func (.yield l) [] [],.ptr c.cs,.ptr [ii n]] [.bun 0 I] (.ret (.tup [])) [.bun a e]:=by
 have d:(jI c.ns).length<=1048576:=Cs (xP _ _ _) i.ns
 obtain ⟨a,h⟩:=VQ c i n l (jI c.ns) e b d (jI c.ns).length 0 0 I o_ (.inl rfl) k
 refine ⟨a,?_⟩
 refine cT (E:=E) (fn:=Tryz.f279) (g:=.full 1 _ _) fun _=>?_
 have j:=aFR c i
 exact zW
theorem yO (c:Con) (n:Int):aA Tryz.prog 229 [c.av,ii n] [] (.ret (.func (.func 279) [] [.ptr c.cs,.ptr [ii n]])) []:=by
 exact c_ Tryz.f229 fun _=>zW
theorem HU {P:Program} {l:Nat} (F:List Int->BInv) (h:∀ (a:List Int) x,a.length<1048576->bM P (.yield l) [ii x] [.bun 0 (F a)] (.ret (.bool true)) [.bun 1 (F (a++[x]))]):∀ (xs a:List Int),a.length+xs.length<=1048576->Ylds P l xs (F a) (F (a++xs)) true
 | [],a,_=>by rw [Bo];exact .nil _
 | x::r,a,hl=>by
  have:=HU F h r (a++[x]) (by simp at hl⊢;omega)
  rw [Aj] at this
  exact .next x r _ _ _ _ (h a x (by simp at hl;omega)) this
noncomputable abbrev BM:Func:=Tryz.f307
abbrev R3 (c:Con) (n:Int):AVal:=.func (.func 279) [] [.ptr c.cs,.ptr [ii n]]
def aGO (f:AVal):List (Nat×AVal):=[(2,.ref 0 0),(6,f)]
def rK (a:List Int) (g:Nat) (o:AObj):List AObj:=[.cells 53 [.slice 1 (iv a) (.own 1 g)],.tail g 1 3,o]
theorem U1 (f:AVal) (a:List Int) (x:Int) (hl:a.length<1048576) (l:Nat) (R:Loop) (c:R.state= .ready):
  To (El l [] [] []) BM (.keep 3 (.ret (.bool true)) (rK (a++[x]) 1 (.bun 0 (cF l (busy R))))) (.code [.code (rfA BM),.beginR,.code (rfB BM)] (eZ (aGO f) 7 (ii x)) (rK a 0 (.bun 0 (cF l R)))):=by
 exact zqha4
theorem U0 (f:AVal) (a:List Int) (x:Int) (hl:a.length<1048576) (l:Nat) (R:Loop) (c:R.state= .ready):
  To (El l [] [] []) BM (.keep 3 (.ret (.bool true)) (rK (a++[x]) 2 (.bun 0 (cF l (busy R))))) (.code [.code (rfA BM),.beginR,.code (rfB BM)] (eZ (aGO f) 7 (ii x)) (rK a 1 (.bun 0 (cF l R)))):=by
 exact zqha4
def gOf:List Int->Nat
 | []=>0
 | _::_=>1
theorem Z0 (a:List Int) (x:Int):gOf (a++[x])=1:=by cases a<;>rfl
def apJ (f:AVal) (ob0:Hs) (R:Loop) (l:Nat) (a:List Int):BInv:=iR ob0 (aGO f) R (rK a (gOf a) (.bun 0 (cF l R)))
theorem aAV {e g:Code} (f:AVal) (j:∀ og,cvtV 3 [0,1,2] og 5 f=f) (ob0:Hs) (l:Nat) (R:Loop) (d:List Int) (x:Int) (hl:d.length<1048576) (h1:∀ hs∈ob0,hs.length=1) (m:ob0.length=0) (c:RecOK BM 7 e g R) (i:rfA BM=e) (h:rfB BM=g):
  bM Tryz.prog (.yield l) [ii x] [.bun 0 (apJ f ob0 R l d)] (.ret (.bool true)) [.bun 1 (apJ f ob0 R l (d++[x]))]:=by
 subst i h
 unfold apJ
 rw [Z0]
 cases d with
 | nil=>exact gI (E:=Ex [] [] []) (fn:=BM) (k:=2) (n:=3) (p:=7) (gg:=0) (L':=rK ([]++[x]) 1 (.bun 0 (cF l (busy R)))) (b:=true) c.params c.ready c.pend c.assign c.body c.size rfl rfl rfl rfl rfl rfl rfl fun _=>U1 f [] x hl l R c.ready
 | cons a r=>
  have:=gI (E:=Ex [] [] []) (fn:=BM) (ob0:=ob0) (k:=2) (n:=3) (p:=7) (gg:=0) (L:=rK (a::r) 1 (.bun 0 (cF l R))) (L':=rK ((a::r)++[x]) 2 (.bun 0 (cF l (busy R)))) (b:=true) c.params c.ready c.pend c.assign c.body c.size rfl rfl rfl rfl rfl rfl rfl fun _=>U0 f (a::r) x hl l R c.ready
  refine this.bunTo (aAK (n:=3) rfl h1 o_ rfl ?_ rfl)
  show [(2,AVal.ref 0 0),(6,cvtV 3 [0,1,2] _ 5 f)]=_
  rw [j]
  rfl
theorem aGN (c:Con) (h:c.sm) (n:Int) (e:(bD c.ns n).length<=1048576):aA Tryz.prog 307 [.nilslice,R3 c n] [] (.ret (.slice 1 (iv (bD c.ns n)) .no)) []:=by
 refine c_ Tryz.f307 fun _=>?_
 refine gV ?_
 refine To.cutC [2,6] 1 rfl rfl rfl rfl ?_
 refine To.mapO (aFK 1) (YV 1) ?_
 refine To.beginC 0 0 3 rfl rfl ?_
 refine To.range [] rfl rfl (fun _ _=>by rfl) rfl (fun _ _=>rfl) rfl fun l ob0 R hst d=>?_
 obtain ⟨i,a⟩:=VP c h n l _ _ true (HU (P:=Tryz.prog) (l:=l) (apJ (R3 c n) ob0 R l) (fun b x hl=>aAV (R3 c n) (fun _=>rfl) ob0 l R b x hl (hst.2 rfl) hst.1 d rfl rfl) (bD c.ns n) [] (by simpa using e))
 rw [Jz] at a
 refine ⟨_,true,_,[],i,a,rfl,rfl,?_⟩
 exact zW
theorem OB (c:Con) (d:c.sm) (n:Int) (b:(bD c.ns n).length<=1048576):aA Tryz.prog 284 [R3 c n] [] (.ret (.slice 1 (iv (bD c.ns n)) .no)) []:=by
 refine c_ Tryz.f284 fun _=>?_
 have a:=aGN c d n b
 exact zW
theorem aC1 (ns:List Nod) (n t:Int):(qV ns n t).length<=1:=by unfold qV;split<;>simp
theorem mM (c:Con) (a:c.sm) (n:Int):(bD c.ns n).length<=1048576:=by
 have h:∀ (l:List Int),(l.flatMap (qV c.ns n)).length<=l.length:=by
  intro l
  induction l with
  | nil=>simp
  | cons x r b=>
   have:=aC1 c.ns n x
   simp only [Hh,Ar,Ba]
   omega
 exact Cs (h _) (Cs (xP _ _ _) a.ns)
theorem aAR (c:Con) (d:c.sm) (n:Int):aA Tryz.prog 317 [c.av,ii n] [] (.ret (.slice 1 (iv (bD c.ns n)) .no)) []:=by
 refine c_ Tryz.f317 fun _=>?_
 have b:=yO c n
 have a:=OB c d n (mM c d n)
 exact zW
def atV (l:List V3) (n:Int):V3:=if decide (n<0)=true then V3.zero else (l[n.toNat]?).getD V3.zero
theorem aD1 (l:List V3) (n:Int) (r:V3) (a:atV l n=r):aA Tryz.prog 230 [.slice 3 (vav l) .no,ii n] [] (.ret r.av) []:=by
 have b:(vav l).length=l.length:=by simp
 unfold atV at a
 by_cases h1:n<0
 .rw [if_pos (decide_eq_true h1)] at a
  subst a
  exact zqha10
 .rw [if_neg (by rw [decide_eq_false h1];decide)] at a
  by_cases c:n.toNat<l.length
  .rw [Aa c] at a
   have a:l[n.toNat]=r:=a
   have get:(vav l)[n.toNat]? =some r.av:=(jD c).trans (by rw [a])
   have d:n=(n.toNat:Int):=o_
   exact zqha10
  .rw [Bj o_] at a
   have a:V3.zero=r:=a
   subst a
   exact zqha10
theorem OK (l:List V3) (n:Int):aA Tryz.prog 230 [.slice 3 (vav l) .no,ii n] [] (.ret (atV l n).av) []:=aD1 l n _ rfl
theorem RV (a b:V3) (r:Bool) (c:bK a b=r):aA Tryz.prog 152 [a.av,b.av] [] (.ret (.bool r)) []:=by
 unfold bK at c
 refine c_ Tryz.f152 fun _=>?_
 refine gV ?_
 repeat' first
  | (refine gW hE ?_;conv=>whnf)
  | exact c
  | refine aY ?_
  | refine aN ?_
  | refine Ad (fun h=>?_) (fun h=>?_)
  | refine aJ ?_
  | refine Aw _ (Ad rfl ?_)
  | refine Ad d_ ?_
 all_goals (rw [<-c];simp_all)
theorem lP (a b:V3):aA Tryz.prog 152 [a.av,b.av] [] (.ret (.bool (bK a b))) []:=RV a b _ rfl
theorem yJ (a b:V3):aA Tryz.prog 89 [a.av,b.av] [] (.ret (.bool (!bK a b))) []:=by
 refine c_ Tryz.f89 fun _=>?_
 have c:=lP a b
 exact zW
noncomputable abbrev aDj:Func:=Tryz.f163
def smS (l:List V3) (v:V3) (t:Int):V3:=dG v (atV l t)
def gG (ns:List Nod) (n:Int) (l:List V3):V3:=(bD ns n).foldl (smS l) V3.zero
def aGZ (f:AVal):List (Nat×AVal):=[(5,.ref 1 0),(6,.ref 2 0),(7,.ref 3 0),(11,f)]
def PF (c:Con) (l:List V3) (v:V3) (o:AObj):List AObj:=[.cells 26 c.cs,.cells 164 [.slice 3 (vav l) .no],.cells 34 V3.zero.cs,.cells 34 v.cs,o]
theorem V1 (c:Con) (n:Int) (l:List V3) (v:V3) (x:Int) (k:Nat) (R:Loop) (d:R.state= .ready):
  To (El k [] [] []) aDj (.keep 5 (.ret (.bool true)) (PF c l (smS l v x) (.bun 0 (cF k (busy R))))) (.code [.code (rfA aDj),.beginR,.code (rfB aDj)] (eZ (aGZ (R3 c n)) 12 (ii x)) (PF c l v (.bun 0 (cF k R)))):=by
 refine gV ?_
 refine To.beginR (k:=4) (gg:=0) rfl rfl d ?_
 have b:=OK l x
 have a:=jE v (atV l x)
 exact zW
theorem VT (c:Con) (e:c.sm) (n:Int) (l:List V3):aA Tryz.prog 163 [c.av,ii n,.slice 3 (vav l) .no] [] (.ret (gG c.ns n l).av) []:=by
 refine c_ Tryz.f163 fun _=>?_
 refine gV ?_
 refine .pure _ [] (yO c n) ?_
 refine gV ?_
 refine To.cutC [5,6,7,11] 4 rfl rfl rfl rfl ?_
 refine To.range [] rfl rfl (fun _ _=>by rfl) rfl (fun _ _=>rfl) rfl fun k ob0 R hst a=>?_
 obtain ⟨h,d⟩:=VP c e n k _ _ true (yG (P:=Tryz.prog) (l:=k) (fun v=>iR ob0 (aGZ (R3 c n)) R (PF c l v (.bun 0 (cF k R)))) (smS l) (fun v x=>gI (E:=Ex [] [] []) (fn:=aDj) (k:=4) (n:=5) (p:=12) (gg:=0) (L':=PF c l (smS l v x) (.bun 0 (cF k (busy R)))) (b:=true) a.params a.ready a.pend a.assign a.body a.size rfl rfl rfl rfl rfl rfl rfl fun _=>V1 c n l v x k R a.ready) (bD c.ns n) V3.zero)
 refine ⟨_,true,_,[],h,d,rfl,rfl,?_⟩
 exact zW
def Con.ok (c:Con) (n:Int):Prop:=0<=n/\n.toNat<c.ns.length
theorem GE (ns:List Nod):∀ (m i:Nat) (x:Int),x∈lvF ns m i->(i:Int)<=x/\x<i+m
 | 0,_,_,h=>by simp [lvF] at h
 | m+1,i,x,h=>by
  have a:=GE ns m (i+1) x
  unfold lvF at h
  split at h
  .rcases Ao.1 h with rfl | h
   .omega
   .have:=a h;omega
  .have:=a h;omega
theorem iC (c:Con) (n x:Int) (h:x∈bD c.ns n):c.ok x:=by
 unfold bD at h
 obtain ⟨t,h1,a⟩:=List.mem_flatMap.1 h
 have:x=t:=by
  unfold qV at a
  split at a
  .simpa using a
  .simp at a
 subst this
 have:=GE c.ns c.ns.length 0 x h1
 exact ⟨by omega,by omega⟩
theorem FF (c:Con):∀ (f:Nat) (n x:Int),x∈upF c.ns f n->c.ok x
 | 0,_,_,h=>by simp [upF] at h
 | f+1,n,x,h=>by
  have b:=fun p=>FF c f p x
  unfold upF at h
  split at h
  .rename_i h1
   split at h
   .rename_i a
    split at h
    .simp at h;subst h;exact ⟨of_decide_eq_true h1,a⟩
    .rcases Ao.1 h with rfl | h
     .exact ⟨of_decide_eq_true h1,a⟩
     .exact b _ h
   .simp at h
  .simp at h
def bT (ns:List Nod) (n:Int):Nod:=(ns[n.toNat]?).getD ⟨0,0,V3.zero,V3.zero,V3.zero⟩
theorem tC {c:Con} {n:Int} (h:c.ok n):(nav c.ns)[n.toNat]? =some (bT c.ns n).av:=by
 unfold bT
 rw [Aa h.2]
 exact eW h.2
def S8 (v:V3):V3:=⟨max v.a 0,max v.b 0,max v.c 0⟩
def tF (ns:List Nod) (a:List V3) (t:Int) (v:V3) (s:Int):V3:=if decide (s=t)=true then v else dG v (S8 (sI (sI (bT ns s).n (bT ns s).l) (atV a s)))
def tG (ns:List Nod) (a:List V3) (n t:Int):V3:=(bD ns n).foldl (tF ns a t) V3.zero
noncomputable abbrev aEF:Func:=Tryz.f303
theorem TS (c:Con) (a:List V3) (t:Int) (bl:List Int) (y:bl.length<=1048576) (q:∀ x∈bl,c.ok x) (R:V3):∀ (m i:Nat) (v:V3),i+m=bl.length->(bl.drop i).foldl (tF c.ns a t) v=R->
  To E aEF (.pure (.ret R.av)) (.head (stk aEF 0) [(1,.slice 3 (vav a) .no),(3,ii t),(4,.ref 0 0),(8,.ref 1 0),(9,.ref 2 0),(18,.slice 1 (iv bl) .no),(19,.int .i64 ((iv bl).length:Nat)),(20,.int .i64 i)] [.cells 26 c.cs,.cells 34 V3.zero.cs,.cells 34 v.cs]):=by
 have j:(iv bl).length=bl.length:=by simp
 intro m
 induction m with
 | zero=>
  intro i v p f
  rw [Ae o_] at f
  subst f
  refine gV ?_
  exact zW
 | succ m o=>
  intro i v p f
  have d:i<bl.length:=o_
  rw [Ac d,Al] at f
  have b:=q _ (Bf d)
  generalize r:bl[i]=s at f b
  have get:(iv bl)[i]? =some (ii s):=(cH d).trans (by rw [r])
  have k:=tC b
  have w:s=(s.toNat:Int):=by have:=b.1;omega
  have next:=o (i+1) _ o_ f
  unfold tF at next
  generalize bT c.ns s=x at k next
  refine gV ?_
  refine aT fun h=>?_
  refine gV ?_
  refine ⟨i,rfl,?_⟩
  refine gV ?_
  refine ⟨_,get,?_⟩
  refine gV ?_
  refine Ad (fun e=>?_) (fun e=>?_)
  .have e:decide (s=t)=true:=e
   rw [if_pos e] at next
   exact zW
  .have e:decide (s=t)=false:=e
   rw [if_neg (by rw [e];decide)] at next
   refine gV ?_
   refine ⟨s.toNat,w,?_⟩
   refine gV ?_
   refine ⟨_,k,?_⟩
   refine gV ?_
   refine .pure _ [] (E9 x.n x.l) ?_
   refine gV ?_
   refine .pure _ [] (OK a s) ?_
   refine gV ?_
   refine .pure _ [] (E9 (sI x.n x.l) (atV a s)) ?_
   generalize sI (sI x.n x.l) (atV a s)=u at next⊢
   refine gV ?_
   refine gV ?_
   refine aY ?_
   refine gV ?_
   refine ⟨by decide,?_⟩
   refine gV ?_
   refine ⟨by decide,?_⟩
   refine gV ?_
   refine aJ ?_
   refine gV ?_
   refine gV ?_
   refine aY ?_
   refine gV ?_
   refine ⟨by decide,?_⟩
   refine gV ?_
   refine ⟨by decide,?_⟩
   refine gV ?_
   refine aJ ?_
   refine gV ?_
   refine gV ?_
   refine aY ?_
   refine gV ?_
   refine ⟨by decide,?_⟩
   refine gV ?_
   refine ⟨by decide,?_⟩
   refine gV ?_
   refine aJ ?_
   refine gV ?_
   refine gV ?_
   have g:=jE v (S8 u)
   exact zW
theorem aCQ (c:Con) (e:c.sm) (a:List V3) (n t:Int):aA Tryz.prog 303 [c.av,.slice 3 (vav a) .no,ii n,ii t] [] (.ret (tG c.ns a n t).av) []:=by
 refine c_ Tryz.f303 fun _=>?_
 have d:=aAR c e n
 have b:=TS c a t _ (mM c e n) (fun x h=>iC c n x h) _ (bD c.ns n).length 0 V3.zero o_ rfl
 exact zW
noncomputable abbrev aHI:Func:=Tryz.f86
def jH (ns:List Nod):List V3:=(Db ns.length).map fun i:Nat=>(bT ns (i:Int)).n
theorem YR (c:Con) (d:c.sm) (n:Int) (K:Int) (k:K=((nav c.ns).length:Nat)):∀ (m i:Nat),i+m=c.ns.length->
  To E aHI (.pure (.ret (gG c.ns n (jH c.ns)).av)) (.head (stk aHI 0) [(1,ii n),(2,.ref 0 0),(4,.ref 1 0),(5,.row 2 0),(13,.slice 11 (nav c.ns) .no),(14,.int .i64 K),(15,.int .i64 i)] [.cells 26 c.cs,.cells 34 V3.zero.cs,.row 0 3 34 (vav (iP (fun i:Nat=>(bT c.ns (i:Int)).n) i m))]):=by
 have f:(nav c.ns).length=c.ns.length:=by simp
 have h1:=d.ns
 intro m
 induction m with
 | zero=>
  intro i a
  have e:iP (fun i:Nat=>(bT c.ns (i:Int)).n) i 0=jH c.ns:=by rw [BK];unfold jH;rw [<-a];rfl
  rw [e]
  refine gV ?_
  have b:=VT c d n (jH c.ns)
  exact zW
 | succ m g=>
  intro i a
  have hl:(vav (iP (fun i:Nat=>(bT c.ns (i:Int)).n) i (m+1))).length=i+(m+1):=by rw [Cw,BJ]
  have hs:=BI (fun i:Nat=>(bT c.ns (i:Int)).n) i m
  have j:(nav c.ns)[i]? =some (bT c.ns (i:Int)).av:=tC (c:=c) (n:=(i:Int)) ⟨by omega,by omega⟩
  have next:=g (i+1) o_
  rw [<-hs] at next
  refine gV ?_
  refine aT fun h=>?_
  refine gV ?_
  refine ⟨i,rfl,?_⟩
  refine gV ?_
  refine ⟨_,j,?_⟩
  exact zqha1
theorem YQ (c:Con) (b:c.sm) (n:Int):aA Tryz.prog 86 [c.av,ii n] [] (.ret (gG c.ns n (jH c.ns)).av) []:=by
 have h1:=b.ns
 have a:(nav c.ns).length=c.ns.length:=by simp
 refine c_ Tryz.f86 fun _=>?_
 refine gV ?_
 refine ⟨c.ns.length,by rw [a],?_⟩
 refine gV ?_
 refine ⟨⟨rfl,by omega,by simp only [maxLen];omega⟩,?_⟩
 refine gV ?_
 have next:=YR c b n _ rfl c.ns.length 0 o_
 rw [uU] at next
 exact To.cut [1,2,4,5,13,14,15] 3 rfl rfl rfl rfl next
abbrev X9 (c:Con) (used:List V3) (need:V3):AVal:=.func (.func 301) [] [.ptr c.cs,.ptr [.slice 3 (vav used) .no],.ptr need.cs]
abbrev aAZ (c:Con) (used:List V3) (need:V3) (t:Int):AVal:=.func (.func 302) [] [.ptr c.cs,.ptr [.slice 3 (vav used) .no],.ptr need.cs,.ptr [ii t]]
def TD (c:Con) (a:List V3) (need:V3) (n:Int):Bool:=bK (dG (atV a n) need) (dG (bT c.ns n).n (bT c.ns n).b)
def OM (c:Con) (a:List V3) (need:V3) (t n:Int):Bool:=bK (dG (dG (gG c.ns n a) need) (tG c.ns a n t)) (gG c.ns n (jH c.ns))
theorem F4 (c:Con) (a:List V3) (need:V3) (n:Int) (h:c.ok n):aA Tryz.prog 301 [ii n,.ptr c.cs,.ptr [.slice 3 (vav a) .no],.ptr need.cs] [] (.ret (.bool (TD c a need n))) []:=by
 have l:=tC h
 have m:n=(n.toNat:Int):=by have:=h.1;omega
 unfold TD
 generalize bT c.ns n=x at l⊢
 refine c_ Tryz.f301 fun _=>?_
 have i:=OK a n
 have e:=jE (atV a n) need
 have d:=jE x.n x.b
 have hz2:=fun k j=>lP k j
 exact zW
theorem xZ (c:Con) (b:c.sm) (a:List V3) (need:V3) (t n:Int):aA Tryz.prog 302 [ii n,.ptr c.cs,.ptr [.slice 3 (vav a) .no],.ptr need.cs,.ptr [ii t]] [] (.ret (.bool (OM c a need t n))) []:=by
 unfold OM
 refine c_ Tryz.f302 fun _=>?_
 have d:=VT c b n a
 have e:=jE (gG c.ns n a) need
 have h:=aCQ c b a n t
 have i:=jE (dG (gG c.ns n a) need) (tG c.ns a n t)
 have j:=YQ c b n
 have hz2:=fun l k=>lP l k
 exact zW
noncomputable abbrev aHy:Func:=Tryz.f271
def ruO (c:Con) (a:List V3) (need:V3) (t:Int):List AObj:=[.cells 26 c.cs,.cells 164 [.slice 3 (vav a) .no],.cells 3 [ii t],.cells 34 need.cs,.cells 306 [.nilfunc],.cells 306 [.nilfunc],
 .cells 306 [.func (.func 301) [] [.ref 0 0,.ref 1 0,.ref 3 0]],.cells 306 [.func (.func 302) [] [.ref 0 0,.ref 1 0,.ref 3 0,.ref 2 0]]]
def aFc (c:Con) (a:List V3) (need:V3) (t:Int):List AObj:=[.fcells c.cs,.fcells [.slice 3 (vav a) .no],.fcells [ii t],.fcells need.cs,.cells 306 [.nilfunc],.cells 306 [.nilfunc],
 .fcells [X9 c a need],.fcells [aAZ c a need t]]
theorem aFb (c:Con) (a:List V3) (need:V3) (t:Int):frzs [6,7] (ruO c a need t)=aFc c a need t:=by kernel_rfl
theorem aBI (c:Con) (a:List V3) (need:V3) (t:Int):xA [10,11] (aE (aFc c a need t)) [(8,.ref 4 0),(9,.ref 5 0),(10,.ref 6 0),(11,.ref 7 0)]=[(8,.ref 4 0),(9,.ref 5 0),(10,.ptr [X9 c a need]),(11,.ptr [aAZ c a need t])]:=by kernel_rfl
theorem aBH {g:Goal} {ks:List KI} (c:Con) (a:List V3) (need:V3) (t:Int) (h:To (Er [] [16,17]) aHy g (.code ks [(8,.ref 4 0),(9,.ref 5 0),(10,.ptr [X9 c a need]),(11,.ptr [aAZ c a need t])] (aFc c a need t))):
  To (Er [] [16,17]) aHy g (.code ks [(8,.ref 4 0),(9,.ref 5 0),(10,.ref 6 0),(11,.ref 7 0)] (ruO c a need t)):=by
 refine To.frz [10,11] [6,7] ?_
 rw [aFb,aBI]
 exact h
theorem WI (c:Con) (a:List V3) (need:V3) (t:Int):aA Tryz.prog 271 [c.av,.slice 3 (vav a) .no,ii t,need.av] [] (.ret (.tup [.agg [X9 c a need],.agg [aAZ c a need t]])) []:=by
 refine cT (E:=(Er [] [16,17])) (fn:=Tryz.f271) (g:=.pure _) fun _=>?_
 refine bV (hEr [] [16,17]) 51 ?_;conv=>whnf
 refine To.cutC [8,9,10,11] 8 rfl rfl rfl rfl ?_
 refine aBH c a need t ?_
 exact zW
theorem C2 {P:Program} {l:Nat} {J J1:BInv} {p:Int->Bool} {V:Int->Prop} (a:∀ x,V x->p x=true->bM P (.yield l) [ii x] [.bun 0 J] (.ret (.bool true)) [.bun 1 J]) (h1:∀ x,V x->p x=false->bM P (.yield l) [ii x] [.bun 0 J] (.ret (.bool false)) [.bun 1 J1]):
  ∀ (xs:List Int),(∀ x∈xs,V x)->Ylds P l xs J (if xs.all p=true then J else J1) (xs.all p)
 | [],_=>by simp;exact .nil _
 | x::r,hv=>by
  rw [Gm]
  cases hp:p x with
  | true=>
   rw [Cd]
   exact .next x r _ _ _ _ (a x (hv x s_) hp) (C2 a h1 r fun y b=>hv y (by simp [b]))
  | false=>
   rw [Ct,if_neg d_]
   exact .stop x r _ _ (h1 x (hv x s_) hp)
noncomputable abbrev KR:Func:=Tryz.f217
def GD (c:Con) (a:List V3) (t:Int) (need:V3) (x:Int):Bool:=if decide (x=t)=true then TD c a need x else OM c a need t x
def wZ (c:Con) (a:List V3) (t:Int) (need:V3):Bool:=if aW c.ns t=true then (upL c.ns t).all (GD c a t need) else false
def aCD (f:AVal):List (Nat×AVal):=[(6,.ref 1 0),(8,.ref 3 0),(9,.ref 4 0),(10,.ref 5 0),(26,f)]
def wF (c:Con) (a:List V3) (t:Int) (need:V3) (b:Bool) (o:AObj):List AObj:=[.cells 26 c.cs,.cells 3 [ii t],.cells 34 need.cs,.cells 4 [.bool b],.cells 306 [X9 c a need],.cells 306 [aAZ c a need t],.dead,o]
abbrev aBj (c:Con):AVal:=.func (.func 277) [] [.ref 6 0,.ptr c.cs]
theorem aHj (c:Con) (f:c.sm) (a:List V3) (t:Int) (need:V3) (x:Int) (b:c.ok x) (k:Nat) (R:Loop) (e:R.state= .ready) (hp:GD c a t need x=true):
  To (El k [] [] []) KR (.keep 8 (.ret (.bool true)) (wF c a t need false (.bun 0 (cF k (busy R))))) (.code [.code (rfA KR),.beginR,.code (rfB KR)] (eZ (aCD (aBj c)) 27 (ii x)) (wF c a t need false (.bun 0 (cF k R)))):=by
 exact zqha0
theorem aCC (c:Con) (f:c.sm) (a:List V3) (t:Int) (need:V3) (x:Int) (b:c.ok x) (k:Nat) (R:Loop) (e:R.state= .ready) (hp:GD c a t need x=false):
  To (El k [] [] []) KR (.keep 8 (.ret (.bool false)) (wF c a t need false (.bun 0 (cF k (busy R))))) (.code [.code (rfA KR),.beginR,.code (rfB KR)] (eZ (aCD (aBj c)) 27 (ii x)) (wF c a t need false (.bun 0 (cF k R)))):=by
 exact zqha0
theorem aCK (c:Con) (q:c.sm) (a:List V3) (t:Int) (need:V3) (r:Bool) (e:wZ c a t need=r):aA Tryz.prog 217 [c.av,.slice 3 (vav a) .no,ii t,need.av] [] (.ret (.bool r)) []:=by
 have j:((nav c.ns).length:Int)<=9223372036854775807:=by have:=q.ns;simp only [Cw];omega
 unfold wZ at e
 refine c_ Tryz.f217 fun _=>?_
 refine gV ?_
 refine .pure _ [] (nF c t) ?_
 refine gV ?_
 refine Ad (fun h1=>?_) (fun h1=>?_)
 .have h1:aW c.ns t=false:=iZ h1
  rw [if_neg (by rw [h1];decide)] at e
  subst e
  exact zW
 .have h1:aW c.ns t=true:=jA h1
  rw [if_pos h1] at e
  refine gV ?_
  refine .pure _ [] (WI c a need t) ?_
  refine gV ?_
  refine .pure _ [.cells 3 [ii t]] (VC c t) ?_
  refine gV ?_
  refine To.cutC [6,8,9,10,26] 7 rfl rfl rfl rfl ?_
  refine To.range [6] rfl rfl (fun _ _=>by rfl) rfl (fun _ _=>rfl) rfl fun k ob0 R hst d=>?_
  have h:=C2 (P:=Tryz.prog) (l:=k) (p:=GD c a t need) (V:=c.ok) (J:=iR ob0 (aCD (aBj c)) R (wF c a t need false (.bun 0 (cF k R)))) (J1:=iR ob0 (aCD (aBj c)) R (wF c a t need false (.bun 0 (cF k (jR R false)))))
   (fun x o hp=>gI (E:=Ex [] [] []) (fn:=KR) (k:=7) (n:=8) (p:=27) (gg:=0) (L':=wF c a t need false (.bun 0 (cF k (busy R)))) (b:=true) d.params d.ready d.pend d.assign d.body d.size rfl rfl rfl rfl rfl rfl rfl fun _=>aHj c q a t need x o k R d.ready hp)
   (fun x o hp=>gI (E:=Ex [] [] []) (fn:=KR) (k:=7) (n:=8) (p:=27) (gg:=0) (L':=wF c a t need false (.bun 0 (cF k (busy R)))) (b:=false) d.params d.ready d.pend d.assign d.body d.size rfl rfl rfl rfl rfl rfl rfl fun _=>aCC c q a t need x o k R d.ready hp) (upL c.ns t) (fun x u=>FF c _ _ x u)
  rw [e] at h
  obtain ⟨m,s,i⟩:=LX k c t _ _ r j h
  cases r with
  | true=>
   refine ⟨_,true,_,[.cells 3 [m]],s,i,rfl,rfl,?_⟩
   exact zW
  | false=>
   refine ⟨_,false,_,[.cells 3 [m]],s,i,rfl,rfl,?_⟩
   exact zW
theorem aFP (c:Con) (b:c.sm) (a:List V3) (t:Int) (need:V3):aA Tryz.prog 217 [c.av,.slice 3 (vav a) .no,ii t,need.av] [] (.ret (.bool (wZ c a t need))) []:=aCK c b a t need _ rfl
def aX (hs:List Hos) (n:Int):Hos:=(hs[n.toNat]?).getD ⟨0,0,0,V3.zero⟩
theorem qK {c:Con} {i:Nat} (h:i<c.hs.length):(hav c.hs)[i]? =some (aX c.hs (i:Int)).av:=by
 unfold aX
 rw [Cl,Aa h]
 exact nI h
theorem FA (l:List V3) (i:Nat) (v:V3):(vav l).set i v.av=vav (l.set i v):=by simp [vav,Kf]
def mF (need:V3) (xs:List V3) (h:Int):List V3:=if decide (0<=h)=true then (if decide (h<(xs.length:Int))=true then xs.set h.toNat (sI ((xs[h.toNat]?).getD V3.zero) need) else xs) else xs
theorem mE (need:V3) (xs:List V3) (h:Int):(mF need xs h).length=xs.length:=by unfold mF;split<;>(try split)<;>simp
def rF (xs:List V3) (x:Rn):List V3:=x.hs.foldl (mF x.g.need) xs
theorem qN (x:Rn):∀ (xs:List V3),(rF xs x).length=xs.length:=by
 unfold rF
 generalize x.hs=l
 induction l with
 | nil=>intro xs;rfl
 | cons h r a=>intro xs;rw [Al,a,mE]
def fM (c:Con) (r:List Rn):List V3:=r.foldl rF ((Db c.hs.length).map fun i:Nat=>(aX c.hs (i:Int)).c)
noncomputable abbrev wK:Func:=Tryz.f157
abbrev frO (c:Con) (xs:List V3):List AObj:=[.cells 26 c.cs,.row 0 3 34 (vav xs)]
theorem aDd (c:Con) (r:List Rn) (R:List V3) (x:Rn) (j:Nat) (w:x.hs.length<=1048576) (y:c.hs.length<=1048576) (O:List AObj):
  ∀ (m i:Nat) (xs:List V3),xs.length=c.hs.length->i+m=x.hs.length->
   To E wK (.pure (.ret (.slice 3 (vav R) .no))) (.head (stk wK 1) [(5,.row 1 0),(30,.slice 14 (rav r) .no),(31,.int .i64 ((rav r).length:Nat)),(32,.int .i64 ((j:Int)+1))] (frO c ((x.hs.drop i).foldl (mF x.g.need) xs)))->
   j<1048576->
  To E wK (.pure (.ret (.slice 3 (vav R) .no))) (.head (stk wK 2) [(5,.row 1 0),(9,.ref 2 0),(30,.slice 14 (rav r) .no),(31,.int .i64 ((rav r).length:Nat)),(32,.int .i64 j),(37,.slice 1 (iv x.hs) .no),(38,.int .i64 ((iv x.hs).length:Nat)),(39,.int .i64 i)] (frO c xs++[.cells 127 x.cs])):=by
 have l:(iv x.hs).length=x.hs.length:=by simp
 intro m
 induction m with
 | zero=>
  intro i xs k p a e
  rw [Ae o_] at a
  refine gV ?_
  exact zW
 | succ m o=>
  intro i xs k p a e
  have b:i<x.hs.length:=o_
  rw [Ac b,Al] at a
  generalize s:x.hs[i]=u0 at a
  have get:(iv x.hs)[i]? =some (ii u0):=(cH b).trans (by rw [s])
  have v:(vav xs).length=xs.length:=by simp
  have next:=o (i+1) (mF x.g.need xs u0) (by rw [mE];exact k) o_ a e
  unfold mF frO at next
  refine gV ?_
  refine aT fun h=>?_
  refine gV ?_
  refine ⟨i,rfl,?_⟩
  refine gV ?_
  refine ⟨_,get,?_⟩
  by_cases h1:0<=u0
  .rw [if_pos (decide_eq_true h1)] at next
   by_cases n:u0<(xs.length:Int)
   .rw [if_pos (decide_eq_true n)] at next
    have d:u0.toNat<xs.length:=o_
    have z:u0=(u0.toNat:Int):=o_
    rw [Aa d] at next
    have q:(vav xs)[u0.toNat]? =some xs[u0.toNat].av:=jD d
    rw [show ((some xs[u0.toNat]).getD V3.zero)=xs[u0.toNat] from rfl] at next
    generalize xs[u0.toNat]=u at q next
    rw [<-FA] at next
    have f:=E9 u x.g.need
    exact zW
   .rw [if_neg (by rw [decide_eq_false n];decide)] at next
    exact zW
  .rw [if_neg (by rw [decide_eq_false h1];decide)] at next
   exact zW
def Sm (l:List Rn):Prop:=l.length<=1048576/\∀ x∈l,x.hs.length<=1048576
theorem Sm.at {l:List Rn} (h:Sm l) {i:Nat} (a:i<l.length):l[i].hs.length<=1048576:=h.2 _ (Bf a)
theorem Z5 (c:Con) (n:c.sm) (r:List Rn) (f:Sm r) (R:List V3):∀ (m i:Nat) (xs:List V3),i+m=r.length->xs.length=c.hs.length->(r.drop i).foldl rF xs=R->
  To E wK (.pure (.ret (.slice 3 (vav R) .no))) (.head (stk wK 1) [(5,.row 1 0),(30,.slice 14 (rav r) .no),(31,.int .i64 ((rav r).length:Nat)),(32,.int .i64 i)] (frO c xs)):=by
 have g:(rav r).length=r.length:=by simp
 have hl:=f.1
 intro m
 induction m with
 | zero=>
  intro i xs k d b
  rw [Ae o_] at b
  subst b
  refine gV ?_
  exact zW
 | succ m j=>
  intro i xs k d b
  have a:i<r.length:=o_
  have e:=f.at a
  rw [Ac a,Al] at b
  generalize l:r[i]=x at b e
  have get:(rav r)[i]? =some x.av:=(dH a).trans (by rw [l])
  have next:=j (i+1) (rF xs x) o_ (by rw [qN];exact d) b
  refine gV ?_
  refine aT fun h=>?_
  refine gV ?_
  refine ⟨i,rfl,?_⟩
  refine gV ?_
  refine ⟨_,get,?_⟩
  refine gV ?_
  exact To.cut [5,9,30,31,32,37,38,39] 3 rfl rfl rfl rfl (aDd c r R x i e n.hs [] x.hs.length 0 xs d o_ next o_)
theorem T3 (c:Con) (d:c.sm) (r:List Rn) (f:Sm r):∀ (m i:Nat),i+m=c.hs.length->
  To E wK (.pure (.ret (.slice 3 (vav (fM c r)) .no))) (.head (stk wK 0) [(1,.slice 14 (rav r) .no),(2,.ref 0 0),(5,.row 1 0),(17,.slice 6 (hav c.hs) .no),(18,.int .i64 ((hav c.hs).length:Nat)),(19,.int .i64 i)] (frO c (iP (fun i:Nat=>(aX c.hs (i:Int)).c) i m))):=by
 have a:(hav c.hs).length=c.hs.length:=by simp
 have h1:=d.hs
 intro m
 induction m with
 | zero=>
  intro i b
  rw [BK]
  refine gV ?_
  refine aF fun h=>?_
  refine gV ?_
  refine To.cut [5,30,31,32] 2 rfl rfl rfl rfl ?_
  exact Z5 c d r f _ r.length 0 _ o_ q_ (by unfold fM;rw [<-b];rfl)
 | succ m e=>
  intro i b
  have hl:(vav (iP (fun i:Nat=>(aX c.hs (i:Int)).c) i (m+1))).length=i+(m+1):=by rw [Cw,BJ]
  have hs:=BI (fun i:Nat=>(aX c.hs (i:Int)).c) i m
  have g:(hav c.hs)[i]? =some (aX c.hs (i:Int)).av:=qK o_
  have next:=e (i+1) o_
  unfold frO at next
  rw [<-hs] at next
  refine gV ?_
  refine aT fun h=>?_
  refine gV ?_
  refine ⟨i,rfl,?_⟩
  refine gV ?_
  refine ⟨_,g,?_⟩
  exact zqha1
theorem QV (c:Con) (b:c.sm) (r:List Rn) (d:Sm r):aA Tryz.prog 157 [c.av,.slice 14 (rav r) .no] [] (.ret (.slice 3 (vav (fM c r)) .no)) []:=by
 have h1:=b.hs
 have a:(hav c.hs).length=c.hs.length:=by simp
 refine c_ Tryz.f157 fun _=>?_
 refine gV ?_
 refine ⟨c.hs.length,by rw [a],?_⟩
 refine gV ?_
 refine ⟨⟨rfl,by omega,by simp only [maxLen];omega⟩,?_⟩
 refine gV ?_
 have next:=T3 c b r d c.hs.length 0 o_
 unfold frO at next
 rw [uU] at next
 exact To.cut [1,2,5,17,18,19] 2 rfl rfl rfl rfl next
theorem aE4 {a b:Int} (c:0<=a) (d:0<b) (f:a<=9223372036854775807):inR .i64 (Hb a b):=by
 have h3:(Hb a b).natAbs<=a.natAbs:=by
  rw [Int.natAbs_tdiv]
  exact Eh _ _
 have e:0<=Hb a b:=Int.tdiv_nonneg c o_
 exact ⟨by simp only [cL];omega,by simp only [bI];omega⟩
def vX (n free need:Int):Int:=if decide (0<need)=true then min n (Hb free need) else n
def cS (free need:V3):Int:=if bK need free=true then vX (vX (vX 16 free.a need.a) free.b need.b) free.c need.c else 0
theorem aH7 (v:V3) (M:Imm) (ob:Hs) (vs:List Value) (d:List AVal) (h:cD M ob vs (v.av::d)):inR .i64 v.a/\inR .i64 v.b/\inR .i64 v.c:=by
 have hl:0<vs.length:=by rw [h.1];simp
 have:=h.2 0 _ v.av (Aa hl) rfl
 exact ⟨bZ this 0 _ rfl,bZ this 1 _ rfl,bZ this 2 _ rfl⟩
theorem WV (free need:V3) (r:Int) (d:cS free need=r):aA Tryz.prog 220 [free.av,need.av] [] (.ret (ii r)) []:=by
 refine aA.get _ (fun M ob vs h=>aH7 free M ob vs _ h) fun ⟨⟨a1,a2⟩,⟨b1,b2⟩,⟨c1,c2⟩⟩=>?_
 simp only [cL,bI] at a1 a2 b1 b2 c1 c2
 unfold cS at d
 refine c_ Tryz.f220 fun _=>?_
 refine gV ?_
 refine .pure _ [] (yJ need free) ?_
 refine gV ?_
 refine Ad (fun h1=>?_) (fun h1=>?_)
 .have h1:bK need free=false:=iZ h1
  rw [if_neg (by rw [h1];decide)] at d
  subst d
  exact zW
 .have h1:bK need free=true:=jA h1
  rw [if_pos h1] at d
  unfold vX at d
  have n:need.a<=free.a/\need.b<=free.b/\need.c<=free.c:=by
   unfold bK at h1
   split at h1
   .cases h1
   .split at h1
    .cases h1
    .split at h1
     .cases h1
     .rename_i m k i
      simp only [decide_eq_true_eq] at m k i
      omega
  by_cases j:0<need.a<;>by_cases l:0<need.b<;>by_cases e:0<need.c<;>simp only [j,l,e,decide_true,decide_false,if_true,if_false,Cv] at d
  all_goals (refine gV ?_)
  all_goals repeat' first
   | (refine gW hE ?_;conv=>whnf)
   | exact d▸rfl
   | refine aY ?_
   | refine aN ?_
   | refine aT fun h=>?_
   | refine aF fun h=>?_
   | refine aJ ?_
   | refine Hk (Ad (aE4 o_ o_ o_) ?_)
   | refine Aw _ (Ad rfl ?_)
   | refine Ad d_ ?_
   | refine Ad o_ ?_
   | fail
theorem PN (free need:V3):aA Tryz.prog 220 [free.av,need.av] [] (.ret (ii (cS free need))) []:=WV free need _ rfl
def ofK (h:Hos) (i lv:Int):List Int:=[h.f,if decide (2<lv)=true then 0 else h.b,if decide (1<lv)=true then 0 else h.r,if decide (0<lv)=true then 0 else i]
theorem aCr (h:Hos) (i lv:Int) (K:List AVal) (a:(ofK h i lv).map ii=K):aA Tryz.prog 275 [h.av,ii i,ii lv] [] (.ret (.agg K)) []:=by
 unfold ofK at a
 refine c_ Tryz.f275 fun _=>?_
 repeat' first | (refine gN hE ?_;conv=>whnf) | exact rfl | refine aY ?_ | refine aN ?_ | refine aT fun h=>?_ | refine aF fun h=>?_ | refine ⟨fun h=>?_,fun h=>?_⟩ | refine aJ ?_ | refine ⟨_,rfl,?_⟩ | refine aD ?_ | fail
 all_goals first
  | (subst a;simp only [*,Cv,if_true,if_false,List.map];done)
  | (exfalso;simp only [decide_eq_true_eq,decide_eq_false_iff_not] at *;omega)
theorem aFG (h:Hos) (i lv:Int):aA Tryz.prog 275 [h.av,ii i,ii lv] [] (.ret (.agg ((ofK h i lv).map ii))) []:=aCr h i lv _ rfl
theorem aES {n:Nat} (h:n<=16):n=0\/n=1\/n=2\/n=3\/n=4\/n=5\/n=6\/n=7\/n=8\/n=9\/n=10\/n=11\/n=12\/n=13\/n=14\/n=15\/n=16:=o_
theorem YZ (n:Nat) (a:n<=16):aA Tryz.prog 238 [.int .u64 1,.int .u64 (n:Int)] [] (.ret (.tup [.int .u64 0,.int .u64 (n:Int)])) []:=by
 rcases aES a with rfl | rfl | rfl | rfl | rfl | rfl | rfl | rfl | rfl | rfl | rfl | rfl | rfl | rfl | rfl | rfl | rfl
 all_goals
  refine c_ Tryz.f238 fun _=>?_
  repeat' first
   | (refine gN hE ?_;conv=>whnf)
   | exact rfl
   | refine Hk (Ad (Ad d_ d_) ?_)
   | refine Ad d_ ?_
   | fail
theorem aFM (n:Nat) (b:n<=16):aA Tryz.prog 318 [.int .u64 1,.int .u64 (n:Int)] [] (.ret (.tup [.int .u64 0,.int .u64 (n:Int)])) []:=by
 refine c_ Tryz.f318 fun _=>?_
 have a:=YZ n b
 exact zW
def rp (h:Int) (k m:Nat):List AVal:=iv (Ah k h)++Ah m (ii 0)
theorem zA (h:Int) (k m:Nat):(rp h k m).length=k+m:=by simp [rp]
noncomputable abbrev aHC:Func:=Tryz.f304
theorem aBM (h:Int) (k m:Nat):((k:Int)+ ↑(min (Fv k (Hd 0 (rp h k m))).length ((rp h k m).length-k)))=((k+min k m:Nat):Int)/\
  (rp h k m).take k++(Fv k (Hd 0 (rp h k m))).take ((rp h k m).length-k)++(rp h k m).drop (k+min (Fv k (Hd 0 (rp h k m))).length ((rp h k m).length-k))=rp h (k+min k m) (m-min k m):=by
 have a:(iv (Ah k h)).length=k:=by simp
 have h1:(rp h k m).take k=iv (Ah k h):=by unfold rp;rw [Ea o_,Cf o_]
 have hl:=zA h k m
 rw [Cn,h1,hl,a,show k+m-k=m from by omega]
 refine ⟨by omega,?_⟩
 have b:(rp h k m).drop (k+min k m)=Ah (m-min k m) (ii 0):=by
  unfold rp
  rw [List.drop_append,a,List.drop_of_length_le o_,Jz,List.drop_replicate]
  congr 1
  omega
 rw [b]
 unfold rp
 congr 1
 simp only [iv,List.map_replicate,List.take_replicate,List.replicate_append_replicate]
 congr 1
 omega
theorem XG (a:Int) (N:Nat) (l:N<=16):∀ (f k m:Nat),k+m=N->1<=k->m<=f->
  To (Er [] [38]) aHC (.pure (.ret (.slice 1 (iv (Ah N a)) .no))) (.head (stk aHC 0) [(7,.row 0 0),(8,.int .i64 (k:Int))] [.row 0 1 3 (rp a k m)]):=by
 intro f
 induction f with
 | zero=>
  intro k m b h1 hm
  have hm:m=0:=o_
  subst hm
  exact zqha5
 | succ f g=>
  intro k m b h1 hm
  by_cases j:m=0
  .subst j
   exact zqha5
  have hl:=zA a k m
  have next:=g (k+min k m) (m-min k m) o_ o_ o_
  generalize c:rp a k m=X at hl⊢
  refine gV ?_
  refine aT fun h=>?_
  refine gV ?_
  refine ⟨k,rfl,?_⟩
  refine gV ?_
  refine ⟨by omega,?_⟩
  refine gV ?_
  refine ⟨k,rfl,?_⟩
  refine gV ?_
  refine ⟨by omega,?_⟩
  refine gV ?_
  rw [<-c] at hl⊢
  obtain ⟨d,i⟩:=aBM a k m
  rw [<-d,<-i] at next
  have n:min (Fv k (Hd 0 (rp a k m))).length ((rp a k m).length-k)<=16:=by
   have:(rp a k m).length=k+m:=zA a k m
   omega
  exact zW
theorem WS (h:Int) (m:Nat):((1:Nat):Int)= ↑(min [ii h].length (Ah (m+1) (AVal.int .i64 0)).length)/\rp h 1 m=[ii h].take (Ah (m+1) (AVal.int .i64 0)).length++(Ah (m+1) (AVal.int .i64 0)).drop [ii h].length:=by
 refine ⟨by simp,?_⟩
 simp [rp,List.drop_replicate]
theorem aFr (h:Int) (n:Nat) (a:n<=16):aA Tryz.prog 304 [.slice 1 [ii h] .no,ii (n:Int)] [] (.ret (.slice 1 (iv (Ah n h)) .no)) []:=by
 have hm:=aFM n a
 cases n with
 | zero=>
  refine cT (E:=(Er [] [38])) (fn:=Tryz.f304) (g:=.pure _) fun _=>?_
  refine gV ?_
  refine aF fun h=>?_
  refine gV ?_
  refine Hk (Ad (Ad (by simp only [cL,Ba,Ck];omega) (by simp only [bI,Ba,Ck];omega)) ?_)
  refine gV ?_
  refine Hk (Ad (Ad (by simp only [cL];omega) (by simp only [bI];omega)) ?_)
  refine gV ?_
  refine .pure _ [] hm ?_
  refine gV ?_
  refine aF fun h=>?_
  refine gV ?_
  refine aF fun h=>?_
  refine gV ?_
  refine Hk (Ad (Ad (by simp only [cL];omega) (by simp only [bI];omega)) ?_)
  refine gV ?_
  refine ⟨0,rfl,?_⟩
  refine gV ?_
  refine ⟨⟨rfl,by omega,by simp only [maxLen];omega⟩,?_⟩
  refine gV ?_
  refine gV ?_
  exact zW
 | succ m=>
  have next:=XG h (m+1) a (m+1) 1 m o_ o_ o_
  obtain ⟨c,b⟩:=WS h m
  rw [c,b] at next
  refine cT (E:=(Er [] [38])) (fn:=Tryz.f304) (g:=.pure _) fun _=>?_
  refine gV ?_
  refine aF fun h=>?_
  refine gV ?_
  refine Hk (Ad (Ad (by simp only [cL,Ba,Ck];omega) (by simp only [bI,Ba,Ck];omega)) ?_)
  refine gV ?_
  refine Hk (Ad (Ad (by simp only [cL];omega) (by simp only [bI];omega)) ?_)
  refine gV ?_
  refine .pure _ [] hm ?_
  refine gV ?_
  refine aF fun h=>?_
  refine gV ?_
  refine aF fun h=>?_
  refine gV ?_
  refine Hk (Ad (Ad (by simp only [cL];omega) (by simp only [bI];omega)) ?_)
  refine gV ?_
  refine ⟨m+1,rfl,?_⟩
  refine gV ?_
  refine ⟨⟨rfl,by omega,by simp only [maxLen];omega⟩,?_⟩
  exact zW
theorem zD (a b:V3):cS a b<=16:=by
 have h:∀ n f k,n<=16->vX n f k<=16:=fun n f k h=>by unfold vX;split<;>omega
 unfold cS
 split
 .exact h _ _ _ (h _ _ _ (h _ _ _ d_))
 .decide
def inN (free need:V3) (pods len:Int):Int:=min (cS free need) (pods-len)
def inS (free:List V3) (g:Gan) (out:List Int) (h:Int):List Int:=if decide (h<0)=true then out else if decide ((free.length:Int)<=h)=true then out else out++Ah (max (inN ((free[h.toNat]?).getD V3.zero) g.need g.pods out.length) 0).toNat h
def inL (free:List V3) (g:Gan) (a:List Int):List Int:=a.foldl (inS free g) []
theorem xR (free:List V3) (g:Gan) (out:List Int) (h:Int) (hp:(out.length:Int)<=g.pods):((inS free g out h).length:Int)<=g.pods:=by
 unfold inS
 split
 .exact hp
 .split
  .exact hp
  .simp only [Ar,Gh,inN]
   omega
noncomputable abbrev fIn:Func:=Tryz.f272
def A2 (out:List Int) (g:Gan):AVal:=if decide ((out.length:Int)<g.pods)=true then .tup [.slice 1 [] .no,.bool false] else .tup [.slice 1 (iv out) .no,.bool true]
theorem GN (c:Con) (free:List V3) (g:Gan) (u:0<=g.pods/\g.pods<=16) (a:List Int) (hl:a.length<=1048576) (R:List Int):∀ (m i:Nat) (out:List Int),i+m=a.length->(out.length:Int)<=g.pods->(a.drop i).foldl (inS free g) out=R->
  To (Eo [10] []) fIn (.pure (.ret (A2 R g))) (.head (stk fIn 0) [(1,.slice 3 (vav free) .no),(7,.ref 1 0),(10,.slice 1 (iv out) (.own 2 0)),(14,.slice 1 (iv a) .no),(15,.int .i64 ((iv a).length:Nat)),(16,.int .i64 i)] [.cells 26 c.cs,.cells 36 g.cs,.tail 0 1 3]):=by
 have r:(iv a).length=a.length:=by simp
 have D:(vav free).length=free.length:=by simp
 intro m
 induction m with
 | zero=>
  intro i out y hp d
  rw [Ae o_] at d
  have d:out=R:=d
  subst d
  have l:(iv out).length=out.length:=by simp
  obtain ⟨Q,j⟩:∃ Q,Q=A2 out g:=⟨_,rfl⟩
  rw [<-j]
  unfold A2 at j
  by_cases h1:(out.length:Int)<g.pods
  .rw [if_pos (decide_eq_true h1)] at j
   subst j
   refine gV ?_
   exact zW
  .rw [if_neg (by rw [decide_eq_false h1];decide)] at j
   subst j
   refine gV ?_
   exact zW
 | succ m x=>
  intro i out y hp d
  have k:i<a.length:=o_
  rw [Ac k,Al] at d
  have n:=xR free g out a[i] hp
  generalize A:a[i]=u0 at d n
  have get:(iv a)[i]? =some (ii u0):=(cH k).trans (by rw [A])
  have l:(iv out).length=out.length:=by simp
  have next:=x (i+1) (inS free g out u0) o_ n d
  unfold inS at next
  refine gV ?_
  refine aT fun h=>?_
  refine gV ?_
  refine ⟨i,rfl,?_⟩
  refine gV ?_
  refine ⟨_,get,?_⟩
  by_cases h1:u0<0
  .rw [if_pos (decide_eq_true h1)] at next
   exact zW
  .rw [if_neg (by rw [decide_eq_false h1];decide)] at next
   by_cases w:(free.length:Int)<=u0
   .rw [if_pos (decide_eq_true w)] at next
    exact zW
   .rw [if_neg (by rw [decide_eq_false w];decide)] at next
    have o:u0.toNat<free.length:=o_
    have C:u0=(u0.toNat:Int):=o_
    rw [Aa o] at next
    have q:(vav free)[u0.toNat]? =some free[u0.toNat].av:=jD o
    rw [show ((some free[u0.toNat]).getD V3.zero)=free[u0.toNat] from rfl] at next
    generalize free[u0.toNat]=f0 at q next
    have v:=zD f0 g.need
    have f:(max (inN f0 g.need g.pods out.length) 0).toNat<=16:=by unfold inN;omega
    have p:max (min (cS f0 g.need) (g.pods-((iv out).length:Nat))) 0=(((max (inN f0 g.need g.pods out.length) 0).toNat:Nat):Int):=by unfold inN;rw [l];omega
    have b:=aFr u0 _ f
    rw [<-p] at b
    generalize F:(max (inN f0 g.need g.pods out.length) 0).toNat=N at f b next
    have e:iv (out++Ah N u0)=iv out++iv (Ah N u0):=by simp
    rw [e] at next
    have B:(iv (Ah N u0)).length=N:=by simp
    have z:=u.1
    have s:=u.2
    repeat' first | (refine gN (hEo [10] []) ?_;conv=>whnf) | refine ⟨u0.toNat,C,?_⟩ | refine ⟨_,q,?_⟩ | refine .pure _ [] (PN f0 g.need) ?_ | refine .pure _ [] (aA.strip b) ?_ | refine Ad (Ad (by simp only [maxLen];omega) o_) ?_ | exact rfl | refine aY ?_ | refine aN ?_ | refine aT fun h=>?_ | refine aF fun h=>?_ | refine ⟨fun h=>?_,fun h=>?_⟩ | refine aJ ?_ | refine ⟨_,rfl,?_⟩ | refine aD ?_ | fail
    exact zW
theorem wH (c:Con) (free:List V3) (g:Gan) (b:0<=g.pods/\g.pods<=16) (a:List Int) (hl:a.length<=1048576):aA Tryz.prog 272 [c.av,.slice 3 (vav free) .no,.slice 1 (iv a) .no,g.av] [] (.ret (A2 (inL free g a) g)) []:=by
 refine cT (E:=(Eo [10] [])) (fn:=Tryz.f272) (g:=.pure _) fun _=>?_
 have d:=GN c free g b a hl _ a.length 0 [] o_ (by simpa using b.1) rfl
 exact zW
noncomputable abbrev qO:Func:=Tryz.f222
abbrev GSt:=List (List Int×Nat)×List (List Int)
def jZ:List (List Int×Nat)->List Int->Option Nat
 | [],_=>none
 | (k,v)::r,x=>if k=x then some v else jZ r x
abbrev kav (es:List (List Int×Nat)):List (List Int×AVal):=es.map fun p=>(p.1,ii p.2)
theorem AX (x:List Int):∀ es,bO (kav es) x=(jZ es x).map fun n:Nat=>ii n
 | []=>rfl
 | (k,v)::r=>by
  show (if k=x then some (ii v) else bO (kav r) x)=(if k=x then some v else jZ r x).map _
  split
  .rfl
  .exact AX x r
theorem QH (x:List Int) (v:Nat):∀ es,jZ es x=none->jW (kav es) x (ii v)=kav (es++[(x,v)])
 | [],_=>rfl
 | (k,u)::r,h=>by
  have h:(if k=x then some u else jZ r x)=none:=h
  show (if k=x then (x,ii v)::kav r else (k,ii u)::jW (kav r) x (ii v))=(k,ii u)::kav (r++[(x,v)])
  split at h
  .cases h
  .rename_i a
   rw [if_neg a,QH x v r h]
def gpS (c:Con) (lv:Int) (s:GSt) (i:Nat):GSt:=
 match jZ s.1 (ofK (aX c.hs (i:Int)) i lv) with
 | some k=>(s.1,s.2.set k ((s.2[k]?).getD []++[(i:Int)]))
 | none=>(s.1++[(ofK (aX c.hs (i:Int)) i lv,s.2.length)],s.2++[[(i:Int)]])
def gpL (c:Con) (lv:Int):List (List Int):=if decide (lv<0)=true then [] else if decide (3<lv)=true then [] else ((Db c.hs.length).foldl (gpS c lv) ([],[])).2
abbrev gav (l:List (List Int)):List AVal:=l.map fun xs=>.slice 1 (iv xs) .no
abbrev KE (c:Con) (gr gb:Nat) (es:List (List Int×Nat)) (ms:List Hm):List AObj:=[.cells 26 c.cs,.row gr 1 53 (ms.map hmA),.mp true (kav es),.bun gb (kQ 1 3 ms)]
abbrev aHp (c:Con) (lv:Int) (gr i:Nat):List (Nat×AVal):=[(1,ii lv),(5,.row 1 gr),(6,.mref 2),(20,.slice 6 (hav c.hs) .no),(21,.int .i64 ((hav c.hs).length:Nat)),(22,ii i)]
theorem ZR (c:Con) (lv:Int) (G:Goal) (i k:Nat) (l:i<1048576) (b:List Hm) (m:Hm) (hm:b[k]? =some m) (h:m.2.2.length<=1048576) (j:b.length<=1048576) (es:List (List Int×Nat)) (g:Ew G.n0 4=true)
  (next:∀ a e,To (Er [5] []) qO G (.code (fY qO 14) (aHp c lv 0 i) (KE c 0 1 es (b.set k (a,e,m.2.2++[ii i]))))):
  To (Er [5] []) qO G (.code (tS qO 14) [(1,ii lv),(5,.row 1 0),(6,.mref 2),(7,ii i),(10,ii k),(20,.slice 6 (hav c.hs) .no),(21,.int .i64 ((hav c.hs).length:Nat)),(22,ii i)] (KE c 0 0 es b)):=by
 refine To.handAt (hEr [5] []) 8 [] rfl rfl rfl ?_;conv=>whnf
 refine ⟨k,rfl,?_⟩;conv=>whnf
 have f:(b.map hmA)[k]? =some (hmA m):=by rw [Bc,hm];rfl
 refine ⟨by have:=(Ab.1 hm).1;simpa using this,?_⟩;conv=>whnf
 refine ⟨_,f,?_⟩;conv=>whnf
 refine .mk 3 0 k b m [ii i] 3 1 8 1 false (.slice 1 [] .nil) rfl hm rfl rfl rfl rfl ⟨by show _+1<=_;simp only [maxLen];omega,by show (_+1)*8<=_;omega⟩ fun a e=>?_
 have d:k<(b.map hmA).length:=by have:=(Ab.1 hm).1;simpa using this
 have next:=next a e
 unfold KE at next
 rw [Kf] at next
 refine gV ?_
 refine ⟨k,rfl,?_⟩
 refine gV ?_
 refine ⟨d,?_⟩
 refine gV ?_
 refine ⟨d,?_⟩
 refine bV (hEr [5] []) 3 ?_;conv=>whnf
 refine To.cutC (fr:=[(1,_),(5,_),(6,_),(7,_),(10,_),(20,_),(21,_),(22,_),(47,_),(48,_),(49,_),(50,_),(51,_),(52,_),(53,_),(54,_),(55,_),(56,_)]) (obs:=[_,_,_,_]) [1,5,6,20,21,22] 4 g rfl rfl rfl ?_
 exact next
theorem D0 (x:List Int) (v:Nat) (y:List Int):∀ es,jZ (es++[(x,v)]) y=match jZ es y with | some k=>some k | none=>if x=y then some v else none
 | []=>rfl
 | (k,u)::r=>by
  show (if k=y then some u else jZ (r++[(x,v)]) y)=match (if k=y then some u else jZ r y) with | some k=>some k | none=>if x=y then some v else none
  split
  .rfl
  .exact D0 x v y r
structure GI (i:Nat) (s:GSt):Prop where
 key:∀ p∈s.1,p.1.length=4
 at':∀ x k,jZ s.1 x=some k->k<s.2.length
 len:s.2.length<=i
 each:∀ xs∈s.2,xs.length<=i
theorem GI.step {c:Con} {lv:Int} {i:Nat} {s:GSt} (h:GI i s):GI (i+1) (gpS c lv s i):=by
 obtain ⟨h1,e,h3,d⟩:=h
 unfold gpS
 split
 .rename_i k f
  refine ⟨h1,fun x k h=>by simpa using e x k h,by simp;omega,fun xs a=>?_⟩
  rcases Da a with a | rfl
  .have:=d xs a;omega
  .have hl:=e _ k f
   rw [Aa hl]
   have:=d _ (Bf hl)
   simp
   omega
 .rename_i f
  refine ⟨fun p hp=>?_,fun x k a=>?_,by simp;omega,fun xs a=>?_⟩
  .rcases Ay.1 hp with hp | hp
   .exact h1 p hp
   .simp at hp;subst hp;rfl
  .rw [D0] at a
   split at a
   .rename_i g b
    have:=e x g b
    cases a
    simp;omega
   .split at a
    .cases a;simp
    .cases a
  .rcases Ay.1 a with a | a
   .have:=d xs a;omega
   .simp at a;subst a;simp
theorem aC5 (c:Con) (L:c.sm) (lv:Int) (O:0<=lv) (P:lv<=3) (R:List (List Int)):∀ (n i:Nat) (s:GSt) (b:List Hm),i+n=c.hs.length->b.map (fun m=>m.2.2)=s.2.map iv->GI i s->((Gz i n).foldl (gpS c lv) s).2=R->
  To (Er [5] []) qO (.pure (.ret (.slice 1 (gav R) .no))) (.head (stk qO 0) (aHp c lv 0 i) (KE c 0 0 s.1 b)):=by
 have h1:=L.hs
 have F:(hav c.hs).length=c.hs.length:=by simp
 intro n
 induction n with
 | zero=>
  intro i s b H d o v
  have v:s.2=R:=v
  subst v
  refine To.ofC (To.famFrz 3 1 rfl rfl ?_)
  have e:(b.map fun m=>AVal.slice 1 m.2.2 .no)=gav s.2:=by
   have:=congrArg (List.map fun xs=>AVal.slice 1 xs .no) d
   rw [Dm,Dm] at this
   exact this
  rw [e]
  refine To.toC ?_
  refine gV ?_
  exact zW
 | succ n I=>
  intro i s b H d o v
  rw [Jh,Al] at v
  have N:(hav c.hs)[i]? =some (aX c.hs (i:Int)).av:=qK o_
  have next:=fun C h=>I (i+1) (gpS c lv s i) C o_ h o.step v
  have l:∀ p∈kav s.1,p.1.length=4:=fun p hp=>by
   obtain ⟨q,J,rfl⟩:=Bu.1 hp
   exact o.key q J
  refine gV ?_
  refine aT fun h=>?_
  refine gV ?_
  refine ⟨i,rfl,?_⟩
  refine gV ?_
  refine ⟨_,N,?_⟩
  refine gV ?_
  refine .pure _ [] (aFG (aX c.hs (i:Int)) i lv) ?_
  refine gV ?_
  refine ⟨l,?_⟩
  refine gV ?_
  cases y:jZ s.1 (ofK (aX c.hs (i:Int)) i lv) with
  | none=>
   have D:bO (kav s.1) (ofK (aX c.hs (i:Int)) i lv)=none:=by rw [AX,y];rfl
   refine ⟨_,D,?_⟩
   refine gV ?_
   refine aY ?_
   refine gV ?_
   refine ⟨l,?_⟩
   refine gV ?_
   have g:b.length=s.2.length:=by have:=congrArg Js d;simpa using this
   have z:=o.len
   have f:(b.map hmA).length=b.length:=by simp
   refine ⟨⟨by show (b.map hmA).length+1<=_;simp only [maxLen];omega,by show ((b.map hmA).length+1)*24<=_;omega⟩,?_⟩
   refine bV (hEr [5] []) 6 ?_;conv=>whnf
   have G:(b.map hmA).length=s.2.length:=f.trans g
   have e:=QH (ofK (aX c.hs (i:Int)) i lv) (b.map hmA).length s.1 y
   have B:gpS c lv s i=(s.1++[(ofK (aX c.hs (i:Int)) i lv,(b.map hmA).length)],s.2++[[(i:Int)]]):=by
    unfold gpS
    rw [y,G]
   rw [B] at next
   have hm:(b++[((none,0,[]):Hm)])[(b.map hmA).length]? =some (none,0,[]):=by rw [f,Ak (Bg _)];simp
   have r:=ZR c lv (.pure (.ret (.slice 1 (gav R) .no))) i (b.map hmA).length o_ (b++[(none,0,[])]) _ hm s_ q_ (s.1++[(ofK (aX c.hs (i:Int)) i lv,(b.map hmA).length)]) rfl fun a A=>by
    have next:=next ((b++[(none,0,[])]).set (b.map hmA).length (a,A,[]++[ii i])) (by rw [f,Jb _ _ (Bg _)];simp [d])
    exact zW
   unfold KE at r
   rw [<-e] at r
   refine To.cutC [1,5,6,7,10,20,21,22] 4 rfl rfl rfl rfl ?_
   refine To.objTo 1 (x:=.row 1 1 53 (b.map hmA++[.nilslice])) (x':=.row 1 1 53 ((b++[(none,0,[])]).map hmA)) rfl (fun h=>by cases h) rfl (fun M ob w hs _ h=>aBO h) ?_
   refine To.objTo 3 (x:=.bun 0 (kQ 1 3 b)) (x':=.bun 0 (kQ 1 3 (b++[(none,0,[])]))) rfl (fun h=>by cases h) rfl (fun M ob w hs _ h=>aDf h) ?_
   refine To.toC ?_
   refine To.part [1,5,6,7,10,20,21,22] [0,1,2,3] rfl rfl rfl ?_
   refine To.ofC ?_
   exact r
  | some k=>
   have D:bO (kav s.1) (ofK (aX c.hs (i:Int)) i lv)=some (ii k):=by rw [AX,y];rfl
   refine ⟨_,D,?_⟩
   refine gV ?_
   refine aN ?_
   refine bV (hEr [5] []) 1 ?_;conv=>whnf
   have u:=o.at' _ k y
   have f:(b.map (fun m=>m.2.2))[k]? =some (iv s.2[k]):=by rw [d,Bc,Aa u];rfl
   rw [Bc] at f
   obtain ⟨m,hm,j⟩:=Cb.1 f
   have j:m.2.2=iv s.2[k]:=j
   have g:b.length=s.2.length:=by have:=congrArg Js d;simpa using this
   have K:=o.each _ (Bf u)
   have z:=o.len
   have B:gpS c lv s i=(s.1,s.2.set k (s.2[k]++[(i:Int)])):=by
    unfold gpS
    rw [y]
    show (s.1,s.2.set k ((s.2[k]?).getD []++[(i:Int)]))=_
    rw [Aa u]
    rfl
   rw [B] at next
   refine To.cutC [1,5,6,7,10,20,21,22] 4 rfl rfl rfl rfl ?_
   refine ZR c lv _ i k o_ b m hm (by rw [j];simp;omega) o_ s.1 rfl fun a A=>?_
   have next:=next (b.set k (a,A,m.2.2++[ii i])) (by rw [Kf,Kf,d,j];simp)
   exact zW
theorem ED (c:Con) (i:c.sm) (lv:Int):aA Tryz.prog 222 [c.av,ii lv] [] (.ret (.slice 1 (gav (gpL c lv)) .no)) []:=by
 have h1:=i.hs
 have d:(hav c.hs).length=c.hs.length:=by simp
 obtain ⟨R,a⟩:∃ R,R=gpL c lv:=⟨_,rfl⟩
 rw [<-a]
 unfold gpL at a
 refine cT (E:=(Er [5] [])) (fn:=Tryz.f222) (g:=.pure _) fun _=>?_
 by_cases e:lv<0
 .rw [if_pos (decide_eq_true e)] at a
  subst a
  exact zW
 rw [if_neg (by rw [decide_eq_false e];decide)] at a
 by_cases b:3<lv
 .rw [if_pos (decide_eq_true b)] at a
  subst a
  exact zW
 rw [if_neg (by rw [decide_eq_false b];decide),Gj] at a
 repeat' first | (refine gN (hEr [5] []) ?_;conv=>whnf) | exact rfl | refine aY ?_ | refine aN ?_ | refine aT fun h=>?_ | refine aF fun h=>?_ | refine ⟨fun h=>?_,fun h=>?_⟩ | refine aJ ?_ | refine ⟨_,rfl,?_⟩ | refine aD ?_ | fail
 refine To.ofC (To.beginF 1 3 ?_)
 refine To.toC ?_
 have:=aC5 c i lv o_ o_ R c.hs.length 0 ([],[]) [] o_ rfl ⟨fun p h=>(by simp at h),fun x k h=>(by cases h),Bg _,fun xs h=>by simp at h⟩ a.symm
 exact zW
structure GO (n i:Nat) (s:GSt):Prop where
 base:GI i s
 ok:∀ xs∈s.2,xs≠[]/\∀ h∈xs,0<=h/\h<(n:Int)
theorem GO.step {c:Con} {lv:Int} {n i:Nat} {s:GSt} (g:i<n) (h:GO n i s):GO n (i+1) (gpS c lv s i):=by
 refine ⟨h.base.step,?_⟩
 obtain ⟨e,d⟩:=h
 have one:∀ h∈[(i:Int)],0<=h/\h<(n:Int):=fun h b=>by simp at b;omega
 unfold gpS
 split
 .rename_i k f
  intro xs a
  rcases Da a with a | rfl
  .exact d xs a
  .refine ⟨by simp,fun h b=>?_⟩
   rcases Ay.1 b with b | b
   .have hl:=e.at' _ k f
    rw [Aa hl] at b
    exact (d _ (Bf hl)).2 h b
   .exact one h b
 .intro xs a
  rcases Ay.1 a with a | a
  .exact d xs a
  .have a:xs=[(i:Int)]:=by simpa using a
   subst a
   exact ⟨by simp,one⟩
theorem GO.fold {c:Con} {lv:Int} {n:Nat}:∀ (m i:Nat) (s:GSt),i+m=n->GO n i s->GO n n ((Gz i m).foldl (gpS c lv) s)
 | 0,i,s,hi,h=>by have:i=n:=o_
                  subst this;exact h
 | m+1,i,s,hi,h=>by
  rw [Jh,Al]
  exact GO.fold m (i+1) _ o_ (h.step o_)
theorem NO (c:Con) (lv:Int):(gpL c lv).length<=c.hs.length/\∀ xs∈gpL c lv,xs≠[]/\xs.length<=c.hs.length/\∀ h∈xs,0<=h/\h<(c.hs.length:Int):=by
 unfold gpL
 split
 .exact ⟨Bt _,fun xs h=>by simp at h⟩
 split
 .exact ⟨Bt _,fun xs h=>by simp at h⟩
 rw [Gj]
 have:=GO.fold (c:=c) (lv:=lv) (n:=c.hs.length) c.hs.length 0 ([],[]) o_ ⟨⟨fun p h=>(by simp at h),fun x k h=>(by cases h),Bg _,fun xs h=>(by simp at h)⟩,fun xs h=>(by simp at h)⟩
 exact ⟨this.base.len,fun xs a=>⟨(this.ok xs a).1,this.base.each xs a,(this.ok xs a).2⟩⟩
def fdG (c:Con) (free:List V3) (g:Gan):List (List Int)->Option (Int×List Int)
 | []=>none
 | gr::r=>if decide (((inL free g gr).length:Int)<g.pods)=true then fdG c free g r else some ((aX c.hs (gr.headD 0)).f,inL free g gr)
def fdL (c:Con) (free:List V3) (g:Gan):Nat->Int->Option (Int×List Int)
 | 0,_=>none
 | n+1,lv=>match fdG c free g (gpL c lv) with
  | some x=>some x
  | none=>fdL c free g n (lv+1)
def fdA:Option (Int×List Int)->AVal
 | some x=>.tup [ii x.1,.slice 1 (iv x.2) .no,.bool true]
 | none=>.tup [ii 0,.slice 1 [] .no,.bool false]
def rG (c:Con) (free:List V3) (g:Gan):Option (Int×List Int):=fdL c free g (min g.lev 3+1-max g.pref 0).toNat (max g.pref 0)
noncomputable abbrev ER:Func:=Tryz.f218
abbrev aAe (c:Con) (g:Gan):List AObj:=[.cells 26 c.cs,.cells 36 g.cs]
abbrev aGg (free:List V3) (lv:Int):List (Nat×AVal):=[(1,.slice 3 (vav free) .no),(3,.ref 0 0),(5,.ref 1 0),(9,ii lv)]
theorem xS {l:List (List Int)} {i:Nat} (h:i<l.length):(gav l)[i]? =some (.slice 1 (iv l[i]) .no):=by simp [gav,h]
theorem aHv (c:Con) (A:c.sm) (free:List V3) (g:Gan) (D:0<=g.pods/\g.pods<=16) (lv:Int) (C:0<=lv) (B:lv<=3) (Q:Option (Int×List Int)) (a:List (List Int)) (F:a.length<=1048576) (o:∀ xs∈a,xs≠[]/\xs.length<=c.hs.length/\∀ h∈xs,0<=h/\h<(c.hs.length:Int)):
  ∀ (m i:Nat),i+m=a.length->(∀ x,fdG c free g (a.drop i)=some x->Q=some x)->(fdG c free g (a.drop i)=none->To E ER (.pure (.ret (fdA Q))) (.head (stk ER 0) (aGg free (lv+1)) (aAe c g)))->
  To E ER (.pure (.ret (fdA Q))) (.head (stk ER 1) (aGg free lv++[(26,.slice 1 (gav a) .no),(27,.int .i64 ((gav a).length:Nat)),(28,ii i)]) (aAe c g)):=by
 have q:(gav a).length=a.length:=by simp
 have u:(hav c.hs).length=c.hs.length:=by simp
 have y:=A.hs
 intro m
 induction m with
 | zero=>
  intro i z hs b
  rw [Ae o_] at b
  have b:=b rfl
  refine gV ?_
  exact zW
 | succ m k=>
  intro i z hs b
  have e:i<a.length:=o_
  have k:=k (i+1) o_
  rw [Ac e] at hs b
  have j:=o _ (Bf e)
  have get:=xS e
  generalize a[i]=gr at hs b j get
  obtain ⟨n,v,l⟩:=j
  have f:=wH c free g D gr o_
  unfold fdG at hs b
  unfold A2 at f
  refine gV ?_
  refine aT fun h=>?_
  refine gV ?_
  refine ⟨i,rfl,?_⟩
  refine gV ?_
  refine ⟨_,get,?_⟩
  refine gV ?_
  by_cases p:((inL free g gr).length:Int)<g.pods
  .rw [if_pos (decide_eq_true p)] at hs b f
   have next:=k hs b
   exact zW
  .rw [if_neg (by rw [decide_eq_false p];decide)] at hs b f
   have w:=hs _ rfl
   subst w
   match gr,n with
   | d::r,_=>
   have t:=l d s_
   have G:(hav c.hs)[d.toNat]? =some (aX c.hs d).av:=by
    have:=qK (c:=c) (i:=d.toNat) o_
    rwa [Hy t.1] at this
   have b:d=(d.toNat:Int):=o_
   have s:(iv (d::r))[0]? =some (ii d):=rfl
   exact zW
theorem aGf (c:Con) (f:c.sm) (free:List V3) (g:Gan) (m:0<=g.pods/\g.pods<=16):∀ (n:Nat) (lv:Int),0<=lv->n=(min g.lev 3+1-lv).toNat->
  To E ER (.pure (.ret (fdA (fdL c free g n lv)))) (.head (stk ER 0) (aGg free lv) (aAe c g)):=by
 intro n
 induction n with
 | zero=>
  intro lv j k
  refine gV ?_
  exact zW
 | succ n d=>
  intro lv j k
  have d:=d (lv+1) o_ o_
  have e:=NO c lv
  have l:=f.hs
  have i:(gav (gpL c lv)).length=(gpL c lv).length:=by simp
  obtain ⟨Q,b⟩:∃ Q,Q=fdL c free g (n+1) lv:=⟨_,rfl⟩
  rw [<-b]
  unfold fdL at b
  refine gV ?_
  refine aT fun h=>?_
  refine gV ?_
  refine .pure _ [] (ED c f lv) ?_
  repeat' first | (refine gN hE ?_;conv=>whnf) | exact rfl | refine aY ?_ | refine aN ?_ | refine aT fun h=>?_ | refine aF fun h=>?_ | refine ⟨fun h=>?_,fun h=>?_⟩ | refine aJ ?_ | refine ⟨_,rfl,?_⟩ | refine aD ?_ | fail
  refine To.cut [1,3,5,9,26,27,28] 2 rfl rfl rfl rfl ?_
  refine aHv c f free g m lv j o_ Q (gpL c lv) o_ e.2 (gpL c lv).length 0 o_ (fun x a=>?_) (fun a=>?_)
  .have a:fdG c free g (gpL c lv)=some x:=a
   rw [a] at b
   exact b
  .have a:fdG c free g (gpL c lv)=none:=a
   rw [a] at b
   rw [b]
   exact d
theorem xU (c:Con) (b:c.sm) (free:List V3) (g:Gan) (a:0<=g.pods/\g.pods<=16):aA Tryz.prog 218 [c.av,.slice 3 (vav free) .no,g.av] [] (.ret (fdA (rG c free g))) []:=by
 refine c_ Tryz.f218 fun _=>?_
 refine gV ?_
 exact To.cut [1,3,5,9] 2 rfl rfl rfl rfl (aGf c b free g a _ _ o_ rfl)
def cE (c:Con) (l:List Rn) (g:Gan):Option (Int×List Int):=if wZ c (ofL c l) g.ten (dem g)=true then rG c (fM c l) g else none
theorem Z8 (c:Con) (e:c.sm) (l:List Rn) (hl:Sm l) (g:Gan) (m:0<=g.pods/\g.pods<=16) (Q:Option (Int×List Int)) (a:cE c l g=Q):aA Tryz.prog 156 [c.av,.slice 14 (rav l) .no,g.av] [] (.ret (fdA Q)) []:=by
 unfold cE at a
 have hm:=aFP c e (ofL c l) g.ten (dem g)
 have k:=aAC g
 generalize wZ c (ofL c l) g.ten (dem g)=b at a hm
 generalize dem g=d at hm k
 have j:=xU c e (fM c l) g m
 have h:=QV c e l hl
 have i:=aEr c e l hl.1
 generalize fM c l=fr at j a h
 generalize ofL c l=us at hm i
 cases b with
 | false=>
  have a:none=Q:=a
  subst a
  exact zqha7
 | true=>
  have a:rG c fr g=Q:=a
  rw [a] at j
  unfold fdA at j⊢
  cases Q with
  | none=>
   exact zqha7
  | some x=>
   exact zqha7
theorem aDe (c:Con) (b:c.sm) (l:List Rn) (hl:Sm l) (g:Gan) (a:0<=g.pods/\g.pods<=16):aA Tryz.prog 156 [c.av,.slice 14 (rav l) .no,g.av] [] (.ret (fdA (cE c l g))) []:=Z8 c b l hl g a _ rfl
theorem aA.nil2 {P:Program} {f:FuncId} {a:AVal} {j:List AVal} {g:Nat} {obs obs':List AObj} {r:Res} (h:aA P f (a:: .slice g [] .no::j) obs r obs'):aA P f (a:: .nilslice::j) obs r obs':=
 fun M ob w b hm d=>h M ob w b hm ⟨d.1,fun i v x e c=>by
  match i with
  | 0=>exact d.2 0 v x e c
  | 1=>
   have c:AVal.slice g [] .no=x:=by simpa using c
   subst c
   have:=d.2 1 v .nilslice e rfl
   cases this
   exact .slnil _ _ trivial
  | i+2=>exact d.2 (i+2) v x e c⟩
theorem TM (c:Con) (k:c.sm) (g:Gan) (j:0<=g.pods/\g.pods<=16) (b:Bool) (d:(cE c [] g).isNone=b):aA Tryz.prog 83 [c.av,g.av] [] (.ret (.bool b)) []:=by
 have a:=aDe c k [] ⟨Bt _,fun x h=>by simp at h⟩ g j
 generalize cE c [] g=Q at a d
 subst d
 unfold fdA at a
 cases Q with
 | none=>
  refine c_ Tryz.f83 fun _=>?_
  have i:=aA.nil2 a
  exact zW
 | some x=>
  refine c_ Tryz.f83 fun _=>?_
  have e:=aA.nil2 a
  exact zW
theorem YW (c:Con) (b:c.sm) (g:Gan) (a:0<=g.pods/\g.pods<=16):aA Tryz.prog 83 [c.av,g.av] [] (.ret (.bool (cE c [] g).isNone)) []:=TM c b g a _ rfl
theorem aG6 (x:Rn) (M:Imm) (ob:Hs) (vs:List Value) (h:cD M ob vs [x.av]):inR .i64 x.st/\inR .i64 x.g.run:=by
 have hl:0<vs.length:=by rw [h.1];simp
 have:=h.2 0 _ x.av (Aa hl) rfl
 exact ⟨bZ this 11 _ rfl,bZ this 6 _ rfl⟩
def fC (x:Rn):Int:=if 9223372036854775807<x.st+x.g.run then 9223372036854775807 else if x.st+x.g.run< -9223372036854775808 then -9223372036854775808 else x.st+x.g.run
theorem aDq (x:Rn) (r:Int) (a:fC x=r):aA Tryz.prog 116 [x.av] [] (.ret (ii r)) []:=by
 refine aA.get _ (aG6 x) fun ⟨⟨a1,a2⟩,⟨b1,b2⟩⟩=>?_
 simp only [cL,bI] at a1 a2 b1 b2
 unfold fC at a
 by_cases h1:9223372036854775807<x.st+x.g.run
 .rw [if_pos h1] at a
  subst a
  have e:=aBb h1 o_
  exact zqha6
 .rw [if_neg h1] at a
  by_cases b:x.st+x.g.run< -9223372036854775808
  .rw [if_pos b] at a
   subst a
   have e:=aBa b o_
   exact zqha6
  .rw [if_neg b] at a
   refine c_ Tryz.f116 fun _=>?_
   repeat' first | (refine gN hE ?_;conv=>whnf) | exact rfl | refine aY ?_ | refine aN ?_ | refine aT fun h=>?_ | refine aF fun h=>?_ | refine ⟨fun h=>?_,fun h=>?_⟩ | refine aJ ?_ | refine ⟨_,rfl,?_⟩ | refine aD ?_ | fail
   all_goals first | exact a▸rfl | (exfalso;simp at *;omega)
theorem aGk (x:Rn):aA Tryz.prog 116 [x.av] [] (.ret (ii (fC x))) []:=aDq x _ rfl
theorem XI (x:Rn) (r:Int) (a:fC x=r):aA Tryz.prog 69 [x.av] [] (.ret (ii r)) []:=by
 refine aA.get _ (aG6 x) fun ⟨⟨a1,a2⟩,⟨b1,b2⟩⟩=>?_
 simp only [cL,bI] at a1 a2 b1 b2
 unfold fC at a
 by_cases h1:9223372036854775807<x.st+x.g.run
 .rw [if_pos h1] at a
  subst a
  refine c_ Tryz.f69 fun _=>?_
  repeat' first | (refine gN hE ?_;conv=>whnf) | exact rfl | refine aY ?_ | refine aN ?_ | refine aT fun h=>?_ | refine aF fun h=>?_ | refine Ad (fun h=>?_) (fun h=>absurd (of_decide_eq_false h) (by simp only [decide_eq_true_eq,decide_eq_false_iff_not] at *;omega)) | refine Ad (fun h=>absurd (of_decide_eq_true h) (by simp only [decide_eq_true_eq,decide_eq_false_iff_not] at *;omega)) (fun h=>?_) | refine ⟨fun h=>?_,fun h=>?_⟩ | refine aJ ?_ | refine ⟨_,rfl,?_⟩ | refine Ad d_ ?_ | refine Ad o_ ?_ | refine Hk (Ad (Ad (by simp only [cL];simp only [decide_eq_true_eq,decide_eq_false_iff_not] at *;omega) (by simp only [bI];simp only [decide_eq_true_eq,decide_eq_false_iff_not] at *;omega)) ?_) | fail
 .rw [if_neg h1] at a
  by_cases b:x.st+x.g.run< -9223372036854775808
  .rw [if_pos b] at a
   subst a
   refine c_ Tryz.f69 fun _=>?_
   repeat' first | (refine gN hE ?_;conv=>whnf) | exact rfl | refine aY ?_ | refine aN ?_ | refine aT fun h=>?_ | refine aF fun h=>?_ | refine Ad (fun h=>?_) (fun h=>absurd (of_decide_eq_false h) (by simp only [decide_eq_true_eq,decide_eq_false_iff_not] at *;omega)) | refine Ad (fun h=>absurd (of_decide_eq_true h) (by simp only [decide_eq_true_eq,decide_eq_false_iff_not] at *;omega)) (fun h=>?_) | refine ⟨fun h=>?_,fun h=>?_⟩ | refine aJ ?_ | refine ⟨_,rfl,?_⟩ | refine Ad d_ ?_ | refine Ad o_ ?_ | refine Hk (Ad (Ad (by simp only [cL];simp only [decide_eq_true_eq,decide_eq_false_iff_not] at *;omega) (by simp only [bI];simp only [decide_eq_true_eq,decide_eq_false_iff_not] at *;omega)) ?_) | fail
  .rw [if_neg b] at a
   subst a
   refine c_ Tryz.f69 fun _=>?_
   repeat' first | (refine gN hE ?_;conv=>whnf) | exact rfl | refine aY ?_ | refine aN ?_ | refine aT fun h=>?_ | refine aF fun h=>?_ | refine Ad (fun h=>?_) (fun h=>absurd (of_decide_eq_false h) (by simp only [decide_eq_true_eq,decide_eq_false_iff_not] at *;omega)) | refine Ad (fun h=>absurd (of_decide_eq_true h) (by simp only [decide_eq_true_eq,decide_eq_false_iff_not] at *;omega)) (fun h=>?_) | refine ⟨fun h=>?_,fun h=>?_⟩ | refine aJ ?_ | refine ⟨_,rfl,?_⟩ | refine Ad d_ ?_ | refine Ad o_ ?_ | refine Hk (Ad (Ad (by simp only [cL];simp only [decide_eq_true_eq,decide_eq_false_iff_not] at *;omega) (by simp only [bI];simp only [decide_eq_true_eq,decide_eq_false_iff_not] at *;omega)) ?_) | fail
theorem xN (x:Rn):aA Tryz.prog 69 [x.av] [] (.ret (ii (fC x))) []:=XI x _ rfl
theorem US (l:List Int) (h:l.length<=1048576):aA Tryz.prog 233 [.slice 1 (iv l) .no] [] (.ret (.slice 1 (iv l) .no)) []:=by
 have a:(iv l).length=l.length:=by simp
 refine c_ Tryz.f233 fun _=>?_
 refine gV ?_
 intro b c
 refine gV ?_
 refine ⟨fun h=>?_,fun h=>?_⟩
 .have h:b=true:=h
  have e:iv l=[]:=c h
  refine gV ?_
  rw [e]
 .have h:b=false:=h
  exact zW
def atL (l:List Rn) (t:Int):List Rn:=l.filter fun x=>decide (t<fC x)
theorem aD2 {x:Rn} {r:List Rn} {t:Int} (h:decide (t<fC x)=true):atL (x::r) t=x::atL r t:=Em h
theorem aD3 {x:Rn} {r:List Rn} {t:Int} (h:decide (t<fC x)=false):atL (x::r) t=atL r t:=Ek (by rw [h];decide)
noncomputable abbrev aHG:Func:=Tryz.f70
theorem XS (l:List Rn) (hs:Sm l) (t:Int) (R:List Rn):∀ (n i:Nat) (a:List Rn),i+n=l.length->a.length<=i->a++atL (l.drop i) t=R->
  To (Eo [5] []) aHG (.pure (.ret (.slice 14 (rav R) .no))) (.head (stk aHG 0) [(0,.slice 14 (rav l) .no),(1,.int .i64 t),(5,.slice 14 (rav a) (.own 0 0)),(6,.int .i64 i)] [.tail 0 14 127]):=by
 have k:(rav l).length=l.length:=by simp
 have hl:=hs.1
 intro n
 induction n with
 | zero=>
  intro i a m q b
  rw [Ae o_] at b
  have b:a++[]=R:=b
  rw [Bo] at b
  subst b
  refine gV ?_
  exact zW
 | succ n g=>
  intro i a m q b
  have c:i<l.length:=o_
  rw [Ac c] at b
  generalize o:l[i]=x at b
  have get:(rav l)[i]? =some x.av:=(dH c).trans (by rw [o])
  have p:(rav a).length=a.length:=by simp
  refine gV ?_
  refine aT fun h=>?_
  refine gV ?_
  refine ⟨i,rfl,?_⟩
  refine gV ?_
  refine ⟨_,get,?_⟩
  refine gV ?_
  refine .pure _ [] (xN x) ?_
  refine gV ?_
  refine Ad (fun d=>?_) (fun d=>?_)
  .have d:decide (t<fC x)=true:=d
   rw [aD2 d] at b
   refine gV ?_
   refine ⟨i,rfl,?_⟩
   refine gV ?_
   refine ⟨_,get,?_⟩
   refine gV ?_
   refine ⟨⟨by simp only [maxLen];simp;omega,by simp;omega⟩,?_⟩
   refine gV ?_
   refine aJ ?_
   refine gV ?_
   refine To.part [0,1,5,6] [0] rfl rfl rfl ?_
   have next:=g (i+1) (a++[x]) o_ q_ (by rw [Aj];exact b)
   have e:rav (a++[x])=rav a++[x.av]:=by simp
   rw [e] at next
   exact next
  .have f:decide (t<fC x)=false:=d
   rw [aD3 f] at b
   have j:=g (i+1) a o_ o_ b
   exact zW
theorem XR (l:List Rn) (hs:Sm l) (t:Int):aA Tryz.prog 70 [.slice 14 (rav l) .no,ii t] [] (.ret (.slice 14 (rav (atL l t)) .no)) []:=by
 refine cT (E:=(Eo [5] [])) (fn:=Tryz.f70) (g:=.pure _) fun _=>?_
 have a:=XS l hs t _ l.length 0 [] o_ s_ rfl
 exact zW
theorem aGM {l:List Rn} (h:Sm l) (t:Int):Sm (atL l t):=
 ⟨Cs (Fk _ _) h.1,fun x a=>h.2 x (Dw.1 a).1⟩
open Go Go.AW Go.Proofs Go.Shelf
set_option maxRecDepth 100000
def IB (l:List Int):List Int:=l.mergeSort fun x y=>decide (x<=y)
set_option maxRecDepth 10000
def kyv (n:Int):AVal:=.agg [ii n]
abbrev kv (l:List Int):List AVal:=l.map kyv
def KP (n:Int):List Int->Nat->Int
 | [],_=> -1
 | x::r,i=>if (x==n&&true) then (i:Int) else KP n r (i+1)
def has (l:List Int) (n:Int):Bool:=decide (0<=KP n l 0)
def AT (now:Int):List Rn->List Int->List Int
 | [],ks=>ks
 | x::r,ks=>AT now r (if decide (now<fC x)&& !has ks (fC x) then ks++[fC x] else ks)
def KU (l:List Rn) (now:Int):List Int:=IB (AT now l [])
def nH (n:Int):List Int->List Int
 | []=>[n]
 | x::r=>if x<n then x::nH n r else if x=n then x::r else n::x::r
def rE (now:Int):List Rn->List Int->List Int
 | [],out=>out
 | x::r,out=>rE now r (if fC x<=now then out else nH (fC x) out)
theorem J9 (n:Int):∀ (l:List Int),(nH n l).length<=l.length+1
 | []=>by simp [nH]
 | x::r=>by
  have:=J9 n r
  unfold nH
  split
  .simp only [Ba];omega
  .split<;>simp
noncomputable abbrev uW:Func:=Tryz.f216
noncomputable abbrev Ee:Env:=Ex [5,54] [] [58,59,60]
theorem hEe:EnvOK Ee:=hEx _ _ _
abbrev reO:List AObj:=[.tail 0 1 3]
theorem IR (l:List Rn) (now:Int) (R:List Int) (i:Nat) (C:i<1048576) (n:Int) (out:List Int) (D:out.length<=i) (rest:List Rn)
  (o:∀ (d:List Int),d.length<=i+1->rE now rest d=R->To Ee uW (.pure (.ret (.slice 1 (iv R) .no))) (.head (stk uW 0) [(0,.slice 14 (rav l) .no),(1,.int .i64 now),(5,.slice 1 (iv d) (.own 0 0)),(6,.int .i64 ((i:Int)+1))] reO))
  (c:rE now rest (if n<=now then out else nH n out)=R):∀ (m k:Nat),k+m=out.length->nH n out=out.take k++nH n (out.drop k)->
  To Ee uW (.pure (.ret (.slice 1 (iv R) .no))) (.head (stk uW 1) [(0,.slice 14 (rav l) .no),(1,.int .i64 now),(5,.slice 1 (iv out) (.own 0 0)),(6,.int .i64 i),(7,.int .i64 n),(8,.int .i64 k)] reO):=by
 have A:(iv out).length=out.length:=by simp
 intro m
 induction m with
 | zero=>
  intro k w a
  rw [Ae o_,Cf o_] at a
  have a:nH n out=out++[n]:=a
  have B:Hd k (iv out)=[]:=Ae o_
  have z:Fv k (iv out)=iv out:=Cf o_
  refine gW hEe ?_;conv=>whnf
  refine aF fun h=>?_
  refine gW hEe ?_;conv=>whnf
  refine aN ?_
  refine gW hEe ?_;conv=>whnf
  refine Ad (fun h1=>?_) (fun h1=>?_)
  .have b:=of_decide_eq_true h1
   have s:=o out o_ (by rw [if_pos b] at c;exact c)
   exact zW
  .have b:=of_decide_eq_false h1
   refine gW hEe ?_;conv=>whnf
   refine aF fun h=>?_
   refine gW hEe ?_;conv=>whnf
   refine aN ?_
   refine gW hEe ?_;conv=>whnf
   refine ⟨k,rfl,?_⟩
   refine gW hEe ?_;conv=>whnf
   refine ⟨by omega,?_⟩
   refine gW hEe ?_;conv=>whnf
   refine ⟨⟨by simp only [maxLen];simp;omega,by simp;omega⟩,?_⟩
   refine gW hEe ?_;conv=>whnf
   refine ⟨⟨by simp only [maxLen];simp;omega,by simp;omega⟩,?_⟩
   refine gW hEe ?_;conv=>whnf
   refine ⟨k,rfl,?_⟩
   refine gW hEe ?_;conv=>whnf
   refine ⟨by omega,?_⟩
   refine gW hEe ?_;conv=>whnf
   refine ⟨⟨by simp only [maxLen];simp;omega,by simp;omega⟩,?_⟩
   refine gW hEe ?_;conv=>whnf
   refine aJ ?_
   refine gW hEe ?_;conv=>whnf
   refine To.part [0,1,5,6] [1] rfl rfl rfl ?_
   rw [if_neg b,a] at c
   have next:=o (out++[n]) q_ c
   have e:iv (out++[n])=Fv k (iv out)++[ii n]++Hd k (iv out):=by rw [B,z];simp
   rw [e] at next
   exact next
 | succ m r=>
  intro k w a
  have f:k<out.length:=o_
  rw [Ac f] at a
  have p:out.take k++[out[k]]=out.take (k+1):=Lc f
  have g:out.drop k=out[k]::out.drop (k+1):=Ac f
  generalize y:out[k]=x at a p g
  have get:(iv out)[k]? =some (ii x):=(cH f).trans (by rw [y])
  have a:nH n out=out.take k++(if x<n then x::nH n (out.drop (k+1)) else if x=n then x::out.drop (k+1) else n::x::out.drop (k+1)):=a
  refine gW hEe ?_;conv=>whnf
  refine aT fun h=>?_
  refine gW hEe ?_;conv=>whnf
  refine ⟨k,rfl,?_⟩
  refine gW hEe ?_;conv=>whnf
  refine ⟨_,get,?_⟩
  refine gW hEe ?_;conv=>whnf
  refine Ad (fun h1=>?_) (fun h1=>?_)
  .have j:=of_decide_eq_true h1
   rw [if_pos j] at a
   have v:=r (k+1) o_ (by rw [a,<-p,Aj];rfl)
   exact zW
  .have j:=of_decide_eq_false h1
   rw [if_neg j] at a
   refine gW hEe ?_;conv=>whnf
   refine Ad (fun q=>?_) (fun q=>?_)
   .have b:=of_decide_eq_true q
    have u:=o out o_ (by rw [if_pos b] at c;exact c)
    exact zW
   .have b:=of_decide_eq_false q
    rw [if_neg b] at c
    refine gW hEe ?_;conv=>whnf
    refine aT fun h=>?_
    refine gW hEe ?_;conv=>whnf
    refine ⟨k,rfl,?_⟩
    refine gW hEe ?_;conv=>whnf
    refine ⟨_,get,?_⟩
    refine gW hEe ?_;conv=>whnf
    refine Ad (fun h3=>?_) (fun h3=>?_)
    .have h3:(x==n)=true:=h3
     have h3:x=n:=by simpa using h3
     rw [if_pos h3] at a
     have e:nH n out=out:=by rw [a,<-g,Dj]
     rw [e] at c
     have t:=o out o_ c
     exact zW
    .have h3:(x==n)=false:=h3
     have h3:¬ x=n:=by simpa using h3
     rw [if_neg h3,<-g] at a
     refine gW hEe ?_;conv=>whnf
     refine ⟨k,rfl,?_⟩
     refine gW hEe ?_;conv=>whnf
     refine ⟨by omega,?_⟩
     refine gW hEe ?_;conv=>whnf
     refine ⟨⟨by simp only [maxLen];simp;omega,by simp;omega⟩,?_⟩
     refine gW hEe ?_;conv=>whnf
     refine ⟨⟨by simp only [maxLen];simp;omega,by simp;omega⟩,?_⟩
     refine gW hEe ?_;conv=>whnf
     refine ⟨k,rfl,?_⟩
     refine gW hEe ?_;conv=>whnf
     refine ⟨by omega,?_⟩
     refine gW hEe ?_;conv=>whnf
     refine ⟨⟨by simp only [maxLen];simp;omega,by simp;omega⟩,?_⟩
     refine gW hEe ?_;conv=>whnf
     refine aJ ?_
     refine gW hEe ?_;conv=>whnf
     refine To.part [0,1,5,6] [1] rfl rfl rfl ?_
     rw [a] at c
     have next:=o (out.take k++n::out.drop k) q_ c
     have e:iv (out.take k++n::out.drop k)=Fv k (iv out)++[ii n]++Hd k (iv out):=by simp
     rw [e] at next
     exact next
theorem MR (l:List Rn) (hs:Sm l) (now:Int) (R:List Int):∀ (m i:Nat) (out:List Int),i+m=l.length->out.length<=i->rE now (l.drop i) out=R->
  To Ee uW (.pure (.ret (.slice 1 (iv R) .no))) (.head (stk uW 0) [(0,.slice 14 (rav l) .no),(1,.int .i64 now),(5,.slice 1 (iv out) (.own 0 0)),(6,.int .i64 i)] reO):=by
 have e:(rav l).length=l.length:=by simp
 have hl:=hs.1
 intro m
 induction m with
 | zero=>
  intro i out k d a
  rw [Ae o_] at a
  have a:out=R:=a
  subst a
  refine gW hEe ?_;conv=>whnf
  exact zW
 | succ m j=>
  intro i out k d a
  have b:i<l.length:=o_
  rw [Ac b] at a
  generalize n:l[i]=x at a
  have get:(rav l)[i]? =some x.av:=(dH b).trans (by rw [n])
  unfold rE at a
  refine gW hEe ?_;conv=>whnf
  refine aT fun h=>?_
  refine gW hEe ?_;conv=>whnf
  refine ⟨i,rfl,?_⟩
  refine gW hEe ?_;conv=>whnf
  refine ⟨_,get,?_⟩
  have f:=xN x
  have g:=IR l now R i o_ (fC x) out d (l.drop (i+1)) (fun c h1 o=>j (i+1) c o_ h1 o) a out.length 0 o_ s_
  exact zW
theorem XH (l:List Rn) (hs:Sm l) (now:Int):aA Tryz.prog 216 [.slice 14 (rav l) .no,ii now] [] (.ret (.slice 1 (iv (rE now l [])) .no)) []:=by
 refine cT (E:=Ee) (fn:=Tryz.f216) (g:=.pure _) fun _=>?_
 have a:=MR l hs now _ l.length 0 [] o_ s_ rfl
 exact zW
def stF (c:Con) (l:List Rn) (g:Gan):List Int->Option Int
 | []=>none
 | t::r=>if (cE c (atL l t) g).isSome=true then some t else stF c l g r
def stA:Option Int->AVal
 | some t=>.tup [ii t,.bool true]
 | none=>.tup [ii 0,.bool false]
def rQ (c:Con) (now:Int) (l:List Rn) (g:Gan):Option Int:=stF c l g (now::KU l now)
def bmB (now:Int) (g:Gan) (t:Int):Bool:=decide (fC ⟨g,0,0,now,0,[]⟩<=t)
theorem W1 (now:Int) (g:Gan) (t:Int) (b:Bool) (a:bmB now g t=b):aA Tryz.prog 144 [ii now,g.av,ii t] [] (.ret (.bool b)) []:=by
 have c:=xN ⟨g,0,0,now,0,[]⟩
 unfold bmB at a
 generalize fC ⟨g,0,0,now,0,[]⟩=x at a c
 subst a
 exact c_ Tryz.f144 fun _=>zW
theorem aBT (now:Int) (g:Gan) (t:Int):aA Tryz.prog 144 [ii now,g.av,ii t] [] (.ret (.bool (bmB now g t))) []:=W1 now g t _ rfl
def aM (v:V3):Bool:=decide (0<=v.a/\v.a<=1048576)&&decide (0<=v.b/\v.b<=1048576)&&decide (0<=v.c/\v.c<=1048576)
theorem RW (v:V3) (b:Bool) (d:aM v=b):aA Tryz.prog 63 [v.av] [] (.ret (.bool b)) []:=by
 unfold aM at d
 refine c_ Tryz.f63 fun _=>?_
 repeat' first
  | (refine gW hE ?_;conv=>whnf)
  | exact d
  | refine aY ?_
  | refine aN ?_
  | refine Ad (fun h=>?_) (fun h=>?_)
  | refine aJ ?_
  | refine Aw _ (Ad rfl ?_)
  | refine Ad d_ ?_
 all_goals (refine congrArg (fun b=>Res.ret (AVal.bool b)) ?_;rw [<-d];simp only [decide_eq_true_eq,decide_eq_false_iff_not] at *)
 .rw [decide_eq_false (p:=0<=v.a/\v.a<=1048576) o_];rfl
 .rw [decide_eq_false (p:=0<=v.a/\v.a<=1048576) o_];rfl
 .rw [decide_eq_false (p:=0<=v.b/\v.b<=1048576) o_,Bn];rfl
 .rw [decide_eq_false (p:=0<=v.b/\v.b<=1048576) o_,Bn];rfl
 .rw [decide_eq_false (p:=0<=v.c/\v.c<=1048576) o_,Bn]
 .rw [decide_eq_false (p:=0<=v.c/\v.c<=1048576) o_,Bn]
 .rw [decide_eq_true (p:=0<=v.a/\v.a<=1048576) o_,decide_eq_true (p:=0<=v.b/\v.b<=1048576) o_,decide_eq_true (p:=0<=v.c/\v.c<=1048576) o_];rfl
theorem oF (v:V3):aA Tryz.prog 63 [v.av] [] (.ret (.bool (aM v))) []:=RW v _ rfl
def rlB (ns:List Nod) (t:Int):Bool:=if decide (t<0)=true then false else if decide ((ns.length:Int)<=t)=true then false else ns.all fun x=>!(x.p==t)
noncomputable abbrev aAj:Func:=Tryz.f133
theorem MI (c:Con) (j:c.sm) (t:Int) (r:Bool):∀ (m i:Nat),i+m=c.ns.length->((c.ns.drop i).all fun x=>!(x.p==t))=r->
  To E aAj (.pure (.ret (.bool r))) (.head (stk aAj 0) [(1,ii t),(2,.ref 0 0),(5,ii i)] [.cells 26 c.cs]):=by
 have f:(nav c.ns).length=c.ns.length:=by simp
 have h1:=j.ns
 intro m
 induction m with
 | zero=>
  intro i g a
  rw [Ae o_] at a
  have a:true=r:=a
  subst a
  refine gV ?_
  exact zW
 | succ m e=>
  intro i g a
  have d:i<c.ns.length:=o_
  rw [Ac d,Gm] at a
  have get:=eW d
  generalize c.ns[i]=x at a get
  have e:=e (i+1) o_
  refine gV ?_
  refine aT fun h=>?_
  refine gV ?_
  refine ⟨i,rfl,?_⟩
  refine gV ?_
  refine ⟨_,get,?_⟩
  refine gV ?_
  refine Ad (fun b=>?_) (fun b=>?_)
  .have b:(x.p==t)=true:=b
   rw [b] at a
   have a:false=r:=a
   subst a
   exact zW
  .have b:(x.p==t)=false:=b
   rw [b] at a
   have a:((c.ns.drop (i+1)).all fun x=>!(x.p==t))=r:=a
   repeat' first | (refine gN hE ?_;conv=>whnf) | exact rfl | refine aY ?_ | refine aN ?_ | refine aT fun h=>?_ | refine aF fun h=>?_ | refine ⟨fun h=>?_,fun h=>?_⟩ | refine aJ ?_ | refine ⟨_,rfl,?_⟩ | refine aD ?_ | fail
   exact To.cut [1,2,5] 1 rfl rfl rfl rfl (e a)
theorem SR (c:Con) (i:c.sm) (t:Int) (r:Bool) (a:rlB c.ns t=r):aA Tryz.prog 133 [c.av,ii t] [] (.ret (.bool r)) []:=by
 have d:(nav c.ns).length=c.ns.length:=by simp
 unfold rlB at a
 by_cases e:t<0
 .rw [if_pos (decide_eq_true e)] at a
  subst a
  exact c_ Tryz.f133 fun _=>zW
 rw [if_neg (by rw [decide_eq_false e];decide)] at a
 by_cases b:(c.ns.length:Int)<=t
 .rw [if_pos (decide_eq_true b)] at a
  subst a
  exact c_ Tryz.f133 fun _=>zW
 rw [if_neg (by rw [decide_eq_false b];decide)] at a
 refine c_ Tryz.f133 fun _=>?_
 repeat' first | (refine gN hE ?_;conv=>whnf) | exact rfl | refine aY ?_ | refine aN ?_ | refine aT fun h=>?_ | refine aF fun h=>?_ | refine ⟨fun h=>?_,fun h=>?_⟩ | refine aJ ?_ | refine ⟨_,rfl,?_⟩ | refine aD ?_ | fail
 exact To.cut [1,2,5] 1 rfl rfl rfl rfl (MI c i t r c.ns.length 0 o_ a)
theorem iM (c:Con) (a:c.sm) (t:Int):aA Tryz.prog 133 [c.av,ii t] [] (.ret (.bool (rlB c.ns t))) []:=SR c a t _ rfl
def aHu (ns:List Nod) (g:Gan):Bool:=decide (1<=g.id/\g.id<=1073741824/\1<=g.pods/\g.pods<=16)&&(aM g.need&&(decide (1<=g.run/\g.run<=1048576/\0<=g.lev/\g.lev<=3/\0<=g.pref/\g.pref<=g.lev)&&rlB ns g.ten))
def aEx (ns:List Nod) (g:Gan):Int:=if aHu ns g=true then 1 else 0
theorem SU (a b:V3) (r:Bool) (c:bK a b=r):aA Tryz.prog 134 [a.av,b.av] [] (.ret (.bool r)) []:=by
 unfold bK at c
 refine c_ Tryz.f134 fun _=>?_
 repeat' first
  | (refine gW hE ?_;conv=>whnf)
  | exact c
  | refine aY ?_
  | refine aN ?_
  | refine Ad (fun h=>?_) (fun h=>?_)
  | refine aJ ?_
  | refine Aw _ (Ad rfl ?_)
  | refine Ad d_ ?_
 all_goals (rw [<-c];simp_all)
theorem jQ (a b:V3):aA Tryz.prog 134 [a.av,b.av] [] (.ret (.bool (bK a b))) []:=SU a b _ rfl
def zB (v:V3):Bool:=v.a==0&&(v.b==0&&(v.c==0&&true))
def pP (i:Nat) (x:Nod):Prop:=(i=0/\x.p≠ -1)\/(0<i/\(x.p<0\/(i:Int)<=x.p))\/x.w<1\/1000<x.w
instance (i:Nat) (x:Nod):Decidable (pP i x):=by unfold pP;infer_instance
def lY (bl:Bool) (i:Nat) (x:Nod):Bool:=if pP i x then false else if bl=true then aM x.n&&(aM x.b&&(aM x.l&&bK x.l x.n)) else zB x.n&&(zB x.b&&zB x.l)
theorem YT (c:Con) (i:Nat) (x:Nod) (b:(nav c.ns)[i]? =some x.av) (a:pP i x):aA Tryz.prog 62 [c.av,ii i] [] (.ret (.bool false)) []:=by
 unfold pP at a
 refine c_ Tryz.f62 fun _=>?_
 repeat' first
  | (refine gW hE ?_;conv=>whnf)
  | (refine gW hE ?_;(conv=>whnf);done)
  | exact rfl
  | refine Aw i (Ad rfl ?_)
  | refine Aw _ (Ad b ?_)
  | refine aY ?_
  | refine aN ?_
  | refine aF fun h=>?_
  | refine aT fun h=>?_
  | refine Ad (fun h=>?_) (fun h=>?_)
 all_goals (exfalso;simp at *;omega)
theorem TL (c:Con) (i:Nat) (x:Nod) (r:(nav c.ns)[i]? =some x.av) (p:¬ pP i x) (a e d j:Bool) (hl:aA Tryz.prog 133 [c.av,ii i] [] (.ret (.bool true)) [])
  (k:aA Tryz.prog 63 [x.n.av] [] (.ret (.bool a)) []) (o:aA Tryz.prog 63 [x.b.av] [] (.ret (.bool e)) []) (q:aA Tryz.prog 63 [x.l.av] [] (.ret (.bool d)) [])
  (m:aA Tryz.prog 134 [x.l.av,x.n.av] [] (.ret (.bool j)) []):aA Tryz.prog 62 [c.av,ii i] [] (.ret (.bool (a&&(e&&(d&&j))))) []:=by
 unfold pP at p
 refine c_ Tryz.f62 fun _=>?_
 repeat' first
  | (refine gW hE ?_;conv=>whnf)
  | exact rfl
  | refine .pure _ [] hl ?_
  | refine .pure _ [] k ?_
  | refine .pure _ [] o ?_
  | refine .pure _ [] q ?_
  | refine .pure _ [] m ?_
  | refine Aw i (Ad rfl ?_)
  | refine Aw _ (Ad r ?_)
  | refine aY ?_
  | refine aN ?_
  | refine aF fun h=>?_
  | refine aT fun h=>?_
  | refine Ad (fun h=>?_) (fun h=>?_)
 all_goals first
  | (simp only [*,Cd,Ct,Bn];done)
  | (exfalso;simp at *;omega)
theorem NF (c:Con) (i:Nat) (x:Nod) (d:(nav c.ns)[i]? =some x.av) (a:¬ pP i x) (hl:aA Tryz.prog 133 [c.av,ii i] [] (.ret (.bool false)) []):aA Tryz.prog 62 [c.av,ii i] [] (.ret (.bool (zB x.n&&(zB x.b&&zB x.l)))) []:=by
 unfold pP at a
 unfold zB
 refine c_ Tryz.f62 fun _=>?_
 repeat' first
  | (refine gW hE ?_;conv=>whnf)
  | exact rfl
  | refine .pure _ [] hl ?_
  | refine Aw i (Ad rfl ?_)
  | refine Aw _ (Ad d ?_)
  | refine aY ?_
  | refine aN ?_
  | refine aF fun h=>?_
  | refine aT fun h=>?_
  | refine Ad (fun h=>?_) (fun h=>?_)
 all_goals first
  | (simp only [*,Cd,Ct,Bn];done)
  | (exfalso;simp at *;omega)
theorem aCu (c:Con) (g:c.sm) (i:Nat) (x:Nod) (d:(nav c.ns)[i]? =some x.av):aA Tryz.prog 62 [c.av,ii i] [] (.ret (.bool (lY (rlB c.ns i) i x))) []:=by
 have hl:=iM c g i
 unfold lY
 by_cases a:pP i x
 .rw [if_pos a];exact YT c i x d a
 .rw [if_neg a]
  cases e:rlB c.ns i with
  | true=>
   rw [e] at hl
   rw [if_pos rfl]
   exact TL c i x d a _ _ _ _ hl (oF x.n) (oF x.b) (oF x.l) (jQ x.l x.n)
  | false=>
   rw [e] at hl
   rw [if_neg d_]
   exact NF c i x d a hl
def HI (x:Hos):Prop:=x.f<0\/100<x.f\/x.b<0\/100<x.b\/x.r<0\/100<x.r
instance (x:Hos):Decidable (HI x):=by unfold HI;infer_instance
def mD (x:Hos):Bool:=if HI x then false else aM x.c
def lH (ns:List Nod):Nat->List Nod->Bool
 | _,[]=>true
 | i,x::r=>if lY (rlB ns i) i x=true then lH ns (i+1) r else false
def wU (c:Con):Prop:=(1<=c.ns.length/\c.ns.length<=12)/\(1<=c.hs.length/\c.hs.length<=24)/\(1<=c.half/\c.half<=1048576)/\0<=c.age/\c.age<=1048576
instance (c:Con):Decidable (wU c):=by unfold wU;infer_instance
def bR (c:Con):Int:=if wU c then (if lH c.ns 0 c.ns=true then (if c.hs.all mD=true then 0 else 2) else 2) else 2
noncomputable abbrev GW:Func:=Tryz.f20
theorem LC (c:Con) (l:c.sm) (r:Int):∀ (m i:Nat),i+m=c.hs.length->(if (c.hs.drop i).all mD=true then (0:Int) else 2)=r->
  To E GW (.pure (.ret (ii r))) (.head (stk GW 1) [(1,.ref 0 0),(4,ii i)] [.cells 26 c.cs]):=by
 have g:(hav c.hs).length=c.hs.length:=by simp
 have h1:=l.hs
 intro m
 induction m with
 | zero=>
  intro i k a
  rw [Ae o_] at a
  have a:0=r:=a
  subst a
  refine gV ?_
  exact zW
 | succ m e=>
  intro i k a
  have d:i<c.hs.length:=o_
  rw [Ac d,Gm] at a
  have get:=nI d
  generalize c.hs[i]=x at a get
  have e:=e (i+1) o_
  have j:=oF x.c
  unfold mD at a
  generalize aM x.c=b at j a
  by_cases f:HI x
  .rw [if_pos f] at a
   have a:2=r:=a
   subst a
   unfold HI at f
   refine gV ?_
   refine aT fun h=>?_
   repeat' first
    | (refine gN hE ?_;conv=>whnf)
    | exact rfl
    | refine Aw i (Ad rfl ?_)
    | refine Aw _ (Ad get ?_)
    | refine aY ?_
    | refine aN ?_
    | refine aF fun h=>?_
    | refine aT fun h=>?_
    | refine Ad (fun h=>?_) (fun h=>?_)
   all_goals (exfalso;simp at *;omega)
  .rw [if_neg f] at a
   unfold HI at f
   cases b with
   | false=>
    have a:2=r:=a
    subst a
    refine gV ?_
    exact zW
   | true=>
    have e:=e a
    refine gV ?_
    exact zW
theorem LB (c:Con) (f:c.sm) (r:Int):∀ (m i:Nat),i+m=c.ns.length->(if lH c.ns i (c.ns.drop i)=true then (if c.hs.all mD=true then (0:Int) else 2) else 2)=r->
  To E GW (.pure (.ret (ii r))) (.head (stk GW 0) [(1,.ref 0 0),(3,ii i)] [.cells 26 c.cs]):=by
 have g:(nav c.ns).length=c.ns.length:=by simp
 have h1:=f.ns
 intro m
 induction m with
 | zero=>
  intro i k a
  rw [Ae o_] at a
  have a:(if c.hs.all mD=true then (0:Int) else 2)=r:=a
  refine gV ?_
  refine aF fun h=>?_
  repeat' first | (refine gN hE ?_;conv=>whnf) | exact rfl | refine aY ?_ | refine aN ?_ | refine aT fun h=>?_ | refine aF fun h=>?_ | refine ⟨fun h=>?_,fun h=>?_⟩ | refine aJ ?_ | refine ⟨_,rfl,?_⟩ | refine aD ?_ | fail
  exact To.cut [1,4] 1 rfl rfl rfl rfl (LC c f r c.hs.length 0 o_ a)
 | succ m e=>
  intro i k a
  have d:i<c.ns.length:=o_
  rw [Ac d] at a
  have j:=aCu c f i _ (eW d)
  unfold lH at a
  have e:=e (i+1) o_
  generalize lY (rlB c.ns i) i c.ns[i]=b at a j
  cases b with
  | false=>
   have a:2=r:=a
   subst a
   refine gV ?_
   exact zW
  | true=>
   rw [if_pos (show true=true from rfl)] at a
   have e:=e a
   refine gV ?_
   exact zW
theorem vF (c:Con) (e:c.sm) (r:Int) (a:bR c=r):aA Tryz.prog 20 [c.av] [] (.ret (ii r)) []:=by
 have i:(nav c.ns).length=c.ns.length:=by simp
 have d:(hav c.hs).length=c.hs.length:=by simp
 unfold bR at a
 by_cases b:wU c
 .rw [if_pos b] at a
  unfold wU at b
  refine c_ Tryz.f20 fun _=>?_
  repeat' first | (refine gN hE ?_;conv=>whnf) | exact rfl | refine aY ?_ | refine aN ?_ | refine aT fun h=>?_ | refine aF fun h=>?_ | refine ⟨fun h=>?_,fun h=>?_⟩ | refine aJ ?_ | refine ⟨_,rfl,?_⟩ | refine aD ?_ | fail
  exact To.cut [1,3] 1 rfl rfl rfl rfl (LB c e r c.ns.length 0 o_ a)
 .rw [if_neg b] at a
  subst a
  unfold wU at b
  refine c_ Tryz.f20 fun _=>?_
  repeat' first
   | (refine gN hE ?_;conv=>whnf)
   | exact rfl
   | refine aY ?_
   | refine aN ?_
   | refine aF fun h=>?_
   | refine aT fun h=>?_
   | refine Ad (fun h=>?_) (fun h=>?_)
  all_goals (exfalso;simp at *;omega)
theorem check_ok (c:Con) (a:c.sm):aA Tryz.prog 20 [c.av] [] (.ret (ii (bR c))) []:=vF c a _ rfl
def aF2 (n:Nat) (l:List Int):Bool:=l.all fun h=>decide (0<=h/\h<(n:Int))
def aGJ (c:Con) (now:Int) (x:Rn):Prop:=aEx c.ns x.g=0\/x.st<0\/now<x.st\/(x.hs.length:Int)≠x.g.pods
instance (c:Con) (now:Int) (x:Rn):Decidable (aGJ c now x):=by unfold aGJ;infer_instance
def aH9 (c:Con) (now:Int) (x:Rn):Bool:=if aGJ c now x then false else aF2 c.hs.length x.hs
def aGK (c:Con) (now:Int) (l:List Rn):Prop:=bR c≠0\/32<l.length\/now<0\/1099511627776<now
instance (c:Con) (now:Int) (l:List Rn):Decidable (aGK c now l):=by unfold aGK;infer_instance
def aIp (c:Con) (now:Int) (l:List Rn):Int:=if aGK c now l then 0 else if l.all (aH9 c now)=true then 1 else 0
abbrev St (l:List Int):Prop:=l.Pairwise (· < ·)
theorem AZ {n x:Int}:∀ {l:List Int},x∈nH n l↔x=n\/x∈l
 | []=>by simp [nH]
 | y::r=>by
  have a:=AZ (n:=n) (x:=x) (l:=r)
  unfold nH
  split
  .simp only [Ao,a]
   constructor
   .exact zqha8
   .exact zqha8
  .split
   .rename_i h
    subst h
    simp only [Ao]
    constructor
    .rintro (h | h)
     .exact .inl h
     .exact .inr (.inr h)
    .rintro (h | h | h)
     .exact .inl h
     .exact .inl h
     .exact .inr h
   .simp only [Ao]
theorem QJ {n:Int}:∀ {l:List Int},St l->St (nH n l)
 | [],_=>by simp [nH]
 | y::r,h=>by
  have a:=Ce.1 h
  unfold nH
  split
  .rename_i b
   refine Ce.2 ⟨fun z hz=>?_,QJ a.2⟩
   rcases AZ.1 hz with rfl | hz
   .exact b
   .exact a.1 z hz
  .split
   .exact h
   .rename_i h1 c
    refine Ce.2 ⟨fun z hz=>?_,h⟩
    rcases Ao.1 hz with rfl | hz
    .omega
    .have:=a.1 z hz
     omega
theorem XW {now:Int}:∀ {l:List Rn} {out:List Int},St out->St (rE now l out)
 | [],_,h=>h
 | x::r,out,h=>by
  unfold rE
  split
  .exact XW h
  .exact XW (QJ h)
theorem MV {now n:Int}:∀ {l:List Rn} {out:List Int},n∈rE now l out↔n∈out\/∃ x∈l,fC x=n/\now<n
 | [],out=>by simp [rE]
 | x::r,out=>by
  unfold rE
  split
  .rename_i h
   rw [MV (l:=r)]
   constructor
   .rintro (h1 | ⟨y,a,h1⟩)
    .exact .inl h1
    .exact .inr ⟨y,Bb _ a,h1⟩
   .rintro (h1 | ⟨y,a,h1,b⟩)
    .exact .inl h1
    .rcases Ao.1 a with rfl | a
     .omega
     .exact .inr ⟨y,a,h1,b⟩
  .rename_i h
   rw [MV (l:=r),AZ]
   constructor
   .rintro ((h1 | h1) | ⟨y,a,h1⟩)
    .exact .inr ⟨x,by simp,h1.symm,by omega⟩
    .exact .inl h1
    .exact .inr ⟨y,Bb _ a,h1⟩
   .rintro (h1 | ⟨y,a,h1,b⟩)
    .exact .inl (.inr h1)
    .rcases Ao.1 a with rfl | a
     .exact .inl (.inl h1.symm)
     .exact .inr ⟨y,a,h1,b⟩
theorem EO {n:Int}:∀ {l:List Int} {i:Nat},0<=KP n l i↔n∈l
 | [],i=>by simp [KP]
 | x::r,i=>by
  unfold KP
  split
  .rename_i h
   have:x=n:=by simpa using h
   simp [this]
  .rename_i h
   have:¬ x=n:=by simpa using h
   rw [EO (l:=r),Ao]
   constructor
   .exact .inr
   .rintro (h | h)
    .exact absurd h.symm this
    .exact h
theorem QO {l:List Int} {n:Int}:has l n=true↔n∈l:=by
 unfold has
 rw [decide_eq_true_eq,EO]
theorem D1 {now n:Int}:∀ {l:List Rn} {ks:List Int},n∈AT now l ks↔n∈ks\/∃ x∈l,fC x=n/\now<n
 | [],ks=>by simp [AT]
 | x::r,ks=>by
  unfold AT
  rw [D1 (l:=r)]
  split
  .rename_i h
   simp only [Af,decide_eq_true_eq] at h
   simp only [Ay,Ao,Gs,or_false]
   constructor
   .rintro ((h1 | h1) | ⟨y,a,h1⟩)
    .exact .inl h1
    .exact .inr ⟨x,.inl rfl,h1.symm,by omega⟩
    .exact .inr ⟨y,.inr a,h1⟩
   .rintro (h1 | ⟨y,rfl | a,h1,b⟩)
    .exact .inl (.inl h1)
    .exact .inl (.inr h1.symm)
    .exact .inr ⟨y,a,h1,b⟩
  .rename_i h
   simp only [Ao]
   constructor
   .rintro (h1 | ⟨y,a,h1⟩)
    .exact .inl h1
    .exact .inr ⟨y,.inr a,h1⟩
   .rintro (h1 | ⟨y,rfl | a,h1,b⟩)
    .exact .inl h1
    .cases c:has ks (fC y) with
     | true=>exact .inl (h1▸QO.1 c)
     | false=>
      refine absurd ?_ h
      rw [c,decide_eq_true o_]
      rfl
    .exact .inr ⟨y,a,h1,b⟩
theorem oX {now:Int}:∀ {l:List Rn} {ks:List Int},ks.Nodup->(AT now l ks).Nodup
 | [],_,h=>h
 | x::r,ks,h=>by
  unfold AT
  split
  .rename_i c
   refine oX ?_
   simp only [Af,Cm] at c
   have f:fC x∉ks:=fun hm=>by
    have:=QO.2 hm
    rw [this] at c
    cases c.2
   exact Br.2 ⟨h,by simp,fun a g b d=>by
    simp only [Ao,Gs,or_false] at d
    subst d
    exact fun e=>f (e▸g)⟩
  .exact oX h
theorem R6 {l:List Int} {n:Int}:n∈IB l↔n∈l:=(List.mergeSort_perm l _).mem_iff
theorem VZ {l:List Int} (h:l.Nodup):St (IB l):=by
 have h1:(IB l).Pairwise (fun a b=>decide (a<=b)=true):=List.pairwise_mergeSort (fun a b c h1 d=>by simp at *;omega) (fun a b=>by simp;omega) l
 have d:(IB l).Nodup:=(List.mergeSort_perm l _).nodup_iff.2 h
 exact (h1.and d).imp fun ⟨a,b⟩=>by simp at a;omega
theorem aEk:∀ {a b:List Int},St a->St b->(∀ x,x∈a↔x∈b)->a=b
 | [],[],_,_,_=>rfl
 | [],y::s,_,_,h=>absurd ((h y).2 s_) s_
 | x::r,[],_,_,h=>absurd ((h x).1 s_) s_
 | x::r,y::s,ha,hb,h=>by
  have d:=Ce.1 ha
  have c:=Ce.1 hb
  have e:x=y:=by
   rcases Ao.1 ((h x).1 s_) with e | h1
   .exact e
   .rcases Ao.1 ((h y).2 s_) with e | f
    .exact e.symm
    .have:=c.1 x h1
     have:=d.1 y f
     omega
  subst e
  rw [aEk d.2 c.2 fun z=>?_]
  constructor
  .intro hz
   rcases Ao.1 ((h z).1 (Bb _ hz)) with rfl | h1
   .have:=d.1 z hz;omega
   .exact h1
  .intro hz
   rcases Ao.1 ((h z).2 (Bb _ hz)) with rfl | h1
   .have:=c.1 z hz;omega
   .exact h1
theorem KT (l:List Rn) (now:Int):KU l now=rE now l []:=by
 refine aEk (VZ (oX s_)) (XW s_) fun x=>?_
 unfold KU
 rw [R6,D1,MV]
theorem MW (now:Int):∀ (l:List Rn) (out:List Int),(rE now l out).length<=out.length+l.length
 | [],out=>by simp [rE]
 | x::r,out=>by
  unfold rE
  split
  .have:=MW now r out
   simp only [Ba];omega
  .have:=MW now r (nH (fC x) out)
   have:=J9 (fC x) out
   simp only [Ba];omega
theorem UF (l:List Rn) (now:Int):(KU l now).length<=l.length:=by
 rw [KT]
 have:=MW now l []
 simpa using this
end Go.Proofs.YticlgfdibfobdaaGreat
