/-
  What fits where: quotas, ledgers, hosts, placing, gangs, configurations, as walks.
-/
import Derived.Test.YticlgfdibfobdaaGreatProg
import Derived.Shelf.Sort.Plain
import Derived.Shelf.Slices.In.SortNone
import Derived.Test.YticlgfdibfobdaaGreatWE
set_option linter.all false
set_option maxHeartbeats 1000000
open And renaming intro->Aa
open Bool renaming and_eq_true->Ag,and_false->Bt,false_and->Cj,false_eq_true->Ct,not_eq_true'->Eb,true_and->Bo
open Exists renaming intro->Ah
open Int renaming tdiv->Hd,toNat_natCast->Cz,toNat_of_nonneg->Iq
open List renaming all_cons->Ei,append_assoc->Aj,append_nil->Bc,drop->Fp,drop_eq_getElem_cons->Ac,drop_eq_nil_of_le->Ae,drop_zero->Bn,filter_cons_of_neg->Gi,filter_cons_of_pos->Gh,flatMap_cons->Ia,foldl_cons->Al,getElem?_append_right->Ak,getElem?_eq_getElem->Ab,getElem?_eq_none->Bh,getElem?_eq_some_iff->Ad,getElem?_map->Bj,getElem_mem->Bb,length->Mh,length_append->Ay,length_cons->Bq,length_filter_le->Dw,length_map->Ck,length_mergeSort->Mc,length_nil->Fv,length_replicate->Fy,map_append->Cc,map_cons->Bp,map_map->Gq,map_set->Gc,mem_append->Az,mem_cons->Au,mem_cons_of_mem->Bd,mem_filter->Fk,mem_map->Ce,mem_or_eq_of_mem_set->Df,mergeSort_perm->Ku,nil_append->Bm,nodup_append->Bu,not_mem_nil->Ln,pairwise_cons->Br,range->Dh,range'->Le,range'_succ->Ju,range_eq_range'->Ic,range_succ->Ko,replicate->Ai,set_append_right->Hw,take->Et,take_append_drop->Bk,take_append_getElem->Iw,take_append_of_le_length->Db,take_of_length_le->Cb
open List.cons renaming injEq->Kn
open Nat renaming ble->Fq,div_le_self->Di,le_refl->Ba,le_trans->Co,mul_le_mul->Fa,zero_le->Cn
open Option renaming map_eq_some_iff->Cp
open Or renaming inl->Fo
namespace Go.Proofs.YticlgfdibfobdaaGreat
open Go Go.AW Go.Proofs
theorem zqha0 {P:Prop} (h:P:=by
 unfold IV at hp
 by_cases d:x=t
 .rw [if_pos (decide_eq_true d)] at hp
  refine gV ?_
  refine To.beginR (k:=7) (gg:=0) rfl rfl b ?_
  repeat' first | (refine gN (hEl k [] [] []) ?_;conv=>whnf) | refine .pure _ [] (IK c a need x f) ?_ | refine .pure _ [] (AX c e a need t x) ?_ | exact ⟨⟨rfl,rfl⟩,⟨rfl,rfl⟩⟩ | exact rfl | refine aY ?_ | refine aN ?_ | refine aT fun h=>?_ | refine aF fun h=>?_ | refine ⟨fun h=>?_,fun h=>?_⟩ | refine aJ ?_ | refine ⟨_,rfl,?_⟩ | refine aD ?_ | fail
  all_goals (exfalso;simp_all)
 .rw [if_neg (by rw [decide_eq_false d];decide)] at hp
  refine gV ?_
  refine To.beginR (k:=7) (gg:=0) rfl rfl b ?_
  repeat' first | (refine gN (hEl k [] [] []) ?_;conv=>whnf) | refine .pure _ [] (IK c a need x f) ?_ | refine .pure _ [] (AX c e a need t x) ?_ | exact ⟨⟨rfl,rfl⟩,⟨rfl,rfl⟩⟩ | exact rfl | refine aY ?_ | refine aN ?_ | refine aT fun h=>?_ | refine aF fun h=>?_ | refine ⟨fun h=>?_,fun h=>?_⟩ | refine aJ ?_ | refine ⟨_,rfl,?_⟩ | refine aD ?_ | fail
  all_goals (exfalso;simp_all)):P:=h
theorem zqha1 {P:Prop} (h:P:=by
 refine gV ?_
 refine ⟨i,rfl,?_⟩
 refine gV ?_
 refine ⟨by omega,?_⟩
 refine gV ?_
 refine ⟨by omega,?_⟩
 exact zW):P:=h
theorem zqha2 {P:Prop} (h:P:=by
 refine ⟨ii n,1,?_⟩
 refine gV ?_
 exact zW):P:=h
theorem zqha3 {P:Prop} (h:P:=by
 subst a
 exact c_ Tryz.f92 fun _=>zW):P:=h
theorem zqha4 {P:Prop} (h:P:=by
 refine gV ?_
 refine To.beginR (k:=4) (gg:=0) rfl rfl b ?_
 exact zW):P:=h
theorem zqha5 {P:Prop} (h:P:=by
 have c:(iv a).length=a.length:=by simp
 have e:iv (a++[x])=iv a++[ii x]:=by simp
 unfold sW
 rw [e]
 refine gV ?_
 refine To.beginR (k:=2) (gg:=0) rfl rfl b ?_
 exact zW):P:=h
theorem zqha6 {P:Prop} (h:P:=by
 have hl:=BS a k 0
 have b:k=N:=o_
 subst b
 have e:rp a k 0=iv (Ai k a):=by simp [rp]
 rw [e] at hl⊢
 refine gV ?_
 exact zW):P:=h
theorem zqha7 {P:Prop} (h:P:=by
 have next:=k (i+1) (a++[x]) o_ q_ (by rw [Aj];exact b)
 have e:rav (a++[x])=rav a++[x.av]:=by simp
 rw [e] at next
 exact next):P:=h
theorem zqha8 {P:Prop} (h:P:=by
 refine c_ Tryz.f116 fun _=>?_
 refine gV ?_
 refine .inr ?_
 exact zW):P:=h
theorem zqha9 {P:Prop} (h:P:=by
 exact c_ Tryz.f156 fun _=>zW):P:=h
theorem zqha10 {P:Prop} (h:P:=by
 rw [Ae o_] at b
 have b:a++[]=R:=b
 rw [Bc] at b
 subst b
 refine gV ?_
 exact zW):P:=h
theorem zqha11 {P:Prop} (h:P:=by
 rintro (h | h | h)
 .exact .inr (.inl h)
 .exact .inl h
 .exact .inr (.inr h)):P:=h
theorem zqha12 {P:Prop} (h:P:=by
 refine gV ?_
 refine .sole rfl (.eff [] [0,1] _ _ rfl (put_ok c x _ L) ?_)
 exact zW):P:=h
theorem zqha13 {P:Prop} (h:P:=by
 rw [if_pos (show (some x).isSome=true from rfl)] at a
 subst a
 exact zW):P:=h
theorem zqha14 {P:Prop} (h:P:=by
 exact c_ Tryz.f230 fun _=>zW):P:=h
noncomputable def T0:Tab:=[
 (3,.mk (.int .i64) 1 false (.int .i64 0)),
 (4,.mk .bool 1 false (.bool false)),
 (34,.mk (.arr 3 1 false) 3 true (.agg [.int .i64 0,.int .i64 0,.int .i64 0])),
 (26,.mk (.strct [(0,1,false),(1,1,false),(2,1,false),(3,1,false)]) 4 true (.agg [.slice 11 [] .nil,.slice 6 [] .nil,.int .i64 0,.int .i64 0])),
 (23,.mk (.slc 80 11 88) 1 false (.slice 11 [] .nil)),
 (80,.mk (.strct [(0,1,false),(1,1,false),(2,3,true),(5,3,true),(8,3,true)]) 11 true (.agg [.int .i64 0,.int .i64 0,.int .i64 0,.int .i64 0,.int .i64 0,.int .i64 0,.int .i64 0,.int .i64 0,.int .i64 0,.int .i64 0,.int .i64 0])),
 (53,.mk (.slc 3 1 8) 1 false (.slice 1 [] .nil)),
 (164,.mk (.slc 34 3 24) 1 false (.slice 3 [] .nil)),
 (36,.mk (.strct [(0,1,false),(1,1,false),(2,1,false),(3,3,true),(6,1,false),(7,1,false),(8,1,false)]) 9 true (.agg [.int .i64 0,.int .i64 0,.int .i64 0,.int .i64 0,.int .i64 0,.int .i64 0,.int .i64 0,.int .i64 0,.int .i64 0])),
 (28,.mk (.slc 127 14 128) 1 false (.slice 14 [] .nil)),
 (127,.mk (.strct [(0,9,true),(9,1,false),(10,1,false),(11,1,false),(12,1,false),(13,1,false)]) 14 true (.agg [.int .i64 0,.int .i64 0,.int .i64 0,.int .i64 0,.int .i64 0,.int .i64 0,.int .i64 0,.int .i64 0,.int .i64 0,.int .i64 0,.int .i64 0,.int .i64 0,.int .i64 0,.slice 1 [] .nil])),
 (24,.mk (.slc 82 6 48) 1 false (.slice 6 [] .nil)),
 (82,.mk (.strct [(0,1,false),(1,1,false),(2,1,false),(3,3,true)]) 6 true (.agg [.int .i64 0,.int .i64 0,.int .i64 0,.int .i64 0,.int .i64 0,.int .i64 0])),
 (1,.mk .other 1 false .nilfunc),
 (5,.mk (.int .u8) 1 false (.int .u8 0)),
 (9,.mk .str 1 false (.str [])),
 (20,.mk .iface 1 false .nilif),
 (22,.mk (.slc 38 15 152) 1 false (.slice 15 [] .nil)),
 (27,.mk (.slc 78 11 88) 1 false (.slice 11 [] .nil)),
 (29,.mk (.slc 123 1 8) 1 false (.slice 1 [] .nil)),
 (31,.mk (.strct [(0,4,true),(4,1,false),(5,1,false),(6,1,false),(7,1,false),(8,1,false)]) 9 true (.agg [.slice 11 [] .nil,.slice 6 [] .nil,.int .i64 0,.int .i64 0,.int .i64 0,.int .i64 0,.slice 11 [] .nil,.slice 14 [] .nil,.slice 1 [] .nil])),
 (38,.mk (.strct [(0,1,false),(1,4,true),(5,9,true),(14,1,false)]) 15 true (.agg [.int .i64 0,.slice 11 [] .nil,.slice 6 [] .nil,.int .i64 0,.int .i64 0,.int .i64 0,.int .i64 0,.int .i64 0,.int .i64 0,.int .i64 0,.int .i64 0,.int .i64 0,.int .i64 0,.int .i64 0,.int .i64 0])),
 (40,.mk (.slc 84 3 24) 1 false (.slice 3 [] .nil)),
 (43,.mk (.int .i64) 1 false (.int .i64 0)),
 (54,.mk (.slc 43 1 8) 1 false (.slice 1 [] .nil)),
 (78,.mk (.strct [(0,9,true),(9,1,false),(10,1,false)]) 11 true (.agg [.int .i64 0,.int .i64 0,.int .i64 0,.int .i64 0,.int .i64 0,.int .i64 0,.int .i64 0,.int .i64 0,.int .i64 0,.int .i64 0,.int .i64 0])),
 (84,.mk (.strct [(0,1,false),(1,1,false),(2,1,false)]) 3 true (.agg [.int .i64 0,.int .i64 0,.int .i64 0])),
 (89,.mk (.strct [(0,4,true)]) 4 true (.agg [.slice 11 [] .nil,.slice 6 [] .nil,.int .i64 0,.int .i64 0])),
 (91,.mk (.ptr 31) 1 false .nilptr),
 (93,.mk (.strct [(0,9,true)]) 9 true (.agg [.int .i64 0,.int .i64 0,.int .i64 0,.int .i64 0,.int .i64 0,.int .i64 0,.int .i64 0,.int .i64 0,.int .i64 0])),
 (96,.mk (.strct [(0,1,false)]) 1 true (.agg [.int .i64 0])),
 (98,.mk (.strct [(0,1,false)]) 1 true (.agg [.int .i64 0])),
 (100,.mk (.strct [(0,1,false)]) 1 true (.agg [.int .i64 0])),
 (104,.mk (.strct []) 0 true (.agg [])),
 (110,.mk (.ptr 116) 1 false .nilptr),
 (111,.mk (.ptr 114) 1 false .nilptr),
 (112,.mk (.slc 5 1 1) 1 false (.slice 1 [] .nil)),
 (114,.mk (.strct [(0,1,false),(1,1,false)]) 2 true (.agg [.nilptr,.slice 1 [] .nil])),
 (116,.mk (.strct [(0,2,true)]) 2 true (.agg [.nilptr,.slice 1 [] .nil])),
 (119,.mk .iface 1 false .nilif),
 (122,.mk (.int .u64) 1 false (.int .u64 0)),
 (123,.mk (.int .u64) 1 false (.int .u64 0)),
 (132,.mk (.ptr 134) 1 false .nilptr),
 (134,.mk (.strct [(0,1,false)]) 1 true (.agg [.str []])),
 (146,.mk (.ptr 148) 1 false .nilptr),
 (148,.mk (.strct [(0,9,true),(9,1,false),(10,1,false),(11,1,false)]) 12 true (.agg [.slice 11 [] .nil,.slice 6 [] .nil,.int .i64 0,.int .i64 0,.int .i64 0,.int .i64 0,.slice 11 [] .nil,.slice 14 [] .nil,.slice 1 [] .nil,.slice 3 [] .nil,.bool false,.int .i64 0])),
 (155,.mk (.strct [(0,9,true),(9,1,false),(10,1,false)]) 11 true (.agg [.int .i64 0,.int .i64 0,.int .i64 0,.int .i64 0,.int .i64 0,.int .i64 0,.int .i64 0,.int .i64 0,.int .i64 0,.int .i64 0,.int .i64 0])),
 (156,.mk (.mp 3 4) 1 false .nilmap),
 (157,.mk (.slc 20 1 16) 1 false (.slice 1 [] .nil)),
 (167,.mk .other 1 false .nilfunc),
 (172,.mk .other 1 false .nilfunc),
 (178,.mk (.ptr 43) 1 false .nilptr),
 (185,.mk (.ptr 187) 1 false .nilptr),
 (187,.mk (.strct [(0,9,true),(9,1,false),(10,1,false),(11,1,false)]) 12 true (.agg [.slice 11 [] .nil,.slice 6 [] .nil,.int .i64 0,.int .i64 0,.int .i64 0,.int .i64 0,.slice 11 [] .nil,.slice 14 [] .nil,.slice 1 [] .nil,.slice 3 [] .nil,.bool false,.int .i64 0])),
 (188,.mk (.ptr 190) 1 false .nilptr),
 (190,.mk (.strct [(0,2,true)]) 2 true (.agg [.nilptr,.slice 1 [] .nil])),
 (217,.mk .iface 1 false .nilif),
 (220,.mk .other 1 false .nilfunc),
 (222,.mk (.ptr 279) 1 false .nilptr),
 (229,.mk .other 1 false .nilfunc),
 (231,.mk .other 1 false .nilfunc),
 (235,.mk (.strct [(0,1,false)]) 1 true (.agg [.int .i64 0])),
 (237,.mk .other 1 false .nilfunc),
 (239,.mk .other 1 false .nilfunc),
 (243,.mk .other 1 false .nilfunc),
 (245,.mk .other 1 false .nilfunc),
 (246,.mk .other 1 false .nilfunc),
 (247,.mk .other 1 false .nilfunc),
 (248,.mk (.ptr 251) 1 false .nilptr),
 (251,.mk (.strct [(0,9,true)]) 9 true (.agg [.slice 11 [] .nil,.slice 6 [] .nil,.int .i64 0,.int .i64 0,.int .i64 0,.int .i64 0,.slice 11 [] .nil,.slice 14 [] .nil,.slice 1 [] .nil])),
 (254,.mk (.int .u64) 1 false (.int .u64 0)),
 (255,.mk .other 1 false .nilptr),
 (269,.mk (.mp 3 3) 1 false .nilmap),
 (272,.mk (.slc 53 1 24) 1 false (.slice 1 [] .nil)),
 (275,.mk .other 1 false .nilfunc),
 (276,.mk .other 1 false .nilfunc),
 (277,.mk (.mp 3 34) 1 false .nilmap),
 (279,.mk (.strct [(0,4,true),(4,1,false)]) 5 true (.agg [.slice 11 [] .nil,.slice 6 [] .nil,.int .i64 0,.int .i64 0,.nilmap])),
 (280,.mk .other 1 false .nilfunc),
 (281,.mk .other 1 false .nilfunc),
 (290,.mk (.arr 16 1 false) 16 true (.agg [.int .u64 0,.int .u64 0,.int .u64 0,.int .u64 0,.int .u64 0,.int .u64 0,.int .u64 0,.int .u64 0,.int .u64 0,.int .u64 0,.int .u64 0,.int .u64 0,.int .u64 0,.int .u64 0,.int .u64 0,.int .u64 0])),
 (306,.mk (.strct [(0,1,false)]) 1 true (.agg [.nilfunc])),
 (310,.mk (.mp 312 3) 1 false .nilmap),
 (312,.mk (.strct [(0,1,false),(1,1,false),(2,1,false),(3,1,false)]) 4 true (.agg [.int .i64 0,.int .i64 0,.int .i64 0,.int .i64 0])),
 (320,.mk (.ptr 322) 1 false .nilptr),
 (322,.mk (.strct [(0,1,false),(1,1,false)]) 2 true (.agg [.slice 14 [] .nil,.nilfunc])),
 (325,.mk (.slc 327 1 8) 1 false (.slice 1 [] .nil)),
 (327,.mk (.arr 1 1 false) 1 true (.agg [.int .i64 0])),
 (329,.mk .other 1 false .nilfunc),
 (351,.mk (.int .u32) 1 false (.int .u32 0))]
def F0:List (Nat×Nat):=[(33,3),(34,3),(35,9),(36,9),(79,11),(80,11),(81,6),(82,6),(326,1),(327,1),(311,4),(312,4),(77,11),(78,11),(155,11),(84,3),(83,3)]
def M0:aDX:=[(155,"tithebarn/queue.id",355),(155,"tithebarn/queue.seq",356)]
noncomputable def E:Env:={P:=Tryz.prog,T:=T0,mt:=M0,fl:=F0,own:=[],rws:=[],bl:=[],df:=[]}
theorem hE:EnvOK E where
 mix:=by kernel_rfl
 tab:=O0 (by kernel_rfl) (by kernel_rfl)
 mth:=zI.cons (fun v w=>by kernel_rfl) (zI.cons (fun v w=>by kernel_rfl) zI.nil)
 fl:=NO (by kernel_rfl)
noncomputable def Er (l b:List Nat):Env:={E with rws:=l,bl:=b}
theorem hEr (l b:List Nat):EnvOK (Er l b):=⟨hE.mix,hE.tab,hE.mth,hE.fl⟩
noncomputable def Eo (l b:List Nat):Env:={E with own:=l,bl:=b}
theorem hEo (l b:List Nat):EnvOK (Eo l b):=⟨hE.mix,hE.tab,hE.mth,hE.fl⟩
noncomputable def Ed (df:List (Nat×List AVal)):Env:={E with df:=df}
theorem hEd (df:List (Nat×List AVal)):EnvOK (Ed df):=⟨hE.mix,hE.tab,hE.mth,hE.fl⟩
noncomputable def Ex (o r b:List Nat):Env:={E with own:=o,rws:=r,bl:=b}
theorem hEx (o r b:List Nat):EnvOK (Ex o r b):=⟨hE.mix,hE.tab,hE.mth,hE.fl⟩
noncomputable def El (l:Nat) (o r b:List Nat):Env:={Ex o r b with rd:=some l}
theorem hEl (l:Nat) (o r b:List Nat):EnvOK (El l o r b):=⟨hE.mix,hE.tab,hE.mth,hE.fl⟩
theorem c_ (fn:Func) {f:FuncId} {args:List AVal} {r:Res} (h:okL args->To E fn (.pure r) (.code [.code (dC fn)] (frA 0 args) [])) (l:Tryz.prog.funcs[f]? =some fn:=by rfl) (j:fn.body=some (dC fn):=by rfl) (b:uF Tryz.prog f:=by exact fun _ _=>by rfl) (c:dB fn.ntmps (dC fn)=true:=by decide+kernel) (k:Fq args.length fn.ntmps=true:=by rfl):aA Tryz.prog f args [] r []:=cT (E:=E) (g:=.pure r) h rfl l j b c k rfl rfl rfl
structure V3 where
 (a b c:Int)
 deriving DecidableEq
structure Nod where
 (p w:Int)
 (n b l:V3)
 deriving DecidableEq
structure Hos where
 (f b r:Int)
 (c:V3)
 deriving DecidableEq
structure Con where
 ns:List Nod
 hs:List Hos
 (half age:Int)
 deriving DecidableEq
structure Gan where
 (id ten pods:Int)
 need:V3
 (run lev pref:Int)
 deriving DecidableEq
abbrev ii (n:Int):AVal:=.int .i64 n
def V3.cs (v:V3):List AVal:=[ii v.a,ii v.b,ii v.c]
def Nod.cs (x:Nod):List AVal:=[ii x.p,ii x.w,ii x.n.a,ii x.n.b,ii x.n.c,ii x.b.a,ii x.b.b,ii x.b.c,ii x.l.a,ii x.l.b,ii x.l.c]
def Nod.av (x:Nod):AVal:=.agg x.cs
def Hos.cs (x:Hos):List AVal:=[ii x.f,ii x.b,ii x.r,ii x.c.a,ii x.c.b,ii x.c.c]
def Hos.av (x:Hos):AVal:=.agg x.cs
abbrev nav (l:List Nod):List AVal:=l.map Nod.av
abbrev hav (l:List Hos):List AVal:=l.map Hos.av
def Con.cs (x:Con):List AVal:=[.slice 11 (nav x.ns) .no,.slice 6 (hav x.hs) .no,ii x.half,ii x.age]
def Con.av (x:Con):AVal:=.agg x.cs
def Gan.cs (x:Gan):List AVal:=[ii x.id,ii x.ten,ii x.pods,ii x.need.a,ii x.need.b,ii x.need.c,ii x.run,ii x.lev,ii x.pref]
def Gan.av (x:Gan):AVal:=.agg x.cs
abbrev iv (l:List Int):List AVal:=l.map ii
def V3.zero:V3:=⟨0,0,0⟩
def V3.av (v:V3):AVal:=.agg v.cs
abbrev vav (l:List V3):List AVal:=l.map V3.av
theorem fM {l:List Nod} {i:Nat} (h:i<l.length):(nav l)[i]? =some l[i].av:=by simp [nav,h]
theorem oW {l:List Hos} {i:Nat} (h:i<l.length):(hav l)[i]? =some l[i].av:=by simp [hav,h]
theorem bS {l:List Int} {i:Nat} (h:i<l.length):(iv l)[i]? =some (ii l[i]):=by simp [iv,h]
theorem bY {M:Imm} {ob:Hs} {v:Value} {cs:List AVal} (h:Rep M ob v (.agg cs)) (i:Nat) (a:AVal) (c:cs[i]? =some a):okA a:=by
 obtain ⟨vs,_,hl,d⟩:=h.agg_inv
 have b:i<vs.length:=by rw [hl];exact (Ad.1 c).1
 exact (d i _ a (Ab b) c).okA
theorem aA.get {P:Program} {f:FuncId} {args:List AVal} {obs obs':List AObj} {r:Res} (Q:Prop) (c:∀ M ob vs,cA M ob vs args->Q) (h:Q->aA P f args obs r obs'):aA P f args obs r obs':=
 fun M ob w a hm b=>h (c _ _ _ b) M ob w a hm b
theorem iH {b:Bool} (h:(!b)=true):b=false:=by cases b<;>first | rfl | cases h
theorem iI {b:Bool} (h:(!b)=false):b=true:=by cases b<;>first | rfl | cases h
structure Rn where
 g:Gan
 (seq at' st fl:Int)
 hs:List Int
 deriving DecidableEq
def Rn.cs (x:Rn):List AVal:=[ii x.g.id,ii x.g.ten,ii x.g.pods,ii x.g.need.a,ii x.g.need.b,ii x.g.need.c,ii x.g.run,ii x.g.lev,ii x.g.pref,ii x.seq,ii x.at',ii x.st,ii x.fl,.slice 1 (iv x.hs) .no]
def Rn.av (x:Rn):AVal:=.agg x.cs
abbrev rav (l:List Rn):=l.map Rn.av
theorem bN {l:List Rn} {i:Nat} (h:i<l.length):(rav l)[i]? =some l[i].av:=by simp [rav,h]
theorem kL {l:List V3} {i:Nat} (h:i<l.length):(vav l)[i]? =some l[i].av:=by simp [vav,h]
theorem aD4 {n:Int} (h:9223372036854775807<n) (a:n<=18446744073709551614):IntKind.wrap .i64 n=n-18446744073709551616:=by
 simp [IntKind.wrap,IntKind.signed,IntKind.bits];omega
theorem aD3 {n:Int} (h:n< -9223372036854775808) (a: -18446744073709551616<=n):IntKind.wrap .i64 n=n+18446744073709551616:=by
 simp [IntKind.wrap,IntKind.signed,IntKind.bits];omega
set_option maxRecDepth 10000
def fL (n m:Int):Int:=min (max n (0-m)) m
theorem fK (n m:Int) (h:0<=m): -m<=fL n m/\fL n m<=m:=by unfold fL;omega
theorem RO (n m:Int) (a:0<=m) (h1:m<=1099511627776):aA Tryz.prog 168 [ii n,ii m] [] (.ret (ii (fL n m))) []:=by
 exact c_ Tryz.f168 fun _=>zW
def iQ (x y:Int):Int:=fL (fL x 1099511627776+fL y 1099511627776) 1099511627776
def WK (x y:Int):Int:=fL (fL x 1099511627776-fL y 1099511627776) 1099511627776
def EQ (x n:Int):Int:=fL (fL x 1099511627776*fL n 1048576) 1099511627776
theorem T3 (x n:Int): -1152921504606846976<=fL x 1099511627776*fL n 1048576/\fL x 1099511627776*fL n 1048576<=1152921504606846976:=by
 have h1:=fK x 1099511627776 d_
 have a:=fK n 1048576 d_
 have h3:(fL x 1099511627776*fL n 1048576).natAbs<=1099511627776*1048576:=by
  rw [Int.natAbs_mul]
  exact Fa o_ o_
 omega
theorem aG7 (x y:Int):aA Tryz.prog 167 [ii x,ii y] [] (.ret (ii (iQ x y))) []:=by
 have h1:=fK x 1099511627776 d_
 have a:=fK y 1099511627776 d_
 refine c_ Tryz.f167 fun _=>?_
 repeat' first | (refine gN hE ?_;conv=>whnf) | refine .pure _ [] (RO _ _ d_ d_) ?_ | exact rfl | refine aY ?_ | refine aN ?_ | refine aT fun h=>?_ | refine aF fun h=>?_ | refine ⟨fun h=>?_,fun h=>?_⟩ | refine aJ ?_ | refine ⟨_,rfl,?_⟩ | refine aD ?_ | fail
theorem aEr (x y:Int):aA Tryz.prog 273 [ii x,ii y] [] (.ret (ii (WK x y))) []:=by
 have h1:=fK x 1099511627776 d_
 have a:=fK y 1099511627776 d_
 refine c_ Tryz.f273 fun _=>?_
 repeat' first | (refine gN hE ?_;conv=>whnf) | refine .pure _ [] (RO _ _ d_ d_) ?_ | exact rfl | refine aY ?_ | refine aN ?_ | refine aT fun h=>?_ | refine aF fun h=>?_ | refine ⟨fun h=>?_,fun h=>?_⟩ | refine aJ ?_ | refine ⟨_,rfl,?_⟩ | refine aD ?_ | fail
theorem aFt (x y n:Int):aA Tryz.prog 278 [ii x,ii y,.ptr [ii n]] [] (.ret (ii (EQ x n))) []:=by
 have h1:=T3 x n
 refine c_ Tryz.f278 fun _=>?_
 repeat' first | (refine gN hE ?_;conv=>whnf) | refine .pure _ [] (RO _ _ d_ d_) ?_ | exact rfl | refine aY ?_ | refine aN ?_ | refine aT fun h=>?_ | refine aF fun h=>?_ | refine ⟨fun h=>?_,fun h=>?_⟩ | refine aJ ?_ | refine ⟨_,rfl,?_⟩ | refine aD ?_ | fail
def V3.map2 (op:Int->Int->Int) (a b:V3):V3:=⟨op a.a b.a,op a.b b.b,op a.c b.c⟩
theorem VH (f:FuncId) (op:Int->Int->Int) (a b:V3) (h:∀ x y,aA Tryz.prog f [ii x,ii y] [] (.ret (ii (op x y))) []):aA Tryz.prog 166 [a.av,b.av,.func (.func f) [] []] [] (.ret (V3.map2 op a b).av) []:=by
  refine c_ Tryz.f166 fun _=>?_
  refine gV ?_
  repeat' first
   | (refine gW hE ?_;conv=>whnf)
   | refine .pure _ [] (h _ _) ?_
   | exact rfl
   | refine aY ?_
   | refine aN ?_
   | refine aJ ?_
   | refine Ah _ (Aa rfl ?_)
   | refine Aa d_ ?_
theorem aDc (f:FuncId) (op:Int->Int->Int) (n:Int) (a b:V3) (h:∀ x y,aA Tryz.prog f [ii x,ii y,.ptr [ii n]] [] (.ret (ii (op x y))) []):aA Tryz.prog 166 [a.av,b.av,.func (.func f) [] [.ptr [ii n]]] [] (.ret (V3.map2 op a b).av) []:=by
  refine c_ Tryz.f166 fun _=>?_
  refine gV ?_
  repeat' first
   | (refine gW hE ?_;conv=>whnf)
   | refine .pure _ [] (h _ _) ?_
   | exact rfl
   | refine aY ?_
   | refine aN ?_
   | refine aJ ?_
   | refine Ah _ (Aa rfl ?_)
   | refine Aa d_ ?_
def dL (a b:V3):V3:=V3.map2 iQ a b
def uJ (a b:V3):V3:=V3.map2 WK a b
def OT (a:V3) (n:Int):V3:=V3.map2 (fun x _=>EQ x n) a a
theorem jH (a b:V3):aA Tryz.prog 88 [a.av,b.av] [] (.ret (dL a b).av) []:=by
 refine c_ Tryz.f88 fun _=>?_
 have c:=VH _ iQ a b aG7
 exact zW
theorem HK (a b:V3):aA Tryz.prog 219 [a.av,b.av] [] (.ret (uJ a b).av) []:=by
 refine c_ Tryz.f219 fun _=>?_
 have c:=VH _ WK a b aEr
 exact zW
theorem aD9 (a:V3) (n:Int):aA Tryz.prog 228 [a.av,ii n] [] (.ret (OT a n).av) []:=by
 refine c_ Tryz.f228 fun _=>?_
 have b:=aDc _ (fun x _=>EQ x n) n a a fun x y=>aFt x y n
 exact zW
def cF (a b:V3):Bool:=if decide (b.a<a.a)=true then false else if decide (b.b<a.b)=true then false else if decide (b.c<a.c)=true then false else true
abbrev aIS (n:Int):AVal:=.func (.func 165) [] [.ptr [ii n]]
theorem aIR (x:Nod) (n:Int):aA Tryz.prog 165 [x.av,.ptr [ii n]] [] (.ret (.bool (decide (x.p=n)))) []:=by
 exact c_ Tryz.f165 fun _=>zW
def findP (n:Int):List Nod->Nat->Int
 | [],_=> -1
 | x::r,i=>if decide (x.p=n)=true then (i:Int) else findP n r (i+1)
noncomputable abbrev aHB:Func:=Tryz.f231
theorem X6 (l:List Nod) (n:Int) (hl:((nav l).length:Int)<=9223372036854775807) (r:Int):∀ (m i:Nat),i+m=l.length->findP n (l.drop i) i=r->
  To E aHB (.pure (.ret (ii r))) (.head (stk aHB 0) [(0,.slice 11 (nav l) .no),(1,aIS n),(7,.int .i64 ((nav l).length:Nat)),(8,.int .i64 i)] []):=by
 have c:(nav l).length=l.length:=by simp
 intro m
 induction m with
 | zero=>
  intro i g a
  rw [Ae o_] at a
  subst a
  refine gV ?_
  exact zW
 | succ m f=>
  intro i g a
  have b:i<l.length:=o_
  rw [Ac b] at a
  generalize e:l[i]=x at a
  have get:(nav l)[i]? =some x.av:=(fM b).trans (by rw [e])
  unfold findP at a
  refine gV ?_
  refine aT fun h=>?_
  repeat' first | (refine gN hE ?_;conv=>whnf) | refine ⟨_,get,?_⟩ | refine .pure _ [] (aIR x n) ?_ | exact rfl | refine aY ?_ | refine aN ?_ | refine aT fun h=>?_ | refine aF fun h=>?_ | refine ⟨fun h=>?_,fun h=>?_⟩ | refine aJ ?_ | refine ⟨_,rfl,?_⟩ | refine aD ?_ | fail
  .have h:decide (x.p=n)=true:=h
   rw [if_pos h] at a
   rw [<-a]
  .have h:decide (x.p=n)=false:=h
   rw [if_neg (by rw [h];decide)] at a
   have d:=f (i+1) o_ a
   exact zW
theorem aFQ (l:List Nod) (n:Int):aA Tryz.prog 231 [.slice 11 (nav l) .no,aIS n] [] (.ret (ii (findP n l 0))) []:=by
 refine c_ Tryz.f231 fun b=>?_
 have hl:((nav l).length:Int)<=9223372036854775807:=b.1
 have a:=X6 l n hl _ l.length 0 o_ rfl
 exact zW
theorem aFU (l:List Nod) (n:Int):aA Tryz.prog 164 [.slice 11 (nav l) .no,aIS n] [] (.ret (.bool (decide (0<=findP n l 0)))) []:=by
 refine c_ Tryz.f164 fun _=>?_
 have a:=aFQ l n
 exact zW
def aX (ns:List Nod) (n:Int):Bool:=if decide (0<=n)=true then (if decide (n<(ns.length:Int))=true then !decide (0<=findP n ns 0) else false) else false
theorem aB4 (c:Con) (n:Int) (r:Bool) (b:aX c.ns n=r):aA Tryz.prog 87 [c.av,ii n] [] (.ret (.bool r)) []:=by
 have d:(nav c.ns).length=c.ns.length:=by simp
 unfold aX at b
 refine c_ Tryz.f87 fun _=>?_
 refine gV ?_
 refine Aa (fun h1=>?_) (fun h1=>?_)
 .have h1:decide (0<=n)=true:=h1
  rw [if_pos h1] at b
  refine gV ?_
  refine Aa (fun a=>?_) (fun a=>?_)
  .have a:decide (n<((nav c.ns).length:Int))=true:=a
   rw [d] at a
   rw [if_pos a] at b
   repeat' first | (refine gN hE ?_;conv=>whnf) | refine .pure _ [] (aFU c.ns n) ?_ | exact rfl | refine aY ?_ | refine aN ?_ | refine aT fun h=>?_ | refine aF fun h=>?_ | refine ⟨fun h=>?_,fun h=>?_⟩ | refine aJ ?_ | refine ⟨_,rfl,?_⟩ | refine aD ?_ | fail
   rw [<-b]
  .have a:decide (n<((nav c.ns).length:Int))=false:=a
   rw [d] at a
   rw [if_neg (by rw [a];decide)] at b
   repeat' first | (refine gN hE ?_;conv=>whnf) | exact rfl | refine aY ?_ | refine aN ?_ | refine aT fun h=>?_ | refine aF fun h=>?_ | refine ⟨fun h=>?_,fun h=>?_⟩ | refine aJ ?_ | refine ⟨_,rfl,?_⟩ | refine aD ?_ | fail
   rw [<-b]
 .have h1:decide (0<=n)=false:=h1
  rw [if_neg (by rw [h1];decide)] at b
  repeat' first | (refine gN hE ?_;conv=>whnf) | exact rfl | refine aY ?_ | refine aN ?_ | refine aT fun h=>?_ | refine aF fun h=>?_ | refine ⟨fun h=>?_,fun h=>?_⟩ | refine aJ ?_ | refine ⟨_,rfl,?_⟩ | refine aD ?_ | fail
  rw [<-b]
theorem kS (c:Con) (n:Int):aA Tryz.prog 87 [c.av,ii n] [] (.ret (.bool (aX c.ns n))) []:=aB4 c n _ rfl
inductive Ylds (P:Program) (l:Nat):List Int->BInv->BInv->Bool->Prop
 | nil (I:BInv):Ylds P l [] I I true
 | stop (x:Int) (r:List Int) (I I':BInv) (h:bM P (.yield l) [ii x] [.bun 0 I] (.ret (.bool false)) [.bun 1 I']):Ylds P l (x::r) I I' false
 | next (x:Int) (r:List Int) (I I1 I2:BInv) (b:Bool) (h:bM P (.yield l) [ii x] [.bun 0 I] (.ret (.bool true)) [.bun 1 I1]) (k:Ylds P l r I1 I2 b):Ylds P l (x::r) I I2 b
def upF (ns:List Nod):Nat->Int->List Int
 | 0,_=>[]
 | f+1,n=>if decide (0<=n)=true then (if h:n.toNat<ns.length then (if decide (n<=(ns[n.toNat]).p)=true then [n] else n::upF ns f (ns[n.toNat]).p) else []) else []
def upL (ns:List Nod) (n:Int):List Int:=upF ns (n.toNat+1) n
noncomputable abbrev aF6:Func:=Tryz.f277
theorem ZV (l:Nat) (c:Con) (hl:((nav c.ns).length:Int)<=9223372036854775807) (h:BInv) (b:Bool):∀ (f:Nat) (n:Int),n<(f:Int)->∀ (I:BInv),Ylds Tryz.prog l (upF c.ns f n) I h b->
  ∃ m k,To E aF6 (.full 2 (.ret (.tup [])) [.cells 3 [m],.bun k h]) (.head (stk aF6 0) [(0,.func (.yield l) [] []),(1,.ref 0 0),(2,.ptr c.cs)] [.cells 3 [ii n],.bun 1 I]):=by
 have o:(nav c.ns).length=c.ns.length:=by simp
 intro f
 induction f with
 | zero=>
  intro n s I a
  have h1:¬ 0<=n:=o_
  cases a
  exact zqha2
 | succ f i=>
  intro n s I a
  have r:=fun (p:Int) (hp:¬ n<=p) (e:BInv) (h1:Ylds Tryz.prog l (upF c.ns f p) e h b)=>i p o_ e h1
  unfold upF at a
  by_cases h1:0<=n
  .rw [if_pos (decide_eq_true h1)] at a
   by_cases g:n.toNat<c.ns.length
   .rw [dif_pos g] at a
    generalize u:c.ns[n.toNat]=x at a
    have get:(nav c.ns)[n.toNat]? =some x.av:=(fM g).trans (by rw [u])
    have v:n=(n.toNat:Int):=o_
    by_cases h3:n<=x.p
    .rw [if_pos (decide_eq_true h3)] at a
     cases a with
     | stop _ _ _ _ d=>
      exact zqha2
     | next _ _ _ e _ _ d j=>
      cases j
      exact zqha2
    .rw [if_neg (by rw [decide_eq_false h3];decide)] at a
     cases a with
     | stop _ _ _ _ d=>
      exact zqha2
     | next _ _ _ e _ _ d j=>
      obtain ⟨m,k,q⟩:=r x.p o_ _ j
      refine ⟨m,k,?_⟩
      refine gV ?_
      exact zW
   .rw [dif_neg g] at a
    cases a
    exact zqha2
  .rw [if_neg (by rw [decide_eq_false h1];decide)] at a
   cases a
   exact zqha2
theorem WG (l:Nat) (c:Con) (n:Int) (I e:BInv) (b:Bool) (hl:((nav c.ns).length:Int)<=9223372036854775807) (a:Ylds Tryz.prog l (upL c.ns n) I e b):
  ∃ m i,To E aF6 (.full 2 (.ret (.tup [])) [.cells 3 [m],.bun i e]) (.head (stk aF6 0) [(0,.func (.yield l) [] []),(1,.ref 0 0),(2,.ptr c.cs)] [.cells 3 [ii n],.bun 0 I]):=by
 have j:(nav c.ns).length=c.ns.length:=by simp
 unfold upL at a
 have o:=fun (p:Int) (hp:¬ n<=p) (f:BInv) (h1:Ylds Tryz.prog l (upF c.ns n.toNat p) f e b)=>ZV l c hl e b n.toNat p o_ f h1
 unfold upF at a
 by_cases h1:0<=n
 .rw [if_pos (decide_eq_true h1)] at a
  by_cases g:n.toNat<c.ns.length
  .rw [dif_pos g] at a
   generalize q:c.ns[n.toNat]=x at a
   have get:(nav c.ns)[n.toNat]? =some x.av:=(fM g).trans (by rw [q])
   have r:n=(n.toNat:Int):=o_
   by_cases h3:n<=x.p
   .rw [if_pos (decide_eq_true h3)] at a
    cases a with
    | stop _ _ _ _ d=>
     exact zqha2
    | next _ _ _ f _ _ d h=>
     cases h
     exact zqha2
   .rw [if_neg (by rw [decide_eq_false h3];decide)] at a
    cases a with
    | stop _ _ _ _ d=>
     exact zqha2
    | next _ _ _ f _ _ d h=>
     obtain ⟨m,i,k⟩:=o x.p o_ _ h
     refine ⟨m,i,?_⟩
     refine gV ?_
     exact zW
  .rw [dif_neg g] at a
   cases a
   refine ⟨ii n,0,?_⟩
   refine gV ?_
   exact zW
 .rw [if_neg (by rw [decide_eq_false h1];decide)] at a
  cases a
  refine ⟨ii n,0,?_⟩
  refine gV ?_
  exact zW
theorem HR (l:Nat) (c:Con) (n:Int) (I d:BInv) (b:Bool) (hl:((nav c.ns).length:Int)<=9223372036854775807) (e:Ylds Tryz.prog l (upL c.ns n) I d b):∃ m a,aA Tryz.prog 277 [.func (.yield l) [] [],.ref 0 0,.ptr c.cs] [.cells 3 [ii n],.bun 0 I] (.ret (.tup [])) [.cells 3 [m],.bun a d]:=by
 obtain ⟨m,a,h⟩:=WG l c n I d b hl e
 refine ⟨m,a,?_⟩
 refine cT (E:=E) (fn:=Tryz.f277) (g:=.full 2 _ _) fun _=>?_
 exact zW
theorem SP (c:Con) (n:Int):aA Tryz.prog 226 [c.av,ii n] [] (.ret (.func (.func 277) [] [.ref 0 0,.ptr c.cs])) [.cells 3 [ii n]]:=by
 refine cT (E:=E) (fn:=Tryz.f226) (g:=.full 0 _ _) fun _=>?_
 refine gV ?_
 refine ⟨[0],[1],⟨rfl,rfl⟩,?_⟩
 exact ⟨rfl,rfl⟩
abbrev Led:=List (Int×V3)
def led (L:Led):List (List Int×AVal):=L.map fun p=>([p.1],p.2.av)
def iJ:Led->Int->Option V3
 | [],_=>none
 | (k,v)::r,n=>if k=n then some v else iJ r n
def xG:Led->Int->V3->Led
 | [],n,v=>[(n,v)]
 | (k,w)::r,n,v=>if k=n then (n,v)::r else (k,w)::xG r n v
def CR:Led->Int->Led
 | [],_=>[]
 | (k,w)::r,n=>if k=n then r else (k,w)::CR r n
theorem CO (n:Int):∀ (L:Led),dQ (led L) [n]=(iJ L n).map V3.av
 | []=>rfl
 | (k,v)::r=>by
  have:=CO n r
  simp only [led,Bp,dQ,iJ,Kn,and_true] at this⊢
  split
  .rfl
  .exact this
theorem T7 (n:Int) (v:V3):∀ (L:Led),zR (led L) [n] v.av=led (xG L n v)
 | []=>rfl
 | (k,w)::r=>by
  have:=T7 n v r
  simp only [led,Bp,zR,xG,Kn,and_true] at this⊢
  split
  .rfl
  .rw [this];rfl
theorem T8 (n:Int):∀ (L:Led),ER (led L) [n]=led (CR L n)
 | []=>rfl
 | (k,w)::r=>by
  have:=T8 n r
  simp only [led,Bp,ER,CR,Kn,and_true] at this⊢
  split
  .rfl
  .rw [this];rfl
def pI (L:Led) (n:Int):V3:=(iJ L n).getD V3.zero
def isZ (v:V3):Bool:=(v.a==0)&&((v.b==0)&&((v.c==0)&&true))
def MX (L:Led) (n:Int) (v:V3):Led:=if isZ v=true then CR L n else xG L n v
abbrev ET (c:Con):List AVal:=[.slice 11 (nav c.ns) .no,.slice 6 (hav c.hs) .no,ii c.half,ii c.age,.mref 1]
theorem aE3 (c:Con) (n:Int) (v:V3) (L L':Led) (a:MX L n v=L'):aA Tryz.prog 227 [.ref 0 0,ii n,v.av] [.cells 279 (ET c),.mp false (led L)] (.ret (.tup [])) [.cells 279 (ET c),.mp false (led L')]:=by
 unfold MX at a
 refine cT (E:=E) (fn:=Tryz.f227) (g:=.full 2 _ _) fun _=>?_
 refine gV ?_
 refine Aa (fun h1=>?_) (fun h1=>?_)
 .have h1:isZ v=true:=h1
  rw [if_pos h1] at a
  refine gV ?_
  refine ⟨[],[0,1],⟨rfl,rfl⟩,?_⟩
  refine ⟨rfl,?_⟩
  show [AObj.cells _ _,AObj.mp false (ER (led L) [n])]=_
  rw [T8,a]
 .have h1:isZ v=false:=h1
  rw [if_neg (by rw [h1];decide)] at a
  refine gV ?_
  refine ⟨[],[0,1],⟨rfl,rfl⟩,?_⟩
  refine ⟨rfl,?_⟩
  show [AObj.cells _ _,AObj.mp false (zR (led L) [n] v.av)]=_
  rw [T7,a]
theorem put_ok (c:Con) (n:Int) (v:V3) (L:Led):aA Tryz.prog 227 [.ref 0 0,ii n,v.av] [.cells 279 (ET c),.mp false (led L)] (.ret (.tup [])) [.cells 279 (ET c),.mp false (led (MX L n v))]:=aE3 c n v L _ rfl
theorem A6 {α:Type} {P:Program} {l:Nat} (F:α->BInv) (st:α->Int->α) (h:∀ a x,bM P (.yield l) [ii x] [.bun 0 (F a)] (.ret (.bool true)) [.bun 1 (F (st a x))]):∀ (xs:List Int) (a:α),Ylds P l xs (F a) (F (xs.foldl st a)) true
 | [],a=>.nil _
 | x::r,a=>.next x r _ _ _ _ (h a x) (A6 F st h r (st a x))
def xW (v:V3) (L:Led) (x:Int):Led:=MX L x (dL (pI L x) v)
noncomputable abbrev aGe:Func:=Tryz.f160
def aLB (c:Con):List (Nat×AVal):=[(4,.ref 2 0),(6,.ref 3 0),(7,.ref 4 0),(22,.func (.func 277) [] [.ref 5 0,.ptr c.cs])]
def VQ (c:Con) (v:V3) (L:Led) (o:AObj):List AObj:=[.cells 279 (ET c),.mp false (led L),.cells 222 [.ref 0 0],.cells 34 v.cs,.cells 167 [.func (.func 88) [] []],.dead,o]
theorem aDv (c:Con) (v:V3) (L:Led) (x:Int) (l:Nat) (R:Loop) (d:R.state= .ready):
  To (El l [] [] []) aGe (.keep 7 (.ret (.bool true)) (VQ c v (xW v L x) (.bun 0 (bV l {R with state:=.busy})))) (.code [.code (rfA aGe),.beginR,.code (rfB aGe)] (gS (aLB c) 23 (ii x)) (VQ c v L (.bun 0 (bV l R)))):=by
 refine gV ?_
 refine To.beginR (k:=6) (gg:=0) rfl rfl d ?_
 have a:=CO x L
 unfold xW pI
 cases b:iJ L x with
 | none=>
  rw [b] at a
  have a:dQ (led L) [x]=none:=a
  refine gV ?_
  refine ⟨none,a,?_⟩
  refine gV ?_
  refine .pure _ [] (jH V3.zero v) ?_
  exact zqha12
 | some u=>
  rw [b] at a
  have a:dQ (led L) [x]=some u.av:=a
  refine gV ?_
  refine ⟨some u.av,a,?_⟩
  refine gV ?_
  refine .pure _ [] (jH u v) ?_
  exact zqha12
theorem R4 (c:Con) (t:Int) (v:V3) (L L':Led) (e:Int) (h:aX c.ns t=true->L'=(upL c.ns t).foldl (xW v) L/\e=0) (j:aX c.ns t=false->L'=L/\e=3) (hl:((nav c.ns).length:Int)<=9223372036854775807):
  aA Tryz.prog 160 [.ref 0 0,ii t,v.av,.func (.func 88) [] []] [.cells 279 (ET c),.mp false (led L)] (.ret (ii e)) [.cells 279 (ET c),.mp false (led L')]:=by
 refine cT (E:=E) (fn:=Tryz.f160) (g:=.full 2 _ _) fun _=>?_
 refine gV ?_
 refine .pure _ [] (kS c t) ?_
 refine gV ?_
 refine Aa (fun h1=>?_) (fun h1=>?_)
 .have h1:aX c.ns t=false:=iH h1
  obtain ⟨rfl,rfl⟩:=j h1
  refine gV ?_
  refine ⟨[],[0,1],⟨rfl,rfl⟩,⟨rfl,rfl⟩⟩
 .have h1:aX c.ns t=true:=iI h1
  obtain ⟨rfl,rfl⟩:=h h1
  refine gV ?_
  refine .pure _ [.cells 3 [ii t]] (SP c t) ?_
  refine gV ?_
  refine To.cutC [4,6,7,22] 6 rfl rfl rfl rfl ?_
  refine To.range [5] rfl rfl (fun _ _=>by rfl) rfl (fun _ _=>rfl) rfl fun l ob0 R _ a=>?_
  obtain ⟨m,i,d⟩:=HR l c t _ _ true hl (A6 (P:=Tryz.prog) (l:=l) (fun L=>jD ob0 (aLB c) R (VQ c v L (.bun 0 (bV l R)))) (xW v) (fun L x=>gE (E:=Ex [] [] []) (fn:=aGe) (k:=6) (n:=7) (p:=23) (gg:=0) (L':=VQ c v (xW v L x) (.bun 0 (bV l {R with state:=.busy}))) (b:=true) a.params a.ready a.pend a.assign a.body a.size rfl rfl rfl rfl rfl rfl rfl fun _=>aDv c v L x l R a.ready) (upL c.ns t) L)
  refine ⟨_,true,_,[.cells 3 [m]],i,d,rfl,rfl,?_⟩
  refine gV ?_
  refine ⟨[],[0,1],⟨rfl,rfl⟩,⟨rfl,rfl⟩⟩
structure Con.sm (c:Con):Prop where
 ns:c.ns.length<=1048576
 hs:c.hs.length<=1048576
theorem aI3 (c:Con) (b:c.sm):aA Tryz.prog 159 [c.av] [] (.ret (.ref 0 0)) [.cells 279 (ET c),.mp false (led [])]:=by
 have h1:=b.ns
 have a:(nav c.ns).length=c.ns.length:=by simp
 refine cT (E:=E) (fn:=Tryz.f159) (g:=.full 0 _ _) fun _=>?_
 refine gV ?_
 refine Aa (Aa (by simp only [maxLen];omega) o_) ?_
 refine gV ?_
 refine ⟨[],[3,2],⟨rfl,rfl⟩,⟨rfl,rfl⟩⟩
def jW (f:Nat->V3) (i m:Nat):List V3:=(Dh i).map f++Ai m V3.zero
theorem DG (f:Nat->V3) (i m:Nat):(jW f i m).length=i+m:=by simp [jW]
theorem DF (f:Nat->V3) (i m:Nat):(vav (jW f i (m+1))).set i (f i).av=vav (jW f (i+1) m):=by
 have h1:(Dh i).length=i:=by simp
 unfold jW vav
 rw [Ko,Cc,Cc,Cc,List.replicate_succ,Bp]
 rw [Hw _ _ s_]
 simp
theorem DH (f:Nat->V3) (n:Nat):jW f n 0=(Dh n).map f:=by simp [jW]
theorem xM (f:Nat->V3) (n:Nat):vav (jW f 0 n)=Ai n (AVal.agg [ii 0,ii 0,ii 0]):=by simp [jW,vav,V3.av,V3.zero,V3.cs]
noncomputable abbrev aLq:Func:=Tryz.f162
abbrev aB3 (c:Con) (L:Led):List AObj:=[.cells 279 (ET c),.mp false (led L)]
def mG (n:Nat) (L:Led):List V3:=(Dh n).map fun i:Nat=>pI L (i:Int)
theorem aDP (c:Con) (L:Led) (g:c.ns.length<=1048576) (K:Int) (j:K=(c.ns.length:Nat)):∀ (m i:Nat),i+m=c.ns.length->
  To E aLq (.full 2 (.ret (.slice 3 (vav (mG c.ns.length L)) .no)) (aB3 c L)) (.head (stk aLq 0) [(0,.ref 0 0),(3,.row 2 0),(15,.int .i64 K),(16,.int .i64 i)] [.cells 279 (ET c),.mp false (led L),.row 0 3 34 (vav (jW (fun i:Nat=>pI L (i:Int)) i m))]):=by
 intro m
 induction m with
 | zero=>
  intro i b
  have e:jW (fun i:Nat=>pI L (i:Int)) i 0=mG c.ns.length L:=by rw [DH];unfold mG;rw [<-b];rfl
  rw [e]
  refine gV ?_
  refine aF fun h=>?_
  refine gV ?_
  refine ⟨[2],[0,1],⟨rfl,rfl⟩,⟨rfl,rfl⟩⟩
 | succ m f=>
  intro i b
  have hl:(vav (jW (fun i:Nat=>pI L (i:Int)) i (m+1))).length=i+(m+1):=by rw [Ck,DG]
  have hs:=DF (fun i:Nat=>pI L (i:Int)) i m
  have a:=CO (i:Int) L
  have next:=f (i+1) o_
  rw [<-hs] at next
  unfold pI at next
  refine gV ?_
  refine aT fun h=>?_
  cases d:iJ L (i:Int) with
  | none=>
   rw [d] at a next
   have a:dQ (led L) [(i:Int)]=none:=a
   refine gV ?_
   refine ⟨none,a,?_⟩
   exact zqha1
  | some u=>
   rw [d] at a next
   have a:dQ (led L) [(i:Int)]=some u.av:=a
   refine gV ?_
   refine ⟨some u.av,a,?_⟩
   exact zqha1
theorem aKh (c:Con) (L:Led) (b:c.sm):aA Tryz.prog 162 [.ref 0 0] (aB3 c L) (.ret (.slice 3 (vav (mG c.ns.length L)) .no)) (aB3 c L):=by
 have h1:=b.ns
 have a:(nav c.ns).length=c.ns.length:=by simp
 refine cT (E:=E) (fn:=Tryz.f162) (g:=.full 2 _ _) fun _=>?_
 refine gV ?_
 refine aN ?_
 refine gV ?_
 refine ⟨c.ns.length,by rw [a],?_⟩
 refine gV ?_
 refine ⟨⟨rfl,by omega,by simp only [maxLen];omega⟩,?_⟩
 refine gV ?_
 have next:=aDP c L h1 ((Ai c.ns.length (AVal.agg [ii 0,ii 0,ii 0])).length:Nat) (by rw [Fy]) c.ns.length 0 o_
 rw [xM] at next
 exact To.head [0,3,15,16] next
def dem (g:Gan):V3:=OT g.need g.pods
theorem RH (g:Gan):aA Tryz.prog 161 [g.av] [] (.ret (dem g).av) []:=by
 refine c_ Tryz.f161 fun _=>?_
 have a:=aD9 g.need g.pods
 exact zW
def tK (c:Con) (L:Led) (x:Rn):Led:=if aX c.ns x.g.ten=true then (upL c.ns x.g.ten).foldl (xW (dem x.g)) L else L
def ofL (c:Con) (l:List Rn):List V3:=mG c.ns.length (l.foldl (tK c) [])
theorem Y5 (c:Con) (t:Int) (v:V3) (L:Led) (a:c.sm):aA Tryz.prog 160 [.ref 0 0,ii t,v.av,.func (.func 88) [] []] (aB3 c L) (.ret (ii (if aX c.ns t=true then 0 else 3))) (aB3 c (if aX c.ns t=true then (upL c.ns t).foldl (xW v) L else L)):=
 R4 c t v L _ _ (fun h=>⟨if_pos h,if_pos h⟩) (fun h=>⟨if_neg (by rw [h];decide),if_neg (by rw [h];decide)⟩) (by have:=a.ns;simp only [Ck];omega)
noncomputable abbrev fOf:Func:=Tryz.f85
theorem aFc (c:Con) (e:c.sm) (l:List Rn) (hl:l.length<=1048576) (R:List V3):∀ (m i:Nat) (L:Led),i+m=l.length->mG c.ns.length ((l.drop i).foldl (tK c) L)=R->
  To E fOf (.pure (.ret (.slice 3 (vav R) .no))) (.head (stk fOf 0) [(5,.ref 1 0),(10,.slice 14 (rav l) .no),(11,.int .i64 ((rav l).length:Nat)),(12,.int .i64 i)] [.cells 26 c.cs,.cells 279 [.slice 11 (nav c.ns) .no,.slice 6 (hav c.hs) .no,ii c.half,ii c.age,.mref 2],.mp false (led L)]):=by
 have d:(rav l).length=l.length:=by simp
 intro m
 induction m with
 | zero=>
  intro i L k a
  rw [Ae o_] at a
  subst a
  refine gV ?_
  refine aF fun h=>?_
  refine gV ?_
  refine .eff [] [1,2] _ _ rfl (aKh c L e) ?_
  exact zW
 | succ m j=>
  intro i L k a
  have b:i<l.length:=o_
  rw [Ac b,Al] at a
  generalize f:l[i]=x at a
  have get:(rav l)[i]? =some x.av:=(bN b).trans (by rw [f])
  have next:=j (i+1) (tK c L x) o_ a
  refine gV ?_
  refine aT fun h=>?_
  refine gV ?_
  refine ⟨i,rfl,?_⟩
  refine gV ?_
  refine ⟨_,get,?_⟩
  refine gV ?_
  refine .pure _ [] (RH x.g) ?_
  refine gV ?_
  refine .sole rfl (.eff [] [1,2] _ _ rfl (Y5 c x.g.ten (dem x.g) L e) ?_)
  exact zW
theorem TY (c:Con) (a:c.sm) (l:List Rn) (hl:l.length<=1048576):aA Tryz.prog 85 [c.av,.slice 14 (rav l) .no] [] (.ret (.slice 3 (vav (ofL c l)) .no)) []:=by
 refine c_ Tryz.f85 fun _=>?_
 refine gV ?_
 refine .pure _ [_,_] (aI3 c a) ?_
 refine gV ?_
 exact To.cut [5,10,11,12] 3 rfl rfl rfl rfl (aFc c a l hl _ l.length 0 [] o_ rfl)
def lvF (ns:List Nod):Nat->Nat->List Int
 | 0,_=>[]
 | m+1,i=>if aX ns (i:Int)=true then (i:Int)::lvF ns m (i+1) else lvF ns m (i+1)
def kR (ns:List Nod):List Int:=lvF ns ns.length 0
theorem AL (ns:List Nod):∀ (m i:Nat),(lvF ns m i).length<=m
 | 0,_=>by simp [lvF]
 | m+1,i=>by
  have:=AL ns m (i+1)
  unfold lvF
  split
  .simp;omega
  .omega
noncomputable abbrev aLi:Func:=Tryz.f280
theorem aBX (c:Con) (j:c.sm) (R:List Int):∀ (m i:Nat) (a:List Int),i+m=c.ns.length->a.length<=i->a++lvF c.ns m i=R->
  To (Eo [3] []) aLi (.pure (.ret (.slice 1 (iv R) .no))) (.head (stk aLi 0) [(1,.ref 0 0),(3,.slice 1 (iv a) (.own 1 0)),(7,.int .i64 ((nav c.ns).length:Nat)),(8,.int .i64 i)] [.cells 26 c.cs,.tail 0 1 3]):=by
 have f:(nav c.ns).length=c.ns.length:=by simp
 have h1:=j.ns
 intro m
 induction m with
 | zero=>
  intro i a l n b
  unfold lvF at b
  rw [Bc] at b
  subst b
  refine gV ?_
  exact zW
 | succ m g=>
  intro i a l n b
  have k:(iv a).length=a.length:=by simp
  unfold lvF at b
  refine gV ?_
  refine aT fun h=>?_
  refine gV ?_
  refine .pure _ [] (kS c i) ?_
  refine gV ?_
  refine Aa (fun d=>?_) (fun d=>?_)
  .have d:aX c.ns (i:Int)=true:=d
   rw [if_pos d] at b
   have next:=g (i+1) (a++[(i:Int)]) o_ q_ (by rw [Aj];exact b)
   have e:iv (a++[(i:Int)])=iv a++[ii i]:=by simp
   rw [e] at next
   exact zW
  .have d:aX c.ns (i:Int)=false:=d
   rw [if_neg (by rw [d];decide)] at b
   have next:=g (i+1) a o_ o_ b
   exact zW
theorem aJa (c:Con) (b:c.sm):aA Tryz.prog 280 [c.av] [] (.ret (.slice 1 (iv (kR c.ns)) .no)) []:=by
 refine cT (E:=(Eo [3] [])) (fn:=Tryz.f280) (g:=.pure _) fun _=>?_
 have a:=aBX c b _ c.ns.length 0 [] o_ s_ rfl
 exact zW
theorem ZU (ns:List Nod):∀ (f:Nat) (n x:Int),x∈upF ns f n->x<=n
 | 0,n,x,h=>by simp [upF] at h
 | f+1,n,x,h=>by
  unfold upF at h
  split at h
  .split at h
   .split at h
    .simp at h;omega
    .rename_i h3
     rcases Au.1 h with rfl | h
     .omega
     .have:=ZU ns f _ x h
      have:¬ n<=(ns[n.toNat]).p:=fun a=>h3 (decide_eq_true a)
      omega
   .simp at h
  .simp at h
theorem HO (ns:List Nod):∀ (f:Nat) (n:Int),(upF ns f n).Pairwise fun a b=>b<a
 | 0,n=>by simp [upF]
 | f+1,n=>by
  unfold upF
  split
  .split
   .split
    .simp
    .rename_i h3
     refine Br.2 ⟨fun x c=>?_,HO ns f _⟩
     have:=ZU ns f _ x c
     have:¬ n<=(ns[n.toNat]).p:=fun d=>h3 (decide_eq_true d)
     omega
   .simp
  .simp
def sL (ns:List Nod) (n t:Int):List Int:=if n∈upL ns t then [t] else []
def aZ (ns:List Nod) (n:Int):List Int:=(kR ns).flatMap (sL ns n)
noncomputable abbrev kC:Func:=Tryz.f279
def aEl (c:Con) (n:Int) (lv:List Int) (i K:Int):List (Nat×AVal):=[(1,.ptr c.cs),(2,.ptr [ii n]),(3,.ref 1 0),(5,.ref 2 0),(8,.slice 1 (iv lv) .no),(9,.int .i64 K),(10,.int .i64 i),(16,.func (.func 277) [] [.ref 3 0,.ptr c.cs])]
def qA (l:Nat) (t:Int) (G:Nat) (I:BInv) (o:AObj):List AObj:=[.bun G I,.cells 275 [.func (.yield l) [] []],.cells 3 [ii t],.dead,o]
abbrev busy (R:Loop):Loop:={R with state:=.busy}
theorem aEg (c:Con) (n t x i K:Int) (lv:List Int) (l l2 G:Nat) (I:BInv) (R:Loop) (a:R.state= .ready) (b:x≠n):
  To (El l2 [] [] []) kC (.keep 5 (.ret (.bool true)) (qA l t G I (.bun 0 (bV l2 (busy R))))) (.code [.code (rfA kC),.beginR,.code (rfB kC)] (gS (aEl c n lv i K) 17 (ii x)) (qA l t G I (.bun 0 (bV l2 R)))):=by
 refine gV ?_
 refine To.beginR (k:=4) (gg:=0) rfl rfl a ?_
 exact zW
theorem aHX (c:Con) (n t i K:Int) (lv:List Int) (l l2 G:Nat) (I a:BInv) (R:Loop) (b:R.state= .ready) (d:G=0\/G=1) (e:bM Tryz.prog (.yield l) [ii t] [.bun 0 I] (.ret (.bool true)) [.bun 1 a]):
  To (El l2 [] [] []) kC (.keep 5 (.ret (.bool true)) (qA l t (G+1) a (.bun 0 (bV l2 (busy R))))) (.code [.code (rfA kC),.beginR,.code (rfB kC)] (gS (aEl c n lv i K) 17 (ii n)) (qA l t G I (.bun 0 (bV l2 R)))):=by
 rcases d with rfl | rfl
 .exact zqha4
 .exact zqha4
theorem aEf (c:Con) (n t i K:Int) (lv:List Int) (l l2 G:Nat) (I a:BInv) (R:Loop) (b:R.state= .ready) (d:G=0\/G=1) (e:bM Tryz.prog (.yield l) [ii t] [.bun 0 I] (.ret (.bool false)) [.bun 1 a]):
  To (El l2 [] [] []) kC (.keep 5 (.ret (.bool false)) (qA l t (G+1) a (.bun 0 (bV l2 (busy R))))) (.code [.code (rfA kC),.beginR,.code (rfB kC)] (gS (aEl c n lv i K) 17 (ii n)) (qA l t G I (.bun 0 (bV l2 R)))):=by
 rcases d with rfl | rfl
 .exact zqha4
 .exact zqha4
theorem wI {P:Program} {l:Nat} {J:BInv} {n:Int} (hs:∀ x,x≠n->bM P (.yield l) [ii x] [.bun 0 J] (.ret (.bool true)) [.bun 1 J]):∀ (xs:List Int),n∉xs->Ylds P l xs J J true
 | [],_=>.nil _
 | x::r,h=>.next x r _ _ _ _ (hs x fun e=>h (by simp [e])) (wI hs r fun e=>h (by simp [e]))
theorem A5 {P:Program} {l:Nat} {J J1:BInv} {n:Int} {b:Bool} (hs:∀ x,x≠n->bM P (.yield l) [ii x] [.bun 0 J] (.ret (.bool true)) [.bun 1 J]) (d:bM P (.yield l) [ii n] [.bun 0 J] (.ret (.bool b)) [.bun 1 J1])
  (h1:b=true->∀ x,x≠n->bM P (.yield l) [ii x] [.bun 0 J1] (.ret (.bool true)) [.bun 1 J1]):∀ (xs:List Int),xs.Pairwise (fun a b=>b<a)->n∈xs->Ylds P l xs J J1 b
 | [],_,h=>by simp at h
 | x::r,hp,h=>by
  rw [Br] at hp
  by_cases c:x=n
  .subst c
   cases b with
   | true=>exact .next x r _ _ _ _ d (wI (h1 rfl) r fun e=>by have:=hp.1 x e;omega)
   | false=>exact .stop x r _ _ d
  .exact .next x r _ _ _ _ (hs x c) (A5 hs d h1 r hp.2 ((Au.1 h).resolve_left fun e=>c e.symm))
def tnJ (c:Con) (n t i K:Int) (lv:List Int) (l l2:Nat) (ob0:Hs) (R a:Loop) (G:Nat) (I:BInv):BInv:=jD ob0 (aEl c n lv i K) R (qA l t G I (.bun 0 (bV l2 a)))
theorem uP {e d:Code} (c:Con) (n t x i K:Int) (lv:List Int) (l l2 G:Nat) (ob0:Hs) (I:BInv) (R:Loop) (a:RecOK kC 17 e d R) (h:rfA kC=e) (f:rfB kC=d) (g:x≠n):
  bM Tryz.prog (.yield l2) [ii x] [.bun 0 (tnJ c n t i K lv l l2 ob0 R R G I)] (.ret (.bool true)) [.bun 1 (tnJ c n t i K lv l l2 ob0 R R G I)]:=by
 subst h f
 exact gE (E:=Ex [] [] []) (fn:=kC) (k:=4) (n:=5) (p:=17) (gg:=0) (L':=qA l t G I (.bun 0 (bV l2 (busy R)))) (b:=true) a.params a.ready a.pend a.assign a.body a.size rfl rfl rfl rfl rfl rfl rfl fun _=>aEg c n t x i K lv l l2 G I R a.ready g
theorem SZ {g f:Code} (c:Con) (n t i K:Int) (lv:List Int) (l l2 G:Nat) (ob0:Hs) (I d:BInv) (R:Loop) (b:Bool) (a:RecOK kC 17 g f R) (m:rfA kC=g) (j:rfB kC=f) (h:G=0\/G=1) (e:bM Tryz.prog (.yield l) [ii t] [.bun 0 I] (.ret (.bool b)) [.bun 1 d]):
  bM Tryz.prog (.yield l2) [ii n] [.bun 0 (tnJ c n t i K lv l l2 ob0 R R G I)] (.ret (.bool b)) [.bun 1 (tnJ c n t i K lv l l2 ob0 R (lH R b) (G+1) d)]:=by
 subst m j
 cases b with
 | true=>exact gE (E:=Ex [] [] []) (fn:=kC) (k:=4) (n:=5) (p:=17) (gg:=0) (L':=qA l t (G+1) d (.bun 0 (bV l2 (busy R)))) (b:=true) a.params a.ready a.pend a.assign a.body a.size rfl rfl rfl rfl rfl rfl rfl fun _=>aHX c n t i K lv l l2 G I d R a.ready h e
 | false=>exact gE (E:=Ex [] [] []) (fn:=kC) (k:=4) (n:=5) (p:=17) (gg:=0) (L':=qA l t (G+1) d (.bun 0 (bV l2 (busy R)))) (b:=false) a.params a.ready a.pend a.assign a.body a.size rfl rfl rfl rfl rfl rfl rfl fun _=>aEf c n t i K lv l l2 G I d R a.ready h e
theorem Z5 (c:Con) (W:c.sm) (n:Int) (l:Nat) (lv:List Int) (j:BInv) (b:Bool) (P:lv.length<=1048576):∀ (m i:Nat) (G:Nat) (I:BInv),i+m=lv.length->(G=0\/G=1)->Ylds Tryz.prog l ((lv.drop i).flatMap (sL c.ns n)) I j b->
  ∃ g,To E kC (.full 1 (.ret (.tup [])) [.bun g j]) (.head (stk kC 0) [(1,.ptr c.cs),(2,.ptr [ii n]),(3,.ref 1 0),(8,.slice 1 (iv lv) .no),(9,.int .i64 ((iv lv).length:Nat)),(10,.int .i64 i)] [.bun G I,.cells 275 [.func (.yield l) [] []]]):=by
 have N:(iv lv).length=lv.length:=by simp
 have L:((nav c.ns).length:Int)<=9223372036854775807:=by have:=W.ns;simp only [Ck];omega
 intro m
 induction m with
 | zero=>
  intro i G I T r d
  rw [Ae o_] at d
  have d:Ylds Tryz.prog l [] I j b:=d
  cases d
  rcases r with rfl | rfl
  .refine ⟨0,?_⟩
   refine gV ?_
   exact zW
  .refine ⟨1,?_⟩
   refine gV ?_
   exact zW
 | succ m O=>
  intro i G I T r d
  have v:i<lv.length:=o_
  rw [Ac v,Ia] at d
  generalize k:lv[i]=t at d
  have get:(iv lv)[i]? =some (ii t):=(bS v).trans (by rw [k])
  -- what the loop within comes to
  have key:∃ (g s:Nat) (z:BInv) (o:Bool),(o=true->(s=G\/s=G+1)/\To E kC (.full 1 (.ret (.tup [])) [.bun g j]) (.head (stk kC 0) [(1,.ptr c.cs),(2,.ptr [ii n]),(3,.ref 1 0),(8,.slice 1 (iv lv) .no),(9,.int .i64 ((iv lv).length:Nat)),(10,.int .i64 ((i:Int)+1))] [.bun (if s=0 then 0 else 1) z,.cells 275 [.func (.yield l) [] []]]))/\(o=false->s=G+1/\g=1/\z=j)/\
    ∀ (l2:Nat) (ob0:Hs) (R:Loop) (C w:Code),RecOK kC 17 C w R->rfA kC=C->rfB kC=w->Ylds Tryz.prog l2 (upL c.ns t) (tnJ c n t i ((iv lv).length:Nat) lv l l2 ob0 R R G I) (tnJ c n t i ((iv lv).length:Nat) lv l l2 ob0 R (lH R o) s z) o:=by
   unfold sL at d
   have y:(upL c.ns t).Pairwise fun a b=>b<a:=HO _ _ _
   by_cases B:n∈upL c.ns t
   .rw [if_pos B] at d
    have d:Ylds Tryz.prog l (t::(lv.drop (i+1)).flatMap (sL c.ns n)) I j b:=d
    cases d with
    | stop _ _ _ _ u=>
     refine ⟨1,G+1,j,false,(fun h=>by cases h),fun _=>⟨rfl,rfl,rfl⟩,fun l2 ob0 R C w f q p=>?_⟩
     exact A5 (fun x k=>uP c n t x i _ lv l l2 G ob0 I R f q p k) (SZ c n t i _ lv l l2 G ob0 I j R false f q p r u) (fun h=>by cases h) _ y B
    | next _ _ _ D _ _ u Q=>
     obtain ⟨g,e⟩:=O (i+1) 1 D o_ (.inr rfl) Q
     refine ⟨g,G+1,D,true,fun _=>⟨.inr rfl,?_⟩,(fun h=>by cases h),fun l2 ob0 R C w f q p=>?_⟩
     .rw [if_neg o_];exact e
     .exact A5 (fun x k=>uP c n t x i _ lv l l2 G ob0 I R f q p k) (SZ c n t i _ lv l l2 G ob0 I D R true f q p r u) (fun _ x k=>uP c n t x i _ lv l l2 (G+1) ob0 D R f q p k) _ y B
   .rw [if_neg B] at d
    have d:Ylds Tryz.prog l ((lv.drop (i+1)).flatMap (sL c.ns n)) I j b:=d
    obtain ⟨g,e⟩:=O (i+1) G I o_ r d
    refine ⟨g,G,I,true,fun _=>⟨.inl rfl,?_⟩,(fun h=>by cases h),fun l2 ob0 R C w f q p=>?_⟩
    .rcases r with rfl | rfl
     .exact e
     .exact e
    .exact wI (fun x k=>uP c n t x i _ lv l l2 G ob0 I R f q p k) _ B
  obtain ⟨g,s,z,o,M,F,H⟩:=key
  refine ⟨g,?_⟩
  refine gV ?_
  refine aT fun h=>?_
  refine gV ?_
  refine ⟨i,rfl,?_⟩
  refine gV ?_
  refine ⟨_,get,?_⟩
  refine gV ?_
  refine .pure _ [.cells 3 [ii t]] (SP c t) ?_
  refine gV ?_
  refine To.cutC [1,2,3,5,8,9,10,16] 4 rfl rfl rfl rfl ?_
  refine To.range [3] rfl rfl (fun _ _=>by rfl) rfl (fun _ _=>rfl) rfl fun l2 ob0 R _ f=>?_
  obtain ⟨Y,V,K⟩:=HR l2 c t _ _ o L (H l2 ob0 R _ _ f rfl rfl)
  refine ⟨qA l t s z (.bun 0 (bV l2 (lH R o))),o,_,[.cells 3 [Y]],V,K,rfl,rfl,?_⟩
  cases o with
  | false=>
   obtain ⟨X,S,U⟩:=F rfl
   subst X S U
   rcases r with rfl | rfl
   .refine gV ?_
    refine ⟨[],[0],⟨rfl,rfl⟩,⟨rfl,rfl⟩⟩
   .refine gV ?_
    refine ⟨[],[0],⟨rfl,rfl⟩,⟨rfl,rfl⟩⟩
  | true=>
   obtain ⟨J,e⟩:=M rfl
   refine gV ?_
   refine aJ ?_
   refine gV ?_
   refine To.part [1,2,3,8,9,10] [0,1] rfl rfl rfl ?_
   rcases r with rfl | rfl<;>rcases J with rfl | rfl<;>exact e
theorem Z4 (c:Con) (a:c.sm) (n:Int) (l:Nat) (I i:BInv) (b:Bool) (k:Ylds Tryz.prog l (aZ c.ns n) I i b):∃ d,aA Tryz.prog 279 [.func (.yield l) [] [],.ptr c.cs,.ptr [ii n]] [.bun 0 I] (.ret (.tup [])) [.bun d i]:=by
 have e:(kR c.ns).length<=1048576:=Co (AL _ _ _) a.ns
 obtain ⟨d,h⟩:=Z5 c a n l (kR c.ns) i b e (kR c.ns).length 0 0 I o_ (.inl rfl) k
 refine ⟨d,?_⟩
 refine cT (E:=E) (fn:=Tryz.f279) (g:=.full 1 _ _) fun _=>?_
 have j:=aJa c a
 exact zW
theorem BE (c:Con) (n:Int):aA Tryz.prog 229 [c.av,ii n] [] (.ret (.func (.func 279) [] [.ptr c.cs,.ptr [ii n]])) []:=by
 exact c_ Tryz.f229 fun _=>zW
theorem J8 {P:Program} {l:Nat} (F:List Int->BInv) (h:∀ (a:List Int) x,a.length<1048576->bM P (.yield l) [ii x] [.bun 0 (F a)] (.ret (.bool true)) [.bun 1 (F (a++[x]))]):∀ (xs a:List Int),a.length+xs.length<=1048576->Ylds P l xs (F a) (F (a++xs)) true
 | [],a,_=>by rw [Bc];exact .nil _
 | x::r,a,hl=>by
  have:=J8 F h r (a++[x]) (by simp at hl⊢;omega)
  rw [Aj] at this
  exact .next x r _ _ _ _ (h a x (by simp at hl;omega)) this
noncomputable abbrev pW:Func:=Tryz.f307
abbrev WJ (c:Con) (n:Int):AVal:=.func (.func 279) [] [.ptr c.cs,.ptr [ii n]]
def aKe (f:AVal):List (Nat×AVal):=[(2,.ref 0 0),(6,f)]
def sW (a:List Int) (g:Nat) (o:AObj):List AObj:=[.cells 53 [.slice 1 (iv a) (.own 1 g)],.tail g 1 3,o]
theorem ZC (f:AVal) (a:List Int) (x:Int) (hl:a.length<1048576) (l:Nat) (R:Loop) (b:R.state= .ready):
  To (El l [] [] []) pW (.keep 3 (.ret (.bool true)) (sW (a++[x]) 1 (.bun 0 (bV l (busy R))))) (.code [.code (rfA pW),.beginR,.code (rfB pW)] (gS (aKe f) 7 (ii x)) (sW a 0 (.bun 0 (bV l R)))):=by
 exact zqha5
theorem ZB (f:AVal) (a:List Int) (x:Int) (hl:a.length<1048576) (l:Nat) (R:Loop) (b:R.state= .ready):
  To (El l [] [] []) pW (.keep 3 (.ret (.bool true)) (sW (a++[x]) 2 (.bun 0 (bV l (busy R))))) (.code [.code (rfA pW),.beginR,.code (rfB pW)] (gS (aKe f) 7 (ii x)) (sW a 1 (.bun 0 (bV l R)))):=by
 exact zqha5
def gOf:List Int->Nat
 | []=>0
 | _::_=>1
theorem aCu (a:List Int) (x:Int):gOf (a++[x])=1:=by cases a<;>rfl
def apJ (f:AVal) (ob0:Hs) (R:Loop) (l:Nat) (a:List Int):BInv:=jD ob0 (aKe f) R (sW a (gOf a) (.bun 0 (bV l R)))
theorem aDM {g e:Code} (f:AVal) (i:∀ og,cvtV 3 [0,1,2] og 5 f=f) (ob0:Hs) (l:Nat) (R:Loop) (d:List Int) (x:Int) (hl:d.length<1048576) (h1:∀ hs∈ob0,hs.length=1) (m:ob0.length=0) (c:RecOK pW 7 g e R) (j:rfA pW=g) (h:rfB pW=e):
  bM Tryz.prog (.yield l) [ii x] [.bun 0 (apJ f ob0 R l d)] (.ret (.bool true)) [.bun 1 (apJ f ob0 R l (d++[x]))]:=by
 subst j h
 unfold apJ
 rw [aCu]
 cases d with
 | nil=>exact gE (E:=Ex [] [] []) (fn:=pW) (k:=2) (n:=3) (p:=7) (gg:=0) (L':=sW ([]++[x]) 1 (.bun 0 (bV l (busy R)))) (b:=true) c.params c.ready c.pend c.assign c.body c.size rfl rfl rfl rfl rfl rfl rfl fun _=>ZC f [] x hl l R c.ready
 | cons a r=>
  have:=gE (E:=Ex [] [] []) (fn:=pW) (ob0:=ob0) (k:=2) (n:=3) (p:=7) (gg:=0) (L:=sW (a::r) 1 (.bun 0 (bV l R))) (L':=sW ((a::r)++[x]) 2 (.bun 0 (bV l (busy R)))) (b:=true) c.params c.ready c.pend c.assign c.body c.size rfl rfl rfl rfl rfl rfl rfl fun _=>ZB f (a::r) x hl l R c.ready
  refine this.bunTo (aDq (n:=3) rfl h1 o_ rfl ?_ rfl)
  show [(2,AVal.ref 0 0),(6,cvtV 3 [0,1,2] _ 5 f)]=_
  rw [i]
  rfl
theorem aKd (c:Con) (i:c.sm) (n:Int) (d:(aZ c.ns n).length<=1048576):aA Tryz.prog 307 [.nilslice,WJ c n] [] (.ret (.slice 1 (iv (aZ c.ns n)) .no)) []:=by
 refine c_ Tryz.f307 fun _=>?_
 refine gV ?_
 refine To.cutC [2,6] 1 rfl rfl rfl rfl ?_
 refine To.mapO (aFm 1) (MP 1) ?_
 refine To.beginC 0 0 3 rfl rfl ?_
 refine To.range [] rfl rfl (fun _ _=>by rfl) rfl (fun _ _=>rfl) rfl fun l ob0 R hst e=>?_
 obtain ⟨h,a⟩:=Z4 c i n l _ _ true (J8 (P:=Tryz.prog) (l:=l) (apJ (WJ c n) ob0 R l) (fun b x hl=>aDM (WJ c n) (fun _=>rfl) ob0 l R b x hl (hst.2 rfl) hst.1 e rfl rfl) (aZ c.ns n) [] (by simpa using d))
 rw [Bm] at a
 refine ⟨_,true,_,[],h,a,rfl,rfl,?_⟩
 exact zW
theorem RT (c:Con) (d:c.sm) (n:Int) (b:(aZ c.ns n).length<=1048576):aA Tryz.prog 284 [WJ c n] [] (.ret (.slice 1 (iv (aZ c.ns n)) .no)) []:=by
 refine c_ Tryz.f284 fun _=>?_
 have a:=aKd c d n b
 exact zW
theorem aFT (ns:List Nod) (n t:Int):(sL ns n t).length<=1:=by unfold sL;split<;>simp
theorem kY (c:Con) (a:c.sm) (n:Int):(aZ c.ns n).length<=1048576:=by
 have h:∀ (l:List Int),(l.flatMap (sL c.ns n)).length<=l.length:=by
  intro l
  induction l with
  | nil=>simp
  | cons x r b=>
   have:=aFT c.ns n x
   simp only [Ia,Ay,Bq]
   omega
 exact Co (h _) (Co (AL _ _ _) a.ns)
theorem OF (c:Con) (a:c.sm) (n:Int):aA Tryz.prog 317 [c.av,ii n] [] (.ret (.slice 1 (iv (aZ c.ns n)) .no)) []:=by
 refine c_ Tryz.f317 fun _=>?_
 have b:=BE c n
 have d:=RT c a n (kY c a n)
 exact zW
def atV (l:List V3) (n:Int):V3:=if decide (n<0)=true then V3.zero else (l[n.toNat]?).getD V3.zero
theorem aG0 (l:List V3) (n:Int) (r:V3) (a:atV l n=r):aA Tryz.prog 230 [.slice 3 (vav l) .no,ii n] [] (.ret r.av) []:=by
 have b:(vav l).length=l.length:=by simp
 unfold atV at a
 by_cases h1:n<0
 .rw [if_pos (decide_eq_true h1)] at a
  subst a
  exact zqha14
 .rw [if_neg (by rw [decide_eq_false h1];decide)] at a
  by_cases c:n.toNat<l.length
  .rw [Ab c] at a
   have a:l[n.toNat]=r:=a
   have get:(vav l)[n.toNat]? =some r.av:=(kL c).trans (by rw [a])
   have d:n=(n.toNat:Int):=o_
   exact zqha14
  .rw [Bh o_] at a
   have a:V3.zero=r:=a
   subst a
   exact zqha14
theorem EB (l:List V3) (n:Int):aA Tryz.prog 230 [.slice 3 (vav l) .no,ii n] [] (.ret (atV l n).av) []:=aG0 l n _ rfl
theorem V5 (a b:V3) (r:Bool) (c:cF a b=r):aA Tryz.prog 152 [a.av,b.av] [] (.ret (.bool r)) []:=by
 unfold cF at c
 refine c_ Tryz.f152 fun _=>?_
 refine gV ?_
 repeat' first
  | (refine gW hE ?_;conv=>whnf)
  | exact c
  | refine aY ?_
  | refine aN ?_
  | refine Aa (fun h=>?_) (fun h=>?_)
  | refine aJ ?_
  | refine Ah _ (Aa rfl ?_)
  | refine Aa d_ ?_
 all_goals (rw [<-c];simp_all)
theorem lC (a b:V3):aA Tryz.prog 152 [a.av,b.av] [] (.ret (.bool (cF a b))) []:=V5 a b _ rfl
theorem KC (a b:V3):aA Tryz.prog 89 [a.av,b.av] [] (.ret (.bool (!cF a b))) []:=by
 refine c_ Tryz.f89 fun _=>?_
 have c:=lC a b
 exact zW
noncomputable abbrev aF8:Func:=Tryz.f163
def smS (l:List V3) (v:V3) (t:Int):V3:=dL v (atV l t)
def iD (ns:List Nod) (n:Int) (l:List V3):V3:=(aZ ns n).foldl (smS l) V3.zero
def aKt (f:AVal):List (Nat×AVal):=[(5,.ref 1 0),(6,.ref 2 0),(7,.ref 3 0),(11,f)]
def TB (c:Con) (l:List V3) (v:V3) (o:AObj):List AObj:=[.cells 26 c.cs,.cells 164 [.slice 3 (vav l) .no],.cells 34 V3.zero.cs,.cells 34 v.cs,o]
theorem aAj (c:Con) (n:Int) (l:List V3) (v:V3) (x:Int) (k:Nat) (R:Loop) (d:R.state= .ready):
  To (El k [] [] []) aF8 (.keep 5 (.ret (.bool true)) (TB c l (smS l v x) (.bun 0 (bV k (busy R))))) (.code [.code (rfA aF8),.beginR,.code (rfB aF8)] (gS (aKt (WJ c n)) 12 (ii x)) (TB c l v (.bun 0 (bV k R)))):=by
 refine gV ?_
 refine To.beginR (k:=4) (gg:=0) rfl rfl d ?_
 have b:=EB l x
 have a:=jH v (atV l x)
 exact zW
theorem Z8 (c:Con) (h:c.sm) (n:Int) (l:List V3):aA Tryz.prog 163 [c.av,ii n,.slice 3 (vav l) .no] [] (.ret (iD c.ns n l).av) []:=by
 refine c_ Tryz.f163 fun _=>?_
 refine gV ?_
 refine .pure _ [] (BE c n) ?_
 refine gV ?_
 refine To.cutC [5,6,7,11] 4 rfl rfl rfl rfl ?_
 refine To.range [] rfl rfl (fun _ _=>by rfl) rfl (fun _ _=>rfl) rfl fun k ob0 R hst a=>?_
 obtain ⟨e,d⟩:=Z4 c h n k _ _ true (A6 (P:=Tryz.prog) (l:=k) (fun v=>jD ob0 (aKt (WJ c n)) R (TB c l v (.bun 0 (bV k R)))) (smS l) (fun v x=>gE (E:=Ex [] [] []) (fn:=aF8) (k:=4) (n:=5) (p:=12) (gg:=0) (L':=TB c l (smS l v x) (.bun 0 (bV k (busy R)))) (b:=true) a.params a.ready a.pend a.assign a.body a.size rfl rfl rfl rfl rfl rfl rfl fun _=>aAj c n l v x k R a.ready) (aZ c.ns n) V3.zero)
 refine ⟨_,true,_,[],e,d,rfl,rfl,?_⟩
 exact zW
def Con.ok (c:Con) (n:Int):Prop:=0<=n/\n.toNat<c.ns.length
theorem IX (ns:List Nod):∀ (m i:Nat) (x:Int),x∈lvF ns m i->(i:Int)<=x/\x<i+m
 | 0,_,_,h=>by simp [lvF] at h
 | m+1,i,x,h=>by
  have a:=IX ns m (i+1) x
  unfold lvF at h
  split at h
  .rcases Au.1 h with rfl | h
   .omega
   .have:=a h;omega
  .have:=a h;omega
theorem iA (c:Con) (n x:Int) (h:x∈aZ c.ns n):c.ok x:=by
 unfold aZ at h
 obtain ⟨t,h1,a⟩:=List.mem_flatMap.1 h
 have:x=t:=by
  unfold sL at a
  split at a
  .simpa using a
  .simp at a
 subst this
 have:=IX c.ns c.ns.length 0 x h1
 exact ⟨by omega,by omega⟩
theorem HQ (c:Con):∀ (f:Nat) (n x:Int),x∈upF c.ns f n->c.ok x
 | 0,_,_,h=>by simp [upF] at h
 | f+1,n,x,h=>by
  have b:=fun p=>HQ c f p x
  unfold upF at h
  split at h
  .rename_i h1
   split at h
   .rename_i a
    split at h
    .simp at h;subst h;exact ⟨of_decide_eq_true h1,a⟩
    .rcases Au.1 h with rfl | h
     .exact ⟨of_decide_eq_true h1,a⟩
     .exact b _ h
   .simp at h
  .simp at h
def bR (ns:List Nod) (n:Int):Nod:=(ns[n.toNat]?).getD ⟨0,0,V3.zero,V3.zero,V3.zero⟩
theorem vI {c:Con} {n:Int} (h:c.ok n):(nav c.ns)[n.toNat]? =some (bR c.ns n).av:=by
 unfold bR
 rw [Ab h.2]
 exact fM h.2
def XK (v:V3):V3:=⟨max v.a 0,max v.b 0,max v.c 0⟩
def vN (ns:List Nod) (a:List V3) (t:Int) (v:V3) (s:Int):V3:=if decide (s=t)=true then v else dL v (XK (uJ (uJ (bR ns s).n (bR ns s).l) (atV a s)))
def vO (ns:List Nod) (a:List V3) (n t:Int):V3:=(aZ ns n).foldl (vN ns a t) V3.zero
noncomputable abbrev aHA:Func:=Tryz.f303
theorem X3 (c:Con) (a:List V3) (t:Int) (bl:List Int) (y:bl.length<=1048576) (p:∀ x∈bl,c.ok x) (R:V3):∀ (m i:Nat) (v:V3),i+m=bl.length->(bl.drop i).foldl (vN c.ns a t) v=R->
  To E aHA (.pure (.ret R.av)) (.head (stk aHA 0) [(1,.slice 3 (vav a) .no),(3,ii t),(4,.ref 0 0),(8,.ref 1 0),(9,.ref 2 0),(18,.slice 1 (iv bl) .no),(19,.int .i64 ((iv bl).length:Nat)),(20,.int .i64 i)] [.cells 26 c.cs,.cells 34 V3.zero.cs,.cells 34 v.cs]):=by
 have g:(iv bl).length=bl.length:=by simp
 intro m
 induction m with
 | zero=>
  intro i v o f
  rw [Ae o_] at f
  subst f
  refine gV ?_
  exact zW
 | succ m q=>
  intro i v o f
  have d:i<bl.length:=o_
  rw [Ac d,Al] at f
  have b:=p _ (Bb d)
  generalize w:bl[i]=s at f b
  have get:(iv bl)[i]? =some (ii s):=(bS d).trans (by rw [w])
  have k:=vI b
  have r:s=(s.toNat:Int):=by have:=b.1;omega
  have next:=q (i+1) _ o_ f
  unfold vN at next
  generalize bR c.ns s=x at k next
  refine gV ?_
  refine aT fun h=>?_
  refine gV ?_
  refine ⟨i,rfl,?_⟩
  refine gV ?_
  refine ⟨_,get,?_⟩
  refine gV ?_
  refine Aa (fun e=>?_) (fun e=>?_)
  .have e:decide (s=t)=true:=e
   rw [if_pos e] at next
   exact zW
  .have e:decide (s=t)=false:=e
   rw [if_neg (by rw [e];decide)] at next
   refine gV ?_
   refine ⟨s.toNat,r,?_⟩
   refine gV ?_
   refine ⟨_,k,?_⟩
   refine gV ?_
   refine .pure _ [] (HK x.n x.l) ?_
   refine gV ?_
   refine .pure _ [] (EB a s) ?_
   refine gV ?_
   refine .pure _ [] (HK (uJ x.n x.l) (atV a s)) ?_
   generalize uJ (uJ x.n x.l) (atV a s)=u at next⊢
   refine gV ?_
   refine gV ?_
   refine aY ?_
   refine gV ?_
   refine ⟨by decide,?_⟩
   refine gV ?_
   refine ⟨by decide,?_⟩
   refine gV ?_
   refine aJ ?_
   refine gV ?_
   refine gV ?_
   refine aY ?_
   refine gV ?_
   refine ⟨by decide,?_⟩
   refine gV ?_
   refine ⟨by decide,?_⟩
   refine gV ?_
   refine aJ ?_
   refine gV ?_
   refine gV ?_
   refine aY ?_
   refine gV ?_
   refine ⟨by decide,?_⟩
   refine gV ?_
   refine ⟨by decide,?_⟩
   refine gV ?_
   refine aJ ?_
   refine gV ?_
   refine gV ?_
   have j:=jH v (XK u)
   exact zW
theorem aFI (c:Con) (d:c.sm) (a:List V3) (n t:Int):aA Tryz.prog 303 [c.av,.slice 3 (vav a) .no,ii n,ii t] [] (.ret (vO c.ns a n t).av) []:=by
 refine c_ Tryz.f303 fun _=>?_
 have e:=OF c d n
 have b:=X3 c a t _ (kY c d n) (fun x h=>iA c n x h) _ (aZ c.ns n).length 0 V3.zero o_ rfl
 exact zW
noncomputable abbrev aLh:Func:=Tryz.f86
def lL (ns:List Nod):List V3:=(Dh ns.length).map fun i:Nat=>(bR ns (i:Int)).n
theorem aBK (c:Con) (f:c.sm) (n:Int) (K:Int) (k:K=((nav c.ns).length:Nat)):∀ (m i:Nat),i+m=c.ns.length->
  To E aLh (.pure (.ret (iD c.ns n (lL c.ns)).av)) (.head (stk aLh 0) [(1,ii n),(2,.ref 0 0),(4,.ref 1 0),(5,.row 2 0),(13,.slice 11 (nav c.ns) .no),(14,.int .i64 K),(15,.int .i64 i)] [.cells 26 c.cs,.cells 34 V3.zero.cs,.row 0 3 34 (vav (jW (fun i:Nat=>(bR c.ns (i:Int)).n) i m))]):=by
 have a:(nav c.ns).length=c.ns.length:=by simp
 have h1:=f.ns
 intro m
 induction m with
 | zero=>
  intro i d
  have e:jW (fun i:Nat=>(bR c.ns (i:Int)).n) i 0=lL c.ns:=by rw [DH];unfold lL;rw [<-d];rfl
  rw [e]
  refine gV ?_
  have b:=Z8 c f n (lL c.ns)
  exact zW
 | succ m g=>
  intro i d
  have hl:(vav (jW (fun i:Nat=>(bR c.ns (i:Int)).n) i (m+1))).length=i+(m+1):=by rw [Ck,DG]
  have hs:=DF (fun i:Nat=>(bR c.ns (i:Int)).n) i m
  have j:(nav c.ns)[i]? =some (bR c.ns (i:Int)).av:=vI (c:=c) (n:=(i:Int)) ⟨by omega,by omega⟩
  have next:=g (i+1) o_
  rw [<-hs] at next
  refine gV ?_
  refine aT fun h=>?_
  refine gV ?_
  refine ⟨i,rfl,?_⟩
  refine gV ?_
  refine ⟨_,j,?_⟩
  exact zqha1
theorem aI2 (c:Con) (b:c.sm) (n:Int):aA Tryz.prog 86 [c.av,ii n] [] (.ret (iD c.ns n (lL c.ns)).av) []:=by
 have h1:=b.ns
 have a:(nav c.ns).length=c.ns.length:=by simp
 refine c_ Tryz.f86 fun _=>?_
 refine gV ?_
 refine ⟨c.ns.length,by rw [a],?_⟩
 refine gV ?_
 refine ⟨⟨rfl,by omega,by simp only [maxLen];omega⟩,?_⟩
 refine gV ?_
 have next:=aBK c b n _ rfl c.ns.length 0 o_
 rw [xM] at next
 exact To.cut [1,2,4,5,13,14,15] 3 rfl rfl rfl rfl next
abbrev aBr (c:Con) (used:List V3) (need:V3):AVal:=.func (.func 301) [] [.ptr c.cs,.ptr [.slice 3 (vav used) .no],.ptr need.cs]
abbrev aDQ (c:Con) (used:List V3) (need:V3) (t:Int):AVal:=.func (.func 302) [] [.ptr c.cs,.ptr [.slice 3 (vav used) .no],.ptr need.cs,.ptr [ii t]]
def XO (c:Con) (a:List V3) (need:V3) (n:Int):Bool:=cF (dL (atV a n) need) (dL (bR c.ns n).n (bR c.ns n).b)
def SC (c:Con) (a:List V3) (need:V3) (t n:Int):Bool:=cF (dL (dL (iD c.ns n a) need) (vO c.ns a n t)) (iD c.ns n (lL c.ns))
theorem IK (c:Con) (a:List V3) (need:V3) (n:Int) (h:c.ok n):aA Tryz.prog 301 [ii n,.ptr c.cs,.ptr [.slice 3 (vav a) .no],.ptr need.cs] [] (.ret (.bool (XO c a need n))) []:=by
 have k:=vI h
 have m:n=(n.toNat:Int):=by have:=h.1;omega
 unfold XO
 generalize bR c.ns n=x at k⊢
 refine c_ Tryz.f301 fun _=>?_
 have i:=EB a n
 have d:=jH (atV a n) need
 have e:=jH x.n x.b
 have hz2:=fun j l=>lC j l
 exact zW
theorem AX (c:Con) (b:c.sm) (a:List V3) (need:V3) (t n:Int):aA Tryz.prog 302 [ii n,.ptr c.cs,.ptr [.slice 3 (vav a) .no],.ptr need.cs,.ptr [ii t]] [] (.ret (.bool (SC c a need t n))) []:=by
 unfold SC
 refine c_ Tryz.f302 fun _=>?_
 have h:=Z8 c b n a
 have d:=jH (iD c.ns n a) need
 have e:=aFI c b a n t
 have j:=jH (dL (iD c.ns n a) need) (vO c.ns a n t)
 have i:=aI2 c b n
 have hz2:=fun k l=>lC k l
 exact zW
noncomputable abbrev aK7:Func:=Tryz.f271
def ruO (c:Con) (a:List V3) (need:V3) (t:Int):List AObj:=[.cells 26 c.cs,.cells 164 [.slice 3 (vav a) .no],.cells 3 [ii t],.cells 34 need.cs,.cells 306 [.nilfunc],.cells 306 [.nilfunc],
 .cells 306 [.func (.func 301) [] [.ref 0 0,.ref 1 0,.ref 3 0]],.cells 306 [.func (.func 302) [] [.ref 0 0,.ref 1 0,.ref 3 0,.ref 2 0]]]
def aIp (c:Con) (a:List V3) (need:V3) (t:Int):List AObj:=[.fcells c.cs,.fcells [.slice 3 (vav a) .no],.fcells [ii t],.fcells need.cs,.cells 306 [.nilfunc],.cells 306 [.nilfunc],
 .fcells [aBr c a need],.fcells [aDQ c a need t]]
theorem aIo (c:Con) (a:List V3) (need:V3) (t:Int):frzs [6,7] (ruO c a need t)=aIp c a need t:=by kernel_rfl
theorem aEG (c:Con) (a:List V3) (need:V3) (t:Int):EV [10,11] (aE (aIp c a need t)) [(8,.ref 4 0),(9,.ref 5 0),(10,.ref 6 0),(11,.ref 7 0)]=[(8,.ref 4 0),(9,.ref 5 0),(10,.ptr [aBr c a need]),(11,.ptr [aDQ c a need t])]:=by kernel_rfl
theorem aEF {g:Goal} {ks:List KI} (c:Con) (a:List V3) (need:V3) (t:Int) (h:To (Er [] [16,17]) aK7 g (.code ks [(8,.ref 4 0),(9,.ref 5 0),(10,.ptr [aBr c a need]),(11,.ptr [aDQ c a need t])] (aIp c a need t))):
  To (Er [] [16,17]) aK7 g (.code ks [(8,.ref 4 0),(9,.ref 5 0),(10,.ref 6 0),(11,.ref 7 0)] (ruO c a need t)):=by
 refine To.frz [10,11] [6,7] ?_
 rw [aIo,aEG]
 exact h
theorem aAw (c:Con) (a:List V3) (need:V3) (t:Int):aA Tryz.prog 271 [c.av,.slice 3 (vav a) .no,ii t,need.av] [] (.ret (.tup [.agg [aBr c a need],.agg [aDQ c a need t]])) []:=by
 refine cT (E:=(Er [] [16,17])) (fn:=Tryz.f271) (g:=.pure _) fun _=>?_
 refine cD (hEr [] [16,17]) 51 ?_;conv=>whnf
 refine To.cutC [8,9,10,11] 8 rfl rfl rfl rfl ?_
 refine aEF c a need t ?_
 exact zW
theorem E5 {P:Program} {l:Nat} {J J1:BInv} {p:Int->Bool} {V:Int->Prop} (a:∀ x,V x->p x=true->bM P (.yield l) [ii x] [.bun 0 J] (.ret (.bool true)) [.bun 1 J]) (h1:∀ x,V x->p x=false->bM P (.yield l) [ii x] [.bun 0 J] (.ret (.bool false)) [.bun 1 J1]):
  ∀ (xs:List Int),(∀ x∈xs,V x)->Ylds P l xs J (if xs.all p=true then J else J1) (xs.all p)
 | [],_=>by simp;exact .nil _
 | x::r,hv=>by
  rw [Ei]
  cases hp:p x with
  | true=>
   rw [Bo]
   exact .next x r _ _ _ _ (a x (hv x s_) hp) (E5 a h1 r fun y b=>hv y (by simp [b]))
  | false=>
   rw [Cj,if_neg d_]
   exact .stop x r _ _ (h1 x (hv x s_) hp)
noncomputable abbrev NQ:Func:=Tryz.f217
def IV (c:Con) (a:List V3) (t:Int) (need:V3) (x:Int):Bool:=if decide (x=t)=true then XO c a need x else SC c a need t x
def zS (c:Con) (a:List V3) (t:Int) (need:V3):Bool:=if aX c.ns t=true then (upL c.ns t).all (IV c a t need) else false
def aFq (f:AVal):List (Nat×AVal):=[(6,.ref 1 0),(8,.ref 3 0),(9,.ref 4 0),(10,.ref 5 0),(26,f)]
def yR (c:Con) (a:List V3) (t:Int) (need:V3) (b:Bool) (o:AObj):List AObj:=[.cells 26 c.cs,.cells 3 [ii t],.cells 34 need.cs,.cells 4 [.bool b],.cells 306 [aBr c a need],.cells 306 [aDQ c a need t],.dead,o]
abbrev aEb (c:Con):AVal:=.func (.func 277) [] [.ref 6 0,.ptr c.cs]
theorem aKL (c:Con) (e:c.sm) (a:List V3) (t:Int) (need:V3) (x:Int) (f:c.ok x) (k:Nat) (R:Loop) (b:R.state= .ready) (hp:IV c a t need x=true):
  To (El k [] [] []) NQ (.keep 8 (.ret (.bool true)) (yR c a t need false (.bun 0 (bV k (busy R))))) (.code [.code (rfA NQ),.beginR,.code (rfB NQ)] (gS (aFq (aEb c)) 27 (ii x)) (yR c a t need false (.bun 0 (bV k R)))):=by
 exact zqha0
theorem aFp (c:Con) (e:c.sm) (a:List V3) (t:Int) (need:V3) (x:Int) (f:c.ok x) (k:Nat) (R:Loop) (b:R.state= .ready) (hp:IV c a t need x=false):
  To (El k [] [] []) NQ (.keep 8 (.ret (.bool false)) (yR c a t need false (.bun 0 (bV k (busy R))))) (.code [.code (rfA NQ),.beginR,.code (rfB NQ)] (gS (aFq (aEb c)) 27 (ii x)) (yR c a t need false (.bun 0 (bV k R)))):=by
 exact zqha0
theorem aFz (c:Con) (q:c.sm) (a:List V3) (t:Int) (need:V3) (r:Bool) (h:zS c a t need=r):aA Tryz.prog 217 [c.av,.slice 3 (vav a) .no,ii t,need.av] [] (.ret (.bool r)) []:=by
 have o:((nav c.ns).length:Int)<=9223372036854775807:=by have:=q.ns;simp only [Ck];omega
 unfold zS at h
 refine c_ Tryz.f217 fun _=>?_
 refine gV ?_
 refine .pure _ [] (kS c t) ?_
 refine gV ?_
 refine Aa (fun h1=>?_) (fun h1=>?_)
 .have h1:aX c.ns t=false:=iH h1
  rw [if_neg (by rw [h1];decide)] at h
  subst h
  exact zW
 .have h1:aX c.ns t=true:=iI h1
  rw [if_pos h1] at h
  refine gV ?_
  refine .pure _ [] (aAw c a need t) ?_
  refine gV ?_
  refine .pure _ [.cells 3 [ii t]] (SP c t) ?_
  refine gV ?_
  refine To.cutC [6,8,9,10,26] 7 rfl rfl rfl rfl ?_
  refine To.range [6] rfl rfl (fun _ _=>by rfl) rfl (fun _ _=>rfl) rfl fun k ob0 R hst d=>?_
  have i:=E5 (P:=Tryz.prog) (l:=k) (p:=IV c a t need) (V:=c.ok) (J:=jD ob0 (aFq (aEb c)) R (yR c a t need false (.bun 0 (bV k R)))) (J1:=jD ob0 (aFq (aEb c)) R (yR c a t need false (.bun 0 (bV k (lH R false)))))
   (fun x j hp=>gE (E:=Ex [] [] []) (fn:=NQ) (k:=7) (n:=8) (p:=27) (gg:=0) (L':=yR c a t need false (.bun 0 (bV k (busy R)))) (b:=true) d.params d.ready d.pend d.assign d.body d.size rfl rfl rfl rfl rfl rfl rfl fun _=>aKL c q a t need x j k R d.ready hp)
   (fun x j hp=>gE (E:=Ex [] [] []) (fn:=NQ) (k:=7) (n:=8) (p:=27) (gg:=0) (L':=yR c a t need false (.bun 0 (bV k (busy R)))) (b:=false) d.params d.ready d.pend d.assign d.body d.size rfl rfl rfl rfl rfl rfl rfl fun _=>aFp c q a t need x j k R d.ready hp) (upL c.ns t) (fun x u=>HQ c _ _ x u)
  rw [h] at i
  obtain ⟨m,s,e⟩:=HR k c t _ _ r o i
  cases r with
  | true=>
   refine ⟨_,true,_,[.cells 3 [m]],s,e,rfl,rfl,?_⟩
   exact zW
  | false=>
   refine ⟨_,false,_,[.cells 3 [m]],s,e,rfl,rfl,?_⟩
   exact zW
theorem aI8 (c:Con) (b:c.sm) (a:List V3) (t:Int) (need:V3):aA Tryz.prog 217 [c.av,.slice 3 (vav a) .no,ii t,need.av] [] (.ret (.bool (zS c a t need))) []:=aFz c b a t need _ rfl
def bE (hs:List Hos) (n:Int):Hos:=(hs[n.toNat]?).getD ⟨0,0,0,V3.zero⟩
theorem rX {c:Con} {i:Nat} (h:i<c.hs.length):(hav c.hs)[i]? =some (bE c.hs (i:Int)).av:=by
 unfold bE
 rw [Cz,Ab h]
 exact oW h
theorem HL (l:List V3) (i:Nat) (v:V3):(vav l).set i v.av=vav (l.set i v):=by simp [vav,Gc]
def oC (need:V3) (xs:List V3) (h:Int):List V3:=if decide (0<=h)=true then (if decide (h<(xs.length:Int))=true then xs.set h.toNat (uJ ((xs[h.toNat]?).getD V3.zero) need) else xs) else xs
theorem oB (need:V3) (xs:List V3) (h:Int):(oC need xs h).length=xs.length:=by unfold oC;split<;>(try split)<;>simp
def sT (xs:List V3) (x:Rn):List V3:=x.hs.foldl (oC x.g.need) xs
theorem rZ (x:Rn):∀ (xs:List V3),(sT xs x).length=xs.length:=by
 unfold sT
 generalize x.hs=l
 induction l with
 | nil=>intro xs;rfl
 | cons h r a=>intro xs;rw [Al,a,oB]
def iK (c:Con) (r:List Rn):List V3:=r.foldl sT ((Dh c.hs.length).map fun i:Nat=>(bE c.hs (i:Int)).c)
noncomputable abbrev yX:Func:=Tryz.f157
abbrev frO (c:Con) (xs:List V3):List AObj:=[.cells 26 c.cs,.row 0 3 34 (vav xs)]
theorem aFY (c:Con) (r:List Rn) (R:List V3) (x:Rn) (j:Nat) (y:x.hs.length<=1048576) (z:c.hs.length<=1048576) (O:List AObj):
  ∀ (m i:Nat) (xs:List V3),xs.length=c.hs.length->i+m=x.hs.length->
   To E yX (.pure (.ret (.slice 3 (vav R) .no))) (.head (stk yX 1) [(5,.row 1 0),(30,.slice 14 (rav r) .no),(31,.int .i64 ((rav r).length:Nat)),(32,.int .i64 ((j:Int)+1))] (frO c ((x.hs.drop i).foldl (oC x.g.need) xs)))->
   j<1048576->
  To E yX (.pure (.ret (.slice 3 (vav R) .no))) (.head (stk yX 2) [(5,.row 1 0),(9,.ref 2 0),(30,.slice 14 (rav r) .no),(31,.int .i64 ((rav r).length:Nat)),(32,.int .i64 j),(37,.slice 1 (iv x.hs) .no),(38,.int .i64 ((iv x.hs).length:Nat)),(39,.int .i64 i)] (frO c xs++[.cells 127 x.cs])):=by
 have k:(iv x.hs).length=x.hs.length:=by simp
 intro m
 induction m with
 | zero=>
  intro i xs n s a e
  rw [Ae o_] at a
  refine gV ?_
  exact zW
 | succ m v=>
  intro i xs n s a e
  have d:i<x.hs.length:=o_
  rw [Ac d,Al] at a
  generalize o:x.hs[i]=u0 at a
  have get:(iv x.hs)[i]? =some (ii u0):=(bS d).trans (by rw [o])
  have p:(vav xs).length=xs.length:=by simp
  have next:=v (i+1) (oC x.g.need xs u0) (by rw [oB];exact n) o_ a e
  unfold oC frO at next
  refine gV ?_
  refine aT fun h=>?_
  refine gV ?_
  refine ⟨i,rfl,?_⟩
  refine gV ?_
  refine ⟨_,get,?_⟩
  by_cases h1:0<=u0
  .rw [if_pos (decide_eq_true h1)] at next
   by_cases f:u0<(xs.length:Int)
   .rw [if_pos (decide_eq_true f)] at next
    have b:u0.toNat<xs.length:=o_
    have w:u0=(u0.toNat:Int):=o_
    rw [Ab b] at next
    have q:(vav xs)[u0.toNat]? =some xs[u0.toNat].av:=kL b
    rw [show ((some xs[u0.toNat]).getD V3.zero)=xs[u0.toNat] from rfl] at next
    generalize xs[u0.toNat]=u at q next
    rw [<-HL] at next
    have l:=HK u x.g.need
    exact zW
   .rw [if_neg (by rw [decide_eq_false f];decide)] at next
    exact zW
  .rw [if_neg (by rw [decide_eq_false h1];decide)] at next
   exact zW
def Sm (l:List Rn):Prop:=l.length<=1048576/\∀ x∈l,x.hs.length<=1048576
theorem Sm.at {l:List Rn} (h:Sm l) {i:Nat} (a:i<l.length):l[i].hs.length<=1048576:=h.2 _ (Bb a)
theorem aCv (c:Con) (n:c.sm) (r:List Rn) (g:Sm r) (R:List V3):∀ (m i:Nat) (xs:List V3),i+m=r.length->xs.length=c.hs.length->(r.drop i).foldl sT xs=R->
  To E yX (.pure (.ret (.slice 3 (vav R) .no))) (.head (stk yX 1) [(5,.row 1 0),(30,.slice 14 (rav r) .no),(31,.int .i64 ((rav r).length:Nat)),(32,.int .i64 i)] (frO c xs)):=by
 have f:(rav r).length=r.length:=by simp
 have hl:=g.1
 intro m
 induction m with
 | zero=>
  intro i xs k d b
  rw [Ae o_] at b
  subst b
  refine gV ?_
  exact zW
 | succ m l=>
  intro i xs k d b
  have a:i<r.length:=o_
  have e:=g.at a
  rw [Ac a,Al] at b
  generalize j:r[i]=x at b e
  have get:(rav r)[i]? =some x.av:=(bN a).trans (by rw [j])
  have next:=l (i+1) (sT xs x) o_ (by rw [rZ];exact d) b
  refine gV ?_
  refine aT fun h=>?_
  refine gV ?_
  refine ⟨i,rfl,?_⟩
  refine gV ?_
  refine ⟨_,get,?_⟩
  refine gV ?_
  exact To.cut [5,9,30,31,32,37,38,39] 3 rfl rfl rfl rfl (aFY c r R x i e n.hs [] x.hs.length 0 xs d o_ next o_)
theorem YD (c:Con) (b:c.sm) (r:List Rn) (e:Sm r):∀ (m i:Nat),i+m=c.hs.length->
  To E yX (.pure (.ret (.slice 3 (vav (iK c r)) .no))) (.head (stk yX 0) [(1,.slice 14 (rav r) .no),(2,.ref 0 0),(5,.row 1 0),(17,.slice 6 (hav c.hs) .no),(18,.int .i64 ((hav c.hs).length:Nat)),(19,.int .i64 i)] (frO c (jW (fun i:Nat=>(bE c.hs (i:Int)).c) i m))):=by
 have a:(hav c.hs).length=c.hs.length:=by simp
 have h1:=b.hs
 intro m
 induction m with
 | zero=>
  intro i d
  rw [DH]
  refine gV ?_
  refine aF fun h=>?_
  refine gV ?_
  refine To.cut [5,30,31,32] 2 rfl rfl rfl rfl ?_
  exact aCv c b r e _ r.length 0 _ o_ q_ (by unfold iK;rw [<-d];rfl)
 | succ m g=>
  intro i d
  have hl:(vav (jW (fun i:Nat=>(bE c.hs (i:Int)).c) i (m+1))).length=i+(m+1):=by rw [Ck,DG]
  have hs:=DF (fun i:Nat=>(bE c.hs (i:Int)).c) i m
  have f:(hav c.hs)[i]? =some (bE c.hs (i:Int)).av:=rX o_
  have next:=g (i+1) o_
  unfold frO at next
  rw [<-hs] at next
  refine gV ?_
  refine aT fun h=>?_
  refine gV ?_
  refine ⟨i,rfl,?_⟩
  refine gV ?_
  refine ⟨_,f,?_⟩
  exact zqha1
theorem aFX (c:Con) (b:c.sm) (r:List Rn) (d:Sm r):aA Tryz.prog 157 [c.av,.slice 14 (rav r) .no] [] (.ret (.slice 3 (vav (iK c r)) .no)) []:=by
 have h1:=b.hs
 have a:(hav c.hs).length=c.hs.length:=by simp
 refine c_ Tryz.f157 fun _=>?_
 refine gV ?_
 refine ⟨c.hs.length,by rw [a],?_⟩
 refine gV ?_
 refine ⟨⟨rfl,by omega,by simp only [maxLen];omega⟩,?_⟩
 refine gV ?_
 have next:=YD c b r d c.hs.length 0 o_
 unfold frO at next
 rw [xM] at next
 exact To.cut [1,2,5,17,18,19] 2 rfl rfl rfl rfl next
theorem aH7 {a b:Int} (c:0<=a) (e:0<b) (d:a<=9223372036854775807):inR .i64 (Hd a b):=by
 have h3:(Hd a b).natAbs<=a.natAbs:=by
  rw [Int.natAbs_tdiv]
  exact Di _ _
 have f:0<=Hd a b:=Int.tdiv_nonneg c o_
 exact ⟨by simp only [bO];omega,by simp only [bA];omega⟩
def yK (n free need:Int):Int:=if decide (0<need)=true then min n (Hd free need) else n
def dV (free need:V3):Int:=if cF need free=true then yK (yK (yK 16 free.a need.a) free.b need.b) free.c need.c else 0
theorem aLM (v:V3) (M:Imm) (ob:Hs) (vs:List Value) (d:List AVal) (h:cA M ob vs (v.av::d)):inR .i64 v.a/\inR .i64 v.b/\inR .i64 v.c:=by
 have hl:0<vs.length:=by rw [h.1];simp
 have:=h.2 0 _ v.av (Ab hl) rfl
 exact ⟨bY this 0 _ rfl,bY this 1 _ rfl,bY this 2 _ rfl⟩
theorem aAI (free need:V3) (r:Int) (d:dV free need=r):aA Tryz.prog 220 [free.av,need.av] [] (.ret (ii r)) []:=by
 refine aA.get _ (fun M ob vs h=>aLM free M ob vs _ h) fun ⟨⟨a1,a2⟩,⟨b1,b2⟩,⟨c1,c2⟩⟩=>?_
 simp only [bO,bA] at a1 a2 b1 b2 c1 c2
 unfold dV at d
 refine c_ Tryz.f220 fun _=>?_
 refine gV ?_
 refine .pure _ [] (KC need free) ?_
 refine gV ?_
 refine Aa (fun h1=>?_) (fun h1=>?_)
 .have h1:cF need free=false:=iH h1
  rw [if_neg (by rw [h1];decide)] at d
  subst d
  exact zW
 .have h1:cF need free=true:=iI h1
  rw [if_pos h1] at d
  unfold yK at d
  have n:need.a<=free.a/\need.b<=free.b/\need.c<=free.c:=by
   unfold cF at h1
   split at h1
   .cases h1
   .split at h1
    .cases h1
    .split at h1
     .cases h1
     .rename_i j k e
      simp only [decide_eq_true_eq] at j k e
      omega
  by_cases m:0<need.a<;>by_cases i:0<need.b<;>by_cases l:0<need.c<;>simp only [m,i,l,decide_true,decide_false,if_true,if_false,Ct] at d
  all_goals (refine gV ?_)
  all_goals repeat' first
   | (refine gW hE ?_;conv=>whnf)
   | exact d▸rfl
   | refine aY ?_
   | refine aN ?_
   | refine aT fun h=>?_
   | refine aF fun h=>?_
   | refine aJ ?_
   | refine Fo (Aa (aH7 o_ o_ o_) ?_)
   | refine Ah _ (Aa rfl ?_)
   | refine Aa d_ ?_
   | refine Aa o_ ?_
   | fail
theorem aEO (free need:V3):aA Tryz.prog 220 [free.av,need.av] [] (.ret (ii (dV free need))) []:=aAI free need _ rfl
def ofK (h:Hos) (i lv:Int):List Int:=[h.f,if decide (2<lv)=true then 0 else h.b,if decide (1<lv)=true then 0 else h.r,if decide (0<lv)=true then 0 else i]
theorem aFe (h:Hos) (i lv:Int) (K:List AVal) (a:(ofK h i lv).map ii=K):aA Tryz.prog 275 [h.av,ii i,ii lv] [] (.ret (.agg K)) []:=by
 unfold ofK at a
 refine c_ Tryz.f275 fun _=>?_
 repeat' first | (refine gN hE ?_;conv=>whnf) | exact rfl | refine aY ?_ | refine aN ?_ | refine aT fun h=>?_ | refine aF fun h=>?_ | refine ⟨fun h=>?_,fun h=>?_⟩ | refine aJ ?_ | refine ⟨_,rfl,?_⟩ | refine aD ?_ | fail
 all_goals first
  | (subst a;simp only [*,Ct,if_true,if_false,List.map];done)
  | (exfalso;simp only [decide_eq_true_eq,decide_eq_false_iff_not] at *;omega)
theorem aI0 (h:Hos) (i lv:Int):aA Tryz.prog 275 [h.av,ii i,ii lv] [] (.ret (.agg ((ofK h i lv).map ii))) []:=aFe h i lv _ rfl
theorem aHU {n:Nat} (h:n<=16):n=0\/n=1\/n=2\/n=3\/n=4\/n=5\/n=6\/n=7\/n=8\/n=9\/n=10\/n=11\/n=12\/n=13\/n=14\/n=15\/n=16:=o_
theorem aBT (n:Nat) (a:n<=16):aA Tryz.prog 238 [.int .u64 1,.int .u64 (n:Int)] [] (.ret (.tup [.int .u64 0,.int .u64 (n:Int)])) []:=by
 rcases aHU a with rfl | rfl | rfl | rfl | rfl | rfl | rfl | rfl | rfl | rfl | rfl | rfl | rfl | rfl | rfl | rfl | rfl
 all_goals
  refine c_ Tryz.f238 fun _=>?_
  repeat' first
   | (refine gN hE ?_;conv=>whnf)
   | exact rfl
   | refine Fo (Aa (Aa d_ d_) ?_)
   | refine Aa d_ ?_
   | fail
theorem aI4 (n:Nat) (b:n<=16):aA Tryz.prog 318 [.int .u64 1,.int .u64 (n:Int)] [] (.ret (.tup [.int .u64 0,.int .u64 (n:Int)])) []:=by
 refine c_ Tryz.f318 fun _=>?_
 have a:=aBT n b
 exact zW
def rp (h:Int) (k m:Nat):List AVal:=iv (Ai k h)++Ai m (ii 0)
theorem BS (h:Int) (k m:Nat):(rp h k m).length=k+m:=by simp [rp]
noncomputable abbrev aLb:Func:=Tryz.f304
theorem aEJ (h:Int) (k m:Nat):((k:Int)+ ↑(min (Et k (Fp 0 (rp h k m))).length ((rp h k m).length-k)))=((k+min k m:Nat):Int)/\
  (rp h k m).take k++(Et k (Fp 0 (rp h k m))).take ((rp h k m).length-k)++(rp h k m).drop (k+min (Et k (Fp 0 (rp h k m))).length ((rp h k m).length-k))=rp h (k+min k m) (m-min k m):=by
 have a:(iv (Ai k h)).length=k:=by simp
 have h1:(rp h k m).take k=iv (Ai k h):=by unfold rp;rw [Db o_,Cb o_]
 have hl:=BS h k m
 rw [Bn,h1,hl,a,show k+m-k=m from by omega]
 refine ⟨by omega,?_⟩
 have b:(rp h k m).drop (k+min k m)=Ai (m-min k m) (ii 0):=by
  unfold rp
  rw [List.drop_append,a,List.drop_of_length_le o_,Bm,List.drop_replicate]
  congr 1
  omega
 rw [b]
 unfold rp
 congr 1
 simp only [iv,List.map_replicate,List.take_replicate,List.replicate_append_replicate]
 congr 1
 omega
theorem aA5 (a:Int) (N:Nat) (l:N<=16):∀ (f k m:Nat),k+m=N->1<=k->m<=f->
  To (Er [] [38]) aLb (.pure (.ret (.slice 1 (iv (Ai N a)) .no))) (.head (stk aLb 0) [(7,.row 0 0),(8,.int .i64 (k:Int))] [.row 0 1 3 (rp a k m)]):=by
 intro f
 induction f with
 | zero=>
  intro k m b h1 hm
  have hm:m=0:=o_
  subst hm
  exact zqha6
 | succ f i=>
  intro k m b h1 hm
  by_cases d:m=0
  .subst d
   exact zqha6
  have hl:=BS a k m
  have next:=i (k+min k m) (m-min k m) o_ o_ o_
  generalize c:rp a k m=X at hl⊢
  refine gV ?_
  refine aT fun h=>?_
  refine gV ?_
  refine ⟨k,rfl,?_⟩
  refine gV ?_
  refine ⟨by omega,?_⟩
  refine gV ?_
  refine ⟨k,rfl,?_⟩
  refine gV ?_
  refine ⟨by omega,?_⟩
  refine gV ?_
  rw [<-c] at hl⊢
  obtain ⟨j,g⟩:=aEJ a k m
  rw [<-j,<-g] at next
  have n:min (Et k (Fp 0 (rp a k m))).length ((rp a k m).length-k)<=16:=by
   have:(rp a k m).length=k+m:=BS a k m
   omega
  exact zW
theorem aAG (h:Int) (m:Nat):((1:Nat):Int)= ↑(min [ii h].length (Ai (m+1) (AVal.int .i64 0)).length)/\rp h 1 m=[ii h].take (Ai (m+1) (AVal.int .i64 0)).length++(Ai (m+1) (AVal.int .i64 0)).drop [ii h].length:=by
 refine ⟨by simp,?_⟩
 simp [rp,List.drop_replicate]
theorem aIE (h:Int) (n:Nat) (a:n<=16):aA Tryz.prog 304 [.slice 1 [ii h] .no,ii (n:Int)] [] (.ret (.slice 1 (iv (Ai n h)) .no)) []:=by
 have hm:=aI4 n a
 cases n with
 | zero=>
  refine cT (E:=(Er [] [38])) (fn:=Tryz.f304) (g:=.pure _) fun _=>?_
  refine gV ?_
  refine aF fun h=>?_
  refine gV ?_
  refine Fo (Aa (Aa (by simp only [bO,Bq,Fv];omega) (by simp only [bA,Bq,Fv];omega)) ?_)
  refine gV ?_
  refine Fo (Aa (Aa (by simp only [bO];omega) (by simp only [bA];omega)) ?_)
  refine gV ?_
  refine .pure _ [] hm ?_
  refine gV ?_
  refine aF fun h=>?_
  refine gV ?_
  refine aF fun h=>?_
  refine gV ?_
  refine Fo (Aa (Aa (by simp only [bO];omega) (by simp only [bA];omega)) ?_)
  refine gV ?_
  refine ⟨0,rfl,?_⟩
  refine gV ?_
  refine ⟨⟨rfl,by omega,by simp only [maxLen];omega⟩,?_⟩
  refine gV ?_
  refine gV ?_
  exact zW
 | succ m=>
  have next:=aA5 h (m+1) a (m+1) 1 m o_ o_ o_
  obtain ⟨c,b⟩:=aAG h m
  rw [c,b] at next
  refine cT (E:=(Er [] [38])) (fn:=Tryz.f304) (g:=.pure _) fun _=>?_
  refine gV ?_
  refine aF fun h=>?_
  refine gV ?_
  refine Fo (Aa (Aa (by simp only [bO,Bq,Fv];omega) (by simp only [bA,Bq,Fv];omega)) ?_)
  refine gV ?_
  refine Fo (Aa (Aa (by simp only [bO];omega) (by simp only [bA];omega)) ?_)
  refine gV ?_
  refine .pure _ [] hm ?_
  refine gV ?_
  refine aF fun h=>?_
  refine gV ?_
  refine aF fun h=>?_
  refine gV ?_
  refine Fo (Aa (Aa (by simp only [bO];omega) (by simp only [bA];omega)) ?_)
  refine gV ?_
  refine ⟨m+1,rfl,?_⟩
  refine gV ?_
  refine ⟨⟨rfl,by omega,by simp only [maxLen];omega⟩,?_⟩
  exact zW
theorem BU (a b:V3):dV a b<=16:=by
 have h:∀ n f k,n<=16->yK n f k<=16:=fun n f k h=>by unfold yK;split<;>omega
 unfold dV
 split
 .exact h _ _ _ (h _ _ _ (h _ _ _ d_))
 .decide
def inN (free need:V3) (pods len:Int):Int:=min (dV free need) (pods-len)
def inS (free:List V3) (g:Gan) (out:List Int) (h:Int):List Int:=if decide (h<0)=true then out else if decide ((free.length:Int)<=h)=true then out else out++Ai (max (inN ((free[h.toNat]?).getD V3.zero) g.need g.pods out.length) 0).toNat h
def inL (free:List V3) (g:Gan) (a:List Int):List Int:=a.foldl (inS free g) []
theorem AN (free:List V3) (g:Gan) (out:List Int) (h:Int) (hp:(out.length:Int)<=g.pods):((inS free g out h).length:Int)<=g.pods:=by
 unfold inS
 split
 .exact hp
 .split
  .exact hp
  .simp only [Ay,Fy,inN]
   omega
noncomputable abbrev fIn:Func:=Tryz.f272
def C0 (out:List Int) (g:Gan):AVal:=if decide ((out.length:Int)<g.pods)=true then .tup [.slice 1 [] .no,.bool false] else .tup [.slice 1 (iv out) .no,.bool true]
theorem I3 (c:Con) (free:List V3) (g:Gan) (w:0<=g.pods/\g.pods<=16) (a:List Int) (hl:a.length<=1048576) (R:List Int):∀ (m i:Nat) (out:List Int),i+m=a.length->(out.length:Int)<=g.pods->(a.drop i).foldl (inS free g) out=R->
  To (Eo [10] []) fIn (.pure (.ret (C0 R g))) (.head (stk fIn 0) [(1,.slice 3 (vav free) .no),(7,.ref 1 0),(10,.slice 1 (iv out) (.own 2 0)),(14,.slice 1 (iv a) .no),(15,.int .i64 ((iv a).length:Nat)),(16,.int .i64 i)] [.cells 26 c.cs,.cells 36 g.cs,.tail 0 1 3]):=by
 have r:(iv a).length=a.length:=by simp
 have x:(vav free).length=free.length:=by simp
 intro m
 induction m with
 | zero=>
  intro i out A hp d
  rw [Ae o_] at d
  have d:out=R:=d
  subst d
  have o:(iv out).length=out.length:=by simp
  obtain ⟨Q,j⟩:∃ Q,Q=C0 out g:=⟨_,rfl⟩
  rw [<-j]
  unfold C0 at j
  by_cases h1:(out.length:Int)<g.pods
  .rw [if_pos (decide_eq_true h1)] at j
   subst j
   refine gV ?_
   exact zW
  .rw [if_neg (by rw [decide_eq_false h1];decide)] at j
   subst j
   refine gV ?_
   exact zW
 | succ m B=>
  intro i out A hp d
  have n:i<a.length:=o_
  rw [Ac n,Al] at d
  have k:=AN free g out a[i] hp
  generalize D:a[i]=u0 at d k
  have get:(iv a)[i]? =some (ii u0):=(bS n).trans (by rw [D])
  have o:(iv out).length=out.length:=by simp
  have next:=B (i+1) (inS free g out u0) o_ k d
  unfold inS at next
  refine gV ?_
  refine aT fun h=>?_
  refine gV ?_
  refine ⟨i,rfl,?_⟩
  refine gV ?_
  refine ⟨_,get,?_⟩
  by_cases h1:u0<0
  .rw [if_pos (decide_eq_true h1)] at next
   exact zW
  .rw [if_neg (by rw [decide_eq_false h1];decide)] at next
   by_cases q:(free.length:Int)<=u0
   .rw [if_pos (decide_eq_true q)] at next
    exact zW
   .rw [if_neg (by rw [decide_eq_false q];decide)] at next
    have l:u0.toNat<free.length:=o_
    have C:u0=(u0.toNat:Int):=o_
    rw [Ab l] at next
    have u:(vav free)[u0.toNat]? =some free[u0.toNat].av:=kL l
    rw [show ((some free[u0.toNat]).getD V3.zero)=free[u0.toNat] from rfl] at next
    generalize free[u0.toNat]=f0 at u next
    have v:=BU f0 g.need
    have f:(max (inN f0 g.need g.pods out.length) 0).toNat<=16:=by unfold inN;omega
    have p:max (min (dV f0 g.need) (g.pods-((iv out).length:Nat))) 0=(((max (inN f0 g.need g.pods out.length) 0).toNat:Nat):Int):=by unfold inN;rw [o];omega
    have b:=aIE u0 _ f
    rw [<-p] at b
    generalize F:(max (inN f0 g.need g.pods out.length) 0).toNat=N at f b next
    have e:iv (out++Ai N u0)=iv out++iv (Ai N u0):=by simp
    rw [e] at next
    have y:(iv (Ai N u0)).length=N:=by simp
    have z:=w.1
    have s:=w.2
    repeat' first | (refine gN (hEo [10] []) ?_;conv=>whnf) | refine ⟨u0.toNat,C,?_⟩ | refine ⟨_,u,?_⟩ | refine .pure _ [] (aEO f0 g.need) ?_ | refine .pure _ [] (aA.strip b) ?_ | refine Aa (Aa (by simp only [maxLen];omega) o_) ?_ | exact rfl | refine aY ?_ | refine aN ?_ | refine aT fun h=>?_ | refine aF fun h=>?_ | refine ⟨fun h=>?_,fun h=>?_⟩ | refine aJ ?_ | refine ⟨_,rfl,?_⟩ | refine aD ?_ | fail
    exact zW
theorem yT (c:Con) (free:List V3) (g:Gan) (b:0<=g.pods/\g.pods<=16) (a:List Int) (hl:a.length<=1048576):aA Tryz.prog 272 [c.av,.slice 3 (vav free) .no,.slice 1 (iv a) .no,g.av] [] (.ret (C0 (inL free g a) g)) []:=by
 refine cT (E:=(Eo [10] [])) (fn:=Tryz.f272) (g:=.pure _) fun _=>?_
 have d:=I3 c free g b a hl _ a.length 0 [] o_ (by simpa using b.1) rfl
 exact zW
noncomputable abbrev sA:Func:=Tryz.f222
abbrev GSt:=List (List Int×Nat)×List (List Int)
def lN:List (List Int×Nat)->List Int->Option Nat
 | [],_=>none
 | (k,v)::r,x=>if k=x then some v else lN r x
abbrev kav (es:List (List Int×Nat)):List (List Int×AVal):=es.map fun p=>(p.1,ii p.2)
theorem CV (x:List Int):∀ es,dQ (kav es) x=(lN es x).map fun n:Nat=>ii n
 | []=>rfl
 | (k,v)::r=>by
  show (if k=x then some (ii v) else dQ (kav r) x)=(if k=x then some v else lN r x).map _
  split
  .rfl
  .exact CV x r
theorem UC (x:List Int) (v:Nat):∀ es,lN es x=none->zR (kav es) x (ii v)=kav (es++[(x,v)])
 | [],_=>rfl
 | (k,u)::r,h=>by
  have h:(if k=x then some u else lN r x)=none:=h
  show (if k=x then (x,ii v)::kav r else (k,ii u)::zR (kav r) x (ii v))=(k,ii u)::kav (r++[(x,v)])
  split at h
  .cases h
  .rename_i a
   rw [if_neg a,UC x v r h]
def gpS (c:Con) (lv:Int) (s:GSt) (i:Nat):GSt:=
 match lN s.1 (ofK (bE c.hs (i:Int)) i lv) with
 | some k=>(s.1,s.2.set k ((s.2[k]?).getD []++[(i:Int)]))
 | none=>(s.1++[(ofK (bE c.hs (i:Int)) i lv,s.2.length)],s.2++[[(i:Int)]])
def gpL (c:Con) (lv:Int):List (List Int):=if decide (lv<0)=true then [] else if decide (3<lv)=true then [] else ((Dh c.hs.length).foldl (gpS c lv) ([],[])).2
abbrev gav (l:List (List Int)):List AVal:=l.map fun xs=>.slice 1 (iv xs) .no
abbrev NG (c:Con) (gr gb:Nat) (es:List (List Int×Nat)) (ms:List Hm):List AObj:=[.cells 26 c.cs,.row gr 1 53 (ms.map hmA),.mp true (kav es),.bun gb (mE 1 3 ms)]
abbrev aKW (c:Con) (lv:Int) (gr i:Nat):List (Nat×AVal):=[(1,ii lv),(5,.row 1 gr),(6,.mref 2),(20,.slice 6 (hav c.hs) .no),(21,.int .i64 ((hav c.hs).length:Nat)),(22,ii i)]
theorem aCn (c:Con) (lv:Int) (G:Goal) (i k:Nat) (l:i<1048576) (b:List Hm) (m:Hm) (hm:b[k]? =some m) (g:m.2.2.length<=1048576) (h:b.length<=1048576) (es:List (List Int×Nat)) (j:Fq G.n0 4=true)
  (next:∀ a e,To (Er [5] []) sA G (.code (gY sA 14) (aKW c lv 0 i) (NG c 0 1 es (b.set k (a,e,m.2.2++[ii i]))))):
  To (Er [5] []) sA G (.code (gQ sA 14) [(1,ii lv),(5,.row 1 0),(6,.mref 2),(7,ii i),(10,ii k),(20,.slice 6 (hav c.hs) .no),(21,.int .i64 ((hav c.hs).length:Nat)),(22,ii i)] (NG c 0 0 es b)):=by
 refine To.handAt (hEr [5] []) 8 [] rfl rfl rfl ?_;conv=>whnf
 refine ⟨k,rfl,?_⟩;conv=>whnf
 have f:(b.map hmA)[k]? =some (hmA m):=by rw [Bj,hm];rfl
 refine ⟨by have:=(Ad.1 hm).1;simpa using this,?_⟩;conv=>whnf
 refine ⟨_,f,?_⟩;conv=>whnf
 refine .mk 3 0 k b m [ii i] 3 1 8 1 false (.slice 1 [] .nil) rfl hm rfl rfl rfl rfl ⟨by show _+1<=_;simp only [maxLen];omega,by show (_+1)*8<=_;omega⟩ fun a e=>?_
 have d:k<(b.map hmA).length:=by have:=(Ad.1 hm).1;simpa using this
 have next:=next a e
 unfold NG at next
 rw [Gc] at next
 refine gV ?_
 refine ⟨k,rfl,?_⟩
 refine gV ?_
 refine ⟨d,?_⟩
 refine gV ?_
 refine ⟨d,?_⟩
 refine cD (hEr [5] []) 3 ?_;conv=>whnf
 refine To.cutC (fr:=[(1,_),(5,_),(6,_),(7,_),(10,_),(20,_),(21,_),(22,_),(47,_),(48,_),(49,_),(50,_),(51,_),(52,_),(53,_),(54,_),(55,_),(56,_)]) (obs:=[_,_,_,_]) [1,5,6,20,21,22] 4 j rfl rfl rfl ?_
 exact next
theorem F3 (x:List Int) (v:Nat) (y:List Int):∀ es,lN (es++[(x,v)]) y=match lN es y with | some k=>some k | none=>if x=y then some v else none
 | []=>rfl
 | (k,u)::r=>by
  show (if k=y then some u else lN (r++[(x,v)]) y)=match (if k=y then some u else lN r y) with | some k=>some k | none=>if x=y then some v else none
  split
  .rfl
  .exact F3 x v y r
structure GI (i:Nat) (s:GSt):Prop where
 key:∀ p∈s.1,p.1.length=4
 at':∀ x k,lN s.1 x=some k->k<s.2.length
 len:s.2.length<=i
 each:∀ xs∈s.2,xs.length<=i
theorem GI.step {c:Con} {lv:Int} {i:Nat} {s:GSt} (h:GI i s):GI (i+1) (gpS c lv s i):=by
 obtain ⟨h1,e,h3,d⟩:=h
 unfold gpS
 split
 .rename_i k f
  refine ⟨h1,fun x k h=>by simpa using e x k h,by simp;omega,fun xs a=>?_⟩
  rcases Df a with a | rfl
  .have:=d xs a;omega
  .have hl:=e _ k f
   rw [Ab hl]
   have:=d _ (Bb hl)
   simp
   omega
 .rename_i f
  refine ⟨fun p hp=>?_,fun x k a=>?_,by simp;omega,fun xs a=>?_⟩
  .rcases Az.1 hp with hp | hp
   .exact h1 p hp
   .simp at hp;subst hp;rfl
  .rw [F3] at a
   split at a
   .rename_i g b
    have:=e x g b
    cases a
    simp;omega
   .split at a
    .cases a;simp
    .cases a
  .rcases Az.1 a with a | a
   .have:=d xs a;omega
   .simp at a;subst a;simp
theorem aFV (c:Con) (K:c.sm) (lv:Int) (P:0<=lv) (O:lv<=3) (R:List (List Int)):∀ (n i:Nat) (s:GSt) (b:List Hm),i+n=c.hs.length->b.map (fun m=>m.2.2)=s.2.map iv->GI i s->((Le i n).foldl (gpS c lv) s).2=R->
  To (Er [5] []) sA (.pure (.ret (.slice 1 (gav R) .no))) (.head (stk sA 0) (aKW c lv 0 i) (NG c 0 0 s.1 b)):=by
 have h1:=K.hs
 have F:(hav c.hs).length=c.hs.length:=by simp
 intro n
 induction n with
 | zero=>
  intro i s b H d o v
  have v:s.2=R:=v
  subst v
  refine To.ofC (To.famFrz 3 1 rfl rfl ?_)
  have e:(b.map fun m=>AVal.slice 1 m.2.2 .no)=gav s.2:=by
   have:=congrArg (List.map fun xs=>AVal.slice 1 xs .no) d
   rw [Gq,Gq] at this
   exact this
  rw [e]
  refine To.toC ?_
  refine gV ?_
  exact zW
 | succ n I=>
  intro i s b H d o v
  rw [Ju,Al] at v
  have L:(hav c.hs)[i]? =some (bE c.hs (i:Int)).av:=rX o_
  have next:=fun B h=>I (i+1) (gpS c lv s i) B o_ h o.step v
  have l:∀ p∈kav s.1,p.1.length=4:=fun p hp=>by
   obtain ⟨q,G,rfl⟩:=Ce.1 hp
   exact o.key q G
  refine gV ?_
  refine aT fun h=>?_
  refine gV ?_
  refine ⟨i,rfl,?_⟩
  refine gV ?_
  refine ⟨_,L,?_⟩
  refine gV ?_
  refine .pure _ [] (aI0 (bE c.hs (i:Int)) i lv) ?_
  refine gV ?_
  refine ⟨l,?_⟩
  refine gV ?_
  cases y:lN s.1 (ofK (bE c.hs (i:Int)) i lv) with
  | none=>
   have C:dQ (kav s.1) (ofK (bE c.hs (i:Int)) i lv)=none:=by rw [CV,y];rfl
   refine ⟨_,C,?_⟩
   refine gV ?_
   refine aY ?_
   refine gV ?_
   refine ⟨l,?_⟩
   refine gV ?_
   have g:b.length=s.2.length:=by have:=congrArg Mh d;simpa using this
   have z:=o.len
   have f:(b.map hmA).length=b.length:=by simp
   refine ⟨⟨by show (b.map hmA).length+1<=_;simp only [maxLen];omega,by show ((b.map hmA).length+1)*24<=_;omega⟩,?_⟩
   refine cD (hEr [5] []) 6 ?_;conv=>whnf
   have N:(b.map hmA).length=s.2.length:=f.trans g
   have e:=UC (ofK (bE c.hs (i:Int)) i lv) (b.map hmA).length s.1 y
   have D:gpS c lv s i=(s.1++[(ofK (bE c.hs (i:Int)) i lv,(b.map hmA).length)],s.2++[[(i:Int)]]):=by
    unfold gpS
    rw [y,N]
   rw [D] at next
   have hm:(b++[((none,0,[]):Hm)])[(b.map hmA).length]? =some (none,0,[]):=by rw [f,Ak (Ba _)];simp
   have r:=aCn c lv (.pure (.ret (.slice 1 (gav R) .no))) i (b.map hmA).length o_ (b++[(none,0,[])]) _ hm s_ q_ (s.1++[(ofK (bE c.hs (i:Int)) i lv,(b.map hmA).length)]) rfl fun a A=>by
    have next:=next ((b++[(none,0,[])]).set (b.map hmA).length (a,A,[]++[ii i])) (by rw [f,Hw _ _ (Ba _)];simp [d])
    exact zW
   unfold NG at r
   rw [<-e] at r
   refine To.cutC [1,5,6,7,10,20,21,22] 4 rfl rfl rfl rfl ?_
   refine To.objTo 1 (x:=.row 1 1 53 (b.map hmA++[.nilslice])) (x':=.row 1 1 53 ((b++[(none,0,[])]).map hmA)) rfl (fun h=>by cases h) rfl (fun M ob w hs _ h=>aEL h) ?_
   refine To.objTo 3 (x:=.bun 0 (mE 1 3 b)) (x':=.bun 0 (mE 1 3 (b++[(none,0,[])]))) rfl (fun h=>by cases h) rfl (fun M ob w hs _ h=>aF5 h) ?_
   refine To.toC ?_
   refine To.part [1,5,6,7,10,20,21,22] [0,1,2,3] rfl rfl rfl ?_
   refine To.ofC ?_
   exact r
  | some k=>
   have C:dQ (kav s.1) (ofK (bE c.hs (i:Int)) i lv)=some (ii k):=by rw [CV,y];rfl
   refine ⟨_,C,?_⟩
   refine gV ?_
   refine aN ?_
   refine cD (hEr [5] []) 1 ?_;conv=>whnf
   have u:=o.at' _ k y
   have f:(b.map (fun m=>m.2.2))[k]? =some (iv s.2[k]):=by rw [d,Bj,Ab u];rfl
   rw [Bj] at f
   obtain ⟨m,hm,j⟩:=Cp.1 f
   have j:m.2.2=iv s.2[k]:=j
   have g:b.length=s.2.length:=by have:=congrArg Mh d;simpa using this
   have J:=o.each _ (Bb u)
   have z:=o.len
   have D:gpS c lv s i=(s.1,s.2.set k (s.2[k]++[(i:Int)])):=by
    unfold gpS
    rw [y]
    show (s.1,s.2.set k ((s.2[k]?).getD []++[(i:Int)]))=_
    rw [Ab u]
    rfl
   rw [D] at next
   refine To.cutC [1,5,6,7,10,20,21,22] 4 rfl rfl rfl rfl ?_
   refine aCn c lv _ i k o_ b m hm (by rw [j];simp;omega) o_ s.1 rfl fun a A=>?_
   have next:=next (b.set k (a,A,m.2.2++[ii i])) (by rw [Gc,Gc,d,j];simp)
   exact zW
theorem YB (c:Con) (e:c.sm) (lv:Int):aA Tryz.prog 222 [c.av,ii lv] [] (.ret (.slice 1 (gav (gpL c lv)) .no)) []:=by
 have h1:=e.hs
 have d:(hav c.hs).length=c.hs.length:=by simp
 obtain ⟨R,a⟩:∃ R,R=gpL c lv:=⟨_,rfl⟩
 rw [<-a]
 unfold gpL at a
 refine cT (E:=(Er [5] [])) (fn:=Tryz.f222) (g:=.pure _) fun _=>?_
 by_cases i:lv<0
 .rw [if_pos (decide_eq_true i)] at a
  subst a
  exact zW
 rw [if_neg (by rw [decide_eq_false i];decide)] at a
 by_cases b:3<lv
 .rw [if_pos (decide_eq_true b)] at a
  subst a
  exact zW
 rw [if_neg (by rw [decide_eq_false b];decide),Ic] at a
 repeat' first | (refine gN (hEr [5] []) ?_;conv=>whnf) | exact rfl | refine aY ?_ | refine aN ?_ | refine aT fun h=>?_ | refine aF fun h=>?_ | refine ⟨fun h=>?_,fun h=>?_⟩ | refine aJ ?_ | refine ⟨_,rfl,?_⟩ | refine aD ?_ | fail
 refine To.ofC (To.beginF 1 3 ?_)
 refine To.toC ?_
 have:=aFV c e lv o_ o_ R c.hs.length 0 ([],[]) [] o_ rfl ⟨fun p h=>(by simp at h),fun x k h=>(by cases h),Ba _,fun xs h=>by simp at h⟩ a.symm
 exact zW
structure GO (n i:Nat) (s:GSt):Prop where
 base:GI i s
 ok:∀ xs∈s.2,xs≠[]/\∀ h∈xs,0<=h/\h<(n:Int)
theorem GO.step {c:Con} {lv:Int} {n i:Nat} {s:GSt} (g:i<n) (h:GO n i s):GO n (i+1) (gpS c lv s i):=by
 refine ⟨h.base.step,?_⟩
 obtain ⟨e,d⟩:=h
 have one:∀ h∈[(i:Int)],0<=h/\h<(n:Int):=fun h b=>by simp at b;omega
 unfold gpS
 split
 .rename_i k f
  intro xs a
  rcases Df a with a | rfl
  .exact d xs a
  .refine ⟨by simp,fun h b=>?_⟩
   rcases Az.1 b with b | b
   .have hl:=e.at' _ k f
    rw [Ab hl] at b
    exact (d _ (Bb hl)).2 h b
   .exact one h b
 .intro xs a
  rcases Az.1 a with a | a
  .exact d xs a
  .have a:xs=[(i:Int)]:=by simpa using a
   subst a
   exact ⟨by simp,one⟩
theorem GO.fold {c:Con} {lv:Int} {n:Nat}:∀ (m i:Nat) (s:GSt),i+m=n->GO n i s->GO n n ((Le i m).foldl (gpS c lv) s)
 | 0,i,s,hi,h=>by have:i=n:=o_
                  subst this;exact h
 | m+1,i,s,hi,h=>by
  rw [Ju,Al]
  exact GO.fold m (i+1) _ o_ (h.step o_)
theorem aCo (c:Con) (lv:Int):(gpL c lv).length<=c.hs.length/\∀ xs∈gpL c lv,xs≠[]/\xs.length<=c.hs.length/\∀ h∈xs,0<=h/\h<(c.hs.length:Int):=by
 unfold gpL
 split
 .exact ⟨Cn _,fun xs h=>by simp at h⟩
 split
 .exact ⟨Cn _,fun xs h=>by simp at h⟩
 rw [Ic]
 have:=GO.fold (c:=c) (lv:=lv) (n:=c.hs.length) c.hs.length 0 ([],[]) o_ ⟨⟨fun p h=>(by simp at h),fun x k h=>(by cases h),Ba _,fun xs h=>(by simp at h)⟩,fun xs h=>(by simp at h)⟩
 exact ⟨this.base.len,fun xs a=>⟨(this.ok xs a).1,this.base.each xs a,(this.ok xs a).2⟩⟩
def fdG (c:Con) (free:List V3) (g:Gan):List (List Int)->Option (Int×List Int)
 | []=>none
 | gr::r=>if decide (((inL free g gr).length:Int)<g.pods)=true then fdG c free g r else some ((bE c.hs (gr.headD 0)).f,inL free g gr)
def fdL (c:Con) (free:List V3) (g:Gan):Nat->Int->Option (Int×List Int)
 | 0,_=>none
 | n+1,lv=>match fdG c free g (gpL c lv) with
  | some x=>some x
  | none=>fdL c free g n (lv+1)
def fdA:Option (Int×List Int)->AVal
 | some x=>.tup [ii x.1,.slice 1 (iv x.2) .no,.bool true]
 | none=>.tup [ii 0,.slice 1 [] .no,.bool false]
def sU (c:Con) (free:List V3) (g:Gan):Option (Int×List Int):=fdL c free g (min g.lev 3+1-max g.pref 0).toNat (max g.pref 0)
noncomputable abbrev GX:Func:=Tryz.f218
abbrev UY (c:Con) (g:Gan):List AObj:=[.cells 26 c.cs,.cells 36 g.cs]
abbrev aJA (free:List V3) (lv:Int):List (Nat×AVal):=[(1,.slice 3 (vav free) .no),(3,.ref 0 0),(5,.ref 1 0),(9,ii lv)]
theorem I7 {l:List (List Int)} {i:Nat} (h:i<l.length):(gav l)[i]? =some (.slice 1 (iv l[i]) .no):=by simp [gav,h]
theorem aK1 (c:Con) (F:c.sm) (free:List V3) (g:Gan) (D:0<=g.pods/\g.pods<=16) (lv:Int) (z:0<=lv) (B:lv<=3) (Q:Option (Int×List Int)) (a:List (List Int)) (t:a.length<=1048576) (k:∀ xs∈a,xs≠[]/\xs.length<=c.hs.length/\∀ h∈xs,0<=h/\h<(c.hs.length:Int)):
  ∀ (m i:Nat),i+m=a.length->(∀ x,fdG c free g (a.drop i)=some x->Q=some x)->(fdG c free g (a.drop i)=none->To E GX (.pure (.ret (fdA Q))) (.head (stk GX 0) (aJA free (lv+1)) (UY c g)))->
  To E GX (.pure (.ret (fdA Q))) (.head (stk GX 1) (aJA free lv++[(26,.slice 1 (gav a) .no),(27,.int .i64 ((gav a).length:Nat)),(28,ii i)]) (UY c g)):=by
 have p:(gav a).length=a.length:=by simp
 have y:(hav c.hs).length=c.hs.length:=by simp
 have A:=F.hs
 intro m
 induction m with
 | zero=>
  intro i C hs b
  rw [Ae o_] at b
  have b:=b rfl
  refine gV ?_
  exact zW
 | succ m o=>
  intro i C hs b
  have e:i<a.length:=o_
  have o:=o (i+1) o_
  rw [Ac e] at hs b
  have j:=k _ (Bb e)
  have get:=I7 e
  generalize a[i]=gr at hs b j get
  obtain ⟨l,u,n⟩:=j
  have f:=yT c free g D gr o_
  unfold fdG at hs b
  unfold C0 at f
  refine gV ?_
  refine aT fun h=>?_
  refine gV ?_
  refine ⟨i,rfl,?_⟩
  refine gV ?_
  refine ⟨_,get,?_⟩
  refine gV ?_
  by_cases q:((inL free g gr).length:Int)<g.pods
  .rw [if_pos (decide_eq_true q)] at hs b f
   have next:=o hs b
   exact zW
  .rw [if_neg (by rw [decide_eq_false q];decide)] at hs b f
   have v:=hs _ rfl
   subst v
   match gr,l with
   | d::r,_=>
   have w:=n d s_
   have G:(hav c.hs)[d.toNat]? =some (bE c.hs d).av:=by
    have:=rX (c:=c) (i:=d.toNat) o_
    rwa [Iq w.1] at this
   have b:d=(d.toNat:Int):=o_
   have s:(iv (d::r))[0]? =some (ii d):=rfl
   exact zW
theorem aJz (c:Con) (d:c.sm) (free:List V3) (g:Gan) (k:0<=g.pods/\g.pods<=16):∀ (n:Nat) (lv:Int),0<=lv->n=(min g.lev 3+1-lv).toNat->
  To E GX (.pure (.ret (fdA (fdL c free g n lv)))) (.head (stk GX 0) (aJA free lv) (UY c g)):=by
 intro n
 induction n with
 | zero=>
  intro lv i l
  refine gV ?_
  exact zW
 | succ n e=>
  intro lv i l
  have e:=e (lv+1) o_ o_
  have f:=aCo c lv
  have m:=d.hs
  have j:(gav (gpL c lv)).length=(gpL c lv).length:=by simp
  obtain ⟨Q,b⟩:∃ Q,Q=fdL c free g (n+1) lv:=⟨_,rfl⟩
  rw [<-b]
  unfold fdL at b
  refine gV ?_
  refine aT fun h=>?_
  refine gV ?_
  refine .pure _ [] (YB c d lv) ?_
  repeat' first | (refine gN hE ?_;conv=>whnf) | exact rfl | refine aY ?_ | refine aN ?_ | refine aT fun h=>?_ | refine aF fun h=>?_ | refine ⟨fun h=>?_,fun h=>?_⟩ | refine aJ ?_ | refine ⟨_,rfl,?_⟩ | refine aD ?_ | fail
  refine To.cut [1,3,5,9,26,27,28] 2 rfl rfl rfl rfl ?_
  refine aK1 c d free g k lv i o_ Q (gpL c lv) o_ f.2 (gpL c lv).length 0 o_ (fun x a=>?_) (fun a=>?_)
  .have a:fdG c free g (gpL c lv)=some x:=a
   rw [a] at b
   exact b
  .have a:fdG c free g (gpL c lv)=none:=a
   rw [a] at b
   rw [b]
   exact e
theorem find_ok (c:Con) (b:c.sm) (free:List V3) (g:Gan) (a:0<=g.pods/\g.pods<=16):aA Tryz.prog 218 [c.av,.slice 3 (vav free) .no,g.av] [] (.ret (fdA (sU c free g))) []:=by
 refine c_ Tryz.f218 fun _=>?_
 refine gV ?_
 exact To.cut [1,3,5,9] 2 rfl rfl rfl rfl (aJz c b free g a _ _ o_ rfl)
def bU (c:Con) (l:List Rn) (g:Gan):Option (Int×List Int):=if zS c (ofL c l) g.ten (dem g)=true then sU c (iK c l) g else none
theorem aCA (c:Con) (e:c.sm) (l:List Rn) (hl:Sm l) (g:Gan) (k:0<=g.pods/\g.pods<=16) (Q:Option (Int×List Int)) (a:bU c l g=Q):aA Tryz.prog 156 [c.av,.slice 14 (rav l) .no,g.av] [] (.ret (fdA Q)) []:=by
 unfold bU at a
 have hm:=aI8 c e (ofL c l) g.ten (dem g)
 have m:=RH g
 generalize zS c (ofL c l) g.ten (dem g)=b at a hm
 generalize dem g=d at hm m
 have i:=find_ok c e (iK c l) g k
 have j:=aFX c e l hl
 have h:=TY c e l hl.1
 generalize iK c l=fr at i a j
 generalize ofL c l=us at hm h
 cases b with
 | false=>
  have a:none=Q:=a
  subst a
  exact zqha9
 | true=>
  have a:sU c fr g=Q:=a
  rw [a] at i
  unfold fdA at i⊢
  cases Q with
  | none=>
   exact zqha9
  | some x=>
   exact zqha9
theorem vU (c:Con) (b:c.sm) (l:List Rn) (hl:Sm l) (g:Gan) (a:0<=g.pods/\g.pods<=16):aA Tryz.prog 156 [c.av,.slice 14 (rav l) .no,g.av] [] (.ret (fdA (bU c l g))) []:=aCA c b l hl g a _ rfl
theorem aA.nil2 {P:Program} {f:FuncId} {a:AVal} {g:List AVal} {j:Nat} {obs obs':List AObj} {r:Res} (h:aA P f (a:: .slice j [] .no::g) obs r obs'):aA P f (a:: .nilslice::g) obs r obs':=
 fun M ob w b hm d=>h M ob w b hm ⟨d.1,fun i v x e c=>by
  match i with
  | 0=>exact d.2 0 v x e c
  | 1=>
   have c:AVal.slice j [] .no=x:=by simpa using c
   subst c
   have:=d.2 1 v .nilslice e rfl
   cases this
   exact .slnil _ _ trivial
  | i+2=>exact d.2 (i+2) v x e c⟩
theorem XU (c:Con) (k:c.sm) (g:Gan) (j:0<=g.pods/\g.pods<=16) (b:Bool) (d:(bU c [] g).isNone=b):aA Tryz.prog 83 [c.av,g.av] [] (.ret (.bool b)) []:=by
 have a:=vU c k [] ⟨Cn _,fun x h=>by simp at h⟩ g j
 generalize bU c [] g=Q at a d
 subst d
 unfold fdA at a
 cases Q with
 | none=>
  refine c_ Tryz.f83 fun _=>?_
  have e:=aA.nil2 a
  exact zW
 | some x=>
  refine c_ Tryz.f83 fun _=>?_
  have i:=aA.nil2 a
  exact zW
theorem aBQ (c:Con) (a:c.sm) (g:Gan) (b:0<=g.pods/\g.pods<=16):aA Tryz.prog 83 [c.av,g.av] [] (.ret (.bool (bU c [] g).isNone)) []:=XU c a g b _ rfl
theorem aKD (x:Rn) (M:Imm) (ob:Hs) (vs:List Value) (h:cA M ob vs [x.av]):inR .i64 x.st/\inR .i64 x.g.run:=by
 have hl:0<vs.length:=by rw [h.1];simp
 have:=h.2 0 _ x.av (Ab hl) rfl
 exact ⟨bY this 11 _ rfl,bY this 6 _ rfl⟩
def cO (x:Rn):Int:=if 9223372036854775807<x.st+x.g.run then 9223372036854775807 else if x.st+x.g.run< -9223372036854775808 then -9223372036854775808 else x.st+x.g.run
theorem aGn (x:Rn) (r:Int) (a:cO x=r):aA Tryz.prog 116 [x.av] [] (.ret (ii r)) []:=by
 refine aA.get _ (aKD x) fun ⟨⟨a1,a2⟩,⟨b1,b2⟩⟩=>?_
 simp only [bO,bA] at a1 a2 b1 b2
 unfold cO at a
 by_cases h1:9223372036854775807<x.st+x.g.run
 .rw [if_pos h1] at a
  subst a
  have e:=aD4 h1 o_
  exact zqha8
 .rw [if_neg h1] at a
  by_cases b:x.st+x.g.run< -9223372036854775808
  .rw [if_pos b] at a
   subst a
   have e:=aD3 b o_
   exact zqha8
  .rw [if_neg b] at a
   refine c_ Tryz.f116 fun _=>?_
   repeat' first | (refine gN hE ?_;conv=>whnf) | exact rfl | refine aY ?_ | refine aN ?_ | refine aT fun h=>?_ | refine aF fun h=>?_ | refine ⟨fun h=>?_,fun h=>?_⟩ | refine aJ ?_ | refine ⟨_,rfl,?_⟩ | refine aD ?_ | fail
   all_goals first | exact a▸rfl | (exfalso;simp at *;omega)
theorem JE (x:Rn):aA Tryz.prog 116 [x.av] [] (.ret (ii (cO x))) []:=aGn x _ rfl
theorem aA8 (x:Rn) (r:Int) (a:cO x=r):aA Tryz.prog 69 [x.av] [] (.ret (ii r)) []:=by
 refine aA.get _ (aKD x) fun ⟨⟨a1,a2⟩,⟨b1,b2⟩⟩=>?_
 simp only [bO,bA] at a1 a2 b1 b2
 unfold cO at a
 by_cases h1:9223372036854775807<x.st+x.g.run
 .rw [if_pos h1] at a
  subst a
  refine c_ Tryz.f69 fun _=>?_
  repeat' first | (refine gN hE ?_;conv=>whnf) | exact rfl | refine aY ?_ | refine aN ?_ | refine aT fun h=>?_ | refine aF fun h=>?_ | refine Aa (fun h=>?_) (fun h=>absurd (of_decide_eq_false h) (by simp only [decide_eq_true_eq,decide_eq_false_iff_not] at *;omega)) | refine Aa (fun h=>absurd (of_decide_eq_true h) (by simp only [decide_eq_true_eq,decide_eq_false_iff_not] at *;omega)) (fun h=>?_) | refine ⟨fun h=>?_,fun h=>?_⟩ | refine aJ ?_ | refine ⟨_,rfl,?_⟩ | refine Aa d_ ?_ | refine Aa o_ ?_ | refine Fo (Aa (Aa (by simp only [bO];simp only [decide_eq_true_eq,decide_eq_false_iff_not] at *;omega) (by simp only [bA];simp only [decide_eq_true_eq,decide_eq_false_iff_not] at *;omega)) ?_) | fail
 .rw [if_neg h1] at a
  by_cases b:x.st+x.g.run< -9223372036854775808
  .rw [if_pos b] at a
   subst a
   refine c_ Tryz.f69 fun _=>?_
   repeat' first | (refine gN hE ?_;conv=>whnf) | exact rfl | refine aY ?_ | refine aN ?_ | refine aT fun h=>?_ | refine aF fun h=>?_ | refine Aa (fun h=>?_) (fun h=>absurd (of_decide_eq_false h) (by simp only [decide_eq_true_eq,decide_eq_false_iff_not] at *;omega)) | refine Aa (fun h=>absurd (of_decide_eq_true h) (by simp only [decide_eq_true_eq,decide_eq_false_iff_not] at *;omega)) (fun h=>?_) | refine ⟨fun h=>?_,fun h=>?_⟩ | refine aJ ?_ | refine ⟨_,rfl,?_⟩ | refine Aa d_ ?_ | refine Aa o_ ?_ | refine Fo (Aa (Aa (by simp only [bO];simp only [decide_eq_true_eq,decide_eq_false_iff_not] at *;omega) (by simp only [bA];simp only [decide_eq_true_eq,decide_eq_false_iff_not] at *;omega)) ?_) | fail
  .rw [if_neg b] at a
   subst a
   refine c_ Tryz.f69 fun _=>?_
   repeat' first | (refine gN hE ?_;conv=>whnf) | exact rfl | refine aY ?_ | refine aN ?_ | refine aT fun h=>?_ | refine aF fun h=>?_ | refine Aa (fun h=>?_) (fun h=>absurd (of_decide_eq_false h) (by simp only [decide_eq_true_eq,decide_eq_false_iff_not] at *;omega)) | refine Aa (fun h=>absurd (of_decide_eq_true h) (by simp only [decide_eq_true_eq,decide_eq_false_iff_not] at *;omega)) (fun h=>?_) | refine ⟨fun h=>?_,fun h=>?_⟩ | refine aJ ?_ | refine ⟨_,rfl,?_⟩ | refine Aa d_ ?_ | refine Aa o_ ?_ | refine Fo (Aa (Aa (by simp only [bO];simp only [decide_eq_true_eq,decide_eq_false_iff_not] at *;omega) (by simp only [bA];simp only [decide_eq_true_eq,decide_eq_false_iff_not] at *;omega)) ?_) | fail
theorem AH (x:Rn):aA Tryz.prog 69 [x.av] [] (.ret (ii (cO x))) []:=aA8 x _ rfl
theorem xV (l:List Int) (h:l.length<=1048576):aA Tryz.prog 233 [.slice 1 (iv l) .no] [] (.ret (.slice 1 (iv l) .no)) []:=by
 have a:(iv l).length=l.length:=by simp
 refine c_ Tryz.f233 fun _=>?_
 refine gV ?_
 intro b c
 refine gV ?_
 refine ⟨fun h=>?_,fun h=>?_⟩
 .have h:b=true:=h
  have e:iv l=[]:=c h
  refine gV ?_
  rw [e]
 .have h:b=false:=h
  exact zW
theorem aEK (x:Rn) (h:x.hs.length<=1048576):aA Tryz.prog 187 [x.av] [] (.ret x.av) []:=by
 refine c_ Tryz.f187 fun _=>?_
 have a:=xV x.hs h
 exact zW
def atL (l:List Rn) (t:Int):List Rn:=l.filter fun x=>decide (t<cO x)
theorem VX {x:Rn} {r:List Rn} {t:Int} (h:decide (t<cO x)=true):atL (x::r) t=x::atL r t:=Gh h
theorem VY {x:Rn} {r:List Rn} {t:Int} (h:decide (t<cO x)=false):atL (x::r) t=atL r t:=Gi (by rw [h];decide)
noncomputable abbrev fAt:Func:=Tryz.f117
theorem aGZ (l:List Rn) (hs:Sm l) (t:Int) (R:List Rn):∀ (n i:Nat) (a:List Rn),i+n=l.length->a.length<=i->a++atL (l.drop i) t=R->
  To (Eo [5] []) fAt (.pure (.ret (.slice 14 (rav R) .no))) (.head (stk fAt 0) [(1,.int .i64 t),(5,.slice 14 (rav a) (.own 0 0)),(8,.slice 14 (rav l) .no),(9,.int .i64 ((rav l).length:Nat)),(10,.int .i64 i)] [.tail 0 14 127]):=by
 have j:(rav l).length=l.length:=by simp
 have hl:=hs.1
 intro n
 induction n with
 | zero=>
  intro i a p r b
  exact zqha10
 | succ n k=>
  intro i a p r b
  have c:i<l.length:=o_
  rw [Ac c] at b
  have g:=hs.at c
  generalize q:l[i]=x at b g
  have get:(rav l)[i]? =some x.av:=(bN c).trans (by rw [q])
  have o:(rav a).length=a.length:=by simp
  refine gV ?_
  refine aT fun h=>?_
  refine gV ?_
  refine ⟨i,rfl,?_⟩
  refine gV ?_
  refine ⟨_,get,?_⟩
  refine gV ?_
  refine .pure _ [] (JE x) ?_
  refine gV ?_
  refine Aa (fun d=>?_) (fun d=>?_)
  .have d:decide (t<cO x)=true:=d
   rw [VX d] at b
   refine gV ?_
   refine .pure _ [] (aEK x g) ?_
   refine gV ?_
   refine ⟨⟨by simp only [maxLen];simp;omega,by simp;omega⟩,?_⟩
   refine gV ?_
   refine aJ ?_
   refine gV ?_
   refine To.part [1,5,8,9,10] [0] rfl rfl rfl ?_
   exact zqha7
  .have f:decide (t<cO x)=false:=d
   rw [VY f] at b
   have m:=k (i+1) a o_ o_ b
   exact zW
theorem aDK (l:List Rn) (hs:Sm l) (t:Int):aA Tryz.prog 117 [.slice 14 (rav l) .no,ii t] [] (.ret (.slice 14 (rav (atL l t)) .no)) []:=by
 refine cT (E:=(Eo [5] [])) (fn:=Tryz.f117) (g:=.pure _) fun _=>?_
 have a:=aGZ l hs t _ l.length 0 [] o_ s_ rfl
 exact zW
noncomputable abbrev aLf:Func:=Tryz.f70
theorem aBe (l:List Rn) (hs:Sm l) (t:Int) (R:List Rn):∀ (n i:Nat) (a:List Rn),i+n=l.length->a.length<=i->a++atL (l.drop i) t=R->
  To (Eo [5] []) aLf (.pure (.ret (.slice 14 (rav R) .no))) (.head (stk aLf 0) [(0,.slice 14 (rav l) .no),(1,.int .i64 t),(5,.slice 14 (rav a) (.own 0 0)),(6,.int .i64 i)] [.tail 0 14 127]):=by
 have g:(rav l).length=l.length:=by simp
 have hl:=hs.1
 intro n
 induction n with
 | zero=>
  intro i a o q b
  exact zqha10
 | succ n k=>
  intro i a o q b
  have c:i<l.length:=o_
  rw [Ac c] at b
  generalize p:l[i]=x at b
  have get:(rav l)[i]? =some x.av:=(bN c).trans (by rw [p])
  have m:(rav a).length=a.length:=by simp
  refine gV ?_
  refine aT fun h=>?_
  refine gV ?_
  refine ⟨i,rfl,?_⟩
  refine gV ?_
  refine ⟨_,get,?_⟩
  refine gV ?_
  refine .pure _ [] (AH x) ?_
  refine gV ?_
  refine Aa (fun d=>?_) (fun d=>?_)
  .have d:decide (t<cO x)=true:=d
   rw [VX d] at b
   refine gV ?_
   refine ⟨i,rfl,?_⟩
   refine gV ?_
   refine ⟨_,get,?_⟩
   refine gV ?_
   refine ⟨⟨by simp only [maxLen];simp;omega,by simp;omega⟩,?_⟩
   refine gV ?_
   refine aJ ?_
   refine gV ?_
   refine To.part [0,1,5,6] [0] rfl rfl rfl ?_
   exact zqha7
  .have f:decide (t<cO x)=false:=d
   rw [VY f] at b
   have j:=k (i+1) a o_ o_ b
   exact zW
theorem aBd (l:List Rn) (hs:Sm l) (t:Int):aA Tryz.prog 70 [.slice 14 (rav l) .no,ii t] [] (.ret (.slice 14 (rav (atL l t)) .no)) []:=by
 refine cT (E:=(Eo [5] [])) (fn:=Tryz.f70) (g:=.pure _) fun _=>?_
 have a:=aBe l hs t _ l.length 0 [] o_ s_ rfl
 exact zW
theorem R9 {l:List Rn} (h:Sm l) (t:Int):Sm (atL l t):=
 ⟨Co (Dw _ _) h.1,fun x a=>h.2 x (Fk.1 a).1⟩
open Go Go.AW Go.Proofs Go.Shelf
set_option maxRecDepth 100000
def aEy:Go.Shelf.Ren:=⟨fun | 125=>314 | 128=>330 | 129=>331 | 189=>295 | 215=>283 | 216=>327 | 257=>313 | 294=>321 | 295=>322 | 296=>323 | 297=>324 | 298=>325 | 299=>326 | 300=>328 | 301=>329 | 328=>333 | 329=>334 | 330=>335 | 331=>336 | 332=>337 | 343=>338 | n=>n,fun | 0=>0 | 3=>3 | 4=>4 | 5=>5 | 9=>9 | 28=>53 | 46=>254 | 51=>351 | 53=>122 | 131=>212 | 182=>343 | 183=>344 | 218=>354 | 222=>358 | 228=>360 | 229=>361 | n=>n,fun n=>n⟩
theorem KY:Lays.n189 Tryz.prog aEy where
 mixed:=by kernel_rfl
 f125:=Tryz.func314.trans (congrArg some (by kernel_rfl))
 f128:=Tryz.func330.trans (congrArg some (by kernel_rfl))
 f129:=Tryz.func331.trans (congrArg some (by kernel_rfl))
 f189:=Tryz.func295.trans (congrArg some (by kernel_rfl))
 f215:=Tryz.func283.trans (congrArg some (by kernel_rfl))
 f216:=Tryz.func327.trans (congrArg some (by kernel_rfl))
 f257:=Tryz.func313.trans (congrArg some (by kernel_rfl))
 f294:=Tryz.func321.trans (congrArg some (by kernel_rfl))
 f295:=Tryz.func322.trans (congrArg some (by kernel_rfl))
 f296:=Tryz.func323.trans (congrArg some (by kernel_rfl))
 f297:=Tryz.func324.trans (congrArg some (by kernel_rfl))
 f298:=Tryz.func325.trans (congrArg some (by kernel_rfl))
 f299:=Tryz.func326.trans (congrArg some (by kernel_rfl))
 f300:=Tryz.func328.trans (congrArg some (by kernel_rfl))
 f301:=Tryz.func329.trans (congrArg some (by kernel_rfl))
 f328:=Tryz.func333.trans (congrArg some (by kernel_rfl))
 f329:=Tryz.func334.trans (congrArg some (by kernel_rfl))
 f330:=Tryz.func335.trans (congrArg some (by kernel_rfl))
 f331:=Tryz.func336.trans (congrArg some (by kernel_rfl))
 f332:=Tryz.func337.trans (congrArg some (by kernel_rfl))
 f343:=Tryz.func338.trans (congrArg some (by kernel_rfl))
 t0:=Tryz.underlying0
 a0:=Tryz.isAgg0
 z0:=Tryz.sizeOf0
 v0:=Tryz.zeroValue0
 t3:=Tryz.underlying3
 a3:=Tryz.isAgg3
 z3:=Tryz.sizeOf3
 v3:=Tryz.zeroValue3
 t4:=Tryz.underlying4
 a4:=Tryz.isAgg4
 z4:=Tryz.sizeOf4
 v4:=Tryz.zeroValue4
 t5:=Tryz.underlying5
 a5:=Tryz.isAgg5
 z5:=Tryz.sizeOf5
 v5:=Tryz.zeroValue5
 t9:=Tryz.underlying9
 a9:=Tryz.isAgg9
 z9:=Tryz.sizeOf9
 v9:=Tryz.zeroValue9
 t28:=Tryz.underlying53
 a28:=Tryz.isAgg53
 z28:=Tryz.sizeOf53
 v28:=Tryz.zeroValue53
 t46:=Tryz.underlying254
 a46:=Tryz.isAgg254
 z46:=Tryz.sizeOf254
 v46:=Tryz.zeroValue254
 t51:=Tryz.underlying351
 a51:=Tryz.isAgg351
 z51:=Tryz.sizeOf351
 v51:=Tryz.zeroValue351
 t53:=Tryz.underlying122
 a53:=Tryz.isAgg122
 z53:=Tryz.sizeOf122
 v53:=Tryz.zeroValue122
 t131:=Tryz.underlying212
 a131:=Tryz.isAgg212
 z131:=Tryz.sizeOf212
 v131:=Tryz.zeroValue212
 t182:=Tryz.underlying343
 a182:=Tryz.isAgg343
 z182:=Tryz.sizeOf343
 v182:=Tryz.zeroValue343
 t183:=Tryz.underlying344
 a183:=Tryz.isAgg344
 z183:=Tryz.sizeOf344
 v183:=Tryz.zeroValue344
 t218:=Tryz.underlying354
 a218:=Tryz.isAgg354
 z218:=Tryz.sizeOf354
 v218:=Tryz.zeroValue354
 t222:=Tryz.underlying358
 a222:=Tryz.isAgg358
 z222:=Tryz.sizeOf358
 v222:=Tryz.zeroValue358
 t228:=Tryz.underlying360
 a228:=Tryz.isAgg360
 z228:=Tryz.sizeOf360
 v228:=Tryz.zeroValue360
 t229:=Tryz.underlying361
 a229:=Tryz.isAgg361
 z229:=Tryz.sizeOf361
 v229:=Tryz.zeroValue361
def sR (l:List Int):List Int:=l.mergeSort fun x y=>decide (x<=y)
theorem aEx (l:List Int) (hl:l.length<=1000000000):aA Tryz.prog 295 [.row 0 0] [.row 0 1 3 (iv l)] (.ret (.tup [])) [.row 0 1 3 (iv (sR l))]:=
 EN (fun _ _=>by rfl) (fun p cap w=>Any.slices_Sort_int_none KY p cap w) (fun blk off cap c w b a hz=>Any.slices_Sort_int KY blk off cap c w b a hz) 3 l hl
set_option maxRecDepth 10000
def kyv (n:Int):AVal:=.agg [ii n]
abbrev kv (l:List Int):List AVal:=l.map kyv
theorem aCa {l:List Int} {i:Nat} (h:i<l.length):(kv l)[i]? =some (kyv l[i]):=by simp [kv,h]
abbrev aJg (n:Int):AVal:=.func (.func 294) [] [.ptr [ii n]]
theorem aJe (x n:Int):aA Tryz.prog 294 [kyv x,.ptr [ii n]] [] (.ret (.bool (x==n&&true))) []:=by
 exact c_ Tryz.f294 fun _=>zW
def yW (n:Int):List Int->Nat->Int
 | [],_=> -1
 | x::r,i=>if (x==n&&true) then (i:Int) else yW n r (i+1)
def has (l:List Int) (n:Int):Bool:=decide (0<=yW n l 0)
noncomputable abbrev aLl:Func:=Tryz.f312
theorem aCi (l:List Int) (n:Int) (hl:((kv l).length:Int)<=9223372036854775807) (r:Int):∀ (m i:Nat),i+m=l.length->yW n (l.drop i) i=r->
  To E aLl (.pure (.ret (ii r))) (.head (stk aLl 0) [(0,.slice 1 (kv l) .no),(1,aJg n),(7,.int .i64 ((kv l).length:Nat)),(8,.int .i64 i)] []):=by
 have c:(kv l).length=l.length:=by simp
 intro m
 induction m with
 | zero=>
  intro i g a
  rw [Ae o_] at a
  subst a
  refine gV ?_
  exact zW
 | succ m f=>
  intro i g a
  have b:i<l.length:=o_
  rw [Ac b] at a
  generalize e:l[i]=x at a
  have get:(kv l)[i]? =some (kyv x):=(aCa b).trans (by rw [e])
  unfold yW at a
  refine gV ?_
  refine aT fun h=>?_
  repeat' first | (refine gN hE ?_;conv=>whnf) | refine ⟨_,get,?_⟩ | refine .pure _ [] (aJe x n) ?_ | exact rfl | refine aY ?_ | refine aN ?_ | refine aT fun h=>?_ | refine aF fun h=>?_ | refine ⟨fun h=>?_,fun h=>?_⟩ | refine aJ ?_ | refine ⟨_,rfl,?_⟩ | refine aD ?_ | fail
  .have h:(x==n&&true)=true:=h
   rw [if_pos h] at a
   rw [<-a]
  .have h:(x==n&&true)=false:=h
   rw [if_neg (by rw [h];decide)] at a
   have d:=f (i+1) o_ a
   exact zW
theorem aJi (l:List Int) (n:Int):aA Tryz.prog 312 [.slice 1 (kv l) .no,aJg n] [] (.ret (ii (yW n l 0))) []:=by
 refine c_ Tryz.f312 fun b=>?_
 have hl:((kv l).length:Int)<=9223372036854775807:=b.1
 have a:=aCi l n hl _ l.length 0 o_ rfl
 exact zW
theorem aJl (l:List Int) (n:Int):aA Tryz.prog 293 [.slice 1 (kv l) .no,aJg n] [] (.ret (.bool (has l n))) []:=by
 refine c_ Tryz.f293 fun _=>?_
 have a:=aJi l n
 exact zW
def pJ (now:Int):List Rn->List Int->List Int
 | [],ks=>ks
 | x::r,ks=>pJ now r (if decide (now<cO x)&& !has ks (cO x) then ks++[cO x] else ks)
theorem F5 (now:Int):∀ (l:List Rn) (ks:List Int),(pJ now l ks).length<=ks.length+l.length
 | [],ks=>by simp [pJ]
 | x::r,ks=>by
  unfold pJ
  have:=F5 now r (if decide (now<cO x)&& !has ks (cO x) then ks++[cO x] else ks)
  split at this
  .rename_i h;rw [if_pos h];simp only [Ay,Bq,Fv] at this⊢;omega
  .rename_i h;rw [if_neg h];simp only [Bq];omega
noncomputable abbrev VA:Func:=Tryz.f256
noncomputable abbrev En:Env:=Ex [5] [9] []
theorem hEn:EnvOK En:=hEx _ _ _
theorem Q5 (ks:List Int) (m:ks.length<=1048576):∀ (n i:Nat) (a:List Int),i+n=ks.length->a=ks.take i->
  To En VA (.pure (.ret (.slice 1 (iv (sR ks)) .no))) (.head (stk VA 1) [(9,.row 0 0),(36,.slice 1 (kv ks) .no),(37,.int .i64 ((kv ks).length:Nat)),(38,.int .i64 i)] [.row 0 1 3 (iv a)]):=by
 have d:(kv ks).length=ks.length:=by simp
 intro n
 induction n with
 | zero=>
  intro i a k c
  rw [Cb o_] at c
  subst c
  refine gW hEn ?_;conv=>whnf
  refine aF fun h=>?_
  refine gW hEn ?_;conv=>whnf
  refine .eff [] [0] _ _ rfl (aEx a o_) ?_
  repeat' first | (refine gN hEn ?_;conv=>whnf) | exact rfl | refine aY ?_ | refine aN ?_ | refine aT fun h=>?_ | refine aF fun h=>?_ | refine ⟨fun h=>?_,fun h=>?_⟩ | refine aJ ?_ | refine ⟨_,rfl,?_⟩ | refine aD ?_ | fail
 | succ n l=>
  intro i a k c
  have b:i<ks.length:=o_
  generalize f:ks[i]=x
  have get:(kv ks)[i]? =some (kyv x):=(aCa b).trans (by rw [f])
  have g:a.length=i:=by rw [c];simp;omega
  have j:(iv a).length=a.length:=by simp
  refine gW hEn ?_;conv=>whnf
  refine aT fun h=>?_
  refine gW hEn ?_;conv=>whnf
  refine ⟨i,rfl,?_⟩
  refine gW hEn ?_;conv=>whnf
  refine ⟨_,get,?_⟩
  refine gW hEn ?_;conv=>whnf
  refine ⟨⟨by decide,by decide⟩,?_⟩
  refine gW hEn ?_;conv=>whnf
  refine ⟨⟨by simp only [maxLen];simp;omega,by simp;omega⟩,?_⟩
  refine gW hEn ?_;conv=>whnf
  refine aJ ?_
  refine gW hEn ?_;conv=>whnf
  refine To.part [9,36,37,38] [0] rfl rfl rfl ?_
  have next:=l (i+1) (a++[x]) o_ (by rw [c,<-f];exact Iw b)
  have e:iv (a++[x])=iv a++[ii x]:=by simp
  rw [e] at next
  exact next
theorem YQ (l:List Rn) (hs:Sm l) (now:Int) (R:List Int):∀ (n i:Nat) (ks:List Int),i+n=l.length->ks.length<=i->sR (pJ now (l.drop i) ks)=R->
  To En VA (.pure (.ret (.slice 1 (iv R) .no))) (.head (stk VA 0) [(1,.int .i64 now),(5,.slice 1 (kv ks) (.own 0 0)),(12,.slice 14 (rav l) .no),(13,.int .i64 ((rav l).length:Nat)),(14,.int .i64 i)] [.tail 0 1 327]):=by
 have f:(rav l).length=l.length:=by simp
 have hl:=hs.1
 intro n
 induction n with
 | zero=>
  intro i ks o m a
  rw [Ae o_] at a
  have a:sR ks=R:=a
  subst a
  refine gW hEn ?_;conv=>whnf
  refine aF fun h=>?_
  refine gW hEn ?_;conv=>whnf
  refine To.part [9,36,37,38] [1] rfl rfl rfl ?_
  have j:=Q5 ks o_ ks.length 0 [] o_ s_
  exact zW
 | succ n d=>
  intro i ks o m a
  have c:i<l.length:=o_
  rw [Ac c] at a
  generalize p:l[i]=x at a
  have get:(rav l)[i]? =some x.av:=(bN c).trans (by rw [p])
  have q:(kv ks).length=ks.length:=by simp
  unfold pJ at a
  refine gW hEn ?_;conv=>whnf
  refine aT fun h=>?_
  refine gW hEn ?_;conv=>whnf
  refine ⟨i,rfl,?_⟩
  refine gW hEn ?_;conv=>whnf
  refine ⟨_,get,?_⟩
  refine gW hEn ?_;conv=>whnf
  refine .pure _ [] (JE x) ?_
  refine gW hEn ?_;conv=>whnf
  refine ⟨⟨by decide,by decide⟩,?_⟩
  refine gW hEn ?_;conv=>whnf
  refine Aa (fun h1=>?_) (fun h1=>?_)
  .have h1:decide (now<cO x)=true:=h1
   refine gW hEn ?_;conv=>whnf
   refine .pure _ [] (aJl ks (cO x)) ?_
   refine gW hEn ?_;conv=>whnf
   refine Aa (fun b=>?_) (fun b=>?_)
   .have b:(!has ks (cO x))=true:=b
    rw [h1,b,if_pos d_] at a
    refine gW hEn ?_;conv=>whnf
    refine ⟨⟨by simp only [maxLen];simp;omega,by simp;omega⟩,?_⟩
    refine gW hEn ?_;conv=>whnf
    refine aJ ?_
    refine gW hEn ?_;conv=>whnf
    refine To.part [1,5,12,13,14] [0] rfl rfl rfl ?_
    have next:=d (i+1) (ks++[cO x]) o_ q_ a
    have e:kv (ks++[cO x])=kv ks++[kyv (cO x)]:=by simp
    rw [e] at next
    exact next
   .have b:(!has ks (cO x))=false:=b
    rw [h1,b,if_neg d_] at a
    refine gW hEn ?_;conv=>whnf
    refine aJ ?_
    refine gW hEn ?_;conv=>whnf
    have k:=d (i+1) ks o_ o_ a
    exact zW
  .have h1:decide (now<cO x)=false:=h1
   rw [h1,Cj,if_neg d_] at a
   repeat' first | (refine gN hEn ?_;conv=>whnf) | exact rfl | refine aY ?_ | refine aN ?_ | refine aT fun h=>?_ | refine aF fun h=>?_ | refine ⟨fun h=>?_,fun h=>?_⟩ | refine aJ ?_ | refine ⟨_,rfl,?_⟩ | refine aD ?_ | fail
   have g:=d (i+1) ks o_ o_ a
   exact zW
def vX (l:List Rn) (now:Int):List Int:=sR (pJ now l [])
theorem aGm (l:List Rn) (hs:Sm l) (now:Int):aA Tryz.prog 256 [.slice 14 (rav l) .no,ii now] [] (.ret (.slice 1 (iv (vX l now)) .no)) []:=by
 refine cT (E:=En) (fn:=Tryz.f256) (g:=.pure _) fun _=>?_
 refine gW hEn ?_;conv=>whnf
 have a:=YQ l hs now _ l.length 0 [] o_ s_ rfl
 exact zW
def oV (n:Int):List Int->List Int
 | []=>[n]
 | x::r=>if x<n then x::oV n r else if x=n then x::r else n::x::r
def rE (now:Int):List Rn->List Int->List Int
 | [],out=>out
 | x::r,out=>rE now r (if cO x<=now then out else oV (cO x) out)
theorem NC (n:Int):∀ (l:List Int),(oV n l).length<=l.length+1
 | []=>by simp [oV]
 | x::r=>by
  have:=NC n r
  unfold oV
  split
  .simp only [Bq];omega
  .split<;>simp
noncomputable abbrev xQ:Func:=Tryz.f216
noncomputable abbrev Ee:Env:=Ex [5,54] [] [58,59,60]
theorem hEe:EnvOK Ee:=hEx _ _ _
abbrev reO:List AObj:=[.tail 0 1 3]
theorem LJ (l:List Rn) (now:Int) (R:List Int) (i:Nat) (D:i<1048576) (n:Int) (out:List Int) (C:out.length<=i) (rest:List Rn)
  (p:∀ (d:List Int),d.length<=i+1->rE now rest d=R->To Ee xQ (.pure (.ret (.slice 1 (iv R) .no))) (.head (stk xQ 0) [(0,.slice 14 (rav l) .no),(1,.int .i64 now),(5,.slice 1 (iv d) (.own 0 0)),(6,.int .i64 ((i:Int)+1))] reO))
  (c:rE now rest (if n<=now then out else oV n out)=R):∀ (m k:Nat),k+m=out.length->oV n out=out.take k++oV n (out.drop k)->
  To Ee xQ (.pure (.ret (.slice 1 (iv R) .no))) (.head (stk xQ 1) [(0,.slice 14 (rav l) .no),(1,.int .i64 now),(5,.slice 1 (iv out) (.own 0 0)),(6,.int .i64 i),(7,.int .i64 n),(8,.int .i64 k)] reO):=by
 have B:(iv out).length=out.length:=by simp
 intro m
 induction m with
 | zero=>
  intro k z a
  rw [Ae o_,Cb o_] at a
  have a:oV n out=out++[n]:=a
  have w:Fp k (iv out)=[]:=Ae o_
  have y:Et k (iv out)=iv out:=Cb o_
  refine gW hEe ?_;conv=>whnf
  refine aF fun h=>?_
  refine gW hEe ?_;conv=>whnf
  refine aN ?_
  refine gW hEe ?_;conv=>whnf
  refine Aa (fun h1=>?_) (fun h1=>?_)
  .have b:=of_decide_eq_true h1
   have v:=p out o_ (by rw [if_pos b] at c;exact c)
   exact zW
  .have b:=of_decide_eq_false h1
   refine gW hEe ?_;conv=>whnf
   refine aF fun h=>?_
   refine gW hEe ?_;conv=>whnf
   refine aN ?_
   refine gW hEe ?_;conv=>whnf
   refine ⟨k,rfl,?_⟩
   refine gW hEe ?_;conv=>whnf
   refine ⟨by omega,?_⟩
   refine gW hEe ?_;conv=>whnf
   refine ⟨⟨by simp only [maxLen];simp;omega,by simp;omega⟩,?_⟩
   refine gW hEe ?_;conv=>whnf
   refine ⟨⟨by simp only [maxLen];simp;omega,by simp;omega⟩,?_⟩
   refine gW hEe ?_;conv=>whnf
   refine ⟨k,rfl,?_⟩
   refine gW hEe ?_;conv=>whnf
   refine ⟨by omega,?_⟩
   refine gW hEe ?_;conv=>whnf
   refine ⟨⟨by simp only [maxLen];simp;omega,by simp;omega⟩,?_⟩
   refine gW hEe ?_;conv=>whnf
   refine aJ ?_
   refine gW hEe ?_;conv=>whnf
   refine To.part [0,1,5,6] [1] rfl rfl rfl ?_
   rw [if_neg b,a] at c
   have next:=p (out++[n]) q_ c
   have e:iv (out++[n])=Et k (iv out)++[ii n]++Fp k (iv out):=by rw [w,y];simp
   rw [e] at next
   exact next
 | succ m r=>
  intro k z a
  have f:k<out.length:=o_
  rw [Ac f] at a
  have o:out.take k++[out[k]]=out.take (k+1):=Iw f
  have g:out.drop k=out[k]::out.drop (k+1):=Ac f
  generalize A:out[k]=x at a o g
  have get:(iv out)[k]? =some (ii x):=(bS f).trans (by rw [A])
  have a:oV n out=out.take k++(if x<n then x::oV n (out.drop (k+1)) else if x=n then x::out.drop (k+1) else n::x::out.drop (k+1)):=a
  refine gW hEe ?_;conv=>whnf
  refine aT fun h=>?_
  refine gW hEe ?_;conv=>whnf
  refine ⟨k,rfl,?_⟩
  refine gW hEe ?_;conv=>whnf
  refine ⟨_,get,?_⟩
  refine gW hEe ?_;conv=>whnf
  refine Aa (fun h1=>?_) (fun h1=>?_)
  .have j:=of_decide_eq_true h1
   rw [if_pos j] at a
   have s:=r (k+1) o_ (by rw [a,<-o,Aj];rfl)
   exact zW
  .have j:=of_decide_eq_false h1
   rw [if_neg j] at a
   refine gW hEe ?_;conv=>whnf
   refine Aa (fun q=>?_) (fun q=>?_)
   .have b:=of_decide_eq_true q
    have t:=p out o_ (by rw [if_pos b] at c;exact c)
    exact zW
   .have b:=of_decide_eq_false q
    rw [if_neg b] at c
    refine gW hEe ?_;conv=>whnf
    refine aT fun h=>?_
    refine gW hEe ?_;conv=>whnf
    refine ⟨k,rfl,?_⟩
    refine gW hEe ?_;conv=>whnf
    refine ⟨_,get,?_⟩
    refine gW hEe ?_;conv=>whnf
    refine Aa (fun h3=>?_) (fun h3=>?_)
    .have h3:(x==n)=true:=h3
     have h3:x=n:=by simpa using h3
     rw [if_pos h3] at a
     have e:oV n out=out:=by rw [a,<-g,Bk]
     rw [e] at c
     have u:=p out o_ c
     exact zW
    .have h3:(x==n)=false:=h3
     have h3:¬ x=n:=by simpa using h3
     rw [if_neg h3,<-g] at a
     refine gW hEe ?_;conv=>whnf
     refine ⟨k,rfl,?_⟩
     refine gW hEe ?_;conv=>whnf
     refine ⟨by omega,?_⟩
     refine gW hEe ?_;conv=>whnf
     refine ⟨⟨by simp only [maxLen];simp;omega,by simp;omega⟩,?_⟩
     refine gW hEe ?_;conv=>whnf
     refine ⟨⟨by simp only [maxLen];simp;omega,by simp;omega⟩,?_⟩
     refine gW hEe ?_;conv=>whnf
     refine ⟨k,rfl,?_⟩
     refine gW hEe ?_;conv=>whnf
     refine ⟨by omega,?_⟩
     refine gW hEe ?_;conv=>whnf
     refine ⟨⟨by simp only [maxLen];simp;omega,by simp;omega⟩,?_⟩
     refine gW hEe ?_;conv=>whnf
     refine aJ ?_
     refine gW hEe ?_;conv=>whnf
     refine To.part [0,1,5,6] [1] rfl rfl rfl ?_
     rw [a] at c
     have next:=p (out.take k++n::out.drop k) q_ c
     have e:iv (out.take k++n::out.drop k)=Et k (iv out)++[ii n]++Fp k (iv out):=by simp
     rw [e] at next
     exact next
theorem PR (l:List Rn) (hs:Sm l) (now:Int) (R:List Int):∀ (m i:Nat) (out:List Int),i+m=l.length->out.length<=i->rE now (l.drop i) out=R->
  To Ee xQ (.pure (.ret (.slice 1 (iv R) .no))) (.head (stk xQ 0) [(0,.slice 14 (rav l) .no),(1,.int .i64 now),(5,.slice 1 (iv out) (.own 0 0)),(6,.int .i64 i)] reO):=by
 have d:(rav l).length=l.length:=by simp
 have hl:=hs.1
 intro m
 induction m with
 | zero=>
  intro i out k e a
  rw [Ae o_] at a
  have a:out=R:=a
  subst a
  refine gW hEe ?_;conv=>whnf
  exact zW
 | succ m n=>
  intro i out k e a
  have b:i<l.length:=o_
  rw [Ac b] at a
  generalize o:l[i]=x at a
  have get:(rav l)[i]? =some x.av:=(bN b).trans (by rw [o])
  unfold rE at a
  refine gW hEe ?_;conv=>whnf
  refine aT fun h=>?_
  refine gW hEe ?_;conv=>whnf
  refine ⟨i,rfl,?_⟩
  refine gW hEe ?_;conv=>whnf
  refine ⟨_,get,?_⟩
  have f:=AH x
  have g:=LJ l now R i o_ (cO x) out e (l.drop (i+1)) (fun c h1 j=>n (i+1) c o_ h1 j) a out.length 0 o_ s_
  exact zW
theorem aA7 (l:List Rn) (hs:Sm l) (now:Int):aA Tryz.prog 216 [.slice 14 (rav l) .no,ii now] [] (.ret (.slice 1 (iv (rE now l [])) .no)) []:=by
 refine cT (E:=Ee) (fn:=Tryz.f216) (g:=.pure _) fun _=>?_
 have a:=PR l hs now _ l.length 0 [] o_ s_ rfl
 exact zW
def stF (c:Con) (l:List Rn) (g:Gan):List Int->Option Int
 | []=>none
 | t::r=>if (bU c (atL l t) g).isSome=true then some t else stF c l g r
def stA:Option Int->AVal
 | some t=>.tup [ii t,.bool true]
 | none=>.tup [ii 0,.bool false]
def lE (c:Con) (now:Int) (l:List Rn) (g:Gan):Option Int:=stF c l g (now::vX l now)
noncomputable abbrev aCG:Func:=Tryz.f194
theorem O5 (c:Con) (o:c.sm) (now:Int) (l:List Rn) (hs:Sm l) (g:Gan) (n:0<=g.pods/\g.pods<=16) (es:List Int) (q:es.length<=1048576) (R:Option Int):∀ (m i:Nat),i+m=es.length+1->stF c l g ((now::es).drop i)=R->
  To E aCG (.pure (.ret (stA R))) (.head (stk aCG 0) [(1,ii now),(2,.slice 14 (rav l) .no),(4,.ref 0 0),(7,.ref 1 0),(10,.slice 1 (iv es) .no),(21,.int .i64 (((iv es).length:Nat)+1)),(22,ii i)] (UY c g)):=by
 have k:(iv es).length=es.length:=by simp
 intro m
 induction m with
 | zero=>
  intro i r a
  rw [Ae q_] at a
  have a:none=R:=a
  subst a
  refine gV ?_
  exact zW
 | succ m f=>
  intro i r a
  have e:i<(now::es).length:=by simp;omega
  rw [Ac e] at a
  have f:=f (i+1) o_
  cases i with
  | zero=>
   have a:stF c l g (now::(now::es).drop 1)=R:=a
   have d:=vU c o (atL l now) (R9 hs now) g n
   have b:=aDK l hs now
   unfold stF at a
   generalize bU c (atL l now) g=Q at a d
   unfold fdA at d
   generalize atL l now=al at b d
   refine gV ?_
   refine aT fun h=>?_
   refine gV ?_
   refine aF fun h=>?_
   refine gV ?_
   refine .pure _ [] b ?_
   refine gV ?_
   cases Q with
   | none=>
    rw [if_neg d_] at a
    have next:=f a
    exact zW
   | some x=>
    exact zqha13
  | succ j=>
   have p:j<es.length:=by simp at e;omega
   have a:stF c l g (es[j]::(now::es).drop (j+1+1))=R:=a
   have get:(iv es)[j]? =some (ii es[j]):=bS p
   generalize es[j]=t at a get
   have d:=vU c o (atL l t) (R9 hs t) g n
   have b:=aDK l hs t
   unfold stF at a
   generalize bU c (atL l t) g=Q at a d
   unfold fdA at d
   generalize atL l t=al at b d
   refine gV ?_
   refine aT fun h=>?_
   refine gV ?_
   refine aT fun h=>?_
   refine gV ?_
   refine aJ ?_
   refine gV ?_
   refine ⟨j,by omega,?_⟩
   refine gV ?_
   refine ⟨_,get,?_⟩
   refine gV ?_
   refine .pure _ [] b ?_
   refine gV ?_
   cases Q with
   | none=>
    rw [if_neg d_] at a
    have next:=f a
    exact zW
   | some x=>
    exact zqha13
theorem aAa (c:Con) (h:c.sm) (now:Int) (l:List Rn) (hs:Sm l) (g:Gan) (e:0<=g.pods/\g.pods<=16):aA Tryz.prog 194 [c.av,ii now,.slice 14 (rav l) .no,g.av] [] (.ret (stA (lE c now l g))) []:=by
 have a:(vX l now).length<=1048576:=by
  unfold vX sR
  rw [Mc]
  have:=F5 now l []
  have:=hs.1
  simp at *
  omega
 have d:=aGm l hs now
 unfold lE
 generalize vX l now=es at a d
 have b:(iv es).length=es.length:=by simp
 refine c_ Tryz.f194 fun _=>?_
 refine gV ?_
 refine .pure _ [] d ?_
 refine gV ?_
 refine aJ ?_
 refine gV ?_
 exact To.cut [1,2,4,7,10,21,22] 2 rfl rfl rfl rfl (O5 c h now l hs g e es a _ (es.length+1) 0 o_ rfl)
def bmB (now:Int) (g:Gan) (t:Int):Bool:=decide (cO ⟨g,0,0,now,0,[]⟩<=t)
theorem aDD (now:Int) (g:Gan) (t:Int) (b:Bool) (a:bmB now g t=b):aA Tryz.prog 247 [ii now,g.av,ii t] [] (.ret (.bool b)) []:=by
 have c:=JE ⟨g,0,0,now,0,[]⟩
 unfold bmB at a
 generalize cO ⟨g,0,0,now,0,[]⟩=x at a c
 subst a
 exact c_ Tryz.f247 fun _=>zW
theorem aGW (now:Int) (g:Gan) (t:Int):aA Tryz.prog 247 [ii now,g.av,ii t] [] (.ret (.bool (bmB now g t))) []:=aDD now g t _ rfl
theorem aAO (now:Int) (g:Gan) (t:Int) (b:Bool) (a:bmB now g t=b):aA Tryz.prog 144 [ii now,g.av,ii t] [] (.ret (.bool b)) []:=by
 have c:=AH ⟨g,0,0,now,0,[]⟩
 unfold bmB at a
 generalize cO ⟨g,0,0,now,0,[]⟩=x at a c
 subst a
 exact c_ Tryz.f144 fun _=>zW
theorem aES (now:Int) (g:Gan) (t:Int):aA Tryz.prog 144 [ii now,g.av,ii t] [] (.ret (.bool (bmB now g t))) []:=aAO now g t _ rfl
def aQ (v:V3):Bool:=decide (0<=v.a/\v.a<=1048576)&&decide (0<=v.b/\v.b<=1048576)&&decide (0<=v.c/\v.c<=1048576)
theorem V6 (v:V3) (b:Bool) (d:aQ v=b):aA Tryz.prog 63 [v.av] [] (.ret (.bool b)) []:=by
 unfold aQ at d
 refine c_ Tryz.f63 fun _=>?_
 repeat' first
  | (refine gW hE ?_;conv=>whnf)
  | exact d
  | refine aY ?_
  | refine aN ?_
  | refine Aa (fun h=>?_) (fun h=>?_)
  | refine aJ ?_
  | refine Ah _ (Aa rfl ?_)
  | refine Aa d_ ?_
 all_goals (refine congrArg (fun b=>Res.ret (AVal.bool b)) ?_;rw [<-d];simp only [decide_eq_true_eq,decide_eq_false_iff_not] at *)
 .rw [decide_eq_false (p:=0<=v.a/\v.a<=1048576) o_];rfl
 .rw [decide_eq_false (p:=0<=v.a/\v.a<=1048576) o_];rfl
 .rw [decide_eq_false (p:=0<=v.b/\v.b<=1048576) o_,Bt];rfl
 .rw [decide_eq_false (p:=0<=v.b/\v.b<=1048576) o_,Bt];rfl
 .rw [decide_eq_false (p:=0<=v.c/\v.c<=1048576) o_,Bt]
 .rw [decide_eq_false (p:=0<=v.c/\v.c<=1048576) o_,Bt]
 .rw [decide_eq_true (p:=0<=v.a/\v.a<=1048576) o_,decide_eq_true (p:=0<=v.b/\v.b<=1048576) o_,decide_eq_true (p:=0<=v.c/\v.c<=1048576) o_];rfl
theorem nI (v:V3):aA Tryz.prog 63 [v.av] [] (.ret (.bool (aQ v))) []:=V6 v _ rfl
def rlB (ns:List Nod) (t:Int):Bool:=if decide (t<0)=true then false else if decide ((ns.length:Int)<=t)=true then false else ns.all fun x=>!(x.p==t)
noncomputable abbrev aCK:Func:=Tryz.f133
theorem PG (c:Con) (g:c.sm) (t:Int) (r:Bool):∀ (m i:Nat),i+m=c.ns.length->((c.ns.drop i).all fun x=>!(x.p==t))=r->
  To E aCK (.pure (.ret (.bool r))) (.head (stk aCK 0) [(1,ii t),(2,.ref 0 0),(5,ii i)] [.cells 26 c.cs]):=by
 have f:(nav c.ns).length=c.ns.length:=by simp
 have h1:=g.ns
 intro m
 induction m with
 | zero=>
  intro i j a
  rw [Ae o_] at a
  have a:true=r:=a
  subst a
  refine gV ?_
  exact zW
 | succ m e=>
  intro i j a
  have d:i<c.ns.length:=o_
  rw [Ac d,Ei] at a
  have get:=fM d
  generalize c.ns[i]=x at a get
  have e:=e (i+1) o_
  refine gV ?_
  refine aT fun h=>?_
  refine gV ?_
  refine ⟨i,rfl,?_⟩
  refine gV ?_
  refine ⟨_,get,?_⟩
  refine gV ?_
  refine Aa (fun b=>?_) (fun b=>?_)
  .have b:(x.p==t)=true:=b
   rw [b] at a
   have a:false=r:=a
   subst a
   exact zW
  .have b:(x.p==t)=false:=b
   rw [b] at a
   have a:((c.ns.drop (i+1)).all fun x=>!(x.p==t))=r:=a
   repeat' first | (refine gN hE ?_;conv=>whnf) | exact rfl | refine aY ?_ | refine aN ?_ | refine aT fun h=>?_ | refine aF fun h=>?_ | refine ⟨fun h=>?_,fun h=>?_⟩ | refine aJ ?_ | refine ⟨_,rfl,?_⟩ | refine aD ?_ | fail
   exact To.cut [1,2,5] 1 rfl rfl rfl rfl (e a)
theorem W5 (c:Con) (i:c.sm) (t:Int) (r:Bool) (a:rlB c.ns t=r):aA Tryz.prog 133 [c.av,ii t] [] (.ret (.bool r)) []:=by
 have d:(nav c.ns).length=c.ns.length:=by simp
 unfold rlB at a
 by_cases e:t<0
 .rw [if_pos (decide_eq_true e)] at a
  subst a
  exact c_ Tryz.f133 fun _=>zW
 rw [if_neg (by rw [decide_eq_false e];decide)] at a
 by_cases b:(c.ns.length:Int)<=t
 .rw [if_pos (decide_eq_true b)] at a
  subst a
  exact c_ Tryz.f133 fun _=>zW
 rw [if_neg (by rw [decide_eq_false b];decide)] at a
 refine c_ Tryz.f133 fun _=>?_
 repeat' first | (refine gN hE ?_;conv=>whnf) | exact rfl | refine aY ?_ | refine aN ?_ | refine aT fun h=>?_ | refine aF fun h=>?_ | refine ⟨fun h=>?_,fun h=>?_⟩ | refine aJ ?_ | refine ⟨_,rfl,?_⟩ | refine aD ?_ | fail
 exact To.cut [1,2,5] 1 rfl rfl rfl rfl (PG c i t r c.ns.length 0 o_ a)
theorem iG (c:Con) (a:c.sm) (t:Int):aA Tryz.prog 133 [c.av,ii t] [] (.ret (.bool (rlB c.ns t))) []:=W5 c a t _ rfl
def NK (ns:List Nod) (g:Gan):Bool:=decide (1<=g.id/\g.id<=1073741824/\1<=g.pods/\g.pods<=16)&&(aQ g.need&&(decide (1<=g.run/\g.run<=1048576/\0<=g.lev/\g.lev<=3/\0<=g.pref/\g.pref<=g.lev)&&rlB ns g.ten))
def jU (ns:List Nod) (g:Gan):Int:=if NK ns g=true then 1 else 0
theorem vT (c:Con) (e:c.sm) (g:Gan) (r:Int) (a:jU c.ns g=r):aA Tryz.prog 92 [c.av,g.av] [] (.ret (ii r)) []:=by
 have h:=nI g.need
 have hl:=iG c e g.ten
 unfold jU NK at a
 generalize aQ g.need=bv at a h
 generalize rlB c.ns g.ten=bl at a hl
 by_cases d:1<=g.id/\g.id<=1073741824/\1<=g.pods/\g.pods<=16
 .rw [decide_eq_true d] at a
  cases bv with
  | false=>
   have a:0=r:=a
   exact zqha3
  | true=>
   by_cases b:1<=g.run/\g.run<=1048576/\0<=g.lev/\g.lev<=3/\0<=g.pref/\g.pref<=g.lev
   .rw [decide_eq_true b] at a
    cases bl with
    | false=>
     have a:0=r:=a
     exact zqha3
    | true=>
     have a:1=r:=a
     exact zqha3
   .rw [decide_eq_false b] at a
    have a:0=r:=a
    exact zqha3
 .rw [decide_eq_false d] at a
  have a:0=r:=a
  exact zqha3
theorem AP (c:Con) (a:c.sm) (g:Gan):aA Tryz.prog 92 [c.av,g.av] [] (.ret (ii (jU c.ns g))) []:=vT c a g _ rfl
theorem W8 (a b:V3) (r:Bool) (c:cF a b=r):aA Tryz.prog 134 [a.av,b.av] [] (.ret (.bool r)) []:=by
 unfold cF at c
 refine c_ Tryz.f134 fun _=>?_
 repeat' first
  | (refine gW hE ?_;conv=>whnf)
  | exact c
  | refine aY ?_
  | refine aN ?_
  | refine Aa (fun h=>?_) (fun h=>?_)
  | refine aJ ?_
  | refine Ah _ (Aa rfl ?_)
  | refine Aa d_ ?_
 all_goals (rw [<-c];simp_all)
theorem lG (a b:V3):aA Tryz.prog 134 [a.av,b.av] [] (.ret (.bool (cF a b))) []:=W8 a b _ rfl
def zB (v:V3):Bool:=v.a==0&&(v.b==0&&(v.c==0&&true))
def rH (i:Nat) (x:Nod):Prop:=(i=0/\x.p≠ -1)\/(0<i/\(x.p<0\/(i:Int)<=x.p))\/x.w<1\/1000<x.w
instance (i:Nat) (x:Nod):Decidable (rH i x):=by unfold rH;infer_instance
def nW (bl:Bool) (i:Nat) (x:Nod):Bool:=if rH i x then false else if bl=true then aQ x.n&&(aQ x.b&&(aQ x.l&&cF x.l x.n)) else zB x.n&&(zB x.b&&zB x.l)
theorem aBN (c:Con) (i:Nat) (x:Nod) (a:(nav c.ns)[i]? =some x.av) (b:rH i x):aA Tryz.prog 62 [c.av,ii i] [] (.ret (.bool false)) []:=by
 unfold rH at b
 refine c_ Tryz.f62 fun _=>?_
 repeat' first
  | (refine gW hE ?_;conv=>whnf)
  | (refine gW hE ?_;(conv=>whnf);done)
  | exact rfl
  | refine Ah i (Aa rfl ?_)
  | refine Ah _ (Aa a ?_)
  | refine aY ?_
  | refine aN ?_
  | refine aF fun h=>?_
  | refine aT fun h=>?_
  | refine Aa (fun h=>?_) (fun h=>?_)
 all_goals (exfalso;simp at *;omega)
theorem XT (c:Con) (i:Nat) (x:Nod) (q:(nav c.ns)[i]? =some x.av) (k:¬ rH i x) (a j e d:Bool) (hl:aA Tryz.prog 133 [c.av,ii i] [] (.ret (.bool true)) [])
  (p:aA Tryz.prog 63 [x.n.av] [] (.ret (.bool a)) []) (r:aA Tryz.prog 63 [x.b.av] [] (.ret (.bool j)) []) (o:aA Tryz.prog 63 [x.l.av] [] (.ret (.bool e)) [])
  (m:aA Tryz.prog 134 [x.l.av,x.n.av] [] (.ret (.bool d)) []):aA Tryz.prog 62 [c.av,ii i] [] (.ret (.bool (a&&(j&&(e&&d))))) []:=by
 unfold rH at k
 refine c_ Tryz.f62 fun _=>?_
 repeat' first
  | (refine gW hE ?_;conv=>whnf)
  | exact rfl
  | refine .pure _ [] hl ?_
  | refine .pure _ [] p ?_
  | refine .pure _ [] r ?_
  | refine .pure _ [] o ?_
  | refine .pure _ [] m ?_
  | refine Ah i (Aa rfl ?_)
  | refine Ah _ (Aa q ?_)
  | refine aY ?_
  | refine aN ?_
  | refine aF fun h=>?_
  | refine aT fun h=>?_
  | refine Aa (fun h=>?_) (fun h=>?_)
 all_goals first
  | (simp only [*,Bo,Cj,Bt];done)
  | (exfalso;simp at *;omega)
theorem QE (c:Con) (i:Nat) (x:Nod) (a:(nav c.ns)[i]? =some x.av) (d:¬ rH i x) (hl:aA Tryz.prog 133 [c.av,ii i] [] (.ret (.bool false)) []):aA Tryz.prog 62 [c.av,ii i] [] (.ret (.bool (zB x.n&&(zB x.b&&zB x.l)))) []:=by
 unfold rH at d
 unfold zB
 refine c_ Tryz.f62 fun _=>?_
 repeat' first
  | (refine gW hE ?_;conv=>whnf)
  | exact rfl
  | refine .pure _ [] hl ?_
  | refine Ah i (Aa rfl ?_)
  | refine Ah _ (Aa a ?_)
  | refine aY ?_
  | refine aN ?_
  | refine aF fun h=>?_
  | refine aT fun h=>?_
  | refine Aa (fun h=>?_) (fun h=>?_)
 all_goals first
  | (simp only [*,Bo,Cj,Bt];done)
  | (exfalso;simp at *;omega)
theorem aFh (c:Con) (g:c.sm) (i:Nat) (x:Nod) (d:(nav c.ns)[i]? =some x.av):aA Tryz.prog 62 [c.av,ii i] [] (.ret (.bool (nW (rlB c.ns i) i x))) []:=by
 have hl:=iG c g i
 unfold nW
 by_cases a:rH i x
 .rw [if_pos a];exact aBN c i x d a
 .rw [if_neg a]
  cases e:rlB c.ns i with
  | true=>
   rw [e] at hl
   rw [if_pos rfl]
   exact XT c i x d a _ _ _ _ hl (nI x.n) (nI x.b) (nI x.l) (lG x.l x.n)
  | false=>
   rw [e] at hl
   rw [if_neg d_]
   exact QE c i x d a hl
def JX (x:Hos):Prop:=x.f<0\/100<x.f\/x.b<0\/100<x.b\/x.r<0\/100<x.r
instance (x:Hos):Decidable (JX x):=by unfold JX;infer_instance
def oA (x:Hos):Bool:=if JX x then false else aQ x.c
def nA (ns:List Nod):Nat->List Nod->Bool
 | _,[]=>true
 | i,x::r=>if nW (rlB ns i) i x=true then nA ns (i+1) r else false
def zN (c:Con):Prop:=(1<=c.ns.length/\c.ns.length<=12)/\(1<=c.hs.length/\c.hs.length<=24)/\(1<=c.half/\c.half<=1048576)/\0<=c.age/\c.age<=1048576
instance (c:Con):Decidable (zN c):=by unfold zN;infer_instance
def bC (c:Con):Int:=if zN c then (if nA c.ns 0 c.ns=true then (if c.hs.all oA=true then 0 else 2) else 2) else 2
noncomputable abbrev JB:Func:=Tryz.f20
theorem N5 (c:Con) (j:c.sm) (r:Int):∀ (m i:Nat),i+m=c.hs.length->(if (c.hs.drop i).all oA=true then (0:Int) else 2)=r->
  To E JB (.pure (.ret (ii r))) (.head (stk JB 1) [(1,.ref 0 0),(4,ii i)] [.cells 26 c.cs]):=by
 have g:(hav c.hs).length=c.hs.length:=by simp
 have h1:=j.hs
 intro m
 induction m with
 | zero=>
  intro i k a
  rw [Ae o_] at a
  have a:0=r:=a
  subst a
  refine gV ?_
  exact zW
 | succ m f=>
  intro i k a
  have d:i<c.hs.length:=o_
  rw [Ac d,Ei] at a
  have get:=oW d
  generalize c.hs[i]=x at a get
  have f:=f (i+1) o_
  have l:=nI x.c
  unfold oA at a
  generalize aQ x.c=b at l a
  by_cases e:JX x
  .rw [if_pos e] at a
   have a:2=r:=a
   subst a
   unfold JX at e
   refine gV ?_
   refine aT fun h=>?_
   repeat' first
    | (refine gN hE ?_;conv=>whnf)
    | exact rfl
    | refine Ah i (Aa rfl ?_)
    | refine Ah _ (Aa get ?_)
    | refine aY ?_
    | refine aN ?_
    | refine aF fun h=>?_
    | refine aT fun h=>?_
    | refine Aa (fun h=>?_) (fun h=>?_)
   all_goals (exfalso;simp at *;omega)
  .rw [if_neg e] at a
   unfold JX at e
   cases b with
   | false=>
    have a:2=r:=a
    subst a
    refine gV ?_
    exact zW
   | true=>
    have f:=f a
    refine gV ?_
    exact zW
theorem N4 (c:Con) (f:c.sm) (r:Int):∀ (m i:Nat),i+m=c.ns.length->(if nA c.ns i (c.ns.drop i)=true then (if c.hs.all oA=true then (0:Int) else 2) else 2)=r->
  To E JB (.pure (.ret (ii r))) (.head (stk JB 0) [(1,.ref 0 0),(3,ii i)] [.cells 26 c.cs]):=by
 have g:(nav c.ns).length=c.ns.length:=by simp
 have h1:=f.ns
 intro m
 induction m with
 | zero=>
  intro i j a
  rw [Ae o_] at a
  have a:(if c.hs.all oA=true then (0:Int) else 2)=r:=a
  refine gV ?_
  refine aF fun h=>?_
  repeat' first | (refine gN hE ?_;conv=>whnf) | exact rfl | refine aY ?_ | refine aN ?_ | refine aT fun h=>?_ | refine aF fun h=>?_ | refine ⟨fun h=>?_,fun h=>?_⟩ | refine aJ ?_ | refine ⟨_,rfl,?_⟩ | refine aD ?_ | fail
  exact To.cut [1,4] 1 rfl rfl rfl rfl (N5 c f r c.hs.length 0 o_ a)
 | succ m e=>
  intro i j a
  have d:i<c.ns.length:=o_
  rw [Ac d] at a
  have k:=aFh c f i _ (fM d)
  unfold nA at a
  have e:=e (i+1) o_
  generalize nW (rlB c.ns i) i c.ns[i]=b at a k
  cases b with
  | false=>
   have a:2=r:=a
   subst a
   refine gV ?_
   exact zW
  | true=>
   rw [if_pos (show true=true from rfl)] at a
   have e:=e a
   refine gV ?_
   exact zW
theorem check_any (c:Con) (e:c.sm) (r:Int) (a:bC c=r):aA Tryz.prog 20 [c.av] [] (.ret (ii r)) []:=by
 have i:(nav c.ns).length=c.ns.length:=by simp
 have d:(hav c.hs).length=c.hs.length:=by simp
 unfold bC at a
 by_cases b:zN c
 .rw [if_pos b] at a
  unfold zN at b
  refine c_ Tryz.f20 fun _=>?_
  repeat' first | (refine gN hE ?_;conv=>whnf) | exact rfl | refine aY ?_ | refine aN ?_ | refine aT fun h=>?_ | refine aF fun h=>?_ | refine ⟨fun h=>?_,fun h=>?_⟩ | refine aJ ?_ | refine ⟨_,rfl,?_⟩ | refine aD ?_ | fail
  exact To.cut [1,3] 1 rfl rfl rfl rfl (N4 c e r c.ns.length 0 o_ a)
 .rw [if_neg b] at a
  subst a
  unfold zN at b
  refine c_ Tryz.f20 fun _=>?_
  repeat' first
   | (refine gN hE ?_;conv=>whnf)
   | exact rfl
   | refine aY ?_
   | refine aN ?_
   | refine aF fun h=>?_
   | refine aT fun h=>?_
   | refine Aa (fun h=>?_) (fun h=>?_)
  all_goals (exfalso;simp at *;omega)
theorem wE (c:Con) (a:c.sm):aA Tryz.prog 20 [c.av] [] (.ret (ii (bC c))) []:=check_any c a _ rfl
def tO (n:Nat) (l:List Int):Bool:=l.all fun h=>decide (0<=h/\h<(n:Int))
def R7 (c:Con) (now:Int) (x:Rn):Prop:=jU c.ns x.g=0\/x.st<0\/now<x.st\/(x.hs.length:Int)≠x.g.pods
instance (c:Con) (now:Int) (x:Rn):Decidable (R7 c now x):=by unfold R7;infer_instance
def aEE (c:Con) (now:Int) (x:Rn):Bool:=if R7 c now x then false else tO c.hs.length x.hs
def R8 (c:Con) (now:Int) (l:List Rn):Prop:=bC c≠0\/32<l.length\/now<0\/1099511627776<now
instance (c:Con) (now:Int) (l:List Rn):Decidable (R8 c now l):=by unfold R8;infer_instance
def xN (c:Con) (now:Int) (l:List Rn):Int:=if R8 c now l then 0 else if l.all (aEE c now)=true then 1 else 0
noncomputable abbrev YO:Func:=Tryz.f90
theorem aJx (c:Con) (p:c.sm) (now:Int) (l:List Rn) (x:Rn) (q:x.hs.length<=1048576) (r:Int) (j:Nat) (s:j<1048576):
  ∀ (m i:Nat),i+m=x.hs.length->(tO c.hs.length (x.hs.drop i)=false->r=0)->(tO c.hs.length (x.hs.drop i)=true->To E YO (.pure (.ret (ii r))) (.head (stk YO 0) [(1,ii now),(2,.slice 14 (rav l) .no),(3,.ref 0 0),(7,ii ((j:Int)+1))] [.cells 26 c.cs]))->
  To E YO (.pure (.ret (ii r))) (.head (stk YO 1) [(1,ii now),(2,.slice 14 (rav l) .no),(3,.ref 0 0),(7,ii j),(8,.ref 1 0),(9,ii i)] [.cells 26 c.cs,.cells 127 x.cs]):=by
 have g:(iv x.hs).length=x.hs.length:=by simp
 have k:(hav c.hs).length=c.hs.length:=by simp
 have h1:=p.hs
 intro m
 induction m with
 | zero=>
  intro i o b a
  rw [Ae o_] at a
  have a:=a rfl
  refine gV ?_
  exact zW
 | succ m e=>
  intro i o b a
  have d:i<x.hs.length:=o_
  rw [Ac d] at b a
  have get:=bS d
  generalize x.hs[i]=u at b a get
  have e:=e (i+1) o_
  unfold tO at b a
  rw [Ei] at b a
  by_cases f:0<=u/\u<(c.hs.length:Int)
  .rw [decide_eq_true f] at b a
   have next:=e b a
   refine gV ?_
   exact zW
  .rw [decide_eq_false f] at b
   have n:=b rfl
   subst n
   refine gV ?_
   refine aT fun h=>?_
   repeat' first
    | (refine gN hE ?_;conv=>whnf)
    | exact rfl
    | refine Ah i (Aa rfl ?_)
    | refine Ah _ (Aa get ?_)
    | refine aY ?_
    | refine aN ?_
    | refine aF fun h=>?_
    | refine aT fun h=>?_
    | refine Aa (fun h=>?_) (fun h=>?_)
   all_goals (exfalso;simp at *;omega)
theorem aF3 (c:Con) (s:c.sm) (now:Int) (l:List Rn) (hs:Sm l) (r:Int):∀ (m i:Nat),i+m=l.length->(if (l.drop i).all (aEE c now)=true then (1:Int) else 0)=r->
  To E YO (.pure (.ret (ii r))) (.head (stk YO 0) [(1,ii now),(2,.slice 14 (rav l) .no),(3,.ref 0 0),(7,ii i)] [.cells 26 c.cs]):=by
 have q:(rav l).length=l.length:=by simp
 have h1:=hs.1
 intro m
 induction m with
 | zero=>
  intro i u a
  rw [Ae o_] at a
  have a:1=r:=a
  subst a
  refine gV ?_
  exact zW
 | succ m n=>
  intro i u a
  have d:i<l.length:=o_
  have f:=hs.at d
  rw [Ac d,Ei] at a
  have get:=bN d
  generalize l[i]=x at a get f
  have n:=n (i+1) o_
  have b:=AP c s x.g
  have o:(iv x.hs).length=x.hs.length:=by simp
  unfold aEE at a
  by_cases e:R7 c now x
  .rw [if_pos e] at a
   have a:0=r:=a
   subst a
   unfold R7 at e
   generalize jU c.ns x.g=gi at e b
   refine gV ?_
   refine aT fun h=>?_
   repeat' first
    | (refine gN hE ?_;conv=>whnf)
    | exact rfl
    | refine .pure _ [] b ?_
    | refine Ah i (Aa rfl ?_)
    | refine Ah _ (Aa get ?_)
    | refine aY ?_
    | refine aN ?_
    | refine aF fun h=>?_
    | refine aT fun h=>?_
    | refine Aa (fun h=>?_) (fun h=>?_)
   all_goals (exfalso;simp at *;omega)
  .rw [if_neg e] at a
   unfold R7 at e
   generalize jU c.ns x.g=gi at e b
   have j:(gi==0)=false:=by simp;omega
   have p:((x.hs.length:Int) !=x.g.pods)=false:=by simp;omega
   have k:=aJx c s now l x f r i o_ x.hs.length 0 o_ (fun h=>by
    have h:tO c.hs.length x.hs=false:=h
    rw [h] at a
    exact a.symm) (fun h=>by
    have h:tO c.hs.length x.hs=true:=h
    rw [h] at a
    exact n a)
   refine gV ?_
   refine aT fun h=>?_
   repeat' first
    | (refine gN hE ?_;conv=>whnf)
    | refine .pure _ [] b ?_
    | refine Ah i (Aa rfl ?_)
    | refine Ah _ (Aa get ?_)
    | refine aY ?_
    | refine aN ?_
    | refine aF fun h=>?_
    | refine aT fun h=>?_
    | refine Aa (fun h=>absurd (show (gi==0)=true from h) (by rw [j];decide)) (fun h=>?_)
    | refine Aa (fun h=>absurd h (by rw [o,p];decide)) (fun h=>?_)
   all_goals exact To.cut [1,2,3,7,8,9] 2 rfl rfl rfl rfl k
theorem aF4 (c:Con) (i:c.sm) (now:Int) (l:List Rn) (hs:Sm l) (r:Int) (d:xN c now l=r):aA Tryz.prog 90 [c.av,ii now,.slice 14 (rav l) .no] [] (.ret (ii r)) []:=by
 have e:(rav l).length=l.length:=by simp
 have a:=wE c i
 unfold xN at d
 by_cases b:R8 c now l
 .rw [if_pos b] at d
  subst d
  unfold R8 at b
  generalize bC c=k at b a
  refine c_ Tryz.f90 fun _=>?_
  repeat' first
   | (refine gN hE ?_;conv=>whnf)
   | exact rfl
   | refine .pure _ [] a ?_
   | refine aY ?_
   | refine aN ?_
   | refine aF fun h=>?_
   | refine aT fun h=>?_
   | refine Aa (fun h=>?_) (fun h=>?_)
  all_goals (exfalso;simp at *;omega)
 .rw [if_neg b] at d
  unfold R8 at b
  generalize bC c=k at b a
  have j:(k !=0)=false:=by simp;omega
  refine c_ Tryz.f90 fun _=>?_
  repeat' first
   | (refine gN hE ?_;conv=>whnf)
   | refine .pure _ [] a ?_
   | refine aY ?_
   | refine aN ?_
   | refine aF fun h=>?_
   | refine aT fun h=>?_
   | refine Aa (fun h=>absurd h (by rw [j];decide)) (fun h=>?_)
  all_goals exact To.cut [1,2,3,7] 1 rfl rfl rfl rfl (aF3 c i now l hs r l.length 0 o_ d)
theorem aJw (c:Con) (a:c.sm) (now:Int) (l:List Rn) (hs:Sm l):aA Tryz.prog 90 [c.av,ii now,.slice 14 (rav l) .no] [] (.ret (ii (xN c now l))) []:=aF4 c a now l hs _ rfl
abbrev St (l:List Int):Prop:=l.Pairwise (· < ·)
theorem CX {n x:Int}:∀ {l:List Int},x∈oV n l↔x=n\/x∈l
 | []=>by simp [oV]
 | y::r=>by
  have a:=CX (n:=n) (x:=x) (l:=r)
  unfold oV
  split
  .simp only [Au,a]
   constructor
   .exact zqha11
   .exact zqha11
  .split
   .rename_i h
    subst h
    simp only [Au]
    constructor
    .rintro (h | h)
     .exact .inl h
     .exact .inr (.inr h)
    .rintro (h | h | h)
     .exact .inl h
     .exact .inl h
     .exact .inr h
   .simp only [Au]
theorem UG {n:Int}:∀ {l:List Int},St l->St (oV n l)
 | [],_=>by simp [oV]
 | y::r,h=>by
  have a:=Br.1 h
  unfold oV
  split
  .rename_i b
   refine Br.2 ⟨fun z hz=>?_,UG a.2⟩
   rcases CX.1 hz with rfl | hz
   .exact b
   .exact a.1 z hz
  .split
   .exact h
   .rename_i h1 c
    refine Br.2 ⟨fun z hz=>?_,h⟩
    rcases Au.1 hz with rfl | hz
    .omega
    .have:=a.1 z hz
     omega
theorem aBh {now:Int}:∀ {l:List Rn} {out:List Int},St out->St (rE now l out)
 | [],_,h=>h
 | x::r,out,h=>by
  unfold rE
  split
  .exact aBh h
  .exact aBh (UG h)
theorem PX {now n:Int}:∀ {l:List Rn} {out:List Int},n∈rE now l out↔n∈out\/∃ x∈l,cO x=n/\now<n
 | [],out=>by simp [rE]
 | x::r,out=>by
  unfold rE
  split
  .rename_i h
   rw [PX (l:=r)]
   constructor
   .rintro (h1 | ⟨y,a,h1⟩)
    .exact .inl h1
    .exact .inr ⟨y,Bd _ a,h1⟩
   .rintro (h1 | ⟨y,a,h1,b⟩)
    .exact .inl h1
    .rcases Au.1 a with rfl | a
     .omega
     .exact .inr ⟨y,a,h1,b⟩
  .rename_i h
   rw [PX (l:=r),CX]
   constructor
   .rintro ((h1 | h1) | ⟨y,a,h1⟩)
    .exact .inr ⟨x,by simp,h1.symm,by omega⟩
    .exact .inl h1
    .exact .inr ⟨y,Bd _ a,h1⟩
   .rintro (h1 | ⟨y,a,h1,b⟩)
    .exact .inl (.inr h1)
    .rcases Au.1 a with rfl | a
     .exact .inl (.inl h1.symm)
     .exact .inr ⟨y,a,h1,b⟩
theorem GS {n:Int}:∀ {l:List Int} {i:Nat},0<=yW n l i↔n∈l
 | [],i=>by simp [yW]
 | x::r,i=>by
  unfold yW
  split
  .rename_i h
   have:x=n:=by simpa using h
   simp [this]
  .rename_i h
   have:¬ x=n:=by simpa using h
   rw [GS (l:=r),Au]
   constructor
   .exact .inr
   .rintro (h | h)
    .exact absurd h.symm this
    .exact h
theorem US {l:List Int} {n:Int}:has l n=true↔n∈l:=by
 unfold has
 rw [decide_eq_true_eq,GS]
theorem F4 {now n:Int}:∀ {l:List Rn} {ks:List Int},n∈pJ now l ks↔n∈ks\/∃ x∈l,cO x=n/\now<n
 | [],ks=>by simp [pJ]
 | x::r,ks=>by
  unfold pJ
  rw [F4 (l:=r)]
  split
  .rename_i h
   simp only [Ag,decide_eq_true_eq] at h
   simp only [Az,Au,Ln,or_false]
   constructor
   .rintro ((h1 | h1) | ⟨y,a,h1⟩)
    .exact .inl h1
    .exact .inr ⟨x,.inl rfl,h1.symm,by omega⟩
    .exact .inr ⟨y,.inr a,h1⟩
   .rintro (h1 | ⟨y,rfl | a,h1,b⟩)
    .exact .inl (.inl h1)
    .exact .inl (.inr h1.symm)
    .exact .inr ⟨y,a,h1,b⟩
  .rename_i h
   simp only [Au]
   constructor
   .rintro (h1 | ⟨y,a,h1⟩)
    .exact .inl h1
    .exact .inr ⟨y,.inr a,h1⟩
   .rintro (h1 | ⟨y,rfl | a,h1,b⟩)
    .exact .inl h1
    .cases c:has ks (cO y) with
     | true=>exact .inl (h1▸US.1 c)
     | false=>
      refine absurd ?_ h
      rw [c,decide_eq_true o_]
      rfl
    .exact .inr ⟨y,a,h1,b⟩
theorem qR {now:Int}:∀ {l:List Rn} {ks:List Int},ks.Nodup->(pJ now l ks).Nodup
 | [],_,h=>h
 | x::r,ks,h=>by
  unfold pJ
  split
  .rename_i c
   refine qR ?_
   simp only [Ag,Eb] at c
   have f:cO x∉ks:=fun hm=>by
    have:=US.2 hm
    rw [this] at c
    cases c.2
   exact Bu.2 ⟨h,by simp,fun a g b d=>by
    simp only [Au,Ln,or_false] at d
    subst d
    exact fun e=>f (e▸g)⟩
  .exact qR h
theorem WL {l:List Int} {n:Int}:n∈sR l↔n∈l:=(Ku l _).mem_iff
theorem aAh {l:List Int} (h:l.Nodup):St (sR l):=by
 have h1:(sR l).Pairwise (fun a b=>decide (a<=b)=true):=List.pairwise_mergeSort (fun a b c h1 d=>by simp at *;omega) (fun a b=>by simp;omega) l
 have d:(sR l).Nodup:=(Ku l _).nodup_iff.2 h
 exact (h1.and d).imp fun ⟨a,b⟩=>by simp at a;omega
theorem aHg:∀ {a b:List Int},St a->St b->(∀ x,x∈a↔x∈b)->a=b
 | [],[],_,_,_=>rfl
 | [],y::s,_,_,h=>absurd ((h y).2 s_) s_
 | x::r,[],_,_,h=>absurd ((h x).1 s_) s_
 | x::r,y::s,ha,hb,h=>by
  have c:=Br.1 ha
  have d:=Br.1 hb
  have e:x=y:=by
   rcases Au.1 ((h x).1 s_) with e | h1
   .exact e
   .rcases Au.1 ((h y).2 s_) with e | f
    .exact e.symm
    .have:=d.1 x h1
     have:=c.1 y f
     omega
  subst e
  rw [aHg c.2 d.2 fun z=>?_]
  constructor
  .intro hz
   rcases Au.1 ((h z).1 (Bd _ hz)) with rfl | h1
   .have:=c.1 z hz;omega
   .exact h1
  .intro hz
   rcases Au.1 ((h z).2 (Bd _ hz)) with rfl | h1
   .have:=d.1 z hz;omega
   .exact h1
theorem NS (l:List Rn) (now:Int):vX l now=rE now l []:=by
 refine aHg (aAh (qR s_)) (aBh s_) fun x=>?_
 unfold vX
 rw [WL,F4,PX]
theorem PY (now:Int):∀ (l:List Rn) (out:List Int),(rE now l out).length<=out.length+l.length
 | [],out=>by simp [rE]
 | x::r,out=>by
  unfold rE
  split
  .have:=PY now r out
   simp only [Bq];omega
  .have:=PY now r (oV (cO x) out)
   have:=NC (cO x) out
   simp only [Bq];omega
theorem YR (l:List Rn) (now:Int):(vX l now).length<=l.length:=by
 rw [NS]
 have:=PY now l []
 simpa using this
end Go.Proofs.YticlgfdibfobdaaGreat
