/-
  What fits where: quotas, ledgers, hosts, placing, gangs, configurations, as walks.
-/
import Derived.Test.YtlanfgblaebddaaGreatProg
import Derived.Shelf.Sort.Plain
import Derived.Shelf.Slices.In.SortNone
import Derived.Test.YtlanfgblaebddaaGreatWE
set_option linter.all false
set_option maxHeartbeats 1000000
open And renaming intro->Aa
open Bool renaming and_eq_true->Af,and_false->Ct,false_and->Dn,false_eq_true->Cv,not_eq_true'->Co,true_and->Bw
open Exists renaming intro->Ai
open Int renaming le_refl->Di,tdiv->Ha,toNat_natCast->Dl,toNat_of_nonneg->Hw
open List renaming all_cons->Da,append_assoc->Ay,append_nil->Bm,drop->Fv,drop_eq_getElem_cons->Ad,drop_eq_nil_of_le->Ae,drop_zero->Bx,filter_congr->Kl,filter_cons_of_neg->Fa,filter_cons_of_pos->Fb,flatMap_cons->Hf,foldl_cons->Aq,getElem?_append_right->Ar,getElem?_eq_getElem->Ab,getElem?_eq_none->Bj,getElem?_eq_some_iff->Ac,getElem?_map->Bd,getElem_mem->Bg,length->Lk,length_append->Bo,length_cons->Bt,length_filter_le->Dp,length_map->Ck,length_nil->Gl,length_replicate->Fl,map_append->Bl,map_cons->Bk,map_map->Cu,map_set->Ka,mem_append->Ao,mem_cons->Aj,mem_cons_of_mem->Ap,mem_filter->Dt,mem_map->Bb,mem_or_eq_of_mem_set->Dj,mergeSort_perm->Ga,nil_append->Jv,nodup_append->Ax,not_mem_nil->Hr,pairwise_cons->Bn,pairwise_mergeSort->Kw,range->Df,range'->Gx,range'_succ->Jb,range_eq_range'->Gm,range_succ->Ju,replicate->Ah,set_append_right->Lh,take->En,take_append_drop->De,take_append_getElem->Hz,take_append_of_le_length->Ej,take_of_length_le->Cn
open List.cons renaming injEq->Jt
open Nat renaming ble->Ff,div_le_self->Et,le_refl->Bi,le_trans->Cm,mul_le_mul->Gg,zero_le->Cc
open Option renaming map_eq_some_iff->Cq
open Or renaming inl->Gy
namespace Go.Proofs.YtlanfgblaebddaaGreat
open Go Go.AW Go.Proofs
theorem zqha0 {P:Prop} (h:P:=by
 unfold H7 at hp
 by_cases e:x=t
 .rw [if_pos (decide_eq_true e)] at hp
  refine gV ?_
  refine To.beginR (k:=7) (gg:=0) rfl rfl b ?_
  repeat' first | (refine gN (hEl k [] [] []) ?_;conv=>whnf) | refine .pure _ [] (H1 c a need x d) ?_ | refine .pure _ [] (AC c f a need t x) ?_ | exact ⟨⟨rfl,rfl⟩,⟨rfl,rfl⟩⟩ | exact rfl | (refine zt ?_;try intro h) | refine zu (fun h=>?_) fun h=>?_ | fail
  all_goals (exfalso;simp_all)
 .rw [if_neg (by rw [decide_eq_false e];decide)] at hp
  refine gV ?_
  refine To.beginR (k:=7) (gg:=0) rfl rfl b ?_
  repeat' first | (refine gN (hEl k [] [] []) ?_;conv=>whnf) | refine .pure _ [] (H1 c a need x d) ?_ | refine .pure _ [] (AC c f a need t x) ?_ | exact ⟨⟨rfl,rfl⟩,⟨rfl,rfl⟩⟩ | exact rfl | (refine zt ?_;try intro h) | refine zu (fun h=>?_) fun h=>?_ | fail
  all_goals (exfalso;simp_all)):P:=h
theorem zqha1 {P:Prop} (h:P:=by
 rcases e with rfl | rfl
 .refine gV ?_
  refine To.beginR (k:=4) (gg:=0) rfl rfl b ?_
  refine gV ?_
  refine Aa (fun h=>?_) (fun h=>absurd rfl (of_decide_eq_false h))
  repeat' first | (refine gN (hEl l2 [] [] []) ?_;conv=>whnf) | refine .eff [] [0] _ _ rfl a ?_ | exact ⟨⟨rfl,rfl⟩,⟨rfl,rfl⟩⟩ | exact rfl | (refine zt ?_;try intro h) | refine zu (fun h=>?_) fun h=>?_ | fail
 .refine gV ?_
  refine To.beginR (k:=4) (gg:=0) rfl rfl b ?_
  refine gV ?_
  refine Aa (fun h=>?_) (fun h=>absurd rfl (of_decide_eq_false h))
  repeat' first | (refine gN (hEl l2 [] [] []) ?_;conv=>whnf) | refine .eff [] [0] _ _ rfl a ?_ | exact ⟨⟨rfl,rfl⟩,⟨rfl,rfl⟩⟩ | exact rfl | (refine zt ?_;try intro h) | refine zu (fun h=>?_) fun h=>?_ | fail):P:=h
theorem zqha2 {P:Prop} (h:P:=by
 have c:(iv a).length=a.length:=by simp
 have e:iv (a++[x])=iv a++[ii x]:=by simp
 unfold sP
 rw [e]
 refine gV ?_
 refine To.beginR (k:=2) (gg:=0) rfl rfl b ?_
 refine gV ?_
 refine ⟨⟨by simp only [maxLen];simp;omega,by simp;omega⟩,?_⟩
 refine gV ?_
 exact ⟨⟨rfl,rfl⟩,⟨rfl,rfl⟩⟩):P:=h
theorem zqha3 {P:Prop} (h:P:=by
 refine gV ?_
 refine ⟨i,rfl,?_⟩
 refine gV ?_
 refine ⟨by omega,?_⟩
 refine gV ?_
 refine ⟨by omega,?_⟩
 refine gV ?_
 refine aJ ?_
 refine gV ?_
 exact To.head [0,3,15,16] next):P:=h
theorem zqha4 {P:Prop} (h:P:=by
 refine gV ?_
 refine .sole rfl (.eff [] [0,1] _ _ rfl (ZN c x _ L) ?_)
 refine gV ?_
 exact ⟨⟨rfl,rfl⟩,⟨rfl,rfl⟩⟩):P:=h
theorem zqha5 {P:Prop} (h:P:=by
 refine To.part [1,7,10,14,15,16] [0,1,2] rfl rfl rfl ?_
 exact next):P:=h
theorem zqha6 {P:Prop} (h:P:=by
 refine gV ?_
 refine aJ ?_
 refine gV ?_
 refine To.part [1,5,6,20,21,22] [0,1,2,3] rfl rfl rfl ?_
 exact next):P:=h
theorem zqha7 {P:Prop} (h:P:=by
 refine gV ?_
 refine aJ ?_
 refine gV ?_
 refine To.part [1,3,7,8] [0,1] rfl rfl rfl ?_
 exact next):P:=h
theorem zqha8 {P:Prop} (h:P:=by
 refine gV ?_
 refine aJ ?_
 refine gV ?_
 exact To.cut [1,3,4,8,9,18,19,20] 3 rfl rfl rfl rfl next):P:=h
theorem zqha9 {P:Prop} (h:P:=by
 exact To.cut [5,9,30,31,32,37,38,39] 3 rfl rfl rfl rfl next):P:=h
theorem zqha10 {P:Prop} (h:P:=by
 refine To.part [0,1,5,6] [0] rfl rfl rfl ?_
 exact o out o_ (by rw [if_pos b] at d;exact d)):P:=h
theorem zqha11 {P:Prop} (h:P:=by
 rintro (h | h | h)
 .exact .inr (.inl h)
 .exact .inl h
 .exact .inr (.inr h)):P:=h
noncomputable def T0:Tab:=[
 (3,.mk (.int .i64) 1 false (.int .i64 0)),
 (4,.mk .bool 1 false (.bool false)),
 (40,.mk (.arr 3 1 false) 3 true (.agg [.int .i64 0,.int .i64 0,.int .i64 0])),
 (25,.mk (.strct [(0,1,false),(1,1,false),(2,1,false),(3,1,false)]) 4 true (.agg [.slice 11 [] .nil,.slice 6 [] .nil,.int .i64 0,.int .i64 0])),
 (22,.mk (.slc 64 11 88) 1 false (.slice 11 [] .nil)),
 (64,.mk (.strct [(0,1,false),(1,1,false),(2,3,true),(5,3,true),(8,3,true)]) 11 true (.agg [.int .i64 0,.int .i64 0,.int .i64 0,.int .i64 0,.int .i64 0,.int .i64 0,.int .i64 0,.int .i64 0,.int .i64 0,.int .i64 0,.int .i64 0])),
 (34,.mk (.slc 3 1 8) 1 false (.slice 1 [] .nil)),
 (104,.mk (.slc 40 3 24) 1 false (.slice 3 [] .nil)),
 (42,.mk (.strct [(0,1,false),(1,1,false),(2,1,false),(3,3,true),(6,1,false),(7,1,false),(8,1,false)]) 9 true (.agg [.int .i64 0,.int .i64 0,.int .i64 0,.int .i64 0,.int .i64 0,.int .i64 0,.int .i64 0,.int .i64 0,.int .i64 0])),
 (27,.mk (.slc 44 14 128) 1 false (.slice 14 [] .nil)),
 (44,.mk (.strct [(0,9,true),(9,1,false),(10,1,false),(11,1,false),(12,1,false),(13,1,false)]) 14 true (.agg [.int .i64 0,.int .i64 0,.int .i64 0,.int .i64 0,.int .i64 0,.int .i64 0,.int .i64 0,.int .i64 0,.int .i64 0,.int .i64 0,.int .i64 0,.int .i64 0,.int .i64 0,.slice 1 [] .nil])),
 (23,.mk (.slc 66 6 48) 1 false (.slice 6 [] .nil)),
 (66,.mk (.strct [(0,1,false),(1,1,false),(2,1,false),(3,3,true)]) 6 true (.agg [.int .i64 0,.int .i64 0,.int .i64 0,.int .i64 0,.int .i64 0,.int .i64 0])),
 (1,.mk .other 1 false .nilfunc),
 (2,.mk (.int .i64) 1 false (.int .i64 0)),
 (5,.mk (.int .u8) 1 false (.int .u8 0)),
 (6,.mk (.int .u8) 1 false (.int .u8 0)),
 (7,.mk (.strct [(0,1,false),(1,1,false),(2,1,false),(3,1,false)]) 4 true (.agg [.int .i64 0,.int .i64 0,.bool false,.int .u8 0])),
 (8,.mk (.strct [(0,1,false),(1,1,false),(2,1,false),(3,1,false)]) 4 true (.agg [.int .i64 0,.int .i64 0,.bool false,.int .u8 0])),
 (9,.mk .str 1 false (.str [])),
 (10,.mk .str 1 false (.str [])),
 (11,.mk .str 1 false (.str [])),
 (12,.mk (.int .u64) 1 false (.int .u64 0)),
 (13,.mk (.strct [(0,1,false),(1,1,false)]) 2 true (.agg [.str [],.int .u64 0])),
 (14,.mk (.strct [(0,1,false),(1,1,false)]) 2 true (.agg [.str [],.int .u64 0])),
 (15,.mk (.ptr 286) 1 false .nilptr),
 (16,.mk (.ptr 289) 1 false .nilptr),
 (17,.mk (.ptr 297) 1 false .nilptr),
 (18,.mk (.strct [(0,1,false)]) 1 true (.agg [.nilptr])),
 (19,.mk (.strct [(0,1,false)]) 1 true (.agg [.nilptr])),
 (20,.mk .iface 1 false .nilif),
 (21,.mk (.int .i32) 1 false (.int .i32 0)),
 (24,.mk (.strct [(0,1,false),(1,1,false),(2,1,false),(3,1,false)]) 4 true (.agg [.slice 11 [] .nil,.slice 6 [] .nil,.int .i64 0,.int .i64 0])),
 (26,.mk (.slc 62 11 88) 1 false (.slice 11 [] .nil)),
 (28,.mk (.slc 68 1 8) 1 false (.slice 1 [] .nil)),
 (29,.mk (.strct [(0,4,true),(4,1,false),(5,1,false),(6,1,false),(7,1,false),(8,1,false)]) 9 true (.agg [.slice 11 [] .nil,.slice 6 [] .nil,.int .i64 0,.int .i64 0,.int .i64 0,.int .i64 0,.slice 11 [] .nil,.slice 14 [] .nil,.slice 1 [] .nil])),
 (30,.mk (.strct [(0,4,true),(4,1,false),(5,1,false),(6,1,false),(7,1,false),(8,1,false)]) 9 true (.agg [.slice 11 [] .nil,.slice 6 [] .nil,.int .i64 0,.int .i64 0,.int .i64 0,.int .i64 0,.slice 11 [] .nil,.slice 14 [] .nil,.slice 1 [] .nil])),
 (31,.mk .other 1 false .nilfunc),
 (32,.mk .other 1 false .nilfunc),
 (33,.mk (.slc 46 3 24) 1 false (.slice 3 [] .nil)),
 (35,.mk .other 1 false .nilfunc),
 (36,.mk (.strct [(0,1,false),(1,1,false)]) 2 true (.agg [.int .i64 0,.int .i64 0])),
 (37,.mk (.strct [(0,1,false),(1,1,false)]) 2 true (.agg [.int .i64 0,.int .i64 0])),
 (38,.mk .other 1 false .nilfunc),
 (39,.mk (.arr 3 1 false) 3 true (.agg [.int .i64 0,.int .i64 0,.int .i64 0])),
 (41,.mk (.strct [(0,1,false),(1,1,false),(2,1,false),(3,3,true),(6,1,false),(7,1,false),(8,1,false)]) 9 true (.agg [.int .i64 0,.int .i64 0,.int .i64 0,.int .i64 0,.int .i64 0,.int .i64 0,.int .i64 0,.int .i64 0,.int .i64 0])),
 (43,.mk (.strct [(0,9,true),(9,1,false),(10,1,false),(11,1,false),(12,1,false),(13,1,false)]) 14 true (.agg [.int .i64 0,.int .i64 0,.int .i64 0,.int .i64 0,.int .i64 0,.int .i64 0,.int .i64 0,.int .i64 0,.int .i64 0,.int .i64 0,.int .i64 0,.int .i64 0,.int .i64 0,.slice 1 [] .nil])),
 (45,.mk (.strct [(0,1,false),(1,1,false),(2,1,false)]) 3 true (.agg [.int .i64 0,.int .i64 0,.int .i64 0])),
 (46,.mk (.strct [(0,1,false),(1,1,false),(2,1,false)]) 3 true (.agg [.int .i64 0,.int .i64 0,.int .i64 0])),
 (47,.mk .other 1 false .nilfunc),
 (48,.mk .other 1 false .nilfunc),
 (49,.mk .other 1 false .nilfunc),
 (50,.mk (.strct [(0,1,false),(1,4,true),(5,9,true),(14,1,false)]) 15 true (.agg [.int .i64 0,.slice 11 [] .nil,.slice 6 [] .nil,.int .i64 0,.int .i64 0,.int .i64 0,.int .i64 0,.int .i64 0,.int .i64 0,.int .i64 0,.int .i64 0,.int .i64 0,.int .i64 0,.int .i64 0,.int .i64 0])),
 (51,.mk (.strct [(0,1,false),(1,4,true),(5,9,true),(14,1,false)]) 15 true (.agg [.int .i64 0,.slice 11 [] .nil,.slice 6 [] .nil,.int .i64 0,.int .i64 0,.int .i64 0,.int .i64 0,.int .i64 0,.int .i64 0,.int .i64 0,.int .i64 0,.int .i64 0,.int .i64 0,.int .i64 0,.int .i64 0])),
 (53,.mk .other 1 false .nilfunc),
 (54,.mk .other 1 false .nilfunc),
 (55,.mk (.ptr 109) 1 false .nilptr),
 (56,.mk .other 1 false .nilfunc),
 (57,.mk .other 1 false .nilfunc),
 (58,.mk .other 1 false .nilfunc),
 (59,.mk .other 1 false .nilfunc),
 (60,.mk .other 1 false .nilfunc),
 (61,.mk (.strct [(0,9,true),(9,1,false),(10,1,false)]) 11 true (.agg [.int .i64 0,.int .i64 0,.int .i64 0,.int .i64 0,.int .i64 0,.int .i64 0,.int .i64 0,.int .i64 0,.int .i64 0,.int .i64 0,.int .i64 0])),
 (62,.mk (.strct [(0,9,true),(9,1,false),(10,1,false)]) 11 true (.agg [.int .i64 0,.int .i64 0,.int .i64 0,.int .i64 0,.int .i64 0,.int .i64 0,.int .i64 0,.int .i64 0,.int .i64 0,.int .i64 0,.int .i64 0])),
 (63,.mk (.strct [(0,1,false),(1,1,false),(2,3,true),(5,3,true),(8,3,true)]) 11 true (.agg [.int .i64 0,.int .i64 0,.int .i64 0,.int .i64 0,.int .i64 0,.int .i64 0,.int .i64 0,.int .i64 0,.int .i64 0,.int .i64 0,.int .i64 0])),
 (65,.mk (.strct [(0,1,false),(1,1,false),(2,1,false),(3,3,true)]) 6 true (.agg [.int .i64 0,.int .i64 0,.int .i64 0,.int .i64 0,.int .i64 0,.int .i64 0])),
 (67,.mk (.int .u64) 1 false (.int .u64 0)),
 (68,.mk (.int .u64) 1 false (.int .u64 0)),
 (70,.mk .other 1 false .nilfunc),
 (71,.mk (.int .i64) 1 false (.int .i64 0)),
 (72,.mk .other 1 false .nilfunc),
 (73,.mk .other 1 false .nilfunc),
 (74,.mk .other 1 false .nilfunc),
 (75,.mk (.mp 3 37) 1 false .nilmap),
 (76,.mk .other 1 false .nilfunc),
 (77,.mk .other 1 false .nilfunc),
 (78,.mk .other 1 false .nilfunc),
 (79,.mk .other 1 false .nilfunc),
 (80,.mk .other 1 false .nilfunc),
 (81,.mk .other 1 false .nilfunc),
 (83,.mk .other 1 false .nilfunc),
 (84,.mk .other 1 false .nilfunc),
 (85,.mk .other 1 false .nilfunc),
 (86,.mk .other 1 false .nilfunc),
 (88,.mk .other 1 false .nilfunc),
 (89,.mk .other 1 false .nilfunc),
 (90,.mk .other 1 false .nilfunc),
 (91,.mk .other 1 false .nilfunc),
 (92,.mk (.strct []) 0 true (.agg [])),
 (93,.mk (.strct []) 0 true (.agg [])),
 (94,.mk (.strct []) 0 true (.agg [])),
 (95,.mk (.int .u32) 1 false (.int .u32 0)),
 (96,.mk (.strct [(0,0,true),(0,1,false)]) 1 true (.agg [.int .u32 0])),
 (97,.mk (.strct [(0,0,true),(0,1,false)]) 1 true (.agg [.int .u32 0])),
 (98,.mk (.strct [(0,1,false),(1,1,false)]) 2 true (.agg [.int .i32 0,.int .u32 0])),
 (100,.mk (.strct [(0,0,true),(0,2,true)]) 2 true (.agg [.int .i32 0,.int .u32 0])),
 (101,.mk (.strct [(0,0,true),(0,2,true)]) 2 true (.agg [.int .i32 0,.int .u32 0])),
 (102,.mk (.strct [(0,0,true),(0,1,true),(1,2,true)]) 3 true (.agg [.int .u32 0,.int .i32 0,.int .u32 0])),
 (103,.mk (.strct [(0,0,true),(0,1,true),(1,2,true)]) 3 true (.agg [.int .u32 0,.int .i32 0,.int .u32 0])),
 (105,.mk (.strct []) 0 true (.agg [])),
 (106,.mk (.strct [(0,0,true),(0,0,true),(0,1,false)]) 1 true (.agg [.int .i64 0])),
 (107,.mk (.strct [(0,0,true),(0,0,true),(0,1,false)]) 1 true (.agg [.int .i64 0])),
 (108,.mk (.strct [(0,9,true),(9,3,true),(12,1,false),(13,1,false),(14,1,true)]) 15 true (.agg [.slice 11 [] .nil,.slice 6 [] .nil,.int .i64 0,.int .i64 0,.int .i64 0,.int .i64 0,.slice 11 [] .nil,.slice 14 [] .nil,.slice 1 [] .nil,.int .u32 0,.int .i32 0,.int .u32 0,.nilmap,.slice 3 [] .nil,.int .i64 0])),
 (109,.mk (.strct [(0,9,true),(9,3,true),(12,1,false),(13,1,false),(14,1,true)]) 15 true (.agg [.slice 11 [] .nil,.slice 6 [] .nil,.int .i64 0,.int .i64 0,.int .i64 0,.int .i64 0,.slice 11 [] .nil,.slice 14 [] .nil,.slice 1 [] .nil,.int .u32 0,.int .i32 0,.int .u32 0,.nilmap,.slice 3 [] .nil,.int .i64 0])),
 (110,.mk .other 1 false .nilfunc),
 (111,.mk .other 1 false .nilfunc),
 (112,.mk .other 1 false .nilfunc),
 (113,.mk .other 1 false .nilfunc),
 (114,.mk (.ptr 116) 1 false .nilptr),
 (115,.mk (.strct [(0,9,true),(9,1,false),(10,1,false),(11,1,false)]) 12 true (.agg [.slice 11 [] .nil,.slice 6 [] .nil,.int .i64 0,.int .i64 0,.int .i64 0,.int .i64 0,.slice 11 [] .nil,.slice 14 [] .nil,.slice 1 [] .nil,.slice 3 [] .nil,.bool false,.int .i64 0])),
 (116,.mk (.strct [(0,9,true),(9,1,false),(10,1,false),(11,1,false)]) 12 true (.agg [.slice 11 [] .nil,.slice 6 [] .nil,.int .i64 0,.int .i64 0,.int .i64 0,.int .i64 0,.slice 11 [] .nil,.slice 14 [] .nil,.slice 1 [] .nil,.slice 3 [] .nil,.bool false,.int .i64 0])),
 (117,.mk .other 1 false .nilfunc),
 (118,.mk .other 1 false .nilfunc),
 (119,.mk .other 1 false .nilfunc),
 (120,.mk .other 1 false .nilfunc),
 (121,.mk (.int .u64) 1 false (.int .u64 0)),
 (122,.mk .other 1 false .nilfunc),
 (123,.mk .other 1 false .nilfunc),
 (124,.mk .other 1 false .nilfunc),
 (125,.mk .other 1 false .nilfunc),
 (126,.mk .other 1 false .nilfunc),
 (127,.mk .other 1 false .nilfunc),
 (128,.mk .other 1 false .nilfunc),
 (129,.mk .other 1 false .nilfunc),
 (130,.mk .other 1 false .nilfunc),
 (131,.mk .other 1 false .nilfunc),
 (132,.mk .other 1 false .nilfunc),
 (133,.mk .other 1 false .nilfunc),
 (134,.mk .other 1 false .nilfunc),
 (135,.mk .other 1 false .nilfunc),
 (136,.mk (.ptr 107) 1 false .nilptr),
 (137,.mk .other 1 false .nilfunc),
 (138,.mk (.ptr 2) 1 false .nilptr),
 (139,.mk .other 1 false .nilfunc),
 (141,.mk .other 1 false .nilfunc),
 (142,.mk .other 1 false .nilfunc),
 (143,.mk .other 1 false .nilfunc),
 (145,.mk .other 1 false .nilfunc),
 (146,.mk .other 1 false .nilfunc),
 (148,.mk .other 1 false .nilfunc),
 (149,.mk .other 1 false .nilfunc),
 (150,.mk .other 1 false .nilfunc),
 (151,.mk .other 1 false .nilfunc),
 (152,.mk (.int .i64) 1 false (.int .i64 0)),
 (154,.mk .other 1 false .nilfunc),
 (155,.mk .other 1 false .nilfunc),
 (156,.mk .other 1 false .nilfunc),
 (157,.mk .other 1 false .nilfunc),
 (158,.mk .other 1 false .nilfunc),
 (159,.mk .other 1 false .nilfunc),
 (160,.mk .other 1 false .nilfunc),
 (161,.mk .other 1 false .nilfunc),
 (162,.mk .other 1 false .nilfunc),
 (163,.mk .other 1 false .nilfunc),
 (164,.mk .other 1 false .nilfunc),
 (165,.mk .other 1 false .nilfunc),
 (166,.mk (.ptr 103) 1 false .nilptr),
 (167,.mk (.ptr 209) 1 false .nilptr),
 (168,.mk .other 1 false .nilfunc),
 (169,.mk .other 1 false .nilfunc),
 (170,.mk .other 1 false .nilfunc),
 (171,.mk .other 1 false .nilfunc),
 (172,.mk .other 1 false .nilfunc),
 (173,.mk .other 1 false .nilfunc),
 (174,.mk .other 1 false .nilfunc),
 (175,.mk .other 1 false .nilfunc),
 (176,.mk .other 1 false .nilfunc),
 (177,.mk .other 1 false .nilfunc),
 (178,.mk .other 1 false .nilfunc),
 (179,.mk .other 1 false .nilfunc),
 (180,.mk .other 1 false .nilfunc),
 (181,.mk .other 1 false .nilfunc),
 (182,.mk .other 1 false .nilfunc),
 (183,.mk .other 1 false .nilfunc),
 (184,.mk .other 1 false .nilfunc),
 (185,.mk (.strct [(0,9,true),(9,1,false),(10,1,false)]) 11 true (.agg [.int .i64 0,.int .i64 0,.int .i64 0,.int .i64 0,.int .i64 0,.int .i64 0,.int .i64 0,.int .i64 0,.int .i64 0,.int .i64 0,.int .i64 0])),
 (186,.mk (.mp 3 4) 1 false .nilmap),
 (187,.mk (.slc 20 1 16) 1 false (.slice 1 [] .nil)),
 (188,.mk .other 1 false .nilfunc),
 (190,.mk .other 1 false .nilfunc),
 (191,.mk .other 1 false .nilfunc),
 (193,.mk .other 1 false .nilfunc),
 (194,.mk .other 1 false .nilfunc),
 (195,.mk (.int .u64) 1 false (.int .u64 0)),
 (196,.mk .other 1 false .nilfunc),
 (197,.mk .other 1 false .nilfunc),
 (198,.mk .other 1 false .nilfunc),
 (199,.mk (.ptr 3) 1 false .nilptr),
 (200,.mk .other 1 false .nilfunc),
 (201,.mk .other 1 false .nilfunc),
 (202,.mk .other 1 false .nilfunc),
 (203,.mk (.ptr 97) 1 false .nilptr),
 (204,.mk .other 1 false .nilfunc),
 (205,.mk (.ptr 95) 1 false .nilptr),
 (206,.mk .other 1 false .nilfunc),
 (207,.mk (.mp 3 40) 1 false .nilmap),
 (208,.mk (.strct [(0,4,true),(4,1,false)]) 5 true (.agg [.slice 11 [] .nil,.slice 6 [] .nil,.int .i64 0,.int .i64 0,.nilmap])),
 (209,.mk (.strct [(0,4,true),(4,1,false)]) 5 true (.agg [.slice 11 [] .nil,.slice 6 [] .nil,.int .i64 0,.int .i64 0,.nilmap])),
 (210,.mk .other 1 false .nilfunc),
 (211,.mk .other 1 false .nilfunc),
 (212,.mk .other 1 false .nilfunc),
 (213,.mk .other 1 false .nilfunc),
 (214,.mk .other 1 false .nilfunc),
 (215,.mk .other 1 false .nilfunc),
 (216,.mk .other 1 false .nilfunc),
 (217,.mk .other 1 false .nilfunc),
 (218,.mk .other 1 false .nilfunc),
 (219,.mk .other 1 false .nilfunc),
 (220,.mk (.slc 34 1 24) 1 false (.slice 1 [] .nil)),
 (221,.mk .other 1 false .nilfunc),
 (222,.mk .other 1 false .nilfunc),
 (223,.mk .other 1 false .nilfunc),
 (224,.mk .other 1 false .nilfunc),
 (225,.mk .other 1 false .nilfunc),
 (226,.mk .iface 1 false .nilif),
 (227,.mk .iface 1 false .nilif),
 (228,.mk .other 1 false .nilfunc),
 (229,.mk .other 1 false .nilfunc),
 (230,.mk .other 1 false .nilfunc),
 (231,.mk .other 1 false .nilfunc),
 (232,.mk .other 1 false .nilfunc),
 (233,.mk .other 1 false .nilfunc),
 (234,.mk (.ptr 195) 1 false .nilptr),
 (236,.mk .other 1 false .nilfunc),
 (237,.mk (.arr 16 1 false) 16 true (.agg [.int .u64 0,.int .u64 0,.int .u64 0,.int .u64 0,.int .u64 0,.int .u64 0,.int .u64 0,.int .u64 0,.int .u64 0,.int .u64 0,.int .u64 0,.int .u64 0,.int .u64 0,.int .u64 0,.int .u64 0,.int .u64 0])),
 (238,.mk .other 1 false .nilfunc),
 (239,.mk .other 1 false .nilfunc),
 (241,.mk .other 1 false .nilfunc),
 (242,.mk .other 1 false .nilfunc),
 (243,.mk .other 1 false .nilfunc),
 (244,.mk .other 1 false .nilfunc),
 (245,.mk .other 1 false .nilfunc),
 (246,.mk .other 1 false .nilfunc),
 (247,.mk (.mp 3 3) 1 false .nilmap),
 (248,.mk .other 1 false .nilfunc),
 (249,.mk .other 1 false .nilfunc),
 (250,.mk .other 1 false .nilfunc),
 (251,.mk .other 1 false .nilfunc),
 (252,.mk (.ptr 99) 1 false .nilptr),
 (253,.mk .other 1 false .nilfunc),
 (254,.mk (.ptr 21) 1 false .nilptr),
 (255,.mk .other 1 false .nilfunc),
 (256,.mk .other 1 false .nilptr),
 (257,.mk .other 1 false .nilfunc),
 (258,.mk .other 1 false .nilfunc),
 (259,.mk .other 1 false .nilfunc),
 (260,.mk .other 1 false .nilfunc),
 (261,.mk (.strct [(0,1,false)]) 1 true (.agg [.nilfunc])),
 (262,.mk (.strct [(0,1,false)]) 1 true (.agg [.nilfunc])),
 (264,.mk .other 1 false .nilfunc),
 (265,.mk .other 1 false .nilfunc),
 (266,.mk .other 1 false .nilfunc),
 (267,.mk .other 1 false .nilfunc),
 (268,.mk (.mp 270 3) 1 false .nilmap),
 (269,.mk (.strct [(0,1,false),(1,1,false),(2,1,false),(3,1,false)]) 4 true (.agg [.int .i64 0,.int .i64 0,.int .i64 0,.int .i64 0])),
 (270,.mk (.strct [(0,1,false),(1,1,false),(2,1,false),(3,1,false)]) 4 true (.agg [.int .i64 0,.int .i64 0,.int .i64 0,.int .i64 0])),
 (271,.mk .other 1 false .nilfunc),
 (272,.mk .other 1 false .nilfunc),
 (273,.mk .other 1 false .nilfunc),
 (274,.mk .other 1 false .nilfunc),
 (275,.mk .other 1 false .nilfunc),
 (277,.mk .other 1 false .nilfunc),
 (278,.mk .other 1 false .nilfunc),
 (280,.mk .other 1 false .nilfunc),
 (282,.mk .other 1 false .nilfunc),
 (283,.mk .other 1 false .nilfunc),
 (284,.mk .other 1 false .nilfunc),
 (285,.mk (.strct [(0,1,false),(1,1,false),(2,1,false),(3,1,false)]) 4 true (.agg [.nilptr,.nilptr,.nilptr,.str []])),
 (286,.mk (.strct [(0,1,false),(1,1,false),(2,1,false),(3,1,false)]) 4 true (.agg [.nilptr,.nilptr,.nilptr,.str []])),
 (287,.mk (.arr 0 1 false) 0 true (.agg [])),
 (288,.mk (.strct [(0,0,true)]) 0 true (.agg [])),
 (289,.mk (.strct [(0,0,true)]) 0 true (.agg [])),
 (290,.mk (.int .u8) 1 false (.int .u8 0)),
 (291,.mk (.int .u8) 1 false (.int .u8 0)),
 (292,.mk .other 1 false .nilfunc),
 (293,.mk (.ptr 5) 1 false .nilptr),
 (294,.mk (.int .i32) 1 false (.int .i32 0)),
 (295,.mk (.int .i32) 1 false (.int .i32 0)),
 (296,.mk (.strct [(0,1,false),(1,1,false),(2,1,false),(3,1,false),(4,1,false),(5,1,false),(6,1,false),(7,1,false),(8,1,false),(9,1,false),(10,1,false)]) 11 true (.agg [.int .u64 0,.int .u64 0,.int .u32 0,.int .u8 0,.int .u8 0,.int .u8 0,.int .u8 0,.nilfunc,.nilptr,.int .i32 0,.int .i32 0])),
 (297,.mk (.strct [(0,1,false),(1,1,false),(2,1,false),(3,1,false),(4,1,false),(5,1,false),(6,1,false),(7,1,false),(8,1,false),(9,1,false),(10,1,false)]) 11 true (.agg [.int .u64 0,.int .u64 0,.int .u32 0,.int .u8 0,.int .u8 0,.int .u8 0,.int .u8 0,.nilfunc,.nilptr,.int .i32 0,.int .i32 0]))]
def F0:List (Nat×Nat):=[(39,3),(40,3),(41,9),(42,9),(63,11),(64,11),(65,6),(66,6),(269,4),(270,4),(61,11),(62,11),(185,11),(46,3),(45,3),(37,2),(36,2)]
def M0:aCa:=[(185,"tithebarn/queue.id",257),(185,"tithebarn/queue.seq",258)]
noncomputable def E:Env:={P:=Tryz.prog,T:=T0,mt:=M0,fl:=F0,own:=[],rws:=[],bl:=[],df:=[]}
theorem hE:EnvOK E where
 mix:=by kernel_rfl
 tab:=aFK (by kernel_rfl) (by kernel_rfl)
 mth:=yP.cons (fun v w=>by kernel_rfl) (yP.cons (fun v w=>by kernel_rfl) yP.nil)
 fl:=MC (by kernel_rfl)
noncomputable def Er (l b:List Nat):Env:={E with rws:=l,bl:=b}
theorem hEr (l b:List Nat):EnvOK (Er l b):=⟨hE.mix,hE.tab,hE.mth,hE.fl⟩
noncomputable def Eo (l b:List Nat):Env:={E with own:=l,bl:=b}
theorem hEo (l b:List Nat):EnvOK (Eo l b):=⟨hE.mix,hE.tab,hE.mth,hE.fl⟩
noncomputable def Ex (o r b:List Nat):Env:={E with own:=o,rws:=r,bl:=b}
theorem hEx (o r b:List Nat):EnvOK (Ex o r b):=⟨hE.mix,hE.tab,hE.mth,hE.fl⟩
noncomputable def El (l:Nat) (o r b:List Nat):Env:={Ex o r b with rd:=some l}
theorem hEl (l:Nat) (o r b:List Nat):EnvOK (El l o r b):=⟨hE.mix,hE.tab,hE.mth,hE.fl⟩
theorem c_ (fn:Func) {f:FuncId} {args:List AVal} {r:Res} (h:okL args->To E fn (.pure r) (.code [.code (cC fn)] (frA 0 args) [])) (j:Tryz.prog.funcs[f]? =some fn:=by rfl) (k:fn.body=some (cC fn):=by rfl) (b:pA Tryz.prog f:=by exact fun _ _=>by rfl) (a:cS fn.ntmps (cC fn)=true:=by decide+kernel) (l:Ff args.length fn.ntmps=true:=by rfl):aA Tryz.prog f args [] r []:=cT (E:=E) (g:=.pure r) h rfl j k b a l rfl rfl rfl
structure V3 where
 (a b c:Int)
 deriving DecidableEq
structure Nod where
 (p w:Int)
 (n b l:V3)
 deriving DecidableEq
structure Hos where
 (f b r:Int)
 (c:V3)
 deriving DecidableEq
structure Con where
 ns:List Nod
 hs:List Hos
 (half age:Int)
 deriving DecidableEq
structure Gan where
 (id ten pods:Int)
 need:V3
 (run lev pref:Int)
 deriving DecidableEq
abbrev ii (n:Int):AVal:=.int .i64 n
def V3.cs (v:V3):List AVal:=[ii v.a,ii v.b,ii v.c]
def Nod.cs (x:Nod):List AVal:=[ii x.p,ii x.w,ii x.n.a,ii x.n.b,ii x.n.c,ii x.b.a,ii x.b.b,ii x.b.c,ii x.l.a,ii x.l.b,ii x.l.c]
def Nod.av (x:Nod):AVal:=.agg x.cs
def Hos.cs (x:Hos):List AVal:=[ii x.f,ii x.b,ii x.r,ii x.c.a,ii x.c.b,ii x.c.c]
def Hos.av (x:Hos):AVal:=.agg x.cs
abbrev nav (l:List Nod):List AVal:=l.map Nod.av
abbrev hav (l:List Hos):List AVal:=l.map Hos.av
def Con.cs (x:Con):List AVal:=[.slice 11 (nav x.ns) .no,.slice 6 (hav x.hs) .no,ii x.half,ii x.age]
def Con.av (x:Con):AVal:=.agg x.cs
def Gan.cs (x:Gan):List AVal:=[ii x.id,ii x.ten,ii x.pods,ii x.need.a,ii x.need.b,ii x.need.c,ii x.run,ii x.lev,ii x.pref]
def Gan.av (x:Gan):AVal:=.agg x.cs
abbrev iv (l:List Int):List AVal:=l.map ii
def V3.zero:V3:=⟨0,0,0⟩
def V3.av (v:V3):AVal:=.agg v.cs
abbrev vav (l:List V3):List AVal:=l.map V3.av
theorem sC {n:Int} (h1: -9223372036854775808<=n) (a:n<=9223372036854775807):inR .i64 n:=⟨by simp only [bW];omega,by simp only [bI];omega⟩
theorem fU {l:List Nod} {i:Nat} (h:i<l.length):(nav l)[i]? =some l[i].av:=by simp [nav,h]
theorem vC {l:List Hos} {i:Nat} (h:i<l.length):(hav l)[i]? =some l[i].av:=by simp [hav,h]
theorem cQ {l:List Int} {i:Nat} (h:i<l.length):(iv l)[i]? =some (ii l[i]):=by simp [iv,h]
theorem bS {M:Imm} {ob:Hs} {v:Value} {cs:List AVal} (h:Rep M ob v (.agg cs)) (i:Nat) (a:AVal) (c:cs[i]? =some a):okA a:=by
 obtain ⟨vs,_,hl,d⟩:=h.agg_inv
 have b:i<vs.length:=by rw [hl];exact (Ac.1 c).1
 exact (d i _ a (Ab b) c).okA
theorem aA.get {P:Program} {f:FuncId} {args:List AVal} {obs obs':List AObj} {r:Res} (Q:Prop) (c:∀ M ob vs,bT M ob vs args->Q) (h:Q->aA P f args obs r obs'):aA P f args obs r obs':=
 fun M ob w a hm b=>h (c _ _ _ b) M ob w a hm b
theorem pC {b:Bool} (h:(!b)=true):b=false:=by cases b<;>first | rfl | cases h
theorem pD {b:Bool} (h:(!b)=false):b=true:=by cases b<;>first | rfl | cases h
structure Rn where
 g:Gan
 (seq at' st fl:Int)
 hs:List Int
 deriving DecidableEq
def Rn.cs (x:Rn):List AVal:=[ii x.g.id,ii x.g.ten,ii x.g.pods,ii x.g.need.a,ii x.g.need.b,ii x.g.need.c,ii x.g.run,ii x.g.lev,ii x.g.pref,ii x.seq,ii x.at',ii x.st,ii x.fl,.slice 1 (iv x.hs) .no]
def Rn.av (x:Rn):AVal:=.agg x.cs
abbrev rav (l:List Rn):=l.map Rn.av
theorem cJ {l:List Rn} {i:Nat} (h:i<l.length):(rav l)[i]? =some l[i].av:=by simp [rav,h]
theorem jJ {l:List V3} {i:Nat} (h:i<l.length):(vav l)[i]? =some l[i].av:=by simp [vav,h]
theorem aCh {n:Int} (h:9223372036854775807<n) (a:n<=18446744073709551614):IntKind.wrap .i64 n=n-18446744073709551616:=by
 simp [IntKind.wrap,IntKind.signed,IntKind.bits];omega
theorem aCg {n:Int} (h:n< -9223372036854775808) (a: -18446744073709551616<=n):IntKind.wrap .i64 n=n+18446744073709551616:=by
 simp [IntKind.wrap,IntKind.signed,IntKind.bits];omega
set_option maxRecDepth 10000
def eU (n m:Int):Int:=min (max n (0-m)) m
theorem eT (n m:Int) (h:0<=m): -m<=eU n m/\eU n m<=m:=by unfold eU;omega
theorem QD (n m:Int) (a:0<=m) (h1:m<=1099511627776):aA Tryz.prog 149 [ii n,ii m] [] (.ret (ii (eU n m))) []:=by
 refine c_ Tryz.f149 fun _=>?_
 repeat' first | (refine gN hE ?_;conv=>whnf) | exact rfl | (refine zt ?_;try intro h) | refine zu (fun h=>?_) fun h=>?_ | fail
def gY (x y:Int):Int:=eU (eU x 1099511627776+eU y 1099511627776) 1099511627776
def T8 (x y:Int):Int:=eU (eU x 1099511627776-eU y 1099511627776) 1099511627776
def EA (x n:Int):Int:=eU (eU x 1099511627776*eU n 1048576) 1099511627776
theorem SC (x n:Int): -1152921504606846976<=eU x 1099511627776*eU n 1048576/\eU x 1099511627776*eU n 1048576<=1152921504606846976:=by
 have h1:=eT x 1099511627776 d_
 have a:=eT n 1048576 d_
 have h3:(eU x 1099511627776*eU n 1048576).natAbs<=1099511627776*1048576:=by
  rw [Int.natAbs_mul]
  exact Gg o_ o_
 omega
theorem aEX (x y:Int):aA Tryz.prog 148 [ii x,ii y] [] (.ret (ii (gY x y))) []:=by
 have h1:=eT x 1099511627776 d_
 have a:=eT y 1099511627776 d_
 refine c_ Tryz.f148 fun _=>?_
 repeat' first | (refine gN hE ?_;conv=>whnf) | refine .pure _ [] (QD _ _ d_ d_) ?_ | exact rfl | (refine zt ?_;try intro h) | refine zu (fun h=>?_) fun h=>?_ | fail
theorem aCF (x y:Int):aA Tryz.prog 217 [ii x,ii y] [] (.ret (ii (T8 x y))) []:=by
 have h1:=eT x 1099511627776 d_
 have a:=eT y 1099511627776 d_
 refine c_ Tryz.f217 fun _=>?_
 repeat' first | (refine gN hE ?_;conv=>whnf) | refine .pure _ [] (QD _ _ d_ d_) ?_ | exact rfl | (refine zt ?_;try intro h) | refine zu (fun h=>?_) fun h=>?_ | fail
theorem aDA (x y n:Int):aA Tryz.prog 185 [ii x,ii y,.ptr [ii n]] [] (.ret (ii (EA x n))) []:=by
 have h1:=SC x n
 refine c_ Tryz.f185 fun _=>?_
 repeat' first | (refine gN hE ?_;conv=>whnf) | refine .pure _ [] (QD _ _ d_ d_) ?_ | exact rfl | (refine zt ?_;try intro h) | refine zu (fun h=>?_) fun h=>?_ | fail
def V3.map2 (op:Int->Int->Int) (a b:V3):V3:=⟨op a.a b.a,op a.b b.b,op a.c b.c⟩
theorem TM (f:FuncId) (op:Int->Int->Int) (a b:V3) (h:∀ x y,aA Tryz.prog f [ii x,ii y] [] (.ret (ii (op x y))) []):aA Tryz.prog 147 [a.av,b.av,.func (.func f) [] []] [] (.ret (V3.map2 op a b).av) []:=by
  refine c_ Tryz.f147 fun _=>?_
  refine gV ?_
  repeat' first
   | (refine gW hE ?_;conv=>whnf)
   | refine .pure _ [] (h _ _) ?_
   | exact rfl
   | refine aY ?_
   | refine aN ?_
   | refine aJ ?_
   | refine Ai _ (Aa rfl ?_)
   | refine Aa d_ ?_
theorem aBE (f:FuncId) (op:Int->Int->Int) (n:Int) (a b:V3) (h:∀ x y,aA Tryz.prog f [ii x,ii y,.ptr [ii n]] [] (.ret (ii (op x y))) []):aA Tryz.prog 147 [a.av,b.av,.func (.func f) [] [.ptr [ii n]]] [] (.ret (V3.map2 op a b).av) []:=by
  refine c_ Tryz.f147 fun _=>?_
  refine gV ?_
  repeat' first
   | (refine gW hE ?_;conv=>whnf)
   | refine .pure _ [] (h _ _) ?_
   | exact rfl
   | refine aY ?_
   | refine aN ?_
   | refine aJ ?_
   | refine Ai _ (Aa rfl ?_)
   | refine Aa d_ ?_
def dL (a b:V3):V3:=V3.map2 gY a b
def tY (a b:V3):V3:=V3.map2 T8 a b
def NG (a:V3) (n:Int):V3:=V3.map2 (fun x _=>EA x n) a a
theorem jK (a b:V3):aA Tryz.prog 103 [a.av,b.av] [] (.ret (dL a b).av) []:=by
 refine c_ Tryz.f103 fun _=>?_
 repeat' first | (refine gN hE ?_;conv=>whnf) | refine .pure _ [] (TM _ gY a b aEX) ?_ | exact rfl | (refine zt ?_;try intro h) | refine zu (fun h=>?_) fun h=>?_ | fail
theorem GX (a b:V3):aA Tryz.prog 193 [a.av,b.av] [] (.ret (tY a b).av) []:=by
 refine c_ Tryz.f193 fun _=>?_
 repeat' first | (refine gN hE ?_;conv=>whnf) | refine .pure _ [] (TM _ T8 a b aCF) ?_ | exact rfl | (refine zt ?_;try intro h) | refine zu (fun h=>?_) fun h=>?_ | fail
theorem aCm (a:V3) (n:Int):aA Tryz.prog 146 [a.av,ii n] [] (.ret (NG a n).av) []:=by
 refine c_ Tryz.f146 fun _=>?_
 repeat' first | (refine gN hE ?_;conv=>whnf) | refine .pure _ [] (aBE _ (fun x _=>EA x n) n a a fun x y=>aDA x y n) ?_ | exact rfl | (refine zt ?_;try intro h) | refine zu (fun h=>?_) fun h=>?_ | fail
def bK (a b:V3):Bool:=if decide (b.a<a.a)=true then false else if decide (b.b<a.b)=true then false else if decide (b.c<a.c)=true then false else true
abbrev aGf (n:Int):AVal:=.func (.func 175) [] [.ptr [ii n]]
theorem aGe (x:Nod) (n:Int):aA Tryz.prog 175 [x.av,.ptr [ii n]] [] (.ret (.bool (decide (x.p=n)))) []:=by
 refine c_ Tryz.f175 fun _=>?_
 repeat' first | (refine gN hE ?_;conv=>whnf) | exact rfl | (refine zt ?_;try intro h) | refine zu (fun h=>?_) fun h=>?_ | fail
def findP (n:Int):List Nod->Nat->Int
 | [],_=> -1
 | x::r,i=>if decide (x.p=n)=true then (i:Int) else findP n r (i+1)
noncomputable abbrev aFm:Func:=Tryz.f204
theorem VR (l:List Nod) (n:Int) (hl:((nav l).length:Int)<=9223372036854775807) (r:Int):∀ (m i:Nat),i+m=l.length->findP n (l.drop i) i=r->
  To E aFm (.pure (.ret (ii r))) (.head (stk aFm 0) [(0,.slice 11 (nav l) .no),(1,aGf n),(7,.int .i64 ((nav l).length:Nat)),(8,.int .i64 i)] []):=by
 have c:(nav l).length=l.length:=by simp
 intro m
 induction m with
 | zero=>
  intro i f a
  rw [Ae o_] at a
  subst a
  refine gV ?_
  refine aF fun h=>?_
  repeat' first | (refine gN hE ?_;conv=>whnf) | exact rfl | (refine zt ?_;try intro h) | refine zu (fun h=>?_) fun h=>?_ | fail
 | succ m e=>
  intro i f a
  have b:i<l.length:=o_
  rw [Ad b] at a
  generalize d:l[i]=x at a
  have get:(nav l)[i]? =some x.av:=(fU b).trans (by rw [d])
  unfold findP at a
  refine gV ?_
  refine aT fun h=>?_
  repeat' first | (refine gN hE ?_;conv=>whnf) | refine ⟨_,get,?_⟩ | refine .pure _ [] (aGe x n) ?_ | exact rfl | (refine zt ?_;try intro h) | refine zu (fun h=>?_) fun h=>?_ | fail
  .have h:decide (x.p=n)=true:=h
   rw [if_pos h] at a
   rw [<-a]
  .have h:decide (x.p=n)=false:=h
   rw [if_neg (by rw [h];decide)] at a
   refine To.head [0,1,7,8] ?_
   exact e (i+1) o_ a
theorem aDX (l:List Nod) (n:Int):aA Tryz.prog 204 [.slice 11 (nav l) .no,aGf n] [] (.ret (ii (findP n l 0))) []:=by
 refine c_ Tryz.f204 fun a=>?_
 have hl:((nav l).length:Int)<=9223372036854775807:=a.1
 refine gV ?_
 refine To.head [0,1,7,8] ?_
 exact VR l n hl _ l.length 0 o_ rfl
theorem aD2 (l:List Nod) (n:Int):aA Tryz.prog 174 [.slice 11 (nav l) .no,aGf n] [] (.ret (.bool (decide (0<=findP n l 0)))) []:=by
 refine c_ Tryz.f174 fun _=>?_
 repeat' first | (refine gN hE ?_;conv=>whnf) | refine .pure _ [] (aDX l n) ?_ | exact rfl | (refine zt ?_;try intro h) | refine zu (fun h=>?_) fun h=>?_ | fail
def aU (ns:List Nod) (n:Int):Bool:=if decide (0<=n)=true then (if decide (n<(ns.length:Int))=true then !decide (0<=findP n ns 0) else false) else false
theorem aAB (c:Con) (n:Int) (r:Bool) (b:aU c.ns n=r):aA Tryz.prog 129 [c.av,ii n] [] (.ret (.bool r)) []:=by
 have d:(nav c.ns).length=c.ns.length:=by simp
 unfold aU at b
 refine c_ Tryz.f129 fun _=>?_
 refine gV ?_
 refine Aa (fun h1=>?_) (fun h1=>?_)
 .have h1:decide (0<=n)=true:=h1
  rw [if_pos h1] at b
  refine gV ?_
  refine Aa (fun a=>?_) (fun a=>?_)
  .have a:decide (n<((nav c.ns).length:Int))=true:=a
   rw [d] at a
   rw [if_pos a] at b
   repeat' first | (refine gN hE ?_;conv=>whnf) | refine .pure _ [] (aD2 c.ns n) ?_ | exact rfl | (refine zt ?_;try intro h) | refine zu (fun h=>?_) fun h=>?_ | fail
   rw [<-b]
  .have a:decide (n<((nav c.ns).length:Int))=false:=a
   rw [d] at a
   rw [if_neg (by rw [a];decide)] at b
   repeat' first | (refine gN hE ?_;conv=>whnf) | exact rfl | (refine zt ?_;try intro h) | refine zu (fun h=>?_) fun h=>?_ | fail
   rw [<-b]
 .have h1:decide (0<=n)=false:=h1
  rw [if_neg (by rw [h1];decide)] at b
  repeat' first | (refine gN hE ?_;conv=>whnf) | exact rfl | (refine zt ?_;try intro h) | refine zu (fun h=>?_) fun h=>?_ | fail
  rw [<-b]
theorem oM (c:Con) (n:Int):aA Tryz.prog 129 [c.av,ii n] [] (.ret (.bool (aU c.ns n))) []:=aAB c n _ rfl
inductive Ylds (P:Program) (l:Nat):List Int->BInv->BInv->Bool->Prop
 | nil (I:BInv):Ylds P l [] I I true
 | stop (x:Int) (r:List Int) (I I':BInv) (h:bE P (.yield l) [ii x] [.bun 0 I] (.ret (.bool false)) [.bun 1 I']):Ylds P l (x::r) I I' false
 | next (x:Int) (r:List Int) (I I1 I2:BInv) (b:Bool) (h:bE P (.yield l) [ii x] [.bun 0 I] (.ret (.bool true)) [.bun 1 I1]) (k:Ylds P l r I1 I2 b):Ylds P l (x::r) I I2 b
def upF (ns:List Nod):Nat->Int->List Int
 | 0,_=>[]
 | f+1,n=>if decide (0<=n)=true then (if h:n.toNat<ns.length then (if decide (n<=(ns[n.toNat]).p)=true then [n] else n::upF ns f (ns[n.toNat]).p) else []) else []
def upL (ns:List Nod) (n:Int):List Int:=upF ns (n.toNat+1) n
noncomputable abbrev aEg:Func:=Tryz.f184
theorem XI (l:Nat) (c:Con) (hl:((nav c.ns).length:Int)<=9223372036854775807) (q:BInv) (b:Bool):∀ (f:Nat) (n:Int),n<(f:Int)->∀ (I:BInv),Ylds Tryz.prog l (upF c.ns f n) I q b->
  ∃ m i,To E aEg (.full 2 (.ret (.tup [])) [.cells 3 [m],.bun i q]) (.head (stk aEg 0) [(0,.func (.yield l) [] []),(1,.ref 0 0),(2,.ptr c.cs)] [.cells 3 [ii n],.bun 1 I]):=by
 have s:(nav c.ns).length=c.ns.length:=by simp
 intro f
 induction f with
 | zero=>
  intro n w I d
  have h1:¬ 0<=n:=o_
  cases d
  refine ⟨ii n,1,?_⟩
  refine gV ?_
  repeat' first | (refine gN hE ?_;conv=>whnf) | (refine Ai [] (Ai [0,1] (Aa (Aa rfl rfl) ?_));exact Aa rfl rfl) | exact rfl | (refine zt ?_;try intro h) | refine zu (fun h=>?_) fun h=>?_ | fail
 | succ f j=>
  intro n w I d
  have v:=fun (p:Int) (hp:¬ n<=p) (e:BInv) (h1:Ylds Tryz.prog l (upF c.ns f p) e q b)=>j p o_ e h1
  unfold upF at d
  by_cases h1:0<=n
  .rw [if_pos (decide_eq_true h1)] at d
   by_cases o:n.toNat<c.ns.length
   .rw [dif_pos o] at d
    generalize u:c.ns[n.toNat]=x at d
    have get:(nav c.ns)[n.toNat]? =some x.av:=(fU o).trans (by rw [u])
    have r:n=(n.toNat:Int):=o_
    by_cases h3:n<=x.p
    .rw [if_pos (decide_eq_true h3)] at d
     cases d with
     | stop _ _ _ _ a=>
      refine ⟨ii n,1,?_⟩
      refine gV ?_
      repeat' first | (refine gN hE ?_;conv=>whnf) | refine .eff [] [1] _ _ rfl a ?_ | (refine Ai [] (Ai [0,1] (Aa (Aa rfl rfl) ?_));exact Aa rfl rfl) | exact rfl | (refine zt ?_;try intro h) | refine zu (fun h=>?_) fun h=>?_ | fail
     | next _ _ _ e _ _ a k=>
      cases k
      refine ⟨ii n,1,?_⟩
      refine gV ?_
      repeat' first | (refine gN hE ?_;conv=>whnf) | refine .eff [] [1] _ _ rfl a ?_ | refine ⟨n.toNat,r,?_⟩ | refine ⟨_,get,?_⟩ | (refine Ai [] (Ai [0,1] (Aa (Aa rfl rfl) ?_));exact Aa rfl rfl) | exact rfl | (refine zt ?_;try intro h) | refine zu (fun h=>?_) fun h=>?_ | fail
    .rw [if_neg (by rw [decide_eq_false h3];decide)] at d
     cases d with
     | stop _ _ _ _ a=>
      refine ⟨ii n,1,?_⟩
      refine gV ?_
      repeat' first | (refine gN hE ?_;conv=>whnf) | refine .eff [] [1] _ _ rfl a ?_ | (refine Ai [] (Ai [0,1] (Aa (Aa rfl rfl) ?_));exact Aa rfl rfl) | exact rfl | (refine zt ?_;try intro h) | refine zu (fun h=>?_) fun h=>?_ | fail
     | next _ _ _ e _ _ a k=>
      obtain ⟨m,i,g⟩:=v x.p o_ _ k
      refine ⟨m,i,?_⟩
      refine gV ?_
      repeat' first | (refine gN hE ?_;conv=>whnf) | refine .eff [] [1] _ _ rfl a ?_ | refine ⟨n.toNat,r,?_⟩ | refine ⟨_,get,?_⟩ | (refine Ai [] (Ai [0,1] (Aa (Aa rfl rfl) ?_));exact Aa rfl rfl) | exact rfl | (refine zt ?_;try intro h) | refine zu (fun h=>?_) fun h=>?_ | fail
      refine To.part [0,1,2] [0,1] rfl rfl rfl ?_
      exact g
   .rw [dif_neg o] at d
    cases d
    refine ⟨ii n,1,?_⟩
    refine gV ?_
    repeat' first | (refine gN hE ?_;conv=>whnf) | (refine Ai [] (Ai [0,1] (Aa (Aa rfl rfl) ?_));exact Aa rfl rfl) | exact rfl | (refine zt ?_;try intro h) | refine zu (fun h=>?_) fun h=>?_ | fail
  .rw [if_neg (by rw [decide_eq_false h1];decide)] at d
   cases d
   refine ⟨ii n,1,?_⟩
   refine gV ?_
   repeat' first | (refine gN hE ?_;conv=>whnf) | (refine Ai [] (Ai [0,1] (Aa (Aa rfl rfl) ?_));exact Aa rfl rfl) | exact rfl | (refine zt ?_;try intro h) | refine zu (fun h=>?_) fun h=>?_ | fail
theorem T5 (l:Nat) (c:Con) (n:Int) (I f:BInv) (b:Bool) (hl:((nav c.ns).length:Int)<=9223372036854775807) (d:Ylds Tryz.prog l (upL c.ns n) I f b):
  ∃ m i,To E aEg (.full 2 (.ret (.tup [])) [.cells 3 [m],.bun i f]) (.head (stk aEg 0) [(0,.func (.yield l) [] []),(1,.ref 0 0),(2,.ptr c.cs)] [.cells 3 [ii n],.bun 0 I]):=by
 have q:(nav c.ns).length=c.ns.length:=by simp
 unfold upL at d
 have s:=fun (p:Int) (hp:¬ n<=p) (e:BInv) (h1:Ylds Tryz.prog l (upF c.ns n.toNat p) e f b)=>XI l c hl f b n.toNat p o_ e h1
 unfold upF at d
 by_cases h1:0<=n
 .rw [if_pos (decide_eq_true h1)] at d
  by_cases k:n.toNat<c.ns.length
  .rw [dif_pos k] at d
   generalize r:c.ns[n.toNat]=x at d
   have get:(nav c.ns)[n.toNat]? =some x.av:=(fU k).trans (by rw [r])
   have o:n=(n.toNat:Int):=o_
   by_cases h3:n<=x.p
   .rw [if_pos (decide_eq_true h3)] at d
    cases d with
    | stop _ _ _ _ a=>
     refine ⟨ii n,1,?_⟩
     refine gV ?_
     repeat' first | (refine gN hE ?_;conv=>whnf) | refine .eff [] [1] _ _ rfl a ?_ | (refine Ai [] (Ai [0,1] (Aa (Aa rfl rfl) ?_));exact Aa rfl rfl) | exact rfl | (refine zt ?_;try intro h) | refine zu (fun h=>?_) fun h=>?_ | fail
    | next _ _ _ e _ _ a j=>
     cases j
     refine ⟨ii n,1,?_⟩
     refine gV ?_
     repeat' first | (refine gN hE ?_;conv=>whnf) | refine .eff [] [1] _ _ rfl a ?_ | refine ⟨n.toNat,o,?_⟩ | refine ⟨_,get,?_⟩ | (refine Ai [] (Ai [0,1] (Aa (Aa rfl rfl) ?_));exact Aa rfl rfl) | exact rfl | (refine zt ?_;try intro h) | refine zu (fun h=>?_) fun h=>?_ | fail
   .rw [if_neg (by rw [decide_eq_false h3];decide)] at d
    cases d with
    | stop _ _ _ _ a=>
     refine ⟨ii n,1,?_⟩
     refine gV ?_
     repeat' first | (refine gN hE ?_;conv=>whnf) | refine .eff [] [1] _ _ rfl a ?_ | (refine Ai [] (Ai [0,1] (Aa (Aa rfl rfl) ?_));exact Aa rfl rfl) | exact rfl | (refine zt ?_;try intro h) | refine zu (fun h=>?_) fun h=>?_ | fail
    | next _ _ _ e _ _ a j=>
     obtain ⟨m,i,g⟩:=s x.p o_ _ j
     refine ⟨m,i,?_⟩
     refine gV ?_
     repeat' first | (refine gN hE ?_;conv=>whnf) | refine .eff [] [1] _ _ rfl a ?_ | refine ⟨n.toNat,o,?_⟩ | refine ⟨_,get,?_⟩ | (refine Ai [] (Ai [0,1] (Aa (Aa rfl rfl) ?_));exact Aa rfl rfl) | exact rfl | (refine zt ?_;try intro h) | refine zu (fun h=>?_) fun h=>?_ | fail
     refine To.part [0,1,2] [0,1] rfl rfl rfl ?_
     exact g
  .rw [dif_neg k] at d
   cases d
   refine ⟨ii n,0,?_⟩
   refine gV ?_
   repeat' first | (refine gN hE ?_;conv=>whnf) | (refine Ai [] (Ai [0,1] (Aa (Aa rfl rfl) ?_));exact Aa rfl rfl) | exact rfl | (refine zt ?_;try intro h) | refine zu (fun h=>?_) fun h=>?_ | fail
 .rw [if_neg (by rw [decide_eq_false h1];decide)] at d
  cases d
  refine ⟨ii n,0,?_⟩
  refine gV ?_
  repeat' first | (refine gN hE ?_;conv=>whnf) | (refine Ai [] (Ai [0,1] (Aa (Aa rfl rfl) ?_));exact Aa rfl rfl) | exact rfl | (refine zt ?_;try intro h) | refine zu (fun h=>?_) fun h=>?_ | fail
theorem NJ (l:Nat) (c:Con) (n:Int) (I d:BInv) (b:Bool) (hl:((nav c.ns).length:Int)<=9223372036854775807) (e:Ylds Tryz.prog l (upL c.ns n) I d b):∃ m a,aA Tryz.prog 184 [.func (.yield l) [] [],.ref 0 0,.ptr c.cs] [.cells 3 [ii n],.bun 0 I] (.ret (.tup [])) [.cells 3 [m],.bun a d]:=by
 obtain ⟨m,a,h⟩:=T5 l c n I d b hl e
 refine ⟨m,a,?_⟩
 refine cT (E:=E) (fn:=Tryz.f184) (g:=.full 2 _ _) fun _=>?_
 refine gV ?_
 refine To.head [0,1,2] ?_
 exact h
theorem XF (c:Con) (n:Int):aA Tryz.prog 144 [c.av,ii n] [] (.ret (.func (.func 184) [] [.ref 0 0,.ptr c.cs])) [.cells 3 [ii n]]:=by
 refine cT (E:=E) (fn:=Tryz.f144) (g:=.full 0 _ _) fun _=>?_
 refine gV ?_
 refine ⟨[0],[1],⟨rfl,rfl⟩,?_⟩
 exact ⟨rfl,rfl⟩
abbrev Led:=List (Int×V3)
def led (L:Led):List (List Int×AVal):=L.map fun p=>([p.1],p.2.av)
def gK:Led->Int->Option V3
 | [],_=>none
 | (k,v)::r,n=>if k=n then some v else gK r n
def wS:Led->Int->V3->Led
 | [],n,v=>[(n,v)]
 | (k,w)::r,n,v=>if k=n then (n,v)::r else (k,w)::wS r n v
def B6:Led->Int->Led
 | [],_=>[]
 | (k,w)::r,n=>if k=n then r else (k,w)::B6 r n
theorem B3 (n:Int):∀ (L:Led),aZ (led L) [n]=(gK L n).map V3.av
 | []=>rfl
 | (k,v)::r=>by
  have:=B3 n r
  simp only [led,Bk,aZ,gK,Jt,and_true] at this⊢
  split
  .rfl
  .exact this
theorem SG (n:Int) (v:V3):∀ (L:Led),jC (led L) [n] v.av=led (wS L n v)
 | []=>rfl
 | (k,w)::r=>by
  have:=SG n v r
  simp only [led,Bk,jC,wS,Jt,and_true] at this⊢
  split
  .rfl
  .rw [this];rfl
theorem SH (n:Int):∀ (L:Led),EB (led L) [n]=led (B6 L n)
 | []=>rfl
 | (k,w)::r=>by
  have:=SH n r
  simp only [led,Bk,EB,B6,Jt,and_true] at this⊢
  split
  .rfl
  .rw [this];rfl
def pF (L:Led) (n:Int):V3:=(gK L n).getD V3.zero
def isZ (v:V3):Bool:=(v.a==0)&&((v.b==0)&&((v.c==0)&&true))
def LM (L:Led) (n:Int) (v:V3):Led:=if isZ v=true then B6 L n else wS L n v
abbrev ED (c:Con):List AVal:=[.slice 11 (nav c.ns) .no,.slice 6 (hav c.hs) .no,ii c.half,ii c.age,.mref 1]
theorem aDb (c:Con) (n:Int) (v:V3) (L L':Led) (a:LM L n v=L'):aA Tryz.prog 145 [.ref 0 0,ii n,v.av] [.cells 209 (ED c),.mp false (led L)] (.ret (.tup [])) [.cells 209 (ED c),.mp false (led L')]:=by
 unfold LM at a
 refine cT (E:=E) (fn:=Tryz.f145) (g:=.full 2 _ _) fun _=>?_
 refine gV ?_
 refine Aa (fun h1=>?_) (fun h1=>?_)
 .have h1:isZ v=true:=h1
  rw [if_pos h1] at a
  refine gV ?_
  refine ⟨[],[0,1],⟨rfl,rfl⟩,?_⟩
  refine ⟨rfl,?_⟩
  show [AObj.cells _ _,AObj.mp false (EB (led L) [n])]=_
  rw [SH,a]
 .have h1:isZ v=false:=h1
  rw [if_neg (by rw [h1];decide)] at a
  refine gV ?_
  refine ⟨[],[0,1],⟨rfl,rfl⟩,?_⟩
  refine ⟨rfl,?_⟩
  show [AObj.cells _ _,AObj.mp false (jC (led L) [n] v.av)]=_
  rw [SG,a]
theorem ZN (c:Con) (n:Int) (v:V3) (L:Led):aA Tryz.prog 145 [.ref 0 0,ii n,v.av] [.cells 209 (ED c),.mp false (led L)] (.ret (.tup [])) [.cells 209 (ED c),.mp false (led (LM L n v))]:=aDb c n v L _ rfl
theorem AJ {α:Type} {P:Program} {l:Nat} (F:α->BInv) (st:α->Int->α) (h:∀ a x,bE P (.yield l) [ii x] [.bun 0 (F a)] (.ret (.bool true)) [.bun 1 (F (st a x))]):∀ (xs:List Int) (a:α),Ylds P l xs (F a) (F (xs.foldl st a)) true
 | [],a=>.nil _
 | x::r,a=>.next x r _ _ _ _ (h a x) (AJ F st h r (st a x))
def xK (v:V3) (L:Led) (x:Int):Led:=LM L x (dL (pF L x) v)
noncomputable abbrev aEl:Func:=Tryz.f101
def aIw (c:Con):List (Nat×AVal):=[(4,.ref 2 0),(6,.ref 3 0),(7,.ref 4 0),(22,.func (.func 184) [] [.ref 5 0,.ptr c.cs])]
def TQ (c:Con) (v:V3) (L:Led) (o:AObj):List AObj:=[.cells 209 (ED c),.mp false (led L),.cells 167 [.ref 0 0],.cells 40 v.cs,.cells 171 [.func (.func 103) [] []],.dead,o]
theorem aBR (c:Con) (v:V3) (L:Led) (x:Int) (l:Nat) (R:Loop) (d:R.state= .ready):
  To (El l [] [] []) aEl (.keep 7 (.ret (.bool true)) (TQ c v (xK v L x) (.bun 0 (cB l {R with state:=.busy})))) (.code [.code (rfA aEl),.beginR,.code (rfB aEl)] (gU (aIw c) 23 (ii x)) (TQ c v L (.bun 0 (cB l R)))):=by
 refine gV ?_
 refine To.beginR (k:=6) (gg:=0) rfl rfl d ?_
 have a:=B3 x L
 unfold xK pF
 cases b:gK L x with
 | none=>
  rw [b] at a
  have a:aZ (led L) [x]=none:=a
  refine gV ?_
  refine ⟨none,a,?_⟩
  refine gV ?_
  refine .pure _ [] (jK V3.zero v) ?_
  exact zqha4
 | some u=>
  rw [b] at a
  have a:aZ (led L) [x]=some u.av:=a
  refine gV ?_
  refine ⟨some u.av,a,?_⟩
  refine gV ?_
  refine .pure _ [] (jK u v) ?_
  exact zqha4
theorem QK (c:Con) (t:Int) (v:V3) (L L':Led) (e:Int) (j:aU c.ns t=true->L'=(upL c.ns t).foldl (xK v) L/\e=0) (h:aU c.ns t=false->L'=L/\e=3) (hl:((nav c.ns).length:Int)<=9223372036854775807):
  aA Tryz.prog 101 [.ref 0 0,ii t,v.av,.func (.func 103) [] []] [.cells 209 (ED c),.mp false (led L)] (.ret (ii e)) [.cells 209 (ED c),.mp false (led L')]:=by
 refine cT (E:=E) (fn:=Tryz.f101) (g:=.full 2 _ _) fun _=>?_
 refine gV ?_
 refine .pure _ [] (oM c t) ?_
 refine gV ?_
 refine Aa (fun h1=>?_) (fun h1=>?_)
 .have h1:aU c.ns t=false:=pC h1
  obtain ⟨rfl,rfl⟩:=h h1
  refine gV ?_
  refine ⟨[],[0,1],⟨rfl,rfl⟩,⟨rfl,rfl⟩⟩
 .have h1:aU c.ns t=true:=pD h1
  obtain ⟨rfl,rfl⟩:=j h1
  refine gV ?_
  refine .pure _ [.cells 3 [ii t]] (XF c t) ?_
  refine gV ?_
  refine To.cutC [4,6,7,22] 6 rfl rfl rfl rfl ?_
  refine To.range [5] rfl rfl (fun _ _=>by rfl) rfl (fun _ _=>rfl) rfl fun l ob0 R _ a=>?_
  obtain ⟨m,i,d⟩:=NJ l c t _ _ true hl (AJ (P:=Tryz.prog) (l:=l) (fun L=>iZ ob0 (aIw c) R (TQ c v L (.bun 0 (cB l R)))) (xK v) (fun L x=>gG (E:=Ex [] [] []) (fn:=aEl) (k:=6) (n:=7) (p:=23) (gg:=0) (L':=TQ c v (xK v L x) (.bun 0 (cB l {R with state:=.busy}))) (b:=true) a.params a.ready a.pend a.assign a.body a.size rfl rfl rfl rfl rfl rfl rfl fun _=>aBR c v L x l R a.ready) (upL c.ns t) L)
  refine ⟨_,true,_,[.cells 3 [m]],i,d,rfl,rfl,?_⟩
  refine gV ?_
  refine ⟨[],[0,1],⟨rfl,rfl⟩,⟨rfl,rfl⟩⟩
structure Con.sm (c:Con):Prop where
 ns:c.ns.length<=1048576
 hs:c.hs.length<=1048576
theorem aGq (c:Con) (b:c.sm):aA Tryz.prog 100 [c.av] [] (.ret (.ref 0 0)) [.cells 209 (ED c),.mp false (led [])]:=by
 have h1:=b.ns
 have a:(nav c.ns).length=c.ns.length:=by simp
 refine cT (E:=E) (fn:=Tryz.f100) (g:=.full 0 _ _) fun _=>?_
 refine gV ?_
 refine Aa (Aa (by simp only [maxLen];omega) o_) ?_
 refine gV ?_
 refine ⟨[],[3,2],⟨rfl,rfl⟩,⟨rfl,rfl⟩⟩
def iW (f:Nat->V3) (i m:Nat):List V3:=(Df i).map f++Ah m V3.zero
theorem C1 (f:Nat->V3) (i m:Nat):(iW f i m).length=i+m:=by simp [iW]
theorem C0 (f:Nat->V3) (i m:Nat):(vav (iW f i (m+1))).set i (f i).av=vav (iW f (i+1) m):=by
 have h1:(Df i).length=i:=by simp
 unfold iW vav
 rw [Ju,Bl,Bl,Bl,List.replicate_succ,Bk]
 rw [Lh _ _ s_]
 simp
theorem C2 (f:Nat->V3) (n:Nat):iW f n 0=(Df n).map f:=by simp [iW]
theorem wX (f:Nat->V3) (n:Nat):vav (iW f 0 n)=Ah n (AVal.agg [ii 0,ii 0,ii 0]):=by simp [iW,vav,V3.av,V3.zero,V3.cs]
noncomputable abbrev aIp:Func:=Tryz.f104
abbrev aAA (c:Con) (L:Led):List AObj:=[.cells 209 (ED c),.mp false (led L)]
def lL (n:Nat) (L:Led):List V3:=(Df n).map fun i:Nat=>pF L (i:Int)
theorem aB3 (c:Con) (L:Led) (g:c.ns.length<=1048576) (K:Int) (j:K=(c.ns.length:Nat)):∀ (m i:Nat),i+m=c.ns.length->
  To E aIp (.full 2 (.ret (.slice 3 (vav (lL c.ns.length L)) .no)) (aAA c L)) (.head (stk aIp 0) [(0,.ref 0 0),(3,.row 2 0),(15,.int .i64 K),(16,.int .i64 i)] [.cells 209 (ED c),.mp false (led L),.row 0 3 40 (vav (iW (fun i:Nat=>pF L (i:Int)) i m))]):=by
 intro m
 induction m with
 | zero=>
  intro i b
  have e:iW (fun i:Nat=>pF L (i:Int)) i 0=lL c.ns.length L:=by rw [C2];unfold lL;rw [<-b];rfl
  rw [e]
  refine gV ?_
  refine aF fun h=>?_
  refine gV ?_
  refine ⟨[2],[0,1],⟨rfl,rfl⟩,⟨rfl,rfl⟩⟩
 | succ m f=>
  intro i b
  have hl:(vav (iW (fun i:Nat=>pF L (i:Int)) i (m+1))).length=i+(m+1):=by rw [Ck,C1]
  have hs:=C0 (fun i:Nat=>pF L (i:Int)) i m
  have a:=B3 (i:Int) L
  have next:=f (i+1) o_
  rw [<-hs] at next
  unfold pF at next
  refine gV ?_
  refine aT fun h=>?_
  cases d:gK L (i:Int) with
  | none=>
   rw [d] at a next
   have a:aZ (led L) [(i:Int)]=none:=a
   refine gV ?_
   refine ⟨none,a,?_⟩
   exact zqha3
  | some u=>
   rw [d] at a next
   have a:aZ (led L) [(i:Int)]=some u.av:=a
   refine gV ?_
   refine ⟨some u.av,a,?_⟩
   exact zqha3
theorem aHs (c:Con) (L:Led) (b:c.sm):aA Tryz.prog 104 [.ref 0 0] (aAA c L) (.ret (.slice 3 (vav (lL c.ns.length L)) .no)) (aAA c L):=by
 have h1:=b.ns
 have a:(nav c.ns).length=c.ns.length:=by simp
 refine cT (E:=E) (fn:=Tryz.f104) (g:=.full 2 _ _) fun _=>?_
 refine gV ?_
 refine aN ?_
 refine gV ?_
 refine ⟨c.ns.length,by rw [a],?_⟩
 refine gV ?_
 refine ⟨⟨rfl,by omega,by simp only [maxLen];omega⟩,?_⟩
 refine gV ?_
 have next:=aB3 c L h1 ((Ah c.ns.length (AVal.agg [ii 0,ii 0,ii 0])).length:Nat) (by rw [Fl]) c.ns.length 0 o_
 rw [wX] at next
 exact To.head [0,3,15,16] next
def dem (g:Gan):V3:=NG g.need g.pods
theorem aBF (g:Gan):aA Tryz.prog 102 [g.av] [] (.ret (dem g).av) []:=by
 refine c_ Tryz.f102 fun _=>?_
 repeat' first | (refine gN hE ?_;conv=>whnf) | refine .pure _ [] (aCm g.need g.pods) ?_ | exact rfl | (refine zt ?_;try intro h) | refine zu (fun h=>?_) fun h=>?_ | fail
def tC (c:Con) (L:Led) (x:Rn):Led:=if aU c.ns x.g.ten=true then (upL c.ns x.g.ten).foldl (xK (dem x.g)) L else L
def ofL (c:Con) (l:List Rn):List V3:=lL c.ns.length (l.foldl (tC c) [])
theorem WT (c:Con) (t:Int) (v:V3) (L:Led) (a:c.sm):aA Tryz.prog 101 [.ref 0 0,ii t,v.av,.func (.func 103) [] []] (aAA c L) (.ret (ii (if aU c.ns t=true then 0 else 3))) (aAA c (if aU c.ns t=true then (upL c.ns t).foldl (xK v) L else L)):=
 QK c t v L _ _ (fun h=>⟨if_pos h,if_pos h⟩) (fun h=>⟨if_neg (by rw [h];decide),if_neg (by rw [h];decide)⟩) (by have:=a.ns;simp only [Ck];omega)
noncomputable abbrev fOf:Func:=Tryz.f63
theorem aDp (c:Con) (d:c.sm) (l:List Rn) (hl:l.length<=1048576) (R:List V3):∀ (m i:Nat) (L:Led),i+m=l.length->lL c.ns.length ((l.drop i).foldl (tC c) L)=R->
  To E fOf (.pure (.ret (.slice 3 (vav R) .no))) (.head (stk fOf 0) [(5,.ref 1 0),(10,.slice 14 (rav l) .no),(11,.int .i64 ((rav l).length:Nat)),(12,.int .i64 i)] [.cells 25 c.cs,.cells 209 [.slice 11 (nav c.ns) .no,.slice 6 (hav c.hs) .no,ii c.half,ii c.age,.mref 2],.mp false (led L)]):=by
 have e:(rav l).length=l.length:=by simp
 intro m
 induction m with
 | zero=>
  intro i L k a
  rw [Ae o_] at a
  subst a
  refine gV ?_
  refine aF fun h=>?_
  refine gV ?_
  refine .eff [] [1,2] _ _ rfl (aHs c L d) ?_
  repeat' first | (refine gN hE ?_;conv=>whnf) | exact rfl | (refine zt ?_;try intro h) | refine zu (fun h=>?_) fun h=>?_ | fail
 | succ m j=>
  intro i L k a
  have b:i<l.length:=o_
  rw [Ad b,Aq] at a
  generalize f:l[i]=x at a
  have get:(rav l)[i]? =some x.av:=(cJ b).trans (by rw [f])
  have next:=j (i+1) (tC c L x) o_ a
  refine gV ?_
  refine aT fun h=>?_
  refine gV ?_
  refine ⟨i,rfl,?_⟩
  refine gV ?_
  refine ⟨_,get,?_⟩
  refine gV ?_
  refine .pure _ [] (aBF x.g) ?_
  refine gV ?_
  refine .sole rfl (.eff [] [1,2] _ _ rfl (WT c x.g.ten (dem x.g) L d) ?_)
  refine gV ?_
  refine aJ ?_
  refine gV ?_
  exact To.cut [5,10,11,12] 3 rfl rfl rfl rfl next
theorem aAa (c:Con) (a:c.sm) (l:List Rn) (hl:l.length<=1048576):aA Tryz.prog 63 [c.av,.slice 14 (rav l) .no] [] (.ret (.slice 3 (vav (ofL c l)) .no)) []:=by
 refine c_ Tryz.f63 fun _=>?_
 refine gV ?_
 refine .pure _ [_,_] (aGq c a) ?_
 refine gV ?_
 exact To.cut [5,10,11,12] 3 rfl rfl rfl rfl (aDp c a l hl _ l.length 0 [] o_ rfl)
def lvF (ns:List Nod):Nat->Nat->List Int
 | 0,_=>[]
 | m+1,i=>if aU ns (i:Int)=true then (i:Int)::lvF ns m (i+1) else lvF ns m (i+1)
def jQ (ns:List Nod):List Int:=lvF ns ns.length 0
theorem zQ (ns:List Nod):∀ (m i:Nat),(lvF ns m i).length<=m
 | 0,_=>by simp [lvF]
 | m+1,i=>by
  have:=zQ ns m (i+1)
  unfold lvF
  split
  .simp;omega
  .omega
noncomputable abbrev aIn:Func:=Tryz.f224
theorem aAw (c:Con) (l:c.sm) (R:List Int):∀ (m i:Nat) (a:List Int),i+m=c.ns.length->a.length<=i->a++lvF c.ns m i=R->
  To (Eo [3] []) aIn (.pure (.ret (.slice 1 (iv R) .no))) (.head (stk aIn 0) [(1,.ref 0 0),(3,.slice 1 (iv a) (.own 1 0)),(7,.int .i64 ((nav c.ns).length:Nat)),(8,.int .i64 i)] [.cells 25 c.cs,.tail 0 1 3]):=by
 have g:(nav c.ns).length=c.ns.length:=by simp
 have h1:=l.ns
 intro m
 induction m with
 | zero=>
  intro i a n j b
  unfold lvF at b
  rw [Bm] at b
  subst b
  refine gV ?_
  refine aF fun h=>?_
  repeat' first | (refine gN (hEo [3] []) ?_;conv=>whnf) | exact rfl | (refine zt ?_;try intro h) | refine zu (fun h=>?_) fun h=>?_ | fail
 | succ m f=>
  intro i a n j b
  have k:(iv a).length=a.length:=by simp
  unfold lvF at b
  refine gV ?_
  refine aT fun h=>?_
  refine gV ?_
  refine .pure _ [] (oM c i) ?_
  refine gV ?_
  refine Aa (fun d=>?_) (fun d=>?_)
  .have d:aU c.ns (i:Int)=true:=d
   rw [if_pos d] at b
   have next:=f (i+1) (a++[(i:Int)]) o_ q_ (by rw [Ay];exact b)
   have e:iv (a++[(i:Int)])=iv a++[ii i]:=by simp
   rw [e] at next
   refine gV ?_
   refine ⟨⟨by simp only [maxLen];simp;omega,by simp;omega⟩,?_⟩
   exact zqha7
  .have d:aU c.ns (i:Int)=false:=d
   rw [if_neg (by rw [d];decide)] at b
   have next:=f (i+1) a o_ o_ b
   exact zqha7
theorem aGx (c:Con) (a:c.sm):aA Tryz.prog 224 [c.av] [] (.ret (.slice 1 (iv (jQ c.ns)) .no)) []:=by
 refine cT (E:=(Eo [3] [])) (fn:=Tryz.f224) (g:=.pure _) fun _=>?_
 refine gV ?_
 refine To.part [1,3,7,8] [0,1] rfl rfl rfl ?_
 exact aAw c a _ c.ns.length 0 [] o_ s_ rfl
theorem XH (ns:List Nod):∀ (f:Nat) (n x:Int),x∈upF ns f n->x<=n
 | 0,n,x,h=>by simp [upF] at h
 | f+1,n,x,h=>by
  unfold upF at h
  split at h
  .split at h
   .split at h
    .simp at h;omega
    .rename_i h3
     rcases Aj.1 h with rfl | h
     .omega
     .have:=XH ns f _ x h
      have:¬ n<=(ns[n.toNat]).p:=fun a=>h3 (decide_eq_true a)
      omega
   .simp at h
  .simp at h
theorem G3 (ns:List Nod):∀ (f:Nat) (n:Int),(upF ns f n).Pairwise fun a b=>b<a
 | 0,n=>by simp [upF]
 | f+1,n=>by
  unfold upF
  split
  .split
   .split
    .simp
    .rename_i h3
     refine Bn.2 ⟨fun x d=>?_,G3 ns f _⟩
     have:=XH ns f _ x d
     have:¬ n<=(ns[n.toNat]).p:=fun c=>h3 (decide_eq_true c)
     omega
   .simp
  .simp
def sD (ns:List Nod) (n t:Int):List Int:=if n∈upL ns t then [t] else []
def bB (ns:List Nod) (n:Int):List Int:=(jQ ns).flatMap (sD ns n)
noncomputable abbrev jE:Func:=Tryz.f223
def aCy (c:Con) (n:Int) (lv:List Int) (i K:Int):List (Nat×AVal):=[(1,.ptr c.cs),(2,.ptr [ii n]),(3,.ref 1 0),(5,.ref 2 0),(8,.slice 1 (iv lv) .no),(9,.int .i64 K),(10,.int .i64 i),(16,.func (.func 184) [] [.ref 3 0,.ptr c.cs])]
def pQ (l:Nat) (t:Int) (G:Nat) (I:BInv) (o:AObj):List AObj:=[.bun G I,.cells 60 [.func (.yield l) [] []],.cells 3 [ii t],.dead,o]
abbrev busy (R:Loop):Loop:={R with state:=.busy}
theorem aCx (c:Con) (n t x i K:Int) (lv:List Int) (l l2 G:Nat) (I:BInv) (R:Loop) (a:R.state= .ready) (b:x≠n):
  To (El l2 [] [] []) jE (.keep 5 (.ret (.bool true)) (pQ l t G I (.bun 0 (cB l2 (busy R))))) (.code [.code (rfA jE),.beginR,.code (rfB jE)] (gU (aCy c n lv i K) 17 (ii x)) (pQ l t G I (.bun 0 (cB l2 R)))):=by
 refine gV ?_
 refine To.beginR (k:=4) (gg:=0) rfl rfl a ?_
 refine gV ?_
 refine Aa (fun h=>absurd (of_decide_eq_true h) b) (fun h=>?_)
 repeat' first | (refine gN (hEl l2 [] [] []) ?_;conv=>whnf) | exact ⟨⟨rfl,rfl⟩,⟨rfl,rfl⟩⟩ | exact rfl | (refine zt ?_;try intro h) | refine zu (fun h=>?_) fun h=>?_ | fail
theorem aFF (c:Con) (n t i K:Int) (lv:List Int) (l l2 G:Nat) (I d:BInv) (R:Loop) (b:R.state= .ready) (e:G=0\/G=1) (a:bE Tryz.prog (.yield l) [ii t] [.bun 0 I] (.ret (.bool true)) [.bun 1 d]):
  To (El l2 [] [] []) jE (.keep 5 (.ret (.bool true)) (pQ l t (G+1) d (.bun 0 (cB l2 (busy R))))) (.code [.code (rfA jE),.beginR,.code (rfB jE)] (gU (aCy c n lv i K) 17 (ii n)) (pQ l t G I (.bun 0 (cB l2 R)))):=by
 exact zqha1
theorem aCw (c:Con) (n t i K:Int) (lv:List Int) (l l2 G:Nat) (I d:BInv) (R:Loop) (b:R.state= .ready) (e:G=0\/G=1) (a:bE Tryz.prog (.yield l) [ii t] [.bun 0 I] (.ret (.bool false)) [.bun 1 d]):
  To (El l2 [] [] []) jE (.keep 5 (.ret (.bool false)) (pQ l t (G+1) d (.bun 0 (cB l2 (busy R))))) (.code [.code (rfA jE),.beginR,.code (rfB jE)] (gU (aCy c n lv i K) 17 (ii n)) (pQ l t G I (.bun 0 (cB l2 R)))):=by
 exact zqha1
theorem vX {P:Program} {l:Nat} {J:BInv} {n:Int} (hs:∀ x,x≠n->bE P (.yield l) [ii x] [.bun 0 J] (.ret (.bool true)) [.bun 1 J]):∀ (xs:List Int),n∉xs->Ylds P l xs J J true
 | [],_=>.nil _
 | x::r,h=>.next x r _ _ _ _ (hs x fun e=>h (by simp [e])) (vX hs r fun e=>h (by simp [e]))
theorem AI {P:Program} {l:Nat} {J J1:BInv} {n:Int} {b:Bool} (hs:∀ x,x≠n->bE P (.yield l) [ii x] [.bun 0 J] (.ret (.bool true)) [.bun 1 J]) (c:bE P (.yield l) [ii n] [.bun 0 J] (.ret (.bool b)) [.bun 1 J1])
  (h1:b=true->∀ x,x≠n->bE P (.yield l) [ii x] [.bun 0 J1] (.ret (.bool true)) [.bun 1 J1]):∀ (xs:List Int),xs.Pairwise (fun a b=>b<a)->n∈xs->Ylds P l xs J J1 b
 | [],_,h=>by simp at h
 | x::r,hp,h=>by
  rw [Bn] at hp
  by_cases d:x=n
  .subst d
   cases b with
   | true=>exact .next x r _ _ _ _ c (vX (h1 rfl) r fun e=>by have:=hp.1 x e;omega)
   | false=>exact .stop x r _ _ c
  .exact .next x r _ _ _ _ (hs x d) (AI hs c h1 r hp.2 ((Aj.1 h).resolve_left fun e=>d e.symm))
def tnJ (c:Con) (n t i K:Int) (lv:List Int) (l l2:Nat) (ob0:Hs) (R a:Loop) (G:Nat) (I:BInv):BInv:=iZ ob0 (aCy c n lv i K) R (pQ l t G I (.bun 0 (cB l2 a)))
theorem uC {e d:Code} (c:Con) (n t x i K:Int) (lv:List Int) (l l2 G:Nat) (ob0:Hs) (I:BInv) (R:Loop) (a:RecOK jE 17 e d R) (h:rfA jE=e) (f:rfB jE=d) (g:x≠n):
  bE Tryz.prog (.yield l2) [ii x] [.bun 0 (tnJ c n t i K lv l l2 ob0 R R G I)] (.ret (.bool true)) [.bun 1 (tnJ c n t i K lv l l2 ob0 R R G I)]:=by
 subst h f
 exact gG (E:=Ex [] [] []) (fn:=jE) (k:=4) (n:=5) (p:=17) (gg:=0) (L':=pQ l t G I (.bun 0 (cB l2 (busy R)))) (b:=true) a.params a.ready a.pend a.assign a.body a.size rfl rfl rfl rfl rfl rfl rfl fun _=>aCx c n t x i K lv l l2 G I R a.ready g
theorem RE {h f:Code} (c:Con) (n t i K:Int) (lv:List Int) (l l2 G:Nat) (ob0:Hs) (I d:BInv) (R:Loop) (b:Bool) (a:RecOK jE 17 h f R) (m:rfA jE=h) (j:rfB jE=f) (g:G=0\/G=1) (e:bE Tryz.prog (.yield l) [ii t] [.bun 0 I] (.ret (.bool b)) [.bun 1 d]):
  bE Tryz.prog (.yield l2) [ii n] [.bun 0 (tnJ c n t i K lv l l2 ob0 R R G I)] (.ret (.bool b)) [.bun 1 (tnJ c n t i K lv l l2 ob0 R (kG R b) (G+1) d)]:=by
 subst m j
 cases b with
 | true=>exact gG (E:=Ex [] [] []) (fn:=jE) (k:=4) (n:=5) (p:=17) (gg:=0) (L':=pQ l t (G+1) d (.bun 0 (cB l2 (busy R)))) (b:=true) a.params a.ready a.pend a.assign a.body a.size rfl rfl rfl rfl rfl rfl rfl fun _=>aFF c n t i K lv l l2 G I d R a.ready g e
 | false=>exact gG (E:=Ex [] [] []) (fn:=jE) (k:=4) (n:=5) (p:=17) (gg:=0) (L':=pQ l t (G+1) d (.bun 0 (cB l2 (busy R)))) (b:=false) a.params a.ready a.pend a.assign a.body a.size rfl rfl rfl rfl rfl rfl rfl fun _=>aCw c n t i K lv l l2 G I d R a.ready g e
theorem XU (c:Con) (V:c.sm) (n:Int) (l:Nat) (lv:List Int) (o:BInv) (b:Bool) (S:lv.length<=1048576):∀ (m i:Nat) (G:Nat) (I:BInv),i+m=lv.length->(G=0\/G=1)->Ylds Tryz.prog l ((lv.drop i).flatMap (sD c.ns n)) I o b->
  ∃ f,To E jE (.full 1 (.ret (.tup [])) [.bun f o]) (.head (stk jE 0) [(1,.ptr c.cs),(2,.ptr [ii n]),(3,.ref 1 0),(8,.slice 1 (iv lv) .no),(9,.int .i64 ((iv lv).length:Nat)),(10,.int .i64 i)] [.bun G I,.cells 60 [.func (.yield l) [] []]]):=by
 have O:(iv lv).length=lv.length:=by simp
 have J:((nav c.ns).length:Int)<=9223372036854775807:=by have:=V.ns;simp only [Ck];omega
 intro m
 induction m with
 | zero=>
  intro i G I W r d
  rw [Ae o_] at d
  have d:Ylds Tryz.prog l [] I o b:=d
  cases d
  rcases r with rfl | rfl
  .refine ⟨0,?_⟩
   refine gV ?_
   refine aF fun h=>?_
   repeat' first | (refine gN hE ?_;conv=>whnf) | (refine Ai [] (Ai [0] (Aa (Aa rfl rfl) ?_));exact Aa rfl rfl) | exact rfl | (refine zt ?_;try intro h) | refine zu (fun h=>?_) fun h=>?_ | fail
  .refine ⟨1,?_⟩
   refine gV ?_
   refine aF fun h=>?_
   repeat' first | (refine gN hE ?_;conv=>whnf) | (refine Ai [] (Ai [0] (Aa (Aa rfl rfl) ?_));exact Aa rfl rfl) | exact rfl | (refine zt ?_;try intro h) | refine zu (fun h=>?_) fun h=>?_ | fail
 | succ m N=>
  intro i G I W r d
  have z:i<lv.length:=o_
  rw [Ad z,Hf] at d
  generalize k:lv[i]=t at d
  have get:(iv lv)[i]? =some (ii t):=(cQ z).trans (by rw [k])
  -- what the loop within comes to
  have key:∃ (f u:Nat) (w:BInv) (j:Bool),(j=true->(u=G\/u=G+1)/\To E jE (.full 1 (.ret (.tup [])) [.bun f o]) (.head (stk jE 0) [(1,.ptr c.cs),(2,.ptr [ii n]),(3,.ref 1 0),(8,.slice 1 (iv lv) .no),(9,.int .i64 ((iv lv).length:Nat)),(10,.int .i64 ((i:Int)+1))] [.bun (if u=0 then 0 else 1) w,.cells 60 [.func (.yield l) [] []]]))/\(j=false->u=G+1/\f=1/\w=o)/\
    ∀ (l2:Nat) (ob0:Hs) (R:Loop) (B y:Code),RecOK jE 17 B y R->rfA jE=B->rfB jE=y->Ylds Tryz.prog l2 (upL c.ns t) (tnJ c n t i ((iv lv).length:Nat) lv l l2 ob0 R R G I) (tnJ c n t i ((iv lv).length:Nat) lv l l2 ob0 R (kG R j) u w) j:=by
   unfold sD at d
   have C:(upL c.ns t).Pairwise fun a b=>b<a:=G3 _ _ _
   by_cases v:n∈upL c.ns t
   .rw [if_pos v] at d
    have d:Ylds Tryz.prog l (t::(lv.drop (i+1)).flatMap (sD c.ns n)) I o b:=d
    cases d with
    | stop _ _ _ _ s=>
     refine ⟨1,G+1,o,false,(fun h=>by cases h),fun _=>⟨rfl,rfl,rfl⟩,fun l2 ob0 R B y g q p=>?_⟩
     exact AI (fun x k=>uC c n t x i _ lv l l2 G ob0 I R g q p k) (RE c n t i _ lv l l2 G ob0 I o R false g q p r s) (fun h=>by cases h) _ C v
    | next _ _ _ D _ _ s U=>
     obtain ⟨f,e⟩:=N (i+1) 1 D o_ (.inr rfl) U
     refine ⟨f,G+1,D,true,fun _=>⟨.inr rfl,?_⟩,(fun h=>by cases h),fun l2 ob0 R B y g q p=>?_⟩
     .rw [if_neg o_];exact e
     .exact AI (fun x k=>uC c n t x i _ lv l l2 G ob0 I R g q p k) (RE c n t i _ lv l l2 G ob0 I D R true g q p r s) (fun _ x k=>uC c n t x i _ lv l l2 (G+1) ob0 D R g q p k) _ C v
   .rw [if_neg v] at d
    have d:Ylds Tryz.prog l ((lv.drop (i+1)).flatMap (sD c.ns n)) I o b:=d
    obtain ⟨f,e⟩:=N (i+1) G I o_ r d
    refine ⟨f,G,I,true,fun _=>⟨.inl rfl,?_⟩,(fun h=>by cases h),fun l2 ob0 R B y g q p=>?_⟩
    .rcases r with rfl | rfl
     .exact e
     .exact e
    .exact vX (fun x k=>uC c n t x i _ lv l l2 G ob0 I R g q p k) _ v
  obtain ⟨f,u,w,j,M,F,K⟩:=key
  refine ⟨f,?_⟩
  refine gV ?_
  refine aT fun h=>?_
  refine gV ?_
  refine ⟨i,rfl,?_⟩
  refine gV ?_
  refine ⟨_,get,?_⟩
  refine gV ?_
  refine .pure _ [.cells 3 [ii t]] (XF c t) ?_
  refine gV ?_
  refine To.cutC [1,2,3,5,8,9,10,16] 4 rfl rfl rfl rfl ?_
  refine To.range [3] rfl rfl (fun _ _=>by rfl) rfl (fun _ _=>rfl) rfl fun l2 ob0 R _ g=>?_
  obtain ⟨X,T,H⟩:=NJ l2 c t _ _ j J (K l2 ob0 R _ _ g rfl rfl)
  refine ⟨pQ l t u w (.bun 0 (cB l2 (kG R j))),j,_,[.cells 3 [X]],T,H,rfl,rfl,?_⟩
  cases j with
  | false=>
   obtain ⟨Q,P,e3⟩:=F rfl
   subst Q P e3
   rcases r with rfl | rfl
   .refine gV ?_
    refine ⟨[],[0],⟨rfl,rfl⟩,⟨rfl,rfl⟩⟩
   .refine gV ?_
    refine ⟨[],[0],⟨rfl,rfl⟩,⟨rfl,rfl⟩⟩
  | true=>
   obtain ⟨L,e⟩:=M rfl
   refine gV ?_
   refine aJ ?_
   refine gV ?_
   refine To.part [1,2,3,8,9,10] [0,1] rfl rfl rfl ?_
   rcases r with rfl | rfl<;>rcases L with rfl | rfl<;>exact e
theorem XT (c:Con) (e:c.sm) (n:Int) (l:Nat) (I i:BInv) (b:Bool) (j:Ylds Tryz.prog l (bB c.ns n) I i b):∃ a,aA Tryz.prog 223 [.func (.yield l) [] [],.ptr c.cs,.ptr [ii n]] [.bun 0 I] (.ret (.tup [])) [.bun a i]:=by
 have d:(jQ c.ns).length<=1048576:=Cm (zQ _ _ _) e.ns
 obtain ⟨a,h⟩:=XU c e n l (jQ c.ns) i b d (jQ c.ns).length 0 0 I o_ (.inl rfl) j
 refine ⟨a,?_⟩
 refine cT (E:=E) (fn:=Tryz.f223) (g:=.full 1 _ _) fun _=>?_
 refine gV ?_
 refine .pure _ [] (aGx c e) ?_
 refine gV ?_
 exact To.head [1,2,3,8,9,10] h
theorem AV (c:Con) (n:Int):aA Tryz.prog 202 [c.av,ii n] [] (.ret (.func (.func 223) [] [.ptr c.cs,.ptr [ii n]])) []:=by
 refine c_ Tryz.f202 fun _=>?_
 repeat' first | (refine gN hE ?_;conv=>whnf) | exact rfl | (refine zt ?_;try intro h) | refine zu (fun h=>?_) fun h=>?_ | fail
theorem JR {P:Program} {l:Nat} (F:List Int->BInv) (h:∀ (a:List Int) x,a.length<1048576->bE P (.yield l) [ii x] [.bun 0 (F a)] (.ret (.bool true)) [.bun 1 (F (a++[x]))]):∀ (xs a:List Int),a.length+xs.length<=1048576->Ylds P l xs (F a) (F (a++xs)) true
 | [],a,_=>by rw [Bm];exact .nil _
 | x::r,a,hl=>by
  have:=JR F h r (a++[x]) (by simp at hl⊢;omega)
  rw [Ay] at this
  exact .next x r _ _ _ _ (h a x (by simp at hl;omega)) this
noncomputable abbrev C4:Func:=Tryz.f241
abbrev T7 (c:Con) (n:Int):AVal:=.func (.func 223) [] [.ptr c.cs,.ptr [ii n]]
def aHp (f:AVal):List (Nat×AVal):=[(2,.ref 0 0),(6,f)]
def sP (a:List Int) (g:Nat) (o:AObj):List AObj:=[.cells 34 [.slice 1 (iv a) (.own 1 g)],.tail g 1 3,o]
theorem W0 (f:AVal) (a:List Int) (x:Int) (hl:a.length<1048576) (l:Nat) (R:Loop) (b:R.state= .ready):
  To (El l [] [] []) C4 (.keep 3 (.ret (.bool true)) (sP (a++[x]) 1 (.bun 0 (cB l (busy R))))) (.code [.code (rfA C4),.beginR,.code (rfB C4)] (gU (aHp f) 7 (ii x)) (sP a 0 (.bun 0 (cB l R)))):=by
 exact zqha2
theorem WZ (f:AVal) (a:List Int) (x:Int) (hl:a.length<1048576) (l:Nat) (R:Loop) (b:R.state= .ready):
  To (El l [] [] []) C4 (.keep 3 (.ret (.bool true)) (sP (a++[x]) 2 (.bun 0 (cB l (busy R))))) (.code [.code (rfA C4),.beginR,.code (rfB C4)] (gU (aHp f) 7 (ii x)) (sP a 1 (.bun 0 (cB l R)))):=by
 exact zqha2
def gOf:List Int->Nat
 | []=>0
 | _::_=>1
theorem aA0 (a:List Int) (x:Int):gOf (a++[x])=1:=by cases a<;>rfl
def apJ (f:AVal) (ob0:Hs) (R:Loop) (l:Nat) (a:List Int):BInv:=iZ ob0 (aHp f) R (sP a (gOf a) (.bun 0 (cB l R)))
theorem aB0 {g e:Code} (f:AVal) (j:∀ og,cvtV 3 [0,1,2] og 5 f=f) (ob0:Hs) (l:Nat) (R:Loop) (d:List Int) (x:Int) (hl:d.length<1048576) (h1:∀ hs∈ob0,hs.length=1) (m:ob0.length=0) (c:RecOK C4 7 g e R) (i:rfA C4=g) (h:rfB C4=e):
  bE Tryz.prog (.yield l) [ii x] [.bun 0 (apJ f ob0 R l d)] (.ret (.bool true)) [.bun 1 (apJ f ob0 R l (d++[x]))]:=by
 subst i h
 unfold apJ
 rw [aA0]
 cases d with
 | nil=>exact gG (E:=Ex [] [] []) (fn:=C4) (k:=2) (n:=3) (p:=7) (gg:=0) (L':=sP ([]++[x]) 1 (.bun 0 (cB l (busy R)))) (b:=true) c.params c.ready c.pend c.assign c.body c.size rfl rfl rfl rfl rfl rfl rfl fun _=>W0 f [] x hl l R c.ready
 | cons a r=>
  have:=gG (E:=Ex [] [] []) (fn:=C4) (ob0:=ob0) (k:=2) (n:=3) (p:=7) (gg:=0) (L:=sP (a::r) 1 (.bun 0 (cB l R))) (L':=sP ((a::r)++[x]) 2 (.bun 0 (cB l (busy R)))) (b:=true) c.params c.ready c.pend c.assign c.body c.size rfl rfl rfl rfl rfl rfl rfl fun _=>WZ f (a::r) x hl l R c.ready
  refine this.bunTo (aBK (n:=3) rfl h1 o_ rfl ?_ rfl)
  show [(2,AVal.ref 0 0),(6,cvtV 3 [0,1,2] _ 5 f)]=_
  rw [j]
  rfl
theorem aHo (c:Con) (i:c.sm) (n:Int) (e:(bB c.ns n).length<=1048576):aA Tryz.prog 241 [.nilslice,T7 c n] [] (.ret (.slice 1 (iv (bB c.ns n)) .no)) []:=by
 refine c_ Tryz.f241 fun _=>?_
 refine gV ?_
 refine To.cutC [2,6] 1 rfl rfl rfl rfl ?_
 refine To.mapO (aGp 1) (aAj 1) ?_
 refine To.beginC 0 0 3 rfl rfl ?_
 refine To.range [] rfl rfl (fun _ _=>by rfl) rfl (fun _ _=>rfl) rfl fun l ob0 R hst j=>?_
 obtain ⟨d,a⟩:=XT c i n l _ _ true (JR (P:=Tryz.prog) (l:=l) (apJ (T7 c n) ob0 R l) (fun b x hl=>aB0 (T7 c n) (fun _=>rfl) ob0 l R b x hl (hst.2 rfl) hst.1 j rfl rfl) (bB c.ns n) [] (by simpa using e))
 rw [Jv] at a
 refine ⟨_,true,_,[],d,a,rfl,rfl,?_⟩
 repeat' first | (refine gN hE ?_;conv=>whnf) | exact rfl | (refine zt ?_;try intro h) | refine zu (fun h=>?_) fun h=>?_ | fail
theorem QF (c:Con) (b:c.sm) (n:Int) (a:(bB c.ns n).length<=1048576):aA Tryz.prog 238 [T7 c n] [] (.ret (.slice 1 (iv (bB c.ns n)) .no)) []:=by
 refine c_ Tryz.f238 fun _=>?_
 repeat' first | (refine gN hE ?_;conv=>whnf) | refine .pure _ [] (aHo c b n a) ?_ | exact rfl | (refine zt ?_;try intro h) | refine zu (fun h=>?_) fun h=>?_ | fail
theorem aD1 (ns:List Nod) (n t:Int):(sD ns n t).length<=1:=by unfold sD;split<;>simp
theorem nO (c:Con) (a:c.sm) (n:Int):(bB c.ns n).length<=1048576:=by
 have h:∀ (l:List Int),(l.flatMap (sD c.ns n)).length<=l.length:=by
  intro l
  induction l with
  | nil=>simp
  | cons x r b=>
   have:=aD1 c.ns n x
   simp only [Hf,Bo,Bt]
   omega
 exact Cm (h _) (Cm (zQ _ _ _) a.ns)
theorem aBV (c:Con) (a:c.sm) (n:Int):aA Tryz.prog 236 [c.av,ii n] [] (.ret (.slice 1 (iv (bB c.ns n)) .no)) []:=by
 refine c_ Tryz.f236 fun _=>?_
 repeat' first | (refine gN hE ?_;conv=>whnf) | refine .pure _ [] (AV c n) ?_ | refine .pure _ [] (QF c a n (nO c a n)) ?_ | exact rfl | (refine zt ?_;try intro h) | refine zu (fun h=>?_) fun h=>?_ | fail
def atV (l:List V3) (n:Int):V3:=if decide (n<0)=true then V3.zero else (l[n.toNat]?).getD V3.zero
theorem aEM (l:List V3) (n:Int) (r:V3) (a:atV l n=r):aA Tryz.prog 203 [.slice 3 (vav l) .no,ii n] [] (.ret r.av) []:=by
 have c:(vav l).length=l.length:=by simp
 unfold atV at a
 by_cases h1:n<0
 .rw [if_pos (decide_eq_true h1)] at a
  subst a
  refine c_ Tryz.f203 fun _=>?_
  repeat' first | (refine gN hE ?_;conv=>whnf) | exact rfl | (refine zt ?_;try intro h) | refine zu (fun h=>?_) fun h=>?_ | fail
 .rw [if_neg (by rw [decide_eq_false h1];decide)] at a
  by_cases b:n.toNat<l.length
  .rw [Ab b] at a
   have a:l[n.toNat]=r:=a
   have get:(vav l)[n.toNat]? =some r.av:=(jJ b).trans (by rw [a])
   have d:n=(n.toNat:Int):=o_
   refine c_ Tryz.f203 fun _=>?_
   repeat' first | (refine gN hE ?_;conv=>whnf) | refine ⟨n.toNat,d,?_⟩ | refine ⟨_,get,?_⟩ | exact rfl | (refine zt ?_;try intro h) | refine zu (fun h=>?_) fun h=>?_ | fail
  .rw [Bj o_] at a
   have a:V3.zero=r:=a
   subst a
   refine c_ Tryz.f203 fun _=>?_
   repeat' first | (refine gN hE ?_;conv=>whnf) | exact rfl | (refine zt ?_;try intro h) | refine zu (fun h=>?_) fun h=>?_ | fail
theorem QN (l:List V3) (n:Int):aA Tryz.prog 203 [.slice 3 (vav l) .no,ii n] [] (.ret (atV l n).av) []:=aEM l n _ rfl
theorem TZ (a b:V3) (r:Bool) (c:bK a b=r):aA Tryz.prog 164 [a.av,b.av] [] (.ret (.bool r)) []:=by
 unfold bK at c
 refine c_ Tryz.f164 fun _=>?_
 refine gV ?_
 repeat' first
  | (refine gW hE ?_;conv=>whnf)
  | exact c
  | refine aY ?_
  | refine aN ?_
  | refine Aa (fun h=>?_) (fun h=>?_)
  | refine aJ ?_
  | refine Ai _ (Aa rfl ?_)
  | refine Aa d_ ?_
 all_goals (rw [<-c];simp_all)
theorem mL (a b:V3):aA Tryz.prog 164 [a.av,b.av] [] (.ret (.bool (bK a b))) []:=TZ a b _ rfl
theorem AO (a b:V3):aA Tryz.prog 130 [a.av,b.av] [] (.ret (.bool (!bK a b))) []:=by
 refine c_ Tryz.f130 fun _=>?_
 repeat' first | (refine gN hE ?_;conv=>whnf) | refine .pure _ [] (mL a b) ?_ | exact rfl | (refine zt ?_;try intro h) | refine zu (fun h=>?_) fun h=>?_ | fail
noncomputable abbrev aEi:Func:=Tryz.f173
def smS (l:List V3) (v:V3) (t:Int):V3:=dL v (atV l t)
def gE (ns:List Nod) (n:Int) (l:List V3):V3:=(bB ns n).foldl (smS l) V3.zero
def aHE (f:AVal):List (Nat×AVal):=[(5,.ref 1 0),(6,.ref 2 0),(7,.ref 3 0),(11,f)]
def RO (c:Con) (l:List V3) (v:V3) (o:AObj):List AObj:=[.cells 25 c.cs,.cells 104 [.slice 3 (vav l) .no],.cells 40 V3.zero.cs,.cells 40 v.cs,o]
theorem X4 (c:Con) (n:Int) (l:List V3) (v:V3) (x:Int) (k:Nat) (R:Loop) (a:R.state= .ready):
  To (El k [] [] []) aEi (.keep 5 (.ret (.bool true)) (RO c l (smS l v x) (.bun 0 (cB k (busy R))))) (.code [.code (rfA aEi),.beginR,.code (rfB aEi)] (gU (aHE (T7 c n)) 12 (ii x)) (RO c l v (.bun 0 (cB k R)))):=by
 refine gV ?_
 refine To.beginR (k:=4) (gg:=0) rfl rfl a ?_
 refine gV ?_
 refine .pure _ [] (QN l x) ?_
 refine gV ?_
 refine .pure _ [] (jK v (atV l x)) ?_
 refine gV ?_
 exact ⟨⟨rfl,rfl⟩,⟨rfl,rfl⟩⟩
theorem XW (c:Con) (i:c.sm) (n:Int) (l:List V3):aA Tryz.prog 173 [c.av,ii n,.slice 3 (vav l) .no] [] (.ret (gE c.ns n l).av) []:=by
 refine c_ Tryz.f173 fun _=>?_
 refine gV ?_
 refine .pure _ [] (AV c n) ?_
 refine gV ?_
 refine To.cutC [5,6,7,11] 4 rfl rfl rfl rfl ?_
 refine To.range [] rfl rfl (fun _ _=>by rfl) rfl (fun _ _=>rfl) rfl fun k ob0 R hst a=>?_
 obtain ⟨e,d⟩:=XT c i n k _ _ true (AJ (P:=Tryz.prog) (l:=k) (fun v=>iZ ob0 (aHE (T7 c n)) R (RO c l v (.bun 0 (cB k R)))) (smS l) (fun v x=>gG (E:=Ex [] [] []) (fn:=aEi) (k:=4) (n:=5) (p:=12) (gg:=0) (L':=RO c l (smS l v x) (.bun 0 (cB k (busy R)))) (b:=true) a.params a.ready a.pend a.assign a.body a.size rfl rfl rfl rfl rfl rfl rfl fun _=>X4 c n l v x k R a.ready) (bB c.ns n) V3.zero)
 refine ⟨_,true,_,[],e,d,rfl,rfl,?_⟩
 repeat' first | (refine gN hE ?_;conv=>whnf) | exact rfl | (refine zt ?_;try intro h) | refine zu (fun h=>?_) fun h=>?_ | fail
def Con.ok (c:Con) (n:Int):Prop:=0<=n/\n.toNat<c.ns.length
theorem H8 (ns:List Nod):∀ (m i:Nat) (x:Int),x∈lvF ns m i->(i:Int)<=x/\x<i+m
 | 0,_,_,h=>by simp [lvF] at h
 | m+1,i,x,h=>by
  have a:=H8 ns m (i+1) x
  unfold lvF at h
  split at h
  .rcases Aj.1 h with rfl | h
   .omega
   .have:=a h;omega
  .have:=a h;omega
theorem iH (c:Con) (n x:Int) (h:x∈bB c.ns n):c.ok x:=by
 unfold bB at h
 obtain ⟨t,h1,a⟩:=List.mem_flatMap.1 h
 have:x=t:=by
  unfold sD at a
  split at a
  .simpa using a
  .simp at a
 subst this
 have:=H8 c.ns c.ns.length 0 x h1
 exact ⟨by omega,by omega⟩
theorem G5 (c:Con):∀ (f:Nat) (n x:Int),x∈upF c.ns f n->c.ok x
 | 0,_,_,h=>by simp [upF] at h
 | f+1,n,x,h=>by
  have b:=fun p=>G5 c f p x
  unfold upF at h
  split at h
  .rename_i h1
   split at h
   .rename_i a
    split at h
    .simp at h;subst h;exact ⟨of_decide_eq_true h1,a⟩
    .rcases Aj.1 h with rfl | h
     .exact ⟨of_decide_eq_true h1,a⟩
     .exact b _ h
   .simp at h
  .simp at h
def bN (ns:List Nod) (n:Int):Nod:=(ns[n.toNat]?).getD ⟨0,0,V3.zero,V3.zero,V3.zero⟩
theorem uS {c:Con} {n:Int} (h:c.ok n):(nav c.ns)[n.toNat]? =some (bN c.ns n).av:=by
 unfold bN
 rw [Ab h.2]
 exact fU h.2
def U7 (v:V3):V3:=⟨max v.a 0,max v.b 0,max v.c 0⟩
def uV (ns:List Nod) (a:List V3) (t:Int) (v:V3) (s:Int):V3:=if decide (s=t)=true then v else dL v (U7 (tY (tY (bN ns s).n (bN ns s).l) (atV a s)))
def uW (ns:List Nod) (a:List V3) (n t:Int):V3:=(bB ns n).foldl (uV ns a t) V3.zero
noncomputable abbrev aFl:Func:=Tryz.f234
theorem VN (c:Con) (a:List V3) (t:Int) (bl:List Int) (w:bl.length<=1048576) (k:∀ x∈bl,c.ok x) (R:V3):∀ (m i:Nat) (v:V3),i+m=bl.length->(bl.drop i).foldl (uV c.ns a t) v=R->
  To E aFl (.pure (.ret R.av)) (.head (stk aFl 0) [(1,.slice 3 (vav a) .no),(3,ii t),(4,.ref 0 0),(8,.ref 1 0),(9,.ref 2 0),(18,.slice 1 (iv bl) .no),(19,.int .i64 ((iv bl).length:Nat)),(20,.int .i64 i)] [.cells 25 c.cs,.cells 40 V3.zero.cs,.cells 40 v.cs]):=by
 have j:(iv bl).length=bl.length:=by simp
 intro m
 induction m with
 | zero=>
  intro i v r f
  rw [Ae o_] at f
  subst f
  refine gV ?_
  refine aF fun h=>?_
  repeat' first | (refine gN hE ?_;conv=>whnf) | exact rfl | (refine zt ?_;try intro h) | refine zu (fun h=>?_) fun h=>?_ | fail
 | succ m q=>
  intro i v r f
  have d:i<bl.length:=o_
  rw [Ad d,Aq] at f
  have b:=k _ (Bg d)
  generalize p:bl[i]=s at f b
  have get:(iv bl)[i]? =some (ii s):=(cQ d).trans (by rw [p])
  have g:=uS b
  have o:s=(s.toNat:Int):=by have:=b.1;omega
  have next:=q (i+1) _ o_ f
  unfold uV at next
  generalize bN c.ns s=x at g next
  refine gV ?_
  refine aT fun h=>?_
  refine gV ?_
  refine ⟨i,rfl,?_⟩
  refine gV ?_
  refine ⟨_,get,?_⟩
  refine gV ?_
  refine Aa (fun e=>?_) (fun e=>?_)
  .have e:decide (s=t)=true:=e
   rw [if_pos e] at next
   exact zqha8
  .have e:decide (s=t)=false:=e
   rw [if_neg (by rw [e];decide)] at next
   refine gV ?_
   refine ⟨s.toNat,o,?_⟩
   refine gV ?_
   refine ⟨_,g,?_⟩
   refine gV ?_
   refine .pure _ [] (GX x.n x.l) ?_
   refine gV ?_
   refine .pure _ [] (QN a s) ?_
   refine gV ?_
   refine .pure _ [] (GX (tY x.n x.l) (atV a s)) ?_
   generalize tY (tY x.n x.l) (atV a s)=u at next⊢
   refine gV ?_
   refine gV ?_
   refine aY ?_
   refine gV ?_
   refine ⟨by decide,?_⟩
   refine gV ?_
   refine ⟨by decide,?_⟩
   refine gV ?_
   refine aJ ?_
   refine gV ?_
   refine gV ?_
   refine aY ?_
   refine gV ?_
   refine ⟨by decide,?_⟩
   refine gV ?_
   refine ⟨by decide,?_⟩
   refine gV ?_
   refine aJ ?_
   refine gV ?_
   refine gV ?_
   refine aY ?_
   refine gV ?_
   refine ⟨by decide,?_⟩
   refine gV ?_
   refine ⟨by decide,?_⟩
   refine gV ?_
   refine aJ ?_
   refine gV ?_
   refine gV ?_
   refine aN ?_
   refine gV ?_
   refine .pure _ [] (jK v (U7 u)) ?_
   exact zqha8
theorem aDM (c:Con) (b:c.sm) (a:List V3) (n t:Int):aA Tryz.prog 234 [c.av,.slice 3 (vav a) .no,ii n,ii t] [] (.ret (uW c.ns a n t).av) []:=by
 refine c_ Tryz.f234 fun _=>?_
 refine gV ?_
 refine .pure _ [] (aBV c b n) ?_
 refine gV ?_
 refine To.cut [1,3,4,8,9,18,19,20] 3 rfl rfl rfl rfl ?_
 exact VN c a t _ (nO c b n) (fun x d=>iH c n x d) _ (bB c.ns n).length 0 V3.zero o_ rfl
noncomputable abbrev aIm:Func:=Tryz.f128
def jP (ns:List Nod):List V3:=(Df ns.length).map fun i:Nat=>(bN ns (i:Int)).n
theorem aAf (c:Con) (a:c.sm) (n:Int) (K:Int) (j:K=((nav c.ns).length:Nat)):∀ (m i:Nat),i+m=c.ns.length->
  To E aIm (.pure (.ret (gE c.ns n (jP c.ns)).av)) (.head (stk aIm 0) [(1,ii n),(2,.ref 0 0),(4,.ref 1 0),(5,.row 2 0),(13,.slice 11 (nav c.ns) .no),(14,.int .i64 K),(15,.int .i64 i)] [.cells 25 c.cs,.cells 40 V3.zero.cs,.row 0 3 40 (vav (iW (fun i:Nat=>(bN c.ns (i:Int)).n) i m))]):=by
 have d:(nav c.ns).length=c.ns.length:=by simp
 have h1:=a.ns
 intro m
 induction m with
 | zero=>
  intro i b
  have e:iW (fun i:Nat=>(bN c.ns (i:Int)).n) i 0=jP c.ns:=by rw [C2];unfold jP;rw [<-b];rfl
  rw [e]
  refine gV ?_
  refine aF fun h=>?_
  refine gV ?_
  refine .pure _ [] (XW c a n (jP c.ns)) ?_
  repeat' first | (refine gN hE ?_;conv=>whnf) | exact rfl | (refine zt ?_;try intro h) | refine zu (fun h=>?_) fun h=>?_ | fail
 | succ m f=>
  intro i b
  have hl:(vav (iW (fun i:Nat=>(bN c.ns (i:Int)).n) i (m+1))).length=i+(m+1):=by rw [Ck,C1]
  have hs:=C0 (fun i:Nat=>(bN c.ns (i:Int)).n) i m
  have g:(nav c.ns)[i]? =some (bN c.ns (i:Int)).av:=uS (c:=c) (n:=(i:Int)) ⟨by omega,by omega⟩
  have next:=f (i+1) o_
  rw [<-hs] at next
  refine gV ?_
  refine aT fun h=>?_
  refine gV ?_
  refine ⟨i,rfl,?_⟩
  refine gV ?_
  refine ⟨_,g,?_⟩
  refine gV ?_
  refine ⟨i,rfl,?_⟩
  refine gV ?_
  refine ⟨by omega,?_⟩
  refine gV ?_
  refine ⟨by omega,?_⟩
  refine gV ?_
  refine aJ ?_
  refine gV ?_
  exact To.cut [1,2,4,5,13,14,15] 3 rfl rfl rfl rfl next
theorem aAe (c:Con) (b:c.sm) (n:Int):aA Tryz.prog 128 [c.av,ii n] [] (.ret (gE c.ns n (jP c.ns)).av) []:=by
 have h1:=b.ns
 have a:(nav c.ns).length=c.ns.length:=by simp
 refine c_ Tryz.f128 fun _=>?_
 refine gV ?_
 refine ⟨c.ns.length,by rw [a],?_⟩
 refine gV ?_
 refine ⟨⟨rfl,by omega,by simp only [maxLen];omega⟩,?_⟩
 refine gV ?_
 have next:=aAf c b n _ rfl c.ns.length 0 o_
 rw [wX] at next
 exact To.cut [1,2,4,5,13,14,15] 3 rfl rfl rfl rfl next
abbrev ZX (c:Con) (used:List V3) (need:V3):AVal:=.func (.func 232) [] [.ptr c.cs,.ptr [.slice 3 (vav used) .no],.ptr need.cs]
abbrev aB4 (c:Con) (used:List V3) (need:V3) (t:Int):AVal:=.func (.func 233) [] [.ptr c.cs,.ptr [.slice 3 (vav used) .no],.ptr need.cs,.ptr [ii t]]
def VB (c:Con) (a:List V3) (need:V3) (n:Int):Bool:=bK (dL (atV a n) need) (dL (bN c.ns n).n (bN c.ns n).b)
def QO (c:Con) (a:List V3) (need:V3) (t n:Int):Bool:=bK (dL (dL (gE c.ns n a) need) (uW c.ns a n t)) (gE c.ns n (jP c.ns))
theorem H1 (c:Con) (a:List V3) (need:V3) (n:Int) (h:c.ok n):aA Tryz.prog 232 [ii n,.ptr c.cs,.ptr [.slice 3 (vav a) .no],.ptr need.cs] [] (.ret (.bool (VB c a need n))) []:=by
 have d:=uS h
 have e:n=(n.toNat:Int):=by have:=h.1;omega
 unfold VB
 generalize bN c.ns n=x at d⊢
 refine c_ Tryz.f232 fun _=>?_
 repeat' first | (refine gN hE ?_;conv=>whnf) | refine ⟨n.toNat,e,?_⟩ | refine ⟨_,d,?_⟩ | refine .pure _ [] (QN a n) ?_ | refine .pure _ [] (jK (atV a n) need) ?_ | refine .pure _ [] (jK x.n x.b) ?_ | refine .pure _ [] (mL _ _) ?_ | exact rfl | (refine zt ?_;try intro h) | refine zu (fun h=>?_) fun h=>?_ | fail
theorem AC (c:Con) (b:c.sm) (a:List V3) (need:V3) (t n:Int):aA Tryz.prog 233 [ii n,.ptr c.cs,.ptr [.slice 3 (vav a) .no],.ptr need.cs,.ptr [ii t]] [] (.ret (.bool (QO c a need t n))) []:=by
 unfold QO
 refine c_ Tryz.f233 fun _=>?_
 repeat' first | (refine gN hE ?_;conv=>whnf) | refine .pure _ [] (XW c b n a) ?_ | refine .pure _ [] (jK (gE c.ns n a) need) ?_ | refine .pure _ [] (aDM c b a n t) ?_ | refine .pure _ [] (jK (dL (gE c.ns n a) need) (uW c.ns a n t)) ?_ | refine .pure _ [] (aAe c b n) ?_ | refine .pure _ [] (mL _ _) ?_ | exact rfl | (refine zt ?_;try intro h) | refine zu (fun h=>?_) fun h=>?_ | fail
noncomputable abbrev aId:Func:=Tryz.f215
def ruO (c:Con) (a:List V3) (need:V3) (t:Int):List AObj:=[.cells 25 c.cs,.cells 104 [.slice 3 (vav a) .no],.cells 3 [ii t],.cells 40 need.cs,.cells 262 [.nilfunc],.cells 262 [.nilfunc],
 .cells 262 [.func (.func 232) [] [.ref 0 0,.ref 1 0,.ref 3 0]],.cells 262 [.func (.func 233) [] [.ref 0 0,.ref 1 0,.ref 3 0,.ref 2 0]]]
def aFO (c:Con) (a:List V3) (need:V3) (t:Int):List AObj:=[.fcells c.cs,.fcells [.slice 3 (vav a) .no],.fcells [ii t],.fcells need.cs,.cells 262 [.nilfunc],.cells 262 [.nilfunc],
 .fcells [ZX c a need],.fcells [aB4 c a need t]]
theorem aFN (c:Con) (a:List V3) (need:V3) (t:Int):frzs [6,7] (ruO c a need t)=aFO c a need t:=by kernel_rfl
theorem aCO (c:Con) (a:List V3) (need:V3) (t:Int):CR [10,11] (aC (aFO c a need t)) [(8,.ref 4 0),(9,.ref 5 0),(10,.ref 6 0),(11,.ref 7 0)]=[(8,.ref 4 0),(9,.ref 5 0),(10,.ptr [ZX c a need]),(11,.ptr [aB4 c a need t])]:=by kernel_rfl
theorem aCN {g:Goal} {ks:List KI} (c:Con) (a:List V3) (need:V3) (t:Int) (h:To (Er [] [16,17]) aId g (.code ks [(8,.ref 4 0),(9,.ref 5 0),(10,.ptr [ZX c a need]),(11,.ptr [aB4 c a need t])] (aFO c a need t))):
  To (Er [] [16,17]) aId g (.code ks [(8,.ref 4 0),(9,.ref 5 0),(10,.ref 6 0),(11,.ref 7 0)] (ruO c a need t)):=by
 refine To.frz [10,11] [6,7] ?_
 rw [aFN,aCO]
 exact h
theorem YF (c:Con) (a:List V3) (need:V3) (t:Int):aA Tryz.prog 215 [c.av,.slice 3 (vav a) .no,ii t,need.av] [] (.ret (.tup [.agg [ZX c a need],.agg [aB4 c a need t]])) []:=by
 refine cT (E:=(Er [] [16,17])) (fn:=Tryz.f215) (g:=.pure _) fun _=>?_
 refine cX (hEr [] [16,17]) 51 ?_;conv=>whnf
 refine To.cutC [8,9,10,11] 8 rfl rfl rfl rfl ?_
 refine aCN c a need t ?_
 repeat' first | (refine gN (hEr [] [16,17]) ?_;conv=>whnf) | exact rfl | (refine zt ?_;try intro h) | refine zu (fun h=>?_) fun h=>?_ | fail
theorem EO {P:Program} {l:Nat} {J J1:BInv} {p:Int->Bool} {V:Int->Prop} (a:∀ x,V x->p x=true->bE P (.yield l) [ii x] [.bun 0 J] (.ret (.bool true)) [.bun 1 J]) (h1:∀ x,V x->p x=false->bE P (.yield l) [ii x] [.bun 0 J] (.ret (.bool false)) [.bun 1 J1]):
  ∀ (xs:List Int),(∀ x∈xs,V x)->Ylds P l xs J (if xs.all p=true then J else J1) (xs.all p)
 | [],_=>by simp;exact .nil _
 | x::r,hv=>by
  rw [Da]
  cases hp:p x with
  | true=>
   rw [Bw]
   exact .next x r _ _ _ _ (a x (hv x s_) hp) (EO a h1 r fun y b=>hv y (by simp [b]))
  | false=>
   rw [Dn,if_neg d_]
   exact .stop x r _ _ (h1 x (hv x s_) hp)
noncomputable abbrev MF:Func:=Tryz.f191
def H7 (c:Con) (a:List V3) (t:Int) (need:V3) (x:Int):Bool:=if decide (x=t)=true then VB c a need x else QO c a need t x
def yW (c:Con) (a:List V3) (t:Int) (need:V3):Bool:=if aU c.ns t=true then (upL c.ns t).all (H7 c a t need) else false
def aDy (f:AVal):List (Nat×AVal):=[(6,.ref 1 0),(8,.ref 3 0),(9,.ref 4 0),(10,.ref 5 0),(26,f)]
def yE (c:Con) (a:List V3) (t:Int) (need:V3) (b:Bool) (o:AObj):List AObj:=[.cells 25 c.cs,.cells 3 [ii t],.cells 40 need.cs,.cells 4 [.bool b],.cells 262 [ZX c a need],.cells 262 [aB4 c a need t],.dead,o]
abbrev aCs (c:Con):AVal:=.func (.func 184) [] [.ref 6 0,.ptr c.cs]
theorem aHT (c:Con) (f:c.sm) (a:List V3) (t:Int) (need:V3) (x:Int) (d:c.ok x) (k:Nat) (R:Loop) (b:R.state= .ready) (hp:H7 c a t need x=true):
  To (El k [] [] []) MF (.keep 8 (.ret (.bool true)) (yE c a t need false (.bun 0 (cB k (busy R))))) (.code [.code (rfA MF),.beginR,.code (rfB MF)] (gU (aDy (aCs c)) 27 (ii x)) (yE c a t need false (.bun 0 (cB k R)))):=by
 exact zqha0
theorem aDx (c:Con) (f:c.sm) (a:List V3) (t:Int) (need:V3) (x:Int) (d:c.ok x) (k:Nat) (R:Loop) (b:R.state= .ready) (hp:H7 c a t need x=false):
  To (El k [] [] []) MF (.keep 8 (.ret (.bool false)) (yE c a t need false (.bun 0 (cB k (busy R))))) (.code [.code (rfA MF),.beginR,.code (rfB MF)] (gU (aDy (aCs c)) 27 (ii x)) (yE c a t need false (.bun 0 (cB k R)))):=by
 exact zqha0
theorem aDF (c:Con) (s:c.sm) (a:List V3) (t:Int) (need:V3) (r:Bool) (e:yW c a t need=r):aA Tryz.prog 191 [c.av,.slice 3 (vav a) .no,ii t,need.av] [] (.ret (.bool r)) []:=by
 have q:((nav c.ns).length:Int)<=9223372036854775807:=by have:=s.ns;simp only [Ck];omega
 unfold yW at e
 refine c_ Tryz.f191 fun _=>?_
 refine gV ?_
 refine .pure _ [] (oM c t) ?_
 refine gV ?_
 refine Aa (fun h1=>?_) (fun h1=>?_)
 .have h1:aU c.ns t=false:=pC h1
  rw [if_neg (by rw [h1];decide)] at e
  subst e
  repeat' first | (refine gN hE ?_;conv=>whnf) | exact rfl | (refine zt ?_;try intro h) | refine zu (fun h=>?_) fun h=>?_ | fail
 .have h1:aU c.ns t=true:=pD h1
  rw [if_pos h1] at e
  refine gV ?_
  refine .pure _ [] (YF c a need t) ?_
  refine gV ?_
  refine .pure _ [.cells 3 [ii t]] (XF c t) ?_
  refine gV ?_
  refine To.cutC [6,8,9,10,26] 7 rfl rfl rfl rfl ?_
  refine To.range [6] rfl rfl (fun _ _=>by rfl) rfl (fun _ _=>rfl) rfl fun k ob0 R hst d=>?_
  have i:=EO (P:=Tryz.prog) (l:=k) (p:=H7 c a t need) (V:=c.ok) (J:=iZ ob0 (aDy (aCs c)) R (yE c a t need false (.bun 0 (cB k R)))) (J1:=iZ ob0 (aDy (aCs c)) R (yE c a t need false (.bun 0 (cB k (kG R false)))))
   (fun x o hp=>gG (E:=Ex [] [] []) (fn:=MF) (k:=7) (n:=8) (p:=27) (gg:=0) (L':=yE c a t need false (.bun 0 (cB k (busy R)))) (b:=true) d.params d.ready d.pend d.assign d.body d.size rfl rfl rfl rfl rfl rfl rfl fun _=>aHT c s a t need x o k R d.ready hp)
   (fun x o hp=>gG (E:=Ex [] [] []) (fn:=MF) (k:=7) (n:=8) (p:=27) (gg:=0) (L':=yE c a t need false (.bun 0 (cB k (busy R)))) (b:=false) d.params d.ready d.pend d.assign d.body d.size rfl rfl rfl rfl rfl rfl rfl fun _=>aDx c s a t need x o k R d.ready hp) (upL c.ns t) (fun x v=>G5 c _ _ x v)
  rw [e] at i
  obtain ⟨m,u,j⟩:=NJ k c t _ _ r q i
  cases r with
  | true=>
   refine ⟨_,true,_,[.cells 3 [m]],u,j,rfl,rfl,?_⟩
   repeat' first | (refine gN hE ?_;conv=>whnf) | exact rfl | (refine zt ?_;try intro h) | refine zu (fun h=>?_) fun h=>?_ | fail
  | false=>
   refine ⟨_,false,_,[.cells 3 [m]],u,j,rfl,rfl,?_⟩
   repeat' first | (refine gN hE ?_;conv=>whnf) | exact rfl | (refine zt ?_;try intro h) | refine zu (fun h=>?_) fun h=>?_ | fail
theorem aGv (c:Con) (b:c.sm) (a:List V3) (t:Int) (need:V3):aA Tryz.prog 191 [c.av,.slice 3 (vav a) .no,ii t,need.av] [] (.ret (.bool (yW c a t need))) []:=aDF c b a t need _ rfl
def aS (hs:List Hos) (n:Int):Hos:=(hs[n.toNat]?).getD ⟨0,0,0,V3.zero⟩
theorem rR {c:Con} {i:Nat} (h:i<c.hs.length):(hav c.hs)[i]? =some (aS c.hs (i:Int)).av:=by
 unfold aS
 rw [Dl,Ab h]
 exact vC h
theorem GY (l:List V3) (i:Nat) (v:V3):(vav l).set i v.av=vav (l.set i v):=by simp [vav,Ka]
def nG (need:V3) (xs:List V3) (h:Int):List V3:=if decide (0<=h)=true then (if decide (h<(xs.length:Int))=true then xs.set h.toNat (tY ((xs[h.toNat]?).getD V3.zero) need) else xs) else xs
theorem nF (need:V3) (xs:List V3) (h:Int):(nG need xs h).length=xs.length:=by unfold nG;split<;>(try split)<;>simp
def sL (xs:List V3) (x:Rn):List V3:=x.hs.foldl (nG x.g.need) xs
theorem rU (x:Rn):∀ (xs:List V3),(sL xs x).length=xs.length:=by
 unfold sL
 generalize x.hs=l
 induction l with
 | nil=>intro xs;rfl
 | cons h r a=>intro xs;rw [Aq,a,nF]
def fR (c:Con) (r:List Rn):List V3:=r.foldl sL ((Df c.hs.length).map fun i:Nat=>(aS c.hs (i:Int)).c)
noncomputable abbrev yJ:Func:=Tryz.f170
abbrev frO (c:Con) (xs:List V3):List AObj:=[.cells 25 c.cs,.row 0 3 40 (vav xs)]
theorem aEc (c:Con) (r:List Rn) (R:List V3) (x:Rn) (j:Nat) (w:x.hs.length<=1048576) (y:c.hs.length<=1048576) (O:List AObj):
  ∀ (m i:Nat) (xs:List V3),xs.length=c.hs.length->i+m=x.hs.length->
   To E yJ (.pure (.ret (.slice 3 (vav R) .no))) (.head (stk yJ 1) [(5,.row 1 0),(30,.slice 14 (rav r) .no),(31,.int .i64 ((rav r).length:Nat)),(32,.int .i64 ((j:Int)+1))] (frO c ((x.hs.drop i).foldl (nG x.g.need) xs)))->
   j<1048576->
  To E yJ (.pure (.ret (.slice 3 (vav R) .no))) (.head (stk yJ 2) [(5,.row 1 0),(9,.ref 2 0),(30,.slice 14 (rav r) .no),(31,.int .i64 ((rav r).length:Nat)),(32,.int .i64 j),(37,.slice 1 (iv x.hs) .no),(38,.int .i64 ((iv x.hs).length:Nat)),(39,.int .i64 i)] (frO c xs++[.cells 44 x.cs])):=by
 have n:(iv x.hs).length=x.hs.length:=by simp
 intro m
 induction m with
 | zero=>
  intro i xs f v a l
  rw [Ae o_] at a
  refine gV ?_
  refine aF fun h=>?_
  refine gV ?_
  refine aJ ?_
  refine gV ?_
  exact To.cut [5,30,31,32] 2 rfl rfl rfl rfl a
 | succ m q=>
  intro i xs f v a l
  have d:i<x.hs.length:=o_
  rw [Ad d,Aq] at a
  generalize s:x.hs[i]=u0 at a
  have get:(iv x.hs)[i]? =some (ii u0):=(cQ d).trans (by rw [s])
  have o:(vav xs).length=xs.length:=by simp
  have next:=q (i+1) (nG x.g.need xs u0) (by rw [nF];exact f) o_ a l
  unfold nG frO at next
  refine gV ?_
  refine aT fun h=>?_
  refine gV ?_
  refine ⟨i,rfl,?_⟩
  refine gV ?_
  refine ⟨_,get,?_⟩
  by_cases h1:0<=u0
  .rw [if_pos (decide_eq_true h1)] at next
   by_cases k:u0<(xs.length:Int)
   .rw [if_pos (decide_eq_true k)] at next
    have b:u0.toNat<xs.length:=o_
    have p:u0=(u0.toNat:Int):=o_
    rw [Ab b] at next
    have e:(vav xs)[u0.toNat]? =some xs[u0.toNat].av:=jJ b
    rw [show ((some xs[u0.toNat]).getD V3.zero)=xs[u0.toNat] from rfl] at next
    generalize xs[u0.toNat]=u at e next
    rw [<-GY] at next
    repeat' first | (refine gN hE ?_;conv=>whnf) | refine ⟨u0.toNat,p,?_⟩ | refine ⟨_,e,?_⟩ | refine .pure _ [] (GX u x.g.need) ?_ | exact rfl | (refine zt ?_;try intro h) | refine zu (fun h=>?_) fun h=>?_ | fail
    exact zqha9
   .rw [if_neg (by rw [decide_eq_false k];decide)] at next
    repeat' first | (refine gN hE ?_;conv=>whnf) | exact rfl | (refine zt ?_;try intro h) | refine zu (fun h=>?_) fun h=>?_ | fail
    exact zqha9
  .rw [if_neg (by rw [decide_eq_false h1];decide)] at next
   repeat' first | (refine gN hE ?_;conv=>whnf) | exact rfl | (refine zt ?_;try intro h) | refine zu (fun h=>?_) fun h=>?_ | fail
   exact zqha9
def Sm (l:List Rn):Prop:=l.length<=1048576/\∀ x∈l,x.hs.length<=1048576
theorem Sm.at {l:List Rn} (h:Sm l) {i:Nat} (a:i<l.length):l[i].hs.length<=1048576:=h.2 _ (Bg a)
theorem aA2 (c:Con) (k:c.sm) (r:List Rn) (e:Sm r) (R:List V3):∀ (m i:Nat) (xs:List V3),i+m=r.length->xs.length=c.hs.length->(r.drop i).foldl sL xs=R->
  To E yJ (.pure (.ret (.slice 3 (vav R) .no))) (.head (stk yJ 1) [(5,.row 1 0),(30,.slice 14 (rav r) .no),(31,.int .i64 ((rav r).length:Nat)),(32,.int .i64 i)] (frO c xs)):=by
 have g:(rav r).length=r.length:=by simp
 have hl:=e.1
 intro m
 induction m with
 | zero=>
  intro i xs n d b
  rw [Ae o_] at b
  subst b
  refine gV ?_
  refine aF fun h=>?_
  repeat' first | (refine gN hE ?_;conv=>whnf) | exact rfl | (refine zt ?_;try intro h) | refine zu (fun h=>?_) fun h=>?_ | fail
 | succ m j=>
  intro i xs n d b
  have a:i<r.length:=o_
  have f:=e.at a
  rw [Ad a,Aq] at b
  generalize l:r[i]=x at b f
  have get:(rav r)[i]? =some x.av:=(cJ a).trans (by rw [l])
  have next:=j (i+1) (sL xs x) o_ (by rw [rU];exact d) b
  refine gV ?_
  refine aT fun h=>?_
  refine gV ?_
  refine ⟨i,rfl,?_⟩
  refine gV ?_
  refine ⟨_,get,?_⟩
  refine gV ?_
  exact To.cut [5,9,30,31,32,37,38,39] 3 rfl rfl rfl rfl (aEc c r R x i f k.hs [] x.hs.length 0 xs d o_ next o_)
theorem VW (c:Con) (b:c.sm) (r:List Rn) (f:Sm r):∀ (m i:Nat),i+m=c.hs.length->
  To E yJ (.pure (.ret (.slice 3 (vav (fR c r)) .no))) (.head (stk yJ 0) [(1,.slice 14 (rav r) .no),(2,.ref 0 0),(5,.row 1 0),(17,.slice 6 (hav c.hs) .no),(18,.int .i64 ((hav c.hs).length:Nat)),(19,.int .i64 i)] (frO c (iW (fun i:Nat=>(aS c.hs (i:Int)).c) i m))):=by
 have d:(hav c.hs).length=c.hs.length:=by simp
 have h1:=b.hs
 intro m
 induction m with
 | zero=>
  intro i a
  rw [C2]
  refine gV ?_
  refine aF fun h=>?_
  refine gV ?_
  refine To.cut [5,30,31,32] 2 rfl rfl rfl rfl ?_
  exact aA2 c b r f _ r.length 0 _ o_ q_ (by unfold fR;rw [<-a];rfl)
 | succ m e=>
  intro i a
  have hl:(vav (iW (fun i:Nat=>(aS c.hs (i:Int)).c) i (m+1))).length=i+(m+1):=by rw [Ck,C1]
  have hs:=C0 (fun i:Nat=>(aS c.hs (i:Int)).c) i m
  have g:(hav c.hs)[i]? =some (aS c.hs (i:Int)).av:=rR o_
  have next:=e (i+1) o_
  unfold frO at next
  rw [<-hs] at next
  refine gV ?_
  refine aT fun h=>?_
  refine gV ?_
  refine ⟨i,rfl,?_⟩
  refine gV ?_
  refine ⟨_,g,?_⟩
  refine gV ?_
  refine ⟨i,rfl,?_⟩
  refine gV ?_
  refine ⟨by omega,?_⟩
  refine gV ?_
  refine ⟨by omega,?_⟩
  refine gV ?_
  refine aJ ?_
  refine gV ?_
  exact To.cut [1,2,5,17,18,19] 2 rfl rfl rfl rfl next
theorem S3 (c:Con) (b:c.sm) (r:List Rn) (d:Sm r):aA Tryz.prog 170 [c.av,.slice 14 (rav r) .no] [] (.ret (.slice 3 (vav (fR c r)) .no)) []:=by
 have h1:=b.hs
 have a:(hav c.hs).length=c.hs.length:=by simp
 refine c_ Tryz.f170 fun _=>?_
 refine gV ?_
 refine ⟨c.hs.length,by rw [a],?_⟩
 refine gV ?_
 refine ⟨⟨rfl,by omega,by simp only [maxLen];omega⟩,?_⟩
 refine gV ?_
 have next:=VW c b r d c.hs.length 0 o_
 unfold frO at next
 rw [wX] at next
 exact To.cut [1,2,5,17,18,19] 2 rfl rfl rfl rfl next
theorem aFI {a b:Int} (c:0<=a) (e:0<b) (f:a<=9223372036854775807):inR .i64 (Ha a b):=by
 have h3:(Ha a b).natAbs<=a.natAbs:=by
  rw [Int.natAbs_tdiv]
  exact Et _ _
 have d:0<=Ha a b:=Int.tdiv_nonneg c o_
 exact ⟨by simp only [bW];omega,by simp only [bI];omega⟩
def xX (n free need:Int):Int:=if decide (0<need)=true then min n (Ha free need) else n
def cO (free need:V3):Int:=if bK need free=true then xX (xX (xX 16 free.a need.a) free.b need.b) free.c need.c else 0
theorem aIE (v:V3) (M:Imm) (ob:Hs) (vs:List Value) (d:List AVal) (h:bT M ob vs (v.av::d)):inR .i64 v.a/\inR .i64 v.b/\inR .i64 v.c:=by
 have hl:0<vs.length:=by rw [h.1];simp
 have:=h.2 0 _ v.av (Ab hl) rfl
 exact ⟨bS this 0 _ rfl,bS this 1 _ rfl,bS this 2 _ rfl⟩
theorem YP (free need:V3) (r:Int) (d:cO free need=r):aA Tryz.prog 196 [free.av,need.av] [] (.ret (ii r)) []:=by
 refine aA.get _ (fun M ob vs h=>aIE free M ob vs _ h) fun ⟨⟨a1,a2⟩,⟨b1,b2⟩,⟨c1,c2⟩⟩=>?_
 simp only [bW,bI] at a1 a2 b1 b2 c1 c2
 unfold cO at d
 refine c_ Tryz.f196 fun _=>?_
 refine gV ?_
 refine .pure _ [] (AO need free) ?_
 refine gV ?_
 refine Aa (fun h1=>?_) (fun h1=>?_)
 .have h1:bK need free=false:=pC h1
  rw [if_neg (by rw [h1];decide)] at d
  subst d
  repeat' first | (refine gN hE ?_;conv=>whnf) | exact rfl | (refine zt ?_;try intro h) | refine zu (fun h=>?_) fun h=>?_ | fail
 .have h1:bK need free=true:=pD h1
  rw [if_pos h1] at d
  unfold xX at d
  have n:need.a<=free.a/\need.b<=free.b/\need.c<=free.c:=by
   unfold bK at h1
   split at h1
   .cases h1
   .split at h1
    .cases h1
    .split at h1
     .cases h1
     .rename_i l i e
      simp only [decide_eq_true_eq] at l i e
      omega
  by_cases m:0<need.a<;>by_cases k:0<need.b<;>by_cases j:0<need.c<;>simp only [m,k,j,decide_true,decide_false,if_true,if_false,Cv] at d
  all_goals (refine gV ?_)
  all_goals repeat' first
   | (refine gW hE ?_;conv=>whnf)
   | exact d▸rfl
   | refine aY ?_
   | refine aN ?_
   | refine aT fun h=>?_
   | refine aF fun h=>?_
   | refine aJ ?_
   | refine Gy (Aa (aFI o_ o_ o_) ?_)
   | refine Ai _ (Aa rfl ?_)
   | refine Aa d_ ?_
   | refine Aa o_ ?_
   | fail
theorem RV (free need:V3):aA Tryz.prog 196 [free.av,need.av] [] (.ret (ii (cO free need))) []:=YP free need _ rfl
def ofK (h:Hos) (i lv:Int):List Int:=[h.f,if decide (2<lv)=true then 0 else h.b,if decide (1<lv)=true then 0 else h.r,if decide (0<lv)=true then 0 else i]
theorem aDq (h:Hos) (i lv:Int) (K:List AVal) (a:(ofK h i lv).map ii=K):aA Tryz.prog 221 [h.av,ii i,ii lv] [] (.ret (.agg K)) []:=by
 unfold ofK at a
 refine c_ Tryz.f221 fun _=>?_
 repeat' first | (refine gN hE ?_;conv=>whnf) | exact rfl | (refine zt ?_;try intro h) | refine zu (fun h=>?_) fun h=>?_ | fail
 all_goals first
  | (subst a;simp only [*,Cv,if_true,if_false,List.map];done)
  | (exfalso;simp only [decide_eq_true_eq,decide_eq_false_iff_not] at *;omega)
theorem aGm (h:Hos) (i lv:Int):aA Tryz.prog 221 [h.av,ii i,ii lv] [] (.ret (.agg ((ofK h i lv).map ii))) []:=aDq h i lv _ rfl
theorem aFB {n:Nat} (h:n<=16):n=0\/n=1\/n=2\/n=3\/n=4\/n=5\/n=6\/n=7\/n=8\/n=9\/n=10\/n=11\/n=12\/n=13\/n=14\/n=15\/n=16:=o_
theorem aAn (n:Nat) (a:n<=16):aA Tryz.prog 240 [.int .u64 1,.int .u64 (n:Int)] [] (.ret (.tup [.int .u64 0,.int .u64 (n:Int)])) []:=by
 rcases aFB a with rfl | rfl | rfl | rfl | rfl | rfl | rfl | rfl | rfl | rfl | rfl | rfl | rfl | rfl | rfl | rfl | rfl
 all_goals
  refine c_ Tryz.f240 fun _=>?_
  repeat' first
   | (refine gN hE ?_;conv=>whnf)
   | exact rfl
   | refine Gy (Aa (Aa d_ d_) ?_)
   | refine Aa d_ ?_
   | fail
theorem aGr (n:Nat) (a:n<=16):aA Tryz.prog 237 [.int .u64 1,.int .u64 (n:Int)] [] (.ret (.tup [.int .u64 0,.int .u64 (n:Int)])) []:=by
 refine c_ Tryz.f237 fun _=>?_
 repeat' first | (refine gN hE ?_;conv=>whnf) | refine .pure _ [] (aAn n a) ?_ | exact rfl | (refine zt ?_;try intro h) | refine zu (fun h=>?_) fun h=>?_ | fail
def rp (h:Int) (k m:Nat):List AVal:=iv (Ah k h)++Ah m (ii 0)
theorem A6 (h:Int) (k m:Nat):(rp h k m).length=k+m:=by simp [rp]
noncomputable abbrev aIh:Func:=Tryz.f235
theorem aCQ (h:Int) (k m:Nat):((k:Int)+ ↑(min (En k (Fv 0 (rp h k m))).length ((rp h k m).length-k)))=((k+min k m:Nat):Int)/\
  (rp h k m).take k++(En k (Fv 0 (rp h k m))).take ((rp h k m).length-k)++(rp h k m).drop (k+min (En k (Fv 0 (rp h k m))).length ((rp h k m).length-k))=rp h (k+min k m) (m-min k m):=by
 have a:(iv (Ah k h)).length=k:=by simp
 have h1:(rp h k m).take k=iv (Ah k h):=by unfold rp;rw [Ej o_,Cn o_]
 have hl:=A6 h k m
 rw [Bx,h1,hl,a,show k+m-k=m from by omega]
 refine ⟨by omega,?_⟩
 have b:(rp h k m).drop (k+min k m)=Ah (m-min k m) (ii 0):=by
  unfold rp
  rw [List.drop_append,a,List.drop_of_length_le o_,Jv,List.drop_replicate]
  congr 1
  omega
 rw [b]
 unfold rp
 congr 1
 simp only [iv,List.map_replicate,List.take_replicate,List.replicate_append_replicate]
 congr 1
 omega
theorem ZA (a:Int) (N:Nat) (l:N<=16):∀ (f k m:Nat),k+m=N->1<=k->m<=f->
  To (Er [] [38]) aIh (.pure (.ret (.slice 1 (iv (Ah N a)) .no))) (.head (stk aIh 0) [(7,.row 0 0),(8,.int .i64 (k:Int))] [.row 0 1 3 (rp a k m)]):=by
 intro f
 induction f with
 | zero=>
  intro k m b h1 hm
  have hm:m=0:=o_
  subst hm
  have hl:=A6 a k 0
  have b:k=N:=o_
  subst b
  have e:rp a k 0=iv (Ah k a):=by simp [rp]
  rw [e] at hl⊢
  refine gV ?_
  refine aF fun h=>?_
  repeat' first | (refine gN (hEr [] [38]) ?_;conv=>whnf) | exact rfl | refine aY ?_ | refine aN ?_ | refine aT fun h=>?_ | refine aF fun h=>?_ | refine ⟨fun h=>?_,fun h=>?_⟩ | refine Gy (Aa (Aa (by simp only [bW];omega) (by simp only [bI];omega)) ?_) | refine ⟨_,rfl,?_⟩ | refine aD ?_ | fail
 | succ f i=>
  intro k m b h1 hm
  by_cases j:m=0
  .subst j
   have hl:=A6 a k 0
   have b:k=N:=o_
   subst b
   have e:rp a k 0=iv (Ah k a):=by simp [rp]
   rw [e] at hl⊢
   refine gV ?_
   refine aF fun h=>?_
   repeat' first | (refine gN (hEr [] [38]) ?_;conv=>whnf) | exact rfl | refine aY ?_ | refine aN ?_ | refine aT fun h=>?_ | refine aF fun h=>?_ | refine ⟨fun h=>?_,fun h=>?_⟩ | refine Gy (Aa (Aa (by simp only [bW];omega) (by simp only [bI];omega)) ?_) | refine ⟨_,rfl,?_⟩ | refine aD ?_ | fail
  have hl:=A6 a k m
  have next:=i (k+min k m) (m-min k m) o_ o_ o_
  generalize g:rp a k m=X at hl⊢
  refine gV ?_
  refine aT fun h=>?_
  refine gV ?_
  refine ⟨k,rfl,?_⟩
  refine gV ?_
  refine ⟨by omega,?_⟩
  refine gV ?_
  refine ⟨k,rfl,?_⟩
  refine gV ?_
  refine ⟨by omega,?_⟩
  refine gV ?_
  rw [<-g] at hl⊢
  obtain ⟨d,c⟩:=aCQ a k m
  rw [<-d,<-c] at next
  have e3:min (En k (Fv 0 (rp a k m))).length ((rp a k m).length-k)<=16:=by
   have:(rp a k m).length=k+m:=A6 a k m
   omega
  refine Gy (Aa (Aa (by simp only [bW];omega) (by simp only [bI];omega)) ?_)
  refine gV ?_
  exact To.head [7,8] next
theorem YO (h:Int) (m:Nat):((1:Nat):Int)= ↑(min [ii h].length (Ah (m+1) (AVal.int .i64 0)).length)/\rp h 1 m=[ii h].take (Ah (m+1) (AVal.int .i64 0)).length++(Ah (m+1) (AVal.int .i64 0)).drop [ii h].length:=by
 refine ⟨by simp,?_⟩
 simp [rp,List.drop_replicate]
theorem aF3 (h:Int) (n:Nat) (a:n<=16):aA Tryz.prog 235 [.slice 1 [ii h] .no,ii (n:Int)] [] (.ret (.slice 1 (iv (Ah n h)) .no)) []:=by
 have hm:=aGr n a
 cases n with
 | zero=>
  refine cT (E:=(Er [] [38])) (fn:=Tryz.f235) (g:=.pure _) fun _=>?_
  refine gV ?_
  refine aF fun h=>?_
  refine gV ?_
  refine Gy (Aa (Aa (by simp only [bW,Bt,Gl];omega) (by simp only [bI,Bt,Gl];omega)) ?_)
  refine gV ?_
  refine Gy (Aa (Aa (by simp only [bW];omega) (by simp only [bI];omega)) ?_)
  refine gV ?_
  refine .pure _ [] hm ?_
  refine gV ?_
  refine aF fun h=>?_
  refine gV ?_
  refine aF fun h=>?_
  refine gV ?_
  refine Gy (Aa (Aa (by simp only [bW];omega) (by simp only [bI];omega)) ?_)
  refine gV ?_
  refine ⟨0,rfl,?_⟩
  refine gV ?_
  refine ⟨⟨rfl,by omega,by simp only [maxLen];omega⟩,?_⟩
  refine gV ?_
  refine gV ?_
  refine aN ?_
  repeat' first | (refine gN (hEr [] [38]) ?_;conv=>whnf) | exact rfl | refine aY ?_ | refine aN ?_ | refine aT fun h=>?_ | refine aF fun h=>?_ | refine ⟨fun h=>?_,fun h=>?_⟩ | refine Gy (Aa (Aa (by simp only [bW];omega) (by simp only [bI];omega)) ?_) | refine ⟨_,rfl,?_⟩ | refine aD ?_ | fail
 | succ m=>
  have next:=ZA h (m+1) a (m+1) 1 m o_ o_ o_
  obtain ⟨b,c⟩:=YO h m
  rw [b,c] at next
  refine cT (E:=(Er [] [38])) (fn:=Tryz.f235) (g:=.pure _) fun _=>?_
  refine gV ?_
  refine aF fun h=>?_
  refine gV ?_
  refine Gy (Aa (Aa (by simp only [bW,Bt,Gl];omega) (by simp only [bI,Bt,Gl];omega)) ?_)
  refine gV ?_
  refine Gy (Aa (Aa (by simp only [bW];omega) (by simp only [bI];omega)) ?_)
  refine gV ?_
  refine .pure _ [] hm ?_
  refine gV ?_
  refine aF fun h=>?_
  refine gV ?_
  refine aF fun h=>?_
  refine gV ?_
  refine Gy (Aa (Aa (by simp only [bW];omega) (by simp only [bI];omega)) ?_)
  refine gV ?_
  refine ⟨m+1,rfl,?_⟩
  refine gV ?_
  refine ⟨⟨rfl,by omega,by simp only [maxLen];omega⟩,?_⟩
  refine gV ?_
  exact To.head [7,8] next
theorem A8 (a b:V3):cO a b<=16:=by
 have h:∀ n f k,n<=16->xX n f k<=16:=fun n f k h=>by unfold xX;split<;>omega
 unfold cO
 split
 .exact h _ _ _ (h _ _ _ (h _ _ _ d_))
 .decide
def inN (free need:V3) (pods len:Int):Int:=min (cO free need) (pods-len)
def inS (free:List V3) (g:Gan) (out:List Int) (h:Int):List Int:=if decide (h<0)=true then out else if decide ((free.length:Int)<=h)=true then out else out++Ah (max (inN ((free[h.toNat]?).getD V3.zero) g.need g.pods out.length) 0).toNat h
def inL (free:List V3) (g:Gan) (a:List Int):List Int:=a.foldl (inS free g) []
theorem zS (free:List V3) (g:Gan) (out:List Int) (h:Int) (hp:(out.length:Int)<=g.pods):((inS free g out h).length:Int)<=g.pods:=by
 unfold inS
 split
 .exact hp
 .split
  .exact hp
  .simp only [Bo,Fl,inN]
   omega
noncomputable abbrev fIn:Func:=Tryz.f216
def CI (out:List Int) (g:Gan):AVal:=if decide ((out.length:Int)<g.pods)=true then .tup [.slice 1 [] .no,.bool false] else .tup [.slice 1 (iv out) .no,.bool true]
theorem IE (c:Con) (free:List V3) (g:Gan) (r:0<=g.pods/\g.pods<=16) (a:List Int) (hl:a.length<=1048576) (R:List Int):∀ (m i:Nat) (out:List Int),i+m=a.length->(out.length:Int)<=g.pods->(a.drop i).foldl (inS free g) out=R->
  To (Eo [10] []) fIn (.pure (.ret (CI R g))) (.head (stk fIn 0) [(1,.slice 3 (vav free) .no),(7,.ref 1 0),(10,.slice 1 (iv out) (.own 2 0)),(14,.slice 1 (iv a) .no),(15,.int .i64 ((iv a).length:Nat)),(16,.int .i64 i)] [.cells 25 c.cs,.cells 42 g.cs,.tail 0 1 3]):=by
 have w:(iv a).length=a.length:=by simp
 have C:(vav free).length=free.length:=by simp
 intro m
 induction m with
 | zero=>
  intro i out D hp f
  rw [Ae o_] at f
  have f:out=R:=f
  subst f
  have o:(iv out).length=out.length:=by simp
  obtain ⟨Q,j⟩:∃ Q,Q=CI out g:=⟨_,rfl⟩
  rw [<-j]
  unfold CI at j
  by_cases h1:(out.length:Int)<g.pods
  .rw [if_pos (decide_eq_true h1)] at j
   subst j
   refine gV ?_
   refine aF fun h=>?_
   repeat' first | (refine gN (hEo [10] []) ?_;conv=>whnf) | exact rfl | (refine zt ?_;try intro h) | refine zu (fun h=>?_) fun h=>?_ | fail
  .rw [if_neg (by rw [decide_eq_false h1];decide)] at j
   subst j
   refine gV ?_
   refine aF fun h=>?_
   repeat' first | (refine gN (hEo [10] []) ?_;conv=>whnf) | exact rfl | (refine zt ?_;try intro h) | refine zu (fun h=>?_) fun h=>?_ | fail
 | succ m A=>
  intro i out D hp f
  have l:i<a.length:=o_
  rw [Ad l,Aq] at f
  have n:=zS free g out a[i] hp
  generalize z:a[i]=u0 at f n
  have get:(iv a)[i]? =some (ii u0):=(cQ l).trans (by rw [z])
  have o:(iv out).length=out.length:=by simp
  have next:=A (i+1) (inS free g out u0) o_ n f
  unfold inS at next
  refine gV ?_
  refine aT fun h=>?_
  refine gV ?_
  refine ⟨i,rfl,?_⟩
  refine gV ?_
  refine ⟨_,get,?_⟩
  by_cases h1:u0<0
  .rw [if_pos (decide_eq_true h1)] at next
   repeat' first | (refine gN (hEo [10] []) ?_;conv=>whnf) | exact rfl | (refine zt ?_;try intro h) | refine zu (fun h=>?_) fun h=>?_ | fail
   exact zqha5
  .rw [if_neg (by rw [decide_eq_false h1];decide)] at next
   by_cases v:(free.length:Int)<=u0
   .rw [if_pos (decide_eq_true v)] at next
    repeat' first | (refine gN (hEo [10] []) ?_;conv=>whnf) | exact rfl | (refine zt ?_;try intro h) | refine zu (fun h=>?_) fun h=>?_ | fail
    exact zqha5
   .rw [if_neg (by rw [decide_eq_false v];decide)] at next
    have k:u0.toNat<free.length:=o_
    have x:u0=(u0.toNat:Int):=o_
    rw [Ab k] at next
    have q:(vav free)[u0.toNat]? =some free[u0.toNat].av:=jJ k
    rw [show ((some free[u0.toNat]).getD V3.zero)=free[u0.toNat] from rfl] at next
    generalize free[u0.toNat]=f0 at q next
    have s:=A8 f0 g.need
    have d:(max (inN f0 g.need g.pods out.length) 0).toNat<=16:=by unfold inN;omega
    have p:max (min (cO f0 g.need) (g.pods-((iv out).length:Nat))) 0=(((max (inN f0 g.need g.pods out.length) 0).toNat:Nat):Int):=by unfold inN;rw [o];omega
    have b:=aF3 u0 _ d
    rw [<-p] at b
    generalize F:(max (inN f0 g.need g.pods out.length) 0).toNat=N at d b next
    have e:iv (out++Ah N u0)=iv out++iv (Ah N u0):=by simp
    rw [e] at next
    have y:(iv (Ah N u0)).length=N:=by simp
    have B:=r.1
    have u:=r.2
    repeat' first | (refine gN (hEo [10] []) ?_;conv=>whnf) | refine ⟨u0.toNat,x,?_⟩ | refine ⟨_,q,?_⟩ | refine .pure _ [] (RV f0 g.need) ?_ | refine .pure _ [] (aA.strip b) ?_ | refine Aa (Aa (by simp only [maxLen];omega) o_) ?_ | exact rfl | (refine zt ?_;try intro h) | refine zu (fun h=>?_) fun h=>?_ | fail
    exact zqha5
theorem yG (c:Con) (free:List V3) (g:Gan) (b:0<=g.pods/\g.pods<=16) (a:List Int) (hl:a.length<=1048576):aA Tryz.prog 216 [c.av,.slice 3 (vav free) .no,.slice 1 (iv a) .no,g.av] [] (.ret (CI (inL free g a) g)) []:=by
 refine cT (E:=(Eo [10] [])) (fn:=Tryz.f216) (g:=.pure _) fun _=>?_
 refine gV ?_
 refine To.part [1,7,10,14,15,16] [0,1,2] rfl rfl rfl ?_
 exact IE c free g b a hl _ a.length 0 [] o_ (by simpa using b.1) rfl
noncomputable abbrev rV:Func:=Tryz.f198
abbrev GSt:=List (List Int×Nat)×List (List Int)
def kS:List (List Int×Nat)->List Int->Option Nat
 | [],_=>none
 | (k,v)::r,x=>if k=x then some v else kS r x
abbrev kav (es:List (List Int×Nat)):List (List Int×AVal):=es.map fun p=>(p.1,ii p.2)
theorem CB (x:List Int):∀ es,aZ (kav es) x=(kS es x).map fun n:Nat=>ii n
 | []=>rfl
 | (k,v)::r=>by
  show (if k=x then some (ii v) else aZ (kav r) x)=(if k=x then some v else kS r x).map _
  split
  .rfl
  .exact CB x r
theorem SL (x:List Int) (v:Nat):∀ es,kS es x=none->jC (kav es) x (ii v)=kav (es++[(x,v)])
 | [],_=>rfl
 | (k,u)::r,h=>by
  have h:(if k=x then some u else kS r x)=none:=h
  show (if k=x then (x,ii v)::kav r else (k,ii u)::jC (kav r) x (ii v))=(k,ii u)::kav (r++[(x,v)])
  split at h
  .cases h
  .rename_i a
   rw [if_neg a,SL x v r h]
def gpS (c:Con) (lv:Int) (s:GSt) (i:Nat):GSt:=
 match kS s.1 (ofK (aS c.hs (i:Int)) i lv) with
 | some k=>(s.1,s.2.set k ((s.2[k]?).getD []++[(i:Int)]))
 | none=>(s.1++[(ofK (aS c.hs (i:Int)) i lv,s.2.length)],s.2++[[(i:Int)]])
def gpL (c:Con) (lv:Int):List (List Int):=if decide (lv<0)=true then [] else if decide (3<lv)=true then [] else ((Df c.hs.length).foldl (gpS c lv) ([],[])).2
abbrev gav (l:List (List Int)):List AVal:=l.map fun xs=>.slice 1 (iv xs) .no
abbrev L7 (c:Con) (gr gb:Nat) (es:List (List Int×Nat)) (ms:List Hm):List AObj:=[.cells 25 c.cs,.row gr 1 34 (ms.map hmA),.mp true (kav es),.bun gb (lK 1 3 ms)]
abbrev aH7 (c:Con) (lv:Int) (gr i:Nat):List (Nat×AVal):=[(1,ii lv),(5,.row 1 gr),(6,.mref 2),(20,.slice 6 (hav c.hs) .no),(21,.int .i64 ((hav c.hs).length:Nat)),(22,ii i)]
theorem aAS (c:Con) (lv:Int) (G:Goal) (i k:Nat) (l:i<1048576) (b:List Hm) (m:Hm) (hm:b[k]? =some m) (h:m.2.2.length<=1048576) (g:b.length<=1048576) (es:List (List Int×Nat)) (j:Ff G.n0 4=true)
  (next:∀ a f,To (Er [5] []) rV G (.code (oU rV 14) (aH7 c lv 0 i) (L7 c 0 1 es (b.set k (a,f,m.2.2++[ii i]))))):
  To (Er [5] []) rV G (.code (vT rV 14) [(1,ii lv),(5,.row 1 0),(6,.mref 2),(7,ii i),(10,ii k),(20,.slice 6 (hav c.hs) .no),(21,.int .i64 ((hav c.hs).length:Nat)),(22,ii i)] (L7 c 0 0 es b)):=by
 refine To.handAt (hEr [5] []) 8 [] rfl rfl rfl ?_;conv=>whnf
 refine ⟨k,rfl,?_⟩;conv=>whnf
 have e:(b.map hmA)[k]? =some (hmA m):=by rw [Bd,hm];rfl
 refine ⟨by have:=(Ac.1 hm).1;simpa using this,?_⟩;conv=>whnf
 refine ⟨_,e,?_⟩;conv=>whnf
 refine .mk 3 0 k b m [ii i] 3 1 8 1 false (.slice 1 [] .nil) rfl hm rfl rfl rfl rfl ⟨by show _+1<=_;simp only [maxLen];omega,by show (_+1)*8<=_;omega⟩ fun a f=>?_
 have d:k<(b.map hmA).length:=by have:=(Ac.1 hm).1;simpa using this
 have next:=next a f
 unfold L7 at next
 rw [Ka] at next
 refine gV ?_
 refine ⟨k,rfl,?_⟩
 refine gV ?_
 refine ⟨d,?_⟩
 refine gV ?_
 refine ⟨d,?_⟩
 refine cX (hEr [5] []) 3 ?_;conv=>whnf
 refine To.cutC (fr:=[(1,_),(5,_),(6,_),(7,_),(10,_),(20,_),(21,_),(22,_),(47,_),(48,_),(49,_),(50,_),(51,_),(52,_),(53,_),(54,_),(55,_),(56,_)]) (obs:=[_,_,_,_]) [1,5,6,20,21,22] 4 j rfl rfl rfl ?_
 exact next
theorem FK (x:List Int) (v:Nat) (y:List Int):∀ es,kS (es++[(x,v)]) y=match kS es y with | some k=>some k | none=>if x=y then some v else none
 | []=>rfl
 | (k,u)::r=>by
  show (if k=y then some u else kS (r++[(x,v)]) y)=match (if k=y then some u else kS r y) with | some k=>some k | none=>if x=y then some v else none
  split
  .rfl
  .exact FK x v y r
structure GI (i:Nat) (s:GSt):Prop where
 key:∀ p∈s.1,p.1.length=4
 at':∀ x k,kS s.1 x=some k->k<s.2.length
 len:s.2.length<=i
 each:∀ xs∈s.2,xs.length<=i
theorem GI.step {c:Con} {lv:Int} {i:Nat} {s:GSt} (h:GI i s):GI (i+1) (gpS c lv s i):=by
 obtain ⟨h1,d,h3,e⟩:=h
 unfold gpS
 split
 .rename_i k f
  refine ⟨h1,fun x k h=>by simpa using d x k h,by simp;omega,fun xs a=>?_⟩
  rcases Dj a with a | rfl
  .have:=e xs a;omega
  .have hl:=d _ k f
   rw [Ab hl]
   have:=e _ (Bg hl)
   simp
   omega
 .rename_i f
  refine ⟨fun p hp=>?_,fun x k a=>?_,by simp;omega,fun xs a=>?_⟩
  .rcases Ao.1 hp with hp | hp
   .exact h1 p hp
   .simp at hp;subst hp;rfl
  .rw [FK] at a
   split at a
   .rename_i g b
    have:=d x g b
    cases a
    simp;omega
   .split at a
    .cases a;simp
    .cases a
  .rcases Ao.1 a with a | a
   .have:=e xs a;omega
   .simp at a;subst a;simp
theorem aD5 (c:Con) (J:c.sm) (lv:Int) (P:0<=lv) (O:lv<=3) (R:List (List Int)):∀ (n i:Nat) (s:GSt) (b:List Hm),i+n=c.hs.length->b.map (fun m=>m.2.2)=s.2.map iv->GI i s->((Gx i n).foldl (gpS c lv) s).2=R->
  To (Er [5] []) rV (.pure (.ret (.slice 1 (gav R) .no))) (.head (stk rV 0) (aH7 c lv 0 i) (L7 c 0 0 s.1 b)):=by
 have h1:=J.hs
 have F:(hav c.hs).length=c.hs.length:=by simp
 intro n
 induction n with
 | zero=>
  intro i s b N d r y
  have y:s.2=R:=y
  subst y
  refine To.ofC (To.famFrz 3 1 rfl rfl ?_)
  have e:(b.map fun m=>AVal.slice 1 m.2.2 .no)=gav s.2:=by
   have:=congrArg (List.map fun xs=>AVal.slice 1 xs .no) d
   rw [Cu,Cu] at this
   exact this
  rw [e]
  refine To.toC ?_
  refine gV ?_
  refine aF fun h=>?_
  repeat' first | (refine gN (hEr [5] []) ?_;conv=>whnf) | exact rfl | (refine zt ?_;try intro h) | refine zu (fun h=>?_) fun h=>?_ | fail
 | succ n H=>
  intro i s b N d r y
  rw [Jb,Aq] at y
  have I:(hav c.hs)[i]? =some (aS c.hs (i:Int)).av:=rR o_
  have next:=fun z h=>H (i+1) (gpS c lv s i) z o_ h r.step y
  have l:∀ p∈kav s.1,p.1.length=4:=fun p hp=>by
   obtain ⟨q,L,rfl⟩:=Bb.1 hp
   exact r.key q L
  refine gV ?_
  refine aT fun h=>?_
  refine gV ?_
  refine ⟨i,rfl,?_⟩
  refine gV ?_
  refine ⟨_,I,?_⟩
  refine gV ?_
  refine .pure _ [] (aGm (aS c.hs (i:Int)) i lv) ?_
  refine gV ?_
  refine ⟨l,?_⟩
  refine gV ?_
  cases v:kS s.1 (ofK (aS c.hs (i:Int)) i lv) with
  | none=>
   have D:aZ (kav s.1) (ofK (aS c.hs (i:Int)) i lv)=none:=by rw [CB,v];rfl
   refine ⟨_,D,?_⟩
   refine gV ?_
   refine aY ?_
   refine gV ?_
   refine ⟨l,?_⟩
   refine gV ?_
   have g:b.length=s.2.length:=by have:=congrArg Lk d;simpa using this
   have A:=r.len
   have f:(b.map hmA).length=b.length:=by simp
   refine ⟨⟨by show (b.map hmA).length+1<=_;simp only [maxLen];omega,by show ((b.map hmA).length+1)*24<=_;omega⟩,?_⟩
   refine cX (hEr [5] []) 6 ?_;conv=>whnf
   have G:(b.map hmA).length=s.2.length:=f.trans g
   have e:=SL (ofK (aS c.hs (i:Int)) i lv) (b.map hmA).length s.1 v
   have C:gpS c lv s i=(s.1++[(ofK (aS c.hs (i:Int)) i lv,(b.map hmA).length)],s.2++[[(i:Int)]]):=by
    unfold gpS
    rw [v,G]
   rw [C] at next
   have hm:(b++[((none,0,[]):Hm)])[(b.map hmA).length]? =some (none,0,[]):=by rw [f,Ar (Bi _)];simp
   have u:=aAS c lv (.pure (.ret (.slice 1 (gav R) .no))) i (b.map hmA).length o_ (b++[(none,0,[])]) _ hm s_ q_ (s.1++[(ofK (aS c.hs (i:Int)) i lv,(b.map hmA).length)]) rfl fun a B=>by
    have next:=next ((b++[(none,0,[])]).set (b.map hmA).length (a,B,[]++[ii i])) (by rw [f,Lh _ _ (Bi _)];simp [d])
    exact zqha6
   unfold L7 at u
   rw [<-e] at u
   refine To.cutC [1,5,6,7,10,20,21,22] 4 rfl rfl rfl rfl ?_
   refine To.objTo 1 (x:=.row 1 1 34 (b.map hmA++[.nilslice])) (x':=.row 1 1 34 ((b++[(none,0,[])]).map hmA)) rfl (fun h=>by cases h) rfl (fun M ob w hs _ h=>aCR h) ?_
   refine To.objTo 3 (x:=.bun 0 (lK 1 3 b)) (x':=.bun 0 (lK 1 3 (b++[(none,0,[])]))) rfl (fun h=>by cases h) rfl (fun M ob w hs _ h=>aEe h) ?_
   refine To.toC ?_
   refine To.part [1,5,6,7,10,20,21,22] [0,1,2,3] rfl rfl rfl ?_
   refine To.ofC ?_
   exact u
  | some k=>
   have D:aZ (kav s.1) (ofK (aS c.hs (i:Int)) i lv)=some (ii k):=by rw [CB,v];rfl
   refine ⟨_,D,?_⟩
   refine gV ?_
   refine aN ?_
   refine cX (hEr [5] []) 1 ?_;conv=>whnf
   have o:=r.at' _ k v
   have f:(b.map (fun m=>m.2.2))[k]? =some (iv s.2[k]):=by rw [d,Bd,Ab o];rfl
   rw [Bd] at f
   obtain ⟨m,hm,j⟩:=Cq.1 f
   have j:m.2.2=iv s.2[k]:=j
   have g:b.length=s.2.length:=by have:=congrArg Lk d;simpa using this
   have K:=r.each _ (Bg o)
   have A:=r.len
   have C:gpS c lv s i=(s.1,s.2.set k (s.2[k]++[(i:Int)])):=by
    unfold gpS
    rw [v]
    show (s.1,s.2.set k ((s.2[k]?).getD []++[(i:Int)]))=_
    rw [Ab o]
    rfl
   rw [C] at next
   refine To.cutC [1,5,6,7,10,20,21,22] 4 rfl rfl rfl rfl ?_
   refine aAS c lv _ i k o_ b m hm (by rw [j];simp;omega) o_ s.1 rfl fun a B=>?_
   have next:=next (b.set k (a,B,m.2.2++[ii i])) (by rw [Ka,Ka,d,j];simp)
   exact zqha6
theorem FY (c:Con) (d:c.sm) (lv:Int):aA Tryz.prog 198 [c.av,ii lv] [] (.ret (.slice 1 (gav (gpL c lv)) .no)) []:=by
 have h1:=d.hs
 have i:(hav c.hs).length=c.hs.length:=by simp
 obtain ⟨R,a⟩:∃ R,R=gpL c lv:=⟨_,rfl⟩
 rw [<-a]
 unfold gpL at a
 refine cT (E:=(Er [5] [])) (fn:=Tryz.f198) (g:=.pure _) fun _=>?_
 by_cases e:lv<0
 .rw [if_pos (decide_eq_true e)] at a
  subst a
  repeat' first | (refine gN (hEr [5] []) ?_;conv=>whnf) | exact rfl | (refine zt ?_;try intro h) | refine zu (fun h=>?_) fun h=>?_ | fail
 rw [if_neg (by rw [decide_eq_false e];decide)] at a
 by_cases b:3<lv
 .rw [if_pos (decide_eq_true b)] at a
  subst a
  repeat' first | (refine gN (hEr [5] []) ?_;conv=>whnf) | exact rfl | (refine zt ?_;try intro h) | refine zu (fun h=>?_) fun h=>?_ | fail
 rw [if_neg (by rw [decide_eq_false b];decide),Gm] at a
 repeat' first | (refine gN (hEr [5] []) ?_;conv=>whnf) | exact rfl | (refine zt ?_;try intro h) | refine zu (fun h=>?_) fun h=>?_ | fail
 refine To.ofC (To.beginF 1 3 ?_)
 refine To.toC ?_
 have:=aD5 c d lv o_ o_ R c.hs.length 0 ([],[]) [] o_ rfl ⟨fun p h=>(by simp at h),fun x k h=>(by cases h),Bi _,fun xs h=>by simp at h⟩ a.symm
 refine To.part [1,5,6,20,21,22] [0,1,2,3] rfl rfl rfl ?_
 exact this
structure GO (n i:Nat) (s:GSt):Prop where
 base:GI i s
 ok:∀ xs∈s.2,xs≠[]/\∀ h∈xs,0<=h/\h<(n:Int)
theorem GO.step {c:Con} {lv:Int} {n i:Nat} {s:GSt} (g:i<n) (h:GO n i s):GO n (i+1) (gpS c lv s i):=by
 refine ⟨h.base.step,?_⟩
 obtain ⟨f,d⟩:=h
 have one:∀ h∈[(i:Int)],0<=h/\h<(n:Int):=fun h b=>by simp at b;omega
 unfold gpS
 split
 .rename_i k e
  intro xs a
  rcases Dj a with a | rfl
  .exact d xs a
  .refine ⟨by simp,fun h b=>?_⟩
   rcases Ao.1 b with b | b
   .have hl:=f.at' _ k e
    rw [Ab hl] at b
    exact (d _ (Bg hl)).2 h b
   .exact one h b
 .intro xs a
  rcases Ao.1 a with a | a
  .exact d xs a
  .have a:xs=[(i:Int)]:=by simpa using a
   subst a
   exact ⟨by simp,one⟩
theorem GO.fold {c:Con} {lv:Int} {n:Nat}:∀ (m i:Nat) (s:GSt),i+m=n->GO n i s->GO n n ((Gx i m).foldl (gpS c lv) s)
 | 0,i,s,hi,h=>by have:i=n:=o_
                  subst this;exact h
 | m+1,i,s,hi,h=>by
  rw [Jb,Aq]
  exact GO.fold m (i+1) _ o_ (h.step o_)
theorem PH (c:Con) (lv:Int):(gpL c lv).length<=c.hs.length/\∀ xs∈gpL c lv,xs≠[]/\xs.length<=c.hs.length/\∀ h∈xs,0<=h/\h<(c.hs.length:Int):=by
 unfold gpL
 split
 .exact ⟨Cc _,fun xs h=>by simp at h⟩
 split
 .exact ⟨Cc _,fun xs h=>by simp at h⟩
 rw [Gm]
 have:=GO.fold (c:=c) (lv:=lv) (n:=c.hs.length) c.hs.length 0 ([],[]) o_ ⟨⟨fun p h=>(by simp at h),fun x k h=>(by cases h),Bi _,fun xs h=>(by simp at h)⟩,fun xs h=>(by simp at h)⟩
 exact ⟨this.base.len,fun xs a=>⟨(this.ok xs a).1,this.base.each xs a,(this.ok xs a).2⟩⟩
def fdG (c:Con) (free:List V3) (g:Gan):List (List Int)->Option (Int×List Int)
 | []=>none
 | gr::r=>if decide (((inL free g gr).length:Int)<g.pods)=true then fdG c free g r else some ((aS c.hs (gr.headD 0)).f,inL free g gr)
def fdL (c:Con) (free:List V3) (g:Gan):Nat->Int->Option (Int×List Int)
 | 0,_=>none
 | n+1,lv=>match fdG c free g (gpL c lv) with
  | some x=>some x
  | none=>fdL c free g n (lv+1)
def fdA:Option (Int×List Int)->AVal
 | some x=>.tup [ii x.1,.slice 1 (iv x.2) .no,.bool true]
 | none=>.tup [ii 0,.slice 1 [] .no,.bool false]
def sM (c:Con) (free:List V3) (g:Gan):Option (Int×List Int):=fdL c free g (min g.lev 3+1-max g.pref 0).toNat (max g.pref 0)
noncomputable abbrev GD:Func:=Tryz.f192
abbrev aBc (c:Con) (g:Gan):List AObj:=[.cells 25 c.cs,.cells 42 g.cs]
abbrev aGU (free:List V3) (lv:Int):List (Nat×AVal):=[(1,.slice 3 (vav free) .no),(3,.ref 0 0),(5,.ref 1 0),(9,ii lv)]
theorem zU {l:List (List Int)} {i:Nat} (h:i<l.length):(gav l)[i]? =some (.slice 1 (iv l[i]) .no):=by simp [gav,h]
theorem aIb (c:Con) (A:c.sm) (free:List V3) (g:Gan) (t:0<=g.pods/\g.pods<=16) (lv:Int) (u:0<=lv) (D:lv<=3) (Q:Option (Int×List Int)) (a:List (List Int)) (C:a.length<=1048576) (n:∀ xs∈a,xs≠[]/\xs.length<=c.hs.length/\∀ h∈xs,0<=h/\h<(c.hs.length:Int)):
  ∀ (m i:Nat),i+m=a.length->(∀ x,fdG c free g (a.drop i)=some x->Q=some x)->(fdG c free g (a.drop i)=none->To E GD (.pure (.ret (fdA Q))) (.head (stk GD 0) (aGU free (lv+1)) (aBc c g)))->
  To E GD (.pure (.ret (fdA Q))) (.head (stk GD 1) (aGU free lv++[(26,.slice 1 (gav a) .no),(27,.int .i64 ((gav a).length:Nat)),(28,ii i)]) (aBc c g)):=by
 have s:(gav a).length=a.length:=by simp
 have v:(hav c.hs).length=c.hs.length:=by simp
 have B:=A.hs
 intro m
 induction m with
 | zero=>
  intro i G hs b
  rw [Ae o_] at b
  have b:=b rfl
  refine gV ?_
  refine aF fun h=>?_
  refine gV ?_
  refine aJ ?_
  refine gV ?_
  exact To.cut [1,3,5,9] 2 rfl rfl rfl rfl b
 | succ m p=>
  intro i G hs b
  have f:i<a.length:=o_
  have p:=p (i+1) o_
  rw [Ad f] at hs b
  have k:=n _ (Bg f)
  have get:=zU f
  generalize a[i]=gr at hs b k get
  obtain ⟨o,y,l⟩:=k
  have d:=yG c free g t gr o_
  unfold fdG at hs b
  unfold CI at d
  refine gV ?_
  refine aT fun h=>?_
  refine gV ?_
  refine ⟨i,rfl,?_⟩
  refine gV ?_
  refine ⟨_,get,?_⟩
  refine gV ?_
  by_cases q:((inL free g gr).length:Int)<g.pods
  .rw [if_pos (decide_eq_true q)] at hs b d
   have next:=p hs b
   refine .pure _ [] d ?_
   repeat' first | (refine gN hE ?_;conv=>whnf) | exact rfl | (refine zt ?_;try intro h) | refine zu (fun h=>?_) fun h=>?_ | fail
   exact To.cut [1,3,5,9,26,27,28] 2 rfl rfl rfl rfl next
  .rw [if_neg (by rw [decide_eq_false q];decide)] at hs b d
   have F:=hs _ rfl
   subst F
   match gr,o with
   | e::r,_=>
   have w:=l e s_
   have z:(hav c.hs)[e.toNat]? =some (aS c.hs e).av:=by
    have:=rR (c:=c) (i:=e.toNat) o_
    rwa [Hw w.1] at this
   have b:e=(e.toNat:Int):=o_
   have j:(iv (e::r))[0]? =some (ii e):=rfl
   refine .pure _ [] d ?_
   repeat' first | (refine gN hE ?_;conv=>whnf) | refine ⟨e.toNat,b,?_⟩ | refine ⟨_,z,?_⟩ | refine ⟨_,j,?_⟩ | exact rfl | (refine zt ?_;try intro h) | refine zu (fun h=>?_) fun h=>?_ | fail
theorem aGT (c:Con) (e:c.sm) (free:List V3) (g:Gan) (l:0<=g.pods/\g.pods<=16):∀ (n:Nat) (lv:Int),0<=lv->n=(min g.lev 3+1-lv).toNat->
  To E GD (.pure (.ret (fdA (fdL c free g n lv)))) (.head (stk GD 0) (aGU free lv) (aBc c g)):=by
 intro n
 induction n with
 | zero=>
  intro lv j k
  refine gV ?_
  refine aF fun h=>?_
  repeat' first | (refine gN hE ?_;conv=>whnf) | exact rfl | (refine zt ?_;try intro h) | refine zu (fun h=>?_) fun h=>?_ | fail
 | succ n d=>
  intro lv j k
  have d:=d (lv+1) o_ o_
  have f:=PH c lv
  have m:=e.hs
  have i:(gav (gpL c lv)).length=(gpL c lv).length:=by simp
  obtain ⟨Q,b⟩:∃ Q,Q=fdL c free g (n+1) lv:=⟨_,rfl⟩
  rw [<-b]
  unfold fdL at b
  refine gV ?_
  refine aT fun h=>?_
  refine gV ?_
  refine .pure _ [] (FY c e lv) ?_
  repeat' first | (refine gN hE ?_;conv=>whnf) | exact rfl | (refine zt ?_;try intro h) | refine zu (fun h=>?_) fun h=>?_ | fail
  refine To.cut [1,3,5,9,26,27,28] 2 rfl rfl rfl rfl ?_
  refine aIb c e free g l lv j o_ Q (gpL c lv) o_ f.2 (gpL c lv).length 0 o_ (fun x a=>?_) (fun a=>?_)
  .have a:fdG c free g (gpL c lv)=some x:=a
   rw [a] at b
   exact b
  .have a:fdG c free g (gpL c lv)=none:=a
   rw [a] at b
   rw [b]
   exact d
theorem zW (c:Con) (hc:c.sm) (free:List V3) (g:Gan) (hg:0<=g.pods/\g.pods<=16):aA Tryz.prog 192 [c.av,.slice 3 (vav free) .no,g.av] [] (.ret (fdA (sM c free g))) []:=by
 refine c_ Tryz.f192 fun _=>?_
 refine gV ?_
 exact To.cut [1,3,5,9] 2 rfl rfl rfl rfl (aGT c hc free g hg _ _ o_ rfl)
def bX (c:Con) (l:List Rn) (g:Gan):Option (Int×List Int):=if yW c (ofL c l) g.ten (dem g)=true then sM c (fR c l) g else none
theorem aA5 (c:Con) (m:c.sm) (l:List Rn) (hl:Sm l) (g:Gan) (n:0<=g.pods/\g.pods<=16) (Q:Option (Int×List Int)) (e:bX c l g=Q):aA Tryz.prog 169 [c.av,.slice 14 (rav l) .no,g.av] [] (.ret (fdA Q)) []:=by
 unfold bX at e
 have hm:=aGv c m (ofL c l) g.ten (dem g)
 have k:=aBF g
 generalize yW c (ofL c l) g.ten (dem g)=b at e hm
 generalize dem g=d at hm k
 have j:=zW c m (fR c l) g n
 have i:=S3 c m l hl
 have a:=aAa c m l hl.1
 generalize fR c l=fr at j e i
 generalize ofL c l=us at hm a
 cases b with
 | false=>
  have e:none=Q:=e
  subst e
  refine c_ Tryz.f169 fun _=>?_
  repeat' first | (refine gN hE ?_;conv=>whnf) | refine .pure _ [] a ?_ | refine .pure _ [] k ?_ | refine .pure _ [] hm ?_ | exact rfl | (refine zt ?_;try intro h) | refine zu (fun h=>?_) fun h=>?_ | fail
 | true=>
  have e:sM c fr g=Q:=e
  rw [e] at j
  unfold fdA at j⊢
  cases Q with
  | none=>
   refine c_ Tryz.f169 fun _=>?_
   repeat' first | (refine gN hE ?_;conv=>whnf) | refine .pure _ [] a ?_ | refine .pure _ [] k ?_ | refine .pure _ [] hm ?_ | refine .pure _ [] i ?_ | refine .pure _ [] j ?_ | exact rfl | (refine zt ?_;try intro h) | refine zu (fun h=>?_) fun h=>?_ | fail
  | some x=>
   refine c_ Tryz.f169 fun _=>?_
   repeat' first | (refine gN hE ?_;conv=>whnf) | refine .pure _ [] a ?_ | refine .pure _ [] k ?_ | refine .pure _ [] hm ?_ | refine .pure _ [] i ?_ | refine .pure _ [] j ?_ | exact rfl | (refine zt ?_;try intro h) | refine zu (fun h=>?_) fun h=>?_ | fail
theorem aEd (c:Con) (b:c.sm) (l:List Rn) (hl:Sm l) (g:Gan) (a:0<=g.pods/\g.pods<=16):aA Tryz.prog 169 [c.av,.slice 14 (rav l) .no,g.av] [] (.ret (fdA (bX c l g))) []:=aA5 c b l hl g a _ rfl
theorem aA.nil2 {P:Program} {f:FuncId} {a:AVal} {j:List AVal} {g:Nat} {obs obs':List AObj} {r:Res} (h:aA P f (a:: .slice g [] .no::j) obs r obs'):aA P f (a:: .nilslice::j) obs r obs':=
 fun M ob w b hm d=>h M ob w b hm ⟨d.1,fun i v x e c=>by
  match i with
  | 0=>exact d.2 0 v x e c
  | 1=>
   have c:AVal.slice g [] .no=x:=by simpa using c
   subst c
   have:=d.2 1 v .nilslice e rfl
   cases this
   exact .slnil _ _ trivial
  | i+2=>exact d.2 (i+2) v x e c⟩
theorem VG (c:Con) (e:c.sm) (g:Gan) (i:0<=g.pods/\g.pods<=16) (b:Bool) (d:(bX c [] g).isNone=b):aA Tryz.prog 126 [c.av,g.av] [] (.ret (.bool b)) []:=by
 have a:=aEd c e [] ⟨Cc _,fun x h=>by simp at h⟩ g i
 generalize bX c [] g=Q at a d
 subst d
 unfold fdA at a
 cases Q with
 | none=>
  refine c_ Tryz.f126 fun _=>?_
  repeat' first | (refine gN hE ?_;conv=>whnf) | refine .pure _ [] (aA.nil2 a) ?_ | exact rfl | (refine zt ?_;try intro h) | refine zu (fun h=>?_) fun h=>?_ | fail
 | some x=>
  refine c_ Tryz.f126 fun _=>?_
  repeat' first | (refine gN hE ?_;conv=>whnf) | refine .pure _ [] (aA.nil2 a) ?_ | exact rfl | (refine zt ?_;try intro h) | refine zu (fun h=>?_) fun h=>?_ | fail
theorem aAk (c:Con) (b:c.sm) (g:Gan) (a:0<=g.pods/\g.pods<=16):aA Tryz.prog 126 [c.av,g.av] [] (.ret (.bool (bX c [] g).isNone)) []:=VG c b g a _ rfl
theorem aHN (x:Rn) (M:Imm) (ob:Hs) (vs:List Value) (h:bT M ob vs [x.av]):inR .i64 x.st/\inR .i64 x.g.run:=by
 have hl:0<vs.length:=by rw [h.1];simp
 have:=h.2 0 _ x.av (Ab hl) rfl
 exact ⟨bS this 11 _ rfl,bS this 6 _ rfl⟩
def dN (x:Rn):Int:=if 9223372036854775807<x.st+x.g.run then 9223372036854775807 else if x.st+x.g.run< -9223372036854775808 then -9223372036854775808 else x.st+x.g.run
theorem aEo (x:Rn) (r:Int) (a:dN x=r):aA Tryz.prog 44 [x.av] [] (.ret (ii r)) []:=by
 refine aA.get _ (aHN x) fun ⟨⟨a1,a2⟩,⟨b1,b2⟩⟩=>?_
 simp only [bW,bI] at a1 a2 b1 b2
 unfold dN at a
 by_cases h1:9223372036854775807<x.st+x.g.run
 .rw [if_pos h1] at a
  subst a
  have e:=aCh h1 o_
  refine c_ Tryz.f44 fun _=>?_
  refine gV ?_
  refine .inr ?_
  repeat' first | (refine gN hE ?_;conv=>whnf) | exact rfl | (refine zt ?_;try intro h) | refine zu (fun h=>?_) fun h=>?_ | fail
 .rw [if_neg h1] at a
  by_cases b:x.st+x.g.run< -9223372036854775808
  .rw [if_pos b] at a
   subst a
   have e:=aCg b o_
   refine c_ Tryz.f44 fun _=>?_
   refine gV ?_
   refine .inr ?_
   repeat' first | (refine gN hE ?_;conv=>whnf) | exact rfl | (refine zt ?_;try intro h) | refine zu (fun h=>?_) fun h=>?_ | fail
  .rw [if_neg b] at a
   refine c_ Tryz.f44 fun _=>?_
   repeat' first | (refine gN hE ?_;conv=>whnf) | exact rfl | (refine zt ?_;try intro h) | refine zu (fun h=>?_) fun h=>?_ | fail
   all_goals first | exact a▸rfl | (exfalso;simp at *;omega)
theorem aBr (x:Rn):aA Tryz.prog 44 [x.av] [] (.ret (ii (dN x))) []:=aEo x _ rfl
theorem ZD (x:Rn) (r:Int) (a:dN x=r):aA Tryz.prog 21 [x.av] [] (.ret (ii r)) []:=by
 refine aA.get _ (aHN x) fun ⟨⟨a1,a2⟩,⟨b1,b2⟩⟩=>?_
 simp only [bW,bI] at a1 a2 b1 b2
 unfold dN at a
 by_cases h1:9223372036854775807<x.st+x.g.run
 .rw [if_pos h1] at a
  subst a
  refine c_ Tryz.f21 fun _=>?_
  repeat' first | (refine gN hE ?_;conv=>whnf) | exact rfl | refine aY ?_ | refine aN ?_ | refine aT fun h=>?_ | refine aF fun h=>?_ | refine Aa (fun h=>?_) (fun h=>absurd (of_decide_eq_false h) (by simp only [decide_eq_true_eq,decide_eq_false_iff_not] at *;omega)) | refine Aa (fun h=>absurd (of_decide_eq_true h) (by simp only [decide_eq_true_eq,decide_eq_false_iff_not] at *;omega)) (fun h=>?_) | refine ⟨fun h=>?_,fun h=>?_⟩ | refine aJ ?_ | refine ⟨_,rfl,?_⟩ | refine Aa d_ ?_ | refine Aa o_ ?_ | refine Gy (Aa (Aa (by simp only [bW];simp only [decide_eq_true_eq,decide_eq_false_iff_not] at *;omega) (by simp only [bI];simp only [decide_eq_true_eq,decide_eq_false_iff_not] at *;omega)) ?_) | fail
 .rw [if_neg h1] at a
  by_cases b:x.st+x.g.run< -9223372036854775808
  .rw [if_pos b] at a
   subst a
   refine c_ Tryz.f21 fun _=>?_
   repeat' first | (refine gN hE ?_;conv=>whnf) | exact rfl | refine aY ?_ | refine aN ?_ | refine aT fun h=>?_ | refine aF fun h=>?_ | refine Aa (fun h=>?_) (fun h=>absurd (of_decide_eq_false h) (by simp only [decide_eq_true_eq,decide_eq_false_iff_not] at *;omega)) | refine Aa (fun h=>absurd (of_decide_eq_true h) (by simp only [decide_eq_true_eq,decide_eq_false_iff_not] at *;omega)) (fun h=>?_) | refine ⟨fun h=>?_,fun h=>?_⟩ | refine aJ ?_ | refine ⟨_,rfl,?_⟩ | refine Aa d_ ?_ | refine Aa o_ ?_ | refine Gy (Aa (Aa (by simp only [bW];simp only [decide_eq_true_eq,decide_eq_false_iff_not] at *;omega) (by simp only [bI];simp only [decide_eq_true_eq,decide_eq_false_iff_not] at *;omega)) ?_) | fail
  .rw [if_neg b] at a
   subst a
   refine c_ Tryz.f21 fun _=>?_
   repeat' first | (refine gN hE ?_;conv=>whnf) | exact rfl | refine aY ?_ | refine aN ?_ | refine aT fun h=>?_ | refine aF fun h=>?_ | refine Aa (fun h=>?_) (fun h=>absurd (of_decide_eq_false h) (by simp only [decide_eq_true_eq,decide_eq_false_iff_not] at *;omega)) | refine Aa (fun h=>absurd (of_decide_eq_true h) (by simp only [decide_eq_true_eq,decide_eq_false_iff_not] at *;omega)) (fun h=>?_) | refine ⟨fun h=>?_,fun h=>?_⟩ | refine aJ ?_ | refine ⟨_,rfl,?_⟩ | refine Aa d_ ?_ | refine Aa o_ ?_ | refine Gy (Aa (Aa (by simp only [bW];simp only [decide_eq_true_eq,decide_eq_false_iff_not] at *;omega) (by simp only [bI];simp only [decide_eq_true_eq,decide_eq_false_iff_not] at *;omega)) ?_) | fail
theorem uJ (x:Rn):aA Tryz.prog 21 [x.av] [] (.ret (ii (dN x))) []:=ZD x _ rfl
theorem WP (l:List Int) (h:l.length<=1048576):aA Tryz.prog 219 [.slice 1 (iv l) .no] [] (.ret (.slice 1 (iv l) .no)) []:=by
 have a:(iv l).length=l.length:=by simp
 refine c_ Tryz.f219 fun _=>?_
 refine gV ?_
 intro b c
 refine gV ?_
 refine ⟨fun h=>?_,fun h=>?_⟩
 .have h:b=true:=h
  have e:iv l=[]:=c h
  refine gV ?_
  rw [e]
 .have h:b=false:=h
  refine gV ?_
  refine ⟨⟨by simp only [maxLen];simp;omega,by simp;omega⟩,?_⟩
  refine gV ?_
  rfl
def atL (l:List Rn) (t:Int):List Rn:=l.filter fun x=>decide (t<dN x)
theorem aEN {x:Rn} {r:List Rn} {t:Int} (h:decide (t<dN x)=true):atL (x::r) t=x::atL r t:=Fb h
theorem aEO {x:Rn} {r:List Rn} {t:Int} (h:decide (t<dN x)=false):atL (x::r) t=atL r t:=Fa (by rw [h];decide)
noncomputable abbrev aIl:Func:=Tryz.f59
theorem ZJ (l:List Rn) (hs:Sm l) (t:Int) (R:List Rn):∀ (n i:Nat) (a:List Rn),i+n=l.length->a.length<=i->a++atL (l.drop i) t=R->
  To (Eo [5] []) aIl (.pure (.ret (.slice 14 (rav R) .no))) (.head (stk aIl 0) [(0,.slice 14 (rav l) .no),(1,.int .i64 t),(5,.slice 14 (rav a) (.own 0 0)),(6,.int .i64 i)] [.tail 0 14 44]):=by
 have j:(rav l).length=l.length:=by simp
 have hl:=hs.1
 intro n
 induction n with
 | zero=>
  intro i a p m b
  rw [Ae o_] at b
  have b:a++[]=R:=b
  rw [Bm] at b
  subst b
  refine gV ?_
  refine aF fun h=>?_
  repeat' first | (refine gN (hEo [5] []) ?_;conv=>whnf) | exact rfl | (refine zt ?_;try intro h) | refine zu (fun h=>?_) fun h=>?_ | fail
 | succ n g=>
  intro i a p m b
  have c:i<l.length:=o_
  rw [Ad c] at b
  generalize k:l[i]=x at b
  have get:(rav l)[i]? =some x.av:=(cJ c).trans (by rw [k])
  have o:(rav a).length=a.length:=by simp
  refine gV ?_
  refine aT fun h=>?_
  refine gV ?_
  refine ⟨i,rfl,?_⟩
  refine gV ?_
  refine ⟨_,get,?_⟩
  refine gV ?_
  refine .pure _ [] (uJ x) ?_
  refine gV ?_
  refine Aa (fun d=>?_) (fun d=>?_)
  .have d:decide (t<dN x)=true:=d
   rw [aEN d] at b
   refine gV ?_
   refine ⟨i,rfl,?_⟩
   refine gV ?_
   refine ⟨_,get,?_⟩
   refine gV ?_
   refine ⟨⟨by simp only [maxLen];simp;omega,by simp;omega⟩,?_⟩
   refine gV ?_
   refine aJ ?_
   refine gV ?_
   refine To.part [0,1,5,6] [0] rfl rfl rfl ?_
   have next:=g (i+1) (a++[x]) o_ q_ (by rw [Ay];exact b)
   have e:rav (a++[x])=rav a++[x.av]:=by simp
   rw [e] at next
   exact next
  .have f:decide (t<dN x)=false:=d
   rw [aEO f] at b
   refine gV ?_
   refine aJ ?_
   refine gV ?_
   refine To.part [0,1,5,6] [0] rfl rfl rfl ?_
   exact g (i+1) a o_ o_ b
theorem ZI (l:List Rn) (hs:Sm l) (t:Int):aA Tryz.prog 59 [.slice 14 (rav l) .no,ii t] [] (.ret (.slice 14 (rav (atL l t)) .no)) []:=by
 refine cT (E:=(Eo [5] [])) (fn:=Tryz.f59) (g:=.pure _) fun _=>?_
 refine gV ?_
 refine To.part [0,1,5,6] [0] rfl rfl rfl ?_
 exact ZJ l hs t _ l.length 0 [] o_ s_ rfl
theorem aHm {l:List Rn} (h:Sm l) (t:Int):Sm (atL l t):=
 ⟨Cm (Dp _ _) h.1,fun x a=>h.2 x (Dt.1 a).1⟩
open Go Go.AW Go.Proofs Go.Shelf
set_option maxRecDepth 100000
def J7 (l:List Int):List Int:=l.mergeSort fun x y=>decide (x<=y)
set_option maxRecDepth 10000
def kyv (n:Int):AVal:=.agg [ii n]
abbrev kv (l:List Int):List AVal:=l.map kyv
def ME (n:Int):List Int->Nat->Int
 | [],_=> -1
 | x::r,i=>if (x==n&&true) then (i:Int) else ME n r (i+1)
def has (l:List Int) (n:Int):Bool:=decide (0<=ME n l 0)
def B7 (now:Int):List Rn->List Int->List Int
 | [],ks=>ks
 | x::r,ks=>B7 now r (if decide (now<dN x)&& !has ks (dN x) then ks++[dN x] else ks)
def yK (l:List Rn) (now:Int):List Int:=J7 (B7 now l [])
def oO (n:Int):List Int->List Int
 | []=>[n]
 | x::r=>if x<n then x::oO n r else if x=n then x::r else n::x::r
def rE (now:Int):List Rn->List Int->List Int
 | [],out=>out
 | x::r,out=>rE now r (if dN x<=now then out else oO (dN x) out)
theorem LZ (n:Int):∀ (l:List Int),(oO n l).length<=l.length+1
 | []=>by simp [oO]
 | x::r=>by
  have:=LZ n r
  unfold oO
  split
  .simp only [Bt];omega
  .split<;>simp
noncomputable abbrev xB:Func:=Tryz.f116
noncomputable abbrev Ee:Env:=Ex [5,54] [] [58,59,60]
theorem hEe:EnvOK Ee:=hEx _ _ _
abbrev reO:List AObj:=[.tail 0 1 3]
theorem KO (l:List Rn) (now:Int) (R:List Int) (i:Nat) (z:i<1048576) (n:Int) (out:List Int) (y:out.length<=i) (rest:List Rn)
  (o:∀ (c:List Int),c.length<=i+1->rE now rest c=R->To Ee xB (.pure (.ret (.slice 1 (iv R) .no))) (.head (stk xB 0) [(0,.slice 14 (rav l) .no),(1,.int .i64 now),(5,.slice 1 (iv c) (.own 0 0)),(6,.int .i64 ((i:Int)+1))] reO))
  (d:rE now rest (if n<=now then out else oO n out)=R):∀ (m k:Nat),k+m=out.length->oO n out=out.take k++oO n (out.drop k)->
  To Ee xB (.pure (.ret (.slice 1 (iv R) .no))) (.head (stk xB 1) [(0,.slice 14 (rav l) .no),(1,.int .i64 now),(5,.slice 1 (iv out) (.own 0 0)),(6,.int .i64 i),(7,.int .i64 n),(8,.int .i64 k)] reO):=by
 have w:(iv out).length=out.length:=by simp
 intro m
 induction m with
 | zero=>
  intro k v a
  rw [Ae o_,Cn o_] at a
  have a:oO n out=out++[n]:=a
  have u:Fv k (iv out)=[]:=Ae o_
  have s:En k (iv out)=iv out:=Cn o_
  refine gW hEe ?_;conv=>whnf
  refine aF fun h=>?_
  refine gW hEe ?_;conv=>whnf
  refine aN ?_
  refine gW hEe ?_;conv=>whnf
  refine Aa (fun h1=>?_) (fun h1=>?_)
  .have b:=of_decide_eq_true h1
   repeat' first | (refine gN hEe ?_;conv=>whnf) | exact rfl | (refine zt ?_;try intro h) | refine zu (fun h=>?_) fun h=>?_ | fail
   exact zqha10
  .have b:=of_decide_eq_false h1
   refine gW hEe ?_;conv=>whnf
   refine aF fun h=>?_
   refine gW hEe ?_;conv=>whnf
   refine aN ?_
   refine gW hEe ?_;conv=>whnf
   refine ⟨k,rfl,?_⟩
   refine gW hEe ?_;conv=>whnf
   refine ⟨by omega,?_⟩
   refine gW hEe ?_;conv=>whnf
   refine ⟨⟨by simp only [maxLen];simp;omega,by simp;omega⟩,?_⟩
   refine gW hEe ?_;conv=>whnf
   refine ⟨⟨by simp only [maxLen];simp;omega,by simp;omega⟩,?_⟩
   refine gW hEe ?_;conv=>whnf
   refine ⟨k,rfl,?_⟩
   refine gW hEe ?_;conv=>whnf
   refine ⟨by omega,?_⟩
   refine gW hEe ?_;conv=>whnf
   refine ⟨⟨by simp only [maxLen];simp;omega,by simp;omega⟩,?_⟩
   refine gW hEe ?_;conv=>whnf
   refine aJ ?_
   refine gW hEe ?_;conv=>whnf
   refine To.part [0,1,5,6] [1] rfl rfl rfl ?_
   rw [if_neg b,a] at d
   have next:=o (out++[n]) q_ d
   have e:iv (out++[n])=En k (iv out)++[ii n]++Fv k (iv out):=by rw [u,s];simp
   rw [e] at next
   exact next
 | succ m q=>
  intro k v a
  have f:k<out.length:=o_
  rw [Ad f] at a
  have p:out.take k++[out[k]]=out.take (k+1):=Hz f
  have j:out.drop k=out[k]::out.drop (k+1):=Ad f
  generalize t:out[k]=x at a p j
  have get:(iv out)[k]? =some (ii x):=(cQ f).trans (by rw [t])
  have a:oO n out=out.take k++(if x<n then x::oO n (out.drop (k+1)) else if x=n then x::out.drop (k+1) else n::x::out.drop (k+1)):=a
  refine gW hEe ?_;conv=>whnf
  refine aT fun h=>?_
  refine gW hEe ?_;conv=>whnf
  refine ⟨k,rfl,?_⟩
  refine gW hEe ?_;conv=>whnf
  refine ⟨_,get,?_⟩
  refine gW hEe ?_;conv=>whnf
  refine Aa (fun h1=>?_) (fun h1=>?_)
  .have g:=of_decide_eq_true h1
   rw [if_pos g] at a
   refine gW hEe ?_;conv=>whnf
   refine aJ ?_
   refine gW hEe ?_;conv=>whnf
   refine To.part [0,1,5,6,7,8] [0] rfl rfl rfl ?_
   exact q (k+1) o_ (by rw [a,<-p,Ay];rfl)
  .have g:=of_decide_eq_false h1
   rw [if_neg g] at a
   refine gW hEe ?_;conv=>whnf
   refine Aa (fun r=>?_) (fun r=>?_)
   .have b:=of_decide_eq_true r
    repeat' first | (refine gN hEe ?_;conv=>whnf) | exact rfl | (refine zt ?_;try intro h) | refine zu (fun h=>?_) fun h=>?_ | fail
    exact zqha10
   .have b:=of_decide_eq_false r
    rw [if_neg b] at d
    refine gW hEe ?_;conv=>whnf
    refine aT fun h=>?_
    refine gW hEe ?_;conv=>whnf
    refine ⟨k,rfl,?_⟩
    refine gW hEe ?_;conv=>whnf
    refine ⟨_,get,?_⟩
    refine gW hEe ?_;conv=>whnf
    refine Aa (fun h3=>?_) (fun h3=>?_)
    .have h3:(x==n)=true:=h3
     have h3:x=n:=by simpa using h3
     rw [if_pos h3] at a
     have e:oO n out=out:=by rw [a,<-j,De]
     rw [e] at d
     repeat' first | (refine gN hEe ?_;conv=>whnf) | exact rfl | (refine zt ?_;try intro h) | refine zu (fun h=>?_) fun h=>?_ | fail
     refine To.part [0,1,5,6] [0] rfl rfl rfl ?_
     exact o out o_ d
    .have h3:(x==n)=false:=h3
     have h3:¬ x=n:=by simpa using h3
     rw [if_neg h3,<-j] at a
     refine gW hEe ?_;conv=>whnf
     refine ⟨k,rfl,?_⟩
     refine gW hEe ?_;conv=>whnf
     refine ⟨by omega,?_⟩
     refine gW hEe ?_;conv=>whnf
     refine ⟨⟨by simp only [maxLen];simp;omega,by simp;omega⟩,?_⟩
     refine gW hEe ?_;conv=>whnf
     refine ⟨⟨by simp only [maxLen];simp;omega,by simp;omega⟩,?_⟩
     refine gW hEe ?_;conv=>whnf
     refine ⟨k,rfl,?_⟩
     refine gW hEe ?_;conv=>whnf
     refine ⟨by omega,?_⟩
     refine gW hEe ?_;conv=>whnf
     refine ⟨⟨by simp only [maxLen];simp;omega,by simp;omega⟩,?_⟩
     refine gW hEe ?_;conv=>whnf
     refine aJ ?_
     refine gW hEe ?_;conv=>whnf
     refine To.part [0,1,5,6] [1] rfl rfl rfl ?_
     rw [a] at d
     have next:=o (out.take k++n::out.drop k) q_ d
     have e:iv (out.take k++n::out.drop k)=En k (iv out)++[ii n]++Fv k (iv out):=by simp
     rw [e] at next
     exact next
theorem OJ (l:List Rn) (hs:Sm l) (now:Int) (R:List Int):∀ (m i:Nat) (out:List Int),i+m=l.length->out.length<=i->rE now (l.drop i) out=R->
  To Ee xB (.pure (.ret (.slice 1 (iv R) .no))) (.head (stk xB 0) [(0,.slice 14 (rav l) .no),(1,.int .i64 now),(5,.slice 1 (iv out) (.own 0 0)),(6,.int .i64 i)] reO):=by
 have e:(rav l).length=l.length:=by simp
 have hl:=hs.1
 intro m
 induction m with
 | zero=>
  intro i out k d a
  rw [Ae o_] at a
  have a:out=R:=a
  subst a
  refine gW hEe ?_;conv=>whnf
  refine aF fun h=>?_
  repeat' first | (refine gN hEe ?_;conv=>whnf) | exact rfl | (refine zt ?_;try intro h) | refine zu (fun h=>?_) fun h=>?_ | fail
 | succ m g=>
  intro i out k d a
  have c:i<l.length:=o_
  rw [Ad c] at a
  generalize f:l[i]=x at a
  have get:(rav l)[i]? =some x.av:=(cJ c).trans (by rw [f])
  unfold rE at a
  refine gW hEe ?_;conv=>whnf
  refine aT fun h=>?_
  refine gW hEe ?_;conv=>whnf
  refine ⟨i,rfl,?_⟩
  refine gW hEe ?_;conv=>whnf
  refine ⟨_,get,?_⟩
  refine gW hEe ?_;conv=>whnf
  refine .pure _ [] (uJ x) ?_
  refine gW hEe ?_;conv=>whnf
  refine To.part [0,1,5,6,7,8] [0] rfl rfl rfl ?_
  exact KO l now R i o_ (dN x) out d (l.drop (i+1)) (fun b h1 j=>g (i+1) b o_ h1 j) a out.length 0 o_ s_
theorem ZC (l:List Rn) (hs:Sm l) (now:Int):aA Tryz.prog 116 [.slice 14 (rav l) .no,ii now] [] (.ret (.slice 1 (iv (rE now l [])) .no)) []:=by
 refine cT (E:=Ee) (fn:=Tryz.f116) (g:=.pure _) fun _=>?_
 refine gW hEe ?_;conv=>whnf
 refine To.part [0,1,5,6] [0] rfl rfl rfl ?_
 exact OJ l hs now _ l.length 0 [] o_ s_ rfl
def stF (c:Con) (l:List Rn) (g:Gan):List Int->Option Int
 | []=>none
 | t::r=>if (bX c (atL l t) g).isSome=true then some t else stF c l g r
def stA:Option Int->AVal
 | some t=>.tup [ii t,.bool true]
 | none=>.tup [ii 0,.bool false]
def sX (c:Con) (now:Int) (l:List Rn) (g:Gan):Option Int:=stF c l g (now::yK l now)
def bmB (now:Int) (g:Gan) (t:Int):Bool:=decide (dN ⟨g,0,0,now,0,[]⟩<=t)
theorem YV (now:Int) (g:Gan) (t:Int) (b:Bool) (a:bmB now g t=b):aA Tryz.prog 69 [ii now,g.av,ii t] [] (.ret (.bool b)) []:=by
 have c:=uJ ⟨g,0,0,now,0,[]⟩
 unfold bmB at a
 generalize dN ⟨g,0,0,now,0,[]⟩=x at a c
 subst a
 refine c_ Tryz.f69 fun _=>?_
 repeat' first | (refine gN hE ?_;conv=>whnf) | refine .pure _ [] c ?_ | exact rfl | (refine zt ?_;try intro h) | refine zu (fun h=>?_) fun h=>?_ | fail
theorem aCW (now:Int) (g:Gan) (t:Int):aA Tryz.prog 69 [ii now,g.av,ii t] [] (.ret (.bool (bmB now g t))) []:=YV now g t _ rfl
def aH (v:V3):Bool:=decide (0<=v.a/\v.a<=1048576)&&decide (0<=v.b/\v.b<=1048576)&&decide (0<=v.c/\v.c<=1048576)
theorem T1 (v:V3) (b:Bool) (d:aH v=b):aA Tryz.prog 53 [v.av] [] (.ret (.bool b)) []:=by
 unfold aH at d
 refine c_ Tryz.f53 fun _=>?_
 repeat' first
  | (refine gW hE ?_;conv=>whnf)
  | exact d
  | refine aY ?_
  | refine aN ?_
  | refine Aa (fun h=>?_) (fun h=>?_)
  | refine aJ ?_
  | refine Ai _ (Aa rfl ?_)
  | refine Aa d_ ?_
 all_goals (refine congrArg (fun b=>Res.ret (AVal.bool b)) ?_;rw [<-d];simp only [decide_eq_true_eq,decide_eq_false_iff_not] at *)
 .rw [decide_eq_false (p:=0<=v.a/\v.a<=1048576) o_];rfl
 .rw [decide_eq_false (p:=0<=v.a/\v.a<=1048576) o_];rfl
 .rw [decide_eq_false (p:=0<=v.b/\v.b<=1048576) o_,Ct];rfl
 .rw [decide_eq_false (p:=0<=v.b/\v.b<=1048576) o_,Ct];rfl
 .rw [decide_eq_false (p:=0<=v.c/\v.c<=1048576) o_,Ct]
 .rw [decide_eq_false (p:=0<=v.c/\v.c<=1048576) o_,Ct]
 .rw [decide_eq_true (p:=0<=v.a/\v.a<=1048576) o_,decide_eq_true (p:=0<=v.b/\v.b<=1048576) o_,decide_eq_true (p:=0<=v.c/\v.c<=1048576) o_];rfl
theorem kB (v:V3):aA Tryz.prog 53 [v.av] [] (.ret (.bool (aH v))) []:=T1 v _ rfl
def rlB (ns:List Nod) (t:Int):Bool:=if decide (t<0)=true then false else if decide ((ns.length:Int)<=t)=true then false else ns.all fun x=>!(x.p==t)
noncomputable abbrev aBg:Func:=Tryz.f66
theorem N9 (c:Con) (g:c.sm) (t:Int) (r:Bool):∀ (m i:Nat),i+m=c.ns.length->((c.ns.drop i).all fun x=>!(x.p==t))=r->
  To E aBg (.pure (.ret (.bool r))) (.head (stk aBg 0) [(1,ii t),(2,.ref 0 0),(5,ii i)] [.cells 25 c.cs]):=by
 have f:(nav c.ns).length=c.ns.length:=by simp
 have h1:=g.ns
 intro m
 induction m with
 | zero=>
  intro i j a
  rw [Ae o_] at a
  have a:true=r:=a
  subst a
  refine gV ?_
  refine aF fun h=>?_
  repeat' first | (refine gN hE ?_;conv=>whnf) | exact rfl | (refine zt ?_;try intro h) | refine zu (fun h=>?_) fun h=>?_ | fail
 | succ m e=>
  intro i j a
  have d:i<c.ns.length:=o_
  rw [Ad d,Da] at a
  have get:=fU d
  generalize c.ns[i]=x at a get
  have e:=e (i+1) o_
  refine gV ?_
  refine aT fun h=>?_
  refine gV ?_
  refine ⟨i,rfl,?_⟩
  refine gV ?_
  refine ⟨_,get,?_⟩
  refine gV ?_
  refine Aa (fun b=>?_) (fun b=>?_)
  .have b:(x.p==t)=true:=b
   rw [b] at a
   have a:false=r:=a
   subst a
   repeat' first | (refine gN hE ?_;conv=>whnf) | exact rfl | (refine zt ?_;try intro h) | refine zu (fun h=>?_) fun h=>?_ | fail
  .have b:(x.p==t)=false:=b
   rw [b] at a
   have a:((c.ns.drop (i+1)).all fun x=>!(x.p==t))=r:=a
   repeat' first | (refine gN hE ?_;conv=>whnf) | exact rfl | (refine zt ?_;try intro h) | refine zu (fun h=>?_) fun h=>?_ | fail
   exact To.cut [1,2,5] 1 rfl rfl rfl rfl (e a)
theorem UU (c:Con) (i:c.sm) (t:Int) (r:Bool) (a:rlB c.ns t=r):aA Tryz.prog 66 [c.av,ii t] [] (.ret (.bool r)) []:=by
 have e:(nav c.ns).length=c.ns.length:=by simp
 unfold rlB at a
 by_cases d:t<0
 .rw [if_pos (decide_eq_true d)] at a
  subst a
  refine c_ Tryz.f66 fun _=>?_
  repeat' first | (refine gN hE ?_;conv=>whnf) | exact rfl | (refine zt ?_;try intro h) | refine zu (fun h=>?_) fun h=>?_ | fail
 rw [if_neg (by rw [decide_eq_false d];decide)] at a
 by_cases b:(c.ns.length:Int)<=t
 .rw [if_pos (decide_eq_true b)] at a
  subst a
  refine c_ Tryz.f66 fun _=>?_
  repeat' first | (refine gN hE ?_;conv=>whnf) | exact rfl | (refine zt ?_;try intro h) | refine zu (fun h=>?_) fun h=>?_ | fail
 rw [if_neg (by rw [decide_eq_false b];decide)] at a
 refine c_ Tryz.f66 fun _=>?_
 repeat' first | (refine gN hE ?_;conv=>whnf) | exact rfl | (refine zt ?_;try intro h) | refine zu (fun h=>?_) fun h=>?_ | fail
 exact To.cut [1,2,5] 1 rfl rfl rfl rfl (N9 c i t r c.ns.length 0 o_ a)
theorem fO (c:Con) (a:c.sm) (t:Int):aA Tryz.prog 66 [c.av,ii t] [] (.ret (.bool (rlB c.ns t))) []:=UU c a t _ rfl
def vI (ns:List Nod) (g:Gan):Bool:=decide (1<=g.id/\g.id<=1073741824/\1<=g.pods/\g.pods<=16)&&(aH g.need&&(decide (1<=g.run/\g.run<=1048576/\0<=g.lev/\g.lev<=3/\0<=g.pref/\g.pref<=g.lev)&&rlB ns g.ten))
def dA (ns:List Nod) (g:Gan):Int:=if vI ns g=true then 1 else 0
theorem UW (a b:V3) (r:Bool) (c:bK a b=r):aA Tryz.prog 90 [a.av,b.av] [] (.ret (.bool r)) []:=by
 unfold bK at c
 refine c_ Tryz.f90 fun _=>?_
 repeat' first
  | (refine gW hE ?_;conv=>whnf)
  | exact c
  | refine aY ?_
  | refine aN ?_
  | refine Aa (fun h=>?_) (fun h=>?_)
  | refine aJ ?_
  | refine Ai _ (Aa rfl ?_)
  | refine Aa d_ ?_
 all_goals (rw [<-c];simp_all)
theorem kF (a b:V3):aA Tryz.prog 90 [a.av,b.av] [] (.ret (.bool (bK a b))) []:=UW a b _ rfl
def zB (v:V3):Bool:=v.a==0&&(v.b==0&&(v.c==0&&true))
def rA (i:Nat) (x:Nod):Prop:=(i=0/\x.p≠ -1)\/(0<i/\(x.p<0\/(i:Int)<=x.p))\/x.w<1\/1000<x.w
instance (i:Nat) (x:Nod):Decidable (rA i x):=by unfold rA;infer_instance
def mZ (bl:Bool) (i:Nat) (x:Nod):Bool:=if rA i x then false else if bl=true then aH x.n&&(aH x.b&&(aH x.l&&bK x.l x.n)) else zB x.n&&(zB x.b&&zB x.l)
theorem aAh (c:Con) (i:Nat) (x:Nod) (b:(nav c.ns)[i]? =some x.av) (a:rA i x):aA Tryz.prog 52 [c.av,ii i] [] (.ret (.bool false)) []:=by
 unfold rA at a
 refine c_ Tryz.f52 fun _=>?_
 repeat' first
  | (refine gW hE ?_;conv=>whnf)
  | exact rfl
  | refine Ai i (Aa rfl ?_)
  | refine Ai _ (Aa b ?_)
  | refine aY ?_
  | refine aN ?_
  | refine aF fun h=>?_
  | refine aT fun h=>?_
  | refine Aa (fun h=>?_) (fun h=>?_)
 all_goals (exfalso;simp at *;omega)
theorem VF (c:Con) (i:Nat) (x:Nod) (r:(nav c.ns)[i]? =some x.av) (p:¬ rA i x) (j e d a:Bool) (hl:aA Tryz.prog 66 [c.av,ii i] [] (.ret (.bool true)) [])
  (q:aA Tryz.prog 53 [x.n.av] [] (.ret (.bool j)) []) (m:aA Tryz.prog 53 [x.b.av] [] (.ret (.bool e)) []) (k:aA Tryz.prog 53 [x.l.av] [] (.ret (.bool d)) [])
  (o:aA Tryz.prog 90 [x.l.av,x.n.av] [] (.ret (.bool a)) []):aA Tryz.prog 52 [c.av,ii i] [] (.ret (.bool (j&&(e&&(d&&a))))) []:=by
 unfold rA at p
 refine c_ Tryz.f52 fun _=>?_
 repeat' first
  | (refine gW hE ?_;conv=>whnf)
  | exact rfl
  | refine .pure _ [] hl ?_
  | refine .pure _ [] q ?_
  | refine .pure _ [] m ?_
  | refine .pure _ [] k ?_
  | refine .pure _ [] o ?_
  | refine Ai i (Aa rfl ?_)
  | refine Ai _ (Aa r ?_)
  | refine aY ?_
  | refine aN ?_
  | refine aF fun h=>?_
  | refine aT fun h=>?_
  | refine Aa (fun h=>?_) (fun h=>?_)
 all_goals first
  | (simp only [*,Bw,Dn,Ct];done)
  | (exfalso;simp at *;omega)
theorem O5 (c:Con) (i:Nat) (x:Nod) (d:(nav c.ns)[i]? =some x.av) (a:¬ rA i x) (hl:aA Tryz.prog 66 [c.av,ii i] [] (.ret (.bool false)) []):aA Tryz.prog 52 [c.av,ii i] [] (.ret (.bool (zB x.n&&(zB x.b&&zB x.l)))) []:=by
 unfold rA at a
 unfold zB
 refine c_ Tryz.f52 fun _=>?_
 repeat' first
  | (refine gW hE ?_;conv=>whnf)
  | exact rfl
  | refine .pure _ [] hl ?_
  | refine Ai i (Aa rfl ?_)
  | refine Ai _ (Aa d ?_)
  | refine aY ?_
  | refine aN ?_
  | refine aF fun h=>?_
  | refine aT fun h=>?_
  | refine Aa (fun h=>?_) (fun h=>?_)
 all_goals first
  | (simp only [*,Bw,Dn,Ct];done)
  | (exfalso;simp at *;omega)
theorem aDt (c:Con) (g:c.sm) (i:Nat) (x:Nod) (d:(nav c.ns)[i]? =some x.av):aA Tryz.prog 52 [c.av,ii i] [] (.ret (.bool (mZ (rlB c.ns i) i x))) []:=by
 have hl:=fO c g i
 unfold mZ
 by_cases a:rA i x
 .rw [if_pos a];exact aAh c i x d a
 .rw [if_neg a]
  cases e:rlB c.ns i with
  | true=>
   rw [e] at hl
   rw [if_pos rfl]
   exact VF c i x d a _ _ _ _ hl (kB x.n) (kB x.b) (kB x.l) (kF x.l x.n)
  | false=>
   rw [e] at hl
   rw [if_neg d_]
   exact O5 c i x d a hl
def JH (x:Hos):Prop:=x.f<0\/100<x.f\/x.b<0\/100<x.b\/x.r<0\/100<x.r
instance (x:Hos):Decidable (JH x):=by unfold JH;infer_instance
def nD (x:Hos):Bool:=if JH x then false else aH x.c
def mB (ns:List Nod):Nat->List Nod->Bool
 | _,[]=>true
 | i,x::r=>if mZ (rlB ns i) i x=true then mB ns (i+1) r else false
def wG (c:Con):Prop:=(1<=c.ns.length/\c.ns.length<=12)/\(1<=c.hs.length/\c.hs.length<=24)/\(1<=c.half/\c.half<=1048576)/\0<=c.age/\c.age<=1048576
instance (c:Con):Decidable (wG c):=by unfold wG;infer_instance
def bC (c:Con):Int:=if wG c then (if mB c.ns 0 c.ns=true then (if c.hs.all nD=true then 0 else 2) else 2) else 2
noncomputable abbrev IQ:Func:=Tryz.f27
theorem MV (c:Con) (k:c.sm) (r:Int):∀ (m i:Nat),i+m=c.hs.length->(if (c.hs.drop i).all nD=true then (0:Int) else 2)=r->
  To E IQ (.pure (.ret (ii r))) (.head (stk IQ 1) [(1,.ref 0 0),(4,ii i)] [.cells 25 c.cs]):=by
 have j:(hav c.hs).length=c.hs.length:=by simp
 have h1:=k.hs
 intro m
 induction m with
 | zero=>
  intro i l a
  rw [Ae o_] at a
  have a:0=r:=a
  subst a
  refine gV ?_
  refine aF fun h=>?_
  repeat' first | (refine gN hE ?_;conv=>whnf) | exact rfl | (refine zt ?_;try intro h) | refine zu (fun h=>?_) fun h=>?_ | fail
 | succ m e=>
  intro i l a
  have d:i<c.hs.length:=o_
  rw [Ad d,Da] at a
  have get:=vC d
  generalize c.hs[i]=x at a get
  have e:=e (i+1) o_
  have g:=kB x.c
  unfold nD at a
  generalize aH x.c=b at g a
  by_cases f:JH x
  .rw [if_pos f] at a
   have a:2=r:=a
   subst a
   unfold JH at f
   refine gV ?_
   refine aT fun h=>?_
   repeat' first
    | (refine gN hE ?_;conv=>whnf)
    | exact rfl
    | refine Ai i (Aa rfl ?_)
    | refine Ai _ (Aa get ?_)
    | refine aY ?_
    | refine aN ?_
    | refine aF fun h=>?_
    | refine aT fun h=>?_
    | refine Aa (fun h=>?_) (fun h=>?_)
   all_goals (exfalso;simp at *;omega)
  .rw [if_neg f] at a
   unfold JH at f
   cases b with
   | false=>
    have a:2=r:=a
    subst a
    refine gV ?_
    refine aT fun h=>?_
    repeat' first | (refine gN hE ?_;conv=>whnf) | refine ⟨i,rfl,?_⟩ | refine ⟨_,get,?_⟩ | refine .pure _ [] g ?_ | exact rfl | (refine zt ?_;try intro h) | refine zu (fun h=>?_) fun h=>?_ | fail
   | true=>
    have e:=e a
    refine gV ?_
    refine aT fun h=>?_
    repeat' first | (refine gN hE ?_;conv=>whnf) | refine ⟨i,rfl,?_⟩ | refine ⟨_,get,?_⟩ | refine .pure _ [] g ?_ | exact rfl | (refine zt ?_;try intro h) | refine zu (fun h=>?_) fun h=>?_ | fail
    exact To.cut [1,4] 1 rfl rfl rfl rfl e
theorem MU (c:Con) (g:c.sm) (r:Int):∀ (m i:Nat),i+m=c.ns.length->(if mB c.ns i (c.ns.drop i)=true then (if c.hs.all nD=true then (0:Int) else 2) else 2)=r->
  To E IQ (.pure (.ret (ii r))) (.head (stk IQ 0) [(1,.ref 0 0),(3,ii i)] [.cells 25 c.cs]):=by
 have j:(nav c.ns).length=c.ns.length:=by simp
 have h1:=g.ns
 intro m
 induction m with
 | zero=>
  intro i k a
  rw [Ae o_] at a
  have a:(if c.hs.all nD=true then (0:Int) else 2)=r:=a
  refine gV ?_
  refine aF fun h=>?_
  repeat' first | (refine gN hE ?_;conv=>whnf) | exact rfl | (refine zt ?_;try intro h) | refine zu (fun h=>?_) fun h=>?_ | fail
  exact To.cut [1,4] 1 rfl rfl rfl rfl (MV c g r c.hs.length 0 o_ a)
 | succ m e=>
  intro i k a
  have d:i<c.ns.length:=o_
  rw [Ad d] at a
  have f:=aDt c g i _ (fU d)
  unfold mB at a
  have e:=e (i+1) o_
  generalize mZ (rlB c.ns i) i c.ns[i]=b at a f
  cases b with
  | false=>
   have a:2=r:=a
   subst a
   refine gV ?_
   refine aT fun h=>?_
   repeat' first | (refine gN hE ?_;conv=>whnf) | refine .pure _ [] f ?_ | exact rfl | (refine zt ?_;try intro h) | refine zu (fun h=>?_) fun h=>?_ | fail
  | true=>
   rw [if_pos (show true=true from rfl)] at a
   have e:=e a
   refine gV ?_
   refine aT fun h=>?_
   repeat' first | (refine gN hE ?_;conv=>whnf) | refine .pure _ [] f ?_ | exact rfl | (refine zt ?_;try intro h) | refine zu (fun h=>?_) fun h=>?_ | fail
   exact To.cut [1,3] 1 rfl rfl rfl rfl e
theorem WR (c:Con) (i:c.sm) (r:Int) (a:bC c=r):aA Tryz.prog 27 [c.av] [] (.ret (ii r)) []:=by
 have e:(nav c.ns).length=c.ns.length:=by simp
 have d:(hav c.hs).length=c.hs.length:=by simp
 unfold bC at a
 by_cases b:wG c
 .rw [if_pos b] at a
  unfold wG at b
  refine c_ Tryz.f27 fun _=>?_
  repeat' first | (refine gN hE ?_;conv=>whnf) | exact rfl | (refine zt ?_;try intro h) | refine zu (fun h=>?_) fun h=>?_ | fail
  exact To.cut [1,3] 1 rfl rfl rfl rfl (MU c i r c.ns.length 0 o_ a)
 .rw [if_neg b] at a
  subst a
  unfold wG at b
  refine c_ Tryz.f27 fun _=>?_
  repeat' first
   | (refine gN hE ?_;conv=>whnf)
   | exact rfl
   | refine aY ?_
   | refine aN ?_
   | refine aF fun h=>?_
   | refine aT fun h=>?_
   | refine Aa (fun h=>?_) (fun h=>?_)
  all_goals (exfalso;simp at *;omega)
theorem check_ok (c:Con) (a:c.sm):aA Tryz.prog 27 [c.av] [] (.ret (ii (bC c))) []:=WR c a _ rfl
def hJ (n:Nat) (l:List Int):Bool:=l.all fun h=>decide (0<=h/\h<(n:Int))
def DQ (c:Con) (now:Int) (x:Rn):Prop:=dA c.ns x.g=0\/x.st<0\/now<x.st\/(x.hs.length:Int)≠x.g.pods
instance (c:Con) (now:Int) (x:Rn):Decidable (DQ c now x):=by unfold DQ;infer_instance
def N3 (c:Con) (now:Int) (x:Rn):Bool:=if DQ c now x then false else hJ c.hs.length x.hs
def DR (c:Con) (now:Int) (l:List Rn):Prop:=bC c≠0\/32<l.length\/now<0\/1099511627776<now
instance (c:Con) (now:Int) (l:List Rn):Decidable (DR c now l):=by unfold DR;infer_instance
def jD (c:Con) (now:Int) (l:List Rn):Int:=if DR c now l then 0 else if l.all (N3 c now)=true then 1 else 0
abbrev St (l:List Int):Prop:=l.Pairwise (· < ·)
theorem CF {n x:Int}:∀ {l:List Int},x∈oO n l↔x=n\/x∈l
 | []=>by simp [oO]
 | y::r=>by
  have a:=CF (n:=n) (x:=x) (l:=r)
  unfold oO
  split
  .simp only [Aj,a]
   constructor
   .exact zqha11
   .exact zqha11
  .split
   .rename_i h
    subst h
    simp only [Aj]
    constructor
    .rintro (h | h)
     .exact .inl h
     .exact .inr (.inr h)
    .rintro (h | h | h)
     .exact .inl h
     .exact .inl h
     .exact .inr h
   .simp only [Aj]
theorem SO {n:Int}:∀ {l:List Int},St l->St (oO n l)
 | [],_=>by simp [oO]
 | y::r,h=>by
  have a:=Bn.1 h
  unfold oO
  split
  .rename_i b
   refine Bn.2 ⟨fun z hz=>?_,SO a.2⟩
   rcases CF.1 hz with rfl | hz
   .exact b
   .exact a.1 z hz
  .split
   .exact h
   .rename_i h1 c
    refine Bn.2 ⟨fun z hz=>?_,h⟩
    rcases Aj.1 hz with rfl | hz
    .omega
    .have:=a.1 z hz
     omega
theorem R4 {now:Int}:∀ {l:List Rn} {out:List Int},St out->St (rE now l out)
 | [],_,h=>h
 | x::r,out,h=>by
  unfold rE
  split
  .exact R4 h
  .exact R4 (SO h)
theorem HW {now n:Int}:∀ {l:List Rn} {out:List Int},n∈rE now l out↔n∈out\/∃ x∈l,dN x=n/\now<n
 | [],out=>by simp [rE]
 | x::r,out=>by
  unfold rE
  split
  .rename_i h
   rw [HW (l:=r)]
   constructor
   .rintro (h1 | ⟨y,a,h1⟩)
    .exact .inl h1
    .exact .inr ⟨y,Ap _ a,h1⟩
   .rintro (h1 | ⟨y,a,h1,b⟩)
    .exact .inl h1
    .rcases Aj.1 a with rfl | a
     .omega
     .exact .inr ⟨y,a,h1,b⟩
  .rename_i h
   rw [HW (l:=r),CF]
   constructor
   .rintro ((h1 | h1) | ⟨y,a,h1⟩)
    .exact .inr ⟨x,by simp,h1.symm,by omega⟩
    .exact .inl h1
    .exact .inr ⟨y,Ap _ a,h1⟩
   .rintro (h1 | ⟨y,a,h1,b⟩)
    .exact .inl (.inr h1)
    .rcases Aj.1 a with rfl | a
     .exact .inl (.inl h1.symm)
     .exact .inr ⟨y,a,h1,b⟩
theorem GA {n:Int}:∀ {l:List Int} {i:Nat},0<=ME n l i↔n∈l
 | [],i=>by simp [ME]
 | x::r,i=>by
  unfold ME
  split
  .rename_i h
   have:x=n:=by simpa using h
   simp [this]
  .rename_i h
   have:¬ x=n:=by simpa using h
   rw [GA (l:=r),Aj]
   constructor
   .exact .inr
   .rintro (h | h)
    .exact absurd h.symm this
    .exact h
theorem SW {l:List Int} {n:Int}:has l n=true↔n∈l:=by
 unfold has
 rw [decide_eq_true_eq,GA]
theorem FL {now n:Int}:∀ {l:List Rn} {ks:List Int},n∈B7 now l ks↔n∈ks\/∃ x∈l,dN x=n/\now<n
 | [],ks=>by simp [B7]
 | x::r,ks=>by
  unfold B7
  rw [FL (l:=r)]
  split
  .rename_i h
   simp only [Af,decide_eq_true_eq] at h
   simp only [Ao,Aj,Hr,or_false]
   constructor
   .rintro ((h1 | h1) | ⟨y,a,h1⟩)
    .exact .inl h1
    .exact .inr ⟨x,.inl rfl,h1.symm,by omega⟩
    .exact .inr ⟨y,.inr a,h1⟩
   .rintro (h1 | ⟨y,rfl | a,h1,b⟩)
    .exact .inl (.inl h1)
    .exact .inl (.inr h1.symm)
    .exact .inr ⟨y,a,h1,b⟩
  .rename_i h
   simp only [Aj]
   constructor
   .rintro (h1 | ⟨y,a,h1⟩)
    .exact .inl h1
    .exact .inr ⟨y,.inr a,h1⟩
   .rintro (h1 | ⟨y,rfl | a,h1,b⟩)
    .exact .inl h1
    .cases c:has ks (dN y) with
     | true=>exact .inl (h1▸SW.1 c)
     | false=>
      refine absurd ?_ h
      rw [c,decide_eq_true o_]
      rfl
    .exact .inr ⟨y,a,h1,b⟩
theorem qL {now:Int}:∀ {l:List Rn} {ks:List Int},ks.Nodup->(B7 now l ks).Nodup
 | [],_,h=>h
 | x::r,ks,h=>by
  unfold B7
  split
  .rename_i c
   refine qL ?_
   simp only [Af,Co] at c
   have f:dN x∉ks:=fun hm=>by
    have:=SW.2 hm
    rw [this] at c
    cases c.2
   exact Ax.2 ⟨h,by simp,fun a g b d=>by
    simp only [Aj,Hr,or_false] at d
    subst d
    exact fun e=>f (e▸g)⟩
  .exact qL h
theorem T9 {l:List Int} {n:Int}:n∈J7 l↔n∈l:=(Ga l _).mem_iff
theorem X0 {l:List Int} (h:l.Nodup):St (J7 l):=by
 have h1:(J7 l).Pairwise (fun a b=>decide (a<=b)=true):=Kw (fun a b c h1 d=>by simp at *;omega) (fun a b=>by simp;omega) l
 have d:(J7 l).Nodup:=(Ga l _).nodup_iff.2 h
 exact (h1.and d).imp fun ⟨a,b⟩=>by simp at a;omega
theorem aE4:∀ {a b:List Int},St a->St b->(∀ x,x∈a↔x∈b)->a=b
 | [],[],_,_,_=>rfl
 | [],y::s,_,_,h=>absurd ((h y).2 s_) s_
 | x::r,[],_,_,h=>absurd ((h x).1 s_) s_
 | x::r,y::s,ha,hb,h=>by
  have c:=Bn.1 ha
  have d:=Bn.1 hb
  have e:x=y:=by
   rcases Aj.1 ((h x).1 s_) with e | h1
   .exact e
   .rcases Aj.1 ((h y).2 s_) with e | f
    .exact e.symm
    .have:=d.1 x h1
     have:=c.1 y f
     omega
  subst e
  rw [aE4 c.2 d.2 fun z=>?_]
  constructor
  .intro hz
   rcases Aj.1 ((h z).1 (Ap _ hz)) with rfl | h1
   .have:=c.1 z hz;omega
   .exact h1
  .intro hz
   rcases Aj.1 ((h z).2 (Ap _ hz)) with rfl | h1
   .have:=d.1 z hz;omega
   .exact h1
theorem vO (l:List Rn) (now:Int):yK l now=rE now l []:=by
 refine aE4 (X0 (qL s_)) (R4 s_) fun x=>?_
 unfold yK
 rw [T9,FL,HW]
theorem aBq (l:List Rn) (now:Int):St (yK l now):=by rw [vO];exact R4 s_
theorem GF {l:List Rn} {now n:Int}:n∈yK l now↔ ∃ x∈l,dN x=n/\now<n:=by
 rw [vO,HW]
 simp
theorem OP (now:Int):∀ (l:List Rn) (out:List Int),(rE now l out).length<=out.length+l.length
 | [],out=>by simp [rE]
 | x::r,out=>by
  unfold rE
  split
  .have:=OP now r out
   simp only [Bt];omega
  .have:=OP now r (oO (dN x) out)
   have:=LZ (dN x) out
   simp only [Bt];omega
theorem V5 (l:List Rn) (now:Int):(yK l now).length<=l.length:=by
 rw [vO]
 have:=OP now l []
 simpa using this
def F3 (tick:Int):List Int->Int->Int
 | [],f=>f
 | x::r,f=>F3 tick r (if x<=tick then x else f)
theorem tE {tick:Int}:∀ {e:List Int} {f:Int},St e->f<=tick->(∀ x∈e,f<x)->f<=F3 tick e f/\F3 tick e f<=tick/\∀ x∈e,x<=tick->x<=F3 tick e f
 | [],f,_,h,_=>⟨Di _,h,fun x a=>by cases a⟩
 | y::r,f,hs,h,hl=>by
  have hs':=Bn.1 hs
  unfold F3
  by_cases b:y<=tick
  .rw [if_pos b]
   obtain ⟨h1,d,h3⟩:=tE (f:=y) hs'.2 b hs'.1
   have:=hl y s_
   refine ⟨by omega,d,fun x a c=>?_⟩
   rcases Aj.1 a with rfl | a
   .exact h1
   .exact h3 x a c
  .rw [if_neg b]
   obtain ⟨h1,d,h3⟩:=tE (f:=f) hs'.2 h fun x a=>hl x (by simp [a])
   refine ⟨h1,d,fun x a c=>?_⟩
   rcases Aj.1 a with rfl | a
   .omega
   .exact h3 x a c
theorem aID {l:List Rn} {now tick:Int} (h:now<=tick):atL l (F3 tick (yK l now) now)=atL l tick:=by
 obtain ⟨h1,d,h3⟩:=tE (tick:=tick) (f:=now) (aBq l now) h fun x a=>by
  obtain ⟨_,_,_,h⟩:=GF.1 a
  exact h
 unfold atL
 refine Kl fun x a=>?_
 by_cases b:tick<dN x
 .rw [decide_eq_true b,decide_eq_true o_]
 .rw [decide_eq_false b,decide_eq_false]
  intro c
  have:=h3 (dN x) (GF.2 ⟨x,a,rfl,by omega⟩) o_
  omega
end Go.Proofs.YtlanfgblaebddaaGreat
