/-
  What fits where: quotas, ledgers, hosts, placing, gangs, configurations, as walks.
-/
import Derived.Test.YtmalnhgopkfdaaaGreatProg
import Derived.Test.YtmalnhgopkfdaaaGreatWDS
set_option linter.all false
namespace Go.Proofs.YtmalnhgopkfdaaaGreat
open Go Go.AW Go.Proofs
noncomputable def T0 : Tab := [
 (3, .mk (.int .i64) 1 false (.int .i64 0)),
 (4, .mk .bool 1 false (.bool false)),
 (57, .mk (.arr 3 1 false) 3 true (.agg [.int .i64 0, .int .i64 0, .int .i64 0])),
 (26, .mk (.strct [(0, 1, false), (1, 1, false), (2, 1, false), (3, 1, false)]) 4 true (.agg [.slice 11 [] .nil, .slice 6 [] .nil, .int .i64 0, .int .i64 0])),
 (23, .mk (.slc 109 11 88) 1 false (.slice 11 [] .nil)),
 (109, .mk (.strct [(0, 1, false), (1, 1, false), (2, 3, true), (5, 3, true), (8, 3, true)]) 11 true (.agg [.int .i64 0, .int .i64 0, .int .i64 0, .int .i64 0, .int .i64 0, .int .i64 0, .int .i64 0, .int .i64 0, .int .i64 0, .int .i64 0, .int .i64 0])),
 (68, .mk (.slc 3 1 8) 1 false (.slice 1 [] .nil)),
 (103, .mk (.slc 57 3 24) 1 false (.slice 3 [] .nil)),
 (59, .mk (.strct [(0, 1, false), (1, 1, false), (2, 1, false), (3, 3, true), (6, 1, false), (7, 1, false), (8, 1, false)]) 9 true (.agg [.int .i64 0, .int .i64 0, .int .i64 0, .int .i64 0, .int .i64 0, .int .i64 0, .int .i64 0, .int .i64 0, .int .i64 0])),
 (28, .mk (.slc 70 14 128) 1 false (.slice 14 [] .nil)),
 (70, .mk (.strct [(0, 9, true), (9, 1, false), (10, 1, false), (11, 1, false), (12, 1, false), (13, 1, false)]) 14 true (.agg [.int .i64 0, .int .i64 0, .int .i64 0, .int .i64 0, .int .i64 0, .int .i64 0, .int .i64 0, .int .i64 0, .int .i64 0, .int .i64 0, .int .i64 0, .int .i64 0, .int .i64 0, .slice 1 [] .nil])),
 (24, .mk (.slc 99 6 48) 1 false (.slice 6 [] .nil)),
 (99, .mk (.strct [(0, 1, false), (1, 1, false), (2, 1, false), (3, 3, true)]) 6 true (.agg [.int .i64 0, .int .i64 0, .int .i64 0, .int .i64 0, .int .i64 0, .int .i64 0])),
 (1, .mk .other 1 false .nilfunc),
 (2, .mk (.int .i64) 1 false (.int .i64 0)),
 (5, .mk (.int .u8) 1 false (.int .u8 0)),
 (6, .mk (.int .u8) 1 false (.int .u8 0)),
 (7, .mk (.strct [(0, 1, false), (1, 1, false), (2, 1, false), (3, 1, false)]) 4 true (.agg [.int .i64 0, .int .i64 0, .bool false, .int .u8 0])),
 (8, .mk (.strct [(0, 1, false), (1, 1, false), (2, 1, false), (3, 1, false)]) 4 true (.agg [.int .i64 0, .int .i64 0, .bool false, .int .u8 0])),
 (9, .mk .str 1 false (.str [])),
 (10, .mk .str 1 false (.str [])),
 (11, .mk .str 1 false (.str [])),
 (12, .mk (.int .u64) 1 false (.int .u64 0)),
 (13, .mk (.strct [(0, 1, false), (1, 1, false)]) 2 true (.agg [.str [], .int .u64 0])),
 (14, .mk (.strct [(0, 1, false), (1, 1, false)]) 2 true (.agg [.str [], .int .u64 0])),
 (15, .mk (.ptr 240) 1 false .nilptr),
 (16, .mk (.ptr 243) 1 false .nilptr),
 (17, .mk (.ptr 250) 1 false .nilptr),
 (18, .mk (.strct [(0, 1, false)]) 1 true (.agg [.nilptr])),
 (19, .mk (.strct [(0, 1, false)]) 1 true (.agg [.nilptr])),
 (20, .mk .iface 1 false .nilif),
 (21, .mk (.int .i32) 1 false (.int .i32 0)),
 (22, .mk .other 1 false .nilfunc),
 (25, .mk (.strct [(0, 1, false), (1, 1, false), (2, 1, false), (3, 1, false)]) 4 true (.agg [.slice 11 [] .nil, .slice 6 [] .nil, .int .i64 0, .int .i64 0])),
 (27, .mk (.slc 67 11 88) 1 false (.slice 11 [] .nil)),
 (29, .mk (.slc 90 1 8) 1 false (.slice 1 [] .nil)),
 (30, .mk (.strct [(0, 4, true), (4, 1, false), (5, 1, false), (6, 1, false), (7, 1, false), (8, 1, false)]) 9 true (.agg [.slice 11 [] .nil, .slice 6 [] .nil, .int .i64 0, .int .i64 0, .int .i64 0, .int .i64 0, .slice 11 [] .nil, .slice 14 [] .nil, .slice 1 [] .nil])),
 (31, .mk (.strct [(0, 4, true), (4, 1, false), (5, 1, false), (6, 1, false), (7, 1, false), (8, 1, false)]) 9 true (.agg [.slice 11 [] .nil, .slice 6 [] .nil, .int .i64 0, .int .i64 0, .int .i64 0, .int .i64 0, .slice 11 [] .nil, .slice 14 [] .nil, .slice 1 [] .nil])),
 (32, .mk (.int .i64) 1 false (.int .i64 0)),
 (34, .mk .other 1 false .nilfunc),
 (36, .mk .other 1 false .nilfunc),
 (37, .mk .other 1 false .nilfunc),
 (38, .mk .other 1 false .nilfunc),
 (39, .mk .other 1 false .nilfunc),
 (41, .mk .other 1 false .nilfunc),
 (42, .mk .other 1 false .nilfunc),
 (43, .mk .other 1 false .nilfunc),
 (44, .mk .other 1 false .nilfunc),
 (45, .mk .other 1 false .nilfunc),
 (46, .mk .other 1 false .nilfunc),
 (48, .mk .other 1 false .nilfunc),
 (49, .mk (.ptr 51) 1 false .nilptr),
 (50, .mk (.strct [(0, 1, false)]) 1 true (.agg [.str []])),
 (51, .mk (.strct [(0, 1, false)]) 1 true (.agg [.str []])),
 (52, .mk (.ptr 54) 1 false .nilptr),
 (53, .mk (.strct [(0, 1, false), (1, 1, false)]) 2 true (.agg [.str [], .bool false])),
 (54, .mk (.strct [(0, 1, false), (1, 1, false)]) 2 true (.agg [.str [], .bool false])),
 (55, .mk .other 1 false .nilfunc),
 (56, .mk (.arr 3 1 false) 3 true (.agg [.int .i64 0, .int .i64 0, .int .i64 0])),
 (58, .mk (.strct [(0, 1, false), (1, 1, false), (2, 1, false), (3, 3, true), (6, 1, false), (7, 1, false), (8, 1, false)]) 9 true (.agg [.int .i64 0, .int .i64 0, .int .i64 0, .int .i64 0, .int .i64 0, .int .i64 0, .int .i64 0, .int .i64 0, .int .i64 0])),
 (60, .mk (.strct [(0, 1, false), (1, 4, true), (5, 9, true), (14, 1, false)]) 15 true (.agg [.int .i64 0, .slice 11 [] .nil, .slice 6 [] .nil, .int .i64 0, .int .i64 0, .int .i64 0, .int .i64 0, .int .i64 0, .int .i64 0, .int .i64 0, .int .i64 0, .int .i64 0, .int .i64 0, .int .i64 0, .int .i64 0])),
 (61, .mk (.strct [(0, 1, false), (1, 4, true), (5, 9, true), (14, 1, false)]) 15 true (.agg [.int .i64 0, .slice 11 [] .nil, .slice 6 [] .nil, .int .i64 0, .int .i64 0, .int .i64 0, .int .i64 0, .int .i64 0, .int .i64 0, .int .i64 0, .int .i64 0, .int .i64 0, .int .i64 0, .int .i64 0, .int .i64 0])),
 (63, .mk .other 1 false .nilfunc),
 (64, .mk .other 1 false .nilfunc),
 (65, .mk .other 1 false .nilfunc),
 (66, .mk (.strct [(0, 9, true), (9, 1, false), (10, 1, false)]) 11 true (.agg [.int .i64 0, .int .i64 0, .int .i64 0, .int .i64 0, .int .i64 0, .int .i64 0, .int .i64 0, .int .i64 0, .int .i64 0, .int .i64 0, .int .i64 0])),
 (67, .mk (.strct [(0, 9, true), (9, 1, false), (10, 1, false)]) 11 true (.agg [.int .i64 0, .int .i64 0, .int .i64 0, .int .i64 0, .int .i64 0, .int .i64 0, .int .i64 0, .int .i64 0, .int .i64 0, .int .i64 0, .int .i64 0])),
 (69, .mk (.strct [(0, 9, true), (9, 1, false), (10, 1, false), (11, 1, false), (12, 1, false), (13, 1, false)]) 14 true (.agg [.int .i64 0, .int .i64 0, .int .i64 0, .int .i64 0, .int .i64 0, .int .i64 0, .int .i64 0, .int .i64 0, .int .i64 0, .int .i64 0, .int .i64 0, .int .i64 0, .int .i64 0, .slice 1 [] .nil])),
 (71, .mk .other 1 false .nilfunc),
 (72, .mk .other 1 false .nilfunc),
 (73, .mk .other 1 false .nilfunc),
 (74, .mk .other 1 false .nilfunc),
 (75, .mk .other 1 false .nilfunc),
 (76, .mk .other 1 false .nilfunc),
 (77, .mk (.ptr 83) 1 false .nilptr),
 (78, .mk (.ptr 81) 1 false .nilptr),
 (79, .mk (.slc 5 1 1) 1 false (.slice 1 [] .nil)),
 (80, .mk (.strct [(0, 1, false), (1, 1, false)]) 2 true (.agg [.nilptr, .slice 1 [] .nil])),
 (81, .mk (.strct [(0, 1, false), (1, 1, false)]) 2 true (.agg [.nilptr, .slice 1 [] .nil])),
 (83, .mk (.strct [(0, 2, true)]) 2 true (.agg [.nilptr, .slice 1 [] .nil])),
 (84, .mk .other 1 false .nilfunc),
 (85, .mk .iface 1 false .nilif),
 (86, .mk .iface 1 false .nilif),
 (88, .mk .other 1 false .nilfunc),
 (89, .mk (.int .u64) 1 false (.int .u64 0)),
 (90, .mk (.int .u64) 1 false (.int .u64 0)),
 (91, .mk .other 1 false .nilfunc),
 (92, .mk .other 1 false .nilfunc),
 (93, .mk .other 1 false .nilfunc),
 (94, .mk .other 1 false .nilfunc),
 (95, .mk .other 1 false .nilfunc),
 (96, .mk .other 1 false .nilfunc),
 (97, .mk .other 1 false .nilfunc),
 (98, .mk (.strct [(0, 1, false), (1, 1, false), (2, 1, false), (3, 3, true)]) 6 true (.agg [.int .i64 0, .int .i64 0, .int .i64 0, .int .i64 0, .int .i64 0, .int .i64 0])),
 (100, .mk .other 1 false .nilfunc),
 (101, .mk .other 1 false .nilfunc),
 (102, .mk .other 1 false .nilfunc),
 (104, .mk .other 1 false .nilfunc),
 (105, .mk .other 1 false .nilfunc),
 (106, .mk .other 1 false .nilfunc),
 (107, .mk .other 1 false .nilfunc),
 (108, .mk (.strct [(0, 1, false), (1, 1, false), (2, 3, true), (5, 3, true), (8, 3, true)]) 11 true (.agg [.int .i64 0, .int .i64 0, .int .i64 0, .int .i64 0, .int .i64 0, .int .i64 0, .int .i64 0, .int .i64 0, .int .i64 0, .int .i64 0, .int .i64 0])),
 (110, .mk .other 1 false .nilfunc),
 (111, .mk (.ptr 32) 1 false .nilptr),
 (113, .mk .other 1 false .nilfunc),
 (115, .mk .other 1 false .nilfunc),
 (117, .mk .other 1 false .nilfunc),
 (118, .mk .other 1 false .nilfunc),
 (119, .mk .other 1 false .nilfunc),
 (120, .mk .other 1 false .nilfunc),
 (122, .mk .other 1 false .nilfunc),
 (123, .mk .other 1 false .nilfunc),
 (124, .mk .other 1 false .nilfunc),
 (125, .mk .other 1 false .nilfunc),
 (126, .mk .other 1 false .nilfunc),
 (128, .mk .other 1 false .nilfunc),
 (129, .mk .other 1 false .nilfunc),
 (130, .mk .other 1 false .nilfunc),
 (131, .mk .other 1 false .nilfunc),
 (132, .mk (.ptr 134) 1 false .nilptr),
 (133, .mk (.strct [(0, 2, true)]) 2 true (.agg [.nilptr, .slice 1 [] .nil])),
 (134, .mk (.strct [(0, 2, true)]) 2 true (.agg [.nilptr, .slice 1 [] .nil])),
 (135, .mk .other 1 false .nilfunc),
 (136, .mk .other 1 false .nilfunc),
 (137, .mk (.ptr 5) 1 false .nilptr),
 (138, .mk .other 1 false .nilfunc),
 (139, .mk .other 1 false .nilfunc),
 (140, .mk .other 1 false .nilfunc),
 (141, .mk (.strct [(0, 9, true), (9, 1, false), (10, 1, false)]) 11 true (.agg [.int .i64 0, .int .i64 0, .int .i64 0, .int .i64 0, .int .i64 0, .int .i64 0, .int .i64 0, .int .i64 0, .int .i64 0, .int .i64 0, .int .i64 0])),
 (142, .mk .other 1 false .nilfunc),
 (143, .mk (.mp 3 4) 1 false .nilmap),
 (144, .mk (.slc 20 1 16) 1 false (.slice 1 [] .nil)),
 (145, .mk .other 1 false .nilfunc),
 (147, .mk .other 1 false .nilfunc),
 (148, .mk .other 1 false .nilfunc),
 (149, .mk .other 1 false .nilfunc),
 (151, .mk .other 1 false .nilfunc),
 (152, .mk .other 1 false .nilfunc),
 (153, .mk .other 1 false .nilfunc),
 (154, .mk .other 1 false .nilfunc),
 (155, .mk (.strct [(0, 1, false)]) 1 true (.agg [.int .i64 0])),
 (156, .mk (.strct [(0, 1, false)]) 1 true (.agg [.int .i64 0])),
 (157, .mk .other 1 false .nilfunc),
 (159, .mk .other 1 false .nilfunc),
 (160, .mk (.int .u64) 1 false (.int .u64 0)),
 (161, .mk .other 1 false .nilfunc),
 (162, .mk .other 1 false .nilfunc),
 (163, .mk .other 1 false .nilfunc),
 (164, .mk .other 1 false .nilfunc),
 (165, .mk .other 1 false .nilfunc),
 (166, .mk .other 1 false .nilfunc),
 (167, .mk .other 1 false .nilfunc),
 (168, .mk .other 1 false .nilptr),
 (169, .mk .other 1 false .nilfunc),
 (170, .mk .other 1 false .nilfunc),
 (171, .mk .other 1 false .nilfunc),
 (172, .mk .iface 1 false .nilif),
 (173, .mk .iface 1 false .nilif),
 (174, .mk .other 1 false .nilfunc),
 (175, .mk .other 1 false .nilfunc),
 (176, .mk .other 1 false .nilfunc),
 (178, .mk .other 1 false .nilfunc),
 (179, .mk (.ptr 204) 1 false .nilptr),
 (180, .mk .other 1 false .nilfunc),
 (181, .mk .other 1 false .nilfunc),
 (182, .mk .other 1 false .nilfunc),
 (183, .mk .other 1 false .nilfunc),
 (184, .mk .other 1 false .nilfunc),
 (185, .mk .other 1 false .nilfunc),
 (186, .mk .other 1 false .nilfunc),
 (187, .mk .other 1 false .nilfunc),
 (188, .mk .other 1 false .nilfunc),
 (189, .mk (.slc 68 1 24) 1 false (.slice 1 [] .nil)),
 (190, .mk .other 1 false .nilfunc),
 (191, .mk .other 1 false .nilfunc),
 (192, .mk .other 1 false .nilfunc),
 (193, .mk .other 1 false .nilfunc),
 (194, .mk .other 1 false .nilfunc),
 (195, .mk .other 1 false .nilfunc),
 (196, .mk .other 1 false .nilfunc),
 (197, .mk (.mp 3 3) 1 false .nilmap),
 (198, .mk .other 1 false .nilfunc),
 (199, .mk .other 1 false .nilfunc),
 (200, .mk .other 1 false .nilfunc),
 (201, .mk .other 1 false .nilfunc),
 (202, .mk (.mp 3 57) 1 false .nilmap),
 (203, .mk (.strct [(0, 4, true), (4, 1, false)]) 5 true (.agg [.slice 11 [] .nil, .slice 6 [] .nil, .int .i64 0, .int .i64 0, .nilmap])),
 (204, .mk (.strct [(0, 4, true), (4, 1, false)]) 5 true (.agg [.slice 11 [] .nil, .slice 6 [] .nil, .int .i64 0, .int .i64 0, .nilmap])),
 (205, .mk .other 1 false .nilfunc),
 (206, .mk .other 1 false .nilfunc),
 (207, .mk .other 1 false .nilfunc),
 (208, .mk .other 1 false .nilfunc),
 (209, .mk .other 1 false .nilfunc),
 (210, .mk .other 1 false .nilfunc),
 (211, .mk .other 1 false .nilfunc),
 (212, .mk .other 1 false .nilfunc),
 (213, .mk (.strct [(0, 1, false)]) 1 true (.agg [.nilfunc])),
 (214, .mk (.strct [(0, 1, false)]) 1 true (.agg [.nilfunc])),
 (216, .mk .other 1 false .nilfunc),
 (218, .mk .other 1 false .nilfunc),
 (219, .mk .other 1 false .nilfunc),
 (220, .mk .other 1 false .nilfunc),
 (221, .mk .other 1 false .nilfunc),
 (222, .mk (.mp 224 3) 1 false .nilmap),
 (223, .mk (.strct [(0, 1, false), (1, 1, false), (2, 1, false), (3, 1, false)]) 4 true (.agg [.int .i64 0, .int .i64 0, .int .i64 0, .int .i64 0])),
 (224, .mk (.strct [(0, 1, false), (1, 1, false), (2, 1, false), (3, 1, false)]) 4 true (.agg [.int .i64 0, .int .i64 0, .int .i64 0, .int .i64 0])),
 (225, .mk .other 1 false .nilfunc),
 (227, .mk .other 1 false .nilfunc),
 (228, .mk .other 1 false .nilfunc),
 (229, .mk .other 1 false .nilfunc),
 (231, .mk .other 1 false .nilfunc),
 (232, .mk .other 1 false .nilfunc),
 (233, .mk (.int .u32) 1 false (.int .u32 0)),
 (235, .mk .other 1 false .nilfunc),
 (237, .mk .other 1 false .nilfunc),
 (238, .mk .other 1 false .nilfunc),
 (239, .mk (.strct [(0, 1, false), (1, 1, false), (2, 1, false), (3, 1, false)]) 4 true (.agg [.nilptr, .nilptr, .nilptr, .str []])),
 (240, .mk (.strct [(0, 1, false), (1, 1, false), (2, 1, false), (3, 1, false)]) 4 true (.agg [.nilptr, .nilptr, .nilptr, .str []])),
 (241, .mk (.arr 0 1 false) 0 true (.agg [])),
 (242, .mk (.strct [(0, 0, true)]) 0 true (.agg [])),
 (243, .mk (.strct [(0, 0, true)]) 0 true (.agg [])),
 (244, .mk (.int .u8) 1 false (.int .u8 0)),
 (245, .mk (.int .u8) 1 false (.int .u8 0)),
 (246, .mk .other 1 false .nilfunc),
 (247, .mk (.int .i32) 1 false (.int .i32 0)),
 (248, .mk (.int .i32) 1 false (.int .i32 0)),
 (249, .mk (.strct [(0, 1, false), (1, 1, false), (2, 1, false), (3, 1, false), (4, 1, false), (5, 1, false), (6, 1, false), (7, 1, false), (8, 1, false), (9, 1, false), (10, 1, false)]) 11 true (.agg [.int .u64 0, .int .u64 0, .int .u32 0, .int .u8 0, .int .u8 0, .int .u8 0, .int .u8 0, .nilfunc, .nilptr, .int .i32 0, .int .i32 0])),
 (250, .mk (.strct [(0, 1, false), (1, 1, false), (2, 1, false), (3, 1, false), (4, 1, false), (5, 1, false), (6, 1, false), (7, 1, false), (8, 1, false), (9, 1, false), (10, 1, false)]) 11 true (.agg [.int .u64 0, .int .u64 0, .int .u32 0, .int .u8 0, .int .u8 0, .int .u8 0, .int .u8 0, .nilfunc, .nilptr, .int .i32 0, .int .i32 0]))]
def F0 : List (Nat × Nat) := [(56, 3), (57, 3), (58, 9), (59, 9), (108, 11), (109, 11), (98, 6), (99, 6), (223, 4), (224, 4), (66, 11), (67, 11), (141, 11)]
def M0 : MTab := [(141, "tithebarn/queue.id", 217), (141, "tithebarn/queue.seq", 218)]
noncomputable def E : Env := { P := Tryz.prog, T := T0, mt := M0, fl := F0, own := [], rws := [], bl := [], df := [] }
theorem hE : EnvOK E where
 mix := by kernel_rfl
 tab := tab_ok (by kernel_rfl) (by kernel_rfl)
 mth := MthOK.cons (fun v w => by kernel_rfl) (MthOK.cons (fun v w => by kernel_rfl) MthOK.nil)
 fl := flats_ok (by kernel_rfl)
noncomputable def Er (l b : List Nat) : Env := { E with rws := l, bl := b }
theorem hEr (l b : List Nat) : EnvOK (Er l b) := ⟨hE.mix, hE.tab, hE.mth, hE.fl⟩
noncomputable def Eo (l b : List Nat) : Env := { E with own := l, bl := b }
theorem hEo (l b : List Nat) : EnvOK (Eo l b) := ⟨hE.mix, hE.tab, hE.mth, hE.fl⟩
noncomputable def Ed (df : List (Nat × List AVal)) : Env := { E with df := df }
theorem hEd (df : List (Nat × List AVal)) : EnvOK (Ed df) := ⟨hE.mix, hE.tab, hE.mth, hE.fl⟩
noncomputable def Ex (o r b : List Nat) : Env := { E with own := o, rws := r, bl := b }
noncomputable def El (l : Nat) (o r b : List Nat) : Env := { Ex o r b with rd := some l }
theorem hEl (l : Nat) (o r b : List Nat) : EnvOK (El l o r b) := ⟨hE.mix, hE.tab, hE.mth, hE.fl⟩
structure V3 where
 (a b c : Int)
 deriving DecidableEq
structure Nod where
 (p w : Int)
 (n b l : V3)
 deriving DecidableEq
structure Hos where
 (f b r : Int)
 (c : V3)
 deriving DecidableEq
structure Con where
 ns : List Nod
 hs : List Hos
 (half age : Int)
 deriving DecidableEq
structure Gan where
 (id ten pods : Int)
 need : V3
 (run lev pref : Int)
 deriving DecidableEq
abbrev ii (n : Int) : AVal := .int .i64 n
def V3.cs (v : V3) : List AVal := [ii v.a, ii v.b, ii v.c]
def Nod.cs (x : Nod) : List AVal := [ii x.p, ii x.w, ii x.n.a, ii x.n.b, ii x.n.c, ii x.b.a, ii x.b.b, ii x.b.c, ii x.l.a, ii x.l.b, ii x.l.c]
def Nod.av (x : Nod) : AVal := .agg x.cs
def Hos.cs (x : Hos) : List AVal := [ii x.f, ii x.b, ii x.r, ii x.c.a, ii x.c.b, ii x.c.c]
def Hos.av (x : Hos) : AVal := .agg x.cs
abbrev nav (l : List Nod) : List AVal := l.map Nod.av
abbrev hav (l : List Hos) : List AVal := l.map Hos.av
def Con.cs (x : Con) : List AVal := [.slice 11 (nav x.ns) .no, .slice 6 (hav x.hs) .no, ii x.half, ii x.age]
def Con.av (x : Con) : AVal := .agg x.cs
def Gan.cs (x : Gan) : List AVal := [ii x.id, ii x.ten, ii x.pods, ii x.need.a, ii x.need.b, ii x.need.c, ii x.run, ii x.lev, ii x.pref]
def Gan.av (x : Gan) : AVal := .agg x.cs
abbrev iv (l : List Int) : List AVal := l.map ii
def V3.zero : V3 := ⟨0, 0, 0⟩
def V3.av (v : V3) : AVal := .agg v.cs
abbrev vav (l : List V3) : List AVal := l.map V3.av
theorem nav_get {l : List Nod} {i : Nat} (h : i < l.length) : (nav l)[i]? = some l[i].av := by simp [nav, h]
theorem hav_get {l : List Hos} {i : Nat} (h : i < l.length) : (hav l)[i]? = some l[i].av := by simp [hav, h]
theorem iv_get {l : List Int} {i : Nat} (h : i < l.length) : (iv l)[i]? = some (ii l[i]) := by simp [iv, h]
theorem rep_agg_at {M : Imm} {ob : Hs} {v : Value} {cs : List AVal} (h : Rep M ob v (.agg cs)) (i : Nat) (a : AVal) (ha : cs[i]? = some a) : okA a := by
 obtain ⟨vs, _, hl, hr⟩ := h.agg_inv
 have hlt : i < vs.length := by rw [hl]; exact (List.getElem?_eq_some_iff.1 ha).1
 exact (hr i _ a (List.getElem?_eq_getElem hlt) ha).okA
theorem CallOK.get {P : Program} {f : FuncId} {args : List AVal} {obs obs' : List AObj} {r : Res} (Q : Prop) (hQ : ∀ M ob vs, RepL M ob vs args → Q) (h : Q → CallOK P f args obs r obs') : CallOK P f args obs r obs' :=
 fun M ob w vargs hm hr => h (hQ _ _ _ hr) M ob w vargs hm hr
theorem not_t {b : Bool} (h : (!b) = true) : b = false := by cases b <;> first | rfl | cases h
theorem not_f {b : Bool} (h : (!b) = false) : b = true := by cases b <;> first | rfl | cases h
structure Rn where
 g : Gan
 (seq at' st fl : Int)
 hs : List Int
 deriving DecidableEq
def Rn.cs (x : Rn) : List AVal := [ii x.g.id, ii x.g.ten, ii x.g.pods, ii x.g.need.a, ii x.g.need.b, ii x.g.need.c, ii x.g.run, ii x.g.lev, ii x.g.pref, ii x.seq, ii x.at', ii x.st, ii x.fl, .slice 1 (iv x.hs) .no]
def Rn.av (x : Rn) : AVal := .agg x.cs
abbrev rav (l : List Rn) := l.map Rn.av
theorem rav_get {l : List Rn} {i : Nat} (h : i < l.length) : (rav l)[i]? = some l[i].av := by simp [rav, h]
theorem vav_get {l : List V3} {i : Nat} (h : i < l.length) : (vav l)[i]? = some l[i].av := by simp [vav, h]
theorem wrap_hi {n : Int} (h : 9223372036854775807 < n) (h2 : n ≤ 18446744073709551614) : IntKind.wrap .i64 n = n - 18446744073709551616 := by
 simp [IntKind.wrap, IntKind.signed, IntKind.bits]; omega
theorem wrap_lo {n : Int} (h : n < -9223372036854775808) (h2 : -18446744073709551616 ≤ n) : IntKind.wrap .i64 n = n + 18446744073709551616 := by
 simp [IntKind.wrap, IntKind.signed, IntKind.bits]; omega
set_option maxRecDepth 10000
def cutI (n m : Int) : Int := min (max n (0 - m)) m
theorem cutI_r (n m : Int) (h : 0 ≤ m) : -m ≤ cutI n m ∧ cutI n m ≤ m := by unfold cutI; omega
theorem cut_ok (n m : Int) (h0 : 0 ≤ m) (h1 : m ≤ 1099511627776) : CallOK Tryz.prog 144 [ii n, ii m] [] (.ret (ii (cutI n m))) [] := by
 refine cT (E := E) (fn := Tryz.f144) (g := .pure _) fun _ => ?_
 repeat' first | (refine gN hE rfl ?_; conv => whnf) | exact rfl | refine aY ?_ | refine aN ?_ | refine aT (by omega) fun h => ?_ | refine aF (by omega) fun h => ?_ | refine ⟨fun h => ?_, fun h => ?_⟩ | refine aJ (by omega) (by omega) ?_ | refine ⟨_, rfl, ?_⟩ | refine ⟨by decide, ?_⟩ | refine ⟨by omega, ?_⟩ | fail
def addI (x y : Int) : Int := cutI (cutI x 1099511627776 + cutI y 1099511627776) 1099511627776
def subI (x y : Int) : Int := cutI (cutI x 1099511627776 - cutI y 1099511627776) 1099511627776
def mulI (x n : Int) : Int := cutI (cutI x 1099511627776 * cutI n 1048576) 1099511627776
theorem mul_r (x n : Int) : -1152921504606846976 ≤ cutI x 1099511627776 * cutI n 1048576 ∧ cutI x 1099511627776 * cutI n 1048576 ≤ 1152921504606846976 := by
 have h1 := cutI_r x 1099511627776 (by decide)
 have h2 := cutI_r n 1048576 (by decide)
 have h3 : (cutI x 1099511627776 * cutI n 1048576).natAbs ≤ 1099511627776 * 1048576 := by
  rw [Int.natAbs_mul]
  exact Nat.mul_le_mul (by omega) (by omega)
 omega
theorem add1_ok (x y : Int) : CallOK Tryz.prog 143 [ii x, ii y] [] (.ret (ii (addI x y))) [] := by
 have h1 := cutI_r x 1099511627776 (by decide)
 have h2 := cutI_r y 1099511627776 (by decide)
 refine cT (E := E) (fn := Tryz.f143) (g := .pure _) fun _ => ?_
 repeat' first | (refine gN hE rfl ?_; conv => whnf) | refine .pure _ [] (cut_ok _ _ (by decide) (by decide)) ?_ | exact rfl | refine aY ?_ | refine aN ?_ | refine aT (by omega) fun h => ?_ | refine aF (by omega) fun h => ?_ | refine ⟨fun h => ?_, fun h => ?_⟩ | refine aJ (by omega) (by omega) ?_ | refine ⟨_, rfl, ?_⟩ | refine ⟨by decide, ?_⟩ | refine ⟨by omega, ?_⟩ | fail
theorem sub1_ok (x y : Int) : CallOK Tryz.prog 179 [ii x, ii y] [] (.ret (ii (subI x y))) [] := by
 have h1 := cutI_r x 1099511627776 (by decide)
 have h2 := cutI_r y 1099511627776 (by decide)
 refine cT (E := E) (fn := Tryz.f179) (g := .pure _) fun _ => ?_
 repeat' first | (refine gN hE rfl ?_; conv => whnf) | refine .pure _ [] (cut_ok _ _ (by decide) (by decide)) ?_ | exact rfl | refine aY ?_ | refine aN ?_ | refine aT (by omega) fun h => ?_ | refine aF (by omega) fun h => ?_ | refine ⟨fun h => ?_, fun h => ?_⟩ | refine aJ (by omega) (by omega) ?_ | refine ⟨_, rfl, ?_⟩ | refine ⟨by decide, ?_⟩ | refine ⟨by omega, ?_⟩ | fail
theorem mul1_ok (x y n : Int) : CallOK Tryz.prog 186 [ii x, ii y, .ptr [ii n]] [] (.ret (ii (mulI x n))) [] := by
 have h1 := mul_r x n
 refine cT (E := E) (fn := Tryz.f186) (g := .pure _) fun _ => ?_
 repeat' first | (refine gN hE rfl ?_; conv => whnf) | refine .pure _ [] (cut_ok _ _ (by decide) (by decide)) ?_ | exact rfl | refine aY ?_ | refine aN ?_ | refine aT (by omega) fun h => ?_ | refine aF (by omega) fun h => ?_ | refine ⟨fun h => ?_, fun h => ?_⟩ | refine aJ (by omega) (by omega) ?_ | refine ⟨_, rfl, ?_⟩ | refine ⟨by decide, ?_⟩ | refine ⟨by omega, ?_⟩ | fail
def V3.map2 (op : Int → Int → Int) (a b : V3) : V3 := ⟨op a.a b.a, op a.b b.b, op a.c b.c⟩
theorem each_ok (f : FuncId) (op : Int → Int → Int) (a b : V3) (h : ∀ x y, CallOK Tryz.prog f [ii x, ii y] [] (.ret (ii (op x y))) []) : CallOK Tryz.prog 142 [a.av, b.av, .func (.func f) [] []] [] (.ret (V3.map2 op a b).av) [] := by
  refine cT (E := E) (fn := Tryz.f142) (g := .pure _) fun _ => ?_
  refine gW hE ?_; conv => whnf
  repeat' first
   | (refine gW hE ?_; conv => whnf)
   | refine .pure _ [] (h _ _) ?_
   | exact rfl
   | refine aY ?_
   | refine aN ?_
   | refine aJ (by omega) (by omega) ?_
   | refine Exists.intro _ (And.intro rfl ?_)
   | refine And.intro (by decide) ?_
theorem eachC_ok (f : FuncId) (op : Int → Int → Int) (n : Int) (a b : V3) (h : ∀ x y, CallOK Tryz.prog f [ii x, ii y, .ptr [ii n]] [] (.ret (ii (op x y))) []) : CallOK Tryz.prog 142 [a.av, b.av, .func (.func f) [] [.ptr [ii n]]] [] (.ret (V3.map2 op a b).av) [] := by
  refine cT (E := E) (fn := Tryz.f142) (g := .pure _) fun _ => ?_
  refine gW hE ?_; conv => whnf
  repeat' first
   | (refine gW hE ?_; conv => whnf)
   | refine .pure _ [] (h _ _) ?_
   | exact rfl
   | refine aY ?_
   | refine aN ?_
   | refine aJ (by omega) (by omega) ?_
   | refine Exists.intro _ (And.intro rfl ?_)
   | refine And.intro (by decide) ?_
def vadd (a b : V3) : V3 := V3.map2 addI a b
def vsub (a b : V3) : V3 := V3.map2 subI a b
def vmul (a : V3) (n : Int) : V3 := V3.map2 (fun x _ => mulI x n) a a
theorem vadd_ok (a b : V3) : CallOK Tryz.prog 94 [a.av, b.av] [] (.ret (vadd a b).av) [] := by
 refine cT (E := E) (fn := Tryz.f94) (g := .pure _) fun _ => ?_
 repeat' first | (refine gN hE rfl ?_; conv => whnf) | refine .pure _ [] (each_ok _ addI a b add1_ok) ?_ | exact rfl | refine aY ?_ | refine aN ?_ | refine aT (by omega) fun h => ?_ | refine aF (by omega) fun h => ?_ | refine ⟨fun h => ?_, fun h => ?_⟩ | refine aJ (by omega) (by omega) ?_ | refine ⟨_, rfl, ?_⟩ | refine ⟨by decide, ?_⟩ | refine ⟨by omega, ?_⟩ | fail
theorem vsub_ok (a b : V3) : CallOK Tryz.prog 156 [a.av, b.av] [] (.ret (vsub a b).av) [] := by
 refine cT (E := E) (fn := Tryz.f156) (g := .pure _) fun _ => ?_
 repeat' first | (refine gN hE rfl ?_; conv => whnf) | refine .pure _ [] (each_ok _ subI a b sub1_ok) ?_ | exact rfl | refine aY ?_ | refine aN ?_ | refine aT (by omega) fun h => ?_ | refine aF (by omega) fun h => ?_ | refine ⟨fun h => ?_, fun h => ?_⟩ | refine aJ (by omega) (by omega) ?_ | refine ⟨_, rfl, ?_⟩ | refine ⟨by decide, ?_⟩ | refine ⟨by omega, ?_⟩ | fail
theorem vmul_ok (a : V3) (n : Int) : CallOK Tryz.prog 167 [a.av, ii n] [] (.ret (vmul a n).av) [] := by
 refine cT (E := E) (fn := Tryz.f167) (g := .pure _) fun _ => ?_
 repeat' first | (refine gN hE rfl ?_; conv => whnf) | refine .pure _ [] (eachC_ok _ (fun x _ => mulI x n) n a a fun x y => mul1_ok x y n) ?_ | exact rfl | refine aY ?_ | refine aN ?_ | refine aT (by omega) fun h => ?_ | refine aF (by omega) fun h => ?_ | refine ⟨fun h => ?_, fun h => ?_⟩ | refine aJ (by omega) (by omega) ?_ | refine ⟨_, rfl, ?_⟩ | refine ⟨by decide, ?_⟩ | refine ⟨by omega, ?_⟩ | fail
def vfits (a b : V3) : Bool := if decide (b.a < a.a) = true then false else if decide (b.b < a.b) = true then false else if decide (b.c < a.c) = true then false else true
abbrev parF (n : Int) : AVal := .func (.func 141) [] [.ptr [ii n]]
theorem par_ok (x : Nod) (n : Int) : CallOK Tryz.prog 141 [x.av, .ptr [ii n]] [] (.ret (.bool (decide (x.p = n)))) [] := by
 refine cT (E := E) (fn := Tryz.f141) (g := .pure _) fun _ => ?_
 repeat' first | (refine gN hE rfl ?_; conv => whnf) | exact rfl | refine aY ?_ | refine aN ?_ | refine aT (by omega) fun h => ?_ | refine aF (by omega) fun h => ?_ | refine ⟨fun h => ?_, fun h => ?_⟩ | refine aJ (by omega) (by omega) ?_ | refine ⟨_, rfl, ?_⟩ | refine ⟨by decide, ?_⟩ | refine ⟨by omega, ?_⟩ | fail
def findP (n : Int) : List Nod → Nat → Int
 | [], _ => -1
 | x :: r, i => if decide (x.p = n) = true then (i : Int) else findP n r (i + 1)
noncomputable abbrev fIdxN : Func := Tryz.f170
theorem idxN_loop (l : List Nod) (n : Int) (hl : ((nav l).length : Int) ≤ 9223372036854775807) (r : Int) : ∀ (m i : Nat), i + m = l.length → findP n (l.drop i) i = r →
  To E fIdxN (.pure (.ret (ii r))) (.head (stk fIdxN 0) [(0, .slice 11 (nav l) .no), (1, parF n), (7, .int .i64 ((nav l).length : Nat)), (8, .int .i64 i)] []) := by
 have hlen : (nav l).length = l.length := by simp
 intro m
 induction m with
 | zero =>
  intro i hi hr
  rw [List.drop_eq_nil_of_le (by omega)] at hr
  subst hr
  refine gW hE ?_; conv => whnf
  refine aF (by omega) fun h => ?_
  repeat' first | (refine gN hE rfl ?_; conv => whnf) | exact rfl | refine aY ?_ | refine aN ?_ | refine aT (by omega) fun h => ?_ | refine aF (by omega) fun h => ?_ | refine ⟨fun h => ?_, fun h => ?_⟩ | refine aJ (by omega) (by omega) ?_ | refine ⟨_, rfl, ?_⟩ | refine ⟨by decide, ?_⟩ | refine ⟨by omega, ?_⟩ | fail
 | succ m ih =>
  intro i hi hr
  have hlt : i < l.length := by omega
  rw [List.drop_eq_getElem_cons hlt] at hr
  generalize hx : l[i] = x at hr
  have get : (nav l)[i]? = some x.av := (nav_get hlt).trans (by rw [hx])
  unfold findP at hr
  refine gW hE ?_; conv => whnf
  refine aT (by omega) fun h => ?_
  repeat' first | (refine gN hE rfl ?_; conv => whnf) | refine ⟨_, get, ?_⟩ | refine .pure _ [] (par_ok x n) ?_ | exact rfl | refine aY ?_ | refine aN ?_ | refine aT (by omega) fun h => ?_ | refine aF (by omega) fun h => ?_ | refine ⟨fun h => ?_, fun h => ?_⟩ | refine aJ (by omega) (by omega) ?_ | refine ⟨_, rfl, ?_⟩ | refine ⟨by decide, ?_⟩ | refine ⟨by omega, ?_⟩ | fail
  ·have h : decide (x.p = n) = true := h
   rw [if_pos h] at hr
   rw [← hr]
  ·have h : decide (x.p = n) = false := h
   rw [if_neg (by rw [h]; decide)] at hr
   refine To.head [0, 1, 7, 8] ?_
   exact ih (i + 1) (by omega) hr
theorem idxN_ok (l : List Nod) (n : Int) : CallOK Tryz.prog 170 [.slice 11 (nav l) .no, parF n] [] (.ret (ii (findP n l 0))) [] := by
 refine cT (E := E) (fn := Tryz.f170) (g := .pure _) fun ho => ?_
 have hl : ((nav l).length : Int) ≤ 9223372036854775807 := ho.1
 refine gW hE ?_; conv => whnf
 refine To.head [0, 1, 7, 8] ?_
 exact idxN_loop l n hl _ l.length 0 (by omega) rfl
theorem hasN_ok (l : List Nod) (n : Int) : CallOK Tryz.prog 140 [.slice 11 (nav l) .no, parF n] [] (.ret (.bool (decide (0 ≤ findP n l 0)))) [] := by
 refine cT (E := E) (fn := Tryz.f140) (g := .pure _) fun _ => ?_
 repeat' first | (refine gN hE rfl ?_; conv => whnf) | refine .pure _ [] (idxN_ok l n) ?_ | exact rfl | refine aY ?_ | refine aN ?_ | refine aT (by omega) fun h => ?_ | refine aF (by omega) fun h => ?_ | refine ⟨fun h => ?_, fun h => ?_⟩ | refine aJ (by omega) (by omega) ?_ | refine ⟨_, rfl, ?_⟩ | refine ⟨by decide, ?_⟩ | refine ⟨by omega, ?_⟩ | fail
def leafB (ns : List Nod) (n : Int) : Bool := if decide (0 ≤ n) = true then (if decide (n < (ns.length : Int)) = true then !decide (0 ≤ findP n ns 0) else false) else false
theorem leaf_any (c : Con) (n : Int) (r : Bool) (hr : leafB c.ns n = r) : CallOK Tryz.prog 93 [c.av, ii n] [] (.ret (.bool r)) [] := by
 have hlen : (nav c.ns).length = c.ns.length := by simp
 unfold leafB at hr
 refine cT (E := E) (fn := Tryz.f93) (g := .pure _) fun _ => ?_
 refine gW hE ?_; conv => whnf
 refine And.intro (fun h1 => ?_) (fun h1 => ?_)
 ·have h1 : decide (0 ≤ n) = true := h1
  rw [if_pos h1] at hr
  refine gW hE ?_; conv => whnf
  refine And.intro (fun h2 => ?_) (fun h2 => ?_)
  ·have h2 : decide (n < ((nav c.ns).length : Int)) = true := h2
   rw [hlen] at h2
   rw [if_pos h2] at hr
   repeat' first | (refine gN hE rfl ?_; conv => whnf) | refine .pure _ [] (hasN_ok c.ns n) ?_ | exact rfl | refine aY ?_ | refine aN ?_ | refine aT (by omega) fun h => ?_ | refine aF (by omega) fun h => ?_ | refine ⟨fun h => ?_, fun h => ?_⟩ | refine aJ (by omega) (by omega) ?_ | refine ⟨_, rfl, ?_⟩ | refine ⟨by decide, ?_⟩ | refine ⟨by omega, ?_⟩ | fail
   rw [← hr]
  ·have h2 : decide (n < ((nav c.ns).length : Int)) = false := h2
   rw [hlen] at h2
   rw [if_neg (by rw [h2]; decide)] at hr
   repeat' first | (refine gN hE rfl ?_; conv => whnf) | exact rfl | refine aY ?_ | refine aN ?_ | refine aT (by omega) fun h => ?_ | refine aF (by omega) fun h => ?_ | refine ⟨fun h => ?_, fun h => ?_⟩ | refine aJ (by omega) (by omega) ?_ | refine ⟨_, rfl, ?_⟩ | refine ⟨by decide, ?_⟩ | refine ⟨by omega, ?_⟩ | fail
   rw [← hr]
 ·have h1 : decide (0 ≤ n) = false := h1
  rw [if_neg (by rw [h1]; decide)] at hr
  repeat' first | (refine gN hE rfl ?_; conv => whnf) | exact rfl | refine aY ?_ | refine aN ?_ | refine aT (by omega) fun h => ?_ | refine aF (by omega) fun h => ?_ | refine ⟨fun h => ?_, fun h => ?_⟩ | refine aJ (by omega) (by omega) ?_ | refine ⟨_, rfl, ?_⟩ | refine ⟨by decide, ?_⟩ | refine ⟨by omega, ?_⟩ | fail
  rw [← hr]
theorem leaf_ok (c : Con) (n : Int) : CallOK Tryz.prog 93 [c.av, ii n] [] (.ret (.bool (leafB c.ns n))) [] := leaf_any c n _ rfl
inductive Ylds (P : Program) (l : Nat) : List Int → BInv → BInv → Bool → Prop
 | nil (I : BInv) : Ylds P l [] I I true
 | stop (x : Int) (r : List Int) (I I' : BInv) (h : CallOKF P (.yield l) [ii x] [.bun 0 I] (.ret (.bool false)) [.bun 1 I']) : Ylds P l (x :: r) I I' false
 | next (x : Int) (r : List Int) (I I1 I2 : BInv) (b : Bool) (h : CallOKF P (.yield l) [ii x] [.bun 0 I] (.ret (.bool true)) [.bun 1 I1]) (k : Ylds P l r I1 I2 b) : Ylds P l (x :: r) I I2 b
def upF (ns : List Nod) : Nat → Int → List Int
 | 0, _ => []
 | f + 1, n => if decide (0 ≤ n) = true then (if h : n.toNat < ns.length then (if decide (n ≤ (ns[n.toNat]).p) = true then [n] else n :: upF ns f (ns[n.toNat]).p) else []) else []
def upL (ns : List Nod) (n : Int) : List Int := upF ns (n.toNat + 1) n
noncomputable abbrev fUp1 : Func := Tryz.f185
theorem up1_loop (l : Nat) (c : Con) (hl : ((nav c.ns).length : Int) ≤ 9223372036854775807) (I' : BInv) (b : Bool) : ∀ (f : Nat) (n : Int), n < (f : Int) → ∀ (I : BInv), Ylds Tryz.prog l (upF c.ns f n) I I' b →
  ∃ m g', To E fUp1 (.full 2 (.ret (.tup [])) [.cells 3 [m], .bun g' I']) (.head (stk fUp1 0) [(0, .func (.yield l) [] []), (1, .ref 0 0), (2, .ptr c.cs)] [.cells 3 [ii n], .bun 1 I]) := by
 have hlen : (nav c.ns).length = c.ns.length := by simp
 intro f
 induction f with
 | zero =>
  intro n hf I hy
  have h1 : ¬ 0 ≤ n := by omega
  cases hy
  refine ⟨ii n, 1, ?_⟩
  refine gW hE ?_; conv => whnf
  repeat' first | (refine gN hE rfl ?_; conv => whnf) | (refine Exists.intro [] (Exists.intro [0, 1] (And.intro (And.intro rfl rfl) ?_)); exact And.intro rfl rfl) | exact rfl | refine aY ?_ | refine aN ?_ | refine aT (by omega) fun h => ?_ | refine aF (by omega) fun h => ?_ | refine ⟨fun h => ?_, fun h => ?_⟩ | refine aJ (by omega) (by omega) ?_ | refine ⟨_, rfl, ?_⟩ | refine ⟨by decide, ?_⟩ | refine ⟨by omega, ?_⟩ | fail
 | succ f ih0 =>
  intro n hf I hy
  have ih := fun (p : Int) (hp : ¬ n ≤ p) (I1 : BInv) (h1 : Ylds Tryz.prog l (upF c.ns f p) I1 I' b) => ih0 p (by omega) I1 h1
  unfold upF at hy
  by_cases h1 : 0 ≤ n
  ·rw [if_pos (decide_eq_true h1)] at hy
   by_cases h2 : n.toNat < c.ns.length
   ·rw [dif_pos h2] at hy
    generalize hx : c.ns[n.toNat] = x at hy
    have get : (nav c.ns)[n.toNat]? = some x.av := (nav_get h2).trans (by rw [hx])
    have hn : n = (n.toNat : Int) := by omega
    by_cases h3 : n ≤ x.p
    ·rw [if_pos (decide_eq_true h3)] at hy
     cases hy with
     | stop _ _ _ _ hyl =>
      refine ⟨ii n, 1, ?_⟩
      refine gW hE ?_; conv => whnf
      repeat' first | (refine gN hE rfl ?_; conv => whnf) | refine .eff [] [1] _ _ rfl hyl ?_ | (refine Exists.intro [] (Exists.intro [0, 1] (And.intro (And.intro rfl rfl) ?_)); exact And.intro rfl rfl) | exact rfl | refine aY ?_ | refine aN ?_ | refine aT (by omega) fun h => ?_ | refine aF (by omega) fun h => ?_ | refine ⟨fun h => ?_, fun h => ?_⟩ | refine aJ (by omega) (by omega) ?_ | refine ⟨_, rfl, ?_⟩ | refine ⟨by decide, ?_⟩ | refine ⟨by omega, ?_⟩ | fail
     | next _ _ _ I1 _ _ hyl hk =>
      cases hk
      refine ⟨ii n, 1, ?_⟩
      refine gW hE ?_; conv => whnf
      repeat' first | (refine gN hE rfl ?_; conv => whnf) | refine .eff [] [1] _ _ rfl hyl ?_ | refine ⟨n.toNat, hn, ?_⟩ | refine ⟨_, get, ?_⟩ | (refine Exists.intro [] (Exists.intro [0, 1] (And.intro (And.intro rfl rfl) ?_)); exact And.intro rfl rfl) | exact rfl | refine aY ?_ | refine aN ?_ | refine aT (by omega) fun h => ?_ | refine aF (by omega) fun h => ?_ | refine ⟨fun h => ?_, fun h => ?_⟩ | refine aJ (by omega) (by omega) ?_ | refine ⟨_, rfl, ?_⟩ | refine ⟨by decide, ?_⟩ | refine ⟨by omega, ?_⟩ | fail
    ·rw [if_neg (by rw [decide_eq_false h3]; decide)] at hy
     cases hy with
     | stop _ _ _ _ hyl =>
      refine ⟨ii n, 1, ?_⟩
      refine gW hE ?_; conv => whnf
      repeat' first | (refine gN hE rfl ?_; conv => whnf) | refine .eff [] [1] _ _ rfl hyl ?_ | (refine Exists.intro [] (Exists.intro [0, 1] (And.intro (And.intro rfl rfl) ?_)); exact And.intro rfl rfl) | exact rfl | refine aY ?_ | refine aN ?_ | refine aT (by omega) fun h => ?_ | refine aF (by omega) fun h => ?_ | refine ⟨fun h => ?_, fun h => ?_⟩ | refine aJ (by omega) (by omega) ?_ | refine ⟨_, rfl, ?_⟩ | refine ⟨by decide, ?_⟩ | refine ⟨by omega, ?_⟩ | fail
     | next _ _ _ I1 _ _ hyl hk =>
      obtain ⟨m, g', hto⟩ := ih x.p (by omega) _ hk
      refine ⟨m, g', ?_⟩
      refine gW hE ?_; conv => whnf
      repeat' first | (refine gN hE rfl ?_; conv => whnf) | refine .eff [] [1] _ _ rfl hyl ?_ | refine ⟨n.toNat, hn, ?_⟩ | refine ⟨_, get, ?_⟩ | (refine Exists.intro [] (Exists.intro [0, 1] (And.intro (And.intro rfl rfl) ?_)); exact And.intro rfl rfl) | exact rfl | refine aY ?_ | refine aN ?_ | refine aT (by omega) fun h => ?_ | refine aF (by omega) fun h => ?_ | refine ⟨fun h => ?_, fun h => ?_⟩ | refine aJ (by omega) (by omega) ?_ | refine ⟨_, rfl, ?_⟩ | refine ⟨by decide, ?_⟩ | refine ⟨by omega, ?_⟩ | fail
      refine To.part [0, 1, 2] [0, 1] rfl rfl rfl ?_
      exact hto
   ·rw [dif_neg h2] at hy
    cases hy
    refine ⟨ii n, 1, ?_⟩
    refine gW hE ?_; conv => whnf
    repeat' first | (refine gN hE rfl ?_; conv => whnf) | (refine Exists.intro [] (Exists.intro [0, 1] (And.intro (And.intro rfl rfl) ?_)); exact And.intro rfl rfl) | exact rfl | refine aY ?_ | refine aN ?_ | refine aT (by omega) fun h => ?_ | refine aF (by omega) fun h => ?_ | refine ⟨fun h => ?_, fun h => ?_⟩ | refine aJ (by omega) (by omega) ?_ | refine ⟨_, rfl, ?_⟩ | refine ⟨by decide, ?_⟩ | refine ⟨by omega, ?_⟩ | fail
  ·rw [if_neg (by rw [decide_eq_false h1]; decide)] at hy
   cases hy
   refine ⟨ii n, 1, ?_⟩
   refine gW hE ?_; conv => whnf
   repeat' first | (refine gN hE rfl ?_; conv => whnf) | (refine Exists.intro [] (Exists.intro [0, 1] (And.intro (And.intro rfl rfl) ?_)); exact And.intro rfl rfl) | exact rfl | refine aY ?_ | refine aN ?_ | refine aT (by omega) fun h => ?_ | refine aF (by omega) fun h => ?_ | refine ⟨fun h => ?_, fun h => ?_⟩ | refine aJ (by omega) (by omega) ?_ | refine ⟨_, rfl, ?_⟩ | refine ⟨by decide, ?_⟩ | refine ⟨by omega, ?_⟩ | fail
theorem up1_start (l : Nat) (c : Con) (n : Int) (I I' : BInv) (b : Bool) (hl : ((nav c.ns).length : Int) ≤ 9223372036854775807) (hy : Ylds Tryz.prog l (upL c.ns n) I I' b) :
  ∃ m g', To E fUp1 (.full 2 (.ret (.tup [])) [.cells 3 [m], .bun g' I']) (.head (stk fUp1 0) [(0, .func (.yield l) [] []), (1, .ref 0 0), (2, .ptr c.cs)] [.cells 3 [ii n], .bun 0 I]) := by
 have hlen : (nav c.ns).length = c.ns.length := by simp
 unfold upL at hy
 have ih := fun (p : Int) (hp : ¬ n ≤ p) (I1 : BInv) (h1 : Ylds Tryz.prog l (upF c.ns n.toNat p) I1 I' b) => up1_loop l c hl I' b n.toNat p (by omega) I1 h1
 unfold upF at hy
 by_cases h1 : 0 ≤ n
 ·rw [if_pos (decide_eq_true h1)] at hy
  by_cases h2 : n.toNat < c.ns.length
  ·rw [dif_pos h2] at hy
   generalize hx : c.ns[n.toNat] = x at hy
   have get : (nav c.ns)[n.toNat]? = some x.av := (nav_get h2).trans (by rw [hx])
   have hn : n = (n.toNat : Int) := by omega
   by_cases h3 : n ≤ x.p
   ·rw [if_pos (decide_eq_true h3)] at hy
    cases hy with
    | stop _ _ _ _ hyl =>
     refine ⟨ii n, 1, ?_⟩
     refine gW hE ?_; conv => whnf
     repeat' first | (refine gN hE rfl ?_; conv => whnf) | refine .eff [] [1] _ _ rfl hyl ?_ | (refine Exists.intro [] (Exists.intro [0, 1] (And.intro (And.intro rfl rfl) ?_)); exact And.intro rfl rfl) | exact rfl | refine aY ?_ | refine aN ?_ | refine aT (by omega) fun h => ?_ | refine aF (by omega) fun h => ?_ | refine ⟨fun h => ?_, fun h => ?_⟩ | refine aJ (by omega) (by omega) ?_ | refine ⟨_, rfl, ?_⟩ | refine ⟨by decide, ?_⟩ | refine ⟨by omega, ?_⟩ | fail
    | next _ _ _ I1 _ _ hyl hk =>
     cases hk
     refine ⟨ii n, 1, ?_⟩
     refine gW hE ?_; conv => whnf
     repeat' first | (refine gN hE rfl ?_; conv => whnf) | refine .eff [] [1] _ _ rfl hyl ?_ | refine ⟨n.toNat, hn, ?_⟩ | refine ⟨_, get, ?_⟩ | (refine Exists.intro [] (Exists.intro [0, 1] (And.intro (And.intro rfl rfl) ?_)); exact And.intro rfl rfl) | exact rfl | refine aY ?_ | refine aN ?_ | refine aT (by omega) fun h => ?_ | refine aF (by omega) fun h => ?_ | refine ⟨fun h => ?_, fun h => ?_⟩ | refine aJ (by omega) (by omega) ?_ | refine ⟨_, rfl, ?_⟩ | refine ⟨by decide, ?_⟩ | refine ⟨by omega, ?_⟩ | fail
   ·rw [if_neg (by rw [decide_eq_false h3]; decide)] at hy
    cases hy with
    | stop _ _ _ _ hyl =>
     refine ⟨ii n, 1, ?_⟩
     refine gW hE ?_; conv => whnf
     repeat' first | (refine gN hE rfl ?_; conv => whnf) | refine .eff [] [1] _ _ rfl hyl ?_ | (refine Exists.intro [] (Exists.intro [0, 1] (And.intro (And.intro rfl rfl) ?_)); exact And.intro rfl rfl) | exact rfl | refine aY ?_ | refine aN ?_ | refine aT (by omega) fun h => ?_ | refine aF (by omega) fun h => ?_ | refine ⟨fun h => ?_, fun h => ?_⟩ | refine aJ (by omega) (by omega) ?_ | refine ⟨_, rfl, ?_⟩ | refine ⟨by decide, ?_⟩ | refine ⟨by omega, ?_⟩ | fail
    | next _ _ _ I1 _ _ hyl hk =>
     obtain ⟨m, g', hto⟩ := ih x.p (by omega) _ hk
     refine ⟨m, g', ?_⟩
     refine gW hE ?_; conv => whnf
     repeat' first | (refine gN hE rfl ?_; conv => whnf) | refine .eff [] [1] _ _ rfl hyl ?_ | refine ⟨n.toNat, hn, ?_⟩ | refine ⟨_, get, ?_⟩ | (refine Exists.intro [] (Exists.intro [0, 1] (And.intro (And.intro rfl rfl) ?_)); exact And.intro rfl rfl) | exact rfl | refine aY ?_ | refine aN ?_ | refine aT (by omega) fun h => ?_ | refine aF (by omega) fun h => ?_ | refine ⟨fun h => ?_, fun h => ?_⟩ | refine aJ (by omega) (by omega) ?_ | refine ⟨_, rfl, ?_⟩ | refine ⟨by decide, ?_⟩ | refine ⟨by omega, ?_⟩ | fail
     refine To.part [0, 1, 2] [0, 1] rfl rfl rfl ?_
     exact hto
  ·rw [dif_neg h2] at hy
   cases hy
   refine ⟨ii n, 0, ?_⟩
   refine gW hE ?_; conv => whnf
   repeat' first | (refine gN hE rfl ?_; conv => whnf) | (refine Exists.intro [] (Exists.intro [0, 1] (And.intro (And.intro rfl rfl) ?_)); exact And.intro rfl rfl) | exact rfl | refine aY ?_ | refine aN ?_ | refine aT (by omega) fun h => ?_ | refine aF (by omega) fun h => ?_ | refine ⟨fun h => ?_, fun h => ?_⟩ | refine aJ (by omega) (by omega) ?_ | refine ⟨_, rfl, ?_⟩ | refine ⟨by decide, ?_⟩ | refine ⟨by omega, ?_⟩ | fail
 ·rw [if_neg (by rw [decide_eq_false h1]; decide)] at hy
  cases hy
  refine ⟨ii n, 0, ?_⟩
  refine gW hE ?_; conv => whnf
  repeat' first | (refine gN hE rfl ?_; conv => whnf) | (refine Exists.intro [] (Exists.intro [0, 1] (And.intro (And.intro rfl rfl) ?_)); exact And.intro rfl rfl) | exact rfl | refine aY ?_ | refine aN ?_ | refine aT (by omega) fun h => ?_ | refine aF (by omega) fun h => ?_ | refine ⟨fun h => ?_, fun h => ?_⟩ | refine aJ (by omega) (by omega) ?_ | refine ⟨_, rfl, ?_⟩ | refine ⟨by decide, ?_⟩ | refine ⟨by omega, ?_⟩ | fail
theorem up1_ok (l : Nat) (c : Con) (n : Int) (I I' : BInv) (b : Bool) (hl : ((nav c.ns).length : Int) ≤ 9223372036854775807) (hy : Ylds Tryz.prog l (upL c.ns n) I I' b) : ∃ m g', CallOK Tryz.prog 185 [.func (.yield l) [] [], .ref 0 0, .ptr c.cs] [.cells 3 [ii n], .bun 0 I] (.ret (.tup [])) [.cells 3 [m], .bun g' I'] := by
 obtain ⟨m, g', h⟩ := up1_start l c n I I' b hl hy
 refine ⟨m, g', ?_⟩
 refine cT (E := E) (fn := Tryz.f185) (g := .full 2 _ _) fun _ => ?_
 refine gW hE ?_; conv => whnf
 refine To.head [0, 1, 2] ?_
 exact h
theorem up_ok (c : Con) (n : Int) : CallOK Tryz.prog 165 [c.av, ii n] [] (.ret (.func (.func 185) [] [.ref 0 0, .ptr c.cs])) [.cells 3 [ii n]] := by
 refine cT (E := E) (fn := Tryz.f165) (g := .full 0 _ _) fun _ => ?_
 refine gW hE ?_; conv => whnf
 refine ⟨[0], [1], ⟨rfl, rfl⟩, ?_⟩
 exact ⟨rfl, rfl⟩
abbrev Led := List (Int × V3)
def led (L : Led) : List (List Int × AVal) := L.map fun p => ([p.1], p.2.av)
def lgetO : Led → Int → Option V3
 | [], _ => none
 | (k, v) :: r, n => if k = n then some v else lgetO r n
def lput : Led → Int → V3 → Led
 | [], n, v => [(n, v)]
 | (k, w) :: r, n, v => if k = n then (n, v) :: r else (k, w) :: lput r n v
def ldel : Led → Int → Led
 | [], _ => []
 | (k, w) :: r, n => if k = n then r else (k, w) :: ldel r n
theorem led_find (n : Int) : ∀ (L : Led), mfind (led L) [n] = (lgetO L n).map V3.av
 | [] => rfl
 | (k, v) :: r => by
  have := led_find n r
  simp only [led, List.map_cons, mfind, lgetO, List.cons.injEq, and_true] at this ⊢
  split
  ·rfl
  ·exact this
theorem led_put (n : Int) (v : V3) : ∀ (L : Led), mput (led L) [n] v.av = led (lput L n v)
 | [] => rfl
 | (k, w) :: r => by
  have := led_put n v r
  simp only [led, List.map_cons, mput, lput, List.cons.injEq, and_true] at this ⊢
  split
  ·rfl
  ·rw [this]; rfl
theorem led_del (n : Int) : ∀ (L : Led), mdel (led L) [n] = led (ldel L n)
 | [] => rfl
 | (k, w) :: r => by
  have := led_del n r
  simp only [led, List.map_cons, mdel, ldel, List.cons.injEq, and_true] at this ⊢
  split
  ·rfl
  ·rw [this]; rfl
def lgetV (L : Led) (n : Int) : V3 := (lgetO L n).getD V3.zero
def isZ (v : V3) : Bool := (v.a == 0) && ((v.b == 0) && ((v.c == 0) && true))
def lset (L : Led) (n : Int) (v : V3) : Led := if isZ v = true then ldel L n else lput L n v
abbrev ledC (c : Con) : List AVal := [.slice 11 (nav c.ns) .no, .slice 6 (hav c.hs) .no, ii c.half, ii c.age, .mref 1]
theorem put_any (c : Con) (n : Int) (v : V3) (L L' : Led) (hL : lset L n v = L') : CallOK Tryz.prog 166 [.ref 0 0, ii n, v.av] [.cells 204 (ledC c), .mp false (led L)] (.ret (.tup [])) [.cells 204 (ledC c), .mp false (led L')] := by
 unfold lset at hL
 refine cT (E := E) (fn := Tryz.f166) (g := .full 2 _ _) fun _ => ?_
 refine gW hE ?_; conv => whnf
 refine And.intro (fun h1 => ?_) (fun h1 => ?_)
 ·have h1 : isZ v = true := h1
  rw [if_pos h1] at hL
  refine gW hE ?_; conv => whnf
  refine ⟨[], [0, 1], ⟨rfl, rfl⟩, ?_⟩
  refine ⟨rfl, ?_⟩
  show [AObj.cells _ _, AObj.mp false (mdel (led L) [n])] = _
  rw [led_del, hL]
 ·have h1 : isZ v = false := h1
  rw [if_neg (by rw [h1]; decide)] at hL
  refine gW hE ?_; conv => whnf
  refine ⟨[], [0, 1], ⟨rfl, rfl⟩, ?_⟩
  refine ⟨rfl, ?_⟩
  show [AObj.cells _ _, AObj.mp false (mput (led L) [n] v.av)] = _
  rw [led_put, hL]
theorem put_ok (c : Con) (n : Int) (v : V3) (L : Led) : CallOK Tryz.prog 166 [.ref 0 0, ii n, v.av] [.cells 204 (ledC c), .mp false (led L)] (.ret (.tup [])) [.cells 204 (ledC c), .mp false (led (lset L n v))] := put_any c n v L _ rfl
theorem ylds_all {α : Type} {P : Program} {l : Nat} (F : α → BInv) (st : α → Int → α) (h : ∀ a x, CallOKF P (.yield l) [ii x] [.bun 0 (F a)] (.ret (.bool true)) [.bun 1 (F (st a x))]) : ∀ (xs : List Int) (a : α), Ylds P l xs (F a) (F (xs.foldl st a)) true
 | [], a => .nil _
 | x :: r, a => .next x r _ _ _ _ (h a x) (ylds_all F st h r (st a x))
def chgS (v : V3) (L : Led) (x : Int) : Led := lset L x (vadd (lgetV L x) v)
noncomputable abbrev fChg : Func := Tryz.f136
def chFr (c : Con) : List (Nat × AVal) := [(4, .ref 2 0), (6, .ref 3 0), (7, .ref 4 0), (22, .func (.func 185) [] [.ref 5 0, .ptr c.cs])]
def chObs (c : Con) (v : V3) (L : Led) (o : AObj) : List AObj := [.cells 204 (ledC c), .mp false (led L), .cells 179 [.ref 0 0], .cells 57 v.cs, .cells 107 [.func (.func 94) [] []], .dead, o]
theorem ch_round (c : Con) (v : V3) (L : Led) (x : Int) (l : Nat) (R : Loop) (hr : R.state = .ready) :
  To (El l [] [] []) fChg (.keep 7 (.ret (.bool true)) (chObs c v (chgS v L x) (.bun 0 (recI l { R with state := .busy })))) (.code [.code (rfA fChg), .beginR, .code (rfB fChg)] (putS (chFr c) 23 (ii x)) (chObs c v L (.bun 0 (recI l R)))) := by
 refine gW (hEl l [] [] []) ?_; conv => whnf
 refine To.beginR (k := 6) (gg := 0) rfl rfl hr ?_
 have hf := led_find x L
 unfold chgS lgetV
 cases hv : lgetO L x with
 | none =>
  rw [hv] at hf
  have hf : mfind (led L) [x] = none := hf
  refine gW (hEl l [] [] []) ?_; conv => whnf
  refine ⟨none, hf, ?_⟩
  refine gW (hEl l [] [] []) ?_; conv => whnf
  refine .pure _ [] (vadd_ok V3.zero v) ?_
  refine gW (hEl l [] [] []) ?_; conv => whnf
  refine .sole rfl (.eff [] [0, 1] _ _ rfl (put_ok c x _ L) ?_)
  refine gW (hEl l [] [] []) ?_; conv => whnf
  exact ⟨⟨rfl, rfl⟩, ⟨rfl, rfl⟩⟩
 | some u =>
  rw [hv] at hf
  have hf : mfind (led L) [x] = some u.av := hf
  refine gW (hEl l [] [] []) ?_; conv => whnf
  refine ⟨some u.av, hf, ?_⟩
  refine gW (hEl l [] [] []) ?_; conv => whnf
  refine .pure _ [] (vadd_ok u v) ?_
  refine gW (hEl l [] [] []) ?_; conv => whnf
  refine .sole rfl (.eff [] [0, 1] _ _ rfl (put_ok c x _ L) ?_)
  refine gW (hEl l [] [] []) ?_; conv => whnf
  exact ⟨⟨rfl, rfl⟩, ⟨rfl, rfl⟩⟩
theorem change_any (c : Con) (t : Int) (v : V3) (L L' : Led) (e : Int) (hb : leafB c.ns t = true → L' = (upL c.ns t).foldl (chgS v) L ∧ e = 0) (hn : leafB c.ns t = false → L' = L ∧ e = 3) (hl : ((nav c.ns).length : Int) ≤ 9223372036854775807) :
  CallOK Tryz.prog 136 [.ref 0 0, ii t, v.av, .func (.func 94) [] []] [.cells 204 (ledC c), .mp false (led L)] (.ret (ii e)) [.cells 204 (ledC c), .mp false (led L')] := by
 refine cT (E := E) (fn := Tryz.f136) (g := .full 2 _ _) fun _ => ?_
 refine gW hE ?_; conv => whnf
 refine .pure _ [] (leaf_ok c t) ?_
 refine gW hE ?_; conv => whnf
 refine And.intro (fun h1 => ?_) (fun h1 => ?_)
 ·have h1 : leafB c.ns t = false := not_t h1
  obtain ⟨rfl, rfl⟩ := hn h1
  refine gW hE ?_; conv => whnf
  refine ⟨[], [0, 1], ⟨rfl, rfl⟩, ⟨rfl, rfl⟩⟩
 ·have h1 : leafB c.ns t = true := not_f h1
  obtain ⟨rfl, rfl⟩ := hb h1
  refine gW hE ?_; conv => whnf
  refine .pure _ [.cells 3 [ii t]] (up_ok c t) ?_
  refine gW hE ?_; conv => whnf
  refine To.cutC [4, 6, 7, 22] 6 rfl rfl rfl rfl ?_
  refine To.range [5] rfl rfl (fun _ _ => by rfl) rfl (fun _ _ => rfl) rfl fun l ob0 R _ hR => ?_
  obtain ⟨m, g', hup⟩ := up1_ok l c t _ _ true hl (ylds_all (P := Tryz.prog) (l := l) (fun L => cliI ob0 (chFr c) R (chObs c v L (.bun 0 (recI l R)))) (chgS v) (fun L x => yield_ok (E := Ex [] [] []) (fn := fChg) (k := 6) (n := 7) (p := 23) (gg := 0) (L' := chObs c v (chgS v L x) (.bun 0 (recI l { R with state := .busy }))) (b := true) hR.params hR.ready hR.pend hR.assign hR.body hR.size rfl rfl rfl rfl rfl rfl rfl fun _ => ch_round c v L x l R hR.ready) (upL c.ns t) L)
  refine ⟨_, true, _, [.cells 3 [m]], g', hup, rfl, rfl, ?_⟩
  refine gW hE ?_; conv => whnf
  refine ⟨[], [0, 1], ⟨rfl, rfl⟩, ⟨rfl, rfl⟩⟩
structure Con.sm (c : Con) : Prop where
 ns : c.ns.length ≤ 1048576
 hs : c.hs.length ≤ 1048576
theorem new_ok (c : Con) (hc : c.sm) : CallOK Tryz.prog 135 [c.av] [] (.ret (.ref 0 0)) [.cells 204 (ledC c), .mp false (led [])] := by
 have h1 := hc.ns
 have hlen : (nav c.ns).length = c.ns.length := by simp
 refine cT (E := E) (fn := Tryz.f135) (g := .full 0 _ _) fun _ => ?_
 refine gW hE ?_; conv => whnf
 refine And.intro (And.intro (by simp only [maxLen]; omega) (by omega)) ?_
 refine gW hE ?_; conv => whnf
 refine ⟨[], [3, 2], ⟨rfl, rfl⟩, ⟨rfl, rfl⟩⟩
def fillL (f : Nat → V3) (i m : Nat) : List V3 := (List.range i).map f ++ List.replicate m V3.zero
theorem fill_len (f : Nat → V3) (i m : Nat) : (fillL f i m).length = i + m := by simp [fillL]
theorem fill_set (f : Nat → V3) (i m : Nat) : (vav (fillL f i (m + 1))).set i (f i).av = vav (fillL f (i + 1) m) := by
 have h1 : (List.range i).length = i := by simp
 unfold fillL vav
 rw [List.range_succ, List.map_append, List.map_append, List.map_append, List.replicate_succ, List.map_cons]
 rw [List.set_append_right _ _ (by simp)]
 simp
theorem fill_end (f : Nat → V3) (n : Nat) : fillL f n 0 = (List.range n).map f := by simp [fillL]
theorem fill_zero (f : Nat → V3) (n : Nat) : vav (fillL f 0 n) = List.replicate n (AVal.agg [ii 0, ii 0, ii 0]) := by simp [fillL, vav, V3.av, V3.zero, V3.cs]
noncomputable abbrev fAll : Func := Tryz.f138
abbrev ledO (c : Con) (L : Led) : List AObj := [.cells 204 (ledC c), .mp false (led L)]
def allL (n : Nat) (L : Led) : List V3 := (List.range n).map fun i : Nat => lgetV L (i : Int)
theorem all_loop (c : Con) (L : Led) (hN : c.ns.length ≤ 1048576) (K : Int) (hK : K = (c.ns.length : Nat)) : ∀ (m i : Nat), i + m = c.ns.length →
  To E fAll (.full 2 (.ret (.slice 3 (vav (allL c.ns.length L)) .no)) (ledO c L)) (.head (stk fAll 0) [(0, .ref 0 0), (3, .row 2 0), (15, .int .i64 K), (16, .int .i64 i)] [.cells 204 (ledC c), .mp false (led L), .row 0 3 57 (vav (fillL (fun i : Nat => lgetV L (i : Int)) i m))]) := by
 intro m
 induction m with
 | zero =>
  intro i hi
  have e : fillL (fun i : Nat => lgetV L (i : Int)) i 0 = allL c.ns.length L := by rw [fill_end]; unfold allL; rw [← hi]; rfl
  rw [e]
  refine gW hE ?_; conv => whnf
  refine aF (by omega) fun h => ?_
  refine gW hE ?_; conv => whnf
  refine ⟨[2], [0, 1], ⟨rfl, rfl⟩, ⟨rfl, rfl⟩⟩
 | succ m ih =>
  intro i hi
  have hl : (vav (fillL (fun i : Nat => lgetV L (i : Int)) i (m + 1))).length = i + (m + 1) := by rw [List.length_map, fill_len]
  have hs := fill_set (fun i : Nat => lgetV L (i : Int)) i m
  have hf := led_find (i : Int) L
  have next := ih (i + 1) (by omega)
  rw [← hs] at next
  unfold lgetV at next
  refine gW hE ?_; conv => whnf
  refine aT (by omega) fun h => ?_
  cases hv : lgetO L (i : Int) with
  | none =>
   rw [hv] at hf next
   have hf : mfind (led L) [(i : Int)] = none := hf
   refine gW hE ?_; conv => whnf
   refine ⟨none, hf, ?_⟩
   refine gW hE ?_; conv => whnf
   refine ⟨i, rfl, ?_⟩
   refine gW hE ?_; conv => whnf
   refine ⟨by omega, ?_⟩
   refine gW hE ?_; conv => whnf
   refine ⟨by omega, ?_⟩
   refine gW hE ?_; conv => whnf
   refine aJ (by omega) (by omega) ?_
   refine gW hE ?_; conv => whnf
   exact To.head [0, 3, 15, 16] next
  | some u =>
   rw [hv] at hf next
   have hf : mfind (led L) [(i : Int)] = some u.av := hf
   refine gW hE ?_; conv => whnf
   refine ⟨some u.av, hf, ?_⟩
   refine gW hE ?_; conv => whnf
   refine ⟨i, rfl, ?_⟩
   refine gW hE ?_; conv => whnf
   refine ⟨by omega, ?_⟩
   refine gW hE ?_; conv => whnf
   refine ⟨by omega, ?_⟩
   refine gW hE ?_; conv => whnf
   refine aJ (by omega) (by omega) ?_
   refine gW hE ?_; conv => whnf
   exact To.head [0, 3, 15, 16] next
theorem all_ok (c : Con) (L : Led) (hc : c.sm) : CallOK Tryz.prog 138 [.ref 0 0] (ledO c L) (.ret (.slice 3 (vav (allL c.ns.length L)) .no)) (ledO c L) := by
 have h1 := hc.ns
 have hlen : (nav c.ns).length = c.ns.length := by simp
 refine cT (E := E) (fn := Tryz.f138) (g := .full 2 _ _) fun _ => ?_
 refine gW hE ?_; conv => whnf
 refine aN ?_
 refine gW hE ?_; conv => whnf
 refine ⟨c.ns.length, by rw [hlen], ?_⟩
 refine gW hE ?_; conv => whnf
 refine ⟨⟨rfl, by omega, by simp only [maxLen]; omega⟩, ?_⟩
 refine gW hE ?_; conv => whnf
 have next := all_loop c L h1 ((List.replicate c.ns.length (AVal.agg [ii 0, ii 0, ii 0])).length : Nat) (by rw [List.length_replicate]) c.ns.length 0 (by omega)
 rw [fill_zero] at next
 exact To.head [0, 3, 15, 16] next
def dem (g : Gan) : V3 := vmul g.need g.pods
theorem dem_ok (g : Gan) : CallOK Tryz.prog 137 [g.av] [] (.ret (dem g).av) [] := by
 refine cT (E := E) (fn := Tryz.f137) (g := .pure _) fun _ => ?_
 repeat' first | (refine gN hE rfl ?_; conv => whnf) | refine .pure _ [] (vmul_ok g.need g.pods) ?_ | exact rfl | refine aY ?_ | refine aN ?_ | refine aT (by omega) fun h => ?_ | refine aF (by omega) fun h => ?_ | refine ⟨fun h => ?_, fun h => ?_⟩ | refine aJ (by omega) (by omega) ?_ | refine ⟨_, rfl, ?_⟩ | refine ⟨by decide, ?_⟩ | refine ⟨by omega, ?_⟩ | fail
def ofStep (c : Con) (L : Led) (x : Rn) : Led := if leafB c.ns x.g.ten = true then (upL c.ns x.g.ten).foldl (chgS (dem x.g)) L else L
def ofL (c : Con) (l : List Rn) : List V3 := allL c.ns.length (l.foldl (ofStep c) [])
theorem change_ok (c : Con) (t : Int) (v : V3) (L : Led) (hc : c.sm) : CallOK Tryz.prog 136 [.ref 0 0, ii t, v.av, .func (.func 94) [] []] (ledO c L) (.ret (ii (if leafB c.ns t = true then 0 else 3))) (ledO c (if leafB c.ns t = true then (upL c.ns t).foldl (chgS v) L else L)) :=
 change_any c t v L _ _ (fun h => ⟨if_pos h, if_pos h⟩) (fun h => ⟨if_neg (by rw [h]; decide), if_neg (by rw [h]; decide)⟩) (by have := hc.ns; simp only [List.length_map]; omega)
noncomputable abbrev fOf : Func := Tryz.f91
theorem of_loop (c : Con) (hc : c.sm) (l : List Rn) (hl : l.length ≤ 1048576) (R : List V3) : ∀ (m i : Nat) (L : Led), i + m = l.length → allL c.ns.length ((l.drop i).foldl (ofStep c) L) = R →
  To E fOf (.pure (.ret (.slice 3 (vav R) .no))) (.head (stk fOf 0) [(5, .ref 1 0), (10, .slice 14 (rav l) .no), (11, .int .i64 ((rav l).length : Nat)), (12, .int .i64 i)] [.cells 26 c.cs, .cells 204 [.slice 11 (nav c.ns) .no, .slice 6 (hav c.hs) .no, ii c.half, ii c.age, .mref 2], .mp false (led L)]) := by
 have hlen : (rav l).length = l.length := by simp
 intro m
 induction m with
 | zero =>
  intro i L hi hR
  rw [List.drop_eq_nil_of_le (by omega)] at hR
  subst hR
  refine gW hE ?_; conv => whnf
  refine aF (by omega) fun h => ?_
  refine gW hE ?_; conv => whnf
  refine .eff [] [1, 2] _ _ rfl (all_ok c L hc) ?_
  repeat' first | (refine gN hE rfl ?_; conv => whnf) | exact rfl | refine aY ?_ | refine aN ?_ | refine aT (by omega) fun h => ?_ | refine aF (by omega) fun h => ?_ | refine ⟨fun h => ?_, fun h => ?_⟩ | refine aJ (by omega) (by omega) ?_ | refine ⟨_, rfl, ?_⟩ | refine ⟨by decide, ?_⟩ | refine ⟨by omega, ?_⟩ | fail
 | succ m ih =>
  intro i L hi hR
  have hlt : i < l.length := by omega
  rw [List.drop_eq_getElem_cons hlt, List.foldl_cons] at hR
  generalize hx : l[i] = x at hR
  have get : (rav l)[i]? = some x.av := (rav_get hlt).trans (by rw [hx])
  have next := ih (i + 1) (ofStep c L x) (by omega) hR
  refine gW hE ?_; conv => whnf
  refine aT (by omega) fun h => ?_
  refine gW hE ?_; conv => whnf
  refine ⟨i, rfl, ?_⟩
  refine gW hE ?_; conv => whnf
  refine ⟨_, get, ?_⟩
  refine gW hE ?_; conv => whnf
  refine .pure _ [] (dem_ok x.g) ?_
  refine gW hE ?_; conv => whnf
  refine .sole rfl (.eff [] [1, 2] _ _ rfl (change_ok c x.g.ten (dem x.g) L hc) ?_)
  refine gW hE ?_; conv => whnf
  refine aJ (by omega) (by omega) ?_
  refine gW hE ?_; conv => whnf
  exact To.cut [5, 10, 11, 12] 3 rfl rfl rfl rfl next
theorem of_ok (c : Con) (hc : c.sm) (l : List Rn) (hl : l.length ≤ 1048576) : CallOK Tryz.prog 91 [c.av, .slice 14 (rav l) .no] [] (.ret (.slice 3 (vav (ofL c l)) .no)) [] := by
 refine cT (E := E) (fn := Tryz.f91) (g := .pure _) fun _ => ?_
 refine gW hE ?_; conv => whnf
 refine .pure _ [_, _] (new_ok c hc) ?_
 refine gW hE ?_; conv => whnf
 exact To.cut [5, 10, 11, 12] 3 rfl rfl rfl rfl (of_loop c hc l hl _ l.length 0 [] (by omega) rfl)
def lvF (ns : List Nod) : Nat → Nat → List Int
 | 0, _ => []
 | m + 1, i => if leafB ns (i : Int) = true then (i : Int) :: lvF ns m (i + 1) else lvF ns m (i + 1)
def leavesL (ns : List Nod) : List Int := lvF ns ns.length 0
theorem lvF_len (ns : List Nod) : ∀ (m i : Nat), (lvF ns m i).length ≤ m
 | 0, _ => by simp [lvF]
 | m + 1, i => by
  have := lvF_len ns m (i + 1)
  unfold lvF
  split
  ·simp; omega
  ·omega
noncomputable abbrev fLvs : Func := Tryz.f188
theorem lvs_loop (c : Con) (hc : c.sm) (R : List Int) : ∀ (m i : Nat) (acc : List Int), i + m = c.ns.length → acc.length ≤ i → acc ++ lvF c.ns m i = R →
  To (Eo [3] []) fLvs (.pure (.ret (.slice 1 (iv R) .no))) (.head (stk fLvs 0) [(1, .ref 0 0), (3, .slice 1 (iv acc) (.own 1 0)), (7, .int .i64 ((nav c.ns).length : Nat)), (8, .int .i64 i)] [.cells 26 c.cs, .tail 0 1 3]) := by
 have hlen : (nav c.ns).length = c.ns.length := by simp
 have h1 := hc.ns
 intro m
 induction m with
 | zero =>
  intro i acc hi ha hR
  unfold lvF at hR
  rw [List.append_nil] at hR
  subst hR
  refine gW (hEo [3] []) ?_; conv => whnf
  refine aF (by omega) fun h => ?_
  repeat' first | (refine gN (hEo [3] []) rfl ?_; conv => whnf) | exact rfl | refine aY ?_ | refine aN ?_ | refine aT (by omega) fun h => ?_ | refine aF (by omega) fun h => ?_ | refine ⟨fun h => ?_, fun h => ?_⟩ | refine aJ (by omega) (by omega) ?_ | refine ⟨_, rfl, ?_⟩ | refine ⟨by decide, ?_⟩ | refine ⟨by omega, ?_⟩ | fail
 | succ m ih =>
  intro i acc hi ha hR
  have hla : (iv acc).length = acc.length := by simp
  unfold lvF at hR
  refine gW (hEo [3] []) ?_; conv => whnf
  refine aT (by omega) fun h => ?_
  refine gW (hEo [3] []) ?_; conv => whnf
  refine .pure _ [] (leaf_ok c i) ?_
  refine gW (hEo [3] []) ?_; conv => whnf
  refine And.intro (fun h2 => ?_) (fun h2 => ?_)
  ·have h2 : leafB c.ns (i : Int) = true := h2
   rw [if_pos h2] at hR
   have next := ih (i + 1) (acc ++ [(i : Int)]) (by omega) (by simp; omega) (by rw [List.append_assoc]; exact hR)
   have e : iv (acc ++ [(i : Int)]) = iv acc ++ [ii i] := by simp
   rw [e] at next
   refine gW (hEo [3] []) ?_; conv => whnf
   refine ⟨⟨by simp only [maxLen]; simp; omega, by simp; omega⟩, ?_⟩
   refine gW (hEo [3] []) ?_; conv => whnf
   refine aJ (by omega) (by omega) ?_
   refine gW (hEo [3] []) ?_; conv => whnf
   refine To.part [1, 3, 7, 8] [0, 1] rfl rfl rfl ?_
   exact next
  ·have h2 : leafB c.ns (i : Int) = false := h2
   rw [if_neg (by rw [h2]; decide)] at hR
   have next := ih (i + 1) acc (by omega) (by omega) hR
   refine gW (hEo [3] []) ?_; conv => whnf
   refine aJ (by omega) (by omega) ?_
   refine gW (hEo [3] []) ?_; conv => whnf
   refine To.part [1, 3, 7, 8] [0, 1] rfl rfl rfl ?_
   exact next
theorem lvs_ok (c : Con) (hc : c.sm) : CallOK Tryz.prog 188 [c.av] [] (.ret (.slice 1 (iv (leavesL c.ns)) .no)) [] := by
 refine cT (E := (Eo [3] [])) (fn := Tryz.f188) (g := .pure _) fun _ => ?_
 refine gW (hEo [3] []) ?_; conv => whnf
 refine To.part [1, 3, 7, 8] [0, 1] rfl rfl rfl ?_
 exact lvs_loop c hc _ c.ns.length 0 [] (by omega) (by simp) rfl
theorem upF_le (ns : List Nod) : ∀ (f : Nat) (n x : Int), x ∈ upF ns f n → x ≤ n
 | 0, n, x, h => by simp [upF] at h
 | f + 1, n, x, h => by
  unfold upF at h
  split at h
  ·split at h
   ·split at h
    ·simp at h; omega
    ·rename_i h3
     rcases List.mem_cons.1 h with rfl | h
     ·omega
     ·have := upF_le ns f _ x h
      have : ¬ n ≤ (ns[n.toNat]).p := fun h4 => h3 (decide_eq_true h4)
      omega
   ·simp at h
  ·simp at h
theorem upF_pw (ns : List Nod) : ∀ (f : Nat) (n : Int), (upF ns f n).Pairwise fun a b => b < a
 | 0, n => by simp [upF]
 | f + 1, n => by
  unfold upF
  split
  ·split
   ·split
    ·simp
    ·rename_i h3
     refine List.pairwise_cons.2 ⟨fun x hx => ?_, upF_pw ns f _⟩
     have := upF_le ns f _ x hx
     have : ¬ n ≤ (ns[n.toNat]).p := fun h4 => h3 (decide_eq_true h4)
     omega
   ·simp
  ·simp
def hitL (ns : List Nod) (n t : Int) : List Int := if n ∈ upL ns t then [t] else []
def belowL (ns : List Nod) (n : Int) : List Int := (leavesL ns).flatMap (hitL ns n)
noncomputable abbrev fTen : Func := Tryz.f187
def tnFr (c : Con) (n : Int) (lv : List Int) (i K : Int) : List (Nat × AVal) := [(1, .ptr c.cs), (2, .ptr [ii n]), (3, .ref 1 0), (5, .ref 2 0), (8, .slice 1 (iv lv) .no), (9, .int .i64 K), (10, .int .i64 i), (16, .func (.func 185) [] [.ref 3 0, .ptr c.cs])]
def tnObs (l : Nat) (t : Int) (G : Nat) (I : BInv) (o : AObj) : List AObj := [.bun G I, .cells 201 [.func (.yield l) [] []], .cells 3 [ii t], .dead, o]
abbrev busy (R : Loop) : Loop := { R with state := .busy }
theorem tn_skip (c : Con) (n t x i K : Int) (lv : List Int) (l l2 G : Nat) (I : BInv) (R : Loop) (hr : R.state = .ready) (hx : x ≠ n) :
  To (El l2 [] [] []) fTen (.keep 5 (.ret (.bool true)) (tnObs l t G I (.bun 0 (recI l2 (busy R))))) (.code [.code (rfA fTen), .beginR, .code (rfB fTen)] (putS (tnFr c n lv i K) 17 (ii x)) (tnObs l t G I (.bun 0 (recI l2 R)))) := by
 refine gW (hEl l2 [] [] []) ?_; conv => whnf
 refine To.beginR (k := 4) (gg := 0) rfl rfl hr ?_
 refine gW (hEl l2 [] [] []) ?_; conv => whnf
 refine And.intro (fun h => absurd (of_decide_eq_true h) hx) (fun h => ?_)
 repeat' first | (refine gN (hEl l2 [] [] []) rfl ?_; conv => whnf) | exact ⟨⟨rfl, rfl⟩, ⟨rfl, rfl⟩⟩ | exact rfl | refine aY ?_ | refine aN ?_ | refine aT (by omega) fun h => ?_ | refine aF (by omega) fun h => ?_ | refine ⟨fun h => ?_, fun h => ?_⟩ | refine aJ (by omega) (by omega) ?_ | refine ⟨_, rfl, ?_⟩ | refine ⟨by decide, ?_⟩ | refine ⟨by omega, ?_⟩ | fail
theorem tn_hit (c : Con) (n t i K : Int) (lv : List Int) (l l2 G : Nat) (I I1 : BInv) (R : Loop) (hr : R.state = .ready) (hG : G = 0 ∨ G = 1) (hyl : CallOKF Tryz.prog (.yield l) [ii t] [.bun 0 I] (.ret (.bool true)) [.bun 1 I1]) :
  To (El l2 [] [] []) fTen (.keep 5 (.ret (.bool true)) (tnObs l t (G + 1) I1 (.bun 0 (recI l2 (busy R))))) (.code [.code (rfA fTen), .beginR, .code (rfB fTen)] (putS (tnFr c n lv i K) 17 (ii n)) (tnObs l t G I (.bun 0 (recI l2 R)))) := by
 rcases hG with rfl | rfl
 ·refine gW (hEl l2 [] [] []) ?_; conv => whnf
  refine To.beginR (k := 4) (gg := 0) rfl rfl hr ?_
  refine gW (hEl l2 [] [] []) ?_; conv => whnf
  refine And.intro (fun h => ?_) (fun h => absurd rfl (of_decide_eq_false h))
  repeat' first | (refine gN (hEl l2 [] [] []) rfl ?_; conv => whnf) | refine .eff [] [0] _ _ rfl hyl ?_ | exact ⟨⟨rfl, rfl⟩, ⟨rfl, rfl⟩⟩ | exact rfl | refine aY ?_ | refine aN ?_ | refine aT (by omega) fun h => ?_ | refine aF (by omega) fun h => ?_ | refine ⟨fun h => ?_, fun h => ?_⟩ | refine aJ (by omega) (by omega) ?_ | refine ⟨_, rfl, ?_⟩ | refine ⟨by decide, ?_⟩ | refine ⟨by omega, ?_⟩ | fail
 ·refine gW (hEl l2 [] [] []) ?_; conv => whnf
  refine To.beginR (k := 4) (gg := 0) rfl rfl hr ?_
  refine gW (hEl l2 [] [] []) ?_; conv => whnf
  refine And.intro (fun h => ?_) (fun h => absurd rfl (of_decide_eq_false h))
  repeat' first | (refine gN (hEl l2 [] [] []) rfl ?_; conv => whnf) | refine .eff [] [0] _ _ rfl hyl ?_ | exact ⟨⟨rfl, rfl⟩, ⟨rfl, rfl⟩⟩ | exact rfl | refine aY ?_ | refine aN ?_ | refine aT (by omega) fun h => ?_ | refine aF (by omega) fun h => ?_ | refine ⟨fun h => ?_, fun h => ?_⟩ | refine aJ (by omega) (by omega) ?_ | refine ⟨_, rfl, ?_⟩ | refine ⟨by decide, ?_⟩ | refine ⟨by omega, ?_⟩ | fail
theorem tn_stop (c : Con) (n t i K : Int) (lv : List Int) (l l2 G : Nat) (I I1 : BInv) (R : Loop) (hr : R.state = .ready) (hG : G = 0 ∨ G = 1) (hyl : CallOKF Tryz.prog (.yield l) [ii t] [.bun 0 I] (.ret (.bool false)) [.bun 1 I1]) :
  To (El l2 [] [] []) fTen (.keep 5 (.ret (.bool false)) (tnObs l t (G + 1) I1 (.bun 0 (recI l2 (busy R))))) (.code [.code (rfA fTen), .beginR, .code (rfB fTen)] (putS (tnFr c n lv i K) 17 (ii n)) (tnObs l t G I (.bun 0 (recI l2 R)))) := by
 rcases hG with rfl | rfl
 ·refine gW (hEl l2 [] [] []) ?_; conv => whnf
  refine To.beginR (k := 4) (gg := 0) rfl rfl hr ?_
  refine gW (hEl l2 [] [] []) ?_; conv => whnf
  refine And.intro (fun h => ?_) (fun h => absurd rfl (of_decide_eq_false h))
  repeat' first | (refine gN (hEl l2 [] [] []) rfl ?_; conv => whnf) | refine .eff [] [0] _ _ rfl hyl ?_ | exact ⟨⟨rfl, rfl⟩, ⟨rfl, rfl⟩⟩ | exact rfl | refine aY ?_ | refine aN ?_ | refine aT (by omega) fun h => ?_ | refine aF (by omega) fun h => ?_ | refine ⟨fun h => ?_, fun h => ?_⟩ | refine aJ (by omega) (by omega) ?_ | refine ⟨_, rfl, ?_⟩ | refine ⟨by decide, ?_⟩ | refine ⟨by omega, ?_⟩ | fail
 ·refine gW (hEl l2 [] [] []) ?_; conv => whnf
  refine To.beginR (k := 4) (gg := 0) rfl rfl hr ?_
  refine gW (hEl l2 [] [] []) ?_; conv => whnf
  refine And.intro (fun h => ?_) (fun h => absurd rfl (of_decide_eq_false h))
  repeat' first | (refine gN (hEl l2 [] [] []) rfl ?_; conv => whnf) | refine .eff [] [0] _ _ rfl hyl ?_ | exact ⟨⟨rfl, rfl⟩, ⟨rfl, rfl⟩⟩ | exact rfl | refine aY ?_ | refine aN ?_ | refine aT (by omega) fun h => ?_ | refine aF (by omega) fun h => ?_ | refine ⟨fun h => ?_, fun h => ?_⟩ | refine aJ (by omega) (by omega) ?_ | refine ⟨_, rfl, ?_⟩ | refine ⟨by decide, ?_⟩ | refine ⟨by omega, ?_⟩ | fail
theorem ylds_none {P : Program} {l : Nat} {J : BInv} {n : Int} (hs : ∀ x, x ≠ n → CallOKF P (.yield l) [ii x] [.bun 0 J] (.ret (.bool true)) [.bun 1 J]) : ∀ (xs : List Int), n ∉ xs → Ylds P l xs J J true
 | [], _ => .nil _
 | x :: r, h => .next x r _ _ _ _ (hs x fun e => h (by simp [e])) (ylds_none hs r fun e => h (by simp [e]))
theorem ylds_hit {P : Program} {l : Nat} {J J1 : BInv} {n : Int} {b : Bool} (hs : ∀ x, x ≠ n → CallOKF P (.yield l) [ii x] [.bun 0 J] (.ret (.bool true)) [.bun 1 J]) (hh : CallOKF P (.yield l) [ii n] [.bun 0 J] (.ret (.bool b)) [.bun 1 J1])
  (h1 : b = true → ∀ x, x ≠ n → CallOKF P (.yield l) [ii x] [.bun 0 J1] (.ret (.bool true)) [.bun 1 J1]) : ∀ (xs : List Int), xs.Pairwise (fun a b => b < a) → n ∈ xs → Ylds P l xs J J1 b
 | [], _, h => by simp at h
 | x :: r, hp, h => by
  rw [List.pairwise_cons] at hp
  by_cases hx : x = n
  ·subst hx
   cases b with
   | true => exact .next x r _ _ _ _ hh (ylds_none (h1 rfl) r fun e => by have := hp.1 x e; omega)
   | false => exact .stop x r _ _ hh
  ·exact .next x r _ _ _ _ (hs x hx) (ylds_hit hs hh h1 r hp.2 ((List.mem_cons.1 h).resolve_left fun e => hx e.symm))
def tnJ (c : Con) (n t i K : Int) (lv : List Int) (l l2 : Nat) (ob0 : Hs) (R R' : Loop) (G : Nat) (I : BInv) : BInv := cliI ob0 (tnFr c n lv i K) R (tnObs l t G I (.bun 0 (recI l2 R')))
theorem tn_skipY {qa qb : Code} (c : Con) (n t x i K : Int) (lv : List Int) (l l2 G : Nat) (ob0 : Hs) (I : BInv) (R : Loop) (hR : RecOK fTen 17 qa qb R) (ha : rfA fTen = qa) (hb : rfB fTen = qb) (hx : x ≠ n) :
  CallOKF Tryz.prog (.yield l2) [ii x] [.bun 0 (tnJ c n t i K lv l l2 ob0 R R G I)] (.ret (.bool true)) [.bun 1 (tnJ c n t i K lv l l2 ob0 R R G I)] := by
 subst ha hb
 exact yield_ok (E := Ex [] [] []) (fn := fTen) (k := 4) (n := 5) (p := 17) (gg := 0) (L' := tnObs l t G I (.bun 0 (recI l2 (busy R)))) (b := true) hR.params hR.ready hR.pend hR.assign hR.body hR.size rfl rfl rfl rfl rfl rfl rfl fun _ => tn_skip c n t x i K lv l l2 G I R hR.ready hx
theorem tn_hitY {qa qb : Code} (c : Con) (n t i K : Int) (lv : List Int) (l l2 G : Nat) (ob0 : Hs) (I I1 : BInv) (R : Loop) (b : Bool) (hR : RecOK fTen 17 qa qb R) (ha : rfA fTen = qa) (hb : rfB fTen = qb) (hG : G = 0 ∨ G = 1) (hyl : CallOKF Tryz.prog (.yield l) [ii t] [.bun 0 I] (.ret (.bool b)) [.bun 1 I1]) :
  CallOKF Tryz.prog (.yield l2) [ii n] [.bun 0 (tnJ c n t i K lv l l2 ob0 R R G I)] (.ret (.bool b)) [.bun 1 (tnJ c n t i K lv l l2 ob0 R (recE R b) (G + 1) I1)] := by
 subst ha hb
 cases b with
 | true => exact yield_ok (E := Ex [] [] []) (fn := fTen) (k := 4) (n := 5) (p := 17) (gg := 0) (L' := tnObs l t (G + 1) I1 (.bun 0 (recI l2 (busy R)))) (b := true) hR.params hR.ready hR.pend hR.assign hR.body hR.size rfl rfl rfl rfl rfl rfl rfl fun _ => tn_hit c n t i K lv l l2 G I I1 R hR.ready hG hyl
 | false => exact yield_ok (E := Ex [] [] []) (fn := fTen) (k := 4) (n := 5) (p := 17) (gg := 0) (L' := tnObs l t (G + 1) I1 (.bun 0 (recI l2 (busy R)))) (b := false) hR.params hR.ready hR.pend hR.assign hR.body hR.size rfl rfl rfl rfl rfl rfl rfl fun _ => tn_stop c n t i K lv l l2 G I I1 R hR.ready hG hyl
theorem ten_loop (c : Con) (hc : c.sm) (n : Int) (l : Nat) (lv : List Int) (I' : BInv) (b : Bool) (hlv : lv.length ≤ 1048576) : ∀ (m i : Nat) (G : Nat) (I : BInv), i + m = lv.length → (G = 0 ∨ G = 1) → Ylds Tryz.prog l ((lv.drop i).flatMap (hitL c.ns n)) I I' b →
  ∃ g', To E fTen (.full 1 (.ret (.tup [])) [.bun g' I']) (.head (stk fTen 0) [(1, .ptr c.cs), (2, .ptr [ii n]), (3, .ref 1 0), (8, .slice 1 (iv lv) .no), (9, .int .i64 ((iv lv).length : Nat)), (10, .int .i64 i)] [.bun G I, .cells 201 [.func (.yield l) [] []]]) := by
 have hlen : (iv lv).length = lv.length := by simp
 have hnl : ((nav c.ns).length : Int) ≤ 9223372036854775807 := by have := hc.ns; simp only [List.length_map]; omega
 intro m
 induction m with
 | zero =>
  intro i G I hi hG hy
  rw [List.drop_eq_nil_of_le (by omega)] at hy
  have hy : Ylds Tryz.prog l [] I I' b := hy
  cases hy
  rcases hG with rfl | rfl
  ·refine ⟨0, ?_⟩
   refine gW hE ?_; conv => whnf
   refine aF (by omega) fun h => ?_
   repeat' first | (refine gN hE rfl ?_; conv => whnf) | (refine Exists.intro [] (Exists.intro [0] (And.intro (And.intro rfl rfl) ?_)); exact And.intro rfl rfl) | exact rfl | refine aY ?_ | refine aN ?_ | refine aT (by omega) fun h => ?_ | refine aF (by omega) fun h => ?_ | refine ⟨fun h => ?_, fun h => ?_⟩ | refine aJ (by omega) (by omega) ?_ | refine ⟨_, rfl, ?_⟩ | refine ⟨by decide, ?_⟩ | refine ⟨by omega, ?_⟩ | fail
  ·refine ⟨1, ?_⟩
   refine gW hE ?_; conv => whnf
   refine aF (by omega) fun h => ?_
   repeat' first | (refine gN hE rfl ?_; conv => whnf) | (refine Exists.intro [] (Exists.intro [0] (And.intro (And.intro rfl rfl) ?_)); exact And.intro rfl rfl) | exact rfl | refine aY ?_ | refine aN ?_ | refine aT (by omega) fun h => ?_ | refine aF (by omega) fun h => ?_ | refine ⟨fun h => ?_, fun h => ?_⟩ | refine aJ (by omega) (by omega) ?_ | refine ⟨_, rfl, ?_⟩ | refine ⟨by decide, ?_⟩ | refine ⟨by omega, ?_⟩ | fail
 | succ m ih =>
  intro i G I hi hG hy
  have hlt : i < lv.length := by omega
  rw [List.drop_eq_getElem_cons hlt, List.flatMap_cons] at hy
  generalize hx : lv[i] = t at hy
  have get : (iv lv)[i]? = some (ii t) := (iv_get hlt).trans (by rw [hx])
  -- what the loop within comes to
  have key : ∃ (g' G2 : Nat) (I2 : BInv) (b2 : Bool), (b2 = true → (G2 = G ∨ G2 = G + 1) ∧ To E fTen (.full 1 (.ret (.tup [])) [.bun g' I']) (.head (stk fTen 0) [(1, .ptr c.cs), (2, .ptr [ii n]), (3, .ref 1 0), (8, .slice 1 (iv lv) .no), (9, .int .i64 ((iv lv).length : Nat)), (10, .int .i64 ((i : Int) + 1))] [.bun (if G2 = 0 then 0 else 1) I2, .cells 201 [.func (.yield l) [] []]])) ∧ (b2 = false → G2 = G + 1 ∧ g' = 1 ∧ I2 = I') ∧
    ∀ (l2 : Nat) (ob0 : Hs) (R : Loop) (qa qb : Code), RecOK fTen 17 qa qb R → rfA fTen = qa → rfB fTen = qb → Ylds Tryz.prog l2 (upL c.ns t) (tnJ c n t i ((iv lv).length : Nat) lv l l2 ob0 R R G I) (tnJ c n t i ((iv lv).length : Nat) lv l l2 ob0 R (recE R b2) G2 I2) b2 := by
   unfold hitL at hy
   have hpw : (upL c.ns t).Pairwise fun a b => b < a := upF_pw _ _ _
   by_cases hn : n ∈ upL c.ns t
   ·rw [if_pos hn] at hy
    have hy : Ylds Tryz.prog l (t :: (lv.drop (i + 1)).flatMap (hitL c.ns n)) I I' b := hy
    cases hy with
    | stop _ _ _ _ hyl =>
     refine ⟨1, G + 1, I', false, (fun h => by cases h), fun _ => ⟨rfl, rfl, rfl⟩, fun l2 ob0 R qa qb hR ha hb => ?_⟩
     exact ylds_hit (fun x hx => tn_skipY c n t x i _ lv l l2 G ob0 I R hR ha hb hx) (tn_hitY c n t i _ lv l l2 G ob0 I I' R false hR ha hb hG hyl) (fun h => by cases h) _ hpw hn
    | next _ _ _ I1 _ _ hyl hk =>
     obtain ⟨g', hto⟩ := ih (i + 1) 1 I1 (by omega) (.inr rfl) hk
     refine ⟨g', G + 1, I1, true, fun _ => ⟨.inr rfl, ?_⟩, (fun h => by cases h), fun l2 ob0 R qa qb hR ha hb => ?_⟩
     ·rw [if_neg (by omega)]; exact hto
     ·exact ylds_hit (fun x hx => tn_skipY c n t x i _ lv l l2 G ob0 I R hR ha hb hx) (tn_hitY c n t i _ lv l l2 G ob0 I I1 R true hR ha hb hG hyl) (fun _ x hx => tn_skipY c n t x i _ lv l l2 (G + 1) ob0 I1 R hR ha hb hx) _ hpw hn
   ·rw [if_neg hn] at hy
    have hy : Ylds Tryz.prog l ((lv.drop (i + 1)).flatMap (hitL c.ns n)) I I' b := hy
    obtain ⟨g', hto⟩ := ih (i + 1) G I (by omega) hG hy
    refine ⟨g', G, I, true, fun _ => ⟨.inl rfl, ?_⟩, (fun h => by cases h), fun l2 ob0 R qa qb hR ha hb => ?_⟩
    ·rcases hG with rfl | rfl
     ·exact hto
     ·exact hto
    ·exact ylds_none (fun x hx => tn_skipY c n t x i _ lv l l2 G ob0 I R hR ha hb hx) _ hn
  obtain ⟨g', G2, I2, b2, hk1, hk2, hk3⟩ := key
  refine ⟨g', ?_⟩
  refine gW hE ?_; conv => whnf
  refine aT (by omega) fun h => ?_
  refine gW hE ?_; conv => whnf
  refine ⟨i, rfl, ?_⟩
  refine gW hE ?_; conv => whnf
  refine ⟨_, get, ?_⟩
  refine gW hE ?_; conv => whnf
  refine .pure _ [.cells 3 [ii t]] (up_ok c t) ?_
  refine gW hE ?_; conv => whnf
  refine To.cutC [1, 2, 3, 5, 8, 9, 10, 16] 4 rfl rfl rfl rfl ?_
  refine To.range [3] rfl rfl (fun _ _ => by rfl) rfl (fun _ _ => rfl) rfl fun l2 ob0 R _ hR => ?_
  obtain ⟨mm, g2, hup⟩ := up1_ok l2 c t _ _ b2 hnl (hk3 l2 ob0 R _ _ hR rfl rfl)
  refine ⟨tnObs l t G2 I2 (.bun 0 (recI l2 (recE R b2))), b2, _, [.cells 3 [mm]], g2, hup, rfl, rfl, ?_⟩
  cases b2 with
  | false =>
   obtain ⟨e1, e2, e3⟩ := hk2 rfl
   subst e1 e2 e3
   rcases hG with rfl | rfl
   ·refine gW hE ?_; conv => whnf
    refine ⟨[], [0], ⟨rfl, rfl⟩, ⟨rfl, rfl⟩⟩
   ·refine gW hE ?_; conv => whnf
    refine ⟨[], [0], ⟨rfl, rfl⟩, ⟨rfl, rfl⟩⟩
  | true =>
   obtain ⟨hG2, hto⟩ := hk1 rfl
   refine gW hE ?_; conv => whnf
   refine aJ (by omega) (by omega) ?_
   refine gW hE ?_; conv => whnf
   refine To.part [1, 2, 3, 8, 9, 10] [0, 1] rfl rfl rfl ?_
   rcases hG with rfl | rfl <;> rcases hG2 with rfl | rfl <;> exact hto
theorem ten_ok (c : Con) (hc : c.sm) (n : Int) (l : Nat) (I I' : BInv) (b : Bool) (hy : Ylds Tryz.prog l (belowL c.ns n) I I' b) : ∃ g', CallOK Tryz.prog 187 [.func (.yield l) [] [], .ptr c.cs, .ptr [ii n]] [.bun 0 I] (.ret (.tup [])) [.bun g' I'] := by
 have hlv : (leavesL c.ns).length ≤ 1048576 := Nat.le_trans (lvF_len _ _ _) hc.ns
 obtain ⟨g', h⟩ := ten_loop c hc n l (leavesL c.ns) I' b hlv (leavesL c.ns).length 0 0 I (by omega) (.inl rfl) hy
 refine ⟨g', ?_⟩
 refine cT (E := E) (fn := Tryz.f187) (g := .full 1 _ _) fun _ => ?_
 refine gW hE ?_; conv => whnf
 refine .pure _ [] (lvs_ok c hc) ?_
 refine gW hE ?_; conv => whnf
 exact To.head [1, 2, 3, 8, 9, 10] h
theorem tenants_ok (c : Con) (n : Int) : CallOK Tryz.prog 168 [c.av, ii n] [] (.ret (.func (.func 187) [] [.ptr c.cs, .ptr [ii n]])) [] := by
 refine cT (E := E) (fn := Tryz.f168) (g := .pure _) fun _ => ?_
 repeat' first | (refine gN hE rfl ?_; conv => whnf) | exact rfl | refine aY ?_ | refine aN ?_ | refine aT (by omega) fun h => ?_ | refine aF (by omega) fun h => ?_ | refine ⟨fun h => ?_, fun h => ?_⟩ | refine aJ (by omega) (by omega) ?_ | refine ⟨_, rfl, ?_⟩ | refine ⟨by decide, ?_⟩ | refine ⟨by omega, ?_⟩ | fail
theorem ylds_app {P : Program} {l : Nat} (F : List Int → BInv) (h : ∀ (acc : List Int) x, acc.length < 1048576 → CallOKF P (.yield l) [ii x] [.bun 0 (F acc)] (.ret (.bool true)) [.bun 1 (F (acc ++ [x]))]) : ∀ (xs acc : List Int), acc.length + xs.length ≤ 1048576 → Ylds P l xs (F acc) (F (acc ++ xs)) true
 | [], acc, _ => by rw [List.append_nil]; exact .nil _
 | x :: r, acc, hl => by
  have := ylds_app F h r (acc ++ [x]) (by simp at hl ⊢; omega)
  rw [List.append_assoc] at this
  exact .next x r _ _ _ _ (h acc x (by simp at hl; omega)) this
noncomputable abbrev fApp : Func := Tryz.f200
abbrev tenF (c : Con) (n : Int) : AVal := .func (.func 187) [] [.ptr c.cs, .ptr [ii n]]
def apFr (f : AVal) : List (Nat × AVal) := [(2, .ref 0 0), (6, f)]
def apObs (acc : List Int) (g : Nat) (o : AObj) : List AObj := [.cells 68 [.slice 1 (iv acc) (.own 1 g)], .tail g 1 3, o]
theorem ap_round0 (f : AVal) (acc : List Int) (x : Int) (hl : acc.length < 1048576) (l : Nat) (R : Loop) (hr : R.state = .ready) :
  To (El l [] [] []) fApp (.keep 3 (.ret (.bool true)) (apObs (acc ++ [x]) 1 (.bun 0 (recI l (busy R))))) (.code [.code (rfA fApp), .beginR, .code (rfB fApp)] (putS (apFr f) 7 (ii x)) (apObs acc 0 (.bun 0 (recI l R)))) := by
 have hla : (iv acc).length = acc.length := by simp
 have e : iv (acc ++ [x]) = iv acc ++ [ii x] := by simp
 unfold apObs
 rw [e]
 refine gW (hEl l [] [] []) ?_; conv => whnf
 refine To.beginR (k := 2) (gg := 0) rfl rfl hr ?_
 refine gW (hEl l [] [] []) ?_; conv => whnf
 refine ⟨⟨by simp only [maxLen]; simp; omega, by simp; omega⟩, ?_⟩
 refine gW (hEl l [] [] []) ?_; conv => whnf
 exact ⟨⟨rfl, rfl⟩, ⟨rfl, rfl⟩⟩
theorem ap_round1 (f : AVal) (acc : List Int) (x : Int) (hl : acc.length < 1048576) (l : Nat) (R : Loop) (hr : R.state = .ready) :
  To (El l [] [] []) fApp (.keep 3 (.ret (.bool true)) (apObs (acc ++ [x]) 2 (.bun 0 (recI l (busy R))))) (.code [.code (rfA fApp), .beginR, .code (rfB fApp)] (putS (apFr f) 7 (ii x)) (apObs acc 1 (.bun 0 (recI l R)))) := by
 have hla : (iv acc).length = acc.length := by simp
 have e : iv (acc ++ [x]) = iv acc ++ [ii x] := by simp
 unfold apObs
 rw [e]
 refine gW (hEl l [] [] []) ?_; conv => whnf
 refine To.beginR (k := 2) (gg := 0) rfl rfl hr ?_
 refine gW (hEl l [] [] []) ?_; conv => whnf
 refine ⟨⟨by simp only [maxLen]; simp; omega, by simp; omega⟩, ?_⟩
 refine gW (hEl l [] [] []) ?_; conv => whnf
 exact ⟨⟨rfl, rfl⟩, ⟨rfl, rfl⟩⟩
def gOf : List Int → Nat
 | [] => 0
 | _ :: _ => 1
theorem gOf_snoc (acc : List Int) (x : Int) : gOf (acc ++ [x]) = 1 := by cases acc <;> rfl
def apJ (f : AVal) (ob0 : Hs) (R : Loop) (l : Nat) (acc : List Int) : BInv := cliI ob0 (apFr f) R (apObs acc (gOf acc) (.bun 0 (recI l R)))
theorem ap_yield {qa qb : Code} (f : AVal) (hf : ∀ og, cvtV 3 [0, 1, 2] og 5 f = f) (ob0 : Hs) (l : Nat) (R : Loop) (acc : List Int) (x : Int) (hl : acc.length < 1048576) (h1 : ∀ hs ∈ ob0, hs.length = 1) (h0 : ob0.length = 0) (hR : RecOK fApp 7 qa qb R) (ha : rfA fApp = qa) (hb : rfB fApp = qb) :
  CallOKF Tryz.prog (.yield l) [ii x] [.bun 0 (apJ f ob0 R l acc)] (.ret (.bool true)) [.bun 1 (apJ f ob0 R l (acc ++ [x]))] := by
 subst ha hb
 unfold apJ
 rw [gOf_snoc]
 cases acc with
 | nil => exact yield_ok (E := Ex [] [] []) (fn := fApp) (k := 2) (n := 3) (p := 7) (gg := 0) (L' := apObs ([] ++ [x]) 1 (.bun 0 (recI l (busy R)))) (b := true) hR.params hR.ready hR.pend hR.assign hR.body hR.size rfl rfl rfl rfl rfl rfl rfl fun _ => ap_round0 f [] x hl l R hR.ready
 | cons a r =>
  have := yield_ok (E := Ex [] [] []) (fn := fApp) (ob0 := ob0) (k := 2) (n := 3) (p := 7) (gg := 0) (L := apObs (a :: r) 1 (.bun 0 (recI l R))) (L' := apObs ((a :: r) ++ [x]) 2 (.bun 0 (recI l (busy R)))) (b := true) hR.params hR.ready hR.pend hR.assign hR.body hR.size rfl rfl rfl rfl rfl rfl rfl fun _ => ap_round1 f (a :: r) x hl l R hR.ready
  refine this.bunTo (cli_norm (n := 3) rfl h1 (by omega) rfl ?_ rfl)
  show [(2, AVal.ref 0 0), (6, cvtV 3 [0, 1, 2] _ 5 f)] = _
  rw [hf]
  rfl
theorem app_ok (c : Con) (hc : c.sm) (n : Int) (hb : (belowL c.ns n).length ≤ 1048576) : CallOK Tryz.prog 200 [.nilslice, tenF c n] [] (.ret (.slice 1 (iv (belowL c.ns n)) .no)) [] := by
 refine cT (E := E) (fn := Tryz.f200) (g := .pure _) fun _ => ?_
 refine gW hE ?_; conv => whnf
 refine To.cutC [2, 6] 1 rfl rfl rfl rfl ?_
 refine To.mapO (nilT 1) (nilT_rep 1) ?_
 refine To.beginC 0 0 3 rfl rfl ?_
 refine To.range [] rfl rfl (fun _ _ => by rfl) rfl (fun _ _ => rfl) rfl fun l ob0 R hst hR => ?_
 obtain ⟨g', hten⟩ := ten_ok c hc n l _ _ true (ylds_app (P := Tryz.prog) (l := l) (apJ (tenF c n) ob0 R l) (fun acc x hl => ap_yield (tenF c n) (fun _ => rfl) ob0 l R acc x hl (hst.2 rfl) hst.1 hR rfl rfl) (belowL c.ns n) [] (by simpa using hb))
 rw [List.nil_append] at hten
 refine ⟨_, true, _, [], g', hten, rfl, rfl, ?_⟩
 repeat' first | (refine gN hE rfl ?_; conv => whnf) | exact rfl | refine aY ?_ | refine aN ?_ | refine aT (by omega) fun h => ?_ | refine aF (by omega) fun h => ?_ | refine ⟨fun h => ?_, fun h => ?_⟩ | refine aJ (by omega) (by omega) ?_ | refine ⟨_, rfl, ?_⟩ | refine ⟨by decide, ?_⟩ | refine ⟨by omega, ?_⟩ | fail
theorem collect_ok (c : Con) (hc : c.sm) (n : Int) (hb : (belowL c.ns n).length ≤ 1048576) : CallOK Tryz.prog 197 [tenF c n] [] (.ret (.slice 1 (iv (belowL c.ns n)) .no)) [] := by
 refine cT (E := E) (fn := Tryz.f197) (g := .pure _) fun _ => ?_
 repeat' first | (refine gN hE rfl ?_; conv => whnf) | refine .pure _ [] (app_ok c hc n hb) ?_ | exact rfl | refine aY ?_ | refine aN ?_ | refine aT (by omega) fun h => ?_ | refine aF (by omega) fun h => ?_ | refine ⟨fun h => ?_, fun h => ?_⟩ | refine aJ (by omega) (by omega) ?_ | refine ⟨_, rfl, ?_⟩ | refine ⟨by decide, ?_⟩ | refine ⟨by omega, ?_⟩ | fail
theorem hit_len (ns : List Nod) (n t : Int) : (hitL ns n t).length ≤ 1 := by unfold hitL; split <;> simp
theorem below_len (c : Con) (hc : c.sm) (n : Int) : (belowL c.ns n).length ≤ 1048576 := by
 have h : ∀ (l : List Int), (l.flatMap (hitL c.ns n)).length ≤ l.length := by
  intro l
  induction l with
  | nil => simp
  | cons x r ih =>
   have := hit_len c.ns n x
   simp only [List.flatMap_cons, List.length_append, List.length_cons]
   omega
 exact Nat.le_trans (h _) (Nat.le_trans (lvF_len _ _ _) hc.ns)
theorem below_ok (c : Con) (hc : c.sm) (n : Int) : CallOK Tryz.prog 195 [c.av, ii n] [] (.ret (.slice 1 (iv (belowL c.ns n)) .no)) [] := by
 refine cT (E := E) (fn := Tryz.f195) (g := .pure _) fun _ => ?_
 repeat' first | (refine gN hE rfl ?_; conv => whnf) | refine .pure _ [] (tenants_ok c n) ?_ | refine .pure _ [] (collect_ok c hc n (below_len c hc n)) ?_ | exact rfl | refine aY ?_ | refine aN ?_ | refine aT (by omega) fun h => ?_ | refine aF (by omega) fun h => ?_ | refine ⟨fun h => ?_, fun h => ?_⟩ | refine aJ (by omega) (by omega) ?_ | refine ⟨_, rfl, ?_⟩ | refine ⟨by decide, ?_⟩ | refine ⟨by omega, ?_⟩ | fail
def atV (l : List V3) (n : Int) : V3 := if decide (n < 0) = true then V3.zero else (l[n.toNat]?).getD V3.zero
theorem atV_any (l : List V3) (n : Int) (r : V3) (hr : atV l n = r) : CallOK Tryz.prog 169 [.slice 3 (vav l) .no, ii n] [] (.ret r.av) [] := by
 have hlen : (vav l).length = l.length := by simp
 unfold atV at hr
 by_cases h1 : n < 0
 ·rw [if_pos (decide_eq_true h1)] at hr
  subst hr
  refine cT (E := E) (fn := Tryz.f169) (g := .pure _) fun _ => ?_
  repeat' first | (refine gN hE rfl ?_; conv => whnf) | exact rfl | refine aY ?_ | refine aN ?_ | refine aT (by omega) fun h => ?_ | refine aF (by omega) fun h => ?_ | refine ⟨fun h => ?_, fun h => ?_⟩ | refine aJ (by omega) (by omega) ?_ | refine ⟨_, rfl, ?_⟩ | refine ⟨by decide, ?_⟩ | refine ⟨by omega, ?_⟩ | fail
 ·rw [if_neg (by rw [decide_eq_false h1]; decide)] at hr
  by_cases h2 : n.toNat < l.length
  ·rw [List.getElem?_eq_getElem h2] at hr
   have hr : l[n.toNat] = r := hr
   have get : (vav l)[n.toNat]? = some r.av := (vav_get h2).trans (by rw [hr])
   have hn : n = (n.toNat : Int) := by omega
   refine cT (E := E) (fn := Tryz.f169) (g := .pure _) fun _ => ?_
   repeat' first | (refine gN hE rfl ?_; conv => whnf) | refine ⟨n.toNat, hn, ?_⟩ | refine ⟨_, get, ?_⟩ | exact rfl | refine aY ?_ | refine aN ?_ | refine aT (by omega) fun h => ?_ | refine aF (by omega) fun h => ?_ | refine ⟨fun h => ?_, fun h => ?_⟩ | refine aJ (by omega) (by omega) ?_ | refine ⟨_, rfl, ?_⟩ | refine ⟨by decide, ?_⟩ | refine ⟨by omega, ?_⟩ | fail
  ·rw [List.getElem?_eq_none (by omega)] at hr
   have hr : V3.zero = r := hr
   subst hr
   refine cT (E := E) (fn := Tryz.f169) (g := .pure _) fun _ => ?_
   repeat' first | (refine gN hE rfl ?_; conv => whnf) | exact rfl | refine aY ?_ | refine aN ?_ | refine aT (by omega) fun h => ?_ | refine aF (by omega) fun h => ?_ | refine ⟨fun h => ?_, fun h => ?_⟩ | refine aJ (by omega) (by omega) ?_ | refine ⟨_, rfl, ?_⟩ | refine ⟨by decide, ?_⟩ | refine ⟨by omega, ?_⟩ | fail
theorem atV_ok (l : List V3) (n : Int) : CallOK Tryz.prog 169 [.slice 3 (vav l) .no, ii n] [] (.ret (atV l n).av) [] := atV_any l n _ rfl
theorem vfits_any (a b : V3) (r : Bool) (hr : vfits a b = r) : CallOK Tryz.prog 125 [a.av, b.av] [] (.ret (.bool r)) [] := by
 unfold vfits at hr
 refine cT (E := E) (fn := Tryz.f125) (g := .pure _) fun _ => ?_
 refine gW hE ?_; conv => whnf
 repeat' first
  | (refine gW hE ?_; conv => whnf)
  | exact hr
  | refine aY ?_
  | refine aN ?_
  | refine And.intro (fun h => ?_) (fun h => ?_)
  | refine aJ (by omega) (by omega) ?_
  | refine Exists.intro _ (And.intro rfl ?_)
  | refine And.intro (by decide) ?_
 all_goals (rw [← hr]; simp_all)
theorem vfits_ok (a b : V3) : CallOK Tryz.prog 125 [a.av, b.av] [] (.ret (.bool (vfits a b))) [] := vfits_any a b _ rfl
theorem vover_ok (a b : V3) : CallOK Tryz.prog 95 [a.av, b.av] [] (.ret (.bool (!vfits a b))) [] := by
 refine cT (E := E) (fn := Tryz.f95) (g := .pure _) fun _ => ?_
 repeat' first | (refine gN hE rfl ?_; conv => whnf) | refine .pure _ [] (vfits_ok a b) ?_ | exact rfl | refine aY ?_ | refine aN ?_ | refine aT (by omega) fun h => ?_ | refine aF (by omega) fun h => ?_ | refine ⟨fun h => ?_, fun h => ?_⟩ | refine aJ (by omega) (by omega) ?_ | refine ⟨_, rfl, ?_⟩ | refine ⟨by decide, ?_⟩ | refine ⟨by omega, ?_⟩ | fail
noncomputable abbrev fSum : Func := Tryz.f139
def smS (l : List V3) (v : V3) (t : Int) : V3 := vadd v (atV l t)
def sumL (ns : List Nod) (n : Int) (l : List V3) : V3 := (belowL ns n).foldl (smS l) V3.zero
def smFr (f : AVal) : List (Nat × AVal) := [(5, .ref 1 0), (6, .ref 2 0), (7, .ref 3 0), (11, f)]
def smObs (c : Con) (l : List V3) (v : V3) (o : AObj) : List AObj := [.cells 26 c.cs, .cells 103 [.slice 3 (vav l) .no], .cells 57 V3.zero.cs, .cells 57 v.cs, o]
theorem sm_round (c : Con) (n : Int) (l : List V3) (v : V3) (x : Int) (k : Nat) (R : Loop) (hr : R.state = .ready) :
  To (El k [] [] []) fSum (.keep 5 (.ret (.bool true)) (smObs c l (smS l v x) (.bun 0 (recI k (busy R))))) (.code [.code (rfA fSum), .beginR, .code (rfB fSum)] (putS (smFr (tenF c n)) 12 (ii x)) (smObs c l v (.bun 0 (recI k R)))) := by
 refine gW (hEl k [] [] []) ?_; conv => whnf
 refine To.beginR (k := 4) (gg := 0) rfl rfl hr ?_
 refine gW (hEl k [] [] []) ?_; conv => whnf
 refine .pure _ [] (atV_ok l x) ?_
 refine gW (hEl k [] [] []) ?_; conv => whnf
 refine .pure _ [] (vadd_ok v (atV l x)) ?_
 refine gW (hEl k [] [] []) ?_; conv => whnf
 exact ⟨⟨rfl, rfl⟩, ⟨rfl, rfl⟩⟩
theorem sum_ok (c : Con) (hc : c.sm) (n : Int) (l : List V3) : CallOK Tryz.prog 139 [c.av, ii n, .slice 3 (vav l) .no] [] (.ret (sumL c.ns n l).av) [] := by
 refine cT (E := E) (fn := Tryz.f139) (g := .pure _) fun _ => ?_
 refine gW hE ?_; conv => whnf
 refine .pure _ [] (tenants_ok c n) ?_
 refine gW hE ?_; conv => whnf
 refine To.cutC [5, 6, 7, 11] 4 rfl rfl rfl rfl ?_
 refine To.range [] rfl rfl (fun _ _ => by rfl) rfl (fun _ _ => rfl) rfl fun k ob0 R hst hR => ?_
 obtain ⟨g', hten⟩ := ten_ok c hc n k _ _ true (ylds_all (P := Tryz.prog) (l := k) (fun v => cliI ob0 (smFr (tenF c n)) R (smObs c l v (.bun 0 (recI k R)))) (smS l) (fun v x => yield_ok (E := Ex [] [] []) (fn := fSum) (k := 4) (n := 5) (p := 12) (gg := 0) (L' := smObs c l (smS l v x) (.bun 0 (recI k (busy R)))) (b := true) hR.params hR.ready hR.pend hR.assign hR.body hR.size rfl rfl rfl rfl rfl rfl rfl fun _ => sm_round c n l v x k R hR.ready) (belowL c.ns n) V3.zero)
 refine ⟨_, true, _, [], g', hten, rfl, rfl, ?_⟩
 repeat' first | (refine gN hE rfl ?_; conv => whnf) | exact rfl | refine aY ?_ | refine aN ?_ | refine aT (by omega) fun h => ?_ | refine aF (by omega) fun h => ?_ | refine ⟨fun h => ?_, fun h => ?_⟩ | refine aJ (by omega) (by omega) ?_ | refine ⟨_, rfl, ?_⟩ | refine ⟨by decide, ?_⟩ | refine ⟨by omega, ?_⟩ | fail
def Con.ok (c : Con) (n : Int) : Prop := 0 ≤ n ∧ n.toNat < c.ns.length
theorem lvF_mem (ns : List Nod) : ∀ (m i : Nat) (x : Int), x ∈ lvF ns m i → (i : Int) ≤ x ∧ x < i + m
 | 0, _, _, h => by simp [lvF] at h
 | m + 1, i, x, h => by
  have ih := lvF_mem ns m (i + 1) x
  unfold lvF at h
  split at h
  ·rcases List.mem_cons.1 h with rfl | h
   ·omega
   ·have := ih h; omega
  ·have := ih h; omega
theorem below_ok' (c : Con) (n x : Int) (h : x ∈ belowL c.ns n) : c.ok x := by
 unfold belowL at h
 obtain ⟨t, h1, h2⟩ := List.mem_flatMap.1 h
 have : x = t := by
  unfold hitL at h2
  split at h2
  ·simpa using h2
  ·simp at h2
 subst this
 have := lvF_mem c.ns c.ns.length 0 x h1
 exact ⟨by omega, by omega⟩
theorem upF_mem (c : Con) : ∀ (f : Nat) (n x : Int), x ∈ upF c.ns f n → c.ok x
 | 0, _, _, h => by simp [upF] at h
 | f + 1, n, x, h => by
  have ih := fun p => upF_mem c f p x
  unfold upF at h
  split at h
  ·rename_i h1
   split at h
   ·rename_i h2
    split at h
    ·simp at h; subst h; exact ⟨of_decide_eq_true h1, h2⟩
    ·rcases List.mem_cons.1 h with rfl | h
     ·exact ⟨of_decide_eq_true h1, h2⟩
     ·exact ih _ h
   ·simp at h
  ·simp at h
def nodAt (ns : List Nod) (n : Int) : Nod := (ns[n.toNat]?).getD ⟨0, 0, V3.zero, V3.zero, V3.zero⟩
theorem nod_get {c : Con} {n : Int} (h : c.ok n) : (nav c.ns)[n.toNat]? = some (nodAt c.ns n).av := by
 unfold nodAt
 rw [List.getElem?_eq_getElem h.2]
 exact nav_get h.2
def pos0 (v : V3) : V3 := ⟨max v.a 0, max v.b 0, max v.c 0⟩
def keptS (ns : List Nod) (used : List V3) (t : Int) (v : V3) (s : Int) : V3 := if decide (s = t) = true then v else vadd v (pos0 (vsub (vsub (nodAt ns s).n (nodAt ns s).l) (atV used s)))
def keptL (ns : List Nod) (used : List V3) (n t : Int) : V3 := (belowL ns n).foldl (keptS ns used t) V3.zero
noncomputable abbrev fKept : Func := Tryz.f193
theorem kept_loop (c : Con) (used : List V3) (t : Int) (bl : List Int) (hb : bl.length ≤ 1048576) (hv : ∀ x ∈ bl, c.ok x) (R : V3) : ∀ (m i : Nat) (v : V3), i + m = bl.length → (bl.drop i).foldl (keptS c.ns used t) v = R →
  To E fKept (.pure (.ret R.av)) (.head (stk fKept 0) [(1, .slice 3 (vav used) .no), (3, ii t), (4, .ref 0 0), (8, .ref 1 0), (9, .ref 2 0), (18, .slice 1 (iv bl) .no), (19, .int .i64 ((iv bl).length : Nat)), (20, .int .i64 i)] [.cells 26 c.cs, .cells 57 V3.zero.cs, .cells 57 v.cs]) := by
 have hlen : (iv bl).length = bl.length := by simp
 intro m
 induction m with
 | zero =>
  intro i v hi hR
  rw [List.drop_eq_nil_of_le (by omega)] at hR
  subst hR
  refine gW hE ?_; conv => whnf
  refine aF (by omega) fun h => ?_
  repeat' first | (refine gN hE rfl ?_; conv => whnf) | exact rfl | refine aY ?_ | refine aN ?_ | refine aT (by omega) fun h => ?_ | refine aF (by omega) fun h => ?_ | refine ⟨fun h => ?_, fun h => ?_⟩ | refine aJ (by omega) (by omega) ?_ | refine ⟨_, rfl, ?_⟩ | refine ⟨by decide, ?_⟩ | refine ⟨by omega, ?_⟩ | fail
 | succ m ih =>
  intro i v hi hR
  have hlt : i < bl.length := by omega
  rw [List.drop_eq_getElem_cons hlt, List.foldl_cons] at hR
  have hval := hv _ (List.getElem_mem hlt)
  generalize hx : bl[i] = s at hR hval
  have get : (iv bl)[i]? = some (ii s) := (iv_get hlt).trans (by rw [hx])
  have gn := nod_get hval
  have hn : s = (s.toNat : Int) := by have := hval.1; omega
  have next := ih (i + 1) _ (by omega) hR
  unfold keptS at next
  generalize nodAt c.ns s = x at gn next
  refine gW hE ?_; conv => whnf
  refine aT (by omega) fun h => ?_
  refine gW hE ?_; conv => whnf
  refine ⟨i, rfl, ?_⟩
  refine gW hE ?_; conv => whnf
  refine ⟨_, get, ?_⟩
  refine gW hE ?_; conv => whnf
  refine And.intro (fun h2 => ?_) (fun h2 => ?_)
  ·have h2 : decide (s = t) = true := h2
   rw [if_pos h2] at next
   refine gW hE ?_; conv => whnf
   refine aJ (by omega) (by omega) ?_
   refine gW hE ?_; conv => whnf
   exact To.cut [1, 3, 4, 8, 9, 18, 19, 20] 3 rfl rfl rfl rfl next
  ·have h2 : decide (s = t) = false := h2
   rw [if_neg (by rw [h2]; decide)] at next
   refine gW hE ?_; conv => whnf
   refine ⟨s.toNat, hn, ?_⟩
   refine gW hE ?_; conv => whnf
   refine ⟨_, gn, ?_⟩
   refine gW hE ?_; conv => whnf
   refine .pure _ [] (vsub_ok x.n x.l) ?_
   refine gW hE ?_; conv => whnf
   refine .pure _ [] (atV_ok used s) ?_
   refine gW hE ?_; conv => whnf
   refine .pure _ [] (vsub_ok (vsub x.n x.l) (atV used s)) ?_
   generalize vsub (vsub x.n x.l) (atV used s) = u at next ⊢
   refine gW hE ?_; conv => whnf
   refine gW hE ?_; conv => whnf
   refine aY ?_
   refine gW hE ?_; conv => whnf
   refine ⟨by decide, ?_⟩
   refine gW hE ?_; conv => whnf
   refine ⟨by decide, ?_⟩
   refine gW hE ?_; conv => whnf
   refine aJ (by omega) (by omega) ?_
   refine gW hE ?_; conv => whnf
   refine gW hE ?_; conv => whnf
   refine aY ?_
   refine gW hE ?_; conv => whnf
   refine ⟨by decide, ?_⟩
   refine gW hE ?_; conv => whnf
   refine ⟨by decide, ?_⟩
   refine gW hE ?_; conv => whnf
   refine aJ (by omega) (by omega) ?_
   refine gW hE ?_; conv => whnf
   refine gW hE ?_; conv => whnf
   refine aY ?_
   refine gW hE ?_; conv => whnf
   refine ⟨by decide, ?_⟩
   refine gW hE ?_; conv => whnf
   refine ⟨by decide, ?_⟩
   refine gW hE ?_; conv => whnf
   refine aJ (by omega) (by omega) ?_
   refine gW hE ?_; conv => whnf
   refine gW hE ?_; conv => whnf
   refine aN ?_
   refine gW hE ?_; conv => whnf
   refine .pure _ [] (vadd_ok v (pos0 u)) ?_
   refine gW hE ?_; conv => whnf
   refine aJ (by omega) (by omega) ?_
   refine gW hE ?_; conv => whnf
   exact To.cut [1, 3, 4, 8, 9, 18, 19, 20] 3 rfl rfl rfl rfl next
theorem kept_ok (c : Con) (hc : c.sm) (used : List V3) (n t : Int) : CallOK Tryz.prog 193 [c.av, .slice 3 (vav used) .no, ii n, ii t] [] (.ret (keptL c.ns used n t).av) [] := by
 refine cT (E := E) (fn := Tryz.f193) (g := .pure _) fun _ => ?_
 refine gW hE ?_; conv => whnf
 refine .pure _ [] (below_ok c hc n) ?_
 refine gW hE ?_; conv => whnf
 refine To.cut [1, 3, 4, 8, 9, 18, 19, 20] 3 rfl rfl rfl rfl ?_
 exact kept_loop c used t _ (below_len c hc n) (fun x hx => below_ok' c n x hx) _ (belowL c.ns n).length 0 V3.zero (by omega) rfl
noncomputable abbrev fNom : Func := Tryz.f92
def nomL (ns : List Nod) : List V3 := (List.range ns.length).map fun i : Nat => (nodAt ns (i : Int)).n
theorem nom_loop (c : Con) (hc : c.sm) (n : Int) (K : Int) (hK : K = ((nav c.ns).length : Nat)) : ∀ (m i : Nat), i + m = c.ns.length →
  To E fNom (.pure (.ret (sumL c.ns n (nomL c.ns)).av)) (.head (stk fNom 0) [(1, ii n), (2, .ref 0 0), (4, .ref 1 0), (5, .row 2 0), (13, .slice 11 (nav c.ns) .no), (14, .int .i64 K), (15, .int .i64 i)] [.cells 26 c.cs, .cells 57 V3.zero.cs, .row 0 3 57 (vav (fillL (fun i : Nat => (nodAt c.ns (i : Int)).n) i m))]) := by
 have hlen : (nav c.ns).length = c.ns.length := by simp
 have h1 := hc.ns
 intro m
 induction m with
 | zero =>
  intro i hi
  have e : fillL (fun i : Nat => (nodAt c.ns (i : Int)).n) i 0 = nomL c.ns := by rw [fill_end]; unfold nomL; rw [← hi]; rfl
  rw [e]
  refine gW hE ?_; conv => whnf
  refine aF (by omega) fun h => ?_
  refine gW hE ?_; conv => whnf
  refine .pure _ [] (sum_ok c hc n (nomL c.ns)) ?_
  repeat' first | (refine gN hE rfl ?_; conv => whnf) | exact rfl | refine aY ?_ | refine aN ?_ | refine aT (by omega) fun h => ?_ | refine aF (by omega) fun h => ?_ | refine ⟨fun h => ?_, fun h => ?_⟩ | refine aJ (by omega) (by omega) ?_ | refine ⟨_, rfl, ?_⟩ | refine ⟨by decide, ?_⟩ | refine ⟨by omega, ?_⟩ | fail
 | succ m ih =>
  intro i hi
  have hl : (vav (fillL (fun i : Nat => (nodAt c.ns (i : Int)).n) i (m + 1))).length = i + (m + 1) := by rw [List.length_map, fill_len]
  have hs := fill_set (fun i : Nat => (nodAt c.ns (i : Int)).n) i m
  have gn : (nav c.ns)[i]? = some (nodAt c.ns (i : Int)).av := nod_get (c := c) (n := (i : Int)) ⟨by omega, by omega⟩
  have next := ih (i + 1) (by omega)
  rw [← hs] at next
  refine gW hE ?_; conv => whnf
  refine aT (by omega) fun h => ?_
  refine gW hE ?_; conv => whnf
  refine ⟨i, rfl, ?_⟩
  refine gW hE ?_; conv => whnf
  refine ⟨_, gn, ?_⟩
  refine gW hE ?_; conv => whnf
  refine ⟨i, rfl, ?_⟩
  refine gW hE ?_; conv => whnf
  refine ⟨by omega, ?_⟩
  refine gW hE ?_; conv => whnf
  refine ⟨by omega, ?_⟩
  refine gW hE ?_; conv => whnf
  refine aJ (by omega) (by omega) ?_
  refine gW hE ?_; conv => whnf
  exact To.cut [1, 2, 4, 5, 13, 14, 15] 3 rfl rfl rfl rfl next
theorem nom_ok (c : Con) (hc : c.sm) (n : Int) : CallOK Tryz.prog 92 [c.av, ii n] [] (.ret (sumL c.ns n (nomL c.ns)).av) [] := by
 have h1 := hc.ns
 have hlen : (nav c.ns).length = c.ns.length := by simp
 refine cT (E := E) (fn := Tryz.f92) (g := .pure _) fun _ => ?_
 refine gW hE ?_; conv => whnf
 refine ⟨c.ns.length, by rw [hlen], ?_⟩
 refine gW hE ?_; conv => whnf
 refine ⟨⟨rfl, by omega, by simp only [maxLen]; omega⟩, ?_⟩
 refine gW hE ?_; conv => whnf
 have next := nom_loop c hc n _ rfl c.ns.length 0 (by omega)
 rw [fill_zero] at next
 exact To.cut [1, 2, 4, 5, 13, 14, 15] 3 rfl rfl rfl rfl next
abbrev ownF (c : Con) (used : List V3) (need : V3) : AVal := .func (.func 191) [] [.ptr c.cs, .ptr [.slice 3 (vav used) .no], .ptr need.cs]
abbrev allF (c : Con) (used : List V3) (need : V3) (t : Int) : AVal := .func (.func 192) [] [.ptr c.cs, .ptr [.slice 3 (vav used) .no], .ptr need.cs, .ptr [ii t]]
def ownB (c : Con) (used : List V3) (need : V3) (n : Int) : Bool := vfits (vadd (atV used n) need) (vadd (nodAt c.ns n).n (nodAt c.ns n).b)
def allB (c : Con) (used : List V3) (need : V3) (t n : Int) : Bool := vfits (vadd (vadd (sumL c.ns n used) need) (keptL c.ns used n t)) (sumL c.ns n (nomL c.ns))
theorem own_ok (c : Con) (used : List V3) (need : V3) (n : Int) (h : c.ok n) : CallOK Tryz.prog 191 [ii n, .ptr c.cs, .ptr [.slice 3 (vav used) .no], .ptr need.cs] [] (.ret (.bool (ownB c used need n))) [] := by
 have gn := nod_get h
 have hn : n = (n.toNat : Int) := by have := h.1; omega
 unfold ownB
 generalize nodAt c.ns n = x at gn ⊢
 refine cT (E := E) (fn := Tryz.f191) (g := .pure _) fun _ => ?_
 repeat' first | (refine gN hE rfl ?_; conv => whnf) | refine ⟨n.toNat, hn, ?_⟩ | refine ⟨_, gn, ?_⟩ | refine .pure _ [] (atV_ok used n) ?_ | refine .pure _ [] (vadd_ok (atV used n) need) ?_ | refine .pure _ [] (vadd_ok x.n x.b) ?_ | refine .pure _ [] (vfits_ok _ _) ?_ | exact rfl | refine aY ?_ | refine aN ?_ | refine aT (by omega) fun h => ?_ | refine aF (by omega) fun h => ?_ | refine ⟨fun h => ?_, fun h => ?_⟩ | refine aJ (by omega) (by omega) ?_ | refine ⟨_, rfl, ?_⟩ | refine ⟨by decide, ?_⟩ | refine ⟨by omega, ?_⟩ | fail
theorem allr_ok (c : Con) (hc : c.sm) (used : List V3) (need : V3) (t n : Int) : CallOK Tryz.prog 192 [ii n, .ptr c.cs, .ptr [.slice 3 (vav used) .no], .ptr need.cs, .ptr [ii t]] [] (.ret (.bool (allB c used need t n))) [] := by
 unfold allB
 refine cT (E := E) (fn := Tryz.f192) (g := .pure _) fun _ => ?_
 repeat' first | (refine gN hE rfl ?_; conv => whnf) | refine .pure _ [] (sum_ok c hc n used) ?_ | refine .pure _ [] (vadd_ok (sumL c.ns n used) need) ?_ | refine .pure _ [] (kept_ok c hc used n t) ?_ | refine .pure _ [] (vadd_ok (vadd (sumL c.ns n used) need) (keptL c.ns used n t)) ?_ | refine .pure _ [] (nom_ok c hc n) ?_ | refine .pure _ [] (vfits_ok _ _) ?_ | exact rfl | refine aY ?_ | refine aN ?_ | refine aT (by omega) fun h => ?_ | refine aF (by omega) fun h => ?_ | refine ⟨fun h => ?_, fun h => ?_⟩ | refine aJ (by omega) (by omega) ?_ | refine ⟨_, rfl, ?_⟩ | refine ⟨by decide, ?_⟩ | refine ⟨by omega, ?_⟩ | fail
noncomputable abbrev fRul : Func := Tryz.f177
def ruO (c : Con) (used : List V3) (need : V3) (t : Int) : List AObj := [.cells 26 c.cs, .cells 103 [.slice 3 (vav used) .no], .cells 3 [ii t], .cells 57 need.cs, .cells 214 [.nilfunc], .cells 214 [.nilfunc],
 .cells 214 [.func (.func 191) [] [.ref 0 0, .ref 1 0, .ref 3 0]], .cells 214 [.func (.func 192) [] [.ref 0 0, .ref 1 0, .ref 3 0, .ref 2 0]]]
def ruO' (c : Con) (used : List V3) (need : V3) (t : Int) : List AObj := [.fcells c.cs, .fcells [.slice 3 (vav used) .no], .fcells [ii t], .fcells need.cs, .cells 214 [.nilfunc], .cells 214 [.nilfunc],
 .fcells [ownF c used need], .fcells [allF c used need t]]
theorem ru_frz (c : Con) (used : List V3) (need : V3) (t : Int) : frzs [6, 7] (ruO c used need t) = ruO' c used need t := by kernel_rfl
theorem ru_frzF (c : Con) (used : List V3) (need : V3) (t : Int) : frzF [10, 11] (oget (ruO' c used need t)) [(8, .ref 4 0), (9, .ref 5 0), (10, .ref 6 0), (11, .ref 7 0)] = [(8, .ref 4 0), (9, .ref 5 0), (10, .ptr [ownF c used need]), (11, .ptr [allF c used need t])] := by kernel_rfl
theorem ru_step {g : Goal} {ks : List KI} (c : Con) (used : List V3) (need : V3) (t : Int) (h : To (Er [] [16, 17]) fRul g (.code ks [(8, .ref 4 0), (9, .ref 5 0), (10, .ptr [ownF c used need]), (11, .ptr [allF c used need t])] (ruO' c used need t))) :
  To (Er [] [16, 17]) fRul g (.code ks [(8, .ref 4 0), (9, .ref 5 0), (10, .ref 6 0), (11, .ref 7 0)] (ruO c used need t)) := by
 refine To.frz [10, 11] [6, 7] ?_
 rw [ru_frz, ru_frzF]
 exact h
theorem rules_ok (c : Con) (used : List V3) (need : V3) (t : Int) : CallOK Tryz.prog 177 [c.av, .slice 3 (vav used) .no, ii t, need.av] [] (.ret (.tup [.agg [ownF c used need], .agg [allF c used need t]])) [] := by
 refine cT (E := (Er [] [16, 17])) (fn := Tryz.f177) (g := .pure _) fun _ => ?_
 refine goes (hEr [] [16, 17]) 51 ?_; conv => whnf
 refine To.cutC [8, 9, 10, 11] 8 rfl rfl rfl rfl ?_
 refine ru_step c used need t ?_
 repeat' first | (refine gN (hEr [] [16, 17]) rfl ?_; conv => whnf) | exact rfl | refine aY ?_ | refine aN ?_ | refine aT (by omega) fun h => ?_ | refine aF (by omega) fun h => ?_ | refine ⟨fun h => ?_, fun h => ?_⟩ | refine aJ (by omega) (by omega) ?_ | refine ⟨_, rfl, ?_⟩ | refine ⟨by decide, ?_⟩ | refine ⟨by omega, ?_⟩ | fail
theorem ylds_find {P : Program} {l : Nat} {J J1 : BInv} {p : Int → Bool} {V : Int → Prop} (h0 : ∀ x, V x → p x = true → CallOKF P (.yield l) [ii x] [.bun 0 J] (.ret (.bool true)) [.bun 1 J]) (h1 : ∀ x, V x → p x = false → CallOKF P (.yield l) [ii x] [.bun 0 J] (.ret (.bool false)) [.bun 1 J1]) :
  ∀ (xs : List Int), (∀ x ∈ xs, V x) → Ylds P l xs J (if xs.all p = true then J else J1) (xs.all p)
 | [], _ => by simp; exact .nil _
 | x :: r, hv => by
  rw [List.all_cons]
  cases hp : p x with
  | true =>
   rw [Bool.true_and]
   exact .next x r _ _ _ _ (h0 x (hv x (by simp)) hp) (ylds_find h0 h1 r fun y hy => hv y (by simp [hy]))
  | false =>
   rw [Bool.false_and, if_neg (by decide)]
   exact .stop x r _ _ (h1 x (hv x (by simp)) hp)
noncomputable abbrev fMay : Func := Tryz.f154
def mayP (c : Con) (used : List V3) (t : Int) (need : V3) (x : Int) : Bool := if decide (x = t) = true then ownB c used need x else allB c used need t x
def mayB (c : Con) (used : List V3) (t : Int) (need : V3) : Bool := if leafB c.ns t = true then (upL c.ns t).all (mayP c used t need) else false
def myFr (f : AVal) : List (Nat × AVal) := [(6, .ref 1 0), (8, .ref 3 0), (9, .ref 4 0), (10, .ref 5 0), (26, f)]
def myObs (c : Con) (used : List V3) (t : Int) (need : V3) (b : Bool) (o : AObj) : List AObj := [.cells 26 c.cs, .cells 3 [ii t], .cells 57 need.cs, .cells 4 [.bool b], .cells 214 [ownF c used need], .cells 214 [allF c used need t], .dead, o]
abbrev upFn (c : Con) : AVal := .func (.func 185) [] [.ref 6 0, .ptr c.cs]
theorem my_go (c : Con) (hc : c.sm) (used : List V3) (t : Int) (need : V3) (x : Int) (hv : c.ok x) (k : Nat) (R : Loop) (hr : R.state = .ready) (hp : mayP c used t need x = true) :
  To (El k [] [] []) fMay (.keep 8 (.ret (.bool true)) (myObs c used t need false (.bun 0 (recI k (busy R))))) (.code [.code (rfA fMay), .beginR, .code (rfB fMay)] (putS (myFr (upFn c)) 27 (ii x)) (myObs c used t need false (.bun 0 (recI k R)))) := by
 unfold mayP at hp
 by_cases hx : x = t
 ·rw [if_pos (decide_eq_true hx)] at hp
  refine gW (hEl k [] [] []) ?_; conv => whnf
  refine To.beginR (k := 7) (gg := 0) rfl rfl hr ?_
  repeat' first | (refine gN (hEl k [] [] []) rfl ?_; conv => whnf) | refine .pure _ [] (own_ok c used need x hv) ?_ | refine .pure _ [] (allr_ok c hc used need t x) ?_ | exact ⟨⟨rfl, rfl⟩, ⟨rfl, rfl⟩⟩ | exact rfl | refine aY ?_ | refine aN ?_ | refine aT (by omega) fun h => ?_ | refine aF (by omega) fun h => ?_ | refine ⟨fun h => ?_, fun h => ?_⟩ | refine aJ (by omega) (by omega) ?_ | refine ⟨_, rfl, ?_⟩ | refine ⟨by decide, ?_⟩ | refine ⟨by omega, ?_⟩ | fail
  all_goals (exfalso; simp_all)
 ·rw [if_neg (by rw [decide_eq_false hx]; decide)] at hp
  refine gW (hEl k [] [] []) ?_; conv => whnf
  refine To.beginR (k := 7) (gg := 0) rfl rfl hr ?_
  repeat' first | (refine gN (hEl k [] [] []) rfl ?_; conv => whnf) | refine .pure _ [] (own_ok c used need x hv) ?_ | refine .pure _ [] (allr_ok c hc used need t x) ?_ | exact ⟨⟨rfl, rfl⟩, ⟨rfl, rfl⟩⟩ | exact rfl | refine aY ?_ | refine aN ?_ | refine aT (by omega) fun h => ?_ | refine aF (by omega) fun h => ?_ | refine ⟨fun h => ?_, fun h => ?_⟩ | refine aJ (by omega) (by omega) ?_ | refine ⟨_, rfl, ?_⟩ | refine ⟨by decide, ?_⟩ | refine ⟨by omega, ?_⟩ | fail
  all_goals (exfalso; simp_all)
theorem my_stop (c : Con) (hc : c.sm) (used : List V3) (t : Int) (need : V3) (x : Int) (hv : c.ok x) (k : Nat) (R : Loop) (hr : R.state = .ready) (hp : mayP c used t need x = false) :
  To (El k [] [] []) fMay (.keep 8 (.ret (.bool false)) (myObs c used t need false (.bun 0 (recI k (busy R))))) (.code [.code (rfA fMay), .beginR, .code (rfB fMay)] (putS (myFr (upFn c)) 27 (ii x)) (myObs c used t need false (.bun 0 (recI k R)))) := by
 unfold mayP at hp
 by_cases hx : x = t
 ·rw [if_pos (decide_eq_true hx)] at hp
  refine gW (hEl k [] [] []) ?_; conv => whnf
  refine To.beginR (k := 7) (gg := 0) rfl rfl hr ?_
  repeat' first | (refine gN (hEl k [] [] []) rfl ?_; conv => whnf) | refine .pure _ [] (own_ok c used need x hv) ?_ | refine .pure _ [] (allr_ok c hc used need t x) ?_ | exact ⟨⟨rfl, rfl⟩, ⟨rfl, rfl⟩⟩ | exact rfl | refine aY ?_ | refine aN ?_ | refine aT (by omega) fun h => ?_ | refine aF (by omega) fun h => ?_ | refine ⟨fun h => ?_, fun h => ?_⟩ | refine aJ (by omega) (by omega) ?_ | refine ⟨_, rfl, ?_⟩ | refine ⟨by decide, ?_⟩ | refine ⟨by omega, ?_⟩ | fail
  all_goals (exfalso; simp_all)
 ·rw [if_neg (by rw [decide_eq_false hx]; decide)] at hp
  refine gW (hEl k [] [] []) ?_; conv => whnf
  refine To.beginR (k := 7) (gg := 0) rfl rfl hr ?_
  repeat' first | (refine gN (hEl k [] [] []) rfl ?_; conv => whnf) | refine .pure _ [] (own_ok c used need x hv) ?_ | refine .pure _ [] (allr_ok c hc used need t x) ?_ | exact ⟨⟨rfl, rfl⟩, ⟨rfl, rfl⟩⟩ | exact rfl | refine aY ?_ | refine aN ?_ | refine aT (by omega) fun h => ?_ | refine aF (by omega) fun h => ?_ | refine ⟨fun h => ?_, fun h => ?_⟩ | refine aJ (by omega) (by omega) ?_ | refine ⟨_, rfl, ?_⟩ | refine ⟨by decide, ?_⟩ | refine ⟨by omega, ?_⟩ | fail
  all_goals (exfalso; simp_all)
theorem may_any (c : Con) (hc : c.sm) (used : List V3) (t : Int) (need : V3) (r : Bool) (hr : mayB c used t need = r) : CallOK Tryz.prog 154 [c.av, .slice 3 (vav used) .no, ii t, need.av] [] (.ret (.bool r)) [] := by
 have hnl : ((nav c.ns).length : Int) ≤ 9223372036854775807 := by have := hc.ns; simp only [List.length_map]; omega
 unfold mayB at hr
 refine cT (E := E) (fn := Tryz.f154) (g := .pure _) fun _ => ?_
 refine gW hE ?_; conv => whnf
 refine .pure _ [] (leaf_ok c t) ?_
 refine gW hE ?_; conv => whnf
 refine And.intro (fun h1 => ?_) (fun h1 => ?_)
 ·have h1 : leafB c.ns t = false := not_t h1
  rw [if_neg (by rw [h1]; decide)] at hr
  subst hr
  repeat' first | (refine gN hE rfl ?_; conv => whnf) | exact rfl | refine aY ?_ | refine aN ?_ | refine aT (by omega) fun h => ?_ | refine aF (by omega) fun h => ?_ | refine ⟨fun h => ?_, fun h => ?_⟩ | refine aJ (by omega) (by omega) ?_ | refine ⟨_, rfl, ?_⟩ | refine ⟨by decide, ?_⟩ | refine ⟨by omega, ?_⟩ | fail
 ·have h1 : leafB c.ns t = true := not_f h1
  rw [if_pos h1] at hr
  refine gW hE ?_; conv => whnf
  refine .pure _ [] (rules_ok c used need t) ?_
  refine gW hE ?_; conv => whnf
  refine .pure _ [.cells 3 [ii t]] (up_ok c t) ?_
  refine gW hE ?_; conv => whnf
  refine To.cutC [6, 8, 9, 10, 26] 7 rfl rfl rfl rfl ?_
  refine To.range [6] rfl rfl (fun _ _ => by rfl) rfl (fun _ _ => rfl) rfl fun k ob0 R hst hR => ?_
  have hyl := ylds_find (P := Tryz.prog) (l := k) (p := mayP c used t need) (V := c.ok) (J := cliI ob0 (myFr (upFn c)) R (myObs c used t need false (.bun 0 (recI k R)))) (J1 := cliI ob0 (myFr (upFn c)) R (myObs c used t need false (.bun 0 (recI k (recE R false)))))
   (fun x hv hp => yield_ok (E := Ex [] [] []) (fn := fMay) (k := 7) (n := 8) (p := 27) (gg := 0) (L' := myObs c used t need false (.bun 0 (recI k (busy R)))) (b := true) hR.params hR.ready hR.pend hR.assign hR.body hR.size rfl rfl rfl rfl rfl rfl rfl fun _ => my_go c hc used t need x hv k R hR.ready hp)
   (fun x hv hp => yield_ok (E := Ex [] [] []) (fn := fMay) (k := 7) (n := 8) (p := 27) (gg := 0) (L' := myObs c used t need false (.bun 0 (recI k (busy R)))) (b := false) hR.params hR.ready hR.pend hR.assign hR.body hR.size rfl rfl rfl rfl rfl rfl rfl fun _ => my_stop c hc used t need x hv k R hR.ready hp) (upL c.ns t) (fun x hx => upF_mem c _ _ x hx)
  rw [hr] at hyl
  obtain ⟨m, g', hup⟩ := up1_ok k c t _ _ r hnl hyl
  cases r with
  | true =>
   refine ⟨_, true, _, [.cells 3 [m]], g', hup, rfl, rfl, ?_⟩
   repeat' first | (refine gN hE rfl ?_; conv => whnf) | exact rfl | refine aY ?_ | refine aN ?_ | refine aT (by omega) fun h => ?_ | refine aF (by omega) fun h => ?_ | refine ⟨fun h => ?_, fun h => ?_⟩ | refine aJ (by omega) (by omega) ?_ | refine ⟨_, rfl, ?_⟩ | refine ⟨by decide, ?_⟩ | refine ⟨by omega, ?_⟩ | fail
  | false =>
   refine ⟨_, false, _, [.cells 3 [m]], g', hup, rfl, rfl, ?_⟩
   repeat' first | (refine gN hE rfl ?_; conv => whnf) | exact rfl | refine aY ?_ | refine aN ?_ | refine aT (by omega) fun h => ?_ | refine aF (by omega) fun h => ?_ | refine ⟨fun h => ?_, fun h => ?_⟩ | refine aJ (by omega) (by omega) ?_ | refine ⟨_, rfl, ?_⟩ | refine ⟨by decide, ?_⟩ | refine ⟨by omega, ?_⟩ | fail
theorem may_ok (c : Con) (hc : c.sm) (used : List V3) (t : Int) (need : V3) : CallOK Tryz.prog 154 [c.av, .slice 3 (vav used) .no, ii t, need.av] [] (.ret (.bool (mayB c used t need))) [] := may_any c hc used t need _ rfl
def hosAt (hs : List Hos) (n : Int) : Hos := (hs[n.toNat]?).getD ⟨0, 0, 0, V3.zero⟩
theorem hos_get {c : Con} {i : Nat} (h : i < c.hs.length) : (hav c.hs)[i]? = some (hosAt c.hs (i : Int)).av := by
 unfold hosAt
 rw [Int.toNat_natCast, List.getElem?_eq_getElem h]
 exact hav_get h
theorem vav_set (l : List V3) (i : Nat) (v : V3) : (vav l).set i v.av = vav (l.set i v) := by simp [vav, List.map_set]
def freeS (need : V3) (xs : List V3) (h : Int) : List V3 := if decide (0 ≤ h) = true then (if decide (h < (xs.length : Int)) = true then xs.set h.toNat (vsub ((xs[h.toNat]?).getD V3.zero) need) else xs) else xs
theorem freeS_len (need : V3) (xs : List V3) (h : Int) : (freeS need xs h).length = xs.length := by unfold freeS; split <;> (try split) <;> simp
def freeX (xs : List V3) (x : Rn) : List V3 := x.hs.foldl (freeS x.g.need) xs
theorem freeX_len (x : Rn) : ∀ (xs : List V3), (freeX xs x).length = xs.length := by
 unfold freeX
 generalize x.hs = l
 induction l with
 | nil => intro xs; rfl
 | cons h r ih => intro xs; rw [List.foldl_cons, ih, freeS_len]
def freeL (c : Con) (r : List Rn) : List V3 := r.foldl freeX ((List.range c.hs.length).map fun i : Nat => (hosAt c.hs (i : Int)).c)
noncomputable abbrev fFree : Func := Tryz.f132
abbrev frO (c : Con) (xs : List V3) : List AObj := [.cells 26 c.cs, .row 0 3 57 (vav xs)]
theorem free_in (c : Con) (r : List Rn) (R : List V3) (x : Rn) (j : Nat) (hh : x.hs.length ≤ 1048576) (hc : c.hs.length ≤ 1048576) (O : List AObj) :
  ∀ (m i : Nat) (xs : List V3), xs.length = c.hs.length → i + m = x.hs.length →
   To E fFree (.pure (.ret (.slice 3 (vav R) .no))) (.head (stk fFree 1) [(5, .row 1 0), (30, .slice 14 (rav r) .no), (31, .int .i64 ((rav r).length : Nat)), (32, .int .i64 ((j : Int) + 1))] (frO c ((x.hs.drop i).foldl (freeS x.g.need) xs))) →
   j < 1048576 →
  To E fFree (.pure (.ret (.slice 3 (vav R) .no))) (.head (stk fFree 2) [(5, .row 1 0), (9, .ref 2 0), (30, .slice 14 (rav r) .no), (31, .int .i64 ((rav r).length : Nat)), (32, .int .i64 j), (37, .slice 1 (iv x.hs) .no), (38, .int .i64 ((iv x.hs).length : Nat)), (39, .int .i64 i)] (frO c xs ++ [.cells 70 x.cs])) := by
 have hlen : (iv x.hs).length = x.hs.length := by simp
 intro m
 induction m with
 | zero =>
  intro i xs hx hi hto hj
  rw [List.drop_eq_nil_of_le (by omega)] at hto
  refine gW hE ?_; conv => whnf
  refine aF (by omega) fun h => ?_
  refine gW hE ?_; conv => whnf
  refine aJ (by omega) (by omega) ?_
  refine gW hE ?_; conv => whnf
  exact To.cut [5, 30, 31, 32] 2 rfl rfl rfl rfl hto
 | succ m ih =>
  intro i xs hx hi hto hj
  have hlt : i < x.hs.length := by omega
  rw [List.drop_eq_getElem_cons hlt, List.foldl_cons] at hto
  generalize hq : x.hs[i] = u0 at hto
  have get : (iv x.hs)[i]? = some (ii u0) := (iv_get hlt).trans (by rw [hq])
  have hvl : (vav xs).length = xs.length := by simp
  have next := ih (i + 1) (freeS x.g.need xs u0) (by rw [freeS_len]; exact hx) (by omega) hto hj
  unfold freeS frO at next
  refine gW hE ?_; conv => whnf
  refine aT (by omega) fun h => ?_
  refine gW hE ?_; conv => whnf
  refine ⟨i, rfl, ?_⟩
  refine gW hE ?_; conv => whnf
  refine ⟨_, get, ?_⟩
  by_cases h1 : 0 ≤ u0
  ·rw [if_pos (decide_eq_true h1)] at next
   by_cases h2 : u0 < (xs.length : Int)
   ·rw [if_pos (decide_eq_true h2)] at next
    have hl2 : u0.toNat < xs.length := by omega
    have hn : u0 = (u0.toNat : Int) := by omega
    rw [List.getElem?_eq_getElem hl2] at next
    have gv : (vav xs)[u0.toNat]? = some xs[u0.toNat].av := vav_get hl2
    rw [show ((some xs[u0.toNat]).getD V3.zero) = xs[u0.toNat] from rfl] at next
    generalize xs[u0.toNat] = u at gv next
    rw [← vav_set] at next
    repeat' first | (refine gN hE rfl ?_; conv => whnf) | refine ⟨u0.toNat, hn, ?_⟩ | refine ⟨_, gv, ?_⟩ | refine .pure _ [] (vsub_ok u x.g.need) ?_ | exact rfl | refine aY ?_ | refine aN ?_ | refine aT (by omega) fun h => ?_ | refine aF (by omega) fun h => ?_ | refine ⟨fun h => ?_, fun h => ?_⟩ | refine aJ (by omega) (by omega) ?_ | refine ⟨_, rfl, ?_⟩ | refine ⟨by decide, ?_⟩ | refine ⟨by omega, ?_⟩ | fail
    exact To.cut [5, 9, 30, 31, 32, 37, 38, 39] 3 rfl rfl rfl rfl next
   ·rw [if_neg (by rw [decide_eq_false h2]; decide)] at next
    repeat' first | (refine gN hE rfl ?_; conv => whnf) | exact rfl | refine aY ?_ | refine aN ?_ | refine aT (by omega) fun h => ?_ | refine aF (by omega) fun h => ?_ | refine ⟨fun h => ?_, fun h => ?_⟩ | refine aJ (by omega) (by omega) ?_ | refine ⟨_, rfl, ?_⟩ | refine ⟨by decide, ?_⟩ | refine ⟨by omega, ?_⟩ | fail
    exact To.cut [5, 9, 30, 31, 32, 37, 38, 39] 3 rfl rfl rfl rfl next
  ·rw [if_neg (by rw [decide_eq_false h1]; decide)] at next
   repeat' first | (refine gN hE rfl ?_; conv => whnf) | exact rfl | refine aY ?_ | refine aN ?_ | refine aT (by omega) fun h => ?_ | refine aF (by omega) fun h => ?_ | refine ⟨fun h => ?_, fun h => ?_⟩ | refine aJ (by omega) (by omega) ?_ | refine ⟨_, rfl, ?_⟩ | refine ⟨by decide, ?_⟩ | refine ⟨by omega, ?_⟩ | fail
   exact To.cut [5, 9, 30, 31, 32, 37, 38, 39] 3 rfl rfl rfl rfl next
def Sm (l : List Rn) : Prop := l.length ≤ 1048576 ∧ ∀ x ∈ l, x.hs.length ≤ 1048576
theorem Sm.at {l : List Rn} (h : Sm l) {i : Nat} (hi : i < l.length) : l[i].hs.length ≤ 1048576 := h.2 _ (List.getElem_mem hi)
theorem free_out (c : Con) (hc : c.sm) (r : List Rn) (hr : Sm r) (R : List V3) : ∀ (m i : Nat) (xs : List V3), i + m = r.length → xs.length = c.hs.length → (r.drop i).foldl freeX xs = R →
  To E fFree (.pure (.ret (.slice 3 (vav R) .no))) (.head (stk fFree 1) [(5, .row 1 0), (30, .slice 14 (rav r) .no), (31, .int .i64 ((rav r).length : Nat)), (32, .int .i64 i)] (frO c xs)) := by
 have hlen : (rav r).length = r.length := by simp
 have hl := hr.1
 intro m
 induction m with
 | zero =>
  intro i xs hi hx hR
  rw [List.drop_eq_nil_of_le (by omega)] at hR
  subst hR
  refine gW hE ?_; conv => whnf
  refine aF (by omega) fun h => ?_
  repeat' first | (refine gN hE rfl ?_; conv => whnf) | exact rfl | refine aY ?_ | refine aN ?_ | refine aT (by omega) fun h => ?_ | refine aF (by omega) fun h => ?_ | refine ⟨fun h => ?_, fun h => ?_⟩ | refine aJ (by omega) (by omega) ?_ | refine ⟨_, rfl, ?_⟩ | refine ⟨by decide, ?_⟩ | refine ⟨by omega, ?_⟩ | fail
 | succ m ih =>
  intro i xs hi hx hR
  have hlt : i < r.length := by omega
  have hb := hr.at hlt
  rw [List.drop_eq_getElem_cons hlt, List.foldl_cons] at hR
  generalize hq : r[i] = x at hR hb
  have get : (rav r)[i]? = some x.av := (rav_get hlt).trans (by rw [hq])
  have next := ih (i + 1) (freeX xs x) (by omega) (by rw [freeX_len]; exact hx) hR
  refine gW hE ?_; conv => whnf
  refine aT (by omega) fun h => ?_
  refine gW hE ?_; conv => whnf
  refine ⟨i, rfl, ?_⟩
  refine gW hE ?_; conv => whnf
  refine ⟨_, get, ?_⟩
  refine gW hE ?_; conv => whnf
  exact To.cut [5, 9, 30, 31, 32, 37, 38, 39] 3 rfl rfl rfl rfl (free_in c r R x i hb hc.hs [] x.hs.length 0 xs hx (by omega) next (by omega))
theorem free_fill (c : Con) (hc : c.sm) (r : List Rn) (hr : Sm r) : ∀ (m i : Nat), i + m = c.hs.length →
  To E fFree (.pure (.ret (.slice 3 (vav (freeL c r)) .no))) (.head (stk fFree 0) [(1, .slice 14 (rav r) .no), (2, .ref 0 0), (5, .row 1 0), (17, .slice 6 (hav c.hs) .no), (18, .int .i64 ((hav c.hs).length : Nat)), (19, .int .i64 i)] (frO c (fillL (fun i : Nat => (hosAt c.hs (i : Int)).c) i m))) := by
 have hlen : (hav c.hs).length = c.hs.length := by simp
 have h1 := hc.hs
 intro m
 induction m with
 | zero =>
  intro i hi
  rw [fill_end]
  refine gW hE ?_; conv => whnf
  refine aF (by omega) fun h => ?_
  refine gW hE ?_; conv => whnf
  refine To.cut [5, 30, 31, 32] 2 rfl rfl rfl rfl ?_
  exact free_out c hc r hr _ r.length 0 _ (by omega) (by simp; omega) (by unfold freeL; rw [← hi]; rfl)
 | succ m ih =>
  intro i hi
  have hl : (vav (fillL (fun i : Nat => (hosAt c.hs (i : Int)).c) i (m + 1))).length = i + (m + 1) := by rw [List.length_map, fill_len]
  have hs := fill_set (fun i : Nat => (hosAt c.hs (i : Int)).c) i m
  have gn : (hav c.hs)[i]? = some (hosAt c.hs (i : Int)).av := hos_get (by omega)
  have next := ih (i + 1) (by omega)
  unfold frO at next
  rw [← hs] at next
  refine gW hE ?_; conv => whnf
  refine aT (by omega) fun h => ?_
  refine gW hE ?_; conv => whnf
  refine ⟨i, rfl, ?_⟩
  refine gW hE ?_; conv => whnf
  refine ⟨_, gn, ?_⟩
  refine gW hE ?_; conv => whnf
  refine ⟨i, rfl, ?_⟩
  refine gW hE ?_; conv => whnf
  refine ⟨by omega, ?_⟩
  refine gW hE ?_; conv => whnf
  refine ⟨by omega, ?_⟩
  refine gW hE ?_; conv => whnf
  refine aJ (by omega) (by omega) ?_
  refine gW hE ?_; conv => whnf
  exact To.cut [1, 2, 5, 17, 18, 19] 2 rfl rfl rfl rfl next
theorem free_ok (c : Con) (hc : c.sm) (r : List Rn) (hr : Sm r) : CallOK Tryz.prog 132 [c.av, .slice 14 (rav r) .no] [] (.ret (.slice 3 (vav (freeL c r)) .no)) [] := by
 have h1 := hc.hs
 have hlen : (hav c.hs).length = c.hs.length := by simp
 refine cT (E := E) (fn := Tryz.f132) (g := .pure _) fun _ => ?_
 refine gW hE ?_; conv => whnf
 refine ⟨c.hs.length, by rw [hlen], ?_⟩
 refine gW hE ?_; conv => whnf
 refine ⟨⟨rfl, by omega, by simp only [maxLen]; omega⟩, ?_⟩
 refine gW hE ?_; conv => whnf
 have next := free_fill c hc r hr c.hs.length 0 (by omega)
 unfold frO at next
 rw [fill_zero] at next
 exact To.cut [1, 2, 5, 17, 18, 19] 2 rfl rfl rfl rfl next
theorem tdiv_r {a b : Int} (ha : 0 ≤ a) (hb : 0 < b) (h2 : a ≤ 9223372036854775807) : inR .i64 (Int.tdiv a b) := by
 have h3 : (Int.tdiv a b).natAbs ≤ a.natAbs := by
  rw [Int.natAbs_tdiv]
  exact Nat.div_le_self _ _
 have h4 : 0 ≤ Int.tdiv a b := Int.tdiv_nonneg ha (by omega)
 exact ⟨by simp only [kmin]; omega, by simp only [kmax]; omega⟩
def roomS (n free need : Int) : Int := if decide (0 < need) = true then min n (Int.tdiv free need) else n
def roomI (free need : V3) : Int := if vfits need free = true then roomS (roomS (roomS 16 free.a need.a) free.b need.b) free.c need.c else 0
theorem v3_r (v : V3) (M : Imm) (ob : Hs) (vs : List Value) (qs : List AVal) (h : RepL M ob vs (v.av :: qs)) : inR .i64 v.a ∧ inR .i64 v.b ∧ inR .i64 v.c := by
 have hl : 0 < vs.length := by rw [h.1]; simp
 have := h.2 0 _ v.av (List.getElem?_eq_getElem hl) rfl
 exact ⟨rep_agg_at this 0 _ rfl, rep_agg_at this 1 _ rfl, rep_agg_at this 2 _ rfl⟩
theorem room_any (free need : V3) (r : Int) (hr : roomI free need = r) : CallOK Tryz.prog 159 [free.av, need.av] [] (.ret (ii r)) [] := by
 refine CallOK.get _ (fun M ob vs h => v3_r free M ob vs _ h) fun ⟨⟨a1, a2⟩, ⟨b1, b2⟩, ⟨c1, c2⟩⟩ => ?_
 simp only [kmin, kmax] at a1 a2 b1 b2 c1 c2
 unfold roomI at hr
 refine cT (E := E) (fn := Tryz.f159) (g := .pure _) fun _ => ?_
 refine gW hE ?_; conv => whnf
 refine .pure _ [] (vover_ok need free) ?_
 refine gW hE ?_; conv => whnf
 refine And.intro (fun h1 => ?_) (fun h1 => ?_)
 ·have h1 : vfits need free = false := not_t h1
  rw [if_neg (by rw [h1]; decide)] at hr
  subst hr
  repeat' first | (refine gN hE rfl ?_; conv => whnf) | exact rfl | refine aY ?_ | refine aN ?_ | refine aT (by omega) fun h => ?_ | refine aF (by omega) fun h => ?_ | refine ⟨fun h => ?_, fun h => ?_⟩ | refine aJ (by omega) (by omega) ?_ | refine ⟨_, rfl, ?_⟩ | refine ⟨by decide, ?_⟩ | refine ⟨by omega, ?_⟩ | fail
 ·have h1 : vfits need free = true := not_f h1
  rw [if_pos h1] at hr
  unfold roomS at hr
  have hf : need.a ≤ free.a ∧ need.b ≤ free.b ∧ need.c ≤ free.c := by
   unfold vfits at h1
   split at h1
   ·cases h1
   ·split at h1
    ·cases h1
    ·split at h1
     ·cases h1
     ·rename_i q1 q2 q3
      simp only [decide_eq_true_eq] at q1 q2 q3
      omega
  by_cases p1 : 0 < need.a <;> by_cases p2 : 0 < need.b <;> by_cases p3 : 0 < need.c <;> simp only [p1, p2, p3, decide_true, decide_false, if_true, if_false, Bool.false_eq_true] at hr
  all_goals (refine gW hE ?_; conv => whnf)
  all_goals repeat' first
   | (refine gW hE ?_; conv => whnf)
   | exact hr ▸ rfl
   | refine aY ?_
   | refine aN ?_
   | refine aT (by omega) fun h => ?_
   | refine aF (by omega) fun h => ?_
   | refine aJ (by omega) (by omega) ?_
   | refine Or.inl (And.intro (tdiv_r (by omega) (by omega) (by omega)) ?_)
   | refine Exists.intro _ (And.intro rfl ?_)
   | refine And.intro (by decide) ?_
   | refine And.intro (by omega) ?_
   | fail
theorem room_ok (free need : V3) : CallOK Tryz.prog 159 [free.av, need.av] [] (.ret (ii (roomI free need))) [] := room_any free need _ rfl
def ofK (h : Hos) (i lv : Int) : List Int := [h.f, if decide (2 < lv) = true then 0 else h.b, if decide (1 < lv) = true then 0 else h.r, if decide (0 < lv) = true then 0 else i]
theorem of1_any (h : Hos) (i lv : Int) (K : List AVal) (hK : (ofK h i lv).map ii = K) : CallOK Tryz.prog 183 [h.av, ii i, ii lv] [] (.ret (.agg K)) [] := by
 unfold ofK at hK
 refine cT (E := E) (fn := Tryz.f183) (g := .pure _) fun _ => ?_
 repeat' first | (refine gN hE rfl ?_; conv => whnf) | exact rfl | refine aY ?_ | refine aN ?_ | refine aT (by omega) fun h => ?_ | refine aF (by omega) fun h => ?_ | refine ⟨fun h => ?_, fun h => ?_⟩ | refine aJ (by omega) (by omega) ?_ | refine ⟨_, rfl, ?_⟩ | refine ⟨by decide, ?_⟩ | refine ⟨by omega, ?_⟩ | fail
 all_goals first
  | (subst hK; simp only [*, Bool.false_eq_true, if_true, if_false, List.map]; done)
  | (exfalso; simp only [decide_eq_true_eq, decide_eq_false_iff_not] at *; omega)
theorem of1_ok (h : Hos) (i lv : Int) : CallOK Tryz.prog 183 [h.av, ii i, ii lv] [] (.ret (.agg ((ofK h i lv).map ii))) [] := of1_any h i lv _ rfl
theorem upto16 {n : Nat} (h : n ≤ 16) : n = 0 ∨ n = 1 ∨ n = 2 ∨ n = 3 ∨ n = 4 ∨ n = 5 ∨ n = 6 ∨ n = 7 ∨ n = 8 ∨ n = 9 ∨ n = 10 ∨ n = 11 ∨ n = 12 ∨ n = 13 ∨ n = 14 ∨ n = 15 ∨ n = 16 := by omega
theorem mul64_ok (n : Nat) (hn : n ≤ 16) : CallOK Tryz.prog 199 [.int .u64 1, .int .u64 (n : Int)] [] (.ret (.tup [.int .u64 0, .int .u64 (n : Int)])) [] := by
 rcases upto16 hn with rfl | rfl | rfl | rfl | rfl | rfl | rfl | rfl | rfl | rfl | rfl | rfl | rfl | rfl | rfl | rfl | rfl
 all_goals
  refine cT (E := E) (fn := Tryz.f199) (g := .pure _) fun _ => ?_
  repeat' first
   | (refine gN hE rfl ?_; conv => whnf)
   | exact rfl
   | refine Or.inl (And.intro (And.intro (by decide) (by decide)) ?_)
   | refine And.intro (by decide) ?_
   | fail
theorem mul_ok (n : Nat) (hn : n ≤ 16) : CallOK Tryz.prog 196 [.int .u64 1, .int .u64 (n : Int)] [] (.ret (.tup [.int .u64 0, .int .u64 (n : Int)])) [] := by
 refine cT (E := E) (fn := Tryz.f196) (g := .pure _) fun _ => ?_
 repeat' first | (refine gN hE rfl ?_; conv => whnf) | refine .pure _ [] (mul64_ok n hn) ?_ | exact rfl | refine aY ?_ | refine aN ?_ | refine aT (by omega) fun h => ?_ | refine aF (by omega) fun h => ?_ | refine ⟨fun h => ?_, fun h => ?_⟩ | refine aJ (by omega) (by omega) ?_ | refine ⟨_, rfl, ?_⟩ | refine ⟨by decide, ?_⟩ | refine ⟨by omega, ?_⟩ | fail
def rp (h : Int) (k m : Nat) : List AVal := iv (List.replicate k h) ++ List.replicate m (ii 0)
theorem rp_len (h : Int) (k m : Nat) : (rp h k m).length = k + m := by simp [rp]
noncomputable abbrev fRep : Func := Tryz.f194
theorem rp_step (h : Int) (k m : Nat) : ((k : Int) + ↑(min (List.take k (List.drop 0 (rp h k m))).length ((rp h k m).length - k))) = ((k + min k m : Nat) : Int) ∧
  (rp h k m).take k ++ (List.take k (List.drop 0 (rp h k m))).take ((rp h k m).length - k) ++ (rp h k m).drop (k + min (List.take k (List.drop 0 (rp h k m))).length ((rp h k m).length - k)) = rp h (k + min k m) (m - min k m) := by
 have hA : (iv (List.replicate k h)).length = k := by simp
 have h1 : (rp h k m).take k = iv (List.replicate k h) := by unfold rp; rw [List.take_append_of_le_length (by omega), List.take_of_length_le (by omega)]
 have hl := rp_len h k m
 rw [List.drop_zero, h1, hl, hA, show k + m - k = m from by omega]
 refine ⟨by omega, ?_⟩
 have h2 : (rp h k m).drop (k + min k m) = List.replicate (m - min k m) (ii 0) := by
  unfold rp
  rw [List.drop_append, hA, List.drop_of_length_le (by omega), List.nil_append, List.drop_replicate]
  congr 1
  omega
 rw [h2]
 unfold rp
 congr 1
 simp only [iv, List.map_replicate, List.take_replicate, List.replicate_append_replicate]
 congr 1
 omega
theorem rep_loop (h0' : Int) (N : Nat) (hN : N ≤ 16) : ∀ (f k m : Nat), k + m = N → 1 ≤ k → m ≤ f →
  To (Er [] [38]) fRep (.pure (.ret (.slice 1 (iv (List.replicate N h0')) .no))) (.head (stk fRep 0) [(7, .row 0 0), (8, .int .i64 (k : Int))] [.row 0 1 3 (rp h0' k m)]) := by
 intro f
 induction f with
 | zero =>
  intro k m hk h1 hm
  have hm : m = 0 := by omega
  subst hm
  have hl := rp_len h0' k 0
  have hk : k = N := by omega
  subst hk
  have e : rp h0' k 0 = iv (List.replicate k h0') := by simp [rp]
  rw [e] at hl ⊢
  refine gW (hEr [] [38]) ?_; conv => whnf
  refine aF (by omega) fun h => ?_
  repeat' first | (refine gN (hEr [] [38]) rfl ?_; conv => whnf) | exact rfl | refine aY ?_ | refine aN ?_ | refine aT (by omega) fun h => ?_ | refine aF (by omega) fun h => ?_ | refine ⟨fun h => ?_, fun h => ?_⟩ | refine Or.inl (And.intro (And.intro (by simp only [kmin]; omega) (by simp only [kmax]; omega)) ?_) | refine ⟨_, rfl, ?_⟩ | refine ⟨by decide, ?_⟩ | refine ⟨by omega, ?_⟩ | fail
 | succ f ih =>
  intro k m hk h1 hm
  by_cases h0 : m = 0
  ·subst h0
   have hl := rp_len h0' k 0
   have hk : k = N := by omega
   subst hk
   have e : rp h0' k 0 = iv (List.replicate k h0') := by simp [rp]
   rw [e] at hl ⊢
   refine gW (hEr [] [38]) ?_; conv => whnf
   refine aF (by omega) fun h => ?_
   repeat' first | (refine gN (hEr [] [38]) rfl ?_; conv => whnf) | exact rfl | refine aY ?_ | refine aN ?_ | refine aT (by omega) fun h => ?_ | refine aF (by omega) fun h => ?_ | refine ⟨fun h => ?_, fun h => ?_⟩ | refine Or.inl (And.intro (And.intro (by simp only [kmin]; omega) (by simp only [kmax]; omega)) ?_) | refine ⟨_, rfl, ?_⟩ | refine ⟨by decide, ?_⟩ | refine ⟨by omega, ?_⟩ | fail
  have hl := rp_len h0' k m
  have next := ih (k + min k m) (m - min k m) (by omega) (by omega) (by omega)
  generalize hX : rp h0' k m = X at hl ⊢
  refine gW (hEr [] [38]) ?_; conv => whnf
  refine aT (by omega) fun h => ?_
  refine gW (hEr [] [38]) ?_; conv => whnf
  refine ⟨k, rfl, ?_⟩
  refine gW (hEr [] [38]) ?_; conv => whnf
  refine ⟨by omega, ?_⟩
  refine gW (hEr [] [38]) ?_; conv => whnf
  refine ⟨k, rfl, ?_⟩
  refine gW (hEr [] [38]) ?_; conv => whnf
  refine ⟨by omega, ?_⟩
  refine gW (hEr [] [38]) ?_; conv => whnf
  rw [← hX] at hl ⊢
  obtain ⟨e1, e2⟩ := rp_step h0' k m
  rw [← e1, ← e2] at next
  have e3 : min (List.take k (List.drop 0 (rp h0' k m))).length ((rp h0' k m).length - k) ≤ 16 := by
   have : (rp h0' k m).length = k + m := rp_len h0' k m
   omega
  refine Or.inl (And.intro (And.intro (by simp only [kmin]; omega) (by simp only [kmax]; omega)) ?_)
  refine gW (hEr [] [38]) ?_; conv => whnf
  exact To.head [7, 8] next
theorem rp_first (h : Int) (m : Nat) : ((1 : Nat) : Int) = ↑(min [ii h].length (List.replicate (m + 1) (AVal.int .i64 0)).length) ∧ rp h 1 m = [ii h].take (List.replicate (m + 1) (AVal.int .i64 0)).length ++ (List.replicate (m + 1) (AVal.int .i64 0)).drop [ii h].length := by
 refine ⟨by simp, ?_⟩
 simp [rp, List.drop_replicate]
theorem rep_ok (h : Int) (n : Nat) (hn : n ≤ 16) : CallOK Tryz.prog 194 [.slice 1 [ii h] .no, ii (n : Int)] [] (.ret (.slice 1 (iv (List.replicate n h)) .no)) [] := by
 have hm := mul_ok n hn
 cases n with
 | zero =>
  refine cT (E := (Er [] [38])) (fn := Tryz.f194) (g := .pure _) fun _ => ?_
  refine gW (hEr [] [38]) ?_; conv => whnf
  refine aF (by omega) fun h => ?_
  refine gW (hEr [] [38]) ?_; conv => whnf
  refine Or.inl (And.intro (And.intro (by simp only [kmin, List.length_cons, List.length_nil]; omega) (by simp only [kmax, List.length_cons, List.length_nil]; omega)) ?_)
  refine gW (hEr [] [38]) ?_; conv => whnf
  refine Or.inl (And.intro (And.intro (by simp only [kmin]; omega) (by simp only [kmax]; omega)) ?_)
  refine gW (hEr [] [38]) ?_; conv => whnf
  refine .pure _ [] hm ?_
  refine gW (hEr [] [38]) ?_; conv => whnf
  refine aF (by omega) fun h => ?_
  refine gW (hEr [] [38]) ?_; conv => whnf
  refine aF (by omega) fun h => ?_
  refine gW (hEr [] [38]) ?_; conv => whnf
  refine Or.inl (And.intro (And.intro (by simp only [kmin]; omega) (by simp only [kmax]; omega)) ?_)
  refine gW (hEr [] [38]) ?_; conv => whnf
  refine ⟨0, rfl, ?_⟩
  refine gW (hEr [] [38]) ?_; conv => whnf
  refine ⟨⟨rfl, by omega, by simp only [maxLen]; omega⟩, ?_⟩
  refine gW (hEr [] [38]) ?_; conv => whnf
  refine gW (hEr [] [38]) ?_; conv => whnf
  refine aN ?_
  repeat' first | (refine gN (hEr [] [38]) rfl ?_; conv => whnf) | exact rfl | refine aY ?_ | refine aN ?_ | refine aT (by omega) fun h => ?_ | refine aF (by omega) fun h => ?_ | refine ⟨fun h => ?_, fun h => ?_⟩ | refine Or.inl (And.intro (And.intro (by simp only [kmin]; omega) (by simp only [kmax]; omega)) ?_) | refine ⟨_, rfl, ?_⟩ | refine ⟨by decide, ?_⟩ | refine ⟨by omega, ?_⟩ | fail
 | succ m =>
  have next := rep_loop h (m + 1) hn (m + 1) 1 m (by omega) (by omega) (by omega)
  obtain ⟨e1, e2⟩ := rp_first h m
  rw [e1, e2] at next
  refine cT (E := (Er [] [38])) (fn := Tryz.f194) (g := .pure _) fun _ => ?_
  refine gW (hEr [] [38]) ?_; conv => whnf
  refine aF (by omega) fun h => ?_
  refine gW (hEr [] [38]) ?_; conv => whnf
  refine Or.inl (And.intro (And.intro (by simp only [kmin, List.length_cons, List.length_nil]; omega) (by simp only [kmax, List.length_cons, List.length_nil]; omega)) ?_)
  refine gW (hEr [] [38]) ?_; conv => whnf
  refine Or.inl (And.intro (And.intro (by simp only [kmin]; omega) (by simp only [kmax]; omega)) ?_)
  refine gW (hEr [] [38]) ?_; conv => whnf
  refine .pure _ [] hm ?_
  refine gW (hEr [] [38]) ?_; conv => whnf
  refine aF (by omega) fun h => ?_
  refine gW (hEr [] [38]) ?_; conv => whnf
  refine aF (by omega) fun h => ?_
  refine gW (hEr [] [38]) ?_; conv => whnf
  refine Or.inl (And.intro (And.intro (by simp only [kmin]; omega) (by simp only [kmax]; omega)) ?_)
  refine gW (hEr [] [38]) ?_; conv => whnf
  refine ⟨m + 1, rfl, ?_⟩
  refine gW (hEr [] [38]) ?_; conv => whnf
  refine ⟨⟨rfl, by omega, by simp only [maxLen]; omega⟩, ?_⟩
  refine gW (hEr [] [38]) ?_; conv => whnf
  exact To.head [7, 8] next
theorem roomI_le (a b : V3) : roomI a b ≤ 16 := by
 have h : ∀ n f k, n ≤ 16 → roomS n f k ≤ 16 := fun n f k h => by unfold roomS; split <;> omega
 unfold roomI
 split
 ·exact h _ _ _ (h _ _ _ (h _ _ _ (by decide)))
 ·decide
def inN (free need : V3) (pods len : Int) : Int := min (roomI free need) (pods - len)
def inS (free : List V3) (g : Gan) (out : List Int) (h : Int) : List Int := if decide (h < 0) = true then out else if decide ((free.length : Int) ≤ h) = true then out else out ++ List.replicate (max (inN ((free[h.toNat]?).getD V3.zero) g.need g.pods out.length) 0).toNat h
def inL (free : List V3) (g : Gan) (gr : List Int) : List Int := gr.foldl (inS free g) []
theorem inS_len (free : List V3) (g : Gan) (out : List Int) (h : Int) (hp : (out.length : Int) ≤ g.pods) : ((inS free g out h).length : Int) ≤ g.pods := by
 unfold inS
 split
 ·exact hp
 ·split
  ·exact hp
  ·simp only [List.length_append, List.length_replicate, inN]
   omega
noncomputable abbrev fIn : Func := Tryz.f178
def inR2 (out : List Int) (g : Gan) : AVal := if decide ((out.length : Int) < g.pods) = true then .tup [.slice 1 [] .no, .bool false] else .tup [.slice 1 (iv out) .no, .bool true]
theorem in_loop (c : Con) (free : List V3) (g : Gan) (hg : 0 ≤ g.pods ∧ g.pods ≤ 16) (gr : List Int) (hl : gr.length ≤ 1048576) (R : List Int) : ∀ (m i : Nat) (out : List Int), i + m = gr.length → (out.length : Int) ≤ g.pods → (gr.drop i).foldl (inS free g) out = R →
  To (Eo [10] []) fIn (.pure (.ret (inR2 R g))) (.head (stk fIn 0) [(1, .slice 3 (vav free) .no), (7, .ref 1 0), (10, .slice 1 (iv out) (.own 2 0)), (14, .slice 1 (iv gr) .no), (15, .int .i64 ((iv gr).length : Nat)), (16, .int .i64 i)] [.cells 26 c.cs, .cells 59 g.cs, .tail 0 1 3]) := by
 have hlen : (iv gr).length = gr.length := by simp
 have hfl : (vav free).length = free.length := by simp
 intro m
 induction m with
 | zero =>
  intro i out hi hp hR
  rw [List.drop_eq_nil_of_le (by omega)] at hR
  have hR : out = R := hR
  subst hR
  have hol : (iv out).length = out.length := by simp
  obtain ⟨Q, hQ⟩ : ∃ Q, Q = inR2 out g := ⟨_, rfl⟩
  rw [← hQ]
  unfold inR2 at hQ
  by_cases h1 : (out.length : Int) < g.pods
  ·rw [if_pos (decide_eq_true h1)] at hQ
   subst hQ
   refine gW (hEo [10] []) ?_; conv => whnf
   refine aF (by omega) fun h => ?_
   repeat' first | (refine gN (hEo [10] []) rfl ?_; conv => whnf) | exact rfl | refine aY ?_ | refine aN ?_ | refine aT (by omega) fun h => ?_ | refine aF (by omega) fun h => ?_ | refine ⟨fun h => ?_, fun h => ?_⟩ | refine aJ (by omega) (by omega) ?_ | refine ⟨_, rfl, ?_⟩ | refine ⟨by decide, ?_⟩ | refine ⟨by omega, ?_⟩ | fail
  ·rw [if_neg (by rw [decide_eq_false h1]; decide)] at hQ
   subst hQ
   refine gW (hEo [10] []) ?_; conv => whnf
   refine aF (by omega) fun h => ?_
   repeat' first | (refine gN (hEo [10] []) rfl ?_; conv => whnf) | exact rfl | refine aY ?_ | refine aN ?_ | refine aT (by omega) fun h => ?_ | refine aF (by omega) fun h => ?_ | refine ⟨fun h => ?_, fun h => ?_⟩ | refine aJ (by omega) (by omega) ?_ | refine ⟨_, rfl, ?_⟩ | refine ⟨by decide, ?_⟩ | refine ⟨by omega, ?_⟩ | fail
 | succ m ih =>
  intro i out hi hp hR
  have hlt : i < gr.length := by omega
  rw [List.drop_eq_getElem_cons hlt, List.foldl_cons] at hR
  have hp2 := inS_len free g out gr[i] hp
  generalize hx : gr[i] = u0 at hR hp2
  have get : (iv gr)[i]? = some (ii u0) := (iv_get hlt).trans (by rw [hx])
  have hol : (iv out).length = out.length := by simp
  have next := ih (i + 1) (inS free g out u0) (by omega) hp2 hR
  unfold inS at next
  refine gW (hEo [10] []) ?_; conv => whnf
  refine aT (by omega) fun h => ?_
  refine gW (hEo [10] []) ?_; conv => whnf
  refine ⟨i, rfl, ?_⟩
  refine gW (hEo [10] []) ?_; conv => whnf
  refine ⟨_, get, ?_⟩
  by_cases h1 : u0 < 0
  ·rw [if_pos (decide_eq_true h1)] at next
   repeat' first | (refine gN (hEo [10] []) rfl ?_; conv => whnf) | exact rfl | refine aY ?_ | refine aN ?_ | refine aT (by omega) fun h => ?_ | refine aF (by omega) fun h => ?_ | refine ⟨fun h => ?_, fun h => ?_⟩ | refine aJ (by omega) (by omega) ?_ | refine ⟨_, rfl, ?_⟩ | refine ⟨by decide, ?_⟩ | refine ⟨by omega, ?_⟩ | fail
   refine To.part [1, 7, 10, 14, 15, 16] [0, 1, 2] rfl rfl rfl ?_
   exact next
  ·rw [if_neg (by rw [decide_eq_false h1]; decide)] at next
   by_cases h2 : (free.length : Int) ≤ u0
   ·rw [if_pos (decide_eq_true h2)] at next
    repeat' first | (refine gN (hEo [10] []) rfl ?_; conv => whnf) | exact rfl | refine aY ?_ | refine aN ?_ | refine aT (by omega) fun h => ?_ | refine aF (by omega) fun h => ?_ | refine ⟨fun h => ?_, fun h => ?_⟩ | refine aJ (by omega) (by omega) ?_ | refine ⟨_, rfl, ?_⟩ | refine ⟨by decide, ?_⟩ | refine ⟨by omega, ?_⟩ | fail
    refine To.part [1, 7, 10, 14, 15, 16] [0, 1, 2] rfl rfl rfl ?_
    exact next
   ·rw [if_neg (by rw [decide_eq_false h2]; decide)] at next
    have hl2 : u0.toNat < free.length := by omega
    have hn : u0 = (u0.toNat : Int) := by omega
    rw [List.getElem?_eq_getElem hl2] at next
    have gv : (vav free)[u0.toNat]? = some free[u0.toNat].av := vav_get hl2
    rw [show ((some free[u0.toNat]).getD V3.zero) = free[u0.toNat] from rfl] at next
    generalize free[u0.toNat] = f0 at gv next
    have hr16 := roomI_le f0 g.need
    have hn16 : (max (inN f0 g.need g.pods out.length) 0).toNat ≤ 16 := by unfold inN; omega
    have hnn : max (min (roomI f0 g.need) (g.pods - ((iv out).length : Nat))) 0 = (((max (inN f0 g.need g.pods out.length) 0).toNat : Nat) : Int) := by unfold inN; rw [hol]; omega
    have hrep := rep_ok u0 _ hn16
    rw [← hnn] at hrep
    generalize hN : (max (inN f0 g.need g.pods out.length) 0).toNat = N at hn16 hrep next
    have e : iv (out ++ List.replicate N u0) = iv out ++ iv (List.replicate N u0) := by simp
    rw [e] at next
    have hrl : (iv (List.replicate N u0)).length = N := by simp
    have hpb := hg.1
    have hpb2 := hg.2
    repeat' first | (refine gN (hEo [10] []) rfl ?_; conv => whnf) | refine ⟨u0.toNat, hn, ?_⟩ | refine ⟨_, gv, ?_⟩ | refine .pure _ [] (room_ok f0 g.need) ?_ | refine .pure _ [] (CallOK.strip hrep) ?_ | refine And.intro (And.intro (by simp only [maxLen]; omega) (by omega)) ?_ | exact rfl | refine aY ?_ | refine aN ?_ | refine aT (by omega) fun h => ?_ | refine aF (by omega) fun h => ?_ | refine ⟨fun h => ?_, fun h => ?_⟩ | refine aJ (by omega) (by omega) ?_ | refine ⟨_, rfl, ?_⟩ | refine ⟨by decide, ?_⟩ | refine ⟨by omega, ?_⟩ | fail
    refine To.part [1, 7, 10, 14, 15, 16] [0, 1, 2] rfl rfl rfl ?_
    exact next
theorem in_ok (c : Con) (free : List V3) (g : Gan) (hg : 0 ≤ g.pods ∧ g.pods ≤ 16) (gr : List Int) (hl : gr.length ≤ 1048576) : CallOK Tryz.prog 178 [c.av, .slice 3 (vav free) .no, .slice 1 (iv gr) .no, g.av] [] (.ret (inR2 (inL free g gr) g)) [] := by
 refine cT (E := (Eo [10] [])) (fn := Tryz.f178) (g := .pure _) fun _ => ?_
 refine gW (hEo [10] []) ?_; conv => whnf
 refine To.part [1, 7, 10, 14, 15, 16] [0, 1, 2] rfl rfl rfl ?_
 exact in_loop c free g hg gr hl _ gr.length 0 [] (by omega) (by simpa using hg.1) rfl
noncomputable abbrev fGroups : Func := Tryz.f161
abbrev GSt := List (List Int × Nat) × List (List Int)
def kfind : List (List Int × Nat) → List Int → Option Nat
 | [], _ => none
 | (k, v) :: r, x => if k = x then some v else kfind r x
abbrev kav (es : List (List Int × Nat)) : List (List Int × AVal) := es.map fun p => (p.1, ii p.2)
theorem kav_find (x : List Int) : ∀ es, mfind (kav es) x = (kfind es x).map fun n : Nat => ii n
 | [] => rfl
 | (k, v) :: r => by
  show (if k = x then some (ii v) else mfind (kav r) x) = (if k = x then some v else kfind r x).map _
  split
  ·rfl
  ·exact kav_find x r
theorem kav_put (x : List Int) (v : Nat) : ∀ es, kfind es x = none → mput (kav es) x (ii v) = kav (es ++ [(x, v)])
 | [], _ => rfl
 | (k, u) :: r, h => by
  have h : (if k = x then some u else kfind r x) = none := h
  show (if k = x then (x, ii v) :: kav r else (k, ii u) :: mput (kav r) x (ii v)) = (k, ii u) :: kav (r ++ [(x, v)])
  split at h
  ·cases h
  ·rename_i hne
   rw [if_neg hne, kav_put x v r h]
def gpS (c : Con) (lv : Int) (s : GSt) (i : Nat) : GSt :=
 match kfind s.1 (ofK (hosAt c.hs (i : Int)) i lv) with
 | some k => (s.1, s.2.set k ((s.2[k]?).getD [] ++ [(i : Int)]))
 | none => (s.1 ++ [(ofK (hosAt c.hs (i : Int)) i lv, s.2.length)], s.2 ++ [[(i : Int)]])
def gpL (c : Con) (lv : Int) : List (List Int) := if decide (lv < 0) = true then [] else if decide (3 < lv) = true then [] else ((List.range c.hs.length).foldl (gpS c lv) ([], [])).2
abbrev gav (l : List (List Int)) : List AVal := l.map fun xs => .slice 1 (iv xs) .no
abbrev gpObs (c : Con) (gr gb : Nat) (es : List (List Int × Nat)) (ms : List Hm) : List AObj := [.cells 26 c.cs, .row gr 1 68 (ms.map hmA), .mp true (kav es), .bun gb (famI 1 3 ms)]
abbrev gpFr (c : Con) (lv : Int) (gr i : Nat) : List (Nat × AVal) := [(1, ii lv), (5, .row 1 gr), (6, .mref 2), (20, .slice 6 (hav c.hs) .no), (21, .int .i64 ((hav c.hs).length : Nat)), (22, ii i)]
theorem gp_app (c : Con) (lv : Int) (G : Goal) (i k : Nat) (hi : i < 1048576) (ms : List Hm) (m : Hm) (hm : ms[k]? = some m) (hml : m.2.2.length ≤ 1048576) (hms : ms.length ≤ 1048576) (es : List (List Int × Nat)) (hG : Nat.ble G.n0 4 = true)
  (next : ∀ a c', To (Er [5] []) fGroups G (.code (behind fGroups 14) (gpFr c lv 0 i) (gpObs c 0 1 es (ms.set k (a, c', m.2.2 ++ [ii i]))))) :
  To (Er [5] []) fGroups G (.code (before' fGroups 14) [(1, ii lv), (5, .row 1 0), (6, .mref 2), (7, ii i), (10, ii k), (20, .slice 6 (hav c.hs) .no), (21, .int .i64 ((hav c.hs).length : Nat)), (22, ii i)] (gpObs c 0 0 es ms)) := by
 refine To.handAt (hEr [5] []) 8 [] rfl rfl rfl ?_; conv => whnf
 refine ⟨k, rfl, ?_⟩; conv => whnf
 have hma : (ms.map hmA)[k]? = some (hmA m) := by rw [List.getElem?_map, hm]; rfl
 refine ⟨by have := (List.getElem?_eq_some_iff.1 hm).1; simpa using this, ?_⟩; conv => whnf
 refine ⟨_, hma, ?_⟩; conv => whnf
 refine .mk 3 0 k ms m [ii i] 3 1 8 1 false (.slice 1 [] .nil) rfl hm rfl rfl rfl rfl ⟨by show _ + 1 ≤ _; simp only [maxLen]; omega, by show (_ + 1) * 8 ≤ _; omega⟩ fun a c' => ?_
 have hkl : k < (ms.map hmA).length := by have := (List.getElem?_eq_some_iff.1 hm).1; simpa using this
 have next := next a c'
 unfold gpObs at next
 rw [List.map_set] at next
 refine gW (hEr [5] []) ?_; conv => whnf
 refine ⟨k, rfl, ?_⟩
 refine gW (hEr [5] []) ?_; conv => whnf
 refine ⟨hkl, ?_⟩
 refine gW (hEr [5] []) ?_; conv => whnf
 refine ⟨hkl, ?_⟩
 refine goes (hEr [5] []) 3 ?_; conv => whnf
 refine To.cutC (fr := [(1, _), (5, _), (6, _), (7, _), (10, _), (20, _), (21, _), (22, _), (47, _), (48, _), (49, _), (50, _), (51, _), (52, _), (53, _), (54, _), (55, _), (56, _)]) (obs := [_, _, _, _]) [1, 5, 6, 20, 21, 22] 4 hG rfl rfl rfl ?_
 exact next
theorem kfind_app (x : List Int) (v : Nat) (y : List Int) : ∀ es, kfind (es ++ [(x, v)]) y = match kfind es y with | some k => some k | none => if x = y then some v else none
 | [] => rfl
 | (k, u) :: r => by
  show (if k = y then some u else kfind (r ++ [(x, v)]) y) = match (if k = y then some u else kfind r y) with | some k => some k | none => if x = y then some v else none
  split
  ·rfl
  ·exact kfind_app x v y r
structure GI (i : Nat) (s : GSt) : Prop where
 key : ∀ p ∈ s.1, p.1.length = 4
 at' : ∀ x k, kfind s.1 x = some k → k < s.2.length
 len : s.2.length ≤ i
 each : ∀ xs ∈ s.2, xs.length ≤ i
theorem GI.step {c : Con} {lv : Int} {i : Nat} {s : GSt} (h : GI i s) : GI (i + 1) (gpS c lv s i) := by
 obtain ⟨h1, h2, h3, h4⟩ := h
 unfold gpS
 split
 ·rename_i k hk
  refine ⟨h1, fun x k h => by simpa using h2 x k h, by simp; omega, fun xs hx => ?_⟩
  rcases List.mem_or_eq_of_mem_set hx with hx | rfl
  ·have := h4 xs hx; omega
  ·have hl := h2 _ k hk
   rw [List.getElem?_eq_getElem hl]
   have := h4 _ (List.getElem_mem hl)
   simp
   omega
 ·rename_i hk
  refine ⟨fun p hp => ?_, fun x k hx => ?_, by simp; omega, fun xs hx => ?_⟩
  ·rcases List.mem_append.1 hp with hp | hp
   ·exact h1 p hp
   ·simp at hp; subst hp; rfl
  ·rw [kfind_app] at hx
   split at hx
   ·rename_i k' hk'
    have := h2 x k' hk'
    cases hx
    simp; omega
   ·split at hx
    ·cases hx; simp
    ·cases hx
  ·rcases List.mem_append.1 hx with hx | hx
   ·have := h4 xs hx; omega
   ·simp at hx; subst hx; simp
theorem gp_loop (c : Con) (hc : c.sm) (lv : Int) (p1 : 0 ≤ lv) (p2 : lv ≤ 3) (R : List (List Int)) : ∀ (n i : Nat) (s : GSt) (ms : List Hm), i + n = c.hs.length → ms.map (fun m => m.2.2) = s.2.map iv → GI i s → ((List.range' i n).foldl (gpS c lv) s).2 = R →
  To (Er [5] []) fGroups (.pure (.ret (.slice 1 (gav R) .no))) (.head (stk fGroups 0) (gpFr c lv 0 i) (gpObs c 0 0 s.1 ms)) := by
 have h1 := hc.hs
 have hlen : (hav c.hs).length = c.hs.length := by simp
 intro n
 induction n with
 | zero =>
  intro i s ms hi hms hG hR
  have hR : s.2 = R := hR
  subst hR
  refine To.ofC (To.famFrz 3 1 rfl rfl ?_)
  have e : (ms.map fun m => AVal.slice 1 m.2.2 .no) = gav s.2 := by
   have := congrArg (List.map fun xs => AVal.slice 1 xs .no) hms
   rw [List.map_map, List.map_map] at this
   exact this
  rw [e]
  refine To.toC ?_
  refine gW (hEr [5] []) ?_; conv => whnf
  refine aF (by omega) fun h => ?_
  repeat' first | (refine gN (hEr [5] []) rfl ?_; conv => whnf) | exact rfl | refine aY ?_ | refine aN ?_ | refine aT (by omega) fun h => ?_ | refine aF (by omega) fun h => ?_ | refine ⟨fun h => ?_, fun h => ?_⟩ | refine aJ (by omega) (by omega) ?_ | refine ⟨_, rfl, ?_⟩ | refine ⟨by decide, ?_⟩ | refine ⟨by omega, ?_⟩ | fail
 | succ n ih =>
  intro i s ms hi hms hG hR
  rw [List.range'_succ, List.foldl_cons] at hR
  have gn : (hav c.hs)[i]? = some (hosAt c.hs (i : Int)).av := hos_get (by omega)
  have next := fun ms' h => ih (i + 1) (gpS c lv s i) ms' (by omega) h hG.step hR
  have hkey : ∀ p ∈ kav s.1, p.1.length = 4 := fun p hp => by
   obtain ⟨q, hq, rfl⟩ := List.mem_map.1 hp
   exact hG.key q hq
  refine gW (hEr [5] []) ?_; conv => whnf
  refine aT (by omega) fun h => ?_
  refine gW (hEr [5] []) ?_; conv => whnf
  refine ⟨i, rfl, ?_⟩
  refine gW (hEr [5] []) ?_; conv => whnf
  refine ⟨_, gn, ?_⟩
  refine gW (hEr [5] []) ?_; conv => whnf
  refine .pure _ [] (of1_ok (hosAt c.hs (i : Int)) i lv) ?_
  refine gW (hEr [5] []) ?_; conv => whnf
  refine ⟨hkey, ?_⟩
  refine gW (hEr [5] []) ?_; conv => whnf
  cases hk : kfind s.1 (ofK (hosAt c.hs (i : Int)) i lv) with
  | none =>
   have hf : mfind (kav s.1) (ofK (hosAt c.hs (i : Int)) i lv) = none := by rw [kav_find, hk]; rfl
   refine ⟨_, hf, ?_⟩
   refine gW (hEr [5] []) ?_; conv => whnf
   refine aY ?_
   refine gW (hEr [5] []) ?_; conv => whnf
   refine ⟨hkey, ?_⟩
   refine gW (hEr [5] []) ?_; conv => whnf
   have hmlen : ms.length = s.2.length := by have := congrArg List.length hms; simpa using this
   have hb2 := hG.len
   have hml : (ms.map hmA).length = ms.length := by simp
   refine ⟨⟨by show (ms.map hmA).length + 1 ≤ _; simp only [maxLen]; omega, by show ((ms.map hmA).length + 1) * 24 ≤ _; omega⟩, ?_⟩
   refine goes (hEr [5] []) 6 ?_; conv => whnf
   have hL : (ms.map hmA).length = s.2.length := hml.trans hmlen
   have e := kav_put (ofK (hosAt c.hs (i : Int)) i lv) (ms.map hmA).length s.1 hk
   have eg : gpS c lv s i = (s.1 ++ [(ofK (hosAt c.hs (i : Int)) i lv, (ms.map hmA).length)], s.2 ++ [[(i : Int)]]) := by
    unfold gpS
    rw [hk, hL]
   rw [eg] at next
   have hm : (ms ++ [((none, 0, []) : Hm)])[(ms.map hmA).length]? = some (none, 0, []) := by rw [hml, List.getElem?_append_right (Nat.le_refl _)]; simp
   have app := gp_app c lv (.pure (.ret (.slice 1 (gav R) .no))) i (ms.map hmA).length (by omega) (ms ++ [(none, 0, [])]) _ hm (by simp) (by simp; omega) (s.1 ++ [(ofK (hosAt c.hs (i : Int)) i lv, (ms.map hmA).length)]) rfl fun a c' => by
    have next := next ((ms ++ [(none, 0, [])]).set (ms.map hmA).length (a, c', [] ++ [ii i])) (by rw [hml, List.set_append_right _ _ (Nat.le_refl _)]; simp [hms])
    refine gW (hEr [5] []) ?_; conv => whnf
    refine aJ (by omega) (by omega) ?_
    refine gW (hEr [5] []) ?_; conv => whnf
    refine To.part [1, 5, 6, 20, 21, 22] [0, 1, 2, 3] rfl rfl rfl ?_
    exact next
   unfold gpObs at app
   rw [← e] at app
   refine To.cutC [1, 5, 6, 7, 10, 20, 21, 22] 4 rfl rfl rfl rfl ?_
   refine To.objTo 1 (x := .row 1 1 68 (ms.map hmA ++ [.nilslice])) (x' := .row 1 1 68 ((ms ++ [(none, 0, [])]).map hmA)) rfl (fun h => by cases h) rfl (fun M ob w hs _ h => row_nil h) ?_
   refine To.objTo 3 (x := .bun 0 (famI 1 3 ms)) (x' := .bun 0 (famI 1 3 (ms ++ [(none, 0, [])]))) rfl (fun h => by cases h) rfl (fun M ob w hs _ h => fam_nil h) ?_
   refine To.toC ?_
   refine To.part [1, 5, 6, 7, 10, 20, 21, 22] [0, 1, 2, 3] rfl rfl rfl ?_
   refine To.ofC ?_
   exact app
  | some k =>
   have hf : mfind (kav s.1) (ofK (hosAt c.hs (i : Int)) i lv) = some (ii k) := by rw [kav_find, hk]; rfl
   refine ⟨_, hf, ?_⟩
   refine gW (hEr [5] []) ?_; conv => whnf
   refine aN ?_
   refine goes (hEr [5] []) 1 ?_; conv => whnf
   have hkl := hG.at' _ k hk
   have hml : (ms.map (fun m => m.2.2))[k]? = some (iv s.2[k]) := by rw [hms, List.getElem?_map, List.getElem?_eq_getElem hkl]; rfl
   rw [List.getElem?_map] at hml
   obtain ⟨m, hm, hmx⟩ := Option.map_eq_some_iff.1 hml
   have hmx : m.2.2 = iv s.2[k] := hmx
   have hmlen : ms.length = s.2.length := by have := congrArg List.length hms; simpa using this
   have hb1 := hG.each _ (List.getElem_mem hkl)
   have hb2 := hG.len
   have eg : gpS c lv s i = (s.1, s.2.set k (s.2[k] ++ [(i : Int)])) := by
    unfold gpS
    rw [hk]
    show (s.1, s.2.set k ((s.2[k]?).getD [] ++ [(i : Int)])) = _
    rw [List.getElem?_eq_getElem hkl]
    rfl
   rw [eg] at next
   refine To.cutC [1, 5, 6, 7, 10, 20, 21, 22] 4 rfl rfl rfl rfl ?_
   refine gp_app c lv _ i k (by omega) ms m hm (by rw [hmx]; simp; omega) (by omega) s.1 rfl fun a c' => ?_
   have next := next (ms.set k (a, c', m.2.2 ++ [ii i])) (by rw [List.map_set, List.map_set, hms, hmx]; simp)
   refine gW (hEr [5] []) ?_; conv => whnf
   refine aJ (by omega) (by omega) ?_
   refine gW (hEr [5] []) ?_; conv => whnf
   refine To.part [1, 5, 6, 20, 21, 22] [0, 1, 2, 3] rfl rfl rfl ?_
   exact next
theorem groups_ok (c : Con) (hc : c.sm) (lv : Int) : CallOK Tryz.prog 161 [c.av, ii lv] [] (.ret (.slice 1 (gav (gpL c lv)) .no)) [] := by
 have h1 := hc.hs
 have hlen : (hav c.hs).length = c.hs.length := by simp
 obtain ⟨R, hR⟩ : ∃ R, R = gpL c lv := ⟨_, rfl⟩
 rw [← hR]
 unfold gpL at hR
 refine cT (E := (Er [5] [])) (fn := Tryz.f161) (g := .pure _) fun _ => ?_
 by_cases p1 : lv < 0
 ·rw [if_pos (decide_eq_true p1)] at hR
  subst hR
  repeat' first | (refine gN (hEr [5] []) rfl ?_; conv => whnf) | exact rfl | refine aY ?_ | refine aN ?_ | refine aT (by omega) fun h => ?_ | refine aF (by omega) fun h => ?_ | refine ⟨fun h => ?_, fun h => ?_⟩ | refine aJ (by omega) (by omega) ?_ | refine ⟨_, rfl, ?_⟩ | refine ⟨by decide, ?_⟩ | refine ⟨by omega, ?_⟩ | fail
 rw [if_neg (by rw [decide_eq_false p1]; decide)] at hR
 by_cases p2 : 3 < lv
 ·rw [if_pos (decide_eq_true p2)] at hR
  subst hR
  repeat' first | (refine gN (hEr [5] []) rfl ?_; conv => whnf) | exact rfl | refine aY ?_ | refine aN ?_ | refine aT (by omega) fun h => ?_ | refine aF (by omega) fun h => ?_ | refine ⟨fun h => ?_, fun h => ?_⟩ | refine aJ (by omega) (by omega) ?_ | refine ⟨_, rfl, ?_⟩ | refine ⟨by decide, ?_⟩ | refine ⟨by omega, ?_⟩ | fail
 rw [if_neg (by rw [decide_eq_false p2]; decide), List.range_eq_range'] at hR
 repeat' first | (refine gN (hEr [5] []) rfl ?_; conv => whnf) | exact rfl | refine aY ?_ | refine aN ?_ | refine aT (by omega) fun h => ?_ | refine aF (by omega) fun h => ?_ | refine ⟨fun h => ?_, fun h => ?_⟩ | refine aJ (by omega) (by omega) ?_ | refine ⟨_, rfl, ?_⟩ | refine ⟨by decide, ?_⟩ | refine ⟨by omega, ?_⟩ | fail
 refine To.ofC (To.beginF 1 3 ?_)
 refine To.toC ?_
 have := gp_loop c hc lv (by omega) (by omega) R c.hs.length 0 ([], []) [] (by omega) rfl ⟨fun p h => (by simp at h), fun x k h => (by cases h), Nat.le_refl _, fun xs h => by simp at h⟩ hR.symm
 refine To.part [1, 5, 6, 20, 21, 22] [0, 1, 2, 3] rfl rfl rfl ?_
 exact this
structure GO (n i : Nat) (s : GSt) : Prop where
 base : GI i s
 ok : ∀ xs ∈ s.2, xs ≠ [] ∧ ∀ h ∈ xs, 0 ≤ h ∧ h < (n : Int)
theorem GO.step {c : Con} {lv : Int} {n i : Nat} {s : GSt} (hi : i < n) (h : GO n i s) : GO n (i + 1) (gpS c lv s i) := by
 refine ⟨h.base.step, ?_⟩
 obtain ⟨hb, h4⟩ := h
 have one : ∀ h ∈ [(i : Int)], 0 ≤ h ∧ h < (n : Int) := fun h hh => by simp at hh; omega
 unfold gpS
 split
 ·rename_i k hk
  intro xs hx
  rcases List.mem_or_eq_of_mem_set hx with hx | rfl
  ·exact h4 xs hx
  ·refine ⟨by simp, fun h hh => ?_⟩
   rcases List.mem_append.1 hh with hh | hh
   ·have hl := hb.at' _ k hk
    rw [List.getElem?_eq_getElem hl] at hh
    exact (h4 _ (List.getElem_mem hl)).2 h hh
   ·exact one h hh
 ·intro xs hx
  rcases List.mem_append.1 hx with hx | hx
  ·exact h4 xs hx
  ·have hx : xs = [(i : Int)] := by simpa using hx
   subst hx
   exact ⟨by simp, one⟩
theorem GO.fold {c : Con} {lv : Int} {n : Nat} : ∀ (m i : Nat) (s : GSt), i + m = n → GO n i s → GO n n ((List.range' i m).foldl (gpS c lv) s)
 | 0, i, s, hi, h => by have : i = n := by omega
                        subst this; exact h
 | m + 1, i, s, hi, h => by
  rw [List.range'_succ, List.foldl_cons]
  exact GO.fold m (i + 1) _ (by omega) (h.step (by omega))
theorem gpL_ok (c : Con) (lv : Int) : (gpL c lv).length ≤ c.hs.length ∧ ∀ xs ∈ gpL c lv, xs ≠ [] ∧ xs.length ≤ c.hs.length ∧ ∀ h ∈ xs, 0 ≤ h ∧ h < (c.hs.length : Int) := by
 unfold gpL
 split
 ·exact ⟨Nat.zero_le _, fun xs h => by simp at h⟩
 split
 ·exact ⟨Nat.zero_le _, fun xs h => by simp at h⟩
 rw [List.range_eq_range']
 have := GO.fold (c := c) (lv := lv) (n := c.hs.length) c.hs.length 0 ([], []) (by omega) ⟨⟨fun p h => (by simp at h), fun x k h => (by cases h), Nat.le_refl _, fun xs h => (by simp at h)⟩, fun xs h => (by simp at h)⟩
 exact ⟨this.base.len, fun xs hx => ⟨(this.ok xs hx).1, this.base.each xs hx, (this.ok xs hx).2⟩⟩
def fdG (c : Con) (free : List V3) (g : Gan) : List (List Int) → Option (Int × List Int)
 | [] => none
 | gr :: r => if decide (((inL free g gr).length : Int) < g.pods) = true then fdG c free g r else some ((hosAt c.hs (gr.headD 0)).f, inL free g gr)
def fdL (c : Con) (free : List V3) (g : Gan) : Nat → Int → Option (Int × List Int)
 | 0, _ => none
 | n + 1, lv => match fdG c free g (gpL c lv) with
  | some x => some x
  | none => fdL c free g n (lv + 1)
def fdA : Option (Int × List Int) → AVal
 | some x => .tup [ii x.1, .slice 1 (iv x.2) .no, .bool true]
 | none => .tup [ii 0, .slice 1 [] .no, .bool false]
def findL (c : Con) (free : List V3) (g : Gan) : Option (Int × List Int) := fdL c free g (min g.lev 3 + 1 - max g.pref 0).toNat (max g.pref 0)
noncomputable abbrev fFind : Func := Tryz.f155
abbrev fdObs (c : Con) (g : Gan) : List AObj := [.cells 26 c.cs, .cells 59 g.cs]
abbrev fdFr (free : List V3) (lv : Int) : List (Nat × AVal) := [(1, .slice 3 (vav free) .no), (3, .ref 0 0), (5, .ref 1 0), (9, ii lv)]
theorem gav_get {l : List (List Int)} {i : Nat} (h : i < l.length) : (gav l)[i]? = some (.slice 1 (iv l[i]) .no) := by simp [gav, h]
theorem fd_in (c : Con) (hc : c.sm) (free : List V3) (g : Gan) (hg : 0 ≤ g.pods ∧ g.pods ≤ 16) (lv : Int) (hl0 : 0 ≤ lv) (hl3 : lv ≤ 3) (Q : Option (Int × List Int)) (grs : List (List Int)) (hgl : grs.length ≤ 1048576) (hgr : ∀ xs ∈ grs, xs ≠ [] ∧ xs.length ≤ c.hs.length ∧ ∀ h ∈ xs, 0 ≤ h ∧ h < (c.hs.length : Int)) :
  ∀ (m i : Nat), i + m = grs.length → (∀ x, fdG c free g (grs.drop i) = some x → Q = some x) → (fdG c free g (grs.drop i) = none → To E fFind (.pure (.ret (fdA Q))) (.head (stk fFind 0) (fdFr free (lv + 1)) (fdObs c g))) →
  To E fFind (.pure (.ret (fdA Q))) (.head (stk fFind 1) (fdFr free lv ++ [(26, .slice 1 (gav grs) .no), (27, .int .i64 ((gav grs).length : Nat)), (28, ii i)]) (fdObs c g)) := by
 have hlen : (gav grs).length = grs.length := by simp
 have hhl : (hav c.hs).length = c.hs.length := by simp
 have hch := hc.hs
 intro m
 induction m with
 | zero =>
  intro i hi hs hn
  rw [List.drop_eq_nil_of_le (by omega)] at hn
  have hn := hn rfl
  refine gW hE ?_; conv => whnf
  refine aF (by omega) fun h => ?_
  refine gW hE ?_; conv => whnf
  refine aJ (by omega) (by omega) ?_
  refine gW hE ?_; conv => whnf
  exact To.cut [1, 3, 5, 9] 2 rfl rfl rfl rfl hn
 | succ m ih =>
  intro i hi hs hn
  have hlt : i < grs.length := by omega
  have ih := ih (i + 1) (by omega)
  rw [List.drop_eq_getElem_cons hlt] at hs hn
  have hgx := hgr _ (List.getElem_mem hlt)
  have get := gav_get hlt
  generalize grs[i] = gr at hs hn hgx get
  obtain ⟨gne, gle, gin⟩ := hgx
  have hin := in_ok c free g hg gr (by omega)
  unfold fdG at hs hn
  unfold inR2 at hin
  refine gW hE ?_; conv => whnf
  refine aT (by omega) fun h => ?_
  refine gW hE ?_; conv => whnf
  refine ⟨i, rfl, ?_⟩
  refine gW hE ?_; conv => whnf
  refine ⟨_, get, ?_⟩
  refine gW hE ?_; conv => whnf
  by_cases p1 : ((inL free g gr).length : Int) < g.pods
  ·rw [if_pos (decide_eq_true p1)] at hs hn hin
   have next := ih hs hn
   refine .pure _ [] hin ?_
   repeat' first | (refine gN hE rfl ?_; conv => whnf) | exact rfl | refine aY ?_ | refine aN ?_ | refine aT (by omega) fun h => ?_ | refine aF (by omega) fun h => ?_ | refine ⟨fun h => ?_, fun h => ?_⟩ | refine aJ (by omega) (by omega) ?_ | refine ⟨_, rfl, ?_⟩ | refine ⟨by decide, ?_⟩ | refine ⟨by omega, ?_⟩ | fail
   exact To.cut [1, 3, 5, 9, 26, 27, 28] 2 rfl rfl rfl rfl next
  ·rw [if_neg (by rw [decide_eq_false p1]; decide)] at hs hn hin
   have hQ := hs _ rfl
   subst hQ
   match gr, gne with
   | u0 :: r, _ =>
   have hu := gin u0 (by simp)
   have gn : (hav c.hs)[u0.toNat]? = some (hosAt c.hs u0).av := by
    have := hos_get (c := c) (i := u0.toNat) (by omega)
    rwa [Int.toNat_of_nonneg hu.1] at this
   have hn : u0 = (u0.toNat : Int) := by omega
   have get0 : (iv (u0 :: r))[0]? = some (ii u0) := rfl
   refine .pure _ [] hin ?_
   repeat' first | (refine gN hE rfl ?_; conv => whnf) | refine ⟨u0.toNat, hn, ?_⟩ | refine ⟨_, gn, ?_⟩ | refine ⟨_, get0, ?_⟩ | exact rfl | refine aY ?_ | refine aN ?_ | refine aT (by omega) fun h => ?_ | refine aF (by omega) fun h => ?_ | refine ⟨fun h => ?_, fun h => ?_⟩ | refine aJ (by omega) (by omega) ?_ | refine ⟨_, rfl, ?_⟩ | refine ⟨by decide, ?_⟩ | refine ⟨by omega, ?_⟩ | fail
theorem fd_out (c : Con) (hc : c.sm) (free : List V3) (g : Gan) (hg : 0 ≤ g.pods ∧ g.pods ≤ 16) : ∀ (n : Nat) (lv : Int), 0 ≤ lv → n = (min g.lev 3 + 1 - lv).toNat →
  To E fFind (.pure (.ret (fdA (fdL c free g n lv)))) (.head (stk fFind 0) (fdFr free lv) (fdObs c g)) := by
 intro n
 induction n with
 | zero =>
  intro lv h0 hn
  refine gW hE ?_; conv => whnf
  refine aF (by omega) fun h => ?_
  repeat' first | (refine gN hE rfl ?_; conv => whnf) | exact rfl | refine aY ?_ | refine aN ?_ | refine aT (by omega) fun h => ?_ | refine aF (by omega) fun h => ?_ | refine ⟨fun h => ?_, fun h => ?_⟩ | refine aJ (by omega) (by omega) ?_ | refine ⟨_, rfl, ?_⟩ | refine ⟨by decide, ?_⟩ | refine ⟨by omega, ?_⟩ | fail
 | succ n ih =>
  intro lv h0 hn
  have ih := ih (lv + 1) (by omega) (by omega)
  have hok := gpL_ok c lv
  have hch := hc.hs
  have hlen : (gav (gpL c lv)).length = (gpL c lv).length := by simp
  obtain ⟨Q, hQ⟩ : ∃ Q, Q = fdL c free g (n + 1) lv := ⟨_, rfl⟩
  rw [← hQ]
  unfold fdL at hQ
  refine gW hE ?_; conv => whnf
  refine aT (by omega) fun h => ?_
  refine gW hE ?_; conv => whnf
  refine .pure _ [] (groups_ok c hc lv) ?_
  repeat' first | (refine gN hE rfl ?_; conv => whnf) | exact rfl | refine aY ?_ | refine aN ?_ | refine aT (by omega) fun h => ?_ | refine aF (by omega) fun h => ?_ | refine ⟨fun h => ?_, fun h => ?_⟩ | refine aJ (by omega) (by omega) ?_ | refine ⟨_, rfl, ?_⟩ | refine ⟨by decide, ?_⟩ | refine ⟨by omega, ?_⟩ | fail
  refine To.cut [1, 3, 5, 9, 26, 27, 28] 2 rfl rfl rfl rfl ?_
  refine fd_in c hc free g hg lv h0 (by omega) Q (gpL c lv) (by omega) hok.2 (gpL c lv).length 0 (by omega) (fun x hx => ?_) (fun hx => ?_)
  ·have hx : fdG c free g (gpL c lv) = some x := hx
   rw [hx] at hQ
   exact hQ
  ·have hx : fdG c free g (gpL c lv) = none := hx
   rw [hx] at hQ
   rw [hQ]
   exact ih
theorem find_ok (c : Con) (hc : c.sm) (free : List V3) (g : Gan) (hg : 0 ≤ g.pods ∧ g.pods ≤ 16) : CallOK Tryz.prog 155 [c.av, .slice 3 (vav free) .no, g.av] [] (.ret (fdA (findL c free g))) [] := by
 refine cT (E := E) (fn := Tryz.f155) (g := .pure _) fun _ => ?_
 refine gW hE ?_; conv => whnf
 exact To.cut [1, 3, 5, 9] 2 rfl rfl rfl rfl (fd_out c hc free g hg _ _ (by omega) rfl)
def fitsL (c : Con) (l : List Rn) (g : Gan) : Option (Int × List Int) := if mayB c (ofL c l) g.ten (dem g) = true then findL c (freeL c l) g else none
theorem fits_any (c : Con) (hc : c.sm) (l : List Rn) (hl : Sm l) (g : Gan) (hg : 0 ≤ g.pods ∧ g.pods ≤ 16) (Q : Option (Int × List Int)) (hQ : fitsL c l g = Q) : CallOK Tryz.prog 130 [c.av, .slice 14 (rav l) .no, g.av] [] (.ret (fdA Q)) [] := by
 unfold fitsL at hQ
 have hm := may_ok c hc (ofL c l) g.ten (dem g)
 have hd := dem_ok g
 generalize mayB c (ofL c l) g.ten (dem g) = b at hQ hm
 generalize dem g = d at hm hd
 have hf := find_ok c hc (freeL c l) g hg
 have hfr := free_ok c hc l hl
 have hof := of_ok c hc l hl.1
 generalize freeL c l = fr at hf hQ hfr
 generalize ofL c l = us at hm hof
 cases b with
 | false =>
  have hQ : none = Q := hQ
  subst hQ
  refine cT (E := E) (fn := Tryz.f130) (g := .pure _) fun _ => ?_
  repeat' first | (refine gN hE rfl ?_; conv => whnf) | refine .pure _ [] hof ?_ | refine .pure _ [] hd ?_ | refine .pure _ [] hm ?_ | exact rfl | refine aY ?_ | refine aN ?_ | refine aT (by omega) fun h => ?_ | refine aF (by omega) fun h => ?_ | refine ⟨fun h => ?_, fun h => ?_⟩ | refine aJ (by omega) (by omega) ?_ | refine ⟨_, rfl, ?_⟩ | refine ⟨by decide, ?_⟩ | refine ⟨by omega, ?_⟩ | fail
 | true =>
  have hQ : findL c fr g = Q := hQ
  rw [hQ] at hf
  unfold fdA at hf ⊢
  cases Q with
  | none =>
   refine cT (E := E) (fn := Tryz.f130) (g := .pure _) fun _ => ?_
   repeat' first | (refine gN hE rfl ?_; conv => whnf) | refine .pure _ [] hof ?_ | refine .pure _ [] hd ?_ | refine .pure _ [] hm ?_ | refine .pure _ [] hfr ?_ | refine .pure _ [] hf ?_ | exact rfl | refine aY ?_ | refine aN ?_ | refine aT (by omega) fun h => ?_ | refine aF (by omega) fun h => ?_ | refine ⟨fun h => ?_, fun h => ?_⟩ | refine aJ (by omega) (by omega) ?_ | refine ⟨_, rfl, ?_⟩ | refine ⟨by decide, ?_⟩ | refine ⟨by omega, ?_⟩ | fail
  | some x =>
   refine cT (E := E) (fn := Tryz.f130) (g := .pure _) fun _ => ?_
   repeat' first | (refine gN hE rfl ?_; conv => whnf) | refine .pure _ [] hof ?_ | refine .pure _ [] hd ?_ | refine .pure _ [] hm ?_ | refine .pure _ [] hfr ?_ | refine .pure _ [] hf ?_ | exact rfl | refine aY ?_ | refine aN ?_ | refine aT (by omega) fun h => ?_ | refine aF (by omega) fun h => ?_ | refine ⟨fun h => ?_, fun h => ?_⟩ | refine aJ (by omega) (by omega) ?_ | refine ⟨_, rfl, ?_⟩ | refine ⟨by decide, ?_⟩ | refine ⟨by omega, ?_⟩ | fail
theorem fits_ok (c : Con) (hc : c.sm) (l : List Rn) (hl : Sm l) (g : Gan) (hg : 0 ≤ g.pods ∧ g.pods ≤ 16) : CallOK Tryz.prog 130 [c.av, .slice 14 (rav l) .no, g.av] [] (.ret (fdA (fitsL c l g))) [] := fits_any c hc l hl g hg _ rfl
theorem CallOK.nil2 {P : Program} {f : FuncId} {a : AVal} {qs : List AVal} {sz : Nat} {obs obs' : List AObj} {r : Res} (h : CallOK P f (a :: .slice sz [] .no :: qs) obs r obs') : CallOK P f (a :: .nilslice :: qs) obs r obs' :=
 fun M ob w vargs hm hr => h M ob w vargs hm ⟨hr.1, fun i v x hv hx => by
  match i with
  | 0 => exact hr.2 0 v x hv hx
  | 1 =>
   have hx : AVal.slice sz [] .no = x := by simpa using hx
   subst hx
   have := hr.2 1 v .nilslice hv rfl
   cases this
   exact .slnil _ _ trivial
  | i + 2 => exact hr.2 (i + 2) v x hv hx⟩
theorem never_any (c : Con) (hc : c.sm) (g : Gan) (hg : 0 ≤ g.pods ∧ g.pods ≤ 16) (b : Bool) (hb : (fitsL c [] g).isNone = b) : CallOK Tryz.prog 89 [c.av, g.av] [] (.ret (.bool b)) [] := by
 have hf := fits_ok c hc [] ⟨Nat.zero_le _, fun x h => by simp at h⟩ g hg
 generalize fitsL c [] g = Q at hf hb
 subst hb
 unfold fdA at hf
 cases Q with
 | none =>
  refine cT (E := E) (fn := Tryz.f89) (g := .pure _) fun _ => ?_
  repeat' first | (refine gN hE rfl ?_; conv => whnf) | refine .pure _ [] (CallOK.nil2 hf) ?_ | exact rfl | refine aY ?_ | refine aN ?_ | refine aT (by omega) fun h => ?_ | refine aF (by omega) fun h => ?_ | refine ⟨fun h => ?_, fun h => ?_⟩ | refine aJ (by omega) (by omega) ?_ | refine ⟨_, rfl, ?_⟩ | refine ⟨by decide, ?_⟩ | refine ⟨by omega, ?_⟩ | fail
 | some x =>
  refine cT (E := E) (fn := Tryz.f89) (g := .pure _) fun _ => ?_
  repeat' first | (refine gN hE rfl ?_; conv => whnf) | refine .pure _ [] (CallOK.nil2 hf) ?_ | exact rfl | refine aY ?_ | refine aN ?_ | refine aT (by omega) fun h => ?_ | refine aF (by omega) fun h => ?_ | refine ⟨fun h => ?_, fun h => ?_⟩ | refine aJ (by omega) (by omega) ?_ | refine ⟨_, rfl, ?_⟩ | refine ⟨by decide, ?_⟩ | refine ⟨by omega, ?_⟩ | fail
theorem never_ok (c : Con) (hc : c.sm) (g : Gan) (hg : 0 ≤ g.pods ∧ g.pods ≤ 16) : CallOK Tryz.prog 89 [c.av, g.av] [] (.ret (.bool (fitsL c [] g).isNone)) [] := never_any c hc g hg _ rfl
theorem rn_b (x : Rn) (M : Imm) (ob : Hs) (vs : List Value) (h : RepL M ob vs [x.av]) : inR .i64 x.st ∧ inR .i64 x.g.run := by
 have hl : 0 < vs.length := by rw [h.1]; simp
 have := h.2 0 _ x.av (List.getElem?_eq_getElem hl) rfl
 exact ⟨rep_agg_at this 11 _ rfl, rep_agg_at this 6 _ rfl⟩
def endR (x : Rn) : Int := if 9223372036854775807 < x.st + x.g.run then 9223372036854775807 else if x.st + x.g.run < -9223372036854775808 then -9223372036854775808 else x.st + x.g.run
theorem end_any (x : Rn) (r : Int) (hr : endR x = r) : CallOK Tryz.prog 131 [x.av] [] (.ret (ii r)) [] := by
 refine CallOK.get _ (rn_b x) fun ⟨⟨a1, a2⟩, ⟨b1, b2⟩⟩ => ?_
 simp only [kmin, kmax] at a1 a2 b1 b2
 unfold endR at hr
 by_cases h1 : 9223372036854775807 < x.st + x.g.run
 ·rw [if_pos h1] at hr
  subst hr
  have e := wrap_hi h1 (by omega)
  refine cT (E := E) (fn := Tryz.f131) (g := .pure _) fun _ => ?_
  refine gW hE ?_; conv => whnf
  refine .inr ?_
  repeat' first | (refine gN hE rfl ?_; conv => whnf) | exact rfl | refine aY ?_ | refine aN ?_ | refine aT (by omega) fun h => ?_ | refine aF (by omega) fun h => ?_ | refine ⟨fun h => ?_, fun h => ?_⟩ | refine aJ (by omega) (by omega) ?_ | refine ⟨_, rfl, ?_⟩ | refine ⟨by decide, ?_⟩ | refine ⟨by omega, ?_⟩ | fail
 ·rw [if_neg h1] at hr
  by_cases h2 : x.st + x.g.run < -9223372036854775808
  ·rw [if_pos h2] at hr
   subst hr
   have e := wrap_lo h2 (by omega)
   refine cT (E := E) (fn := Tryz.f131) (g := .pure _) fun _ => ?_
   refine gW hE ?_; conv => whnf
   refine .inr ?_
   repeat' first | (refine gN hE rfl ?_; conv => whnf) | exact rfl | refine aY ?_ | refine aN ?_ | refine aT (by omega) fun h => ?_ | refine aF (by omega) fun h => ?_ | refine ⟨fun h => ?_, fun h => ?_⟩ | refine aJ (by omega) (by omega) ?_ | refine ⟨_, rfl, ?_⟩ | refine ⟨by decide, ?_⟩ | refine ⟨by omega, ?_⟩ | fail
  ·rw [if_neg h2] at hr
   refine cT (E := E) (fn := Tryz.f131) (g := .pure _) fun _ => ?_
   repeat' first | (refine gN hE rfl ?_; conv => whnf) | exact rfl | refine aY ?_ | refine aN ?_ | refine aT (by omega) fun h => ?_ | refine aF (by omega) fun h => ?_ | refine ⟨fun h => ?_, fun h => ?_⟩ | refine aJ (by omega) (by omega) ?_ | refine ⟨_, rfl, ?_⟩ | refine ⟨by decide, ?_⟩ | refine ⟨by omega, ?_⟩ | fail
   all_goals first | exact hr ▸ rfl | (exfalso; simp at *; omega)
theorem end_ok (x : Rn) : CallOK Tryz.prog 131 [x.av] [] (.ret (ii (endR x))) [] := end_any x _ rfl
def validB (v : V3) : Bool := decide (0 ≤ v.a ∧ v.a ≤ 1048576) && decide (0 ≤ v.b ∧ v.b ≤ 1048576) && decide (0 ≤ v.c ∧ v.c ≤ 1048576)
theorem valid_any (v : V3) (b : Bool) (hb : validB v = b) : CallOK Tryz.prog 43 [v.av] [] (.ret (.bool b)) [] := by
 unfold validB at hb
 refine cT (E := E) (fn := Tryz.f43) (g := .pure _) fun _ => ?_
 repeat' first
  | (refine gW hE ?_; conv => whnf)
  | exact hb
  | refine aY ?_
  | refine aN ?_
  | refine And.intro (fun h => ?_) (fun h => ?_)
  | refine aJ (by omega) (by omega) ?_
  | refine Exists.intro _ (And.intro rfl ?_)
  | refine And.intro (by decide) ?_
 all_goals (refine congrArg (fun b => Res.ret (AVal.bool b)) ?_; rw [← hb]; simp only [decide_eq_true_eq, decide_eq_false_iff_not] at *)
 ·rw [decide_eq_false (p := 0 ≤ v.a ∧ v.a ≤ 1048576) (by omega)]; rfl
 ·rw [decide_eq_false (p := 0 ≤ v.a ∧ v.a ≤ 1048576) (by omega)]; rfl
 ·rw [decide_eq_false (p := 0 ≤ v.b ∧ v.b ≤ 1048576) (by omega), Bool.and_false]; rfl
 ·rw [decide_eq_false (p := 0 ≤ v.b ∧ v.b ≤ 1048576) (by omega), Bool.and_false]; rfl
 ·rw [decide_eq_false (p := 0 ≤ v.c ∧ v.c ≤ 1048576) (by omega), Bool.and_false]
 ·rw [decide_eq_false (p := 0 ≤ v.c ∧ v.c ≤ 1048576) (by omega), Bool.and_false]
 ·rw [decide_eq_true (p := 0 ≤ v.a ∧ v.a ≤ 1048576) (by omega), decide_eq_true (p := 0 ≤ v.b ∧ v.b ≤ 1048576) (by omega), decide_eq_true (p := 0 ≤ v.c ∧ v.c ≤ 1048576) (by omega)]; rfl
theorem valid_ok (v : V3) : CallOK Tryz.prog 43 [v.av] [] (.ret (.bool (validB v))) [] := valid_any v _ rfl
def rlB (ns : List Nod) (t : Int) : Bool := if decide (t < 0) = true then false else if decide ((ns.length : Int) ≤ t) = true then false else ns.all fun x => !(x.p == t)
noncomputable abbrev fRLeaf : Func := Tryz.f51
theorem rleaf_loop (c : Con) (hc : c.sm) (t : Int) (r : Bool) : ∀ (m i : Nat), i + m = c.ns.length → ((c.ns.drop i).all fun x => !(x.p == t)) = r →
  To E fRLeaf (.pure (.ret (.bool r))) (.head (stk fRLeaf 0) [(1, ii t), (2, .ref 0 0), (5, ii i)] [.cells 26 c.cs]) := by
 have hlen : (nav c.ns).length = c.ns.length := by simp
 have h1 := hc.ns
 intro m
 induction m with
 | zero =>
  intro i hi hr
  rw [List.drop_eq_nil_of_le (by omega)] at hr
  have hr : true = r := hr
  subst hr
  refine gW hE ?_; conv => whnf
  refine aF (by omega) fun h => ?_
  repeat' first | (refine gN hE rfl ?_; conv => whnf) | exact rfl | refine aY ?_ | refine aN ?_ | refine aT (by omega) fun h => ?_ | refine aF (by omega) fun h => ?_ | refine ⟨fun h => ?_, fun h => ?_⟩ | refine aJ (by omega) (by omega) ?_ | refine ⟨_, rfl, ?_⟩ | refine ⟨by decide, ?_⟩ | refine ⟨by omega, ?_⟩ | fail
 | succ m ih =>
  intro i hi hr
  have hlt : i < c.ns.length := by omega
  rw [List.drop_eq_getElem_cons hlt, List.all_cons] at hr
  have get := nav_get hlt
  generalize c.ns[i] = x at hr get
  have ih := ih (i + 1) (by omega)
  refine gW hE ?_; conv => whnf
  refine aT (by omega) fun h => ?_
  refine gW hE ?_; conv => whnf
  refine ⟨i, rfl, ?_⟩
  refine gW hE ?_; conv => whnf
  refine ⟨_, get, ?_⟩
  refine gW hE ?_; conv => whnf
  refine And.intro (fun h2 => ?_) (fun h2 => ?_)
  ·have h2 : (x.p == t) = true := h2
   rw [h2] at hr
   have hr : false = r := hr
   subst hr
   repeat' first | (refine gN hE rfl ?_; conv => whnf) | exact rfl | refine aY ?_ | refine aN ?_ | refine aT (by omega) fun h => ?_ | refine aF (by omega) fun h => ?_ | refine ⟨fun h => ?_, fun h => ?_⟩ | refine aJ (by omega) (by omega) ?_ | refine ⟨_, rfl, ?_⟩ | refine ⟨by decide, ?_⟩ | refine ⟨by omega, ?_⟩ | fail
  ·have h2 : (x.p == t) = false := h2
   rw [h2] at hr
   have hr : ((c.ns.drop (i + 1)).all fun x => !(x.p == t)) = r := hr
   repeat' first | (refine gN hE rfl ?_; conv => whnf) | exact rfl | refine aY ?_ | refine aN ?_ | refine aT (by omega) fun h => ?_ | refine aF (by omega) fun h => ?_ | refine ⟨fun h => ?_, fun h => ?_⟩ | refine aJ (by omega) (by omega) ?_ | refine ⟨_, rfl, ?_⟩ | refine ⟨by decide, ?_⟩ | refine ⟨by omega, ?_⟩ | fail
   exact To.cut [1, 2, 5] 1 rfl rfl rfl rfl (ih hr)
theorem rleaf_any (c : Con) (hc : c.sm) (t : Int) (r : Bool) (hr : rlB c.ns t = r) : CallOK Tryz.prog 51 [c.av, ii t] [] (.ret (.bool r)) [] := by
 have hlen : (nav c.ns).length = c.ns.length := by simp
 unfold rlB at hr
 by_cases p1 : t < 0
 ·rw [if_pos (decide_eq_true p1)] at hr
  subst hr
  refine cT (E := E) (fn := Tryz.f51) (g := .pure _) fun _ => ?_
  repeat' first | (refine gN hE rfl ?_; conv => whnf) | exact rfl | refine aY ?_ | refine aN ?_ | refine aT (by omega) fun h => ?_ | refine aF (by omega) fun h => ?_ | refine ⟨fun h => ?_, fun h => ?_⟩ | refine aJ (by omega) (by omega) ?_ | refine ⟨_, rfl, ?_⟩ | refine ⟨by decide, ?_⟩ | refine ⟨by omega, ?_⟩ | fail
 rw [if_neg (by rw [decide_eq_false p1]; decide)] at hr
 by_cases p2 : (c.ns.length : Int) ≤ t
 ·rw [if_pos (decide_eq_true p2)] at hr
  subst hr
  refine cT (E := E) (fn := Tryz.f51) (g := .pure _) fun _ => ?_
  repeat' first | (refine gN hE rfl ?_; conv => whnf) | exact rfl | refine aY ?_ | refine aN ?_ | refine aT (by omega) fun h => ?_ | refine aF (by omega) fun h => ?_ | refine ⟨fun h => ?_, fun h => ?_⟩ | refine aJ (by omega) (by omega) ?_ | refine ⟨_, rfl, ?_⟩ | refine ⟨by decide, ?_⟩ | refine ⟨by omega, ?_⟩ | fail
 rw [if_neg (by rw [decide_eq_false p2]; decide)] at hr
 refine cT (E := E) (fn := Tryz.f51) (g := .pure _) fun _ => ?_
 repeat' first | (refine gN hE rfl ?_; conv => whnf) | exact rfl | refine aY ?_ | refine aN ?_ | refine aT (by omega) fun h => ?_ | refine aF (by omega) fun h => ?_ | refine ⟨fun h => ?_, fun h => ?_⟩ | refine aJ (by omega) (by omega) ?_ | refine ⟨_, rfl, ?_⟩ | refine ⟨by decide, ?_⟩ | refine ⟨by omega, ?_⟩ | fail
 exact To.cut [1, 2, 5] 1 rfl rfl rfl rfl (rleaf_loop c hc t r c.ns.length 0 (by omega) hr)
theorem rleaf_ok (c : Con) (hc : c.sm) (t : Int) : CallOK Tryz.prog 51 [c.av, ii t] [] (.ret (.bool (rlB c.ns t))) [] := rleaf_any c hc t _ rfl
def gangB (ns : List Nod) (g : Gan) : Bool := decide (1 ≤ g.id ∧ g.id ≤ 1073741824 ∧ 1 ≤ g.pods ∧ g.pods ≤ 16) && (validB g.need && (decide (1 ≤ g.run ∧ g.run ≤ 1048576 ∧ 0 ≤ g.lev ∧ g.lev ≤ 3 ∧ 0 ≤ g.pref ∧ g.pref ≤ g.lev) && rlB ns g.ten))
def gangI (ns : List Nod) (g : Gan) : Int := if gangB ns g = true then 1 else 0
theorem gang_any (c : Con) (hc : c.sm) (g : Gan) (r : Int) (hr : gangI c.ns g = r) : CallOK Tryz.prog 46 [c.av, g.av] [] (.ret (ii r)) [] := by
 have hv := valid_ok g.need
 have hl := rleaf_ok c hc g.ten
 unfold gangI gangB at hr
 generalize validB g.need = bv at hr hv
 generalize rlB c.ns g.ten = bl at hr hl
 by_cases p1 : 1 ≤ g.id ∧ g.id ≤ 1073741824 ∧ 1 ≤ g.pods ∧ g.pods ≤ 16
 ·rw [decide_eq_true p1] at hr
  cases bv with
  | false =>
   have hr : 0 = r := hr
   subst hr
   refine cT (E := E) (fn := Tryz.f46) (g := .pure _) fun _ => ?_
   repeat' first
    | (refine gW hE ?_; conv => whnf)
    | exact rfl
    | refine .pure _ [] hv ?_
    | refine .pure _ [] hl ?_
    | refine aY ?_
    | refine aN ?_
    | refine aF (by omega) fun h => ?_
    | refine aT (by omega) fun h => ?_
    | refine And.intro (fun h => ?_) (fun h => ?_)
  | true =>
   by_cases p2 : 1 ≤ g.run ∧ g.run ≤ 1048576 ∧ 0 ≤ g.lev ∧ g.lev ≤ 3 ∧ 0 ≤ g.pref ∧ g.pref ≤ g.lev
   ·rw [decide_eq_true p2] at hr
    cases bl with
    | false =>
     have hr : 0 = r := hr
     subst hr
     refine cT (E := E) (fn := Tryz.f46) (g := .pure _) fun _ => ?_
     repeat' first
      | (refine gW hE ?_; conv => whnf)
      | exact rfl
      | refine .pure _ [] hv ?_
      | refine .pure _ [] hl ?_
      | refine aY ?_
      | refine aN ?_
      | refine aF (by omega) fun h => ?_
      | refine aT (by omega) fun h => ?_
      | refine And.intro (fun h => ?_) (fun h => ?_)
    | true =>
     have hr : 1 = r := hr
     subst hr
     refine cT (E := E) (fn := Tryz.f46) (g := .pure _) fun _ => ?_
     repeat' first
      | (refine gW hE ?_; conv => whnf)
      | exact rfl
      | refine .pure _ [] hv ?_
      | refine .pure _ [] hl ?_
      | refine aY ?_
      | refine aN ?_
      | refine aF (by omega) fun h => ?_
      | refine aT (by omega) fun h => ?_
      | refine And.intro (fun h => ?_) (fun h => ?_)
   ·rw [decide_eq_false p2] at hr
    have hr : 0 = r := hr
    subst hr
    refine cT (E := E) (fn := Tryz.f46) (g := .pure _) fun _ => ?_
    repeat' first
     | (refine gW hE ?_; conv => whnf)
     | exact rfl
     | refine .pure _ [] hv ?_
     | refine .pure _ [] hl ?_
     | refine aY ?_
     | refine aN ?_
     | refine aF (by omega) fun h => ?_
     | refine aT (by omega) fun h => ?_
     | refine And.intro (fun h => ?_) (fun h => ?_)
    all_goals (exfalso; simp only [decide_eq_true_eq] at *; omega)
 ·rw [decide_eq_false p1] at hr
  have hr : 0 = r := hr
  subst hr
  refine cT (E := E) (fn := Tryz.f46) (g := .pure _) fun _ => ?_
  repeat' first
   | (refine gW hE ?_; conv => whnf)
   | exact rfl
   | refine .pure _ [] hv ?_
   | refine .pure _ [] hl ?_
   | refine aY ?_
   | refine aN ?_
   | refine aF (by omega) fun h => ?_
   | refine aT (by omega) fun h => ?_
   | refine And.intro (fun h => ?_) (fun h => ?_)
  all_goals (exfalso; simp only [decide_eq_true_eq] at *; omega)
theorem gang_ok (c : Con) (hc : c.sm) (g : Gan) : CallOK Tryz.prog 46 [c.av, g.av] [] (.ret (ii (gangI c.ns g))) [] := gang_any c hc g _ rfl
theorem rfits_any (a b : V3) (r : Bool) (hr : vfits a b = r) : CallOK Tryz.prog 48 [a.av, b.av] [] (.ret (.bool r)) [] := by
 unfold vfits at hr
 refine cT (E := E) (fn := Tryz.f48) (g := .pure _) fun _ => ?_
 repeat' first
  | (refine gW hE ?_; conv => whnf)
  | exact hr
  | refine aY ?_
  | refine aN ?_
  | refine And.intro (fun h => ?_) (fun h => ?_)
  | refine aJ (by omega) (by omega) ?_
  | refine Exists.intro _ (And.intro rfl ?_)
  | refine And.intro (by decide) ?_
 all_goals (rw [← hr]; simp_all)
theorem rfits_ok (a b : V3) : CallOK Tryz.prog 48 [a.av, b.av] [] (.ret (.bool (vfits a b))) [] := rfits_any a b _ rfl
def zB (v : V3) : Bool := v.a == 0 && (v.b == 0 && (v.c == 0 && true))
def badN (i : Nat) (x : Nod) : Prop := (i = 0 ∧ x.p ≠ -1) ∨ (0 < i ∧ (x.p < 0 ∨ (i : Int) ≤ x.p)) ∨ x.w < 1 ∨ 1000 < x.w
instance (i : Nat) (x : Nod) : Decidable (badN i x) := by unfold badN; infer_instance
def nodeX (bl : Bool) (i : Nat) (x : Nod) : Bool := if badN i x then false else if bl = true then validB x.n && (validB x.b && (validB x.l && vfits x.l x.n)) else zB x.n && (zB x.b && zB x.l)
theorem node_bad (c : Con) (i : Nat) (x : Nod) (hx : (nav c.ns)[i]? = some x.av) (hb : badN i x) : CallOK Tryz.prog 42 [c.av, ii i] [] (.ret (.bool false)) [] := by
 unfold badN at hb
 refine cT (E := E) (fn := Tryz.f42) (g := .pure _) fun _ => ?_
 repeat' first
  | (refine gW hE ?_; conv => whnf)
  | exact rfl
  | refine Exists.intro i (And.intro rfl ?_)
  | refine Exists.intro _ (And.intro hx ?_)
  | refine aY ?_
  | refine aN ?_
  | refine aF (by omega) fun h => ?_
  | refine aT (by omega) fun h => ?_
  | refine And.intro (fun h => ?_) (fun h => ?_)
 all_goals (exfalso; simp at *; omega)
theorem node_leaf (c : Con) (i : Nat) (x : Nod) (hx : (nav c.ns)[i]? = some x.av) (hb : ¬ badN i x) (b1 b2 b3 b4 : Bool) (hl : CallOK Tryz.prog 51 [c.av, ii i] [] (.ret (.bool true)) [])
  (v1 : CallOK Tryz.prog 43 [x.n.av] [] (.ret (.bool b1)) []) (v2 : CallOK Tryz.prog 43 [x.b.av] [] (.ret (.bool b2)) []) (v3 : CallOK Tryz.prog 43 [x.l.av] [] (.ret (.bool b3)) [])
  (v4 : CallOK Tryz.prog 48 [x.l.av, x.n.av] [] (.ret (.bool b4)) []) : CallOK Tryz.prog 42 [c.av, ii i] [] (.ret (.bool (b1 && (b2 && (b3 && b4))))) [] := by
 unfold badN at hb
 refine cT (E := E) (fn := Tryz.f42) (g := .pure _) fun _ => ?_
 repeat' first
  | (refine gW hE ?_; conv => whnf)
  | exact rfl
  | refine .pure _ [] hl ?_
  | refine .pure _ [] v1 ?_
  | refine .pure _ [] v2 ?_
  | refine .pure _ [] v3 ?_
  | refine .pure _ [] v4 ?_
  | refine Exists.intro i (And.intro rfl ?_)
  | refine Exists.intro _ (And.intro hx ?_)
  | refine aY ?_
  | refine aN ?_
  | refine aF (by omega) fun h => ?_
  | refine aT (by omega) fun h => ?_
  | refine And.intro (fun h => ?_) (fun h => ?_)
 all_goals first
  | (simp only [*, Bool.true_and, Bool.false_and, Bool.and_false]; done)
  | (exfalso; simp at *; omega)
theorem node_inner (c : Con) (i : Nat) (x : Nod) (hx : (nav c.ns)[i]? = some x.av) (hb : ¬ badN i x) (hl : CallOK Tryz.prog 51 [c.av, ii i] [] (.ret (.bool false)) []) : CallOK Tryz.prog 42 [c.av, ii i] [] (.ret (.bool (zB x.n && (zB x.b && zB x.l)))) [] := by
 unfold badN at hb
 unfold zB
 refine cT (E := E) (fn := Tryz.f42) (g := .pure _) fun _ => ?_
 repeat' first
  | (refine gW hE ?_; conv => whnf)
  | exact rfl
  | refine .pure _ [] hl ?_
  | refine Exists.intro i (And.intro rfl ?_)
  | refine Exists.intro _ (And.intro hx ?_)
  | refine aY ?_
  | refine aN ?_
  | refine aF (by omega) fun h => ?_
  | refine aT (by omega) fun h => ?_
  | refine And.intro (fun h => ?_) (fun h => ?_)
 all_goals first
  | (simp only [*, Bool.true_and, Bool.false_and, Bool.and_false]; done)
  | (exfalso; simp at *; omega)
theorem node_ok (c : Con) (hc : c.sm) (i : Nat) (x : Nod) (hx : (nav c.ns)[i]? = some x.av) : CallOK Tryz.prog 42 [c.av, ii i] [] (.ret (.bool (nodeX (rlB c.ns i) i x))) [] := by
 have hl := rleaf_ok c hc i
 unfold nodeX
 by_cases hb : badN i x
 ·rw [if_pos hb]; exact node_bad c i x hx hb
 ·rw [if_neg hb]
  cases hq : rlB c.ns i with
  | true =>
   rw [hq] at hl
   rw [if_pos rfl]
   exact node_leaf c i x hx hb _ _ _ _ hl (valid_ok x.n) (valid_ok x.b) (valid_ok x.l) (rfits_ok x.l x.n)
  | false =>
   rw [hq] at hl
   rw [if_neg (by decide)]
   exact node_inner c i x hx hb hl
def badH (x : Hos) : Prop := x.f < 0 ∨ 100 < x.f ∨ x.b < 0 ∨ 100 < x.b ∨ x.r < 0 ∨ 100 < x.r
instance (x : Hos) : Decidable (badH x) := by unfold badH; infer_instance
def hostX (x : Hos) : Bool := if badH x then false else validB x.c
def nodesX (ns : List Nod) : Nat → List Nod → Bool
 | _, [] => true
 | i, x :: r => if nodeX (rlB ns i) i x = true then nodesX ns (i + 1) r else false
def sizB (c : Con) : Prop := (1 ≤ c.ns.length ∧ c.ns.length ≤ 12) ∧ (1 ≤ c.hs.length ∧ c.hs.length ≤ 24) ∧ (1 ≤ c.half ∧ c.half ≤ 1048576) ∧ 0 ≤ c.age ∧ c.age ≤ 1048576
instance (c : Con) : Decidable (sizB c) := by unfold sizB; infer_instance
def checkI (c : Con) : Int := if sizB c then (if nodesX c.ns 0 c.ns = true then (if c.hs.all hostX = true then 0 else 2) else 2) else 2
noncomputable abbrev fCheck : Func := Tryz.f14
theorem check_hosts (c : Con) (hc : c.sm) (r : Int) : ∀ (m i : Nat), i + m = c.hs.length → (if (c.hs.drop i).all hostX = true then (0 : Int) else 2) = r →
  To E fCheck (.pure (.ret (ii r))) (.head (stk fCheck 1) [(1, .ref 0 0), (4, ii i)] [.cells 26 c.cs]) := by
 have hlen : (hav c.hs).length = c.hs.length := by simp
 have h1 := hc.hs
 intro m
 induction m with
 | zero =>
  intro i hi hr
  rw [List.drop_eq_nil_of_le (by omega)] at hr
  have hr : 0 = r := hr
  subst hr
  refine gW hE ?_; conv => whnf
  refine aF (by omega) fun h => ?_
  repeat' first | (refine gN hE rfl ?_; conv => whnf) | exact rfl | refine aY ?_ | refine aN ?_ | refine aT (by omega) fun h => ?_ | refine aF (by omega) fun h => ?_ | refine ⟨fun h => ?_, fun h => ?_⟩ | refine aJ (by omega) (by omega) ?_ | refine ⟨_, rfl, ?_⟩ | refine ⟨by decide, ?_⟩ | refine ⟨by omega, ?_⟩ | fail
 | succ m ih =>
  intro i hi hr
  have hlt : i < c.hs.length := by omega
  rw [List.drop_eq_getElem_cons hlt, List.all_cons] at hr
  have get := hav_get hlt
  generalize c.hs[i] = x at hr get
  have ih := ih (i + 1) (by omega)
  have hv := valid_ok x.c
  unfold hostX at hr
  generalize validB x.c = b at hv hr
  by_cases hb : badH x
  ·rw [if_pos hb] at hr
   have hr : 2 = r := hr
   subst hr
   unfold badH at hb
   refine gW hE ?_; conv => whnf
   refine aT (by omega) fun h => ?_
   repeat' first
    | (refine gN hE rfl ?_; conv => whnf)
    | exact rfl
    | refine Exists.intro i (And.intro rfl ?_)
    | refine Exists.intro _ (And.intro get ?_)
    | refine aY ?_
    | refine aN ?_
    | refine aF (by omega) fun h => ?_
    | refine aT (by omega) fun h => ?_
    | refine And.intro (fun h => ?_) (fun h => ?_)
   all_goals (exfalso; simp at *; omega)
  ·rw [if_neg hb] at hr
   unfold badH at hb
   cases b with
   | false =>
    have hr : 2 = r := hr
    subst hr
    refine gW hE ?_; conv => whnf
    refine aT (by omega) fun h => ?_
    repeat' first | (refine gN hE rfl ?_; conv => whnf) | refine ⟨i, rfl, ?_⟩ | refine ⟨_, get, ?_⟩ | refine .pure _ [] hv ?_ | exact rfl | refine aY ?_ | refine aN ?_ | refine aT (by omega) fun h => ?_ | refine aF (by omega) fun h => ?_ | refine ⟨fun h => ?_, fun h => ?_⟩ | refine aJ (by omega) (by omega) ?_ | refine ⟨_, rfl, ?_⟩ | refine ⟨by decide, ?_⟩ | refine ⟨by omega, ?_⟩ | fail
   | true =>
    have ih := ih hr
    refine gW hE ?_; conv => whnf
    refine aT (by omega) fun h => ?_
    repeat' first | (refine gN hE rfl ?_; conv => whnf) | refine ⟨i, rfl, ?_⟩ | refine ⟨_, get, ?_⟩ | refine .pure _ [] hv ?_ | exact rfl | refine aY ?_ | refine aN ?_ | refine aT (by omega) fun h => ?_ | refine aF (by omega) fun h => ?_ | refine ⟨fun h => ?_, fun h => ?_⟩ | refine aJ (by omega) (by omega) ?_ | refine ⟨_, rfl, ?_⟩ | refine ⟨by decide, ?_⟩ | refine ⟨by omega, ?_⟩ | fail
    exact To.cut [1, 4] 1 rfl rfl rfl rfl ih
theorem check_nodes (c : Con) (hc : c.sm) (r : Int) : ∀ (m i : Nat), i + m = c.ns.length → (if nodesX c.ns i (c.ns.drop i) = true then (if c.hs.all hostX = true then (0 : Int) else 2) else 2) = r →
  To E fCheck (.pure (.ret (ii r))) (.head (stk fCheck 0) [(1, .ref 0 0), (3, ii i)] [.cells 26 c.cs]) := by
 have hlen : (nav c.ns).length = c.ns.length := by simp
 have h1 := hc.ns
 intro m
 induction m with
 | zero =>
  intro i hi hr
  rw [List.drop_eq_nil_of_le (by omega)] at hr
  have hr : (if c.hs.all hostX = true then (0 : Int) else 2) = r := hr
  refine gW hE ?_; conv => whnf
  refine aF (by omega) fun h => ?_
  repeat' first | (refine gN hE rfl ?_; conv => whnf) | exact rfl | refine aY ?_ | refine aN ?_ | refine aT (by omega) fun h => ?_ | refine aF (by omega) fun h => ?_ | refine ⟨fun h => ?_, fun h => ?_⟩ | refine aJ (by omega) (by omega) ?_ | refine ⟨_, rfl, ?_⟩ | refine ⟨by decide, ?_⟩ | refine ⟨by omega, ?_⟩ | fail
  exact To.cut [1, 4] 1 rfl rfl rfl rfl (check_hosts c hc r c.hs.length 0 (by omega) hr)
 | succ m ih =>
  intro i hi hr
  have hlt : i < c.ns.length := by omega
  rw [List.drop_eq_getElem_cons hlt] at hr
  have hn := node_ok c hc i _ (nav_get hlt)
  unfold nodesX at hr
  have ih := ih (i + 1) (by omega)
  generalize nodeX (rlB c.ns i) i c.ns[i] = b at hr hn
  cases b with
  | false =>
   have hr : 2 = r := hr
   subst hr
   refine gW hE ?_; conv => whnf
   refine aT (by omega) fun h => ?_
   repeat' first | (refine gN hE rfl ?_; conv => whnf) | refine .pure _ [] hn ?_ | exact rfl | refine aY ?_ | refine aN ?_ | refine aT (by omega) fun h => ?_ | refine aF (by omega) fun h => ?_ | refine ⟨fun h => ?_, fun h => ?_⟩ | refine aJ (by omega) (by omega) ?_ | refine ⟨_, rfl, ?_⟩ | refine ⟨by decide, ?_⟩ | refine ⟨by omega, ?_⟩ | fail
  | true =>
   rw [if_pos (show true = true from rfl)] at hr
   have ih := ih hr
   refine gW hE ?_; conv => whnf
   refine aT (by omega) fun h => ?_
   repeat' first | (refine gN hE rfl ?_; conv => whnf) | refine .pure _ [] hn ?_ | exact rfl | refine aY ?_ | refine aN ?_ | refine aT (by omega) fun h => ?_ | refine aF (by omega) fun h => ?_ | refine ⟨fun h => ?_, fun h => ?_⟩ | refine aJ (by omega) (by omega) ?_ | refine ⟨_, rfl, ?_⟩ | refine ⟨by decide, ?_⟩ | refine ⟨by omega, ?_⟩ | fail
   exact To.cut [1, 3] 1 rfl rfl rfl rfl ih
theorem check_any (c : Con) (hc : c.sm) (r : Int) (hr : checkI c = r) : CallOK Tryz.prog 14 [c.av] [] (.ret (ii r)) [] := by
 have hln : (nav c.ns).length = c.ns.length := by simp
 have hlh : (hav c.hs).length = c.hs.length := by simp
 unfold checkI at hr
 by_cases hb : sizB c
 ·rw [if_pos hb] at hr
  unfold sizB at hb
  refine cT (E := E) (fn := Tryz.f14) (g := .pure _) fun _ => ?_
  repeat' first | (refine gN hE rfl ?_; conv => whnf) | exact rfl | refine aY ?_ | refine aN ?_ | refine aT (by omega) fun h => ?_ | refine aF (by omega) fun h => ?_ | refine ⟨fun h => ?_, fun h => ?_⟩ | refine aJ (by omega) (by omega) ?_ | refine ⟨_, rfl, ?_⟩ | refine ⟨by decide, ?_⟩ | refine ⟨by omega, ?_⟩ | fail
  exact To.cut [1, 3] 1 rfl rfl rfl rfl (check_nodes c hc r c.ns.length 0 (by omega) hr)
 ·rw [if_neg hb] at hr
  subst hr
  unfold sizB at hb
  refine cT (E := E) (fn := Tryz.f14) (g := .pure _) fun _ => ?_
  repeat' first
   | (refine gN hE rfl ?_; conv => whnf)
   | exact rfl
   | refine aY ?_
   | refine aN ?_
   | refine aF (by omega) fun h => ?_
   | refine aT (by omega) fun h => ?_
   | refine And.intro (fun h => ?_) (fun h => ?_)
  all_goals (exfalso; simp at *; omega)
theorem check_ok (c : Con) (hc : c.sm) : CallOK Tryz.prog 14 [c.av] [] (.ret (ii (checkI c))) [] := check_any c hc _ rfl
def hostsX (n : Nat) (l : List Int) : Bool := l.all fun h => decide (0 ≤ h ∧ h < (n : Int))
def badR (c : Con) (now : Int) (x : Rn) : Prop := gangI c.ns x.g = 0 ∨ x.st < 0 ∨ now < x.st ∨ (x.hs.length : Int) ≠ x.g.pods
instance (c : Con) (now : Int) (x : Rn) : Decidable (badR c now x) := by unfold badR; infer_instance
def runX (c : Con) (now : Int) (x : Rn) : Bool := if badR c now x then false else hostsX c.hs.length x.hs
def badF (c : Con) (now : Int) (l : List Rn) : Prop := checkI c ≠ 0 ∨ 32 < l.length ∨ now < 0 ∨ 1099511627776 < now
instance (c : Con) (now : Int) (l : List Rn) : Decidable (badF c now l) := by unfold badF; infer_instance
def fewI (c : Con) (now : Int) (l : List Rn) : Int := if badF c now l then 0 else if l.all (runX c now) = true then 1 else 0
noncomputable abbrev fFew : Func := Tryz.f44
theorem few_in (c : Con) (hc : c.sm) (now : Int) (l : List Rn) (x : Rn) (hxl : x.hs.length ≤ 1048576) (r : Int) (j : Nat) (hj : j < 1048576) :
  ∀ (m i : Nat), i + m = x.hs.length → (hostsX c.hs.length (x.hs.drop i) = false → r = 0) → (hostsX c.hs.length (x.hs.drop i) = true → To E fFew (.pure (.ret (ii r))) (.head (stk fFew 0) [(1, ii now), (2, .slice 14 (rav l) .no), (3, .ref 0 0), (7, ii ((j : Int) + 1))] [.cells 26 c.cs])) →
  To E fFew (.pure (.ret (ii r))) (.head (stk fFew 1) [(1, ii now), (2, .slice 14 (rav l) .no), (3, .ref 0 0), (7, ii j), (8, .ref 1 0), (9, ii i)] [.cells 26 c.cs, .cells 70 x.cs]) := by
 have hlen : (iv x.hs).length = x.hs.length := by simp
 have hhl : (hav c.hs).length = c.hs.length := by simp
 have h1 := hc.hs
 intro m
 induction m with
 | zero =>
  intro i hi hn hy
  rw [List.drop_eq_nil_of_le (by omega)] at hy
  have hy := hy rfl
  refine gW hE ?_; conv => whnf
  refine aF (by omega) fun h => ?_
  repeat' first | (refine gN hE rfl ?_; conv => whnf) | exact rfl | refine aY ?_ | refine aN ?_ | refine aT (by omega) fun h => ?_ | refine aF (by omega) fun h => ?_ | refine ⟨fun h => ?_, fun h => ?_⟩ | refine aJ (by omega) (by omega) ?_ | refine ⟨_, rfl, ?_⟩ | refine ⟨by decide, ?_⟩ | refine ⟨by omega, ?_⟩ | fail
  exact To.cut [1, 2, 3, 7] 1 rfl rfl rfl rfl hy
 | succ m ih =>
  intro i hi hn hy
  have hlt : i < x.hs.length := by omega
  rw [List.drop_eq_getElem_cons hlt] at hn hy
  have get := iv_get hlt
  generalize x.hs[i] = u at hn hy get
  have ih := ih (i + 1) (by omega)
  unfold hostsX at hn hy
  rw [List.all_cons] at hn hy
  by_cases hb : 0 ≤ u ∧ u < (c.hs.length : Int)
  ·rw [decide_eq_true hb] at hn hy
   have next := ih hn hy
   refine gW hE ?_; conv => whnf
   refine aT (by omega) fun h => ?_
   repeat' first | (refine gN hE rfl ?_; conv => whnf) | refine ⟨i, rfl, ?_⟩ | refine ⟨_, get, ?_⟩ | exact rfl | refine aY ?_ | refine aN ?_ | refine aT (by omega) fun h => ?_ | refine aF (by omega) fun h => ?_ | refine ⟨fun h => ?_, fun h => ?_⟩ | refine aJ (by omega) (by omega) ?_ | refine ⟨_, rfl, ?_⟩ | refine ⟨by decide, ?_⟩ | refine ⟨by omega, ?_⟩ | fail
   exact To.cut [1, 2, 3, 7, 8, 9] 2 rfl rfl rfl rfl next
  ·rw [decide_eq_false hb] at hn
   have hr := hn rfl
   subst hr
   refine gW hE ?_; conv => whnf
   refine aT (by omega) fun h => ?_
   repeat' first
    | (refine gN hE rfl ?_; conv => whnf)
    | exact rfl
    | refine Exists.intro i (And.intro rfl ?_)
    | refine Exists.intro _ (And.intro get ?_)
    | refine aY ?_
    | refine aN ?_
    | refine aF (by omega) fun h => ?_
    | refine aT (by omega) fun h => ?_
    | refine And.intro (fun h => ?_) (fun h => ?_)
   all_goals (exfalso; simp at *; omega)
theorem few_out (c : Con) (hc : c.sm) (now : Int) (l : List Rn) (hs : Sm l) (r : Int) : ∀ (m i : Nat), i + m = l.length → (if (l.drop i).all (runX c now) = true then (1 : Int) else 0) = r →
  To E fFew (.pure (.ret (ii r))) (.head (stk fFew 0) [(1, ii now), (2, .slice 14 (rav l) .no), (3, .ref 0 0), (7, ii i)] [.cells 26 c.cs]) := by
 have hlen : (rav l).length = l.length := by simp
 have h1 := hs.1
 intro m
 induction m with
 | zero =>
  intro i hi hr
  rw [List.drop_eq_nil_of_le (by omega)] at hr
  have hr : 1 = r := hr
  subst hr
  refine gW hE ?_; conv => whnf
  refine aF (by omega) fun h => ?_
  repeat' first | (refine gN hE rfl ?_; conv => whnf) | exact rfl | refine aY ?_ | refine aN ?_ | refine aT (by omega) fun h => ?_ | refine aF (by omega) fun h => ?_ | refine ⟨fun h => ?_, fun h => ?_⟩ | refine aJ (by omega) (by omega) ?_ | refine ⟨_, rfl, ?_⟩ | refine ⟨by decide, ?_⟩ | refine ⟨by omega, ?_⟩ | fail
 | succ m ih =>
  intro i hi hr
  have hlt : i < l.length := by omega
  have hb1 := hs.at hlt
  rw [List.drop_eq_getElem_cons hlt, List.all_cons] at hr
  have get := rav_get hlt
  generalize l[i] = x at hr get hb1
  have ih := ih (i + 1) (by omega)
  have hgg := gang_ok c hc x.g
  have hxl : (iv x.hs).length = x.hs.length := by simp
  unfold runX at hr
  by_cases hb : badR c now x
  ·rw [if_pos hb] at hr
   have hr : 0 = r := hr
   subst hr
   unfold badR at hb
   generalize gangI c.ns x.g = gi at hb hgg
   refine gW hE ?_; conv => whnf
   refine aT (by omega) fun h => ?_
   repeat' first
    | (refine gN hE rfl ?_; conv => whnf)
    | exact rfl
    | refine .pure _ [] hgg ?_
    | refine Exists.intro i (And.intro rfl ?_)
    | refine Exists.intro _ (And.intro get ?_)
    | refine aY ?_
    | refine aN ?_
    | refine aF (by omega) fun h => ?_
    | refine aT (by omega) fun h => ?_
    | refine And.intro (fun h => ?_) (fun h => ?_)
   all_goals (exfalso; simp at *; omega)
  ·rw [if_neg hb] at hr
   unfold badR at hb
   generalize gangI c.ns x.g = gi at hb hgg
   have hgi : (gi == 0) = false := by simp; omega
   have hpl : ((x.hs.length : Int) != x.g.pods) = false := by simp; omega
   have hin := few_in c hc now l x hb1 r i (by omega) x.hs.length 0 (by omega) (fun h => by
    have h : hostsX c.hs.length x.hs = false := h
    rw [h] at hr
    exact hr.symm) (fun h => by
    have h : hostsX c.hs.length x.hs = true := h
    rw [h] at hr
    exact ih hr)
   refine gW hE ?_; conv => whnf
   refine aT (by omega) fun h => ?_
   repeat' first
    | (refine gN hE rfl ?_; conv => whnf)
    | refine .pure _ [] hgg ?_
    | refine Exists.intro i (And.intro rfl ?_)
    | refine Exists.intro _ (And.intro get ?_)
    | refine aY ?_
    | refine aN ?_
    | refine aF (by omega) fun h => ?_
    | refine aT (by omega) fun h => ?_
    | refine And.intro (fun h => absurd (show (gi == 0) = true from h) (by rw [hgi]; decide)) (fun h => ?_)
    | refine And.intro (fun h => absurd h (by rw [hxl, hpl]; decide)) (fun h => ?_)
   all_goals exact To.cut [1, 2, 3, 7, 8, 9] 2 rfl rfl rfl rfl hin
theorem few_any (c : Con) (hc : c.sm) (now : Int) (l : List Rn) (hs : Sm l) (r : Int) (hr : fewI c now l = r) : CallOK Tryz.prog 44 [c.av, ii now, .slice 14 (rav l) .no] [] (.ret (ii r)) [] := by
 have hlen : (rav l).length = l.length := by simp
 have hck := check_ok c hc
 unfold fewI at hr
 by_cases hb : badF c now l
 ·rw [if_pos hb] at hr
  subst hr
  unfold badF at hb
  generalize checkI c = k at hb hck
  refine cT (E := E) (fn := Tryz.f44) (g := .pure _) fun _ => ?_
  repeat' first
   | (refine gN hE rfl ?_; conv => whnf)
   | exact rfl
   | refine .pure _ [] hck ?_
   | refine aY ?_
   | refine aN ?_
   | refine aF (by omega) fun h => ?_
   | refine aT (by omega) fun h => ?_
   | refine And.intro (fun h => ?_) (fun h => ?_)
  all_goals (exfalso; simp at *; omega)
 ·rw [if_neg hb] at hr
  unfold badF at hb
  generalize checkI c = k at hb hck
  have hk : (k != 0) = false := by simp; omega
  refine cT (E := E) (fn := Tryz.f44) (g := .pure _) fun _ => ?_
  repeat' first
   | (refine gN hE rfl ?_; conv => whnf)
   | refine .pure _ [] hck ?_
   | refine aY ?_
   | refine aN ?_
   | refine aF (by omega) fun h => ?_
   | refine aT (by omega) fun h => ?_
   | refine And.intro (fun h => absurd h (by rw [hk]; decide)) (fun h => ?_)
  all_goals exact To.cut [1, 2, 3, 7] 1 rfl rfl rfl rfl (few_out c hc now l hs r l.length 0 (by omega) hr)
theorem few_ok (c : Con) (hc : c.sm) (now : Int) (l : List Rn) (hs : Sm l) : CallOK Tryz.prog 44 [c.av, ii now, .slice 14 (rav l) .no] [] (.ret (ii (fewI c now l))) [] := few_any c hc now l hs _ rfl
theorem cloneI_ok (l : List Int) (h : l.length ≤ 1048576) : CallOK Tryz.prog 181 [.slice 1 (iv l) .no] [] (.ret (.slice 1 (iv l) .no)) [] := by
 have hlen : (iv l).length = l.length := by simp
 refine cT (E := E) (fn := Tryz.f181) (g := .pure _) fun _ => ?_
 refine gW hE ?_; conv => whnf
 intro b hb
 refine gW hE ?_; conv => whnf
 refine ⟨fun h => ?_, fun h => ?_⟩
 ·have h : b = true := h
  have e : iv l = [] := hb h
  refine gW hE ?_; conv => whnf
  rw [e]
 ·have h : b = false := h
  refine gW hE ?_; conv => whnf
  refine ⟨⟨by simp only [maxLen]; simp; omega, by simp; omega⟩, ?_⟩
  refine gW hE ?_; conv => whnf
  rfl
theorem vown_ok (x : Rn) (h : x.hs.length ≤ 1048576) : CallOK Tryz.prog 158 [x.av] [] (.ret x.av) [] := by
 refine cT (E := E) (fn := Tryz.f158) (g := .pure _) fun _ => ?_
 repeat' first | (refine gN hE rfl ?_; conv => whnf) | refine .pure _ [] (cloneI_ok x.hs h) ?_ | exact rfl | refine aY ?_ | refine aN ?_ | refine aT (by omega) fun h => ?_ | refine aF (by omega) fun h => ?_ | refine ⟨fun h => ?_, fun h => ?_⟩ | refine aJ (by omega) (by omega) ?_ | refine ⟨_, rfl, ?_⟩ | refine ⟨by decide, ?_⟩ | refine ⟨by omega, ?_⟩ | fail
end Go.Proofs.YtmalnhgopkfdaaaGreat
