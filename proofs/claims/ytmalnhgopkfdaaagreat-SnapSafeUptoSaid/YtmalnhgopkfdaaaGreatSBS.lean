/-
  States as bytes, as walks; the laws.
-/
import Derived.Lib.Builder
import Derived.Lib.UnsafeStr
import Derived.Lib.Walk
import Derived.Shelf.RegionOpenPlain
import Derived.Test.YtmalnhgopkfdaaaGreatRows
import Derived.Test.YtmalnhgopkfdaaaGreatSAS
set_option linter.all false
namespace Go.Proofs.YtmalnhgopkfdaaaGreat.SW
open Go Go.AW Go.Proofs Go.RowKit
set_option maxRecDepth 100000
set_option maxHeartbeats 2000000
abbrev tWr : TypeId := 83
theorem lies_wr : liesAt Tryz.prog Tryz.prog.depth tWr (2 / Tryz.prog.cellsOf tWr) 0 81 1 = true := by kernel_rfl
theorem size_bl : (Tryz.prog.info? 81).map (·.size) = some 2 := by kernel_rfl
theorem u_pb : Tryz.prog.underlying 78 = some (.pointer 81) := by kernel_rfl
theorem u_un : Tryz.prog.underlying 168 = some .unsafePointer := by kernel_rfl
theorem f_esc : Tryz.prog.funcs[121]? = some Tryz.f121 := by kernel_rfl
theorem cc_fresh_calls (b : Nat) (w : World) (h0 : w.cell? ⟨b, 0, none⟩ = some (.pointer none)) (hsh : w.shape? b = some (tWr, 2)) (hfz : w.frozen? ⟨b, 0, none⟩ = false) :
  Calls Tryz.prog 79 #[.pointer (some ⟨b, 0, none⟩)] w fun e w' => e = .returned (.tuple #[]) ∧ w' = w.setCell ⟨b, 0, none⟩ (.pointer (some ⟨b, 0, none⟩)) := by
 obtain ⟨j, hj, hjs⟩ := Option.map_eq_some_iff.1 size_bl
 go_enter Tryz.func79, Tryz.ntmps79
 go_wp2
 rw [Lib.run_to_unsafe w ⟨b, 0, none⟩ u_pb u_un hj (by rw [hjs]; decide) hsh (Nat.zero_lt_succ 1)]
 simp only [Result.andThen]
 rw [Oper.upon_value]
 go_wp2
 rw [run_callFunc_extern f_esc (by kernel_rfl) (by kernel_rfl) (by kernel_rfl) (e := Extern.AbiNoEscape.same) (by kernel_rfl)]
 rw [Lib.run_noEscape]
 simp only [Result.andThen]
 rw [Oper.upon_value]
 go_wp2
 rw [Lib.run_from_unsafe w ⟨b, 0, none⟩ u_un u_pb hj hsh lies_wr]
 simp only [Result.andThen]
 rw [Oper.upon_value]
 go_wp2
 go_end0
 exact ⟨rfl, rfl⟩
theorem u_ub : Tryz.prog.underlying 137 = some (.pointer 5) := by kernel_rfl
theorem c_ub : Tryz.prog.cellsOf 5 = 1 := by kernel_rfl
theorem str_calls (b g cap : Nat) (p : Value) (cur : Array Value) (l : List UInt8) (w : World) (hbk : w.heap[b]? = some (.cells #[p, .slice (some ⟨g, 0, none⟩) l.length cap] tWr (0, 0))) (hg : w.heap[g]? = some (.cells cur 5 (0, 0))) (h0 : l ≠ [])
  (hcap : l.length ≤ cap) (hcm : cap ≤ maxLen) (hcs : cur.size = cap) (hcell : ∀ (j : Nat) x, l[j]? = some x → w.cell? ⟨g, j, none⟩ = some (.int .u8 x.toNat)) :
  Calls Tryz.prog 36 #[.pointer (some ⟨b, 0, none⟩)] w fun e w' => e = .returned (.string ⟨l.toArray⟩) ∧ FrzAt g l.length w w' := by
 have hl0 : l.length ≠ 0 := by simpa using h0
 have c1 : w.drew.cell? ⟨b, 1, none⟩ = some (.slice (some ⟨g, 0, none⟩) l.length cap) := by
  have : w.drew.heap[b]? = some (.cells #[p, .slice (some ⟨g, 0, none⟩) l.length cap] tWr (0, 0)) := hbk
  rw [Lib.cell_of_heap this]; rfl
 have hSD : (Builtin.unsafeSliceData_ #[79] 137 #[.slice (some ⟨g, 0, none⟩) l.length cap]).run Tryz.prog w.drew = .ok (.pointer (some ⟨g, 0, none⟩)) w.drew :=
  Lib.run_unsafeSliceData_row _ _ _ _ _ _ (by omega)
 have hUS : (Builtin.unsafeString_ #[137, 3] 9 #[.pointer (some ⟨g, 0, none⟩), .int .i64 l.length]).run Tryz.prog w.drew = .ok (.string ⟨l.toArray⟩) (w.drew.freeze ⟨g, 0, none⟩ l.length) := by
  refine Lib.run_unsafeString_row w.drew 137 3 9 5 u_ub c_ub g cur.size (by have hg' : w.drew.heap[g]? = some (.cells cur 5 (0, 0)) := hg; simp [World.shape?, hg']) l h0 (by omega) (by unfold maxLen at hcm; omega) ?_
  intro j x hx
  rw [addr_add, Nat.zero_add]
  exact hcell j x hx
 have mixed : Tryz.prog.follows Departure.mixedOrders = true := hE.mix
 go_enter Tryz.func36, Tryz.ntmps36
 go_wp2
 go_region_o
 all_goals (go_wp2; go_ret; exact ⟨rfl, frz_at hl0⟩)
theorem cc_fresh (s : AVal) : CallOK Tryz.prog 79 [.ref 0 0] [.cells tWr [.nilptr, s]] (.ret (.tup [])) [.cells tWr [.ref 0 0, s]] :=
 builder_check (fun _ _ => by rfl) cc_fresh_calls s
theorem str_ok (l : List UInt8) (h0 : l ≠ []) (p : AVal) : CallOK Tryz.prog 36 [.ref 0 0] [.cells tWr [p, .slice 1 (l.map ub) (.own 1 0)], .tail 0 1 5] (.ret (.str l)) [.dead, .dead] :=
 builder_string (fun _ _ => by rfl) str_calls l h0 p
open Go Go.AW Go.Proofs
open C8 (pl putN put_ok pn_len)
set_option maxRecDepth 10000
abbrev wrO (bs : List UInt8) (g : Nat) : List AObj := [.cells tWr [.ref 0 0, .slice 1 (bs.map ub) (.own 1 g)], .tail g 1 5]
theorem cc_used (xs : List AVal) : CallOK Tryz.prog 79 [.ref 0 0] [.cells tWr [.ref 0 0, .slice 1 xs (.own 1 0)], .tail 0 1 5] (.ret (.tup [])) [.cells tWr [.ref 0 0, .slice 1 xs (.own 1 0)], .tail 0 1 5] := by
 refine cT (E := E) (fn := Tryz.f79) (g := .full 2 _ _) fun _ => ?_
 repeat' first | (refine gN hE rfl ?_; conv => whnf) | exact rfl | refine aY ?_ | refine aN ?_ | refine aT (by omega) fun h => ?_ | refine aF (by omega) fun h => ?_ | refine ⟨fun h => ?_, fun h => ?_⟩ | refine aJ (by omega) (by omega) ?_ | refine ⟨_, rfl, ?_⟩ | refine ⟨by decide, ?_⟩ | refine ⟨by omega, ?_⟩ | fail
 exact ⟨[], [0, 1], ⟨rfl, rfl⟩, rfl, rfl⟩
theorem ws_fresh (s : List UInt8) (hs : s.length ≤ 1000) : CallOK Tryz.prog 33 [.ref 0 0, .str s] [.cells tWr [.nilptr, .slice 1 [] .nil]] (.ret (.tup [ii s.length, .nilif])) (wrO s 0) := by
 refine cT (E := (Eo [14] [])) (fn := Tryz.f33) (g := .full 1 _ _) fun _ => ?_
 refine gW (hEo [14] []) ?_; conv => whnf
 refine .eff [] [0] _ _ rfl (cc_fresh _) ?_
 refine gW (hEo [14] []) ?_; conv => whnf
 refine ⟨⟨by simp only [maxLen]; simp; omega, by simp; omega⟩, ?_⟩
 refine gW (hEo [14] []) ?_; conv => whnf
 exact ⟨[], [0, 1], ⟨rfl, rfl⟩, rfl, rfl⟩
theorem ws_ok (bs s : List UInt8) (hs : bs.length + s.length ≤ 1000000) : CallOK Tryz.prog 33 [.ref 0 0, .str s] (wrO bs 0) (.ret (.tup [ii s.length, .nilif])) (wrO (bs ++ s) 1) := by
 refine cT (E := (Eo [14] [])) (fn := Tryz.f33) (g := .full 2 _ _) fun _ => ?_
 refine gW (hEo [14] []) ?_; conv => whnf
 refine .eff [] [0, 1] _ _ rfl (cc_used _) ?_
 refine gW (hEo [14] []) ?_; conv => whnf
 refine ⟨⟨by simp only [maxLen]; simp; omega, by simp; omega⟩, ?_⟩
 refine gW (hEo [14] []) ?_; conv => whnf
 refine ⟨[], [0, 1], ⟨rfl, rfl⟩, ?_⟩; conv => whnf
 refine ⟨rfl, ?_⟩
 rw [List.map_append]
 rfl
noncomputable abbrev fNums : Func := Tryz.f32
theorem nums_loop (l : List Int) (hl : ((iv l).length : Int) ≤ 9223372036854775807) (hb : ∀ n ∈ l, n ≤ 9223372036854775807) (B : List UInt8) (g0 : Nat) (hlen : 10 * l.length ≤ 1000) : ∀ (n i g : Nat) (bs : List UInt8), i + n = l.length → (g = 0 ∨ g = 1) → (n = 0 → g = g0) → (0 < n → g0 = 1) → bs.length + 10 * n ≤ 100000 → bs ++ pl (l.drop i) = B →
  To E fNums (.full 2 (.ret (.tup [])) (wrO B g0)) (.head (stk fNums 0) [(0, .ref 0 0), (6, .slice 1 (iv l) .no), (7, .int .i64 ((iv l).length : Nat)), (8, .int .i64 i)] (wrO bs g)) := by
 have hln : (iv l).length = l.length := by simp
 intro n
 induction n with
 | zero =>
  intro i g bs hi hg hg0 _ hbl hB
  have e := hg0 rfl
  subst e
  rw [List.drop_eq_nil_of_le (by omega)] at hB
  have hB : bs ++ [] = B := hB
  rw [List.append_nil] at hB
  subst hB
  refine gW hE ?_; conv => whnf
  refine aF (by omega) fun h => ?_
  refine gW hE ?_; conv => whnf
  refine ⟨[], [0, 1], ⟨rfl, rfl⟩, ?_⟩
  rcases hg with rfl | rfl
  ·exact ⟨rfl, rfl⟩
  ·exact ⟨rfl, rfl⟩
 | succ n ih =>
  intro i g bs hi hg _ hg1 hbl hB
  have e1 := hg1 (by omega)
  subst e1
  have hlt : i < l.length := by omega
  rw [List.drop_eq_getElem_cons hlt] at hB
  have hbx := hb l[i] (List.getElem_mem hlt)
  generalize hx : l[i] = x at hB hbx
  have hB : bs ++ (putN x.toNat ++ pl (l.drop (i + 1))) = B := hB
  rw [← List.append_assoc] at hB
  have get : (iv l)[i]? = some (ii x) := (iv_get hlt).trans (by rw [hx])
  have hp := pn_len hbx
  refine gW hE ?_; conv => whnf
  refine aT (by omega) fun h => ?_
  refine gW hE ?_; conv => whnf
  refine ⟨i, rfl, ?_⟩
  refine gW hE ?_; conv => whnf
  refine ⟨_, get, ?_⟩
  refine gW hE ?_; conv => whnf
  refine .pure _ [] (C8.put_ok x) ?_
  refine gW hE ?_; conv => whnf
  have next := ih (i + 1) 1 (bs ++ putN x.toNat) (by omega) (.inr rfl) (fun _ => rfl) (fun _ => rfl) (by simp; omega) hB
  rcases hg with rfl | rfl
  ·refine .sole rfl (.eff [] [0, 1] _ _ rfl (ws_ok bs _ (by omega)) ?_)
   refine gW hE ?_; conv => whnf
   refine aJ (by omega) (by omega) ?_
   refine gW hE ?_; conv => whnf
   refine To.part [0, 6, 7, 8] [0, 1] rfl rfl rfl ?_
   exact next
  ·refine .sole rfl (.eff [] [0, 1] _ _ rfl (ws_ok bs _ (by omega)) ?_)
   refine gW hE ?_; conv => whnf
   refine aJ (by omega) (by omega) ?_
   refine gW hE ?_; conv => whnf
   refine To.part [0, 6, 7, 8] [0, 1] rfl rfl rfl ?_
   exact next
theorem nums_ok (l : List Int) (h0 : l ≠ []) (hb : ∀ n ∈ l, n ≤ 9223372036854775807) (hlen : l.length ≤ 100) (bs : List UInt8) (hbs : bs.length + 10 * l.length ≤ 100000) :
  CallOK Tryz.prog 32 [.ref 0 0, .slice 1 (iv l) .no] (wrO bs 0) (.ret (.tup [])) (wrO (bs ++ pl l) 1) := by
 have hln : (iv l).length = l.length := by simp
 have hpos : 0 < l.length := List.length_pos_iff.2 h0
 refine cT (E := E) (fn := Tryz.f32) (g := .full 2 _ _) fun _ => ?_
 refine gW hE ?_; conv => whnf
 refine To.part [0, 6, 7, 8] [0, 1] rfl rfl rfl ?_
 exact nums_loop l (by omega) hb _ 1 (by omega) l.length 0 0 bs (by omega) (.inl rfl) (fun h => by omega) (fun _ => rfl) (by omega) rfl
theorem nums_fresh (k : Int) (hk : k ≤ 9223372036854775807) : CallOK Tryz.prog 32 [.ref 0 0, .slice 1 [ii k] .no] [.cells tWr [.nilptr, .slice 1 [] .nil]] (.ret (.tup [])) (wrO (putN k.toNat) 0) := by
 have hp := pn_len hk
 refine cT (E := E) (fn := Tryz.f32) (g := .full 1 _ _) fun _ => ?_
 refine gW hE ?_; conv => whnf
 refine gW hE ?_; conv => whnf
 refine And.intro (fun _ => ?_) (fun h => absurd (of_decide_eq_false h) (by simp))
 refine gW hE ?_; conv => whnf
 refine ⟨0, rfl, ?_⟩
 refine gW hE ?_; conv => whnf
 refine ⟨_, rfl, ?_⟩
 refine gW hE ?_; conv => whnf
 refine .pure _ [] (C8.put_ok k) ?_
 refine gW hE ?_; conv => whnf
 refine .sole rfl (.eff [] [0] _ _ rfl (ws_fresh _ (by omega)) ?_)
 refine gW hE ?_; conv => whnf
 refine aJ (by omega) (by omega) ?_
 refine gW hE ?_; conv => whnf
 refine gW hE ?_; conv => whnf
 refine And.intro (fun h => absurd (of_decide_eq_true h) (by simp)) (fun _ => ?_)
 refine gW hE ?_; conv => whnf
 refine ⟨[], [0, 1], ⟨rfl, rfl⟩, ?_⟩
 exact ⟨rfl, rfl⟩
end Go.Proofs.YtmalnhgopkfdaaaGreat.SW
namespace Go.Proofs.YtmalnhgopkfdaaaGreat
open Go Go.AW Go.Proofs
set_option maxRecDepth 10000
def fixAt (x i : Nat) : UInt8 := UInt8.ofNat (x / 2 ^ (8 * i) % 256)
def fixP (x i : Nat) : List UInt8 := (List.range i).map (fixAt x)
def fixL (x : Nat) : List UInt8 := fixP x 8
theorem fixP_len (x i : Nat) : (fixP x i).length = i := by simp [fixP]
theorem fixP_succ (x i : Nat) : fixP x (i + 1) = fixP x i ++ [fixAt x i] := by simp [fixP, List.range_succ]
theorem fixB (x i : Nat) : IntKind.u8.wrap ((x : Int).fdiv (2 ^ (8 * i))) = ((((fixAt x i).toNat : Nat)) : Int) := by
 rw [Int.fdiv_eq_ediv_of_nonneg _ (by exact Int.le_of_lt (Int.pow_pos (by decide)))]
 have : (x : Int) / 2 ^ (8 * i) = ((x / 2 ^ (8 * i) : Nat) : Int) := by simp
 rw [this, wrap_u8, fixAt, UInt8.toNat_ofNat', Nat.mod_mod]
noncomputable abbrev fPF : Func := Tryz.f34
theorem pfix_loop (x : Nat) : ∀ (m i : Nat) (row : List AVal), i + m = 8 → row = (fixP x i).map ub ++ List.replicate m (.int .u8 0) →
  To E fPF (.pure (.ret (.str (fixL x)))) (.head (stk fPF 0) [(0, .int .u64 x), (3, .row 0 0), (7, .int .i64 8), (8, .int .i64 i)] [.row 0 1 5 row]) := by
 intro m
 induction m with
 | zero =>
  intro i row hi hr
  have e : i = 8 := by omega
  subst e
  subst hr
  refine gW hE ?_; conv => whnf
  refine aF (by omega) fun h => ?_
  refine gW hE ?_; conv => whnf
  refine Exists.intro (fixP x 8) (And.intro (by simp) (And.intro (by simp [fixP_len]) ?_))
  refine gW hE ?_; conv => whnf
  rfl
 | succ m ih =>
  intro i row hi hr
  have hlen : row.length = 8 := by rw [hr]; simp [fixP_len]; omega
  have e1 : (8 * (i : Int)).toNat = 8 * i := by omega
  have e2 := fixB x i
  have next := ih (i + 1) (row.set i (ub (fixAt x i))) (by omega) (by
   rw [hr, fixP_succ, List.map_append, List.set_append_right _ _ (by simp [fixP_len])]
   simp [fixP_len, List.replicate_succ])
  refine gW hE ?_; conv => whnf
  refine aT (by omega) fun h => ?_
  repeat' first | (refine gN hE rfl ?_; conv => whnf) | refine @Or.inr (inR IntKind.u8 _ ∧ _) _ ?_ | refine aJ (by omega) (by omega) ?_ | refine And.intro (And.intro (show (0 : Int) ≤ 8 * (i : Int) by omega) (show (8 * (i : Int)).toNat ≤ 64 by omega)) ?_ | refine ⟨i, rfl, ?_⟩ | refine And.intro (show i < row.length by omega) ?_ | exact rfl | refine aY ?_ | refine aN ?_ | refine aT (by omega) fun h => ?_ | refine aF (by omega) fun h => ?_ | refine ⟨fun h => ?_, fun h => ?_⟩ | refine aJ (by omega) (by omega) ?_ | refine ⟨_, rfl, ?_⟩ | refine ⟨by decide, ?_⟩ | refine ⟨by omega, ?_⟩ | fail
  refine To.part [0, 3, 7, 8] [0] rfl rfl rfl ?_
  rw [e1, e2]
  exact next
theorem pfix_ok (x : Nat) : CallOK Tryz.prog 34 [.int .u64 x] [] (.ret (.str (fixL x))) [] := by
 have next := pfix_loop x 8 0 (List.replicate 8 (.int .u8 0)) rfl rfl
 refine cT (E := E) (fn := Tryz.f34) (g := .pure _) fun _ => ?_
 repeat' first | (refine gN hE rfl ?_; conv => whnf) | exact rfl | refine aY ?_ | refine aN ?_ | refine aT (by omega) fun h => ?_ | refine aF (by omega) fun h => ?_ | refine ⟨fun h => ?_, fun h => ?_⟩ | refine aJ (by omega) (by omega) ?_ | refine ⟨_, rfl, ?_⟩ | refine ⟨by decide, ?_⟩ | refine ⟨by omega, ?_⟩ | fail
 refine To.part [0, 3, 7, 8] [0] rfl rfl rfl ?_
 exact next
end Go.Proofs.YtmalnhgopkfdaaaGreat
namespace Go.Proofs.YtmalnhgopkfdaaaGreat.C8
open Go Go.AW Go.Proofs
set_option maxRecDepth 10000
theorem nums3_fresh (a b c : Int) (ha : a ≤ 9223372036854775807) (hb : b ≤ 9223372036854775807) (hc : c ≤ 9223372036854775807) : CallOK Tryz.prog 75 [.ref 0 0, .slice 1 [ii a, ii b, ii c] .no] [.cells tWr [.nilptr, .slice 1 [] .nil]] (.ret (.tup [])) (wrO (putN a.toNat ++ putN b.toNat ++ putN c.toNat) 0) := by
 have p1 := pn_len ha
 have p2 := pn_len hb
 have p3 := pn_len hc
 refine cT (E := E) (fn := Tryz.f75) (g := .full 1 _ _) fun _ => ?_
 refine gW hE ?_; conv => whnf
 refine gW hE ?_; conv => whnf
 refine And.intro (fun _ => ?_) (fun h => absurd (of_decide_eq_false h) (by simp))
 refine gW hE ?_; conv => whnf
 refine ⟨0, rfl, ?_⟩
 refine gW hE ?_; conv => whnf
 refine ⟨_, rfl, ?_⟩
 refine gW hE ?_; conv => whnf
 refine .pure _ [] (put_ok _) ?_
 refine gW hE ?_; conv => whnf
 refine .sole rfl (.eff [] [0] _ _ rfl (ws_fresh _ (by omega)) ?_)
 refine gW hE ?_; conv => whnf
 refine aJ (by omega) (by omega) ?_
 refine gW hE ?_; conv => whnf
 refine gW hE ?_; conv => whnf
 refine And.intro (fun _ => ?_) (fun h => absurd (of_decide_eq_false h) (by simp))
 refine gW hE ?_; conv => whnf
 refine ⟨1, rfl, ?_⟩
 refine gW hE ?_; conv => whnf
 refine ⟨_, rfl, ?_⟩
 refine gW hE ?_; conv => whnf
 refine .pure _ [] (put_ok _) ?_
 refine gW hE ?_; conv => whnf
 refine .sole rfl (.eff [] [0, 1] _ _ rfl (ws_ok _ _ (by omega)) ?_)
 refine gW hE ?_; conv => whnf
 refine aJ (by omega) (by omega) ?_
 refine gW hE ?_; conv => whnf
 refine gW hE ?_; conv => whnf
 refine And.intro (fun _ => ?_) (fun h => absurd (of_decide_eq_false h) (by simp))
 refine gW hE ?_; conv => whnf
 refine ⟨2, rfl, ?_⟩
 refine gW hE ?_; conv => whnf
 refine ⟨_, rfl, ?_⟩
 refine gW hE ?_; conv => whnf
 refine .pure _ [] (put_ok _) ?_
 refine gW hE ?_; conv => whnf
 refine .sole rfl (.eff [] [0, 1] _ _ rfl (ws_ok _ _ (by simp; omega)) ?_)
 refine gW hE ?_; conv => whnf
 refine aJ (by omega) (by omega) ?_
 refine gW hE ?_; conv => whnf
 refine gW hE ?_; conv => whnf
 refine And.intro (fun h => absurd (of_decide_eq_true h) (by simp)) (fun _ => ?_)
 refine gW hE ?_; conv => whnf
 refine ⟨[], [0, 1], ⟨rfl, rfl⟩, ?_⟩
 exact ⟨rfl, rfl⟩
theorem wgang_fresh (g : Gan) (h : g.ok = true) : CallOK Tryz.prog 77 [.ref 0 0, g.av] [.cells tWr [.nilptr, .slice 1 [] .nil]] (.ret (.tup [])) (wrO (pl g.il) 0) := by
 obtain ⟨h1, h2, h3⟩ := gan_b h
 have b1 := l3_m h1 g.id (by simp)
 have b2 := l3_m h1 g.ten (by simp)
 have b3 := l3_m h1 g.pods (by simp)
 have p1 := pn_len b1
 have p2 := pn_len b2
 have p3 := pn_len b3
 have l2 := pl_len (v3_m h2)
 simp only [V3.l, List.length_cons, List.length_nil] at l2
 have e : pl g.il = (putN g.id.toNat ++ putN g.ten.toNat ++ putN g.pods.toNat) ++ pl g.need.l ++ pl [g.run, g.lev, g.pref] := by simp [pl, Gan.il, V3.l]
 rw [e]
 refine cT (E := E) (fn := Tryz.f77) (g := .full 1 _ _) fun _ => ?_
 refine gW hE ?_; conv => whnf
 refine .eff [] [0] _ _ rfl (CallOK.strip (nums3_fresh g.id g.ten g.pods b1 b2 b3)) ?_
 refine gW hE ?_; conv => whnf
 refine .eff [] [0, 2] _ _ rfl (wvec_ok g.need h2 _ (by simp; omega)) ?_
 refine gW hE ?_; conv => whnf
 refine .eff [] [0, 2] _ _ rfl (CallOK.strip (nums_ok [g.run, g.lev, g.pref] (by simp) (l3_m h3) (by simp) _ (by simp [V3.l]; omega))) ?_
 refine gW hE ?_; conv => whnf
 refine ⟨[], [0, 2], ⟨rfl, rfl⟩, ?_⟩
 exact ⟨rfl, rfl⟩
theorem pg_ok (g : Gan) (h : g.ok = true) : CallOK Tryz.prog 35 [g.av] [] (.ret (.str (pl g.il))) [] := by
 have hne : pl g.il ≠ [] := pl_ne _ _
 refine cT (E := E) (fn := Tryz.f35) (g := .pure _) fun _ => ?_
 refine gW hE ?_; conv => whnf
 refine .eff [] [1] _ _ rfl (wgang_fresh g h) ?_
 refine gW hE ?_; conv => whnf
 refine .eff [] [1, 2] _ _ rfl (str_ok _ hne _) ?_
 refine gW hE ?_; conv => whnf
end Go.Proofs.YtmalnhgopkfdaaaGreat.C8
namespace Go.Proofs.YtmalnhgopkfdaaaGreat
open Go Go.AW Go.Proofs
set_option maxRecDepth 10000
def Sta.cmd (s : Sta) : Cmd := ⟨1, s.c, Gan.zero, 0⟩
def conP (s : Sta) : List UInt8 := C8.encB s.cmd
def hisP : List Nat → List UInt8
 | [] => []
 | x :: r => fixL x ++ hisP r
def penP : List Pn → List UInt8
 | [] => []
 | x :: r => (C8.pl x.g.il ++ C8.pl [x.seq, x.at']) ++ penP r
def runP : List Rn → List UInt8
 | [] => []
 | x :: r => (C8.pl x.g.il ++ C8.pl [x.seq, x.at', x.st, x.fl] ++ C8.pl x.hs) ++ runP r
def putS (s : Sta) : List UInt8 := C8.putN (conP s).length ++ conP s ++ C8.pl [s.now, s.nxt, (s.hist.length : Int)] ++ hisP s.hist ++ C8.pl [(s.pend.length : Int)] ++ penP s.pend ++ C8.pl [(s.run.length : Int)] ++ runP s.run
structure Wr (s : Sta) : Prop where
 con : (conP s).length ≤ 10000
 nums : 0 ≤ s.now ∧ s.now ≤ 1099511627776 ∧ 0 ≤ s.nxt ∧ s.nxt ≤ 1099511627776
 his : s.hist.length ≤ 100
 pen : s.pend.length ≤ 32
 run : s.run.length ≤ 32
 pg : ∀ x ∈ s.pend, x.g.ok = true ∧ okI [x.seq, x.at'] = true
 rg : ∀ x ∈ s.run, x.g.ok = true ∧ okI [x.seq, x.at', x.st, x.fl] = true ∧ okI x.hs = true ∧ x.hs ≠ [] ∧ x.hs.length ≤ 16
noncomputable abbrev fEnc : Func := Tryz.f12
abbrev enO (bs : List UInt8) (g : Nat) : List AObj := SW.wrO bs g
theorem gil_len (g : Gan) (h : g.ok = true) : (C8.pl g.il).length ≤ 90 := by
 obtain ⟨h1, h2, h3⟩ := C8.gan_b h
 have l1 := C8.pl_len (C8.l3_m h1)
 have l2 := C8.pl_len (C8.v3_m h2)
 have l3 := C8.pl_len (C8.l3_m h3)
 have e : C8.pl g.il = C8.pl [g.id, g.ten, g.pods] ++ C8.pl g.need.l ++ C8.pl [g.run, g.lev, g.pref] := by simp [C8.pl, Gan.il, V3.l]
 simp only [V3.l, List.length_cons, List.length_nil] at l1 l2 l3
 rw [e, List.length_append, List.length_append]
 simp only [V3.l]
 omega
theorem ok_max {l : List Int} (h : okI l = true) : ∀ n ∈ l, n ≤ 9223372036854775807 := fun n hn => by have := C8.okI_b h n hn; omega
theorem enc_run (s : Sta) (w : Wr s) (B : List UInt8) (hne : B ≠ []) : ∀ (m i : Nat) (bs : List UInt8), i + m = s.run.length → bs.length + 300 * m ≤ 40000 → bs ++ runP (s.run.drop i) = B →
  To E fEnc (.pure (.ret (.tup [.str B, ii 0]))) (.head (stk fEnc 2) [(7, .ref 0 0), (97, .slice 14 (rav s.run) .no), (98, .int .i64 ((rav s.run).length : Nat)), (99, ii (i : Int))] (enO bs 0)) := by
 have hlen : (rav s.run).length = s.run.length := by simp
 have hlr := w.run
 intro m
 induction m with
 | zero =>
  intro i bs hi hbl hB
  rw [List.drop_eq_nil_of_le (by omega)] at hB
  have hB : bs ++ [] = B := hB
  rw [List.append_nil] at hB
  subst hB
  refine gW hE ?_; conv => whnf
  refine aF (by omega) fun h => ?_
  refine gW hE ?_; conv => whnf
  refine .eff [] [0, 1] _ _ rfl (SW.str_ok _ hne _) ?_
  refine gW hE ?_; conv => whnf
 | succ m ih =>
  intro i bs hi hbl hB
  have hlt : i < s.run.length := by omega
  rw [List.drop_eq_getElem_cons hlt] at hB
  have get := rav_get hlt
  obtain ⟨g1, g2, g3, g4, g5⟩ := w.rg s.run[i] (List.getElem_mem hlt)
  generalize s.run[i] = x at hB get g1 g2 g3 g4 g5
  have hB : bs ++ ((C8.pl x.g.il ++ C8.pl [x.seq, x.at', x.st, x.fl] ++ C8.pl x.hs) ++ runP (s.run.drop (i + 1))) = B := hB
  rw [← List.append_assoc, ← List.append_assoc, ← List.append_assoc] at hB
  have l1 := gil_len x.g g1
  have l2 := C8.pl_len (ok_max g2)
  have l3 := C8.pl_len (ok_max g3)
  simp only [List.length_cons, List.length_nil] at l2
  have hp := C8.pg_ok x.g g1
  have h1 := SW.ws_ok bs (C8.pl x.g.il) (by omega)
  have h2 := SW.nums_ok [x.seq, x.at', x.st, x.fl] (by simp) (ok_max g2) (by simp) (bs ++ C8.pl x.g.il) (by simp; omega)
  have h3 := SW.nums_ok x.hs g4 (ok_max g3) (by omega) (bs ++ C8.pl x.g.il ++ C8.pl [x.seq, x.at', x.st, x.fl]) (by simp only [List.length_append]; omega)
  have next := ih (i + 1) _ (by omega) (by simp only [List.length_append]; omega) hB
  refine gW hE ?_; conv => whnf
  refine aT (by omega) fun h => ?_
  refine gW hE ?_; conv => whnf
  refine ⟨i, rfl, ?_⟩
  refine gW hE ?_; conv => whnf
  refine ⟨_, get, ?_⟩
  refine gW hE ?_; conv => whnf
  refine .pure _ [] hp ?_
  refine gW hE ?_; conv => whnf
  refine .sole rfl (.eff [] [0, 1] _ _ rfl h1 ?_)
  refine gW hE ?_; conv => whnf
  refine .eff [] [0, 1] _ _ rfl (CallOK.strip h2) ?_
  refine gW hE ?_; conv => whnf
  refine .eff [] [0, 1] _ _ rfl h3 ?_
  refine gW hE ?_; conv => whnf
  refine aJ (by omega) (by omega) ?_
  refine gW hE ?_; conv => whnf
  refine To.part [7, 97, 98, 99] [0, 1] rfl rfl rfl ?_
  exact next
theorem enc_pen (s : Sta) (w : Wr s) (B : List UInt8) (hne : B ≠ []) : ∀ (m i : Nat) (bs : List UInt8), i + m = s.pend.length → bs.length + 150 * m ≤ 20000 → bs ++ penP (s.pend.drop i) ++ (C8.pl [(s.run.length : Int)] ++ runP s.run) = B →
  To E fEnc (.pure (.ret (.tup [.str B, ii 0]))) (.head (stk fEnc 1) [(1, .ptr s.cs), (7, .ref 0 0), (69, .slice 11 (pnv s.pend) .no), (70, .int .i64 ((pnv s.pend).length : Nat)), (71, ii (i : Int))] (enO bs 0)) := by
 have hlen : (pnv s.pend).length = s.pend.length := by simp
 have hlr : (rav s.run).length = s.run.length := by simp
 have hlp := w.pen
 have hrr := w.run
 intro m
 induction m with
 | zero =>
  intro i bs hi hbl hB
  rw [List.drop_eq_nil_of_le (by omega)] at hB
  have hB : bs ++ [] ++ (C8.pl [(s.run.length : Int)] ++ runP s.run) = B := hB
  rw [List.append_nil, ← List.append_assoc] at hB
  have hm : ∀ n ∈ [(s.run.length : Int)], n ≤ 9223372036854775807 := fun n hn => by simp at hn; omega
  have l1 := C8.pl_len hm
  simp only [List.length_cons, List.length_nil] at l1
  have h1 := SW.nums_ok [(s.run.length : Int)] (by simp) hm (by simp) bs (by simp; omega)
  have next := enc_run s w B hne s.run.length 0 (bs ++ C8.pl [(s.run.length : Int)]) (by omega) (by rw [List.length_append]; omega) hB
  rw [← hlr] at h1
  rw [← hlr] at next
  refine gW hE ?_; conv => whnf
  refine aF (by omega) fun h => ?_
  refine gW hE ?_; conv => whnf
  refine .eff [] [0, 1] _ _ rfl (CallOK.strip h1) ?_
  refine gW hE ?_; conv => whnf
  refine To.part [7, 97, 98, 99] [0, 1] rfl rfl rfl ?_
  exact next
 | succ m ih =>
  intro i bs hi hbl hB
  have hlt : i < s.pend.length := by omega
  rw [List.drop_eq_getElem_cons hlt] at hB
  have get := pnv_get hlt
  obtain ⟨g1, g2⟩ := w.pg s.pend[i] (List.getElem_mem hlt)
  generalize s.pend[i] = x at hB get g1 g2
  have hB : bs ++ ((C8.pl x.g.il ++ C8.pl [x.seq, x.at']) ++ penP (s.pend.drop (i + 1))) ++ (C8.pl [(s.run.length : Int)] ++ runP s.run) = B := hB
  rw [← List.append_assoc bs, ← List.append_assoc bs] at hB
  have l1 := gil_len x.g g1
  have l2 := C8.pl_len (ok_max g2)
  simp only [List.length_cons, List.length_nil] at l2
  have hp := C8.pg_ok x.g g1
  have h1 := SW.ws_ok bs (C8.pl x.g.il) (by omega)
  have h2 := SW.nums_ok [x.seq, x.at'] (by simp) (ok_max g2) (by simp) (bs ++ C8.pl x.g.il) (by simp; omega)
  have next := ih (i + 1) _ (by omega) (by simp only [List.length_append]; omega) hB
  refine gW hE ?_; conv => whnf
  refine aT (by omega) fun h => ?_
  refine gW hE ?_; conv => whnf
  refine ⟨i, rfl, ?_⟩
  refine gW hE ?_; conv => whnf
  refine ⟨_, get, ?_⟩
  refine gW hE ?_; conv => whnf
  refine .pure _ [] hp ?_
  refine gW hE ?_; conv => whnf
  refine .sole rfl (.eff [] [0, 1] _ _ rfl h1 ?_)
  refine gW hE ?_; conv => whnf
  refine .eff [] [0, 1] _ _ rfl (CallOK.strip h2) ?_
  refine gW hE ?_; conv => whnf
  refine aJ (by omega) (by omega) ?_
  refine gW hE ?_; conv => whnf
  refine To.part [1, 7, 69, 70, 71] [0, 1] rfl rfl rfl ?_
  exact next
theorem fv_get {l : List Nat} {i : Nat} (h : i < l.length) : (fv l)[i]? = some (.int .u64 (l[i] : Int)) := by simp [fv, h]
theorem enc_his (s : Sta) (w : Wr s) (B : List UInt8) (hne : B ≠ []) : ∀ (m i : Nat) (bs : List UInt8), i + m = s.hist.length → bs.length + 8 * m ≤ 15000 → bs ++ hisP (s.hist.drop i) ++ (C8.pl [(s.pend.length : Int)] ++ (penP s.pend ++ (C8.pl [(s.run.length : Int)] ++ runP s.run))) = B →
  To E fEnc (.pure (.ret (.tup [.str B, ii 0]))) (.head (stk fEnc 0) [(1, .ptr s.cs), (7, .ref 0 0), (49, .slice 1 (fv s.hist) .no), (50, .int .i64 ((fv s.hist).length : Nat)), (51, ii (i : Int))] (enO bs 0)) := by
 have hlen : (fv s.hist).length = s.hist.length := by simp
 have hlr : (pnv s.pend).length = s.pend.length := by simp
 have hlp := w.pen
 have hlh := w.his
 intro m
 induction m with
 | zero =>
  intro i bs hi hbl hB
  rw [List.drop_eq_nil_of_le (by omega)] at hB
  have hB : bs ++ [] ++ (C8.pl [(s.pend.length : Int)] ++ (penP s.pend ++ (C8.pl [(s.run.length : Int)] ++ runP s.run))) = B := hB
  rw [List.append_nil, ← List.append_assoc, ← List.append_assoc] at hB
  have hm : ∀ n ∈ [(s.pend.length : Int)], n ≤ 9223372036854775807 := fun n hn => by simp at hn; omega
  have l1 := C8.pl_len hm
  simp only [List.length_cons, List.length_nil] at l1
  have h1 := SW.nums_ok [(s.pend.length : Int)] (by simp) hm (by simp) bs (by simp; omega)
  have next := enc_pen s w B hne s.pend.length 0 (bs ++ C8.pl [(s.pend.length : Int)]) (by omega) (by rw [List.length_append]; omega) hB
  rw [← hlr] at h1
  rw [← hlr] at next
  refine gW hE ?_; conv => whnf
  refine aF (by omega) fun h => ?_
  refine gW hE ?_; conv => whnf
  refine .eff [] [0, 1] _ _ rfl (CallOK.strip h1) ?_
  refine gW hE ?_; conv => whnf
  refine To.part [1, 7, 69, 70, 71] [0, 1] rfl rfl rfl ?_
  exact next
 | succ m ih =>
  intro i bs hi hbl hB
  have hlt : i < s.hist.length := by omega
  rw [List.drop_eq_getElem_cons hlt] at hB
  have get := fv_get hlt
  generalize s.hist[i] = x at hB get
  have hB : bs ++ (fixL x ++ hisP (s.hist.drop (i + 1))) ++ (C8.pl [(s.pend.length : Int)] ++ (penP s.pend ++ (C8.pl [(s.run.length : Int)] ++ runP s.run))) = B := hB
  rw [← List.append_assoc bs] at hB
  have l1 : (fixL x).length = 8 := fixP_len x 8
  have hp := pfix_ok x
  have h1 := SW.ws_ok bs (fixL x) (by omega)
  have next := ih (i + 1) _ (by omega) (by simp only [List.length_append]; omega) hB
  refine gW hE ?_; conv => whnf
  refine aT (by omega) fun h => ?_
  refine gW hE ?_; conv => whnf
  refine ⟨i, rfl, ?_⟩
  refine gW hE ?_; conv => whnf
  refine ⟨_, get, ?_⟩
  refine gW hE ?_; conv => whnf
  refine .pure _ [] hp ?_
  refine gW hE ?_; conv => whnf
  refine .sole rfl (.eff [] [0, 1] _ _ rfl h1 ?_)
  refine gW hE ?_; conv => whnf
  refine aJ (by omega) (by omega) ?_
  refine gW hE ?_; conv => whnf
  refine To.part [1, 7, 49, 50, 51] [0, 1] rfl rfl rfl ?_
  exact next
def enB (s : Sta) : List AObj := [.cells 31 s.cs]
def enB' (s : Sta) : List AObj := [.fcells s.cs]
theorem en_frz (s : Sta) : frzs [0] (enB s) = enB' s := by kernel_rfl
theorem en_frzF (s : Sta) : frzF [1] (oget (enB' s)) [(1, .ref 0 0), (2, .str []), (3, ii 0)] = [(1, .ptr s.cs), (2, .str []), (3, ii 0)] := by kernel_rfl
theorem en_step {g : Goal} {ks : List KI} (s : Sta) (h : To E fEnc g (.code ks [(1, .ptr s.cs), (2, .str []), (3, ii 0)] (enB' s))) : To E fEnc g (.code ks [(1, .ref 0 0), (2, .str []), (3, ii 0)] (enB s)) := by
 refine To.frz [1] [0] ?_
 rw [en_frz, en_frzF]
 exact h
def encS (s : Sta) : List UInt8 := if chkS s = true then putS s else []
theorem senc_ok (s : Sta) (hc : s.c.sm) (hs : Sm s.run) (hw : chkS s = true → Wr s) : CallOK Tryz.prog 12 [s.av] [] (.ret (.tup [.str (encS s), ii (if chkS s = true then 0 else 1)])) [] := by
 have hck := scheck_ok s hc hs
 unfold encS
 cases hq : chkS s with
 | false =>
  rw [hq] at hck
  have hck : CallOK Tryz.prog 13 [s.av] [] (.ret (ii 1)) [] := hck
  show CallOK _ _ _ _ (.ret (.tup [.str [], ii 1])) _
  refine cT (E := E) (fn := Tryz.f12) (g := .pure _) fun _ => ?_
  repeat' first | (refine gN hE rfl ?_; conv => whnf) | refine .pure _ [] hck ?_ | exact rfl | refine aY ?_ | refine aN ?_ | refine aT (by omega) fun h => ?_ | refine aF (by omega) fun h => ?_ | refine ⟨fun h => ?_, fun h => ?_⟩ | refine aJ (by omega) (by omega) ?_ | refine ⟨_, rfl, ?_⟩ | refine ⟨by decide, ?_⟩ | refine ⟨by omega, ?_⟩ | fail
 | true =>
  rw [hq] at hck
  have hck : CallOK Tryz.prog 13 [s.av] [] (.ret (ii 0)) [] := hck
  show CallOK _ _ _ _ (.ret (.tup [.str (putS s), ii 0])) _
  have w := hw hq
  have he : CallOK Tryz.prog 31 [s.cmd.av] [] (.ret (.tup [.str (conP s), ii (C8.chk s.cmd)])) [] := C8.enc_ok s.cmd
  have hlh : (fv s.hist).length = s.hist.length := by simp
  have hl1 := w.con
  have hl2 := w.his
  obtain ⟨n1, n2, n3, n4⟩ := w.nums
  have h1 := SW.nums_fresh ((conP s).length : Int) (by omega)
  rw [Int.toNat_natCast] at h1
  have lp : (C8.putN (conP s).length).length ≤ 10 := by
   have := C8.pn_len (n := ((conP s).length : Int)) (by omega)
   rw [Int.toNat_natCast] at this
   omega
  have h2 := SW.ws_ok (C8.putN (conP s).length) (conP s) (by omega)
  have hm : ∀ n ∈ [s.now, s.nxt, (s.hist.length : Int)], n ≤ 9223372036854775807 := fun n hn => by simp at hn; omega
  have l3 := C8.pl_len hm
  simp only [List.length_cons, List.length_nil] at l3
  have h3 := SW.nums_ok [s.now, s.nxt, (s.hist.length : Int)] (by simp) hm (by simp) (C8.putN (conP s).length ++ conP s) (by simp; omega)
  have hne : putS s ≠ [] := by
   intro h
   have := congrArg List.length h
   unfold putS at this
   have e : C8.pl [s.now, s.nxt, (s.hist.length : Int)] ≠ [] := C8.pl_ne _ _
   have := List.length_pos_iff.2 e
   simp only [List.length_append, List.length_nil] at *
   omega
  have next := enc_his s w (putS s) hne s.hist.length 0 (C8.putN (conP s).length ++ conP s ++ C8.pl [s.now, s.nxt, (s.hist.length : Int)]) (by omega) (by simp only [List.length_append]; omega) (by unfold putS; simp only [List.drop_zero, List.append_assoc])
  rw [← hlh] at h3
  rw [← hlh] at next
  generalize conP s = C at he h1 h2 h3 next
  generalize putS s = B at next
  generalize C8.chk s.cmd = ck at he
  refine cT (E := E) (fn := Tryz.f12) (g := .pure _) fun _ => ?_
  refine goes hE 13 ?_; conv => whnf
  refine To.cutC [1, 2, 3] 1 rfl rfl rfl rfl ?_
  refine en_step s ?_
  refine gW hE ?_; conv => whnf
  refine .pure _ [] hck ?_
  refine gW hE ?_; conv => whnf
  refine And.intro (fun h => absurd h (by decide)) (fun _ => ?_)
  refine gW hE ?_; conv => whnf
  refine .pure _ [] he ?_
  refine gW hE ?_; conv => whnf
  refine .eff [] [1] _ _ rfl (CallOK.strip h1) ?_
  refine gW hE ?_; conv => whnf
  refine .eff [] [1, 2] _ _ rfl h2 ?_
  refine gW hE ?_; conv => whnf
  refine .eff [] [1, 2] _ _ rfl (CallOK.strip h3) ?_
  refine gW hE ?_; conv => whnf
  refine To.part [1, 7, 49, 50, 51] [1, 2] rfl rfl rfl ?_
  exact next
open C8 (leN leN_lt leN_snoc take_snoc)
set_option maxRecDepth 10000
def getFixV (l : List UInt8) : AVal := if l.length < 8 then .tup [.int .u64 0, .int .i64 0, .int .i64 10] else .tup [.int .u64 (leN (l.take 8)), .int .i64 8, .int .i64 0]
noncomputable abbrev fGF : Func := Tryz.f57
theorem getf_loop (l : List UInt8) (hl : 8 ≤ l.length) : ∀ (f i : Nat), i + f = 8 →
  To E fGF (.pure (.ret (.tup [.int .u64 (leN (l.take 8)), .int .i64 8, .int .i64 0]))) (.head (stk fGF 0) [(0, .str l), (5, .int .u64 (leN (l.take i))), (10, .int .i64 i)] []) := by
 intro f
 induction f with
 | zero =>
  intro i hi
  have e : i = 8 := by omega
  subst e
  refine gW hE ?_; conv => whnf
  refine aF (by omega) fun h => ?_
  repeat' first | (refine gN hE rfl ?_; conv => whnf) | exact rfl | refine aY ?_ | refine aN ?_ | refine aT (by omega) fun h => ?_ | refine aF (by omega) fun h => ?_ | refine ⟨fun h => ?_, fun h => ?_⟩ | refine aJ (by omega) (by omega) ?_ | refine ⟨_, rfl, ?_⟩ | refine ⟨by decide, ?_⟩ | refine ⟨by omega, ?_⟩ | fail
 | succ f ih =>
  intro i hi
  obtain ⟨c, hc⟩ : ∃ c, l[i]? = some c := ⟨l[i]'(by omega), List.getElem?_eq_getElem (by omega)⟩
  have hc2 : c.toNat < 256 := c.toNat_lt
  have hacc := leN_lt (l.take i)
  rw [List.length_take, Nat.min_eq_left (by omega)] at hacc
  have h5 : 2 ^ (8 * (i + 1)) = 256 * 2 ^ (8 * i) := by rw [Nat.mul_add, Nat.pow_add]; omega
  have h4 : c.toNat * 2 ^ (8 * i) ≤ 255 * 2 ^ (8 * i) := Nat.mul_le_mul_right _ (by omega)
  have h6 : 2 ^ (8 * (i + 1)) ≤ 2 ^ 64 := Nat.pow_le_pow_right (by decide) (by omega)
  have e2 : (8 * (i : Int)).toNat = 8 * i := by omega
  have e3 : (c.toNat : Int) * 2 ^ (8 * i) = ((c.toNat * 2 ^ (8 * i) : Nat) : Int) := by simp
  have e4 : ebits .or .u64 (leN (l.take i) : Int) ((c.toNat * 2 ^ (8 * i) : Nat) : Int) = ((leN (l.take (i + 1)) : Nat) : Int) := by
   rw [ebits_or .u64 _ _ (by simp only [kmax]; omega) (by simp only [kmax]; omega), or_add hacc, take_snoc hc, leN_snoc, List.length_take, Nat.min_eq_left (by omega)]
  have next := ih (i + 1) (by omega)
  refine gW hE ?_; conv => whnf
  refine aT (by omega) fun h => ?_
  refine gW hE ?_; conv => whnf
  refine ⟨i, rfl, ?_⟩
  refine gW hE ?_; conv => whnf
  refine ⟨c, hc, ?_⟩
  refine gW hE ?_; conv => whnf
  refine Or.inl (And.intro (show inR IntKind.u64 (c.toNat : Int) from inR_nat (by simp only [kmax]; omega)) ?_)
  refine gW hE ?_; conv => whnf
  refine aJ (by omega) (by omega) ?_
  refine gW hE ?_; conv => whnf
  refine And.intro (show (0 : Int) ≤ 8 * (i : Int) by omega) ?_
  refine gW hE ?_; conv => whnf
  refine Or.inl (And.intro (And.intro (by rw [e2]; simp only [IntKind.bits]; omega) (by rw [e2, e3]; exact inR_nat (by simp only [kmax]; omega))) ?_)
  refine gW hE ?_; conv => whnf
  rw [e2, e3, e4]
  refine aJ (by omega) (by omega) ?_
  refine gW hE ?_; conv => whnf
  refine To.part [0, 5, 10] [] rfl rfl rfl ?_
  exact next
theorem getf_ok (l : List UInt8) : CallOK Tryz.prog 57 [.str l] [] (.ret (getFixV l)) [] := by
 unfold getFixV
 by_cases h : l.length < 8
 ·rw [if_pos h]
  refine cT (E := E) (fn := Tryz.f57) (g := .pure _) fun _ => ?_
  refine gW hE ?_; conv => whnf
  refine And.intro (fun _ => ?_) (fun h => absurd (of_decide_eq_false h) (by omega))
  repeat' first | (refine gN hE rfl ?_; conv => whnf) | exact rfl | refine aY ?_ | refine aN ?_ | refine aT (by omega) fun h => ?_ | refine aF (by omega) fun h => ?_ | refine ⟨fun h => ?_, fun h => ?_⟩ | refine aJ (by omega) (by omega) ?_ | refine ⟨_, rfl, ?_⟩ | refine ⟨by decide, ?_⟩ | refine ⟨by omega, ?_⟩ | fail
 ·rw [if_neg h]
  have next := getf_loop l (by omega) 8 0 rfl
  refine cT (E := E) (fn := Tryz.f57) (g := .pure _) fun _ => ?_
  refine gW hE ?_; conv => whnf
  refine And.intro (fun h => absurd (of_decide_eq_true h) (by omega)) (fun _ => ?_)
  repeat' first | (refine gN hE rfl ?_; conv => whnf) | exact rfl | refine aY ?_ | refine aN ?_ | refine aT (by omega) fun h => ?_ | refine aF (by omega) fun h => ?_ | refine ⟨fun h => ?_, fun h => ?_⟩ | refine aJ (by omega) (by omega) ?_ | refine ⟨_, rfl, ?_⟩ | refine ⟨by decide, ?_⟩ | refine ⟨by omega, ?_⟩ | fail
  refine To.part [0, 5, 10] [] rfl rfl rfl ?_
  exact next
open C8 (leN rNum rCount rGan rdO rdU resR objR stopV opt_elim num_ok num_bad count_ok count_bad rgan_ok rgan_bad rNum_b rCount_b tRd)
set_option maxRecDepth 10000
abbrev RSt : Type := Option ((Sta × Bool) × List UInt8)
def Con.nil : Con := ⟨[], [], 0, 0⟩
def Sta.nil : Sta := ⟨Con.nil, 0, 0, [], [], []⟩
def rHos : Nat → List Int → List UInt8 → Option (List Int × List UInt8)
 | 0, hs, s => some (hs, s)
 | m + 1, hs, s => match rNum s with
  | none => none
  | some (h, s) => rHos m (hs ++ [h]) s
def rR (c : Con) (now nxt : Int) (hi : List Nat) (ps : List Pn) : Nat → List Rn → List UInt8 → RSt
 | 0, rs, s => some ((⟨c, now, nxt, ps, rs, hi⟩, s == []), s)
 | m + 1, rs, s => match rGan s with
  | none => none
  | some (g, s) => match rNum s with
   | none => none
   | some (q, s) => match rNum s with
        | none => none
        | some (a, s) => match rNum s with
         | none => none
         | some (t, s) => match rNum s with
          | none => none
          | some (f, s) => if decide ((s.length : Int) < g.pods) = true then some ((⟨c, now, nxt, ps, rs, hi⟩, false), s) else match rHos g.pods.toNat [] s with
           | none => none
           | some (hs, s) => rR c now nxt hi ps m (rs ++ [⟨g, q, a, t, f, hs⟩]) s
def rRs (c : Con) (now nxt : Int) (hi : List Nat) (ps : List Pn) (s : List UInt8) : RSt := match rCount s with
 | none => none
 | some (n, s) => rR c now nxt hi ps n.toNat [] s
def rP (c : Con) (now nxt : Int) (hi : List Nat) : Nat → List Pn → List UInt8 → RSt
 | 0, ps, s => rRs c now nxt hi ps s
 | m + 1, ps, s => match rGan s with
  | none => none
  | some (g, s) => match rNum s with
   | none => none
   | some (q, s) => match rNum s with
        | none => none
        | some (a, s) => rP c now nxt hi m (ps ++ [⟨g, q, a⟩]) s
def rPs (c : Con) (now nxt : Int) (hi : List Nat) (s : List UInt8) : RSt := match rCount s with
 | none => none
 | some (n, s) => rP c now nxt hi n.toNat [] s
def rH (c : Con) (now nxt : Int) : Nat → List Nat → List UInt8 → RSt
 | 0, hi, s => rPs c now nxt hi s
 | m + 1, hi, s => if s.length < 8 then some ((⟨c, now, nxt, [], [], hi⟩, false), s) else rH c now nxt m (hi ++ [leN (s.take 8)]) (s.drop 8)
def rB (c : Con) (s : List UInt8) : RSt := match rNum s with
 | none => none
 | some (now, s) => match rNum s with
  | none => none
  | some (nxt, s) => match rCount s with
   | none => none
   | some (n, s) => rH c now nxt n.toNat [] s
def rSt (s : List UInt8) : RSt := match rCount s with
 | none => none
 | some (n, s) => match C8.dec (s.take n.toNat) with
  | none => some ((Sta.nil, false), s)
  | some x => if x.k = 1 then rB x.c (s.drop n.toNat) else some ((Sta.nil, false), s)
def stR (p : Sta × Bool) : AVal := .tup [p.1.av, .bool p.2]
noncomputable abbrev fRd : Func := Tryz.f20
abbrev reC (c : Con) (now nxt : Int) (p r h : AVal) : List AVal := [.slice 11 (nav c.ns) .no, .slice 6 (hav c.hs) .no, ii c.half, ii c.age, ii now, ii nxt, p, r, h]
theorem rGan_b {s s' : List UInt8} {g : Gan} (h : rGan s = some (g, s')) : s'.length + 1 ≤ s.length ∧ 0 ≤ g.pods ∧ g.pods ≤ 9223372036854775807 := by
 unfold C8.rGan at h
 split at h
 ·cases h
 ·rename_i h1
  split at h
  ·cases h
  ·rename_i h2
   split at h
   ·cases h
   ·rename_i h3
    split at h
    ·cases h
    ·rename_i h4
     split at h
     ·cases h
     ·rename_i h5
      split at h
      ·cases h
      ·rename_i h6
       split at h
       ·cases h
       ·rename_i h7
        cases h
        have b1 := rNum_b h1
        have b2 := rNum_b h2
        have b3 := rNum_b h3
        have b4 := C8.rVec_b h4
        have b5 := rNum_b h5
        have b6 := rNum_b h6
        have b7 := rNum_b h7
        exact ⟨by omega, b3.1, b3.2.1⟩
abbrev reR (c : Con) (now nxt : Int) (hi : List Nat) (ps : List Pn) (rs : List Rn) (s : List UInt8) : List AObj := [.cells tRd [.str s], .cells 31 (reC c now nxt (.slice 11 (pnv ps) .no) (.slice 14 (rav rs) (.own 2 0)) (.slice 1 (fv hi) .no)), .tail 0 14 70]
abbrev reG (g : Gan) (q a t f : Int) (x : AVal) : List AVal := [ii g.id, ii g.ten, ii g.pods, ii g.need.a, ii g.need.b, ii g.need.c, ii g.run, ii g.lev, ii g.pref, ii q, ii a, ii t, ii f, x]
theorem rg_loop (c : Con) (now nxt : Int) (hi : List Nat) (ps : List Pn) (rs : List Rn) (hrs : rs.length ≤ 1000000) (n : Int) (i : Nat) (hin : (i : Int) < 9223372036854775807) (g : Gan) (q a t f : Int) (hp : 0 ≤ g.pods ∧ g.pods ≤ 9223372036854775807) (r : Res) (O : List AObj) (m : Nat)
  (cont : ∀ (hs : List Int) (s : List UInt8), s.length ≤ 1000000 → rs.length + s.length + 1 ≤ 1000000 → hs.length ≤ 1000000 → resR stR (rR c now nxt hi ps m (rs ++ [⟨g, q, a, t, f, hs⟩]) s) = r → objR (rR c now nxt hi ps m (rs ++ [⟨g, q, a, t, f, hs⟩]) s) = O →
   To E fRd (.full 1 r O) (.head (stk fRd 2) [(0, .ref 0 0), (2, .ref 1 0), (99, .int .i64 n), (100, .int .i64 ((i : Int) + 1))] (reR c now nxt hi ps (rs ++ [⟨g, q, a, t, f, hs⟩]) s))) :
  ∀ (k j : Nat) (s : List UInt8) (hs : List Int), (j + k : Int) = g.pods → hs.length + s.length ≤ 1000000 → rs.length + s.length + 1 ≤ 1000000 →
   resR stR (match rHos k hs s with | none => none | some (hs, s) => rR c now nxt hi ps m (rs ++ [⟨g, q, a, t, f, hs⟩]) s) = r → objR (match rHos k hs s with | none => none | some (hs, s) => rR c now nxt hi ps m (rs ++ [⟨g, q, a, t, f, hs⟩]) s) = O →
  To E fRd (.full 1 r O) (.head (stk fRd 3) [(0, .ref 0 0), (2, .ref 1 0), (10, .ref 3 0), (99, .int .i64 n), (100, .int .i64 i), (125, ii g.pods), (126, .int .i64 j)]
   (reR c now nxt hi ps rs s ++ [.cells 70 (reG g q a t f (.slice 1 (iv hs) (.own 4 0))), .tail 0 1 3])) := by
 intro k
 induction k with
 | zero =>
  intro j s hs hj hl hl2 hr ho
  have hr : resR stR (rR c now nxt hi ps m (rs ++ [⟨g, q, a, t, f, hs⟩]) s) = r := hr
  have ho : objR (rR c now nxt hi ps m (rs ++ [⟨g, q, a, t, f, hs⟩]) s) = O := ho
  have hlen : (rav rs).length = rs.length := by simp
  have next := cont hs s (by omega) hl2 (by omega) hr ho
  have e : rav (rs ++ [⟨g, q, a, t, f, hs⟩]) = rav rs ++ [Rn.av ⟨g, q, a, t, f, hs⟩] := by simp
  unfold reR at next
  rw [e] at next
  refine gW hE ?_; conv => whnf
  refine aF (by omega) fun h => ?_
  repeat' first | (refine gN hE rfl ?_; conv => whnf) | refine ⟨⟨by simp only [maxLen]; simp; omega, by simp; omega⟩, ?_⟩ | exact rfl | refine aY ?_ | refine aN ?_ | refine aT (by omega) fun h => ?_ | refine aF (by omega) fun h => ?_ | refine ⟨fun h => ?_, fun h => ?_⟩ | refine aJ (by omega) (by omega) ?_ | refine ⟨_, rfl, ?_⟩ | refine ⟨by decide, ?_⟩ | refine ⟨by omega, ?_⟩ | fail
  refine To.part [0, 2, 99, 100] [0, 1, 2] rfl rfl rfl ?_
  exact next
 | succ k ih =>
  intro j s hs hj hl hl2 hr ho
  unfold rHos at hr ho
  have hlen : (iv hs).length = hs.length := by simp
  refine gW hE ?_; conv => whnf
  refine aT (by omega) fun h => ?_
  refine goes hE 3 ?_; conv => whnf
  refine To.permAt hE [0, 1, 2, 6] [3, 4, 5, 7] (by rfl) ?_; conv => whnf
  refine And.intro (by repeat (first | exact trivial | refine And.intro rfl ?_)) ?_; conv => whnf
  refine opt_elim (o := rNum s) (fun h1 => ?_) (fun ⟨u, s1⟩ h1 => ?_)
  ·simp only [h1] at hr ho
   have hr : Res.pan (stopV 10) = r := hr
   have ho : rdU = O := ho
   subst hr ho
   refine .effp [] [0] _ _ rfl (num_bad h1) ?_
   exact ⟨[], [0], ⟨rfl, rfl⟩, rfl, rfl⟩
  simp only [h1] at hr ho
  refine .eff [] [0] _ _ rfl (num_ok h1) ?_
  have b1 := rNum_b h1
  have next := ih (j + 1) s1 (hs ++ [u]) (by omega) (by simp; omega) (by omega) hr ho
  have e : iv (hs ++ [u]) = iv hs ++ [ii u] := by simp
  rw [e] at next; conv => whnf
  refine And.intro (by repeat (first | exact trivial | refine And.intro rfl ?_)) ?_; conv => whnf; conv => whnf
  refine And.intro (by repeat (first | exact trivial | refine And.intro rfl ?_)) ?_; conv => whnf
  refine ⟨⟨by simp only [maxLen]; simp; omega, by simp; omega⟩, ?_⟩; conv => whnf
  refine And.intro (by repeat (first | exact trivial | refine And.intro rfl ?_)) ?_; conv => whnf; conv => whnf
  refine And.intro (by repeat (first | exact trivial | refine And.intro rfl ?_)) ?_; conv => whnf
  refine gW hE ?_; conv => whnf
  refine aJ (by omega) (by omega) ?_
  refine gW hE ?_; conv => whnf
  refine To.part [0, 2, 10, 99, 100, 125, 126] [0, 1, 2, 3, 4] rfl rfl rfl ?_
  exact next
theorem rr_loop (c : Con) (now nxt : Int) (hi : List Nat) (ps : List Pn) (n : Int) (hn : n ≤ 9223372036854775807) (r : Res) (O : List AObj) : ∀ (m i : Nat) (s : List UInt8) (rs : List Rn), (i + m : Int) = n → rs.length + s.length ≤ 1000000 → resR stR (rR c now nxt hi ps m rs s) = r → objR (rR c now nxt hi ps m rs s) = O →
  To E fRd (.full 1 r O) (.head (stk fRd 2) [(0, .ref 0 0), (2, .ref 1 0), (99, .int .i64 n), (100, .int .i64 i)] (reR c now nxt hi ps rs s)) := by
 intro m
 induction m with
 | zero =>
  intro i s rs hi2 hl hr ho
  have hr : Res.ret (.tup [Sta.av ⟨c, now, nxt, ps, rs, hi⟩, .bool (s == [])]) = r := hr
  have ho : rdO s = O := ho
  subst hr ho
  refine gW hE ?_; conv => whnf
  refine aF (by omega) fun h => ?_
  refine goes hE 2 ?_; conv => whnf
  refine To.permAt hE [0, 1, 2, 3, 4, 5] [6, 7] (by rfl) ?_; conv => whnf
  refine And.intro (by repeat (first | exact trivial | refine And.intro rfl ?_)) ?_; conv => whnf; conv => whnf
  refine And.intro (by repeat (first | exact trivial | refine And.intro rfl ?_)) ?_; conv => whnf; conv => whnf
  refine And.intro (by repeat (first | exact trivial | refine And.intro rfl ?_)) ?_; conv => whnf
  refine gW hE ?_; conv => whnf
  refine ⟨[], [0], ⟨rfl, rfl⟩, ?_⟩
  exact ⟨rfl, rfl⟩
 | succ m ih =>
  intro i s rs hi2 hl hr ho
  unfold rR at hr ho
  have hlen : (rav rs).length = rs.length := by simp
  refine gW hE ?_; conv => whnf
  refine aT (by omega) fun h => ?_
  refine gW hE ?_; conv => whnf
  refine opt_elim (o := rGan s) (fun h1 => ?_) (fun ⟨g, s1⟩ h1 => ?_)
  ·simp only [h1] at hr ho
   have hr : Res.pan (stopV 10) = r := hr
   have ho : rdU = O := ho
   subst hr ho
   refine .effp [] [0] _ _ rfl (rgan_bad h1) ?_
   exact ⟨[], [0], ⟨rfl, rfl⟩, rfl, rfl⟩
  simp only [h1] at hr ho
  refine .eff [] [0] _ _ rfl (rgan_ok h1) ?_
  refine gW hE ?_; conv => whnf
  refine opt_elim (o := rNum s1) (fun h2 => ?_) (fun ⟨q, s2⟩ h2 => ?_)
  ·simp only [h2] at hr ho
   have hr : Res.pan (stopV 10) = r := hr
   have ho : rdU = O := ho
   subst hr ho
   refine .effp [] [0] _ _ rfl (num_bad h2) ?_
   exact ⟨[], [0], ⟨rfl, rfl⟩, rfl, rfl⟩
  simp only [h2] at hr ho
  refine .eff [] [0] _ _ rfl (num_ok h2) ?_
  refine gW hE ?_; conv => whnf
  refine opt_elim (o := rNum s2) (fun h3 => ?_) (fun ⟨a, s3⟩ h3 => ?_)
  ·simp only [h3] at hr ho
   have hr : Res.pan (stopV 10) = r := hr
   have ho : rdU = O := ho
   subst hr ho
   refine .effp [] [0] _ _ rfl (num_bad h3) ?_
   exact ⟨[], [0], ⟨rfl, rfl⟩, rfl, rfl⟩
  simp only [h3] at hr ho
  refine .eff [] [0] _ _ rfl (num_ok h3) ?_
  refine gW hE ?_; conv => whnf
  refine opt_elim (o := rNum s3) (fun h4 => ?_) (fun ⟨t, s4⟩ h4 => ?_)
  ·simp only [h4] at hr ho
   have hr : Res.pan (stopV 10) = r := hr
   have ho : rdU = O := ho
   subst hr ho
   refine .effp [] [0] _ _ rfl (num_bad h4) ?_
   exact ⟨[], [0], ⟨rfl, rfl⟩, rfl, rfl⟩
  simp only [h4] at hr ho
  refine .eff [] [0] _ _ rfl (num_ok h4) ?_
  refine gW hE ?_; conv => whnf
  refine opt_elim (o := rNum s4) (fun h5 => ?_) (fun ⟨f, s5⟩ h5 => ?_)
  ·simp only [h5] at hr ho
   have hr : Res.pan (stopV 10) = r := hr
   have ho : rdU = O := ho
   subst hr ho
   refine .effp [] [0] _ _ rfl (num_bad h5) ?_
   exact ⟨[], [0], ⟨rfl, rfl⟩, rfl, rfl⟩
  simp only [h5] at hr ho
  refine .eff [] [0] _ _ rfl (num_ok h5) ?_
  have b1 := rGan_b h1
  have b2 := rNum_b h2
  have b3 := rNum_b h3
  have b4 := rNum_b h4
  have b5 := rNum_b h5
  refine gW hE ?_; conv => whnf
  refine And.intro (fun hd => ?_) (fun hd => ?_)
  ·rw [if_pos hd] at hr ho
   have hr : Res.ret (.tup [Sta.av ⟨c, now, nxt, ps, rs, hi⟩, .bool false]) = r := hr
   have ho : rdO s5 = O := ho
   subst hr ho
   refine gW hE ?_; conv => whnf
   refine ⟨[], [0], ⟨rfl, rfl⟩, ?_⟩
   exact ⟨rfl, rfl⟩
  ·rw [if_neg (by rw [hd]; decide)] at hr ho
   refine gW hE ?_; conv => whnf
   refine To.part [0, 2, 10, 99, 100, 125, 126] [0, 1, 2, 3] rfl rfl rfl ?_
   refine To.begin 3 13 3 rfl rfl ?_
   exact rg_loop c now nxt hi ps rs (by omega) n i (by omega) g q a t f b1.2 r O m (fun hs s' k1 k2 k3 hr ho => ih (i + 1) s' _ (by omega) (by simp; omega) hr ho) g.pods.toNat 0 s5 [] (by omega) (by simp; omega) (by omega) hr ho
abbrev reP (c : Con) (now nxt : Int) (hi : List Nat) (ps : List Pn) (s : List UInt8) : List AObj := [.cells tRd [.str s], .cells 31 (reC c now nxt (.slice 11 (pnv ps) (.own 2 0)) (.slice 14 [] .nil) (.slice 1 (fv hi) .no)), .tail 0 11 67]
theorem rp_loop (c : Con) (now nxt : Int) (hi : List Nat) (n : Int) (hn : n ≤ 9223372036854775807) (r : Res) (O : List AObj) : ∀ (m i : Nat) (s : List UInt8) (ps : List Pn), (i + m : Int) = n → ps.length + s.length ≤ 1000000 → resR stR (rP c now nxt hi m ps s) = r → objR (rP c now nxt hi m ps s) = O →
  To E fRd (.full 1 r O) (.head (stk fRd 1) [(0, .ref 0 0), (2, .ref 1 0), (82, .int .i64 n), (83, .int .i64 i)] (reP c now nxt hi ps s)) := by
 intro m
 induction m with
 | zero =>
  intro i s ps hi2 hl hr ho
  unfold rP rRs at hr ho
  refine gW hE ?_; conv => whnf
  refine aF (by omega) fun h => ?_
  refine gW hE ?_; conv => whnf
  refine opt_elim (o := rCount s) (fun h1 => ?_) (fun ⟨k, s1⟩ h1 => ?_)
  ·simp only [h1] at hr ho
   have hr : Res.pan (stopV 10) = r := hr
   have ho : rdU = O := ho
   subst hr ho
   refine .effp [] [0] _ _ rfl (count_bad h1) ?_
   exact ⟨[], [0], ⟨rfl, rfl⟩, rfl, rfl⟩
  simp only [h1] at hr ho
  refine .eff [] [0] _ _ rfl (count_ok h1) ?_
  have b1 := rCount_b h1
  refine gW hE ?_; conv => whnf
  refine To.part [0, 2, 99, 100] [0, 1] rfl rfl rfl ?_
  refine To.begin 1 7 70 rfl rfl ?_
  exact rr_loop c now nxt hi ps k (by omega) r O k.toNat 0 s1 [] (by omega) (by simp; omega) hr ho
 | succ m ih =>
  intro i s ps hi2 hl hr ho
  unfold rP at hr ho
  have hlen : (pnv ps).length = ps.length := by simp
  refine gW hE ?_; conv => whnf
  refine aT (by omega) fun h => ?_
  refine goes hE 3 ?_; conv => whnf
  refine To.permAt hE [0, 1, 2, 4, 6, 11] [3, 5, 7, 8, 9, 10, 12] (by rfl) ?_; conv => whnf
  refine And.intro (by repeat (first | exact trivial | refine And.intro rfl ?_)) ?_; conv => whnf
  refine opt_elim (o := rGan s) (fun h1 => ?_) (fun ⟨g, s1⟩ h1 => ?_)
  ·simp only [h1] at hr ho
   have hr : Res.pan (stopV 10) = r := hr
   have ho : rdU = O := ho
   subst hr ho
   refine .effp [] [0] _ _ rfl (rgan_bad h1) ?_
   exact ⟨[], [0], ⟨rfl, rfl⟩, rfl, rfl⟩
  simp only [h1] at hr ho
  refine .eff [] [0] _ _ rfl (rgan_ok h1) ?_; conv => whnf
  refine And.intro (by repeat (first | exact trivial | refine And.intro rfl ?_)) ?_; conv => whnf
  refine opt_elim (o := rNum s1) (fun h2 => ?_) (fun ⟨q, s2⟩ h2 => ?_)
  ·simp only [h2] at hr ho
   have hr : Res.pan (stopV 10) = r := hr
   have ho : rdU = O := ho
   subst hr ho
   refine .effp [] [0] _ _ rfl (num_bad h2) ?_
   exact ⟨[], [0], ⟨rfl, rfl⟩, rfl, rfl⟩
  simp only [h2] at hr ho
  refine .eff [] [0] _ _ rfl (num_ok h2) ?_; conv => whnf
  refine And.intro (by repeat (first | exact trivial | refine And.intro rfl ?_)) ?_; conv => whnf
  refine opt_elim (o := rNum s2) (fun h3 => ?_) (fun ⟨a, s3⟩ h3 => ?_)
  ·simp only [h3] at hr ho
   have hr : Res.pan (stopV 10) = r := hr
   have ho : rdU = O := ho
   subst hr ho
   refine .effp [] [0] _ _ rfl (num_bad h3) ?_
   exact ⟨[], [0], ⟨rfl, rfl⟩, rfl, rfl⟩
  simp only [h3] at hr ho
  refine .eff [] [0] _ _ rfl (num_ok h3) ?_; conv => whnf
  refine And.intro (by repeat (first | exact trivial | refine And.intro rfl ?_)) ?_; conv => whnf; conv => whnf
  refine And.intro (by repeat (first | exact trivial | refine And.intro rfl ?_)) ?_; conv => whnf; conv => whnf
  refine And.intro (by repeat (first | exact trivial | refine And.intro rfl ?_)) ?_; conv => whnf
  refine ⟨⟨by simp only [maxLen]; simp; omega, by simp; omega⟩, ?_⟩; conv => whnf
  refine And.intro (by repeat (first | exact trivial | refine And.intro rfl ?_)) ?_; conv => whnf; conv => whnf
  refine And.intro (by repeat (first | exact trivial | refine And.intro rfl ?_)) ?_; conv => whnf
  refine gW hE ?_; conv => whnf
  refine aJ (by omega) (by omega) ?_
  refine gW hE ?_; conv => whnf
  refine To.part [0, 2, 82, 83] [0, 1, 2] rfl rfl rfl ?_
  have b1 := rGan_b h1
  have b2 := rNum_b h2
  have b3 := rNum_b h3
  have next := ih (i + 1) s3 (ps ++ [⟨g, q, a⟩]) (by omega) (by simp; omega) hr ho
  have e : pnv (ps ++ [⟨g, q, a⟩]) = pnv ps ++ [Pn.av ⟨g, q, a⟩] := by simp
  unfold reP at next
  rw [e] at next
  exact next
abbrev reH (c : Con) (now nxt : Int) (hi : List Nat) (s : List UInt8) : List AObj := [.cells tRd [.str s], .cells 31 (reC c now nxt (.slice 11 [] .nil) (.slice 14 [] .nil) (.slice 1 (fv hi) (.own 2 0))), .tail 0 1 90]
theorem rh_loop (c : Con) (now nxt : Int) (n : Int) (hn : n ≤ 9223372036854775807) (r : Res) (O : List AObj) : ∀ (m i : Nat) (s : List UInt8) (hi : List Nat), (i + m : Int) = n → hi.length + s.length ≤ 1000000 → resR stR (rH c now nxt m hi s) = r → objR (rH c now nxt m hi s) = O →
  To E fRd (.full 1 r O) (.head (stk fRd 0) [(0, .ref 0 0), (2, .ref 1 0), (50, .int .i64 n), (51, .int .i64 i)] (reH c now nxt hi s)) := by
 intro m
 induction m with
 | zero =>
  intro i s hi hi2 hl hr ho
  unfold rH rPs at hr ho
  refine gW hE ?_; conv => whnf
  refine aF (by omega) fun h => ?_
  refine gW hE ?_; conv => whnf
  refine opt_elim (o := rCount s) (fun h1 => ?_) (fun ⟨k, s1⟩ h1 => ?_)
  ·simp only [h1] at hr ho
   have hr : Res.pan (stopV 10) = r := hr
   have ho : rdU = O := ho
   subst hr ho
   refine .effp [] [0] _ _ rfl (count_bad h1) ?_
   exact ⟨[], [0], ⟨rfl, rfl⟩, rfl, rfl⟩
  simp only [h1] at hr ho
  refine .eff [] [0] _ _ rfl (count_ok h1) ?_
  have b1 := rCount_b h1
  refine gW hE ?_; conv => whnf
  refine To.part [0, 2, 82, 83] [0, 1] rfl rfl rfl ?_
  refine To.begin 1 6 67 rfl rfl ?_
  exact rp_loop c now nxt hi k (by omega) r O k.toNat 0 s1 [] (by omega) (by simp; omega) hr ho
 | succ m ih =>
  intro i s hi hi2 hl hr ho
  unfold rH at hr ho
  have hlen : (fv hi).length = hi.length := by simp
  have hg := getf_ok s
  unfold getFixV at hg
  by_cases h8 : s.length < 8
  ·rw [if_pos h8] at hr ho hg
   have hr : Res.ret (.tup [Sta.av ⟨c, now, nxt, [], [], hi⟩, .bool false]) = r := hr
   have ho : rdO s = O := ho
   subst hr ho
   refine gW hE ?_; conv => whnf
   refine aT (by omega) fun h => ?_
   refine gW hE ?_; conv => whnf
   refine .pure _ [] hg ?_
   refine gW hE ?_; conv => whnf
   refine And.intro (fun _ => ?_) (fun h => absurd h (by decide))
   refine To.loose ?_
   refine gW hE ?_; conv => whnf
   refine ⟨[], [0], ⟨rfl, rfl⟩, ?_⟩
   exact ⟨rfl, rfl⟩
  ·rw [if_neg h8] at hr ho hg
   have next := ih (i + 1) (s.drop 8) (hi ++ [leN (s.take 8)]) (by omega) (by simp; omega) hr ho
   have e : fv (hi ++ [leN (s.take 8)]) = fv hi ++ [.int .u64 ((leN (s.take 8) : Nat) : Int)] := by simp
   unfold reH at next
   rw [e] at next
   refine gW hE ?_; conv => whnf
   refine aT (by omega) fun h => ?_
   refine gW hE ?_; conv => whnf
   refine .pure _ [] hg ?_
   refine gW hE ?_; conv => whnf
   refine And.intro (fun h => absurd h (by decide)) (fun _ => ?_)
   refine gW hE ?_; conv => whnf
   refine ⟨8, rfl, ?_⟩
   refine gW hE ?_; conv => whnf
   refine ⟨by omega, ?_⟩
   refine gW hE ?_; conv => whnf
   refine ⟨⟨by simp only [maxLen]; simp; omega, by simp; omega⟩, ?_⟩
   refine gW hE ?_; conv => whnf
   refine aJ (by omega) (by omega) ?_
   refine gW hE ?_; conv => whnf
   refine To.part [0, 2, 50, 51] [0, 1, 2] rfl rfl rfl ?_
   exact next
theorem read_any (s : List UInt8) (hs : s.length ≤ 1000000) (r : Res) (O : List AObj) (hr : resR stR (rSt s) = r) (ho : objR (rSt s) = O) : CallOK Tryz.prog 20 [.ref 0 0] (rdO s) r O := by
 unfold rSt at hr ho
 refine cT (E := E) (fn := Tryz.f20) (g := .full 1 _ _) fun _ => ?_
 refine gW hE ?_; conv => whnf
 refine opt_elim (o := rCount s) (fun h1 => ?_) (fun ⟨n, s1⟩ h1 => ?_)
 ·simp only [h1] at hr ho
  have hr : Res.pan (stopV 10) = r := hr
  have ho : rdU = O := ho
  subst hr ho
  refine .effp [] [0] _ _ rfl (count_bad h1) ?_
  exact ⟨[], [0], ⟨rfl, rfl⟩, rfl, rfl⟩
 simp only [h1] at hr ho
 refine .eff [] [0] _ _ rfl (count_ok h1) ?_
 have b1 := rCount_b h1
 have hd := C8.decode_ok (s1.take n.toNat) (by simp; omega)
 unfold C8.decX C8.decE at hd
 have hn0 : n = ((n.toNat : Nat) : Int) := by omega
 refine opt_elim (o := C8.dec (s1.take n.toNat)) (fun h2 => ?_) (fun x h2 => ?_)
 ·simp only [h2] at hr ho hd
  have hd : CallOK Tryz.prog 55 [.str (s1.take n.toNat)] [] (.ret (.tup [Cmd.zero.av, ii 10])) [] := hd
  have hr : Res.ret (.tup [Sta.av Sta.nil, .bool false]) = r := hr
  have ho : rdO s1 = O := ho
  subst hr ho
  refine gW hE ?_; conv => whnf
  refine ⟨n.toNat, hn0, ?_⟩
  refine gW hE ?_; conv => whnf
  refine ⟨by omega, ?_⟩
  refine gW hE ?_; conv => whnf
  refine .pure _ [] hd ?_
  refine gW hE ?_; conv => whnf
  refine And.intro (fun _ => ?_) (fun h => absurd h (by decide))
  refine gW hE ?_; conv => whnf
  refine And.intro (fun _ => ?_) (fun h => absurd h (by decide))
  refine To.loose ?_
  refine gW hE ?_; conv => whnf
  refine ⟨[], [0], ⟨rfl, rfl⟩, ?_⟩
  exact ⟨rfl, rfl⟩
 ·simp only [h2] at hr ho hd
  have hd : CallOK Tryz.prog 55 [.str (s1.take n.toNat)] [] (.ret (.tup [x.av, ii 0])) [] := hd
  by_cases hk : x.k = 1
  ·rw [if_pos hk] at hr ho
   unfold rB at hr ho
   refine gW hE ?_; conv => whnf
   refine ⟨n.toNat, hn0, ?_⟩
   refine gW hE ?_; conv => whnf
   refine ⟨by omega, ?_⟩
   refine gW hE ?_; conv => whnf
   refine .pure _ [] hd ?_
   refine gW hE ?_; conv => whnf
   refine And.intro (fun h => absurd h (by decide)) (fun _ => ?_)
   refine gW hE ?_; conv => whnf
   refine And.intro (fun h => absurd h (by simp [hk])) (fun _ => ?_)
   refine gW hE ?_; conv => whnf
   refine ⟨n.toNat, hn0, ?_⟩
   refine gW hE ?_; conv => whnf
   refine ⟨by omega, ?_⟩
   refine goes hE 13 ?_; conv => whnf
   refine To.permAt hE [0, 1, 2, 4, 6, 8, 10] [3, 5, 7, 9, 11] (by rfl) ?_; conv => whnf
   refine And.intro (by repeat (first | exact trivial | refine And.intro rfl ?_)) ?_; conv => whnf
   refine opt_elim (o := rNum (s1.drop n.toNat)) (fun h3 => ?_) (fun ⟨now, s2⟩ h3 => ?_)
   ·simp only [h3] at hr ho
    have hr : Res.pan (stopV 10) = r := hr
    have ho : rdU = O := ho
    subst hr ho
    refine .effp [] [0] _ _ rfl (num_bad h3) ?_
    exact ⟨[], [0], ⟨rfl, rfl⟩, rfl, rfl⟩
   simp only [h3] at hr ho
   refine .eff [] [0] _ _ rfl (num_ok h3) ?_
   have b3 := rNum_b h3; conv => whnf
   refine And.intro (by repeat (first | exact trivial | refine And.intro rfl ?_)) ?_; conv => whnf
   refine opt_elim (o := rNum s2) (fun h4 => ?_) (fun ⟨nxt, s3⟩ h4 => ?_)
   ·simp only [h4] at hr ho
    have hr : Res.pan (stopV 10) = r := hr
    have ho : rdU = O := ho
    subst hr ho
    refine .effp [] [0] _ _ rfl (num_bad h4) ?_
    exact ⟨[], [0], ⟨rfl, rfl⟩, rfl, rfl⟩
   simp only [h4] at hr ho
   refine .eff [] [0] _ _ rfl (num_ok h4) ?_
   have b4 := rNum_b h4; conv => whnf
   refine And.intro (by repeat (first | exact trivial | refine And.intro rfl ?_)) ?_; conv => whnf; conv => whnf
   refine And.intro (by repeat (first | exact trivial | refine And.intro rfl ?_)) ?_; conv => whnf; conv => whnf
   refine And.intro (by repeat (first | exact trivial | refine And.intro rfl ?_)) ?_; conv => whnf; conv => whnf
   refine And.intro (by repeat (first | exact trivial | refine And.intro rfl ?_)) ?_; conv => whnf
   refine gW hE ?_; conv => whnf
   refine opt_elim (o := rCount s3) (fun h5 => ?_) (fun ⟨k, s4⟩ h5 => ?_)
   ·simp only [h5] at hr ho
    have hr : Res.pan (stopV 10) = r := hr
    have ho : rdU = O := ho
    subst hr ho
    refine .effp [] [0] _ _ rfl (count_bad h5) ?_
    exact ⟨[], [0], ⟨rfl, rfl⟩, rfl, rfl⟩
   simp only [h5] at hr ho
   refine .eff [] [0] _ _ rfl (count_ok h5) ?_
   have b5 := rCount_b h5
   have b6 : (s1.drop n.toNat).length ≤ s1.length := by simp
   refine gW hE ?_; conv => whnf
   refine To.part [0, 2, 50, 51] [0, 1] rfl rfl rfl ?_
   refine To.begin 1 8 90 rfl rfl ?_
   exact rh_loop x.c now nxt k (by omega) r O k.toNat 0 s4 [] (by omega) (by simp; omega) hr ho
  ·rw [if_neg hk] at hr ho
   have hr : Res.ret (.tup [Sta.av Sta.nil, .bool false]) = r := hr
   have ho : rdO s1 = O := ho
   subst hr ho
   refine gW hE ?_; conv => whnf
   refine ⟨n.toNat, hn0, ?_⟩
   refine gW hE ?_; conv => whnf
   refine ⟨by omega, ?_⟩
   refine gW hE ?_; conv => whnf
   refine .pure _ [] hd ?_
   refine gW hE ?_; conv => whnf
   refine And.intro (fun h => absurd h (by decide)) (fun _ => ?_)
   refine gW hE ?_; conv => whnf
   refine And.intro (fun _ => ?_) (fun h => absurd h (by simp [hk]))
   refine To.loose ?_
   refine gW hE ?_; conv => whnf
   refine ⟨[], [0], ⟨rfl, rfl⟩, ?_⟩
   exact ⟨rfl, rfl⟩
theorem read_ok {s s' : List UInt8} (hs : s.length ≤ 1000000) {x : Sta} {b : Bool} (h : rSt s = some ((x, b), s')) : CallOK Tryz.prog 20 [.ref 0 0] (rdO s) (.ret (.tup [x.av, .bool b])) (rdO s') := read_any s hs _ _ (by rw [h]; rfl) (by rw [h]; rfl)
theorem read_bad {s : List UInt8} (hs : s.length ≤ 1000000) (h : rSt s = none) : CallOK Tryz.prog 20 [.ref 0 0] (rdO s) (.pan (stopV 10)) rdU := read_any s hs _ _ (by rw [h]; rfl) (by rw [h]; rfl)
open C8 (rNum rCount rGan rdO rdU stopV opt_elim rNum_b rCount_b tRd)
set_option maxRecDepth 10000
abbrev zSt : List AVal := [.slice 11 [] .nil, .slice 6 [] .nil, ii 0, ii 0, ii 0, ii 0, .slice 11 [] .nil, .slice 14 [] .nil, .slice 1 [] .nil]
abbrev deO (s : List UInt8) : List AObj := [.cells 9 [.str s], .cells 31 zSt, .cells 4 [.bool false]]
abbrev deX (s : List UInt8) (x : Sta) (b : Bool) : List AObj := [.cells 9 [.str s], .cells 31 x.cs, .cells 4 [.bool b]]
abbrev deU : List AObj := mapOL (fun _ => .undef) (deO [])
theorem dcl_ok {s s' : List UInt8} (hs : s.length ≤ 1000000) {x : Sta} {b : Bool} (h : rSt s = some ((x, b), s')) : CallOK Tryz.prog 19 [.ref 0 0, .ref 1 0, .ref 2 0] (deO s) (.ret (.tup [])) (deX s x b) := by
 refine cT (E := E) (fn := Tryz.f19) (g := .full 3 _ _) fun _ => ?_
 refine gW hE ?_; conv => whnf
 refine .eff [] [3] _ _ rfl (read_ok hs h) ?_
 refine gW hE ?_; conv => whnf
 exact ⟨[], [0, 1, 2], ⟨rfl, rfl⟩, rfl, rfl⟩
theorem dcl_bad {s : List UInt8} (hs : s.length ≤ 1000000) (h : rSt s = none) : CallOK Tryz.prog 19 [.ref 0 0, .ref 1 0, .ref 2 0] (deO s) (.pan (stopV 10)) deU := by
 refine CallOK.blur (obs' := deO s) ?_
 refine cT (E := E) (fn := Tryz.f19) (g := .full 3 _ _) fun _ => ?_
 refine gW hE ?_; conv => whnf
 refine .effp [] [3] _ _ rfl (read_bad hs h) ?_
 exact ⟨[], [0, 1, 2], ⟨rfl, rfl⟩, rfl, rfl⟩
abbrev dV : AVal := .func (.func 19) [] [.ref 0 0, .ref 1 0, .ref 2 0]
theorem stry_ok {s s' : List UInt8} (hs : s.length ≤ 1000000) {x : Sta} {b : Bool} (h : rSt s = some ((x, b), s')) : CallOK Tryz.prog 18 [dV] (deO s) (.ret (ii 0)) (deX s x b) := by
 refine cT (E := E) (fn := Tryz.f18) (g := .full 3 _ _) fun _ => ?_
 refine gW hE ?_; conv => whnf
 refine To.defer (f := 53) (args := [.ref 3 0]) _ rfl rfl ?_
 refine gW C8.hEt ?_; conv => whnf
 refine .eff [] [0, 1, 2] _ _ rfl (dcl_ok hs h) ?_
 refine gW C8.hEt ?_; conv => whnf
 refine To.leave (f := 53) (args := [.ref 3 0]) [] rfl [] [3] rfl (C8.catch_ret 0) ?_
 refine To.left hE rfl rfl ?_
 refine ⟨[], [0, 1, 2], ⟨rfl, rfl⟩, ?_⟩
 exact ⟨rfl, rfl⟩
theorem stry_bad {s : List UInt8} (hs : s.length ≤ 1000000) (h : rSt s = none) : CallOK Tryz.prog 18 [dV] (deO s) (.ret (ii 10)) deU := by
 refine cT (E := E) (fn := Tryz.f18) (g := .full 3 _ _) fun _ => ?_
 refine gW hE ?_; conv => whnf
 refine To.defer (f := 53) (args := [.ref 3 0]) _ rfl rfl ?_
 refine gW C8.hEt ?_; conv => whnf
 refine .effp [] [0, 1, 2] _ _ rfl (dcl_bad hs h) ?_; conv => whnf
 refine To.leave (f := 53) (args := [.ref 3 0]) [] rfl [] [3] rfl (C8.catch_pan 0 10) ?_
 refine To.left hE rfl rfl ?_
 refine ⟨[], [0, 1, 2], ⟨rfl, rfl⟩, ?_⟩
 exact ⟨rfl, rfl⟩
theorem rHos_b : ∀ (m : Nat) (hs : List Int) (s : List UInt8) (hs' : List Int) (s' : List UInt8), rHos m hs s = some (hs', s') → hs'.length + s'.length ≤ hs.length + s.length
 | 0, hs, s, hs', s', h => by cases h; exact Nat.le_refl _
 | m + 1, hs, s, hs', s', h => by
  unfold rHos at h
  split at h
  ·cases h
  ·rename_i h1
   have b := rNum_b h1
   have := rHos_b m _ _ _ _ h
   simp at this
   omega
theorem rR_b (c : Con) (now nxt : Int) (hi : List Nat) (ps : List Pn) (N : Nat) : ∀ (m : Nat) (rs : List Rn) (s : List UInt8) (x : Sta) (b : Bool) (s' : List UInt8), rR c now nxt hi ps m rs s = some ((x, b), s') → rs.length + s.length ≤ N → (∀ y ∈ rs, y.hs.length ≤ N) → x.c = c ∧ x.run.length ≤ N ∧ ∀ y ∈ x.run, y.hs.length ≤ N
 | 0, rs, s, x, b, s', h, hl, hy => by cases h; exact ⟨rfl, by show rs.length ≤ N; omega, hy⟩
 | m + 1, rs, s, x, b, s', h, hl, hy => by
  unfold rR at h
  split at h
  ·cases h
  ·rename_i h1
   split at h
   ·cases h
   ·rename_i h2
    split at h
    ·cases h
    ·rename_i h3
     split at h
     ·cases h
     ·rename_i h4
      split at h
      ·cases h
      ·rename_i h5
       have b1 := rGan_b h1
       have b2 := rNum_b h2
       have b3 := rNum_b h3
       have b4 := rNum_b h4
       have b5 := rNum_b h5
       split at h
       ·cases h; exact ⟨rfl, by show rs.length ≤ N; omega, hy⟩
       ·split at h
        ·cases h
        ·rename_i hs' s6 h6
         have b6 := rHos_b _ _ _ _ _ h6
         simp at b6
         refine rR_b c now nxt hi ps N m _ _ x b s' h (by simp; omega) fun y hm => ?_
         rcases List.mem_append.1 hm with hm | hm
         ·exact hy y hm
         ·rw [List.mem_singleton] at hm
          subst hm
          show hs'.length ≤ N
          omega
theorem rP_b (c : Con) (now nxt : Int) (hi : List Nat) (N : Nat) : ∀ (m : Nat) (ps : List Pn) (s : List UInt8) (x : Sta) (b : Bool) (s' : List UInt8), rP c now nxt hi m ps s = some ((x, b), s') → s.length ≤ N → x.c = c ∧ x.run.length ≤ N ∧ ∀ y ∈ x.run, y.hs.length ≤ N
 | 0, ps, s, x, b, s', h, hl => by
  unfold rP rRs at h
  split at h
  ·cases h
  ·rename_i h1
   have b1 := rCount_b h1
   exact rR_b c now nxt hi ps N _ _ _ x b s' h (by simp; omega) fun y hy => by cases hy
 | m + 1, ps, s, x, b, s', h, hl => by
  unfold rP at h
  split at h
  ·cases h
  ·rename_i h1
   split at h
   ·cases h
   ·rename_i h2
    split at h
    ·cases h
    ·rename_i h3
     have b1 := rGan_b h1
     have b2 := rNum_b h2
     have b3 := rNum_b h3
     exact rP_b c now nxt hi N m _ _ x b s' h (by omega)
theorem rH_b (c : Con) (now nxt : Int) (N : Nat) : ∀ (m : Nat) (hi : List Nat) (s : List UInt8) (x : Sta) (b : Bool) (s' : List UInt8), rH c now nxt m hi s = some ((x, b), s') → s.length ≤ N → x.c = c ∧ x.run.length ≤ N ∧ ∀ y ∈ x.run, y.hs.length ≤ N
 | 0, hi, s, x, b, s', h, hl => by
  unfold rH rPs at h
  split at h
  ·cases h
  ·rename_i h1
   have b1 := rCount_b h1
   exact rP_b c now nxt hi N _ _ _ x b s' h (by omega)
 | m + 1, hi, s, x, b, s', h, hl => by
  unfold rH at h
  split at h
  ·cases h; exact ⟨rfl, Nat.zero_le _, fun y hy => by cases hy⟩
  ·exact rH_b c now nxt N m _ _ x b s' h (by simp; omega)
theorem rSt_b {s s' : List UInt8} {x : Sta} {b : Bool} (h : rSt s = some ((x, b), s')) (hl : s.length ≤ 1000000) : x.c.sm ∧ Sm x.run := by
 unfold rSt at h
 split at h
 ·cases h
 ·rename_i n s1 h1
  have b1 := rCount_b h1
  split at h
  ·cases h
   exact ⟨⟨Nat.zero_le _, Nat.zero_le _⟩, Nat.zero_le _, fun y hy => by cases hy⟩
  ·rename_i y h2
   have hch : C8.chk y = 0 := by
    unfold C8.dec at h2
    split at h2
    ·split at h2
     ·rename_i hh
      cases h2
      exact hh.2
     ·cases h2
    ·cases h2
   have T := C8.chk_told hch
   have t1 := T.ln
   have t2 := T.lh
   simp only [List.length_map] at t1 t2
   split at h
   ·unfold rB at h
    split at h
    ·cases h
    ·rename_i h3
     split at h
     ·cases h
     ·rename_i h4
      split at h
      ·cases h
      ·rename_i h5
       have b3 := rNum_b h3
       have b4 := rNum_b h4
       have b5 := rCount_b h5
       simp only [List.length_drop] at b3
       obtain ⟨e1, e2, e3⟩ := rH_b y.c _ _ 1000000 _ _ _ x b s' h (by omega)
       rw [e1]
       exact ⟨⟨by omega, by omega⟩, by omega, fun z hz => by have := e3 z hz; omega⟩
   ·cases h
    exact ⟨⟨Nat.zero_le _, Nat.zero_le _⟩, Nat.zero_le _, fun y hy => by cases hy⟩
def decS (s : List UInt8) : Option Sta := match rSt s with
 | some ((x, b), _) => if b = true ∧ chkS x = true then some x else none
 | none => none
def decT (s : List UInt8) : Sta := (decS s).getD Sta.nil
def decR (s : List UInt8) : Int := match decS s with | some _ => 0 | none => 10
theorem sdec_ok (s : List UInt8) (hs : s.length ≤ 1000000) : CallOK Tryz.prog 8 [.str s] [] (.ret (.tup [(decT s).av, ii (decR s)])) [] := by
 unfold decT decR decS
 refine cT (E := E) (fn := Tryz.f8) (g := .pure _) fun _ => ?_
 refine gW hE ?_; conv => whnf
 refine opt_elim (o := rSt s) (fun h => ?_) (fun ⟨⟨x, b⟩, s'⟩ h => ?_)
 ·simp only [h]
  refine .eff [] [0, 2, 3] _ _ rfl (stry_bad hs h) ?_
  repeat' first | (refine gN hE rfl ?_; conv => whnf) | exact rfl | refine aY ?_ | refine aN ?_ | refine aT (by omega) fun h => ?_ | refine aF (by omega) fun h => ?_ | refine ⟨fun h => ?_, fun h => ?_⟩ | refine aJ (by omega) (by omega) ?_ | refine ⟨_, rfl, ?_⟩ | refine ⟨by decide, ?_⟩ | refine ⟨by omega, ?_⟩ | fail
 ·obtain ⟨hc, hr⟩ := rSt_b h hs
  have hk := scheck_ok x hc hr
  simp only [h]
  refine .eff [] [0, 2, 3] _ _ rfl (stry_ok hs h) ?_
  cases b with
  | false =>
   rw [if_neg (fun q => absurd q.1 (by decide))]
   repeat' first | (refine gN hE rfl ?_; conv => whnf) | exact rfl | refine aY ?_ | refine aN ?_ | refine aT (by omega) fun h => ?_ | refine aF (by omega) fun h => ?_ | refine ⟨fun h => ?_, fun h => ?_⟩ | refine aJ (by omega) (by omega) ?_ | refine ⟨_, rfl, ?_⟩ | refine ⟨by decide, ?_⟩ | refine ⟨by omega, ?_⟩ | fail
  | true =>
   cases hq : chkS x with
   | false =>
    rw [hq] at hk
    have hk : CallOK Tryz.prog 13 [x.av] [] (.ret (ii 1)) [] := hk
    rw [if_neg (fun q => absurd q.2 (by decide))]
    repeat' first | (refine gN hE rfl ?_; conv => whnf) | refine .pure _ [] hk ?_ | exact rfl | refine aY ?_ | refine aN ?_ | refine aT (by omega) fun h => ?_ | refine aF (by omega) fun h => ?_ | refine ⟨fun h => ?_, fun h => ?_⟩ | refine aJ (by omega) (by omega) ?_ | refine ⟨_, rfl, ?_⟩ | refine ⟨by decide, ?_⟩ | refine ⟨by omega, ?_⟩ | fail
   | true =>
    rw [hq] at hk
    have hk : CallOK Tryz.prog 13 [x.av] [] (.ret (ii 0)) [] := hk
    rw [if_pos ⟨rfl, rfl⟩]
    repeat' first | (refine gN hE rfl ?_; conv => whnf) | refine .pure _ [] hk ?_ | exact rfl | refine aY ?_ | refine aN ?_ | refine aT (by omega) fun h => ?_ | refine aF (by omega) fun h => ?_ | refine ⟨fun h => ?_, fun h => ?_⟩ | refine aJ (by omega) (by omega) ?_ | refine ⟨_, rfl, ?_⟩ | refine ⟨by decide, ?_⟩ | refine ⟨by omega, ?_⟩ | fail
open C8 (leN rNum rCount rGan rNum_put rGan_put rCount_put pl putN)
theorem valid_okI {v : V3} (h : validB v = true) : okI v.l = true := by
 unfold validB at h
 simp only [Bool.and_eq_true, decide_eq_true_eq] at h
 simp only [V3.l, okI, in40, Bool.and_eq_true, decide_eq_true_eq, and_true]
 omega
theorem zB_ok {v : V3} (h : zB v = true) : okI v.l = true := by
 unfold zB at h
 simp at h
 simp only [V3.l, okI, in40, Bool.and_eq_true, decide_eq_true_eq, and_true]
 omega
theorem nodeX_ok {bl : Bool} {i : Nat} {x : Nod} (hi : i ≤ 100) (h : nodeX bl i x = true) : x.ok = true := by
 unfold nodeX at h
 by_cases hb : badN i x
 ·rw [if_pos hb] at h; cases h
 ·rw [if_neg hb] at h
  unfold badN at hb
  have h3 : okI x.n.l = true ∧ okI x.b.l = true ∧ okI x.l.l = true := by
   cases bl with
   | true =>
    simp only [if_true, Bool.and_eq_true] at h
    exact ⟨valid_okI h.1, valid_okI h.2.1, valid_okI h.2.2.1⟩
   | false =>
    rw [if_neg (by decide)] at h
    simp only [Bool.and_eq_true] at h
    exact ⟨zB_ok h.1, zB_ok h.2.1, zB_ok h.2.2⟩
  unfold Nod.ok
  rw [h3.1, h3.2.1, h3.2.2]
  simp only [okI, in40, Bool.and_eq_true, decide_eq_true_eq, and_true]
  omega
theorem nodesX_ok (ns : List Nod) : ∀ (l : List Nod) (i : Nat), i + l.length ≤ 100 → nodesX ns i l = true → allN l = true
 | [], _, _, _ => rfl
 | x :: r, i, hi, h => by
  unfold nodesX at h
  simp at hi
  by_cases hx : nodeX (rlB ns i) i x = true
  ·rw [if_pos hx] at h
   unfold allN
   rw [nodeX_ok (by omega) hx, nodesX_ok ns r (i + 1) (by omega) h]
   rfl
  ·rw [if_neg hx] at h; cases h
theorem hostX_ok {x : Hos} (h : hostX x = true) : x.ok = true := by
 unfold hostX at h
 by_cases hb : badH x
 ·rw [if_pos hb] at h; cases h
 ·rw [if_neg hb] at h
  unfold badH at hb
  unfold Hos.ok
  rw [valid_okI h]
  simp only [okI, in40, Bool.and_eq_true, decide_eq_true_eq, and_true]
  omega
theorem hosts_ok : ∀ (l : List Hos), l.all hostX = true → allH l = true
 | [], _ => rfl
 | x :: r, h => by
  rw [List.all_cons, Bool.and_eq_true] at h
  unfold allH
  rw [hostX_ok h.1, hosts_ok r h.2]
  rfl
theorem check_tok {c : Con} (h : checkI c = 0) : c.tok = true ∧ c.ns.length ≤ 12 ∧ c.hs.length ≤ 24 := by
 unfold checkI at h
 by_cases h1 : sizB c
 ·rw [if_pos h1] at h
  by_cases h2 : nodesX c.ns 0 c.ns = true
  ·rw [if_pos h2] at h
   by_cases h3 : c.hs.all hostX = true
   ·unfold sizB at h1
    refine ⟨?_, h1.1.2, h1.2.1.2⟩
    unfold Con.tok
    rw [nodesX_ok c.ns c.ns 0 (by omega) h2, hosts_ok _ h3]
    simp only [Bool.and_self, Bool.true_and, okI, in40, Bool.and_eq_true, decide_eq_true_eq, and_true]
    omega
   ·rw [if_neg h3] at h; cases h
  ·rw [if_neg h2] at h; cases h
 ·rw [if_neg h1] at h; cases h
theorem empty_tok {c : Con} (h : emptyC c = true) : c.tok = true ∧ c.ns.length ≤ 12 ∧ c.hs.length ≤ 24 := by
 unfold emptyC at h
 simp only [Bool.and_eq_true, decide_eq_true_eq] at h
 obtain ⟨ns, hs, half, age⟩ := c
 obtain ⟨h1, h2, h3, h4⟩ := h
 simp only at h1 h2 h3 h4
 subst h1 h2 h3 h4
 exact ⟨rfl, by simp, by simp⟩
theorem tok_chk {c : Con} (h : c.tok = true) (hn : c.ns.length ≤ 12) (hh : c.hs.length ≤ 24) : C8.chk ⟨1, c, Gan.zero, 0⟩ = 0 := by
 have e1 : ((nav c.ns).length : Int) ≤ 12 := by simp; omega
 have e2 : ((hav c.hs).length : Int) ≤ 24 := by simp; omega
 have e3 : C8.chkL ⟨1, c, Gan.zero, 0⟩ = 0 := by
  unfold C8.chkL
  rw [decide_eq_true e1, decide_eq_true e2]
  rfl
 unfold C8.chk C8.chk2 C8.chk3 C8.chk4 C8.chkC C8.chkG C8.chkN
 rw [e3, h]
 rfl
theorem chk_tok {s : Sta} (h : chkS s = true) : C8.chk s.cmd = 0 := by
 unfold chkS headB at h
 simp only [Bool.and_eq_true, Bool.or_eq_true, decide_eq_true_eq] at h
 obtain ⟨⟨h1, _⟩, _⟩ := h
 rcases h1 with h1 | h1
 ·obtain ⟨a, b, c⟩ := empty_tok h1
  exact tok_chk a b c
 ·obtain ⟨a, b, c⟩ := check_tok h1
  exact tok_chk a b c
theorem leaf_small {c : Con} {t : Int} (h : leafB c.ns t = true) : 0 ≤ t ∧ t < (c.ns.length : Int) := by
 unfold leafB at h
 by_cases h1 : 0 ≤ t
 ·rw [if_pos (decide_eq_true h1)] at h
  by_cases h2 : t < (c.ns.length : Int)
  ·exact ⟨h1, h2⟩
  ·rw [if_neg (by rw [decide_eq_false h2]; decide)] at h; cases h
 ·rw [if_neg (by rw [decide_eq_false h1]; decide)] at h; cases h
theorem gang_okI {c : Con} {g : Gan} (hn : c.ns.length ≤ 12) (h : gangE c g = 0) : g.ok = true := by
 obtain ⟨h1, h2⟩ := gangE_iff.1 h
 have h3 := leaf_small h2
 unfold basG at h1
 simp only [Bool.and_eq_true, decide_eq_true_eq] at h1
 have h4 := valid_okI h1.2.1
 unfold Gan.ok
 rw [h4]
 simp only [okI, in40, Bool.and_eq_true, decide_eq_true_eq, and_true]
 omega
theorem chk_con {s : Sta} (h : chkS s = true) : (s.c.tok = true ∧ s.c.ns.length ≤ 12 ∧ s.c.hs.length ≤ 24) ∧ (∀ x ∈ s.c.hs, 0 ≤ x.f ∧ x.f ≤ 100) ∧ (0 ≤ s.now ∧ s.now ≤ 1099511627776) ∧ (1 ≤ s.nxt ∧ s.nxt ≤ 1099511627776) ∧ s.hist.length = s.c.ns.length ∧ s.pend.length + s.run.length ≤ 32 := by
 unfold chkS headB at h
 simp only [Bool.and_eq_true, Bool.or_eq_true, decide_eq_true_eq] at h
 obtain ⟨⟨h1, h2, h3, h4, h5⟩, _⟩ := h
 refine ⟨?_, ?_, h2, h3, h4, h5⟩
 ·rcases h1 with h1 | h1
  ·exact empty_tok h1
  ·exact check_tok h1
 ·intro x hx
  rcases h1 with h1 | h1
  ·unfold emptyC at h1
   simp only [Bool.and_eq_true, decide_eq_true_eq] at h1
   rw [h1.2.1] at hx
   cases hx
  ·unfold checkI at h1
   by_cases q1 : sizB s.c
   ·rw [if_pos q1] at h1
    by_cases q2 : nodesX s.c.ns 0 s.c.ns = true
    ·rw [if_pos q2] at h1
     by_cases q3 : s.c.hs.all hostX = true
     ·have := List.all_eq_true.1 q3 x hx
      unfold hostX at this
      by_cases hb : badH x
      ·rw [if_pos hb] at this; cases this
      ·unfold badH at hb
       omega
     ·rw [if_neg q3] at h1; cases h1
    ·rw [if_neg q2] at h1; cases h1
   ·rw [if_neg q1] at h1; cases h1
theorem conP_len {s : Sta} (h : chkS s = true) : (conP s).length ≤ 10000 := by
 obtain ⟨⟨h1, h2, h3⟩, _⟩ := chk_con h
 have e : conP s = pl s.cmd.il := if_pos (chk_tok h)
 rw [e]
 have key : ∀ (l : List Int), okI l = true → (pl l).length ≤ 10 * l.length := fun l hl => C8.pl_len (ok_max hl)
 have kn : ∀ (l : List Nod), allN l = true → (pl (C8.nodL l)).length ≤ 110 * l.length := by
  intro l
  induction l with
  | nil => intro _; simp [C8.nodL, pl]
  | cons x r ih =>
   intro hl
   unfold allN at hl
   rw [Bool.and_eq_true] at hl
   have e : C8.nodL (x :: r) = x.il ++ C8.nodL r := rfl
   rw [e, C8.pl_append, List.length_append]
   have := C8.il_len x hl.1
   have := ih hl.2
   simp only [List.length_cons]
   omega
 have kh : ∀ (l : List Hos), allH l = true → (pl (C8.hosL l)).length ≤ 60 * l.length := by
  intro l
  induction l with
  | nil => intro _; simp [C8.hosL, pl]
  | cons x r ih =>
   intro hl
   unfold allH at hl
   rw [Bool.and_eq_true] at hl
   have e : C8.hosL (x :: r) = x.il ++ C8.hosL r := rfl
   rw [e, C8.pl_append, List.length_append]
   have := C8.ih_len x hl.1
   have := ih hl.2
   simp only [List.length_cons]
   omega
 unfold Con.tok at h1
 simp only [Bool.and_eq_true] at h1
 have a1 := kn _ h1.1.1
 have a2 := kh _ h1.1.2
 have m1 := key [(1 : Int)] rfl
 have m2 : (pl [((nav s.c.ns).length : Int)]).length ≤ 10 := by
  have := C8.pl_len (l := [((nav s.c.ns).length : Int)]) (fun n hn => by simp at hn; omega)
  simpa using this
 have m3 : (pl [((hav s.c.hs).length : Int)]).length ≤ 10 := by
  have := C8.pl_len (l := [((hav s.c.hs).length : Int)]) (fun n hn => by simp at hn; omega)
  simpa using this
 have m4 := key [s.c.half, s.c.age] h1.2
 have e2 : s.cmd.il = [(1 : Int)] ++ ([((nav s.c.ns).length : Int)] ++ (C8.nodL s.c.ns ++ ([((hav s.c.hs).length : Int)] ++ (C8.hosL s.c.hs ++ [s.c.half, s.c.age])))) := rfl
 rw [e2]
 simp only [C8.pl_append, List.length_append, List.length_cons, List.length_nil] at *
 omega
theorem chk_wr {s : Sta} (h : chkS s = true) : Wr s := by
 obtain ⟨⟨h1, h2, h3⟩, hf, h4, h5, h6, h7⟩ := chk_con h
 have hq := h
 unfold chkS at hq
 simp only [Bool.and_eq_true, List.all_eq_true] at hq
 refine ⟨conP_len h, ⟨h4.1, h4.2, by omega, h5.2⟩, by omega, by omega, by omega, fun x hx => ?_, fun x hx => ?_⟩
 ·have hx1 := hq.2.2.1.1 x hx
  unfold pnB at hx1
  simp only [Bool.and_eq_true, decide_eq_true_eq] at hx1
  refine ⟨gang_okI h2 hx1.1, ?_⟩
  have := hx1.2.2
  simp only [okI, in40, Bool.and_eq_true, decide_eq_true_eq, and_true]
  omega
 ·have hx1 := hq.2.2.1.2 x hx
  have hc := (chk_run h hx).chk
  obtain ⟨k1, k2⟩ := chkB_at hc
  rw [free_len] at k2
  unfold pnB rnB at hx1
  simp only [Bool.and_eq_true, decide_eq_true_eq] at hx1
  obtain ⟨⟨a1, _, a2⟩, ⟨b1, b2⟩, _, b3⟩ := hx1
  have hp := gangE_pods a1
  have hp2 : 1 ≤ x.g.pods ∧ x.g.pods ≤ 16 := hp
  have hne : x.hs ≠ [] := fun e => by rw [e] at k1; simp at k1; omega
  have hfl : 0 ≤ x.fl ∧ x.fl ≤ 100 := by
   cases hh : x.hs with
   | nil => exact absurd hh hne
   | cons u r =>
    have hu := k2 u (by rw [hh]; exact List.mem_cons_self ..)
    rw [hh] at b3
    have b3 : (hosAt s.c.hs u).f = x.fl := b3
    have hlt : u.toNat < s.c.hs.length := by omega
    have hm : hosAt s.c.hs u ∈ s.c.hs := by
     unfold hosAt
     rw [List.getElem?_eq_getElem hlt]
     exact List.getElem_mem hlt
    have := hf _ hm
    omega
  have a2 : (0 ≤ x.seq ∧ x.seq < s.nxt) ∧ 0 ≤ x.at' ∧ x.at' ≤ s.now := a2
  refine ⟨gang_okI h2 a1, ?_, ?_, hne, by omega⟩
  ·simp only [okI, in40, Bool.and_eq_true, decide_eq_true_eq, and_true]
   omega
  ·have key : ∀ (l : List Int), (∀ u ∈ l, 0 ≤ u ∧ u < (s.c.hs.length : Int)) → okI l = true := by
    intro l
    induction l with
    | nil => intro _; rfl
    | cons u r ih =>
     intro hl
     have hu := hl u (List.mem_cons_self ..)
     unfold okI
     rw [ih fun v hv => hl v (List.mem_cons_of_mem _ hv)]
     simp only [in40, Bool.and_eq_true, decide_eq_true_eq, and_true]
     omega
   exact key x.hs fun u hu => ⟨(k2 u hu).1, (k2 u hu).2.1⟩
open C8 (leN leN_lt leN_snoc rNum rCount rGan rNum_put rGan_put rCount_put pl putN rNum_b rCount_b)
theorem leN_fixP (x : Nat) : ∀ (i : Nat), leN (fixP x i) = x % 2 ^ (8 * i)
 | 0 => by simp [fixP, leN, Nat.mod_one]
 | i + 1 => by
  rw [fixP_succ, leN_snoc, fixP_len, leN_fixP x i]
  unfold fixAt
  rw [UInt8.toNat_ofNat', Nat.mod_mod, Nat.mul_add, Nat.pow_add, Nat.mod_mul, Nat.mul_comm (2 ^ (8 * i)), show (2 : Nat) ^ (8 * 1) = 256 from rfl]
theorem leN_fix {x : Nat} (h : x < 18446744073709551616) : leN (fixL x) = x := by
 unfold fixL
 rw [leN_fixP, Nat.mod_eq_of_lt (by omega)]
theorem rH_put (c : Con) (now nxt : Int) : ∀ (l acc : List Nat) (s : List UInt8), (∀ x ∈ l, x < 18446744073709551616) → rH c now nxt l.length acc (hisP l ++ s) = rPs c now nxt (acc ++ l) s
 | [], acc, s, _ => by rw [List.append_nil]; rfl
 | x :: r, acc, s, h => by
  have hl : (fixL x).length = 8 := fixP_len x 8
  have e : hisP (x :: r) ++ s = fixL x ++ (hisP r ++ s) := by rw [← List.append_assoc]; rfl
  rw [e, List.length_cons]
  unfold rH
  rw [if_neg (by rw [List.length_append]; omega)]
  have e1 : (fixL x ++ (hisP r ++ s)).take 8 = fixL x := by rw [List.take_append_of_le_length (by omega), List.take_of_length_le (by omega)]
  have e2 : (fixL x ++ (hisP r ++ s)).drop 8 = hisP r ++ s := by rw [← hl, List.drop_left]
  rw [e1, e2, leN_fix (h x (List.mem_cons_self ..)), rH_put c now nxt r _ s fun y hy => h y (List.mem_cons_of_mem _ hy), List.append_assoc]
  rfl
theorem pl_two (a b : Int) (s : List UInt8) : pl [a, b] ++ s = putN a.toNat ++ (putN b.toNat ++ s) := by simp [pl]
theorem ok2 {a b : Int} (h : okI [a, b] = true) : (0 ≤ a ∧ a ≤ 1099511627777) ∧ 0 ≤ b ∧ b ≤ 1099511627777 := by
 have h1 := C8.okI_b h a (by simp)
 have h2 := C8.okI_b h b (by simp)
 omega
theorem rP_put (c : Con) (now nxt : Int) (hi : List Nat) : ∀ (l acc : List Pn) (s : List UInt8), (∀ x ∈ l, x.g.ok = true ∧ okI [x.seq, x.at'] = true) → rP c now nxt hi l.length acc (penP l ++ s) = rRs c now nxt hi (acc ++ l) s
 | [], acc, s, _ => by rw [List.append_nil]; rfl
 | x :: r, acc, s, h => by
  obtain ⟨h1, h2⟩ := h x (List.mem_cons_self ..)
  obtain ⟨b1, b2⟩ := ok2 h2
  have e : penP (x :: r) ++ s = pl x.g.il ++ (putN x.seq.toNat ++ (putN x.at'.toNat ++ (penP r ++ s))) := by
   rw [← pl_two]
   show (pl x.g.il ++ pl [x.seq, x.at'] ++ penP r) ++ s = _
   simp only [List.append_assoc]
  rw [e, List.length_cons]
  unfold rP
  rw [rGan_put h1]
  dsimp only
  rw [rNum_put b1.1 b1.2]
  dsimp only
  rw [rNum_put b2.1 b2.2]
  dsimp only
  rw [rP_put c now nxt hi r _ s fun y hy => h y (List.mem_cons_of_mem _ hy), List.append_assoc]
  rfl
theorem rHos_put : ∀ (l acc : List Int) (s : List UInt8), okI l = true → rHos l.length acc (pl l ++ s) = some (acc ++ l, s)
 | [], acc, s, _ => by rw [List.append_nil]; rfl
 | x :: r, acc, s, h => by
  have b := C8.okI_b h x (List.mem_cons_self ..)
  have e : pl (x :: r) ++ s = putN x.toNat ++ (pl r ++ s) := by simp [pl]
  have h2 : okI r = true := by unfold okI at h; rw [Bool.and_eq_true] at h; exact h.2
  rw [e, List.length_cons]
  unfold rHos
  rw [rNum_put b.1 (by omega)]
  dsimp only
  rw [rHos_put r _ s h2, List.append_assoc]
  rfl
theorem pl_ge : ∀ (l : List Int), l.length ≤ (pl l).length
 | [] => Nat.zero_le _
 | x :: r => by
  have := pl_ge r
  have := C8.putN_pos x.toNat
  simp only [pl, List.length_append, List.length_cons]
  omega
theorem rR_put (c : Con) (now nxt : Int) (hi : List Nat) (ps : List Pn) : ∀ (l acc : List Rn), (∀ x ∈ l, (x.hs.length : Int) = x.g.pods ∧ x.g.ok = true ∧ okI [x.seq, x.at', x.st, x.fl] = true ∧ okI x.hs = true) → rR c now nxt hi ps l.length acc (runP l) = some ((⟨c, now, nxt, ps, acc ++ l, hi⟩, true), [])
 | [], acc, _ => by rw [List.append_nil]; rfl
 | x :: r, acc, h => by
  obtain ⟨h0, h1, h2, h3⟩ := h x (List.mem_cons_self ..)
  have b1 := C8.okI_b h2 x.seq (by simp)
  have b2 := C8.okI_b h2 x.at' (by simp)
  have b3 := C8.okI_b h2 x.st (by simp)
  have b4 := C8.okI_b h2 x.fl (by simp)
  have e : runP (x :: r) = pl x.g.il ++ (putN x.seq.toNat ++ (putN x.at'.toNat ++ (putN x.st.toNat ++ (putN x.fl.toNat ++ (pl x.hs ++ runP r))))) := by
   show (pl x.g.il ++ pl [x.seq, x.at', x.st, x.fl] ++ pl x.hs) ++ runP r = _
   simp [pl]
  rw [e, List.length_cons]
  unfold rR
  rw [rGan_put h1]
  dsimp only
  rw [rNum_put b1.1 (by omega)]
  dsimp only
  rw [rNum_put b2.1 (by omega)]
  dsimp only
  rw [rNum_put b3.1 (by omega)]
  dsimp only
  rw [rNum_put b4.1 (by omega)]
  dsimp only
  have hg := pl_ge x.hs
  rw [if_neg (by rw [decide_eq_false (by rw [List.length_append]; omega)]; decide), show x.g.pods.toNat = x.hs.length from by omega, rHos_put _ _ _ h3]
  dsimp only
  rw [rR_put c now nxt hi ps r _ fun y hy => h y (List.mem_cons_of_mem _ hy), List.append_assoc]
  rfl
theorem hisP_len : ∀ (l : List Nat), (hisP l).length = 8 * l.length
 | [] => rfl
 | x :: r => by
  have : (fixL x).length = 8 := fixP_len x 8
  unfold hisP
  rw [List.length_append, hisP_len r, List.length_cons]
  omega
theorem penP_len : ∀ (l : List Pn), l.length ≤ (penP l).length
 | [] => Nat.zero_le _
 | x :: r => by
  have h1 := penP_len r
  have h2 := pl_ge [x.seq, x.at']
  unfold penP
  simp only [List.length_append, List.length_cons, List.length_nil] at *
  omega
theorem runP_len : ∀ (l : List Rn), l.length ≤ (runP l).length
 | [] => Nat.zero_le _
 | x :: r => by
  have h1 := runP_len r
  have h2 := pl_ge [x.seq, x.at', x.st, x.fl]
  unfold runP
  simp only [List.length_append, List.length_cons, List.length_nil] at *
  omega
theorem rSt_put {s : Sta} (h : chkS s = true) (hH : ∀ x ∈ s.hist, x < 18446744073709551616) : rSt (putS s) = some ((s, true), []) := by
 have w := chk_wr h
 have hc := chk_tok h
 obtain ⟨w1, ⟨n1, n2, n3, n4⟩, w2, w3, w4, w5, w6⟩ := w
 have hd : C8.dec (conP s) = some s.cmd := by
  have e : conP s = pl s.cmd.il := if_pos hc
  unfold C8.dec
  rw [e, C8.rCmd_put (C8.chk_told hc)]
  exact if_pos ⟨rfl, hc⟩
 have l1 := hisP_len s.hist
 have l2 := penP_len s.pend
 have l3 := runP_len s.run
 have e : putS s = putN ((conP s).length : Int).toNat ++ (conP s ++ (putN s.now.toNat ++ (putN s.nxt.toNat ++ (putN (s.hist.length : Int).toNat ++ (hisP s.hist ++ (putN (s.pend.length : Int).toNat ++ (penP s.pend ++ (putN (s.run.length : Int).toNat ++ runP s.run)))))))) := by
  unfold putS
  simp [pl]
 rw [e]
 unfold rSt
 rw [rCount_put (by omega) (by omega) _ (by rw [List.length_append]; omega)]
 dsimp only
 rw [Int.toNat_natCast, List.take_left, List.drop_left, hd]
 dsimp only
 rw [if_pos (show s.cmd.k = 1 from rfl)]
 unfold rB
 rw [rNum_put n1 (by omega)]
 dsimp only
 rw [rNum_put n3 (by omega)]
 dsimp only
 rw [rCount_put (by omega) (by omega) _ (by rw [List.length_append]; omega)]
 dsimp only
 rw [Int.toNat_natCast, rH_put _ _ _ _ _ _ hH]
 unfold rPs
 rw [rCount_put (by omega) (by omega) _ (by rw [List.length_append]; omega)]
 dsimp only
 rw [Int.toNat_natCast, rP_put _ _ _ _ _ _ _ w5]
 unfold rRs
 rw [rCount_put (by omega) (by omega) _ (by omega)]
 dsimp only
 rw [Int.toNat_natCast, rR_put _ _ _ _ _ _ _ fun x hx => ?_]
 ·rfl
 ·obtain ⟨k1, k2, k3, _, _⟩ := w6 x hx
  exact ⟨(chkB_at (chk_run h hx).chk).1, k1, k2, k3⟩
theorem dec_put {s : Sta} (h : chkS s = true) (hH : ∀ x ∈ s.hist, x < 18446744073709551616) : decS (putS s) = some s := by
 unfold decS
 rw [rSt_put h hH]
 exact if_pos ⟨rfl, h⟩
noncomputable abbrev fOne18 : Func := Tryz.f73
theorem onel_self (x : Rn) (hx : x.hs.length ≤ 1048576) : ∀ (m i : Nat), i + m = x.hs.length →
  To E fOne18 (.pure (.ret (.bool true))) (.head (stk fOne18 0) [(2, .ref 0 0), (3, .ref 1 0), (5, .int .i64 i)] [.cells 70 x.cs, .cells 70 x.cs]) := by
 have hlen : (iv x.hs).length = x.hs.length := by simp
 intro m
 induction m with
 | zero =>
  intro i hi
  refine gW hE ?_; conv => whnf
  refine aF (by omega) fun h => ?_
  repeat' first | (refine gN hE rfl ?_; conv => whnf) | exact rfl | refine aY ?_ | refine aN ?_ | refine aT (by omega) fun h => ?_ | refine aF (by omega) fun h => ?_ | refine ⟨fun h => ?_, fun h => ?_⟩ | refine aJ (by omega) (by omega) ?_ | refine ⟨_, rfl, ?_⟩ | refine ⟨by decide, ?_⟩ | refine ⟨by omega, ?_⟩ | fail
 | succ m ih =>
  intro i hi
  have hlt : i < x.hs.length := by omega
  have get := iv_get hlt
  generalize x.hs[i] = u at get
  have next := ih (i + 1) (by omega)
  refine gW hE ?_; conv => whnf
  refine aT (by omega) fun h => ?_
  repeat' first | (refine gN hE rfl ?_; conv => whnf) | refine And.intro (fun h => absurd h (by simp; done)) (fun _ => ?_) | refine ⟨i, rfl, ?_⟩ | refine ⟨_, get, ?_⟩ | exact rfl | refine aY ?_ | refine aN ?_ | refine aT (by omega) fun h => ?_ | refine aF (by omega) fun h => ?_ | refine ⟨fun h => ?_, fun h => ?_⟩ | refine aJ (by omega) (by omega) ?_ | refine ⟨_, rfl, ?_⟩ | refine ⟨by decide, ?_⟩ | refine ⟨by omega, ?_⟩ | fail
  refine To.part [2, 3, 5] [0, 1] rfl rfl rfl ?_
  exact next
theorem one_self (x : Rn) (hx : x.hs.length ≤ 1048576) : CallOK Tryz.prog 73 [x.av, x.av] [] (.ret (.bool true)) [] := by
 have next := onel_self x hx x.hs.length 0 (by omega)
 refine cT (E := E) (fn := Tryz.f73) (g := .pure _) fun _ => ?_
 repeat' first | (refine gN hE rfl ?_; conv => whnf) | refine And.intro (fun h => absurd h (by simp; done)) (fun _ => ?_) | exact rfl | refine aY ?_ | refine aN ?_ | refine aT (by omega) fun h => ?_ | refine aF (by omega) fun h => ?_ | refine ⟨fun h => ?_, fun h => ?_⟩ | refine aJ (by omega) (by omega) ?_ | refine ⟨_, rfl, ?_⟩ | refine ⟨by decide, ?_⟩ | refine ⟨by omega, ?_⟩ | fail
 refine To.part [2, 3, 5] [0, 1] rfl rfl rfl ?_
 exact next
noncomputable abbrev fSame18 : Func := Tryz.f29
theorem run_self_loop (l : List Rn) (hs : Sm l) : ∀ (m i : Nat), i + m = l.length →
  To E fSame18 (.pure (.ret (.bool true))) (.head (stk fSame18 0) [(0, .slice 14 (rav l) .no), (1, .slice 14 (rav l) .no), (5, .int .i64 i)] []) := by
 have hlen : (rav l).length = l.length := by simp
 have hl := hs.1
 intro m
 induction m with
 | zero =>
  intro i hi
  refine gW hE ?_; conv => whnf
  refine aF (by omega) fun h => ?_
  repeat' first | (refine gN hE rfl ?_; conv => whnf) | exact rfl | refine aY ?_ | refine aN ?_ | refine aT (by omega) fun h => ?_ | refine aF (by omega) fun h => ?_ | refine ⟨fun h => ?_, fun h => ?_⟩ | refine aJ (by omega) (by omega) ?_ | refine ⟨_, rfl, ?_⟩ | refine ⟨by decide, ?_⟩ | refine ⟨by omega, ?_⟩ | fail
 | succ m ih =>
  intro i hi
  have hlt : i < l.length := by omega
  have get := rav_get hlt
  have ho := one_self l[i] (hs.at hlt)
  generalize l[i] = x at get ho
  have next := ih (i + 1) (by omega)
  refine gW hE ?_; conv => whnf
  refine aT (by omega) fun h => ?_
  repeat' first | (refine gN hE rfl ?_; conv => whnf) | refine And.intro (fun h => absurd h (by simp; done)) (fun _ => ?_) | refine ⟨i, rfl, ?_⟩ | refine ⟨_, get, ?_⟩ | refine .pure _ [] ho ?_ | exact rfl | refine aY ?_ | refine aN ?_ | refine aT (by omega) fun h => ?_ | refine aF (by omega) fun h => ?_ | refine ⟨fun h => ?_, fun h => ?_⟩ | refine aJ (by omega) (by omega) ?_ | refine ⟨_, rfl, ?_⟩ | refine ⟨by decide, ?_⟩ | refine ⟨by omega, ?_⟩ | fail
  refine To.part [0, 1, 5] [] rfl rfl rfl ?_
  exact next
theorem run_self (l : List Rn) (hs : Sm l) : CallOK Tryz.prog 29 [.slice 14 (rav l) .no, .slice 14 (rav l) .no] [] (.ret (.bool true)) [] := by
 have next := run_self_loop l hs l.length 0 (by omega)
 refine cT (E := E) (fn := Tryz.f29) (g := .pure _) fun _ => ?_
 repeat' first | (refine gN hE rfl ?_; conv => whnf) | refine And.intro (fun h => absurd h (by simp; done)) (fun _ => ?_) | exact rfl | refine aY ?_ | refine aN ?_ | refine aT (by omega) fun h => ?_ | refine aF (by omega) fun h => ?_ | refine ⟨fun h => ?_, fun h => ?_⟩ | refine aJ (by omega) (by omega) ?_ | refine ⟨_, rfl, ?_⟩ | refine ⟨by decide, ?_⟩ | refine ⟨by omega, ?_⟩ | fail
 refine To.part [0, 1, 5] [] rfl rfl rfl ?_
 exact next
noncomputable abbrev fList01 : Func := Tryz.f30
theorem fix_self_loop (l : List Nat) (hl : l.length ≤ 1048576) : ∀ (m i : Nat), i + m = l.length →
  To E fList01 (.pure (.ret (.bool true))) (.head (stk fList01 0) [(0, .slice 1 (fv l) .no), (1, .slice 1 (fv l) .no), (5, .int .i64 i)] []) := by
 have hlen : (fv l).length = l.length := by simp
 intro m
 induction m with
 | zero =>
  intro i hi
  refine gW hE ?_; conv => whnf
  refine aF (by omega) fun h => ?_
  repeat' first | (refine gN hE rfl ?_; conv => whnf) | exact rfl | refine aY ?_ | refine aN ?_ | refine aT (by omega) fun h => ?_ | refine aF (by omega) fun h => ?_ | refine ⟨fun h => ?_, fun h => ?_⟩ | refine aJ (by omega) (by omega) ?_ | refine ⟨_, rfl, ?_⟩ | refine ⟨by decide, ?_⟩ | refine ⟨by omega, ?_⟩ | fail
 | succ m ih =>
  intro i hi
  have hlt : i < l.length := by omega
  have get := fv_get hlt
  generalize l[i] = x at get
  have next := ih (i + 1) (by omega)
  refine gW hE ?_; conv => whnf
  refine aT (by omega) fun h => ?_
  repeat' first | (refine gN hE rfl ?_; conv => whnf) | refine And.intro (fun h => absurd h (by simp; done)) (fun _ => ?_) | refine ⟨i, rfl, ?_⟩ | refine ⟨_, get, ?_⟩ | exact rfl | refine aY ?_ | refine aN ?_ | refine aT (by omega) fun h => ?_ | refine aF (by omega) fun h => ?_ | refine ⟨fun h => ?_, fun h => ?_⟩ | refine aJ (by omega) (by omega) ?_ | refine ⟨_, rfl, ?_⟩ | refine ⟨by decide, ?_⟩ | refine ⟨by omega, ?_⟩ | fail
  refine To.part [0, 1, 5] [] rfl rfl rfl ?_
  exact next
theorem fix_self (l : List Nat) (hl : l.length ≤ 1048576) : CallOK Tryz.prog 30 [.slice 1 (fv l) .no, .slice 1 (fv l) .no] [] (.ret (.bool true)) [] := by
 have next := fix_self_loop l hl l.length 0 (by omega)
 refine cT (E := E) (fn := Tryz.f30) (g := .pure _) fun _ => ?_
 repeat' first | (refine gN hE rfl ?_; conv => whnf) | refine And.intro (fun h => absurd h (by simp; done)) (fun _ => ?_) | exact rfl | refine aY ?_ | refine aN ?_ | refine aT (by omega) fun h => ?_ | refine aF (by omega) fun h => ?_ | refine ⟨fun h => ?_, fun h => ?_⟩ | refine aJ (by omega) (by omega) ?_ | refine ⟨_, rfl, ?_⟩ | refine ⟨by decide, ?_⟩ | refine ⟨by omega, ?_⟩ | fail
 refine To.part [0, 1, 5] [] rfl rfl rfl ?_
 exact next
theorem con_self (c : Con) : C8.sameC c c = true := by
 have h1 := C8.same_self ⟨1, c, Gan.zero, 0⟩
 unfold C8.same at h1
 simp only [Bool.and_eq_true] at h1
 exact h1.2.2.2
theorem same24_self (s : Sta) (hs : Sm s.run) (hh : s.hist.length ≤ 1048576) : CallOK Tryz.prog 10 [s.av, s.av] [] (.ret (.bool true)) [] := by
 have h1 := C8.rsame_c s.c s.c
 rw [con_self] at h1
 have h2 := Q2.same_ok (s.pend.map Pn.q) (s.pend.map Pn.q)
 rw [decide_eq_true rfl, pav_q] at h2
 have h3 := run_self s.run hs
 have h4 := fix_self s.hist hh
 refine cT (E := E) (fn := Tryz.f10) (g := .pure _) fun _ => ?_
 repeat' first | (refine gN hE rfl ?_; conv => whnf) | refine And.intro (fun _ => ?_) (fun h => absurd h (by simp; done)) | refine .pure _ [] h1 ?_ | refine .pure _ [] h2 ?_ | refine .pure _ [] h3 ?_ | refine .pure _ [] h4 ?_ | exact rfl | refine aY ?_ | refine aN ?_ | refine aT (by omega) fun h => ?_ | refine aF (by omega) fun h => ?_ | refine ⟨fun h => ?_, fun h => ?_⟩ | refine aJ (by omega) (by omega) ?_ | refine ⟨_, rfl, ?_⟩ | refine ⟨by decide, ?_⟩ | refine ⟨by omega, ?_⟩ | fail
def Sta.new : Sta := ⟨Con.nil, 0, 1, [], [], []⟩
theorem new24_ok : CallOK Tryz.prog 17 [] [] (.ret Sta.new.av) [] := by
 refine cT (E := E) (fn := Tryz.f17) (g := .pure _) fun _ => ?_
 repeat' first | (refine gN hE rfl ?_; conv => whnf) | exact rfl | refine aY ?_ | refine aN ?_ | refine aT (by omega) fun h => ?_ | refine aF (by omega) fun h => ?_ | refine ⟨fun h => ?_, fun h => ?_⟩ | refine aJ (by omega) (by omega) ?_ | refine ⟨_, rfl, ?_⟩ | refine ⟨by decide, ?_⟩ | refine ⟨by omega, ?_⟩ | fail
def fewN : Int → List Rn → Int
 | n, [] => n
 | n, x :: r => if n < 500 then fewN (n + (x.hs.length : Int)) r else n
def fewS (s : Sta) : Bool := decide (fewN ((s.c.ns.length : Int) + s.c.hs.length + s.pend.length + s.run.length + s.hist.length) s.run < 500)
noncomputable abbrev fFewS : Func := Tryz.f11
theorem few_loop (s : Sta) (hs : Sm s.run) (b : Bool) : ∀ (m i : Nat) (n : Int), i + m = s.run.length → 0 ≤ n ∧ n ≤ 100000000 → decide (fewN n (s.run.drop i) < 500) = b →
  To E fFewS (.pure (.ret (.bool b))) (.head (stk fFewS 0) [(1, .ref 0 0), (3, ii n), (4, .int .i64 i)] [.cells 31 s.cs]) := by
 have hlen : (rav s.run).length = s.run.length := by simp
 have hl := hs.1
 intro m
 induction m with
 | zero =>
  intro i n hi hn hb
  rw [List.drop_eq_nil_of_le (by omega)] at hb
  have hb : decide (n < 500) = b := hb
  subst hb
  refine gW hE ?_; conv => whnf
  refine aF (by omega) fun h => ?_
  repeat' first | (refine gN hE rfl ?_; conv => whnf) | exact rfl | refine aY ?_ | refine aN ?_ | refine aT (by omega) fun h => ?_ | refine aF (by omega) fun h => ?_ | refine ⟨fun h => ?_, fun h => ?_⟩ | refine aJ (by omega) (by omega) ?_ | refine ⟨_, rfl, ?_⟩ | refine ⟨by decide, ?_⟩ | refine ⟨by omega, ?_⟩ | fail
 | succ m ih =>
  intro i n hi hn hb
  have hlt : i < s.run.length := by omega
  rw [List.drop_eq_getElem_cons hlt] at hb
  have hx := hs.at hlt
  have get := rav_get hlt
  generalize s.run[i] = x at hb hx get
  have hlx : (iv x.hs).length = x.hs.length := by simp
  unfold fewN at hb
  by_cases hq : n < 500
  ·rw [if_pos hq] at hb
   have next := ih (i + 1) (n + (x.hs.length : Int)) (by omega) (by omega) hb
   rw [← hlx] at next
   refine gW hE ?_; conv => whnf
   refine aT (by omega) fun h => ?_
   refine gW hE ?_; conv => whnf
   refine aT (by omega) fun h => ?_
   repeat' first | (refine gN hE rfl ?_; conv => whnf) | refine ⟨i, rfl, ?_⟩ | refine ⟨_, get, ?_⟩ | refine aJ (by omega) (by omega) ?_ | exact rfl | refine aY ?_ | refine aN ?_ | refine aT (by omega) fun h => ?_ | refine aF (by omega) fun h => ?_ | refine ⟨fun h => ?_, fun h => ?_⟩ | refine aJ (by omega) (by omega) ?_ | refine ⟨_, rfl, ?_⟩ | refine ⟨by decide, ?_⟩ | refine ⟨by omega, ?_⟩ | fail
   refine To.part [1, 3, 4] [0] rfl rfl rfl ?_
   exact next
  ·rw [if_neg hq] at hb
   have hb : decide (n < 500) = b := hb
   subst hb
   refine gW hE ?_; conv => whnf
   refine aT (by omega) fun h => ?_
   refine gW hE ?_; conv => whnf
   refine aF (by omega) fun h => ?_
   repeat' first | (refine gN hE rfl ?_; conv => whnf) | exact rfl | refine aY ?_ | refine aN ?_ | refine aT (by omega) fun h => ?_ | refine aF (by omega) fun h => ?_ | refine ⟨fun h => ?_, fun h => ?_⟩ | refine aJ (by omega) (by omega) ?_ | refine ⟨_, rfl, ?_⟩ | refine ⟨by decide, ?_⟩ | refine ⟨by omega, ?_⟩ | fail
theorem fews_ok (s : Sta) (hc : s.c.sm) (hp : s.pend.length ≤ 1048576) (hh : s.hist.length ≤ 1048576) (hs : Sm s.run) : CallOK Tryz.prog 11 [s.av] [] (.ret (.bool (fewS s))) [] := by
 have a1 := hc.ns
 have a2 := hc.hs
 have a3 := hs.1
 have l1 : (nav s.c.ns).length = s.c.ns.length := by simp
 have l2 : (hav s.c.hs).length = s.c.hs.length := by simp
 have l3 : (pnv s.pend).length = s.pend.length := by simp
 have l4 : (rav s.run).length = s.run.length := by simp
 have l5 : (fv s.hist).length = s.hist.length := by simp
 have next := few_loop s hs _ s.run.length 0 _ (by omega) (by omega) (show _ = fewS s from rfl)
 generalize fewS s = b at next
 rw [← l1, ← l2, ← l3, ← l4, ← l5] at next
 refine cT (E := E) (fn := Tryz.f11) (g := .pure _) fun _ => ?_
 repeat' first | (refine gN hE rfl ?_; conv => whnf) | refine aJ (by omega) (by omega) ?_ | exact rfl | refine aY ?_ | refine aN ?_ | refine aT (by omega) fun h => ?_ | refine aF (by omega) fun h => ?_ | refine ⟨fun h => ?_, fun h => ?_⟩ | refine aJ (by omega) (by omega) ?_ | refine ⟨_, rfl, ?_⟩ | refine ⟨by decide, ?_⟩ | refine ⟨by omega, ?_⟩ | fail
 refine To.part [1, 3, 4] [0] rfl rfl rfl ?_
 exact next
theorem putN_small {n : Nat} (h : n < 128) : C8.putN n = [UInt8.ofNat n] := by rw [C8.putN, if_pos h]
theorem new_chk : chkS Sta.new = true := by rfl
theorem nil_chk : chkS Sta.nil = false := by rfl
def newB : List UInt8 := [5, 1, 0, 0, 0, 0, 0, 1, 0, 0, 0]
theorem conP_eq {s : Sta} (h : chkS s = true) : conP s = C8.pl s.cmd.il := if_pos (chk_tok h)
theorem new_put : putS Sta.new = newB := by
 have e : conP Sta.new = C8.pl [1, 0, 0, 0, 0] := conP_eq new_chk
 have e1 : C8.putN (0 : Int).toNat = [0] := putN_small (by decide)
 have e2 : C8.putN (1 : Int).toNat = [1] := putN_small (by decide)
 have e3 : C8.pl [1, 0, 0, 0, 0] = [1, 0, 0, 0, 0] := by
  simp only [C8.pl, e1, e2]
  rfl
 have e4 : C8.putN 5 = [5] := putN_small (by decide)
 unfold putS
 rw [e, e3]
 show C8.putN 5 ++ [1, 0, 0, 0, 0] ++ C8.pl [(0 : Int), 1, 0] ++ [] ++ C8.pl [(0 : Int)] ++ [] ++ C8.pl [(0 : Int)] ++ [] = _
 simp only [C8.pl, e1, e2, e4]
 rfl
theorem new_sm : Sta.new.c.sm ∧ Sm Sta.new.run := ⟨⟨Nat.zero_le _, Nat.zero_le _⟩, Nat.zero_le _, fun y hy => by cases hy⟩
theorem nil_sm : Sta.nil.c.sm ∧ Sm Sta.nil.run := ⟨⟨Nat.zero_le _, Nat.zero_le _⟩, Nat.zero_le _, fun y hy => by cases hy⟩
theorem encN_ok : CallOK Tryz.prog 12 [Sta.new.av] [] (.ret (.tup [.str newB, ii 0])) [] := by
 have := senc_ok Sta.new new_sm.1 new_sm.2 chk_wr
 unfold encS at this
 rw [new_chk, if_pos rfl, new_put] at this
 exact this
theorem decN_ok : CallOK Tryz.prog 8 [.str newB] [] (.ret (.tup [Sta.new.av, ii 0])) [] := by
 have := sdec_ok newB (by decide)
 have e : decS newB = some Sta.new := by rw [← new_put]; exact dec_put new_chk fun x hx => by cases hx
 unfold decT decR at this
 rw [e] at this
 exact this
theorem decX_ok : CallOK Tryz.prog 8 [.str (newB ++ [120])] [] (.ret (.tup [Sta.nil.av, ii 10])) [] := by
 have := sdec_ok (newB ++ [120]) (by decide)
 have e : decS (newB ++ [120]) = none := by rfl
 unfold decT decR at this
 rw [e] at this
 exact this
theorem chkN_ok : CallOK Tryz.prog 13 [Sta.nil.av] [] (.ret (ii 1)) [] := by
 have := scheck_ok Sta.nil nil_sm.1 nil_sm.2
 rw [nil_chk] at this
 exact this
theorem awake25_ok : CallOK Tryz.prog 7 [] [] (.ret (.bool true)) [] := by
 have hs := same24_self Sta.new new_sm.2 (Nat.zero_le _)
 have h1 := encN_ok
 have h2 := decN_ok
 have h3 := decX_ok
 have h4 := chkN_ok
 have h5 := new24_ok
 refine cT (E := E) (fn := Tryz.f7) (g := .pure _) fun _ => ?_
 repeat' first | (refine gN hE rfl ?_; conv => whnf) | refine .pure _ [] h5 ?_ | refine .pure _ [] h1 ?_ | refine .pure _ [] h2 ?_ | refine .pure _ [] h3 ?_ | refine .pure _ [] hs ?_ | refine .pure _ [] (CallOK.strip h4) ?_ | refine .pure _ [] h4 ?_ | exact rfl | refine aY ?_ | refine aN ?_ | refine aT (by omega) fun h => ?_ | refine aF (by omega) fun h => ?_ | refine ⟨fun h => ?_, fun h => ?_⟩ | refine aJ (by omega) (by omega) ?_ | refine ⟨_, rfl, ?_⟩ | refine ⟨by decide, ?_⟩ | refine ⟨by omega, ?_⟩ | fail
noncomputable abbrev fFull : Func := Tryz.f16
theorem full_two (s : Sta) (hc : s.c.sm) (U : List V3) (hU : U.length = s.c.ns.length) (hg : ∀ i : Nat, i < U.length → (vav U)[i]? = some (atV U (i : Int)).av) (hq : ∀ i : Nat, i < U.length → vfits (atV U (i : Int)) (mostI s.c (i : Int)) = true) : ∀ (m i : Nat), i + m = U.length →
  To E fFull (.pure (.ret (ii 0))) (.head (stk fFull 1) [(1, .ref 0 0), (5, .slice 3 (vav U) .no), (6, .int .i64 i)] [.cells 31 s.cs]) := by
 have hlen : (vav U).length = U.length := by simp
 have h1 := hc.ns
 intro m
 induction m with
 | zero =>
  intro i hi
  refine gW hE ?_; conv => whnf
  refine aF (by omega) fun h => ?_
  repeat' first | (refine gN hE rfl ?_; conv => whnf) | exact rfl | refine aY ?_ | refine aN ?_ | refine aT (by omega) fun h => ?_ | refine aF (by omega) fun h => ?_ | refine ⟨fun h => ?_, fun h => ?_⟩ | refine aJ (by omega) (by omega) ?_ | refine ⟨_, rfl, ?_⟩ | refine ⟨by decide, ?_⟩ | refine ⟨by omega, ?_⟩ | fail
 | succ m ih =>
  intro i hi
  have hlt : i < U.length := by omega
  have next := ih (i + 1) (by omega)
  have get := hg i hlt
  have hf := hq i hlt
  have gn := nod_get (c := s.c) (n := (i : Int)) ⟨by omega, by omega⟩
  have hn := rnom_ok s.c hc (i : Int)
  have hl := rleaf_ok s.c hc (i : Int)
  rw [rlB_eq] at hl
  unfold mostI at hf
  generalize atV U (i : Int) = u at hf get
  generalize nodAt s.c.ns (i : Int) = y at hf gn
  generalize sumL s.c.ns (i : Int) (nomL s.c.ns) = v at hf hn
  cases hb : leafB s.c.ns (i : Int) with
  | true =>
   rw [hb, if_pos rfl] at hf
   rw [hb] at hl
   have ha := radd_ok v y.b
   have ho := rfits_ok u (vadd v y.b)
   rw [hf] at ho
   refine gW hE ?_; conv => whnf
   refine aT (by omega) fun h => ?_
   repeat' first | (refine gN hE rfl ?_; conv => whnf) | refine ⟨i, rfl, ?_⟩ | refine ⟨_, get, ?_⟩ | refine .pure _ [] hn ?_ | refine .pure _ [] hl ?_ | refine ⟨_, gn, ?_⟩ | refine .pure _ [] ha ?_ | refine .pure _ [] ho ?_ | exact rfl | refine aY ?_ | refine aN ?_ | refine aT (by omega) fun h => ?_ | refine aF (by omega) fun h => ?_ | refine ⟨fun h => ?_, fun h => ?_⟩ | refine aJ (by omega) (by omega) ?_ | refine ⟨_, rfl, ?_⟩ | refine ⟨by decide, ?_⟩ | refine ⟨by omega, ?_⟩ | fail
   refine To.part [1, 5, 6] [0] rfl rfl rfl ?_
   exact next
  | false =>
   rw [hb, if_neg (by decide)] at hf
   rw [hb] at hl
   have ho := rfits_ok u v
   rw [hf] at ho
   refine gW hE ?_; conv => whnf
   refine aT (by omega) fun h => ?_
   repeat' first | (refine gN hE rfl ?_; conv => whnf) | refine ⟨i, rfl, ?_⟩ | refine ⟨_, get, ?_⟩ | refine .pure _ [] hn ?_ | refine .pure _ [] hl ?_ | refine .pure _ [] ho ?_ | exact rfl | refine aY ?_ | refine aN ?_ | refine aT (by omega) fun h => ?_ | refine aF (by omega) fun h => ?_ | refine ⟨fun h => ?_, fun h => ?_⟩ | refine aJ (by omega) (by omega) ?_ | refine ⟨_, rfl, ?_⟩ | refine ⟨by decide, ?_⟩ | refine ⟨by omega, ?_⟩ | fail
   refine To.part [1, 5, 6] [0] rfl rfl rfl ?_
   exact next
theorem full_one (s : Sta) (hc : s.c.sm) (hr : s.run.length ≤ 1048576) (F : List V3) (hF : F.length ≤ 1048576) (hz : ∀ (j : Nat) (h : j < F.length), vfits V3.zero F[j] = true) (hq : quoB s = true) : ∀ (m i : Nat), i + m = F.length →
  To E fFull (.pure (.ret (ii 0))) (.head (stk fFull 0) [(1, .ref 0 0), (3, .slice 3 (vav F) .no), (4, .int .i64 i)] [.cells 31 s.cs]) := by
 have hlen : (vav F).length = F.length := by simp
 intro m
 induction m with
 | zero =>
  intro i hi
  have ho := rof_ok s.c hc s.run hr
  have hU := ofL_len' s.c s.run
  have next := full_two s hc (ofL s.c s.run) hU (fun i hi => by
   have := used_at (c := s.c) (l := s.run) (n := (i : Int)) ⟨by omega, by omega⟩
   rw [Int.toNat_natCast] at this
   exact this) (fun i hi => by
   unfold quoB at hq
   exact List.all_eq_true.1 hq i (List.mem_range.2 (by omega))) (ofL s.c s.run).length 0 (by omega)
  generalize ofL s.c s.run = U at ho next
  refine gW hE ?_; conv => whnf
  refine aF (by omega) fun h => ?_
  repeat' first | (refine gN hE rfl ?_; conv => whnf) | refine .pure _ [] ho ?_ | exact rfl | refine aY ?_ | refine aN ?_ | refine aT (by omega) fun h => ?_ | refine aF (by omega) fun h => ?_ | refine ⟨fun h => ?_, fun h => ?_⟩ | refine aJ (by omega) (by omega) ?_ | refine ⟨_, rfl, ?_⟩ | refine ⟨by decide, ?_⟩ | refine ⟨by omega, ?_⟩ | fail
  refine To.part [1, 5, 6] [0] rfl rfl rfl ?_
  exact next
 | succ m ih =>
  intro i hi
  have hlt : i < F.length := by omega
  have get := vav_get hlt
  have hf := rfits_ok V3.zero F[i]
  rw [hz i hlt] at hf
  generalize F[i] = x at get hf
  have next := ih (i + 1) (by omega)
  refine gW hE ?_; conv => whnf
  refine aT (by omega) fun h => ?_
  repeat' first | (refine gN hE rfl ?_; conv => whnf) | refine ⟨i, rfl, ?_⟩ | refine ⟨_, get, ?_⟩ | refine .pure _ [] hf ?_ | exact rfl | refine aY ?_ | refine aN ?_ | refine aT (by omega) fun h => ?_ | refine aF (by omega) fun h => ?_ | refine ⟨fun h => ?_, fun h => ?_⟩ | refine aJ (by omega) (by omega) ?_ | refine ⟨_, rfl, ?_⟩ | refine ⟨by decide, ?_⟩ | refine ⟨by omega, ?_⟩ | fail
  refine To.part [1, 3, 4] [0] rfl rfl rfl ?_
  exact next
theorem full_ok (s : Sta) (hc : s.c.sm) (hs : Sm s.run) (hk : chkS s = true) (hn : s.c.ns ≠ []) : CallOK Tryz.prog 16 [s.av] [] (.ret (ii 0)) [] := by
 have hf := rfree_ok s.c hc s.run hs
 have hl := free_len s.c s.run
 have hz : ∀ (j : Nat) (h : j < (freeL s.c s.run).length), vfits V3.zero (freeL s.c s.run)[j] = true := fun j h => by
  have := hosts_safe hk hn (j := j) (by omega)
  rw [List.getElem?_eq_getElem h] at this
  exact this
 have h1 := hc.hs
 have next := full_one s hc hs.1 (freeL s.c s.run) (by omega) hz (chk_ids hk).2.2.1 (freeL s.c s.run).length 0 (by omega)
 generalize freeL s.c s.run = F at hf next
 refine cT (E := E) (fn := Tryz.f16) (g := .pure _) fun _ => ?_
 repeat' first | (refine gN hE rfl ?_; conv => whnf) | refine .pure _ [] hf ?_ | exact rfl | refine aY ?_ | refine aN ?_ | refine aT (by omega) fun h => ?_ | refine aF (by omega) fun h => ?_ | refine ⟨fun h => ?_, fun h => ?_⟩ | refine aJ (by omega) (by omega) ?_ | refine ⟨_, rfl, ?_⟩ | refine ⟨by decide, ?_⟩ | refine ⟨by omega, ?_⟩ | fail
 refine To.part [1, 3, 4] [0] rfl rfl rfl ?_
 exact next
noncomputable abbrev fFair : Func := Tryz.f15
theorem fair_in (s : Sta) (hl : s.run.length ≤ 1048576) (i : Nat) (hi : i < 1048576) (p : Pn) (hd : ∀ x ∈ s.run, x.g.id ≠ p.g.id ∧ x.seq ≠ p.seq)
  (cont : To E fFair (.pure (.ret (ii 1))) (.head (stk fFair 0) [(1, .ref 0 0), (3, .int .i64 ((i : Int) + 1))] [.cells 31 s.cs])) : ∀ (m k : Nat), k + m = s.run.length →
  To E fFair (.pure (.ret (ii 1))) (.head (stk fFair 1) [(1, .ref 0 0), (3, .int .i64 i), (4, .ref 1 0), (5, .int .i64 k)] [.cells 31 s.cs, .cells 67 p.cs]) := by
 have hlen : (rav s.run).length = s.run.length := by simp
 intro m
 induction m with
 | zero =>
  intro k hk
  refine gW hE ?_; conv => whnf
  refine aF (by omega) fun h => ?_
  repeat' first | (refine gN hE rfl ?_; conv => whnf) | exact rfl | refine aY ?_ | refine aN ?_ | refine aT (by omega) fun h => ?_ | refine aF (by omega) fun h => ?_ | refine ⟨fun h => ?_, fun h => ?_⟩ | refine aJ (by omega) (by omega) ?_ | refine ⟨_, rfl, ?_⟩ | refine ⟨by decide, ?_⟩ | refine ⟨by omega, ?_⟩ | fail
  refine To.part [1, 3] [0] rfl rfl rfl ?_
  exact cont
 | succ m ih =>
  intro k hk
  have hlt : k < s.run.length := by omega
  have get := rav_get hlt
  have hx := hd s.run[k] (List.getElem_mem hlt)
  generalize s.run[k] = x at get hx
  have e1 : (x.g.id == p.g.id) = false := beq_eq_false_iff_ne.2 hx.1
  have e2 : (x.seq == p.seq) = false := beq_eq_false_iff_ne.2 hx.2
  have next := ih (k + 1) (by omega)
  refine gW hE ?_; conv => whnf
  refine aT (by omega) fun h => ?_
  repeat' first | (refine gN hE rfl ?_; conv => whnf) | refine ⟨k, rfl, ?_⟩ | refine ⟨_, get, ?_⟩ | refine And.intro (fun h => absurd (e1.symm.trans h) (by decide)) (fun _ => ?_) | refine And.intro (fun h => absurd (e2.symm.trans h) (by decide)) (fun _ => ?_) | exact rfl | refine aY ?_ | refine aN ?_ | refine aT (by omega) fun h => ?_ | refine aF (by omega) fun h => ?_ | refine ⟨fun h => ?_, fun h => ?_⟩ | refine aJ (by omega) (by omega) ?_ | refine ⟨_, rfl, ?_⟩ | refine ⟨by decide, ?_⟩ | refine ⟨by omega, ?_⟩ | fail
  refine To.part [1, 3, 4, 5] [0, 1] rfl rfl rfl ?_
  exact next
theorem fair_two (s : Sta) (hl : s.run.length ≤ 1048576) (i : Nat) (hi : i < s.run.length) (hd : ∀ (k : Nat) (h : k < i), (s.run[k]'(by omega)).g.id ≠ s.run[i].g.id ∧ (s.run[k]'(by omega)).seq ≠ s.run[i].seq)
  (cont : To E fFair (.pure (.ret (ii 1))) (.head (stk fFair 2) [(1, .ref 0 0), (6, .int .i64 ((i : Int) + 1))] [.cells 31 s.cs])) : ∀ (m k : Nat), k + m = i →
  To E fFair (.pure (.ret (ii 1))) (.head (stk fFair 3) [(1, .ref 0 0), (6, .int .i64 i), (7, .int .i64 k)] [.cells 31 s.cs]) := by
 have hlen : (rav s.run).length = s.run.length := by simp
 intro m
 induction m with
 | zero =>
  intro k hk
  refine gW hE ?_; conv => whnf
  refine aF (by omega) fun h => ?_
  repeat' first | (refine gN hE rfl ?_; conv => whnf) | exact rfl | refine aY ?_ | refine aN ?_ | refine aT (by omega) fun h => ?_ | refine aF (by omega) fun h => ?_ | refine ⟨fun h => ?_, fun h => ?_⟩ | refine aJ (by omega) (by omega) ?_ | refine ⟨_, rfl, ?_⟩ | refine ⟨by decide, ?_⟩ | refine ⟨by omega, ?_⟩ | fail
  refine To.part [1, 6] [0] rfl rfl rfl ?_
  exact cont
 | succ m ih =>
  intro k hk
  have hlt : k < s.run.length := by omega
  have get := rav_get hlt
  have gi := rav_get hi
  have hx := hd k (by omega)
  generalize s.run[k] = x at get hx
  generalize s.run[i] = y at gi hx
  have e1 : (x.g.id == y.g.id) = false := beq_eq_false_iff_ne.2 hx.1
  have e2 : (x.seq == y.seq) = false := beq_eq_false_iff_ne.2 hx.2
  have next := ih (k + 1) (by omega)
  refine gW hE ?_; conv => whnf
  refine aT (by omega) fun h => ?_
  repeat' first | (refine gN hE rfl ?_; conv => whnf) | refine ⟨k, rfl, ?_⟩ | refine ⟨_, get, ?_⟩ | refine ⟨i, rfl, ?_⟩ | refine ⟨_, gi, ?_⟩ | refine And.intro (fun h => absurd (e1.symm.trans h) (by decide)) (fun _ => ?_) | refine And.intro (fun h => absurd (e2.symm.trans h) (by decide)) (fun _ => ?_) | exact rfl | refine aY ?_ | refine aN ?_ | refine aT (by omega) fun h => ?_ | refine aF (by omega) fun h => ?_ | refine ⟨fun h => ?_, fun h => ?_⟩ | refine aJ (by omega) (by omega) ?_ | refine ⟨_, rfl, ?_⟩ | refine ⟨by decide, ?_⟩ | refine ⟨by omega, ?_⟩ | fail
  refine To.part [1, 6, 7] [0] rfl rfl rfl ?_
  exact next
theorem fair_run (s : Sta) (hl : s.run.length ≤ 1048576) (hd : ∀ (i k : Nat) (hi : i < s.run.length) (h : k < i), (s.run[k]'(by omega)).g.id ≠ s.run[i].g.id ∧ (s.run[k]'(by omega)).seq ≠ s.run[i].seq) : ∀ (m i : Nat), i + m = s.run.length →
  To E fFair (.pure (.ret (ii 1))) (.head (stk fFair 2) [(1, .ref 0 0), (6, .int .i64 i)] [.cells 31 s.cs]) := by
 have hlen : (rav s.run).length = s.run.length := by simp
 intro m
 induction m with
 | zero =>
  intro i hi
  refine gW hE ?_; conv => whnf
  refine aF (by omega) fun h => ?_
  repeat' first | (refine gN hE rfl ?_; conv => whnf) | exact rfl | refine aY ?_ | refine aN ?_ | refine aT (by omega) fun h => ?_ | refine aF (by omega) fun h => ?_ | refine ⟨fun h => ?_, fun h => ?_⟩ | refine aJ (by omega) (by omega) ?_ | refine ⟨_, rfl, ?_⟩ | refine ⟨by decide, ?_⟩ | refine ⟨by omega, ?_⟩ | fail
 | succ m ih =>
  intro i hi
  have next := fair_two s hl i (by omega) (fun k h => hd i k (by omega) h) (ih (i + 1) (by omega)) i 0 (by omega)
  refine gW hE ?_; conv => whnf
  refine aT (by omega) fun h => ?_
  repeat' first | (refine gN hE rfl ?_; conv => whnf) | exact rfl | refine aY ?_ | refine aN ?_ | refine aT (by omega) fun h => ?_ | refine aF (by omega) fun h => ?_ | refine ⟨fun h => ?_, fun h => ?_⟩ | refine aJ (by omega) (by omega) ?_ | refine ⟨_, rfl, ?_⟩ | refine ⟨by decide, ?_⟩ | refine ⟨by omega, ?_⟩ | fail
  refine To.part [1, 6, 7] [0] rfl rfl rfl ?_
  exact next
theorem fair_pen (s : Sta) (hc : s.c.sm) (hp : s.pend.length ≤ 1048576) (hl : s.run.length ≤ 1048576) (hg : ∀ p ∈ s.pend, gangI s.c.ns p.g = 1 ∧ 0 ≤ p.at' ∧ p.at' ≤ s.now) (hd : ∀ p ∈ s.pend, ∀ x ∈ s.run, x.g.id ≠ p.g.id ∧ x.seq ≠ p.seq)
  (hd2 : ∀ (i k : Nat) (hi : i < s.run.length) (h : k < i), (s.run[k]'(by omega)).g.id ≠ s.run[i].g.id ∧ (s.run[k]'(by omega)).seq ≠ s.run[i].seq) : ∀ (m i : Nat), i + m = s.pend.length →
  To E fFair (.pure (.ret (ii 1))) (.head (stk fFair 0) [(1, .ref 0 0), (3, .int .i64 i)] [.cells 31 s.cs]) := by
 have hlen : (pnv s.pend).length = s.pend.length := by simp
 intro m
 induction m with
 | zero =>
  intro i hi
  have next := fair_run s hl hd2 s.run.length 0 (by omega)
  refine gW hE ?_; conv => whnf
  refine aF (by omega) fun h => ?_
  repeat' first | (refine gN hE rfl ?_; conv => whnf) | exact rfl | refine aY ?_ | refine aN ?_ | refine aT (by omega) fun h => ?_ | refine aF (by omega) fun h => ?_ | refine ⟨fun h => ?_, fun h => ?_⟩ | refine aJ (by omega) (by omega) ?_ | refine ⟨_, rfl, ?_⟩ | refine ⟨by decide, ?_⟩ | refine ⟨by omega, ?_⟩ | fail
  refine To.part [1, 6] [0] rfl rfl rfl ?_
  exact next
 | succ m ih =>
  intro i hi
  have hlt : i < s.pend.length := by omega
  have get := pnv_get hlt
  obtain ⟨h1, h2, h3⟩ := hg s.pend[i] (List.getElem_mem hlt)
  have h4 := hd s.pend[i] (List.getElem_mem hlt)
  generalize s.pend[i] = p at get h1 h2 h3 h4
  have next := fair_in s hl i (by omega) p h4 (ih (i + 1) (by omega)) s.run.length 0 (by omega)
  have hga := gang_ok s.c hc p.g
  rw [h1] at hga
  refine gW hE ?_; conv => whnf
  refine aT (by omega) fun h => ?_
  repeat' first | (refine gN hE rfl ?_; conv => whnf) | refine ⟨i, rfl, ?_⟩ | refine ⟨_, get, ?_⟩ | refine .pure _ [] hga ?_ | refine And.intro (fun h => absurd h (by decide)) (fun _ => ?_) | exact rfl | refine aY ?_ | refine aN ?_ | refine aT (by omega) fun h => ?_ | refine aF (by omega) fun h => ?_ | refine ⟨fun h => ?_, fun h => ?_⟩ | refine aJ (by omega) (by omega) ?_ | refine ⟨_, rfl, ?_⟩ | refine ⟨by decide, ?_⟩ | refine ⟨by omega, ?_⟩ | fail
  refine To.part [1, 3, 4, 5] [0, 1] rfl rfl rfl ?_
  exact next
theorem nodup_app {l r : List Int} (h : (l ++ r).Nodup) : (∀ a ∈ l, ∀ b ∈ r, b ≠ a) ∧ r.Nodup := by
 obtain ⟨_, h2, h3⟩ := List.nodup_append.1 h
 exact ⟨fun a ha b hb e => h3 a ha b hb e.symm, h2⟩
theorem fair_ok (s : Sta) (hc : s.c.sm) (hs : Sm s.run) (hk : chkS s = true) (hn : s.c.ns ≠ []) : CallOK Tryz.prog 15 [s.av] [] (.ret (ii 1)) [] := by
 obtain ⟨_, _, h3, h4⟩ := chk_head hk hn
 have hw := few_ok s.c hc s.now s.run hs
 rw [few_safe hk hn] at hw
 have hq := Q2.checkref_ok (s.pend.map Pn.q) (by rw [List.length_map]; omega)
 obtain ⟨k1, k2, _, k4⟩ := chk_ids hk
 rw [pav_q, show Q2.checkP (s.pend.map Pn.q) = true from k4] at hq
 obtain ⟨a1, a2⟩ := nodup_app k1
 obtain ⟨b1, b2⟩ := nodup_app k2
 have l1 : (pnv s.pend).length = s.pend.length := by simp
 have l2 : (fv s.hist).length = s.hist.length := by simp
 have l3 : (nav s.c.ns).length = s.c.ns.length := by simp
 have e1 : (((fv s.hist).length : Int) != ((nav s.c.ns).length : Int)) = false := by rw [l2, l3, h3]; simp
 have next := fair_pen s hc (by omega) (by omega) (fun p hp => by
  obtain ⟨q1, q2, q3⟩ := chk_pend hk hp
  exact ⟨gangE_I q1, q2, q3⟩) (fun p hp x hx => ⟨a1 _ (List.mem_map_of_mem hp) _ (List.mem_map_of_mem hx), b1 _ (List.mem_map_of_mem hp) _ (List.mem_map_of_mem hx)⟩)
  (fun i k hi h => by
   have n1 := List.nodup_iff_pairwise_ne.1 a2
   have n2 := List.nodup_iff_pairwise_ne.1 b2
   have p1 := List.pairwise_iff_getElem.1 n1 k i (by simp; omega) (by simp; omega) h
   have p2 := List.pairwise_iff_getElem.1 n2 k i (by simp; omega) (by simp; omega) h
   simp only [List.getElem_map] at p1 p2
   exact ⟨p1, p2⟩) s.pend.length 0 (by omega)
 refine cT (E := E) (fn := Tryz.f15) (g := .pure _) fun _ => ?_
 repeat' first | (refine gN hE rfl ?_; conv => whnf) | refine .pure _ [] hw ?_ | refine .pure _ [] hq ?_ | refine And.intro (fun h => absurd (e1.symm.trans h) (by decide)) (fun _ => ?_) | refine And.intro (fun h => absurd h (by decide)) (fun _ => ?_) | exact rfl | refine aY ?_ | refine aN ?_ | refine aT (by omega) fun h => ?_ | refine aF (by omega) fun h => ?_ | refine ⟨fun h => ?_, fun h => ?_⟩ | refine aJ (by omega) (by omega) ?_ | refine ⟨_, rfl, ?_⟩ | refine ⟨by decide, ?_⟩ | refine ⟨by omega, ?_⟩ | fail
 refine To.part [1, 3] [0] rfl rfl rfl ?_
 exact next
theorem ssafe_ok (s : Sta) (hc : s.c.sm) (hp : s.pend.length ≤ 1048576) (hh : s.hist.length ≤ 1048576) (hs : Sm s.run) : CallOK Tryz.prog 6 [s.av] [] (.ret (.bool true)) [] := by
 have h0 := awake25_ok
 have h1 := fews_ok s hc hp hh hs
 have h2 := scheck_ok s hc hs
 have l3 : (nav s.c.ns).length = s.c.ns.length := by simp
 generalize fewS s = q at h1
 cases hk : chkS s with
 | false =>
  rw [hk] at h2
  have h2 : CallOK Tryz.prog 13 [s.av] [] (.ret (ii 1)) [] := h2
  refine cT (E := E) (fn := Tryz.f6) (g := .pure _) fun _ => ?_
  repeat' first | (refine gN hE rfl ?_; conv => whnf) | refine .pure _ [] h0 ?_ | refine .pure _ [] h1 ?_ | refine .pure _ [] h2 ?_ | exact rfl | refine aY ?_ | refine aN ?_ | refine aT (by omega) fun h => ?_ | refine aF (by omega) fun h => ?_ | refine ⟨fun h => ?_, fun h => ?_⟩ | refine aJ (by omega) (by omega) ?_ | refine ⟨_, rfl, ?_⟩ | refine ⟨by decide, ?_⟩ | refine ⟨by omega, ?_⟩ | fail
 | true =>
  rw [hk] at h2
  have h2 : CallOK Tryz.prog 13 [s.av] [] (.ret (ii 0)) [] := h2
  by_cases hn : s.c.ns = []
  ·have e1 : (((nav s.c.ns).length : Int) == 0) = true := by rw [hn]; rfl
   refine cT (E := E) (fn := Tryz.f6) (g := .pure _) fun _ => ?_
   repeat' first | (refine gN hE rfl ?_; conv => whnf) | refine .pure _ [] h0 ?_ | refine .pure _ [] h1 ?_ | refine .pure _ [] h2 ?_ | refine And.intro (fun _ => ?_) (fun h => absurd (e1.symm.trans h) (by decide)) | exact rfl | refine aY ?_ | refine aN ?_ | refine aT (by omega) fun h => ?_ | refine aF (by omega) fun h => ?_ | refine ⟨fun h => ?_, fun h => ?_⟩ | refine aJ (by omega) (by omega) ?_ | refine ⟨_, rfl, ?_⟩ | refine ⟨by decide, ?_⟩ | refine ⟨by omega, ?_⟩ | fail
  ·have e1 : (((nav s.c.ns).length : Int) == 0) = false := by
    have := List.length_pos_iff.2 hn
    rw [beq_eq_false_iff_ne]
    omega
   have h3 := check_ok s.c hc
   rw [(chk_head hk hn).1] at h3
   have h4 := fair_ok s hc hs hk hn
   have h5 := full_ok s hc hs hk hn
   refine cT (E := E) (fn := Tryz.f6) (g := .pure _) fun _ => ?_
   repeat' first | (refine gN hE rfl ?_; conv => whnf) | refine .pure _ [] h0 ?_ | refine .pure _ [] h1 ?_ | refine .pure _ [] h2 ?_ | refine .pure _ [] h3 ?_ | refine .pure _ [] h4 ?_ | refine .pure _ [] h5 ?_ | refine And.intro (fun h => absurd (e1.symm.trans h) (by decide)) (fun _ => ?_) | exact rfl | refine aY ?_ | refine aN ?_ | refine aT (by omega) fun h => ?_ | refine aF (by omega) fun h => ?_ | refine ⟨fun h => ?_, fun h => ?_⟩ | refine aJ (by omega) (by omega) ?_ | refine ⟨_, rfl, ?_⟩ | refine ⟨by decide, ?_⟩ | refine ⟨by omega, ?_⟩ | fail
open Go.ChangeShapes Go.WideShapes Go.ChangeAt Go.RowKit
set_option maxRecDepth 100000
theorem bulk_one {H : Type} (d : DataW H) : 1 ≤ Rows.uptoBulk d := by
 cases d with
 | lit l => cases l <;> simp [Rows.uptoBulk]
 | _ => simp [Rows.uptoBulk]
theorem bulk_part {H : Type} {d : DataW H} : ∀ {l : List (DataW H)}, d ∈ l → Rows.uptoBulk d ≤ Rows.uptoBulkAll l
 | [], h => by cases h
 | x :: r, h => by
  simp only [Rows.uptoBulkAll]
  rcases List.mem_cons.1 h with rfl | h
  ·omega
  ·have := bulk_part h
   omega
theorem bulk_len {H : Type} : ∀ (l : List (DataW H)), l.length ≤ Rows.uptoBulkAll l
 | [] => by simp
 | x :: r => by
  have := bulk_one x
  have := bulk_len r
  simp only [Rows.uptoBulkAll, List.length_cons]
  omega
theorem bulkN (H : Type) (N : Nat) : Bulk H N (fun d => Rows.uptoBulk d ≤ N) where
 str l h := by
  simp only [Rows.uptoBulk] at h
  omega
 sl e r h := by
  simp only [Rows.uptoBulk] at h
  have := bulk_len e
  exact ⟨by omega, fun d hd => by have := bulk_part hd; omega⟩
 agg l h := by
  simp only [Rows.uptoBulk] at h
  exact fun d hd => by have := bulk_part hd; omega
section
variable {N : Nat}
theorem tnInt {n : Nat} {cs : List AVal} (h : TyN Tryz.prog N (n + 1) 3 cs) : ∃ m : Int, cs = [ii m] := by
 unfold TyN at h
 rw [Tryz.underlying3] at h
 obtain ⟨m, h, _⟩ := h
 exact ⟨m, h⟩
theorem tnVec {n : Nat} {cs : List AVal} (h : TyN Tryz.prog N (n + 2) 57 cs) : ∃ v : V3, cs = v.cs := by
 unfold TyN at h
 rw [Tryz.underlying57] at h
 obtain ⟨xs, hl, hx, rfl⟩ := h
 match xs, hl, hx with
 | [x, y, z], _, hx =>
  obtain ⟨a, rfl⟩ := tnInt (hx x (by simp))
  obtain ⟨b, rfl⟩ := tnInt (hx y (by simp))
  obtain ⟨c, rfl⟩ := tnInt (hx z (by simp))
  exact ⟨⟨a, b, c⟩, rfl⟩
theorem tnGang {n : Nat} {cs : List AVal} (h : TyN Tryz.prog N (n + 3) 59 cs) : ∃ g : Gan, cs = g.cs := by
 unfold TyN at h
 rw [Tryz.underlying59] at h
 obtain ⟨x0, r, rfl, h0, x1, r, rfl, h1, x2, r, rfl, h2, x3, r, rfl, h3, x4, r, rfl, h4, x5, r, rfl, h5, x6, r, rfl, h6, rfl⟩ := h
 obtain ⟨a0, rfl⟩ := tnInt h0
 obtain ⟨a1, rfl⟩ := tnInt h1
 obtain ⟨a2, rfl⟩ := tnInt h2
 obtain ⟨v, rfl⟩ := tnVec h3
 obtain ⟨a4, rfl⟩ := tnInt h4
 obtain ⟨a5, rfl⟩ := tnInt h5
 obtain ⟨a6, rfl⟩ := tnInt h6
 exact ⟨⟨a0, a1, a2, v, a4, a5, a6⟩, rfl⟩
theorem allsN {α : Type} {av : α → AVal} {P : AVal → Prop} {Q : α → Prop} (hP : ∀ x, P x → ∃ p : α, x = av p ∧ Q p) : ∀ (xs : List AVal), (∀ x ∈ xs, P x) → ∃ l : List α, xs = l.map av ∧ ∀ p ∈ l, Q p
 | [], _ => ⟨[], rfl, fun p h => by cases h⟩
 | x :: xs, h => by
  obtain ⟨p, rfl, hp⟩ := hP x (h x (by simp))
  obtain ⟨l, rfl, hl⟩ := allsN hP xs fun x hx => h x (by simp [hx])
  exact ⟨p :: l, rfl, fun q hq => by
   rcases List.mem_cons.1 hq with rfl | hq
   ·exact hp
   ·exact hl q hq⟩
theorem tnInts {n : Nat} {cs : List AVal} (h : TyN Tryz.prog N (n + 2) 68 cs) : ∃ l : List Int, cs = [.slice 1 (iv l) .no] ∧ l.length ≤ N := by
 unfold TyN at h
 rw [Tryz.underlying68] at h
 obtain ⟨xs, rfl, hN, hx⟩ := h
 have hc : Tryz.prog.cellsOf 3 = 1 := by kernel_rfl
 have ha : isAggT Tryz.prog 3 = false := by kernel_rfl
 obtain ⟨l, rfl, _⟩ := allsN (av := fun m : Int => ii m) (Q := fun _ => True) (P := fun x => x ∈ xs) (fun x hm => by
  obtain ⟨m, e⟩ := tnInt (n := n) (hx x hm).1
  have e2 := (hx x hm).2.2 ha
  rw [e] at e2
  exact ⟨m, (List.cons.inj e2).1.symm, trivial⟩) xs fun x hm => hm
 exact ⟨l, by rw [hc], by simpa using hN⟩
theorem tnRun {n : Nat} {cs : List AVal} (h : TyN Tryz.prog N (n + 4) 70 cs) : ∃ x : Rn, cs = x.cs ∧ x.hs.length ≤ N := by
 unfold TyN at h
 rw [Tryz.underlying70] at h
 obtain ⟨x0, r, rfl, h0, x1, r, rfl, h1, x2, r, rfl, h2, x3, r, rfl, h3, x4, r, rfl, h4, x5, r, rfl, h5, rfl⟩ := h
 obtain ⟨g, rfl⟩ := tnGang h0
 obtain ⟨a1, rfl⟩ := tnInt h1
 obtain ⟨a2, rfl⟩ := tnInt h2
 obtain ⟨a3, rfl⟩ := tnInt h3
 obtain ⟨a4, rfl⟩ := tnInt h4
 obtain ⟨l, rfl, hl⟩ := tnInts (n := n + 1) h5
 exact ⟨⟨g, a1, a2, a3, a4, l⟩, rfl, hl⟩
end
section
variable {N : Nat}
theorem tnNode {n : Nat} {cs : List AVal} (h : TyN Tryz.prog N (n + 3) 109 cs) : ∃ x : Nod, cs = x.cs := by
 unfold TyN at h
 rw [Tryz.underlying109] at h
 obtain ⟨x0, r, rfl, h0, x1, r, rfl, h1, x2, r, rfl, h2, x3, r, rfl, h3, x4, r, rfl, h4, rfl⟩ := h
 obtain ⟨a0, rfl⟩ := tnInt h0
 obtain ⟨a1, rfl⟩ := tnInt h1
 obtain ⟨u, rfl⟩ := tnVec h2
 obtain ⟨v, rfl⟩ := tnVec h3
 obtain ⟨w, rfl⟩ := tnVec h4
 exact ⟨⟨a0, a1, u, v, w⟩, rfl⟩
theorem tnHost {n : Nat} {cs : List AVal} (h : TyN Tryz.prog N (n + 3) 99 cs) : ∃ x : Hos, cs = x.cs := by
 unfold TyN at h
 rw [Tryz.underlying99] at h
 obtain ⟨x0, r, rfl, h0, x1, r, rfl, h1, x2, r, rfl, h2, x3, r, rfl, h3, rfl⟩ := h
 obtain ⟨a0, rfl⟩ := tnInt h0
 obtain ⟨a1, rfl⟩ := tnInt h1
 obtain ⟨a2, rfl⟩ := tnInt h2
 obtain ⟨v, rfl⟩ := tnVec h3
 exact ⟨⟨a0, a1, a2, v⟩, rfl⟩
theorem tnNodes {n : Nat} {cs : List AVal} (h : TyN Tryz.prog N (n + 4) 23 cs) : ∃ l : List Nod, cs = [.slice 11 (nav l) .no] ∧ l.length ≤ N := by
 unfold TyN at h
 rw [Tryz.underlying23] at h
 obtain ⟨xs, rfl, hN, hx⟩ := h
 have hc : Tryz.prog.cellsOf 109 = 11 := by kernel_rfl
 obtain ⟨l, rfl, hl⟩ := allsN (av := Nod.av) (Q := fun x => True) (P := fun x => x ∈ xs) (fun x hm => by
  obtain ⟨cs, rfl⟩ := (hx x hm).2.1 (by kernel_rfl)
  obtain ⟨p, hp⟩ := tnNode (n := n) (hx _ hm).1
  exact ⟨p, by unfold Nod.av; rw [← hp]; rfl, trivial⟩) xs fun x hm => hm
 exact ⟨l, by rw [hc], by simpa using hN⟩
theorem tnHosts {n : Nat} {cs : List AVal} (h : TyN Tryz.prog N (n + 4) 24 cs) : ∃ l : List Hos, cs = [.slice 6 (hav l) .no] ∧ l.length ≤ N := by
 unfold TyN at h
 rw [Tryz.underlying24] at h
 obtain ⟨xs, rfl, hN, hx⟩ := h
 have hc : Tryz.prog.cellsOf 99 = 6 := by kernel_rfl
 obtain ⟨l, rfl, hl⟩ := allsN (av := Hos.av) (Q := fun x => True) (P := fun x => x ∈ xs) (fun x hm => by
  obtain ⟨cs, rfl⟩ := (hx x hm).2.1 (by kernel_rfl)
  obtain ⟨p, hp⟩ := tnHost (n := n) (hx _ hm).1
  exact ⟨p, by unfold Hos.av; rw [← hp]; rfl, trivial⟩) xs fun x hm => hm
 exact ⟨l, by rw [hc], by simpa using hN⟩
theorem tnCon {n : Nat} {cs : List AVal} (h : TyN Tryz.prog 1048576 (n + 5) 26 cs) : ∃ c : Con, cs = c.cs ∧ c.sm := by
 unfold TyN at h
 rw [Tryz.underlying26] at h
 obtain ⟨x0, r, rfl, h0, x1, r, rfl, h1, x2, r, rfl, h2, x3, r, rfl, h3, rfl⟩ := h
 obtain ⟨ns, rfl, l0⟩ := tnNodes (n := n) h0
 obtain ⟨hs, rfl, l1⟩ := tnHosts (n := n) h1
 obtain ⟨a2, rfl⟩ := tnInt h2
 obtain ⟨a3, rfl⟩ := tnInt h3
 exact ⟨⟨ns, hs, a2, a3⟩, rfl, ⟨l0, l1⟩⟩
end
section
variable {H : Type} {enc : TypeId × Value → H} {W : World} {r : Reach} {base b0 : Nat} {spare : Nat → Bool} {held : Bool} {v : Value} {d : DataW H} {ps : List MemPlace}
end
theorem tnRunsM {N n : Nat} {cs : List AVal} (hN0 : N ≤ 1048576) (h : TyN Tryz.prog N (n + 5) 28 cs) : ∃ l : List Rn, cs = [.slice 14 (rav l) .no] ∧ Sm l ∧ l.length ≤ N := by
 unfold TyN at h
 rw [Tryz.underlying28] at h
 obtain ⟨xs, rfl, hN, hx⟩ := h
 have hc : Tryz.prog.cellsOf 70 = 14 := by kernel_rfl
 obtain ⟨l, rfl, hl⟩ := allsN (av := Rn.av) (Q := fun x => x.hs.length ≤ 1048576) (P := fun x => x ∈ xs) (fun x hm => by
  obtain ⟨cs, rfl⟩ := (hx x hm).2.1 (by kernel_rfl)
  obtain ⟨p, hp, hq⟩ := tnRun (n := n) (hx _ hm).1
  exact ⟨p, by unfold Rn.av; rw [← hp]; rfl, Nat.le_trans hq hN0⟩) xs fun x hm => hm
 exact ⟨l, by rw [hc], ⟨Nat.le_trans (by simpa using hN) hN0, hl⟩, by simpa using hN⟩
theorem tnPend {N n : Nat} {cs : List AVal} (h : TyN Tryz.prog N (n + 4) 67 cs) : ∃ x : Pn, cs = x.cs := by
 unfold TyN at h
 rw [Tryz.underlying67] at h
 obtain ⟨x0, r, rfl, h0, x1, r, rfl, h1, x2, r, rfl, h2, rfl⟩ := h
 obtain ⟨g, rfl⟩ := tnGang h0
 obtain ⟨a1, rfl⟩ := tnInt h1
 obtain ⟨a2, rfl⟩ := tnInt h2
 exact ⟨⟨g, a1, a2⟩, rfl⟩
theorem tnPends {N n : Nat} {cs : List AVal} (h : TyN Tryz.prog N (n + 5) 27 cs) : ∃ l : List Pn, cs = [.slice 11 (pnv l) .no] ∧ l.length ≤ N := by
 unfold TyN at h
 rw [Tryz.underlying27] at h
 obtain ⟨xs, rfl, hN, hx⟩ := h
 have hc : Tryz.prog.cellsOf 67 = 11 := by kernel_rfl
 obtain ⟨l, rfl, _⟩ := allsN (av := Pn.av) (Q := fun _ => True) (P := fun x => x ∈ xs) (fun x hm => by
  obtain ⟨cs, rfl⟩ := (hx x hm).2.1 (by kernel_rfl)
  obtain ⟨p, hp⟩ := tnPend (n := n) (hx _ hm).1
  exact ⟨p, by unfold Pn.av; rw [← hp]; rfl, trivial⟩) xs fun x hm => hm
 exact ⟨l, by rw [hc], by simpa using hN⟩
theorem tnFix {N n : Nat} {cs : List AVal} (h : TyN Tryz.prog N (n + 1) 90 cs) : ∃ x : Nat, cs = [.int .u64 (x : Int)] ∧ x < 18446744073709551616 := by
 unfold TyN at h
 rw [Tryz.underlying90] at h
 obtain ⟨m, rfl, h1, h2⟩ := h
 simp only [kmin, kmax] at h1 h2
 exact ⟨m.toNat, by rw [show ((m.toNat : Nat) : Int) = m from by omega], by omega⟩
theorem tnFixs {N n : Nat} {cs : List AVal} (h : TyN Tryz.prog N (n + 2) 29 cs) : ∃ l : List Nat, cs = [.slice 1 (fv l) .no] ∧ l.length ≤ N ∧ ∀ x ∈ l, x < 18446744073709551616 := by
 unfold TyN at h
 rw [Tryz.underlying29] at h
 obtain ⟨xs, rfl, hN, hx⟩ := h
 have hc : Tryz.prog.cellsOf 90 = 1 := by kernel_rfl
 have ha : isAggT Tryz.prog 90 = false := by kernel_rfl
 obtain ⟨l, rfl, hl⟩ := allsN (av := fun x : Nat => .int .u64 (x : Int)) (Q := fun x => x < 18446744073709551616) (P := fun x => x ∈ xs) (fun x hm => by
  obtain ⟨m, e, hm2⟩ := tnFix (n := n) (hx x hm).1
  have e2 := (hx x hm).2.2 ha
  rw [e] at e2
  exact ⟨m, (List.cons.inj e2).1.symm, hm2⟩) xs fun x hm => hm
 exact ⟨l, by rw [hc], by simpa using hN, hl⟩
structure StaSm (s : Sta) : Prop where
 c : s.c.sm
 pend : s.pend.length ≤ 1048576
 run : Sm s.run
 hist : s.hist.length ≤ 1048576
 fix : ∀ x ∈ s.hist, x < 18446744073709551616
theorem tnSta {n : Nat} {cs : List AVal} (h : TyN Tryz.prog 1048576 (n + 6) 31 cs) : ∃ s : Sta, cs = s.cs ∧ StaSm s := by
 unfold TyN at h
 rw [Tryz.underlying31] at h
 obtain ⟨x0, r, rfl, h0, x1, r, rfl, h1, x2, r, rfl, h2, x3, r, rfl, h3, x4, r, rfl, h4, x5, r, rfl, h5, rfl⟩ := h
 obtain ⟨c, rfl, hc⟩ := tnCon (n := n) h0
 obtain ⟨now, rfl⟩ := tnInt h1
 obtain ⟨k, rfl⟩ := tnInt h2
 obtain ⟨ws, rfl, hw⟩ := tnPends (n := n) h3
 obtain ⟨l, rfl, hl, _⟩ := tnRunsM (n := n) (Nat.le_refl _) h4
 obtain ⟨zs, rfl, hz, hf⟩ := tnFixs (n := n + 3) h5
 exact ⟨⟨c, now, k, ws, l, zs⟩, rfl, hc, hw, hl, hz, hf⟩
section
variable {H : Type} {enc : TypeId × Value → H} {W : World} {r : Reach} {base b0 : Nat} {spare : Nat → Bool} {held : Bool} {v : Value} {d : DataW H} {ps : List MemPlace}
theorem open_sta (hv : Value.okWide Tryz.prog W r b0 31 v) (h : DataW.Trod enc Tryz.prog W base spare held 31 v d ps) (hG : Rows.uptoBulk d ≤ 1048576) : ∃ s : Sta, Rep (Mw W) [] v s.av ∧ StaSm s := by
 obtain ⟨cs0, hr, ht⟩ := arg_aggN (n := 6) (bulkN H 1048576) (by kernel_rfl) (by kernel_rfl) hv h hG
 obtain ⟨s, rfl, hs⟩ := tnSta (n := 0) ht
 exact ⟨s, hr, hs⟩
end
end Go.Proofs.YtmalnhgopkfdaaaGreat
