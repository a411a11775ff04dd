/-
  When: profiles, reserves, backfilling, as walks; the laws.
-/
import Derived.Shelf.Sort.Plain
import Derived.Shelf.Slices.In.SortNone
import Derived.Test.YtlalcoklkafnnaaGreatRows
import Derived.Test.YtlalcoklkafnnaaGreatHA
namespace Go.Proofs.YtlalcoklkafnnaaGreat
open Go Go.AW Go.Proofs
set_option maxRecDepth 10000

theorem rn_b (x : Rn) (M : Imm) (ob : Hs) (vs : List Value) (h : RepL M ob vs [x.av]) : inR .i64 x.st ∧ inR .i64 x.g.run := by
  have hl : 0 < vs.length := by rw [h.1]; simp
  have := h.2 0 _ x.av (List.getElem?_eq_getElem hl) rfl
  exact ⟨rep_agg_at this 11 _ rfl, rep_agg_at this 6 _ rfl⟩
/-- when one ends -/
def endR (x : Rn) : Int := if 9223372036854775807 < x.st + x.g.run then 9223372036854775807 else if x.st + x.g.run < -9223372036854775808 then -9223372036854775808 else x.st + x.g.run
theorem end_any (x : Rn) (r : Int) (hr : endR x = r) : CallOK Tryz.prog 76 [x.av] [] (.ret (ii r)) [] := by
  refine CallOK.get _ (rn_b x) fun ⟨⟨a1, a2⟩, ⟨b1, b2⟩⟩ => ?_
  simp only [kmin, kmax] at a1 a2 b1 b2
  unfold endR at hr
  by_cases h1 : 9223372036854775807 < x.st + x.g.run
  · rw [if_pos h1] at hr
    subst hr
    have e := wrap_hi h1 (by omega)
    refine CallOK.to (E := E) (fn := Tryz.f76) (g := .pure _) (by rfl) (by rfl) (by rfl) (fun _ _ => by rfl) (by decide +kernel) (by rfl) (by rfl) (by rfl) fun _ => ?_
    refine goes hE 100 ?_
    conv => whnf
    refine .inr ?_
    repeat' first | (refine goN hE 100 rfl ?_; conv => whnf) | exact rfl | refine And.intro (fun _ => ?_) (fun h => absurd (show true = false from h) (by decide)) | refine And.intro (fun h => absurd (show false = true from h) (by decide)) (fun _ => ?_) | refine And.intro (fun h => ?_) (fun h => absurd (of_decide_eq_false h) (by omega)) | refine And.intro (fun h => absurd (of_decide_eq_true h) (by omega)) (fun h => ?_) | refine And.intro (fun h => ?_) (fun h => ?_) | refine Or.inl (And.intro (And.intro (by simp only [kmin]; omega) (by simp only [kmax]; omega)) ?_) | refine Exists.intro _ (And.intro rfl ?_) | refine And.intro (by decide) ?_ | refine And.intro (by omega) ?_ | fail
  · rw [if_neg h1] at hr
    by_cases h2 : x.st + x.g.run < -9223372036854775808
    · rw [if_pos h2] at hr
      subst hr
      have e := wrap_lo h2 (by omega)
      refine CallOK.to (E := E) (fn := Tryz.f76) (g := .pure _) (by rfl) (by rfl) (by rfl) (fun _ _ => by rfl) (by decide +kernel) (by rfl) (by rfl) (by rfl) fun _ => ?_
      refine goes hE 100 ?_
      conv => whnf
      refine .inr ?_
      repeat' first | (refine goN hE 100 rfl ?_; conv => whnf) | exact rfl | refine And.intro (fun _ => ?_) (fun h => absurd (show true = false from h) (by decide)) | refine And.intro (fun h => absurd (show false = true from h) (by decide)) (fun _ => ?_) | refine And.intro (fun h => ?_) (fun h => absurd (of_decide_eq_false h) (by omega)) | refine And.intro (fun h => absurd (of_decide_eq_true h) (by omega)) (fun h => ?_) | refine And.intro (fun h => ?_) (fun h => ?_) | refine Or.inl (And.intro (And.intro (by simp only [kmin]; omega) (by simp only [kmax]; omega)) ?_) | refine Exists.intro _ (And.intro rfl ?_) | refine And.intro (by decide) ?_ | refine And.intro (by omega) ?_ | fail
    · rw [if_neg h2] at hr
      refine CallOK.to (E := E) (fn := Tryz.f76) (g := .pure _) (by rfl) (by rfl) (by rfl) (fun _ _ => by rfl) (by decide +kernel) (by rfl) (by rfl) (by rfl) fun _ => ?_
      repeat' first | (refine goN hE 100 rfl ?_; conv => whnf) | exact rfl | refine And.intro (fun _ => ?_) (fun h => absurd (show true = false from h) (by decide)) | refine And.intro (fun h => absurd (show false = true from h) (by decide)) (fun _ => ?_) | refine And.intro (fun h => ?_) (fun h => absurd (of_decide_eq_false h) (by omega)) | refine And.intro (fun h => absurd (of_decide_eq_true h) (by omega)) (fun h => ?_) | refine And.intro (fun h => ?_) (fun h => ?_) | refine Or.inl (And.intro (And.intro (by simp only [kmin]; omega) (by simp only [kmax]; omega)) ?_) | refine Exists.intro _ (And.intro rfl ?_) | refine And.intro (by decide) ?_ | refine And.intro (by omega) ?_ | fail
      all_goals first | exact hr ▸ rfl | (exfalso; simp at *; omega)
theorem end_ok (x : Rn) : CallOK Tryz.prog 76 [x.av] [] (.ret (ii (endR x))) [] := end_any x _ rfl
end Go.Proofs.YtlalcoklkafnnaaGreat

namespace Go.Proofs.YtlalcoklkafnnaaGreat
open Go Go.AW Go.Proofs
set_option maxRecDepth 10000

theorem cloneI_ok (l : List Int) (h : l.length ≤ 1048576) : CallOK Tryz.prog 47 [.slice 1 (iv l) .no] [] (.ret (.slice 1 (iv l) .no)) [] := by
  have hlen : (iv l).length = l.length := by simp
  refine CallOK.to (E := E) (fn := Tryz.f47) (g := .pure _) (by rfl) (by rfl) (by rfl) (fun _ _ => by rfl) (by decide +kernel) (by rfl) (by rfl) (by rfl) fun _ => ?_
  refine goes hE 100 ?_
  conv => whnf
  intro b hb
  refine goes hE 100 ?_
  conv => whnf
  refine And.intro (fun h => ?_) (fun h => ?_)
  · have h : b = true := h
    have e : iv l = [] := hb h
    refine goes hE 100 ?_
    conv => whnf
    rw [e]
  · have h : b = false := h
    refine goes hE 100 ?_
    conv => whnf
    refine And.intro (And.intro (by simp only [maxLen]; simp; omega) (by simp; omega)) ?_
    refine goes hE 100 ?_
    conv => whnf
    rfl
theorem rown_ok (x : Rn) (h : x.hs.length ≤ 1048576) : CallOK Tryz.prog 107 [x.av] [] (.ret x.av) [] := by
  refine CallOK.to (E := E) (fn := Tryz.f107) (g := .pure _) (by rfl) (by rfl) (by rfl) (fun _ _ => by rfl) (by decide +kernel) (by rfl) (by rfl) (by rfl) fun _ => ?_
  repeat' first | (refine goN hE 100 rfl ?_; conv => whnf) | refine .pure _ [] (cloneI_ok x.hs h) ?_ | exact rfl | refine And.intro (fun _ => ?_) (fun h => absurd (show true = false from h) (by decide)) | refine And.intro (fun h => absurd (show false = true from h) (by decide)) (fun _ => ?_) | refine And.intro (fun h => ?_) (fun h => absurd (of_decide_eq_false h) (by omega)) | refine And.intro (fun h => absurd (of_decide_eq_true h) (by omega)) (fun h => ?_) | refine And.intro (fun h => ?_) (fun h => ?_) | refine Or.inl (And.intro (And.intro (by simp only [kmin]; omega) (by simp only [kmax]; omega)) ?_) | refine Exists.intro _ (And.intro rfl ?_) | refine And.intro (by decide) ?_ | refine And.intro (by omega) ?_ | fail

def atL (l : List Rn) (t : Int) : List Rn := l.filter fun x => decide (t < endR x)
theorem atL_pos {x : Rn} {r : List Rn} {t : Int} (h : decide (t < endR x) = true) : atL (x :: r) t = x :: atL r t := List.filter_cons_of_pos h
theorem atL_neg {x : Rn} {r : List Rn} {t : Int} (h : decide (t < endR x) = false) : atL (x :: r) t = atL r t := List.filter_cons_of_neg (by rw [h]; decide)
noncomputable abbrev fAt : Func := Tryz.f65
theorem at_loop (l : List Rn) (hs : Sm l) (t : Int) (R : List Rn) : ∀ (n i : Nat) (acc : List Rn), i + n = l.length → acc.length ≤ i → acc ++ atL (l.drop i) t = R →
    To (Eo [5] []) fAt (.pure (.ret (.slice 14 (rav R) .no))) (.head (stk fAt 0) [(1, .int .i64 t), (5, .slice 14 (rav acc) (.own 0 0)), (8, .slice 14 (rav l) .no), (9, .int .i64 ((rav l).length : Nat)), (10, .int .i64 i)] [.tail 0 14 43]) := by
  have hlen : (rav l).length = l.length := by simp
  have hl := hs.1
  intro n
  induction n with
  | zero =>
    intro i acc hi ha hR
    rw [List.drop_eq_nil_of_le (by omega)] at hR
    have hR : acc ++ [] = R := hR
    rw [List.append_nil] at hR
    subst hR
    refine goes (hEo [5] []) 100 ?_
    conv => whnf
    refine And.intro (fun h => absurd (of_decide_eq_true h) (by omega)) (fun h => ?_)
    repeat' first | (refine goN (hEo [5] []) 100 rfl ?_; conv => whnf) | exact rfl | refine And.intro (fun _ => ?_) (fun h => absurd (show true = false from h) (by decide)) | refine And.intro (fun h => absurd (show false = true from h) (by decide)) (fun _ => ?_) | refine And.intro (fun h => ?_) (fun h => absurd (of_decide_eq_false h) (by omega)) | refine And.intro (fun h => absurd (of_decide_eq_true h) (by omega)) (fun h => ?_) | refine And.intro (fun h => ?_) (fun h => ?_) | refine Or.inl (And.intro (And.intro (by simp only [kmin]; omega) (by simp only [kmax]; omega)) ?_) | refine Exists.intro _ (And.intro rfl ?_) | refine And.intro (by decide) ?_ | refine And.intro (by omega) ?_ | fail
  | succ n ih =>
    intro i acc hi ha hR
    have hlt : i < l.length := by omega
    rw [List.drop_eq_getElem_cons hlt] at hR
    have hb := hs.at hlt
    generalize hx : l[i] = x at hR hb
    have get : (rav l)[i]? = some x.av := (rav_get hlt).trans (by rw [hx])
    have hla : (rav acc).length = acc.length := by simp
    refine goes (hEo [5] []) 100 ?_
    conv => whnf
    refine And.intro (fun h => ?_) (fun h => absurd (of_decide_eq_false h) (by omega))
    refine goes (hEo [5] []) 100 ?_
    conv => whnf
    refine ⟨i, rfl, ?_⟩
    refine goes (hEo [5] []) 100 ?_
    conv => whnf
    refine ⟨_, get, ?_⟩
    refine goes (hEo [5] []) 100 ?_
    conv => whnf
    refine .pure _ [] (end_ok x) ?_
    refine goes (hEo [5] []) 100 ?_
    conv => whnf
    refine And.intro (fun h2 => ?_) (fun h2 => ?_)
    · have h2 : decide (t < endR x) = true := h2
      rw [atL_pos h2] at hR
      refine goes (hEo [5] []) 100 ?_
      conv => whnf
      refine .pure _ [] (rown_ok x hb) ?_
      refine goes (hEo [5] []) 100 ?_
      conv => whnf
      refine And.intro (And.intro (by simp only [maxLen]; simp; omega) (by simp; omega)) ?_
      refine goes (hEo [5] []) 100 ?_
      conv => whnf
      refine Or.inl (And.intro (And.intro (by simp only [kmin]; omega) (by simp only [kmax]; omega)) ?_)
      refine goes (hEo [5] []) 100 ?_
      conv => whnf
      refine To.part [1, 5, 8, 9, 10] [0] rfl rfl rfl ?_
      have next := ih (i + 1) (acc ++ [x]) (by omega) (by simp; omega) (by rw [List.append_assoc]; exact hR)
      have e : rav (acc ++ [x]) = rav acc ++ [x.av] := by simp
      rw [e] at next
      exact next
    · have h2' : decide (t < endR x) = false := h2
      rw [atL_neg h2'] at hR
      refine goes (hEo [5] []) 100 ?_
      conv => whnf
      refine Or.inl (And.intro (And.intro (by simp only [kmin]; omega) (by simp only [kmax]; omega)) ?_)
      refine goes (hEo [5] []) 100 ?_
      conv => whnf
      refine To.part [1, 5, 8, 9, 10] [0] rfl rfl rfl ?_
      exact ih (i + 1) acc (by omega) (by omega) hR
theorem at_ok (l : List Rn) (hs : Sm l) (t : Int) : CallOK Tryz.prog 65 [.slice 14 (rav l) .no, ii t] [] (.ret (.slice 14 (rav (atL l t)) .no)) [] := by
  refine CallOK.to (E := (Eo [5] [])) (fn := Tryz.f65) (g := .pure _) (by rfl) (by rfl) (by rfl) (fun _ _ => by rfl) (by decide +kernel) (by rfl) (by rfl) (by rfl) fun _ => ?_
  refine goes (hEo [5] []) 100 ?_
  conv => whnf
  refine To.part [1, 5, 8, 9, 10] [0] rfl rfl rfl ?_
  exact at_loop l hs t _ l.length 0 [] (by omega) (by simp) rfl
theorem atL_sm {l : List Rn} (h : Sm l) (t : Int) : Sm (atL l t) :=
  ⟨Nat.le_trans (List.length_filter_le _ _) h.1, fun x hx => h.2 x (List.mem_filter.1 hx).1⟩
end Go.Proofs.YtlalcoklkafnnaaGreat

namespace Go.Proofs.YtlalcoklkafnnaaGreat
open Go Go.AW Go.Proofs Go.Shelf
set_option maxRecDepth 100000

def sortRen : Go.Shelf.Ren := ⟨fun | 125 => 134 | 128 => 151 | 129 => 152 | 189 => 106 | 215 => 137 | 216 => 148 | 257 => 133 | 294 => 142 | 295 => 143 | 296 => 144 | 297 => 145 | 298 => 146 | 299 => 147 | 300 => 149 | 301 => 150 | 328 => 158 | 329 => 159 | 330 => 160 | 331 => 161 | 332 => 162 | 343 => 164 | n => n, fun | 0 => 0 | 3 => 3 | 4 => 4 | 5 => 5 | 9 => 9 | 28 => 37 | 46 => 145 | 51 => 160 | 53 => 162 | 131 => 49 | 182 => 152 | 183 => 153 | 218 => 168 | 222 => 172 | 228 => 175 | 229 => 176 | n => n, fun n => n⟩
theorem sortLays : Lays.n189 Tryz.prog sortRen where
  mixed := by kernel_rfl
  f125 := Tryz.func134.trans (congrArg some (by kernel_rfl))
  f128 := Tryz.func151.trans (congrArg some (by kernel_rfl))
  f129 := Tryz.func152.trans (congrArg some (by kernel_rfl))
  f189 := Tryz.func106.trans (congrArg some (by kernel_rfl))
  f215 := Tryz.func137.trans (congrArg some (by kernel_rfl))
  f216 := Tryz.func148.trans (congrArg some (by kernel_rfl))
  f257 := Tryz.func133.trans (congrArg some (by kernel_rfl))
  f294 := Tryz.func142.trans (congrArg some (by kernel_rfl))
  f295 := Tryz.func143.trans (congrArg some (by kernel_rfl))
  f296 := Tryz.func144.trans (congrArg some (by kernel_rfl))
  f297 := Tryz.func145.trans (congrArg some (by kernel_rfl))
  f298 := Tryz.func146.trans (congrArg some (by kernel_rfl))
  f299 := Tryz.func147.trans (congrArg some (by kernel_rfl))
  f300 := Tryz.func149.trans (congrArg some (by kernel_rfl))
  f301 := Tryz.func150.trans (congrArg some (by kernel_rfl))
  f328 := Tryz.func158.trans (congrArg some (by kernel_rfl))
  f329 := Tryz.func159.trans (congrArg some (by kernel_rfl))
  f330 := Tryz.func160.trans (congrArg some (by kernel_rfl))
  f331 := Tryz.func161.trans (congrArg some (by kernel_rfl))
  f332 := Tryz.func162.trans (congrArg some (by kernel_rfl))
  f343 := Tryz.func164.trans (congrArg some (by kernel_rfl))
  t0 := Tryz.underlying0
  a0 := Tryz.isAgg0
  z0 := Tryz.sizeOf0
  v0 := Tryz.zeroValue0
  t3 := Tryz.underlying3
  a3 := Tryz.isAgg3
  z3 := Tryz.sizeOf3
  v3 := Tryz.zeroValue3
  t4 := Tryz.underlying4
  a4 := Tryz.isAgg4
  z4 := Tryz.sizeOf4
  v4 := Tryz.zeroValue4
  t5 := Tryz.underlying5
  a5 := Tryz.isAgg5
  z5 := Tryz.sizeOf5
  v5 := Tryz.zeroValue5
  t9 := Tryz.underlying9
  a9 := Tryz.isAgg9
  z9 := Tryz.sizeOf9
  v9 := Tryz.zeroValue9
  t28 := Tryz.underlying37
  a28 := Tryz.isAgg37
  z28 := Tryz.sizeOf37
  v28 := Tryz.zeroValue37
  t46 := Tryz.underlying145
  a46 := Tryz.isAgg145
  z46 := Tryz.sizeOf145
  v46 := Tryz.zeroValue145
  t51 := Tryz.underlying160
  a51 := Tryz.isAgg160
  z51 := Tryz.sizeOf160
  v51 := Tryz.zeroValue160
  t53 := Tryz.underlying162
  a53 := Tryz.isAgg162
  z53 := Tryz.sizeOf162
  v53 := Tryz.zeroValue162
  t131 := Tryz.underlying49
  a131 := Tryz.isAgg49
  z131 := Tryz.sizeOf49
  v131 := Tryz.zeroValue49
  t182 := Tryz.underlying152
  a182 := Tryz.isAgg152
  z182 := Tryz.sizeOf152
  v182 := Tryz.zeroValue152
  t183 := Tryz.underlying153
  a183 := Tryz.isAgg153
  z183 := Tryz.sizeOf153
  v183 := Tryz.zeroValue153
  t218 := Tryz.underlying168
  a218 := Tryz.isAgg168
  z218 := Tryz.sizeOf168
  v218 := Tryz.zeroValue168
  t222 := Tryz.underlying172
  a222 := Tryz.isAgg172
  z222 := Tryz.sizeOf172
  v222 := Tryz.zeroValue172
  t228 := Tryz.underlying175
  a228 := Tryz.isAgg175
  z228 := Tryz.sizeOf175
  v228 := Tryz.zeroValue175
  t229 := Tryz.underlying176
  a229 := Tryz.isAgg176
  z229 := Tryz.sizeOf176
  v229 := Tryz.zeroValue176

def sortI (l : List Int) : List Int := l.mergeSort fun x y => decide (x ≤ y)
theorem sort_ok (l : List Int) (hl : l.length ≤ 1000000000) : CallOK Tryz.prog 106 [.row 0 0] [.row 0 1 3 (iv l)] (.ret (.tup [])) [.row 0 1 3 (iv (sortI l))] :=
  sort_contract (fun _ _ => by rfl) (fun p cap w => Any.slices_Sort_int_none sortLays p cap w) (fun blk off cap zs w hH hb hz => Any.slices_Sort_int sortLays blk off cap zs w hH hb hz) 3 l hl
end Go.Proofs.YtlalcoklkafnnaaGreat

namespace Go.Proofs.YtlalcoklkafnnaaGreat
open Go Go.AW Go.Proofs
set_option maxRecDepth 10000

def kyv (n : Int) : AVal := .agg [ii n]
abbrev kv (l : List Int) : List AVal := l.map kyv
theorem kv_get {l : List Int} {i : Nat} (h : i < l.length) : (kv l)[i]? = some (kyv l[i]) := by simp [kv, h]
abbrev keyF (n : Int) : AVal := .func (.func 105) [] [.ptr [ii n]]
theorem key_ok (x n : Int) : CallOK Tryz.prog 105 [kyv x, .ptr [ii n]] [] (.ret (.bool (x == n && true))) [] := by
  refine CallOK.to (E := E) (fn := Tryz.f105) (g := .pure _) (by rfl) (by rfl) (by rfl) (fun _ _ => by rfl) (by decide +kernel) (by rfl) (by rfl) (by rfl) fun _ => ?_
  repeat' first | (refine goN hE 100 rfl ?_; conv => whnf) | exact rfl | refine And.intro (fun _ => ?_) (fun h => absurd (show true = false from h) (by decide)) | refine And.intro (fun h => absurd (show false = true from h) (by decide)) (fun _ => ?_) | refine And.intro (fun h => ?_) (fun h => absurd (of_decide_eq_false h) (by omega)) | refine And.intro (fun h => absurd (of_decide_eq_true h) (by omega)) (fun h => ?_) | refine And.intro (fun h => ?_) (fun h => ?_) | refine Or.inl (And.intro (And.intro (by simp only [kmin]; omega) (by simp only [kmax]; omega)) ?_) | refine Exists.intro _ (And.intro rfl ?_) | refine And.intro (by decide) ?_ | refine And.intro (by omega) ?_ | fail
/-- where a key stands -/
def findK (n : Int) : List Int → Nat → Int
  | [], _ => -1
  | x :: r, i => if (x == n && true) then (i : Int) else findK n r (i + 1)
def has (l : List Int) (n : Int) : Bool := decide (0 ≤ findK n l 0)
noncomputable abbrev fIdx : Func := Tryz.f132
theorem idx_loop (l : List Int) (n : Int) (hl : ((kv l).length : Int) ≤ 9223372036854775807) (r : Int) : ∀ (m i : Nat), i + m = l.length → findK n (l.drop i) i = r →
    To E fIdx (.pure (.ret (ii r))) (.head (stk fIdx 0) [(0, .slice 1 (kv l) .no), (1, keyF n), (7, .int .i64 ((kv l).length : Nat)), (8, .int .i64 i)] []) := by
  have hlen : (kv l).length = l.length := by simp
  intro m
  induction m with
  | zero =>
    intro i hi hr
    rw [List.drop_eq_nil_of_le (by omega)] at hr
    subst hr
    refine goes hE 100 ?_
    conv => whnf
    refine And.intro (fun h => absurd (of_decide_eq_true h) (by omega)) (fun h => ?_)
    repeat' first | (refine goN hE 100 rfl ?_; conv => whnf) | exact rfl | refine And.intro (fun _ => ?_) (fun h => absurd (show true = false from h) (by decide)) | refine And.intro (fun h => absurd (show false = true from h) (by decide)) (fun _ => ?_) | refine And.intro (fun h => ?_) (fun h => absurd (of_decide_eq_false h) (by omega)) | refine And.intro (fun h => absurd (of_decide_eq_true h) (by omega)) (fun h => ?_) | refine And.intro (fun h => ?_) (fun h => ?_) | refine Or.inl (And.intro (And.intro (by simp only [kmin]; omega) (by simp only [kmax]; omega)) ?_) | refine Exists.intro _ (And.intro rfl ?_) | refine And.intro (by decide) ?_ | refine And.intro (by omega) ?_ | fail
  | succ m ih =>
    intro i hi hr
    have hlt : i < l.length := by omega
    rw [List.drop_eq_getElem_cons hlt] at hr
    generalize hx : l[i] = x at hr
    have get : (kv l)[i]? = some (kyv x) := (kv_get hlt).trans (by rw [hx])
    unfold findK at hr
    refine goes hE 100 ?_
    conv => whnf
    refine And.intro (fun h => ?_) (fun h => absurd (of_decide_eq_false h) (by omega))
    repeat' first | (refine goN hE 100 rfl ?_; conv => whnf) | refine Exists.intro _ (And.intro get ?_) | refine .pure _ [] (key_ok x n) ?_ | exact rfl | refine And.intro (fun _ => ?_) (fun h => absurd (show true = false from h) (by decide)) | refine And.intro (fun h => absurd (show false = true from h) (by decide)) (fun _ => ?_) | refine And.intro (fun h => ?_) (fun h => absurd (of_decide_eq_false h) (by omega)) | refine And.intro (fun h => absurd (of_decide_eq_true h) (by omega)) (fun h => ?_) | refine And.intro (fun h => ?_) (fun h => ?_) | refine Or.inl (And.intro (And.intro (by simp only [kmin]; omega) (by simp only [kmax]; omega)) ?_) | refine Exists.intro _ (And.intro rfl ?_) | refine And.intro (by decide) ?_ | refine And.intro (by omega) ?_ | fail
    · have h : (x == n && true) = true := h
      rw [if_pos h] at hr
      rw [← hr]
    · have h : (x == n && true) = false := h
      rw [if_neg (by rw [h]; decide)] at hr
      refine To.head [0, 1, 7, 8] ?_
      exact ih (i + 1) (by omega) hr
theorem idx_ok (l : List Int) (n : Int) : CallOK Tryz.prog 132 [.slice 1 (kv l) .no, keyF n] [] (.ret (ii (findK n l 0))) [] := by
  refine CallOK.to (E := E) (fn := Tryz.f132) (g := .pure _) (by rfl) (by rfl) (by rfl) (fun _ _ => by rfl) (by decide +kernel) (by rfl) (by rfl) (by rfl) fun ho => ?_
  have hl : ((kv l).length : Int) ≤ 9223372036854775807 := ho.1
  refine goes hE 100 ?_
  conv => whnf
  refine To.head [0, 1, 7, 8] ?_
  exact idx_loop l n hl _ l.length 0 (by omega) rfl
theorem has_ok (l : List Int) (n : Int) : CallOK Tryz.prog 104 [.slice 1 (kv l) .no, keyF n] [] (.ret (.bool (has l n))) [] := by
  refine CallOK.to (E := E) (fn := Tryz.f104) (g := .pure _) (by rfl) (by rfl) (by rfl) (fun _ _ => by rfl) (by decide +kernel) (by rfl) (by rfl) (by rfl) fun _ => ?_
  repeat' first | (refine goN hE 100 rfl ?_; conv => whnf) | refine .pure _ [] (idx_ok l n) ?_ | exact rfl | refine And.intro (fun _ => ?_) (fun h => absurd (show true = false from h) (by decide)) | refine And.intro (fun h => absurd (show false = true from h) (by decide)) (fun _ => ?_) | refine And.intro (fun h => ?_) (fun h => absurd (of_decide_eq_false h) (by omega)) | refine And.intro (fun h => absurd (of_decide_eq_true h) (by omega)) (fun h => ?_) | refine And.intro (fun h => ?_) (fun h => ?_) | refine Or.inl (And.intro (And.intro (by simp only [kmin]; omega) (by simp only [kmax]; omega)) ?_) | refine Exists.intro _ (And.intro rfl ?_) | refine And.intro (by decide) ?_ | refine And.intro (by omega) ?_ | fail

def keysL (now : Int) : List Rn → List Int → List Int
  | [], ks => ks
  | x :: r, ks => keysL now r (if decide (now < endR x) && !has ks (endR x) then ks ++ [endR x] else ks)
theorem keysL_len (now : Int) : ∀ (l : List Rn) (ks : List Int), (keysL now l ks).length ≤ ks.length + l.length
  | [], ks => by simp [keysL]
  | x :: r, ks => by
    unfold keysL
    have := keysL_len now r (if decide (now < endR x) && !has ks (endR x) then ks ++ [endR x] else ks)
    split at this
    · rename_i h; rw [if_pos h]; simp only [List.length_append, List.length_cons, List.length_nil] at this ⊢; omega
    · rename_i h; rw [if_neg h]; simp only [List.length_cons]; omega
noncomputable abbrev fEnds : Func := Tryz.f64
noncomputable abbrev En : Env := Ex [5] [9] []
theorem hEn : EnvOK En := hEx _ _ _
theorem ends2_loop (ks : List Int) (hk : ks.length ≤ 1048576) : ∀ (n i : Nat) (acc : List Int), i + n = ks.length → acc = ks.take i →
    To En fEnds (.pure (.ret (.slice 1 (iv (sortI ks)) .no))) (.head (stk fEnds 1) [(9, .row 0 0), (36, .slice 1 (kv ks) .no), (37, .int .i64 ((kv ks).length : Nat)), (38, .int .i64 i)] [.row 0 1 3 (iv acc)]) := by
  have hlen : (kv ks).length = ks.length := by simp
  intro n
  induction n with
  | zero =>
    intro i acc hi ha
    rw [List.take_of_length_le (by omega)] at ha
    subst ha
    refine goes hEn 100 ?_
    conv => whnf
    refine And.intro (fun h => absurd (of_decide_eq_true h) (by omega)) (fun h => ?_)
    refine goes hEn 100 ?_
    conv => whnf
    refine .eff [] [0] _ _ rfl (sort_ok acc (by omega)) ?_
    repeat' first | (refine goN hEn 100 rfl ?_; conv => whnf) | exact rfl | refine And.intro (fun _ => ?_) (fun h => absurd (show true = false from h) (by decide)) | refine And.intro (fun h => absurd (show false = true from h) (by decide)) (fun _ => ?_) | refine And.intro (fun h => ?_) (fun h => absurd (of_decide_eq_false h) (by omega)) | refine And.intro (fun h => absurd (of_decide_eq_true h) (by omega)) (fun h => ?_) | refine And.intro (fun h => ?_) (fun h => ?_) | refine Or.inl (And.intro (And.intro (by simp only [kmin]; omega) (by simp only [kmax]; omega)) ?_) | refine Exists.intro _ (And.intro rfl ?_) | refine And.intro (by decide) ?_ | refine And.intro (by omega) ?_ | fail
  | succ n ih =>
    intro i acc hi ha
    have hlt : i < ks.length := by omega
    generalize hx : ks[i] = x
    have get : (kv ks)[i]? = some (kyv x) := (kv_get hlt).trans (by rw [hx])
    have hal : acc.length = i := by rw [ha]; simp; omega
    have hia : (iv acc).length = acc.length := by simp
    refine goes hEn 100 ?_
    conv => whnf
    refine And.intro (fun h => ?_) (fun h => absurd (of_decide_eq_false h) (by omega))
    refine goes hEn 100 ?_
    conv => whnf
    refine ⟨i, rfl, ?_⟩
    refine goes hEn 100 ?_
    conv => whnf
    refine ⟨_, get, ?_⟩
    refine goes hEn 100 ?_
    conv => whnf
    refine ⟨⟨by decide, by decide⟩, ?_⟩
    refine goes hEn 100 ?_
    conv => whnf
    refine And.intro (And.intro (by simp only [maxLen]; simp; omega) (by simp; omega)) ?_
    refine goes hEn 100 ?_
    conv => whnf
    refine Or.inl (And.intro (And.intro (by simp only [kmin]; omega) (by simp only [kmax]; omega)) ?_)
    refine goes hEn 100 ?_
    conv => whnf
    refine To.part [9, 36, 37, 38] [0] rfl rfl rfl ?_
    have next := ih (i + 1) (acc ++ [x]) (by omega) (by rw [ha, ← hx]; exact List.take_append_getElem hlt)
    have e : iv (acc ++ [x]) = iv acc ++ [ii x] := by simp
    rw [e] at next
    exact next
theorem ends_loop (l : List Rn) (hs : Sm l) (now : Int) (R : List Int) : ∀ (n i : Nat) (ks : List Int), i + n = l.length → ks.length ≤ i → sortI (keysL now (l.drop i) ks) = R →
    To En fEnds (.pure (.ret (.slice 1 (iv R) .no))) (.head (stk fEnds 0) [(1, .int .i64 now), (5, .slice 1 (kv ks) (.own 0 0)), (12, .slice 14 (rav l) .no), (13, .int .i64 ((rav l).length : Nat)), (14, .int .i64 i)] [.tail 0 1 122]) := by
  have hlen : (rav l).length = l.length := by simp
  have hl := hs.1
  intro n
  induction n with
  | zero =>
    intro i ks hi hk hR
    rw [List.drop_eq_nil_of_le (by omega)] at hR
    have hR : sortI ks = R := hR
    subst hR
    refine goes hEn 100 ?_
    conv => whnf
    refine And.intro (fun h => absurd (of_decide_eq_true h) (by omega)) (fun h => ?_)
    refine goes hEn 100 ?_
    conv => whnf
    refine To.part [9, 36, 37, 38] [1] rfl rfl rfl ?_
    exact ends2_loop ks (by omega) ks.length 0 [] (by omega) (by simp)
  | succ n ih =>
    intro i ks hi hk hR
    have hlt : i < l.length := by omega
    rw [List.drop_eq_getElem_cons hlt] at hR
    generalize hx : l[i] = x at hR
    have get : (rav l)[i]? = some x.av := (rav_get hlt).trans (by rw [hx])
    have hkl : (kv ks).length = ks.length := by simp
    unfold keysL at hR
    refine goes hEn 100 ?_
    conv => whnf
    refine And.intro (fun h => ?_) (fun h => absurd (of_decide_eq_false h) (by omega))
    refine goes hEn 100 ?_
    conv => whnf
    refine ⟨i, rfl, ?_⟩
    refine goes hEn 100 ?_
    conv => whnf
    refine ⟨_, get, ?_⟩
    refine goes hEn 100 ?_
    conv => whnf
    refine .pure _ [] (end_ok x) ?_
    refine goes hEn 100 ?_
    conv => whnf
    refine ⟨⟨by decide, by decide⟩, ?_⟩
    refine goes hEn 100 ?_
    conv => whnf
    refine And.intro (fun h1 => ?_) (fun h1 => ?_)
    · have h1 : decide (now < endR x) = true := h1
      refine goes hEn 100 ?_
      conv => whnf
      refine .pure _ [] (has_ok ks (endR x)) ?_
      refine goes hEn 100 ?_
      conv => whnf
      refine And.intro (fun h2 => ?_) (fun h2 => ?_)
      · have h2 : (!has ks (endR x)) = true := h2
        rw [h1, h2, if_pos (by decide)] at hR
        refine goes hEn 100 ?_
        conv => whnf
        refine And.intro (And.intro (by simp only [maxLen]; simp; omega) (by simp; omega)) ?_
        refine goes hEn 100 ?_
        conv => whnf
        refine Or.inl (And.intro (And.intro (by simp only [kmin]; omega) (by simp only [kmax]; omega)) ?_)
        refine goes hEn 100 ?_
        conv => whnf
        refine To.part [1, 5, 12, 13, 14] [0] rfl rfl rfl ?_
        have next := ih (i + 1) (ks ++ [endR x]) (by omega) (by simp; omega) hR
        have e : kv (ks ++ [endR x]) = kv ks ++ [kyv (endR x)] := by simp
        rw [e] at next
        exact next
      · have h2 : (!has ks (endR x)) = false := h2
        rw [h1, h2, if_neg (by decide)] at hR
        refine goes hEn 100 ?_
        conv => whnf
        refine Or.inl (And.intro (And.intro (by simp only [kmin]; omega) (by simp only [kmax]; omega)) ?_)
        refine goes hEn 100 ?_
        conv => whnf
        refine To.part [1, 5, 12, 13, 14] [0] rfl rfl rfl ?_
        exact ih (i + 1) ks (by omega) (by omega) hR
    · have h1 : decide (now < endR x) = false := h1
      rw [h1, Bool.false_and, if_neg (by decide)] at hR
      repeat' first | (refine goN hEn 100 rfl ?_; conv => whnf) | exact rfl | refine And.intro (fun _ => ?_) (fun h => absurd (show true = false from h) (by decide)) | refine And.intro (fun h => absurd (show false = true from h) (by decide)) (fun _ => ?_) | refine And.intro (fun h => ?_) (fun h => absurd (of_decide_eq_false h) (by omega)) | refine And.intro (fun h => absurd (of_decide_eq_true h) (by omega)) (fun h => ?_) | refine And.intro (fun h => ?_) (fun h => ?_) | refine Or.inl (And.intro (And.intro (by simp only [kmin]; omega) (by simp only [kmax]; omega)) ?_) | refine Exists.intro _ (And.intro rfl ?_) | refine And.intro (by decide) ?_ | refine And.intro (by omega) ?_ | fail
      refine To.part [1, 5, 12, 13, 14] [0] rfl rfl rfl ?_
      exact ih (i + 1) ks (by omega) (by omega) hR
def endsL (l : List Rn) (now : Int) : List Int := sortI (keysL now l [])
theorem ends_ok (l : List Rn) (hs : Sm l) (now : Int) : CallOK Tryz.prog 64 [.slice 14 (rav l) .no, ii now] [] (.ret (.slice 1 (iv (endsL l now)) .no)) [] := by
  refine CallOK.to (E := En) (fn := Tryz.f64) (g := .pure _) (by rfl) (by rfl) (by rfl) (fun _ _ => by rfl) (by decide +kernel) (by rfl) (by rfl) (by rfl) fun _ => ?_
  refine goes hEn 100 ?_
  conv => whnf
  refine To.part [1, 5, 12, 13, 14] [0] rfl rfl rfl ?_
  exact ends_loop l hs now _ l.length 0 [] (by omega) (by simp) rfl
end Go.Proofs.YtlalcoklkafnnaaGreat

namespace Go.Proofs.YtlalcoklkafnnaaGreat
open Go Go.AW Go.Proofs
set_option maxRecDepth 10000

end Go.Proofs.YtlalcoklkafnnaaGreat

namespace Go.Proofs.YtlalcoklkafnnaaGreat
open Go Go.AW Go.Proofs
set_option maxRecDepth 10000

/-- the first of these times at which it fits -/
def stF (c : Con) (l : List Rn) (g : Gan) : List Int → Option Int
  | [] => none
  | t :: r => if (fitsL c (atL l t) g).isSome = true then some t else stF c l g r
def stA : Option Int → AVal
  | some t => .tup [ii t, .bool true]
  | none => .tup [ii 0, .bool false]
def startL (c : Con) (now : Int) (l : List Rn) (g : Gan) : Option Int := stF c l g (now :: endsL l now)
noncomputable abbrev fStart : Func := Tryz.f24
theorem start_loop (c : Con) (hc : c.sm) (now : Int) (l : List Rn) (hs : Sm l) (g : Gan) (hg : 0 ≤ g.pods ∧ g.pods ≤ 16) (es : List Int) (hes : es.length ≤ 1048576) (R : Option Int) : ∀ (m i : Nat), i + m = es.length + 1 → stF c l g ((now :: es).drop i) = R →
    To E fStart (.pure (.ret (stA R))) (.head (stk fStart 0) [(1, ii now), (2, .slice 14 (rav l) .no), (4, .ref 0 0), (7, .ref 1 0), (10, .slice 1 (iv es) .no), (21, .int .i64 (((iv es).length : Nat) + 1)), (22, ii i)] (fdObs c g)) := by
  have hlen : (iv es).length = es.length := by simp
  intro m
  induction m with
  | zero =>
    intro i hi hR
    rw [List.drop_eq_nil_of_le (by simp; omega)] at hR
    have hR : none = R := hR
    subst hR
    refine goes hE 100 ?_
    conv => whnf
    refine And.intro (fun h => absurd (of_decide_eq_true h) (by omega)) (fun h => ?_)
    repeat' first | (refine goN hE 100 rfl ?_; conv => whnf) | exact rfl | refine And.intro (fun _ => ?_) (fun h => absurd (show true = false from h) (by decide)) | refine And.intro (fun h => absurd (show false = true from h) (by decide)) (fun _ => ?_) | refine And.intro (fun h => ?_) (fun h => absurd (of_decide_eq_false h) (by omega)) | refine And.intro (fun h => absurd (of_decide_eq_true h) (by omega)) (fun h => ?_) | refine And.intro (fun h => ?_) (fun h => ?_) | refine Or.inl (And.intro (And.intro (by simp only [kmin]; omega) (by simp only [kmax]; omega)) ?_) | refine Exists.intro _ (And.intro rfl ?_) | refine And.intro (by decide) ?_ | refine And.intro (by omega) ?_ | fail
  | succ m ih =>
    intro i hi hR
    have hlt : i < (now :: es).length := by simp; omega
    rw [List.drop_eq_getElem_cons hlt] at hR
    have ih := ih (i + 1) (by omega)
    cases i with
    | zero =>
      have hR : stF c l g (now :: (now :: es).drop 1) = R := hR
      have hf := fits_ok c hc (atL l now) (atL_sm hs now) g hg
      have hat := at_ok l hs now
      unfold stF at hR
      generalize fitsL c (atL l now) g = Q at hR hf
      unfold fdA at hf
      generalize atL l now = al at hat hf
      refine goes hE 100 ?_
      conv => whnf
      refine And.intro (fun h => ?_) (fun h => absurd (of_decide_eq_false h) (by omega))
      refine goes hE 100 ?_
      conv => whnf
      refine And.intro (fun h => absurd (of_decide_eq_true h) (by omega)) (fun h => ?_)
      refine goes hE 100 ?_
      conv => whnf
      refine .pure _ [] hat ?_
      refine goes hE 100 ?_
      conv => whnf
      cases Q with
      | none =>
        rw [if_neg (by decide)] at hR
        have next := ih hR
        refine .pure _ [] hf ?_
        repeat' first | (refine goN hE 100 rfl ?_; conv => whnf) | exact rfl | refine And.intro (fun _ => ?_) (fun h => absurd (show true = false from h) (by decide)) | refine And.intro (fun h => absurd (show false = true from h) (by decide)) (fun _ => ?_) | refine And.intro (fun h => ?_) (fun h => absurd (of_decide_eq_false h) (by omega)) | refine And.intro (fun h => absurd (of_decide_eq_true h) (by omega)) (fun h => ?_) | refine And.intro (fun h => ?_) (fun h => ?_) | refine Or.inl (And.intro (And.intro (by simp only [kmin]; omega) (by simp only [kmax]; omega)) ?_) | refine Exists.intro _ (And.intro rfl ?_) | refine And.intro (by decide) ?_ | refine And.intro (by omega) ?_ | fail
        exact To.cut [1, 2, 4, 7, 10, 21, 22] 2 rfl rfl rfl rfl next
      | some x =>
        rw [if_pos (show (some x).isSome = true from rfl)] at hR
        subst hR
        refine .pure _ [] hf ?_
        repeat' first | (refine goN hE 100 rfl ?_; conv => whnf) | exact rfl | refine And.intro (fun _ => ?_) (fun h => absurd (show true = false from h) (by decide)) | refine And.intro (fun h => absurd (show false = true from h) (by decide)) (fun _ => ?_) | refine And.intro (fun h => ?_) (fun h => absurd (of_decide_eq_false h) (by omega)) | refine And.intro (fun h => absurd (of_decide_eq_true h) (by omega)) (fun h => ?_) | refine And.intro (fun h => ?_) (fun h => ?_) | refine Or.inl (And.intro (And.intro (by simp only [kmin]; omega) (by simp only [kmax]; omega)) ?_) | refine Exists.intro _ (And.intro rfl ?_) | refine And.intro (by decide) ?_ | refine And.intro (by omega) ?_ | fail
    | succ j =>
      have hj : j < es.length := by simp at hlt; omega
      have hR : stF c l g (es[j] :: (now :: es).drop (j + 1 + 1)) = R := hR
      have get : (iv es)[j]? = some (ii es[j]) := iv_get hj
      generalize es[j] = t at hR get
      have hf := fits_ok c hc (atL l t) (atL_sm hs t) g hg
      have hat := at_ok l hs t
      unfold stF at hR
      generalize fitsL c (atL l t) g = Q at hR hf
      unfold fdA at hf
      generalize atL l t = al at hat hf
      refine goes hE 100 ?_
      conv => whnf
      refine And.intro (fun h => ?_) (fun h => absurd (of_decide_eq_false h) (by omega))
      refine goes hE 100 ?_
      conv => whnf
      refine And.intro (fun h => ?_) (fun h => absurd (of_decide_eq_false h) (by omega))
      refine goes hE 100 ?_
      conv => whnf
      refine Or.inl (And.intro (And.intro (by simp only [kmin]; omega) (by simp only [kmax]; omega)) ?_)
      refine goes hE 100 ?_
      conv => whnf
      refine ⟨j, by omega, ?_⟩
      refine goes hE 100 ?_
      conv => whnf
      refine ⟨_, get, ?_⟩
      refine goes hE 100 ?_
      conv => whnf
      refine .pure _ [] hat ?_
      refine goes hE 100 ?_
      conv => whnf
      cases Q with
      | none =>
        rw [if_neg (by decide)] at hR
        have next := ih hR
        refine .pure _ [] hf ?_
        repeat' first | (refine goN hE 100 rfl ?_; conv => whnf) | exact rfl | refine And.intro (fun _ => ?_) (fun h => absurd (show true = false from h) (by decide)) | refine And.intro (fun h => absurd (show false = true from h) (by decide)) (fun _ => ?_) | refine And.intro (fun h => ?_) (fun h => absurd (of_decide_eq_false h) (by omega)) | refine And.intro (fun h => absurd (of_decide_eq_true h) (by omega)) (fun h => ?_) | refine And.intro (fun h => ?_) (fun h => ?_) | refine Or.inl (And.intro (And.intro (by simp only [kmin]; omega) (by simp only [kmax]; omega)) ?_) | refine Exists.intro _ (And.intro rfl ?_) | refine And.intro (by decide) ?_ | refine And.intro (by omega) ?_ | fail
        exact To.cut [1, 2, 4, 7, 10, 21, 22] 2 rfl rfl rfl rfl next
      | some x =>
        rw [if_pos (show (some x).isSome = true from rfl)] at hR
        subst hR
        refine .pure _ [] hf ?_
        repeat' first | (refine goN hE 100 rfl ?_; conv => whnf) | exact rfl | refine And.intro (fun _ => ?_) (fun h => absurd (show true = false from h) (by decide)) | refine And.intro (fun h => absurd (show false = true from h) (by decide)) (fun _ => ?_) | refine And.intro (fun h => ?_) (fun h => absurd (of_decide_eq_false h) (by omega)) | refine And.intro (fun h => absurd (of_decide_eq_true h) (by omega)) (fun h => ?_) | refine And.intro (fun h => ?_) (fun h => ?_) | refine Or.inl (And.intro (And.intro (by simp only [kmin]; omega) (by simp only [kmax]; omega)) ?_) | refine Exists.intro _ (And.intro rfl ?_) | refine And.intro (by decide) ?_ | refine And.intro (by omega) ?_ | fail
theorem start_ok (c : Con) (hc : c.sm) (now : Int) (l : List Rn) (hs : Sm l) (g : Gan) (hg : 0 ≤ g.pods ∧ g.pods ≤ 16) : CallOK Tryz.prog 24 [c.av, ii now, .slice 14 (rav l) .no, g.av] [] (.ret (stA (startL c now l g))) [] := by
  have hel : (endsL l now).length ≤ 1048576 := by
    unfold endsL sortI
    rw [List.length_mergeSort]
    have := keysL_len now l []
    have := hs.1
    simp at *
    omega
  have he := ends_ok l hs now
  unfold startL
  generalize endsL l now = es at hel he
  have hlen : (iv es).length = es.length := by simp
  refine CallOK.to (E := E) (fn := Tryz.f24) (g := .pure _) (by rfl) (by rfl) (by rfl) (fun _ _ => by rfl) (by decide +kernel) (by rfl) (by rfl) (by rfl) fun _ => ?_
  refine goes hE 100 ?_
  conv => whnf
  refine .pure _ [] he ?_
  refine goes hE 100 ?_
  conv => whnf
  refine Or.inl (And.intro (And.intro (by simp only [kmin]; omega) (by simp only [kmax]; omega)) ?_)
  refine goes hE 100 ?_
  conv => whnf
  exact To.cut [1, 2, 4, 7, 10, 21, 22] 2 rfl rfl rfl rfl (start_loop c hc now l hs g hg es hel _ (es.length + 1) 0 (by omega) rfl)
end Go.Proofs.YtlalcoklkafnnaaGreat

namespace Go.Proofs.YtlalcoklkafnnaaGreat
open Go Go.AW Go.Proofs
set_option maxRecDepth 10000

end Go.Proofs.YtlalcoklkafnnaaGreat

namespace Go.Proofs.YtlalcoklkafnnaaGreat
open Go Go.AW Go.Proofs
set_option maxRecDepth 10000

def c20 : Con := ⟨[⟨-1, 1, ⟨4, 4, 4⟩, V3.zero, V3.zero⟩], [⟨0, 0, 0, ⟨4, 4, 4⟩⟩], 1, 0⟩
theorem c20_sm : c20.sm := ⟨by decide, by decide⟩
end Go.Proofs.YtlalcoklkafnnaaGreat

namespace Go.Proofs.YtlalcoklkafnnaaGreat
open Go Go.AW Go.Proofs
open Go.ChangeShapes Go.WideShapes Go.ChangeAt Go.RowKit
set_option maxRecDepth 100000

section
variable {H : Type} {enc : TypeId × Value → H} {W : World} {r : Reach} {base b0 : Nat} {spare : Nat → Bool} {held : Bool} {v : Value} {d : DataW H} {ps : List MemPlace}
end
end Go.Proofs.YtlalcoklkafnnaaGreat

namespace Go.Proofs.YtlalcoklkafnnaaGreat
open Go Go.AW Go.Proofs
set_option maxRecDepth 10000

def g19 : Gan := ⟨1, 0, 2, ⟨2, 2, 2⟩, 3, 0, 0⟩
def r19 : Rn := ⟨g19, 0, 0, 5, 0, [0, 0]⟩
def o19 : AVal := .agg [.slice 11 (nav c20.ns) .full, .slice 6 (hav c20.hs) .full, ii c20.half, ii c20.age]
theorem one19_ok : CallOK Tryz.prog 60 [] [] (.ret o19) [] := by
  refine CallOK.to (E := E) (fn := Tryz.f60) (g := .pure _) (by rfl) (by rfl) (by rfl) (fun _ _ => by rfl) (by decide +kernel) (by rfl) (by rfl) (by rfl) fun _ => ?_
  repeat' first | (refine goN hE 100 rfl ?_; conv => whnf) | exact rfl | refine And.intro (fun _ => ?_) (fun h => absurd (show true = false from h) (by decide)) | refine And.intro (fun h => absurd (show false = true from h) (by decide)) (fun _ => ?_) | refine And.intro (fun h => ?_) (fun h => absurd (of_decide_eq_false h) (by omega)) | refine And.intro (fun h => absurd (of_decide_eq_true h) (by omega)) (fun h => ?_) | refine And.intro (fun h => ?_) (fun h => ?_) | refine Or.inl (And.intro (And.intro (by simp only [kmin]; omega) (by simp only [kmax]; omega)) ?_) | refine Exists.intro _ (And.intro rfl ?_) | refine And.intro (by decide) ?_ | refine And.intro (by omega) ?_ | fail
theorem r19_ends : endsL [r19] 6 = [8] := by
  unfold endsL sortI
  rw [show keysL 6 [r19] [] = [8] from by decide +kernel]
  simp
theorem c19_start : startL c20 6 [r19] g19 = some 8 := by
  unfold startL
  rw [r19_ends]
  decide +kernel
theorem c19_fits0 : fitsL c20 [] g19 = some (0, [0, 0]) := by decide +kernel
theorem c19_fits1 : fitsL c20 [r19] g19 = none := by decide +kernel
theorem c19_never : fitsL c20 [] { g19 with pods := 3 } = none := by decide +kernel
theorem awake19_ok : CallOK Tryz.prog 20 [] [] (.ret (.bool true)) [] := by
  have sm0 : Sm [] := ⟨by decide, fun x h => by simp at h⟩
  have sm1 : Sm [r19] := ⟨by decide, by decide⟩
  have hs := start_ok c20 c20_sm 6 [r19] sm1 g19 (by decide)
  rw [c19_start] at hs
  have f0 := fits_ok c20 c20_sm [] sm0 g19 (by decide)
  rw [c19_fits0] at f0
  have f1 := fits_ok c20 c20_sm [r19] sm1 g19 (by decide)
  rw [c19_fits1] at f1
  have n0 := never_ok c20 c20_sm g19 (by decide)
  rw [c19_fits0] at n0
  have n1 := never_ok c20 c20_sm { g19 with pods := 3 } (by decide)
  rw [c19_never] at n1
  refine CallOK.to (E := E) (fn := Tryz.f20) (g := .pure _) (by rfl) (by rfl) (by rfl) (fun _ _ => by rfl) (by decide +kernel) (by rfl) (by rfl) (by rfl) fun _ => ?_
  repeat' first | (refine goN hE 100 rfl ?_; conv => whnf) | refine .pure _ [] one19_ok ?_ | refine .pure _ [] (CallOK.strip hs) ?_ | refine .pure _ [] (CallOK.strip (CallOK.nil2 f0)) ?_ | refine .pure _ [] (CallOK.strip f1) ?_ | refine .pure _ [] (CallOK.strip n0) ?_ | refine .pure _ [] (CallOK.strip n1) ?_ | exact rfl | refine And.intro (fun _ => ?_) (fun h => absurd (show true = false from h) (by decide)) | refine And.intro (fun h => absurd (show false = true from h) (by decide)) (fun _ => ?_) | refine And.intro (fun h => ?_) (fun h => absurd (of_decide_eq_false h) (by omega)) | refine And.intro (fun h => absurd (of_decide_eq_true h) (by omega)) (fun h => ?_) | refine And.intro (fun h => ?_) (fun h => ?_) | refine Or.inl (And.intro (And.intro (by simp only [kmin]; omega) (by simp only [kmax]; omega)) ?_) | refine Exists.intro _ (And.intro rfl ?_) | refine And.intro (by decide) ?_ | refine And.intro (by omega) ?_ | fail
end Go.Proofs.YtlalcoklkafnnaaGreat

namespace Go.Proofs.YtlalcoklkafnnaaGreat
open Go Go.AW Go.Proofs
set_option maxRecDepth 10000

def validB (v : V3) : Bool := decide (0 ≤ v.a ∧ v.a ≤ 1048576) && decide (0 ≤ v.b ∧ v.b ≤ 1048576) && decide (0 ≤ v.c ∧ v.c ≤ 1048576)
theorem valid_any (v : V3) (b : Bool) (hb : validB v = b) : CallOK Tryz.prog 58 [v.av] [] (.ret (.bool b)) [] := by
  unfold validB at hb
  refine CallOK.to (E := E) (fn := Tryz.f58) (g := .pure _) (by rfl) (by rfl) (by rfl) (fun _ _ => by rfl) (by decide +kernel) (by rfl) (by rfl) (by rfl) fun _ => ?_
  repeat' first
    | (refine goes hE 100 ?_; conv => whnf)
    | exact hb
    | refine And.intro (fun _ => ?_) (fun h => absurd (show true = false from h) (by decide))
    | refine And.intro (fun h => absurd (show false = true from h) (by decide)) (fun _ => ?_)
    | refine And.intro (fun h => ?_) (fun h => ?_)
    | refine Or.inl (And.intro (And.intro (by simp only [kmin]; omega) (by simp only [kmax]; omega)) ?_)
    | refine Exists.intro _ (And.intro rfl ?_)
    | refine And.intro (by decide) ?_
  all_goals (refine congrArg (fun b => Res.ret (AVal.bool b)) ?_; rw [← hb]; simp only [decide_eq_true_eq, decide_eq_false_iff_not] at *)
  · rw [decide_eq_false (p := 0 ≤ v.a ∧ v.a ≤ 1048576) (by omega)]; rfl
  · rw [decide_eq_false (p := 0 ≤ v.a ∧ v.a ≤ 1048576) (by omega)]; rfl
  · rw [decide_eq_false (p := 0 ≤ v.b ∧ v.b ≤ 1048576) (by omega), Bool.and_false]; rfl
  · rw [decide_eq_false (p := 0 ≤ v.b ∧ v.b ≤ 1048576) (by omega), Bool.and_false]; rfl
  · rw [decide_eq_false (p := 0 ≤ v.c ∧ v.c ≤ 1048576) (by omega), Bool.and_false]
  · rw [decide_eq_false (p := 0 ≤ v.c ∧ v.c ≤ 1048576) (by omega), Bool.and_false]
  · rw [decide_eq_true (p := 0 ≤ v.a ∧ v.a ≤ 1048576) (by omega), decide_eq_true (p := 0 ≤ v.b ∧ v.b ≤ 1048576) (by omega), decide_eq_true (p := 0 ≤ v.c ∧ v.c ≤ 1048576) (by omega)]; rfl
theorem valid_ok (v : V3) : CallOK Tryz.prog 58 [v.av] [] (.ret (.bool (validB v))) [] := valid_any v _ rfl
/-- a leaf, as the reference tells it -/
def rlB (ns : List Nod) (t : Int) : Bool := if decide (t < 0) = true then false else if decide ((ns.length : Int) ≤ t) = true then false else ns.all fun x => !(x.p == t)
noncomputable abbrev fRLeaf : Func := Tryz.f59
theorem rleaf_loop (c : Con) (hc : c.sm) (t : Int) (r : Bool) : ∀ (m i : Nat), i + m = c.ns.length → ((c.ns.drop i).all fun x => !(x.p == t)) = r →
    To E fRLeaf (.pure (.ret (.bool r))) (.head (stk fRLeaf 0) [(1, ii t), (2, .ref 0 0), (5, ii i)] [.cells 25 c.cs]) := by
  have hlen : (nav c.ns).length = c.ns.length := by simp
  have h1 := hc.ns
  intro m
  induction m with
  | zero =>
    intro i hi hr
    rw [List.drop_eq_nil_of_le (by omega)] at hr
    have hr : true = r := hr
    subst hr
    refine goes hE 100 ?_
    conv => whnf
    refine And.intro (fun h => absurd (of_decide_eq_true h) (by omega)) (fun h => ?_)
    repeat' first | (refine goN hE 100 rfl ?_; conv => whnf) | exact rfl | refine And.intro (fun _ => ?_) (fun h => absurd (show true = false from h) (by decide)) | refine And.intro (fun h => absurd (show false = true from h) (by decide)) (fun _ => ?_) | refine And.intro (fun h => ?_) (fun h => absurd (of_decide_eq_false h) (by omega)) | refine And.intro (fun h => absurd (of_decide_eq_true h) (by omega)) (fun h => ?_) | refine And.intro (fun h => ?_) (fun h => ?_) | refine Or.inl (And.intro (And.intro (by simp only [kmin]; omega) (by simp only [kmax]; omega)) ?_) | refine Exists.intro _ (And.intro rfl ?_) | refine And.intro (by decide) ?_ | refine And.intro (by omega) ?_ | fail
  | succ m ih =>
    intro i hi hr
    have hlt : i < c.ns.length := by omega
    rw [List.drop_eq_getElem_cons hlt, List.all_cons] at hr
    have get := nav_get hlt
    generalize c.ns[i] = x at hr get
    have ih := ih (i + 1) (by omega)
    refine goes hE 100 ?_
    conv => whnf
    refine And.intro (fun h => ?_) (fun h => absurd (of_decide_eq_false h) (by omega))
    refine goes hE 100 ?_
    conv => whnf
    refine ⟨i, rfl, ?_⟩
    refine goes hE 100 ?_
    conv => whnf
    refine ⟨_, get, ?_⟩
    refine goes hE 100 ?_
    conv => whnf
    refine And.intro (fun h2 => ?_) (fun h2 => ?_)
    · have h2 : (x.p == t) = true := h2
      rw [h2] at hr
      have hr : false = r := hr
      subst hr
      repeat' first | (refine goN hE 100 rfl ?_; conv => whnf) | exact rfl | refine And.intro (fun _ => ?_) (fun h => absurd (show true = false from h) (by decide)) | refine And.intro (fun h => absurd (show false = true from h) (by decide)) (fun _ => ?_) | refine And.intro (fun h => ?_) (fun h => absurd (of_decide_eq_false h) (by omega)) | refine And.intro (fun h => absurd (of_decide_eq_true h) (by omega)) (fun h => ?_) | refine And.intro (fun h => ?_) (fun h => ?_) | refine Or.inl (And.intro (And.intro (by simp only [kmin]; omega) (by simp only [kmax]; omega)) ?_) | refine Exists.intro _ (And.intro rfl ?_) | refine And.intro (by decide) ?_ | refine And.intro (by omega) ?_ | fail
    · have h2 : (x.p == t) = false := h2
      rw [h2] at hr
      have hr : ((c.ns.drop (i + 1)).all fun x => !(x.p == t)) = r := hr
      repeat' first | (refine goN hE 100 rfl ?_; conv => whnf) | exact rfl | refine And.intro (fun _ => ?_) (fun h => absurd (show true = false from h) (by decide)) | refine And.intro (fun h => absurd (show false = true from h) (by decide)) (fun _ => ?_) | refine And.intro (fun h => ?_) (fun h => absurd (of_decide_eq_false h) (by omega)) | refine And.intro (fun h => absurd (of_decide_eq_true h) (by omega)) (fun h => ?_) | refine And.intro (fun h => ?_) (fun h => ?_) | refine Or.inl (And.intro (And.intro (by simp only [kmin]; omega) (by simp only [kmax]; omega)) ?_) | refine Exists.intro _ (And.intro rfl ?_) | refine And.intro (by decide) ?_ | refine And.intro (by omega) ?_ | fail
      exact To.cut [1, 2, 5] 1 rfl rfl rfl rfl (ih hr)
theorem rleaf_any (c : Con) (hc : c.sm) (t : Int) (r : Bool) (hr : rlB c.ns t = r) : CallOK Tryz.prog 59 [c.av, ii t] [] (.ret (.bool r)) [] := by
  have hlen : (nav c.ns).length = c.ns.length := by simp
  unfold rlB at hr
  by_cases p1 : t < 0
  · rw [if_pos (decide_eq_true p1)] at hr
    subst hr
    refine CallOK.to (E := E) (fn := Tryz.f59) (g := .pure _) (by rfl) (by rfl) (by rfl) (fun _ _ => by rfl) (by decide +kernel) (by rfl) (by rfl) (by rfl) fun _ => ?_
    repeat' first | (refine goN hE 100 rfl ?_; conv => whnf) | exact rfl | refine And.intro (fun _ => ?_) (fun h => absurd (show true = false from h) (by decide)) | refine And.intro (fun h => absurd (show false = true from h) (by decide)) (fun _ => ?_) | refine And.intro (fun h => ?_) (fun h => absurd (of_decide_eq_false h) (by omega)) | refine And.intro (fun h => absurd (of_decide_eq_true h) (by omega)) (fun h => ?_) | refine And.intro (fun h => ?_) (fun h => ?_) | refine Or.inl (And.intro (And.intro (by simp only [kmin]; omega) (by simp only [kmax]; omega)) ?_) | refine Exists.intro _ (And.intro rfl ?_) | refine And.intro (by decide) ?_ | refine And.intro (by omega) ?_ | fail
  rw [if_neg (by rw [decide_eq_false p1]; decide)] at hr
  by_cases p2 : (c.ns.length : Int) ≤ t
  · rw [if_pos (decide_eq_true p2)] at hr
    subst hr
    refine CallOK.to (E := E) (fn := Tryz.f59) (g := .pure _) (by rfl) (by rfl) (by rfl) (fun _ _ => by rfl) (by decide +kernel) (by rfl) (by rfl) (by rfl) fun _ => ?_
    repeat' first | (refine goN hE 100 rfl ?_; conv => whnf) | exact rfl | refine And.intro (fun _ => ?_) (fun h => absurd (show true = false from h) (by decide)) | refine And.intro (fun h => absurd (show false = true from h) (by decide)) (fun _ => ?_) | refine And.intro (fun h => ?_) (fun h => absurd (of_decide_eq_false h) (by omega)) | refine And.intro (fun h => absurd (of_decide_eq_true h) (by omega)) (fun h => ?_) | refine And.intro (fun h => ?_) (fun h => ?_) | refine Or.inl (And.intro (And.intro (by simp only [kmin]; omega) (by simp only [kmax]; omega)) ?_) | refine Exists.intro _ (And.intro rfl ?_) | refine And.intro (by decide) ?_ | refine And.intro (by omega) ?_ | fail
  rw [if_neg (by rw [decide_eq_false p2]; decide)] at hr
  refine CallOK.to (E := E) (fn := Tryz.f59) (g := .pure _) (by rfl) (by rfl) (by rfl) (fun _ _ => by rfl) (by decide +kernel) (by rfl) (by rfl) (by rfl) fun _ => ?_
  repeat' first | (refine goN hE 100 rfl ?_; conv => whnf) | exact rfl | refine And.intro (fun _ => ?_) (fun h => absurd (show true = false from h) (by decide)) | refine And.intro (fun h => absurd (show false = true from h) (by decide)) (fun _ => ?_) | refine And.intro (fun h => ?_) (fun h => absurd (of_decide_eq_false h) (by omega)) | refine And.intro (fun h => absurd (of_decide_eq_true h) (by omega)) (fun h => ?_) | refine And.intro (fun h => ?_) (fun h => ?_) | refine Or.inl (And.intro (And.intro (by simp only [kmin]; omega) (by simp only [kmax]; omega)) ?_) | refine Exists.intro _ (And.intro rfl ?_) | refine And.intro (by decide) ?_ | refine And.intro (by omega) ?_ | fail
  exact To.cut [1, 2, 5] 1 rfl rfl rfl rfl (rleaf_loop c hc t r c.ns.length 0 (by omega) hr)
theorem rleaf_ok (c : Con) (hc : c.sm) (t : Int) : CallOK Tryz.prog 59 [c.av, ii t] [] (.ret (.bool (rlB c.ns t))) [] := rleaf_any c hc t _ rfl
end Go.Proofs.YtlalcoklkafnnaaGreat

namespace Go.Proofs.YtlalcoklkafnnaaGreat
open Go Go.AW Go.Proofs
set_option maxRecDepth 10000

def gangB (ns : List Nod) (g : Gan) : Bool := decide (1 ≤ g.id ∧ g.id ≤ 1073741824 ∧ 1 ≤ g.pods ∧ g.pods ≤ 16) && (validB g.need && (decide (1 ≤ g.run ∧ g.run ≤ 1048576 ∧ 0 ≤ g.lev ∧ g.lev ≤ 3 ∧ 0 ≤ g.pref ∧ g.pref ≤ g.lev) && rlB ns g.ten))
def gangI (ns : List Nod) (g : Gan) : Int := if gangB ns g = true then 1 else 0
theorem gang_any (c : Con) (hc : c.sm) (g : Gan) (r : Int) (hr : gangI c.ns g = r) : CallOK Tryz.prog 19 [c.av, g.av] [] (.ret (ii r)) [] := by
  have hv := valid_ok g.need
  have hl := rleaf_ok c hc g.ten
  unfold gangI gangB at hr
  generalize validB g.need = bv at hr hv
  generalize rlB c.ns g.ten = bl at hr hl
  by_cases p1 : 1 ≤ g.id ∧ g.id ≤ 1073741824 ∧ 1 ≤ g.pods ∧ g.pods ≤ 16
  · rw [decide_eq_true p1] at hr
    cases bv with
    | false =>
      have hr : 0 = r := hr
      subst hr
      refine CallOK.to (E := E) (fn := Tryz.f19) (g := .pure _) (by rfl) (by rfl) (by rfl) (fun _ _ => by rfl) (by decide +kernel) (by rfl) (by rfl) (by rfl) fun _ => ?_
      repeat' first
        | (refine goes hE 100 ?_; conv => whnf)
        | exact rfl
        | refine .pure _ [] hv ?_
        | refine .pure _ [] hl ?_
        | refine And.intro (fun _ => ?_) (fun h => absurd (show true = false from h) (by decide))
        | refine And.intro (fun h => absurd (show false = true from h) (by decide)) (fun _ => ?_)
        | refine And.intro (fun h => absurd (of_decide_eq_true h) (by omega)) (fun h => ?_)
        | refine And.intro (fun h => ?_) (fun h => absurd (of_decide_eq_false h) (by omega))
        | refine And.intro (fun h => ?_) (fun h => ?_)
    | true =>
      by_cases p2 : 1 ≤ g.run ∧ g.run ≤ 1048576 ∧ 0 ≤ g.lev ∧ g.lev ≤ 3 ∧ 0 ≤ g.pref ∧ g.pref ≤ g.lev
      · rw [decide_eq_true p2] at hr
        cases bl with
        | false =>
          have hr : 0 = r := hr
          subst hr
          refine CallOK.to (E := E) (fn := Tryz.f19) (g := .pure _) (by rfl) (by rfl) (by rfl) (fun _ _ => by rfl) (by decide +kernel) (by rfl) (by rfl) (by rfl) fun _ => ?_
          repeat' first
            | (refine goes hE 100 ?_; conv => whnf)
            | exact rfl
            | refine .pure _ [] hv ?_
            | refine .pure _ [] hl ?_
            | refine And.intro (fun _ => ?_) (fun h => absurd (show true = false from h) (by decide))
            | refine And.intro (fun h => absurd (show false = true from h) (by decide)) (fun _ => ?_)
            | refine And.intro (fun h => absurd (of_decide_eq_true h) (by omega)) (fun h => ?_)
            | refine And.intro (fun h => ?_) (fun h => absurd (of_decide_eq_false h) (by omega))
            | refine And.intro (fun h => ?_) (fun h => ?_)
        | true =>
          have hr : 1 = r := hr
          subst hr
          refine CallOK.to (E := E) (fn := Tryz.f19) (g := .pure _) (by rfl) (by rfl) (by rfl) (fun _ _ => by rfl) (by decide +kernel) (by rfl) (by rfl) (by rfl) fun _ => ?_
          repeat' first
            | (refine goes hE 100 ?_; conv => whnf)
            | exact rfl
            | refine .pure _ [] hv ?_
            | refine .pure _ [] hl ?_
            | refine And.intro (fun _ => ?_) (fun h => absurd (show true = false from h) (by decide))
            | refine And.intro (fun h => absurd (show false = true from h) (by decide)) (fun _ => ?_)
            | refine And.intro (fun h => absurd (of_decide_eq_true h) (by omega)) (fun h => ?_)
            | refine And.intro (fun h => ?_) (fun h => absurd (of_decide_eq_false h) (by omega))
            | refine And.intro (fun h => ?_) (fun h => ?_)
      · rw [decide_eq_false p2] at hr
        have hr : 0 = r := hr
        subst hr
        refine CallOK.to (E := E) (fn := Tryz.f19) (g := .pure _) (by rfl) (by rfl) (by rfl) (fun _ _ => by rfl) (by decide +kernel) (by rfl) (by rfl) (by rfl) fun _ => ?_
        repeat' first
          | (refine goes hE 100 ?_; conv => whnf)
          | exact rfl
          | refine .pure _ [] hv ?_
          | refine .pure _ [] hl ?_
          | refine And.intro (fun _ => ?_) (fun h => absurd (show true = false from h) (by decide))
          | refine And.intro (fun h => absurd (show false = true from h) (by decide)) (fun _ => ?_)
          | refine And.intro (fun h => absurd (of_decide_eq_true h) (by omega)) (fun h => ?_)
          | refine And.intro (fun h => ?_) (fun h => absurd (of_decide_eq_false h) (by omega))
          | refine And.intro (fun h => ?_) (fun h => ?_)
        all_goals (exfalso; simp only [decide_eq_true_eq] at *; omega)
  · rw [decide_eq_false p1] at hr
    have hr : 0 = r := hr
    subst hr
    refine CallOK.to (E := E) (fn := Tryz.f19) (g := .pure _) (by rfl) (by rfl) (by rfl) (fun _ _ => by rfl) (by decide +kernel) (by rfl) (by rfl) (by rfl) fun _ => ?_
    repeat' first
      | (refine goes hE 100 ?_; conv => whnf)
      | exact rfl
      | refine .pure _ [] hv ?_
      | refine .pure _ [] hl ?_
      | refine And.intro (fun _ => ?_) (fun h => absurd (show true = false from h) (by decide))
      | refine And.intro (fun h => absurd (show false = true from h) (by decide)) (fun _ => ?_)
      | refine And.intro (fun h => absurd (of_decide_eq_true h) (by omega)) (fun h => ?_)
      | refine And.intro (fun h => ?_) (fun h => absurd (of_decide_eq_false h) (by omega))
      | refine And.intro (fun h => ?_) (fun h => ?_)
    all_goals (exfalso; simp only [decide_eq_true_eq] at *; omega)
theorem gang_ok (c : Con) (hc : c.sm) (g : Gan) : CallOK Tryz.prog 19 [c.av, g.av] [] (.ret (ii (gangI c.ns g))) [] := gang_any c hc g _ rfl
end Go.Proofs.YtlalcoklkafnnaaGreat

namespace Go.Proofs.YtlalcoklkafnnaaGreat
open Go Go.AW Go.Proofs
set_option maxRecDepth 10000

theorem rfits_any (a b : V3) (r : Bool) (hr : vfits a b = r) : CallOK Tryz.prog 27 [a.av, b.av] [] (.ret (.bool r)) [] := by
  unfold vfits at hr
  refine CallOK.to (E := E) (fn := Tryz.f27) (g := .pure _) (by rfl) (by rfl) (by rfl) (fun _ _ => by rfl) (by decide +kernel) (by rfl) (by rfl) (by rfl) fun _ => ?_
  repeat' first
    | (refine goes hE 100 ?_; conv => whnf)
    | exact hr
    | refine And.intro (fun _ => ?_) (fun h => absurd (show true = false from h) (by decide))
    | refine And.intro (fun h => absurd (show false = true from h) (by decide)) (fun _ => ?_)
    | refine And.intro (fun h => ?_) (fun h => ?_)
    | refine Or.inl (And.intro (And.intro (by simp only [kmin]; omega) (by simp only [kmax]; omega)) ?_)
    | refine Exists.intro _ (And.intro rfl ?_)
    | refine And.intro (by decide) ?_
  all_goals (rw [← hr]; simp_all)
theorem rfits_ok (a b : V3) : CallOK Tryz.prog 27 [a.av, b.av] [] (.ret (.bool (vfits a b))) [] := rfits_any a b _ rfl
def zB (v : V3) : Bool := v.a == 0 && (v.b == 0 && (v.c == 0 && true))
def badN (i : Nat) (x : Nod) : Prop := (i = 0 ∧ x.p ≠ -1) ∨ (0 < i ∧ (x.p < 0 ∨ (i : Int) ≤ x.p)) ∨ x.w < 1 ∨ 1000 < x.w
instance (i : Nat) (x : Nod) : Decidable (badN i x) := by unfold badN; infer_instance
def nodeX (bl : Bool) (i : Nat) (x : Nod) : Bool := if badN i x then false else if bl = true then validB x.n && (validB x.b && (validB x.l && vfits x.l x.n)) else zB x.n && (zB x.b && zB x.l)
theorem node_bad (c : Con) (i : Nat) (x : Nod) (hx : (nav c.ns)[i]? = some x.av) (hb : badN i x) : CallOK Tryz.prog 98 [c.av, ii i] [] (.ret (.bool false)) [] := by
  unfold badN at hb
  refine CallOK.to (E := E) (fn := Tryz.f98) (g := .pure _) (by rfl) (by rfl) (by rfl) (fun _ _ => by rfl) (by decide +kernel) (by rfl) (by rfl) (by rfl) fun _ => ?_
  repeat' first
    | (refine goes hE 100 ?_; conv => whnf)
    | exact rfl
    | refine Exists.intro i (And.intro rfl ?_)
    | refine Exists.intro _ (And.intro hx ?_)
    | refine And.intro (fun _ => ?_) (fun h => absurd (show true = false from h) (by decide))
    | refine And.intro (fun h => absurd (show false = true from h) (by decide)) (fun _ => ?_)
    | refine And.intro (fun h => absurd (of_decide_eq_true h) (by omega)) (fun h => ?_)
    | refine And.intro (fun h => ?_) (fun h => absurd (of_decide_eq_false h) (by omega))
    | refine And.intro (fun h => ?_) (fun h => ?_)
  all_goals (exfalso; simp at *; omega)
theorem node_leaf (c : Con) (i : Nat) (x : Nod) (hx : (nav c.ns)[i]? = some x.av) (hb : ¬ badN i x) (b1 b2 b3 b4 : Bool) (hl : CallOK Tryz.prog 59 [c.av, ii i] [] (.ret (.bool true)) [])
    (v1 : CallOK Tryz.prog 58 [x.n.av] [] (.ret (.bool b1)) []) (v2 : CallOK Tryz.prog 58 [x.b.av] [] (.ret (.bool b2)) []) (v3 : CallOK Tryz.prog 58 [x.l.av] [] (.ret (.bool b3)) [])
    (v4 : CallOK Tryz.prog 27 [x.l.av, x.n.av] [] (.ret (.bool b4)) []) : CallOK Tryz.prog 98 [c.av, ii i] [] (.ret (.bool (b1 && (b2 && (b3 && b4))))) [] := by
  unfold badN at hb
  refine CallOK.to (E := E) (fn := Tryz.f98) (g := .pure _) (by rfl) (by rfl) (by rfl) (fun _ _ => by rfl) (by decide +kernel) (by rfl) (by rfl) (by rfl) fun _ => ?_
  repeat' first
    | (refine goes hE 100 ?_; conv => whnf)
    | exact rfl
    | refine .pure _ [] hl ?_
    | refine .pure _ [] v1 ?_
    | refine .pure _ [] v2 ?_
    | refine .pure _ [] v3 ?_
    | refine .pure _ [] v4 ?_
    | refine Exists.intro i (And.intro rfl ?_)
    | refine Exists.intro _ (And.intro hx ?_)
    | refine And.intro (fun _ => ?_) (fun h => absurd (show true = false from h) (by decide))
    | refine And.intro (fun h => absurd (show false = true from h) (by decide)) (fun _ => ?_)
    | refine And.intro (fun h => absurd (of_decide_eq_true h) (by omega)) (fun h => ?_)
    | refine And.intro (fun h => ?_) (fun h => absurd (of_decide_eq_false h) (by omega))
    | refine And.intro (fun h => ?_) (fun h => ?_)
  all_goals first
    | (simp only [*, Bool.true_and, Bool.false_and, Bool.and_false]; done)
    | (exfalso; simp at *; omega)
theorem node_inner (c : Con) (i : Nat) (x : Nod) (hx : (nav c.ns)[i]? = some x.av) (hb : ¬ badN i x) (hl : CallOK Tryz.prog 59 [c.av, ii i] [] (.ret (.bool false)) []) : CallOK Tryz.prog 98 [c.av, ii i] [] (.ret (.bool (zB x.n && (zB x.b && zB x.l)))) [] := by
  unfold badN at hb
  unfold zB
  refine CallOK.to (E := E) (fn := Tryz.f98) (g := .pure _) (by rfl) (by rfl) (by rfl) (fun _ _ => by rfl) (by decide +kernel) (by rfl) (by rfl) (by rfl) fun _ => ?_
  repeat' first
    | (refine goes hE 100 ?_; conv => whnf)
    | exact rfl
    | refine .pure _ [] hl ?_
    | refine Exists.intro i (And.intro rfl ?_)
    | refine Exists.intro _ (And.intro hx ?_)
    | refine And.intro (fun _ => ?_) (fun h => absurd (show true = false from h) (by decide))
    | refine And.intro (fun h => absurd (show false = true from h) (by decide)) (fun _ => ?_)
    | refine And.intro (fun h => absurd (of_decide_eq_true h) (by omega)) (fun h => ?_)
    | refine And.intro (fun h => ?_) (fun h => absurd (of_decide_eq_false h) (by omega))
    | refine And.intro (fun h => ?_) (fun h => ?_)
  all_goals first
    | (simp only [*, Bool.true_and, Bool.false_and, Bool.and_false]; done)
    | (exfalso; simp at *; omega)
theorem node_ok (c : Con) (hc : c.sm) (i : Nat) (x : Nod) (hx : (nav c.ns)[i]? = some x.av) : CallOK Tryz.prog 98 [c.av, ii i] [] (.ret (.bool (nodeX (rlB c.ns i) i x))) [] := by
  have hl := rleaf_ok c hc i
  unfold nodeX
  by_cases hb : badN i x
  · rw [if_pos hb]; exact node_bad c i x hx hb
  · rw [if_neg hb]
    cases hq : rlB c.ns i with
    | true =>
      rw [hq] at hl
      rw [if_pos rfl]
      exact node_leaf c i x hx hb _ _ _ _ hl (valid_ok x.n) (valid_ok x.b) (valid_ok x.l) (rfits_ok x.l x.n)
    | false =>
      rw [hq] at hl
      rw [if_neg (by decide)]
      exact node_inner c i x hx hb hl
end Go.Proofs.YtlalcoklkafnnaaGreat

namespace Go.Proofs.YtlalcoklkafnnaaGreat
open Go Go.AW Go.Proofs
set_option maxRecDepth 10000

def badH (x : Hos) : Prop := x.f < 0 ∨ 100 < x.f ∨ x.b < 0 ∨ 100 < x.b ∨ x.r < 0 ∨ 100 < x.r
instance (x : Hos) : Decidable (badH x) := by unfold badH; infer_instance
def hostX (x : Hos) : Bool := if badH x then false else validB x.c
def nodesX (ns : List Nod) : Nat → List Nod → Bool
  | _, [] => true
  | i, x :: r => if nodeX (rlB ns i) i x = true then nodesX ns (i + 1) r else false
def sizB (c : Con) : Prop := (1 ≤ c.ns.length ∧ c.ns.length ≤ 12) ∧ (1 ≤ c.hs.length ∧ c.hs.length ≤ 24) ∧ (1 ≤ c.half ∧ c.half ≤ 1048576) ∧ 0 ≤ c.age ∧ c.age ≤ 1048576
instance (c : Con) : Decidable (sizB c) := by unfold sizB; infer_instance
def checkI (c : Con) : Int := if sizB c then (if nodesX c.ns 0 c.ns = true then (if c.hs.all hostX = true then 0 else 2) else 2) else 2
noncomputable abbrev fCheck : Func := Tryz.f57
theorem check_hosts (c : Con) (hc : c.sm) (r : Int) : ∀ (m i : Nat), i + m = c.hs.length → (if (c.hs.drop i).all hostX = true then (0 : Int) else 2) = r →
    To E fCheck (.pure (.ret (ii r))) (.head (stk fCheck 1) [(1, .ref 0 0), (4, ii i)] [.cells 25 c.cs]) := by
  have hlen : (hav c.hs).length = c.hs.length := by simp
  have h1 := hc.hs
  intro m
  induction m with
  | zero =>
    intro i hi hr
    rw [List.drop_eq_nil_of_le (by omega)] at hr
    have hr : 0 = r := hr
    subst hr
    refine goes hE 100 ?_
    conv => whnf
    refine And.intro (fun h => absurd (of_decide_eq_true h) (by omega)) (fun h => ?_)
    repeat' first | (refine goN hE 100 rfl ?_; conv => whnf) | exact rfl | refine And.intro (fun _ => ?_) (fun h => absurd (show true = false from h) (by decide)) | refine And.intro (fun h => absurd (show false = true from h) (by decide)) (fun _ => ?_) | refine And.intro (fun h => ?_) (fun h => absurd (of_decide_eq_false h) (by omega)) | refine And.intro (fun h => absurd (of_decide_eq_true h) (by omega)) (fun h => ?_) | refine And.intro (fun h => ?_) (fun h => ?_) | refine Or.inl (And.intro (And.intro (by simp only [kmin]; omega) (by simp only [kmax]; omega)) ?_) | refine Exists.intro _ (And.intro rfl ?_) | refine And.intro (by decide) ?_ | refine And.intro (by omega) ?_ | fail
  | succ m ih =>
    intro i hi hr
    have hlt : i < c.hs.length := by omega
    rw [List.drop_eq_getElem_cons hlt, List.all_cons] at hr
    have get := hav_get hlt
    generalize c.hs[i] = x at hr get
    have ih := ih (i + 1) (by omega)
    have hv := valid_ok x.c
    unfold hostX at hr
    generalize validB x.c = b at hv hr
    by_cases hb : badH x
    · rw [if_pos hb] at hr
      have hr : 2 = r := hr
      subst hr
      unfold badH at hb
      refine goes hE 100 ?_
      conv => whnf
      refine And.intro (fun h => ?_) (fun h => absurd (of_decide_eq_false h) (by omega))
      repeat' first
        | (refine goN hE 100 rfl ?_; conv => whnf)
        | exact rfl
        | refine Exists.intro i (And.intro rfl ?_)
        | refine Exists.intro _ (And.intro get ?_)
        | refine And.intro (fun _ => ?_) (fun h => absurd (show true = false from h) (by decide))
        | refine And.intro (fun h => absurd (show false = true from h) (by decide)) (fun _ => ?_)
        | refine And.intro (fun h => absurd (of_decide_eq_true h) (by omega)) (fun h => ?_)
        | refine And.intro (fun h => ?_) (fun h => absurd (of_decide_eq_false h) (by omega))
        | refine And.intro (fun h => ?_) (fun h => ?_)
      all_goals (exfalso; simp at *; omega)
    · rw [if_neg hb] at hr
      unfold badH at hb
      cases b with
      | false =>
        have hr : 2 = r := hr
        subst hr
        refine goes hE 100 ?_
        conv => whnf
        refine And.intro (fun h => ?_) (fun h => absurd (of_decide_eq_false h) (by omega))
        repeat' first | (refine goN hE 100 rfl ?_; conv => whnf) | refine Exists.intro i (And.intro rfl ?_) | refine Exists.intro _ (And.intro get ?_) | refine .pure _ [] hv ?_ | exact rfl | refine And.intro (fun _ => ?_) (fun h => absurd (show true = false from h) (by decide)) | refine And.intro (fun h => absurd (show false = true from h) (by decide)) (fun _ => ?_) | refine And.intro (fun h => ?_) (fun h => absurd (of_decide_eq_false h) (by omega)) | refine And.intro (fun h => absurd (of_decide_eq_true h) (by omega)) (fun h => ?_) | refine And.intro (fun h => ?_) (fun h => ?_) | refine Or.inl (And.intro (And.intro (by simp only [kmin]; omega) (by simp only [kmax]; omega)) ?_) | refine Exists.intro _ (And.intro rfl ?_) | refine And.intro (by decide) ?_ | refine And.intro (by omega) ?_ | fail
      | true =>
        have ih := ih hr
        refine goes hE 100 ?_
        conv => whnf
        refine And.intro (fun h => ?_) (fun h => absurd (of_decide_eq_false h) (by omega))
        repeat' first | (refine goN hE 100 rfl ?_; conv => whnf) | refine Exists.intro i (And.intro rfl ?_) | refine Exists.intro _ (And.intro get ?_) | refine .pure _ [] hv ?_ | exact rfl | refine And.intro (fun _ => ?_) (fun h => absurd (show true = false from h) (by decide)) | refine And.intro (fun h => absurd (show false = true from h) (by decide)) (fun _ => ?_) | refine And.intro (fun h => ?_) (fun h => absurd (of_decide_eq_false h) (by omega)) | refine And.intro (fun h => absurd (of_decide_eq_true h) (by omega)) (fun h => ?_) | refine And.intro (fun h => ?_) (fun h => ?_) | refine Or.inl (And.intro (And.intro (by simp only [kmin]; omega) (by simp only [kmax]; omega)) ?_) | refine Exists.intro _ (And.intro rfl ?_) | refine And.intro (by decide) ?_ | refine And.intro (by omega) ?_ | fail
        exact To.cut [1, 4] 1 rfl rfl rfl rfl ih
theorem check_nodes (c : Con) (hc : c.sm) (r : Int) : ∀ (m i : Nat), i + m = c.ns.length → (if nodesX c.ns i (c.ns.drop i) = true then (if c.hs.all hostX = true then (0 : Int) else 2) else 2) = r →
    To E fCheck (.pure (.ret (ii r))) (.head (stk fCheck 0) [(1, .ref 0 0), (3, ii i)] [.cells 25 c.cs]) := by
  have hlen : (nav c.ns).length = c.ns.length := by simp
  have h1 := hc.ns
  intro m
  induction m with
  | zero =>
    intro i hi hr
    rw [List.drop_eq_nil_of_le (by omega)] at hr
    have hr : (if c.hs.all hostX = true then (0 : Int) else 2) = r := hr
    refine goes hE 100 ?_
    conv => whnf
    refine And.intro (fun h => absurd (of_decide_eq_true h) (by omega)) (fun h => ?_)
    repeat' first | (refine goN hE 100 rfl ?_; conv => whnf) | exact rfl | refine And.intro (fun _ => ?_) (fun h => absurd (show true = false from h) (by decide)) | refine And.intro (fun h => absurd (show false = true from h) (by decide)) (fun _ => ?_) | refine And.intro (fun h => ?_) (fun h => absurd (of_decide_eq_false h) (by omega)) | refine And.intro (fun h => absurd (of_decide_eq_true h) (by omega)) (fun h => ?_) | refine And.intro (fun h => ?_) (fun h => ?_) | refine Or.inl (And.intro (And.intro (by simp only [kmin]; omega) (by simp only [kmax]; omega)) ?_) | refine Exists.intro _ (And.intro rfl ?_) | refine And.intro (by decide) ?_ | refine And.intro (by omega) ?_ | fail
    exact To.cut [1, 4] 1 rfl rfl rfl rfl (check_hosts c hc r c.hs.length 0 (by omega) hr)
  | succ m ih =>
    intro i hi hr
    have hlt : i < c.ns.length := by omega
    rw [List.drop_eq_getElem_cons hlt] at hr
    have hn := node_ok c hc i _ (nav_get hlt)
    unfold nodesX at hr
    have ih := ih (i + 1) (by omega)
    generalize nodeX (rlB c.ns i) i c.ns[i] = b at hr hn
    cases b with
    | false =>
      have hr : 2 = r := hr
      subst hr
      refine goes hE 100 ?_
      conv => whnf
      refine And.intro (fun h => ?_) (fun h => absurd (of_decide_eq_false h) (by omega))
      repeat' first | (refine goN hE 100 rfl ?_; conv => whnf) | refine .pure _ [] hn ?_ | exact rfl | refine And.intro (fun _ => ?_) (fun h => absurd (show true = false from h) (by decide)) | refine And.intro (fun h => absurd (show false = true from h) (by decide)) (fun _ => ?_) | refine And.intro (fun h => ?_) (fun h => absurd (of_decide_eq_false h) (by omega)) | refine And.intro (fun h => absurd (of_decide_eq_true h) (by omega)) (fun h => ?_) | refine And.intro (fun h => ?_) (fun h => ?_) | refine Or.inl (And.intro (And.intro (by simp only [kmin]; omega) (by simp only [kmax]; omega)) ?_) | refine Exists.intro _ (And.intro rfl ?_) | refine And.intro (by decide) ?_ | refine And.intro (by omega) ?_ | fail
    | true =>
      rw [if_pos (show true = true from rfl)] at hr
      have ih := ih hr
      refine goes hE 100 ?_
      conv => whnf
      refine And.intro (fun h => ?_) (fun h => absurd (of_decide_eq_false h) (by omega))
      repeat' first | (refine goN hE 100 rfl ?_; conv => whnf) | refine .pure _ [] hn ?_ | exact rfl | refine And.intro (fun _ => ?_) (fun h => absurd (show true = false from h) (by decide)) | refine And.intro (fun h => absurd (show false = true from h) (by decide)) (fun _ => ?_) | refine And.intro (fun h => ?_) (fun h => absurd (of_decide_eq_false h) (by omega)) | refine And.intro (fun h => absurd (of_decide_eq_true h) (by omega)) (fun h => ?_) | refine And.intro (fun h => ?_) (fun h => ?_) | refine Or.inl (And.intro (And.intro (by simp only [kmin]; omega) (by simp only [kmax]; omega)) ?_) | refine Exists.intro _ (And.intro rfl ?_) | refine And.intro (by decide) ?_ | refine And.intro (by omega) ?_ | fail
      exact To.cut [1, 3] 1 rfl rfl rfl rfl ih
theorem check_any (c : Con) (hc : c.sm) (r : Int) (hr : checkI c = r) : CallOK Tryz.prog 57 [c.av] [] (.ret (ii r)) [] := by
  have hln : (nav c.ns).length = c.ns.length := by simp
  have hlh : (hav c.hs).length = c.hs.length := by simp
  unfold checkI at hr
  by_cases hb : sizB c
  · rw [if_pos hb] at hr
    unfold sizB at hb
    refine CallOK.to (E := E) (fn := Tryz.f57) (g := .pure _) (by rfl) (by rfl) (by rfl) (fun _ _ => by rfl) (by decide +kernel) (by rfl) (by rfl) (by rfl) fun _ => ?_
    repeat' first | (refine goN hE 100 rfl ?_; conv => whnf) | exact rfl | refine And.intro (fun _ => ?_) (fun h => absurd (show true = false from h) (by decide)) | refine And.intro (fun h => absurd (show false = true from h) (by decide)) (fun _ => ?_) | refine And.intro (fun h => ?_) (fun h => absurd (of_decide_eq_false h) (by omega)) | refine And.intro (fun h => absurd (of_decide_eq_true h) (by omega)) (fun h => ?_) | refine And.intro (fun h => ?_) (fun h => ?_) | refine Or.inl (And.intro (And.intro (by simp only [kmin]; omega) (by simp only [kmax]; omega)) ?_) | refine Exists.intro _ (And.intro rfl ?_) | refine And.intro (by decide) ?_ | refine And.intro (by omega) ?_ | fail
    exact To.cut [1, 3] 1 rfl rfl rfl rfl (check_nodes c hc r c.ns.length 0 (by omega) hr)
  · rw [if_neg hb] at hr
    subst hr
    unfold sizB at hb
    refine CallOK.to (E := E) (fn := Tryz.f57) (g := .pure _) (by rfl) (by rfl) (by rfl) (fun _ _ => by rfl) (by decide +kernel) (by rfl) (by rfl) (by rfl) fun _ => ?_
    repeat' first
      | (refine goN hE 100 rfl ?_; conv => whnf)
      | exact rfl
      | refine And.intro (fun _ => ?_) (fun h => absurd (show true = false from h) (by decide))
      | refine And.intro (fun h => absurd (show false = true from h) (by decide)) (fun _ => ?_)
      | refine And.intro (fun h => absurd (of_decide_eq_true h) (by omega)) (fun h => ?_)
      | refine And.intro (fun h => ?_) (fun h => absurd (of_decide_eq_false h) (by omega))
      | refine And.intro (fun h => ?_) (fun h => ?_)
    all_goals (exfalso; simp at *; omega)
theorem check_ok (c : Con) (hc : c.sm) : CallOK Tryz.prog 57 [c.av] [] (.ret (ii (checkI c))) [] := check_any c hc _ rfl
end Go.Proofs.YtlalcoklkafnnaaGreat

namespace Go.Proofs.YtlalcoklkafnnaaGreat
open Go Go.AW Go.Proofs
set_option maxRecDepth 10000

def hostsX (n : Nat) (l : List Int) : Bool := l.all fun h => decide (0 ≤ h ∧ h < (n : Int))
def badR (c : Con) (now : Int) (x : Rn) : Prop := gangI c.ns x.g = 0 ∨ x.st < 0 ∨ now < x.st ∨ (x.hs.length : Int) ≠ x.g.pods
instance (c : Con) (now : Int) (x : Rn) : Decidable (badR c now x) := by unfold badR; infer_instance
def runX (c : Con) (now : Int) (x : Rn) : Bool := if badR c now x then false else hostsX c.hs.length x.hs
def badF (c : Con) (now : Int) (l : List Rn) : Prop := checkI c ≠ 0 ∨ 32 < l.length ∨ now < 0 ∨ 1099511627776 < now
instance (c : Con) (now : Int) (l : List Rn) : Decidable (badF c now l) := by unfold badF; infer_instance
def fewI (c : Con) (now : Int) (l : List Rn) : Int := if badF c now l then 0 else if l.all (runX c now) = true then 1 else 0
noncomputable abbrev fFew : Func := Tryz.f18
theorem few_in (c : Con) (hc : c.sm) (now : Int) (l : List Rn) (x : Rn) (hxl : x.hs.length ≤ 1048576) (r : Int) (j : Nat) (hj : j < 1048576) :
    ∀ (m i : Nat), i + m = x.hs.length → (hostsX c.hs.length (x.hs.drop i) = false → r = 0) → (hostsX c.hs.length (x.hs.drop i) = true → To E fFew (.pure (.ret (ii r))) (.head (stk fFew 0) [(1, ii now), (2, .slice 14 (rav l) .no), (3, .ref 0 0), (7, ii ((j : Int) + 1))] [.cells 25 c.cs])) →
    To E fFew (.pure (.ret (ii r))) (.head (stk fFew 1) [(1, ii now), (2, .slice 14 (rav l) .no), (3, .ref 0 0), (7, ii j), (8, .ref 1 0), (9, ii i)] [.cells 25 c.cs, .cells 43 x.cs]) := by
  have hlen : (iv x.hs).length = x.hs.length := by simp
  have hhl : (hav c.hs).length = c.hs.length := by simp
  have h1 := hc.hs
  intro m
  induction m with
  | zero =>
    intro i hi hn hy
    rw [List.drop_eq_nil_of_le (by omega)] at hy
    have hy := hy rfl
    refine goes hE 100 ?_
    conv => whnf
    refine And.intro (fun h => absurd (of_decide_eq_true h) (by omega)) (fun h => ?_)
    repeat' first | (refine goN hE 100 rfl ?_; conv => whnf) | exact rfl | refine And.intro (fun _ => ?_) (fun h => absurd (show true = false from h) (by decide)) | refine And.intro (fun h => absurd (show false = true from h) (by decide)) (fun _ => ?_) | refine And.intro (fun h => ?_) (fun h => absurd (of_decide_eq_false h) (by omega)) | refine And.intro (fun h => absurd (of_decide_eq_true h) (by omega)) (fun h => ?_) | refine And.intro (fun h => ?_) (fun h => ?_) | refine Or.inl (And.intro (And.intro (by simp only [kmin]; omega) (by simp only [kmax]; omega)) ?_) | refine Exists.intro _ (And.intro rfl ?_) | refine And.intro (by decide) ?_ | refine And.intro (by omega) ?_ | fail
    exact To.cut [1, 2, 3, 7] 1 rfl rfl rfl rfl hy
  | succ m ih =>
    intro i hi hn hy
    have hlt : i < x.hs.length := by omega
    rw [List.drop_eq_getElem_cons hlt] at hn hy
    have get := iv_get hlt
    generalize x.hs[i] = u at hn hy get
    have ih := ih (i + 1) (by omega)
    unfold hostsX at hn hy
    rw [List.all_cons] at hn hy
    by_cases hb : 0 ≤ u ∧ u < (c.hs.length : Int)
    · rw [decide_eq_true hb] at hn hy
      have next := ih hn hy
      refine goes hE 100 ?_
      conv => whnf
      refine And.intro (fun h => ?_) (fun h => absurd (of_decide_eq_false h) (by omega))
      repeat' first | (refine goN hE 100 rfl ?_; conv => whnf) | refine Exists.intro i (And.intro rfl ?_) | refine Exists.intro _ (And.intro get ?_) | exact rfl | refine And.intro (fun _ => ?_) (fun h => absurd (show true = false from h) (by decide)) | refine And.intro (fun h => absurd (show false = true from h) (by decide)) (fun _ => ?_) | refine And.intro (fun h => ?_) (fun h => absurd (of_decide_eq_false h) (by omega)) | refine And.intro (fun h => absurd (of_decide_eq_true h) (by omega)) (fun h => ?_) | refine And.intro (fun h => ?_) (fun h => ?_) | refine Or.inl (And.intro (And.intro (by simp only [kmin]; omega) (by simp only [kmax]; omega)) ?_) | refine Exists.intro _ (And.intro rfl ?_) | refine And.intro (by decide) ?_ | refine And.intro (by omega) ?_ | fail
      exact To.cut [1, 2, 3, 7, 8, 9] 2 rfl rfl rfl rfl next
    · rw [decide_eq_false hb] at hn
      have hr := hn rfl
      subst hr
      refine goes hE 100 ?_
      conv => whnf
      refine And.intro (fun h => ?_) (fun h => absurd (of_decide_eq_false h) (by omega))
      repeat' first
        | (refine goN hE 100 rfl ?_; conv => whnf)
        | exact rfl
        | refine Exists.intro i (And.intro rfl ?_)
        | refine Exists.intro _ (And.intro get ?_)
        | refine And.intro (fun _ => ?_) (fun h => absurd (show true = false from h) (by decide))
        | refine And.intro (fun h => absurd (show false = true from h) (by decide)) (fun _ => ?_)
        | refine And.intro (fun h => absurd (of_decide_eq_true h) (by omega)) (fun h => ?_)
        | refine And.intro (fun h => ?_) (fun h => absurd (of_decide_eq_false h) (by omega))
        | refine And.intro (fun h => ?_) (fun h => ?_)
      all_goals (exfalso; simp at *; omega)
theorem few_out (c : Con) (hc : c.sm) (now : Int) (l : List Rn) (hs : Sm l) (r : Int) : ∀ (m i : Nat), i + m = l.length → (if (l.drop i).all (runX c now) = true then (1 : Int) else 0) = r →
    To E fFew (.pure (.ret (ii r))) (.head (stk fFew 0) [(1, ii now), (2, .slice 14 (rav l) .no), (3, .ref 0 0), (7, ii i)] [.cells 25 c.cs]) := by
  have hlen : (rav l).length = l.length := by simp
  have h1 := hs.1
  intro m
  induction m with
  | zero =>
    intro i hi hr
    rw [List.drop_eq_nil_of_le (by omega)] at hr
    have hr : 1 = r := hr
    subst hr
    refine goes hE 100 ?_
    conv => whnf
    refine And.intro (fun h => absurd (of_decide_eq_true h) (by omega)) (fun h => ?_)
    repeat' first | (refine goN hE 100 rfl ?_; conv => whnf) | exact rfl | refine And.intro (fun _ => ?_) (fun h => absurd (show true = false from h) (by decide)) | refine And.intro (fun h => absurd (show false = true from h) (by decide)) (fun _ => ?_) | refine And.intro (fun h => ?_) (fun h => absurd (of_decide_eq_false h) (by omega)) | refine And.intro (fun h => absurd (of_decide_eq_true h) (by omega)) (fun h => ?_) | refine And.intro (fun h => ?_) (fun h => ?_) | refine Or.inl (And.intro (And.intro (by simp only [kmin]; omega) (by simp only [kmax]; omega)) ?_) | refine Exists.intro _ (And.intro rfl ?_) | refine And.intro (by decide) ?_ | refine And.intro (by omega) ?_ | fail
  | succ m ih =>
    intro i hi hr
    have hlt : i < l.length := by omega
    have hb1 := hs.at hlt
    rw [List.drop_eq_getElem_cons hlt, List.all_cons] at hr
    have get := rav_get hlt
    generalize l[i] = x at hr get hb1
    have ih := ih (i + 1) (by omega)
    have hgg := gang_ok c hc x.g
    have hxl : (iv x.hs).length = x.hs.length := by simp
    unfold runX at hr
    by_cases hb : badR c now x
    · rw [if_pos hb] at hr
      have hr : 0 = r := hr
      subst hr
      unfold badR at hb
      generalize gangI c.ns x.g = gi at hb hgg
      refine goes hE 100 ?_
      conv => whnf
      refine And.intro (fun h => ?_) (fun h => absurd (of_decide_eq_false h) (by omega))
      repeat' first
        | (refine goN hE 100 rfl ?_; conv => whnf)
        | exact rfl
        | refine .pure _ [] hgg ?_
        | refine Exists.intro i (And.intro rfl ?_)
        | refine Exists.intro _ (And.intro get ?_)
        | refine And.intro (fun _ => ?_) (fun h => absurd (show true = false from h) (by decide))
        | refine And.intro (fun h => absurd (show false = true from h) (by decide)) (fun _ => ?_)
        | refine And.intro (fun h => absurd (of_decide_eq_true h) (by omega)) (fun h => ?_)
        | refine And.intro (fun h => ?_) (fun h => absurd (of_decide_eq_false h) (by omega))
        | refine And.intro (fun h => ?_) (fun h => ?_)
      all_goals (exfalso; simp at *; omega)
    · rw [if_neg hb] at hr
      unfold badR at hb
      generalize gangI c.ns x.g = gi at hb hgg
      have hgi : (gi == 0) = false := by simp; omega
      have hpl : ((x.hs.length : Int) != x.g.pods) = false := by simp; omega
      have hin := few_in c hc now l x hb1 r i (by omega) x.hs.length 0 (by omega) (fun h => by
        have h : hostsX c.hs.length x.hs = false := h
        rw [h] at hr
        exact hr.symm) (fun h => by
        have h : hostsX c.hs.length x.hs = true := h
        rw [h] at hr
        exact ih hr)
      refine goes hE 100 ?_
      conv => whnf
      refine And.intro (fun h => ?_) (fun h => absurd (of_decide_eq_false h) (by omega))
      repeat' first
        | (refine goN hE 100 rfl ?_; conv => whnf)
        | refine .pure _ [] hgg ?_
        | refine Exists.intro i (And.intro rfl ?_)
        | refine Exists.intro _ (And.intro get ?_)
        | refine And.intro (fun _ => ?_) (fun h => absurd (show true = false from h) (by decide))
        | refine And.intro (fun h => absurd (show false = true from h) (by decide)) (fun _ => ?_)
        | refine And.intro (fun h => absurd (of_decide_eq_true h) (by omega)) (fun h => ?_)
        | refine And.intro (fun h => ?_) (fun h => absurd (of_decide_eq_false h) (by omega))
        | refine And.intro (fun h => absurd (show (gi == 0) = true from h) (by rw [hgi]; decide)) (fun h => ?_)
        | refine And.intro (fun h => absurd h (by rw [hxl, hpl]; decide)) (fun h => ?_)
      all_goals exact To.cut [1, 2, 3, 7, 8, 9] 2 rfl rfl rfl rfl hin
theorem few_any (c : Con) (hc : c.sm) (now : Int) (l : List Rn) (hs : Sm l) (r : Int) (hr : fewI c now l = r) : CallOK Tryz.prog 18 [c.av, ii now, .slice 14 (rav l) .no] [] (.ret (ii r)) [] := by
  have hlen : (rav l).length = l.length := by simp
  have hck := check_ok c hc
  unfold fewI at hr
  by_cases hb : badF c now l
  · rw [if_pos hb] at hr
    subst hr
    unfold badF at hb
    generalize checkI c = k at hb hck
    refine CallOK.to (E := E) (fn := Tryz.f18) (g := .pure _) (by rfl) (by rfl) (by rfl) (fun _ _ => by rfl) (by decide +kernel) (by rfl) (by rfl) (by rfl) fun _ => ?_
    repeat' first
      | (refine goN hE 100 rfl ?_; conv => whnf)
      | exact rfl
      | refine .pure _ [] hck ?_
      | refine And.intro (fun _ => ?_) (fun h => absurd (show true = false from h) (by decide))
      | refine And.intro (fun h => absurd (show false = true from h) (by decide)) (fun _ => ?_)
      | refine And.intro (fun h => absurd (of_decide_eq_true h) (by omega)) (fun h => ?_)
      | refine And.intro (fun h => ?_) (fun h => absurd (of_decide_eq_false h) (by omega))
      | refine And.intro (fun h => ?_) (fun h => ?_)
    all_goals (exfalso; simp at *; omega)
  · rw [if_neg hb] at hr
    unfold badF at hb
    generalize checkI c = k at hb hck
    have hk : (k != 0) = false := by simp; omega
    refine CallOK.to (E := E) (fn := Tryz.f18) (g := .pure _) (by rfl) (by rfl) (by rfl) (fun _ _ => by rfl) (by decide +kernel) (by rfl) (by rfl) (by rfl) fun _ => ?_
    repeat' first
      | (refine goN hE 100 rfl ?_; conv => whnf)
      | refine .pure _ [] hck ?_
      | refine And.intro (fun _ => ?_) (fun h => absurd (show true = false from h) (by decide))
      | refine And.intro (fun h => absurd (show false = true from h) (by decide)) (fun _ => ?_)
      | refine And.intro (fun h => absurd (of_decide_eq_true h) (by omega)) (fun h => ?_)
      | refine And.intro (fun h => ?_) (fun h => absurd (of_decide_eq_false h) (by omega))
      | refine And.intro (fun h => absurd h (by rw [hk]; decide)) (fun h => ?_)
    all_goals exact To.cut [1, 2, 3, 7] 1 rfl rfl rfl rfl (few_out c hc now l hs r l.length 0 (by omega) hr)
theorem few_ok (c : Con) (hc : c.sm) (now : Int) (l : List Rn) (hs : Sm l) : CallOK Tryz.prog 18 [c.av, ii now, .slice 14 (rav l) .no] [] (.ret (ii (fewI c now l))) [] := few_any c hc now l hs _ rfl
end Go.Proofs.YtlalcoklkafnnaaGreat

namespace Go.Proofs.YtlalcoklkafnnaaGreat
open Go Go.AW Go.Proofs

/-- in order, each once -/
abbrev St (l : List Int) : Prop := l.Pairwise (· < ·)
/- ---------- later fewer run ---------- -/
end Go.Proofs.YtlalcoklkafnnaaGreat

namespace Go.Proofs.YtlalcoklkafnnaaGreat
open Go Go.AW

end Go.Proofs.YtlalcoklkafnnaaGreat

namespace Go.Proofs.YtlalcoklkafnnaaGreat
open Go Go.AW Go.Proofs
set_option maxRecDepth 10000

def stCs (c : Con) (now k : Int) (ws : List AVal) (l : List Rn) (zs : List AVal) : List AVal := [.slice 11 (nav c.ns) .no, .slice 6 (hav c.hs) .no, ii c.half, ii c.age, ii now, ii k, .slice 11 ws .no, .slice 14 (rav l) .no, .slice 1 zs .no]
theorem gang_pods {ns : List Nod} {g : Gan} (h : gangI ns g ≠ 0) : 0 ≤ g.pods ∧ g.pods ≤ 16 := by
  unfold gangI at h
  split at h
  · rename_i hb
    unfold gangB at hb
    simp only [Bool.and_eq_true, decide_eq_true_eq] at hb
    omega
  · exact absurd rfl h
end Go.Proofs.YtlalcoklkafnnaaGreat

namespace Go.Proofs.YtlalcoklkafnnaaGreat
open Go Go.AW Go.Proofs
open Go.ChangeShapes Go.WideShapes Go.ChangeAt Go.RowKit
set_option maxRecDepth 100000

theorem bulk_one {H : Type} (d : DataW H) : 1 ≤ Rows.uptoBulk d := by
  cases d with
  | lit l => cases l <;> simp [Rows.uptoBulk]
  | _ => simp [Rows.uptoBulk]
theorem bulk_part {H : Type} {d : DataW H} : ∀ {l : List (DataW H)}, d ∈ l → Rows.uptoBulk d ≤ Rows.uptoBulkAll l
  | [], h => by cases h
  | x :: r, h => by
    simp only [Rows.uptoBulkAll]
    rcases List.mem_cons.1 h with rfl | h
    · omega
    · have := bulk_part h
      omega
theorem bulk_len {H : Type} : ∀ (l : List (DataW H)), l.length ≤ Rows.uptoBulkAll l
  | [] => by simp
  | x :: r => by
    have := bulk_one x
    have := bulk_len r
    simp only [Rows.uptoBulkAll, List.length_cons]
    omega
/-- the bound holds of each part -/
theorem bulkN (H : Type) (N : Nat) : Bulk H N (fun d => Rows.uptoBulk d ≤ N) where
  str l h := by
    simp only [Rows.uptoBulk] at h
    omega
  sl e r h := by
    simp only [Rows.uptoBulk] at h
    have := bulk_len e
    exact ⟨by omega, fun d hd => by have := bulk_part hd; omega⟩
  agg l h := by
    simp only [Rows.uptoBulk] at h
    exact fun d hd => by have := bulk_part hd; omega

section
variable {N : Nat}
theorem tnInt {n : Nat} {cs : List AVal} (h : TyN Tryz.prog N (n + 1) 3 cs) : ∃ m : Int, cs = [ii m] := by
  unfold TyN at h
  rw [Tryz.underlying3] at h
  obtain ⟨m, h, _⟩ := h
  exact ⟨m, h⟩
theorem tnVec {n : Nat} {cs : List AVal} (h : TyN Tryz.prog N (n + 2) 32 cs) : ∃ v : V3, cs = v.cs := by
  unfold TyN at h
  rw [Tryz.underlying32] at h
  obtain ⟨xs, hl, hx, rfl⟩ := h
  match xs, hl, hx with
  | [x, y, z], _, hx =>
    obtain ⟨a, rfl⟩ := tnInt (hx x (by simp))
    obtain ⟨b, rfl⟩ := tnInt (hx y (by simp))
    obtain ⟨c, rfl⟩ := tnInt (hx z (by simp))
    exact ⟨⟨a, b, c⟩, rfl⟩
theorem tnGang {n : Nat} {cs : List AVal} (h : TyN Tryz.prog N (n + 3) 34 cs) : ∃ g : Gan, cs = g.cs := by
  unfold TyN at h
  rw [Tryz.underlying34] at h
  obtain ⟨x0, r, rfl, h0, x1, r, rfl, h1, x2, r, rfl, h2, x3, r, rfl, h3, x4, r, rfl, h4, x5, r, rfl, h5, x6, r, rfl, h6, rfl⟩ := h
  obtain ⟨a0, rfl⟩ := tnInt h0
  obtain ⟨a1, rfl⟩ := tnInt h1
  obtain ⟨a2, rfl⟩ := tnInt h2
  obtain ⟨v, rfl⟩ := tnVec h3
  obtain ⟨a4, rfl⟩ := tnInt h4
  obtain ⟨a5, rfl⟩ := tnInt h5
  obtain ⟨a6, rfl⟩ := tnInt h6
  exact ⟨⟨a0, a1, a2, v, a4, a5, a6⟩, rfl⟩
theorem allsN {α : Type} {av : α → AVal} {P : AVal → Prop} {Q : α → Prop} (hP : ∀ x, P x → ∃ p : α, x = av p ∧ Q p) : ∀ (xs : List AVal), (∀ x ∈ xs, P x) → ∃ l : List α, xs = l.map av ∧ ∀ p ∈ l, Q p
  | [], _ => ⟨[], rfl, fun p h => by cases h⟩
  | x :: xs, h => by
    obtain ⟨p, rfl, hp⟩ := hP x (h x (by simp))
    obtain ⟨l, rfl, hl⟩ := allsN hP xs fun x hx => h x (by simp [hx])
    exact ⟨p :: l, rfl, fun q hq => by
      rcases List.mem_cons.1 hq with rfl | hq
      · exact hp
      · exact hl q hq⟩
theorem tnInts {n : Nat} {cs : List AVal} (h : TyN Tryz.prog N (n + 2) 37 cs) : ∃ l : List Int, cs = [.slice 1 (iv l) .no] ∧ l.length ≤ N := by
  unfold TyN at h
  rw [Tryz.underlying37] at h
  obtain ⟨xs, rfl, hN, hx⟩ := h
  have hc : Tryz.prog.cellsOf 3 = 1 := by kernel_rfl
  have ha : isAggT Tryz.prog 3 = false := by kernel_rfl
  obtain ⟨l, rfl, _⟩ := allsN (av := fun m : Int => ii m) (Q := fun _ => True) (P := fun x => x ∈ xs) (fun x hm => by
    obtain ⟨m, e⟩ := tnInt (n := n) (hx x hm).1
    have e2 := (hx x hm).2.2 ha
    rw [e] at e2
    exact ⟨m, (List.cons.inj e2).1.symm, trivial⟩) xs fun x hm => hm
  exact ⟨l, by rw [hc], by simpa using hN⟩
theorem tnRun {n : Nat} {cs : List AVal} (h : TyN Tryz.prog N (n + 4) 43 cs) : ∃ x : Rn, cs = x.cs ∧ x.hs.length ≤ N := by
  unfold TyN at h
  rw [Tryz.underlying43] at h
  obtain ⟨x0, r, rfl, h0, x1, r, rfl, h1, x2, r, rfl, h2, x3, r, rfl, h3, x4, r, rfl, h4, x5, r, rfl, h5, rfl⟩ := h
  obtain ⟨g, rfl⟩ := tnGang h0
  obtain ⟨a1, rfl⟩ := tnInt h1
  obtain ⟨a2, rfl⟩ := tnInt h2
  obtain ⟨a3, rfl⟩ := tnInt h3
  obtain ⟨a4, rfl⟩ := tnInt h4
  obtain ⟨l, rfl, hl⟩ := tnInts (n := n + 1) h5
  exact ⟨⟨g, a1, a2, a3, a4, l⟩, rfl, hl⟩
end
section
variable {N : Nat}
theorem tnNode {n : Nat} {cs : List AVal} (h : TyN Tryz.prog N (n + 3) 58 cs) : ∃ x : Nod, cs = x.cs := by
  unfold TyN at h
  rw [Tryz.underlying58] at h
  obtain ⟨x0, r, rfl, h0, x1, r, rfl, h1, x2, r, rfl, h2, x3, r, rfl, h3, x4, r, rfl, h4, rfl⟩ := h
  obtain ⟨a0, rfl⟩ := tnInt h0
  obtain ⟨a1, rfl⟩ := tnInt h1
  obtain ⟨u, rfl⟩ := tnVec h2
  obtain ⟨v, rfl⟩ := tnVec h3
  obtain ⟨w, rfl⟩ := tnVec h4
  exact ⟨⟨a0, a1, u, v, w⟩, rfl⟩
theorem tnHost {n : Nat} {cs : List AVal} (h : TyN Tryz.prog N (n + 3) 65 cs) : ∃ x : Hos, cs = x.cs := by
  unfold TyN at h
  rw [Tryz.underlying65] at h
  obtain ⟨x0, r, rfl, h0, x1, r, rfl, h1, x2, r, rfl, h2, x3, r, rfl, h3, rfl⟩ := h
  obtain ⟨a0, rfl⟩ := tnInt h0
  obtain ⟨a1, rfl⟩ := tnInt h1
  obtain ⟨a2, rfl⟩ := tnInt h2
  obtain ⟨v, rfl⟩ := tnVec h3
  exact ⟨⟨a0, a1, a2, v⟩, rfl⟩
theorem tnNodes {n : Nat} {cs : List AVal} (h : TyN Tryz.prog N (n + 4) 22 cs) : ∃ l : List Nod, cs = [.slice 11 (nav l) .no] ∧ l.length ≤ N := by
  unfold TyN at h
  rw [Tryz.underlying22] at h
  obtain ⟨xs, rfl, hN, hx⟩ := h
  have hc : Tryz.prog.cellsOf 58 = 11 := by kernel_rfl
  obtain ⟨l, rfl, hl⟩ := allsN (av := Nod.av) (Q := fun x => True) (P := fun x => x ∈ xs) (fun x hm => by
    obtain ⟨cs, rfl⟩ := (hx x hm).2.1 (by kernel_rfl)
    obtain ⟨p, hp⟩ := tnNode (n := n) (hx _ hm).1
    exact ⟨p, by unfold Nod.av; rw [← hp]; rfl, trivial⟩) xs fun x hm => hm
  exact ⟨l, by rw [hc], by simpa using hN⟩
theorem tnHosts {n : Nat} {cs : List AVal} (h : TyN Tryz.prog N (n + 4) 23 cs) : ∃ l : List Hos, cs = [.slice 6 (hav l) .no] ∧ l.length ≤ N := by
  unfold TyN at h
  rw [Tryz.underlying23] at h
  obtain ⟨xs, rfl, hN, hx⟩ := h
  have hc : Tryz.prog.cellsOf 65 = 6 := by kernel_rfl
  obtain ⟨l, rfl, hl⟩ := allsN (av := Hos.av) (Q := fun x => True) (P := fun x => x ∈ xs) (fun x hm => by
    obtain ⟨cs, rfl⟩ := (hx x hm).2.1 (by kernel_rfl)
    obtain ⟨p, hp⟩ := tnHost (n := n) (hx _ hm).1
    exact ⟨p, by unfold Hos.av; rw [← hp]; rfl, trivial⟩) xs fun x hm => hm
  exact ⟨l, by rw [hc], by simpa using hN⟩
theorem tnAny {n : Nat} {t e : TypeId} {cs : List AVal} (hu : Tryz.prog.underlying t = some (.slice e)) (h : TyN Tryz.prog N (n + 1) t cs) : ∃ xs : List AVal, cs = [.slice (Tryz.prog.cellsOf e) xs .no] := by
  unfold TyN at h
  rw [hu] at h
  obtain ⟨xs, rfl, _⟩ := h
  exact ⟨xs, rfl⟩
end
section
variable {H : Type} {enc : TypeId × Value → H} {W : World} {r : Reach} {base b0 : Nat} {spare : Nat → Bool} {held : Bool} {v : Value} {d : DataW H} {ps : List MemPlace}
theorem open_gangN (hv : Value.okWide Tryz.prog W r b0 34 v) (h : DataW.Trod enc Tryz.prog W base spare held 34 v d ps) (hG : Rows.uptoBulk d ≤ 1048576) : ∃ x : Gan, Rep (Mw W) [] v x.av := by
  obtain ⟨cs0, hr, ht⟩ := arg_aggN (n := 3) (bulkN H 1048576) (by kernel_rfl) (by kernel_rfl) hv h hG
  obtain ⟨x, rfl⟩ := tnGang (n := 0) ht
  exact ⟨x, hr⟩
end
end Go.Proofs.YtlalcoklkafnnaaGreat
