/-
  The queue and the document's answers for it: the walks, and the plain laws.
-/
import Derived.Test.YtgjcojagbgdpnaaProg
import Derived.Test.YtgjcojagbgdpnaaWC
namespace Go.Proofs.Ytgjcojagbgdpnaa
open Go Go.AW Go.Proofs

noncomputable def T0 : Tab := [
  (2, .mk (.int .i64) 1 false (.int .i64 0)),
  (3, .mk (.int .i64) 1 false (.int .i64 0)),
  (4, .mk .bool 1 false (.bool false)),
  (5, .mk (.int .u8) 1 false (.int .u8 0)),
  (9, .mk .str 1 false (.str [])),
  (20, .mk .iface 1 false .nilif),
  (21, .mk (.int .i32) 1 false (.int .i32 0)),
  (22, .mk (.int .i64) 1 false (.int .i64 0)),
  (28, .mk (.arr 3 1 false) 3 true (.agg [.int .i64 0, .int .i64 0, .int .i64 0])),
  (29, .mk (.arr 3 1 false) 3 true (.agg [.int .i64 0, .int .i64 0, .int .i64 0])),
  (30, .mk (.int .u64) 1 false (.int .u64 0)),
  (31, .mk (.int .u64) 1 false (.int .u64 0)),
  (47, .mk (.slc 51 11 88) 1 false (.slice 11 [] .nil)),
  (48, .mk (.strct [(0, 1, false), (1, 1, false), (2, 1, false), (3, 3, true), (6, 1, false), (7, 1, false), (8, 1, false)]) 9 true (.agg [.int .i64 0, .int .i64 0, .int .i64 0, .int .i64 0, .int .i64 0, .int .i64 0, .int .i64 0, .int .i64 0, .int .i64 0])),
  (49, .mk (.strct [(0, 1, false), (1, 1, false), (2, 1, false), (3, 3, true), (6, 1, false), (7, 1, false), (8, 1, false)]) 9 true (.agg [.int .i64 0, .int .i64 0, .int .i64 0, .int .i64 0, .int .i64 0, .int .i64 0, .int .i64 0, .int .i64 0, .int .i64 0])),
  (50, .mk (.strct [(0, 9, true), (9, 1, false), (10, 1, false)]) 11 true (.agg [.int .i64 0, .int .i64 0, .int .i64 0, .int .i64 0, .int .i64 0, .int .i64 0, .int .i64 0, .int .i64 0, .int .i64 0, .int .i64 0, .int .i64 0])),
  (51, .mk (.strct [(0, 9, true), (9, 1, false), (10, 1, false)]) 11 true (.agg [.int .i64 0, .int .i64 0, .int .i64 0, .int .i64 0, .int .i64 0, .int .i64 0, .int .i64 0, .int .i64 0, .int .i64 0, .int .i64 0, .int .i64 0])),
  (60, .mk (.slc 5 1 1) 1 false (.slice 1 [] .nil)),
  (61, .mk (.int .u64) 1 false (.int .u64 0)),
  (66, .mk (.strct [(0, 9, true), (9, 1, false), (10, 1, false)]) 11 true (.agg [.int .i64 0, .int .i64 0, .int .i64 0, .int .i64 0, .int .i64 0, .int .i64 0, .int .i64 0, .int .i64 0, .int .i64 0, .int .i64 0, .int .i64 0])),
  (67, .mk .other 1 false .nilfunc),
  (72, .mk (.slc 9 1 16) 1 false (.slice 1 [] .nil)),
  (74, .mk .iface 1 false .nilif)]

def F0 : List (Nat × Nat) := [(28, 3), (29, 3), (48, 9), (49, 9), (50, 11), (51, 11), (66, 11)]

def M0 : MTab := [(66, "tithebarn/queue.id", 65), (66, "tithebarn/queue.seq", 66)]

noncomputable def E : Env := { P := Try.prog, T := T0, mt := M0, fl := F0, own := [], rws := [], bl := [] }

theorem hE : EnvOK E where
  mix := by kernel_rfl
  tab := tab_ok (by kernel_rfl) (by kernel_rfl)
  mth := MthOK.cons (fun v w => by kernel_rfl) (MthOK.cons (fun v w => by kernel_rfl) MthOK.nil)
  fl := flats_ok (by kernel_rfl)
/-- .. with slots that begin a row that is written in its place -/
noncomputable def Er (l b : List Nat) : Env := { E with rws := l, bl := b }
theorem hEr (l b : List Nat) : EnvOK (Er l b) := ⟨hE.mix, hE.tab, hE.mth, hE.fl⟩
end Go.Proofs.Ytgjcojagbgdpnaa

namespace Go.Proofs.Ytgjcojagbgdpnaa
open Go Go.AW Go.Proofs

structure Pend where
  (id tenant pods n0 n1 n2 run level prefer seq since : Int)
  deriving DecidableEq

/-- as the program has it -/
def Pend.cs (p : Pend) : List AVal := [.int .i64 p.id, .int .i64 p.tenant, .int .i64 p.pods, .int .i64 p.n0, .int .i64 p.n1, .int .i64 p.n2, .int .i64 p.run, .int .i64 p.level, .int .i64 p.prefer, .int .i64 p.seq, .int .i64 p.since]
def Pend.av (p : Pend) : AVal := .agg p.cs
abbrev pav (l : List Pend) : List AVal := l.map Pend.av

theorem in64 {n : Int} (h1 : -9223372036854775808 ≤ n) (h2 : n ≤ 9223372036854775807) : inR .i64 n := ⟨by simp only [kmin]; omega, by simp only [kmax]; omega⟩

/-- the first place where something holds, from i on; -1: there is none -/
def idx (p : Pend → Bool) : List Pend → Int → Int
  | [], _ => -1
  | x :: r, i => if p x then i else idx p r (i + 1)
def findP (a : Int) (l : List Pend) : Int := idx (fun x => x.id == a) l 0
def one' (a b : Int) : Pend := ⟨a, 0, 0, 0, 0, 0, 0, 0, 0, b, 0⟩

theorem pav_get {l : List Pend} {i : Nat} (h : i < l.length) : (pav l)[i]? = some l[i].av := by
  simp [pav, h]
end Go.Proofs.Ytgjcojagbgdpnaa

namespace Go.Proofs.Ytgjcojagbgdpnaa
open Go Go.AW Go.Proofs
set_option maxRecDepth 10000

theorem few_ok (l : List Pend) : CallOK Try.prog 25 [.slice 11 (pav l) .no] [] (.ret (.bool (decide ((l.length : Int) ≤ 200)))) [] := by
  have e : l.length = (pav l).length := by simp
  rw [e]
  refine CallOK.to (E := E) (fn := Try.f25) (g := .pure _) (by rfl) (by rfl) (fun _ _ => by rfl) (by decide +kernel) (by rfl) (by rfl) (by rfl) fun _ => ?_
  refine goes hE 100 ?_
  conv => whnf
theorem one_ok (a b : Int) : CallOK Try.prog 37 [.int .i64 a, .int .i64 b] [] (.ret (one' a b).av) [] := by
  refine CallOK.to (E := E) (fn := Try.f37) (g := .pure _) (by rfl) (by rfl) (fun _ _ => by rfl) (by decide +kernel) (by rfl) (by rfl) (by rfl) fun _ => ?_
  refine goes hE 100 ?_
  conv => whnf
  rfl
theorem id_ok (p : Pend) : CallOK Try.prog 65 [p.av] [] (.ret (.int .i64 p.id)) [] := by
  refine CallOK.to (E := E) (fn := Try.f65) (g := .pure _) (by rfl) (by rfl) (fun _ _ => by rfl) (by decide +kernel) (by rfl) (by rfl) (by rfl) fun _ => ?_
  refine goes hE 100 ?_
  conv => whnf
theorem seq_ok (p : Pend) : CallOK Try.prog 66 [p.av] [] (.ret (.int .i64 p.seq)) [] := by
  refine CallOK.to (E := E) (fn := Try.f66) (g := .pure _) (by rfl) (by rfl) (fun _ _ => by rfl) (by decide +kernel) (by rfl) (by rfl) (by rfl) fun _ => ?_
  refine goes hE 100 ?_
  conv => whnf
theorem is_ok (p : Pend) (b : Int) : CallOK Try.prog 45 [.iface 66 p.av, .int .i64 b] [] (.ret (.bool (p.id == b))) [] := by
  refine CallOK.to (E := E) (fn := Try.f45) (g := .pure _) (by rfl) (by rfl) (fun _ _ => by rfl) (by decide +kernel) (by rfl) (by rfl) (by rfl) fun _ => ?_
  refine goes hE 100 ?_
  conv => whnf
  refine .pure _ [] (id_ok p) ?_
  refine goes hE 100 ?_
  conv => whnf
theorem behind_ok (p q : Pend) : CallOK Try.prog 40 [.iface 66 p.av, .iface 66 q.av] [] (.ret (.bool (decide (q.seq < p.seq)))) [] := by
  refine CallOK.to (E := E) (fn := Try.f40) (g := .pure _) (by rfl) (by rfl) (fun _ _ => by rfl) (by decide +kernel) (by rfl) (by rfl) (by rfl) fun _ => ?_
  refine goes hE 100 ?_
  conv => whnf
  refine .pure _ [] (seq_ok p) ?_
  refine goes hE 100 ?_
  conv => whnf
  refine .pure _ [] (seq_ok q) ?_
  refine goes hE 100 ?_
  conv => whnf
/-- the closure of Put -/
theorem putC_ok (x p : Pend) : CallOK Try.prog 39 [x.av, .ptr p.cs] [] (.ret (.bool (decide (p.seq < x.seq)))) [] := by
  refine CallOK.to (E := E) (fn := Try.f39) (g := .pure _) (by rfl) (by rfl) (fun _ _ => by rfl) (by decide +kernel) (by rfl) (by rfl) (by rfl) fun _ => ?_
  refine goes hE 100 ?_
  conv => whnf
  refine .pure _ [] (behind_ok x p) ?_
  refine goes hE 100 ?_
  conv => whnf
/-- the closure of Find -/
theorem findC_ok (x : Pend) (a : Int) : CallOK Try.prog 44 [x.av, .ptr [.int .i64 a]] [] (.ret (.bool (x.id == a))) [] := by
  refine CallOK.to (E := E) (fn := Try.f44) (g := .pure _) (by rfl) (by rfl) (fun _ _ => by rfl) (by decide +kernel) (by rfl) (by rfl) (by rfl) fun _ => ?_
  refine goes hE 100 ?_
  conv => whnf
  refine .pure _ [] (is_ok x a) ?_
  refine goes hE 100 ?_
  conv => whnf
end Go.Proofs.Ytgjcojagbgdpnaa

namespace Go.Proofs.Ytgjcojagbgdpnaa
open Go Go.AW Go.Proofs
set_option maxRecDepth 10000

theorem index_loop (f : FuncId) (l : List AVal) (xs : List Pend) (p : Pend → Bool) (hf : ∀ x ∈ xs, CallOK Try.prog f [x.av, .ptr l] [] (.ret (.bool (p x))) []) (hl : ((pav xs).length : Int) ≤ 9223372036854775807) (r : Int) :
    ∀ (n i : Nat), i + n = xs.length → idx p (xs.drop i) i = r →
    To E Try.f38 (.pure (.ret (.int .i64 r))) (.head (stk Try.f38 0)
      [(0, .slice 11 (pav xs) .no), (1, .func (.func f) [] [.ptr l]), (7, .int .i64 ((pav xs).length : Nat)), (8, .int .i64 i)] []) := by
  have hlen : (pav xs).length = xs.length := by simp
  intro n
  induction n with
  | zero =>
    intro i hi hr
    refine goes hE 100 ?_
    conv => whnf
    refine ⟨fun h => ?_, fun h => ?_⟩
    · exact absurd (of_decide_eq_true h) (by omega)
    · refine goes hE 100 ?_
      conv => whnf
      rw [List.drop_eq_nil_of_le (by omega)] at hr
      rw [← hr]
      rfl
  | succ n ih =>
    intro i hi hr
    have hlt : i < xs.length := by omega
    refine goes hE 100 ?_
    conv => whnf
    refine ⟨fun h => ?_, fun h => ?_⟩
    · refine goes hE 100 ?_
      conv => whnf
      refine ⟨i, rfl, ?_⟩
      refine goes hE 100 ?_
      conv => whnf
      refine ⟨_, pav_get hlt, ?_⟩
      refine goes hE 100 ?_
      conv => whnf
      refine .pure _ [] (hf xs[i] (List.getElem_mem hlt)) ?_
      refine goes hE 100 ?_
      conv => whnf
      rw [List.drop_eq_getElem_cons hlt] at hr
      have hr : (if p xs[i] then (i : Int) else idx p (xs.drop (i + 1)) ((i : Int) + 1)) = r := hr
      refine ⟨fun h2 => ?_, fun h2 => ?_⟩
      · refine goes hE 100 ?_
        conv => whnf
        rw [if_pos h2] at hr
        rw [hr]
      · refine goes hE 100 ?_
        conv => whnf
        rw [if_neg (by rw [h2]; simp)] at hr
        refine .inl ⟨⟨by simp only [kmin]; omega, by simp only [kmax]; omega⟩, ?_⟩
        refine goes hE 100 ?_
        conv => whnf
        refine To.head [0, 1, 7, 8] ?_
        exact ih (i + 1) (by omega) (by rw [← hr]; push_cast; rfl)
    · exact absurd (of_decide_eq_false h) (by omega)

theorem index_ok (f : FuncId) (l : List AVal) (xs : List Pend) (p : Pend → Bool) (hf : ∀ x ∈ xs, CallOK Try.prog f [x.av, .ptr l] [] (.ret (.bool (p x))) []) :
    CallOK Try.prog 38 [.slice 11 (pav xs) .no, .func (.func f) [] [.ptr l]] [] (.ret (.int .i64 (idx p xs 0))) [] := by
  refine CallOK.to (E := E) (fn := Try.f38) (g := .pure _) (by rfl) (by rfl) (fun _ _ => by rfl) (by decide +kernel) (by rfl) (by rfl) (by rfl) fun ho => ?_
  refine goes hE 100 ?_
  conv => whnf
  refine To.head [0, 1, 7, 8] ?_
  exact index_loop f l xs p hf ho.1 _ xs.length 0 (by omega) (by simp)

theorem find_ok (xs : List Pend) (a : Int) : CallOK Try.prog 32 [.slice 11 (pav xs) .no, .int .i64 a] [] (.ret (.int .i64 (findP a xs))) [] := by
  refine CallOK.to (E := E) (fn := Try.f32) (g := .pure _) (by rfl) (by rfl) (fun _ _ => by rfl) (by decide +kernel) (by rfl) (by rfl) (by rfl) fun _ => ?_
  refine goes hE 100 ?_
  conv => whnf
  refine .pure _ [] (index_ok _ _ xs (fun x => x.id == a) fun x _ => findC_ok x a) ?_
  refine goes hE 100 ?_
  conv => whnf
  rfl
end Go.Proofs.Ytgjcojagbgdpnaa

namespace Go.Proofs.Ytgjcojagbgdpnaa
open Go Go.AW Go.Proofs
set_option maxRecDepth 10000

theorem fits11 {n : Nat} (h : n ≤ 1000000) : fits n 88 := ⟨by simp only [maxLen]; omega, by omega⟩

theorem clone_ok (xs : List Pend) (hx : xs.length ≤ 1000000) : CallOK Try.prog 42 [.slice 11 (pav xs) .no] [] (.ret (.row 0 0)) [.row 0 11 51 (pav xs)] := by
  refine CallOK.to (E := (Er [2, 5] [])) (fn := Try.f42) (g := .full 0 _ _) (by rfl) (by rfl) (fun _ _ => by rfl) (by decide +kernel) (by rfl) (by rfl) (by rfl) fun _ => ?_
  refine goes (hEr [2, 5] []) 100 ?_
  conv => whnf
  intro b hb
  refine goes (hEr [2, 5] []) 100 ?_
  conv => whnf
  refine ⟨fun h => ?_, fun h => ?_⟩
  · refine goes (hEr [2, 5] []) 100 ?_
    conv => whnf
    refine ⟨[], [1], ⟨rfl, rfl⟩, ?_⟩
    conv => whnf
    rw [hb (by simpa using h)]
    exact ⟨rfl, rfl⟩
  · refine goes (hEr [2, 5] []) 100 ?_
    conv => whnf
    refine ⟨fits11 (by simpa using hx), ?_⟩
    refine goes (hEr [2, 5] []) 100 ?_
    conv => whnf
    refine ⟨[], [1], ⟨rfl, rfl⟩, ?_⟩
    exact ⟨rfl, rfl⟩

theorem del_list {α : Type} (l : List α) (i : Nat) (hi : i < l.length) (z : α) :
    (l.take (0 + i) ++ (l.drop (i + 1)).take (l.length - (i + 1)) ++ l.drop (0 + i + (l.length - (i + 1)))).take (0 + (l.length - 1)) ++ List.replicate (l.length - (l.length - 1)) z ++
      (l.take (0 + i) ++ (l.drop (i + 1)).take (l.length - (i + 1)) ++ l.drop (0 + i + (l.length - (i + 1)))).drop (0 + (l.length - 1) + (l.length - (l.length - 1))) = l.eraseIdx i ++ [z] := by
  have e1 : (l.drop (i + 1)).take (l.length - (i + 1)) = l.drop (i + 1) := List.take_of_length_le (by simp)
  have e2 : l.length - (l.length - 1) = 1 := by omega
  have e3 : (l.take (0 + i) ++ l.drop (i + 1)).length = l.length - 1 := by simp; omega
  rw [e1, e2, List.eraseIdx_eq_take_drop_succ]
  simp only [Nat.zero_add] at e3 ⊢
  have e4 : (l.take i ++ l.drop (i + 1) ++ l.drop (i + (l.length - (i + 1)))).take (l.length - 1) = l.take i ++ l.drop (i + 1) := by
    rw [List.take_append_of_le_length (by omega), List.take_of_length_le (by omega)]
  have e5 : (l.take i ++ l.drop (i + 1) ++ l.drop (i + (l.length - (i + 1)))).drop (l.length - 1 + 1) = [] := by
    refine List.drop_eq_nil_of_le ?_
    rw [List.length_append, e3, List.length_drop]
    omega
  rw [e4, e5]
  simp

theorem delete_ok (xs : List Pend) (i : Nat) (hi : i < xs.length) (hx : xs.length ≤ 1000000) : CallOK Try.prog 43 [.row 0 0, .int .i64 i, .int .i64 ((i : Int) + 1)] [.row 0 11 51 (pav xs)]
    (.ret (.sub 0 0 0 (xs.length - 1) 11)) [.row 0 11 51 (pav (xs.eraseIdx i) ++ [(one' 0 0).av])] := by
  refine CallOK.to (E := E) (fn := Try.f43) (g := .full 1 _ _) (by rfl) (by rfl) (fun _ _ => by rfl) (by decide +kernel) (by rfl) (by rfl) (by rfl) fun _ => ?_
  refine goes hE 100 ?_
  conv => whnf
  refine ⟨i, rfl, ?_⟩
  refine goes hE 100 ?_
  conv => whnf
  refine ⟨i + 1, by push_cast; rfl, ?_⟩
  refine goes hE 100 ?_
  conv => whnf
  refine ⟨xs.length, by simp, ?_⟩
  refine goes hE 100 ?_
  conv => whnf
  refine ⟨⟨⟨by omega, by omega⟩, by simp⟩, ?_⟩
  refine goes hE 100 ?_
  conv => whnf
  refine ⟨fun h => ?_, fun h => ?_⟩
  · simp at h
    omega
  · refine goes hE 100 ?_
    conv => whnf
    refine ⟨i, rfl, ?_⟩
    refine goes hE 100 ?_
    conv => whnf
    refine ⟨by simp; omega, ?_⟩
    refine goes hE 100 ?_
    conv => whnf
    refine ⟨i + 1, by push_cast; rfl, ?_⟩
    refine goes hE 100 ?_
    conv => whnf
    refine ⟨by simp; omega, ?_⟩
    refine goes hE 100 ?_
    conv => whnf
    have hlen : (pav xs).length = xs.length := by simp
    have hl1 : (List.take ((pav xs).length - (i + 1)) (List.drop (i + 1) (pav xs))).length = xs.length - (i + 1) := by simp
    rw [hl1, hlen]
    refine ⟨by omega, ?_⟩
    refine goes hE 100 ?_
    conv => whnf
    refine ⟨xs.length - 1, by omega, ?_⟩
    refine goes hE 100 ?_
    conv => whnf
    refine ⟨xs.length, rfl, ?_⟩
    refine goes hE 100 ?_
    conv => whnf
    refine ⟨by simp; omega, ?_⟩
    refine goes hE 100 ?_
    conv => whnf
    refine ⟨[], [0], ⟨rfl, rfl⟩, ?_⟩
    conv => whnf
    refine ⟨?_, ?_⟩
    · show Res.ret (.sub 0 0 0 (i + (xs.length - (i + 1))) 11) = _
      rw [show i + (xs.length - (i + 1)) = xs.length - 1 from by omega]
    · have h := del_list (pav xs) i (by rw [hlen]; exact hi) (one' 0 0).av
      rw [hlen] at h
      have h2 : (pav xs).eraseIdx i = pav (xs.eraseIdx i) := by simp only [pav, List.eraseIdx_eq_take_drop_succ, List.map_append, List.map_take, List.map_drop]
      rw [h2] at h
      exact congrArg (fun l => [AObj.row 0 11 51 l]) h
end Go.Proofs.Ytgjcojagbgdpnaa

namespace Go.Proofs.Ytgjcojagbgdpnaa
open Go Go.AW Go.Proofs
set_option maxRecDepth 10000

theorem overlapsP_ok (xs ys : List AVal) (lo len : Nat) : CallOK Try.prog 46 [.row 0 0, .sub 1 0 lo len 11] [.row 0 11 51 xs, .row 0 11 51 ys] (.ret (.bool false)) [.row 0 11 51 xs, .row 0 11 51 ys] :=
  overlaps_ok (fn := Try.f46) (tS := 47) (tR := 4) (e := 51) (by kernel_rfl) (by kernel_rfl) (by kernel_rfl) (by kernel_rfl) (by kernel_rfl) (by kernel_rfl) (by kernel_rfl) (by decide) xs ys lo len

/-- what is written into a row -/
theorem spl_get {α : Type} (xs ys : List α) (lo len q : Nat) (h : lo + len ≤ xs.length) : (xs.take lo ++ ys.take len ++ xs.drop (lo + min ys.length len))[q]? = if lo ≤ q ∧ q < lo + min ys.length len then ys[q - lo]? else xs[q]? := by
  have e1 : (xs.take lo).length = lo := by simp; omega
  have e2 : (ys.take len).length = min ys.length len := by rw [List.length_take, Nat.min_comm]
  by_cases h1 : q < lo
  · rw [if_neg (by omega), List.append_assoc, List.getElem?_append_left (by omega), List.getElem?_take_of_lt h1]
  · by_cases h2 : q < lo + min ys.length len
    · rw [if_pos ⟨by omega, h2⟩, List.getElem?_append_left (by rw [List.length_append]; omega), List.getElem?_append_right (by omega), e1, List.getElem?_take_of_lt (by omega)]
    · rw [if_neg (by omega), List.getElem?_append_right (by rw [List.length_append]; omega), List.length_append, e1, e2, List.getElem?_drop]
      congr 1
      omega
theorem ins_get {α : Type} (l : List α) (p : α) (i q : Nat) (hi : i ≤ l.length) : (l.take i ++ [p] ++ l.drop i)[q]? = if q < i then l[q]? else if q = i then some p else l[q - 1]? := by
  have e1 : (l.take i).length = i := by simp; omega
  by_cases h1 : q < i
  · rw [if_pos h1, List.append_assoc, List.getElem?_append_left (by omega), List.getElem?_take_of_lt h1]
  · rw [if_neg h1, List.append_assoc, List.getElem?_append_right (by omega), e1]
    by_cases h2 : q = i
    · rw [if_pos h2, h2]; simp
    · rw [if_neg h2, show q - i = (q - 1 - i) + 1 from by omega]
      show (l.drop i)[q - 1 - i]? = _
      rw [List.getElem?_drop]
      congr 1
      omega
theorem ins_in {α : Type} (l L : List α) (p : α) (i : Nat) (hi : i < l.length) (hL : L.length = l.length + 1) (hl : ∀ q, q < l.length → L[q]? = l[q]?) :
    ∀ A B, A = L.take (i + 1) ++ ((L.drop i).take (L.length - i)).take (L.length - (i + 1)) ++ L.drop (i + 1 + min ((L.drop i).take (L.length - i)).length (L.length - (i + 1))) →
      B = A.take i ++ [p].take (A.length - i) ++ A.drop (i + min [p].length (A.length - i)) → B = l.take i ++ [p] ++ l.drop i := by
  intro A B hA hB
  have e0 : ((L.drop i).take (L.length - i)).length = l.length + 1 - i := by simp; omega
  have gA : ∀ q, A[q]? = if i + 1 ≤ q ∧ q < l.length + 1 then L[q - 1]? else L[q]? := fun q => by
    rw [hA, spl_get _ _ _ _ _ (by omega), e0, hL]
    by_cases h : i + 1 ≤ q ∧ q < l.length + 1
    · rw [if_pos (by omega), if_pos h, List.getElem?_take_of_lt (by omega), List.getElem?_drop]
      congr 1
      omega
    · rw [if_neg (by omega), if_neg h]
  have hAl : A.length = l.length + 1 := by rw [hA]; simp; omega
  refine List.ext_getElem? fun q => ?_
  rw [ins_get _ _ _ _ (by omega), hB, spl_get _ _ _ _ _ (by omega)]
  have e1 : min [p].length (A.length - i) = 1 := by rw [hAl]; simp; omega
  rw [e1]
  by_cases h1 : q < i
  · rw [if_neg (by omega), if_pos h1, gA, if_neg (by omega), hl q (by omega)]
  · rw [if_neg h1]
    by_cases h2 : q = i
    · rw [if_pos (by omega), if_pos h2, h2]; simp
    · rw [if_neg (by omega), if_neg h2, gA]
      by_cases h3 : q < l.length + 1
      · rw [if_pos (by omega), hl _ (by omega)]
      · rw [if_neg (by omega), List.getElem?_eq_none (by omega), List.getElem?_eq_none (by omega)]
theorem ins_new {α : Type} (l L : List α) (p : α) (i : Nat) (hi : i < l.length) (hL : L.length = l.length + 1) (hl : ∀ q, q < i → L[q]? = l[q]?) :
    ∀ A B, A = L.take i ++ [p].take (L.length - i) ++ L.drop (i + min [p].length (L.length - i)) →
      B = A.take (i + 1) ++ ((l.drop i).take (l.length - i)).take (A.length - (i + 1)) ++ A.drop (i + 1 + min ((l.drop i).take (l.length - i)).length (A.length - (i + 1))) → B = l.take i ++ [p] ++ l.drop i := by
  intro A B hA hB
  have e0 : ((l.drop i).take (l.length - i)).length = l.length - i := by simp
  have e1 : min [p].length (L.length - i) = 1 := by rw [hL]; simp; omega
  have gA : ∀ q, A[q]? = if q = i then some p else L[q]? := fun q => by
    rw [hA, spl_get _ _ _ _ _ (by omega), e1]
    by_cases h : q = i
    · rw [if_pos (by omega), if_pos h, h]; simp
    · rw [if_neg (by omega), if_neg h]
  have hAl : A.length = l.length + 1 := by rw [hA]; simp; omega
  refine List.ext_getElem? fun q => ?_
  rw [ins_get _ _ _ _ (by omega), hB, spl_get _ _ _ _ _ (by omega), e0, hAl, show min (l.length - i) (l.length + 1 - (i + 1)) = l.length - i from by omega]
  by_cases h1 : q < i
  · rw [if_neg (by omega), if_pos h1, gA, if_neg (by omega), hl q h1]
  · rw [if_neg h1]
    by_cases h2 : q = i
    · rw [if_neg (by omega), if_pos h2, gA, if_pos h2]
    · rw [if_neg h2]
      by_cases h3 : q < l.length + 1
      · rw [if_pos (by omega), List.getElem?_take_of_lt (by omega), List.getElem?_drop]
        congr 1
        omega
      · rw [if_neg (by omega), gA, if_neg h2, List.getElem?_eq_none (by omega), List.getElem?_eq_none (by omega)]

theorem fits11' {n : Nat} (h : n ≤ 1000001) : fits n 88 := ⟨by simp only [maxLen]; omega, by omega⟩

theorem insert_ok (xs : List Pend) (p : Pend) (i : Nat) (hi : i ≤ xs.length) (hx : xs.length ≤ 1000000) :
    CallOK Try.prog 41 [.row 0 0, .int .i64 i, .row 1 0] [.row 0 11 51 (pav xs), .row 0 11 51 [p.av]]
    (.ret (.row 0 1)) [.row 1 11 51 (pav (xs.take i ++ [p] ++ xs.drop i)), .row 0 11 51 [p.av]] := by
  have hlen : (pav xs).length = xs.length := by simp
  refine CallOK.to (E := (Er [60] [])) (fn := Try.f41) (g := .full 2 _ _) (by rfl) (by rfl) (fun _ _ => by rfl) (by decide +kernel) (by rfl) (by rfl) (by rfl) fun _ => ?_
  refine To.cap (t := 0) rfl rfl fun c hc hcm => ?_
  rw [hlen] at hc
  refine goes (hEr [60] []) 100 ?_
  conv => whnf
  refine ⟨i, rfl, ?_⟩
  refine goes (hEr [60] []) 100 ?_
  conv => whnf
  rw [hlen]
  refine ⟨hi, ?_⟩
  refine goes (hEr [60] []) 100 ?_
  conv => whnf
  refine ⟨fun h => ?_, fun h => ?_⟩
  · cases h
  · refine goes (hEr [60] []) 100 ?_
    conv => whnf
    refine ⟨fun h => ?_, fun h => ?_⟩
    · refine goes (hEr [60] []) 100 ?_
      conv => whnf
      have hi2 : i = xs.length := by have : (i : Int) = xs.length := by simpa using h
                                     omega
      refine ⟨by rw [hlen]; exact fits11' (by simp; omega), ?_⟩
      refine goes (hEr [60] []) 100 ?_
      conv => whnf
      refine ⟨[], [0, 1], ⟨rfl, rfl⟩, ?_⟩
      conv => whnf
      refine ⟨rfl, ?_⟩
      have : pav (xs.take i ++ [p] ++ xs.drop i) = pav xs ++ [p.av] := by simp [hi2]
      rw [this]
      rfl
    · have hi2 : i < xs.length := by
        have : ¬ (i : Int) = xs.length := by simpa using h
        omega
      refine goes (hEr [60] []) 100 ?_
      conv => whnf
      have h1 : ([p.av].length) = 1 := rfl
      rw [hlen, h1]
      refine .inl ⟨in64 (by omega) (by omega), ?_⟩
      refine goes (hEr [60] []) 100 ?_
      conv => whnf
      refine ⟨fun h => ?_, fun h => ?_⟩
      · have hg : c < xs.length + 1 := by
          have := of_decide_eq_true h
          omega
        refine goes (hEr [60] []) 100 ?_
        conv => whnf
        refine ⟨i, rfl, ?_⟩
        refine goes (hEr [60] []) 100 ?_
        conv => whnf
        refine ⟨⟨by simp; omega, by omega⟩, ?_⟩
        refine goes (hEr [60] []) 100 ?_
        conv => whnf
        refine .inl ⟨in64 (by omega) (by omega), ?_⟩
        refine goes (hEr [60] []) 100 ?_
        conv => whnf
        refine .inl ⟨in64 (by omega) (by omega), ?_⟩
        refine goes (hEr [60] []) 100 ?_
        conv => whnf
        refine ⟨xs.length + 1 - i, by omega, ?_⟩
        refine goes (hEr [60] []) 100 ?_
        conv => whnf
        refine ⟨⟨by omega, fits11' (by omega)⟩, ?_⟩
        refine goes (hEr [60] []) 100 ?_
        conv => whnf
        refine ⟨i, rfl, ?_⟩
        refine goes (hEr [60] []) 100 ?_
        conv => whnf
        have hL : (List.take i (pav xs) ++ List.replicate (xs.length + 1 - i) (one' 0 0).av).length = xs.length + 1 := by simp; omega
        refine ⟨by simp; omega, ?_⟩
        refine goes (hEr [60] []) 100 ?_
        conv => whnf
        refine .inl ⟨in64 (by omega) (by omega), ?_⟩
        refine goes (hEr [60] []) 100 ?_
        conv => whnf
        refine ⟨i + 1, by push_cast; rfl, ?_⟩
        refine goes (hEr [60] []) 100 ?_
        conv => whnf
        refine ⟨by simp; omega, ?_⟩
        refine goes (hEr [60] []) 100 ?_
        conv => whnf
        refine ⟨i, rfl, ?_⟩
        refine goes (hEr [60] []) 100 ?_
        conv => whnf
        refine ⟨by simp; omega, ?_⟩
        refine goes (hEr [60] []) 7 ?_
        conv => whnf
        refine To.become (j := 0) (k := 2) [9] rfl rfl rfl rfl ?_
        refine goes (hEr [60] []) 100 ?_
        conv => whnf
        refine ⟨[], [0, 1], ⟨rfl, rfl⟩, ?_⟩
        conv => whnf
        refine ⟨rfl, ?_⟩
        have h := ins_new (pav xs) _ p.av i (by rw [hlen]; exact hi2) (by rw [hL, hlen]) (fun q hq => by rw [List.getElem?_append_left (by simp; omega), List.getElem?_take_of_lt hq]) _ _ rfl rfl
        have h2 : pav (xs.take i ++ [p] ++ xs.drop i) = (pav xs).take i ++ [p.av] ++ (pav xs).drop i := by simp
        rw [h2]
        exact congrArg (fun l => [AObj.row 1 11 51 l, .row 0 11 51 [p.av]]) h
      · have hg : xs.length + 1 ≤ c := by
          have := of_decide_eq_false h
          omega
        refine goes (hEr [60] []) 100 ?_
        conv => whnf
        refine .inl ⟨in64 (by omega) (by omega), ?_⟩
        refine goes (hEr [60] []) 100 ?_
        conv => whnf
        refine ⟨xs.length + 1, by push_cast; rfl, ?_⟩
        refine goes (hEr [60] []) 100 ?_
        conv => whnf
        refine ⟨⟨by simp, hg⟩, ?_⟩
        refine goes (hEr [60] []) 100 ?_
        conv => whnf
        refine .inl ⟨in64 (by omega) (by omega), ?_⟩
        refine goes (hEr [60] []) 100 ?_
        conv => whnf
        refine ⟨i + 1, by push_cast; rfl, ?_⟩
        refine goes (hEr [60] []) 100 ?_
        conv => whnf
        refine ⟨by simp; omega, ?_⟩
        refine goes (hEr [60] []) 100 ?_
        conv => whnf
        refine .eff [] [1, 0] _ _ rfl (overlapsP_ok _ _ _ _) ?_
        refine goes (hEr [60] []) 100 ?_
        conv => whnf
        refine ⟨fun h => ?_, fun h => ?_⟩
        · refine goes (hEr [60] []) 100 ?_
          conv => whnf
          refine .inl ⟨in64 (by omega) (by omega), ?_⟩
          refine goes (hEr [60] []) 100 ?_
          conv => whnf
          refine ⟨i + 1, by push_cast; rfl, ?_⟩
          refine goes (hEr [60] []) 100 ?_
          conv => whnf
          refine ⟨by simp; omega, ?_⟩
          refine goes (hEr [60] []) 100 ?_
          conv => whnf
          refine ⟨i, rfl, ?_⟩
          refine goes (hEr [60] []) 100 ?_
          conv => whnf
          refine ⟨by simp; omega, ?_⟩
          refine goes (hEr [60] []) 100 ?_
          conv => whnf
          refine ⟨i, rfl, ?_⟩
          refine goes (hEr [60] []) 100 ?_
          conv => whnf
          refine ⟨by simp; omega, ?_⟩
          refine goes (hEr [60] []) 100 ?_
          conv => whnf
          refine ⟨[], [0, 1], ⟨rfl, rfl⟩, ?_⟩
          conv => whnf
          refine ⟨rfl, ?_⟩
          have hL : (pav xs ++ List.replicate (xs.length + 1 - (pav xs).length) (AVal.agg (List.replicate 11 AVal.undef))).length = (pav xs).length + 1 := by simp
          have h := ins_in (pav xs) _ p.av i (by rw [hlen]; exact hi2) hL (fun q hq => by rw [List.getElem?_append_left hq]) _ _ rfl rfl
          have h2 : pav (xs.take i ++ [p] ++ xs.drop i) = (pav xs).take i ++ [p.av] ++ (pav xs).drop i := by simp
          rw [h2]
          exact congrArg (fun l => [AObj.row 1 11 51 l, .row 0 11 51 [p.av]]) h
        · cases h
end Go.Proofs.Ytgjcojagbgdpnaa

namespace Go.Proofs.Ytgjcojagbgdpnaa
open Go Go.AW Go.Proofs
set_option maxRecDepth 10000

/-- where one is put -/
def putAt (p : Pend) (l : List Pend) : Nat := if idx (fun x => decide (p.seq < x.seq)) l 0 < 0 then l.length else (idx (fun x => decide (p.seq < x.seq)) l 0).toNat
def putP (l : List Pend) (p : Pend) : List Pend := l.take (putAt p l) ++ [p] ++ l.drop (putAt p l)
def takeP (l : List Pend) (a : Int) : List Pend := if findP a l < 0 then l else l.eraseIdx (findP a l).toNat

theorem idx_bound (p : Pend → Bool) : ∀ (l : List Pend) (i : Int), idx p l i = -1 ∨ (i ≤ idx p l i ∧ idx p l i < i + l.length)
  | [], i => .inl rfl
  | x :: r, i => by
    unfold idx
    split
    · right; simp; omega
    · rcases idx_bound p r (i + 1) with h | h
      · exact .inl h
      · right; simp; omega

theorem put_ok (l : List Pend) (p : Pend) (hl : l.length ≤ 1000000) : CallOK Try.prog 28 [.slice 11 (pav l) .no, p.av] [] (.ret (.slice 11 (pav (putP l p)) .no)) [] := by
  have hlen : (pav l).length = l.length := by simp
  refine CallOK.to (E := (Er [17] [])) (fn := Try.f28) (g := .pure _) (by rfl) (by rfl) (fun _ _ => by rfl) (by decide +kernel) (by rfl) (by rfl) (by rfl) fun _ => ?_
  refine goes (hEr [17] []) 100 ?_
  conv => whnf
  refine .pure _ [] (index_ok _ _ l (fun x => decide (p.seq < x.seq)) fun x _ => putC_ok x p) ?_
  refine goes (hEr [17] []) 100 ?_
  conv => whnf
  have fin : ∀ (i : Nat), i = putAt p l → i ≤ l.length := fun i hi => by
    subst hi
    unfold putAt
    rcases idx_bound (fun x => decide (p.seq < x.seq)) l 0 with h | h
    · rw [if_pos (by omega)]
      exact Nat.le_refl _
    · rw [if_neg (by omega)]; omega
  refine ⟨fun h => ?_, fun h => ?_⟩
  · have hk : putAt p l = l.length := if_pos (of_decide_eq_true h)
    refine goes (hEr [17] []) 100 ?_
    conv => whnf
    refine .pure _ _ (clone_ok l hl) ?_
    refine goes (hEr [17] []) 100 ?_
    conv => whnf
    rw [hlen]
    refine .sole rfl (.eff [] [1, 2] _ _ rfl (insert_ok l p l.length (Nat.le_refl _) hl) ?_)
    refine goes (hEr [17] []) 100 ?_
    conv => whnf
    rw [← hk]
    rfl
  · have hk : idx (fun x => decide (p.seq < x.seq)) l 0 = ((putAt p l : Nat) : Int) := by
      have := of_decide_eq_false h
      unfold putAt
      rw [if_neg this]
      omega
    rw [hk]
    refine goes (hEr [17] []) 100 ?_
    conv => whnf
    refine .pure _ _ (clone_ok l hl) ?_
    refine goes (hEr [17] []) 100 ?_
    conv => whnf
    refine .sole rfl (.eff [] [1, 2] _ _ rfl (insert_ok l p (putAt p l) (fin _ rfl) hl) ?_)
    refine goes (hEr [17] []) 100 ?_
    conv => whnf
    rfl

theorem take_ok (l : List Pend) (a : Int) (hl : l.length ≤ 1000000) : CallOK Try.prog 30 [.slice 11 (pav l) .no, .int .i64 a] [] (.ret (.tup [.slice 11 (pav (takeP l a)) .no, .bool (!decide (findP a l < 0))])) [] := by
  refine CallOK.to (E := E) (fn := Try.f30) (g := .pure _) (by rfl) (by rfl) (fun _ _ => by rfl) (by decide +kernel) (by rfl) (by rfl) (by rfl) fun _ => ?_
  refine goes hE 100 ?_
  conv => whnf
  refine .pure _ _ (clone_ok l hl) ?_
  refine goes hE 100 ?_
  conv => whnf
  refine .pure _ [] (find_ok l a) ?_
  refine goes hE 100 ?_
  conv => whnf
  refine ⟨fun h => ?_, fun h => ?_⟩
  · refine goes hE 100 ?_
    conv => whnf
    have h2 := of_decide_eq_true h
    unfold takeP
    rw [if_pos h2, h]
    rfl
  · have h2 := of_decide_eq_false h
    have hb : findP a l < l.length := by
      rcases idx_bound (fun x => x.id == a) l 0 with h | h
      · unfold findP at h2; omega
      · unfold findP; omega
    have hk : findP a l = (((findP a l).toNat : Nat) : Int) := by omega
    have ht : takeP l a = l.eraseIdx (findP a l).toNat := if_neg h2
    rw [h, ht]
    obtain ⟨k, hkk⟩ : ∃ k : Nat, findP a l = (k : Int) := ⟨_, hk⟩
    have hkl : k < l.length := by omega
    rw [hkk, Int.toNat_natCast]
    refine goes hE 100 ?_
    conv => whnf
    refine .inl ⟨in64 (by omega) (by omega), ?_⟩
    refine goes hE 100 ?_
    conv => whnf
    refine .eff [] [0] _ _ rfl (delete_ok l k hkl hl) ?_
    refine goes hE 100 ?_
    conv => whnf
    have : List.take (l.length - 1) (List.drop 0 (pav (l.eraseIdx k) ++ [(one' 0 0).av])) = pav (l.eraseIdx k) := by
      rw [List.drop_zero, List.take_append_of_le_length (by simp [List.length_eraseIdx, hkl]), List.take_of_length_le (by simp [List.length_eraseIdx, hkl])]
    have h3 : Res.ret (.tup [.slice 11 (List.take (l.length - 1) (List.drop 0 (pav (l.eraseIdx k) ++ [(one' 0 0).av]))) .no, .bool true]) = Res.ret (.tup [.slice 11 (pav (l.eraseIdx k)) .no, .bool (!false)]) := by rw [this]; rfl
    exact h3
end Go.Proofs.Ytgjcojagbgdpnaa

namespace Go.Proofs.Ytgjcojagbgdpnaa
open Go Go.AW Go.Proofs
set_option maxRecDepth 10000

theorem findref_loop (xs : List Pend) (a : Int) (hl : ((pav xs).length : Int) ≤ 9223372036854775807) (r : Int) : ∀ (n i : Nat), i + n = xs.length → idx (fun x => x.id == a) (xs.drop i) i = r →
    To E Try.f33 (.pure (.ret (.int .i64 r))) (.head (stk Try.f33 0) [(0, .slice 11 (pav xs) .no), (1, .int .i64 a), (5, .int .i64 i)] []) := by
  have hlen : (pav xs).length = xs.length := by simp
  intro n
  induction n with
  | zero =>
    intro i hi hr
    refine goes hE 100 ?_
    conv => whnf
    refine ⟨fun h => ?_, fun h => ?_⟩
    · exact absurd (of_decide_eq_true h) (by omega)
    · refine goes hE 100 ?_
      conv => whnf
      rw [List.drop_eq_nil_of_le (by omega)] at hr
      rw [← hr]
      rfl
  | succ n ih =>
    intro i hi hr
    have hlt : i < xs.length := by omega
    refine goes hE 100 ?_
    conv => whnf
    refine ⟨fun h => ?_, fun h => ?_⟩
    · refine goes hE 100 ?_
      conv => whnf
      refine ⟨i, rfl, ?_⟩
      refine goes hE 100 ?_
      conv => whnf
      refine ⟨_, pav_get hlt, ?_⟩
      refine goes hE 100 ?_
      conv => whnf
      rw [List.drop_eq_getElem_cons hlt] at hr
      have hr : (if xs[i].id == a then (i : Int) else idx (fun x => x.id == a) (xs.drop (i + 1)) ((i : Int) + 1)) = r := hr
      refine ⟨fun h2 => ?_, fun h2 => ?_⟩
      · refine goes hE 100 ?_
        conv => whnf
        rw [if_pos h2] at hr
        rw [hr]
      · refine goes hE 100 ?_
        conv => whnf
        rw [if_neg (by rw [h2]; simp)] at hr
        refine .inl ⟨in64 (by omega) (by omega), ?_⟩
        refine goes hE 100 ?_
        conv => whnf
        refine To.head [0, 1, 5] ?_
        exact ih (i + 1) (by omega) (by rw [← hr]; push_cast; rfl)
    · exact absurd (of_decide_eq_false h) (by omega)
theorem findref_ok (xs : List Pend) (a : Int) : CallOK Try.prog 33 [.slice 11 (pav xs) .no, .int .i64 a] [] (.ret (.int .i64 (findP a xs))) [] := by
  refine CallOK.to (E := E) (fn := Try.f33) (g := .pure _) (by rfl) (by rfl) (fun _ _ => by rfl) (by decide +kernel) (by rfl) (by rfl) (by rfl) fun ho => ?_
  refine goes hE 100 ?_
  conv => whnf
  refine To.head [0, 1, 5] ?_
  exact findref_loop xs a ho.1 _ xs.length 0 (by omega) (by simp [findP])

theorem take_len {α : Type} (l : List α) (k : Nat) : (l.take k).length ≤ l.length := by simp; omega

theorem takeref_ok (l : List Pend) (a : Int) (hl : l.length ≤ 1000000) : CallOK Try.prog 31 [.slice 11 (pav l) .no, .int .i64 a] [] (.ret (.tup [.slice 11 (pav (takeP l a)) .no, .bool (!decide (findP a l < 0))])) [] := by
  have hlen : (pav l).length = l.length := by simp
  refine CallOK.to (E := E) (fn := Try.f31) (g := .pure _) (by rfl) (by rfl) (fun _ _ => by rfl) (by decide +kernel) (by rfl) (by rfl) (by rfl) fun _ => ?_
  refine goes hE 100 ?_
  conv => whnf
  refine .pure _ [] (findref_ok l a) ?_
  refine goes hE 100 ?_
  conv => whnf
  refine ⟨fun h => ?_, fun h => ?_⟩
  · refine goes hE 100 ?_
    conv => whnf
    refine ⟨fits11 (by rw [hlen]; exact hl), ?_⟩
    refine goes hE 100 ?_
    conv => whnf
    have h2 := of_decide_eq_true h
    unfold takeP
    rw [if_pos h2, h]
    rfl
  · have h2 := of_decide_eq_false h
    have hb : findP a l < l.length := by
      rcases idx_bound (fun x => x.id == a) l 0 with h | h
      · unfold findP at h2; omega
      · unfold findP; omega
    have ht : takeP l a = l.eraseIdx (findP a l).toNat := if_neg h2
    rw [h, ht]
    obtain ⟨k, hkk⟩ : ∃ k : Nat, findP a l = (k : Int) := ⟨(findP a l).toNat, by omega⟩
    have hkl : k < l.length := by omega
    rw [hkk, Int.toNat_natCast]
    refine goes hE 100 ?_
    conv => whnf
    refine ⟨k, rfl, ?_⟩
    refine goes hE 100 ?_
    conv => whnf
    refine ⟨by rw [hlen]; omega, ?_⟩
    refine goes hE 100 ?_
    conv => whnf
    refine ⟨fits11 (by have := take_len (pav l) k; omega), ?_⟩
    refine goes hE 100 ?_
    conv => whnf
    refine .inl ⟨in64 (by omega) (by omega), ?_⟩
    refine goes hE 100 ?_
    conv => whnf
    refine ⟨k + 1, by push_cast; rfl, ?_⟩
    refine goes hE 100 ?_
    conv => whnf
    refine ⟨by rw [hlen]; omega, ?_⟩
    refine goes hE 100 ?_
    conv => whnf
    refine ⟨fits11 (by simp; omega), ?_⟩
    refine goes hE 100 ?_
    conv => whnf
    have : List.take k (pav l) ++ List.drop (k + 1) (pav l) = pav (l.eraseIdx k) := by simp only [pav, List.eraseIdx_eq_take_drop_succ, List.map_append, List.map_take, List.map_drop]
    rw [this]
    rfl
end Go.Proofs.Ytgjcojagbgdpnaa

namespace Go.Proofs.Ytgjcojagbgdpnaa
open Go Go.AW Go.Proofs
set_option maxRecDepth 10000

theorem putAt_idx {p : Pend} {l : List Pend} {i : Nat} (h : idx (fun x => decide (p.seq < x.seq)) l 0 = (i : Int)) : putAt p l = i := by
  unfold putAt
  rw [h, if_neg (by omega)]
  rfl
theorem putAt_none {p : Pend} {l : List Pend} (h : idx (fun x => decide (p.seq < x.seq)) l 0 = -1) : putAt p l = l.length := by
  unfold putAt
  rw [h, if_pos (by omega)]

theorem putref_loop (l : List Pend) (p : Pend) (hl : l.length ≤ 1000000) : ∀ (n i : Nat), i + n = l.length → idx (fun x => decide (p.seq < x.seq)) (l.drop i) i = idx (fun x => decide (p.seq < x.seq)) l 0 →
    To (Er [] [29, 30, 31]) Try.f29 (.pure (.ret (.slice 11 (pav (putP l p)) .no))) (.head (stk Try.f29 0) [(0, .slice 11 (pav l) .no), (3, .ref 0 0), (5, .int .i64 i)] [.cells p.cs]) := by
  have hlen : (pav l).length = l.length := by simp
  intro n
  induction n with
  | zero =>
    intro i hi hr
    refine goes (hEr [] [29, 30, 31]) 100 ?_
    conv => whnf
    refine ⟨fun h => ?_, fun h => ?_⟩
    · exact absurd (of_decide_eq_true h) (by omega)
    · refine goes (hEr [] [29, 30, 31]) 100 ?_
      conv => whnf
      refine ⟨fun h2 => (by cases h2), fun _ => ?_⟩
      have hp : putAt p l = i := by
        rw [putAt_none]
        · omega
        · rw [← hr, List.drop_eq_nil_of_le (by omega)]; rfl
      refine goes (hEr [] [29, 30, 31]) 100 ?_
      conv => whnf
      refine ⟨i, rfl, ?_⟩
      refine goes (hEr [] [29, 30, 31]) 100 ?_
      conv => whnf
      refine ⟨by rw [hlen]; omega, ?_⟩
      refine goes (hEr [] [29, 30, 31]) 100 ?_
      conv => whnf
      refine ⟨fits11 (by have := take_len (pav l) i; omega), ?_⟩
      refine goes (hEr [] [29, 30, 31]) 100 ?_
      conv => whnf
      refine ⟨fits11' (by simp; omega), ?_⟩
      refine goes (hEr [] [29, 30, 31]) 100 ?_
      conv => whnf
      refine ⟨i, rfl, ?_⟩
      refine goes (hEr [] [29, 30, 31]) 100 ?_
      conv => whnf
      refine ⟨by rw [hlen]; omega, ?_⟩
      refine goes (hEr [] [29, 30, 31]) 100 ?_
      conv => whnf
      refine ⟨fits11' (by simp; omega), ?_⟩
      refine goes (hEr [] [29, 30, 31]) 100 ?_
      conv => whnf
      rw [putP, hp]
      have : List.take i (pav l) ++ [p.av] ++ List.drop i (pav l) = pav (l.take i ++ [p] ++ l.drop i) := by simp
      rw [← this]
      rfl
  | succ n ih =>
    intro i hi hr
    have hlt : i < l.length := by omega
    refine goes (hEr [] [29, 30, 31]) 100 ?_
    conv => whnf
    refine ⟨fun h => ?_, fun h => ?_⟩
    · refine goes (hEr [] [29, 30, 31]) 100 ?_
      conv => whnf
      refine ⟨i, rfl, ?_⟩
      refine goes (hEr [] [29, 30, 31]) 100 ?_
      conv => whnf
      refine ⟨_, pav_get hlt, ?_⟩
      refine goes (hEr [] [29, 30, 31]) 100 ?_
      conv => whnf
      rw [List.drop_eq_getElem_cons hlt] at hr
      have hr : (if decide (p.seq < l[i].seq) then (i : Int) else idx (fun x => decide (p.seq < x.seq)) (l.drop (i + 1)) ((i : Int) + 1)) = idx (fun x => decide (p.seq < x.seq)) l 0 := hr
      refine ⟨fun h2 => ?_, fun h2 => ?_⟩
      · refine goes (hEr [] [29, 30, 31]) 100 ?_
        conv => whnf
        have h3 := of_decide_eq_true h2
        rw [if_neg (by simp; omega)] at hr
        refine .inl ⟨in64 (by omega) (by omega), ?_⟩
        refine goes (hEr [] [29, 30, 31]) 100 ?_
        conv => whnf
        refine To.cut [0, 3, 5] 1 rfl rfl rfl ?_
        exact ih (i + 1) (by omega) (by rw [← hr]; push_cast; rfl)
      · have h3 := of_decide_eq_false h2
        rw [if_pos (by simp; omega)] at hr
        have hp : putAt p l = i := putAt_idx hr.symm
        refine goes (hEr [] [29, 30, 31]) 100 ?_
        conv => whnf
        refine ⟨i, rfl, ?_⟩
        refine goes (hEr [] [29, 30, 31]) 100 ?_
        conv => whnf
        refine ⟨by rw [hlen]; omega, ?_⟩
        refine goes (hEr [] [29, 30, 31]) 100 ?_
        conv => whnf
        refine ⟨fits11 (by have := take_len (pav l) i; omega), ?_⟩
        refine goes (hEr [] [29, 30, 31]) 100 ?_
        conv => whnf
        refine ⟨fits11' (by simp; omega), ?_⟩
        refine goes (hEr [] [29, 30, 31]) 100 ?_
        conv => whnf
        refine ⟨i, rfl, ?_⟩
        refine goes (hEr [] [29, 30, 31]) 100 ?_
        conv => whnf
        refine ⟨by rw [hlen]; omega, ?_⟩
        refine goes (hEr [] [29, 30, 31]) 100 ?_
        conv => whnf
        refine ⟨fits11' (by simp; omega), ?_⟩
        refine goes (hEr [] [29, 30, 31]) 100 ?_
        conv => whnf
        rw [putP, hp]
        have : List.take i (pav l) ++ [p.av] ++ List.drop i (pav l) = pav (l.take i ++ [p] ++ l.drop i) := by simp
        rw [← this]
        rfl
    · exact absurd (of_decide_eq_false h) (by omega)
theorem putref_ok (l : List Pend) (p : Pend) (hl : l.length ≤ 1000000) : CallOK Try.prog 29 [.slice 11 (pav l) .no, p.av] [] (.ret (.slice 11 (pav (putP l p)) .no)) [] := by
  refine CallOK.to (E := (Er [] [29, 30, 31])) (fn := Try.f29) (g := .pure _) (by rfl) (by rfl) (fun _ _ => by rfl) (by decide +kernel) (by rfl) (by rfl) (by rfl) fun _ => ?_
  refine goes (hEr [] [29, 30, 31]) 100 ?_
  conv => whnf
  refine To.cut [0, 3, 5] 1 rfl rfl rfl ?_
  exact putref_loop l p hl l.length 0 (by omega) (by simp)
end Go.Proofs.Ytgjcojagbgdpnaa

namespace Go.Proofs.Ytgjcojagbgdpnaa
open Go Go.AW Go.Proofs
set_option maxRecDepth 10000

def okAt (l : List Pend) (i : Nat) : Bool := match l[i]?, l[i - 1]? with
  | some c, some p => !((decide (0 < i) && !decide (p.seq < c.seq)) || (findP c.id l != (i : Int)))
  | _, _ => true
def checkFrom (l : List Pend) : Nat → Nat → Bool
  | 0, _ => true
  | n + 1, i => okAt l i && checkFrom l n (i + 1)
def checkP (l : List Pend) : Bool := checkFrom l l.length 0

theorem check_loop (l : List Pend) (hl : l.length ≤ 1000000) (r : Bool) : ∀ (n i : Nat), i + n = l.length → checkFrom l n i = r →
    To E Try.f34 (.pure (.ret (.bool r))) (.head (stk Try.f34 0) [(0, .slice 11 (pav l) .no), (5, .slice 11 (pav l) .no), (6, .int .i64 ((pav l).length : Nat)), (7, .int .i64 i)] []) := by
  have hlen : (pav l).length = l.length := by simp
  intro n
  induction n with
  | zero =>
    intro i hi hr
    refine goes hE 100 ?_
    conv => whnf
    refine ⟨fun h => ?_, fun h => ?_⟩
    · exact absurd (of_decide_eq_true h) (by omega)
    · refine goes hE 100 ?_
      conv => whnf
      rw [← hr]
      rfl
  | succ n ih =>
    intro i hi hr
    have hlt : i < l.length := by omega
    have hr : (okAt l i && checkFrom l n (i + 1)) = r := hr
    have back : checkFrom l n (i + 1) = r → inR .i64 ((i : Int) + 1) ∧ To E Try.f34 (.pure (.ret (.bool r))) (.head (stk Try.f34 0) [(0, .slice 11 (pav l) .no), (5, .slice 11 (pav l) .no), (6, .int .i64 ((pav l).length : Nat)), (7, .int .i64 ((i : Int) + 1))] []) := fun h =>
      ⟨in64 (by omega) (by omega), by have := ih (i + 1) (by omega) h; push_cast at this; exact this⟩
    refine goes hE 100 ?_
    conv => whnf
    refine ⟨fun h => ?_, fun h => ?_⟩
    · refine goes hE 100 ?_
      conv => whnf
      refine ⟨i, rfl, ?_⟩
      refine goes hE 100 ?_
      conv => whnf
      refine ⟨_, pav_get hlt, ?_⟩
      refine goes hE 100 ?_
      conv => whnf
      refine ⟨fun h1 => ?_, fun h1 => ?_⟩
      · have hpos : 0 < i := by have := of_decide_eq_true h1; omega
        have hlt1 : i - 1 < l.length := by omega
        have hok : okAt l i = !((true && !decide (l[i - 1].seq < l[i].seq)) || (findP l[i].id l != (i : Int))) := by
          unfold okAt
          rw [List.getElem?_eq_getElem hlt, List.getElem?_eq_getElem hlt1, decide_eq_true hpos]
        refine goes hE 100 ?_
        conv => whnf
        refine .inl ⟨in64 (by omega) (by omega), ?_⟩
        refine goes hE 100 ?_
        conv => whnf
        refine ⟨i - 1, by omega, ?_⟩
        refine goes hE 100 ?_
        conv => whnf
        refine ⟨_, pav_get hlt1, ?_⟩
        refine goes hE 100 ?_
        conv => whnf
        refine .pure _ [] (behind_ok _ _) ?_
        refine goes hE 100 ?_
        conv => whnf
        refine ⟨fun h2 => ?_, fun h2 => ?_⟩
        · refine goes hE 100 ?_
          conv => whnf
          refine ⟨fun _ => ?_, fun h3 => (by cases h3)⟩
          refine goes hE 100 ?_
          conv => whnf
          rw [hok, h2] at hr
          rw [← hr]
          rfl
        · refine goes hE 100 ?_
          conv => whnf
          refine .pure _ [] (find_ok _ _) ?_
          refine goes hE 100 ?_
          conv => whnf
          refine ⟨fun h3 => ?_, fun h3 => ?_⟩
          · refine goes hE 100 ?_
            conv => whnf
            rw [hok, h2, h3] at hr
            rw [← hr]
            rfl
          · refine goes hE 100 ?_
            conv => whnf
            rw [hok, h2, h3] at hr
            obtain ⟨b1, b2⟩ := back hr
            refine .inl ⟨b1, ?_⟩
            refine goes hE 100 ?_
            conv => whnf
            refine To.cut [0, 5, 6, 7] 0 rfl rfl rfl ?_
            exact b2
      · have h0 : i = 0 := by have := of_decide_eq_false h1; omega
        have hok : okAt l i = !((false && false) || (findP l[i].id l != (i : Int))) := by
          unfold okAt
          have hlt1 : i - 1 < l.length := by omega
          rw [List.getElem?_eq_getElem hlt, List.getElem?_eq_getElem hlt1]
          subst h0
          simp
        refine goes hE 100 ?_
        conv => whnf
        refine ⟨fun h2 => (by cases h2), fun _ => ?_⟩
        refine goes hE 100 ?_
        conv => whnf
        refine .pure _ [] (find_ok _ _) ?_
        refine goes hE 100 ?_
        conv => whnf
        refine ⟨fun h3 => ?_, fun h3 => ?_⟩
        · refine goes hE 100 ?_
          conv => whnf
          rw [hok, h3] at hr
          rw [← hr]
          rfl
        · refine goes hE 100 ?_
          conv => whnf
          rw [hok, h3] at hr
          obtain ⟨b1, b2⟩ := back hr
          refine .inl ⟨b1, ?_⟩
          refine goes hE 100 ?_
          conv => whnf
          refine To.cut [0, 5, 6, 7] 0 rfl rfl rfl ?_
          exact b2
    · exact absurd (of_decide_eq_false h) (by omega)
theorem check_ok (l : List Pend) (hl : l.length ≤ 1000000) : CallOK Try.prog 34 [.slice 11 (pav l) .no] [] (.ret (.bool (checkP l))) [] := by
  refine CallOK.to (E := E) (fn := Try.f34) (g := .pure _) (by rfl) (by rfl) (fun _ _ => by rfl) (by decide +kernel) (by rfl) (by rfl) (by rfl) fun _ => ?_
  refine goes hE 100 ?_
  conv => whnf
  refine To.cut [0, 5, 6, 7] 0 rfl rfl rfl ?_
  exact check_loop l hl _ l.length 0 (by omega) rfl
end Go.Proofs.Ytgjcojagbgdpnaa

namespace Go.Proofs.Ytgjcojagbgdpnaa
open Go Go.AW Go.Proofs
set_option maxRecDepth 10000

theorem checkref_loop (l : List Pend) (hl : l.length ≤ 1000000) (r : Bool) : ∀ (n i : Nat), i + n = l.length → checkFrom l n i = r →
    To E Try.f35 (.pure (.ret (.bool r))) (.head (stk Try.f35 0) [(0, .slice 11 (pav l) .no), (3, .int .i64 i)] []) := by
  have hlen : (pav l).length = l.length := by simp
  intro n
  induction n with
  | zero =>
    intro i hi hr
    refine goes hE 100 ?_
    conv => whnf
    refine ⟨fun h => ?_, fun h => ?_⟩
    · exact absurd (of_decide_eq_true h) (by omega)
    · refine goes hE 100 ?_
      conv => whnf
      rw [← hr]
      rfl
  | succ n ih =>
    intro i hi hr
    have hlt : i < l.length := by omega
    have hr : (okAt l i && checkFrom l n (i + 1)) = r := hr
    have back : checkFrom l n (i + 1) = r → inR .i64 ((i : Int) + 1) ∧ To E Try.f35 (.pure (.ret (.bool r))) (.head (stk Try.f35 0) [(0, .slice 11 (pav l) .no), (3, .int .i64 ((i : Int) + 1))] []) := fun h =>
      ⟨in64 (by omega) (by omega), by have := ih (i + 1) (by omega) h; push_cast at this; exact this⟩
    refine goes hE 100 ?_
    conv => whnf
    refine ⟨fun h => ?_, fun h => ?_⟩
    · refine goes hE 100 ?_
      conv => whnf
      refine ⟨fun h1 => ?_, fun h1 => ?_⟩
      · have hpos : 0 < i := by have := of_decide_eq_true h1; omega
        have hlt1 : i - 1 < l.length := by omega
        have hok : okAt l i = !((true && !decide (l[i - 1].seq < l[i].seq)) || (findP l[i].id l != (i : Int))) := by
          unfold okAt
          rw [List.getElem?_eq_getElem hlt, List.getElem?_eq_getElem hlt1, decide_eq_true hpos]
        have hle : (!decide (l[i - 1].seq < l[i].seq)) = decide (l[i].seq ≤ l[i - 1].seq) := by
          by_cases hq : l[i - 1].seq < l[i].seq
          · rw [decide_eq_true hq, decide_eq_false (by omega)]; rfl
          · rw [decide_eq_false hq, decide_eq_true (by omega)]; rfl
        rw [hle] at hok
        refine goes hE 100 ?_
        conv => whnf
        refine ⟨i, rfl, ?_⟩
        refine goes hE 100 ?_
        conv => whnf
        refine ⟨_, pav_get hlt, ?_⟩
        refine goes hE 100 ?_
        conv => whnf
        refine .inl ⟨in64 (by omega) (by omega), ?_⟩
        refine goes hE 100 ?_
        conv => whnf
        refine ⟨i - 1, by omega, ?_⟩
        refine goes hE 100 ?_
        conv => whnf
        refine ⟨_, pav_get hlt1, ?_⟩
        refine goes hE 100 ?_
        conv => whnf
        refine ⟨fun h2 => ?_, fun h2 => ?_⟩
        · refine goes hE 100 ?_
          conv => whnf
          refine ⟨fun _ => ?_, fun h3 => (by cases h3)⟩
          refine goes hE 100 ?_
          conv => whnf
          rw [hok, h2] at hr
          rw [← hr]
          rfl
        · refine goes hE 100 ?_
          conv => whnf
          refine ⟨i, rfl, ?_⟩
          refine goes hE 100 ?_
          conv => whnf
          refine ⟨_, pav_get hlt, ?_⟩
          refine goes hE 100 ?_
          conv => whnf
          refine .pure _ [] (findref_ok _ _) ?_
          refine goes hE 100 ?_
          conv => whnf
          refine ⟨fun h3 => ?_, fun h3 => ?_⟩
          · refine goes hE 100 ?_
            conv => whnf
            rw [hok, h2, h3] at hr
            rw [← hr]
            rfl
          · refine goes hE 100 ?_
            conv => whnf
            rw [hok, h2, h3] at hr
            obtain ⟨b1, b2⟩ := back hr
            refine .inl ⟨b1, ?_⟩
            refine goes hE 100 ?_
            conv => whnf
            refine To.cut [0, 3] 0 rfl rfl rfl ?_
            exact b2
      · have h0 : i = 0 := by have := of_decide_eq_false h1; omega
        have hok : okAt l i = !((false && false) || (findP l[i].id l != (i : Int))) := by
          unfold okAt
          have hlt1 : i - 1 < l.length := by omega
          rw [List.getElem?_eq_getElem hlt, List.getElem?_eq_getElem hlt1]
          subst h0
          simp
        refine goes hE 100 ?_
        conv => whnf
        refine ⟨fun h2 => (by cases h2), fun _ => ?_⟩
        refine goes hE 100 ?_
        conv => whnf
        refine ⟨i, rfl, ?_⟩
        refine goes hE 100 ?_
        conv => whnf
        refine ⟨_, pav_get hlt, ?_⟩
        refine goes hE 100 ?_
        conv => whnf
        refine .pure _ [] (findref_ok _ _) ?_
        refine goes hE 100 ?_
        conv => whnf
        refine ⟨fun h3 => ?_, fun h3 => ?_⟩
        · refine goes hE 100 ?_
          conv => whnf
          rw [hok, h3] at hr
          rw [← hr]
          rfl
        · refine goes hE 100 ?_
          conv => whnf
          rw [hok, h3] at hr
          obtain ⟨b1, b2⟩ := back hr
          refine .inl ⟨b1, ?_⟩
          refine goes hE 100 ?_
          conv => whnf
          refine To.cut [0, 3] 0 rfl rfl rfl ?_
          exact b2
    · exact absurd (of_decide_eq_false h) (by omega)
theorem checkref_ok (l : List Pend) (hl : l.length ≤ 1000000) : CallOK Try.prog 35 [.slice 11 (pav l) .no] [] (.ret (.bool (checkP l))) [] := by
  refine CallOK.to (E := E) (fn := Try.f35) (g := .pure _) (by rfl) (by rfl) (fun _ _ => by rfl) (by decide +kernel) (by rfl) (by rfl) (by rfl) fun _ => ?_
  refine goes hE 100 ?_
  conv => whnf
  refine To.cut [0, 3] 0 rfl rfl rfl ?_
  exact checkref_loop l hl _ l.length 0 (by omega) rfl
end Go.Proofs.Ytgjcojagbgdpnaa

namespace Go.Proofs.Ytgjcojagbgdpnaa
open Go Go.AW Go.Proofs
set_option maxRecDepth 10000

def eqP (x y : Pend) : Bool := (x.id == y.id) && ((x.tenant == y.tenant) && ((x.pods == y.pods) && ((x.n0 == y.n0) && ((x.n1 == y.n1) && ((x.n2 == y.n2) && ((x.run == y.run) && ((x.level == y.level) && ((x.prefer == y.prefer) && ((x.seq == y.seq) && ((x.since == y.since) && true))))))))))
theorem eqP_iff {x y : Pend} : eqP x y = true ↔ x = y := by
  obtain ⟨a0, a1, a2, a3, a4, a5, a6, a7, a8, a9, a10⟩ := x
  obtain ⟨b0, b1, b2, b3, b4, b5, b6, b7, b8, b9, b10⟩ := y
  simp [eqP]

theorem same_loop (a b : List Pend) (hab : a.length = b.length) (hl : ((pav a).length : Int) ≤ 9223372036854775807) (r : Bool) : ∀ (n i : Nat), i + n = a.length → decide (a.drop i = b.drop i) = r →
    To E Try.f27 (.pure (.ret (.bool r))) (.head (stk Try.f27 0) [(0, .slice 11 (pav a) .no), (1, .slice 11 (pav b) .no), (5, .int .i64 i)] []) := by
  have hlen : (pav a).length = a.length := by simp
  intro n
  induction n with
  | zero =>
    intro i hi hr
    refine goes hE 100 ?_
    conv => whnf
    refine ⟨fun h => ?_, fun h => ?_⟩
    · exact absurd (of_decide_eq_true h) (by omega)
    · refine goes hE 100 ?_
      conv => whnf
      rw [List.drop_eq_nil_of_le (by omega), List.drop_eq_nil_of_le (by omega)] at hr
      rw [← hr]
      rfl
  | succ n ih =>
    intro i hi hr
    have hlt : i < a.length := by omega
    have hlt2 : i < b.length := by omega
    rw [List.drop_eq_getElem_cons hlt, List.drop_eq_getElem_cons hlt2] at hr
    refine goes hE 100 ?_
    conv => whnf
    refine ⟨fun h => ?_, fun h => ?_⟩
    · refine goes hE 100 ?_
      conv => whnf
      refine ⟨i, rfl, ?_⟩
      refine goes hE 100 ?_
      conv => whnf
      refine ⟨_, pav_get hlt, ?_⟩
      refine goes hE 100 ?_
      conv => whnf
      refine ⟨i, rfl, ?_⟩
      refine goes hE 100 ?_
      conv => whnf
      refine ⟨_, pav_get hlt2, ?_⟩
      refine goes hE 100 ?_
      conv => whnf
      refine ⟨fun h2 => ?_, fun h2 => ?_⟩
      · have h3 : (!eqP a[i] b[i]) = true := h2
        refine goes hE 100 ?_
        conv => whnf
        have hne : a[i] ≠ b[i] := fun e => by rw [eqP_iff.2 e] at h3; cases h3
        rw [← hr, decide_eq_false fun e => hne (List.cons.inj e).1]
      · have h3 : (!eqP a[i] b[i]) = false := h2
        have he : a[i] = b[i] := eqP_iff.1 (by simpa using h3)
        refine goes hE 100 ?_
        conv => whnf
        refine .inl ⟨in64 (by omega) (by omega), ?_⟩
        refine goes hE 100 ?_
        conv => whnf
        refine To.head [0, 1, 5] ?_
        have := ih (i + 1) (by omega) (by rw [← hr, he]; exact decide_eq_decide.2 ⟨fun e => by rw [e], fun e => (List.cons.inj e).2⟩)
        push_cast at this
        exact this
    · exact absurd (of_decide_eq_false h) (by omega)
theorem same_ok (a b : List Pend) : CallOK Try.prog 27 [.slice 11 (pav a) .no, .slice 11 (pav b) .no] [] (.ret (.bool (decide (a = b)))) [] := by
  have hlen : (pav a).length = a.length := by simp
  have hlen2 : (pav b).length = b.length := by simp
  refine CallOK.to (E := E) (fn := Try.f27) (g := .pure _) (by rfl) (by rfl) (fun _ _ => by rfl) (by decide +kernel) (by rfl) (by rfl) (by rfl) fun ho => ?_
  refine goes hE 100 ?_
  conv => whnf
  refine ⟨fun h => ?_, fun h => ?_⟩
  · refine goes hE 100 ?_
    conv => whnf
    have hne : a ≠ b := fun e => by subst e; simp at h
    rw [decide_eq_false hne]
  · have hab : a.length = b.length := by
      have : ((a.length : Nat) : Int) = b.length := by simpa using h
      omega
    refine goes hE 100 ?_
    conv => whnf
    refine To.head [0, 1, 5] ?_
    exact same_loop a b hab ho.1 _ a.length 0 (by omega) (by simp)
theorem same_at (a b : List Pend) (h : a = b) : CallOK Try.prog 27 [.slice 11 (pav a) .no, .slice 11 (pav b) .no] [] (.ret (.bool true)) [] := by
  have := same_ok a b
  rw [decide_eq_true h] at this
  exact this
end Go.Proofs.Ytgjcojagbgdpnaa

namespace Go.Proofs.Ytgjcojagbgdpnaa
open Go Go.AW Go.Proofs
set_option maxRecDepth 10000

theorem put_at (l : List Pend) (p : Pend) (r : List Pend) (hl : l.length ≤ 1000000) (h : putP l p = r) : CallOK Try.prog 28 [.slice 11 (pav l) .no, p.av] [] (.ret (.slice 11 (pav r) .no)) [] := h ▸ put_ok l p hl
theorem take_at (l : List Pend) (a : Int) (r : List Pend) (b : Bool) (hl : l.length ≤ 1000000) (h : takeP l a = r) (hb : (!decide (findP a l < 0)) = b) : CallOK Try.prog 30 [.slice 11 (pav l) .no, .int .i64 a] [] (.ret (.tup [.slice 11 (pav r) .no, .bool b])) [] := h ▸ hb ▸ take_ok l a hl
theorem check_at (l : List Pend) (b : Bool) (hl : l.length ≤ 1000000) (h : checkP l = b) : CallOK Try.prog 34 [.slice 11 (pav l) .no] [] (.ret (.bool b)) [] := h ▸ check_ok l hl
theorem find_at (l : List Pend) (a i : Int) (h : findP a l = i) : CallOK Try.prog 32 [.slice 11 (pav l) .no, .int .i64 a] [] (.ret (.int .i64 i)) [] := h ▸ find_ok l a

theorem awake_ok : CallOK Try.prog 26 [] [] (.ret (.bool true)) [] := by
  refine CallOK.to (E := E) (fn := Try.f26) (g := .pure _) (by rfl) (by rfl) (fun _ _ => by rfl) (by decide +kernel) (by rfl) (by rfl) (by rfl) fun _ => ?_
  refine goes hE 100 ?_
  conv => whnf
  refine .pure _ [] (one_ok 1 1) ?_
  refine goes hE 100 ?_
  conv => whnf
  refine .pure _ [] (one_ok 2 5) ?_
  refine goes hE 100 ?_
  conv => whnf
  refine .pure _ [] (one_ok 3 3) ?_
  refine goes hE 100 ?_
  conv => whnf
  refine .pure _ [] (CallOK.strip (put_at [one' 1 1, one' 2 5] (one' 3 3) [one' 1 1, one' 3 3, one' 2 5] (by decide) (by decide))) ?_
  refine goes hE 100 ?_
  conv => whnf
  refine .pure _ [] (take_at [one' 1 1, one' 3 3, one' 2 5] 3 [one' 1 1, one' 2 5] true (by decide) (by decide) (by decide)) ?_
  refine goes hE 100 ?_
  conv => whnf
  refine .pure _ [] (take_at [one' 1 1, one' 3 3, one' 2 5] 9 [one' 1 1, one' 3 3, one' 2 5] false (by decide) (by decide) (by decide)) ?_
  refine goes hE 100 ?_
  conv => whnf
  refine ⟨fun _ => ?_, fun h => (by cases h)⟩
  refine goes hE 100 ?_
  conv => whnf
  refine ⟨1, rfl, ?_⟩
  refine goes hE 100 ?_
  conv => whnf
  refine ⟨_, rfl, ?_⟩
  refine goes hE 100 ?_
  conv => whnf
  refine ⟨fun _ => ?_, fun h => (by cases h)⟩
  refine goes hE 100 ?_
  conv => whnf
  refine .pure _ [] (check_at [one' 1 1, one' 3 3, one' 2 5] true (by decide) (by decide)) ?_
  refine goes hE 100 ?_
  conv => whnf
  refine ⟨fun _ => ?_, fun h => (by cases h)⟩
  refine goes hE 100 ?_
  conv => whnf
  refine ⟨fun _ => ?_, fun h => (by cases h)⟩
  refine goes hE 100 ?_
  conv => whnf
  refine ⟨fun _ => ?_, fun h => (by cases h)⟩
  refine goes hE 100 ?_
  conv => whnf
  refine ⟨fun _ => ?_, fun h => (by cases h)⟩
  refine goes hE 100 ?_
  conv => whnf
  refine .pure _ [] (find_at [one' 1 1, one' 3 3, one' 2 5] 2 2 (by decide)) ?_
  refine goes hE 100 ?_
  conv => whnf
  refine ⟨fun _ => ?_, fun h => (by cases h)⟩
  refine goes hE 100 ?_
  conv => whnf
  refine .pure _ [] (find_at [one' 1 1, one' 3 3, one' 2 5] 9 (-1) (by decide)) ?_
  refine goes hE 100 ?_
  conv => whnf
  refine ⟨fun _ => ?_, fun h => (by cases h)⟩
  refine goes hE 100 ?_
  conv => whnf
  refine .pure _ [] (one_ok 1 2) ?_
  refine goes hE 100 ?_
  conv => whnf
  refine .pure _ [] (one_ok 1 3) ?_
  refine goes hE 100 ?_
  conv => whnf
  refine .pure _ [] (CallOK.strip (check_at [one' 1 2, one' 1 3] false (by decide) (by decide))) ?_
  refine goes hE 100 ?_
  conv => whnf
  rfl
end Go.Proofs.Ytgjcojagbgdpnaa

namespace Go.Proofs.Ytgjcojagbgdpnaa
open Go Go.AW Go.Proofs
set_option maxRecDepth 10000

theorem puts_ok (l : List Pend) (p : Pend) : CallOK Try.prog 8 [.slice 11 (pav l) .no, p.av] [] (.ret (.bool true)) [] := by
  refine CallOK.to (E := E) (fn := Try.f8) (g := .pure _) (by rfl) (by rfl) (fun _ _ => by rfl) (by decide +kernel) (by rfl) (by rfl) (by rfl) fun _ => ?_
  refine goes hE 100 ?_
  conv => whnf
  refine .pure _ [] (few_ok l) ?_
  refine goes hE 100 ?_
  conv => whnf
  refine ⟨fun h => ?_, fun h => ?_⟩
  · refine goes hE 100 ?_
    conv => whnf
    refine .pure _ [] awake_ok ?_
    refine goes hE 100 ?_
    conv => whnf
  · have hl : l.length ≤ 1000000 := by
      have : ((l.length : Int) ≤ 200) := of_decide_eq_true (by simpa using h)
      omega
    refine goes hE 100 ?_
    conv => whnf
    refine .pure _ [] (put_ok l p hl) ?_
    refine goes hE 100 ?_
    conv => whnf
    refine .pure _ [] (putref_ok l p hl) ?_
    refine goes hE 100 ?_
    conv => whnf
    refine .pure _ [] (same_ok _ _) ?_
    have hs : decide (putP l p = putP l p) = true := by simp
    rw [hs]
    refine goes hE 100 ?_
    conv => whnf
    refine ⟨fun _ => ?_, fun h => (by cases h)⟩
    refine goes hE 100 ?_
    conv => whnf
    refine .pure _ [] awake_ok ?_
    refine goes hE 100 ?_
    conv => whnf

theorem takes_ok (l : List Pend) (a : Int) : CallOK Try.prog 9 [.slice 11 (pav l) .no, .int .i64 a] [] (.ret (.bool true)) [] := by
  refine CallOK.to (E := E) (fn := Try.f9) (g := .pure _) (by rfl) (by rfl) (fun _ _ => by rfl) (by decide +kernel) (by rfl) (by rfl) (by rfl) fun _ => ?_
  refine goes hE 100 ?_
  conv => whnf
  refine .pure _ [] (few_ok l) ?_
  refine goes hE 100 ?_
  conv => whnf
  refine ⟨fun h => ?_, fun h => ?_⟩
  · refine goes hE 100 ?_
    conv => whnf
    refine .pure _ [] awake_ok ?_
    refine goes hE 100 ?_
    conv => whnf
  · have hl : l.length ≤ 1000000 := by
      have : ((l.length : Int) ≤ 200) := of_decide_eq_true (by simpa using h)
      omega
    refine goes hE 100 ?_
    conv => whnf
    refine .pure _ [] (take_ok l a hl) ?_
    refine goes hE 100 ?_
    conv => whnf
    refine .pure _ [] (takeref_ok l a hl) ?_
    refine goes hE 100 ?_
    conv => whnf
    refine .pure _ [] (same_ok _ _) ?_
    have hs : decide (takeP l a = takeP l a) = true := by simp
    rw [hs]
    refine goes hE 100 ?_
    conv => whnf
    refine ⟨fun _ => ?_, fun h => (by cases h)⟩
    refine goes hE 100 ?_
    conv => whnf
    refine ⟨fun _ => ?_, fun h => (by simp at h)⟩
    refine goes hE 100 ?_
    conv => whnf
    refine .pure _ [] (find_ok l a) ?_
    refine goes hE 100 ?_
    conv => whnf
    refine .pure _ [] (findref_ok l a) ?_
    refine goes hE 100 ?_
    conv => whnf
    refine ⟨fun _ => ?_, fun h => (by simp at h)⟩
    refine goes hE 100 ?_
    conv => whnf
    refine .pure _ [] (check_ok l hl) ?_
    refine goes hE 100 ?_
    conv => whnf
    refine .pure _ [] (checkref_ok l hl) ?_
    refine goes hE 100 ?_
    conv => whnf
    refine ⟨fun _ => ?_, fun h => (by simp at h)⟩
    refine goes hE 100 ?_
    conv => whnf
    refine .pure _ [] awake_ok ?_
    refine goes hE 100 ?_
    conv => whnf
end Go.Proofs.Ytgjcojagbgdpnaa

namespace Go.Proofs.Ytgjcojagbgdpnaa
open Go Go.AW Go.Proofs
open Go.ChangeShapes Go.WideShapes Go.ChangeAt Go.RowKit

theorem tyInt {n : Nat} {cs : List AVal} (h : TyC Try.prog (n + 1) 3 cs) : ∃ m : Int, cs = [.int .i64 m] := by
  unfold TyC at h
  rw [Try.underlying3] at h
  obtain ⟨m, h, _⟩ := h
  exact ⟨m, h⟩
theorem tyVec {n : Nat} {cs : List AVal} (h : TyC Try.prog (n + 2) 29 cs) : ∃ a b c : Int, cs = [.int .i64 a, .int .i64 b, .int .i64 c] := by
  unfold TyC at h
  rw [Try.underlying29] at h
  obtain ⟨xs, hl, hx, rfl⟩ := h
  match xs, hl, hx with
  | [x, y, z], _, hx =>
    obtain ⟨a, rfl⟩ := tyInt (hx x (by simp))
    obtain ⟨b, rfl⟩ := tyInt (hx y (by simp))
    obtain ⟨c, rfl⟩ := tyInt (hx z (by simp))
    exact ⟨a, b, c, rfl⟩
theorem tyGang {n : Nat} {cs : List AVal} (h : TyC Try.prog (n + 3) 49 cs) : ∃ a0 a1 a2 a3 a4 a5 a6 a7 a8 : Int, cs = [.int .i64 a0, .int .i64 a1, .int .i64 a2, .int .i64 a3, .int .i64 a4, .int .i64 a5, .int .i64 a6, .int .i64 a7, .int .i64 a8] := by
  unfold TyC at h
  rw [Try.underlying49] at h
  obtain ⟨x0, r, rfl, h0, x1, r, rfl, h1, x2, r, rfl, h2, x3, r, rfl, h3, x4, r, rfl, h4, x5, r, rfl, h5, x6, r, rfl, h6, rfl⟩ := h
  obtain ⟨a0, rfl⟩ := tyInt h0
  obtain ⟨a1, rfl⟩ := tyInt h1
  obtain ⟨a2, rfl⟩ := tyInt h2
  obtain ⟨b0, b1, b2, rfl⟩ := tyVec h3
  obtain ⟨a4, rfl⟩ := tyInt h4
  obtain ⟨a5, rfl⟩ := tyInt h5
  obtain ⟨a6, rfl⟩ := tyInt h6
  exact ⟨a0, a1, a2, b0, b1, b2, a4, a5, a6, rfl⟩
theorem tyPend {n : Nat} {cs : List AVal} (h : TyC Try.prog (n + 4) 51 cs) : ∃ p : Pend, cs = p.cs := by
  unfold TyC at h
  rw [Try.underlying51] at h
  obtain ⟨x0, r, rfl, h0, x1, r, rfl, h1, x2, r, rfl, h2, rfl⟩ := h
  obtain ⟨a0, a1, a2, a3, a4, a5, a6, a7, a8, rfl⟩ := tyGang h0
  obtain ⟨a9, rfl⟩ := tyInt h1
  obtain ⟨a10, rfl⟩ := tyInt h2
  exact ⟨⟨a0, a1, a2, a3, a4, a5, a6, a7, a8, a9, a10⟩, rfl⟩
theorem pends {P : AVal → Prop} (hP : ∀ x, P x → ∃ p : Pend, x = p.av) : ∀ (xs : List AVal), (∀ x ∈ xs, P x) → ∃ l : List Pend, xs = pav l
  | [], _ => ⟨[], rfl⟩
  | x :: xs, h => by
    obtain ⟨p, rfl⟩ := hP x (h x (by simp))
    obtain ⟨l, rfl⟩ := pends hP xs fun x hx => h x (by simp [hx])
    exact ⟨p :: l, rfl⟩

section
variable {H : Type} {enc : TypeId × Value → H} {W : World} {r : Reach} {base b0 : Nat} {spare : Nat → Bool} {held : Bool} {v : Value} {d : DataW H} {ps : List MemPlace}
theorem open_pav (hv : Value.okWide Try.prog W r b0 47 v) (h : DataW.Trod enc Try.prog W base spare held 47 v d ps) : ∃ l : List Pend, Rep (Mw W) [] v (.slice 11 (pav l) .no) := by
  obtain ⟨xs, hr, _, hx⟩ := arg_slice (n := 4) Try.underlying47 (by kernel_rfl) hv h
  have hc : Try.prog.cellsOf 51 = 11 := by kernel_rfl
  rw [hc] at hr
  obtain ⟨l, rfl⟩ := pends (P := fun x => TyC Try.prog 4 51 x.cells ∧ (isAggT Try.prog 51 = true → ∃ l, x = .agg l)) (fun x ⟨h1, h2⟩ => by
    obtain ⟨l, rfl⟩ := h2 (by kernel_rfl)
    obtain ⟨p, hp⟩ := tyPend (n := 0) h1
    exact ⟨p, by unfold Pend.av; rw [← hp]; rfl⟩) xs hx
  exact ⟨l, hr⟩
theorem open_pend (hv : Value.okWide Try.prog W r b0 51 v) : ∃ p : Pend, Rep (Mw W) [] v p.av := by
  obtain ⟨ns, rfl, hl, hi⟩ := okV_ints (k := .i64) (ts := List.replicate 11 3) (by kernel_rfl) (by kernel_rfl) (by kernel_rfl) (fun u hu => (by
    obtain ⟨_, rfl⟩ := List.mem_replicate.1 hu
    exact Try.underlying3)) hv
  match ns, hl with
  | [a0, a1, a2, a3, a4, a5, a6, a7, a8, a9, a10], _ => exact ⟨⟨a0, a1, a2, a3, a4, a5, a6, a7, a8, a9, a10⟩, rep_ints .i64 _ hi⟩
theorem open_int (hv : Value.okWide Try.prog W r b0 3 v) : ∃ n : Int, Rep (Mw W) [] v (.int .i64 n) := by
  obtain ⟨n, rfl, h⟩ := okC_int (k := .i64) (by kernel_rfl) (okV_cell (by kernel_rfl) hv)
  exact ⟨n, .int _ _ h⟩
end
end Go.Proofs.Ytgjcojagbgdpnaa

namespace Go.Proofs.Ytgjcojagbgdpnaa
open Go Go.AW Go.Proofs

/- ---------- the first place ---------- -/
theorem idx_at (p : Pend → Bool) : ∀ (l : List Pend) (i : Int) (k : Nat) (h : k < l.length), p l[k] = true → (∀ (j : Nat) (hj : j < l.length), j < k → p l[j] = false) → idx p l i = i + k
  | [], i, k, h, _, _ => by simp at h
  | x :: r, i, 0, h, h1, _ => by
    have : p x = true := h1
    simp [idx, this]
  | x :: r, i, k + 1, h, h1, h2 => by
    have hx : p x = false := h2 0 (by simp) (by omega)
    have := idx_at p r (i + 1) k (by simpa using h) (by simpa using h1) (fun j hj hjk => by have := h2 (j + 1) (by simpa using hj) (by omega); simpa using this)
    unfold idx
    rw [if_neg (by rw [hx]; simp), this]
    push_cast
    omega
theorem idx_none (p : Pend → Bool) : ∀ (l : List Pend) (i : Int), (∀ x ∈ l, p x = false) → idx p l i = -1
  | [], _, _ => rfl
  | x :: r, i, h => by
    unfold idx
    rw [if_neg (by rw [h x (by simp)]; simp)]
    exact idx_none p r (i + 1) fun y hy => h y (by simp [hy])
theorem idx_neg {p : Pend → Bool} : ∀ {l : List Pend} {i : Int}, 0 ≤ i → idx p l i < 0 → ∀ x ∈ l, p x = false
  | [], _, _, _, x, hx => by simp at hx
  | y :: r, i, h0, h, x, hx => by
    unfold idx at h
    split at h
    · omega
    · rename_i hy
      rcases List.mem_cons.1 hx with rfl | hx
      · simpa using hy
      · exact idx_neg (by omega) h x hx
/-- no earlier one -/
theorem idx_le {p : Pend → Bool} : ∀ {l : List Pend} {i : Int} {k : Nat} (h : k < l.length), p l[k] = true → idx p l i ≤ i + k
  | [], i, k, h, _ => by simp at h
  | x :: r, i, 0, h, h1 => by
    have : p x = true := h1
    simp [idx, this]
  | x :: r, i, k + 1, h, h1 => by
    unfold idx
    split
    · omega
    · have := idx_le (l := r) (i := i + 1) (k := k) (by simpa using h) (by simpa using h1)
      push_cast at this ⊢
      omega

/- ---------- one that is put is found, and taken again ---------- -/
theorem putAt_le (p : Pend) (l : List Pend) : putAt p l ≤ l.length := by
  unfold putAt
  rcases idx_bound (fun x => decide (p.seq < x.seq)) l 0 with h | h
  · rw [if_pos (by omega)]; exact Nat.le_refl _
  · rw [if_neg (by omega)]; omega
theorem putP_len (l : List Pend) (p : Pend) : (putP l p).length = l.length + 1 := by
  have := putAt_le p l
  simp [putP]
  omega
theorem find_put {l : List Pend} {p : Pend} (h : findP p.id l < 0) : findP p.id (putP l p) = (putAt p l : Nat) := by
  have hk := putAt_le p l
  have hn := idx_neg (Int.le_refl 0) h
  have hlen := putP_len l p
  have key : ∀ (j : Nat), (putP l p)[j]? = if j < putAt p l then l[j]? else if j = putAt p l then some p else l[j - 1]? := fun j => ins_get l p _ j hk
  have hkk : putAt p l < (putP l p).length := by omega
  have e0 : (putP l p)[putAt p l] = p := by
    have := key (putAt p l)
    rw [if_neg (by omega), if_pos rfl, List.getElem?_eq_getElem hkk] at this
    simpa using this
  have := idx_at (fun x => x.id == p.id) (putP l p) 0 (putAt p l) hkk (by rw [e0]; simp) fun j hj hjk => by
    have e := key j
    rw [if_pos hjk, List.getElem?_eq_getElem hj, List.getElem?_eq_getElem (show j < l.length by omega)] at e
    have e : (putP l p)[j] = l[j] := by simpa using e
    rw [e]
    exact hn _ (List.getElem_mem _)
  unfold findP
  rw [this]
  omega
theorem take_put {l : List Pend} {p : Pend} (h : findP p.id l < 0) : takeP (putP l p) p.id = l := by
  have hk := putAt_le p l
  unfold takeP
  rw [find_put h, if_neg (by omega), Int.toNat_natCast]
  refine List.ext_getElem? fun j => ?_
  have key : ∀ (j : Nat), (putP l p)[j]? = if j < putAt p l then l[j]? else if j = putAt p l then some p else l[j - 1]? := fun j => ins_get l p _ j hk
  rw [List.getElem?_eraseIdx]
  split
  · rename_i hj; rw [key, if_pos hj]
  · rename_i hj; rw [key, if_neg (by omega), if_neg (by omega)]; rfl

/- ---------- rows in order ---------- -/
structure Good (l : List Pend) : Prop where
  seq : l.Pairwise fun a b => a.seq < b.seq
  id : l.Pairwise fun a b => a.id ≠ b.id
theorem Good.sub {l m : List Pend} (h : Good l) (hs : m.Sublist l) : Good m := ⟨h.seq.sublist hs, h.id.sublist hs⟩

theorem checkFrom_iff {l : List Pend} : ∀ {n i : Nat}, checkFrom l n i = true ↔ ∀ j, i ≤ j → j < i + n → okAt l j = true
  | 0, i => by simp [checkFrom]; omega
  | n + 1, i => by
    simp only [checkFrom, Bool.and_eq_true, checkFrom_iff (n := n) (i := i + 1)]
    constructor
    · rintro ⟨h1, h2⟩ j hj1 hj2
      by_cases h : j = i
      · subst h; exact h1
      · exact h2 j (by omega) (by omega)
    · intro h
      exact ⟨h i (Nat.le_refl _) (by omega), fun j h1 h2 => h j (by omega) (by omega)⟩
theorem okAt_iff {l : List Pend} {j : Nat} (hj : j < l.length) : okAt l j = true ↔ (∀ (h : 0 < j), (l[j - 1]'(by omega)).seq < l[j].seq) ∧ findP l[j].id l = (j : Int) := by
  have hj1 : j - 1 < l.length := by omega
  unfold okAt
  rw [List.getElem?_eq_getElem hj, List.getElem?_eq_getElem hj1]
  simp only [Bool.not_or, Bool.and_eq_true, Bool.not_eq_true', bne_eq_false_iff_eq, Bool.and_eq_false_iff, decide_eq_false_iff_not]
  constructor
  · rintro ⟨h1, h2⟩
    refine ⟨fun h => ?_, h2⟩
    rcases h1 with h1 | h1
    · exact absurd h h1
    · simpa using h1
  · rintro ⟨h1, h2⟩
    refine ⟨?_, h2⟩
    by_cases h : 0 < j
    · right; simpa using h1 h
    · exact .inl h
theorem check_good {l : List Pend} : checkP l = true ↔ Good l := by
  unfold checkP
  rw [checkFrom_iff]
  constructor
  · intro h
    have hs : ∀ (j i : Nat) (hj : j < l.length) (hi : i < j), (l[i]'(by omega)).seq < l[j].seq := by
      intro j
      induction j with
      | zero => intro i _ hi; omega
      | succ j ih =>
        intro i hj hi
        have h1 := ((okAt_iff hj).1 (h (j + 1) (by omega) (by omega))).1 (by omega)
        have h1 : (l[j]'(by omega)).seq < (l[j + 1]).seq := h1
        by_cases hij : i = j
        · subst hij; exact h1
        · exact Int.lt_trans (ih i (by omega) (by omega)) h1
    refine ⟨List.pairwise_iff_getElem.2 fun i j hi hj hij => hs j i hj hij, List.pairwise_iff_getElem.2 fun i j hi hj hij e => ?_⟩
    have h2 := ((okAt_iff hj).1 (h j (by omega) (by omega))).2
    have := idx_le (p := fun x => x.id == l[j].id) (l := l) (i := 0) (k := i) hi (by simpa using e)
    unfold findP at h2
    omega
  · intro h j _ hj
    have hj : j < l.length := by omega
    refine (okAt_iff hj).2 ⟨fun h0 => List.pairwise_iff_getElem.1 h.seq _ _ (by omega) hj (by omega), ?_⟩
    have := idx_at (fun x => x.id == l[j].id) l 0 j hj (by simp) fun i hi hij => by
      have := List.pairwise_iff_getElem.1 h.id i j hi hj hij
      simpa using this
    unfold findP
    omega

/- ---------- in whatever order ---------- -/
/-- put, element by element -/
def insP (p : Pend) : List Pend → List Pend
  | [] => [p]
  | x :: r => if p.seq < x.seq then p :: x :: r else x :: insP p r
theorem putAt_cons (p x : Pend) (r : List Pend) : putAt p (x :: r) = if p.seq < x.seq then 0 else putAt p r + 1 := by
  by_cases h : p.seq < x.seq
  · rw [if_pos h]
    have : idx (fun x => decide (p.seq < x.seq)) (x :: r) 0 = 0 := by unfold idx; rw [if_pos (by simpa using h)]
    unfold putAt
    rw [this]
    rfl
  · rw [if_neg h]
    have e : idx (fun x => decide (p.seq < x.seq)) (x :: r) 0 = idx (fun x => decide (p.seq < x.seq)) r 1 := by
      conv => lhs; unfold idx
      rw [if_neg (by simpa using h)]
      rfl
    have sh : ∀ (q : Pend → Bool) (l : List Pend) (i : Int), (idx q l i = -1 ∧ idx q l (i + 1) = -1) ∨ (i ≤ idx q l i ∧ idx q l (i + 1) = idx q l i + 1) := by
      intro q l
      induction l with
      | nil => intro i; exact .inl ⟨rfl, rfl⟩
      | cons y t ih =>
        intro i
        unfold idx
        by_cases hy : q y = true
        · rw [if_pos hy, if_pos hy]; right; omega
        · rw [if_neg hy, if_neg hy]
          rcases ih (i + 1) with h | h
          · exact .inl h
          · right; omega
    rcases sh (fun x => decide (p.seq < x.seq)) r 0 with ⟨h1, h2⟩ | ⟨h1, h2⟩
    · unfold putAt
      rw [e, show (1 : Int) = 0 + 1 from rfl, h2, h1]
      simp
    · unfold putAt
      rw [e, show (1 : Int) = 0 + 1 from rfl, h2, if_neg (by omega), if_neg (by omega)]
      omega
theorem putP_ins (p : Pend) : ∀ (l : List Pend), putP l p = insP p l
  | [] => rfl
  | x :: r => by
    have ih := putP_ins p r
    unfold putP at ih ⊢
    rw [putAt_cons]
    unfold insP
    by_cases h : p.seq < x.seq
    · rw [if_pos h, if_pos h]; rfl
    · rw [if_neg h, if_neg h, ← ih]; rfl

/-- those at some places -/
def sel (P : Nat → Bool) : List Pend → Nat → List Pend
  | [], _ => []
  | x :: r, q => if P q then x :: sel P r (q + 1) else sel P r (q + 1)
theorem sel_sub (P : Nat → Bool) : ∀ (l : List Pend) (q : Nat), (sel P l q).Sublist l
  | [], _ => .slnil
  | x :: r, q => by
    unfold sel
    split
    · exact (sel_sub P r (q + 1)).cons_cons x
    · exact (sel_sub P r (q + 1)).cons x
theorem sel_congr {P Q : Nat → Bool} : ∀ {l : List Pend} {q : Nat}, (∀ i, q ≤ i → i < q + l.length → P i = Q i) → sel P l q = sel Q l q
  | [], _, _ => rfl
  | x :: r, q, h => by
    unfold sel
    rw [h q (Nat.le_refl _) (by simp), sel_congr (l := r) fun i h1 h2 => h i (by omega) (by simp; omega)]
theorem sel_all {P : Nat → Bool} : ∀ {l : List Pend} {q : Nat}, (∀ i, q ≤ i → i < q + l.length → P i = true) → sel P l q = l
  | [], _, _ => rfl
  | x :: r, q, h => by
    unfold sel
    rw [if_pos (h q (Nat.le_refl _) (by simp)), sel_all (l := r) fun i h1 h2 => h i (by omega) (by simp; omega)]
theorem sel_none {P : Nat → Bool} : ∀ {l : List Pend} {q : Nat}, (∀ i, P i = false) → sel P l q = []
  | [], _, _ => rfl
  | x :: r, q, h => by
    unfold sel
    rw [if_neg (by rw [h]; simp), sel_none (l := r) h]
theorem ins_front {p : Pend} : ∀ {m : List Pend}, (∀ x ∈ m, p.seq < x.seq) → insP p m = p :: m
  | [], _ => rfl
  | x :: r, h => by unfold insP; rw [if_pos (h x (by simp))]
theorem ins_sel {P : Nat → Bool} : ∀ {l : List Pend} {q r : Nat} (hr : r < l.length), l.Pairwise (fun a b => a.seq < b.seq) → P (q + r) = false → insP l[r] (sel P l q) = sel (fun i => P i || i == q + r) l q
  | [], _, r, hr, _, _ => by simp at hr
  | x :: t, q, 0, _, hs, hP => by
    have hx := List.pairwise_cons.1 hs
    have e1 : sel P (x :: t) q = sel P t (q + 1) := by
      unfold sel; rw [if_neg (by rw [show P q = false from hP]; simp)]
      cases t <;> rfl
    have e2 : sel (fun i => P i || i == q + 0) (x :: t) q = x :: sel P t (q + 1) := by
      conv => lhs; unfold sel
      rw [if_pos (by simp)]
      rw [sel_congr (l := t) (Q := P) fun i h1 h2 => by
        have : (i == q + 0) = false := by simp; omega
        simp [this]; omega]
    rw [e1, e2]
    exact ins_front fun y hy => hx.1 y ((sel_sub P t (q + 1)).subset hy)
  | x :: t, q, r + 1, hr, hs, hP => by
    have hx := List.pairwise_cons.1 hs
    have hr' : r < t.length := by simpa using hr
    have ih := ins_sel (P := P) (l := t) (q := q + 1) (r := r) hr' hx.2 (by rw [show q + 1 + r = q + (r + 1) from by omega]; exact hP)
    have hlt : x.seq < t[r].seq := hx.1 _ (List.getElem_mem _)
    have e : (fun i => P i || i == q + 1 + r) = fun i => P i || i == q + (r + 1) := by
      funext i; rw [show q + 1 + r = q + (r + 1) from by omega]
    rw [e] at ih
    have hq : (q == q + (r + 1)) = false := by simp
    show insP t[r] (sel P (x :: t) q) = _
    unfold sel
    by_cases h : P q = true
    · rw [if_pos h, if_pos (by simp [h])]
      unfold insP
      rw [if_neg (by omega), ih]
    · rw [if_neg h, if_neg (by simp [h])]
      exact ih
/-- the place of place q in a row that is begun at k -/
def shift (n k q : Nat) : Nat := if k ≤ q then q - k else q + n - k
theorem shift_iff {n k q i : Nat} (hk : k < n) (hq : q < n) (hi : i < n) : shift n k q = i ↔ q = (i + k) % n := by
  have e : (i + k) % n = if i + k < n then i + k else i + k - n := by
    split
    · exact Nat.mod_eq_of_lt (by assumption)
    · rw [Nat.mod_eq_sub_mod (by omega), Nat.mod_eq_of_lt (by omega)]
  rw [e]
  unfold shift
  split <;> split <;> omega
/-- the row behind i rounds -/
def rot (l : List Pend) (k i : Nat) : List Pend := sel (fun q => decide (shift l.length k q < i)) l 0
theorem rot_zero (l : List Pend) (k : Nat) : rot l k 0 = [] := sel_none fun i => by simp
theorem rot_all {l : List Pend} {k : Nat} (hk : k < l.length) : rot l k l.length = l := sel_all fun i _ hi => by
  unfold shift
  simp
  split <;> omega
theorem rot_succ {l : List Pend} {k i : Nat} (hg : Good l) (hk : k < l.length) (hi : i < l.length) : putP (rot l k i) (l[(i + k) % l.length]'(Nat.mod_lt _ (by omega))) = rot l k (i + 1) := by
  have hr : (i + k) % l.length < l.length := Nat.mod_lt _ (by omega)
  rw [putP_ins]
  unfold rot
  rw [ins_sel hr hg.seq]
  · refine sel_congr fun q _ hq => ?_
    have hq : q < l.length := by omega
    have := shift_iff hk hq hi
    have e : (q == 0 + (i + k) % l.length) = decide (shift l.length k q = i) := by
      rw [Nat.zero_add]
      by_cases h : shift l.length k q = i
      · rw [decide_eq_true h]; simpa using this.1 h
      · rw [decide_eq_false h]
        have : ¬ q = (i + k) % l.length := fun e => h (this.2 e)
        simpa using this
    rw [e]
    by_cases h1 : shift l.length k q < i
    · simp [h1]; omega
    · by_cases h2 : shift l.length k q = i
      · simp [h2]
      · simp [h1, h2]; omega
  · have := (shift_iff hk hr hi).2 rfl
    rw [Nat.zero_add, this]
    simp
theorem rot_good {l : List Pend} {k i : Nat} (hg : Good l) : Good (rot l k i) := hg.sub (sel_sub _ _ _)
end Go.Proofs.Ytgjcojagbgdpnaa

namespace Go.Proofs.Ytgjcojagbgdpnaa
open Go Go.AW Go.Proofs
set_option maxRecDepth 10000

theorem back_ok (l : List Pend) (p : Pend) : CallOK Try.prog 10 [.slice 11 (pav l) .no, p.av] [] (.ret (.bool true)) [] := by
  have hlen : (pav l).length = l.length := by simp
  refine CallOK.to (E := E) (fn := Try.f10) (g := .pure _) (by rfl) (by rfl) (fun _ _ => by rfl) (by decide +kernel) (by rfl) (by rfl) (by rfl) fun _ => ?_
  refine goes hE 100 ?_
  conv => whnf
  refine .pure _ [] (few_ok l) ?_
  refine goes hE 100 ?_
  conv => whnf
  refine ⟨fun h => ?_, fun h => ?_⟩
  · refine goes hE 100 ?_
    conv => whnf
    refine ⟨fun _ => ?_, fun h => (by cases h)⟩
    refine goes hE 100 ?_
    conv => whnf
    refine ⟨fun _ => ?_, fun h => (by cases h)⟩
    refine goes hE 100 ?_
    conv => whnf
    refine .pure _ [] awake_ok ?_
    refine goes hE 100 ?_
    conv => whnf
  · have hl2 : l.length ≤ 200 := by
      have : ((l.length : Int) ≤ 200) := of_decide_eq_true (by simpa using h)
      omega
    have hl : l.length ≤ 1000000 := by omega
    refine goes hE 100 ?_
    conv => whnf
    refine .pure _ [] (check_ok l hl) ?_
    refine goes hE 100 ?_
    conv => whnf
    refine ⟨fun h1 => ?_, fun h1 => ?_⟩
    · refine goes hE 100 ?_
      conv => whnf
      refine ⟨fun _ => ?_, fun h => (by cases h)⟩
      refine goes hE 100 ?_
      conv => whnf
      refine .pure _ [] awake_ok ?_
      refine goes hE 100 ?_
      conv => whnf
    · refine goes hE 100 ?_
      conv => whnf
      refine .pure _ [] (find_ok l p.id) ?_
      refine goes hE 100 ?_
      conv => whnf
      refine ⟨fun h2 => ?_, fun h2 => ?_⟩
      · refine goes hE 100 ?_
        conv => whnf
        refine .pure _ [] awake_ok ?_
        refine goes hE 100 ?_
        conv => whnf
      · have hf : findP p.id l < 0 := by
          have := of_decide_eq_false h2
          omega
        have hpl := putP_len l p
        have hlen2 : (pav (putP l p)).length = l.length + 1 := by simp [hpl]
        refine goes hE 100 ?_
        conv => whnf
        refine .pure _ [] (put_ok l p hl) ?_
        refine goes hE 100 ?_
        conv => whnf
        refine .pure _ [] (take_at (putP l p) p.id l true (by omega) (take_put hf) (by rw [find_put hf]; simp)) ?_
        refine goes hE 100 ?_
        conv => whnf
        rw [hlen, hlen2]
        refine .inl ⟨in64 (by omega) (by omega), ?_⟩
        refine goes hE 100 ?_
        conv => whnf
        refine ⟨fun _ => ?_, fun h => (by simp at h)⟩
        refine goes hE 100 ?_
        conv => whnf
        refine .pure _ [] (find_at (putP l p) p.id (putAt p l : Nat) (find_put hf)) ?_
        refine goes hE 100 ?_
        conv => whnf
        refine ⟨fun _ => ?_, fun h => (by have := of_decide_eq_false h; omega)⟩
        refine goes hE 100 ?_
        conv => whnf
        refine ⟨fun _ => ?_, fun h => (by cases h)⟩
        refine goes hE 100 ?_
        conv => whnf
        refine .pure _ [] (same_at l l rfl) ?_
        refine goes hE 100 ?_
        conv => whnf
        refine ⟨fun _ => ?_, fun h => (by cases h)⟩
        refine goes hE 100 ?_
        conv => whnf
        refine .pure _ [] awake_ok ?_
        refine goes hE 100 ?_
        conv => whnf

theorem tmod_nat (a b : Nat) : Int.tmod (a : Int) (b : Int) = ((a % b : Nat) : Int) := (Int.ofNat_tmod a b).symm

theorem tmod_ex {x : Int} {n : Nat} (hn : 0 < n) (hx : 0 ≤ x) : ∃ k : Nat, k < n ∧ Int.tmod x (n : Int) = (k : Int) := by
  obtain ⟨a, rfl⟩ := Int.eq_ofNat_of_zero_le hx
  exact ⟨a % n, Nat.mod_lt _ hn, tmod_nat a n⟩
theorem order_loop (l : List Pend) (hl : l.length ≤ 1000000) (hg : Good l) (k : Nat) (hk : k < l.length ∨ l = []) : ∀ (n i : Nat), i + n = l.length →
    To E Try.f11 (.pure (.ret (.bool true))) (.head (stk Try.f11 0) [(0, .slice 11 (pav l) .no), (5, .int .i64 k), (7, .int .i64 i), (6, .slice 11 (pav (rot l k i)) .no)] []) := by
  have hlen : (pav l).length = l.length := by simp
  intro n
  induction n with
  | zero =>
    intro i hi
    refine goes hE 100 ?_
    conv => whnf
    refine ⟨fun h => ?_, fun h => ?_⟩
    · exact absurd (of_decide_eq_true h) (by omega)
    · refine goes hE 100 ?_
      conv => whnf
      have hr : rot l k i = l := by
        rcases hk with hk | hk
        · rw [show i = l.length from by omega]; exact rot_all hk
        · subst hk; rfl
      refine .pure _ [] (same_at _ _ hr) ?_
      refine goes hE 100 ?_
      conv => whnf
      refine ⟨fun _ => ?_, fun h => (by cases h)⟩
      refine goes hE 100 ?_
      conv => whnf
      refine .pure _ [] awake_ok ?_
      refine goes hE 100 ?_
      conv => whnf
  | succ n ih =>
    intro i hi
    have hlt : i < l.length := by omega
    have hk : k < l.length := by
      rcases hk with hk | hk
      · exact hk
      · subst hk; simp at hlt
    have hr : (i + k) % l.length < l.length := Nat.mod_lt _ (by omega)
    refine goes hE 100 ?_
    conv => whnf
    refine ⟨fun h => ?_, fun h => ?_⟩
    · refine goes hE 100 ?_
      conv => whnf
      refine .inl ⟨in64 (by omega) (by omega), ?_⟩
      refine goes hE 100 ?_
      conv => whnf
      refine ⟨by omega, ?_⟩
      refine goes hE 100 ?_
      conv => whnf
      rw [hlen]
      refine ⟨(i + k) % l.length, by rw [← tmod_nat]; push_cast; rfl, ?_⟩
      refine goes hE 100 ?_
      conv => whnf
      refine ⟨_, pav_get hr, ?_⟩
      refine goes hE 100 ?_
      conv => whnf
      have hrl : (rot l k i).length ≤ 1000000 := Nat.le_trans (sel_sub _ l 0).length_le hl
      refine .pure _ [] (put_at _ _ _ hrl (rot_succ hg hk hlt)) ?_
      refine goes hE 100 ?_
      conv => whnf
      refine .pure _ [] (check_at _ true (Nat.le_trans (sel_sub _ l 0).length_le hl) (check_good.2 (rot_good hg))) ?_
      refine goes hE 100 ?_
      conv => whnf
      refine ⟨fun h => (by cases h), fun _ => ?_⟩
      refine goes hE 100 ?_
      conv => whnf
      refine .inl ⟨in64 (by omega) (by omega), ?_⟩
      refine goes hE 100 ?_
      conv => whnf
      refine To.cut2 [0, 5, 7] [6] 0 rfl rfl rfl ?_
      have := ih (i + 1) (by omega)
      push_cast at this
      exact this
    · exact absurd (of_decide_eq_false h) (by omega)

theorem order_ok (l : List Pend) (at' : Int) : CallOK Try.prog 11 [.slice 11 (pav l) .no, .int .i64 at'] [] (.ret (.bool true)) [] := by
  have hlen : (pav l).length = l.length := by simp
  refine CallOK.to (E := E) (fn := Try.f11) (g := .pure _) (by rfl) (by rfl) (fun _ _ => by rfl) (by decide +kernel) (by rfl) (by rfl) (by rfl) fun ho => ?_
  refine goes hE 100 ?_
  conv => whnf
  refine .pure _ [] (few_ok l) ?_
  refine goes hE 100 ?_
  conv => whnf
  refine ⟨fun h => ?_, fun h => ?_⟩
  · refine goes hE 100 ?_
    conv => whnf
    refine ⟨fun _ => ?_, fun h => (by cases h)⟩
    refine goes hE 100 ?_
    conv => whnf
    refine .pure _ [] awake_ok ?_
    refine goes hE 100 ?_
    conv => whnf
  · have hl : l.length ≤ 1000000 := by
      have : ((l.length : Int) ≤ 200) := of_decide_eq_true (by simpa using h)
      omega
    refine goes hE 100 ?_
    conv => whnf
    refine .pure _ [] (checkref_ok l hl) ?_
    refine goes hE 100 ?_
    conv => whnf
    refine ⟨fun h1 => ?_, fun h1 => ?_⟩
    · refine goes hE 100 ?_
      conv => whnf
      refine .pure _ [] awake_ok ?_
      refine goes hE 100 ?_
      conv => whnf
    · have hg : Good l := check_good.1 (by simpa using h1)
      refine goes hE 100 ?_
      conv => whnf
      refine ⟨fun h2 => ?_, fun h2 => ?_⟩
      · have hpos : 0 < l.length := by
          have := of_decide_eq_true h2
          omega
        refine goes hE 100 ?_
        conv => whnf
        by_cases ha : 0 ≤ at'
        · refine .inl ⟨⟨ha, by simp only [kmax]; have := ho.2.1.2; simp only [kmax] at this; omega⟩, ?_⟩
          refine goes hE 100 ?_
          conv => whnf
          refine .inl ⟨⟨by simp only [kmin]; omega, by simp only [kmax]; omega⟩, ?_⟩
          refine goes hE 100 ?_
          conv => whnf
          refine ⟨by omega, ?_⟩
          refine goes hE 100 ?_
          conv => whnf
          obtain ⟨k, hk, hke⟩ := tmod_ex (x := at') hpos ha
          rw [hlen, hke]
          refine .inl ⟨in64 (by omega) (by omega), ?_⟩
          refine goes hE 100 ?_
          conv => whnf
          refine To.cut2 [0, 5, 7] [6] 0 rfl rfl rfl ?_
          have := order_loop l hl hg k (.inl hk) l.length 0 (by omega)
          rw [rot_zero] at this
          exact this
        · refine .inr ?_
          refine goes hE 100 ?_
          conv => whnf
          refine .inl ⟨⟨by simp only [kmin]; omega, by simp only [kmax]; omega⟩, ?_⟩
          refine goes hE 100 ?_
          conv => whnf
          refine ⟨by omega, ?_⟩
          refine goes hE 100 ?_
          conv => whnf
          obtain ⟨k, hk, hke⟩ := tmod_ex (x := (IntKind.u64.wrap at')) hpos (inR_wrap .u64 _).1
          rw [hlen, hke]
          refine .inl ⟨in64 (by omega) (by omega), ?_⟩
          refine goes hE 100 ?_
          conv => whnf
          refine To.cut2 [0, 5, 7] [6] 0 rfl rfl rfl ?_
          have := order_loop l hl hg k (.inl hk) l.length 0 (by omega)
          rw [rot_zero] at this
          exact this
      · have h0 : l = [] := List.eq_nil_of_length_eq_zero (by
          have := of_decide_eq_false h2
          omega)
        refine goes hE 100 ?_
        conv => whnf
        refine To.cut2 [0, 5, 7] [6] 0 rfl rfl rfl ?_
        subst h0
        exact order_loop [] (by simp) hg 0 (.inr rfl) 0 0 rfl
end Go.Proofs.Ytgjcojagbgdpnaa
