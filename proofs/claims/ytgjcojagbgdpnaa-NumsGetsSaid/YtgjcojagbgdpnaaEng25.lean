/-
  THE ENGINE, 25: the table of types, made from the program, and checked. Over any program.
-/
import Derived.Test.YtgjcojagbgdpnaaEng24
namespace Go.AM
open Go.RowKit

def zvL (f : Value → AVal) : List Value → List AVal
  | [] => []
  | v :: r => f v :: zvL f r
/-- a zero value, as the evaluator has it -/
def zv : Nat → Value → AVal
  | n + 1, .agg vs => .agg (zvL (zv n) vs.toList)
  | _, .bool b => .bool b
  | _, .int k n => .int k n
  | _, .string s => .str s.data.toList
  | _, .slice none 0 0 => .slice 0 true [] none
  | _, .pointer none => .nilptr
  | _, .nilFunc => .nilfunc
  | _, .nilIface => .nilif
  | _, _ => .undef

theorem zvL_rep {M : Imm} {ob : List Nat} {tk : List Tok} {f : Value → AVal} (hf : ∀ v, Rep M ob tk v (f v)) : ∀ (l : List Value), l.length = (zvL f l).length ∧ ∀ (i : Nat) v a, l[i]? = some v → (zvL f l)[i]? = some a → Rep M ob tk v a
  | [] => ⟨rfl, fun i v a h => by simp at h⟩
  | x :: l => by
    obtain ⟨h1, h2⟩ := zvL_rep hf l
    refine ⟨by simp [zvL, h1], fun i v a hv ha => ?_⟩
    cases i with
    | zero => simp [zvL] at hv ha; subst hv ha; exact hf x
    | succ i => exact h2 i v a (by simpa using hv) (by simpa [zvL] using ha)

theorem zv_rep {M : Imm} {ob : List Nat} {tk : List Tok} : ∀ (n : Nat) (v : Value), Rep M ob tk v (zv n v) := by
  intro n
  induction n with
  | zero =>
    intro v
    unfold zv
    split
    · rename_i h; cases h
    · exact .bool _
    · exact .int _ _
    · rename_i s; obtain ⟨⟨l⟩⟩ := s; exact .str l
    · exact .nilslice 0
    · exact .nilptr
    · exact .nilfunc
    · exact .nilif
    · exact .undef _
  | succ n ih =>
    intro v
    unfold zv
    split
    · rename_i m vs h
      cases h
      obtain ⟨h1, h2⟩ := zvL_rep (M := M) (ob := ob) (tk := tk) ih vs.toList
      have := Rep.agg vs.toList _ h1 h2
      simpa using this
    · exact .bool _
    · exact .int _ _
    · rename_i s; obtain ⟨⟨l⟩⟩ := s; exact .str l
    · exact .nilslice 0
    · exact .nilptr
    · exact .nilfunc
    · exact .nilif
    · exact .undef _

def sizeT (P : Program) (t : Nat) : Nat := ((P.info? t).map (·.size)).getD 0
def mkF (P : Program) (f : Field) : Nat × Nat × Bool := (f.offset, sizeT P f.type, isAggT P f.type)
def mkFs (P : Program) : List Field → List (Nat × Nat × Bool)
  | [] => []
  | f :: r => mkF P f :: mkFs P r
def knownT (P : Program) (t : Nat) : Bool := (P.info? t).isSome && (P.underlying t).isSome
def fsB (P : Program) : List Field → Bool
  | [] => true
  | f :: r => knownT P f.type && fsB P r

def mkKind (P : Program) (t : Nat) : TK := match P.underlying t with
  | some (.int k) => .int k
  | some .bool => .bool
  | some .string => .str
  | some (.struct fs) => .strct (mkFs P fs.toList)
  | some (.array n e) => .arr n (sizeT P e) (isAggT P e)
  | some (.slice e) => .slc e (sizeT P e) (((P.info? e).map (·.bytes)).getD 0)
  | some (.pointer e) => .ptr e
  | some (.interface _) => .iface
  | _ => .other

def mkTI (P : Program) (t : Nat) : TI := match P.info? t with
  | some i => ⟨mkKind P t, i.size, isAggT P t, match i.zero with | some z => zv 4 z | none => .undef⟩
  | none => ⟨.other, 0, false, .undef⟩

def zeroB (P : Program) (t : Nat) : Bool := match P.info? t with
  | some i => (match i.zero with
    | some z => Nat.beq z.cells.size i.size && (z.cells.toList.all (·.oneCell') && (match zv 4 z with | .undef => false | _ => true))
    | none => false)
  | none => false
def elemB (P : Program) (e : Nat) : Bool := zeroB P e
def okB (P : Program) (t : Nat) : Bool := zeroB P t && match P.underlying t with
  | some (.int _) | some .bool | some .string | some (.pointer _) | some (.interface _) => Nat.beq (sizeT P t) 1
  | some (.struct fs) => fsB P fs.toList
  | some (.array _ e) => knownT P e
  | some (.slice e) => Nat.beq (sizeT P t) 1 && elemB P e
  | some _ => true
  | none => false

theorem mkFs_ok (P : Program) : ∀ (l : List Field), fsB P l = true → FieldsOK P l (mkFs P l)
  | [], _ => trivial
  | f :: r, h => by
    simp only [fsB, Bool.and_eq_true, knownT] at h
    obtain ⟨⟨h1, h2⟩, h3⟩ := h
    obtain ⟨i, hi⟩ := Option.isSome_iff_exists.1 h1
    exact ⟨rfl, by simp [sizeT, hi], h2, rfl, mkFs_ok P r h3⟩

theorem zeroB_spec {P : Program} {t : Nat} (h : zeroB P t = true) : ∃ i z, P.info? t = some i ∧ i.zero = some z ∧ z.cells.size = i.size ∧ z.cells.toList.all (·.oneCell') = true ∧ zv 4 z ≠ .undef := by
  unfold zeroB at h
  split at h
  · rename_i i hi
    split at h
    · rename_i z hz
      simp only [Bool.and_eq_true] at h
      obtain ⟨h1, h2, h3⟩ := h
      exact ⟨i, z, hi, hz, beq_yes h1, h2, fun e => by rw [e] at h3; cases h3⟩
    · cases h
  · cases h

theorem mkTI_ok {P : Program} {t : Nat} (h : okB P t = true) : TIOK P t (mkTI P t) := by
  simp only [okB, Bool.and_eq_true] at h
  obtain ⟨h0, h1⟩ := h
  obtain ⟨i, z, hi, hz, hs, hone, hne⟩ := zeroB_spec h0
  have hm : mkTI P t = ⟨mkKind P t, i.size, isAggT P t, zv 4 z⟩ := by simp [mkTI, hi, hz]
  have hst : sizeT P t = i.size := by simp [sizeT, hi]
  rw [hm]
  refine ⟨⟨i, z, hi, rfl, hz, hs, zv_rep 4 z, hone, hne⟩, ?_⟩
  show KindOK P t (isAggT P t) i.size (mkKind P t)
  unfold mkKind
  have ag : ∀ d, P.underlying t = some d → isAggT P t = match d with | .struct _ | .array _ _ => true | _ => false := fun d hd => by unfold isAggT; rw [hd]; cases d <;> rfl
  split at h1
  · rename_i k hu; rw [hu]; exact ⟨hu, ag _ hu, by rw [← hst]; exact beq_yes h1⟩
  · rename_i hu; rw [hu]; exact ⟨hu, ag _ hu, by rw [← hst]; exact beq_yes h1⟩
  · rename_i hu; rw [hu]; exact ⟨hu, ag _ hu, by rw [← hst]; exact beq_yes h1⟩
  · rename_i e hu; rw [hu]; exact ⟨hu, ag _ hu, by rw [← hst]; exact beq_yes h1⟩
  · rename_i ms hu; rw [hu]; exact ⟨⟨ms, hu⟩, ag _ hu, by rw [← hst]; exact beq_yes h1⟩
  · rename_i fs hu; rw [hu]; exact ⟨⟨fs, hu, mkFs_ok P _ h1⟩, ag _ hu⟩
  · rename_i n e hu
    rw [hu]
    simp only [knownT, Bool.and_eq_true] at h1
    obtain ⟨j, hj⟩ := Option.isSome_iff_exists.1 h1.1
    exact ⟨⟨e, hu, by simp [sizeT, hj], h1.2, rfl⟩, ag _ hu⟩
  · rename_i e hu
    rw [hu]
    simp only [Bool.and_eq_true] at h1
    obtain ⟨j, y, hj, hy, hys, _⟩ := zeroB_spec h1.2
    exact ⟨⟨hu, j, y, hj, by simp [sizeT, hj], by simp [hj], hy, by simp [sizeT, hj, hys]⟩, ag _ hu, by rw [← hst]; exact beq_yes h1.1⟩
  · rename_i d k1 k2 k3 k4 k5 k6 k7 k8 hu
    rw [hu]
    have hd : ∀ (α : Type) (x y : α), True := fun _ _ _ => trivial
    cases d <;> first
      | exact ⟨⟨_, hu, fun ms e => by cases e⟩, rfl⟩
      | (exfalso; simp_all; done)
  · cases h1

def mkTab (P : Program) : List Nat → Tab
  | [] => []
  | t :: r => (t, mkTI P t) :: mkTab P r
def tabB (P : Program) : List Nat → Bool
  | [] => true
  | t :: r => okB P t && tabB P r
def keysT : Tab → List Nat
  | [] => []
  | (t, _) :: r => t :: keysT r

theorem mkTab_ok {P : Program} : ∀ {l : List Nat}, tabB P l = true → ∀ t ti, tget (mkTab P l) t = some ti → TIOK P t ti
  | [], _, t, ti, h => by cases h
  | x :: r, hb, t, ti, h => by
    simp only [tabB, Bool.and_eq_true] at hb
    simp only [mkTab, tget] at h
    cases hx : Nat.beq x t with
    | true =>
      rw [hx] at h
      cases h
      rw [← beq_yes hx]
      exact mkTI_ok hb.1
    | false => rw [hx] at h; exact mkTab_ok hb.2 t ti h

theorem tab_ok {P : Program} {T : Tab} (h1 : mkTab P (keysT T) = T) (h2 : tabB P (keysT T) = true) : ∀ t ti, tget T t = some ti → TIOK P t ti := by
  intro t ti h
  rw [← h1] at h
  exact mkTab_ok h2 t ti h
end Go.AM
