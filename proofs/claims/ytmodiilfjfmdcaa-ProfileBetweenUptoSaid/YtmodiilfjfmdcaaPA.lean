/-
  Layer 18: what runs when, by the program and by the document's answer: the walks, the laws.
-/
import Derived.Test.YtmodiilfjfmdcaaProg
import Derived.Shelf.Sort.Plain
import Derived.Shelf.Slices.In.SortNone
import Derived.Test.YtmodiilfjfmdcaaRows
import Derived.Test.YtmodiilfjfmdcaaWC
namespace Go.Proofs.Ytmodiilfjfmdcaa
open Go Go.AW Go.Proofs

noncomputable def T0 : Tab := [
  (2, .mk (.int .i64) 1 false (.int .i64 0)),
  (3, .mk (.int .i64) 1 false (.int .i64 0)),
  (4, .mk .bool 1 false (.bool false)),
  (5, .mk (.int .u8) 1 false (.int .u8 0)),
  (9, .mk .str 1 false (.str [])),
  (20, .mk .iface 1 false .nilif),
  (21, .mk (.int .i32) 1 false (.int .i32 0)),
  (22, .mk (.slc 90 11 88) 1 false (.slice 11 [] .nil)),
  (23, .mk (.slc 93 6 48) 1 false (.slice 6 [] .nil)),
  (24, .mk (.strct [(0, 1, false), (1, 1, false), (2, 1, false), (3, 1, false)]) 4 true (.agg [.slice 11 [] .nil, .slice 6 [] .nil, .int .i64 0, .int .i64 0])),
  (25, .mk (.strct [(0, 1, false), (1, 1, false), (2, 1, false), (3, 1, false)]) 4 true (.agg [.slice 11 [] .nil, .slice 6 [] .nil, .int .i64 0, .int .i64 0])),
  (26, .mk (.arr 3 1 false) 3 true (.agg [.int .i64 0, .int .i64 0, .int .i64 0])),
  (27, .mk (.arr 3 1 false) 3 true (.agg [.int .i64 0, .int .i64 0, .int .i64 0])),
  (28, .mk (.strct [(0, 1, false), (1, 1, false), (2, 1, false), (3, 3, true), (6, 1, false), (7, 1, false), (8, 1, false)]) 9 true (.agg [.int .i64 0, .int .i64 0, .int .i64 0, .int .i64 0, .int .i64 0, .int .i64 0, .int .i64 0, .int .i64 0, .int .i64 0])),
  (29, .mk (.strct [(0, 1, false), (1, 1, false), (2, 1, false), (3, 3, true), (6, 1, false), (7, 1, false), (8, 1, false)]) 9 true (.agg [.int .i64 0, .int .i64 0, .int .i64 0, .int .i64 0, .int .i64 0, .int .i64 0, .int .i64 0, .int .i64 0, .int .i64 0])),
  (30, .mk (.strct [(0, 1, false), (1, 4, true), (5, 9, true), (14, 1, false)]) 15 true (.agg [.int .i64 0, .slice 11 [] .nil, .slice 6 [] .nil, .int .i64 0, .int .i64 0, .int .i64 0, .int .i64 0, .int .i64 0, .int .i64 0, .int .i64 0, .int .i64 0, .int .i64 0, .int .i64 0, .int .i64 0, .int .i64 0])),
  (31, .mk (.strct [(0, 1, false), (1, 4, true), (5, 9, true), (14, 1, false)]) 15 true (.agg [.int .i64 0, .slice 11 [] .nil, .slice 6 [] .nil, .int .i64 0, .int .i64 0, .int .i64 0, .int .i64 0, .int .i64 0, .int .i64 0, .int .i64 0, .int .i64 0, .int .i64 0, .int .i64 0, .int .i64 0, .int .i64 0])),
  (34, .mk (.int .i64) 1 false (.int .i64 0)),
  (47, .mk (.slc 52 14 128) 1 false (.slice 14 [] .nil)),
  (50, .mk (.slc 3 1 8) 1 false (.slice 1 [] .nil)),
  (51, .mk (.strct [(0, 9, true), (9, 1, false), (10, 1, false), (11, 1, false), (12, 1, false), (13, 1, false)]) 14 true (.agg [.int .i64 0, .int .i64 0, .int .i64 0, .int .i64 0, .int .i64 0, .int .i64 0, .int .i64 0, .int .i64 0, .int .i64 0, .int .i64 0, .int .i64 0, .int .i64 0, .int .i64 0, .slice 1 [] .nil])),
  (52, .mk (.strct [(0, 9, true), (9, 1, false), (10, 1, false), (11, 1, false), (12, 1, false), (13, 1, false)]) 14 true (.agg [.int .i64 0, .int .i64 0, .int .i64 0, .int .i64 0, .int .i64 0, .int .i64 0, .int .i64 0, .int .i64 0, .int .i64 0, .int .i64 0, .int .i64 0, .int .i64 0, .int .i64 0, .slice 1 [] .nil])),
  (59, .mk (.ptr 65) 1 false .nilptr),
  (60, .mk (.ptr 63) 1 false .nilptr),
  (61, .mk (.slc 5 1 1) 1 false (.slice 1 [] .nil)),
  (62, .mk (.strct [(0, 1, false), (1, 1, false)]) 2 true (.agg [.nilptr, .slice 1 [] .nil])),
  (63, .mk (.strct [(0, 1, false), (1, 1, false)]) 2 true (.agg [.nilptr, .slice 1 [] .nil])),
  (64, .mk (.strct [(0, 2, true)]) 2 true (.agg [.nilptr, .slice 1 [] .nil])),
  (65, .mk (.strct [(0, 2, true)]) 2 true (.agg [.nilptr, .slice 1 [] .nil])),
  (71, .mk .other 1 false .nilfunc),
  (72, .mk (.ptr 34) 1 false .nilptr),
  (77, .mk (.ptr 79) 1 false .nilptr),
  (78, .mk (.strct [(0, 1, false)]) 1 true (.agg [.str []])),
  (79, .mk (.strct [(0, 1, false)]) 1 true (.agg [.str []])),
  (84, .mk (.ptr 86) 1 false .nilptr),
  (85, .mk (.strct [(0, 1, false), (1, 1, false)]) 2 true (.agg [.str [], .bool false])),
  (86, .mk (.strct [(0, 1, false), (1, 1, false)]) 2 true (.agg [.str [], .bool false])),
  (89, .mk (.strct [(0, 1, false), (1, 1, false), (2, 3, true), (5, 3, true), (8, 3, true)]) 11 true (.agg [.int .i64 0, .int .i64 0, .int .i64 0, .int .i64 0, .int .i64 0, .int .i64 0, .int .i64 0, .int .i64 0, .int .i64 0, .int .i64 0, .int .i64 0])),
  (90, .mk (.strct [(0, 1, false), (1, 1, false), (2, 3, true), (5, 3, true), (8, 3, true)]) 11 true (.agg [.int .i64 0, .int .i64 0, .int .i64 0, .int .i64 0, .int .i64 0, .int .i64 0, .int .i64 0, .int .i64 0, .int .i64 0, .int .i64 0, .int .i64 0])),
  (92, .mk (.strct [(0, 1, false), (1, 1, false), (2, 1, false), (3, 3, true)]) 6 true (.agg [.int .i64 0, .int .i64 0, .int .i64 0, .int .i64 0, .int .i64 0, .int .i64 0])),
  (93, .mk (.strct [(0, 1, false), (1, 1, false), (2, 1, false), (3, 3, true)]) 6 true (.agg [.int .i64 0, .int .i64 0, .int .i64 0, .int .i64 0, .int .i64 0, .int .i64 0])),
  (94, .mk (.slc 96 1 8) 1 false (.slice 1 [] .nil)),
  (95, .mk (.arr 1 1 false) 1 true (.agg [.int .i64 0])),
  (96, .mk (.arr 1 1 false) 1 true (.agg [.int .i64 0])),
  (98, .mk .other 1 false .nilfunc),
  (103, .mk .iface 1 false .nilif),
  (108, .mk (.ptr 5) 1 false .nilptr),
  (111, .mk (.strct [(0, 1, false)]) 1 true (.agg [.int .i64 0])),
  (112, .mk (.strct [(0, 1, false)]) 1 true (.agg [.int .i64 0])),
  (122, .mk (.int .u64) 1 false (.int .u64 0)),
  (125, .mk (.int .i64) 1 false (.int .i64 0)),
  (134, .mk (.int .u32) 1 false (.int .u32 0)),
  (136, .mk (.int .u64) 1 false (.int .u64 0)),
  (137, .mk .other 1 false .nilptr),
  (139, .mk (.int .u64) 1 false (.int .u64 0)),
  (143, .mk (.ptr 3) 1 false .nilptr),
  (146, .mk (.ptr 139) 1 false .nilptr)]

def F0 : List (Nat × Nat) := [(26, 3), (27, 3), (28, 9), (29, 9), (89, 11), (90, 11), (92, 6), (93, 6), (95, 1), (96, 1)]

def M0 : MTab := []

noncomputable def E : Env := { P := Try.prog, T := T0, mt := M0, fl := F0, own := [], rws := [], bl := [], df := [] }

theorem hE : EnvOK E where
  mix := by kernel_rfl
  tab := tab_ok (by kernel_rfl) (by kernel_rfl)
  mth := MthOK.nil
  fl := flats_ok (by kernel_rfl)
/-- .. with slots that begin a row that is written in its place -/
noncomputable def Er (l b : List Nat) : Env := { E with rws := l, bl := b }
theorem hEr (l b : List Nat) : EnvOK (Er l b) := ⟨hE.mix, hE.tab, hE.mth, hE.fl⟩
/-- .. that grows -/
noncomputable def Eo (l b : List Nat) : Env := { E with own := l, bl := b }
theorem hEo (l b : List Nat) : EnvOK (Eo l b) := ⟨hE.mix, hE.tab, hE.mth, hE.fl⟩
/-- .. while calls are deferred -/
noncomputable def Ed (df : List (Nat × List AVal)) : Env := { E with df := df }
theorem hEd (df : List (Nat × List AVal)) : EnvOK (Ed df) := ⟨hE.mix, hE.tab, hE.mth, hE.fl⟩
end Go.Proofs.Ytmodiilfjfmdcaa

namespace Go.Proofs.Ytmodiilfjfmdcaa
open Go Go.AW Go.Proofs

structure V3 where
  (a b c : Int)
  deriving DecidableEq
structure Nod where
  (p w : Int)
  (n b l : V3)
  deriving DecidableEq
structure Hos where
  (f b r : Int)
  (c : V3)
  deriving DecidableEq
structure Con where
  ns : List Nod
  hs : List Hos
  (half age : Int)
  deriving DecidableEq
structure Gan where
  (id ten pods : Int)
  need : V3
  (run lev pref : Int)
  deriving DecidableEq
structure Cmd where
  k : Int
  c : Con
  g : Gan
  n : Int
  deriving DecidableEq

/- as the program has them -/
abbrev ii (n : Int) : AVal := .int .i64 n
def V3.cs (v : V3) : List AVal := [ii v.a, ii v.b, ii v.c]
def Nod.cs (x : Nod) : List AVal := [ii x.p, ii x.w, ii x.n.a, ii x.n.b, ii x.n.c, ii x.b.a, ii x.b.b, ii x.b.c, ii x.l.a, ii x.l.b, ii x.l.c]
def Nod.av (x : Nod) : AVal := .agg x.cs
def Hos.cs (x : Hos) : List AVal := [ii x.f, ii x.b, ii x.r, ii x.c.a, ii x.c.b, ii x.c.c]
def Hos.av (x : Hos) : AVal := .agg x.cs
abbrev nav (l : List Nod) : List AVal := l.map Nod.av
abbrev hav (l : List Hos) : List AVal := l.map Hos.av
def Con.cs (x : Con) : List AVal := [.slice 11 (nav x.ns) .no, .slice 6 (hav x.hs) .no, ii x.half, ii x.age]
def Con.av (x : Con) : AVal := .agg x.cs
def Gan.cs (x : Gan) : List AVal := [ii x.id, ii x.ten, ii x.pods, ii x.need.a, ii x.need.b, ii x.need.c, ii x.run, ii x.lev, ii x.pref]
def Gan.av (x : Gan) : AVal := .agg x.cs
def Cmd.cs (x : Cmd) : List AVal := [ii x.k, .slice 11 (nav x.c.ns) .no, .slice 6 (hav x.c.hs) .no, ii x.c.half, ii x.c.age, ii x.g.id, ii x.g.ten, ii x.g.pods, ii x.g.need.a, ii x.g.need.b, ii x.g.need.c, ii x.g.run, ii x.g.lev, ii x.g.pref, ii x.n]
def Cmd.av (x : Cmd) : AVal := .agg x.cs
abbrev iv (l : List Int) : List AVal := l.map ii

/- what may be told -/
def in40 (x : Int) : Bool := decide (0 ≤ x) && decide (x ≤ 1099511627776)
def okI : List Int → Bool
  | [] => true
  | x :: r => in40 x && okI r
def V3.l (v : V3) : List Int := [v.a, v.b, v.c]
def Nod.ok (x : Nod) : Bool := (decide (-1 ≤ x.p) && decide (x.p ≤ 1099511627776)) && okI [x.w] && okI x.n.l && okI x.b.l && okI x.l.l
def Hos.ok (x : Hos) : Bool := okI [x.f, x.b, x.r] && okI x.c.l
def allN : List Nod → Bool
  | [] => true
  | x :: r => x.ok && allN r
def allH : List Hos → Bool
  | [] => true
  | x :: r => x.ok && allH r
def Con.ok (c : Con) : Bool := allN c.ns && allH c.hs && okI [c.half, c.age]
def Gan.ok (g : Gan) : Bool := okI [g.id, g.ten, g.pods, g.run, g.lev, g.pref] && okI g.need.l
def Con.none (c : Con) : Bool := decide ((c.ns.length : Int) = 0) && decide ((c.hs.length : Int) = 0) && decide (c.half = 0) && decide (c.age = 0)
def Gan.zero : Gan := ⟨0, 0, 0, ⟨0, 0, 0⟩, 0, 0, 0⟩
def V3.zero : V3 := ⟨0, 0, 0⟩

theorem in64 {n : Int} (h1 : -9223372036854775808 ≤ n) (h2 : n ≤ 9223372036854775807) : inR .i64 n := ⟨by simp only [kmin]; omega, by simp only [kmax]; omega⟩
theorem nav_get {l : List Nod} {i : Nat} (h : i < l.length) : (nav l)[i]? = some l[i].av := by simp [nav, h]
theorem hav_get {l : List Hos} {i : Nat} (h : i < l.length) : (hav l)[i]? = some l[i].av := by simp [hav, h]
theorem iv_get {l : List Int} {i : Nat} (h : i < l.length) : (iv l)[i]? = some (ii l[i]) := by simp [iv, h]

theorem okI_at {l : List Int} (h : okI l = true) : ∀ (i : Nat) (hi : i < l.length), in40 l[i] = true := by
  induction l with
  | nil => intro i hi; simp at hi
  | cons x r ih =>
    simp only [okI, Bool.and_eq_true] at h
    intro i hi
    cases i with
    | zero => exact h.1
    | succ i => exact ih h.2 i (by simpa using hi)
theorem okI_not {l : List Int} (h : okI l = false) : ∃ (i : Nat) (hi : i < l.length), in40 l[i] = false ∧ ∀ (j : Nat) (hj : j < i), in40 (l[j]'(Nat.lt_trans hj hi)) = true := by
  induction l with
  | nil => cases h
  | cons x r ih =>
    simp only [okI, Bool.and_eq_false_iff] at h
    cases hx : in40 x with
    | false => exact ⟨0, by simp, hx, fun j hj => by omega⟩
    | true =>
      obtain ⟨i, hi, h1, h2⟩ := ih (h.resolve_left (by simp [hx]))
      refine ⟨i + 1, by simpa using hi, h1, fun j hj => ?_⟩
      cases j with
      | zero => exact hx
      | succ j => exact h2 j (by omega)
theorem okI_iff {l : List Int} {i : Nat} (hi : i ≤ l.length) : okI (l.drop i) = true ∨ okI (l.drop i) = false := by cases okI (l.drop i) <;> simp
theorem rep_agg_at {M : Imm} {ob : Hs} {v : Value} {cs : List AVal} (h : Rep M ob v (.agg cs)) (i : Nat) (a : AVal) (ha : cs[i]? = some a) : okA a := by
  obtain ⟨vs, _, hl, hr⟩ := h.agg_inv
  have hlt : i < vs.length := by rw [hl]; exact (List.getElem?_eq_some_iff.1 ha).1
  exact (hr i _ a (List.getElem?_eq_getElem hlt) ha).okA
/-- what is known of the arguments -/
theorem CallOK.get {P : Program} {f : FuncId} {args : List AVal} {obs obs' : List AObj} {r : Res} (Q : Prop) (hQ : ∀ M ob vs, RepL M ob vs args → Q) (h : Q → CallOK P f args obs r obs') : CallOK P f args obs r obs' :=
  fun M ob w vargs hm hr => h (hQ _ _ _ hr) M ob w vargs hm hr
theorem not_t {b : Bool} (h : (!b) = true) : b = false := by cases b <;> first | rfl | cases h
theorem not_f {b : Bool} (h : (!b) = false) : b = true := by cases b <;> first | rfl | cases h
end Go.Proofs.Ytmodiilfjfmdcaa

namespace Go.Proofs.Ytmodiilfjfmdcaa
open Go Go.AW Go.Proofs
set_option maxRecDepth 10000

def eqL {α : Type} (f : α → α → Bool) : List α → List α → Bool
  | [], [] => true
  | x :: r, y :: s => f x y && eqL f r s
  | _, _ => false
theorem eqL_len {α : Type} {f : α → α → Bool} : ∀ {a b : List α}, a.length ≠ b.length → eqL f a b = false
  | [], [], h => absurd rfl h
  | [], _ :: _, _ => rfl
  | _ :: _, [], _ => rfl
  | x :: r, y :: s, h => by
    have := eqL_len (f := f) (a := r) (b := s) (by simpa using h)
    simp [eqL, this]
theorem eqL_self {α : Type} {f : α → α → Bool} (hf : ∀ x, f x x = true) : ∀ (a : List α), eqL f a a = true
  | [] => rfl
  | x :: r => by simp [eqL, hf x, eqL_self hf r]
theorem eqL_eq {α : Type} {f : α → α → Bool} (hf : ∀ x y, f x y = true → x = y) : ∀ (a b : List α), eqL f a b = true → a = b
  | [], [], _ => rfl
  | [], _ :: _, h => by cases h
  | _ :: _, [], h => by cases h
  | x :: r, y :: s, h => by
    simp only [eqL, Bool.and_eq_true] at h
    rw [hf x y h.1, eqL_eq hf r s h.2]

def Nod.eqb (x y : Nod) : Bool := (x.p == y.p) && ((x.w == y.w) && ((x.n.a == y.n.a) && ((x.n.b == y.n.b) && ((x.n.c == y.n.c) && ((x.b.a == y.b.a) && ((x.b.b == y.b.b) && ((x.b.c == y.b.c) && ((x.l.a == y.l.a) && ((x.l.b == y.l.b) && ((x.l.c == y.l.c) && true))))))))))
def Hos.eqb (x y : Hos) : Bool := (x.f == y.f) && ((x.b == y.b) && ((x.r == y.r) && ((x.c.a == y.c.a) && ((x.c.b == y.c.b) && ((x.c.c == y.c.c) && true)))))
def Gan.eqb (x y : Gan) : Bool := (x.id == y.id) && ((x.ten == y.ten) && ((x.pods == y.pods) && ((x.need.a == y.need.a) && ((x.need.b == y.need.b) && ((x.need.c == y.need.c) && ((x.run == y.run) && ((x.lev == y.lev) && ((x.pref == y.pref) && true))))))))
theorem Nod.eqb_eq {x y : Nod} : x.eqb y = true ↔ x = y := by
  obtain ⟨_, _, ⟨_, _, _⟩, ⟨_, _, _⟩, ⟨_, _, _⟩⟩ := x
  obtain ⟨_, _, ⟨_, _, _⟩, ⟨_, _, _⟩, ⟨_, _, _⟩⟩ := y
  simp [Nod.eqb, and_assoc]
theorem Hos.eqb_eq {x y : Hos} : x.eqb y = true ↔ x = y := by
  obtain ⟨_, _, _, ⟨_, _, _⟩⟩ := x
  obtain ⟨_, _, _, ⟨_, _, _⟩⟩ := y
  simp [Hos.eqb]
theorem Gan.eqb_eq {x y : Gan} : x.eqb y = true ↔ x = y := by
  obtain ⟨_, _, _, ⟨_, _, _⟩, _, _, _⟩ := x
  obtain ⟨_, _, _, ⟨_, _, _⟩, _, _, _⟩ := y
  simp [Gan.eqb, and_assoc]
end Go.Proofs.Ytmodiilfjfmdcaa

namespace Go.Proofs.Ytmodiilfjfmdcaa
open Go Go.AW Go.Proofs
set_option maxRecDepth 10000

structure Rn where
  g : Gan
  (seq at' st fl : Int)
  hs : List Int
  deriving DecidableEq
def Rn.cs (x : Rn) : List AVal := [ii x.g.id, ii x.g.ten, ii x.g.pods, ii x.g.need.a, ii x.g.need.b, ii x.g.need.c, ii x.g.run, ii x.g.lev, ii x.g.pref, ii x.seq, ii x.at', ii x.st, ii x.fl, .slice 1 (iv x.hs) .no]
def Rn.av (x : Rn) : AVal := .agg x.cs
abbrev rav (l : List Rn) := l.map Rn.av
theorem rav_get {l : List Rn} {i : Nat} (h : i < l.length) : (rav l)[i]? = some l[i].av := by simp [rav, h]

theorem rn_b (x : Rn) (M : Imm) (ob : Hs) (vs : List Value) (h : RepL M ob vs [x.av]) : inR .i64 x.st ∧ inR .i64 x.g.run := by
  have hl : 0 < vs.length := by rw [h.1]; simp
  have := h.2 0 _ x.av (List.getElem?_eq_getElem hl) rfl
  exact ⟨rep_agg_at this 11 _ rfl, rep_agg_at this 6 _ rfl⟩
theorem wrap_hi {n : Int} (h : 9223372036854775807 < n) (h2 : n ≤ 18446744073709551614) : IntKind.wrap .i64 n = n - 18446744073709551616 := by
  simp [IntKind.wrap, IntKind.signed, IntKind.bits]; omega
theorem wrap_lo {n : Int} (h : n < -9223372036854775808) (h2 : -18446744073709551616 ≤ n) : IntKind.wrap .i64 n = n + 18446744073709551616 := by
  simp [IntKind.wrap, IntKind.signed, IntKind.bits]; omega

/-- when one ends -/
def endR (x : Rn) : Int := if 9223372036854775807 < x.st + x.g.run then 9223372036854775807 else if x.st + x.g.run < -9223372036854775808 then -9223372036854775808 else x.st + x.g.run
theorem end_any (x : Rn) (r : Int) (hr : endR x = r) : CallOK Try.prog 24 [x.av] [] (.ret (ii r)) [] := by
  refine CallOK.get _ (rn_b x) fun ⟨⟨a1, a2⟩, ⟨b1, b2⟩⟩ => ?_
  simp only [kmin, kmax] at a1 a2 b1 b2
  unfold endR at hr
  by_cases h1 : 9223372036854775807 < x.st + x.g.run
  · rw [if_pos h1] at hr
    subst hr
    have e := wrap_hi h1 (by omega)
    refine CallOK.to (E := E) (fn := Try.f24) (g := .pure _) (by rfl) (by rfl) (by rfl) (fun _ _ => by rfl) (by decide +kernel) (by rfl) (by rfl) (by rfl) fun _ => ?_
    refine goes hE 100 ?_
    conv => whnf
    refine .inr ?_
    repeat' first
      | (refine goN hE 100 rfl ?_; conv => whnf)
      | exact rfl
      | refine And.intro (fun _ => ?_) (fun h => absurd (show true = false from h) (by decide))
      | refine And.intro (fun h => absurd (show false = true from h) (by decide)) (fun _ => ?_)
      | refine And.intro (fun h => ?_) (fun h => absurd (of_decide_eq_false h) (by omega))
      | refine And.intro (fun h => absurd (of_decide_eq_true h) (by omega)) (fun h => ?_)
      | refine And.intro (fun h => ?_) (fun h => ?_)
      | refine Or.inl (And.intro (And.intro (by simp only [kmin]; omega) (by simp only [kmax]; omega)) ?_)
      | refine Exists.intro _ (And.intro rfl ?_)
      | refine And.intro (by decide) ?_
      | refine And.intro (by omega) ?_
  · rw [if_neg h1] at hr
    by_cases h2 : x.st + x.g.run < -9223372036854775808
    · rw [if_pos h2] at hr
      subst hr
      have e := wrap_lo h2 (by omega)
      refine CallOK.to (E := E) (fn := Try.f24) (g := .pure _) (by rfl) (by rfl) (by rfl) (fun _ _ => by rfl) (by decide +kernel) (by rfl) (by rfl) (by rfl) fun _ => ?_
      refine goes hE 100 ?_
      conv => whnf
      refine .inr ?_
      repeat' first
        | (refine goN hE 100 rfl ?_; conv => whnf)
        | exact rfl
        | refine And.intro (fun _ => ?_) (fun h => absurd (show true = false from h) (by decide))
        | refine And.intro (fun h => absurd (show false = true from h) (by decide)) (fun _ => ?_)
        | refine And.intro (fun h => ?_) (fun h => absurd (of_decide_eq_false h) (by omega))
        | refine And.intro (fun h => absurd (of_decide_eq_true h) (by omega)) (fun h => ?_)
        | refine And.intro (fun h => ?_) (fun h => ?_)
        | refine Or.inl (And.intro (And.intro (by simp only [kmin]; omega) (by simp only [kmax]; omega)) ?_)
        | refine Exists.intro _ (And.intro rfl ?_)
        | refine And.intro (by decide) ?_
        | refine And.intro (by omega) ?_
    · rw [if_neg h2] at hr
      refine CallOK.to (E := E) (fn := Try.f24) (g := .pure _) (by rfl) (by rfl) (by rfl) (fun _ _ => by rfl) (by decide +kernel) (by rfl) (by rfl) (by rfl) fun _ => ?_
      repeat' first
        | (refine goN hE 100 rfl ?_; conv => whnf)
        | exact rfl
        | refine And.intro (fun _ => ?_) (fun h => absurd (show true = false from h) (by decide))
        | refine And.intro (fun h => absurd (show false = true from h) (by decide)) (fun _ => ?_)
        | refine And.intro (fun h => ?_) (fun h => absurd (of_decide_eq_false h) (by omega))
        | refine And.intro (fun h => absurd (of_decide_eq_true h) (by omega)) (fun h => ?_)
        | refine And.intro (fun h => ?_) (fun h => ?_)
        | refine Or.inl (And.intro (And.intro (by simp only [kmin]; omega) (by simp only [kmax]; omega)) ?_)
        | refine Exists.intro _ (And.intro rfl ?_)
        | refine And.intro (by decide) ?_
        | refine And.intro (by omega) ?_
      all_goals first | exact hr ▸ rfl | (exfalso; simp at *; omega)
theorem end_ok (x : Rn) : CallOK Try.prog 24 [x.av] [] (.ret (ii (endR x))) [] := end_any x _ rfl
theorem rend_any (x : Rn) (r : Int) (hr : endR x = r) : CallOK Try.prog 25 [x.av] [] (.ret (ii r)) [] := by
  refine CallOK.get _ (rn_b x) fun ⟨⟨a1, a2⟩, ⟨b1, b2⟩⟩ => ?_
  simp only [kmin, kmax] at a1 a2 b1 b2
  unfold endR at hr
  by_cases h1 : 9223372036854775807 < x.st + x.g.run
  · rw [if_pos h1] at hr
    subst hr
    refine CallOK.to (E := E) (fn := Try.f25) (g := .pure _) (by rfl) (by rfl) (by rfl) (fun _ _ => by rfl) (by decide +kernel) (by rfl) (by rfl) (by rfl) fun _ => ?_
    repeat' first
      | (refine goN hE 100 rfl ?_; conv => whnf)
      | exact rfl
      | refine And.intro (fun _ => ?_) (fun h => absurd (show true = false from h) (by decide))
      | refine And.intro (fun h => absurd (show false = true from h) (by decide)) (fun _ => ?_)
      | refine And.intro (fun h => ?_) (fun h => absurd (of_decide_eq_false h) (by omega))
      | refine And.intro (fun h => absurd (of_decide_eq_true h) (by omega)) (fun h => ?_)
      | refine And.intro (fun h => ?_) (fun h => absurd (of_decide_eq_false h) (by simp only [decide_eq_true_eq, decide_eq_false_iff_not] at *; omega))
      | refine And.intro (fun h => absurd (of_decide_eq_true h) (by simp only [decide_eq_true_eq, decide_eq_false_iff_not] at *; omega)) (fun h => ?_)
      | refine And.intro (fun h => ?_) (fun h => ?_)
      | refine Or.inl (And.intro (And.intro (by simp only [kmin]; omega) (by simp only [kmax]; omega)) ?_)
      | refine Exists.intro _ (And.intro rfl ?_)
      | refine And.intro (by decide) ?_
      | refine And.intro (by omega) ?_
      | refine Or.inl (And.intro (And.intro (by simp only [kmin]; simp only [decide_eq_true_eq, decide_eq_false_iff_not] at *; omega) (by simp only [kmax]; simp only [decide_eq_true_eq, decide_eq_false_iff_not] at *; omega)) ?_)
  · rw [if_neg h1] at hr
    by_cases h2 : x.st + x.g.run < -9223372036854775808
    · rw [if_pos h2] at hr
      subst hr
      refine CallOK.to (E := E) (fn := Try.f25) (g := .pure _) (by rfl) (by rfl) (by rfl) (fun _ _ => by rfl) (by decide +kernel) (by rfl) (by rfl) (by rfl) fun _ => ?_
      repeat' first
        | (refine goN hE 100 rfl ?_; conv => whnf)
        | exact rfl
        | refine And.intro (fun _ => ?_) (fun h => absurd (show true = false from h) (by decide))
        | refine And.intro (fun h => absurd (show false = true from h) (by decide)) (fun _ => ?_)
        | refine And.intro (fun h => ?_) (fun h => absurd (of_decide_eq_false h) (by omega))
        | refine And.intro (fun h => absurd (of_decide_eq_true h) (by omega)) (fun h => ?_)
        | refine And.intro (fun h => ?_) (fun h => absurd (of_decide_eq_false h) (by simp only [decide_eq_true_eq, decide_eq_false_iff_not] at *; omega))
        | refine And.intro (fun h => absurd (of_decide_eq_true h) (by simp only [decide_eq_true_eq, decide_eq_false_iff_not] at *; omega)) (fun h => ?_)
        | refine And.intro (fun h => ?_) (fun h => ?_)
        | refine Or.inl (And.intro (And.intro (by simp only [kmin]; omega) (by simp only [kmax]; omega)) ?_)
        | refine Exists.intro _ (And.intro rfl ?_)
        | refine And.intro (by decide) ?_
        | refine And.intro (by omega) ?_
        | refine Or.inl (And.intro (And.intro (by simp only [kmin]; simp only [decide_eq_true_eq, decide_eq_false_iff_not] at *; omega) (by simp only [kmax]; simp only [decide_eq_true_eq, decide_eq_false_iff_not] at *; omega)) ?_)
    · rw [if_neg h2] at hr
      subst hr
      refine CallOK.to (E := E) (fn := Try.f25) (g := .pure _) (by rfl) (by rfl) (by rfl) (fun _ _ => by rfl) (by decide +kernel) (by rfl) (by rfl) (by rfl) fun _ => ?_
      repeat' first
        | (refine goN hE 100 rfl ?_; conv => whnf)
        | exact rfl
        | refine And.intro (fun _ => ?_) (fun h => absurd (show true = false from h) (by decide))
        | refine And.intro (fun h => absurd (show false = true from h) (by decide)) (fun _ => ?_)
        | refine And.intro (fun h => ?_) (fun h => absurd (of_decide_eq_false h) (by omega))
        | refine And.intro (fun h => absurd (of_decide_eq_true h) (by omega)) (fun h => ?_)
        | refine And.intro (fun h => ?_) (fun h => absurd (of_decide_eq_false h) (by simp only [decide_eq_true_eq, decide_eq_false_iff_not] at *; omega))
        | refine And.intro (fun h => absurd (of_decide_eq_true h) (by simp only [decide_eq_true_eq, decide_eq_false_iff_not] at *; omega)) (fun h => ?_)
        | refine And.intro (fun h => ?_) (fun h => ?_)
        | refine Or.inl (And.intro (And.intro (by simp only [kmin]; omega) (by simp only [kmax]; omega)) ?_)
        | refine Exists.intro _ (And.intro rfl ?_)
        | refine And.intro (by decide) ?_
        | refine And.intro (by omega) ?_
        | refine Or.inl (And.intro (And.intro (by simp only [kmin]; simp only [decide_eq_true_eq, decide_eq_false_iff_not] at *; omega) (by simp only [kmax]; simp only [decide_eq_true_eq, decide_eq_false_iff_not] at *; omega)) ?_)
theorem rend_ok (x : Rn) : CallOK Try.prog 25 [x.av] [] (.ret (ii (endR x))) [] := rend_any x _ rfl
end Go.Proofs.Ytmodiilfjfmdcaa

namespace Go.Proofs.Ytmodiilfjfmdcaa
open Go Go.AW Go.Proofs
set_option maxRecDepth 10000

/-- no more than so many run, each on no more than so many hosts -/
def Sm (l : List Rn) : Prop := l.length ≤ 1048576 ∧ ∀ x ∈ l, x.hs.length ≤ 1048576
theorem Sm.at {l : List Rn} (h : Sm l) {i : Nat} (hi : i < l.length) : l[i].hs.length ≤ 1048576 := h.2 _ (List.getElem_mem hi)
def fw : List Rn → Int → Int
  | [], n => n
  | x :: r, n => if n < 2000 then fw r (n + (1 + x.hs.length)) else n
def fewP (l : List Rn) : Bool := decide (fw l 0 < 2000)
noncomputable abbrev fFew : Func := Try.f22
theorem pfew_loop (l : List Rn) (hs : Sm l) (r : Bool) : ∀ (n i : Nat) (k : Int), i + n = l.length → 0 ≤ k → k ≤ 3000000 → decide (fw (l.drop i) k < 2000) = r →
    To E fFew (.pure (.ret (.bool r))) (.head (stk fFew 0) [(0, .slice 14 (rav l) .no), (3, .int .i64 k), (4, .int .i64 i)] []) := by
  have hlen : (rav l).length = l.length := by simp
  have hl := hs.1
  intro n
  induction n with
  | zero =>
    intro i k hi h0 hk hr
    rw [List.drop_eq_nil_of_le (by omega)] at hr
    have hr : decide (k < 2000) = r := hr
    subst hr
    refine goes hE 100 ?_
    conv => whnf
    refine And.intro (fun h => absurd (of_decide_eq_true h) (by omega)) (fun h => ?_)
    repeat' first
      | (refine goN hE 100 rfl ?_; conv => whnf)
      | exact rfl
      | refine And.intro (fun _ => ?_) (fun h => absurd (show true = false from h) (by decide))
      | refine And.intro (fun h => absurd (show false = true from h) (by decide)) (fun _ => ?_)
      | refine And.intro (fun h => ?_) (fun h => absurd (of_decide_eq_false h) (by omega))
      | refine And.intro (fun h => absurd (of_decide_eq_true h) (by omega)) (fun h => ?_)
      | refine And.intro (fun h => ?_) (fun h => ?_)
      | refine Or.inl (And.intro (And.intro (by simp only [kmin]; omega) (by simp only [kmax]; omega)) ?_)
      | refine Exists.intro _ (And.intro rfl ?_)
      | refine And.intro (by decide) ?_
      | refine And.intro (by omega) ?_
  | succ n ih =>
    intro i k hi h0 hk hr
    have hlt : i < l.length := by omega
    rw [List.drop_eq_getElem_cons hlt] at hr
    have hb := hs.at hlt
    generalize hx : l[i] = x at hr hb
    have get : (rav l)[i]? = some x.av := (rav_get hlt).trans (by rw [hx])
    have hlx : (iv x.hs).length = x.hs.length := by simp
    unfold fw at hr
    refine goes hE 100 ?_
    conv => whnf
    refine And.intro (fun h => ?_) (fun h => absurd (of_decide_eq_false h) (by omega))
    refine goes hE 100 ?_
    conv => whnf
    refine And.intro (fun h2 => ?_) (fun h2 => ?_)
    · have h2 := of_decide_eq_true h2
      rw [if_pos h2] at hr
      repeat' first
        | (refine goN hE 100 rfl ?_; conv => whnf)
        | refine Exists.intro _ (And.intro get ?_)
        | exact rfl
        | refine And.intro (fun _ => ?_) (fun h => absurd (show true = false from h) (by decide))
        | refine And.intro (fun h => absurd (show false = true from h) (by decide)) (fun _ => ?_)
        | refine And.intro (fun h => ?_) (fun h => absurd (of_decide_eq_false h) (by omega))
        | refine And.intro (fun h => absurd (of_decide_eq_true h) (by omega)) (fun h => ?_)
        | refine And.intro (fun h => ?_) (fun h => ?_)
        | refine Or.inl (And.intro (And.intro (by simp only [kmin]; omega) (by simp only [kmax]; omega)) ?_)
        | refine Exists.intro _ (And.intro rfl ?_)
        | refine And.intro (by decide) ?_
        | refine And.intro (by omega) ?_
      refine To.head [0, 3, 4] ?_
      exact ih (i + 1) _ (by omega) (by omega) (by omega) (by rw [hlx]; exact hr)
    · have h2' := of_decide_eq_false h2
      rw [if_neg h2'] at hr
      subst hr
      repeat' first
        | (refine goN hE 100 rfl ?_; conv => whnf)
        | exact rfl
        | refine And.intro (fun _ => ?_) (fun h => absurd (show true = false from h) (by decide))
        | refine And.intro (fun h => absurd (show false = true from h) (by decide)) (fun _ => ?_)
        | refine And.intro (fun h => ?_) (fun h => absurd (of_decide_eq_false h) (by omega))
        | refine And.intro (fun h => absurd (of_decide_eq_true h) (by omega)) (fun h => ?_)
        | refine And.intro (fun h => ?_) (fun h => ?_)
        | refine Or.inl (And.intro (And.intro (by simp only [kmin]; omega) (by simp only [kmax]; omega)) ?_)
        | refine Exists.intro _ (And.intro rfl ?_)
        | refine And.intro (by decide) ?_
        | refine And.intro (by omega) ?_
theorem pfew_ok (l : List Rn) (hs : Sm l) : CallOK Try.prog 22 [.slice 14 (rav l) .no] [] (.ret (.bool (fewP l))) [] := by
  refine CallOK.to (E := E) (fn := Try.f22) (g := .pure _) (by rfl) (by rfl) (by rfl) (fun _ _ => by rfl) (by decide +kernel) (by rfl) (by rfl) (by rfl) fun _ => ?_
  refine goes hE 100 ?_
  conv => whnf
  refine To.head [0, 3, 4] ?_
  exact pfew_loop l hs _ l.length 0 0 (by omega) (by omega) (by omega) rfl

theorem cloneI_ok (l : List Int) (h : l.length ≤ 1048576) : CallOK Try.prog 77 [.slice 1 (iv l) .no] [] (.ret (.slice 1 (iv l) .no)) [] := by
  have hlen : (iv l).length = l.length := by simp
  refine CallOK.to (E := E) (fn := Try.f77) (g := .pure _) (by rfl) (by rfl) (by rfl) (fun _ _ => by rfl) (by decide +kernel) (by rfl) (by rfl) (by rfl) fun _ => ?_
  refine goes hE 100 ?_
  conv => whnf
  intro b hb
  refine goes hE 100 ?_
  conv => whnf
  refine And.intro (fun h => ?_) (fun h => ?_)
  · have h : b = true := h
    have e : iv l = [] := hb h
    refine goes hE 100 ?_
    conv => whnf
    rw [e]
  · have h : b = false := h
    refine goes hE 100 ?_
    conv => whnf
    refine And.intro (And.intro (by simp only [maxLen]; simp; omega) (by simp; omega)) ?_
    refine goes hE 100 ?_
    conv => whnf
    rfl
theorem own_ok (x : Rn) (h : x.hs.length ≤ 1048576) : CallOK Try.prog 61 [x.av] [] (.ret x.av) [] := by
  refine CallOK.to (E := E) (fn := Try.f61) (g := .pure _) (by rfl) (by rfl) (by rfl) (fun _ _ => by rfl) (by decide +kernel) (by rfl) (by rfl) (by rfl) fun _ => ?_
  repeat' first
    | (refine goN hE 100 rfl ?_; conv => whnf)
    | refine .pure _ [] (cloneI_ok x.hs h) ?_
    | exact rfl
    | refine And.intro (fun _ => ?_) (fun h => absurd (show true = false from h) (by decide))
    | refine And.intro (fun h => absurd (show false = true from h) (by decide)) (fun _ => ?_)
    | refine And.intro (fun h => ?_) (fun h => absurd (of_decide_eq_false h) (by omega))
    | refine And.intro (fun h => absurd (of_decide_eq_true h) (by omega)) (fun h => ?_)
    | refine And.intro (fun h => ?_) (fun h => ?_)
    | refine Or.inl (And.intro (And.intro (by simp only [kmin]; omega) (by simp only [kmax]; omega)) ?_)
    | refine Exists.intro _ (And.intro rfl ?_)
    | refine And.intro (by decide) ?_
    | refine And.intro (by omega) ?_

def atL (l : List Rn) (t : Int) : List Rn := l.filter fun x => decide (t < endR x)
theorem atL_pos {x : Rn} {r : List Rn} {t : Int} (h : decide (t < endR x) = true) : atL (x :: r) t = x :: atL r t := List.filter_cons_of_pos h
theorem atL_neg {x : Rn} {r : List Rn} {t : Int} (h : decide (t < endR x) = false) : atL (x :: r) t = atL r t := List.filter_cons_of_neg (by rw [h]; decide)
noncomputable abbrev fAt : Func := Try.f30
theorem at_loop (l : List Rn) (hs : Sm l) (t : Int) (R : List Rn) : ∀ (n i : Nat) (acc : List Rn), i + n = l.length → acc.length ≤ i → acc ++ atL (l.drop i) t = R →
    To (Eo [5] []) fAt (.pure (.ret (.slice 14 (rav R) .no))) (.head (stk fAt 0) [(1, .int .i64 t), (5, .slice 14 (rav acc) (.own 0 0)), (8, .slice 14 (rav l) .no), (9, .int .i64 ((rav l).length : Nat)), (10, .int .i64 i)] [.tail 0 14 52]) := by
  have hlen : (rav l).length = l.length := by simp
  have hl := hs.1
  intro n
  induction n with
  | zero =>
    intro i acc hi ha hR
    rw [List.drop_eq_nil_of_le (by omega)] at hR
    have hR : acc ++ [] = R := hR
    rw [List.append_nil] at hR
    subst hR
    refine goes (hEo [5] []) 100 ?_
    conv => whnf
    refine And.intro (fun h => absurd (of_decide_eq_true h) (by omega)) (fun h => ?_)
    repeat' first
      | (refine goN (hEo [5] []) 100 rfl ?_; conv => whnf)
      | exact rfl
      | refine And.intro (fun _ => ?_) (fun h => absurd (show true = false from h) (by decide))
      | refine And.intro (fun h => absurd (show false = true from h) (by decide)) (fun _ => ?_)
      | refine And.intro (fun h => ?_) (fun h => absurd (of_decide_eq_false h) (by omega))
      | refine And.intro (fun h => absurd (of_decide_eq_true h) (by omega)) (fun h => ?_)
      | refine And.intro (fun h => ?_) (fun h => ?_)
      | refine Or.inl (And.intro (And.intro (by simp only [kmin]; omega) (by simp only [kmax]; omega)) ?_)
      | refine Exists.intro _ (And.intro rfl ?_)
      | refine And.intro (by decide) ?_
      | refine And.intro (by omega) ?_
  | succ n ih =>
    intro i acc hi ha hR
    have hlt : i < l.length := by omega
    rw [List.drop_eq_getElem_cons hlt] at hR
    have hb := hs.at hlt
    generalize hx : l[i] = x at hR hb
    have get : (rav l)[i]? = some x.av := (rav_get hlt).trans (by rw [hx])
    have hla : (rav acc).length = acc.length := by simp
    refine goes (hEo [5] []) 100 ?_
    conv => whnf
    refine And.intro (fun h => ?_) (fun h => absurd (of_decide_eq_false h) (by omega))
    refine goes (hEo [5] []) 100 ?_
    conv => whnf
    refine ⟨i, rfl, ?_⟩
    refine goes (hEo [5] []) 100 ?_
    conv => whnf
    refine ⟨_, get, ?_⟩
    refine goes (hEo [5] []) 100 ?_
    conv => whnf
    refine .pure _ [] (end_ok x) ?_
    refine goes (hEo [5] []) 100 ?_
    conv => whnf
    refine And.intro (fun h2 => ?_) (fun h2 => ?_)
    · have h2 : decide (t < endR x) = true := h2
      rw [atL_pos h2] at hR
      refine goes (hEo [5] []) 100 ?_
      conv => whnf
      refine .pure _ [] (own_ok x hb) ?_
      refine goes (hEo [5] []) 100 ?_
      conv => whnf
      refine And.intro (And.intro (by simp only [maxLen]; simp; omega) (by simp; omega)) ?_
      refine goes (hEo [5] []) 100 ?_
      conv => whnf
      refine Or.inl (And.intro (And.intro (by simp only [kmin]; omega) (by simp only [kmax]; omega)) ?_)
      refine goes (hEo [5] []) 100 ?_
      conv => whnf
      refine To.part [1, 5, 8, 9, 10] [0] rfl rfl rfl ?_
      have next := ih (i + 1) (acc ++ [x]) (by omega) (by simp; omega) (by rw [List.append_assoc]; exact hR)
      have e : rav (acc ++ [x]) = rav acc ++ [x.av] := by simp
      rw [e] at next
      exact next
    · have h2' : decide (t < endR x) = false := h2
      rw [atL_neg h2'] at hR
      refine goes (hEo [5] []) 100 ?_
      conv => whnf
      refine Or.inl (And.intro (And.intro (by simp only [kmin]; omega) (by simp only [kmax]; omega)) ?_)
      refine goes (hEo [5] []) 100 ?_
      conv => whnf
      refine To.part [1, 5, 8, 9, 10] [0] rfl rfl rfl ?_
      exact ih (i + 1) acc (by omega) (by omega) hR
theorem at_ok (l : List Rn) (hs : Sm l) (t : Int) : CallOK Try.prog 30 [.slice 14 (rav l) .no, ii t] [] (.ret (.slice 14 (rav (atL l t)) .no)) [] := by
  refine CallOK.to (E := (Eo [5] [])) (fn := Try.f30) (g := .pure _) (by rfl) (by rfl) (by rfl) (fun _ _ => by rfl) (by decide +kernel) (by rfl) (by rfl) (by rfl) fun _ => ?_
  refine goes (hEo [5] []) 100 ?_
  conv => whnf
  refine To.part [1, 5, 8, 9, 10] [0] rfl rfl rfl ?_
  exact at_loop l hs t _ l.length 0 [] (by omega) (by simp) rfl
noncomputable abbrev fRAt : Func := Try.f31
theorem rat_loop (l : List Rn) (hs : Sm l) (t : Int) (R : List Rn) : ∀ (n i : Nat) (acc : List Rn), i + n = l.length → acc.length ≤ i → acc ++ atL (l.drop i) t = R →
    To (Eo [5] []) fRAt (.pure (.ret (.slice 14 (rav R) .no))) (.head (stk fRAt 0) [(0, .slice 14 (rav l) .no), (1, .int .i64 t), (5, .slice 14 (rav acc) (.own 0 0)), (6, .int .i64 i)] [.tail 0 14 52]) := by
  have hlen : (rav l).length = l.length := by simp
  have hl := hs.1
  intro n
  induction n with
  | zero =>
    intro i acc hi ha hR
    rw [List.drop_eq_nil_of_le (by omega)] at hR
    have hR : acc ++ [] = R := hR
    rw [List.append_nil] at hR
    subst hR
    refine goes (hEo [5] []) 100 ?_
    conv => whnf
    refine And.intro (fun h => absurd (of_decide_eq_true h) (by omega)) (fun h => ?_)
    repeat' first
      | (refine goN (hEo [5] []) 100 rfl ?_; conv => whnf)
      | exact rfl
      | refine And.intro (fun _ => ?_) (fun h => absurd (show true = false from h) (by decide))
      | refine And.intro (fun h => absurd (show false = true from h) (by decide)) (fun _ => ?_)
      | refine And.intro (fun h => ?_) (fun h => absurd (of_decide_eq_false h) (by omega))
      | refine And.intro (fun h => absurd (of_decide_eq_true h) (by omega)) (fun h => ?_)
      | refine And.intro (fun h => ?_) (fun h => ?_)
      | refine Or.inl (And.intro (And.intro (by simp only [kmin]; omega) (by simp only [kmax]; omega)) ?_)
      | refine Exists.intro _ (And.intro rfl ?_)
      | refine And.intro (by decide) ?_
      | refine And.intro (by omega) ?_
  | succ n ih =>
    intro i acc hi ha hR
    have hlt : i < l.length := by omega
    rw [List.drop_eq_getElem_cons hlt] at hR
    generalize hx : l[i] = x at hR
    have get : (rav l)[i]? = some x.av := (rav_get hlt).trans (by rw [hx])
    have hla : (rav acc).length = acc.length := by simp
    refine goes (hEo [5] []) 100 ?_
    conv => whnf
    refine And.intro (fun h => ?_) (fun h => absurd (of_decide_eq_false h) (by omega))
    refine goes (hEo [5] []) 100 ?_
    conv => whnf
    refine ⟨i, rfl, ?_⟩
    refine goes (hEo [5] []) 100 ?_
    conv => whnf
    refine ⟨_, get, ?_⟩
    refine goes (hEo [5] []) 100 ?_
    conv => whnf
    refine .pure _ [] (rend_ok x) ?_
    refine goes (hEo [5] []) 100 ?_
    conv => whnf
    refine And.intro (fun h2 => ?_) (fun h2 => ?_)
    · have h2 : decide (t < endR x) = true := h2
      rw [atL_pos h2] at hR
      refine goes (hEo [5] []) 100 ?_
      conv => whnf
      refine ⟨i, rfl, ?_⟩
      refine goes (hEo [5] []) 100 ?_
      conv => whnf
      refine ⟨_, get, ?_⟩
      refine goes (hEo [5] []) 100 ?_
      conv => whnf
      refine And.intro (And.intro (by simp only [maxLen]; simp; omega) (by simp; omega)) ?_
      refine goes (hEo [5] []) 100 ?_
      conv => whnf
      refine Or.inl (And.intro (And.intro (by simp only [kmin]; omega) (by simp only [kmax]; omega)) ?_)
      refine goes (hEo [5] []) 100 ?_
      conv => whnf
      refine To.part [0, 1, 5, 6] [0] rfl rfl rfl ?_
      have next := ih (i + 1) (acc ++ [x]) (by omega) (by simp; omega) (by rw [List.append_assoc]; exact hR)
      have e : rav (acc ++ [x]) = rav acc ++ [x.av] := by simp
      rw [e] at next
      exact next
    · have h2' : decide (t < endR x) = false := h2
      rw [atL_neg h2'] at hR
      refine goes (hEo [5] []) 100 ?_
      conv => whnf
      refine Or.inl (And.intro (And.intro (by simp only [kmin]; omega) (by simp only [kmax]; omega)) ?_)
      refine goes (hEo [5] []) 100 ?_
      conv => whnf
      refine To.part [0, 1, 5, 6] [0] rfl rfl rfl ?_
      exact ih (i + 1) acc (by omega) (by omega) hR
theorem rat_ok (l : List Rn) (hs : Sm l) (t : Int) : CallOK Try.prog 31 [.slice 14 (rav l) .no, ii t] [] (.ret (.slice 14 (rav (atL l t)) .no)) [] := by
  refine CallOK.to (E := (Eo [5] [])) (fn := Try.f31) (g := .pure _) (by rfl) (by rfl) (by rfl) (fun _ _ => by rfl) (by decide +kernel) (by rfl) (by rfl) (by rfl) fun _ => ?_
  refine goes (hEo [5] []) 100 ?_
  conv => whnf
  refine To.part [0, 1, 5, 6] [0] rfl rfl rfl ?_
  exact rat_loop l hs t _ l.length 0 [] (by omega) (by simp) rfl
theorem atL_sm {l : List Rn} (h : Sm l) (t : Int) : Sm (atL l t) :=
  ⟨Nat.le_trans (List.length_filter_le _ _) h.1, fun x hx => h.2 x (List.mem_filter.1 hx).1⟩
end Go.Proofs.Ytmodiilfjfmdcaa

namespace Go.Proofs.Ytmodiilfjfmdcaa
open Go Go.AW Go.Proofs
set_option maxRecDepth 10000

def eqI (a b : Int) : Bool := a == b
noncomputable abbrev fInts : Func := Try.f26
theorem ints_loop (a b : List Int) (hab : a.length = b.length) (hl : ((iv a).length : Int) ≤ 9223372036854775807) (r : Bool) : ∀ (n i : Nat), i + n = a.length → eqL eqI (a.drop i) (b.drop i) = r →
    To E fInts (.pure (.ret (.bool r))) (.head (stk fInts 0) [(0, .slice 1 (iv a) .no), (1, .slice 1 (iv b) .no), (5, .int .i64 i)] []) := by
  have hlen : (iv a).length = a.length := by simp
  intro n
  induction n with
  | zero =>
    intro i hi hr
    rw [List.drop_eq_nil_of_le (by omega), List.drop_eq_nil_of_le (by omega)] at hr
    subst hr
    refine goes hE 100 ?_
    conv => whnf
    repeat' first
      | (refine goN hE 100 rfl ?_; conv => whnf)
      | exact rfl
      | refine And.intro (fun _ => ?_) (fun h => absurd (show true = false from h) (by decide))
      | refine And.intro (fun h => absurd (show false = true from h) (by decide)) (fun _ => ?_)
      | refine And.intro (fun h => ?_) (fun h => absurd (of_decide_eq_false h) (by omega))
      | refine And.intro (fun h => absurd (of_decide_eq_true h) (by omega)) (fun h => ?_)
      | refine And.intro (fun h => ?_) (fun h => ?_)
      | refine Or.inl (And.intro (And.intro (by simp only [kmin]; omega) (by simp only [kmax]; omega)) ?_)
      | refine Exists.intro _ (And.intro rfl ?_)
      | refine And.intro (by decide) ?_
      | refine And.intro (by omega) ?_
  | succ n ih =>
    intro i hi hr
    have h1 : i < a.length := by omega
    have h2 : i < b.length := by omega
    rw [List.drop_eq_getElem_cons h1, List.drop_eq_getElem_cons h2] at hr
    have hr : (eqI a[i] b[i] && eqL eqI (a.drop (i + 1)) (b.drop (i + 1))) = r := hr
    generalize hx : a[i] = x at hr
    generalize hy : b[i] = y at hr
    have ga : (iv a)[i]? = some (ii x) := (iv_get h1).trans (by rw [hx])
    have gb : (iv b)[i]? = some (ii y) := (iv_get h2).trans (by rw [hy])
    refine goes hE 100 ?_
    conv => whnf
    refine And.intro (fun h => ?_) (fun h => absurd (of_decide_eq_false h) (by omega))
    repeat' first
      | (refine goN hE 100 rfl ?_; conv => whnf)
      | refine Exists.intro _ (And.intro ga ?_)
      | refine Exists.intro _ (And.intro gb ?_)
      | exact rfl
      | refine And.intro (fun _ => ?_) (fun h => absurd (show true = false from h) (by decide))
      | refine And.intro (fun h => absurd (show false = true from h) (by decide)) (fun _ => ?_)
      | refine And.intro (fun h => ?_) (fun h => absurd (of_decide_eq_false h) (by omega))
      | refine And.intro (fun h => absurd (of_decide_eq_true h) (by omega)) (fun h => ?_)
      | refine And.intro (fun h => ?_) (fun h => ?_)
      | refine Or.inl (And.intro (And.intro (by simp only [kmin]; omega) (by simp only [kmax]; omega)) ?_)
      | refine Exists.intro _ (And.intro rfl ?_)
      | refine And.intro (by decide) ?_
      | refine And.intro (by omega) ?_
    · have h : eqI x y = false := not_t (b := eqI x y) h
      rw [h] at hr
      rw [← hr]; rfl
    · have h : eqI x y = true := not_f (b := eqI x y) h
      rw [h, Bool.true_and] at hr
      refine To.head [0, 1, 5] ?_
      exact ih (i + 1) (by omega) hr
theorem ints_ok (a b : List Int) : CallOK Try.prog 26 [.slice 1 (iv a) .no, .slice 1 (iv b) .no] [] (.ret (.bool (eqL eqI a b))) [] := by
  have hla : (iv a).length = a.length := by simp
  have hlb : (iv b).length = b.length := by simp
  refine CallOK.to (E := E) (fn := Try.f26) (g := .pure _) (by rfl) (by rfl) (by rfl) (fun _ _ => by rfl) (by decide +kernel) (by rfl) (by rfl) (by rfl) fun ho => ?_
  have hl : ((iv a).length : Int) ≤ 9223372036854775807 := ho.1
  refine goes hE 100 ?_
  conv => whnf
  refine And.intro (fun h => ?_) (fun h => ?_)
  · have h : (((iv a).length : Int) != ((iv b).length : Int)) = true := h
    rw [eqL_len (by rw [← hla, ← hlb]; exact (fun e => by rw [e] at h; simp at h))]
    refine goes hE 100 ?_
    conv => whnf
  · have h : (((iv a).length : Int) != ((iv b).length : Int)) = false := h
    have e : (iv a).length = (iv b).length := by simp at h; simp; omega
    refine goes hE 100 ?_
    conv => whnf
    refine To.head [0, 1, 5] ?_
    exact ints_loop a b (by omega) hl _ a.length 0 (by omega) rfl

def Rn.eqb (a b : Rn) : Bool := a.g.eqb b.g && ((a.seq == b.seq) && ((a.at' == b.at') && ((a.st == b.st) && ((a.fl == b.fl) && eqL eqI a.hs b.hs))))
noncomputable abbrev fOne : Func := Try.f60
theorem one_loop (a b : Rn) (hab : a.hs.length = b.hs.length) (hl : ((iv a.hs).length : Int) ≤ 9223372036854775807) (r : Bool) : ∀ (n i : Nat), i + n = a.hs.length → eqL eqI (a.hs.drop i) (b.hs.drop i) = r →
    To E fOne (.pure (.ret (.bool r))) (.head (stk fOne 0) [(2, .ref 0 0), (3, .ref 1 0), (5, .int .i64 i)] [.cells 52 a.cs, .cells 52 b.cs]) := by
  have hlen : (iv a.hs).length = a.hs.length := by simp
  intro n
  induction n with
  | zero =>
    intro i hi hr
    rw [List.drop_eq_nil_of_le (by omega), List.drop_eq_nil_of_le (by omega)] at hr
    subst hr
    refine goes hE 100 ?_
    conv => whnf
    repeat' first
      | (refine goN hE 100 rfl ?_; conv => whnf)
      | exact rfl
      | refine And.intro (fun _ => ?_) (fun h => absurd (show true = false from h) (by decide))
      | refine And.intro (fun h => absurd (show false = true from h) (by decide)) (fun _ => ?_)
      | refine And.intro (fun h => ?_) (fun h => absurd (of_decide_eq_false h) (by omega))
      | refine And.intro (fun h => absurd (of_decide_eq_true h) (by omega)) (fun h => ?_)
      | refine And.intro (fun h => ?_) (fun h => ?_)
      | refine Or.inl (And.intro (And.intro (by simp only [kmin]; omega) (by simp only [kmax]; omega)) ?_)
      | refine Exists.intro _ (And.intro rfl ?_)
      | refine And.intro (by decide) ?_
      | refine And.intro (by omega) ?_
  | succ n ih =>
    intro i hi hr
    have h1 : i < a.hs.length := by omega
    have h2 : i < b.hs.length := by omega
    rw [List.drop_eq_getElem_cons h1, List.drop_eq_getElem_cons h2] at hr
    have hr : (eqI a.hs[i] b.hs[i] && eqL eqI (a.hs.drop (i + 1)) (b.hs.drop (i + 1))) = r := hr
    generalize hx : a.hs[i] = x at hr
    generalize hy : b.hs[i] = y at hr
    have ga : (iv a.hs)[i]? = some (ii x) := (iv_get h1).trans (by rw [hx])
    have gb : (iv b.hs)[i]? = some (ii y) := (iv_get h2).trans (by rw [hy])
    refine goes hE 100 ?_
    conv => whnf
    refine And.intro (fun h => ?_) (fun h => absurd (of_decide_eq_false h) (by omega))
    repeat' first
      | (refine goN hE 100 rfl ?_; conv => whnf)
      | refine Exists.intro _ (And.intro ga ?_)
      | refine Exists.intro _ (And.intro gb ?_)
      | exact rfl
      | refine And.intro (fun _ => ?_) (fun h => absurd (show true = false from h) (by decide))
      | refine And.intro (fun h => absurd (show false = true from h) (by decide)) (fun _ => ?_)
      | refine And.intro (fun h => ?_) (fun h => absurd (of_decide_eq_false h) (by omega))
      | refine And.intro (fun h => absurd (of_decide_eq_true h) (by omega)) (fun h => ?_)
      | refine And.intro (fun h => ?_) (fun h => ?_)
      | refine Or.inl (And.intro (And.intro (by simp only [kmin]; omega) (by simp only [kmax]; omega)) ?_)
      | refine Exists.intro _ (And.intro rfl ?_)
      | refine And.intro (by decide) ?_
      | refine And.intro (by omega) ?_
    · have h : eqI x y = false := not_t (b := eqI x y) h
      rw [h] at hr
      rw [← hr]; rfl
    · have h : eqI x y = true := not_f (b := eqI x y) h
      rw [h, Bool.true_and] at hr
      refine To.head [2, 3, 5] ?_
      exact ih (i + 1) (by omega) hr
theorem rn_l (a b : Rn) (M : Imm) (ob : Hs) (vs : List Value) (h : RepL M ob vs [a.av, b.av]) : ((iv a.hs).length : Int) ≤ 9223372036854775807 := by
  have hl : 0 < vs.length := by rw [h.1]; simp
  have := h.2 0 _ a.av (List.getElem?_eq_getElem hl) rfl
  exact rep_agg_at this 13 _ rfl
theorem one_any (a b : Rn) (r : Bool) (hr : a.eqb b = r) : CallOK Try.prog 60 [a.av, b.av] [] (.ret (.bool r)) [] := by
  refine CallOK.get _ (rn_l a b) fun hl => ?_
  have hla : (iv a.hs).length = a.hs.length := by simp
  have hlb : (iv b.hs).length = b.hs.length := by simp
  unfold Rn.eqb at hr
  refine CallOK.to (E := E) (fn := Try.f60) (g := .pure _) (by rfl) (by rfl) (by rfl) (fun _ _ => by rfl) (by decide +kernel) (by rfl) (by rfl) (by rfl) fun _ => ?_
  repeat' first
    | (refine goN hE 100 rfl ?_; conv => whnf)
    | exact rfl
    | refine And.intro (fun _ => ?_) (fun h => absurd (show true = false from h) (by decide))
    | refine And.intro (fun h => absurd (show false = true from h) (by decide)) (fun _ => ?_)
    | refine And.intro (fun h => ?_) (fun h => absurd (of_decide_eq_false h) (by omega))
    | refine And.intro (fun h => absurd (of_decide_eq_true h) (by omega)) (fun h => ?_)
    | refine And.intro (fun h => ?_) (fun h => ?_)
    | refine Or.inl (And.intro (And.intro (by simp only [kmin]; omega) (by simp only [kmax]; omega)) ?_)
    | refine Exists.intro _ (And.intro rfl ?_)
    | refine And.intro (by decide) ?_
    | refine And.intro (by omega) ?_
  all_goals simp only [bne, Bool.not_eq_true', Bool.not_eq_false'] at *
  case refine_2.refine_2.refine_2.refine_2.refine_2.refine_1 =>
    have e : eqL eqI a.hs b.hs = false := eqL_len (by rw [← hla, ← hlb]; intro e; rw [e] at h; simp at h)
    rw [← hr, e]
    simp only [Bool.and_false]
  case refine_2.refine_2.refine_2.refine_2.refine_2.refine_2 =>
    rename_i g1 g2 g3 g4 g5
    have g1 : a.g.eqb b.g = true := g1
    rw [g1, g2, g3, g4, g5] at hr
    have hr : eqL eqI a.hs b.hs = r := hr
    have e : (iv a.hs).length = (iv b.hs).length := by simp at h; simp; omega
    refine To.head [2, 3, 5] ?_
    exact one_loop a b (by omega) hl r a.hs.length 0 (by omega) hr
  all_goals (rw [← hr]; clear hr; simp only [Gan.eqb, *, Bool.true_and, Bool.false_and, Bool.and_false])
theorem one_ok (a b : Rn) : CallOK Try.prog 60 [a.av, b.av] [] (.ret (.bool (a.eqb b))) [] := one_any a b _ rfl

noncomputable abbrev fSame : Func := Try.f29
theorem psame_loop (a b : List Rn) (hab : a.length = b.length) (hl : ((rav a).length : Int) ≤ 9223372036854775807) (r : Bool) : ∀ (n i : Nat), i + n = a.length → eqL Rn.eqb (a.drop i) (b.drop i) = r →
    To E fSame (.pure (.ret (.bool r))) (.head (stk fSame 0) [(0, .slice 14 (rav a) .no), (1, .slice 14 (rav b) .no), (5, .int .i64 i)] []) := by
  have hlen : (rav a).length = a.length := by simp
  intro n
  induction n with
  | zero =>
    intro i hi hr
    rw [List.drop_eq_nil_of_le (by omega), List.drop_eq_nil_of_le (by omega)] at hr
    subst hr
    refine goes hE 100 ?_
    conv => whnf
    repeat' first
      | (refine goN hE 100 rfl ?_; conv => whnf)
      | exact rfl
      | refine And.intro (fun _ => ?_) (fun h => absurd (show true = false from h) (by decide))
      | refine And.intro (fun h => absurd (show false = true from h) (by decide)) (fun _ => ?_)
      | refine And.intro (fun h => ?_) (fun h => absurd (of_decide_eq_false h) (by omega))
      | refine And.intro (fun h => absurd (of_decide_eq_true h) (by omega)) (fun h => ?_)
      | refine And.intro (fun h => ?_) (fun h => ?_)
      | refine Or.inl (And.intro (And.intro (by simp only [kmin]; omega) (by simp only [kmax]; omega)) ?_)
      | refine Exists.intro _ (And.intro rfl ?_)
      | refine And.intro (by decide) ?_
      | refine And.intro (by omega) ?_
  | succ n ih =>
    intro i hi hr
    have h1 : i < a.length := by omega
    have h2 : i < b.length := by omega
    rw [List.drop_eq_getElem_cons h1, List.drop_eq_getElem_cons h2] at hr
    have hr : (Rn.eqb a[i] b[i] && eqL Rn.eqb (a.drop (i + 1)) (b.drop (i + 1))) = r := hr
    generalize hx : a[i] = x at hr
    generalize hy : b[i] = y at hr
    have ga : (rav a)[i]? = some x.av := (rav_get h1).trans (by rw [hx])
    have gb : (rav b)[i]? = some y.av := (rav_get h2).trans (by rw [hy])
    refine goes hE 100 ?_
    conv => whnf
    refine And.intro (fun h => ?_) (fun h => absurd (of_decide_eq_false h) (by omega))
    repeat' first
      | (refine goN hE 100 rfl ?_; conv => whnf)
      | refine Exists.intro _ (And.intro ga ?_)
      | refine Exists.intro _ (And.intro gb ?_)
      | refine .pure _ [] (one_ok x y) ?_
      | exact rfl
      | refine And.intro (fun _ => ?_) (fun h => absurd (show true = false from h) (by decide))
      | refine And.intro (fun h => absurd (show false = true from h) (by decide)) (fun _ => ?_)
      | refine And.intro (fun h => ?_) (fun h => absurd (of_decide_eq_false h) (by omega))
      | refine And.intro (fun h => absurd (of_decide_eq_true h) (by omega)) (fun h => ?_)
      | refine And.intro (fun h => ?_) (fun h => ?_)
      | refine Or.inl (And.intro (And.intro (by simp only [kmin]; omega) (by simp only [kmax]; omega)) ?_)
      | refine Exists.intro _ (And.intro rfl ?_)
      | refine And.intro (by decide) ?_
      | refine And.intro (by omega) ?_
    · have h : Rn.eqb x y = false := not_t h
      rw [h] at hr
      rw [← hr]; rfl
    · have h : Rn.eqb x y = true := not_f h
      rw [h, Bool.true_and] at hr
      refine To.head [0, 1, 5] ?_
      exact ih (i + 1) (by omega) hr
theorem psame_ok (a b : List Rn) : CallOK Try.prog 29 [.slice 14 (rav a) .no, .slice 14 (rav b) .no] [] (.ret (.bool (eqL Rn.eqb a b))) [] := by
  have hla : (rav a).length = a.length := by simp
  have hlb : (rav b).length = b.length := by simp
  refine CallOK.to (E := E) (fn := Try.f29) (g := .pure _) (by rfl) (by rfl) (by rfl) (fun _ _ => by rfl) (by decide +kernel) (by rfl) (by rfl) (by rfl) fun ho => ?_
  have hl : ((rav a).length : Int) ≤ 9223372036854775807 := ho.1
  refine goes hE 100 ?_
  conv => whnf
  refine And.intro (fun h => ?_) (fun h => ?_)
  · have h : (((rav a).length : Int) != ((rav b).length : Int)) = true := h
    rw [eqL_len (by rw [← hla, ← hlb]; exact (fun e => by rw [e] at h; simp at h))]
    refine goes hE 100 ?_
    conv => whnf
  · have h : (((rav a).length : Int) != ((rav b).length : Int)) = false := h
    have e : (rav a).length = (rav b).length := by simp at h; simp; omega
    refine goes hE 100 ?_
    conv => whnf
    refine To.head [0, 1, 5] ?_
    exact psame_loop a b (by omega) hl _ a.length 0 (by omega) rfl
theorem rn_self (x : Rn) : x.eqb x = true := by
  have h1 : x.g.eqb x.g = true := Gan.eqb_eq.2 rfl
  have h2 : eqL eqI x.hs x.hs = true := eqL_self (fun y => by simp [eqI]) _
  simp [Rn.eqb, h1, h2]
theorem rns_self (l : List Rn) : eqL Rn.eqb l l = true := eqL_self rn_self l
end Go.Proofs.Ytmodiilfjfmdcaa

namespace Go.Proofs.Ytmodiilfjfmdcaa
open Go Go.AW Go.Proofs Go.Shelf
set_option maxRecDepth 100000

def sortRen : Go.Shelf.Ren := ⟨fun | 125 => 76 | 128 => 88 | 129 => 89 | 189 => 59 | 215 => 96 | 216 => 85 | 257 => 75 | 294 => 79 | 295 => 80 | 296 => 81 | 297 => 82 | 298 => 83 | 299 => 84 | 300 => 86 | 301 => 87 | 328 => 91 | 329 => 92 | 330 => 93 | 331 => 94 | 332 => 95 | 343 => 97 | n => n, fun | 0 => 0 | 3 => 3 | 4 => 4 | 5 => 5 | 9 => 9 | 28 => 50 | 46 => 122 | 51 => 134 | 53 => 136 | 131 => 131 | 182 => 125 | 183 => 126 | 218 => 139 | 222 => 143 | 228 => 146 | 229 => 147 | n => n, fun n => n⟩
theorem sortLays : Lays.n189 Try.prog sortRen where
  mixed := by kernel_rfl
  f125 := Try.func76.trans (congrArg some (by kernel_rfl))
  f128 := Try.func88.trans (congrArg some (by kernel_rfl))
  f129 := Try.func89.trans (congrArg some (by kernel_rfl))
  f189 := Try.func59.trans (congrArg some (by kernel_rfl))
  f215 := Try.func96.trans (congrArg some (by kernel_rfl))
  f216 := Try.func85.trans (congrArg some (by kernel_rfl))
  f257 := Try.func75.trans (congrArg some (by kernel_rfl))
  f294 := Try.func79.trans (congrArg some (by kernel_rfl))
  f295 := Try.func80.trans (congrArg some (by kernel_rfl))
  f296 := Try.func81.trans (congrArg some (by kernel_rfl))
  f297 := Try.func82.trans (congrArg some (by kernel_rfl))
  f298 := Try.func83.trans (congrArg some (by kernel_rfl))
  f299 := Try.func84.trans (congrArg some (by kernel_rfl))
  f300 := Try.func86.trans (congrArg some (by kernel_rfl))
  f301 := Try.func87.trans (congrArg some (by kernel_rfl))
  f328 := Try.func91.trans (congrArg some (by kernel_rfl))
  f329 := Try.func92.trans (congrArg some (by kernel_rfl))
  f330 := Try.func93.trans (congrArg some (by kernel_rfl))
  f331 := Try.func94.trans (congrArg some (by kernel_rfl))
  f332 := Try.func95.trans (congrArg some (by kernel_rfl))
  f343 := Try.func97.trans (congrArg some (by kernel_rfl))
  t0 := Try.underlying0
  a0 := Try.isAgg0
  z0 := Try.sizeOf0
  v0 := Try.zeroValue0
  t3 := Try.underlying3
  a3 := Try.isAgg3
  z3 := Try.sizeOf3
  v3 := Try.zeroValue3
  t4 := Try.underlying4
  a4 := Try.isAgg4
  z4 := Try.sizeOf4
  v4 := Try.zeroValue4
  t5 := Try.underlying5
  a5 := Try.isAgg5
  z5 := Try.sizeOf5
  v5 := Try.zeroValue5
  t9 := Try.underlying9
  a9 := Try.isAgg9
  z9 := Try.sizeOf9
  v9 := Try.zeroValue9
  t28 := Try.underlying50
  a28 := Try.isAgg50
  z28 := Try.sizeOf50
  v28 := Try.zeroValue50
  t46 := Try.underlying122
  a46 := Try.isAgg122
  z46 := Try.sizeOf122
  v46 := Try.zeroValue122
  t51 := Try.underlying134
  a51 := Try.isAgg134
  z51 := Try.sizeOf134
  v51 := Try.zeroValue134
  t53 := Try.underlying136
  a53 := Try.isAgg136
  z53 := Try.sizeOf136
  v53 := Try.zeroValue136
  t131 := Try.underlying131
  a131 := Try.isAgg131
  z131 := Try.sizeOf131
  v131 := Try.zeroValue131
  t182 := Try.underlying125
  a182 := Try.isAgg125
  z182 := Try.sizeOf125
  v182 := Try.zeroValue125
  t183 := Try.underlying126
  a183 := Try.isAgg126
  z183 := Try.sizeOf126
  v183 := Try.zeroValue126
  t218 := Try.underlying139
  a218 := Try.isAgg139
  z218 := Try.sizeOf139
  v218 := Try.zeroValue139
  t222 := Try.underlying143
  a222 := Try.isAgg143
  z222 := Try.sizeOf143
  v222 := Try.zeroValue143
  t228 := Try.underlying146
  a228 := Try.isAgg146
  z228 := Try.sizeOf146
  v228 := Try.zeroValue146
  t229 := Try.underlying147
  a229 := Try.isAgg147
  z229 := Try.sizeOf147
  v229 := Try.zeroValue147

def sortI (l : List Int) : List Int := l.mergeSort fun x y => decide (x ≤ y)
theorem sort_ok (l : List Int) (hl : l.length ≤ 1000000000) : CallOK Try.prog 59 [.row 0 0] [.row 0 1 3 (iv l)] (.ret (.tup [])) [.row 0 1 3 (iv (sortI l))] :=
  sort_contract (fun _ _ => by rfl) (fun p cap w => Any.slices_Sort_int_none sortLays p cap w) (fun blk off cap zs w hH hb hz => Any.slices_Sort_int sortLays blk off cap zs w hH hb hz) 3 l hl
end Go.Proofs.Ytmodiilfjfmdcaa

namespace Go.Proofs.Ytmodiilfjfmdcaa
open Go Go.AW Go.Proofs
set_option maxRecDepth 10000

noncomputable def Ex (o r b : List Nat) : Env := { E with own := o, rws := r, bl := b }
theorem hEx (o r b : List Nat) : EnvOK (Ex o r b) := ⟨hE.mix, hE.tab, hE.mth, hE.fl⟩
def kav (n : Int) : AVal := .agg [ii n]
abbrev kv (l : List Int) : List AVal := l.map kav
theorem kv_get {l : List Int} {i : Nat} (h : i < l.length) : (kv l)[i]? = some (kav l[i]) := by simp [kv, h]
abbrev keyF (n : Int) : AVal := .func (.func 58) [] [.ptr [ii n]]
theorem key_ok (x n : Int) : CallOK Try.prog 58 [kav x, .ptr [ii n]] [] (.ret (.bool (x == n && true))) [] := by
  refine CallOK.to (E := E) (fn := Try.f58) (g := .pure _) (by rfl) (by rfl) (by rfl) (fun _ _ => by rfl) (by decide +kernel) (by rfl) (by rfl) (by rfl) fun _ => ?_
  repeat' first
    | (refine goN hE 100 rfl ?_; conv => whnf)
    | exact rfl
    | refine And.intro (fun _ => ?_) (fun h => absurd (show true = false from h) (by decide))
    | refine And.intro (fun h => absurd (show false = true from h) (by decide)) (fun _ => ?_)
    | refine And.intro (fun h => ?_) (fun h => absurd (of_decide_eq_false h) (by omega))
    | refine And.intro (fun h => absurd (of_decide_eq_true h) (by omega)) (fun h => ?_)
    | refine And.intro (fun h => ?_) (fun h => ?_)
    | refine Or.inl (And.intro (And.intro (by simp only [kmin]; omega) (by simp only [kmax]; omega)) ?_)
    | refine Exists.intro _ (And.intro rfl ?_)
    | refine And.intro (by decide) ?_
    | refine And.intro (by omega) ?_
/-- where a key stands -/
def findK (n : Int) : List Int → Nat → Int
  | [], _ => -1
  | x :: r, i => if (x == n && true) then (i : Int) else findK n r (i + 1)
theorem findK_ge (n : Int) : ∀ (l : List Int) (i : Nat), -1 ≤ findK n l i
  | [], _ => by simp [findK]
  | x :: r, i => by
    unfold findK
    split
    · omega
    · exact findK_ge n r (i + 1)
def has (l : List Int) (n : Int) : Bool := decide (0 ≤ findK n l 0)
noncomputable abbrev fIdx : Func := Try.f74
theorem idx_loop (l : List Int) (n : Int) (hl : ((kv l).length : Int) ≤ 9223372036854775807) (r : Int) : ∀ (m i : Nat), i + m = l.length → findK n (l.drop i) i = r →
    To E fIdx (.pure (.ret (ii r))) (.head (stk fIdx 0) [(0, .slice 1 (kv l) .no), (1, keyF n), (7, .int .i64 ((kv l).length : Nat)), (8, .int .i64 i)] []) := by
  have hlen : (kv l).length = l.length := by simp
  intro m
  induction m with
  | zero =>
    intro i hi hr
    rw [List.drop_eq_nil_of_le (by omega)] at hr
    subst hr
    refine goes hE 100 ?_
    conv => whnf
    refine And.intro (fun h => absurd (of_decide_eq_true h) (by omega)) (fun h => ?_)
    repeat' first
      | (refine goN hE 100 rfl ?_; conv => whnf)
      | exact rfl
      | refine And.intro (fun _ => ?_) (fun h => absurd (show true = false from h) (by decide))
      | refine And.intro (fun h => absurd (show false = true from h) (by decide)) (fun _ => ?_)
      | refine And.intro (fun h => ?_) (fun h => absurd (of_decide_eq_false h) (by omega))
      | refine And.intro (fun h => absurd (of_decide_eq_true h) (by omega)) (fun h => ?_)
      | refine And.intro (fun h => ?_) (fun h => ?_)
      | refine Or.inl (And.intro (And.intro (by simp only [kmin]; omega) (by simp only [kmax]; omega)) ?_)
      | refine Exists.intro _ (And.intro rfl ?_)
      | refine And.intro (by decide) ?_
      | refine And.intro (by omega) ?_
  | succ m ih =>
    intro i hi hr
    have hlt : i < l.length := by omega
    rw [List.drop_eq_getElem_cons hlt] at hr
    generalize hx : l[i] = x at hr
    have get : (kv l)[i]? = some (kav x) := (kv_get hlt).trans (by rw [hx])
    unfold findK at hr
    refine goes hE 100 ?_
    conv => whnf
    refine And.intro (fun h => ?_) (fun h => absurd (of_decide_eq_false h) (by omega))
    repeat' first
      | (refine goN hE 100 rfl ?_; conv => whnf)
      | refine Exists.intro _ (And.intro get ?_)
      | refine .pure _ [] (key_ok x n) ?_
      | exact rfl
      | refine And.intro (fun _ => ?_) (fun h => absurd (show true = false from h) (by decide))
      | refine And.intro (fun h => absurd (show false = true from h) (by decide)) (fun _ => ?_)
      | refine And.intro (fun h => ?_) (fun h => absurd (of_decide_eq_false h) (by omega))
      | refine And.intro (fun h => absurd (of_decide_eq_true h) (by omega)) (fun h => ?_)
      | refine And.intro (fun h => ?_) (fun h => ?_)
      | refine Or.inl (And.intro (And.intro (by simp only [kmin]; omega) (by simp only [kmax]; omega)) ?_)
      | refine Exists.intro _ (And.intro rfl ?_)
      | refine And.intro (by decide) ?_
      | refine And.intro (by omega) ?_
    · have h : (x == n && true) = true := h
      rw [if_pos h] at hr
      rw [← hr]
    · have h : (x == n && true) = false := h
      rw [if_neg (by rw [h]; decide)] at hr
      refine To.head [0, 1, 7, 8] ?_
      exact ih (i + 1) (by omega) hr
theorem idx_ok (l : List Int) (n : Int) : CallOK Try.prog 74 [.slice 1 (kv l) .no, keyF n] [] (.ret (ii (findK n l 0))) [] := by
  refine CallOK.to (E := E) (fn := Try.f74) (g := .pure _) (by rfl) (by rfl) (by rfl) (fun _ _ => by rfl) (by decide +kernel) (by rfl) (by rfl) (by rfl) fun ho => ?_
  have hl : ((kv l).length : Int) ≤ 9223372036854775807 := ho.1
  refine goes hE 100 ?_
  conv => whnf
  refine To.head [0, 1, 7, 8] ?_
  exact idx_loop l n hl _ l.length 0 (by omega) rfl
theorem has_ok (l : List Int) (n : Int) : CallOK Try.prog 57 [.slice 1 (kv l) .no, keyF n] [] (.ret (.bool (has l n))) [] := by
  refine CallOK.to (E := E) (fn := Try.f57) (g := .pure _) (by rfl) (by rfl) (by rfl) (fun _ _ => by rfl) (by decide +kernel) (by rfl) (by rfl) (by rfl) fun _ => ?_
  repeat' first
    | (refine goN hE 100 rfl ?_; conv => whnf)
    | refine .pure _ [] (idx_ok l n) ?_
    | exact rfl
    | refine And.intro (fun _ => ?_) (fun h => absurd (show true = false from h) (by decide))
    | refine And.intro (fun h => absurd (show false = true from h) (by decide)) (fun _ => ?_)
    | refine And.intro (fun h => ?_) (fun h => absurd (of_decide_eq_false h) (by omega))
    | refine And.intro (fun h => absurd (of_decide_eq_true h) (by omega)) (fun h => ?_)
    | refine And.intro (fun h => ?_) (fun h => ?_)
    | refine Or.inl (And.intro (And.intro (by simp only [kmin]; omega) (by simp only [kmax]; omega)) ?_)
    | refine Exists.intro _ (And.intro rfl ?_)
    | refine And.intro (by decide) ?_
    | refine And.intro (by omega) ?_

def keysL (now : Int) : List Rn → List Int → List Int
  | [], ks => ks
  | x :: r, ks => keysL now r (if decide (now < endR x) && !has ks (endR x) then ks ++ [endR x] else ks)
theorem keysL_len (now : Int) : ∀ (l : List Rn) (ks : List Int), (keysL now l ks).length ≤ ks.length + l.length
  | [], ks => by simp [keysL]
  | x :: r, ks => by
    unfold keysL
    have := keysL_len now r (if decide (now < endR x) && !has ks (endR x) then ks ++ [endR x] else ks)
    split at this
    · rename_i h; rw [if_pos h]; simp only [List.length_append, List.length_cons, List.length_nil] at this ⊢; omega
    · rename_i h; rw [if_neg h]; simp only [List.length_cons]; omega
noncomputable abbrev fEnds : Func := Try.f27
noncomputable abbrev En : Env := Ex [5] [9] []
theorem hEn : EnvOK En := hEx _ _ _
theorem ends2_loop (ks : List Int) (hk : ks.length ≤ 1048576) : ∀ (n i : Nat) (acc : List Int), i + n = ks.length → acc = ks.take i →
    To En fEnds (.pure (.ret (.slice 1 (iv (sortI ks)) .no))) (.head (stk fEnds 1) [(9, .row 0 0), (36, .slice 1 (kv ks) .no), (37, .int .i64 ((kv ks).length : Nat)), (38, .int .i64 i)] [.row 0 1 3 (iv acc)]) := by
  have hlen : (kv ks).length = ks.length := by simp
  intro n
  induction n with
  | zero =>
    intro i acc hi ha
    rw [List.take_of_length_le (by omega)] at ha
    subst ha
    refine goes hEn 100 ?_
    conv => whnf
    refine And.intro (fun h => absurd (of_decide_eq_true h) (by omega)) (fun h => ?_)
    refine goes hEn 100 ?_
    conv => whnf
    refine .eff [] [0] _ _ rfl (sort_ok acc (by omega)) ?_
    repeat' first
      | (refine goN hEn 100 rfl ?_; conv => whnf)
      | exact rfl
      | refine And.intro (fun _ => ?_) (fun h => absurd (show true = false from h) (by decide))
      | refine And.intro (fun h => absurd (show false = true from h) (by decide)) (fun _ => ?_)
      | refine And.intro (fun h => ?_) (fun h => absurd (of_decide_eq_false h) (by omega))
      | refine And.intro (fun h => absurd (of_decide_eq_true h) (by omega)) (fun h => ?_)
      | refine And.intro (fun h => ?_) (fun h => ?_)
      | refine Or.inl (And.intro (And.intro (by simp only [kmin]; omega) (by simp only [kmax]; omega)) ?_)
      | refine Exists.intro _ (And.intro rfl ?_)
      | refine And.intro (by decide) ?_
      | refine And.intro (by omega) ?_
  | succ n ih =>
    intro i acc hi ha
    have hlt : i < ks.length := by omega
    generalize hx : ks[i] = x
    have get : (kv ks)[i]? = some (kav x) := (kv_get hlt).trans (by rw [hx])
    have hal : acc.length = i := by rw [ha]; simp; omega
    have hia : (iv acc).length = acc.length := by simp
    refine goes hEn 100 ?_
    conv => whnf
    refine And.intro (fun h => ?_) (fun h => absurd (of_decide_eq_false h) (by omega))
    refine goes hEn 100 ?_
    conv => whnf
    refine ⟨i, rfl, ?_⟩
    refine goes hEn 100 ?_
    conv => whnf
    refine ⟨_, get, ?_⟩
    refine goes hEn 100 ?_
    conv => whnf
    refine ⟨⟨by decide, by decide⟩, ?_⟩
    refine goes hEn 100 ?_
    conv => whnf
    refine And.intro (And.intro (by simp only [maxLen]; simp; omega) (by simp; omega)) ?_
    refine goes hEn 100 ?_
    conv => whnf
    refine Or.inl (And.intro (And.intro (by simp only [kmin]; omega) (by simp only [kmax]; omega)) ?_)
    refine goes hEn 100 ?_
    conv => whnf
    refine To.part [9, 36, 37, 38] [0] rfl rfl rfl ?_
    have next := ih (i + 1) (acc ++ [x]) (by omega) (by rw [ha, ← hx]; exact List.take_append_getElem hlt)
    have e : iv (acc ++ [x]) = iv acc ++ [ii x] := by simp
    rw [e] at next
    exact next
theorem ends_loop (l : List Rn) (hs : Sm l) (now : Int) (R : List Int) : ∀ (n i : Nat) (ks : List Int), i + n = l.length → ks.length ≤ i → sortI (keysL now (l.drop i) ks) = R →
    To En fEnds (.pure (.ret (.slice 1 (iv R) .no))) (.head (stk fEnds 0) [(1, .int .i64 now), (5, .slice 1 (kv ks) (.own 0 0)), (12, .slice 14 (rav l) .no), (13, .int .i64 ((rav l).length : Nat)), (14, .int .i64 i)] [.tail 0 1 96]) := by
  have hlen : (rav l).length = l.length := by simp
  have hl := hs.1
  intro n
  induction n with
  | zero =>
    intro i ks hi hk hR
    rw [List.drop_eq_nil_of_le (by omega)] at hR
    have hR : sortI ks = R := hR
    subst hR
    refine goes hEn 100 ?_
    conv => whnf
    refine And.intro (fun h => absurd (of_decide_eq_true h) (by omega)) (fun h => ?_)
    refine goes hEn 100 ?_
    conv => whnf
    refine To.part [9, 36, 37, 38] [1] rfl rfl rfl ?_
    exact ends2_loop ks (by omega) ks.length 0 [] (by omega) (by simp)
  | succ n ih =>
    intro i ks hi hk hR
    have hlt : i < l.length := by omega
    rw [List.drop_eq_getElem_cons hlt] at hR
    generalize hx : l[i] = x at hR
    have get : (rav l)[i]? = some x.av := (rav_get hlt).trans (by rw [hx])
    have hkl : (kv ks).length = ks.length := by simp
    unfold keysL at hR
    refine goes hEn 100 ?_
    conv => whnf
    refine And.intro (fun h => ?_) (fun h => absurd (of_decide_eq_false h) (by omega))
    refine goes hEn 100 ?_
    conv => whnf
    refine ⟨i, rfl, ?_⟩
    refine goes hEn 100 ?_
    conv => whnf
    refine ⟨_, get, ?_⟩
    refine goes hEn 100 ?_
    conv => whnf
    refine .pure _ [] (end_ok x) ?_
    refine goes hEn 100 ?_
    conv => whnf
    refine ⟨⟨by decide, by decide⟩, ?_⟩
    refine goes hEn 100 ?_
    conv => whnf
    refine And.intro (fun h1 => ?_) (fun h1 => ?_)
    · have h1 : decide (now < endR x) = true := h1
      refine goes hEn 100 ?_
      conv => whnf
      refine .pure _ [] (has_ok ks (endR x)) ?_
      refine goes hEn 100 ?_
      conv => whnf
      refine And.intro (fun h2 => ?_) (fun h2 => ?_)
      · have h2 : (!has ks (endR x)) = true := h2
        rw [h1, h2, if_pos (by decide)] at hR
        refine goes hEn 100 ?_
        conv => whnf
        refine And.intro (And.intro (by simp only [maxLen]; simp; omega) (by simp; omega)) ?_
        refine goes hEn 100 ?_
        conv => whnf
        refine Or.inl (And.intro (And.intro (by simp only [kmin]; omega) (by simp only [kmax]; omega)) ?_)
        refine goes hEn 100 ?_
        conv => whnf
        refine To.part [1, 5, 12, 13, 14] [0] rfl rfl rfl ?_
        have next := ih (i + 1) (ks ++ [endR x]) (by omega) (by simp; omega) hR
        have e : kv (ks ++ [endR x]) = kv ks ++ [kav (endR x)] := by simp
        rw [e] at next
        exact next
      · have h2 : (!has ks (endR x)) = false := h2
        rw [h1, h2, if_neg (by decide)] at hR
        refine goes hEn 100 ?_
        conv => whnf
        refine Or.inl (And.intro (And.intro (by simp only [kmin]; omega) (by simp only [kmax]; omega)) ?_)
        refine goes hEn 100 ?_
        conv => whnf
        refine To.part [1, 5, 12, 13, 14] [0] rfl rfl rfl ?_
        exact ih (i + 1) ks (by omega) (by omega) hR
    · have h1 : decide (now < endR x) = false := h1
      rw [h1, Bool.false_and, if_neg (by decide)] at hR
      repeat' first
        | (refine goN hEn 100 rfl ?_; conv => whnf)
        | exact rfl
        | refine And.intro (fun _ => ?_) (fun h => absurd (show true = false from h) (by decide))
        | refine And.intro (fun h => absurd (show false = true from h) (by decide)) (fun _ => ?_)
        | refine And.intro (fun h => ?_) (fun h => absurd (of_decide_eq_false h) (by omega))
        | refine And.intro (fun h => absurd (of_decide_eq_true h) (by omega)) (fun h => ?_)
        | refine And.intro (fun h => ?_) (fun h => ?_)
        | refine Or.inl (And.intro (And.intro (by simp only [kmin]; omega) (by simp only [kmax]; omega)) ?_)
        | refine Exists.intro _ (And.intro rfl ?_)
        | refine And.intro (by decide) ?_
        | refine And.intro (by omega) ?_
      refine To.part [1, 5, 12, 13, 14] [0] rfl rfl rfl ?_
      exact ih (i + 1) ks (by omega) (by omega) hR
def endsL (l : List Rn) (now : Int) : List Int := sortI (keysL now l [])
theorem ends_ok (l : List Rn) (hs : Sm l) (now : Int) : CallOK Try.prog 27 [.slice 14 (rav l) .no, ii now] [] (.ret (.slice 1 (iv (endsL l now)) .no)) [] := by
  refine CallOK.to (E := En) (fn := Try.f27) (g := .pure _) (by rfl) (by rfl) (by rfl) (fun _ _ => by rfl) (by decide +kernel) (by rfl) (by rfl) (by rfl) fun _ => ?_
  refine goes hEn 100 ?_
  conv => whnf
  refine To.part [1, 5, 12, 13, 14] [0] rfl rfl rfl ?_
  exact ends_loop l hs now _ l.length 0 [] (by omega) (by simp) rfl
end Go.Proofs.Ytmodiilfjfmdcaa

namespace Go.Proofs.Ytmodiilfjfmdcaa
open Go Go.AW Go.Proofs
set_option maxRecDepth 10000

/-- one more in a row in order, but for one that is there -/
def insU (n : Int) : List Int → List Int
  | [] => [n]
  | x :: r => if x < n then x :: insU n r else if x = n then x :: r else n :: x :: r
def rE (now : Int) : List Rn → List Int → List Int
  | [], out => out
  | x :: r, out => rE now r (if endR x ≤ now then out else insU (endR x) out)
theorem insU_len (n : Int) : ∀ (l : List Int), (insU n l).length ≤ l.length + 1
  | [] => by simp [insU]
  | x :: r => by
    have := insU_len n r
    unfold insU
    split
    · simp only [List.length_cons]; omega
    · split <;> simp
noncomputable abbrev fREnds : Func := Try.f28
noncomputable abbrev Ee : Env := Ex [5, 54] [] [58, 59, 60]
theorem hEe : EnvOK Ee := hEx _ _ _
abbrev reO : List AObj := [.tail 0 1 3]
def reF (l : List Rn) (now : Int) (out : List Int) (i : Nat) : List (Nat × AVal) := [(0, .slice 14 (rav l) .no), (1, .int .i64 now), (5, .slice 1 (iv out) (.own 0 0)), (6, .int .i64 i)]
theorem rends_inner (l : List Rn) (now : Int) (R : List Int) (i : Nat) (hi : i < 1048576) (n : Int) (out : List Int) (ho : out.length ≤ i) (rest : List Rn)
    (ih : ∀ (out' : List Int), out'.length ≤ i + 1 → rE now rest out' = R → To Ee fREnds (.pure (.ret (.slice 1 (iv R) .no))) (.head (stk fREnds 0) [(0, .slice 14 (rav l) .no), (1, .int .i64 now), (5, .slice 1 (iv out') (.own 0 0)), (6, .int .i64 ((i : Int) + 1))] reO))
    (hR : rE now rest (if n ≤ now then out else insU n out) = R) : ∀ (m k : Nat), k + m = out.length → insU n out = out.take k ++ insU n (out.drop k) →
    To Ee fREnds (.pure (.ret (.slice 1 (iv R) .no))) (.head (stk fREnds 1) [(0, .slice 14 (rav l) .no), (1, .int .i64 now), (5, .slice 1 (iv out) (.own 0 0)), (6, .int .i64 i), (7, .int .i64 n), (8, .int .i64 k)] reO) := by
  have hlo : (iv out).length = out.length := by simp
  intro m
  induction m with
  | zero =>
    intro k hk hins
    rw [List.drop_eq_nil_of_le (by omega), List.take_of_length_le (by omega)] at hins
    have hins : insU n out = out ++ [n] := hins
    have hd : List.drop k (iv out) = [] := List.drop_eq_nil_of_le (by omega)
    have ht : List.take k (iv out) = iv out := List.take_of_length_le (by omega)
    refine goes hEe 100 ?_
    conv => whnf
    refine And.intro (fun h => absurd (of_decide_eq_true h) (by omega)) (fun h => ?_)
    refine goes hEe 100 ?_
    conv => whnf
    refine And.intro (fun h => absurd (show false = true from h) (by decide)) (fun _ => ?_)
    refine goes hEe 100 ?_
    conv => whnf
    refine And.intro (fun h1 => ?_) (fun h1 => ?_)
    · have hnow := of_decide_eq_true h1
      repeat' first
        | (refine goN hEe 100 rfl ?_; conv => whnf)
        | exact rfl
        | refine And.intro (fun _ => ?_) (fun h => absurd (show true = false from h) (by decide))
        | refine And.intro (fun h => absurd (show false = true from h) (by decide)) (fun _ => ?_)
        | refine And.intro (fun h => ?_) (fun h => absurd (of_decide_eq_false h) (by omega))
        | refine And.intro (fun h => absurd (of_decide_eq_true h) (by omega)) (fun h => ?_)
        | refine And.intro (fun h => ?_) (fun h => ?_)
        | refine Or.inl (And.intro (And.intro (by simp only [kmin]; omega) (by simp only [kmax]; omega)) ?_)
        | refine Exists.intro _ (And.intro rfl ?_)
        | refine And.intro (by decide) ?_
        | refine And.intro (by omega) ?_
      refine To.part [0, 1, 5, 6] [0] rfl rfl rfl ?_
      exact ih out (by omega) (by rw [if_pos hnow] at hR; exact hR)
    · have hnow := of_decide_eq_false h1
      refine goes hEe 100 ?_
      conv => whnf
      refine And.intro (fun h => absurd (of_decide_eq_true h) (by omega)) (fun h => ?_)
      refine goes hEe 100 ?_
      conv => whnf
      refine And.intro (fun h => absurd (show false = true from h) (by decide)) (fun _ => ?_)
      refine goes hEe 100 ?_
      conv => whnf
      refine ⟨k, rfl, ?_⟩
      refine goes hEe 100 ?_
      conv => whnf
      refine ⟨by omega, ?_⟩
      refine goes hEe 100 ?_
      conv => whnf
      refine And.intro (And.intro (by simp only [maxLen]; simp; omega) (by simp; omega)) ?_
      refine goes hEe 100 ?_
      conv => whnf
      refine And.intro (And.intro (by simp only [maxLen]; simp; omega) (by simp; omega)) ?_
      refine goes hEe 100 ?_
      conv => whnf
      refine ⟨k, rfl, ?_⟩
      refine goes hEe 100 ?_
      conv => whnf
      refine ⟨by omega, ?_⟩
      refine goes hEe 100 ?_
      conv => whnf
      refine And.intro (And.intro (by simp only [maxLen]; simp; omega) (by simp; omega)) ?_
      refine goes hEe 100 ?_
      conv => whnf
      refine Or.inl (And.intro (And.intro (by simp only [kmin]; omega) (by simp only [kmax]; omega)) ?_)
      refine goes hEe 100 ?_
      conv => whnf
      refine To.part [0, 1, 5, 6] [1] rfl rfl rfl ?_
      rw [if_neg hnow, hins] at hR
      have next := ih (out ++ [n]) (by simp; omega) hR
      have e : iv (out ++ [n]) = List.take k (iv out) ++ [ii n] ++ List.drop k (iv out) := by rw [hd, ht]; simp
      rw [e] at next
      exact next
  | succ m ihm =>
    intro k hk hins
    have hlt : k < out.length := by omega
    rw [List.drop_eq_getElem_cons hlt] at hins
    have htk : out.take k ++ [out[k]] = out.take (k + 1) := List.take_append_getElem hlt
    have hdk : out.drop k = out[k] :: out.drop (k + 1) := List.drop_eq_getElem_cons hlt
    generalize hx : out[k] = x at hins htk hdk
    have get : (iv out)[k]? = some (ii x) := (iv_get hlt).trans (by rw [hx])
    have hins : insU n out = out.take k ++ (if x < n then x :: insU n (out.drop (k + 1)) else if x = n then x :: out.drop (k + 1) else n :: x :: out.drop (k + 1)) := hins
    refine goes hEe 100 ?_
    conv => whnf
    refine And.intro (fun h => ?_) (fun h => absurd (of_decide_eq_false h) (by omega))
    refine goes hEe 100 ?_
    conv => whnf
    refine ⟨k, rfl, ?_⟩
    refine goes hEe 100 ?_
    conv => whnf
    refine ⟨_, get, ?_⟩
    refine goes hEe 100 ?_
    conv => whnf
    refine And.intro (fun h1 => ?_) (fun h1 => ?_)
    · have hxn := of_decide_eq_true h1
      rw [if_pos hxn] at hins
      refine goes hEe 100 ?_
      conv => whnf
      refine Or.inl (And.intro (And.intro (by simp only [kmin]; omega) (by simp only [kmax]; omega)) ?_)
      refine goes hEe 100 ?_
      conv => whnf
      refine To.part [0, 1, 5, 6, 7, 8] [0] rfl rfl rfl ?_
      exact ihm (k + 1) (by omega) (by rw [hins, ← htk, List.append_assoc]; rfl)
    · have hxn := of_decide_eq_false h1
      rw [if_neg hxn] at hins
      refine goes hEe 100 ?_
      conv => whnf
      refine And.intro (fun h2 => ?_) (fun h2 => ?_)
      · have hnow := of_decide_eq_true h2
        repeat' first
          | (refine goN hEe 100 rfl ?_; conv => whnf)
          | exact rfl
          | refine And.intro (fun _ => ?_) (fun h => absurd (show true = false from h) (by decide))
          | refine And.intro (fun h => absurd (show false = true from h) (by decide)) (fun _ => ?_)
          | refine And.intro (fun h => ?_) (fun h => absurd (of_decide_eq_false h) (by omega))
          | refine And.intro (fun h => absurd (of_decide_eq_true h) (by omega)) (fun h => ?_)
          | refine And.intro (fun h => ?_) (fun h => ?_)
          | refine Or.inl (And.intro (And.intro (by simp only [kmin]; omega) (by simp only [kmax]; omega)) ?_)
          | refine Exists.intro _ (And.intro rfl ?_)
          | refine And.intro (by decide) ?_
          | refine And.intro (by omega) ?_
        refine To.part [0, 1, 5, 6] [0] rfl rfl rfl ?_
        exact ih out (by omega) (by rw [if_pos hnow] at hR; exact hR)
      · have hnow := of_decide_eq_false h2
        rw [if_neg hnow] at hR
        refine goes hEe 100 ?_
        conv => whnf
        refine And.intro (fun h => ?_) (fun h => absurd (of_decide_eq_false h) (by omega))
        refine goes hEe 100 ?_
        conv => whnf
        refine ⟨k, rfl, ?_⟩
        refine goes hEe 100 ?_
        conv => whnf
        refine ⟨_, get, ?_⟩
        refine goes hEe 100 ?_
        conv => whnf
        refine And.intro (fun h3 => ?_) (fun h3 => ?_)
        · have h3 : (x == n) = true := h3
          have h3 : x = n := by simpa using h3
          rw [if_pos h3] at hins
          have e : insU n out = out := by rw [hins, ← hdk, List.take_append_drop]
          rw [e] at hR
          repeat' first
            | (refine goN hEe 100 rfl ?_; conv => whnf)
            | exact rfl
            | refine And.intro (fun _ => ?_) (fun h => absurd (show true = false from h) (by decide))
            | refine And.intro (fun h => absurd (show false = true from h) (by decide)) (fun _ => ?_)
            | refine And.intro (fun h => ?_) (fun h => absurd (of_decide_eq_false h) (by omega))
            | refine And.intro (fun h => absurd (of_decide_eq_true h) (by omega)) (fun h => ?_)
            | refine And.intro (fun h => ?_) (fun h => ?_)
            | refine Or.inl (And.intro (And.intro (by simp only [kmin]; omega) (by simp only [kmax]; omega)) ?_)
            | refine Exists.intro _ (And.intro rfl ?_)
            | refine And.intro (by decide) ?_
            | refine And.intro (by omega) ?_
          refine To.part [0, 1, 5, 6] [0] rfl rfl rfl ?_
          exact ih out (by omega) hR
        · have h3 : (x == n) = false := h3
          have h3 : ¬ x = n := by simpa using h3
          rw [if_neg h3, ← hdk] at hins
          refine goes hEe 100 ?_
          conv => whnf
          refine ⟨k, rfl, ?_⟩
          refine goes hEe 100 ?_
          conv => whnf
          refine ⟨by omega, ?_⟩
          refine goes hEe 100 ?_
          conv => whnf
          refine And.intro (And.intro (by simp only [maxLen]; simp; omega) (by simp; omega)) ?_
          refine goes hEe 100 ?_
          conv => whnf
          refine And.intro (And.intro (by simp only [maxLen]; simp; omega) (by simp; omega)) ?_
          refine goes hEe 100 ?_
          conv => whnf
          refine ⟨k, rfl, ?_⟩
          refine goes hEe 100 ?_
          conv => whnf
          refine ⟨by omega, ?_⟩
          refine goes hEe 100 ?_
          conv => whnf
          refine And.intro (And.intro (by simp only [maxLen]; simp; omega) (by simp; omega)) ?_
          refine goes hEe 100 ?_
          conv => whnf
          refine Or.inl (And.intro (And.intro (by simp only [kmin]; omega) (by simp only [kmax]; omega)) ?_)
          refine goes hEe 100 ?_
          conv => whnf
          refine To.part [0, 1, 5, 6] [1] rfl rfl rfl ?_
          rw [hins] at hR
          have next := ih (out.take k ++ n :: out.drop k) (by simp; omega) hR
          have e : iv (out.take k ++ n :: out.drop k) = List.take k (iv out) ++ [ii n] ++ List.drop k (iv out) := by simp
          rw [e] at next
          exact next
theorem rends_loop (l : List Rn) (hs : Sm l) (now : Int) (R : List Int) : ∀ (m i : Nat) (out : List Int), i + m = l.length → out.length ≤ i → rE now (l.drop i) out = R →
    To Ee fREnds (.pure (.ret (.slice 1 (iv R) .no))) (.head (stk fREnds 0) [(0, .slice 14 (rav l) .no), (1, .int .i64 now), (5, .slice 1 (iv out) (.own 0 0)), (6, .int .i64 i)] reO) := by
  have hlen : (rav l).length = l.length := by simp
  have hl := hs.1
  intro m
  induction m with
  | zero =>
    intro i out hi ho hR
    rw [List.drop_eq_nil_of_le (by omega)] at hR
    have hR : out = R := hR
    subst hR
    refine goes hEe 100 ?_
    conv => whnf
    refine And.intro (fun h => absurd (of_decide_eq_true h) (by omega)) (fun h => ?_)
    repeat' first
      | (refine goN hEe 100 rfl ?_; conv => whnf)
      | exact rfl
      | refine And.intro (fun _ => ?_) (fun h => absurd (show true = false from h) (by decide))
      | refine And.intro (fun h => absurd (show false = true from h) (by decide)) (fun _ => ?_)
      | refine And.intro (fun h => ?_) (fun h => absurd (of_decide_eq_false h) (by omega))
      | refine And.intro (fun h => absurd (of_decide_eq_true h) (by omega)) (fun h => ?_)
      | refine And.intro (fun h => ?_) (fun h => ?_)
      | refine Or.inl (And.intro (And.intro (by simp only [kmin]; omega) (by simp only [kmax]; omega)) ?_)
      | refine Exists.intro _ (And.intro rfl ?_)
      | refine And.intro (by decide) ?_
      | refine And.intro (by omega) ?_
  | succ m ih =>
    intro i out hi ho hR
    have hlt : i < l.length := by omega
    rw [List.drop_eq_getElem_cons hlt] at hR
    generalize hx : l[i] = x at hR
    have get : (rav l)[i]? = some x.av := (rav_get hlt).trans (by rw [hx])
    unfold rE at hR
    refine goes hEe 100 ?_
    conv => whnf
    refine And.intro (fun h => ?_) (fun h => absurd (of_decide_eq_false h) (by omega))
    refine goes hEe 100 ?_
    conv => whnf
    refine ⟨i, rfl, ?_⟩
    refine goes hEe 100 ?_
    conv => whnf
    refine ⟨_, get, ?_⟩
    refine goes hEe 100 ?_
    conv => whnf
    refine .pure _ [] (rend_ok x) ?_
    refine goes hEe 100 ?_
    conv => whnf
    refine To.part [0, 1, 5, 6, 7, 8] [0] rfl rfl rfl ?_
    exact rends_inner l now R i (by omega) (endR x) out ho (l.drop (i + 1)) (fun out' h1 h2 => ih (i + 1) out' (by omega) h1 h2) hR out.length 0 (by omega) (by simp)
theorem rends_ok (l : List Rn) (hs : Sm l) (now : Int) : CallOK Try.prog 28 [.slice 14 (rav l) .no, ii now] [] (.ret (.slice 1 (iv (rE now l [])) .no)) [] := by
  refine CallOK.to (E := Ee) (fn := Try.f28) (g := .pure _) (by rfl) (by rfl) (by rfl) (fun _ _ => by rfl) (by decide +kernel) (by rfl) (by rfl) (by rfl) fun _ => ?_
  refine goes hEe 100 ?_
  conv => whnf
  refine To.part [0, 1, 5, 6] [0] rfl rfl rfl ?_
  exact rends_loop l hs now _ l.length 0 [] (by omega) (by simp) rfl
end Go.Proofs.Ytmodiilfjfmdcaa

namespace Go.Proofs.Ytmodiilfjfmdcaa
open Go Go.AW Go.Proofs

/-- in order, each once -/
abbrev St (l : List Int) : Prop := l.Pairwise (· < ·)
theorem insU_mem {n x : Int} : ∀ {l : List Int}, x ∈ insU n l ↔ x = n ∨ x ∈ l
  | [] => by simp [insU]
  | y :: r => by
    have ih := insU_mem (n := n) (x := x) (l := r)
    unfold insU
    split
    · simp only [List.mem_cons, ih]
      constructor
      · rintro (h | h | h)
        · exact .inr (.inl h)
        · exact .inl h
        · exact .inr (.inr h)
      · rintro (h | h | h)
        · exact .inr (.inl h)
        · exact .inl h
        · exact .inr (.inr h)
    · split
      · rename_i h
        subst h
        simp only [List.mem_cons]
        constructor
        · rintro (h | h)
          · exact .inl h
          · exact .inr (.inr h)
        · rintro (h | h | h)
          · exact .inl h
          · exact .inl h
          · exact .inr h
      · simp only [List.mem_cons]
theorem insU_st {n : Int} : ∀ {l : List Int}, St l → St (insU n l)
  | [], _ => by simp [insU]
  | y :: r, h => by
    have h' := List.pairwise_cons.1 h
    unfold insU
    split
    · rename_i hy
      refine List.pairwise_cons.2 ⟨fun z hz => ?_, insU_st h'.2⟩
      rcases insU_mem.1 hz with rfl | hz
      · exact hy
      · exact h'.1 z hz
    · split
      · exact h
      · rename_i h1 h2
        refine List.pairwise_cons.2 ⟨fun z hz => ?_, h⟩
        rcases List.mem_cons.1 hz with rfl | hz
        · omega
        · have := h'.1 z hz
          omega
theorem rE_st {now : Int} : ∀ {l : List Rn} {out : List Int}, St out → St (rE now l out)
  | [], _, h => h
  | x :: r, out, h => by
    unfold rE
    split
    · exact rE_st h
    · exact rE_st (insU_st h)
theorem rE_mem {now n : Int} : ∀ {l : List Rn} {out : List Int}, n ∈ rE now l out ↔ n ∈ out ∨ ∃ x ∈ l, endR x = n ∧ now < n
  | [], out => by simp [rE]
  | x :: r, out => by
    unfold rE
    split
    · rename_i h
      rw [rE_mem (l := r)]
      constructor
      · rintro (h1 | ⟨y, hy, h1⟩)
        · exact .inl h1
        · exact .inr ⟨y, List.mem_cons_of_mem _ hy, h1⟩
      · rintro (h1 | ⟨y, hy, h1, h2⟩)
        · exact .inl h1
        · rcases List.mem_cons.1 hy with rfl | hy
          · omega
          · exact .inr ⟨y, hy, h1, h2⟩
    · rename_i h
      rw [rE_mem (l := r), insU_mem]
      constructor
      · rintro ((h1 | h1) | ⟨y, hy, h1⟩)
        · exact .inr ⟨x, by simp, h1.symm, by omega⟩
        · exact .inl h1
        · exact .inr ⟨y, List.mem_cons_of_mem _ hy, h1⟩
      · rintro (h1 | ⟨y, hy, h1, h2⟩)
        · exact .inl (.inr h1)
        · rcases List.mem_cons.1 hy with rfl | hy
          · exact .inl (.inl h1.symm)
          · exact .inr ⟨y, hy, h1, h2⟩
theorem findK_iff {n : Int} : ∀ {l : List Int} {i : Nat}, 0 ≤ findK n l i ↔ n ∈ l
  | [], i => by simp [findK]
  | x :: r, i => by
    unfold findK
    split
    · rename_i h
      have : x = n := by simpa using h
      simp [this]
    · rename_i h
      have : ¬ x = n := by simpa using h
      rw [findK_iff (l := r), List.mem_cons]
      constructor
      · exact .inr
      · rintro (h | h)
        · exact absurd h.symm this
        · exact h
theorem has_iff {l : List Int} {n : Int} : has l n = true ↔ n ∈ l := by
  unfold has
  rw [decide_eq_true_eq, findK_iff]
theorem keysL_mem {now n : Int} : ∀ {l : List Rn} {ks : List Int}, n ∈ keysL now l ks ↔ n ∈ ks ∨ ∃ x ∈ l, endR x = n ∧ now < n
  | [], ks => by simp [keysL]
  | x :: r, ks => by
    unfold keysL
    rw [keysL_mem (l := r)]
    split
    · rename_i h
      simp only [Bool.and_eq_true, decide_eq_true_eq] at h
      simp only [List.mem_append, List.mem_cons, List.not_mem_nil, or_false]
      constructor
      · rintro ((h1 | h1) | ⟨y, hy, h1⟩)
        · exact .inl h1
        · exact .inr ⟨x, .inl rfl, h1.symm, by omega⟩
        · exact .inr ⟨y, .inr hy, h1⟩
      · rintro (h1 | ⟨y, rfl | hy, h1, h2⟩)
        · exact .inl (.inl h1)
        · exact .inl (.inr h1.symm)
        · exact .inr ⟨y, hy, h1, h2⟩
    · rename_i h
      simp only [List.mem_cons]
      constructor
      · rintro (h1 | ⟨y, hy, h1⟩)
        · exact .inl h1
        · exact .inr ⟨y, .inr hy, h1⟩
      · rintro (h1 | ⟨y, rfl | hy, h1, h2⟩)
        · exact .inl h1
        · cases hh : has ks (endR y) with
          | true => exact .inl (h1 ▸ has_iff.1 hh)
          | false =>
            refine absurd ?_ h
            rw [hh, decide_eq_true (by omega)]
            rfl
        · exact .inr ⟨y, hy, h1, h2⟩
theorem keysL_nodup {now : Int} : ∀ {l : List Rn} {ks : List Int}, ks.Nodup → (keysL now l ks).Nodup
  | [], _, h => h
  | x :: r, ks, h => by
    unfold keysL
    split
    · rename_i hc
      refine keysL_nodup ?_
      simp only [Bool.and_eq_true, Bool.not_eq_true'] at hc
      have hn : endR x ∉ ks := fun hm => by
        have := has_iff.2 hm
        rw [this] at hc
        cases hc.2
      exact List.nodup_append.2 ⟨h, by simp, fun a ha b hb => by
        simp only [List.mem_cons, List.not_mem_nil, or_false] at hb
        subst hb
        exact fun e => hn (e ▸ ha)⟩
    · exact keysL_nodup h
theorem sortI_mem {l : List Int} {n : Int} : n ∈ sortI l ↔ n ∈ l := (List.mergeSort_perm l _).mem_iff
theorem sortI_st {l : List Int} (h : l.Nodup) : St (sortI l) := by
  have h1 : (sortI l).Pairwise (fun a b => decide (a ≤ b) = true) := List.pairwise_mergeSort (fun a b c h1 h2 => by simp at *; omega) (fun a b => by simp; omega) l
  have h2 : (sortI l).Nodup := (List.mergeSort_perm l _).nodup_iff.2 h
  exact (h1.and h2).imp fun ⟨a, b⟩ => by simp at a; omega
theorem st_eq : ∀ {a b : List Int}, St a → St b → (∀ x, x ∈ a ↔ x ∈ b) → a = b
  | [], [], _, _, _ => rfl
  | [], y :: s, _, _, h => absurd ((h y).2 (by simp)) (by simp)
  | x :: r, [], _, _, h => absurd ((h x).1 (by simp)) (by simp)
  | x :: r, y :: s, ha, hb, h => by
    have ha' := List.pairwise_cons.1 ha
    have hb' := List.pairwise_cons.1 hb
    have e : x = y := by
      rcases List.mem_cons.1 ((h x).1 (by simp)) with e | h1
      · exact e
      · rcases List.mem_cons.1 ((h y).2 (by simp)) with e | h2
        · exact e.symm
        · have := hb'.1 x h1
          have := ha'.1 y h2
          omega
    subst e
    rw [st_eq ha'.2 hb'.2 fun z => ?_]
    constructor
    · intro hz
      rcases List.mem_cons.1 ((h z).1 (List.mem_cons_of_mem _ hz)) with rfl | h1
      · have := ha'.1 z hz; omega
      · exact h1
    · intro hz
      rcases List.mem_cons.1 ((h z).2 (List.mem_cons_of_mem _ hz)) with rfl | h1
      · have := hb'.1 z hz; omega
      · exact h1
/-- THE PROGRAM's ENDS ARE THE DOCUMENT's -/
theorem endsL_eq (l : List Rn) (now : Int) : endsL l now = rE now l [] := by
  refine st_eq (sortI_st (keysL_nodup (by simp))) (rE_st (by simp)) fun x => ?_
  unfold endsL
  rw [sortI_mem, keysL_mem, rE_mem]
theorem endsL_st (l : List Rn) (now : Int) : St (endsL l now) := by rw [endsL_eq]; exact rE_st (by simp)
theorem endsL_mem {l : List Rn} {now n : Int} : n ∈ endsL l now ↔ ∃ x ∈ l, endR x = n ∧ now < n := by
  rw [endsL_eq, rE_mem]
  simp
theorem rE_len (now : Int) : ∀ (l : List Rn) (out : List Int), (rE now l out).length ≤ out.length + l.length
  | [], out => by simp [rE]
  | x :: r, out => by
    unfold rE
    split
    · have := rE_len now r out
      simp only [List.length_cons]; omega
    · have := rE_len now r (insU (endR x) out)
      have := insU_len (endR x) out
      simp only [List.length_cons]; omega
theorem endsL_len (l : List Rn) (now : Int) : (endsL l now).length ≤ l.length := by
  rw [endsL_eq]
  have := rE_len now l []
  simpa using this

/- ---------- later fewer run ---------- -/
theorem atL_atL (l : List Rn) {a b : Int} (h : a ≤ b) : atL (atL l a) b = atL l b := by
  unfold atL
  rw [List.filter_filter]
  congr 1
  funext x
  by_cases hb : b < endR x
  · rw [decide_eq_true hb, decide_eq_true (show a < endR x by omega)]; rfl
  · rw [decide_eq_false hb, Bool.false_and]
theorem atL_le (l : List Rn) {a b : Int} (h : a ≤ b) : (atL l b).length ≤ (atL l a).length := by
  rw [← atL_atL l h]
  exact List.length_filter_le _ _
theorem atL_none {l : List Rn} {t : Int} : atL l t = [] ↔ ∀ x ∈ l, endR x ≤ t := by
  unfold atL
  rw [List.filter_eq_nil_iff]
  constructor
  · intro h x hx
    have := h x hx
    simp at this
    exact this
  · intro h x hx
    have := h x hx
    simp
    exact this
theorem ends_none {l : List Rn} {a : Int} (h : endsL l a = []) : atL l a = [] := by
  refine atL_none.2 fun x hx => ?_
  refine Int.not_lt.1 fun hlt => ?_
  have : endR x ∈ endsL l a := endsL_mem.2 ⟨x, hx, rfl, hlt⟩
  rw [h] at this
  cases this
theorem st_last {l : List Int} (h : St l) (h0 : 0 < l.length) : ∀ x ∈ l, x ≤ l[l.length - 1] := fun x hx => by
  obtain ⟨i, hi⟩ := List.getElem?_of_mem hx
  have hlt := (List.getElem?_eq_some_iff.1 hi).1
  have hv := (List.getElem?_eq_some_iff.1 hi).2
  rcases Nat.lt_or_ge i (l.length - 1) with h1 | h1
  · have := List.pairwise_iff_getElem.1 h i (l.length - 1) hlt (by omega) h1
    rw [hv] at this
    omega
  · have : i = l.length - 1 := by omega
    subst this
    rw [hv]
    exact Int.le_refl _
theorem ends_last {l : List Rn} {a : Int} (h0 : 0 < (endsL l a).length) : atL l (endsL l a)[(endsL l a).length - 1] = [] := by
  refine atL_none.2 fun x hx => ?_
  have hm := (endsL_mem (l := l) (now := a)).1 (List.getElem_mem (show (endsL l a).length - 1 < (endsL l a).length by omega))
  obtain ⟨_, _, _, hgt⟩ := hm
  by_cases hlt : a < endR x
  · exact st_last (endsL_st l a) h0 _ (endsL_mem.2 ⟨x, hx, rfl, hlt⟩)
  · omega
/-- the last end no later than a tick -/
def fromL (tick : Int) : List Int → Int → Int
  | [], f => f
  | x :: r, f => fromL tick r (if x ≤ tick then x else f)
theorem fromL_spec {tick : Int} : ∀ {e : List Int} {f : Int}, St e → f ≤ tick → (∀ x ∈ e, f < x) → f ≤ fromL tick e f ∧ fromL tick e f ≤ tick ∧ ∀ x ∈ e, x ≤ tick → x ≤ fromL tick e f
  | [], f, _, h, _ => ⟨Int.le_refl _, h, fun x hx => by cases hx⟩
  | y :: r, f, hs, h, hl => by
    have hs' := List.pairwise_cons.1 hs
    unfold fromL
    by_cases hy : y ≤ tick
    · rw [if_pos hy]
      obtain ⟨h1, h2, h3⟩ := fromL_spec (f := y) hs'.2 hy hs'.1
      have := hl y (by simp)
      refine ⟨by omega, h2, fun x hx ht => ?_⟩
      rcases List.mem_cons.1 hx with rfl | hx
      · exact h1
      · exact h3 x hx ht
    · rw [if_neg hy]
      obtain ⟨h1, h2, h3⟩ := fromL_spec (f := f) hs'.2 h fun x hx => hl x (by simp [hx])
      refine ⟨h1, h2, fun x hx ht => ?_⟩
      rcases List.mem_cons.1 hx with rfl | hx
      · omega
      · exact h3 x hx ht
theorem between {l : List Rn} {now tick : Int} (h : now ≤ tick) : atL l (fromL tick (endsL l now) now) = atL l tick := by
  obtain ⟨h1, h2, h3⟩ := fromL_spec (tick := tick) (f := now) (endsL_st l now) h fun x hx => by
    obtain ⟨_, _, _, h⟩ := endsL_mem.1 hx
    exact h
  unfold atL
  refine List.filter_congr fun x hx => ?_
  by_cases ht : tick < endR x
  · rw [decide_eq_true ht, decide_eq_true (by omega)]
  · rw [decide_eq_false ht, decide_eq_false]
    intro hlt
    have := h3 (endR x) (endsL_mem.2 ⟨x, hx, rfl, by omega⟩) (by omega)
    omega
end Go.Proofs.Ytmodiilfjfmdcaa

namespace Go.Proofs.Ytmodiilfjfmdcaa
open Go Go.AW Go.Proofs
set_option maxRecDepth 10000

def yA : Rn := ⟨⟨1, 0, 0, ⟨0, 0, 0⟩, 3, 0, 0⟩, 0, 0, 5, 0, [0]⟩
abbrev yL : List Rn := [yA, yA]
theorem yL_sm : Sm yL := ⟨by decide, by decide⟩
theorem yA_end : endR yA = 8 := by decide
theorem yE_ok : CallOK Try.prog 24 [yA.av] [] (.ret (ii 8)) [] := yA_end ▸ end_ok yA
theorem yEnds5 : endsL yL 5 = [8] := by rw [endsL_eq]; decide
theorem yEnds8 : endsL yL 8 = [] := by rw [endsL_eq]; decide
theorem yAt8 : atL yL 8 = [] := by decide
theorem yAt7 : atL yL 7 = yL := by decide
theorem yEnds5_ok : CallOK Try.prog 27 [.slice 14 (rav yL) .no, ii 5] [] (.ret (.slice 1 [ii 8] .no)) [] := by
  have := ends_ok yL yL_sm 5
  rw [yEnds5] at this
  exact this
theorem yEnds8_ok : CallOK Try.prog 27 [.slice 14 (rav yL) .no, ii 8] [] (.ret (.slice 1 [] .no)) [] := by
  have := ends_ok yL yL_sm 8
  rw [yEnds8] at this
  exact this
theorem yAt8_ok : CallOK Try.prog 30 [.slice 14 (rav yL) .no, ii 8] [] (.ret (.slice 14 [] .no)) [] := by
  have := at_ok yL yL_sm 8
  rw [yAt8] at this
  exact this
theorem yAt7_ok : CallOK Try.prog 30 [.slice 14 (rav yL) .no, ii 7] [] (.ret (.slice 14 (rav yL) .no)) [] := by
  have := at_ok yL yL_sm 7
  rw [yAt7] at this
  exact this
theorem pawake_ok : CallOK Try.prog 23 [] [] (.ret (.bool true)) [] := by
  refine CallOK.to (E := E) (fn := Try.f23) (g := .pure _) (by rfl) (by rfl) (by rfl) (fun _ _ => by rfl) (by decide +kernel) (by rfl) (by rfl) (by rfl) fun _ => ?_
  refine goes hE 25 ?_
  conv => whnf
  refine To.loose ?_
  repeat' first
    | (refine goN hE 100 rfl ?_; conv => whnf)
    | refine .pure _ [] (CallOK.strip yEnds5_ok) ?_
    | refine .pure _ [] (CallOK.strip yE_ok) ?_
    | refine .pure _ [] (CallOK.strip yAt8_ok) ?_
    | refine .pure _ [] (CallOK.strip yAt7_ok) ?_
    | refine .pure _ [] (CallOK.strip yEnds8_ok) ?_
    | exact rfl
    | refine And.intro (fun _ => ?_) (fun h => absurd (show true = false from h) (by decide))
    | refine And.intro (fun h => absurd (show false = true from h) (by decide)) (fun _ => ?_)
    | refine And.intro (fun h => ?_) (fun h => absurd (of_decide_eq_false h) (by omega))
    | refine And.intro (fun h => absurd (of_decide_eq_true h) (by omega)) (fun h => ?_)
    | refine And.intro (fun h => ?_) (fun h => ?_)
    | refine Or.inl (And.intro (And.intro (by simp only [kmin]; omega) (by simp only [kmax]; omega)) ?_)
    | refine Exists.intro _ (And.intro rfl ?_)
    | refine And.intro (by decide) ?_
    | refine And.intro (by omega) ?_
end Go.Proofs.Ytmodiilfjfmdcaa

namespace Go.Proofs.Ytmodiilfjfmdcaa
open Go Go.AW Go.Proofs
set_option maxRecDepth 10000

theorem int_self (l : List Int) : eqL eqI l l = true := eqL_self (fun y => by simp [eqI]) _
theorem pats_ok (l : List Rn) (hs : Sm l) (t : Int) : CallOK Try.prog 9 [.slice 14 (rav l) .no, ii t] [] (.ret (.bool true)) [] := by
  have h3 := psame_ok (atL l t) (atL l t)
  rw [rns_self] at h3
  refine CallOK.to (E := E) (fn := Try.f9) (g := .pure _) (by rfl) (by rfl) (by rfl) (fun _ _ => by rfl) (by decide +kernel) (by rfl) (by rfl) (by rfl) fun _ => ?_
  repeat' first
    | (refine goN hE 100 rfl ?_; conv => whnf)
    | refine .pure _ [] (pfew_ok l hs) ?_
    | refine .pure _ [] pawake_ok ?_
    | refine .pure _ [] (at_ok l hs t) ?_
    | refine .pure _ [] (rat_ok l hs t) ?_
    | refine .pure _ [] h3 ?_
    | exact rfl
    | refine And.intro (fun _ => ?_) (fun h => absurd (show true = false from h) (by decide))
    | refine And.intro (fun h => absurd (show false = true from h) (by decide)) (fun _ => ?_)
    | refine And.intro (fun h => ?_) (fun h => absurd (of_decide_eq_false h) (by omega))
    | refine And.intro (fun h => absurd (of_decide_eq_true h) (by omega)) (fun h => ?_)
    | refine And.intro (fun h => ?_) (fun h => ?_)
    | refine Or.inl (And.intro (And.intro (by simp only [kmin]; omega) (by simp only [kmax]; omega)) ?_)
    | refine Exists.intro _ (And.intro rfl ?_)
    | refine And.intro (by decide) ?_
    | refine And.intro (by omega) ?_
noncomputable abbrev fPE : Func := Try.f8
theorem pends_loop (l : List Rn) (hs : Sm l) (now : Int) : ∀ (n i : Nat), i + n = l.length →
    To E fPE (.pure (.ret (.bool true))) (.head (stk fPE 0) [(0, .slice 14 (rav l) .no), (1, .int .i64 now), (5, .int .i64 i)] []) := by
  have hlen : (rav l).length = l.length := by simp
  have hl := hs.1
  have h1 := rends_ok l hs now
  rw [← endsL_eq] at h1
  have h2 := ints_ok (endsL l now) (endsL l now)
  rw [int_self] at h2
  intro n
  induction n with
  | zero =>
    intro i hi
    refine goes hE 100 ?_
    conv => whnf
    refine And.intro (fun h => absurd (of_decide_eq_true h) (by omega)) (fun h => ?_)
    repeat' first
      | (refine goN hE 100 rfl ?_; conv => whnf)
      | refine .pure _ [] (ends_ok l hs now) ?_
      | refine .pure _ [] h1 ?_
      | refine .pure _ [] h2 ?_
      | refine .pure _ [] pawake_ok ?_
      | exact rfl
      | refine And.intro (fun _ => ?_) (fun h => absurd (show true = false from h) (by decide))
      | refine And.intro (fun h => absurd (show false = true from h) (by decide)) (fun _ => ?_)
      | refine And.intro (fun h => ?_) (fun h => absurd (of_decide_eq_false h) (by omega))
      | refine And.intro (fun h => absurd (of_decide_eq_true h) (by omega)) (fun h => ?_)
      | refine And.intro (fun h => ?_) (fun h => ?_)
      | refine Or.inl (And.intro (And.intro (by simp only [kmin]; omega) (by simp only [kmax]; omega)) ?_)
      | refine Exists.intro _ (And.intro rfl ?_)
      | refine And.intro (by decide) ?_
      | refine And.intro (by omega) ?_
  | succ n ih =>
    intro i hi
    have hlt : i < l.length := by omega
    generalize hx : l[i] = x
    have get : (rav l)[i]? = some x.av := (rav_get hlt).trans (by rw [hx])
    refine goes hE 100 ?_
    conv => whnf
    refine And.intro (fun h => ?_) (fun h => absurd (of_decide_eq_false h) (by omega))
    repeat' first
      | (refine goN hE 100 rfl ?_; conv => whnf)
      | refine Exists.intro _ (And.intro get ?_)
      | refine .pure _ [] (end_ok x) ?_
      | refine .pure _ [] (rend_ok x) ?_
      | exact rfl
      | refine And.intro (fun _ => ?_) (fun h => absurd (show true = false from h) (by decide))
      | refine And.intro (fun h => absurd (show false = true from h) (by decide)) (fun _ => ?_)
      | refine And.intro (fun h => ?_) (fun h => absurd (of_decide_eq_false h) (by omega))
      | refine And.intro (fun h => absurd (of_decide_eq_true h) (by omega)) (fun h => ?_)
      | refine And.intro (fun h => ?_) (fun h => ?_)
      | refine Or.inl (And.intro (And.intro (by simp only [kmin]; omega) (by simp only [kmax]; omega)) ?_)
      | refine Exists.intro _ (And.intro rfl ?_)
      | refine And.intro (by decide) ?_
      | refine And.intro (by omega) ?_
    · have h : (endR x != endR x) = true := h
      simp at h
    · refine To.head [0, 1, 5] ?_
      exact ih (i + 1) (by omega)
theorem pends_ok (l : List Rn) (hs : Sm l) (now : Int) : CallOK Try.prog 8 [.slice 14 (rav l) .no, ii now] [] (.ret (.bool true)) [] := by
  refine CallOK.to (E := E) (fn := Try.f8) (g := .pure _) (by rfl) (by rfl) (by rfl) (fun _ _ => by rfl) (by decide +kernel) (by rfl) (by rfl) (by rfl) fun _ => ?_
  repeat' first
    | (refine goN hE 100 rfl ?_; conv => whnf)
    | refine .pure _ [] (pfew_ok l hs) ?_
    | refine .pure _ [] pawake_ok ?_
    | exact rfl
    | refine And.intro (fun _ => ?_) (fun h => absurd (show true = false from h) (by decide))
    | refine And.intro (fun h => absurd (show false = true from h) (by decide)) (fun _ => ?_)
    | refine And.intro (fun h => ?_) (fun h => absurd (of_decide_eq_false h) (by omega))
    | refine And.intro (fun h => absurd (of_decide_eq_true h) (by omega)) (fun h => ?_)
    | refine And.intro (fun h => ?_) (fun h => ?_)
    | refine Or.inl (And.intro (And.intro (by simp only [kmin]; omega) (by simp only [kmax]; omega)) ?_)
    | refine Exists.intro _ (And.intro rfl ?_)
    | refine And.intro (by decide) ?_
    | refine And.intro (by omega) ?_
  refine To.head [0, 1, 5] ?_
  exact pends_loop l hs now l.length 0 (by omega)
end Go.Proofs.Ytmodiilfjfmdcaa

namespace Go.Proofs.Ytmodiilfjfmdcaa
open Go Go.AW Go.Proofs
set_option maxRecDepth 10000

theorem len_zero {l : List Int} (h : ¬ 0 < l.length) : l = [] := List.eq_nil_of_length_eq_zero (by omega)
theorem fewer_ok (l : List Rn) (hs : Sm l) (a b : Int) : CallOK Try.prog 10 [.slice 14 (rav l) .no, ii a, ii b] [] (.ret (.bool true)) [] := by
  have hA := at_ok l hs a
  have hB := at_ok l hs b
  have hQ := ends_ok l hs a
  have hEl : (endsL l a).length ≤ 1048576 := Nat.le_trans (endsL_len l a) hs.1
  have hla : (rav (atL l a)).length = (atL l a).length := by simp
  have hlb : (rav (atL l b)).length = (atL l b).length := by simp
  have hli : (iv (endsL l a)).length = (endsL l a).length := by simp
  refine CallOK.to (E := E) (fn := Try.f10) (g := .pure _) (by rfl) (by rfl) (by rfl) (fun _ _ => by rfl) (by decide +kernel) (by rfl) (by rfl) (by rfl) fun _ => ?_
  refine goes hE 100 ?_
  conv => whnf
  refine .pure _ [] (pfew_ok l hs) ?_
  refine goes hE 100 ?_
  conv => whnf
  refine And.intro (fun hf => ?_) (fun hf => ?_)
  · repeat' first
      | (refine goN hE 100 rfl ?_; conv => whnf)
      | refine .pure _ [] pawake_ok ?_
      | exact rfl
      | refine And.intro (fun _ => ?_) (fun h => absurd (show true = false from h) (by decide))
      | refine And.intro (fun h => absurd (show false = true from h) (by decide)) (fun _ => ?_)
      | refine And.intro (fun h => ?_) (fun h => absurd (of_decide_eq_false h) (by omega))
      | refine And.intro (fun h => absurd (of_decide_eq_true h) (by omega)) (fun h => ?_)
      | refine And.intro (fun h => ?_) (fun h => ?_)
      | refine Or.inl (And.intro (And.intro (by simp only [kmin]; omega) (by simp only [kmax]; omega)) ?_)
      | refine Exists.intro _ (And.intro rfl ?_)
      | refine And.intro (by decide) ?_
      | refine And.intro (by omega) ?_
  · have hf : fewP l = true := not_f hf
    refine goes hE 100 ?_
    conv => whnf
    refine And.intro (fun hab => ?_) (fun hab => ?_)
    · repeat' first
        | (refine goN hE 100 rfl ?_; conv => whnf)
        | refine .pure _ [] pawake_ok ?_
        | exact rfl
        | refine And.intro (fun _ => ?_) (fun h => absurd (show true = false from h) (by decide))
        | refine And.intro (fun h => absurd (show false = true from h) (by decide)) (fun _ => ?_)
        | refine And.intro (fun h => ?_) (fun h => absurd (of_decide_eq_false h) (by omega))
        | refine And.intro (fun h => absurd (of_decide_eq_true h) (by omega)) (fun h => ?_)
        | refine And.intro (fun h => ?_) (fun h => ?_)
        | refine Or.inl (And.intro (And.intro (by simp only [kmin]; omega) (by simp only [kmax]; omega)) ?_)
        | refine Exists.intro _ (And.intro rfl ?_)
        | refine And.intro (by decide) ?_
        | refine And.intro (by omega) ?_
    · have hab := of_decide_eq_false hab
      have hC := at_ok (atL l a) (atL_sm hs a) b
      rw [atL_atL l (by omega : a ≤ b)] at hC
      have hS := psame_ok (atL l b) (atL l b)
      rw [rns_self] at hS
      have hle := atL_le l (by omega : a ≤ b)
      refine goes hE 100 ?_
      conv => whnf
      refine .pure _ [] hA ?_
      refine goes hE 100 ?_
      conv => whnf
      refine .pure _ [] hB ?_
      refine goes hE 100 ?_
      conv => whnf
      refine .pure _ [] hC ?_
      refine goes hE 100 ?_
      conv => whnf
      refine .pure _ [] hS ?_
      refine goes hE 100 ?_
      conv => whnf
      refine And.intro (fun h => absurd (show false = true from h) (by decide)) (fun _ => ?_)
      refine goes hE 100 ?_
      conv => whnf
      refine And.intro (fun h => absurd (of_decide_eq_true h) (by omega)) (fun h => ?_)
      refine goes hE 100 ?_
      conv => whnf
      refine .pure _ [] hQ ?_
      by_cases h0 : 0 < (endsL l a).length
      · have hL := ends_last h0
        have get : (iv (endsL l a))[(endsL l a).length - 1]? = some (ii (endsL l a)[(endsL l a).length - 1]) := iv_get (by omega)
        generalize (endsL l a)[(endsL l a).length - 1] = e at hL get
        have hD := at_ok l hs e
        rw [hL] at hD
        repeat' first
          | (refine goN hE 100 rfl ?_; conv => whnf)
          | refine .pure _ [] pawake_ok ?_
          | refine Exists.intro ((endsL l a).length - 1) (And.intro (by omega) ?_)
          | refine Exists.intro _ (And.intro get ?_)
          | refine .pure _ [] hD ?_
          | exact rfl
          | refine And.intro (fun _ => ?_) (fun h => absurd (show true = false from h) (by decide))
          | refine And.intro (fun h => absurd (show false = true from h) (by decide)) (fun _ => ?_)
          | refine And.intro (fun h => ?_) (fun h => absurd (of_decide_eq_false h) (by omega))
          | refine And.intro (fun h => absurd (of_decide_eq_true h) (by omega)) (fun h => ?_)
          | refine And.intro (fun h => ?_) (fun h => ?_)
          | refine Or.inl (And.intro (And.intro (by simp only [kmin]; omega) (by simp only [kmax]; omega)) ?_)
          | refine Exists.intro _ (And.intro rfl ?_)
          | refine And.intro (by decide) ?_
          | refine And.intro (by omega) ?_
      · have hz := ends_none (len_zero h0)
        have hN := len_zero h0
        rw [hN, hz]
        repeat' first
          | (refine goN hE 100 rfl ?_; conv => whnf)
          | refine .pure _ [] pawake_ok ?_
          | exact rfl
          | refine And.intro (fun _ => ?_) (fun h => absurd (show true = false from h) (by decide))
          | refine And.intro (fun h => absurd (show false = true from h) (by decide)) (fun _ => ?_)
          | refine And.intro (fun h => ?_) (fun h => absurd (of_decide_eq_false h) (by omega))
          | refine And.intro (fun h => absurd (of_decide_eq_true h) (by omega)) (fun h => ?_)
          | refine And.intro (fun h => ?_) (fun h => ?_)
          | refine Or.inl (And.intro (And.intro (by simp only [kmin]; omega) (by simp only [kmax]; omega)) ?_)
          | refine Exists.intro _ (And.intro rfl ?_)
          | refine And.intro (by decide) ?_
          | refine And.intro (by omega) ?_

noncomputable abbrev fPB : Func := Try.f11
theorem btw_loop (l : List Rn) (hs : Sm l) (tick : Int) (ks : List Int) (hst : St ks) (hkl : ks.length ≤ 1048576) (F : Int) (hF : atL l F = atL l tick) : ∀ (n i : Nat) (f : Int), i + n = ks.length → fromL tick (ks.drop i) f = F →
    To E fPB (.pure (.ret (.bool true))) (.head (stk fPB 0) [(0, .slice 14 (rav l) .no), (2, .int .i64 tick), (7, .slice 1 (iv ks) .no), (8, .int .i64 f), (9, .int .i64 i)] []) := by
  have hli : (iv ks).length = ks.length := by simp
  have hA := at_ok l hs tick
  have hS := psame_ok (atL l tick) (atL l tick)
  rw [rns_self] at hS
  intro n
  induction n with
  | zero =>
    intro i f hi hr
    rw [List.drop_eq_nil_of_le (by omega)] at hr
    have hr : f = F := hr
    subst hr
    have hB := at_ok l hs f
    rw [hF] at hB
    refine goes hE 100 ?_
    conv => whnf
    refine And.intro (fun h => absurd (of_decide_eq_true h) (by omega)) (fun h => ?_)
    repeat' first
      | (refine goN hE 100 rfl ?_; conv => whnf)
      | refine .pure _ [] hA ?_
      | refine .pure _ [] hB ?_
      | refine .pure _ [] hS ?_
      | refine .pure _ [] pawake_ok ?_
      | exact rfl
      | refine And.intro (fun _ => ?_) (fun h => absurd (show true = false from h) (by decide))
      | refine And.intro (fun h => absurd (show false = true from h) (by decide)) (fun _ => ?_)
      | refine And.intro (fun h => ?_) (fun h => absurd (of_decide_eq_false h) (by omega))
      | refine And.intro (fun h => absurd (of_decide_eq_true h) (by omega)) (fun h => ?_)
      | refine And.intro (fun h => ?_) (fun h => ?_)
      | refine Or.inl (And.intro (And.intro (by simp only [kmin]; omega) (by simp only [kmax]; omega)) ?_)
      | refine Exists.intro _ (And.intro rfl ?_)
      | refine And.intro (by decide) ?_
      | refine And.intro (by omega) ?_
  | succ n ih =>
    intro i f hi hr
    have hlt : i < ks.length := by omega
    have hprev : ∀ (_ : 0 < i), ks[i - 1] < ks[i] := fun _ => List.pairwise_iff_getElem.1 hst (i - 1) i (by omega) hlt (by omega)
    have gp : ∀ (h : 0 < i), (iv ks)[i - 1]? = some (ii ks[i - 1]) := fun _ => iv_get (by omega)
    rw [List.drop_eq_getElem_cons hlt] at hr
    generalize hx : ks[i] = x at hr hprev
    have get : (iv ks)[i]? = some (ii x) := (iv_get hlt).trans (by rw [hx])
    have hr : fromL tick (ks.drop (i + 1)) (if x ≤ tick then x else f) = F := hr
    refine goes hE 100 ?_
    conv => whnf
    refine And.intro (fun h => ?_) (fun h => absurd (of_decide_eq_false h) (by omega))
    by_cases h0 : 0 < i
    · have gp := gp h0
      have hprev := hprev h0
      generalize ks[i - 1] = y at gp hprev
      refine goes hE 100 ?_
      conv => whnf
      refine And.intro (fun h => ?_) (fun h => absurd (of_decide_eq_false h) (by omega))
      refine goes hE 100 ?_
      conv => whnf
      refine ⟨i, rfl, ?_⟩
      refine goes hE 100 ?_
      conv => whnf
      refine ⟨_, get, ?_⟩
      refine goes hE 100 ?_
      conv => whnf
      refine Or.inl (And.intro (And.intro (by simp only [kmin]; omega) (by simp only [kmax]; omega)) ?_)
      refine goes hE 100 ?_
      conv => whnf
      refine ⟨i - 1, by omega, ?_⟩
      refine goes hE 100 ?_
      conv => whnf
      refine ⟨_, gp, ?_⟩
      refine goes hE 100 ?_
      conv => whnf
      refine And.intro (fun h => absurd (of_decide_eq_true h) (by omega)) (fun h => ?_)
      refine goes hE 100 ?_
      conv => whnf
      refine ⟨i, rfl, ?_⟩
      refine goes hE 100 ?_
      conv => whnf
      refine ⟨_, get, ?_⟩
      refine goes hE 100 ?_
      conv => whnf
      refine And.intro (fun h2 => ?_) (fun h2 => ?_)
      · rw [if_pos (of_decide_eq_true h2)] at hr
        repeat' first
          | (refine goN hE 100 rfl ?_; conv => whnf)
          | refine Exists.intro _ (And.intro get ?_)
          | exact rfl
          | refine And.intro (fun _ => ?_) (fun h => absurd (show true = false from h) (by decide))
          | refine And.intro (fun h => absurd (show false = true from h) (by decide)) (fun _ => ?_)
          | refine And.intro (fun h => ?_) (fun h => absurd (of_decide_eq_false h) (by omega))
          | refine And.intro (fun h => absurd (of_decide_eq_true h) (by omega)) (fun h => ?_)
          | refine And.intro (fun h => ?_) (fun h => ?_)
          | refine Or.inl (And.intro (And.intro (by simp only [kmin]; omega) (by simp only [kmax]; omega)) ?_)
          | refine Exists.intro _ (And.intro rfl ?_)
          | refine And.intro (by decide) ?_
          | refine And.intro (by omega) ?_
        refine To.head [0, 2, 7, 8, 9] ?_
        exact ih (i + 1) x (by omega) hr
      · rw [if_neg (of_decide_eq_false h2)] at hr
        repeat' first
          | (refine goN hE 100 rfl ?_; conv => whnf)
          | exact rfl
          | refine And.intro (fun _ => ?_) (fun h => absurd (show true = false from h) (by decide))
          | refine And.intro (fun h => absurd (show false = true from h) (by decide)) (fun _ => ?_)
          | refine And.intro (fun h => ?_) (fun h => absurd (of_decide_eq_false h) (by omega))
          | refine And.intro (fun h => absurd (of_decide_eq_true h) (by omega)) (fun h => ?_)
          | refine And.intro (fun h => ?_) (fun h => ?_)
          | refine Or.inl (And.intro (And.intro (by simp only [kmin]; omega) (by simp only [kmax]; omega)) ?_)
          | refine Exists.intro _ (And.intro rfl ?_)
          | refine And.intro (by decide) ?_
          | refine And.intro (by omega) ?_
        refine To.head [0, 2, 7, 8, 9] ?_
        exact ih (i + 1) f (by omega) hr
    · have : i = 0 := by omega
      subst this
      refine goes hE 100 ?_
      conv => whnf
      refine And.intro (fun h => absurd (of_decide_eq_true h) (by omega)) (fun h => ?_)
      refine goes hE 100 ?_
      conv => whnf
      refine And.intro (fun h => absurd (show false = true from h) (by decide)) (fun _ => ?_)
      refine goes hE 100 ?_
      conv => whnf
      refine ⟨0, rfl, ?_⟩
      refine goes hE 100 ?_
      conv => whnf
      refine ⟨_, get, ?_⟩
      refine goes hE 100 ?_
      conv => whnf
      refine And.intro (fun h2 => ?_) (fun h2 => ?_)
      · rw [if_pos (of_decide_eq_true h2)] at hr
        repeat' first
          | (refine goN hE 100 rfl ?_; conv => whnf)
          | refine Exists.intro _ (And.intro get ?_)
          | exact rfl
          | refine And.intro (fun _ => ?_) (fun h => absurd (show true = false from h) (by decide))
          | refine And.intro (fun h => absurd (show false = true from h) (by decide)) (fun _ => ?_)
          | refine And.intro (fun h => ?_) (fun h => absurd (of_decide_eq_false h) (by omega))
          | refine And.intro (fun h => absurd (of_decide_eq_true h) (by omega)) (fun h => ?_)
          | refine And.intro (fun h => ?_) (fun h => ?_)
          | refine Or.inl (And.intro (And.intro (by simp only [kmin]; omega) (by simp only [kmax]; omega)) ?_)
          | refine Exists.intro _ (And.intro rfl ?_)
          | refine And.intro (by decide) ?_
          | refine And.intro (by omega) ?_
        refine To.head [0, 2, 7, 8, 9] ?_
        exact ih (0 + 1) x (by omega) hr
      · rw [if_neg (of_decide_eq_false h2)] at hr
        repeat' first
          | (refine goN hE 100 rfl ?_; conv => whnf)
          | exact rfl
          | refine And.intro (fun _ => ?_) (fun h => absurd (show true = false from h) (by decide))
          | refine And.intro (fun h => absurd (show false = true from h) (by decide)) (fun _ => ?_)
          | refine And.intro (fun h => ?_) (fun h => absurd (of_decide_eq_false h) (by omega))
          | refine And.intro (fun h => absurd (of_decide_eq_true h) (by omega)) (fun h => ?_)
          | refine And.intro (fun h => ?_) (fun h => ?_)
          | refine Or.inl (And.intro (And.intro (by simp only [kmin]; omega) (by simp only [kmax]; omega)) ?_)
          | refine Exists.intro _ (And.intro rfl ?_)
          | refine And.intro (by decide) ?_
          | refine And.intro (by omega) ?_
        refine To.head [0, 2, 7, 8, 9] ?_
        exact ih (0 + 1) f (by omega) hr
theorem between_ok (l : List Rn) (hs : Sm l) (now tick : Int) : CallOK Try.prog 11 [.slice 14 (rav l) .no, ii now, ii tick] [] (.ret (.bool true)) [] := by
  have hQ := ends_ok l hs now
  refine CallOK.to (E := E) (fn := Try.f11) (g := .pure _) (by rfl) (by rfl) (by rfl) (fun _ _ => by rfl) (by decide +kernel) (by rfl) (by rfl) (by rfl) fun _ => ?_
  refine goes hE 100 ?_
  conv => whnf
  refine .pure _ [] (pfew_ok l hs) ?_
  refine goes hE 100 ?_
  conv => whnf
  refine And.intro (fun hf => ?_) (fun hf => ?_)
  · repeat' first
      | (refine goN hE 100 rfl ?_; conv => whnf)
      | refine .pure _ [] pawake_ok ?_
      | exact rfl
      | refine And.intro (fun _ => ?_) (fun h => absurd (show true = false from h) (by decide))
      | refine And.intro (fun h => absurd (show false = true from h) (by decide)) (fun _ => ?_)
      | refine And.intro (fun h => ?_) (fun h => absurd (of_decide_eq_false h) (by omega))
      | refine And.intro (fun h => absurd (of_decide_eq_true h) (by omega)) (fun h => ?_)
      | refine And.intro (fun h => ?_) (fun h => ?_)
      | refine Or.inl (And.intro (And.intro (by simp only [kmin]; omega) (by simp only [kmax]; omega)) ?_)
      | refine Exists.intro _ (And.intro rfl ?_)
      | refine And.intro (by decide) ?_
      | refine And.intro (by omega) ?_
  · have hf : fewP l = true := not_f hf
    refine goes hE 100 ?_
    conv => whnf
    refine And.intro (fun hab => ?_) (fun hab => ?_)
    · repeat' first
        | (refine goN hE 100 rfl ?_; conv => whnf)
        | refine .pure _ [] pawake_ok ?_
        | exact rfl
        | refine And.intro (fun _ => ?_) (fun h => absurd (show true = false from h) (by decide))
        | refine And.intro (fun h => absurd (show false = true from h) (by decide)) (fun _ => ?_)
        | refine And.intro (fun h => ?_) (fun h => absurd (of_decide_eq_false h) (by omega))
        | refine And.intro (fun h => absurd (of_decide_eq_true h) (by omega)) (fun h => ?_)
        | refine And.intro (fun h => ?_) (fun h => ?_)
        | refine Or.inl (And.intro (And.intro (by simp only [kmin]; omega) (by simp only [kmax]; omega)) ?_)
        | refine Exists.intro _ (And.intro rfl ?_)
        | refine And.intro (by decide) ?_
        | refine And.intro (by omega) ?_
    · have hab := of_decide_eq_false hab
      refine goes hE 100 ?_
      conv => whnf
      refine .pure _ [] hQ ?_
      refine goes hE 100 ?_
      conv => whnf
      refine To.head [0, 2, 7, 8, 9] ?_
      exact btw_loop l hs tick (endsL l now) (endsL_st l now) (Nat.le_trans (endsL_len l now) hs.1) _ (between (by omega)) (endsL l now).length 0 now (by omega) rfl
end Go.Proofs.Ytmodiilfjfmdcaa

namespace Go.Proofs.Ytmodiilfjfmdcaa
open Go Go.AW Go.Proofs
open Go.ChangeShapes Go.WideShapes Go.ChangeAt Go.RowKit
set_option maxRecDepth 100000

theorem bulk_one {H : Type} (d : DataW H) : 1 ≤ Rows.uptoBulk d := by
  cases d with
  | lit l => cases l <;> simp [Rows.uptoBulk]
  | _ => simp [Rows.uptoBulk]
theorem bulk_part {H : Type} {d : DataW H} : ∀ {l : List (DataW H)}, d ∈ l → Rows.uptoBulk d ≤ Rows.uptoBulkAll l
  | [], h => by cases h
  | x :: r, h => by
    simp only [Rows.uptoBulkAll]
    rcases List.mem_cons.1 h with rfl | h
    · omega
    · have := bulk_part h
      omega
theorem bulk_len {H : Type} : ∀ (l : List (DataW H)), l.length ≤ Rows.uptoBulkAll l
  | [] => by simp
  | x :: r => by
    have := bulk_one x
    have := bulk_len r
    simp only [Rows.uptoBulkAll, List.length_cons]
    omega
/-- the bound holds of each part -/
theorem bulkN (H : Type) (N : Nat) : Bulk H N (fun d => Rows.uptoBulk d ≤ N) where
  str l h := by
    simp only [Rows.uptoBulk] at h
    omega
  sl e r h := by
    simp only [Rows.uptoBulk] at h
    have := bulk_len e
    exact ⟨by omega, fun d hd => by have := bulk_part hd; omega⟩
  agg l h := by
    simp only [Rows.uptoBulk] at h
    exact fun d hd => by have := bulk_part hd; omega

section
variable {N : Nat}
theorem tnInt {n : Nat} {cs : List AVal} (h : TyN Try.prog N (n + 1) 3 cs) : ∃ m : Int, cs = [ii m] := by
  unfold TyN at h
  rw [Try.underlying3] at h
  obtain ⟨m, h, _⟩ := h
  exact ⟨m, h⟩
theorem tnVec {n : Nat} {cs : List AVal} (h : TyN Try.prog N (n + 2) 27 cs) : ∃ v : V3, cs = v.cs := by
  unfold TyN at h
  rw [Try.underlying27] at h
  obtain ⟨xs, hl, hx, rfl⟩ := h
  match xs, hl, hx with
  | [x, y, z], _, hx =>
    obtain ⟨a, rfl⟩ := tnInt (hx x (by simp))
    obtain ⟨b, rfl⟩ := tnInt (hx y (by simp))
    obtain ⟨c, rfl⟩ := tnInt (hx z (by simp))
    exact ⟨⟨a, b, c⟩, rfl⟩
theorem tnGang {n : Nat} {cs : List AVal} (h : TyN Try.prog N (n + 3) 29 cs) : ∃ g : Gan, cs = g.cs := by
  unfold TyN at h
  rw [Try.underlying29] at h
  obtain ⟨x0, r, rfl, h0, x1, r, rfl, h1, x2, r, rfl, h2, x3, r, rfl, h3, x4, r, rfl, h4, x5, r, rfl, h5, x6, r, rfl, h6, rfl⟩ := h
  obtain ⟨a0, rfl⟩ := tnInt h0
  obtain ⟨a1, rfl⟩ := tnInt h1
  obtain ⟨a2, rfl⟩ := tnInt h2
  obtain ⟨v, rfl⟩ := tnVec h3
  obtain ⟨a4, rfl⟩ := tnInt h4
  obtain ⟨a5, rfl⟩ := tnInt h5
  obtain ⟨a6, rfl⟩ := tnInt h6
  exact ⟨⟨a0, a1, a2, v, a4, a5, a6⟩, rfl⟩
theorem allsN {α : Type} {av : α → AVal} {P : AVal → Prop} {Q : α → Prop} (hP : ∀ x, P x → ∃ p : α, x = av p ∧ Q p) : ∀ (xs : List AVal), (∀ x ∈ xs, P x) → ∃ l : List α, xs = l.map av ∧ ∀ p ∈ l, Q p
  | [], _ => ⟨[], rfl, fun p h => by cases h⟩
  | x :: xs, h => by
    obtain ⟨p, rfl, hp⟩ := hP x (h x (by simp))
    obtain ⟨l, rfl, hl⟩ := allsN hP xs fun x hx => h x (by simp [hx])
    exact ⟨p :: l, rfl, fun q hq => by
      rcases List.mem_cons.1 hq with rfl | hq
      · exact hp
      · exact hl q hq⟩
theorem tnInts {n : Nat} {cs : List AVal} (h : TyN Try.prog N (n + 2) 50 cs) : ∃ l : List Int, cs = [.slice 1 (iv l) .no] ∧ l.length ≤ N := by
  unfold TyN at h
  rw [Try.underlying50] at h
  obtain ⟨xs, rfl, hN, hx⟩ := h
  have hc : Try.prog.cellsOf 3 = 1 := by kernel_rfl
  have ha : isAggT Try.prog 3 = false := by kernel_rfl
  obtain ⟨l, rfl, _⟩ := allsN (av := fun m : Int => ii m) (Q := fun _ => True) (P := fun x => x ∈ xs) (fun x hm => by
    obtain ⟨m, e⟩ := tnInt (n := n) (hx x hm).1
    have e2 := (hx x hm).2.2 ha
    rw [e] at e2
    exact ⟨m, (List.cons.inj e2).1.symm, trivial⟩) xs fun x hm => hm
  exact ⟨l, by rw [hc], by simpa using hN⟩
theorem tnRun {n : Nat} {cs : List AVal} (h : TyN Try.prog N (n + 4) 52 cs) : ∃ x : Rn, cs = x.cs ∧ x.hs.length ≤ N := by
  unfold TyN at h
  rw [Try.underlying52] at h
  obtain ⟨x0, r, rfl, h0, x1, r, rfl, h1, x2, r, rfl, h2, x3, r, rfl, h3, x4, r, rfl, h4, x5, r, rfl, h5, rfl⟩ := h
  obtain ⟨g, rfl⟩ := tnGang h0
  obtain ⟨a1, rfl⟩ := tnInt h1
  obtain ⟨a2, rfl⟩ := tnInt h2
  obtain ⟨a3, rfl⟩ := tnInt h3
  obtain ⟨a4, rfl⟩ := tnInt h4
  obtain ⟨l, rfl, hl⟩ := tnInts (n := n + 1) h5
  exact ⟨⟨g, a1, a2, a3, a4, l⟩, rfl, hl⟩
end
section
variable {H : Type} {enc : TypeId × Value → H} {W : World} {r : Reach} {base b0 : Nat} {spare : Nat → Bool} {held : Bool} {v : Value} {d : DataW H} {ps : List MemPlace}
theorem open_runs (hv : Value.okWide Try.prog W r b0 47 v) (h : DataW.Trod enc Try.prog W base spare held 47 v d ps) (hG : Rows.uptoBulk d ≤ 1048576) : ∃ l : List Rn, Rep (Mw W) [] v (.slice 14 (rav l) .no) ∧ Sm l := by
  obtain ⟨xs, hr, hN, hx⟩ := arg_sliceN (n := 4) (bulkN H 1048576) Try.underlying47 (by kernel_rfl) hv h hG
  have hc : Try.prog.cellsOf 52 = 14 := by kernel_rfl
  obtain ⟨l, rfl, hl⟩ := allsN (av := Rn.av) (Q := fun x => x.hs.length ≤ 1048576) (P := fun x => TyN Try.prog 1048576 4 52 x.cells ∧ (isAggT Try.prog 52 = true → ∃ l, x = .agg l) ∧ (isAggT Try.prog 52 = false → x.cells = [x])) (fun x ⟨h1, h2, _⟩ => by
    obtain ⟨l, rfl⟩ := h2 (by kernel_rfl)
    obtain ⟨p, hp, hl⟩ := tnRun (n := 0) h1
    exact ⟨p, by unfold Rn.av; rw [← hp]; rfl, hl⟩) xs hx
  rw [hc] at hr
  exact ⟨l, hr, by simpa using hN, hl⟩
theorem open_int (hv : Value.okWide Try.prog W r b0 3 v) : ∃ n : Int, Rep (Mw W) [] v (ii n) := by
  obtain ⟨m, rfl, h⟩ := okC_int (k := .i64) (by kernel_rfl) (okV_cell (by kernel_rfl) hv)
  exact ⟨m, .int _ m h⟩
end
end Go.Proofs.Ytmodiilfjfmdcaa
