/-
  Layer 8, first part: what is checked and what is written, by the program and by the document's answer: the walks.
-/
import Derived.Test.YtmodiilfjfmdcaaProg
import Derived.Lib.Builder
import Derived.Lib.UnsafeStr
import Derived.Lib.Walk
import Derived.Shelf.RegionOpenPlain
import Derived.Test.YtmodiilfjfmdcaaWC
namespace Go.Proofs.Ytmodiilfjfmdcaa
open Go Go.AW Go.Proofs

noncomputable def T0 : Tab := [
  (2, .mk (.int .i64) 1 false (.int .i64 0)),
  (3, .mk (.int .i64) 1 false (.int .i64 0)),
  (4, .mk .bool 1 false (.bool false)),
  (5, .mk (.int .u8) 1 false (.int .u8 0)),
  (9, .mk .str 1 false (.str [])),
  (20, .mk .iface 1 false .nilif),
  (21, .mk (.int .i32) 1 false (.int .i32 0)),
  (22, .mk (.slc 90 11 88) 1 false (.slice 11 [] .nil)),
  (23, .mk (.slc 93 6 48) 1 false (.slice 6 [] .nil)),
  (24, .mk (.strct [(0, 1, false), (1, 1, false), (2, 1, false), (3, 1, false)]) 4 true (.agg [.slice 11 [] .nil, .slice 6 [] .nil, .int .i64 0, .int .i64 0])),
  (25, .mk (.strct [(0, 1, false), (1, 1, false), (2, 1, false), (3, 1, false)]) 4 true (.agg [.slice 11 [] .nil, .slice 6 [] .nil, .int .i64 0, .int .i64 0])),
  (26, .mk (.arr 3 1 false) 3 true (.agg [.int .i64 0, .int .i64 0, .int .i64 0])),
  (27, .mk (.arr 3 1 false) 3 true (.agg [.int .i64 0, .int .i64 0, .int .i64 0])),
  (28, .mk (.strct [(0, 1, false), (1, 1, false), (2, 1, false), (3, 3, true), (6, 1, false), (7, 1, false), (8, 1, false)]) 9 true (.agg [.int .i64 0, .int .i64 0, .int .i64 0, .int .i64 0, .int .i64 0, .int .i64 0, .int .i64 0, .int .i64 0, .int .i64 0])),
  (29, .mk (.strct [(0, 1, false), (1, 1, false), (2, 1, false), (3, 3, true), (6, 1, false), (7, 1, false), (8, 1, false)]) 9 true (.agg [.int .i64 0, .int .i64 0, .int .i64 0, .int .i64 0, .int .i64 0, .int .i64 0, .int .i64 0, .int .i64 0, .int .i64 0])),
  (30, .mk (.strct [(0, 1, false), (1, 4, true), (5, 9, true), (14, 1, false)]) 15 true (.agg [.int .i64 0, .slice 11 [] .nil, .slice 6 [] .nil, .int .i64 0, .int .i64 0, .int .i64 0, .int .i64 0, .int .i64 0, .int .i64 0, .int .i64 0, .int .i64 0, .int .i64 0, .int .i64 0, .int .i64 0, .int .i64 0])),
  (31, .mk (.strct [(0, 1, false), (1, 4, true), (5, 9, true), (14, 1, false)]) 15 true (.agg [.int .i64 0, .slice 11 [] .nil, .slice 6 [] .nil, .int .i64 0, .int .i64 0, .int .i64 0, .int .i64 0, .int .i64 0, .int .i64 0, .int .i64 0, .int .i64 0, .int .i64 0, .int .i64 0, .int .i64 0, .int .i64 0])),
  (34, .mk (.int .i64) 1 false (.int .i64 0)),
  (47, .mk (.slc 52 14 128) 1 false (.slice 14 [] .nil)),
  (50, .mk (.slc 3 1 8) 1 false (.slice 1 [] .nil)),
  (51, .mk (.strct [(0, 9, true), (9, 1, false), (10, 1, false), (11, 1, false), (12, 1, false), (13, 1, false)]) 14 true (.agg [.int .i64 0, .int .i64 0, .int .i64 0, .int .i64 0, .int .i64 0, .int .i64 0, .int .i64 0, .int .i64 0, .int .i64 0, .int .i64 0, .int .i64 0, .int .i64 0, .int .i64 0, .slice 1 [] .nil])),
  (52, .mk (.strct [(0, 9, true), (9, 1, false), (10, 1, false), (11, 1, false), (12, 1, false), (13, 1, false)]) 14 true (.agg [.int .i64 0, .int .i64 0, .int .i64 0, .int .i64 0, .int .i64 0, .int .i64 0, .int .i64 0, .int .i64 0, .int .i64 0, .int .i64 0, .int .i64 0, .int .i64 0, .int .i64 0, .slice 1 [] .nil])),
  (59, .mk (.ptr 65) 1 false .nilptr),
  (60, .mk (.ptr 63) 1 false .nilptr),
  (61, .mk (.slc 5 1 1) 1 false (.slice 1 [] .nil)),
  (62, .mk (.strct [(0, 1, false), (1, 1, false)]) 2 true (.agg [.nilptr, .slice 1 [] .nil])),
  (63, .mk (.strct [(0, 1, false), (1, 1, false)]) 2 true (.agg [.nilptr, .slice 1 [] .nil])),
  (64, .mk (.strct [(0, 2, true)]) 2 true (.agg [.nilptr, .slice 1 [] .nil])),
  (65, .mk (.strct [(0, 2, true)]) 2 true (.agg [.nilptr, .slice 1 [] .nil])),
  (71, .mk .other 1 false .nilfunc),
  (72, .mk (.ptr 34) 1 false .nilptr),
  (77, .mk (.ptr 79) 1 false .nilptr),
  (78, .mk (.strct [(0, 1, false)]) 1 true (.agg [.str []])),
  (79, .mk (.strct [(0, 1, false)]) 1 true (.agg [.str []])),
  (84, .mk (.ptr 86) 1 false .nilptr),
  (85, .mk (.strct [(0, 1, false), (1, 1, false)]) 2 true (.agg [.str [], .bool false])),
  (86, .mk (.strct [(0, 1, false), (1, 1, false)]) 2 true (.agg [.str [], .bool false])),
  (89, .mk (.strct [(0, 1, false), (1, 1, false), (2, 3, true), (5, 3, true), (8, 3, true)]) 11 true (.agg [.int .i64 0, .int .i64 0, .int .i64 0, .int .i64 0, .int .i64 0, .int .i64 0, .int .i64 0, .int .i64 0, .int .i64 0, .int .i64 0, .int .i64 0])),
  (90, .mk (.strct [(0, 1, false), (1, 1, false), (2, 3, true), (5, 3, true), (8, 3, true)]) 11 true (.agg [.int .i64 0, .int .i64 0, .int .i64 0, .int .i64 0, .int .i64 0, .int .i64 0, .int .i64 0, .int .i64 0, .int .i64 0, .int .i64 0, .int .i64 0])),
  (92, .mk (.strct [(0, 1, false), (1, 1, false), (2, 1, false), (3, 3, true)]) 6 true (.agg [.int .i64 0, .int .i64 0, .int .i64 0, .int .i64 0, .int .i64 0, .int .i64 0])),
  (93, .mk (.strct [(0, 1, false), (1, 1, false), (2, 1, false), (3, 3, true)]) 6 true (.agg [.int .i64 0, .int .i64 0, .int .i64 0, .int .i64 0, .int .i64 0, .int .i64 0])),
  (94, .mk (.slc 96 1 8) 1 false (.slice 1 [] .nil)),
  (95, .mk (.arr 1 1 false) 1 true (.agg [.int .i64 0])),
  (96, .mk (.arr 1 1 false) 1 true (.agg [.int .i64 0])),
  (98, .mk .other 1 false .nilfunc),
  (103, .mk .iface 1 false .nilif),
  (108, .mk (.ptr 5) 1 false .nilptr),
  (111, .mk (.strct [(0, 1, false)]) 1 true (.agg [.int .i64 0])),
  (112, .mk (.strct [(0, 1, false)]) 1 true (.agg [.int .i64 0])),
  (122, .mk (.int .u64) 1 false (.int .u64 0)),
  (125, .mk (.int .i64) 1 false (.int .i64 0)),
  (134, .mk (.int .u32) 1 false (.int .u32 0)),
  (136, .mk (.int .u64) 1 false (.int .u64 0)),
  (137, .mk .other 1 false .nilptr),
  (139, .mk (.int .u64) 1 false (.int .u64 0)),
  (143, .mk (.ptr 3) 1 false .nilptr),
  (146, .mk (.ptr 139) 1 false .nilptr)]

def F0 : List (Nat × Nat) := [(26, 3), (27, 3), (28, 9), (29, 9), (89, 11), (90, 11), (92, 6), (93, 6), (95, 1), (96, 1)]

def M0 : MTab := []

noncomputable def E : Env := { P := Try.prog, T := T0, mt := M0, fl := F0, own := [], rws := [], bl := [], df := [] }

theorem hE : EnvOK E where
  mix := by kernel_rfl
  tab := tab_ok (by kernel_rfl) (by kernel_rfl)
  mth := MthOK.nil
  fl := flats_ok (by kernel_rfl)
/-- .. with slots that begin a row that is written in its place -/
noncomputable def Er (l b : List Nat) : Env := { E with rws := l, bl := b }
theorem hEr (l b : List Nat) : EnvOK (Er l b) := ⟨hE.mix, hE.tab, hE.mth, hE.fl⟩
/-- .. that grows -/
noncomputable def Eo (l b : List Nat) : Env := { E with own := l, bl := b }
theorem hEo (l b : List Nat) : EnvOK (Eo l b) := ⟨hE.mix, hE.tab, hE.mth, hE.fl⟩
/-- .. while calls are deferred -/
noncomputable def Ed (df : List (Nat × List AVal)) : Env := { E with df := df }
theorem hEd (df : List (Nat × List AVal)) : EnvOK (Ed df) := ⟨hE.mix, hE.tab, hE.mth, hE.fl⟩
end Go.Proofs.Ytmodiilfjfmdcaa

namespace Go.Proofs.Ytmodiilfjfmdcaa
open Go Go.AW Go.Proofs

structure V3 where
  (a b c : Int)
  deriving DecidableEq
structure Nod where
  (p w : Int)
  (n b l : V3)
  deriving DecidableEq
structure Hos where
  (f b r : Int)
  (c : V3)
  deriving DecidableEq
structure Con where
  ns : List Nod
  hs : List Hos
  (half age : Int)
  deriving DecidableEq
structure Gan where
  (id ten pods : Int)
  need : V3
  (run lev pref : Int)
  deriving DecidableEq
structure Cmd where
  k : Int
  c : Con
  g : Gan
  n : Int
  deriving DecidableEq

/- as the program has them -/
abbrev ii (n : Int) : AVal := .int .i64 n
def V3.cs (v : V3) : List AVal := [ii v.a, ii v.b, ii v.c]
def Nod.cs (x : Nod) : List AVal := [ii x.p, ii x.w, ii x.n.a, ii x.n.b, ii x.n.c, ii x.b.a, ii x.b.b, ii x.b.c, ii x.l.a, ii x.l.b, ii x.l.c]
def Nod.av (x : Nod) : AVal := .agg x.cs
def Hos.cs (x : Hos) : List AVal := [ii x.f, ii x.b, ii x.r, ii x.c.a, ii x.c.b, ii x.c.c]
def Hos.av (x : Hos) : AVal := .agg x.cs
abbrev nav (l : List Nod) : List AVal := l.map Nod.av
abbrev hav (l : List Hos) : List AVal := l.map Hos.av
def Con.cs (x : Con) : List AVal := [.slice 11 (nav x.ns) .no, .slice 6 (hav x.hs) .no, ii x.half, ii x.age]
def Con.av (x : Con) : AVal := .agg x.cs
def Gan.cs (x : Gan) : List AVal := [ii x.id, ii x.ten, ii x.pods, ii x.need.a, ii x.need.b, ii x.need.c, ii x.run, ii x.lev, ii x.pref]
def Gan.av (x : Gan) : AVal := .agg x.cs
def Cmd.cs (x : Cmd) : List AVal := [ii x.k, .slice 11 (nav x.c.ns) .no, .slice 6 (hav x.c.hs) .no, ii x.c.half, ii x.c.age, ii x.g.id, ii x.g.ten, ii x.g.pods, ii x.g.need.a, ii x.g.need.b, ii x.g.need.c, ii x.g.run, ii x.g.lev, ii x.g.pref, ii x.n]
def Cmd.av (x : Cmd) : AVal := .agg x.cs
abbrev iv (l : List Int) : List AVal := l.map ii

/- what may be told -/
def in40 (x : Int) : Bool := decide (0 ≤ x) && decide (x ≤ 1099511627776)
def okI : List Int → Bool
  | [] => true
  | x :: r => in40 x && okI r
def V3.l (v : V3) : List Int := [v.a, v.b, v.c]
def Nod.ok (x : Nod) : Bool := (decide (-1 ≤ x.p) && decide (x.p ≤ 1099511627776)) && okI [x.w] && okI x.n.l && okI x.b.l && okI x.l.l
def Hos.ok (x : Hos) : Bool := okI [x.f, x.b, x.r] && okI x.c.l
def allN : List Nod → Bool
  | [] => true
  | x :: r => x.ok && allN r
def allH : List Hos → Bool
  | [] => true
  | x :: r => x.ok && allH r
def Con.ok (c : Con) : Bool := allN c.ns && allH c.hs && okI [c.half, c.age]
def Gan.ok (g : Gan) : Bool := okI [g.id, g.ten, g.pods, g.run, g.lev, g.pref] && okI g.need.l
def Con.none (c : Con) : Bool := decide ((c.ns.length : Int) = 0) && decide ((c.hs.length : Int) = 0) && decide (c.half = 0) && decide (c.age = 0)
def Gan.zero : Gan := ⟨0, 0, 0, ⟨0, 0, 0⟩, 0, 0, 0⟩
def V3.zero : V3 := ⟨0, 0, 0⟩

theorem in64 {n : Int} (h1 : -9223372036854775808 ≤ n) (h2 : n ≤ 9223372036854775807) : inR .i64 n := ⟨by simp only [kmin]; omega, by simp only [kmax]; omega⟩
theorem nav_get {l : List Nod} {i : Nat} (h : i < l.length) : (nav l)[i]? = some l[i].av := by simp [nav, h]
theorem hav_get {l : List Hos} {i : Nat} (h : i < l.length) : (hav l)[i]? = some l[i].av := by simp [hav, h]
theorem iv_get {l : List Int} {i : Nat} (h : i < l.length) : (iv l)[i]? = some (ii l[i]) := by simp [iv, h]

theorem okI_at {l : List Int} (h : okI l = true) : ∀ (i : Nat) (hi : i < l.length), in40 l[i] = true := by
  induction l with
  | nil => intro i hi; simp at hi
  | cons x r ih =>
    simp only [okI, Bool.and_eq_true] at h
    intro i hi
    cases i with
    | zero => exact h.1
    | succ i => exact ih h.2 i (by simpa using hi)
theorem okI_not {l : List Int} (h : okI l = false) : ∃ (i : Nat) (hi : i < l.length), in40 l[i] = false ∧ ∀ (j : Nat) (hj : j < i), in40 (l[j]'(Nat.lt_trans hj hi)) = true := by
  induction l with
  | nil => cases h
  | cons x r ih =>
    simp only [okI, Bool.and_eq_false_iff] at h
    cases hx : in40 x with
    | false => exact ⟨0, by simp, hx, fun j hj => by omega⟩
    | true =>
      obtain ⟨i, hi, h1, h2⟩ := ih (h.resolve_left (by simp [hx]))
      refine ⟨i + 1, by simpa using hi, h1, fun j hj => ?_⟩
      cases j with
      | zero => exact hx
      | succ j => exact h2 j (by omega)
theorem okI_iff {l : List Int} {i : Nat} (hi : i ≤ l.length) : okI (l.drop i) = true ∨ okI (l.drop i) = false := by cases okI (l.drop i) <;> simp
end Go.Proofs.Ytmodiilfjfmdcaa

namespace Go.Proofs.Ytmodiilfjfmdcaa
open Go Go.AW Go.Proofs
set_option maxRecDepth 10000

/-- what must panics with -/
def stopV (e : Int) : AVal := .iface 112 (.agg [ii e])

theorem must_ok (b : Bool) (e : Int) (h : b = true) : CallOK Try.prog 38 [.bool b, ii e] [] (.ret (.tup [])) [] := by
  subst h
  refine CallOK.to (E := E) (fn := Try.f38) (g := .pure _) (by rfl) (by rfl) (by rfl) (fun _ _ => by rfl) (by decide +kernel) (by rfl) (by rfl) (by rfl) fun _ => ?_
  refine goes hE 100 ?_
  conv => whnf
  refine ⟨fun h => absurd h (by decide), fun h => ?_⟩
  refine goes hE 100 ?_
  conv => whnf
theorem must_bad (b : Bool) (e : Int) (h : b = false) : CallOK Try.prog 38 [.bool b, ii e] [] (.pan (stopV e)) [] := by
  subst h
  refine CallOK.to (E := E) (fn := Try.f38) (g := .pure _) (by rfl) (by rfl) (by rfl) (fun _ _ => by rfl) (by decide +kernel) (by rfl) (by rfl) (by rfl) fun _ => ?_
  refine goes hE 100 ?_
  conv => whnf
  refine ⟨fun h => ?_, fun h => absurd h (by decide)⟩
  refine goes hE 100 ?_
  conv => whnf
  rfl

def toldR (l : List Int) : Res := if okI l then .ret (.tup []) else .pan (stopV 1)

theorem told_loop (l : List Int) (hl : ((iv l).length : Int) ≤ 9223372036854775807) (r : Res) : ∀ (n i : Nat), i + n = l.length → toldR (l.drop i) = r →
    To E Try.f41 (.pure r) (.head (stk Try.f41 0) [(4, .slice 1 (iv l) .no), (5, .int .i64 ((iv l).length : Nat)), (6, .int .i64 i)] []) := by
  have hlen : (iv l).length = l.length := by simp
  intro n
  induction n with
  | zero =>
    intro i hi hr
    rw [List.drop_eq_nil_of_le (by omega)] at hr
    refine goes hE 100 ?_
    conv => whnf
    refine ⟨fun h => absurd (of_decide_eq_true h) (by omega), fun h => ?_⟩
    refine goes hE 100 ?_
    conv => whnf
    exact hr
  | succ n ih =>
    intro i hi hr
    have hlt : i < l.length := by omega
    rw [List.drop_eq_getElem_cons hlt] at hr
    have hr : (if in40 l[i] && okI (l.drop (i + 1)) then Res.ret (.tup []) else .pan (stopV 1)) = r := hr
    refine goes hE 100 ?_
    conv => whnf
    refine ⟨fun h => ?_, fun h => absurd (of_decide_eq_false h) (by omega)⟩
    refine goes hE 100 ?_
    conv => whnf
    refine ⟨i, rfl, ?_⟩
    refine goes hE 100 ?_
    conv => whnf
    refine ⟨_, iv_get hlt, ?_⟩
    refine goes hE 100 ?_
    conv => whnf
    refine ⟨fun h1 => ?_, fun h1 => ?_⟩
    · refine goes hE 100 ?_
      conv => whnf
      rcases Bool.eq_false_or_eq_true (decide (l[i] ≤ 1099511627776)) with h2 | h2
      · refine .pure _ [] (must_ok _ _ h2) ?_
        refine goes hE 100 ?_
        conv => whnf
        refine .inl ⟨⟨by simp only [kmin]; omega, by simp only [kmax]; omega⟩, ?_⟩
        refine goes hE 100 ?_
        conv => whnf
        refine To.head [4, 5, 6] ?_
        refine ih (i + 1) (by omega) ?_
        have h3 : in40 l[i] = true := by unfold in40; rw [h2]; simpa using h1
        rw [h3, Bool.true_and] at hr
        exact hr
      · refine .pan _ (must_bad _ _ h2) ?_
        have h3 : in40 l[i] = false := by unfold in40; rw [h2]; simp
        rw [h3] at hr
        exact hr
    · refine goes hE 100 ?_
      conv => whnf
      refine .pan _ (must_bad _ _ rfl) ?_
      have h3 : in40 l[i] = false := by
        unfold in40
        have : decide (0 ≤ l[i]) = false := h1
        rw [this]; rfl
      rw [h3] at hr
      exact hr

theorem told_any (l : List Int) (r : Res) (hr : toldR l = r) : CallOK Try.prog 41 [.slice 1 (iv l) .no] [] r [] := by
  refine CallOK.to (E := E) (fn := Try.f41) (g := .pure _) (by rfl) (by rfl) (by rfl) (fun _ _ => by rfl) (by decide +kernel) (by rfl) (by rfl) (by rfl) fun ho => ?_
  refine goes hE 100 ?_
  conv => whnf
  refine To.head [4, 5, 6] ?_
  exact told_loop l ho.1 _ l.length 0 (by omega) hr
theorem told_ok (l : List Int) (h : okI l = true) : CallOK Try.prog 41 [.slice 1 (iv l) .no] [] (.ret (.tup [])) [] := told_any l _ (if_pos h)
theorem told_bad (l : List Int) (h : okI l = false) : CallOK Try.prog 41 [.slice 1 (iv l) .no] [] (.pan (stopV 1)) [] := told_any l _ (if_neg (by rw [h]; simp))
end Go.Proofs.Ytmodiilfjfmdcaa

namespace Go.Proofs.Ytmodiilfjfmdcaa
open Go Go.AW Go.Proofs
set_option maxRecDepth 10000

def oR (b : Bool) : Res := if b then .ret (.tup []) else .pan (stopV 1)
theorem oR_bad {b : Bool} {r : Res} (hr : oR b = r) (h : b = false) : Res.pan (stopV 1) = r := by subst h; exact hr

theorem nod_bad {x : Nod} {b : Bool} (h : x.ok = false) : (x.ok && b) = false := by rw [h]; rfl

theorem chost_loop (c : Con) (r : Res) (hl : ((hav c.hs).length : Int) ≤ 9223372036854775807) : ∀ (n i : Nat), i + n = c.hs.length → oR (allH (c.hs.drop i) && okI [c.half, c.age]) = r →
    To E Try.f39 (.pure r) (.head (stk Try.f39 1) [(1, .ref 0 0), (37, .slice 6 (hav c.hs) .no), (38, .int .i64 ((hav c.hs).length : Nat)), (39, .int .i64 i)] [.cells 25 c.cs]) := by
  have hlen : (hav c.hs).length = c.hs.length := by simp
  intro n
  induction n with
  | zero =>
    intro i hi hr
    rw [List.drop_eq_nil_of_le (by omega)] at hr
    refine goes hE 100 ?_
    conv => whnf
    refine ⟨fun h => absurd (of_decide_eq_true h) (by omega), fun h => ?_⟩
    refine goes hE 100 ?_
    conv => whnf
    cases h2 : okI [c.half, c.age] with
    | true =>
      refine .pure _ [] (CallOK.strip (told_ok [c.half, c.age] h2)) ?_
      refine goes hE 100 ?_
      conv => whnf
      rw [h2] at hr
      exact hr
    | false =>
      refine .pan _ (CallOK.strip (told_bad [c.half, c.age] h2)) ?_
      rw [h2] at hr
      exact hr
  | succ n ih =>
    intro i hi hr
    have hlt : i < c.hs.length := by omega
    rw [List.drop_eq_getElem_cons hlt] at hr
    have hr : oR ((c.hs[i].ok && allH (c.hs.drop (i + 1))) && okI [c.half, c.age]) = r := hr
    generalize hx : c.hs[i] = x at hr
    refine goes hE 100 ?_
    conv => whnf
    refine ⟨fun h => ?_, fun h => absurd (of_decide_eq_false h) (by omega)⟩
    refine goes hE 100 ?_
    conv => whnf
    refine ⟨i, rfl, ?_⟩
    refine goes hE 100 ?_
    conv => whnf
    refine ⟨_, (hav_get hlt).trans (by rw [hx]), ?_⟩
    refine goes hE 100 ?_
    conv => whnf
    cases h2 : okI [x.f, x.b, x.r] with
    | false =>
      refine .pan _ (CallOK.strip (told_bad [x.f, x.b, x.r] h2)) ?_
      exact oR_bad hr (by unfold Hos.ok; rw [h2]; rfl)
    | true =>
      refine .pure _ [] (CallOK.strip (told_ok [x.f, x.b, x.r] h2)) ?_
      refine goes hE 100 ?_
      conv => whnf
      refine ⟨by decide, ?_⟩
      refine goes hE 100 ?_
      conv => whnf
      cases h3 : okI x.c.l with
      | false =>
        refine .pan _ (CallOK.strip (told_bad x.c.l h3)) ?_
        exact oR_bad hr (by unfold Hos.ok; rw [h2, h3]; rfl)
      | true =>
        refine .pure _ [] (CallOK.strip (told_ok x.c.l h3)) ?_
        refine goes hE 100 ?_
        conv => whnf
        refine .inl ⟨⟨by simp only [kmin]; omega, by simp only [kmax]; omega⟩, ?_⟩
        refine goes hE 100 ?_
        conv => whnf
        refine To.cut [1, 37, 38, 39] 1 rfl rfl rfl rfl ?_
        refine ih (i + 1) (by omega) ?_
        have : x.ok = true := by unfold Hos.ok; rw [h2, h3]; rfl
        rw [this, Bool.true_and] at hr
        exact hr

theorem cnod_loop (c : Con) (r : Res) (hl : ((nav c.ns).length : Int) ≤ 9223372036854775807) (hh : ((hav c.hs).length : Int) ≤ 9223372036854775807) : ∀ (n i : Nat), i + n = c.ns.length → oR (allN (c.ns.drop i) && (allH c.hs && okI [c.half, c.age])) = r →
    To E Try.f39 (.pure r) (.head (stk Try.f39 0) [(1, .ref 0 0), (7, .slice 11 (nav c.ns) .no), (8, .int .i64 ((nav c.ns).length : Nat)), (9, .int .i64 i)] [.cells 25 c.cs]) := by
  have hlen : (nav c.ns).length = c.ns.length := by simp
  intro n
  induction n with
  | zero =>
    intro i hi hr
    rw [List.drop_eq_nil_of_le (by omega)] at hr
    refine goes hE 100 ?_
    conv => whnf
    refine ⟨fun h => absurd (of_decide_eq_true h) (by omega), fun h => ?_⟩
    refine goes hE 100 ?_
    conv => whnf
    refine To.cut [1, 37, 38, 39] 1 rfl rfl rfl rfl ?_
    exact chost_loop c r hh c.hs.length 0 (by omega) hr
  | succ n ih =>
    intro i hi hr
    have hlt : i < c.ns.length := by omega
    rw [List.drop_eq_getElem_cons hlt] at hr
    have hr : oR ((c.ns[i].ok && allN (c.ns.drop (i + 1))) && (allH c.hs && okI [c.half, c.age])) = r := hr
    generalize hx : c.ns[i] = x at hr
    have bad : x.ok = false → Res.pan (stopV 1) = r := fun h => oR_bad hr (by rw [h]; rfl)
    refine goes hE 100 ?_
    conv => whnf
    refine ⟨fun h => ?_, fun h => absurd (of_decide_eq_false h) (by omega)⟩
    refine goes hE 100 ?_
    conv => whnf
    refine ⟨i, rfl, ?_⟩
    refine goes hE 100 ?_
    conv => whnf
    refine ⟨_, (nav_get hlt).trans (by rw [hx]), ?_⟩
    refine goes hE 100 ?_
    conv => whnf
    refine ⟨fun h1 => ?_, fun h1 => ?_⟩
    · have h1 : decide (-1 ≤ x.p) = true := h1
      refine goes hE 100 ?_
      conv => whnf
      rcases Bool.eq_false_or_eq_true (decide (x.p ≤ 1099511627776)) with h2 | h2
      · refine .pure _ [] (must_ok _ _ h2) ?_
        refine goes hE 100 ?_
        conv => whnf
        cases h3 : okI [x.w] with
        | false =>
          refine .pan _ (CallOK.strip (told_bad [x.w] h3)) ?_
          exact bad (by unfold Nod.ok; rw [h3]; simp)
        | true =>
        refine .pure _ [] (CallOK.strip (told_ok [x.w] h3)) ?_
        refine goes hE 100 ?_
        conv => whnf
        refine ⟨by decide, ?_⟩
        refine goes hE 100 ?_
        conv => whnf
        cases h4 : okI x.n.l with
        | false =>
          refine .pan _ (CallOK.strip (told_bad x.n.l h4)) ?_
          exact bad (by unfold Nod.ok; rw [h4]; simp)
        | true =>
        refine .pure _ [] (CallOK.strip (told_ok x.n.l h4)) ?_
        refine goes hE 100 ?_
        conv => whnf
        refine ⟨by decide, ?_⟩
        refine goes hE 100 ?_
        conv => whnf
        cases h5 : okI x.b.l with
        | false =>
          refine .pan _ (CallOK.strip (told_bad x.b.l h5)) ?_
          exact bad (by unfold Nod.ok; rw [h5]; simp)
        | true =>
        refine .pure _ [] (CallOK.strip (told_ok x.b.l h5)) ?_
        refine goes hE 100 ?_
        conv => whnf
        refine ⟨by decide, ?_⟩
        refine goes hE 100 ?_
        conv => whnf
        cases h6 : okI x.l.l with
        | false =>
          refine .pan _ (CallOK.strip (told_bad x.l.l h6)) ?_
          exact bad (by unfold Nod.ok; rw [h6]; simp)
        | true =>
        refine .pure _ [] (CallOK.strip (told_ok x.l.l h6)) ?_
        refine goes hE 100 ?_
        conv => whnf
        refine .inl ⟨⟨by simp only [kmin]; omega, by simp only [kmax]; omega⟩, ?_⟩
        refine goes hE 100 ?_
        conv => whnf
        refine To.cut [1, 7, 8, 9] 1 rfl rfl rfl rfl ?_
        refine ih (i + 1) (by omega) ?_
        have : x.ok = true := by unfold Nod.ok; rw [h1, h2, h3, h4, h5, h6]; rfl
        rw [this, Bool.true_and] at hr
        exact hr
      · refine .pan _ (must_bad _ _ h2) ?_
        exact bad (by unfold Nod.ok; rw [h2]; simp)
    · have h1 : decide (-1 ≤ x.p) = false := h1
      refine goes hE 100 ?_
      conv => whnf
      refine .pan _ (must_bad _ _ rfl) ?_
      exact bad (by unfold Nod.ok; rw [h1]; simp)

theorem rep_agg_at {M : Imm} {ob : Hs} {v : Value} {cs : List AVal} (h : Rep M ob v (.agg cs)) (i : Nat) (a : AVal) (ha : cs[i]? = some a) : okA a := by
  obtain ⟨vs, _, hl, hr⟩ := h.agg_inv
  have hlt : i < vs.length := by rw [hl]; exact (List.getElem?_eq_some_iff.1 ha).1
  exact (hr i _ a (List.getElem?_eq_getElem hlt) ha).okA
/-- what is known of the arguments -/
theorem CallOK.get {P : Program} {f : FuncId} {args : List AVal} {obs obs' : List AObj} {r : Res} (Q : Prop) (hQ : ∀ M ob vs, RepL M ob vs args → Q) (h : Q → CallOK P f args obs r obs') : CallOK P f args obs r obs' :=
  fun M ob w vargs hm hr => h (hQ _ _ _ hr) M ob w vargs hm hr
theorem con_len (c : Con) (M : Imm) (ob : Hs) (vs : List Value) (h : RepL M ob vs [c.av]) : ((nav c.ns).length : Int) ≤ 9223372036854775807 ∧ ((hav c.hs).length : Int) ≤ 9223372036854775807 := by
  have hl : 0 < vs.length := by rw [h.1]; simp
  have := h.2 0 _ c.av (List.getElem?_eq_getElem hl) rfl
  exact ⟨rep_agg_at this 0 _ rfl, rep_agg_at this 1 _ rfl⟩

theorem config_any (c : Con) (r : Res) (hr : oR c.ok = r) : CallOK Try.prog 39 [c.av] [] r [] := by
  refine CallOK.get _ (con_len c) fun ⟨hl, hh⟩ => ?_
  refine CallOK.to (E := E) (fn := Try.f39) (g := .pure _) (by rfl) (by rfl) (by rfl) (fun _ _ => by rfl) (by decide +kernel) (by rfl) (by rfl) (by rfl) fun _ => ?_
  refine goes hE 100 ?_
  conv => whnf
  refine To.cut [1, 7, 8, 9] 1 rfl rfl rfl rfl ?_
  exact cnod_loop c r hl hh c.ns.length 0 (by omega) (by rw [← hr]; unfold Con.ok; rw [Bool.and_assoc]; rfl)
theorem config_ok (c : Con) (h : c.ok = true) : CallOK Try.prog 39 [c.av] [] (.ret (.tup [])) [] := config_any c _ (if_pos h)
theorem config_bad (c : Con) (h : c.ok = false) : CallOK Try.prog 39 [c.av] [] (.pan (stopV 1)) [] := config_any c _ (if_neg (by rw [h]; simp))

theorem gang_any (x : Gan) (r : Res) (hr : oR x.ok = r) : CallOK Try.prog 40 [x.av] [] r [] := by
  refine CallOK.to (E := E) (fn := Try.f40) (g := .pure _) (by rfl) (by rfl) (by rfl) (fun _ _ => by rfl) (by decide +kernel) (by rfl) (by rfl) (by rfl) fun _ => ?_
  refine goes hE 100 ?_
  conv => whnf
  cases h1 : okI [x.id, x.ten, x.pods, x.run, x.lev, x.pref] with
  | false =>
    refine .pan _ (CallOK.strip (told_bad [x.id, x.ten, x.pods, x.run, x.lev, x.pref] h1)) ?_
    exact oR_bad hr (by unfold Gan.ok; rw [h1]; rfl)
  | true =>
    refine .pure _ [] (CallOK.strip (told_ok [x.id, x.ten, x.pods, x.run, x.lev, x.pref] h1)) ?_
    refine goes hE 100 ?_
    conv => whnf
    refine ⟨by decide, ?_⟩
    refine goes hE 100 ?_
    conv => whnf
    cases h2 : okI x.need.l with
    | false =>
      refine .pan _ (CallOK.strip (told_bad x.need.l h2)) ?_
      exact oR_bad hr (by unfold Gan.ok; rw [h1, h2]; rfl)
    | true =>
      refine .pure _ [] (CallOK.strip (told_ok x.need.l h2)) ?_
      refine goes hE 100 ?_
      conv => whnf
      rw [← hr]; unfold Gan.ok; rw [h1, h2]; rfl
theorem gang_ok (x : Gan) (h : x.ok = true) : CallOK Try.prog 40 [x.av] [] (.ret (.tup [])) [] := gang_any x _ (if_pos h)
theorem gang_bad (x : Gan) (h : x.ok = false) : CallOK Try.prog 40 [x.av] [] (.pan (stopV 1)) [] := gang_any x _ (if_neg (by rw [h]; simp))
end Go.Proofs.Ytmodiilfjfmdcaa

namespace Go.Proofs.Ytmodiilfjfmdcaa
open Go Go.AW Go.Proofs
set_option maxRecDepth 10000

theorem catch_ret (x : Int) : DefOK Try.prog 37 [.ref 0 0] [.cells 34 [ii x]] none [.cells 34 [ii x]] := by
  refine DefOK.of (E := E) (fn := Try.f37) (n0 := 1) (r := .tup []) (by rfl) (by rfl) (by rfl) (fun _ _ => by rfl) (by rfl) (by decide +kernel) (by rfl) (by rfl) (by rfl) (by rfl) fun _ => ?_
  refine goes hE 100 ?_
  conv => whnf
  refine ⟨fun _ => ?_, fun h => absurd h (by decide)⟩
  refine goes hE 100 ?_
  conv => whnf
  exact ⟨[], [0], ⟨rfl, rfl⟩, rfl, rfl⟩
theorem catch_pan (x e : Int) : DefOK Try.prog 37 [.ref 0 0] [.cells 34 [ii x]] (some (stopV e)) [.cells 34 [ii e]] := by
  refine DefOK.of (E := E) (fn := Try.f37) (n0 := 1) (r := .tup []) (by rfl) (by rfl) (by rfl) (fun _ _ => by rfl) (by rfl) (by decide +kernel) (by rfl) (by rfl) (by rfl) (by rfl) fun _ => ?_
  refine goes hE 100 ?_
  conv => whnf
  refine ⟨fun h => absurd h (by decide), fun _ => ?_⟩
  refine goes hE 100 ?_
  conv => whnf
  refine ⟨fun _ => ?_, fun h => absurd h (by decide)⟩
  refine goes hE 100 ?_
  conv => whnf
  exact ⟨[], [0], ⟨rfl, rfl⟩, rfl, rfl⟩
end Go.Proofs.Ytmodiilfjfmdcaa

namespace Go.Proofs.Ytmodiilfjfmdcaa
open Go Go.AW Go.Proofs
set_option maxRecDepth 10000

def Gan.isZ (g : Gan) : Bool := ((g.id == 0) && ((g.ten == 0) && ((g.pods == 0) && ((g.need.a == 0) && ((g.need.b == 0) && ((g.need.c == 0) && ((g.run == 0) && ((g.lev == 0) && ((g.pref == 0) && true)))))))))
def chkL (x : Cmd) : Int := if decide (((nav x.c.ns).length : Int) ≤ 12) && decide (((hav x.c.hs).length : Int) ≤ 24) then 0 else 8
def chkN (x : Cmd) : Int := if okI [x.n] then chkL x else 1
def chkG (x : Cmd) : Int := if x.g.ok then chkN x else 1
def chkC (x : Cmd) : Int := if x.c.ok then chkG x else 1
def chk4 (x : Cmd) : Int := if ((x.k == 3 || x.k == 4) || x.k == 5) || x.n == 0 then chkC x else 1
def chk3 (x : Cmd) : Int := if x.k == 2 || x.g.isZ then chk4 x else 1
def Con.non (c : Con) : Bool := ((((nav c.ns).length : Int) == 0 && ((hav c.hs).length : Int) == 0) && c.half == 0) && c.age == 0
def chk2 (x : Cmd) : Int := if x.k == 1 || x.c.non then chk3 x else 1
def chk (x : Cmd) : Int := if decide (1 ≤ x.k) && decide (x.k ≤ 6) then chk2 x else 1

/-- while Check runs -/
abbrev chF : List (Nat × AVal) := [(1, .ref 0 0), (2, .ref 1 0)]
abbrev chO (x : Cmd) : List AObj := [.cells 31 x.cs, .cells 34 [ii 0]]
noncomputable abbrev Ec : Env := Ed [(37, [.ref 1 0])]
theorem hEc : EnvOK Ec := hEd _

theorem chk_end (x : Cmd) (r : Int) (h : 0 = r) : To Ec Try.f16 (.pure (.ret (ii r))) (.code (behind Try.f16 9) chF (chO x)) := by
  subst h
  refine goes hEc 100 ?_
  conv => whnf
  refine To.leave (f := 37) (args := [.ref 1 0]) [] rfl [] [1] rfl (catch_ret 0) ?_
  exact To.left hE rfl rfl rfl


theorem chk_9 (x : Cmd) (r : Int) (hr : chkL x = r) : To Ec Try.f16 (.pure (.ret (ii r))) (.code (behind Try.f16 8) chF (chO x)) := by
  unfold chkL at hr
  refine goes hEc 100 ?_
  conv => whnf
  refine ⟨fun h1 => ?_, fun h1 => ?_⟩
  · refine goes hEc 100 ?_
    conv => whnf
    rcases Bool.eq_false_or_eq_true (decide (((hav x.c.hs).length : Int) ≤ 24)) with h2 | h2
    · rw [h2, h1] at hr
      refine .pure _ [] (must_ok _ _ h2) ?_
      refine goes hEc 2 ?_
      conv => whnf
      refine To.cutC [1, 2] 2 rfl rfl rfl rfl ?_
      exact (chk_end x r hr)
    · rw [h2, Bool.and_false] at hr
      subst hr
      refine .pan _ (must_bad _ _ h2) ?_
      conv => whnf
      refine To.leave (f := 37) (args := [.ref 1 0]) [] rfl [] [1] rfl (catch_pan 0 8) ?_
      exact To.left hE rfl rfl rfl
  · rw [h1, Bool.false_and] at hr
    subst hr
    refine goes hEc 100 ?_
    conv => whnf
    refine .pan _ (must_bad _ _ rfl) ?_
    conv => whnf
    refine To.leave (f := 37) (args := [.ref 1 0]) [] rfl [] [1] rfl (catch_pan 0 8) ?_
    exact To.left hE rfl rfl rfl
theorem chk_8 (x : Cmd) (r : Int) (hr : chkN x = r) : To Ec Try.f16 (.pure (.ret (ii r))) (.code (behind Try.f16 7) chF (chO x)) := by
  unfold chkN at hr
  refine goes hEc 100 ?_
  conv => whnf
  cases h : okI [x.n] with
  | true =>
    rw [h] at hr
    refine .pure _ [] (CallOK.strip (told_ok [x.n] h)) ?_
    refine goes hEc 2 ?_
    conv => whnf
    refine To.cutC [1, 2] 2 rfl rfl rfl rfl ?_
    exact (chk_9 x r hr)
  | false =>
    rw [h] at hr
    subst hr
    refine .pan _ (CallOK.strip (told_bad [x.n] h)) ?_
    conv => whnf
    refine To.leave (f := 37) (args := [.ref 1 0]) [] rfl [] [1] rfl (catch_pan 0 1) ?_
    exact To.left hE rfl rfl rfl
theorem chk_7 (x : Cmd) (r : Int) (hr : chkG x = r) : To Ec Try.f16 (.pure (.ret (ii r))) (.code (behind Try.f16 6) chF (chO x)) := by
  unfold chkG at hr
  refine goes hEc 100 ?_
  conv => whnf
  cases h : x.g.ok with
  | true =>
    rw [h] at hr
    refine .pure _ [] (gang_ok x.g h) ?_
    refine goes hEc 2 ?_
    conv => whnf
    refine To.cutC [1, 2] 2 rfl rfl rfl rfl ?_
    exact (chk_8 x r hr)
  | false =>
    rw [h] at hr
    subst hr
    refine .pan _ (gang_bad x.g h) ?_
    conv => whnf
    refine To.leave (f := 37) (args := [.ref 1 0]) [] rfl [] [1] rfl (catch_pan 0 1) ?_
    exact To.left hE rfl rfl rfl
theorem chk_6 (x : Cmd) (r : Int) (hr : chkC x = r) : To Ec Try.f16 (.pure (.ret (ii r))) (.code (behind Try.f16 5) chF (chO x)) := by
  unfold chkC at hr
  refine goes hEc 100 ?_
  conv => whnf
  cases h : x.c.ok with
  | true =>
    rw [h] at hr
    refine .pure _ [] (config_ok x.c h) ?_
    refine goes hEc 2 ?_
    conv => whnf
    refine To.cutC [1, 2] 2 rfl rfl rfl rfl ?_
    exact (chk_7 x r hr)
  | false =>
    rw [h] at hr
    subst hr
    refine .pan _ (config_bad x.c h) ?_
    conv => whnf
    refine To.leave (f := 37) (args := [.ref 1 0]) [] rfl [] [1] rfl (catch_pan 0 1) ?_
    exact To.left hE rfl rfl rfl
end Go.Proofs.Ytmodiilfjfmdcaa

namespace Go.Proofs.Ytmodiilfjfmdcaa
open Go Go.AW Go.Proofs
set_option maxRecDepth 10000


theorem ite_yes {b : Bool} {p q r : Int} (hr : (if b then p else q) = r) (h : b = true) : p = r := by subst h; exact hr
theorem ite_no {b : Bool} {p q r : Int} (hr : (if b then p else q) = r) (h : b = false) : q = r := by subst h; exact hr
theorem chk_5 (x : Cmd) (r : Int) (hr : chk4 x = r) : To Ec Try.f16 (.pure (.ret (ii r))) (.code (behind Try.f16 4) chF (chO x)) := by
  unfold chk4 at hr
  refine goes hEc 100 ?_
  conv => whnf
  refine ⟨fun h1 => ?_, fun h1 => ?_⟩
  · have h1 : (x.k == 3) = true := h1
    replace hr := ite_yes hr (by simp [h1])
    refine goes hEc 100 ?_
    conv => whnf
    refine And.intro (fun _ => ?_) (fun h => absurd (show true = false from h) (by decide))
    refine goes hEc 100 ?_
    conv => whnf
    refine And.intro (fun _ => ?_) (fun h => absurd (show true = false from h) (by decide))
    refine goes hEc 100 ?_
    conv => whnf
    refine .pure _ [] (must_ok _ _ rfl) ?_
    refine goes hEc 2 ?_
    conv => whnf
    refine To.cutC [1, 2] 2 rfl rfl rfl rfl ?_
    exact (chk_6 x r hr)
  · have h1 : (x.k == 3) = false := h1
    refine goes hEc 100 ?_
    conv => whnf
    refine ⟨fun h2 => ?_, fun h2 => ?_⟩
    · have h2 : (x.k == 4) = true := h2
      replace hr := ite_yes hr (by simp [h2])
      refine goes hEc 100 ?_
      conv => whnf
      refine And.intro (fun _ => ?_) (fun h => absurd (show true = false from h) (by decide))
      refine goes hEc 100 ?_
      conv => whnf
      refine .pure _ [] (must_ok _ _ rfl) ?_
      refine goes hEc 2 ?_
      conv => whnf
      refine To.cutC [1, 2] 2 rfl rfl rfl rfl ?_
      exact (chk_6 x r hr)
    · have h2 : (x.k == 4) = false := h2
      refine goes hEc 100 ?_
      conv => whnf
      refine ⟨fun h3 => ?_, fun h3 => ?_⟩
      · have h3 : (x.k == 5) = true := h3
        replace hr := ite_yes hr (by simp [h3])
        refine goes hEc 100 ?_
        conv => whnf
        refine .pure _ [] (must_ok _ _ rfl) ?_
        refine goes hEc 2 ?_
        conv => whnf
        refine To.cutC [1, 2] 2 rfl rfl rfl rfl ?_
        exact (chk_6 x r hr)
      · have h3 : (x.k == 5) = false := h3
        refine goes hEc 100 ?_
        conv => whnf
        refine (Bool.eq_false_or_eq_true (x.n == 0)).elim (fun h4 => ?_) (fun h4 => ?_)
        · replace hr := ite_yes hr (by simp [h4])
          refine .pure _ [] (must_ok _ _ h4) ?_
          refine goes hEc 2 ?_
          conv => whnf
          refine To.cutC [1, 2] 2 rfl rfl rfl rfl ?_
          exact (chk_6 x r hr)
        · replace hr := ite_no hr (by simp [h1, h2, h3, h4])
          subst hr
          refine .pan _ (must_bad _ _ h4) ?_
          conv => whnf
          refine To.leave (f := 37) (args := [.ref 1 0]) [] rfl [] [1] rfl (catch_pan 0 1) ?_
          exact To.left hE rfl rfl rfl
end Go.Proofs.Ytmodiilfjfmdcaa

namespace Go.Proofs.Ytmodiilfjfmdcaa
open Go Go.AW Go.Proofs
set_option maxRecDepth 10000


theorem chk_4 (x : Cmd) (r : Int) (hr : chk3 x = r) : To Ec Try.f16 (.pure (.ret (ii r))) (.code (behind Try.f16 3) chF (chO x)) := by
  unfold chk3 at hr
  refine goes hEc 100 ?_
  conv => whnf
  refine ⟨fun h1 => ?_, fun h1 => ?_⟩
  · have h1 : (x.k == 2) = true := h1
    replace hr := ite_yes hr (by simp [h1])
    refine goes hEc 100 ?_
    conv => whnf
    refine .pure _ [] (must_ok _ _ rfl) ?_
    refine goes hEc 2 ?_
    conv => whnf
    refine To.cutC [1, 2] 2 rfl rfl rfl rfl ?_
    exact (chk_5 x r hr)
  · have h1 : (x.k == 2) = false := h1
    refine goes hEc 100 ?_
    conv => whnf
    refine (Bool.eq_false_or_eq_true x.g.isZ).elim (fun h4 => ?_) (fun h4 => ?_)
    · replace hr := ite_yes hr (by simp [h4])
      refine .pure _ [] (must_ok _ _ h4) ?_
      refine goes hEc 2 ?_
      conv => whnf
      refine To.cutC [1, 2] 2 rfl rfl rfl rfl ?_
      exact (chk_5 x r hr)
    · replace hr := ite_no hr (by simp [h1, h4])
      subst hr
      refine .pan _ (must_bad _ _ h4) ?_
      conv => whnf
      refine To.leave (f := 37) (args := [.ref 1 0]) [] rfl [] [1] rfl (catch_pan 0 1) ?_
      exact To.left hE rfl rfl rfl
end Go.Proofs.Ytmodiilfjfmdcaa

namespace Go.Proofs.Ytmodiilfjfmdcaa
open Go Go.AW Go.Proofs
set_option maxRecDepth 10000


theorem chk_3 (x : Cmd) (r : Int) (hr : chk2 x = r) : To Ec Try.f16 (.pure (.ret (ii r))) (.code (behind Try.f16 2) chF (chO x)) := by
  unfold chk2 Con.non at hr
  refine goes hEc 100 ?_
  conv => whnf
  refine ⟨fun h1 => ?_, fun h1 => ?_⟩
  · have h1 : (x.k == 1) = true := h1
    replace hr := ite_yes hr (by rw [h1]; rfl)
    refine goes hEc 100 ?_
    conv => whnf
    refine .pure _ [] (must_ok _ _ rfl) ?_
    refine goes hEc 2 ?_
    conv => whnf
    refine To.cutC [1, 2] 2 rfl rfl rfl rfl ?_
    exact (chk_4 x r hr)
  · have h1 : (x.k == 1) = false := h1
    refine goes hEc 100 ?_
    conv => whnf
    refine ⟨fun h2 => ?_, fun h2 => ?_⟩
    · have h2 : (((nav x.c.ns).length : Int) == 0) = true := h2
      refine goes hEc 100 ?_
      conv => whnf
      refine ⟨fun h3 => ?_, fun h3 => ?_⟩
      · have h3 : (((hav x.c.hs).length : Int) == 0) = true := h3
        refine goes hEc 100 ?_
        conv => whnf
        refine ⟨fun h4 => ?_, fun h4 => ?_⟩
        · have h4 : (x.c.half == 0) = true := h4
          refine goes hEc 100 ?_
          conv => whnf
          refine (Bool.eq_false_or_eq_true (x.c.age == 0)).elim (fun h5 => ?_) (fun h5 => ?_)
          · replace hr := ite_yes hr (by rw [h1, h2, h3, h4, h5]; rfl)
            refine .pure _ [] (must_ok _ _ h5) ?_
            refine goes hEc 2 ?_
            conv => whnf
            refine To.cutC [1, 2] 2 rfl rfl rfl rfl ?_
            exact (chk_4 x r hr)
          · replace hr := ite_no hr (by rw [h1, h5, Bool.and_false]; rfl)
            subst hr
            refine .pan _ (must_bad _ _ h5) ?_
            conv => whnf
            refine To.leave (f := 37) (args := [.ref 1 0]) [] rfl [] [1] rfl (catch_pan 0 1) ?_
            exact To.left hE rfl rfl rfl
        · have h4 : (x.c.half == 0) = false := h4
          replace hr := ite_no hr (by rw [h1, h4, Bool.and_false, Bool.false_and]; rfl)
          subst hr
          refine goes hEc 100 ?_
          conv => whnf
          refine .pan _ (must_bad _ _ rfl) ?_
          conv => whnf
          refine To.leave (f := 37) (args := [.ref 1 0]) [] rfl [] [1] rfl (catch_pan 0 1) ?_
          exact To.left hE rfl rfl rfl
      · have h3 : (((hav x.c.hs).length : Int) == 0) = false := h3
        replace hr := ite_no hr (by rw [h1, h3, Bool.and_false]; rfl)
        subst hr
        refine goes hEc 100 ?_
        conv => whnf
        refine And.intro (fun h => absurd (show false = true from h) (by decide)) (fun _ => ?_)
        refine goes hEc 100 ?_
        conv => whnf
        refine .pan _ (must_bad _ _ rfl) ?_
        conv => whnf
        refine To.leave (f := 37) (args := [.ref 1 0]) [] rfl [] [1] rfl (catch_pan 0 1) ?_
        exact To.left hE rfl rfl rfl
    · have h2 : (((nav x.c.ns).length : Int) == 0) = false := h2
      replace hr := ite_no hr (by rw [h1, h2]; rfl)
      subst hr
      refine goes hEc 100 ?_
      conv => whnf
      refine And.intro (fun h => absurd (show false = true from h) (by decide)) (fun _ => ?_)
      refine goes hEc 100 ?_
      conv => whnf
      refine And.intro (fun h => absurd (show false = true from h) (by decide)) (fun _ => ?_)
      refine goes hEc 100 ?_
      conv => whnf
      refine .pan _ (must_bad _ _ rfl) ?_
      conv => whnf
      refine To.leave (f := 37) (args := [.ref 1 0]) [] rfl [] [1] rfl (catch_pan 0 1) ?_
      exact To.left hE rfl rfl rfl
end Go.Proofs.Ytmodiilfjfmdcaa

namespace Go.Proofs.Ytmodiilfjfmdcaa
open Go Go.AW Go.Proofs
set_option maxRecDepth 10000


theorem chk_2 (x : Cmd) (r : Int) (hr : chk x = r) : To Ec Try.f16 (.pure (.ret (ii r))) (.code (behind Try.f16 1) chF (chO x)) := by
  unfold chk at hr
  refine goes hEc 100 ?_
  conv => whnf
  refine ⟨fun h1 => ?_, fun h1 => ?_⟩
  · have h1 : decide (1 ≤ x.k) = true := h1
    refine goes hEc 100 ?_
    conv => whnf
    refine (Bool.eq_false_or_eq_true (decide (x.k ≤ 6))).elim (fun h2 => ?_) (fun h2 => ?_)
    · rw [h1, h2] at hr
      refine .pure _ [] (must_ok _ _ h2) ?_
      refine goes hEc 2 ?_
      conv => whnf
      refine To.cutC [1, 2] 2 rfl rfl rfl rfl ?_
      exact (chk_3 x r hr)
    · rw [h2, Bool.and_false] at hr
      subst hr
      refine .pan _ (must_bad _ _ h2) ?_
      conv => whnf
      refine To.leave (f := 37) (args := [.ref 1 0]) [] rfl [] [1] rfl (catch_pan 0 1) ?_
      exact To.left hE rfl rfl rfl
  · have h1 : decide (1 ≤ x.k) = false := h1
    rw [h1, Bool.false_and] at hr
    subst hr
    refine goes hEc 100 ?_
    conv => whnf
    refine .pan _ (must_bad _ _ rfl) ?_
    conv => whnf
    refine To.leave (f := 37) (args := [.ref 1 0]) [] rfl [] [1] rfl (catch_pan 0 1) ?_
    exact To.left hE rfl rfl rfl
theorem check_any (x : Cmd) (r : Int) (hr : chk x = r) : CallOK Try.prog 16 [x.av] [] (.ret (ii r)) [] := by
  refine CallOK.to (E := E) (fn := Try.f16) (g := .pure _) (by rfl) (by rfl) (by rfl) (fun _ _ => by rfl) (by decide +kernel) (by rfl) (by rfl) (by rfl) fun _ => ?_
  refine goes hE 100 ?_
  conv => whnf
  refine To.defer (f := 37) (args := [.ref 1 0]) _ rfl rfl ?_
  refine To.cutC [1, 2] 2 rfl rfl rfl rfl ?_
  exact chk_2 x r hr
theorem check_ok (x : Cmd) : CallOK Try.prog 16 [x.av] [] (.ret (ii (chk x))) [] := check_any x _ rfl
end Go.Proofs.Ytmodiilfjfmdcaa

namespace Go.Proofs.Ytmodiilfjfmdcaa
open Go Go.AW Go.Proofs
set_option maxRecDepth 10000

theorem in_loop (l : List Int) (hl : ((iv l).length : Int) ≤ 9223372036854775807) (r : Bool) : ∀ (n i : Nat), i + n = l.length → okI (l.drop i) = r →
    To E Try.f45 (.pure (.ret (.bool r))) (.head (stk Try.f45 0) [(0, .slice 1 (iv l) .no), (3, .int .i64 i)] []) := by
  have hlen : (iv l).length = l.length := by simp
  intro n
  induction n with
  | zero =>
    intro i hi hr
    rw [List.drop_eq_nil_of_le (by omega)] at hr
    subst hr
    refine goes hE 100 ?_
    conv => whnf
    refine ⟨fun h => absurd (of_decide_eq_true h) (by omega), fun h => ?_⟩
    refine goes hE 100 ?_
    conv => whnf
    rfl
  | succ n ih =>
    intro i hi hr
    have hlt : i < l.length := by omega
    rw [List.drop_eq_getElem_cons hlt] at hr
    have hr : (in40 l[i] && okI (l.drop (i + 1))) = r := hr
    generalize hx : l[i] = x at hr
    have get : (iv l)[i]? = some (ii x) := (iv_get hlt).trans (by rw [hx])
    refine goes hE 100 ?_
    conv => whnf
    refine ⟨fun h => ?_, fun h => absurd (of_decide_eq_false h) (by omega)⟩
    refine goes hE 100 ?_
    conv => whnf
    refine ⟨i, rfl, ?_⟩
    refine goes hE 100 ?_
    conv => whnf
    refine ⟨_, get, ?_⟩
    refine goes hE 100 ?_
    conv => whnf
    refine ⟨fun h1 => ?_, fun h1 => ?_⟩
    · have h1 : decide (x < 0) = true := h1
      have h3 : in40 x = false := by
        have := of_decide_eq_true h1
        unfold in40
        rw [decide_eq_false (by omega)]; rfl
      rw [h3] at hr
      subst hr
      refine goes hE 100 ?_
      conv => whnf
      refine ⟨fun _ => ?_, fun h => absurd h (by decide)⟩
      refine goes hE 100 ?_
      conv => whnf
      rfl
    · have h1 : decide (x < 0) = false := h1
      have h1 := of_decide_eq_false h1
      refine goes hE 100 ?_
      conv => whnf
      refine ⟨i, rfl, ?_⟩
      refine goes hE 100 ?_
      conv => whnf
      refine ⟨_, get, ?_⟩
      refine goes hE 100 ?_
      conv => whnf
      refine ⟨fun h2 => ?_, fun h2 => ?_⟩
      · have h2 : decide (1099511627776 < x) = true := h2
        have h3 : in40 x = false := by
          have := of_decide_eq_true h2
          unfold in40
          rw [decide_eq_false (p := x ≤ 1099511627776) (by omega), Bool.and_false]
        rw [h3] at hr
        subst hr
        refine goes hE 100 ?_
        conv => whnf
        rfl
      · have h2 : decide (1099511627776 < x) = false := h2
        have h2 := of_decide_eq_false h2
        have h3 : in40 x = true := by
          unfold in40
          rw [decide_eq_true (by omega), decide_eq_true (by omega)]; rfl
        rw [h3, Bool.true_and] at hr
        refine goes hE 100 ?_
        conv => whnf
        refine .inl ⟨⟨by simp only [kmin]; omega, by simp only [kmax]; omega⟩, ?_⟩
        refine goes hE 100 ?_
        conv => whnf
        refine To.head [0, 3] ?_
        exact ih (i + 1) (by omega) hr
theorem in_ok (l : List Int) : CallOK Try.prog 45 [.slice 1 (iv l) .no] [] (.ret (.bool (okI l))) [] := by
  refine CallOK.to (E := E) (fn := Try.f45) (g := .pure _) (by rfl) (by rfl) (by rfl) (fun _ _ => by rfl) (by decide +kernel) (by rfl) (by rfl) (by rfl) fun ho => ?_
  refine goes hE 100 ?_
  conv => whnf
  refine To.head [0, 3] ?_
  exact in_loop l ho.1 _ l.length 0 (by omega) rfl
theorem vec_ok (v : V3) : CallOK Try.prog 68 [.agg v.cs] [] (.ret (.bool (okI v.l))) [] := by
  refine CallOK.to (E := E) (fn := Try.f68) (g := .pure _) (by rfl) (by rfl) (by rfl) (fun _ _ => by rfl) (by decide +kernel) (by rfl) (by rfl) (by rfl) fun _ => ?_
  refine goes hE 100 ?_
  conv => whnf
  refine ⟨by decide, ?_⟩
  refine goes hE 100 ?_
  conv => whnf
  refine ⟨by decide, ?_⟩
  refine goes hE 100 ?_
  conv => whnf
  refine ⟨by decide, ?_⟩
  refine goes hE 100 ?_
  conv => whnf
  refine .pure _ [] (CallOK.strip (in_ok v.l)) ?_
  refine goes hE 100 ?_
  conv => whnf
theorem rgang_ok (g : Gan) : CallOK Try.prog 44 [g.av] [] (.ret (.bool g.ok)) [] := by
  refine CallOK.to (E := E) (fn := Try.f44) (g := .pure _) (by rfl) (by rfl) (by rfl) (fun _ _ => by rfl) (by decide +kernel) (by rfl) (by rfl) (by rfl) fun _ => ?_
  refine goes hE 100 ?_
  conv => whnf
  refine .pure _ [] (CallOK.strip (in_ok [g.id, g.ten, g.pods, g.run, g.lev, g.pref])) ?_
  refine goes hE 100 ?_
  conv => whnf
  refine ⟨fun h => ?_, fun h => ?_⟩
  · refine goes hE 100 ?_
    conv => whnf
    refine .pure _ [] (vec_ok g.need) ?_
    refine goes hE 100 ?_
    conv => whnf
    unfold Gan.ok
    rw [h]
    rfl
  · refine goes hE 100 ?_
    conv => whnf
    unfold Gan.ok
    rw [h]
    rfl
theorem empty_ok (c : Con) : CallOK Try.prog 43 [c.av] [] (.ret (.bool c.non)) [] := by
  refine CallOK.to (E := E) (fn := Try.f43) (g := .pure _) (by rfl) (by rfl) (by rfl) (fun _ _ => by rfl) (by decide +kernel) (by rfl) (by rfl) (by rfl) fun _ => ?_
  unfold Con.non
  refine goes hE 100 ?_
  conv => whnf
  refine ⟨fun h1 => ?_, fun h1 => ?_⟩
  · have h1 : (((nav c.ns).length : Int) == 0) = true := h1
    refine goes hE 100 ?_
    conv => whnf
    refine ⟨fun h2 => ?_, fun h2 => ?_⟩
    · have h2 : (((hav c.hs).length : Int) == 0) = true := h2
      refine goes hE 100 ?_
      conv => whnf
      refine ⟨fun h3 => ?_, fun h3 => ?_⟩
      · have h3 : (c.half == 0) = true := h3
        refine goes hE 100 ?_
        conv => whnf
        rw [h1, h2, h3]; rfl
      · have h3 : (c.half == 0) = false := h3
        refine goes hE 100 ?_
        conv => whnf
        rw [h1, h2, h3]; rfl
    · have h2 : (((hav c.hs).length : Int) == 0) = false := h2
      refine goes hE 100 ?_
      conv => whnf
      refine ⟨fun h => absurd h (by decide), fun _ => ?_⟩
      refine goes hE 100 ?_
      conv => whnf
      rw [h1, h2]; rfl
  · have h1 : (((nav c.ns).length : Int) == 0) = false := h1
    refine goes hE 100 ?_
    conv => whnf
    refine ⟨fun h => absurd h (by decide), fun _ => ?_⟩
    refine goes hE 100 ?_
    conv => whnf
    refine ⟨fun h => absurd h (by decide), fun _ => ?_⟩
    refine goes hE 100 ?_
    conv => whnf
    rw [h1]; rfl
end Go.Proofs.Ytmodiilfjfmdcaa

namespace Go.Proofs.Ytmodiilfjfmdcaa
open Go Go.AW Go.Proofs
set_option maxRecDepth 10000

theorem not_t {b : Bool} (h : (!b) = true) : b = false := by cases b <;> first | rfl | cases h
theorem not_f {b : Bool} (h : (!b) = false) : b = true := by cases b <;> first | rfl | cases h

theorem rhost_loop (c : Con) (hh : ((hav c.hs).length : Int) ≤ 9223372036854775807) (r : Bool) : ∀ (n i : Nat), i + n = c.hs.length → (allH (c.hs.drop i) && okI [c.half, c.age]) = r →
    To E Try.f42 (.pure (.ret (.bool r))) (.head (stk Try.f42 1) [(1, .ref 0 0), (5, .int .i64 i)] [.cells 25 c.cs]) := by
  have hlen : (hav c.hs).length = c.hs.length := by simp
  intro n
  induction n with
  | zero =>
    intro i hi hr
    rw [List.drop_eq_nil_of_le (by omega)] at hr
    subst hr
    refine goes hE 100 ?_
    conv => whnf
    refine ⟨fun h => absurd (of_decide_eq_true h) (by omega), fun h => ?_⟩
    refine goes hE 100 ?_
    conv => whnf
    refine .pure _ [] (CallOK.strip (in_ok [c.half, c.age])) ?_
    refine goes hE 100 ?_
    conv => whnf
    rfl
  | succ n ih =>
    intro i hi hr
    have hlt : i < c.hs.length := by omega
    rw [List.drop_eq_getElem_cons hlt] at hr
    have hr : ((c.hs[i].ok && allH (c.hs.drop (i + 1))) && okI [c.half, c.age]) = r := hr
    generalize hx : c.hs[i] = x at hr
    have get : (hav c.hs)[i]? = some x.av := (hav_get hlt).trans (by rw [hx])
    have bad : x.ok = false → r = false := fun h => by rw [h] at hr; exact hr.symm
    refine goes hE 100 ?_
    conv => whnf
    refine ⟨fun h => ?_, fun h => absurd (of_decide_eq_false h) (by omega)⟩
    refine goes hE 100 ?_
    conv => whnf
    refine ⟨i, rfl, ?_⟩
    refine goes hE 100 ?_
    conv => whnf
    refine ⟨_, get, ?_⟩
    refine goes hE 100 ?_
    conv => whnf
    refine .pure _ [] (CallOK.strip (in_ok [x.f, x.b, x.r])) ?_
    refine goes hE 100 ?_
    conv => whnf
    refine ⟨fun h1 => ?_, fun h1 => ?_⟩
    · have h1 := not_t h1
      have := bad (by unfold Hos.ok; rw [h1]; rfl)
      subst this
      refine goes hE 100 ?_
      conv => whnf
      refine And.intro (fun _ => ?_) (fun h => absurd (show true = false from h) (by decide))
      refine goes hE 100 ?_
      conv => whnf
    · have h1 := not_f h1
      refine goes hE 100 ?_
      conv => whnf
      refine .pure _ [] (vec_ok x.c) ?_
      refine goes hE 100 ?_
      conv => whnf
      refine ⟨fun h2 => ?_, fun h2 => ?_⟩
      · have h2 := not_t h2
        have := bad (by unfold Hos.ok; rw [h2, Bool.and_false])
        subst this
        refine goes hE 100 ?_
        conv => whnf
      · have h2 := not_f h2
        refine goes hE 100 ?_
        conv => whnf
        refine .inl ⟨⟨by simp only [kmin]; omega, by simp only [kmax]; omega⟩, ?_⟩
        refine goes hE 100 ?_
        conv => whnf
        refine To.cut [1, 5] 1 rfl rfl rfl rfl ?_
        refine ih (i + 1) (by omega) ?_
        have : x.ok = true := by unfold Hos.ok; rw [h1, h2]; rfl
        rw [this, Bool.true_and] at hr
        exact hr

theorem rnod_loop (c : Con) (hl : ((nav c.ns).length : Int) ≤ 9223372036854775807) (hh : ((hav c.hs).length : Int) ≤ 9223372036854775807) (r : Bool) : ∀ (n i : Nat), i + n = c.ns.length → (allN (c.ns.drop i) && (allH c.hs && okI [c.half, c.age])) = r →
    To E Try.f42 (.pure (.ret (.bool r))) (.head (stk Try.f42 0) [(1, .ref 0 0), (3, .int .i64 i)] [.cells 25 c.cs]) := by
  have hlen : (nav c.ns).length = c.ns.length := by simp
  intro n
  induction n with
  | zero =>
    intro i hi hr
    rw [List.drop_eq_nil_of_le (by omega)] at hr
    refine goes hE 100 ?_
    conv => whnf
    refine ⟨fun h => absurd (of_decide_eq_true h) (by omega), fun h => ?_⟩
    refine goes hE 100 ?_
    conv => whnf
    refine To.cut [1, 5] 1 rfl rfl rfl rfl ?_
    exact rhost_loop c hh r c.hs.length 0 (by omega) hr
  | succ n ih =>
    intro i hi hr
    have hlt : i < c.ns.length := by omega
    rw [List.drop_eq_getElem_cons hlt] at hr
    have hr : ((c.ns[i].ok && allN (c.ns.drop (i + 1))) && (allH c.hs && okI [c.half, c.age])) = r := hr
    generalize hx : c.ns[i] = x at hr
    have get : (nav c.ns)[i]? = some x.av := (nav_get hlt).trans (by rw [hx])
    have bad : x.ok = false → r = false := fun h => by rw [h] at hr; exact hr.symm
    refine goes hE 100 ?_
    conv => whnf
    refine ⟨fun h => ?_, fun h => absurd (of_decide_eq_false h) (by omega)⟩
    refine goes hE 100 ?_
    conv => whnf
    refine ⟨i, rfl, ?_⟩
    refine goes hE 100 ?_
    conv => whnf
    refine ⟨_, get, ?_⟩
    refine goes hE 100 ?_
    conv => whnf
    refine ⟨fun h1 => ?_, fun h1 => ?_⟩
    · have h1 : decide (x.p < -1) = true := h1
      have h1 := of_decide_eq_true h1
      have := bad (by unfold Nod.ok; rw [decide_eq_false (p := -1 ≤ x.p) (by omega)]; simp only [Bool.false_and])
      subst this
      refine goes hE 100 ?_
      conv => whnf
      refine And.intro (fun _ => ?_) (fun h => absurd (show true = false from h) (by decide))
      refine goes hE 100 ?_
      conv => whnf
      refine And.intro (fun _ => ?_) (fun h => absurd (show true = false from h) (by decide))
      refine goes hE 100 ?_
      conv => whnf
      refine And.intro (fun _ => ?_) (fun h => absurd (show true = false from h) (by decide))
      refine goes hE 100 ?_
      conv => whnf
      refine And.intro (fun _ => ?_) (fun h => absurd (show true = false from h) (by decide))
      refine goes hE 100 ?_
      conv => whnf
      refine And.intro (fun _ => ?_) (fun h => absurd (show true = false from h) (by decide))
      refine goes hE 100 ?_
      conv => whnf
    · have h1 : decide (x.p < -1) = false := h1
      have h1 := of_decide_eq_false h1
      refine goes hE 100 ?_
      conv => whnf
      refine ⟨fun h2 => ?_, fun h2 => ?_⟩
      · have h2 : decide (1099511627776 < x.p) = true := h2
        have h2 := of_decide_eq_true h2
        have := bad (by unfold Nod.ok; rw [decide_eq_false (p := x.p ≤ 1099511627776) (by omega)]; simp only [Bool.false_and, Bool.and_false])
        subst this
        refine goes hE 100 ?_
        conv => whnf
        refine And.intro (fun _ => ?_) (fun h => absurd (show true = false from h) (by decide))
        refine goes hE 100 ?_
        conv => whnf
        refine And.intro (fun _ => ?_) (fun h => absurd (show true = false from h) (by decide))
        refine goes hE 100 ?_
        conv => whnf
        refine And.intro (fun _ => ?_) (fun h => absurd (show true = false from h) (by decide))
        refine goes hE 100 ?_
        conv => whnf
        refine And.intro (fun _ => ?_) (fun h => absurd (show true = false from h) (by decide))
        refine goes hE 100 ?_
        conv => whnf
      · have h2 : decide (1099511627776 < x.p) = false := h2
        have h2 := of_decide_eq_false h2
        refine goes hE 100 ?_
        conv => whnf
        refine .pure _ [] (CallOK.strip (in_ok [x.w])) ?_
        refine goes hE 100 ?_
        conv => whnf
        refine ⟨fun h3 => ?_, fun h3 => ?_⟩
        · have h3 := not_t h3
          have := bad (by unfold Nod.ok; rw [h3]; simp only [Bool.false_and, Bool.and_false])
          subst this
          refine goes hE 100 ?_
          conv => whnf
          refine And.intro (fun _ => ?_) (fun h => absurd (show true = false from h) (by decide))
          refine goes hE 100 ?_
          conv => whnf
          refine And.intro (fun _ => ?_) (fun h => absurd (show true = false from h) (by decide))
          refine goes hE 100 ?_
          conv => whnf
          refine And.intro (fun _ => ?_) (fun h => absurd (show true = false from h) (by decide))
          refine goes hE 100 ?_
          conv => whnf
        · have h3 := not_f h3
          refine goes hE 100 ?_
          conv => whnf
          refine .pure _ [] (vec_ok x.n) ?_
          refine goes hE 100 ?_
          conv => whnf
          refine ⟨fun h4 => ?_, fun h4 => ?_⟩
          · have h4 := not_t h4
            have := bad (by unfold Nod.ok; rw [h4]; simp only [Bool.false_and, Bool.and_false])
            subst this
            refine goes hE 100 ?_
            conv => whnf
            refine And.intro (fun _ => ?_) (fun h => absurd (show true = false from h) (by decide))
            refine goes hE 100 ?_
            conv => whnf
            refine And.intro (fun _ => ?_) (fun h => absurd (show true = false from h) (by decide))
            refine goes hE 100 ?_
            conv => whnf
          · have h4 := not_f h4
            refine goes hE 100 ?_
            conv => whnf
            refine .pure _ [] (vec_ok x.b) ?_
            refine goes hE 100 ?_
            conv => whnf
            refine ⟨fun h5 => ?_, fun h5 => ?_⟩
            · have h5 := not_t h5
              have := bad (by unfold Nod.ok; rw [h5]; simp only [Bool.false_and, Bool.and_false])
              subst this
              refine goes hE 100 ?_
              conv => whnf
              refine And.intro (fun _ => ?_) (fun h => absurd (show true = false from h) (by decide))
              refine goes hE 100 ?_
              conv => whnf
            · have h5 := not_f h5
              refine goes hE 100 ?_
              conv => whnf
              refine .pure _ [] (vec_ok x.l) ?_
              refine goes hE 100 ?_
              conv => whnf
              refine ⟨fun h6 => ?_, fun h6 => ?_⟩
              · have h6 := not_t h6
                have := bad (by unfold Nod.ok; rw [h6]; simp only [Bool.and_false])
                subst this
                refine goes hE 100 ?_
                conv => whnf
              · have h6 := not_f h6
                refine goes hE 100 ?_
                conv => whnf
                refine .inl ⟨⟨by simp only [kmin]; omega, by simp only [kmax]; omega⟩, ?_⟩
                refine goes hE 100 ?_
                conv => whnf
                refine To.cut [1, 3] 1 rfl rfl rfl rfl ?_
                refine ih (i + 1) (by omega) ?_
                have : x.ok = true := by unfold Nod.ok; rw [h3, h4, h5, h6, decide_eq_true (p := -1 ≤ x.p) (by omega), decide_eq_true (p := x.p ≤ 1099511627776) (by omega)]; rfl
                rw [this, Bool.true_and] at hr
                exact hr
theorem conf_ok (c : Con) : CallOK Try.prog 42 [c.av] [] (.ret (.bool c.ok)) [] := by
  refine CallOK.get _ (con_len c) fun ⟨hl, hh⟩ => ?_
  refine CallOK.to (E := E) (fn := Try.f42) (g := .pure _) (by rfl) (by rfl) (by rfl) (fun _ _ => by rfl) (by decide +kernel) (by rfl) (by rfl) (by rfl) fun _ => ?_
  refine goes hE 100 ?_
  conv => whnf
  refine To.cut [1, 3] 1 rfl rfl rfl rfl ?_
  exact rnod_loop c hl hh _ c.ns.length 0 (by omega) (by unfold Con.ok; rw [Bool.and_assoc]; rfl)
end Go.Proofs.Ytmodiilfjfmdcaa

namespace Go.Proofs.Ytmodiilfjfmdcaa
open Go Go.AW Go.Proofs
set_option maxRecDepth 10000

/-- region number r, and what is to be done behind it -/
def beforeAt (r : Nat) : Code → List KI → Option (List KI)
  | .region id o d, ks => bif Nat.beq id r then some (.code (.region id o d) :: ks) else none
  | .seq a b, ks => (match beforeAt r a (.code b :: ks) with | some x => some x | none => beforeAt r b ks)
  | .cond _ a b, ks => (match beforeAt r a ks with | some x => some x | none => beforeAt r b ks)
  | .block id b, ks => beforeAt r b (.inB id :: ks)
  | .loop b, ks => beforeAt r b (.inL b :: ks)
  | _, _ => none
def before (fn : Func) (r : Nat) : List KI := match beforeAt r (bodyOf fn) [] with | some ks => ks | none => []

/-- behind the switch -/
theorem rc_tail (x : Cmd) (b : Bool) (r : Int) (hr : (if b then chkL x else 1) = r) : To E Try.f17 (.pure (.ret (ii r))) (.code (behind Try.f17 5) [(1, .ref 0 0), (4, .bool b)] [.cells 31 x.cs]) := by
  refine goes hE 100 ?_
  conv => whnf
  refine ⟨fun h => ?_, fun h => ?_⟩
  · have h := not_t h
    subst h
    refine goes hE 100 ?_
    conv => whnf
    rw [← hr]; rfl
  · have h := not_f h
    subst h
    have hr : chkL x = r := hr
    unfold chkL at hr
    refine goes hE 100 ?_
    conv => whnf
    refine ⟨fun h1 => ?_, fun h1 => ?_⟩
    · have h1 : decide ((12 : Int) < ((nav x.c.ns).length : Int)) = true := h1
      have h1 := of_decide_eq_true h1
      rw [decide_eq_false (by omega), Bool.false_and] at hr
      subst hr
      refine goes hE 100 ?_
      conv => whnf
      refine And.intro (fun _ => ?_) (fun h => absurd (show true = false from h) (by decide))
      refine goes hE 100 ?_
      conv => whnf
      rfl
    · have h1 : decide ((12 : Int) < ((nav x.c.ns).length : Int)) = false := h1
      have h1 := of_decide_eq_false h1
      rw [decide_eq_true (by omega), Bool.true_and] at hr
      refine goes hE 100 ?_
      conv => whnf
      refine ⟨fun h2 => ?_, fun h2 => ?_⟩
      · have h2 : decide ((24 : Int) < ((hav x.c.hs).length : Int)) = true := h2
        have h2 := of_decide_eq_true h2
        rw [decide_eq_false (by omega)] at hr
        subst hr
        refine goes hE 100 ?_
        conv => whnf
        rfl
      · have h2 : decide ((24 : Int) < ((hav x.c.hs).length : Int)) = false := h2
        have h2 := of_decide_eq_false h2
        rw [decide_eq_true (by omega)] at hr
        subst hr
        refine goes hE 100 ?_
        conv => whnf
        rfl

theorem isZ_ok {g : Gan} (h : g.isZ = true) : g.ok = true := by
  simp only [Gan.isZ, Bool.and_eq_true, beq_iff_eq, and_true] at h
  obtain ⟨h1, h2, h3, h4, h5, h6, h7, h8, h9⟩ := h
  unfold Gan.ok V3.l
  rw [h1, h2, h3, h4, h5, h6, h7, h8, h9]
  rfl
theorem rc_1 (x : Cmd) (r : Int) (hr : chk x = r) (h1 : (x.k == 1) = true) : To E Try.f17 (.pure (.ret (ii r))) (.code (before Try.f17 5) [(1, .ref 0 0), (3, .ref 1 0)] [.cells 31 x.cs, .cells 29 Gan.zero.cs]) := by
  have hk : x.k = 1 := by simpa using h1
  have hc : chk x = if x.g.isZ then (if x.n == 0 then (if x.c.ok then chkG x else 1) else 1) else 1 := by
    unfold chk chk2 chk3 chk4 chkC
    rw [hk]
    rfl
  rw [hc] at hr
  refine goes hE 100 ?_
  conv => whnf
  refine ⟨fun h2 => ?_, fun h2 => ?_⟩
  · have h2 : x.g.isZ = true := h2
    replace hr := ite_yes hr h2
    refine goes hE 100 ?_
    conv => whnf
    refine ⟨fun h3 => ?_, fun h3 => ?_⟩
    · have h3 : (x.n == 0) = true := h3
      replace hr := ite_yes hr h3
      have hn : x.n = 0 := by simpa using h3
      have e : chkG x = chkL x := by unfold chkG chkN; rw [isZ_ok h2, hn]; rfl
      rw [e] at hr
      refine goes hE 100 ?_
      conv => whnf
      refine .pure _ [] (conf_ok x.c) ?_
      refine goes hE 8 ?_
      conv => whnf
      refine To.cutC [1, 4] 1 rfl rfl rfl rfl ?_
      exact (rc_tail x _ r hr)
    · have h3 : (x.n == 0) = false := h3
      replace hr := ite_no hr h3
      refine goes hE 10 ?_
      conv => whnf
      refine To.cutC [1, 4] 1 rfl rfl rfl rfl ?_
      exact (rc_tail x false r hr)
  · have h2 : x.g.isZ = false := h2
    replace hr := ite_no hr h2
    refine goes hE 100 ?_
    conv => whnf
    refine And.intro (fun h => absurd (show false = true from h) (by decide)) (fun _ => ?_)
    refine goes hE 10 ?_
    conv => whnf
    refine To.cutC [1, 4] 1 rfl rfl rfl rfl ?_
    exact (rc_tail x false r hr)

theorem non_ok {c : Con} (h : c.non = true) : c.ok = true := by
  simp only [Con.non, Bool.and_eq_true, beq_iff_eq] at h
  obtain ⟨⟨⟨h1, h2⟩, h3⟩, h4⟩ := h
  obtain ⟨ns, hs, half, age⟩ := c
  dsimp only at h1 h2 h3 h4
  have e1 : ns = [] := by cases ns with | nil => rfl | cons a l => simp at h1; omega
  have e2 : hs = [] := by cases hs with | nil => rfl | cons a l => simp at h2; omega
  subst e1 e2 h3 h4
  rfl
theorem rc_2 (x : Cmd) (r : Int) (hr : chk x = r) (h1 : (x.k == 2) = true) : To E Try.f17 (.pure (.ret (ii r))) (.code (before Try.f17 7) [(1, .ref 0 0), (3, .ref 1 0)] [.cells 31 x.cs, .cells 29 Gan.zero.cs]) := by
  have hk : x.k = 2 := by simpa using h1
  have hc : chk x = if x.c.non then (if x.n == 0 then chkC x else 1) else 1 := by
    unfold chk chk2 chk3 chk4
    rw [hk]
    rfl
  rw [hc] at hr
  refine goes hE 100 ?_
  conv => whnf
  refine .pure _ [] (empty_ok x.c) ?_
  refine goes hE 100 ?_
  conv => whnf
  refine ⟨fun h2 => ?_, fun h2 => ?_⟩
  · have h2 : x.c.non = true := h2
    replace hr := ite_yes hr h2
    refine goes hE 100 ?_
    conv => whnf
    refine ⟨fun h3 => ?_, fun h3 => ?_⟩
    · have h3 : (x.n == 0) = true := h3
      replace hr := ite_yes hr h3
      have hn : x.n = 0 := by simpa using h3
      have e : chkC x = if x.g.ok then chkL x else 1 := by unfold chkC chkG chkN; rw [non_ok h2, hn]; rfl
      rw [e] at hr
      refine goes hE 100 ?_
      conv => whnf
      refine .pure _ [] (rgang_ok x.g) ?_
      refine goes hE 8 ?_
      conv => whnf
      refine To.cutC [1, 4] 1 rfl rfl rfl rfl ?_
      exact (rc_tail x _ r hr)
    · have h3 : (x.n == 0) = false := h3
      replace hr := ite_no hr h3
      refine goes hE 10 ?_
      conv => whnf
      refine To.cutC [1, 4] 1 rfl rfl rfl rfl ?_
      exact (rc_tail x false r hr)
  · have h2 : x.c.non = false := h2
    replace hr := ite_no hr h2
    refine goes hE 100 ?_
    conv => whnf
    refine And.intro (fun h => absurd (show false = true from h) (by decide)) (fun _ => ?_)
    refine goes hE 10 ?_
    conv => whnf
    refine To.cutC [1, 4] 1 rfl rfl rfl rfl ?_
    exact (rc_tail x false r hr)

theorem rc_3 (x : Cmd) (r : Int) (hr : chk x = r) (h1 : x.k = 3 ∨ x.k = 4 ∨ x.k = 5) : To E Try.f17 (.pure (.ret (ii r))) (.code (before Try.f17 11) [(1, .ref 0 0), (3, .ref 1 0)] [.cells 31 x.cs, .cells 29 Gan.zero.cs]) := by
  have hc : chk x = if x.c.non then (if x.g.isZ then chkC x else 1) else 1 := by
    unfold chk chk2 chk3 chk4
    rcases h1 with h | h | h <;> rw [h] <;> rfl
  rw [hc] at hr
  refine goes hE 100 ?_
  conv => whnf
  refine .pure _ [] (empty_ok x.c) ?_
  refine goes hE 100 ?_
  conv => whnf
  refine ⟨fun h2 => ?_, fun h2 => ?_⟩
  · have h2 : x.c.non = true := h2
    replace hr := ite_yes hr h2
    refine goes hE 100 ?_
    conv => whnf
    refine ⟨fun h3 => ?_, fun h3 => ?_⟩
    · have h3 : x.g.isZ = true := h3
      replace hr := ite_yes hr h3
      have e : chkC x = if okI [x.n] then chkL x else 1 := by unfold chkC chkG chkN; rw [non_ok h2, isZ_ok h3]; rfl
      rw [e] at hr
      refine goes hE 100 ?_
      conv => whnf
      refine .pure _ [] (CallOK.strip (in_ok [x.n])) ?_
      refine goes hE 8 ?_
      conv => whnf
      refine To.cutC [1, 4] 1 rfl rfl rfl rfl ?_
      exact (rc_tail x _ r hr)
    · have h3 : x.g.isZ = false := h3
      replace hr := ite_no hr h3
      refine goes hE 11 ?_
      conv => whnf
      refine To.cutC [1, 4] 1 rfl rfl rfl rfl ?_
      exact (rc_tail x false r hr)
  · have h2 : x.c.non = false := h2
    replace hr := ite_no hr h2
    refine goes hE 100 ?_
    conv => whnf
    refine And.intro (fun h => absurd (show false = true from h) (by decide)) (fun _ => ?_)
    refine goes hE 11 ?_
    conv => whnf
    refine To.cutC [1, 4] 1 rfl rfl rfl rfl ?_
    exact (rc_tail x false r hr)

theorem rc_6 (x : Cmd) (r : Int) (hr : chk x = r) (h1 : x.k = 6) : To E Try.f17 (.pure (.ret (ii r))) (.code (before Try.f17 13) [(1, .ref 0 0), (3, .ref 1 0)] [.cells 31 x.cs, .cells 29 Gan.zero.cs]) := by
  have hc : chk x = if x.c.non then (if x.g.isZ then (if x.n == 0 then chkC x else 1) else 1) else 1 := by
    unfold chk chk2 chk3 chk4
    rw [h1]
    rfl
  rw [hc] at hr
  refine goes hE 100 ?_
  conv => whnf
  refine .pure _ [] (empty_ok x.c) ?_
  refine goes hE 100 ?_
  conv => whnf
  refine ⟨fun h2 => ?_, fun h2 => ?_⟩
  · have h2 : x.c.non = true := h2
    replace hr := ite_yes hr h2
    refine goes hE 100 ?_
    conv => whnf
    refine ⟨fun h3 => ?_, fun h3 => ?_⟩
    · have h3 : x.g.isZ = true := h3
      replace hr := ite_yes hr h3
      have e : (if x.n == 0 then chkC x else 1) = if (x.n == 0) then chkL x else 1 := by
        cases h : (x.n == 0) with
        | false => rfl
        | true =>
          have hn : x.n = 0 := by simpa using h
          show chkC x = chkL x
          unfold chkC chkG chkN
          rw [non_ok h2, isZ_ok h3, hn]
          rfl
      rw [e] at hr
      refine goes hE 16 ?_
      conv => whnf
      refine To.cutC [1, 4] 1 rfl rfl rfl rfl ?_
      exact (rc_tail x _ r hr)
    · have h3 : x.g.isZ = false := h3
      replace hr := ite_no hr h3
      refine goes hE 10 ?_
      conv => whnf
      refine To.cutC [1, 4] 1 rfl rfl rfl rfl ?_
      exact (rc_tail x false r hr)
  · have h2 : x.c.non = false := h2
    replace hr := ite_no hr h2
    refine goes hE 100 ?_
    conv => whnf
    refine And.intro (fun h => absurd (show false = true from h) (by decide)) (fun _ => ?_)
    refine goes hE 10 ?_
    conv => whnf
    refine To.cutC [1, 4] 1 rfl rfl rfl rfl ?_
    exact (rc_tail x false r hr)

theorem rcheck_any (x : Cmd) (r : Int) (hr : chk x = r) : CallOK Try.prog 17 [x.av] [] (.ret (ii r)) [] := by
  refine CallOK.to (E := E) (fn := Try.f17) (g := .pure _) (by rfl) (by rfl) (by rfl) (fun _ _ => by rfl) (by decide +kernel) (by rfl) (by rfl) (by rfl) fun _ => ?_
  refine goes hE 100 ?_
  conv => whnf
  refine ⟨fun h1 => ?_, fun h1 => ?_⟩
  · refine To.cutC [1, 3] 2 rfl rfl rfl rfl ?_
    exact rc_1 x r hr h1
  · have h1 : (x.k == 1) = false := h1
    refine goes hE 100 ?_
    conv => whnf
    refine ⟨fun h2 => ?_, fun h2 => ?_⟩
    · refine To.cutC [1, 3] 2 rfl rfl rfl rfl ?_
      exact rc_2 x r hr h2
    · have h2 : (x.k == 2) = false := h2
      refine goes hE 100 ?_
      conv => whnf
      refine ⟨fun h3 => ?_, fun h3 => ?_⟩
      · have h3 : (x.k == 3) = true := h3
        have hk : x.k = 3 := by simpa using h3
        refine goes hE 100 ?_
        conv => whnf
        refine ⟨fun _ => ?_, fun h => absurd (h3.symm.trans h) (by decide)⟩
        refine To.cutC [1, 3] 2 rfl rfl rfl rfl ?_
        exact rc_3 x r hr (.inl hk)
      · have h3 : (x.k == 3) = false := h3
        refine goes hE 100 ?_
        conv => whnf
        refine ⟨fun h4 => ?_, fun h4 => ?_⟩
        · have h4 : (x.k == 4) = true := h4
          have hk : x.k = 4 := by simpa using h4
          refine goes hE 100 ?_
          conv => whnf
          refine ⟨fun _ => ?_, fun h => absurd (h4.symm.trans h) (by decide)⟩
          refine To.cutC [1, 3] 2 rfl rfl rfl rfl ?_
          exact rc_3 x r hr (.inr (.inl hk))
        · have h4 : (x.k == 4) = false := h4
          refine goes hE 100 ?_
          conv => whnf
          refine ⟨fun h5 => ?_, fun h5 => ?_⟩
          · have h5 : (x.k == 5) = true := h5
            have hk : x.k = 5 := by simpa using h5
            refine To.cutC [1, 3] 2 rfl rfl rfl rfl ?_
            exact rc_3 x r hr (.inr (.inr hk))
          · have h5 : (x.k == 5) = false := h5
            refine goes hE 100 ?_
            conv => whnf
            refine ⟨fun h6 => ?_, fun h6 => ?_⟩
            · have h6 : (x.k == 6) = true := h6
              have hk : x.k = 6 := by simpa using h6
              refine To.cutC [1, 3] 2 rfl rfl rfl rfl ?_
              exact rc_6 x r hr hk
            · have h6 : (x.k == 6) = false := h6
              have e : (decide (1 ≤ x.k) && decide (x.k ≤ 6)) = false := by
                simp only [beq_eq_false_iff_ne] at h1 h2 h3 h4 h5 h6
                by_cases hk : 1 ≤ x.k
                · rw [decide_eq_false (p := x.k ≤ 6) (by omega), Bool.and_false]
                · rw [decide_eq_false hk, Bool.false_and]
              replace hr := ite_no hr e
              refine goes hE 1 ?_
              conv => whnf
              refine To.cutC [1, 4] 1 rfl rfl rfl rfl ?_
              exact (rc_tail x false r hr)
theorem rcheck_ok (x : Cmd) : CallOK Try.prog 17 [x.av] [] (.ret (ii (chk x))) [] := rcheck_any x _ rfl
end Go.Proofs.Ytmodiilfjfmdcaa

namespace Go.Proofs.Ytmodiilfjfmdcaa
open Go Go.AW Go.Proofs
set_option maxRecDepth 10000

def fewB (x : Cmd) : Bool := decide (IntKind.wrap .i64 (((nav x.c.ns).length : Int) + ((hav x.c.hs).length : Int)) ≤ 2000)
theorem few_ok (x : Cmd) : CallOK Try.prog 12 [x.av] [] (.ret (.bool (fewB x))) [] := by
  refine CallOK.to (E := E) (fn := Try.f12) (g := .pure _) (by rfl) (by rfl) (by rfl) (fun _ _ => by rfl) (by decide +kernel) (by rfl) (by rfl) (by rfl) fun _ => ?_
  refine goes hE 100 ?_
  conv => whnf
  refine .inr ?_
  refine goes hE 100 ?_
  conv => whnf
  rfl
end Go.Proofs.Ytmodiilfjfmdcaa

namespace Go.Proofs.Ytmodiilfjfmdcaa
open Go Go.AW Go.Proofs Go.RowKit
set_option maxRecDepth 100000
set_option maxHeartbeats 2000000

abbrev tWr : TypeId := 65
theorem lies_wr : liesAt Try.prog Try.prog.depth tWr (2 / Try.prog.cellsOf tWr) 0 63 1 = true := by kernel_rfl
theorem size_bl : (Try.prog.info? 63).map (·.size) = some 2 := by kernel_rfl

theorem u_pb : Try.prog.underlying 60 = some (.pointer 63) := by kernel_rfl
theorem u_un : Try.prog.underlying 137 = some .unsafePointer := by kernel_rfl
theorem f_esc : Try.prog.funcs[90]? = some Try.f90 := by kernel_rfl
theorem cc_fresh_calls (b : Nat) (w : World) (h0 : w.cell? ⟨b, 0, none⟩ = some (.pointer none)) (hsh : w.shape? b = some (tWr, 2)) (hfz : w.frozen? ⟨b, 0, none⟩ = false) :
    Calls Try.prog 78 #[.pointer (some ⟨b, 0, none⟩)] w fun e w' => e = .returned (.tuple #[]) ∧ w' = w.setCell ⟨b, 0, none⟩ (.pointer (some ⟨b, 0, none⟩)) := by
  obtain ⟨j, hj, hjs⟩ := Option.map_eq_some_iff.1 size_bl
  go_enter Try.func78, Try.ntmps78
  go_wp2
  rw [Lib.run_to_unsafe w ⟨b, 0, none⟩ u_pb u_un hj (by rw [hjs]; decide) hsh (Nat.zero_lt_succ 1)]
  simp only [Result.andThen]
  rw [Oper.upon_value]
  go_wp2
  rw [run_callFunc_extern f_esc (by kernel_rfl) (by kernel_rfl) (by kernel_rfl) (e := Extern.AbiNoEscape.same) (by kernel_rfl)]
  rw [Lib.run_noEscape]
  simp only [Result.andThen]
  rw [Oper.upon_value]
  go_wp2
  rw [Lib.run_from_unsafe w ⟨b, 0, none⟩ u_un u_pb hj hsh lies_wr]
  simp only [Result.andThen]
  rw [Oper.upon_value]
  go_wp2
  go_end0
  exact ⟨rfl, rfl⟩

theorem u_ub : Try.prog.underlying 108 = some (.pointer 5) := by kernel_rfl
theorem c_ub : Try.prog.cellsOf 5 = 1 := by kernel_rfl
theorem str_calls (b g cap : Nat) (p : Value) (cur : Array Value) (l : List UInt8) (w : World) (hbk : w.heap[b]? = some (.cells #[p, .slice (some ⟨g, 0, none⟩) l.length cap] tWr (0, 0))) (hg : w.heap[g]? = some (.cells cur 5 (0, 0))) (h0 : l ≠ [])
    (hcap : l.length ≤ cap) (hcm : cap ≤ maxLen) (hcs : cur.size = cap) (hcell : ∀ (j : Nat) x, l[j]? = some x → w.cell? ⟨g, j, none⟩ = some (.int .u8 x.toNat)) :
    Calls Try.prog 35 #[.pointer (some ⟨b, 0, none⟩)] w fun e w' => e = .returned (.string ⟨l.toArray⟩) ∧ FrzAt g l.length w w' := by
  have hl0 : l.length ≠ 0 := by simpa using h0
  have c1 : w.drew.cell? ⟨b, 1, none⟩ = some (.slice (some ⟨g, 0, none⟩) l.length cap) := by
    have : w.drew.heap[b]? = some (.cells #[p, .slice (some ⟨g, 0, none⟩) l.length cap] tWr (0, 0)) := hbk
    rw [Lib.cell_of_heap this]; rfl
  have hSD : (Builtin.unsafeSliceData_ #[61] 108 #[.slice (some ⟨g, 0, none⟩) l.length cap]).run Try.prog w.drew = .ok (.pointer (some ⟨g, 0, none⟩)) w.drew :=
    Lib.run_unsafeSliceData_row _ _ _ _ _ _ (by omega)
  have hUS : (Builtin.unsafeString_ #[108, 3] 9 #[.pointer (some ⟨g, 0, none⟩), .int .i64 l.length]).run Try.prog w.drew = .ok (.string ⟨l.toArray⟩) (w.drew.freeze ⟨g, 0, none⟩ l.length) := by
    refine Lib.run_unsafeString_row w.drew 108 3 9 5 u_ub c_ub g cur.size (by have hg' : w.drew.heap[g]? = some (.cells cur 5 (0, 0)) := hg; simp [World.shape?, hg']) l h0 (by omega) (by unfold maxLen at hcm; omega) ?_
    intro j x hx
    rw [addr_add, Nat.zero_add]
    exact hcell j x hx
  have mixed : Try.prog.follows Departure.mixedOrders = true := hE.mix
  go_enter Try.func35, Try.ntmps35
  go_wp2
  go_region_o
  all_goals (go_wp2; go_ret; exact ⟨rfl, frz_at hl0⟩)

theorem cc_fresh (s : AVal) : CallOK Try.prog 78 [.ref 0 0] [.cells tWr [.nilptr, s]] (.ret (.tup [])) [.cells tWr [.ref 0 0, s]] :=
  builder_check (fun _ _ => by rfl) cc_fresh_calls s
theorem str_ok (l : List UInt8) (h0 : l ≠ []) (p : AVal) : CallOK Try.prog 35 [.ref 0 0] [.cells tWr [p, .slice 1 (l.map ub) (.own 1 0)], .tail 0 1 5] (.ret (.str l)) [.dead, .dead] :=
  builder_string (fun _ _ => by rfl) str_calls l h0 p
end Go.Proofs.Ytmodiilfjfmdcaa

namespace Go.Proofs.Ytmodiilfjfmdcaa
open Go Go.AW Go.Proofs

/-- the number that bytes begin with, and how many of them it takes -/
def getR : Nat → Nat → Nat → List UInt8 → Option (Nat × Nat)
  | 0, _, _, _ => none
  | _ + 1, _, _, [] => none
  | f + 1, i, acc, c :: r => if c.toNat < 128 then (if c.toNat = 0 ∧ 0 < i then none else some (acc + (c.toNat % 128) * 2 ^ (7 * i), i + 1)) else getR f (i + 1) (acc + (c.toNat % 128) * 2 ^ (7 * i)) r
def getN (l : List UInt8) : Option (Nat × Nat) := getR 9 0 0 l

def getV : Option (Nat × Nat) → AVal
  | some (n, k) => .tup [.int .i64 n, .int .i64 k, .int .i64 0]
  | none => .tup [.int .i64 0, .int .i64 0, .int .i64 10]

/-- a number's bytes -/
def putN (n : Nat) : List UInt8 := if n < 128 then [UInt8.ofNat n] else UInt8.ofNat (128 + n % 128) :: putN (n / 128)
termination_by n
decreasing_by omega

theorem getR_lt : ∀ (f i acc : Nat) (l : List UInt8) (n k : Nat), i + f = 9 → acc < 2 ^ (7 * i) → getR f i acc l = some (n, k) → n < 2 ^ 63 ∧ i < k ∧ k ≤ 9 ∧ k ≤ i + l.length
  | 0, _, _, _, _, _, _, _, h => by cases h
  | f + 1, i, acc, [], _, _, _, _, h => by cases h
  | f + 1, i, acc, c :: r, n, k, hi, ha, h => by
    have h2 : acc + (c.toNat % 128) * 2 ^ (7 * i) < 2 ^ (7 * (i + 1)) := by
      have h3 : c.toNat % 128 ≤ 127 := by omega
      have h4 : (c.toNat % 128) * 2 ^ (7 * i) ≤ 127 * 2 ^ (7 * i) := Nat.mul_le_mul_right _ h3
      have h5 : 2 ^ (7 * (i + 1)) = 128 * 2 ^ (7 * i) := by rw [Nat.mul_add, Nat.pow_add]; omega
      omega
    simp only [getR] at h
    split at h
    · split at h
      · cases h
      · cases h
        have : 2 ^ (7 * (i + 1)) ≤ 2 ^ 63 := Nat.pow_le_pow_right (by decide) (by omega)
        simp only [List.length_cons]
        omega
    · have := getR_lt f (i + 1) _ r n k (by omega) h2 h
      simp only [List.length_cons]
      omega

/-- what is read is written the same -/
theorem putN_get : ∀ (f i acc : Nat) (l : List UInt8) (n k : Nat), i + f = 9 → acc < 2 ^ (7 * i) → getR f i acc l = some (n, k) → ∃ m, n = acc + m * 2 ^ (7 * i) ∧ putN m = l.take (k - i) ∧ (0 < i → 0 < m)
  | 0, _, _, _, _, _, _, _, h => by cases h
  | f + 1, i, acc, [], _, _, _, _, h => by cases h
  | f + 1, i, acc, c :: r, n, k, hi, ha, h => by
    have h5 : 2 ^ (7 * (i + 1)) = 128 * 2 ^ (7 * i) := by rw [Nat.mul_add, Nat.pow_add]; omega
    simp only [getR] at h
    split at h
    · rename_i hc
      split at h
      · cases h
      · rename_i hz
        cases h
        refine ⟨c.toNat, by rw [Nat.mod_eq_of_lt hc], ?_, fun hi => by omega⟩
        rw [putN, if_pos hc, Nat.add_sub_cancel_left]
        simp
    · rename_i hc
      have h2 : acc + (c.toNat % 128) * 2 ^ (7 * i) < 2 ^ (7 * (i + 1)) := by
        have h3 : c.toNat % 128 ≤ 127 := by omega
        have h4 : (c.toNat % 128) * 2 ^ (7 * i) ≤ 127 * 2 ^ (7 * i) := Nat.mul_le_mul_right _ h3
        omega
      obtain ⟨m, e1, e2, e3⟩ := putN_get f (i + 1) _ r n k (by omega) h2 h
      have hm := e3 (by omega)
      have hk := (getR_lt f (i + 1) _ r n k (by omega) h2 h).2.1
      have hc2 : c.toNat < 256 := c.toNat_lt
      refine ⟨c.toNat % 128 + 128 * m, ?_, ?_, fun _ => by omega⟩
      · rw [e1, h5, Nat.add_mul]
        have : m * (128 * 2 ^ (7 * i)) = 128 * m * 2 ^ (7 * i) := by rw [Nat.mul_left_comm, Nat.mul_assoc]
        omega
      · rw [putN, if_neg (by omega), show (c.toNat % 128 + 128 * m) / 128 = m from by omega, show 128 + (c.toNat % 128 + 128 * m) % 128 = c.toNat from by omega, e2, show k - i = (k - (i + 1)) + 1 from by omega]
        simp

/-- what is written is read as it was -/
theorem getR_put : ∀ (f i acc n : Nat) (s : List UInt8), i + f = 9 → n < 2 ^ (7 * f) → (0 < i → 0 < n) → getR f i acc (putN n ++ s) = some (acc + n * 2 ^ (7 * i), i + (putN n).length)
  | 0, i, acc, n, s, _, hn, h0 => by simp at hn; omega
  | f + 1, i, acc, n, s, hi, hn, h0 => by
    have h5 : 2 ^ (7 * (f + 1)) = 128 * 2 ^ (7 * f) := by rw [Nat.mul_add, Nat.pow_add]; omega
    have h6 : 2 ^ (7 * (i + 1)) = 128 * 2 ^ (7 * i) := by rw [Nat.mul_add, Nat.pow_add]; omega
    rw [putN]
    by_cases h : n < 128
    · have e : (UInt8.ofNat n).toNat = n := by rw [UInt8.toNat_ofNat', Nat.mod_eq_of_lt (by omega)]
      rw [if_pos h]
      simp only [List.cons_append, List.nil_append, getR, e, if_pos h, Nat.mod_eq_of_lt h]
      rw [if_neg (by omega)]
      simp
    · have e : (UInt8.ofNat (128 + n % 128)).toNat = 128 + n % 128 := by rw [UInt8.toNat_ofNat', Nat.mod_eq_of_lt (by omega)]
      rw [if_neg h]
      simp only [List.cons_append, getR, e]
      rw [if_neg (by omega), getR_put f (i + 1) _ (n / 128) s (by omega) (by omega) (fun _ => by omega)]
      have e2 : (128 + n % 128) % 128 = n % 128 := by omega
      rw [e2, h6]
      have e3 : n * 2 ^ (7 * i) = (n % 128) * 2 ^ (7 * i) + n / 128 * (128 * 2 ^ (7 * i)) := by
        rw [← Nat.mul_assoc, ← Nat.add_mul]
        congr 1
        omega
      simp only [List.length_cons, Option.some.injEq, Prod.mk.injEq]
      omega

/-- three numbers -/
def getVecR (l : List UInt8) : Option (Nat × Nat × Nat × Nat) :=
  match getN l with
  | none => none
  | some (a, i) => match getN (l.drop i) with
    | none => none
    | some (b, j) => match getN (l.drop (i + j)) with
      | none => none
      | some (c, k) => some (a, b, c, i + j + k)
def getVecV : Option (Nat × Nat × Nat × Nat) → AVal
  | some (a, b, c, n) => .tup [.agg [.int .i64 a, .int .i64 b, .int .i64 c], .int .i64 n, .int .i64 0]
  | none => .tup [.agg [.int .i64 0, .int .i64 0, .int .i64 0], .int .i64 0, .int .i64 10]

theorem getN_lt {l : List UInt8} {n k : Nat} (h : getN l = some (n, k)) : n < 2 ^ 63 ∧ 0 < k ∧ k ≤ 9 ∧ k ≤ l.length := by
  have := getR_lt 9 0 0 l n k rfl (by decide) h
  omega

/-- bytes, the least first -/
def leN : List UInt8 → Nat
  | [] => 0
  | c :: r => c.toNat + 256 * leN r

theorem leN_lt : ∀ (l : List UInt8), leN l < 2 ^ (8 * l.length)
  | [] => by simp [leN]
  | c :: r => by
    have := leN_lt r
    have h := c.toNat_lt
    simp only [leN, List.length_cons, Nat.mul_add, Nat.pow_add]
    omega

theorem leN_snoc : ∀ (l : List UInt8) (c : UInt8), leN (l ++ [c]) = leN l + c.toNat * 2 ^ (8 * l.length)
  | [], c => by simp [leN]
  | d :: r, c => by
    simp only [List.cons_append, leN, leN_snoc r c, List.length_cons, Nat.mul_add, Nat.pow_add]
    have : c.toNat * (2 ^ (8 * r.length) * 2 ^ (8 * 1)) = 256 * (c.toNat * 2 ^ (8 * r.length)) := by
      rw [← Nat.mul_assoc, Nat.mul_comm]
    omega

theorem take_snoc {l : List UInt8} {i : Nat} {c : UInt8} (h : l[i]? = some c) : l.take (i + 1) = l.take i ++ [c] := by
  rw [List.take_add_one, h]
  rfl

theorem putN_len (n : Nat) : ∀ b, n < 2 ^ (7 * b) → (putN n).length ≤ b + 1 := by
  induction n using Nat.strongRecOn with
  | ind n ih =>
    intro b hb
    rw [putN]
    split
    · simp
    · rename_i h
      cases b with
      | zero => simp at hb; omega
      | succ b =>
        have := ih (n / 128) (by omega) b (by rw [Nat.mul_add, Nat.pow_add] at hb; omega)
        simp only [List.length_cons]
        omega

theorem getN_put (n : Nat) (s : List UInt8) (hn : n < 2 ^ 63) : getN (putN n ++ s) = some (n, (putN n).length) := by
  have := getR_put 9 0 0 n s rfl (by omega) (fun h => by omega)
  simpa [getN] using this

theorem getVecR_put (a b c : Nat) (s : List UInt8) (ha : a < 2 ^ 63) (hb : b < 2 ^ 63) (hc : c < 2 ^ 63) :
    getVecR ((putN a ++ (putN b ++ putN c)) ++ s) = some (a, b, c, (putN a).length + (putN b).length + (putN c).length) := by
  unfold getVecR
  have e0 : (putN a ++ (putN b ++ putN c)) ++ s = putN a ++ (putN b ++ (putN c ++ s)) := by simp
  have e1 : (putN a ++ (putN b ++ (putN c ++ s))).drop (putN a).length = putN b ++ (putN c ++ s) := by simp
  have e2 : (putN a ++ (putN b ++ (putN c ++ s))).drop ((putN a).length + (putN b).length) = putN c ++ s := by rw [← List.drop_drop, e1]; simp
  rw [e0, getN_put a _ ha]
  dsimp only
  rw [e1, getN_put b _ hb]
  dsimp only
  rw [e2, getN_put c _ hc]

end Go.Proofs.Ytmodiilfjfmdcaa

namespace Go.Proofs.Ytmodiilfjfmdcaa
open Go Go.AW Go.Proofs
set_option maxRecDepth 10000

theorem put_loop (n : Nat) : ∀ (acc : List UInt8), acc.length + (putN n).length ≤ 100 → (n : Int) ≤ 9223372036854775807 →
    To (Eo [3] []) Try.f63 (.pure (.ret (.str (acc ++ putN n)))) (.head (stk Try.f63 0) [(0, .int .i64 n), (3, .slice 1 (acc.map ub) (.own 0 0))] [.tail 0 1 5]) := by
  induction n using Nat.strongRecOn with
  | ind n ih =>
    intro acc hlen hn
    have e1 : (n : Int).fdiv (2 ^ Int.toNat 7) = ((n / 128 : Nat) : Int) := by
      rw [Int.fdiv_eq_ediv_of_nonneg _ (by decide)]
      simp
    have e2 := wrap_u8 n
    have hp : 1 ≤ (putN n).length := by rw [putN]; split <;> simp
    have hl : (acc.map ub).length = acc.length := by simp
    refine goes (hEo [3] []) 100 ?_
    conv => whnf
    refine And.intro (fun h => ?_) (fun h => ?_)
    · have h : 127 < n := by
        have := of_decide_eq_true h
        omega
      have e3 : ebits .or .u8 ((n % 256 : Nat) : Int) 128 = ((128 + n % 128 : Nat) : Int) := by
        have := ebits_or .u8 (n % 256) 128 (by simp only [kmax]; omega) (by decide)
        rw [or_128 ⟨n % 256, by omega⟩] at this
        simp only at this
        rw [show n % 256 % 128 = n % 128 from by omega] at this
        exact this
      have hput : putN n = UInt8.ofNat (128 + n % 128) :: putN (n / 128) := by rw [putN, if_neg (by omega)]
      refine goes (hEo [3] []) 100 ?_
      conv => whnf
      refine .inr ?_
      refine goes (hEo [3] []) 100 ?_
      conv => whnf
      refine ⟨⟨by simp only [maxLen]; simp; omega, by simp; omega⟩, ?_⟩
      refine goes (hEo [3] []) 100 ?_
      conv => whnf
      refine ⟨⟨by decide, by decide⟩, ?_⟩
      refine goes (hEo [3] []) 100 ?_
      conv => whnf
      rw [e1, e2, e3]
      refine To.part [0, 3] [0] rfl rfl rfl ?_
      have := ih (n / 128) (by omega) (acc ++ [UInt8.ofNat (128 + n % 128)]) (by rw [hput] at hlen; simp at hlen ⊢; omega) (by omega)
      rw [hput]
      rw [List.append_assoc, List.map_append, List.map_cons, ub_ofNat (by omega)] at this
      exact this
    · have h : ¬ 127 < n := by
        have := of_decide_eq_false h
        omega
      have hput : putN n = [UInt8.ofNat n] := by rw [putN, if_pos (by omega)]
      refine goes (hEo [3] []) 100 ?_
      conv => whnf
      refine .inr ?_
      refine goes (hEo [3] []) 100 ?_
      conv => whnf
      refine ⟨⟨by simp only [maxLen]; simp; omega, by simp; omega⟩, ?_⟩
      refine goes (hEo [3] []) 100 ?_
      conv => whnf
      refine ⟨acc ++ [UInt8.ofNat n], ?_, by simp; omega, ?_⟩
      · rw [e2, Nat.mod_eq_of_lt (by omega), ← ub_ofNat (by omega), List.map_append]
        rfl
      refine goes (hEo [3] []) 100 ?_
      conv => whnf
      rw [hput]

theorem put_ok (n : Int) : CallOK Try.prog 63 [.int .i64 n] [] (.ret (.str (putN n.toNat))) [] := by
  refine CallOK.to (E := (Eo [3] [])) (fn := Try.f63) (g := .pure _) (by rfl) (by rfl) (by rfl) (fun _ _ => by rfl) (by decide +kernel) (by rfl) (by rfl) (by rfl) fun ho => ?_
  have hn : n ≤ 9223372036854775807 := ho.1.2
  have := putN_len n.toNat 9 (by omega)
  have e : max n 0 = (n.toNat : Int) := by omega
  refine goes (hEo [3] []) 100 ?_
  conv => whnf
  rw [e]
  refine To.head [0, 3] ?_
  exact put_loop n.toNat [] (by simpa using (by omega : (putN n.toNat).length ≤ 100)) (by omega)
end Go.Proofs.Ytmodiilfjfmdcaa

namespace Go.Proofs.Ytmodiilfjfmdcaa
open Go Go.AW Go.Proofs
set_option maxRecDepth 10000

def eqL {α : Type} (f : α → α → Bool) : List α → List α → Bool
  | [], [] => true
  | x :: r, y :: s => f x y && eqL f r s
  | _, _ => false
theorem eqL_len {α : Type} {f : α → α → Bool} : ∀ {a b : List α}, a.length ≠ b.length → eqL f a b = false
  | [], [], h => absurd rfl h
  | [], _ :: _, _ => rfl
  | _ :: _, [], _ => rfl
  | x :: r, y :: s, h => by
    have := eqL_len (f := f) (a := r) (b := s) (by simpa using h)
    simp [eqL, this]
theorem eqL_self {α : Type} {f : α → α → Bool} (hf : ∀ x, f x x = true) : ∀ (a : List α), eqL f a a = true
  | [] => rfl
  | x :: r => by simp [eqL, hf x, eqL_self hf r]
theorem eqL_eq {α : Type} {f : α → α → Bool} (hf : ∀ x y, f x y = true → x = y) : ∀ (a b : List α), eqL f a b = true → a = b
  | [], [], _ => rfl
  | [], _ :: _, h => by cases h
  | _ :: _, [], h => by cases h
  | x :: r, y :: s, h => by
    simp only [eqL, Bool.and_eq_true] at h
    rw [hf x y h.1, eqL_eq hf r s h.2]

def Nod.eqb (x y : Nod) : Bool := (x.p == y.p) && ((x.w == y.w) && ((x.n.a == y.n.a) && ((x.n.b == y.n.b) && ((x.n.c == y.n.c) && ((x.b.a == y.b.a) && ((x.b.b == y.b.b) && ((x.b.c == y.b.c) && ((x.l.a == y.l.a) && ((x.l.b == y.l.b) && ((x.l.c == y.l.c) && true))))))))))
def Hos.eqb (x y : Hos) : Bool := (x.f == y.f) && ((x.b == y.b) && ((x.r == y.r) && ((x.c.a == y.c.a) && ((x.c.b == y.c.b) && ((x.c.c == y.c.c) && true)))))
def Gan.eqb (x y : Gan) : Bool := (x.id == y.id) && ((x.ten == y.ten) && ((x.pods == y.pods) && ((x.need.a == y.need.a) && ((x.need.b == y.need.b) && ((x.need.c == y.need.c) && ((x.run == y.run) && ((x.lev == y.lev) && ((x.pref == y.pref) && true))))))))
theorem Nod.eqb_eq {x y : Nod} : x.eqb y = true ↔ x = y := by
  obtain ⟨_, _, ⟨_, _, _⟩, ⟨_, _, _⟩, ⟨_, _, _⟩⟩ := x
  obtain ⟨_, _, ⟨_, _, _⟩, ⟨_, _, _⟩, ⟨_, _, _⟩⟩ := y
  simp [Nod.eqb, and_assoc]
theorem Hos.eqb_eq {x y : Hos} : x.eqb y = true ↔ x = y := by
  obtain ⟨_, _, _, ⟨_, _, _⟩⟩ := x
  obtain ⟨_, _, _, ⟨_, _, _⟩⟩ := y
  simp [Hos.eqb]
theorem Gan.eqb_eq {x y : Gan} : x.eqb y = true ↔ x = y := by
  obtain ⟨_, _, _, ⟨_, _, _⟩, _, _, _⟩ := x
  obtain ⟨_, _, _, ⟨_, _, _⟩, _, _, _⟩ := y
  simp [Gan.eqb, and_assoc]
theorem eqN_loop (a b : List Nod) (hab : a.length = b.length) (hl : ((nav a).length : Int) ≤ 9223372036854775807) (r : Bool) : ∀ (n i : Nat), i + n = a.length → eqL Nod.eqb (a.drop i) (b.drop i) = r →
    To E Try.f55 (.pure (.ret (.bool r))) (.head (stk Try.f55 0) [(0, .slice 11 (nav a) .no), (1, .slice 11 (nav b) .no), (12, .int .i64 ((nav a).length : Nat)), (13, .int .i64 i)] []) := by
  have hlen : (nav a).length = a.length := by simp
  intro n
  induction n with
  | zero =>
    intro i hi hr
    rw [List.drop_eq_nil_of_le (by omega), List.drop_eq_nil_of_le (by omega)] at hr
    subst hr
    refine goes hE 100 ?_
    conv => whnf
    refine And.intro (fun h => absurd (of_decide_eq_true h) (by omega)) (fun h => ?_)
    refine goes hE 100 ?_
    conv => whnf
    rfl
  | succ n ih =>
    intro i hi hr
    have h1 : i < a.length := by omega
    have h2 : i < b.length := by omega
    rw [List.drop_eq_getElem_cons h1, List.drop_eq_getElem_cons h2] at hr
    have hr : (Nod.eqb a[i] b[i] && eqL Nod.eqb (a.drop (i + 1)) (b.drop (i + 1))) = r := hr
    generalize hx : a[i] = x at hr
    generalize hy : b[i] = y at hr
    have ga : (nav a)[i]? = some (Nod.av x) := by simp [hx, h1]
    have gb : (nav b)[i]? = some (Nod.av y) := by simp [hy, h2]
    refine goes hE 100 ?_
    conv => whnf
    refine And.intro (fun h => ?_) (fun h => absurd (of_decide_eq_false h) (by omega))
    repeat' first
      | (refine goN hE 100 rfl ?_; conv => whnf)
      | refine Exists.intro _ (And.intro ga ?_)
      | refine Exists.intro _ (And.intro gb ?_)
      | exact rfl
      | refine And.intro (fun _ => ?_) (fun h => absurd (show true = false from h) (by decide))
      | refine And.intro (fun h => absurd (show false = true from h) (by decide)) (fun _ => ?_)
      | refine And.intro (fun h => ?_) (fun h => absurd (of_decide_eq_false h) (by omega))
      | refine And.intro (fun h => absurd (of_decide_eq_true h) (by omega)) (fun h => ?_)
      | refine And.intro (fun h => ?_) (fun h => ?_)
      | refine Or.inl (And.intro (And.intro (by simp only [kmin]; omega) (by simp only [kmax]; omega)) ?_)
      | refine Exists.intro _ (And.intro rfl ?_)
      | refine And.intro (by decide) ?_
      | refine And.intro (by omega) ?_
    · rename_i h
      have h : Nod.eqb x y = false := not_t h
      rw [h] at hr
      rw [← hr]; rfl
    · rename_i h
      have h : Nod.eqb x y = true := not_f h
      rw [h, Bool.true_and] at hr
      refine To.head [0, 1, 12, 13] ?_
      exact ih (i + 1) (by omega) hr
theorem eqN_ok (a b : List Nod) : CallOK Try.prog 55 [.slice 11 (nav a) .no, .slice 11 (nav b) .no] [] (.ret (.bool (eqL Nod.eqb a b))) [] := by
  have hla : (nav a).length = a.length := by simp
  have hlb : (nav b).length = b.length := by simp
  refine CallOK.to (E := E) (fn := Try.f55) (g := .pure _) (by rfl) (by rfl) (by rfl) (fun _ _ => by rfl) (by decide +kernel) (by rfl) (by rfl) (by rfl) fun ho => ?_
  have hl : ((nav a).length : Int) ≤ 9223372036854775807 := ho.1
  refine goes hE 100 ?_
  conv => whnf
  refine And.intro (fun h => ?_) (fun h => ?_)
  · have h : (((nav a).length : Int) != ((nav b).length : Int)) = true := h
    rw [eqL_len (by intro e; rw [hla, hlb, e] at h; simp at h)]
    refine goes hE 100 ?_
    conv => whnf
  · have h : (((nav a).length : Int) != ((nav b).length : Int)) = false := h
    refine goes hE 100 ?_
    conv => whnf
    refine To.head [0, 1, 12, 13] ?_
    exact eqN_loop a b (by simp at h; omega) hl _ a.length 0 (by omega) rfl

theorem eqH_loop (a b : List Hos) (hab : a.length = b.length) (hl : ((hav a).length : Int) ≤ 9223372036854775807) (r : Bool) : ∀ (n i : Nat), i + n = a.length → eqL Hos.eqb (a.drop i) (b.drop i) = r →
    To E Try.f56 (.pure (.ret (.bool r))) (.head (stk Try.f56 0) [(0, .slice 6 (hav a) .no), (1, .slice 6 (hav b) .no), (12, .int .i64 ((hav a).length : Nat)), (13, .int .i64 i)] []) := by
  have hlen : (hav a).length = a.length := by simp
  intro n
  induction n with
  | zero =>
    intro i hi hr
    rw [List.drop_eq_nil_of_le (by omega), List.drop_eq_nil_of_le (by omega)] at hr
    subst hr
    refine goes hE 100 ?_
    conv => whnf
    refine And.intro (fun h => absurd (of_decide_eq_true h) (by omega)) (fun h => ?_)
    refine goes hE 100 ?_
    conv => whnf
    rfl
  | succ n ih =>
    intro i hi hr
    have h1 : i < a.length := by omega
    have h2 : i < b.length := by omega
    rw [List.drop_eq_getElem_cons h1, List.drop_eq_getElem_cons h2] at hr
    have hr : (Hos.eqb a[i] b[i] && eqL Hos.eqb (a.drop (i + 1)) (b.drop (i + 1))) = r := hr
    generalize hx : a[i] = x at hr
    generalize hy : b[i] = y at hr
    have ga : (hav a)[i]? = some (Hos.av x) := by simp [hx, h1]
    have gb : (hav b)[i]? = some (Hos.av y) := by simp [hy, h2]
    refine goes hE 100 ?_
    conv => whnf
    refine And.intro (fun h => ?_) (fun h => absurd (of_decide_eq_false h) (by omega))
    repeat' first
      | (refine goN hE 100 rfl ?_; conv => whnf)
      | refine Exists.intro _ (And.intro ga ?_)
      | refine Exists.intro _ (And.intro gb ?_)
      | exact rfl
      | refine And.intro (fun _ => ?_) (fun h => absurd (show true = false from h) (by decide))
      | refine And.intro (fun h => absurd (show false = true from h) (by decide)) (fun _ => ?_)
      | refine And.intro (fun h => ?_) (fun h => absurd (of_decide_eq_false h) (by omega))
      | refine And.intro (fun h => absurd (of_decide_eq_true h) (by omega)) (fun h => ?_)
      | refine And.intro (fun h => ?_) (fun h => ?_)
      | refine Or.inl (And.intro (And.intro (by simp only [kmin]; omega) (by simp only [kmax]; omega)) ?_)
      | refine Exists.intro _ (And.intro rfl ?_)
      | refine And.intro (by decide) ?_
      | refine And.intro (by omega) ?_
    · rename_i h
      have h : Hos.eqb x y = false := not_t h
      rw [h] at hr
      rw [← hr]; rfl
    · rename_i h
      have h : Hos.eqb x y = true := not_f h
      rw [h, Bool.true_and] at hr
      refine To.head [0, 1, 12, 13] ?_
      exact ih (i + 1) (by omega) hr
theorem eqH_ok (a b : List Hos) : CallOK Try.prog 56 [.slice 6 (hav a) .no, .slice 6 (hav b) .no] [] (.ret (.bool (eqL Hos.eqb a b))) [] := by
  have hla : (hav a).length = a.length := by simp
  have hlb : (hav b).length = b.length := by simp
  refine CallOK.to (E := E) (fn := Try.f56) (g := .pure _) (by rfl) (by rfl) (by rfl) (fun _ _ => by rfl) (by decide +kernel) (by rfl) (by rfl) (by rfl) fun ho => ?_
  have hl : ((hav a).length : Int) ≤ 9223372036854775807 := ho.1
  refine goes hE 100 ?_
  conv => whnf
  refine And.intro (fun h => ?_) (fun h => ?_)
  · have h : (((hav a).length : Int) != ((hav b).length : Int)) = true := h
    rw [eqL_len (by intro e; rw [hla, hlb, e] at h; simp at h)]
    refine goes hE 100 ?_
    conv => whnf
  · have h : (((hav a).length : Int) != ((hav b).length : Int)) = false := h
    refine goes hE 100 ?_
    conv => whnf
    refine To.head [0, 1, 12, 13] ?_
    exact eqH_loop a b (by simp at h; omega) hl _ a.length 0 (by omega) rfl

end Go.Proofs.Ytmodiilfjfmdcaa

namespace Go.Proofs.Ytmodiilfjfmdcaa
open Go Go.AW Go.Proofs
set_option maxRecDepth 10000

theorem rput_loop (n : Nat) : ∀ (acc : List UInt8), acc.length + (putN n).length ≤ 100 → (n : Int) ≤ 9223372036854775807 →
    To E Try.f65 (.pure (.ret (.str (acc ++ putN n)))) (.head (stk Try.f65 0) [(0, .int .i64 n), (3, .str acc)] []) := by
  induction n using Nat.strongRecOn with
  | ind n ih =>
    intro acc hlen hn
    have hp : 1 ≤ (putN n).length := by rw [putN]; split <;> simp
    refine goes hE 100 ?_
    conv => whnf
    refine And.intro (fun h => ?_) (fun h => ?_)
    · have h : 127 < n := by
        have := of_decide_eq_true h
        omega
      have hput : putN n = UInt8.ofNat (128 + n % 128) :: putN (n / 128) := by rw [putN, if_neg (by omega)]
      have e1 : (128 : Int) + Int.tmod (n : Int) 128 = ((128 + n % 128 : Nat) : Int) := by
        rw [Int.tmod_eq_emod_of_nonneg (by omega)]
        omega
      have e2 : Int.tdiv (n : Int) 128 = ((n / 128 : Nat) : Int) := by
        rw [Int.tdiv_eq_ediv_of_nonneg (by omega)]
        omega
      refine goes hE 100 ?_
      conv => whnf
      refine ⟨by decide, ?_⟩
      refine goes hE 100 ?_
      conv => whnf
      refine .inl ⟨by rw [e1]; exact inR_nat (by simp only [kmax]; omega), ?_⟩
      refine goes hE 100 ?_
      conv => whnf
      refine .inl ⟨by rw [e1]; exact inR_nat (by simp only [kmax]; omega), ?_⟩
      refine goes hE 100 ?_
      conv => whnf
      refine ⟨[UInt8.ofNat (128 + n % 128)], ?_, by simp, ?_⟩
      · rw [e1, ← ub_ofNat (by omega)]
        rfl
      refine goes hE 100 ?_
      conv => whnf
      refine ⟨by simp; omega, ?_⟩
      refine goes hE 100 ?_
      conv => whnf
      refine ⟨by decide, ?_⟩
      refine goes hE 100 ?_
      conv => whnf
      refine .inl ⟨by rw [e2]; exact inR_nat (by simp only [kmax]; omega), ?_⟩
      refine goes hE 100 ?_
      conv => whnf
      rw [e2]
      refine To.head [0, 3] ?_
      have := ih (n / 128) (by omega) (acc ++ [UInt8.ofNat (128 + n % 128)]) (by rw [hput] at hlen; simp at hlen ⊢; omega) (by omega)
      rw [hput]
      rw [List.append_assoc] at this
      exact this
    · have h : ¬ 127 < n := by
        have := of_decide_eq_false h
        omega
      have hput : putN n = [UInt8.ofNat n] := by rw [putN, if_pos (by omega)]
      refine goes hE 100 ?_
      conv => whnf
      refine .inl ⟨inR_nat (by simp only [kmax]; omega), ?_⟩
      refine goes hE 100 ?_
      conv => whnf
      refine ⟨[UInt8.ofNat n], ?_, by simp, ?_⟩
      · rw [List.map_cons, ub_ofNat (by omega)]
        rfl
      refine goes hE 100 ?_
      conv => whnf
      refine ⟨by simp; omega, ?_⟩
      refine goes hE 100 ?_
      conv => whnf
      rw [hput]

theorem rput_ok (n : Int) : CallOK Try.prog 65 [.int .i64 n] [] (.ret (.str (putN n.toNat))) [] := by
  refine CallOK.to (E := E) (fn := Try.f65) (g := .pure _) (by rfl) (by rfl) (by rfl) (fun _ _ => by rfl) (by decide +kernel) (by rfl) (by rfl) (by rfl) fun ho => ?_
  have hn : n ≤ 9223372036854775807 := ho.1.2
  have := putN_len n.toNat 9 (by omega)
  have e : max n 0 = (n.toNat : Int) := by omega
  refine goes hE 100 ?_
  conv => whnf
  rw [e]
  refine To.head [0, 3] ?_
  exact rput_loop n.toNat [] (by simpa using (by omega : (putN n.toNat).length ≤ 100)) (by omega)

/- ---------- numbers, one behind the other ---------- -/
def pl : List Int → List UInt8
  | [] => []
  | n :: r => putN n.toNat ++ pl r
theorem pl_append (a b : List Int) : pl (a ++ b) = pl a ++ pl b := by
  induction a with
  | nil => rfl
  | cons n r ih => simp [pl, ih]
theorem pn_len {n : Int} (h : n ≤ 9223372036854775807) : (putN n.toNat).length ≤ 10 := by
  have := putN_len n.toNat 9 (by omega)
  omega
theorem pl_len : ∀ {l : List Int}, (∀ n ∈ l, n ≤ 9223372036854775807) → (pl l).length ≤ 10 * l.length
  | [], _ => by simp [pl]
  | n :: r, h => by
    have h1 := pn_len (h n (by simp))
    have h2 := pl_len (l := r) fun m hm => h m (by simp [hm])
    simp only [pl, List.length_append, List.length_cons]
    omega
theorem in40_b {n : Int} (h : in40 n = true) : 0 ≤ n ∧ n ≤ 1099511627776 := by
  simpa [in40] using h
theorem okI_b : ∀ {l : List Int}, okI l = true → ∀ n ∈ l, 0 ≤ n ∧ n ≤ 1099511627776
  | [], _, n, hn => by cases hn
  | x :: r, h, n, hn => by
    simp only [okI, Bool.and_eq_true] at h
    rcases List.mem_cons.1 hn with rfl | hn
    · exact in40_b h.1
    · exact okI_b h.2 n hn

def Gan.il (g : Gan) : List Int := [g.id, g.ten, g.pods, g.need.a, g.need.b, g.need.c, g.run, g.lev, g.pref]
def Nod.il (x : Nod) : List Int := [x.p + 1, x.w, x.n.a, x.n.b, x.n.c, x.b.a, x.b.b, x.b.c, x.l.a, x.l.b, x.l.c]
def Hos.il (x : Hos) : List Int := [x.f, x.b, x.r, x.c.a, x.c.b, x.c.c]
def nodL : List Nod → List Int
  | [] => []
  | x :: r => x.il ++ nodL r
def hosL : List Hos → List Int
  | [] => []
  | x :: r => x.il ++ hosL r
def Con.il (c : Con) : List Int := [((nav c.ns).length : Int)] ++ nodL c.ns ++ ([((hav c.hs).length : Int)] ++ hosL c.hs ++ [c.half, c.age])
def Cmd.il (x : Cmd) : List Int := x.k :: (if x.k == 1 then x.c.il else if x.k == 2 then x.g.il else if x.k == 6 then [] else [x.n])

theorem v3_b {v : V3} (h : okI v.l = true) : (0 ≤ v.a ∧ v.a ≤ 1099511627776) ∧ (0 ≤ v.b ∧ v.b ≤ 1099511627776) ∧ (0 ≤ v.c ∧ v.c ≤ 1099511627776) :=
  ⟨okI_b h _ (by simp [V3.l]), okI_b h _ (by simp [V3.l]), okI_b h _ (by simp [V3.l])⟩

theorem rvec_ok (v : V3) (h : okI v.l = true) : CallOK Try.prog 66 [.agg v.cs] [] (.ret (.str (pl v.l))) [] := by
  obtain ⟨h1, h2, h3⟩ := v3_b h
  have b1 := pn_len (n := v.a) (by omega)
  have b2 := pn_len (n := v.b) (by omega)
  have b3 := pn_len (n := v.c) (by omega)
  refine CallOK.to (E := E) (fn := Try.f66) (g := .pure _) (by rfl) (by rfl) (by rfl) (fun _ _ => by rfl) (by decide +kernel) (by rfl) (by rfl) (by rfl) fun _ => ?_
  repeat' first
    | (refine goN hE 100 rfl ?_; conv => whnf)
    | refine .pure _ [] (rput_ok _) ?_
    | refine And.intro (by simp only [List.length_append]; omega) ?_
    | exact rfl
    | refine And.intro (fun _ => ?_) (fun h => absurd (show true = false from h) (by decide))
    | refine And.intro (fun h => absurd (show false = true from h) (by decide)) (fun _ => ?_)
    | refine And.intro (fun h => ?_) (fun h => absurd (of_decide_eq_false h) (by omega))
    | refine And.intro (fun h => absurd (of_decide_eq_true h) (by omega)) (fun h => ?_)
    | refine And.intro (fun h => ?_) (fun h => ?_)
    | refine Or.inl (And.intro (And.intro (by simp only [kmin]; omega) (by simp only [kmax]; omega)) ?_)
    | refine Exists.intro _ (And.intro rfl ?_)
    | refine And.intro (by decide) ?_
    | refine And.intro (by omega) ?_
  simp [pl, V3.l]
end Go.Proofs.Ytmodiilfjfmdcaa

namespace Go.Proofs.Ytmodiilfjfmdcaa
open Go Go.AW Go.Proofs
set_option maxRecDepth 10000

abbrev wrO (bs : List UInt8) (g : Nat) : List AObj := [.cells tWr [.ref 0 0, .slice 1 (bs.map ub) (.own 1 g)], .tail g 1 5]
theorem cc_used (xs : List AVal) : CallOK Try.prog 78 [.ref 0 0] [.cells tWr [.ref 0 0, .slice 1 xs (.own 1 0)], .tail 0 1 5] (.ret (.tup [])) [.cells tWr [.ref 0 0, .slice 1 xs (.own 1 0)], .tail 0 1 5] := by
  refine CallOK.to (E := E) (fn := Try.f78) (g := .full 2 _ _) (by rfl) (by rfl) (by rfl) (fun _ _ => by rfl) (by decide +kernel) (by rfl) (by rfl) (by rfl) fun _ => ?_
  repeat' first
    | (refine goN hE 100 rfl ?_; conv => whnf)
    | exact rfl
    | refine And.intro (fun _ => ?_) (fun h => absurd (show true = false from h) (by decide))
    | refine And.intro (fun h => absurd (show false = true from h) (by decide)) (fun _ => ?_)
    | refine And.intro (fun h => ?_) (fun h => absurd (of_decide_eq_false h) (by omega))
    | refine And.intro (fun h => absurd (of_decide_eq_true h) (by omega)) (fun h => ?_)
    | refine And.intro (fun h => ?_) (fun h => ?_)
    | refine Or.inl (And.intro (And.intro (by simp only [kmin]; omega) (by simp only [kmax]; omega)) ?_)
    | refine Exists.intro _ (And.intro rfl ?_)
    | refine And.intro (by decide) ?_
    | refine And.intro (by omega) ?_
  exact ⟨[], [0, 1], ⟨rfl, rfl⟩, rfl, rfl⟩
theorem ws_fresh (s : List UInt8) (hs : s.length ≤ 1000) : CallOK Try.prog 62 [.ref 0 0, .str s] [.cells tWr [.nilptr, .slice 1 [] .nil]] (.ret (.tup [ii s.length, .nilif])) (wrO s 0) := by
  refine CallOK.to (E := (Eo [14] [])) (fn := Try.f62) (g := .full 1 _ _) (by rfl) (by rfl) (by rfl) (fun _ _ => by rfl) (by decide +kernel) (by rfl) (by rfl) (by rfl) fun _ => ?_
  refine goes (hEo [14] []) 100 ?_
  conv => whnf
  refine .eff [] [0] _ _ rfl (cc_fresh _) ?_
  refine goes (hEo [14] []) 100 ?_
  conv => whnf
  refine ⟨⟨by simp only [maxLen]; simp; omega, by simp; omega⟩, ?_⟩
  refine goes (hEo [14] []) 100 ?_
  conv => whnf
  exact ⟨[], [0, 1], ⟨rfl, rfl⟩, rfl, rfl⟩
theorem ws_ok (bs s : List UInt8) (hs : bs.length + s.length ≤ 1000000) : CallOK Try.prog 62 [.ref 0 0, .str s] (wrO bs 0) (.ret (.tup [ii s.length, .nilif])) (wrO (bs ++ s) 1) := by
  refine CallOK.to (E := (Eo [14] [])) (fn := Try.f62) (g := .full 2 _ _) (by rfl) (by rfl) (by rfl) (fun _ _ => by rfl) (by decide +kernel) (by rfl) (by rfl) (by rfl) fun _ => ?_
  refine goes (hEo [14] []) 100 ?_
  conv => whnf
  refine .eff [] [0, 1] _ _ rfl (cc_used _) ?_
  refine goes (hEo [14] []) 100 ?_
  conv => whnf
  refine ⟨⟨by simp only [maxLen]; simp; omega, by simp; omega⟩, ?_⟩
  refine goes (hEo [14] []) 100 ?_
  conv => whnf
  refine ⟨[], [0, 1], ⟨rfl, rfl⟩, ?_⟩
  conv => whnf
  refine ⟨rfl, ?_⟩
  rw [List.map_append]
  rfl

/- ---------- nums ---------- -/
noncomputable abbrev fNums : Func := Try.f32
theorem nums_loop (l : List Int) (hl : ((iv l).length : Int) ≤ 9223372036854775807) (hb : ∀ n ∈ l, n ≤ 9223372036854775807) (B : List UInt8) (g0 : Nat) (hlen : 10 * l.length ≤ 1000) : ∀ (n i g : Nat) (bs : List UInt8), i + n = l.length → (g = 0 ∨ g = 1) → (n = 0 → g = g0) → (0 < n → g0 = 1) → bs.length + 10 * n ≤ 100000 → bs ++ pl (l.drop i) = B →
    To E fNums (.full 2 (.ret (.tup [])) (wrO B g0)) (.head (stk fNums 0) [(0, .ref 0 0), (6, .slice 1 (iv l) .no), (7, .int .i64 ((iv l).length : Nat)), (8, .int .i64 i)] (wrO bs g)) := by
  have hln : (iv l).length = l.length := by simp
  intro n
  induction n with
  | zero =>
    intro i g bs hi hg hg0 _ hbl hB
    have e := hg0 rfl
    subst e
    rw [List.drop_eq_nil_of_le (by omega)] at hB
    have hB : bs ++ [] = B := hB
    rw [List.append_nil] at hB
    subst hB
    refine goes hE 100 ?_
    conv => whnf
    refine And.intro (fun h => absurd (of_decide_eq_true h) (by omega)) (fun h => ?_)
    refine goes hE 100 ?_
    conv => whnf
    refine ⟨[], [0, 1], ⟨rfl, rfl⟩, ?_⟩
    rcases hg with rfl | rfl
    · exact ⟨rfl, rfl⟩
    · exact ⟨rfl, rfl⟩
  | succ n ih =>
    intro i g bs hi hg _ hg1 hbl hB
    have e1 := hg1 (by omega)
    subst e1
    have hlt : i < l.length := by omega
    rw [List.drop_eq_getElem_cons hlt] at hB
    have hbx := hb l[i] (List.getElem_mem hlt)
    generalize hx : l[i] = x at hB hbx
    have hB : bs ++ (putN x.toNat ++ pl (l.drop (i + 1))) = B := hB
    rw [← List.append_assoc] at hB
    have get : (iv l)[i]? = some (ii x) := (iv_get hlt).trans (by rw [hx])
    have hp := pn_len hbx
    refine goes hE 100 ?_
    conv => whnf
    refine And.intro (fun h => ?_) (fun h => absurd (of_decide_eq_false h) (by omega))
    refine goes hE 100 ?_
    conv => whnf
    refine ⟨i, rfl, ?_⟩
    refine goes hE 100 ?_
    conv => whnf
    refine ⟨_, get, ?_⟩
    refine goes hE 100 ?_
    conv => whnf
    refine .pure _ [] (put_ok x) ?_
    refine goes hE 100 ?_
    conv => whnf
    have next := ih (i + 1) 1 (bs ++ putN x.toNat) (by omega) (.inr rfl) (fun _ => rfl) (fun _ => rfl) (by simp; omega) hB
    rcases hg with rfl | rfl
    · refine .sole rfl (.eff [] [0, 1] _ _ rfl (ws_ok bs _ (by omega)) ?_)
      refine goes hE 100 ?_
      conv => whnf
      refine Or.inl (And.intro (And.intro (by simp only [kmin]; omega) (by simp only [kmax]; omega)) ?_)
      refine goes hE 100 ?_
      conv => whnf
      refine To.part [0, 6, 7, 8] [0, 1] rfl rfl rfl ?_
      exact next
    · refine .sole rfl (.eff [] [0, 1] _ _ rfl (ws_ok bs _ (by omega)) ?_)
      refine goes hE 100 ?_
      conv => whnf
      refine Or.inl (And.intro (And.intro (by simp only [kmin]; omega) (by simp only [kmax]; omega)) ?_)
      refine goes hE 100 ?_
      conv => whnf
      refine To.part [0, 6, 7, 8] [0, 1] rfl rfl rfl ?_
      exact next
theorem nums_ok (l : List Int) (h0 : l ≠ []) (hb : ∀ n ∈ l, n ≤ 9223372036854775807) (hlen : l.length ≤ 100) (bs : List UInt8) (hbs : bs.length + 10 * l.length ≤ 100000) :
    CallOK Try.prog 32 [.ref 0 0, .slice 1 (iv l) .no] (wrO bs 0) (.ret (.tup [])) (wrO (bs ++ pl l) 1) := by
  have hln : (iv l).length = l.length := by simp
  have hpos : 0 < l.length := List.length_pos_iff.2 h0
  refine CallOK.to (E := E) (fn := Try.f32) (g := .full 2 _ _) (by rfl) (by rfl) (by rfl) (fun _ _ => by rfl) (by decide +kernel) (by rfl) (by rfl) (by rfl) fun _ => ?_
  refine goes hE 100 ?_
  conv => whnf
  refine To.part [0, 6, 7, 8] [0, 1] rfl rfl rfl ?_
  exact nums_loop l (by omega) hb _ 1 (by omega) l.length 0 0 bs (by omega) (.inl rfl) (fun h => by omega) (fun _ => rfl) (by omega) rfl
end Go.Proofs.Ytmodiilfjfmdcaa

namespace Go.Proofs.Ytmodiilfjfmdcaa
open Go Go.AW Go.Proofs
set_option maxRecDepth 10000

theorem nums_fresh (k : Int) (hk : k ≤ 9223372036854775807) : CallOK Try.prog 32 [.ref 0 0, .slice 1 [ii k] .no] [.cells tWr [.nilptr, .slice 1 [] .nil]] (.ret (.tup [])) (wrO (putN k.toNat) 0) := by
  have hp := pn_len hk
  refine CallOK.to (E := E) (fn := Try.f32) (g := .full 1 _ _) (by rfl) (by rfl) (by rfl) (fun _ _ => by rfl) (by decide +kernel) (by rfl) (by rfl) (by rfl) fun _ => ?_
  refine goes hE 100 ?_
  conv => whnf
  refine goes hE 100 ?_
  conv => whnf
  refine And.intro (fun _ => ?_) (fun h => absurd (of_decide_eq_false h) (by simp))
  refine goes hE 100 ?_
  conv => whnf
  refine ⟨0, rfl, ?_⟩
  refine goes hE 100 ?_
  conv => whnf
  refine ⟨_, rfl, ?_⟩
  refine goes hE 100 ?_
  conv => whnf
  refine .pure _ [] (put_ok k) ?_
  refine goes hE 100 ?_
  conv => whnf
  refine .sole rfl (.eff [] [0] _ _ rfl (ws_fresh _ (by omega)) ?_)
  refine goes hE 100 ?_
  conv => whnf
  refine Or.inl (And.intro (And.intro (by simp only [kmin]; omega) (by simp only [kmax]; omega)) ?_)
  refine goes hE 100 ?_
  conv => whnf
  refine goes hE 100 ?_
  conv => whnf
  refine And.intro (fun h => absurd (of_decide_eq_true h) (by simp)) (fun _ => ?_)
  refine goes hE 100 ?_
  conv => whnf
  refine ⟨[], [0, 1], ⟨rfl, rfl⟩, ?_⟩
  exact ⟨rfl, rfl⟩

theorem v3_m {v : V3} (h : okI v.l = true) : ∀ n ∈ v.l, n ≤ 9223372036854775807 := fun n hn => by
  have := okI_b h n hn
  omega
theorem l3_m {a b c : Int} (h : okI [a, b, c] = true) : ∀ n ∈ [a, b, c], n ≤ 9223372036854775807 := fun n hn => by
  have := okI_b h n hn
  omega
theorem wvec_ok (v : V3) (h : okI v.l = true) (bs : List UInt8) (hbs : bs.length ≤ 90000) : CallOK Try.prog 64 [.ref 0 0, .agg v.cs] (wrO bs 0) (.ret (.tup [])) (wrO (bs ++ pl v.l) 1) := by
  refine CallOK.to (E := E) (fn := Try.f64) (g := .full 2 _ _) (by rfl) (by rfl) (by rfl) (fun _ _ => by rfl) (by decide +kernel) (by rfl) (by rfl) (by rfl) fun _ => ?_
  refine goes hE 100 ?_
  conv => whnf
  refine ⟨by decide, ?_⟩
  refine goes hE 100 ?_
  conv => whnf
  refine .eff [2] [0, 1] _ _ rfl (CallOK.strip (nums_ok v.l (by simp [V3.l]) (v3_m h) (by simp [V3.l]) bs (by simp [V3.l]; omega))) ?_
  refine goes hE 100 ?_
  conv => whnf
  refine ⟨[], [0, 1], ⟨rfl, rfl⟩, ?_⟩
  exact ⟨rfl, rfl⟩

theorem gan_b {g : Gan} (h : g.ok = true) : okI [g.id, g.ten, g.pods] = true ∧ okI g.need.l = true ∧ okI [g.run, g.lev, g.pref] = true := by
  simp only [Gan.ok, okI, Bool.and_eq_true, Bool.and_true] at h ⊢
  obtain ⟨⟨h1, h2, h3, h4, h5, h6⟩, h7⟩ := h
  exact ⟨⟨h1, h2, h3⟩, h7, h4, h5, h6⟩
theorem wgang_ok (g : Gan) (h : g.ok = true) (bs : List UInt8) (hbs : bs.length ≤ 80000) : CallOK Try.prog 34 [.ref 0 0, g.av] (wrO bs 0) (.ret (.tup [])) (wrO (bs ++ pl g.il) 1) := by
  obtain ⟨h1, h2, h3⟩ := gan_b h
  have l1 := pl_len (l3_m h1)
  have l2 := pl_len (v3_m h2)
  have e : bs ++ pl g.il = ((bs ++ pl [g.id, g.ten, g.pods]) ++ pl g.need.l) ++ pl [g.run, g.lev, g.pref] := by
    rw [List.append_assoc, List.append_assoc, ← pl_append, ← pl_append]; rfl
  rw [e]
  simp only [V3.l, List.length_cons, List.length_nil] at l1 l2
  refine CallOK.to (E := E) (fn := Try.f34) (g := .full 2 _ _) (by rfl) (by rfl) (by rfl) (fun _ _ => by rfl) (by decide +kernel) (by rfl) (by rfl) (by rfl) fun _ => ?_
  refine goes hE 100 ?_
  conv => whnf
  refine .eff [] [0, 1] _ _ rfl (CallOK.strip (nums_ok [g.id, g.ten, g.pods] (by simp) (l3_m h1) (by simp) bs (by simp; omega))) ?_
  refine goes hE 100 ?_
  conv => whnf
  refine .eff [] [0, 1] _ _ rfl (wvec_ok g.need h2 _ (by simp; omega)) ?_
  refine goes hE 100 ?_
  conv => whnf
  refine .eff [] [0, 1] _ _ rfl (CallOK.strip (nums_ok [g.run, g.lev, g.pref] (by simp) (l3_m h3) (by simp) _ (by simp [V3.l]; omega))) ?_
  refine goes hE 100 ?_
  conv => whnf
  refine ⟨[], [0, 1], ⟨rfl, rfl⟩, ?_⟩
  exact ⟨rfl, rfl⟩

/- ---------- a config ---------- -/
noncomputable abbrev fConf : Func := Try.f33
theorem nod_b {x : Nod} (h : x.ok = true) : (-1 ≤ x.p ∧ x.p ≤ 1099511627776) ∧ (0 ≤ x.w ∧ x.w ≤ 1099511627776) ∧ okI x.n.l = true ∧ okI x.b.l = true ∧ okI x.l.l = true := by
  simp only [Nod.ok, Bool.and_eq_true, decide_eq_true_eq] at h
  obtain ⟨⟨⟨⟨h1, h2⟩, h3⟩, h4⟩, h5⟩ := h
  exact ⟨h1, okI_b h2 _ (by simp), h3, h4, h5⟩
theorem hos_b {x : Hos} (h : x.ok = true) : okI [x.f, x.b, x.r] = true ∧ okI x.c.l = true := by
  simpa only [Hos.ok, Bool.and_eq_true] using h
theorem allN_at {l : List Nod} (h : allN l = true) : ∀ (i : Nat) (hi : i < l.length), l[i].ok = true := by
  induction l with
  | nil => intro i hi; simp at hi
  | cons x r ih =>
    simp only [allN, Bool.and_eq_true] at h
    intro i hi
    cases i with
    | zero => exact h.1
    | succ i => exact ih h.2 i (by simpa using hi)
theorem allH_at {l : List Hos} (h : allH l = true) : ∀ (i : Nat) (hi : i < l.length), l[i].ok = true := by
  induction l with
  | nil => intro i hi; simp at hi
  | cons x r ih =>
    simp only [allH, Bool.and_eq_true] at h
    intro i hi
    cases i with
    | zero => exact h.1
    | succ i => exact ih h.2 i (by simpa using hi)
theorem il_len (x : Nod) (h : x.ok = true) : (pl x.il).length ≤ 110 := by
  obtain ⟨h1, h2, h3, h4, h5⟩ := nod_b h
  have := pl_len (l := x.il) (fun n hn => by
    simp only [Nod.il, List.mem_cons, List.not_mem_nil, or_false] at hn
    have a1 := v3_b h3
    have a2 := v3_b h4
    have a3 := v3_b h5
    rcases hn with rfl | rfl | rfl | rfl | rfl | rfl | rfl | rfl | rfl | rfl | rfl <;> omega)
  simpa [Nod.il] using this
theorem ih_len (x : Hos) (h : x.ok = true) : (pl x.il).length ≤ 60 := by
  obtain ⟨h1, h2⟩ := hos_b h
  have := pl_len (l := x.il) (fun n hn => by
    simp only [Hos.il, List.mem_cons, List.not_mem_nil, or_false] at hn
    have a1 := okI_b h1
    have a2 := v3_b h2
    have b1 := a1 x.f (by simp)
    have b2 := a1 x.b (by simp)
    have b3 := a1 x.r (by simp)
    rcases hn with rfl | rfl | rfl | rfl | rfl | rfl <;> omega)
  simpa [Hos.il] using this

theorem whos_loop (c : Con) (hh : ((hav c.hs).length : Int) ≤ 24) (hc : allH c.hs = true) (ht : okI [c.half, c.age] = true) (B : List UInt8) : ∀ (n i : Nat) (bs : List UInt8), i + n = c.hs.length → bs.length + 60 * n ≤ 20000 → bs ++ (pl (hosL (c.hs.drop i)) ++ pl [c.half, c.age]) = B →
    To E fConf (.full 2 (.ret (.tup [])) (wrO B 1)) (.head (stk fConf 1) [(0, .ref 0 0), (3, .ref 2 0), (49, .slice 6 (hav c.hs) .no), (50, .int .i64 ((hav c.hs).length : Nat)), (51, .int .i64 i)] (wrO bs 1 ++ [.cells 25 c.cs])) := by
  have hln : (hav c.hs).length = c.hs.length := by simp
  have hm : ∀ n ∈ [c.half, c.age], n ≤ 9223372036854775807 := fun n hn => by have := okI_b ht n hn; omega
  intro n
  induction n with
  | zero =>
    intro i bs hi hbl hB
    rw [List.drop_eq_nil_of_le (by omega)] at hB
    have hB : bs ++ pl [c.half, c.age] = B := hB
    subst hB
    refine goes hE 100 ?_
    conv => whnf
    refine And.intro (fun h => absurd (of_decide_eq_true h) (by omega)) (fun h => ?_)
    refine goes hE 100 ?_
    conv => whnf
    refine .eff [] [0, 1] _ _ rfl (CallOK.strip (nums_ok [c.half, c.age] (by simp) hm (by simp) bs (by simp; omega))) ?_
    refine goes hE 100 ?_
    conv => whnf
    refine ⟨[], [0, 1], ⟨rfl, rfl⟩, ?_⟩
    exact ⟨rfl, rfl⟩
  | succ n ih =>
    intro i bs hi hbl hB
    have hlt : i < c.hs.length := by omega
    rw [List.drop_eq_getElem_cons hlt] at hB
    have hx1 := allH_at hc i hlt
    generalize hx : c.hs[i] = x at hB hx1
    have hB : bs ++ (pl (x.il ++ hosL (c.hs.drop (i + 1))) ++ pl [c.half, c.age]) = B := hB
    obtain ⟨h1, h2⟩ := hos_b hx1
    have l1 := pl_len (l3_m h1)
    have l2 := pl_len (v3_m h2)
    have l3 := ih_len x hx1
    simp only [V3.l, List.length_cons, List.length_nil] at l1 l2
    have ex : bs ++ pl x.il = (bs ++ pl [x.f, x.b, x.r]) ++ pl x.c.l := by rw [List.append_assoc, ← pl_append]; rfl
    rw [pl_append, List.append_assoc, ← List.append_assoc, ex] at hB
    have get : (hav c.hs)[i]? = some x.av := (hav_get hlt).trans (by rw [hx])
    refine goes hE 100 ?_
    conv => whnf
    refine And.intro (fun h => ?_) (fun h => absurd (of_decide_eq_false h) (by omega))
    refine goes hE 100 ?_
    conv => whnf
    refine ⟨i, rfl, ?_⟩
    refine goes hE 100 ?_
    conv => whnf
    refine ⟨_, get, ?_⟩
    refine goes hE 100 ?_
    conv => whnf
    refine .eff [] [0, 1] _ _ rfl (CallOK.strip (nums_ok [x.f, x.b, x.r] (by simp) (l3_m h1) (by simp) bs (by simp; omega))) ?_
    refine goes hE 100 ?_
    conv => whnf
    refine .eff [] [0, 1] _ _ rfl (wvec_ok x.c h2 _ (by simp; omega)) ?_
    refine goes hE 100 ?_
    conv => whnf
    refine Or.inl (And.intro (And.intro (by simp only [kmin]; omega) (by simp only [kmax]; omega)) ?_)
    refine goes hE 100 ?_
    conv => whnf
    refine To.part [0, 3, 49, 50, 51] [0, 1, 2] rfl rfl rfl ?_
    exact ih (i + 1) _ (by omega) (by rw [← ex]; simp; omega) hB
theorem wnod_loop (c : Con) (hn : ((nav c.ns).length : Int) ≤ 12) (hh : ((hav c.hs).length : Int) ≤ 24) (hcn : allN c.ns = true) (hc : allH c.hs = true) (ht : okI [c.half, c.age] = true) (B : List UInt8) : ∀ (n i : Nat) (bs : List UInt8), i + n = c.ns.length → bs.length + 110 * n ≤ 10000 →
    bs ++ (pl (nodL (c.ns.drop i)) ++ (pl [((hav c.hs).length : Int)] ++ (pl (hosL c.hs) ++ pl [c.half, c.age]))) = B →
    To E fConf (.full 2 (.ret (.tup [])) (wrO B 1)) (.head (stk fConf 0) [(0, .ref 0 0), (3, .ref 2 0), (15, .slice 11 (nav c.ns) .no), (16, .int .i64 ((nav c.ns).length : Nat)), (17, .int .i64 i)] (wrO bs 1 ++ [.cells 25 c.cs])) := by
  have hln : (nav c.ns).length = c.ns.length := by simp
  have hlh : (hav c.hs).length = c.hs.length := by simp
  intro n
  induction n with
  | zero =>
    intro i bs hi hbl hB
    rw [List.drop_eq_nil_of_le (by omega)] at hB
    have hB : bs ++ (pl [((hav c.hs).length : Int)] ++ (pl (hosL c.hs) ++ pl [c.half, c.age])) = B := hB
    rw [← List.append_assoc] at hB
    have hml : ∀ n ∈ [((hav c.hs).length : Int)], n ≤ 9223372036854775807 := fun n hn => by simp at hn; omega
    have l1 := pl_len hml
    simp only [List.length_cons, List.length_nil] at l1
    refine goes hE 100 ?_
    conv => whnf
    refine And.intro (fun h => absurd (of_decide_eq_true h) (by omega)) (fun h => ?_)
    refine goes hE 100 ?_
    conv => whnf
    refine .eff [] [0, 1] _ _ rfl (CallOK.strip (nums_ok [((hav c.hs).length : Int)] (by simp) hml (by simp) bs (by simp; omega))) ?_
    refine goes hE 100 ?_
    conv => whnf
    refine To.part [0, 3, 49, 50, 51] [0, 1, 2] rfl rfl rfl ?_
    exact whos_loop c hh hc ht B c.hs.length 0 _ (by omega) (by simp only [List.length_append]; omega) hB
  | succ n ih =>
    intro i bs hi hbl hB
    have hlt : i < c.ns.length := by omega
    rw [List.drop_eq_getElem_cons hlt] at hB
    have hx1 := allN_at hcn i hlt
    generalize hx : c.ns[i] = x at hB hx1
    have hB : bs ++ (pl (x.il ++ nodL (c.ns.drop (i + 1))) ++ _) = B := hB
    obtain ⟨h1, h2, h3, h4, h5⟩ := nod_b hx1
    have hm : ∀ n ∈ [x.p + 1, x.w], n ≤ 9223372036854775807 := fun n hn => by simp at hn; omega
    have l1 := pl_len hm
    have l2 := pl_len (v3_m h3)
    have l3 := pl_len (v3_m h4)
    have l4 := pl_len (v3_m h5)
    have l5 := il_len x hx1
    simp only [V3.l, List.length_cons, List.length_nil] at l1 l2 l3 l4
    have ex : bs ++ pl x.il = (((bs ++ pl [x.p + 1, x.w]) ++ pl x.n.l) ++ pl x.b.l) ++ pl x.l.l := by rw [List.append_assoc, List.append_assoc, List.append_assoc, ← pl_append, ← pl_append, ← pl_append]; rfl
    rw [pl_append, List.append_assoc, ← List.append_assoc, ex] at hB
    have get : (nav c.ns)[i]? = some x.av := (nav_get hlt).trans (by rw [hx])
    refine goes hE 100 ?_
    conv => whnf
    refine And.intro (fun h => ?_) (fun h => absurd (of_decide_eq_false h) (by omega))
    refine goes hE 100 ?_
    conv => whnf
    refine ⟨i, rfl, ?_⟩
    refine goes hE 100 ?_
    conv => whnf
    refine ⟨_, get, ?_⟩
    refine goes hE 100 ?_
    conv => whnf
    refine Or.inl (And.intro (And.intro (by simp only [kmin]; omega) (by simp only [kmax]; omega)) ?_)
    refine goes hE 100 ?_
    conv => whnf
    refine .eff [] [0, 1] _ _ rfl (CallOK.strip (nums_ok [x.p + 1, x.w] (by simp) hm (by simp) bs (by simp; omega))) ?_
    refine goes hE 100 ?_
    conv => whnf
    refine .eff [] [0, 1] _ _ rfl (wvec_ok x.n h3 _ (by simp; omega)) ?_
    refine goes hE 100 ?_
    conv => whnf
    refine .eff [] [0, 1] _ _ rfl (wvec_ok x.b h4 _ (by simp [V3.l]; omega)) ?_
    refine goes hE 100 ?_
    conv => whnf
    refine .eff [] [0, 1] _ _ rfl (wvec_ok x.l h5 _ (by simp [V3.l]; omega)) ?_
    refine goes hE 100 ?_
    conv => whnf
    refine Or.inl (And.intro (And.intro (by simp only [kmin]; omega) (by simp only [kmax]; omega)) ?_)
    refine goes hE 100 ?_
    conv => whnf
    refine To.part [0, 3, 15, 16, 17] [0, 1, 2] rfl rfl rfl ?_
    exact ih (i + 1) _ (by omega) (by rw [← ex]; simp; omega) hB
theorem wconf_ok (c : Con) (hn : ((nav c.ns).length : Int) ≤ 12) (hh : ((hav c.hs).length : Int) ≤ 24) (hc : c.ok = true) (bs : List UInt8) (hbs : bs.length ≤ 100) :
    CallOK Try.prog 33 [.ref 0 0, c.av] (wrO bs 0) (.ret (.tup [])) (wrO (bs ++ pl c.il) 1) := by
  have hln : (nav c.ns).length = c.ns.length := by simp
  simp only [Con.ok, Bool.and_eq_true] at hc
  obtain ⟨⟨h1, h2⟩, h3⟩ := hc
  have hml : ∀ n ∈ [((nav c.ns).length : Int)], n ≤ 9223372036854775807 := fun n hn => by simp at hn; omega
  have l1 := pl_len hml
  simp only [List.length_cons, List.length_nil] at l1
  refine CallOK.to (E := E) (fn := Try.f33) (g := .full 2 _ _) (by rfl) (by rfl) (by rfl) (fun _ _ => by rfl) (by decide +kernel) (by rfl) (by rfl) (by rfl) fun _ => ?_
  refine goes hE 100 ?_
  conv => whnf
  refine .eff [] [0, 1] _ _ rfl (CallOK.strip (nums_ok [((nav c.ns).length : Int)] (by simp) hml (by simp) bs (by simp; omega))) ?_
  refine goes hE 100 ?_
  conv => whnf
  refine To.part [0, 3, 15, 16, 17] [0, 1, 2] rfl rfl rfl ?_
  exact wnod_loop c hn hh h1 h2 h3 _ c.ns.length 0 _ (by omega) (by simp only [List.length_append]; omega) (by simp only [Con.il, pl_append, List.append_assoc, List.drop_zero])
end Go.Proofs.Ytmodiilfjfmdcaa

namespace Go.Proofs.Ytmodiilfjfmdcaa
open Go Go.AW Go.Proofs
set_option maxRecDepth 10000

structure Told (x : Cmd) : Prop where
  k : 1 ≤ x.k ∧ x.k ≤ 6
  c : x.k = 1 ∨ x.c.non = true
  g : x.k = 2 ∨ x.g.isZ = true
  n : (x.k = 3 ∨ x.k = 4 ∨ x.k = 5) ∨ x.n = 0
  cok : x.c.ok = true
  gok : x.g.ok = true
  nok : 0 ≤ x.n ∧ x.n ≤ 1099511627776
  ln : ((nav x.c.ns).length : Int) ≤ 12
  lh : ((hav x.c.hs).length : Int) ≤ 24
theorem ite_one {b : Bool} {y : Int} (h : (if b then y else 1) = 0) : b = true ∧ y = 0 := by
  cases b with
  | true => exact ⟨rfl, h⟩
  | false => cases h
theorem chk_told {x : Cmd} (h : chk x = 0) : Told x := by
  unfold chk at h
  obtain ⟨h1, h⟩ := ite_one h
  unfold chk2 at h
  obtain ⟨h2, h⟩ := ite_one h
  unfold chk3 at h
  obtain ⟨h3, h⟩ := ite_one h
  unfold chk4 at h
  obtain ⟨h4, h⟩ := ite_one h
  unfold chkC at h
  obtain ⟨h5, h⟩ := ite_one h
  unfold chkG at h
  obtain ⟨h6, h⟩ := ite_one h
  unfold chkN at h
  obtain ⟨h7, h⟩ := ite_one h
  unfold chkL at h
  simp only [Bool.and_eq_true, Bool.or_eq_true, decide_eq_true_eq, beq_iff_eq] at h1 h2 h3 h4
  have h8 : decide (((nav x.c.ns).length : Int) ≤ 12) = true ∧ decide (((hav x.c.hs).length : Int) ≤ 24) = true := by
    split at h
    · rename_i hh
      simpa using hh
    · cases h
  exact ⟨h1, h2, h3, by rcases h4 with ((h4 | h4) | h4) | h4
                        · exact .inl (.inl h4)
                        · exact .inl (.inr (.inl h4))
                        · exact .inl (.inr (.inr h4))
                        · exact .inr h4, h5, h6, okI_b h7 _ (by simp), of_decide_eq_true h8.1, of_decide_eq_true h8.2⟩

def encB (x : Cmd) : List UInt8 := if chk x = 0 then pl x.il else []
theorem pl_ne (k : Int) (r : List Int) : pl (k :: r) ≠ [] := by
  have : 1 ≤ (putN k.toNat).length := by rw [putN]; split <;> simp
  intro h
  have h1 : (pl (k :: r)).length = 0 := by rw [h]; rfl
  simp only [pl, List.length_append] at h1
  omega
theorem il_cons (x : Cmd) (r : List Int) (h : (if x.k == 1 then x.c.il else if x.k == 2 then x.g.il else if x.k == 6 then [] else [x.n]) = r) : putN x.k.toNat ++ pl r = pl x.il := by
  subst h
  rfl
theorem enc_ok (x : Cmd) : CallOK Try.prog 14 [x.av] [] (.ret (.tup [.str (encB x), ii (chk x)])) [] := by
  refine CallOK.to (E := E) (fn := Try.f14) (g := .pure _) (by rfl) (by rfl) (by rfl) (fun _ _ => by rfl) (by decide +kernel) (by rfl) (by rfl) (by rfl) fun _ => ?_
  refine goes hE 100 ?_
  conv => whnf
  refine .pure _ [] (check_ok x) ?_
  refine goes hE 100 ?_
  conv => whnf
  refine And.intro (fun h => ?_) (fun h => ?_)
  · have h : (chk x != 0) = true := h
    have h0 : ¬ chk x = 0 := by simpa using h
    have e : encB x = [] := if_neg h0
    rw [e]
    refine goes hE 100 ?_
    conv => whnf
  · have h : (chk x != 0) = false := h
    have h0 : chk x = 0 := by simpa using h
    have e : encB x = pl x.il := if_pos h0
    rw [e, h0]
    have T := chk_told h0
    have hk : x.k ≤ 9223372036854775807 := by have := T.k; omega
    have hp := pn_len hk
    refine goes hE 100 ?_
    conv => whnf
    refine .eff [] [1] _ _ rfl (CallOK.strip (nums_fresh x.k hk)) ?_
    refine goes hE 100 ?_
    conv => whnf
    refine And.intro (fun h1 => ?_) (fun h1 => ?_)
    · have h1 : (x.k == 1) = true := h1
      have il := il_cons x x.c.il (by rw [h1]; rfl)
      have hne : putN x.k.toNat ++ pl x.c.il ≠ [] := by rw [il]; exact pl_ne _ _
      refine goes hE 100 ?_
      conv => whnf
      refine .eff [] [1, 2] _ _ rfl (wconf_ok x.c T.ln T.lh T.cok _ (by omega)) ?_
      refine goes hE 100 ?_
      conv => whnf
      refine .eff [] [1, 2] _ _ rfl (str_ok _ hne _) ?_
      refine goes hE 100 ?_
      conv => whnf
      rw [il]
    · have h1 : (x.k == 1) = false := h1
      refine goes hE 100 ?_
      conv => whnf
      refine And.intro (fun h2 => ?_) (fun h2 => ?_)
      · have h2 : (x.k == 2) = true := h2
        have il := il_cons x x.g.il (by rw [h1, h2]; rfl)
        have hne : putN x.k.toNat ++ pl x.g.il ≠ [] := by rw [il]; exact pl_ne _ _
        refine goes hE 100 ?_
        conv => whnf
        refine .eff [] [1, 2] _ _ rfl (wgang_ok x.g T.gok _ (by omega)) ?_
        refine goes hE 100 ?_
        conv => whnf
        refine .eff [] [1, 2] _ _ rfl (str_ok _ hne _) ?_
        refine goes hE 100 ?_
        conv => whnf
        rw [il]
      · have h2 : (x.k == 2) = false := h2
        have hn : ∀ n ∈ [x.n], n ≤ 9223372036854775807 := fun n hn => by have := T.nok; simp at hn; omega
        refine goes hE 100 ?_
        conv => whnf
        refine And.intro (fun h3 => ?_) (fun h3 => ?_)
        · have h3 : (x.k == 3) = true := h3
          have h6 : (x.k == 6) = false := by have := eq_of_beq h3; rw [this]; rfl
          refine goes hE 100 ?_
          conv => whnf
          refine And.intro (fun _ => ?_) (fun h => absurd (h3.symm.trans h) (by decide))
          refine goes hE 100 ?_
          conv => whnf
          refine .eff [] [1, 2] _ _ rfl (CallOK.strip (nums_ok [x.n] (by simp) hn (by simp) _ (by simp; omega))) ?_
          refine goes hE 100 ?_
          conv => whnf
          have il := il_cons x [x.n] (by rw [h1, h2, h6]; rfl)
          have hne : putN x.k.toNat ++ pl [x.n] ≠ [] := by rw [il]; exact pl_ne _ _
          refine .eff [] [1, 2] _ _ rfl (str_ok _ hne _) ?_
          refine goes hE 100 ?_
          conv => whnf
          rw [il]
        · have h3 : (x.k == 3) = false := h3
          refine goes hE 100 ?_
          conv => whnf
          refine And.intro (fun h4 => ?_) (fun h4 => ?_)
          · have h4 : (x.k == 4) = true := h4
            have h6 : (x.k == 6) = false := by have := eq_of_beq h4; rw [this]; rfl
            refine goes hE 100 ?_
            conv => whnf
            refine And.intro (fun _ => ?_) (fun h => absurd (h4.symm.trans h) (by decide))
            refine goes hE 100 ?_
            conv => whnf
            refine .eff [] [1, 2] _ _ rfl (CallOK.strip (nums_ok [x.n] (by simp) hn (by simp) _ (by simp; omega))) ?_
            refine goes hE 100 ?_
            conv => whnf
            have il := il_cons x [x.n] (by rw [h1, h2, h6]; rfl)
            have hne : putN x.k.toNat ++ pl [x.n] ≠ [] := by rw [il]; exact pl_ne _ _
            refine .eff [] [1, 2] _ _ rfl (str_ok _ hne _) ?_
            refine goes hE 100 ?_
            conv => whnf
            rw [il]
          · have h4 : (x.k == 4) = false := h4
            refine goes hE 100 ?_
            conv => whnf
            refine And.intro (fun h5 => ?_) (fun h5 => ?_)
            · have h5 : (x.k == 5) = true := h5
              have h6 : (x.k == 6) = false := by have := eq_of_beq h5; rw [this]; rfl
              refine goes hE 100 ?_
              conv => whnf
              refine .eff [] [1, 2] _ _ rfl (CallOK.strip (nums_ok [x.n] (by simp) hn (by simp) _ (by simp; omega))) ?_
              refine goes hE 100 ?_
              conv => whnf
              have il := il_cons x [x.n] (by rw [h1, h2, h6]; rfl)
              have hne : putN x.k.toNat ++ pl [x.n] ≠ [] := by rw [il]; exact pl_ne _ _
              refine .eff [] [1, 2] _ _ rfl (str_ok _ hne _) ?_
              refine goes hE 100 ?_
              conv => whnf
              rw [il]
            · have h5 : (x.k == 5) = false := h5
              have h6 : (x.k == 6) = true := by
                have := T.k
                simp at h1 h2 h3 h4 h5 ⊢
                omega
              have il := il_cons x [] (by rw [h1, h2, h6]; rfl)
              rw [show putN x.k.toNat ++ pl [] = putN x.k.toNat from List.append_nil _] at il
              have hne : putN x.k.toNat ≠ [] := by rw [il]; exact pl_ne _ _
              refine goes hE 100 ?_
              conv => whnf
              refine .eff [] [1, 2] _ _ rfl (str_ok _ hne _) ?_
              refine goes hE 100 ?_
              conv => whnf
              rw [il]
end Go.Proofs.Ytmodiilfjfmdcaa

namespace Go.Proofs.Ytmodiilfjfmdcaa
open Go Go.AW Go.Proofs
set_option maxRecDepth 10000

theorem gan_bb {g : Gan} (h : g.ok = true) : ∀ n ∈ g.il, n ≤ 9223372036854775807 := by
  obtain ⟨h1, h2, h3⟩ := gan_b h
  intro n hn
  have a1 := okI_b h1
  have a2 := v3_b h2
  have a3 := okI_b h3
  have b1 := a1 g.id (by simp)
  have b2 := a1 g.ten (by simp)
  have b3 := a1 g.pods (by simp)
  have b4 := a3 g.run (by simp)
  have b5 := a3 g.lev (by simp)
  have b6 := a3 g.pref (by simp)
  simp only [Gan.il, List.mem_cons, List.not_mem_nil, or_false] at hn
  rcases hn with rfl | rfl | rfl | rfl | rfl | rfl | rfl | rfl | rfl <;> omega
theorem rpg_ok (g : Gan) (h : g.ok = true) : CallOK Try.prog 67 [g.av] [] (.ret (.str (pl g.il))) [] := by
  obtain ⟨h1, h2, h3⟩ := gan_b h
  have hm := gan_bb h
  have b1 := pn_len (hm g.id (by simp [Gan.il]))
  have b2 := pn_len (hm g.ten (by simp [Gan.il]))
  have b3 := pn_len (hm g.pods (by simp [Gan.il]))
  have b4 := pn_len (hm g.run (by simp [Gan.il]))
  have b5 := pn_len (hm g.lev (by simp [Gan.il]))
  have b6 := pn_len (hm g.pref (by simp [Gan.il]))
  have b7 := pl_len (v3_m h2)
  simp only [V3.l, List.length_cons, List.length_nil] at b7
  refine CallOK.to (E := E) (fn := Try.f67) (g := .pure _) (by rfl) (by rfl) (by rfl) (fun _ _ => by rfl) (by decide +kernel) (by rfl) (by rfl) (by rfl) fun _ => ?_
  repeat' first
    | (refine goN hE 100 rfl ?_; conv => whnf)
    | refine .pure _ [] (rput_ok _) ?_
    | refine .pure _ [] (rvec_ok g.need h2) ?_
    | refine And.intro (by simp only [List.length_append, V3.l]; omega) ?_
    | exact rfl
    | refine And.intro (fun _ => ?_) (fun h => absurd (show true = false from h) (by decide))
    | refine And.intro (fun h => absurd (show false = true from h) (by decide)) (fun _ => ?_)
    | refine And.intro (fun h => ?_) (fun h => absurd (of_decide_eq_false h) (by omega))
    | refine And.intro (fun h => absurd (of_decide_eq_true h) (by omega)) (fun h => ?_)
    | refine And.intro (fun h => ?_) (fun h => ?_)
    | refine Or.inl (And.intro (And.intro (by simp only [kmin]; omega) (by simp only [kmax]; omega)) ?_)
    | refine Exists.intro _ (And.intro rfl ?_)
    | refine And.intro (by decide) ?_
    | refine And.intro (by omega) ?_
  simp [pl, Gan.il, V3.l]

noncomputable abbrev fPut : Func := Try.f36
theorem rph_loop (x : Cmd) (hh : ((hav x.c.hs).length : Int) ≤ 24) (hc : allH x.c.hs = true) (ht : okI [x.c.half, x.c.age] = true) (B : List UInt8) : ∀ (n i : Nat) (bs : List UInt8), i + n = x.c.hs.length → bs.length + 60 * n ≤ 20000 → bs ++ (pl (hosL (x.c.hs.drop i)) ++ pl [x.c.half, x.c.age]) = B →
    To E fPut (.pure (.ret (.str B))) (.head (stk fPut 1) [(1, .ref 0 0), (3, .str bs), (6, .int .i64 i)] [.cells 31 x.cs]) := by
  have hln : (hav x.c.hs).length = x.c.hs.length := by simp
  have bh := pn_len (n := x.c.half) (by have := okI_b ht x.c.half (by simp); omega)
  have ba := pn_len (n := x.c.age) (by have := okI_b ht x.c.age (by simp); omega)
  intro n
  induction n with
  | zero =>
    intro i bs hi hbl hB
    rw [List.drop_eq_nil_of_le (by omega)] at hB
    have hB : bs ++ pl [x.c.half, x.c.age] = B := hB
    subst hB
    refine goes hE 100 ?_
    conv => whnf
    refine And.intro (fun h => absurd (of_decide_eq_true h) (by omega)) (fun h => ?_)
    repeat' first
      | (refine goN hE 100 rfl ?_; conv => whnf)
      | refine .pure _ [] (rput_ok _) ?_
      | refine And.intro (by simp only [List.length_append]; omega) ?_
      | exact rfl
      | refine And.intro (fun _ => ?_) (fun h => absurd (show true = false from h) (by decide))
      | refine And.intro (fun h => absurd (show false = true from h) (by decide)) (fun _ => ?_)
      | refine And.intro (fun h => ?_) (fun h => absurd (of_decide_eq_false h) (by omega))
      | refine And.intro (fun h => absurd (of_decide_eq_true h) (by omega)) (fun h => ?_)
      | refine And.intro (fun h => ?_) (fun h => ?_)
      | refine Or.inl (And.intro (And.intro (by simp only [kmin]; omega) (by simp only [kmax]; omega)) ?_)
      | refine Exists.intro _ (And.intro rfl ?_)
      | refine And.intro (by decide) ?_
      | refine And.intro (by omega) ?_
    simp [pl]
  | succ n ih =>
    intro i bs hi hbl hB
    have hlt : i < x.c.hs.length := by omega
    rw [List.drop_eq_getElem_cons hlt] at hB
    have hx1 := allH_at hc i hlt
    generalize hx : x.c.hs[i] = y at hB hx1
    have hB : bs ++ (pl (y.il ++ hosL (x.c.hs.drop (i + 1))) ++ pl [x.c.half, x.c.age]) = B := hB
    obtain ⟨h1, h2⟩ := hos_b hx1
    have l2 := pl_len (v3_m h2)
    have l3 := ih_len y hx1
    have a1 := okI_b h1
    have b1 := pn_len (n := y.f) (by have := a1 y.f (by simp); omega)
    have b2 := pn_len (n := y.b) (by have := a1 y.b (by simp); omega)
    have b3 := pn_len (n := y.r) (by have := a1 y.r (by simp); omega)
    simp only [V3.l, List.length_cons, List.length_nil] at l2
    have ex : pl y.il = putN y.f.toNat ++ putN y.b.toNat ++ putN y.r.toNat ++ pl y.c.l := by simp [pl, Hos.il, V3.l]
    rw [pl_append, List.append_assoc, ← List.append_assoc, ex] at hB
    have get : (hav x.c.hs)[i]? = some y.av := (hav_get hlt).trans (by rw [hx])
    refine goes hE 100 ?_
    conv => whnf
    refine And.intro (fun h => ?_) (fun h => absurd (of_decide_eq_false h) (by omega))
    repeat' first
      | (refine goN hE 100 rfl ?_; conv => whnf)
      | refine .pure _ [] (rput_ok _) ?_
      | refine .pure _ [] (rvec_ok y.c h2) ?_
      | refine Exists.intro _ (And.intro get ?_)
      | refine And.intro (by simp only [List.length_append, V3.l]; omega) ?_
      | exact rfl
      | refine And.intro (fun _ => ?_) (fun h => absurd (show true = false from h) (by decide))
      | refine And.intro (fun h => absurd (show false = true from h) (by decide)) (fun _ => ?_)
      | refine And.intro (fun h => ?_) (fun h => absurd (of_decide_eq_false h) (by omega))
      | refine And.intro (fun h => absurd (of_decide_eq_true h) (by omega)) (fun h => ?_)
      | refine And.intro (fun h => ?_) (fun h => ?_)
      | refine Or.inl (And.intro (And.intro (by simp only [kmin]; omega) (by simp only [kmax]; omega)) ?_)
      | refine Exists.intro _ (And.intro rfl ?_)
      | refine And.intro (by decide) ?_
      | refine And.intro (by omega) ?_
    refine To.cut [1, 3, 6] 1 rfl rfl rfl rfl ?_
    exact ih (i + 1) _ (by omega) (by rw [← ex]; simp; omega) hB
theorem rpn_loop (x : Cmd) (hn : ((nav x.c.ns).length : Int) ≤ 12) (hh : ((hav x.c.hs).length : Int) ≤ 24) (hcn : allN x.c.ns = true) (hc : allH x.c.hs = true) (ht : okI [x.c.half, x.c.age] = true) (B : List UInt8) : ∀ (n i : Nat) (bs : List UInt8), i + n = x.c.ns.length → bs.length + 110 * n ≤ 10000 →
    bs ++ (pl (nodL (x.c.ns.drop i)) ++ (pl [((hav x.c.hs).length : Int)] ++ (pl (hosL x.c.hs) ++ pl [x.c.half, x.c.age]))) = B →
    To E fPut (.pure (.ret (.str B))) (.head (stk fPut 0) [(1, .ref 0 0), (3, .str bs), (4, .int .i64 i)] [.cells 31 x.cs]) := by
  have hln : (nav x.c.ns).length = x.c.ns.length := by simp
  have hlh : (hav x.c.hs).length = x.c.hs.length := by simp
  intro n
  induction n with
  | zero =>
    intro i bs hi hbl hB
    rw [List.drop_eq_nil_of_le (by omega)] at hB
    have hB : bs ++ (pl [((hav x.c.hs).length : Int)] ++ (pl (hosL x.c.hs) ++ pl [x.c.half, x.c.age])) = B := hB
    rw [← List.append_assoc, show pl [((hav x.c.hs).length : Int)] = putN ((hav x.c.hs).length : Int).toNat from List.append_nil _] at hB
    have b1 := pn_len (n := ((hav x.c.hs).length : Int)) (by omega)
    refine goes hE 100 ?_
    conv => whnf
    refine And.intro (fun h => absurd (of_decide_eq_true h) (by omega)) (fun h => ?_)
    repeat' first
      | (refine goN hE 100 rfl ?_; conv => whnf)
      | refine .pure _ [] (rput_ok _) ?_
      | refine And.intro (by simp only [List.length_append]; omega) ?_
      | exact rfl
      | refine And.intro (fun _ => ?_) (fun h => absurd (show true = false from h) (by decide))
      | refine And.intro (fun h => absurd (show false = true from h) (by decide)) (fun _ => ?_)
      | refine And.intro (fun h => ?_) (fun h => absurd (of_decide_eq_false h) (by omega))
      | refine And.intro (fun h => absurd (of_decide_eq_true h) (by omega)) (fun h => ?_)
      | refine And.intro (fun h => ?_) (fun h => ?_)
      | refine Or.inl (And.intro (And.intro (by simp only [kmin]; omega) (by simp only [kmax]; omega)) ?_)
      | refine Exists.intro _ (And.intro rfl ?_)
      | refine And.intro (by decide) ?_
      | refine And.intro (by omega) ?_
    refine To.cut [1, 3, 6] 1 rfl rfl rfl rfl ?_
    exact rph_loop x hh hc ht B x.c.hs.length 0 _ (by omega) (by simp only [List.length_append]; omega) hB
  | succ n ih =>
    intro i bs hi hbl hB
    have hlt : i < x.c.ns.length := by omega
    rw [List.drop_eq_getElem_cons hlt] at hB
    have hx1 := allN_at hcn i hlt
    generalize hx : x.c.ns[i] = y at hB hx1
    have hB : bs ++ (pl (y.il ++ nodL (x.c.ns.drop (i + 1))) ++ _) = B := hB
    obtain ⟨h1, h2, h3, h4, h5⟩ := nod_b hx1
    have b1 := pn_len (n := y.p + 1) (by omega)
    have b2 := pn_len (n := y.w) (by omega)
    have l2 := pl_len (v3_m h3)
    have l3 := pl_len (v3_m h4)
    have l4 := pl_len (v3_m h5)
    have l5 := il_len y hx1
    simp only [V3.l, List.length_cons, List.length_nil] at l2 l3 l4
    have ex : pl y.il = putN (y.p + 1).toNat ++ putN y.w.toNat ++ pl y.n.l ++ pl y.b.l ++ pl y.l.l := by simp [pl, Nod.il, V3.l]
    rw [pl_append, List.append_assoc, ← List.append_assoc, ex] at hB
    have get : (nav x.c.ns)[i]? = some y.av := (nav_get hlt).trans (by rw [hx])
    refine goes hE 100 ?_
    conv => whnf
    refine And.intro (fun h => ?_) (fun h => absurd (of_decide_eq_false h) (by omega))
    repeat' first
      | (refine goN hE 100 rfl ?_; conv => whnf)
      | refine .pure _ [] (rput_ok _) ?_
      | refine .pure _ [] (rvec_ok y.n h3) ?_
      | refine .pure _ [] (rvec_ok y.b h4) ?_
      | refine .pure _ [] (rvec_ok y.l h5) ?_
      | refine Exists.intro _ (And.intro get ?_)
      | refine And.intro (by simp only [List.length_append, V3.l]; omega) ?_
      | exact rfl
      | refine And.intro (fun _ => ?_) (fun h => absurd (show true = false from h) (by decide))
      | refine And.intro (fun h => absurd (show false = true from h) (by decide)) (fun _ => ?_)
      | refine And.intro (fun h => ?_) (fun h => absurd (of_decide_eq_false h) (by omega))
      | refine And.intro (fun h => absurd (of_decide_eq_true h) (by omega)) (fun h => ?_)
      | refine And.intro (fun h => ?_) (fun h => ?_)
      | refine Or.inl (And.intro (And.intro (by simp only [kmin]; omega) (by simp only [kmax]; omega)) ?_)
      | refine Exists.intro _ (And.intro rfl ?_)
      | refine And.intro (by decide) ?_
      | refine And.intro (by omega) ?_
    refine To.cut [1, 3, 4] 1 rfl rfl rfl rfl ?_
    exact ih (i + 1) _ (by omega) (by rw [← ex]; simp; omega) hB

theorem rput2_ok (x : Cmd) (T : Told x) : CallOK Try.prog 36 [x.av] [] (.ret (.str (pl x.il))) [] := by
  have hln : (nav x.c.ns).length = x.c.ns.length := by simp
  have hk : x.k ≤ 9223372036854775807 := by have := T.k; omega
  have hp := pn_len hk
  have b1 := pn_len (n := ((nav x.c.ns).length : Int)) (by have := T.ln; omega)
  have b2 := pn_len (n := x.n) (by have := T.nok; omega)
  have b3 := pl_len (gan_bb T.gok)
  simp only [Gan.il, List.length_cons, List.length_nil] at b3
  have hc := T.cok
  simp only [Con.ok, Bool.and_eq_true] at hc
  obtain ⟨⟨hc1, hc2⟩, hc3⟩ := hc
  refine CallOK.to (E := E) (fn := Try.f36) (g := .pure _) (by rfl) (by rfl) (by rfl) (fun _ _ => by rfl) (by decide +kernel) (by rfl) (by rfl) (by rfl) fun _ => ?_
  repeat' first
    | (refine goN hE 100 rfl ?_; conv => whnf)
    | refine .pure _ [] (rput_ok _) ?_
    | refine .pure _ [] (rpg_ok x.g T.gok) ?_
    | refine And.intro (by simp only [List.length_append, Gan.il]; omega) ?_
    | exact rfl
    | refine And.intro (fun _ => ?_) (fun h => absurd (show true = false from h) (by decide))
    | refine And.intro (fun h => absurd (show false = true from h) (by decide)) (fun _ => ?_)
    | refine And.intro (fun h => ?_) (fun h => absurd (of_decide_eq_false h) (by omega))
    | refine And.intro (fun h => absurd (of_decide_eq_true h) (by omega)) (fun h => ?_)
    | refine And.intro (fun h => ?_) (fun h => ?_)
    | refine Or.inl (And.intro (And.intro (by simp only [kmin]; omega) (by simp only [kmax]; omega)) ?_)
    | refine Exists.intro _ (And.intro rfl ?_)
    | refine And.intro (by decide) ?_
    | refine And.intro (by omega) ?_
  · have h1 : (x.k == 1) = true := h
    have il := il_cons x x.c.il (by rw [h1]; rfl)
    refine To.cut [1, 3, 4] 1 rfl rfl rfl rfl ?_
    exact rpn_loop x T.ln T.lh hc1 hc2 hc3 _ x.c.ns.length 0 _ (by omega) (by have := T.ln; simp only [List.length_append]; omega) (by rw [← il]; simp only [Con.il, pl_append, List.append_assoc, List.drop_zero]; simp [pl])
  · rename_i h1
    have h1 : (x.k == 1) = false := h1
    have h2 : (x.k == 2) = true := h
    rw [← il_cons x x.g.il (by rw [h1, h2]; rfl)]
  · rename_i h1 h2
    have h1 : (x.k == 1) = false := h1
    have h2 : (x.k == 2) = false := h2
    have h6 : (x.k == 6) = true := h
    rw [← il_cons x [] (by rw [h1, h2, h6]; rfl)]
    simp [pl]
  · rename_i h1 h2
    have h1 : (x.k == 1) = false := h1
    have h2 : (x.k == 2) = false := h2
    have h6 : (x.k == 6) = false := h
    rw [← il_cons x [x.n] (by rw [h1, h2, h6]; rfl)]
    simp [pl]
theorem renc_ok (x : Cmd) : CallOK Try.prog 15 [x.av] [] (.ret (.tup [.str (encB x), ii (chk x)])) [] := by
  refine CallOK.to (E := E) (fn := Try.f15) (g := .pure _) (by rfl) (by rfl) (by rfl) (fun _ _ => by rfl) (by decide +kernel) (by rfl) (by rfl) (by rfl) fun _ => ?_
  refine goes hE 100 ?_
  conv => whnf
  refine .pure _ [] (rcheck_ok x) ?_
  refine goes hE 100 ?_
  conv => whnf
  refine And.intro (fun h => ?_) (fun h => ?_)
  · have h : (chk x != 0) = true := h
    have h0 : ¬ chk x = 0 := by simpa using h
    have e : encB x = [] := if_neg h0
    rw [e]
    refine goes hE 100 ?_
    conv => whnf
  · have h : (chk x != 0) = false := h
    have h0 : chk x = 0 := by simpa using h
    have e : encB x = pl x.il := if_pos h0
    rw [e, h0]
    refine goes hE 100 ?_
    conv => whnf
    refine .pure _ [] (rput2_ok x (chk_told h0)) ?_
    refine goes hE 100 ?_
    conv => whnf
end Go.Proofs.Ytmodiilfjfmdcaa
