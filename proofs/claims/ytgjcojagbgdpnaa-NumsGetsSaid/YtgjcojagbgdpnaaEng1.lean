/-
  THE ENGINE, 1: abstract values, what they stand for in a world, and how worlds go on. Over any program.
-/
import Derived.WalkKit
import Derived.WalkLawsBesides
namespace Go.AM
open Go.RowKit

inductive AVal where
  | undef
  | bool (b : Bool)
  | int (k : IntKind) (n : Int)
  | str (l : List UInt8)
  | slice (sz : Nat) (isnil : Bool) (xs : List AVal) (t : Option (Nat × TypeId))
  | agg (cs : List AVal)
  | tup (vs : List AVal)
  | ptr (cs : List AVal)
  | ref (k off : Nat)
  | eref (k i sz off : Nat)
  | rsl (k lo len cap sz : Nat)
  | csl (k off len sz : Nat)
  | full (sz : Nat) (isnil : Bool) (xs : List AVal)
  | nilptr
  | func (fn : Fn) (first caps : List AVal)
  | nilfunc
  | iface (t : TypeId) (v : AVal)
  | nilif

def AVal.cells : AVal → List AVal
  | .agg cs => cs
  | v => [v]

abbrev Imm := Nat → Nat → Option AVal
/-- A token: the slice value that owns its row, the element's type, its cells. -/
structure Tok where
  v : Value
  e : TypeId
  sz : Nat

inductive Rep (M : Imm) (ob : List Nat) (tk : List Tok) : Value → AVal → Prop
  | undef (v) : Rep M ob tk v .undef
  | bool (b) : Rep M ob tk (.bool b) (.bool b)
  | int (k n) : Rep M ob tk (.int k n) (.int k n)
  | str (l : List UInt8) : Rep M ob tk (.string ⟨l.toArray⟩) (.str l)
  | agg (vs : List Value) (as : List AVal) (hl : vs.length = as.length) (h : ∀ (i : Nat) v a, vs[i]? = some v → as[i]? = some a → Rep M ob tk v a) : Rep M ob tk (.agg vs.toArray) (.agg as)
  | tup (vs : List Value) (as : List AVal) (hl : vs.length = as.length) (h : ∀ (i : Nat) v a, vs[i]? = some v → as[i]? = some a → Rep M ob tk v a) : Rep M ob tk (.tuple vs.toArray) (.tup as)
  | ptr (b o : Nat) (cs : List AVal) (h : ∀ (j : Nat) c, cs[j]? = some c → M b (o + j) = some c) : Rep M ob tk (.pointer (some ⟨b, o, none⟩)) (.ptr cs)
  | ref (k off b : Nat) (h : ob[k]? = some b) : Rep M ob tk (.pointer (some ⟨b, off, none⟩)) (.ref k off)
  | eref (k i sz off b : Nat) (h : ob[k]? = some b) : Rep M ob tk (.pointer (some ⟨b, i * sz + off, none⟩)) (.eref k i sz off)
  | rsl (k lo len cap sz b : Nat) (h : ob[k]? = some b) : Rep M ob tk (.slice (some ⟨b, lo * sz, none⟩) len cap) (.rsl k lo len cap sz)
  | csl (k off len sz b : Nat) (h : ob[k]? = some b) : Rep M ob tk (.slice (some ⟨b, off, none⟩) len len) (.csl k off len sz)
  | full (sz : Nat) (nl : Bool) (xs : List AVal) (a : Option Addr) (n : Nat) (h : Rep M ob tk (.slice a n n) (.slice sz nl xs none)) : Rep M ob tk (.slice a n n) (.full sz nl xs)
  | nilptr : Rep M ob tk (.pointer none) .nilptr
  | nilslice (sz : Nat) : Rep M ob tk (.slice none 0 0) (.slice sz true [] none)
  | slice (sz b o n cap : Nat) (xs : List AVal) (hn : xs.length = n) (hc : n ≤ cap) (hz : ∀ x ∈ xs, x.cells.length = sz)
      (h : ∀ (i j : Nat) x c, xs[i]? = some x → x.cells[j]? = some c → M b (o + i * sz + j) = some c) : Rep M ob tk (.slice (some ⟨b, o, none⟩) n cap) (.slice sz false xs none)
  | tok (sz : Nat) (nl : Bool) (xs : List AVal) (v : Value) (τ : Nat) (e : TypeId) (h : Rep M ob tk v (.slice sz nl xs none)) (ht : tk[τ]? = some ⟨v, e, sz⟩) : Rep M ob tk v (.slice sz nl xs (some (τ, e)))
  | func (fn : Fn) (fs cs : List Value) (fa ca : List AVal) (hf : fs.length = fa.length) (hc : cs.length = ca.length)
      (h1 : ∀ (i : Nat) v a, fs[i]? = some v → fa[i]? = some a → Rep M ob tk v a) (h2 : ∀ (i : Nat) v a, cs[i]? = some v → ca[i]? = some a → Rep M ob tk v a) :
      Rep M ob tk (.func fn fs.toArray cs.toArray) (.func fn fa ca)
  | nilfunc : Rep M ob tk .nilFunc .nilfunc
  | iface (t : TypeId) (v : Value) (a : AVal) (h : Rep M ob tk v a) : Rep M ob tk (.iface t v) (.iface t a)
  | nilif : Rep M ob tk .nilIface .nilif

theorem Rep.mono {M M' : Imm} {ob ob' : List Nat} {tk tk' : List Tok} (hM : ∀ b o x, M b o = some x → M' b o = some x) (ho : ∀ (k b : Nat), ob[k]? = some b → ob'[k]? = some b)
    (ht : ∀ (k : Nat) b, tk[k]? = some b → tk'[k]? = some b) {v : Value} {a : AVal} (h : Rep M ob tk v a) : Rep M' ob' tk' v a := by
  induction h with
  | undef v => exact .undef v
  | bool b => exact .bool b
  | int k n => exact .int k n
  | str l => exact .str l
  | agg vs as hl _ ih => exact .agg vs as hl ih
  | tup vs as hl _ ih => exact .tup vs as hl ih
  | ptr b o cs h => exact .ptr b o cs fun j c hc => hM _ _ _ (h j c hc)
  | ref k off b h => exact .ref k off b (ho _ _ h)
  | eref k i sz off b h => exact .eref k i sz off b (ho _ _ h)
  | rsl k lo len cap sz b h => exact .rsl k lo len cap sz b (ho _ _ h)
  | csl k off len sz b h => exact .csl k off len sz b (ho _ _ h)
  | full sz nl xs a n _ ih => exact .full sz nl xs a n ih
  | nilptr => exact .nilptr
  | nilslice sz => exact .nilslice sz
  | slice sz b o n cap xs hn hc hz h => exact .slice sz b o n cap xs hn hc hz fun i j x c hx hj => hM _ _ _ (h i j x c hx hj)
  | tok sz nl xs v τ e _ ht' ih => exact .tok sz nl xs v τ e ih (ht _ _ ht')
  | func fn fs cs fa ca hf hc _ _ ih1 ih2 => exact .func fn fs cs fa ca hf hc ih1 ih2
  | nilfunc => exact .nilfunc
  | iface t v a _ ih => exact .iface t v a ih
  | nilif => exact .nilif

/-- Pure data: no mutable object, no token. -/
theorem Rep.pure {M : Imm} {ob : List Nat} {tk : List Tok} {v : Value} {a : AVal} (h : Rep M [] [] v a) : Rep M ob tk v a :=
  h.mono (fun _ _ _ h => h) (fun _ _ h => by simp at h) (fun _ _ h => by simp at h)

inductive AObj where
  | dead
  | cells (cs : List AVal)
  | row (sz : Nat) (xs : List AVal)

def ObjOK (M : Imm) (ob : List Nat) (tk : List Tok) (w : World) (b : Nat) : AObj → Prop
  | .dead => True
  | .cells cs => (∀ o, M b o = none) ∧ ∃ (cv : List Value) (T : TypeId), w.heap[b]? = some (.cells cv.toArray T (0, 0)) ∧ cv.length = cs.length ∧ (∀ v ∈ cv, v.oneCell' = true) ∧ ∀ (i : Nat) v a, cv[i]? = some v → cs[i]? = some a → Rep M ob tk v a
  | .row sz xs => (∀ o, M b o = none) ∧ ∃ (cv : List Value) (T : TypeId), w.heap[b]? = some (.cells cv.toArray T (0, 0)) ∧ cv.length = xs.length * sz ∧ (∀ v ∈ cv, v.oneCell' = true) ∧ (∀ x ∈ xs, x.cells.length = sz) ∧
      ∀ (i j : Nat) x c, xs[i]? = some x → x.cells[j]? = some c → ∃ v, cv[i * sz + j]? = some v ∧ Rep M [] [] v c

def TokOK (M : Imm) (w : World) (t : Tok) : Prop :=
  ∃ n xs, w.ownsRow 0 t.e t.sz t.v n xs ∧ ∀ g, t.v.ownBlock = some g → ∀ o, n * t.sz ≤ o → M g o = none

structure Mem (M : Imm) (ob : List Nat) (tk : List Tok) (obs : List AObj) (w : World) : Prop where
  imm : ∀ b o x, M b o = some x → ∃ v, w.cell? ⟨b, o, none⟩ = some v ∧ v.oneCell' = true ∧ Rep M [] [] v x
  len : ob.length = obs.length
  obj : ∀ (k : Nat) c, obs[k]? = some c → ∃ b, ob[k]? = some b ∧ ObjOK M ob tk w b c
  lt : ∀ b, b ∈ ob → b < w.heap.size
  inj : ob.Nodup
  tok : ∀ (τ : Nat) t, tk[τ]? = some t → TokOK M w t
  tokobj : ∀ (τ : Nat) t g, tk[τ]? = some t → t.v.ownBlock = some g → g ∉ ob
  tokinj : ∀ (τ τ' : Nat) t t' g, tk[τ]? = some t → tk[τ']? = some t' → t.v.ownBlock = some g → t'.v.ownBlock = some g → τ = τ'

/-- How a run goes on from one state of memory to another one: what was immutable stays; of what was there only the run's own objects and rows turn. -/
structure Ext (M : Imm) (ob : List Nat) (tk : List Tok) (w : World) (M' : Imm) (ob' : List Nat) (tk' : List Tok) (w' : World) : Prop where
  imm : ∀ b o x, M b o = some x → M' b o = some x
  new : ∀ b o x, M' b o = some x → M b o = some x ∨ w.heap.size ≤ b ∨ b ∈ ob ∨ ∃ t ∈ tk, t.v.ownBlock = some b
  obj : ∀ (k b : Nat), ob[k]? = some b → ob'[k]? = some b
  os : w'.os = w.os
  tape : w'.tape = w.tape
  output : w'.output = w.output
  size : w.heap.size ≤ w'.heap.size
  keep : ∀ b, b < w.heap.size → b ∉ ob → (∀ t ∈ tk, t.v.ownBlock ≠ some b) → w'.heap[b]? = w.heap[b]?
  fresh : ∀ b, b ∈ ob' → b ∈ ob ∨ w.heap.size ≤ b
  tfresh : ∀ t ∈ tk', ∀ b, t.v.ownBlock = some b → w.heap.size ≤ b ∨ ∃ t' ∈ tk, t'.v.ownBlock = some b

theorem Ext.refl (M : Imm) (ob : List Nat) (tk : List Tok) (w : World) : Ext M ob tk w M ob tk w where
  imm _ _ _ h := h
  new _ _ _ h := .inl h
  obj _ _ h := h
  os := rfl
  tape := rfl
  output := rfl
  size := Nat.le_refl _
  keep _ _ _ _ := rfl
  fresh _ h := .inl h
  tfresh t ht _ hb := .inr ⟨t, ht, hb⟩

theorem Ext.trans {M M1 M2 : Imm} {ob ob1 ob2 : List Nat} {tk tk1 tk2 : List Tok} {w w1 w2 : World} (h : Ext M ob tk w M1 ob1 tk1 w1) (k : Ext M1 ob1 tk1 w1 M2 ob2 tk2 w2) :
    Ext M ob tk w M2 ob2 tk2 w2 where
  imm b o x hx := k.imm _ _ _ (h.imm _ _ _ hx)
  new b o x hx := by
    rcases k.new b o x hx with h1 | h1 | h1 | ⟨t, ht, hb⟩
    · exact h.new b o x h1
    · exact .inr (.inl (Nat.le_trans h.size h1))
    · rcases h.fresh b h1 with h2 | h2
      · exact .inr (.inr (.inl h2))
      · exact .inr (.inl h2)
    · rcases h.tfresh t ht b hb with h2 | h2
      · exact .inr (.inl h2)
      · exact .inr (.inr (.inr h2))
  obj a b hb := k.obj _ _ (h.obj _ _ hb)
  os := k.os.trans h.os
  tape := k.tape.trans h.tape
  output := k.output.trans h.output
  size := Nat.le_trans h.size k.size
  keep b hb ho ht := by
    rw [← h.keep b hb ho ht]
    refine k.keep b (Nat.lt_of_lt_of_le hb h.size) (fun hm => ?_) (fun t htt hbb => ?_)
    · rcases h.fresh b hm with h2 | h2
      · exact ho h2
      · omega
    · rcases h.tfresh t htt b hbb with h2 | ⟨t', ht', hb'⟩
      · omega
      · exact ht t' ht' hb'
  fresh b hb := by
    rcases k.fresh b hb with h1 | h1
    · exact h.fresh b h1
    · exact .inr (Nat.le_trans h.size h1)
  tfresh t ht b hb := by
    rcases k.tfresh t ht b hb with h1 | ⟨t', ht', hb'⟩
    · exact .inl (Nat.le_trans h.size h1)
    · exact h.tfresh t' ht' b hb'

/-- At a call whose caller has no object and no row of its own: all that was there is as it was. -/
theorem Ext.below {M M' : Imm} {ob' : List Nat} {tk' : List Tok} {w w' : World} (h : Ext M [] [] w M' ob' tk' w') : Below w.heap.size w w' :=
  ⟨h.os, h.tape, h.output, h.size, fun k hk => h.keep k hk (by simp) (by simp)⟩

/-- Memory that a run has not touched is as good behind it. -/
theorem Mem.same {M : Imm} {ob : List Nat} {tk : List Tok} {obs : List AObj} {w w' : World} (h : Mem M ob tk obs w) (hs : w.heap.size ≤ w'.heap.size)
    (hb : ∀ b, b < w.heap.size → w'.heap[b]? = w.heap[b]?) : Mem M ob tk obs w' := by
  have hlt : ∀ {b : Nat} {x}, w.heap[b]? = some x → b < w.heap.size := fun hx => (Array.getElem?_eq_some_iff.1 hx).1
  refine ⟨fun b o x hx => ?_, h.len, fun k c hc => ?_, fun b hb' => Nat.lt_of_lt_of_le (h.lt b hb') hs, h.inj, fun τ t ht => ?_, h.tokobj, h.tokinj⟩
  · obtain ⟨v, hv, hr⟩ := h.imm b o x hx
    exact ⟨v, (World.cell?_of_block (w := w) (a := ⟨b, o, none⟩) (hb b (World.block_lt_of_cell? w _ hv))).trans hv, hr⟩
  · obtain ⟨b, hob, hok⟩ := h.obj k c hc
    refine ⟨b, hob, ?_⟩
    cases c with
    | dead => trivial
    | cells cs =>
      obtain ⟨h1, cv, T, h2, h3⟩ := hok
      exact ⟨h1, cv, T, (hb b (hlt h2)).trans h2, h3⟩
    | row sz xs =>
      obtain ⟨h1, cv, T, h2, h3⟩ := hok
      exact ⟨h1, cv, T, (hb b (hlt h2)).trans h2, h3⟩
  · obtain ⟨n, xs, ⟨h1, h2⟩, h3⟩ := h.tok τ t ht
    refine ⟨n, xs, ⟨h1, ?_⟩, h3⟩
    rcases h2 with h2 | ⟨g, cap, cur, e1, e2, e3, r⟩
    · exact .inl h2
    · exact .inr ⟨g, cap, cur, e1, e2, (hb g (hlt e3)).trans e3, r⟩

end Go.AM
