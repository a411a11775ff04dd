/-
  The engine, second make, first part: abstract values, what each operation comes to, memory. Over any program.
-/
import Derived.WalkKit
import Derived.WalkLawsBesides
import Derived.RangeFuncLeaves
import Derived.OrdersIn
import Derived.TacticsIn
import Derived.Deep.AppendSrc
import Derived.Lib.Strings
import Derived.LaidEql
set_option linter.all false
namespace Go.AW
open Go.RowKit
def kmin : IntKind → Int
 | .i8 => -128 | .i16 => -32768 | .i32 => -2147483648 | .i64 => -9223372036854775808 | _ => 0
def kmax : IntKind → Int
 | .i8 => 127 | .i16 => 32767 | .i32 => 2147483647 | .i64 => 9223372036854775807
 | .u8 => 255 | .u16 => 65535 | .u32 => 4294967295 | .u64 => 18446744073709551615
def inR (k : IntKind) (n : Int) : Prop := kmin k ≤ n ∧ n ≤ kmax k
inductive Tk where
 | no | nil | full | own (k g : Nat)
inductive AVal where
 | undef
 | bool (b : Bool)
 | int (k : IntKind) (n : Int)
 | str (l : List UInt8)
 | slice (sz : Nat) (xs : List AVal) (t : Tk)
 | agg (cs : List AVal)
 | tup (vs : List AVal)
 | ptr (cs : List AVal)
 | ref (k off : Nat)
 | eref (k g i sz off : Nat)
 | csl (k off len sz : Nat)
 | row (k g : Nat)
 | sub (k g lo len sz : Nat)
 | rowc (k g c : Nat)
 | pre (k g n c sz : Nat)
 | mref (k : Nat)
 | nilptr | nilslice | nilmap | nilfunc | nilif
 | hsl (a : Option Addr) (n c : Nat)
 | func (fn : Fn) (first caps : List AVal)
 | iface (t : TypeId) (v : AVal)
def AVal.cells : AVal → List AVal
 | .agg cs => cs
 | v => [v]
abbrev Imm := Nat → Nat → AVal → Prop
def NoM (M : Imm) (b o : Nat) : Prop := ∀ x, ¬ M b o x
abbrev Hs := List (List Value)
def at' (ob : Hs) (k g : Nat) : Option Value := (ob[k]?).bind fun hs => hs[g]?
def HsLe (ob ob' : Hs) : Prop := ∀ (k : Nat) hs, ob[k]? = some hs → ∃ hs', ob'[k]? = some hs' ∧ hs <+: hs'
theorem HsLe.refl (ob : Hs) : HsLe ob ob := fun _ hs h => ⟨hs, h, List.prefix_refl _⟩
theorem HsLe.trans {a b c : Hs} (h : HsLe a b) (k : HsLe b c) : HsLe a c := fun i hs hi => by
 obtain ⟨h1, e1, p1⟩ := h i hs hi
 obtain ⟨h2, e2, p2⟩ := k i h1 e1
 exact ⟨h2, e2, p1.trans p2⟩
theorem HsLe.at {ob ob' : Hs} (h : HsLe ob ob') {k g : Nat} {v : Value} (hv : at' ob k g = some v) : at' ob' k g = some v := by
 unfold at' at *
 cases hk : ob[k]? with
 | none => rw [hk] at hv; cases hv
 | some hs =>
  rw [hk] at hv
  obtain ⟨hs', e, p⟩ := h k hs hk
  rw [e]
  simp only [Option.bind_some] at hv ⊢
  obtain ⟨t, rfl⟩ := p
  rw [List.getElem?_append_left (List.getElem?_eq_some_iff.1 hv).1]
  exact hv
def TkOK (ob : Hs) (v : Value) : Tk → Prop
 | .no => True
 | .nil => v = .slice none 0 0
 | .full => ∃ a n, v = .slice a n n
 | .own k g => at' ob k g = some v
theorem TkOK.mono {ob ob' : Hs} (ho : HsLe ob ob') {v : Value} {t : Tk} (h : TkOK ob v t) : TkOK ob' v t := by
 cases t with
 | own k g => exact ho.at h
 | _ => exact h
inductive Rep (M : Imm) (ob : Hs) : Value → AVal → Prop
 | undef (v) : Rep M ob v .undef
 | bool (b) : Rep M ob (.bool b) (.bool b)
 | int (k n) (h : inR k n) : Rep M ob (.int k n) (.int k n)
 | str (l : List UInt8) (h : (l.length : Int) ≤ 9223372036854775807) : Rep M ob (.string ⟨l.toArray⟩) (.str l)
 | agg (vs : List Value) (as : List AVal) (hl : vs.length = as.length) (h : ∀ (i : Nat) v a, vs[i]? = some v → as[i]? = some a → Rep M ob v a) : Rep M ob (.agg vs.toArray) (.agg as)
 | tup (vs : List Value) (as : List AVal) (hl : vs.length = as.length) (h : ∀ (i : Nat) v a, vs[i]? = some v → as[i]? = some a → Rep M ob v a) : Rep M ob (.tuple vs.toArray) (.tup as)
 | ptr (b o : Nat) (cs : List AVal) (h : ∀ (j : Nat) c, cs[j]? = some c → M b (o + j) c) : Rep M ob (.pointer (some ⟨b, o, none⟩)) (.ptr cs)
 | ref (k off b : Nat) (h : at' ob k 0 = some (.pointer (some ⟨b, 0, none⟩))) : Rep M ob (.pointer (some ⟨b, off, none⟩)) (.ref k off)
 | eref (k g i sz off b n c : Nat) (h : at' ob k g = some (.slice (some ⟨b, 0, none⟩) n c)) : Rep M ob (.pointer (some ⟨b, i * sz + off, none⟩)) (.eref k g i sz off)
 | csl (k off len sz b : Nat) (h : at' ob k 0 = some (.pointer (some ⟨b, 0, none⟩))) (hm : (len : Int) ≤ 9223372036854775807) : Rep M ob (.slice (some ⟨b, off, none⟩) len len) (.csl k off len sz)
 | row (k g : Nat) (a : Option Addr) (n c : Nat) (h : at' ob k g = some (.slice a n c)) : Rep M ob (.slice a n c) (.row k g)
 | sub (k g lo len sz b n c : Nat) (h : at' ob k g = some (.slice (some ⟨b, 0, none⟩) n c)) (hl : lo < c) (hn : lo + len ≤ n) (hc : n ≤ c) (hm : (n : Int) ≤ 9223372036854775807) : Rep M ob (.slice (some ⟨b, lo * sz, none⟩) len (c - lo)) (.sub k g lo len sz)
 | sub0 (k g lo sz : Nat) (a a' : Option Addr) (n c : Nat) (h : at' ob k g = some (.slice a n c)) (hl : lo = n) (hc : n = c) : Rep M ob (.slice a' 0 0) (.sub k g lo 0 sz)
 | rowc (k g c : Nat) (a : Option Addr) (n : Nat) (h : at' ob k g = some (.slice a n c)) (hm : (c : Int) ≤ 9223372036854775807) : Rep M ob (.slice a n c) (.rowc k g c)
 | pre (k g n c sz b len : Nat) (h : at' ob k g = some (.slice (some ⟨b, 0, none⟩) len c)) (hc : 0 < c) (hn : n ≤ len) (hl : len ≤ c) (hm : (c : Int) ≤ 9223372036854775807) : Rep M ob (.slice (some ⟨b, 0, none⟩) n c) (.pre k g n c sz)
 | mref (k b : Nat) (h : at' ob k 0 = some (.map (some b))) : Rep M ob (.map (some b)) (.mref k)
 | nilptr : Rep M ob (.pointer none) .nilptr
 | nilslice : Rep M ob (.slice none 0 0) .nilslice
 | nilmap : Rep M ob (.map none) .nilmap
 | nilfunc : Rep M ob .nilFunc .nilfunc
 | nilif : Rep M ob .nilIface .nilif
 | hsl (a : Option Addr) (n c : Nat) : Rep M ob (.slice a n c) (.hsl a n c)
 | slnil (sz : Nat) (t : Tk) (ht : TkOK ob (.slice none 0 0) t) : Rep M ob (.slice none 0 0) (.slice sz [] t)
 | slemp (sz : Nat) (t : Tk) (a : Addr) (cap : Nat) (ht : TkOK ob (.slice (some a) 0 cap) t) : Rep M ob (.slice (some a) 0 cap) (.slice sz [] t)
 | sl (sz b o n cap : Nat) (xs : List AVal) (t : Tk) (hn : xs.length = n) (hc : n ≤ cap) (hm : (n : Int) ≤ 9223372036854775807) (hz : ∀ x ∈ xs, x.cells.length = sz)
   (h : ∀ (i j : Nat) x c, xs[i]? = some x → x.cells[j]? = some c → M b (o + i * sz + j) c) (ht : TkOK ob (.slice (some ⟨b, o, none⟩) n cap) t) : Rep M ob (.slice (some ⟨b, o, none⟩) n cap) (.slice sz xs t)
 | func (fn : Fn) (fs cs : List Value) (fa ca : List AVal) (hf : fs.length = fa.length) (hc : cs.length = ca.length)
   (h1 : ∀ (i : Nat) v a, fs[i]? = some v → fa[i]? = some a → Rep M ob v a) (h2 : ∀ (i : Nat) v a, cs[i]? = some v → ca[i]? = some a → Rep M ob v a) :
   Rep M ob (.func fn fs.toArray cs.toArray) (.func fn fa ca)
 | iface (t : TypeId) (v : Value) (a : AVal) (h : Rep M ob v a) : Rep M ob (.iface t v) (.iface t a)
theorem Rep.mono {M M' : Imm} {ob ob' : Hs} (hM : ∀ b o x, M b o x → M' b o x) (ho : HsLe ob ob') {v : Value} {a : AVal} (h : Rep M ob v a) : Rep M' ob' v a := by
 induction h with
 | undef v => exact .undef v
 | bool b => exact .bool b
 | int k n h => exact .int k n h
 | str l h => exact .str l h
 | agg vs as hl _ ih => exact .agg vs as hl ih
 | tup vs as hl _ ih => exact .tup vs as hl ih
 | ptr b o cs h => exact .ptr b o cs fun j c hc => hM _ _ _ (h j c hc)
 | ref k off b h => exact .ref k off b (ho.at h)
 | eref k g i sz off b n c h => exact .eref k g i sz off b n c (ho.at h)
 | csl k off len sz b h hm => exact .csl k off len sz b (ho.at h) hm
 | row k g a n c h => exact .row k g a n c (ho.at h)
 | sub k g lo len sz b n c h hl hn hc hm => exact .sub k g lo len sz b n c (ho.at h) hl hn hc hm
 | sub0 k g lo sz a a' n c h hl hc => exact .sub0 k g lo sz a a' n c (ho.at h) hl hc
 | rowc k g c a n h hm => exact .rowc k g c a n (ho.at h) hm
 | pre k g n c sz b len h hc hn hl hm => exact .pre k g n c sz b len (ho.at h) hc hn hl hm
 | mref k b h => exact .mref k b (ho.at h)
 | nilptr => exact .nilptr
 | nilslice => exact .nilslice
 | nilmap => exact .nilmap
 | nilfunc => exact .nilfunc
 | nilif => exact .nilif
 | hsl a n c => exact .hsl a n c
 | slnil sz t ht => exact .slnil sz t (ht.mono ho)
 | slemp sz t a cap ht => exact .slemp sz t a cap (ht.mono ho)
 | sl sz b o n cap xs t hn hc hm hz h ht => exact .sl sz b o n cap xs t hn hc hm hz (fun i j x c hx hj => hM _ _ _ (h i j x c hx hj)) (ht.mono ho)
 | func fn fs cs fa ca hf hc _ _ ih1 ih2 => exact .func fn fs cs fa ca hf hc ih1 ih2
 | iface t v a _ ih => exact .iface t v a ih
theorem hsle_nil (ob : Hs) : HsLe [] ob := fun k hs h => by simp at h
theorem Rep.pure {M : Imm} {ob : Hs} {v : Value} {a : AVal} (h : Rep M [] v a) : Rep M ob v a := h.mono (fun _ _ _ h => h) (hsle_nil ob)
theorem Rep.monoM {M M' : Imm} {ob : Hs} {v : Value} {a : AVal} (h : Rep M ob v a) (hM : ∀ b o x, M b o x → M' b o x) : Rep M' ob v a := h.mono hM (HsLe.refl _)
structure BInv where
 inv : Imm → List Nat → World → Prop
 mono : ∀ {M M' : Imm} {bs : List Nat} {w w' : World}, (∀ b o x, M b o x → M' b o x) → (∀ b, b ∈ bs → ∀ o, NoM M b o → NoM M' b o) → (∀ b c, b ∈ bs → w.heap[b]? = some c → w'.heap[b]? = some c) → inv M bs w → inv M' bs w'
def isDefd : Obj → Bool
 | .deferred _ => true
 | _ => false
def bunV (bs : List Nat) : Value := .tuple (bs.map fun b => Value.map (some b)).toArray
inductive AObj where
 | dead
 | cells (T : TypeId) (cs : List AVal)
 | fcells (cs : List AVal)
 | row (g sz : Nat) (e : TypeId) (xs : List AVal)
 | frow (g sz : Nat) (xs : List AVal)
 | tail (g sz : Nat) (e : TypeId)
 | mp (ag : Bool) (es : List (List Int × AVal))
 | bun (g : Nat) (I : BInv)
def mapB : Value → Option Nat
 | .map (some b) => some b
 | _ => none
def blkV : Value → List Nat
 | .pointer (some a) => [a.block]
 | .slice (some a) _ _ => [a.block]
 | .map (some b) => [b]
 | .tuple vs => vs.toList.filterMap mapB
 | _ => []
def blk (hs : List Value) : List Nat := match hs.getLast? with | some v => blkV v | none => []
theorem blk_bun {hs : List Value} {bs : List Nat} (h : hs.getLast? = some (bunV bs)) : blk hs = bs := by
 unfold blk
 rw [h]
 show (bs.map fun b => Value.map (some b)).filterMap mapB = bs
 clear h
 induction bs with
 | nil => rfl
 | cons b r ih => simp only [List.map_cons, List.filterMap_cons, mapB, ih]
theorem mem_blk1 {b c : Nat} : b ∈ ([c] : List Nat) ↔ c = b := by simp [eq_comm]
def AObj.owns : AObj → Bool
 | .dead | .fcells _ | .frow _ _ _ => false
 | _ => true
def cellAt (sz : Nat) (xs : List AVal) (q : Nat) : Option AVal := (xs[q / sz]?).bind fun x => x.cells[q % sz]?
def OneB (w : World) (v : Value) : Prop := ∀ b, v.ownBlock = some b → ∀ cur T fz, w.heap[b]? = some (.cells cur T fz) → ∀ u ∈ cur.toList, u.oneCell' = true
def RowAt (M : Imm) (w : World) (v : Value) (sz : Nat) (e : TypeId) (xs : List AVal) : Prop :=
 ∃ cv, w.ownsRow 0 e sz v xs.length cv ∧ (∀ u ∈ cv, u.oneCell' = true) ∧ (∀ x ∈ xs, x.cells.length = sz) ∧
  (∀ (q : Nat) c, cellAt sz xs q = some c → ∃ u, cv[q]? = some u ∧ Rep M [] u c) ∧ (∀ b, v.ownBlock = some b → ∀ o, NoM M b o) ∧ OneB w v
def keyV (ag : Bool) (l : List Int) : Value := if ag then .agg (l.map (Value.int .i64)).toArray else .int .i64 (l.headD 0)
def MpAt (M : Imm) (w : World) (b : Nat) (ag : Bool) (es : List (List Int × AVal)) : Prop :=
 ∃ (en : List MapEntry) (clock : Nat), w.heap[b]? = some (.map en.toArray clock) ∧ en.length = es.length ∧ (∀ (i : Nat) x y, en[i]? = some x → es[i]? = some y → x.key = keyV ag y.1 ∧ (ag = false → y.1.length = 1) ∧ Rep M [] x.val y.2) ∧
  (∀ (i : Nat) x, en[i]? = some x → x.born < clock) ∧ ∀ (i j : Nat) x y, en[i]? = some x → en[j]? = some y → x.born = y.born → i = j
def ObjOK (M : Imm) (ob : Hs) (w : World) (hs : List Value) : AObj → Prop
 | .dead => True
 | .cells T cs => ∃ b, hs = [.pointer (some ⟨b, 0, none⟩)] ∧ (∀ o, NoM M b o) ∧ ∃ (cv : List Value), w.heap[b]? = some (.cells cv.toArray T (0, 0)) ∧ cv.length = cs.length ∧ (∀ v ∈ cv, v.oneCell' = true) ∧
   ∀ (i : Nat) v a, cv[i]? = some v → cs[i]? = some a → Rep M ob v a
 | .fcells cs => ∃ b, hs = [.pointer (some ⟨b, 0, none⟩)] ∧ ∀ (j : Nat) c, cs[j]? = some c → M b j c
 | .row g sz e xs => hs.length = g + 1 ∧ ∃ v, hs[g]? = some v ∧ RowAt M w v sz e xs
 | .frow g sz xs => ∃ v, hs[g]? = some v ∧ Rep M [] v (.slice sz xs .no)
 | .tail g sz e => hs.length = g + 1 ∧ ∃ v, hs[g]? = some v ∧ ∃ n cv, w.ownsRow 0 e sz v n cv ∧ ∀ b, v.ownBlock = some b → ∀ o, n * sz ≤ o → NoM M b o
 | .mp ag es => ∃ b, hs = [.map (some b)] ∧ (∀ o, NoM M b o) ∧ MpAt M w b ag es
 | .bun g I => hs.length = g + 1 ∧ ∃ bs, hs[g]? = some (bunV bs) ∧ (∀ b, b ∈ bs → ∃ o, w.heap[b]? = some o ∧ isDefd o = false) ∧ I.inv M bs w
def Alive (ob : Hs) (obs : List AObj) (k b : Nat) : Prop := ∃ c hs, obs[k]? = some c ∧ c.owns = true ∧ ob[k]? = some hs ∧ b ∈ blk hs
structure Mem (M : Imm) (ob : Hs) (obs : List AObj) (w : World) : Prop where
 imm : ∀ b o x, M b o x → ∃ v, w.cell? ⟨b, o, none⟩ = some v ∧ v.oneCell' = true ∧ Rep M [] v x
 len : ob.length = obs.length
 obj : ∀ (k : Nat) c, obs[k]? = some c → ∃ hs, ob[k]? = some hs ∧ ObjOK M ob w hs c
 lt : ∀ k b, Alive ob obs k b → b < w.heap.size
 inj : ∀ k k' b, Alive ob obs k b → Alive ob obs k' b → k = k'
structure Ext (M : Imm) (ob : Hs) (obs : List AObj) (w : World) (M' : Imm) (ob' : Hs) (obs' : List AObj) (w' : World) : Prop where
 imm : ∀ b o x, M b o x → M' b o x
 new : ∀ b o x, M' b o x → M b o x ∨ w.heap.size ≤ b ∨ ∃ k, Alive ob obs k b
 hs : HsLe ob ob'
 os : w'.os = w.os
 tape : w'.tape = w.tape
 output : w'.output = w.output
 size : w.heap.size ≤ w'.heap.size
 keep : ∀ b, b < w.heap.size → (∀ k, ¬ Alive ob obs k b) → w'.heap[b]? = w.heap[b]?
 fresh : ∀ k b, Alive ob' obs' k b → (∃ k', Alive ob obs k' b) ∨ w.heap.size ≤ b
theorem Ext.refl (M : Imm) (ob : Hs) (obs : List AObj) (w : World) : Ext M ob obs w M ob obs w where
 imm _ _ _ h := h
 new _ _ _ h := .inl h
 hs := HsLe.refl _
 os := rfl
 tape := rfl
 output := rfl
 size := Nat.le_refl _
 keep _ _ _ := rfl
 fresh k _ h := .inl ⟨k, h⟩
theorem Ext.trans {M M1 M2 : Imm} {ob ob1 ob2 : Hs} {obs obs1 obs2 : List AObj} {w w1 w2 : World} (h : Ext M ob obs w M1 ob1 obs1 w1) (k : Ext M1 ob1 obs1 w1 M2 ob2 obs2 w2) :
  Ext M ob obs w M2 ob2 obs2 w2 where
 imm b o x hx := k.imm _ _ _ (h.imm _ _ _ hx)
 new b o x hx := by
  rcases k.new b o x hx with h1 | h1 | ⟨i, hi⟩
  ·exact h.new b o x h1
  ·exact .inr (.inl (Nat.le_trans h.size h1))
  ·rcases h.fresh i b hi with h2 | h2
   ·exact .inr (.inr h2)
   ·exact .inr (.inl h2)
 hs := h.hs.trans k.hs
 os := k.os.trans h.os
 tape := k.tape.trans h.tape
 output := k.output.trans h.output
 size := Nat.le_trans h.size k.size
 keep b hb ho := by
  rw [← h.keep b hb ho]
  refine k.keep b (Nat.lt_of_lt_of_le hb h.size) fun i hi => ?_
  rcases h.fresh i b hi with ⟨j, hj⟩ | h2
  ·exact ho j hj
  ·omega
 fresh i b hi := by
  rcases k.fresh i b hi with ⟨j, hj⟩ | h1
  ·exact h.fresh j b hj
  ·exact .inr (Nat.le_trans h.size h1)
def Still (ob : Hs) (obs : List AObj) (ob' : Hs) (obs' : List AObj) : Prop := ∀ (k : Nat) hs, obs[k]? = some .dead → ob[k]? = some hs →
 (hs ≠ [] → obs'[k]? = some .dead ∧ ob'[k]? = some hs) ∧ (hs = [] → obs'[k]? = some .dead → ob'[k]? = some [])
theorem Still.refl (ob : Hs) (obs : List AObj) : Still ob obs ob obs := fun _ _ h1 h2 => ⟨fun _ => ⟨h1, h2⟩, fun e _ => e ▸ h2⟩
theorem Ext.below {M M' : Imm} {ob' : Hs} {obs' : List AObj} {w w' : World} (h : Ext M [] [] w M' ob' obs' w') : Below w.heap.size w w' :=
 ⟨h.os, h.tape, h.output, h.size, fun b hb => h.keep b hb fun k ⟨c, hs, h1, _⟩ => by simp at h1⟩
theorem getD_lt {w : World} {b : Nat} {x : Obj} (hx : w.heap[b]? = some x) : b < w.heap.size := (Array.getElem?_eq_some_iff.1 hx).1
theorem RowAt.mono {M M' : Imm} {w w' : World} {v : Value} {sz : Nat} {e : TypeId} {xs : List AVal} (h : RowAt M w v sz e xs) (hM : ∀ b o x, M b o x → M' b o x)
  (hn : ∀ b, v.ownBlock = some b → (∀ o, NoM M b o) → ∀ o, NoM M' b o) (hb : ∀ b c, v.ownBlock = some b → w.heap[b]? = some c → w'.heap[b]? = some c) : RowAt M' w' v sz e xs := by
 obtain ⟨cv, ⟨h1, h2⟩, h3, h4, h5, h6, h7⟩ := h
 refine ⟨cv, ⟨h1, ?_⟩, h3, h4, fun q c hc => ?_, fun b e => hn b e (h6 b e), fun b e cur T fz hc => ?_⟩
 ·rcases h2 with h2 | ⟨g, cap, cur, e1, e2, e3, r⟩
  ·exact .inl h2
  ·exact .inr ⟨g, cap, cur, e1, e2, hb g _ (by rw [e1]; rfl) e3, r⟩
 ·obtain ⟨u, hu, hr⟩ := h5 q c hc
  exact ⟨u, hu, hr.monoM hM⟩
 ·rcases h2 with ⟨rfl, _⟩ | ⟨g, cap, cur', e1, _, e3, _⟩
  ·cases e
  ·rw [e1] at e
   cases e
   have := hb g _ (by rw [e1]; rfl) e3
   rw [hc] at this
   cases this
   exact h7 g (by rw [e1]; rfl) _ _ _ e3
theorem ObjOK.mono {M M' : Imm} {ob ob' : Hs} {w w' : World} {hs : List Value} {x : AObj} (h : ObjOK M ob w hs x) (hM : ∀ b o x, M b o x → M' b o x) (ho : HsLe ob ob')
  (hn : ∀ b, x.owns = true → b ∈ blk hs → ∀ o, NoM M b o → NoM M' b o) (hb : ∀ b c, x.owns = true → b ∈ blk hs → w.heap[b]? = some c → w'.heap[b]? = some c) : ObjOK M' ob' w' hs x := by
 have blkg : ∀ {g : Nat} {v : Value}, hs.length = g + 1 → hs[g]? = some v → blk hs = blkV v := fun {g v} hl hv => by
  unfold blk
  rw [List.getLast?_eq_getElem?, hl, Nat.add_sub_cancel, hv]
 have ownb : ∀ {v : Value} {b : Nat}, v.ownBlock = some b → b ∈ blkV v := fun {v b} h => by
  unfold Value.ownBlock at h
  split at h
  ·cases h; simp [blkV]
  ·cases h
 have ownm : ∀ {v : Value} {b : Nat}, blk hs = blkV v → v.ownBlock = some b → b ∈ blk hs := fun {v b} h1 h2 => by rw [h1]; exact ownb h2
 cases x with
 | dead => trivial
 | cells T cs =>
  obtain ⟨b, rfl, h1, cv, h2, h3, h4, h5⟩ := h
  exact ⟨b, rfl, fun o => hn b rfl (mem_blk1.2 rfl) o (h1 o), cv, hb b _ rfl (mem_blk1.2 rfl) h2, h3, h4, fun i v a hv ha => (h5 i v a hv ha).mono hM ho⟩
 | fcells cs =>
  obtain ⟨b, rfl, h1⟩ := h
  exact ⟨b, rfl, fun j c hc => hM _ _ _ (h1 j c hc)⟩
 | row g sz e xs =>
  obtain ⟨h1, v, h2, h3⟩ := h
  exact ⟨h1, v, h2, h3.mono hM (fun b e hno o => hn b rfl (ownm (blkg h1 h2) e) o (hno o)) (fun b c e => hb b c rfl (ownm (blkg h1 h2) e))⟩
 | frow g sz xs =>
  obtain ⟨v, h1, h2⟩ := h
  exact ⟨v, h1, h2.monoM hM⟩
 | tail g sz e =>
  obtain ⟨h1, v, h2, n, cv, ⟨h3, h4⟩, h5⟩ := h
  refine ⟨h1, v, h2, n, cv, ⟨h3, ?_⟩, fun b e o ho => hn b rfl (ownm (blkg h1 h2) e) o (h5 b e o ho)⟩
  rcases h4 with h4 | ⟨g', cap, cur, e1, e2, e3, r⟩
  ·exact .inl h4
  ·exact .inr ⟨g', cap, cur, e1, e2, hb g' _ rfl (ownm (blkg h1 h2) (by rw [e1]; rfl)) e3, r⟩
 | mp ag es =>
  obtain ⟨b, rfl, h1, en, cl, h2, h3, h4, h5⟩ := h
  exact ⟨b, rfl, fun o => hn b rfl (mem_blk1.2 rfl) o (h1 o), en, cl, hb b _ rfl (mem_blk1.2 rfl) h2, h3, fun i x y hx hy => ⟨(h4 i x y hx hy).1, (h4 i x y hx hy).2.1, (h4 i x y hx hy).2.2.monoM hM⟩, h5⟩
 | bun g I =>
  obtain ⟨h1, bs, h2, h3, h4⟩ := h
  have e : blk hs = bs := by rw [← blk_bun (hs := [bunV bs]) rfl]; exact blkg h1 h2
  refine ⟨h1, bs, h2, fun b hb' => ?_, I.mono hM (fun b hb' => hn b rfl (by rw [e]; exact hb')) (fun b c hb' => hb b c rfl (by rw [e]; exact hb')) h4⟩
  obtain ⟨o, h5, h6⟩ := h3 b hb'
  exact ⟨o, hb b _ rfl (by rw [e]; exact hb') h5, h6⟩
theorem Mem.same {M : Imm} {ob : Hs} {obs : List AObj} {w w' : World} (h : Mem M ob obs w) (hs : w.heap.size ≤ w'.heap.size)
  (hb : ∀ b, b < w.heap.size → w'.heap[b]? = w.heap[b]?) : Mem M ob obs w' := by
 refine ⟨fun b o x hx => ?_, h.len, fun k c hc => ?_, fun k b hb' => Nat.lt_of_lt_of_le (h.lt k b hb') hs, h.inj⟩
 ·obtain ⟨v, hv, hr⟩ := h.imm b o x hx
  exact ⟨v, (World.cell?_of_block (w := w) (a := ⟨b, o, none⟩) (hb b (World.block_lt_of_cell? w _ hv))).trans hv, hr⟩
 ·obtain ⟨hs', hob, hok⟩ := h.obj k c hc
  exact ⟨hs', hob, hok.mono (fun _ _ _ h => h) (HsLe.refl _) (fun _ _ _ _ h => h) (fun b c _ _ hc => (hb b (getD_lt hc)).trans hc)⟩
theorem Mem.noImm {M : Imm} {ob : Hs} {obs : List AObj} {w : World} (h : Mem M ob obs w) {b : Nat} (hb : w.heap.size ≤ b) (o : Nat) : NoM M b o := by
 intro x hx
 obtain ⟨v, hv, _⟩ := h.imm b o x hx
 have := World.block_lt_of_cell? w _ hv
 simp at this
 omega
inductive TK where
 | int (k : IntKind) | bool | str | strct (fs : List (Nat × Nat × Bool)) | arr (n esz : Nat) (eagg : Bool) | slc (e esz ebytes : Nat) | ptr (e : Nat) | iface | mp (k e : Nat) | other
structure TI where
 kind : TK
 size : Nat
 agg : Bool
 zero : AVal
abbrev Tab := List (Nat × TI)
def tget : Tab → Nat → Option TI
 | [], _ => none
 | (i, x) :: r, n => bif Nat.beq i n then some x else tget r n
abbrev MTab := List (Nat × String × Nat)
def mget : MTab → Nat → String → Option Nat
 | [], _, _ => none
 | (i, s, f) :: r, n, m => bif (Nat.beq i n && s == m) then some f else mget r n m
structure Env where
 P : Program
 T : Tab
 mt : MTab
 fl : List (Nat × Nat)
 own : List Nat
 rws : List Nat
 bl : List Nat
 df : List (Nat × List AVal)
 rd : Option Nat := none
def memN (n : Nat) : List Nat → Bool
 | [] => false
 | x :: r => Nat.beq x n || memN n r
def getS : List (Nat × AVal) → Nat → AVal
 | [], _ => .undef
 | (i, v) :: r, n => bif Nat.beq i n then v else getS r n
def putS : List (Nat × AVal) → Nat → AVal → List (Nat × AVal)
 | [], n, x => [(n, x)]
 | (i, v) :: r, n, x => bif Nat.beq i n then (n, x) :: r else (i, v) :: putS r n x
def oget : List AObj → Nat → AObj
 | [], _ => .dead
 | x :: _, 0 => x
 | _ :: r, n + 1 => oget r n
def oput : List AObj → Nat → AObj → List AObj
 | [], 0, y => [y]
 | [], n + 1, y => .dead :: oput [] n y
 | _ :: r, 0, y => y :: r
 | x :: r, n + 1, y => x :: oput r n y
def olen : List AObj → Nat
 | [] => 0
 | _ :: r => olen r + 1
def cdrop : Nat → List AVal → List AVal
 | 0, l => l
 | _ + 1, [] => []
 | n + 1, _ :: l => cdrop n l
def ctake : Nat → List AVal → Option (List AVal)
 | 0, _ => some []
 | _ + 1, [] => none
 | n + 1, c :: l => match ctake n l with | some r => some (c :: r) | none => none
def cput : List AVal → List AVal → Option (List AVal)
 | [], l => some l
 | _ :: _, [] => none
 | c :: r, _ :: l => match cput r l with | some x => some (c :: x) | none => none
def cputAt : Nat → List AVal → List AVal → Option (List AVal)
 | 0, new, l => cput new l
 | _ + 1, _, [] => none
 | n + 1, new, c :: l => match cputAt n new l with | some x => some (c :: x) | none => none
def clen : List AVal → Nat
 | [] => 0
 | _ :: r => clen r + 1
def nth {α : Type} : List α → Nat → Option α
 | [], _ => none
 | x :: _, 0 => some x
 | _ :: r, n + 1 => nth r n
def app3 : List AVal → List AVal → List AVal
 | [], l => l
 | c :: r, l => c :: app3 r l
def mapL (f : AVal → AVal) : List AVal → List AVal
 | [] => []
 | c :: r => f c :: mapL f r
def kmaxN : IntKind → Nat
 | .i8 => 127 | .i16 => 32767 | .i32 => 2147483647 | .i64 => 9223372036854775807
 | .u8 => 255 | .u16 => 65535 | .u32 => 4294967295 | .u64 => 18446744073709551615
def kminN : IntKind → Nat
 | .i8 => 128 | .i16 => 32768 | .i32 => 2147483648 | .i64 => 9223372036854775808 | _ => 0
def inRb (k : IntKind) : Int → Bool
 | .ofNat m => Nat.ble m (kmaxN k)
 | .negSucc m => Nat.blt m (kminN k)
def lenB : List UInt8 → Nat
 | [] => 0
 | _ :: r => lenB r + 1
def cval : Value → AVal
 | .bool b => .bool b
 | .int k n => bif inRb k n then .int k n else .undef
 | .string s => bif Nat.ble (lenB s.data.toList) 1000000 then .str s.data.toList else .undef
 | .slice none 0 0 => .nilslice
 | .pointer none => .nilptr
 | .map none => .nilmap
 | .nilFunc => .nilfunc
 | .nilIface => .nilif
 | _ => .undef
def ev (fr : List (Nat × AVal)) : Operand → AVal
 | .tmp t => getS fr t
 | .const v => cval v
 | .func f => .func (.func f) [] []
 | .global _ => .undef
def one : AVal → Bool
 | .undef | .agg _ | .tup _ => false
 | _ => true
def oneL : List AVal → Bool
 | [] => true
 | c :: r => one c && oneL r
def notU : AVal → Bool
 | .undef => false
 | _ => true
def pureV (og : Nat → AObj) : Nat → AVal → AVal
 | 0, _ => .undef
 | n + 1, v => match v with
  | .slice sz xs _ => .slice sz xs .no
  | .agg cs => .agg (mapL (pureV og n) cs)
  | .tup cs => .tup (mapL (pureV og n) cs)
  | .func fn fs cs => .func fn (mapL (pureV og n) fs) (mapL (pureV og n) cs)
  | .iface t v => .iface t (pureV og n v)
  | .ref k off => (match og k with | .fcells cs => .ptr (cdrop off cs) | _ => .undef)
  | .csl k off len sz => (match og k with | .fcells cs => bif Nat.beq sz 1 then (match ctake len (cdrop off cs) with | some l => bif oneL l then .slice 1 l .full else .undef | none => .undef) else .undef | _ => .undef)
  | .row k g => (match og k with | .frow g' sz xs => bif Nat.beq g g' then .slice sz xs .no else .undef | _ => .undef)
  | .sub k g lo len sz => (match og k with | .frow g' sz' xs => bif Nat.beq g g' && Nat.beq sz sz' then .slice sz ((xs.drop lo).take len) .no else .undef | _ => .undef)
  | .eref _ _ _ _ _ => .undef
  | .rowc _ _ _ => .undef
  | .pre _ _ _ _ _ => .undef
  | .mref _ => .undef
  | v => v
def foldO (f : List AObj → AVal → List AObj) : List AObj → List AVal → List AObj
 | obs, [] => obs
 | obs, c :: r => foldO f (f obs c) r
def frz1 (obs : List AObj) (k : Nat) : List AObj := match oget obs k with
 | .cells _ cs => oput obs k (.fcells (mapL (pureV (oget obs) 4) cs))
 | _ => obs
def frzR (obs : List AObj) (k g : Nat) : List AObj := match oget obs k with
 | .row g' sz _ xs => bif Nat.beq g g' then oput obs k (.frow g sz xs) else obs
 | _ => obs
def frzV : Nat → List AObj → AVal → List AObj
 | 0, obs, _ => obs
 | n + 1, obs, v => match v with
  | .agg cs => foldO (frzV n) obs cs
  | .tup cs => foldO (frzV n) obs cs
  | .func _ fs cs => foldO (frzV n) (foldO (frzV n) obs fs) cs
  | .iface _ v => frzV n obs v
  | .ref k _ => (match oget obs k with | .cells _ cs => frz1 (foldO (frzV n) obs cs) k | _ => obs)
  | .csl k _ _ _ => (match oget obs k with | .cells _ cs => frz1 (foldO (frzV n) obs cs) k | _ => obs)
  | .row k g => frzR obs k g
  | .sub k g _ _ _ => frzR obs k g
  | _ => obs
def frzL (obs : List AObj) (l : List AVal) : List AObj := foldO (frzV 6) obs l
def frzs : List Nat → List AObj → List AObj
 | [], obs => obs
 | k :: r, obs => frzs r (match oget obs k with
  | .row g _ _ _ => frzR obs k g
  | .cells _ _ => frzV 6 obs (.ref k 0)
  | _ => obs)
inductive OR where
 | no
 | val (v : AVal)
 | mkf (fn : Fn) (fs cs : List AVal)
 | need (p : Prop) (r : OR)
 | alt (p : Prop) (v w : AVal)
 | idx (n : Int) (k : Nat → OR)
 | elem (xs : List AVal) (i : Nat) (k : AVal → OR)
 | byte (l : List UInt8) (i : Nat)
 | text (xs : List AVal)
 | find (es : List (List Int × AVal)) (key : List Int) (k : Option AVal → OR)
 | born (x : AObj) (v : AVal)
 | upd (k : Nat) (x : AObj) (v : AVal)
 | nilq (xs : List AVal) (neg : Bool)
 | call (f : Fn) (args : List AVal)
 | pan (v : AVal)
def OR.bind : OR → (AVal → OR) → OR
 | .val v, k => k v
 | .need p r, k => .need p (r.bind k)
 | .elem xs i f, k => .elem xs i fun x => (f x).bind k
 | .idx n f, k => .idx n fun i => (f i).bind k
 | _, _ => .no
def ebits : BinOp → IntKind → Int → Int → Int
 | op, k, x, y =>
  let a := BitVec.ofInt k.bits x
  let b := BitVec.ofInt k.bits y
  match op with
  | .and => k.wrap (a &&& b).toNat
  | .or => k.wrap (a ||| b).toNat
  | .xor => k.wrap (a ^^^ b).toNat
  | _ => k.wrap (a &&& ~~~b).toNat
def earith (k : IntKind) (n : Int) : OR := .alt (inR k n) (.int k n) (.int k (k.wrap n))
def kbeq : IntKind → IntKind → Bool
 | .i8, .i8 | .i16, .i16 | .i32, .i32 | .i64, .i64 | .u8, .u8 | .u16, .u16 | .u32, .u32 | .u64, .u64 => true
 | _, _ => false
def eint (op : BinOp) (k : IntKind) (x y : Int) : OR :=
 match op with
 | .add => earith k (x + y)
 | .sub => earith k (x - y)
 | .mul => earith k (x * y)
 | .quo => .need (y ≠ 0) (.alt (inR k (x.tdiv y)) (.int k (x.tdiv y)) (.int k (k.wrap (x.tdiv y))))
 | .rem => .need (y ≠ 0) (.val (.int k (x.tmod y)))
 | .and => .val (.int k (ebits .and k x y))
 | .or => .val (.int k (ebits .or k x y))
 | .xor => .val (.int k (ebits .xor k x y))
 | .andNot => .val (.int k (ebits .andNot k x y))
 | .eql => .val (.bool (x == y))
 | .neq => .val (.bool (x != y))
 | .lss => .val (.bool (decide (x < y)))
 | .leq => .val (.bool (decide (x ≤ y)))
 | .gtr => .val (.bool (decide (y < x)))
 | .geq => .val (.bool (decide (y ≤ x)))
 | _ => .no
def ceq : List AVal → List AVal → Option Bool
 | [], [] => some true
 | .int k a :: r, .int k' b :: s => bif kbeq k k' then (match ceq r s with | some c => some ((a == b) && c) | none => none) else none
 | _, _ => none
def fget : List (Nat × Nat) → Nat → Nat
 | [], _ => 0
 | (i, n) :: r, t => bif Nat.beq i t then n else fget r t
def outC (op : BinOp) (c : Bool) : OR :=
 match op with
 | .eql => .val (.bool c)
 | .neq => .val (.bool (!c))
 | _ => .no
def outN (op : BinOp) (xs : List AVal) : OR :=
 match op with
 | .eql => .nilq xs false
 | .neq => .nilq xs true
 | _ => .no
def isC : Operand → Bool
 | .const _ => true
 | _ => false
def ebin (E : Env) (og : Nat → AObj) (lit : Bool) (op : BinOp) (t : Nat) (a b : AVal) : OR :=
 match a, b with
 | .int k x, .int k' y =>
  (match op with
  | .shl => .need (0 ≤ y) (.alt (y.toNat ≤ k.bits ∧ inR k (x * 2 ^ y.toNat)) (.int k (x * 2 ^ y.toNat)) (.int k (k.wrap (x * 2 ^ (min y.toNat k.bits)))))
  | .shr => .need (0 ≤ y ∧ y.toNat ≤ k.bits) (.val (.int k (x.fdiv (2 ^ y.toNat))))
  | op => bif kbeq k k' then eint op k x y else .no)
 | .str x, .str y =>
  (match op with
  | .add => .need (((x.length + y.length : Nat) : Int) ≤ 9223372036854775807) (.val (.str (x ++ y)))
  | .eql => .val (.bool (x == y))
  | .neq => .val (.bool (!(x == y)))
  | .lss => .val (.bool (Op.bytesLess x y))
  | .leq => .val (.bool (Op.bytesLess x y || x == y))
  | .gtr => .val (.bool (!(Op.bytesLess x y || x == y)))
  | .geq => .val (.bool (!Op.bytesLess x y))
  | _ => .no)
 | .agg xs, .agg ys =>
  bif Nat.blt 0 (fget E.fl t) && Nat.beq (clen xs) (fget E.fl t) then
   (match op, ceq xs ys with
   | .eql, some c => .val (.bool c)
   | .neq, some c => .val (.bool (!c))
   | _, _ => .no)
  else .no
 | a, b => match tget E.T t with
  | none => .no
  | some ti => match ti.kind, a, b with
   | .bool, .bool x, .bool y => outC op (x == y)
   | .slc _ _ _, .slice _ _ .nil, .nilslice => outC op true
   | .slc _ _ _, .nilslice, .nilslice => outC op true
   | .slc _ _ _, .slice _ xs _, .nilslice => outN op xs
   | .ptr _, .nilptr, .nilptr => outC op true
   | .ptr _, .ref _ _, .nilptr => outC op false
   | .ptr _, .ptr _, .nilptr => outC op false
   | .ptr e, .ref k o, .ref k' o' => (match tget E.T e with
    | some _ => bif Nat.beq k k' && Nat.beq o o' then outC op true else .no
    | none => .no)
   | .iface, .nilif, .nilif => bif lit then outC op true else .no
   | .iface, .iface _ _, .nilif => outC op false
   | _, _, _ => .no
def mk (ti : TI) (l : List AVal) : Option AVal :=
 bif ti.agg then some (.agg l) else match l with
  | [c] => some c
  | _ => none
def fin (ti : TI) (l : Option (List AVal)) : OR :=
 match l with
 | none => .no
 | some l => match mk ti l with
  | none => .no
  | some v => .val v
def eload (E : Env) (og : Nat → AObj) (t : Nat) (a : AVal) : OR :=
 match tget E.T t with
 | none => .no
 | some ti => match a with
  | .ptr cs => fin ti (ctake ti.size cs)
  | .ref k off => (match og k with
   | .cells _ cs => fin ti (ctake ti.size (cdrop off cs))
   | .fcells cs => fin ti (ctake ti.size (cdrop off cs))
   | _ => .no)
  | .eref k g i sz off => (match og k with
   | .row g' sz' _ xs => bif Nat.beq g g' && Nat.beq sz sz' then .elem xs i fun x => fin ti (ctake ti.size (cdrop off x.cells)) else .no
   | _ => .no)
  | _ => .no
def only1 : List AVal → AVal
 | [c] => c
 | _ => .undef
def remk (x : AVal) (cs : List AVal) : AVal :=
 match x with
 | .agg _ => .agg cs
 | _ => only1 cs
def estore (E : Env) (og : Nat → AObj) (t : Nat) (a v : AVal) : OR :=
 match tget E.T t with
 | none => .no
 | some ti =>
  bif oneL v.cells && Nat.beq (clen v.cells) ti.size then
   match a with
   | .ref k off => (match og k with
    | .cells T cs => (match cputAt off v.cells cs with
     | some cs => .upd k (.cells T cs) .undef
     | none => .no)
    | _ => .no)
   | .eref k g i sz off => (match og k with
    | .row g' sz' e xs =>
     bif ((Nat.beq g g' && Nat.beq sz sz') && Nat.ble 1 sz) && oneL (pureV og 4 v).cells then
            (bif Nat.beq off 0 && Nat.beq ti.size sz then .need (i < xs.length) (.upd k (.row g sz e (xs.set i (pureV og 4 v))) .undef)
            else .elem xs i fun x => match cputAt off (pureV og 4 v).cells x.cells with
             | some cs => .upd k (.row g sz e (xs.set i (remk x cs))) .undef
             | none => .no)
     else .no
    | _ => .no)
   | _ => .no
  else .no
def efield (E : Env) (s : Nat) (a : AVal) (f : Nat) : OR :=
 match tget E.T s with
 | some { kind := .strct fs, .. } => (match nth fs f with
  | none => .no
  | some (off, sz, ag) => match a with
   | .agg cs => (match ctake sz (cdrop off cs) with
    | none => .no
    | some l => bif ag then .val (.agg l) else match l with
     | [c] => .val c
     | _ => .no)
   | _ => .no)
 | _ => .no
def efieldAddr (E : Env) (s : Nat) (a : AVal) (f : Nat) : OR :=
 match tget E.T s with
 | some { kind := .strct fs, .. } => (match nth fs f with
  | none => .no
  | some (off, sz, _) =>
   bif Nat.beq sz 0 then .no else
   match a with
   | .ptr cs => .val (.ptr (cdrop off cs))
   | .ref k x => .val (.ref k (x + off))
   | .eref k g i z x => .val (.eref k g i z (x + off))
   | _ => .no)
 | _ => .no
def eindexAddr (E : Env) (og : Nat → AObj) (t : Nat) (a i : AVal) : OR :=
 match tget E.T t, i with
 | some ti, .int _ n => (match ti.kind with
  | .slc _ esz _ => (match a with
   | .slice sz xs _ => bif Nat.beq sz esz then .idx n fun i => .elem xs i fun x => .val (.ptr x.cells) else .no
   | .row k g => (match og k with
    | .row g' sz _ xs => bif Nat.beq g g' && Nat.beq sz esz then .idx n fun i => .need (i < xs.length) (.val (.eref k g i sz 0)) else .no
    | .frow g' sz xs => bif Nat.beq g g' && Nat.beq sz esz then .idx n fun i => .elem xs i fun x => .val (.ptr x.cells) else .no
    | _ => .no)
   | .sub k g lo len sz => (match og k with
    | .row g' sz' _ _ => bif (Nat.beq g g' && Nat.beq sz sz') && Nat.beq sz esz then .idx n fun i => .need (i < len) (.val (.eref k g (lo + i) sz 0)) else .no
    | _ => .no)
   | _ => .no)
  | .arr len esz _ => (match a with
   | .ref k off => .need (0 ≤ n ∧ n.toNat < len) (.val (.ref k (off + n.toNat * esz)))
   | .ptr cs => .need (0 ≤ n ∧ n.toNat < len) (.val (.ptr (cdrop (n.toNat * esz) cs)))
   | _ => .no)
  | _ => .no)
 | _, _ => .no
def eindex (E : Env) (t : Nat) (a i : AVal) : OR :=
 match a, i with
 | .str l, .int _ n => (match tget E.T t with
  | some { kind := .str, .. } => .idx n fun i => .byte l i
  | _ => .no)
 | .agg cs, .int _ n => (match tget E.T t with
  | some { kind := .arr len esz ag, .. } => (match ctake esz (cdrop (n.toNat * esz) cs) with
   | some l => bif ag then .need (0 ≤ n ∧ n < len) (.val (.agg l)) else (match l with | [c] => .need (0 ≤ n ∧ n < len) (.val c) | _ => .no)
   | none => .no)
  | _ => .no)
 | _, _ => .no
def efill (place : Nat → Option (Nat × Nat)) : List AVal → List (Nat × AVal) → Option (List AVal)
 | cs, [] => some cs
 | cs, (i, v) :: r => match place i with
  | none => none
  | some (off, sz) => bif notU v && Nat.beq (clen v.cells) sz then (match cputAt off v.cells cs with | some cs => efill place cs r | none => none) else none
def ebuild (E : Env) (t : Nat) (parts : List (Nat × AVal)) : OR :=
 match tget E.T t with
 | some ti => (match ti.kind, ti.zero with
  | .strct fs, .agg z => (match efill (fun i => (nth fs i).map fun f => (f.1, f.2.1)) z parts with
   | some cs => .val (.agg cs)
   | none => .no)
  | .arr _ esz _, .agg z => (match efill (fun i => some (i * esz, esz)) z parts with
   | some cs => .val (.agg cs)
   | none => .no)
  | _, _ => .no)
 | _ => .no
def begin' (hint base sz : Nat) (e : TypeId) (xs : List AVal) : OR :=
 match hint with
 | 2 => .born (.row 0 sz e xs) (.row base 0)
 | _ => .born (.tail 0 sz e) (.slice sz xs (.own base 0))
def eelems (og : Nat → AObj) (esz : Nat) : Nat → List (Nat × AVal) → Option (List AVal)
 | _, [] => some []
 | n, (i, v) :: r => (fun v => bif Nat.beq i n && Nat.beq (clen v.cells) esz && oneL v.cells then (match eelems og esz (n + 1) r with | some l => some (v :: l) | none => none) else none) (pureV og 4 v)
def plen : List (Nat × AVal) → Nat
 | [] => 0
 | _ :: r => plen r + 1
def ebuildSlice (E : Env) (hint base : Nat) (og : Nat → AObj) (t len : Nat) (parts : List (Nat × AVal)) : OR :=
 match tget E.T t with
 | some { kind := .slc e esz _, .. } =>
  bif Nat.beq (plen parts) len && Nat.ble (len * esz) 1000 && Nat.ble 1 esz then
   match eelems og esz 0 parts with
   | some xs => (match hint with | 0 => .val (.slice esz xs .full) | h => begin' h base esz e xs)
   | none => .no
  else .no
 | _ => .no
def evL (ρ : Operand → AVal) : List (Nat × Operand) → List (Nat × AVal)
 | [] => []
 | (i, x) :: r => (i, ρ x) :: evL ρ r
def evO (ρ : Operand → AVal) : List Operand → List AVal
 | [] => []
 | x :: r => ρ x :: evO ρ r
def bnd : Option AVal → (Option Nat → OR) → OR
 | none, k => k none
 | some (.int _ n), k => .idx n fun i => k (some i)
 | some _, _ => .no
def eslice (E : Env) (og : Nat → AObj) (t : Nat) (a : AVal) (lo hi mx : Option AVal) : OR :=
 match tget E.T t with
 | none => .no
 | some ti => match a with
  | .str l => (match ti.kind, mx with
   | .str, none => bnd lo fun lo => bnd hi fun hi => match lo, hi with
    | none, none => .val (.str l)
    | some x, none => .need (x ≤ l.length) (.val (.str (l.drop x)))
    | none, some y => .need (y ≤ l.length) (.val (.str (l.take y)))
    | some x, some y => .need (x ≤ y ∧ y ≤ l.length) (.val (.str ((l.take y).drop x)))
   | _, _ => .no)
  | .slice sz xs _ => (match ti.kind with
   | .slc _ esz _ => bif Nat.beq sz esz then
     (bnd lo fun lo => bnd hi fun hi => bnd mx fun mx => match mx with
     | none => (match lo, hi with
            | none, none => .val (.slice sz xs .no)
            | some x, none => .need (x ≤ xs.length) (.val (.slice sz (xs.drop x) .no))
            | none, some y => .need (y ≤ xs.length) (.val (.slice sz (xs.take y) .no))
            | some x, some y => .need (x ≤ y ∧ y ≤ xs.length) (.val (.slice sz ((xs.take y).drop x) .no)))
     | some m => (match lo, hi with
            | none, some y => .need (y ≤ xs.length ∧ m = y) (.val (.slice sz (xs.take y) .full))
            | _, _ => .no))
    else .no
   | _ => .no)
  | .row k g => (match ti.kind, mx, og k with
   | .slc _ esz _, none, .row g' sz _ xs => bif Nat.beq g g' && Nat.beq sz esz then
     (bnd lo fun lo => bnd hi fun hi => match lo, hi with
     | none, none => .val (.row k g)
     | some x, none => .need (x ≤ xs.length) (.val (.sub k g x (xs.length - x) sz))
     | none, some y => .need (y ≤ xs.length) (.val (.sub k g 0 y sz))
     | some x, some y => .need (x ≤ y ∧ y ≤ xs.length) (.val (.sub k g x (y - x) sz)))
    else .no
   | _, _, _ => .no)
  | .sub k g l0 len sz => (match ti.kind, mx, og k with
   | .slc _ esz _, none, .row g' sz' _ xs => bif (Nat.beq g g' && Nat.beq sz sz') && Nat.beq sz esz then
     (bnd lo fun lo => bnd hi fun hi => match lo, hi with
     | none, none => .val (.sub k g l0 len sz)
     | some x, none => .need (x ≤ len) (.val (.sub k g (l0 + x) (len - x) sz))
     | none, some y => .need (l0 + y ≤ xs.length) (.val (.sub k g l0 y sz))
     | some x, some y => .need (x ≤ y ∧ l0 + y ≤ xs.length) (.val (.sub k g (l0 + x) (y - x) sz)))
    else .no
   | _, _, _ => .no)
  | .ref k off => (match ti.kind, lo, hi, mx with
   | .arr len esz _, none, none, none => .need ((len : Int) ≤ 9223372036854775807) (.val (.csl k off len esz))
   | _, _, _, _ => .no)
  | .ptr cs => (match ti.kind, lo, hi, mx with
   | .arr len 1 false, none, none, none => (match ctake len cs with
    | some l => bif oneL l then .need ((len : Int) ≤ 9223372036854775807) (.val (.slice 1 l .full)) else .no
    | none => .no)
   | _, _, _, _ => .no)
  | _ => .no
def ub (c : UInt8) : AVal := .int .u8 c.toNat
def srcL (og : Nat → AObj) : AVal → Option (Nat × List AVal)
 | .slice sz xs _ => some (sz, xs)
 | .row k g => (match og k with
  | .row g' sz _ xs => bif Nat.beq g g' then some (sz, xs) else none
  | .frow g' sz xs => bif Nat.beq g g' then some (sz, xs) else none
  | _ => none)
 | .sub k g lo len sz => (match og k with
  | .row g' sz' _ xs => bif Nat.beq g g' && Nat.beq sz sz' then some (sz, (xs.drop lo).take len) else none
  | _ => none)
 | _ => none
def srcE (E : Env) (og : Nat → AObj) (esz t2 : Nat) (x : AVal) : Option (List AVal) :=
 match x with
 | .str l => (match tget E.T t2 with | some { kind := .str, .. } => bif Nat.beq esz 1 then some (l.map ub) else none | _ => none)
 | .nilslice => (match tget E.T t2 with | some { kind := .slc _ _ _, .. } => some [] | _ => none)
 | x => match tget E.T t2, srcL og x with
  | some { kind := .slc _ _ _, .. }, some (sz, xs) => bif Nat.beq sz esz then some xs else none
  | _, _ => none
def econv (E : Env) (og : Nat → AObj) (s d : Nat) (a : AVal) : OR :=
 match tget E.T s, tget E.T d with
 | some ts, some td => (match td.kind, a with
  | .int k, .int _ n => .alt (inR k n) (.int k n) (.int k (k.wrap n))
  | .str, .str l => (match ts.kind with | .str => .val (.str l) | _ => .no)
  | .slc e 1 _, .str l => (match ts.kind, tget E.T e with
   | .str, some { kind := .int .u8, .. } => .val (.slice 1 (l.map ub) .no)
   | _, _ => .no)
  | .str, a => (match ts.kind, srcL og a with
   | .slc e 1 _, some (1, xs) => (match tget E.T e with
    | some { kind := .int .u8, .. } => .text xs
    | _ => .no)
   | _, _ => .no)
  | _, _ => .no)
 | _, _ => .no
def elen (E : Env) (og : Nat → AObj) (t : Nat) (a : AVal) : OR :=
 match tget E.T t with
 | none => .no
 | some ti => match ti.kind, a with
  | .str, .str l => .val (.int .i64 l.length)
  | .slc _ _ _, .slice _ xs _ => .val (.int .i64 xs.length)
  | .slc _ _ _, .nilslice => .val (.int .i64 0)
  | .slc _ _ _, .csl _ _ len _ => .val (.int .i64 len)
  | .slc _ _ _, .hsl _ n _ => .need ((n : Int) ≤ 9223372036854775807) (.val (.int .i64 n))
  | .slc _ _ _, .row k g => (match og k with
   | .row g' _ _ xs => bif Nat.beq g g' then .val (.int .i64 xs.length) else .no
   | .frow g' _ xs => bif Nat.beq g g' then .val (.int .i64 xs.length) else .no
   | _ => .no)
  | .slc _ _ _, .sub _ _ _ len _ => .val (.int .i64 len)
  | .arr n _ _, _ => .need ((n : Int) ≤ 9223372036854775807) (.val (.int .i64 n))
  | _, _ => .no
def fits (n eb : Nat) : Prop := n ≤ maxLen ∧ n * eb ≤ 140737488355328
def eappend (E : Env) (hint base : Nat) (og : Nat → AObj) (t t2 : Nat) (s x : AVal) : OR :=
 match tget E.T t with
 | some { kind := .slc e esz eb, .. } =>
  bif Nat.ble 1 esz then
   match srcE E og esz t2 x with
   | none => .no
   | some ys => (match s with
    | .slice sz xs tk => (match tk with
     | .own k g => (match og k with
      | .tail g' sz' e' => bif ((Nat.beq g g' && Nat.beq sz sz') && Nat.beq sz esz) && Nat.beq e e' then .need (fits (xs.length + ys.length) eb) (.upd k (.tail (g + 1) esz e) (.slice esz (xs ++ ys) (.own k (g + 1)))) else .no
      | _ => .no)
     | .nil => bif Nat.beq sz esz then .need (fits ys.length eb) (begin' hint base esz e ys) else .no
     | .full => bif Nat.beq sz esz then .need (fits (xs.length + ys.length) eb) (match hint with | 0 => .val (.slice esz (xs ++ ys) .no) | h => .need (ys ≠ []) (begin' h base esz e (xs ++ ys))) else .no
     | .no => .no)
    | .nilslice => .need (fits ys.length eb) (begin' hint base esz e ys)
    | .row k g => (match og k with
     | .row g' sz e' xs => bif (Nat.beq g g' && Nat.beq sz esz) && Nat.beq e e' then .need (fits (xs.length + ys.length) eb) (.upd k (.row (g + 1) sz e (xs ++ ys)) (.row k (g + 1))) else .no
     | _ => .no)
    | .sub k g lo len sz => (match og k with
     | .row g' sz' e' xs => bif ((Nat.beq g g' && Nat.beq sz sz') && Nat.beq sz esz) && Nat.beq e e' then
       .need (lo + len + ys.length ≤ xs.length) (.upd k (.row g sz e (xs.take (lo + len) ++ ys ++ xs.drop (lo + len + ys.length))) (.sub k g lo (len + ys.length) sz)) else .no
     | _ => .no)
    | _ => .no)
  else .no
 | _ => .no
def ecopy (E : Env) (og : Nat → AObj) (t t2 : Nat) (d x : AVal) : OR :=
 match tget E.T t with
 | some { kind := .slc e esz _, .. } =>
  bif Nat.ble 1 esz then
   match srcE E og esz t2 x with
   | none => .no
   | some ys => (match d with
    | .row k g => (match og k with
     | .row g' sz e' xs => bif Nat.beq g g' && Nat.beq sz esz then .upd k (.row g sz e' (ys.take xs.length ++ xs.drop ys.length)) (.int .i64 (min ys.length xs.length : Nat)) else .no
     | _ => .no)
    | .sub k g lo len sz => (match og k with
     | .row g' sz' e' xs => bif (Nat.beq g g' && Nat.beq sz sz') && Nat.beq sz esz then
       .upd k (.row g sz e' (xs.take lo ++ ys.take len ++ xs.drop (lo + min ys.length len))) (.int .i64 (min ys.length len : Nat)) else .no
     | _ => .no)
    | _ => .no)
  else .no
 | _ => .no
def eclear (E : Env) (og : Nat → AObj) (t : Nat) (d : AVal) : OR :=
 match tget E.T t with
 | some { kind := .slc e esz _, .. } => (match tget E.T e with
  | some te => bif Nat.ble 1 esz && notU (pureV (fun _ => .dead) 4 te.zero) then (match d with
   | .sub k g lo len sz => (match og k with
    | .row g' sz' e' xs => bif (Nat.beq g g' && Nat.beq sz sz') && Nat.beq sz esz then
            .upd k (.row g sz e' (xs.take lo ++ List.replicate len (pureV (fun _ => .dead) 4 te.zero) ++ xs.drop (lo + len))) (.tup []) else .no
    | _ => .no)
   | _ => .no) else .no
  | none => .no)
 | _ => .no
def emake (E : Env) (hint base : Nat) (t : Nat) (n c : AVal) : OR :=
 match tget E.T t, n, c with
 | some { kind := .slc e esz eb, .. }, .int _ a, .int _ b => (match tget E.T e with
  | some te => bif Nat.ble 1 esz && notU (pureV (fun _ => .dead) 4 te.zero) then
    .idx a fun i => .need (a = b ∧ (eb : Int) * b ≤ 281474976710656 ∧ i ≤ maxLen) (.born (.row 0 esz e (List.replicate i (pureV (fun _ => .dead) 4 te.zero))) (.row base 0))
   else .no
  | none => .no)
 | _, _, _ => .no
def ints : List AVal → Option (List Int)
 | [] => some []
 | .int .i64 n :: r => (match ints r with | some l => some (n :: l) | none => none)
 | _ => none
def keyAt (E : Env) (k : Nat) (ag : Bool) (v : AVal) : Option (List Int) :=
 match ag with
 | false => (match tget E.T k with
  | some { kind := .int .i64, .. } => (match v with | .int .i64 n => some [n] | _ => none)
  | _ => none)
 | true => (match tget E.T k with
  | some _ => (match v with
   | .agg cs => (match ints cs with
    | some l => bif Nat.blt 0 (fget E.fl k) && Nat.beq (clen cs) (fget E.fl k) then some l else none
    | none => none)
   | _ => none)
  | none => none)
def mfind : List (List Int × AVal) → List Int → Option AVal
 | [], _ => none
 | (k, v) :: r, x => if k = x then some v else mfind r x
def mput : List (List Int × AVal) → List Int → AVal → List (List Int × AVal)
 | [], x, y => [(x, y)]
 | (k, v) :: r, x, y => if k = x then (x, y) :: r else (k, v) :: mput r x y
def mdel : List (List Int × AVal) → List Int → List (List Int × AVal)
 | [], _ => []
 | (k, v) :: r, x => if k = x then r else (k, v) :: mdel r x
def keyNeed (ag : Bool) (es : List (List Int × AVal)) (key : List Int) (r : OR) : OR :=
 match ag with
 | false => r
 | true => .need (∀ p ∈ es, p.1.length = key.length) r
def elookup (E : Env) (og : Nat → AObj) (t : Nat) (m k : AVal) (ok : Bool) : OR :=
 match tget E.T t, m with
 | some { kind := .mp kt e, .. }, .mref j => (match tget E.T e, og j with
  | some te, .mp ag es => (match keyAt E kt ag k with
   | some key => keyNeed ag es key (.find es key fun o => match o with
    | some v => .val (bif ok then .tup [v, .bool true] else v)
    | none => .val (bif ok then .tup [te.zero, .bool false] else te.zero))
   | none => .no)
  | _, _ => .no)
 | _, _ => .no
def emapUp (E : Env) (og : Nat → AObj) (t : Nat) (m k v : AVal) : OR :=
 match tget E.T t, m with
 | some { kind := .mp kt _, .. }, .mref j => (match og j with
  | .mp ag es => (match keyAt E kt ag k with
   | some key => (fun v => bif notU v then keyNeed ag es key (.upd j (.mp ag (mput es key v)) .undef) else .no) (pureV og 4 v)
   | none => .no)
  | _ => .no)
 | _, _ => .no
def emapDel (E : Env) (og : Nat → AObj) (t : Nat) (m k : AVal) : OR :=
 match tget E.T t, m with
 | some { kind := .mp kt _, .. }, .mref j => (match og j with
  | .mp ag es => (match keyAt E kt ag k with
   | some key => keyNeed ag es key (.upd j (.mp ag (mdel es key)) (.tup []))
   | none => .no)
  | _ => .no)
 | _, _ => .no
def tyNil (E : Env) (ty : Nat) : AVal → AVal
 | .nilslice => (match tget E.T ty with | some { kind := .slc _ esz _, .. } => .slice esz [] .nil | _ => .nilslice)
 | v => v
def eop0 (E : Env) (hint base : Nat) (og : Nat → AObj) (ρ : Operand → AVal) (op : Op) (ty : TypeId) : OR :=
 match op with
 | .move x => .val (ρ x)
 | .assign x => (match hint with
  | 0 => .val (tyNil E ty (ρ x))
  | h => match tyNil E ty (ρ x) with
   | .slice esz xs t => (match t with
    | .nil => (match xs with
          | [] => (match tget E.T ty with | some { kind := .slc e esz' _, .. } => bif Nat.beq esz esz' && Nat.ble 1 esz then begin' h base esz e [] else .no | _ => .no)
          | _ :: _ => .no)
    | t => .val (.slice esz xs t))
   | v => .val v)
 | .pick c a b => (match ρ c with
  | .bool true => .val (ρ a)
  | .bool false => .val (ρ b)
  | _ => .no)
 | .alloc t => (match tget E.T t with
  | some ti => bif oneL ti.zero.cells then .born (.cells t ti.zero.cells) (.ref base 0) else .no
  | none => .no)
 | .box t x => (fun v => bif oneL v.cells then .born (.cells t v.cells) (.ref base 0) else .no) (ρ x)
 | .build t ps => ebuild E t (evL ρ ps.toList)
 | .buildSlice t n ps => ebuildSlice E hint base og t n (evL ρ ps.toList)
 | .load t a => (eload E og t (ρ a)).bind fun v => .val (tyNil E t v)
 | .store t a x => estore E og t (ρ a) (tyNil E t (ρ x))
 | .nilCheck x => (match ρ x with
  | .ref k off => .val (.ref k off)
  | .eref k g i sz off => .val (.eref k g i sz off)
  | .ptr cs => .val (.ptr cs)
  | .func (.func f) fs cs => .val (.func (.func f) fs cs)
  | .func (.yield f) fs cs => .val (.func (.yield f) fs cs)
  | .iface t v => .val (.iface t v)
  | _ => .no)
 | .binOp op t x y _ => ebin E og (isC x || isC y) op t (ρ x) (ρ y)
 | .unOp op _ x => (match op, ρ x with
  | .not, .bool b => .val (.bool (!b))
  | .neg, .int k n => earith k (0 - n)
  | .xor, .int k n => .val (.int k (ebits .xor k (if k.signed then -1 else k.max) n))
  | _, _ => .no)
 | .convert s d x => econv E og s d (ρ x)
 | .makeSlice t n c => emake E hint base t (ρ n) (ρ c)
 | .makeInterface t x => (match tget E.T t with
  | some ti => (match ti.kind with | .iface => .no | _ => .val (.iface t (ρ x)))
  | none => .no)
 | .makeFunc fn fs cs => .mkf fn (evO ρ fs.toList) (evO ρ cs.toList)
 | .slice t x lo hi mx => eslice E og t (ρ x) (lo.map ρ) (hi.map ρ) (mx.map ρ)
 | .fieldAddr t x f => efieldAddr E t (ρ x) f
 | .field t x f => (efield E t (ρ x) f).bind fun v => .val (tyNil E ty v)
 | .indexAddr t x i => eindexAddr E og t (ρ x) (ρ i)
 | .index t x i => eindex E t (ρ x) (ρ i)
 | .extract x i => (match ρ x with
  | .tup vs => (match nth vs i with | some v => .val v | none => .no)
  | _ => .no)
 | .panic x => (match ρ x with
  | .iface t v => (fun v => bif notU v then .pan (.iface t v) else .no) (pureV og 3 v)
  | _ => .no)
 | .typeAssert x _ t ok => (match tget E.T t, ρ x with
  | some ti, .iface u v => (match ti.kind with
   | .iface => .no
   | _ => bif Nat.beq u t then .val (bif ok then .tup [v, .bool true] else v) else (bif ok then .val (.tup [ti.zero, .bool false]) else .no))
  | some ti, .nilif => (match ti.kind with
   | .iface => .no
   | _ => bif ok then .val (.tup [ti.zero, .bool false]) else .no)
  | _, _ => .no)
 | .makeMap t none => (match tget E.T t with
  | some { kind := .mp k _, .. } => (match tget E.T k with
   | some tk => .born (.mp tk.agg []) (.mref base)
   | none => .no)
  | _ => .no)
 | .lookup t m k ok => elookup E og t (ρ m) (ρ k) ok
 | .mapUpdate t m k v => emapUp E og t (ρ m) (ρ k) (ρ v)
 | .call c => (match c.callee with
  | .value f => (match ρ f with
   | .func (.func g) fs cs => .call (.func g) (app3 (app3 fs (evO ρ c.args.toList)) cs)
   | .func (.yield l) fs _ => .call (.yield l) (app3 fs (evO ρ c.args.toList))
   | _ => .no)
  | .invoke r name => (match ρ r with
   | .iface t v => (match mget E.mt t name with
    | some g => .call (.func g) (v :: evO ρ c.args.toList)
    | none => .no)
   | _ => .no)
  | .builtin b => (match b, c.args.toList, c.argTypes.toList with
   | .len, [x], [t] => elen E og t (ρ x)
   | .min, [x, y], _ => (match ρ x, ρ y with | .int k a, .int k' b => bif kbeq k k' then .val (.int k (min a b)) else .no | _, _ => .no)
   | .max, [x, y], _ => (match ρ x, ρ y with | .int k a, .int k' b => bif kbeq k k' then .val (.int k (max a b)) else .no | _, _ => .no)
   | .append, [x, y], [t, t2] => eappend E hint base og t t2 (ρ x) (ρ y)
   | .copy, [x, y], [t, t2] => ecopy E og t t2 (ρ x) (ρ y)
   | .clear, [x], [t] => eclear E og t (ρ x)
   | .delete, [m, k], [t, _] => emapDel E og t (ρ m) (ρ k)
   | _, _, _ => .no))
 | _ => .no
def nrm : AVal → AVal
 | .rowc k g _ => .row k g
 | .pre k g n _ sz => .sub k g 0 n sz
 | v => v
def ecap (E : Env) (hint : Nat) (og : Nat → AObj) (t k g c : Nat) (h : AVal) : OR :=
 match tget E.T t, og k, h with
 | some { kind := .slc _ esz _, .. }, .row g' sz e xs, .int _ n => bif (Nat.beq g g' && Nat.beq sz esz) && Nat.ble 1 sz then
   .idx n fun y => (match hint with
    | 0 => .need (y ≤ xs.length ∧ 0 < c) (.val (.pre k g y c sz))
    | _ => .need (xs.length ≤ y ∧ y ≤ c) (.upd k (.row (g + 1) sz e (xs ++ List.replicate (y - xs.length) (.agg (List.replicate sz .undef)))) (.row k (g + 1))))
  else .no
 | _, _, _ => .no
def ecut3 (E : Env) (og : Nat → AObj) (t k g : Nat) (l h m : AVal) : OR :=
 match tget E.T t, og k, l, h, m with
 | some { kind := .slc _ esz _, .. }, .row g' sz _ xs, .int _ a, .int _ b, .int _ c => bif Nat.beq g g' && Nat.beq sz esz then
   .idx a fun x => .idx b fun y => .idx c fun z => .need ((x ≤ y ∧ y ≤ z) ∧ z ≤ xs.length) (.val .undef)
  else .no
 | _, _, _, _, _ => .no
def emore (E : Env) (base : Nat) (og : Nat → AObj) (t k g n c sz : Nat) (m : AVal) : OR :=
 match tget E.T t, og k, m with
 | some { kind := .slc e esz eb, .. }, .row g' sz' e' xs, .int .i64 a => (match tget E.T e with
  | some te => bif ((Nat.beq g g' && Nat.beq sz sz') && (Nat.beq sz esz && Nat.beq e e')) && (Nat.ble 1 esz && notU (pureV (fun _ => .dead) 4 te.zero)) then
    .idx a fun y => .need (c < n + y ∧ fits (n + y) eb) (.born (.row 0 esz e (xs.take n ++ List.replicate y (pureV (fun _ => .dead) 4 te.zero))) (.row base 0))
   else .no
  | none => .no)
 | _, _, _ => .no
def eopS (E : Env) (hint base : Nat) (og : Nat → AObj) (ρ : Operand → AVal) (op : Op) : Option OR :=
 match op with
 | .move x => some (.val (ρ x))
 | .assign x => (match ρ x with
  | .rowc k g c => some (.val (.rowc k g c))
  | _ => none)
 | .slice t x none (some h) none => (match ρ x with
  | .rowc k g c => some (ecap E hint og t k g c (ρ h))
  | _ => none)
 | .slice t x (some l) (some h) (some m) => (match ρ x with
  | .row k g => some (ecut3 E og t k g (ρ l) (ρ h) (ρ m))
  | _ => none)
 | .call c => (match c.callee with
  | .builtin .cap => (match c.args.toList, c.argTypes.toList with
   | [x], [t] => (match ρ x, tget E.T t with
    | .rowc _ _ n, some { kind := .slc _ _ _, .. } => some (.val (.int .i64 n))
    | _, _ => none)
   | _, _ => none)
  | .builtin .append => (match c.args.toList, c.argTypes.toList with
   | [x, y], [t, t2] => (match ρ x, tget E.T t2 with
    | .pre k g n c sz, some { kind := .int _, .. } => some (emore E base og t k g n c sz (ρ y))
    | _, _ => none)
   | _, _ => none)
  | _ => none)
 | _ => none
def eop (E : Env) (hint base : Nat) (og : Nat → AObj) (ρ : Operand → AVal) (op : Op) (ty : TypeId) : OR :=
 match eopS E hint base og ρ op with
 | some r => r
 | none => eop0 E hint base og (fun x => nrm (ρ x)) op ty
def KDL (f : AVal → (AVal → Prop) → Prop) : List AVal → (List AVal → Prop) → Prop
 | [], k => k []
 | c :: r, k => f c fun c => KDL f r fun r => k (c :: r)
def KD : Nat → AVal → (AVal → Prop) → Prop
 | 0, v, k => k v
 | n + 1, v, k => match v with
  | .undef => k .undef
  | .bool b => k (.bool b)
  | .int i n => k (.int i n)
  | .str l => k (.str l)
  | .slice sz xs t => (match t with | .no => k (.slice sz xs .no) | .nil => k (.slice sz xs .nil) | .full => k (.slice sz xs .full) | .own a b => k (.slice sz xs (.own a b)))
  | .agg cs => KDL (KD n) cs fun cs => k (.agg cs)
  | .tup cs => KDL (KD n) cs fun cs => k (.tup cs)
  | .ptr cs => k (.ptr cs)
  | .ref a b => k (.ref a b)
  | .eref a b c d e => k (.eref a b c d e)
  | .csl a b c d => k (.csl a b c d)
  | .row a b => k (.row a b)
  | .sub a b c d e => k (.sub a b c d e)
  | .rowc a b c => k (.rowc a b c)
  | .pre a b c d e => k (.pre a b c d e)
  | .mref a => k (.mref a)
  | .nilptr => k .nilptr
  | .nilslice => k .nilslice
  | .nilmap => k .nilmap
  | .nilfunc => k .nilfunc
  | .nilif => k .nilif
  | .hsl a n c => k (.hsl a n c)
  | .func fn fs cs => k (.func fn fs cs)
  | .iface t v => KD n v fun v => k (.iface t v)
theorem KDL_eq {f : AVal → (AVal → Prop) → Prop} (hf : ∀ v k, f v k = k v) (l : List AVal) : ∀ (k : List AVal → Prop), KDL f l k = k l := by
 induction l with
 | nil => intro k; rfl
 | cons c r ih => intro k; simp only [KDL, hf, ih]
theorem KD_eq (n : Nat) : ∀ (v : AVal) (k : AVal → Prop), KD n v k = k v := by
 induction n with
 | zero => intro v k; rfl
 | succ n ih =>
  intro v k
  cases v <;> simp only [KD, KDL_eq ih, ih]
  rename_i t
  cases t <;> rfl
def OD (x : AObj) (k : AObj → Prop) : Prop :=
 match x with
 | .dead => k .dead
 | .cells T cs => KDL (KD 3) cs fun cs => k (.cells T cs)
 | .fcells cs => KDL (KD 3) cs fun cs => k (.fcells cs)
 | .row g sz e xs => k (.row g sz e xs)
 | .frow g sz xs => k (.frow g sz xs)
 | .tail g sz e => k (.tail g sz e)
 | .mp a es => k (.mp a es)
 | .bun g I => k (.bun g I)
theorem OD_eq (x : AObj) (k : AObj → Prop) : OD x k = k x := by cases x <;> simp only [OD, KDL_eq (KD_eq 3)]
def ODL : List AObj → (List AObj → Prop) → Prop
 | [], k => k []
 | c :: r, k => OD c fun c => ODL r fun r => k (c :: r)
theorem ODL_eq (l : List AObj) : ∀ (k : List AObj → Prop), ODL l k = k l := by
 induction l with
 | nil => intro k; rfl
 | cons c r ih => intro k; simp only [ODL, OD_eq, ih]
def putD : List (Nat × AVal) → Nat → AVal → (List (Nat × AVal) → Prop) → Prop
 | [], n, x, k => k [(n, x)]
 | (i, v) :: r, n, x, k => bif Nat.beq i n then k ((n, x) :: r) else putD r n x fun r => k ((i, v) :: r)
theorem putD_eq (l : List (Nat × AVal)) (n : Nat) (x : AVal) : ∀ (k : List (Nat × AVal) → Prop), putD l n x k = k (putS l n x) := by
 induction l with
 | nil => intro k; rfl
 | cons c r ih => intro k; obtain ⟨i, v⟩ := c; simp only [putD, putS, ih]; cases Nat.beq i n <;> rfl
def pos (k : Nat) : Nat → List Nat → Option Nat
 | _, [] => none
 | j, x :: r => bif Nat.beq x k then some j else pos k (j + 1) r
def curG : AObj → Nat
 | .row g _ _ _ => g
 | .tail g _ _ => g
 | .bun g _ => g
 | _ => 0
def gm (n0 j cur g : Nat) : Option Nat :=
 bif Nat.beq g cur then some (bif Nat.blt j n0 then (bif Nat.beq cur 0 then 0 else 1) else 0) else (bif Nat.blt j n0 && Nat.beq g 0 then some 0 else none)
def cvtV (n0 : Nat) (ks : List Nat) (og : Nat → AObj) : Nat → AVal → AVal
 | 0, _ => .undef
 | n + 1, v => match v with
  | .slice sz xs t => (match t with
   | .full => .slice sz xs .full
   | .nil => (match ks with | [] => .slice sz xs .no | _ :: _ => .slice sz xs .nil)
   | .own k g => (match pos k 0 ks with
    | some j => (match gm n0 j (curG (og k)) g with | some g => .slice sz xs (.own j g) | none => .slice sz xs .no)
    | none => .slice sz xs .no)
   | _ => .slice sz xs .no)
  | .agg cs => .agg (mapL (cvtV n0 ks og n) cs)
  | .tup cs => .tup (mapL (cvtV n0 ks og n) cs)
  | .func fn fs cs => .func fn (mapL (cvtV n0 ks og n) fs) (mapL (cvtV n0 ks og n) cs)
  | .iface t v => .iface t (cvtV n0 ks og n v)
  | .ref k off => (match pos k 0 ks with
   | some j => (match gm n0 j (curG (og k)) 0 with | some _ => .ref j off | none => .undef)
   | none => pureV og 1 (.ref k off))
  | .csl k off len sz => (match pos k 0 ks with
   | some j => (match gm n0 j (curG (og k)) 0 with | some _ => .csl j off len sz | none => .undef)
   | none => pureV og 1 (.csl k off len sz))
  | .row k g => (match pos k 0 ks with
   | some j => (match gm n0 j (curG (og k)) g with | some g => .row j g | none => .undef)
   | none => pureV og 1 (.row k g))
  | .sub k g lo len sz => (match pos k 0 ks with
   | some j => (match gm n0 j (curG (og k)) g with | some g => .sub j g lo len sz | none => .undef)
   | none => pureV og 1 (.sub k g lo len sz))
  | .mref k => (match pos k 0 ks with | some j => (match gm n0 j (curG (og k)) 0 with | some _ => .mref j | none => .undef) | none => .undef)
  | .eref _ _ _ _ _ => .undef
  | .rowc _ _ _ => .undef
  | .pre _ _ _ _ _ => .undef
  | v => v
def cvtO (n0 : Nat) (ks : List Nat) (obs : List AObj) (j : Nat) : AObj → AObj
 | .cells T cs => .cells T (mapL (cvtV n0 ks (oget obs) 4) cs)
 | .row g sz e xs => .row (match gm n0 j g g with | some g => g | none => 0) sz e xs
 | .tail g sz e => .tail (match gm n0 j g g with | some g => g | none => 0) sz e
 | .bun g I => .bun (match gm n0 j g g with | some g => g | none => 0) I
 | o => o
def subO' (n0 : Nat) (ks : List Nat) (obs : List AObj) : Nat → List Nat → List AObj
 | _, [] => []
 | j, k :: r => cvtO n0 ks obs j (oget obs k) :: subO' n0 ks obs (j + 1) r
def subO (n0 : Nat) (ks : List Nat) (obs : List AObj) : List AObj := subO' n0 ks obs 0 ks
def ksOK : List Nat → List AObj → Bool
 | [], _ => true
 | k :: r, obs => (oget obs k).owns && !memN k r && ksOK r obs
def upto : Nat → Nat → List Nat
 | _, 0 => []
 | j, n + 1 => j :: upto (j + 1) n
def beginsUp : Nat → Nat → List Nat → Bool
 | 0, _, _ => true
 | n + 1, j, k :: r => Nat.beq k j && beginsUp n (j + 1) r
 | _ + 1, _, [] => false
def embK (ks : List Nat) (base j : Nat) : Nat := match nth ks j with | some k => k | none => base + (j - (olenN ks))
where olenN : List Nat → Nat
 | [] => 0
 | _ :: r => olenN r + 1
def embG (ks : List Nat) (obs : List AObj) (j g : Nat) : Nat := match nth ks j with | some k => curG (oget obs k) + g | none => g
def embV (ks : List Nat) (base : Nat) (obs : List AObj) : Nat → AVal → AVal
 | 0, _ => .undef
 | n + 1, v => match v with
  | .slice sz xs t => (match t with
   | .own j g => .slice sz xs (.own (embK ks base j) (embG ks obs j g))
   | t => .slice sz xs t)
  | .agg cs => .agg (mapL (embV ks base obs n) cs)
  | .tup cs => .tup (mapL (embV ks base obs n) cs)
  | .func fn fs cs => .func fn (mapL (embV ks base obs n) fs) (mapL (embV ks base obs n) cs)
  | .iface t v => .iface t (embV ks base obs n v)
  | .ref j off => .ref (embK ks base j) off
  | .csl j off len sz => .csl (embK ks base j) off len sz
  | .row j g => .row (embK ks base j) (embG ks obs j g)
  | .sub j g lo len sz => .sub (embK ks base j) (embG ks obs j g) lo len sz
  | .mref j => .mref (embK ks base j)
  | .eref _ _ _ _ _ => .undef
  | .rowc _ _ _ => .undef
  | .pre _ _ _ _ _ => .undef
  | v => v
def embO (ks : List Nat) (base : Nat) (obs : List AObj) (j : Nat) : AObj → AObj
 | .cells T cs => .cells T (mapL (embV ks base obs 4) cs)
 | .row g sz e xs => .row (embG ks obs j g) sz e xs
 | .frow g sz xs => .frow (embG ks obs j g) sz xs
 | .tail g sz e => .tail (embG ks obs j g) sz e
 | .bun g I => .bun (embG ks obs j g) I
 | o => o
def embL (ks : List Nat) (base : Nat) (obs : List AObj) : Nat → List AObj → List AObj → List AObj
 | _, [], l => l
 | j, o :: r, l => embL ks base obs (j + 1) r (oput l (embK ks base j) (embO ks base obs j o))
inductive Res where
 | ret (a : AVal)
 | pan (a : AVal)
def EndRep (M : Imm) (ob : Hs) : Ending → Res → Prop
 | .returned v, .ret a => Rep M ob v a
 | .panicked ch, .pan a => ∃ v, ch = [{ v, recovered := false }] ∧ Rep M ob v a
 | _, _ => False
def RepL (M : Imm) (ob : Hs) (vs : List Value) (as : List AVal) : Prop :=
 vs.length = as.length ∧ ∀ (i : Nat) v a, vs[i]? = some v → as[i]? = some a → Rep M ob v a
def CallRuns (P : Program) (f : FuncId) (va : Array Value) (w : World) (R : Ending → World → Prop) : Prop :=
 ((callFunc f va).run P w = .ok (.enter f va) w ∧ Calls P f va w R) ∨ ∃ u w', (callFunc f va).run P w = .ok (.value u) w' ∧ R (.returned u) w'
def RoundRuns (P : Program) (l : Nat) (va : Array Value) (w : World) (R : Ending → World → Prop) : Prop :=
 ∃ f tmps as bd, (Instr.yield l va).run P w = .ok (.round l f tmps as bd) w ∧ RoundIn Fence.wide 0 P l f tmps as bd w R
def callFn : Fn → Array Value → Sem Next
 | .func f, va => callFunc f va
 | .yield l, va => Instr.yield l va
 | _, va => callFunc 0 va
@[reducible] def CallRunsF (P : Program) (f : Fn) (va : Array Value) (w : World) (R : Ending → World → Prop) : Prop :=
 match f with
 | .func f => CallRuns P f va w R
 | .yield l => RoundRuns P l va w R
 | _ => False
def CallOKF (P : Program) (f : Fn) (args : List AVal) (obs : List AObj) (r : Res) (obs' : List AObj) : Prop :=
 ∀ M ob w vargs, Mem M ob obs w → RepL M ob vargs args →
  CallRunsF P f vargs.toArray w fun e w' => ∃ M' ob', Ext M ob obs w M' ob' obs' w' ∧ Mem M' ob' obs' w' ∧ EndRep M' ob' e r
abbrev CallOK (P : Program) (f : FuncId) (args : List AVal) (obs : List AObj) (r : Res) (obs' : List AObj) : Prop := CallOKF P (.func f) args obs r obs'
inductive CallG (P : Program) (f : Fn) (args : List AVal) (obs : List AObj) (K : AVal → List AObj → Prop) (Kp : AVal → List AObj → Prop) : Prop
 | pure (r : AVal) (new : List AObj) (h : CallOKF P f (mapL (cvtV 0 [] (oget (frzL obs args)) 5) args) [] (.ret r) new) (k : K (embV [] (olen obs) (frzL obs args) 5 r) (embL [] (olen obs) (frzL obs args) 0 new (frzL obs args)))
 | eff (fz ks : List Nat) (r : AVal) (obs' : List AObj) (hk : ksOK ks (frzs fz obs) = true) (h : CallOKF P f (mapL (cvtV 0 ks (oget (frzs fz obs)) 5) args) (subO 0 ks (frzs fz obs)) (.ret r) obs')
   (k : K (embV ks (olen (frzs fz obs)) (frzs fz obs) 5 r) (embL ks (olen (frzs fz obs)) (frzs fz obs) 0 obs' (frzs fz obs)))
 | effp (fz ks : List Nat) (r : AVal) (obs' : List AObj) (hk : ksOK ks (frzs fz obs) = true) (h : CallOKF P f (mapL (cvtV 0 ks (oget (frzs fz obs)) 5) args) (subO 0 ks (frzs fz obs)) (.pan r) obs')
   (k : Kp (embV ks (olen (frzs fz obs)) (frzs fz obs) 5 r) (embL ks (olen (frzs fz obs)) (frzs fz obs) 0 obs' (frzs fz obs)))
 | pan (r : AVal) (h : CallOKF P f (mapL (cvtV 0 [] (oget (frzL obs args)) 5) args) [] (.pan r) []) (k : Kp r (frzL obs args))
inductive CallD (P : Program) (f : Fn) (args : List AVal) (so : Bool) (seen : List AObj) (base : Nat) (obs : List AObj) (K : AVal → List AObj → Prop) (Kp : AVal → List AObj → Prop) : Prop
 | pure (r : AVal) (new : List AObj) (h : CallOKF P f (mapL (cvtV 0 [] (oget seen) 5) args) [] (.ret r) new) (k : K (embV [] base seen 5 r) (embL [] base seen 0 new obs)) : CallD P f args so seen base obs K Kp
 | sole (h : so = true) (h : CallG P f args obs K Kp) : CallD P f args so seen base obs K Kp
def orF (P : Program) (obs : List AObj) (K : AVal → List AObj → Prop) (Kp : AVal → List AObj → Prop) : OR → Prop
 | .no => False
 | .val v => K v obs
 | .mkf fn fs cs => K (.func fn fs cs) obs
 | .need p r => p ∧ orF P obs K Kp r
 | .alt p v w => (p ∧ K v obs) ∨ K w obs
 | .idx n f => ∃ i : Nat, n = (i : Int) ∧ orF P obs K Kp (f i)
 | .elem xs i f => ∃ x, xs[i]? = some x ∧ orF P obs K Kp (f x)
 | .byte l i => ∃ c, l[i]? = some c ∧ K (.int .u8 (c.toNat : Int)) obs
 | .text xs => ∃ l : List UInt8, xs = l.map ub ∧ (l.length : Int) ≤ 9223372036854775807 ∧ K (.str l) obs
 | .find es key f => ∃ o, mfind es key = o ∧ orF P obs K Kp (f o)
 | .born x v => K v (oput obs (olen obs) x)
 | .upd k x v => K v (oput obs k x)
 | .nilq xs neg => ∀ b : Bool, (b = true → xs = []) → K (.bool (if neg then !b else b)) obs
 | .call f args => CallG P f args obs K Kp
 | .pan v => Kp v obs
def nd : AObj → Bool
 | .dead => false
 | _ => true
def orD (P : Program) (so uo bl : Bool) (seen obs : List AObj) (base : Nat) (K : AVal → List AObj → Prop) (Kp : AVal → List AObj → Prop) : OR → Prop
 | .val v => K v obs
 | .mkf fn fs cs => K (.func fn fs cs) obs
 | .need p r => p ∧ orD P so uo bl seen obs base K Kp r
 | .alt p v w => (p ∧ K v obs) ∨ K w obs
 | .idx n f => ∃ i : Nat, n = (i : Int) ∧ orD P so uo bl seen obs base K Kp (f i)
 | .elem xs i f => ∃ x, xs[i]? = some x ∧ orD P so uo bl seen obs base K Kp (f x)
 | .byte l i => ∃ c, l[i]? = some c ∧ K (.int .u8 (c.toNat : Int)) obs
 | .text xs => ∃ l : List UInt8, xs = l.map ub ∧ (l.length : Int) ≤ 9223372036854775807 ∧ K (.str l) obs
 | .find es key f => ∃ o, mfind es key = o ∧ orD P so uo bl seen obs base K Kp (f o)
 | .born x v => (match bl with | true => False | false => K v (oput obs base x))
 | .upd k x v => (match (so || (uo && nd (oget seen k))) with | true => K v (oput obs k x) | false => False)
 | .nilq xs neg => (match so with | true => ∀ b : Bool, (b = true → xs = []) → K (.bool (if neg then !b else b)) obs | false => False)
 | .call f args => (match bl with | true => False | false => CallD P f args so seen base obs K Kp)
 | .pan v => (match so with | true => Kp v obs | false => False)
 | .no => False
def wantedE (all : List Oper) (ρ : Operand → AVal) (g : Option (Nat × Bool)) : Option Bool :=
 match g with
 | none => some true
 | some (j, want) => match nth all j with
  | some p => match p.dst with
   | some d => match ρ (.tmp d) with
    | .bool b => some (b == want)
    | .tup [] => some false
    | _ => none
   | none => none
  | none => none
def isGuard (n : Nat) : List Oper → Bool
 | [] => false
 | o :: r => (match o.guard with | some (j, _) => Nat.beq j n | none => false) || isGuard n r
def hintOf (E : Env) : Option Nat → Nat
 | none => 0
 | some d => bif memN d E.own then 1 else bif memN d E.rws then 2 else 0
def putO (fr : List (Nat × AVal)) : Option Nat → AVal → List (Nat × AVal)
 | none, _ => fr
 | some d, v => putS fr d v
def wrP (rest : List Oper) (n : Nat) (d : Option Nat) (fr : List (Nat × AVal)) (v : AVal) (k : List (Nat × AVal) → Prop) : Prop :=
 match d with
 | none => k fr
 | some d => bif isGuard n rest then (match v with
   | .bool b => (b = true → k (putS fr d (.bool true))) ∧ (b = false → k (putS fr d (.bool false)))
   | _ => False)
  else k (putS fr d v)
def chain (E : Env) (all : List Oper) (K : List (Nat × AVal) → List AObj → Prop) (Kp : (Nat → AVal) → AVal → List AObj → Prop) : Nat → List Oper → List (Nat × AVal) → List AObj → Prop
 | _, [], fr, obs => K fr obs
 | n, p :: rest, fr, obs => match wantedE all (ev fr) p.guard with
  | none => False
  | some false => chain E all K Kp (n + 1) rest (putO fr p.dst (.tup [])) obs
  | some true => orF E.P obs (fun v obs => wrP rest n p.dst fr v fun fr => chain E all K Kp (n + 1) rest fr obs) (Kp (getS fr))
    (eop E (hintOf E p.dst) (olen obs) (oget obs) (ev fr) p.op p.type)
def onesOf (p : Oper) : List Nat := (p.after.toList.filter (Region.binds .any)).map (·.on)
def testB (m i : Nat) : Bool := Nat.beq (Nat.land (Nat.shiftRight m i) 1) 1
def getN : List Nat → Nat → Nat
 | [], _ => 0
 | x :: _, 0 => x
 | _ :: r, n + 1 => getN r n
def befOf (tab : List Nat) : List Nat → Nat
 | [] => 0
 | i :: r => Nat.lor (Nat.lor (Nat.shiftLeft 1 i) (getN tab i)) (befOf tab r)
def befs : List Nat → List Oper → List Nat
 | tab, [] => tab
 | tab, p :: r => befs (tab ++ [befOf tab (onesOf p)]) r
def natD (n : Nat) (k : Nat → Prop) : Prop := match n with | 0 => k 0 | m + 1 => k (m + 1)
theorem natD_eq (n : Nat) (k : Nat → Prop) : natD n k = k n := by cases n <;> rfl
def snocD : List Nat → Nat → (List Nat → Prop) → Prop
 | [], m, k => k [m]
 | x :: r, m, k => snocD r m fun r => k (x :: r)
theorem snocD_eq (l : List Nat) (m : Nat) : ∀ (k : List Nat → Prop), snocD l m k = k (l ++ [m]) := by
 induction l with
 | nil => intro k; rfl
 | cons x r ih => intro k; simp only [snocD, ih, List.cons_append]
def befsD : List Nat → List Oper → (List Nat → Prop) → Prop
 | tab, [], k => k tab
 | tab, p :: r, k => natD (befOf tab (onesOf p)) fun m => snocD tab m fun tab => befsD tab r k
theorem befsD_eq (l : List Oper) : ∀ (tab : List Nat) (k : List Nat → Prop), befsD tab l k = k (befs tab l) := by
 induction l with
 | nil => intro tab k; rfl
 | cons p r ih => intro tab k; simp only [befsD, befs, natD_eq, snocD_eq, ih]
def loose (tab : List Nat) (i j : Nat) : Bool := !Nat.beq i j && !testB (getN tab j) i && !testB (getN tab i) j
def hidT (tab : List Nat) (j t : Nat) : Nat → List Oper → Bool
 | _, [] => false
 | i, p :: r => (match p.dst with | some d => Nat.beq d t && loose tab i j | none => false) || hidT tab j t (i + 1) r
def evH (tab : List Nat) (all : List Oper) (j : Nat) (fr : List (Nat × AVal)) : Operand → AVal
 | .tmp t => bif hidT tab j t 0 all then .undef else getS fr t
 | x => ev fr x
def kill : List Nat → List AObj → List AObj
 | [], obs => obs
 | k :: r, obs => kill r (oput obs k .dead)
def hidO (tab : List Nat) (j : Nat) : List (Nat × Nat) → List Nat
 | [] => []
 | (i, k) :: r => bif testB (getN tab j) i then hidO tab j r else k :: hidO tab j r
def sole (tab : List Nat) (j : Nat) : Nat → List Oper → Bool
 | _, [] => true
 | i, _ :: r => !loose tab i j && sole tab j (i + 1) r
def blD (E : Env) : Option Nat → Bool
 | none => false
 | some d => memN d E.bl
def soleU (E : Env) (tab : List Nat) (j : Nat) : Nat → List Oper → Bool
 | _, [] => true
 | i, p :: r => (!loose tab i j || blD E p.dst) && soleU E tab j (i + 1) r
def soN (E : Env) (tab : List Nat) (all : List Oper) (n : Nat) (d : Option Nat) : Bool := sole tab n 0 all && !blD E d
def uoN (E : Env) (tab : List Nat) (all : List Oper) (n : Nat) (d : Option Nat) : Bool := soleU E tab n 0 all && !blD E d
def seenN (E : Env) (tab : List Nat) (n : Nat) (br : List (Nat × Nat)) (obs : List AObj) (d : Option Nat) : List AObj := bif blD E d then [] else kill (hidO tab n br) obs
def born (j base : Nat) : List AObj → List (Nat × Nat) → List (Nat × Nat)
 | [], br => br
 | _ :: r, br => (j, base) :: born j (base + 1) r br
def odrop : Nat → List AObj → List AObj
 | 0, l => l
 | _ + 1, [] => []
 | n + 1, _ :: l => odrop n l
def chainD (E : Env) (all : List Oper) (tab : List Nat) (K : List (Nat × AVal) → List AObj → Prop) (Kp : (Nat → AVal) → AVal → List AObj → Prop) : Nat → List Oper → List (Nat × Nat) → List (Nat × AVal) → List AObj → Prop
 | _, [], _, fr, obs => K fr obs
 | n, p :: rest, br, fr, obs =>
  match wantedE all (evH tab all n fr) p.guard with
  | none => False
  | some false => chainD E all tab K Kp (n + 1) rest br (putO fr p.dst (.tup [])) obs
  | some true => orD E.P (soN E tab all n p.dst) (uoN E tab all n p.dst) (blD E p.dst) (seenN E tab n br obs p.dst) obs (olen obs) (fun v obs' => wrP rest n p.dst fr v fun fr => chainD E all tab K Kp (n + 1) rest (born n (olen obs) (odrop (olen obs) obs') br) fr obs') (Kp (getS fr))
     (eop E (hintOf E p.dst) (olen obs) (oget (seenN E tab n br obs p.dst)) (evH tab all n fr) p.op p.type)
inductive KI where
 | code (c : Code) | inB (id : Nat) | inL (c : Code) | beginR
def exitK (id : Nat) : List KI → Option (List KI)
 | [] => none
 | .inB i :: r => bif Nat.beq i id then some r else exitK id r
 | _ :: r => exitK id r
inductive Goal where
 | pure (r : Res)
 | full (n0 : Nat) (r : Res) (obs' : List AObj)
 | keep (n0 : Nat) (r : Res) (obs' : List AObj)
def resV (E : Env) (obs : List AObj) (fr : List (Nat × AVal)) : ResultVar → Option AVal
 | .tmp t => some (getS fr t)
 | .cell t ty => match tget E.T ty, getS fr t with
  | some ti, .ref k off => match oget obs k with
   | .cells _ cs => match ctake ti.size (cdrop off cs) with | some l => mk ti l | none => none
   | _ => none
  | _, _ => none
def resL (E : Env) (obs : List AObj) (fr : List (Nat × AVal)) : List ResultVar → Option (List AVal)
 | [] => some []
 | r :: rs => match resV E obs fr r, resL E obs fr rs with
  | some v, some vs => some (v :: vs)
  | _, _ => none
def resE (E : Env) (obs : List AObj) (rs : List ResultVar) (fr : List (Nat × AVal)) : Option AVal :=
 match resL E obs fr rs with
 | some [v] => some v
 | some vs => some (.tup vs)
 | none => none
def belT (n : Nat) : Tk → Bool
 | .own k _ => Nat.blt k n
 | _ => true
def belL (f : AVal → Bool) : List AVal → Bool
 | [] => true
 | c :: r => f c && belL f r
def bel (n : Nat) : Nat → AVal → Bool
 | 0, _ => false
 | m + 1, a => match a with
  | .slice _ _ t => belT n t
  | .agg cs => belL (bel n m) cs
  | .tup cs => belL (bel n m) cs
  | .ref k _ => Nat.blt k n
  | .eref k _ _ _ _ => Nat.blt k n
  | .csl k _ _ _ => Nat.blt k n
  | .row k _ => Nat.blt k n
  | .sub k _ _ _ _ => Nat.blt k n
  | .rowc k _ _ => Nat.blt k n
  | .pre k _ _ _ _ => Nat.blt k n
  | .mref k => Nat.blt k n
  | .func _ fs cs => belL (bel n m) fs && belL (bel n m) cs
  | .iface _ v => bel n m v
  | _ => true
def belO (n : Nat) : List AObj → Bool
 | [] => true
 | .cells _ cs :: r => belL (bel n 5) cs && belO n r
 | _ :: r => belO n r
def belF (n : Nat) : List (Nat × AVal) → Bool
 | [] => true
 | (_, v) :: r => bel n 5 v && belF n r
def otake : Nat → List AObj → List AObj
 | 0, _ => []
 | _ + 1, [] => []
 | n + 1, x :: r => x :: otake n r
def endF (g : Goal) (mkR : AVal → Res) (v : AVal) (obs : List AObj) : Prop :=
 match g with
 | .pure r => mkR (cvtV 0 [] (oget (frzL obs [v])) 5 v) = r
 | .full n0 r obs' => ∃ fz ks, (ksOK ks (frzs fz obs) = true ∧ beginsUp n0 0 ks = true) ∧ mkR (cvtV n0 ks (oget (frzs fz obs)) 5 v) = r ∧ subO n0 ks (frzs fz obs) = obs'
 | .keep n0 r obs' => (bel n0 5 v = true ∧ belO n0 (otake n0 obs) = true) ∧ mkR v = r ∧ otake n0 obs = obs'
def Goal.n0 : Goal → Nat
 | .pure _ => 0
 | .full n _ _ => n
 | .keep n _ _ => n
def bodyOf (fn : Func) : Code := fn.body.getD .skip
def stkAt : Nat → Code → List KI → List KI ⊕ Nat
 | n, .seq a b, ks => match stkAt n a (.code b :: ks) with | .inl r => .inl r | .inr n => stkAt n b ks
 | n, .cond _ a b, ks => match stkAt n a ks with | .inl r => .inl r | .inr n => stkAt n b ks
 | n, .block id b, ks => stkAt n b (.inB id :: ks)
 | 0, .loop b, ks => .inl (.code b :: .inL b :: ks)
 | n + 1, .loop b, ks => stkAt n b (.inL b :: ks)
 | n, _, _ => .inr n
def stk (fn : Func) (n : Nat) : List KI := match stkAt n (bodyOf fn) [] with | .inl r => r | .inr _ => []
def frA : Nat → List AVal → List (Nat × AVal)
 | _, [] => []
 | n, a :: r => (n, a) :: frA (n + 1) r
def pickS : List Nat → List (Nat × AVal) → List (Nat × AVal)
 | [], _ => []
 | t :: r, fr => (t, getS fr t) :: pickS r fr
structure RI where
 all : List Oper
 dr : Bool
 tab : List Nat
 ks : List KI
inductive St where
 | code (ks : List KI) (fr : List (Nat × AVal)) (obs : List AObj)
 | head (ks : List KI) (fr : List (Nat × AVal)) (obs : List AObj)
 | mid (R : RI) (n : Nat) (rest : List Oper) (br : List (Nat × Nat)) (fr : List (Nat × AVal)) (obs : List AObj)
 | pend (R : RI) (n : Nat) (d : Option Nat) (rest : List Oper) (br : List (Nat × Nat)) (fr : List (Nat × AVal)) (obs : List AObj) (r : OR)
 | got (R : RI) (n : Nat) (d : Option Nat) (rest : List Oper) (br : List (Nat × Nat)) (fr : List (Nat × AVal)) (len : Nat) (obs : List AObj) (v : AVal)
 | leave (p : Option AVal) (fr : List (Nat × AVal)) (obs : List AObj)
def endD (g : Goal) (mkR : AVal → Res) (v : AVal) (obs : List AObj) : Prop :=
 match g with
 | .pure r => KD 5 (cvtV 0 [] (oget (frzL obs [v])) 5 v) fun y => mkR y = r
 | .full n0 r obs' => ∃ fz ks, (ksOK ks (frzs fz obs) = true ∧ beginsUp n0 0 ks = true) ∧ KD 5 (cvtV n0 ks (oget (frzs fz obs)) 5 v) fun y => ODL (subO n0 ks (frzs fz obs)) fun os => mkR y = r ∧ os = obs'
 | .keep n0 r obs' => (bel n0 5 v = true ∧ belO n0 (otake n0 obs) = true) ∧ ODL (otake n0 obs) fun os => mkR v = r ∧ os = obs'
theorem endD_eq (g : Goal) (mkR : AVal → Res) (v : AVal) (obs : List AObj) : endD g mkR v obs = endF g mkR v obs := by
 cases g <;> simp only [endD, endF, KD_eq, ODL_eq]
def panF (E : Env) (g : Goal) (J : St → Prop) (fr : List (Nat × AVal)) (v : AVal) (obs : List AObj) : Prop := match E.rd with
 | some _ => False
 | none => match E.df with
  | [] => endF g .pan v obs
  | _ :: _ => J (.leave (some v) fr obs)
def retD (E : Env) (fn : Func) (g : Goal) (J : St → Prop) (b : Bool) (fr : List (Nat × AVal)) (obs : List AObj) : Prop := match E.rd with
 | some _ => endD g .ret (.bool b) obs
 | none => match E.df with
  | [] => (match resE E obs fn.results.toList fr with | some v => KD 5 v fun v => endD g .ret v obs | none => False)
  | _ :: _ => J (.leave none fr obs)
def isDf : List Oper → Bool
 | [p] => (match p.op with | .defer _ => true | _ => false)
 | _ => false
def wstep (E : Env) (fn : Func) (g : Goal) (J : St → Prop) : Nat → St → Prop
 | 0, s => J s
 | n + 1, .head ks fr obs => wstep E fn g J n (.code ks fr obs)
 | _ + 1, .leave p fr obs => J (.leave p fr obs)
 | _ + 1, .code [] fr obs => retD E fn g J true fr obs
 | n + 1, .code (k :: ks) fr obs => (match k with
  | .inB _ => wstep E fn g J n (.code ks fr obs)
  | .inL b => J (.head (.code b :: .inL b :: ks) fr obs)
  | .beginR => J (.code (.beginR :: ks) fr obs)
  | .code q => match q with
   | .skip => wstep E fn g J n (.code ks fr obs)
   | .seq a b => wstep E fn g J n (.code (.code a :: .code b :: ks) fr obs)
   | .block id b => wstep E fn g J n (.code (.code b :: .inB id :: ks) fr obs)
   | .loop b => J (.head (.code b :: .inL b :: ks) fr obs)
   | .exit id => (match exitK id ks with
    | some ks => wstep E fn g J n (.code ks fr obs)
    | none => False)
   | .ret => retD E fn g J false fr obs
   | .rangeFunc x ps as bd => J (.code (.code (.rangeFunc x ps as bd) :: ks) fr obs)
   | .cond x a b => (match ev fr x with
    | .bool p => (p = true → J (.code (.code a :: ks) fr obs)) ∧ (p = false → J (.code (.code b :: ks) fr obs))
    | _ => False)
   | .region id ops dr => (match isDf ops.toList with
    | true => J (.code (.code (.region id ops dr) :: ks) fr obs)
    | false => (match dr with
     | false => wstep E fn g J n (.mid ⟨ops.toList, false, [], ks⟩ 0 ops.toList [] fr obs)
     | true => befsD [] ops.toList fun tab => wstep E fn g J n (.mid ⟨ops.toList, true, tab, ks⟩ 0 ops.toList [] fr obs)))
   | _ => False)
 | n + 1, .mid R _ [] _ fr obs => wstep E fn g J n (.code R.ks fr obs)
 | n + 1, .mid R i (p :: rest) br fr obs => (match R.dr with
  | false => (match wantedE R.all (ev fr) p.guard with
   | none => False
   | some false => (match p.dst with | none => wstep E fn g J n (.mid R (i + 1) rest br fr obs) | some d => putD fr d (.tup []) fun fr => wstep E fn g J n (.mid R (i + 1) rest br fr obs))
   | some true => wstep E fn g J n (.pend R i p.dst rest br fr obs (eop E (hintOf E p.dst) (olen obs) (oget obs) (ev fr) p.op p.type)))
  | true => (match wantedE R.all (evH R.tab R.all i fr) p.guard with
   | none => False
   | some false => (match p.dst with | none => wstep E fn g J n (.mid R (i + 1) rest br fr obs) | some d => putD fr d (.tup []) fun fr => wstep E fn g J n (.mid R (i + 1) rest br fr obs))
   | some true => ODL (seenN E R.tab i br obs p.dst) fun seen => wstep E fn g J n (.pend R i p.dst rest br fr obs (eop E (hintOf E p.dst) (olen obs) (oget seen) (evH R.tab R.all i fr) p.op p.type))))
 | n + 1, .pend R i d rest br fr obs r => (match r with
  | .no => False
  | .val v => KD 4 v fun v => wstep E fn g J n (.got R i d rest br fr (olen obs) obs v)
  | .mkf f fs cs => KDL (KD 3) fs fun fs => KDL (KD 3) cs fun cs => wstep E fn g J n (.got R i d rest br fr (olen obs) obs (.func f fs cs))
  | .need p r => p ∧ J (.pend R i d rest br fr obs r)
  | .alt p v w => (p ∧ J (.got R i d rest br fr (olen obs) obs v)) ∨ J (.got R i d rest br fr (olen obs) obs w)
  | .idx m f => ∃ x : Nat, m = (x : Int) ∧ J (.pend R i d rest br fr obs (f x))
  | .elem xs m f => ∃ x, xs[m]? = some x ∧ J (.pend R i d rest br fr obs (f x))
  | .byte l m => ∃ c, l[m]? = some c ∧ J (.got R i d rest br fr (olen obs) obs (.int .u8 (c.toNat : Int)))
  | .text xs => ∃ l : List UInt8, xs = l.map ub ∧ (l.length : Int) ≤ 9223372036854775807 ∧ J (.got R i d rest br fr (olen obs) obs (.str l))
  | .find es key f => ∃ o, mfind es key = o ∧ J (.pend R i d rest br fr obs (f o))
  | .born x v => (match (R.dr && blD E d) with
   | true => False
   | false => OD x fun x => ODL (oput obs (olen obs) x) fun obs' => KD 4 v fun v => wstep E fn g J n (.got R i d rest br fr (olen obs) obs' v))
  | .upd k x v => (match (!R.dr || (soN E R.tab R.all i d || (uoN E R.tab R.all i d && nd (oget (seenN E R.tab i br obs d) k)))) with
   | true => OD x fun x => ODL (oput obs k x) fun obs' => KD 4 v fun v => wstep E fn g J n (.got R i d rest br fr (olen obs) obs' v)
   | false => False)
  | .nilq xs neg => (match (!R.dr || soN E R.tab R.all i d) with
   | true => ∀ b : Bool, (b = true → xs = []) → J (.got R i d rest br fr (olen obs) obs (.bool (if neg then !b else b)))
   | false => False)
  | .call f args => KDL (KD 5) args fun args => (match R.dr with
   | false => CallG E.P f args obs (fun v obs' => J (.got R i d rest br fr (olen obs) obs' v)) (panF E g J fr)
   | true => match blD E d with
    | true => False
    | false => ODL (seenN E R.tab i br obs d) fun seen => CallD E.P f args (soN E R.tab R.all i d) seen (olen obs) obs (fun v obs' => J (.got R i d rest br fr (olen obs) obs' v)) (panF E g J fr))
  | .pan v => (match (!R.dr || soN E R.tab R.all i d) with
   | true => KD 5 v fun v => (match E.rd with | some _ => False | none => match E.df with | [] => endD g .pan v obs | _ :: _ => J (.leave (some v) fr obs))
   | false => False))
 | n + 1, .got R i d rest br fr len obs v => KD 4 v fun v => ODL obs fun obs => (match d with
  | none => wstep E fn g J n (.mid R (i + 1) rest (bif R.dr then born i len (odrop len obs) br else br) fr obs)
  | some d => bif isGuard i rest then (match v with
    | .bool b => (b = true → putD fr d (.bool true) fun fr => J (.mid R (i + 1) rest (bif R.dr then born i len (odrop len obs) br else br) fr obs)) ∧
      (b = false → putD fr d (.bool false) fun fr => J (.mid R (i + 1) rest (bif R.dr then born i len (odrop len obs) br else br) fr obs))
    | _ => False)
   else putD fr d v fun fr => wstep E fn g J n (.mid R (i + 1) rest (bif R.dr then born i len (odrop len obs) br else br) fr obs))
theorem beq_no {i n : Nat} (h : ¬ i = n) : Nat.beq i n = false := by
 cases hb : Nat.beq i n with
 | false => rfl
 | true => exact absurd (Nat.eq_of_beq_eq_true hb) h
theorem beq_yes {i n : Nat} (h : Nat.beq i n = true) : i = n := Nat.eq_of_beq_eq_true h
theorem beq_and {a b : Bool} (h : (a && b) = true) : a = true ∧ b = true := by simpa using h
theorem olen_eq (l : List AObj) : olen l = l.length := by
 induction l with
 | nil => rfl
 | cons x r ih => simp [olen, ih]
theorem oget_get {l : List AObj} : ∀ {n : Nat}, n < l.length → l[n]? = some (oget l n) := by
 induction l with
 | nil => intro n h; simp at h
 | cons x r ih => intro n h; cases n with
  | zero => rfl
  | succ n => simpa [oget] using ih (n := n) (by simpa using h)
theorem oget_some {l : List AObj} : ∀ {n : Nat} {x : AObj}, oget l n = x → x ≠ .dead → l[n]? = some x := by
 induction l with
 | nil => intro n x h hx; exact absurd h.symm (by simpa [oget] using hx)
 | cons y r ih => intro n x h hx; cases n with
  | zero => simpa [oget] using h
  | succ n => simpa using ih (n := n) h hx
theorem oget_of {l : List AObj} : ∀ {n : Nat} {x : AObj}, l[n]? = some x → oget l n = x := by
 induction l with
 | nil => intro n x h; simp at h
 | cons y r ih => intro n x h; cases n with
  | zero => simpa [oget] using h
  | succ n => exact ih (n := n) (by simpa using h)
theorem oput_set {l : List AObj} : ∀ {n : Nat} (x : AObj), n < l.length → oput l n x = l.set n x := by
 induction l with
 | nil => intro n x h; simp at h
 | cons y r ih => intro n x h; cases n with
  | zero => rfl
  | succ n => simp only [oput, List.set_cons_succ]; rw [ih x (by simpa using h)]
theorem oput_len (l : List AObj) (x : AObj) : oput l l.length x = l ++ [x] := by
 induction l with
 | nil => rfl
 | cons y r ih => simp [oput, ih]
theorem cdrop_eq (n : Nat) : ∀ (l : List AVal), cdrop n l = l.drop n := by
 induction n with
 | zero => intro l; cases l <;> rfl
 | succ n ih => intro l; cases l with
  | nil => rfl
  | cons c r => simpa [cdrop] using ih r
theorem ctake_some {n : Nat} : ∀ {l r : List AVal}, ctake n l = some r → r.length = n ∧ ∀ (i : Nat) c, r[i]? = some c → l[i]? = some c := by
 induction n with
 | zero => intro l r h; cases h; exact ⟨rfl, fun i c hc => by simp at hc⟩
 | succ n ih =>
  intro l r h
  cases l with
  | nil => cases h
  | cons c l =>
   simp only [ctake] at h
   split at h
   ·rename_i r' hr
    cases h
    obtain ⟨h1, h2⟩ := ih hr
    refine ⟨by simp [h1], fun i d hd => ?_⟩
    cases i with
    | zero => simpa using hd
    | succ i => simpa using h2 i d (by simpa using hd)
   ·cases h
theorem cput_some : ∀ {new l r : List AVal}, cput new l = some r → new.length ≤ l.length ∧ r.length = l.length ∧ ∀ (i : Nat), r[i]? = if i < new.length then new[i]? else l[i]? := by
 intro new
 induction new with
 | nil => intro l r h; cases h; exact ⟨by simp, rfl, fun i => by simp⟩
 | cons c new ih =>
  intro l r h
  cases l with
  | nil => cases h
  | cons d l =>
   simp only [cput] at h
   split at h
   ·rename_i x hx
    cases h
    obtain ⟨h1, h2, h3⟩ := ih hx
    refine ⟨by simp; omega, by simp [h2], fun i => ?_⟩
    cases i with
    | zero => simp
    | succ i => simpa using h3 i
   ·cases h
theorem cputAt_some {off : Nat} : ∀ {new l r : List AVal}, cputAt off new l = some r → off + new.length ≤ l.length ∧ r.length = l.length ∧ ∀ (i : Nat), r[i]? = if off ≤ i ∧ i < off + new.length then new[i - off]? else l[i]? := by
 induction off with
 | zero =>
  intro new l r h
  obtain ⟨h1, h2, h3⟩ := cput_some (show cput new l = some r by cases l <;> exact h)
  exact ⟨by omega, h2, fun i => by rw [h3 i]; simp⟩
 | succ n ih =>
  intro new l r h
  cases l with
  | nil => cases h
  | cons c l =>
   simp only [cputAt] at h
   split at h
   ·rename_i x hx
    cases h
    obtain ⟨h1, h2, h3⟩ := ih hx
    refine ⟨by simp; omega, by simp [h2], fun i => ?_⟩
    cases i with
    | zero => simp
    | succ i =>
     simp only [List.getElem?_cons_succ, h3 i]
     by_cases hc : n ≤ i ∧ i < n + new.length
     ·rw [if_pos hc, if_pos ⟨by omega, by omega⟩]
      congr 1
      omega
     ·rw [if_neg hc, if_neg (by omega)]
   ·cases h
theorem clen_eq (l : List AVal) : clen l = l.length := by
 induction l with
 | nil => rfl
 | cons c r ih => simp [clen, ih]
theorem nth_eq {α : Type} (l : List α) : ∀ (n : Nat), nth l n = l[n]? := by
 induction l with
 | nil => intro n; cases n <;> rfl
 | cons x r ih => intro n; cases n with
  | zero => rfl
  | succ n => simpa [nth] using ih n
theorem nth_some {α : Type} {l : List α} {n : Nat} {x : α} (h : nth l n = some x) : l[n]? = some x := by rw [← nth_eq]; exact h
theorem app3_eq (a b : List AVal) : app3 a b = a ++ b := by
 induction a with
 | nil => rfl
 | cons c r ih => simp [app3, ih]
theorem mapL_eq (f : AVal → AVal) (l : List AVal) : mapL f l = l.map f := by
 induction l with
 | nil => rfl
 | cons c r ih => simp [mapL, ih]
theorem memN_iff {n : Nat} : ∀ {l : List Nat}, memN n l = true ↔ n ∈ l
 | [] => by simp [memN]
 | x :: r => by
  simp only [memN, Bool.or_eq_true, memN_iff (l := r), List.mem_cons]
  constructor
  ·rintro (h | h)
   ·exact .inl (beq_yes h).symm
   ·exact .inr h
  ·rintro (h | h)
   ·subst h; exact .inl (by simp)
   ·exact .inr h
theorem getS_putS (fr : List (Nat × AVal)) (n m : Nat) (x : AVal) : getS (putS fr n x) m = if m = n then x else getS fr m := by
 induction fr with
 | nil =>
  simp only [putS, getS]
  by_cases h : m = n
  ·subst h; simp
  ·rw [beq_no (fun e => h e.symm), if_neg h]; rfl
 | cons p r ih =>
  obtain ⟨i, v⟩ := p
  simp only [putS]
  cases hb : Nat.beq i n with
  | true =>
   have := beq_yes hb
   subst this
   simp only [cond_true, getS]
   by_cases h : m = i
   ·subst h; simp
   ·rw [beq_no (fun e => h e.symm), if_neg h]; rfl
  | false =>
   simp only [cond_false, getS, ih]
   by_cases h : m = n
   ·subst h
    rw [hb, if_pos rfl, if_pos rfl]; rfl
   ·rw [if_neg h, if_neg h]
theorem addr_add (b o j : Nat) : (⟨b, o, none⟩ : Addr).add j = ⟨b, o + j, none⟩ := by
 unfold Addr.add; split <;> simp_all
theorem cond_some {α : Type} {b : Bool} {x : Option α} {r : α} (h : (bif b then x else none) = some r) : b = true ∧ x = some r := by
 cases b <;> simp at h; exact ⟨rfl, h⟩
section
variable {M : Imm} {ob : Hs} {obs : List AObj} {w : World}
theorem Rep.int_inv {v : Value} {k : IntKind} {n : Int} (h : Rep M ob v (.int k n)) : v = .int k n ∧ inR k n := by cases h with | int _ _ h => exact ⟨rfl, h⟩
theorem Rep.bool_inv {v : Value} {b : Bool} (h : Rep M ob v (.bool b)) : v = .bool b := by cases h; rfl
theorem Rep.str_inv {v : Value} {l : List UInt8} (h : Rep M ob v (.str l)) : v = .string ⟨l.toArray⟩ ∧ (l.length : Int) ≤ 9223372036854775807 := by cases h with | str _ h => exact ⟨rfl, h⟩
theorem Rep.agg_inv {v : Value} {as : List AVal} (h : Rep M ob v (.agg as)) : ∃ vs : List Value, v = .agg vs.toArray ∧ vs.length = as.length ∧ ∀ (i : Nat) u a, vs[i]? = some u → as[i]? = some a → Rep M ob u a := by
 cases h with | agg vs as hl h => exact ⟨vs, rfl, hl, h⟩
theorem Rep.tup_inv {v : Value} {as : List AVal} (h : Rep M ob v (.tup as)) : ∃ vs : List Value, v = .tuple vs.toArray ∧ vs.length = as.length ∧ ∀ (i : Nat) u a, vs[i]? = some u → as[i]? = some a → Rep M ob u a := by
 cases h with | tup vs as hl h => exact ⟨vs, rfl, hl, h⟩
theorem Rep.ptr_inv {v : Value} {cs : List AVal} (h : Rep M ob v (.ptr cs)) : ∃ b o, v = .pointer (some ⟨b, o, none⟩) ∧ ∀ (j : Nat) c, cs[j]? = some c → M b (o + j) c := by
 cases h with | ptr b o cs h => exact ⟨b, o, rfl, h⟩
theorem Rep.ref_inv {v : Value} {k off : Nat} (h : Rep M ob v (.ref k off)) : ∃ b, v = .pointer (some ⟨b, off, none⟩) ∧ at' ob k 0 = some (.pointer (some ⟨b, 0, none⟩)) := by
 cases h with | ref k off b h => exact ⟨b, rfl, h⟩
theorem Rep.iface_inv {v : Value} {t : TypeId} {a : AVal} (h : Rep M ob v (.iface t a)) : ∃ u, v = .iface t u ∧ Rep M ob u a := by
 cases h with | iface _ v _ h => exact ⟨v, rfl, h⟩
theorem Rep.row_inv {v : Value} {k g : Nat} (h : Rep M ob v (.row k g)) : ∃ a n c, v = .slice a n c ∧ at' ob k g = some (.slice a n c) := by
 cases h with | row _ _ a n c h => exact ⟨a, n, c, rfl, h⟩
theorem Rep.untok {v : Value} {sz : Nat} {xs : List AVal} {t : Tk} (h : Rep M ob v (.slice sz xs t)) : Rep M ob v (.slice sz xs .no) ∧ TkOK ob v t := by
 cases h with
 | slnil sz t ht => exact ⟨.slnil sz .no trivial, ht⟩
 | slemp sz t a cap ht => exact ⟨.slemp sz .no a cap trivial, ht⟩
 | sl sz b o n cap xs t hn hc hm hz h ht => exact ⟨.sl sz b o n cap xs .no hn hc hm hz h trivial, ht⟩
theorem Rep.tok {v : Value} {sz : Nat} {xs : List AVal} {t : Tk} (h : Rep M ob v (.slice sz xs .no)) (ht : TkOK ob v t) : Rep M ob v (.slice sz xs t) := by
 cases h with
 | slnil sz _ => exact .slnil sz t ht
 | slemp sz _ a cap _ => exact .slemp sz t a cap ht
 | sl sz b o n cap xs _ hn hc hm hz h _ => exact .sl sz b o n cap xs t hn hc hm hz h ht
theorem Rep.slice_pure {v : Value} {sz : Nat} {xs : List AVal} (h : Rep M ob v (.slice sz xs .no)) : Rep M [] v (.slice sz xs .no) := by
 cases h with
 | slnil sz _ => exact .slnil sz .no trivial
 | slemp sz _ a cap _ => exact .slemp sz .no a cap trivial
 | sl sz b o n cap xs _ hn hc hm hz h _ => exact .sl sz b o n cap xs .no hn hc hm hz h trivial
theorem Rep.slice_inv {v : Value} {sz : Nat} {xs : List AVal} {t : Tk} (h : Rep M ob v (.slice sz xs t)) : ∃ a c, v = .slice a xs.length c ∧ (a = none → xs = [] ∧ c = 0) ∧ (xs ≠ [] → xs.length ≤ c) ∧ (xs.length : Int) ≤ 9223372036854775807 := by
 cases h with
 | slnil sz t ht => exact ⟨none, 0, rfl, fun _ => ⟨rfl, rfl⟩, fun h => absurd rfl h, by simp⟩
 | slemp sz t a cap ht => exact ⟨some a, cap, rfl, fun h => (by cases h), fun h => absurd rfl h, by simp⟩
 | sl sz b o n cap xs t hn hc hm hz h ht => subst hn; exact ⟨_, cap, rfl, fun h => (by cases h), fun _ => hc, hm⟩
theorem Rep.sl_inv {v : Value} {sz : Nat} {xs : List AVal} {t : Tk} (h : Rep M ob v (.slice sz xs t)) : (v = .slice none 0 0 ∧ xs = []) ∨ (∃ a cap, v = .slice (some a) 0 cap ∧ xs = []) ∨
  ∃ b o cap, v = .slice (some ⟨b, o, none⟩) xs.length cap ∧ xs.length ≤ cap ∧ (xs.length : Int) ≤ 9223372036854775807 ∧ (∀ x ∈ xs, x.cells.length = sz) ∧ ∀ (i j : Nat) x c, xs[i]? = some x → x.cells[j]? = some c → M b (o + i * sz + j) c := by
 cases h with
 | slnil sz t ht => exact .inl ⟨rfl, rfl⟩
 | slemp sz t a cap ht => exact .inr (.inl ⟨a, cap, rfl, rfl⟩)
 | sl sz b o n cap xs t hn hc hm hz h ht => subst hn; exact .inr (.inr ⟨b, o, cap, rfl, hc, hm, hz, h⟩)
theorem Rep.cells {v : Value} {a : AVal} (h : Rep M ob v a) (hu : a ≠ .undef) : v.cells.toList.length = a.cells.length ∧ ∀ (i : Nat) u c, v.cells.toList[i]? = some u → a.cells[i]? = some c → Rep M ob u c := by
 have gen : ∀ {v : Value} {a : AVal}, Rep M ob v a → v.cells = #[v] → a.cells = [a] → v.cells.toList.length = a.cells.length ∧ ∀ (i : Nat) u c, v.cells.toList[i]? = some u → a.cells[i]? = some c → Rep M ob u c := by
  intro v a h e1 e2
  rw [e1, e2]
  refine ⟨rfl, fun i u c hu hc => ?_⟩
  cases i with
  | zero => simp at hu hc; subst hu; subst hc; exact h
  | succ i => simp at hu
 cases h with
 | undef v => exact absurd rfl hu
 | agg vs as hl h => exact ⟨by simpa [Value.cells, AVal.cells] using hl, fun i u c hu hc => h i u c (by simpa [Value.cells] using hu) (by simpa [AVal.cells] using hc)⟩
 | row k g a n c h => exact gen (.row k g a n c h) rfl rfl
 | bool b => exact gen (.bool b) rfl rfl
 | int k n hr => exact gen (.int k n hr) rfl rfl
 | str l hl => exact gen (.str l hl) rfl rfl
 | tup vs as hl h => exact gen (.tup vs as hl h) rfl rfl
 | ptr b o cs h => exact gen (.ptr b o cs h) rfl rfl
 | ref k off b h => exact gen (.ref k off b h) rfl rfl
 | eref k g i sz off b n c h => exact gen (.eref k g i sz off b n c h) rfl rfl
 | csl k off len sz b h hm => exact gen (.csl k off len sz b h hm) rfl rfl
 | sub k g lo len sz b n c h hl hn hc hm => exact gen (.sub k g lo len sz b n c h hl hn hc hm) rfl rfl
 | sub0 k g lo sz a a' n c h hl hc => exact gen (.sub0 k g lo sz a a' n c h hl hc) rfl rfl
 | rowc k g c a n h hm => exact gen (.rowc k g c a n h hm) rfl rfl
 | pre k g n c sz b len h hc hn hl hm => exact gen (.pre k g n c sz b len h hc hn hl hm) rfl rfl
 | mref k b h => exact gen (.mref k b h) rfl rfl
 | nilptr => exact gen .nilptr rfl rfl
 | nilslice => exact gen .nilslice rfl rfl
 | nilmap => exact gen .nilmap rfl rfl
 | nilfunc => exact gen .nilfunc rfl rfl
 | nilif => exact gen .nilif rfl rfl
 | hsl a n c => exact gen (.hsl a n c) rfl rfl
 | slnil sz t ht => exact gen (.slnil sz t ht) rfl rfl
 | slemp sz t a cap ht => exact gen (.slemp sz t a cap ht) rfl rfl
 | sl sz b o n cap xs t hn hc hm hz h ht => exact gen (.sl sz b o n cap xs t hn hc hm hz h ht) rfl rfl
 | func fn fs cs fa ca hf hc h1 h2 => exact gen (.func fn fs cs fa ca hf hc h1 h2) rfl rfl
 | iface t v a h => exact gen (.iface t v a h) rfl rfl
theorem Rep.one {v : Value} {a : AVal} (h : Rep M ob v a) (h1 : one a = true) : v.oneCell' = true := by
 cases h <;> first | rfl | (simp [AW.one] at h1)
theorem oneL_mem {l : List AVal} (h : oneL l = true) : ∀ (i : Nat) c, l[i]? = some c → one c = true := by
 induction l with
 | nil => intro i c hc; simp at hc
 | cons d r ih =>
  simp only [oneL, Bool.and_eq_true] at h
  intro i c hc
  cases i with
  | zero => simp at hc; subst hc; exact h.1
  | succ i => exact ih h.2 i c (by simpa using hc)
theorem one_cells {c : AVal} (h : AW.one c = true) : c.cells = [c] := by cases c <;> first | rfl | cases h
theorem Rep.cells_one {v : Value} {a : AVal} (h : Rep M ob v a) (h1 : oneL a.cells = true) : v.cells.toList.length = a.cells.length ∧ (∀ u ∈ v.cells.toList, u.oneCell' = true) ∧ ∀ (i : Nat) u c, v.cells.toList[i]? = some u → a.cells[i]? = some c → Rep M ob u c := by
 have hu : a ≠ .undef := fun e => by subst e; simp [AVal.cells, oneL, AW.one] at h1
 obtain ⟨h2, h3⟩ := h.cells hu
 refine ⟨h2, fun u hm => ?_, h3⟩
 obtain ⟨i, hi⟩ := List.getElem?_of_mem hm
 have hlt : i < a.cells.length := by rw [← h2]; exact (List.getElem?_eq_some_iff.1 hi).1
 exact (h3 i u _ hi (List.getElem?_eq_getElem hlt)).one (oneL_mem h1 i _ (List.getElem?_eq_getElem hlt))
end
theorem alive_of {ob : Hs} {obs : List AObj} {k : Nat} {x : AObj} {hs : List Value} (h1 : obs[k]? = some x) (h2 : ob[k]? = some hs) {b : Nat} : Alive ob obs k b ↔ x.owns = true ∧ b ∈ blk hs := by
 constructor
 ·rintro ⟨c, hs', e1, e2, e3, e4⟩
  rw [h1] at e1
  rw [h2] at e3
  cases e1
  cases e3
  exact ⟨e2, e4⟩
 ·rintro ⟨h3, h4⟩
  exact ⟨x, hs, h1, h3, h2, h4⟩
theorem Mem.turn {M M' : Imm} {ob : Hs} {obs : List AObj} {w w' : World} (h : Mem M ob obs w) {k : Nat} {x x' : AObj} {hs hs' : List Value} (hx : obs[k]? = some x) (hh : ob[k]? = some hs) (hp : hs <+: hs') (hd : x = .dead → hs = [])
  (hM : ∀ b o y, M b o y → M' b o y) (hnew : ∀ b o y, M' b o y → M b o y ∨ (x.owns = true ∧ b ∈ blk hs) ∨ w.heap.size ≤ b)
  (himm : ∀ b o y, M' b o y → ∃ v, w'.cell? ⟨b, o, none⟩ = some v ∧ v.oneCell' = true ∧ Rep M' [] v y)
  (heap : ∀ b, b < w.heap.size → ¬ (x.owns = true ∧ b ∈ blk hs) → w'.heap[b]? = w.heap[b]?)
  (hos : w'.os = w.os) (htape : w'.tape = w.tape) (hout : w'.output = w.output) (hsize : w.heap.size ≤ w'.heap.size)
  (hok : HsLe ob (ob.set k hs') → ObjOK M' (ob.set k hs') w' hs' x') (hb : x'.owns = true → ∀ b, b ∈ blk hs' → ((x.owns = true ∧ b ∈ blk hs) ∨ w.heap.size ≤ b) ∧ b < w'.heap.size) (hxd : x' ≠ .dead := by intro h; cases h) :
  Mem M' (ob.set k hs') (obs.set k x') w' ∧ Ext M ob obs w M' (ob.set k hs') (obs.set k x') w' ∧ Still ob obs (ob.set k hs') (obs.set k x') := by
 have hko : k < obs.length := (List.getElem?_eq_some_iff.1 hx).1
 have hkb : k < ob.length := (List.getElem?_eq_some_iff.1 hh).1
 have hle : HsLe ob (ob.set k hs') := fun i l hl => by
  by_cases hi : i = k
  ·subst hi
   rw [hh] at hl
   cases hl
   exact ⟨hs', List.getElem?_set_self hkb, hp⟩
  ·exact ⟨l, by rw [List.getElem?_set_ne (fun e => hi e.symm)]; exact hl, List.prefix_refl _⟩
 have oth : ∀ {i : Nat}, i ≠ k → (obs.set k x')[i]? = obs[i]? ∧ (ob.set k hs')[i]? = ob[i]? := fun {i} hi =>
  ⟨List.getElem?_set_ne (fun e => hi e.symm), List.getElem?_set_ne (fun e => hi e.symm)⟩
 have self1 : (obs.set k x')[k]? = some x' := List.getElem?_set_self hko
 have self2 : (ob.set k hs')[k]? = some hs' := List.getElem?_set_self hkb
 have alive' : ∀ {i b : Nat}, Alive (ob.set k hs') (obs.set k x') i b → (i ≠ k ∧ Alive ob obs i b) ∨ (i = k ∧ ((x.owns = true ∧ b ∈ blk hs) ∨ w.heap.size ≤ b) ∧ b < w'.heap.size) := fun {i b} ha => by
  by_cases hi : i = k
  ·subst hi
   have := (alive_of self1 self2).1 ha
   exact .inr ⟨rfl, hb this.1 b this.2⟩
  ·obtain ⟨c, l, e1, e2, e3, e4⟩ := ha
   rw [(oth hi).1] at e1
   rw [(oth hi).2] at e3
   exact .inl ⟨hi, c, l, e1, e2, e3, e4⟩
 have alk : ∀ {b : Nat}, x.owns = true ∧ b ∈ blk hs → Alive ob obs k b := fun ha => (alive_of hx hh).2 ha
 refine ⟨⟨himm, by simp [h.len], fun i c hc => ?_, fun i b ha => ?_, fun i j b ha hb' => ?_⟩, ⟨hM, fun b o y hy => ?_, hle, hos, htape, hout, hsize, fun b hb' hn => heap b hb' fun ha => hn k (alk ha), fun i b ha => ?_⟩, fun i l h1 h2 => ⟨fun h3 => ?_, fun h3 h4 => ?_⟩⟩
 ·by_cases hi : i = k
  ·subst hi
   rw [self1] at hc
   cases hc
   exact ⟨hs', self2, hok hle⟩
  ·rw [(oth hi).1] at hc
   obtain ⟨l, hl, ho⟩ := h.obj i c hc
   have hne : ∀ b, c.owns = true → b ∈ blk l → ¬ (x.owns = true ∧ b ∈ blk hs) ∧ b < w.heap.size := fun b h1 h2 => by
    have ha : Alive ob obs i b := (alive_of hc hl).2 ⟨h1, h2⟩
    exact ⟨fun hk => hi (h.inj i k b ha (alk hk)), h.lt i b ha⟩
   refine ⟨l, by rw [(oth hi).2]; exact hl, ho.mono hM hle (fun b h1 h2 o hno y hy => ?_) (fun b c' h1 h2 hc' => ?_)⟩
   ·obtain ⟨g1, g2⟩ := hne b h1 h2
    rcases hnew b o y hy with q | q | q
    ·exact hno y q
    ·exact g1 q
    ·omega
   ·obtain ⟨g1, g2⟩ := hne b h1 h2
    rw [heap b g2 g1]
    exact hc'
 ·rcases alive' ha with ⟨_, ha⟩ | ⟨_, _, hlt⟩
  ·exact Nat.lt_of_lt_of_le (h.lt i b ha) hsize
  ·exact hlt
 ·rcases alive' ha with ⟨_, ha⟩ | ⟨e1, ha, _⟩ <;> rcases alive' hb' with ⟨_, hb2⟩ | ⟨e2, hb2, _⟩
  ·exact h.inj i j b ha hb2
  ·rcases hb2 with hb2 | hb2
   ·rw [e2]; exact h.inj i k b ha (alk hb2)
   ·have := h.lt i b ha; omega
  ·rcases ha with ha | ha
   ·rw [e1]; exact h.inj k j b (alk ha) hb2
   ·have := h.lt j b hb2; omega
  ·rw [e1, e2]
 ·rcases hnew b o y hy with q | q | q
  ·exact .inl q
  ·exact .inr (.inr ⟨k, alk q⟩)
  ·exact .inr (.inl q)
 ·rcases alive' ha with ⟨_, ha⟩ | ⟨_, ha | ha, _⟩
  ·exact .inl ⟨i, ha⟩
  ·exact .inl ⟨k, alk ha⟩
  ·exact .inr ha
 ·have hi : i ≠ k := fun e => by
   subst e
   rw [hx] at h1
   rw [hh] at h2
   cases h1
   cases h2
   exact h3 (hd rfl)
  rw [(oth hi).1, (oth hi).2]
  exact ⟨h1, h2⟩
 ·by_cases hi : i = k
  ·subst hi
   rw [self1] at h4
   cases h4
   rw [self2]
   have := hok hle
   exact absurd rfl hxd
  ·rw [(oth hi).2]
   exact h3 ▸ h2
theorem Mem.more {M M' : Imm} {ob : Hs} {obs : List AObj} {w w' : World} (h : Mem M ob obs w) (hM : ∀ b o y, M b o y → M' b o y) (hnew : ∀ b o y, M' b o y → M b o y ∨ w.heap.size ≤ b)
  (himm : ∀ b o y, M' b o y → ∃ v, w'.cell? ⟨b, o, none⟩ = some v ∧ v.oneCell' = true ∧ Rep M' [] v y) (heap : ∀ b, b < w.heap.size → w'.heap[b]? = w.heap[b]?)
  (hos : w'.os = w.os) (htape : w'.tape = w.tape) (hout : w'.output = w.output) (hsize : w.heap.size ≤ w'.heap.size) : Mem M' ob obs w' ∧ Ext M ob obs w M' ob obs w' := by
 refine ⟨⟨himm, h.len, fun i c hc => ?_, fun i b ha => Nat.lt_of_lt_of_le (h.lt i b ha) hsize, h.inj⟩, ⟨hM, fun b o y hy => ?_, HsLe.refl _, hos, htape, hout, hsize, fun b hb _ => heap b hb, fun i b ha => .inl ⟨i, ha⟩⟩⟩
 ·obtain ⟨l, hl, ho⟩ := h.obj i c hc
  refine ⟨l, hl, ho.mono hM (HsLe.refl _) (fun b h1 h2 o hno y hy => ?_) (fun b c' h1 h2 hc' => ?_)⟩
  ·have := h.lt i b ((alive_of hc hl).2 ⟨h1, h2⟩)
   rcases hnew b o y hy with q | q
   ·exact hno y q
   ·omega
  ·rw [heap b (h.lt i b ((alive_of hc hl).2 ⟨h1, h2⟩))]
   exact hc'
 ·rcases hnew b o y hy with q | q
  ·exact .inl q
  ·exact .inr (.inl q)
theorem Mem.extend {M : Imm} {ob : Hs} {obs : List AObj} {w : World} (h : Mem M ob obs w) (n : Nat) :
  Mem M (ob ++ List.replicate n []) (obs ++ List.replicate n .dead) w ∧ Ext M ob obs w M (ob ++ List.replicate n []) (obs ++ List.replicate n .dead) w ∧ Still ob obs (ob ++ List.replicate n []) (obs ++ List.replicate n .dead) := by
 have part : ∀ {i : Nat} {c : AObj}, (obs ++ List.replicate n .dead)[i]? = some c → (i < obs.length ∧ obs[i]? = some c) ∨ (obs.length ≤ i ∧ c = .dead ∧ i - obs.length < n) := fun {i c} hc => by
  by_cases hi : i < obs.length
  ·rw [List.getElem?_append_left hi] at hc; exact .inl ⟨hi, hc⟩
  ·rw [List.getElem?_append_right (by omega), List.getElem?_replicate] at hc
   split at hc
   ·rename_i hlt
    cases hc; exact .inr ⟨by omega, rfl, hlt⟩
   ·cases hc
 have left : ∀ {i : Nat}, i < obs.length → (ob ++ List.replicate n ([] : List Value))[i]? = ob[i]? := fun {i} hi => List.getElem?_append_left (by rw [h.len]; exact hi)
 have hle : HsLe ob (ob ++ List.replicate n []) := fun i l hl => ⟨l, by rw [List.getElem?_append_left (List.getElem?_eq_some_iff.1 hl).1]; exact hl, List.prefix_refl _⟩
 have alive' : ∀ {i b : Nat}, Alive (ob ++ List.replicate n []) (obs ++ List.replicate n .dead) i b → Alive ob obs i b := fun {i b} ⟨c, l, e1, e2, e3, e4⟩ => by
  rcases part e1 with ⟨hi, e1⟩ | ⟨_, rfl, _⟩
  ·rw [left hi] at e3; exact ⟨c, l, e1, e2, e3, e4⟩
  ·cases e2
 refine ⟨⟨h.imm, by simp [h.len], fun i c hc => ?_, fun i b ha => h.lt i b (alive' ha), fun i j b ha hb => h.inj i j b (alive' ha) (alive' hb)⟩, ⟨fun _ _ _ h => h, fun _ _ _ h => .inl h, hle, rfl, rfl, rfl, Nat.le_refl _, fun _ _ _ => rfl, fun i b ha => .inl ⟨i, alive' ha⟩⟩, fun i l h1 h2 => ?_⟩
 ·rcases part hc with ⟨hi, hc⟩ | ⟨hi, rfl, hlt⟩
  ·obtain ⟨l, hl, ho⟩ := h.obj i c hc
   exact ⟨l, by rw [left hi]; exact hl, ho.mono (fun _ _ _ h => h) hle (fun _ _ _ _ h => h) (fun _ _ _ _ h => h)⟩
  ·refine ⟨[], ?_, trivial⟩
   rw [List.getElem?_append_right (by rw [h.len]; exact hi), List.getElem?_replicate, if_pos (by rw [h.len]; exact hlt)]
 ·have hi := (List.getElem?_eq_some_iff.1 h1).1
  exact ⟨fun _ => ⟨by rw [List.getElem?_append_left hi]; exact h1, by rw [left hi]; exact h2⟩, fun e _ => by rw [left hi]; exact e ▸ h2⟩
theorem cellAt_eq {sz : Nat} {xs : List AVal} {i j : Nat} {x c : AVal} (hx : xs[i]? = some x) (hc : x.cells[j]? = some c) (hz : x.cells.length = sz) : cellAt sz xs (i * sz + j) = some c := by
 have hj : j < sz := by rw [← hz]; exact (List.getElem?_eq_some_iff.1 hc).1
 have h1 : (i * sz + j) / sz = i := by
  rw [Nat.mul_comm, Nat.mul_add_div (by omega), Nat.div_eq_of_lt hj, Nat.add_zero]
 have h2 : (i * sz + j) % sz = j := by rw [Nat.mul_comm, Nat.mul_add_mod, Nat.mod_eq_of_lt hj]
 simp [cellAt, h1, h2, hx, hc]
theorem cellAt_inv {sz : Nat} {xs : List AVal} {o : Nat} {c : AVal} (h : cellAt sz xs o = some c) : ∃ x, xs[o / sz]? = some x ∧ x.cells[o % sz]? = some c := by
 unfold cellAt at h
 cases hx : xs[o / sz]? with
 | none => simp [hx] at h
 | some x => exact ⟨x, rfl, by simpa [hx] using h⟩
theorem cellAt_lt {sz : Nat} {xs : List AVal} {q : Nat} {c : AVal} (hs : 0 < sz) (h : cellAt sz xs q = some c) : q < xs.length * sz := by
 obtain ⟨x, hx, _⟩ := cellAt_inv h
 exact (Nat.div_lt_iff_lt_mul hs).1 (List.getElem?_eq_some_iff.1 hx).1
theorem cellAt_ex {sz : Nat} {xs : List AVal} {q : Nat} (hs : 0 < sz) (hz : ∀ x ∈ xs, x.cells.length = sz) (h : q < xs.length * sz) : ∃ c, cellAt sz xs q = some c := by
 have hi : q / sz < xs.length := (Nat.div_lt_iff_lt_mul hs).2 h
 have hx : xs[q / sz]? = some xs[q / sz] := List.getElem?_eq_getElem hi
 have hj : q % sz < (xs[q / sz]).cells.length := by rw [hz _ (List.getElem_mem hi)]; exact Nat.mod_lt _ hs
 exact ⟨_, by unfold cellAt; rw [hx]; exact List.getElem?_eq_getElem hj⟩
theorem cellAt_app_left {sz : Nat} {xs ys : List AVal} {o : Nat} (hs : 0 < sz) (h : o < xs.length * sz) : cellAt sz (xs ++ ys) o = cellAt sz xs o := by
 have hi : o / sz < xs.length := (Nat.div_lt_iff_lt_mul hs).2 h
 simp [cellAt, List.getElem?_append_left hi]
theorem cellAt_app_right {sz : Nat} {xs ys : List AVal} {o : Nat} (hs : 0 < sz) (h : xs.length * sz ≤ o) : cellAt sz (xs ++ ys) o = cellAt sz ys (o - xs.length * sz) := by
 have hi : xs.length ≤ o / sz := (Nat.le_div_iff_mul_le hs).2 h
 obtain ⟨q, rfl⟩ := Nat.exists_eq_add_of_le h
 have h1 : (xs.length * sz + q) / sz = xs.length + q / sz := by rw [Nat.mul_comm, Nat.mul_add_div hs]
 have h2 : (xs.length * sz + q) % sz = q % sz := by rw [Nat.mul_comm, Nat.mul_add_mod]
 simp only [cellAt, h1, h2, Nat.add_sub_cancel_left]
 rw [List.getElem?_append_right (by omega)]
 simp
theorem cellAt_take {sz n : Nat} {xs : List AVal} {q : Nat} (hs : 0 < sz) (h : q < n * sz) : cellAt sz (xs.take n) q = cellAt sz xs q := by
 have hi : q / sz < n := (Nat.div_lt_iff_lt_mul hs).2 h
 simp [cellAt, List.getElem?_take_of_lt hi]
theorem cellAt_drop {sz n : Nat} {xs : List AVal} {q : Nat} (hs : 0 < sz) : cellAt sz (xs.drop n) q = cellAt sz xs (n * sz + q) := by
 have h1 : (n * sz + q) / sz = n + q / sz := by rw [Nat.mul_comm, Nat.mul_add_div hs]
 have h2 : (n * sz + q) % sz = q % sz := by rw [Nat.mul_comm, Nat.mul_add_mod]
 simp [cellAt, h1, h2, List.getElem?_drop]
theorem cellAt_splice {sz i : Nat} {xs ys : List AVal} (hs : 0 < sz) (hi : i + ys.length ≤ xs.length) {q : Nat} {c : AVal} (h : cellAt sz (xs.take i ++ ys ++ xs.drop (i + ys.length)) q = some c) :
  (i * sz ≤ q ∧ q < i * sz + ys.length * sz ∧ cellAt sz ys (q - i * sz) = some c) ∨ ((q < i * sz ∨ i * sz + ys.length * sz ≤ q) ∧ cellAt sz xs q = some c) := by
 have hl : (xs.take i).length = i := by simp; omega
 have hl2 : (xs.take i ++ ys).length = i + ys.length := by simp; omega
 by_cases h1 : q < i * sz
 ·right
  refine ⟨.inl h1, ?_⟩
  rw [List.append_assoc, cellAt_app_left hs (by rw [hl]; exact h1), cellAt_take hs h1] at h
  exact h
 ·by_cases h2 : q < i * sz + ys.length * sz
  ·left
   rw [cellAt_app_left hs (by rw [hl2, Nat.add_mul]; exact h2), cellAt_app_right hs (by rw [hl]; omega), hl] at h
   exact ⟨by omega, h2, h⟩
  ·right
   refine ⟨.inr (by omega), ?_⟩
   rw [cellAt_app_right hs (by rw [hl2, Nat.add_mul]; omega), cellAt_drop hs, hl2] at h
   have : (i + ys.length) * sz + (q - (i + ys.length) * sz) = q := by rw [Nat.add_mul]; omega
   rwa [this] at h
theorem take_set_drop {α : Type} (cv vs : List α) (off : Nat) (h : off + vs.length ≤ cv.length) : (cv.take off ++ vs ++ cv.drop (off + vs.length)).length = cv.length ∧
  ∀ (i : Nat), (cv.take off ++ vs ++ cv.drop (off + vs.length))[i]? = if off ≤ i ∧ i < off + vs.length then vs[i - off]? else cv[i]? := by
 refine ⟨by simp; omega, fun i => ?_⟩
 by_cases h1 : i < off
 ·rw [List.append_assoc, List.getElem?_append_left (by simp; omega), if_neg (by omega), List.getElem?_take_of_lt h1]
 ·by_cases h2 : i < off + vs.length
  ·rw [if_pos ⟨by omega, h2⟩, List.append_assoc, List.getElem?_append_right (by simp; omega), List.getElem?_append_left (by simp; omega)]
   congr 1
   simp; omega
  ·rw [if_neg (by omega), List.getElem?_append_right (by simp; omega), List.getElem?_drop]
   congr 1
   simp; omega
section
variable {M : Imm} {ob : Hs} {obs : List AObj} {w : World}
theorem blk_last {hs : List Value} {g : Nat} {v : Value} (hl : hs.length = g + 1) (hv : hs[g]? = some v) : blk hs = blkV v := by
 unfold blk
 rw [List.getLast?_eq_getElem?, hl, Nat.add_sub_cancel, hv]
theorem blk_own {hs : List Value} {v : Value} {b : Nat} (h : blk hs = v.ownBlock.toList) (e : v.ownBlock = some b) : b ∈ blk hs := by rw [h, e]; simp
theorem own_blk {hs : List Value} {v : Value} {b : Nat} (h : blk hs = v.ownBlock.toList) (e : b ∈ blk hs) : v.ownBlock = some b := by rw [h] at e; simpa using e
theorem ownsRow_blk {w : World} {e : TypeId} {sz n : Nat} {v : Value} {cv : List Value} (h : w.ownsRow 0 e sz v n cv) : blkV v = v.ownBlock.toList := by
 rcases h.2 with ⟨rfl, _⟩ | ⟨g, cap, cur, rfl, _⟩ <;> rfl
theorem at_get {k g : Nat} {hs : List Value} (h : ob[k]? = some hs) : at' ob k g = hs[g]? := by simp [at', h]
theorem Mem.rowOf (h : Mem M ob obs w) {k g sz : Nat} {e : TypeId} {xs : List AVal} (hx : obs[k]? = some (.row g sz e xs)) : ∃ hs v, ob[k]? = some hs ∧ hs.length = g + 1 ∧ hs[g]? = some v ∧ at' ob k g = some v ∧ RowAt M w v sz e xs ∧ blk hs = v.ownBlock.toList := by
 obtain ⟨hs, h1, h2, v, h3, h4⟩ := h.obj k _ hx
 refine ⟨hs, v, h1, h2, h3, (at_get h1).trans h3, h4, (blk_last h2 h3).trans ?_⟩
 obtain ⟨cv, ho, _⟩ := h4
 exact ownsRow_blk ho
theorem Mem.rowTurn (h : Mem M ob obs w) {k g sz : Nat} {e : TypeId} {xs : List AVal} (hx : obs[k]? = some (.row g sz e xs)) {hs : List Value} {v : Value} (hh : ob[k]? = some hs) (hv : hs[g]? = some v)
  {w' : World} {g' : Nat} {hs' : List Value} {v' : Value} {xs' : List AVal} (hp : hs <+: hs') (hl' : hs'.length = g' + 1) (hv' : hs'[g']? = some v') (hr : RowAt M w' v' sz e xs')
  (heap : ∀ b, b < w.heap.size → v.ownBlock ≠ some b → w'.heap[b]? = w.heap[b]?) (hos : w'.os = w.os) (htape : w'.tape = w.tape) (hout : w'.output = w.output) (hsize : w.heap.size ≤ w'.heap.size)
  (hb : ∀ b, v'.ownBlock = some b → v.ownBlock = some b ∨ w.heap.size ≤ b) :
  Mem M (ob.set k hs') (obs.set k (.row g' sz e xs')) w' ∧ Ext M ob obs w M (ob.set k hs') (obs.set k (.row g' sz e xs')) w' ∧ Still ob obs (ob.set k hs') (obs.set k (.row g' sz e xs')) := by
 obtain ⟨hs0, v0, e1, e2, e3, _, hrow, hblk⟩ := h.rowOf hx
 rw [hh] at e1
 cases e1
 rw [hv] at e3
 cases e3
 obtain ⟨cv, hown, _, _, _, hno, _⟩ := hrow
 obtain ⟨cv', hown', _⟩ := id hr
 have hnoM : ∀ b o y, M b o y → v.ownBlock ≠ some b := fun b o y hy e => hno b e o y hy
 refine h.turn hx hh hp (fun e => by cases e) (fun _ _ _ h => h) (fun _ _ _ h => .inl h) (fun b o y hy => ?_) (fun b hlt hn => heap b hlt fun e => hn ⟨rfl, blk_own hblk e⟩) hos htape hout hsize (fun _ => ?_) (fun _ b hb' => ?_)
 ·obtain ⟨u, hu, h1, h2⟩ := h.imm b o y hy
  exact ⟨u, (World.cell?_of_block (w := w) (a := ⟨b, o, none⟩) (heap b (World.block_lt_of_cell? w _ hu) (hnoM b o y hy))).trans hu, h1, h2⟩
 ·exact ⟨hl', v', hv', hr⟩
 ·have hb' := own_blk ((blk_last hl' hv').trans (ownsRow_blk hown')) hb'
  refine ⟨?_, (hown'.lt b hb').2⟩
  rcases hb b hb' with q | q
  ·exact .inl ⟨rfl, blk_own hblk q⟩
  ·exact .inr q
theorem set_self {α : Type} {l : List α} {k : Nat} {x : α} (h : l[k]? = some x) : l.set k x = l := by
 apply List.ext_getElem?
 intro i
 by_cases hi : i = k
 ·subst hi
  rw [List.getElem?_set_self (List.getElem?_eq_some_iff.1 h).1, h]
 ·rw [List.getElem?_set_ne (fun e => hi e.symm)]
theorem RowAt.write {v : Value} {sz : Nat} {e : TypeId} {xs xs' : List AVal} (h : RowAt M w v sz e xs) {b n cap : Nat} (hv : v = .slice (some ⟨b, 0, none⟩) n cap) (hs : 0 < sz) {p : Nat} {news : List Value} (hp : p + news.length ≤ xs.length * sz)
  (h1 : ∀ u ∈ news, u.oneCell' = true) (hl : xs'.length = xs.length) (hz : ∀ x ∈ xs', x.cells.length = sz)
  (hc : ∀ q c, cellAt sz xs' q = some c → (p ≤ q ∧ q < p + news.length ∧ ∃ u, news[q - p]? = some u ∧ Rep M [] u c) ∨ ((q < p ∨ p + news.length ≤ q) ∧ cellAt sz xs q = some c)) :
  ∃ cur, w.heap[b]? = some (.cells cur e (0, 0)) ∧ p + news.length ≤ cur.size ∧ RowAt M (w.setRow b (cur.toList.take p ++ news ++ cur.toList.drop (p + news.length)).toArray) v sz e xs' := by
 subst hv
 obtain ⟨cv, ⟨g1, g2⟩, h3, h4, h5, h6, h7⟩ := h
 rcases g2 with ⟨e1, _⟩ | ⟨g, cap', cur, e1, _, e3, e4, e5, e6, e7⟩
 ·cases e1
 cases e1
 have hsz : xs.length * sz ≤ cur.size := by rw [e6]; exact Nat.mul_le_mul_right _ e4
 have hfit : p + news.length ≤ cur.toList.length := by rw [Array.length_toList]; exact Nat.le_trans hp hsz
 obtain ⟨q1, q2⟩ := take_set_drop cur.toList news p hfit
 have hcv : ∀ q, q < xs.length * sz → cv[q]? = cur.toList[q]? := fun q hq => by rw [← e7, List.getElem?_take_of_lt hq]
 refine ⟨cur, e3, by rw [Array.length_toList] at hfit; exact hfit, (cur.toList.take p ++ news ++ cur.toList.drop (p + news.length)).take (xs.length * sz), ⟨by rw [hl, List.length_take, q1, Array.length_toList]; exact Nat.min_eq_left hsz, .inr ⟨b, cap, _, by rw [hl], Nat.zero_le _, setRow_heap w b cur _ e _ e3, by rw [hl]; exact e4, e5, ?_, by rw [hl]⟩⟩, fun u hu => ?_, hz, fun q c hq => ?_, h6, fun b' e' cur' T fz hc' u hu => ?_⟩
 ·rw [List.size_toArray, q1, Array.length_toList, e6]
 ·obtain ⟨q, hq⟩ := List.getElem?_of_mem hu
  rw [List.getElem?_take] at hq
  split at hq
  ·rename_i hlt
   rw [q2] at hq
   split at hq
   ·exact h1 u (List.mem_of_getElem? hq)
   ·rw [← hcv q hlt] at hq
    exact h3 u (List.mem_of_getElem? hq)
  ·cases hq
 ·have hlt := cellAt_lt hs hq
  rw [hl] at hlt
  rw [List.getElem?_take_of_lt hlt, q2]
  rcases hc q c hq with ⟨a1, a2, u, hu, hr⟩ | ⟨a1, a2⟩
  ·rw [if_pos ⟨a1, a2⟩]; exact ⟨u, hu, hr⟩
  ·rw [if_neg (by omega), ← hcv q hlt]
   exact h5 q c a2
 ·cases e'
  rw [setRow_heap w b cur _ e _ e3] at hc'
  cases hc'
  have hold : ∀ u ∈ cur.toList, u.oneCell' = true := h7 b rfl _ _ _ e3
  simp only [List.mem_append] at hu
  rcases hu with (hu | hu) | hu
  ·exact hold u (List.mem_of_mem_take hu)
  ·exact h1 u hu
  ·exact hold u (List.mem_of_mem_drop hu)
theorem Mem.rowWrite {P : Program} (h : Mem M ob obs w) {k g sz : Nat} {e : TypeId} {xs xs' : List AVal} (hx : obs[k]? = some (.row g sz e xs)) {b n cap : Nat} (hv : at' ob k g = some (.slice (some ⟨b, 0, none⟩) n cap)) (hs : 0 < sz)
  {p : Nat} {news : List Value} (hp : p + news.length ≤ xs.length * sz) (h1 : ∀ u ∈ news, u.oneCell' = true) (hl : xs'.length = xs.length) (hz : ∀ x ∈ xs', x.cells.length = sz)
  (hc : ∀ q c, cellAt sz xs' q = some c → (p ≤ q ∧ q < p + news.length ∧ ∃ u, news[q - p]? = some u ∧ Rep M [] u c) ∨ ((q < p ∨ p + news.length ≤ q) ∧ cellAt sz xs q = some c)) :
  ∃ w', (storeCells ⟨b, p, none⟩ news).run P w = .ok () w' ∧ Mem M ob (obs.set k (.row g sz e xs')) w' ∧ Ext M ob obs w M ob (obs.set k (.row g sz e xs')) w' ∧ Still ob obs ob (obs.set k (.row g sz e xs')) := by
 obtain ⟨hs0, v, e1, e2, e3, e4, hrow, hblk⟩ := h.rowOf hx
 rw [hv] at e4
 cases e4
 obtain ⟨cur, c1, c2, c3⟩ := hrow.write rfl hs hp h1 hl hz hc
 have hst := run_storeCells_at P b p e news 0 cur w c1 (by simpa using c2) h1
 simp only [Nat.add_zero] at hst
 refine ⟨_, hst, ?_⟩
 have := h.rowTurn (hs' := hs0) hx e1 e3 (List.prefix_refl _) e2 e3 c3 (fun b' _ hn => setRow_other w b b' _ (fun e => hn (by simp [Value.ownBlock, e]))) rfl rfl rfl (by simp [World.setRow]) (fun b' hb' => .inl hb')
 rw [set_self e1] at this
 exact this
end
theorem alloc_size (w : World) (o : Obj) : (w.alloc o).heap.size = w.heap.size + 1 := by
 show (w.heap.push o).size = _
 simp
structure Grown (M : Imm) (w w' : World) (sz : Nat) (e : TypeId) (v : Value) (xs : List AVal) : Prop where
 own : ∃ cv, w'.ownsRow 0 e sz v xs.length cv ∧ (∀ u ∈ cv, u.oneCell' = true) ∧ ∀ (q : Nat) c, cellAt sz xs q = some c → ∃ u, cv[q]? = some u ∧ Rep M [] u c
 pos : 0 < sz
 hz : ∀ x ∈ xs, x.cells.length = sz
 blk : ∀ b, v.ownBlock = some b → w.heap.size ≤ b
 heap : ∀ b, b < w.heap.size → w'.heap[b]? = w.heap[b]?
 os : w'.os = w.os
 tape : w'.tape = w.tape
 output : w'.output = w.output
 size : w.heap.size ≤ w'.heap.size
 oneb : OneB w' v
section
variable {M : Imm} {ob : Hs} {obs : List AObj} {w w' : World} {sz : Nat} {e : TypeId} {v : Value} {xs : List AVal}
theorem own_cells {w : World} {n : Nat} {cv : List Value} (h : w.ownsRow 0 e sz v n cv) {b : Nat} (hb : v.ownBlock = some b) {q : Nat} {u : Value} (hu : cv[q]? = some u) : w.cell? ⟨b, q, none⟩ = some u := by
 have := h.cells (g := b) hb q u hu
 rwa [addr_add, Nat.zero_add] at this
theorem own_shape {w : World} {n : Nat} {cv : List Value} (h : w.ownsRow 0 e sz v n cv) : (v = .slice none 0 0 ∧ n = 0) ∨ ∃ b cap, v = .slice (some ⟨b, 0, none⟩) n cap ∧ v.ownBlock = some b ∧ n ≤ cap ∧ cap ≤ maxLen := by
 rcases h.2 with h | ⟨g, cap, cur, e1, _, _, e4, e5, _⟩
 ·exact .inl h
 ·exact .inr ⟨g, cap, e1, by rw [e1]; rfl, e4, e5⟩
def withRow (M : Imm) (v : Value) (sz : Nat) (xs : List AVal) : Imm := fun b o x => M b o x ∨ (v.ownBlock = some b ∧ cellAt sz xs o = some x)
theorem rep_withRow {w : World} {cv : List Value} (h : w.ownsRow 0 e sz v xs.length cv) (hz : ∀ x ∈ xs, x.cells.length = sz) {t : Tk} (ht : TkOK ob v t) : Rep (withRow M v sz xs) ob v (.slice sz xs t) := by
 rcases own_shape h with ⟨rfl, hn⟩ | ⟨b, cap, e1, e2, e3, e4⟩
 ·have : xs = [] := List.eq_nil_of_length_eq_zero hn
  subst this
  exact .slnil sz t ht
 ·subst e1
  refine .sl sz b 0 xs.length cap xs t rfl e3 (by simp only [maxLen] at e4; omega) hz (fun i j x c hx hc => .inr ⟨e2, ?_⟩) ht
  rw [Nat.zero_add]
  exact cellAt_eq hx hc (hz x (List.mem_of_getElem? hx))
theorem Grown.imm (g : Grown M w w' sz e v xs) (h : Mem M ob obs w) : ∀ b o y, withRow M v sz xs b o y → ∃ u, w'.cell? ⟨b, o, none⟩ = some u ∧ u.oneCell' = true ∧ Rep (withRow M v sz xs) [] u y := by
 obtain ⟨cv, h1, h2, h3⟩ := g.own
 intro b o y hy
 rcases hy with hy | ⟨hb, hy⟩
 ·obtain ⟨u, hu, h4, h5⟩ := h.imm b o y hy
  exact ⟨u, (World.cell?_of_block (w := w) (a := ⟨b, o, none⟩) (g.heap b (World.block_lt_of_cell? w _ hu))).trans hu, h4, h5.monoM fun _ _ _ h => .inl h⟩
 ·obtain ⟨u, hu, hr⟩ := h3 o y hy
  exact ⟨u, own_cells h1 hb hu, h2 u (List.mem_of_getElem? hu), hr.monoM fun _ _ _ h => .inl h⟩
theorem Grown.more (g : Grown M w w' sz e v xs) (h : Mem M ob obs w) : Mem (withRow M v sz xs) ob obs w' ∧ Ext M ob obs w (withRow M v sz xs) ob obs w' :=
 h.more (fun _ _ _ h => .inl h) (fun b o y hy => by
  rcases hy with hy | ⟨hb, _⟩
  ·exact .inl hy
  ·exact .inr (g.blk b hb)) (g.imm h) g.heap g.os g.tape g.output g.size
theorem Grown.row (g : Grown M w w' sz e v xs) (h : Mem M ob obs w) {k : Nat} (h1 : obs[k]? = some .dead) (h2 : ob[k]? = some []) :
  Mem M (ob.set k [v]) (obs.set k (.row 0 sz e xs)) w' ∧ Ext M ob obs w M (ob.set k [v]) (obs.set k (.row 0 sz e xs)) w' ∧ Still ob obs (ob.set k [v]) (obs.set k (.row 0 sz e xs)) := by
 obtain ⟨cv, o1, o2, o3⟩ := g.own
 refine h.turn h1 h2 ⟨[v], rfl⟩ (fun _ => rfl) (fun _ _ _ h => h) (fun _ _ _ h => .inl h) (fun b o y hy => ?_) (fun b hb _ => g.heap b hb) g.os g.tape g.output g.size (fun _ => ⟨rfl, v, rfl, cv, o1, o2, g.hz, o3, fun b hb o => h.noImm (g.blk b hb) o, g.oneb⟩) (fun _ b hb => ?_)
 ·obtain ⟨u, hu, h4, h5⟩ := h.imm b o y hy
  exact ⟨u, (World.cell?_of_block (w := w) (a := ⟨b, o, none⟩) (g.heap b (World.block_lt_of_cell? w _ hu))).trans hu, h4, h5⟩
 ·have hb' : v.ownBlock = some b := own_blk (hs := [v]) (ownsRow_blk o1) hb
  exact ⟨.inr (g.blk b hb'), (o1.lt b hb').2⟩
theorem Grown.tail (g : Grown M w w' sz e v xs) (h : Mem M ob obs w) {k : Nat} (h1 : obs[k]? = some .dead) (h2 : ob[k]? = some []) :
  Mem (withRow M v sz xs) (ob.set k [v]) (obs.set k (.tail 0 sz e)) w' ∧ Ext M ob obs w (withRow M v sz xs) (ob.set k [v]) (obs.set k (.tail 0 sz e)) w' ∧ Still ob obs (ob.set k [v]) (obs.set k (.tail 0 sz e)) ∧
   Rep (withRow M v sz xs) (ob.set k [v]) v (.slice sz xs (.own k 0)) := by
 obtain ⟨cv, o1, o2, o3⟩ := g.own
 have hk : k < ob.length := (List.getElem?_eq_some_iff.1 h2).1
 have main := h.turn (M' := withRow M v sz xs) (w' := w') (x' := .tail 0 sz e) (hs' := [v]) h1 h2 ⟨[v], rfl⟩ (fun _ => rfl) (fun _ _ _ h => .inl h) (fun b o y hy => by
  rcases hy with hy | ⟨hb, _⟩
  ·exact .inl hy
  ·exact .inr (.inr (g.blk b hb))) (g.imm h) (fun b hb _ => g.heap b hb) g.os g.tape g.output g.size
  (fun _ => ⟨rfl, v, rfl, _, cv, o1, fun b hb o ho y hy => by
   rcases hy with hy | ⟨_, hy⟩
   ·exact h.noImm (g.blk b hb) o y hy
   ·have := cellAt_lt g.pos hy; omega⟩)
  (fun _ b hb => by
   have hb' : v.ownBlock = some b := own_blk (hs := [v]) (ownsRow_blk o1) hb
   exact ⟨.inr (g.blk b hb'), (o1.lt b hb').2⟩)
 refine ⟨main.1, main.2.1, main.2.2, rep_withRow o1 g.hz ?_⟩
 show at' _ k 0 = some v
 rw [at_get (List.getElem?_set_self hk)]
 rfl
end
theorem oneB_nil (w : World) : OneB w (.slice none 0 0) := fun b hb => by cases hb
theorem zeroCells_one {z : Array Value} {n : Nat} (hz : z.toList.all (·.oneCell') = true) : ∀ u ∈ (Builtin.zeroCells z n).toList, u.oneCell' = true := by
 intro u hu
 simp only [Builtin.zeroCells, Array.toList_map, List.mem_map] at hu
 obtain ⟨i, hi, rfl⟩ := hu
 have hpos : 0 < z.size := by
  refine Nat.pos_of_ne_zero fun e => ?_
  have : i < n * z.size := by simpa using hi
  rw [e] at this
  simp at this
 have hlt : i % z.size < z.size := Nat.mod_lt _ hpos
 rw [getElem!_pos z _ hlt]
 exact List.all_eq_true.1 hz _ (by simp)
theorem oneB_alloc {w : World} {cs : List Value} {n c : Nat} {T : TypeId} (h : ∀ u ∈ cs, u.oneCell' = true) : OneB (w.alloc (.cells cs.toArray T)) (.slice (some ⟨w.heap.size, 0, none⟩) n c) := by
 intro b hb cur T' fz hc u hu
 cases hb
 rw [heap_alloc_new w _] at hc
 cases hc
 exact h u (by simpa using hu)
theorem run_append_any {P : Program} (w : World) (t tx ty e : TypeId) (i : TypeInfo) (z : Value) (ht : P.underlying t = some (.slice e)) (hi : P.info? e = some i) (hz : i.zero = some z) (hz1 : z.cells.toList.all (·.oneCell') = true)
  (hzs : z.cells.size = i.size) (v : Value) (n : Nat) (olds : List Value) (hown : w.ownsRow 0 e i.size v n olds) (h1o : ∀ u ∈ olds, u.oneCell' = true) (x : Value) (m : Nat) (news : List Value) (hs : Src P i.size tx x m news w)
  (h63 : n + m ≤ maxLen) (hbytes : (n + m) * i.bytes ≤ 140737488355328) :
  ∃ v' w', (Builtin.append_ #[t, tx] ty #[v, x]).run P w = .ok v' w' ∧ w'.ownsRow 0 e i.size v' (n + m) (olds ++ news) ∧ w'.os = w.os ∧ w'.tape = w.tape ∧ w'.output = w.output ∧ w.heap.size ≤ w'.heap.size ∧
   ((v'.ownBlock = v.ownBlock ∧ ∀ b, v.ownBlock ≠ some b → w'.heap[b]? = w.heap[b]?) ∨ (v'.ownBlock = some w.heap.size ∧ ∀ b, b < w.heap.size → w'.heap[b]? = w.heap[b]?)) ∧ (OneB w v → OneB w' v') := by
 have hlen : (olds ++ news).length = (n + m) * i.size := by rw [List.length_append, hown.1, hs.newsLen, Nat.add_mul]
 have h63' : n + m ≤ 4611686018427387904 ∨ True := .inr trivial
 have grown : ∀ (old : Nat), old < n + m →
   (w.drew.alloc (.cells ((olds ++ news).toArray ++ Builtin.zeroCells z.cells (grownCap w (n + m) old e - (n + m))) e)).ownsRow 0 e i.size
    (.slice (some ⟨w.heap.size, 0, none⟩) (n + m) (grownCap w (n + m) old e)) (n + m) (olds ++ news) := by
  intro old ho
  have hge := grownCap_ge w (n + m) old e
  have hcm : grownCap w (n + m) old e ≤ maxLen := grownCap_le_maxLen w (n + m) old e h63
  refine ⟨hlen, .inr ⟨w.heap.size, _, _, rfl, Nat.zero_le _, heap_alloc_new w.drew _, hge, hcm, ?_, ?_⟩⟩
  ·simp only [Array.size_append, List.size_toArray, size_zeroCells, hzs, hlen, ← Nat.add_mul]
   congr 1
   omega
  ·simp only [Array.toList_append]
   rw [← hlen]
   exact List.take_left
 have grownB : ∀ (k n' c' : Nat), OneB (w.drew.alloc (.cells ((olds ++ news).toArray ++ Builtin.zeroCells z.cells k) e)) (.slice (some ⟨w.heap.size, 0, none⟩) n' c') := by
  intro k n' c'
  have : (olds ++ news).toArray ++ Builtin.zeroCells z.cells k = ((olds ++ news) ++ (Builtin.zeroCells z.cells k).toList).toArray := by apply Array.ext'; simp
  rw [this]
  refine oneB_alloc (w := w.drew) fun u hu => ?_
  rcases List.mem_append.1 hu with hu | hu
  ·rcases List.mem_append.1 hu with hu | hu
   ·exact h1o u hu
   ·exact hs.one u hu
  ·exact zeroCells_one hz1 u hu
 have hsz : ∀ o, w.heap.size ≤ (w.drew.alloc o).heap.size := fun o => by rw [alloc_size]; show w.heap.size ≤ w.heap.size + 1; omega
 have hsm : ((n + m : Nat) : Int) ≤ 9223372036854775807 := by simp only [maxLen] at h63; omega
 rcases hown.2 with ⟨rfl, rfl⟩ | ⟨g, cap, cur, rfl, _, hg, hnc, hcm, hcs, htake⟩
 ·have hx : olds = [] := List.eq_nil_of_length_eq_zero (by simpa using hown.1)
  subst hx
  by_cases hm : m = 0
  ·subst hm
   have hn : news = [] := List.eq_nil_of_length_eq_zero (by simpa using hs.newsLen)
   subst hn
   refine ⟨.slice none 0 0, w, ?_, World.ownsRow_nil w 0 e i.size, rfl, rfl, rfl, Nat.le_refl _, .inl ⟨rfl, fun _ _ => rfl⟩, fun h => h⟩
   rcases hs.kind with ⟨e', hk⟩ | hk <;> simp [Builtin.append_, run_underlying ht, run_underlying hk, sizeOf, typeInfo, hi, hs.len, hs.cells]
  ·have hr := run_append_grow_src (P := P) w t tx ty e i z ht hi hz none 0 0 [] (by simp [Builtin.firstCells]) x m news hs (by omega) hsm (growslice_fits (by omega) hbytes)
   exact ⟨_, _, hr, grown 0 (by omega), rfl, rfl, rfl, hsz _, .inr ⟨rfl, fun b hb => heap_alloc_old w.drew _ hb⟩, fun _ => grownB _ _ _⟩
 ·by_cases hroom : n + m ≤ cap
  ·have hfit : n * i.size + news.length ≤ cur.size := by rw [hs.newsLen, hcs, ← Nat.add_mul]; exact Nat.mul_le_mul_right _ hroom
   have hst := run_storeCells_at P g (n * i.size) e news 0 cur w hg (by simpa using hfit) hs.one
   simp only [Nat.add_zero] at hst
   have had : (⟨g, 0, none⟩ : Addr).add (n * i.size) = ⟨g, n * i.size, none⟩ := by rw [addr_add, Nat.zero_add]
   have hr : (Builtin.append_ #[t, tx] ty #[.slice (some ⟨g, 0, none⟩) n cap, x]).run P w = .ok (.slice (some ⟨g, 0, none⟩) (n + m) cap) (w.setRow g (cur.toList.take (n * i.size) ++ news ++ cur.toList.drop (n * i.size + news.length)).toArray) := by
    rcases hs.kind with ⟨e', hk⟩ | hk <;> simp [Builtin.append_, run_underlying ht, run_underlying hk, sizeOf, typeInfo, hi, hs.len, hroom, hs.cells, had, hst]
   refine ⟨_, _, hr, ⟨hlen, .inr ⟨g, cap, _, rfl, Nat.zero_le _, setRow_heap w g cur _ e _ hg, hroom, hcm, ?_, ?_⟩⟩, rfl, rfl, rfl, by simp [World.setRow], .inl ⟨rfl, fun b hb => setRow_other w g b _ (fun e => hb (by simp [Value.ownBlock, e]))⟩, fun hob b hb cur' T' fz hc u hu => ?_⟩
   ·simp only [List.size_toArray, List.length_append, List.length_take, List.length_drop, Array.length_toList]
    omega
   ·rw [htake, ← hlen]
    exact List.take_left
   ·cases hb
    rw [setRow_heap w g cur _ e _ hg] at hc
    cases hc
    have hold : ∀ u ∈ cur.toList, u.oneCell' = true := hob g rfl _ _ _ hg
    simp only [List.mem_append] at hu
    rcases hu with (hu | hu) | hu
    ·exact hold u (List.mem_of_mem_take hu)
    ·exact hs.one u hu
    ·exact hold u (List.mem_of_mem_drop hu)
  ·have holds : ∀ (j : Nat) u, olds[j]? = some u → w.cell? ((⟨g, 0, none⟩ : Addr).add j) = some u := hown.cells (g := g) rfl
   have hfc : (Builtin.firstCells i.size n (.slice (some ⟨g, 0, none⟩) n cap)).run P w.drew = .ok olds.toArray w.drew := run_firstCells_some w.drew i.size n ⟨g, 0, none⟩ n cap olds hown.1 (by simpa using holds)
   have hr := run_append_grow_src (P := P) w t tx ty e i z ht hi hz (some ⟨g, 0, none⟩) n cap olds hfc x m news hs (by omega) hsm (growslice_fits (by omega) hbytes)
   exact ⟨_, _, hr, grown cap (by omega), rfl, rfl, rfl, hsz _, .inr ⟨rfl, fun b hb => heap_alloc_old w.drew _ hb⟩, fun _ => grownB _ _ _⟩
section
variable {M : Imm} {ob : Hs} {obs : List AObj} {w : World}
structure SrcA (P : Program) (M : Imm) (w : World) (sz : Nat) (tx : TypeId) (x : Value) (ys : List AVal) : Prop where
 src : ∃ news, Src P sz tx x ys.length news w ∧ ∀ (q : Nat) c, cellAt sz ys q = some c → ∃ u, news[q]? = some u ∧ Rep M [] u c
 hz : ∀ y ∈ ys, y.cells.length = sz
 pre : ∀ m, m ≤ ys.length → ∃ news : List Value, (Builtin.firstCells sz m x).run P w = .ok news.toArray w ∧ news.length = m * sz ∧ (∀ u ∈ news, u.oneCell' = true) ∧ ∀ (q : Nat) c, q < m * sz → cellAt sz ys q = some c → ∃ u, news[q]? = some u ∧ Rep M [] u c
theorem Mem.appendRow {P : Program} (h : Mem M ob obs w) {t tx ty e : TypeId} {i : TypeInfo} {z : Value} (ht : P.underlying t = some (.slice e)) (hi : P.info? e = some i) (hz : i.zero = some z) (hz1 : z.cells.toList.all (·.oneCell') = true)
  (hzs : z.cells.size = i.size) (hpos : 0 < i.size) {k g : Nat} {xs ys : List AVal} (hx : obs[k]? = some (.row g i.size e xs)) {v x : Value} (hv : at' ob k g = some v) (hs : SrcA P M w i.size tx x ys)
  (h63 : xs.length + ys.length ≤ maxLen) (hbytes : (xs.length + ys.length) * i.bytes ≤ 140737488355328) :
  ∃ v' w' ob', (Builtin.append_ #[t, tx] ty #[v, x]).run P w = .ok v' w' ∧ Mem M ob' (obs.set k (.row (g + 1) i.size e (xs ++ ys))) w' ∧ Ext M ob obs w M ob' (obs.set k (.row (g + 1) i.size e (xs ++ ys))) w' ∧
   Still ob obs ob' (obs.set k (.row (g + 1) i.size e (xs ++ ys))) ∧ Rep M ob' v' (.row k (g + 1)) := by
 obtain ⟨hs0, v0, e1, e2, e3, e4, hrow, hblk⟩ := h.rowOf hx
 rw [hv] at e4
 cases e4
 obtain ⟨cv, o1, o2, o3, o4, o5, o6⟩ := hrow
 obtain ⟨⟨news, s1, s2⟩, s3⟩ := hs
 obtain ⟨v', w', hr, hown', hos, htape, hout, hsize, hcase, honeb⟩ := run_append_any (P := P) w t tx ty e i z ht hi hz hz1 hzs v xs.length cv o1 o2 x ys.length news s1 h63 hbytes
 have hpick : ∀ b, v'.ownBlock = some b → v.ownBlock = some b ∨ w.heap.size ≤ b := fun b hb => by
  rcases hcase with ⟨q, _⟩ | ⟨q, _⟩
  ·exact .inl (q ▸ hb)
  ·rw [q] at hb; cases hb; exact .inr (Nat.le_refl _)
 have hrow' : RowAt M w' v' i.size e (xs ++ ys) := by
  refine ⟨cv ++ news, by rw [List.length_append]; exact hown', fun u hu => ?_, fun y hy => ?_, fun q c hq => ?_, fun b hb o => ?_, honeb o6⟩
  ·rcases List.mem_append.1 hu with hu | hu
   ·exact o2 u hu
   ·exact s1.one u hu
  ·rcases List.mem_append.1 hy with hy | hy
   ·exact o3 y hy
   ·exact s3 y hy
  ·by_cases hlt : q < xs.length * i.size
   ·rw [cellAt_app_left hpos hlt] at hq
    rw [List.getElem?_append_left (by rw [o1.1]; exact hlt)]
    exact o4 q c hq
   ·rw [cellAt_app_right hpos (by omega)] at hq
    rw [List.getElem?_append_right (by rw [o1.1]; omega), o1.1]
    exact s2 _ c hq
  ·rcases hpick b hb with q | q
   ·exact o5 b q o
   ·exact h.noImm q o
 have hl' : (hs0 ++ [v']).length = g + 1 + 1 := by simp [e2]
 have hg' : (hs0 ++ [v'])[g + 1]? = some v' := by rw [← e2]; simp
 have := h.rowTurn (hs' := hs0 ++ [v']) hx e1 e3 ⟨[v'], rfl⟩ hl' hg' hrow' (fun b hlt hn => by
  rcases hcase with ⟨_, q⟩ | ⟨_, q⟩
  ·exact q b hn
  ·exact q b hlt) hos htape hout hsize hpick
 refine ⟨v', w', _, hr, this.1, this.2.1, this.2.2, ?_⟩
 have hk : k < ob.length := (List.getElem?_eq_some_iff.1 e1).1
 have hat : at' (ob.set k (hs0 ++ [v'])) k (g + 1) = some v' := by rw [at_get (List.getElem?_set_self hk)]; exact hg'
 rcases own_shape hown' with ⟨q, _⟩ | ⟨b, cap, q, _⟩
 ·rw [q] at hat ⊢; exact .row _ _ _ _ _ hat
 ·rw [q] at hat ⊢; exact .row _ _ _ _ _ hat
theorem rep_own_len {v : Value} {sz : Nat} {xs : List AVal} {e : TypeId} {n : Nat} {cv : List Value} (hv : Rep M ob v (.slice sz xs .no)) (ho : w.ownsRow 0 e sz v n cv) : n = xs.length := by
 obtain ⟨a, c, rfl, h1, _⟩ := hv.slice_inv
 rcases own_shape ho with ⟨q, hn⟩ | ⟨b, cap, q, _⟩
 ·injection q with _ q2 _; omega
 ·injection q with _ q2 _; exact q2.symm
theorem Mem.appendTail {P : Program} (h : Mem M ob obs w) {t tx ty e : TypeId} {i : TypeInfo} {z : Value} (ht : P.underlying t = some (.slice e)) (hi : P.info? e = some i) (hz : i.zero = some z) (hz1 : z.cells.toList.all (·.oneCell') = true)
  (hzs : z.cells.size = i.size) (hpos : 0 < i.size) {k g : Nat} {xs ys : List AVal} (hx : obs[k]? = some (.tail g i.size e)) {v x : Value} (hv : Rep M ob v (.slice i.size xs (.own k g))) (hs : SrcA P M w i.size tx x ys)
  (h63 : xs.length + ys.length ≤ maxLen) (hbytes : (xs.length + ys.length) * i.bytes ≤ 140737488355328) :
  ∃ v' w' M' ob', (Builtin.append_ #[t, tx] ty #[v, x]).run P w = .ok v' w' ∧ Mem M' ob' (obs.set k (.tail (g + 1) i.size e)) w' ∧ Ext M ob obs w M' ob' (obs.set k (.tail (g + 1) i.size e)) w' ∧
   Still ob obs ob' (obs.set k (.tail (g + 1) i.size e)) ∧ Rep M' ob' v' (.slice i.size (xs ++ ys) (.own k (g + 1))) := by
 obtain ⟨hvr, hvt⟩ := hv.untok
 have hvt' : at' ob k g = some v := hvt
 obtain ⟨hs0, e1, e2, v0, e3, n, cv, o1, o5⟩ := h.obj k _ hx
 have e4 : hs0[g]? = some v := by rw [← at_get e1]; exact hvt'
 rw [e4] at e3
 cases e3
 have hn := rep_own_len hvr o1
 subst hn
 obtain ⟨⟨news, s1, s2⟩, s3⟩ := hs
 -- the old row's cells
 have hold : (∀ x ∈ xs, x.cells.length = i.size) ∧ (∀ u ∈ cv, u.oneCell' = true) ∧ (∀ (q : Nat) c, cellAt i.size xs q = some c → ∃ u, cv[q]? = some u ∧ Rep M [] u c) ∧ ∀ b, v.ownBlock = some b → b < w.heap.size ∧ ∀ (q : Nat) u, cv[q]? = some u → w.cell? ⟨b, q, none⟩ = some u := by
  have hcell : ∀ b, v.ownBlock = some b → ∀ (q : Nat) u, cv[q]? = some u → w.cell? ⟨b, q, none⟩ = some u := fun b hb q u hu => own_cells o1 hb hu
  cases hvr with
  | slnil sz t' ht' =>
   have : cv = [] := List.eq_nil_of_length_eq_zero (by simpa using o1.1)
   subst this
   exact ⟨fun x hx => by simp at hx, fun u hu => by simp at hu, fun q c hq => by simp [cellAt] at hq, fun b hb => ⟨(o1.lt b hb).2, hcell b hb⟩⟩
  | slemp sz t' a cap ht' =>
   have : cv = [] := List.eq_nil_of_length_eq_zero (by simpa using o1.1)
   subst this
   exact ⟨fun x hx => by simp at hx, fun u hu => by simp at hu, fun q c hq => by simp [cellAt] at hq, fun b hb => ⟨(o1.lt b hb).2, hcell b hb⟩⟩
  | sl sz b o n cap xs t' hn hc hm hzx hM ht' =>
   have ho : o = 0 := by
    rcases own_shape o1 with ⟨q, _⟩ | ⟨b', cap', q, _⟩
    ·cases q
    ·cases q; rfl
   subst ho
   have main : ∀ q, q < xs.length * i.size → ∃ u c, cv[q]? = some u ∧ cellAt i.size xs q = some c ∧ u.oneCell' = true ∧ Rep M [] u c := fun q hq => by
    obtain ⟨c, hc⟩ := cellAt_ex hpos hzx hq
    obtain ⟨y, hy, hyc⟩ := cellAt_inv hc
    have hMc := hM _ _ y c hy hyc
    have hqq : 0 + q / i.size * i.size + q % i.size = q := by rw [Nat.zero_add, Nat.mul_comm]; exact Nat.div_add_mod q _
    rw [hqq] at hMc
    obtain ⟨u, hu, h1, h2⟩ := h.imm b q c hMc
    have hlt : q < cv.length := by rw [o1.1]; exact hq
    have := hcell b rfl q _ (List.getElem?_eq_getElem hlt)
    rw [hu] at this
    cases this
    exact ⟨_, c, List.getElem?_eq_getElem hlt, hc, h1, h2⟩
   refine ⟨hzx, fun u hu => ?_, fun q c hq => ?_, fun b hb => ⟨(o1.lt b hb).2, hcell b hb⟩⟩
   ·obtain ⟨q, hq⟩ := List.getElem?_of_mem hu
    obtain ⟨u', c, h1, _, h2, _⟩ := main q (by have := (List.getElem?_eq_some_iff.1 hq).1; rw [o1.1] at this; exact this)
    rw [hq] at h1
    cases h1
    exact h2
   ·obtain ⟨u, c', h1, h2, _, h3⟩ := main q (cellAt_lt hpos hq)
    rw [hq] at h2
    cases h2
    exact ⟨u, h1, h3⟩
 obtain ⟨hzx, o2, o4, o6⟩ := hold
 obtain ⟨v', w', hr, hown', hos, htape, hout, hsize, hcase, honeb⟩ := run_append_any (P := P) w t tx ty e i z ht hi hz hz1 hzs v xs.length cv o1 o2 x ys.length news s1 h63 hbytes
 have hpick : ∀ b, v'.ownBlock = some b → v.ownBlock = some b ∨ w.heap.size ≤ b := fun b hb => by
  rcases hcase with ⟨q, _⟩ | ⟨q, _⟩
  ·exact .inl (q ▸ hb)
  ·rw [q] at hb; cases hb; exact .inr (Nat.le_refl _)
 have hheap : ∀ b, b < w.heap.size → v.ownBlock ≠ some b ∨ v'.ownBlock ≠ some b → w'.heap[b]? = w.heap[b]? := fun b hb hne => by
  rcases hcase with ⟨e1, h2⟩ | ⟨_, h2⟩
  ·exact h2 b (by rcases hne with h | h; exact h; rw [← e1]; exact h)
  ·exact h2 b hb
 have hzz : ∀ y ∈ xs ++ ys, y.cells.length = i.size := fun y hy => by
  rcases List.mem_append.1 hy with hy | hy
  ·exact hzx y hy
  ·exact s3 y hy
 have hcells : ∀ (q : Nat) c, cellAt i.size (xs ++ ys) q = some c → ∃ u, (cv ++ news)[q]? = some u ∧ u.oneCell' = true ∧ Rep M [] u c := fun q c hq => by
  by_cases hlt : q < xs.length * i.size
  ·rw [cellAt_app_left hpos hlt] at hq
   obtain ⟨u, hu, hr⟩ := o4 q c hq
   exact ⟨u, by rw [List.getElem?_append_left (by rw [o1.1]; exact hlt)]; exact hu, o2 u (List.mem_of_getElem? hu), hr⟩
  ·rw [cellAt_app_right hpos (by omega)] at hq
   obtain ⟨u, hu, hr⟩ := s2 _ c hq
   exact ⟨u, by rw [List.getElem?_append_right (by rw [o1.1]; omega), o1.1]; exact hu, s1.one u (List.mem_of_getElem? hu), hr⟩
 have hblk : blk hs0 = v.ownBlock.toList := (blk_last e2 e4).trans (ownsRow_blk o1)
 have hl' : (hs0 ++ [v']).length = g + 1 + 1 := by simp [e2]
 have hg' : (hs0 ++ [v'])[g + 1]? = some v' := by rw [← e2]; simp
 have hMo : ∀ b o y, v'.ownBlock = some b → M b o y → v.ownBlock = some b ∧ o < xs.length * i.size := fun b o y hb hy => by
  rcases hpick b hb with q | q
  ·refine ⟨q, ?_⟩
   rcases Nat.lt_or_ge o (xs.length * i.size) with hlt | hge
   ·exact hlt
   ·exact absurd hy (o5 b q o hge y)
  ·exact absurd hy (h.noImm q o y)
 have main := h.turn (M' := withRow M v' i.size (xs ++ ys)) (w' := w') (x' := .tail (g + 1) i.size e) (hs' := hs0 ++ [v']) hx e1 ⟨[v'], rfl⟩ (fun e => by cases e) (fun _ _ _ h => .inl h) (fun b o y hy => by
   rcases hy with hy | ⟨hb, _⟩
   ·exact .inl hy
   ·rcases hpick b hb with q | q
    ·exact .inr (.inl ⟨rfl, blk_own hblk q⟩)
    ·exact .inr (.inr q)) (fun b o y hy => by
   rcases hy with hy | ⟨hb, hy⟩
   ·obtain ⟨u, hu, h1, h2⟩ := h.imm b o y hy
    refine ⟨u, ?_, h1, h2.monoM fun _ _ _ h => .inl h⟩
    by_cases hb : v'.ownBlock = some b
    ·obtain ⟨q1, q2⟩ := hMo b o y hb hy
     have hlt : o < cv.length := by rw [o1.1]; exact q2
     have := (o6 b q1).2 o _ (List.getElem?_eq_getElem hlt)
     rw [hu] at this
     cases this
     exact own_cells hown' hb (by rw [List.getElem?_append_left hlt]; exact List.getElem?_eq_getElem hlt)
    ·exact (World.cell?_of_block (w := w) (a := ⟨b, o, none⟩) (hheap b (World.block_lt_of_cell? w _ hu) (.inr hb))).trans hu
   ·obtain ⟨u, hu, h1, h2⟩ := hcells o y hy
    exact ⟨u, own_cells hown' hb hu, h1, h2.monoM fun _ _ _ h => .inl h⟩)
  (fun b hlt hn => hheap b hlt (.inl fun e => hn ⟨rfl, blk_own hblk e⟩)) hos htape hout hsize
  (fun _ => ⟨hl', v', hg', _, cv ++ news, hown', fun b hb o ho y hy => by
   rcases hy with hy | ⟨_, hy⟩
   ·have := (hMo b o y hb hy).2
    rw [Nat.add_mul] at ho; omega
   ·have := cellAt_lt hpos hy
    rw [List.length_append] at this; omega⟩)
  (fun _ b hb => by
   have hb' : v'.ownBlock = some b := own_blk ((blk_last hl' hg').trans (ownsRow_blk hown')) hb
   refine ⟨?_, (hown'.lt b hb').2⟩
   rcases hpick b hb' with q | q
   ·exact .inl ⟨rfl, blk_own hblk q⟩
   ·exact .inr q)
 refine ⟨v', w', _, _, hr, main.1, main.2.1, main.2.2, rep_withRow (by rw [List.length_append]; exact hown') hzz ?_⟩
 show at' _ k (g + 1) = some v'
 rw [at_get (List.getElem?_set_self (List.getElem?_eq_some_iff.1 e1).1)]
 exact hg'
theorem append_nil {P : Program} (h : Mem M ob obs w) {t tx ty e : TypeId} {i : TypeInfo} {z : Value} (ht : P.underlying t = some (.slice e)) (hi : P.info? e = some i) (hz : i.zero = some z) (hz1 : z.cells.toList.all (·.oneCell') = true)
  (hzs : z.cells.size = i.size) (hpos : 0 < i.size) {ys : List AVal} {x : Value} (hs : SrcA P M w i.size tx x ys) (h63 : ys.length ≤ maxLen) (hbytes : ys.length * i.bytes ≤ 140737488355328) :
  ∃ v' w', (Builtin.append_ #[t, tx] ty #[.slice none 0 0, x]).run P w = .ok v' w' ∧ Grown M w w' i.size e v' ys := by
 obtain ⟨⟨news, s1, s2⟩, s3⟩ := hs
 obtain ⟨v', w', hr, hown', hos, htape, hout, hsize, hcase, honeb⟩ := run_append_any (P := P) w t tx ty e i z ht hi hz hz1 hzs _ 0 [] (World.ownsRow_nil w 0 e i.size) (by simp) x ys.length news s1 (by simpa using h63) (by simpa using hbytes)
 rw [Nat.zero_add, List.nil_append] at hown'
 refine ⟨v', w', hr, ⟨news, hown', s1.one, s2⟩, hpos, s3, fun b hb => ?_, fun b hb => ?_, hos, htape, hout, hsize, honeb (oneB_nil w)⟩
 ·rcases hcase with ⟨q, _⟩ | ⟨q, _⟩
  ·rw [q] at hb; cases hb
  ·rw [q] at hb; cases hb; exact Nat.le_refl _
 ·rcases hcase with ⟨_, q⟩ | ⟨_, q⟩
  ·exact q b (by simp [Value.ownBlock])
  ·exact q b hb
end
section
variable {M : Imm} {ob : Hs} {obs : List AObj} {w : World}
theorem Mem.sliceCells (h : Mem M ob obs w) {sz b o : Nat} {xs : List AVal} (hs : 0 < sz) (hz : ∀ x ∈ xs, x.cells.length = sz)
  (hm : ∀ (i j : Nat) x c, xs[i]? = some x → x.cells[j]? = some c → M b (o + i * sz + j) c) :
  ∃ vs : List Value, vs.length = xs.length * sz ∧ (∀ (j : Nat) u, vs[j]? = some u → w.cell? ⟨b, o + j, none⟩ = some u) ∧ (∀ u ∈ vs, u.oneCell' = true) ∧
   ∀ (q : Nat) c, cellAt sz xs q = some c → ∃ u, vs[q]? = some u ∧ Rep M [] u c := by
 have key : ∀ q, q < xs.length * sz → ∃ u, w.cell? ⟨b, o + q, none⟩ = some u ∧ u.oneCell' = true ∧ ∀ c, cellAt sz xs q = some c → Rep M [] u c := by
  intro q hq
  obtain ⟨c, hc⟩ := cellAt_ex hs hz hq
  obtain ⟨x, hx, hxc⟩ := cellAt_inv hc
  have he : o + q / sz * sz + q % sz = o + q := by have := Nat.div_add_mod q sz; rw [Nat.mul_comm] at this; omega
  obtain ⟨v, hv, h1, hr⟩ := h.imm _ _ _ (hm _ _ _ _ hx hxc)
  rw [he] at hv
  exact ⟨v, hv, h1, fun c' hc' => by rw [hc] at hc'; cases hc'; exact hr⟩
 refine ⟨(List.range (xs.length * sz)).map fun q => (w.cell? ⟨b, o + q, none⟩).getD undef, by simp, fun j u hu => ?_, fun u hu => ?_, fun q c hq => ?_⟩
 ·simp only [List.getElem?_map] at hu
  by_cases hj : j < xs.length * sz
  ·obtain ⟨v, hv, _⟩ := key j hj
   simp [List.getElem?_range hj, hv] at hu
   rw [hv, hu]
  ·rw [List.getElem?_eq_none (by simp; omega)] at hu
   simp at hu
 ·simp only [List.mem_map, List.mem_range] at hu
  obtain ⟨q, hq, rfl⟩ := hu
  obtain ⟨v, hv, h1, _⟩ := key q hq
  simp [hv, h1]
 ·have hlt := cellAt_lt hs hq
  obtain ⟨v, hv, _, hr⟩ := key q hlt
  exact ⟨v, by simp only [List.getElem?_map, List.getElem?_range hlt, Option.map_some, hv, Option.getD_some], hr c hq⟩
theorem pre_none {P : Program} {sz c m : Nat} {n : Nat} (hm : m ≤ 0) {ys : List AVal} : ∃ news : List Value, (Builtin.firstCells sz m (.slice none n c)).run P w = .ok news.toArray w ∧ news.length = m * sz ∧ (∀ u ∈ news, u.oneCell' = true) ∧ ∀ (q : Nat) c, q < m * sz → cellAt sz ys q = some c → ∃ u, news[q]? = some u ∧ Rep M [] u c := by
 have : m = 0 := by omega
 subst this
 exact ⟨[], rfl, by simp, fun u hu => by simp at hu, fun q c hq => by simp at hq⟩
theorem pre_some {P : Program} {sz n c m : Nat} {a : Addr} {ys : List AVal} {vs : List Value} (hm : m * sz ≤ vs.length) (hc : ∀ (j : Nat) u, vs[j]? = some u → w.cell? (a.add j) = some u) (h1 : ∀ u ∈ vs, u.oneCell' = true)
  (hr : ∀ (q : Nat) c, cellAt sz ys q = some c → ∃ u, vs[q]? = some u ∧ Rep M [] u c) :
  ∃ news : List Value, (Builtin.firstCells sz m (.slice (some a) n c)).run P w = .ok news.toArray w ∧ news.length = m * sz ∧ (∀ u ∈ news, u.oneCell' = true) ∧ ∀ (q : Nat) c, q < m * sz → cellAt sz ys q = some c → ∃ u, news[q]? = some u ∧ Rep M [] u c := by
 have hl : (vs.take (m * sz)).length = m * sz := by simp; omega
 have e : Builtin.firstCells sz m (.slice (some a) n c) = loadCells a (m * sz) := rfl
 have := run_loadCells_list (P := P) w a (vs.take (m * sz)) (fun j v hj => by
  rw [List.getElem?_take] at hj
  split at hj
  ·exact hc j v hj
  ·cases hj)
 rw [hl] at this
 refine ⟨vs.take (m * sz), by rw [e]; exact this, hl, fun u hu => h1 u (List.mem_of_mem_take hu), fun q c hq hcc => ?_⟩
 obtain ⟨u, hu, hru⟩ := hr q c hcc
 exact ⟨u, by rw [List.getElem?_take_of_lt hq]; exact hu, hru⟩
theorem pre_zero {P : Program} {sz c m n : Nat} {a : Addr} (hm : m ≤ 0) {ys : List AVal} : ∃ news : List Value, (Builtin.firstCells sz m (.slice (some a) n c)).run P w = .ok news.toArray w ∧ news.length = m * sz ∧ (∀ u ∈ news, u.oneCell' = true) ∧ ∀ (q : Nat) c, q < m * sz → cellAt sz ys q = some c → ∃ u, news[q]? = some u ∧ Rep M [] u c := by
 have : m = 0 := by omega
 subst this
 have e : Builtin.firstCells sz 0 (.slice (some a) n c) = loadCells a (0 * sz) := rfl
 have := run_loadCells_list (P := P) w a [] (fun j v hj => by simp at hj)
 refine ⟨[], ?_, by simp, fun u hu => by simp at hu, fun q c hq => by simp at hq⟩
 rw [e, Nat.zero_mul]
 exact this
theorem SrcA.ofSlice {P : Program} (h : Mem M ob obs w) {sz : Nat} (hs : 0 < sz) {tx e' : TypeId} (hk : P.underlying tx = some (.slice e')) {x : Value} {ys : List AVal} {t : Tk} (hx : Rep M ob x (.slice sz ys t)) : SrcA P M w sz tx x ys := by
 cases hx with
 | slnil sz t ht => exact ⟨⟨[], Src.ofNil w hk 0, fun q c hq => by simp [cellAt] at hq⟩, fun y hy => by simp at hy, fun m hm => pre_none hm⟩
 | slemp sz t a cap ht => exact ⟨⟨[], Src.ofSlice w hk a 0 cap [] (by simp) (fun j u hj => by simp at hj) (fun u hu => by simp at hu), fun q c hq => by simp [cellAt] at hq⟩, fun y hy => by simp at hy, fun m hm => pre_zero hm⟩
 | sl sz b o n cap xs t hn hc hm hz hM ht =>
  subst hn
  obtain ⟨vs, l1, l2, l3, l4⟩ := h.sliceCells hs hz hM
  exact ⟨⟨vs, Src.ofSlice w hk ⟨b, o, none⟩ _ cap vs l1 (fun j u hj => by rw [addr_add]; exact l2 j u hj) l3, l4⟩, hz, fun m hm => pre_some (vs := vs) (by rw [l1]; exact Nat.mul_le_mul_right _ hm) (fun j u hj => by rw [addr_add]; exact l2 j u hj) l3 l4⟩
theorem SrcA.ofRow {P : Program} (h : Mem M ob obs w) {k g sz : Nat} {e : TypeId} {xs : List AVal} (hs : 0 < sz) (hx : obs[k]? = some (.row g sz e xs)) {tx e' : TypeId} (hk : P.underlying tx = some (.slice e')) {v : Value} (hv : at' ob k g = some v)
  {lo len : Nat} (hl : lo + len ≤ xs.length) {x : Value} (hxv : ∀ b n c, v = .slice (some ⟨b, 0, none⟩) n c → len ≠ 0 → ∃ c', x = .slice (some ⟨b, lo * sz, none⟩) len c') (hx0 : len = 0 → ∃ a c', x = .slice a 0 c') : SrcA P M w sz tx x ((xs.drop lo).take len) := by
 obtain ⟨hs0, v0, _, _, _, e4, hrow, _⟩ := h.rowOf hx
 rw [hv] at e4
 cases e4
 obtain ⟨cv, o1, o2, o3, o4, o5⟩ := hrow
 have hz : ∀ y ∈ (xs.drop lo).take len, y.cells.length = sz := fun y hy => o3 y (List.mem_of_mem_drop (List.mem_of_mem_take hy))
 have hlen : ((xs.drop lo).take len).length = len := by simp; omega
 suffices hsuf : (∃ news, Src P sz tx x len news w ∧ ∀ (q : Nat) c, cellAt sz ((xs.drop lo).take len) q = some c → ∃ u, news[q]? = some u ∧ Rep M [] u c) ∧
   ∀ m, m ≤ len → ∃ news : List Value, (Builtin.firstCells sz m x).run P w = .ok news.toArray w ∧ news.length = m * sz ∧ (∀ u ∈ news, u.oneCell' = true) ∧ ∀ (q : Nat) c, q < m * sz → cellAt sz ((xs.drop lo).take len) q = some c → ∃ u, news[q]? = some u ∧ Rep M [] u c by
  exact ⟨by rw [hlen]; exact hsuf.1, hz, fun m hm => hsuf.2 m (by rw [hlen] at hm; exact hm)⟩
 by_cases h0 : len = 0
 ·subst h0
  obtain ⟨a, c', rfl⟩ := hx0 rfl
  cases a with
  | none => exact ⟨⟨[], Src.ofNil w hk c', fun q c hq => by simp [cellAt] at hq⟩, fun m hm => pre_none hm⟩
  | some a => exact ⟨⟨[], Src.ofSlice w hk a 0 c' [] (by simp) (fun j u hj => by simp at hj) (fun u hu => by simp at hu), fun q c hq => by simp [cellAt] at hq⟩, fun m hm => pre_zero hm⟩
 ·rcases own_shape o1 with ⟨q, hn⟩ | ⟨b, cap, q, q2, _⟩
  ·omega
  ·obtain ⟨c', rfl⟩ := hxv b _ cap q h0
   have hcl : (lo + len) * sz ≤ cv.length := by rw [o1.1]; exact Nat.mul_le_mul_right _ hl
   have f1 : ((cv.drop (lo * sz)).take (len * sz)).length = len * sz := by rw [List.length_take, List.length_drop]; rw [Nat.add_mul] at hcl; omega
   have f2 : ∀ (j : Nat) u, ((cv.drop (lo * sz)).take (len * sz))[j]? = some u → w.cell? ((⟨b, lo * sz, none⟩ : Addr).add j) = some u := fun j u hj => by
    rw [List.getElem?_take] at hj
    split at hj
    ·rw [List.getElem?_drop] at hj
     rw [addr_add]
     exact own_cells o1 q2 hj
    ·cases hj
   have f3 : ∀ u ∈ (cv.drop (lo * sz)).take (len * sz), u.oneCell' = true := fun u hu => o2 u (List.mem_of_mem_drop (List.mem_of_mem_take hu))
   have f4 : ∀ (j : Nat) c, cellAt sz ((xs.drop lo).take len) j = some c → ∃ u, ((cv.drop (lo * sz)).take (len * sz))[j]? = some u ∧ Rep M [] u c := fun j c hj => by
    have hlt := cellAt_lt hs hj
    rw [hlen] at hlt
    rw [cellAt_take hs hlt, cellAt_drop hs] at hj
    obtain ⟨u, hu, hr⟩ := o4 _ c hj
    exact ⟨u, by rw [List.getElem?_take_of_lt hlt, List.getElem?_drop]; exact hu, hr⟩
   exact ⟨⟨_, Src.ofSlice w hk _ _ _ _ f1 f2 f3, f4⟩, fun m hm => pre_some (by rw [f1]; exact Nat.mul_le_mul_right _ hm) f2 f3 f4⟩
theorem mk_size (l : List UInt8) : (⟨l.toArray⟩ : ByteArray).size = l.length := by simp [ByteArray.size]
theorem rep_byte (c : UInt8) : Rep M ob (.int .u8 c.toNat) (ub c) := .int _ _ ⟨by simp only [kmin]; omega, by simp only [kmax]; have := c.toNat_lt; omega⟩
theorem ub_cell (l : List UInt8) : ∀ y ∈ l.map ub, y.cells.length = 1 := fun y hy => by obtain ⟨c, _, rfl⟩ := List.mem_map.1 hy; rfl
theorem cellAt_ub (l : List UInt8) (q : Nat) : cellAt 1 (l.map ub) q = (l[q]?).map ub := by
 unfold cellAt
 rw [Nat.div_one, Nat.mod_one, List.getElem?_map]
 cases l[q]? <;> rfl
theorem SrcA.ofStr {P : Program} {tx : TypeId} (hk : P.underlying tx = some .string) (l : List UInt8) : SrcA P M w 1 tx (.string ⟨l.toArray⟩) (l.map ub) := by
 have hbc : ∀ (q : Nat) c, cellAt 1 (l.map ub) q = some c → ∃ b, l[q]? = some b ∧ c = ub b := fun q c hq => by
  rw [cellAt_ub] at hq
  obtain ⟨b, hb, rfl⟩ := Option.map_eq_some_iff.1 hq
  exact ⟨b, hb, rfl⟩
 refine ⟨⟨byteCells ⟨l.toArray⟩, ?_, fun q c hq => ?_⟩, ub_cell l, fun m hm => ⟨(l.take m).map fun b => Value.int .u8 b.toNat, ?_, by have := hm; simp at this ⊢; omega, fun u hu => by obtain ⟨_, _, rfl⟩ := List.mem_map.1 hu; rfl, fun q c hq hc => ?_⟩⟩
 ·have := Src.ofString (P := P) w hk ⟨l.toArray⟩
  rw [mk_size] at this
  rw [List.length_map]
  exact this
 ·rw [cellAt_ub] at hq
  obtain ⟨b, hb, rfl⟩ := Option.map_eq_some_iff.1 hq
  exact ⟨.int .u8 b.toNat, by simp [byteCells, hb], rep_byte b⟩
 ·have e : (Builtin.firstCells 1 m (.string ⟨l.toArray⟩)).run P w = .ok (((⟨l.toArray⟩ : ByteArray).extract 0 m).data.map fun b => Value.int .u8 b.toNat) w := rfl
  rw [e]
  congr 1
  apply Array.toList_inj.1
  rw [Array.toList_map, Lib.extract_data, List.drop_zero, Nat.sub_zero]
 ·obtain ⟨b, hb, rfl⟩ := hbc q c hc
  rw [Nat.mul_one] at hq
  exact ⟨.int .u8 b.toNat, by rw [List.getElem?_map, List.getElem?_take_of_lt hq, hb]; rfl, rep_byte b⟩
theorem append_full {P : Program} (h : Mem M ob obs w) {t tx ty e : TypeId} {i : TypeInfo} {z : Value} (ht : P.underlying t = some (.slice e)) (hi : P.info? e = some i) (hz : i.zero = some z) (hz1 : z.cells.toList.all (·.oneCell') = true)
  (hzs : z.cells.size = i.size) (hpos : 0 < i.size) {xs ys : List AVal} {v x : Value} (hv : Rep M ob v (.slice i.size xs .full)) (hs : SrcA P M w i.size tx x ys)
  (h63 : xs.length + ys.length ≤ maxLen) (hbytes : (xs.length + ys.length) * i.bytes ≤ 140737488355328) :
  ∃ v' w', (Builtin.append_ #[t, tx] ty #[v, x]).run P w = .ok v' w' ∧ ((ys = [] ∧ v' = v ∧ w' = w) ∨ (ys ≠ [] ∧ Grown M w w' i.size e v' (xs ++ ys))) := by
 obtain ⟨hvr, ⟨a, n, hvt⟩⟩ := hv.untok
 obtain ⟨⟨news, s1, s2⟩, s3⟩ := hs
 obtain ⟨a', c, hve, h0, h1, _⟩ := hvr.slice_inv
 subst hvt
 cases hve
 have hsm : ((xs.length + ys.length : Nat) : Int) ≤ 9223372036854775807 := by simp only [maxLen] at h63; omega
 by_cases hy : ys = []
 ·subst hy
  refine ⟨_, w, ?_, .inl ⟨rfl, rfl, rfl⟩⟩
  have hn : news = [] := List.eq_nil_of_length_eq_zero (by simpa using s1.newsLen)
  subst hn
  have s0 : Src P i.size tx x 0 [] w := s1
  cases a with
  | none => rcases s0.kind with ⟨e', hk⟩ | hk <;> simp [Builtin.append_, run_underlying ht, run_underlying hk, sizeOf, typeInfo, hi, s0.len, s0.cells]
  | some a => rcases s0.kind with ⟨e', hk⟩ | hk <;> simp [Builtin.append_, run_underlying ht, run_underlying hk, sizeOf, typeInfo, hi, s0.len, s0.cells, storeCells]
 ·have hpos' : 0 < ys.length := List.length_pos_iff.2 hy
  have pre : (∀ x ∈ xs, x.cells.length = i.size) ∧ ∃ olds : List Value, olds.length = xs.length * i.size ∧ (Builtin.firstCells i.size xs.length (.slice a xs.length xs.length)).run P w.drew = .ok olds.toArray w.drew ∧ (∀ u ∈ olds, u.oneCell' = true) ∧
    ∀ (q : Nat) c, cellAt i.size xs q = some c → ∃ u, olds[q]? = some u ∧ Rep M [] u c := by
   have nilc : xs = [] → (∀ x ∈ xs, x.cells.length = i.size) ∧ ∃ olds : List Value, olds.length = xs.length * i.size ∧ (Builtin.firstCells i.size xs.length (.slice a xs.length xs.length)).run P w.drew = .ok olds.toArray w.drew ∧ (∀ u ∈ olds, u.oneCell' = true) ∧
     ∀ (q : Nat) c, cellAt i.size xs q = some c → ∃ u, olds[q]? = some u ∧ Rep M [] u c := by
    intro hx
    subst hx
    refine ⟨fun x hx => by simp at hx, [], by simp, ?_, fun u hu => by simp at hu, fun q c hq => by simp [cellAt] at hq⟩
    cases a <;> simp [Builtin.firstCells, loadCells, loadCellsFrom]
   generalize hvv : Value.slice a xs.length xs.length = v at hvr
   cases hvr with
   | slnil sz t ht => have q := nilc rfl; rw [hvv] at q; exact q
   | slemp sz t a cap ht => have q := nilc rfl; rw [hvv] at q; exact q
   | sl sz b o n cap xs t hn hc hm hzx hM ht =>
    injection hvv with v1 v2 v3
    subst v1
    obtain ⟨olds, k1, k2, k3, k4⟩ := h.sliceCells hpos hzx hM
    exact ⟨hzx, olds, k1, run_firstCells_some w.drew i.size _ ⟨b, o, none⟩ _ _ olds k1 (fun j u hj => by rw [addr_add]; simpa using k2 j u hj), k3, k4⟩
  obtain ⟨hzx, olds, k1, k2, k3, k4⟩ := pre
  have hr := run_append_grow_src (P := P) w t tx ty e i z ht hi hz a xs.length xs.length olds k2 x ys.length news s1 (by omega) hsm (growslice_fits (by omega) hbytes)
  have hge := grownCap_ge w (xs.length + ys.length) xs.length e
  have hcm : grownCap w (xs.length + ys.length) xs.length e ≤ maxLen := grownCap_le_maxLen w (xs.length + ys.length) xs.length e h63
  have hlen : (olds ++ news).length = (xs.length + ys.length) * i.size := by rw [List.length_append, k1, s1.newsLen, Nat.add_mul]
  refine ⟨_, _, hr, .inr ⟨hy, ⟨olds ++ news, ⟨by rw [hlen, List.length_append], .inr ⟨w.heap.size, _, _, by rw [List.length_append], Nat.zero_le _, heap_alloc_new w.drew _, by rw [List.length_append]; exact hge, hcm, ?_, ?_⟩⟩, fun u hu => ?_, fun q c hq => ?_⟩, hpos, fun y hy => ?_, fun b hb => ?_, fun b hb => heap_alloc_old w.drew _ hb, rfl, rfl, rfl, by rw [alloc_size]; exact Nat.le_succ _, ?_⟩⟩
  ·simp only [Array.size_append, List.size_toArray, size_zeroCells, hzs, hlen, ← Nat.add_mul]
   congr 1
   omega
  ·rw [List.length_append]
   simp only [Array.toList_append]
   rw [← hlen]
   exact List.take_left
  ·rcases List.mem_append.1 hu with hu | hu
   ·exact k3 u hu
   ·exact s1.one u hu
  ·by_cases hlt : q < xs.length * i.size
   ·rw [cellAt_app_left hpos hlt] at hq
    rw [List.getElem?_append_left (by rw [k1]; exact hlt)]
    exact k4 q c hq
   ·rw [cellAt_app_right hpos (by omega)] at hq
    rw [List.getElem?_append_right (by rw [k1]; omega), k1]
    exact s2 _ c hq
  ·rcases List.mem_append.1 hy with hy | hy
   ·exact hzx y hy
   ·exact s3 y hy
  ·simp only [Value.ownBlock, Option.some.injEq] at hb
   omega
  ·have : ∀ k, (olds ++ news).toArray ++ Builtin.zeroCells z.cells k = ((olds ++ news) ++ (Builtin.zeroCells z.cells k).toList).toArray := fun k => by apply Array.ext'; simp
   rw [this]
   refine oneB_alloc (w := w.drew) fun u hu => ?_
   rcases List.mem_append.1 hu with hu | hu
   ·rcases List.mem_append.1 hu with hu | hu
    ·exact k3 u hu
    ·exact s1.one u hu
   ·exact zeroCells_one hz1 u hu
theorem Grown.ofAlloc {sz : Nat} {e : TypeId} {xs : List AVal} {cv : List Value} (hpos : 0 < sz) (hcl : cv.length = xs.length * sz) (h1 : ∀ u ∈ cv, u.oneCell' = true) (hz : ∀ x ∈ xs, x.cells.length = sz) (hm : xs.length ≤ maxLen)
  (hr : ∀ (q : Nat) c, cellAt sz xs q = some c → ∃ u, cv[q]? = some u ∧ Rep M [] u c) : Grown M w (w.alloc (.cells cv.toArray e)) sz e (.slice (some ⟨w.heap.size, 0, none⟩) xs.length xs.length) xs := by
 refine ⟨⟨cv, ⟨hcl, .inr ⟨w.heap.size, xs.length, cv.toArray, rfl, Nat.zero_le _, heap_alloc_new w _, Nat.le_refl _, hm, by simpa using hcl, by simp [← hcl]⟩⟩, h1, hr⟩, hpos, hz, fun b hb => ?_, fun b hb => heap_alloc_old w _ hb, rfl, rfl, rfl, by rw [alloc_size]; exact Nat.le_succ _, oneB_alloc h1⟩
 simp only [Value.ownBlock, Option.some.injEq] at hb
 omega
theorem Mem.bornCells (h : Mem M ob obs w) {k : Nat} (h1 : obs[k]? = some .dead) (h2 : ob[k]? = some []) {cv : List Value} {cs : List AVal} (T : TypeId) (hl : cv.length = cs.length) (hone : ∀ v ∈ cv, v.oneCell' = true)
  (hr : ∀ (i : Nat) v a, cv[i]? = some v → cs[i]? = some a → Rep M ob v a) :
  Mem M (ob.set k [.pointer (some ⟨w.heap.size, 0, none⟩)]) (obs.set k (.cells T cs)) (w.alloc (.cells cv.toArray T)) ∧ Ext M ob obs w M (ob.set k [.pointer (some ⟨w.heap.size, 0, none⟩)]) (obs.set k (.cells T cs)) (w.alloc (.cells cv.toArray T)) ∧
   Still ob obs (ob.set k [.pointer (some ⟨w.heap.size, 0, none⟩)]) (obs.set k (.cells T cs)) ∧ Rep M (ob.set k [.pointer (some ⟨w.heap.size, 0, none⟩)]) (.pointer (some ⟨w.heap.size, 0, none⟩)) (.ref k 0) := by
 have hk : k < ob.length := (List.getElem?_eq_some_iff.1 h2).1
 have := h.turn (M' := M) (w' := w.alloc (.cells cv.toArray T)) (x' := .cells T cs) (hs' := [.pointer (some ⟨w.heap.size, 0, none⟩)]) h1 h2 ⟨_, rfl⟩ (fun _ => rfl) (fun _ _ _ h => h) (fun _ _ _ h => .inl h) (fun b o y hy => by
   obtain ⟨u, hu, h4, h5⟩ := h.imm b o y hy
   exact ⟨u, (World.cell?_of_block (w := w) (a := ⟨b, o, none⟩) (heap_alloc_old w _ (World.block_lt_of_cell? w _ hu))).trans hu, h4, h5⟩)
  (fun b hb _ => heap_alloc_old w _ hb) rfl rfl rfl (by rw [alloc_size]; exact Nat.le_succ _) (fun hle => ⟨_, rfl, fun o => h.noImm (Nat.le_refl _) o, cv, heap_alloc_new w _, hl, hone, fun i v a hv ha => (hr i v a hv ha).mono (fun _ _ _ h => h) hle⟩)
  (fun _ b hb => by
   have : w.heap.size = b := mem_blk1.1 hb
   exact ⟨.inr (by omega), by rw [alloc_size]; omega⟩)
 refine ⟨this.1, this.2.1, this.2.2, .ref k 0 _ ?_⟩
 rw [at_get (List.getElem?_set_self hk)]
 rfl
theorem Mem.bornMap (h : Mem M ob obs w) {k : Nat} (h1 : obs[k]? = some .dead) (h2 : ob[k]? = some []) (ag : Bool) :
  Mem M (ob.set k [.map (some w.heap.size)]) (obs.set k (.mp ag [])) (w.alloc (.map #[] 0)) ∧ Ext M ob obs w M (ob.set k [.map (some w.heap.size)]) (obs.set k (.mp ag [])) (w.alloc (.map #[] 0)) ∧
   Still ob obs (ob.set k [.map (some w.heap.size)]) (obs.set k (.mp ag [])) ∧ Rep M (ob.set k [.map (some w.heap.size)]) (.map (some w.heap.size)) (.mref k) := by
 have hk : k < ob.length := (List.getElem?_eq_some_iff.1 h2).1
 have := h.turn (M' := M) (w' := w.alloc (.map #[] 0)) (x' := .mp ag []) (hs' := [.map (some w.heap.size)]) h1 h2 ⟨_, rfl⟩ (fun _ => rfl) (fun _ _ _ h => h) (fun _ _ _ h => .inl h) (fun b o y hy => by
   obtain ⟨u, hu, h4, h5⟩ := h.imm b o y hy
   exact ⟨u, (World.cell?_of_block (w := w) (a := ⟨b, o, none⟩) (heap_alloc_old w _ (World.block_lt_of_cell? w _ hu))).trans hu, h4, h5⟩)
  (fun b hb _ => heap_alloc_old w _ hb) rfl rfl rfl (by rw [alloc_size]; exact Nat.le_succ _) (fun hle => ⟨_, rfl, fun o => h.noImm (Nat.le_refl _) o, [], 0, heap_alloc_new w _, rfl, fun i x y hx => by simp at hx, fun i x hx => by simp at hx, fun i j x y hx => by simp at hx⟩)
  (fun _ b hb => by
   have : w.heap.size = b := mem_blk1.1 hb
   exact ⟨.inr (by omega), by rw [alloc_size]; omega⟩)
 refine ⟨this.1, this.2.1, this.2.2, .mref k _ ?_⟩
 rw [at_get (List.getElem?_set_self hk)]
 rfl
theorem Mem.cellsTurn (h : Mem M ob obs w) {k : Nat} {T : TypeId} {cs cs' : List AVal} (hx : obs[k]? = some (.cells T cs)) {b : Nat} (hb : at' ob k 0 = some (.pointer (some ⟨b, 0, none⟩))) {cv' : List Value} (hl : cv'.length = cs'.length) (h1 : ∀ u ∈ cv', u.oneCell' = true)
  (hr : ∀ (i : Nat) v a, cv'[i]? = some v → cs'[i]? = some a → Rep M ob v a) :
  Mem M ob (obs.set k (.cells T cs')) (w.setRow b cv'.toArray) ∧ Ext M ob obs w M ob (obs.set k (.cells T cs')) (w.setRow b cv'.toArray) ∧ Still ob obs ob (obs.set k (.cells T cs')) := by
 obtain ⟨hs, e1, b', e2, hno, cv, e3, _⟩ := h.obj k _ hx
 have : b' = b := by rw [at_get e1, e2] at hb; simpa using hb
 subst this
 have hset := set_self (l := ob) e1
 have := h.turn (M' := M) (w' := w.setRow b' cv'.toArray) (x' := .cells T cs') (hs' := hs) hx e1 (List.prefix_refl _) (fun e => by cases e) (fun _ _ _ h => h) (fun _ _ _ h => .inl h) (fun b o y hy => by
   obtain ⟨u, hu, h4, h5⟩ := h.imm b o y hy
   have hne : b ≠ b' := fun e => by subst e; exact hno o y hy
   exact ⟨u, (World.cell?_of_block (w := w) (a := ⟨b, o, none⟩) (setRow_other w b' b _ hne)).trans hu, h4, h5⟩)
  (fun b _ hn => setRow_other w b' b _ fun e => hn ⟨rfl, by subst e; rw [e2]; exact mem_blk1.2 rfl⟩) rfl rfl rfl (by simp [World.setRow]) (fun hle => ⟨b', e2, hno, cv', setRow_heap w b' _ _ T _ e3, hl, h1, fun i v a hv ha => (hr i v a hv ha).mono (fun _ _ _ h => h) hle⟩)
  (fun _ b hb' => ⟨.inl ⟨rfl, hb'⟩, by
   have : b' = b := by rw [e2] at hb'; exact mem_blk1.1 hb'
   subst this
   have := getD_lt e3
   simpa [World.setRow] using this⟩)
 rw [hset] at this
 exact this
end
section
variable {M : Imm} {ob : Hs} {obs : List AObj} {w : World}
theorem mapL_rep {M' : Imm} {ob' : Hs} {f : AVal → AVal} (hf : ∀ v a, Rep M ob v a → Rep M' ob' v (f a)) {as : List AVal} {vs : List Value} (hl : vs.length = as.length) (h : ∀ (i : Nat) v a, vs[i]? = some v → as[i]? = some a → Rep M ob v a) :
  vs.length = (mapL f as).length ∧ ∀ (i : Nat) v a, vs[i]? = some v → (mapL f as)[i]? = some a → Rep M' ob' v a := by
 rw [mapL_eq]
 refine ⟨by simpa using hl, fun i v a hv ha => ?_⟩
 rw [List.getElem?_map] at ha
 obtain ⟨b, hb, rfl⟩ := Option.map_eq_some_iff.1 ha
 exact hf v b (h i v b hv hb)
theorem at_some {k g : Nat} {v : Value} {hs : List Value} (h1 : ob[k]? = some hs) (h2 : at' ob k g = some v) : hs[g]? = some v := by rw [← at_get h1]; exact h2
theorem sl_cut {b o n sz : Nat} {xs : List AVal} (hn : xs.length = n) (hm : (n : Int) ≤ 9223372036854775807) (hz : ∀ x ∈ xs, x.cells.length = sz) (h : ∀ (i j : Nat) x c, xs[i]? = some x → x.cells[j]? = some c → M b (o + i * sz + j) c)
  {lo len c' : Nat} (hl : lo + len ≤ n) (hc : len ≤ c') {t : Tk} (ht : TkOK ob (.slice (some ⟨b, o + lo * sz, none⟩) len c') t) : Rep M ob (.slice (some ⟨b, o + lo * sz, none⟩) len c') (.slice sz ((xs.drop lo).take len) t) := by
 refine .sl sz b _ len c' _ t (by simp; omega) hc (by omega) (fun x hx => hz x (List.mem_of_mem_drop (List.mem_of_mem_take hx))) (fun i j x c hx hj => ?_) ht
 rw [List.getElem?_take] at hx
 split at hx
 ·rw [List.getElem?_drop] at hx
  have := h (lo + i) j x c hx hj
  rwa [Nat.add_mul, ← Nat.add_assoc] at this
 ·cases hx
theorem Mem.pureV (h : Mem M ob obs w) : ∀ (n : Nat) (v : Value) (a : AVal), Rep M ob v a → Rep M [] v (pureV (oget obs) n a) := by
 intro n
 induction n with
 | zero => intro v a _; exact .undef v
 | succ n ih =>
  intro v a hr
  cases hr with
  | undef v => exact .undef v
  | bool b => exact .bool b
  | int k n hr => exact .int k n hr
  | str l hl => exact .str l hl
  | agg vs as hl hr =>
   obtain ⟨h1, h2⟩ := mapL_rep (ih) hl hr
   exact .agg vs _ h1 h2
  | tup vs as hl hr =>
   obtain ⟨h1, h2⟩ := mapL_rep (ih) hl hr
   exact .tup vs _ h1 h2
  | ptr b o cs hr => exact .ptr b o cs hr
  | ref k off b hb =>
   simp only [AW.pureV]
   split
   ·rename_i cs hk
    obtain ⟨hs, h1, b', h2, h3⟩ := h.obj k _ (oget_some hk (by simp))
    have := at_some h1 hb
    rw [h2] at this
    simp at this
    subst this
    exact .ptr _ _ _ fun j c hc => by rw [cdrop_eq, List.getElem?_drop] at hc; exact h3 _ c hc
   ·exact .undef _
  | eref k g i sz off b n c hb => exact .undef _
  | rowc k g c a n h hm => exact .undef _
  | pre k g n c sz b len h hc hn hl hm => exact .undef _
  | csl k off len sz b hb hm =>
   simp only [AW.pureV]
   split
   ·rename_i cs hk
    cases hq : Nat.beq sz 1 with
    | false => exact .undef _
    | true =>
     simp only [cond_true]
     split
     ·rename_i l hl
      cases ho : oneL l with
      | false => exact .undef _
      | true =>
       simp only [cond_true]
       obtain ⟨hs, h1, b', h2, h3⟩ := h.obj k _ (oget_some hk (by simp))
       have := at_some h1 hb
       rw [h2] at this
       simp at this
       subst this
       obtain ⟨l1, l2⟩ := ctake_some hl
       refine .sl 1 _ off len len l .full l1 (Nat.le_refl _) hm (fun x hx => ?_) (fun i j x c hx hc => ?_) ⟨_, _, rfl⟩
       ·obtain ⟨i, hi⟩ := List.getElem?_of_mem hx
        rw [one_cells (oneL_mem ho i x hi)]; rfl
       ·rw [one_cells (oneL_mem ho i x hx)] at hc
        cases j with
        | succ j => simp at hc
        | zero =>
         simp at hc
         subst hc
         have := l2 i x hx
         rw [cdrop_eq, List.getElem?_drop] at this
         have := h3 _ x this
         simpa using this
     ·exact .undef _
   ·exact .undef _
  | row k g a n c hb =>
   simp only [AW.pureV]
   split
   ·rename_i g' sz xs hk
    cases hq : Nat.beq g g' with
    | false => exact .undef _
    | true =>
     have := beq_yes hq
     subst this
     simp only [cond_true]
     obtain ⟨hs, h1, v', h2, h3⟩ := h.obj k _ (oget_some hk (by simp))
     have := at_some h1 hb
     rw [h2] at this
     cases this
     exact h3
   ·exact .undef _
  | sub k g lo len sz b n c hb hl hn hc hm =>
   simp only [AW.pureV]
   split
   ·rename_i g' sz' xs hk
    cases hq : (Nat.beq g g' && Nat.beq sz sz') with
    | false => exact .undef _
    | true =>
     obtain ⟨q1, q2⟩ := beq_and hq
     have := beq_yes q1
     have := beq_yes q2
     subst_vars
     simp only [cond_true]
     obtain ⟨hs, h1, v', h2, h3⟩ := h.obj k _ (oget_some hk (by simp))
     have := at_some h1 hb
     rw [h2] at this
     cases this
     rcases h3.sl_inv with ⟨q, _⟩ | ⟨a, cap, q, q2⟩ | ⟨b', o', cap', q, hc', hm', hz, hM⟩
     ·cases q
     ·injection q with _ q3 _
      have : len = 0 := by omega
      subst this
      rw [List.take_zero]
      exact .slemp _ _ _ _ trivial
     ·injection q with q1 q2 q3
      injection q1 with q1
      injection q1 with q1 q4 _
      subst q1 q4
      have := sl_cut (ob := []) (t := .no) q2.symm hm hz hM hn (show len ≤ c - lo by omega) trivial
      rw [Nat.zero_add] at this
      exact this
   ·exact .undef _
  | sub0 k g lo sz _ a n c hb hl hc =>
   simp only [AW.pureV]
   split
   ·rename_i g' sz' xs hk
    cases hq : (Nat.beq g g' && Nat.beq sz sz') with
    | false => exact .undef _
    | true =>
     simp only [cond_true, List.take_zero]
     cases a with
     | none => exact .slnil _ _ trivial
     | some a => exact .slemp _ _ _ _ trivial
   ·exact .undef _
  | mref k b hb => exact .undef _
  | nilptr => exact .nilptr
  | nilslice => exact .nilslice
  | nilmap => exact .nilmap
  | nilfunc => exact .nilfunc
  | nilif => exact .nilif
  | hsl a n c => exact .hsl a n c
  | slnil sz t ht => exact .slnil sz .no trivial
  | slemp sz t a cap ht => exact .slemp sz .no a cap trivial
  | sl sz b o n cap xs t hn hc hm hz hr ht => exact .sl sz b o n cap xs .no hn hc hm hz hr trivial
  | func fn fs cs fa ca hf hc hr1 hr2 =>
   obtain ⟨h1, h2⟩ := mapL_rep (ih) hf hr1
   obtain ⟨h3, h4⟩ := mapL_rep (ih) hc hr2
   exact .func fn fs cs _ _ h1 h3 h2 h4
  | iface t v a hr => exact .iface t v _ (ih v a hr)
theorem oput_some {k : Nat} {x y : AObj} (h : obs[k]? = some x) : oput obs k y = obs.set k y := oput_set y (List.getElem?_eq_some_iff.1 h).1
def Goes' (M : Imm) (ob : Hs) (obs : List AObj) (w : World) (obs' : List AObj) : Prop := ∃ M', Mem M' ob obs' w ∧ Ext M ob obs w M' ob obs' w ∧ (∀ k : Nat, obs[k]? = some .dead → obs'[k]? = some .dead) ∧ obs'.length = obs.length
theorem Goes'.refl (h : Mem M ob obs w) : Goes' M ob obs w obs := ⟨M, h, Ext.refl _ _ _ _, fun _ h => h, rfl⟩
theorem Goes'.trans {o1 o2 : List AObj} (h : Goes' M ob obs w o1) (k : ∀ M', Mem M' ob o1 w → Goes' M' ob o1 w o2) : Goes' M ob obs w o2 := by
 obtain ⟨M1, h1, h2, h3, h4⟩ := h
 obtain ⟨M2, k1, k2, k3, k4⟩ := k M1 h1
 exact ⟨M2, k1, h2.trans k2, fun i hi => k3 i (h3 i hi), k4.trans h4⟩
theorem Mem.frzR (h : Mem M ob obs w) (k g : Nat) : Goes' M ob obs w (AW.frzR obs k g) := by
 unfold AW.frzR
 split
 ·rename_i g' sz e xs hk
  cases hq : Nat.beq g g' with
  | false => exact .refl h
  | true =>
   have := beq_yes hq
   subst this
   simp only [cond_true]
   have hx := oget_some hk (by simp)
   rw [oput_some hx]
   obtain ⟨hs, v, e1, e2, e3, e4, ⟨cv, o1, o2, o3, o4, o5⟩, hblk⟩ := h.rowOf hx
   have main := h.turn (M' := withRow M v sz xs) (w' := w) (x' := .frow g sz xs) (hs' := hs) hx e1 (List.prefix_refl _) (fun e => by cases e) (fun _ _ _ h => .inl h) (fun b o y hy => by
     rcases hy with hy | ⟨hb, _⟩
     ·exact .inl hy
     ·exact .inr (.inl ⟨rfl, blk_own hblk hb⟩)) (fun b o y hy => by
     rcases hy with hy | ⟨hb, hy⟩
     ·obtain ⟨u, hu, h1, h2⟩ := h.imm b o y hy
      exact ⟨u, hu, h1, h2.monoM fun _ _ _ h => .inl h⟩
     ·obtain ⟨u, hu, hr⟩ := o4 o y hy
      exact ⟨u, own_cells o1 hb hu, o2 u (List.mem_of_getElem? hu), hr.monoM fun _ _ _ h => .inl h⟩) (fun _ _ _ => rfl) rfl rfl rfl (Nat.le_refl _)
    (fun _ => ⟨v, e3, rep_withRow o1 o3 trivial⟩) (fun e => by cases e)
   rw [set_self e1] at main
   exact ⟨_, main.1, main.2.1, fun i hi => by rw [List.getElem?_set_ne (fun e => by subst e; rw [hx] at hi; cases hi)]; exact hi, by simp⟩
 ·exact .refl h
theorem Mem.frz1 (h : Mem M ob obs w) (k : Nat) : Goes' M ob obs w (AW.frz1 obs k) := by
 unfold AW.frz1
 split
 ·rename_i cs hk
  have hx := oget_some hk (by simp)
  rw [oput_some hx]
  obtain ⟨hs, e1, b0, e2, hno, cv, e3, e4, e5, e6⟩ := h.obj k _ hx
  have hc : cv.length = (mapL (AW.pureV (oget obs) 4) cs).length ∧ ∀ (i : Nat) v a, cv[i]? = some v → (mapL (AW.pureV (oget obs) 4) cs)[i]? = some a → Rep M [] v a := mapL_rep (h.pureV 4) e4 e6
  let M' : Imm := fun b o y => M b o y ∨ (b = b0 ∧ (mapL (AW.pureV (oget obs) 4) cs)[o]? = some y)
  have main := h.turn (M' := M') (w' := w) (x' := .fcells (mapL (AW.pureV (oget obs) 4) cs)) (hs' := hs) hx e1 (List.prefix_refl _) (fun e => by cases e) (fun _ _ _ h => .inl h) (fun b o y hy => by
    rcases hy with hy | ⟨rfl, _⟩
    ·exact .inl hy
    ·exact .inr (.inl ⟨rfl, by rw [e2]; exact mem_blk1.2 rfl⟩)) (fun b o y hy => by
    rcases hy with hy | ⟨rfl, hy⟩
    ·obtain ⟨u, hu, h1, h2⟩ := h.imm b o y hy
     exact ⟨u, hu, h1, h2.monoM fun _ _ _ h => .inl h⟩
    ·have hlt : o < cv.length := by rw [hc.1]; exact (List.getElem?_eq_some_iff.1 hy).1
     exact ⟨cv[o], by rw [cell_of_row w b _ _ _ (0, 0) e3]; simp [hlt], e5 _ (List.getElem_mem hlt), (hc.2 o _ y (List.getElem?_eq_getElem hlt) hy).monoM fun _ _ _ h => .inl h⟩) (fun _ _ _ => rfl) rfl rfl rfl (Nat.le_refl _)
   (fun _ => ⟨b0, e2, fun j c hj => .inr ⟨rfl, hj⟩⟩) (fun e => by cases e)
  rw [set_self e1] at main
  exact ⟨_, main.1, main.2.1, fun i hi => by rw [List.getElem?_set_ne (fun e => by subst e; rw [hx] at hi; cases hi)]; exact hi, by simp⟩
 ·exact .refl h
theorem Mem.foldO {f : List AObj → AVal → List AObj} (ih : ∀ (M : Imm) (obs : List AObj) (a : AVal), Mem M ob obs w → Goes' M ob obs w (f obs a)) : ∀ (l : List AVal) (M : Imm) (obs : List AObj), Mem M ob obs w → Goes' M ob obs w (foldO f obs l)
 | [], _, _, h => .refl h
 | c :: r, M, obs, h => (ih M obs c h).trans fun M' h' => Mem.foldO ih r M' _ h'
theorem Mem.frzV : ∀ (n : Nat) (M : Imm) (obs : List AObj) (a : AVal), Mem M ob obs w → Goes' M ob obs w (frzV n obs a) := by
 intro n
 induction n with
 | zero => intro M obs a h; exact .refl h
 | succ n ih =>
  intro M obs a h
  cases a
  case agg cs => exact Mem.foldO ih _ _ _ h
  case tup cs => exact Mem.foldO ih _ _ _ h
  case func fn fs cs => exact (Mem.foldO ih _ _ _ h).trans fun M' h' => Mem.foldO ih _ _ _ h'
  case iface t v => exact ih _ _ _ h
  case ref k off =>
   simp only [AW.frzV]
   split
   ·exact (Mem.foldO ih _ _ _ h).trans fun M' h' => h'.frz1 k
   ·exact .refl h
  case csl k a b c =>
   simp only [AW.frzV]
   split
   ·exact (Mem.foldO ih _ _ _ h).trans fun M' h' => h'.frz1 k
   ·exact .refl h
  case row k g => exact h.frzR k g
  case sub k g a b c => exact h.frzR k g
  all_goals exact .refl h
theorem Mem.frzL (l : List AVal) (h : Mem M ob obs w) : Goes' M ob obs w (frzL obs l) := Mem.foldO (Mem.frzV 6) l M obs h
theorem Mem.frzs : ∀ (l : List Nat) (M : Imm) (obs : List AObj), Mem M ob obs w → Goes' M ob obs w (frzs l obs)
 | [], _, _, h => .refl h
 | k :: r, M, obs, h => by
  unfold AW.frzs
  split
  ·exact (h.frzR _ _).trans fun M' h' => Mem.frzs r M' _ h'
  ·exact (Mem.frzV 6 M obs _ h).trans fun M' h' => Mem.frzs r M' _ h'
  ·exact Mem.frzs r M _ h
end
theorem pos_spec {k : Nat} : ∀ {ks : List Nat} {j i : Nat}, pos k j ks = some i → j ≤ i ∧ ks[i - j]? = some k
 | [], j, i, h => by cases h
 | x :: r, j, i, h => by
  simp only [pos] at h
  cases hb : Nat.beq x k with
  | true =>
   rw [hb] at h
   cases h
   have := beq_yes hb
   subst this
   simp
  | false =>
   rw [hb] at h
   obtain ⟨h1, h2⟩ := pos_spec (ks := r) h
   refine ⟨by omega, ?_⟩
   rw [show i - j = (i - (j + 1)) + 1 from by omega]
   simpa using h2
theorem pos_get {k i : Nat} {ks : List Nat} (h : pos k 0 ks = some i) : ks[i]? = some k := by simpa using (pos_spec h).2
theorem ksOK_get {obs : List AObj} : ∀ {ks : List Nat}, ksOK ks obs = true → (∀ (j k : Nat), ks[j]? = some k → (oget obs k).owns = true) ∧ ks.Nodup
 | [], _ => ⟨fun j k h => by simp at h, List.nodup_nil⟩
 | x :: r, h => by
  simp only [ksOK, Bool.and_eq_true, Bool.not_eq_true'] at h
  obtain ⟨⟨h1, h2⟩, h3⟩ := h
  obtain ⟨g1, g2⟩ := ksOK_get h3
  refine ⟨fun j k hj => ?_, List.nodup_cons.2 ⟨fun hm => ?_, g2⟩⟩
  ·cases j with
   | zero => simp at hj; subst hj; exact h1
   | succ j => exact g1 j k (by simpa using hj)
  ·rw [memN_iff.2 hm] at h2; cases h2
theorem nodup_get {l : List Nat} (h : l.Nodup) : ∀ {i j b : Nat}, l[i]? = some b → l[j]? = some b → i = j := by
 induction l with
 | nil => intro i j b hi; simp at hi
 | cons x r ih =>
  intro i j b hi hj
  rw [List.nodup_cons] at h
  cases i with
  | zero => cases j with
   | zero => rfl
   | succ j => simp at hi hj; subst hi; exact absurd (List.mem_of_getElem? hj) h.1
  | succ i => cases j with
   | zero => simp at hi hj; subst hj; exact absurd (List.mem_of_getElem? hi) h.1
   | succ j => simp at hi hj; rw [ih h.2 hi hj]
theorem oget_owns {obs : List AObj} {k : Nat} (h : (oget obs k).owns = true) : obs[k]? = some (oget obs k) := by
 refine oget_some rfl fun e => ?_
 rw [e] at h
 cases h
def cutH (n0 j : Nat) (o : AObj) (hs : List Value) : List Value :=
 if 0 < curG o then (if j < n0 then hs.take 1 else []) ++ hs.drop (curG o) else hs
def cutL (n0 : Nat) (ob : Hs) (obs : List AObj) : Nat → List Nat → Hs
 | _, [] => []
 | j, k :: r => cutH n0 j (oget obs k) (ob.getD k []) :: cutL n0 ob obs (j + 1) r
theorem cutL_get {n0 : Nat} {ob : Hs} {obs : List AObj} : ∀ {ks : List Nat} {j i : Nat}, (cutL n0 ob obs j ks)[i]? = (ks[i]?).map fun k => cutH n0 (j + i) (oget obs k) (ob.getD k [])
 | [], j, i => by simp [cutL]
 | k :: r, j, i => by
  cases i with
  | zero => simp [cutL]
  | succ i => simp only [cutL, List.getElem?_cons_succ, cutL_get (ks := r)]; rw [show j + 1 + i = j + (i + 1) from by omega]
theorem cutL_len {n0 : Nat} {ob : Hs} {obs : List AObj} : ∀ {ks : List Nat} {j : Nat}, (cutL n0 ob obs j ks).length = ks.length
 | [], j => rfl
 | k :: r, j => by simp [cutL, cutL_len (ks := r)]
theorem subO_get {n0 : Nat} {ks0 : List Nat} {obs : List AObj} : ∀ {ks : List Nat} {j i : Nat}, (subO' n0 ks0 obs j ks)[i]? = (ks[i]?).map fun k => cvtO n0 ks0 obs (j + i) (oget obs k)
 | [], j, i => by simp [subO']
 | k :: r, j, i => by
  cases i with
  | zero => simp [subO']
  | succ i => simp only [subO', List.getElem?_cons_succ, subO_get (ks := r)]; rw [show j + 1 + i = j + (i + 1) from by omega]
theorem subO_len {n0 : Nat} {ks0 : List Nat} {obs : List AObj} : ∀ {ks : List Nat} {j : Nat}, (subO' n0 ks0 obs j ks).length = ks.length
 | [], j => rfl
 | k :: r, j => by simp [subO', subO_len (ks := r)]
theorem gm_some {n0 j cur g g' : Nat} (h : gm n0 j cur g = some g') : (g = cur ∧ g' = (if j < n0 then (if cur = 0 then 0 else 1) else 0)) ∨ (g ≠ cur ∧ j < n0 ∧ g = 0 ∧ g' = 0) := by
 unfold gm at h
 have hb : ∀ a b : Nat, Nat.beq a b = decide (a = b) := fun a b => by
  by_cases e : a = b
  ·subst e; simp
  ·rw [beq_no e]; simp [e]
 have hl : ∀ a b : Nat, Nat.blt a b = decide (a < b) := fun a b => by
  by_cases e : a < b
  ·simp [Nat.blt_eq, e]
  ·have : Nat.blt a b = false := by
    cases hq : Nat.blt a b with
    | false => rfl
    | true => exact absurd (by simpa [Nat.blt_eq] using hq) e
   rw [this]; simp [e]
 simp only [hb, hl] at h
 by_cases h1 : g = cur
 ·simp only [h1, decide_true, cond_true, Option.some.injEq] at h
  left
  refine ⟨h1, h.symm.trans ?_⟩
  by_cases h2 : j < n0 <;> by_cases h3 : cur = 0 <;> simp [h2, h3]
 ·simp only [h1, decide_false, cond_false] at h
  by_cases h2 : j < n0 <;> by_cases h3 : g = 0 <;> simp [h2, h3] at h
  exact .inr ⟨h1, h2, h3, h.symm⟩
theorem gm_self (n0 j g : Nat) : gm n0 j g g = some (if j < n0 then (if g = 0 then 0 else 1) else 0) := by
 unfold gm
 simp only [Nat.beq_eq_true_eq, Nat.beq_refl, cond_true, Option.some.injEq]
 by_cases h2 : j < n0
 ·have : Nat.blt j n0 = true := by simp [Nat.blt_eq, h2]
  rw [this, if_pos h2]
  by_cases h3 : g = 0
  ·subst h3; rfl
  ·rw [beq_no h3, if_neg h3]; rfl
 ·have : Nat.blt j n0 = false := by
   cases hq : Nat.blt j n0 with
   | false => rfl
   | true => exact absurd (by simpa [Nat.blt_eq] using hq) h2
  rw [this, if_neg h2]; rfl
section
variable {M : Imm} {ob : Hs} {obs : List AObj} {w : World}
theorem Mem.histLen (h : Mem M ob obs w) {k : Nat} {hs : List Value} (hx : (oget obs k).owns = true) (hh : ob[k]? = some hs) : hs.length = curG (oget obs k) + 1 := by
 obtain ⟨hs', e, ho⟩ := h.obj k _ (oget_owns hx)
 rw [hh] at e
 cases e
 cases hc : oget obs k with
 | dead => rw [hc] at hx; cases hx
 | fcells cs => rw [hc] at hx; cases hx
 | frow g sz xs => rw [hc] at hx; cases hx
 | cells T cs => rw [hc] at ho; obtain ⟨b, rfl, _⟩ := ho; rfl
 | row g sz e xs => rw [hc] at ho; exact ho.1
 | tail g sz e => rw [hc] at ho; exact ho.1
 | mp ag es => rw [hc] at ho; obtain ⟨b, rfl, _⟩ := ho; rfl
 | bun g I => rw [hc] at ho; exact ho.1
theorem cutH_at {n0 j g g' : Nat} {o : AObj} {hs : List Value} (hl : hs.length = curG o + 1) (hg : gm n0 j (curG o) g = some g') : (cutH n0 j o hs)[g']? = hs[g]? := by
 unfold cutH
 rcases gm_some hg with ⟨rfl, rfl⟩ | ⟨h1, h2, rfl, rfl⟩
 ·by_cases hc : 0 < curG o
  ·rw [if_pos hc]
   by_cases hj : j < n0
   ·rw [if_pos hj, if_pos hj, if_neg (by omega), List.getElem?_append_right (by simp; omega)]
    simp only [List.length_take, List.getElem?_drop]
    congr 1
    omega
   ·rw [if_neg hj, if_neg hj]
    simp
  ·rw [if_neg hc]
   have : curG o = 0 := by omega
   rw [this]
   simp
 ·have hc : 0 < curG o := by omega
  rw [if_pos hc, if_pos h2, List.getElem?_append_left (by simp; omega)]
  simp
theorem cutH_last {n0 j : Nat} {o : AObj} {hs : List Value} (hl : hs.length = curG o + 1) : (cutH n0 j o hs).getLast? = hs.getLast? := by
 unfold cutH
 by_cases hc : 0 < curG o
 ·rw [if_pos hc]
  rw [List.getLast?_append, List.getLast?_drop, if_neg (by omega)]
  have hne : hs ≠ [] := fun e => by subst e; simp at hl
  rw [List.getLast?_eq_some_getLast hne]
  rfl
 ·rw [if_neg hc]
theorem cutH_len {n0 j : Nat} {o : AObj} {hs : List Value} (hl : hs.length = curG o + 1) : (cutH n0 j o hs).length = (if j < n0 then (if curG o = 0 then 0 else 1) else 0) + 1 := by
 unfold cutH
 by_cases hc : 0 < curG o
 ·rw [if_pos hc]
  by_cases hj : j < n0
  ·rw [if_pos hj, if_pos hj, if_neg (by omega)]; simp; omega
  ·rw [if_neg hj, if_neg hj]; simp; omega
 ·rw [if_neg hc]
  have : curG o = 0 := by omega
  simp [hl, this]
theorem Mem.cutAt (h : Mem M ob obs w) {n0 : Nat} {ks : List Nat} (hk : ksOK ks obs = true) {k j g g' : Nat} {v : Value} (hp : pos k 0 ks = some j) (hg : gm n0 j (curG (oget obs k)) g = some g') (hv : at' ob k g = some v) :
  at' (cutL n0 ob obs 0 ks) j g' = some v := by
 have hj := pos_get hp
 have ho := (ksOK_get hk).1 j k hj
 have hko : k < ob.length := by rw [h.len]; exact (List.getElem?_eq_some_iff.1 (oget_owns ho)).1
 have hh : ob[k]? = some ob[k] := List.getElem?_eq_getElem hko
 have hl := h.histLen ho hh
 have e : (cutL n0 ob obs 0 ks)[j]? = some (cutH n0 j (oget obs k) ob[k]) := by
  rw [cutL_get, hj]
  simp [hh]
 rw [at_get e, cutH_at hl hg]
 exact at_some hh hv
theorem Mem.cvtV (h : Mem M ob obs w) {n0 : Nat} {ks : List Nat} (hk : ksOK ks obs = true) : ∀ (n : Nat) (v : Value) (a : AVal), Rep M ob v a → Rep M (cutL n0 ob obs 0 ks) v (cvtV n0 ks (oget obs) n a) := by
 intro n
 induction n with
 | zero => intro v a _; exact .undef v
 | succ n ih =>
  intro v a hr
  have g0 : ∀ {n0 j c x : Nat}, gm n0 j c 0 = some x → x = 0 := fun {n0 j c x} hg => by
   rcases gm_some hg with ⟨e, rfl⟩ | ⟨_, _, _, rfl⟩
   ·subst e; by_cases hj : j < n0 <;> simp [hj]
   ·rfl
  have tok : ∀ {v : Value} {sz : Nat} {xs : List AVal} {t : Tk}, Rep M ob v (.slice sz xs t) → Rep M (cutL n0 ob obs 0 ks) v (AW.cvtV n0 ks (oget obs) (n + 1) (.slice sz xs t)) := by
   intro v sz xs t hr
   obtain ⟨r1, r2⟩ := hr.untok
   have hno : Rep M (cutL n0 ob obs 0 ks) v (.slice sz xs .no) := r1.slice_pure.pure
   cases t with
   | no => exact hno
   | nil =>
    cases ks with
    | nil => exact hno
    | cons k ks => exact hno.tok r2
   | full => exact hno.tok r2
   | own k g =>
    simp only [AW.cvtV]
    split
    ·rename_i j hp
     split
     ·rename_i g' hg
      exact hno.tok (show at' _ _ _ = _ from h.cutAt hk hp hg r2)
     ·exact hno
    ·exact hno
  cases hr with
  | undef v => exact .undef v
  | bool b => exact .bool b
  | int k n hr => exact .int k n hr
  | str l hl => exact .str l hl
  | agg vs as hl hr =>
   obtain ⟨h1, h2⟩ := mapL_rep (ih) hl hr
   exact .agg vs _ h1 h2
  | tup vs as hl hr =>
   obtain ⟨h1, h2⟩ := mapL_rep (ih) hl hr
   exact .tup vs _ h1 h2
  | ptr b o cs hr => exact .ptr b o cs hr
  | ref k off b hb =>
   simp only [AW.cvtV]
   split
   ·rename_i j hp
    split
    ·rename_i x hg
     have := g0 hg
     subst this
     exact .ref j off b (h.cutAt hk hp hg hb)
    ·exact .undef _
   ·exact (h.pureV 1 _ _ (.ref k off b hb)).pure
  | eref k g i sz off b n c hb => exact .undef _
  | rowc k g c a n h hm => exact .undef _
  | pre k g n c sz b len h hc hn hl hm => exact .undef _
  | csl k off len sz b hb hm =>
   simp only [AW.cvtV]
   split
   ·rename_i j hp
    split
    ·rename_i x hg
     have := g0 hg
     subst this
     exact .csl j off len sz b (h.cutAt hk hp hg hb) hm
    ·exact .undef _
   ·exact (h.pureV 1 _ _ (.csl k off len sz b hb hm)).pure
  | row k g a n c hb =>
   simp only [AW.cvtV]
   split
   ·rename_i j hp
    split
    ·rename_i g' hg
     exact .row j g' a n c (h.cutAt hk hp hg hb)
    ·exact .undef _
   ·exact (h.pureV 1 _ _ (.row k g a n c hb)).pure
  | sub k g lo len sz b n c hb hl hn hc hm =>
   simp only [AW.cvtV]
   split
   ·rename_i j hp
    split
    ·rename_i g' hg
     exact .sub j g' lo len sz b n c (h.cutAt hk hp hg hb) hl hn hc hm
    ·exact .undef _
   ·exact (h.pureV 1 _ _ (.sub k g lo len sz b n c hb hl hn hc hm)).pure
  | sub0 k g lo sz a a' n c hb hl hc =>
   simp only [AW.cvtV]
   split
   ·rename_i j hp
    split
    ·rename_i g' hg
     exact .sub0 j g' lo sz a a' n c (h.cutAt hk hp hg hb) hl hc
    ·exact .undef _
   ·exact (h.pureV 1 _ _ (.sub0 k g lo sz a a' n c hb hl hc)).pure
  | mref k b hb =>
   simp only [AW.cvtV]
   split
   ·rename_i j hp
    split
    ·rename_i x hg
     have := g0 hg
     subst this
     exact .mref j b (h.cutAt hk hp hg hb)
    ·exact .undef _
   ·exact .undef _
  | nilptr => exact .nilptr
  | nilslice => exact .nilslice
  | nilmap => exact .nilmap
  | nilfunc => exact .nilfunc
  | nilif => exact .nilif
  | hsl a n c => exact .hsl a n c
  | slnil sz t ht => exact tok (.slnil sz t ht)
  | slemp sz t a cap ht => exact tok (.slemp sz t a cap ht)
  | sl sz b o n cap xs t hn hc hm hz hr ht => exact tok (.sl sz b o n cap xs t hn hc hm hz hr ht)
  | func fn fs cs fa ca hf hc hr1 hr2 =>
   obtain ⟨h1, h2⟩ := mapL_rep (ih) hf hr1
   obtain ⟨h3, h4⟩ := mapL_rep (ih) hc hr2
   exact .func fn fs cs _ _ h1 h3 h2 h4
  | iface t v a hr => exact .iface t v _ (ih v a hr)
theorem Mem.cvt (h : Mem M ob obs w) {n0 : Nat} {ks : List Nat} (hk : ksOK ks obs = true) :
  Mem M (cutL n0 ob obs 0 ks) (subO n0 ks obs) w ∧ (∀ j b, Alive (cutL n0 ob obs 0 ks) (subO n0 ks obs) j b → ∃ k, ks[j]? = some k ∧ Alive ob obs k b) ∧
   (∀ j k b, ks[j]? = some k → Alive ob obs k b → Alive (cutL n0 ob obs 0 ks) (subO n0 ks obs) j b) := by
 obtain ⟨k1, k2⟩ := ksOK_get hk
 have hist : ∀ {j k : Nat}, ks[j]? = some k → ∃ hs, ob[k]? = some hs ∧ hs.length = curG (oget obs k) + 1 ∧ (cutL n0 ob obs 0 ks)[j]? = some (cutH n0 j (oget obs k) hs) ∧ (subO n0 ks obs)[j]? = some (cvtO n0 ks obs j (oget obs k)) ∧ ObjOK M ob w hs (oget obs k) := by
  intro j k hj
  have ho := k1 j k hj
  obtain ⟨hs, hh, hok⟩ := h.obj k _ (oget_owns ho)
  refine ⟨hs, hh, h.histLen ho hh, ?_, ?_, hok⟩
  ·rw [cutL_get, hj]; simp [hh]
  ·unfold subO; rw [subO_get, hj]; simp
 have ownsO : ∀ j o, (cvtO n0 ks obs j o).owns = o.owns := fun j o => by cases o <;> rfl
 have fwd : ∀ j b, Alive (cutL n0 ob obs 0 ks) (subO n0 ks obs) j b → ∃ k, ks[j]? = some k ∧ Alive ob obs k b := by
  rintro j b ⟨c, hs, e1, e2, e3, e4⟩
  have hj : ∃ k, ks[j]? = some k := by
   have : j < ks.length := by
    have := (List.getElem?_eq_some_iff.1 e1).1
    unfold subO at this
    rwa [subO_len] at this
   exact ⟨_, List.getElem?_eq_getElem this⟩
  obtain ⟨k, hj⟩ := hj
  obtain ⟨hs', g1, g2, g3, g4, _⟩ := hist hj
  rw [g4] at e1
  rw [g3] at e3
  cases e1
  cases e3
  refine ⟨k, hj, (alive_of (oget_owns (k1 j k hj)) g1).2 ⟨by rw [← ownsO j]; exact e2, ?_⟩⟩
  unfold blk at e4 ⊢
  rwa [cutH_last g2] at e4
 have bwd : ∀ j k b, ks[j]? = some k → Alive ob obs k b → Alive (cutL n0 ob obs 0 ks) (subO n0 ks obs) j b := by
  intro j k b hj ha
  obtain ⟨hs', g1, g2, g3, g4, _⟩ := hist hj
  have := (alive_of (oget_owns (k1 j k hj)) g1).1 ha
  refine (alive_of g4 g3).2 ⟨by rw [ownsO]; exact this.1, ?_⟩
  unfold blk
  rw [cutH_last g2]
  exact this.2
 refine ⟨⟨h.imm, by unfold subO; rw [cutL_len, subO_len], fun j c hc => ?_, fun j b ha => ?_, fun i j b ha hb => ?_⟩, fwd, bwd⟩
 ·have hj : ∃ k, ks[j]? = some k := by
   have : j < ks.length := by
    have := (List.getElem?_eq_some_iff.1 hc).1
    unfold subO at this
    rwa [subO_len] at this
   exact ⟨_, List.getElem?_eq_getElem this⟩
  obtain ⟨k, hj⟩ := hj
  obtain ⟨hs, g1, g2, g3, g4, g5⟩ := hist hj
  rw [g4] at hc
  cases hc
  refine ⟨_, g3, ?_⟩
  have hl := cutH_len (n0 := n0) (j := j) g2
  have hself := gm_self n0 j (curG (oget obs k))
  have hat := cutH_at g2 hself
  cases hc : oget obs k with
  | dead => exact trivial
  | fcells cs => have := k1 j k hj; rw [hc] at this; cases this
  | frow g sz xs => have := k1 j k hj; rw [hc] at this; cases this
  | cells T cs =>
   rw [hc] at g5
   obtain ⟨b, rfl, a1, cv, a2, a3, a4, a5⟩ := g5
   obtain ⟨m1, m2⟩ := mapL_rep (h.cvtV (n0 := n0) hk 4) a3 a5
   exact ⟨b, rfl, a1, cv, a2, m1, a4, m2⟩
  | row g sz e xs =>
   rw [hc] at g5 hl hat
   obtain ⟨a1, v, a2, a3⟩ := g5
   simp only [cvtO, gm_self]
   exact ⟨hl, v, hat.trans a2, a3⟩
  | tail g sz e =>
   rw [hc] at g5 hl hat
   obtain ⟨a1, v, a2, a3⟩ := g5
   simp only [cvtO, gm_self]
   exact ⟨hl, v, hat.trans a2, a3⟩
  | mp ag es =>
   rw [hc] at g5
   exact g5
  | bun g I =>
   rw [hc] at g5 hl hat
   obtain ⟨a1, v, a2, a3⟩ := g5
   simp only [cvtO, gm_self]
   exact ⟨hl, v, hat.trans a2, a3⟩
 ·obtain ⟨k, _, ha⟩ := fwd j b ha
  exact h.lt k b ha
 ·obtain ⟨k, hi, ha⟩ := fwd i b ha
  obtain ⟨k', hj, hb⟩ := fwd j b hb
  have := h.inj k k' b ha hb
  subst this
  exact nodup_get k2 hi hj
end
theorem olenN_eq (ks : List Nat) : embK.olenN ks = ks.length := by
 induction ks with
 | nil => rfl
 | cons k r ih => simp [embK.olenN, ih]
theorem embK_lt {ks : List Nat} {base j k : Nat} (h : ks[j]? = some k) : embK ks base j = k := by simp [embK, nth_eq, h]
theorem embK_ge {ks : List Nat} {base j : Nat} (h : ks.length ≤ j) : embK ks base j = base + (j - ks.length) := by
 simp [embK, nth_eq, List.getElem?_eq_none h, olenN_eq]
theorem embK_inj {ks : List Nat} {base : Nat} (hn : ks.Nodup) (hb : ∀ (j k : Nat), ks[j]? = some k → k < base) {i j : Nat} (h : embK ks base i = embK ks base j) : i = j := by
 by_cases hi : i < ks.length <;> by_cases hj : j < ks.length
 ·have ei := List.getElem?_eq_getElem hi
  have ej := List.getElem?_eq_getElem hj
  rw [embK_lt ei, embK_lt ej] at h
  rw [← h] at ej
  exact nodup_get hn ei ej
 ·have ei := List.getElem?_eq_getElem hi
  rw [embK_lt ei, embK_ge (by omega)] at h
  have := hb i _ ei
  omega
 ·have ej := List.getElem?_eq_getElem hj
  rw [embK_lt ej, embK_ge (by omega)] at h
  have := hb j _ ej
  omega
 ·rw [embK_ge (by omega), embK_ge (by omega)] at h
  omega
theorem embL_spec {ks : List Nat} {base : Nat} {obs : List AObj} (hn : ks.Nodup) (hb : ∀ (j k : Nat), ks[j]? = some k → k < base) : ∀ (l : List AObj) (j : Nat) (acc : List AObj), acc.length = base + (j - ks.length) →
  (embL ks base obs j l acc).length = base + (j + l.length - ks.length) ∧ (∀ (t : Nat) o, l[t]? = some o → (embL ks base obs j l acc)[embK ks base (j + t)]? = some (embO ks base obs (j + t) o)) ∧
   ∀ i, (∀ t, t < l.length → embK ks base (j + t) ≠ i) → i < acc.length → (embL ks base obs j l acc)[i]? = acc[i]? := by
 intro l
 induction l with
 | nil => intro j acc hl; exact ⟨by simpa [embL] using hl, fun t o h => by simp at h, fun i _ _ => rfl⟩
 | cons o r ih =>
  intro j acc hl
  simp only [embL]
  have hput : (oput acc (embK ks base j) (embO ks base obs j o)).length = base + (j + 1 - ks.length) ∧ (oput acc (embK ks base j) (embO ks base obs j o))[embK ks base j]? = some (embO ks base obs j o) ∧
    ∀ i, embK ks base j ≠ i → i < acc.length → (oput acc (embK ks base j) (embO ks base obs j o))[i]? = acc[i]? := by
   by_cases hj : j < ks.length
   ·have ej := List.getElem?_eq_getElem hj
    have hlt := hb j _ ej
    rw [embK_lt ej, oput_set _ (by omega)]
    exact ⟨by simp; omega, List.getElem?_set_self (by omega), fun i hi _ => List.getElem?_set_ne hi⟩
   ·rw [embK_ge (by omega), ← hl, oput_len]
    exact ⟨by simp; omega, by simp, fun i _ hi => List.getElem?_append_left hi⟩
  obtain ⟨p1, p2, p3⟩ := hput
  obtain ⟨q1, q2, q3⟩ := ih (j + 1) _ p1
  have hlt : embK ks base j < (oput acc (embK ks base j) (embO ks base obs j o)).length := (List.getElem?_eq_some_iff.1 p2).1
  refine ⟨by rw [q1]; simp; omega, fun t o' ht => ?_, fun i hi hlt' => ?_⟩
  ·cases t with
   | zero =>
    simp at ht
    subst ht
    show (embL ks base obs (j + 1) r (oput acc (embK ks base j) (embO ks base obs j o)))[embK ks base j]? = some (embO ks base obs j o)
    rw [q3 _ (fun t _ e => ?_) hlt, p2]
    have := embK_inj hn hb e
    omega
   | succ t =>
    have := q2 t o' (by simpa using ht)
    rwa [show j + 1 + t = j + (t + 1) from by omega] at this
  ·rw [q3 i (fun t ht => ?_) (by
    by_cases hj : j < ks.length
    ·rw [p1]; rw [hl] at hlt'; omega
    ·rw [p1]; rw [hl] at hlt'; omega), p3 i (hi 0 (by simp)) hlt']
   have := hi (t + 1) (by simpa using ht)
   rwa [show j + (t + 1) = j + 1 + t from by omega] at this
def embH (ks : List Nat) (ob obK : Hs) : Hs :=
 (List.range ob.length).map (fun k => match pos k 0 ks with | some j => ob.getD k [] ++ (obK.getD j []).drop 1 | none => ob.getD k []) ++ obK.drop ks.length
theorem pos_of {ks : List Nat} (hn : ks.Nodup) {j k : Nat} (h : ks[j]? = some k) : pos k 0 ks = some j := by
 have gen : ∀ (ks : List Nat) (j i : Nat), ks.Nodup → ks[j]? = some k → pos k i ks = some (i + j) := by
  intro ks
  induction ks with
  | nil => intro j i _ h; simp at h
  | cons x r ih =>
   intro j i hn h
   rw [List.nodup_cons] at hn
   simp only [pos]
   cases j with
   | zero => simp at h; subst h; simp
   | succ j =>
    have hr : r[j]? = some k := by simpa using h
    have : ¬ x = k := fun e => hn.1 (e ▸ List.mem_of_getElem? hr)
    rw [beq_no this]
    simp only [cond_false]
    rw [ih j (i + 1) hn.2 hr]
    congr 1
    omega
 simpa using gen ks j 0 hn h
section
variable {M M' : Imm} {ob obK' : Hs} {obs obs' : List AObj} {w w' : World}
theorem Mem.embAt (h : Mem M ob obs w) {ks : List Nat} (hk : ksOK ks obs = true) (hle : HsLe (cutL 0 ob obs 0 ks) obK') {j g : Nat} {v : Value} (hv : at' obK' j g = some v) :
  at' (embH ks ob obK') (embK ks obs.length j) (embG ks obs j g) = some v := by
 obtain ⟨k1, k2⟩ := ksOK_get hk
 have hjl : ∃ hs, obK'[j]? = some hs ∧ hs[g]? = some v := by
  unfold at' at hv
  cases hq : obK'[j]? with
  | none => rw [hq] at hv; cases hv
  | some hs => rw [hq] at hv; exact ⟨hs, rfl, hv⟩
 obtain ⟨hs, hj, hg⟩ := hjl
 by_cases hlt : j < ks.length
 ·have ej := List.getElem?_eq_getElem hlt
  have ho := k1 j _ ej
  have hko : ks[j] < ob.length := by rw [h.len]; exact (List.getElem?_eq_some_iff.1 (oget_owns ho)).1
  have hh : ob[ks[j]]? = some ob[ks[j]] := List.getElem?_eq_getElem hko
  have hl := h.histLen ho hh
  have ecut : (cutL 0 ob obs 0 ks)[j]? = some (cutH 0 j (oget obs ks[j]) ob[ks[j]]) := by rw [cutL_get, ej]; simp [hh]
  obtain ⟨hs', e1, t, e2⟩ := hle j _ ecut
  rw [hj] at e1
  cases e1
  have hcl : (cutH 0 j (oget obs ks[j]) ob[ks[j]]).length = 1 := by rw [cutH_len hl]; simp
  have hc0 : (cutH 0 j (oget obs ks[j]) ob[ks[j]])[0]? = ob[ks[j]][curG (oget obs ks[j])]? := cutH_at hl (by rw [gm_self]; simp)
  have eE : (embH ks ob obK')[ks[j]]? = some (ob[ks[j]] ++ hs.drop 1) := by
   unfold embH
   rw [List.getElem?_append_left (by simp; omega), List.getElem?_map, List.getElem?_range hko]
   simp [pos_of k2 ej, hh, hj]
  rw [embK_lt ej, at_get eE]
  have hgG : embG ks obs j g = curG (oget obs ks[j]) + g := by simp [embG, nth_eq, ej]
  rw [hgG]
  cases g with
  | zero =>
   rw [Nat.add_zero, List.getElem?_append_left (by omega), ← hc0, ← hg, ← e2, List.getElem?_append_left (by omega)]
  | succ g =>
   rw [List.getElem?_append_right (by omega), List.getElem?_drop, ← hg]
   congr 1
   omega
 ·have eE : (embH ks ob obK')[obs.length + (j - ks.length)]? = some hs := by
   unfold embH
   rw [List.getElem?_append_right (by simp; rw [h.len]; omega), List.getElem?_drop, ← hj]
   congr 1
   simp [h.len]
   omega
  rw [embK_ge (by omega), at_get eE]
  simpa [embG, nth_eq, List.getElem?_eq_none (show ks.length ≤ j by omega)] using hg
theorem embV_gen {M' : Imm} {obK' obX : Hs} {ks : List Nat} {base : Nat} {obs : List AObj} (hat : ∀ {j g : Nat} {v : Value}, at' obK' j g = some v → at' obX (embK ks base j) (embG ks obs j g) = some v)
  (g0 : ∀ {j : Nat} {v : Value}, at' obK' j 0 = some v → (∃ b, v = .pointer (some ⟨b, 0, none⟩)) ∨ (∃ b, v = .map (some b)) → at' obX (embK ks base j) 0 = some v) :
  ∀ (n : Nat) (v : Value) (a : AVal), Rep M' obK' v a → Rep M' obX v (embV ks base obs n a) := by
 intro n
 induction n with
 | zero => intro v a _; exact .undef v
 | succ n ih =>
  intro v a hr
  have tok : ∀ {v : Value} {sz : Nat} {xs : List AVal} {t : Tk}, Rep M' obK' v (.slice sz xs t) → Rep M' obX v (AW.embV ks base obs (n + 1) (.slice sz xs t)) := by
   intro v sz xs t hr
   obtain ⟨r1, r2⟩ := hr.untok
   have hno : Rep M' obX v (.slice sz xs .no) := r1.slice_pure.pure
   cases t with
   | no => exact hno
   | nil => exact hno.tok r2
   | full => exact hno.tok r2
   | own k g => exact hno.tok (show at' _ _ _ = _ from hat r2)
  cases hr with
  | undef v => exact .undef v
  | bool b => exact .bool b
  | int k n hr => exact .int k n hr
  | str l hl => exact .str l hl
  | agg vs as hl hr =>
   obtain ⟨h1, h2⟩ := mapL_rep (ih) hl hr
   exact .agg vs _ h1 h2
  | tup vs as hl hr =>
   obtain ⟨h1, h2⟩ := mapL_rep (ih) hl hr
   exact .tup vs _ h1 h2
  | ptr b o cs hr => exact .ptr b o cs hr
  | ref k off b hb => exact .ref _ off b (g0 hb (.inl ⟨b, rfl⟩))
  | eref k g i sz off b n c hb => exact .undef _
  | rowc k g c a n h hm => exact .undef _
  | pre k g n c sz b len h hc hn hl hm => exact .undef _
  | csl k off len sz b hb hm => exact .csl _ off len sz b (g0 hb (.inl ⟨b, rfl⟩)) hm
  | row k g a n c hb => exact .row _ _ a n c (hat hb)
  | sub k g lo len sz b n c hb hl hn hc hm => exact .sub _ _ lo len sz b n c (hat hb) hl hn hc hm
  | sub0 k g lo sz a a' n c hb hl hc => exact .sub0 _ _ lo sz a a' n c (hat hb) hl hc
  | mref k b hb => exact .mref _ b (g0 hb (.inr ⟨b, rfl⟩))
  | nilptr => exact .nilptr
  | nilslice => exact .nilslice
  | nilmap => exact .nilmap
  | nilfunc => exact .nilfunc
  | nilif => exact .nilif
  | hsl a n c => exact .hsl a n c
  | slnil sz t ht => exact tok (.slnil sz t ht)
  | slemp sz t a cap ht => exact tok (.slemp sz t a cap ht)
  | sl sz b o n cap xs t hn hc hm hz hr ht => exact tok (.sl sz b o n cap xs t hn hc hm hz hr ht)
  | func fn fs cs fa ca hf hc hr1 hr2 =>
   obtain ⟨h1, h2⟩ := mapL_rep (ih) hf hr1
   obtain ⟨h3, h4⟩ := mapL_rep (ih) hc hr2
   exact .func fn fs cs _ _ h1 h3 h2 h4
  | iface t v a hr => exact .iface t v _ (ih v a hr)
theorem Mem.embV (h : Mem M ob obs w) {ks : List Nat} (hk : ksOK ks obs = true) (hle : HsLe (cutL 0 ob obs 0 ks) obK') (hlen : (cutL 0 ob obs 0 ks).length = ks.length) : ∀ (n : Nat) (v : Value) (a : AVal), Rep M' obK' v a →
  Rep M' (embH ks ob obK') v (embV ks obs.length obs n a) := by
 have g0 : ∀ {j : Nat} {v : Value}, at' obK' j 0 = some v → (∃ b, v = .pointer (some ⟨b, 0, none⟩)) ∨ (∃ b, v = .map (some b)) → at' (embH ks ob obK') (embK ks obs.length j) 0 = some v := by
  intro j v hv hs
  have := h.embAt hk hle hv
  by_cases hlt : j < ks.length
  ·have ej := List.getElem?_eq_getElem hlt
   have hc : curG (oget obs ks[j]) = 0 := by
    have ho := (ksOK_get hk).1 j _ ej
    obtain ⟨hs', hh, hok⟩ := h.obj _ _ (oget_owns ho)
    have ecut : (cutL 0 ob obs 0 ks)[j]? = some (cutH 0 j (oget obs ks[j]) hs') := by rw [cutL_get, ej]; simp [hh]
    have hl := h.histLen ho hh
    have hc0 : (cutH 0 j (oget obs ks[j]) hs')[0]? = hs'[curG (oget obs ks[j])]? := cutH_at hl (by rw [gm_self]; simp)
    have hva : at' (cutL 0 ob obs 0 ks) j 0 = some v := by
     have hne : (cutH 0 j (oget obs ks[j]) hs').length = 1 := by rw [cutH_len hl]; simp
     have hu := List.getElem?_eq_getElem (l := cutH 0 j (oget obs ks[j]) hs') (i := 0) (by omega)
     generalize (cutH 0 j (oget obs ks[j]) hs')[0] = u at hu
     have := hle.at (ob := cutL 0 ob obs 0 ks) (k := j) (g := 0) (v := u) (by rw [at_get ecut]; exact hu)
     rw [hv] at this
     cases this
     rw [at_get ecut]; exact hu
    rw [at_get ecut, hc0] at hva
    cases hc : oget obs ks[j] with
    | row g sz e xs =>
     rw [hc] at hok hva
     obtain ⟨_, v', a2, cv, a3, _⟩ := hok
     simp only [curG] at hva
     rw [a2] at hva
     cases hva
     rcases own_shape a3 with ⟨q, _⟩ | ⟨_, _, q, _⟩ <;> rcases hs with ⟨b, hs⟩ | ⟨b, hs⟩ <;> (rw [q] at hs; cases hs)
    | tail g sz e =>
     rw [hc] at hok hva
     obtain ⟨_, v', a2, n', cv, a3, _⟩ := hok
     simp only [curG] at hva
     rw [a2] at hva
     cases hva
     rcases own_shape a3 with ⟨q, _⟩ | ⟨_, _, q, _⟩ <;> rcases hs with ⟨b, hs⟩ | ⟨b, hs⟩ <;> (rw [q] at hs; cases hs)
    | bun g I =>
     rw [hc] at hok hva
     obtain ⟨_, bs, a2, _⟩ := hok
     simp only [curG] at hva
     rw [a2] at hva
     cases hva
     rcases hs with ⟨b, hs⟩ | ⟨b, hs⟩ <;> cases hs
    | _ => rfl
   have hgG : embG ks obs j 0 = 0 := by simp [embG, nth_eq, ej, hc]
   rwa [hgG] at this
  ·have hgG : embG ks obs j 0 = 0 := by simp [embG, nth_eq, List.getElem?_eq_none (show ks.length ≤ j by omega)]
   rwa [hgG] at this
 exact embV_gen (fun hv => h.embAt hk hle hv) g0
theorem Mem.emb (h : Mem M ob obs w) {ks : List Nat} (hk : ksOK ks obs = true) (hx : Ext M (cutL 0 ob obs 0 ks) (subO 0 ks obs) w M' obK' obs' w') (h' : Mem M' obK' obs' w') :
  Mem M' (embH ks ob obK') (embL ks obs.length obs 0 obs' obs) w' ∧ Ext M ob obs w M' (embH ks ob obK') (embL ks obs.length obs 0 obs' obs) w' ∧ ∀ (i : Nat) hs, obs[i]? = some .dead → ob[i]? = some hs → (embL ks obs.length obs 0 obs' obs)[i]? = some .dead ∧ (embH ks ob obK')[i]? = some hs := by
 obtain ⟨k1, k2⟩ := ksOK_get hk
 obtain ⟨c1, c2, c3⟩ := h.cvt (n0 := 0) hk
 have hks : ∀ (j k : Nat), ks[j]? = some k → k < obs.length := fun j k hj => (List.getElem?_eq_some_iff.1 (oget_owns (k1 j k hj))).1
 have hcl : (cutL 0 ob obs 0 ks).length = ks.length := cutL_len
 have hm : ks.length ≤ obs'.length := by
  rcases Nat.eq_zero_or_pos ks.length with h0 | h0
  ·omega
  ·have : (cutL 0 ob obs 0 ks)[ks.length - 1]? = some (cutL 0 ob obs 0 ks)[ks.length - 1] := List.getElem?_eq_getElem (by omega)
   obtain ⟨hs', e, _⟩ := hx.hs _ _ this
   have := (List.getElem?_eq_some_iff.1 e).1
   rw [h'.len] at this
   omega
 obtain ⟨s1, s2, s3⟩ := embL_spec (base := obs.length) (obs := obs) k2 hks obs' 0 obs (by simp)
 simp only [Nat.zero_add] at s1 s2 s3
 have hEl : (embH ks ob obK').length = obs.length + (obs'.length - ks.length) := by
  unfold embH
  simp [h.len, h'.len]
 -- the objects behind the call: by number
 have cls : ∀ {i : Nat}, i < (embL ks obs.length obs 0 obs' obs).length → (∃ j, j < obs'.length ∧ i = embK ks obs.length j) ∨ (i < obs.length ∧ (∀ j, j < obs'.length → embK ks obs.length j ≠ i)) := by
  intro i hi
  rw [s1] at hi
  by_cases hlt : i < obs.length
  ·by_cases hin : ∃ j, j < obs'.length ∧ i = embK ks obs.length j
   ·exact .inl hin
   ·exact .inr ⟨hlt, fun j hj e => hin ⟨j, hj, e.symm⟩⟩
  ·refine .inl ⟨ks.length + (i - obs.length), by omega, ?_⟩
   rw [embK_ge (by omega)]
   omega
 have oldE : ∀ {i : Nat}, i < obs.length → (∀ j, j < obs'.length → embK ks obs.length j ≠ i) → (embL ks obs.length obs 0 obs' obs)[i]? = obs[i]? ∧ (embH ks ob obK')[i]? = ob[i]? := by
  intro i hi hne
  refine ⟨s3 i hne hi, ?_⟩
  have hib : i < ob.length := by rw [h.len]; exact hi
  have hp : pos i 0 ks = none := by
   cases hq : pos i 0 ks with
   | none => rfl
   | some j =>
    have := pos_get hq
    exact absurd (embK_lt this) (hne j (by have := (List.getElem?_eq_some_iff.1 this).1; omega))
  unfold embH
  rw [List.getElem?_append_left (by simp; omega), List.getElem?_map, List.getElem?_range hib]
  simp [hp, List.getElem?_eq_getElem hib]
 have newE : ∀ {j : Nat} {o : AObj}, obs'[j]? = some o → ∃ hs hs', obK'[j]? = some hs ∧ ObjOK M' obK' w' hs o ∧ (embL ks obs.length obs 0 obs' obs)[embK ks obs.length j]? = some (embO ks obs.length obs j o) ∧ (embH ks ob obK')[embK ks obs.length j]? = some hs' ∧
   hs'.length = (match ks[j]? with | some k => curG (oget obs k) | none => 0) + hs.length ∧ (o.owns = true → blk hs' = blk hs) ∧ (∀ (g : Nat) v, hs[g]? = some v → hs'[embG ks obs j g]? = some v) := by
  intro j o hj
  obtain ⟨hs, hh, hok⟩ := h'.obj j o hj
  have hat : ∀ (g : Nat) v, hs[g]? = some v → at' (embH ks ob obK') (embK ks obs.length j) (embG ks obs j g) = some v := fun g v hg => h.embAt hk hx.hs (by rw [at_get hh]; exact hg)
  by_cases hlt : j < ks.length
  ·have ej := List.getElem?_eq_getElem hlt
   have ho := k1 j _ ej
   have hko : ks[j] < ob.length := by rw [h.len]; exact (List.getElem?_eq_some_iff.1 (oget_owns ho)).1
   have hhb : ob[ks[j]]? = some ob[ks[j]] := List.getElem?_eq_getElem hko
   have hl := h.histLen ho hhb
   have ecut : (cutL 0 ob obs 0 ks)[j]? = some (cutH 0 j (oget obs ks[j]) ob[ks[j]]) := by rw [cutL_get, ej]; simp [hhb]
   obtain ⟨hs2, e1, t, e2⟩ := hx.hs j _ ecut
   rw [hh] at e1
   cases e1
   have hc1 : (cutH 0 j (oget obs ks[j]) ob[ks[j]]).length = 1 := by rw [cutH_len hl]; simp
   have hpos : 1 ≤ hs.length := by rw [← e2]; simp; omega
   have eE : (embH ks ob obK')[ks[j]]? = some (ob[ks[j]] ++ hs.drop 1) := by
    unfold embH
    rw [List.getElem?_append_left (by simp; omega), List.getElem?_map, List.getElem?_range hko]
    simp [pos_of k2 ej, hhb, hh]
   refine ⟨hs, _, hh, hok, s2 j o hj, by rw [embK_lt ej]; exact eE, by rw [ej]; simp; omega, fun _ => ?_, fun g v hg => ?_⟩
   ·unfold blk
    rw [List.getLast?_append]
    by_cases h2 : 1 < hs.length
    ·rw [List.getLast?_drop, if_neg (by omega)]
     have hne : hs ≠ [] := fun e => by subst e; simp at hpos
     rw [List.getLast?_eq_some_getLast hne]
     rfl
    ·have : hs.drop 1 = [] := List.drop_eq_nil_of_le (by omega)
     rw [this]
     simp only [List.getLast?_nil, Option.none_or]
     have h1l : hs.length = 1 := by omega
     have ht : t = [] := by
      have := congrArg List.length e2
      simp at this
      exact List.eq_nil_of_length_eq_zero (by omega)
     subst ht
     rw [List.append_nil] at e2
     rw [← e2, cutH_last hl]
   ·have := hat g v hg
    rw [embK_lt ej, at_get eE] at this
    exact this
  ·have hjl : j < obK'.length := (List.getElem?_eq_some_iff.1 hh).1
   have eE : (embH ks ob obK')[obs.length + (j - ks.length)]? = some hs := by
    unfold embH
    rw [List.getElem?_append_right (by simp; rw [h.len]; omega), List.getElem?_drop, ← hh]
    congr 1
    simp [h.len]
    omega
   refine ⟨hs, hs, hh, hok, s2 j o hj, by rw [embK_ge (by omega)]; exact eE, by rw [List.getElem?_eq_none (by omega)]; simp, fun _ => rfl, fun g v hg => ?_⟩
   simpa [embG, nth_eq, List.getElem?_eq_none (show ks.length ≤ j by omega)] using hg
 have ownsE : ∀ j o, (embO ks obs.length obs j o).owns = o.owns := fun j o => by cases o <;> rfl
 have aliveE : ∀ {i b : Nat}, Alive (embH ks ob obK') (embL ks obs.length obs 0 obs' obs) i b → (∃ j, i = embK ks obs.length j ∧ Alive obK' obs' j b) ∨ ((∀ j, j < obs'.length → embK ks obs.length j ≠ i) ∧ Alive ob obs i b) := by
  rintro i b ⟨c, hs, e1, e2, e3, e4⟩
  rcases cls (List.getElem?_eq_some_iff.1 e1).1 with ⟨j, hj, rfl⟩ | ⟨hi, hne⟩
  ·obtain ⟨hs1, hs2, g1, g2, g3, g4, _, g5, _⟩ := newE (List.getElem?_eq_getElem hj)
   rw [g3] at e1
   rw [g4] at e3
   cases e1
   cases e3
   rw [ownsE] at e2
   exact .inl ⟨j, rfl, (alive_of (List.getElem?_eq_getElem hj) g1).2 ⟨e2, by rw [← g5 e2]; exact e4⟩⟩
  ·obtain ⟨o1, o2⟩ := oldE hi hne
   rw [o1] at e1
   rw [o2] at e3
   exact .inr ⟨hne, c, hs, e1, e2, e3, e4⟩
 have hle : HsLe ob (embH ks ob obK') := by
  intro i hs hi
  have hib := (List.getElem?_eq_some_iff.1 hi).1
  cases hq : pos i 0 ks with
  | none =>
   refine ⟨hs, ?_, List.prefix_refl _⟩
   unfold embH
   rw [List.getElem?_append_left (by simp; omega), List.getElem?_map, List.getElem?_range hib]
   simp [hq, hi]
  | some j =>
   refine ⟨hs ++ (obK'.getD j []).drop 1, ?_, ⟨_, rfl⟩⟩
   unfold embH
   rw [List.getElem?_append_left (by simp; omega), List.getElem?_map, List.getElem?_range hib]
   simp [hq, hi]
 have hnotAlive : ∀ {i b : Nat}, (∀ j, j < obs'.length → embK ks obs.length j ≠ i) → Alive ob obs i b → (∀ j, ¬ Alive (cutL 0 ob obs 0 ks) (subO 0 ks obs) j b) ∧ b < w.heap.size := by
  intro i b hne ha
  refine ⟨fun j hj => ?_, h.lt i b ha⟩
  obtain ⟨k, hk', ha'⟩ := c2 j b hj
  have := h.inj i k b ha ha'
  subst this
  exact hne j (by have := (List.getElem?_eq_some_iff.1 hk').1; omega) (embK_lt hk')
 refine ⟨⟨h'.imm, by rw [hEl, s1], fun i c hc => ?_, fun i b ha => ?_, fun i i' b ha hb => ?_⟩, ⟨hx.imm, fun b o y hy => ?_, hle, hx.os, hx.tape, hx.output, hx.size, fun b hb hn => hx.keep b hb fun j hj => ?_, fun i b ha => ?_⟩, fun i hs hd hh => ?_⟩
 ·rcases cls (List.getElem?_eq_some_iff.1 hc).1 with ⟨j, hj, rfl⟩ | ⟨hi, hne⟩
  ·obtain ⟨hs1, hs2, g1, g2, g3, g4, g5, g6, g7⟩ := newE (List.getElem?_eq_getElem hj)
   rw [g3] at hc
   cases hc
   refine ⟨hs2, g4, ?_⟩
   have one0 : ∀ {p : Value}, hs1 = [p] → hs1.length = 1 → (match ks[j]? with | some k => curG (oget obs k) | none => 0) = 0 ∨ True := fun _ _ => .inr trivial
   have single : ∀ {b : Nat} {p : Value}, hs1 = [p] → ((∃ q, p = .pointer (some ⟨q, 0, none⟩)) ∨ (∃ q, p = .map (some q))) → hs2 = [p] := by
    intro b p e hp
    have hcur : (match ks[j]? with | some k => curG (oget obs k) | none => 0) = 0 := by
     cases hq : ks[j]? with
     | none => rfl
     | some k =>
      have hgg := g7 0 p (by rw [e]; rfl)
      have ho := k1 j k hq
      obtain ⟨hsk, hhk, hok⟩ := h.obj k _ (oget_owns ho)
      have hl := h.histLen ho hhk
      have ecut : (cutL 0 ob obs 0 ks)[j]? = some (cutH 0 j (oget obs k) hsk) := by rw [cutL_get, hq]; simp [hhk]
      obtain ⟨hs3, e1, t, e2⟩ := hx.hs j _ ecut
      rw [g1] at e1
      cases e1
      have hc1 : (cutH 0 j (oget obs k) hsk).length = 1 := by rw [cutH_len hl]; simp
      have hc0 : (cutH 0 j (oget obs k) hsk)[0]? = hsk[curG (oget obs k)]? := cutH_at hl (by rw [gm_self]; simp)
      have hlast : hsk[curG (oget obs k)]? = some p := by
       rw [← hc0]
       have : hs1[0]? = some p := by rw [e]; rfl
       rw [← e2, List.getElem?_append_left (by omega)] at this
       exact this
      show curG (oget obs k) = 0
      cases hc : oget obs k with
      | row g sz e xs =>
       rw [hc] at hok hlast
       obtain ⟨_, v', a2, cv, a3, _⟩ := hok
       simp only [curG] at hlast
       rw [a2] at hlast
       cases hlast
       rcases own_shape a3 with ⟨q, _⟩ | ⟨_, _, q, _⟩ <;> rcases hp with ⟨b, hp⟩ | ⟨b, hp⟩ <;> (rw [q] at hp; cases hp)
      | tail g sz e =>
       rw [hc] at hok hlast
       obtain ⟨_, v', a2, n', cv, a3, _⟩ := hok
       simp only [curG] at hlast
       rw [a2] at hlast
       cases hlast
       rcases own_shape a3 with ⟨q, _⟩ | ⟨_, _, q, _⟩ <;> rcases hp with ⟨b, hp⟩ | ⟨b, hp⟩ <;> (rw [q] at hp; cases hp)
      | bun g I =>
       rw [hc] at hok hlast
       obtain ⟨_, bs, a2, _⟩ := hok
       simp only [curG] at hlast
       rw [a2] at hlast
       cases hlast
       rcases hp with ⟨b, hp⟩ | ⟨b, hp⟩ <;> cases hp
      | _ => rfl
    rw [hcur, e] at g5
    have hgg := g7 0 p (by rw [e]; rfl)
    have hG : embG ks obs j 0 = 0 := by
     unfold embG
     rw [nth_eq]
     cases hq : ks[j]? with
     | none => rfl
     | some k => rw [hq] at hcur; simpa using hcur
    rw [hG] at hgg
    match hs2, g5, hgg with
    | [x], _, hgg => simp at hgg; rw [hgg]
   have hlenG : ∀ g, hs1.length = g + 1 → hs2.length = embG ks obs j g + 1 := fun g hg => by
    rw [g5, hg]
    unfold embG
    rw [nth_eq]
    cases ks[j]? with
    | none => simp
    | some k => simp; omega
   cases hc : obs'[j] with
   | dead => exact trivial
   | cells T cs =>
    rw [hc] at g2
    obtain ⟨b, rfl, a1, cv, a2, a3, a4, a5⟩ := g2
    obtain ⟨m1, m2⟩ := mapL_rep (h.embV (M' := M') hk hx.hs hcl 4) a3 a5
    exact ⟨b, single (b := b) rfl (.inl ⟨b, rfl⟩), a1, cv, a2, m1, a4, m2⟩
   | fcells cs =>
    rw [hc] at g2
    obtain ⟨b, rfl, a1⟩ := g2
    exact ⟨b, single (b := b) rfl (.inl ⟨b, rfl⟩), a1⟩
   | row g sz e xs =>
    rw [hc] at g2
    obtain ⟨a1, v, a2, a3⟩ := g2
    exact ⟨hlenG g a1, v, g7 g v a2, a3⟩
   | frow g sz xs =>
    rw [hc] at g2
    obtain ⟨v, a2, a3⟩ := g2
    exact ⟨v, g7 g v a2, a3⟩
   | tail g sz e =>
    rw [hc] at g2
    obtain ⟨a1, v, a2, a3⟩ := g2
    exact ⟨hlenG g a1, v, g7 g v a2, a3⟩
   | mp ag es =>
    rw [hc] at g2
    obtain ⟨b, rfl, a1, a2⟩ := g2
    exact ⟨b, single (b := b) rfl (.inr ⟨b, rfl⟩), a1, a2⟩
   | bun g I =>
    rw [hc] at g2
    obtain ⟨a1, v, a2, a3⟩ := g2
    exact ⟨hlenG g a1, v, g7 g _ a2, a3⟩
  ·obtain ⟨o1, o2⟩ := oldE hi hne
   rw [o1] at hc
   obtain ⟨hs, hh, hok⟩ := h.obj i c hc
   refine ⟨hs, by rw [o2]; exact hh, hok.mono hx.imm hle (fun b p1 p2 o hno y hy => ?_) (fun b c' p1 p2 hc' => ?_)⟩
   ·obtain ⟨n1, n2⟩ := hnotAlive hne ((alive_of hc hh).2 ⟨p1, p2⟩)
    rcases hx.new b o y hy with q | q | ⟨j, q⟩
    ·exact hno y q
    ·omega
    ·exact n1 j q
   ·obtain ⟨n1, n2⟩ := hnotAlive hne ((alive_of hc hh).2 ⟨p1, p2⟩)
    rw [hx.keep b n2 n1]
    exact hc'
 ·rcases aliveE ha with ⟨j, _, ha⟩ | ⟨_, ha⟩
  ·exact h'.lt j b ha
  ·exact Nat.lt_of_lt_of_le (h.lt i b ha) hx.size
 ·have cross : ∀ {i j : Nat}, (∀ j, j < obs'.length → embK ks obs.length j ≠ i) → Alive ob obs i b → Alive obK' obs' j b → False := by
   intro i j hne ha hb
   obtain ⟨n1, n2⟩ := hnotAlive hne ha
   rcases hx.fresh j b hb with ⟨j', q⟩ | q
   ·exact n1 j' q
   ·omega
  rcases aliveE ha with ⟨j, e1, ha2⟩ | ⟨hne, ha2⟩ <;> rcases aliveE hb with ⟨j', e2, hb2⟩ | ⟨hne', hb2⟩
  ·rw [e1, e2, h'.inj j j' b ha2 hb2]
  ·exact (cross hne' hb2 ha2).elim
  ·exact (cross hne ha2 hb2).elim
  ·exact h.inj i i' b ha2 hb2
 ·rcases hx.new b o y hy with q | q | ⟨j, q⟩
  ·exact .inl q
  ·exact .inr (.inl q)
  ·obtain ⟨k, _, ha⟩ := c2 j b q
   exact .inr (.inr ⟨k, ha⟩)
 ·obtain ⟨k, _, ha⟩ := c2 j b hj
  exact hn k ha
 ·rcases aliveE ha with ⟨j, _, ha⟩ | ⟨_, ha⟩
  ·rcases hx.fresh j b ha with ⟨j', q⟩ | q
   ·obtain ⟨k, _, ha'⟩ := c2 j' b q
    exact .inl ⟨k, ha'⟩
   ·exact .inr q
  ·exact .inl ⟨i, ha⟩
 ·have hi := (List.getElem?_eq_some_iff.1 hd).1
  have hne : ∀ j, j < obs'.length → embK ks obs.length j ≠ i := by
   intro j hj e
   by_cases hlt : j < ks.length
   ·have ej := List.getElem?_eq_getElem hlt
    rw [embK_lt ej] at e
    have ho := k1 j _ ej
    rw [e, oget_of hd] at ho
    cases ho
   ·rw [embK_ge (by omega)] at e
    omega
  obtain ⟨o1, o2⟩ := oldE hi hne
  rw [o1, o2]
  exact ⟨hd, hh⟩
end
section
variable {M M' : Imm} {ob ob' : Hs} {obs obs1 obs1' obs' : List AObj} {w w' : World}
def Weak (obs1 obs : List AObj) : Prop := obs1.length = obs.length ∧ ∀ (k : Nat), obs1[k]? = obs[k]? ∨ obs1[k]? = some .dead
theorem Weak.alive (h : Weak obs1 obs) {k b : Nat} (ha : Alive ob obs1 k b) : Alive ob obs k b := by
 obtain ⟨c, hs, e1, e2, e3, e4⟩ := ha
 rcases h.2 k with q | q
 ·rw [q] at e1; exact ⟨c, hs, e1, e2, e3, e4⟩
 ·rw [q] at e1; cases e1; cases e2
theorem Mem.weak (h : Mem M ob obs w) (hw : Weak obs1 obs) : Mem M ob obs1 w := by
 refine ⟨h.imm, h.len.trans hw.1.symm, fun k c hc => ?_, fun k b ha => h.lt k b (hw.alive ha), fun i j b ha hb => h.inj i j b (hw.alive ha) (hw.alive hb)⟩
 rcases hw.2 k with q | q
 ·rw [q] at hc; exact h.obj k c hc
 ·rw [q] at hc
  cases hc
  have hlt : k < ob.length := by rw [h.len, ← hw.1]; exact (List.getElem?_eq_some_iff.1 q).1
  exact ⟨ob[k], List.getElem?_eq_getElem hlt, trivial⟩
theorem Mem.revive (h : Mem M ob obs w) (hw : Weak obs1 obs) (hx : Ext M ob obs1 w M' ob' obs1' w') (hs : Still ob obs1 ob' obs1') (h' : Mem M' ob' obs1' w') (hl : obs'.length = obs1'.length)
  (ho : ∀ (k : Nat) c, obs'[k]? = some c → obs1'[k]? = some c ∨ (obs1[k]? = some .dead ∧ (∃ hs, ob[k]? = some hs ∧ hs ≠ []) ∧ obs[k]? = some c)) :
  Mem M' ob' obs' w' ∧ Ext M ob obs w M' ob' obs' w' ∧ Still ob obs ob' obs' := by
 have alive' : ∀ {k b : Nat}, Alive ob' obs' k b → Alive ob' obs1' k b ∨ (obs1[k]? = some .dead ∧ Alive ob obs k b) := by
  rintro k b ⟨c, hs', e1, e2, e3, e4⟩
  rcases ho k c e1 with q | ⟨q1, ⟨hs2, q2, q3⟩, q4⟩
  ·exact .inl ⟨c, hs', q, e2, e3, e4⟩
  ·have := ((hs k hs2 q1 q2).1 q3).2
   rw [e3] at this
   cases this
   exact .inr ⟨q1, c, hs', q4, e2, q2, e4⟩
 have noal : ∀ {k b : Nat}, obs1[k]? = some .dead → Alive ob obs k b → ∀ j, ¬ Alive ob obs1 j b := by
  intro k b hk ha j hj
  have := h.inj k j b ha (hw.alive hj)
  subst this
  obtain ⟨c, _, e1, e2, _⟩ := hj
  rw [hk] at e1
  cases e1
  cases e2
 refine ⟨⟨h'.imm, h'.len.trans hl.symm, fun k c hc => ?_, fun k b ha => ?_, fun i j b ha hb => ?_⟩, ⟨hx.imm, fun b o y hy => ?_, hx.hs, hx.os, hx.tape, hx.output, hx.size, fun b hb hn => hx.keep b hb fun j hj => hn j (hw.alive hj), fun k b ha => ?_⟩, fun k hs' h1 h2 => ⟨fun h3 => ?_, fun h3 h4 => ?_⟩⟩
 ·rcases ho k c hc with q | ⟨q1, ⟨hs2, q2, q3⟩, q4⟩
  ·exact h'.obj k c q
  ·obtain ⟨hs3, e1, hok⟩ := h.obj k c q4
   rw [q2] at e1
   cases e1
   refine ⟨hs2, ((hs k hs2 q1 q2).1 q3).2, hok.mono hx.imm hx.hs (fun b p1 p2 o hno y hy => ?_) (fun b c' p1 p2 hc' => ?_)⟩
   ·have ha : Alive ob obs k b := (alive_of q4 q2).2 ⟨p1, p2⟩
    rcases hx.new b o y hy with q | q | ⟨j, q⟩
    ·exact hno y q
    ·have := h.lt k b ha; omega
    ·exact noal q1 ha j q
   ·have ha : Alive ob obs k b := (alive_of q4 q2).2 ⟨p1, p2⟩
    rw [hx.keep b (h.lt k b ha) (noal q1 ha)]
    exact hc'
 ·rcases alive' ha with q | ⟨_, q⟩
  ·exact h'.lt k b q
  ·exact Nat.lt_of_lt_of_le (h.lt k b q) hx.size
 ·have cross : ∀ {i j : Nat}, Alive ob' obs1' i b → obs1[j]? = some .dead → Alive ob obs j b → False := fun {i j} p q r => by
   rcases hx.fresh i b p with ⟨i', t⟩ | t
   ·exact noal q r i' t
   ·have := h.lt j b r; omega
  rcases alive' ha with q | ⟨q1, q⟩ <;> rcases alive' hb with r | ⟨r1, r⟩
  ·exact h'.inj i j b q r
  ·exact (cross q r1 r).elim
  ·exact (cross r q1 q).elim
  ·exact h.inj i j b q r
 ·rcases hx.new b o y hy with q | q | ⟨j, q⟩
  ·exact .inl q
  ·exact .inr (.inl q)
  ·exact .inr (.inr ⟨j, hw.alive q⟩)
 ·rcases alive' ha with q | ⟨_, q⟩
  ·rcases hx.fresh k b q with ⟨j, t⟩ | t
   ·exact .inl ⟨j, hw.alive t⟩
   ·exact .inr t
  ·exact .inl ⟨k, q⟩
 ·have hd1 : obs1[k]? = some .dead := by
   rcases hw.2 k with q | q
   ·rw [q]; exact h1
   ·exact q
  obtain ⟨g1, g2⟩ := (hs k hs' hd1 h2).1 h3
  refine ⟨?_, g2⟩
  have hlt : k < obs'.length := by rw [hl]; exact (List.getElem?_eq_some_iff.1 g1).1
  rcases ho k _ (List.getElem?_eq_getElem hlt) with q | ⟨_, _, q⟩
  ·rw [g1] at q; rw [List.getElem?_eq_getElem hlt, ← q]
  ·rw [h1] at q; rw [List.getElem?_eq_getElem hlt, ← q]
 ·have hd1 : obs1[k]? = some .dead := by
   rcases hw.2 k with q | q
   ·rw [q]; exact h1
   ·exact q
  rcases ho k _ h4 with q | ⟨_, ⟨hs2, q2, q3⟩, _⟩
  ·exact (hs k hs' hd1 h2).2 h3 q
  ·rw [h2] at q2; cases q2; exact absurd h3 q3
end
def isAggT (P : Program) (t : TypeId) : Bool := match P.underlying t with | some (.struct _) | some (.array _ _) => true | _ => false
def FieldsOK (P : Program) : List Field → List (Nat × Nat × Bool) → Prop
 | [], [] => True
 | f :: fs, (off, sz, ag) :: r => f.offset = off ∧ (P.info? f.type).map (·.size) = some sz ∧ (P.underlying f.type).isSome = true ∧ isAggT P f.type = ag ∧ FieldsOK P fs r
 | _, _ => False
def KindOK (P : Program) (t : Nat) (ag : Bool) (size : Nat) : TK → Prop
 | .int k => P.underlying t = some (.int k) ∧ ag = false ∧ size = 1
 | .bool => P.underlying t = some .bool ∧ ag = false ∧ size = 1
 | .str => P.underlying t = some .string ∧ ag = false ∧ size = 1
 | .strct fs => (∃ flds, P.underlying t = some (.struct flds) ∧ FieldsOK P flds.toList fs) ∧ ag = true
 | .arr n esz ea => (∃ e, P.underlying t = some (.array n e) ∧ (P.info? e).map (·.size) = some esz ∧ (P.underlying e).isSome = true ∧ isAggT P e = ea) ∧ ag = true
 | .slc e esz eb => (P.underlying t = some (.slice e) ∧ ∃ i z, P.info? e = some i ∧ i.size = esz ∧ i.bytes = eb ∧ i.zero = some z ∧ z.cells.size = esz ∧ z.cells.toList.all (·.oneCell') = true) ∧ ag = false ∧ size = 1
 | .ptr e => P.underlying t = some (.pointer e) ∧ ag = false ∧ size = 1
 | .iface => (∃ ms, P.underlying t = some (.interface ms)) ∧ ag = false ∧ size = 1
 | .mp k e => P.underlying t = some (.map k e) ∧ ag = false ∧ size = 1
 | .other => (∃ d, P.underlying t = some d ∧ (∀ ms, d ≠ .interface ms)) ∧ isAggT P t = ag
structure TIOK (P : Program) (t : Nat) (ti : TI) : Prop where
 info : ∃ i z, P.info? t = some i ∧ i.size = ti.size ∧ i.zero = some z ∧ z.cells.size = ti.size ∧ Rep (fun _ _ _ => False) [] z ti.zero ∧ z.cells.toList.all (·.oneCell') = true ∧ ti.zero ≠ .undef
 kind : KindOK P t ti.agg ti.size ti.kind
def FlatEq (P : Program) (t n : Nat) : Prop := ∀ (w : World) (x y : Operand) (xs ys : List AVal) (vs us : List Value) (c : Bool), ceq xs ys = some c → xs.length = n →
 RepL (fun _ _ _ => False) [] vs xs → RepL (fun _ _ _ => False) [] us ys →
 (∀ op, (eqGuard op t x y (.agg vs.toArray) (.agg us.toArray)).run P w = .ok () w) ∧ (Op.equal t (.agg vs.toArray) (.agg us.toArray)).run P w = .ok c w
def FlatKey (P : Program) (t n : Nat) : Prop := ∀ (w : World) (a b : List Int), a.length = n → b.length = n → (Op.equal t (keyV true a) (keyV true b)).run P w = .ok (decide (a = b)) w ∧ ∀ em, (Instr.checkKey em 10000 t (keyV true a)).run P w = .ok () w
def FlatOK (P : Program) (t n : Nat) : Prop := FlatEq P t n ∧ FlatKey P t n
structure EnvOK (E : Env) : Prop where
 mix : E.P.follows .mixedOrders = true
 tab : ∀ t ti, tget E.T t = some ti → TIOK E.P t ti
 mth : ∀ t name g, mget E.mt t name = some g → ∀ v w, (method (E.P.types.size + Made.depth) t v name).run E.P w = .ok (g, v) w
 fl : ∀ t, 0 < fget E.fl t → FlatOK E.P t (fget E.fl t)
theorem KindOK.isAgg {P : Program} {t : Nat} {ag : Bool} {size : Nat} {k : TK} (h : KindOK P t ag size k) : (P.underlying t).isSome = true ∧ isAggT P t = ag := by
 cases k with
 | strct fs => obtain ⟨⟨f, h1, _⟩, h2⟩ := h; simp [isAggT, h1, h2]
 | arr n esz ea => obtain ⟨⟨f, h1, _⟩, h2⟩ := h; simp [isAggT, h1, h2]
 | slc e a b => obtain ⟨⟨h1, _⟩, h2, _⟩ := h; simp [isAggT, h1, h2]
 | iface => obtain ⟨⟨ms, h1⟩, h2, _⟩ := h; simp [isAggT, h1, h2]
 | other => obtain ⟨⟨d, h1, _⟩, h2⟩ := h; exact ⟨by simp [h1], h2⟩
 | _ => obtain ⟨h1, h2, _⟩ := h; simp [isAggT, h1, h2]
theorem run_isAgg {P : Program} {t : Nat} (h : (P.underlying t).isSome = true) (w : World) : (isAgg t).run P w = .ok (isAggT P t) w := by
 obtain ⟨d, hd⟩ := Option.isSome_iff_exists.1 h
 unfold isAgg
 simp only [Sem.run_bind, run_underlying hd, Result.andThen_ok, isAggT, hd]
 cases d <;> rfl
theorem run_sizeOf {P : Program} {t : Nat} {s : Nat} (h : (P.info? t).map (·.size) = some s) (w : World) : (sizeOf t).run P w = .ok s w := by
 obtain ⟨i, hi, rfl⟩ := Option.map_eq_some_iff.1 h
 simp [sizeOf, typeInfo, hi]
theorem TIOK.size? {P : Program} {t : Nat} {ti : TI} (h : TIOK P t ti) : (P.info? t).map (·.size) = some ti.size := by
 obtain ⟨i, z, hi, hsz, _⟩ := h.info
 simp [hi, hsz]
theorem FieldsOK.get {P : Program} : ∀ {flds : List Field} {fs : List (Nat × Nat × Bool)}, FieldsOK P flds fs → ∀ {i : Nat} {off sz : Nat} {ag : Bool}, nth fs i = some (off, sz, ag) →
  ∃ f, flds[i]? = some f ∧ f.offset = off ∧ (P.info? f.type).map (·.size) = some sz ∧ (P.underlying f.type).isSome = true ∧ isAggT P f.type = ag
 | [], [], _, i, _, _, _, hn => by cases i <;> cases hn
 | [], _ :: _, h, _, _, _, _, _ => h.elim
 | _ :: _, [], h, _, _, _, _, _ => h.elim
 | f :: flds, (off', sz', ag') :: fs, h, i, off, sz, ag, hn => by
  obtain ⟨h1, h2, h3, h4, h5⟩ := h
  cases i with
  | zero => cases hn; exact ⟨f, rfl, h1, h2, h3, h4⟩
  | succ i =>
   obtain ⟨g, hg, r⟩ := h5.get (show nth fs i = _ from hn)
   exact ⟨g, by simpa using hg, r⟩
theorem zero_rep {M : Imm} {ob : Hs} {z : Value} {a : AVal} (h : Rep (fun _ _ _ => False) [] z a) : Rep M ob z a := h.mono (fun _ _ _ h => h.elim) (hsle_nil ob)
def Sd (VS : AVal → List AObj → Prop) (CS : Fn → List AVal → Prop) (PS : AVal → Prop) (obs : List AObj) (base : Nat) : OR → Prop
 | .no => True
 | .val v => VS v obs
 | .mkf fn fs cs => VS (.func fn fs cs) obs
 | .need p r => p → Sd VS CS PS obs base r
 | .alt p v w => (p → VS v obs) ∧ VS w obs
 | .idx n f => ∀ i : Nat, n = (i : Int) → Sd VS CS PS obs base (f i)
 | .elem xs i f => ∀ x, xs[i]? = some x → Sd VS CS PS obs base (f x)
 | .byte l i => ∀ c, l[i]? = some c → VS (.int .u8 (c.toNat : Int)) obs
 | .text xs => ∀ l : List UInt8, xs = l.map ub → (l.length : Int) ≤ 9223372036854775807 → VS (.str l) obs
 | .find es key f => Sd VS CS PS obs base (f (mfind es key))
 | .born x v => VS v (oput obs base x)
 | .upd k x v => VS v (oput obs k x)
 | .nilq xs neg => ∃ b : Bool, (b = true → xs = []) ∧ VS (.bool (if neg then !b else b)) obs
 | .call f args => CS f args
 | .pan v => PS v
theorem Sd.mono {VS VS' : AVal → List AObj → Prop} {CS CS' : Fn → List AVal → Prop} {PS PS' : AVal → Prop} {obs : List AObj} {base : Nat} (h1 : ∀ v o, VS v o → VS' v o) (h2 : ∀ f a, CS f a → CS' f a) (h3 : ∀ v, PS v → PS' v) :
  ∀ {r : OR}, Sd VS CS PS obs base r → Sd VS' CS' PS' obs base r
 | .no, _ => trivial
 | .val v, h => h1 _ _ h
 | .mkf fn fs cs, h => h1 _ _ h
 | .need p r, h => fun hp => Sd.mono h1 h2 h3 (h hp)
 | .alt p v w, h => ⟨fun hp => h1 _ _ (h.1 hp), h1 _ _ h.2⟩
 | .idx n f, h => fun i hi => Sd.mono h1 h2 h3 (h i hi)
 | .elem xs i f, h => fun x hx => Sd.mono h1 h2 h3 (h x hx)
 | .byte l i, h => fun c hc => h1 _ _ (h c hc)
 | .text xs, h => fun l hl hb => h1 _ _ (h l hl hb)
 | .find es key f, h => Sd.mono (r := f (mfind es key)) h1 h2 h3 h
 | .born x v, h => h1 _ _ h
 | .upd k x v, h => h1 _ _ h
 | .nilq xs neg, ⟨b, hb, h⟩ => ⟨b, hb, h1 _ _ h⟩
 | .call f args, h => h2 _ _ h
 | .pan v, h => h3 _ h
def PV (P : Program) (M : Imm) (ob : Hs) (w : World) (s : Sem Value) (obs : List AObj) (v : AVal) (o : List AObj) : Prop := o = obs ∧ ∃ u, s.run P w = .ok u w ∧ Rep M ob u v
abbrev PS0 (P : Program) (M : Imm) (ob : Hs) (w : World) (s : Sem Value) (obs : List AObj) (base : Nat) (r : OR) : Prop := Sd (PV P M ob w s obs) (fun _ _ => False) (fun _ => False) obs base r
theorem PS0.bind {P : Program} {M : Imm} {ob : Hs} {w : World} {s : Sem Value} {obs : List AObj} {base : Nat} {f : AVal → AVal} (hf : ∀ v u, Rep M ob u v → Rep M ob u (f v)) : ∀ {r : OR}, PS0 P M ob w s obs base r → PS0 P M ob w s obs base (r.bind fun v => .val (f v))
 | .no, _ => trivial
 | .val v, ⟨h1, u, h2, h3⟩ => ⟨h1, u, h2, hf _ _ h3⟩
 | .mkf fn fs cs, _ => trivial
 | .need p r, h => fun hp => PS0.bind hf (r := r) (h hp)
 | .alt p v w, _ => trivial
 | .idx n f', h => fun i hi => PS0.bind hf (r := f' i) (h i hi)
 | .elem xs i f', h => fun x hx => PS0.bind hf (r := f' x) (h x hx)
 | .byte l i, _ => trivial
 | .text xs, _ => trivial
 | .find es key f', _ => trivial
 | .born x v, _ => trivial
 | .upd k x v, _ => trivial
 | .nilq xs neg, _ => trivial
 | .call f' args, _ => trivial
 | .pan v, _ => trivial
structure VS1 (P : Program) (ρv : Operand → Value) (op : Op) (ty : TypeId) (M : Imm) (ob : Hs) (obs : List AObj) (w : World) (v : AVal) (obs' : List AObj) (u : Value) (w' : World) (M' : Imm) (ob' : Hs) : Prop where
 run : ∀ d pos after g, (execOp ρv ⟨d, op, ty, pos, after, g⟩).run P w = .ok (.value u) w' ∨ ((execOp ρv ⟨d, op, ty, pos, after, g⟩).run P w = .ok .skip w' ∧ u = undef)
 ext : Ext M ob obs w M' ob' obs' w'
 mem : Mem M' ob' obs' w'
 still : Still ob obs ob' obs'
 rep : Rep M' ob' u v
def VS (P : Program) (ρv : Operand → Value) (op : Op) (ty : TypeId) (M : Imm) (ob : Hs) (obs : List AObj) (w : World) (v : AVal) (obs' : List AObj) : Prop := ∃ u w' M' ob', VS1 P ρv op ty M ob obs w v obs' u w' M' ob'
def CS (P : Program) (ρv : Operand → Value) (op : Op) (ty : TypeId) (M : Imm) (ob : Hs) (w : World) (f : Fn) (args : List AVal) : Prop :=
 ∃ va : List Value, RepL M ob va args ∧ ∀ d pos after g, (execOp ρv ⟨d, op, ty, pos, after, g⟩).run P w = (callFn f va.toArray).run P w
def PS (P : Program) (ρv : Operand → Value) (op : Op) (ty : TypeId) (M : Imm) (w : World) (v : AVal) : Prop :=
 ∃ u, (∀ d pos after g, (execOp ρv ⟨d, op, ty, pos, after, g⟩).run P w = .halt (.panic u) w) ∧ Rep M [] u v
abbrev Sound (P : Program) (ρv : Operand → Value) (op : Op) (ty : TypeId) (M : Imm) (ob : Hs) (obs : List AObj) (w : World) (base : Nat) (r : OR) : Prop :=
 Sd (VS P ρv op ty M ob obs w) (CS P ρv op ty M ob w) (PS P ρv op ty M w) obs base r
theorem Sound.pv {P : Program} {ρv : Operand → Value} {op : Op} {ty : TypeId} {M : Imm} {ob : Hs} {obs : List AObj} {w : World} {base : Nat} {r : OR} {s : Sem Value} (hm : Mem M ob obs w)
  (hx : ∀ d pos after g, execOp ρv ⟨d, op, ty, pos, after, g⟩ = (s >>= fun v => Pure.pure (.value v))) (h : PS0 P M ob w s obs base r) : Sound P ρv op ty M ob obs w base r :=
 Sd.mono (fun v o ⟨h1, u, h2, h3⟩ => ⟨u, w, M, ob, fun d pos after g => .inl (by rw [hx]; simp only [Sem.run_bind, h2, Result.andThen_ok, Sem.run_pure]), h1 ▸ Ext.refl _ _ _ _, h1 ▸ hm, h1 ▸ Still.refl _ _, h3⟩) (fun _ _ h => h.elim) (fun _ h => h.elim) h
theorem inRb_spec {k : IntKind} {n : Int} (h : inRb k n = true) : inR k n := by
 unfold inRb at h
 split at h
 ·rename_i m
  have := Nat.le_of_ble_eq_true h
  rw [show Int.ofNat m = (m : Int) from rfl]
  constructor
  ·cases k <;> simp only [kmin] <;> omega
  ·cases k <;> simp only [kmaxN, kmax] at * <;> omega
 ·rename_i m
  have : m < kminN k := by simpa [Nat.blt_eq] using h
  constructor
  ·cases k <;> simp only [kminN, kmin] at * <;> omega
  ·cases k <;> simp only [kmax] <;> omega
theorem lenB_eq (l : List UInt8) : lenB l = l.length := by
 induction l with
 | nil => rfl
 | cons c r ih => simp [lenB, ih]
theorem wrap_inR {k : IntKind} {n : Int} (h : inR k n) : k.wrap n = n := by
 unfold inR kmin kmax at h
 unfold IntKind.wrap
 cases k <;> simp only [IntKind.bits, IntKind.signed] at * <;> simp at * <;> omega
theorem inR_wrap (k : IntKind) (n : Int) : inR k (k.wrap n) := by
 unfold inR kmin kmax IntKind.wrap
 cases k <;> simp only [IntKind.bits, IntKind.signed] <;> simp <;> (try split) <;> omega
theorem inR_tmod {k : IntKind} {x y : Int} (h : inR k x) : inR k (x.tmod y) := by
 obtain ⟨h1, h2⟩ := h
 have hk : kmin k ≤ 0 := by cases k <;> decide
 have hk2 : 0 ≤ kmax k := by cases k <;> decide
 by_cases hx : 0 ≤ x
 ·have a := Int.tmod_nonneg y hx
  have b : x.tmod y ≤ x := by
   have := Int.natAbs_tmod x y
   have := Nat.mod_le x.natAbs y.natAbs
   omega
  exact ⟨by omega, by omega⟩
 ·have e : x.tmod y = -((-x).tmod y) := by rw [Int.neg_tmod]; omega
  have a := Int.tmod_nonneg y (show 0 ≤ -x by omega)
  have b : (-x).tmod y ≤ -x := by
   have := Int.natAbs_tmod (-x) y
   have := Nat.mod_le (-x).natAbs y.natAbs
   omega
  exact ⟨by omega, by omega⟩
theorem inR_fdiv {k : IntKind} {x : Int} (p : Nat) (h : inR k x) : inR k (x.fdiv (2 ^ p)) := by
 obtain ⟨h1, h2⟩ := h
 have hk : kmin k ≤ 0 := by cases k <;> decide
 have hk2 : 0 ≤ kmax k := by cases k <;> decide
 have hp : (0 : Int) < 2 ^ p := Int.pow_pos (by decide)
 have hp1 : (1 : Int) ≤ 2 ^ p := by omega
 rw [Int.fdiv_eq_ediv_of_nonneg _ (by omega)]
 generalize (2 : Int) ^ p = q at hp hp1
 constructor
 ·refine Int.le_ediv_of_mul_le hp ?_
  have : kmin k * q ≤ kmin k * 1 := Int.mul_le_mul_of_nonpos_left hk hp1
  omega
 ·refine Int.ediv_le_of_le_mul hp ?_
  have : kmax k * 1 ≤ kmax k * q := Int.mul_le_mul_of_nonneg_left hp1 hk2
  omega
theorem kbeq_eq {k k' : IntKind} (h : kbeq k k' = true) : k = k' := by cases k <;> cases k' <;> first | rfl | cases h
theorem sdc {VS : AVal → List AObj → Prop} {CS : Fn → List AVal → Prop} {PS : AVal → Prop} {obs : List AObj} {base : Nat} {b : Bool} {r : OR} (h : b = true → Sd VS CS PS obs base r) : Sd VS CS PS obs base (bif b then r else .no) := by
 cases b with
 | true => exact h rfl
 | false => exact trivial
section
variable {P : Program} {E : Env} {M : Imm} {ob : Hs} {obs : List AObj} {w : World} {base : Nat}
theorem cval_rep (v : Value) : Rep M ob v (cval v) := by
 unfold cval
 split
 ·exact .bool _
 ·rename_i k n
  cases h : inRb k n with
  | true => exact .int _ _ (inRb_spec h)
  | false => exact .undef _
 ·rename_i s
  cases h : Nat.ble (lenB s.data.toList) 1000000 with
  | true =>
   have := Nat.le_of_ble_eq_true h
   rw [lenB_eq] at this
   obtain ⟨⟨l⟩⟩ := s
   exact .str l (by simp at this; omega)
  | false => exact .undef _
 ·exact .nilslice
 ·exact .nilptr
 ·exact .nilmap
 ·exact .nilfunc
 ·exact .nilif
 ·exact .undef _
theorem earith_s {op : BinOp} {t : TypeId} {k : IntKind} {x y n : Int} (hb : (binOp op t (.int k x) (.int k y)).run P w = .ok (.int k (k.wrap n)) w) :
  PS0 P M ob w (binOp op t (.int k x) (.int k y)) obs base (earith k n) :=
 ⟨fun hp => ⟨rfl, _, by rw [hb, wrap_inR hp], .int _ _ hp⟩, rfl, _, hb, .int _ _ (inR_wrap _ _)⟩
theorem eint_s {op : BinOp} {t : TypeId} {k : IntKind} {x y : Int} (hx : inR k x) : PS0 P M ob w (binOp op t (.int k x) (.int k y)) obs base (eint op k x y) := by
 have vi : ∀ {op : BinOp} {n : Int}, (binOp op t (.int k x) (.int k y)).run P w = .ok (.int k n) w → inR k n → PS0 P M ob w (binOp op t (.int k x) (.int k y)) obs base (.val (.int k n)) := fun h1 h2 => ⟨rfl, _, h1, .int _ _ h2⟩
 have vb : ∀ {op : BinOp} {b : Bool}, (binOp op t (.int k x) (.int k y)).run P w = .ok (.bool b) w → PS0 P M ob w (binOp op t (.int k x) (.int k y)) obs base (.val (.bool b)) := fun h1 => ⟨rfl, _, h1, .bool _⟩
 have eb : ∀ op, inR k (ebits op k x y) := fun op => by
  unfold ebits
  cases op <;> exact inR_wrap _ _
 cases op with
 | add => exact earith_s (by rw [binOp_add]; rfl)
 | sub => exact earith_s (by rw [binOp_sub]; rfl)
 | mul => exact earith_s (by rw [binOp_mul]; rfl)
 | quo =>
  intro hy
  have e : (binOp .quo t (.int k x) (.int k y)).run P w = .ok (.int k (k.wrap (x.tdiv y))) w := by rw [binOp_quo]; simp only [Op.intDiv, if_neg hy]; rfl
  exact ⟨fun hp => ⟨rfl, _, by rw [e, wrap_inR hp], .int _ _ hp⟩, rfl, _, e, .int _ _ (inR_wrap _ _)⟩
 | rem =>
  intro hy
  exact vi (by rw [binOp_rem]; simp only [Op.intDiv, if_neg hy]; rfl) (inR_tmod hx)
 | and => exact vi (by rw [binOp_and]; rfl) (eb .and)
 | or => exact vi (by rw [binOp_or]; rfl) (eb .or)
 | xor => exact vi (by rw [binOp_xor]; rfl) (eb .xor)
 | andNot => exact vi (by rw [binOp_andNot]; rfl) (eb .andNot)
 | shl => exact trivial
 | shr => exact trivial
 | eql => exact vb (by rw [binOp_eql]; rfl)
 | neq => exact vb (by rw [binOp_neq]; rfl)
 | lss => exact vb (by rw [binOp_lss]; rfl)
 | leq => exact vb (by rw [binOp_leq]; rfl)
 | gtr => exact vb (by rw [binOp_gtr]; rfl)
 | geq => exact vb (by rw [binOp_geq]; rfl)
theorem mk_toList (l : List UInt8) : (⟨l.toArray⟩ : ByteArray).toList = l := by rw [ByteArray.toList_eq]
theorem mk_extract (l : List UInt8) (i j : Nat) : (⟨l.toArray⟩ : ByteArray).extract i j = ⟨((l.take j).drop i).toArray⟩ := by
 have h := Lib.extract_data ⟨l.toArray⟩ i j
 have : ((⟨l.toArray⟩ : ByteArray).extract i j).data = ((l.take j).drop i).toArray := by
  rw [← Array.toList_inj, h]
  simp [List.drop_take]
 cases hq : (⟨l.toArray⟩ : ByteArray).extract i j with
 | mk d => rw [hq] at this; simp at this; rw [this]
theorem ceq_ints {M' : Imm} {ob' : Hs} : ∀ {xs ys : List AVal} {c : Bool}, ceq xs ys = some c → ∀ {vs : List Value}, RepL M ob vs xs → RepL M' ob' vs xs := by
 intro xs
 induction xs with
 | nil => intro ys c _ vs h; exact ⟨h.1, fun i v a _ ha => by simp at ha⟩
 | cons x xs ih =>
  intro ys c h vs hr
  cases ys with
  | nil => cases x <;> cases h
  | cons y ys =>
   cases x with
   | int k a =>
    cases y with
    | int k' b =>
     simp only [ceq] at h
     obtain ⟨_, h2⟩ := cond_some h
     cases hq : ceq xs ys with
     | none => simp [hq] at h2
     | some c' =>
      match vs, hr with
      | [], hr => exact absurd hr.1 (by simp)
      | v :: vs, hr =>
       have ht := ih hq (vs := vs) ⟨by simpa using hr.1, fun i u b hu hb => hr.2 (i + 1) u b (by simpa using hu) (by simpa using hb)⟩
       refine ⟨by simpa using hr.1, fun i u b hu hb => ?_⟩
       cases i with
       | zero =>
        simp at hu hb
        subst hu hb
        have := (hr.2 0 v _ rfl rfl).int_inv
        rw [this.1]
        exact .int _ _ this.2
       | succ i => exact ht.2 i u b (by simpa using hu) (by simpa using hb)
    | _ => cases h
   | _ => cases h
theorem ceq_swap : ∀ {xs ys : List AVal} {c : Bool}, ceq xs ys = some c → ∃ c', ceq ys xs = some c' := by
 intro xs
 induction xs with
 | nil => intro ys c h; cases ys with
  | nil => exact ⟨true, rfl⟩
  | cons y ys => cases h
 | cons x xs ih =>
  intro ys c h
  cases ys with
  | nil => cases x <;> cases h
  | cons y ys =>
   cases x with
   | int k a =>
    cases y with
    | int k' b =>
     simp only [ceq] at h
     obtain ⟨hk, h2⟩ := cond_some h
     have := kbeq_eq hk
     subst this
     cases hq : ceq xs ys with
     | none => simp [hq] at h2
     | some c' =>
      obtain ⟨d, hd⟩ := ih hq
      exact ⟨(b == a) && d, by simp only [ceq, hk, cond_true, hd]⟩
    | _ => cases h
   | _ => cases h
theorem run_equalIn_same {P : Program} {w : World} {t e : TypeId} {a : Addr} {j : TypeInfo} (d : Nat) (h : P.underlying t = some (.pointer e)) (hj : P.info? e = some j) : (Op.equalIn (d + 1) t (.pointer (some a)) (.pointer (some a))).run P w = .ok true w := by
 by_cases hz : j.size = 0 <;> simp [Op.equalIn, run_underlying h, sizeOf, typeInfo, hj, hz, run_sameAddr_same]
theorem hptr {P : Program} {t e : TypeId} (h : P.underlying t = some (.pointer e)) : P.underlying t = some (.pointer (P.pointee t)) := by
 simp [Program.pointee, h]
abbrev cmpS (op : BinOp) (t : TypeId) (x y : Operand) (vx vy : Value) : Sem Value := eqGuard op t x y vx vy >>= fun _ => binOp op t vx vy
theorem pv_of {s s' : Sem Value} (h : ∀ {r}, s'.run P w = r → s.run P w = r) {r : OR} (k : PS0 P M ob w s' obs base r) : PS0 P M ob w s obs base r :=
 Sd.mono (fun _ _ ⟨h1, u, h2, h3⟩ => ⟨h1, u, h h2, h3⟩) (fun _ _ h => h) (fun _ h => h) k
theorem outC_s {op : BinOp} {t : TypeId} {x y : Operand} {vx vy : Value} {c : Bool} (h1 : ∀ op, eqGuard op t x y vx vy = Pure.pure ()) (h2 : ∀ op, op = .eql ∨ op = .neq → binOp op t vx vy = (Op.equal t vx vy >>= fun r => Pure.pure (.bool (if op = .eql then r else !r))))
  (h3 : (Op.equal t vx vy).run P w = .ok c w) : PS0 P M ob w (cmpS op t x y vx vy) obs base (outC op c) := by
 unfold outC
 split
 ·refine ⟨rfl, .bool c, ?_, .bool c⟩
  simp only [cmpS, h1, h2 _ (.inl rfl)]
  simp only [Sem.run_bind, Sem.run_pure, Result.andThen_ok, h3, if_true]
 ·refine ⟨rfl, .bool (!c), ?_, .bool _⟩
  simp only [cmpS, h1, h2 _ (.inr rfl)]
  simp only [Sem.run_bind, Sem.run_pure, Result.andThen_ok, h3]
  rfl
 ·exact trivial
theorem outN_s {op : BinOp} {t : TypeId} {x y : Operand} {vx vy : Value} {c : Bool} {xs : List AVal} (h1 : ∀ op, eqGuard op t x y vx vy = Pure.pure ()) (h2 : ∀ op, op = .eql ∨ op = .neq → binOp op t vx vy = (Op.equal t vx vy >>= fun r => Pure.pure (.bool (if op = .eql then r else !r))))
  (h3 : (Op.equal t vx vy).run P w = .ok c w) (hc : c = true → xs = []) : PS0 P M ob w (cmpS op t x y vx vy) obs base (outN op xs) := by
 have := outC_s (M := M) (ob := ob) (obs := obs) (base := base) (op := op) h1 h2 h3
 unfold outN
 unfold outC at this
 split
 ·exact ⟨c, hc, this⟩
 ·exact ⟨c, hc, this⟩
 ·exact trivial
theorem ebin_s (hE : EnvOK E) {og : Nat → AObj} {op : BinOp} {t : TypeId} {x y : Operand} {vx vy : Value} {a b : AVal} (hx : Rep M ob vx a) (hy : Rep M ob vy b) : PS0 E.P M ob w (cmpS op t x y vx vy) obs base (ebin E og (isC x || isC y) op t a b) := by
 unfold ebin
 split
 ·rename_i k x' k' y'
  obtain ⟨rfl, rx⟩ := hx.int_inv
  obtain ⟨rfl, ry⟩ := hy.int_inv
  have hg : ∀ op, (eqGuard op t x y (.int k x') (.int k' y')) = Pure.pure () := fun op => by cases op <;> rfl
  refine pv_of (s' := binOp op t (.int k x') (.int k' y')) (fun h => by simp only [cmpS, hg, Sem.run_bind, Sem.run_pure, Result.andThen_ok]; exact h) ?_
  split
  ·intro c0
   have e : (binOp .shl t (.int k x') (.int k' y')).run E.P w = .ok (.int k (k.wrap (x' * 2 ^ min y'.toNat k.bits))) w := by
    rw [binOp_shl]
    simp only [Op.shift]
    rw [if_neg (by omega)]
    rfl
   refine ⟨fun ⟨c1, c2⟩ => ⟨rfl, _, ?_, .int _ _ c2⟩, rfl, _, e, .int _ _ (inR_wrap _ _)⟩
   rw [e, Nat.min_eq_left c1, wrap_inR c2]
  ·rintro ⟨c0, c1⟩
   refine ⟨rfl, _, ?_, .int _ _ (inR_fdiv _ rx)⟩
   rw [binOp_shr]
   simp only [Op.shift]
   rw [if_neg (by omega), Nat.min_eq_left c1]
   rfl
  ·refine sdc fun hk => ?_
   have := kbeq_eq hk
   subst this
   exact eint_s rx
 ·rename_i l1 l2
  obtain ⟨rfl, rx⟩ := hx.str_inv
  obtain ⟨rfl, ry⟩ := hy.str_inv
  have hg : ∀ op, (eqGuard op t x y (.string ⟨l1.toArray⟩) (.string ⟨l2.toArray⟩)) = Pure.pure () := fun op => by cases op <;> rfl
  refine pv_of (s' := binOp op t (.string ⟨l1.toArray⟩) (.string ⟨l2.toArray⟩)) (fun h => by simp only [cmpS, hg, Sem.run_bind, Sem.run_pure, Result.andThen_ok]; exact h) ?_
  split
  ·intro c0
   refine ⟨rfl, .string ⟨(l1 ++ l2).toArray⟩, ?_, .str _ (by simpa using c0)⟩
   rw [binOp_string_add]
   rw [run_string_add_sum w _ _ (by rw [mk_size, mk_size]; omega), ByteArray.mk_append_mk]
  ·exact ⟨rfl, _, by rw [binOp_string_eql, mk_toList, mk_toList]; rfl, .bool _⟩
  ·exact ⟨rfl, _, by rw [binOp_string_neq, mk_toList, mk_toList]; rfl, .bool _⟩
  ·exact ⟨rfl, _, by rw [binOp_string_lss, mk_toList, mk_toList]; rfl, .bool _⟩
  ·exact ⟨rfl, _, by rw [binOp_string_leq, mk_toList, mk_toList]; rfl, .bool _⟩
  ·exact ⟨rfl, _, by rw [binOp_string_gtr, mk_toList, mk_toList]; rfl, .bool _⟩
  ·exact ⟨rfl, _, by rw [binOp_string_geq, mk_toList, mk_toList]; rfl, .bool _⟩
  ·exact trivial
 ·rename_i xs ys
  refine sdc fun hg => ?_
  obtain ⟨hf1, hf2⟩ := beq_and hg
  have hf : 0 < fget E.fl t := by simpa [Nat.blt_eq] using hf1
  have hlen := beq_yes hf2
  rw [clen_eq] at hlen
  obtain ⟨vs, rfl, hl, hr⟩ := hx.agg_inv
  obtain ⟨us, rfl, hl', hr'⟩ := hy.agg_inv
  split
  ·rename_i c hcq
   obtain ⟨c', hcq'⟩ := ceq_swap hcq
   obtain ⟨g1, g2⟩ := (hE.fl t hf).1 w x y _ _ vs us c hcq hlen (ceq_ints hcq ⟨hl, hr⟩) (ceq_ints hcq' ⟨hl', hr'⟩)
   refine ⟨rfl, .bool c, ?_, .bool c⟩
   simp only [cmpS, Sem.run_bind, g1, Result.andThen_ok, binOp, g2, Sem.run_pure]
  ·rename_i c hcq
   obtain ⟨c', hcq'⟩ := ceq_swap hcq
   obtain ⟨g1, g2⟩ := (hE.fl t hf).1 w x y _ _ vs us c hcq hlen (ceq_ints hcq ⟨hl, hr⟩) (ceq_ints hcq' ⟨hl', hr'⟩)
   refine ⟨rfl, .bool (!c), ?_, .bool _⟩
   simp only [cmpS, Sem.run_bind, g1, Result.andThen_ok, binOp, g2, Sem.run_pure]
  ·exact trivial
 ·split
  ·exact trivial
  ·rename_i ti hT
   have hkind := (hE.tab t ti hT).kind
   have two : ∀ {vx vy : Value}, (∀ op, eqGuard op t x y vx vy = Pure.pure ()) → (∀ op, op = .eql ∨ op = .neq → binOp op t vx vy = (Op.equal t vx vy >>= fun r => Pure.pure (.bool (if op = .eql then r else !r)))) →
     ∀ {c : Bool}, (Op.equal t vx vy).run E.P w = .ok c w → PS0 E.P M ob w (cmpS op t x y vx vy) obs base (outC op c) := fun h1 h2 _ h3 => outC_s h1 h2 h3
   split
   ·have hk := ‹ti.kind = TK.bool›
    rw [hk] at hkind
    obtain rfl := hx.bool_inv
    obtain rfl := hy.bool_inv
    exact two (fun op => by cases op <;> rfl) (fun op ho => by rcases ho with rfl | rfl <;> rfl) (run_equal_bool w t _ _ hkind.1)
   ·have hk := ‹ti.kind = TK.slc _ _ _›
    rw [hk] at hkind
    have := hx.untok.2
    obtain rfl : vx = .slice none 0 0 := this
    cases hy
    exact two (fun op => by cases op <;> rfl) (fun op ho => by rcases ho with rfl | rfl <;> rfl) (run_equal_slice_nil w t _ none 0 0 hkind.1.1)
   ·have hk := ‹ti.kind = TK.slc _ _ _›
    rw [hk] at hkind
    cases hx
    cases hy
    exact two (fun op => by cases op <;> rfl) (fun op ho => by rcases ho with rfl | rfl <;> rfl) (run_equal_slice_nil w t _ none 0 0 hkind.1.1)
   ·have hk := ‹ti.kind = TK.slc _ _ _›
    rw [hk] at hkind
    obtain ⟨a, c, rfl, h0, _⟩ := hx.slice_inv
    cases hy
    exact outN_s (fun op => by cases op <;> rfl) (fun op ho => by rcases ho with rfl | rfl <;> rfl) (run_equal_slice_nil w t _ a _ c hkind.1.1) (fun e => (h0 (by cases a <;> first | rfl | cases e)).1)
   ·have hk := ‹ti.kind = TK.ptr _›
    rw [hk] at hkind
    cases hx
    cases hy
    exact two (fun op => by cases op <;> rfl) (fun op ho => by rcases ho with rfl | rfl <;> rfl) (run_equal_pointer_nil w t _ (hptr hkind.1))
   ·have hk := ‹ti.kind = TK.ptr _›
    rw [hk] at hkind
    obtain ⟨b, rfl, _⟩ := hx.ref_inv
    cases hy
    exact two (fun op => by cases op <;> rfl) (fun op ho => by rcases ho with rfl | rfl <;> rfl) (run_equal_pointer_nil w t _ (hptr hkind.1))
   ·have hk := ‹ti.kind = TK.ptr _›
    rw [hk] at hkind
    obtain ⟨b, o, rfl, _⟩ := hx.ptr_inv
    cases hy
    exact two (fun op => by cases op <;> rfl) (fun op ho => by rcases ho with rfl | rfl <;> rfl) (run_equal_pointer_nil w t _ (hptr hkind.1))
   ·have hk := ‹ti.kind = TK.ptr _›
    rw [hk] at hkind
    split
    ·rename_i tj hT'
     refine sdc fun hg => ?_
     obtain ⟨h1, h2⟩ := beq_and hg
     have h1 := beq_yes h1
     have h2 := beq_yes h2
     subst h1 h2
     obtain ⟨b, rfl, hb⟩ := hx.ref_inv
     obtain ⟨b', rfl, hb'⟩ := hy.ref_inv
     rw [hb] at hb'
     cases hb'
     obtain ⟨j, hj, _⟩ := Option.map_eq_some_iff.1 (hE.tab _ tj hT').size?
     refine two (fun op => by cases op <;> rfl) (fun op ho => by rcases ho with rfl | rfl <;> rfl) (c := true) ?_
     exact run_equalIn_same 9999 hkind.1 hj
    ·exact trivial
   ·have hk := ‹ti.kind = TK.iface›
    rw [hk] at hkind
    obtain ⟨ms, hms⟩ := hkind.1
    cases hx
    cases hy
    refine sdc fun hl => two (fun op => ?_) (fun op ho => by rcases ho with rfl | rfl <;> rfl) (run_equal_nil_nil w t (by simp only [Program.methodsAt, hms]))
    cases op <;> first | rfl | (cases x <;> first | rfl | (cases y <;> first | rfl | cases hl))
   ·have hk := ‹ti.kind = TK.iface›
    rw [hk] at hkind
    obtain ⟨ms, hms⟩ := hkind.1
    cases hx
    cases hy
    exact two (fun op => by cases op <;> rfl) (fun op ho => by rcases ho with rfl | rfl <;> rfl) (run_equal_held_nil w t _ _ (by simp only [Program.methodsAt, hms]))
   ·exact trivial
end
end Go.AW
