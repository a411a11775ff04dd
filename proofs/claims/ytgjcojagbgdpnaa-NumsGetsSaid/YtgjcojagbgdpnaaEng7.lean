/-
  THE ENGINE, 7: what becomes of tokens and objects where values are handed on. Over any program.
-/
import Derived.Test.YtgjcojagbgdpnaaEng6
namespace Go.AM
open Go.RowKit

section
variable {M : Imm} {ob : List Nat} {tk : List Tok}

theorem Rep.plain0 {v : Value} {a : AVal} (h : Rep M ob tk v a) (ha : plain0 a = true) : Rep M [] [] v a := by
  cases h <;> first | (simp [AM.plain0] at ha; done) | constructor
theorem Rep.tokless0 {v : Value} {a : AVal} (h : Rep M ob tk v a) (ha : tokless0 a = true) : Rep M [] [] v a := by
  cases h with
  | ptr b o cs h => exact .ptr b o cs h
  | nilslice sz => exact .nilslice sz
  | slice sz b o n cap xs hn hc hz h => exact .slice sz b o n cap xs hn hc hz h
  | _ => first | (simp [AM.tokless0, AM.plain0] at ha; done) | constructor

/-- lists of values -/
def RepsL (M : Imm) (ob : List Nat) (tk : List Tok) (vs : List Value) (as : List AVal) : Prop := ∀ (i : Nat) v a, vs[i]? = some v → as[i]? = some a → Rep M ob tk v a

theorem mapL {M' : Imm} {ob' : List Nat} {tk' : List Tok} {f : AVal → AVal} {g : List AVal → List AVal} (hg0 : g [] = []) (hg : ∀ c r, g (c :: r) = f c :: g r)
    {good : AVal → Bool} {goodL : List AVal → Bool} (hgood : ∀ c r, goodL (c :: r) = true → good c = true ∧ goodL r = true)
    (hf : ∀ v a, Rep M ob tk v a → good a = true → Rep M' ob' tk' v (f a)) :
    ∀ (as : List AVal) (vs : List Value), goodL as = true → RepsL M ob tk vs as → RepsL M' ob' tk' vs (g as) ∧ (g as).length = as.length := by
  intro as
  induction as with
  | nil => intro vs _ _; rw [hg0]; exact ⟨fun i v a hv ha => by simp at ha, rfl⟩
  | cons c r ih =>
    intro vs hgd h
    obtain ⟨g1, g2⟩ := hgood c r hgd
    rw [hg]
    have h' : RepsL M ob tk vs.tail r := fun i v a hv ha => h (i + 1) v a (by simpa using hv) (by simpa using ha)
    obtain ⟨i1, i2⟩ := ih vs.tail g2 h'
    refine ⟨fun i v a hv ha => ?_, by simp [i2]⟩
    cases i with
    | zero => simp at ha; subst ha; exact hf v c (h 0 v c hv (by simp)) g1
    | succ i => exact i1 i v a (by simpa using hv) (by simpa using ha)

theorem idL {good : AVal → Bool} {goodL : List AVal → Bool} (hgood : ∀ c r, goodL (c :: r) = true → good c = true ∧ goodL r = true) {M' : Imm} {ob' : List Nat} {tk' : List Tok}
    (hf : ∀ v a, Rep M ob tk v a → good a = true → Rep M' ob' tk' v a) (as : List AVal) (vs : List Value) (hg : goodL as = true) (h : RepsL M ob tk vs as) : RepsL M' ob' tk' vs as :=
  (mapL (f := id) (g := id) rfl (fun _ _ => rfl) hgood hf as vs hg h).1

theorem andL {p : AVal → Bool} {q : List AVal → Bool} (hq : ∀ c r, q (c :: r) = (p c && q r)) : ∀ c r, q (c :: r) = true → p c = true ∧ q r = true := fun c r h => by
  rw [hq] at h; simpa using h

theorem Rep.tokless1 {v : Value} {a : AVal} (h : Rep M ob tk v a) (ha : tokless1 a = true) : Rep M [] [] v a := by
  cases h with
  | agg vs as hl h => exact .agg vs as hl (idL (andL fun _ _ => rfl) (fun _ _ h g => h.tokless0 g) as vs ha h)
  | ptr b o cs h => exact .ptr b o cs h
  | nilslice sz => exact .nilslice sz
  | slice sz b o n cap xs hn hc hz h => exact .slice sz b o n cap xs hn hc hz h
  | _ => first | (simp [AM.tokless1, AM.tokless0, AM.plain0] at ha; done) | constructor
theorem Rep.tokless {v : Value} {a : AVal} (h : Rep M ob tk v a) (ha : tokless a = true) : Rep M [] [] v a := by
  cases h with
  | agg vs as hl h => exact .agg vs as hl (idL (andL fun _ _ => rfl) (fun _ _ h g => h.tokless0 g) as vs ha h)
  | tup vs as hl h => exact .tup vs as hl (idL (andL fun _ _ => rfl) (fun _ _ h g => h.tokless1 g) as vs ha h)
  | iface t v a h => exact .iface t v a (h.tokless1 ha)
  | ptr b o cs h => exact .ptr b o cs h
  | nilslice sz => exact .nilslice sz
  | slice sz b o n cap xs hn hc hz h => exact .slice sz b o n cap xs hn hc hz h
  | _ => first | (simp [AM.tokless, AM.tokless0, AM.plain0] at ha; done) | constructor

/-- a plain result needs no memory at all -/
theorem Rep.plain {M' : Imm} {v : Value} {a : AVal} (h : Rep M ob tk v a) (ha : plain a = true) : Rep M' [] [] v a := by
  have h0 : ∀ v a, Rep M ob tk v a → AM.plain0 a = true → Rep M' [] [] v a := fun v a h ha => by
    cases h <;> first | (simp [AM.plain0] at ha; done) | constructor
  cases h with
  | agg vs as hl h => exact .agg vs as hl (idL (andL fun _ _ => rfl) h0 as vs ha h)
  | tup vs as hl h => exact .tup vs as hl (idL (andL fun _ _ => rfl) h0 as vs ha h)
  | iface t v a h =>
    refine .iface t v a ?_
    cases h with
    | agg vs as hl h => exact .agg vs as hl (idL (andL fun _ _ => rfl) h0 as vs (by simpa [AM.plain] using ha) h)
    | _ => exact h0 _ _ (by constructor <;> assumption) (by simpa [AM.plain] using ha)
  | _ => first | (simp [AM.plain, AM.plain0] at ha; done) | constructor

/- ---------- tokens numbered anew ---------- -/
theorem Rep.shift0 {ob' : List Nat} {tk0 : List Tok} {v : Value} {a : AVal} (h : Rep M [] tk v a) (ha : refless0 a = true) : Rep M ob' (tk0 ++ tk) v (shift0 tk0.length a) := by
  have ht : ∀ (τ : Nat) t, tk[τ]? = some t → (tk0 ++ tk)[tk0.length + τ]? = some t := fun τ t h => by
    rw [List.getElem?_append_right (by omega)]; simpa using h
  cases h with
  | tok sz nl xs v τ e h hτ => exact .tok sz nl xs v _ e ((Rep.tokless0 h rfl).pure) (ht τ _ hτ)
  | ptr b o cs h => exact .ptr b o cs h
  | nilslice sz => exact .nilslice sz
  | slice sz b o n cap xs hn hc hz h => exact .slice sz b o n cap xs hn hc hz h
  | _ => first | (simp [AM.refless0, AM.tokless0, AM.plain0] at ha; done) | constructor
theorem Rep.shift1 {ob' : List Nat} {tk0 : List Tok} {v : Value} {a : AVal} (h : Rep M [] tk v a) (ha : refless1 a = true) : Rep M ob' (tk0 ++ tk) v (shift1 tk0.length a) := by
  cases h with
  | agg vs as hl h =>
    have := mapL (M := M) (ob := []) (tk := tk) (M' := M) (ob' := ob') (tk' := tk0 ++ tk) (f := AM.shift0 tk0.length) (g := shift0L tk0.length) (good := AM.refless0) (goodL := refless0L) rfl (fun _ _ => rfl) (andL fun _ _ => rfl) (fun v a h g => h.shift0 g) as vs ha h
    exact .agg vs _ (hl.trans this.2.symm) this.1
  | tok sz nl xs v τ e h hτ => exact Rep.shift0 (.tok sz nl xs v τ e h hτ) ha
  | ptr b o cs h => exact .ptr b o cs h
  | nilslice sz => exact .nilslice sz
  | slice sz b o n cap xs hn hc hz h => exact .slice sz b o n cap xs hn hc hz h
  | _ => first | (simp [AM.refless1, AM.refless0, AM.tokless0, AM.plain0] at ha; done) | constructor
theorem Rep.shift {ob' : List Nat} {tk0 : List Tok} {v : Value} {a : AVal} (h : Rep M [] tk v a) (ha : refless a = true) : Rep M ob' (tk0 ++ tk) v (shift tk0.length a) := by
  cases h with
  | agg vs as hl h =>
    have := mapL (M := M) (ob := []) (tk := tk) (M' := M) (ob' := ob') (tk' := tk0 ++ tk) (f := AM.shift0 tk0.length) (g := shift0L tk0.length) (good := AM.refless0) (goodL := refless0L) rfl (fun _ _ => rfl) (andL fun _ _ => rfl) (fun v a h g => h.shift0 g) as vs ha h
    exact .agg vs _ (hl.trans this.2.symm) this.1
  | tup vs as hl h =>
    have := mapL (M := M) (ob := []) (tk := tk) (M' := M) (ob' := ob') (tk' := tk0 ++ tk) (f := AM.shift1 tk0.length) (g := shift1L tk0.length) (good := AM.refless1) (goodL := refless1L) rfl (fun _ _ => rfl) (andL fun _ _ => rfl) (fun v a h g => h.shift1 g) as vs ha h
    exact .tup vs _ (hl.trans this.2.symm) this.1
  | tok sz nl xs v τ e h hτ => exact Rep.shift0 (.tok sz nl xs v τ e h hτ) ha
  | ptr b o cs h => exact .ptr b o cs h
  | nilslice sz => exact .nilslice sz
  | slice sz b o n cap xs hn hc hz h => exact .slice sz b o n cap xs hn hc hz h
  | _ => first | (simp [AM.refless, AM.refless0, AM.tokless0, AM.plain0] at ha; done) | constructor

/- ---------- a token is used up ---------- -/
/-- memory behind the use of token τ -/
structure But (M : Imm) (ob : List Nat) (tk : List Tok) (τ : Nat) (M' : Imm) (ob' : List Nat) (tk' : List Tok) : Prop where
  imm : ∀ b o x, M b o = some x → M' b o = some x
  obj : ∀ (k b : Nat), ob[k]? = some b → ob'[k]? = some b
  tok : ∀ (σ : Nat) t, σ ≠ τ → tk[σ]? = some t → tk'[σ]? = some t

theorem mapL' {M' : Imm} {ob' : List Nat} {tk' : List Tok} {f : AVal → AVal} {g : List AVal → List AVal} (hg0 : g [] = []) (hg : ∀ c r, g (c :: r) = f c :: g r)
    (hf : ∀ v a, Rep M ob tk v a → Rep M' ob' tk' v (f a)) (as : List AVal) (vs : List Value) (h : RepsL M ob tk vs as) : RepsL M' ob' tk' vs (g as) ∧ (g as).length = as.length :=
  mapL (good := fun _ => true) (goodL := fun _ => true) hg0 hg (fun _ _ _ => ⟨rfl, rfl⟩) (fun v a h _ => hf v a h) as vs rfl h

theorem Rep.unt0 {τ : Nat} {M' : Imm} {ob' : List Nat} {tk' : List Tok} (hb : But M ob tk τ M' ob' tk') {v : Value} {a : AVal} (h : Rep M ob tk v a) : Rep M' ob' tk' v (unt0 τ a) := by
  cases h with
  | tok sz nl xs v σ e h hτ =>
    have h' : Rep M' ob' tk' v (.slice sz nl xs none) := ((Rep.tokless0 h rfl).mono hb.imm (fun _ _ h => h) (fun _ _ h => h)).pure
    simp only [AM.unt0]
    cases hs : Nat.beq σ τ with
    | true => exact h'
    | false => exact .tok sz nl xs v σ e h' (hb.tok σ _ (fun e => by subst e; simp at hs) hτ)
  | agg vs as hl h => exact .undef _
  | tup vs as hl h => exact .undef _
  | func fn fs cs fa ca hf hc h1 h2 => exact .undef _
  | iface t v a h => exact .undef _
  | ref k off b h => exact .ref k off b (hb.obj _ _ h)
  | eref k i sz off b h => exact .eref k i sz off b (hb.obj _ _ h)
  | rsl k lo len cap sz b h => exact .rsl k lo len cap sz b (hb.obj _ _ h)
  | csl k off len sz b h => exact .csl k off len sz b (hb.obj _ _ h)
  | full sz nl xs a n h => exact .full sz nl xs a n (((Rep.tokless0 h rfl).mono hb.imm (fun _ _ h => h) (fun _ _ h => h)).pure)
  | ptr b o cs h => exact .ptr b o cs fun j c hc => hb.imm _ _ _ (h j c hc)
  | nilslice sz => exact .nilslice sz
  | slice sz b o n cap xs hn hc hz h => exact .slice sz b o n cap xs hn hc hz fun i j x c hx hj => hb.imm _ _ _ (h i j x c hx hj)
  | _ => constructor
theorem Rep.unt1 {τ : Nat} {M' : Imm} {ob' : List Nat} {tk' : List Tok} (hb : But M ob tk τ M' ob' tk') {v : Value} {a : AVal} (h : Rep M ob tk v a) : Rep M' ob' tk' v (unt1 τ a) := by
  by_cases ha : ∃ as, a = .agg as
  · obtain ⟨as, rfl⟩ := ha
    cases h with
    | agg vs as hl h =>
      have := mapL' (f := AM.unt0 τ) (g := unt0L τ) rfl (fun _ _ => rfl) (fun v a h => h.unt0 hb) as vs h
      exact .agg vs _ (hl.trans this.2.symm) this.1
  · have e : AM.unt1 τ a = AM.unt0 τ a := by cases a <;> first | rfl | exact absurd ⟨_, rfl⟩ ha
    rw [e]
    exact h.unt0 hb
theorem Rep.plainOrRef {M' : Imm} {ob' : List Nat} {tk' : List Tok} (hM : ∀ b o x, M b o = some x → M' b o = some x) (ho : ∀ (k b : Nat), ob[k]? = some b → ob'[k]? = some b)
    {v : Value} {a : AVal} (h : Rep M ob tk v a) (ha : untS.plainOrRef a = true) : Rep M' ob' tk' v a := by
  by_cases hr : ∃ k o, a = .ref k o
  · obtain ⟨k, o, rfl⟩ := hr
    cases h with
    | ref _ _ b h => exact .ref _ _ b (ho _ _ h)
  · have : AM.tokless0 a = true := by cases a <;> first | exact ha | exact absurd ⟨_, _, rfl⟩ hr
    exact ((h.tokless0 this).mono hM (fun _ _ h => h) (fun _ _ h => h)).pure
theorem Rep.untS {τ : Nat} {M' : Imm} {ob' : List Nat} {tk' : List Tok} (hb : But M ob tk τ M' ob' tk') {v : Value} {a : AVal} (h : Rep M ob tk v a) : Rep M' ob' tk' v (untS τ a) := by
  cases h with
  | agg vs as hl h =>
    have := mapL' (f := AM.unt0 τ) (g := unt0L τ) rfl (fun _ _ => rfl) (fun v a h => h.unt0 hb) as vs h
    exact .agg vs _ (hl.trans this.2.symm) this.1
  | tup vs as hl h =>
    have := mapL' (f := AM.unt1 τ) (g := unt1L τ) rfl (fun _ _ => rfl) (fun v a h => h.unt1 hb) as vs h
    exact .tup vs _ (hl.trans this.2.symm) this.1
  | func fn fs cs fa ca hf hc h1 h2 =>
    simp only [AM.untS]
    cases hp : untS.plainOrRefL fa && untS.plainOrRefL ca with
    | false => exact .undef _
    | true =>
      simp only [Bool.and_eq_true] at hp
      exact .func fn fs cs fa ca hf hc (idL (andL fun _ _ => rfl) (fun v a h g => h.plainOrRef hb.imm hb.obj g) fa fs hp.1 h1) (idL (andL fun _ _ => rfl) (fun v a h g => h.plainOrRef hb.imm hb.obj g) ca cs hp.2 h2)
  | iface t v a h =>
    simp only [AM.untS]
    cases hp : AM.tokless1 a with
    | false => exact .undef _
    | true => exact .iface t v a (((h.tokless1 hp).mono hb.imm (fun _ _ h => h) (fun _ _ h => h)).pure)
  | tok sz nl xs v σ e h hτ => exact Rep.unt0 hb (.tok sz nl xs v σ e h hτ)
  | undef v => exact .undef v
  | bool b => exact .bool b
  | int k n => exact .int k n
  | str l => exact .str l
  | ref k off b h => exact Rep.unt0 hb (.ref k off b h)
  | eref k i sz off b h => exact Rep.unt0 hb (.eref k i sz off b h)
  | rsl k lo len cap sz b h => exact Rep.unt0 hb (.rsl k lo len cap sz b h)
  | csl k off len sz b h => exact Rep.unt0 hb (.csl k off len sz b h)
  | full sz nl xs a n h => exact Rep.unt0 hb (.full sz nl xs a n h)
  | ptr b o cs h => exact Rep.unt0 hb (.ptr b o cs h)
  | nilptr => exact .nilptr
  | nilslice sz => exact .nilslice sz
  | slice sz b o n cap xs hn hc hz h => exact Rep.unt0 hb (.slice sz b o n cap xs hn hc hz h)
  | nilfunc => exact .nilfunc
  | nilif => exact .nilif
end

/- ---------- what a call is shown ---------- -/
/-- our objects' cells as if they were immutable -/
def Shown (M : Imm) (ob : List Nat) (obs : List AObj) : Imm := fun b o =>
  match M b o with
  | some x => some x
  | none => match ob.idxOf? b with
    | none => none
    | some k => match obs[k]? with
      | some (.cells cs) => (cs[o]?).map pure0
      | some (.row sz xs) => cellAt sz xs o
      | _ => none

theorem idxOf_nodup {l : List Nat} (h : l.Nodup) : ∀ {k b : Nat}, l[k]? = some b → l.idxOf? b = some k := by
  induction l with
  | nil => intro k b hk; simp at hk
  | cons x r ih =>
    intro k b hk
    rw [List.nodup_cons] at h
    rw [List.idxOf?_cons]
    cases k with
    | zero => simp at hk; subst hk; simp
    | succ k =>
      simp at hk
      have hne : x ≠ b := fun e => by subst e; exact h.1 (List.mem_of_getElem? hk)
      simp [hne, ih h.2 hk]

theorem pure0L_get (cs : List AVal) : ∀ (j : Nat), (pure0L cs)[j]? = (cs[j]?).map pure0 := by
  induction cs with
  | nil => intro j; simp [pure0L]
  | cons c r ih => intro j; cases j with
    | zero => rfl
    | succ j => simpa [pure0L] using ih j

section
variable {M : Imm} {ob : List Nat} {tk : List Tok} {obs : List AObj} {w : World}

theorem shown_ge (b o : Nat) (x : AVal) (h : M b o = some x) : Shown M ob obs b o = some x := by simp [Shown, h]

theorem Mem.shown_cells (h : Mem M ob tk obs w) {k b o : Nat} {cs : List AVal} {c : AVal} (hk : obs[k]? = some (.cells cs)) (hb : ob[k]? = some b) (hc : cs[o]? = some c) : Shown M ob obs b o = some (pure0 c) := by
  obtain ⟨b', hb', hM, _⟩ := h.obj k _ hk
  rw [hb] at hb'
  cases hb'
  simp [Shown, hM o, idxOf_nodup h.inj hb, hk, hc]

theorem Mem.shown_row (h : Mem M ob tk obs w) {k b o : Nat} {sz : Nat} {xs : List AVal} {c : AVal} (hk : obs[k]? = some (.row sz xs)) (hb : ob[k]? = some b) (hc : cellAt sz xs o = some c) : Shown M ob obs b o = some c := by
  obtain ⟨b', hb', hM, _⟩ := h.obj k _ hk
  rw [hb] at hb'
  cases hb'
  simp [Shown, hM o, idxOf_nodup h.inj hb, hk, hc]

theorem Rep.pure0 {v : Value} {a : AVal} (h : Rep M ob tk v a) : Rep M [] [] v (pure0 a) := by
  cases h with
  | tok sz nl xs v σ e h hτ => exact Rep.tokless0 h rfl
  | full sz nl xs a n h => exact Rep.tokless0 h rfl
  | ptr b o cs h => exact .ptr b o cs h
  | nilslice sz => exact .nilslice sz
  | slice sz b o n cap xs hn hc hz h => exact .slice sz b o n cap xs hn hc hz h
  | _ => constructor

theorem Mem.shown (h : Mem M ob tk obs w) : Mem (Shown M ob obs) [] [] [] w := by
  refine ⟨fun b o x hx => ?_, rfl, fun k c hc => by simp at hc, fun b hb => by simp at hb, List.nodup_nil, fun τ t ht => by simp at ht, fun τ t g ht => by simp at ht, fun τ τ' t t' g ht => by simp at ht⟩
  have hup : ∀ {v a}, Rep M [] [] v a → Rep (Shown M ob obs) [] [] v a := fun hr => hr.mono shown_ge (fun _ _ h => h) (fun _ _ h => h)
  cases hM : M b o with
  | some y =>
    rw [shown_ge b o y hM] at hx
    cases hx
    obtain ⟨v, hv, h1, hr⟩ := h.imm b o _ hM
    exact ⟨v, hv, h1, hup hr⟩
  | none =>
    simp only [Shown, hM] at hx
    cases hi : ob.idxOf? b with
    | none => simp [hi] at hx
    | some k =>
      have hk : ob[k]? = some b := by
        rw [List.idxOf?, List.findIdx?_eq_some_iff_getElem] at hi
        obtain ⟨hl, hp, _⟩ := hi
        rw [List.getElem?_eq_getElem hl]
        simpa using hp
      simp only [hi] at hx
      cases hok : obs[k]? with
      | none => simp [hok] at hx
      | some y =>
        obtain ⟨b', hb', hobj⟩ := h.obj k y hok
        rw [hk] at hb'
        cases hb'
        simp only [hok] at hx
        cases y with
        | dead => simp at hx
        | cells cs =>
          obtain ⟨_, cv, T, hh, hl, h1, hr⟩ := hobj
          obtain ⟨c, hc, rfl⟩ := Option.map_eq_some_iff.1 hx
          have hlt : o < cv.length := by rw [hl]; exact (List.getElem?_eq_some_iff.1 hc).1
          refine ⟨cv[o], ?_, h1 _ (List.getElem_mem hlt), hup (Rep.pure0 (hr o _ c (List.getElem?_eq_getElem hlt) hc))⟩
          rw [cell_of_row w b o _ T (0, 0) hh]
          simp [hlt]
        | row sz xs =>
          obtain ⟨_, cv, T, hh, hl, h1, hz, hr⟩ := hobj
          obtain ⟨y, hy, hc⟩ := cellAt_inv hx
          obtain ⟨v, hv, hrep⟩ := hr _ _ y x hy hc
          have he : o / sz * sz + o % sz = o := by rw [Nat.mul_comm]; exact Nat.div_add_mod o sz
          rw [he] at hv
          refine ⟨v, ?_, h1 _ (List.mem_of_getElem? hv), hup hrep⟩
          rw [cell_of_row w b o _ T (0, 0) hh]
          simpa using hv

theorem Mem.sh0 (h : Mem M ob tk obs w) {v : Value} {a : AVal} (hr : Rep M ob tk v a) : Rep (Shown M ob obs) [] [] v (sh0 obs a) := by
  have hp : ∀ {a}, Rep M ob tk v a → Rep (Shown M ob obs) [] [] v (pure0 a) := fun hr => hr.pure0.mono shown_ge (fun _ _ h => h) (fun _ _ h => h)
  cases hr with
  | ref k off b hb =>
    simp only [AM.sh0]
    cases ho : oget obs k with
    | cells cs =>
      have hk := oget_some ho (by simp)
      refine .ptr b off _ fun j c hc => ?_
      rw [pure0L_get, cdrop_eq] at hc
      obtain ⟨d, hd, rfl⟩ := Option.map_eq_some_iff.1 hc
      exact h.shown_cells hk hb (by simpa [List.getElem?_drop] using hd)
    | dead => exact .undef _
    | row sz xs => exact .undef _
  | rsl k lo len cap sz b hb => exact .undef _
  | csl k off len sz b hb =>
    simp only [AM.sh0]
    cases ho : oget obs k with
    | cells cs =>
      have hk := oget_some ho (by simp)
      dsimp only
      cases hs : Nat.beq sz 1 with
      | false => exact .undef _
      | true =>
        have := beq_yes hs
        subst this
        simp only [cond_true]
        cases ht : ctake len (cdrop off cs) with
        | none => exact .undef _
        | some l =>
          obtain ⟨hl, hg⟩ := ctake_some ht
          have hlen : (pure0L l).length = len := by
            have : ∀ l, (pure0L l).length = l.length := fun l => by induction l with
              | nil => rfl
              | cons c r ih => simp [pure0L, ih]
            rw [this, hl]
          have hone : ∀ x ∈ pure0L l, x.cells = [x] := fun x hx => by
            obtain ⟨j, hj⟩ := List.getElem?_of_mem hx
            rw [pure0L_get] at hj
            obtain ⟨d, _, rfl⟩ := Option.map_eq_some_iff.1 hj
            cases d <;> rfl
          refine .slice 1 b off len len _ hlen (Nat.le_refl _) (fun x hx => by rw [hone x hx]; rfl) fun i j x c hx hc => ?_
          rw [hone x (List.mem_of_getElem? hx)] at hc
          cases j with
          | succ j => simp at hc
          | zero =>
            simp at hc
            subst hc
            rw [pure0L_get] at hx
            obtain ⟨d, hd, rfl⟩ := Option.map_eq_some_iff.1 hx
            have := hg i d hd
            rw [cdrop_eq, List.getElem?_drop] at this
            simpa using h.shown_cells hk hb this
    | dead => exact .undef _
    | row sz xs => exact .undef _
  | tok sz nl xs v σ e h1 hτ => exact hp (.tok sz nl xs v σ e h1 hτ)
  | full sz nl xs a n h1 => exact hp (.full sz nl xs a n h1)
  | ptr b o cs h1 => exact hp (.ptr b o cs h1)
  | nilslice sz => exact .nilslice sz
  | slice sz b o n cap xs hn hc hz h1 => exact hp (.slice sz b o n cap xs hn hc hz h1)
  | _ => constructor

theorem Mem.sh1 (h : Mem M ob tk obs w) {v : Value} {a : AVal} (hr : Rep M ob tk v a) : Rep (Shown M ob obs) [] [] v (sh1 obs a) := by
  by_cases hf : ∃ fn fs cs, a = .func fn fs cs
  · obtain ⟨fn, fs, cs, rfl⟩ := hf
    cases hr with
    | func fn fs cs fa ca hf hc h1 h2 =>
      have e1 := mapL' (f := AM.sh0 obs) (g := sh0L obs) rfl (fun _ _ => rfl) (fun v a hr => h.sh0 hr) _ fs h1
      have e2 := mapL' (f := AM.sh0 obs) (g := sh0L obs) rfl (fun _ _ => rfl) (fun v a hr => h.sh0 hr) _ cs h2
      exact .func fn fs cs _ _ (hf.trans e1.2.symm) (hc.trans e2.2.symm) e1.1 e2.1
  · by_cases ha : ∃ as, a = .agg as
    · obtain ⟨as, rfl⟩ := ha
      cases hr with
      | agg vs as hl h1 =>
        have e1 := mapL' (f := AM.sh0 obs) (g := sh0L obs) rfl (fun _ _ => rfl) (fun v a hr => h.sh0 hr) as vs h1
        exact .agg vs _ (hl.trans e1.2.symm) e1.1
    · have e : AM.sh1 obs a = AM.sh0 obs a := by cases a <;> first | rfl | exact absurd ⟨_, _, _, rfl⟩ hf | exact absurd ⟨_, rfl⟩ ha
      rw [e]
      exact h.sh0 hr

theorem Mem.sh (h : Mem M ob tk obs w) {v : Value} {a : AVal} (hr : Rep M ob tk v a) : Rep (Shown M ob obs) [] [] v (sh obs a) := by
  by_cases hf : ∃ fn fs cs, a = .func fn fs cs
  · obtain ⟨fn, fs, cs, rfl⟩ := hf
    cases hr with
    | func fn fs cs fa ca hf hc h1 h2 =>
      have e1 := mapL' (f := AM.sh0 obs) (g := sh0L obs) rfl (fun _ _ => rfl) (fun v a hr => h.sh0 hr) _ fs h1
      have e2 := mapL' (f := AM.sh1 obs) (g := sh1L obs) rfl (fun _ _ => rfl) (fun v a hr => h.sh1 hr) _ cs h2
      exact .func fn fs cs _ _ (hf.trans e1.2.symm) (hc.trans e2.2.symm) e1.1 e2.1
  · by_cases ha : ∃ as, a = .agg as
    · obtain ⟨as, rfl⟩ := ha
      cases hr with
      | agg vs as hl h1 =>
        have e1 := mapL' (f := AM.sh1 obs) (g := sh1L obs) rfl (fun _ _ => rfl) (fun v a hr => h.sh1 hr) as vs h1
        exact .agg vs _ (hl.trans e1.2.symm) e1.1
    · by_cases hi : ∃ t x, a = .iface t x
      · obtain ⟨t, x, rfl⟩ := hi
        cases hr with
        | iface t v a hr => exact .iface t v _ (h.sh1 hr)
      · have e : AM.sh obs a = AM.sh0 obs a := by cases a <;> first | rfl | exact absurd ⟨_, _, _, rfl⟩ hf | exact absurd ⟨_, rfl⟩ ha | exact absurd ⟨_, _, rfl⟩ hi
        rw [e]
        exact h.sh0 hr

theorem Mem.shL (h : Mem M ob tk obs w) {vs : List Value} {as : List AVal} (hr : RepL M ob tk vs as) : RepL (Shown M ob obs) [] [] vs (shL obs as) := by
  have e1 := mapL' (f := AM.sh obs) (g := AM.shL obs) rfl (fun _ _ => rfl) (fun v a hr => h.sh hr) as vs hr.2
  exact ⟨hr.1.trans e1.2.symm, e1.1⟩
end
end Go.AM
