/-
  THE ENGINE, 18: what each operation does, is what the evaluator says: calls. Over any program.
-/
import Derived.Test.YtgjcojagbgdpnaaEng17
namespace Go.AM
open Go.RowKit

section
variable {P : Program} {M : Imm} {ob : List Nat} {tk : List Tok} {obs : List AObj} {nt : Nat} {w : World}

theorem Rep.sh0 {v : Value} {a : AVal} (hr : Rep M ob tk v a) : Rep M [] [] v (sh0 [] a) := by
  cases hr with
  | ref k off b hb => exact .undef _
  | rsl k lo len cap sz b hb => exact .undef _
  | csl k off len sz b hb => exact .undef _
  | tok sz nl xs v σ e h1 hτ => exact (Rep.tok sz nl xs v σ e h1 hτ).pure0
  | full sz nl xs a n h1 => exact (Rep.full sz nl xs a n h1).pure0
  | ptr b o cs h1 => exact .ptr b o cs h1
  | nilslice sz => exact .nilslice sz
  | slice sz b o n cap xs hn hc hz h1 => exact .slice sz b o n cap xs hn hc hz h1
  | _ => constructor
theorem Rep.sh1 {v : Value} {a : AVal} (hr : Rep M ob tk v a) : Rep M [] [] v (sh1 [] a) := by
  by_cases hf : ∃ fn fs cs, a = .func fn fs cs
  · obtain ⟨fn, fs, cs, rfl⟩ := hf
    cases hr with
    | func fn fs cs fa ca hf hc h1 h2 =>
      have e1 := mapL' (f := AM.sh0 []) (g := sh0L []) rfl (fun _ _ => rfl) (fun v a hr => hr.sh0) _ fs h1
      have e2 := mapL' (f := AM.sh0 []) (g := sh0L []) rfl (fun _ _ => rfl) (fun v a hr => hr.sh0) _ cs h2
      exact .func fn fs cs _ _ (hf.trans e1.2.symm) (hc.trans e2.2.symm) e1.1 e2.1
  · by_cases ha : ∃ as, a = .agg as
    · obtain ⟨as, rfl⟩ := ha
      cases hr with
      | agg vs as hl h1 =>
        have e1 := mapL' (f := AM.sh0 []) (g := sh0L []) rfl (fun _ _ => rfl) (fun v a hr => hr.sh0) as vs h1
        exact .agg vs _ (hl.trans e1.2.symm) e1.1
    · have e : AM.sh1 [] a = AM.sh0 [] a := by cases a <;> first | rfl | exact absurd ⟨_, _, _, rfl⟩ hf | exact absurd ⟨_, rfl⟩ ha
      rw [e]
      exact hr.sh0
theorem Rep.sh {v : Value} {a : AVal} (hr : Rep M ob tk v a) : Rep M [] [] v (sh [] a) := by
  by_cases hf : ∃ fn fs cs, a = .func fn fs cs
  · obtain ⟨fn, fs, cs, rfl⟩ := hf
    cases hr with
    | func fn fs cs fa ca hf hc h1 h2 =>
      have e1 := mapL' (f := AM.sh0 []) (g := sh0L []) rfl (fun _ _ => rfl) (fun v a hr => hr.sh0) _ fs h1
      have e2 := mapL' (f := AM.sh1 []) (g := sh1L []) rfl (fun _ _ => rfl) (fun v a hr => hr.sh1) _ cs h2
      exact .func fn fs cs _ _ (hf.trans e1.2.symm) (hc.trans e2.2.symm) e1.1 e2.1
  · by_cases ha : ∃ as, a = .agg as
    · obtain ⟨as, rfl⟩ := ha
      cases hr with
      | agg vs as hl h1 =>
        have e1 := mapL' (f := AM.sh1 []) (g := sh1L []) rfl (fun _ _ => rfl) (fun v a hr => hr.sh1) as vs h1
        exact .agg vs _ (hl.trans e1.2.symm) e1.1
    · by_cases hi : ∃ t x, a = .iface t x
      · obtain ⟨t, x, rfl⟩ := hi
        cases hr with
        | iface t v a hr => exact .iface t v _ hr.sh1
      · have e : AM.sh [] a = AM.sh0 [] a := by cases a <;> first | rfl | exact absurd ⟨_, _, _, rfl⟩ hf | exact absurd ⟨_, rfl⟩ ha | exact absurd ⟨_, _, rfl⟩ hi
        rw [e]
        exact hr.sh0
theorem Rep.shL {vs : List Value} {as : List AVal} (hr : RepL M ob tk vs as) : RepL M [] [] vs (shL [] as) := by
  have e1 := mapL' (f := AM.sh []) (g := AM.shL []) rfl (fun _ _ => rfl) (fun v a hr => hr.sh) as vs hr.2
  exact ⟨hr.1.trans e1.2.symm, e1.1⟩

theorem Mem.bare (h : Mem M ob tk obs w) : Mem M [] [] [] w :=
  ⟨h.imm, rfl, fun k c hc => by simp at hc, fun b hb => by simp at hb, List.nodup_nil, fun τ t ht => by simp at ht, fun τ t g ht => by simp at ht, fun τ τ' t t' g ht => by simp at ht⟩

/-- behind a pure call -/
theorem Mem.after (h : Mem M ob tk obs w) {M1 : Imm} {tk1 : List Tok} {w1 : World} (hx : Ext M [] [] w M1 [] tk1 w1) (hm : Mem M1 [] tk1 [] w1) :
    Mem M1 ob (tk ++ tk1) obs w1 ∧ Ext M ob tk w M1 ob (tk ++ tk1) w1 := by
  have hold : ∀ b, b < w.heap.size → w1.heap[b]? = w.heap[b]? := fun b hb => hx.keep b hb (by simp) (by simp)
  have hnone : ∀ b o, b < w.heap.size → M b o = none → M1 b o = none := fun b o hb ho => by
    cases hq : M1 b o with
    | none => rfl
    | some x =>
      rcases hx.new b o x hq with h1 | h1 | h1 | ⟨t, ht, _⟩
      · rw [ho] at h1; cases h1
      · omega
      · simp at h1
      · simp at ht
  have hup : ∀ (k : Nat) b, tk[k]? = some b → (tk ++ tk1)[k]? = some b := fun k b hk => by
    rw [List.getElem?_append_left (by exact (List.getElem?_eq_some_iff.1 hk).1)]; exact hk
  have part : ∀ {σ : Nat} {t}, (tk ++ tk1)[σ]? = some t → tk[σ]? = some t ∨ (tk.length ≤ σ ∧ tk1[σ - tk.length]? = some t) := fun {σ t} hh => by
    by_cases hσ : σ < tk.length
    · rw [List.getElem?_append_left hσ] at hh; exact .inl hh
    · rw [List.getElem?_append_right (by omega)] at hh; exact .inr ⟨by omega, hh⟩
  have hfresh : ∀ {t : Tok} {g : Nat}, t ∈ tk1 → t.v.ownBlock = some g → w.heap.size ≤ g := fun {t g} ht hg => by
    rcases hx.tfresh t ht g hg with h1 | ⟨t', ht', _⟩
    · exact h1
    · simp at ht'
  have hblk : ∀ {σ : Nat} {t : Tok} {g : Nat}, tk[σ]? = some t → t.v.ownBlock = some g → g < w.heap.size := fun {σ t g} ht hg => by
    obtain ⟨n0, o0, hown0, _⟩ := h.tok σ t ht
    exact (hown0.lt g hg).2
  refine ⟨⟨hm.imm, h.len, fun k c hc => ?_, fun b hb => Nat.lt_of_lt_of_le (h.lt b hb) hx.size, h.inj, fun σ t ht => ?_, fun σ t g ht hg hmem => ?_, fun σ σ' t t' g ht ht' hg hg' => ?_⟩,
    ⟨hx.imm, fun b o x hq => ?_, fun _ _ h => h, hx.os, hx.tape, hx.output, hx.size, fun b hb _ _ => hold b hb, fun _ h => .inl h, fun t ht b hb => ?_⟩⟩
  · obtain ⟨b, hb, hok⟩ := h.obj k c hc
    have hlt := h.lt b (List.mem_of_getElem? hb)
    exact ⟨b, hb, hok.mono hx.imm (fun _ _ h => h) hup (fun o ho => hnone b o hlt ho) (fun c hc => (hold b hlt).trans hc)⟩
  · rcases part ht with ht | ⟨_, ht⟩
    · exact (h.tok σ t ht).mono (fun g o hg ho => hnone g o (hblk ht hg) ho) (fun g c hg hc => (hold g (hblk ht hg)).trans hc)
    · exact hm.tok _ t ht
  · rcases part ht with ht | ⟨_, ht⟩
    · exact h.tokobj σ t g ht hg hmem
    · have := hfresh (List.mem_of_getElem? ht) hg
      have := h.lt g hmem
      omega
  · rcases part ht with h1 | ⟨e1, h1⟩ <;> rcases part ht' with h2 | ⟨e2, h2⟩
    · exact h.tokinj σ σ' t t' g h1 h2 hg hg'
    · have := hfresh (List.mem_of_getElem? h2) hg'
      have := hblk h1 hg
      omega
    · have := hfresh (List.mem_of_getElem? h1) hg
      have := hblk h2 hg'
      omega
    · have := hm.tokinj _ _ t t' g h1 h2 hg hg'
      omega
  · rcases hx.new b o x hq with h1 | h1 | h1 | ⟨t, ht, _⟩
    · exact .inl h1
    · exact .inr (.inl h1)
    · simp at h1
    · simp at ht
  · rcases List.mem_append.1 ht with ht | ht
    · exact .inr ⟨t, ht, hb⟩
    · exact .inl (hfresh ht hb)

theorem EndRep.ne {e : Ending} {r : Res} (h : EndRep M ob tk e r) : e ≠ .outgrown := fun e' => by subst e'; cases r <;> exact h

theorem EndRep.mono {M' : Imm} {ob' : List Nat} {tk' : List Tok} {e : Ending} {r : Res} (h : EndRep M ob tk e r) (hm : ∀ v a, Rep M ob tk v a → Rep M' ob' tk' v a) : EndRep M' ob' tk' e r := by
  cases e <;> cases r <;> first | exact h.elim | exact hm _ _ h | (obtain ⟨v, h1, h2⟩ := h; exact ⟨v, h1, hm _ _ h2⟩)

theorem ecall_sound (hm : Mem M ob tk obs w) (hnt : tk.length = nt) {f : FuncId} {args : List AVal} {vargs : List Value} (hr : RepL M ob tk vargs args) {o : List Ora} {r : OR}
    (h : ecall P obs nt f args o = some r) (hc : All r.conds) :
    BodyOK P f ∧ Calls P f vargs.toArray w fun e w' => (∃ M' ob' tk', OpOK M ob tk obs nt w r e w' M' ob' tk') ∧ e ≠ .outgrown := by
  unfold ecall at h
  split at h
  · obtain ⟨htl, h2⟩ := cond_some h
    simp only [cellsK_eq] at h2
    cases h2
    obtain ⟨hb, hcall⟩ := hc.1
    refine ⟨hb, (hcall M [] [] w vargs hm.bare rfl (Rep.shL hr)).mono fun e w' ⟨M', ob', tk', hx, hm', hl', hres⟩ => ⟨?_, hres.ne⟩⟩
    have hob : ob' = [] := List.eq_nil_of_length_eq_zero (by simpa using hm'.len)
    have htk : tk' = [] := List.eq_nil_of_length_eq_zero hl'
    subst hob htk
    obtain ⟨a1, a2⟩ := hm.after hx hm'
    rw [List.append_nil] at a1 a2
    exact ⟨M', ob, tk, a2, a1, hnt, fun _ _ h => h, hres.mono fun _ _ h => h.pure⟩
  · obtain ⟨htl, h2⟩ := cond_some h
    simp only [cellsK_eq] at h2
    cases h2
    obtain ⟨hb, hcall⟩ := hc.1
    refine ⟨hb, (hcall (Shown M ob obs) [] [] w vargs hm.shown rfl (hm.shL hr)).mono fun e w' ⟨M', ob', tk', hx, hm', hl', hres⟩ => ⟨?_, hres.ne⟩⟩
    have hold : ∀ b, b < w.heap.size → w'.heap[b]? = w.heap[b]? := fun b hb => hx.keep b hb (by simp) (by simp)
    refine ⟨M, ob, tk, ⟨fun _ _ _ h => h, fun _ _ _ h => .inl h, fun _ _ h => h, hx.os, hx.tape, hx.output, hx.size, fun b hb _ _ => hold b hb, fun _ h => .inl h, fun t ht b hb => .inr ⟨t, ht, hb⟩⟩, hm.same hx.size hold, hnt, fun _ _ h => h, ?_⟩
    cases e with
    | returned v => exact (Rep.plain (M' := M) hres htl).pure
    | panicked ch => exact hres.elim
    | outgrown => exact hres.elim
  · obtain ⟨htl, h2⟩ := cond_some h
    simp only [cellsK_eq] at h2
    cases h2
    obtain ⟨hb, hcall⟩ := hc.1
    refine ⟨hb, (hcall M [] [] w vargs hm.bare rfl (Rep.shL hr)).mono fun e w' ⟨M', ob', tk', hx, hm', hl', hres⟩ => ⟨?_, hres.ne⟩⟩
    have hob : ob' = [] := List.eq_nil_of_length_eq_zero (by simpa using hm'.len)
    subst hob
    obtain ⟨a1, a2⟩ := hm.after hx hm'
    refine ⟨M', ob, tk ++ tk', a2, a1, by simp [OR.nt, hnt, hl'], fun k b hk => ?_, ?_⟩
    · rw [List.getElem?_append_left (by exact (List.getElem?_eq_some_iff.1 hk).1)]; exact hk
    · cases e with
      | returned v =>
        have := Rep.shift (ob' := ob) (tk0 := tk) (show Rep M' [] tk' v _ from hres) htl
        rw [hnt] at this
        exact this
      | panicked ch => exact hres.elim
      | outgrown => exact hres.elim
  · obtain ⟨htl, h2⟩ := cond_some h
    simp only [cellsK_eq] at h2
    cases h2
    obtain ⟨hb, hcall⟩ := hc.1
    refine ⟨hb, (hcall M [] [] w vargs hm.bare rfl (Rep.shL hr)).mono fun e w' ⟨M', ob', tk', hx, hm', hl', hres⟩ => ⟨?_, hres.ne⟩⟩
    have hob : ob' = [] := List.eq_nil_of_length_eq_zero (by simpa using hm'.len)
    have htk : tk' = [] := List.eq_nil_of_length_eq_zero hl'
    subst hob htk
    obtain ⟨a1, a2⟩ := hm.after hx hm'
    rw [List.append_nil] at a1 a2
    exact ⟨M', ob, tk, a2, a1, hnt, fun _ _ h => h, hres.mono fun _ _ h => h.pure⟩
  · cases h
end
end Go.AM
