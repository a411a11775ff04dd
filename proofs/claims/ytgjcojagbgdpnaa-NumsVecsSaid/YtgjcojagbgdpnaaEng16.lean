/-
  THE ENGINE, 16: what each operation does, is what the evaluator says: cuts, append, calls. Over any program.
-/
import Derived.Test.YtgjcojagbgdpnaaEng15
namespace Go.AM
open Go.RowKit

section
variable {P : Program} {T : Tab} {M : Imm} {ob : List Nat} {tk : List Tok} {obs : List AObj} {nt : Nat} {w : World}

theorem Rep.untok {v : Value} {sz : Nat} {nl : Bool} {xs : List AVal} {t : Option (Nat × TypeId)} (h : Rep M ob tk v (.slice sz nl xs t)) : Rep M ob tk v (.slice sz nl xs none) := by
  cases h with
  | tok sz nl xs v τ e h ht => exact h
  | nilslice sz => exact .nilslice sz
  | slice sz b o n cap xs hn hc hz h => exact .slice sz b o n cap xs hn hc hz h

theorem elemOf {t e : TypeId} (h : P.underlying t = some (.slice e)) : P.underlying t = some (.slice (P.elem t)) ∧ P.elem t = e := by
  have : P.elem t = e := by simp [Program.elem, h]
  exact ⟨by rw [this]; exact h, this⟩

/-- a cut of a slice -/
theorem sliced_rep {v : Value} {sz : Nat} {nl : Bool} {xs : List AVal} (h : Rep M ob tk v (.slice sz nl xs none)) : ∃ a n c, v = .slice a n c ∧ xs.length = n ∧ n ≤ c ∧ ∀ l h', l ≤ h' → h' ≤ n →
    Rep M ob tk (sliced a l h' c sz) (.slice sz nl ((xs.take h').drop l) none) ∧ (Rep M ob tk (sliced a l h' h' sz) (.slice sz nl ((xs.take h').drop l) none)) := by
  cases h with
  | nilslice sz =>
    refine ⟨none, 0, 0, rfl, rfl, Nat.le_refl _, fun l h' h1 h2 => ?_⟩
    have : h' = 0 := by omega
    subst this
    have : l = 0 := by omega
    subst this
    exact ⟨.nilslice sz, .nilslice sz⟩
  | slice sz b o n c xs hn hc hz hM =>
    refine ⟨_, n, c, rfl, hn, hc, fun l h' h1 h2 => ?_⟩
    have gen : ∀ m, h' ≤ m → Rep M ob tk (sliced (some ⟨b, o, none⟩) l h' m sz) (.slice sz false ((xs.take h').drop l) none) := by
      intro m hm
      have hlen : ((xs.take h').drop l).length = h' - l := by simp; omega
      have hzz : ∀ x ∈ (xs.take h').drop l, x.cells.length = sz := fun x hx => hz x (List.mem_of_mem_take (List.mem_of_mem_drop hx))
      have hget : ∀ (i : Nat) x, ((xs.take h').drop l)[i]? = some x → xs[l + i]? = some x := fun i x hx => by
        rw [List.getElem?_drop, List.getElem?_take] at hx
        split at hx
        · exact hx
        · cases hx
      by_cases hml : m = l
      · have e : sliced (some ⟨b, o, none⟩) l h' m sz = .slice (some ⟨b, o, none⟩) (h' - l) (m - l) := by simp [sliced, hml]
        rw [e]
        refine .slice sz b o _ _ _ hlen (by omega) hzz fun i j x c hx hc => ?_
        have : i < h' - l := by rw [← hlen]; exact (List.getElem?_eq_some_iff.1 hx).1
        omega
      · have e : sliced (some ⟨b, o, none⟩) l h' m sz = .slice (some ⟨b, o + l * sz, none⟩) (h' - l) (m - l) := by simp [sliced, hml, addr_add]
        rw [e]
        refine .slice sz b _ _ _ _ hlen (by omega) hzz fun i j x c hx hc => ?_
        have := hM _ j x c (hget i x hx) hc
        rwa [Nat.add_mul, ← Nat.add_assoc] at this
    exact ⟨gen c (by omega), gen h' (Nat.le_refl _)⟩

theorem eslice_sound (hE : ∀ t ti, tget T t = some ti → TIOK P t ti) {t : TypeId} {v : Value} {a : AVal} (hv : Rep M ob tk v a) {vlo vhi vmx : Option Value} {lo hi mx : Option AVal}
    (hlo : ∀ x, lo = some x → ∃ u, vlo = some u ∧ Rep M ob tk u x) (hlo0 : lo = none → vlo = none) (hhi : ∀ x, hi = some x → ∃ u, vhi = some u ∧ Rep M ob tk u x) (hhi0 : hi = none → vhi = none)
    (hmx : ∀ x, mx = some x → ∃ u, vmx = some u ∧ Rep M ob tk u x) (hmx0 : mx = none → vmx = none) {o : List Ora} {r : OR} (h : eslice T t a lo hi mx o = some r) (hc : All r.conds) :
    ∃ c z o', r = .val c z o' ∧ ∃ u, (Instr.sliceAt t v vlo vhi vmx).run P w = .ok u w ∧ Rep M ob tk u z := by
  have get : ∀ {l : Option AVal} {vl : Option Value} {q : Option Int}, (∀ x, l = some x → ∃ u, vl = some u ∧ Rep M ob tk u x) → (l = none → vl = none) →
      (match l with | none => some none | some (.int _ n) => some (some n) | some _ => none) = some q → (q = none ∧ vl = none) ∨ ∃ k n, q = some n ∧ vl = some (.int k n) := by
    intro l vl q h1 h2 h3
    split at h3
    · cases h3; exact .inl ⟨rfl, h2 rfl⟩
    · cases h3
      obtain ⟨u, e, hr⟩ := h1 _ rfl
      rw [hr.int_inv] at e
      exact .inr ⟨_, _, rfl, e⟩
    · cases h3
  unfold eslice at h
  dsimp only at h
  split at h
  case h_2 => cases h
  rename_i qlo qhi qmx ti glo ghi gmx hT
  have rlo := get hlo hlo0 glo
  have rhi := get hhi hhi0 ghi
  have rmx := get hmx hmx0 gmx
  have hti := hE t ti hT
  have hkind := hti.kind
  split at h
  · rename_i l
    have := hv.str_inv
    subst this
    split at h
    · rename_i hk
      rw [hk] at hkind
      rcases rmx with ⟨_, rfl⟩ | ⟨_, _, e, _⟩
      case inr => cases e
      have hu := hkind.1
      have hb : ∀ i j, (⟨l.toArray⟩ : ByteArray).extract i j = ⟨((l.take j).drop i).toArray⟩ := mk_extract l
      have hs : (⟨l.toArray⟩ : ByteArray).size = l.length := mk_size l
      split at h
      · cases h
        rcases rlo with ⟨_, rfl⟩ | ⟨_, _, e, _⟩
        case inr => cases e
        rcases rhi with ⟨_, rfl⟩ | ⟨_, _, e, _⟩
        case inr => cases e
        refine ⟨_, _, _, rfl, .string ⟨l.toArray⟩, ?_, .str _⟩
        rw [run_sliceAt_string w t _ _ _ _ hu]
        unfold Instr.slice Instr.sliceBounds
        simp only [Sem.run_bind, run_underlying hu, Result.andThen_ok, Option.isSome_none, Bool.false_eq_true, if_false, Sem.run_pure, hb, hs]
        simp
      · rename_i x
        cases h
        rcases rlo with ⟨e, _⟩ | ⟨k, n, e, rfl⟩
        case inl => cases e
        cases e
        rcases rhi with ⟨_, rfl⟩ | ⟨_, _, e, _⟩
        case inr => cases e
        obtain ⟨c0, c1, _⟩ := hc
        refine ⟨_, _, _, rfl, .string ⟨(l.drop x.toNat).toArray⟩, ?_, .str _⟩
        rw [run_sliceAt_string w t _ _ _ _ hu]
        unfold Instr.slice Instr.sliceBounds Instr.sliceBound
        simp only [Sem.run_bind, run_underlying hu, Result.andThen_ok, Option.isSome_none, Bool.false_eq_true, if_false, Sem.run_pure, hb, hs, asIntOf]
        rw [if_pos ⟨c0, by omega⟩]
        simp only [Sem.run_pure, Result.andThen_ok]
        simp
      · rename_i y
        cases h
        rcases rlo with ⟨_, rfl⟩ | ⟨_, _, e, _⟩
        case inr => cases e
        rcases rhi with ⟨e, _⟩ | ⟨k, n, e, rfl⟩
        case inl => cases e
        cases e
        obtain ⟨c0, c1, _⟩ := hc
        refine ⟨_, _, _, rfl, .string ⟨(l.take y.toNat).toArray⟩, ?_, .str _⟩
        rw [run_sliceAt_string w t _ _ _ _ hu]
        unfold Instr.slice Instr.sliceBounds Instr.sliceBound
        simp only [Sem.run_bind, run_underlying hu, Result.andThen_ok, Option.isSome_none, Bool.false_eq_true, if_false, Sem.run_pure, hb, hs, asIntOf]
        rw [if_pos ⟨c0, by omega⟩]
        simp only [Sem.run_pure, Result.andThen_ok]
        simp
      · rename_i x y
        cases h
        rcases rlo with ⟨e, _⟩ | ⟨k, n, e, rfl⟩
        case inl => cases e
        cases e
        rcases rhi with ⟨e, _⟩ | ⟨k', n', e, rfl⟩
        case inl => cases e
        cases e
        obtain ⟨c0, c1, c2, _⟩ := hc
        refine ⟨_, _, _, rfl, .string ⟨((l.take y.toNat).drop x.toNat).toArray⟩, ?_, .str _⟩
        rw [run_sliceAt_string w t _ _ _ _ hu]
        unfold Instr.slice Instr.sliceBounds Instr.sliceBound
        simp only [Sem.run_bind, run_underlying hu, Result.andThen_ok, Option.isSome_none, Bool.false_eq_true, if_false, Sem.run_pure, hb, hs, asIntOf]
        rw [if_pos ⟨by omega, by omega⟩]
        simp only [Sem.run_pure, Result.andThen_ok]
        rw [if_pos ⟨c0, by omega⟩]
        simp only [Sem.run_pure, Result.andThen_ok]
    · cases h
  · rename_i sz nl xs tt
    split at h
    · rename_i e esz eb hk
      rw [hk] at hkind
      obtain ⟨⟨hu, ie, z, hi', hs, _⟩, _⟩ := hkind
      obtain ⟨hg, h2⟩ := cond_some h
      have hsz := beq_yes hg
      subst hsz
      clear h
      obtain ⟨hu', hel⟩ := elemOf hu
      have hse : (P.info? (P.elem t)).map (·.size) = some sz := by rw [hel]; simp [hi', hs]
      obtain ⟨ad, n, cap, rfl, hn, hcap, key⟩ := sliced_rep hv.untok
      have hso := fun u : World => run_sizeOf (P := P) hse u
      split at h2
      · rcases rmx with ⟨_, rfl⟩ | ⟨_, _, e, _⟩
        case inr => cases e
        split at h2
        · cases h2
          rcases rlo with ⟨_, rfl⟩ | ⟨_, _, e, _⟩
          case inr => cases e
          rcases rhi with ⟨_, rfl⟩ | ⟨_, _, e, _⟩
          case inr => cases e
          refine ⟨_, _, _, rfl, sliced ad 0 n cap sz, ?_, ?_⟩
          · rw [run_sliceAt_slice w t _ _ _ _ hu', run_slice_all w t ad n cap hu', hso]; rfl
          · have := (key 0 n (by omega) (Nat.le_refl _)).1
            rw [← hn, List.take_length, List.drop_zero] at this
            rw [← hn]; exact this
        · rename_i x
          cases h2
          rcases rlo with ⟨e, _⟩ | ⟨k, n', e, rfl⟩
          case inl => cases e
          cases e
          rcases rhi with ⟨_, rfl⟩ | ⟨_, _, e, _⟩
          case inr => cases e
          obtain ⟨c0, c1, _⟩ := hc
          refine ⟨_, _, _, rfl, sliced ad x.toNat n cap sz, ?_, ?_⟩
          · rw [run_sliceAt_slice w t _ _ _ _ hu', run_slice_l w t ad n cap hu' k x c0 (by omega), hso]; rfl
          · have := (key x.toNat n (by omega) (Nat.le_refl _)).1
            rw [← hn, List.take_length] at this
            rw [← hn]; exact this
        · rename_i y
          cases h2
          rcases rlo with ⟨_, rfl⟩ | ⟨_, _, e, _⟩
          case inr => cases e
          rcases rhi with ⟨e, _⟩ | ⟨k, n', e, rfl⟩
          case inl => cases e
          cases e
          obtain ⟨c0, c1, _⟩ := hc
          refine ⟨_, _, _, rfl, sliced ad 0 y.toNat cap sz, ?_, ?_⟩
          · rw [run_sliceAt_slice w t _ _ _ _ hu', run_slice_h w t ad n cap hu' k y c0 (by omega), hso]; rfl
          · have := (key 0 y.toNat (by omega) (by omega)).1
            rw [List.drop_zero] at this
            exact this
        · rename_i x y
          cases h2
          rcases rlo with ⟨e, _⟩ | ⟨k, n', e, rfl⟩
          case inl => cases e
          cases e
          rcases rhi with ⟨e, _⟩ | ⟨k', n'', e, rfl⟩
          case inl => cases e
          cases e
          obtain ⟨c0, c1, c2, _⟩ := hc
          refine ⟨_, _, _, rfl, sliced ad x.toNat y.toNat cap sz, ?_, ?_⟩
          · rw [run_sliceAt_slice w t _ _ _ _ hu', run_slice_lh w t ad n cap hu' k k' x y c0 c1 (by omega), hso]; rfl
          · exact (key x.toNat y.toNat (by omega) (by omega)).1
      · rename_i m
        rcases rmx with ⟨e, _⟩ | ⟨km, nm, e, rfl⟩
        case inl => cases e
        cases e
        split at h2
        · rename_i y
          cases h2
          rcases rlo with ⟨_, rfl⟩ | ⟨_, _, e, _⟩
          case inr => cases e
          rcases rhi with ⟨e, _⟩ | ⟨k, n', e, rfl⟩
          case inl => cases e
          cases e
          obtain ⟨c0, c1, c2, _⟩ := hc
          subst c2
          have hk2 := (key 0 m.toNat (by omega) (by omega)).2
          rw [List.drop_zero] at hk2
          refine ⟨_, _, _, rfl, sliced ad 0 m.toNat m.toNat sz, ?_, ?_⟩
          · rw [run_sliceAt_slice w t _ _ _ _ hu', run_slice_hm w t ad n cap hu' k km m m c0 (Int.le_refl _) (by omega), hso]; rfl
          · unfold sliced at hk2 ⊢
            simp only [Nat.sub_zero] at hk2 ⊢
            exact .full sz nl _ _ m.toNat hk2
        · cases h2
    · cases h
  · rename_i k off
    split at h
    · rename_i len esz ea hk
      rw [hk] at hkind
      obtain ⟨⟨e, hu, hse, _⟩, _⟩ := hkind
      cases h
      rcases rmx with ⟨_, rfl⟩ | ⟨_, _, e, _⟩
      case inr => cases e
      rcases rlo with ⟨_, rfl⟩ | ⟨_, _, e, _⟩
      case inr => cases e
      rcases rhi with ⟨_, rfl⟩ | ⟨_, _, e, _⟩
      case inr => cases e
      cases hv with
      | ref _ _ b hb =>
        refine ⟨_, _, _, rfl, .slice (some ⟨b, off, none⟩) len len, ?_, .csl _ _ _ _ b hb⟩
        unfold Instr.sliceAt Instr.sureAddr Instr.sliceBounds
        simp only [Sem.run_bind, run_underlying hu, Result.andThen_ok, Sem.run_pure, run_sizeOf hse]
        simp [addr_add]
    · cases h
  · rename_i cs
    split at h
    · rename_i len hk
      rw [hk] at hkind
      obtain ⟨⟨e, hu, hse, _⟩, _⟩ := hkind
      rcases rmx with ⟨_, rfl⟩ | ⟨_, _, e, _⟩
      case inr => cases e
      rcases rlo with ⟨_, rfl⟩ | ⟨_, _, e, _⟩
      case inr => cases e
      rcases rhi with ⟨_, rfl⟩ | ⟨_, _, e, _⟩
      case inr => cases e
      split at h
      · rename_i l hl
        obtain ⟨hone, h2⟩ := cond_some h
        cases h2
        obtain ⟨t1, t2⟩ := ctake_some hl
        cases hv with
        | ptr b o' cs hM =>
          refine ⟨_, _, _, rfl, .slice (some ⟨b, o', none⟩) len len, ?_, .slice 1 b o' len len l t1 (Nat.le_refl _) (fun x hx => ?_) fun i j x c hx hc => ?_⟩
          · unfold Instr.sliceAt Instr.sureAddr Instr.sliceBounds
            simp only [Sem.run_bind, run_underlying hu, Result.andThen_ok, Sem.run_pure, run_sizeOf hse]
            simp [addr_add]
          · obtain ⟨i, hi⟩ := List.getElem?_of_mem hx
            rw [one_cells (oneL_mem hone i x hi)]; rfl
          · rw [one_cells (oneL_mem hone i x hx)] at hc
            cases j with
            | succ j => simp at hc
            | zero =>
              simp at hc
              subst hc
              have := hM i x (t2 i x hx)
              simpa using this
      · cases h
    · cases h
  · cases h
end
end Go.AM
