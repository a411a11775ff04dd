/-
  THE ENGINE, 10: what each operation does, is what the evaluator says: memory. Over any program.
-/
import Derived.Test.YtgjcojagbgdpnaaEng9
namespace Go.AM
open Go.RowKit

theorem beq_and {a b : Bool} (h : (a && b) = true) : a = true ∧ b = true := by simpa using h
theorem cond_some {α : Type} {b : Bool} {x : Option α} {r : α} (h : (bif b then x else none) = some r) : b = true ∧ x = some r := by
  cases b <;> simp at h; exact ⟨rfl, h⟩

section
variable {P : Program} {ρ : Operand → Value} {ty : TypeId} {M : Imm} {ob : List Nat} {tk : List Tok} {obs : List AObj} {nt : Nat} {w : World}

/-- values for cells -/
theorem cellsAt {b o : Nat} (l : List AVal) (h : ∀ (i : Nat) c, l[i]? = some c → ∃ u, w.cell? ⟨b, o + i, none⟩ = some u ∧ Rep M ob tk u c) :
    ∃ vs : List Value, vs.length = l.length ∧ (∀ (j : Nat) u, vs[j]? = some u → w.cell? ⟨b, o + j, none⟩ = some u) ∧ RepsL M ob tk vs l := by
  refine ⟨(List.range l.length).map fun q => (w.cell? ⟨b, o + q, none⟩).getD undef, by simp, fun j u hu => ?_, fun i v a hv ha => ?_⟩
  · simp only [List.getElem?_map] at hu
    by_cases hj : j < l.length
    · obtain ⟨u', hu', _⟩ := h j _ (List.getElem?_eq_getElem hj)
      simp [List.getElem?_range hj, hu'] at hu
      rw [hu', hu]
    · rw [List.getElem?_eq_none (by simp; omega)] at hu
      simp at hu
  · have hj : i < l.length := (List.getElem?_eq_some_iff.1 ha).1
    obtain ⟨u', hu', hr⟩ := h i a ha
    simp only [List.getElem?_map, List.getElem?_range hj, Option.map_some, hu', Option.getD_some] at hv
    cases hv
    exact hr

theorem run_loadVar {t : Nat} {ti : TI} (hk : KindOK P t ti.agg ti.size ti.kind) (hs : (P.info? t).map (·.size) = some ti.size) {b o : Nat} {vs : List Value} (hl : vs.length = ti.size)
    (hc : ∀ (j : Nat) u, vs[j]? = some u → w.cell? ⟨b, o + j, none⟩ = some u) (u : Value) (hu : ti.agg = true → u = .agg vs.toArray) (hu' : ti.agg = false → vs = [u]) :
    (loadVar t ⟨b, o, none⟩).run P w = .ok u w := by
  obtain ⟨h1, h2⟩ := hk.isAgg
  unfold loadVar
  simp only [Sem.run_bind, run_isAgg h1, Result.andThen_ok, h2]
  cases ha : ti.agg with
  | true =>
    have hlc := run_loadCells_list (P := P) w ⟨b, o, none⟩ vs (fun j v hv => by rw [addr_add]; exact hc j v hv)
    rw [hl] at hlc
    simp only [if_true, Sem.run_bind, run_sizeOf hs, Result.andThen_ok, hlc, Sem.run_pure, hu ha]
  | false =>
    have hv := hu' ha
    have := hc 0 u (by rw [hv]; rfl)
    rw [Nat.add_zero] at this
    simp only [Bool.false_eq_true, if_false, run_load, this]

theorem mk_some {ti : TI} {l : List AVal} {a : AVal} (h : mk ti l = some a) : (ti.agg = true ∧ a = .agg l) ∨ (ti.agg = false ∧ l = [a]) := by
  unfold mk at h
  cases ha : ti.agg <;> simp only [ha, cond_true, cond_false] at h
  · split at h
    · cases h; exact .inr ⟨rfl, rfl⟩
    · cases h
  · cases h; exact .inl ⟨rfl, rfl⟩

theorem load_fin {t : Nat} {ti : TI} (hti : TIOK P t ti) {b o : Nat} {l : List AVal} {a : AVal} (hmk : mk ti l = some a) (hl : l.length = ti.size)
    (h : ∀ (i : Nat) c, l[i]? = some c → ∃ u, w.cell? ⟨b, o + i, none⟩ = some u ∧ Rep M ob tk u c) : ∃ u, (Instr.loadAt t (.pointer (some ⟨b, o, none⟩))).run P w = .ok u w ∧ Rep M ob tk u a := by
  obtain ⟨vs, hvl, hvc, hvr⟩ := cellsAt l h
  have hs : (P.info? t).map (·.size) = some ti.size := by
    obtain ⟨i, z, hi, hsz, _⟩ := hti.info
    simp [hi, hsz]
  have hgo : ∀ u, (loadVar t ⟨b, o, none⟩).run P w = .ok u w → (Instr.loadAt t (.pointer (some ⟨b, o, none⟩))).run P w = .ok u w := fun u h => by
    unfold Instr.loadAt Instr.sureAddr
    simp only [Sem.run_bind, Sem.run_pure, Result.andThen_ok, h]
  rcases mk_some hmk with ⟨ha, rfl⟩ | ⟨ha, rfl⟩
  · exact ⟨.agg vs.toArray, hgo _ (run_loadVar hti.kind hs (hvl.trans hl) hvc _ (fun _ => rfl) (fun h => by rw [ha] at h; cases h)), .agg vs l hvl hvr⟩
  · match vs, hvl with
    | [u], _ => exact ⟨u, hgo _ (run_loadVar hti.kind hs (by simpa using hl) hvc u (fun h => by rw [ha] at h; cases h) (fun _ => rfl)), hvr 0 u a rfl rfl⟩

theorem eload_sound {T : Tab} (hE' : ∀ t ti, tget T t = some ti → TIOK P t ti) (hm : Mem M ob tk obs w) {t : Nat} {v : Value} {a : AVal} (hv : Rep M ob tk v a) {o : List Ora} {r : OR} (h : eload T obs t a o = some r) (hc : All r.conds) :
    ∃ c x o', r = .val c x o' ∧ ∃ u, (Instr.loadAt t v).run P w = .ok u w ∧ Rep M ob tk u x := by
  unfold eload at h
  cases hT : tget T t with
  | none => simp [hT] at h
  | some ti =>
    have hti := hE' t ti hT
    simp only [hT] at h
    split at h
    · rename_i cs
      cases hl : ctake ti.size cs with
      | none => simp [hl] at h
      | some l =>
        simp only [hl] at h
        cases hmk : mk ti l with
        | none => simp [hmk] at h
        | some x =>
          simp only [hmk, Option.some.injEq] at h
          subst h
          obtain ⟨h1, h2⟩ := ctake_some hl
          cases hv with
          | ptr b o cs hM =>
            refine ⟨_, _, _, rfl, load_fin hti hmk h1 fun i c hi => ?_⟩
            obtain ⟨u, hu, _, hr⟩ := hm.imm b _ c (hM i c (h2 i c hi))
            exact ⟨u, hu, hr.pure⟩
    · rename_i k off
      split at h
      · rename_i cs hog
        have hk := oget_some hog (by simp)
        cases hl : ctake ti.size (cdrop off cs) with
        | none => simp [hl] at h
        | some l =>
          simp only [hl] at h
          cases hmk : mk ti l with
          | none => simp [hmk] at h
          | some x =>
            simp only [hmk, Option.some.injEq] at h
            subst h
            obtain ⟨h1, h2⟩ := ctake_some hl
            cases hv with
            | ref k off b hb =>
              obtain ⟨b', hb', _, cv, T', hh, hlen, _, hrep⟩ := hm.obj k _ hk
              rw [hb] at hb'
              cases hb'
              refine ⟨_, _, _, rfl, load_fin hti hmk h1 fun i c hi => ?_⟩
              have hci := h2 i c hi
              rw [cdrop_eq, List.getElem?_drop] at hci
              have hlt : off + i < cv.length := by rw [hlen]; exact (List.getElem?_eq_some_iff.1 hci).1
              exact ⟨cv[off + i], by rw [cell_of_row w b _ _ T' (0, 0) hh]; simp [hlt], hrep _ _ c (List.getElem?_eq_getElem hlt) hci⟩
      · cases h
    · rename_i k i sz off
      split at h
      · rename_i sz' xs x o' hog
        have hk := oget_some hog (by simp)
        obtain ⟨hsz, hq⟩ := cond_some h
        clear h
        have := beq_yes hsz
        subst this
        cases hl : ctake ti.size (cdrop off x.cells) with
        | none => simp [hl] at hq
        | some l =>
          simp only [hl] at hq
          cases hmk : mk ti l with
          | none => simp [hmk] at hq
          | some y =>
            simp only [hmk, Option.some.injEq] at hq
            subst hq
            obtain ⟨h1, h2⟩ := ctake_some hl
            have hx : xs[i]? = some x := hc.1
            cases hv with
            | eref k i sz off b hb =>
              obtain ⟨b', hb', _, cv, T', hh, hlen, _, _, hrep⟩ := hm.obj k _ hk
              rw [hb] at hb'
              cases hb'
              refine ⟨_, _, _, rfl, load_fin hti hmk h1 fun j c hj => ?_⟩
              have hcj := h2 j c hj
              rw [cdrop_eq, List.getElem?_drop] at hcj
              obtain ⟨u, hu, hr⟩ := hrep i (off + j) x c hx hcj
              exact ⟨u, by rw [cell_of_row w b _ _ T' (0, 0) hh, Nat.add_assoc]; simpa using hu, hr.pure⟩
      · cases h
    · cases h
end
end Go.AM
