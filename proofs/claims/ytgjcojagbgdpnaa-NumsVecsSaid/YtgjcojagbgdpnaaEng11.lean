/-
  THE ENGINE, 11: what each operation does, is what the evaluator says: stores, fields, places. Over any program.
-/
import Derived.Test.YtgjcojagbgdpnaaEng10
namespace Go.AM
open Go.RowKit

section
variable {P : Program} {T : Tab} {M : Imm} {ob : List Nat} {tk : List Tok} {obs : List AObj} {nt : Nat} {w : World}

theorem FieldsOK.get {P : Program} : ∀ {flds : List Field} {fs : List (Nat × Nat × Bool)}, FieldsOK P flds fs → ∀ {i : Nat} {off sz : Nat} {ag : Bool}, nth fs i = some (off, sz, ag) →
    ∃ f, flds[i]? = some f ∧ f.offset = off ∧ (P.info? f.type).map (·.size) = some sz ∧ (P.underlying f.type).isSome = true ∧ isAggT P f.type = ag
  | [], [], _, i, _, _, _, hn => by cases i <;> cases hn
  | [], _ :: _, h, _, _, _, _, _ => h.elim
  | _ :: _, [], h, _, _, _, _, _ => h.elim
  | f :: flds, (off', sz', ag') :: fs, h, i, off, sz, ag, hn => by
    obtain ⟨h1, h2, h3, h4, h5⟩ := h
    cases i with
    | zero => cases hn; exact ⟨f, rfl, h1, h2, h3, h4⟩
    | succ i =>
      obtain ⟨g, hg, r⟩ := h5.get (show nth fs i = _ from hn)
      exact ⟨g, by simpa using hg, r⟩

theorem TIOK.size? {t : Nat} {ti : TI} (h : TIOK P t ti) : (P.info? t).map (·.size) = some ti.size := by
  obtain ⟨i, z, hi, hsz, _⟩ := h.info
  simp [hi, hsz]

theorem take_set_drop {α : Type} (cv vs : List α) (off : Nat) (h : off + vs.length ≤ cv.length) : (cv.take off ++ vs ++ cv.drop (off + vs.length)).length = cv.length ∧
    ∀ (i : Nat), (cv.take off ++ vs ++ cv.drop (off + vs.length))[i]? = if off ≤ i ∧ i < off + vs.length then vs[i - off]? else cv[i]? := by
  refine ⟨by simp; omega, fun i => ?_⟩
  by_cases h1 : i < off
  · rw [List.append_assoc, List.getElem?_append_left (by simp; omega), if_neg (by omega), List.getElem?_take_of_lt h1]
  · by_cases h2 : i < off + vs.length
    · rw [if_pos ⟨by omega, h2⟩, List.append_assoc, List.getElem?_append_right (by simp; omega), List.getElem?_append_left (by simp; omega)]
      congr 1
      simp; omega
    · rw [if_neg (by omega), List.getElem?_append_right (by simp; omega), List.getElem?_drop]
      congr 1
      simp; omega

theorem run_storeAt {t : Nat} {b off : Nat} {v : Value} {cv : List Value} {T' : TypeId} (hs : (P.info? t).map (·.size) = some v.cells.size) (hh : w.heap[b]? = some (.cells cv.toArray T' (0, 0)))
    (hl : off + v.cells.toList.length ≤ cv.length) (h1 : ∀ u ∈ v.cells.toList, u.oneCell' = true) :
    (Instr.storeAt t (.pointer (some ⟨b, off, none⟩)) v).run P w = .ok () (w.setRow b (cv.take off ++ v.cells.toList ++ cv.drop (off + v.cells.toList.length)).toArray) := by
  have := run_storeCells_at P b off T' v.cells.toList 0 cv.toArray w hh (by simpa using hl) h1
  simp only [Nat.add_zero] at this
  unfold Instr.storeAt Instr.sureAddr storeVar
  simp only [Sem.run_bind, Sem.run_pure, Result.andThen_ok, run_sizeOf hs, ne_eq, not_true_eq_false, if_false]
  exact this

theorem Rep.cells_one {v : Value} {a : AVal} (h : Rep M ob tk v a) (h1 : oneL a.cells = true) : v.cells.toList.length = a.cells.length ∧ (∀ u ∈ v.cells.toList, u.oneCell' = true) ∧ RepsL M ob tk v.cells.toList a.cells := by
  have hu : a ≠ .undef := fun e => by subst e; simp [AVal.cells, oneL, AM.one] at h1
  obtain ⟨h2, h3⟩ := h.cells hu
  refine ⟨h2, fun u hm => ?_, h3⟩
  obtain ⟨i, hi⟩ := List.getElem?_of_mem hm
  have hlt : i < a.cells.length := by rw [← h2]; exact (List.getElem?_eq_some_iff.1 hi).1
  exact (h3 i u _ hi (List.getElem?_eq_getElem hlt)).one (oneL_mem h1 i _ (List.getElem?_eq_getElem hlt))

theorem one_cells {c : AVal} (h : AM.one c = true) : c.cells = [c] := by cases c <;> first | rfl | cases h

theorem remk_cells {y : AVal} {new cs' : List AVal} {off : Nat} (hput : cputAt off new y.cells = some cs') (hone : oneL new = true) : (remk y cs').cells = cs' := by
  obtain ⟨p1, p2, p3⟩ := cputAt_some hput
  by_cases ha : ∃ as, y = .agg as
  · obtain ⟨as, rfl⟩ := ha; rfl
  · have hy1 : y.cells = [y] := by cases y <;> first | rfl | exact absurd ⟨_, rfl⟩ ha
    have e : remk y cs' = only1 cs' := by cases y <;> first | rfl | exact absurd ⟨_, rfl⟩ ha
    rw [e]
    rw [hy1] at p2 p3
    match cs', p2, p3 with
    | [c], _, p3 =>
      show c.cells = [c]
      have h0 := p3 0
      simp only [List.getElem?_cons_zero] at h0
      split at h0
      · exact one_cells (oneL_mem hone _ c h0.symm)
      · simp at h0
        rw [h0]
        exact hy1

theorem estore_sound (hE : ∀ t ti, tget T t = some ti → TIOK P t ti) (hm : Mem M ob tk obs w) {t : Nat} {v u : Value} {a x : AVal} (hv : Rep M ob tk v a) (hu : Rep M ob tk u x) {o : List Ora} {r : OR}
    (h : estore T obs t a x o = some r) (hc : All r.conds) :
    ∃ c k y o', r = .upd c k y o' ∧ ∃ w', (Instr.storeAt t v u).run P w = .ok () w' ∧ Mem M ob tk (obs.set k y) w' ∧ Ext M ob tk w M ob tk w' := by
  unfold estore at h
  cases hT : tget T t with
  | none => simp [hT] at h
  | some ti =>
    have hti := hE t ti hT
    simp only [hT] at h
    obtain ⟨hg, h2⟩ := cond_some h
    clear h
    obtain ⟨hone, hlen⟩ := beq_and hg
    obtain ⟨hcl, hc1, hcr⟩ := hu.cells_one hone
    have hsz : u.cells.size = ti.size := by
      have := beq_yes hlen
      rw [clen_eq] at this
      have h3 : u.cells.size = u.cells.toList.length := by simp
      omega
    have hs : (P.info? t).map (·.size) = some u.cells.size := by rw [hsz]; exact hti.size?
    split at h2
    · rename_i k off
      split at h2
      · rename_i cs hog
        have hk := oget_some hog (by simp)
        split at h2
        · rename_i cs' hput
          simp only [Option.some.injEq] at h2
          subst h2
          obtain ⟨p1, p2, p3⟩ := cputAt_some hput
          cases hv with
          | ref k off b hb =>
            obtain ⟨b', hb', hM, cv, T', hh, hlen', h1', hrep⟩ := hm.obj k _ hk
            rw [hb] at hb'
            cases hb'
            have hfit : off + u.cells.toList.length ≤ cv.length := by omega
            obtain ⟨q1, q2⟩ := take_set_drop cv u.cells.toList off hfit
            have hst := run_storeAt (P := P) (t := t) hs hh hfit hc1
            have hstore := hm.store hb (cv.take off ++ u.cells.toList ++ cv.drop (off + u.cells.toList.length)) (.cells cs') (fun w' hw' => ?_) hM
            · exact ⟨_, k, _, _, rfl, _, hst, hstore.1, hstore.2⟩
            · refine ⟨hM, _, T', hw'.trans (setRow_heap w b _ _ T' _ hh), by omega, fun v hv => ?_, fun i v c hvi hci => ?_⟩
              · simp only [List.mem_append] at hv
                rcases hv with (hv | hv) | hv
                · exact h1' v (List.mem_of_mem_take hv)
                · exact hc1 v hv
                · exact h1' v (List.mem_of_mem_drop hv)
              · rw [q2 i] at hvi
                rw [p3 i, ← hcl] at hci
                split at hvi
                · rename_i hin
                  rw [if_pos hin] at hci
                  exact hcr _ v c hvi hci
                · rename_i hin
                  rw [if_neg hin] at hci
                  exact hrep i v c hvi hci
        · cases h2
      · cases h2
    · rename_i k i sz off
      split at h2
      · rename_i sz' xs y o' hog
        have hk := oget_some hog (by simp)
        obtain ⟨hg2, h3⟩ := cond_some h2
        clear h2
        obtain ⟨hsz2, htok⟩ := beq_and hg2
        have := beq_yes hsz2
        subst this
        split at h3
        · rename_i cs' hput
          simp only [cellsK_eq, Option.some.injEq] at h3
          subst h3
          obtain ⟨p1, p2, p3⟩ := cputAt_some hput
          have hx : xs[i]? = some y := hc.1
          cases hv with
          | eref k i sz off b hb =>
            obtain ⟨b', hb', hM, cv, T', hh, hlen', h1', hz, hrep⟩ := hm.obj k _ hk
            rw [hb] at hb'
            cases hb'
            have hil : i < xs.length := (List.getElem?_eq_some_iff.1 hx).1
            have hyz : y.cells.length = sz := hz y (List.mem_of_getElem? hx)
            have hmul : (i + 1) * sz ≤ xs.length * sz := Nat.mul_le_mul_right _ hil
            rw [Nat.add_mul, Nat.one_mul] at hmul
            have hfit : i * sz + off + u.cells.toList.length ≤ cv.length := by omega
            obtain ⟨q1, q2⟩ := take_set_drop cv u.cells.toList (i * sz + off) hfit
            have hst := run_storeAt (P := P) (t := t) hs hh hfit hc1
            obtain ⟨y', hy', hyc⟩ : ∃ y', remk y cs' = y' ∧ y'.cells = cs' := ⟨_, rfl, remk_cells hput hone⟩
            rw [hy']
            have hcsl : cs'.length = sz := by rw [p2, hyz]
            have hstore := hm.store hb (cv.take (i * sz + off) ++ u.cells.toList ++ cv.drop (i * sz + off + u.cells.toList.length)) (.row sz (xs.set i y')) (fun w' hw' => ?_) hM
            · exact ⟨_, k, _, _, rfl, _, hst, hstore.1, hstore.2⟩
            · refine ⟨hM, _, T', hw'.trans (setRow_heap w b _ _ T' _ hh), by simp only [List.length_set]; omega, fun v hv => ?_, fun z hz' => ?_, fun i' j' z c hzi hci => ?_⟩
              · simp only [List.mem_append] at hv
                rcases hv with (hv | hv) | hv
                · exact h1' v (List.mem_of_mem_take hv)
                · exact hc1 v hv
                · exact h1' v (List.mem_of_mem_drop hv)
              · rcases List.mem_or_eq_of_mem_set hz' with hz' | rfl
                · exact hz z hz'
                · rw [hyc, hcsl]
              · rw [q2]
                by_cases hii : i' = i
                · subst hii
                  rw [List.getElem?_set_self hil] at hzi
                  cases hzi
                  rw [hyc, p3 j', ← hcl] at hci
                  have hj : j' < sz := by
                    split at hci
                    · omega
                    · have := (List.getElem?_eq_some_iff.1 hci).1; omega
                  split at hci
                  · rename_i hin
                    rw [if_pos ⟨by omega, by omega⟩]
                    have he : i' * sz + j' - (i' * sz + off) = j' - off := by omega
                    rw [he]
                    have hlt : j' - off < u.cells.toList.length := by omega
                    refine ⟨_, List.getElem?_eq_getElem hlt, ?_⟩
                    have hgood : ∀ (q : Nat) d, x.cells[q]? = some d → tokless0 d = true := by
                      have : ∀ l, tokless0L l = true → ∀ (q : Nat) d, l[q]? = some d → tokless0 d = true := by
                        intro l
                        induction l with
                        | nil => intro _ q d hd; simp at hd
                        | cons e r ih =>
                          intro hl q d hd
                          simp only [tokless0L, Bool.and_eq_true] at hl
                          cases q with
                          | zero => simp at hd; subst hd; exact hl.1
                          | succ q => exact ih hl.2 q d (by simpa using hd)
                      exact this _ htok
                    exact (hcr _ _ c (List.getElem?_eq_getElem hlt) hci).tokless0 (hgood _ c hci)
                  · rename_i hin
                    rw [if_neg (by omega)]
                    exact hrep i' j' y c hx hci
                · rw [List.getElem?_set_ne (fun e => hii e.symm)] at hzi
                  have hj : j' < sz := by rw [← hz z (List.mem_of_getElem? hzi)]; exact (List.getElem?_eq_some_iff.1 hci).1
                  rw [if_neg]
                  · exact hrep i' j' z c hzi hci
                  · intro ⟨g1, g2⟩
                    rcases Nat.lt_or_gt_of_ne hii with hlt | hgt
                    · have : (i' + 1) * sz ≤ i * sz := Nat.mul_le_mul_right _ hlt
                      rw [Nat.add_mul, Nat.one_mul] at this
                      omega
                    · have : (i + 1) * sz ≤ i' * sz := Nat.mul_le_mul_right _ hgt
                      rw [Nat.add_mul, Nat.one_mul] at this
                      omega
        · cases h3
      · cases h2
    · cases h2
end
end Go.AM
