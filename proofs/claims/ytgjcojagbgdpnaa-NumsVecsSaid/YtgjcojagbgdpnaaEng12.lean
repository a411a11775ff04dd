/-
  THE ENGINE, 12: what each operation does, is what the evaluator says: places, parts, slices. Over any program.
-/
import Derived.Test.YtgjcojagbgdpnaaEng11
namespace Go.AM
open Go.RowKit

section
variable {P : Program} {T : Tab} {M : Imm} {ob : List Nat} {tk : List Tok} {obs : List AObj} {nt : Nat} {w : World}

theorem run_part {t : Nat} {sz off : Nat} (h1 : (P.info? t).map (·.size) = some sz) (h2 : (P.underlying t).isSome = true) (vs : List Value) (u : Value)
    (ha : isAggT P t = true → u = .agg ((vs.drop off).take sz).toArray) (hb : isAggT P t = false → vs[off]? = some u) : (part t vs.toArray off).run P w = .ok u w := by
  unfold part
  simp only [Sem.run_bind, run_isAgg h2, Result.andThen_ok]
  cases hq : isAggT P t with
  | true =>
    simp only [if_true, Sem.run_bind, run_sizeOf h1, Result.andThen_ok, Sem.run_pure, ha hq]
    congr 3
    simp [List.extract_eq_take_drop]
  | false => simp [hb hq]

/-- a part of a row of cells -/
theorem part_rep {vs : List Value} {cs : List AVal} (hl : vs.length = cs.length) (h : RepsL M ob tk vs cs) {sz off : Nat} {l : List AVal} (ht : ctake sz (cdrop off cs) = some l) :
    RepL M ob tk ((vs.drop off).take sz) l := by
  obtain ⟨h1, h2⟩ := ctake_some ht
  rw [cdrop_eq] at h2
  have hlen : ((vs.drop off).take sz).length = l.length := by
    have : sz ≤ (cs.drop off).length := by
      rcases Nat.eq_zero_or_pos sz with h0 | h0
      · omega
      · have := h2 (sz - 1) _ (List.getElem?_eq_getElem (by omega))
        have := (List.getElem?_eq_some_iff.1 this).1
        omega
    simp at this
    simp; omega
  refine ⟨hlen, fun i v a hv ha => ?_⟩
  have hc := h2 i a ha
  rw [List.getElem?_drop] at hc
  have hi : i < sz := by rw [← h1]; exact (List.getElem?_eq_some_iff.1 ha).1
  rw [List.getElem?_take_of_lt hi, List.getElem?_drop] at hv
  exact h _ v a hv hc

theorem part_sound {t : Nat} {sz off : Nat} (h1 : (P.info? t).map (·.size) = some sz) (h2 : (P.underlying t).isSome = true) {vs : List Value} {cs : List AVal} (hl : vs.length = cs.length) (h : RepsL M ob tk vs cs)
    {l : List AVal} (ht : ctake sz (cdrop off cs) = some l) {a : AVal} (hagg : isAggT P t = true → a = .agg l) (hone : isAggT P t = false → l = [a]) : ∃ u, (part t vs.toArray off).run P w = .ok u w ∧ Rep M ob tk u a := by
  have hp := part_rep hl h ht
  cases hq : isAggT P t with
  | true =>
    rw [hagg hq]
    exact ⟨_, run_part h1 h2 vs _ (fun _ => rfl) (fun e => by rw [hq] at e; cases e), .agg _ l hp.1 hp.2⟩
  | false =>
    have hl1 := hone hq
    subst hl1
    obtain ⟨p1, p2⟩ := hp
    have hsz : sz = 1 := by have := (ctake_some ht).1; simpa using this.symm
    subst hsz
    have h0 : ((vs.drop off).take 1)[0]? = vs[off]? := by rw [List.getElem?_take_of_lt (by omega), List.getElem?_drop, Nat.add_zero]
    have hlt : 0 < ((vs.drop off).take 1).length := by rw [p1]; simp
    refine ⟨((vs.drop off).take 1)[0], run_part h1 h2 vs _ (fun e => by rw [hq] at e; cases e) (fun _ => ?_), p2 0 _ a (List.getElem?_eq_getElem hlt) rfl⟩
    rw [← h0]
    exact List.getElem?_eq_getElem hlt

theorem efield_sound (hE : ∀ t ti, tget T t = some ti → TIOK P t ti) {s f : Nat} {v : Value} {a : AVal} (hv : Rep M ob tk v a) {o : List Ora} {r : OR} (h : efield T s a f o = some r) :
    ∃ x, r = .val [] x o ∧ ∃ u, (Instr.field s v f).run P w = .ok u w ∧ Rep M ob tk u x := by
  unfold efield at h
  split at h
  · rename_i fs _ _ _ hT
    have hti := hE s _ hT
    obtain ⟨⟨flds, hu, hf⟩, _⟩ := hti.kind
    split at h
    · cases h
    · rename_i off sz ag hn
      obtain ⟨fd, hfd, e1, e2, e3, e4⟩ := hf.get hn
      split at h
      · rename_i cs
        split at h
        · cases h
        · rename_i l hl
          cases hv with
          | agg vs as hlen hr =>
            have key : ∀ x, (isAggT P fd.type = true → x = .agg l) → (isAggT P fd.type = false → l = [x]) → ∃ u, (Instr.field s (.agg vs.toArray) f).run P w = .ok u w ∧ Rep M ob tk u x := by
              intro x h1 h2
              obtain ⟨u, hu', hr'⟩ := part_sound (P := P) (w := w) (t := fd.type) e2 e3 hlen hr hl h1 h2
              refine ⟨u, ?_, hr'⟩
              have hfd' : flds[f]? = some fd := by simpa using hfd
              unfold Instr.field
              simp only [Sem.run_bind, run_underlying hu, Result.andThen_ok, hfd', asAgg, Sem.run_pure, e1, hu']
            cases hag : ag with
            | true =>
              simp only [hag, cond_true, Option.some.injEq] at h
              subst h
              exact ⟨_, rfl, key _ (fun _ => rfl) (fun e => by rw [e4, hag] at e; cases e)⟩
            | false =>
              simp only [hag, cond_false] at h
              split at h
              · cases h; exact ⟨_, rfl, key _ (fun e => by rw [e4, hag] at e; cases e) (fun _ => rfl)⟩
              · cases h
      · cases h
  · cases h

theorem efieldAddr_sound (hE : ∀ t ti, tget T t = some ti → TIOK P t ti) {s f : Nat} {v : Value} {a : AVal} (hv : Rep M ob tk v a) {o : List Ora} {r : OR} (h : efieldAddr T s a f o = some r) :
    ∃ x, r = .val [] x o ∧ ∃ u, (Instr.fieldAt s v f).run P w = .ok u w ∧ Rep M ob tk u x := by
  unfold efieldAddr at h
  split at h
  · rename_i fs _ _ _ hT
    have hti := hE s _ hT
    obtain ⟨⟨flds, hu, hf⟩, _⟩ := hti.kind
    split at h
    · cases h
    · rename_i off sz ag hn
      obtain ⟨fd, hfd, e1, e2, e3, e4⟩ := hf.get hn
      have hfd' : flds[f]? = some fd := by simpa using hfd
      cases hz : Nat.beq sz 0 with
      | true => simp [hz] at h
      | false =>
        simp only [hz, cond_false] at h
        have hz' : ¬ sz = 0 := fun e => by subst e; simp at hz
        have key : ∀ ad, (Instr.fieldAt s (.pointer (some ad)) f).run P w = .ok (.pointer (some (ad.add off))) w := fun ad => by
          unfold Instr.fieldAt Instr.sureAddr fieldPlace
          simp only [Sem.run_bind, run_underlying hu, Result.andThen_ok, hfd', Sem.run_pure, run_sizeOf e2, if_neg hz', e1]
        split at h
        · cases h
          cases hv with
          | ptr b o cs hM =>
            refine ⟨_, rfl, _, key _, ?_⟩
            rw [addr_add]
            exact .ptr b (o + off) _ fun j c hc => by rw [cdrop_eq, List.getElem?_drop] at hc; have := hM _ c hc; rw [Nat.add_assoc]; exact this
        · cases h
          cases hv with
          | ref _ _ b hb =>
            refine ⟨_, rfl, _, key _, ?_⟩
            rw [addr_add]
            exact .ref _ _ b hb
        · cases h
          cases hv with
          | eref _ _ _ _ b hb =>
            refine ⟨_, rfl, _, key _, ?_⟩
            rw [addr_add, Nat.add_assoc]
            exact .eref _ _ _ _ b hb
        · cases h
  · cases h

theorem eindexAddr_sound (hE : ∀ t ti, tget T t = some ti → TIOK P t ti) {t : Nat} {v vi : Value} {a i : AVal} (hv : Rep M ob tk v a) (hvi : Rep M ob tk vi i) {o : List Ora} {r : OR} (h : eindexAddr T t a i o = some r) (hc : All r.conds) :
    ∃ c x o', r = .val c x o' ∧ ∃ u, (Instr.indexAt t v vi).run P w = .ok u w ∧ Rep M ob tk u x := by
  unfold eindexAddr at h
  split at h
  · rename_i ti _ n hT
    have hti := hE t ti hT
    have hvi' := hvi.int_inv
    subst hvi'
    split at h
    · rename_i e esz eb hk
      have hkind := hti.kind
      rw [hk] at hkind
      obtain ⟨⟨hu, i', z, hi, hs, _⟩, _⟩ := hkind
      have hse : (P.info? e).map (·.size) = some esz := by simp [hi, hs]
      have key : ∀ (ad : Addr) (len cap : Nat) k, 0 ≤ n → n.toNat < len → (Instr.indexAt t (.slice (some ad) len cap) (.int k n)).run P w = .ok (.pointer (some (ad.add (n.toNat * esz)))) w := fun ad len cap k h0 h1 => by
        unfold Instr.indexAt
        simp only [Sem.run_bind, asIntOf, Sem.run_pure, Result.andThen_ok, run_underlying hu]
        rw [if_pos ⟨h0, by omega⟩]
        simp only [Sem.run_bind, run_sizeOf hse, Result.andThen_ok, Sem.run_pure]
      split at h
      · rename_i sz nl xs tt
        split at h
        · rename_i x o'
          obtain ⟨hsz, h2⟩ := cond_some h
          have hsz' := beq_yes hsz
          subst hsz'
          cases h2
          obtain ⟨c0, c1, _⟩ := hc
          have hil : n.toNat < xs.length := (List.getElem?_eq_some_iff.1 c1).1
          have hvs : Rep M ob tk v (.slice sz nl xs none) := by
            cases hv with
            | tok sz nl xs v τ e h ht => exact h
            | nilslice sz => exact .nilslice sz
            | slice sz b o n cap xs hn hc hz h => exact .slice sz b o n cap xs hn hc hz h
          cases hvs with
          | nilslice sz => simp at hil
          | slice sz b o n1 cap xs hn hcap hz hM =>
            refine ⟨_, _, _, rfl, _, key _ n1 cap _ c0 (by omega), ?_⟩
            rw [addr_add]
            exact .ptr b _ _ fun j c hj => hM _ _ x c c1 hj
        · cases h
      · rename_i k lo len cap sz
        obtain ⟨hsz, h2⟩ := cond_some h
        have hsz' := beq_yes hsz
        subst hsz'
        cases h2
        obtain ⟨c0, c1, _⟩ := hc
        cases hv with
        | rsl k lo len cap sz b hb =>
          refine ⟨_, _, _, rfl, _, key _ len cap _ c0 c1, ?_⟩
          rw [addr_add]
          have := Rep.eref (M := M) (ob := ob) (tk := tk) k (lo + n.toNat) sz 0 b hb
          rw [Nat.add_mul, Nat.add_zero] at this
          exact this
      · cases h
    · rename_i len esz ea hk
      have hkind := hti.kind
      rw [hk] at hkind
      obtain ⟨⟨e, hu, hse, _⟩, _⟩ := hkind
      have key : ∀ (ad : Addr) k, 0 ≤ n → n.toNat < len → (Instr.indexAt t (.pointer (some ad)) (.int k n)).run P w = .ok (.pointer (some (ad.add (n.toNat * esz)))) w := fun ad k h0 h1 => by
        unfold Instr.indexAt Instr.sureAddr
        simp only [Sem.run_bind, asIntOf, Sem.run_pure, Result.andThen_ok, run_underlying hu]
        rw [if_pos ⟨h0, by omega⟩]
        simp only [Sem.run_bind, run_sizeOf hse, Result.andThen_ok, Sem.run_pure]
      split at h
      · cases h
        obtain ⟨c0, c1, _⟩ := hc
        cases hv with
        | ref _ _ b hb =>
          refine ⟨_, _, _, rfl, _, key _ _ c0 c1, ?_⟩
          rw [addr_add]
          exact .ref _ _ b hb
      · cases h
        obtain ⟨c0, c1, _⟩ := hc
        cases hv with
        | ptr b o cs hM =>
          refine ⟨_, _, _, rfl, _, key _ _ c0 c1, ?_⟩
          rw [addr_add]
          exact .ptr b _ _ fun j c hc => by rw [cdrop_eq, List.getElem?_drop] at hc; have := hM _ c hc; rw [Nat.add_assoc]; exact this
      · cases h
    · cases h
  · cases h

theorem eindex_sound (hE : ∀ t ti, tget T t = some ti → TIOK P t ti) {t : Nat} {v vi : Value} {a i : AVal} (hv : Rep M ob tk v a) (hvi : Rep M ob tk vi i) {o : List Ora} {r : OR} (h : eindex T t a i o = some r) (hc : All r.conds) :
    ∃ c x o', r = .val c x o' ∧ ∃ u, (Instr.index t v vi).run P w = .ok u w ∧ Rep M ob tk u x := by
  unfold eindex at h
  split at h
  · rename_i l k n
    have hvi' := hvi.int_inv
    have hv' := hv.str_inv
    subst hvi' hv'
    split at h
    · rename_i _ _ _ c o' hT
      have hti := hE t _ hT
      obtain ⟨hu, _⟩ := hti.kind
      cases h
      obtain ⟨c0, c1, _⟩ := hc
      obtain ⟨x, hx, hxc⟩ := Option.map_eq_some_iff.1 c1
      refine ⟨_, _, _, rfl, .int .u8 c, ?_, .int _ _⟩
      unfold Instr.index
      simp only [Sem.run_bind, asIntOf, Sem.run_pure, Result.andThen_ok, run_underlying hu]
      rw [if_pos c0]
      have hb : (⟨l.toArray⟩ : ByteArray)[n.toNat]? = some x := by
        have hlt : n.toNat < l.length := (List.getElem?_eq_some_iff.1 hx).1
        have : n.toNat < (⟨l.toArray⟩ : ByteArray).size := by simpa [ByteArray.size] using hlt
        rw [getElem?_pos (⟨l.toArray⟩ : ByteArray) n.toNat this]
        have hxx := (List.getElem?_eq_some_iff.1 hx).2
        rw [← hxx]
        rfl
      rw [hb]
      simp [hxc]
    · cases h
  · rename_i cs k n
    have hvi' := hvi.int_inv
    subst hvi'
    split at h
    · rename_i len esz ag _ _ _ hT
      have hti := hE t _ hT
      obtain ⟨⟨e, hu, hse, hes, hag⟩, _⟩ := hti.kind
      split at h
      · rename_i l hl
        cases hv with
        | agg vs as hlen hr =>
          have key : ∀ x, 0 ≤ n → n < len → (isAggT P e = true → x = .agg l) → (isAggT P e = false → l = [x]) → ∃ u, (Instr.index t (.agg vs.toArray) (.int k n)).run P w = .ok u w ∧ Rep M ob tk u x := by
            intro x h0 h1 h2 h3
            obtain ⟨u, hu', hr'⟩ := part_sound (P := P) (w := w) (t := e) hse hes hlen hr hl h2 h3
            refine ⟨u, ?_, hr'⟩
            unfold Instr.index
            simp only [Sem.run_bind, asIntOf, Sem.run_pure, Result.andThen_ok, run_underlying hu]
            rw [if_pos ⟨h0, h1⟩]
            simp only [Sem.run_bind, run_sizeOf hse, Result.andThen_ok, hu']
          cases hagv : ag with
          | true =>
            simp only [hagv, cond_true, Option.some.injEq] at h
            subst h
            exact ⟨_, _, _, rfl, key _ hc.1 hc.2.1 (fun _ => rfl) (fun e => by rw [hag, hagv] at e; cases e)⟩
          | false =>
            simp only [hagv, cond_false] at h
            split at h
            · cases h; exact ⟨_, _, _, rfl, key _ hc.1 hc.2.1 (fun e => by rw [hag, hagv] at e; cases e) (fun _ => rfl)⟩
            · cases h
      · cases h
    · cases h
  · cases h
end
end Go.AM
