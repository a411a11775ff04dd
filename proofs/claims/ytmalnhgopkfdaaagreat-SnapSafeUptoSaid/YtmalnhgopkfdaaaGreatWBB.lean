/-
  The engine, second make, second part: operations, regions. Over any program.
-/
import Derived.Lib.ConvBytes
import Derived.MapKept
import Derived.WalkSmall
import Derived.Carry
import Derived.Orders
import Derived.Test.YtmalnhgopkfdaaaGreatWAB
set_option linter.all false
namespace Go.AW
open Go.RowKit
section
variable {P : Program} {E : Env} {M : Imm} {ob : Hs} {obs : List AObj} {w : World} {base : Nat}
theorem ps_val {s : Sem Value} {v : AVal} {u : Value} (h : s.run P w = .ok u w) (hr : Rep M ob u v) : PS0 P M ob w s obs base (.val v) := ⟨rfl, u, h, hr⟩
theorem cellsAt {b o : Nat} (l : List AVal) (h : ∀ (i : Nat) c, l[i]? = some c → ∃ u, w.cell? ⟨b, o + i, none⟩ = some u ∧ Rep M ob u c) :
  ∃ vs : List Value, vs.length = l.length ∧ (∀ (j : Nat) u, vs[j]? = some u → w.cell? ⟨b, o + j, none⟩ = some u) ∧ ∀ (i : Nat) v a, vs[i]? = some v → l[i]? = some a → Rep M ob v a := by
 refine ⟨(List.range l.length).map fun q => (w.cell? ⟨b, o + q, none⟩).getD undef, by simp, fun j u hu => ?_, fun i v a hv ha => ?_⟩
 ·simp only [List.getElem?_map] at hu
  by_cases hj : j < l.length
  ·obtain ⟨u', hu', _⟩ := h j _ (List.getElem?_eq_getElem hj)
   simp [List.getElem?_range hj, hu'] at hu
   rw [hu', hu]
  ·rw [List.getElem?_eq_none (by simp; omega)] at hu
   simp at hu
 ·have hj : i < l.length := (List.getElem?_eq_some_iff.1 ha).1
  obtain ⟨u', hu', hr⟩ := h i a ha
  simp only [List.getElem?_map, List.getElem?_range hj, Option.map_some, hu', Option.getD_some] at hv
  cases hv
  exact hr
theorem run_loadVar {t : Nat} {ti : TI} (hk : KindOK P t ti.agg ti.size ti.kind) (hs : (P.info? t).map (·.size) = some ti.size) {b o : Nat} {vs : List Value} (hl : vs.length = ti.size)
  (hc : ∀ (j : Nat) u, vs[j]? = some u → w.cell? ⟨b, o + j, none⟩ = some u) (u : Value) (hu : ti.agg = true → u = .agg vs.toArray) (hu' : ti.agg = false → vs = [u]) :
  (loadVar t ⟨b, o, none⟩).run P w = .ok u w := by
 obtain ⟨h1, h2⟩ := hk.isAgg
 unfold loadVar
 simp only [Sem.run_bind, run_isAgg h1, Result.andThen_ok, h2]
 cases ha : ti.agg with
 | true =>
  have hlc := run_loadCells_list (P := P) w ⟨b, o, none⟩ vs (fun j v hv => by rw [addr_add]; exact hc j v hv)
  rw [hl] at hlc
  simp only [if_true, Sem.run_bind, run_sizeOf hs, Result.andThen_ok, hlc, Sem.run_pure, hu ha]
 | false =>
  have hv := hu' ha
  have := hc 0 u (by rw [hv]; rfl)
  rw [Nat.add_zero] at this
  simp only [Bool.false_eq_true, if_false, run_load, this]
theorem mk_some {ti : TI} {l : List AVal} {a : AVal} (h : mk ti l = some a) : (ti.agg = true ∧ a = .agg l) ∨ (ti.agg = false ∧ l = [a]) := by
 unfold mk at h
 cases ha : ti.agg <;> simp only [ha, cond_true, cond_false] at h
 ·split at h
  ·cases h; exact .inr ⟨rfl, rfl⟩
  ·cases h
 ·cases h; exact .inl ⟨rfl, rfl⟩
theorem load_fin {t : Nat} {ti : TI} (hti : TIOK P t ti) {b o : Nat} {l : List AVal} {a : AVal} (hmk : mk ti l = some a) (hl : l.length = ti.size)
  (h : ∀ (i : Nat) c, l[i]? = some c → ∃ u, w.cell? ⟨b, o + i, none⟩ = some u ∧ Rep M ob u c) : ∃ u, (loadVar t ⟨b, o, none⟩).run P w = .ok u w ∧ Rep M ob u a := by
 obtain ⟨vs, hvl, hvc, hvr⟩ := cellsAt l h
 rcases mk_some hmk with ⟨ha, rfl⟩ | ⟨ha, rfl⟩
 ·exact ⟨.agg vs.toArray, run_loadVar hti.kind hti.size? (hvl.trans hl) hvc _ (fun _ => rfl) (fun h => by rw [ha] at h; cases h), .agg vs l hvl hvr⟩
 ·match vs, hvl with
  | [u], _ => exact ⟨u, run_loadVar hti.kind hti.size? (by simpa using hl) hvc u (fun h => by rw [ha] at h; cases h) (fun _ => rfl), hvr 0 u a rfl rfl⟩
theorem fin_s {t : Nat} {ti : TI} (hti : TIOK P t ti) {b o off : Nat} {cs : List AVal}
  (h : ∀ (i : Nat) c, cs[off + i]? = some c → ∃ u, w.cell? ⟨b, o + i, none⟩ = some u ∧ Rep M ob u c) : PS0 P M ob w (Instr.loadAt t (.pointer (some ⟨b, o, none⟩))) obs base (fin ti (ctake ti.size (cdrop off cs))) := by
 unfold fin
 split
 ·exact trivial
 ·rename_i l hl
  split
  ·exact trivial
  ·rename_i a hmk
   obtain ⟨h1, h2⟩ := ctake_some hl
   obtain ⟨u, hu, hr⟩ := load_fin hti hmk h1 (b := b) (o := o) (M := M) (ob := ob) (w := w) fun i c hi => by
    have := h2 i c hi
    rw [cdrop_eq, List.getElem?_drop] at this
    exact h i c this
   refine ps_val (u := u) ?_ hr
   unfold Instr.loadAt Instr.sureAddr
   simp only [Sem.run_bind, Sem.run_pure, Result.andThen_ok, hu]
theorem RowAt.cell {v : Value} {sz : Nat} {e : TypeId} {xs : List AVal} (h : RowAt M w v sz e xs) {b : Nat} {n c : Nat} (hv : v = .slice (some ⟨b, 0, none⟩) n c) {i j : Nat} {x a : AVal} (hx : xs[i]? = some x) (ha : x.cells[j]? = some a) :
  ∃ u, w.cell? ⟨b, i * sz + j, none⟩ = some u ∧ Rep M [] u a := by
 obtain ⟨cv, h1, _, h3, h4, _⟩ := h
 obtain ⟨u, hu, hr⟩ := h4 _ a (cellAt_eq hx ha (h3 x (List.mem_of_getElem? hx)))
 exact ⟨u, own_cells h1 (by rw [hv]; rfl) hu, hr⟩
theorem og_some {k : Nat} {x : AObj} (h : oget obs k = x) (hx : x ≠ .dead) : obs[k]? = some x := oget_some h hx
theorem eload_s (hE : EnvOK E) (hm : Mem M ob obs w) {t : Nat} {v : Value} {a : AVal} (hv : Rep M ob v a) : PS0 E.P M ob w (Instr.loadAt t v) obs base (eload E (oget obs) t a) := by
 unfold eload
 split
 ·exact trivial
 ·rename_i ti hT
  have hti := hE.tab t ti hT
  split
  ·rename_i cs
   obtain ⟨b, o, rfl, hM⟩ := hv.ptr_inv
   refine fin_s (off := 0) (cs := cs) hti fun i c hi => ?_
   rw [Nat.zero_add] at hi
   obtain ⟨u, hu, _, hr⟩ := hm.imm b _ c (hM i c hi)
   exact ⟨u, hu, hr.pure⟩
  ·rename_i k off
   obtain ⟨b, rfl, hb⟩ := hv.ref_inv
   split
   ·rename_i cs hog
    obtain ⟨hs, h1, b', rfl, _, cv, hh, hlen, _, hrep⟩ := hm.obj k _ (og_some hog (by simp))
    rw [at_get h1] at hb
    cases hb
    refine fin_s hti fun i c hi => ?_
    have hlt : off + i < cv.length := by rw [hlen]; exact (List.getElem?_eq_some_iff.1 hi).1
    exact ⟨cv[off + i], by rw [cell_of_row w b _ _ _ (0, 0) hh]; simp [hlt], hrep _ _ c (List.getElem?_eq_getElem hlt) hi⟩
   ·rename_i cs hog
    obtain ⟨hs, h1, b', rfl, hrep⟩ := hm.obj k _ (og_some hog (by simp))
    rw [at_get h1] at hb
    cases hb
    refine fin_s hti fun i c hi => ?_
    obtain ⟨u, hu, _, hr⟩ := hm.imm b _ c (hrep _ c hi)
    exact ⟨u, hu, hr.pure⟩
   ·exact trivial
  ·rename_i k g i sz off
   cases hv with
   | eref k g i sz off b n c hb =>
   split
   ·rename_i g' sz' e xs hog
    refine sdc fun hg => ?_
    obtain ⟨hg1, hg2⟩ := beq_and hg
    obtain rfl := beq_yes hg1
    obtain rfl := beq_yes hg2
    intro x hx
    obtain ⟨hs, v, h1, h2, h3, h4, h5, _⟩ := hm.rowOf (og_some hog (by simp))
    rw [h4] at hb
    cases hb
    refine fin_s hti fun j c hj => ?_
    obtain ⟨u, hu, hr⟩ := h5.cell rfl hx hj
    exact ⟨u, by rw [Nat.add_assoc]; exact hu, hr.pure⟩
   ·exact trivial
  ·exact trivial
theorem run_part {t : Nat} {sz off : Nat} (h1 : (P.info? t).map (·.size) = some sz) (h2 : (P.underlying t).isSome = true) (vs : List Value) (u : Value)
  (ha : isAggT P t = true → u = .agg ((vs.drop off).take sz).toArray) (hb : isAggT P t = false → vs[off]? = some u) : (part t vs.toArray off).run P w = .ok u w := by
 unfold part
 simp only [Sem.run_bind, run_isAgg h2, Result.andThen_ok]
 cases hq : isAggT P t with
 | true =>
  simp only [if_true, Sem.run_bind, run_sizeOf h1, Result.andThen_ok, Sem.run_pure, ha hq]
  congr 3
  simp [List.extract_eq_take_drop]
 | false => simp [hb hq]
theorem part_rep {vs : List Value} {cs : List AVal} (h : RepL M ob vs cs) {sz off : Nat} {l : List AVal} (ht : ctake sz (cdrop off cs) = some l) : RepL M ob ((vs.drop off).take sz) l := by
 obtain ⟨h1, h2⟩ := ctake_some ht
 rw [cdrop_eq] at h2
 have hl := h.1
 have hlen : ((vs.drop off).take sz).length = l.length := by
  have : sz ≤ (cs.drop off).length := by
   rcases Nat.eq_zero_or_pos sz with h0 | h0
   ·omega
   ·have := h2 (sz - 1) _ (List.getElem?_eq_getElem (by omega))
    have := (List.getElem?_eq_some_iff.1 this).1
    omega
  simp at this
  simp; omega
 refine ⟨hlen, fun i v a hv ha => ?_⟩
 have hc := h2 i a ha
 rw [List.getElem?_drop] at hc
 have hi : i < sz := by rw [← h1]; exact (List.getElem?_eq_some_iff.1 ha).1
 rw [List.getElem?_take_of_lt hi, List.getElem?_drop] at hv
 exact h.2 _ v a hv hc
theorem part_sound {t : Nat} {sz off : Nat} (h1 : (P.info? t).map (·.size) = some sz) (h2 : (P.underlying t).isSome = true) {vs : List Value} {cs : List AVal} (h : RepL M ob vs cs)
  {l : List AVal} (ht : ctake sz (cdrop off cs) = some l) {a : AVal} (hagg : isAggT P t = true → a = .agg l) (hone : isAggT P t = false → l = [a]) : ∃ u, (part t vs.toArray off).run P w = .ok u w ∧ Rep M ob u a := by
 have hp := part_rep h ht
 cases hq : isAggT P t with
 | true =>
  rw [hagg hq]
  exact ⟨_, run_part h1 h2 vs _ (fun _ => rfl) (fun e => by rw [hq] at e; cases e), .agg _ l hp.1 hp.2⟩
 | false =>
  have hl1 := hone hq
  subst hl1
  obtain ⟨p1, p2⟩ := hp
  have hsz : sz = 1 := by have := (ctake_some ht).1; simpa using this.symm
  subst hsz
  have h0 : ((vs.drop off).take 1)[0]? = vs[off]? := by rw [List.getElem?_take_of_lt (by omega), List.getElem?_drop, Nat.add_zero]
  have hlt : 0 < ((vs.drop off).take 1).length := by rw [p1]; simp
  refine ⟨((vs.drop off).take 1)[0], run_part h1 h2 vs _ (fun e => by rw [hq] at e; cases e) (fun _ => ?_), p2 0 _ a (List.getElem?_eq_getElem hlt) rfl⟩
  rw [← h0]
  exact List.getElem?_eq_getElem hlt
theorem efield_s (hE : EnvOK E) {s f : Nat} {v : Value} {a : AVal} (hv : Rep M ob v a) : PS0 E.P M ob w (Instr.field s v f) obs base (efield E s a f) := by
 unfold efield
 split
 ·rename_i fs _ _ _ hT
  have hti := hE.tab s _ hT
  obtain ⟨⟨flds, hu, hf⟩, _⟩ := hti.kind
  split
  ·exact trivial
  ·rename_i off sz ag hn
   obtain ⟨fd, hfd, e1, e2, e3, e4⟩ := hf.get hn
   split
   ·rename_i cs
    split
    ·exact trivial
    ·rename_i l hl
     obtain ⟨vs, rfl, hlen, hr⟩ := hv.agg_inv
     have key : ∀ x, (isAggT E.P fd.type = true → x = .agg l) → (isAggT E.P fd.type = false → l = [x]) → PS0 E.P M ob w (Instr.field s (.agg vs.toArray) f) obs base (.val x) := by
      intro x h1 h2
      obtain ⟨u, hu', hr'⟩ := part_sound (P := E.P) (w := w) (t := fd.type) e2 e3 ⟨hlen, hr⟩ hl h1 h2
      refine ps_val (u := u) ?_ hr'
      have hfd' : flds[f]? = some fd := by simpa using hfd
      unfold Instr.field
      simp only [Sem.run_bind, run_underlying hu, Result.andThen_ok, hfd', asAgg, Sem.run_pure, e1, hu']
     cases hag : ag with
     | true => exact key _ (fun _ => rfl) (fun e => by rw [e4, hag] at e; cases e)
     | false =>
      simp only [cond_false]
      split
      ·exact key _ (fun e => by rw [e4, hag] at e; cases e) (fun _ => rfl)
      ·exact trivial
   ·exact trivial
 ·exact trivial
theorem efieldAddr_s (hE : EnvOK E) {s f : Nat} {v : Value} {a : AVal} (hv : Rep M ob v a) : PS0 E.P M ob w (Instr.fieldAt s v f) obs base (efieldAddr E s a f) := by
 unfold efieldAddr
 split
 ·rename_i fs _ _ _ hT
  have hti := hE.tab s _ hT
  obtain ⟨⟨flds, hu, hf⟩, _⟩ := hti.kind
  split
  ·exact trivial
  ·rename_i off sz ag hn
   obtain ⟨fd, hfd, e1, e2, e3, e4⟩ := hf.get hn
   have hfd' : flds[f]? = some fd := by simpa using hfd
   cases hz : Nat.beq sz 0 with
   | true => exact trivial
   | false =>
    simp only [cond_false]
    have hz' : ¬ sz = 0 := fun e => by subst e; simp at hz
    have key : ∀ ad, (Instr.fieldAt s (.pointer (some ad)) f).run E.P w = .ok (.pointer (some (ad.add off))) w := fun ad => by
     unfold Instr.fieldAt Instr.sureAddr fieldPlace
     simp only [Sem.run_bind, run_underlying hu, Result.andThen_ok, hfd', Sem.run_pure, run_sizeOf e2, if_neg hz', e1]
    split
    ·obtain ⟨b, o, rfl, hM⟩ := hv.ptr_inv
     refine ps_val (key _) ?_
     rw [addr_add]
     exact .ptr b (o + off) _ fun j c hc => by rw [cdrop_eq, List.getElem?_drop] at hc; have := hM _ c hc; rw [Nat.add_assoc]; exact this
    ·obtain ⟨b, rfl, hb⟩ := hv.ref_inv
     refine ps_val (key _) ?_
     rw [addr_add]
     exact .ref _ _ b hb
    ·cases hv with
     | eref _ _ _ _ _ b n c hb =>
      refine ps_val (key _) ?_
      rw [addr_add, Nat.add_assoc]
      exact .eref _ _ _ _ _ b n c hb
    ·exact trivial
 ·exact trivial
theorem RowAt.len {v : Value} {sz : Nat} {e : TypeId} {xs : List AVal} (h : RowAt M w v sz e xs) : (v = .slice none 0 0 ∧ xs = []) ∨ ∃ b cap, v = .slice (some ⟨b, 0, none⟩) xs.length cap ∧ v.ownBlock = some b ∧ xs.length ≤ cap ∧ cap ≤ maxLen := by
 obtain ⟨cv, h1, _⟩ := h
 rcases own_shape h1 with ⟨h2, h3⟩ | h2
 ·exact .inl ⟨h2, List.eq_nil_of_length_eq_zero h3⟩
 ·exact .inr h2
theorem maxLen_le : (maxLen : Int) ≤ 9223372036854775807 := by decide
theorem eindexAddr_s (hE : EnvOK E) (hm : Mem M ob obs w) {t : Nat} {v vi : Value} {a i : AVal} (hv : Rep M ob v a) (hvi : Rep M ob vi i) : PS0 E.P M ob w (Instr.indexAt t v vi) obs base (eindexAddr E (oget obs) t a i) := by
 unfold eindexAddr
 split
 ·rename_i ti _ n hT
  have hti := hE.tab t ti hT
  obtain ⟨rfl, hri⟩ := hvi.int_inv
  split
  ·rename_i e esz eb hk
   have hkind := hti.kind
   rw [hk] at hkind
   obtain ⟨⟨hu, i', z, hi, hs, _⟩, _⟩ := hkind
   have hse : (E.P.info? e).map (·.size) = some esz := by simp [hi, hs]
   have key : ∀ (ad : Addr) (len cap : Nat) (k : IntKind) (i : Nat), i < len → (Instr.indexAt t (.slice (some ad) len cap) (.int k (i : Int))).run E.P w = .ok (.pointer (some (ad.add (i * esz)))) w := fun ad len cap k i h1 => by
    unfold Instr.indexAt
    simp only [Sem.run_bind, asIntOf, Sem.run_pure, Result.andThen_ok, run_underlying hu]
    rw [if_pos ⟨by omega, by omega⟩]
    simp only [Sem.run_bind, run_sizeOf hse, Result.andThen_ok, Sem.run_pure, Int.toNat_natCast]
   have slc : ∀ {vv : Value} {xs : List AVal} {tk : Tk}, Rep M ob vv (.slice esz xs tk) → ∀ (k : IntKind) (i : Nat) x, xs[i]? = some x → PS0 E.P M ob w (Instr.indexAt t vv (.int k (i : Int))) obs base (.val (.ptr x.cells)) := fun {vv xs tk} hr k i x hx => by
    have hil : i < xs.length := (List.getElem?_eq_some_iff.1 hx).1
    cases hr.untok.1 with
    | slnil => simp at hil
    | slemp => simp at hil
    | sl _ b o n1 cap _ _ hn hcap hmm hz hM _ =>
     refine ps_val (key _ n1 cap _ i (by omega)) ?_
     rw [addr_add]
     exact .ptr b _ _ fun j c hj => hM i j x c hx hj
   split
   ·rename_i sz xs tt
    refine sdc fun hsz => ?_
    obtain rfl := beq_yes hsz
    rintro i rfl x hx
    exact slc hv _ i x hx
   ·rename_i k g
    obtain ⟨a, n', c, rfl, hat⟩ := hv.row_inv
    split
    ·rename_i g' sz e' xs hog
     refine sdc fun hg => ?_
     obtain ⟨hg1, hg2⟩ := beq_and hg
     obtain rfl := beq_yes hg1
     obtain rfl := beq_yes hg2
     rintro i rfl hi
     obtain ⟨hs', v, h1, h2, h3, h4, h5, _⟩ := hm.rowOf (og_some hog (by simp))
     rw [h4] at hat
     cases hat
     rcases h5.len with ⟨e1, rfl⟩ | ⟨b, cap, e1, e2, _⟩
     ·simp at hi
     ·cases e1
      refine ps_val (key _ _ _ _ i hi) ?_
      rw [addr_add, Nat.add_comm 0]
      exact .eref k _ i sz 0 b _ _ h4
    ·rename_i g' sz xs hog
     refine sdc fun hg => ?_
     obtain ⟨hg1, hg2⟩ := beq_and hg
     obtain rfl := beq_yes hg1
     obtain rfl := beq_yes hg2
     rintro i rfl x hx
     obtain ⟨hs', h1, v, h2, h3⟩ := hm.obj k _ (og_some hog (by simp))
     rw [at_get h1, h2] at hat
     cases hat
     exact slc h3.pure _ i x hx
    ·exact trivial
   ·rename_i k g lo len sz
    split
    ·rename_i g' sz' e' xs hog
     refine sdc fun hg => ?_
     obtain ⟨hg12, hg3⟩ := beq_and hg
     obtain ⟨hg1, hg2⟩ := beq_and hg12
     obtain rfl := beq_yes hg1
     obtain rfl := beq_yes hg2
     obtain rfl := beq_yes hg3
     rintro i rfl hi
     cases hv with
     | sub _ _ _ _ _ b n' c hat hl hn hc hmm =>
      refine ps_val (key _ _ _ _ i hi) ?_
      rw [addr_add, ← Nat.add_mul]
      exact .eref k _ (lo + i) sz 0 b _ _ hat
     | sub0 => simp at hi
    ·exact trivial
   ·exact trivial
  ·rename_i len esz ea hk
   have hkind := hti.kind
   rw [hk] at hkind
   obtain ⟨⟨e, hu, hse, _⟩, _⟩ := hkind
   have key : ∀ (ad : Addr) k, 0 ≤ n → n.toNat < len → (Instr.indexAt t (.pointer (some ad)) (.int k n)).run E.P w = .ok (.pointer (some (ad.add (n.toNat * esz)))) w := fun ad k h0 h1 => by
    unfold Instr.indexAt Instr.sureAddr
    simp only [Sem.run_bind, asIntOf, Sem.run_pure, Result.andThen_ok, run_underlying hu]
    rw [if_pos ⟨h0, by omega⟩]
    simp only [Sem.run_bind, run_sizeOf hse, Result.andThen_ok, Sem.run_pure]
   split
   ·rintro ⟨c0, c1⟩
    obtain ⟨b, rfl, hb⟩ := hv.ref_inv
    refine ps_val (key _ _ c0 c1) ?_
    rw [addr_add]
    exact .ref _ _ b hb
   ·rintro ⟨c0, c1⟩
    obtain ⟨b, o, rfl, hM⟩ := hv.ptr_inv
    refine ps_val (key _ _ c0 c1) ?_
    rw [addr_add]
    exact .ptr b _ _ fun j c hc => by rw [cdrop_eq, List.getElem?_drop] at hc; have := hM _ c hc; rw [Nat.add_assoc]; exact this
   ·exact trivial
  ·exact trivial
 ·exact trivial
theorem eindex_s (hE : EnvOK E) {t : Nat} {v vi : Value} {a i : AVal} (hv : Rep M ob v a) (hvi : Rep M ob vi i) : PS0 E.P M ob w (Instr.index t v vi) obs base (eindex E t a i) := by
 unfold eindex
 split
 ·rename_i l k n
  obtain ⟨rfl, _⟩ := hvi.int_inv
  obtain ⟨rfl, _⟩ := hv.str_inv
  split
  ·rename_i _ _ _ hT
   obtain ⟨hu, _⟩ := (hE.tab t _ hT).kind
   rintro i rfl c hx
   refine ⟨rfl, .int .u8 c.toNat, ?_, rep_byte c⟩
   have hlt : i < l.length := (List.getElem?_eq_some_iff.1 hx).1
   unfold Instr.index
   simp only [Sem.run_bind, asIntOf, Sem.run_pure, Result.andThen_ok, run_underlying hu]
   rw [if_pos (by omega)]
   have hb : (⟨l.toArray⟩ : ByteArray)[i]? = some c := by
    have : i < (⟨l.toArray⟩ : ByteArray).size := by simpa [ByteArray.size] using hlt
    rw [getElem?_pos (⟨l.toArray⟩ : ByteArray) i this]
    have hxx := (List.getElem?_eq_some_iff.1 hx).2
    rw [← hxx]
    rfl
   rw [Int.toNat_natCast, hb]
   simp
  ·exact trivial
 ·rename_i cs k n
  obtain ⟨rfl, _⟩ := hvi.int_inv
  split
  ·rename_i len esz ag _ _ _ hT
   obtain ⟨⟨e, hu, hse, hes, hag⟩, _⟩ := (hE.tab t _ hT).kind
   split
   ·rename_i l hl
    obtain ⟨vs, rfl, hlen, hr⟩ := hv.agg_inv
    have key : ∀ x, 0 ≤ n → n < len → (isAggT E.P e = true → x = .agg l) → (isAggT E.P e = false → l = [x]) → PS0 E.P M ob w (Instr.index t (.agg vs.toArray) (.int k n)) obs base (.val x) := by
     intro x h0 h1 h2 h3
     obtain ⟨u, hu', hr'⟩ := part_sound (P := E.P) (w := w) (t := e) hse hes ⟨hlen, hr⟩ hl h2 h3
     refine ps_val (u := u) ?_ hr'
     unfold Instr.index
     simp only [Sem.run_bind, asIntOf, Sem.run_pure, Result.andThen_ok, run_underlying hu]
     rw [if_pos ⟨h0, h1⟩]
     simp only [Sem.run_bind, run_sizeOf hse, Result.andThen_ok, hu']
    cases hagv : ag with
    | true => exact fun hc => key _ hc.1 hc.2 (fun _ => rfl) (fun e => by rw [hag, hagv] at e; cases e)
    | false =>
     simp only [cond_false]
     split
     ·exact fun hc => key _ hc.1 hc.2 (fun e => by rw [hag, hagv] at e; cases e) (fun _ => rfl)
     ·exact trivial
   ·exact trivial
  ·exact trivial
 ·exact trivial
theorem elen_s (hE : EnvOK E) (hm : Mem M ob obs w) {t ty : TypeId} {v : Value} {a : AVal} (hv : Rep M ob v a) : PS0 E.P M ob w (Builtin.len_ #[t] ty #[v]) obs base (elen E (oget obs) t a) := by
 unfold elen
 split
 ·exact trivial
 ·rename_i ti hT
  have hkind := (hE.tab t ti hT).kind
  have i64 : ∀ n : Nat, (n : Int) ≤ 9223372036854775807 → inR .i64 (n : Int) := fun n h => ⟨by simp only [kmin]; omega, by simp only [kmax]; omega⟩
  have i0 : Rep M ob (.int .i64 (0 : Nat)) (.int .i64 (0 : Nat)) := .int _ _ (i64 0 (by decide))
  have slc : ∀ {vv : Value} {sz : Nat} {xs : List AVal} {tk : Tk} {e : TypeId}, E.P.underlying t = some (.slice e) → Rep M ob vv (.slice sz xs tk) → PS0 E.P M ob w (Builtin.len_ #[t] ty #[vv]) obs base (.val (.int .i64 xs.length)) := fun {vv sz xs tk e} hu hr => by
   obtain ⟨a, c, rfl, _, _, h4⟩ := hr.slice_inv
   exact ps_val (u := .int .i64 xs.length) (by simp [Builtin.len_, run_underlying hu, goInt]) (.int _ _ (i64 _ h4))
  split
  ·rename_i l hk
   rw [hk] at hkind
   obtain ⟨rfl, h⟩ := hv.str_inv
   exact ps_val (u := .int .i64 l.length) (by simp [Builtin.len_, run_underlying hkind.1, goInt, mk_size]) (.int _ _ (i64 _ h))
  ·rename_i hk
   rw [hk] at hkind
   exact slc hkind.1.1 hv
  ·rename_i hk
   rw [hk] at hkind
   cases hv
   exact ps_val (u := .int .i64 (0 : Nat)) (by simp [Builtin.len_, run_underlying hkind.1.1, goInt]) i0
  ·rename_i hk
   rw [hk] at hkind
   cases hv with
   | csl _ _ _ _ b h hmm => exact ps_val (u := .int .i64 (Nat.cast _)) (by simp [Builtin.len_, run_underlying hkind.1.1, goInt]) (.int _ _ (i64 _ hmm))
  ·rename_i hk
   rw [hk] at hkind
   cases hv
   exact fun hmm => ps_val (u := .int .i64 (Nat.cast _)) (by simp [Builtin.len_, run_underlying hkind.1.1, goInt]) (.int _ _ (i64 _ hmm))
  ·rename_i hk
   rw [hk] at hkind
   obtain ⟨a, n, c, rfl, hat⟩ := hv.row_inv
   split
   ·rename_i g' sz e xs hog
    refine sdc fun hg => ?_
    obtain rfl := beq_yes hg
    obtain ⟨hs', v, h1, h2, h3, h4, h5, _⟩ := hm.rowOf (og_some hog (by simp))
    rw [h4] at hat
    cases hat
    rcases h5.len with ⟨e1, rfl⟩ | ⟨b, cap, e1, e2, e3, e4⟩
    ·cases e1
     exact ps_val (u := .int .i64 (0 : Nat)) (by simp [Builtin.len_, run_underlying hkind.1.1, goInt]) i0
    ·cases e1
     exact ps_val (u := .int .i64 xs.length) (by simp [Builtin.len_, run_underlying hkind.1.1, goInt]) (.int _ _ (i64 _ (by have := maxLen_le; omega)))
   ·rename_i g' sz xs hog
    refine sdc fun hg => ?_
    obtain rfl := beq_yes hg
    obtain ⟨hs', h1, v, h2, h3⟩ := hm.obj _ _ (og_some hog (by simp))
    rw [at_get h1, h2] at hat
    cases hat
    exact slc hkind.1.1 (h3.pure (M := M) (ob := ob))
   ·exact trivial
  ·rename_i hk
   rw [hk] at hkind
   cases hv with
   | sub _ _ _ _ _ b n c hat hl hn hc hmm => exact ps_val (u := .int .i64 (Nat.cast _)) (by simp [Builtin.len_, run_underlying hkind.1.1, goInt]) (.int _ _ (i64 _ (by omega)))
   | sub0 _ _ _ _ a a' n c => exact ps_val (u := .int .i64 (0 : Nat)) (by simp [Builtin.len_, run_underlying hkind.1.1, goInt]) i0
  ·rename_i _ hk
   rw [hk] at hkind
   obtain ⟨⟨e, hu, _⟩, _⟩ := hkind
   intro hn
   exact ps_val (u := .int .i64 (Nat.cast _)) (by simp [Builtin.len_, run_underlying hu, goInt]) (.int _ _ (i64 _ hn))
  ·exact trivial
end
def VM (P : Program) (M : Imm) (ob : Hs) (obs : List AObj) (w : World) (s : Sem Value) (v : AVal) (obs' : List AObj) : Prop :=
 ∃ u w' M' ob', s.run P w = .ok u w' ∧ Ext M ob obs w M' ob' obs' w' ∧ Mem M' ob' obs' w' ∧ Still ob obs ob' obs' ∧ Rep M' ob' u v
abbrev PM (P : Program) (M : Imm) (ob : Hs) (w : World) (s : Sem Value) (obs : List AObj) (base : Nat) (r : OR) : Prop := Sd (VM P M ob obs w s) (fun _ _ => False) (fun _ => False) obs base r
section
variable {P : Program} {E : Env} {M : Imm} {ob : Hs} {obs : List AObj} {w : World} {base : Nat}
theorem PM.of (hm : Mem M ob obs w) {s : Sem Value} {r : OR} (h : PS0 P M ob w s obs base r) : PM P M ob w s obs base r :=
 Sd.mono (fun v o ⟨h1, u, h2, h3⟩ => ⟨u, w, M, ob, h2, h1 ▸ Ext.refl _ _ _ _, h1 ▸ hm, h1 ▸ Still.refl _ _, h3⟩) (fun _ _ h => h) (fun _ h => h) h
theorem Sound.pm {ρv : Operand → Value} {op : Op} {ty : TypeId} {r : OR} {s : Sem Value}
  (hx : ∀ d pos after g, execOp ρv ⟨d, op, ty, pos, after, g⟩ = (s >>= fun v => Pure.pure (.value v))) (h : PM P M ob w s obs base r) : Sound P ρv op ty M ob obs w base r :=
 Sd.mono (fun v o ⟨u, w', M', ob', h2, h3, h4, h5, h6⟩ => ⟨u, w', M', ob', fun d pos after g => .inl (by rw [hx]; simp only [Sem.run_bind, h2, Result.andThen_ok, Sem.run_pure]), h3, h4, h5, h6⟩) (fun _ _ h => h.elim) (fun _ h => h.elim) h
def OptRep (M : Imm) (ob : Hs) (v : Option Value) (a : Option AVal) : Prop := (v = none ∧ a = none) ∨ ∃ u x, v = some u ∧ a = some x ∧ Rep M ob u x
def BndV (v : Option Value) (q : Option Nat) : Prop := (v = none ∧ q = none) ∨ ∃ (k : IntKind) (n : Nat), v = some (.int k n) ∧ q = some n
theorem bnd_s {s : Sem Value} {vl : Option Value} {l : Option AVal} (h : OptRep M ob vl l) {f : Option Nat → OR} (k : ∀ q, BndV vl q → PS0 P M ob w s obs base (f q)) : PS0 P M ob w s obs base (bnd l f) := by
 rcases h with ⟨rfl, rfl⟩ | ⟨u, x, rfl, rfl, hr⟩
 ·exact k none (.inl ⟨rfl, rfl⟩)
 ·cases x with
  | int kk n =>
   obtain ⟨rfl, _⟩ := hr.int_inv
   rintro i rfl
   exact k (some i) (.inr ⟨kk, i, rfl, rfl⟩)
  | _ => exact trivial
theorem BndV.none {v : Option Value} (h : BndV v none) : v = none := by rcases h with ⟨h, _⟩ | ⟨_, _, _, h⟩; exact h; cases h
theorem BndV.some {v : Option Value} {n : Nat} (h : BndV v (some n)) : ∃ k, v = some (.int k n) := by rcases h with ⟨_, h⟩ | ⟨k, n, h1, h⟩; cases h; cases h; exact ⟨k, h1⟩
theorem elemOf {t e : TypeId} (h : P.underlying t = some (.slice e)) : P.underlying t = some (.slice (P.elem t)) ∧ P.elem t = e := by
 have : P.elem t = e := by simp [Program.elem, h]
 exact ⟨by rw [this]; exact h, this⟩
theorem sliced_rep {v : Value} {sz : Nat} {xs : List AVal} (h : Rep M ob v (.slice sz xs .no)) : ∃ a n c, v = .slice a n c ∧ xs.length = n ∧ n ≤ c ∧ ∀ l h', l ≤ h' → h' ≤ n →
  Rep M ob (sliced a l h' c sz) (.slice sz ((xs.take h').drop l) .no) ∧ (Rep M ob (sliced a l h' h' sz) (.slice sz ((xs.take h').drop l) .no)) := by
 cases h with
 | slnil sz =>
  refine ⟨none, 0, 0, rfl, rfl, Nat.le_refl _, fun l h' h1 h2 => ?_⟩
  have : h' = 0 := by omega
  subst this
  have : l = 0 := by omega
  subst this
  exact ⟨.slnil sz .no trivial, .slnil sz .no trivial⟩
 | slemp sz _ a cap =>
  refine ⟨some a, 0, cap, rfl, rfl, Nat.zero_le _, fun l h' h1 h2 => ?_⟩
  have : h' = 0 := by omega
  subst this
  have : l = 0 := by omega
  subst this
  have hs : ∀ m, ∃ b c, sliced (some a) 0 0 m sz = .slice (some b) 0 c := fun m => by
   unfold sliced
   split
   ·exact ⟨_, _, rfl⟩
   ·exact ⟨_, _, rfl⟩
  obtain ⟨b1, c1, e1⟩ := hs cap
  obtain ⟨b2, c2, e2⟩ := hs 0
  rw [e1, e2]
  exact ⟨.slemp _ _ _ _ trivial, .slemp _ _ _ _ trivial⟩
 | sl sz b o n c xs _ hn hc hmm hz hM =>
  refine ⟨_, n, c, rfl, hn, hc, fun l h' h1 h2 => ?_⟩
  have gen : ∀ m, h' ≤ m → Rep M ob (sliced (some ⟨b, o, none⟩) l h' m sz) (.slice sz ((xs.take h').drop l) .no) := by
   intro m hm
   have hlen : ((xs.take h').drop l).length = h' - l := by simp; omega
   have hzz : ∀ x ∈ (xs.take h').drop l, x.cells.length = sz := fun x hx => hz x (List.mem_of_mem_take (List.mem_of_mem_drop hx))
   have hget : ∀ (i : Nat) x, ((xs.take h').drop l)[i]? = some x → xs[l + i]? = some x := fun i x hx => by
    rw [List.getElem?_drop, List.getElem?_take] at hx
    split at hx
    ·exact hx
    ·cases hx
   by_cases hml : m = l
   ·have e : sliced (some ⟨b, o, none⟩) l h' m sz = .slice (some ⟨b, o, none⟩) (h' - l) (m - l) := by simp [sliced, hml]
    rw [e]
    refine .sl sz b o _ _ _ _ hlen (by omega) (by omega) hzz (fun i j x c hx hc => ?_) trivial
    have : i < h' - l := by rw [← hlen]; exact (List.getElem?_eq_some_iff.1 hx).1
    omega
   ·have e : sliced (some ⟨b, o, none⟩) l h' m sz = .slice (some ⟨b, o + l * sz, none⟩) (h' - l) (m - l) := by simp [sliced, hml, addr_add]
    rw [e]
    refine .sl sz b _ _ _ _ _ hlen (by omega) (by omega) hzz (fun i j x c hx hc => ?_) trivial
    have := hM _ j x c (hget i x hx) hc
    rwa [Nat.add_mul, ← Nat.add_assoc] at this
  exact ⟨gen c (by omega), gen h' (Nat.le_refl _)⟩
theorem sub_of_row {k g x y sz : Nat} {a : Option Addr} {n c : Nat} (ha : a = none ∧ n = 0 ∧ c = 0 ∨ ∃ b, a = some ⟨b, 0, none⟩) (hat : at' ob k g = some (.slice a n c)) (hc : n ≤ c) (hxy : x ≤ y) (hy : y ≤ n) (hmm : (n : Int) ≤ 9223372036854775807) :
  Rep M ob (sliced a x y c sz) (.sub k g x (y - x) sz) := by
 by_cases hcx : c = x
 ·have e : sliced a x y c sz = .slice a 0 0 := by
   have : y - x = 0 := by omega
   simp [sliced, hcx, this]
  rw [e]
  have : y - x = 0 := by omega
  rw [this]
  exact .sub0 k g x sz a a n c hat (by omega) (by omega)
 ·rcases ha with ⟨rfl, rfl, rfl⟩ | ⟨b, rfl⟩
  ·omega
  ·have e : sliced (some ⟨b, 0, none⟩) x y c sz = .slice (some ⟨b, x * sz, none⟩) (y - x) (c - x) := by simp [sliced, hcx, addr_add]
   rw [e]
   exact .sub k g x (y - x) sz b n c hat (by omega) (by omega) hc hmm
theorem sub_of_sub {k g lo x y sz b n c : Nat} (hat : at' ob k g = some (.slice (some ⟨b, 0, none⟩) n c)) (hl : lo < c) (hc : n ≤ c) (hxy : x ≤ y) (hy : lo + y ≤ n) (hmm : (n : Int) ≤ 9223372036854775807) :
  Rep M ob (sliced (some ⟨b, lo * sz, none⟩) x y (c - lo) sz) (.sub k g (lo + x) (y - x) sz) := by
 by_cases hcx : c - lo = x
 ·have h0 : y - x = 0 := by omega
  have e : sliced (some ⟨b, lo * sz, none⟩) x y (c - lo) sz = .slice (some ⟨b, lo * sz, none⟩) 0 0 := by simp [sliced, hcx, h0]
  rw [e, h0]
  exact .sub0 k g (lo + x) sz _ _ n c hat (by omega) (by omega)
 ·have e : sliced (some ⟨b, lo * sz, none⟩) x y (c - lo) sz = .slice (some ⟨b, (lo + x) * sz, none⟩) (y - x) (c - (lo + x)) := by
   simp [sliced, hcx, addr_add, Nat.add_mul]
   omega
  rw [e]
  exact .sub k g (lo + x) (y - x) sz b n c hat (by omega) (by omega) hc hmm
theorem eslice_s (hE : EnvOK E) (hm : Mem M ob obs w) {t : TypeId} {v : Value} {a : AVal} (hv : Rep M ob v a) {vlo vhi vmx : Option Value} {lo hi mx : Option AVal}
  (hlo : OptRep M ob vlo lo) (hhi : OptRep M ob vhi hi) (hmx : OptRep M ob vmx mx) : PS0 E.P M ob w (Instr.sliceAt t v vlo vhi vmx) obs base (eslice E (oget obs) t a lo hi mx) := by
 have nomx : mx = none → vmx = none := fun e => by
  rcases hmx with ⟨h, _⟩ | ⟨_, _, _, h, _⟩
  ·exact h
  ·rw [e] at h; cases h
 have nolo : lo = none → vlo = none := fun e => by
  rcases hlo with ⟨h, _⟩ | ⟨_, _, _, h, _⟩
  ·exact h
  ·rw [e] at h; cases h
 have nohi : hi = none → vhi = none := fun e => by
  rcases hhi with ⟨h, _⟩ | ⟨_, _, _, h, _⟩
  ·exact h
  ·rw [e] at h; cases h
 unfold eslice
 split
 ·exact trivial
 ·rename_i ti hT
  have hti := hE.tab t ti hT
  have hkind := hti.kind
  split
  ·rename_i l
   obtain ⟨rfl, hlm⟩ := hv.str_inv
   split
   ·have hk := ‹ti.kind = TK.str›
    rw [hk] at hkind
    obtain rfl := nomx rfl
    have hu := hkind.1
    have hb : ∀ i j, (⟨l.toArray⟩ : ByteArray).extract i j = ⟨((l.take j).drop i).toArray⟩ := mk_extract l
    have hs : (⟨l.toArray⟩ : ByteArray).size = l.length := mk_size l
    refine bnd_s hlo fun qlo blo => bnd_s hhi fun qhi bhi => ?_
    cases qlo with
    | none =>
     obtain rfl := blo.none
     cases qhi with
     | none =>
      obtain rfl := bhi.none
      refine ps_val (u := .string ⟨l.toArray⟩) ?_ (.str _ hlm)
      rw [run_sliceAt_string w t _ _ _ _ hu]
      unfold Instr.slice Instr.sliceBounds
      simp only [Sem.run_bind, run_underlying hu, Result.andThen_ok, Option.isSome_none, Bool.false_eq_true, if_false, Sem.run_pure, hb, hs]
      simp
     | some y =>
      obtain ⟨k, rfl⟩ := bhi.some
      intro c1
      refine ps_val (u := .string ⟨(l.take y).toArray⟩) ?_ (.str _ (by simp; omega))
      rw [run_sliceAt_string w t _ _ _ _ hu]
      unfold Instr.slice Instr.sliceBounds Instr.sliceBound
      simp only [Sem.run_bind, run_underlying hu, Result.andThen_ok, Option.isSome_none, Bool.false_eq_true, if_false, Sem.run_pure, hb, hs, asIntOf]
      rw [if_pos ⟨by omega, by omega⟩]
      simp only [Sem.run_pure, Result.andThen_ok]
      simp
    | some x =>
     obtain ⟨k, rfl⟩ := blo.some
     cases qhi with
     | none =>
      obtain rfl := bhi.none
      intro c1
      refine ps_val (u := .string ⟨(l.drop x).toArray⟩) ?_ (.str _ (by simp; omega))
      rw [run_sliceAt_string w t _ _ _ _ hu]
      unfold Instr.slice Instr.sliceBounds Instr.sliceBound
      simp only [Sem.run_bind, run_underlying hu, Result.andThen_ok, Option.isSome_none, Bool.false_eq_true, if_false, Sem.run_pure, hb, hs, asIntOf]
      rw [if_pos ⟨by omega, by omega⟩]
      simp only [Sem.run_pure, Result.andThen_ok]
      simp
     | some y =>
      obtain ⟨k', rfl⟩ := bhi.some
      rintro ⟨c1, c2⟩
      refine ps_val (u := .string ⟨((l.take y).drop x).toArray⟩) ?_ (.str _ (by simp; omega))
      rw [run_sliceAt_string w t _ _ _ _ hu]
      unfold Instr.slice Instr.sliceBounds Instr.sliceBound
      simp only [Sem.run_bind, run_underlying hu, Result.andThen_ok, Option.isSome_none, Bool.false_eq_true, if_false, Sem.run_pure, hb, hs, asIntOf]
      rw [if_pos ⟨by omega, by omega⟩]
      simp only [Sem.run_pure, Result.andThen_ok]
      rw [if_pos ⟨by omega, by omega⟩]
      simp only [Sem.run_pure, Result.andThen_ok, Int.toNat_natCast]
   ·exact trivial
  ·rename_i sz xs tt
   split
   ·rename_i e esz eb hk
    rw [hk] at hkind
    obtain ⟨⟨hu, ie, z, hi', hs, _⟩, _⟩ := hkind
    refine sdc fun hg => ?_
    obtain rfl := beq_yes hg
    obtain ⟨hu', hel⟩ := elemOf hu
    have hse : (E.P.info? (E.P.elem t)).map (·.size) = some sz := by rw [hel]; simp [hi', hs]
    obtain ⟨ad, n, cap, rfl, hn, hcap, key⟩ := sliced_rep hv.untok.1
    have hso := fun u : World => run_sizeOf (P := E.P) hse u
    refine bnd_s hlo fun qlo blo => bnd_s hhi fun qhi bhi => bnd_s hmx fun qmx bmx => ?_
    cases qmx with
    | none =>
     obtain rfl := bmx.none
     cases qlo with
     | none =>
      obtain rfl := blo.none
      cases qhi with
      | none =>
       obtain rfl := bhi.none
       refine ps_val (u := sliced ad 0 n cap sz) ?_ ?_
       ·rw [run_sliceAt_slice w t _ _ _ _ hu', run_slice_all w t ad n cap hu', hso]; rfl
       ·have := (key 0 n (by omega) (Nat.le_refl _)).1
        rw [← hn, List.take_length, List.drop_zero] at this
        rw [← hn]; exact this
      | some y =>
       obtain ⟨k, rfl⟩ := bhi.some
       intro c1
       refine ps_val (u := sliced ad 0 y cap sz) ?_ ?_
       ·rw [run_sliceAt_slice w t _ _ _ _ hu', run_slice_h w t ad n cap hu' k y (by omega) (by omega), hso]; rfl
       ·have := (key 0 y (by omega) (by omega)).1
        rw [List.drop_zero] at this
        exact this
     | some x =>
      obtain ⟨k, rfl⟩ := blo.some
      cases qhi with
      | none =>
       obtain rfl := bhi.none
       intro c1
       refine ps_val (u := sliced ad x n cap sz) ?_ ?_
       ·rw [run_sliceAt_slice w t _ _ _ _ hu', run_slice_l w t ad n cap hu' k x (by omega) (by omega), hso]; rfl
       ·have := (key x n (by omega) (Nat.le_refl _)).1
        rw [← hn, List.take_length] at this
        rw [← hn]; exact this
      | some y =>
       obtain ⟨k', rfl⟩ := bhi.some
       rintro ⟨c1, c2⟩
       refine ps_val (u := sliced ad x y cap sz) ?_ ?_
       ·rw [run_sliceAt_slice w t _ _ _ _ hu', run_slice_lh w t ad n cap hu' k k' x y (by omega) (by omega) (by omega), hso]; rfl
       ·exact (key x y (by omega) (by omega)).1
    | some m =>
     obtain ⟨km, rfl⟩ := bmx.some
     cases qlo with
     | some x => cases qhi <;> exact trivial
     | none =>
      obtain rfl := blo.none
      cases qhi with
      | none => exact trivial
      | some y =>
       obtain ⟨k, rfl⟩ := bhi.some
       rintro ⟨c1, rfl⟩
       have hk2 := (key 0 m (by omega) (by omega)).2
       rw [List.drop_zero] at hk2
       refine ps_val (u := sliced ad 0 m m sz) ?_ ?_
       ·rw [run_sliceAt_slice w t _ _ _ _ hu', run_slice_hm w t ad n cap hu' k km m m (by omega) (Int.le_refl _) (by omega), hso]; rfl
       ·exact hk2.tok ⟨_, m, rfl⟩
   ·exact trivial
  ·rename_i k g
   split
   ·rename_i g' sz e' xs _ hog
    have hk := ‹ti.kind = TK.slc _ _ _›
    rw [hk] at hkind
    refine sdc fun hg => ?_
    obtain ⟨hg1, hg2⟩ := beq_and hg
    obtain rfl := beq_yes hg1
    obtain rfl := beq_yes hg2
    obtain ⟨⟨hu, ie, z, hi', hs, _⟩, _⟩ := hkind
    obtain ⟨hu', hel⟩ := elemOf hu
    have hse : (E.P.info? (E.P.elem t)).map (·.size) = some sz := by rw [hel]; simp [hi', hs]
    have hso := fun u : World => run_sizeOf (P := E.P) hse u
    obtain rfl := nomx rfl
    obtain ⟨ad, n, cap, rfl, hat⟩ := hv.row_inv
    obtain ⟨hs', v, h1, h2, h3, h4, h5, _⟩ := hm.rowOf (og_some hog (by simp))
    rw [hat] at h4
    cases h4
    have hn : n = xs.length ∧ n ≤ cap ∧ (n : Int) ≤ 9223372036854775807 ∧ (ad = none ∧ n = 0 ∧ cap = 0 ∨ ∃ b, ad = some ⟨b, 0, none⟩) := by
     rcases h5.len with ⟨e1, rfl⟩ | ⟨b, c, e1, e2, e3, e4⟩
     ·cases e1; exact ⟨rfl, Nat.le_refl _, by decide, .inl ⟨rfl, rfl, rfl⟩⟩
     ·cases e1; exact ⟨rfl, e3, by have := maxLen_le; omega, .inr ⟨b, rfl⟩⟩
    obtain ⟨hn, hcap, hmm, had⟩ := hn
    refine bnd_s hlo fun qlo blo => bnd_s hhi fun qhi bhi => ?_
    cases qlo with
    | none =>
     obtain rfl := blo.none
     cases qhi with
     | none =>
      obtain rfl := bhi.none
      refine ps_val (u := .slice ad n cap) ?_ hv
      rw [run_sliceAt_slice w t _ _ _ _ hu', run_slice_all w t ad n cap hu', hso]
      show Result.ok (sliced ad 0 n cap sz) w = _
      congr 1
      rcases had with ⟨rfl, rfl, rfl⟩ | ⟨b, rfl⟩
      ·rfl
      ·simp [sliced, addr_add]
     | some y =>
      obtain ⟨k', rfl⟩ := bhi.some
      intro c1
      refine ps_val (u := sliced ad 0 y cap sz) ?_ (sub_of_row had hat hcap (Nat.zero_le _) (by omega) hmm)
      rw [run_sliceAt_slice w t _ _ _ _ hu', run_slice_h w t ad n cap hu' k' y (by omega) (by omega), hso]; rfl
    | some x =>
     obtain ⟨kx, rfl⟩ := blo.some
     cases qhi with
     | none =>
      obtain rfl := bhi.none
      intro c1
      refine ps_val (u := sliced ad x n cap sz) ?_ ?_
      ·rw [run_sliceAt_slice w t _ _ _ _ hu', run_slice_l w t ad n cap hu' kx x (by omega) (by omega), hso]; rfl
      ·rw [← hn]; exact sub_of_row had hat hcap (by omega) (by omega) hmm
     | some y =>
      obtain ⟨k', rfl⟩ := bhi.some
      rintro ⟨c1, c2⟩
      refine ps_val (u := sliced ad x y cap sz) ?_ (sub_of_row had hat hcap (by omega) (by omega) hmm)
      rw [run_sliceAt_slice w t _ _ _ _ hu', run_slice_lh w t ad n cap hu' kx k' x y (by omega) (by omega) (by omega), hso]; rfl
   ·exact trivial
  ·rename_i k g l0 len sz
   split
   ·rename_i g' sz' e' xs _ hog
    have hk := ‹ti.kind = TK.slc _ _ _›
    rw [hk] at hkind
    refine sdc fun hg => ?_
    obtain ⟨hg12, hg3⟩ := beq_and hg
    obtain ⟨hg1, hg2⟩ := beq_and hg12
    obtain rfl := beq_yes hg1
    obtain rfl := beq_yes hg2
    obtain rfl := beq_yes hg3
    obtain ⟨⟨hu, ie, z, hi', hs, _⟩, _⟩ := hkind
    obtain ⟨hu', hel⟩ := elemOf hu
    have hse : (E.P.info? (E.P.elem t)).map (·.size) = some sz := by rw [hel]; simp [hi', hs]
    have hso := fun u : World => run_sizeOf (P := E.P) hse u
    obtain rfl := nomx rfl
    obtain ⟨hs', v, h1, h2, h3, h4, h5, _⟩ := hm.rowOf (og_some hog (by simp))
    have nl : ∀ {n : Nat} {ad : Option Addr} {cap : Nat}, at' ob k g = some (.slice ad n cap) → n = xs.length ∧ n ≤ cap := fun {n ad cap} hat => by
     rw [hat] at h4
     cases h4
     rcases h5.len with ⟨e1, rfl⟩ | ⟨b, c, e1, e2, e3, e4⟩
     ·cases e1; exact ⟨rfl, Nat.le_refl _⟩
     ·cases e1; exact ⟨rfl, e3⟩
    cases hv with
    | sub _ _ _ _ _ b n c hat hl hn hc hmm =>
     obtain ⟨hnx, _⟩ := nl hat
     refine bnd_s hlo fun qlo blo => bnd_s hhi fun qhi bhi => ?_
     cases qlo with
     | none =>
      obtain rfl := blo.none
      cases qhi with
      | none =>
       obtain rfl := bhi.none
       refine ps_val (u := sliced (some ⟨b, l0 * sz, none⟩) 0 len (c - l0) sz) ?_ (sub_of_sub hat hl hc (Nat.zero_le _) hn hmm)
       rw [run_sliceAt_slice w t _ _ _ _ hu', run_slice_all w t _ len _ hu', hso]; rfl
      | some y =>
       obtain ⟨k', rfl⟩ := bhi.some
       intro c1
       refine ps_val (u := sliced (some ⟨b, l0 * sz, none⟩) 0 y (c - l0) sz) ?_ (sub_of_sub hat hl hc (Nat.zero_le _) (by omega) hmm)
       rw [run_sliceAt_slice w t _ _ _ _ hu', run_slice_h w t _ len _ hu' k' y (by omega) (by omega), hso]; rfl
     | some x =>
      obtain ⟨kx, rfl⟩ := blo.some
      cases qhi with
      | none =>
       obtain rfl := bhi.none
       intro c1
       refine ps_val (u := sliced (some ⟨b, l0 * sz, none⟩) x len (c - l0) sz) ?_ (sub_of_sub hat hl hc c1 hn hmm)
       rw [run_sliceAt_slice w t _ _ _ _ hu', run_slice_l w t _ len _ hu' kx x (by omega) (by omega), hso]; rfl
      | some y =>
       obtain ⟨k', rfl⟩ := bhi.some
       rintro ⟨c1, c2⟩
       refine ps_val (u := sliced (some ⟨b, l0 * sz, none⟩) x y (c - l0) sz) ?_ (sub_of_sub hat hl hc c1 (by omega) hmm)
       rw [run_sliceAt_slice w t _ _ _ _ hu', run_slice_lh w t _ len _ hu' kx k' x y (by omega) (by omega) (by omega), hso]; rfl
    | sub0 _ _ _ _ a a' n c hat hl hc =>
     obtain ⟨hnx, _⟩ := nl hat
     have e0 : sliced a' 0 0 0 sz = .slice a' 0 0 := by simp [sliced]
     have r0 : Rep M ob (sliced a' 0 0 0 sz) (.sub k g l0 0 sz) := by rw [e0]; exact .sub0 _ _ _ _ a a' n c hat hl hc
     refine bnd_s hlo fun qlo blo => bnd_s hhi fun qhi bhi => ?_
     cases qlo with
     | none =>
      obtain rfl := blo.none
      cases qhi with
      | none =>
       obtain rfl := bhi.none
       refine ps_val (u := sliced a' 0 0 0 sz) ?_ r0
       rw [run_sliceAt_slice w t _ _ _ _ hu', run_slice_all w t _ 0 _ hu', hso]; rfl
      | some y =>
       obtain ⟨k', rfl⟩ := bhi.some
       intro c1
       obtain rfl : y = 0 := by omega
       refine ps_val (u := sliced a' 0 0 0 sz) ?_ r0
       rw [run_sliceAt_slice w t _ _ _ _ hu', run_slice_h w t _ 0 _ hu' k' ((0 : Nat) : Int) (by omega) (by omega), hso]; rfl
     | some x =>
      obtain ⟨kx, rfl⟩ := blo.some
      cases qhi with
      | none =>
       obtain rfl := bhi.none
       intro c1
       obtain rfl : x = 0 := by omega
       refine ps_val (u := sliced a' 0 0 0 sz) ?_ r0
       rw [run_sliceAt_slice w t _ _ _ _ hu', run_slice_l w t _ 0 _ hu' kx ((0 : Nat) : Int) (by omega) (by omega), hso]; rfl
      | some y =>
       obtain ⟨k', rfl⟩ := bhi.some
       rintro ⟨c1, c2⟩
       obtain rfl : y = 0 := by omega
       obtain rfl : x = 0 := by omega
       refine ps_val (u := sliced a' 0 0 0 sz) ?_ r0
       rw [run_sliceAt_slice w t _ _ _ _ hu', run_slice_lh w t _ 0 _ hu' kx k' ((0 : Nat) : Int) ((0 : Nat) : Int) (by omega) (by omega) (by omega), hso]; rfl
   ·exact trivial
  ·rename_i k off
   split
   ·rename_i len esz ea hk
    rw [hk] at hkind
    obtain ⟨⟨e, hu, hse, _⟩, _⟩ := hkind
    obtain rfl := nomx rfl
    obtain rfl := nolo rfl
    obtain rfl := nohi rfl
    intro hmm
    obtain ⟨b, rfl, hb⟩ := hv.ref_inv
    refine ps_val (u := .slice (some ⟨b, off, none⟩) len len) ?_ (.csl _ _ _ _ b hb hmm)
    unfold Instr.sliceAt Instr.sureAddr Instr.sliceBounds
    simp only [Sem.run_bind, run_underlying hu, Result.andThen_ok, Sem.run_pure, run_sizeOf hse]
    simp [addr_add]
   ·exact trivial
  ·rename_i cs
   split
   ·rename_i len hk
    rw [hk] at hkind
    obtain ⟨⟨e, hu, hse, _⟩, _⟩ := hkind
    obtain rfl := nomx rfl
    obtain rfl := nolo rfl
    obtain rfl := nohi rfl
    split
    ·rename_i l hl
     refine sdc fun hone => ?_
     intro hmm
     obtain ⟨t1, t2⟩ := ctake_some hl
     obtain ⟨b, o', rfl, hM⟩ := hv.ptr_inv
     refine ps_val (u := .slice (some ⟨b, o', none⟩) len len) ?_ (.sl 1 b o' len len l _ t1 (Nat.le_refl _) hmm (fun x hx => ?_) (fun i j x c hx hc => ?_) ⟨_, len, rfl⟩)
     ·unfold Instr.sliceAt Instr.sureAddr Instr.sliceBounds
      simp only [Sem.run_bind, run_underlying hu, Result.andThen_ok, Sem.run_pure, run_sizeOf hse]
      simp [addr_add]
     ·obtain ⟨i, hi⟩ := List.getElem?_of_mem hx
      rw [one_cells (oneL_mem hone i x hi)]; rfl
     ·rw [one_cells (oneL_mem hone i x hx)] at hc
      cases j with
      | succ j => simp at hc
      | zero =>
       simp at hc
       subst hc
       have := hM i x (t2 i x hx)
       simpa using this
    ·exact trivial
   ·exact trivial
  ·exact trivial
end
section
variable {P : Program} {E : Env} {M : Imm} {ob : Hs} {obs : List AObj} {w : World} {base : Nat}
theorem take_all {α : Type} (l : List α) : (l.drop 0).take l.length = l := by simp
theorem srcL_s (hm : Mem M ob obs w) {x : Value} {a : AVal} (hx : Rep M ob x a) {sz : Nat} {xs : List AVal} (h : srcL (oget obs) a = some (sz, xs)) (hs : 0 < sz) {tx e' : TypeId} (hk : P.underlying tx = some (.slice e')) :
  SrcA P M w sz tx x xs ∧ ∃ ad c, x = .slice ad xs.length c ∧ (ad = none → xs = [] ∧ c = 0) := by
 unfold srcL at h
 split at h
 ·cases h
  obtain ⟨ad, c, e, h0, _⟩ := hx.slice_inv
  exact ⟨SrcA.ofSlice hm hs hk hx, ad, c, e, h0⟩
 ·rename_i k g
  obtain ⟨ad, n, c, rfl, hat⟩ := hx.row_inv
  split at h
  ·rename_i g' sz' e xs' hog
   obtain ⟨hg, h⟩ := cond_some h
   cases h
   obtain rfl := beq_yes hg
   have ho := og_some hog (by simp)
   obtain ⟨hs', v, h1, h2, h3, h4, h5, _⟩ := hm.rowOf ho
   rw [hat] at h4
   cases h4
   have hl : n = xs.length ∧ (ad = none → xs = [] ∧ c = 0) := by
    rcases h5.len with ⟨e1, rfl⟩ | ⟨b, c, e1, e2, e3, e4⟩
    ·cases e1; exact ⟨rfl, fun _ => ⟨rfl, rfl⟩⟩
    ·cases e1; exact ⟨rfl, fun h => by cases h⟩
   obtain ⟨rfl, hl0⟩ := hl
   have := SrcA.ofRow hm hs ho hk hat (lo := 0) (len := xs.length) (by omega) (x := .slice ad xs.length c) (fun b n' c' e _ => by cases e; exact ⟨_, by rw [Nat.zero_mul]⟩) (fun h => ⟨ad, c, by rw [h]⟩)
   rw [take_all] at this
   exact ⟨this, ad, c, rfl, hl0⟩
  ·rename_i g' sz' xs' hog
   obtain ⟨hg, h⟩ := cond_some h
   cases h
   obtain rfl := beq_yes hg
   obtain ⟨hs', h1, v, h2, h3⟩ := hm.obj _ _ (og_some hog (by simp))
   rw [at_get h1, h2] at hat
   cases hat
   have h3' := h3.pure (M := M) (ob := ob)
   obtain ⟨ad', c', e, h0, _⟩ := h3'.slice_inv
   exact ⟨SrcA.ofSlice hm hs hk h3', ad', c', e, h0⟩
  ·cases h
 ·rename_i k g lo len sz
  split at h
  ·rename_i g' sz' e xs' hog
   obtain ⟨hg, h⟩ := cond_some h
   cases h
   obtain ⟨hg1, hg2⟩ := beq_and hg
   obtain rfl := beq_yes hg1
   obtain rfl := beq_yes hg2
   have ho := og_some hog (by simp)
   obtain ⟨hs', v, h1, h2, h3, h4, h5, _⟩ := hm.rowOf ho
   cases hx with
   | sub _ _ _ _ _ b n c hat hl hn hc hmm =>
    rw [hat] at h4
    cases h4
    have hn' : n = xs'.length := by
     rcases h5.len with ⟨e1, _⟩ | ⟨b, c, e1, _⟩
     ·cases e1
     ·cases e1; rfl
    have hlen : ((xs'.drop lo).take len).length = len := by simp; omega
    refine ⟨SrcA.ofRow hm hs ho hk hat (lo := lo) (len := len) (by omega) (fun b' n' c' e _ => by cases e; exact ⟨_, rfl⟩) (fun h => ⟨_, _, by rw [h]⟩), _, _, by rw [hlen], fun e => by cases e⟩
   | sub0 _ _ _ _ ad a' n c hat hl hc =>
    rw [hat] at h4
    cases h4
    have hn' : n = xs'.length := by
     rcases h5.len with ⟨e1, rfl⟩ | ⟨b, c, e1, _⟩
     ·cases e1; rfl
     ·cases e1; rfl
    refine ⟨SrcA.ofRow hm hs ho hk hat (lo := lo) (len := 0) (by omega) (fun b' n' c' e h => absurd rfl h) (fun _ => ⟨_, _, rfl⟩), a', 0, by simp, fun _ => ⟨by simp, rfl⟩⟩
  ·cases h
 ·cases h
theorem srcE_s (hE : EnvOK E) (hm : Mem M ob obs w) {x : Value} {a : AVal} (hx : Rep M ob x a) {esz t2 : Nat} {ys : List AVal} (h : srcE E (oget obs) esz t2 a = some ys) (hs : 0 < esz) : SrcA E.P M w esz t2 x ys := by
 unfold srcE at h
 split at h
 ·rename_i l
  split at h
  ·rename_i _ _ _ hT
   obtain ⟨hg, h⟩ := cond_some h
   cases h
   obtain rfl := beq_yes hg
   obtain ⟨rfl, _⟩ := hx.str_inv
   exact SrcA.ofStr (hE.tab t2 _ hT).kind.1 l
  ·cases h
 ·split at h
  ·rename_i _ _ _ _ _ _ hT
   cases h
   cases hx
   exact ⟨⟨[], Src.ofNil w (hE.tab t2 _ hT).kind.1.1 0, fun q c hq => by simp [cellAt] at hq⟩, fun y hy => by simp at hy, fun m hm => pre_none hm⟩
  ·cases h
 ·split at h
  ·rename_i _ _ _ _ _ _ sz xs hT hL
   obtain ⟨hg, h⟩ := cond_some h
   cases h
   obtain rfl := beq_yes hg
   exact (srcL_s hm hx hL hs (hE.tab t2 _ hT).kind.1.1).1
  ·cases h
theorem run_text {s d e : TypeId} {ad : Option Addr} {l : List UInt8} {c : Nat} (hu : P.underlying s = some (.slice e)) (he : P.underlying e = some (.int .u8)) (hd : P.underlying d = some .string)
  (h0 : ad = none → l = [] ∧ c = 0) (hs : SrcA P M w 1 s (.slice ad l.length c) (l.map ub)) : (convert s d (.slice ad l.length c)).run P w = .ok (.string ⟨l.toArray⟩) w := by
 rw [run_convert_bytes_string w s d e ad l.length c hu he hd]
 cases ad with
 | none =>
  obtain ⟨rfl, rfl⟩ := h0 rfl
  simp [Conv.bytesToString]
  rfl
 | some ad =>
  obtain ⟨⟨news, hsrc, hr⟩, _⟩ := hs
  have hnl : news.length = l.length := by rw [hsrc.newsLen]; simp
  have hnews : news = (l.map fun c => (c.toNat : Int)).map (Value.int .u8) := by
   refine List.ext_getElem? fun j => ?_
   by_cases hj : j < l.length
   ·obtain ⟨u, hu', hru⟩ := hr j (ub l[j]) (by rw [cellAt_ub, List.getElem?_eq_getElem hj]; rfl)
    rw [hu', hru.int_inv.1]
    simp [List.getElem?_eq_getElem hj]
   ·rw [List.getElem?_eq_none (by omega), List.getElem?_eq_none (by simp; omega)]
  have hld : (loadCells ad l.length).run P w = .ok news.toArray w := by
   have := hsrc.cells
   rw [List.length_map] at this
   have e : Builtin.firstCells 1 l.length (.slice (some ad) l.length c) = loadCells ad (l.length * 1) := rfl
   rw [e, Nat.mul_one] at this
   exact this
  rw [hnews] at hld
  rw [run_bytesToString w ad l.length c _ hld]
  congr 2
  have hfold : ∀ (l : List UInt8) (r : ByteArray), (l.map fun c => (c.toNat : Int)).foldl (fun r n => r.push (UInt8.ofNat n.toNat)) r = ⟨r.data ++ l.toArray⟩ := by
   intro l
   induction l with
   | nil => intro r; cases r; simp
   | cons c l ih =>
    intro r
    simp only [List.map_cons, List.foldl_cons, ih]
    cases r with
    | mk d => simp [ByteArray.push]
  rw [hfold]
  congr 1
  have : (ByteArray.empty).data = #[] := rfl
  rw [this]
  simp
theorem bytesWorld_rest (w : World) (e : TypeId) (s : ByteArray) : (Lib.bytesWorld w e s).os = w.os ∧ (Lib.bytesWorld w e s).tape = w.tape ∧ (Lib.bytesWorld w e s).output = w.output := ⟨rfl, rfl, rfl⟩
theorem econv_s (hE : EnvOK E) (hm : Mem M ob obs w) {s d : TypeId} {v : Value} {a : AVal} (hv : Rep M ob v a) : PM E.P M ob w (convert s d v) obs base (econv E (oget obs) s d a) := by
 unfold econv
 split
 ·rename_i ts td hs hd
  have hks := (hE.tab s ts hs).kind
  have hkd := (hE.tab d td hd).kind
  obtain ⟨hsome, _⟩ := hks.isAgg
  obtain ⟨ds, hds⟩ := Option.isSome_iff_exists.1 hsome
  split
  ·rename_i k k0 n hk
   rw [hk] at hkd
   obtain ⟨rfl, _⟩ := hv.int_inv
   have key : (convert s d (.int k0 n)).run E.P w = .ok (.int k (k.wrap n)) w := by
    simp [convert, run_underlying hds, run_underlying hkd.1, Conv.intToInt]
   refine PM.of hm ⟨fun hp => ⟨rfl, _, by rw [key, wrap_inR hp], .int _ _ hp⟩, rfl, _, key, .int _ _ (inR_wrap _ _)⟩
  ·rename_i l hk
   rw [hk] at hkd
   obtain ⟨rfl, hl⟩ := hv.str_inv
   split
   ·rename_i hk2
    rw [hk2] at hks
    refine PM.of hm (ps_val (u := .string ⟨l.toArray⟩) ?_ (.str _ hl))
    simp [convert, run_underlying hks.1, run_underlying hkd.1]
   ·exact trivial
  ·rename_i e eb l hk
   rw [hk] at hkd
   obtain ⟨⟨hud, _⟩, _⟩ := hkd
   obtain ⟨rfl, hl⟩ := hv.str_inv
   split
   ·rename_i _ _ _ hk2 he
    rw [hk2] at hks
    have hke := (hE.tab e _ he).kind.1
    have hrun := Lib.run_convert_string_bytes (P := E.P) w s d e ⟨l.toArray⟩ hks.1 hud hke
    rw [mk_size] at hrun
    obtain ⟨q1, q2, q3⟩ := bytesWorld_rest w e ⟨l.toArray⟩
    have key : ∀ (j : Nat) c, l[j]? = some c → (Lib.bytesWorld w e ⟨l.toArray⟩).cell? ⟨w.heap.size, j, none⟩ = some (.int .u8 c.toNat) := fun j c hj => by
     have hlt : j < l.length := (List.getElem?_eq_some_iff.1 hj).1
     rw [Lib.bytesWorld_cell w e ⟨l.toArray⟩ j (by rw [mk_size]; exact hlt)]
     simp [List.getD, hj]
    obtain ⟨m1, m2⟩ := hm.more (M' := fun b o y => M b o y ∨ (b = w.heap.size ∧ ∃ c, l[o]? = some c ∧ y = ub c)) (w' := Lib.bytesWorld w e ⟨l.toArray⟩) (fun _ _ _ h => .inl h) (fun b o y hy => by
      rcases hy with hy | ⟨rfl, _⟩
      ·exact .inl hy
      ·exact .inr (Nat.le_refl _)) (fun b o y hy => by
      rcases hy with hy | ⟨rfl, c, hc, rfl⟩
      ·obtain ⟨v, h1, h2, h3⟩ := hm.imm b o y hy
       exact ⟨v, (Lib.bytesWorld_old w e _ _ (World.block_lt_of_cell? w _ h1)).trans h1, h2, h3.monoM fun _ _ _ h => .inl h⟩
      ·exact ⟨_, key o c hc, rfl, rep_byte c⟩) (fun b hb => Lib.bytesWorld_at_old w e _ b hb) q1 q2 q3 (by rw [Lib.bytesWorld_size]; omega)
    refine ⟨_, _, _, ob, hrun, m2, m1, Still.refl _ _, .sl 1 w.heap.size 0 _ _ _ _ (by simp) (grownCap_ge w _ 0 e) hl (fun x hx => ub_cell l x hx) (fun i j x c hx hc => ?_) trivial⟩
    rw [List.getElem?_map] at hx
    obtain ⟨c', hc', rfl⟩ := Option.map_eq_some_iff.1 hx
    cases j with
    | succ j => simp [ub, AVal.cells] at hc
    | zero =>
     simp [ub, AVal.cells] at hc
     subst hc
     exact .inr ⟨rfl, c', by simpa using hc', rfl⟩
   ·exact trivial
  ·have hk := ‹td.kind = TK.str›
   rw [hk] at hkd
   split
   ·rename_i e eb xs hk2 hL
    rw [hk2] at hks
    split
    ·rename_i _ _ _ he
     have hke := (hE.tab e _ he).kind.1
     intro l hxl hlm
     subst hxl
     obtain ⟨hsrc, ad, c, rfl, h0⟩ := srcL_s (P := E.P) hm hv hL (by decide) hks.1.1
     refine ⟨_, w, M, ob, ?_, Ext.refl _ _ _ _, hm, Still.refl _ _, .str l hlm⟩
     rw [List.length_map] at hsrc ⊢
     exact run_text hks.1.1 hke hkd.1 (fun e => by obtain ⟨q1, q2⟩ := h0 e; exact ⟨by simpa using q1, q2⟩) hsrc
    ·exact trivial
   ·exact trivial
  ·exact trivial
 ·exact trivial
theorem foldl_set (off : Nat) : ∀ (l : List Value) (k : Nat) (cells : Array Value), ((l.zipIdx k).foldl (fun (cs : Array Value) (p : Value × Nat) => cs.setIfInBounds (off + p.2) p.1) cells).size = cells.size ∧
  ∀ (i : Nat), ((l.zipIdx k).foldl (fun (cs : Array Value) (p : Value × Nat) => cs.setIfInBounds (off + p.2) p.1) cells)[i]? = if off + k ≤ i ∧ i < off + k + l.length ∧ i < cells.size then l[i - (off + k)]? else cells[i]?
 | [], k, cells => by
  refine ⟨rfl, fun i => ?_⟩
  simp
  intro h1 h2
  omega
 | c :: l, k, cells => by
  obtain ⟨h1, h2⟩ := foldl_set off l (k + 1) (cells.setIfInBounds (off + k) c)
  simp only [List.zipIdx_cons, List.foldl_cons]
  refine ⟨by rw [h1]; simp, fun i => ?_⟩
  rw [h2]
  simp only [Array.size_setIfInBounds, List.length_cons]
  by_cases hi : i = off + k
  ·subst hi
   rw [if_neg (by omega)]
   by_cases hs : off + k < cells.size
   ·rw [if_pos ⟨by omega, by omega, hs⟩]
    simp [hs]
   ·rw [if_neg (by omega)]
    rw [Array.getElem?_setIfInBounds_self]
    simp [hs]
  ·rw [Array.getElem?_setIfInBounds_ne (by omega)]
   by_cases hin : off + (k + 1) ≤ i ∧ i < off + (k + 1) + l.length ∧ i < cells.size
   ·rw [if_pos hin, if_pos ⟨by omega, by omega, hin.2.2⟩]
    have : i - (off + k) = (i - (off + (k + 1))) + 1 := by omega
    rw [this, List.getElem?_cons_succ]
   ·rw [if_neg hin, if_neg (by omega)]
def PartsL (M : Imm) (ob : Hs) (vs : List (Nat × Value)) (as : List (Nat × AVal)) : Prop :=
 vs.length = as.length ∧ ∀ (i : Nat) (p : Nat × Value) (q : Nat × AVal), vs[i]? = some p → as[i]? = some q → p.1 = q.1 ∧ Rep M ob p.2 q.2
theorem fill_sound {place place' : Nat → Option (Nat × Nat)} (hp : ∀ i p, place' i = some p → place i = some p) :
  ∀ {parts : List (Nat × AVal)} {vparts : List (Nat × Value)} {cs cs' : List AVal} {cells : Array Value}, efill place' cs parts = some cs' → RepL M ob cells.toList cs → PartsL M ob vparts parts →
   ∃ cells', Instr.fill place cells vparts = some cells' ∧ RepL M ob cells'.toList cs' := by
 intro parts
 induction parts with
 | nil =>
  intro vparts cs cs' cells h hr hl
  have : vparts = [] := List.eq_nil_of_length_eq_zero hl.1
  subst this
  cases h
  exact ⟨cells, rfl, hr⟩
 | cons q parts ih =>
  intro vparts cs cs' cells h hr hl
  obtain ⟨hl, hv⟩ := hl
  obtain ⟨i, x⟩ := q
  match vparts, hl with
  | (i', v) :: vparts, hl =>
   obtain ⟨e1, hrep⟩ := hv 0 _ _ rfl rfl
   dsimp only at e1 hrep
   subst e1
   simp only [efill] at h
   split at h
   ·cases h
   ·rename_i off sz hpl
    obtain ⟨hg, h2⟩ := cond_some h
    obtain ⟨hnu, hsz⟩ := beq_and hg
    have hne : x ≠ .undef := fun e => by subst e; cases hnu
    have hsz' := beq_yes hsz
    rw [clen_eq] at hsz'
    split at h2
    ·rename_i cs1 hput
     obtain ⟨p1, p2, p3⟩ := cputAt_some hput
     obtain ⟨hcl, hcr⟩ := hrep.cells hne
     have hvl : v.cells.size = x.cells.length := by rw [← hcl]; simp
     obtain ⟨f1, f2⟩ := foldl_set off v.cells.toList 0 cells
     have hcs : cells.size = cs.length := by have := hr.1; simpa using this
     have hfold : v.cells.zipIdx.foldl (fun (cs : Array Value) (x : Value × Nat) => match x with | (c, j) => cs.setIfInBounds (off + j) c) cells = (v.cells.toList.zipIdx 0).foldl (fun (cs : Array Value) (p : Value × Nat) => cs.setIfInBounds (off + p.2) p.1) cells := by
      rw [← Array.foldl_toList]
      simp
     have hnext : RepL M ob ((v.cells.toList.zipIdx 0).foldl (fun (cs : Array Value) (p : Value × Nat) => cs.setIfInBounds (off + p.2) p.1) cells).toList cs1 := by
      refine ⟨by rw [Array.length_toList, f1, hcs, p2], fun j u c hu hc => ?_⟩
      rw [Array.getElem?_toList, f2 j] at hu
      rw [p3 j] at hc
      simp only [Nat.add_zero] at hu
      by_cases hin : off ≤ j ∧ j < off + x.cells.length
      ·rw [if_pos hin] at hc
       rw [if_pos ⟨by omega, by rw [hcl]; omega, by omega⟩] at hu
       exact hcr _ u c hu hc
      ·rw [if_neg hin] at hc
       rw [if_neg (by rw [hcl]; omega)] at hu
       exact hr.2 j u c (by rw [Array.getElem?_toList]; exact hu) hc
     obtain ⟨cells', g1, g2⟩ := ih (vparts := vparts) h2 hnext ⟨by simpa using hl, fun i p q hp hq => hv (i + 1) p q (by simpa using hp) (by simpa using hq)⟩
     refine ⟨cells', ?_, g2⟩
     simp only [Instr.fill, hp _ _ hpl]
     rw [if_neg]
     ·rw [hfold]; exact g1
     ·simp only [Bool.or_eq_true, decide_eq_true_eq, not_or]
      constructor
      ·simp [hvl, hsz']
      ·omega
    ·cases h2
theorem mapM_places {P : Program} : ∀ {flds : List Field} {fs : List (Nat × Nat × Bool)}, FieldsOK P flds fs → flds.mapM (fun f => (P.info? f.type).map fun i => (f.offset, i.size)) = some (fs.map fun f => (f.1, f.2.1))
 | [], [], _ => rfl
 | [], _ :: _, h => h.elim
 | _ :: _, [], h => h.elim
 | f :: flds, (off, sz, ag) :: fs, h => by
  obtain ⟨h1, h2, h3, h4, h5⟩ := h
  obtain ⟨i, hi, rfl⟩ := Option.map_eq_some_iff.1 h2
  simp [List.mapM_cons, hi, mapM_places h5, h1]
theorem nth_map {α β : Type} (f : α → β) : ∀ (l : List α) (n : Nat), (nth l n).map f = (l.map f)[n]?
 | [], _ => by simp [nth]
 | x :: _, 0 => rfl
 | _ :: r, n + 1 => by simpa [nth] using nth_map f r n
theorem ebuild_s (hE : EnvOK E) {t : TypeId} {parts : List (Nat × AVal)} {vparts : Array (Nat × Value)} (hl : PartsL M ob vparts.toList parts) : PS0 E.P M ob w (Instr.build t vparts) obs base (ebuild E t parts) := by
 unfold ebuild
 split
 ·rename_i ti hT
  have hti := hE.tab t ti hT
  obtain ⟨info, z, hi, hsz, hz, hzs, hzr, _, _⟩ := hti.info
  have hkind := hti.kind
  split
  ·rename_i fs zs hk hzz
   rw [hk] at hkind
   obtain ⟨⟨flds, hu, hf⟩, _⟩ := hkind
   split
   ·rename_i cs hfill
    rw [hzz] at hzr
    cases hzr with
    | agg vs as hlen hrr =>
     have hr0 : RepL M ob vs.toArray.toList zs := ⟨by simpa using hlen, fun i v a hv ha => zero_rep (hrr i v a (by simpa using hv) ha)⟩
     obtain ⟨cells', g1, g2⟩ := fill_sound (place := ((fs.map fun f => (f.1, f.2.1)).toArray[·]?)) (fun i p hp => by rw [nth_map] at hp; simpa using hp) hfill hr0 hl
     have hb : E.P.built t vparts.toList = some cells' := by
      simp only [Program.built, hi, hu, hz, mapM_places hf]
      exact g1
     have : cells' = cells'.toList.toArray := by simp
     rw [this] at hb
     exact ps_val (run_build w t vparts _ hb) (.agg _ _ g2.1 g2.2)
   ·exact trivial
  ·rename_i n esz ea zs hk hzz
   rw [hk] at hkind
   obtain ⟨⟨e, hu, hse, _⟩, _⟩ := hkind
   obtain ⟨ie, hie, rfl⟩ := Option.map_eq_some_iff.1 hse
   split
   ·rename_i cs hfill
    rw [hzz] at hzr
    cases hzr with
    | agg vs as hlen hrr =>
     have hr0 : RepL M ob vs.toArray.toList zs := ⟨by simpa using hlen, fun i v a hv ha => zero_rep (hrr i v a (by simpa using hv) ha)⟩
     obtain ⟨cells', g1, g2⟩ := fill_sound (place := fun i => some (i * ie.size, ie.size)) (fun i p hp => hp) hfill hr0 hl
     have hb : E.P.built t vparts.toList = some cells' := by
      simp only [Program.built, hi, hu, hz, hie]
      exact g1
     have : cells' = cells'.toList.toArray := by simp
     rw [this] at hb
     exact ps_val (run_build w t vparts _ hb) (.agg _ _ g2.1 g2.2)
   ·exact trivial
  ·exact trivial
 ·exact trivial
end
section
variable {P : Program} {E : Env} {M : Imm} {ob : Hs} {obs : List AObj} {w : World} {base : Nat}
theorem Mem.bare (h : Mem M ob obs w) : Mem M [] [] w :=
 ⟨h.imm, rfl, fun k c hc => by simp at hc, fun k b ⟨c, hs, h1, _⟩ => by simp at h1, fun k k' b ⟨c, hs, h1, _⟩ => by simp at h1⟩
theorem oget_nil : oget [] = fun _ => AObj.dead := by funext n; cases n <;> rfl
theorem Mem.pure0 (h : Mem M ob obs w) {v : Value} {a : AVal} (hr : Rep (fun _ _ _ => False) [] v a) : Rep M [] v (AW.pureV (fun _ => .dead) 4 a) := by
 have := h.bare.pureV 4 v a (zero_rep hr)
 rwa [oget_nil] at this
theorem run_storeAt {t : Nat} {ad : Addr} {v : Value} {w' : World} (hs : (P.info? t).map (·.size) = some v.cells.size) (h : (storeCells ad v.cells.toList).run P w = .ok () w') :
  (Instr.storeAt t (.pointer (some ad)) v).run P w = .ok () w' := by
 unfold Instr.storeAt Instr.sureAddr storeVar
 simp only [Sem.run_bind, Sem.run_pure, Result.andThen_ok, run_sizeOf hs, ne_eq, not_true_eq_false, if_false]
 exact h
theorem remk_cells {y : AVal} {new cs' : List AVal} {off : Nat} (hput : cputAt off new y.cells = some cs') (hone : oneL new = true) : (remk y cs').cells = cs' := by
 obtain ⟨p1, p2, p3⟩ := cputAt_some hput
 by_cases ha : ∃ as, y = .agg as
 ·obtain ⟨as, rfl⟩ := ha; rfl
 ·have hy1 : y.cells = [y] := by cases y <;> first | rfl | exact absurd ⟨_, rfl⟩ ha
  have e : remk y cs' = only1 cs' := by cases y <;> first | rfl | exact absurd ⟨_, rfl⟩ ha
  rw [e]
  rw [hy1] at p2 p3
  match cs', p2, p3 with
  | [c], _, p3 =>
   show c.cells = [c]
   have h0 := p3 0
   simp only [List.getElem?_cons_zero] at h0
   split at h0
   ·exact one_cells (oneL_mem hone _ c h0.symm)
   ·simp at h0
    rw [h0]
    exact hy1
theorem set_cells {sz : Nat} {xs : List AVal} {i off : Nat} {y y' : AVal} {new : List AVal} (hs : 0 < sz) (hx : xs[i]? = some y) (hz : y.cells.length = sz)
  (h1 : off + new.length ≤ sz) (h2 : ∀ (j : Nat), y'.cells[j]? = if off ≤ j ∧ j < off + new.length then new[j - off]? else y.cells[j]?) {q : Nat} {c : AVal} (h : cellAt sz (xs.set i y') q = some c) :
  (i * sz + off ≤ q ∧ q < i * sz + off + new.length ∧ new[q - (i * sz + off)]? = some c) ∨ ((q < i * sz + off ∨ i * sz + off + new.length ≤ q) ∧ cellAt sz xs q = some c) := by
 have hil : i < xs.length := (List.getElem?_eq_some_iff.1 hx).1
 obtain ⟨z, hz1, hz2⟩ := cellAt_inv h
 have hdm : sz * (q / sz) + q % sz = q := Nat.div_add_mod q sz
 have hmod := Nat.mod_lt q hs
 by_cases hi : q / sz = i
 ·rw [hi, List.getElem?_set_self hil] at hz1
  cases hz1
  rw [h2] at hz2
  rw [hi, Nat.mul_comm] at hdm
  split at hz2
  ·rename_i hin
   left
   refine ⟨by omega, by omega, ?_⟩
   rw [show q - (i * sz + off) = q % sz - off from by omega]
   exact hz2
  ·rename_i hin
   right
   refine ⟨by omega, ?_⟩
   unfold cellAt
   rw [hi, hx]
   exact hz2
 ·rw [List.getElem?_set_ne (Ne.symm hi)] at hz1
  right
  refine ⟨?_, ?_⟩
  ·rcases Nat.lt_or_ge (q / sz) i with hlt | hge
   ·left
    have : (q / sz + 1) * sz ≤ i * sz := Nat.mul_le_mul_right _ hlt
    rw [Nat.add_mul, Nat.mul_comm] at this
    omega
   ·right
    have : (i + 1) * sz ≤ q / sz * sz := Nat.mul_le_mul_right _ (by omega)
    rw [Nat.add_mul, Nat.mul_comm (q / sz)] at this
    omega
  ·unfold cellAt
   rw [hz1]
   exact hz2
def VU (P : Program) (M : Imm) (ob : Hs) (obs : List AObj) (w : World) (s : Sem Unit) (v : AVal) (obs' : List AObj) : Prop :=
 v = .undef ∧ ∃ w' M' ob', s.run P w = .ok () w' ∧ Ext M ob obs w M' ob' obs' w' ∧ Mem M' ob' obs' w' ∧ Still ob obs ob' obs'
theorem estore_s (hE : EnvOK E) (hm : Mem M ob obs w) {t : Nat} {v u : Value} {a x : AVal} (hv : Rep M ob v a) (hu : Rep M ob u x) :
  Sd (VU E.P M ob obs w (Instr.storeAt t v u)) (fun _ _ => False) (fun _ => False) obs base (estore E (oget obs) t a x) := by
 unfold estore
 split
 ·exact trivial
 ·rename_i ti hT
  have hti := hE.tab t ti hT
  refine sdc fun hg => ?_
  obtain ⟨hone, hlen⟩ := beq_and hg
  obtain ⟨hcl, hc1, hcr⟩ := hu.cells_one hone
  have hsz : u.cells.size = ti.size := by
   have := beq_yes hlen
   rw [clen_eq] at this
   have h3 : u.cells.size = u.cells.toList.length := by simp
   omega
  have hs : (E.P.info? t).map (·.size) = some u.cells.size := by rw [hsz]; exact hti.size?
  split
  ·rename_i k off
   obtain ⟨b, rfl, hb⟩ := hv.ref_inv
   split
   ·rename_i T' cs hog
    have hk := og_some hog (by simp)
    split
    ·rename_i cs' hput
     obtain ⟨p1, p2, p3⟩ := cputAt_some hput
     obtain ⟨hs0, e1, b', rfl, hM, cv, hh, hlen', h1', hrep⟩ := hm.obj k _ hk
     have hbb : b' = b := by rw [at_get e1] at hb; simpa using hb
     subst hbb
     have hfit : off + u.cells.toList.length ≤ cv.length := by omega
     obtain ⟨q1, q2⟩ := take_set_drop cv u.cells.toList off hfit
     have hst := run_storeCells_at E.P b' off T' u.cells.toList 0 cv.toArray w hh (by simpa using hfit) hc1
     simp only [Nat.add_zero] at hst
     have := hm.cellsTurn (cs' := cs') (cv' := cv.take off ++ u.cells.toList ++ cv.drop (off + u.cells.toList.length)) hk hb (by omega) (fun v hv => by
       simp only [List.mem_append] at hv
       rcases hv with (hv | hv) | hv
       ·exact h1' v (List.mem_of_mem_take hv)
       ·exact hc1 v hv
       ·exact h1' v (List.mem_of_mem_drop hv)) (fun i v c hvi hci => by
       rw [q2 i] at hvi
       rw [p3 i, ← hcl] at hci
       split at hvi
       ·rename_i hin
        rw [if_pos hin] at hci
        exact hcr _ v c hvi hci
       ·rename_i hin
        rw [if_neg hin] at hci
        exact hrep i v c hvi hci)
     refine ⟨rfl, _, M, ob, run_storeAt hs hst, ?_⟩
     rw [oput_some hk]
     exact ⟨this.2.1, this.1, this.2.2⟩
    ·exact trivial
   ·exact trivial
  ·rename_i k g i sz off
   cases hv with
   | eref _ _ _ _ _ b n c hat =>
   split
   ·rename_i g' sz' e xs hog
    have hk := og_some hog (by simp)
    refine sdc fun hg2 => ?_
    obtain ⟨hg3', hone'⟩ := beq_and hg2
    obtain ⟨hg3, hpos'⟩ := beq_and hg3'
    obtain ⟨hg4, hg5⟩ := beq_and hg3
    obtain rfl := beq_yes hg4
    obtain rfl := beq_yes hg5
    have hpos : 0 < sz := Nat.le_of_ble_eq_true hpos'
    have hpu := hm.pureV 4 u x hu
    obtain ⟨hcl', _, hcr'⟩ := hpu.cells_one hone'
    obtain ⟨hs0, v0, e1, e2, e3, e4, hrow, _⟩ := hm.rowOf hk
    have hrl := hrow.len
    rw [hat] at e4
    cases e4
    obtain ⟨cv, _, _, hz, _⟩ := hrow
    have gen : ∀ {y y' : AVal}, 0 < sz → xs[i]? = some y → off + (pureV (oget obs) 4 x).cells.length ≤ sz → (∀ (j : Nat), y'.cells[j]? = if off ≤ j ∧ j < off + (pureV (oget obs) 4 x).cells.length then (pureV (oget obs) 4 x).cells[j - off]? else y.cells[j]?) →
      y'.cells.length = sz → VU E.P M ob obs w (Instr.storeAt t (.pointer (some ⟨b, i * sz + off, none⟩)) u) .undef (oput obs k (.row g sz e (xs.set i y'))) := by
     intro y y' hpos hy h1 h2 h3
     have hil : i < xs.length := (List.getElem?_eq_some_iff.1 hy).1
     have hmul : (i + 1) * sz ≤ xs.length * sz := Nat.mul_le_mul_right _ hil
     rw [Nat.add_mul, Nat.one_mul] at hmul
     obtain ⟨w', r1, r2, r3, r4⟩ := hm.rowWrite (P := E.P) (xs' := xs.set i y') hk hat hpos (p := i * sz + off) (news := u.cells.toList) (by omega) hc1 (by simp) (fun z hz' => by
       rcases List.mem_or_eq_of_mem_set hz' with hz' | rfl
       ·exact hz z hz'
       ·exact h3) (fun q c hq => by
       rcases set_cells hpos hy (hz y (List.mem_of_getElem? hy)) h1 h2 hq with ⟨a1, a2, a3⟩ | ⟨a1, a2⟩
       ·left
        refine ⟨a1, by omega, ?_⟩
        have hlt : q - (i * sz + off) < u.cells.toList.length := by omega
        exact ⟨_, List.getElem?_eq_getElem hlt, hcr' _ _ c (List.getElem?_eq_getElem hlt) a3⟩
       ·right
        exact ⟨by omega, a2⟩)
     refine ⟨rfl, w', M, ob, run_storeAt hs r1, ?_⟩
     rw [oput_some hk]
     exact ⟨r3, r2, r4⟩
    cases hq : (Nat.beq off 0 && Nat.beq ti.size sz) with
    | true =>
     obtain ⟨ho1, ho2⟩ := beq_and hq
     obtain rfl := beq_yes ho1
     have hts := beq_yes ho2
     intro hil
     have hnl : (pureV (oget obs) 4 x).cells.length = sz := by
      have : u.cells.toList.length = u.cells.size := by simp
      omega
     have hy := List.getElem?_eq_getElem hil
     have hyz := hz _ (List.mem_of_getElem? hy)
     exact gen hpos hy (by omega) (fun j => by
       split
       ·rw [Nat.sub_zero]
       ·rw [List.getElem?_eq_none (by omega), List.getElem?_eq_none (by omega)]) hnl
    | false =>
     intro y hy
     dsimp only
     split
     ·rename_i cs' hput
      obtain ⟨p1, p2, p3⟩ := cputAt_some hput
      have hyz := hz y (List.mem_of_getElem? hy)
      have hrc := remk_cells hput hone'
      exact gen hpos hy (by omega) (fun j => by rw [hrc]; exact p3 j) (by rw [hrc]; omega)
     ·exact trivial
   ·exact trivial
  ·exact trivial
end
section
variable {P : Program} {E : Env} {M : Imm} {ob : Hs} {obs : List AObj} {w : World} {base : Nat}
theorem Mem.rowSplice (hm : Mem M ob obs w) {k g sz : Nat} {e : TypeId} {xs ys : List AVal} (hx : obs[k]? = some (.row g sz e xs)) {b n cap : Nat} (hv : at' ob k g = some (.slice (some ⟨b, 0, none⟩) n cap)) (hs : 0 < sz) {i : Nat} (hi : i + ys.length ≤ xs.length)
  (hz : ∀ y ∈ ys, y.cells.length = sz) {news : List Value} (hl : news.length = ys.length * sz) (h1 : ∀ u ∈ news, u.oneCell' = true) (hr : ∀ (q : Nat) c, cellAt sz ys q = some c → ∃ u, news[q]? = some u ∧ Rep M [] u c) :
  ∃ w', (storeCells ⟨b, i * sz, none⟩ news).run P w = .ok () w' ∧ Mem M ob (obs.set k (.row g sz e (xs.take i ++ ys ++ xs.drop (i + ys.length)))) w' ∧
   Ext M ob obs w M ob (obs.set k (.row g sz e (xs.take i ++ ys ++ xs.drop (i + ys.length)))) w' ∧ Still ob obs ob (obs.set k (.row g sz e (xs.take i ++ ys ++ xs.drop (i + ys.length)))) := by
 obtain ⟨hs0, v0, e1, e2, e3, e4, hrow, _⟩ := hm.rowOf hx
 obtain ⟨cv, _, _, hzx, _⟩ := hrow
 have hmul : (i + ys.length) * sz ≤ xs.length * sz := Nat.mul_le_mul_right _ hi
 rw [Nat.add_mul] at hmul
 refine hm.rowWrite (P := P) hx hv hs (p := i * sz) (news := news) (by rw [hl]; exact hmul) h1 (by simp; omega) (fun y hy => ?_) (fun q c hq => ?_)
 ·simp only [List.mem_append] at hy
  rcases hy with (hy | hy) | hy
  ·exact hzx y (List.mem_of_mem_take hy)
  ·exact hz y hy
  ·exact hzx y (List.mem_of_mem_drop hy)
 ·rcases cellAt_splice hs hi hq with ⟨a1, a2, a3⟩ | ⟨a1, a2⟩
  ·left
   exact ⟨a1, by rw [hl]; exact a2, hr _ c a3⟩
  ·right
   exact ⟨by rw [hl]; exact a1, a2⟩
theorem splice_same {xs : List AVal} {i : Nat} : xs.take i ++ [] ++ xs.drop (i + 0) = xs := by simp
theorem begin_s (hm : Mem M ob obs w) (hb1 : obs[base]? = some .dead) (hb2 : ob[base]? = some []) {s : Sem Value} {sz : Nat} {e : TypeId} {v : Value} {w' : World} {xs : List AVal} (hr : s.run P w = .ok v w') (g : Grown M w w' sz e v xs) {hint : Nat} :
  PM P M ob w s obs base (begin' hint base sz e xs) := by
 have hk : base < ob.length := (List.getElem?_eq_some_iff.1 hb2).1
 unfold begin'
 split
 ·obtain ⟨h1, h2, h3⟩ := g.row hm hb1 hb2
  refine ⟨v, w', M, ob.set base [v], hr, ?_⟩
  rw [oput_some hb1]
  refine ⟨h2, h1, h3, ?_⟩
  obtain ⟨cv, o1, _⟩ := g.own
  have hat : at' (ob.set base [v]) base 0 = some v := by rw [at_get (List.getElem?_set_self hk)]; rfl
  rcases own_shape o1 with ⟨q, _⟩ | ⟨b, cap, q, _⟩
  ·rw [q] at hat ⊢; exact .row _ _ _ _ _ hat
  ·rw [q] at hat ⊢; exact .row _ _ _ _ _ hat
 ·obtain ⟨h1, h2, h3, h4⟩ := g.tail hm hb1 hb2
  refine ⟨v, w', withRow M v sz xs, ob.set base [v], hr, ?_⟩
  rw [oput_some hb1]
  exact ⟨h2, h1, h3, h4⟩
theorem grown_val (hm : Mem M ob obs w) {s : Sem Value} {sz : Nat} {e : TypeId} {v : Value} {w' : World} {xs : List AVal} (hr : s.run P w = .ok v w') (g : Grown M w w' sz e v xs) {t : Tk} (ht : TkOK ob v t) : PM P M ob w s obs base (.val (.slice sz xs t)) := by
 obtain ⟨h1, h2⟩ := g.more hm
 obtain ⟨cv, o1, _⟩ := g.own
 exact ⟨v, w', _, ob, hr, h2, h1, Still.refl _ _, rep_withRow o1 g.hz ht⟩
theorem eappend_s (hE : EnvOK E) (hm : Mem M ob obs w) (hb1 : obs[base]? = some .dead) (hb2 : ob[base]? = some []) {hint : Nat} {t t2 ty : TypeId} {v x : Value} {s a : AVal} (hv : Rep M ob v s) (hx : Rep M ob x a) :
  PM E.P M ob w (Builtin.append_ #[t, t2] ty #[v, x]) obs base (eappend E hint base (oget obs) t t2 s a) := by
 unfold eappend
 split
 ·rename_i e esz eb _ _ _ hT
  obtain ⟨⟨hu, i, z, hi, hsz, heb, hz, hzs, hz1⟩, _⟩ := (hE.tab t _ hT).kind
  subst hsz heb
  refine sdc fun hp => ?_
  have hpos : 0 < i.size := Nat.le_of_ble_eq_true hp
  split
  ·exact trivial
  ·rename_i ys hys
   have hsrc := srcE_s hE hm hx hys hpos
   split
   ·rename_i sz xs tk
    split
    ·rename_i k g
     split
     ·rename_i g' sz' e' hog
      refine sdc fun hg => ?_
      obtain ⟨hg123, hg4⟩ := beq_and hg
      obtain ⟨hg12, hg3⟩ := beq_and hg123
      obtain ⟨hg1, hg2⟩ := beq_and hg12
      obtain rfl := beq_yes hg1
      have q3 := beq_yes hg3
      have q2 := beq_yes hg2
      subst q2
      subst q3
      have q4 := beq_yes hg4
      subst q4
      rintro ⟨f1, f2⟩
      have hk := og_some hog (by simp)
      obtain ⟨v', w', M', ob', r1, r2, r3, r4, r5⟩ := hm.appendTail (P := E.P) (ty := ty) hu hi hz hz1 hzs hpos hk hv hsrc f1 f2
      refine ⟨v', w', M', ob', r1, ?_⟩
      rw [oput_some hk]
      exact ⟨r3, r2, r4, r5⟩
     ·exact trivial
    ·refine sdc fun hg => ?_
     have q := beq_yes hg
     subst q
     rintro ⟨f1, f2⟩
     obtain ⟨_, hnil⟩ := hv.untok
     obtain rfl : v = .slice none 0 0 := hnil
     obtain ⟨v', w', r1, r2⟩ := append_nil (P := E.P) (ty := ty) hm hu hi hz hz1 hzs hpos hsrc f1 f2
     exact begin_s hm hb1 hb2 r1 r2
    ·refine sdc fun hg => ?_
     have q := beq_yes hg
     subst q
     rintro ⟨f1, f2⟩
     obtain ⟨v', w', r1, r2⟩ := append_full (P := E.P) (ty := ty) hm hu hi hz hz1 hzs hpos hv hsrc f1 f2
     split
     ·rcases r2 with ⟨rfl, rfl, rfl⟩ | ⟨_, r2⟩
      ·refine ⟨v', w', M, ob, r1, Ext.refl _ _ _ _, hm, Still.refl _ _, ?_⟩
       rw [List.append_nil]
       exact hv.untok.1
      ·exact grown_val hm r1 r2 trivial
     ·intro hne
      rcases r2 with ⟨q, _⟩ | ⟨_, r2⟩
      ·exact absurd q hne
      ·exact begin_s hm hb1 hb2 r1 r2
    ·exact trivial
   ·rintro ⟨f1, f2⟩
    cases hv
    obtain ⟨v', w', r1, r2⟩ := append_nil (P := E.P) (ty := ty) hm hu hi hz hz1 hzs hpos hsrc f1 f2
    exact begin_s hm hb1 hb2 r1 r2
   ·rename_i k g
    split
    ·rename_i g' sz e' xs hog
     refine sdc fun hg => ?_
     obtain ⟨hg12, hg3⟩ := beq_and hg
     obtain ⟨hg1, hg2⟩ := beq_and hg12
     obtain rfl := beq_yes hg1
     have q2 := beq_yes hg2
     subst q2
     have q3 := beq_yes hg3
     subst q3
     rintro ⟨f1, f2⟩
     have hk := og_some hog (by simp)
     obtain ⟨ad, n, c, rfl, hat⟩ := hv.row_inv
     obtain ⟨v', w', ob', r1, r2, r3, r4, r5⟩ := hm.appendRow (P := E.P) (ty := ty) hu hi hz hz1 hzs hpos hk hat hsrc f1 f2
     refine ⟨v', w', M, ob', r1, ?_⟩
     rw [oput_some hk]
     exact ⟨r3, r2, r4, r5⟩
    ·exact trivial
   ·rename_i k g lo len sz
    split
    ·rename_i g' sz' e' xs hog
     refine sdc fun hg => ?_
     obtain ⟨hg123, hg4⟩ := beq_and hg
     obtain ⟨hg12, hg3⟩ := beq_and hg123
     obtain ⟨hg1, hg2⟩ := beq_and hg12
     obtain rfl := beq_yes hg1
     have q3 := beq_yes hg3
     have q2 := beq_yes hg2
     subst q2
     subst q3
     have q4 := beq_yes hg4
     subst q4
     intro hfit
     have hk := og_some hog (by simp)
     obtain ⟨hs0, v0, e1, e2, e3, e4, hrow, _⟩ := hm.rowOf hk
     have hnl : ∀ {ad n c}, at' ob k g = some (.slice ad n c) → n = xs.length := fun {ad n c} hat => by
      rw [hat] at e4
      cases e4
      rcases hrow.len with ⟨q, rfl⟩ | ⟨b, cap, q, _⟩ <;> cases q <;> rfl
     obtain ⟨⟨news, s1, s2⟩, hz', _⟩ := hsrc
     cases hv with
     | sub _ _ _ _ _ b n c hat hl hn hc hmm =>
      have := hnl hat
      obtain ⟨w', r1, r2, r3, r4⟩ := hm.rowSplice (P := E.P) (ys := ys) (i := lo + len) (news := news) hk hat hpos (by omega) hz' s1.newsLen s1.one s2
      refine ⟨.slice (some ⟨b, lo * i.size, none⟩) (len + ys.length) (c - lo), w', M, ob, ?_, ?_⟩
      ·have hst : (storeCells ((⟨b, lo * i.size, none⟩ : Addr).add (len * i.size)) news).run E.P w = .ok () w' := by rw [addr_add, ← Nat.add_mul]; exact r1
       have hroom : len + ys.length ≤ c - lo := by omega
       rcases s1.kind with ⟨e', hk'⟩ | hk' <;> simp [Builtin.append_, run_underlying hu, run_underlying hk', sizeOf, typeInfo, hi, s1.len, hroom, s1.cells, hst]
      ·rw [oput_some hk]
       exact ⟨r3, r2, r4, .sub _ _ _ _ _ b n c hat hl (by omega) hc hmm⟩
     | sub0 _ _ _ _ ad a' n c hat hl hc =>
      have := hnl hat
      have hy0 : ys = [] := List.eq_nil_of_length_eq_zero (by omega)
      subst hy0
      have hn0 : news = [] := List.eq_nil_of_length_eq_zero (by rw [s1.newsLen]; simp)
      subst hn0
      refine ⟨.slice a' 0 0, w, M, ob, ?_, ?_⟩
      ·have hc0 : (Builtin.firstCells i.size 0 x).run E.P w = .ok #[] w := s1.cells
       have hl0 : ∀ w, (Builtin.lenOf x).run E.P w = .ok 0 w := s1.len
       rcases s1.kind with ⟨e', hk'⟩ | hk' <;> cases a' <;> simp [Builtin.append_, run_underlying hu, run_underlying hk', sizeOf, typeInfo, hi, hl0, hc0, storeCells]
      ·rw [oput_some hk]
       have : obs.set k (.row g i.size e (xs.take (lo + 0) ++ [] ++ xs.drop (lo + 0 + ([] : List AVal).length))) = obs := by
        rw [List.length_nil, splice_same]; exact set_self hk
       rw [this]
       exact ⟨Ext.refl _ _ _ _, hm, Still.refl _ _, .sub0 _ _ _ _ ad a' n c hat hl hc⟩
    ·exact trivial
   ·exact trivial
 ·exact trivial
end
section
variable {P : Program} {E : Env} {M : Imm} {ob : Hs} {obs : List AObj} {w : World} {base : Nat}
theorem min_drop {α : Type} (l : List α) (n : Nat) : l.drop (min n l.length) = l.drop n := by
 by_cases h : n ≤ l.length
 ·rw [Nat.min_eq_left h]
 ·rw [Nat.min_eq_right (by omega), List.drop_length, List.drop_eq_nil_of_le (by omega)]
theorem ecopy_s (hE : EnvOK E) (hm : Mem M ob obs w) {t t2 ty : TypeId} {v x : Value} {d a : AVal} (hv : Rep M ob v d) (hx : Rep M ob x a) :
  PM E.P M ob w (Builtin.copy_ #[t, t2] ty #[v, x]) obs base (ecopy E (oget obs) t t2 d a) := by
 unfold ecopy
 split
 ·rename_i e esz eb _ _ _ hT
  obtain ⟨⟨hu, i, z, hi, hsz, heb, hz, hzs, hz1⟩, _⟩ := (hE.tab t _ hT).kind
  subst hsz heb
  refine sdc fun hp => ?_
  have hpos : 0 < i.size := Nat.le_of_ble_eq_true hp
  have i64 : ∀ n : Nat, (n : Int) ≤ 9223372036854775807 → inR .i64 (n : Int) := fun n h => ⟨by simp only [kmin]; omega, by simp only [kmax]; omega⟩
  split
  ·exact trivial
  ·rename_i ys hys
   obtain ⟨⟨news0, s1, _⟩, hz', hpre⟩ := srcE_s hE hm hx hys hpos
   have run : ∀ {ad : Option Addr} {n c m : Nat} {news : List Value} {w' : World}, m = min ys.length n → (Builtin.firstCells i.size m x).run E.P w = .ok news.toArray w → (∀ a, ad = some a → (storeCells a news).run E.P w = .ok () w') → (ad = none → w' = w) →
     (Builtin.copy_ #[t, t2] ty #[.slice ad n c, x]).run E.P w = .ok (.int .i64 (m : Nat)) w' := by
    intro ad n c m news w' h1 h2 h3 h4
    subst h1
    have hmin : Nat.min ys.length n = min ys.length n := rfl
    cases ad with
    | none =>
     rw [h4 rfl]
     simp [Builtin.copy_, run_underlying hu, s1.len, hmin, sizeOf, typeInfo, hi, h2, goInt]
    | some a =>
     simp [Builtin.copy_, run_underlying hu, s1.len, hmin, sizeOf, typeInfo, hi, h2, h3 a rfl, goInt]
   have put : ∀ {k g : Nat} {xs : List AVal} {b n cap p m : Nat}, obs[k]? = some (.row g i.size e xs) ∨ (∃ e', obs[k]? = some (.row g i.size e' xs)) → True := fun _ => trivial
   clear put
   -- the elements that are written
   have key : ∀ {k g : Nat} {e' : TypeId} {xs : List AVal} {b n cap p m : Nat}, obs[k]? = some (.row g i.size e' xs) → at' ob k g = some (.slice (some ⟨b, 0, none⟩) n cap) → m ≤ ys.length → p + m ≤ xs.length →
     ∃ (news : List Value) (w' : World), (Builtin.firstCells i.size m x).run E.P w = .ok news.toArray w ∧ (storeCells ⟨b, p * i.size, none⟩ news).run E.P w = .ok () w' ∧
      Mem M ob (obs.set k (.row g i.size e' (xs.take p ++ ys.take m ++ xs.drop (p + m)))) w' ∧ Ext M ob obs w M ob (obs.set k (.row g i.size e' (xs.take p ++ ys.take m ++ xs.drop (p + m)))) w' ∧ Still ob obs ob (obs.set k (.row g i.size e' (xs.take p ++ ys.take m ++ xs.drop (p + m)))) := by
    intro k g e' xs b n cap p m hk hat hmy hpm
    obtain ⟨news, n1, n2, n3, n4⟩ := hpre m hmy
    have hlen : (ys.take m).length = m := by simp; omega
    obtain ⟨w', r1, r2, r3, r4⟩ := hm.rowSplice (P := E.P) (ys := ys.take m) (i := p) (news := news) hk hat hpos (by rw [hlen]; exact hpm) (fun y hy => hz' y (List.mem_of_mem_take hy)) (by rw [hlen]; exact n2) n3 (fun q c hq => by
     have hlt := cellAt_lt hpos hq
     rw [hlen] at hlt
     rw [cellAt_take hpos hlt] at hq
     exact n4 q c hlt hq)
    rw [hlen] at r2 r3 r4
    exact ⟨news, w', n1, r1, r2, r3, r4⟩
   split
   ·rename_i k g
    split
    ·rename_i g' sz e' xs hog
     refine sdc fun hg => ?_
     obtain ⟨hg1, hg2⟩ := beq_and hg
     obtain rfl := beq_yes hg1
     have q2 := beq_yes hg2
     subst q2
     have hk := og_some hog (by simp)
     obtain ⟨ad, n, c, rfl, hat⟩ := hv.row_inv
     obtain ⟨hs0, v0, e1, e2, e3, e4, hrow, _⟩ := hm.rowOf hk
     rw [hat] at e4
     cases e4
     rcases hrow.len with ⟨q, rfl⟩ | ⟨b, cap, q, q2, q3, q4⟩
     ·cases q
      obtain ⟨news, n1, n2, _⟩ := hpre 0 (Nat.zero_le _)
      refine ⟨.int .i64 ((0 : Nat) : Int), w, M, ob, run (m := 0) (by simp) n1 (fun a h => by cases h) (fun _ => rfl), ?_⟩
      rw [oput_some hk]
      have : obs.set k (.row g i.size e' (ys.take ([] : List AVal).length ++ ([] : List AVal).drop ys.length)) = obs := by simp only [List.length_nil, List.take_zero, List.drop_nil, List.append_nil]; exact set_self hk
      rw [this]
      exact ⟨Ext.refl _ _ _ _, hm, Still.refl _ _, by simpa using Rep.int .i64 0 (i64 0 (by decide))⟩
     ·cases q
      obtain ⟨news, w', n1, n2, n3, n4, n5⟩ := key (p := 0) (m := min ys.length xs.length) hk hat (Nat.min_le_left _ _) (by rw [Nat.zero_add]; exact Nat.min_le_right _ _)
      rw [Nat.zero_mul] at n2
      refine ⟨.int .i64 ((min ys.length xs.length : Nat) : Int), w', M, ob, run rfl n1 (fun a h => by cases h; exact n2) (fun h => by cases h), ?_⟩
      rw [oput_some hk]
      have e0 : xs.take 0 ++ ys.take (min ys.length xs.length) ++ xs.drop (0 + min ys.length xs.length) = ys.take xs.length ++ xs.drop ys.length := by
       rw [List.take_zero, List.nil_append, Nat.zero_add, min_drop]
       congr 1
       by_cases h : ys.length ≤ xs.length
       ·rw [Nat.min_eq_left h, List.take_length, List.take_of_length_le h]
       ·rw [Nat.min_eq_right (by omega)]
      rw [e0] at n3 n4 n5
      have hmx := maxLen_le
      have : min ys.length xs.length ≤ xs.length := Nat.min_le_right _ _
      exact ⟨n4, n3, n5, .int _ _ (i64 _ (by omega))⟩
    ·exact trivial
   ·rename_i k g lo len sz
    split
    ·rename_i g' sz' e' xs hog
     refine sdc fun hg => ?_
     obtain ⟨hg12, hg3⟩ := beq_and hg
     obtain ⟨hg1, hg2⟩ := beq_and hg12
     obtain rfl := beq_yes hg1
     have q3 := beq_yes hg3
     have q2 := beq_yes hg2
     subst q2
     subst q3
     have hk := og_some hog (by simp)
     obtain ⟨hs0, v0, e1, e2, e3, e4, hrow, _⟩ := hm.rowOf hk
     have hnl : ∀ {ad n c}, at' ob k g = some (.slice ad n c) → n = xs.length := fun {ad n c} hat => by
      rw [hat] at e4
      cases e4
      rcases hrow.len with ⟨q, rfl⟩ | ⟨b, cap, q, _⟩ <;> cases q <;> rfl
     cases hv with
     | sub _ _ _ _ _ b n c hat hl hn hc hmm =>
      have := hnl hat
      obtain ⟨news, w', n1, n2, n3, n4, n5⟩ := key (p := lo) (m := min ys.length len) hk hat (Nat.min_le_left _ _) (by have := Nat.min_le_right ys.length len; omega)
      refine ⟨.int .i64 ((min ys.length len : Nat) : Int), w', M, ob, run rfl n1 (fun a h => by cases h; exact n2) (fun h => by cases h), ?_⟩
      rw [oput_some hk]
      have e0 : ys.take (min ys.length len) = ys.take len := by
       by_cases h : ys.length ≤ len
       ·rw [Nat.min_eq_left h, List.take_length, List.take_of_length_le h]
       ·rw [Nat.min_eq_right (by omega)]
      rw [e0] at n3 n4 n5
      have : min ys.length len ≤ len := Nat.min_le_right _ _
      exact ⟨n4, n3, n5, .int _ _ (i64 _ (by omega))⟩
     | sub0 _ _ _ _ ad a' n c hat hl hc =>
      have := hnl hat
      obtain ⟨news, n1, n2, _⟩ := hpre 0 (Nat.zero_le _)
      have hn0 : news = [] := List.eq_nil_of_length_eq_zero (by rw [n2]; simp)
      subst hn0
      refine ⟨.int .i64 ((0 : Nat) : Int), w, M, ob, run (m := 0) (by simp) n1 (fun a h => rfl) (fun _ => rfl), ?_⟩
      rw [oput_some hk]
      have : obs.set k (.row g i.size e' (xs.take lo ++ ys.take 0 ++ xs.drop (lo + min ys.length 0))) = obs := by
       rw [List.take_zero, Nat.min_zero, splice_same]; exact set_self hk
      rw [this]
      exact ⟨Ext.refl _ _ _ _, hm, Still.refl _ _, by simpa using Rep.int .i64 0 (i64 0 (by decide))⟩
    ·exact trivial
   ·exact trivial
 ·exact trivial
theorem rep_cells {z : Value} {a : AVal} (hr : Rep M [] z a) (ha : a ≠ .undef) {sz : Nat} (hz : z.cells.size = sz) (hs : 0 < sz) {n : Nat} {cv : List Value} (hl : cv.length = n * sz) (hc : ∀ q, q < n * sz → cv[q]? = z.cells.toList[q % sz]?) :
  (∀ y ∈ List.replicate n a, y.cells.length = sz) ∧ ∀ (q : Nat) c, cellAt sz (List.replicate n a) q = some c → ∃ u, cv[q]? = some u ∧ Rep M [] u c := by
 obtain ⟨h1, h2⟩ := hr.cells ha
 have hzl : z.cells.toList.length = sz := by simpa using hz
 refine ⟨fun y hy => by rw [(List.mem_replicate.1 hy).2]; omega, fun q c hq => ?_⟩
 have hlt := cellAt_lt hs hq
 rw [List.length_replicate] at hlt
 obtain ⟨y, hy, hyc⟩ := cellAt_inv hq
 have := List.mem_of_getElem? hy
 rw [(List.mem_replicate.1 this).2] at hyc
 have hmod := Nat.mod_lt q hs
 rw [hc q hlt]
 have hlt2 : q % sz < z.cells.toList.length := by omega
 exact ⟨_, List.getElem?_eq_getElem hlt2, h2 _ _ c (List.getElem?_eq_getElem hlt2) hyc⟩
theorem zeroCells_get {z : Array Value} {n : Nat} : (Builtin.zeroCells z n).toList.length = n * z.size ∧ ∀ q, q < n * z.size → (Builtin.zeroCells z n).toList[q]? = z.toList[q % z.size]? := by
 refine ⟨by simp [Builtin.zeroCells], fun q hq => ?_⟩
 have hs : 0 < z.size := by rcases Nat.eq_zero_or_pos z.size with h | h; rw [h] at hq; simp at hq; exact h
 have hmod := Nat.mod_lt q hs
 simp only [Builtin.zeroCells, Array.toList_map, List.getElem?_map, Array.toList_range]
 rw [List.getElem?_range hq]
 simp [hmod]
theorem madeCells_get {z : Array Value} {n : Nat} (hs : 0 < z.size) : (madeCells z n).toList.length = n ∧ ∀ q, q < n → (madeCells z n).toList[q]? = z.toList[q % z.size]? := by
 refine ⟨by simp [madeCells], fun q hq => ?_⟩
 have hmod := Nat.mod_lt q hs
 simp only [madeCells, Array.toList_map, List.getElem?_map, Array.toList_range]
 rw [List.getElem?_range hq]
 simp [hmod]
theorem all_get {z : Array Value} {cv : List Value} {n : Nat} (h : z.toList.all (·.oneCell') = true) (hl : cv.length = n) (hc : ∀ q, q < n → ∃ j : Nat, cv[q]? = z.toList[j]?) : ∀ u ∈ cv, u.oneCell' = true := fun u hu => by
 obtain ⟨q, hq⟩ := List.getElem?_of_mem hu
 obtain ⟨j, hj⟩ := hc q (by rw [← hl]; exact (List.getElem?_eq_some_iff.1 hq).1)
 rw [hq] at hj
 exact List.all_eq_true.1 h u (List.mem_of_getElem? hj.symm)
theorem notU_ne {a : AVal} (h : notU a = true) : a ≠ .undef := fun e => by subst e; cases h
theorem eclear_s (hE : EnvOK E) (hm : Mem M ob obs w) {t ty : TypeId} {v : Value} {d : AVal} (hv : Rep M ob v d) : PM E.P M ob w (Builtin.clear_ #[t] ty #[v]) obs base (eclear E (oget obs) t d) := by
 unfold eclear
 split
 ·rename_i e esz eb _ _ _ hT
  obtain ⟨⟨hu, i, z, hi, hsz, heb, hz, hzs, hz1⟩, _⟩ := (hE.tab t _ hT).kind
  subst hsz heb
  split
  ·rename_i te hTe
   refine sdc fun hp => ?_
   obtain ⟨hp1, hp2⟩ := beq_and hp
   have hpos : 0 < i.size := Nat.le_of_ble_eq_true hp1
   obtain ⟨i', z', hi', hsz', hz', hzs', hzr, hone, hne⟩ := (hE.tab e te hTe).info
   rw [hi] at hi'
   cases hi'
   rw [hz] at hz'
   cases hz'
   split
   ·rename_i k g lo len sz
    split
    ·rename_i g' sz' e' xs hog
     refine sdc fun hg => ?_
     obtain ⟨hg12, hg3⟩ := beq_and hg
     obtain ⟨hg1, hg2⟩ := beq_and hg12
     obtain rfl := beq_yes hg1
     have q3 := beq_yes hg3
     have q2 := beq_yes hg2
     subst q2
     subst q3
     have hk := og_some hog (by simp)
     obtain ⟨hs0, v0, e1, e2, e3, e4, hrow, _⟩ := hm.rowOf hk
     have hnl : ∀ {ad n c}, at' ob k g = some (.slice ad n c) → n = xs.length := fun {ad n c} hat => by
      rw [hat] at e4
      cases e4
      rcases hrow.len with ⟨q, rfl⟩ | ⟨b, cap, q, _⟩ <;> cases q <;> rfl
     have same : len = 0 → obs.set k (.row g i.size e' (xs.take lo ++ List.replicate len (pureV (fun _ => .dead) 4 te.zero) ++ xs.drop (lo + len))) = obs := fun h => by
      subst h
      rw [List.replicate_zero, splice_same]; exact set_self hk
     cases hv with
     | sub _ _ _ _ _ b n c hat hl hn hc hmm =>
      have := hnl hat
      by_cases h0 : len = 0
      ·refine ⟨.tuple #[], w, M, ob, ?_, ?_⟩
       ·subst h0
        simp [Builtin.clear_, run_underlying hu]
       ·rw [oput_some hk, same h0]
        exact ⟨Ext.refl _ _ _ _, hm, Still.refl _ _, .tup [] [] rfl fun i v a hv => by simp at hv⟩
      ·have hp0 := hm.pure0 hzr
       obtain ⟨c1, c2⟩ := zeroCells_get (z := z.cells) (n := len)
       rw [hzs] at c1 c2
       have hne' : pureV (fun _ => .dead) 4 te.zero ≠ .undef := notU_ne hp2
       obtain ⟨r1, r2⟩ := rep_cells (M := M) hp0 hne' hzs hpos c1 c2
       obtain ⟨w', s1, s2, s3, s4⟩ := hm.rowSplice (P := E.P) (ys := List.replicate len (pureV (fun _ => .dead) 4 te.zero)) (i := lo) (news := (Builtin.zeroCells z.cells len).toList) hk hat hpos (by simp; omega) r1 (by simpa using c1) (all_get hone c1 fun q hq => ⟨_, c2 q hq⟩) r2
       rw [List.length_replicate] at s2 s3 s4
       refine ⟨.tuple #[], w', M, ob, ?_, ?_⟩
       ·have hzv : (zeroValue e).run E.P w = .ok z w := by simp [zeroValue, typeInfo, hi, hz]
        cases len with
        | zero => exact absurd rfl h0
        | succ len => simp [Builtin.clear_, run_underlying hu, hzv, s1]
       ·rw [oput_some hk]
        exact ⟨s3, s2, s4, .tup [] [] rfl fun i v a hv => by simp at hv⟩
     | sub0 _ _ _ _ ad a' n c hat hl hc =>
      refine ⟨.tuple #[], w, M, ob, ?_, ?_⟩
      ·cases a' <;> simp [Builtin.clear_, run_underlying hu]
      ·rw [oput_some hk, same rfl]
       exact ⟨Ext.refl _ _ _ _, hm, Still.refl _ _, .tup [] [] rfl fun i v a hv => by simp at hv⟩
    ·exact trivial
   ·exact trivial
  ·exact trivial
 ·exact trivial
theorem emake_s (hE : EnvOK E) (hm : Mem M ob obs w) (hb1 : obs[base]? = some .dead) (hb2 : ob[base]? = some []) {t : TypeId} {vn vc : Value} {n c : AVal} (hn : Rep M ob vn n) (hc : Rep M ob vc c) {hint : Nat} :
  PM E.P M ob w (Instr.makeSlice t vn vc) obs base (emake E hint base t n c) := by
 unfold emake
 split
 ·rename_i e esz eb _ _ _ k a k' b hT
  obtain ⟨⟨hu, i, z, hi, hsz, heb, hz, hzs, hz1⟩, _⟩ := (hE.tab t _ hT).kind
  subst hsz heb
  split
  ·rename_i te hTe
   refine sdc fun hp => ?_
   obtain ⟨hp1, hp2⟩ := beq_and hp
   have hpos : 0 < i.size := Nat.le_of_ble_eq_true hp1
   obtain ⟨i', z', hi', hsz', hz', hzs', hzr, hone, hne⟩ := (hE.tab e te hTe).info
   rw [hi] at hi'
   cases hi'
   rw [hz] at hz'
   cases hz'
   obtain ⟨rfl, _⟩ := hn.int_inv
   obtain ⟨rfl, _⟩ := hc.int_inv
   rintro m rfl ⟨rfl, c2, c3⟩
   have hml := maxLen_le
   have hrun := run_make (P := E.P) w t e i z hu hi hz k k' (m : Int) (m : Int) (by omega) (Int.le_refl _) c2 (by omega)
   rw [Int.toNat_natCast] at hrun
   have hp0 := hm.pure0 hzr
   obtain ⟨d1, d2⟩ := madeCells_get (z := z.cells) (n := m * i.size) (by rw [hzs]; exact hpos)
   rw [hzs] at d2
   obtain ⟨r1, r2⟩ := rep_cells (M := M) hp0 (notU_ne hp2) hzs hpos d1 d2
   have g := Grown.ofAlloc (M := M) (w := w) (e := e) (xs := List.replicate m (pureV (fun _ => .dead) 4 te.zero)) (cv := (madeCells z.cells (m * i.size)).toList) hpos (by simpa using d1) (all_get hone d1 fun q hq => ⟨_, d2 q hq⟩) r1 (by simpa using c3) r2
   have hca : (madeCells z.cells (m * i.size)).toList.toArray = madeCells z.cells (m * i.size) := by simp
   rw [hca, List.length_replicate] at g
   exact begin_s (hint := 2) hm hb1 hb2 hrun g
  ·exact trivial
 ·exact trivial
theorem cput_ok : ∀ (new l : List AVal), new.length ≤ l.length → ∃ r, cput new l = some r
 | [], l, _ => ⟨l, rfl⟩
 | _ :: _, [], h => by simp at h
 | c :: new, d :: l, h => by
  obtain ⟨r, hr⟩ := cput_ok new l (by simpa using h)
  exact ⟨c :: r, by simp [cput, hr]⟩
theorem cputAt_ok : ∀ (off : Nat) (new l : List AVal), off + new.length ≤ l.length → ∃ r, cputAt off new l = some r
 | 0, new, l, h => by obtain ⟨r, hr⟩ := cput_ok new l (by omega); exact ⟨r, by simpa [cputAt] using hr⟩
 | n + 1, new, [], h => by simp at h
 | n + 1, new, c :: l, h => by
  obtain ⟨r, hr⟩ := cputAt_ok n new l (by simp at h; omega)
  exact ⟨c :: r, by simp [cputAt, hr]⟩
def pureP (og : Nat → AObj) (l : List (Nat × AVal)) : List (Nat × AVal) := l.map fun p => (p.1, pureV og 4 p.2)
theorem eelems_sound (og : Nat → AObj) (esz : Nat) : ∀ {parts : List (Nat × AVal)} {n : Nat} {xs : List AVal} {base : List AVal}, eelems og esz n parts = some xs → (n + parts.length) * esz ≤ base.length →
  ∃ cs', efill (fun i => some (i * esz, esz)) base (pureP og parts) = some cs' ∧ cs'.length = base.length ∧ (∀ o, o < n * esz → cs'[o]? = base[o]?) ∧ xs.length = parts.length ∧
   (∀ x ∈ xs, x.cells.length = esz ∧ oneL x.cells = true) ∧ ∀ (i j : Nat) x c, xs[i]? = some x → x.cells[j]? = some c → cs'[(n + i) * esz + j]? = some c := by
 intro parts
 induction parts with
 | nil => intro n xs base h hl; cases h; exact ⟨base, rfl, rfl, fun _ _ => rfl, rfl, fun x hx => by simp at hx, fun i j x c hx => by simp at hx⟩
 | cons p parts ih =>
  intro n xs base h hl
  obtain ⟨i, v0⟩ := p
  simp only [eelems] at h
  obtain ⟨v, hv⟩ : ∃ v, pureV og 4 v0 = v := ⟨_, rfl⟩
  rw [hv] at h
  obtain ⟨hg, h2⟩ := cond_some h
  simp only [Bool.and_eq_true] at hg
  obtain ⟨⟨g1, g2⟩, g3⟩ := hg
  have hi := beq_yes g1
  subst hi
  have hz := beq_yes g2
  rw [clen_eq] at hz
  cases hq : eelems og esz (i + 1) parts with
  | none => simp [hq] at h2
  | some l =>
   simp only [hq, Option.some.injEq] at h2
   subst h2
   have hlen : (i + 1) * esz ≤ base.length := by
    refine Nat.le_trans (Nat.mul_le_mul_right _ ?_) hl
    simp
   rw [Nat.add_mul, Nat.one_mul] at hlen
   obtain ⟨b1, hb1⟩ := cputAt_ok (i * esz) v.cells base (by omega)
   obtain ⟨p1, p2, p3⟩ := cputAt_some hb1
   obtain ⟨cs', e1, e2, e3, e4, e5, e6⟩ := ih (base := b1) hq (by rw [p2]; refine Nat.le_trans (Nat.le_of_eq ?_) hl; simp; congr 1; omega)
   have hnu : notU v = true := by cases v <;> first | rfl | (simp [AVal.cells, oneL, AW.one] at g3)
   refine ⟨cs', by
    unfold pureP at e1 ⊢
    simp only [List.map_cons, efill, hv, hnu, g2, Bool.and_self, cond_true, hb1, e1], e2.trans p2, fun o ho => ?_, by simp [e4], fun x hx => ?_, fun a j x c hx hc => ?_⟩
   ·rw [e3 o (by rw [Nat.add_mul]; omega), p3 o, if_neg (by omega)]
   ·rcases List.mem_cons.1 hx with rfl | hx
    ·exact ⟨hz, g3⟩
    ·exact e5 x hx
   ·cases a with
    | zero =>
     simp at hx
     subst hx
     have hj : j < esz := by rw [← hz]; exact (List.getElem?_eq_some_iff.1 hc).1
     rw [Nat.add_zero, e3 _ (by rw [Nat.add_mul]; omega), p3, if_pos (by omega), Nat.add_sub_cancel_left]
     exact hc
    | succ a =>
     have := e6 a j x c (by simpa using hx) hc
     rw [show i + (a + 1) = i + 1 + a from by omega]
     exact this
theorem plen_eq (l : List (Nat × AVal)) : plen l = l.length := by induction l with
 | nil => rfl
 | cons a r ih => simp [plen, ih]
theorem ebuildSlice_s (hE : EnvOK E) (hm : Mem M ob obs w) (hb1 : obs[base]? = some .dead) (hb2 : ob[base]? = some []) {hint : Nat} {t : TypeId} {len : Nat} {parts : List (Nat × AVal)} {vparts : Array (Nat × Value)} (hl : PartsL M ob vparts.toList parts) :
  PM E.P M ob w (Instr.buildSlice t len vparts) obs base (ebuildSlice E hint base (oget obs) t len parts) := by
 unfold ebuildSlice
 split
 ·rename_i e esz eb _ _ _ hT
  obtain ⟨⟨hu, ie, z, hi, hs, hb, hz, hzs, _⟩, _⟩ := (hE.tab t _ hT).kind
  refine sdc fun hg => ?_
  simp only [Bool.and_eq_true] at hg
  obtain ⟨⟨g1, g2⟩, g3⟩ := hg
  have hpl := beq_yes g1
  rw [plen_eq] at hpl
  have h1000 : len * esz ≤ 1000 := Nat.le_of_ble_eq_true g2
  have hpos : 1 ≤ esz := Nat.le_of_ble_eq_true g3
  split
  ·rename_i xs hxs
   let cells0 : Array Value := if len * esz = 0 then #[] else (Array.range (len * esz)).map (z.cells[· % z.cells.size]!)
   have hbase : cells0.size = len * esz := by
    show (if len * esz = 0 then (#[] : Array Value) else (Array.range (len * esz)).map (z.cells[· % z.cells.size]!)).size = _
    split <;> simp [*]
   obtain ⟨cs', e1, e2, _, e4, e5, e6⟩ := eelems_sound (oget obs) esz (base := List.replicate (len * esz) .undef) hxs (by simp [hpl])
   have hr0 : RepL M [] cells0.toList (List.replicate (len * esz) AVal.undef) := ⟨by simp [hbase], fun i v a _ ha => by
    have : a = .undef := (List.mem_replicate.1 (List.mem_of_getElem? ha)).2
    subst this
    exact .undef _⟩
   have hlp : PartsL M [] vparts.toList (pureP (oget obs) parts) := ⟨by unfold pureP; rw [List.length_map]; exact hl.1, fun i p q hp hq => by
    unfold pureP at hq
    rw [List.getElem?_map] at hq
    obtain ⟨q', hq', rfl⟩ := Option.map_eq_some_iff.1 hq
    obtain ⟨a1, a2⟩ := hl.2 i p q' hp hq'
    exact ⟨a1, hm.pureV 4 _ _ a2⟩⟩
   obtain ⟨cells', f1, f2⟩ := fill_sound (place := fun i => some (i * esz, esz)) (fun i p hp => hp) e1 hr0 hlp
   have hrun : (Instr.buildSlice t len vparts).run E.P w = .ok (.slice (some ⟨w.heap.size, 0, Option.none⟩) len len) (w.alloc (.cells cells' e)) := by
    have hse : (E.P.info? e).map (·.size) = some esz := by simp [hi, hs]
    unfold Instr.buildSlice
    simp only [Sem.run_bind, run_underlying hu, Result.andThen_ok, run_sizeOf hse]
    rw [if_neg (by omega)]
    have hzv : (zeroValue e).run E.P w = .ok z w := by simp [zeroValue, typeInfo, hi, hz]
    by_cases h0 : len * esz = 0
    ·have hbb : (Array.range (len * esz)).map ((#[] : Array Value)[· % (#[] : Array Value).size]!) = cells0 := by
      show _ = (if len * esz = 0 then (#[] : Array Value) else (Array.range (len * esz)).map (z.cells[· % z.cells.size]!))
      rw [if_pos h0, h0]
      simp
     rw [if_pos h0]
     simp only [Sem.run_bind, Sem.run_pure, Result.andThen_ok]
     rw [hbb, f1]
     simp only [newRow, Sem.run_bind, run_newObj_alloc, Result.andThen_ok, Sem.run_pure]
    ·have hbb : (Array.range (len * esz)).map (z.cells[· % z.cells.size]!) = cells0 := by
      show _ = (if len * esz = 0 then (#[] : Array Value) else (Array.range (len * esz)).map (z.cells[· % z.cells.size]!))
      rw [if_neg h0]
     rw [if_neg h0]
     simp only [Sem.run_bind, Sem.run_pure, Result.andThen_ok, hzv]
     rw [hbb, f1]
     simp only [newRow, Sem.run_bind, run_newObj_alloc, Result.andThen_ok, Sem.run_pure]
   have hlen : xs.length = len := by rw [e4, hpl]
   have hcl : cells'.toList.length = xs.length * esz := by rw [f2.1, e2]; simp; rw [hlen]
   have hcell : ∀ (j : Nat) c, cellAt esz xs j = some c → cs'[j]? = some c ∧ AW.one c = true := by
    intro j c hc
    obtain ⟨y, hy, hcc⟩ := cellAt_inv hc
    have := e6 _ _ y c hy hcc
    rw [Nat.zero_add, Nat.mul_comm, Nat.div_add_mod] at this
    obtain ⟨_, h1⟩ := e5 y (List.mem_of_getElem? hy)
    exact ⟨this, oneL_mem h1 _ c hcc⟩
   have hone : ∀ u ∈ cells'.toList, u.oneCell' = true := fun u hu' => by
    obtain ⟨j, hj⟩ := List.getElem?_of_mem hu'
    have hlt : j < xs.length * esz := by rw [← hcl]; exact (List.getElem?_eq_some_iff.1 hj).1
    obtain ⟨c, hc⟩ := cellAt_ex hpos (fun x hx => (e5 x hx).1) hlt
    obtain ⟨h1, h2⟩ := hcell j c hc
    exact (f2.2 j u c hj h1).one h2
   have g := Grown.ofAlloc (M := M) (w := w) (e := e) (xs := xs) (cv := cells'.toList) hpos hcl hone (fun x hx => (e5 x hx).1) (by rw [hlen]; unfold maxLen; have : len * 1 ≤ len * esz := Nat.mul_le_mul_left _ hpos; omega) (fun q c hc => by
    obtain ⟨h1, _⟩ := hcell q c hc
    have hlt : q < cells'.toList.length := by rw [hcl]; exact cellAt_lt hpos hc
    exact ⟨_, List.getElem?_eq_getElem hlt, f2.2 q _ c (List.getElem?_eq_getElem hlt) h1⟩)
   have hca : cells'.toList.toArray = cells' := by simp
   rw [hca, hlen] at g
   split
   ·exact grown_val hm hrun g ⟨_, len, rfl⟩
   ·exact begin_s hm hb1 hb2 hrun g
  ·exact trivial
 ·exact trivial
theorem newVar_s (hm : Mem M ob obs w) (hb1 : obs[base]? = some .dead) (hb2 : ob[base]? = some []) {t : TypeId} {v : Value} {a : AVal} (h : Rep M ob v a) (h1 : oneL a.cells = true) :
  PM P M ob w (do Pure.pure (.pointer (some (← newVar t v))) : Sem Value) obs base (.born (.cells t a.cells) (.ref base 0)) := by
 obtain ⟨hl, hone, hr⟩ := h.cells_one h1
 obtain ⟨m1, m2, m3, m4⟩ := hm.bornCells hb1 hb2 t hl hone hr
 have hca : v.cells.toList.toArray = v.cells := by simp
 rw [hca] at m1 m2
 refine ⟨.pointer (some ⟨w.heap.size, 0, Option.none⟩), w.alloc (.cells v.cells t), M, ob.set base [.pointer (some ⟨w.heap.size, 0, Option.none⟩)], ?_, ?_⟩
 ·simp only [newVar, newRow, Sem.run_bind, run_newObj_alloc, Result.andThen_ok, Sem.run_pure]
 ·rw [oput_some hb1]
  exact ⟨m2, m1, m3, m4⟩
end
section
variable {P : Program} {E : Env} {M : Imm} {ob : Hs} {obs : List AObj} {w : World} {base : Nat}
def KeyW (P : Program) (k : Nat) (ag : Bool) (n : Nat) : Prop := (ag = false ∧ n = 1 ∧ P.underlying k = some (.int .i64)) ∨ (ag = true ∧ (P.underlying k).isSome = true ∧ FlatKey P k n)
theorem ints_some : ∀ {cs : List AVal} {l : List Int}, ints cs = some l → cs = l.map (AVal.int .i64)
 | [], l, h => by cases h; rfl
 | c :: r, l, h => by
  cases c <;> first | (simp [ints] at h; done) | skip
  rename_i k n
  cases k <;> first | (simp [ints] at h; done) | skip
  cases hr : ints r with
  | none => simp [ints, hr] at h
  | some q =>
   simp only [ints, hr, Option.some.injEq] at h
   subst h
   simp [ints_some hr]
theorem keyAt_rep (hE : EnvOK E) {k : Nat} {ag : Bool} {a : AVal} {l : List Int} {v : Value} (h : keyAt E k ag a = some l) (hv : Rep M ob v a) : v = keyV ag l ∧ KeyW E.P k ag l.length := by
 cases ag with
 | false =>
  simp only [keyAt] at h
  split at h
  ·rename_i hT
   split at h
   ·cases h
    have hk := (hE.tab _ _ hT).kind.1
    exact ⟨hv.int_inv.1, .inl ⟨rfl, rfl, hk⟩⟩
   ·cases h
  ·cases h
 | true =>
  simp only [keyAt] at h
  split at h
  ·rename_i ti hT
   have hun := (hE.tab _ _ hT).kind.isAgg.1
   split at h
   ·rename_i cs
    split at h
    ·rename_i l' hi
     obtain ⟨h1, h2⟩ := cond_some h
     cases h2
     obtain ⟨h3, h4⟩ := beq_and h1
     have hcs := ints_some hi
     subst hcs
     obtain ⟨vs, rfl, hl, hr⟩ := hv.agg_inv
     have hlen : l.length = fget E.fl k := by
      have := beq_yes h4
      rw [clen_eq] at this
      simpa using this
     refine ⟨?_, .inr ⟨rfl, hun, ?_⟩⟩
     ·simp only [keyV, if_true]
      congr 2
      refine List.ext_getElem? fun i => ?_
      rw [List.getElem?_map]
      cases hi : l[i]? with
      | none =>
       have := List.getElem?_eq_none_iff.1 hi
       rw [List.getElem?_eq_none (by rw [hl]; simpa using this)]
       rfl
      | some n =>
       have hlt : i < vs.length := by
        have := (List.getElem?_eq_some_iff.1 hi).1
        rw [hl]; simpa using this
       have := hr i _ (.int .i64 n) (List.getElem?_eq_getElem hlt) (by simp [hi])
       rw [List.getElem?_eq_getElem hlt, this.int_inv.1]
       rfl
     ·rw [hlen]
      exact (hE.fl k (by simpa [Nat.blt_eq] using h3)).2
    ·cases h
   ·cases h
  ·cases h
theorem mfind_none : ∀ {es : List (List Int × AVal)} {key : List Int}, (∀ y ∈ es, y.1 ≠ key) → mfind es key = none ∧ (∀ v, mput es key v = es ++ [(key, v)]) ∧ mdel es key = es
 | [], key, _ => ⟨rfl, fun _ => rfl, rfl⟩
 | (k, x) :: r, key, h => by
  obtain ⟨h1, h2, h3⟩ := mfind_none (es := r) (key := key) fun y hy => h y (by simp [hy])
  have hk : ¬ k = key := h (k, x) (by simp)
  exact ⟨by simp [mfind, hk, h1], fun v => by simp [mput, hk, h2], by simp [mdel, hk, h3]⟩
theorem mfind_at : ∀ {es : List (List Int × AVal)} {key : List Int} {j : Nat} {y : List Int × AVal}, es[j]? = some y → y.1 = key → (∀ (i : Nat) y', i < j → es[i]? = some y' → y'.1 ≠ key) →
  mfind es key = some y.2 ∧ (∀ v, mput es key v = es.set j (key, v)) ∧ mdel es key = es.eraseIdx j
 | [], key, j, y, h, _, _ => by simp at h
 | (k, x) :: r, key, 0, y, h, hy, _ => by
  simp only [List.getElem?_cons_zero, Option.some.injEq] at h
  subst h
  have hy : k = key := hy
  exact ⟨by simp [mfind, hy], fun v => by simp [mput, hy], by simp [mdel, hy]⟩
 | (k, x) :: r, key, j + 1, y, h, hy, hb => by
  obtain ⟨h1, h2, h3⟩ := mfind_at (es := r) (key := key) (j := j) (y := y) (by simpa using h) hy fun i y' hi hy' => hb (i + 1) y' (by omega) (by simpa using hy')
  have hk : ¬ k = key := hb 0 (k, x) (by omega) rfl
  exact ⟨by simp [mfind, hk, h1], fun v => by simp [mput, hk, h2], by simp [mdel, hk, h3]⟩
def EnOK (ag : Bool) (n : Nat) (en : List MapEntry) (es : List (List Int × AVal)) : Prop := en.length = es.length ∧ ∀ (i : Nat) x y, en[i]? = some x → es[i]? = some y → x.key = keyV ag y.1 ∧ y.1.length = n
theorem EnOK.tail {ag : Bool} {n : Nat} {x : MapEntry} {y : List Int × AVal} {en : List MapEntry} {es : List (List Int × AVal)} (h : EnOK ag n (x :: en) (y :: es)) : EnOK ag n en es :=
 ⟨by simpa using h.1, fun i a b ha hb => h.2 (i + 1) a b (by simpa using ha) (by simpa using hb)⟩
theorem EnOK.cons {ag : Bool} {n : Nat} {x : MapEntry} {en : List MapEntry} {es : List (List Int × AVal)} (h : EnOK ag n (x :: en) es) : ∃ y r, es = y :: r ∧ x.key = keyV ag y.1 ∧ y.1.length = n ∧ EnOK ag n en r := by
 cases es with
 | nil => have := h.1; simp at this
 | cons y r => exact ⟨y, r, rfl, (h.2 0 x y rfl rfl).1, (h.2 0 x y rfl rfl).2, h.tail⟩
def Found (key : List Int) (en : List MapEntry) (es : List (List Int × AVal)) (o : Nat) (r : Option (Nat × Value)) : Prop :=
 (r = none ∧ ∀ y ∈ es, y.1 ≠ key) ∨ ∃ j x y, r = some (o + j, x.val) ∧ en[j]? = some x ∧ es[j]? = some y ∧ y.1 = key ∧ ∀ (i : Nat) y', i < j → es[i]? = some y' → y'.1 ≠ key
theorem Found.there {key : List Int} {x : MapEntry} {y : List Int × AVal} {en : List MapEntry} {es : List (List Int × AVal)} {o : Nat} (h : y.1 = key) : Found key (x :: en) (y :: es) o (some (o, x.val)) :=
 .inr ⟨0, x, y, rfl, rfl, rfl, h, fun i _ hi => by omega⟩
theorem Found.on {key : List Int} {x : MapEntry} {y : List Int × AVal} {en : List MapEntry} {es : List (List Int × AVal)} {o : Nat} {r : Option (Nat × Value)} (hne : y.1 ≠ key) (h : Found key en es (o + 1) r) : Found key (x :: en) (y :: es) o r := by
 rcases h with ⟨h1, h2⟩ | ⟨j, x', y', h1, h2, h3, h4, h5⟩
 ·exact .inl ⟨h1, fun z hz => by
   rcases List.mem_cons.1 hz with rfl | hz
   ·exact hne
   ·exact h2 z hz⟩
 ·refine .inr ⟨j + 1, x', y', by rw [h1]; congr 2; omega, by simpa using h2, by simpa using h3, h4, fun i z hi hz => ?_⟩
  cases i with
  | zero => simp at hz; subst hz; exact hne
  | succ i => exact h5 i z (by omega) (by simpa using hz)
theorem findNow_int (a : Int) : ∀ (en : List MapEntry) (es : List (List Int × AVal)) (o : Nat), EnOK false 1 en es → ∃ r, Instr.findNow (.int .i64) (.int .i64 a) en o = some r ∧ Found [a] en es o r
 | [], es, o, h => ⟨none, rfl, .inl ⟨rfl, fun y hy => by
   have : es = [] := List.eq_nil_of_length_eq_zero (by have := h.1; simpa using this.symm)
   rw [this] at hy; cases hy⟩⟩
 | x :: en, es, o, h => by
  obtain ⟨y, r, rfl, h1, h2, h3⟩ := h.cons
  obtain ⟨k, v⟩ := y
  have h2 : k.length = 1 := h2
  match k, h2 with
  | [b], _ =>
   have hk : x.key = .int .i64 b := h1
   simp only [Instr.findNow, hk, Instr.sameNow, if_true]
   by_cases hab : a = b
   ·subst hab
    simp only [beq_self_eq_true]
    exact ⟨_, rfl, .there rfl⟩
   ·have : (a == b) = false := by simpa using hab
    rw [this]
    obtain ⟨r', e1, e2⟩ := findNow_int a en r (o + 1) h3
    exact ⟨r', e1, .on (fun e => hab (by cases e; rfl)) e2⟩
theorem findAsking_flat {k : Nat} {n : Nat} (hf : FlatKey P k n) {key : List Int} (hn : key.length = n) : ∀ (en : List MapEntry) (es : List (List Int × AVal)) (o : Nat), EnOK true n en es → ∃ r, (Instr.findAsking k (keyV true key) en o).run P w = .ok r w ∧ Found key en es o r
 | [], es, o, h => ⟨none, by simp [Instr.findAsking], .inl ⟨rfl, fun y hy => by
   have : es = [] := List.eq_nil_of_length_eq_zero (by have := h.1; simpa using this.symm)
   rw [this] at hy; cases hy⟩⟩
 | x :: en, es, o, h => by
  obtain ⟨y, r, rfl, h1, h2, h3⟩ := h.cons
  have he := (hf w key y.1 hn h2).1
  rw [← h1] at he
  by_cases hk : key = y.1
  ·rw [decide_eq_true hk] at he
   exact ⟨_, by simp [Instr.findAsking, he], .there hk.symm⟩
  ·rw [decide_eq_false hk] at he
   obtain ⟨r', e1, e2⟩ := findAsking_flat hf hn en r (o + 1) h3
   exact ⟨r', by simp [Instr.findAsking, he, e1], .on (fun e => hk e.symm) e2⟩
theorem run_findKey {k : Nat} {ag : Bool} {n : Nat} (hk : KeyW P k ag n) {key : List Int} (hn : key.length = n) {en : List MapEntry} {es : List (List Int × AVal)} (h : EnOK ag n en es) :
  ∃ r, (Instr.findKey k (keyV ag key) en).run P w = .ok r w ∧ Found key en es 0 r := by
 rcases hk with ⟨rfl, rfl, hu⟩ | ⟨rfl, hun, hf⟩
 ·match key, hn with
  | [a], _ =>
   obtain ⟨r, e1, e2⟩ := findNow_int a en es 0 h
   exact ⟨r, by simp [Instr.findKey, run_underlying hu, keyV, e1], e2⟩
 ·obtain ⟨r, e1, e2⟩ := findAsking_flat (w := w) hf hn en es 0 h
  cases hu : P.underlying k with
  | none => rw [hu] at hun; cases hun
  | some d =>
   cases en with
   | nil => simp [Instr.findAsking] at e1; subst e1; exact ⟨none, by simp [Instr.findKey, run_underlying hu, Instr.findNow], e2⟩
   | cons x en =>
    obtain ⟨y, r', rfl, h1, h2, h3⟩ := h.cons
    refine ⟨r, ?_, e2⟩
    have hs : Instr.sameNow d (keyV true key) x.key = none := by rw [h1]; simp only [keyV, if_true]; cases d <;> rfl
    simp only [Instr.findKey, Sem.run_bind, run_underlying hu, Result.andThen_ok, Instr.findNow, hs]
    exact e1
theorem run_key {k : Nat} {ag : Bool} {n : Nat} (hk : KeyW P k ag n) {key : List Int} (hn : key.length = n) (em : Bool) : (Instr.checkKey em 10000 k (keyV ag key)).run P w = .ok () w := by
 rcases hk with ⟨rfl, rfl, hu⟩ | ⟨rfl, hun, hf⟩
 ·rw [show (10000 : Nat) = 9999 + 1 from rfl, Instr.checkKey]
  simp only [Sem.run_bind, run_underlying hu, Result.andThen_ok, keyV, Bool.false_eq_true, if_false, Sem.run_pure]
 ·exact (hf w key key hn hn).2 em
theorem Mem.mpOf (hm : Mem M ob obs w) {j : Nat} {ag : Bool} {es : List (List Int × AVal)} (hj : oget obs j = .mp ag es) {v : Value} (hv : Rep M ob v (.mref j)) :
  ∃ b, v = .map (some b) ∧ ob[j]? = some [.map (some b)] ∧ obs[j]? = some (.mp ag es) ∧ (∀ o, NoM M b o) ∧ MpAt M w b ag es := by
 cases hv with
 | mref _ b hat =>
  have hk := og_some hj (by simp)
  obtain ⟨hs, e1, b', e2, e3, e4⟩ := hm.obj j _ hk
  have : b' = b := by rw [at_get e1, e2] at hat; simpa using hat
  subst this
  exact ⟨b', rfl, by rw [e1, e2], hk, e3, e4⟩
theorem MpAt.enOK {b : Nat} {ag : Bool} {es : List (List Int × AVal)} {n : Nat} {en : List MapEntry} (hl : en.length = es.length) (h : ∀ (i : Nat) x y, en[i]? = some x → es[i]? = some y → x.key = keyV ag y.1 ∧ (ag = false → y.1.length = 1) ∧ Rep M [] x.val y.2)
  (hn : (ag = false ∧ n = 1) ∨ (ag = true ∧ ∀ p ∈ es, p.1.length = n)) : EnOK ag n en es :=
 ⟨hl, fun i x y hx hy => ⟨(h i x y hx hy).1, by
  rcases hn with ⟨h1, h2⟩ | ⟨_, h2⟩
  ·rw [h2]; exact (h i x y hx hy).2.1 h1
  ·exact h2 y (List.mem_of_getElem? hy)⟩⟩
theorem sd_need {VS : AVal → List AObj → Prop} {CS : Fn → List AVal → Prop} {PS : AVal → Prop} {ag : Bool} {es : List (List Int × AVal)} {key : List Int} {r : OR} {k : Nat} (hk : KeyW P k ag key.length)
  (h : (ag = false ∧ key.length = 1) ∨ (ag = true ∧ ∀ p ∈ es, p.1.length = key.length) → Sd VS CS PS obs base r) : Sd VS CS PS obs base (keyNeed ag es key r) := by
 rcases hk with ⟨rfl, hn, _⟩ | ⟨rfl, _⟩
 ·exact h (.inl ⟨rfl, hn⟩)
 ·exact fun hp => h (.inr ⟨rfl, hp⟩)
theorem Rep.pairB {v : Value} {a : AVal} (h : Rep M ob v a) (b : Bool) : Rep M ob (.tuple #[v, .bool b]) (.tup [a, .bool b]) := by
 refine .tup [v, .bool b] _ rfl fun i q c hq hc => ?_
 rcases i with _ | _ | i
 ·simp at hq hc; subst hq hc; exact h
 ·simp at hq hc; subst hq hc; exact .bool b
 ·simp at hq
theorem elookup_s (hE : EnvOK E) (hm : Mem M ob obs w) {t : Nat} {mv kv : Value} {m k : AVal} (hmv : Rep M ob mv m) (hkv : Rep M ob kv k) (ok : Bool) :
  PS0 E.P M ob w (Instr.lookup t mv kv ok) obs base (elookup E (oget obs) t m k ok) := by
 unfold elookup
 split
 ·rename_i kt e _ _ _ j hT
  have hut := (hE.tab _ _ hT).kind.1
  split
  ·rename_i te ag es hTe hog
   split
   ·rename_i key hkey
    obtain ⟨rfl, hkw⟩ := keyAt_rep hE hkey hkv
    refine sd_need hkw fun hn => ?_
    obtain ⟨b, rfl, _, _, _, en, clock, hb, hl, hen, _⟩ := hm.mpOf hog hmv
    obtain ⟨r, hr, hf⟩ := run_findKey (w := w) hkw rfl (MpAt.enOK (b := b) hl hen hn)
    have hchk := fun em => run_key (w := w) hkw rfl em
    obtain ⟨i, z, hi, _, hz, _, hzr, _⟩ := (hE.tab _ _ hTe).info
    have hzv : (zeroValue e).run E.P w = .ok z w := by simp [zeroValue, typeInfo, hi, hz]
    rcases hf with ⟨rfl, hf⟩ | ⟨q, x, y, rfl, hx, hy, hyk, hbef⟩
    ·rw [Sd.eq_def]
     simp only
     rw [(mfind_none hf).1]
     refine ⟨rfl, if ok then .tuple #[z, .bool false] else z, ?_, ?_⟩
     ·simp only [Instr.lookup, Sem.run_bind, run_underlying hut, Result.andThen_ok, MapKept.run_getObj_map hb, hchk, hr, hzv, Sem.run_pure]
     ·cases ok with
      | true => exact (zero_rep hzr).pairB false
      | false => exact zero_rep hzr
    ·rw [Sd.eq_def]
     simp only
     rw [(mfind_at hy hyk hbef).1]
     have hrep := (hen q x y hx hy).2.2.pure (ob := ob)
     refine ⟨rfl, if ok then .tuple #[x.val, .bool true] else x.val, ?_, ?_⟩
     ·simp only [Instr.lookup, Sem.run_bind, run_underlying hut, Result.andThen_ok, MapKept.run_getObj_map hb, hchk, hr, Sem.run_pure]
     ·cases ok with
      | true => exact hrep.pairB true
      | false => exact hrep
   ·exact trivial
  ·exact trivial
 ·exact trivial
abbrev setB (w : World) (b : Nat) (o : Obj) : World := { w with heap := w.heap.setIfInBounds b o }
theorem setB_self {b : Nat} {o o' : Obj} (h : w.heap[b]? = some o') : (setB w b o).heap[b]? = some o := by
 have := getD_lt h
 show (w.heap.setIfInBounds b o)[b]? = some o
 simp [this]
theorem setB_other {b c : Nat} {o : Obj} (h : c ≠ b) : (setB w b o).heap[c]? = w.heap[c]? := by
 show (w.heap.setIfInBounds b o)[c]? = w.heap[c]?
 rw [Array.getElem?_setIfInBounds_ne (fun e => h e.symm)]
theorem Mem.mpTurn (h : Mem M ob obs w) {j b clock clock' : Nat} {ag : Bool} {es es' : List (List Int × AVal)} {en : Array MapEntry} {en' : List MapEntry} (hx : obs[j]? = some (.mp ag es)) (hh : ob[j]? = some [.map (some b)]) (hno : ∀ o, NoM M b o) (hb : w.heap[b]? = some (.map en clock))
  (hl : en'.length = es'.length) (he : ∀ (i : Nat) x y, en'[i]? = some x → es'[i]? = some y → x.key = keyV ag y.1 ∧ (ag = false → y.1.length = 1) ∧ Rep M [] x.val y.2)
  (h1 : ∀ (i : Nat) x, en'[i]? = some x → x.born < clock') (h2 : ∀ (i j : Nat) x y, en'[i]? = some x → en'[j]? = some y → x.born = y.born → i = j) :
  Mem M ob (obs.set j (.mp ag es')) (setB w b (.map en'.toArray clock')) ∧ Ext M ob obs w M ob (obs.set j (.mp ag es')) (setB w b (.map en'.toArray clock')) ∧ Still ob obs ob (obs.set j (.mp ag es')) := by
 have hset := set_self (l := ob) hh
 have := h.turn (M' := M) (w' := setB w b (.map en'.toArray clock')) (x' := .mp ag es') (hs' := [.map (some b)]) hx hh (List.prefix_refl _) (fun e => by cases e) (fun _ _ _ h => h) (fun _ _ _ h => .inl h) (fun c o y hy => by
   obtain ⟨u, hu, h4, h5⟩ := h.imm c o y hy
   have hne : c ≠ b := fun e => by subst e; exact hno o y hy
   exact ⟨u, (World.cell?_of_block (w := w) (a := ⟨c, o, none⟩) (setB_other hne)).trans hu, h4, h5⟩)
  (fun c _ hn => setB_other fun e => hn ⟨rfl, by subst e; exact mem_blk1.2 rfl⟩) rfl rfl rfl (by simp) (fun hle => ⟨b, rfl, hno, en', clock', setB_self hb, hl, he, h1, h2⟩)
  (fun _ c hb' => ⟨.inl ⟨rfl, hb'⟩, by
   have : b = c := mem_blk1.1 hb'
   subst this
   have := getD_lt hb
   simpa using this⟩)
 rw [hset] at this
 exact this
theorem sameBits_ints : ∀ (n : Nat) (l : List Int), (((l.map (Value.int .i64)).zip (l.map (Value.int .i64))).all fun (x, y) => Instr.sameBits n x y) = true
 | n, [] => rfl
 | n, a :: r => by
  simp only [List.map_cons, List.zip_cons_cons, List.all_cons, sameBits_ints n r, Bool.and_true]
  cases n <;> simp [Instr.sameBits]
theorem sameBits_key (n : Nat) (ag : Bool) (l : List Int) : Instr.sameBits (n + 1) (keyV ag l) (keyV ag l) = true := by
 cases ag with
 | false => simp [keyV, Instr.sameBits]
 | true =>
  simp only [keyV, if_true, Instr.sameBits, beq_self_eq_true, Bool.true_and]
  exact sameBits_ints n l
theorem mod_set {en : List MapEntry} {q : Nat} {x : MapEntry} (hx : en[q]? = some x) (f : MapEntry → MapEntry) : en.toArray.modify q f = (en.set q (f x)).toArray := by
 apply Array.ext'
 simp only [Array.toList_modify]
 refine List.ext_getElem? fun i => ?_
 rw [List.getElem?_modify, List.getElem?_set]
 have hlt := (List.getElem?_eq_some_iff.1 hx).1
 by_cases hi : q = i
 ·subst hi
  have hxe : en[q] = x := (List.getElem?_eq_some_iff.1 hx).2
  simp [hlt, hxe]
 ·simp [hi]
theorem rep_unit : Rep M ob (.tuple #[]) (.tup []) := .tup [] [] rfl fun i v a h => by simp at h
theorem emapUp_s (hE : EnvOK E) (hm : Mem M ob obs w) {t : Nat} {mv kv vv : Value} {m k v : AVal} (hmv : Rep M ob mv m) (hkv : Rep M ob kv k) (hvv : Rep M ob vv v) :
  Sd (VU E.P M ob obs w (Instr.mapUpdate t mv kv vv)) (fun _ _ => False) (fun _ => False) obs base (emapUp E (oget obs) t m k v) := by
 unfold emapUp
 split
 ·rename_i kt _ _ _ _ j hT
  have hut := (hE.tab _ _ hT).kind.1
  split
  ·rename_i ag es hog
   split
   ·rename_i key hkey
    obtain ⟨rfl, hkw⟩ := keyAt_rep hE hkey hkv
    have hval := hm.pureV 4 vv v hvv
    generalize pureV (oget obs) 4 v = v' at hval
    refine sdc fun _ => sd_need hkw fun hn => ?_
    have hk1 : ag = false → key.length = 1 := fun e => by
     rcases hn with ⟨_, h⟩ | ⟨h, _⟩
     ·exact h
     ·rw [e] at h; cases h
    obtain ⟨b, rfl, hob, hobs, hno, en, clock, hb, hl, hen, hst, hinj⟩ := hm.mpOf hog hmv
    obtain ⟨r, hr, hf⟩ := run_findKey (w := w) hkw rfl (MpAt.enOK (b := b) hl hen hn)
    have hchk := fun em => run_key (w := w) hkw rfl em
    rcases hf with ⟨rfl, hf⟩ | ⟨q, x, y, rfl, hx, hy, hyk, hbef⟩
    ·have hput := (mfind_none hf).2.1 v'
     have := hm.mpTurn (es' := es ++ [(key, v')]) (en' := en ++ [⟨keyV ag key, vv, clock⟩]) (clock' := clock + 1) hobs hob hno hb (by simp [hl]) (fun i a c ha hc => by
       by_cases hi : i < en.length
       ·rw [List.getElem?_append_left hi] at ha
        rw [List.getElem?_append_left (by omega)] at hc
        exact hen i a c ha hc
       ·rw [List.getElem?_append_right (by omega)] at ha
        rw [List.getElem?_append_right (by omega)] at hc
        have hi0 : i - en.length = 0 := by
                  have := (List.getElem?_eq_some_iff.1 ha).1
                  simp at this; omega
        rw [hi0] at ha
        rw [← hl, hi0] at hc
        simp at ha hc
        subst ha hc
        exact ⟨rfl, hk1, hval⟩) (fun i a ha => by
       by_cases hi : i < en.length
       ·rw [List.getElem?_append_left hi] at ha
        have := hst i a ha
        omega
       ·rw [List.getElem?_append_right (by omega)] at ha
        have hi0 : i - en.length = 0 := by
                  have := (List.getElem?_eq_some_iff.1 ha).1
                  simp at this; omega
        rw [hi0] at ha
        simp at ha
        subst ha
        show clock < clock + 1
        omega) (fun i i' a a' ha ha' hborn => by
       have last : ∀ {i : Nat} {a : MapEntry}, ¬ i < en.length → (en ++ [⟨keyV ag key, vv, clock⟩])[i]? = some a → i = en.length ∧ a.born = clock := fun {i a} hi ha => by
        rw [List.getElem?_append_right (by omega)] at ha
        have hi0 : i - en.length = 0 := by
                  have := (List.getElem?_eq_some_iff.1 ha).1
                  simp at this; omega
        rw [hi0] at ha
        simp at ha
        subst ha
        exact ⟨by omega, rfl⟩
       by_cases hi : i < en.length <;> by_cases hi' : i' < en.length
       ·rw [List.getElem?_append_left hi] at ha
        rw [List.getElem?_append_left hi'] at ha'
        exact hinj i i' a a' ha ha' hborn
       ·rw [List.getElem?_append_left hi] at ha
        have := hst i a ha
        have := (last hi' ha').2
        omega
       ·rw [List.getElem?_append_left hi'] at ha'
        have := hst i' a' ha'
        have := (last hi ha).2
        omega
       ·have := (last hi ha).1
        have := (last hi' ha').1
        omega)
     refine ⟨rfl, setB w b (.map (en ++ [(⟨keyV ag key, vv, clock⟩ : MapEntry)]).toArray (clock + 1)), M, ob, ?_, ?_⟩
     ·simp only [Instr.mapUpdate, Sem.run_bind, run_underlying hut, Result.andThen_ok, MapKept.run_getObj_map hb, hchk, hr, MapKept.run_setObj_map _ hb]
      simp
     ·rw [hput, oput_some hobs]
      exact ⟨this.2.1, this.1, this.2.2⟩
    ·have hput := (mfind_at hy hyk hbef).2.1 v'
     have hxk := (hen q x y hx hy).1
     have hql := (List.getElem?_eq_some_iff.1 hx).1
     have := hm.mpTurn (es' := es.set q (key, v')) (en' := en.set q ⟨keyV ag key, vv, x.born⟩) (clock' := clock) hobs hob hno hb (by simp [hl]) (fun i a c ha hc => by
       rw [List.getElem?_set] at ha hc
       by_cases hi : q = i
       ·rw [if_pos hi] at ha hc
        subst hi
        rw [if_pos hql] at ha
        rw [if_pos (by omega)] at hc
        cases ha; cases hc
        exact ⟨rfl, hk1, hval⟩
       ·rw [if_neg hi] at ha hc
        exact hen i a c ha hc) (fun i a ha => by
       rw [List.getElem?_set] at ha
       by_cases hi : q = i
       ·rw [if_pos hi, if_pos (by omega)] at ha
        cases ha
        exact hst q x hx
       ·rw [if_neg hi] at ha
        exact hst i a ha) (fun i i' a a' ha ha' hborn => by
       have old : ∀ {i : Nat} {a : MapEntry}, (en.set q ⟨keyV ag key, vv, x.born⟩)[i]? = some a → ∃ a0, en[i]? = some a0 ∧ a0.born = a.born := fun {i a} ha => by
        rw [List.getElem?_set] at ha
        by_cases hi : q = i
        ·rw [if_pos hi, if_pos (by omega)] at ha
         cases ha
         exact ⟨x, hi ▸ hx, rfl⟩
        ·rw [if_neg hi] at ha
         exact ⟨a, ha, rfl⟩
       obtain ⟨a0, g1, g2⟩ := old ha
       obtain ⟨a0', g1', g2'⟩ := old ha'
       exact hinj i i' a0 a0' g1 g1' (by omega))
     refine ⟨rfl, setB w b (.map (en.set q ⟨keyV ag key, vv, x.born⟩).toArray clock), M, ob, ?_, ?_⟩
     ·have hold : (((en.toArray[0 + q]?).map (·.key)).getD (keyV ag key)) = keyV ag key := by
       simp only [Nat.zero_add, List.getElem?_toArray, hx, Option.map_some, Option.getD_some]
       rw [hxk, hyk]
      have hst : (Instr.keyThatStays (keyV ag key) (keyV ag key)).run E.P w = .ok (keyV ag key) w := by
       unfold Instr.keyThatStays
       rw [show (10000 : Nat) = 9999 + 1 from rfl, sameBits_key 9999 ag key]
       simp
      simp only [Instr.mapUpdate, Sem.run_bind, run_underlying hut, Result.andThen_ok, MapKept.run_getObj_map hb, hchk, hr, hold, hst, MapKept.run_setObj_map _ hb]
      rw [Nat.zero_add, mod_set hx]
     ·rw [hput, oput_some hobs]
      exact ⟨this.2.1, this.1, this.2.2⟩
   ·exact trivial
  ·exact trivial
 ·exact trivial
theorem emapDel_s (hE : EnvOK E) (hm : Mem M ob obs w) {t t2 ty : Nat} {mv kv : Value} {m k : AVal} (hmv : Rep M ob mv m) (hkv : Rep M ob kv k) :
  PM E.P M ob w (Builtin.delete_ #[t, t2] ty #[mv, kv]) obs base (emapDel E (oget obs) t m k) := by
 unfold emapDel
 split
 ·rename_i kt _ _ _ _ j hT
  have hut := (hE.tab _ _ hT).kind.1
  split
  ·rename_i ag es hog
   split
   ·rename_i key hkey
    obtain ⟨rfl, hkw⟩ := keyAt_rep hE hkey hkv
    refine sd_need hkw fun hn => ?_
    obtain ⟨b, rfl, hob, hobs, hno, en, clock, hb, hl, hen, hst, hinj⟩ := hm.mpOf hog hmv
    obtain ⟨r, hr, hf⟩ := run_findKey (w := w) hkw rfl (MpAt.enOK (b := b) hl hen hn)
    have hchk := fun em => run_key (w := w) hkw rfl em
    rcases hf with ⟨rfl, hf⟩ | ⟨q, x, y, rfl, hx, hy, hyk, hbef⟩
    ·have := hm.mpTurn (es' := es) (en' := en) (clock' := clock) hobs hob hno hb hl hen hst hinj
     refine ⟨.tuple #[], setB w b (.map en.toArray clock), M, ob, ?_, ?_⟩
     ·simp [Builtin.delete_, run_underlying hut, MapKept.run_getObj_map hb, hchk, hr, MapKept.run_setObj_map _ hb, Result.andThen]
     ·rw [(mfind_none hf).2.2, oput_some hobs]
      exact ⟨this.2.1, this.1, this.2.2, rep_unit⟩
    ·have hql := (List.getElem?_eq_some_iff.1 hx).1
     have hsub : (en.toArray.eraseIdxIfInBounds q) = (en.eraseIdx q).toArray := by
      apply Array.ext'
      unfold Array.eraseIdxIfInBounds
      rw [dif_pos (by simpa using hql)]
      simp
     have at1 : ∀ {α : Type} (l : List α) (i : Nat), (l.eraseIdx q)[i]? = l[if i < q then i else i + 1]? := fun l i => by
      rw [List.getElem?_eraseIdx]
      split <;> rfl
     have := hm.mpTurn (es' := es.eraseIdx q) (en' := en.eraseIdx q) (clock' := clock) hobs hob hno hb (by
       rw [List.length_eraseIdx_of_lt hql, List.length_eraseIdx_of_lt (by omega)]; omega) (fun i a c ha hc => by
       rw [at1] at ha hc
       exact hen _ a c ha hc) (fun i a ha => by
       rw [at1] at ha
       exact hst _ a ha) (fun i i' a a' ha ha' hborn => by
       rw [at1] at ha ha'
       have := hinj _ _ a a' ha ha' hborn
       split at this <;> split at this <;> omega)
     refine ⟨.tuple #[], setB w b (.map (en.eraseIdx q).toArray clock), M, ob, ?_, ?_⟩
     ·simp [Builtin.delete_, run_underlying hut, MapKept.run_getObj_map hb, hchk, hr, MapKept.run_setObj_map _ hb, Result.andThen, hsub]
     ·rw [(mfind_at hy hyk hbef).2.2, oput_some hobs]
      exact ⟨this.2.1, this.1, this.2.2, rep_unit⟩
   ·exact trivial
  ·exact trivial
 ·exact trivial
end
section
variable {P : Program} {E : Env} {M : Imm} {ob : Hs} {obs : List AObj} {w : World} {base : Nat}
theorem Rep.nilif_inv {v : Value} (h : Rep M ob v .nilif) : v = .nilIface := by cases h; rfl
theorem evO_rep {ρv : Operand → Value} {ρ : Operand → AVal} (h : ∀ x, Rep M ob (ρv x) (ρ x)) : ∀ (l : List Operand), RepL M ob (l.map ρv) (evO ρ l)
 | [] => ⟨rfl, fun i v a h => by simp at h⟩
 | x :: l => by
  obtain ⟨h1, h2⟩ := evO_rep h l
  refine ⟨by simp [AW.evO, h1], fun i v b hv hb => ?_⟩
  cases i with
  | zero => simp [AW.evO] at hv hb; subst hv hb; exact h x
  | succ i => exact h2 i v b (by simpa using hv) (by simpa [AW.evO] using hb)
theorem evL_rep {ρv : Operand → Value} {ρ : Operand → AVal} (h : ∀ x, Rep M ob (ρv x) (ρ x)) : ∀ (l : List (Nat × Operand)), PartsL M ob (l.map fun (p : Nat × Operand) => (p.1, ρv p.2)) (evL ρ l)
 | [] => ⟨rfl, fun i p q h => by simp at h⟩
 | (n, x) :: l => by
  obtain ⟨h1, h2⟩ := evL_rep h l
  refine ⟨by simpa [AW.evL] using h1, fun i p q hp hq => ?_⟩
  cases i with
  | zero => simp [AW.evL] at hp hq; subst hp hq; exact ⟨rfl, h x⟩
  | succ i => exact h2 i p q (by simpa using hp) (by simpa [AW.evL] using hq)
theorem RepL.append {vs us : List Value} {as bs : List AVal} (h : RepL M ob vs as) (k : RepL M ob us bs) : RepL M ob (vs ++ us) (as ++ bs) := by
 refine ⟨by simp [h.1, k.1], fun i v a hv ha => ?_⟩
 by_cases hi : i < vs.length
 ·rw [List.getElem?_append_left hi] at hv
  rw [List.getElem?_append_left (by rw [← h.1]; exact hi)] at ha
  exact h.2 i v a hv ha
 ·rw [List.getElem?_append_right (by omega)] at hv
  rw [List.getElem?_append_right (by rw [← h.1]; omega), ← h.1] at ha
  exact k.2 _ v a hv ha
theorem RepL.cons {v : Value} {a : AVal} {vs : List Value} {as : List AVal} (h : Rep M ob v a) (k : RepL M ob vs as) : RepL M ob (v :: vs) (a :: as) :=
 RepL.append (vs := [v]) (as := [a]) ⟨rfl, fun i u b hu hb => by cases i with | zero => simp at hu hb; subst hu hb; exact h | succ i => simp at hu⟩ k
theorem tyNil_rep (hE : EnvOK E) {t : Nat} {v : Value} {a : AVal} (h : Rep M ob v a) : Rep M ob v (tyNil E t a) := by
 unfold tyNil
 split
 ·split
  ·cases h; exact .slnil _ _ rfl
  ·exact h
 ·exact h
theorem Sound.now {ρv : Operand → Value} {op : Op} {ty : TypeId} {u : Value} {v : AVal} (hm : Mem M ob obs w) (hx : ∀ d pos after g, execOp ρv ⟨d, op, ty, pos, after, g⟩ = Pure.pure (.value u)) (h : Rep M ob u v) : VS P ρv op ty M ob obs w v obs :=
 ⟨u, w, M, ob, fun d pos after g => .inl (by rw [hx]; rfl), Ext.refl _ _ _ _, hm, Still.refl _ _, h⟩
theorem run_max2 (ts : Array TypeId) (t : TypeId) (k k' : IntKind) (x y : Int) : (Builtin.max_ ts t #[.int k x, .int k' y]).run P w = .ok (.int k (max x y)) w := by
 rw [run_max_int2]
 congr 2
 by_cases h : y > x
 ·rw [if_pos h]; omega
 ·rw [if_neg h]; omega
theorem run_min2 (ts : Array TypeId) (t : TypeId) (k k' : IntKind) (x y : Int) : (Builtin.min_ ts t #[.int k x, .int k' y]).run P w = .ok (.int k (min x y)) w := by
 rw [run_min_int2]
 congr 2
 by_cases h : y < x
 ·rw [if_pos h]; omega
 ·rw [if_neg h]; omega
theorem opt_rep {ρv : Operand → Value} {ρ : Operand → AVal} (h : ∀ x, Rep M ob (ρv x) (ρ x)) (l : Option Operand) : OptRep M ob (l.map ρv) (l.map ρ) := by
 cases l with
 | none => exact .inl ⟨rfl, rfl⟩
 | some y => exact .inr ⟨_, _, rfl, rfl, h y⟩
theorem KindOK.notIface {P : Program} {t : Nat} {ag : Bool} {size : Nat} {k : TK} (h : KindOK P t ag size k) (hne : k ≠ .iface) : ∃ dd, P.underlying t = some dd ∧ ∀ ms, dd ≠ .interface ms := by
 obtain ⟨hsome, _⟩ := h.isAgg
 obtain ⟨dd, hdd⟩ := Option.isSome_iff_exists.1 hsome
 refine ⟨dd, hdd, fun ms e => ?_⟩
 subst e
 cases k with
 | int k => have := h.1; rw [hdd] at this; cases this
 | bool => have := h.1; rw [hdd] at this; cases this
 | str => have := h.1; rw [hdd] at this; cases this
 | strct fs => obtain ⟨⟨fl, hu, _⟩, _⟩ := h; rw [hdd] at hu; cases hu
 | arr n s ea => obtain ⟨⟨fl, hu, _⟩, _⟩ := h; rw [hdd] at hu; cases hu
 | slc e s b => have := h.1.1; rw [hdd] at this; cases this
 | ptr e => have := h.1; rw [hdd] at this; cases this
 | iface => exact hne rfl
 | mp k e => have := h.1; rw [hdd] at this; cases this
 | other => obtain ⟨⟨d2, hu, hni⟩, _⟩ := h; rw [hdd] at hu; cases hu; exact hni _ rfl
theorem inR_minmax {k : IntKind} {x y : Int} (hx : inR k x) (hy : inR k y) : inR k (min x y) ∧ inR k (max x y) := by
 unfold inR at *
 omega
theorem eop0_sound (hE : EnvOK E) (hm : Mem M ob obs w) (hb1 : obs[base]? = some .dead) (hb2 : ob[base]? = some []) {ρv : Operand → Value} {ρ : Operand → AVal} (hρ : ∀ x, Rep M ob (ρv x) (ρ x)) (hint : Nat) (op : Op) (ty : TypeId) :
  Sound E.P ρv op ty M ob obs w base (eop0 E hint base (oget obs) ρ op ty) := by
 cases op with
 | move x => exact Sound.now hm (fun _ _ _ _ => rfl) (hρ x)
 | assign x =>
  have hx := tyNil_rep hE (t := ty) (hρ x)
  have hs : ∀ d pos after g, execOp ρv ⟨d, .assign x, ty, pos, after, g⟩ = ((Pure.pure (ρv x) : Sem Value) >>= fun v => Pure.pure (.value v)) := fun _ _ _ _ => rfl
  simp only [eop0]
  split
  ·exact Sound.now hm (fun _ _ _ _ => rfl) hx
  ·split
   ·rename_i esz xs t heq
    rw [heq] at hx
    split
    ·split
     ·obtain ⟨_, hnil⟩ := hx.untok
      have hnil : ρv x = .slice none 0 0 := hnil
      split
      ·refine sdc fun hg => ?_
       obtain ⟨hg1, hg2⟩ := beq_and hg
       have hpos : 0 < esz := Nat.le_of_ble_eq_true hg2
       refine Sound.pm hs (begin_s hm hb1 hb2 (v := .slice none 0 0) (w' := w) (by rw [hnil]; rfl) ⟨⟨[], World.ownsRow_nil w 0 _ _, by simp, fun q c hq => by simp [cellAt] at hq⟩, hpos, by simp, fun b hb => by simp [Value.ownBlock] at hb, fun _ _ => rfl, rfl, rfl, rfl, Nat.le_refl _, oneB_nil w⟩)
      ·exact trivial
     ·exact trivial
    ·exact Sound.now hm (fun _ _ _ _ => rfl) hx
   ·exact Sound.now hm (fun _ _ _ _ => rfl) hx
 | pick c x y =>
  have hcv := hρ c
  simp only [eop0]
  split
  ·rename_i hev
   rw [hev] at hcv
   exact Sound.now hm (fun _ _ _ _ => by simp [execOp, hcv.bool_inv, asBool]) (hρ x)
  ·rename_i hev
   rw [hev] at hcv
   exact Sound.now hm (fun _ _ _ _ => by simp [execOp, hcv.bool_inv, asBool]) (hρ y)
  ·exact trivial
 | alloc t =>
  simp only [eop0]
  split
  ·rename_i ti hti
   refine sdc fun h1 => ?_
   obtain ⟨i, z, hi, hs, hz, hzs, hzr, _, _⟩ := (hE.tab t ti hti).info
   have hzv : (zeroValue t).run E.P w = .ok z w := by simp [zeroValue, typeInfo, hi, hz]
   obtain ⟨u, w', M', ob', hr, hrest⟩ := newVar_s (P := E.P) (t := t) hm hb1 hb2 (zero_rep hzr) h1
   have hal : (Instr.alloc t true (.tuple #[])).run E.P w = .ok u w' := by
    unfold Instr.alloc
    rw [Sem.run_bind, hzv]
    exact hr
   exact Sound.pm (r := .born _ _) (s := Instr.alloc t true (.tuple #[])) (fun _ _ _ _ => rfl) ⟨u, w', M', ob', hal, hrest⟩
  ·exact trivial
 | box t x =>
  simp only [eop0]
  refine sdc fun h1 => ?_
  exact Sound.pm (r := .born _ _) (s := Instr.box t (ρv x)) (fun _ _ _ _ => rfl) (newVar_s (P := E.P) (t := t) hm hb1 hb2 (hρ x) h1)
 | build t ps =>
  exact Sound.pv (s := Instr.build t (ps.map fun (p : Nat × Operand) => (p.1, ρv p.2))) hm (fun _ _ _ _ => rfl) (ebuild_s hE (by simpa using evL_rep hρ ps.toList))
 | buildSlice t n ps =>
  exact Sound.pm (s := Instr.buildSlice t n (ps.map fun (p : Nat × Operand) => (p.1, ρv p.2))) (fun _ _ _ _ => rfl) (ebuildSlice_s hE hm hb1 hb2 (by simpa using evL_rep hρ ps.toList))
 | load t x => exact Sound.pv (s := Instr.loadAt t (ρv x)) hm (fun _ _ _ _ => rfl) ((eload_s hE hm (hρ x)).bind fun v u h => tyNil_rep hE h)
 | store t x y =>
  refine Sd.mono (fun v o ⟨h1, w', M', ob', h2, h3, h4, h5⟩ => ?_) (fun _ _ h => h.elim) (fun _ h => h.elim) (estore_s (t := t) hE hm (hρ x) (tyNil_rep hE (t := t) (hρ y)))
  refine ⟨undef, w', M', ob', fun d pos after g => .inr ⟨?_, rfl⟩, h3, h4, h5, by rw [h1]; exact .undef _⟩
  have : execOp ρv ⟨d, .store t x y, ty, pos, after, g⟩ = (Instr.storeAt t (ρv x) (ρv y) >>= fun _ => Pure.pure .skip) := rfl
  rw [this, Sem.run_bind, h2]
  rfl
 | nilCheck x =>
  have hx := hρ x
  simp only [eop0]
  split <;> first | exact trivial | skip
  all_goals
   rename_i hev
   rw [hev] at hx
   refine Sound.now hm (u := ρv x) (fun d pos after g => ?_) hx
   generalize hu : ρv x = u at hx
   simp only [execOp, hu]
   cases hx <;> rfl
 | binOp bop t x y yt => exact Sound.pv (s := cmpS bop t x y (ρv x) (ρv y)) hm (fun _ _ _ _ => rfl) (ebin_s (og := oget obs) hE (hρ x) (hρ y))
 | unOp uop t x =>
  have hx := hρ x
  simp only [eop0]
  refine Sound.pv (s := Op.unary uop (ρv x)) hm (fun _ _ _ _ => rfl) ?_
  split
  ·rename_i b hev
   rw [hev] at hx
   rw [hx.bool_inv]
   exact ps_val (u := .bool (!b)) rfl (.bool _)
  ·rename_i k n hev
   rw [hev] at hx
   rw [hx.int_inv.1]
   have e : (Op.unary .neg (.int k n)).run E.P w = .ok (.int k (k.wrap (0 - n))) w := rfl
   exact ⟨fun hp => ⟨rfl, _, by rw [e, wrap_inR hp], .int _ _ hp⟩, rfl, _, e, .int _ _ (inR_wrap _ _)⟩
  ·rename_i k n hev
   rw [hev] at hx
   rw [hx.int_inv.1]
   exact ps_val (u := .int k (ebits .xor k (if k.signed then -1 else k.max) n)) rfl (.int _ _ (by unfold ebits; exact inR_wrap _ _))
  ·exact trivial
 | convert s t x => exact Sound.pm (s := convert s t (ρv x)) (fun _ _ _ _ => rfl) (econv_s hE hm (hρ x))
 | makeInterface t x =>
  simp only [eop0]
  refine Sound.pv (s := Instr.makeInterface t (ρv x)) hm (fun _ _ _ _ => rfl) ?_
  split
  ·rename_i ti hti
   have hk := (hE.tab t ti hti).kind
   split
   ·exact trivial
   ·rename_i hne
    obtain ⟨dd, hdd, hni⟩ := hk.notIface hne
    refine ps_val (run_makeInterface w t _ ?_) (.iface _ _ _ (hρ x))
    unfold Program.concrete
    rw [hdd]
    cases dd <;> first | rfl | exact absurd rfl (hni _)
  ·exact trivial
 | makeFunc fn fs cs =>
  obtain ⟨p1, p2⟩ := evO_rep hρ fs.toList
  obtain ⟨q1, q2⟩ := evO_rep hρ cs.toList
  refine Sound.now hm (u := .func fn (fs.toList.map ρv).toArray (cs.toList.map ρv).toArray) (fun d pos after g => ?_) (.func fn _ _ _ _ p1 q1 p2 q2)
  have e1 : (fs.toList.map ρv).toArray = fs.map ρv := by apply Array.ext'; simp
  have e2 : (cs.toList.map ρv).toArray = cs.map ρv := by apply Array.ext'; simp
  rw [e1, e2]
  rfl
 | makeMap t x =>
  cases x with
  | some x => exact trivial
  | none =>
   simp only [eop0]
   split
   ·split
    ·rename_i tk _
     obtain ⟨m1, m2, m3, m4⟩ := hm.bornMap hb1 hb2 tk.agg
     refine Sound.pm (r := .born _ _) (s := Instr.makeMap t none) (fun _ _ _ _ => rfl) ⟨_, _, M, ob.set base [.map (some w.heap.size)], run_makeMap t w, ?_⟩
     rw [oput_some hb1]
     exact ⟨m2, m1, m3, m4⟩
    ·exact trivial
   ·exact trivial
 | makeSlice t x y => exact Sound.pm (s := Instr.makeSlice t (ρv x) (ρv y)) (fun _ _ _ _ => rfl) (emake_s (hint := hint) hE hm hb1 hb2 (hρ x) (hρ y))
 | slice t x lo hi mx => exact Sound.pv (s := Instr.sliceAt t (ρv x) (lo.map ρv) (hi.map ρv) (mx.map ρv)) hm (fun _ _ _ _ => rfl) (eslice_s hE hm (hρ x) (opt_rep hρ lo) (opt_rep hρ hi) (opt_rep hρ mx))
 | fieldAddr t x f => exact Sound.pv (s := Instr.fieldAt t (ρv x) f) hm (fun _ _ _ _ => rfl) (efieldAddr_s hE (hρ x))
 | field t x f => exact Sound.pv (s := Instr.field t (ρv x) f) hm (fun _ _ _ _ => rfl) ((efield_s hE (hρ x)).bind fun v u h => tyNil_rep hE h)
 | indexAddr t x i => exact Sound.pv (s := Instr.indexAt t (ρv x) (ρv i)) hm (fun _ _ _ _ => rfl) (eindexAddr_s hE hm (hρ x) (hρ i))
 | index t x i => exact Sound.pv (s := Instr.index t (ρv x) (ρv i)) hm (fun _ _ _ _ => rfl) (eindex_s hE (hρ x) (hρ i))
 | typeAssert x xt t ok =>
  have hx := hρ x
  simp only [eop0]
  refine Sound.pv (s := Instr.typeAssert (ρv x) xt t ok) hm (fun _ _ _ _ => rfl) ?_
  split
  ·rename_i ti u v hti hev
   rw [hev] at hx
   obtain ⟨i, z, hi, hs, hz, hzs, hzr, _, _⟩ := (hE.tab t ti hti).info
   split
   ·exact trivial
   ·rename_i hne
    obtain ⟨dd, hdd, hni⟩ := (hE.tab t ti hti).kind.notIface hne
    obtain ⟨v', hxe, hv⟩ := hx.iface_inv
    rw [hxe]
    cases hq : Nat.beq u t with
    | true =>
     have := beq_yes hq
     subst this
     refine ps_val (u := if ok then .tuple #[v', .bool true] else v') ?_ ?_
     ·unfold Instr.typeAssert
      simp only [Sem.run_bind, run_underlying hdd, Result.andThen_ok]
      cases dd <;> first | exact absurd rfl (hni _) | (simp)
     ·cases ok with
      | true => exact hv.pairB true
      | false => exact hv
    | false =>
     have hne2 : ¬ u = t := fun e => by subst e; simp at hq
     simp only [cond_false]
     refine sdc fun hok => ?_
     subst hok
     refine ps_val (u := .tuple #[z, .bool false]) ?_ ((zero_rep hzr).pairB false)
     unfold Instr.typeAssert
     simp only [Sem.run_bind, run_underlying hdd, Result.andThen_ok]
     cases dd <;> first | exact absurd rfl (hni _) | (simp [hne2, zeroValue, typeInfo, hi, hz])
  ·rename_i ti hti hev
   rw [hev] at hx
   obtain ⟨i, z, hi, hs, hz, hzs, hzr, _, _⟩ := (hE.tab t ti hti).info
   split
   ·exact trivial
   ·rename_i hne
    obtain ⟨dd, hdd, hni⟩ := (hE.tab t ti hti).kind.notIface hne
    refine sdc fun hok => ?_
    subst hok
    rw [hx.nilif_inv]
    refine ps_val (u := .tuple #[z, .bool false]) ?_ ((zero_rep hzr).pairB false)
    unfold Instr.typeAssert
    simp only [Sem.run_bind, run_underlying hdd, Result.andThen_ok]
    cases dd <;> first | exact absurd rfl (hni _) | (simp [zeroValue, typeInfo, hi, hz])
  ·exact trivial
 | extract x i =>
  have hx := hρ x
  simp only [eop0]
  refine Sound.pv (s := Instr.extract (ρv x) i) hm (fun _ _ _ _ => rfl) ?_
  split
  ·rename_i vs hev
   rw [hev] at hx
   split
   ·rename_i v hn
    have hnv := nth_some hn
    obtain ⟨us, hxe, hl, hr⟩ := hx.tup_inv
    have hlt : i < us.length := by rw [hl]; exact (List.getElem?_eq_some_iff.1 hnv).1
    rw [hxe]
    refine ps_val (u := us[i]) ?_ (hr i _ v (List.getElem?_eq_getElem hlt) hnv)
    simp [Instr.extract, hlt]
   ·exact trivial
  ·exact trivial
 | panic x =>
  have hx := hρ x
  simp only [eop0]
  split
  ·rename_i t v hev
   rw [hev] at hx
   obtain ⟨u, hxe, hu⟩ := hx.iface_inv
   have : ∀ v', v' = pureV (oget obs) 3 v → Sound E.P ρv (.panic x) ty M ob obs w base ((fun v => bif notU v then OR.pan (.iface t v) else .no) v') := fun v' e => by
    subst e
    refine sdc fun _ => ⟨.iface t u, fun d pos after g => ?_, .iface _ _ _ (hm.pureV 3 _ _ hu)⟩
    simp [execOp, Instr.panic, hxe]
   exact this _ rfl
  ·exact trivial
 | lookup t m k ok => exact Sound.pv (s := Instr.lookup t (ρv m) (ρv k) ok) hm (fun _ _ _ _ => rfl) (elookup_s hE hm (hρ m) (hρ k) ok)
 | mapUpdate t m k v0 =>
  refine Sd.mono (fun v o ⟨h1, w', M', ob', h2, h3, h4, h5⟩ => ?_) (fun _ _ h => h.elim) (fun _ h => h.elim) (emapUp_s (t := t) hE hm (hρ m) (hρ k) (hρ v0))
  refine ⟨undef, w', M', ob', fun d pos after g => .inr ⟨?_, rfl⟩, h3, h4, h5, by rw [h1]; exact .undef _⟩
  have : execOp ρv ⟨d, .mapUpdate t m k v0, ty, pos, after, g⟩ = (Instr.mapUpdate t (ρv m) (ρv k) (ρv v0) >>= fun _ => Pure.pure .skip) := rfl
  rw [this]
  simp only [Sem.run_bind, h2, Result.andThen_ok, Sem.run_pure]
 | call c =>
  obtain ⟨callee, args, argTypes⟩ := c
  have hargs := evO_rep hρ args.toList
  simp only [eop0]
  cases callee with
  | value f =>
   have hfv := hρ f
   dsimp only
   split
   ·rename_i gid fs cs hev
    rw [hev] at hfv
    cases hfe : ρv f with
    | func fn first caps =>
     rw [hfe] at hfv
     cases hfv with
     | func _ vfs vcs _ _ hl1 hl2 hr1 hr2 =>
      rw [app3_eq, app3_eq]
      refine ⟨_, RepL.append (RepL.append ⟨hl1, hr1⟩ hargs) ⟨hl2, hr2⟩, fun d pos after g => ?_⟩
      have e1 : (args.map ρv) = (args.toList.map ρv).toArray := by apply Array.ext'; simp
      simp [execOp, resolve, hfe, Deferred.ofValue, invoke, e1, callFn]
    | _ => rw [hfe] at hfv; cases hfv
   ·rename_i lid fs cs hev
    rw [hev] at hfv
    cases hfe : ρv f with
    | func fn first caps =>
     rw [hfe] at hfv
     cases hfv with
     | func _ vfs vcs _ _ hl1 hl2 hr1 hr2 =>
      rw [app3_eq]
      refine ⟨_, RepL.append ⟨hl1, hr1⟩ hargs, fun d pos after g => ?_⟩
      have e1 : (args.map ρv) = (args.toList.map ρv).toArray := by apply Array.ext'; simp
      simp [execOp, resolve, hfe, Deferred.ofValue, invoke, e1, callFn]
    | _ => rw [hfe] at hfv; cases hfv
   ·exact trivial
  | invoke rc name =>
   have hrv := hρ rc
   dsimp only
   split
   ·rename_i t v hev
    rw [hev] at hrv
    split
    ·rename_i gid hmg
     cases hre : ρv rc with
     | iface t' v' =>
      rw [hre] at hrv
      cases hrv with
      | iface _ _ _ hv =>
       have hmm := hE.mth t name gid hmg v' w
       refine ⟨_, RepL.cons hv hargs, fun d pos after g => ?_⟩
       have hva : #[v'] ++ args.map ρv = (v' :: args.toList.map ρv).toArray := by apply Array.ext'; simp
       rw [← hva]
       have hex : (#[Value.iface t v'] ++ args.map ρv).extract 1 (#[Value.iface t v'] ++ args.map ρv).size = args.map ρv := by
        apply Array.ext'
        simp [Array.toList_extract]
        exact List.take_of_length_le (by simp)
       simp only [execOp, resolve, Sem.run_bind, Sem.run_pure, Result.andThen_ok, invoke, hre]
       simp only [Array.getElem?_append_left (show 0 < (#[Value.iface t v']).size by simp)]
       simp only [show (#[Value.iface t v'] : Array Value)[0]? = some (.iface t v') from rfl, hex, callMethod, Sem.run_bind, run_program, Result.andThen_ok, hmm, callFn]
     | _ => rw [hre] at hrv; cases hrv
    ·exact trivial
   ·exact trivial
  | builtin b =>
   dsimp only
   have blt : ∀ {s : Sem Value} {r : OR}, (∀ {u : Value} {w' : World}, s.run E.P w = .ok u w' → ∀ d pos after g, (execOp ρv ⟨d, .call ⟨.builtin b, args, argTypes⟩, ty, pos, after, g⟩).run E.P w = .ok (.value u) w') → PM E.P M ob w s obs base r → Sound E.P ρv (.call ⟨.builtin b, args, argTypes⟩) ty M ob obs w base r := fun {s r} hx h =>
    Sd.mono (fun v o ⟨u, w', M', ob', h2, h3, h4, h5, h6⟩ => ⟨u, w', M', ob', fun d pos after g => .inl (hx h2 d pos after g), h3, h4, h5, h6⟩) (fun _ _ h => h.elim) (fun _ h => h.elim) h
   split
   ·rename_i x t h1 h2
    have ha : args = #[x] := by apply Array.ext'; simpa using h1
    have ht : argTypes = #[t] := by apply Array.ext'; simpa using h2
    subst ha ht
    exact blt (s := Builtin.len_ #[t] ty #[ρv x]) (fun hr d pos after g => by simp [execOp, resolve, invoke, builtin, hr]) (PM.of hm (elen_s hE hm (hρ x)))
   ·rename_i x y h1
    have ha : args = #[x, y] := by apply Array.ext'; simpa using h1
    subst ha
    split
    ·rename_i k p k' q e1 e2
     have hx := hρ x
     have hy := hρ y
     rw [e1] at hx
     rw [e2] at hy
     refine sdc fun hk => ?_
     have := kbeq_eq hk
     subst this
     obtain ⟨hx1, hx2⟩ := hx.int_inv
     obtain ⟨hy1, hy2⟩ := hy.int_inv
     refine ⟨_, w, M, ob, fun d pos after g => .inl ?_, Ext.refl _ _ _ _, hm, Still.refl _ _, .int _ _ (inR_minmax hx2 hy2).1⟩
     simp [execOp, resolve, invoke, builtin, hx1, hy1, run_min2]
    ·exact trivial
   ·rename_i x y h1
    have ha : args = #[x, y] := by apply Array.ext'; simpa using h1
    subst ha
    split
    ·rename_i k p k' q e1 e2
     have hx := hρ x
     have hy := hρ y
     rw [e1] at hx
     rw [e2] at hy
     refine sdc fun hk => ?_
     have := kbeq_eq hk
     subst this
     obtain ⟨hx1, hx2⟩ := hx.int_inv
     obtain ⟨hy1, hy2⟩ := hy.int_inv
     refine ⟨_, w, M, ob, fun d pos after g => .inl ?_, Ext.refl _ _ _ _, hm, Still.refl _ _, .int _ _ (inR_minmax hx2 hy2).2⟩
     simp [execOp, resolve, invoke, builtin, hx1, hy1, run_max2]
    ·exact trivial
   ·rename_i x y t t2 h1 h2
    have ha : args = #[x, y] := by apply Array.ext'; simpa using h1
    have ht : argTypes = #[t, t2] := by apply Array.ext'; simpa using h2
    subst ha ht
    exact blt (s := Builtin.append_ #[t, t2] ty #[ρv x, ρv y]) (fun hr d pos after g => by simp [execOp, resolve, invoke, builtin, hr]) (eappend_s hE hm hb1 hb2 (hρ x) (hρ y))
   ·rename_i x y t t2 h1 h2
    have ha : args = #[x, y] := by apply Array.ext'; simpa using h1
    have ht : argTypes = #[t, t2] := by apply Array.ext'; simpa using h2
    subst ha ht
    exact blt (s := Builtin.copy_ #[t, t2] ty #[ρv x, ρv y]) (fun hr d pos after g => by simp [execOp, resolve, invoke, builtin, hr]) (ecopy_s hE hm (hρ x) (hρ y))
   ·rename_i x t h1 h2
    have ha : args = #[x] := by apply Array.ext'; simpa using h1
    have ht : argTypes = #[t] := by apply Array.ext'; simpa using h2
    subst ha ht
    exact blt (s := Builtin.clear_ #[t] ty #[ρv x]) (fun hr d pos after g => by simp [execOp, resolve, invoke, builtin, hr]) (eclear_s hE hm (hρ x))
   ·rename_i m k t t2 h1 h2
    have ha : args = #[m, k] := by apply Array.ext'; simpa using h1
    have ht : argTypes = #[t, t2] := by apply Array.ext'; simpa using h2
    subst ha ht
    exact blt (s := Builtin.delete_ #[t, t2] ty #[ρv m, ρv k]) (fun hr d pos after g => by simp [execOp, resolve, invoke, builtin, hr]) (emapDel_s hE hm (hρ m) (hρ k))
   ·exact trivial
 | _ => exact trivial
theorem nrm_rep {v : Value} {a : AVal} (h : Rep M ob v a) : Rep M ob v (nrm a) := by
 cases h with
 | rowc k g c a n h hm => exact .row k g a n c h
 | pre k g n c sz b len h hc hn hl hm =>
  have := Rep.sub (M := M) k g 0 n sz b len c h hc (by omega) hl (by omega)
  rw [Nat.zero_mul, Nat.sub_zero] at this
  exact this
 | undef v => exact .undef v
 | bool b => exact .bool b
 | int k n hr => exact .int k n hr
 | str l hl => exact .str l hl
 | agg vs as hl h => exact .agg vs as hl h
 | tup vs as hl h => exact .tup vs as hl h
 | ptr b o cs h => exact .ptr b o cs h
 | ref k off b h => exact .ref k off b h
 | eref k g i sz off b n c h => exact .eref k g i sz off b n c h
 | csl k off len sz b h hm => exact .csl k off len sz b h hm
 | row k g a n c h => exact .row k g a n c h
 | sub k g lo len sz b n c h hl hn hc hm => exact .sub k g lo len sz b n c h hl hn hc hm
 | sub0 k g lo sz a a' n c h hl hc => exact .sub0 k g lo sz a a' n c h hl hc
 | mref k b h => exact .mref k b h
 | nilptr => exact .nilptr
 | nilslice => exact .nilslice
 | nilmap => exact .nilmap
 | nilfunc => exact .nilfunc
 | nilif => exact .nilif
 | hsl a n c => exact .hsl a n c
 | slnil sz t ht => exact .slnil sz t ht
 | slemp sz t a cap ht => exact .slemp sz t a cap ht
 | sl sz b o n cap xs t hn hc hm hz h ht => exact .sl sz b o n cap xs t hn hc hm hz h ht
 | func fn fs cs fa ca hf hc h1 h2 => exact .func fn fs cs fa ca hf hc h1 h2
 | iface t v a h => exact .iface t v a h
theorem Rep.rowc_inv {v : Value} {k g c : Nat} (h : Rep M ob v (.rowc k g c)) : ∃ a n, v = .slice a n c ∧ at' ob k g = some (.slice a n c) ∧ (c : Int) ≤ 9223372036854775807 := by
 cases h with | rowc _ _ _ a n h hm => exact ⟨a, n, rfl, h, hm⟩
theorem Rep.pre_inv {v : Value} {k g n c sz : Nat} (h : Rep M ob v (.pre k g n c sz)) : ∃ b len, v = .slice (some ⟨b, 0, none⟩) n c ∧ at' ob k g = some (.slice (some ⟨b, 0, none⟩) len c) ∧ 0 < c ∧ n ≤ len ∧ len ≤ c ∧ (c : Int) ≤ 9223372036854775807 := by
 cases h with | pre _ _ _ _ _ b len h hc hn hl hm => exact ⟨b, len, rfl, h, hc, hn, hl, hm⟩
theorem Mem.rowIs (hm : Mem M ob obs w) {k g sz : Nat} {e : TypeId} {xs : List AVal} (hx : obs[k]? = some (.row g sz e xs)) {ad : Option Addr} {n c : Nat} (hat : at' ob k g = some (.slice ad n c)) :
  n = xs.length ∧ n ≤ c ∧ (n : Int) ≤ 9223372036854775807 ∧ (ad = none ∧ n = 0 ∧ c = 0 ∨ ∃ b, ad = some ⟨b, 0, none⟩) := by
 obtain ⟨hs', v, h1, h2, h3, h4, h5, _⟩ := hm.rowOf hx
 rw [hat] at h4
 cases h4
 rcases h5.len with ⟨e1, rfl⟩ | ⟨b, c', e1, e2, e3, e4⟩
 ·cases e1; exact ⟨rfl, Nat.le_refl _, by decide, .inl ⟨rfl, rfl, rfl⟩⟩
 ·cases e1; exact ⟨rfl, e3, by have := maxLen_le; omega, .inr ⟨b, rfl⟩⟩
theorem RowAt.on {v : Value} {sz : Nat} {e : TypeId} {xs : List AVal} (h : RowAt M w v sz e xs) (hpos : 0 < sz) {b n c y : Nat} (hv : v = .slice (some ⟨b, 0, none⟩) n c) (h1 : xs.length ≤ y) (h2 : y ≤ c) :
  RowAt M w (.slice (some ⟨b, 0, none⟩) y c) sz e (xs ++ List.replicate (y - xs.length) (.agg (List.replicate sz .undef))) := by
 subst hv
 obtain ⟨cv, ⟨o1, o2⟩, h3, h4, h5, h6, h7⟩ := h
 rcases o2 with ⟨q, _⟩ | ⟨g, cap, cur, q1, _, q3, q4, q5, q6, q7⟩
 ·cases q
 cases q1
 have hy : y * sz ≤ cur.size := by rw [q6]; exact Nat.mul_le_mul_right _ h2
 have hlen : (xs ++ List.replicate (y - xs.length) (AVal.agg (List.replicate sz .undef))).length = y := by simp; omega
 refine ⟨cur.toList.take (y * sz), ⟨by rw [hlen]; simp; omega, .inr ⟨b, c, cur, by rw [hlen], Nat.zero_le _, q3, by rw [hlen]; exact h2, q5, q6, by rw [hlen]⟩⟩, fun u hu => h7 b rfl _ _ _ q3 u (List.mem_of_mem_take hu), fun x hx => ?_, fun q d hq => ?_, h6, h7⟩
 ·rcases List.mem_append.1 hx with hx | hx
  ·exact h4 x hx
  ·rw [(List.mem_replicate.1 hx).2]; simp [AVal.cells]
 ·have hlt := cellAt_lt hpos hq
  rw [hlen] at hlt
  rw [List.getElem?_take_of_lt hlt]
  by_cases hq1 : q < xs.length * sz
  ·rw [cellAt_app_left hpos hq1] at hq
   obtain ⟨u, hu, hr⟩ := h5 q d hq
   refine ⟨u, ?_, hr⟩
   rw [← q7, List.getElem?_take_of_lt hq1] at hu
   exact hu
  ·rw [cellAt_app_right hpos (by omega)] at hq
   obtain ⟨x, hx, hc⟩ := cellAt_inv hq
   have := (List.mem_replicate.1 (List.mem_of_getElem? hx)).2
   subst this
   have : d = .undef := (List.mem_replicate.1 (List.mem_of_getElem? (show (List.replicate sz AVal.undef)[_]? = some d from hc))).2
   subst this
   have hlt2 : q < cur.toList.length := by simp; omega
   exact ⟨_, List.getElem?_eq_getElem hlt2, .undef _⟩
theorem ecap_s (hE : EnvOK E) (hm : Mem M ob obs w) {t k g c hint : Nat} {v u : Value} {h : AVal} (hv : Rep M ob v (.rowc k g c)) (hu : Rep M ob u h) :
  PM E.P M ob w (Instr.sliceAt t v none (some u) none) obs base (ecap E hint (oget obs) t k g c h) := by
 unfold ecap
 split
 ·rename_i e0 esz eb _ _ _ g' sz e xs kk n hT hog
  have hk := og_some hog (by simp)
  obtain ⟨⟨hut, ie, z, hi', hs, _, _, _, _⟩, _⟩ := (hE.tab t _ hT).kind
  refine sdc fun hg => ?_
  obtain ⟨hg12, hg3⟩ := beq_and hg
  obtain ⟨hg1, hg2⟩ := beq_and hg12
  obtain rfl := beq_yes hg1
  obtain rfl := beq_yes hg2
  have hpos : 0 < sz := Nat.le_of_ble_eq_true hg3
  obtain ⟨hu', hel⟩ := elemOf hut
  have hse : (E.P.info? (E.P.elem t)).map (·.size) = some sz := by rw [hel]; simp [hi', hs]
  have hso := fun u : World => run_sizeOf (P := E.P) hse u
  obtain ⟨ad, len, rfl, hat, hcm⟩ := hv.rowc_inv
  obtain ⟨rfl, hnc, hnm, had⟩ := hm.rowIs hk hat
  obtain ⟨rfl, _⟩ := hu.int_inv
  rintro y rfl
  have run : y ≤ c → (Instr.sliceAt t (.slice ad xs.length c) none (some (.int kk (y : Int))) none).run E.P w = .ok (sliced ad 0 y c sz) w := fun hy => by
   rw [run_sliceAt_slice w t _ _ _ _ hu', run_slice_h w t ad _ c hu' kk y (by omega) (by omega), hso]; rfl
  cases hint with
  | zero =>
   rintro ⟨c1, c2⟩
   refine ⟨_, w, M, ob, run (by omega), Ext.refl _ _ _ _, hm, Still.refl _ _, ?_⟩
   rcases had with ⟨rfl, _, q⟩ | ⟨b, rfl⟩
   ·omega
   ·have e1 : sliced (some ⟨b, 0, none⟩) 0 y c sz = .slice (some ⟨b, 0, none⟩) y c := by
     simp [sliced, addr_add]
    rw [e1]
    exact .pre k g y c sz b _ hat c2 c1 hnc hcm
  | succ m =>
   rintro ⟨c1, c2⟩
   obtain ⟨hs0, v0, e1, e2, e3, e4, hrow, hblk⟩ := hm.rowOf hk
   rw [hat] at e4
   cases e4
   rcases had with ⟨rfl, q1, q2⟩ | ⟨b, rfl⟩
   ·
    subst q2
    obtain rfl : y = 0 := by omega
    have hx0 : xs = [] := List.eq_nil_of_length_eq_zero q1
    subst hx0
    have hl' : (hs0 ++ [Value.slice none 0 0]).length = g + 1 + 1 := by simp [e2]
    have hg' : (hs0 ++ [Value.slice none 0 0])[g + 1]? = some (.slice none 0 0) := by rw [← e2]; simp
    have := hm.rowTurn (hs' := hs0 ++ [Value.slice none 0 0]) hk e1 e3 ⟨_, rfl⟩ hl' hg' hrow (fun b _ _ => rfl) rfl rfl rfl (Nat.le_refl _) (fun b hb => by cases hb)
    refine ⟨_, w, M, ob.set k (hs0 ++ [Value.slice none 0 0]), run (Nat.le_refl _), ?_⟩
    rw [oput_some hk]
    have hrr : ([] : List AVal) ++ List.replicate (0 - ([] : List AVal).length) (AVal.agg (List.replicate sz .undef)) = [] := rfl
    rw [hrr]
    refine ⟨this.2.1, this.1, this.2.2, ?_⟩
    have hat2 : at' (ob.set k (hs0 ++ [Value.slice none 0 0])) k (g + 1) = some (.slice none 0 0) := by rw [at_get (List.getElem?_set_self (List.getElem?_eq_some_iff.1 e1).1)]; exact hg'
    have e9 : sliced none 0 0 0 sz = .slice none 0 0 := by simp [sliced]
    rw [e9]
    exact .row _ _ _ _ _ hat2
   ·have e9 : sliced (some ⟨b, 0, none⟩) 0 y c sz = .slice (some ⟨b, 0, none⟩) y c := by simp [sliced, addr_add]
    have hrow' := hrow.on hpos rfl c1 c2
    have hl' : (hs0 ++ [Value.slice (some ⟨b, 0, none⟩) y c]).length = g + 1 + 1 := by simp [e2]
    have hg' : (hs0 ++ [Value.slice (some ⟨b, 0, none⟩) y c])[g + 1]? = some (.slice (some ⟨b, 0, none⟩) y c) := by rw [← e2]; simp
    have := hm.rowTurn (hs' := hs0 ++ [Value.slice (some ⟨b, 0, none⟩) y c]) hk e1 e3 ⟨_, rfl⟩ hl' hg' hrow' (fun b _ _ => rfl) rfl rfl rfl (Nat.le_refl _) (fun b' hb => .inl hb)
    refine ⟨_, w, M, ob.set k (hs0 ++ [Value.slice (some ⟨b, 0, none⟩) y c]), run c2, ?_⟩
    rw [oput_some hk]
    refine ⟨this.2.1, this.1, this.2.2, ?_⟩
    have hat2 : at' (ob.set k (hs0 ++ [Value.slice (some ⟨b, 0, none⟩) y c])) k (g + 1) = some (.slice (some ⟨b, 0, none⟩) y c) := by rw [at_get (List.getElem?_set_self (List.getElem?_eq_some_iff.1 e1).1)]; exact hg'
    rw [e9]
    exact .row _ _ _ _ _ hat2
 ·exact trivial
theorem ecut3_s (hE : EnvOK E) (hm : Mem M ob obs w) {t k g : Nat} {v vl vh vm : Value} {l h m : AVal} (hv : Rep M ob v (.row k g)) (hl : Rep M ob vl l) (hh : Rep M ob vh h) (hmx : Rep M ob vm m) :
  PM E.P M ob w (Instr.sliceAt t v (some vl) (some vh) (some vm)) obs base (ecut3 E (oget obs) t k g l h m) := by
 unfold ecut3
 split
 ·rename_i e0 esz eb _ _ _ g' sz e xs ka a kb b kc c hT hog
  have hk := og_some hog (by simp)
  obtain ⟨⟨hut, ie, z, hi', hs, _, _, _, _⟩, _⟩ := (hE.tab t _ hT).kind
  refine sdc fun hg => ?_
  obtain ⟨hg1, hg2⟩ := beq_and hg
  obtain rfl := beq_yes hg1
  obtain rfl := beq_yes hg2
  obtain ⟨hu', hel⟩ := elemOf hut
  have hse : (E.P.info? (E.P.elem t)).map (·.size) = some sz := by rw [hel]; simp [hi', hs]
  have hso := fun u : World => run_sizeOf (P := E.P) hse u
  obtain ⟨ad, len, cap, rfl, hat⟩ := hv.row_inv
  obtain ⟨rfl, hnc, hnm, had⟩ := hm.rowIs hk hat
  obtain ⟨rfl, _⟩ := hl.int_inv
  obtain ⟨rfl, _⟩ := hh.int_inv
  obtain ⟨rfl, _⟩ := hmx.int_inv
  rintro x rfl y rfl q rfl ⟨⟨c1, c2⟩, c3⟩
  refine ⟨sliced ad x y q sz, w, M, ob, ?_, Ext.refl _ _ _ _, hm, Still.refl _ _, .undef _⟩
  rw [run_sliceAt_slice w t _ _ _ _ hu']
  unfold Instr.slice Instr.sliceBounds Instr.sliceBound
  simp only [Sem.run_bind, run_underlying hu', Result.andThen_ok, Option.isSome_some, if_true, Sem.run_pure, asIntOf]
  rw [if_pos ⟨by omega, by omega⟩]
  simp only [Sem.run_pure, Result.andThen_ok]
  rw [if_pos ⟨by omega, by omega⟩]
  simp only [Sem.run_pure, Result.andThen_ok]
  rw [if_pos ⟨by omega, by omega⟩]
  simp only [Sem.run_pure, Result.andThen_ok, hso, Int.toNat_natCast]
  rfl
 ·exact trivial
theorem run_append_make {P : Program} (w : World) (t tx ty e : TypeId) (kt : IntKind) (i : TypeInfo) (z : Value) (ht : P.underlying t = some (.slice e)) (hx : P.underlying tx = some (.int kt)) (hi : P.info? e = some i) (hz : i.zero = some z)
  (b n c m : Nat) (hm0 : 0 < m) (hpos : 0 < i.size) (olds : List Value) (hold : (Builtin.firstCells i.size n (.slice (some ⟨b, 0, none⟩) n c)).run P w.drew = .ok olds.toArray w.drew) (hg : c < n + m) (h63 : ((n + m : Nat) : Int) ≤ 9223372036854775807)
  (hbytes : (n + m) * i.bytes ≤ 140737488355328) :
  (Builtin.append_ #[t, tx] ty #[.slice (some ⟨b, 0, none⟩) n c, .int .i64 (m : Int)]).run P w =
   .ok (.slice (some ⟨w.heap.size, 0, none⟩) (n + m) (grownCap w (n + m) c e))
    (w.drew.alloc (.cells (olds ++ (Builtin.zeroCells z.cells m).toList ++ (Builtin.zeroCells z.cells (grownCap w (n + m) c e - (n + m))).toList).toArray e)) := by
 have hn : ¬ (n + m ≤ c) := by omega
 have h63' : ¬ (9223372036854775807 < ((n : Int) + (m : Int))) := by omega
 have hfit := growslice_fits (bytes := i.bytes) hg hbytes
 have h48' : ¬ (281474976710656 < Builtin.nextslicecap (n + m) c * i.bytes) := by omega
 have hw : IntKind.i64.wrap (m : Int) = (m : Int) := wrap_inR ⟨by simp only [kmin]; omega, by simp only [kmax]; omega⟩
 have hmb : ¬ (281474976710656 < (m : Int) * (i.bytes : Int)) := by
  have h1 : m * i.bytes ≤ (n + m) * i.bytes := Nat.mul_le_mul_right _ (by omega)
  have h2 : ((m * i.bytes : Nat) : Int) ≤ 140737488355328 := by omega
  push_cast at h2
  omega
 have h0 : ¬ ((m : Int) < 0) := by omega
 have hmz : ¬ (m * i.size = 0) := by
  have := Nat.mul_pos hm0 hpos
  omega
 simp [Builtin.append_, run_underlying ht, run_underlying hx, sizeOf, typeInfo, zeroValue, hi, hz, asInt, asIntOf, hw, h0, hmb, hn, h63', h48', hmz, Question.forced, hold, newRow, grownCap]
 congr 2
 apply Array.ext'
 simp [List.append_assoc]
theorem emore_s (hE : EnvOK E) (hm : Mem M ob obs w) (hb1 : obs[base]? = some .dead) (hb2 : ob[base]? = some []) {t t2 ty k g n c sz : Nat} {kt : IntKind} (hx2 : E.P.underlying t2 = some (.int kt)) {v u : Value} {m : AVal}
  (hv : Rep M ob v (.pre k g n c sz)) (hu : Rep M ob u m) : PM E.P M ob w (Builtin.append_ #[t, t2] ty #[v, u]) obs base (emore E base (oget obs) t k g n c sz m) := by
 unfold emore
 split
 ·rename_i e esz eb _ _ _ g' sz' e' xs a hT hog
  split
  ·rename_i te hTe
   obtain ⟨⟨hut, i, z, hi, hsz, heb, hz, hzs, hz1⟩, _⟩ := (hE.tab t _ hT).kind
   subst hsz heb
   refine sdc fun hg => ?_
   simp only [Bool.and_eq_true] at hg
   obtain ⟨⟨⟨g1, g2⟩, g3, g4⟩, g5, g6⟩ := hg
   obtain rfl := beq_yes g1
   have q2 := beq_yes g2
   subst q2
   have q3 := beq_yes g3
   subst q3
   have q4 := beq_yes g4
   subst q4
   have hpos : 0 < i.size := Nat.le_of_ble_eq_true g5
   obtain ⟨i', z', hi', hsz', hz', hzs', hzr, hone, hne⟩ := (hE.tab e te hTe).info
   rw [hi] at hi'
   cases hi'
   rw [hz] at hz'
   cases hz'
   have hk := og_some hog (by simp)
   obtain ⟨b, len, rfl, hat, hc0, hnl, hlc, hcm⟩ := hv.pre_inv
   obtain ⟨rfl, _, hnm, _⟩ := hm.rowIs hk hat
   obtain ⟨rfl, _⟩ := hu.int_inv
   rintro y rfl ⟨c1, f1, f2⟩
   obtain ⟨hs0, v0, e1, e2, e3, e4, hrow, hblk⟩ := hm.rowOf hk
   rw [hat] at e4
   cases e4
   obtain ⟨cv, o1, o2, o3, o4, o5, o6⟩ := hrow
   have hml := maxLen_le
   have hle : n * i.size ≤ xs.length * i.size := Nat.mul_le_mul_right _ hnl
   have holdl : (cv.take (n * i.size)).length = n * i.size := by rw [List.length_take, o1.1]; omega
   have hfc : (Builtin.firstCells i.size n (.slice (some ⟨b, 0, none⟩) n c)).run E.P w.drew = .ok (cv.take (n * i.size)).toArray w.drew := by
    refine run_firstCells_some w.drew i.size n ⟨b, 0, none⟩ n c _ holdl fun j u hj => ?_
    rw [List.getElem?_take] at hj
    split at hj
    ·rw [addr_add, Nat.zero_add]
     exact own_cells o1 (b := b) rfl hj
    ·cases hj
   have hrun := run_append_make (P := E.P) w t t2 ty e kt i z hut hx2 hi hz b n c y (by omega) hpos _ hfc c1 (by omega) f2
   have hp0 := hm.pure0 hzr
   obtain ⟨d1, d2⟩ := zeroCells_get (z := z.cells) (n := y)
   rw [hzs] at d1 d2
   obtain ⟨r1, r2⟩ := rep_cells (M := M) hp0 (notU_ne g6) hzs hpos d1 d2
   have hge := grownCap_ge w (n + y) c e
   have hcm' : grownCap w (n + y) c e ≤ maxLen := grownCap_le_maxLen w (n + y) c e f1
   have htl : (xs.take n).length = n := by rw [List.length_take]; omega
   have hxl : (xs.take n ++ List.replicate y (pureV (fun _ => .dead) 4 te.zero)).length = n + y := by simp; omega
   have hcells : ∀ u ∈ cv.take (n * i.size) ++ (Builtin.zeroCells z.cells y).toList, u.oneCell' = true := fun u hu => by
    rcases List.mem_append.1 hu with hu | hu
    ·exact o2 u (List.mem_of_mem_take hu)
    ·exact zeroCells_one hz1 u hu
   have hll : (cv.take (n * i.size) ++ (Builtin.zeroCells z.cells y).toList).length = (n + y) * i.size := by rw [List.length_append, holdl, d1, Nat.add_mul]
   have gr : Grown M w (w.drew.alloc (.cells (cv.take (n * i.size) ++ (Builtin.zeroCells z.cells y).toList ++ (Builtin.zeroCells z.cells (grownCap w (n + y) c e - (n + y))).toList).toArray e)) i.size e
     (.slice (some ⟨w.heap.size, 0, none⟩) (n + y) (grownCap w (n + y) c e)) (xs.take n ++ List.replicate y (pureV (fun _ => .dead) 4 te.zero)) := by
    refine ⟨⟨cv.take (n * i.size) ++ (Builtin.zeroCells z.cells y).toList, ⟨by rw [hll, hxl], .inr ⟨w.heap.size, _, _, by rw [hxl], Nat.zero_le _, heap_alloc_new w.drew _, by rw [hxl]; exact hge, hcm', ?_, ?_⟩⟩, hcells, fun q d hq => ?_⟩, hpos, fun x hx => ?_, fun b' hb' => ?_, fun b' hb' => heap_alloc_old w.drew _ hb', rfl, rfl, rfl, by rw [alloc_size]; exact Nat.le_succ _, ?_⟩
    ·rw [List.size_toArray, List.length_append, hll, Array.length_toList, size_zeroCells, hzs, ← Nat.add_mul]
     congr 1
     omega
    ·rw [hxl, ← hll]
     exact List.take_left
    ·by_cases hlt : q < n * i.size
     ·rw [cellAt_app_left hpos (by rw [htl]; exact hlt), cellAt_take hpos hlt] at hq
      obtain ⟨u, hu, hr⟩ := o4 q d hq
      exact ⟨u, by rw [List.getElem?_append_left (by rw [holdl]; exact hlt), List.getElem?_take_of_lt hlt]; exact hu, hr⟩
     ·rw [cellAt_app_right hpos (by rw [htl]; omega), htl] at hq
      rw [List.getElem?_append_right (by rw [holdl]; omega), holdl]
      exact r2 _ d hq
    ·rcases List.mem_append.1 hx with hx | hx
     ·exact o3 x (List.mem_of_mem_take hx)
     ·exact r1 x hx
    ·simp only [Value.ownBlock, Option.some.injEq] at hb'
     omega
    ·refine oneB_alloc (w := w.drew) fun u hu => ?_
     rcases List.mem_append.1 hu with hu | hu
     ·exact hcells u hu
     ·exact zeroCells_one hz1 u hu
   exact begin_s (hint := 2) hm hb1 hb2 hrun gr
  ·exact trivial
 ·exact trivial
theorem eopS_sound (hE : EnvOK E) (hm : Mem M ob obs w) (hb1 : obs[base]? = some .dead) (hb2 : ob[base]? = some []) {ρv : Operand → Value} {ρ : Operand → AVal} (hρ : ∀ x, Rep M ob (ρv x) (ρ x)) {hint : Nat} {op : Op} (ty : TypeId) {r : OR}
  (h : eopS E hint base (oget obs) ρ op = some r) : Sound E.P ρv op ty M ob obs w base r := by
 cases op with
 | move x => cases h; exact Sound.now hm (fun _ _ _ _ => rfl) (hρ x)
 | assign x =>
  simp only [eopS] at h
  split at h
  ·rename_i k g c hx
   cases h
   have := hρ x
   rw [hx] at this
   exact Sound.now hm (u := ρv x) (fun _ _ _ _ => rfl) this
  ·cases h
 | slice t x lo hi mx =>
  cases lo with
  | none =>
   cases hi with
   | none => simp [eopS] at h
   | some h' =>
    cases mx with
    | some _ => simp [eopS] at h
    | none =>
     simp only [eopS] at h
     split at h
     ·rename_i k g c hx
      cases h
      have := hρ x
      rw [hx] at this
      exact Sound.pm (s := Instr.sliceAt t (ρv x) none (some (ρv h')) none) (fun _ _ _ _ => rfl) (ecap_s hE hm this (hρ h'))
     ·cases h
  | some l =>
   cases hi with
   | none => simp [eopS] at h
   | some h' =>
    cases mx with
    | none => simp [eopS] at h
    | some m =>
     simp only [eopS] at h
     split at h
     ·rename_i k g hx
      cases h
      have := hρ x
      rw [hx] at this
      exact Sound.pm (s := Instr.sliceAt t (ρv x) (some (ρv l)) (some (ρv h')) (some (ρv m))) (fun _ _ _ _ => rfl) (ecut3_s hE hm this (hρ l) (hρ h') (hρ m))
     ·cases h
 | call c =>
  obtain ⟨callee, args, argTypes⟩ := c
  simp only [eopS] at h
  split at h
  ·split at h
   ·rename_i x t h1 h2
    split at h
    ·rename_i k g n _ _ _ _ _ _ hx hT
     cases h
     have ha : args = #[x] := by apply Array.ext'; simpa using h1
     have ht : argTypes = #[t] := by apply Array.ext'; simpa using h2
     subst ha ht
     have hr := hρ x
     rw [hx] at hr
     obtain ⟨ad, len, hv, hat, hcm⟩ := hr.rowc_inv
     obtain ⟨⟨hut, _⟩, _⟩ := (hE.tab t _ hT).kind
     refine ⟨.int .i64 n, w, M, ob, fun d pos after g => .inl ?_, Ext.refl _ _ _ _, hm, Still.refl _ _, .int _ _ ⟨by simp only [kmin]; omega, by simp only [kmax]; omega⟩⟩
     simp [execOp, resolve, invoke, builtin, Builtin.cap_, hv, run_underlying hut, goInt]
    ·cases h
   ·cases h
  ·split at h
   ·rename_i x y t t2 h1 h2
    split at h
    ·rename_i k g n c sz kt _ _ _ hx hT2
     cases h
     have ha : args = #[x, y] := by apply Array.ext'; simpa using h1
     have ht : argTypes = #[t, t2] := by apply Array.ext'; simpa using h2
     subst ha ht
     have hr := hρ x
     rw [hx] at hr
     have hx2 := (hE.tab t2 _ hT2).kind.1
     exact Sd.mono (fun v o ⟨u, w', M', ob', h2, h3, h4, h5, h6⟩ => ⟨u, w', M', ob', fun d pos after g => .inl (by simp [execOp, resolve, invoke, builtin, h2]), h3, h4, h5, h6⟩) (fun _ _ h => h.elim) (fun _ h => h.elim) (emore_s hE hm hb1 hb2 (ty := ty) hx2 hr (hρ y))
    ·cases h
   ·cases h
  ·cases h
 | _ => simp [eopS] at h
theorem eop_sound (hE : EnvOK E) (hm : Mem M ob obs w) (hb1 : obs[base]? = some .dead) (hb2 : ob[base]? = some []) {ρv : Operand → Value} {ρ : Operand → AVal} (hρ : ∀ x, Rep M ob (ρv x) (ρ x)) (hint : Nat) (op : Op) (ty : TypeId) :
  Sound E.P ρv op ty M ob obs w base (eop E hint base (oget obs) ρ op ty) := by
 unfold eop
 split
 ·rename_i r hr
  exact eopS_sound hE hm hb1 hb2 hρ ty hr
 ·exact eop0_sound hE hm hb1 hb2 (fun x => nrm_rep (hρ x)) hint op ty
end
section
variable {P : Program} {M M' : Imm} {ob ob' : Hs} {obs L : List AObj} {w w' : World}
theorem TkOK.monoA (ho : ∀ (k g : Nat) v, at' ob k g = some v → at' ob' k g = some v) {v : Value} {t : Tk} (h : TkOK ob v t) : TkOK ob' v t := by
 cases t with
 | own k g => exact ho _ _ _ h
 | _ => exact h
theorem Rep.monoA (ho : ∀ (k g : Nat) v, at' ob k g = some v → at' ob' k g = some v) {v : Value} {a : AVal} (h : Rep M ob v a) : Rep M ob' v a := by
 induction h with
 | undef v => exact .undef v
 | bool b => exact .bool b
 | int k n h => exact .int k n h
 | str l h => exact .str l h
 | agg vs as hl _ ih => exact .agg vs as hl ih
 | tup vs as hl _ ih => exact .tup vs as hl ih
 | ptr b o cs h => exact .ptr b o cs h
 | ref k off b h => exact .ref k off b (ho _ _ _ h)
 | eref k g i sz off b n c h => exact .eref k g i sz off b n c (ho _ _ _ h)
 | csl k off len sz b h hm => exact .csl k off len sz b (ho _ _ _ h) hm
 | row k g a n c h => exact .row k g a n c (ho _ _ _ h)
 | sub k g lo len sz b n c h hl hn hc hm => exact .sub k g lo len sz b n c (ho _ _ _ h) hl hn hc hm
 | sub0 k g lo sz a a' n c h hl hc => exact .sub0 k g lo sz a a' n c (ho _ _ _ h) hl hc
 | rowc k g c a n h hm => exact .rowc k g c a n (ho _ _ _ h) hm
 | pre k g n c sz b len h hc hn hl hm => exact .pre k g n c sz b len (ho _ _ _ h) hc hn hl hm
 | mref k b h => exact .mref k b (ho _ _ _ h)
 | nilptr => exact .nilptr
 | nilslice => exact .nilslice
 | nilmap => exact .nilmap
 | nilfunc => exact .nilfunc
 | nilif => exact .nilif
 | hsl a n c => exact .hsl a n c
 | slnil sz t ht => exact .slnil sz t (ht.monoA ho)
 | slemp sz t a cap ht => exact .slemp sz t a cap (ht.monoA ho)
 | sl sz b o n cap xs t hn hc hm hz h ht => exact .sl sz b o n cap xs t hn hc hm hz h (ht.monoA ho)
 | func fn fs cs fa ca hf hc _ _ ih1 ih2 => exact .func fn fs cs fa ca hf hc ih1 ih2
 | iface t v a _ ih => exact .iface t v a ih
theorem Mem.idle (h : Mem M ob L w) {k : Nat} (hk : ob[k]? = some []) : L[k]? = some .dead := by
 have hlt : k < L.length := by rw [← h.len]; exact (List.getElem?_eq_some_iff.1 hk).1
 have e := List.getElem?_eq_getElem hlt
 obtain ⟨hs, e1, hok⟩ := h.obj k _ e
 rw [hk] at e1
 cases e1
 cases hc : L[k] with
 | dead => rw [e, hc]
 | cells T cs => rw [hc] at hok; obtain ⟨b, q, _⟩ := hok; cases q
 | fcells cs => rw [hc] at hok; obtain ⟨b, q, _⟩ := hok; cases q
 | row g sz e xs => rw [hc] at hok; have := hok.1; simp at this
 | frow g sz xs => rw [hc] at hok; obtain ⟨v, q, _⟩ := hok; simp at q
 | tail g sz e => rw [hc] at hok; have := hok.1; simp at this
 | mp ag es => rw [hc] at hok; obtain ⟨b, q, _⟩ := hok; cases q
 | bun g I => rw [hc] at hok; have := hok.1; simp at this
theorem Mem.live (h : Mem M ob L w) {k : Nat} {c : AObj} (hk : L[k]? = some c) (hc : c ≠ .dead) : ∃ hs, ob[k]? = some hs ∧ hs ≠ [] := by
 obtain ⟨hs, e1, _⟩ := h.obj k c hk
 refine ⟨hs, e1, fun e => ?_⟩
 subst e
 rw [h.idle e1] at hk
 cases hk
 exact hc rfl
theorem Mem.shrink {n : Nat} (h : Mem M ob (obs ++ List.replicate n .dead) w) (hf : ∀ (i : Nat) hs, obs.length ≤ i → ob[i]? = some hs → hs = []) :
  Mem M (ob.take obs.length) obs w ∧ (∀ (k g : Nat) v, at' ob k g = some v → at' (ob.take obs.length) k g = some v) ∧
   ∀ {M0 : Imm} {ob0 : Hs} {obs0 : List AObj} {w0 : World}, Ext M0 ob0 obs0 w0 M ob (obs ++ List.replicate n .dead) w → ob0.length ≤ obs.length → Ext M0 ob0 obs0 w0 M (ob.take obs.length) obs w := by
 have hl := h.len
 simp at hl
 have left : ∀ {i : Nat}, i < obs.length → (ob.take obs.length)[i]? = ob[i]? ∧ (obs ++ List.replicate n AObj.dead)[i]? = obs[i]? := fun {i} hi => ⟨List.getElem?_take_of_lt hi, List.getElem?_append_left hi⟩
 have hat : ∀ (k g : Nat) v, at' ob k g = some v → at' (ob.take obs.length) k g = some v := by
  intro k g v hv
  by_cases hk : k < obs.length
  ·unfold at' at hv ⊢
   rw [(left hk).1]; exact hv
  ·unfold at' at hv
   cases hq : ob[k]? with
   | none => rw [hq] at hv; cases hv
   | some hs =>
    have := hf k hs (by omega) hq
    subst this
    rw [hq] at hv
    simp at hv
 have alive : ∀ {k b : Nat}, Alive (ob.take obs.length) obs k b → Alive ob (obs ++ List.replicate n .dead) k b := fun {k b} ⟨c, hs, e1, e2, e3, e4⟩ => by
  have hk := (List.getElem?_eq_some_iff.1 e1).1
  exact ⟨c, hs, (left hk).2.trans e1, e2, (left hk).1 ▸ e3, e4⟩
 refine ⟨⟨h.imm, by simp; omega, fun k c hc => ?_, fun k b ha => h.lt k b (alive ha), fun i j b ha hb => h.inj i j b (alive ha) (alive hb)⟩, hat, fun {M0 ob0 obs0 w0} hx h0 => ⟨hx.imm, hx.new, fun k hs hk => ?_, hx.os, hx.tape, hx.output, hx.size, hx.keep, fun k b ha => hx.fresh k b (alive ha)⟩⟩
 ·have hk := (List.getElem?_eq_some_iff.1 hc).1
  obtain ⟨hs, e1, hok⟩ := h.obj k c ((left hk).2.trans hc)
  refine ⟨hs, (left hk).1.trans e1, ?_⟩
  cases c with
  | cells T cs =>
   obtain ⟨b, q1, q2, cv, q3, q4, q5, q6⟩ := hok
   exact ⟨b, q1, q2, cv, q3, q4, q5, fun i v a hv ha => (q6 i v a hv ha).monoA hat⟩
  | _ => exact hok
 ·obtain ⟨hs', e1, e2⟩ := hx.hs k hs hk
  have hlt := (List.getElem?_eq_some_iff.1 hk).1
  exact ⟨hs', (left (by omega)).1.trans e1, e2⟩
theorem embG_nil (obs : List AObj) (j g : Nat) : embG [] obs j g = g := rfl
theorem embV_nil (base : Nat) (obs : List AObj) : ∀ n, embV [] base obs n = embV [] base [] n := by
 intro n
 induction n with
 | zero => rfl
 | succ n ih =>
  funext a
  cases a <;> simp only [embV, embG_nil, ih]
def embN (base : Nat) (new : List AObj) : List AObj := new.map (embO [] base [] 0)
theorem Mem.emb0 (h : Mem M ob L w) {base : Nat} {new : List AObj} {obK : Hs} (hfit : base + new.length ≤ L.length) (hfree : ∀ j, j < new.length → ob[base + j]? = some [])
  (hx : Ext M [] [] w M' obK new w') (h' : Mem M' obK new w') :
  Mem M' (ob.take base ++ obK ++ ob.drop (base + obK.length)) (L.take base ++ embN base new ++ L.drop (base + (embN base new).length)) w' ∧
   Ext M ob L w M' (ob.take base ++ obK ++ ob.drop (base + obK.length)) (L.take base ++ embN base new ++ L.drop (base + (embN base new).length)) w' ∧
   (∀ n v a, Rep M' obK v a → Rep M' (ob.take base ++ obK ++ ob.drop (base + obK.length)) v (AW.embV [] base [] n a)) := by
 have hkl : obK.length = new.length := h'.len
 have hnl : (embN base new).length = new.length := by simp [embN]
 obtain ⟨p1, p2⟩ := take_set_drop ob obK base (by rw [h.len, hkl]; exact hfit)
 obtain ⟨q1, q2⟩ := take_set_drop L (embN base new) base (by rw [hnl]; exact hfit)
 rw [hkl] at p2
 rw [hnl] at q2
 have inO : ∀ {j : Nat}, j < new.length → (ob.take base ++ obK ++ ob.drop (base + obK.length))[base + j]? = obK[j]? := fun {j} hj => by
  have := p2 (base + j)
  rw [if_pos ⟨by omega, by omega⟩, Nat.add_sub_cancel_left] at this
  rw [hkl]; exact this
 have outO : ∀ {i : Nat}, ¬ (base ≤ i ∧ i < base + new.length) → (ob.take base ++ obK ++ ob.drop (base + obK.length))[i]? = ob[i]? := fun {i} hi => by
  have := p2 i
  rw [if_neg hi] at this
  rw [hkl]; exact this
 have inL : ∀ {j : Nat}, j < new.length → (L.take base ++ embN base new ++ L.drop (base + (embN base new).length))[base + j]? = (new[j]?).map (embO [] base [] 0) := fun {j} hj => by
  have := q2 (base + j)
  rw [if_pos ⟨by omega, by omega⟩, Nat.add_sub_cancel_left] at this
  rw [hnl, this]
  simp [embN]
 have outL : ∀ {i : Nat}, ¬ (base ≤ i ∧ i < base + new.length) → (L.take base ++ embN base new ++ L.drop (base + (embN base new).length))[i]? = L[i]? := fun {i} hi => by
  have := q2 i
  rw [if_neg hi] at this
  rw [hnl]; exact this
 have hat : ∀ {j g : Nat} {v : Value}, at' obK j g = some v → at' (ob.take base ++ obK ++ ob.drop (base + obK.length)) (embK [] base j) (embG [] [] j g) = some v := by
  intro j g v hv
  rw [embK_ge (Nat.zero_le _), embG_nil]
  show at' _ (base + j) g = some v
  unfold at' at hv ⊢
  cases hq : obK[j]? with
  | none => rw [hq] at hv; cases hv
  | some hs =>
   have hj : j < new.length := by rw [← hkl]; exact (List.getElem?_eq_some_iff.1 hq).1
   rw [inO hj]
   exact hv
 have hrep : ∀ n v a, Rep M' obK v a → Rep M' (ob.take base ++ obK ++ ob.drop (base + obK.length)) v (AW.embV [] base [] n a) := embV_gen hat fun hv _ => hat hv
 have hle : HsLe ob (ob.take base ++ obK ++ ob.drop (base + obK.length)) := by
  intro i hs hi
  by_cases hin : base ≤ i ∧ i < base + new.length
  ·have e := hfree (i - base) (by omega)
   rw [show base + (i - base) = i from by omega, hi] at e
   cases e
   have hj : i - base < obK.length := by omega
   refine ⟨obK[i - base], ?_, List.nil_prefix⟩
   have := inO (j := i - base) (by omega)
   rw [show base + (i - base) = i from by omega] at this
   rw [this]
   exact List.getElem?_eq_getElem hj
  ·exact ⟨hs, (outO hin).trans hi, List.prefix_refl _⟩
 have ownsE : ∀ o : AObj, (embO [] base [] 0 o).owns = o.owns := fun o => by cases o <;> rfl
 have cls : ∀ {i b : Nat}, Alive (ob.take base ++ obK ++ ob.drop (base + obK.length)) (L.take base ++ embN base new ++ L.drop (base + (embN base new).length)) i b → (∃ j, j < new.length ∧ i = base + j ∧ Alive obK new j b) ∨ (¬ (base ≤ i ∧ i < base + new.length) ∧ Alive ob L i b) := by
  rintro i b ⟨c, hs, e1, e2, e3, e4⟩
  by_cases hin : base ≤ i ∧ i < base + new.length
  ·obtain ⟨j, rfl⟩ : ∃ j, i = base + j := ⟨i - base, by omega⟩
   have hj : j < new.length := by omega
   rw [inL hj] at e1
   rw [inO hj] at e3
   obtain ⟨o, ho, rfl⟩ := Option.map_eq_some_iff.1 e1
   rw [ownsE] at e2
   exact .inl ⟨j, hj, rfl, o, hs, ho, e2, e3, e4⟩
  ·rw [outL hin] at e1
   rw [outO hin] at e3
   exact .inr ⟨hin, c, hs, e1, e2, e3, e4⟩
 have noK : ∀ {i b : Nat}, Alive ob L i b → (∀ j, ¬ Alive obK new j b) := fun {i b} ha j hj => by
  rcases hx.fresh j b hj with ⟨k', c, hs, e, _⟩ | q
  ·simp at e
  ·have := h.lt i b ha; omega
 have no0 : ∀ b k, ¬ Alive ([] : Hs) [] k b := fun b k ⟨c, hs, e, _⟩ => by simp at e
 refine ⟨⟨h'.imm, by rw [hkl] at p1 ⊢; rw [hnl] at q1 ⊢; rw [p1, q1]; exact h.len, fun i c hc => ?_, fun i b ha => ?_, fun i i' b ha hb => ?_⟩, ⟨hx.imm, fun b o y hy => ?_, hle, hx.os, hx.tape, hx.output, hx.size, fun b hb hn => hx.keep b hb (no0 b), fun i b ha => ?_⟩, hrep⟩
 ·by_cases hin : base ≤ i ∧ i < base + new.length
  ·obtain ⟨j, rfl⟩ : ∃ j, i = base + j := ⟨i - base, by omega⟩
   have hj : j < new.length := by omega
   rw [inL hj] at hc
   obtain ⟨o, ho, rfl⟩ := Option.map_eq_some_iff.1 hc
   obtain ⟨hs, e1, hok⟩ := h'.obj j o ho
   refine ⟨hs, (inO hj).trans e1, ?_⟩
   cases o with
   | cells T cs =>
    obtain ⟨b, t1, t2, cv, t3, t4, t5, t6⟩ := hok
    obtain ⟨m1, m2⟩ := mapL_rep (hrep 4) t4 t6
    exact ⟨b, t1, t2, cv, t3, m1, t5, m2⟩
   | _ => exact hok
  ·rw [outL hin] at hc
   obtain ⟨hs, e1, hok⟩ := h.obj i c hc
   refine ⟨hs, (outO hin).trans e1, hok.mono hx.imm hle (fun b h1 h2 o hno y hy => ?_) (fun b c' h1 h2 hc' => ?_)⟩
   ·have ha : Alive ob L i b := (alive_of hc e1).2 ⟨h1, h2⟩
    rcases hx.new b o y hy with q | q | ⟨k, q⟩
    ·exact hno y q
    ·have := h.lt i b ha; omega
    ·exact no0 b k q
   ·have ha : Alive ob L i b := (alive_of hc e1).2 ⟨h1, h2⟩
    rw [hx.keep b (h.lt i b ha) (no0 b)]
    exact hc'
 ·rcases cls ha with ⟨j, hj, rfl, ha2⟩ | ⟨_, ha2⟩
  ·exact h'.lt j b ha2
  ·exact Nat.lt_of_lt_of_le (h.lt i b ha2) hx.size
 ·rcases cls ha with ⟨j, hj, rfl, ha2⟩ | ⟨_, ha2⟩ <;> rcases cls hb with ⟨j', hj', rfl, hb2⟩ | ⟨_, hb2⟩
  ·rw [h'.inj j j' b ha2 hb2]
  ·exact absurd ha2 (noK hb2 j)
  ·exact absurd hb2 (noK ha2 j')
  ·exact h.inj i i' b ha2 hb2
 ·rcases hx.new b o y hy with q | q | ⟨k, q⟩
  ·exact .inl q
  ·exact .inr (.inl q)
  ·exact (no0 b k q).elim
 ·rcases cls ha with ⟨j, hj, rfl, ha2⟩ | ⟨_, ha2⟩
  ·rcases hx.fresh j b ha2 with ⟨k, q⟩ | q
   ·exact (no0 b k q).elim
   ·exact .inr q
  ·exact .inl ⟨i, ha2⟩
end
section
variable {M : Imm} {ob : Hs} {n : Nat}
theorem blt_yes {k n : Nat} (h : Nat.blt k n = true) : k < n := by simpa [Nat.blt_eq] using h
theorem at_take {k g : Nat} {v : Value} (hk : k < n) (h : at' ob k g = some v) : at' (ob.take n) k g = some v := by
 unfold at' at *
 rw [List.getElem?_take_of_lt hk]
 exact h
theorem belL_get {f : AVal → Bool} : ∀ {l : List AVal}, belL f l = true → ∀ (i : Nat) a, l[i]? = some a → f a = true
 | [], _, i, a, h => by simp at h
 | c :: r, hb, i, a, h => by
  simp only [belL, Bool.and_eq_true] at hb
  cases i with
  | zero => simp at h; subst h; exact hb.1
  | succ i => exact belL_get hb.2 i a (by simpa using h)
theorem belT_rep {v : Value} {t : Tk} (h : TkOK ob v t) (hb : belT n t = true) : TkOK (ob.take n) v t := by
 cases t with
 | own k g => exact at_take (blt_yes hb) h
 | _ => exact h
theorem bel_rep : ∀ (m : Nat) {v : Value} {a : AVal}, Rep M ob v a → bel n m a = true → Rep M (ob.take n) v a := by
 intro m
 induction m with
 | zero => intro v a _ h; cases h
 | succ m ih =>
  intro v a h hb
  cases h with
  | undef v => exact .undef v
  | bool b => exact .bool b
  | int k n hr => exact .int k n hr
  | str l hl => exact .str l hl
  | agg vs as hl h => exact .agg vs as hl fun i v a hv ha => ih (h i v a hv ha) (belL_get hb i a ha)
  | tup vs as hl h => exact .tup vs as hl fun i v a hv ha => ih (h i v a hv ha) (belL_get hb i a ha)
  | ptr b o cs h => exact .ptr b o cs h
  | ref k off b h => exact .ref k off b (at_take (blt_yes hb) h)
  | eref k g i sz off b n c h => exact .eref k g i sz off b n c (at_take (blt_yes hb) h)
  | csl k off len sz b h hm => exact .csl k off len sz b (at_take (blt_yes hb) h) hm
  | row k g a n c h => exact .row k g a n c (at_take (blt_yes hb) h)
  | sub k g lo len sz b n c h hl hn hc hm => exact .sub k g lo len sz b n c (at_take (blt_yes hb) h) hl hn hc hm
  | sub0 k g lo sz a a' n c h hl hc => exact .sub0 k g lo sz a a' n c (at_take (blt_yes hb) h) hl hc
  | rowc k g c a n h hm => exact .rowc k g c a n (at_take (blt_yes hb) h) hm
  | pre k g n c sz b len h hc hn hl hm => exact .pre k g n c sz b len (at_take (blt_yes hb) h) hc hn hl hm
  | mref k b h => exact .mref k b (at_take (blt_yes hb) h)
  | nilptr => exact .nilptr
  | nilslice => exact .nilslice
  | nilmap => exact .nilmap
  | nilfunc => exact .nilfunc
  | nilif => exact .nilif
  | hsl a n c => exact .hsl a n c
  | slnil sz t ht => exact .slnil sz t (belT_rep ht hb)
  | slemp sz t a cap ht => exact .slemp sz t a cap (belT_rep ht hb)
  | sl sz b o n cap xs t hn hc hm hz h ht => exact .sl sz b o n cap xs t hn hc hm hz h (belT_rep ht hb)
  | func fn fs cs fa ca hf hc h1 h2 =>
   obtain ⟨hb1, hb2⟩ := beq_and hb
   exact .func fn fs cs fa ca hf hc (fun i v a hv ha => ih (h1 i v a hv ha) (belL_get hb1 i a ha)) (fun i v a hv ha => ih (h2 i v a hv ha) (belL_get hb2 i a ha))
  | iface t v a h => exact .iface t v a (ih h hb)
theorem otake_eq : ∀ (n : Nat) (l : List AObj), otake n l = l.take n
 | 0, _ => by simp [otake]
 | n + 1, [] => by simp [otake]
 | n + 1, x :: r => by simp [otake, otake_eq n r]
theorem belO_get {n : Nat} : ∀ {l : List AObj}, belO n l = true → ∀ (i : Nat) T cs, l[i]? = some (.cells T cs) → belL (bel n 5) cs = true
 | [], _, i, T, cs, h => by simp at h
 | x :: r, hb, i, T, cs, h => by
  cases i with
  | zero =>
   simp at h
   subst h
   simp only [belO, Bool.and_eq_true] at hb
   exact hb.1
  | succ i =>
   refine belO_get (l := r) ?_ i T cs (by simpa using h)
   cases x <;> first | exact hb | (simp only [belO, Bool.and_eq_true] at hb; exact hb.2)
theorem belF_get {n : Nat} : ∀ {l : List (Nat × AVal)}, belF n l = true → ∀ t, bel n 5 (getS l t) = true ∨ getS l t = .undef
 | [], _, t => .inr rfl
 | (i, v) :: r, hb, t => by
  simp only [belF, Bool.and_eq_true] at hb
  simp only [getS]
  cases Nat.beq i t with
  | true => exact .inl hb.1
  | false => exact belF_get hb.2 t
theorem Mem.cutO {obs : List AObj} {w : World} (h : Mem M ob obs w) (hb : belO n (obs.take n) = true) : Mem M (ob.take n) (obs.take n) w ∧ ∀ {k b : Nat}, Alive (ob.take n) (obs.take n) k b → Alive ob obs k b := by
 have left : ∀ {i : Nat} {c : AObj}, (obs.take n)[i]? = some c → i < n ∧ obs[i]? = some c := fun {i c} hc => by
  rw [List.getElem?_take] at hc
  split at hc
  ·exact ⟨by assumption, hc⟩
  ·cases hc
 have alive : ∀ {k b : Nat}, Alive (ob.take n) (obs.take n) k b → Alive ob obs k b := fun {k b} ⟨c, hs, e1, e2, e3, e4⟩ => by
  obtain ⟨hk, e1⟩ := left e1
  rw [List.getElem?_take_of_lt hk] at e3
  exact ⟨c, hs, e1, e2, e3, e4⟩
 refine ⟨⟨h.imm, by simp [h.len], fun k c hc => ?_, fun k b ha => h.lt k b (alive ha), fun i j b ha hb => h.inj i j b (alive ha) (alive hb)⟩, alive⟩
 obtain ⟨hk, hc'⟩ := left hc
 obtain ⟨hs, e1, hok⟩ := h.obj k c hc'
 refine ⟨hs, by rw [List.getElem?_take_of_lt hk]; exact e1, ?_⟩
 cases c with
 | cells T cs =>
  obtain ⟨b, q1, q2, cv, q3, q4, q5, q6⟩ := hok
  exact ⟨b, q1, q2, cv, q3, q4, q5, fun i v a hv ha => bel_rep 5 (q6 i v a hv ha) (belL_get (belO_get hb k _ cs hc) i a ha)⟩
 | _ => exact hok
end
def fen (r : Option Nat) : Fence := { Fence.wide with round := r }
def OpRuns (P : Program) (o : Oper) (ρ : Operand → Value) (w : World) (R : Ending → World → Prop) : Prop :=
 (∃ v w', (execOp ρ o).run P w = .ok (.value v) w' ∧ R (.returned v) w') ∨
 (∃ w', (execOp ρ o).run P w = .ok .skip w' ∧ R (.returned undef) w') ∨
 (∃ v w', (execOp ρ o).run P w = .halt (.panic v) w' ∧ R (.panicked [{ v, recovered := false }]) w') ∨
 (∃ f args w', (execOp ρ o).run P w = .ok (.enter f args) w' ∧ Calls P f args w' fun e w'' => R e w'' ∧ e ≠ .outgrown) ∨
 (∃ l f tmps as bd w', (execOp ρ o).run P w = .ok (.round l f tmps as bd) w' ∧ RoundIn Fence.wide 0 P l f tmps as bd w' fun e w'' => R e w'' ∧ e ≠ .outgrown)
theorem OpRuns.wpIn {rd : Option Nat} {P : Program} {o : Oper} {a : Act} {w : World} {R : Ending → World → Prop} (h : OpRuns P o a.eval w R) {next : Act → World → Prop} {Q : Exit → Act → World → Prop}
  (hnd : ∀ c, o.op ≠ .defer c) (h1 : ∀ v w', R (.returned v) w' → next (a.put o.dst v) w') (h2 : ∀ ch w', R (.panicked ch) w' → Q (.panic ch) a w') : o.wpIn (fen rd) 0 P a w next Q := by
 refine ⟨fun _ _ => trivial, ?_⟩
 rw [Oper.semAt_eq _ _ _ hnd]
 rcases h with ⟨v, w', hr, hR⟩ | ⟨w', hr, hR⟩ | ⟨v, w', hr, hR⟩ | ⟨f, args, w', hr, hc⟩ | ⟨l, f, tmps, as, bd, w', hr, hc⟩
 ·rw [hr]; exact h1 v w' hR
 ·rw [hr]; exact h1 undef w' hR
 ·rw [hr]; exact h2 _ w' hR
 ·rw [hr]
  refine ⟨fun h => (by cases h), (callsIn_wide (n := 0)).2 (hc.mono fun e w'' ⟨hR, hne⟩ => ?_)⟩
  cases e with
  | returned v => exact h1 v w'' hR
  | panicked ch => exact h2 ch w'' hR
  | outgrown => exact absurd rfl hne
 ·rw [hr]
  refine ⟨fun h => (by cases h), RoundIn.mono (F := Fence.wide) hc fun e w'' ⟨hR, hne⟩ => ?_⟩
  cases e with
  | returned v => exact h1 v w'' hR
  | panicked ch => exact h2 ch w'' hR
  | outgrown => exact absurd rfl hne
def After (M : Imm) (ob : Hs) (L : List AObj) (w : World) (K : AVal → List AObj → Prop) (Kp : AVal → List AObj → Prop) (e : Ending) (w' : World) : Prop :=
 ∃ M' ob' L', Ext M ob L w M' ob' L' w' ∧ Mem M' ob' L' w' ∧ ((∃ u v, e = .returned u ∧ Rep M' ob' u v ∧ K v L') ∨ ∃ ch v, e = .panicked ch ∧ EndRep M' ob' e (.pan v) ∧ Kp v L')
section
variable {P : Program} {E : Env} {M M' : Imm} {ob ob' : Hs} {obs L : List AObj} {w w' : World} {K Kp : AVal → List AObj → Prop}
theorem CallRuns.mono {f : FuncId} {va : Array Value} {R R' : Ending → World → Prop} (hR : ∀ e w, R e w → R' e w) (h : CallRuns P f va w R) : CallRuns P f va w R' := by
 rcases h with ⟨h1, h2⟩ | ⟨u, w', h1, h2⟩
 ·exact .inl ⟨h1, h2.mono fun e w h => hR e w h⟩
 ·exact .inr ⟨u, w', h1, hR _ _ h2⟩
theorem After.ne {e : Ending} (h : After M ob L w K Kp e w') : e ≠ .outgrown := by
 obtain ⟨_, _, _, _, _, ⟨u, v, rfl, _⟩ | ⟨ch, v, rfl, _⟩⟩ := h <;> (intro h; cases h)
theorem CallRunsF.mono {f : Fn} {va : Array Value} {R R' : Ending → World → Prop} (hR : ∀ e w, R e w → R' e w) (h : CallRunsF P f va w R) : CallRunsF P f va w R' := by
 cases f with
 | func f => exact CallRuns.mono hR h
 | yield l =>
  obtain ⟨f, tmps, as, bd, h1, h2⟩ := h
  exact ⟨f, tmps, as, bd, h1, RoundIn.mono h2 hR⟩
 | _ => exact h.elim
theorem CallRuns.op {f : Fn} {va : Array Value} {o : Oper} {ρ : Operand → Value} {R : Ending → World → Prop} (hne : ∀ e w, R e w → e ≠ .outgrown) (hx : (execOp ρ o).run P w = (callFn f va).run P w) (h : CallRunsF P f va w R) : OpRuns P o ρ w R := by
 cases f with
 | func f =>
  rcases h with ⟨h1, h2⟩ | ⟨u, w', h1, h2⟩
  ·exact .inr (.inr (.inr (.inl ⟨f, va, w, hx.trans h1, h2.mono fun e w h => ⟨h, hne e w h⟩⟩)))
  ·exact .inl ⟨u, w', hx.trans h1, h2⟩
 | yield l =>
  obtain ⟨f, tmps, as, bd, h1, h2⟩ := h
  exact .inr (.inr (.inr (.inr ⟨l, f, tmps, as, bd, w, hx.trans h1, RoundIn.mono h2 fun e w h => ⟨h, hne e w h⟩⟩)))
 | _ => exact h.elim
theorem mapL_repL {ob1 : Hs} {g : AVal → AVal} (hg : ∀ v a, Rep M ob v a → Rep M' ob1 v (g a)) {vs : List Value} {as : List AVal} (h : RepL M ob vs as) : RepL M' ob1 vs (mapL g as) := mapL_rep hg h.1 h.2
theorem callOK_part (hm : Mem M ob L w) {f : Fn} {args : List AVal} {va : List Value} {ks : List Nat} {r : Res} {obs' : List AObj} (hk : ksOK ks L = true) (hr : RepL M ob va args)
  (h : CallOKF P f (mapL (cvtV 0 ks (oget L) 5) args) (subO 0 ks L) r obs') :
  CallRunsF P f va.toArray w fun e w' => ∃ M' obK, Ext M ob L w M' (embH ks ob obK) (embL ks L.length L 0 obs' L) w' ∧ Mem M' (embH ks ob obK) (embL ks L.length L 0 obs' L) w' ∧ EndRep M' obK e r ∧ obK.length = obs'.length ∧
   ∀ n v a, Rep M' obK v a → Rep M' (embH ks ob obK) v (embV ks L.length L n a) := by
 obtain ⟨c1, _, _⟩ := hm.cvt (n0 := 0) hk
 refine CallRunsF.mono (fun e w' ⟨M', obK, hx, hm', hend⟩ => ?_) (h M _ w va c1 (mapL_repL (fun v a => hm.cvtV (n0 := 0) hk 5 v a) hr))
 obtain ⟨e1, e2, _⟩ := hm.emb hk hx hm'
 exact ⟨M', obK, e2, e1, hend, hm'.len, hm.embV hk hx.hs cutL_len⟩
theorem callG_sound (hm : Mem M ob obs w) {f : Fn} {args : List AVal} {va : List Value} (hr : RepL M ob va args) (h : CallG P f args obs K Kp) : CallRunsF P f va.toArray w (After M ob obs w K Kp) := by
 have mono : ∀ {M1 : Imm}, (∀ b o x, M b o x → M1 b o x) → RepL M1 ob va args := fun hM => ⟨hr.1, fun i v a hv ha => (hr.2 i v a hv ha).monoM hM⟩
 cases h with
 | pure r new h k =>
  obtain ⟨M1, g1, g2, _, g4⟩ := hm.frzL args
  refine CallRunsF.mono (fun e w' ⟨M', obK, x1, x2, x3, _, x5⟩ => ?_) (callOK_part (ks := []) g1 rfl (mono g2.imm) h)
  refine ⟨M', _, _, g2.trans x1, x2, .inl ?_⟩
  rw [olen_eq, ← g4] at k
  cases e with
  | returned u => exact ⟨u, _, rfl, x5 5 u r x3, k⟩
  | panicked ch => exact x3.elim
  | outgrown => exact x3.elim
 | eff fz ks r obs' hk h k =>
  obtain ⟨M1, g1, g2, _, g4⟩ := Mem.frzs fz M obs hm
  refine CallRunsF.mono (fun e w' ⟨M', obK, x1, x2, x3, _, x5⟩ => ?_) (callOK_part g1 hk (mono g2.imm) h)
  refine ⟨M', _, _, g2.trans x1, x2, .inl ?_⟩
  rw [olen_eq] at k
  cases e with
  | returned u => exact ⟨u, _, rfl, x5 5 u r x3, k⟩
  | panicked ch => exact x3.elim
  | outgrown => exact x3.elim
 | effp fz ks r obs' hk h k =>
  obtain ⟨M1, g1, g2, _, g4⟩ := Mem.frzs fz M obs hm
  refine CallRunsF.mono (fun e w' ⟨M', obK, x1, x2, x3, _, x5⟩ => ?_) (callOK_part g1 hk (mono g2.imm) h)
  refine ⟨M', _, _, g2.trans x1, x2, .inr ?_⟩
  rw [olen_eq] at k
  cases e with
  | returned u => exact x3.elim
  | panicked ch =>
   obtain ⟨v, e1, e2⟩ := x3
   exact ⟨ch, _, rfl, ⟨v, e1, x5 5 v r e2⟩, k⟩
  | outgrown => exact x3.elim
 | pan r h k =>
  obtain ⟨M1, g1, g2, _, g4⟩ := hm.frzL args
  refine CallRunsF.mono (fun e w' ⟨M', obK, x1, x2, x3, x4, x5⟩ => ?_) (callOK_part (ks := []) g1 rfl (mono g2.imm) h)
  have h0 : obK = [] := List.eq_nil_of_length_eq_zero (by simpa using x4)
  subst h0
  refine ⟨M', _, _, g2.trans x1, x2, .inr ?_⟩
  cases e with
  | returned u => exact x3.elim
  | panicked ch =>
   obtain ⟨v, e1, e2⟩ := x3
   exact ⟨ch, r, rfl, ⟨v, e1, e2.pure⟩, k⟩
  | outgrown => exact x3.elim
theorem sd_orF {VS : AVal → List AObj → Prop} {CS : Fn → List AVal → Prop} {PS : AVal → Prop} {obs1 : List AObj} {base : Nat} (hb : base = olen obs) : ∀ {r : OR}, Sd VS CS PS obs1 base r → orF P obs K Kp r →
  (∃ v, VS v obs1 ∧ K v obs) ∨ (∃ k x v, VS v (oput obs1 k x) ∧ K v (oput obs k x)) ∨ (∃ f args, CS f args ∧ CallG P f args obs K Kp) ∨ ∃ v, PS v ∧ Kp v obs
 | .no, _, k => k.elim
 | .val v, h, k => .inl ⟨v, h, k⟩
 | .mkf fn fs cs, h, k => .inl ⟨_, h, k⟩
 | .need p r, h, k => sd_orF hb (h k.1) k.2
 | .alt p v w, h, k => by
  rcases k with ⟨hp, k⟩ | k
  ·exact .inl ⟨v, h.1 hp, k⟩
  ·exact .inl ⟨w, h.2, k⟩
 | .idx n f, h, ⟨i, hi, k⟩ => sd_orF hb (h i hi) k
 | .elem xs i f, h, ⟨x, hx, k⟩ => sd_orF hb (h x hx) k
 | .byte l i, h, ⟨c, hc, k⟩ => .inl ⟨_, h c hc, k⟩
 | .text xs, h, ⟨l, hl, hm, k⟩ => .inl ⟨_, h l hl hm, k⟩
 | .find es key f, h, ⟨o, ho, k⟩ => by subst ho; exact sd_orF hb (r := f (mfind es key)) h k
 | .born x v, h, k => .inr (.inl ⟨base, x, v, h, by rw [hb]; exact k⟩)
 | .upd i x v, h, k => .inr (.inl ⟨i, x, v, h, k⟩)
 | .nilq xs neg, ⟨b, h1, h2⟩, k => .inl ⟨_, h2, k b h1⟩
 | .call f args, h, k => .inr (.inr (.inl ⟨f, args, h, k⟩))
 | .pan v, h, k => .inr (.inr (.inr ⟨v, h, k⟩))
theorem oget_pad (l : List AObj) (n : Nat) : oget (l ++ List.replicate n .dead) = oget l := by
 funext i
 induction l generalizing i with
 | nil =>
  induction n generalizing i with
  | zero => rfl
  | succ n ih =>
   cases i with
   | zero => rfl
   | succ i => have := ih i; simpa [oget, List.replicate_succ] using this
 | cons x r ih =>
  cases i with
  | zero => rfl
  | succ i => exact ih i
theorem oput_pad (l : List AObj) (x : AObj) : ∀ k, (k < l.length → oput (l ++ [.dead]) k x = oput l k x ++ [.dead]) ∧ (l.length ≤ k → oput (l ++ [.dead]) k x = oput l k x) := by
 induction l with
 | nil =>
  intro k
  refine ⟨fun h => by simp at h, fun _ => ?_⟩
  cases k with
  | zero => rfl
  | succ k => rfl
 | cons y r ih =>
  intro k
  cases k with
  | zero => exact ⟨fun _ => rfl, fun h => by simp at h⟩
  | succ k =>
   obtain ⟨h1, h2⟩ := ih k
   exact ⟨fun h => by show y :: oput (r ++ [.dead]) k x = y :: (oput r k x ++ [.dead]); rw [h1 (by simpa using h)], fun h => by show y :: oput (r ++ [.dead]) k x = y :: oput r k x; rw [h2 (by simpa using h)]⟩
theorem at_pad {k g : Nat} {v : Value} (h : at' (ob ++ [[]]) k g = some v) : at' ob k g = some v := by
 unfold at' at *
 by_cases hk : k < ob.length
 ·rwa [List.getElem?_append_left hk] at h
 ·rw [List.getElem?_append_right (by omega)] at h
  cases hq : ([[]] : Hs)[k - ob.length]? with
  | none => rw [hq] at h; cases h
  | some hs =>
   rw [hq] at h
   have : hs = [] := by
    have := List.mem_of_getElem? hq
    simpa using this
   subst this
   simp at h
theorem seq_run (hE : EnvOK E) (hm : Mem M ob obs w) {ρv : Operand → Value} {ρ : Operand → AVal} (hρ : ∀ x, Rep M ob (ρv x) (ρ x)) {hint : Nat} {p : Oper} (h : orF E.P obs K Kp (eop E hint (olen obs) (oget obs) ρ p.op p.type)) :
  OpRuns E.P p ρv w (After M ob obs w K Kp) := by
 obtain ⟨dst, op, ty, pos, after, gd⟩ := p
 obtain ⟨m1, m2, m3⟩ := hm.extend 1
 have hobl : ob.length = obs.length := hm.len
 have hb1 : (obs ++ List.replicate 1 AObj.dead)[olen obs]? = some .dead := by rw [olen_eq]; simp
 have hb2 : (ob ++ List.replicate 1 ([] : List Value))[olen obs]? = some [] := by rw [olen_eq, ← hobl]; simp
 have hs := eop_sound hE m1 hb1 hb2 (fun x => (hρ x).mono (fun _ _ _ h => h) m2.hs) hint op ty
 rw [oget_pad] at hs
 have r1 : List.replicate 1 AObj.dead = [.dead] := rfl
 -- a value, where no number was taken
 have fin : ∀ {v : AVal} {obs' : List AObj}, obs'.length = obs.length → K v obs' → VS E.P ρv op ty M (ob ++ List.replicate 1 []) (obs ++ List.replicate 1 .dead) w v (obs' ++ List.replicate 1 .dead) → OpRuns E.P ⟨dst, op, ty, pos, after, gd⟩ ρv w (After M ob obs w K Kp) := by
  intro v obs' hl hk ⟨u, w', M', ob', vs⟩
  have hfree : ∀ (i : Nat) hs, obs'.length ≤ i → ob'[i]? = some hs → hs = [] := by
   intro i hs hi he
   have hlt := (List.getElem?_eq_some_iff.1 he).1
   rw [vs.mem.len] at hlt
   simp at hlt
   obtain rfl : i = olen obs := by rw [olen_eq]; omega
   have := (vs.still (olen obs) [] hb1 hb2).2 rfl (by rw [olen_eq, ← hl]; simp)
   rw [he] at this
   cases this
   rfl
  obtain ⟨s1, s2, s3⟩ := vs.mem.shrink hfree
  have aft : After M ob obs w K Kp (.returned u) w' := ⟨M', _, _, s3 (m2.trans vs.ext) (by omega), s1, .inl ⟨u, v, rfl, vs.rep.monoA s2, hk⟩⟩
  rcases vs.run dst pos after gd with hr | ⟨hr, rfl⟩
  ·exact .inl ⟨u, w', hr, aft⟩
  ·exact .inr (.inl ⟨w', hr, aft⟩)
 rcases sd_orF (P := E.P) (K := K) (Kp := Kp) rfl hs h with ⟨v, h1, h2⟩ | ⟨k, x, v, h1, h2⟩ | ⟨f, args, ⟨va, hva, hx⟩, hk⟩ | ⟨v, ⟨u, hr, hrep⟩, hk⟩
 ·exact fin rfl h2 h1
 ·rw [r1] at h1
  by_cases hk : k < obs.length
  ·rw [(oput_pad obs x k).1 hk] at h1
   exact fin (by rw [oput_set _ hk]; simp) h2 h1
  ·rw [(oput_pad obs x k).2 (by omega)] at h1
   obtain ⟨u, w', M', ob', vs⟩ := h1
   have aft : After M ob obs w K Kp (.returned u) w' := ⟨M', _, _, m2.trans vs.ext, vs.mem, .inl ⟨u, v, rfl, vs.rep, h2⟩⟩
   rcases vs.run dst pos after gd with hr | ⟨hr, rfl⟩
   ·exact .inl ⟨u, w', hr, aft⟩
   ·exact .inr (.inl ⟨w', hr, aft⟩)
 ·have hva' : RepL M ob va args := ⟨hva.1, fun i v a hv ha => (hva.2 i v a hv ha).monoA fun k g v => at_pad⟩
  exact CallRuns.op (fun e w h => h.ne) (hx dst pos after gd) (callG_sound hm hva' hk)
 ·exact .inr (.inr (.inl ⟨u, w, hr dst pos after gd, M, ob, obs, Ext.refl _ _ _ _, hm, .inr ⟨_, v, rfl, ⟨u, rfl, hrep.pure⟩, hk⟩⟩))
end
open Classical
structure AS where
 g : Nat → AVal
 o : Nat → AObj
 br : Nat → Nat → Prop
def updG (g : Nat → AVal) (d : Option Nat) (z : AVal) : Nat → AVal := fun t => if d = some t then z else g t
def inB (base n k : Nat) : Prop := base ≤ k ∧ k < base + n
noncomputable def updO (o : Nat → AObj) (base : Nat) (bs : List AObj) : Nat → AObj := fun k => if inB base bs.length k then bs.getD (k - base) .dead else o k
noncomputable def AS.upd (s : AS) (i : Nat) (d : Option Nat) (z : AVal) (base : Nat) (bs : List AObj) : AS := ⟨updG s.g d z, updO s.o base bs, fun i' k => s.br i' k ∨ (i' = i ∧ inB base bs.length k)⟩
def hidK (tab : List Nat) (j : Nat) (br : Nat → Nat → Prop) (k : Nat) : Prop := ∃ i, br i k ∧ testB (getN tab j) i = false
noncomputable def seenF (tab : List Nat) (j : Nat) (s : AS) : Nat → AObj := fun k => if hidK tab j s.br k then .dead else s.o k
def evG (tab : List Nat) (all : List Oper) (j : Nat) (g : Nat → AVal) : Operand → AVal
 | .tmp t => bif hidT tab j t 0 all then .undef else g t
 | x => ev [] x
theorem evH_eq (tab : List Nat) (all : List Oper) (j : Nat) (fr : List (Nat × AVal)) : evH tab all j fr = evG tab all j (getS fr) := by
 funext x
 cases x <;> rfl
def resOK (P : Program) (og : Nat → AObj) (base : Nat) (z : AVal) (bs : List AObj) : OR → Prop
 | .val v => z = v ∧ bs = []
 | .mkf fn fs cs => z = .func fn fs cs ∧ bs = []
 | .need p r => p ∧ resOK P og base z bs r
 | .alt p v w => ((p ∧ z = v) ∨ z = w) ∧ bs = []
 | .idx n f => ∃ i : Nat, n = (i : Int) ∧ resOK P og base z bs (f i)
 | .elem xs i f => ∃ x, xs[i]? = some x ∧ resOK P og base z bs (f x)
 | .byte l i => ∃ c, l[i]? = some c ∧ z = .int .u8 (c.toNat : Int) ∧ bs = []
 | .text xs => ∃ l : List UInt8, xs = l.map ub ∧ (l.length : Int) ≤ 9223372036854775807 ∧ z = .str l ∧ bs = []
 | .find es key f => resOK P og base z bs (f (mfind es key))
 | .born x v => z = v ∧ bs = [x]
 | .call f args => ∃ r new, CallOKF P f (mapL (cvtV 0 [] og 5) args) [] (.ret r) new ∧ z = embV [] base [] 5 r ∧ bs = embN base new
 | _ => False
theorem sd_res {P : Program} {og : Nat → AObj} {VS : AVal → List AObj → Prop} {CS : Fn → List AVal → Prop} {PS : AVal → Prop} {obs1 : List AObj} {base' base : Nat} {z : AVal} {bs : List AObj} : ∀ {r : OR}, Sd VS CS PS obs1 base' r → resOK P og base z bs r →
  (VS z obs1 ∧ bs = []) ∨ (∃ x, VS z (oput obs1 base' x) ∧ bs = [x]) ∨ ∃ f args r0 new, CS f args ∧ CallOKF P f (mapL (cvtV 0 [] og 5) args) [] (.ret r0) new ∧ z = embV [] base [] 5 r0 ∧ bs = embN base new
 | .no, _, k => k.elim
 | .val v, h, ⟨k1, k2⟩ => .inl ⟨k1 ▸ h, k2⟩
 | .mkf fn fs cs, h, ⟨k1, k2⟩ => .inl ⟨k1 ▸ h, k2⟩
 | .need p r, h, k => sd_res (h k.1) k.2
 | .alt p v w, h, ⟨k1, k2⟩ => by
  rcases k1 with ⟨hp, k⟩ | k
  ·exact .inl ⟨k ▸ h.1 hp, k2⟩
  ·exact .inl ⟨k ▸ h.2, k2⟩
 | .idx n f, h, ⟨i, hi, k⟩ => sd_res (h i hi) k
 | .elem xs i f, h, ⟨x, hx, k⟩ => sd_res (h x hx) k
 | .byte l i, h, ⟨c, hc, k1, k2⟩ => .inl ⟨k1 ▸ h c hc, k2⟩
 | .text xs, h, ⟨l, hl, hm, k1, k2⟩ => .inl ⟨k1 ▸ h l hl hm, k2⟩
 | .find es key f, h, k => sd_res (r := f (mfind es key)) h k
 | .born x v, h, ⟨k1, k2⟩ => .inr (.inl ⟨x, k1 ▸ h, k2⟩)
 | .upd i x v, h, k => k.elim
 | .nilq xs neg, h, k => k.elim
 | .call f args, h, ⟨r, new, k1, k2, k3⟩ => .inr (.inr ⟨f, args, r, new, h, k1, k2, k3⟩)
 | .pan v, h, k => k.elim
def resU (z : AVal) (k : Nat) (x : AObj) : OR → Prop
 | .need p r => p ∧ resU z k x r
 | .idx n f => ∃ i : Nat, n = (i : Int) ∧ resU z k x (f i)
 | .elem xs i f => ∃ y, xs[i]? = some y ∧ resU z k x (f y)
 | .find es key f => resU z k x (f (mfind es key))
 | .upd k' x' v => k' = k ∧ x' = x ∧ z = v
 | _ => False
theorem sd_resU {VS : AVal → List AObj → Prop} {CS : Fn → List AVal → Prop} {PS : AVal → Prop} {obs1 : List AObj} {base : Nat} {z : AVal} {k : Nat} {x : AObj} : ∀ {r : OR}, Sd VS CS PS obs1 base r → resU z k x r → VS z (oput obs1 k x)
 | .no, _, h => h.elim
 | .val v, _, h => h.elim
 | .mkf fn fs cs, _, h => h.elim
 | .need p r, h, u => sd_resU (h u.1) u.2
 | .alt p v w, _, h => h.elim
 | .idx n f, h, ⟨i, hi, u⟩ => sd_resU (h i hi) u
 | .elem xs i f, h, ⟨y, hy, u⟩ => sd_resU (h y hy) u
 | .byte l i, _, h => h.elim
 | .text xs, _, h => h.elim
 | .find es key f, h, u => sd_resU (r := f (mfind es key)) h u
 | .born x v, _, h => h.elim
 | .upd i y v, h, ⟨e1, e2, e3⟩ => by subst e1 e2 e3; exact h
 | .nilq xs neg, _, h => h.elim
 | .call f args, _, h => h.elim
 | .pan v, _, h => h.elim
theorem begin_base {P : Program} {og : Nat → AObj} {b base hint sz : Nat} {e : TypeId} {xs : List AVal} {z : AVal} : ¬ resOK P og b z [] (begin' hint base sz e xs) := by
 unfold begin'
 split <;> (intro h; have := h.2; cases this)
theorem cond_res {P : Program} {og : Nat → AObj} {b : Nat} {c : Bool} {r : OR} {z : AVal} {bs : List AObj} (h : resOK P og b z bs (bif c then r else .no)) : resOK P og b z bs r := by
 cases c with
 | true => exact h
 | false => exact h.elim
theorem eop0_base {P : Program} {E : Env} {og : Nat → AObj} {b base base' hint : Nat} {ρ : Operand → AVal} {op : Op} {ty : TypeId} {z : AVal} : resOK P og b z [] (eop0 E hint base og ρ op ty) → resOK P og b z [] (eop0 E hint base' og ρ op ty) := by
 have app : ∀ (t t2 : Nat) (x y : AVal), resOK P og b z [] (eappend E hint base og t t2 x y) → resOK P og b z [] (eappend E hint base' og t t2 x y) := by
  intro t t2 x y
  unfold eappend
  split
  ·rename_i e esz eb _ _ _ _
   cases Nat.ble 1 esz with
   | false => exact id
   | true =>
    simp only [cond_true]
    split
    ·exact id
    ·split
     ·split
      ·exact id
      ·rename_i sz _ _
       cases Nat.beq sz esz with
       | false => exact id
       | true => exact fun h => (begin_base h.2).elim
      ·rename_i sz _ _
       cases Nat.beq sz esz with
       | false => exact id
       | true =>
               intro h
               refine ⟨h.1, ?_⟩
               have h2 := h.2
               clear h
               cases hint with
               | zero => exact h2
               | succ n => exact (begin_base h2.2).elim
      ·exact id
     ·exact fun h => (begin_base h.2).elim
     ·exact id
     ·exact id
     ·exact id
  ·exact id
 cases op
 case assign x =>
  simp only [eop0]
  split
  ·exact id
  ·split
   ·split
    ·split
     ·split
      ·exact fun h => (begin_base (cond_res h)).elim
      ·exact id
     ·exact id
    ·exact id
   ·exact id
 case alloc t =>
  simp only [eop0]
  split
  ·rename_i ti _
   cases oneL ti.zero.cells with
   | false => exact id
   | true => intro h; have := h.2; cases this
  ·exact id
 case box t x =>
  simp only [eop0]
  cases oneL (ρ x).cells with
  | false => exact id
  | true => intro h; have := h.2; cases this
 case buildSlice t n ps =>
  simp only [eop0]
  unfold ebuildSlice
  split
  ·rename_i e esz _ _ _ _ _
   cases (Nat.beq (plen (evL ρ ps.toList)) n && Nat.ble (n * esz) 1000 && Nat.ble 1 esz) with
   | false => exact id
   | true =>
    simp only [cond_true]
    split
    ·split
     ·exact id
     ·exact fun h => (begin_base h).elim
    ·exact id
  ·exact id
 case makeSlice t x y =>
  simp only [eop0]
  unfold emake
  split
  ·split
   ·rename_i te _
    intro h
    cases hq : (Nat.ble 1 _ && notU (pureV (fun _ => .dead) 4 te.zero)) with
    | false => rw [hq] at h; exact h.elim
    | true =>
     rw [hq] at h
     obtain ⟨i, _, _, h⟩ := h
     have := h.2
     cases this
   ·exact id
  ·exact id
 case makeMap t x =>
  cases x with
  | some x => exact id
  | none =>
   simp only [eop0]
   split
   ·split
    ·intro h; have := h.2; cases this
    ·exact id
   ·exact id
 case call c =>
  obtain ⟨callee, args, tys⟩ := c
  cases callee with
  | value f => exact id
  | invoke r n => exact id
  | builtin bt =>
   simp only [eop0]
   split
   ·exact id
   ·exact id
   ·exact id
   ·exact app _ _ _ _
   ·exact id
   ·exact id
   ·exact id
   ·exact id
 all_goals exact id
theorem ex_born {P : Program} {og : Nat → AObj} {b : Nat} {z : AVal} {n : Int} {p : Nat → Prop} {x : Nat → AObj} {v : AVal} : ¬ resOK P og b z [] (.idx n fun y => .need (p y) (.born (x y) v)) := by
 rintro ⟨i, _, _, h⟩
 have := h.2
 cases this
theorem eop_base {P : Program} {E : Env} {og : Nat → AObj} {b base base' hint : Nat} {ρ : Operand → AVal} {op : Op} {ty : TypeId} {z : AVal} : resOK P og b z [] (eop E hint base og ρ op ty) → resOK P og b z [] (eop E hint base' og ρ op ty) := by
 unfold eop
 have main : (∃ r, eopS E hint base og ρ op = some r ∧ eopS E hint base' og ρ op = some r) ∨ (eopS E hint base og ρ op = none ∧ eopS E hint base' og ρ op = none) ∨ ∃ r, eopS E hint base og ρ op = some r ∧ ¬ resOK P og b z [] r := by
  have same : ∀ {o : Option OR}, eopS E hint base og ρ op = o → eopS E hint base' og ρ op = o → (∃ r, eopS E hint base og ρ op = some r ∧ eopS E hint base' og ρ op = some r) ∨ (eopS E hint base og ρ op = none ∧ eopS E hint base' og ρ op = none) ∨ ∃ r, eopS E hint base og ρ op = some r ∧ ¬ resOK P og b z [] r := fun {o} h1 h2 => by
   cases o with
   | none => exact .inr (.inl ⟨h1, h2⟩)
   | some r => exact .inl ⟨r, h1, h2⟩
  cases op with
  | call c =>
   obtain ⟨callee, args, tys⟩ := c
   cases callee with
   | value f => exact same rfl rfl
   | invoke r n => exact same rfl rfl
   | builtin bt =>
    cases bt with
    | append =>
     simp only [eopS]
     split
     ·split
      ·refine .inr (.inr ⟨_, rfl, ?_⟩)
       unfold emore
       split
       ·split
        ·intro h
         exact ex_born (cond_res h)
        ·exact fun h => h.elim
       ·exact fun h => h.elim
      ·exact .inr (.inl ⟨rfl, rfl⟩)
     ·exact .inr (.inl ⟨rfl, rfl⟩)
    | _ => exact same rfl rfl
  | slice t x lo hi mx => cases lo <;> cases hi <;> cases mx <;> exact same rfl rfl
  | _ => exact same rfl rfl
 rcases main with ⟨r, h1, h2⟩ | ⟨h1, h2⟩ | ⟨r, h1, h2⟩
 ·rw [h1, h2]; exact id
 ·rw [h1, h2]; exact eop0_base
 ·rw [h1]; exact fun h => (h2 h).elim
def bput : List AObj → Nat → List AObj → List AObj
 | obs, _, [] => obs
 | obs, base, x :: r => bput (oput obs base x) (base + 1) r
theorem embL_bput (base : Nat) (seen : List AObj) : ∀ (new : List AObj) (j : Nat) (obs : List AObj), embL [] base seen j new obs = bput obs (base + j) (embN base new)
 | [], j, obs => rfl
 | x :: r, j, obs => by
  have e : embK [] base j = base + j := by rw [embK_ge (Nat.zero_le _)]; rfl
  have e2 : embO [] base seen j x = embO [] base [] 0 x := by cases x <;> simp only [embO, embG_nil, embV_nil base seen]
  simp only [embL, embN, List.map_cons, bput]
  rw [embL_bput base seen r (j + 1), e, e2]
  rfl
theorem orD_pick {P : Program} {uo bl : Bool} {seen obs : List AObj} {base : Nat} {K Kp : AVal → List AObj → Prop} : ∀ {r : OR}, orD P false uo bl seen obs base K Kp r →
  (∃ z bs, (bl = true → bs = []) ∧ resOK P (oget seen) base z bs r ∧ K z (bput obs base bs)) ∨ ∃ z k x, uo = true ∧ oget seen k ≠ .dead ∧ resU z k x r ∧ K z (oput obs k x)
 | .no, k => k.elim
 | .val v, k => .inl ⟨v, [], fun _ => rfl, ⟨rfl, rfl⟩, k⟩
 | .mkf fn fs cs, k => .inl ⟨_, [], fun _ => rfl, ⟨rfl, rfl⟩, k⟩
 | .need p r, ⟨hp, k⟩ => by
  rcases orD_pick k with ⟨z, bs, h0, h1, h2⟩ | ⟨z, k', x, h0, h1, h2, h3⟩
  ·exact .inl ⟨z, bs, h0, ⟨hp, h1⟩, h2⟩
  ·exact .inr ⟨z, k', x, h0, h1, ⟨hp, h2⟩, h3⟩
 | .alt p v w, k => by
  rcases k with ⟨hp, k⟩ | k
  ·exact .inl ⟨v, [], fun _ => rfl, ⟨.inl ⟨hp, rfl⟩, rfl⟩, k⟩
  ·exact .inl ⟨w, [], fun _ => rfl, ⟨.inr rfl, rfl⟩, k⟩
 | .idx n f, ⟨i, hi, k⟩ => by
  rcases orD_pick k with ⟨z, bs, h0, h1, h2⟩ | ⟨z, k', x, h0, h1, h2, h3⟩
  ·exact .inl ⟨z, bs, h0, ⟨i, hi, h1⟩, h2⟩
  ·exact .inr ⟨z, k', x, h0, h1, ⟨i, hi, h2⟩, h3⟩
 | .elem xs i f, ⟨y, hy, k⟩ => by
  rcases orD_pick k with ⟨z, bs, h0, h1, h2⟩ | ⟨z, k', x, h0, h1, h2, h3⟩
  ·exact .inl ⟨z, bs, h0, ⟨y, hy, h1⟩, h2⟩
  ·exact .inr ⟨z, k', x, h0, h1, ⟨y, hy, h2⟩, h3⟩
 | .byte l i, ⟨c, hc, k⟩ => .inl ⟨_, [], fun _ => rfl, ⟨c, hc, rfl, rfl⟩, k⟩
 | .text xs, ⟨l, hl, hm, k⟩ => .inl ⟨_, [], fun _ => rfl, ⟨l, hl, hm, rfl, rfl⟩, k⟩
 | .find es key f, ⟨o, ho, k⟩ => by
  subst ho
  rcases orD_pick k with ⟨z, bs, h0, h1, h2⟩ | ⟨z, k', x, h0, h1, h2, h3⟩
  ·exact .inl ⟨z, bs, h0, h1, h2⟩
  ·exact .inr ⟨z, k', x, h0, h1, h2, h3⟩
 | .born x v, k => by
  cases bl with
  | true => exact k.elim
  | false => exact .inl ⟨v, [x], (fun h => nomatch h), ⟨rfl, rfl⟩, k⟩
 | .upd i x v, k => by
  simp only [orD, Bool.false_or] at k
  split at k
  ·rename_i h
   obtain ⟨h1, h2⟩ := beq_and h
   exact .inr ⟨v, i, x, h1, (fun e => by rw [e] at h2; cases h2), ⟨rfl, rfl, rfl⟩, k⟩
  ·exact k.elim
 | .nilq xs neg, k => k.elim
 | .call f args, k => by
  cases bl with
  | true => exact k.elim
  | false =>
   have k : CallD P f args false seen base obs K Kp := k
   cases k with
   | pure r new h k => exact .inl ⟨_, _, (fun h => nomatch h), ⟨r, new, h, rfl, rfl⟩, by rw [embL_bput, Nat.add_zero] at k; rw [embV_nil] at k; exact k⟩
   | sole h => cases h
 | .pan v, k => k.elim
section
variable {P : Program} {E : Env} {M : Imm} {ob : Hs} {L : List AObj} {w : World}
theorem oget_or (l : List AObj) (k : Nat) : (k < l.length ∧ l[k]? = some (oget l k)) ∨ (l.length ≤ k ∧ l[k]? = none ∧ oget l k = .dead) := by
 by_cases h : k < l.length
 ·exact .inl ⟨h, oget_get h⟩
 ·refine .inr ⟨by omega, List.getElem?_eq_none (by omega), ?_⟩
  cases hq : oget l k with
  | dead => rfl
  | _ => exact absurd (List.getElem?_eq_some_iff.1 (oget_some hq (by simp))).1 h
noncomputable def seenL (hid : Nat → Prop) (L : List AObj) : List AObj := (List.range L.length).map fun k => if hid k then .dead else oget L k
theorem seenL_get {hid : Nat → Prop} {k : Nat} (h : k < L.length) : (seenL hid L)[k]? = some (if hid k then .dead else oget L k) := by
 simp [seenL, List.getElem?_range h]
theorem seenL_len {hid : Nat → Prop} : (seenL hid L).length = L.length := by simp [seenL]
theorem seenL_weak {hid : Nat → Prop} : Weak (seenL hid L) L := ⟨seenL_len, fun k => by
 rcases oget_or L k with ⟨h, e⟩ | ⟨h, e, _⟩
 ·rw [seenL_get h, e]
  by_cases hk : hid k
  ·right; rw [if_pos hk]
  ·left; rw [if_neg hk]
 ·left; rw [e, List.getElem?_eq_none (by rw [seenL_len]; omega)]⟩
theorem seenL_oget {hid : Nat → Prop} : oget (seenL hid L) = fun k => if hid k then .dead else oget L k := by
 funext k
 rcases oget_or L k with ⟨h, e⟩ | ⟨h, e, e2⟩
 ·exact oget_of (seenL_get h)
 ·rcases oget_or (seenL hid L) k with ⟨h', _⟩ | ⟨_, _, e3⟩
  ·rw [seenL_len] at h'; omega
  ·rw [e3, e2]; split <;> rfl
def AfterD (M : Imm) (ob : Hs) (L : List AObj) (w : World) (z : AVal) (base : Nat) (bs : List AObj) (e : Ending) (w' : World) : Prop :=
 ∃ M' ob' L' u, e = .returned u ∧ Ext M ob L w M' ob' L' w' ∧ Mem M' ob' L' w' ∧ oget L' = updO (oget L) base bs ∧ L.length ≤ L'.length ∧ Rep M' ob' u z ∧ ∀ (k : Nat), ¬ inB base bs.length k → (∀ hs, ob[k]? = some hs → hs = []) → ∀ hs, ob'[k]? = some hs → hs = []
theorem dr_run (hE : EnvOK E) (hm : Mem M ob L w) {hid : Nat → Prop} {ρv : Operand → Value} {ρ : Operand → AVal} (hρ : ∀ x, Rep M ob (ρv x) (ρ x)) {hint base : Nat} {p : Oper} {z : AVal} {bs : List AObj}
  (hfree : ∀ (k : Nat), inB base bs.length k → ∀ hs, ob[k]? = some hs → hs = [])
  (h : resOK E.P (oget (seenL hid L)) base z bs (eop E hint base (oget (seenL hid L)) ρ p.op p.type)) : OpRuns E.P p ρv w (AfterD M ob L w z base bs) := by
 obtain ⟨dst, op, ty, pos, after, gd⟩ := p
 -- room
 obtain ⟨n, hn⟩ : ∃ n, base + bs.length + 1 ≤ L.length + n ∧ 0 < n := ⟨base + bs.length + 1, by omega, by omega⟩
 obtain ⟨hn, hn0⟩ := hn
 obtain ⟨m1, m2, m3⟩ := hm.extend n
 have hlen1 : (L ++ List.replicate n AObj.dead).length = L.length + n := by simp
 have hob1 : (ob ++ List.replicate n ([] : List Value)).length = L.length + n := by simp [hm.len]
 generalize hL1 : L ++ List.replicate n AObj.dead = L1 at m1 m2 m3 hlen1
 generalize hO1 : ob ++ List.replicate n ([] : List Value) = ob1 at m1 m2 m3 hob1
 have hg1 : oget L1 = oget L := by rw [← hL1]; exact oget_pad L n
 have hfree1 : ∀ k, (∀ hs, ob[k]? = some hs → hs = []) → k < L1.length → ob1[k]? = some [] := fun k hk hlt => by
  rw [← hO1]
  by_cases hkl : k < ob.length
  ·rw [List.getElem?_append_left hkl, List.getElem?_eq_getElem hkl, hk _ (List.getElem?_eq_getElem hkl)]
  ·rw [List.getElem?_append_right (by omega), List.getElem?_replicate, if_pos (by rw [hm.len] at hkl ⊢; omega)]
 have hseen : oget (seenL hid L1) = oget (seenL hid L) := by rw [seenL_oget, seenL_oget, hg1]
 -- where it would be born
 obtain ⟨base', hbase, hbb, hlt0, h⟩ : ∃ base', ob1[base']? = some [] ∧ (bs ≠ [] → base' = base) ∧ base' < L1.length ∧ resOK E.P (oget (seenL hid L)) base z bs (eop E hint base' (oget (seenL hid L)) ρ op ty) := by
  by_cases hbs : bs = []
  ·subst hbs
   exact ⟨L.length, hfree1 _ (fun hs he => by have := (List.getElem?_eq_some_iff.1 he).1; rw [hm.len] at this; omega) (by omega), fun h => absurd rfl h, by omega, eop_base h⟩
  ·have hpos : 0 < bs.length := by cases bs <;> simp at hbs ⊢
   exact ⟨base, hfree1 base (hfree base ⟨Nat.le_refl _, by omega⟩) (by omega), fun _ => rfl, by omega, h⟩
 have mw := m1.weak (seenL_weak (hid := hid))
 have hb1 : (seenL hid L1)[base']? = some .dead := mw.idle hbase
 have hs := eop_sound hE mw hb1 hbase (fun x => (hρ x).mono (fun _ _ _ h => h) m2.hs) hint op ty
 rw [hseen] at hs
 have live : ∀ {k : Nat} {c : AObj}, L1[k]? = some c → (seenL hid L1)[k]? = some c ∨ ((seenL hid L1)[k]? = some .dead ∧ (∃ hs, ob1[k]? = some hs ∧ hs ≠ []) ∧ L1[k]? = some c) := fun {k c} hc => by
  rcases (seenL_weak (hid := hid) (L := L1)).2 k with q | q
  ·left; rw [q]; exact hc
  ·by_cases hd : c = .dead
   ·left; rw [q, hd]
   ·right; exact ⟨q, m1.live hc hd, hc⟩
 have fin : ∀ {u : Value} {w' : World}, AfterD M ob L w z base bs (.returned u) w' → ((execOp ρv ⟨dst, op, ty, pos, after, gd⟩).run E.P w = .ok (.value u) w' ∨ ((execOp ρv ⟨dst, op, ty, pos, after, gd⟩).run E.P w = .ok .skip w' ∧ u = undef)) → OpRuns E.P ⟨dst, op, ty, pos, after, gd⟩ ρv w (AfterD M ob L w z base bs) := by
  intro u w' ha hr
  rcases hr with hr | ⟨hr, rfl⟩
  ·exact .inl ⟨u, w', hr, ha⟩
  ·exact .inr (.inl ⟨w', hr, ha⟩)
 rcases sd_res (P := E.P) hs h with ⟨⟨u, w', M', ob', vs⟩, rfl⟩ | ⟨x, ⟨u, w', M', ob', vs⟩, rfl⟩ | ⟨f, args, r0, new, ⟨va, hva, hx⟩, hok, rfl, rfl⟩
 ·obtain ⟨v1, v2, v3⟩ := m1.revive (obs' := L1) (seenL_weak (hid := hid)) vs.ext vs.still vs.mem (by rw [seenL_len]) fun k c hc => live hc
  refine fin ⟨M', ob', L1, u, rfl, m2.trans v2, v1, ?_, by omega, vs.rep, fun k hk hf hs he => ?_⟩ (vs.run dst pos after gd)
  ·rw [hg1]
   funext k
   unfold updO
   rw [if_neg fun h => by have := h.2; have := h.1; simp at *; omega]
  ·have hlt : k < L1.length := by rw [← v1.len]; exact (List.getElem?_eq_some_iff.1 he).1
   have e := hfree1 k hf hlt
   have hd := m1.idle e
   have := (v3 k [] hd e).2 rfl hd
   rw [he] at this
   cases this
   rfl
 ·obtain rfl : base = base' := (hbb (by simp)).symm
  have hput1 : oput L1 base x = L1.set base x := oput_set x hlt0
  have hput2 : oput (seenL hid L1) base x = (seenL hid L1).set base x := oput_set x (by rw [seenL_len]; exact hlt0)
  obtain ⟨v1, v2, v3⟩ := m1.revive (obs' := oput L1 base x) (seenL_weak (hid := hid)) vs.ext vs.still vs.mem (by rw [hput1, hput2]; simp [seenL_len]) fun k c hc => by
   by_cases hk : k = base
   ·subst hk
    left
    rw [hput1, List.getElem?_set_self hlt0] at hc
    rw [hput2, List.getElem?_set_self (by rw [seenL_len]; exact hlt0)]
    exact hc
   ·rw [hput1, List.getElem?_set_ne (Ne.symm hk)] at hc
    rw [hput2, List.getElem?_set_ne (Ne.symm hk)]
    exact live hc
  refine fin ⟨M', ob', oput L1 base x, u, rfl, m2.trans v2, v1, ?_, by rw [hput1]; simp; omega, vs.rep, fun k hk hf hs he => ?_⟩ (vs.run dst pos after gd)
  ·funext k
   unfold updO
   by_cases hk : k = base
   ·subst hk
    rw [if_pos ⟨Nat.le_refl _, by simp⟩, hput1]
    rw [oget_of (List.getElem?_set_self hlt0)]
    simp
   ·rw [if_neg fun h => hk (by have h1 := h.1; have h2 := h.2; simp at h2; omega), ← hg1, hput1]
    rcases oget_or L1 k with ⟨h1, e1⟩ | ⟨h1, e1, e2⟩
    ·exact oget_of (by rw [List.getElem?_set_ne (Ne.symm hk)]; exact e1)
    ·rcases oget_or (L1.set base x) k with ⟨h3, _⟩ | ⟨_, _, e3⟩
     ·simp at h3; omega
     ·rw [e3, e2]
  ·have hkb : k ≠ base := fun e => hk ⟨by omega, by simp; omega⟩
   have hlt : k < L1.length := by
    have := (List.getElem?_eq_some_iff.1 he).1
    rw [v1.len, hput1] at this
    simpa using this
   have e := hfree1 k hf hlt
   have hd := m1.idle e
   have := (v3 k [] hd e).2 rfl (by rw [hput1, List.getElem?_set_ne (Ne.symm hkb)]; exact hd)
   rw [he] at this
   cases this
   rfl
 ·rw [← hseen] at hok
  have hargs := mapL_repL (fun v a => mw.cvtV (n0 := 0) (ks := []) rfl 5 v a) hva
  have hnl : (embN base new).length = new.length := by simp [embN]
  refine CallRuns.op (fun e w ⟨_, _, _, u, he, _⟩ => by rw [he]; intro h; cases h) (hx dst pos after gd) (CallRunsF.mono (fun e w' ⟨M', obK, x1, x2, x3⟩ => ?_) (hok M [] w va m1.bare hargs))
  have hin : ∀ j, j < new.length → ob1[base + j]? = some [] := fun j hj => hfree1 _ (hfree _ ⟨by omega, by rw [hnl]; omega⟩) (by omega)
  obtain ⟨e1, e2, e3⟩ := m1.emb0 (by rw [hnl] at hn; omega) hin x1 x2
  obtain ⟨q1, q2⟩ := take_set_drop L1 (embN base new) base (by rw [hnl] at hn ⊢; omega)
  obtain ⟨p1, p2⟩ := take_set_drop ob1 obK base (by rw [x2.len]; rw [hnl] at hn; omega)
  cases e with
  | panicked ch => exact x3.elim
  | outgrown => exact x3.elim
  | returned u =>
   refine ⟨M', _, _, u, rfl, m2.trans e2, e1, ?_, by rw [q1]; omega, e3 5 u r0 x3, fun k hk hf hs he => ?_⟩
   ·funext k
    unfold updO
    by_cases hk : inB base (embN base new).length k
    ·rw [if_pos hk]
     have hlt : k - base < (embN base new).length := by have := hk.1; have := hk.2; omega
     refine oget_of ?_
     rw [q2, if_pos (show base ≤ k ∧ k < base + (embN base new).length from hk), List.getD_eq_getElem?_getD, List.getElem?_eq_getElem hlt]
     rfl
    ·rw [if_neg hk, ← hg1]
     rcases oget_or L1 k with ⟨h1, e1⟩ | ⟨h1, e1, e2⟩
     ·exact oget_of (by rw [q2, if_neg (show ¬ (base ≤ k ∧ k < base + (embN base new).length) from hk)]; exact e1)
     ·rcases oget_or (L1.take base ++ embN base new ++ L1.drop (base + (embN base new).length)) k with ⟨h3, _⟩ | ⟨_, _, e3⟩
      ·rw [q1] at h3; omega
      ·rw [e3, e2]
   ·rw [p2, if_neg (show ¬ (base ≤ k ∧ k < base + obK.length) from by rw [x2.len, ← hnl]; exact hk)] at he
    have hlt : k < L1.length := by rw [← m1.len]; exact (List.getElem?_eq_some_iff.1 he).1
    rw [hfree1 k hf hlt] at he
    cases he
    rfl
def AfterU (M : Imm) (ob : Hs) (L : List AObj) (w : World) (z : AVal) (k : Nat) (x : AObj) (e : Ending) (w' : World) : Prop :=
 ∃ M' ob' L' u, e = .returned u ∧ Ext M ob L w M' ob' L' w' ∧ Mem M' ob' L' w' ∧ (oget L' = fun k' => if k' = k then x else oget L k') ∧ L.length ≤ L'.length ∧ Rep M' ob' u z ∧ ∀ (k' : Nat), (∀ hs, ob[k']? = some hs → hs = []) → ∀ hs, ob'[k']? = some hs → hs = []
theorem dr_runU (hE : EnvOK E) (hm : Mem M ob L w) {hid : Nat → Prop} {ρv : Operand → Value} {ρ : Operand → AVal} (hρ : ∀ x, Rep M ob (ρv x) (ρ x)) {hint base : Nat} {p : Oper} {z : AVal} {k : Nat} {x : AObj}
  (hfree : ∀ hs, ob[base]? = some hs → hs = []) (hk : oget (seenL hid L) k ≠ .dead) (h : resU z k x (eop E hint base (oget (seenL hid L)) ρ p.op p.type)) : OpRuns E.P p ρv w (AfterU M ob L w z k x) := by
 obtain ⟨dst, op, ty, pos, after, gd⟩ := p
 obtain ⟨n, hn, hn0⟩ : ∃ n, base + 1 ≤ L.length + n ∧ 0 < n := ⟨base + 1, by omega, by omega⟩
 obtain ⟨m1, m2, m3⟩ := hm.extend n
 have hlen1 : (L ++ List.replicate n AObj.dead).length = L.length + n := by simp
 have hob1 : (ob ++ List.replicate n ([] : List Value)).length = L.length + n := by simp [hm.len]
 generalize hL1 : L ++ List.replicate n AObj.dead = L1 at m1 m2 m3 hlen1
 generalize hO1 : ob ++ List.replicate n ([] : List Value) = ob1 at m1 m2 m3 hob1
 have hg1 : oget L1 = oget L := by rw [← hL1]; exact oget_pad L n
 have hfree1 : ∀ k, (∀ hs, ob[k]? = some hs → hs = []) → k < L1.length → ob1[k]? = some [] := fun k hk hlt => by
  rw [← hO1]
  by_cases hkl : k < ob.length
  ·rw [List.getElem?_append_left hkl, List.getElem?_eq_getElem hkl, hk _ (List.getElem?_eq_getElem hkl)]
  ·rw [List.getElem?_append_right (by omega), List.getElem?_replicate, if_pos (by rw [hm.len] at hkl ⊢; omega)]
 have hseen : oget (seenL hid L1) = oget (seenL hid L) := by rw [seenL_oget, seenL_oget, hg1]
 have hbase := hfree1 base hfree (by omega)
 have mw := m1.weak (seenL_weak (hid := hid))
 have hb1 : (seenL hid L1)[base]? = some .dead := mw.idle hbase
 have hs := eop_sound hE mw hb1 hbase (fun x => (hρ x).mono (fun _ _ _ h => h) m2.hs) hint op ty
 rw [hseen] at hs
 have live : ∀ {k : Nat} {c : AObj}, L1[k]? = some c → (seenL hid L1)[k]? = some c ∨ ((seenL hid L1)[k]? = some .dead ∧ (∃ hs, ob1[k]? = some hs ∧ hs ≠ []) ∧ L1[k]? = some c) := fun {k c} hc => by
  rcases (seenL_weak (hid := hid) (L := L1)).2 k with q | q
  ·left; rw [q]; exact hc
  ·by_cases hd : c = .dead
   ·left; rw [q, hd]
   ·right; exact ⟨q, m1.live hc hd, hc⟩
 have hkl : k < L1.length := by
  have := oget_some (l := seenL hid L1) (n := k) rfl (by rw [hseen]; exact hk)
  have := (List.getElem?_eq_some_iff.1 this).1
  rwa [seenL_len] at this
 obtain ⟨u, w', M', ob', vs⟩ := sd_resU hs h
 have hput2 : oput (seenL hid L1) k x = (seenL hid L1).set k x := oput_set x (by rw [seenL_len]; exact hkl)
 obtain ⟨v1, v2, v3⟩ := m1.revive (obs' := L1.set k x) (seenL_weak (hid := hid)) vs.ext vs.still vs.mem (by rw [hput2]; simp [seenL_len]) fun k' c hc => by
  by_cases hkk : k' = k
  ·subst hkk
   left
   rw [List.getElem?_set_self hkl] at hc
   rw [hput2, List.getElem?_set_self (by rw [seenL_len]; exact hkl)]
   exact hc
  ·rw [List.getElem?_set_ne (Ne.symm hkk)] at hc
   rw [hput2, List.getElem?_set_ne (Ne.symm hkk)]
   exact live hc
 have aft : AfterU M ob L w z k x (.returned u) w' := by
  refine ⟨M', ob', L1.set k x, u, rfl, m2.trans v2, v1, ?_, by simp; omega, vs.rep, fun k' hf hs he => ?_⟩
  ·funext k'
   by_cases hkk : k' = k
   ·subst hkk
    rw [if_pos rfl]
    exact oget_of (List.getElem?_set_self hkl)
   ·rw [if_neg hkk, ← hg1]
    rcases oget_or L1 k' with ⟨h1, e1⟩ | ⟨h1, e1, e2⟩
    ·exact oget_of (by rw [List.getElem?_set_ne (Ne.symm hkk)]; exact e1)
    ·rcases oget_or (L1.set k x) k' with ⟨h3, _⟩ | ⟨_, _, e3⟩
     ·simp at h3; omega
     ·rw [e3, e2]
  ·have hlt : k' < L1.length := by
    have := (List.getElem?_eq_some_iff.1 he).1
    rw [v1.len] at this
    simpa using this
   have e := hfree1 k' hf hlt
   have hd := m1.idle e
   have hkk : k' ≠ k := fun e2 => by
    subst e2
    refine hk ?_
    rw [← hseen, seenL_oget]
    dsimp only
    split
    ·rfl
    ·exact oget_of hd
   have := (v3 k' [] hd e).2 rfl (by rw [List.getElem?_set_ne (Ne.symm hkk)]; exact hd)
   rw [he] at this
   cases this
   rfl
 rcases vs.run dst pos after gd with hr | ⟨hr, rfl⟩
 ·exact .inl ⟨u, w', hr, aft⟩
 ·exact .inr (.inl ⟨w', hr, aft⟩)
end
noncomputable def seenB (E : Env) (tab : List Nat) (i : Nat) (d : Option Nat) (s : AS) : Nat → AObj := if blD E d = true then fun _ => .dead else seenF tab i s
def Y (E : Env) (all : List Oper) (tab : List Nat) (L0 i : Nat) (p : Oper) (s : AS) (z : AVal) (base : Nat) (bs : List AObj) : Prop :=
 L0 ≤ base ∧ (blD E p.dst = true → bs = []) ∧ ((wantedE all (evG tab all i s.g) p.guard = some false ∧ z = .tup [] ∧ bs = []) ∨
  (wantedE all (evG tab all i s.g) p.guard = some true ∧ resOK E.P (seenB E tab i p.dst s) base z bs (eop E (hintOf E p.dst) base (seenB E tab i p.dst s) (evG tab all i s.g) p.op p.type)))
def fresh (s : AS) (base : Nat) (bs : List AObj) : Prop := ∀ k, inB base bs.length k → ∀ i, ¬ s.br i k
def WF (L0 : Nat) (s : AS) : Prop := ∀ k, L0 ≤ k → (∀ i, ¬ s.br i k) → s.o k = .dead
def nOp (E : Env) (all : List Oper) (tab : List Nat) (L0 i : Nat) (p : Oper) (K : AS → Prop) (s : AS) : Prop :=
 ∃ z base bs, Y E all tab L0 i p s z base bs ∧ fresh s base bs ∧ K (s.upd i p.dst z base bs)
section
variable {E : Env} {all : List Oper} {tab : List Nat} {L0 : Nat}
theorem hidT_spec {j i t : Nat} {q : Oper} : ∀ {l : List Oper} {n : Nat}, l[i]? = some q → q.dst = some t → loose tab (n + i) j = true → hidT tab j t n l = true
 | [], n, h, _, _ => by simp at h
 | x :: r, n, h, hd, hl => by
  cases i with
  | zero =>
   simp at h
   subst h
   rw [Nat.add_zero] at hl
   simp [hidT, hd, hl]
  | succ i =>
   have := hidT_spec (l := r) (n := n + 1) (i := i) (q := q) (by simpa using h) hd (by rw [show n + 1 + i = n + (i + 1) from by omega]; exact hl)
   simp [hidT, this]
theorem loose_iff {i j : Nat} : loose tab i j = true ↔ i ≠ j ∧ testB (getN tab j) i = false ∧ testB (getN tab i) j = false := by
 simp only [loose, Bool.and_eq_true, Bool.not_eq_true']
 constructor
 ·rintro ⟨⟨h1, h2⟩, h3⟩
  exact ⟨fun e => by subst e; simp at h1, h2, h3⟩
 ·rintro ⟨h1, h2, h3⟩
  exact ⟨⟨beq_no h1, h2⟩, h3⟩
theorem loose_symm {i j : Nat} (h : loose tab i j = true) : loose tab j i = true := by
 obtain ⟨h1, h2, h3⟩ := loose_iff.1 h
 exact loose_iff.2 ⟨Ne.symm h1, h3, h2⟩
theorem evG_upd {i j : Nat} {q : Oper} (hq : all[j]? = some q) (hl : loose tab j i = true) (g : Nat → AVal) (z : AVal) : evG tab all i (updG g q.dst z) = evG tab all i g := by
 funext x
 cases x with
 | tmp t =>
  simp only [evG]
  cases hh : hidT tab i t 0 all with
  | true => rfl
  | false =>
   simp only [cond_false, updG]
   rw [if_neg]
   intro e
   have := hidT_spec (l := all) (n := 0) hq e (by rw [Nat.zero_add]; exact hl)
   rw [hh] at this
   cases this
 | _ => rfl
theorem seenF_upd {i j : Nat} (hl : loose tab j i = true) {s : AS} (hw : WF L0 s) {d : Option Nat} {z : AVal} {base : Nat} {bs : List AObj} (hb : L0 ≤ base) (hf : fresh s base bs) : seenF tab i (s.upd j d z base bs) = seenF tab i s := by
 obtain ⟨_, h2, _⟩ := loose_iff.1 hl
 funext k
 unfold seenF
 by_cases hk : inB base bs.length k
 ·have h1 : hidK tab i (s.upd j d z base bs).br k := ⟨j, .inr ⟨rfl, hk⟩, h2⟩
  rw [if_pos h1]
  have h0 := hw k (Nat.le_trans hb hk.1) (hf k hk)
  split
  ·rfl
  ·exact h0.symm
 ·have e1 : (s.upd j d z base bs).o k = s.o k := by
   show updO s.o base bs k = s.o k
   unfold updO
   rw [if_neg hk]
  have e2 : hidK tab i (s.upd j d z base bs).br k ↔ hidK tab i s.br k := by
   constructor
   ·rintro ⟨i', h | ⟨_, h⟩, ht⟩
    ·exact ⟨i', h, ht⟩
    ·exact absurd h hk
   ·rintro ⟨i', h, ht⟩
    exact ⟨i', .inl h, ht⟩
  rw [e1]
  by_cases hh : hidK tab i s.br k
  ·rw [if_pos hh, if_pos (e2.2 hh)]
  ·rw [if_neg hh, if_neg fun h => hh (e2.1 h)]
theorem Y_upd {i j : Nat} {p q : Oper} (hq : all[j]? = some q) (hl : loose tab j i = true) {s : AS} (hw : WF L0 s) {z' : AVal} {base' : Nat} {bs' : List AObj} (hb : L0 ≤ base') (hf : fresh s base' bs') {z : AVal} {base : Nat} {bs : List AObj} :
  Y E all tab L0 i p (s.upd j q.dst z' base' bs') z base bs ↔ Y E all tab L0 i p s z base bs := by
 have e1 : evG tab all i (s.upd j q.dst z' base' bs').g = evG tab all i s.g := evG_upd hq hl s.g z'
 have e2 : seenB E tab i p.dst (s.upd j q.dst z' base' bs') = seenB E tab i p.dst s := by
  unfold seenB
  rw [seenF_upd hl hw hb hf]
 unfold Y
 rw [e1, e2]
theorem WF.upd {i : Nat} {s : AS} (hw : WF L0 s) {d : Option Nat} {z : AVal} {base : Nat} {bs : List AObj} : WF L0 (s.upd i d z base bs) := fun k hk hn => by
 have h1 : ¬ inB base bs.length k := fun h => hn i (.inr ⟨rfl, h⟩)
 show updO s.o base bs k = .dead
 unfold updO
 rw [if_neg h1]
 exact hw k hk fun i' h => hn i' (.inl h)
theorem upd_comm {s : AS} {i j : Nat} {d d' : Option Nat} {z z' : AVal} {base base' : Nat} {bs bs' : List AObj} (hd : ∀ t, d = some t → d' ≠ some t) (hdis : ∀ k, inB base bs.length k → ¬ inB base' bs'.length k) :
  (s.upd i d z base bs).upd j d' z' base' bs' = (s.upd j d' z' base' bs').upd i d z base bs := by
 have e1 : updG (updG s.g d z) d' z' = updG (updG s.g d' z') d z := by
  funext t
  simp only [updG]
  by_cases h1 : d = some t
  ·rw [if_neg (hd t h1), if_pos h1, if_pos h1]
  ·rw [if_neg h1, if_neg h1]
 have e2 : updO (updO s.o base bs) base' bs' = updO (updO s.o base' bs') base bs := by
  funext k
  unfold updO
  by_cases h1 : inB base bs.length k
  ·rw [if_neg (hdis k h1), if_pos h1, if_pos h1]
  ·rw [if_neg h1, if_neg h1]
 have e3 : (fun i' k => (s.br i' k ∨ (i' = i ∧ inB base bs.length k)) ∨ (i' = j ∧ inB base' bs'.length k)) = fun i' k => (s.br i' k ∨ (i' = j ∧ inB base' bs'.length k)) ∨ (i' = i ∧ inB base bs.length k) := by
  funext i' k
  exact propext or_right_comm
 show AS.mk (updG (updG s.g d z) d' z') (updO (updO s.o base bs) base' bs') (fun i' k => (s.br i' k ∨ (i' = i ∧ inB base bs.length k)) ∨ (i' = j ∧ inB base' bs'.length k)) = _
 rw [e1, e2, e3]
 rfl
theorem nOp_put {i j : Nat} {p q : Oper} (hp : all[i]? = some p) (hq : all[j]? = some q) (hl : loose tab i j = true) (hd : ∀ t, p.dst = some t → q.dst ≠ some t) {s : AS} (hw : WF L0 s) {z : AVal} {base : Nat} {bs : List AObj}
  (hy : Y E all tab L0 i p s z base bs) (hf : fresh s base bs) {K : AS → Prop} (h : nOp E all tab L0 j q K (s.upd i p.dst z base bs)) :
  nOp E all tab L0 j q (fun s' => WF L0 s' ∧ Y E all tab L0 i p s' z base bs ∧ fresh s' base bs ∧ K (s'.upd i p.dst z base bs)) s := by
 obtain ⟨z', base', bs', h1, h2, h3⟩ := h
 have h1' := (Y_upd (p := q) hp hl hw hy.1 hf).1 h1
 have hf' : fresh s base' bs' := fun k hk i' hb => h2 k hk i' (.inl hb)
 have hdis : ∀ k, inB base bs.length k → ¬ inB base' bs'.length k := fun k hk hk' => h2 k hk' i (.inr ⟨rfl, hk⟩)
 refine ⟨z', base', bs', h1', hf', hw.upd, (Y_upd (p := p) hq (loose_symm hl) hw h1'.1 hf').2 hy, fun k hk i' hb => ?_, ?_⟩
 ·rcases hb with hb | ⟨_, hb⟩
  ·exact hf k hk i' hb
  ·exact hdis k hk hb
 ·rw [← upd_comm hd hdis]
  exact h3
noncomputable def AS.turn (s : AS) (d : Option Nat) (z : AVal) (k : Nat) (x : AObj) : AS := ⟨updG s.g d z, fun k' => if k' = k then x else s.o k', s.br⟩
def Yu (E : Env) (all : List Oper) (tab : List Nat) (L0 i : Nat) (p : Oper) (s : AS) (z : AVal) (base k : Nat) (x : AObj) : Prop :=
 (L0 ≤ base ∧ ∀ i, ¬ s.br i base) ∧ wantedE all (evG tab all i s.g) p.guard = some true ∧ seenF tab i s k ≠ .dead ∧ resU z k x (eop E (hintOf E p.dst) base (seenF tab i s) (evG tab all i s.g) p.op p.type)
def uOp (E : Env) (all : List Oper) (tab : List Nat) (L0 i : Nat) (p : Oper) (K : AS → Prop) (s : AS) : Prop :=
 ∃ z base k x, Yu E all tab L0 i p s z base k x ∧ K (s.turn p.dst z k x)
theorem upd_nil {s : AS} {i base : Nat} {d : Option Nat} {z : AVal} : s.upd i d z base [] = ⟨updG s.g d z, s.o, s.br⟩ := by
 unfold AS.upd
 congr 1
 ·funext k
  unfold updO
  rw [if_neg fun h => by have h1 := h.1; have h2 := h.2; simp at h2; omega]
 ·funext i' k
  refine propext ⟨fun h => ?_, .inl⟩
  rcases h with h | ⟨_, h⟩
  ·exact h
  ·have h1 := h.1; have h2 := h.2; simp at h2; omega
theorem updG_comm {g : Nat → AVal} {d d' : Option Nat} {z z' : AVal} (hd : ∀ t, d = some t → d' ≠ some t) : updG (updG g d z) d' z' = updG (updG g d' z') d z := by
 funext t
 simp only [updG]
 by_cases h1 : d = some t
 ·rw [if_neg (hd t h1), if_pos h1, if_pos h1]
 ·rw [if_neg h1, if_neg h1]
theorem turn_comm {s : AS} {i base : Nat} {d d' : Option Nat} {z z' : AVal} {k : Nat} {x : AObj} (hd : ∀ t, d = some t → d' ≠ some t) : (s.upd i d z base []).turn d' z' k x = (s.turn d' z' k x).upd i d z base [] := by
 rw [upd_nil, upd_nil]
 unfold AS.turn
 rw [updG_comm hd]
theorem WF.turn {i : Nat} {s : AS} (hw : WF L0 s) {d : Option Nat} {z : AVal} {k : Nat} {x : AObj} (hk : seenF tab i s k ≠ .dead) : WF L0 (s.turn d z k x) := fun k' h1 h2 => by
 have hne : k' ≠ k := fun e => by
  subst e
  refine hk ?_
  unfold seenF
  split
  ·rfl
  ·exact hw k' h1 h2
 show (if k' = k then x else s.o k') = .dead
 rw [if_neg hne]
 exact hw k' h1 h2
theorem Y_turn {i j : Nat} {p q : Oper} (hq : all[j]? = some q) (hl : loose tab j i = true) (hb : blD E p.dst = true) {s : AS} {z' : AVal} {k : Nat} {x : AObj} {z : AVal} {base : Nat} {bs : List AObj} :
  Y E all tab L0 i p (s.turn q.dst z' k x) z base bs ↔ Y E all tab L0 i p s z base bs := by
 have e1 : evG tab all i (s.turn q.dst z' k x).g = evG tab all i s.g := evG_upd hq hl s.g z'
 have e2 : seenB E tab i p.dst (s.turn q.dst z' k x) = seenB E tab i p.dst s := by
  unfold seenB
  rw [if_pos hb, if_pos hb]
 unfold Y
 rw [e1, e2]
theorem Yu_upd {i j : Nat} {p q : Oper} (hq : all[j]? = some q) (hl : loose tab j i = true) {s : AS} {z' : AVal} {base' : Nat} {z : AVal} {base k : Nat} {x : AObj} :
  Yu E all tab L0 i p (s.upd j q.dst z' base' []) z base k x ↔ Yu E all tab L0 i p s z base k x := by
 rw [upd_nil]
 have e1 : evG tab all i (updG s.g q.dst z') = evG tab all i s.g := evG_upd hq hl s.g z'
 unfold Yu
 rw [e1]
 exact Iff.rfl
theorem uOp_put {i j : Nat} {p q : Oper} (hp : all[i]? = some p) (hq : all[j]? = some q) (hl : loose tab i j = true) (hb : blD E p.dst = true) (hd : ∀ t, p.dst = some t → q.dst ≠ some t) {s : AS} (hw : WF L0 s) {z : AVal} {base : Nat} {bs : List AObj}
  (hy : Y E all tab L0 i p s z base bs) (hf : fresh s base bs) {K : AS → Prop} (h : uOp E all tab L0 j q K (s.upd i p.dst z base bs)) :
  uOp E all tab L0 j q (fun s' => WF L0 s' ∧ Y E all tab L0 i p s' z base bs ∧ fresh s' base bs ∧ K (s'.upd i p.dst z base bs)) s := by
 obtain rfl := hy.2.1 hb
 obtain ⟨z', base', k, x, h1, h2⟩ := h
 have h1' := (Yu_upd hp hl).1 h1
 refine ⟨z', base', k, x, h1', hw.turn h1'.2.2.1, (Y_turn hq (loose_symm hl) hb).2 hy, fun k hk => by have a := hk.1; have b := hk.2; simp at b; omega, ?_⟩
 rw [← turn_comm hd]
 exact h2
theorem nOp_putU {i j : Nat} {p q : Oper} (hp : all[i]? = some p) (hq : all[j]? = some q) (hl : loose tab i j = true) (hb : blD E q.dst = true) (hd : ∀ t, p.dst = some t → q.dst ≠ some t) {s : AS} (hw : WF L0 s) {z : AVal} {base k : Nat} {x : AObj}
  (hy : Yu E all tab L0 i p s z base k x) {K : AS → Prop} (h : nOp E all tab L0 j q K (s.turn p.dst z k x)) :
  nOp E all tab L0 j q (fun s' => WF L0 s' ∧ Yu E all tab L0 i p s' z base k x ∧ K (s'.turn p.dst z k x)) s := by
 obtain ⟨z', base', bs', h1, h2, h3⟩ := h
 obtain rfl := h1.2.1 hb
 have h1' := (Y_turn hp hl hb).1 h1
 refine ⟨z', base', [], h1', fun k hk => by have a := hk.1; have b := hk.2; simp at b; omega, hw.upd, (Yu_upd hq (loose_symm hl)).2 hy, ?_⟩
 rw [turn_comm fun t ht e => hd t e ht]
 exact h3
def sOp (E : Env) (all : List Oper) (tab : List Nat) (L0 i : Nat) (p : Oper) (Kp : (Nat → AVal) → AVal → List AObj → Prop) (K : AS → Prop) (s : AS) : Prop :=
 ∃ obs : List AObj, oget obs = s.o ∧ L0 ≤ olen obs ∧ (∀ k, L0 ≤ k → k < olen obs → ∃ i, s.br i k) ∧ (∀ i k, s.br i k → k < olen obs) ∧
  ((wantedE all (evG tab all i s.g) p.guard = some false ∧ K (s.upd i p.dst (.tup []) L0 [])) ∨
    (wantedE all (evG tab all i s.g) p.guard = some true ∧ orD E.P true true false obs obs (olen obs) (fun v obs' => olen obs ≤ olen obs' → K ⟨updG s.g p.dst v, oget obs', fun i' k => s.br i' k ∨ (i' = i ∧ olen obs ≤ k ∧ k < olen obs')⟩) (Kp s.g)
     (eop E (hintOf E p.dst) (olen obs) (oget obs) (evG tab all i s.g) p.op p.type)))
def aOp (E : Env) (ops : Array Oper) (tab : List Nat) (L0 : Nat) (Kp : (Nat → AVal) → AVal → List AObj → Prop) (i : Nat) (K : AS → Prop) (s : AS) : Prop :=
 ∃ p, ops[i]? = some p ∧ (((sole tab i 0 ops.toList = true → blD E p.dst = true) ∧ nOp E ops.toList tab L0 i p K s) ∨ ((soleU E tab i 0 ops.toList = true ∧ blD E p.dst = false) ∧ uOp E ops.toList tab L0 i p K s) ∨
  ((sole tab i 0 ops.toList = true ∧ blD E p.dst = false) ∧ sOp E ops.toList tab L0 i p Kp K s))
def wpA (E : Env) (ops : Array Oper) (tab : List Nat) (L0 : Nat) (Kp : (Nat → AVal) → AVal → List AObj → Prop) (Q : AS → Prop) : Nat → Array Bool → AS → Prop
 | 0, listed, s => Region.ready .any ops listed = [] ∧ Q s
 | fuel + 1, listed, s => (Region.ready .any ops listed = [] → Q s) ∧ ∀ i ∈ Region.ready .any ops listed, aOp E ops tab L0 Kp i (wpA E ops tab L0 Kp Q fuel (listed.setIfInBounds i true)) s
end
section
variable {E : Env} {ops : Array Oper} {tab : List Nat} {L0 : Nat} {Kp : (Nat → AVal) → AVal → List AObj → Prop} {Q : AS → Prop}
theorem aOp_mono {i : Nat} {K K' : AS → Prop} {s : AS} (hk : ∀ s, K s → K' s) (h : aOp E ops tab L0 Kp i K s) (hn : sole tab i 0 ops.toList = false) : aOp E ops tab L0 Kp i K' s := by
 obtain ⟨p, h1, ⟨h2, z, base, bs, h3, h4, h5⟩ | ⟨h2, z, base, k, x, h3, h4⟩ | ⟨h2, _⟩⟩ := h
 ·exact ⟨p, h1, .inl ⟨h2, z, base, bs, h3, h4, hk _ h5⟩⟩
 ·exact ⟨p, h1, .inr (.inl ⟨h2, z, base, k, x, h3, hk _ h4⟩)⟩
 ·rw [hn] at h2; cases h2.1
def Closed (tab : List Nat) (listed : Array Bool) : Prop := ∀ j i, listed.getD j false = true → testB (getN tab j) i = true → listed.getD i false = true
theorem soleU_spec {E : Env} {tab : List Nat} {j : Nat} : ∀ {l : List Oper} {n : Nat}, soleU E tab j n l = true → ∀ (i : Nat) q, l[i]? = some q → loose tab (n + i) j = true → blD E q.dst = true
 | [], _, _, i, q, hi, _ => by simp at hi
 | x :: r, n, h, i, q, hi, hl => by
  simp only [soleU, Bool.and_eq_true, Bool.or_eq_true, Bool.not_eq_true'] at h
  cases i with
  | zero =>
   simp at hi
   subst hi
   rw [Nat.add_zero] at hl
   rcases h.1 with q | q
   ·rw [hl] at q; cases q
   ·exact q
  | succ i => exact soleU_spec h.2 i q (by simpa using hi) (by rw [show n + 1 + i = n + (i + 1) from by omega]; exact hl)
def Others (E : Env) (ops : Array Oper) (tab : List Nat) (i : Nat) (d : Option Nat) : Prop := ∀ (listed : Array Bool) (j : Nat), Closed tab listed → i ∈ Region.ready .any ops listed → j ∈ Region.ready .any ops listed → j ≠ i →
   Closed tab (listed.setIfInBounds j true) ∧ sole tab j 0 ops.toList = false ∧ loose tab i j = true ∧ ∀ q, ops[j]? = some q → ∀ t, d = some t → q.dst ≠ some t
theorem firstA {i : Nat} {p : Oper} {z : AVal} {base : Nat} {bs : List AObj} (hi : ops[i]? = some p) (hsi : sole tab i 0 ops.toList = true → blD E p.dst = true) (hfree : Others E ops tab i p.dst) :
  ∀ (fuel : Nat) (listed : Array Bool) (s : AS), Closed tab listed → WF L0 s → i ∈ Region.ready .any ops listed → Y E ops.toList tab L0 i p s z base bs → fresh s base bs →
   wpA E ops tab L0 Kp Q fuel (listed.setIfInBounds i true) (s.upd i p.dst z base bs) → wpA E ops tab L0 Kp Q (fuel + 1) listed s := by
 have self : ∀ {K : AS → Prop} {s : AS}, Y E ops.toList tab L0 i p s z base bs → fresh s base bs → K (s.upd i p.dst z base bs) → aOp E ops tab L0 Kp i K s := fun hy hf hk => ⟨p, hi, .inl ⟨hsi, z, base, bs, hy, hf, hk⟩⟩
 intro fuel
 induction fuel with
 | zero =>
  intro listed s hc hw hr hy hf H
  refine ⟨fun h => (by rw [h] at hr; cases hr), fun j hj => ?_⟩
  by_cases hji : j = i
  ·subst hji; exact self hy hf H
  ·have := ready_mono hj hji
   rw [H.1] at this
   cases this
 | succ fuel ih =>
  intro listed s hc hw hr hy hf H
  refine ⟨fun h => (by rw [h] at hr; cases hr), fun j hj => ?_⟩
  by_cases hji : j = i
  ·subst hji; exact self hy hf H
  ·have h1 := H.2 j (ready_mono hj hji)
   obtain ⟨g1, g2, g3, g4⟩ := hfree listed j hc hr hj hji
   obtain ⟨q, hq, ⟨hn0, hn⟩ | ⟨hu0, hu⟩ | ⟨hs, _⟩⟩ := h1
   ·have := nOp_put (by simpa using hi) (by simpa using hq) g3 (g4 q hq) hw hy hf hn
    refine aOp_mono (fun s' ⟨k1, k2, k3, k4⟩ => ih (listed.setIfInBounds j true) s' g1 k1 (ready_mono hr (Ne.symm hji)) k2 k3 ?_) ⟨q, hq, .inl ⟨hn0, this⟩⟩ g2
    rw [Array.setIfInBounds_comm _ _ hji]
    exact k4
   ·have hb : blD E p.dst = true := soleU_spec hu0.1 i p (by simpa using hi) (by rw [Nat.zero_add]; exact g3)
    have := uOp_put (by simpa using hi) (by simpa using hq) g3 hb (g4 q hq) hw hy hf hu
    refine aOp_mono (fun s' ⟨k1, k2, k3, k4⟩ => ih (listed.setIfInBounds j true) s' g1 k1 (ready_mono hr (Ne.symm hji)) k2 k3 ?_) ⟨q, hq, .inr (.inl ⟨hu0, this⟩)⟩ g2
    rw [Array.setIfInBounds_comm _ _ hji]
    exact k4
   ·rw [g2] at hs; cases hs.1
theorem firstU {i : Nat} {p : Oper} {z : AVal} {base k : Nat} {x : AObj} (hi : ops[i]? = some p) (hsi : soleU E tab i 0 ops.toList = true ∧ blD E p.dst = false) (hfree : Others E ops tab i p.dst) :
  ∀ (fuel : Nat) (listed : Array Bool) (s : AS), Closed tab listed → WF L0 s → i ∈ Region.ready .any ops listed → Yu E ops.toList tab L0 i p s z base k x →
   wpA E ops tab L0 Kp Q fuel (listed.setIfInBounds i true) (s.turn p.dst z k x) → wpA E ops tab L0 Kp Q (fuel + 1) listed s := by
 have self : ∀ {K : AS → Prop} {s : AS}, Yu E ops.toList tab L0 i p s z base k x → K (s.turn p.dst z k x) → aOp E ops tab L0 Kp i K s := fun hy hk => ⟨p, hi, .inr (.inl ⟨hsi, z, base, k, x, hy, hk⟩)⟩
 intro fuel
 induction fuel with
 | zero =>
  intro listed s hc hw hr hy H
  refine ⟨fun h => (by rw [h] at hr; cases hr), fun j hj => ?_⟩
  by_cases hji : j = i
  ·subst hji; exact self hy H
  ·have := ready_mono hj hji
   rw [H.1] at this
   cases this
 | succ fuel ih =>
  intro listed s hc hw hr hy H
  refine ⟨fun h => (by rw [h] at hr; cases hr), fun j hj => ?_⟩
  by_cases hji : j = i
  ·subst hji; exact self hy H
  ·have h1 := H.2 j (ready_mono hj hji)
   obtain ⟨g1, g2, g3, g4⟩ := hfree listed j hc hr hj hji
   have hjq : ∀ q, ops[j]? = some q → blD E q.dst = true := fun q hq => soleU_spec hsi.1 j q (by simpa using hq) (by rw [Nat.zero_add]; exact loose_symm g3)
   obtain ⟨q, hq, ⟨hn0, hn⟩ | ⟨hu0, hu⟩ | ⟨hs, _⟩⟩ := h1
   ·have := nOp_putU (by simpa using hi) (by simpa using hq) g3 (hjq q hq) (g4 q hq) hw hy hn
    refine aOp_mono (fun s' ⟨k1, k2, k3⟩ => ih (listed.setIfInBounds j true) s' g1 k1 (ready_mono hr (Ne.symm hji)) k2 ?_) ⟨q, hq, .inl ⟨hn0, this⟩⟩ g2
    rw [Array.setIfInBounds_comm _ _ hji]
    exact k3
   ·rw [hjq q hq] at hu0; cases hu0.2
   ·rw [g2] at hs; cases hs.1
end
def absS (fr : List (Nat × AVal)) (obs : List AObj) (br : List (Nat × Nat)) : AS := ⟨getS fr, oget obs, fun i k => (i, k) ∈ br⟩
theorem getS_putO (fr : List (Nat × AVal)) (d : Option Nat) (v : AVal) : getS (putO fr d v) = updG (getS fr) d v := by
 funext t
 cases d with
 | none => simp [putO, updG]
 | some d =>
  simp only [putO, updG, getS_putS, Option.some.injEq]
  by_cases h : t = d
  ·subst h; simp
  ·rw [if_neg h, if_neg (Ne.symm h)]
theorem oget_oput (l : List AObj) (n k : Nat) (x : AObj) : oget (oput l n x) k = if k = n then x else oget l k := by
 induction l generalizing n k with
 | nil =>
  induction n generalizing k with
  | zero => cases k <;> rfl
  | succ n ih =>
   cases k with
   | zero => rfl
   | succ k => show oget (oput [] n x) k = _; rw [ih]; simp [oget]
 | cons y r ih =>
  cases n with
  | zero => cases k <;> simp [oput, oget]
  | succ n =>
   cases k with
   | zero => simp [oput, oget]
   | succ k => simp only [oput, oget, ih]; simp
theorem oget_kill (ks : List Nat) (obs : List AObj) (k : Nat) : oget (kill ks obs) k = if k ∈ ks then .dead else oget obs k := by
 induction ks generalizing obs with
 | nil => simp [kill]
 | cons x r ih =>
  simp only [kill, ih, oget_oput, List.mem_cons]
  by_cases h1 : k ∈ r
  ·simp [h1]
  ·by_cases h2 : k = x
   ·simp [h2]
   ·simp [h1, h2]
theorem hidO_iff {tab : List Nat} {j k : Nat} : ∀ {br : List (Nat × Nat)}, k ∈ hidO tab j br ↔ ∃ i, (i, k) ∈ br ∧ testB (getN tab j) i = false
 | [] => by simp [hidO]
 | (i, k') :: r => by
  simp only [hidO]
  cases h : testB (getN tab j) i with
  | true =>
   simp only [cond_true, hidO_iff (br := r), List.mem_cons, Prod.mk.injEq]
   constructor
   ·rintro ⟨i', h1, h2⟩; exact ⟨i', .inr h1, h2⟩
   ·rintro ⟨i', ⟨rfl, rfl⟩ | h1, h2⟩
    ·rw [h] at h2; cases h2
    ·exact ⟨i', h1, h2⟩
  | false =>
   simp only [cond_false, List.mem_cons, hidO_iff (br := r), Prod.mk.injEq]
   constructor
   ·rintro (rfl | ⟨i', h1, h2⟩)
    ·exact ⟨i, .inl ⟨rfl, rfl⟩, h⟩
    ·exact ⟨i', .inr h1, h2⟩
   ·rintro ⟨i', ⟨rfl, rfl⟩ | h1, h2⟩
    ·exact .inl rfl
    ·exact .inr ⟨i', h1, h2⟩
theorem seen_eq (tab : List Nat) (j : Nat) (fr : List (Nat × AVal)) (obs : List AObj) (br : List (Nat × Nat)) : oget (kill (hidO tab j br) obs) = seenF tab j (absS fr obs br) := by
 funext k
 rw [oget_kill]
 unfold seenF
 have : k ∈ hidO tab j br ↔ hidK tab j (absS fr obs br).br k := hidO_iff
 by_cases h : k ∈ hidO tab j br
 ·rw [if_pos h, if_pos (this.1 h)]
 ·rw [if_neg h, if_neg fun e => h (this.2 e)]; rfl
theorem bput_end (bs : List AObj) : ∀ (obs : List AObj), bput obs obs.length bs = obs ++ bs := by
 induction bs with
 | nil => intro obs; simp [bput]
 | cons x r ih =>
  intro obs
  simp only [bput, oput_len]
  have := ih (obs ++ [x])
  simp at this
  rw [this]
theorem odrop_eq (n : Nat) : ∀ (l : List AObj), odrop n l = l.drop n := by
 induction n with
 | zero => intro l; rfl
 | succ n ih => intro l; cases l with
  | nil => rfl
  | cons x r => simp [odrop, ih]
theorem born_iff {j i k : Nat} : ∀ {l : List AObj} {base : Nat} {br : List (Nat × Nat)}, (i, k) ∈ born j base l br ↔ (i, k) ∈ br ∨ (i = j ∧ inB base l.length k)
 | [], base, br => by simp [born, inB]; omega
 | x :: r, base, br => by
  have ih := born_iff (j := j) (i := i) (k := k) (l := r) (base := base + 1) (br := br)
  have e : born j base (x :: r) br = (j, base) :: born j (base + 1) r br := rfl
  have hm : (i, k) ∈ (j, base) :: born j (base + 1) r br ↔ ((i = j ∧ k = base) ∨ (i, k) ∈ br) ∨ (i = j ∧ inB (base + 1) r.length k) := by rw [List.mem_cons, Prod.mk.injEq, ih, or_assoc]
  rw [e, hm]
  unfold inB
  rw [List.length_cons]
  constructor
  ·intro h
   rcases h with h | h
   ·rcases h with ⟨h1, h2⟩ | h
    ·exact .inr ⟨h1, by omega, by omega⟩
    ·exact .inl h
   ·exact .inr ⟨h.1, by have := h.2.1; omega, by have := h.2.2; omega⟩
  ·intro h
   rcases h with h | ⟨h1, h2, h3⟩
   ·exact .inl (.inr h)
   ·by_cases hk : k = base
    ·exact .inl (.inl ⟨h1, hk⟩)
    ·exact .inr ⟨h1, by omega, by omega⟩
theorem wrP_put {rest : List Oper} {n : Nat} {d : Option Nat} {fr : List (Nat × AVal)} {v : AVal} {k : List (Nat × AVal) → Prop} (h : wrP rest n d fr v k) : k (putO fr d v) := by
 unfold wrP at h
 cases d with
 | none => exact h
 | some d =>
  dsimp only at h
  cases hg : isGuard n rest with
  | false => rw [hg] at h; exact h
  | true =>
   rw [hg] at h
   simp only [cond_true] at h
   split at h
   ·rename_i b
    cases b with
    | true => exact h.1 rfl
    | false => exact h.2 rfl
   ·exact h.elim
theorem absS_upd (fr : List (Nat × AVal)) (obs : List AObj) (br : List (Nat × Nat)) (n : Nat) (d : Option Nat) (z : AVal) (bs : List AObj) :
  absS (putO fr d z) (bput obs (olen obs) bs) (born n (olen obs) (odrop (olen obs) (bput obs (olen obs) bs)) br) = (absS fr obs br).upd n d z (olen obs) bs := by
 rw [olen_eq, bput_end, odrop_eq, List.drop_left]
 unfold absS AS.upd
 rw [getS_putO]
 congr 1
 ·funext k
  show _ = updO (oget obs) obs.length bs k
  unfold updO
  by_cases h : inB obs.length bs.length k
  ·rw [if_pos h]
   have hlt : k - obs.length < bs.length := by have := h.1; have := h.2; omega
   refine oget_of ?_
   rw [List.getElem?_append_right h.1, List.getD_eq_getElem?_getD, List.getElem?_eq_getElem hlt]
   rfl
  ·rw [if_neg h]
   by_cases hk : k < obs.length
   ·rcases oget_or obs k with ⟨h1, e⟩ | ⟨h1, _⟩
    ·exact oget_of (by rw [List.getElem?_append_left hk]; exact e)
    ·omega
   ·have hk2 : obs.length + bs.length ≤ k := by
     refine Nat.le_of_not_lt fun h2 => h ⟨by omega, h2⟩
    rcases oget_or (obs ++ bs) k with ⟨h1, _⟩ | ⟨_, _, e⟩
    ·simp at h1; omega
    ·rcases oget_or obs k with ⟨h1, _⟩ | ⟨_, _, e2⟩
     ·omega
     ·rw [e, e2]
 ·funext i k
  exact propext born_iff
structure LI (L0 n : Nat) (obs : List AObj) (br : List (Nat × Nat)) : Prop where
 low : L0 ≤ olen obs
 all : ∀ k, L0 ≤ k → k < olen obs → ∃ i, (i, k) ∈ br
 lt : ∀ i k, (i, k) ∈ br → k < olen obs ∧ i < n
theorem LI.wf {L0 n : Nat} {obs : List AObj} {br : List (Nat × Nat)} (h : LI L0 n obs br) (fr : List (Nat × AVal)) : WF L0 (absS fr obs br) := fun k hk hn => by
 rcases oget_or obs k with ⟨h1, _⟩ | ⟨_, _, e⟩
 ·obtain ⟨i, hi⟩ := h.all k hk (by rw [olen_eq]; exact h1)
  exact absurd hi (hn i)
 ·exact e
theorem LI.put {L0 n : Nat} {obs : List AObj} {br : List (Nat × Nat)} (h : LI L0 n obs br) {obs' : List AObj} (hl : olen obs ≤ olen obs') : LI L0 (n + 1) obs' (born n (olen obs) (odrop (olen obs) obs') br) := by
 have hd : (odrop (olen obs) obs').length = olen obs' - olen obs := by rw [odrop_eq, List.length_drop, olen_eq obs']
 refine ⟨Nat.le_trans h.low hl, fun k h1 h2 => ?_, fun i k hk => ?_⟩
 ·by_cases hk : k < olen obs
  ·obtain ⟨i, hi⟩ := h.all k h1 hk
   exact ⟨i, born_iff.2 (.inl hi)⟩
  ·exact ⟨n, born_iff.2 (.inr ⟨rfl, by omega, by rw [hd]; omega⟩)⟩
 ·rcases born_iff.1 hk with hk | ⟨rfl, h1, h2⟩
  ·obtain ⟨a, b⟩ := h.lt i k hk
   exact ⟨by omega, by omega⟩
  ·rw [hd] at h2
   exact ⟨by omega, by omega⟩
theorem CallG.mono {P : Program} {f : Fn} {args : List AVal} {obs : List AObj} {K K' Kp : AVal → List AObj → Prop} (hk : ∀ v o, K v o → K' v o) (h : CallG P f args obs K Kp) : CallG P f args obs K' Kp := by
 cases h with
 | pure r new h k => exact .pure r new h (hk _ _ k)
 | eff fz ks r obs' hks h k => exact .eff fz ks r obs' hks h (hk _ _ k)
 | effp fz ks r obs' hks h k => exact .effp fz ks r obs' hks h k
 | pan r h k => exact .pan r h k
theorem orD_mono {P : Program} {so uo bl : Bool} {seen obs : List AObj} {base : Nat} {K K' Kp : AVal → List AObj → Prop} (hk : ∀ v o, K v o → K' v o) : ∀ {r : OR}, orD P so uo bl seen obs base K Kp r → orD P so uo bl seen obs base K' Kp r
 | .no, k => k.elim
 | .val v, k => hk _ _ k
 | .mkf fn fs cs, k => hk _ _ k
 | .need p r, k => ⟨k.1, orD_mono hk k.2⟩
 | .alt p v w, k => k.imp (fun h => ⟨h.1, hk _ _ h.2⟩) (hk _ _)
 | .idx n f, ⟨i, hi, k⟩ => ⟨i, hi, orD_mono hk k⟩
 | .elem xs i f, ⟨x, hx, k⟩ => ⟨x, hx, orD_mono hk k⟩
 | .byte l i, ⟨c, hc, k⟩ => ⟨c, hc, hk _ _ k⟩
 | .text xs, ⟨l, hl, hm, k⟩ => ⟨l, hl, hm, hk _ _ k⟩
 | .find es key f, ⟨o, ho, k⟩ => ⟨o, ho, orD_mono hk k⟩
 | .born x v, k => by cases bl with
  | true => exact k.elim
  | false => exact hk _ _ k
 | .upd i x v, k => by
  simp only [orD] at k ⊢
  split at k
  ·exact hk _ _ k
  ·exact k.elim
 | .nilq xs neg, k => by cases so with
  | true => exact fun b hb => hk _ _ (k b hb)
  | false => exact k.elim
 | .call f args, k => by
  cases bl with
  | true => exact k.elim
  | false =>
   have k : CallD P f args so seen base obs K Kp := k
   show CallD P f args so seen base obs K' Kp
   cases k with
   | pure r new h k => exact .pure r new h (hk _ _ k)
   | sole h1 h2 => exact .sole h1 (h2.mono hk)
 | .pan v, k => by cases so with
  | true => exact k
  | false => exact k.elim
theorem orD_uo {P : Program} {uo bl : Bool} {seen obs : List AObj} {base : Nat} {K Kp : AVal → List AObj → Prop} : ∀ {r : OR}, orD P true uo bl seen obs base K Kp r → orD P true true bl seen obs base K Kp r
 | .no, k => k
 | .val v, k => k
 | .mkf fn fs cs, k => k
 | .need p r, k => ⟨k.1, orD_uo k.2⟩
 | .alt p v w, k => k
 | .idx n f, ⟨i, hi, k⟩ => ⟨i, hi, orD_uo k⟩
 | .elem xs i f, ⟨x, hx, k⟩ => ⟨x, hx, orD_uo k⟩
 | .byte l i, k => k
 | .text xs, k => k
 | .find es key f, ⟨o, ho, k⟩ => ⟨o, ho, orD_uo k⟩
 | .born x v, k => k
 | .upd i x v, k => k
 | .nilq xs neg, k => k
 | .call f args, k => k
 | .pan v, k => k
theorem absS_turn (fr : List (Nat × AVal)) (obs : List AObj) (br : List (Nat × Nat)) (n : Nat) (d : Option Nat) (z : AVal) (k : Nat) (x : AObj) (hk : k < olen obs) :
  absS (putO fr d z) (oput obs k x) (born n (olen obs) (odrop (olen obs) (oput obs k x)) br) = (absS fr obs br).turn d z k x := by
 have hl : (oput obs k x).length = obs.length := by rw [oput_set _ (by rwa [olen_eq] at hk)]; simp
 have e : odrop (olen obs) (oput obs k x) = [] := by rw [odrop_eq, olen_eq, ← hl]; simp
 rw [e]
 unfold absS AS.turn
 rw [getS_putO]
 congr 1
 funext k'
 exact oget_oput obs k k' x
structure TabSp (ops : Array Oper) (tab : List Nat) : Prop where
 back : ∀ (j : Nat) p, ops[j]? = some p → ∀ e ∈ p.after, Region.binds .any e = true → e.on < j
 less : ∀ i j, testB (getN tab i) j = true → j < i
 step : ∀ (j : Nat) p, ops[j]? = some p → ∀ i, testB (getN tab j) i = true → ∃ e ∈ p.after, Region.binds .any e = true ∧ (e.on = i ∨ testB (getN tab e.on) i = true)
 out : ∀ j i, testB (getN tab j) i = true → j < ops.size
 dst : ∀ (i j : Nat) p q, ops[i]? = some p → ops[j]? = some q → loose tab i j = true → ∀ t, p.dst = some t → q.dst ≠ some t
theorem sole_spec {tab : List Nat} {j : Nat} : ∀ {l : List Oper} {n : Nat}, sole tab j n l = true → ∀ i, i < l.length → loose tab (n + i) j = false
 | [], _, _, i, hi => by simp at hi
 | x :: r, n, h, i, hi => by
  simp only [sole, Bool.and_eq_true, Bool.not_eq_true'] at h
  cases i with
  | zero => exact h.1
  | succ i =>
   have := sole_spec h.2 i (by simpa using hi)
   rwa [show n + 1 + i = n + (i + 1) from by omega] at this
section
variable {E : Env} {ops : Array Oper} {tab : List Nat} {L0 : Nat} {Kp : (Nat → AVal) → AVal → List AObj → Prop} {Kq : List (Nat × AVal) → List AObj → Prop}
theorem Closed.step (ht : TabSp ops tab) {listed : Array Bool} (hc : Closed tab listed) {j : Nat} (hj : j ∈ Region.ready .any ops listed) : Closed tab (listed.setIfInBounds j true) ∧ ∀ i, testB (getN tab j) i = true → listed.getD i false = true := by
 obtain ⟨_, p, hp, hall⟩ := mem_ready.1 hj
 have key : ∀ i, testB (getN tab j) i = true → listed.getD i false = true := fun i hi => by
  obtain ⟨e, he, hb, h | h⟩ := ht.step j p hp i hi
  ·subst h; exact hall e he hb
  ·exact hc e.on i (hall e he hb) h
 refine ⟨fun j' i h1 h2 => getD_set_true ?_, key⟩
 by_cases hjj : j = j'
 ·subst hjj; exact key i h2
 ·rw [getD_set_ne false hjj] at h1
  exact hc j' i h1 h2
theorem ready_loose (ht : TabSp ops tab) {listed : Array Bool} (hc : Closed tab listed) {i j : Nat} (hi : i ∈ Region.ready .any ops listed) (hj : j ∈ Region.ready .any ops listed) (hne : i ≠ j) : loose tab i j = true := by
 have un : ∀ {k : Nat}, k ∈ Region.ready .any ops listed → listed.getD k false = true → False := fun {k} hk h => by
  obtain ⟨h0, p, hp, _⟩ := mem_ready.1 hk
  rw [Array.getD_eq_getD_getElem?] at h0 h
  cases hq : listed[k]? with
  | none => rw [hq] at h; simp at h
  | some b => rw [hq] at h h0; simp at h h0; rw [h] at h0; cases h0
 refine loose_iff.2 ⟨hne, ?_, ?_⟩
 ·cases hq : testB (getN tab j) i with
  | false => rfl
  | true => exact (un hi ((hc.step ht hj).2 i hq)).elim
 ·cases hq : testB (getN tab i) j with
  | false => rfl
  | true => exact (un hj ((hc.step ht hi).2 j hq)).elim
def Qf (L0 : Nat) (Kq : List (Nat × AVal) → List AObj → Prop) (s : AS) : Prop := ∃ fr obs br n, s = absS fr obs br ∧ LI L0 n obs br ∧ Kq fr obs
theorem lexA (ht : TabSp ops tab) : ∀ (l : List Oper) (n : Nat) (listed : Array Bool) (br : List (Nat × Nat)) (fr : List (Nat × AVal)) (obs : List AObj),
  l = ops.toList.drop n → (∀ j, j < ops.size → listed[j]? = some (decide (j < n))) → listed.size = ops.size → LI L0 n obs br → chainD E ops.toList tab Kq Kp n l br fr obs →
  wpA E ops tab L0 Kp (Qf L0 Kq) l.length listed (absS fr obs br)
 | [], n, listed, br, fr, obs, hl, hlist, hsz, hI, h => by
  refine ⟨?_, fr, obs, br, n, rfl, hI, h⟩
  have hk : ops.size ≤ n := by
   have := congrArg List.length hl
   simp at this
   omega
  refine List.eq_nil_iff_forall_not_mem.2 fun j hj => ?_
  obtain ⟨h0, q, hq, _⟩ := mem_ready.1 hj
  have hlt := (Array.getElem?_eq_some_iff.1 hq).1
  rw [Array.getD_eq_getD_getElem?, hlist j hlt] at h0
  simp at h0
  omega
 | p :: l, n, listed, br, fr, obs, hl, hlist, hsz, hI, h => by
  have hnp : ops[n]? = some p := by
   have : (ops.toList.drop n)[0]? = some p := by rw [← hl]; rfl
   simpa using this
  have hnlt : n < ops.size := (Array.getElem?_eq_some_iff.1 hnp).1
  have hl' : l = ops.toList.drop (n + 1) := by
   rw [← List.drop_drop, ← hl]; rfl
  have hlt : ∀ j, listed.getD j false = true ↔ j < n := by
   intro j
   rw [Array.getD_eq_getD_getElem?]
   by_cases hj : j < ops.size
   ·rw [hlist j hj]; simp
   ·rw [Array.getElem?_eq_none (by omega)]
    simp
    omega
  have hclosed : Closed tab listed := fun j i h1 h2 => (hlt i).2 (Nat.lt_trans (ht.less j i h2) ((hlt j).1 h1))
  have hready : n ∈ Region.ready .any ops listed := by
   refine mem_ready.2 ⟨?_, p, hnp, fun e he hb => (hlt _).2 (ht.back n p hnp e he hb)⟩
   rw [Array.getD_eq_getD_getElem?, hlist n hnlt]; simp
  have hlist' : ∀ j, j < ops.size → (listed.setIfInBounds n true)[j]? = some (decide (j < n + 1)) := by
   intro j hj
   by_cases hjk : n = j
   ·subst hjk
    rw [Array.getElem?_setIfInBounds_self_of_lt (by omega)]
    simp
   ·rw [Array.getElem?_setIfInBounds_ne hjk, hlist j hj]
    congr 1
    exact decide_eq_decide.2 (by omega)
  have hsz' : (listed.setIfInBounds n true).size = ops.size := by simpa using hsz
  have hw := hI.wf fr
  have nofr : ∀ {bs : List AObj}, fresh (absS fr obs br) (olen obs) bs := fun {bs} k hk i hb => by
   have := (hI.lt i k hb).1
   have := hk.1
   omega
  have ahead : ∀ {i : Nat}, i < ops.size → i ∈ Region.ready .any ops listed → i ≠ n → loose tab n i = true := fun _ hi hne => ready_loose ht hclosed hready hi (Ne.symm hne)
  simp only [chainD] at h
  rw [evH_eq] at h
  -- on, where the operation bears bs at the end
  have on : ∀ {z : AVal} {bs : List AObj}, chainD E ops.toList tab Kq Kp (n + 1) l (born n (olen obs) (odrop (olen obs) (bput obs (olen obs) bs)) br) (putO fr p.dst z) (bput obs (olen obs) bs) →
    wpA E ops tab L0 Kp (Qf L0 Kq) l.length (listed.setIfInBounds n true) ((absS fr obs br).upd n p.dst z (olen obs) bs) := fun {z bs} hc => by
   rw [← absS_upd]
   refine lexA ht l (n + 1) _ _ _ _ hl' hlist' hsz' (hI.put ?_) hc
   rw [olen_eq, olen_eq, bput_end]
   simp
  have nil0 : bput obs (olen obs) [] = obs := rfl
  have brn : born n (olen obs) (odrop (olen obs) obs) br = br := by
   have : odrop (olen obs) obs = [] := by rw [odrop_eq, olen_eq]; simp
   rw [this]
   rfl
  have skip : chainD E ops.toList tab Kq Kp (n + 1) l br (putO fr p.dst (.tup [])) obs → wpA E ops tab L0 Kp (Qf L0 Kq) l.length (listed.setIfInBounds n true) ((absS fr obs br).upd n p.dst (.tup []) (olen obs) []) := fun hc => on (by rw [nil0, brn]; exact hc)
  have oth : (∀ j, ops[j]? ≠ none → loose tab n j = true → sole tab j 0 ops.toList = false) → Others E ops tab n p.dst := fun h listed' j hc' hi' hj' hne => by
   have hloose := ready_loose ht hc' hi' hj' (Ne.symm hne)
   obtain ⟨_, q, hq, _⟩ := mem_ready.1 hj'
   exact ⟨(hc'.step ht hj').1, h j (by rw [hq]; simp) hloose, hloose, fun q hq => ht.dst n j p q hnp hq hloose⟩
  have nosole : ∀ j, ops[j]? ≠ none → loose tab n j = true → sole tab j 0 ops.toList = false := fun j hj hloose => by
   cases hq : sole tab j 0 ops.toList with
   | false => rfl
   | true =>
    have := sole_spec hq n (by simpa using hnlt)
    rw [Nat.zero_add, hloose] at this
    cases this
  have others := oth nosole
  -- where an object is turned
  have onU : ∀ {z : AVal} {k : Nat} {x : AObj}, k < olen obs → chainD E ops.toList tab Kq Kp (n + 1) l (born n (olen obs) (odrop (olen obs) (oput obs k x)) br) (putO fr p.dst z) (oput obs k x) →
    wpA E ops tab L0 Kp (Qf L0 Kq) l.length (listed.setIfInBounds n true) ((absS fr obs br).turn p.dst z k x) := fun {z k x} hk hc => by
   rw [← absS_turn fr obs br n p.dst z k x hk]
   refine lexA ht l (n + 1) _ _ _ _ hl' hlist' hsz' (hI.put ?_) hc
   rw [olen_eq, olen_eq, oput_set _ (by rwa [olen_eq] at hk)]
   simp
  have pickN : (sole tab n 0 ops.toList = true → blD E p.dst = true) → (wantedE ops.toList (evG tab ops.toList n (getS fr)) p.guard = some true →
    orD E.P false (uoN E tab ops.toList n p.dst) (blD E p.dst) (seenN E tab n br obs p.dst) obs (olen obs) (fun v obs' => wrP l n p.dst fr v fun fr => chainD E ops.toList tab Kq Kp (n + 1) l (born n (olen obs) (odrop (olen obs) obs') br) fr obs') (Kp (getS fr))
     (eop E (hintOf E p.dst) (olen obs) (oget (seenN E tab n br obs p.dst)) (evG tab ops.toList n (getS fr)) p.op p.type)) →
    (wantedE ops.toList (evG tab ops.toList n (getS fr)) p.guard = some false → chainD E ops.toList tab Kq Kp (n + 1) l br (putO fr p.dst (.tup [])) obs) →
    wantedE ops.toList (evG tab ops.toList n (getS fr)) p.guard ≠ none → wpA E ops tab L0 Kp (Qf L0 Kq) (l.length + 1) listed (absS fr obs br) := fun hs1 h1 h2 h3 => by
   have hseenB : oget (seenN E tab n br obs p.dst) = seenB E tab n p.dst (absS fr obs br) := by
    unfold seenN seenB
    cases hbl : blD E p.dst with
    | true => simp only [cond_true, if_true]; exact oget_nil
    | false => simp only [cond_false]; rw [if_neg (by simp)]; exact seen_eq tab n fr obs br
   cases hwt : wantedE ops.toList (evG tab ops.toList n (getS fr)) p.guard with
   | none => exact absurd hwt h3
   | some b =>
    cases b with
    | false => exact firstA hnp hs1 others l.length listed _ hclosed hw hready (z := .tup []) (base := olen obs) (bs := []) ⟨hI.low, fun _ => rfl, .inl ⟨hwt, rfl, rfl⟩⟩ nofr (skip (h2 hwt))
    | true =>
     have h := h1 hwt
     rcases orD_pick h with ⟨z, bs, q0, q1, q2⟩ | ⟨z, k, x, q0, q1, q2, q3⟩
     ·rw [hseenB] at q1
      exact firstA hnp hs1 others l.length listed _ hclosed hw hready ⟨hI.low, q0, .inr ⟨hwt, q1⟩⟩ nofr (on (wrP_put q2))
     ·obtain ⟨u1, u2⟩ := beq_and q0
      have hbl : blD E p.dst = false := by simpa using u2
      have e : seenB E tab n p.dst (absS fr obs br) = seenF tab n (absS fr obs br) := by
              unfold seenB
              rw [hbl, if_neg (by simp)]
      rw [hseenB, e] at q1 q2
      have hkl : k < olen obs := by
              refine Nat.lt_of_not_le fun hge => q1 ?_
              unfold seenF
              split
              ·rfl
              ·rcases oget_or obs k with ⟨h1, _⟩ | ⟨_, _, e⟩
               ·rw [olen_eq] at hge; omega
               ·exact e
      exact firstU hnp ⟨u1, hbl⟩ others l.length listed _ hclosed hw hready ⟨⟨hI.low, fun i hb => by have := (hI.lt i _ hb).1; omega⟩, hwt, q1, q2⟩ (onU hkl (wrP_put q3))
  have hnn : wantedE ops.toList (evG tab ops.toList n (getS fr)) p.guard ≠ none := fun e => by rw [e] at h; exact h
  have hfalse : wantedE ops.toList (evG tab ops.toList n (getS fr)) p.guard = some false → chainD E ops.toList tab Kq Kp (n + 1) l br (putO fr p.dst (.tup [])) obs := fun e => by rw [e] at h; exact h
  cases hbl : blD E p.dst with
  | true =>
   refine pickN (fun _ => hbl) (fun e => ?_) hfalse hnn
   rw [e] at h
   have : soN E tab ops.toList n p.dst = false := by simp [soN, hbl]
   rw [this] at h
   exact h
  | false =>
  cases hso : sole tab n 0 ops.toList with
  | false =>
   refine pickN (fun e => by rw [hso] at e; cases e) (fun e => ?_) hfalse hnn
   rw [e] at h
   have : soN E tab ops.toList n p.dst = false := by simp [soN, hso]
   rw [this] at h
   exact h
  | true =>
   have hone : ∀ j, j ∈ Region.ready .any ops listed → j = n := fun j hj => by
    refine Decidable.byContradiction fun hne => ?_
    have hloose := ready_loose ht hclosed hj hready hne
    obtain ⟨_, q, hq, _⟩ := mem_ready.1 hj
    have hjlt := (Array.getElem?_eq_some_iff.1 hq).1
    have := sole_spec hso j (by simpa using hjlt)
    rw [Nat.zero_add, hloose] at this
    cases this
   have hid0 : hidO tab n br = [] := by
    refine List.eq_nil_iff_forall_not_mem.2 fun k hk => ?_
    obtain ⟨i, h1, h2⟩ := hidO_iff.1 hk
    have hin := (hI.lt i k h1).2
    have := sole_spec hso i (by simp; omega)
    rw [Nat.zero_add] at this
    have hl2 : loose tab i n = true := loose_iff.2 ⟨by omega, h2, by
     cases hq : testB (getN tab i) n with
     | false => rfl
     | true => have := ht.less i n hq; omega⟩
    rw [hl2] at this
    cases this
   have hseen : seenN E tab n br obs p.dst = obs := by unfold seenN; rw [hbl, hid0]; rfl
   have hson : soN E tab ops.toList n p.dst = true := by simp [soN, hso, hbl]
   rw [hseen, hson, hbl] at h
   refine ⟨fun h => (by rw [h] at hready; cases hready), fun j hj => ?_⟩
   obtain rfl := hone j hj
   refine ⟨p, hnp, .inr (.inr ⟨⟨hso, hbl⟩, obs, rfl, hI.low, fun k h1 h2 => hI.all k h1 h2, fun i k hb => (hI.lt i k hb).1, ?_⟩)⟩
   cases hwt : wantedE ops.toList (evG tab ops.toList j (getS fr)) p.guard with
   | none => rw [hwt] at h; exact h.elim
   | some b =>
    rw [hwt] at h
    cases b with
    | false =>
     refine .inl ⟨hwt, ?_⟩
     have e : (absS fr obs br).upd j p.dst (.tup []) L0 [] = (absS fr obs br).upd j p.dst (.tup []) (olen obs) [] := by
      unfold AS.upd
      congr 1
      ·funext k
       unfold updO
       rw [if_neg fun h => by have h1 := h.1; have h2 := h.2; simp at h2; omega, if_neg fun h => by have h1 := h.1; have h2 := h.2; simp at h2; omega]
      ·funext i k
       refine propext (or_congr Iff.rfl ⟨fun h => ?_, fun h => ?_⟩) <;> (have h1 := h.2.1; have h2 := h.2.2; simp at h2; omega)
     rw [e]
     exact skip h
    | true =>
     dsimp only at h
     refine .inr ⟨hwt, orD_mono (fun v obs' hk hle => ?_) (orD_uo h)⟩
     have hk2 := wrP_put hk
     have := lexA ht l (j + 1) _ _ _ _ hl' hlist' hsz' (hI.put hle) hk2
     have e : absS (putO fr p.dst v) obs' (born j (olen obs) (odrop (olen obs) obs') br) = ⟨updG (absS fr obs br).g p.dst v, oget obs', fun i' k => (absS fr obs br).br i' k ∨ (i' = j ∧ olen obs ≤ k ∧ k < olen obs')⟩ := by
      unfold absS
      rw [getS_putO]
      congr 1
      funext i k
      refine propext (born_iff.trans (or_congr Iff.rfl (and_congr Iff.rfl ?_)))
      unfold inB
      rw [odrop_eq, List.length_drop, olen_eq obs']
      constructor <;> (rintro ⟨h1, h2⟩; exact ⟨h1, by omega⟩)
     rw [← e]
     exact this
end
end Go.AW
