/-
  THE ENGINE, 22: a region whose order is drawn: the order of the text answers for every order. Over any program.
-/
import Derived.Test.YtgjcojagbgdpnaaEng21
namespace Go.AM
open Go.RowKit

structure AS where
  g : Nat → AVal
  obs : List AObj
  nt : Nat

def updG (g : Nat → AVal) (d : Option Nat) (z : AVal) : Nat → AVal := fun t => if d = some t then z else g t
def AS.upd (s : AS) (d : Option Nat) (z : AVal) : AS := ⟨updG s.g d z, s.obs, s.nt⟩

theorem getS_putD' (fr : List (Nat × AVal)) (d : Option Nat) (z : AVal) : getS (putD fr d z) = updG (getS fr) d z := funext fun t => getS_putD fr d z t

theorem updG_comm (g : Nat → AVal) {d e : Option Nat} (y z : AVal) (h : ∀ t, d = some t → e ≠ some t) : updG (updG g d z) e y = updG (updG g e y) d z := by
  funext t
  simp only [updG]
  by_cases h1 : d = some t
  · rw [if_neg (h t h1), if_pos h1, if_pos h1]
  · rw [if_neg h1, if_neg h1]

def aOp (E : Env) (ops : Array Oper) (sz : Nat) (Qp : AVal → List AObj → Nat → Prop) (i : Nat) (K : AS → Prop) (s : AS) : Prop :=
  ∃ p c fr o res, ops[i]? = some p ∧ getS fr = s.g ∧ estep E (!soleB ops.toList i) ops.toList (ops.toList.drop (i + 1)) i sz p c fr s.obs s.nt o = some res ∧
    (∀ r, res = .inl r → All r.c ∧ K ⟨getS r.fr, r.obs, r.nt⟩) ∧ ∀ c' v, res = .inr (c', v) → All c' ∧ Qp v s.obs s.nt

theorem aOp_mono {E : Env} {ops : Array Oper} {sz : Nat} {Qp : AVal → List AObj → Nat → Prop} {i : Nat} {K K' : AS → Prop} {s : AS} (hk : ∀ s, K s → K' s) (h : aOp E ops sz Qp i K s) : aOp E ops sz Qp i K' s := by
  obtain ⟨p, c, fr, o, res, h1, h2, h3, h4, h5⟩ := h
  exact ⟨p, c, fr, o, res, h1, h2, h3, fun r e => ⟨(h4 r e).1, hk _ (h4 r e).2⟩, h5⟩

def wpA (E : Env) (ops : Array Oper) (sz : Nat) (Qp : AVal → List AObj → Nat → Prop) (Q : AS → Prop) : Nat → Array Bool → AS → Prop
  | 0, listed, s => Region.ready .any ops listed = [] ∧ Q s
  | fuel + 1, listed, s => (Region.ready .any ops listed = [] → Q s) ∧ ∀ i ∈ Region.ready .any ops listed, aOp E ops sz Qp i (wpA E ops sz Qp Q fuel (listed.setIfInBounds i true)) s

/-- in this state operation i yields z, whatever else -/
def YA (E : Env) (ops : Array Oper) (sz : Nat) (i : Nat) (s : AS) (d : Option Nat) (z : AVal) : Prop :=
  ∃ p c fr o r, ops[i]? = some p ∧ p.dst = d ∧ getS fr = s.g ∧ estep E true ops.toList (ops.toList.drop (i + 1)) i sz p c fr s.obs s.nt o = some (.inl r) ∧ All r.c ∧ r.fr = putD fr d z ∧ r.obs = s.obs ∧ r.nt = s.nt

section
variable {E : Env} {ops : Array Oper} {sz : Nat} {Qp : AVal → List AObj → Nat → Prop} {Q : AS → Prop}

theorem YA.aOp {i : Nat} {s : AS} {d : Option Nat} {z : AVal} (hs : soleB ops.toList i = false) (h : YA E ops sz i s d z) {K : AS → Prop} (hk : K (s.upd d z)) : AM.aOp E ops sz Qp i K s := by
  obtain ⟨p, c, fr, o, r, h1, h2, h3, h4, h5, h6, h7, h8⟩ := h
  refine ⟨p, c, fr, o, .inl r, h1, h3, by rw [hs]; exact h4, fun r' e => ?_, fun c' v e => by cases e⟩
  cases e
  refine ⟨h5, ?_⟩
  rw [h6, h7, h8, getS_putD', h3]
  exact hk

theorem aOp_put {i j : Nat} {p q : Oper} {s : AS} {d : Option Nat} {z : AVal} (hi : ops[i]? = some p) (hd : p.dst = d) (hj : ops[j]? = some q) (hap : p.apart ops q = true) (hs : soleB ops.toList j = false)
    (hy : YA E ops sz i s d z) {K : AS → Prop} (h : AM.aOp E ops sz Qp j K (s.upd d z)) : AM.aOp E ops sz Qp j (fun s' => YA E ops sz i s' d z ∧ K (s'.upd d z)) s := by
  obtain ⟨a1, a2, a3⟩ := Oper.apart_spec hap
  obtain ⟨p', c, fr, o, r, h1, h2, h3, h4, h5, h6, h7, h8⟩ := hy
  obtain rfl : p' = p := by rw [hi] at h1; exact (Option.some.inj h1).symm
  obtain ⟨q', c', fr', o', res, k1, k2, k3, k4, k5⟩ := h
  obtain rfl : q' = q := by rw [hj] at k1; exact (Option.some.inj k1).symm
  rw [hs] at k3
  cases res with
  | inr x => exact absurd k3 estep_pan
  | inl r' =>
    obtain ⟨k6, k7⟩ := k4 r' rfl
    obtain ⟨z', e1, e2, e3, e4⟩ := estep_pure k3 k6
    have hfr : ∀ t ∈ q'.looksAt ops, getS fr t = getS fr' t := by
      intro t ht
      rw [k2, h3]
      simp only [AS.upd, updG]
      rw [if_neg fun e => a1 t (hd.trans e) ht]
    obtain ⟨r2, f1, f2, f3, f4, f5⟩ := e4 fr hfr
    refine ⟨q', c', fr, o', .inl r2, hj, h3, by rw [hs]; exact f1, fun r3 e => ?_, fun c' v e => by cases e⟩
    cases e
    have hg2 : getS r2.fr = updG s.g q'.dst z' := by rw [f3, getS_putD', h3]
    obtain ⟨zz, g1, g2, g3, g4⟩ := estep_pure h4 h5
    have hfr2 : ∀ t ∈ p'.looksAt ops, getS r2.fr t = getS fr t := by
      intro t ht
      rw [hg2, h3]
      simp only [updG]
      rw [if_neg fun e => a3 t e ht]
    obtain ⟨r4, l1, l2, l3, l4, l5⟩ := g4 r2.fr hfr2
    refine ⟨f2, ⟨p', c, r2.fr, o, r4, hi, hd, rfl, ?_, l2, ?_, l4.trans f4.symm, l5.trans f5.symm⟩, ?_⟩
    · rw [f4, f5]; exact l1
    · have hz : putD fr d zz = putD fr d z := by rw [← h6, g1, hd]
      rw [l3, hd]
      cases d with
      | none => rfl
      | some d =>
        have : getS (putD fr (some d) zz) d = getS (putD fr (some d) z) d := by rw [hz]
        rw [getS_putD, getS_putD] at this
        simp at this
        rw [this]
    · have : (⟨getS r'.fr, r'.obs, r'.nt⟩ : AS) = (AS.upd ⟨getS r2.fr, r2.obs, r2.nt⟩ d z) := by
        simp only [AS.upd, hg2]
        rw [e1, getS_putD', k2, e2, e3, f4, f5]
        simp only [AS.upd]
        rw [updG_comm s.g z' z fun t ht => a2 t (hd.trans ht)]
      rw [← this]
      exact k7

theorem firstA {i : Nat} {p : Oper} {d : Option Nat} {z : AVal} {C : List Nat} (hi : ops[i]? = some p) (hd : p.dst = d) (hsi : soleB ops.toList i = false)
    (hcl : ∀ j q, ops[j]? = some q → j ≠ i → (∀ e ∈ q.after, Region.binds .any e = true → e.on ∈ C) → j ∈ C) :
    ∀ (fuel : Nat) (listed : Array Bool) (s : AS), (∀ j, listed.getD j false = true → j ∈ C) →
      (∀ j ∈ C, listed.getD j true = false → ∀ q, ops[j]? = some q → soleB ops.toList j = false ∧ p.apart ops q = true) →
      i ∈ Region.ready .any ops listed → YA E ops sz i s d z → wpA E ops sz Qp Q fuel (listed.setIfInBounds i true) (s.upd d z) → wpA E ops sz Qp Q (fuel + 1) listed s := by
  intro fuel
  induction fuel with
  | zero =>
    intro listed s _ _ hr hy H
    refine ⟨fun h => (by rw [h] at hr; cases hr), fun j hj => ?_⟩
    by_cases hji : j = i
    · subst hji; exact hy.aOp hsi H
    · have := ready_mono hj hji
      rw [H.1] at this
      cases this
  | succ fuel ih =>
    intro listed s hsub hfree hr hy H
    refine ⟨fun h => (by rw [h] at hr; cases hr), fun j hj => ?_⟩
    by_cases hji : j = i
    · subst hji; exact hy.aOp hsi H
    · have h1 := H.2 j (ready_mono hj hji)
      obtain ⟨hjun, q, hq, hall⟩ := mem_ready.1 hj
      have hjC : j ∈ C := hcl j q hq hji fun e he hb => hsub _ (hall e he hb)
      obtain ⟨hsj, hap⟩ := hfree j hjC hjun q hq
      refine aOp_mono (fun s' h3 => ih (listed.setIfInBounds j true) s' ?_ ?_ (ready_mono hr (Ne.symm hji)) h3.1 ?_) (aOp_put hi hd hq hap hsj hy h1)
      · intro j' hj'
        by_cases hjj : j = j'
        · subst hjj; exact hjC
        · rw [getD_set_ne false hjj] at hj'; exact hsub j' hj'
      · intro j' hj' hun q' hq'
        by_cases hjj : j = j'
        · subst hjj; exact hfree j hj' hjun q' hq'
        · rw [getD_set_ne true hjj] at hun; exact hfree j' hj' hun q' hq'
      · rw [Array.setIfInBounds_comm _ _ hji]
        exact h3.2
end

/- ---------- the check of a region ---------- -/
def closB (k : Nat) (C : List Nat) : Nat → List Oper → Bool
  | _, [] => true
  | j, p :: r => (Nat.beq j k || (memN j C || !subN (afterL p) C)) && closB k C (j + 1) r
def freeB (ops : Array Oper) (all : List Oper) (k : Nat) (p : Oper) (C : List Nat) : Nat → List Oper → Bool
  | _, [] => true
  | j, q :: r => (!memN j C || (Nat.blt j k || (!soleB all j && p.apart ops q))) && freeB ops all k p C (j + 1) r
def regFrom (ops : Array Oper) (all : List Oper) : Nat → List Oper → Bool
  | _, [] => true
  | k, p :: r => (subN (afterL p) (upN k) && (closB k (beside all k) 0 all && freeB ops all k p (beside all k) 0 all)) && regFrom ops all (k + 1) r
def regB (ops : Array Oper) : Bool := regFrom ops ops.toList 0 ops.toList

theorem memN_iff {n : Nat} : ∀ {l : List Nat}, memN n l = true ↔ n ∈ l
  | [] => by simp [memN]
  | x :: r => by
    simp only [memN, Bool.or_eq_true, List.mem_cons, memN_iff (l := r)]
    constructor
    · rintro (h | h)
      · exact .inl (beq_yes h).symm
      · exact .inr h
    · rintro (h | h)
      · exact .inl (by subst h; simp)
      · exact .inr h
theorem subN_iff : ∀ {l C : List Nat}, subN l C = true ↔ ∀ x ∈ l, x ∈ C
  | [], C => by simp [subN]
  | x :: r, C => by simp [subN, memN_iff, subN_iff (l := r)]
theorem upN_iff {j : Nat} : ∀ {n : Nat}, j ∈ upN n ↔ j < n
  | 0 => by simp [upN]
  | n + 1 => by simp only [upN, List.mem_cons, upN_iff (n := n)]; omega
theorem afterL_iff {p : Oper} {C : List Nat} : subN (afterL p) C = true ↔ ∀ e ∈ p.after, Region.binds .any e = true → e.on ∈ C := by
  rw [subN_iff]
  simp only [afterL, List.mem_map, List.mem_filter]
  constructor
  · intro h e he hb
    exact h e.on ⟨e, ⟨by simpa using he, hb⟩, rfl⟩
  · rintro h x ⟨e, ⟨he, hb⟩, rfl⟩
    exact h e (by simpa using he) hb

theorem cloN_sub (k : Nat) : ∀ (l : List Oper) (j : Nat) (C : List Nat), ∀ x ∈ C, x ∈ cloN k j l C
  | [], _, _, x, h => h
  | p :: l, j, C, x, h => by
    simp only [cloN]
    split
    · exact cloN_sub k l _ _ x (by simp [h])
    · exact cloN_sub k l _ _ x h

theorem closB_spec {k : Nat} {C : List Nat} : ∀ (l : List Oper) (j : Nat), closB k C j l = true → ∀ i q, l[i]? = some q → j + i ≠ k → subN (afterL q) C = true → j + i ∈ C
  | [], _, _, i, q, h, _, _ => by simp at h
  | p :: l, j, h, i, q, hq, hne, hs => by
    simp only [closB, Bool.and_eq_true, Bool.or_eq_true] at h
    cases i with
    | zero =>
      simp only [List.getElem?_cons_zero, Option.some.injEq] at hq
      subst hq
      rcases h.1 with h1 | h1 | h1
      · exact absurd (beq_yes h1) (by simpa using hne)
      · simpa using memN_iff.1 h1
      · simp [hs] at h1
    | succ i =>
      have := closB_spec l (j + 1) h.2 i q (by simpa using hq) (by omega) hs
      rwa [show j + (i + 1) = j + 1 + i from by omega]

theorem freeB_spec {ops : Array Oper} {all : List Oper} {k : Nat} {p : Oper} {C : List Nat} : ∀ (l : List Oper) (j : Nat), freeB ops all k p C j l = true → ∀ i q, l[i]? = some q → j + i ∈ C → k ≤ j + i →
    soleB all (j + i) = false ∧ p.apart ops q = true
  | [], _, _, i, q, h, _, _ => by simp at h
  | q' :: l, j, h, i, q, hq, hC, hk => by
    simp only [freeB, Bool.and_eq_true, Bool.or_eq_true] at h
    cases i with
    | zero =>
      simp only [List.getElem?_cons_zero, Option.some.injEq] at hq
      subst hq
      rcases h.1 with h1 | h1 | h1
      · have := memN_iff.2 (by simpa using hC); simp [this] at h1
      · rw [Nat.blt_eq] at h1; simp at hk; omega
      · simpa using h1
    | succ i =>
      have := freeB_spec l (j + 1) h.2 i q (by simpa using hq) (by rwa [show j + 1 + i = j + (i + 1) from by omega]) (by omega)
      rwa [show j + (i + 1) = j + 1 + i from by omega]

section
variable {E : Env} {ops : Array Oper} {sz : Nat} {Qp : AVal → List AObj → Nat → Prop} {Q : AS → Prop}

theorem lexA : ∀ (l : List Oper) (k : Nat) (listed : Array Bool) (c : List Prop) (fr : List (Nat × AVal)) (obs : List AObj) (nt : Nat) (o : List Ora) (res : SR ⊕ (List Prop × AVal × List AObj × Nat)),
    l = ops.toList.drop k → (∀ j, j < ops.size → listed[j]? = some (decide (j < k))) → listed.size = ops.size → regFrom ops ops.toList k l = true → eops E true ops.toList sz k l c fr obs nt o = some res →
    (∀ r, res = .inl r → All r.c → Q ⟨getS r.fr, r.obs, r.nt⟩ → wpA E ops sz Qp Q l.length listed ⟨getS fr, obs, nt⟩) ∧
    (∀ c' v obs' nt', res = .inr (c', v, obs', nt') → All c' → Qp v obs' nt' → wpA E ops sz Qp Q l.length listed ⟨getS fr, obs, nt⟩)
  | [], k, listed, c, fr, obs, nt, o, res, hl, hlist, hsz, hB, h => by
    simp only [eops, Option.some.injEq] at h
    subst h
    refine ⟨fun r e hc hq => ?_, fun c' v obs' nt' e => by cases e⟩
    cases e
    refine ⟨?_, hq⟩
    have hk : ops.size ≤ k := by
      have := congrArg List.length hl
      simp at this
      omega
    refine List.eq_nil_iff_forall_not_mem.2 fun j hj => ?_
    obtain ⟨h0, q, hq, _⟩ := mem_ready.1 hj
    have hlt := (Array.getElem?_eq_some_iff.1 hq).1
    rw [Array.getD_eq_getD_getElem?, hlist j hlt] at h0
    simp at h0
    omega
  | p :: l, k, listed, c, fr, obs, nt, o, res, hl, hlist, hsz, hB, h => by
    have hkp : ops[k]? = some p := by
      have : (ops.toList.drop k)[0]? = some p := by rw [← hl]; rfl
      simpa using this
    have hklt : k < ops.size := (Array.getElem?_eq_some_iff.1 hkp).1
    have hl' : l = ops.toList.drop (k + 1) := by
      rw [← List.drop_drop, ← hl]; rfl
    simp only [regFrom, Bool.and_eq_true] at hB
    obtain ⟨⟨b1, b2, b3⟩, b4⟩ := hB
    have hlt : ∀ j, listed.getD j false = true ↔ j < k := by
      intro j
      rw [Array.getD_eq_getD_getElem?]
      by_cases hj : j < ops.size
      · rw [hlist j hj]; simp
      · rw [Array.getElem?_eq_none (by omega)]
        simp
        omega
    have hun : ∀ j, j < ops.size → (listed.getD j true = false ↔ k ≤ j) := by
      intro j hj
      rw [Array.getD_eq_getD_getElem?, hlist j hj]
      simp
    have hkr : k ∈ Region.ready .any ops listed := by
      refine mem_ready.2 ⟨(hun k hklt).2 (Nat.le_refl _), p, hkp, fun e he hb => (hlt _).2 ?_⟩
      exact upN_iff.1 ((afterL_iff.1 b1) e he hb)
    have hcl : ∀ j q, ops[j]? = some q → j ≠ k → (∀ e ∈ q.after, Region.binds .any e = true → e.on ∈ beside ops.toList k) → j ∈ beside ops.toList k := by
      intro j q hq hne he
      simpa using closB_spec ops.toList 0 b2 j q (by simpa using hq) (by simpa using hne) (afterL_iff.2 he)
    have hsub : ∀ j, j < k → j ∈ beside ops.toList k := fun j hj => cloN_sub k _ _ _ j (upN_iff.2 hj)
    have hlist' : ∀ j, j < ops.size → (listed.setIfInBounds k true)[j]? = some (decide (j < k + 1)) := by
      intro j hj
      by_cases hjk : k = j
      · subst hjk
        rw [Array.getElem?_setIfInBounds_self_of_lt (by omega)]
        simp
      · rw [Array.getElem?_setIfInBounds_ne hjk, hlist j hj]
        congr 1
        exact decide_eq_decide.2 (by omega)
    have hsz' : (listed.setIfInBounds k true).size = ops.size := by simpa using hsz
    simp only [eops, Bool.true_and] at h
    split at h
    · cases h
    · rename_i s he
      have ih := lexA l (k + 1) (listed.setIfInBounds k true) s.c s.fr s.obs s.nt s.o res hl' hlist' hsz' b4 h
      have conds := eops_conds l _ _ _ _ _ _ _ h
      have main : All s.c → wpA E ops sz Qp Q l.length (listed.setIfInBounds k true) ⟨getS s.fr, s.obs, s.nt⟩ → wpA E ops sz Qp Q (l.length + 1) listed ⟨getS fr, obs, nt⟩ := by
        intro hc hw
        cases hnew : subN (beside ops.toList k) (upN k) with
        | true =>
          refine ⟨fun h => (by rw [h] at hkr; cases hkr), fun j hj => ?_⟩
          have hjk : j = k := by
            refine Decidable.byContradiction fun hne => ?_
            obtain ⟨h0, q, hq, hall⟩ := mem_ready.1 hj
            have hjC := hcl j q hq hne fun e he hb => hsub _ ((hlt _).1 (hall e he hb))
            have h1 := upN_iff.1 (subN_iff.1 hnew j hjC)
            have h2 := (hun j (Array.getElem?_eq_some_iff.1 hq).1).1 h0
            omega
          subst hjk
          exact ⟨p, c, fr, o, .inl s, hkp, rfl, by rw [← hl']; exact he, fun r e => by cases e; exact ⟨hc, hw⟩, fun c' v e => by cases e⟩
        | false =>
          have hsole : soleB ops.toList k = false := by simp [soleB, hnew]
          rw [hsole] at he
          obtain ⟨z, e1, e2, e3, _⟩ := estep_pure he hc
          refine firstA hkp rfl hsole hcl l.length listed _ (fun j hj => hsub j ((hlt j).1 hj)) (fun j hj hu q hq => ?_) hkr ⟨p, c, fr, o, s, hkp, rfl, rfl, by rw [← hl']; exact he, hc, e1, e2, e3⟩ ?_
          · have := freeB_spec ops.toList 0 b3 j q (by simpa using hq) (by simpa using hj) (by simpa using (hun j (Array.getElem?_eq_some_iff.1 hq).1).1 hu)
            simpa using this
          · have : (AS.upd ⟨getS fr, obs, nt⟩ p.dst z) = ⟨getS s.fr, s.obs, s.nt⟩ := by
              simp only [AS.upd]
              rw [e1, e2, e3, getS_putD']
            rw [this]
            exact hw
      exact ⟨fun r e hc hq => main (conds.1 r e hc) (ih.1 r e hc hq), fun c' v obs' nt' e hc hq => main (conds.2 _ e hc) (ih.2 c' v obs' nt' e hc hq)⟩
    · rename_i c1 v1 he
      cases h
      refine ⟨fun r e => (by cases e), fun c' v obs' nt' e hc hq => ?_⟩
      cases e
      refine ⟨fun h => (by rw [h] at hkr; cases hkr), fun j hj => ?_⟩
      cases hnew : soleB ops.toList k with
      | false => rw [hnew] at he; exact absurd he estep_pan
      | true =>
        have hjk : j = k := by
          refine Decidable.byContradiction fun hne => ?_
          obtain ⟨h0, q, hq, hall⟩ := mem_ready.1 hj
          have hjC := hcl j q hq hne fun e he hb => hsub _ ((hlt _).1 (hall e he hb))
          simp only [soleB, Bool.and_eq_true] at hnew
          have h1 := upN_iff.1 (subN_iff.1 hnew.1 j hjC)
          have h2 := (hun j (Array.getElem?_eq_some_iff.1 hq).1).1 h0
          omega
        subst hjk
        exact ⟨p, c, fr, o, .inr (c1, v1), hkp, rfl, by rw [← hl']; exact he, fun r e => (by cases e), fun c' v e => (by cases e; exact ⟨hc, hq⟩)⟩
end
end Go.AM
