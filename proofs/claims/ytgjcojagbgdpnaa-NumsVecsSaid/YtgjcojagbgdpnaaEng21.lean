/-
  THE ENGINE, 21: an operation looks at nothing but its operands. Over any program.
-/
import Derived.Test.YtgjcojagbgdpnaaEng20
namespace Go.AM
open Go.RowKit

theorem evO_congr {fr fr' : List (Nat × AVal)} : ∀ (l : List Operand), (∀ x ∈ l, ev fr' x = ev fr x) → evO fr' l = evO fr l
  | [], _ => rfl
  | x :: l, h => by simp only [evO]; rw [h x (by simp), evO_congr l fun y hy => h y (by simp [hy])]

theorem evL_congr {fr fr' : List (Nat × AVal)} : ∀ (l : List (Nat × Operand)), (∀ p ∈ l, ev fr' p.2 = ev fr p.2) → evL fr' l = evL fr l
  | [], _ => rfl
  | (n, x) :: l, h => by simp only [evL]; rw [h (n, x) (by simp), evL_congr l fun y hy => h y (by simp [hy])]

theorem optmap_congr {fr fr' : List (Nat × AVal)} (l : Option Operand) (h : ∀ x, l = some x → ev fr' x = ev fr x) : l.map (ev fr') = l.map (ev fr) := by
  cases l with
  | none => rfl
  | some x => simp [h x rfl]

theorem eop_congr (E : Env) (dr : Bool) {fr fr' : List (Nat × AVal)} (obs : List AObj) (nt : Nat) (op : Op) (ty : TypeId) (o : List Ora) (h : ∀ x ∈ op.operands.toList, ev fr' x = ev fr x) :
    eop E dr fr' obs nt op ty o = eop E dr fr obs nt op ty o := by
  cases op
  case call c =>
    obtain ⟨callee, args, tys⟩ := c
    have ha : ∀ x ∈ args.toList, ev fr' x = ev fr x := fun x hx => h x (by
      simp only [Op.operands, Call.operands]
      cases callee <;> simp [hx] <;> simp_all)
    have hl := evO_congr args.toList ha
    cases callee with
    | value f =>
      have hf : ev fr' f = ev fr f := h f (by simp [Op.operands, Call.operands])
      simp only [eop, hl, hf]
    | invoke r n =>
      have hf : ev fr' r = ev fr r := h r (by simp [Op.operands, Call.operands])
      simp only [eop, hl, hf]
    | builtin b =>
      simp only [eop]
      split
      · rename_i h1 h2; rw [ha _ (by rw [h1]; simp)]
      · rename_i h1; rw [ha _ (by rw [h1]; simp), ha _ (by rw [h1]; simp)]
      · rename_i h1; rw [ha _ (by rw [h1]; simp), ha _ (by rw [h1]; simp)]
      · rename_i h1 h2; rw [ha _ (by rw [h1]; simp), ha _ (by rw [h1]; simp)]
      · rfl
  case slice t x lo hi mx =>
    simp only [eop]
    rw [h x (by simp [Op.operands]), optmap_congr lo fun y hy => h y (by simp [Op.operands, hy]), optmap_congr hi fun y hy => h y (by simp [Op.operands, hy]), optmap_congr mx fun y hy => h y (by simp [Op.operands, hy])]
  case makeFunc fn fs cs =>
    simp only [eop]
    rw [evO_congr fs.toList fun y hy => h y (by simp [Op.operands] at hy ⊢; exact .inl hy), evO_congr cs.toList fun y hy => h y (by simp [Op.operands] at hy ⊢; exact .inr hy)]
  case build t ps =>
    simp only [eop]
    rw [evL_congr ps.toList fun p hp => h p.2 (by simp [Op.operands] at hp ⊢; exact ⟨p.1, hp⟩)]
  case buildSlice t n ps =>
    simp only [eop]
    rw [evL_congr ps.toList fun p hp => h p.2 (by simp [Op.operands] at hp ⊢; exact ⟨p.1, hp⟩)]
  all_goals first
    | rfl
    | (simp [Op.operands] at h; simp only [eop, h]; done)
    | (simp [Op.operands] at h; obtain ⟨h1, h2⟩ := h; simp only [eop, h1, h2]; done)
    | (simp [Op.operands] at h; obtain ⟨h1, h2, h3⟩ := h; simp only [eop, h1, h2, h3]; done)

theorem ev_congr {fr fr' : List (Nat × AVal)} {x : Operand} (h : ∀ t, x = .tmp t → getS fr' t = getS fr t) : ev fr' x = ev fr x := by
  cases x with
  | tmp t => exact h t rfl
  | _ => rfl

theorem wr_fr {rest : List Oper} {n : Nat} {d : Option Nat} {sz : Nat} {c : List Prop} {fr : List (Nat × AVal)} {obs : List AObj} {nt : Nat} {v : AVal} {o : List Ora} {r : SR}
    (h : wr rest n d sz c fr obs nt v o = some r) (fr' : List (Nat × AVal)) : ∃ r', wr rest n d sz c fr' obs nt v o = some r' ∧ r'.c = r.c := by
  unfold wr at h ⊢
  cases d with
  | none => cases h; exact ⟨_, rfl, rfl⟩
  | some d =>
    dsimp only at h ⊢
    cases hb : Nat.blt d sz with
    | false => rw [hb] at h; cases h
    | true =>
      rw [hb] at h
      simp only [cond_true] at h ⊢
      cases hg : isGuard n rest with
      | false => rw [hg] at h; cases h; exact ⟨_, rfl, rfl⟩
      | true =>
        rw [hg] at h
        simp only [cond_true] at h ⊢
        split at h
        · cases h; exact ⟨_, rfl, rfl⟩
        · cases h; exact ⟨_, rfl, rfl⟩
        · cases h

theorem estep_pan {E : Env} {all rest : List Oper} {n sz : Nat} {p : Oper} {c : List Prop} {fr : List (Nat × AVal)} {obs : List AObj} {nt : Nat} {o : List Ora} {x : List Prop × AVal} :
    estep E true all rest n sz p c fr obs nt o ≠ some (.inr x) := by
  intro h
  unfold estep at h
  split at h
  · cases h
  · obtain ⟨r, hr, e⟩ := Option.map_eq_some_iff.1 h; cases e
  · split at h
    · cases h
    · obtain ⟨r, hr, e⟩ := Option.map_eq_some_iff.1 h; cases e
    all_goals cases h

theorem estep_pure {E : Env} {ops : Array Oper} {rest : List Oper} {n sz : Nat} {p : Oper} {c : List Prop} {fr : List (Nat × AVal)} {obs : List AObj} {nt : Nat} {o : List Ora} {r : SR}
    (h : estep E true ops.toList rest n sz p c fr obs nt o = some (.inl r)) (hc : All r.c) :
    ∃ z, r.fr = putD fr p.dst z ∧ r.obs = obs ∧ r.nt = nt ∧ ∀ fr' : List (Nat × AVal), (∀ t ∈ p.looksAt ops, getS fr' t = getS fr t) →
      ∃ r', estep E true ops.toList rest n sz p c fr' obs nt o = some (.inl r') ∧ All r'.c ∧ r'.fr = putD fr' p.dst z ∧ r'.obs = obs ∧ r'.nt = nt := by
  have hwc : ∀ fr' : List (Nat × AVal), (∀ t ∈ p.looksAt ops, getS fr' t = getS fr t) → wantedE ops.toList fr' p.guard = wantedE ops.toList fr p.guard := by
    intro fr' hfr
    unfold wantedE
    cases hg : p.guard with
    | none => rfl
    | some gw =>
      obtain ⟨j, want⟩ := gw
      dsimp only
      cases hn : nth ops.toList j with
      | none => rfl
      | some q =>
        dsimp only
        cases hd : q.dst with
        | none => rfl
        | some d =>
          have hq : ops[j]? = some q := by simpa using nth_some hn
          dsimp only
          rw [hfr d (by simp [Oper.looksAt, hg, hq, hd])]
  have hoc : ∀ fr' : List (Nat × AVal), (∀ t ∈ p.looksAt ops, getS fr' t = getS fr t) → eop E true fr' obs nt p.op p.type o = eop E true fr obs nt p.op p.type o := by
    intro fr' hfr
    refine eop_congr E true obs nt p.op p.type o fun x hx => ev_congr fun t ht => hfr t ?_
    subst ht
    exact List.mem_append_left _ (List.mem_filterMap.2 ⟨.tmp t, hx, rfl⟩)
  have fin : ∀ (rest : List Oper) (c : List Prop) (v : AVal) (o' : List Ora), (wr rest n p.dst sz c fr obs nt v o').map (Sum.inl (β := List Prop × AVal)) = some (.inl r) →
      ∃ z, r.fr = putD fr p.dst z ∧ r.obs = obs ∧ r.nt = nt ∧ ∀ fr' : List (Nat × AVal), (∃ r', (wr rest n p.dst sz c fr' obs nt v o').map (Sum.inl (β := List Prop × AVal)) = some (.inl r') ∧ All r'.c ∧ r'.fr = putD fr' p.dst z ∧ r'.obs = obs ∧ r'.nt = nt) := by
    intro rest c v o' hw
    obtain ⟨r1, hr, e⟩ := Option.map_eq_some_iff.1 hw
    cases e
    obtain ⟨_, h2, h3, _, h5⟩ := wr_spec hr hc
    refine ⟨v, h5, h2, h3, fun fr' => ?_⟩
    obtain ⟨r', hr', hcc⟩ := wr_fr hr fr'
    obtain ⟨_, k2, k3, _, k5⟩ := wr_spec hr' (hcc ▸ hc)
    exact ⟨r', by rw [hr']; rfl, hcc ▸ hc, k5, k2, k3⟩
  unfold estep at h
  cases hw : wantedE ops.toList fr p.guard with
  | none => rw [hw] at h; cases h
  | some b =>
    rw [hw] at h
    cases b with
    | false =>
      obtain ⟨z, h1, h2, h3, h4⟩ := fin _ _ _ _ h
      refine ⟨z, h1, h2, h3, fun fr' hfr => ?_⟩
      unfold estep
      rw [hwc fr' hfr, hw]
      exact h4 fr'
    | true =>
      dsimp only at h
      cases he : eop E true fr obs nt p.op p.type o with
      | none => rw [he] at h; cases h
      | some r' =>
        rw [he] at h
        cases r' with
        | val c1 v o' =>
          obtain ⟨z, h1, h2, h3, h4⟩ := fin _ _ _ _ h
          refine ⟨z, h1, h2, h3, fun fr' hfr => ?_⟩
          unfold estep
          rw [hwc fr' hfr, hw, hoc fr' hfr, he]
          exact h4 fr'
        | _ => cases h
end Go.AM
