/-
  THE ENGINE, 20: a step of a region does what the evaluator says; a region in the order of the text. Over any program.
-/
import Derived.Test.YtgjcojagbgdpnaaEng19
namespace Go.AM
open Go.RowKit

/-- the state that the evaluator has in hand -/
def St (M0 : Imm) (ob0 : List Nat) (tk0 : List Tok) (w0 : World) (sz : Nat) (obs : List AObj) (nt : Nat) (g : Nat → AVal) (a : Act) (w : World) : Prop :=
  ∃ M ob tk, Ext M0 ob0 tk0 w0 M ob tk w ∧ Mem M ob tk obs w ∧ tk.length = nt ∧ (∀ t, Rep M ob tk (a.tmps.getD t undef) (g t)) ∧ a.tmps.size = sz ∧ a.defers = []

def PanSt (M0 : Imm) (ob0 : List Nat) (tk0 : List Tok) (w0 : World) (obs : List AObj) (nt : Nat) (v : AVal) (ch : List PanicEntry) (w : World) : Prop :=
  ∃ M ob tk, Ext M0 ob0 tk0 w0 M ob tk w ∧ Mem M ob tk obs w ∧ tk.length = nt ∧ EndRep M ob tk (.panicked ch) (.pan v)

def putD (fr : List (Nat × AVal)) : Option Nat → AVal → List (Nat × AVal)
  | none, _ => fr
  | some d, v => putS fr d v

theorem wr_spec {rest : List Oper} {n : Nat} {d : Option Nat} {sz : Nat} {c : List Prop} {fr : List (Nat × AVal)} {obs : List AObj} {nt : Nat} {v : AVal} {o : List Ora} {r : SR}
    (h : wr rest n d sz c fr obs nt v o = some r) (hc : All r.c) : All c ∧ r.obs = obs ∧ r.nt = nt ∧ (∀ d', d = some d' → d' < sz) ∧ r.fr = putD fr d v := by
  unfold wr at h
  cases d with
  | none => cases h; exact ⟨hc, rfl, rfl, fun d' h => by simp at h, rfl⟩
  | some d =>
    dsimp only at h
    obtain ⟨h1, h2⟩ := cond_some h
    have hlt : ∀ d', some d = some d' → d' < sz := fun d' e => by cases e; simpa [Nat.blt_eq] using h1
    cases hg : isGuard n rest with
    | false => rw [hg] at h2; cases h2; exact ⟨hc, rfl, rfl, hlt, rfl⟩
    | true =>
      rw [hg] at h2
      simp only [cond_true] at h2
      split at h2
      · cases h2
        obtain ⟨h3, h4⟩ := hc
        subst h3
        exact ⟨h4, rfl, rfl, hlt, rfl⟩
      · cases h2
        obtain ⟨h3, h4⟩ := hc
        subst h3
        exact ⟨h4, rfl, rfl, hlt, rfl⟩
      · cases h2

theorem getS_putD (fr : List (Nat × AVal)) (d : Option Nat) (v : AVal) (t : Nat) : getS (putD fr d v) t = if d = some t then v else getS fr t := by
  cases d with
  | none => simp [putD]
  | some d =>
    simp only [putD, getS_putS, Option.some.injEq]
    by_cases h : t = d
    · subst h; simp
    · rw [if_neg h, if_neg (fun e => h e.symm)]

theorem getS_untF (τ : Nat) (fr : List (Nat × AVal)) (t : Nat) : getS (untF τ fr) t = untS τ (getS fr t) := by
  induction fr with
  | nil => rfl
  | cons p r ih =>
    obtain ⟨i, v⟩ := p
    simp only [untF, getS]
    cases Nat.beq i t
    · exact ih
    · rfl

theorem wr_conds {rest : List Oper} {n : Nat} {d : Option Nat} {sz : Nat} {c1 c : List Prop} {fr : List (Nat × AVal)} {obs : List AObj} {nt : Nat} {v : AVal} {o : List Ora} {res : SR ⊕ (List Prop × AVal)}
    (h : (wr rest n d sz (revApp c1 c) fr obs nt v o).map .inl = some res) : (∀ r, res = .inl r → All r.c → All c) ∧ (∀ x, res = .inr x → All x.1 → All c) := by
  obtain ⟨r, hr, rfl⟩ := Option.map_eq_some_iff.1 h
  exact ⟨fun r' e hc => by cases e; exact ((All_revApp _ _).1 (wr_spec hr hc).1).2, fun x e => by cases e⟩

theorem estep_conds {E : Env} {dr : Bool} {all rest : List Oper} {n sz : Nat} {p : Oper} {c : List Prop} {fr : List (Nat × AVal)} {obs : List AObj} {nt : Nat} {o : List Ora} {res : SR ⊕ (List Prop × AVal)}
    (h : estep E dr all rest n sz p c fr obs nt o = some res) : (∀ r, res = .inl r → All r.c → All c) ∧ (∀ x, res = .inr x → All x.1 → All c) := by
  unfold estep at h
  split at h
  · cases h
  · exact wr_conds (c1 := []) h
  · split at h
    · cases h
    · exact wr_conds h
    · cases dr with
      | true => cases h
      | false => exact wr_conds h
    · cases dr with
      | true => cases h
      | false => exact wr_conds h
    · cases dr with
      | true => cases h
      | false => exact wr_conds h
    · cases dr with
      | true => cases h
      | false => exact wr_conds h
    · cases dr with
      | true => cases h
      | false =>
        simp only [cond_false, Option.some.injEq] at h
        subst h
        exact ⟨fun r e => (by cases e), fun x e hc => by cases e; exact ((All_revApp _ _).1 hc).2⟩

theorem eops_conds {E : Env} {dr : Bool} {all : List Oper} {sz : Nat} : ∀ (l : List Oper) (n : Nat) (c : List Prop) (fr : List (Nat × AVal)) (obs : List AObj) (nt : Nat) (o : List Ora) (res : SR ⊕ (List Prop × AVal × List AObj × Nat)),
    eops E dr all sz n l c fr obs nt o = some res → (∀ r, res = .inl r → All r.c → All c) ∧ (∀ x, res = .inr x → All x.1 → All c)
  | [], n, c, fr, obs, nt, o, res, h => by
    simp only [eops, Option.some.injEq] at h
    subst h
    exact ⟨fun r e hc => by cases e; exact hc, fun x e => by cases e⟩
  | p :: l, n, c, fr, obs, nt, o, res, h => by
    simp only [eops] at h
    split at h
    · cases h
    · rename_i s he
      have h1 := estep_conds he
      have h2 := eops_conds l _ _ _ _ _ _ _ h
      exact ⟨fun r e hc => h1.1 s rfl (h2.1 r e hc), fun x e hc => h1.1 s rfl (h2.2 x e hc)⟩
    · rename_i c1 v1 he
      cases h
      exact ⟨fun r e => (by cases e), fun x e hc => by cases e; exact (estep_conds he).2 _ rfl hc⟩

section
variable {M0 : Imm} {ob0 : List Nat} {tk0 : List Tok} {w0 : World} {E : Env} {obs : List AObj} {nt sz : Nat} {w : World} {a : Act} {fr : List (Nat × AVal)}

theorem fr_put {M : Imm} {ob : List Nat} {tk : List Tok} (hf : ∀ t, Rep M ob tk (a.tmps.getD t undef) (getS fr t)) {u : Value} {v : AVal} (hr : Rep M ob tk u v) {d : Option Nat} (hd : ∀ d', d = some d' → d' < a.tmps.size) :
    ∀ t, Rep M ob tk ((a.put d u).tmps.getD t undef) (getS (putD fr d v) t) := by
  intro t
  rw [getS_putD]
  cases d with
  | none => rw [if_neg (by simp)]; exact hf t
  | some d =>
    have hlt := hd d rfl
    by_cases h : d = t
    · subst h
      simp only [if_true, Act.put]
      rw [Array.getD_eq_getD_getElem?, Array.getElem?_setIfInBounds_self_of_lt hlt]
      exact hr
    · rw [if_neg (by simpa using h)]
      simp only [Act.put]
      rw [Array.getD_eq_getD_getElem?, Array.getElem?_setIfInBounds_ne h, ← Array.getD_eq_getD_getElem?]
      exact hf t

theorem put_size (a : Act) (d : Option Nat) (u : Value) : (a.put d u).tmps.size = a.tmps.size ∧ (a.put d u).defers = a.defers := by
  cases d <;> simp [Act.put]

def G (P : Program) (ops : Array Oper) (p : Oper) (a : Act) (w : World) (next : Act → World → Prop) (Q : Exit → Act → World → Prop) : Prop :=
  if Region.wanted p (yielded ops a.tmps) then p.wp P a w next Q else next (a.put p.dst undef) w

theorem wanted_spec {ops : Array Oper} {p : Oper} {M : Imm} {ob : List Nat} {tk : List Tok} (hf : ∀ t, Rep M ob tk (a.tmps.getD t undef) (getS fr t)) {b : Bool}
    (h : wantedE ops.toList fr p.guard = some b) : Region.wanted p (yielded ops a.tmps) = b := by
  unfold wantedE at h
  unfold Region.wanted
  cases hg : p.guard with
  | none => rw [hg] at h; simpa using h
  | some gw =>
    obtain ⟨j, want⟩ := gw
    rw [hg] at h
    dsimp only at h ⊢
    split at h
    · rename_i q hq
      have hq' : ops[j]? = some q := by simpa using nth_some hq
      split at h
      · rename_i d hd
        have hfd := hf d
        have hy : ∀ u, a.tmps.getD d undef = u → yielded ops a.tmps j = match u with | .bool b => some b | _ => none := by
          intro u hu
          unfold yielded
          rw [hq']
          simp only [Option.bind_some, hd]
          rw [Array.getD_eq_getD_getElem?] at hu
          cases ht : a.tmps[d]? with
          | none => rw [ht] at hu; simp at hu; subst hu; rfl
          | some x => rw [ht] at hu; simp at hu; subst hu; cases x <;> rfl
        split at h
        · rename_i b' hb
          rw [hb] at hfd
          rw [hy _ hfd.bool_inv]
          cases h
          simp
        · rename_i hb
          rw [hb] at hfd
          obtain ⟨us, hu, hl, _⟩ := hfd.tup_inv
          rw [hy _ hu]
          cases h
          simp
        · cases h
      · cases h
    · cases h

theorem estep_sound (hE : EnvOK E) {ops : Array Oper} {dr : Bool} {rest : List Oper} {n : Nat} {p : Oper} {c : List Prop} {o : List Ora} {res : SR ⊕ (List Prop × AVal)}
    (hs : St M0 ob0 tk0 w0 sz obs nt (getS fr) a w) (h : estep E dr ops.toList rest n sz p c fr obs nt o = some res) :
    (∀ r, res = .inl r → All r.c → All c ∧ ∀ next Q, (∀ a' w', St M0 ob0 tk0 w0 sz r.obs r.nt (getS r.fr) a' w' → next a' w') → G E.P ops p a w next Q) ∧
    (∀ c' v, res = .inr (c', v) → All c' → All c ∧ ∀ next Q, (∀ ch w', PanSt M0 ob0 tk0 w0 obs nt v ch w' → Q (.panic ch) a w') → G E.P ops p a w next Q) := by
  obtain ⟨M, ob, tk, hx, hm, hnt, hf, hsz, hd⟩ := hs
  unfold estep at h
  cases hw : wantedE ops.toList fr p.guard with
  | none => rw [hw] at h; cases h
  | some b =>
    have hwant := wanted_spec (ops := ops) (p := p) hf hw
    rw [hw] at h
    cases b with
    | false =>
      dsimp only at h
      obtain ⟨r, hr, rfl⟩ := Option.map_eq_some_iff.1 h
      refine ⟨fun r' e hc => ?_, fun c' v e => by cases e⟩
      cases e
      obtain ⟨h1, h2, h3, h4, h5⟩ := wr_spec hr hc
      refine ⟨h1, fun next Q hn => ?_⟩
      unfold G
      rw [if_neg (by rw [hwant]; simp)]
      refine hn _ _ ⟨M, ob, tk, hx, h2 ▸ hm, h3 ▸ hnt, ?_, (put_size _ _ _).1.trans hsz, (put_size _ _ _).2.trans hd⟩
      rw [h5]
      exact fr_put hf (.tup [] [] rfl fun i v a h => by simp at h) fun d' e => hsz ▸ h4 d' e
    | true =>
      dsimp only at h
      cases he : eop E dr fr obs nt p.op p.type o with
      | none => rw [he] at h; cases h
      | some r =>
        rw [he] at h
        have key : ∀ {α : Prop}, (All r.conds → α) → (All r.conds → α) := fun h => h
        have run : All r.conds → OpRuns E.P p a.eval w fun e w' => ∃ M' ob' tk', OpOK M ob tk obs nt w r e w' M' ob' tk' := by
          intro hc
          obtain ⟨dd, oo, tt, pp, aa, gg⟩ := p
          exact eop_sound hE hm hnt hf he hc dd pp aa gg
        have fin : ∀ (c1 : List Prop) (v : AVal) (obs' : List AObj) (nt' : Nat) (fr' : List (Nat × AVal)) (o' : List Ora), r.conds = c1 → r.res = .ret v → r.obs obs = obs' → r.nt nt = nt' →
            (∀ M' ob' tk', r.but M ob tk M' ob' tk' → Ext M ob tk w M' ob' tk' w → True) →
            (∀ e w' M' ob' tk', OpOK M ob tk obs nt w r e w' M' ob' tk' → ∀ t, Rep M' ob' tk' (a.tmps.getD t undef) (getS fr' t)) →
            (wr rest n p.dst sz (revApp c1 c) fr' obs' nt' v o').map Sum.inl = some res →
            (∀ r, res = .inl r → All r.c → All c ∧ ∀ next Q, (∀ a' w', St M0 ob0 tk0 w0 sz r.obs r.nt (getS r.fr) a' w' → next a' w') → G E.P ops p a w next Q) ∧
            (∀ c' v, res = .inr (c', v) → All c' → All c ∧ ∀ next Q, (∀ ch w', PanSt M0 ob0 tk0 w0 obs nt v ch w' → Q (.panic ch) a w') → G E.P ops p a w next Q) := by
          intro c1 v obs' nt' fr' o' e1 e2 e3 e4 _ hfr hwr
          obtain ⟨r', hr, rfl⟩ := Option.map_eq_some_iff.1 hwr
          refine ⟨fun r'' e hc => ?_, fun c' v e => by cases e⟩
          cases e
          obtain ⟨h1, h2, h3, h4, h5⟩ := wr_spec hr hc
          obtain ⟨h6, h7⟩ := (All_revApp _ _).1 h1
          refine ⟨h7, fun next Q hn => ?_⟩
          unfold G
          rw [if_pos hwant]
          refine (run (e1 ▸ h6)).wp ?_ ?_
          · intro u w' ⟨M', ob', tk', ok⟩
            have hres := ok.res
            rw [e2] at hres
            refine hn _ _ ⟨M', ob', tk', hx.trans ok.ext, ?_, ?_, ?_, (put_size _ _ _).1.trans hsz, (put_size _ _ _).2.trans hd⟩
            · rw [h2, ← e3]; exact ok.mem
            · rw [h3, ← e4]; exact ok.nt
            · rw [h5]; exact fr_put (hfr _ _ _ _ _ ok) hres fun d' e => hsz ▸ h4 d' e
          · intro ch w' ⟨M', ob', tk', ok⟩
            have hres := ok.res
            rw [e2] at hres
            exact hres.elim
        have mono : (∀ M' ob' tk', r.but M ob tk M' ob' tk' → ∀ (σ : Nat) t, tk[σ]? = some t → tk'[σ]? = some t) → ∀ e w' M' ob' tk', OpOK M ob tk obs nt w r e w' M' ob' tk' → ∀ t, Rep M' ob' tk' (a.tmps.getD t undef) (getS fr t) :=
          fun hb e w' M' ob' tk' ok t => (hf t).mono ok.ext.imm ok.ext.obj (hb _ _ _ ok.tok)
        cases r with
        | val c1 v o' => exact fin c1 v obs nt fr o' rfl rfl rfl rfl (fun _ _ _ _ _ => trivial) (mono fun _ _ _ h => h) h
        | new c1 v x o' =>
          cases dr with
          | true => cases h
          | false => exact fin c1 v _ nt fr o' rfl rfl rfl rfl (fun _ _ _ _ _ => trivial) (mono fun _ _ _ h => h) h
        | upd c1 k x o' =>
          cases dr with
          | true => cases h
          | false => exact fin c1 .undef _ nt fr o' rfl rfl rfl rfl (fun _ _ _ _ _ => trivial) (mono fun _ _ _ h => h) h
        | tkn c1 v m o' =>
          cases dr with
          | true => cases h
          | false => exact fin c1 v obs _ fr o' rfl rfl rfl rfl (fun _ _ _ _ _ => trivial) (mono fun _ _ _ h => h) h
        | tkc c1 τ v o' =>
          cases dr with
          | true => cases h
          | false =>
            refine fin c1 v _ nt (untF τ fr) o' rfl rfl rfl rfl (fun _ _ _ _ _ => trivial) (fun e w' M' ob' tk' ok t => ?_) h
            rw [getS_untF]
            exact (hf t).untS ok.tok
        | pan c1 v =>
          cases dr with
          | true => cases h
          | false =>
            simp only [cond_false, Option.some.injEq] at h
            subst h
            refine ⟨fun r e => (by cases e), fun c' v' e hc => ?_⟩
            cases e
            obtain ⟨h6, h7⟩ := (All_revApp _ _).1 hc
            refine ⟨h7, fun next Q hq => ?_⟩
            unfold G
            rw [if_pos hwant]
            refine (run h6).wp ?_ ?_
            · intro u w' ⟨M', ob', tk', ok⟩
              exact (ok.res : False).elim
            · intro ch w' ⟨M', ob', tk', ok⟩
              exact hq ch w' ⟨M', ob', tk', hx.trans ok.ext, ok.mem, ok.nt, ok.res⟩

theorem eops_text (hE : EnvOK E) {ops : Array Oper} {Q : Exit → Act → World → Prop} : ∀ (l : List Oper) (n : Nat) (c : List Prop) (fr : List (Nat × AVal)) (obs : List AObj) (nt : Nat) (o : List Ora) (a : Act) (w : World) (res : SR ⊕ (List Prop × AVal × List AObj × Nat)),
    eops E false ops.toList sz n l c fr obs nt o = some res → St M0 ob0 tk0 w0 sz obs nt (getS fr) a w →
    (∀ r, res = .inl r → All r.c → (∀ a' w', St M0 ob0 tk0 w0 sz r.obs r.nt (getS r.fr) a' w' → Q .normal a' w') → wpList E.P ops Q l a w) ∧
    (∀ c' v obs' nt', res = .inr (c', v, obs', nt') → All c' → (∀ ch a' w', a'.defers = [] → PanSt M0 ob0 tk0 w0 obs' nt' v ch w' → Q (.panic ch) a' w') → wpList E.P ops Q l a w)
  | [], n, c, fr, obs, nt, o, a, w, res, h, hs => by
    simp only [eops, Option.some.injEq] at h
    subst h
    exact ⟨fun r e hc hn => by cases e; exact hn _ _ hs, fun c' v obs' nt' e => by cases e⟩
  | p :: l, n, c, fr, obs, nt, o, a, w, res, h, hs => by
    simp only [eops, Bool.false_and] at h
    have wk : ∀ {next : Act → World → Prop}, G E.P ops p a w next Q → (∀ a w, next a w → wpList E.P ops Q l a w) → wpList E.P ops Q (p :: l) a w := by
      intro next hg hn
      unfold wpList
      unfold G at hg
      split
      · rename_i hw; rw [if_pos hw] at hg; exact .inl (Oper.wp_mono hn hg)
      · rename_i hw; rw [if_neg hw] at hg; exact hn _ _ hg
    split at h
    · cases h
    · rename_i s he
      have h1 := (estep_sound hE hs he).1 s rfl
      have h2 := eops_conds l _ _ _ _ _ _ _ h
      refine ⟨fun r e hc hn => ?_, fun c' v obs' nt' e hc hn => ?_⟩
      · refine wk ((h1 (h2.1 r e hc)).2 (fun a' w' => St M0 ob0 tk0 w0 sz s.obs s.nt (getS s.fr) a' w') Q fun a' w' h => h) fun a' w' hs' => ?_
        exact (eops_text hE l _ _ _ _ _ _ a' w' res h hs').1 r e hc hn
      · refine wk ((h1 (h2.2 _ e hc)).2 (fun a' w' => St M0 ob0 tk0 w0 sz s.obs s.nt (getS s.fr) a' w') Q fun a' w' h => h) fun a' w' hs' => ?_
        exact (eops_text hE l _ _ _ _ _ _ a' w' res h hs').2 c' v obs' nt' e hc hn
    · rename_i c1 v1 he
      cases h
      obtain ⟨M, ob, tk, hx, hm, hnt, hf, hsz, hd⟩ := id hs
      refine ⟨fun r e => (by cases e), fun c' v obs' nt' e hc hn => ?_⟩
      cases e
      exact wk (((estep_sound hE hs he).2 _ _ rfl hc).2 (fun _ _ => False) Q fun ch w' hp => hn ch a w' hd hp) fun _ _ h => h.elim
end
end Go.AM
