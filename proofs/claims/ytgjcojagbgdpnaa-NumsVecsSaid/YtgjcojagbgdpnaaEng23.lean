/-
  THE ENGINE, 23: the run does what the evaluator says. Over any program.
-/
import Derived.Test.YtgjcojagbgdpnaaEng22
namespace Go.AM
open Go.RowKit

section
variable {M0 : Imm} {ob0 : List Nat} {tk0 : List Tok} {w0 : World} {E : Env} {ops : Array Oper} {sz : Nat} {Qp : AVal → List AObj → Nat → Prop} {Q : AS → Prop} {Q' : Exit → Act → World → Prop}

theorem wpOp_of_aOp (hE : EnvOK E) (hp : ∀ v obs nt ch a w, Qp v obs nt → a.defers = [] → PanSt M0 ob0 tk0 w0 obs nt v ch w → Q' (.panic ch) a w) {i : Nat} {s : AS} {a : Act} {w : World} (hs : St M0 ob0 tk0 w0 sz s.obs s.nt s.g a w)
    {K : AS → Prop} {K' : Act → World → Prop} (hk : ∀ s a w, K s → St M0 ob0 tk0 w0 sz s.obs s.nt s.g a w → K' a w) (h : aOp E ops sz Qp i K s) : wpOp E.P ops Q' i K' a w := by
  obtain ⟨p, c, fr, o, res, h1, h2, h3, h4, h5⟩ := h
  unfold wpOp
  rw [h1]
  dsimp only
  have hd := hs
  obtain ⟨M, ob, tk, hx, hm, hnt, hf, hsz, hd⟩ := hd
  rw [← h2] at hs
  have main : G E.P ops p a w K' Q' := by
    cases res with
    | inl r =>
      obtain ⟨k1, k2⟩ := h4 r rfl
      exact ((estep_sound hE hs h3).1 r rfl k1).2 _ _ fun a' w' hs' => hk _ a' w' k2 hs'
    | inr x =>
      obtain ⟨c', v⟩ := x
      obtain ⟨k1, k2⟩ := h5 c' v rfl
      exact ((estep_sound hE hs h3).2 c' v rfl k1).2 _ _ fun ch w' hps => hp v _ _ ch a w' k2 hd hps
  unfold G at main
  split
  · rename_i hw; rw [if_pos hw] at main; exact .inl main
  · rename_i hw; rw [if_neg hw] at main; exact main

theorem wpAny_of_A (hE : EnvOK E) (hQ : ∀ s a w, Q s → St M0 ob0 tk0 w0 sz s.obs s.nt s.g a w → Q' .normal a w)
    (hp : ∀ v obs nt ch a w, Qp v obs nt → a.defers = [] → PanSt M0 ob0 tk0 w0 obs nt v ch w → Q' (.panic ch) a w) :
    ∀ (fuel : Nat) (listed : Array Bool) (s : AS) (a : Act) (w : World), wpA E ops sz Qp Q fuel listed s → St M0 ob0 tk0 w0 sz s.obs s.nt s.g a w → wpAny E.P .any ops Q' fuel listed a w
  | 0, _, _, _, _, h, hs => ⟨h.1, hQ _ _ _ h.2 hs⟩
  | fuel + 1, _, _, _, _, h, hs => ⟨fun h0 => hQ _ _ _ (h.1 h0) hs, fun i hi => wpOp_of_aOp hE hp hs (fun s' a' w' hk hs' => wpAny_of_A hE hQ hp fuel _ s' a' w' hk hs') (h.2 i hi)⟩

theorem St.draw {obs : List AObj} {nt : Nat} {g : Nat → AVal} {a : Act} {w : World} (h : St M0 ob0 tk0 w0 sz obs nt g a w) : St M0 ob0 tk0 w0 sz obs nt g a { w with drawn := w.drawn + 1 } := by
  obtain ⟨M, ob, tk, hx, hm, hnt, hf, hsz, hd⟩ := h
  exact ⟨M, ob, tk, ⟨hx.imm, hx.new, hx.obj, hx.os, hx.tape, hx.output, hx.size, hx.keep, hx.fresh, hx.tfresh⟩, hm.same (Nat.le_refl _) fun _ _ => rfl, hnt, hf, hsz, hd⟩

theorem region_sound (hE : EnvOK E) {id : Nat} {dr : Bool} (hB : dr = true → regB ops = true) {c : List Prop} {fr : List (Nat × AVal)} {obs : List AObj} {nt : Nat} {o : List Ora} {res : SR ⊕ (List Prop × AVal × List AObj × Nat)}
    {a : Act} {w : World} (h : eops E dr ops.toList sz 0 ops.toList c fr obs nt o = some res) (hs : St M0 ob0 tk0 w0 sz obs nt (getS fr) a w)
    (h1 : ∀ r, res = .inl r → All r.c ∧ ∀ a w, St M0 ob0 tk0 w0 sz r.obs r.nt (getS r.fr) a w → Q' .normal a w)
    (h2 : ∀ c' v obs' nt', res = .inr (c', v, obs', nt') → All c' ∧ ∀ ch a w, a.defers = [] → PanSt M0 ob0 tk0 w0 obs' nt' v ch w → Q' (.panic ch) a w) : (Code.region id ops dr).wp E.P Q' a w := by
  cases dr with
  | false =>
    refine wp_region_list ?_
    have := eops_text hE (Q := Q') ops.toList 0 c fr obs nt o a w res h hs
    cases res with
    | inl r => exact this.1 r rfl (h1 r rfl).1 (h1 r rfl).2
    | inr x => obtain ⟨c', v, obs', nt'⟩ := x; exact this.2 c' v obs' nt' rfl (h2 c' v obs' nt' rfl).1 (h2 c' v obs' nt' rfl).2
  | true =>
    refine wp_region_any hE.mix ?_
    have hlist : ∀ j, j < ops.size → (Array.replicate ops.size false)[j]? = some (decide (j < 0)) := by intro j hj; simp [hj]
    have hsz : (Array.replicate ops.size false).size = ops.size := by simp
    have hlen : ops.toList.length = ops.size := by simp
    have hB' := hB rfl
    unfold regB at hB'
    cases res with
    | inl r =>
      have := (lexA (E := E) (sz := sz) (Qp := fun _ _ _ => False) (Q := fun s => ∀ a w, St M0 ob0 tk0 w0 sz s.obs s.nt s.g a w → Q' .normal a w) ops.toList 0 _ c fr obs nt o (.inl r) rfl hlist hsz hB' h).1 r rfl (h1 r rfl).1 (h1 r rfl).2
      rw [hlen] at this
      exact wpAny_of_A hE (fun s a w hq hs => hq a w hs) (fun _ _ _ _ _ _ h => h.elim) _ _ _ _ _ this hs.draw
    | inr x =>
      obtain ⟨c', v, obs', nt'⟩ := x
      have := (lexA (E := E) (sz := sz) (Qp := fun v obs nt => ∀ ch a w, a.defers = [] → PanSt M0 ob0 tk0 w0 obs nt v ch w → Q' (.panic ch) a w) (Q := fun _ => False) ops.toList 0 _ c fr obs nt o _ rfl hlist hsz hB' h).2 c' v obs' nt' rfl
        (h2 c' v obs' nt' rfl).1 (h2 c' v obs' nt' rfl).2
      rw [hlen] at this
      exact wpAny_of_A hE (fun _ _ _ hq _ => hq.elim) (fun v obs nt ch a w hq hd hp => hq ch a w hd hp) _ _ _ _ _ this hs.draw
end

/- ---------- stacks ---------- -/
def KI.item : KI → Item
  | .code c => .code c
  | .inB id => .inBlock id
  | .inL c => .inLoop c
def items (ks : List KI) : List Item := ks.map KI.item

def KW (P : Program) (Q : Exit → Act → World → Prop) (ks : List KI) (a : Act) (w : World) : Prop :=
  ∀ (b : Frame) (cs : List Frame), ∃ e a' w', Q e a' w' ∧ Arrives P (lone (b.at a (items ks)) cs w) b [] cs e a' w'

section
variable {P : Program} {Q : Exit → Act → World → Prop} {ks ks' : List KI} {a : Act} {w : World}

theorem KW.nil (h : Q .normal a w) : KW P Q [] a w := fun _ _ => ⟨.normal, a, w, h, Steps.refl _ _⟩

theorem KW.step (hs : ∀ (b : Frame) cs, Go.step P (lone (b.at a (items ks)) cs w) = .next (lone (b.at a (items ks')) cs w)) (h : KW P Q ks' a w) : KW P Q ks a w :=
  fun b cs => let ⟨e, a', w', q, r⟩ := h b cs; ⟨e, a', w', q, .of_steps (.one (hs b cs)) r⟩

theorem KW.ret (h : Q .ret a w) : KW P Q (.code .ret :: ks) a w := fun _ _ => ⟨.ret, a, w, h, _, .one step_ret⟩

theorem KW.code {c : Code} {Q' : Exit → Act → World → Prop} (h : c.wp P Q' a w) (h1 : ∀ a w, Q' .normal a w → KW P Q ks a w) (h2 : ∀ ch a w, Q' (.panic ch) a w → Q (.panic ch) a w)
    (h3 : ∀ e a w, Q' e a w → e = .normal ∨ ∃ ch, e = .panic ch) : KW P Q (.code c :: ks) a w := by
  intro b cs
  obtain ⟨e, a', w', q, r⟩ := h b (items ks) cs
  rcases h3 e a' w' q with rfl | ⟨ch, rfl⟩
  · obtain ⟨e2, a2, w2, q2, r2⟩ := h1 a' w' q b cs
    exact ⟨e2, a2, w2, q2, .of_steps r r2⟩
  · exact ⟨.panic ch, a', w', h2 ch a' w' q, r⟩

theorem exitK_spec {id : Nat} : ∀ (ks ks' : List KI), exitK id ks = some ks' → exitTo id (items ks) = some (items ks')
  | [], ks', h => by cases h
  | .inB i :: r, ks', h => by
    simp only [exitK] at h
    simp only [items, List.map_cons, KI.item, exitTo]
    cases hb : Nat.beq i id with
    | true =>
      rw [hb] at h
      cases h
      rw [if_pos (by simpa using beq_yes hb)]
    | false =>
      rw [hb] at h
      have hne : ¬ (i == id) = true := fun e => by
        have e2 : i = id := by simpa using e
        rw [e2] at hb
        exact absurd hb (by simp)
      rw [if_neg hne]
      exact exitK_spec r ks' h
  | .code c :: r, ks', h => exitK_spec r ks' h
  | .inL c :: r, ks', h => exitK_spec r ks' h
end

/- ---------- the run ---------- -/
def codeOK : Code → Bool
  | .region _ ops dr => !dr || regB ops
  | .seq a b => codeOK a && codeOK b
  | .cond _ a b => codeOK a && codeOK b
  | .block _ b => codeOK b
  | .loop b => codeOK b
  | _ => true
def KI.ok : KI → Bool
  | .code c => codeOK c
  | .inL c => codeOK c
  | .inB _ => true
def stackOK : List KI → Bool
  | [] => true
  | k :: r => k.ok && stackOK r

theorem exitK_ok {id : Nat} : ∀ (ks ks' : List KI), exitK id ks = some ks' → stackOK ks = true → stackOK ks' = true
  | [], ks', h, _ => by cases h
  | .inB i :: r, ks', h, ho => by
    simp only [exitK] at h
    simp only [stackOK, Bool.and_eq_true] at ho
    cases hb : Nat.beq i id with
    | true => rw [hb] at h; cases h; exact ho.2
    | false => rw [hb] at h; exact exitK_ok r ks' h ho.2
  | .code c :: r, ks', h, ho => exitK_ok r ks' h (by simp only [stackOK, Bool.and_eq_true] at ho; exact ho.2)
  | .inL c :: r, ks', h, ho => exitK_ok r ks' h (by simp only [stackOK, Bool.and_eq_true] at ho; exact ho.2)

section
variable {M0 : Imm} {ob0 : List Nat} {tk0 : List Tok} {w0 : World} {E : Env} {sz : Nat} {Q : Exit → Act → World → Prop}

/-- what is still to be shown where the run stops -/
def Fin (E : Env) (M0 : Imm) (ob0 : List Nat) (tk0 : List Tok) (w0 : World) (sz : Nat) (Q : Exit → Act → World → Prop) (rk : RK) : Prop :=
  match rk.out with
  | .stop ks => stackOK ks = true → ∀ a w, St M0 ob0 tk0 w0 sz rk.obs rk.nt (getS rk.fr) a w → KW E.P Q ks a w
  | .done => ∀ a w, St M0 ob0 tk0 w0 sz rk.obs rk.nt (getS rk.fr) a w → Q .normal a w
  | .ret => ∀ a w, St M0 ob0 tk0 w0 sz rk.obs rk.nt (getS rk.fr) a w → Q .ret a w
  | .pan v => ∀ ch a w, a.defers = [] → PanSt M0 ob0 tk0 w0 rk.obs rk.nt v ch w → Q (.panic ch) a w

theorem run_conds : ∀ (fuel : Nat) (ks : List KI) (c : List Prop) (fr : List (Nat × AVal)) (obs : List AObj) (nt : Nat) (o : List Ora) (rk : RK), run E sz fuel ks c fr obs nt o = some rk → All rk.c → All c := by
  intro fuel
  induction fuel with
  | zero => intro ks c fr obs nt o rk h; cases h
  | succ fuel ih =>
    intro ks c fr obs nt o rk h hc
    cases ks with
    | nil => simp only [run, Option.some.injEq] at h; subst h; exact hc
    | cons k ks =>
      simp only [run] at h
      split at h
      · exact ih _ _ _ _ _ _ _ h hc
      · simp only [Option.some.injEq] at h; subst h; exact hc
      · split at h
        · exact ih _ _ _ _ _ _ _ h hc
        · exact ih _ _ _ _ _ _ _ h hc
        · exact ih _ _ _ _ _ _ _ h hc
        · simp only [Option.some.injEq] at h; subst h; exact hc
        · split at h
          · exact ih _ _ _ _ _ _ _ h hc
          · cases h
        · simp only [Option.some.injEq] at h; subst h; exact hc
        · split at h
          · exact (ih _ _ _ _ _ _ _ h hc).2
          · exact (ih _ _ _ _ _ _ _ h hc).2
          · cases h
        · rename_i ops dr
          rw [eopsK_eq] at h
          cases he : eops E dr ops.toList sz 0 ops.toList c fr obs nt o with
          | none => rw [he] at h; cases h
          | some res =>
            rw [he] at h
            have hcc := eops_conds _ _ _ _ _ _ _ _ he
            cases res with
            | inl r => exact hcc.1 r rfl (ih _ _ _ _ _ _ _ h hc)
            | inr x =>
              obtain ⟨c', v, obs', nt'⟩ := x
              simp only [Option.bind_some, Option.some.injEq] at h
              subst h
              exact hcc.2 _ rfl hc
        · cases h

theorem run_sound (hE : EnvOK E) : ∀ (fuel : Nat) (ks : List KI) (c : List Prop) (fr : List (Nat × AVal)) (obs : List AObj) (nt : Nat) (o : List Ora) (rk : RK), run E sz fuel ks c fr obs nt o = some rk → All rk.c → stackOK ks = true →
    Fin E M0 ob0 tk0 w0 sz Q rk → ∀ a w, St M0 ob0 tk0 w0 sz obs nt (getS fr) a w → KW E.P Q ks a w := by
  intro fuel
  induction fuel with
  | zero => intro ks c fr obs nt o rk h; cases h
  | succ fuel ih =>
    intro ks c fr obs nt o rk h hc ho hf a w hs
    cases ks with
    | nil => simp only [run, Option.some.injEq] at h; subst h; exact KW.nil (hf a w hs)
    | cons k ks =>
      simp only [stackOK, Bool.and_eq_true] at ho
      obtain ⟨ho1, ho2⟩ := ho
      simp only [run] at h
      split at h
      · exact KW.step (fun b cs => step_inBlock) (ih _ _ _ _ _ _ _ h hc ho2 hf a w hs)
      · rename_i b
        simp only [Option.some.injEq] at h
        subst h
        exact KW.step (fun b cs => step_inLoop) (hf (by simp only [stackOK, KI.ok, Bool.and_eq_true]; exact ⟨ho1, ho1, ho2⟩) a w hs)
      · rename_i q
        split at h
        · exact KW.step (fun b cs => step_skip) (ih _ _ _ _ _ _ _ h hc ho2 hf a w hs)
        · simp only [KI.ok, codeOK, Bool.and_eq_true] at ho1
          exact KW.step (fun b cs => step_seq) (ih _ _ _ _ _ _ _ h hc (by simp only [stackOK, KI.ok, Bool.and_eq_true]; exact ⟨ho1.1, ho1.2, ho2⟩) hf a w hs)
        · simp only [KI.ok, codeOK] at ho1
          exact KW.step (fun b cs => step_block) (ih _ _ _ _ _ _ _ h hc (by simp only [stackOK, KI.ok, Bool.and_eq_true]; exact ⟨ho1, trivial, ho2⟩) hf a w hs)
        · simp only [KI.ok, codeOK] at ho1
          simp only [Option.some.injEq] at h
          subst h
          exact KW.step (fun b cs => step_loop) (hf (by simp only [stackOK, KI.ok, Bool.and_eq_true]; exact ⟨ho1, ho1, ho2⟩) a w hs)
        · split at h
          · rename_i ks' hx
            refine KW.step (fun b cs => step_exit (exitK_spec _ _ hx)) (ih _ _ _ _ _ _ _ h hc (exitK_ok _ _ hx ho2) hf a w hs)
          · cases h
        · simp only [Option.some.injEq] at h
          subst h
          exact KW.ret (hf a w hs)
        · simp only [KI.ok, codeOK, Bool.and_eq_true] at ho1
          rename_i x cc b
          obtain ⟨M, ob, tk, hx, hm, hnt, hfr, hsz, hd⟩ := id hs
          have hev := FrOK.ev (fr := fr) (a := a) hfr x
          split at h
          · rename_i p o' e1
            rw [e1] at hev
            have hp := (run_conds _ _ _ _ _ _ _ _ h hc).1
            rw [hp] at hev
            refine KW.step (ks' := .code cc :: ks) (fun b cs => ?_) (ih _ _ _ _ _ _ _ h hc (by simp only [stackOK, KI.ok, Bool.and_eq_true]; exact ⟨ho1.1, ho2⟩) hf a w hs)
            have := step_cond (P := E.P) (b := b) (k := items ks) (cs := cs) (w := w) (x := cc) (y := ‹Code›) hev.bool_inv
            exact this
          · rename_i p o' e1
            rw [e1] at hev
            have hp := (run_conds _ _ _ _ _ _ _ _ h hc).1
            rw [hp] at hev
            refine KW.step (ks' := .code ‹Code› :: ks) (fun b cs => ?_) (ih _ _ _ _ _ _ _ h hc (by simp only [stackOK, KI.ok, Bool.and_eq_true]; exact ⟨ho1.2, ho2⟩) hf a w hs)
            have := step_cond (P := E.P) (b := b) (k := items ks) (cs := cs) (w := w) (x := cc) (y := ‹Code›) hev.bool_inv
            exact this
          · cases h
        · rename_i id ops dr
          simp only [KI.ok, codeOK] at ho1
          rw [eopsK_eq] at h
          cases he : eops E dr ops.toList sz 0 ops.toList c fr obs nt o with
          | none => rw [he] at h; cases h
          | some res =>
            rw [he] at h
            have hB : dr = true → regB ops = true := fun e => by subst e; simpa using ho1
            cases res with
            | inl r =>
              refine KW.code (Q' := fun e a w => match e with | .normal => St M0 ob0 tk0 w0 sz r.obs r.nt (getS r.fr) a w | _ => False)
                (region_sound (M0 := M0) (ob0 := ob0) (tk0 := tk0) (w0 := w0) hE hB he hs (fun r' e => ?_) fun c' v obs' nt' e => by cases e) ?_ ?_ ?_
              · cases e
                exact ⟨run_conds _ _ _ _ _ _ _ _ h hc, fun a w h => h⟩
              · intro a w hs'
                exact ih _ _ _ _ _ _ _ h hc ho2 hf a w hs'
              · intro ch a w h; exact h.elim
              · intro e a w hh
                cases e <;> first | exact .inl rfl | exact hh.elim
            | inr x =>
              obtain ⟨c', v, obs', nt'⟩ := x
              simp only [Option.bind_some, Option.some.injEq] at h
              subst h
              refine KW.code (Q' := fun e a w => match e with | .panic ch => Q (.panic ch) a w | _ => False)
                (region_sound (M0 := M0) (ob0 := ob0) (tk0 := tk0) (w0 := w0) hE hB he hs (fun r' e => by cases e) fun c2 v2 obs2 nt2 e => ?_) ?_ ?_ ?_
              · cases e
                exact ⟨hc, fun ch a w hd hp => hf ch a w hd hp⟩
              · intro a w hs'; exact hs'.elim
              · intro ch a w h; exact h
              · intro e a w hh
                cases e <;> first | exact .inr ⟨_, rfl⟩ | exact hh.elim
        · cases h
end
end Go.AM
