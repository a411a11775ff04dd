/-
  THE ENGINE, 24: a function's contract from the run of its body. Over any program.
-/
import Derived.Test.YtgjcojagbgdpnaaEng23
namespace Go.AM
open Go.RowKit

def frA : Nat → List AVal → List (Nat × AVal)
  | _, [] => []
  | n, a :: r => (n, a) :: frA (n + 1) r

def resV (T : Tab) (obs : List AObj) (fr : List (Nat × AVal)) : ResultVar → Option AVal
  | .tmp t => some (getS fr t)
  | .cell a t => match getS fr a with
    | .ref k off => match eload T obs t (.ref k off) [] with
      | some (.val [] v _) => some v
      | _ => none
    | _ => none
def resL (T : Tab) (obs : List AObj) (fr : List (Nat × AVal)) : List ResultVar → Option (List AVal)
  | [] => some []
  | r :: rs => match resV T obs fr r with
    | none => none
    | some v => match resL T obs fr rs with
      | none => none
      | some vs => some (v :: vs)
def resE (T : Tab) (obs : List AObj) (rs : List ResultVar) (fr : List (Nat × AVal)) : Option AVal :=
  match resL T obs fr rs with
  | some [x] => some x
  | some l => some (.tup l)
  | none => none

/-- the slots that are still wanted -/
def pickS : List Nat → List (Nat × AVal) → List (Nat × AVal)
  | [], _ => []
  | t :: r, fr => (t, getS fr t) :: pickS r fr

theorem getS_pickS (fr : List (Nat × AVal)) (t : Nat) : ∀ (keep : List Nat), getS (pickS keep fr) t = getS fr t ∨ getS (pickS keep fr) t = .undef
  | [] => .inr rfl
  | k :: r => by
    simp only [pickS, getS]
    cases h : Nat.beq k t with
    | true => left; rw [beq_yes h]; rfl
    | false => exact getS_pickS fr t r

theorem resV_sound {E : Env} (hE : EnvOK E) {M : Imm} {ob : List Nat} {tk : List Tok} {obs : List AObj} {w : World} (hm : Mem M ob tk obs w) {fr : List (Nat × AVal)} {x : AVal} {tmps : Array Value} {r : ResultVar} (h : resV E.T obs fr r = some x)
    (hf : ∀ t, Rep M ob tk (tmps.getD t undef) (getS fr t)) :
    ∃ v, (match r with | .tmp t => (Pure.pure (tmps.getD t undef) : Sem Value) | .cell a t => (asAddr (tmps.getD a undef)) >>= loadVar t).run E.P w = .ok v w ∧ Rep M ob tk v x := by
  cases r with
  | tmp t => cases h; exact ⟨_, rfl, hf t⟩
  | cell a t =>
    simp only [resV] at h
    show ∃ v, ((asAddr (tmps.getD a undef)) >>= loadVar t).run E.P w = .ok v w ∧ Rep M ob tk v x
    have ha := hf a
    split at h
    · rename_i k off hg
      rw [hg] at ha
      split at h
      · rename_i v o' hl
        cases h
        obtain ⟨c, x', o2, e, u, hr, hrep⟩ := eload_sound (P := E.P) hE.tab hm ha hl trivial
        cases e
        generalize tmps.getD a undef = av at *
        cases ha with
        | ref _ _ b hb =>
          refine ⟨u, ?_, hrep⟩
          unfold Instr.loadAt Instr.sureAddr at hr
          simp only [Sem.run_bind, Sem.run_pure, Result.andThen_ok] at hr
          simp only [asAddr, Sem.run_bind, Sem.run_pure, Result.andThen_ok]
          exact hr
      · cases h
    · cases h

theorem resL_sound {E : Env} (hE : EnvOK E) {M : Imm} {ob : List Nat} {tk : List Tok} {obs : List AObj} {w : World} (hm : Mem M ob tk obs w) {fr : List (Nat × AVal)} {tmps : Array Value} (hf : ∀ t, Rep M ob tk (tmps.getD t undef) (getS fr t)) :
    ∀ (rs : List ResultVar) {xs : List AVal}, resL E.T obs fr rs = some xs → ∃ vs, (rs.mapM fun (r : ResultVar) => (match r with | .tmp t => (Pure.pure (tmps.getD t undef) : Sem Value) | .cell a t => (asAddr (tmps.getD a undef)) >>= loadVar t)).run E.P w = .ok vs w ∧ RepL M ob tk vs xs
  | [], xs, h => by
    cases h
    exact ⟨[], by simp, rfl, fun i v a h => by simp at h⟩
  | r :: rs, xs, h => by
    simp only [resL] at h
    split at h
    · cases h
    · rename_i x hx
      split at h
      · cases h
      · rename_i l hl
        cases h
        obtain ⟨v, hv, hr⟩ := resV_sound hE hm hx hf
        obtain ⟨vs, hvs, hrs⟩ := resL_sound hE hm hf rs hl
        refine ⟨v :: vs, ?_, RepL.cons hr hrs⟩
        rw [List.mapM_cons]
        simp only [Sem.run_bind]
        rw [hv]
        simp only [Result.andThen_ok]
        rw [hvs]
        simp

theorem resE_sound {E : Env} (hE : EnvOK E) {M : Imm} {ob : List Nat} {tk : List Tok} {obs : List AObj} {w : World} (hm : Mem M ob tk obs w) {fn : Func} {fr : List (Nat × AVal)} {x : AVal} {tmps : Array Value} (h : resE E.T obs fn.results.toList fr = some x)
    (hf : ∀ t, Rep M ob tk (tmps.getD t undef) (getS fr t)) : ∃ v, (results fn tmps).run E.P w = .ok v w ∧ Rep M ob tk v x := by
  have hl : ∃ xs, resL E.T obs fr fn.results.toList = some xs ∧ ((∃ y, xs = [y] ∧ x = y) ∨ (xs.length ≠ 1 ∧ x = .tup xs)) := by
    unfold resE at h
    split at h
    · rename_i y hy; cases h; exact ⟨_, hy, .inl ⟨_, rfl, rfl⟩⟩
    · rename_i l hne hl
      cases h
      refine ⟨_, hl, .inr ⟨fun h1 => ?_, rfl⟩⟩
      match l, h1 with
      | [y], _ => exact hne y rfl
    · cases h
  obtain ⟨xs, hxs, hor⟩ := hl
  obtain ⟨vs, hvs, hrep⟩ := resL_sound hE hm hf _ hxs
  have hr : fn.results = fn.results.toList.toArray := by simp
  have key : (results fn tmps).run E.P w = .ok (if h : vs.toArray.size = 1 then vs.toArray[0] else .tuple vs.toArray) w := by
    unfold results
    rw [hr, List.mapM_toArray]
    simp only [Sem.run_bind, map_eq_pure_bind]
    have : (fn.results.toList.mapM fun (r : ResultVar) => (match r with | .tmp t => (Pure.pure (tmps.getD t undef) : Sem Value) | .cell a t => (asAddr (tmps.getD a undef)) >>= loadVar t)).run E.P w = .ok vs w := hvs
    refine (congrArg (fun z => Result.andThen (Result.andThen z _) _) this).trans ?_
    simp
  rw [key]
  rcases hor with ⟨y, rfl, rfl⟩ | ⟨h1, rfl⟩
  · match vs, hrep with
    | [v], hrep => exact ⟨v, by simp, hrep.2 0 v _ rfl rfl⟩
    | [], hrep => have := hrep.1; simp at this
    | _ :: _ :: _, hrep => have := hrep.1; simp at this
  · have hne : ¬ vs.toArray.size = 1 := by rw [List.size_toArray, hrep.1]; exact h1
    exact ⟨.tuple vs.toArray, by rw [dif_neg hne], .tup vs xs hrep.1 hrep.2⟩

def Post (P : Program) (fn : Func) (M0 : Imm) (ob0 : List Nat) (tk0 : List Tok) (w0 : World) (r : Res) (obs' : List AObj) (nt' : Nat) : Exit → Act → World → Prop :=
  bodyPost P fn fun e w' => ∃ M' ob' tk', Ext M0 ob0 tk0 w0 M' ob' tk' w' ∧ Mem M' ob' tk' obs' w' ∧ tk'.length = nt' ∧ EndRep M' ob' tk' e r

/-- FROM HERE THE FUNCTION COMES TO THAT END -/
def Goes (E : Env) (fn : Func) (n0 : Nat) (r : Res) (obs' : List AObj) (nt' : Nat) (ks : List KI) (fr : List (Nat × AVal)) (obs : List AObj) (nt : Nat) : Prop :=
  stackOK ks = true → ∀ M0 ob0 tk0 w0 a w, ob0.length = n0 → St M0 ob0 tk0 w0 fn.ntmps obs nt (getS fr) a w → KW E.P (Post E.P fn M0 ob0 tk0 w0 r obs' nt') ks a w

section
variable {E : Env} {fn : Func} {n0 : Nat} {r : Res} {obs' : List AObj} {nt' : Nat} {ks : List KI} {fr : List (Nat × AVal)} {obs : List AObj} {nt : Nat}

theorem Goes.weak {fr2 : List (Nat × AVal)} (hw : ∀ t, getS fr2 t = getS fr t ∨ getS fr2 t = .undef) (h : Goes E fn n0 r obs' nt' ks fr2 obs nt) : Goes E fn n0 r obs' nt' ks fr obs nt := by
  intro ho M0 ob0 tk0 w0 a w h0 hs
  obtain ⟨M, ob, tk, hx, hm, hnt, hf, hsz, hd⟩ := hs
  refine h ho M0 ob0 tk0 w0 a w h0 ⟨M, ob, tk, hx, hm, hnt, fun t => ?_, hsz, hd⟩
  rcases hw t with e | e
  · rw [e]; exact hf t
  · rw [e]; exact .undef _

theorem Goes.keep (l : List Nat) (h : Goes E fn n0 r obs' nt' ks (pickS l fr) obs nt) : Goes E fn n0 r obs' nt' ks fr obs nt := h.weak fun t => getS_pickS fr t l

theorem Goes.stop (hE : EnvOK E) (fuel sz : Nat) (o : List Ora) (ks' : List KI) (l : List Nat) {c : List Prop} {fr' : List (Nat × AVal)} {obs1 : List AObj} {nt1 : Nat} {o' : List Ora} (hsz : fn.ntmps = sz)
    (h : run E sz fuel ks [] fr obs nt o = some ⟨c, .stop ks', fr', obs1, nt1, o'⟩) (hc : All c) (hk : Goes E fn n0 r obs' nt' ks' (pickS l fr') obs1 nt1) : Goes E fn n0 r obs' nt' ks fr obs nt := by
  subst hsz
  intro ho M0 ob0 tk0 w0 a w h0 hs
  exact run_sound hE fuel ks [] fr obs nt o _ h hc ho (fun ho' a w hs' => (hk.keep l) ho' M0 ob0 tk0 w0 a w h0 hs') a w hs

theorem Goes.ret (hE : EnvOK E) (fuel sz : Nat) (o : List Ora) {c : List Prop} {out : Out} {fr' : List (Nat × AVal)} {o' : List Ora} {x : AVal} (hsz : fn.ntmps = sz) (hr : r = .ret x)
    (h : run E sz fuel ks [] fr obs nt o = some ⟨c, out, fr', obs', nt', o'⟩) (hout : out = .ret ∨ out = .done) (hc : All c) (hx : resE E.T obs' fn.results.toList fr' = some x) : Goes E fn n0 r obs' nt' ks fr obs nt := by
  subst hsz hr
  intro ho M0 ob0 tk0 w0 a w h0 hs
  have fin : ∀ a w, St M0 ob0 tk0 w0 fn.ntmps obs' nt' (getS fr') a w → a.defers = [] ∧ ∃ v, (results fn a.tmps).run E.P w = .ok v w ∧ ∃ M' ob' tk', Ext M0 ob0 tk0 w0 M' ob' tk' w ∧ Mem M' ob' tk' obs' w ∧ tk'.length = nt' ∧ EndRep M' ob' tk' (.returned v) (.ret x) := by
    intro a w ⟨M, ob, tk, hx', hm, hnt, hf, _, hd⟩
    obtain ⟨v, hv, hrep⟩ := resE_sound hE hm hx hf
    exact ⟨hd, v, hv, M, ob, tk, hx', hm, hnt, hrep⟩
  refine run_sound hE fuel ks [] fr obs nt o _ h hc ho ?_ a w hs
  rcases hout with rfl | rfl
  · exact fun a w hs' => fin a w hs'
  · exact fun a w hs' => fin a w hs'

theorem Goes.pan (hE : EnvOK E) (fuel sz : Nat) (o : List Ora) {c : List Prop} {fr' : List (Nat × AVal)} {o' : List Ora} {x : AVal} (hsz : fn.ntmps = sz) (hr : r = .pan x)
    (h : run E sz fuel ks [] fr obs nt o = some ⟨c, .pan x, fr', obs', nt', o'⟩) (hc : All c) : Goes E fn n0 r obs' nt' ks fr obs nt := by
  subst hsz hr
  intro ho M0 ob0 tk0 w0 a w h0 hs
  refine run_sound hE fuel ks [] fr obs nt o _ h hc ho ?_ a w hs
  intro ch a w hd ⟨M, ob, tk, hx', hm, hnt, hrep⟩
  exact ⟨hd, M, ob, tk, hx', hm, hnt, hrep⟩
end

/- ---------- the whole function ---------- -/
def bodyOf (fn : Func) : Code := fn.body.getD .skip

theorem getS_frA : ∀ (l : List AVal) (n t : Nat), getS (frA n l) t = if n ≤ t then (l[t - n]?).getD .undef else .undef
  | [], n, t => by simp [frA, getS]
  | a :: l, n, t => by
    simp only [frA, getS]
    cases h : Nat.beq n t with
    | true => have := beq_yes h; subst this; simp
    | false =>
      have hne : n ≠ t := fun e => by subst e; simp at h
      simp only [cond_false]
      rw [getS_frA l (n + 1) t]
      by_cases hlt : n + 1 ≤ t
      · rw [if_pos hlt, if_pos (by omega)]
        have : t - n = (t - (n + 1)) + 1 := by omega
        rw [this]; simp
      · rw [if_neg hlt, if_neg (by omega)]

theorem calls_of_kw {P : Program} {f : FuncId} {fn : Func} {c : Code} {args : Array Value} {w : World} {R : Ending → World → Prop} (hf : P.funcs[f]? = some fn) (hb : fn.body = some c)
    (h : KW P (bodyPost P fn R) [.code c] { tmps := args ++ Array.replicate (fn.ntmps - args.size) undef, defers := [] } w) : Calls P f args w R := by
  intro cs
  let b : Frame := { (default : Frame) with fn := f, kind := .normal }
  have henter : Frame.enter P f args .normal = b.at { tmps := args ++ Array.replicate (fn.ntmps - args.size) undef, defers := [] } [.code c] := by
    simp [Frame.enter, Frame.at, hf, hb, b]
  obtain ⟨e, a', w', hq, harr⟩ := h b cs
  rw [show items [.code c] = [.code c] from rfl, ← henter] at harr
  cases e with
  | normal =>
    obtain ⟨hd, v, hr, hR⟩ := hq
    exact ⟨.returned v, w', _, hR, Steps.trans harr (.one step_end), rfl, rfl, hd, rfl, fn, hf, hr⟩
  | ret =>
    obtain ⟨hd, v, hr, hR⟩ := hq
    obtain ⟨todo, hs⟩ := harr
    exact ⟨.returned v, w', _, hR, hs, rfl, rfl, hd, rfl, fn, hf, hr⟩
  | panic chain =>
    obtain ⟨hd, hR⟩ := hq
    obtain ⟨todo, hs⟩ := harr
    exact ⟨.panicked chain, w', _, hR, hs, rfl, rfl, hd, fn, hf⟩
  | exit id => exact hq.elim
  | goto l => exact hq.elim
  | outgrown => exact ⟨.outgrown, w', b, hq, harr.resolve_left (by simp [b]), rfl, trivial⟩

theorem CallOK.of {E : Env} {f : FuncId} {fn : Func} {args : List AVal} {obs : List AObj} {nt : Nat} {r : Res} {obs' : List AObj} {nt' : Nat} (hf : E.P.funcs[f]? = some fn) (hb : fn.body = some (bodyOf fn)) (hbo : BodyOK E.P f)
    (hco : codeOK (bodyOf fn) = true) (hn : Nat.ble args.length fn.ntmps = true) (h : Goes E fn obs.length r obs' nt' [.code (bodyOf fn)] (frA 0 args) obs nt) : CallOK E.P f args obs nt r obs' nt' := by
  refine ⟨hbo, fun M ob tk w vargs hm hnt hr => calls_of_kw hf hb ?_⟩
  have hlen : vargs.length = args.length := hr.1
  have hle := Nat.le_of_ble_eq_true hn
  refine h (by simp [stackOK, KI.ok, hco]) M ob tk w _ w hm.len ⟨M, ob, tk, Ext.refl _ _ _ _, hm, hnt, fun t => ?_, ?_, rfl⟩
  · rw [getS_frA]
    simp only [Nat.zero_le, if_true, Nat.sub_zero]
    by_cases ht : t < args.length
    · rw [List.getElem?_eq_getElem ht]
      have hv : t < vargs.length := by omega
      have : (vargs.toArray ++ Array.replicate (fn.ntmps - vargs.toArray.size) undef).getD t undef = vargs[t] := by
        rw [Array.getD_eq_getD_getElem?, Array.getElem?_append_left (by simpa using hv)]
        simp [hv]
      rw [this]
      exact hr.2 t _ _ (List.getElem?_eq_getElem hv) (List.getElem?_eq_getElem ht)
    · rw [List.getElem?_eq_none (by omega)]
      exact .undef _
  · simp
    omega

/- ---------- the stack at the n-th loop ---------- -/
def stkAt : Nat → Code → List KI → List KI ⊕ Nat
  | n, .seq a b, ks => match stkAt n a (.code b :: ks) with
    | .inl r => .inl r
    | .inr n => stkAt n b ks
  | n, .cond _ a b, ks => match stkAt n a ks with
    | .inl r => .inl r
    | .inr n => stkAt n b ks
  | n, .block id b, ks => stkAt n b (.inB id :: ks)
  | n, .loop b, ks => match n with
    | 0 => .inl (.code b :: .inL b :: ks)
    | n + 1 => stkAt n b (.inL b :: ks)
  | n, _, _ => .inr n
/-- the stack at the head of loop number n of a body (in the order of the text, outer before inner) -/
def stk (fn : Func) (n : Nat) : List KI := match stkAt n (bodyOf fn) [] with | .inl r => r | .inr _ => []
end Go.AM
