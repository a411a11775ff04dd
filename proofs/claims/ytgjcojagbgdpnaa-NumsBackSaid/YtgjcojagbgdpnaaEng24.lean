/-
  THE ENGINE, 24: a function's contract from the run of its body. Over any program.
-/
import Derived.Test.YtgjcojagbgdpnaaEng23
namespace Go.AM
open Go.RowKit

def frA : Nat → List AVal → List (Nat × AVal)
  | _, [] => []
  | n, a :: r => (n, a) :: frA (n + 1) r

def resE : List ResultVar → List (Nat × AVal) → Option AVal
  | [], _ => some (.tup [])
  | [.tmp t], fr => some (getS fr t)
  | [.tmp t, .tmp u], fr => some (.tup [getS fr t, getS fr u])
  | [.tmp t, .tmp u, .tmp v], fr => some (.tup [getS fr t, getS fr u, getS fr v])
  | [.tmp t, .tmp u, .tmp v, .tmp x], fr => some (.tup [getS fr t, getS fr u, getS fr v, getS fr x])
  | _, _ => none

/-- the slots that are still wanted -/
def pickS : List Nat → List (Nat × AVal) → List (Nat × AVal)
  | [], _ => []
  | t :: r, fr => (t, getS fr t) :: pickS r fr

theorem getS_pickS (fr : List (Nat × AVal)) (t : Nat) : ∀ (keep : List Nat), getS (pickS keep fr) t = getS fr t ∨ getS (pickS keep fr) t = .undef
  | [] => .inr rfl
  | k :: r => by
    simp only [pickS, getS]
    cases h : Nat.beq k t with
    | true => left; rw [beq_yes h]; rfl
    | false => exact getS_pickS fr t r

theorem resE_sound {M : Imm} {ob : List Nat} {tk : List Tok} {P : Program} {fn : Func} {fr : List (Nat × AVal)} {x : AVal} {tmps : Array Value} (h : resE fn.results.toList fr = some x)
    (hf : ∀ t, Rep M ob tk (tmps.getD t undef) (getS fr t)) (w : World) : ∃ v, (results fn tmps).run P w = .ok v w ∧ Rep M ob tk v x := by
  generalize hl : fn.results.toList = l at h
  have hr : fn.results = l.toArray := by rw [← hl]
  unfold resE at h
  split at h
  · cases h
    exact ⟨_, by simp [results, hr], .tup [] [] rfl fun i v a h => by simp at h⟩
  · rename_i t
    cases h
    exact ⟨tmps.getD t undef, by simp [results, hr], hf _⟩
  · rename_i t u
    cases h
    refine ⟨.tuple #[tmps.getD t undef, tmps.getD u undef], by simp [results, hr], .tup [_, _] _ rfl ?_⟩
    intro i v a hv ha
    rcases i with _ | _ | i
    · simp at hv ha; subst hv ha; simpa using hf _
    · simp at hv ha; subst hv ha; simpa using hf _
    · simp at hv
  · rename_i t u v
    cases h
    refine ⟨.tuple #[tmps.getD t undef, tmps.getD u undef, tmps.getD v undef], by simp [results, hr], .tup [_, _, _] _ rfl ?_⟩
    intro i v a hv ha
    rcases i with _ | _ | _ | i
    · simp at hv ha; subst hv ha; simpa using hf _
    · simp at hv ha; subst hv ha; simpa using hf _
    · simp at hv ha; subst hv ha; simpa using hf _
    · simp at hv
  · rename_i t u v y
    cases h
    refine ⟨.tuple #[tmps.getD t undef, tmps.getD u undef, tmps.getD v undef, tmps.getD y undef], by simp [results, hr], .tup [_, _, _, _] _ rfl ?_⟩
    intro i v a hv ha
    rcases i with _ | _ | _ | _ | i
    · simp at hv ha; subst hv ha; simpa using hf _
    · simp at hv ha; subst hv ha; simpa using hf _
    · simp at hv ha; subst hv ha; simpa using hf _
    · simp at hv ha; subst hv ha; simpa using hf _
    · simp at hv
  · cases h

def Post (P : Program) (fn : Func) (M0 : Imm) (ob0 : List Nat) (tk0 : List Tok) (w0 : World) (r : Res) (obs' : List AObj) (nt' : Nat) : Exit → Act → World → Prop :=
  bodyPost P fn fun e w' => ∃ M' ob' tk', Ext M0 ob0 tk0 w0 M' ob' tk' w' ∧ Mem M' ob' tk' obs' w' ∧ tk'.length = nt' ∧ EndRep M' ob' tk' e r

/-- FROM HERE THE FUNCTION COMES TO THAT END -/
def Goes (E : Env) (fn : Func) (n0 : Nat) (r : Res) (obs' : List AObj) (nt' : Nat) (ks : List KI) (fr : List (Nat × AVal)) (obs : List AObj) (nt : Nat) : Prop :=
  stackOK ks = true → ∀ M0 ob0 tk0 w0 a w, ob0.length = n0 → St M0 ob0 tk0 w0 fn.ntmps obs nt (getS fr) a w → KW E.P (Post E.P fn M0 ob0 tk0 w0 r obs' nt') ks a w

section
variable {E : Env} {fn : Func} {n0 : Nat} {r : Res} {obs' : List AObj} {nt' : Nat} {ks : List KI} {fr : List (Nat × AVal)} {obs : List AObj} {nt : Nat}

theorem Goes.weak {fr2 : List (Nat × AVal)} (hw : ∀ t, getS fr2 t = getS fr t ∨ getS fr2 t = .undef) (h : Goes E fn n0 r obs' nt' ks fr2 obs nt) : Goes E fn n0 r obs' nt' ks fr obs nt := by
  intro ho M0 ob0 tk0 w0 a w h0 hs
  obtain ⟨M, ob, tk, hx, hm, hnt, hf, hsz, hd⟩ := hs
  refine h ho M0 ob0 tk0 w0 a w h0 ⟨M, ob, tk, hx, hm, hnt, fun t => ?_, hsz, hd⟩
  rcases hw t with e | e
  · rw [e]; exact hf t
  · rw [e]; exact .undef _

theorem Goes.keep (l : List Nat) (h : Goes E fn n0 r obs' nt' ks (pickS l fr) obs nt) : Goes E fn n0 r obs' nt' ks fr obs nt := h.weak fun t => getS_pickS fr t l

theorem Goes.stop (hE : EnvOK E) (fuel sz : Nat) (o : List Ora) (ks' : List KI) (l : List Nat) {c : List Prop} {fr' : List (Nat × AVal)} {obs1 : List AObj} {nt1 : Nat} {o' : List Ora} (hsz : fn.ntmps = sz)
    (h : run E sz fuel ks [] fr obs nt o = some ⟨c, .stop ks', fr', obs1, nt1, o'⟩) (hc : All c) (hk : Goes E fn n0 r obs' nt' ks' (pickS l fr') obs1 nt1) : Goes E fn n0 r obs' nt' ks fr obs nt := by
  subst hsz
  intro ho M0 ob0 tk0 w0 a w h0 hs
  exact run_sound hE fuel ks [] fr obs nt o _ h hc ho (fun ho' a w hs' => (hk.keep l) ho' M0 ob0 tk0 w0 a w h0 hs') a w hs

theorem Goes.ret (hE : EnvOK E) (fuel sz : Nat) (o : List Ora) {c : List Prop} {out : Out} {fr' : List (Nat × AVal)} {o' : List Ora} {x : AVal} (hsz : fn.ntmps = sz) (hr : r = .ret x)
    (h : run E sz fuel ks [] fr obs nt o = some ⟨c, out, fr', obs', nt', o'⟩) (hout : out = .ret ∨ out = .done) (hc : All c) (hx : resE fn.results.toList fr' = some x) : Goes E fn n0 r obs' nt' ks fr obs nt := by
  subst hsz hr
  intro ho M0 ob0 tk0 w0 a w h0 hs
  have fin : ∀ a w, St M0 ob0 tk0 w0 fn.ntmps obs' nt' (getS fr') a w → a.defers = [] ∧ ∃ v, (results fn a.tmps).run E.P w = .ok v w ∧ ∃ M' ob' tk', Ext M0 ob0 tk0 w0 M' ob' tk' w ∧ Mem M' ob' tk' obs' w ∧ tk'.length = nt' ∧ EndRep M' ob' tk' (.returned v) (.ret x) := by
    intro a w ⟨M, ob, tk, hx', hm, hnt, hf, _, hd⟩
    obtain ⟨v, hv, hrep⟩ := resE_sound (P := E.P) hx hf w
    exact ⟨hd, v, hv, M, ob, tk, hx', hm, hnt, hrep⟩
  refine run_sound hE fuel ks [] fr obs nt o _ h hc ho ?_ a w hs
  rcases hout with rfl | rfl
  · exact fun a w hs' => fin a w hs'
  · exact fun a w hs' => fin a w hs'

theorem Goes.pan (hE : EnvOK E) (fuel sz : Nat) (o : List Ora) {c : List Prop} {fr' : List (Nat × AVal)} {o' : List Ora} {x : AVal} (hsz : fn.ntmps = sz) (hr : r = .pan x)
    (h : run E sz fuel ks [] fr obs nt o = some ⟨c, .pan x, fr', obs', nt', o'⟩) (hc : All c) : Goes E fn n0 r obs' nt' ks fr obs nt := by
  subst hsz hr
  intro ho M0 ob0 tk0 w0 a w h0 hs
  refine run_sound hE fuel ks [] fr obs nt o _ h hc ho ?_ a w hs
  intro ch a w hd ⟨M, ob, tk, hx', hm, hnt, hrep⟩
  exact ⟨hd, M, ob, tk, hx', hm, hnt, hrep⟩
end

/- ---------- the whole function ---------- -/
def bodyOf (fn : Func) : Code := fn.body.getD .skip

theorem getS_frA : ∀ (l : List AVal) (n t : Nat), getS (frA n l) t = if n ≤ t then (l[t - n]?).getD .undef else .undef
  | [], n, t => by simp [frA, getS]
  | a :: l, n, t => by
    simp only [frA, getS]
    cases h : Nat.beq n t with
    | true => have := beq_yes h; subst this; simp
    | false =>
      have hne : n ≠ t := fun e => by subst e; simp at h
      simp only [cond_false]
      rw [getS_frA l (n + 1) t]
      by_cases hlt : n + 1 ≤ t
      · rw [if_pos hlt, if_pos (by omega)]
        have : t - n = (t - (n + 1)) + 1 := by omega
        rw [this]; simp
      · rw [if_neg hlt, if_neg (by omega)]

theorem calls_of_kw {P : Program} {f : FuncId} {fn : Func} {c : Code} {args : Array Value} {w : World} {R : Ending → World → Prop} (hf : P.funcs[f]? = some fn) (hb : fn.body = some c)
    (h : KW P (bodyPost P fn R) [.code c] { tmps := args ++ Array.replicate (fn.ntmps - args.size) undef, defers := [] } w) : Calls P f args w R := by
  intro cs
  let b : Frame := { (default : Frame) with fn := f, kind := .normal }
  have henter : Frame.enter P f args .normal = b.at { tmps := args ++ Array.replicate (fn.ntmps - args.size) undef, defers := [] } [.code c] := by
    simp [Frame.enter, Frame.at, hf, hb, b]
  obtain ⟨e, a', w', hq, harr⟩ := h b cs
  rw [show items [.code c] = [.code c] from rfl, ← henter] at harr
  cases e with
  | normal =>
    obtain ⟨hd, v, hr, hR⟩ := hq
    exact ⟨.returned v, w', _, hR, Steps.trans harr (.one step_end), rfl, rfl, hd, rfl, fn, hf, hr⟩
  | ret =>
    obtain ⟨hd, v, hr, hR⟩ := hq
    obtain ⟨todo, hs⟩ := harr
    exact ⟨.returned v, w', _, hR, hs, rfl, rfl, hd, rfl, fn, hf, hr⟩
  | panic chain =>
    obtain ⟨hd, hR⟩ := hq
    obtain ⟨todo, hs⟩ := harr
    exact ⟨.panicked chain, w', _, hR, hs, rfl, rfl, hd, fn, hf⟩
  | exit id => exact hq.elim
  | goto l => exact hq.elim
  | outgrown => exact ⟨.outgrown, w', b, hq, harr.resolve_left (by simp [b]), rfl, trivial⟩

theorem CallOK.of {E : Env} {f : FuncId} {fn : Func} {args : List AVal} {obs : List AObj} {nt : Nat} {r : Res} {obs' : List AObj} {nt' : Nat} (hf : E.P.funcs[f]? = some fn) (hb : fn.body = some (bodyOf fn)) (hbo : BodyOK E.P f)
    (hco : codeOK (bodyOf fn) = true) (hn : Nat.ble args.length fn.ntmps = true) (h : Goes E fn obs.length r obs' nt' [.code (bodyOf fn)] (frA 0 args) obs nt) : CallOK E.P f args obs nt r obs' nt' := by
  refine ⟨hbo, fun M ob tk w vargs hm hnt hr => calls_of_kw hf hb ?_⟩
  have hlen : vargs.length = args.length := hr.1
  have hle := Nat.le_of_ble_eq_true hn
  refine h (by simp [stackOK, KI.ok, hco]) M ob tk w _ w hm.len ⟨M, ob, tk, Ext.refl _ _ _ _, hm, hnt, fun t => ?_, ?_, rfl⟩
  · rw [getS_frA]
    simp only [Nat.zero_le, if_true, Nat.sub_zero]
    by_cases ht : t < args.length
    · rw [List.getElem?_eq_getElem ht]
      have hv : t < vargs.length := by omega
      have : (vargs.toArray ++ Array.replicate (fn.ntmps - vargs.toArray.size) undef).getD t undef = vargs[t] := by
        rw [Array.getD_eq_getD_getElem?, Array.getElem?_append_left (by simpa using hv)]
        simp [hv]
      rw [this]
      exact hr.2 t _ _ (List.getElem?_eq_getElem hv) (List.getElem?_eq_getElem ht)
    · rw [List.getElem?_eq_none (by omega)]
      exact .undef _
  · simp
    omega

/- ---------- the stack at the n-th loop ---------- -/
def stkAt : Nat → Code → List KI → List KI ⊕ Nat
  | n, .seq a b, ks => match stkAt n a (.code b :: ks) with
    | .inl r => .inl r
    | .inr n => stkAt n b ks
  | n, .cond _ a b, ks => match stkAt n a ks with
    | .inl r => .inl r
    | .inr n => stkAt n b ks
  | n, .block id b, ks => stkAt n b (.inB id :: ks)
  | n, .loop b, ks => match n with
    | 0 => .inl (.code b :: .inL b :: ks)
    | n + 1 => stkAt n b (.inL b :: ks)
  | n, _, _ => .inr n
/-- the stack at the head of loop number n of a body (in the order of the text, outer before inner) -/
def stk (fn : Func) (n : Nat) : List KI := match stkAt n (bodyOf fn) [] with | .inl r => r | .inr _ => []
end Go.AM
