/-
  THE ENGINE, 27: what is no longer wanted is let go of: tokens, objects. Over any program.
-/
import Derived.Test.YtgjcojagbgdpnaaEng26
namespace Go.AM
open Go.RowKit

/-- of the objects those below m, of the tokens those below n -/
def gd0 (m n : Nat) : AVal → Bool
  | .slice _ _ _ (some (τ, _)) => Nat.blt τ n
  | .slice _ _ _ none => true
  | .full _ _ _ => true
  | .ptr _ => true
  | .undef => true
  | .ref k _ => Nat.blt k m
  | .eref k _ _ _ => Nat.blt k m
  | .rsl k _ _ _ _ => Nat.blt k m
  | .csl k _ _ _ => Nat.blt k m
  | v => plain0 v
def gd0L (m n : Nat) : List AVal → Bool
  | [] => true
  | c :: r => gd0 m n c && gd0L m n r
def gd1 (m n : Nat) : AVal → Bool
  | .agg cs => gd0L m n cs
  | .func _ fs cs => gd0L m n fs && gd0L m n cs
  | v => gd0 m n v
def gd1L (m n : Nat) : List AVal → Bool
  | [] => true
  | c :: r => gd1 m n c && gd1L m n r
def gd (m n : Nat) : AVal → Bool
  | .agg cs => gd1L m n cs
  | .tup cs => gd1L m n cs
  | .func _ fs cs => gd1L m n fs && gd1L m n cs
  | .iface _ v => gd1 m n v
  | v => gd0 m n v
def gdL (m n : Nat) : List AVal → Bool
  | [] => true
  | c :: r => gd m n c && gdL m n r
def gdF (m n : Nat) : List (Nat × AVal) → Bool
  | [] => true
  | (_, c) :: r => gd m n c && gdF m n r
def gdO (m n : Nat) : List AObj → Bool
  | [] => true
  | .cells cs :: r => gdL m n cs && gdO m n r
  | _ :: r => gdO m n r

section
variable {M : Imm} {ob : List Nat} {tk : List Tok} {m n : Nat}

theorem take_get {α : Type} {l : List α} {m k : Nat} {x : α} (h : l[k]? = some x) (hk : Nat.blt k m = true) : (l.take m)[k]? = some x := by
  rw [List.getElem?_take, if_pos (by simpa [Nat.blt_eq] using hk)]
  exact h

theorem Rep.gd0 {v : Value} {a : AVal} (h : Rep M ob tk v a) (g : gd0 m n a = true) : Rep M (ob.take m) (tk.take n) v a := by
  have hn : ∀ {v : Value} {sz nl xs}, Rep M ob tk v (.slice sz nl xs none) → Rep M (ob.take m) (tk.take n) v (.slice sz nl xs none) := fun h => by
    cases h with
    | nilslice => exact .nilslice _
    | slice _ b o n cap _ hn hc hz h => exact .slice _ b o n cap _ hn hc hz h
  cases h with
  | tok sz nl xs v τ e h hτ => exact .tok sz nl xs v τ e (hn h) (take_get hτ g)
  | nilslice sz => exact .nilslice sz
  | slice sz b o n cap xs hn hc hz h => exact .slice sz b o n cap xs hn hc hz h
  | full sz nl xs a n h => exact .full sz nl xs a n (hn h)
  | ptr b o cs h => exact .ptr b o cs h
  | ref k off b h => exact .ref k off b (take_get h g)
  | eref k i sz off b h => exact .eref k i sz off b (take_get h g)
  | rsl k lo len cap sz b h => exact .rsl k lo len cap sz b (take_get h g)
  | csl k off len sz b h => exact .csl k off len sz b (take_get h g)
  | _ => first | (simp [AM.gd0, AM.plain0] at g; done) | constructor

theorem Rep.gd1 {v : Value} {a : AVal} (h : Rep M ob tk v a) (g : gd1 m n a = true) : Rep M (ob.take m) (tk.take n) v a := by
  have h0 : ∀ v a, Rep M ob tk v a → AM.gd0 m n a = true → Rep M (ob.take m) (tk.take n) v a := fun _ _ h g => h.gd0 g
  by_cases ha : ∃ as, a = .agg as
  · obtain ⟨as, rfl⟩ := ha
    cases h with
    | agg vs as hl h => exact .agg vs as hl (idL (andL fun _ _ => rfl) h0 as vs g h)
  · by_cases hf : ∃ fn fs cs, a = .func fn fs cs
    · obtain ⟨fn, fs, cs, rfl⟩ := hf
      cases h with
      | func fn fs cs fa ca hf hc h1 h2 =>
        simp only [AM.gd1, Bool.and_eq_true] at g
        exact .func _ _ _ _ _ hf hc (idL (andL fun _ _ => rfl) h0 _ _ g.1 h1) (idL (andL fun _ _ => rfl) h0 _ _ g.2 h2)
    · refine h.gd0 ?_
      cases a <;> first | exact g | exact absurd ⟨_, rfl⟩ ha | exact absurd ⟨_, _, _, rfl⟩ hf

theorem Rep.gd {v : Value} {a : AVal} (h : Rep M ob tk v a) (g : gd m n a = true) : Rep M (ob.take m) (tk.take n) v a := by
  have h0 : ∀ v a, Rep M ob tk v a → AM.gd1 m n a = true → Rep M (ob.take m) (tk.take n) v a := fun _ _ h g => h.gd1 g
  by_cases ha : ∃ as, a = .agg as
  · obtain ⟨as, rfl⟩ := ha
    cases h with
    | agg vs as hl h => exact .agg vs as hl (idL (andL fun _ _ => rfl) h0 as vs g h)
  · by_cases ht : ∃ as, a = .tup as
    · obtain ⟨as, rfl⟩ := ht
      cases h with
      | tup vs as hl h => exact .tup vs as hl (idL (andL fun _ _ => rfl) h0 as vs g h)
    · by_cases hf : ∃ fn fs cs, a = .func fn fs cs
      · obtain ⟨fn, fs, cs, rfl⟩ := hf
        cases h with
        | func fn fs cs fa ca hf hc h1 h2 =>
          simp only [AM.gd, Bool.and_eq_true] at g
          exact .func _ _ _ _ _ hf hc (idL (andL fun _ _ => rfl) h0 _ _ g.1 h1) (idL (andL fun _ _ => rfl) h0 _ _ g.2 h2)
      · by_cases hi : ∃ t u, a = .iface t u
        · obtain ⟨t, u, rfl⟩ := hi
          cases h with
          | iface _ _ _ h => exact .iface _ _ _ (h.gd1 g)
        · refine h.gd0 ?_
          cases a <;> first | exact g | exact absurd ⟨_, rfl⟩ ha | exact absurd ⟨_, rfl⟩ ht | exact absurd ⟨_, _, _, rfl⟩ hf | exact absurd ⟨_, _, rfl⟩ hi

theorem gdL_get : ∀ {l : List AVal}, gdL m n l = true → ∀ (i : Nat) a, l[i]? = some a → gd m n a = true
  | [], _, i, a, h => by simp at h
  | c :: r, g, i, a, h => by
    simp only [gdL, Bool.and_eq_true] at g
    cases i with
    | zero => simp at h; subst h; exact g.1
    | succ i => exact gdL_get g.2 i a (by simpa using h)

theorem gdO_get : ∀ {l : List AObj}, gdO m n l = true → ∀ (i : Nat) cs, l[i]? = some (.cells cs) → gdL m n cs = true
  | [], _, i, a, h => by simp at h
  | x :: r, g, i, a, h => by
    have g2 : gdO m n r = true := by
      cases x with
      | cells cs => simp only [gdO, Bool.and_eq_true] at g; exact g.2
      | dead => exact g
      | row sz xs => exact g
    cases i with
    | zero =>
      simp at h
      subst h
      simp only [gdO, Bool.and_eq_true] at g
      exact g.1
    | succ i => exact gdO_get g2 i a (by simpa using h)

theorem gdF_get : ∀ {l : List (Nat × AVal)}, gdF m n l = true → ∀ t, gd m n (getS l t) = true
  | [], _, t => rfl
  | (i, c) :: r, g, t => by
    simp only [gdF, Bool.and_eq_true] at g
    simp only [getS]
    cases Nat.beq i t
    · exact gdF_get g.2 t
    · exact g.1

theorem Mem.cut {obs : List AObj} {w : World} (h : Mem M ob tk obs w) (g : gdO m n (obs.take m) = true) : Mem M (ob.take m) (tk.take n) (obs.take m) w := by
  have tget : ∀ (τ : Nat) t, (tk.take n)[τ]? = some t → tk[τ]? = some t := fun τ t ht => by
    rw [List.getElem?_take] at ht
    split at ht
    · exact ht
    · cases ht
  have omem : ∀ b, b ∈ ob.take m → b ∈ ob := fun b hb => List.mem_of_mem_take hb
  refine ⟨h.imm, by simp [h.len], fun k c hc => ?_, fun b hb => h.lt b (omem b hb), h.inj.sublist (List.take_sublist _ _), fun τ t ht => h.tok τ t (tget τ t ht), fun τ t g ht hg hm => h.tokobj τ t g (tget τ t ht) hg (omem g hm),
    fun τ τ' t t' g ht ht' hg hg' => h.tokinj τ τ' t t' g (tget τ t ht) (tget τ' t' ht') hg hg'⟩
  have hk : k < m := by
    have := (List.getElem?_eq_some_iff.1 hc).1
    simp at this
    omega
  have hc' : obs[k]? = some c := by rw [List.getElem?_take, if_pos hk] at hc; exact hc
  obtain ⟨b, hb, hok⟩ := h.obj k c hc'
  refine ⟨b, by rw [List.getElem?_take, if_pos hk]; exact hb, ?_⟩
  cases c with
  | dead => trivial
  | row sz xs => exact hok
  | cells cs =>
    obtain ⟨h1, cv, T, h2, h3, h4, h5⟩ := hok
    exact ⟨h1, cv, T, h2, h3, h4, fun i v a hv ha => (h5 i v a hv ha).gd (gdL_get (gdO_get g k cs hc) i a ha)⟩

theorem Ext.cut {M0 : Imm} {ob0 : List Nat} {tk0 : List Tok} {w0 w : World} (h : Ext M0 ob0 tk0 w0 M ob tk w) (hm : ob0.length ≤ m) : Ext M0 ob0 tk0 w0 M (ob.take m) (tk.take n) w where
  imm := h.imm
  new := h.new
  obj k b hb := by
    have := (List.getElem?_eq_some_iff.1 hb).1
    rw [List.getElem?_take, if_pos (by omega)]
    exact h.obj k b hb
  os := h.os
  tape := h.tape
  output := h.output
  size := h.size
  keep := h.keep
  fresh b hb := h.fresh b (List.mem_of_mem_take hb)
  tfresh t ht := h.tfresh t (List.mem_of_mem_take ht)

/-- let go of what is not wanted -/
theorem Goes.cut {E : Env} {fn : Func} {n0 : Nat} {r : Res} {obs' : List AObj} {nt' : Nat} {ks : List KI} {fr : List (Nat × AVal)} {obs : List AObj} {nt : Nat} (m n : Nat) (hm : Nat.ble n0 m = true) (hn : n ≤ nt) (hf : gdF m n fr = true)
    (ho : gdO m n (obs.take m) = true) (h : Goes E fn n0 r obs' nt' ks fr (obs.take m) n) : Goes E fn n0 r obs' nt' ks fr obs nt := by
  intro hst M0 ob0 tk0 w0 a w h0 ⟨M, ob, tk, hx, hmm, hnt, hfr, hsz, hd⟩
  have hle : ob0.length ≤ m := by have := Nat.le_of_ble_eq_true hm; omega
  exact h hst M0 ob0 tk0 w0 a w h0 ⟨M, ob.take m, tk.take n, hx.cut hle, hmm.cut ho, by rw [List.length_take]; omega, fun t => (hfr t).gd (gdF_get hf t), hsz, hd⟩

/-- the same, of a contract -/
theorem CallOK.cut {P : Program} {f : FuncId} {args : List AVal} {obs : List AObj} {nt : Nat} {x : AVal} {obs' : List AObj} {nt' : Nat} (m n : Nat) (hm : Nat.ble obs.length m = true) (hn : n ≤ nt') (hx : gd m n x = true)
    (ho : gdO m n (obs'.take m) = true) (h : CallOK P f args obs nt (.ret x) obs' nt') : CallOK P f args obs nt (.ret x) (obs'.take m) n := by
  refine ⟨h.1, fun M ob tk w vargs hmm hnt hr => (h.2 M ob tk w vargs hmm hnt hr).mono fun e w' ⟨M', ob', tk', h1, h2, h3, h4⟩ => ?_⟩
  have hle : ob.length ≤ m := by have := Nat.le_of_ble_eq_true hm; have := hmm.len; omega
  refine ⟨M', ob'.take m, tk'.take n, h1.cut hle, h2.cut ho, by rw [List.length_take]; omega, ?_⟩
  cases e with
  | returned v => exact Rep.gd h4 hx
  | panicked ch => exact h4.elim
  | outgrown => exact h4.elim

theorem CallOK.clean {P : Program} {f : FuncId} {args : List AVal} {nt : Nat} {x : AVal} (hx : gd 0 0 x = true) (h : ∃ obs' nt', CallOK P f args [] nt (.ret x) obs' nt') : CallOK P f args [] nt (.ret x) [] 0 := by
  obtain ⟨obs', nt', h⟩ := h
  exact CallOK.cut 0 0 rfl (Nat.zero_le _) hx rfl h

/-- FROM HERE THE FUNCTION COMES TO THAT END, whatever memory it leaves behind -/
def GoesC (E : Env) (fn : Func) (r : Res) (ks : List KI) (fr : List (Nat × AVal)) (obs : List AObj) (nt : Nat) : Prop := ∃ obs' nt', Goes E fn 0 r obs' nt' ks fr obs nt

theorem GoesC.stop {E : Env} {fn : Func} {r : Res} {ks : List KI} {fr : List (Nat × AVal)} {obs : List AObj} {nt : Nat} (hE : EnvOK E) (fuel sz : Nat) (o : List Ora) (ks' : List KI) (l : List Nat) {c : List Prop} {fr' : List (Nat × AVal)}
    {obs1 : List AObj} {nt1 : Nat} {o' : List Ora} (hsz : fn.ntmps = sz) (h : run E sz fuel ks [] fr obs nt o = some ⟨c, .stop ks', fr', obs1, nt1, o'⟩) (hc : All c) (hk : GoesC E fn r ks' (pickS l fr') obs1 nt1) : GoesC E fn r ks fr obs nt := by
  obtain ⟨obs', nt', hk⟩ := hk
  exact ⟨obs', nt', Goes.stop hE fuel sz o ks' l hsz h hc hk⟩

theorem GoesC.ret {E : Env} {fn : Func} {r : Res} {ks : List KI} {fr : List (Nat × AVal)} {obs : List AObj} {nt : Nat} (hE : EnvOK E) (fuel sz : Nat) (o : List Ora) {c : List Prop} {out : Out} {fr' : List (Nat × AVal)} {o' : List Ora} {x : AVal}
    {obs1 : List AObj} {nt1 : Nat} (hsz : fn.ntmps = sz) (hr : r = .ret x) (h : run E sz fuel ks [] fr obs nt o = some ⟨c, out, fr', obs1, nt1, o'⟩) (hout : out = .ret ∨ out = .done) (hc : All c) (hx : resE E.T obs1 fn.results.toList fr' = some x) : GoesC E fn r ks fr obs nt :=
  ⟨obs1, nt1, Goes.ret hE fuel sz o hsz hr h hout hc hx⟩

theorem GoesC.cut {E : Env} {fn : Func} {r : Res} {ks : List KI} {fr : List (Nat × AVal)} {obs : List AObj} {nt : Nat} (m n : Nat) (hn : n ≤ nt) (hf : gdF m n fr = true) (ho : gdO m n (obs.take m) = true) (h : GoesC E fn r ks fr (obs.take m) n) : GoesC E fn r ks fr obs nt := by
  obtain ⟨obs', nt', hk⟩ := h
  exact ⟨obs', nt', Goes.cut m n (by simp [Nat.ble_eq]) hn hf ho hk⟩

theorem CallOK.ofC {E : Env} {f : FuncId} {fn : Func} {args : List AVal} {nt : Nat} {x : AVal} (hf : E.P.funcs[f]? = some fn) (hb : fn.body = some (bodyOf fn)) (hbo : BodyOK E.P f) (hco : codeOK (bodyOf fn) = true) (hn : Nat.ble args.length fn.ntmps = true)
    (hx : gd 0 0 x = true) (h : GoesC E fn (.ret x) [.code (bodyOf fn)] (frA 0 args) [] nt) : CallOK E.P f args [] nt (.ret x) [] 0 := by
  obtain ⟨obs', nt', h⟩ := h
  exact CallOK.clean hx ⟨obs', nt', CallOK.of hf hb hbo hco hn h⟩
end
end Go.AM
