/-
  THE ENGINE, TOP: from a contract to a statement: what comes in, what is left. Over any program.
-/
import Derived.Test.YtgjcojagbgdpnaaEng27
import Derived.WalkKit
import Derived.ProofKit
import Derived.OpenShut
namespace Go.AM
open Go.RowKit Go.ChangeShapes Go.WideShapes Go.ChangeAt

/-- nothing of what was there is turned -/
theorem below_of {M M' : Imm} {w w' : World} (h : Ext M [] [] w M' [] [] w') : Below w.heap.size w w' :=
  ⟨h.os, h.tape, h.output, h.size, fun k hk => h.keep k hk (by simp) (fun t ht => by simp at ht)⟩

theorem mem0 (w : World) : Mem (fun _ _ => none) [] [] [] w where
  imm b o x h := by cases h
  len := rfl
  obj k c h := by simp at h
  lt b h := by simp at h
  inj := List.nodup_nil
  tok τ t h := by simp at h
  tokobj τ t g h := by simp at h
  tokinj τ τ' t t' g h := by simp at h

theorem calls_true {P : Program} {f : FuncId} {args : List AVal} {vargs : List Value} {w : World} {M : Imm} (h : CallOK P f args [] 0 (.ret (.bool true)) [] 0) (hm : Mem M [] [] [] w) (hr : RepL M [] [] vargs args) :
    Calls P f vargs.toArray w fun e w' => e = .returned (.bool true) ∧ Below w.heap.size w w' := by
  refine (h.2 M [] [] w vargs hm rfl hr).mono fun e w' ⟨M', ob', tk', h1, h2, h3, h4⟩ => ?_
  have e1 : ob' = [] := by have := h2.len; simpa using this
  have e2 : tk' = [] := by simpa using h3
  subst e1 e2
  refine ⟨?_, below_of h1⟩
  cases e with
  | returned v => rw [Rep.bool_inv h4]
  | panicked ch => exact h4.elim
  | outgrown => exact h4.elim

/- ---------- what comes in ---------- -/
section
variable {P : Program} {w : World} {r : Reach} {base : Nat} {t : TypeId} {v : Value}

theorem has_inR {k : IntKind} {n : Int} (h : k.has n) : inR k n := by
  cases k <;> simpa [IntKind.has, IntKind.min, IntKind.max, IntKind.signed, IntKind.bits, inR, kmin, kmax] using h

theorem okC_int {k : IntKind} (ht : P.underlying t = some (.int k)) (h : Cell.okWide P w r base t v) : ∃ n, v = .int k n ∧ inR k n := by
  unfold Cell.okWide at h
  rw [ht] at h
  unfold Cell.ok at h
  rw [ht] at h
  cases v <;> simp at h
  obtain ⟨rfl, h2⟩ := h
  exact ⟨_, rfl, has_inR h2⟩

theorem okC_str (ht : P.underlying t = some .string) (h : Cell.okWide P w r base t v) : ∃ l : List UInt8, v = .string ⟨l.toArray⟩ ∧ (l.length : Int) ≤ 9223372036854775807 := by
  unfold Cell.okWide at h
  rw [ht] at h
  unfold Cell.ok at h
  rw [ht] at h
  cases v <;> simp at h
  rename_i s
  obtain ⟨⟨l⟩⟩ := s
  exact ⟨l, rfl, h⟩

theorem okC_bool (ht : P.underlying t = some .bool) (h : Cell.okWide P w r base t v) : ∃ b, v = .bool b := by
  unfold Cell.okWide at h
  rw [ht] at h
  unfold Cell.ok at h
  rw [ht] at h
  cases v <;> simp at h
  exact ⟨_, rfl⟩

theorem okV_cell (hag : isAggT P t = false) (h : Value.okWide P w r base t v) : Cell.okWide P w r base t v := by
  unfold Value.okWide at h
  unfold isAggT at hag
  split at h
  · rename_i hu; rw [hu] at hag; cases hag
  · rename_i hu; rw [hu] at hag; cases hag
  · exact h

theorem okV_agg {ts : List TypeId} (hag : isAggT P t = true) (hts : P.cellTypes P.depth t = some ts) (hn : P.cellsOf t = ts.length) (h : Value.okWide P w r base t v) :
    ∃ cs : List Value, v = .agg cs.toArray ∧ cs.length = ts.length ∧ ∀ (i : Nat) c u, cs[i]? = some c → ts[i]? = some u → Cell.okWide P w r base u c := by
  have key : (∃ cs, v = .agg cs ∧ cs.size = P.cellsOf t ∧ Row.okWide P w r base t cs) := by
    unfold Value.okWide at h
    unfold isAggT at hag
    split at h
    · exact h
    · exact h
    · rename_i h1 h2
      split at hag
      · exact absurd ‹_› (h1 _)
      · exact absurd ‹_› (h2 _ _)
      · cases hag
  obtain ⟨cs, rfl, hsz, ts', h1, _, h2⟩ := key
  rw [hts] at h1
  cases h1
  refine ⟨cs.toList, by simp, by simp [hsz, hn], fun i c u hc hu => ?_⟩
  obtain ⟨u', e1, e2⟩ := h2 i c (by simpa using hc)
  have hlt := (List.getElem?_eq_some_iff.1 hu).1
  rw [Nat.mod_eq_of_lt hlt, hu] at e1
  cases e1
  exact e2

theorem okV_ints {k : IntKind} {ts : List TypeId} (hag : isAggT P t = true) (hts : P.cellTypes P.depth t = some ts) (hn : P.cellsOf t = ts.length) (hk : ∀ u ∈ ts, P.underlying u = some (.int k)) (h : Value.okWide P w r base t v) :
    ∃ ns : List Int, v = .agg (ns.map (Value.int k)).toArray ∧ ns.length = ts.length ∧ ∀ n ∈ ns, inR k n := by
  obtain ⟨cs, rfl, hl, hc⟩ := okV_agg hag hts hn h
  have : ∀ (cs : List Value) (ts : List TypeId), cs.length = ts.length → (∀ u ∈ ts, P.underlying u = some (.int k)) → (∀ (i : Nat) c u, cs[i]? = some c → ts[i]? = some u → Cell.okWide P w r base u c) →
      ∃ ns : List Int, cs = ns.map (Value.int k) ∧ ns.length = ts.length ∧ ∀ n ∈ ns, inR k n := by
    intro cs
    induction cs with
    | nil => intro ts hl _ _; exact ⟨[], rfl, by simpa using hl, fun n hn => by simp at hn⟩
    | cons c cs ih =>
      intro ts hl hk hc
      cases ts with
      | nil => simp at hl
      | cons u ts =>
        obtain ⟨n, rfl, hn⟩ := okC_int (hk u (by simp)) (hc 0 c u rfl rfl)
        obtain ⟨ns, rfl, h2, h3⟩ := ih ts (by simpa using hl) (fun u hu => hk u (by simp [hu])) (fun i c u h1 h2 => hc (i + 1) c u (by simpa using h1) (by simpa using h2))
        exact ⟨n :: ns, rfl, by simpa using h2, fun m hm => by rcases List.mem_cons.1 hm with rfl | hm; exact hn; exact h3 m hm⟩
  obtain ⟨ns, rfl, h2, h3⟩ := this cs ts hl hk hc
  exact ⟨ns, rfl, h2, h3⟩

theorem rep_ints {M : Imm} {ob : List Nat} {tk : List Tok} (k : IntKind) (ns : List Int) : Rep M ob tk (.agg (ns.map (Value.int k)).toArray) (.agg (ns.map (AVal.int k))) := by
  refine .agg _ _ (by simp) fun i v a hv ha => ?_
  simp only [List.getElem?_map] at hv ha
  cases hn : ns[i]? with
  | none => rw [hn] at hv; simp at hv
  | some n => rw [hn] at hv ha; simp at hv ha; subst hv ha; exact .int _ _

theorem repL1 {M : Imm} {ob : List Nat} {tk : List Tok} {v : Value} {a : AVal} (h : Rep M ob tk v a) {vs : List Value} {as : List AVal} (hs : RepL M ob tk vs as) : RepL M ob tk (v :: vs) (a :: as) := RepL.cons h hs
theorem repL0 {M : Imm} {ob : List Nat} {tk : List Tok} : RepL M ob tk [] [] := ⟨rfl, fun i v a h => by simp at h⟩
end

theorem arr1 {args : Array Value} (h : args.toList.length = 1) : ∃ a, args = #[a] := by
  obtain ⟨l⟩ := args
  match l, h with
  | [a], _ => exact ⟨a, rfl⟩
theorem arr2 {args : Array Value} (h : args.toList.length = 2) : ∃ a b, args = #[a, b] := by
  obtain ⟨l⟩ := args
  match l, h with
  | [a, b], _ => exact ⟨a, b, rfl⟩
theorem arr3 {args : Array Value} (h : args.toList.length = 3) : ∃ a b c, args = #[a, b, c] := by
  obtain ⟨l⟩ := args
  match l, h with
  | [a, b, c], _ => exact ⟨a, b, c, rfl⟩
theorem arr4 {args : Array Value} (h : args.toList.length = 4) : ∃ a b c d, args = #[a, b, c, d] := by
  obtain ⟨l⟩ := args
  match l, h with
  | [a, b, c, d], _ => exact ⟨a, b, c, d, rfl⟩
theorem arr5 {args : Array Value} (h : args.toList.length = 5) : ∃ a b c d e, args = #[a, b, c, d, e] := by
  obtain ⟨l⟩ := args
  match l, h with
  | [a, b, c, d, e], _ => exact ⟨a, b, c, d, e, rfl⟩

/- ---------- what is left ---------- -/
section
variable {H : Type} {enc : TypeId × Value → H} {P : Program}

def readB (P : Program) : List TypeId → Bool
  | [] => true
  | t :: ts => (P.readableRec t && decide (t < P.types.size)) && readB P ts

theorem trodAll_below (hl : laidOutB P = true) {W W' : World} (hb : Below W.heap.size W W') : ∀ {ts : List TypeId} {vs : List Value} {ds : List (DataW H)} {ps : List MemPlace}, readB P ts = true → (∀ x ∈ ps, x.block < W.heap.size) →
    DataW.TrodAll enc P W 0 (fun _ => true) true ts vs ds ps → DataW.TrodAll enc P W' 0 (fun b => decide (b < W.heap.size)) true ts vs ds ps := by
  intro ts
  induction ts with
  | nil =>
    intro vs ds ps _ _ h
    obtain ⟨rfl, rfl, rfl⟩ := trodAll_nil h
    exact trodAll_mk0
  | cons t ts ih =>
    intro vs ds ps hr hlt h
    simp only [readB, Bool.and_eq_true, decide_eq_true_eq] at hr
    obtain ⟨v, vs', d, ds', p, q, rfl, rfl, rfl, h0, h1⟩ := trodAll_cons h
    exact trodAll_cons_mk (Below.trod hl hr.1.1 hr.1.2 h0 hb fun x hx => hlt x (by simp [hx])) (ih hr.2 (fun x hx => hlt x (by simp [hx])) h1)

theorem trodAll_len {W : World} : ∀ {ts : List TypeId} {vs : List Value} {ds : List (DataW H)} {ps : List MemPlace}, DataW.TrodAll enc P W 0 (fun _ => true) true ts vs ds ps → vs.length = ts.length ∧ ds.length = ts.length := by
  intro ts
  induction ts with
  | nil =>
    intro vs ds ps h
    obtain ⟨rfl, rfl, rfl⟩ := trodAll_nil h
    exact ⟨rfl, rfl⟩
  | cons t ts ih =>
    intro vs ds ps h
    obtain ⟨v, vs', d, ds', p, q, rfl, rfl, rfl, h0, h1⟩ := trodAll_cons h
    obtain ⟨a, b⟩ := ih h1
    exact ⟨by simp [a], by simp [b]⟩

/-- true; what came in reads as it did -/
theorem post_true {fn : Func} {s : ChangeSpec} {W W' : World} {args : Array Value} {ds gs : List (DataW H)} {before : List MemPlace} {tb : TypeId} (hl : laidOutB P = true) (hr : readB P fn.params.toList = true) (hv : s.vars = [])
    (hrt : fn.resultTypes = #[tb]) (hb : P.underlying tb = some .bool) (hW : DataW.Whole enc P fn.params.toList s.vars false W args.toList ds gs before) (hbel : Below W.heap.size W W')
    (hfn : ds.length = fn.params.toList.length → (s.fn H ds).results = [.lit (.bool true)] ∧ (s.fn H ds).args = ds ∧ (s.fn H ds).vars = []) : s.post enc P fn false true false false W args (.bool true) W' := by
  have hlt := hW.lt
  have hW' := hW
  obtain ⟨p, q, hA, hV, rfl, hfz, hnd⟩ := hW
  rw [hv] at hV
  obtain ⟨rfl, rfl⟩ := trodVars_none hV
  obtain ⟨f1, f2, f3⟩ := hfn (trodAll_len hA).2
  refine ⟨ds, [], _, [], p, [], hW', ?_, ?_, ?_, hbel.frame _, fun h => by cases h⟩
  · rw [List.append_nil, f1, hrt]
    exact trodAll_cons_mk (shut_bool hb _) trodAll_mk0
  · rw [List.append_nil, f2]
    exact trodAll_below hl hbel hr (fun x hx => hlt x (by simp [hx])) hA
  · rw [List.append_nil, f3, hv]
    exact rfl
end
end Go.AM
