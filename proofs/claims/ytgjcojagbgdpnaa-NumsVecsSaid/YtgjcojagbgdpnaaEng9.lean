/-
  THE ENGINE, 9: what each operation does, is what the evaluator says: scalars. Over any program.
-/
import Derived.Test.YtgjcojagbgdpnaaEng8
namespace Go.AM
open Go.RowKit

/- ---------- the tables ---------- -/
def isAggT (P : Program) (t : TypeId) : Bool := match P.underlying t with | some (.struct _) | some (.array _ _) => true | _ => false

def FieldsOK (P : Program) : List Field → List (Nat × Nat × Bool) → Prop
  | [], [] => True
  | f :: fs, (off, sz, ag) :: r => f.offset = off ∧ (P.info? f.type).map (·.size) = some sz ∧ (P.underlying f.type).isSome = true ∧ isAggT P f.type = ag ∧ FieldsOK P fs r
  | _, _ => False

def KindOK (P : Program) (t : Nat) (ag : Bool) (size : Nat) : TK → Prop
  | .int k => P.underlying t = some (.int k) ∧ ag = false ∧ size = 1
  | .bool => P.underlying t = some .bool ∧ ag = false ∧ size = 1
  | .str => P.underlying t = some .string ∧ ag = false ∧ size = 1
  | .strct fs => (∃ flds, P.underlying t = some (.struct flds) ∧ FieldsOK P flds.toList fs) ∧ ag = true
  | .arr n esz ea => (∃ e, P.underlying t = some (.array n e) ∧ (P.info? e).map (·.size) = some esz ∧ (P.underlying e).isSome = true ∧ isAggT P e = ea) ∧ ag = true
  | .slc e esz eb => (P.underlying t = some (.slice e) ∧ ∃ i z, P.info? e = some i ∧ i.size = esz ∧ i.bytes = eb ∧ i.zero = some z ∧ z.cells.size = esz) ∧ ag = false ∧ size = 1
  | .ptr e => P.underlying t = some (.pointer e) ∧ ag = false ∧ size = 1
  | .iface => (∃ ms, P.underlying t = some (.interface ms)) ∧ ag = false ∧ size = 1
  | .other => (∃ d, P.underlying t = some d ∧ (∀ ms, d ≠ .interface ms)) ∧ isAggT P t = ag

structure TIOK (P : Program) (t : Nat) (ti : TI) : Prop where
  info : ∃ i z, P.info? t = some i ∧ i.size = ti.size ∧ i.zero = some z ∧ z.cells.size = ti.size ∧ Rep (fun _ _ => none) [] [] z ti.zero ∧ z.cells.toList.all (·.oneCell') = true ∧ ti.zero ≠ .undef
  kind : KindOK P t ti.agg ti.size ti.kind

def FlatOK (P : Program) (t n : Nat) : Prop := ∀ (w : World) (x y : Operand) (xs ys : List AVal) (vs us : List Value) (c : Bool), ceq xs ys = some c → xs.length = n →
  RepL (fun _ _ => none) [] [] vs xs → RepL (fun _ _ => none) [] [] us ys →
  (∀ op, (eqGuard op t x y (.agg vs.toArray) (.agg us.toArray)).run P w = .ok () w) ∧ (Op.equal t (.agg vs.toArray) (.agg us.toArray)).run P w = .ok c w

structure EnvOK (E : Env) : Prop where
  mix : E.P.follows .mixedOrders = true
  tab : ∀ t ti, tget E.T t = some ti → TIOK E.P t ti
  mth : ∀ t name g, mget E.mt t name = some g → ∀ v w, (method (E.P.types.size + Made.depth) t v name).run E.P w = .ok (g, v) w
  fl : ∀ t, 0 < fget E.fl t → FlatOK E.P t (fget E.fl t)

theorem KindOK.isAgg {P : Program} {t : Nat} {ag : Bool} {size : Nat} {k : TK} (h : KindOK P t ag size k) : (P.underlying t).isSome = true ∧ isAggT P t = ag := by
  cases k with
  | strct fs => obtain ⟨⟨f, h1, _⟩, h2⟩ := h; simp [isAggT, h1, h2]
  | arr n esz ea => obtain ⟨⟨f, h1, _⟩, h2⟩ := h; simp [isAggT, h1, h2]
  | slc e a b => obtain ⟨⟨h1, _⟩, h2, _⟩ := h; simp [isAggT, h1, h2]
  | iface => obtain ⟨⟨ms, h1⟩, h2, _⟩ := h; simp [isAggT, h1, h2]
  | other => obtain ⟨⟨d, h1, _⟩, h2⟩ := h; exact ⟨by simp [h1], h2⟩
  | _ => obtain ⟨h1, h2, _⟩ := h; simp [isAggT, h1, h2]

theorem run_isAgg {P : Program} {t : Nat} (h : (P.underlying t).isSome = true) (w : World) : (isAgg t).run P w = .ok (isAggT P t) w := by
  obtain ⟨d, hd⟩ := Option.isSome_iff_exists.1 h
  unfold isAgg
  simp only [Sem.run_bind, run_underlying hd, Result.andThen_ok, isAggT, hd]
  cases d <;> rfl

theorem run_sizeOf {P : Program} {t : Nat} {s : Nat} (h : (P.info? t).map (·.size) = some s) (w : World) : (sizeOf t).run P w = .ok s w := by
  obtain ⟨i, hi, rfl⟩ := Option.map_eq_some_iff.1 h
  simp [sizeOf, typeInfo, hi]

/- ---------- what an operation comes to ---------- -/
def OpRuns (P : Program) (o : Oper) (ρ : Operand → Value) (w : World) (R : Ending → World → Prop) : Prop :=
  (∃ v w', (execOp ρ o).run P w = .ok (.value v) w' ∧ R (.returned v) w') ∨
  (∃ w', (execOp ρ o).run P w = .ok .skip w' ∧ R (.returned undef) w') ∨
  (∃ v w', (execOp ρ o).run P w = .halt (.panic v) w' ∧ R (.panicked [{ v, recovered := false }]) w') ∨
  (∃ f args w', (execOp ρ o).run P w = .ok (.enter f args) w' ∧ Calls P f args w' fun e w'' => R e w'' ∧ e ≠ .outgrown)

theorem OpRuns.wp {P : Program} {o : Oper} {a : Act} {w : World} {R : Ending → World → Prop} (h : OpRuns P o a.eval w R) {next : Act → World → Prop} {Q : Exit → Act → World → Prop}
    (h1 : ∀ v w', R (.returned v) w' → next (a.put o.dst v) w') (h2 : ∀ ch w', R (.panicked ch) w' → Q (.panic ch) a w') : o.wp P a w next Q := by
  unfold Oper.wp
  rcases h with ⟨v, w', hr, hR⟩ | ⟨w', hr, hR⟩ | ⟨v, w', hr, hR⟩ | ⟨f, args, w', hr, hc⟩
  · rw [hr]; exact h1 v w' hR
  · rw [hr]; exact h1 undef w' hR
  · rw [hr]; exact h2 _ w' hR
  · rw [hr]
    refine hc.mono fun e w'' ⟨hR, hne⟩ => ?_
    cases e with
    | returned v => exact h1 v w'' hR
    | panicked ch => exact h2 ch w'' hR
    | outgrown => exact absurd rfl hne

def OR.obs (obs : List AObj) : OR → List AObj
  | .new _ _ x _ => osnoc obs x
  | .upd _ k x _ => oset obs k x
  | .tkc _ τ _ _ => untOL τ obs
  | _ => obs
def OR.nt (nt : Nat) : OR → Nat
  | .tkn _ _ m _ => nt + m
  | _ => nt
def OR.conds : OR → List Prop
  | .val c _ _ | .new c _ _ _ | .upd c _ _ _ | .tkn c _ _ _ | .tkc c _ _ _ | .pan c _ => c
def OR.res : OR → Res
  | .val _ v _ | .new _ v _ _ | .tkn _ v _ _ | .tkc _ _ v _ => .ret v
  | .upd _ _ _ _ => .ret .undef
  | .pan _ v => .pan v
def OR.but (M : Imm) (ob : List Nat) (tk : List Tok) (M' : Imm) (ob' : List Nat) (tk' : List Tok) : OR → Prop
  | .tkc _ τ _ _ => But M ob tk τ M' ob' tk'
  | _ => ∀ (σ : Nat) t, tk[σ]? = some t → tk'[σ]? = some t

structure OpOK (M : Imm) (ob : List Nat) (tk : List Tok) (obs : List AObj) (nt : Nat) (w : World) (r : OR) (e : Ending) (w' : World) (M' : Imm) (ob' : List Nat) (tk' : List Tok) : Prop where
  ext : Ext M ob tk w M' ob' tk' w'
  mem : Mem M' ob' tk' (r.obs obs) w'
  nt : tk'.length = r.nt nt
  tok : r.but M ob tk M' ob' tk'
  res : EndRep M' ob' tk' e r.res

/-- what is claimed of each operation -/
def Sound (P : Program) (op : Op) (ρ : Operand → Value) (ty : TypeId) (M : Imm) (ob : List Nat) (tk : List Tok) (obs : List AObj) (nt : Nat) (w : World) (r : OR) : Prop :=
  ∀ d pos after g, OpRuns P ⟨d, op, ty, pos, after, g⟩ ρ w fun e w' => ∃ M' ob' tk', OpOK M ob tk obs nt w r e w' M' ob' tk'

section
variable {P : Program} {op : Op} {ρ : Operand → Value} {ty : TypeId} {M : Imm} {ob : List Nat} {tk : List Tok} {obs : List AObj} {nt : Nat} {w : World}

/-- the simplest case: a value, memory as it was -/
theorem Sound.same (hm : Mem M ob tk obs w) (hnt : tk.length = nt) {v : Value} (he : ∀ d pos after g, (execOp ρ ⟨d, op, ty, pos, after, g⟩).run P w = .ok (.value v) w) {c : List Prop} {a : AVal} {o : List Ora} (hr : Rep M ob tk v a) :
    Sound P op ρ ty M ob tk obs nt w (.val c a o) := fun d pos after g =>
  .inl ⟨v, w, he d pos after g, M, ob, tk, Ext.refl _ _ _ _, hm, hnt, fun _ _ h => h, hr⟩

theorem run_v {α : Type} {f : α → Next} {s : Sem α} {a : α} {w' : World} (h : s.run P w = .ok a w') : (s >>= fun x => (Pure.pure (f x) : Sem Next)).run P w = .ok (f a) w' := by
  simp only [Sem.run_bind, h, Result.andThen_ok, Sem.run_pure]
end

theorem wrap_inR {k : IntKind} {n : Int} (h : inR k n) : k.wrap n = n := by
  unfold inR kmin kmax at h
  unfold IntKind.wrap
  cases k <;> simp only [IntKind.bits, IntKind.signed] at * <;> simp at * <;> omega

theorem kbeq_eq {k k' : IntKind} (h : kbeq k k' = true) : k = k' := by cases k <;> cases k' <;> first | rfl | cases h

section
variable {P : Program} {ρ : Operand → Value} {ty : TypeId} {M : Imm} {ob : List Nat} {tk : List Tok} {obs : List AObj} {nt : Nat} {w : World}

theorem Rep.int_inv {v : Value} {k : IntKind} {n : Int} (h : Rep M ob tk v (.int k n)) : v = .int k n := by cases h; rfl
theorem Rep.bool_inv {v : Value} {b : Bool} (h : Rep M ob tk v (.bool b)) : v = .bool b := by cases h; rfl
theorem Rep.str_inv {v : Value} {l : List UInt8} (h : Rep M ob tk v (.str l)) : v = .string ⟨l.toArray⟩ := by cases h; rfl

theorem run_earith {op : BinOp} {t : TypeId} {k : IntKind} {x y n : Int} (hb : (binOp op t (.int k x) (.int k y)).run P w = .ok (.int k (k.wrap n)) w)
    {o : List Ora} {r : OR} (h : earith k n o = some r) (hc : All r.conds) : ∃ c v o', r = .val c (.int k v) o' ∧ (binOp op t (.int k x) (.int k y)).run P w = .ok (.int k v) w := by
  unfold earith at h
  split at h
  · cases h; exact ⟨_, _, _, rfl, hb⟩
  · cases h
    refine ⟨_, _, _, rfl, ?_⟩
    rw [hb, wrap_inR hc.1]

theorem run_eint {op : BinOp} {t : TypeId} {k : IntKind} {x y : Int} {o : List Ora} {r : OR} (h : eint op k x y o = some r) (hc : All r.conds) :
    ∃ c v a o', r = .val c a o' ∧ (binOp op t (.int k x) (.int k y)).run P w = .ok v w ∧ Rep M ob tk v a := by
  cases op with
  | add =>
    obtain ⟨c, v, o', e, hr⟩ := run_earith (P := P) (w := w) (t := t) (op := .add) (x := x) (y := y) (by rw [binOp_add]; rfl) h hc
    exact ⟨c, _, _, o', e, hr, .int _ _⟩
  | sub =>
    obtain ⟨c, v, o', e, hr⟩ := run_earith (P := P) (w := w) (t := t) (op := .sub) (x := x) (y := y) (by rw [binOp_sub]; rfl) h hc
    exact ⟨c, _, _, o', e, hr, .int _ _⟩
  | mul =>
    obtain ⟨c, v, o', e, hr⟩ := run_earith (P := P) (w := w) (t := t) (op := .mul) (x := x) (y := y) (by rw [binOp_mul]; rfl) h hc
    exact ⟨c, _, _, o', e, hr, .int _ _⟩
  | quo =>
    simp only [eint] at h
    split at h
    · cases h
      exact ⟨_, _, _, _, rfl, by rw [binOp_quo]; simp only [Op.intDiv, if_neg hc.1]; rfl, .int _ _⟩
    · cases h
      exact ⟨_, _, _, _, rfl, by rw [binOp_quo]; simp only [Op.intDiv, if_neg hc.1, wrap_inR hc.2.1]; rfl, .int _ _⟩
  | rem => cases h; exact ⟨_, _, _, _, rfl, by rw [binOp_rem]; simp only [Op.intDiv, if_neg hc.1]; rfl, .int _ _⟩
  | and => cases h; exact ⟨_, _, _, _, rfl, by rw [binOp_and]; rfl, .int _ _⟩
  | or => cases h; exact ⟨_, _, _, _, rfl, by rw [binOp_or]; rfl, .int _ _⟩
  | xor => cases h; exact ⟨_, _, _, _, rfl, by rw [binOp_xor]; rfl, .int _ _⟩
  | andNot => cases h; exact ⟨_, _, _, _, rfl, by rw [binOp_andNot]; rfl, .int _ _⟩
  | shl => cases h
  | shr => cases h
  | eql => cases h; exact ⟨_, _, _, _, rfl, by rw [binOp_eql]; rfl, .bool _⟩
  | neq => cases h; exact ⟨_, _, _, _, rfl, by rw [binOp_neq]; rfl, .bool _⟩
  | lss => cases h; exact ⟨_, _, _, _, rfl, by rw [binOp_lss]; rfl, .bool _⟩
  | leq => cases h; exact ⟨_, _, _, _, rfl, by rw [binOp_leq]; rfl, .bool _⟩
  | gtr => cases h; exact ⟨_, _, _, _, rfl, by rw [binOp_gtr]; rfl, .bool _⟩
  | geq => cases h; exact ⟨_, _, _, _, rfl, by rw [binOp_geq]; rfl, .bool _⟩

theorem toList_mk (l : List UInt8) : (⟨l.toArray⟩ : ByteArray).toList = l := by rw [ByteArray.toList_eq]
end
end Go.AM
