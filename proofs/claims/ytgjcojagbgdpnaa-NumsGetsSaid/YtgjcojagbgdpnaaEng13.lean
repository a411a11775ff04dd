/-
  THE ENGINE, 13: what each operation does, is what the evaluator says: operators, conversions, slices. Over any program.
-/
import Derived.Test.YtgjcojagbgdpnaaEng12
import Derived.Lib.Strings
namespace Go.AM
open Go.RowKit

section
variable {P : Program} {T : Tab} {M : Imm} {ob : List Nat} {tk : List Tok} {obs : List AObj} {nt : Nat} {w : World}

theorem mk_toList (l : List UInt8) : (⟨l.toArray⟩ : ByteArray).toList = l := by rw [ByteArray.toList_eq]
theorem mk_extract (l : List UInt8) (i j : Nat) : (⟨l.toArray⟩ : ByteArray).extract i j = ⟨((l.take j).drop i).toArray⟩ := by
  have h := Lib.extract_data ⟨l.toArray⟩ i j
  have : ((⟨l.toArray⟩ : ByteArray).extract i j).data = ((l.take j).drop i).toArray := by
    rw [← Array.toList_inj, h]
    simp [List.drop_take]
  cases hq : (⟨l.toArray⟩ : ByteArray).extract i j with
  | mk d => rw [hq] at this; simp at this; rw [this]
theorem mk_size (l : List UInt8) : (⟨l.toArray⟩ : ByteArray).size = l.length := by simp [ByteArray.size]

/-- integers: their values -/
theorem ceq_ints {M' : Imm} {ob' : List Nat} {tk' : List Tok} : ∀ {xs ys : List AVal} {c : Bool}, ceq xs ys = some c → ∀ {vs : List Value}, RepL M ob tk vs xs → RepL M' ob' tk' vs xs := by
  intro xs
  induction xs with
  | nil => intro ys c _ vs h; exact ⟨h.1, fun i v a _ ha => by simp at ha⟩
  | cons x xs ih =>
    intro ys c h vs hr
    cases ys with
    | nil => cases x <;> cases h
    | cons y ys =>
      cases x with
      | int k a =>
        cases y with
        | int k' b =>
          simp only [ceq] at h
          obtain ⟨_, h2⟩ := cond_some h
          cases hq : ceq xs ys with
          | none => simp [hq] at h2
          | some c' =>
            match vs, hr with
            | [], hr => exact absurd hr.1 (by simp)
            | v :: vs, hr =>
              have ht := ih hq (vs := vs) ⟨by simpa using hr.1, fun i u b hu hb => hr.2 (i + 1) u b (by simpa using hu) (by simpa using hb)⟩
              refine ⟨by simpa using hr.1, fun i u b hu hb => ?_⟩
              cases i with
              | zero =>
                simp at hu hb
                subst hu hb
                have := (hr.2 0 v _ rfl rfl).int_inv
                rw [this]
                exact .int _ _
              | succ i => exact ht.2 i u b (by simpa using hu) (by simpa using hb)
        | _ => cases h
      | _ => cases h
theorem ceq_swap : ∀ {xs ys : List AVal} {c : Bool}, ceq xs ys = some c → ∃ c', ceq ys xs = some c' := by
  intro xs
  induction xs with
  | nil => intro ys c h; cases ys with
    | nil => exact ⟨true, rfl⟩
    | cons y ys => cases h
  | cons x xs ih =>
    intro ys c h
    cases ys with
    | nil => cases x <;> cases h
    | cons y ys =>
      cases x with
      | int k a =>
        cases y with
        | int k' b =>
          simp only [ceq] at h
          obtain ⟨hk, h2⟩ := cond_some h
          have := kbeq_eq hk
          subst this
          cases hq : ceq xs ys with
          | none => simp [hq] at h2
          | some c' =>
            obtain ⟨d, hd⟩ := ih hq
            exact ⟨(b == a) && d, by simp only [ceq, hk, cond_true, hd]⟩
        | _ => cases h
      | _ => cases h

theorem ebin_sound {fl : List (Nat × Nat)} (hfl : ∀ t, 0 < fget fl t → FlatOK P t (fget fl t)) {op : BinOp} {t : TypeId} {x y : Operand} {vx vy : Value} {a b : AVal} (hx : Rep M ob tk vx a) (hy : Rep M ob tk vy b) {o : List Ora} {r : OR}
    (h : ebin fl op t a b o = some r) (hc : All r.conds) :
    ∃ c z o', r = .val c z o' ∧ ∃ u, (eqGuard op t x y vx vy >>= fun _ => binOp op t vx vy).run P w = .ok u w ∧ Rep M ob tk u z := by
  unfold ebin at h
  split at h
  · rename_i k x' k' y'
    have hx' := hx.int_inv
    have hy' := hy.int_inv
    subst hx' hy'
    have hg : ∀ op, (eqGuard op t x y (.int k x') (.int k' y')) = Pure.pure () := fun op => by cases op <;> rfl
    simp only [hg, Sem.run_bind, Sem.run_pure, Result.andThen_ok]
    split at h
    · split at h
      · cases h
        obtain ⟨c0, _⟩ := hc
        refine ⟨_, _, _, rfl, _, ?_, .int _ _⟩
        rw [binOp_shl]
        simp only [Op.shift]
        rw [if_neg (by omega)]
        rfl
      · cases h
        obtain ⟨c0, c1, c2, _⟩ := hc
        refine ⟨_, _, _, rfl, _, ?_, .int _ _⟩
        rw [binOp_shl]
        simp only [Op.shift]
        rw [if_neg (by omega), Nat.min_eq_left c1, wrap_inR c2]
        rfl
    · cases h
      obtain ⟨c0, c1, _⟩ := hc
      refine ⟨_, _, _, rfl, _, ?_, .int _ _⟩
      rw [binOp_shr]
      simp only [Op.shift]
      rw [if_neg (by omega), Nat.min_eq_left c1]
      rfl
    · obtain ⟨hk, h2⟩ := cond_some h
      have := kbeq_eq hk
      subst this
      obtain ⟨c, v, a, o', e, hr, hrep⟩ := run_eint (P := P) (M := M) (ob := ob) (tk := tk) (w := w) (t := t) h2 hc
      exact ⟨c, a, o', e, v, hr, hrep⟩
  · rename_i l1 l2
    have hx' := hx.str_inv
    have hy' := hy.str_inv
    subst hx' hy'
    have hg : ∀ op, (eqGuard op t x y (.string ⟨l1.toArray⟩) (.string ⟨l2.toArray⟩)) = Pure.pure () := fun op => by cases op <;> rfl
    simp only [hg, Sem.run_bind, Sem.run_pure, Result.andThen_ok]
    split at h
    · cases h
      refine ⟨_, _, _, rfl, .string ⟨(l1 ++ l2).toArray⟩, ?_, .str _⟩
      rw [binOp_string_add]
      rw [run_string_add_sum w _ _ (by rw [mk_size, mk_size]; have := hc.1; omega), ByteArray.mk_append_mk]
    · cases h; exact ⟨_, _, _, rfl, _, by rw [binOp_string_eql, mk_toList, mk_toList]; rfl, .bool _⟩
    · cases h; exact ⟨_, _, _, rfl, _, by rw [binOp_string_neq, mk_toList, mk_toList]; rfl, .bool _⟩
    · cases h; exact ⟨_, _, _, rfl, _, by rw [binOp_string_lss, mk_toList, mk_toList]; rfl, .bool _⟩
    · cases h; exact ⟨_, _, _, rfl, _, by rw [binOp_string_leq, mk_toList, mk_toList]; rfl, .bool _⟩
    · cases h; exact ⟨_, _, _, rfl, _, by rw [binOp_string_gtr, mk_toList, mk_toList]; rfl, .bool _⟩
    · cases h; exact ⟨_, _, _, rfl, _, by rw [binOp_string_geq, mk_toList, mk_toList]; rfl, .bool _⟩
    · cases h
  · rename_i xs ys
    obtain ⟨hf0, h2⟩ := cond_some h
    obtain ⟨hf1, hf2⟩ := beq_and hf0
    have hf : 0 < fget fl t := by simpa [Nat.blt_eq] using hf1
    have hlen := beq_yes hf2
    rw [clen_eq] at hlen
    cases hx with
    | agg vs as hl hr =>
      cases hy with
      | agg us bs hl' hr' =>
        split at h2
        · rename_i c hcq
          cases h2
          obtain ⟨c', hcq'⟩ := ceq_swap hcq
          obtain ⟨g1, g2⟩ := hfl t hf w x y _ _ vs us c hcq hlen (ceq_ints hcq ⟨hl, hr⟩) (ceq_ints hcq' ⟨hl', hr'⟩)
          refine ⟨_, _, _, rfl, .bool c, ?_, .bool c⟩
          simp only [Sem.run_bind, g1, Result.andThen_ok, binOp, g2, Sem.run_pure]
        · rename_i c hcq
          cases h2
          obtain ⟨c', hcq'⟩ := ceq_swap hcq
          obtain ⟨g1, g2⟩ := hfl t hf w x y _ _ vs us c hcq hlen (ceq_ints hcq ⟨hl, hr⟩) (ceq_ints hcq' ⟨hl', hr'⟩)
          refine ⟨_, _, _, rfl, .bool (!c), ?_, .bool _⟩
          simp only [Sem.run_bind, g1, Result.andThen_ok, binOp, g2, Sem.run_pure]
        · cases h2
  · cases h

theorem Rep.slice_nil {v : Value} {sz : Nat} {nl : Bool} {xs : List AVal} {t : Option (Nat × TypeId)} (h : Rep M ob tk v (.slice sz nl xs t)) : ∃ a n c, v = .slice a n c ∧ a.isNone = nl ∧ (nl = true → n = 0 ∧ c = 0) := by
  have h' : Rep M ob tk v (.slice sz nl xs none) := by
    cases h with
    | tok sz nl xs v τ e h ht => exact h
    | nilslice sz => exact .nilslice sz
    | slice sz b o n cap xs hn hc hz h => exact .slice sz b o n cap xs hn hc hz h
  cases h' with
  | nilslice sz => exact ⟨none, 0, 0, rfl, rfl, fun _ => ⟨rfl, rfl⟩⟩
  | slice sz b o n cap xs hn hc hz h => exact ⟨_, _, _, rfl, rfl, fun e => by cases e⟩

theorem hptr {P : Program} {t e : TypeId} (h : P.underlying t = some (.pointer e)) : P.underlying t = some (.pointer (P.pointee t)) := by
  simp [Program.pointee, h]

theorem ecmp_sound (hE : ∀ t ti, tget T t = some ti → TIOK P t ti) {op : BinOp} {t : TypeId} {x y : Operand} {vx vy : Value} {a b : AVal} (hx : Rep M ob tk vx a) (hy : Rep M ob tk vy b) {o : List Ora} {r : OR}
    (h : ecmp T op t a b o = some r) :
    ∃ c z o', r = .val c z o' ∧ ∃ u, (eqGuard op t x y vx vy >>= fun _ => binOp op t vx vy).run P w = .ok u w ∧ Rep M ob tk u z := by
  unfold ecmp at h
  split at h
  · cases h
  · rename_i ti hT
    have hkind := (hE t ti hT).kind
    -- what '==' says, both ways
    have fin : ∀ (c : Bool), outC op c o = some r →
        (∀ op, eqGuard op t x y vx vy = Pure.pure ()) → (∀ op, op = .eql ∨ op = .neq → binOp op t vx vy = (Op.equal t vx vy >>= fun r => Pure.pure (.bool (if op = .eql then r else !r)))) → (Op.equal t vx vy).run P w = .ok c w →
        ∃ c z o', r = .val c z o' ∧ ∃ u, (eqGuard op t x y vx vy >>= fun _ => binOp op t vx vy).run P w = .ok u w ∧ Rep M ob tk u z := by
      intro c h1 h2 h3 h4
      unfold outC at h1
      split at h1
      · cases h1
        refine ⟨_, _, _, rfl, .bool c, ?_, .bool c⟩
        rw [h2, h3 _ (.inl rfl)]
        simp only [Sem.run_bind, Sem.run_pure, Result.andThen_ok, h4, if_true]
      · cases h1
        refine ⟨_, _, _, rfl, .bool (!c), ?_, .bool _⟩
        rw [h2, h3 _ (.inr rfl)]
        simp only [Sem.run_bind, Sem.run_pure, Result.andThen_ok, h4]
        rfl
      · cases h1
    split at h
    · rename_i x' y' hk
      rw [hk] at hkind
      have hx' := hx.bool_inv
      have hy' := hy.bool_inv
      subst hx' hy'
      exact fin _ h (fun op => by cases op <;> rfl) (fun op ho => by rcases ho with rfl | rfl <;> rfl) (run_equal_bool w t x' y' hkind.1)
    · rename_i hk
      rw [hk] at hkind
      obtain ⟨a1, n1, c1, rfl, e1, _⟩ := hx.slice_nil
      obtain ⟨a2, n2, c2, rfl, e2, e3⟩ := hy.slice_nil
      obtain ⟨rfl, rfl⟩ := e3 rfl
      have ha2 : a2 = none := by cases a2 <;> first | rfl | cases e2
      subst ha2
      exact fin _ h (fun op => by cases op <;> rfl) (fun op ho => by rcases ho with rfl | rfl <;> rfl) (by rw [← e1]; exact run_equal_slice_nil w t _ a1 n1 c1 hkind.1.1)
    · rename_i hk
      rw [hk] at hkind
      obtain ⟨a2, n2, c2, rfl, e2, e3⟩ := hy.slice_nil
      obtain ⟨rfl, rfl⟩ := e3 rfl
      have ha2 : a2 = none := by cases a2 <;> first | rfl | cases e2
      subst ha2
      cases hx with
      | rsl _ _ _ _ _ b hb => exact fin _ h (fun op => by cases op <;> rfl) (fun op ho => by rcases ho with rfl | rfl <;> rfl) (run_equal_slice_nil w t _ _ _ _ hkind.1.1)
    · rename_i hk
      rw [hk] at hkind
      cases hx
      cases hy
      exact fin _ h (fun op => by cases op <;> rfl) (fun op ho => by rcases ho with rfl | rfl <;> rfl) (run_equal_pointer_nil w t _ (hptr hkind.1))
    · rename_i hk
      rw [hk] at hkind
      cases hy
      cases hx with
      | ref _ _ b hb => exact fin _ h (fun op => by cases op <;> rfl) (fun op ho => by rcases ho with rfl | rfl <;> rfl) (run_equal_pointer_nil w t _ (hptr hkind.1))
    · rename_i hk
      rw [hk] at hkind
      cases hy
      cases hx with
      | ptr b o' cs hM => exact fin _ h (fun op => by cases op <;> rfl) (fun op ho => by rcases ho with rfl | rfl <;> rfl) (run_equal_pointer_nil w t _ (hptr hkind.1))
    · cases h

theorem elen_sound (hE : ∀ t ti, tget T t = some ti → TIOK P t ti) {t ty : TypeId} {v : Value} {a : AVal} (hv : Rep M ob tk v a) {o : List Ora} {r : OR} (h : elen T t a o = some r) :
    ∃ z, r = .val [] z o ∧ ∃ u, (Builtin.len_ #[t] ty #[v]).run P w = .ok u w ∧ Rep M ob tk u z := by
  unfold elen at h
  split at h
  · cases h
  · rename_i ti hT
    have hkind := (hE t ti hT).kind
    split at h
    · rename_i l hk
      rw [hk] at hkind
      cases h
      have := hv.str_inv
      subst this
      exact ⟨_, rfl, _, by simp [Builtin.len_, run_underlying hkind.1, goInt, mk_size], .int _ _⟩
    · rename_i e esz eb sz nl xs tt hk
      rw [hk] at hkind
      cases h
      have hvs : Rep M ob tk v (.slice sz nl xs none) := by
        cases hv with
        | tok sz nl xs v τ e h ht => exact h
        | nilslice sz => exact .nilslice sz
        | slice sz b o n cap xs hn hc hz h => exact .slice sz b o n cap xs hn hc hz h
      cases hvs with
      | nilslice sz => exact ⟨_, rfl, .int .i64 0, by simp [Builtin.len_, run_underlying hkind.1.1, goInt], .int _ _⟩
      | slice sz b o n cap xs hn hc hz h => exact ⟨_, rfl, .int .i64 n, by simp [Builtin.len_, run_underlying hkind.1.1, goInt], by rw [hn]; exact .int _ _⟩
    · rename_i hk
      rw [hk] at hkind
      cases h
      cases hv with
      | rsl _ _ _ _ _ b hb => refine ⟨_, rfl, _, ?_, .int _ _⟩; simp [Builtin.len_, run_underlying hkind.1.1, goInt]
    · rename_i n esz ea hk
      rw [hk] at hkind
      obtain ⟨⟨e, hu, _⟩, _⟩ := hkind
      cases h
      exact ⟨_, rfl, .int .i64 n, by simp [Builtin.len_, run_underlying hu, goInt], .int _ _⟩
    · cases h

theorem econv_sound (hE : ∀ t ti, tget T t = some ti → TIOK P t ti) (hm : Mem M ob tk obs w) {s d : TypeId} {v : Value} {a : AVal} (hv : Rep M ob tk v a) {o : List Ora} {r : OR} (h : econv T s d a o = some r) (hc : All r.conds) :
    ∃ c z o', r = .val c z o' ∧ ∃ u, (convert s d v).run P w = .ok u w ∧ Rep M ob tk u z := by
  unfold econv at h
  split at h
  · rename_i ts td hs hd
    have hks := (hE s ts hs).kind
    have hkd := (hE d td hd).kind
    obtain ⟨hsome, _⟩ := hks.isAgg
    obtain ⟨ds, hds⟩ := Option.isSome_iff_exists.1 hsome
    split at h
    · rename_i k k0 n hk
      rw [hk] at hkd
      have := hv.int_inv
      subst this
      have key : (convert s d (.int k0 n)).run P w = .ok (.int k (k.wrap n)) w := by
        simp [convert, run_underlying hds, run_underlying hkd.1, Conv.intToInt]
      split at h
      · cases h; exact ⟨_, _, _, rfl, _, key, .int _ _⟩
      · cases h
        rw [wrap_inR hc.1] at key
        exact ⟨_, _, _, rfl, _, key, .int _ _⟩
    · rename_i l hk
      rw [hk] at hkd
      have := hv.str_inv
      subst this
      split at h
      · rename_i hk2
        rw [hk2] at hks
        cases h
        refine ⟨_, _, _, rfl, _, ?_, .str _⟩
        simp [convert, run_underlying hks.1, run_underlying hkd.1]
      · cases h
    · rename_i nl xs tt hk
      rw [hk] at hkd
      split at h
      · rename_i e eb l o' hk2
        rw [hk2] at hks
        obtain ⟨⟨hu, i', z, hi, hsz, _⟩, _⟩ := hks
        split at h
        · rename_i _ _ _ he
          have hke := (hE e _ he).kind
          cases h
          have hxs : xs = l.map fun c => .int .u8 c.toNat := hc.1
          have hvs : Rep M ob tk v (.slice 1 nl xs none) := by
            cases hv with
            | tok sz nl xs v τ e h ht => exact h
            | nilslice sz => exact .nilslice 1
            | slice sz b o n cap xs hn hc hz h => exact .slice 1 b o n cap xs hn hc hz h
          refine ⟨_, _, _, rfl, .string ⟨l.toArray⟩, ?_, .str _⟩
          cases hvs with
          | nilslice sz =>
            have hl : l = [] := by cases l <;> first | rfl | cases hxs
            subst hl
            rw [run_convert_bytes_string w s d e none 0 0 hu hke.1 hkd.1]
            simp [Conv.bytesToString]
            rfl
          | slice sz b o n cap xs hn hcap hz hM =>
            rw [run_convert_bytes_string w s d e _ n cap hu hke.1 hkd.1]
            have hcells : ∀ (j : Nat) u, (l.map fun c => Value.int .u8 c.toNat)[j]? = some u → w.cell? ((⟨b, o, none⟩ : Addr).add j) = some u := by
              intro j u hu'
              simp only [List.getElem?_map] at hu'
              obtain ⟨c, hc', rfl⟩ := Option.map_eq_some_iff.1 hu'
              have := hM j 0 (.int .u8 c.toNat) (.int .u8 c.toNat) (by rw [hxs]; simp [hc']) rfl
              rw [Nat.mul_one, Nat.add_zero] at this
              obtain ⟨u', h1, _, h2⟩ := hm.imm _ _ _ this
              rw [addr_add, h1, h2.int_inv]
            have hlen : n = (l.map fun c => Value.int .u8 c.toNat).length := by rw [← hn, hxs]; simp
            have hld := run_loadCells_list (P := P) w ⟨b, o, none⟩ _ hcells
            rw [← hlen] at hld
            have hmm : (l.map fun c => Value.int .u8 c.toNat) = (l.map fun c => (c.toNat : Int)).map (Value.int .u8) := by simp
            rw [hmm] at hld
            rw [run_bytesToString w _ n cap _ hld]
            congr 2
            have hfold : ∀ (l : List UInt8) (r : ByteArray), (l.map fun c => (c.toNat : Int)).foldl (fun r n => r.push (UInt8.ofNat n.toNat)) r = ⟨r.data ++ l.toArray⟩ := by
              intro l
              induction l with
              | nil => intro r; cases r; simp
              | cons c l ih =>
                intro r
                simp only [List.map_cons, List.foldl_cons, ih]
                cases r with
                | mk d => simp [ByteArray.push]
            rw [hfold]
            congr 1
            have : (ByteArray.empty).data = #[] := rfl
            rw [this]
            simp
        · cases h
      · cases h
    · cases h
  · cases h
end
end Go.AM
