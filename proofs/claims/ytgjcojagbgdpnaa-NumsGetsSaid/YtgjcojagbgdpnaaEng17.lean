/-
  THE ENGINE, 17: what each operation does, is what the evaluator says: append, calls; all of them. Over any program.
-/
import Derived.Test.YtgjcojagbgdpnaaEng16
namespace Go.AM
open Go.RowKit

section
variable {P : Program} {T : Tab} {M : Imm} {ob : List Nat} {tk : List Tok} {obs : List AObj} {nt : Nat} {w : World}

theorem But.refl (M : Imm) (ob : List Nat) (tk : List Tok) (τ : Nat) : But M ob tk τ M ob tk := ⟨fun _ _ _ h => h, fun _ _ h => h, fun _ _ _ h => h⟩

theorem set_same (tk : List Tok) (τ : Nat) (t : Tok) (h : tk[τ]? = some t) : tk.set τ t = tk := by
  apply List.ext_getElem?
  intro i
  by_cases hi : i = τ
  · subst hi
    rw [List.getElem?_set_self (List.getElem?_eq_some_iff.1 h).1, h]
  · rw [List.getElem?_set_ne (fun e => hi e.symm)]

/-- 'append' to a row that we own -/
theorem append_own (hm : Mem M ob tk obs w) {t e : TypeId} {ie : TypeInfo} {z : Value} (hu : P.underlying t = some (.slice e)) (hi : P.info? e = some ie) (hz : ie.zero = some z) (hzs : z.cells.size = ie.size) (hpos : 0 < ie.size)
    {τ : Nat} {v : Value} {nl : Bool} {xs ys : List AVal} {nl' : Bool} {t' : Option (Nat × TypeId)} {u : Value} (hv : Rep M ob tk v (.slice ie.size nl xs (some (τ, e)))) (hy : Rep M ob tk u (.slice ie.size nl' ys t'))
    (hlen : xs.length + ys.length ≤ maxLen) (hbytes : (xs.length + ys.length) * ie.bytes ≤ 140737488355328) (ty : TypeId) :
    ∃ v' w' M' tk', (Builtin.append_ #[t, t] ty #[v, u]).run P w = .ok v' w' ∧ tk'.length = tk.length ∧ Mem M' ob tk' (untOL τ obs) w' ∧ Ext M ob tk w M' ob tk' w' ∧ But M ob tk τ M' ob tk' ∧
      Rep M' ob tk' v' (.slice ie.size (nlApp nl ys) (xs ++ ys) (some (τ, e))) := by
  cases hv with
  | tok sz nl xs v τ e hv ht =>
    obtain ⟨n0, olds, hown, htail⟩ := hm.tok τ _ ht
    have hn : n0 = xs.length := by
      cases hv with
      | nilslice sz =>
        rcases hown.2 with ⟨_, h0⟩ | ⟨g, cap, cur, e1, _⟩
        · exact h0
        · cases e1
      | slice sz b o n cap xs hn hc hz' hM =>
        rcases hown.2 with ⟨e1, _⟩ | ⟨g, cap', cur, e1, _⟩
        · cases e1
        · cases e1; exact hn.symm
    subst hn
    cases hy.untok with
    | nilslice sz =>
      have hr := run_append_cases_none (P := P) w t ty e ie hu hi v _ olds hown
      refine ⟨v, w, M, tk, hr, rfl, hm.unt τ, Ext.refl _ _ _ _, But.refl _ _ _ _, ?_⟩
      rw [List.append_nil]
      exact .tok _ _ _ _ _ _ hv ht
    | slice sz b o n cap ys hn hc hzy hM =>
      subst hn
      obtain ⟨news, l1, l2, l3, l4⟩ := hm.sliceCells hzy hM
      obtain ⟨v', w', hr, hown', hos, htape, hout, hsize, hnil, hcase⟩ := run_append_cases (P := P) w t ty e ie z hu hi hz hzs v xs.length olds hown ⟨b, o, none⟩ ys.length cap news l1 (fun j u hj => by rw [addr_add]; exact l2 j u hj) l3 hlen hbytes
      obtain ⟨M', h1, h2, h3, h4⟩ := hm.append ht hv hpos hown hzy l1 l3 l4 hown' hos htape hout hsize hnil hcase
      exact ⟨v', w', M', _, hr, by simp, h1, h2, h3, h4⟩

/-- a nil slice gets a token -/
theorem Mem.nilTok (hm : Mem M ob tk obs w) (e : TypeId) (sz : Nat) : Mem M ob (tk ++ [⟨.slice none 0 0, e, sz⟩]) obs w :=
  hm.addTok _ ⟨0, [], World.ownsRow_nil w 0 e sz, fun g hg => by simp [Value.ownBlock] at hg⟩ (fun g hg => by simp [Value.ownBlock] at hg) (fun t' _ g hg => by simp [Value.ownBlock] at hg)

theorem tk_up (tk : List Tok) (t : Tok) : ∀ (k : Nat) b, tk[k]? = some b → (tk ++ [t])[k]? = some b := fun k b hk => by
  rw [List.getElem?_append_left (by exact (List.getElem?_eq_some_iff.1 hk).1)]; exact hk

theorem Ext.tokNil (e : TypeId) (sz : Nat) : Ext M ob tk w M ob (tk ++ [⟨.slice none 0 0, e, sz⟩]) w where
  imm _ _ _ h := h
  new _ _ _ h := .inl h
  obj _ _ h := h
  os := rfl
  tape := rfl
  output := rfl
  size := Nat.le_refl _
  keep _ _ _ _ := rfl
  fresh _ h := .inl h
  tfresh t ht b hb := by
    rcases List.mem_append.1 ht with h | h
    · exact .inr ⟨t, h, hb⟩
    · simp at h; subst h; simp [Value.ownBlock] at hb

theorem zlen (z : Array Value) (n : Nat) : (Builtin.zeroCells z n).toList.length = n * z.size := by
  rw [← size_zeroCells]; simp

/-- 'append' to nil -/
theorem append_nil (hm : Mem M ob tk obs w) (hnt : tk.length = nt) {t e : TypeId} {ie : TypeInfo} {z : Value} (hu : P.underlying t = some (.slice e)) (hi : P.info? e = some ie) (hz : ie.zero = some z) (hzs : z.cells.size = ie.size) (hpos : 0 < ie.size)
    {ys : List AVal} {nl' : Bool} {t' : Option (Nat × TypeId)} {u : Value} (hy : Rep M ob tk u (.slice ie.size nl' ys t'))
    (hlen : ys.length ≤ maxLen) (hbytes : ys.length * ie.bytes ≤ 140737488355328) (ty : TypeId) :
    ∃ v' w' M' tk', (Builtin.append_ #[t, t] ty #[.slice none 0 0, u]).run P w = .ok v' w' ∧ tk'.length = nt + 1 ∧ Mem M' ob tk' obs w' ∧ Ext M ob tk w M' ob tk' w' ∧ (∀ (σ : Nat) t, tk[σ]? = some t → tk'[σ]? = some t) ∧
      Rep M' ob tk' v' (.slice ie.size (nlApp true ys) ys (some (nt, e))) := by
  have hlast : ∀ t : Tok, (tk ++ [t])[nt]? = some t := fun t => by rw [← hnt]; simp
  have hown : w.ownsRow 0 e ie.size (.slice none 0 0) 0 [] := World.ownsRow_nil w 0 e ie.size
  have nilcase : ys = [] → (Builtin.append_ #[t, t] ty #[.slice none 0 0, u]).run P w = .ok (.slice none 0 0) w → ∃ v' w' M' tk', (Builtin.append_ #[t, t] ty #[.slice none 0 0, u]).run P w = .ok v' w' ∧ tk'.length = nt + 1 ∧ Mem M' ob tk' obs w' ∧ Ext M ob tk w M' ob tk' w' ∧ (∀ (σ : Nat) t, tk[σ]? = some t → tk'[σ]? = some t) ∧
      Rep M' ob tk' v' (.slice ie.size (nlApp true ys) ys (some (nt, e))) := by
    intro h0 hr
    subst h0
    exact ⟨_, w, M, _, hr, by simp [hnt], hm.nilTok e ie.size, Ext.tokNil _ _, tk_up _ _, .tok _ _ _ _ _ _ (.nilslice _) (hlast _)⟩
  cases hy.untok with
  | nilslice sz => exact nilcase rfl (run_append_cases_none (P := P) w t ty e ie hu hi _ _ _ hown)
  | slice sz b o n cap ys hn hc hzy hM =>
    subst hn
    obtain ⟨news, l1, l2, l3, l4⟩ := hm.sliceCells hzy hM
    by_cases h0 : ys = []
    · subst h0
      have hnews : news = [] := List.eq_nil_of_length_eq_zero (by simpa using l1)
      obtain ⟨v', w', hr, _, _, _, _, _, hnil, hcase⟩ := run_append_cases (P := P) w t ty e ie z hu hi hz hzs _ 0 [] hown ⟨b, o, none⟩ 0 cap news (by simpa using l1) (fun j u hj => by rw [addr_add]; exact l2 j u hj) l3 (by simp [maxLen]) (by simp)
      refine nilcase rfl ?_
      simp [Builtin.append_, run_underlying hu, sizeOf, typeInfo, hi, Builtin.lenOf, Builtin.firstCells, loadCells, loadCellsFrom]
    · have hpos' : 0 < ys.length := List.length_pos_iff.2 h0
      have hsm : ys.length ≤ 9223372036854775807 := by simp only [maxLen] at hlen; omega
      have hr := run_append_nil (P := P) w t ty e ie z hu hi hz ⟨b, o, none⟩ ys.length cap news l1 (fun j u hj => by rw [addr_add]; exact l2 j u hj) hpos' (by omega) (by omega)
      have hge := grownCap_ge w ys.length 0 e
      have hcm : grownCap w ys.length 0 e ≤ maxLen := grownCap_le_maxLen w ys.length 0 e hlen
      have hca : (news.toArray ++ Builtin.zeroCells z.cells (grownCap w ys.length 0 e - ys.length)) = (news ++ (Builtin.zeroCells z.cells (grownCap w ys.length 0 e - ys.length)).toList).toArray := by simp
      obtain ⟨M', m1, m2, m3, m4, m5, m6⟩ := hm.newRow (w' := w.drew.alloc (.cells (news.toArray ++ Builtin.zeroCells z.cells (grownCap w ys.length 0 e - ys.length)) e)) hpos (e := e) (xs := ys) (cap := grownCap w ys.length 0 e)
        (cells := news ++ (Builtin.zeroCells z.cells (grownCap w ys.length 0 e - ys.length)).toList)
        (by rw [List.length_append, zlen, hzs, l1, ← Nat.add_mul]; congr 1; omega) hge hcm hzy
        (fun j u hj hju => by rw [List.getElem?_append_left (by omega)] at hju; exact l3 u (List.mem_of_getElem? hju))
        (fun j u c hju hcj => by
          have : j < news.length := by
            obtain ⟨y, hy', _⟩ := cellAt_inv hcj
            rw [l1]
            exact (Nat.div_lt_iff_lt_mul hpos).1 (List.getElem?_eq_some_iff.1 hy').1
          rw [List.getElem?_append_left this] at hju
          exact l4 j u c hju hcj)
        rfl rfl rfl (alloc_size _ _) (fun b hb => heap_alloc_old w.drew _ hb) (by rw [← hca]; exact heap_alloc_new w.drew _)
      exact ⟨_, _, M', _, hr, by simp [hnt], m5, m6, tk_up _ _, by rw [nlApp_cons h0]; exact .tok _ _ _ _ _ _ (m4.mono (fun _ _ _ h => h) (fun _ _ h => h) (tk_up _ _)) (hlast _)⟩

/-- 'append' to a slice without spare places -/
theorem append_full (hm : Mem M ob tk obs w) (hnt : tk.length = nt) {t e : TypeId} {ie : TypeInfo} {z : Value} (hu : P.underlying t = some (.slice e)) (hi : P.info? e = some ie) (hz : ie.zero = some z) (hzs : z.cells.size = ie.size) (hpos : 0 < ie.size)
    {v : Value} {nl : Bool} {xs ys : List AVal} {nl' : Bool} {t' : Option (Nat × TypeId)} {u : Value} (hv : Rep M ob tk v (.full ie.size nl xs)) (hy : Rep M ob tk u (.slice ie.size nl' ys t')) (h0 : ys ≠ [])
    (hlen : xs.length + ys.length ≤ maxLen) (hbytes : (xs.length + ys.length) * ie.bytes ≤ 140737488355328) (ty : TypeId) :
    ∃ v' w' M' tk', (Builtin.append_ #[t, t] ty #[v, u]).run P w = .ok v' w' ∧ tk'.length = nt + 1 ∧ Mem M' ob tk' obs w' ∧ Ext M ob tk w M' ob tk' w' ∧ (∀ (σ : Nat) t, tk[σ]? = some t → tk'[σ]? = some t) ∧
      Rep M' ob tk' v' (.slice ie.size false (xs ++ ys) (some (nt, e))) := by
  cases hv with
  | full sz nl xs a n hv =>
    cases hv with
    | nilslice sz =>
      have := append_nil hm hnt hu hi hz hzs hpos hy (by simpa using hlen) (by simpa using hbytes) ty
      rw [nlApp_cons h0] at this
      simpa using this
    | slice sz b1 o1 n cap xs hn hc hzx hM1 =>
      cases hy.untok with
      | nilslice sz => exact absurd rfl h0
      | slice sz b o n2 cap ys hn2 hc2 hzy hM =>
        subst hn hn2
        have hlast : ∀ t : Tok, (tk ++ [t])[nt]? = some t := fun t => by rw [← hnt]; simp
        obtain ⟨olds, k1, k2, k3, k4⟩ := hm.sliceCells hzx hM1
        obtain ⟨news, l1, l2, l3, l4⟩ := hm.sliceCells hzy hM
        have hpos' : 0 < ys.length := List.length_pos_iff.2 h0
        have hsm : xs.length + ys.length ≤ 9223372036854775807 := by simp only [maxLen] at hlen; omega
        have hr := run_append_grow (P := P) w t ty e ie z hu hi hz ⟨b1, o1, none⟩ xs.length xs.length olds k1 (fun j u hj => by rw [addr_add]; exact k2 j u hj) ⟨b, o, none⟩ ys.length cap news l1 (fun j u hj => by rw [addr_add]; exact l2 j u hj) (by omega) (by omega) (growslice_fits (by omega) hbytes)
        have hge := grownCap_ge w (xs.length + ys.length) xs.length e
        have hcm : grownCap w (xs.length + ys.length) xs.length e ≤ maxLen := grownCap_le_maxLen w (xs.length + ys.length) xs.length e hlen
        have hca : (olds.toArray ++ news.toArray ++ Builtin.zeroCells z.cells (grownCap w (xs.length + ys.length) xs.length e - (xs.length + ys.length))) = ((olds ++ news) ++ (Builtin.zeroCells z.cells (grownCap w (xs.length + ys.length) xs.length e - (xs.length + ys.length))).toList).toArray := by simp
        have hlo : (olds ++ news).length = (xs.length + ys.length) * ie.size := by rw [List.length_append, k1, l1, Nat.add_mul]
        obtain ⟨M', m1, m2, m3, m4, m5, m6⟩ := hm.newRow (w' := w.drew.alloc (.cells (olds.toArray ++ news.toArray ++ Builtin.zeroCells z.cells (grownCap w (xs.length + ys.length) xs.length e - (xs.length + ys.length))) e)) hpos (e := e) (xs := xs ++ ys) (cap := grownCap w (xs.length + ys.length) xs.length e)
          (cells := (olds ++ news) ++ (Builtin.zeroCells z.cells (grownCap w (xs.length + ys.length) xs.length e - (xs.length + ys.length))).toList)
          (by rw [List.length_append, zlen, hzs, hlo, ← Nat.add_mul]; congr 1; omega) (by simpa using hge) hcm (fun x hx => by rcases List.mem_append.1 hx with h | h; exact hzx x h; exact hzy x h)
          (fun j u hj hju => by
            rw [List.getElem?_append_left (by rw [hlo]; simpa using hj)] at hju
            rcases List.mem_append.1 (List.mem_of_getElem? hju) with h | h
            · exact k3 u h
            · exact l3 u h)
          (fun j u c hju hcj => by
            have hj : j < (xs.length + ys.length) * ie.size := by
              obtain ⟨y, hy', _⟩ := cellAt_inv hcj
              have := (Nat.div_lt_iff_lt_mul hpos).1 (List.getElem?_eq_some_iff.1 hy').1
              simpa using this
            rw [List.getElem?_append_left (by rw [hlo]; exact hj)] at hju
            by_cases hjx : j < xs.length * ie.size
            · rw [List.getElem?_append_left (by rw [k1]; exact hjx)] at hju
              rw [cellAt_app_left hjx] at hcj
              exact k4 j u c hju hcj
            · rw [List.getElem?_append_right (by rw [k1]; omega), k1] at hju
              rw [cellAt_app_right hpos (by omega)] at hcj
              exact l4 _ u c hju hcj)
          rfl rfl rfl (alloc_size _ _) (fun b hb => heap_alloc_old w.drew _ hb) (by rw [← hca]; exact heap_alloc_new w.drew _)
        simp only [List.length_append] at m4 m5 m6
        exact ⟨_, _, M', _, hr, by simp [hnt], m5, m6, tk_up _ _, .tok _ _ _ _ _ _ (m4.mono (fun _ _ _ h => h) (fun _ _ h => h) (tk_up _ _)) (hlast _)⟩

theorem eappend_sound (hE : ∀ t ti, tget T t = some ti → TIOK P t ti) (hm : Mem M ob tk obs w) (hnt : tk.length = nt) {t ty : TypeId} {v u : Value} {a x : AVal} (hv : Rep M ob tk v a) (hx : Rep M ob tk u x) {o : List Ora} {r : OR}
    (h : eappend T nt t a x o = some r) (hc : All r.conds) :
    ∃ v' w' M' tk', (Builtin.append_ #[t, t] ty #[v, u]).run P w = .ok v' w' ∧ OpOK M ob tk obs nt w r (.returned v') w' M' ob tk' := by
  unfold eappend at h
  split at h
  · rename_i e esz eb _ _ _ hT
    have hti := hE t _ hT
    obtain ⟨⟨hu, ie, z, hi, hs, hb, hz, hzs⟩, _⟩ := hti.kind
    subst hs hb
    obtain ⟨hg, h2⟩ := cond_some h
    have hpos : 0 < ie.size := Nat.le_of_ble_eq_true hg
    split at h2
    · rename_i sz nl' ys t'
      obtain ⟨hsz, h3⟩ := cond_some h2
      have hsz' := beq_yes hsz
      subst hsz'
      split at h3
      · rename_i sz' nl xs tt
        split at h3
        · rename_i τ e'
          obtain ⟨hg2, h4⟩ := cond_some h3
          obtain ⟨q1, q2⟩ := beq_and hg2
          have q1' := beq_yes q1
          have q2' := beq_yes q2
          subst q1' q2'
          cases h4
          obtain ⟨v', w', M', tk', hr, e1, e2, e3, e4, e5⟩ := append_own hm hu hi hz hzs hpos hv hx hc.1 hc.2.1 ty
          exact ⟨v', w', M', tk', hr, e3, e2, e1.trans hnt, e4, e5⟩
        · split at h3
          · cases h3
            have hvn : v = .slice none 0 0 := by cases hv.untok with | nilslice sz => rfl
            subst hvn
            obtain ⟨v', w', M', tk', hr, e1, e2, e3, e4, e5⟩ := append_nil hm hnt hu hi hz hzs hpos hx hc.1 hc.2.1 ty
            exact ⟨v', w', M', tk', hr, e3, e2, e1, e4, e5⟩
          · cases h3
      · rename_i sz' nl xs
        split at h3
        · rename_i y ys
          obtain ⟨q1, h4⟩ := cond_some h3
          have q1' := beq_yes q1
          subst q1'
          cases h4
          obtain ⟨v', w', M', tk', hr, e1, e2, e3, e4, e5⟩ := append_full hm hnt hu hi hz hzs hpos hv hx (by simp) hc.1 hc.2.1 ty
          exact ⟨v', w', M', tk', hr, e3, e2, e1, e4, e5⟩
        · cases h3
      · cases h3
    · cases h2
  · cases h
end
end Go.AM
