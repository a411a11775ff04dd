/-
  THE ENGINE, 5: memory: what each kind of step does to it. Over any program.
-/
import Derived.Test.YtgjcojagbgdpnaaEng4
namespace Go.AM
open Go.RowKit

/- ---------- lists ---------- -/
theorem osnoc_eq (l : List AObj) (x : AObj) : osnoc l x = l ++ [x] := by
  induction l with
  | nil => rfl
  | cons y r ih => simp [osnoc, ih]
theorem olen_eq (l : List AObj) : olen l = l.length := by
  induction l with
  | nil => rfl
  | cons y r ih => simp [olen, ih]
theorem oset_eq (l : List AObj) : ∀ (n : Nat) (x : AObj), oset l n x = l.set n x := by
  induction l with
  | nil => intro n x; rfl
  | cons y r ih => intro n x; cases n with
    | zero => rfl
    | succ n => simp [oset, ih]
theorem oget_some {l : List AObj} : ∀ {n : Nat} {x : AObj}, oget l n = x → x ≠ .dead → l[n]? = some x := by
  induction l with
  | nil => intro n x h hx; exact absurd h.symm hx
  | cons y r ih => intro n x h hx; cases n with
    | zero => simpa [oget] using h
    | succ n => simpa using ih (by simpa [oget] using h) hx
theorem cdrop_eq (n : Nat) : ∀ (l : List AVal), cdrop n l = l.drop n := by
  induction n with
  | zero => intro l; rfl
  | succ n ih => intro l; cases l with
    | nil => rfl
    | cons c r => simp [cdrop, ih]
theorem ctake_some {n : Nat} : ∀ {l r : List AVal}, ctake n l = some r → r.length = n ∧ ∀ (i : Nat) c, r[i]? = some c → l[i]? = some c := by
  induction n with
  | zero => intro l r h; cases h; exact ⟨rfl, fun i c hc => by simp at hc⟩
  | succ n ih =>
    intro l r h
    cases l with
    | nil => cases h
    | cons c l =>
      simp only [ctake] at h
      cases hq : ctake n l with
      | none => rw [hq] at h; cases h
      | some q =>
        rw [hq] at h
        cases h
        obtain ⟨h1, h2⟩ := ih hq
        refine ⟨by simp [h1], fun i d hd => ?_⟩
        cases i with
        | zero => simpa using hd
        | succ i => simpa using h2 i d (by simpa using hd)
theorem cput_some : ∀ {new l r : List AVal}, cput new l = some r → new.length ≤ l.length ∧ r.length = l.length ∧ ∀ (i : Nat), r[i]? = if i < new.length then new[i]? else l[i]? := by
  intro new
  induction new with
  | nil => intro l r h; cases h; exact ⟨Nat.zero_le _, rfl, fun i => by simp⟩
  | cons c new ih =>
    intro l r h
    cases l with
    | nil => cases h
    | cons d l =>
      simp only [cput] at h
      cases hq : cput new l with
      | none => rw [hq] at h; cases h
      | some q =>
        rw [hq] at h
        cases h
        obtain ⟨h0, h1, h2⟩ := ih hq
        refine ⟨by simp; omega, by simp [h1], fun i => ?_⟩
        cases i with
        | zero => simp
        | succ i => simp [h2 i]
theorem cputAt_some {off : Nat} : ∀ {new l r : List AVal}, cputAt off new l = some r → off + new.length ≤ l.length ∧ r.length = l.length ∧ ∀ (i : Nat), r[i]? = if off ≤ i ∧ i < off + new.length then new[i - off]? else l[i]? := by
  induction off with
  | zero =>
    intro new l r h
    obtain ⟨h0, h1, h2⟩ := cput_some (by simpa [cputAt] using h)
    exact ⟨by omega, h1, fun i => by simpa using h2 i⟩
  | succ n ih =>
    intro new l r h
    cases l with
    | nil => cases h
    | cons c l =>
      simp only [cputAt] at h
      cases hq : cputAt n new l with
      | none => rw [hq] at h; cases h
      | some q =>
        rw [hq] at h
        cases h
        obtain ⟨h0, h1, h2⟩ := ih hq
        refine ⟨by simp; omega, by simp [h1], fun i => ?_⟩
        cases i with
        | zero => simp
        | succ i =>
          simp only [List.getElem?_cons_succ, h2 i]
          by_cases hi : n ≤ i ∧ i < n + new.length
          · rw [if_pos hi, if_pos (by omega)]; congr 1; omega
          · rw [if_neg hi, if_neg (by omega)]
theorem clen_eq (l : List AVal) : clen l = l.length := by
  induction l with
  | nil => rfl
  | cons y r ih => simp [clen, ih]
theorem nth_some {α : Type} {l : List α} : ∀ {n : Nat} {x : α}, nth l n = some x → l[n]? = some x := by
  induction l with
  | nil => intro n x h; cases h
  | cons y r ih => intro n x h; cases n with
    | zero => simpa [nth] using h
    | succ n => simpa using ih (by simpa [nth] using h)
theorem app3_eq (a b : List AVal) : app3 a b = a ++ b := by
  induction a with
  | nil => rfl
  | cons y r ih => simp [app3, ih]

theorem beq_no {i n : Nat} (h : ¬ i = n) : Nat.beq i n = false := by
  cases hb : Nat.beq i n with
  | false => rfl
  | true => exact absurd (Nat.eq_of_beq_eq_true hb) h
theorem beq_yes {i n : Nat} (h : Nat.beq i n = true) : i = n := Nat.eq_of_beq_eq_true h

theorem getS_putS (fr : List (Nat × AVal)) (n m : Nat) (x : AVal) : getS (putS fr n x) m = if m = n then x else getS fr m := by
  induction fr with
  | nil =>
    simp only [putS, getS]
    by_cases h : m = n
    · subst h; simp
    · have : Nat.beq n m = false := beq_no fun e => h e.symm
      simp [this, h]
  | cons p r ih =>
    obtain ⟨i, v⟩ := p
    simp only [putS]
    by_cases hin : i = n
    · subst hin
      simp only [Nat.beq_refl, cond_true, getS]
      by_cases h : m = i
      · subst h; simp
      · have : Nat.beq i m = false := beq_no fun e => h e.symm
        simp [this, h]
    · have h1 : Nat.beq i n = false := beq_no hin
      simp only [h1, cond_false, getS]
      by_cases h : i = m
      · subst h; simp [hin]
      · have h2 : Nat.beq i m = false := beq_no h
        simp only [h2, cond_false, ih]

/- ---------- cells ---------- -/
theorem addr_add (b o j : Nat) : (⟨b, o, none⟩ : Addr).add j = ⟨b, o + j, none⟩ := by
  unfold Addr.add; split <;> simp_all

section
variable {M : Imm} {ob : List Nat} {tk : List Tok} {obs : List AObj} {w : World}

theorem Mem.noImm (h : Mem M ob tk obs w) {b : Nat} (hb : w.heap.size ≤ b) (o : Nat) : M b o = none := by
  cases hx : M b o with
  | none => rfl
  | some x =>
    obtain ⟨v, hv, _⟩ := h.imm b o x hx
    have := World.block_lt_of_cell? w _ hv
    simp at this
    omega

theorem Rep.weak {M' : Imm} {ob' : List Nat} {tk' : List Tok} {v : Value} {a : AVal} (h : Rep M ob tk v a) (hM : ∀ b o x, M b o = some x → M' b o = some x)
    (ho : ∀ (k b : Nat), ob[k]? = some b → ob'[k]? = some b) (ht : ∀ (k : Nat) b, tk[k]? = some b → tk'[k]? = some b) : Rep M' ob' tk' v a := h.mono hM ho ht

/-- cells of one value -/
theorem Rep.cells {v : Value} {a : AVal} (h : Rep M ob tk v a) (hu : a ≠ .undef) : v.cells.toList.length = a.cells.length ∧ ∀ (i : Nat) u c, v.cells.toList[i]? = some u → a.cells[i]? = some c → Rep M ob tk u c := by
  have gen : ∀ {v : Value} {a : AVal}, Rep M ob tk v a → v.cells = #[v] → a.cells = [a] → v.cells.toList.length = a.cells.length ∧ ∀ (i : Nat) u c, v.cells.toList[i]? = some u → a.cells[i]? = some c → Rep M ob tk u c := by
    intro v a h e1 e2
    rw [e1, e2]
    refine ⟨rfl, fun i u c hu hc => ?_⟩
    cases i with
    | zero => simp at hu hc; subst hu; subst hc; exact h
    | succ i => simp at hu
  cases h with
  | undef v => exact absurd rfl hu
  | agg vs as hl h => exact ⟨by simpa [Value.cells, AVal.cells] using hl, fun i u c hu hc => h i u c (by simpa [Value.cells] using hu) (by simpa [AVal.cells] using hc)⟩
  | bool b => exact gen (.bool b) rfl rfl
  | int k n => exact gen (.int k n) rfl rfl
  | str l => exact gen (.str l) rfl rfl
  | tup vs as hl h => exact gen (.tup vs as hl h) rfl rfl
  | ptr b o cs h => exact gen (.ptr b o cs h) rfl rfl
  | ref k off b h => exact gen (.ref k off b h) rfl rfl
  | eref k i sz off b h => exact gen (.eref k i sz off b h) rfl rfl
  | rsl k lo len cap sz b h => exact gen (.rsl k lo len cap sz b h) rfl rfl
  | csl k off len sz b h => exact gen (.csl k off len sz b h) rfl rfl
  | full sz nl xs a n h => exact gen (.full sz nl xs a n h) rfl rfl
  | nilptr => exact gen .nilptr rfl rfl
  | nilslice sz => exact gen (.nilslice sz) rfl rfl
  | slice sz b o n cap xs hn hc hz h => exact gen (.slice sz b o n cap xs hn hc hz h) rfl rfl
  | tok sz nl xs v τ e h ht =>
    refine gen (.tok sz nl xs v τ e h ht) ?_ rfl
    cases h <;> rfl
  | func fn fs cs fa ca hf hc h1 h2 => exact gen (.func fn fs cs fa ca hf hc h1 h2) rfl rfl
  | nilfunc => exact gen .nilfunc rfl rfl
  | iface t v a h => exact gen (.iface t v a h) rfl rfl
  | nilif => exact gen .nilif rfl rfl

theorem Rep.one {v : Value} {a : AVal} (h : Rep M ob tk v a) (h1 : one a = true) : v.oneCell' = true := by
  have hs : ∀ {v : Value} {sz nl xs}, Rep M ob tk v (.slice sz nl xs none) → v.oneCell' = true := by intro v sz nl xs h; cases h <;> rfl
  cases h with
  | tok sz nl xs v τ e h ht => exact hs h
  | _ => first | rfl | (simp [AM.one] at h1)

theorem oneL_mem {l : List AVal} (h : oneL l = true) : ∀ (i : Nat) c, l[i]? = some c → one c = true := by
  induction l with
  | nil => intro i c hc; simp at hc
  | cons d r ih =>
    simp only [oneL, Bool.and_eq_true] at h
    intro i c hc
    cases i with
    | zero => simp at hc; subst hc; exact h.1
    | succ i => exact ih h.2 i c (by simpa using hc)
end

end Go.AM
