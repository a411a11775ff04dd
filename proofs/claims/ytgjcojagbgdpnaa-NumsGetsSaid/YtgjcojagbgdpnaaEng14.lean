/-
  THE ENGINE, 14: what each operation does, is what the evaluator says: literals, cuts, append. Over any program.
-/
import Derived.Test.YtgjcojagbgdpnaaEng13
namespace Go.AM
open Go.RowKit

theorem foldl_set (off : Nat) : ∀ (l : List Value) (k : Nat) (cells : Array Value), ((l.zipIdx k).foldl (fun (cs : Array Value) (p : Value × Nat) => cs.setIfInBounds (off + p.2) p.1) cells).size = cells.size ∧
    ∀ (i : Nat), ((l.zipIdx k).foldl (fun (cs : Array Value) (p : Value × Nat) => cs.setIfInBounds (off + p.2) p.1) cells)[i]? = if off + k ≤ i ∧ i < off + k + l.length ∧ i < cells.size then l[i - (off + k)]? else cells[i]?
  | [], k, cells => by
    refine ⟨rfl, fun i => ?_⟩
    simp
    intro h1 h2
    omega
  | c :: l, k, cells => by
    obtain ⟨h1, h2⟩ := foldl_set off l (k + 1) (cells.setIfInBounds (off + k) c)
    simp only [List.zipIdx_cons, List.foldl_cons]
    refine ⟨by rw [h1]; simp, fun i => ?_⟩
    rw [h2]
    simp only [Array.size_setIfInBounds, List.length_cons]
    by_cases hi : i = off + k
    · subst hi
      rw [if_neg (by omega)]
      by_cases hs : off + k < cells.size
      · rw [if_pos ⟨by omega, by omega, hs⟩]
        simp [hs]
      · rw [if_neg (by omega)]
        rw [Array.getElem?_setIfInBounds_self]
        simp [hs]
    · rw [Array.getElem?_setIfInBounds_ne (by omega)]
      by_cases hin : off + (k + 1) ≤ i ∧ i < off + (k + 1) + l.length ∧ i < cells.size
      · rw [if_pos hin, if_pos ⟨by omega, by omega, hin.2.2⟩]
        have : i - (off + k) = (i - (off + (k + 1))) + 1 := by omega
        rw [this, List.getElem?_cons_succ]
      · rw [if_neg hin, if_neg (by omega)]

section
variable {P : Program} {T : Tab} {M : Imm} {ob : List Nat} {tk : List Tok} {obs : List AObj} {nt : Nat} {w : World}

theorem fill_sound {place place' : Nat → Option (Nat × Nat)} (hp : ∀ i p, place' i = some p → place i = some p) :
    ∀ {parts : List (Nat × AVal)} {vparts : List (Nat × Value)} {cs cs' : List AVal} {cells : Array Value}, efill place' cs parts = some cs' → RepL M ob tk cells.toList cs →
      vparts.length = parts.length → (∀ (i : Nat) (p : Nat × Value) (q : Nat × AVal), vparts[i]? = some p → parts[i]? = some q → p.1 = q.1 ∧ Rep M ob tk p.2 q.2) →
      ∃ cells', Instr.fill place cells vparts = some cells' ∧ RepL M ob tk cells'.toList cs' := by
  intro parts
  induction parts with
  | nil =>
    intro vparts cs cs' cells h hr hl hv
    have : vparts = [] := List.eq_nil_of_length_eq_zero hl
    subst this
    cases h
    exact ⟨cells, rfl, hr⟩
  | cons q parts ih =>
    intro vparts cs cs' cells h hr hl hv
    obtain ⟨i, x⟩ := q
    match vparts, hl with
    | (i', v) :: vparts, hl =>
      obtain ⟨e1, hrep⟩ := hv 0 _ _ rfl rfl
      dsimp only at e1 hrep
      subst e1
      simp only [efill] at h
      split at h
      · cases h
      · rename_i off sz hpl
        obtain ⟨hg, h2⟩ := cond_some h
        obtain ⟨hnu, hsz⟩ := beq_and hg
        have hne : x ≠ .undef := fun e => by subst e; cases hnu
        have hsz' := beq_yes hsz
        rw [clen_eq] at hsz'
        split at h2
        · rename_i cs1 hput
          obtain ⟨p1, p2, p3⟩ := cputAt_some hput
          obtain ⟨hcl, hcr⟩ := hrep.cells hne
          have hvl : v.cells.size = x.cells.length := by rw [← hcl]; simp
          obtain ⟨f1, f2⟩ := foldl_set off v.cells.toList 0 cells
          have hcs : cells.size = cs.length := by have := hr.1; simpa using this
          have hfold : v.cells.zipIdx.foldl (fun (cs : Array Value) (x : Value × Nat) => match x with | (c, j) => cs.setIfInBounds (off + j) c) cells = (v.cells.toList.zipIdx 0).foldl (fun (cs : Array Value) (p : Value × Nat) => cs.setIfInBounds (off + p.2) p.1) cells := by
            rw [← Array.foldl_toList]
            simp
          have hnext : RepL M ob tk ((v.cells.toList.zipIdx 0).foldl (fun (cs : Array Value) (p : Value × Nat) => cs.setIfInBounds (off + p.2) p.1) cells).toList cs1 := by
            refine ⟨by rw [Array.length_toList, f1, hcs, p2], fun j u c hu hc => ?_⟩
            rw [Array.getElem?_toList, f2 j] at hu
            rw [p3 j] at hc
            simp only [Nat.add_zero] at hu
            by_cases hin : off ≤ j ∧ j < off + x.cells.length
            · rw [if_pos hin] at hc
              rw [if_pos ⟨by omega, by rw [hcl]; omega, by omega⟩] at hu
              exact hcr _ u c hu hc
            · rw [if_neg hin] at hc
              rw [if_neg (by rw [hcl]; omega)] at hu
              exact hr.2 j u c (by rw [Array.getElem?_toList]; exact hu) hc
          obtain ⟨cells', g1, g2⟩ := ih (vparts := vparts) h2 hnext (by simpa using hl) (fun i p q hp hq => hv (i + 1) p q (by simpa using hp) (by simpa using hq))
          refine ⟨cells', ?_, g2⟩
          simp only [Instr.fill, hp _ _ hpl]
          rw [if_neg]
          · rw [hfold]; exact g1
          · simp only [Bool.or_eq_true, decide_eq_true_eq, not_or]
            constructor
            · simp [hvl, hsz']
            · omega
        · cases h2

theorem mapM_places {P : Program} : ∀ {flds : List Field} {fs : List (Nat × Nat × Bool)}, FieldsOK P flds fs → flds.mapM (fun f => (P.info? f.type).map fun i => (f.offset, i.size)) = some (fs.map fun f => (f.1, f.2.1))
  | [], [], _ => rfl
  | [], _ :: _, h => h.elim
  | _ :: _, [], h => h.elim
  | f :: flds, (off, sz, ag) :: fs, h => by
    obtain ⟨h1, h2, h3, h4, h5⟩ := h
    obtain ⟨i, hi, rfl⟩ := Option.map_eq_some_iff.1 h2
    simp [List.mapM_cons, hi, mapM_places h5, h1]

theorem nth_map {α β : Type} (f : α → β) : ∀ (l : List α) (n : Nat), (nth l n).map f = (l.map f)[n]?
  | [], _ => by simp [nth]
  | x :: _, 0 => rfl
  | _ :: r, n + 1 => by simpa [nth] using nth_map f r n

theorem ebuild_sound (hE : ∀ t ti, tget T t = some ti → TIOK P t ti) {t : TypeId} {parts : List (Nat × AVal)} {vparts : Array (Nat × Value)} (hl : vparts.toList.length = parts.length)
    (hv : ∀ (i : Nat) (p : Nat × Value) (q : Nat × AVal), vparts.toList[i]? = some p → parts[i]? = some q → p.1 = q.1 ∧ Rep M ob tk p.2 q.2) {o : List Ora} {r : OR} (h : ebuild T t parts o = some r) :
    ∃ z, r = .val [] z o ∧ ∃ u, (Instr.build t vparts).run P w = .ok u w ∧ Rep M ob tk u z := by
  unfold ebuild at h
  split at h
  · rename_i ti hT
    have hti := hE t ti hT
    obtain ⟨info, z, hi, hsz, hz, hzs, hzr, _, _⟩ := hti.info
    have hkind := hti.kind
    split at h
    · rename_i fs zs hk hzz
      rw [hk] at hkind
      obtain ⟨⟨flds, hu, hf⟩, _⟩ := hkind
      split at h
      · rename_i cs hfill
        cases h
        rw [hzz] at hzr
        cases hzr with
        | agg vs as hlen hrr =>
          have hr0 : RepL M ob tk vs.toArray.toList zs := ⟨by simpa using hlen, fun i v a hv ha => ((hrr i v a (by simpa using hv) ha).mono (fun _ _ _ h => by cases h) (fun _ _ h => h) (fun _ _ h => h)).pure⟩
          obtain ⟨cells', g1, g2⟩ := fill_sound (place := ((fs.map fun f => (f.1, f.2.1)).toArray[·]?)) (fun i p hp => by rw [nth_map] at hp; simpa using hp) hfill hr0 hl hv
          have hb : P.built t vparts.toList = some cells' := by
            simp only [Program.built, hi, hu, hz, mapM_places hf]
            exact g1
          have : cells' = cells'.toList.toArray := by simp
          rw [this] at hb
          exact ⟨_, rfl, _, run_build w t vparts _ hb, .agg _ _ g2.1 g2.2⟩
      · cases h
    · rename_i n esz ea zs hk hzz
      rw [hk] at hkind
      obtain ⟨⟨e, hu, hse, _⟩, _⟩ := hkind
      obtain ⟨ie, hie, rfl⟩ := Option.map_eq_some_iff.1 hse
      split at h
      · rename_i cs hfill
        cases h
        rw [hzz] at hzr
        cases hzr with
        | agg vs as hlen hrr =>
          have hr0 : RepL M ob tk vs.toArray.toList zs := ⟨by simpa using hlen, fun i v a hv ha => ((hrr i v a (by simpa using hv) ha).mono (fun _ _ _ h => by cases h) (fun _ _ h => h) (fun _ _ h => h)).pure⟩
          obtain ⟨cells', g1, g2⟩ := fill_sound (place := fun i => some (i * ie.size, ie.size)) (fun i p hp => hp) hfill hr0 hl hv
          have hb : P.built t vparts.toList = some cells' := by
            simp only [Program.built, hi, hu, hz, hie]
            exact g1
          have : cells' = cells'.toList.toArray := by simp
          rw [this] at hb
          exact ⟨_, rfl, _, run_build w t vparts _ hb, .agg _ _ g2.1 g2.2⟩
      · cases h
    · cases h
  · cases h
end
end Go.AM
