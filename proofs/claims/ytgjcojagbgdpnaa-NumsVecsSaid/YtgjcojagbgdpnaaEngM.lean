/-
  THE ENGINE, 18b: what each operation does, is what the evaluator says: new rows; a row's text. Over any program.
-/
import Derived.Test.YtgjcojagbgdpnaaEng18
namespace Go.AM
open Go.RowKit

section
variable {P : Program} {M : Imm} {ob : List Nat} {tk : List Tok} {obs : List AObj} {nt : Nat} {w : World} {T : Tab}

theorem emake_sound (hE : ∀ t ti, tget T t = some ti → TIOK P t ti) (hm : Mem M ob tk obs w) (hnt : tk.length = nt) {t : TypeId} {vn vc : Value} {n c : AVal} (h1 : Rep M ob tk vn n) (h2 : Rep M ob tk vc c) {o : List Ora} {r : OR}
    (h : emake T (olen obs) t n c o = some r) (hc : All r.conds) :
    ∃ v' w', (Instr.makeSlice t vn vc).run P w = .ok v' w' ∧ ∃ M' ob' tk', OpOK M ob tk obs nt w r (.returned v') w' M' ob' tk' := by
  unfold emake at h
  split at h
  · rename_i e esz eb _ _ _ k a k' b hT
    have hk := (hE t _ hT).kind
    obtain ⟨⟨hu, i, z, hi, hsz, heb, hz, hzs⟩, _⟩ := hk
    split at h
    · rename_i te hTe
      obtain ⟨hg, h3⟩ := cond_some h
      cases h3
      obtain ⟨g1, g2⟩ := beq_and hg
      have g2 := beq_yes g2
      rw [clen_eq] at g2
      have g1 := Nat.le_of_ble_eq_true g1
      obtain ⟨c1, c2, c3, c4, _⟩ := hc
      obtain ⟨i', z', hi', hsz', hz', hzs', hzr, hone, hne⟩ := (hE e te hTe).info
      rw [hi] at hi'
      cases hi'
      rw [hz] at hz'
      cases hz'
      have hvn := h1.int_inv
      have hvc := h2.int_inv
      subst hvn hvc
      have hrun := run_make (P := P) w t e i z hu hi hz k k' a b c1 c2 (by rw [heb]; exact c3) c4
      have hrz : Rep M [] [] z te.zero := hzr.mono (fun _ _ _ h => by cases h) (fun _ _ h => h) (fun _ _ h => h)
      obtain ⟨hcl, hcr⟩ := hrz.cells hne
      have hesz : i.size = esz := hsz
      have hzlen : z.cells.size = esz := by have : z.cells.toList.length = z.cells.size := by simp
                                            omega
      have hpos : 0 < esz := g1
      have hget : ∀ q, q < b.toNat * esz → (madeCells z.cells (b.toNat * i.size)).toList[q]? = some (z.cells.toList[q % esz]'(by simp [hzlen]; exact Nat.mod_lt _ hpos)) := by
        intro q hq
        have hmod : q % esz < z.cells.size := by rw [hzlen]; exact Nat.mod_lt _ hpos
        simp only [madeCells, Array.toList_map, List.getElem?_map, Array.toList_range]
        rw [List.getElem?_range (by rw [hesz]; exact hq)]
        simp only [Option.map_some, hzlen]
        congr 1
        rw [getElem!_pos z.cells (q % esz) hmod]
        simp
      have hn : ∀ o, M w.heap.size o = none := fun o => hm.noImm (Nat.le_refl _) o
      have hca : (madeCells z.cells (b.toNat * i.size)).toList.toArray = madeCells z.cells (b.toNat * i.size) := by simp
      have hok : ObjOK M ob tk (w.alloc (.cells (madeCells z.cells (b.toNat * i.size)).toList.toArray e)) w.heap.size (.row esz (List.replicate b.toNat te.zero)) := by
        refine ⟨hn, (madeCells z.cells (b.toNat * i.size)).toList, e, heap_alloc_new w _, ?_, ?_, ?_, ?_⟩
        · simp [madeCells, hesz]
        · intro v hv
          obtain ⟨q, hq, rfl⟩ := List.getElem_of_mem hv
          have hq' : q < b.toNat * esz := by simpa [madeCells, hesz] using hq
          have := hget q hq'
          rw [List.getElem?_eq_getElem hq] at this
          rw [Option.some.inj this]
          exact List.all_eq_true.1 hone _ (List.getElem_mem _)
        · intro x hx
          rw [(List.mem_replicate.1 hx).2]
          exact g2
        · intro p j x c hx hcj
          have hp : p < b.toNat := by
            have := (List.getElem?_eq_some_iff.1 hx).1
            simpa using this
          rw [List.getElem?_replicate, if_pos hp] at hx
          cases hx
          have hj : j < esz := by have := (List.getElem?_eq_some_iff.1 hcj).1; omega
          have hlt : p * esz + j < b.toNat * esz := by
            have : (p + 1) * esz ≤ b.toNat * esz := Nat.mul_le_mul_right _ (by omega)
            rw [Nat.add_mul] at this
            omega
          refine ⟨_, hget _ hlt, ?_⟩
          have hmod : (p * esz + j) % esz = j := by rw [Nat.mul_comm, Nat.mul_add_mod]; exact Nat.mod_eq_of_lt hj
          refine hcr j _ c ?_ hcj
          rw [List.getElem?_eq_some_iff]
          refine ⟨by simp [hzlen]; exact hj, ?_⟩
          congr 1
          exact hmod.symm
      obtain ⟨n1, n2⟩ := hm.newCells (madeCells z.cells (b.toNat * i.size)).toList e _ hok
      rw [hca] at n1 n2
      refine ⟨_, _, hrun, M, _, tk, n2, ?_, hnt, fun _ _ h => h, ?_⟩
      · show Mem M _ tk (osnoc obs _) _
        rw [osnoc_eq]; exact n1
      · have := Rep.rsl (M := M) (ob := ob ++ [w.heap.size]) (tk := tk) (olen obs) 0 a.toNat b.toNat esz w.heap.size (by rw [olen_eq, ← hm.len]; simp)
        rw [Nat.zero_mul] at this
        exact this
    · cases h
  · cases h

theorem econvR_sound (hE : ∀ t ti, tget T t = some ti → TIOK P t ti) (hm : Mem M ob tk obs w) {s d : TypeId} {v : Value} {k lo len cap : Nat} (hv : Rep M ob tk v (.rsl k lo len cap 1)) {o : List Ora} {r : OR}
    (h : econvR T obs s d k lo len o = some r) (hc : All r.conds) : ∃ c z o', r = .val c z o' ∧ ∃ u, (convert s d v).run P w = .ok u w ∧ Rep M ob tk u z := by
  unfold econvR at h
  split at h
  · rename_i e eb _ _ _ _ _ _ hs hd
    have hks := (hE s _ hs).kind
    have hkd := (hE d _ hd).kind
    obtain ⟨⟨hu, i', z, hi, hsz, _⟩, _⟩ := hks
    split at h
    · rename_i xs l o' he hob
      have hke := (hE e _ he).kind
      cases h
      obtain ⟨c1, c2, _⟩ := hc
      refine ⟨_, _, _, rfl, .string ⟨l.toArray⟩, ?_, .str _⟩
      cases hv with
      | rsl _ _ _ _ _ b hb =>
        have hob' : obs[k]? = some (.row 1 xs) := oget_some hob (by simp)
        obtain ⟨b', hb', hok⟩ := hm.obj k _ hob'
        rw [hb] at hb'
        cases hb'
        obtain ⟨_, cv, Ty, hheap, hlen, hone, hxl, hcell⟩ := hok
        rw [run_convert_bytes_string w s d e _ len cap hu hke.1 hkd.1]
        have hcells : ∀ (j : Nat) u, (l.map fun c => Value.int .u8 c.toNat)[j]? = some u → w.cell? ((⟨b, lo * 1, none⟩ : Addr).add j) = some u := by
          intro j u hu'
          simp only [List.getElem?_map] at hu'
          obtain ⟨c, hc', rfl⟩ := Option.map_eq_some_iff.1 hu'
          have hx : ((xs.drop lo).take len)[j]? = some (.int .u8 c.toNat) := by rw [c1]; simp [hc']
          have hjl : j < len := by
            have := (List.getElem?_eq_some_iff.1 hx).1
            simp at this
            omega
          rw [List.getElem?_take, if_pos hjl, List.getElem?_drop] at hx
          obtain ⟨u', hu2, hr⟩ := hcell (lo + j) 0 _ _ hx rfl
          rw [hr.int_inv] at hu2
          rw [addr_add]
          rw [cell_of_row w b _ _ Ty (0, 0) hheap]
          simpa using hu2
        have hld := run_loadCells_list (P := P) w ⟨b, lo * 1, none⟩ _ hcells
        rw [List.length_map, c2] at hld
        have hmm : (l.map fun c => Value.int .u8 c.toNat) = (l.map fun c => (c.toNat : Int)).map (Value.int .u8) := by simp
        rw [hmm] at hld
        rw [run_bytesToString w _ len cap _ hld]
        congr 2
        have hfold : ∀ (l : List UInt8) (r : ByteArray), (l.map fun c => (c.toNat : Int)).foldl (fun r n => r.push (UInt8.ofNat n.toNat)) r = ⟨r.data ++ l.toArray⟩ := by
          intro l
          induction l with
          | nil => intro r; cases r; simp
          | cons c l ih =>
            intro r
            simp only [List.map_cons, List.foldl_cons, ih]
            cases r with
            | mk d => simp [ByteArray.push]
        rw [hfold]
        congr 1
        have : (ByteArray.empty).data = #[] := rfl
        rw [this]
        simp
    · cases h
  · cases h
end
end Go.AM
