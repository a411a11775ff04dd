/-
  Who gives way: the heap, Choose, as walks; the laws.
-/
import Derived.Test.YtlalcoklkafnnaaGreatRows
import Derived.Test.YtlalcoklkafnnaaGreatRA
namespace Go.AW
open Go.RowKit

theorem Mem.beginRow {M : Imm} {ob : Hs} {obs : List AObj} {w : World} (hm : Mem M ob obs w) {k i sz : Nat} {T e : TypeId} {cs : List AVal} (hk : obs[k]? = some (.cells T cs)) (hi : cs[i]? = some (.slice sz [] .nil)) :
    Mem M (ob ++ [[.slice none 0 0]]) (obs.set k (.cells T (cs.set i (.row obs.length 0))) ++ [.row 0 sz e []]) w ∧
      Ext M ob obs w M (ob ++ [[.slice none 0 0]]) (obs.set k (.cells T (cs.set i (.row obs.length 0))) ++ [.row 0 sz e []]) w ∧ HsLe ob (ob ++ [[.slice none 0 0]]) := by
  have hle : HsLe ob (ob ++ [[.slice none 0 0]]) := fun j hs hj => ⟨hs, by rw [List.getElem?_append_left (List.getElem?_eq_some_iff.1 hj).1]; exact hj, List.prefix_refl _⟩
  have hkl : k < obs.length := (List.getElem?_eq_some_iff.1 hk).1
  have hnew : (ob ++ [[.slice none 0 0]])[obs.length]? = some [.slice none 0 0] := by rw [← hm.len]; simp
  have hat : at' (ob ++ [[.slice none 0 0]]) obs.length 0 = some (.slice none 0 0) := by rw [at_get hnew]; rfl
  have old : ∀ {j : Nat} {c : AObj}, (obs.set k (.cells T (cs.set i (.row obs.length 0))) ++ [.row 0 sz e []])[j]? = some c →
      (j = obs.length ∧ c = .row 0 sz e []) ∨ (j = k ∧ c = .cells T (cs.set i (.row obs.length 0))) ∨ (j ≠ k ∧ j < obs.length ∧ obs[j]? = some c) := fun {j c} hj => by
    by_cases hjl : j < obs.length
    · rw [List.getElem?_append_left (by simpa using hjl)] at hj
      by_cases hjk : j = k
      · subst hjk
        rw [List.getElem?_set_self hjl] at hj
        cases hj
        exact .inr (.inl ⟨rfl, rfl⟩)
      · rw [List.getElem?_set_ne (Ne.symm hjk)] at hj
        exact .inr (.inr ⟨hjk, hjl, hj⟩)
    · have h2 : j = obs.length := by
        have := (List.getElem?_eq_some_iff.1 hj).1
        simp at this
        omega
      subst h2
      rw [List.getElem?_append_right (by simp)] at hj
      simp at hj
      exact .inl ⟨rfl, hj.symm⟩
  have al : ∀ {j b : Nat}, Alive (ob ++ [[.slice none 0 0]]) (obs.set k (.cells T (cs.set i (.row obs.length 0))) ++ [.row 0 sz e []]) j b → Alive ob obs j b := fun {j b} ⟨c, hs, e1, e2, e3, e4⟩ => by
    rcases old e1 with ⟨rfl, rfl⟩ | ⟨rfl, rfl⟩ | ⟨h1, h2, h3⟩
    · rw [hnew] at e3
      cases e3
      cases e4
    · rw [List.getElem?_append_left (by rw [hm.len]; exact hkl)] at e3
      exact ⟨_, hs, hk, rfl, e3, e4⟩
    · rw [List.getElem?_append_left (by rw [hm.len]; exact h2)] at e3
      exact ⟨c, hs, h3, e2, e3, e4⟩
  have hok : ∀ (j : Nat) c, (obs.set k (.cells T (cs.set i (.row obs.length 0))) ++ [.row 0 sz e []])[j]? = some c → ∃ hs, (ob ++ [[.slice none 0 0]])[j]? = some hs ∧ ObjOK M (ob ++ [[.slice none 0 0]]) w hs c := fun j c hj => by
    rcases old hj with ⟨rfl, rfl⟩ | ⟨rfl, rfl⟩ | ⟨h1, h2, h3⟩
    · have hr : RowAt M w (.slice none 0 0) sz e [] := by
        refine ⟨[], World.ownsRow_nil w 0 _ _, ?_, ?_, ?_, ?_, ?_⟩
        · intro u hu; simp at hu
        · intro x hx; simp at hx
        · intro q c hc; simp [cellAt] at hc
        · intro b hb; cases hb
        · intro b hb; cases hb
      exact ⟨_, hnew, rfl, _, rfl, hr⟩
    · obtain ⟨hs, e1, b, q1, q2, cv, q3, q4, q5, q6⟩ := hm.obj _ _ hk
      refine ⟨hs, by rw [List.getElem?_append_left (by rw [hm.len]; exact hkl)]; exact e1, b, q1, q2, cv, q3, by simpa using q4, q5, fun n v a hv ha => ?_⟩
      by_cases hn : n = i
      · subst hn
        have hlt : n < cs.length := (List.getElem?_eq_some_iff.1 hi).1
        rw [List.getElem?_set_self hlt] at ha
        cases ha
        have := q6 n v _ hv hi
        obtain ⟨_, ht⟩ := this.untok
        have ht : v = .slice none 0 0 := ht
        subst ht
        exact .row _ _ _ _ _ hat
      · rw [List.getElem?_set_ne (Ne.symm hn)] at ha
        exact (q6 n v a hv ha).mono (fun _ _ _ h => h) hle
    · obtain ⟨hs, e1, e2⟩ := hm.obj j c h3
      refine ⟨hs, by rw [List.getElem?_append_left (by rw [hm.len]; exact h2)]; exact e1, ?_⟩
      cases c with
      | cells T' cs' =>
        obtain ⟨b, q1, q2, cv, q3, q4, q5, q6⟩ := e2
        exact ⟨b, q1, q2, cv, q3, q4, q5, fun n v a hv ha => (q6 n v a hv ha).mono (fun _ _ _ h => h) hle⟩
      | _ => exact e2
  refine ⟨⟨hm.imm, by simp [hm.len], hok, fun j b ha => hm.lt j b (al ha), fun j j' b h1 h2 => hm.inj j j' b (al h1) (al h2)⟩, ⟨fun _ _ _ h => h, fun _ _ _ h => .inl h, hle, rfl, rfl, rfl, Nat.le_refl _, fun _ _ _ => rfl, fun j b ha => .inl ⟨j, al ha⟩⟩, hle⟩

/-- AT A LOOP'S HEAD: the nil slice in cell i of object k begins a row that is written in its place -/
theorem To.beginRowH {E : Env} {fn : Func} {g : Goal} {st : List KI} {fr : List (Nat × AVal)} {obs : List AObj} (k i : Nat) (e : TypeId) {T : TypeId} {cs : List AVal} {sz : Nat} (hk : oget obs k = .cells T cs) (hi : nth cs i = some (.slice sz [] .nil))
    (h : To E fn g (.head st fr (snocO (oput obs k (.cells T (setC cs i (.row (olen obs) 0)))) (.row 0 sz e [])))) : To E fn g (.head st fr obs) :=
  .mk fun hok M0 ob0 obs0 w0 a w hst hs => by
    refine h.rec fun h => h hok M0 ob0 obs0 w0 a w hst ?_
    obtain ⟨M, ob, hx, hm, hfr, r1, r2, r3⟩ := hs
    have hk' := oget_some hk (by simp)
    obtain ⟨m1, m2, m3⟩ := hm.beginRow (e := e) hk' (nth_some hi)
    rw [snocO_eq, setC_eq, olen_eq, oput_some hk']
    exact ⟨M, _, hx.trans m2, m1, fun t => (hfr t).mono (fun _ _ _ h => h) m3, r1, r2.mono (fun _ _ _ h => h) m3, by simp; omega⟩
theorem To.beginRow {E : Env} {fn : Func} {g : Goal} {st : List KI} {fr : List (Nat × AVal)} {obs : List AObj} (k i : Nat) (e : TypeId) {T : TypeId} {cs : List AVal} {sz : Nat} (hk : oget obs k = .cells T cs) (hi : nth cs i = some (.slice sz [] .nil))
    (h : To E fn g (.code st fr (snocO (oput obs k (.cells T (setC cs i (.row (olen obs) 0)))) (.row 0 sz e [])))) : To E fn g (.code st fr obs) :=
  To.toC (To.beginRowH k i e hk hi (To.ofC h))
end Go.AW

namespace Go.Proofs.YtlalcoklkafnnaaGreat
open Go Go.AW Go.Proofs
set_option maxRecDepth 10000

theorem nan_ok (x : Int) : CallOK Tryz.prog 137 [ii x] [] (.ret (.bool false)) [] := by
  refine CallOK.to (E := E) (fn := Tryz.f137) (g := .pure _) (by rfl) (by rfl) (by rfl) (fun _ _ => by rfl) (by decide +kernel) (by rfl) (by rfl) (by rfl) fun _ => ?_
  refine goes hE 100 ?_
  conv => whnf
  exact congrArg (fun b => Res.ret (AVal.bool b)) (by simp)
def cmpI (a b : Int) : Int := if a < b then -1 else if b < a then 1 else 0
theorem cmp_any (a b r : Int) (hr : cmpI a b = r) : CallOK Tryz.prog 113 [ii a, ii b] [] (.ret (ii r)) [] := by
  unfold cmpI at hr
  by_cases h1 : a < b
  · rw [if_pos h1] at hr
    subst hr
    refine CallOK.to (E := E) (fn := Tryz.f113) (g := .pure _) (by rfl) (by rfl) (by rfl) (fun _ _ => by rfl) (by decide +kernel) (by rfl) (by rfl) (by rfl) fun _ => ?_
    repeat' first | (refine goN hE 100 rfl ?_; conv => whnf) | refine .pure _ [] (nan_ok _) ?_ | exact rfl | refine And.intro (fun _ => ?_) (fun h => absurd (show true = false from h) (by decide)) | refine And.intro (fun h => absurd (show false = true from h) (by decide)) (fun _ => ?_) | refine And.intro (fun h => ?_) (fun h => absurd (of_decide_eq_false h) (by omega)) | refine And.intro (fun h => absurd (of_decide_eq_true h) (by omega)) (fun h => ?_) | refine And.intro (fun h => ?_) (fun h => ?_) | refine Or.inl (And.intro (And.intro (by simp only [kmin]; omega) (by simp only [kmax]; omega)) ?_) | refine Exists.intro _ (And.intro rfl ?_) | refine And.intro (by decide) ?_ | refine And.intro (by omega) ?_ | fail
  · rw [if_neg h1] at hr
    by_cases h2 : b < a
    · rw [if_pos h2] at hr
      subst hr
      refine CallOK.to (E := E) (fn := Tryz.f113) (g := .pure _) (by rfl) (by rfl) (by rfl) (fun _ _ => by rfl) (by decide +kernel) (by rfl) (by rfl) (by rfl) fun _ => ?_
      repeat' first | (refine goN hE 100 rfl ?_; conv => whnf) | refine .pure _ [] (nan_ok _) ?_ | exact rfl | refine And.intro (fun _ => ?_) (fun h => absurd (show true = false from h) (by decide)) | refine And.intro (fun h => absurd (show false = true from h) (by decide)) (fun _ => ?_) | refine And.intro (fun h => ?_) (fun h => absurd (of_decide_eq_false h) (by omega)) | refine And.intro (fun h => absurd (of_decide_eq_true h) (by omega)) (fun h => ?_) | refine And.intro (fun h => ?_) (fun h => ?_) | refine Or.inl (And.intro (And.intro (by simp only [kmin]; omega) (by simp only [kmax]; omega)) ?_) | refine Exists.intro _ (And.intro rfl ?_) | refine And.intro (by decide) ?_ | refine And.intro (by omega) ?_ | fail
    · rw [if_neg h2] at hr
      subst hr
      refine CallOK.to (E := E) (fn := Tryz.f113) (g := .pure _) (by rfl) (by rfl) (by rfl) (fun _ _ => by rfl) (by decide +kernel) (by rfl) (by rfl) (by rfl) fun _ => ?_
      repeat' first | (refine goN hE 100 rfl ?_; conv => whnf) | refine .pure _ [] (nan_ok _) ?_ | exact rfl | refine And.intro (fun _ => ?_) (fun h => absurd (show true = false from h) (by decide)) | refine And.intro (fun h => absurd (show false = true from h) (by decide)) (fun _ => ?_) | refine And.intro (fun h => ?_) (fun h => absurd (of_decide_eq_false h) (by omega)) | refine And.intro (fun h => absurd (of_decide_eq_true h) (by omega)) (fun h => ?_) | refine And.intro (fun h => ?_) (fun h => ?_) | refine Or.inl (And.intro (And.intro (by simp only [kmin]; omega) (by simp only [kmax]; omega)) ?_) | refine Exists.intro _ (And.intro rfl ?_) | refine And.intro (by decide) ?_ | refine And.intro (by omega) ?_ | fail
theorem cmp_ok (a b : Int) : CallOK Tryz.prog 113 [ii a, ii b] [] (.ret (ii (cmpI a b))) [] := cmp_any a b _ rfl
def orI (p q : Int) : Int := if p = 0 then q else p
theorem or_any (p q r : Int) (hr : orI p q = r) : CallOK Tryz.prog 112 [.slice 1 [ii p, ii q] .no] [] (.ret (ii r)) [] := by
  unfold orI at hr
  by_cases h1 : p = 0
  · subst h1
    rw [if_pos rfl] at hr
    have hp : ((0 : Int) != 0) = false := by decide
    by_cases h2 : q = 0
    · subst h2
      subst hr
      have hq : ((0 : Int) != 0) = false := by decide
      refine CallOK.to (E := E) (fn := Tryz.f112) (g := .pure _) (by rfl) (by rfl) (by rfl) (fun _ _ => by rfl) (by decide +kernel) (by rfl) (by rfl) (by rfl) fun _ => ?_
      repeat' first
        | (refine goes hE 100 ?_; conv => whnf)
        | exact rfl
        | refine Exists.intro 0 (And.intro rfl ?_)
        | refine Exists.intro 1 (And.intro rfl ?_)
        | refine Exists.intro _ (And.intro rfl ?_)
        | refine And.intro (fun _ => ?_) (fun h => absurd (show true = false from h) (by decide))
        | refine And.intro (fun h => absurd (show false = true from h) (by decide)) (fun _ => ?_)
        | refine And.intro (fun h => ?_) (fun h => absurd h (by rw [hp]; decide))
        | refine And.intro (fun h => ?_) (fun h => absurd h (by rw [hq]; decide))
        | refine And.intro (fun h => absurd h (by rw [hp]; decide)) (fun h => ?_)
        | refine And.intro (fun h => absurd h (by rw [hq]; decide)) (fun h => ?_)
        | refine Or.inl (And.intro (And.intro (by simp only [kmin]; omega) (by simp only [kmax]; omega)) ?_)
        | fail
    · subst hr
      have hq : (q != 0) = true := by simp [h2]
      refine CallOK.to (E := E) (fn := Tryz.f112) (g := .pure _) (by rfl) (by rfl) (by rfl) (fun _ _ => by rfl) (by decide +kernel) (by rfl) (by rfl) (by rfl) fun _ => ?_
      repeat' first
        | (refine goes hE 100 ?_; conv => whnf)
        | exact rfl
        | refine Exists.intro 0 (And.intro rfl ?_)
        | refine Exists.intro 1 (And.intro rfl ?_)
        | refine Exists.intro _ (And.intro rfl ?_)
        | refine And.intro (fun _ => ?_) (fun h => absurd (show true = false from h) (by decide))
        | refine And.intro (fun h => absurd (show false = true from h) (by decide)) (fun _ => ?_)
        | refine And.intro (fun h => ?_) (fun h => absurd h (by rw [hp]; decide))
        | refine And.intro (fun h => ?_) (fun h => absurd h (by rw [hq]; decide))
        | refine And.intro (fun h => absurd h (by rw [hp]; decide)) (fun h => ?_)
        | refine And.intro (fun h => absurd h (by rw [hq]; decide)) (fun h => ?_)
        | refine Or.inl (And.intro (And.intro (by simp only [kmin]; omega) (by simp only [kmax]; omega)) ?_)
        | fail
  · rw [if_neg h1] at hr
    subst hr
    have hp : (p != 0) = true := by simp [h1]
    have hq : ((0 : Int) != 0) = false := by decide
    refine CallOK.to (E := E) (fn := Tryz.f112) (g := .pure _) (by rfl) (by rfl) (by rfl) (fun _ _ => by rfl) (by decide +kernel) (by rfl) (by rfl) (by rfl) fun _ => ?_
    repeat' first
      | (refine goes hE 100 ?_; conv => whnf)
      | exact rfl
      | refine Exists.intro 0 (And.intro rfl ?_)
      | refine Exists.intro 1 (And.intro rfl ?_)
      | refine Exists.intro _ (And.intro rfl ?_)
      | refine And.intro (fun _ => ?_) (fun h => absurd (show true = false from h) (by decide))
      | refine And.intro (fun h => absurd (show false = true from h) (by decide)) (fun _ => ?_)
      | refine And.intro (fun h => ?_) (fun h => absurd h (by rw [hp]; decide))
      | refine And.intro (fun h => ?_) (fun h => absurd h (by rw [hq]; decide))
      | refine And.intro (fun h => absurd h (by rw [hp]; decide)) (fun h => ?_)
      | refine And.intro (fun h => absurd h (by rw [hq]; decide)) (fun h => ?_)
      | refine Or.inl (And.intro (And.intro (by simp only [kmin]; omega) (by simp only [kmax]; omega)) ?_)
      | fail
/-- does one come ahead of another one -/
def laterB (a b : Rn) : Bool := decide (orI (cmpI b.st a.st) (cmpI b.seq a.seq) < 0)
theorem laterB_iff {a b : Rn} : laterB a b = true ↔ b.st < a.st ∨ (b.st = a.st ∧ b.seq < a.seq) := by
  unfold laterB orI cmpI
  rw [decide_eq_true_iff]
  by_cases h1 : b.st < a.st
  · simp [h1]
  · by_cases h2 : a.st < b.st
    · simp [h1, h2]
      omega
    · have h3 : b.st = a.st := by omega
      by_cases h4 : b.seq < a.seq
      · simp [h1, h2, h3, h4]
      · by_cases h5 : a.seq < b.seq
        · simp [h1, h2, h3, h4, h5]
        · simp [h1, h2, h3, h4, h5]
theorem lat_any (a b : Rn) (r : Bool) (hr : laterB a b = r) : CallOK Tryz.prog 77 [a.av, b.av] [] (.ret (.bool r)) [] := by
  have h1 := cmp_ok b.st a.st
  have h2 := cmp_ok b.seq a.seq
  unfold laterB at hr
  generalize cmpI b.st a.st = p at h1 hr
  generalize cmpI b.seq a.seq = q at h2 hr
  have h3 := or_any p q _ rfl
  generalize orI p q = o at h3 hr
  subst hr
  refine CallOK.to (E := E) (fn := Tryz.f77) (g := .pure _) (by rfl) (by rfl) (by rfl) (fun _ _ => by rfl) (by decide +kernel) (by rfl) (by rfl) (by rfl) fun _ => ?_
  repeat' first | (refine goN hE 100 rfl ?_; conv => whnf) | refine .pure _ [] h1 ?_ | refine .pure _ [] h2 ?_ | refine .pure _ [] (CallOK.strip h3) ?_ | exact rfl | refine And.intro (fun _ => ?_) (fun h => absurd (show true = false from h) (by decide)) | refine And.intro (fun h => absurd (show false = true from h) (by decide)) (fun _ => ?_) | refine And.intro (fun h => ?_) (fun h => absurd (of_decide_eq_false h) (by omega)) | refine And.intro (fun h => absurd (of_decide_eq_true h) (by omega)) (fun h => ?_) | refine And.intro (fun h => ?_) (fun h => ?_) | refine Or.inl (And.intro (And.intro (by simp only [kmin]; omega) (by simp only [kmax]; omega)) ?_) | refine Exists.intro _ (And.intro rfl ?_) | refine And.intro (by decide) ?_ | refine And.intro (by omega) ?_ | fail
theorem lat_ok (a b : Rn) : CallOK Tryz.prog 77 [a.av, b.av] [] (.ret (.bool (laterB a b))) [] := lat_any a b _ rfl
theorem vown_ok (x : Rn) (h : x.hs.length ≤ 1048576) : CallOK Tryz.prog 79 [x.av] [] (.ret x.av) [] := by
  refine CallOK.to (E := E) (fn := Tryz.f79) (g := .pure _) (by rfl) (by rfl) (by rfl) (fun _ _ => by rfl) (by decide +kernel) (by rfl) (by rfl) (by rfl) fun _ => ?_
  repeat' first | (refine goN hE 100 rfl ?_; conv => whnf) | refine .pure _ [] (cloneI_ok x.hs h) ?_ | exact rfl | refine And.intro (fun _ => ?_) (fun h => absurd (show true = false from h) (by decide)) | refine And.intro (fun h => absurd (show false = true from h) (by decide)) (fun _ => ?_) | refine And.intro (fun h => ?_) (fun h => absurd (of_decide_eq_false h) (by omega)) | refine And.intro (fun h => absurd (of_decide_eq_true h) (by omega)) (fun h => ?_) | refine And.intro (fun h => ?_) (fun h => ?_) | refine Or.inl (And.intro (And.intro (by simp only [kmin]; omega) (by simp only [kmax]; omega)) ?_) | refine Exists.intro _ (And.intro rfl ?_) | refine And.intro (by decide) ?_ | refine And.intro (by omega) ?_ | fail

/- ---------- push ---------- -/
def rn0 : Rn := ⟨⟨0, 0, 0, V3.zero, 0, 0, 0⟩, 0, 0, 0, 0, []⟩
def getR (xs : List Rn) (i : Nat) : Rn := (xs[i]?).getD rn0
theorem getR_lt {xs : List Rn} {i : Nat} (h : i < xs.length) : (rav xs)[i]? = some (getR xs i).av := by
  unfold getR
  rw [List.getElem?_eq_getElem h]
  exact rav_get h
def swapR (xs : List Rn) (i k : Nat) : List Rn := (xs.set i (getR xs k)).set k (getR xs i)
theorem swapR_len (xs : List Rn) (i k : Nat) : (swapR xs i k).length = xs.length := by unfold swapR; simp
theorem rav_swap (xs : List Rn) (i k : Nat) : rav (swapR xs i k) = ((rav xs).set i (getR xs k).av).set k (getR xs i).av := by unfold swapR; simp [rav, List.map_set]
def upH : Nat → List Rn → Nat → List Rn
  | 0, xs, _ => xs
  | f + 1, xs, i => if i = 0 then xs else if laterB (getR xs i) (getR xs ((i - 1) / 2)) = true then upH f (swapR xs i ((i - 1) / 2)) ((i - 1) / 2) else xs
def pushH (xs : List Rn) (x : Rn) : List Rn := upH (xs.length + 1) (xs ++ [x]) xs.length
theorem upH_len : ∀ (f : Nat) (xs : List Rn) (i : Nat), (upH f xs i).length = xs.length
  | 0, xs, i => rfl
  | f + 1, xs, i => by
    unfold upH
    split
    · rfl
    · split
      · rw [upH_len f, swapR_len]
      · rfl
theorem pushH_len (xs : List Rn) (x : Rn) : (pushH xs x).length = xs.length + 1 := by unfold pushH; rw [upH_len]; simp
abbrev latF : AVal := .func (.func 77) [] []
abbrev hpO (l : AVal) (g : Nat) (xs : List Rn) : List AObj := [.cells 98 [l, latF], .row g 14 43 (rav xs)]
noncomputable abbrev fPush : Func := Tryz.f78
theorem push_loop (N : Nat) (hN : N ≤ 1048577) (R : List Rn) : ∀ (f i : Nat) (ys : List Rn), ys.length = N → i < N → i < f → upH f ys i = R →
    To (Er [] [6, 14, 15, 56]) fPush (.full 2 (.ret (.tup [])) (hpO (.row 1 1) 1 R)) (.head (stk fPush 0) [(0, .ref 0 0), (4, ii i)] (hpO (.row 1 1) 1 ys)) := by
  intro f
  induction f with
  | zero => intro i ys _ _ h; omega
  | succ f ih =>
    intro i ys hy hi hf hR
    have hrl : (rav ys).length = ys.length := by simp
    unfold upH at hR
    by_cases h0 : i = 0
    · subst h0
      rw [if_pos rfl] at hR
      subst hR
      refine goes (hEr [] [6, 14, 15, 56]) 100 ?_
      conv => whnf
      repeat' first | (refine goN (hEr [] [6, 14, 15, 56]) 100 rfl ?_; conv => whnf) | refine ⟨[], [0, 1], ⟨rfl, rfl⟩, ⟨rfl, rfl⟩⟩ | exact rfl | refine And.intro (fun _ => ?_) (fun h => absurd (show true = false from h) (by decide)) | refine And.intro (fun h => absurd (show false = true from h) (by decide)) (fun _ => ?_) | refine And.intro (fun h => ?_) (fun h => absurd (of_decide_eq_false h) (by omega)) | refine And.intro (fun h => absurd (of_decide_eq_true h) (by omega)) (fun h => ?_) | refine And.intro (fun h => ?_) (fun h => ?_) | refine Or.inl (And.intro (And.intro (by simp only [kmin]; omega) (by simp only [kmax]; omega)) ?_) | refine Exists.intro _ (And.intro rfl ?_) | refine And.intro (by decide) ?_ | refine And.intro (by omega) ?_ | fail
    rw [if_neg h0] at hR
    have hlt : (i - 1) / 2 < ys.length := by omega
    have hdiv : Int.tdiv ((i : Int) - 1) 2 = (((i - 1) / 2 : Nat) : Int) := by
      rw [Int.tdiv_eq_ediv_of_nonneg (by omega)]
      omega
    have g1 := getR_lt (xs := ys) (i := i) (by omega)
    have g2 := getR_lt hlt
    have hl := lat_ok (getR ys i) (getR ys ((i - 1) / 2))
    generalize hup : (i - 1) / 2 = up at hR hdiv g2 hl hlt
    by_cases h1 : laterB (getR ys i) (getR ys up) = true
    · rw [if_pos h1] at hR
      rw [h1] at hl
      have next := ih up (swapR ys i up) (by rw [swapR_len]; exact hy) (by omega) (by omega) hR
      unfold hpO at next
      rw [rav_swap] at next
      generalize getR ys i = a at g1 hl next
      generalize getR ys up = b at g2 hl next
      refine goes (hEr [] [6, 14, 15, 56]) 100 ?_
      conv => whnf
      refine And.intro (fun h => ?_) (fun h => absurd (of_decide_eq_false h) (by omega))
      repeat' first
        | exact To.cut [0, 4] 2 rfl rfl rfl rfl next
        | (refine goN (hEr [] [6, 14, 15, 56]) 100 rfl ?_; conv => whnf)
        | refine Exists.intro i (And.intro rfl ?_)
        | refine Exists.intro up (And.intro hdiv ?_)
        | refine Exists.intro _ (And.intro g1 ?_)
        | refine Exists.intro _ (And.intro g2 ?_)
        | refine .pure _ [] hl ?_
        | refine And.intro (fun _ => ?_) (fun h => absurd (show true = false from h) (by decide))
        | refine And.intro (fun h => absurd (show false = true from h) (by decide)) (fun _ => ?_)
        | refine And.intro (by omega) ?_
        | refine And.intro (by rw [List.length_set]; omega) ?_
        | refine Or.inl (And.intro (And.intro (by simp only [kmin]; omega) (by simp only [kmax]; omega)) ?_)
        | refine And.intro (by decide) ?_
        | fail
      rw [hdiv]
      exact To.cut [0, 4] 2 rfl rfl rfl rfl next
    · have h1 : laterB (getR ys i) (getR ys up) = false := by simpa using h1
      rw [if_neg (by rw [h1]; decide)] at hR
      subst hR
      rw [h1] at hl
      generalize getR ys i = a at g1 hl
      generalize getR ys up = b at g2 hl
      refine goes (hEr [] [6, 14, 15, 56]) 100 ?_
      conv => whnf
      refine And.intro (fun h => ?_) (fun h => absurd (of_decide_eq_false h) (by omega))
      repeat' first | (refine goN (hEr [] [6, 14, 15, 56]) 100 rfl ?_; conv => whnf) | refine ⟨[], [0, 1], ⟨rfl, rfl⟩, ⟨rfl, rfl⟩⟩ | refine Exists.intro i (And.intro rfl ?_) | refine Exists.intro up (And.intro hdiv ?_) | refine Exists.intro _ (And.intro g1 ?_) | refine Exists.intro _ (And.intro g2 ?_) | refine .pure _ [] hl ?_ | exact rfl | refine And.intro (fun _ => ?_) (fun h => absurd (show true = false from h) (by decide)) | refine And.intro (fun h => absurd (show false = true from h) (by decide)) (fun _ => ?_) | refine And.intro (fun h => ?_) (fun h => absurd (of_decide_eq_false h) (by omega)) | refine And.intro (fun h => absurd (of_decide_eq_true h) (by omega)) (fun h => ?_) | refine And.intro (fun h => ?_) (fun h => ?_) | refine Or.inl (And.intro (And.intro (by simp only [kmin]; omega) (by simp only [kmax]; omega)) ?_) | refine Exists.intro _ (And.intro rfl ?_) | refine And.intro (by decide) ?_ | refine And.intro (by omega) ?_ | fail
theorem push_ok (xs : List Rn) (hl : xs.length ≤ 1048576) (x : Rn) : CallOK Tryz.prog 78 [.ref 0 0, x.av] (hpO (.row 1 0) 0 xs) (.ret (.tup [])) (hpO (.row 1 1) 1 (pushH xs x)) := by
  have hrl : (rav xs).length = xs.length := by simp
  have next := push_loop (xs.length + 1) (by omega) (pushH xs x) (xs.length + 1) xs.length (xs ++ [x]) (by simp) (by omega) (by omega) rfl
  have e : rav (xs ++ [x]) = rav xs ++ [x.av] := by simp
  unfold hpO at next
  rw [e] at next
  refine CallOK.to (E := (Er [] [6, 14, 15, 56])) (fn := Tryz.f78) (g := .full 2 _ _) (by rfl) (by rfl) (by rfl) (fun _ _ => by rfl) (by decide +kernel) (by rfl) (by rfl) (by rfl) fun _ => ?_
  repeat' first | (refine goN (hEr [] [6, 14, 15, 56]) 100 rfl ?_; conv => whnf) | refine And.intro (And.intro (by simp only [maxLen]; simp; omega) (by simp; omega)) ?_ | refine Or.inl (And.intro (And.intro (by simp only [List.length_append, List.length_cons, List.length_nil, kmin]; omega) (by simp only [List.length_append, List.length_cons, List.length_nil, kmax]; omega)) ?_) | exact rfl | refine And.intro (fun _ => ?_) (fun h => absurd (show true = false from h) (by decide)) | refine And.intro (fun h => absurd (show false = true from h) (by decide)) (fun _ => ?_) | refine And.intro (fun h => ?_) (fun h => absurd (of_decide_eq_false h) (by omega)) | refine And.intro (fun h => absurd (of_decide_eq_true h) (by omega)) (fun h => ?_) | refine And.intro (fun h => ?_) (fun h => ?_) | refine Or.inl (And.intro (And.intro (by simp only [kmin]; omega) (by simp only [kmax]; omega)) ?_) | refine Exists.intro _ (And.intro rfl ?_) | refine And.intro (by decide) ?_ | refine And.intro (by omega) ?_ | fail
  refine To.cut [0, 4] 2 rfl rfl rfl rfl ?_
  have e2 : (((rav xs ++ [x.av]).length : Int) - 1) = ((xs.length : Nat) : Int) := by simp
  rw [← e2] at next
  exact next
end Go.Proofs.YtlalcoklkafnnaaGreat

namespace Go.Proofs.YtlalcoklkafnnaaGreat
open Go Go.AW Go.Proofs
set_option maxRecDepth 10000
set_option maxHeartbeats 2000000

def downK (xs : List Rn) (n i : Nat) : Nat := if 2 * i + 2 < n then (if laterB (getR xs (2 * i + 2)) (getR xs (2 * i + 1)) = true then 2 * i + 2 else 2 * i + 1) else 2 * i + 1
theorem downK_r (xs : List Rn) (n i : Nat) (h : 2 * i + 1 < n) : downK xs n i < n ∧ i < downK xs n i ∧ (downK xs n i = 2 * i + 1 ∨ downK xs n i = 2 * i + 2) := by
  unfold downK
  split
  · split <;> omega
  · omega
def downH : Nat → List Rn → Nat → Nat → List Rn
  | 0, xs, _, _ => xs
  | f + 1, xs, n, i => if 2 * i + 1 < n then (if laterB (getR xs (downK xs n i)) (getR xs i) = true then downH f (swapR xs i (downK xs n i)) n (downK xs n i) else xs) else xs
theorem downH_len : ∀ (f : Nat) (xs : List Rn) (n i : Nat), (downH f xs n i).length = xs.length
  | 0, xs, n, i => rfl
  | f + 1, xs, n, i => by
    unfold downH
    split
    · split
      · rw [downH_len f, swapR_len]
      · rfl
    · rfl
/-- what is left behind a pop of the first n -/
def popH (xs : List Rn) (n : Nat) : List Rn := downH n (xs.set 0 (getR xs (n - 1))) (n - 1) 0
theorem popH_len (xs : List Rn) (n : Nat) : (popH xs n).length = xs.length := by unfold popH; rw [downH_len]; simp
theorem getR_z {xs : List Rn} {i : Nat} (h : i < xs.length) : (rav xs)[0 + i]? = some (getR xs i).av := by rw [Nat.zero_add]; exact getR_lt h
theorem rav_swapZ (xs : List Rn) (i k : Nat) : rav (swapR xs i k) = ((rav xs).set (0 + i) (getR xs k).av).set (0 + k) (getR xs i).av := by rw [Nat.zero_add, Nat.zero_add]; exact rav_swap xs i k
abbrev z14 : List AVal := [ii 0, ii 0, ii 0, ii 0, ii 0, ii 0, ii 0, ii 0, ii 0, ii 0, ii 0, ii 0, ii 0, .slice 1 [] .nil]
abbrev ppO (n : Nat) (ys : List Rn) (x : List AVal) : List AObj := hpO (.sub 1 0 0 n 14) 0 ys ++ [.cells 43 z14, .cells 43 x]
abbrev ppF (n i : Int) : List (Nat × AVal) := [(0, .ref 0 0), (2, .ref 2 0), (3, .ref 3 0), (4, ii n), (5, ii i)]
noncomputable abbrev fPop : Func := Tryz.f80
theorem pop_c2 (n N : Nat) (hn : n ≤ N) (hN : N ≤ 1048577) (R : List Rn) (x : Rn) (i : Nat) (ys : List Rn) (hy : ys.length = N) (h0 : 2 * i + 1 < n) (h3 : 2 * i + 2 < n) (a b c : Rn) (g0 : (rav ys)[0 + i]? = some a.av) (g1 : (rav ys)[0 + (2 * i + 1)]? = some b.av) (g2 : (rav ys)[0 + (2 * i + 2)]? = some c.av)
    (hl1 : CallOK Tryz.prog 77 [c.av, b.av] [] (.ret (.bool true)) []) (r : Bool) (hl2 : CallOK Tryz.prog 77 [c.av, a.av] [] (.ret (.bool r)) []) (hR : r = false → ys = R)
    (next : r = true → To (Er [] [105]) fPop (.full 2 (.ret x.av) (hpO (.sub 1 0 0 n 14) 0 R)) (.head (stk fPop 0) (ppF n ((2 * i + 2 : Nat) : Int)) [.cells 98 [.sub 1 0 0 n 14, latF], .row 0 14 43 (((rav ys).set (0 + i) c.av).set (0 + (2 * i + 2)) a.av), .cells 43 z14, .cells 43 x.cs])) :
    To (Er [] [105]) fPop (.full 2 (.ret x.av) (hpO (.sub 1 0 0 n 14) 0 R)) (.head (stk fPop 0) (ppF n i) (ppO n ys x.cs)) := by
  have hrl : (rav ys).length = ys.length := by simp
  have hc : 2 * (i : Int) + 1 + 1 = ((2 * i + 2 : Nat) : Int) := by omega
  cases r with
  | false =>
    have hR := hR rfl
    subst hR
    refine goes (hEr [] [105]) 100 ?_
    conv => whnf
    repeat' first
      | (refine goN (hEr [] [105]) 100 rfl ?_; conv => whnf)
      | refine Exists.intro (2 * i + 2) (And.intro (by omega) ?_)
      | refine Exists.intro (2 * i + 1) (And.intro (by omega) ?_)
      | refine Exists.intro i (And.intro rfl ?_)
      | refine Exists.intro _ (And.intro g2 ?_)
      | refine Exists.intro _ (And.intro g1 ?_)
      | refine Exists.intro _ (And.intro g0 ?_)
      | refine .pure _ [] hl1 ?_
      | refine .pure _ [] hl2 ?_
      | refine And.intro (fun _ => ?_) (fun h => absurd (show true = false from h) (by decide))
      | refine And.intro (fun h => absurd (show false = true from h) (by decide)) (fun _ => ?_)
      | refine And.intro (fun h => ?_) (fun h => absurd (of_decide_eq_false h) (by omega))
      | refine And.intro (fun h => absurd (of_decide_eq_true h) (by omega)) (fun h => ?_)
      | refine And.intro (by omega) ?_
      | refine And.intro (by rw [List.length_set]; omega) ?_
      | refine And.intro (And.intro (by simp only [kmin]; omega) (by simp only [kmax]; omega)) ?_
      | refine Or.inl (And.intro (And.intro (by simp only [kmin]; omega) (by simp only [kmax]; omega)) ?_)
      | refine And.intro (by decide) ?_
      | refine ⟨[], [0, 1], ⟨rfl, rfl⟩, ⟨rfl, rfl⟩⟩
      | fail
  | true =>
    have next := next rfl
    rw [← hc] at next
    refine goes (hEr [] [105]) 100 ?_
    conv => whnf
    repeat' first
      | (refine goN (hEr [] [105]) 100 rfl ?_; conv => whnf)
      | refine Exists.intro (2 * i + 2) (And.intro (by omega) ?_)
      | refine Exists.intro (2 * i + 1) (And.intro (by omega) ?_)
      | refine Exists.intro i (And.intro rfl ?_)
      | refine Exists.intro _ (And.intro g2 ?_)
      | refine Exists.intro _ (And.intro g1 ?_)
      | refine Exists.intro _ (And.intro g0 ?_)
      | refine .pure _ [] hl1 ?_
      | refine .pure _ [] hl2 ?_
      | refine And.intro (fun _ => ?_) (fun h => absurd (show true = false from h) (by decide))
      | refine And.intro (fun h => absurd (show false = true from h) (by decide)) (fun _ => ?_)
      | refine And.intro (fun h => ?_) (fun h => absurd (of_decide_eq_false h) (by omega))
      | refine And.intro (fun h => absurd (of_decide_eq_true h) (by omega)) (fun h => ?_)
      | refine And.intro (by omega) ?_
      | refine And.intro (by rw [List.length_set]; omega) ?_
      | refine And.intro (And.intro (by simp only [kmin]; omega) (by simp only [kmax]; omega)) ?_
      | refine Or.inl (And.intro (And.intro (by simp only [kmin]; omega) (by simp only [kmax]; omega)) ?_)
      | refine And.intro (by decide) ?_
      | refine ⟨[], [0, 1], ⟨rfl, rfl⟩, ⟨rfl, rfl⟩⟩
      | fail
    exact To.cut [0, 2, 3, 4, 5] 4 rfl rfl rfl rfl next
theorem pop_c1 (n N : Nat) (hn : n ≤ N) (hN : N ≤ 1048577) (R : List Rn) (x : Rn) (i : Nat) (ys : List Rn) (hy : ys.length = N) (h0 : 2 * i + 1 < n) (h3 : 2 * i + 2 < n) (a b c : Rn) (g0 : (rav ys)[0 + i]? = some a.av) (g1 : (rav ys)[0 + (2 * i + 1)]? = some b.av) (g2 : (rav ys)[0 + (2 * i + 2)]? = some c.av)
    (hl1 : CallOK Tryz.prog 77 [c.av, b.av] [] (.ret (.bool false)) []) (r : Bool) (hl2 : CallOK Tryz.prog 77 [b.av, a.av] [] (.ret (.bool r)) []) (hR : r = false → ys = R)
    (next : r = true → To (Er [] [105]) fPop (.full 2 (.ret x.av) (hpO (.sub 1 0 0 n 14) 0 R)) (.head (stk fPop 0) (ppF n ((2 * i + 1 : Nat) : Int)) [.cells 98 [.sub 1 0 0 n 14, latF], .row 0 14 43 (((rav ys).set (0 + i) b.av).set (0 + (2 * i + 1)) a.av), .cells 43 z14, .cells 43 x.cs])) :
    To (Er [] [105]) fPop (.full 2 (.ret x.av) (hpO (.sub 1 0 0 n 14) 0 R)) (.head (stk fPop 0) (ppF n i) (ppO n ys x.cs)) := by
  have hrl : (rav ys).length = ys.length := by simp
  have hc : 2 * (i : Int) + 1 = ((2 * i + 1 : Nat) : Int) := by omega
  cases r with
  | false =>
    have hR := hR rfl
    subst hR
    refine goes (hEr [] [105]) 100 ?_
    conv => whnf
    repeat' first
      | (refine goN (hEr [] [105]) 100 rfl ?_; conv => whnf)
      | refine Exists.intro (2 * i + 2) (And.intro (by omega) ?_)
      | refine Exists.intro (2 * i + 1) (And.intro (by omega) ?_)
      | refine Exists.intro i (And.intro rfl ?_)
      | refine Exists.intro _ (And.intro g2 ?_)
      | refine Exists.intro _ (And.intro g1 ?_)
      | refine Exists.intro _ (And.intro g0 ?_)
      | refine .pure _ [] hl1 ?_
      | refine .pure _ [] hl2 ?_
      | refine And.intro (fun _ => ?_) (fun h => absurd (show true = false from h) (by decide))
      | refine And.intro (fun h => absurd (show false = true from h) (by decide)) (fun _ => ?_)
      | refine And.intro (fun h => ?_) (fun h => absurd (of_decide_eq_false h) (by omega))
      | refine And.intro (fun h => absurd (of_decide_eq_true h) (by omega)) (fun h => ?_)
      | refine And.intro (by omega) ?_
      | refine And.intro (by rw [List.length_set]; omega) ?_
      | refine And.intro (And.intro (by simp only [kmin]; omega) (by simp only [kmax]; omega)) ?_
      | refine Or.inl (And.intro (And.intro (by simp only [kmin]; omega) (by simp only [kmax]; omega)) ?_)
      | refine And.intro (by decide) ?_
      | refine ⟨[], [0, 1], ⟨rfl, rfl⟩, ⟨rfl, rfl⟩⟩
      | fail
  | true =>
    have next := next rfl
    rw [← hc] at next
    refine goes (hEr [] [105]) 100 ?_
    conv => whnf
    repeat' first
      | (refine goN (hEr [] [105]) 100 rfl ?_; conv => whnf)
      | refine Exists.intro (2 * i + 2) (And.intro (by omega) ?_)
      | refine Exists.intro (2 * i + 1) (And.intro (by omega) ?_)
      | refine Exists.intro i (And.intro rfl ?_)
      | refine Exists.intro _ (And.intro g2 ?_)
      | refine Exists.intro _ (And.intro g1 ?_)
      | refine Exists.intro _ (And.intro g0 ?_)
      | refine .pure _ [] hl1 ?_
      | refine .pure _ [] hl2 ?_
      | refine And.intro (fun _ => ?_) (fun h => absurd (show true = false from h) (by decide))
      | refine And.intro (fun h => absurd (show false = true from h) (by decide)) (fun _ => ?_)
      | refine And.intro (fun h => ?_) (fun h => absurd (of_decide_eq_false h) (by omega))
      | refine And.intro (fun h => absurd (of_decide_eq_true h) (by omega)) (fun h => ?_)
      | refine And.intro (by omega) ?_
      | refine And.intro (by rw [List.length_set]; omega) ?_
      | refine And.intro (And.intro (by simp only [kmin]; omega) (by simp only [kmax]; omega)) ?_
      | refine Or.inl (And.intro (And.intro (by simp only [kmin]; omega) (by simp only [kmax]; omega)) ?_)
      | refine And.intro (by decide) ?_
      | refine ⟨[], [0, 1], ⟨rfl, rfl⟩, ⟨rfl, rfl⟩⟩
      | fail
    exact To.cut [0, 2, 3, 4, 5] 4 rfl rfl rfl rfl next
theorem pop_c0 (n N : Nat) (hn : n ≤ N) (hN : N ≤ 1048577) (R : List Rn) (x : Rn) (i : Nat) (ys : List Rn) (hy : ys.length = N) (h0 : 2 * i + 1 < n) (h3 : ¬ 2 * i + 2 < n) (a b : Rn) (g0 : (rav ys)[0 + i]? = some a.av) (g1 : (rav ys)[0 + (2 * i + 1)]? = some b.av)
 (r : Bool) (hl2 : CallOK Tryz.prog 77 [b.av, a.av] [] (.ret (.bool r)) []) (hR : r = false → ys = R)
    (next : r = true → To (Er [] [105]) fPop (.full 2 (.ret x.av) (hpO (.sub 1 0 0 n 14) 0 R)) (.head (stk fPop 0) (ppF n ((2 * i + 1 : Nat) : Int)) [.cells 98 [.sub 1 0 0 n 14, latF], .row 0 14 43 (((rav ys).set (0 + i) b.av).set (0 + (2 * i + 1)) a.av), .cells 43 z14, .cells 43 x.cs])) :
    To (Er [] [105]) fPop (.full 2 (.ret x.av) (hpO (.sub 1 0 0 n 14) 0 R)) (.head (stk fPop 0) (ppF n i) (ppO n ys x.cs)) := by
  have hrl : (rav ys).length = ys.length := by simp
  have hl1 := nan_ok 0
  have g2 : True := trivial
  have hc : 2 * (i : Int) + 1 = ((2 * i + 1 : Nat) : Int) := by omega
  cases r with
  | false =>
    have hR := hR rfl
    subst hR
    refine goes (hEr [] [105]) 100 ?_
    conv => whnf
    repeat' first
      | (refine goN (hEr [] [105]) 100 rfl ?_; conv => whnf)
      | refine Exists.intro (2 * i + 2) (And.intro (by omega) ?_)
      | refine Exists.intro (2 * i + 1) (And.intro (by omega) ?_)
      | refine Exists.intro i (And.intro rfl ?_)
      | refine Exists.intro _ (And.intro g2 ?_)
      | refine Exists.intro _ (And.intro g1 ?_)
      | refine Exists.intro _ (And.intro g0 ?_)
      | refine .pure _ [] hl1 ?_
      | refine .pure _ [] hl2 ?_
      | refine And.intro (fun _ => ?_) (fun h => absurd (show true = false from h) (by decide))
      | refine And.intro (fun h => absurd (show false = true from h) (by decide)) (fun _ => ?_)
      | refine And.intro (fun h => ?_) (fun h => absurd (of_decide_eq_false h) (by omega))
      | refine And.intro (fun h => absurd (of_decide_eq_true h) (by omega)) (fun h => ?_)
      | refine And.intro (by omega) ?_
      | refine And.intro (by rw [List.length_set]; omega) ?_
      | refine And.intro (And.intro (by simp only [kmin]; omega) (by simp only [kmax]; omega)) ?_
      | refine Or.inl (And.intro (And.intro (by simp only [kmin]; omega) (by simp only [kmax]; omega)) ?_)
      | refine And.intro (by decide) ?_
      | refine ⟨[], [0, 1], ⟨rfl, rfl⟩, ⟨rfl, rfl⟩⟩
      | fail
  | true =>
    have next := next rfl
    rw [← hc] at next
    refine goes (hEr [] [105]) 100 ?_
    conv => whnf
    repeat' first
      | (refine goN (hEr [] [105]) 100 rfl ?_; conv => whnf)
      | refine Exists.intro (2 * i + 2) (And.intro (by omega) ?_)
      | refine Exists.intro (2 * i + 1) (And.intro (by omega) ?_)
      | refine Exists.intro i (And.intro rfl ?_)
      | refine Exists.intro _ (And.intro g2 ?_)
      | refine Exists.intro _ (And.intro g1 ?_)
      | refine Exists.intro _ (And.intro g0 ?_)
      | refine .pure _ [] hl1 ?_
      | refine .pure _ [] hl2 ?_
      | refine And.intro (fun _ => ?_) (fun h => absurd (show true = false from h) (by decide))
      | refine And.intro (fun h => absurd (show false = true from h) (by decide)) (fun _ => ?_)
      | refine And.intro (fun h => ?_) (fun h => absurd (of_decide_eq_false h) (by omega))
      | refine And.intro (fun h => absurd (of_decide_eq_true h) (by omega)) (fun h => ?_)
      | refine And.intro (by omega) ?_
      | refine And.intro (by rw [List.length_set]; omega) ?_
      | refine And.intro (And.intro (by simp only [kmin]; omega) (by simp only [kmax]; omega)) ?_
      | refine Or.inl (And.intro (And.intro (by simp only [kmin]; omega) (by simp only [kmax]; omega)) ?_)
      | refine And.intro (by decide) ?_
      | refine ⟨[], [0, 1], ⟨rfl, rfl⟩, ⟨rfl, rfl⟩⟩
      | fail
    exact To.cut [0, 2, 3, 4, 5] 4 rfl rfl rfl rfl next
theorem pop_loop (n N : Nat) (hn : n ≤ N) (hN : N ≤ 1048577) (R : List Rn) (x : Rn) : ∀ (f i : Nat) (ys : List Rn), ys.length = N → i < N → n < f + i + 1 → downH f ys n i = R →
    To (Er [] [105]) fPop (.full 2 (.ret x.av) (hpO (.sub 1 0 0 n 14) 0 R)) (.head (stk fPop 0) (ppF n i) (ppO n ys x.cs)) := by
  intro f
  induction f with
  | zero =>
    intro i ys hy hi hf hR
    have hR : ys = R := hR
    subst hR
    have hrl : (rav ys).length = ys.length := by simp
    refine goes (hEr [] [105]) 100 ?_
    conv => whnf
    repeat' first | (refine goN (hEr [] [105]) 100 rfl ?_; conv => whnf) | refine ⟨[], [0, 1], ⟨rfl, rfl⟩, ⟨rfl, rfl⟩⟩ | exact rfl | refine And.intro (fun _ => ?_) (fun h => absurd (show true = false from h) (by decide)) | refine And.intro (fun h => absurd (show false = true from h) (by decide)) (fun _ => ?_) | refine And.intro (fun h => ?_) (fun h => absurd (of_decide_eq_false h) (by omega)) | refine And.intro (fun h => absurd (of_decide_eq_true h) (by omega)) (fun h => ?_) | refine And.intro (fun h => ?_) (fun h => ?_) | refine Or.inl (And.intro (And.intro (by simp only [kmin]; omega) (by simp only [kmax]; omega)) ?_) | refine Exists.intro _ (And.intro rfl ?_) | refine And.intro (by decide) ?_ | refine And.intro (by omega) ?_ | fail
  | succ f ih =>
    intro i ys hy hi hf hR
    have hrl : (rav ys).length = ys.length := by simp
    unfold downH at hR
    by_cases h0 : 2 * i + 1 < n
    · rw [if_pos h0] at hR
      have hkr := downK_r ys n i h0
      have g0 := getR_z (xs := ys) (i := i) (by omega)
      have g1 := getR_z (xs := ys) (i := 2 * i + 1) (by omega)
      have hl2 := lat_ok (getR ys (downK ys n i)) (getR ys i)
      have hsw := rav_swapZ ys i (downK ys n i)
      have ih := ih (downK ys n i) (swapR ys i (downK ys n i)) (by rw [swapR_len]; exact hy) (by omega) (by omega)
      unfold ppO hpO at ih
      rw [hsw] at ih
      have e5 : ∀ r, laterB (getR ys (downK ys n i)) (getR ys i) = r → (r = false → ys = R) ∧ (r = true → downH f (swapR ys i (downK ys n i)) n (downK ys n i) = R) := fun r hr => by
        subst hr
        refine ⟨fun h => ?_, fun h => ?_⟩
        · rw [if_neg (by rw [h]; decide)] at hR
          exact hR
        · rw [if_pos h] at hR
          exact hR
      have e5 := e5 _ rfl
      generalize laterB (getR ys (downK ys n i)) (getR ys i) = r at hl2 e5
      have next := fun hr => ih (e5.2 hr)
      by_cases h3 : 2 * i + 2 < n
      · have g2 := getR_z (xs := ys) (i := 2 * i + 2) (by omega)
        have hl1 := lat_ok (getR ys (2 * i + 2)) (getR ys (2 * i + 1))
        by_cases h4 : laterB (getR ys (2 * i + 2)) (getR ys (2 * i + 1)) = true
        · have hk : downK ys n i = 2 * i + 2 := by unfold downK; rw [if_pos h3, if_pos h4]
          rw [h4] at hl1
          rw [hk] at next hl2
          exact pop_c2 n N hn hN R x i ys hy h0 h3 _ _ _ g0 g1 g2 hl1 r hl2 e5.1 next
        · have h4 : laterB (getR ys (2 * i + 2)) (getR ys (2 * i + 1)) = false := by simpa using h4
          have hk : downK ys n i = 2 * i + 1 := by unfold downK; rw [if_pos h3, if_neg (by rw [h4]; decide)]
          rw [h4] at hl1
          rw [hk] at next hl2
          exact pop_c1 n N hn hN R x i ys hy h0 h3 _ _ _ g0 g1 g2 hl1 r hl2 e5.1 next
      · have hk : downK ys n i = 2 * i + 1 := by unfold downK; rw [if_neg h3]
        rw [hk] at next hl2
        exact pop_c0 n N hn hN R x i ys hy h0 h3 _ _ g0 g1 r hl2 e5.1 next
    · rw [if_neg h0] at hR
      subst hR
      refine goes (hEr [] [105]) 100 ?_
      conv => whnf
      repeat' first | (refine goN (hEr [] [105]) 100 rfl ?_; conv => whnf) | refine ⟨[], [0, 1], ⟨rfl, rfl⟩, ⟨rfl, rfl⟩⟩ | exact rfl | refine And.intro (fun _ => ?_) (fun h => absurd (show true = false from h) (by decide)) | refine And.intro (fun h => absurd (show false = true from h) (by decide)) (fun _ => ?_) | refine And.intro (fun h => ?_) (fun h => absurd (of_decide_eq_false h) (by omega)) | refine And.intro (fun h => absurd (of_decide_eq_true h) (by omega)) (fun h => ?_) | refine And.intro (fun h => ?_) (fun h => ?_) | refine Or.inl (And.intro (And.intro (by simp only [kmin]; omega) (by simp only [kmax]; omega)) ?_) | refine Exists.intro _ (And.intro rfl ?_) | refine And.intro (by decide) ?_ | refine And.intro (by omega) ?_ | fail
/-- the row that the heap has, as its cell tells it -/
inductive HV (ys : List Rn) : AVal → Nat → Prop
  | row : HV ys (.row 1 0) ys.length
  | sub (n : Nat) (h : n ≤ ys.length) : HV ys (.sub 1 0 0 n 14) n
theorem pop_ok (ys : List Rn) (hl : ys.length ≤ 1048577) (hv : AVal) (n : Nat) (hh : HV ys hv n) (hn : 0 < n) : CallOK Tryz.prog 80 [.ref 0 0] (hpO hv 0 ys) (.ret (getR ys 0).av) (hpO (.sub 1 0 0 (n - 1) 14) 0 (popH ys n)) := by
  have hrl : (rav ys).length = ys.length := by simp
  cases hh with
  | row =>
    have g0 := getR_lt (xs := ys) (i := 0) (by omega)
    have g1 := getR_lt (xs := ys) (i := ys.length - 1) (by omega)
    have hn1 : ((ys.length : Nat) : Int) - 1 = ((ys.length - 1 : Nat) : Int) := by omega
    obtain ⟨n, hnn⟩ : ∃ n, n = ys.length := ⟨_, rfl⟩
    rw [← hnn] at g1 hn1 hn ⊢
    have hn2 : ((rav ys).length : Int) - 1 = ((n - 1 : Nat) : Int) := by rw [hrl, ← hnn]; exact hn1
    have next := pop_loop (n - 1) ys.length (by omega) (by omega) (popH ys n) (getR ys 0) n 0 (ys.set 0 (getR ys (n - 1))) (by simp) (by omega) (by omega) rfl
    have e : rav (ys.set 0 (getR ys (n - 1))) = (rav ys).set 0 (getR ys (n - 1)).av := by simp [rav, List.map_set]
    unfold ppO hpO at next
    rw [e] at next
    generalize getR ys 0 = a at g0 next
    generalize getR ys (n - 1) = b at g1 next
    refine CallOK.to (E := (Er [] [105])) (fn := Tryz.f80) (g := .full 2 _ _) (by rfl) (by rfl) (by rfl) (fun _ _ => by rfl) (by decide +kernel) (by rfl) (by rfl) (by rfl) fun _ => ?_
    repeat' first | (refine goN (hEr [] [105]) 100 rfl ?_; conv => whnf) | refine Exists.intro 0 (And.intro rfl ?_) | refine Exists.intro _ (And.intro g0 ?_) | refine Exists.intro (n - 1) (And.intro hn2 ?_) | refine Exists.intro _ (And.intro g1 ?_) | refine And.intro (by rw [List.length_set]; omega) ?_ | exact rfl | refine And.intro (fun _ => ?_) (fun h => absurd (show true = false from h) (by decide)) | refine And.intro (fun h => absurd (show false = true from h) (by decide)) (fun _ => ?_) | refine And.intro (fun h => ?_) (fun h => absurd (of_decide_eq_false h) (by omega)) | refine And.intro (fun h => absurd (of_decide_eq_true h) (by omega)) (fun h => ?_) | refine And.intro (fun h => ?_) (fun h => ?_) | refine Or.inl (And.intro (And.intro (by simp only [kmin]; omega) (by simp only [kmax]; omega)) ?_) | refine Exists.intro _ (And.intro rfl ?_) | refine And.intro (by decide) ?_ | refine And.intro (by omega) ?_ | fail
    rw [hn2]
    exact To.cut [0, 2, 3, 4, 5] 4 rfl rfl rfl rfl next
  | sub _ h =>
    have g0 := getR_z (xs := ys) (i := 0) (by omega)
    have g1 := getR_z (xs := ys) (i := n - 1) (by omega)
    have hn1 : ((n : Nat) : Int) - 1 = ((n - 1 : Nat) : Int) := by omega
    have next := pop_loop (n - 1) ys.length (by omega) (by omega) (popH ys n) (getR ys 0) n 0 (ys.set 0 (getR ys (n - 1))) (by simp) (by omega) (by omega) rfl
    have e : rav (ys.set 0 (getR ys (n - 1))) = (rav ys).set (0 + 0) (getR ys (n - 1)).av := by simp [rav, List.map_set]
    unfold ppO hpO at next
    rw [e] at next
    generalize getR ys 0 = a at g0 next
    generalize getR ys (n - 1) = b at g1 next
    refine CallOK.to (E := (Er [] [105])) (fn := Tryz.f80) (g := .full 2 _ _) (by rfl) (by rfl) (by rfl) (fun _ _ => by rfl) (by decide +kernel) (by rfl) (by rfl) (by rfl) fun _ => ?_
    repeat' first | (refine goN (hEr [] [105]) 100 rfl ?_; conv => whnf) | refine Exists.intro 0 (And.intro rfl ?_) | refine Exists.intro _ (And.intro g0 ?_) | refine Exists.intro (n - 1) (And.intro hn1 ?_) | refine Exists.intro _ (And.intro g1 ?_) | refine And.intro (by rw [List.length_set]; omega) ?_ | exact rfl | refine And.intro (fun _ => ?_) (fun h => absurd (show true = false from h) (by decide)) | refine And.intro (fun h => absurd (show false = true from h) (by decide)) (fun _ => ?_) | refine And.intro (fun h => ?_) (fun h => absurd (of_decide_eq_false h) (by omega)) | refine And.intro (fun h => absurd (of_decide_eq_true h) (by omega)) (fun h => ?_) | refine And.intro (fun h => ?_) (fun h => ?_) | refine Or.inl (And.intro (And.intro (by simp only [kmin]; omega) (by simp only [kmax]; omega)) ?_) | refine Exists.intro _ (And.intro rfl ?_) | refine And.intro (by decide) ?_ | refine And.intro (by omega) ?_ | fail
    rw [hn1]
    exact To.cut [0, 2, 3, 4, 5] 4 rfl rfl rfl rfl next
end Go.Proofs.YtlalcoklkafnnaaGreat

namespace Go.Proofs.YtlalcoklkafnnaaGreat
open Go Go.AW Go.Proofs
set_option maxRecDepth 10000

def popAll : Nat → List Rn → List Rn
  | 0, _ => []
  | n + 1, ys => getR ys 0 :: popAll n (popH ys (n + 1))
def orderL (l : List Rn) : List Rn := popAll l.length (l.foldl pushH [])
theorem pushes_len : ∀ (l ys : List Rn), (l.foldl pushH ys).length = ys.length + l.length
  | [], ys => rfl
  | x :: r, ys => by rw [List.foldl_cons, pushes_len r, pushH_len]; simp; omega
theorem HV.inv {ys : List Rn} {hv : AVal} {n : Nat} (h : HV ys hv n) : (hv = .row 1 0 ∧ n = ys.length) ∨ (hv = .sub 1 0 0 n 14 ∧ n ≤ ys.length) := by
  cases h with
  | row => exact .inl ⟨rfl, rfl⟩
  | sub _ h => exact .inr ⟨rfl, h⟩
noncomputable abbrev fOrd : Func := Tryz.f38
theorem order_pops (R : List Rn) : ∀ (n : Nat) (ys : List Rn) (hv : AVal) (out : List Rn), HV ys hv n → ys.length ≤ 1048577 → out.length + n ≤ 1048576 → out ++ popAll n ys = R →
    To (Eo [6] []) fOrd (.pure (.ret (.slice 14 (rav R) .no))) (.head (stk fOrd 1) [(3, .ref 0 0), (6, .slice 14 (rav out) (.own 2 0))] (hpO hv 0 ys ++ [.tail 0 14 43])) := by
  intro n
  induction n with
  | zero =>
    intro ys hv out hh hy ho hR
    have hR : out ++ [] = R := hR
    rw [List.append_nil] at hR
    subst hR
    have hrl : (rav ys).length = ys.length := by simp
    rcases hh.inv with ⟨e, h⟩ | ⟨e, h⟩
    · subst e
      refine goes (hEo [6] []) 100 ?_
      conv => whnf
      refine And.intro (fun h => absurd (of_decide_eq_true h) (by omega)) (fun h => ?_)
      repeat' first | (refine goN (hEo [6] []) 100 rfl ?_; conv => whnf) | exact rfl | refine And.intro (fun _ => ?_) (fun h => absurd (show true = false from h) (by decide)) | refine And.intro (fun h => absurd (show false = true from h) (by decide)) (fun _ => ?_) | refine And.intro (fun h => ?_) (fun h => absurd (of_decide_eq_false h) (by omega)) | refine And.intro (fun h => absurd (of_decide_eq_true h) (by omega)) (fun h => ?_) | refine And.intro (fun h => ?_) (fun h => ?_) | refine Or.inl (And.intro (And.intro (by simp only [kmin]; omega) (by simp only [kmax]; omega)) ?_) | refine Exists.intro _ (And.intro rfl ?_) | refine And.intro (by decide) ?_ | refine And.intro (by omega) ?_ | fail
    · subst e
      refine goes (hEo [6] []) 100 ?_
      conv => whnf
      repeat' first | (refine goN (hEo [6] []) 100 rfl ?_; conv => whnf) | exact rfl | refine And.intro (fun _ => ?_) (fun h => absurd (show true = false from h) (by decide)) | refine And.intro (fun h => absurd (show false = true from h) (by decide)) (fun _ => ?_) | refine And.intro (fun h => ?_) (fun h => absurd (of_decide_eq_false h) (by omega)) | refine And.intro (fun h => absurd (of_decide_eq_true h) (by omega)) (fun h => ?_) | refine And.intro (fun h => ?_) (fun h => ?_) | refine Or.inl (And.intro (And.intro (by simp only [kmin]; omega) (by simp only [kmax]; omega)) ?_) | refine Exists.intro _ (And.intro rfl ?_) | refine And.intro (by decide) ?_ | refine And.intro (by omega) ?_ | fail
  | succ n ih =>
    intro ys hv out hh hy ho hR
    have hrl : (rav ys).length = ys.length := by simp
    have hp := pop_ok ys hy hv (n + 1) hh (by omega)
    have hR : out ++ getR ys 0 :: popAll n (popH ys (n + 1)) = R := hR
    have hnl : n ≤ (popH ys (n + 1)).length := by
      rw [popH_len]
      rcases hh.inv with ⟨_, h⟩ | ⟨_, h⟩ <;> omega
    have next := ih (popH ys (n + 1)) (.sub 1 0 0 n 14) (out ++ [getR ys 0]) (.sub n hnl) (by rw [popH_len]; exact hy) (by simp; omega) (by rw [List.append_assoc]; exact hR)
    have e : rav (out ++ [getR ys 0]) = rav out ++ [(getR ys 0).av] := by simp
    rw [e] at next
    have hol : (rav out).length = out.length := by simp
    generalize getR ys 0 = x at hp next
    have en : n + 1 - 1 = n := by omega
    rw [en] at hp
    generalize popH ys (n + 1) = ys' at hp next
    rcases hh.inv with ⟨e, h⟩ | ⟨e, h⟩
    · subst e
      refine goes (hEo [6] []) 100 ?_
      conv => whnf
      refine And.intro (fun h => ?_) (fun h => absurd (of_decide_eq_false h) (by omega))
      repeat' first | (refine goN (hEo [6] []) 100 rfl ?_; conv => whnf) | refine .eff [] [0, 1] _ _ rfl hp ?_ | refine And.intro (And.intro (by simp only [maxLen]; simp; omega) (by simp; omega)) ?_ | exact rfl | refine And.intro (fun _ => ?_) (fun h => absurd (show true = false from h) (by decide)) | refine And.intro (fun h => absurd (show false = true from h) (by decide)) (fun _ => ?_) | refine And.intro (fun h => ?_) (fun h => absurd (of_decide_eq_false h) (by omega)) | refine And.intro (fun h => absurd (of_decide_eq_true h) (by omega)) (fun h => ?_) | refine And.intro (fun h => ?_) (fun h => ?_) | refine Or.inl (And.intro (And.intro (by simp only [kmin]; omega) (by simp only [kmax]; omega)) ?_) | refine Exists.intro _ (And.intro rfl ?_) | refine And.intro (by decide) ?_ | refine And.intro (by omega) ?_ | fail
      refine To.part [3, 6] [0, 1, 2] rfl rfl rfl ?_
      exact next
    · subst e
      refine goes (hEo [6] []) 100 ?_
      conv => whnf
      refine And.intro (fun h => ?_) (fun h => absurd (of_decide_eq_false h) (by omega))
      repeat' first | (refine goN (hEo [6] []) 100 rfl ?_; conv => whnf) | refine .eff [] [0, 1] _ _ rfl hp ?_ | refine And.intro (And.intro (by simp only [maxLen]; simp; omega) (by simp; omega)) ?_ | exact rfl | refine And.intro (fun _ => ?_) (fun h => absurd (show true = false from h) (by decide)) | refine And.intro (fun h => absurd (show false = true from h) (by decide)) (fun _ => ?_) | refine And.intro (fun h => ?_) (fun h => absurd (of_decide_eq_false h) (by omega)) | refine And.intro (fun h => absurd (of_decide_eq_true h) (by omega)) (fun h => ?_) | refine And.intro (fun h => ?_) (fun h => ?_) | refine Or.inl (And.intro (And.intro (by simp only [kmin]; omega) (by simp only [kmax]; omega)) ?_) | refine Exists.intro _ (And.intro rfl ?_) | refine And.intro (by decide) ?_ | refine And.intro (by omega) ?_ | fail
      refine To.part [3, 6] [0, 1, 2] rfl rfl rfl ?_
      exact next
theorem order_push (l : List Rn) (hs : Sm l) (R : List Rn) : ∀ (m i : Nat) (ys : List Rn), i + m = l.length → ys.length = i → popAll l.length ((l.drop i).foldl pushH ys) = R →
    To (Eo [6] []) fOrd (.pure (.ret (.slice 14 (rav R) .no))) (.head (stk fOrd 0) [(3, .ref 0 0), (9, .slice 14 (rav l) .no), (10, .int .i64 ((rav l).length : Nat)), (11, ii i)] (hpO (.row 1 0) 0 ys)) := by
  have hlen : (rav l).length = l.length := by simp
  have hl := hs.1
  intro m
  induction m with
  | zero =>
    intro i ys hi hy hR
    rw [List.drop_eq_nil_of_le (by omega)] at hR
    have hR : popAll l.length ys = R := hR
    have next := order_pops R l.length ys (.row 1 0) [] (by rw [show l.length = ys.length from by omega]; exact .row) (by omega) (by simp; omega) hR
    refine goes (hEo [6] []) 100 ?_
    conv => whnf
    refine And.intro (fun h => absurd (of_decide_eq_true h) (by omega)) (fun h => ?_)
    repeat' first | (refine goN (hEo [6] []) 100 rfl ?_; conv => whnf) | exact rfl | refine And.intro (fun _ => ?_) (fun h => absurd (show true = false from h) (by decide)) | refine And.intro (fun h => absurd (show false = true from h) (by decide)) (fun _ => ?_) | refine And.intro (fun h => ?_) (fun h => absurd (of_decide_eq_false h) (by omega)) | refine And.intro (fun h => absurd (of_decide_eq_true h) (by omega)) (fun h => ?_) | refine And.intro (fun h => ?_) (fun h => ?_) | refine Or.inl (And.intro (And.intro (by simp only [kmin]; omega) (by simp only [kmax]; omega)) ?_) | refine Exists.intro _ (And.intro rfl ?_) | refine And.intro (by decide) ?_ | refine And.intro (by omega) ?_ | fail
    refine To.part [3, 6] [0, 1, 2] rfl rfl rfl ?_
    exact next
  | succ m ih =>
    intro i ys hi hy hR
    have hlt : i < l.length := by omega
    have hb := hs.at hlt
    rw [List.drop_eq_getElem_cons hlt, List.foldl_cons] at hR
    generalize hq : l[i] = x at hR hb
    have get : (rav l)[i]? = some x.av := (rav_get hlt).trans (by rw [hq])
    have next := ih (i + 1) (pushH ys x) (by omega) (by rw [pushH_len]; omega) hR
    have hp := push_ok ys (by omega) x
    generalize pushH ys x = ys' at hp next
    refine goes (hEo [6] []) 100 ?_
    conv => whnf
    refine And.intro (fun h => ?_) (fun h => absurd (of_decide_eq_false h) (by omega))
    repeat' first | (refine goN (hEo [6] []) 100 rfl ?_; conv => whnf) | refine Exists.intro i (And.intro rfl ?_) | refine Exists.intro _ (And.intro get ?_) | refine .pure _ [] (vown_ok x hb) ?_ | refine .eff [] [0, 1] _ _ rfl hp ?_ | exact rfl | refine And.intro (fun _ => ?_) (fun h => absurd (show true = false from h) (by decide)) | refine And.intro (fun h => absurd (show false = true from h) (by decide)) (fun _ => ?_) | refine And.intro (fun h => ?_) (fun h => absurd (of_decide_eq_false h) (by omega)) | refine And.intro (fun h => absurd (of_decide_eq_true h) (by omega)) (fun h => ?_) | refine And.intro (fun h => ?_) (fun h => ?_) | refine Or.inl (And.intro (And.intro (by simp only [kmin]; omega) (by simp only [kmax]; omega)) ?_) | refine Exists.intro _ (And.intro rfl ?_) | refine And.intro (by decide) ?_ | refine And.intro (by omega) ?_ | fail
    refine To.part [3, 9, 10, 11] [0, 1] rfl rfl rfl ?_
    exact next
theorem order_ok (l : List Rn) (hs : Sm l) : CallOK Tryz.prog 38 [.slice 14 (rav l) .no] [] (.ret (.slice 14 (rav (orderL l)) .no)) [] := by
  refine CallOK.to (E := (Eo [6] [])) (fn := Tryz.f38) (g := .pure _) (by rfl) (by rfl) (by rfl) (fun _ _ => by rfl) (by decide +kernel) (by rfl) (by rfl) (by rfl) fun _ => ?_
  refine goes (hEo [6] []) 100 ?_
  conv => whnf
  refine To.beginRowH 0 0 43 rfl rfl ?_
  refine To.part [3, 9, 10, 11] [0, 1] rfl rfl rfl ?_
  exact order_push l hs _ l.length 0 [] (by omega) rfl rfl
end Go.Proofs.YtlalcoklkafnnaaGreat

namespace Go.Proofs.YtlalcoklkafnnaaGreat
open Go Go.AW Go.Proofs
set_option maxRecDepth 10000

/- ---------- Index, Contains ---------- -/
def findI (p : Int → Bool) : List Int → Nat → Int
  | [], _ => -1
  | x :: r, i => if p x = true then (i : Int) else findI p r (i + 1)
theorem findI_iff (p : Int → Bool) : ∀ (l : List Int) (i : Nat), decide (0 ≤ findI p l i) = l.any p
  | [], i => by simp [findI]
  | x :: r, i => by
    unfold findI
    rw [List.any_cons]
    cases h : p x with
    | true => simp
    | false => simp [findI_iff p r (i + 1)]
def inB (v : Int) (l : List Int) : Bool := l.any fun x => v == x
noncomputable abbrev fIdxI : Func := Tryz.f114
theorem idxI_loop (l : List Int) (hl : l.length ≤ 1048576) (v r : Int) : ∀ (m i : Nat), i + m = l.length → findI (fun x => v == x) (l.drop i) i = r →
    To E fIdxI (.pure (.ret (ii r))) (.head (stk fIdxI 0) [(0, .slice 1 (iv l) .no), (1, ii v), (7, .int .i64 ((iv l).length : Nat)), (8, ii i)] []) := by
  have hlen : (iv l).length = l.length := by simp
  intro m
  induction m with
  | zero =>
    intro i hi hr
    rw [List.drop_eq_nil_of_le (by omega)] at hr
    have hr : -1 = r := hr
    subst hr
    refine goes hE 100 ?_
    conv => whnf
    refine And.intro (fun h => absurd (of_decide_eq_true h) (by omega)) (fun h => ?_)
    repeat' first | (refine goN hE 100 rfl ?_; conv => whnf) | exact rfl | refine And.intro (fun _ => ?_) (fun h => absurd (show true = false from h) (by decide)) | refine And.intro (fun h => absurd (show false = true from h) (by decide)) (fun _ => ?_) | refine And.intro (fun h => ?_) (fun h => absurd (of_decide_eq_false h) (by omega)) | refine And.intro (fun h => absurd (of_decide_eq_true h) (by omega)) (fun h => ?_) | refine And.intro (fun h => ?_) (fun h => ?_) | refine Or.inl (And.intro (And.intro (by simp only [kmin]; omega) (by simp only [kmax]; omega)) ?_) | refine Exists.intro _ (And.intro rfl ?_) | refine And.intro (by decide) ?_ | refine And.intro (by omega) ?_ | fail
  | succ m ih =>
    intro i hi hr
    have hlt : i < l.length := by omega
    rw [List.drop_eq_getElem_cons hlt] at hr
    have get := iv_get hlt
    generalize l[i] = x at hr get
    unfold findI at hr
    have ih := ih (i + 1) (by omega)
    cases hq : (v == x) with
    | true =>
      rw [if_pos hq] at hr
      subst hr
      refine goes hE 100 ?_
      conv => whnf
      refine And.intro (fun h => ?_) (fun h => absurd (of_decide_eq_false h) (by omega))
      repeat' first | (refine goN hE 100 rfl ?_; conv => whnf) | refine Exists.intro i (And.intro rfl ?_) | refine Exists.intro _ (And.intro get ?_) | refine And.intro (fun h => ?_) (fun h => absurd h (by rw [hq]; decide)) | exact rfl | refine And.intro (fun _ => ?_) (fun h => absurd (show true = false from h) (by decide)) | refine And.intro (fun h => absurd (show false = true from h) (by decide)) (fun _ => ?_) | refine And.intro (fun h => ?_) (fun h => absurd (of_decide_eq_false h) (by omega)) | refine And.intro (fun h => absurd (of_decide_eq_true h) (by omega)) (fun h => ?_) | refine And.intro (fun h => ?_) (fun h => ?_) | refine Or.inl (And.intro (And.intro (by simp only [kmin]; omega) (by simp only [kmax]; omega)) ?_) | refine Exists.intro _ (And.intro rfl ?_) | refine And.intro (by decide) ?_ | refine And.intro (by omega) ?_ | fail
    | false =>
      rw [if_neg (by rw [hq]; decide)] at hr
      have next := ih hr
      refine goes hE 100 ?_
      conv => whnf
      refine And.intro (fun h => ?_) (fun h => absurd (of_decide_eq_false h) (by omega))
      repeat' first | (refine goN hE 100 rfl ?_; conv => whnf) | refine Exists.intro i (And.intro rfl ?_) | refine Exists.intro _ (And.intro get ?_) | refine And.intro (fun h => absurd h (by rw [hq]; decide)) (fun h => ?_) | exact rfl | refine And.intro (fun _ => ?_) (fun h => absurd (show true = false from h) (by decide)) | refine And.intro (fun h => absurd (show false = true from h) (by decide)) (fun _ => ?_) | refine And.intro (fun h => ?_) (fun h => absurd (of_decide_eq_false h) (by omega)) | refine And.intro (fun h => absurd (of_decide_eq_true h) (by omega)) (fun h => ?_) | refine And.intro (fun h => ?_) (fun h => ?_) | refine Or.inl (And.intro (And.intro (by simp only [kmin]; omega) (by simp only [kmax]; omega)) ?_) | refine Exists.intro _ (And.intro rfl ?_) | refine And.intro (by decide) ?_ | refine And.intro (by omega) ?_ | fail
      exact To.cut [0, 1, 7, 8] 0 rfl rfl rfl rfl next
theorem idxI_ok (l : List Int) (hl : l.length ≤ 1048576) (v : Int) : CallOK Tryz.prog 114 [.slice 1 (iv l) .no, ii v] [] (.ret (ii (findI (fun x => v == x) l 0))) [] := by
  refine CallOK.to (E := E) (fn := Tryz.f114) (g := .pure _) (by rfl) (by rfl) (by rfl) (fun _ _ => by rfl) (by decide +kernel) (by rfl) (by rfl) (by rfl) fun _ => ?_
  refine goes hE 100 ?_
  conv => whnf
  exact To.cut [0, 1, 7, 8] 0 rfl rfl rfl rfl (idxI_loop l hl v _ l.length 0 (by omega) rfl)
theorem contI_ok (l : List Int) (hl : l.length ≤ 1048576) (v : Int) : CallOK Tryz.prog 81 [.slice 1 (iv l) .no, ii v] [] (.ret (.bool (inB v l))) [] := by
  have h := idxI_ok l hl v
  have e := findI_iff (fun x => v == x) l 0
  unfold inB
  rw [← e]
  generalize findI (fun x => v == x) l 0 = q at h
  refine CallOK.to (E := E) (fn := Tryz.f81) (g := .pure _) (by rfl) (by rfl) (by rfl) (fun _ _ => by rfl) (by decide +kernel) (by rfl) (by rfl) (by rfl) fun _ => ?_
  repeat' first | (refine goN hE 100 rfl ?_; conv => whnf) | refine .pure _ [] h ?_ | exact rfl | refine And.intro (fun _ => ?_) (fun h => absurd (show true = false from h) (by decide)) | refine And.intro (fun h => absurd (show false = true from h) (by decide)) (fun _ => ?_) | refine And.intro (fun h => ?_) (fun h => absurd (of_decide_eq_false h) (by omega)) | refine And.intro (fun h => absurd (of_decide_eq_true h) (by omega)) (fun h => ?_) | refine And.intro (fun h => ?_) (fun h => ?_) | refine Or.inl (And.intro (And.intro (by simp only [kmin]; omega) (by simp only [kmax]; omega)) ?_) | refine Exists.intro _ (And.intro rfl ?_) | refine And.intro (by decide) ?_ | refine And.intro (by omega) ?_ | fail

/- ---------- Without ---------- -/
def withoutL (l : List Rn) (ids : List Int) : List Rn := l.filter fun x => !(inB x.g.id ids)
theorem without_pos {x : Rn} {r : List Rn} {ids : List Int} (h : inB x.g.id ids = false) : withoutL (x :: r) ids = x :: withoutL r ids := List.filter_cons_of_pos (by rw [h]; rfl)
theorem without_neg {x : Rn} {r : List Rn} {ids : List Int} (h : inB x.g.id ids = true) : withoutL (x :: r) ids = withoutL r ids := List.filter_cons_of_neg (by rw [h]; decide)
theorem without_sm {l : List Rn} (hs : Sm l) (ids : List Int) : Sm (withoutL l ids) :=
  ⟨Nat.le_trans (List.length_filter_le _ _) hs.1, fun x hx => hs.2 x (List.mem_filter.1 hx).1⟩
noncomputable abbrev fWo : Func := Tryz.f39
theorem wo_loop (l : List Rn) (hs : Sm l) (ids : List Int) (hd : ids.length ≤ 1048576) (R : List Rn) : ∀ (m i : Nat) (acc : List Rn), i + m = l.length → acc.length ≤ i → acc ++ withoutL (l.drop i) ids = R →
    To (Eo [5] []) fWo (.pure (.ret (.slice 14 (rav R) .no))) (.head (stk fWo 0) [(1, .slice 1 (iv ids) .no), (5, .slice 14 (rav acc) (.own 0 0)), (8, .slice 14 (rav l) .no), (9, .int .i64 ((rav l).length : Nat)), (10, ii i)] [.tail 0 14 43]) := by
  have hlen : (rav l).length = l.length := by simp
  have hl := hs.1
  intro m
  induction m with
  | zero =>
    intro i acc hi ha hR
    rw [List.drop_eq_nil_of_le (by omega)] at hR
    have hR : acc ++ [] = R := hR
    rw [List.append_nil] at hR
    subst hR
    refine goes (hEo [5] []) 100 ?_
    conv => whnf
    refine And.intro (fun h => absurd (of_decide_eq_true h) (by omega)) (fun h => ?_)
    repeat' first | (refine goN (hEo [5] []) 100 rfl ?_; conv => whnf) | exact rfl | refine And.intro (fun _ => ?_) (fun h => absurd (show true = false from h) (by decide)) | refine And.intro (fun h => absurd (show false = true from h) (by decide)) (fun _ => ?_) | refine And.intro (fun h => ?_) (fun h => absurd (of_decide_eq_false h) (by omega)) | refine And.intro (fun h => absurd (of_decide_eq_true h) (by omega)) (fun h => ?_) | refine And.intro (fun h => ?_) (fun h => ?_) | refine Or.inl (And.intro (And.intro (by simp only [kmin]; omega) (by simp only [kmax]; omega)) ?_) | refine Exists.intro _ (And.intro rfl ?_) | refine And.intro (by decide) ?_ | refine And.intro (by omega) ?_ | fail
  | succ m ih =>
    intro i acc hi ha hR
    have hlt : i < l.length := by omega
    have hb := hs.at hlt
    rw [List.drop_eq_getElem_cons hlt] at hR
    generalize hq : l[i] = x at hR hb
    have get : (rav l)[i]? = some x.av := (rav_get hlt).trans (by rw [hq])
    have hla : (rav acc).length = acc.length := by simp
    have hc := contI_ok ids hd x.g.id
    cases hw : inB x.g.id ids with
    | true =>
      rw [hw] at hc
      rw [without_neg hw] at hR
      have next := ih (i + 1) acc (by omega) (by omega) hR
      refine goes (hEo [5] []) 100 ?_
      conv => whnf
      refine And.intro (fun h => ?_) (fun h => absurd (of_decide_eq_false h) (by omega))
      repeat' first | (refine goN (hEo [5] []) 100 rfl ?_; conv => whnf) | refine Exists.intro i (And.intro rfl ?_) | refine Exists.intro _ (And.intro get ?_) | refine .pure _ [] hc ?_ | exact rfl | refine And.intro (fun _ => ?_) (fun h => absurd (show true = false from h) (by decide)) | refine And.intro (fun h => absurd (show false = true from h) (by decide)) (fun _ => ?_) | refine And.intro (fun h => ?_) (fun h => absurd (of_decide_eq_false h) (by omega)) | refine And.intro (fun h => absurd (of_decide_eq_true h) (by omega)) (fun h => ?_) | refine And.intro (fun h => ?_) (fun h => ?_) | refine Or.inl (And.intro (And.intro (by simp only [kmin]; omega) (by simp only [kmax]; omega)) ?_) | refine Exists.intro _ (And.intro rfl ?_) | refine And.intro (by decide) ?_ | refine And.intro (by omega) ?_ | fail
      refine To.part [1, 5, 8, 9, 10] [0] rfl rfl rfl ?_
      exact next
    | false =>
      rw [hw] at hc
      rw [without_pos hw] at hR
      have next := ih (i + 1) (acc ++ [x]) (by omega) (by simp; omega) (by rw [List.append_assoc]; exact hR)
      have e : rav (acc ++ [x]) = rav acc ++ [x.av] := by simp
      rw [e] at next
      refine goes (hEo [5] []) 100 ?_
      conv => whnf
      refine And.intro (fun h => ?_) (fun h => absurd (of_decide_eq_false h) (by omega))
      repeat' first | (refine goN (hEo [5] []) 100 rfl ?_; conv => whnf) | refine Exists.intro i (And.intro rfl ?_) | refine Exists.intro _ (And.intro get ?_) | refine .pure _ [] hc ?_ | refine .pure _ [] (vown_ok x hb) ?_ | refine And.intro (And.intro (by simp only [maxLen]; simp; omega) (by simp; omega)) ?_ | exact rfl | refine And.intro (fun _ => ?_) (fun h => absurd (show true = false from h) (by decide)) | refine And.intro (fun h => absurd (show false = true from h) (by decide)) (fun _ => ?_) | refine And.intro (fun h => ?_) (fun h => absurd (of_decide_eq_false h) (by omega)) | refine And.intro (fun h => absurd (of_decide_eq_true h) (by omega)) (fun h => ?_) | refine And.intro (fun h => ?_) (fun h => ?_) | refine Or.inl (And.intro (And.intro (by simp only [kmin]; omega) (by simp only [kmax]; omega)) ?_) | refine Exists.intro _ (And.intro rfl ?_) | refine And.intro (by decide) ?_ | refine And.intro (by omega) ?_ | fail
      refine To.part [1, 5, 8, 9, 10] [0] rfl rfl rfl ?_
      exact next
theorem without_ok (l : List Rn) (hs : Sm l) (ids : List Int) (hd : ids.length ≤ 1048576) : CallOK Tryz.prog 39 [.slice 14 (rav l) .no, .slice 1 (iv ids) .no] [] (.ret (.slice 14 (rav (withoutL l ids)) .no)) [] := by
  refine CallOK.to (E := (Eo [5] [])) (fn := Tryz.f39) (g := .pure _) (by rfl) (by rfl) (by rfl) (fun _ _ => by rfl) (by decide +kernel) (by rfl) (by rfl) (by rfl) fun _ => ?_
  refine goes (hEo [5] []) 100 ?_
  conv => whnf
  refine To.part [1, 5, 8, 9, 10] [0] rfl rfl rfl ?_
  exact wo_loop l hs ids hd _ l.length 0 [] (by omega) (by simp) rfl

/- ---------- Within, Borrows ---------- -/
theorem leafB_ok' {ns : List Nod} {t : Int} (h : leafB ns t = true) : 0 ≤ t ∧ t.toNat < ns.length := by
  unfold leafB at h
  by_cases h1 : 0 ≤ t
  · rw [if_pos (decide_eq_true h1)] at h
    by_cases h2 : t < (ns.length : Int)
    · omega
    · rw [if_neg (by rw [decide_eq_false h2]; decide)] at h
      cases h
  · rw [if_neg (by rw [decide_eq_false h1]; decide)] at h
    cases h
theorem vnod_get {c : Con} {t : Int} (h : 0 ≤ t ∧ t.toNat < c.ns.length) : (nav c.ns)[t.toNat]? = some (nodAt c.ns t).av := by
  unfold nodAt
  rw [List.getElem?_eq_getElem h.2]
  exact nav_get h.2
def withinB (c : Con) (used : List V3) (t : Int) (need : V3) : Bool := if leafB c.ns t = true then vfits (vadd (atV used t) need) (nodAt c.ns t).n else false
def borrowsB (c : Con) (used : List V3) (t : Int) : Bool := if leafB c.ns t = true then !vfits (atV used t) (nodAt c.ns t).n else false
theorem within_any (c : Con) (used : List V3) (t : Int) (need : V3) (r : Bool) (hr : withinB c used t need = r) : CallOK Tryz.prog 40 [c.av, .slice 3 (vav used) .no, ii t, need.av] [] (.ret (.bool r)) [] := by
  have hlf := leaf_ok c t
  unfold withinB at hr
  cases hq : leafB c.ns t with
  | false =>
    rw [hq] at hlf
    rw [if_neg (by rw [hq]; decide)] at hr
    subst hr
    refine CallOK.to (E := E) (fn := Tryz.f40) (g := .pure _) (by rfl) (by rfl) (by rfl) (fun _ _ => by rfl) (by decide +kernel) (by rfl) (by rfl) (by rfl) fun _ => ?_
    repeat' first | (refine goN hE 100 rfl ?_; conv => whnf) | refine .pure _ [] hlf ?_ | exact rfl | refine And.intro (fun _ => ?_) (fun h => absurd (show true = false from h) (by decide)) | refine And.intro (fun h => absurd (show false = true from h) (by decide)) (fun _ => ?_) | refine And.intro (fun h => ?_) (fun h => absurd (of_decide_eq_false h) (by omega)) | refine And.intro (fun h => absurd (of_decide_eq_true h) (by omega)) (fun h => ?_) | refine And.intro (fun h => ?_) (fun h => ?_) | refine Or.inl (And.intro (And.intro (by simp only [kmin]; omega) (by simp only [kmax]; omega)) ?_) | refine Exists.intro _ (And.intro rfl ?_) | refine And.intro (by decide) ?_ | refine And.intro (by omega) ?_ | fail
  | true =>
    rw [hq] at hlf
    rw [if_pos hq] at hr
    have hg := leafB_ok' hq
    have hn : t = (t.toNat : Int) := by omega
    have getn := vnod_get (c := c) hg
    generalize nodAt c.ns t = x at getn hr
    have h1 := atV_ok used t
    generalize atV used t = q1 at h1 hr
    have h2 := vadd_ok q1 need
    generalize vadd q1 need = q2 at h2 hr
    have h3 := vfits_ok q2 x.n
    rw [hr] at h3
    refine CallOK.to (E := E) (fn := Tryz.f40) (g := .pure _) (by rfl) (by rfl) (by rfl) (fun _ _ => by rfl) (by decide +kernel) (by rfl) (by rfl) (by rfl) fun _ => ?_
    repeat' first | (refine goN hE 100 rfl ?_; conv => whnf) | refine .pure _ [] hlf ?_ | refine Exists.intro t.toNat (And.intro hn ?_) | refine Exists.intro _ (And.intro getn ?_) | refine .pure _ [] h1 ?_ | refine .pure _ [] h2 ?_ | refine .pure _ [] h3 ?_ | exact rfl | refine And.intro (fun _ => ?_) (fun h => absurd (show true = false from h) (by decide)) | refine And.intro (fun h => absurd (show false = true from h) (by decide)) (fun _ => ?_) | refine And.intro (fun h => ?_) (fun h => absurd (of_decide_eq_false h) (by omega)) | refine And.intro (fun h => absurd (of_decide_eq_true h) (by omega)) (fun h => ?_) | refine And.intro (fun h => ?_) (fun h => ?_) | refine Or.inl (And.intro (And.intro (by simp only [kmin]; omega) (by simp only [kmax]; omega)) ?_) | refine Exists.intro _ (And.intro rfl ?_) | refine And.intro (by decide) ?_ | refine And.intro (by omega) ?_ | fail
theorem within_ok (c : Con) (used : List V3) (t : Int) (need : V3) : CallOK Tryz.prog 40 [c.av, .slice 3 (vav used) .no, ii t, need.av] [] (.ret (.bool (withinB c used t need))) [] := within_any c used t need _ rfl
theorem borrows_any (c : Con) (used : List V3) (t : Int) (r : Bool) (hr : borrowsB c used t = r) : CallOK Tryz.prog 46 [c.av, .slice 3 (vav used) .no, ii t] [] (.ret (.bool r)) [] := by
  have hlf := leaf_ok c t
  unfold borrowsB at hr
  cases hq : leafB c.ns t with
  | false =>
    rw [hq] at hlf
    rw [if_neg (by rw [hq]; decide)] at hr
    subst hr
    refine CallOK.to (E := E) (fn := Tryz.f46) (g := .pure _) (by rfl) (by rfl) (by rfl) (fun _ _ => by rfl) (by decide +kernel) (by rfl) (by rfl) (by rfl) fun _ => ?_
    repeat' first | (refine goN hE 100 rfl ?_; conv => whnf) | refine .pure _ [] hlf ?_ | exact rfl | refine And.intro (fun _ => ?_) (fun h => absurd (show true = false from h) (by decide)) | refine And.intro (fun h => absurd (show false = true from h) (by decide)) (fun _ => ?_) | refine And.intro (fun h => ?_) (fun h => absurd (of_decide_eq_false h) (by omega)) | refine And.intro (fun h => absurd (of_decide_eq_true h) (by omega)) (fun h => ?_) | refine And.intro (fun h => ?_) (fun h => ?_) | refine Or.inl (And.intro (And.intro (by simp only [kmin]; omega) (by simp only [kmax]; omega)) ?_) | refine Exists.intro _ (And.intro rfl ?_) | refine And.intro (by decide) ?_ | refine And.intro (by omega) ?_ | fail
  | true =>
    rw [hq] at hlf
    rw [if_pos hq] at hr
    have hg := leafB_ok' hq
    have hn : t = (t.toNat : Int) := by omega
    have getn := vnod_get (c := c) hg
    generalize nodAt c.ns t = x at getn hr
    have h1 := atV_ok used t
    generalize atV used t = q1 at h1 hr
    have h3 := vover_ok q1 x.n
    rw [hr] at h3
    refine CallOK.to (E := E) (fn := Tryz.f46) (g := .pure _) (by rfl) (by rfl) (by rfl) (fun _ _ => by rfl) (by decide +kernel) (by rfl) (by rfl) (by rfl) fun _ => ?_
    repeat' first | (refine goN hE 100 rfl ?_; conv => whnf) | refine .pure _ [] hlf ?_ | refine Exists.intro t.toNat (And.intro hn ?_) | refine Exists.intro _ (And.intro getn ?_) | refine .pure _ [] h1 ?_ | refine .pure _ [] h3 ?_ | exact rfl | refine And.intro (fun _ => ?_) (fun h => absurd (show true = false from h) (by decide)) | refine And.intro (fun h => absurd (show false = true from h) (by decide)) (fun _ => ?_) | refine And.intro (fun h => ?_) (fun h => absurd (of_decide_eq_false h) (by omega)) | refine And.intro (fun h => absurd (of_decide_eq_true h) (by omega)) (fun h => ?_) | refine And.intro (fun h => ?_) (fun h => ?_) | refine Or.inl (And.intro (And.intro (by simp only [kmin]; omega) (by simp only [kmax]; omega)) ?_) | refine Exists.intro _ (And.intro rfl ?_) | refine And.intro (by decide) ?_ | refine And.intro (by omega) ?_ | fail
theorem borrows_ok (c : Con) (used : List V3) (t : Int) : CallOK Tryz.prog 46 [c.av, .slice 3 (vav used) .no, ii t] [] (.ret (.bool (borrowsB c used t))) [] := borrows_any c used t _ rfl

/- ---------- the closures ---------- -/
def fitW (c : Con) (l : List Rn) (g : Gan) (ids : List Int) : Bool := (fitsL c (withoutL l ids) g).isSome
abbrev chO (c : Con) (l : List Rn) (g : Gan) : List AObj := [.cells 25 c.cs, .cells 27 [.slice 14 (rav l) .no], .cells 34 g.cs]
theorem ch1_any (c : Con) (hc : c.sm) (l : List Rn) (hs : Sm l) (g : Gan) (hg : 0 ≤ g.pods ∧ g.pods ≤ 16) (ids : List Int) (hd : ids.length ≤ 1048576) (r : Bool) (hr : fitW c l g ids = r) :
    CallOK Tryz.prog 43 [.slice 1 (iv ids) .no, .ref 0 0, .ref 1 0, .ref 2 0] (chO c l g) (.ret (.bool r)) (chO c l g) := by
  have hw := without_ok l hs ids hd
  have hf := fits_ok c hc (withoutL l ids) (without_sm hs ids) g hg
  unfold fitW at hr
  generalize withoutL l ids = left at hw hf hr
  generalize fitsL c left g = Q at hf hr
  subst hr
  unfold fdA at hf
  cases Q with
  | none =>
    refine CallOK.to (E := E) (fn := Tryz.f43) (g := .full 3 _ _) (by rfl) (by rfl) (by rfl) (fun _ _ => by rfl) (by decide +kernel) (by rfl) (by rfl) (by rfl) fun _ => ?_
    repeat' first | (refine goN hE 100 rfl ?_; conv => whnf) | refine .pure _ [] hw ?_ | refine .pure _ [] hf ?_ | refine ⟨[], [0, 1, 2], ⟨rfl, rfl⟩, ⟨rfl, rfl⟩⟩ | exact rfl | refine And.intro (fun _ => ?_) (fun h => absurd (show true = false from h) (by decide)) | refine And.intro (fun h => absurd (show false = true from h) (by decide)) (fun _ => ?_) | refine And.intro (fun h => ?_) (fun h => absurd (of_decide_eq_false h) (by omega)) | refine And.intro (fun h => absurd (of_decide_eq_true h) (by omega)) (fun h => ?_) | refine And.intro (fun h => ?_) (fun h => ?_) | refine Or.inl (And.intro (And.intro (by simp only [kmin]; omega) (by simp only [kmax]; omega)) ?_) | refine Exists.intro _ (And.intro rfl ?_) | refine And.intro (by decide) ?_ | refine And.intro (by omega) ?_ | fail
  | some x =>
    refine CallOK.to (E := E) (fn := Tryz.f43) (g := .full 3 _ _) (by rfl) (by rfl) (by rfl) (fun _ _ => by rfl) (by decide +kernel) (by rfl) (by rfl) (by rfl) fun _ => ?_
    repeat' first | (refine goN hE 100 rfl ?_; conv => whnf) | refine .pure _ [] hw ?_ | refine .pure _ [] hf ?_ | refine ⟨[], [0, 1, 2], ⟨rfl, rfl⟩, ⟨rfl, rfl⟩⟩ | exact rfl | refine And.intro (fun _ => ?_) (fun h => absurd (show true = false from h) (by decide)) | refine And.intro (fun h => absurd (show false = true from h) (by decide)) (fun _ => ?_) | refine And.intro (fun h => ?_) (fun h => absurd (of_decide_eq_false h) (by omega)) | refine And.intro (fun h => absurd (of_decide_eq_true h) (by omega)) (fun h => ?_) | refine And.intro (fun h => ?_) (fun h => ?_) | refine Or.inl (And.intro (And.intro (by simp only [kmin]; omega) (by simp only [kmax]; omega)) ?_) | refine Exists.intro _ (And.intro rfl ?_) | refine And.intro (by decide) ?_ | refine And.intro (by omega) ?_ | fail
abbrev ch2O (c : Con) (used : List V3) : List AObj := [.cells 25 c.cs, .cells 51 [.slice 3 (vav used) .no]]
theorem ch2_ok (c : Con) (used : List V3) (x : Rn) : CallOK Tryz.prog 45 [x.av, .ref 0 0, .ref 1 0] (ch2O c used) (.ret (.bool (borrowsB c used x.g.ten))) (ch2O c used) := by
  have hb := borrows_ok c used x.g.ten
  generalize borrowsB c used x.g.ten = r at hb
  refine CallOK.to (E := E) (fn := Tryz.f45) (g := .full 2 _ _) (by rfl) (by rfl) (by rfl) (fun _ _ => by rfl) (by decide +kernel) (by rfl) (by rfl) (by rfl) fun _ => ?_
  repeat' first | (refine goN hE 100 rfl ?_; conv => whnf) | refine .pure _ [] hb ?_ | refine ⟨[], [0, 1], ⟨rfl, rfl⟩, ⟨rfl, rfl⟩⟩ | exact rfl | refine And.intro (fun _ => ?_) (fun h => absurd (show true = false from h) (by decide)) | refine And.intro (fun h => absurd (show false = true from h) (by decide)) (fun _ => ?_) | refine And.intro (fun h => ?_) (fun h => absurd (of_decide_eq_false h) (by omega)) | refine And.intro (fun h => absurd (of_decide_eq_true h) (by omega)) (fun h => ?_) | refine And.intro (fun h => ?_) (fun h => ?_) | refine Or.inl (And.intro (And.intro (by simp only [kmin]; omega) (by simp only [kmax]; omega)) ?_) | refine Exists.intro _ (And.intro rfl ?_) | refine And.intro (by decide) ?_ | refine And.intro (by omega) ?_ | fail
theorem ch3_ok (x a : Int) : CallOK Tryz.prog 49 [ii x, .ref 0 0] [.cells 3 [ii a]] (.ret (.bool (x == a))) [.cells 3 [ii a]] := by
  refine CallOK.to (E := E) (fn := Tryz.f49) (g := .full 1 _ _) (by rfl) (by rfl) (by rfl) (fun _ _ => by rfl) (by decide +kernel) (by rfl) (by rfl) (by rfl) fun _ => ?_
  repeat' first | (refine goN hE 100 rfl ?_; conv => whnf) | refine ⟨[], [0], ⟨rfl, rfl⟩, ⟨rfl, rfl⟩⟩ | exact rfl | refine And.intro (fun _ => ?_) (fun h => absurd (show true = false from h) (by decide)) | refine And.intro (fun h => absurd (show false = true from h) (by decide)) (fun _ => ?_) | refine And.intro (fun h => ?_) (fun h => absurd (of_decide_eq_false h) (by omega)) | refine And.intro (fun h => absurd (of_decide_eq_true h) (by omega)) (fun h => ?_) | refine And.intro (fun h => ?_) (fun h => ?_) | refine Or.inl (And.intro (And.intro (by simp only [kmin]; omega) (by simp only [kmax]; omega)) ?_) | refine Exists.intro _ (And.intro rfl ?_) | refine And.intro (by decide) ?_ | refine And.intro (by omega) ?_ | fail
/-- where the first one stands that borrows -/
def findR (p : Rn → Bool) : List Rn → Nat → Int
  | [], _ => -1
  | x :: r, i => if p x = true then (i : Int) else findR p r (i + 1)
noncomputable abbrev fIdxR : Func := Tryz.f44
abbrev ch2F : AVal := .func (.func 45) [] [.ref 0 0, .ref 1 0]
theorem idxR_loop (c : Con) (used : List V3) (l : List Rn) (hl : l.length ≤ 1048576) (r : Int) : ∀ (m i : Nat), i + m = l.length → findR (fun x => borrowsB c used x.g.ten) (l.drop i) i = r →
    To E fIdxR (.full 2 (.ret (ii r)) (ch2O c used)) (.head (stk fIdxR 0) [(0, .slice 14 (rav l) .no), (1, ch2F), (7, .int .i64 ((rav l).length : Nat)), (8, ii i)] (ch2O c used)) := by
  have hlen : (rav l).length = l.length := by simp
  intro m
  induction m with
  | zero =>
    intro i hi hr
    rw [List.drop_eq_nil_of_le (by omega)] at hr
    have hr : -1 = r := hr
    subst hr
    refine goes hE 100 ?_
    conv => whnf
    refine And.intro (fun h => absurd (of_decide_eq_true h) (by omega)) (fun h => ?_)
    repeat' first | (refine goN hE 100 rfl ?_; conv => whnf) | refine ⟨[], [0, 1], ⟨rfl, rfl⟩, ⟨rfl, rfl⟩⟩ | exact rfl | refine And.intro (fun _ => ?_) (fun h => absurd (show true = false from h) (by decide)) | refine And.intro (fun h => absurd (show false = true from h) (by decide)) (fun _ => ?_) | refine And.intro (fun h => ?_) (fun h => absurd (of_decide_eq_false h) (by omega)) | refine And.intro (fun h => absurd (of_decide_eq_true h) (by omega)) (fun h => ?_) | refine And.intro (fun h => ?_) (fun h => ?_) | refine Or.inl (And.intro (And.intro (by simp only [kmin]; omega) (by simp only [kmax]; omega)) ?_) | refine Exists.intro _ (And.intro rfl ?_) | refine And.intro (by decide) ?_ | refine And.intro (by omega) ?_ | fail
  | succ m ih =>
    intro i hi hr
    have hlt : i < l.length := by omega
    rw [List.drop_eq_getElem_cons hlt] at hr
    have get : (rav l)[i]? = some l[i].av := rav_get hlt
    generalize l[i] = x at hr get
    unfold findR at hr
    have hb := ch2_ok c used x
    have ih := ih (i + 1) (by omega)
    cases hq : borrowsB c used x.g.ten with
    | true =>
      rw [if_pos hq] at hr
      rw [hq] at hb
      subst hr
      refine goes hE 100 ?_
      conv => whnf
      refine And.intro (fun h => ?_) (fun h => absurd (of_decide_eq_false h) (by omega))
      repeat' first | (refine goN hE 100 rfl ?_; conv => whnf) | refine Exists.intro i (And.intro rfl ?_) | refine Exists.intro _ (And.intro get ?_) | refine .eff [] [0, 1] _ _ rfl hb ?_ | refine ⟨[], [0, 1], ⟨rfl, rfl⟩, ⟨rfl, rfl⟩⟩ | exact rfl | refine And.intro (fun _ => ?_) (fun h => absurd (show true = false from h) (by decide)) | refine And.intro (fun h => absurd (show false = true from h) (by decide)) (fun _ => ?_) | refine And.intro (fun h => ?_) (fun h => absurd (of_decide_eq_false h) (by omega)) | refine And.intro (fun h => absurd (of_decide_eq_true h) (by omega)) (fun h => ?_) | refine And.intro (fun h => ?_) (fun h => ?_) | refine Or.inl (And.intro (And.intro (by simp only [kmin]; omega) (by simp only [kmax]; omega)) ?_) | refine Exists.intro _ (And.intro rfl ?_) | refine And.intro (by decide) ?_ | refine And.intro (by omega) ?_ | fail
    | false =>
      rw [if_neg (by rw [hq]; decide)] at hr
      rw [hq] at hb
      have next := ih hr
      refine goes hE 100 ?_
      conv => whnf
      refine And.intro (fun h => ?_) (fun h => absurd (of_decide_eq_false h) (by omega))
      repeat' first | (refine goN hE 100 rfl ?_; conv => whnf) | refine Exists.intro i (And.intro rfl ?_) | refine Exists.intro _ (And.intro get ?_) | refine .eff [] [0, 1] _ _ rfl hb ?_ | exact rfl | refine And.intro (fun _ => ?_) (fun h => absurd (show true = false from h) (by decide)) | refine And.intro (fun h => absurd (show false = true from h) (by decide)) (fun _ => ?_) | refine And.intro (fun h => ?_) (fun h => absurd (of_decide_eq_false h) (by omega)) | refine And.intro (fun h => absurd (of_decide_eq_true h) (by omega)) (fun h => ?_) | refine And.intro (fun h => ?_) (fun h => ?_) | refine Or.inl (And.intro (And.intro (by simp only [kmin]; omega) (by simp only [kmax]; omega)) ?_) | refine Exists.intro _ (And.intro rfl ?_) | refine And.intro (by decide) ?_ | refine And.intro (by omega) ?_ | fail
      exact To.cut [0, 1, 7, 8] 2 rfl rfl rfl rfl next
theorem idxR_ok (c : Con) (used : List V3) (l : List Rn) (hl : l.length ≤ 1048576) : CallOK Tryz.prog 44 [.slice 14 (rav l) .no, ch2F] (ch2O c used) (.ret (ii (findR (fun x => borrowsB c used x.g.ten) l 0))) (ch2O c used) := by
  refine CallOK.to (E := E) (fn := Tryz.f44) (g := .full 2 _ _) (by rfl) (by rfl) (by rfl) (fun _ _ => by rfl) (by decide +kernel) (by rfl) (by rfl) (by rfl) fun _ => ?_
  refine goes hE 100 ?_
  conv => whnf
  exact To.cut [0, 1, 7, 8] 2 rfl rfl rfl rfl (idxR_loop c used l hl _ l.length 0 (by omega) rfl)
end Go.Proofs.YtlalcoklkafnnaaGreat

namespace Go.Proofs.YtlalcoklkafnnaaGreat
open Go Go.AW Go.Proofs
set_option maxRecDepth 10000

theorem cloneR_ok (l : List Int) (h : l.length ≤ 1048576) : CallOK Tryz.prog 47 [.slice 1 (iv l) .no] [] (.ret (.row 0 0)) [.row 0 1 3 (iv l)] := by
  have hlen : (iv l).length = l.length := by simp
  refine CallOK.to (E := (Er [2, 5] [])) (fn := Tryz.f47) (g := .full 0 _ _) (by rfl) (by rfl) (by rfl) (fun _ _ => by rfl) (by decide +kernel) (by rfl) (by rfl) (by rfl) fun _ => ?_
  refine goes (hEr [2, 5] []) 100 ?_
  conv => whnf
  intro b hb
  refine goes (hEr [2, 5] []) 100 ?_
  conv => whnf
  refine ⟨fun h => ?_, fun h => ?_⟩
  · refine goes (hEr [2, 5] []) 100 ?_
    conv => whnf
    refine ⟨[], [1], ⟨rfl, rfl⟩, ?_⟩
    conv => whnf
    rw [hb (by simpa using h)]
    exact ⟨rfl, rfl⟩
  · refine goes (hEr [2, 5] []) 100 ?_
    conv => whnf
    refine ⟨⟨by simp only [maxLen]; simp; omega, by simp; omega⟩, ?_⟩
    refine goes (hEr [2, 5] []) 100 ?_
    conv => whnf
    refine ⟨[], [1], ⟨rfl, rfl⟩, ?_⟩
    exact ⟨rfl, rfl⟩
abbrev ch3F : AVal := .func (.func 49) [] [.ref 1 0]
abbrev dlO (l : List Int) (a : Int) : List AObj := [.row 0 1 3 (iv l), .cells 3 [ii a]]
noncomputable abbrev fIdxF : Func := Tryz.f91
theorem idxF_loop (l : List Int) (hl : l.length ≤ 1048576) (a r : Int) : ∀ (m i : Nat), i + m = l.length → findI (fun x => x == a) (l.drop i) i = r →
    To E fIdxF (.full 2 (.ret (ii r)) (dlO l a)) (.head (stk fIdxF 0) [(0, .row 0 0), (1, ch3F), (7, .int .i64 ((iv l).length : Nat)), (8, ii i)] (dlO l a)) := by
  have hlen : (iv l).length = l.length := by simp
  intro m
  induction m with
  | zero =>
    intro i hi hr
    rw [List.drop_eq_nil_of_le (by omega)] at hr
    have hr : -1 = r := hr
    subst hr
    refine goes hE 100 ?_
    conv => whnf
    refine And.intro (fun h => absurd (of_decide_eq_true h) (by omega)) (fun h => ?_)
    repeat' first | (refine goN hE 100 rfl ?_; conv => whnf) | refine ⟨[], [0, 1], ⟨rfl, rfl⟩, ⟨rfl, rfl⟩⟩ | exact rfl | refine And.intro (fun _ => ?_) (fun h => absurd (show true = false from h) (by decide)) | refine And.intro (fun h => absurd (show false = true from h) (by decide)) (fun _ => ?_) | refine And.intro (fun h => ?_) (fun h => absurd (of_decide_eq_false h) (by omega)) | refine And.intro (fun h => absurd (of_decide_eq_true h) (by omega)) (fun h => ?_) | refine And.intro (fun h => ?_) (fun h => ?_) | refine Or.inl (And.intro (And.intro (by simp only [kmin]; omega) (by simp only [kmax]; omega)) ?_) | refine Exists.intro _ (And.intro rfl ?_) | refine And.intro (by decide) ?_ | refine And.intro (by omega) ?_ | fail
  | succ m ih =>
    intro i hi hr
    have hlt : i < l.length := by omega
    rw [List.drop_eq_getElem_cons hlt] at hr
    have get := iv_get hlt
    generalize l[i] = x at hr get
    unfold findI at hr
    have hb := ch3_ok x a
    have ih := ih (i + 1) (by omega)
    cases hq : (x == a) with
    | true =>
      rw [if_pos hq] at hr
      rw [hq] at hb
      subst hr
      refine goes hE 100 ?_
      conv => whnf
      refine And.intro (fun h => ?_) (fun h => absurd (of_decide_eq_false h) (by omega))
      repeat' first | (refine goN hE 100 rfl ?_; conv => whnf) | refine Exists.intro i (And.intro rfl ?_) | refine Exists.intro _ (And.intro get ?_) | refine .eff [] [1] _ _ rfl hb ?_ | refine ⟨[], [0, 1], ⟨rfl, rfl⟩, ⟨rfl, rfl⟩⟩ | exact rfl | refine And.intro (fun _ => ?_) (fun h => absurd (show true = false from h) (by decide)) | refine And.intro (fun h => absurd (show false = true from h) (by decide)) (fun _ => ?_) | refine And.intro (fun h => ?_) (fun h => absurd (of_decide_eq_false h) (by omega)) | refine And.intro (fun h => absurd (of_decide_eq_true h) (by omega)) (fun h => ?_) | refine And.intro (fun h => ?_) (fun h => ?_) | refine Or.inl (And.intro (And.intro (by simp only [kmin]; omega) (by simp only [kmax]; omega)) ?_) | refine Exists.intro _ (And.intro rfl ?_) | refine And.intro (by decide) ?_ | refine And.intro (by omega) ?_ | fail
    | false =>
      rw [if_neg (by rw [hq]; decide)] at hr
      rw [hq] at hb
      have next := ih hr
      refine goes hE 100 ?_
      conv => whnf
      refine And.intro (fun h => ?_) (fun h => absurd (of_decide_eq_false h) (by omega))
      repeat' first | (refine goN hE 100 rfl ?_; conv => whnf) | refine Exists.intro i (And.intro rfl ?_) | refine Exists.intro _ (And.intro get ?_) | refine .eff [] [1] _ _ rfl hb ?_ | exact rfl | refine And.intro (fun _ => ?_) (fun h => absurd (show true = false from h) (by decide)) | refine And.intro (fun h => absurd (show false = true from h) (by decide)) (fun _ => ?_) | refine And.intro (fun h => ?_) (fun h => absurd (of_decide_eq_false h) (by omega)) | refine And.intro (fun h => absurd (of_decide_eq_true h) (by omega)) (fun h => ?_) | refine And.intro (fun h => ?_) (fun h => ?_) | refine Or.inl (And.intro (And.intro (by simp only [kmin]; omega) (by simp only [kmax]; omega)) ?_) | refine Exists.intro _ (And.intro rfl ?_) | refine And.intro (by decide) ?_ | refine And.intro (by omega) ?_ | fail
      exact To.cut [0, 1, 7, 8] 2 rfl rfl rfl rfl next
theorem idxF_ok (l : List Int) (hl : l.length ≤ 1048576) (a : Int) : CallOK Tryz.prog 91 [.row 0 0, ch3F] (dlO l a) (.ret (ii (findI (fun x => x == a) l 0))) (dlO l a) := by
  refine CallOK.to (E := E) (fn := Tryz.f91) (g := .full 2 _ _) (by rfl) (by rfl) (by rfl) (fun _ _ => by rfl) (by decide +kernel) (by rfl) (by rfl) (by rfl) fun _ => ?_
  refine goes hE 100 ?_
  conv => whnf
  exact To.cut [0, 1, 7, 8] 2 rfl rfl rfl rfl (idxF_loop l hl a _ l.length 0 (by omega) rfl)
/-- all but one number -/
def lessL (l : List Int) (a : Int) : List Int := l.filter fun x => !(x == a)
theorem findI_no (p : Int → Bool) : ∀ (l : List Int) (i : Nat), l.any p = false → findI p l i = -1
  | [], i, _ => rfl
  | x :: r, i, h => by
    rw [List.any_cons, Bool.or_eq_false_iff] at h
    unfold findI
    rw [if_neg (by rw [h.1]; decide)]
    exact findI_no p r (i + 1) h.2
theorem findI_yes (p : Int → Bool) : ∀ (l : List Int) (i : Nat), l.any p = true → ∃ k, k < l.length ∧ findI p l i = ((i + k : Nat) : Int) ∧ (∀ x ∈ l.take k, p x = false) ∧ ∃ x, l[k]? = some x ∧ p x = true
  | [], i, h => by simp at h
  | x :: r, i, h => by
    unfold findI
    cases hq : p x with
    | true => exact ⟨0, by simp, by rw [if_pos rfl]; simp, by simp, x, rfl, hq⟩
    | false =>
      rw [List.any_cons, hq, Bool.false_or] at h
      obtain ⟨k, h1, h2, h3, y, h4, h5⟩ := findI_yes p r (i + 1) h
      refine ⟨k + 1, by simp; omega, ?_, fun z hz => ?_, y, by simpa using h4, h5⟩
      · rw [if_neg (by decide), h2]
        congr 1
        omega
      · simp only [List.take_succ_cons, List.mem_cons] at hz
        rcases hz with rfl | hz
        · exact hq
        · exact h3 z hz
theorem del_no (l : List Int) (hl : l.length ≤ 1048576) (a : Int) (h : (l.any fun x => x == a) = false) : CallOK Tryz.prog 48 [.row 0 0, ch3F] (dlO l a) (.ret (.row 0 0)) (dlO l a) := by
  have hi := idxF_ok l hl a
  rw [findI_no _ l 0 h] at hi
  refine CallOK.to (E := E) (fn := Tryz.f48) (g := .full 2 _ _) (by rfl) (by rfl) (by rfl) (fun _ _ => by rfl) (by decide +kernel) (by rfl) (by rfl) (by rfl) fun _ => ?_
  repeat' first | (refine goN hE 100 rfl ?_; conv => whnf) | refine .eff [] [0, 1] _ _ rfl hi ?_ | refine ⟨[], [0, 1], ⟨rfl, rfl⟩, ⟨rfl, rfl⟩⟩ | exact rfl | refine And.intro (fun _ => ?_) (fun h => absurd (show true = false from h) (by decide)) | refine And.intro (fun h => absurd (show false = true from h) (by decide)) (fun _ => ?_) | refine And.intro (fun h => ?_) (fun h => absurd (of_decide_eq_false h) (by omega)) | refine And.intro (fun h => absurd (of_decide_eq_true h) (by omega)) (fun h => ?_) | refine And.intro (fun h => ?_) (fun h => ?_) | refine Or.inl (And.intro (And.intro (by simp only [kmin]; omega) (by simp only [kmax]; omega)) ?_) | refine Exists.intro _ (And.intro rfl ?_) | refine And.intro (by decide) ?_ | refine And.intro (by omega) ?_ | fail
noncomputable abbrev fDel : Func := Tryz.f48
abbrev dlO' (z : List AVal) (a : Int) : List AObj := [.row 0 1 3 z, .cells 3 [ii a]]
theorem iv_set (l : List Int) (i : Nat) (x : Int) : (iv l).set i (ii x) = iv (l.set i x) := by simp [iv, List.map_set]
theorem del_loop (l : List Int) (hl : l.length ≤ 1048576) (a : Int) (R : List Int) : ∀ (m j i : Nat) (z : List Int), j + m = l.length → i < j → z.length = l.length → z.drop j = l.drop j → z.take i ++ lessL (l.drop j) a = R →
    To E fDel (.full 2 (.ret (.sub 0 0 0 R.length 1)) (dlO' (iv R ++ List.replicate (l.length - R.length) (ii 0)) a)) (.head (stk fDel 0) [(0, .row 0 0), (1, ch3F), (5, ii i), (6, ii j)] (dlO z a)) := by
  intro m
  induction m with
  | zero =>
    intro j i z hj hi hz hd hR
    have hzl : (iv z).length = z.length := by simp
    rw [List.drop_eq_nil_of_le (by omega)] at hR
    have hR : z.take i ++ [] = R := hR
    rw [List.append_nil] at hR
    have hRl : R.length = i := by rw [← hR]; simp; omega
    have e : (iv z).take i = iv R := by rw [← hR]; simp
    rw [hRl]
    refine goes hE 100 ?_
    conv => whnf
    refine And.intro (fun h => absurd (of_decide_eq_true h) (by omega)) (fun h => ?_)
    repeat' first | (refine goN hE 100 rfl ?_; conv => whnf) | refine Exists.intro i (And.intro rfl ?_) | exact rfl | refine And.intro (fun _ => ?_) (fun h => absurd (show true = false from h) (by decide)) | refine And.intro (fun h => absurd (show false = true from h) (by decide)) (fun _ => ?_) | refine And.intro (fun h => ?_) (fun h => absurd (of_decide_eq_false h) (by omega)) | refine And.intro (fun h => absurd (of_decide_eq_true h) (by omega)) (fun h => ?_) | refine And.intro (fun h => ?_) (fun h => ?_) | refine Or.inl (And.intro (And.intro (by simp only [kmin]; omega) (by simp only [kmax]; omega)) ?_) | refine Exists.intro _ (And.intro rfl ?_) | refine And.intro (by decide) ?_ | refine And.intro (by omega) ?_ | fail
    refine And.intro (by simp; omega) ?_
    refine goes hE 100 ?_
    conv => whnf
    refine ⟨[], [0, 1], ⟨rfl, rfl⟩, ?_⟩
    conv => whnf
    refine ⟨rfl, ?_⟩
    have e3 : List.drop (i + ((iv z).length - i)) (iv z) = [] := List.drop_eq_nil_of_le (by omega)
    have e4 : List.take i (iv z) ++ List.replicate ((iv z).length - i) (ii 0) ++ List.drop (i + ((iv z).length - i)) (iv z) = iv R ++ List.replicate (l.length - i) (ii 0) := by rw [e, e3, List.append_nil, hzl, hz]
    exact congrArg (fun l => [AObj.row 0 1 3 l, .cells 3 [ii a]]) e4
  | succ m ih =>
    intro j i z hj hi hz hd hR
    have hzl : (iv z).length = z.length := by simp
    have hlt : j < l.length := by omega
    rw [List.drop_eq_getElem_cons hlt] at hR
    have hzj : z[j]? = some l[j] := by
      have := congrArg (fun q => q[0]?) hd
      simpa [List.getElem?_drop, List.getElem?_eq_getElem hlt] using this
    have get : (iv z)[j]? = some (ii l[j]) := by simp [hzj]
    have hd1 : z.drop (j + 1) = l.drop (j + 1) := by
      have := congrArg (List.drop 1) hd
      rwa [List.drop_drop, List.drop_drop] at this
    generalize l[j] = x at hR get hzj
    have hb := ch3_ok x a
    unfold lessL at hR
    rw [List.filter_cons] at hR
    cases hq : (x == a) with
    | true =>
      rw [hq] at hb hR
      have next := ih (j + 1) i z (by omega) (by omega) hz hd1 hR
      refine goes hE 100 ?_
      conv => whnf
      refine And.intro (fun h => ?_) (fun h => absurd (of_decide_eq_false h) (by omega))
      repeat' first | (refine goN hE 100 rfl ?_; conv => whnf) | refine Exists.intro j (And.intro rfl ?_) | refine Exists.intro _ (And.intro get ?_) | refine .eff [] [1] _ _ rfl hb ?_ | exact rfl | refine And.intro (fun _ => ?_) (fun h => absurd (show true = false from h) (by decide)) | refine And.intro (fun h => absurd (show false = true from h) (by decide)) (fun _ => ?_) | refine And.intro (fun h => ?_) (fun h => absurd (of_decide_eq_false h) (by omega)) | refine And.intro (fun h => absurd (of_decide_eq_true h) (by omega)) (fun h => ?_) | refine And.intro (fun h => ?_) (fun h => ?_) | refine Or.inl (And.intro (And.intro (by simp only [kmin]; omega) (by simp only [kmax]; omega)) ?_) | refine Exists.intro _ (And.intro rfl ?_) | refine And.intro (by decide) ?_ | refine And.intro (by omega) ?_ | fail
      exact To.cut [0, 1, 5, 6] 2 rfl rfl rfl rfl next
    | false =>
      rw [hq] at hb hR
      have next := ih (j + 1) (i + 1) (z.set i x) (by omega) (by omega) (by simp; exact hz) (by rw [List.drop_set_of_lt (by omega)]; exact hd1) (by
        have e1 : (z.set i x).take (i + 1) = z.take i ++ [x] := by
          rw [List.take_add_one, List.getElem?_set_self (by omega), List.take_set_of_le (Nat.le_refl _)]
          rfl
        rw [e1, List.append_assoc]
        exact hR)
      unfold dlO at next
      rw [← iv_set] at next
      refine goes hE 100 ?_
      conv => whnf
      refine And.intro (fun h => ?_) (fun h => absurd (of_decide_eq_false h) (by omega))
      repeat' first | (refine goN hE 100 rfl ?_; conv => whnf) | refine Exists.intro j (And.intro rfl ?_) | refine Exists.intro i (And.intro rfl ?_) | refine Exists.intro _ (And.intro get ?_) | refine .eff [] [1] _ _ rfl hb ?_ | exact rfl | refine And.intro (fun _ => ?_) (fun h => absurd (show true = false from h) (by decide)) | refine And.intro (fun h => absurd (show false = true from h) (by decide)) (fun _ => ?_) | refine And.intro (fun h => ?_) (fun h => absurd (of_decide_eq_false h) (by omega)) | refine And.intro (fun h => absurd (of_decide_eq_true h) (by omega)) (fun h => ?_) | refine And.intro (fun h => ?_) (fun h => ?_) | refine Or.inl (And.intro (And.intro (by simp only [kmin]; omega) (by simp only [kmax]; omega)) ?_) | refine Exists.intro _ (And.intro rfl ?_) | refine And.intro (by decide) ?_ | refine And.intro (by omega) ?_ | fail
      exact To.cut [0, 1, 5, 6] 2 rfl rfl rfl rfl next
theorem del_yes (l : List Int) (hl : l.length ≤ 1048576) (a : Int) (h : (l.any fun x => x == a) = true) : CallOK Tryz.prog 48 [.row 0 0, ch3F] (dlO l a) (.ret (.sub 0 0 0 (lessL l a).length 1)) (dlO' (iv (lessL l a) ++ List.replicate (l.length - (lessL l a).length) (ii 0)) a) := by
  have hi := idxF_ok l hl a
  obtain ⟨k, h1, h2, h3, x, h4, h5⟩ := findI_yes (fun x => x == a) l 0 h
  rw [h2] at hi
  rw [Nat.zero_add] at hi
  have hne : ((k : Int) == -1) = false := by simp
  have next := del_loop l hl a (lessL l a) (l.length - (k + 1)) (k + 1) k l (by omega) (by omega) rfl rfl (by
    conv => rhs; rw [← List.take_append_drop k l]
    have hx : x = a := by simpa using h5
    have e : l.drop k = x :: l.drop (k + 1) := by
      rw [List.drop_eq_getElem_cons h1]
      rw [List.getElem?_eq_getElem h1] at h4
      cases h4
      rfl
    unfold lessL
    rw [List.filter_append, e, List.filter_cons, h5]
    have e2 : (l.take k).filter (fun x => !(x == a)) = l.take k := List.filter_eq_self.2 fun y hy => by rw [h3 y hy]; rfl
    rw [e2]
    rfl)
  refine CallOK.to (E := E) (fn := Tryz.f48) (g := .full 2 _ _) (by rfl) (by rfl) (by rfl) (fun _ _ => by rfl) (by decide +kernel) (by rfl) (by rfl) (by rfl) fun _ => ?_
  repeat' first | (refine goN hE 100 rfl ?_; conv => whnf) | refine .eff [] [0, 1] _ _ rfl hi ?_ | refine And.intro (fun h => absurd h (by rw [hne]; decide)) (fun h => ?_) | exact rfl | refine And.intro (fun _ => ?_) (fun h => absurd (show true = false from h) (by decide)) | refine And.intro (fun h => absurd (show false = true from h) (by decide)) (fun _ => ?_) | refine And.intro (fun h => ?_) (fun h => absurd (of_decide_eq_false h) (by omega)) | refine And.intro (fun h => absurd (of_decide_eq_true h) (by omega)) (fun h => ?_) | refine And.intro (fun h => ?_) (fun h => ?_) | refine Or.inl (And.intro (And.intro (by simp only [kmin]; omega) (by simp only [kmax]; omega)) ?_) | refine Exists.intro _ (And.intro rfl ?_) | refine And.intro (by decide) ?_ | refine And.intro (by omega) ?_ | fail
  exact To.cut [0, 1, 5, 6] 2 rfl rfl rfl rfl next
end Go.Proofs.YtlalcoklkafnnaaGreat

namespace Go.Proofs.YtlalcoklkafnnaaGreat
open Go Go.AW Go.Proofs
set_option maxRecDepth 10000

/- ---------- whom Order gives ---------- -/
theorem getR_mem {xs : List Rn} {i : Nat} (h : i < xs.length) : getR xs i ∈ xs := by
  unfold getR
  rw [List.getElem?_eq_getElem h]
  exact List.getElem_mem h
theorem swapR_mem {xs : List Rn} {i k : Nat} (hi : i < xs.length) (hk : k < xs.length) {y : Rn} (h : y ∈ swapR xs i k) : y ∈ xs := by
  unfold swapR at h
  rcases List.mem_or_eq_of_mem_set h with h | rfl
  · rcases List.mem_or_eq_of_mem_set h with h | rfl
    · exact h
    · exact getR_mem hk
  · exact getR_mem hi
theorem upH_mem {y : Rn} : ∀ (f : Nat) (xs : List Rn) (i : Nat), i < xs.length → y ∈ upH f xs i → y ∈ xs
  | 0, xs, i, _, h => h
  | f + 1, xs, i, hi, h => by
    unfold upH at h
    split at h
    · exact h
    · split at h
      · exact swapR_mem hi (by omega) (upH_mem f _ _ (by rw [swapR_len]; omega) h)
      · exact h
theorem pushH_mem {xs : List Rn} {x y : Rn} (h : y ∈ pushH xs x) : y ∈ xs ∨ y = x := by
  have := upH_mem _ _ _ (by simp) h
  simpa using this
theorem pushes_mem {y : Rn} : ∀ (l xs : List Rn), y ∈ l.foldl pushH xs → y ∈ xs ∨ y ∈ l
  | [], xs, h => .inl h
  | x :: r, xs, h => by
    rcases pushes_mem r _ h with h | h
    · rcases pushH_mem h with h | rfl
      · exact .inl h
      · exact .inr (by simp)
    · exact .inr (by simp [h])
theorem downH_mem {y : Rn} : ∀ (f : Nat) (xs : List Rn) (n i : Nat), n ≤ xs.length → i < xs.length → y ∈ downH f xs n i → y ∈ xs
  | 0, xs, n, i, _, _, h => h
  | f + 1, xs, n, i, hn, hi, h => by
    unfold downH at h
    split at h
    · rename_i h0
      have hk := downK_r xs n i h0
      split at h
      · exact swapR_mem hi (by omega) (downH_mem f _ n _ (by rw [swapR_len]; exact hn) (by rw [swapR_len]; omega) h)
      · exact h
    · exact h
theorem popH_mem {xs : List Rn} {n : Nat} (h0 : 0 < n) (hn : n ≤ xs.length) {y : Rn} (h : y ∈ popH xs n) : y ∈ xs := by
  unfold popH at h
  have := downH_mem n (xs.set 0 (getR xs (n - 1))) (n - 1) 0 (by simp; omega) (by simp; omega) h
  rcases List.mem_or_eq_of_mem_set this with h | rfl
  · exact h
  · exact getR_mem (by omega)
theorem popAll_mem {y : Rn} : ∀ (n : Nat) (xs : List Rn), n ≤ xs.length → y ∈ popAll n xs → y ∈ xs
  | 0, xs, _, h => by cases h
  | n + 1, xs, hn, h => by
    unfold popAll at h
    rcases List.mem_cons.1 h with rfl | h
    · exact getR_mem (by omega)
    · exact popH_mem (by omega) hn (popAll_mem n _ (by rw [popH_len]; omega) h)
theorem order_mem {l : List Rn} {y : Rn} (h : y ∈ orderL l) : y ∈ l := by
  unfold orderL at h
  have := popAll_mem _ _ (by rw [pushes_len]; simp) h
  rcases pushes_mem l [] this with h | h
  · cases h
  · exact h
theorem popAll_len : ∀ (n : Nat) (xs : List Rn), (popAll n xs).length = n
  | 0, xs => rfl
  | n + 1, xs => by unfold popAll; rw [List.length_cons, popAll_len n]
theorem orderL_len (l : List Rn) : (orderL l).length = l.length := popAll_len _ _
theorem order_sm {l : List Rn} (h : Sm l) : Sm (orderL l) := ⟨by rw [orderL_len]; exact h.1, fun x hx => h.2 x (order_mem hx)⟩
theorem findR_lt (p : Rn → Bool) : ∀ (l : List Rn) (i : Nat), findR p l i = -1 ∨ ∃ k, k < l.length ∧ findR p l i = ((i + k : Nat) : Int) ∧ p (getR l k) = true
  | [], i => .inl rfl
  | x :: r, i => by
    unfold findR
    cases hq : p x with
    | true => exact .inr ⟨0, by simp, by rw [if_pos rfl]; simp, hq⟩
    | false =>
      rw [if_neg (by decide)]
      rcases findR_lt p r (i + 1) with h | ⟨k, h1, h2, h3⟩
      · exact .inl h
      · refine .inr ⟨k + 1, by simp; omega, by rw [h2]; congr 1; omega, ?_⟩
        unfold getR at h3 ⊢
        simpa using h3

/- ---------- Choose ---------- -/
def atI (c : Con) (l : List Rn) (ids : List Int) : Int := findR (fun x => borrowsB c (ofL c (withoutL l ids)) x.g.ten) (orderL (withoutL l ids)) 0
def nextI (c : Con) (l : List Rn) (ids : List Int) : Option Int := if atI c l ids < 0 then none else some (getR (orderL (withoutL l ids)) (atI c l ids).toNat).g.id
def chA (c : Con) (l : List Rn) (g : Gan) : Nat → List Int → Option (List Int)
  | 0, _ => none
  | f + 1, ids => if fitW c l g ids = true then some ids else match nextI c l ids with
    | none => none
    | some n => chA c l g f (ids ++ [n])
def chS (c : Con) (l : List Rn) (g : Gan) (ids : List Int) (a : Int) : List Int := if fitW c l g (lessL ids a) = true then lessL ids a else ids
def chooseL (c : Con) (l : List Rn) (g : Gan) : Option (List Int) := if withinB c (ofL c l) g.ten (dem g) = true then (match chA c l g (l.length + 1) [] with
  | none => none
  | some ids => some (ids.foldl (chS c l g) ids)) else none
def chR : Option (List Int) → AVal
  | some ids => .tup [.slice 1 (iv ids) .no, .bool true]
  | none => .tup [.slice 1 [] .no, .bool false]
theorem nextI_mem {c : Con} {l : List Rn} {ids : List Int} {n : Int} (h : nextI c l ids = some n) : ∃ x ∈ withoutL l ids, x.g.id = n ∧ borrowsB c (ofL c (withoutL l ids)) x.g.ten = true := by
  unfold nextI at h
  split at h
  · cases h
  · rename_i h0
    cases h
    rcases findR_lt (fun x => borrowsB c (ofL c (withoutL l ids)) x.g.ten) (orderL (withoutL l ids)) 0 with h1 | ⟨k, h1, h2, h3⟩
    · exact absurd (show atI c l ids < 0 from by unfold atI; rw [h1]; decide) h0
    · refine ⟨_, order_mem (getR_mem ?_), rfl, ?_⟩
      · unfold atI; rw [h2]; simpa using h1
      · unfold atI; rw [h2]; simpa using h3
theorem without_snoc (l : List Rn) (ids : List Int) (n : Int) : withoutL l (ids ++ [n]) = (withoutL l ids).filter fun x => !(x.g.id == n) := by
  unfold withoutL
  rw [List.filter_filter]
  refine List.filter_congr fun x _ => ?_
  unfold inB
  rw [List.any_append]
  simp only [List.any_cons, List.any_nil, Bool.or_false]
  cases (ids.any fun y => x.g.id == y) <;> cases (x.g.id == n) <;> rfl
theorem without_less {l : List Rn} {ids : List Int} {n : Int} (h : ∃ x ∈ withoutL l ids, x.g.id = n) : (withoutL l (ids ++ [n])).length < (withoutL l ids).length := by
  obtain ⟨x, hx, hn⟩ := h
  rw [without_snoc]
  generalize withoutL l ids = q at hx
  refine Nat.lt_of_le_of_ne (List.length_filter_le _ _) fun e => ?_
  have := List.length_filter_eq_length_iff.1 e x hx
  simp [hn] at this
theorem lessL_len (l : List Int) (a : Int) : (lessL l a).length ≤ l.length := List.length_filter_le _ _
abbrev ch1F : AVal := .func (.func 43) [] [.ref 0 0, .ref 1 0, .ref 2 0]
noncomputable abbrev fCh : Func := Tryz.f13
abbrev cbF (ids all : List Int) (i : Int) : List (Nat × AVal) := [(8, ch1F), (9, .slice 1 (iv ids) .no), (54, .slice 1 (iv all) .no), (55, .int .i64 ((iv all).length : Nat)), (56, ii i)]
theorem cb_frz (c : Con) (l : List Rn) (g : Gan) (a : Int) (z : List AVal) : frzs [4] (chO c l g ++ [.cells 3 [ii a], .row 0 1 3 z]) = chO c l g ++ [.cells 3 [ii a], .frow 0 1 z] := by kernel_rfl
theorem cb_frzS (c : Con) (l : List Rn) (g : Gan) (a : Int) (z : List AVal) (n : Nat) (ids all : List Int) (i : Int) : frzF [15] (oget (chO c l g ++ [.cells 3 [ii a], .frow 0 1 z])) ((15, .sub 4 0 0 n 1) :: cbF ids all i) = (15, .slice 1 ((z.drop 0).take n) .no) :: cbF ids all i := by kernel_rfl
theorem cb_frzR (c : Con) (l : List Rn) (g : Gan) (a : Int) (z : List AVal) (ids all : List Int) (i : Int) : frzF [15] (oget (chO c l g ++ [.cells 3 [ii a], .frow 0 1 z])) ((15, .row 4 0) :: cbF ids all i) = (15, .slice 1 z .no) :: cbF ids all i := by kernel_rfl
theorem cb_step {G : Goal} {ks : List KI} (c : Con) (l : List Rn) (g : Gan) (a : Int) (z : List AVal) (fr : List (Nat × AVal)) {fr' : List (Nat × AVal)} (hf : frzF [15] (oget (chO c l g ++ [.cells 3 [ii a], .frow 0 1 z])) fr = fr')
    (h : To (Eo [9] []) fCh G (.code ks fr' (chO c l g ++ [.cells 3 [ii a], .frow 0 1 z]))) : To (Eo [9] []) fCh G (.code ks fr (chO c l g ++ [.cells 3 [ii a], .row 0 1 3 z])) := by
  refine To.frz [15] [4] ?_
  rw [cb_frz, hf]
  exact h
theorem choose_b (c : Con) (hc : c.sm) (l : List Rn) (hs : Sm l) (g : Gan) (hg : 0 ≤ g.pods ∧ g.pods ≤ 16) (all : List Int) (ha : all.length ≤ 1048576) (R : List Int) : ∀ (m i : Nat) (ids : List Int), i + m = all.length → ids.length ≤ 1048576 → (all.drop i).foldl (chS c l g) ids = R →
    To (Eo [9] []) fCh (.pure (.ret (.tup [.slice 1 (iv R) .no, .bool true]))) (.head (stk fCh 1) (cbF ids all i) (chO c l g)) := by
  have hlen : (iv all).length = all.length := by simp
  intro m
  induction m with
  | zero =>
    intro i ids hi hd hR
    rw [List.drop_eq_nil_of_le (by omega)] at hR
    have hR : ids = R := hR
    subst hR
    refine goes (hEo [9] []) 100 ?_
    conv => whnf
    refine And.intro (fun h => absurd (of_decide_eq_true h) (by omega)) (fun h => ?_)
    repeat' first | (refine goN (hEo [9] []) 100 rfl ?_; conv => whnf) | exact rfl | refine And.intro (fun _ => ?_) (fun h => absurd (show true = false from h) (by decide)) | refine And.intro (fun h => absurd (show false = true from h) (by decide)) (fun _ => ?_) | refine And.intro (fun h => ?_) (fun h => absurd (of_decide_eq_false h) (by omega)) | refine And.intro (fun h => absurd (of_decide_eq_true h) (by omega)) (fun h => ?_) | refine And.intro (fun h => ?_) (fun h => ?_) | refine Or.inl (And.intro (And.intro (by simp only [kmin]; omega) (by simp only [kmax]; omega)) ?_) | refine Exists.intro _ (And.intro rfl ?_) | refine And.intro (by decide) ?_ | refine And.intro (by omega) ?_ | fail
  | succ m ih =>
    intro i ids hi hd hR
    have hlt : i < all.length := by omega
    rw [List.drop_eq_getElem_cons hlt, List.foldl_cons] at hR
    have get := iv_get hlt
    generalize all[i] = a at hR get
    have ih := ih (i + 1)
    have hll := lessL_len ids a
    have h1 := ch1_any c hc l hs g hg (lessL ids a) (by omega) _ rfl
    have ech : chS c l g ids a = if fitW c l g (lessL ids a) = true then lessL ids a else ids := rfl
    rw [ech] at hR
    cases hp : (ids.any fun x => x == a) with
    | true =>
      have hd' := del_yes ids hd a hp
      generalize hz : iv (lessL ids a) ++ List.replicate (ids.length - (lessL ids a).length) (ii 0) = z at hd'
      have hzt : (z.drop 0).take (lessL ids a).length = iv (lessL ids a) := by
        rw [← hz, List.drop_zero, List.take_append_of_le_length (by simp), List.take_of_length_le (by simp)]
      refine goes (hEo [9] []) 100 ?_
      conv => whnf
      refine And.intro (fun h => ?_) (fun h => absurd (of_decide_eq_false h) (by omega))
      repeat' first | (refine goN (hEo [9] []) 100 rfl ?_; conv => whnf) | refine Exists.intro i (And.intro rfl ?_) | refine Exists.intro _ (And.intro get ?_) | refine .pure _ [_] (cloneR_ok ids hd) ?_ | exact rfl | refine And.intro (fun _ => ?_) (fun h => absurd (show true = false from h) (by decide)) | refine And.intro (fun h => absurd (show false = true from h) (by decide)) (fun _ => ?_) | refine And.intro (fun h => ?_) (fun h => absurd (of_decide_eq_false h) (by omega)) | refine And.intro (fun h => absurd (of_decide_eq_true h) (by omega)) (fun h => ?_) | refine And.intro (fun h => ?_) (fun h => ?_) | refine Or.inl (And.intro (And.intro (by simp only [kmin]; omega) (by simp only [kmax]; omega)) ?_) | refine Exists.intro _ (And.intro rfl ?_) | refine And.intro (by decide) ?_ | refine And.intro (by omega) ?_ | fail
      refine .eff [] [4, 3] _ _ rfl hd' ?_
      refine goes (hEo [9] []) 5 ?_
      conv => whnf
      refine To.cutC [15, 8, 9, 54, 55, 56] 5 rfl rfl rfl rfl ?_
      refine cb_step c l g a _ _ (cb_frzS c l g a z _ ids all i) ?_
      rw [hzt]
      cases hf : fitW c l g (lessL ids a) with
      | true =>
        rw [if_pos hf] at hR
        rw [hf] at h1
        have next := ih (lessL ids a) (by omega) (by omega) hR
        repeat' first | (refine goN (hEo [9] []) 100 rfl ?_; conv => whnf) | refine .eff [] [0, 1, 2] _ _ rfl h1 ?_ | exact rfl | refine And.intro (fun _ => ?_) (fun h => absurd (show true = false from h) (by decide)) | refine And.intro (fun h => absurd (show false = true from h) (by decide)) (fun _ => ?_) | refine And.intro (fun h => ?_) (fun h => absurd (of_decide_eq_false h) (by omega)) | refine And.intro (fun h => absurd (of_decide_eq_true h) (by omega)) (fun h => ?_) | refine And.intro (fun h => ?_) (fun h => ?_) | refine Or.inl (And.intro (And.intro (by simp only [kmin]; omega) (by simp only [kmax]; omega)) ?_) | refine Exists.intro _ (And.intro rfl ?_) | refine And.intro (by decide) ?_ | refine And.intro (by omega) ?_ | fail
        refine To.part [8, 9, 54, 55, 56] [0, 1, 2] rfl rfl rfl ?_
        exact next
      | false =>
        rw [if_neg (by rw [hf]; decide)] at hR
        rw [hf] at h1
        have next := ih ids (by omega) hd hR
        repeat' first | (refine goN (hEo [9] []) 100 rfl ?_; conv => whnf) | refine .eff [] [0, 1, 2] _ _ rfl h1 ?_ | exact rfl | refine And.intro (fun _ => ?_) (fun h => absurd (show true = false from h) (by decide)) | refine And.intro (fun h => absurd (show false = true from h) (by decide)) (fun _ => ?_) | refine And.intro (fun h => ?_) (fun h => absurd (of_decide_eq_false h) (by omega)) | refine And.intro (fun h => absurd (of_decide_eq_true h) (by omega)) (fun h => ?_) | refine And.intro (fun h => ?_) (fun h => ?_) | refine Or.inl (And.intro (And.intro (by simp only [kmin]; omega) (by simp only [kmax]; omega)) ?_) | refine Exists.intro _ (And.intro rfl ?_) | refine And.intro (by decide) ?_ | refine And.intro (by omega) ?_ | fail
        refine To.part [8, 9, 54, 55, 56] [0, 1, 2] rfl rfl rfl ?_
        exact next
    | false =>
      have hd' := del_no ids hd a hp
      have hzt : iv ids = iv (lessL ids a) := by
        have : lessL ids a = ids := List.filter_eq_self.2 fun y hy => by
          have := (List.any_eq_false.1 hp) y hy
          simpa using this
        rw [this]
      refine goes (hEo [9] []) 100 ?_
      conv => whnf
      refine And.intro (fun h => ?_) (fun h => absurd (of_decide_eq_false h) (by omega))
      repeat' first | (refine goN (hEo [9] []) 100 rfl ?_; conv => whnf) | refine Exists.intro i (And.intro rfl ?_) | refine Exists.intro _ (And.intro get ?_) | refine .pure _ [_] (cloneR_ok ids hd) ?_ | exact rfl | refine And.intro (fun _ => ?_) (fun h => absurd (show true = false from h) (by decide)) | refine And.intro (fun h => absurd (show false = true from h) (by decide)) (fun _ => ?_) | refine And.intro (fun h => ?_) (fun h => absurd (of_decide_eq_false h) (by omega)) | refine And.intro (fun h => absurd (of_decide_eq_true h) (by omega)) (fun h => ?_) | refine And.intro (fun h => ?_) (fun h => ?_) | refine Or.inl (And.intro (And.intro (by simp only [kmin]; omega) (by simp only [kmax]; omega)) ?_) | refine Exists.intro _ (And.intro rfl ?_) | refine And.intro (by decide) ?_ | refine And.intro (by omega) ?_ | fail
      refine .eff [] [4, 3] _ _ rfl hd' ?_
      refine goes (hEo [9] []) 5 ?_
      conv => whnf
      refine To.cutC [15, 8, 9, 54, 55, 56] 5 rfl rfl rfl rfl ?_
      refine cb_step c l g a _ _ (cb_frzR c l g a (iv ids) ids all i) ?_
      rw [hzt]
      cases hf : fitW c l g (lessL ids a) with
      | true =>
        rw [if_pos hf] at hR
        rw [hf] at h1
        have next := ih (lessL ids a) (by omega) (by omega) hR
        repeat' first | (refine goN (hEo [9] []) 100 rfl ?_; conv => whnf) | refine .eff [] [0, 1, 2] _ _ rfl h1 ?_ | exact rfl | refine And.intro (fun _ => ?_) (fun h => absurd (show true = false from h) (by decide)) | refine And.intro (fun h => absurd (show false = true from h) (by decide)) (fun _ => ?_) | refine And.intro (fun h => ?_) (fun h => absurd (of_decide_eq_false h) (by omega)) | refine And.intro (fun h => absurd (of_decide_eq_true h) (by omega)) (fun h => ?_) | refine And.intro (fun h => ?_) (fun h => ?_) | refine Or.inl (And.intro (And.intro (by simp only [kmin]; omega) (by simp only [kmax]; omega)) ?_) | refine Exists.intro _ (And.intro rfl ?_) | refine And.intro (by decide) ?_ | refine And.intro (by omega) ?_ | fail
        refine To.part [8, 9, 54, 55, 56] [0, 1, 2] rfl rfl rfl ?_
        exact next
      | false =>
        rw [if_neg (by rw [hf]; decide)] at hR
        rw [hf] at h1
        have next := ih ids (by omega) hd hR
        repeat' first | (refine goN (hEo [9] []) 100 rfl ?_; conv => whnf) | refine .eff [] [0, 1, 2] _ _ rfl h1 ?_ | exact rfl | refine And.intro (fun _ => ?_) (fun h => absurd (show true = false from h) (by decide)) | refine And.intro (fun h => absurd (show false = true from h) (by decide)) (fun _ => ?_) | refine And.intro (fun h => ?_) (fun h => absurd (of_decide_eq_false h) (by omega)) | refine And.intro (fun h => absurd (of_decide_eq_true h) (by omega)) (fun h => ?_) | refine And.intro (fun h => ?_) (fun h => ?_) | refine Or.inl (And.intro (And.intro (by simp only [kmin]; omega) (by simp only [kmax]; omega)) ?_) | refine Exists.intro _ (And.intro rfl ?_) | refine And.intro (by decide) ?_ | refine And.intro (by omega) ?_ | fail
        refine To.part [8, 9, 54, 55, 56] [0, 1, 2] rfl rfl rfl ?_
        exact next
def chB (c : Con) (l : List Rn) (g : Gan) : Option (List Int) → Option (List Int)
  | none => none
  | some ids => some (ids.foldl (chS c l g) ids)
abbrev caF (ids : List Int) : List (Nat × AVal) := [(3, .ref 0 0), (4, .ref 1 0), (5, .ref 2 0), (8, ch1F), (9, .slice 1 (iv ids) (.own 3 0))]
theorem choose_a (c : Con) (hc : c.sm) (l : List Rn) (hs : Sm l) (g : Gan) (hg : 0 ≤ g.pods ∧ g.pods ≤ 16) (R : Option (List Int)) : ∀ (f : Nat) (ids : List Int), (withoutL l ids).length < f → ids.length + (withoutL l ids).length ≤ l.length → chB c l g (chA c l g f ids) = R →
    To (Eo [9] []) fCh (.pure (.ret (chR R))) (.head (stk fCh 0) (caF ids) (chO c l g ++ [.tail 0 1 3])) := by
  have hl := hs.1
  intro f
  induction f with
  | zero => intro ids h; omega
  | succ f ih =>
    intro ids hf hn hR
    have hil : (iv ids).length = ids.length := by simp
    have h1 := ch1_any c hc l hs g hg ids (by omega) _ rfl
    have hw := without_ok l hs ids (by omega)
    have hsl := without_sm hs ids
    have hof := of_ok c hc (withoutL l ids) hsl.1
    have hor := order_ok (withoutL l ids) hsl
    have hix := idxR_ok c (ofL c (withoutL l ids)) (orderL (withoutL l ids)) (order_sm hsl).1
    have hat : findR (fun x => borrowsB c (ofL c (withoutL l ids)) x.g.ten) (orderL (withoutL l ids)) 0 = atI c l ids := rfl
    rw [hat] at hix
    unfold chA at hR
    cases hq : fitW c l g ids with
    | true =>
      rw [if_pos hq] at hR
      rw [hq] at h1
      have hR : some (ids.foldl (chS c l g) ids) = R := hR
      subst hR
      have hcl := cloneI_ok ids (by omega)
      have next := choose_b c hc l hs g hg ids (by omega) _ ids.length 0 ids (by omega) (by omega) rfl
      refine goes (hEo [9] []) 100 ?_
      conv => whnf
      repeat' first | (refine goN (hEo [9] []) 100 rfl ?_; conv => whnf) | refine .eff [] [0, 1, 2] _ _ rfl h1 ?_ | refine .pure _ [] (CallOK.strip hcl) ?_ | exact rfl | refine And.intro (fun _ => ?_) (fun h => absurd (show true = false from h) (by decide)) | refine And.intro (fun h => absurd (show false = true from h) (by decide)) (fun _ => ?_) | refine And.intro (fun h => ?_) (fun h => absurd (of_decide_eq_false h) (by omega)) | refine And.intro (fun h => absurd (of_decide_eq_true h) (by omega)) (fun h => ?_) | refine And.intro (fun h => ?_) (fun h => ?_) | refine Or.inl (And.intro (And.intro (by simp only [kmin]; omega) (by simp only [kmax]; omega)) ?_) | refine Exists.intro _ (And.intro rfl ?_) | refine And.intro (by decide) ?_ | refine And.intro (by omega) ?_ | fail
      refine To.part [8, 9, 54, 55, 56] [0, 1, 2] rfl rfl rfl ?_
      exact next
    | false =>
      rw [if_neg (by rw [hq]; decide)] at hR
      rw [hq] at h1
      have hnx : nextI c l ids = if atI c l ids < 0 then none else some (getR (orderL (withoutL l ids)) (atI c l ids).toNat).g.id := rfl
      have hmem := fun n => nextI_mem (c := c) (l := l) (ids := ids) (n := n)
      by_cases hneg : atI c l ids < 0
      · rw [if_pos hneg] at hnx
        rw [hnx] at hR
        have hR : none = R := hR
        subst hR
        generalize atI c l ids = q at hix hneg
        generalize ofL c (withoutL l ids) = us at hof hix
        generalize orderL (withoutL l ids) = o at hor hix
        generalize withoutL l ids = left at hw hof hor
        refine goes (hEo [9] []) 100 ?_
        conv => whnf
        repeat' first | (refine goN (hEo [9] []) 100 rfl ?_; conv => whnf) | refine .eff [] [0, 1, 2] _ _ rfl h1 ?_ | refine .pure _ [] hw ?_ | refine .pure _ [] hof ?_ | refine .pure _ [] hor ?_ | refine .eff [] [0, 4] _ _ rfl hix ?_ | exact rfl | refine And.intro (fun _ => ?_) (fun h => absurd (show true = false from h) (by decide)) | refine And.intro (fun h => absurd (show false = true from h) (by decide)) (fun _ => ?_) | refine And.intro (fun h => ?_) (fun h => absurd (of_decide_eq_false h) (by omega)) | refine And.intro (fun h => absurd (of_decide_eq_true h) (by omega)) (fun h => ?_) | refine And.intro (fun h => ?_) (fun h => ?_) | refine Or.inl (And.intro (And.intro (by simp only [kmin]; omega) (by simp only [kmax]; omega)) ?_) | refine Exists.intro _ (And.intro rfl ?_) | refine And.intro (by decide) ?_ | refine And.intro (by omega) ?_ | fail
      · rw [if_neg hneg] at hnx
        obtain ⟨k, hk1, hk2⟩ : ∃ k : Nat, k < (orderL (withoutL l ids)).length ∧ atI c l ids = (k : Int) := by
          rcases findR_lt (fun x => borrowsB c (ofL c (withoutL l ids)) x.g.ten) (orderL (withoutL l ids)) 0 with h | ⟨k, h1, h2, _⟩
          · exact absurd (show atI c l ids < 0 from by unfold atI; rw [h]; decide) hneg
          · exact ⟨k, h1, by unfold atI; rw [h2]; simp⟩
        rw [hk2] at hnx hix
        rw [Int.toNat_natCast] at hnx
        have get := getR_lt hk1
        have hml := hmem _ hnx
        obtain ⟨y, hy1, hy2, _⟩ := hml
        have hlt := without_less ⟨y, hy1, hy2⟩
        rw [hnx] at hR
        generalize getR (orderL (withoutL l ids)) k = x at get hR hlt
        have next := ih (ids ++ [x.g.id]) (by omega) (by simp; omega) hR
        have e : iv (ids ++ [x.g.id]) = iv ids ++ [ii x.g.id] := by simp
        unfold caF at next
        rw [e] at next
        have hol := orderL_len (withoutL l ids)
        generalize ofL c (withoutL l ids) = us at hof hix
        generalize orderL (withoutL l ids) = o at hor hix get hk1 hol
        generalize withoutL l ids = left at hw hof hor hn hol
        refine goes (hEo [9] []) 100 ?_
        conv => whnf
        repeat' first | (refine goN (hEo [9] []) 100 rfl ?_; conv => whnf) | refine .eff [] [0, 1, 2] _ _ rfl h1 ?_ | refine .pure _ [] hw ?_ | refine .pure _ [] hof ?_ | refine .pure _ [] hor ?_ | refine .eff [] [0, 4] _ _ rfl hix ?_ | refine Exists.intro k (And.intro rfl ?_) | refine Exists.intro _ (And.intro get ?_) | refine And.intro (And.intro (by simp only [maxLen]; simp; omega) (by simp; omega)) ?_ | exact rfl | refine And.intro (fun _ => ?_) (fun h => absurd (show true = false from h) (by decide)) | refine And.intro (fun h => absurd (show false = true from h) (by decide)) (fun _ => ?_) | refine And.intro (fun h => ?_) (fun h => absurd (of_decide_eq_false h) (by omega)) | refine And.intro (fun h => absurd (of_decide_eq_true h) (by omega)) (fun h => ?_) | refine And.intro (fun h => ?_) (fun h => ?_) | refine Or.inl (And.intro (And.intro (by simp only [kmin]; omega) (by simp only [kmax]; omega)) ?_) | refine Exists.intro _ (And.intro rfl ?_) | refine And.intro (by decide) ?_ | refine And.intro (by omega) ?_ | fail
        refine To.part [3, 4, 5, 8, 9] [0, 1, 2, 3] rfl rfl rfl ?_
        exact next
theorem without_nil (l : List Rn) : withoutL l [] = l := List.filter_eq_self.2 fun x _ => rfl
theorem choose_any (c : Con) (hc : c.sm) (l : List Rn) (hs : Sm l) (g : Gan) (hg : 0 ≤ g.pods ∧ g.pods ≤ 16) (R : Option (List Int)) (hR : chooseL c l g = R) : CallOK Tryz.prog 13 [c.av, .slice 14 (rav l) .no, g.av] [] (.ret (chR R)) [] := by
  have hof := of_ok c hc l hs.1
  have hd := dem_ok g
  have hw := within_ok c (ofL c l) g.ten (dem g)
  unfold chooseL at hR
  cases hq : withinB c (ofL c l) g.ten (dem g) with
  | false =>
    rw [if_neg (by rw [hq]; decide)] at hR
    rw [hq] at hw
    subst hR
    refine CallOK.to (E := (Eo [9] [])) (fn := Tryz.f13) (g := .pure _) (by rfl) (by rfl) (by rfl) (fun _ _ => by rfl) (by decide +kernel) (by rfl) (by rfl) (by rfl) fun _ => ?_
    repeat' first | (refine goN (hEo [9] []) 100 rfl ?_; conv => whnf) | refine .pure _ [] hof ?_ | refine .pure _ [] hd ?_ | refine .pure _ [] hw ?_ | exact rfl | refine And.intro (fun _ => ?_) (fun h => absurd (show true = false from h) (by decide)) | refine And.intro (fun h => absurd (show false = true from h) (by decide)) (fun _ => ?_) | refine And.intro (fun h => ?_) (fun h => absurd (of_decide_eq_false h) (by omega)) | refine And.intro (fun h => absurd (of_decide_eq_true h) (by omega)) (fun h => ?_) | refine And.intro (fun h => ?_) (fun h => ?_) | refine Or.inl (And.intro (And.intro (by simp only [kmin]; omega) (by simp only [kmax]; omega)) ?_) | refine Exists.intro _ (And.intro rfl ?_) | refine And.intro (by decide) ?_ | refine And.intro (by omega) ?_ | fail
  | true =>
    rw [if_pos hq] at hR
    rw [hq] at hw
    have next := choose_a c hc l hs g hg R (l.length + 1) [] (by rw [without_nil]; omega) (by rw [without_nil]; simp) (by rw [← hR]; unfold chB; split <;> rfl)
    refine CallOK.to (E := (Eo [9] [])) (fn := Tryz.f13) (g := .pure _) (by rfl) (by rfl) (by rfl) (fun _ _ => by rfl) (by decide +kernel) (by rfl) (by rfl) (by rfl) fun _ => ?_
    repeat' first | (refine goN (hEo [9] []) 100 rfl ?_; conv => whnf) | refine .pure _ [] hof ?_ | refine .pure _ [] hd ?_ | refine .pure _ [] hw ?_ | exact rfl | refine And.intro (fun _ => ?_) (fun h => absurd (show true = false from h) (by decide)) | refine And.intro (fun h => absurd (show false = true from h) (by decide)) (fun _ => ?_) | refine And.intro (fun h => ?_) (fun h => absurd (of_decide_eq_false h) (by omega)) | refine And.intro (fun h => absurd (of_decide_eq_true h) (by omega)) (fun h => ?_) | refine And.intro (fun h => ?_) (fun h => ?_) | refine Or.inl (And.intro (And.intro (by simp only [kmin]; omega) (by simp only [kmax]; omega)) ?_) | refine Exists.intro _ (And.intro rfl ?_) | refine And.intro (by decide) ?_ | refine And.intro (by omega) ?_ | fail
    refine To.part [3, 4, 5, 8, 9] [0, 1, 2, 3] rfl rfl rfl ?_
    exact next
theorem choose_ok (c : Con) (hc : c.sm) (l : List Rn) (hs : Sm l) (g : Gan) (hg : 0 ≤ g.pods ∧ g.pods ≤ 16) : CallOK Tryz.prog 13 [c.av, .slice 14 (rav l) .no, g.av] [] (.ret (chR (chooseL c l g))) [] := choose_any c hc l hs g hg _ rfl
end Go.Proofs.YtlalcoklkafnnaaGreat

namespace Go.Proofs.YtlalcoklkafnnaaGreat
open Go Go.AW Go.Proofs
set_option maxRecDepth 10000

def v4 : V3 := ⟨4, 4, 4⟩
def c21 : Con := ⟨[⟨-1, 1, V3.zero, V3.zero, V3.zero⟩, ⟨0, 1, v4, v4, v4⟩, ⟨0, 1, v4, v4, v4⟩], [⟨0, 0, 0, ⟨8, 8, 8⟩⟩], 1, 0⟩
theorem c21_sm : c21.sm := ⟨by decide, by decide⟩
def g21 : Gan := ⟨1, 1, 1, v4, 3, 0, 0⟩
def l21 : List Rn := [⟨g21, 1, 0, 1, 0, [0]⟩, ⟨⟨2, 1, 1, v4, 3, 0, 0⟩, 2, 0, 1, 0, [0]⟩]
def k21 : Gan := ⟨3, 2, 1, v4, 3, 0, 0⟩
theorem l21_sm : Sm l21 := ⟨by decide, by decide⟩
theorem c21_choose : chooseL c21 l21 k21 = some [2] := by decide +kernel
theorem c21_none : chooseL c21 [] k21 = some [] := by decide +kernel
theorem c21_order : orderL l21 = [⟨⟨2, 1, 1, v4, 3, 0, 0⟩, 2, 0, 1, 0, [0]⟩, ⟨g21, 1, 0, 1, 0, [0]⟩] := by decide +kernel
theorem c21_without : withoutL l21 [2] = [⟨g21, 1, 0, 1, 0, [0]⟩] := by decide +kernel
theorem awake21_ok : CallOK Tryz.prog 12 [] [] (.ret (.bool true)) [] := by
  have sm0 : Sm [] := ⟨by decide, fun x h => by simp at h⟩
  have h1 := choose_ok c21 c21_sm l21 l21_sm k21 (by decide)
  rw [c21_choose] at h1
  have h2 := choose_ok c21 c21_sm [] sm0 k21 (by decide)
  rw [c21_none] at h2
  have h3 := order_ok l21 l21_sm
  rw [c21_order] at h3
  have h4 := without_ok l21 l21_sm [2] (by decide)
  rw [c21_without] at h4
  refine CallOK.to (E := E) (fn := Tryz.f12) (g := .pure _) (by rfl) (by rfl) (by rfl) (fun _ _ => by rfl) (by decide +kernel) (by rfl) (by rfl) (by rfl) fun _ => ?_
  repeat' first | (refine goN hE 100 rfl ?_; conv => whnf) | refine .pure _ [] (CallOK.strip h1) ?_ | refine .pure _ [] (CallOK.strip (CallOK.nil2 h2)) ?_ | refine .pure _ [] (CallOK.strip h3) ?_ | refine .pure _ [] (CallOK.strip h4) ?_ | refine Exists.intro 0 (And.intro rfl ?_) | exact rfl | refine And.intro (fun _ => ?_) (fun h => absurd (show true = false from h) (by decide)) | refine And.intro (fun h => absurd (show false = true from h) (by decide)) (fun _ => ?_) | refine And.intro (fun h => ?_) (fun h => absurd (of_decide_eq_false h) (by omega)) | refine And.intro (fun h => absurd (of_decide_eq_true h) (by omega)) (fun h => ?_) | refine And.intro (fun h => ?_) (fun h => ?_) | refine Or.inl (And.intro (And.intro (by simp only [kmin]; omega) (by simp only [kmax]; omega)) ?_) | refine Exists.intro _ (And.intro rfl ?_) | refine And.intro (by decide) ?_ | refine And.intro (by omega) ?_ | fail

/- ---------- once ---------- -/
def cfB (a b : Rn) : Bool := (a.g.id == b.g.id) || (a.seq == b.seq)
def onceI (l : List Rn) (i : Nat) : Bool := !((l.take i).any fun y => cfB (getR l i) y)
def onceB (l : List Rn) : Bool := (List.range l.length).all (onceI l)
noncomputable abbrev fOnce : Func := Tryz.f37
theorem once_in (l : List Rn) (hl : l.length ≤ 1048576) (r : Bool) (i : Nat) (hi : i < l.length) : ∀ (m k : Nat), k + m = i → ((((l.take i).drop k).any fun y => cfB (getR l i) y) = true → r = false) →
    ((((l.take i).drop k).any fun y => cfB (getR l i) y) = false → To E fOnce (.pure (.ret (.bool r))) (.head (stk fOnce 0) [(0, .slice 14 (rav l) .no), (3, ii ((i : Int) + 1))] [])) →
    To E fOnce (.pure (.ret (.bool r))) (.head (stk fOnce 1) [(0, .slice 14 (rav l) .no), (3, ii i), (4, ii k)] []) := by
  have hlen : (rav l).length = l.length := by simp
  intro m
  induction m with
  | zero =>
    intro k hk h1 h2
    have next := h2 (by rw [List.drop_eq_nil_of_le (by simp; omega)]; rfl)
    refine goes hE 100 ?_
    conv => whnf
    refine And.intro (fun h => absurd (of_decide_eq_true h) (by omega)) (fun h => ?_)
    repeat' first | (refine goN hE 100 rfl ?_; conv => whnf) | exact rfl | refine And.intro (fun _ => ?_) (fun h => absurd (show true = false from h) (by decide)) | refine And.intro (fun h => absurd (show false = true from h) (by decide)) (fun _ => ?_) | refine And.intro (fun h => ?_) (fun h => absurd (of_decide_eq_false h) (by omega)) | refine And.intro (fun h => absurd (of_decide_eq_true h) (by omega)) (fun h => ?_) | refine And.intro (fun h => ?_) (fun h => ?_) | refine Or.inl (And.intro (And.intro (by simp only [kmin]; omega) (by simp only [kmax]; omega)) ?_) | refine Exists.intro _ (And.intro rfl ?_) | refine And.intro (by decide) ?_ | refine And.intro (by omega) ?_ | fail
    exact To.cut [0, 3] 0 rfl rfl rfl rfl next
  | succ m ih =>
    intro k hk h1 h2
    have hlt : k < (l.take i).length := by simp; omega
    rw [List.drop_eq_getElem_cons hlt, List.any_cons, List.getElem_take] at h1 h2
    have gi := getR_lt hi
    have gk : (rav l)[k]? = some l[k].av := rav_get (by omega)
    have ih := ih (k + 1) (by omega)
    generalize getR l i = a at gi h1 h2 ih
    generalize l[k] = b at gk h1 h2
    unfold cfB at h1 h2
    cases q1 : (a.g.id == b.g.id) with
    | true =>
      have hr := h1 (by rw [q1]; rfl)
      subst hr
      have q2 : ((0 : Int) == 0) = true := rfl
      refine goes hE 100 ?_
      conv => whnf
      refine And.intro (fun h => ?_) (fun h => absurd (of_decide_eq_false h) (by omega))
      repeat' first
        | (refine goN hE 100 rfl ?_; conv => whnf)
        | refine Exists.intro i (And.intro rfl ?_)
        | refine Exists.intro k (And.intro rfl ?_)
        | refine Exists.intro _ (And.intro gi ?_)
        | refine Exists.intro _ (And.intro gk ?_)
        | exact rfl
        | refine And.intro (fun h => ?_) (fun h => absurd h (by rw [q1]; decide))
        | refine And.intro (fun h => absurd h (by rw [q1]; decide)) (fun h => ?_)
        | refine And.intro (fun h => ?_) (fun h => absurd h (by rw [q2]; decide))
        | refine And.intro (fun h => absurd h (by rw [q2]; decide)) (fun h => ?_)
        | refine And.intro (fun _ => ?_) (fun h => absurd (show true = false from h) (by decide))
        | refine And.intro (fun h => absurd (show false = true from h) (by decide)) (fun _ => ?_)
        | refine Or.inl (And.intro (And.intro (by simp only [kmin]; omega) (by simp only [kmax]; omega)) ?_)
        | fail
    | false =>
      cases q2 : (a.seq == b.seq) with
      | true =>
        have hr := h1 (by rw [q1, q2]; rfl)
        subst hr
        refine goes hE 100 ?_
        conv => whnf
        refine And.intro (fun h => ?_) (fun h => absurd (of_decide_eq_false h) (by omega))
        repeat' first
          | (refine goN hE 100 rfl ?_; conv => whnf)
          | refine Exists.intro i (And.intro rfl ?_)
          | refine Exists.intro k (And.intro rfl ?_)
          | refine Exists.intro _ (And.intro gi ?_)
          | refine Exists.intro _ (And.intro gk ?_)
          | exact rfl
          | refine And.intro (fun h => ?_) (fun h => absurd h (by rw [q1]; decide))
          | refine And.intro (fun h => absurd h (by rw [q1]; decide)) (fun h => ?_)
          | refine And.intro (fun h => ?_) (fun h => absurd h (by rw [q2]; decide))
          | refine And.intro (fun h => absurd h (by rw [q2]; decide)) (fun h => ?_)
          | refine And.intro (fun _ => ?_) (fun h => absurd (show true = false from h) (by decide))
          | refine And.intro (fun h => absurd (show false = true from h) (by decide)) (fun _ => ?_)
          | refine Or.inl (And.intro (And.intro (by simp only [kmin]; omega) (by simp only [kmax]; omega)) ?_)
          | fail
      | false =>
        rw [q1, q2] at h1 h2
        have next := ih h1 h2
        refine goes hE 100 ?_
        conv => whnf
        refine And.intro (fun h => ?_) (fun h => absurd (of_decide_eq_false h) (by omega))
        repeat' first
          | (refine goN hE 100 rfl ?_; conv => whnf)
          | refine Exists.intro i (And.intro rfl ?_)
          | refine Exists.intro k (And.intro rfl ?_)
          | refine Exists.intro _ (And.intro gi ?_)
          | refine Exists.intro _ (And.intro gk ?_)
          | exact rfl
          | refine And.intro (fun h => ?_) (fun h => absurd h (by rw [q1]; decide))
          | refine And.intro (fun h => absurd h (by rw [q1]; decide)) (fun h => ?_)
          | refine And.intro (fun h => ?_) (fun h => absurd h (by rw [q2]; decide))
          | refine And.intro (fun h => absurd h (by rw [q2]; decide)) (fun h => ?_)
          | refine And.intro (fun _ => ?_) (fun h => absurd (show true = false from h) (by decide))
          | refine And.intro (fun h => absurd (show false = true from h) (by decide)) (fun _ => ?_)
          | refine Or.inl (And.intro (And.intro (by simp only [kmin]; omega) (by simp only [kmax]; omega)) ?_)
          | fail
        exact To.cut [0, 3, 4] 0 rfl rfl rfl rfl next
theorem once_out (l : List Rn) (hl : l.length ≤ 1048576) (r : Bool) : ∀ (m i : Nat), i + m = l.length → (List.range' i m).all (onceI l) = r →
    To E fOnce (.pure (.ret (.bool r))) (.head (stk fOnce 0) [(0, .slice 14 (rav l) .no), (3, ii i)] []) := by
  have hlen : (rav l).length = l.length := by simp
  intro m
  induction m with
  | zero =>
    intro i hi hr
    have hr : true = r := hr
    subst hr
    refine goes hE 100 ?_
    conv => whnf
    refine And.intro (fun h => absurd (of_decide_eq_true h) (by omega)) (fun h => ?_)
    repeat' first | (refine goN hE 100 rfl ?_; conv => whnf) | exact rfl | refine And.intro (fun _ => ?_) (fun h => absurd (show true = false from h) (by decide)) | refine And.intro (fun h => absurd (show false = true from h) (by decide)) (fun _ => ?_) | refine And.intro (fun h => ?_) (fun h => absurd (of_decide_eq_false h) (by omega)) | refine And.intro (fun h => absurd (of_decide_eq_true h) (by omega)) (fun h => ?_) | refine And.intro (fun h => ?_) (fun h => ?_) | refine Or.inl (And.intro (And.intro (by simp only [kmin]; omega) (by simp only [kmax]; omega)) ?_) | refine Exists.intro _ (And.intro rfl ?_) | refine And.intro (by decide) ?_ | refine And.intro (by omega) ?_ | fail
  | succ m ih =>
    intro i hi hr
    rw [List.range'_succ, List.all_cons] at hr
    have next := ih (i + 1) (by omega)
    have hin := once_in l hl r i (by omega) i 0 (by omega) (fun h => by
      have : onceI l i = false := by unfold onceI; rw [List.drop_zero] at h; rw [h]; rfl
      rw [this] at hr
      exact hr.symm) (fun h => by
      have : onceI l i = true := by unfold onceI; rw [List.drop_zero] at h; rw [h]; rfl
      rw [this, Bool.true_and] at hr
      exact next hr)
    refine goes hE 100 ?_
    conv => whnf
    refine And.intro (fun h => ?_) (fun h => absurd (of_decide_eq_false h) (by omega))
    repeat' first | (refine goN hE 100 rfl ?_; conv => whnf) | exact rfl | refine And.intro (fun _ => ?_) (fun h => absurd (show true = false from h) (by decide)) | refine And.intro (fun h => absurd (show false = true from h) (by decide)) (fun _ => ?_) | refine And.intro (fun h => ?_) (fun h => absurd (of_decide_eq_false h) (by omega)) | refine And.intro (fun h => absurd (of_decide_eq_true h) (by omega)) (fun h => ?_) | refine And.intro (fun h => ?_) (fun h => ?_) | refine Or.inl (And.intro (And.intro (by simp only [kmin]; omega) (by simp only [kmax]; omega)) ?_) | refine Exists.intro _ (And.intro rfl ?_) | refine And.intro (by decide) ?_ | refine And.intro (by omega) ?_ | fail
    exact To.cut [0, 3, 4] 0 rfl rfl rfl rfl hin
theorem once_ok (l : List Rn) (hl : l.length ≤ 1048576) : CallOK Tryz.prog 37 [.slice 14 (rav l) .no] [] (.ret (.bool (onceB l))) [] := by
  refine CallOK.to (E := E) (fn := Tryz.f37) (g := .pure _) (by rfl) (by rfl) (by rfl) (fun _ _ => by rfl) (by decide +kernel) (by rfl) (by rfl) (by rfl) fun _ => ?_
  refine goes hE 100 ?_
  conv => whnf
  exact To.cut [0, 3] 0 rfl rfl rfl rfl (once_out l hl _ l.length 0 (by omega) (by unfold onceB; rw [List.range_eq_range']))

/- ---------- few ---------- -/
def fewP (c : Con) (now : Int) (l : List Rn) (g : Gan) : Prop := fewI c now l = 1 ∧ onceB l = true ∧ gangI c.ns g = 1
theorem few21_yes (c : Con) (hc : c.sm) (now k : Int) (ws : List AVal) (l : List Rn) (hs : Sm l) (zs : List AVal) (g : Gan) (h : fewP c now l g) : CallOK Tryz.prog 11 [.agg (stCs c now k ws l zs), g.av] [] (.ret (.bool true)) [] := by
  obtain ⟨p1, p2, p3⟩ := h
  have h1 := few_ok c hc now l hs
  have h2 := once_ok l hs.1
  have h3 := gang_ok c hc g
  rw [p1] at h1
  rw [p2] at h2
  rw [p3] at h3
  refine CallOK.to (E := E) (fn := Tryz.f11) (g := .pure _) (by rfl) (by rfl) (by rfl) (fun _ _ => by rfl) (by decide +kernel) (by rfl) (by rfl) (by rfl) fun _ => ?_
  repeat' first | (refine goN hE 100 rfl ?_; conv => whnf) | refine .pure _ [] h1 ?_ | refine .pure _ [] h2 ?_ | refine .pure _ [] h3 ?_ | exact rfl | refine And.intro (fun _ => ?_) (fun h => absurd (show true = false from h) (by decide)) | refine And.intro (fun h => absurd (show false = true from h) (by decide)) (fun _ => ?_) | refine And.intro (fun h => ?_) (fun h => absurd (of_decide_eq_false h) (by omega)) | refine And.intro (fun h => absurd (of_decide_eq_true h) (by omega)) (fun h => ?_) | refine And.intro (fun h => ?_) (fun h => ?_) | refine Or.inl (And.intro (And.intro (by simp only [kmin]; omega) (by simp only [kmax]; omega)) ?_) | refine Exists.intro _ (And.intro rfl ?_) | refine And.intro (by decide) ?_ | refine And.intro (by omega) ?_ | fail
theorem few21_no (c : Con) (hc : c.sm) (now k : Int) (ws : List AVal) (l : List Rn) (hs : Sm l) (zs : List AVal) (g : Gan) (h : ¬ fewP c now l g) : CallOK Tryz.prog 11 [.agg (stCs c now k ws l zs), g.av] [] (.ret (.bool false)) [] := by
  have h1 := few_ok c hc now l hs
  have h2 := once_ok l hs.1
  have h3 := gang_ok c hc g
  by_cases p1 : fewI c now l = 1
  · rw [p1] at h1
    cases p2 : onceB l with
    | false =>
      rw [p2] at h2
      refine CallOK.to (E := E) (fn := Tryz.f11) (g := .pure _) (by rfl) (by rfl) (by rfl) (fun _ _ => by rfl) (by decide +kernel) (by rfl) (by rfl) (by rfl) fun _ => ?_
      repeat' first | (refine goN hE 100 rfl ?_; conv => whnf) | refine .pure _ [] h1 ?_ | refine .pure _ [] h2 ?_ | refine .pure _ [] h3 ?_ | exact rfl | refine And.intro (fun _ => ?_) (fun h => absurd (show true = false from h) (by decide)) | refine And.intro (fun h => absurd (show false = true from h) (by decide)) (fun _ => ?_) | refine And.intro (fun h => ?_) (fun h => absurd (of_decide_eq_false h) (by omega)) | refine And.intro (fun h => absurd (of_decide_eq_true h) (by omega)) (fun h => ?_) | refine And.intro (fun h => ?_) (fun h => ?_) | refine Or.inl (And.intro (And.intro (by simp only [kmin]; omega) (by simp only [kmax]; omega)) ?_) | refine Exists.intro _ (And.intro rfl ?_) | refine And.intro (by decide) ?_ | refine And.intro (by omega) ?_ | fail
    | true =>
      rw [p2] at h2
      have p3 : ¬ gangI c.ns g = 1 := fun q => h ⟨p1, p2, q⟩
      generalize gangI c.ns g = q at h3 p3
      have hk : (q == 1) = false := by simp [p3]
      refine CallOK.to (E := E) (fn := Tryz.f11) (g := .pure _) (by rfl) (by rfl) (by rfl) (fun _ _ => by rfl) (by decide +kernel) (by rfl) (by rfl) (by rfl) fun _ => ?_
      repeat' first | (refine goN hE 100 rfl ?_; conv => whnf) | refine .pure _ [] h1 ?_ | refine .pure _ [] h2 ?_ | refine .pure _ [] h3 ?_ | exact rfl | refine And.intro (fun _ => ?_) (fun h => absurd (show true = false from h) (by decide)) | refine And.intro (fun h => absurd (show false = true from h) (by decide)) (fun _ => ?_) | refine And.intro (fun h => ?_) (fun h => absurd (of_decide_eq_false h) (by omega)) | refine And.intro (fun h => absurd (of_decide_eq_true h) (by omega)) (fun h => ?_) | refine And.intro (fun h => ?_) (fun h => ?_) | refine Or.inl (And.intro (And.intro (by simp only [kmin]; omega) (by simp only [kmax]; omega)) ?_) | refine Exists.intro _ (And.intro rfl ?_) | refine And.intro (by decide) ?_ | refine And.intro (by omega) ?_ | fail
      exact congrArg (fun b => Res.ret (AVal.bool b)) hk
  · generalize fewI c now l = q at h1 p1
    have hk : (q == 1) = false := by simp [p1]
    refine CallOK.to (E := E) (fn := Tryz.f11) (g := .pure _) (by rfl) (by rfl) (by rfl) (fun _ _ => by rfl) (by decide +kernel) (by rfl) (by rfl) (by rfl) fun _ => ?_
    repeat' first | (refine goN hE 100 rfl ?_; conv => whnf) | refine .pure _ [] h1 ?_ | refine And.intro (fun h => absurd h (by rw [hk]; decide)) (fun h => ?_) | exact rfl | refine And.intro (fun _ => ?_) (fun h => absurd (show true = false from h) (by decide)) | refine And.intro (fun h => absurd (show false = true from h) (by decide)) (fun _ => ?_) | refine And.intro (fun h => ?_) (fun h => absurd (of_decide_eq_false h) (by omega)) | refine And.intro (fun h => absurd (of_decide_eq_true h) (by omega)) (fun h => ?_) | refine And.intro (fun h => ?_) (fun h => ?_) | refine Or.inl (And.intro (And.intro (by simp only [kmin]; omega) (by simp only [kmax]; omega)) ?_) | refine Exists.intro _ (And.intro rfl ?_) | refine And.intro (by decide) ?_ | refine And.intro (by omega) ?_ | fail
end Go.Proofs.YtlalcoklkafnnaaGreat

namespace Go.Proofs.YtlalcoklkafnnaaGreat
open Go Go.AW Go.Proofs

/- ---------- what one node uses, of more and of fewer ---------- -/
def V3.le (a b : V3) : Prop := a.a ≤ b.a ∧ a.b ≤ b.b ∧ a.c ≤ b.c
def V3.pos (d : V3) : Prop := 0 ≤ d.a ∧ 0 ≤ d.b ∧ 0 ≤ d.c
theorem V3.le.trans {a b c : V3} (h : a.le b) (k : b.le c) : a.le c := ⟨Int.le_trans h.1 k.1, Int.le_trans h.2.1 k.2.1, Int.le_trans h.2.2 k.2.2⟩
/- ---------- whom Choose gives ---------- -/
/-- each that was chosen, and when -/
def Was (c : Con) (l : List Rn) (n : Int) : Prop := ∃ (ids : List Int) (x : Rn), x ∈ l ∧ x.g.id = n ∧ borrowsB c (ofL c (withoutL l ids)) x.g.ten = true
theorem inB_iff {v : Int} {l : List Int} : inB v l = true ↔ v ∈ l := by unfold inB; simp
theorem without_mem {l : List Rn} {ids : List Int} {x : Rn} : x ∈ withoutL l ids ↔ x ∈ l ∧ x.g.id ∉ ids := by
  unfold withoutL
  rw [List.mem_filter]
  refine and_congr Iff.rfl ?_
  rw [← inB_iff]
  cases inB x.g.id ids <;> simp
theorem chA_spec {c : Con} {l : List Rn} {g : Gan} {R : List Int} : ∀ (f : Nat) (ids : List Int), ids.Nodup → (∀ n ∈ ids, Was c l n) → chA c l g f ids = some R → R.Nodup ∧ (∀ n ∈ R, Was c l n) ∧ fitW c l g R = true
  | 0, ids, _, _, h => by cases h
  | f + 1, ids, hn, hw, h => by
    unfold chA at h
    split at h
    · rename_i hf
      cases h
      exact ⟨hn, hw, hf⟩
    · split at h
      · cases h
      · rename_i n hx
        obtain ⟨x, h1, h2, h3⟩ := nextI_mem hx
        have hm := without_mem.1 h1
        refine chA_spec f _ ?_ ?_ h
        · rw [List.nodup_append]
          refine ⟨hn, by simp, fun a ha b hb e => ?_⟩
          simp at hb
          subst hb e
          rw [h2] at hm
          exact hm.2 ha
        · intro a ha
          rcases List.mem_append.1 ha with ha | ha
          · exact hw a ha
          · simp at ha
            subst ha
            exact ⟨ids, x, hm.1, h2, h3⟩
theorem chS_one {c : Con} {l : List Rn} {g : Gan} (ids : List Int) (a : Int) (h : fitW c l g ids = true) : fitW c l g (chS c l g ids a) = true ∧ (chS c l g ids a).Sublist ids := by
  have e : chS c l g ids a = if fitW c l g (lessL ids a) = true then lessL ids a else ids := rfl
  rw [e]
  cases hf : fitW c l g (lessL ids a) with
  | true => rw [if_pos rfl]; exact ⟨hf, List.filter_sublist⟩
  | false => rw [if_neg (by decide)]; exact ⟨h, List.Sublist.refl _⟩
theorem chS_spec {c : Con} {l : List Rn} {g : Gan} (bs : List Int) : ∀ (ids : List Int), fitW c l g ids = true → fitW c l g (bs.foldl (chS c l g) ids) = true ∧ (bs.foldl (chS c l g) ids).Sublist ids := by
  induction bs with
  | nil => intro ids h; exact ⟨h, List.Sublist.refl _⟩
  | cons a r ih =>
    intro ids h
    have h1 := chS_one ids a h
    rw [List.foldl_cons]
    generalize chS c l g ids a = q at h1
    obtain ⟨h2, h3⟩ := ih q h1.1
    exact ⟨h2, h3.trans h1.2⟩
theorem choose_spec {c : Con} {l : List Rn} {g : Gan} {R : List Int} (h : chooseL c l g = some R) : withinB c (ofL c l) g.ten (dem g) = true ∧ R.Nodup ∧ (∀ n ∈ R, Was c l n) ∧ fitW c l g R = true := by
  unfold chooseL at h
  split at h
  · rename_i hw
    split at h
    · cases h
    · rename_i ids hc
      cases h
      obtain ⟨h1, h2, h3⟩ := chA_spec _ [] (by simp) (by simp) hc
      obtain ⟨h4, h5⟩ := chS_spec ids ids h3
      exact ⟨hw, h5.nodup h1, fun n hn => h2 n (h5.subset hn), h4⟩
  · cases h
/-- numbers are there once -/
def OnceP (l : List Rn) : Prop := l.Pairwise fun a b => a.g.id ≠ b.g.id ∧ a.seq ≠ b.seq
theorem onceB_iff {l : List Rn} (h : onceB l = true) : OnceP l := by
  rw [OnceP, List.pairwise_iff_getElem]
  intro i j hi hj hij
  unfold onceB at h
  have h1 := List.all_eq_true.1 h j (List.mem_range.2 hj)
  unfold onceI at h1
  simp only [Bool.not_eq_true', List.any_eq_false] at h1
  have h2 := h1 l[i] (by
    rw [List.mem_take_iff_getElem]
    exact ⟨i, by omega, rfl⟩)
  unfold cfB getR at h2
  rw [List.getElem?_eq_getElem hj] at h2
  simp only [Option.getD_some, Bool.or_eq_true, beq_iff_eq, not_or] at h2
  exact ⟨fun e => h2.1 e.symm, fun e => h2.2 e.symm⟩
theorem uniq_filter {a : Int} : ∀ {q : List Rn}, q.Pairwise (fun x y => x.g.id ≠ y.g.id) → (∃ x ∈ q, x.g.id = a) → (q.filter fun y => !(y.g.id == a)).length + 1 = q.length
  | [], _, h => by obtain ⟨x, hx, _⟩ := h; cases hx
  | y :: r, hp, h => by
    have hp := List.pairwise_cons.1 hp
    rw [List.filter_cons]
    by_cases hy : y.g.id = a
    · have e : (r.filter fun y => !(y.g.id == a)) = r := List.filter_eq_self.2 fun z hz => by
        have := hp.1 z hz
        rw [hy] at this
        have : (z.g.id == a) = false := by simpa using fun e => this e.symm
        rw [this]; rfl
      rw [if_neg (by simp [hy]), e]
      simp
    · obtain ⟨x, hx, he⟩ := h
      have hx : x ∈ r := by
        rcases List.mem_cons.1 hx with rfl | hx
        · exact absurd he hy
        · exact hx
      have := uniq_filter hp.2 ⟨x, hx, he⟩
      rw [if_pos (by simp [hy])]
      simp only [List.length_cons]
      omega
theorem without_cons (l : List Rn) (a : Int) (r : List Int) : withoutL l (a :: r) = (withoutL l r).filter fun x => !(x.g.id == a) := by
  unfold withoutL
  rw [List.filter_filter]
  refine List.filter_congr fun x _ => ?_
  unfold inB
  rw [List.any_cons]
  cases (r.any fun y => x.g.id == y) <;> cases (x.g.id == a) <;> rfl
theorem without_len {l : List Rn} (ho : OnceP l) : ∀ {ids : List Int}, ids.Nodup → (∀ n ∈ ids, ∃ x ∈ l, x.g.id = n) → (withoutL l ids).length + ids.length = l.length
  | [], _, _ => by rw [without_nil]; simp
  | a :: r, hn, hm => by
    have hn := List.nodup_cons.1 hn
    have ih := without_len ho hn.2 fun n h => hm n (by simp [h])
    obtain ⟨x, hx, he⟩ := hm a (by simp)
    have hp : (withoutL l r).Pairwise fun x y => x.g.id ≠ y.g.id := (ho.sublist List.filter_sublist).imp fun h => h.1
    have := uniq_filter (a := a) hp ⟨x, without_mem.2 ⟨hx, by rw [he]; exact hn.1⟩, he⟩
    rw [without_cons]
    simp only [List.length_cons]
    omega
end Go.Proofs.YtlalcoklkafnnaaGreat

namespace Go.Proofs.YtlalcoklkafnnaaGreat
open Go Go.AW Go.Proofs
set_option maxRecDepth 10000

noncomputable abbrev fRin : Func := Tryz.f54
theorem rin21_loop (l : List Int) (hl : l.length ≤ 1048576) (v : Int) (r : Bool) : ∀ (m i : Nat), i + m = l.length → inB v (l.drop i) = r →
    To E fRin (.pure (.ret (.bool r))) (.head (stk fRin 0) [(0, ii v), (1, .slice 1 (iv l) .no), (5, ii i)] []) := by
  have hlen : (iv l).length = l.length := by simp
  intro m
  induction m with
  | zero =>
    intro i hi hr
    rw [List.drop_eq_nil_of_le (by omega)] at hr
    have hr : false = r := hr
    subst hr
    refine goes hE 100 ?_
    conv => whnf
    refine And.intro (fun h => absurd (of_decide_eq_true h) (by omega)) (fun h => ?_)
    repeat' first | (refine goN hE 100 rfl ?_; conv => whnf) | exact rfl | refine And.intro (fun _ => ?_) (fun h => absurd (show true = false from h) (by decide)) | refine And.intro (fun h => absurd (show false = true from h) (by decide)) (fun _ => ?_) | refine And.intro (fun h => ?_) (fun h => absurd (of_decide_eq_false h) (by omega)) | refine And.intro (fun h => absurd (of_decide_eq_true h) (by omega)) (fun h => ?_) | refine And.intro (fun h => ?_) (fun h => ?_) | refine Or.inl (And.intro (And.intro (by simp only [kmin]; omega) (by simp only [kmax]; omega)) ?_) | refine Exists.intro _ (And.intro rfl ?_) | refine And.intro (by decide) ?_ | refine And.intro (by omega) ?_ | fail
  | succ m ih =>
    intro i hi hr
    have hlt : i < l.length := by omega
    rw [List.drop_eq_getElem_cons hlt] at hr
    have get := iv_get hlt
    generalize l[i] = x at hr get
    unfold inB at hr
    rw [List.any_cons] at hr
    have ih := ih (i + 1) (by omega)
    have hc : (v == x) = (x == v) := by
      by_cases h : v = x
      · subst h; rfl
      · rw [beq_eq_false_iff_ne.2 h, beq_eq_false_iff_ne.2 (Ne.symm h)]
    rw [hc] at hr
    cases hq : (x == v) with
    | true =>
      rw [hq] at hr
      have hr : true = r := hr
      subst hr
      refine goes hE 100 ?_
      conv => whnf
      refine And.intro (fun h => ?_) (fun h => absurd (of_decide_eq_false h) (by omega))
      repeat' first | (refine goN hE 100 rfl ?_; conv => whnf) | refine Exists.intro i (And.intro rfl ?_) | refine Exists.intro _ (And.intro get ?_) | refine And.intro (fun h => ?_) (fun h => absurd h (by rw [hq]; decide)) | exact rfl | refine And.intro (fun _ => ?_) (fun h => absurd (show true = false from h) (by decide)) | refine And.intro (fun h => absurd (show false = true from h) (by decide)) (fun _ => ?_) | refine And.intro (fun h => ?_) (fun h => absurd (of_decide_eq_false h) (by omega)) | refine And.intro (fun h => absurd (of_decide_eq_true h) (by omega)) (fun h => ?_) | refine And.intro (fun h => ?_) (fun h => ?_) | refine Or.inl (And.intro (And.intro (by simp only [kmin]; omega) (by simp only [kmax]; omega)) ?_) | refine Exists.intro _ (And.intro rfl ?_) | refine And.intro (by decide) ?_ | refine And.intro (by omega) ?_ | fail
    | false =>
      rw [hq, Bool.false_or] at hr
      have next := ih hr
      refine goes hE 100 ?_
      conv => whnf
      refine And.intro (fun h => ?_) (fun h => absurd (of_decide_eq_false h) (by omega))
      repeat' first | (refine goN hE 100 rfl ?_; conv => whnf) | refine Exists.intro i (And.intro rfl ?_) | refine Exists.intro _ (And.intro get ?_) | refine And.intro (fun h => absurd h (by rw [hq]; decide)) (fun h => ?_) | exact rfl | refine And.intro (fun _ => ?_) (fun h => absurd (show true = false from h) (by decide)) | refine And.intro (fun h => absurd (show false = true from h) (by decide)) (fun _ => ?_) | refine And.intro (fun h => ?_) (fun h => absurd (of_decide_eq_false h) (by omega)) | refine And.intro (fun h => absurd (of_decide_eq_true h) (by omega)) (fun h => ?_) | refine And.intro (fun h => ?_) (fun h => ?_) | refine Or.inl (And.intro (And.intro (by simp only [kmin]; omega) (by simp only [kmax]; omega)) ?_) | refine Exists.intro _ (And.intro rfl ?_) | refine And.intro (by decide) ?_ | refine And.intro (by omega) ?_ | fail
      exact To.cut [0, 1, 5] 0 rfl rfl rfl rfl next
theorem rin21_ok (l : List Int) (hl : l.length ≤ 1048576) (v : Int) : CallOK Tryz.prog 54 [ii v, .slice 1 (iv l) .no] [] (.ret (.bool (inB v l))) [] := by
  refine CallOK.to (E := E) (fn := Tryz.f54) (g := .pure _) (by rfl) (by rfl) (by rfl) (fun _ _ => by rfl) (by decide +kernel) (by rfl) (by rfl) (by rfl) fun _ => ?_
  refine goes hE 100 ?_
  conv => whnf
  exact To.cut [0, 1, 5] 0 rfl rfl rfl rfl (rin21_loop l hl v _ l.length 0 (by omega) rfl)
noncomputable abbrev fRWo : Func := Tryz.f16
theorem rwo_loop (l : List Rn) (hs : Sm l) (ids : List Int) (hd : ids.length ≤ 1048576) (R : List Rn) : ∀ (m i : Nat) (acc : List Rn), i + m = l.length → acc.length ≤ i → acc ++ withoutL (l.drop i) ids = R →
    To (Eo [5] []) fRWo (.pure (.ret (.slice 14 (rav R) .no))) (.head (stk fRWo 0) [(0, .slice 14 (rav l) .no), (1, .slice 1 (iv ids) .no), (5, .slice 14 (rav acc) (.own 0 0)), (6, ii i)] [.tail 0 14 43]) := by
  have hlen : (rav l).length = l.length := by simp
  have hl := hs.1
  intro m
  induction m with
  | zero =>
    intro i acc hi ha hR
    rw [List.drop_eq_nil_of_le (by omega)] at hR
    have hR : acc ++ [] = R := hR
    rw [List.append_nil] at hR
    subst hR
    refine goes (hEo [5] []) 100 ?_
    conv => whnf
    refine And.intro (fun h => absurd (of_decide_eq_true h) (by omega)) (fun h => ?_)
    repeat' first | (refine goN (hEo [5] []) 100 rfl ?_; conv => whnf) | exact rfl | refine And.intro (fun _ => ?_) (fun h => absurd (show true = false from h) (by decide)) | refine And.intro (fun h => absurd (show false = true from h) (by decide)) (fun _ => ?_) | refine And.intro (fun h => ?_) (fun h => absurd (of_decide_eq_false h) (by omega)) | refine And.intro (fun h => absurd (of_decide_eq_true h) (by omega)) (fun h => ?_) | refine And.intro (fun h => ?_) (fun h => ?_) | refine Or.inl (And.intro (And.intro (by simp only [kmin]; omega) (by simp only [kmax]; omega)) ?_) | refine Exists.intro _ (And.intro rfl ?_) | refine And.intro (by decide) ?_ | refine And.intro (by omega) ?_ | fail
  | succ m ih =>
    intro i acc hi ha hR
    have hlt : i < l.length := by omega
    rw [List.drop_eq_getElem_cons hlt] at hR
    generalize hq : l[i] = x at hR
    have get : (rav l)[i]? = some x.av := (rav_get hlt).trans (by rw [hq])
    have hla : (rav acc).length = acc.length := by simp
    have hc := rin21_ok ids hd x.g.id
    cases hw : inB x.g.id ids with
    | true =>
      rw [hw] at hc
      rw [without_neg hw] at hR
      have next := ih (i + 1) acc (by omega) (by omega) hR
      refine goes (hEo [5] []) 100 ?_
      conv => whnf
      refine And.intro (fun h => ?_) (fun h => absurd (of_decide_eq_false h) (by omega))
      repeat' first | (refine goN (hEo [5] []) 100 rfl ?_; conv => whnf) | refine Exists.intro i (And.intro rfl ?_) | refine Exists.intro _ (And.intro get ?_) | refine .pure _ [] hc ?_ | exact rfl | refine And.intro (fun _ => ?_) (fun h => absurd (show true = false from h) (by decide)) | refine And.intro (fun h => absurd (show false = true from h) (by decide)) (fun _ => ?_) | refine And.intro (fun h => ?_) (fun h => absurd (of_decide_eq_false h) (by omega)) | refine And.intro (fun h => absurd (of_decide_eq_true h) (by omega)) (fun h => ?_) | refine And.intro (fun h => ?_) (fun h => ?_) | refine Or.inl (And.intro (And.intro (by simp only [kmin]; omega) (by simp only [kmax]; omega)) ?_) | refine Exists.intro _ (And.intro rfl ?_) | refine And.intro (by decide) ?_ | refine And.intro (by omega) ?_ | fail
      refine To.part [0, 1, 5, 6] [0] rfl rfl rfl ?_
      exact next
    | false =>
      rw [hw] at hc
      rw [without_pos hw] at hR
      have next := ih (i + 1) (acc ++ [x]) (by omega) (by simp; omega) (by rw [List.append_assoc]; exact hR)
      have e : rav (acc ++ [x]) = rav acc ++ [x.av] := by simp
      rw [e] at next
      refine goes (hEo [5] []) 100 ?_
      conv => whnf
      refine And.intro (fun h => ?_) (fun h => absurd (of_decide_eq_false h) (by omega))
      repeat' first | (refine goN (hEo [5] []) 100 rfl ?_; conv => whnf) | refine Exists.intro i (And.intro rfl ?_) | refine Exists.intro _ (And.intro get ?_) | refine .pure _ [] hc ?_ | refine And.intro (And.intro (by simp only [maxLen]; simp; omega) (by simp; omega)) ?_ | exact rfl | refine And.intro (fun _ => ?_) (fun h => absurd (show true = false from h) (by decide)) | refine And.intro (fun h => absurd (show false = true from h) (by decide)) (fun _ => ?_) | refine And.intro (fun h => ?_) (fun h => absurd (of_decide_eq_false h) (by omega)) | refine And.intro (fun h => absurd (of_decide_eq_true h) (by omega)) (fun h => ?_) | refine And.intro (fun h => ?_) (fun h => ?_) | refine Or.inl (And.intro (And.intro (by simp only [kmin]; omega) (by simp only [kmax]; omega)) ?_) | refine Exists.intro _ (And.intro rfl ?_) | refine And.intro (by decide) ?_ | refine And.intro (by omega) ?_ | fail
      refine To.part [0, 1, 5, 6] [0] rfl rfl rfl ?_
      exact next
theorem rwithout_ok (l : List Rn) (hs : Sm l) (ids : List Int) (hd : ids.length ≤ 1048576) : CallOK Tryz.prog 16 [.slice 14 (rav l) .no, .slice 1 (iv ids) .no] [] (.ret (.slice 14 (rav (withoutL l ids)) .no)) [] := by
  refine CallOK.to (E := (Eo [5] [])) (fn := Tryz.f16) (g := .pure _) (by rfl) (by rfl) (by rfl) (fun _ _ => by rfl) (by decide +kernel) (by rfl) (by rfl) (by rfl) fun _ => ?_
  refine goes (hEo [5] []) 100 ?_
  conv => whnf
  refine To.part [0, 1, 5, 6] [0] rfl rfl rfl ?_
  exact rwo_loop l hs ids hd _ l.length 0 [] (by omega) (by simp) rfl

/- ---------- VictimsFit ---------- -/
end Go.Proofs.YtlalcoklkafnnaaGreat

namespace Go.Proofs.YtlalcoklkafnnaaGreat
open Go Go.AW Go.Proofs

def LeR (a b : Rn) : Prop := laterB b a = false
theorem leR_iff {a b : Rn} : LeR a b ↔ b.st < a.st ∨ (b.st = a.st ∧ b.seq ≤ a.seq) := by
  unfold LeR
  have h := laterB_iff (a := b) (b := a)
  cases hq : laterB b a with
  | true =>
    have := h.1 hq
    constructor
    · intro h; cases h
    · intro h2; omega
  | false =>
    have : ¬ (a.st < b.st ∨ (a.st = b.st ∧ a.seq < b.seq)) := fun q => by rw [h.2 q] at hq; cases hq
    constructor
    · intro _; omega
    · intro _; rfl
theorem LeR.trans {a b c : Rn} (h : LeR a b) (k : LeR b c) : LeR a c := by rw [leR_iff] at *; omega
theorem leR_of {a b : Rn} (h : laterB a b = true) : LeR a b := by
  have := laterB_iff.1 h
  rw [leR_iff]
  omega
theorem getR_swap {xs : List Rn} {i k : Nat} (hi : i < xs.length) (hk : k < xs.length) (j : Nat) : getR (swapR xs i k) j = if j = k then getR xs i else if j = i then getR xs k else getR xs j := by
  unfold swapR
  conv => lhs; unfold getR
  rw [List.getElem?_set, List.getElem?_set]
  by_cases h1 : j = k
  · subst h1
    rw [if_pos rfl, if_pos rfl, if_pos (by simpa using hk)]
    rfl
  · rw [if_neg (fun e => h1 e.symm), if_neg h1]
    by_cases h2 : j = i
    · subst h2
      rw [if_pos rfl, if_pos rfl, if_pos hi]
      rfl
    · rw [if_neg (fun e => h2 e.symm), if_neg h2]
      rfl
def Hp (n : Nat) (xs : List Rn) : Prop := ∀ j, 0 < j → j < n → LeR (getR xs ((j - 1) / 2)) (getR xs j)
theorem Hp.root {n : Nat} {xs : List Rn} (h : Hp n xs) : ∀ (m j : Nat), j ≤ m → j < n → LeR (getR xs 0) (getR xs j)
  | 0, j, hm, _ => by
    have : j = 0 := by omega
    subst this
    rw [leR_iff]; omega
  | m + 1, j, hm, hj => by
    by_cases h0 : j = 0
    · subst h0; rw [leR_iff]; omega
    · exact (h.root m ((j - 1) / 2) (by omega) (by omega)).trans (h j (by omega) hj)
theorem upH_hp (n : Nat) : ∀ (f : Nat) (xs : List Rn) (i : Nat), xs.length = n → i < n → i < f → (∀ j, 0 < j → j < n → j ≠ i → LeR (getR xs ((j - 1) / 2)) (getR xs j)) → (∀ j, 0 < j → j < n → (j - 1) / 2 = i → 0 < i → LeR (getR xs ((i - 1) / 2)) (getR xs j)) → Hp n (upH f xs i)
  | 0, xs, i, _, _, h, _, _ => by omega
  | f + 1, xs, i, hx, hi, hf, h1, h2 => by
    unfold upH
    by_cases h0 : i = 0
    · rw [if_pos h0]
      exact fun j a b => h1 j a b (by omega)
    rw [if_neg h0]
    generalize hup : (i - 1) / 2 = up
    have hul : up < i := by omega
    cases hq : laterB (getR xs i) (getR xs up) with
    | false =>
      rw [if_neg (by decide)]
      intro j a b
      by_cases hj : j = i
      · subst hj
        rw [hup]
        exact hq
      · exact h1 j a b hj
    | true =>
      rw [if_pos rfl]
      have hle := leR_of hq
      have g := fun j => getR_swap (xs := xs) (i := i) (k := up) (by omega) (by omega) j
      have hpu : 0 < up → LeR (getR xs ((up - 1) / 2)) (getR xs up) := fun h => h1 up h (by omega) (by omega)
      refine upH_hp n f _ up (by rw [swapR_len]; exact hx) (by omega) (by omega) (fun j a b hj => ?_) (fun j a b hj hu => ?_)
      · rw [g, g]
        by_cases hji : j = i
        · subst hji
          rw [hup, if_pos rfl, if_neg hj, if_pos rfl]
          exact hle
        · rw [if_neg hj, if_neg hji]
          by_cases hp : (j - 1) / 2 = i
          · rw [if_neg (by omega), if_pos hp]
            have := h2 j a b hp (by omega)
            rwa [hup] at this
          · by_cases hp2 : (j - 1) / 2 = up
            · rw [if_pos hp2]
              have := h1 j a b hji
              rw [hp2] at this
              exact hle.trans this
            · rw [if_neg hp2, if_neg hp]
              exact h1 j a b hji
      · rw [g, g, if_neg (by omega), if_neg (by omega)]
        by_cases hji : j = i
        · subst hji
          rw [if_neg (by omega), if_pos rfl]
          exact hpu hu
        · rw [if_neg (by omega), if_neg hji]
          have := h1 j a b hji
          rw [hj] at this
          exact (hpu hu).trans this
theorem getR_app {xs : List Rn} {x : Rn} {j : Nat} (h : j < xs.length) : getR (xs ++ [x]) j = getR xs j := by
  unfold getR
  rw [List.getElem?_append_left h]
theorem push_hp {xs : List Rn} (h : Hp xs.length xs) (x : Rn) : Hp (pushH xs x).length (pushH xs x) := by
  rw [pushH_len]
  unfold pushH
  refine upH_hp (xs.length + 1) _ _ _ (by simp) (by omega) (by omega) (fun j a b hj => ?_) (fun j a b hj hu => by omega)
  rw [getR_app (by omega), getR_app (by omega)]
  exact h j a (by omega)
theorem downH_hp (n : Nat) : ∀ (f : Nat) (xs : List Rn) (i : Nat), n ≤ xs.length → i < xs.length → n < f + i + 1 → (∀ j, 0 < j → j < n → (j - 1) / 2 ≠ i → LeR (getR xs ((j - 1) / 2)) (getR xs j)) → (∀ j, 0 < j → j < n → (j - 1) / 2 = i → 0 < i → LeR (getR xs ((i - 1) / 2)) (getR xs j)) → Hp n (downH f xs n i)
  | 0, xs, i, _, _, hf, h1, h2 => by
    intro j a b
    exact h1 j a b (by omega)
  | f + 1, xs, i, hx, hi, hf, h1, h2 => by
    unfold downH
    by_cases h0 : 2 * i + 1 < n
    · rw [if_pos h0]
      have hk := downK_r xs n i h0
      have hmin : ∀ j, j < n → (j = 2 * i + 1 ∨ j = 2 * i + 2) → LeR (getR xs (downK xs n i)) (getR xs j) := fun j hj hc => by
        unfold downK
        by_cases h3 : 2 * i + 2 < n
        · rw [if_pos h3]
          cases hq : laterB (getR xs (2 * i + 2)) (getR xs (2 * i + 1)) with
          | true =>
            rw [if_pos rfl]
            rcases hc with rfl | rfl
            · exact leR_of hq
            · rw [leR_iff]; omega
          | false =>
            rw [if_neg (by decide)]
            rcases hc with rfl | rfl
            · rw [leR_iff]; omega
            · exact hq
        · rw [if_neg h3]
          rcases hc with rfl | rfl
          · rw [leR_iff]; omega
          · omega
      generalize downK xs n i = k at hk hmin
      cases hq : laterB (getR xs k) (getR xs i) with
      | false =>
        rw [if_neg (by decide)]
        intro j a b
        by_cases hj : (j - 1) / 2 = i
        · rw [hj]
          exact LeR.trans hq (hmin j b (by omega))
        · exact h1 j a b hj
      | true =>
        rw [if_pos rfl]
        have hle := leR_of hq
        have g := fun j => getR_swap (xs := xs) (i := i) (k := k) hi (by omega) j
        have hpk : (k - 1) / 2 = i := by omega
        refine downH_hp n f _ k (by rw [swapR_len]; exact hx) (by rw [swapR_len]; omega) (by omega) (fun j a b hj => ?_) (fun j a b hj hu => ?_)
        · rw [g, g]
          by_cases hp : (j - 1) / 2 = i
          · rw [hp, if_neg (by omega), if_pos rfl]
            by_cases hjk : j = k
            · rw [if_pos hjk]; exact hle
            · rw [if_neg hjk, if_neg (by omega)]
              exact hmin j b (by omega)
          · rw [if_neg hj, if_neg hp, if_neg (by omega)]
            by_cases hji : j = i
            · subst hji
              rw [if_pos rfl]
              exact h2 k (by omega) (by omega) hpk a
            · rw [if_neg hji]
              exact h1 j a b hp
        · rw [hpk, g, g, if_neg (by omega), if_pos rfl, if_neg (by omega), if_neg (by omega)]
          have := h1 j a b (by omega)
          rwa [hj] at this
    · rw [if_neg h0]
      intro j a b
      exact h1 j a b (by omega)
theorem getR_set0 {xs : List Rn} {x : Rn} {j : Nat} (h : 0 < j) : getR (xs.set 0 x) j = getR xs j := by
  unfold getR
  rw [List.getElem?_set_ne (by omega)]
theorem pop_hp {xs : List Rn} {n : Nat} (h0 : 0 < n) (hn : n ≤ xs.length) (h : Hp n xs) : Hp (n - 1) (popH xs n) := by
  unfold popH
  refine downH_hp (n - 1) n _ 0 (by simp; omega) (by simp; omega) (by omega) (fun j a b hj => ?_) (fun j a b hj hu => by omega)
  rw [getR_set0 (by omega), getR_set0 a]
  exact h j a (by omega)

/- ---------- all are there ---------- -/
theorem swapR_perm {xs : List Rn} {i k : Nat} (hi : i < xs.length) (hk : k < xs.length) : (swapR xs i k).Perm xs := by
  unfold swapR getR
  rw [List.getElem?_eq_getElem hi, List.getElem?_eq_getElem hk]
  exact List.set_set_perm hi hk
theorem upH_perm : ∀ (f : Nat) (xs : List Rn) (i : Nat), i < xs.length → (upH f xs i).Perm xs
  | 0, xs, i, _ => List.Perm.refl _
  | f + 1, xs, i, hi => by
    unfold upH
    split
    · exact List.Perm.refl _
    · split
      · exact (upH_perm f _ _ (by rw [swapR_len]; omega)).trans (swapR_perm hi (by omega))
      · exact List.Perm.refl _
theorem pushes_perm : ∀ (l xs : List Rn), (l.foldl pushH xs).Perm (xs ++ l)
  | [], xs => by simp
  | x :: r, xs => by
    rw [List.foldl_cons]
    refine (pushes_perm r _).trans ?_
    have h : (pushH xs x).Perm (xs ++ [x]) := upH_perm _ _ _ (by simp)
    have := h.append_right r
    rwa [List.append_assoc] at this
theorem pushes_hp : ∀ (l xs : List Rn), Hp xs.length xs → Hp (l.foldl pushH xs).length (l.foldl pushH xs)
  | [], xs, h => h
  | x :: r, xs, h => by rw [List.foldl_cons]; exact pushes_hp r _ (push_hp h x)
theorem getR_take {xs : List Rn} {m j : Nat} (h : j < m) : getR (xs.take m) j = getR xs j := by
  unfold getR
  rw [List.getElem?_take_of_lt h]
theorem swapR_take {xs : List Rn} {m i k : Nat} (hi : i < m) (hk : k < m) : (swapR xs i k).take m = swapR (xs.take m) i k := by
  unfold swapR
  rw [getR_take hi, getR_take hk, List.take_set, List.take_set]
theorem downK_take {xs : List Rn} {n i : Nat} (h : 2 * i + 1 < n) : downK (xs.take n) n i = downK xs n i := by
  unfold downK
  by_cases h3 : 2 * i + 2 < n
  · rw [if_pos h3, if_pos h3, getR_take h3, getR_take h]
  · rw [if_neg h3, if_neg h3]
theorem downH_take (n : Nat) : ∀ (f : Nat) (xs : List Rn) (i : Nat), i < n ∨ n = 0 → (downH f xs n i).take n = downH f (xs.take n) n i
  | 0, xs, i, _ => rfl
  | f + 1, xs, i, hi => by
    unfold downH
    by_cases h0 : 2 * i + 1 < n
    · rw [if_pos h0, if_pos h0]
      have hk := downK_r xs n i h0
      rw [downK_take h0, getR_take hk.1, getR_take (by omega)]
      split
      · rw [downH_take n f _ _ (by omega), swapR_take (by omega) hk.1]
      · rfl
    · rw [if_neg h0, if_neg h0]
theorem downH_perm (n : Nat) : ∀ (f : Nat) (xs : List Rn) (i : Nat), n ≤ xs.length → i < xs.length → (downH f xs n i).Perm xs
  | 0, xs, i, _, _ => List.Perm.refl _
  | f + 1, xs, i, hn, hi => by
    unfold downH
    split
    · rename_i h0
      have hk := downK_r xs n i h0
      split
      · exact (downH_perm n f _ _ (by rw [swapR_len]; exact hn) (by rw [swapR_len]; omega)).trans (swapR_perm hi (by omega))
      · exact List.Perm.refl _
    · exact List.Perm.refl _
theorem pop_perm {xs : List Rn} {n : Nat} (h0 : 0 < n) (hn : n ≤ xs.length) : (getR xs 0 :: (popH xs n).take (n - 1)).Perm (xs.take n) := by
  match n, h0 with
  | 1, _ =>
    match xs, hn with
    | x :: r, _ => exact List.Perm.refl _
  | m + 2, _ =>
    have e1 : m + 2 - 1 = m + 1 := rfl
    unfold popH
    rw [e1, downH_take (m + 1) _ _ 0 (.inl (by omega))]
    match xs, hn with
    | x :: r, hn =>
    have hr : m < r.length := by simp at hn; omega
    have hgl : getR (x :: r) (m + 1) = r[m] := by
      unfold getR
      rw [List.getElem?_cons_succ, List.getElem?_eq_getElem hr]
      rfl
    have e2 : (List.set (x :: r) 0 (getR (x :: r) (m + 1))).take (m + 1) = r[m] :: r.take m := by rw [hgl]; rfl
    rw [e2]
    have e3 : (x :: r).take (m + 2) = x :: (r.take m ++ [r[m]]) := by
      show x :: r.take (m + 1) = _
      rw [List.take_append_getElem hr]
    rw [e3]
    refine List.Perm.cons _ ?_
    refine (downH_perm (m + 1) _ _ 0 (by simp; omega) (by simp)).trans ?_
    exact (List.perm_append_singleton _ _).symm
theorem popAll_perm : ∀ (n : Nat) (xs : List Rn), n ≤ xs.length → (popAll n xs).Perm (xs.take n)
  | 0, xs, _ => by simp [popAll]
  | n + 1, xs, hn => by
    unfold popAll
    have h1 := pop_perm (xs := xs) (n := n + 1) (by omega) hn
    have h2 := popAll_perm n (popH xs (n + 1)) (by rw [popH_len]; omega)
    exact (List.Perm.cons _ h2).trans h1
theorem popAll_pw : ∀ (n : Nat) (xs : List Rn), n ≤ xs.length → Hp n xs → (popAll n xs).Pairwise LeR
  | 0, xs, _, _ => by simp [popAll]
  | n + 1, xs, hn, h => by
    unfold popAll
    refine List.pairwise_cons.2 ⟨fun y hy => ?_, popAll_pw n _ (by rw [popH_len]; omega) (pop_hp (by omega) hn h)⟩
    have h1 := (popAll_perm n (popH xs (n + 1)) (by rw [popH_len]; omega)).mem_iff.1 hy
    have h2 := (pop_perm (xs := xs) (n := n + 1) (by omega) hn).mem_iff.1 (List.mem_cons_of_mem _ h1)
    obtain ⟨j, hj, rfl⟩ := List.mem_take_iff_getElem.1 h2
    have e : getR xs j = xs[j] := by
      unfold getR
      rw [List.getElem?_eq_getElem (by omega)]
      rfl
    rw [← e]
    exact h.root j j (Nat.le_refl _) (by omega)
theorem order_perm (l : List Rn) : (orderL l).Perm l := by
  unfold orderL
  have hlen : (l.foldl pushH []).length = l.length := by rw [pushes_len]; simp
  refine (popAll_perm _ _ (by omega)).trans ?_
  rw [List.take_of_length_le (by omega)]
  simpa using pushes_perm l []
theorem order_pw (l : List Rn) : (orderL l).Pairwise LeR := by
  unfold orderL
  have hlen : (l.foldl pushH []).length = l.length := by rw [pushes_len]; simp
  refine popAll_pw _ _ (by omega) ?_
  rw [← hlen]
  exact pushes_hp l [] (fun j a b => by simp at b)
/-- two rows in order, of the same -/
theorem sorted_eq {R : Rn → Rn → Prop} : ∀ {a b : List Rn}, a.Perm b → a.Pairwise R → b.Pairwise R → (∀ x ∈ a, ∀ y ∈ a, R x y → R y x → x = y) → (∀ x ∈ a, R x x) → a = b
  | [], b, h, _, _, _, _ => by
    have := h.length_eq
    exact (List.eq_nil_of_length_eq_zero (by simpa using this.symm)).symm
  | x :: r, [], h, _, _, _, _ => by have := h.length_eq; simp at this
  | x :: r, y :: s, h, h1, h2, ha, hr => by
    have h1 := List.pairwise_cons.1 h1
    have h2 := List.pairwise_cons.1 h2
    have hxy : x = y := by
      have m1 : x ∈ y :: s := h.mem_iff.1 (by simp)
      have m2 : y ∈ x :: r := h.mem_iff.2 (by simp)
      rcases List.mem_cons.1 m1 with e | m1
      · exact e
      · rcases List.mem_cons.1 m2 with e | m2
        · exact e.symm
        · exact ha x (by simp) y (by simp [m2]) (h1.1 y m2) (h2.1 x m1)
    subst hxy
    have hp : r.Perm s := h.cons_inv
    rw [sorted_eq hp h1.2 h2.2 (fun a ha' b hb' => ha a (by simp [ha']) b (by simp [hb'])) (fun a ha' => hr a (by simp [ha']))]

/- ---------- the reference's order ---------- -/
def insK (x : Rn) (out : List Rn) : Nat → Nat
  | 0 => 0
  | k + 1 => if laterB x (getR out k) = true then insK x out k else k + 1
def insE (out : List Rn) (x : Rn) : List Rn := out.take (insK x out out.length) ++ [x] ++ out.drop (insK x out out.length)
def rOrd (l : List Rn) : List Rn := l.foldl insE []
theorem insK_le (x : Rn) (out : List Rn) : ∀ (k : Nat), insK x out k ≤ k
  | 0 => Nat.le_refl _
  | k + 1 => by
    unfold insK
    split
    · have := insK_le x out k; omega
    · exact Nat.le_refl _
theorem insK_spec (x : Rn) (out : List Rn) : ∀ (k : Nat), (∀ j, insK x out k ≤ j → j < k → laterB x (getR out j) = true) ∧ (0 < insK x out k → laterB x (getR out (insK x out k - 1)) = false)
  | 0 => ⟨fun j _ h => by omega, fun h => by simp [insK] at h⟩
  | k + 1 => by
    obtain ⟨h1, h2⟩ := insK_spec x out k
    unfold insK
    cases hq : laterB x (getR out k) with
    | true =>
      rw [if_pos rfl]
      refine ⟨fun j a b => ?_, h2⟩
      by_cases hj : j = k
      · subst hj; exact hq
      · exact h1 j a (by omega)
    | false =>
      rw [if_neg (by decide)]
      exact ⟨fun j a b => by omega, fun _ => hq⟩
theorem insE_perm (out : List Rn) (x : Rn) : (insE out x).Perm (out ++ [x]) := by
  unfold insE
  generalize insK x out out.length = k
  have h : (out.take k ++ [x] ++ out.drop k).Perm (out.take k ++ out.drop k ++ [x]) := by
    rw [List.append_assoc, List.append_assoc]
    exact List.Perm.append_left _ List.perm_append_comm
  rwa [List.take_append_drop] at h
theorem insE_pw {out : List Rn} (h : out.Pairwise LeR) (x : Rn) : (insE out x).Pairwise LeR := by
  have hle := insK_le x out out.length
  obtain ⟨h1, h2⟩ := insK_spec x out out.length
  unfold insE
  generalize insK x out out.length = k at hle h1 h2
  have hp := List.pairwise_iff_getElem.1 h
  have gt : ∀ {j : Nat} (hj : j < out.length), getR out j = out[j] := fun {j} hj => by
    unfold getR
    rw [List.getElem?_eq_getElem hj]
    rfl
  have hbef : ∀ y ∈ out.take k, LeR y x := fun y hy => by
    obtain ⟨j, hj, rfl⟩ := List.mem_take_iff_getElem.1 hy
    have hl : LeR (getR out (k - 1)) x := h2 (by omega)
    rw [gt (by omega)] at hl
    by_cases hjk : j = k - 1
    · subst hjk; exact hl
    · exact (hp j (k - 1) (by omega) (by omega) (by omega)).trans hl
  have haft : ∀ y ∈ out.drop k, LeR x y := fun y hy => by
    obtain ⟨j, hj, rfl⟩ := List.mem_drop_iff_getElem.1 hy
    have := h1 (k + j) (by omega) (by omega)
    rw [gt (by omega)] at this
    exact leR_of this
  have hs := h
  rw [← List.take_append_drop k out, List.pairwise_append] at hs
  rw [List.append_assoc, List.pairwise_append]
  refine ⟨hs.1, ?_, fun a ha b hb => ?_⟩
  · exact List.pairwise_cons.2 ⟨haft, hs.2.1⟩
  · rcases List.mem_cons.1 hb with rfl | hb
    · exact hbef a ha
    · exact hs.2.2 a ha b hb
theorem rOrd_perm : ∀ (l out : List Rn), (l.foldl insE out).Perm (out ++ l)
  | [], out => by simp
  | x :: r, out => by
    rw [List.foldl_cons]
    refine (rOrd_perm r _).trans ?_
    have := (insE_perm out x).append_right r
    rwa [List.append_assoc] at this
theorem rOrd_pw : ∀ (l out : List Rn), out.Pairwise LeR → (l.foldl insE out).Pairwise LeR
  | [], out, h => h
  | x :: r, out, h => by rw [List.foldl_cons]; exact rOrd_pw r _ (insE_pw h x)
/-- the order of those that have their own places is one -/
theorem order_eq {l : List Rn} (ho : OnceP l) : orderL l = rOrd l := by
  have h1 := order_perm l
  have h2 : (rOrd l).Perm l := by have := rOrd_perm l []; simpa [rOrd] using this
  refine sorted_eq (h1.trans h2.symm) (order_pw l) (rOrd_pw l [] (by simp)) (fun x hx y hy hxy hyx => ?_) (fun x _ => by rw [leR_iff]; omega)
  have hx := h1.mem_iff.1 hx
  have hy := h1.mem_iff.1 hy
  rw [leR_iff] at hxy hyx
  have hs : x.seq = y.seq := by omega
  obtain ⟨i, hi, rfl⟩ := List.getElem_of_mem hx
  obtain ⟨j, hj, rfl⟩ := List.getElem_of_mem hy
  have hp := List.pairwise_iff_getElem.1 ho
  rcases Nat.lt_trichotomy i j with h1 | rfl | h1
  · exact absurd hs (hp i j hi hj h1).2
  · rfl
  · exact absurd hs.symm (hp j i hj hi h1).2
end Go.Proofs.YtlalcoklkafnnaaGreat

namespace Go.Proofs.YtlalcoklkafnnaaGreat
open Go Go.AW Go.Proofs
set_option maxRecDepth 10000

noncomputable abbrev fRO : Func := Tryz.f94
abbrev roF (l out : List Rn) (i : Int) : List (Nat × AVal) := [(0, .slice 14 (rav l) .no), (3, .slice 14 (rav out) .no), (4, ii i)]
theorem ro_in (l : List Rn) (R : AVal) (x : Rn) (i : Nat) (hi : i < 1048576) (gi : (rav l)[i]? = some x.av) (out : List Rn) (ho : out.length ≤ 1048576)
    (next : ∀ K : Nat, K ≤ out.length → K = insK x out out.length → To (Er [] [70, 71, 72]) fRO (.pure (.ret R)) (.head (stk fRO 0) [(0, .slice 14 (rav l) .no), (3, .slice 14 ((rav out).take K ++ [x.av] ++ (rav out).drop K) .no), (4, ii ((i : Int) + 1))] [])) : ∀ (k : Nat), k ≤ out.length → insK x out out.length = insK x out k →
    To (Er [] [70, 71, 72]) fRO (.pure (.ret R)) (.head (stk fRO 1) (roF l out i ++ [(5, ii k)]) []) := by
  have hlen : (rav out).length = out.length := by simp
  intro k
  induction k with
  | zero =>
    intro hk hK
    have next := next 0 (Nat.zero_le _) (by rw [hK]; rfl)
    have hct : (List.take 0 (rav out)).length = 0 := by simp
    refine goes (hEr [] [70, 71, 72]) 100 ?_
    conv => whnf
    repeat' first | (refine goN (hEr [] [70, 71, 72]) 100 rfl ?_; conv => whnf) | refine Exists.intro 0 (And.intro (by omega) ?_) | refine Exists.intro i (And.intro rfl ?_) | refine Exists.intro _ (And.intro gi ?_) | refine And.intro (And.intro (by simp only [maxLen]; simp; omega) (by simp; omega)) ?_ | refine And.intro (And.intro (by simp [maxLen]) (by simp)) ?_ | exact rfl | refine And.intro (fun _ => ?_) (fun h => absurd (show true = false from h) (by decide)) | refine And.intro (fun h => absurd (show false = true from h) (by decide)) (fun _ => ?_) | refine And.intro (fun h => ?_) (fun h => absurd (of_decide_eq_false h) (by omega)) | refine And.intro (fun h => absurd (of_decide_eq_true h) (by omega)) (fun h => ?_) | refine And.intro (fun h => ?_) (fun h => ?_) | refine Or.inl (And.intro (And.intro (by simp only [kmin]; omega) (by simp only [kmax]; omega)) ?_) | refine Exists.intro _ (And.intro rfl ?_) | refine And.intro (by decide) ?_ | refine And.intro (by omega) ?_ | fail
    refine To.part [0, 3, 4] [] rfl rfl rfl ?_
    exact next
  | succ k ih =>
    intro hk hK
    have gk := getR_lt (xs := out) (i := k) (by omega)
    have hx := laterB_iff (a := x) (b := getR out k)
    have eK : insK x out (k + 1) = if laterB x (getR out k) = true then insK x out k else k + 1 := rfl
    rw [eK] at hK
    have ex : laterB x (getR out k) = false → To (Er [] [70, 71, 72]) fRO (.pure (.ret R)) (.head (stk fRO 0) [(0, .slice 14 (rav l) .no), (3, .slice 14 ((rav out).take (k + 1) ++ [x.av] ++ (rav out).drop (k + 1)) .no), (4, ii ((i : Int) + 1))] []) := fun h => next (k + 1) hk (by rw [hK, if_neg (by rw [h]; decide)])
    have lp : laterB x (getR out k) = true → To (Er [] [70, 71, 72]) fRO (.pure (.ret R)) (.head (stk fRO 1) (roF l out i ++ [(5, ii k)]) []) := fun h => ih (by omega) (by rw [hK, if_pos h])
    generalize getR out k = y at gk hx ex lp
    have hc : ((k + 1 : Nat) : Int) - 1 = ((k : Nat) : Int) := by omega
    by_cases c1 : y.st < x.st
    · have next := lp (hx.2 (.inl c1))
      have q2 : ((0 : Int) == 0) = true := rfl
      refine goes (hEr [] [70, 71, 72]) 100 ?_
      conv => whnf
      repeat' first
        | (refine goN (hEr [] [70, 71, 72]) 100 rfl ?_; conv => whnf)
        | refine Exists.intro (k + 1) (And.intro rfl ?_)
        | refine Exists.intro k (And.intro (by omega) ?_)
        | refine Exists.intro i (And.intro rfl ?_)
        | refine Exists.intro _ (And.intro gi ?_)
        | refine Exists.intro _ (And.intro gk ?_)
        | refine And.intro (And.intro (by simp only [maxLen]; simp; omega) (by simp; omega)) ?_
        | refine And.intro (fun _ => ?_) (fun h => absurd (show true = false from h) (by decide))
        | refine And.intro (fun h => absurd (show false = true from h) (by decide)) (fun _ => ?_)
        | refine And.intro (fun h => ?_) (fun h => absurd (of_decide_eq_false h) (by omega))
        | refine And.intro (fun h => absurd (of_decide_eq_true h) (by omega)) (fun h => ?_)
        | refine And.intro (fun h => ?_) (fun h => absurd h (by rw [q2]; decide))
        | refine And.intro (fun h => absurd h (by rw [q2]; decide)) (fun h => ?_)
        | refine And.intro (And.intro (by simp only [kmin]; omega) (by simp only [kmax]; omega)) ?_
        | refine Or.inl (And.intro (And.intro (by simp only [kmin]; omega) (by simp only [kmax]; omega)) ?_)
        | refine And.intro (by omega) ?_
        | fail
      rw [hc]
      exact To.cut [0, 3, 4, 5] 0 rfl rfl rfl rfl next
    · by_cases c2 : y.st = x.st
      · have q2 : (y.st == x.st) = true := by simp [c2]
        by_cases c3 : y.seq < x.seq
        · have next := lp (hx.2 (.inr ⟨c2, c3⟩))
          refine goes (hEr [] [70, 71, 72]) 100 ?_
          conv => whnf
          repeat' first
            | (refine goN (hEr [] [70, 71, 72]) 100 rfl ?_; conv => whnf)
            | refine Exists.intro (k + 1) (And.intro rfl ?_)
            | refine Exists.intro k (And.intro (by omega) ?_)
            | refine Exists.intro i (And.intro rfl ?_)
            | refine Exists.intro _ (And.intro gi ?_)
            | refine Exists.intro _ (And.intro gk ?_)
            | refine And.intro (And.intro (by simp only [maxLen]; simp; omega) (by simp; omega)) ?_
            | refine And.intro (fun _ => ?_) (fun h => absurd (show true = false from h) (by decide))
            | refine And.intro (fun h => absurd (show false = true from h) (by decide)) (fun _ => ?_)
            | refine And.intro (fun h => ?_) (fun h => absurd (of_decide_eq_false h) (by omega))
            | refine And.intro (fun h => absurd (of_decide_eq_true h) (by omega)) (fun h => ?_)
            | refine And.intro (fun h => ?_) (fun h => absurd h (by rw [q2]; decide))
            | refine And.intro (fun h => absurd h (by rw [q2]; decide)) (fun h => ?_)
            | refine And.intro (And.intro (by simp only [kmin]; omega) (by simp only [kmax]; omega)) ?_
            | refine Or.inl (And.intro (And.intro (by simp only [kmin]; omega) (by simp only [kmax]; omega)) ?_)
            | refine And.intro (by omega) ?_
            | fail
          rw [hc]
          exact To.cut [0, 3, 4, 5] 0 rfl rfl rfl rfl next
        · have next := ex (by cases h : laterB x y with | false => rfl | true => have := hx.1 h; omega)
          refine goes (hEr [] [70, 71, 72]) 100 ?_
          conv => whnf
          repeat' first
            | (refine goN (hEr [] [70, 71, 72]) 100 rfl ?_; conv => whnf)
            | refine Exists.intro (k + 1) (And.intro rfl ?_)
            | refine Exists.intro k (And.intro (by omega) ?_)
            | refine Exists.intro i (And.intro rfl ?_)
            | refine Exists.intro _ (And.intro gi ?_)
            | refine Exists.intro _ (And.intro gk ?_)
            | refine And.intro (And.intro (by simp only [maxLen]; simp; omega) (by simp; omega)) ?_
            | refine And.intro (fun _ => ?_) (fun h => absurd (show true = false from h) (by decide))
            | refine And.intro (fun h => absurd (show false = true from h) (by decide)) (fun _ => ?_)
            | refine And.intro (fun h => ?_) (fun h => absurd (of_decide_eq_false h) (by omega))
            | refine And.intro (fun h => absurd (of_decide_eq_true h) (by omega)) (fun h => ?_)
            | refine And.intro (fun h => ?_) (fun h => absurd h (by rw [q2]; decide))
            | refine And.intro (fun h => absurd h (by rw [q2]; decide)) (fun h => ?_)
            | refine And.intro (And.intro (by simp only [kmin]; omega) (by simp only [kmax]; omega)) ?_
            | refine Or.inl (And.intro (And.intro (by simp only [kmin]; omega) (by simp only [kmax]; omega)) ?_)
            | refine And.intro (by omega) ?_
            | fail
          refine To.part [0, 3, 4] [] rfl rfl rfl ?_
          exact next
      · have q2 : (y.st == x.st) = false := by simp [c2]
        have next := ex (by cases h : laterB x y with | false => rfl | true => have := hx.1 h; omega)
        refine goes (hEr [] [70, 71, 72]) 100 ?_
        conv => whnf
        repeat' first
          | (refine goN (hEr [] [70, 71, 72]) 100 rfl ?_; conv => whnf)
          | refine Exists.intro (k + 1) (And.intro rfl ?_)
          | refine Exists.intro k (And.intro (by omega) ?_)
          | refine Exists.intro i (And.intro rfl ?_)
          | refine Exists.intro _ (And.intro gi ?_)
          | refine Exists.intro _ (And.intro gk ?_)
          | refine And.intro (And.intro (by simp only [maxLen]; simp; omega) (by simp; omega)) ?_
          | refine And.intro (fun _ => ?_) (fun h => absurd (show true = false from h) (by decide))
          | refine And.intro (fun h => absurd (show false = true from h) (by decide)) (fun _ => ?_)
          | refine And.intro (fun h => ?_) (fun h => absurd (of_decide_eq_false h) (by omega))
          | refine And.intro (fun h => absurd (of_decide_eq_true h) (by omega)) (fun h => ?_)
          | refine And.intro (fun h => ?_) (fun h => absurd h (by rw [q2]; decide))
          | refine And.intro (fun h => absurd h (by rw [q2]; decide)) (fun h => ?_)
          | refine And.intro (And.intro (by simp only [kmin]; omega) (by simp only [kmax]; omega)) ?_
          | refine Or.inl (And.intro (And.intro (by simp only [kmin]; omega) (by simp only [kmax]; omega)) ?_)
          | refine And.intro (by omega) ?_
          | fail
        refine To.part [0, 3, 4] [] rfl rfl rfl ?_
        exact next
theorem ro_out (l : List Rn) (hl : l.length ≤ 1000000) (R : List Rn) : ∀ (m i : Nat) (out : List Rn), i + m = l.length → out.length = i → (l.drop i).foldl insE out = R →
    To (Er [] [70, 71, 72]) fRO (.pure (.ret (.slice 14 (rav R) .no))) (.head (stk fRO 0) (roF l out i) []) := by
  have hlen : (rav l).length = l.length := by simp
  intro m
  induction m with
  | zero =>
    intro i out hi ho hR
    rw [List.drop_eq_nil_of_le (by omega)] at hR
    have hR : out = R := hR
    subst hR
    refine goes (hEr [] [70, 71, 72]) 100 ?_
    conv => whnf
    refine And.intro (fun h => absurd (of_decide_eq_true h) (by omega)) (fun h => ?_)
    repeat' first | (refine goN (hEr [] [70, 71, 72]) 100 rfl ?_; conv => whnf) | exact rfl | refine And.intro (fun _ => ?_) (fun h => absurd (show true = false from h) (by decide)) | refine And.intro (fun h => absurd (show false = true from h) (by decide)) (fun _ => ?_) | refine And.intro (fun h => ?_) (fun h => absurd (of_decide_eq_false h) (by omega)) | refine And.intro (fun h => absurd (of_decide_eq_true h) (by omega)) (fun h => ?_) | refine And.intro (fun h => ?_) (fun h => ?_) | refine Or.inl (And.intro (And.intro (by simp only [kmin]; omega) (by simp only [kmax]; omega)) ?_) | refine Exists.intro _ (And.intro rfl ?_) | refine And.intro (by decide) ?_ | refine And.intro (by omega) ?_ | fail
  | succ m ih =>
    intro i out hi ho hR
    have hlt : i < l.length := by omega
    rw [List.drop_eq_getElem_cons hlt, List.foldl_cons] at hR
    have gi : (rav l)[i]? = some l[i].av := rav_get hlt
    generalize l[i] = x at hR gi
    have hol : (rav out).length = out.length := by simp
    have hin := ro_in l (.slice 14 (rav R) .no) x i (by omega) gi out (by omega) (fun K hK1 hK => by
      have e : (rav out).take K ++ [x.av] ++ (rav out).drop K = rav (insE out x) := by unfold insE; rw [← hK]; simp
      rw [e]
      exact ih (i + 1) (insE out x) (by omega) (by have := (insE_perm out x).length_eq; simp at this; omega) hR) out.length (Nat.le_refl _) rfl
    refine goes (hEr [] [70, 71, 72]) 100 ?_
    conv => whnf
    refine And.intro (fun h => ?_) (fun h => absurd (of_decide_eq_false h) (by omega))
    rw [← hol] at hin
    repeat' first | (refine goN (hEr [] [70, 71, 72]) 100 rfl ?_; conv => whnf) | exact rfl | refine And.intro (fun _ => ?_) (fun h => absurd (show true = false from h) (by decide)) | refine And.intro (fun h => absurd (show false = true from h) (by decide)) (fun _ => ?_) | refine And.intro (fun h => ?_) (fun h => absurd (of_decide_eq_false h) (by omega)) | refine And.intro (fun h => absurd (of_decide_eq_true h) (by omega)) (fun h => ?_) | refine And.intro (fun h => ?_) (fun h => ?_) | refine Or.inl (And.intro (And.intro (by simp only [kmin]; omega) (by simp only [kmax]; omega)) ?_) | refine Exists.intro _ (And.intro rfl ?_) | refine And.intro (by decide) ?_ | refine And.intro (by omega) ?_ | fail
    exact To.cut [0, 3, 4, 5] 0 rfl rfl rfl rfl hin
theorem rorder_ok (l : List Rn) (hl : l.length ≤ 1000000) : CallOK Tryz.prog 94 [.slice 14 (rav l) .no] [] (.ret (.slice 14 (rav (rOrd l)) .no)) [] := by
  refine CallOK.to (E := (Er [] [70, 71, 72])) (fn := Tryz.f94) (g := .pure _) (by rfl) (by rfl) (by rfl) (fun _ _ => by rfl) (by decide +kernel) (by rfl) (by rfl) (by rfl) fun _ => ?_
  refine goes (hEr [] [70, 71, 72]) 100 ?_
  conv => whnf
  refine To.part [0, 3, 4] [] rfl rfl rfl ?_
  exact ro_out l hl _ l.length 0 [] (by omega) rfl rfl
end Go.Proofs.YtlalcoklkafnnaaGreat

namespace Go.Proofs.YtlalcoklkafnnaaGreat
open Go Go.AW Go.Proofs
set_option maxRecDepth 10000

theorem rwithin_any (c : Con) (hc : c.sm) (used : List V3) (t : Int) (need : V3) (r : Bool) (hr : withinB c used t need = r) : CallOK Tryz.prog 50 [c.av, .slice 3 (vav used) .no, ii t, need.av] [] (.ret (.bool r)) [] := by
  have hlf := rleaf_ok c hc t
  rw [rlB_eq] at hlf
  unfold withinB at hr
  cases hq : leafB c.ns t with
  | false =>
    rw [hq] at hlf
    rw [if_neg (by rw [hq]; decide)] at hr
    subst hr
    refine CallOK.to (E := E) (fn := Tryz.f50) (g := .pure _) (by rfl) (by rfl) (by rfl) (fun _ _ => by rfl) (by decide +kernel) (by rfl) (by rfl) (by rfl) fun _ => ?_
    repeat' first | (refine goN hE 100 rfl ?_; conv => whnf) | refine .pure _ [] hlf ?_ | exact rfl | refine And.intro (fun _ => ?_) (fun h => absurd (show true = false from h) (by decide)) | refine And.intro (fun h => absurd (show false = true from h) (by decide)) (fun _ => ?_) | refine And.intro (fun h => ?_) (fun h => absurd (of_decide_eq_false h) (by omega)) | refine And.intro (fun h => absurd (of_decide_eq_true h) (by omega)) (fun h => ?_) | refine And.intro (fun h => ?_) (fun h => ?_) | refine Or.inl (And.intro (And.intro (by simp only [kmin]; omega) (by simp only [kmax]; omega)) ?_) | refine Exists.intro _ (And.intro rfl ?_) | refine And.intro (by decide) ?_ | refine And.intro (by omega) ?_ | fail
  | true =>
    rw [hq] at hlf
    rw [if_pos hq] at hr
    have hg := leafB_ok' hq
    have hn : t = (t.toNat : Int) := by omega
    have getn := vnod_get (c := c) hg
    generalize nodAt c.ns t = x at getn hr
    have h1 := rat3_ok used t
    generalize atV used t = q1 at h1 hr
    have h2 := radd_ok q1 need
    generalize vadd q1 need = q2 at h2 hr
    have h3 := rfits_ok q2 x.n
    rw [hr] at h3
    refine CallOK.to (E := E) (fn := Tryz.f50) (g := .pure _) (by rfl) (by rfl) (by rfl) (fun _ _ => by rfl) (by decide +kernel) (by rfl) (by rfl) (by rfl) fun _ => ?_
    repeat' first | (refine goN hE 100 rfl ?_; conv => whnf) | refine .pure _ [] hlf ?_ | refine Exists.intro t.toNat (And.intro hn ?_) | refine Exists.intro _ (And.intro getn ?_) | refine .pure _ [] h1 ?_ | refine .pure _ [] h2 ?_ | refine .pure _ [] h3 ?_ | exact rfl | refine And.intro (fun _ => ?_) (fun h => absurd (show true = false from h) (by decide)) | refine And.intro (fun h => absurd (show false = true from h) (by decide)) (fun _ => ?_) | refine And.intro (fun h => ?_) (fun h => absurd (of_decide_eq_false h) (by omega)) | refine And.intro (fun h => absurd (of_decide_eq_true h) (by omega)) (fun h => ?_) | refine And.intro (fun h => ?_) (fun h => ?_) | refine Or.inl (And.intro (And.intro (by simp only [kmin]; omega) (by simp only [kmax]; omega)) ?_) | refine Exists.intro _ (And.intro rfl ?_) | refine And.intro (by decide) ?_ | refine And.intro (by omega) ?_ | fail
theorem rwithin_ok (c : Con) (hc : c.sm) (used : List V3) (t : Int) (need : V3) : CallOK Tryz.prog 50 [c.av, .slice 3 (vav used) .no, ii t, need.av] [] (.ret (.bool (withinB c used t need))) [] := rwithin_any c hc used t need _ rfl
theorem rborrows_any (c : Con) (hc : c.sm) (used : List V3) (t : Int) (r : Bool) (hr : borrowsB c used t = r) : CallOK Tryz.prog 95 [c.av, .slice 3 (vav used) .no, ii t] [] (.ret (.bool r)) [] := by
  have hlf := rleaf_ok c hc t
  rw [rlB_eq] at hlf
  unfold borrowsB at hr
  cases hq : leafB c.ns t with
  | false =>
    rw [hq] at hlf
    rw [if_neg (by rw [hq]; decide)] at hr
    subst hr
    refine CallOK.to (E := E) (fn := Tryz.f95) (g := .pure _) (by rfl) (by rfl) (by rfl) (fun _ _ => by rfl) (by decide +kernel) (by rfl) (by rfl) (by rfl) fun _ => ?_
    repeat' first | (refine goN hE 100 rfl ?_; conv => whnf) | refine .pure _ [] hlf ?_ | exact rfl | refine And.intro (fun _ => ?_) (fun h => absurd (show true = false from h) (by decide)) | refine And.intro (fun h => absurd (show false = true from h) (by decide)) (fun _ => ?_) | refine And.intro (fun h => ?_) (fun h => absurd (of_decide_eq_false h) (by omega)) | refine And.intro (fun h => absurd (of_decide_eq_true h) (by omega)) (fun h => ?_) | refine And.intro (fun h => ?_) (fun h => ?_) | refine Or.inl (And.intro (And.intro (by simp only [kmin]; omega) (by simp only [kmax]; omega)) ?_) | refine Exists.intro _ (And.intro rfl ?_) | refine And.intro (by decide) ?_ | refine And.intro (by omega) ?_ | fail
  | true =>
    rw [hq] at hlf
    rw [if_pos hq] at hr
    have hg := leafB_ok' hq
    have hn : t = (t.toNat : Int) := by omega
    have getn := vnod_get (c := c) hg
    generalize nodAt c.ns t = x at getn hr
    have h1 := rat3_ok used t
    generalize atV used t = q1 at h1 hr
    have h3 := rfits_ok q1 x.n
    cases hv : vfits q1 x.n with
    | false =>
      rw [hv] at h3 hr
      have hr : true = r := hr
      subst hr
      refine CallOK.to (E := E) (fn := Tryz.f95) (g := .pure _) (by rfl) (by rfl) (by rfl) (fun _ _ => by rfl) (by decide +kernel) (by rfl) (by rfl) (by rfl) fun _ => ?_
      repeat' first | (refine goN hE 100 rfl ?_; conv => whnf) | refine .pure _ [] hlf ?_ | refine Exists.intro t.toNat (And.intro hn ?_) | refine Exists.intro _ (And.intro getn ?_) | refine .pure _ [] h1 ?_ | refine .pure _ [] h3 ?_ | exact rfl | refine And.intro (fun _ => ?_) (fun h => absurd (show true = false from h) (by decide)) | refine And.intro (fun h => absurd (show false = true from h) (by decide)) (fun _ => ?_) | refine And.intro (fun h => ?_) (fun h => absurd (of_decide_eq_false h) (by omega)) | refine And.intro (fun h => absurd (of_decide_eq_true h) (by omega)) (fun h => ?_) | refine And.intro (fun h => ?_) (fun h => ?_) | refine Or.inl (And.intro (And.intro (by simp only [kmin]; omega) (by simp only [kmax]; omega)) ?_) | refine Exists.intro _ (And.intro rfl ?_) | refine And.intro (by decide) ?_ | refine And.intro (by omega) ?_ | fail
    | true =>
      rw [hv] at h3 hr
      have hr : false = r := hr
      subst hr
      refine CallOK.to (E := E) (fn := Tryz.f95) (g := .pure _) (by rfl) (by rfl) (by rfl) (fun _ _ => by rfl) (by decide +kernel) (by rfl) (by rfl) (by rfl) fun _ => ?_
      repeat' first | (refine goN hE 100 rfl ?_; conv => whnf) | refine .pure _ [] hlf ?_ | refine Exists.intro t.toNat (And.intro hn ?_) | refine Exists.intro _ (And.intro getn ?_) | refine .pure _ [] h1 ?_ | refine .pure _ [] h3 ?_ | exact rfl | refine And.intro (fun _ => ?_) (fun h => absurd (show true = false from h) (by decide)) | refine And.intro (fun h => absurd (show false = true from h) (by decide)) (fun _ => ?_) | refine And.intro (fun h => ?_) (fun h => absurd (of_decide_eq_false h) (by omega)) | refine And.intro (fun h => absurd (of_decide_eq_true h) (by omega)) (fun h => ?_) | refine And.intro (fun h => ?_) (fun h => ?_) | refine Or.inl (And.intro (And.intro (by simp only [kmin]; omega) (by simp only [kmax]; omega)) ?_) | refine Exists.intro _ (And.intro rfl ?_) | refine And.intro (by decide) ?_ | refine And.intro (by omega) ?_ | fail
theorem rborrows_ok (c : Con) (hc : c.sm) (used : List V3) (t : Int) : CallOK Tryz.prog 95 [c.av, .slice 3 (vav used) .no, ii t] [] (.ret (.bool (borrowsB c used t))) [] := rborrows_any c hc used t _ rfl
theorem rfits21_any (c : Con) (hc : c.sm) (l : List Rn) (hs : Sm l) (g : Gan) (hg : 0 ≤ g.pods ∧ g.pods ≤ 16) (hv : validB g.need = true) (ids : List Int) (hd : ids.length ≤ 1048576) (r : Bool) (hr : fitW c l g ids = r) :
    CallOK Tryz.prog 52 [c.av, .slice 14 (rav l) .no, g.av, .slice 1 (iv ids) .no] [] (.ret (.bool r)) [] := by
  have hw := rwithout_ok l hs ids hd
  have hf := r19fits_ok c hc (withoutL l ids) (without_sm hs ids) g hg hv
  unfold fitW at hr
  generalize withoutL l ids = left at hw hf hr
  generalize fitsL c left g = Q at hf hr
  subst hr
  unfold fdA at hf
  cases Q with
  | none =>
    refine CallOK.to (E := E) (fn := Tryz.f52) (g := .pure _) (by rfl) (by rfl) (by rfl) (fun _ _ => by rfl) (by decide +kernel) (by rfl) (by rfl) (by rfl) fun _ => ?_
    repeat' first | (refine goN hE 100 rfl ?_; conv => whnf) | refine .pure _ [] hw ?_ | refine .pure _ [] hf ?_ | exact rfl | refine And.intro (fun _ => ?_) (fun h => absurd (show true = false from h) (by decide)) | refine And.intro (fun h => absurd (show false = true from h) (by decide)) (fun _ => ?_) | refine And.intro (fun h => ?_) (fun h => absurd (of_decide_eq_false h) (by omega)) | refine And.intro (fun h => absurd (of_decide_eq_true h) (by omega)) (fun h => ?_) | refine And.intro (fun h => ?_) (fun h => ?_) | refine Or.inl (And.intro (And.intro (by simp only [kmin]; omega) (by simp only [kmax]; omega)) ?_) | refine Exists.intro _ (And.intro rfl ?_) | refine And.intro (by decide) ?_ | refine And.intro (by omega) ?_ | fail
  | some x =>
    refine CallOK.to (E := E) (fn := Tryz.f52) (g := .pure _) (by rfl) (by rfl) (by rfl) (fun _ _ => by rfl) (by decide +kernel) (by rfl) (by rfl) (by rfl) fun _ => ?_
    repeat' first | (refine goN hE 100 rfl ?_; conv => whnf) | refine .pure _ [] hw ?_ | refine .pure _ [] hf ?_ | exact rfl | refine And.intro (fun _ => ?_) (fun h => absurd (show true = false from h) (by decide)) | refine And.intro (fun h => absurd (show false = true from h) (by decide)) (fun _ => ?_) | refine And.intro (fun h => ?_) (fun h => absurd (of_decide_eq_false h) (by omega)) | refine And.intro (fun h => absurd (of_decide_eq_true h) (by omega)) (fun h => ?_) | refine And.intro (fun h => ?_) (fun h => ?_) | refine Or.inl (And.intro (And.intro (by simp only [kmin]; omega) (by simp only [kmax]; omega)) ?_) | refine Exists.intro _ (And.intro rfl ?_) | refine And.intro (by decide) ?_ | refine And.intro (by omega) ?_ | fail
def nxA : Option Int → Int
  | some n => n
  | none => 0
noncomputable abbrev fNx : Func := Tryz.f53
theorem rnext_loop (c : Con) (hc : c.sm) (used : List V3) (o : List Rn) (ho : o.length ≤ 1048576) (r : Int) : ∀ (m i : Nat), i + m = o.length → (if findR (fun x => borrowsB c used x.g.ten) (o.drop i) i < 0 then 0 else (getR o (findR (fun x => borrowsB c used x.g.ten) (o.drop i) i).toNat).g.id) = r →
    To E fNx (.pure (.ret (ii r))) (.head (stk fNx 0) [(3, .ref 0 0), (8, .slice 3 (vav used) .no), (9, .slice 14 (rav o) .no), (10, ii i)] [.cells 25 c.cs]) := by
  have hlen : (rav o).length = o.length := by simp
  intro m
  induction m with
  | zero =>
    intro i hi hr
    rw [List.drop_eq_nil_of_le (by omega)] at hr
    have hr : 0 = r := hr
    subst hr
    refine goes hE 100 ?_
    conv => whnf
    refine And.intro (fun h => absurd (of_decide_eq_true h) (by omega)) (fun h => ?_)
    repeat' first | (refine goN hE 100 rfl ?_; conv => whnf) | exact rfl | refine And.intro (fun _ => ?_) (fun h => absurd (show true = false from h) (by decide)) | refine And.intro (fun h => absurd (show false = true from h) (by decide)) (fun _ => ?_) | refine And.intro (fun h => ?_) (fun h => absurd (of_decide_eq_false h) (by omega)) | refine And.intro (fun h => absurd (of_decide_eq_true h) (by omega)) (fun h => ?_) | refine And.intro (fun h => ?_) (fun h => ?_) | refine Or.inl (And.intro (And.intro (by simp only [kmin]; omega) (by simp only [kmax]; omega)) ?_) | refine Exists.intro _ (And.intro rfl ?_) | refine And.intro (by decide) ?_ | refine And.intro (by omega) ?_ | fail
  | succ m ih =>
    intro i hi hr
    have hlt : i < o.length := by omega
    have gi := getR_lt hlt
    have hgi : getR o i = o[i] := by unfold getR; rw [List.getElem?_eq_getElem hlt]; rfl
    rw [List.drop_eq_getElem_cons hlt, ← hgi] at hr
    have hb := rborrows_ok c hc used (getR o i).g.ten
    have ih := ih (i + 1) (by omega)
    have ef : findR (fun x => borrowsB c used x.g.ten) (getR o i :: o.drop (i + 1)) i = if borrowsB c used (getR o i).g.ten = true then (i : Int) else findR (fun x => borrowsB c used x.g.ten) (o.drop (i + 1)) (i + 1) := rfl
    rw [ef] at hr
    cases hq : borrowsB c used (getR o i).g.ten with
    | true =>
      rw [hq] at hb hr
      rw [if_pos rfl, if_neg (by omega), Int.toNat_natCast] at hr
      subst hr
      generalize getR o i = x at gi hb
      refine goes hE 100 ?_
      conv => whnf
      refine And.intro (fun h => ?_) (fun h => absurd (of_decide_eq_false h) (by omega))
      repeat' first | (refine goN hE 100 rfl ?_; conv => whnf) | refine Exists.intro i (And.intro rfl ?_) | refine Exists.intro _ (And.intro gi ?_) | refine .pure _ [] hb ?_ | exact rfl | refine And.intro (fun _ => ?_) (fun h => absurd (show true = false from h) (by decide)) | refine And.intro (fun h => absurd (show false = true from h) (by decide)) (fun _ => ?_) | refine And.intro (fun h => ?_) (fun h => absurd (of_decide_eq_false h) (by omega)) | refine And.intro (fun h => absurd (of_decide_eq_true h) (by omega)) (fun h => ?_) | refine And.intro (fun h => ?_) (fun h => ?_) | refine Or.inl (And.intro (And.intro (by simp only [kmin]; omega) (by simp only [kmax]; omega)) ?_) | refine Exists.intro _ (And.intro rfl ?_) | refine And.intro (by decide) ?_ | refine And.intro (by omega) ?_ | fail
    | false =>
      rw [hq] at hb hr
      simp only [Bool.false_eq_true, if_false] at hr
      have next := ih hr
      generalize getR o i = x at gi hb
      refine goes hE 100 ?_
      conv => whnf
      refine And.intro (fun h => ?_) (fun h => absurd (of_decide_eq_false h) (by omega))
      repeat' first | (refine goN hE 100 rfl ?_; conv => whnf) | refine Exists.intro i (And.intro rfl ?_) | refine Exists.intro _ (And.intro gi ?_) | refine .pure _ [] hb ?_ | exact rfl | refine And.intro (fun _ => ?_) (fun h => absurd (show true = false from h) (by decide)) | refine And.intro (fun h => absurd (show false = true from h) (by decide)) (fun _ => ?_) | refine And.intro (fun h => ?_) (fun h => absurd (of_decide_eq_false h) (by omega)) | refine And.intro (fun h => absurd (of_decide_eq_true h) (by omega)) (fun h => ?_) | refine And.intro (fun h => ?_) (fun h => ?_) | refine Or.inl (And.intro (And.intro (by simp only [kmin]; omega) (by simp only [kmax]; omega)) ?_) | refine Exists.intro _ (And.intro rfl ?_) | refine And.intro (by decide) ?_ | refine And.intro (by omega) ?_ | fail
      exact To.cut [3, 8, 9, 10] 1 rfl rfl rfl rfl next
theorem without_once {l : List Rn} (ho : OnceP l) (ids : List Int) : OnceP (withoutL l ids) := ho.sublist List.filter_sublist
theorem rnext_ok (c : Con) (hc : c.sm) (l : List Rn) (hs : Sm l) (hl : l.length ≤ 1000000) (ho : OnceP l) (ids : List Int) (hd : ids.length ≤ 1048576) : CallOK Tryz.prog 53 [c.av, .slice 14 (rav l) .no, .slice 1 (iv ids) .no] [] (.ret (ii (nxA (nextI c l ids)))) [] := by
  have hw := rwithout_ok l hs ids hd
  have hsl := without_sm hs ids
  have hwl : (withoutL l ids).length ≤ l.length := List.length_filter_le _ _
  have hof := rof_ok c hc (withoutL l ids) hsl.1
  have hor := rorder_ok (withoutL l ids) (by omega)
  have hn : nxA (nextI c l ids) = if findR (fun x => borrowsB c (ofL c (withoutL l ids)) x.g.ten) (rOrd (withoutL l ids)) 0 < 0 then 0 else (getR (rOrd (withoutL l ids)) (findR (fun x => borrowsB c (ofL c (withoutL l ids)) x.g.ten) (rOrd (withoutL l ids)) 0).toNat).g.id := by
    rw [← order_eq (without_once ho ids)]
    unfold nextI
    have e : atI c l ids = findR (fun x => borrowsB c (ofL c (withoutL l ids)) x.g.ten) (orderL (withoutL l ids)) 0 := rfl
    rw [← e]
    split
    · rfl
    · rfl
  have hol : (rOrd (withoutL l ids)).length ≤ 1048576 := by
    rw [← order_eq (without_once ho ids), orderL_len]
    exact hsl.1
  rw [hn]
  generalize ofL c (withoutL l ids) = us at hof
  generalize rOrd (withoutL l ids) = o at hor hol
  generalize withoutL l ids = left at hw hof hor
  refine CallOK.to (E := E) (fn := Tryz.f53) (g := .pure _) (by rfl) (by rfl) (by rfl) (fun _ _ => by rfl) (by decide +kernel) (by rfl) (by rfl) (by rfl) fun _ => ?_
  repeat' first | (refine goN hE 100 rfl ?_; conv => whnf) | refine .pure _ [] hw ?_ | refine .pure _ [] hof ?_ | refine .pure _ [] hor ?_ | exact rfl | refine And.intro (fun _ => ?_) (fun h => absurd (show true = false from h) (by decide)) | refine And.intro (fun h => absurd (show false = true from h) (by decide)) (fun _ => ?_) | refine And.intro (fun h => ?_) (fun h => absurd (of_decide_eq_false h) (by omega)) | refine And.intro (fun h => absurd (of_decide_eq_true h) (by omega)) (fun h => ?_) | refine And.intro (fun h => ?_) (fun h => ?_) | refine Or.inl (And.intro (And.intro (by simp only [kmin]; omega) (by simp only [kmax]; omega)) ?_) | refine Exists.intro _ (And.intro rfl ?_) | refine And.intro (by decide) ?_ | refine And.intro (by omega) ?_ | fail
  exact To.cut [3, 8, 9, 10] 1 rfl rfl rfl rfl (rnext_loop c hc us o hol _ o.length 0 (by omega) rfl)

/- ---------- Choose ---------- -/
noncomputable abbrev fRC : Func := Tryz.f14
abbrev rcO (c : Con) (g : Gan) : List AObj := [.cells 25 c.cs, .cells 34 g.cs]
abbrev rcF (l : List Rn) (ids : List Int) : List (Nat × AVal) := [(1, .slice 14 (rav l) .no), (3, .ref 0 0), (5, .ref 1 0), (8, .slice 1 (iv ids) .no)]
abbrev rcF2 (l : List Rn) (ids all : List Int) (i : Int) : List (Nat × AVal) := rcF l ids ++ [(10, .slice 1 (iv all) .no), (11, ii i)]
theorem rc_in (c : Con) (g : Gan) (l : List Rn) (G : AVal) (ids all : List Int) (hd : ids.length ≤ 1048576) (i : Nat) (hi : i < 1048576) (a : Int) (gi : (iv all)[i]? = some (ii a)) (R : List Int)
    (next : To (Eo [8, 12] []) fRC (.pure (.ret G)) (.head (stk fRC 2) (rcF2 l ids all i ++ [(12, .slice 1 (iv R) (.own 2 0)), (13, ii (ids.length : Nat))]) (rcO c g ++ [.tail 0 1 3]))) : ∀ (m k : Nat) (acc : List Int), k + m = ids.length → acc.length ≤ k → acc ++ lessL (ids.drop k) a = R →
    To (Eo [8, 12] []) fRC (.pure (.ret G)) (.head (stk fRC 2) (rcF2 l ids all i ++ [(12, .slice 1 (iv acc) (.own 2 0)), (13, ii k)]) (rcO c g ++ [.tail 0 1 3])) := by
  have hlen : (iv ids).length = ids.length := by simp
  intro m
  induction m with
  | zero =>
    intro k acc hk ha hR
    rw [List.drop_eq_nil_of_le (by omega)] at hR
    have hR : acc ++ [] = R := hR
    rw [List.append_nil] at hR
    subst hR
    have hk : k = ids.length := by omega
    subst hk
    exact next
  | succ m ih =>
    intro k acc hk ha hR
    have hlt : k < ids.length := by omega
    rw [List.drop_eq_getElem_cons hlt] at hR
    have gk := iv_get hlt
    generalize ids[k] = x at hR gk
    have hla : (iv acc).length = acc.length := by simp
    unfold lessL at hR
    rw [List.filter_cons] at hR
    have hb : (x != a) = !(x == a) := rfl
    cases hq : (x == a) with
    | true =>
      rw [hq] at hb hR
      have q2 : (x != a) = false := hb
      have nx := ih (k + 1) acc (by omega) (by omega) hR
      refine goes (hEo [8, 12] []) 100 ?_
      conv => whnf
      refine And.intro (fun h => ?_) (fun h => absurd (of_decide_eq_false h) (by omega))
      repeat' first | (refine goN (hEo [8, 12] []) 100 rfl ?_; conv => whnf) | refine Exists.intro k (And.intro rfl ?_) | refine Exists.intro i (And.intro rfl ?_) | refine Exists.intro _ (And.intro gk ?_) | refine Exists.intro _ (And.intro gi ?_) | refine And.intro (fun h => absurd h (by rw [q2]; decide)) (fun h => ?_) | exact rfl | refine And.intro (fun _ => ?_) (fun h => absurd (show true = false from h) (by decide)) | refine And.intro (fun h => absurd (show false = true from h) (by decide)) (fun _ => ?_) | refine And.intro (fun h => ?_) (fun h => absurd (of_decide_eq_false h) (by omega)) | refine And.intro (fun h => absurd (of_decide_eq_true h) (by omega)) (fun h => ?_) | refine And.intro (fun h => ?_) (fun h => ?_) | refine Or.inl (And.intro (And.intro (by simp only [kmin]; omega) (by simp only [kmax]; omega)) ?_) | refine Exists.intro _ (And.intro rfl ?_) | refine And.intro (by decide) ?_ | refine And.intro (by omega) ?_ | fail
      refine To.part [1, 3, 5, 8, 10, 11, 12, 13] [0, 1, 2] rfl rfl rfl ?_
      exact nx
    | false =>
      rw [hq] at hb hR
      have q2 : (x != a) = true := hb
      have nx := ih (k + 1) (acc ++ [x]) (by omega) (by simp; omega) (by rw [List.append_assoc]; exact hR)
      have e : iv (acc ++ [x]) = iv acc ++ [ii x] := by simp
      rw [e] at nx
      refine goes (hEo [8, 12] []) 100 ?_
      conv => whnf
      refine And.intro (fun h => ?_) (fun h => absurd (of_decide_eq_false h) (by omega))
      repeat' first | (refine goN (hEo [8, 12] []) 100 rfl ?_; conv => whnf) | refine Exists.intro k (And.intro rfl ?_) | refine Exists.intro i (And.intro rfl ?_) | refine Exists.intro _ (And.intro gk ?_) | refine Exists.intro _ (And.intro gi ?_) | refine And.intro (fun h => ?_) (fun h => absurd h (by rw [q2]; decide)) | refine And.intro (And.intro (by simp only [maxLen]; simp; omega) (by simp; omega)) ?_ | exact rfl | refine And.intro (fun _ => ?_) (fun h => absurd (show true = false from h) (by decide)) | refine And.intro (fun h => absurd (show false = true from h) (by decide)) (fun _ => ?_) | refine And.intro (fun h => ?_) (fun h => absurd (of_decide_eq_false h) (by omega)) | refine And.intro (fun h => absurd (of_decide_eq_true h) (by omega)) (fun h => ?_) | refine And.intro (fun h => ?_) (fun h => ?_) | refine Or.inl (And.intro (And.intro (by simp only [kmin]; omega) (by simp only [kmax]; omega)) ?_) | refine Exists.intro _ (And.intro rfl ?_) | refine And.intro (by decide) ?_ | refine And.intro (by omega) ?_ | fail
      refine To.part [1, 3, 5, 8, 10, 11, 12, 13] [0, 1, 2] rfl rfl rfl ?_
      exact nx
theorem rc_b (c : Con) (hc : c.sm) (l : List Rn) (hs : Sm l) (g : Gan) (hg : 0 ≤ g.pods ∧ g.pods ≤ 16) (hv : validB g.need = true) (all : List Int) (ha : all.length ≤ 1048576) (R : List Int) : ∀ (m i : Nat) (ids : List Int), i + m = all.length → ids.length ≤ 1048576 → (all.drop i).foldl (chS c l g) ids = R →
    To (Eo [8, 12] []) fRC (.pure (.ret (.tup [.slice 1 (iv R) .no, .bool true]))) (.head (stk fRC 1) (rcF2 l ids all i) (rcO c g)) := by
  have hlen : (iv all).length = all.length := by simp
  intro m
  induction m with
  | zero =>
    intro i ids hi hd hR
    rw [List.drop_eq_nil_of_le (by omega)] at hR
    have hR : ids = R := hR
    subst hR
    refine goes (hEo [8, 12] []) 100 ?_
    conv => whnf
    refine And.intro (fun h => absurd (of_decide_eq_true h) (by omega)) (fun h => ?_)
    repeat' first | (refine goN (hEo [8, 12] []) 100 rfl ?_; conv => whnf) | exact rfl | refine And.intro (fun _ => ?_) (fun h => absurd (show true = false from h) (by decide)) | refine And.intro (fun h => absurd (show false = true from h) (by decide)) (fun _ => ?_) | refine And.intro (fun h => ?_) (fun h => absurd (of_decide_eq_false h) (by omega)) | refine And.intro (fun h => absurd (of_decide_eq_true h) (by omega)) (fun h => ?_) | refine And.intro (fun h => ?_) (fun h => ?_) | refine Or.inl (And.intro (And.intro (by simp only [kmin]; omega) (by simp only [kmax]; omega)) ?_) | refine Exists.intro _ (And.intro rfl ?_) | refine And.intro (by decide) ?_ | refine And.intro (by omega) ?_ | fail
  | succ m ih =>
    intro i ids hi hd hR
    have hlt : i < all.length := by omega
    rw [List.drop_eq_getElem_cons hlt, List.foldl_cons] at hR
    have gi := iv_get hlt
    generalize all[i] = a at hR gi
    have ih := ih (i + 1)
    have hll := lessL_len ids a
    have hil : (iv ids).length = ids.length := by simp
    have h1 := rfits21_any c hc l hs g hg hv (lessL ids a) (by omega) _ rfl
    have ech : chS c l g ids a = if fitW c l g (lessL ids a) = true then lessL ids a else ids := rfl
    rw [ech] at hR
    have fin : To (Eo [8, 12] []) fRC (.pure (.ret (.tup [.slice 1 (iv R) .no, .bool true]))) (.head (stk fRC 2) (rcF2 l ids all i ++ [(12, .slice 1 (iv (lessL ids a)) (.own 2 0)), (13, ii (ids.length : Nat))]) (rcO c g ++ [.tail 0 1 3])) := by
      cases hf : fitW c l g (lessL ids a) with
      | true =>
        rw [if_pos hf] at hR
        rw [hf] at h1
        have next := ih (lessL ids a) (by omega) (by omega) hR
        refine goes (hEo [8, 12] []) 100 ?_
        conv => whnf
        refine And.intro (fun h => absurd (of_decide_eq_true h) (by omega)) (fun h => ?_)
        repeat' first | (refine goN (hEo [8, 12] []) 100 rfl ?_; conv => whnf) | refine .pure _ [] (CallOK.strip h1) ?_ | exact rfl | refine And.intro (fun _ => ?_) (fun h => absurd (show true = false from h) (by decide)) | refine And.intro (fun h => absurd (show false = true from h) (by decide)) (fun _ => ?_) | refine And.intro (fun h => ?_) (fun h => absurd (of_decide_eq_false h) (by omega)) | refine And.intro (fun h => absurd (of_decide_eq_true h) (by omega)) (fun h => ?_) | refine And.intro (fun h => ?_) (fun h => ?_) | refine Or.inl (And.intro (And.intro (by simp only [kmin]; omega) (by simp only [kmax]; omega)) ?_) | refine Exists.intro _ (And.intro rfl ?_) | refine And.intro (by decide) ?_ | refine And.intro (by omega) ?_ | fail
        refine To.part [1, 3, 5, 8, 10, 11] [0, 1] rfl rfl rfl ?_
        exact next
      | false =>
        rw [if_neg (by rw [hf]; decide)] at hR
        rw [hf] at h1
        have next := ih ids (by omega) hd hR
        refine goes (hEo [8, 12] []) 100 ?_
        conv => whnf
        refine And.intro (fun h => absurd (of_decide_eq_true h) (by omega)) (fun h => ?_)
        repeat' first | (refine goN (hEo [8, 12] []) 100 rfl ?_; conv => whnf) | refine .pure _ [] (CallOK.strip h1) ?_ | exact rfl | refine And.intro (fun _ => ?_) (fun h => absurd (show true = false from h) (by decide)) | refine And.intro (fun h => absurd (show false = true from h) (by decide)) (fun _ => ?_) | refine And.intro (fun h => ?_) (fun h => absurd (of_decide_eq_false h) (by omega)) | refine And.intro (fun h => absurd (of_decide_eq_true h) (by omega)) (fun h => ?_) | refine And.intro (fun h => ?_) (fun h => ?_) | refine Or.inl (And.intro (And.intro (by simp only [kmin]; omega) (by simp only [kmax]; omega)) ?_) | refine Exists.intro _ (And.intro rfl ?_) | refine And.intro (by decide) ?_ | refine And.intro (by omega) ?_ | fail
        refine To.part [1, 3, 5, 8, 10, 11] [0, 1] rfl rfl rfl ?_
        exact next
    have hin := rc_in c g l _ ids all hd i (by omega) a gi (lessL ids a) fin ids.length 0 [] (by omega) (by simp) rfl
    refine goes (hEo [8, 12] []) 100 ?_
    conv => whnf
    refine And.intro (fun h => ?_) (fun h => absurd (of_decide_eq_false h) (by omega))
    repeat' first | (refine goN (hEo [8, 12] []) 100 rfl ?_; conv => whnf) | exact rfl | refine And.intro (fun _ => ?_) (fun h => absurd (show true = false from h) (by decide)) | refine And.intro (fun h => absurd (show false = true from h) (by decide)) (fun _ => ?_) | refine And.intro (fun h => ?_) (fun h => absurd (of_decide_eq_false h) (by omega)) | refine And.intro (fun h => absurd (of_decide_eq_true h) (by omega)) (fun h => ?_) | refine And.intro (fun h => ?_) (fun h => ?_) | refine Or.inl (And.intro (And.intro (by simp only [kmin]; omega) (by simp only [kmax]; omega)) ?_) | refine Exists.intro _ (And.intro rfl ?_) | refine And.intro (by decide) ?_ | refine And.intro (by omega) ?_ | fail
    refine To.part [1, 3, 5, 8, 10, 11, 12, 13] [0, 1, 2] rfl rfl rfl ?_
    exact hin
theorem rc_a (c : Con) (hc : c.sm) (l : List Rn) (hs : Sm l) (hl : l.length ≤ 1000000) (ho : OnceP l) (hpos : ∀ x ∈ l, x.g.id ≠ 0) (g : Gan) (hg : 0 ≤ g.pods ∧ g.pods ≤ 16) (hv : validB g.need = true) (R : Option (List Int)) : ∀ (f : Nat) (ids : List Int), (withoutL l ids).length < f → ids.length + (withoutL l ids).length ≤ l.length → chB c l g (chA c l g f ids) = R →
    To (Eo [8, 12] []) fRC (.pure (.ret (chR R))) (.head (stk fRC 0) (rcF l ids) (rcO c g)) := by
  intro f
  induction f with
  | zero => intro ids h; omega
  | succ f ih =>
    intro ids hf hn hR
    have hil : (iv ids).length = ids.length := by simp
    have h1 := rfits21_any c hc l hs g hg hv ids (by omega) _ rfl
    have h2 := rnext_ok c hc l hs hl ho ids (by omega)
    unfold chA at hR
    cases hq : fitW c l g ids with
    | true =>
      rw [if_pos hq] at hR
      rw [hq] at h1
      have hR : some (ids.foldl (chS c l g) ids) = R := hR
      subst hR
      have next := rc_b c hc l hs g hg hv ids (by omega) _ ids.length 0 ids (by omega) (by omega) rfl
      refine goes (hEo [8, 12] []) 100 ?_
      conv => whnf
      repeat' first | (refine goN (hEo [8, 12] []) 100 rfl ?_; conv => whnf) | refine .pure _ [] h1 ?_ | exact rfl | refine And.intro (fun _ => ?_) (fun h => absurd (show true = false from h) (by decide)) | refine And.intro (fun h => absurd (show false = true from h) (by decide)) (fun _ => ?_) | refine And.intro (fun h => ?_) (fun h => absurd (of_decide_eq_false h) (by omega)) | refine And.intro (fun h => absurd (of_decide_eq_true h) (by omega)) (fun h => ?_) | refine And.intro (fun h => ?_) (fun h => ?_) | refine Or.inl (And.intro (And.intro (by simp only [kmin]; omega) (by simp only [kmax]; omega)) ?_) | refine Exists.intro _ (And.intro rfl ?_) | refine And.intro (by decide) ?_ | refine And.intro (by omega) ?_ | fail
      refine To.part [1, 3, 5, 8, 10, 11] [0, 1] rfl rfl rfl ?_
      exact next
    | false =>
      rw [if_neg (by rw [hq]; decide)] at hR
      rw [hq] at h1
      have hmem := fun n => nextI_mem (c := c) (l := l) (ids := ids) (n := n)
      cases hx : nextI c l ids with
      | none =>
        rw [hx] at hR h2
        have hR : none = R := hR
        subst hR
        have h2 : CallOK Tryz.prog 53 [c.av, .slice 14 (rav l) .no, .slice 1 (iv ids) .no] [] (.ret (ii 0)) [] := h2
        refine goes (hEo [8, 12] []) 100 ?_
        conv => whnf
        repeat' first | (refine goN (hEo [8, 12] []) 100 rfl ?_; conv => whnf) | refine .pure _ [] h1 ?_ | refine .pure _ [] h2 ?_ | exact rfl | refine And.intro (fun _ => ?_) (fun h => absurd (show true = false from h) (by decide)) | refine And.intro (fun h => absurd (show false = true from h) (by decide)) (fun _ => ?_) | refine And.intro (fun h => ?_) (fun h => absurd (of_decide_eq_false h) (by omega)) | refine And.intro (fun h => absurd (of_decide_eq_true h) (by omega)) (fun h => ?_) | refine And.intro (fun h => ?_) (fun h => ?_) | refine Or.inl (And.intro (And.intro (by simp only [kmin]; omega) (by simp only [kmax]; omega)) ?_) | refine Exists.intro _ (And.intro rfl ?_) | refine And.intro (by decide) ?_ | refine And.intro (by omega) ?_ | fail
      | some n =>
        obtain ⟨y, hy1, hy2, _⟩ := hmem n hx
        have hlt := without_less ⟨y, hy1, hy2⟩
        have hn0 : n ≠ 0 := by rw [← hy2]; exact hpos y (without_mem.1 hy1).1
        rw [hx] at hR h2
        have h2 : CallOK Tryz.prog 53 [c.av, .slice 14 (rav l) .no, .slice 1 (iv ids) .no] [] (.ret (ii n)) [] := h2
        have next := ih (ids ++ [n]) (by omega) (by simp; omega) hR
        have e : iv (ids ++ [n]) = iv ids ++ [ii n] := by simp
        unfold rcF at next
        rw [e] at next
        have q2 : (n == 0) = false := by simp [hn0]
        refine goes (hEo [8, 12] []) 100 ?_
        conv => whnf
        repeat' first | (refine goN (hEo [8, 12] []) 100 rfl ?_; conv => whnf) | refine .pure _ [] h1 ?_ | refine .pure _ [] h2 ?_ | refine And.intro (fun h => absurd h (by rw [q2]; decide)) (fun h => ?_) | refine And.intro (And.intro (by simp only [maxLen]; simp; omega) (by simp; omega)) ?_ | exact rfl | refine And.intro (fun _ => ?_) (fun h => absurd (show true = false from h) (by decide)) | refine And.intro (fun h => absurd (show false = true from h) (by decide)) (fun _ => ?_) | refine And.intro (fun h => ?_) (fun h => absurd (of_decide_eq_false h) (by omega)) | refine And.intro (fun h => absurd (of_decide_eq_true h) (by omega)) (fun h => ?_) | refine And.intro (fun h => ?_) (fun h => ?_) | refine Or.inl (And.intro (And.intro (by simp only [kmin]; omega) (by simp only [kmax]; omega)) ?_) | refine Exists.intro _ (And.intro rfl ?_) | refine And.intro (by decide) ?_ | refine And.intro (by omega) ?_ | fail
        refine To.part [1, 3, 5, 8] [0, 1] rfl rfl rfl ?_
        exact next
theorem rchoose_any (c : Con) (hc : c.sm) (l : List Rn) (hs : Sm l) (hl : l.length ≤ 1000000) (ho : OnceP l) (hpos : ∀ x ∈ l, x.g.id ≠ 0) (g : Gan) (hg : 0 ≤ g.pods ∧ g.pods ≤ 16) (hv : validB g.need = true) (R : Option (List Int)) (hR : chooseL c l g = R) : CallOK Tryz.prog 14 [c.av, .slice 14 (rav l) .no, g.av] [] (.ret (chR R)) [] := by
  have hof := rof_ok c hc l hs.1
  have hd := rdem_ok g
  have hw := rwithin_ok c hc (ofL c l) g.ten (dem g)
  unfold chooseL at hR
  cases hq : withinB c (ofL c l) g.ten (dem g) with
  | false =>
    rw [if_neg (by rw [hq]; decide)] at hR
    rw [hq] at hw
    subst hR
    refine CallOK.to (E := (Eo [8, 12] [])) (fn := Tryz.f14) (g := .pure _) (by rfl) (by rfl) (by rfl) (fun _ _ => by rfl) (by decide +kernel) (by rfl) (by rfl) (by rfl) fun _ => ?_
    repeat' first | (refine goN (hEo [8, 12] []) 100 rfl ?_; conv => whnf) | refine .pure _ [] hof ?_ | refine .pure _ [] hd ?_ | refine .pure _ [] hw ?_ | exact rfl | refine And.intro (fun _ => ?_) (fun h => absurd (show true = false from h) (by decide)) | refine And.intro (fun h => absurd (show false = true from h) (by decide)) (fun _ => ?_) | refine And.intro (fun h => ?_) (fun h => absurd (of_decide_eq_false h) (by omega)) | refine And.intro (fun h => absurd (of_decide_eq_true h) (by omega)) (fun h => ?_) | refine And.intro (fun h => ?_) (fun h => ?_) | refine Or.inl (And.intro (And.intro (by simp only [kmin]; omega) (by simp only [kmax]; omega)) ?_) | refine Exists.intro _ (And.intro rfl ?_) | refine And.intro (by decide) ?_ | refine And.intro (by omega) ?_ | fail
  | true =>
    rw [if_pos hq] at hR
    rw [hq] at hw
    have next := rc_a c hc l hs hl ho hpos g hg hv R (l.length + 1) [] (by rw [without_nil]; omega) (by rw [without_nil]; simp) (by rw [← hR]; unfold chB; split <;> rfl)
    refine CallOK.to (E := (Eo [8, 12] [])) (fn := Tryz.f14) (g := .pure _) (by rfl) (by rfl) (by rfl) (fun _ _ => by rfl) (by decide +kernel) (by rfl) (by rfl) (by rfl) fun _ => ?_
    repeat' first | (refine goN (hEo [8, 12] []) 100 rfl ?_; conv => whnf) | refine .pure _ [] hof ?_ | refine .pure _ [] hd ?_ | refine .pure _ [] hw ?_ | exact rfl | refine And.intro (fun _ => ?_) (fun h => absurd (show true = false from h) (by decide)) | refine And.intro (fun h => absurd (show false = true from h) (by decide)) (fun _ => ?_) | refine And.intro (fun h => ?_) (fun h => absurd (of_decide_eq_false h) (by omega)) | refine And.intro (fun h => absurd (of_decide_eq_true h) (by omega)) (fun h => ?_) | refine And.intro (fun h => ?_) (fun h => ?_) | refine Or.inl (And.intro (And.intro (by simp only [kmin]; omega) (by simp only [kmax]; omega)) ?_) | refine Exists.intro _ (And.intro rfl ?_) | refine And.intro (by decide) ?_ | refine And.intro (by omega) ?_ | fail
    refine To.part [1, 3, 5, 8] [0, 1] rfl rfl rfl ?_
    exact next
theorem few_ids {c : Con} {now : Int} {l : List Rn} (h : fewI c now l = 1) : ∀ x ∈ l, x.g.id ≠ 0 := by
  intro x hx
  unfold fewI at h
  split at h
  · cases h
  · split at h
    · rename_i hb
      have := List.all_eq_true.1 hb x hx
      unfold runX at this
      split at this
      · cases this
      · rename_i hr
        unfold badR at hr
        have hg : gangI c.ns x.g ≠ 0 := fun e => hr (.inl e)
        unfold gangI at hg
        split at hg
        · rename_i hb
          unfold gangB at hb
          simp only [Bool.and_eq_true, decide_eq_true_eq] at hb
          omega
        · exact absurd rfl hg
    · cases h
theorem chA_len {c : Con} {l : List Rn} {g : Gan} {R : List Int} (ho : OnceP l) (h : chooseL c l g = some R) : R.length ≤ l.length := by
  obtain ⟨_, w2, w3, _⟩ := choose_spec h
  have := without_len ho w2 fun n hn => by
    obtain ⟨_, x, h1, h2, _⟩ := w3 n hn
    exact ⟨x, h1, h2⟩
  omega
theorem vchosen_ok (c : Con) (hc : c.sm) (now k : Int) (ws : List AVal) (l : List Rn) (hs : Sm l) (zs : List AVal) (g : Gan) : CallOK Tryz.prog 3 [.agg (stCs c now k ws l zs), g.av] [] (.ret (.bool true)) [] := by
  by_cases hP : fewP c now l g
  · have hfw := few21_yes c hc now k ws l hs zs g hP
    obtain ⟨p1, p2, p3⟩ := hP
    have hgi : gangI c.ns g ≠ 0 := by rw [p3]; decide
    have hg := gang_pods hgi
    have hv := gang_valid hgi
    have ho := onceB_iff p2
    have hl : l.length ≤ 32 := by
      have h : fewI c now l ≠ 0 := by rw [p1]; decide
      unfold fewI at h
      split at h
      · exact absurd rfl h
      · rename_i hb
        unfold badF at hb
        omega
    have hch := choose_ok c hc l hs g hg
    have hrc := rchoose_any c hc l hs (by omega) ho (few_ids p1) g hg hv _ rfl
    have hcl := fun R => chA_len (R := R) (c := c) (g := g) ho
    generalize chooseL c l g = Q at hch hrc hcl
    unfold chR at hch hrc
    cases Q with
    | none =>
      refine CallOK.to (E := E) (fn := Tryz.f3) (g := .pure _) (by rfl) (by rfl) (by rfl) (fun _ _ => by rfl) (by decide +kernel) (by rfl) (by rfl) (by rfl) fun _ => ?_
      repeat' first | (refine goN hE 100 rfl ?_; conv => whnf) | refine .pure _ [] hfw ?_ | refine .pure _ [] hch ?_ | refine .pure _ [] hrc ?_ | refine .pure _ [] (ints_ok [] (by simp)) ?_ | refine .pure _ [] awake21_ok ?_ | exact rfl | refine And.intro (fun _ => ?_) (fun h => absurd (show true = false from h) (by decide)) | refine And.intro (fun h => absurd (show false = true from h) (by decide)) (fun _ => ?_) | refine And.intro (fun h => ?_) (fun h => absurd (of_decide_eq_false h) (by omega)) | refine And.intro (fun h => absurd (of_decide_eq_true h) (by omega)) (fun h => ?_) | refine And.intro (fun h => ?_) (fun h => ?_) | refine Or.inl (And.intro (And.intro (by simp only [kmin]; omega) (by simp only [kmax]; omega)) ?_) | refine Exists.intro _ (And.intro rfl ?_) | refine And.intro (by decide) ?_ | refine And.intro (by omega) ?_ | fail
    | some ids =>
      have hi := ints_ok ids (by have := hcl ids rfl; omega)
      refine CallOK.to (E := E) (fn := Tryz.f3) (g := .pure _) (by rfl) (by rfl) (by rfl) (fun _ _ => by rfl) (by decide +kernel) (by rfl) (by rfl) (by rfl) fun _ => ?_
      repeat' first | (refine goN hE 100 rfl ?_; conv => whnf) | refine .pure _ [] hfw ?_ | refine .pure _ [] hch ?_ | refine .pure _ [] hrc ?_ | refine .pure _ [] hi ?_ | refine .pure _ [] awake21_ok ?_ | exact rfl | refine And.intro (fun _ => ?_) (fun h => absurd (show true = false from h) (by decide)) | refine And.intro (fun h => absurd (show false = true from h) (by decide)) (fun _ => ?_) | refine And.intro (fun h => ?_) (fun h => absurd (of_decide_eq_false h) (by omega)) | refine And.intro (fun h => absurd (of_decide_eq_true h) (by omega)) (fun h => ?_) | refine And.intro (fun h => ?_) (fun h => ?_) | refine Or.inl (And.intro (And.intro (by simp only [kmin]; omega) (by simp only [kmax]; omega)) ?_) | refine Exists.intro _ (And.intro rfl ?_) | refine And.intro (by decide) ?_ | refine And.intro (by omega) ?_ | fail
  · have hfw := few21_no c hc now k ws l hs zs g hP
    refine CallOK.to (E := E) (fn := Tryz.f3) (g := .pure _) (by rfl) (by rfl) (by rfl) (fun _ _ => by rfl) (by decide +kernel) (by rfl) (by rfl) (by rfl) fun _ => ?_
    repeat' first | (refine goN hE 100 rfl ?_; conv => whnf) | refine .pure _ [] hfw ?_ | refine .pure _ [] awake21_ok ?_ | exact rfl | refine And.intro (fun _ => ?_) (fun h => absurd (show true = false from h) (by decide)) | refine And.intro (fun h => absurd (show false = true from h) (by decide)) (fun _ => ?_) | refine And.intro (fun h => ?_) (fun h => absurd (of_decide_eq_false h) (by omega)) | refine And.intro (fun h => absurd (of_decide_eq_true h) (by omega)) (fun h => ?_) | refine And.intro (fun h => ?_) (fun h => ?_) | refine Or.inl (And.intro (And.intro (by simp only [kmin]; omega) (by simp only [kmax]; omega)) ?_) | refine Exists.intro _ (And.intro rfl ?_) | refine And.intro (by decide) ?_ | refine And.intro (by omega) ?_ | fail
end Go.Proofs.YtlalcoklkafnnaaGreat

namespace Go.Proofs.YtlalcoklkafnnaaGreat
open Go Go.AW Go.Proofs
open Go.ChangeShapes Go.WideShapes Go.ChangeAt Go.RowKit
set_option maxRecDepth 100000

theorem tnRunsM {N n : Nat} {cs : List AVal} (hN0 : N ≤ 1048576) (h : TyN Tryz.prog N (n + 5) 27 cs) : ∃ l : List Rn, cs = [.slice 14 (rav l) .no] ∧ Sm l ∧ l.length ≤ N := by
  unfold TyN at h
  rw [Tryz.underlying27] at h
  obtain ⟨xs, rfl, hN, hx⟩ := h
  have hc : Tryz.prog.cellsOf 43 = 14 := by kernel_rfl
  obtain ⟨l, rfl, hl⟩ := allsN (av := Rn.av) (Q := fun x => x.hs.length ≤ 1048576) (P := fun x => x ∈ xs) (fun x hm => by
    obtain ⟨cs, rfl⟩ := (hx x hm).2.1 (by kernel_rfl)
    obtain ⟨p, hp, hq⟩ := tnRun (n := n) (hx _ hm).1
    exact ⟨p, by unfold Rn.av; rw [← hp]; rfl, Nat.le_trans hq hN0⟩) xs fun x hm => hm
  exact ⟨l, by rw [hc], ⟨Nat.le_trans (by simpa using hN) hN0, hl⟩, by simpa using hN⟩
theorem tnConM {N n : Nat} {cs : List AVal} (hN0 : N ≤ 1048576) (h : TyN Tryz.prog N (n + 5) 25 cs) : ∃ c : Con, cs = c.cs ∧ c.sm := by
  unfold TyN at h
  rw [Tryz.underlying25] at h
  obtain ⟨x0, r, rfl, h0, x1, r, rfl, h1, x2, r, rfl, h2, x3, r, rfl, h3, rfl⟩ := h
  obtain ⟨ns, rfl, l0⟩ := tnNodes (n := n) h0
  obtain ⟨hs, rfl, l1⟩ := tnHosts (n := n) h1
  obtain ⟨a2, rfl⟩ := tnInt h2
  obtain ⟨a3, rfl⟩ := tnInt h3
  exact ⟨⟨ns, hs, a2, a3⟩, rfl, ⟨Nat.le_trans l0 hN0, Nat.le_trans l1 hN0⟩⟩
theorem tnStM {N n : Nat} {cs : List AVal} (hN0 : N ≤ 1048576) (h : TyN Tryz.prog N (n + 6) 30 cs) : ∃ (c : Con) (now k : Int) (ws : List AVal) (l : List Rn) (zs : List AVal), cs = stCs c now k ws l zs ∧ c.sm ∧ Sm l ∧ l.length ≤ N := by
  unfold TyN at h
  rw [Tryz.underlying30] at h
  obtain ⟨x0, r, rfl, h0, x1, r, rfl, h1, x2, r, rfl, h2, x3, r, rfl, h3, x4, r, rfl, h4, x5, r, rfl, h5, rfl⟩ := h
  obtain ⟨c, rfl, hc⟩ := tnConM (n := n) hN0 h0
  obtain ⟨now, rfl⟩ := tnInt h1
  obtain ⟨k, rfl⟩ := tnInt h2
  obtain ⟨ws, rfl⟩ := tnAny (n := n + 4) Tryz.underlying26 h3
  obtain ⟨l, rfl, hl⟩ := tnRunsM (n := n) hN0 h4
  obtain ⟨zs, rfl⟩ := tnAny (n := n + 4) Tryz.underlying28 h5
  have e1 : Tryz.prog.cellsOf 194 = 11 := by kernel_rfl
  have e2 : Tryz.prog.cellsOf 195 = 1 := by kernel_rfl
  rw [e1, e2]
  exact ⟨c, now, k, ws, l, zs, rfl, hc, hl⟩
section
variable {H : Type} {enc : TypeId × Value → H} {W : World} {r : Reach} {base b0 : Nat} {spare : Nat → Bool} {held : Bool} {v : Value} {d : DataW H} {ps : List MemPlace}
theorem open_stateM {N : Nat} (hN0 : N ≤ 1048576) (hv : Value.okWide Tryz.prog W r b0 30 v) (h : DataW.Trod enc Tryz.prog W base spare held 30 v d ps) (hG : Rows.uptoBulk d ≤ N) : ∃ (c : Con) (now k : Int) (ws : List AVal) (l : List Rn) (zs : List AVal), Rep (Mw W) [] v (.agg (stCs c now k ws l zs)) ∧ c.sm ∧ Sm l ∧ l.length ≤ N := by
  obtain ⟨cs0, hr, ht⟩ := arg_aggN (n := 6) (bulkN H N) (by kernel_rfl) (by kernel_rfl) hv h hG
  obtain ⟨c, now, k, ws, l, zs, rfl, hc, hl⟩ := tnStM (n := 0) hN0 ht
  exact ⟨c, now, k, ws, l, zs, hr, hc, hl⟩
end
end Go.Proofs.YtlalcoklkafnnaaGreat
