/-
  Who gives way: the heap, Choose, as walks; the laws.
-/
import Derived.Test.YtlalcoklkafnnaaGreatRows
import Derived.Test.YtlalcoklkafnnaaGreatRA
namespace Go.AW
open Go.RowKit

theorem Mem.beginRow {M : Imm} {ob : Hs} {obs : List AObj} {w : World} (hm : Mem M ob obs w) {k i sz : Nat} {T e : TypeId} {cs : List AVal} (hk : obs[k]? = some (.cells T cs)) (hi : cs[i]? = some (.slice sz [] .nil)) :
    Mem M (ob ++ [[.slice none 0 0]]) (obs.set k (.cells T (cs.set i (.row obs.length 0))) ++ [.row 0 sz e []]) w ∧
      Ext M ob obs w M (ob ++ [[.slice none 0 0]]) (obs.set k (.cells T (cs.set i (.row obs.length 0))) ++ [.row 0 sz e []]) w ∧ HsLe ob (ob ++ [[.slice none 0 0]]) := by
  have hle : HsLe ob (ob ++ [[.slice none 0 0]]) := fun j hs hj => ⟨hs, by rw [List.getElem?_append_left (List.getElem?_eq_some_iff.1 hj).1]; exact hj, List.prefix_refl _⟩
  have hkl : k < obs.length := (List.getElem?_eq_some_iff.1 hk).1
  have hnew : (ob ++ [[.slice none 0 0]])[obs.length]? = some [.slice none 0 0] := by rw [← hm.len]; simp
  have hat : at' (ob ++ [[.slice none 0 0]]) obs.length 0 = some (.slice none 0 0) := by rw [at_get hnew]; rfl
  have old : ∀ {j : Nat} {c : AObj}, (obs.set k (.cells T (cs.set i (.row obs.length 0))) ++ [.row 0 sz e []])[j]? = some c →
      (j = obs.length ∧ c = .row 0 sz e []) ∨ (j = k ∧ c = .cells T (cs.set i (.row obs.length 0))) ∨ (j ≠ k ∧ j < obs.length ∧ obs[j]? = some c) := fun {j c} hj => by
    by_cases hjl : j < obs.length
    · rw [List.getElem?_append_left (by simpa using hjl)] at hj
      by_cases hjk : j = k
      · subst hjk
        rw [List.getElem?_set_self hjl] at hj
        cases hj
        exact .inr (.inl ⟨rfl, rfl⟩)
      · rw [List.getElem?_set_ne (Ne.symm hjk)] at hj
        exact .inr (.inr ⟨hjk, hjl, hj⟩)
    · have h2 : j = obs.length := by
        have := (List.getElem?_eq_some_iff.1 hj).1
        simp at this
        omega
      subst h2
      rw [List.getElem?_append_right (by simp)] at hj
      simp at hj
      exact .inl ⟨rfl, hj.symm⟩
  have al : ∀ {j b : Nat}, Alive (ob ++ [[.slice none 0 0]]) (obs.set k (.cells T (cs.set i (.row obs.length 0))) ++ [.row 0 sz e []]) j b → Alive ob obs j b := fun {j b} ⟨c, hs, e1, e2, e3, e4⟩ => by
    rcases old e1 with ⟨rfl, rfl⟩ | ⟨rfl, rfl⟩ | ⟨h1, h2, h3⟩
    · rw [hnew] at e3
      cases e3
      cases e4
    · rw [List.getElem?_append_left (by rw [hm.len]; exact hkl)] at e3
      exact ⟨_, hs, hk, rfl, e3, e4⟩
    · rw [List.getElem?_append_left (by rw [hm.len]; exact h2)] at e3
      exact ⟨c, hs, h3, e2, e3, e4⟩
  have hok : ∀ (j : Nat) c, (obs.set k (.cells T (cs.set i (.row obs.length 0))) ++ [.row 0 sz e []])[j]? = some c → ∃ hs, (ob ++ [[.slice none 0 0]])[j]? = some hs ∧ ObjOK M (ob ++ [[.slice none 0 0]]) w hs c := fun j c hj => by
    rcases old hj with ⟨rfl, rfl⟩ | ⟨rfl, rfl⟩ | ⟨h1, h2, h3⟩
    · have hr : RowAt M w (.slice none 0 0) sz e [] := by
        refine ⟨[], World.ownsRow_nil w 0 _ _, ?_, ?_, ?_, ?_, ?_⟩
        · intro u hu; simp at hu
        · intro x hx; simp at hx
        · intro q c hc; simp [cellAt] at hc
        · intro b hb; cases hb
        · intro b hb; cases hb
      exact ⟨_, hnew, rfl, _, rfl, hr⟩
    · obtain ⟨hs, e1, b, q1, q2, cv, q3, q4, q5, q6⟩ := hm.obj _ _ hk
      refine ⟨hs, by rw [List.getElem?_append_left (by rw [hm.len]; exact hkl)]; exact e1, b, q1, q2, cv, q3, by simpa using q4, q5, fun n v a hv ha => ?_⟩
      by_cases hn : n = i
      · subst hn
        have hlt : n < cs.length := (List.getElem?_eq_some_iff.1 hi).1
        rw [List.getElem?_set_self hlt] at ha
        cases ha
        have := q6 n v _ hv hi
        obtain ⟨_, ht⟩ := this.untok
        have ht : v = .slice none 0 0 := ht
        subst ht
        exact .row _ _ _ _ _ hat
      · rw [List.getElem?_set_ne (Ne.symm hn)] at ha
        exact (q6 n v a hv ha).mono (fun _ _ _ h => h) hle
    · obtain ⟨hs, e1, e2⟩ := hm.obj j c h3
      refine ⟨hs, by rw [List.getElem?_append_left (by rw [hm.len]; exact h2)]; exact e1, ?_⟩
      cases c with
      | cells T' cs' =>
        obtain ⟨b, q1, q2, cv, q3, q4, q5, q6⟩ := e2
        exact ⟨b, q1, q2, cv, q3, q4, q5, fun n v a hv ha => (q6 n v a hv ha).mono (fun _ _ _ h => h) hle⟩
      | _ => exact e2
  refine ⟨⟨hm.imm, by simp [hm.len], hok, fun j b ha => hm.lt j b (al ha), fun j j' b h1 h2 => hm.inj j j' b (al h1) (al h2)⟩, ⟨fun _ _ _ h => h, fun _ _ _ h => .inl h, hle, rfl, rfl, rfl, Nat.le_refl _, fun _ _ _ => rfl, fun j b ha => .inl ⟨j, al ha⟩⟩, hle⟩

/-- AT A LOOP'S HEAD: the nil slice in cell i of object k begins a row that is written in its place -/
theorem To.beginRowH {E : Env} {fn : Func} {g : Goal} {st : List KI} {fr : List (Nat × AVal)} {obs : List AObj} (k i : Nat) (e : TypeId) {T : TypeId} {cs : List AVal} {sz : Nat} (hk : oget obs k = .cells T cs) (hi : nth cs i = some (.slice sz [] .nil))
    (h : To E fn g (.head st fr (snocO (oput obs k (.cells T (setC cs i (.row (olen obs) 0)))) (.row 0 sz e [])))) : To E fn g (.head st fr obs) :=
  .mk fun hok M0 ob0 obs0 w0 a w hst hs => by
    refine h.rec fun h => h hok M0 ob0 obs0 w0 a w hst ?_
    obtain ⟨M, ob, hx, hm, hfr, r1, r2, r3⟩ := hs
    have hk' := oget_some hk (by simp)
    obtain ⟨m1, m2, m3⟩ := hm.beginRow (e := e) hk' (nth_some hi)
    rw [snocO_eq, setC_eq, olen_eq, oput_some hk']
    exact ⟨M, _, hx.trans m2, m1, fun t => (hfr t).mono (fun _ _ _ h => h) m3, r1, r2.mono (fun _ _ _ h => h) m3, by simp; omega⟩
theorem To.beginRow {E : Env} {fn : Func} {g : Goal} {st : List KI} {fr : List (Nat × AVal)} {obs : List AObj} (k i : Nat) (e : TypeId) {T : TypeId} {cs : List AVal} {sz : Nat} (hk : oget obs k = .cells T cs) (hi : nth cs i = some (.slice sz [] .nil))
    (h : To E fn g (.code st fr (snocO (oput obs k (.cells T (setC cs i (.row (olen obs) 0)))) (.row 0 sz e [])))) : To E fn g (.code st fr obs) :=
  To.toC (To.beginRowH k i e hk hi (To.ofC h))
end Go.AW

namespace Go.Proofs.YtlalcoklkafnnaaGreat
open Go Go.AW Go.Proofs
set_option maxRecDepth 10000

theorem nan_ok (x : Int) : CallOK Tryz.prog 137 [ii x] [] (.ret (.bool false)) [] := by
  refine CallOK.to (E := E) (fn := Tryz.f137) (g := .pure _) (by rfl) (by rfl) (by rfl) (fun _ _ => by rfl) (by decide +kernel) (by rfl) (by rfl) (by rfl) fun _ => ?_
  refine goes hE 100 ?_
  conv => whnf
  exact congrArg (fun b => Res.ret (AVal.bool b)) (by simp)
def cmpI (a b : Int) : Int := if a < b then -1 else if b < a then 1 else 0
theorem cmp_any (a b r : Int) (hr : cmpI a b = r) : CallOK Tryz.prog 113 [ii a, ii b] [] (.ret (ii r)) [] := by
  unfold cmpI at hr
  by_cases h1 : a < b
  · rw [if_pos h1] at hr
    subst hr
    refine CallOK.to (E := E) (fn := Tryz.f113) (g := .pure _) (by rfl) (by rfl) (by rfl) (fun _ _ => by rfl) (by decide +kernel) (by rfl) (by rfl) (by rfl) fun _ => ?_
    repeat' first | (refine goN hE 100 rfl ?_; conv => whnf) | refine .pure _ [] (nan_ok _) ?_ | exact rfl | refine And.intro (fun _ => ?_) (fun h => absurd (show true = false from h) (by decide)) | refine And.intro (fun h => absurd (show false = true from h) (by decide)) (fun _ => ?_) | refine And.intro (fun h => ?_) (fun h => absurd (of_decide_eq_false h) (by omega)) | refine And.intro (fun h => absurd (of_decide_eq_true h) (by omega)) (fun h => ?_) | refine And.intro (fun h => ?_) (fun h => ?_) | refine Or.inl (And.intro (And.intro (by simp only [kmin]; omega) (by simp only [kmax]; omega)) ?_) | refine Exists.intro _ (And.intro rfl ?_) | refine And.intro (by decide) ?_ | refine And.intro (by omega) ?_ | fail
  · rw [if_neg h1] at hr
    by_cases h2 : b < a
    · rw [if_pos h2] at hr
      subst hr
      refine CallOK.to (E := E) (fn := Tryz.f113) (g := .pure _) (by rfl) (by rfl) (by rfl) (fun _ _ => by rfl) (by decide +kernel) (by rfl) (by rfl) (by rfl) fun _ => ?_
      repeat' first | (refine goN hE 100 rfl ?_; conv => whnf) | refine .pure _ [] (nan_ok _) ?_ | exact rfl | refine And.intro (fun _ => ?_) (fun h => absurd (show true = false from h) (by decide)) | refine And.intro (fun h => absurd (show false = true from h) (by decide)) (fun _ => ?_) | refine And.intro (fun h => ?_) (fun h => absurd (of_decide_eq_false h) (by omega)) | refine And.intro (fun h => absurd (of_decide_eq_true h) (by omega)) (fun h => ?_) | refine And.intro (fun h => ?_) (fun h => ?_) | refine Or.inl (And.intro (And.intro (by simp only [kmin]; omega) (by simp only [kmax]; omega)) ?_) | refine Exists.intro _ (And.intro rfl ?_) | refine And.intro (by decide) ?_ | refine And.intro (by omega) ?_ | fail
    · rw [if_neg h2] at hr
      subst hr
      refine CallOK.to (E := E) (fn := Tryz.f113) (g := .pure _) (by rfl) (by rfl) (by rfl) (fun _ _ => by rfl) (by decide +kernel) (by rfl) (by rfl) (by rfl) fun _ => ?_
      repeat' first | (refine goN hE 100 rfl ?_; conv => whnf) | refine .pure _ [] (nan_ok _) ?_ | exact rfl | refine And.intro (fun _ => ?_) (fun h => absurd (show true = false from h) (by decide)) | refine And.intro (fun h => absurd (show false = true from h) (by decide)) (fun _ => ?_) | refine And.intro (fun h => ?_) (fun h => absurd (of_decide_eq_false h) (by omega)) | refine And.intro (fun h => absurd (of_decide_eq_true h) (by omega)) (fun h => ?_) | refine And.intro (fun h => ?_) (fun h => ?_) | refine Or.inl (And.intro (And.intro (by simp only [kmin]; omega) (by simp only [kmax]; omega)) ?_) | refine Exists.intro _ (And.intro rfl ?_) | refine And.intro (by decide) ?_ | refine And.intro (by omega) ?_ | fail
theorem cmp_ok (a b : Int) : CallOK Tryz.prog 113 [ii a, ii b] [] (.ret (ii (cmpI a b))) [] := cmp_any a b _ rfl
def orI (p q : Int) : Int := if p = 0 then q else p
theorem or_any (p q r : Int) (hr : orI p q = r) : CallOK Tryz.prog 112 [.slice 1 [ii p, ii q] .no] [] (.ret (ii r)) [] := by
  unfold orI at hr
  by_cases h1 : p = 0
  · subst h1
    rw [if_pos rfl] at hr
    have hp : ((0 : Int) != 0) = false := by decide
    by_cases h2 : q = 0
    · subst h2
      subst hr
      have hq : ((0 : Int) != 0) = false := by decide
      refine CallOK.to (E := E) (fn := Tryz.f112) (g := .pure _) (by rfl) (by rfl) (by rfl) (fun _ _ => by rfl) (by decide +kernel) (by rfl) (by rfl) (by rfl) fun _ => ?_
      repeat' first
        | (refine goes hE 100 ?_; conv => whnf)
        | exact rfl
        | refine Exists.intro 0 (And.intro rfl ?_)
        | refine Exists.intro 1 (And.intro rfl ?_)
        | refine Exists.intro _ (And.intro rfl ?_)
        | refine And.intro (fun _ => ?_) (fun h => absurd (show true = false from h) (by decide))
        | refine And.intro (fun h => absurd (show false = true from h) (by decide)) (fun _ => ?_)
        | refine And.intro (fun h => ?_) (fun h => absurd h (by rw [hp]; decide))
        | refine And.intro (fun h => ?_) (fun h => absurd h (by rw [hq]; decide))
        | refine And.intro (fun h => absurd h (by rw [hp]; decide)) (fun h => ?_)
        | refine And.intro (fun h => absurd h (by rw [hq]; decide)) (fun h => ?_)
        | refine Or.inl (And.intro (And.intro (by simp only [kmin]; omega) (by simp only [kmax]; omega)) ?_)
        | fail
    · subst hr
      have hq : (q != 0) = true := by simp [h2]
      refine CallOK.to (E := E) (fn := Tryz.f112) (g := .pure _) (by rfl) (by rfl) (by rfl) (fun _ _ => by rfl) (by decide +kernel) (by rfl) (by rfl) (by rfl) fun _ => ?_
      repeat' first
        | (refine goes hE 100 ?_; conv => whnf)
        | exact rfl
        | refine Exists.intro 0 (And.intro rfl ?_)
        | refine Exists.intro 1 (And.intro rfl ?_)
        | refine Exists.intro _ (And.intro rfl ?_)
        | refine And.intro (fun _ => ?_) (fun h => absurd (show true = false from h) (by decide))
        | refine And.intro (fun h => absurd (show false = true from h) (by decide)) (fun _ => ?_)
        | refine And.intro (fun h => ?_) (fun h => absurd h (by rw [hp]; decide))
        | refine And.intro (fun h => ?_) (fun h => absurd h (by rw [hq]; decide))
        | refine And.intro (fun h => absurd h (by rw [hp]; decide)) (fun h => ?_)
        | refine And.intro (fun h => absurd h (by rw [hq]; decide)) (fun h => ?_)
        | refine Or.inl (And.intro (And.intro (by simp only [kmin]; omega) (by simp only [kmax]; omega)) ?_)
        | fail
  · rw [if_neg h1] at hr
    subst hr
    have hp : (p != 0) = true := by simp [h1]
    have hq : ((0 : Int) != 0) = false := by decide
    refine CallOK.to (E := E) (fn := Tryz.f112) (g := .pure _) (by rfl) (by rfl) (by rfl) (fun _ _ => by rfl) (by decide +kernel) (by rfl) (by rfl) (by rfl) fun _ => ?_
    repeat' first
      | (refine goes hE 100 ?_; conv => whnf)
      | exact rfl
      | refine Exists.intro 0 (And.intro rfl ?_)
      | refine Exists.intro 1 (And.intro rfl ?_)
      | refine Exists.intro _ (And.intro rfl ?_)
      | refine And.intro (fun _ => ?_) (fun h => absurd (show true = false from h) (by decide))
      | refine And.intro (fun h => absurd (show false = true from h) (by decide)) (fun _ => ?_)
      | refine And.intro (fun h => ?_) (fun h => absurd h (by rw [hp]; decide))
      | refine And.intro (fun h => ?_) (fun h => absurd h (by rw [hq]; decide))
      | refine And.intro (fun h => absurd h (by rw [hp]; decide)) (fun h => ?_)
      | refine And.intro (fun h => absurd h (by rw [hq]; decide)) (fun h => ?_)
      | refine Or.inl (And.intro (And.intro (by simp only [kmin]; omega) (by simp only [kmax]; omega)) ?_)
      | fail
/-- does one come ahead of another one -/
def laterB (a b : Rn) : Bool := decide (orI (cmpI b.st a.st) (cmpI b.seq a.seq) < 0)
theorem lat_any (a b : Rn) (r : Bool) (hr : laterB a b = r) : CallOK Tryz.prog 77 [a.av, b.av] [] (.ret (.bool r)) [] := by
  have h1 := cmp_ok b.st a.st
  have h2 := cmp_ok b.seq a.seq
  unfold laterB at hr
  generalize cmpI b.st a.st = p at h1 hr
  generalize cmpI b.seq a.seq = q at h2 hr
  have h3 := or_any p q _ rfl
  generalize orI p q = o at h3 hr
  subst hr
  refine CallOK.to (E := E) (fn := Tryz.f77) (g := .pure _) (by rfl) (by rfl) (by rfl) (fun _ _ => by rfl) (by decide +kernel) (by rfl) (by rfl) (by rfl) fun _ => ?_
  repeat' first | (refine goN hE 100 rfl ?_; conv => whnf) | refine .pure _ [] h1 ?_ | refine .pure _ [] h2 ?_ | refine .pure _ [] (CallOK.strip h3) ?_ | exact rfl | refine And.intro (fun _ => ?_) (fun h => absurd (show true = false from h) (by decide)) | refine And.intro (fun h => absurd (show false = true from h) (by decide)) (fun _ => ?_) | refine And.intro (fun h => ?_) (fun h => absurd (of_decide_eq_false h) (by omega)) | refine And.intro (fun h => absurd (of_decide_eq_true h) (by omega)) (fun h => ?_) | refine And.intro (fun h => ?_) (fun h => ?_) | refine Or.inl (And.intro (And.intro (by simp only [kmin]; omega) (by simp only [kmax]; omega)) ?_) | refine Exists.intro _ (And.intro rfl ?_) | refine And.intro (by decide) ?_ | refine And.intro (by omega) ?_ | fail
theorem lat_ok (a b : Rn) : CallOK Tryz.prog 77 [a.av, b.av] [] (.ret (.bool (laterB a b))) [] := lat_any a b _ rfl
theorem vown_ok (x : Rn) (h : x.hs.length ≤ 1048576) : CallOK Tryz.prog 79 [x.av] [] (.ret x.av) [] := by
  refine CallOK.to (E := E) (fn := Tryz.f79) (g := .pure _) (by rfl) (by rfl) (by rfl) (fun _ _ => by rfl) (by decide +kernel) (by rfl) (by rfl) (by rfl) fun _ => ?_
  repeat' first | (refine goN hE 100 rfl ?_; conv => whnf) | refine .pure _ [] (cloneI_ok x.hs h) ?_ | exact rfl | refine And.intro (fun _ => ?_) (fun h => absurd (show true = false from h) (by decide)) | refine And.intro (fun h => absurd (show false = true from h) (by decide)) (fun _ => ?_) | refine And.intro (fun h => ?_) (fun h => absurd (of_decide_eq_false h) (by omega)) | refine And.intro (fun h => absurd (of_decide_eq_true h) (by omega)) (fun h => ?_) | refine And.intro (fun h => ?_) (fun h => ?_) | refine Or.inl (And.intro (And.intro (by simp only [kmin]; omega) (by simp only [kmax]; omega)) ?_) | refine Exists.intro _ (And.intro rfl ?_) | refine And.intro (by decide) ?_ | refine And.intro (by omega) ?_ | fail

/- ---------- push ---------- -/
def rn0 : Rn := ⟨⟨0, 0, 0, V3.zero, 0, 0, 0⟩, 0, 0, 0, 0, []⟩
def getR (xs : List Rn) (i : Nat) : Rn := (xs[i]?).getD rn0
theorem getR_lt {xs : List Rn} {i : Nat} (h : i < xs.length) : (rav xs)[i]? = some (getR xs i).av := by
  unfold getR
  rw [List.getElem?_eq_getElem h]
  exact rav_get h
def swapR (xs : List Rn) (i k : Nat) : List Rn := (xs.set i (getR xs k)).set k (getR xs i)
theorem swapR_len (xs : List Rn) (i k : Nat) : (swapR xs i k).length = xs.length := by unfold swapR; simp
theorem rav_swap (xs : List Rn) (i k : Nat) : rav (swapR xs i k) = ((rav xs).set i (getR xs k).av).set k (getR xs i).av := by unfold swapR; simp [rav, List.map_set]
def upH : Nat → List Rn → Nat → List Rn
  | 0, xs, _ => xs
  | f + 1, xs, i => if i = 0 then xs else if laterB (getR xs i) (getR xs ((i - 1) / 2)) = true then upH f (swapR xs i ((i - 1) / 2)) ((i - 1) / 2) else xs
def pushH (xs : List Rn) (x : Rn) : List Rn := upH (xs.length + 1) (xs ++ [x]) xs.length
theorem upH_len : ∀ (f : Nat) (xs : List Rn) (i : Nat), (upH f xs i).length = xs.length
  | 0, xs, i => rfl
  | f + 1, xs, i => by
    unfold upH
    split
    · rfl
    · split
      · rw [upH_len f, swapR_len]
      · rfl
theorem pushH_len (xs : List Rn) (x : Rn) : (pushH xs x).length = xs.length + 1 := by unfold pushH; rw [upH_len]; simp
abbrev latF : AVal := .func (.func 77) [] []
abbrev hpO (l : AVal) (g : Nat) (xs : List Rn) : List AObj := [.cells 98 [l, latF], .row g 14 43 (rav xs)]
noncomputable abbrev fPush : Func := Tryz.f78
theorem push_loop (N : Nat) (hN : N ≤ 1048577) (R : List Rn) : ∀ (f i : Nat) (ys : List Rn), ys.length = N → i < N → i < f → upH f ys i = R →
    To (Er [] [6, 14, 15, 56]) fPush (.full 2 (.ret (.tup [])) (hpO (.row 1 1) 1 R)) (.head (stk fPush 0) [(0, .ref 0 0), (4, ii i)] (hpO (.row 1 1) 1 ys)) := by
  intro f
  induction f with
  | zero => intro i ys _ _ h; omega
  | succ f ih =>
    intro i ys hy hi hf hR
    have hrl : (rav ys).length = ys.length := by simp
    unfold upH at hR
    by_cases h0 : i = 0
    · subst h0
      rw [if_pos rfl] at hR
      subst hR
      refine goes (hEr [] [6, 14, 15, 56]) 100 ?_
      conv => whnf
      repeat' first | (refine goN (hEr [] [6, 14, 15, 56]) 100 rfl ?_; conv => whnf) | refine ⟨[], [0, 1], ⟨rfl, rfl⟩, ⟨rfl, rfl⟩⟩ | exact rfl | refine And.intro (fun _ => ?_) (fun h => absurd (show true = false from h) (by decide)) | refine And.intro (fun h => absurd (show false = true from h) (by decide)) (fun _ => ?_) | refine And.intro (fun h => ?_) (fun h => absurd (of_decide_eq_false h) (by omega)) | refine And.intro (fun h => absurd (of_decide_eq_true h) (by omega)) (fun h => ?_) | refine And.intro (fun h => ?_) (fun h => ?_) | refine Or.inl (And.intro (And.intro (by simp only [kmin]; omega) (by simp only [kmax]; omega)) ?_) | refine Exists.intro _ (And.intro rfl ?_) | refine And.intro (by decide) ?_ | refine And.intro (by omega) ?_ | fail
    rw [if_neg h0] at hR
    have hlt : (i - 1) / 2 < ys.length := by omega
    have hdiv : Int.tdiv ((i : Int) - 1) 2 = (((i - 1) / 2 : Nat) : Int) := by
      rw [Int.tdiv_eq_ediv_of_nonneg (by omega)]
      omega
    have g1 := getR_lt (xs := ys) (i := i) (by omega)
    have g2 := getR_lt hlt
    have hl := lat_ok (getR ys i) (getR ys ((i - 1) / 2))
    generalize hup : (i - 1) / 2 = up at hR hdiv g2 hl hlt
    by_cases h1 : laterB (getR ys i) (getR ys up) = true
    · rw [if_pos h1] at hR
      rw [h1] at hl
      have next := ih up (swapR ys i up) (by rw [swapR_len]; exact hy) (by omega) (by omega) hR
      unfold hpO at next
      rw [rav_swap] at next
      generalize getR ys i = a at g1 hl next
      generalize getR ys up = b at g2 hl next
      refine goes (hEr [] [6, 14, 15, 56]) 100 ?_
      conv => whnf
      refine And.intro (fun h => ?_) (fun h => absurd (of_decide_eq_false h) (by omega))
      repeat' first
        | exact To.cut [0, 4] 2 rfl rfl rfl rfl next
        | (refine goN (hEr [] [6, 14, 15, 56]) 100 rfl ?_; conv => whnf)
        | refine Exists.intro i (And.intro rfl ?_)
        | refine Exists.intro up (And.intro hdiv ?_)
        | refine Exists.intro _ (And.intro g1 ?_)
        | refine Exists.intro _ (And.intro g2 ?_)
        | refine .pure _ [] hl ?_
        | refine And.intro (fun _ => ?_) (fun h => absurd (show true = false from h) (by decide))
        | refine And.intro (fun h => absurd (show false = true from h) (by decide)) (fun _ => ?_)
        | refine And.intro (by omega) ?_
        | refine And.intro (by rw [List.length_set]; omega) ?_
        | refine Or.inl (And.intro (And.intro (by simp only [kmin]; omega) (by simp only [kmax]; omega)) ?_)
        | refine And.intro (by decide) ?_
        | fail
      rw [hdiv]
      exact To.cut [0, 4] 2 rfl rfl rfl rfl next
    · have h1 : laterB (getR ys i) (getR ys up) = false := by simpa using h1
      rw [if_neg (by rw [h1]; decide)] at hR
      subst hR
      rw [h1] at hl
      generalize getR ys i = a at g1 hl
      generalize getR ys up = b at g2 hl
      refine goes (hEr [] [6, 14, 15, 56]) 100 ?_
      conv => whnf
      refine And.intro (fun h => ?_) (fun h => absurd (of_decide_eq_false h) (by omega))
      repeat' first | (refine goN (hEr [] [6, 14, 15, 56]) 100 rfl ?_; conv => whnf) | refine ⟨[], [0, 1], ⟨rfl, rfl⟩, ⟨rfl, rfl⟩⟩ | refine Exists.intro i (And.intro rfl ?_) | refine Exists.intro up (And.intro hdiv ?_) | refine Exists.intro _ (And.intro g1 ?_) | refine Exists.intro _ (And.intro g2 ?_) | refine .pure _ [] hl ?_ | exact rfl | refine And.intro (fun _ => ?_) (fun h => absurd (show true = false from h) (by decide)) | refine And.intro (fun h => absurd (show false = true from h) (by decide)) (fun _ => ?_) | refine And.intro (fun h => ?_) (fun h => absurd (of_decide_eq_false h) (by omega)) | refine And.intro (fun h => absurd (of_decide_eq_true h) (by omega)) (fun h => ?_) | refine And.intro (fun h => ?_) (fun h => ?_) | refine Or.inl (And.intro (And.intro (by simp only [kmin]; omega) (by simp only [kmax]; omega)) ?_) | refine Exists.intro _ (And.intro rfl ?_) | refine And.intro (by decide) ?_ | refine And.intro (by omega) ?_ | fail
theorem push_ok (xs : List Rn) (hl : xs.length ≤ 1048576) (x : Rn) : CallOK Tryz.prog 78 [.ref 0 0, x.av] (hpO (.row 1 0) 0 xs) (.ret (.tup [])) (hpO (.row 1 1) 1 (pushH xs x)) := by
  have hrl : (rav xs).length = xs.length := by simp
  have next := push_loop (xs.length + 1) (by omega) (pushH xs x) (xs.length + 1) xs.length (xs ++ [x]) (by simp) (by omega) (by omega) rfl
  have e : rav (xs ++ [x]) = rav xs ++ [x.av] := by simp
  unfold hpO at next
  rw [e] at next
  refine CallOK.to (E := (Er [] [6, 14, 15, 56])) (fn := Tryz.f78) (g := .full 2 _ _) (by rfl) (by rfl) (by rfl) (fun _ _ => by rfl) (by decide +kernel) (by rfl) (by rfl) (by rfl) fun _ => ?_
  repeat' first | (refine goN (hEr [] [6, 14, 15, 56]) 100 rfl ?_; conv => whnf) | refine And.intro (And.intro (by simp only [maxLen]; simp; omega) (by simp; omega)) ?_ | refine Or.inl (And.intro (And.intro (by simp only [List.length_append, List.length_cons, List.length_nil, kmin]; omega) (by simp only [List.length_append, List.length_cons, List.length_nil, kmax]; omega)) ?_) | exact rfl | refine And.intro (fun _ => ?_) (fun h => absurd (show true = false from h) (by decide)) | refine And.intro (fun h => absurd (show false = true from h) (by decide)) (fun _ => ?_) | refine And.intro (fun h => ?_) (fun h => absurd (of_decide_eq_false h) (by omega)) | refine And.intro (fun h => absurd (of_decide_eq_true h) (by omega)) (fun h => ?_) | refine And.intro (fun h => ?_) (fun h => ?_) | refine Or.inl (And.intro (And.intro (by simp only [kmin]; omega) (by simp only [kmax]; omega)) ?_) | refine Exists.intro _ (And.intro rfl ?_) | refine And.intro (by decide) ?_ | refine And.intro (by omega) ?_ | fail
  refine To.cut [0, 4] 2 rfl rfl rfl rfl ?_
  have e2 : (((rav xs ++ [x.av]).length : Int) - 1) = ((xs.length : Nat) : Int) := by simp
  rw [← e2] at next
  exact next
end Go.Proofs.YtlalcoklkafnnaaGreat

namespace Go.Proofs.YtlalcoklkafnnaaGreat
open Go Go.AW Go.Proofs
set_option maxRecDepth 10000
set_option maxHeartbeats 2000000

def downK (xs : List Rn) (n i : Nat) : Nat := if 2 * i + 2 < n then (if laterB (getR xs (2 * i + 2)) (getR xs (2 * i + 1)) = true then 2 * i + 2 else 2 * i + 1) else 2 * i + 1
theorem downK_r (xs : List Rn) (n i : Nat) (h : 2 * i + 1 < n) : downK xs n i < n ∧ i < downK xs n i ∧ (downK xs n i = 2 * i + 1 ∨ downK xs n i = 2 * i + 2) := by
  unfold downK
  split
  · split <;> omega
  · omega
def downH : Nat → List Rn → Nat → Nat → List Rn
  | 0, xs, _, _ => xs
  | f + 1, xs, n, i => if 2 * i + 1 < n then (if laterB (getR xs (downK xs n i)) (getR xs i) = true then downH f (swapR xs i (downK xs n i)) n (downK xs n i) else xs) else xs
theorem downH_len : ∀ (f : Nat) (xs : List Rn) (n i : Nat), (downH f xs n i).length = xs.length
  | 0, xs, n, i => rfl
  | f + 1, xs, n, i => by
    unfold downH
    split
    · split
      · rw [downH_len f, swapR_len]
      · rfl
    · rfl
/-- what is left behind a pop of the first n -/
def popH (xs : List Rn) (n : Nat) : List Rn := downH n (xs.set 0 (getR xs (n - 1))) (n - 1) 0
theorem popH_len (xs : List Rn) (n : Nat) : (popH xs n).length = xs.length := by unfold popH; rw [downH_len]; simp
theorem getR_z {xs : List Rn} {i : Nat} (h : i < xs.length) : (rav xs)[0 + i]? = some (getR xs i).av := by rw [Nat.zero_add]; exact getR_lt h
theorem rav_swapZ (xs : List Rn) (i k : Nat) : rav (swapR xs i k) = ((rav xs).set (0 + i) (getR xs k).av).set (0 + k) (getR xs i).av := by rw [Nat.zero_add, Nat.zero_add]; exact rav_swap xs i k
abbrev z14 : List AVal := [ii 0, ii 0, ii 0, ii 0, ii 0, ii 0, ii 0, ii 0, ii 0, ii 0, ii 0, ii 0, ii 0, .slice 1 [] .nil]
abbrev ppO (n : Nat) (ys : List Rn) (x : List AVal) : List AObj := hpO (.sub 1 0 0 n 14) 0 ys ++ [.cells 43 z14, .cells 43 x]
abbrev ppF (n i : Int) : List (Nat × AVal) := [(0, .ref 0 0), (2, .ref 2 0), (3, .ref 3 0), (4, ii n), (5, ii i)]
noncomputable abbrev fPop : Func := Tryz.f80
theorem pop_c2 (n N : Nat) (hn : n ≤ N) (hN : N ≤ 1048577) (R : List Rn) (x : Rn) (i : Nat) (ys : List Rn) (hy : ys.length = N) (h0 : 2 * i + 1 < n) (h3 : 2 * i + 2 < n) (a b c : Rn) (g0 : (rav ys)[0 + i]? = some a.av) (g1 : (rav ys)[0 + (2 * i + 1)]? = some b.av) (g2 : (rav ys)[0 + (2 * i + 2)]? = some c.av)
    (hl1 : CallOK Tryz.prog 77 [c.av, b.av] [] (.ret (.bool true)) []) (r : Bool) (hl2 : CallOK Tryz.prog 77 [c.av, a.av] [] (.ret (.bool r)) []) (hR : r = false → ys = R)
    (next : r = true → To (Er [] [105]) fPop (.full 2 (.ret x.av) (hpO (.sub 1 0 0 n 14) 0 R)) (.head (stk fPop 0) (ppF n ((2 * i + 2 : Nat) : Int)) [.cells 98 [.sub 1 0 0 n 14, latF], .row 0 14 43 (((rav ys).set (0 + i) c.av).set (0 + (2 * i + 2)) a.av), .cells 43 z14, .cells 43 x.cs])) :
    To (Er [] [105]) fPop (.full 2 (.ret x.av) (hpO (.sub 1 0 0 n 14) 0 R)) (.head (stk fPop 0) (ppF n i) (ppO n ys x.cs)) := by
  have hrl : (rav ys).length = ys.length := by simp
  have hc : 2 * (i : Int) + 1 + 1 = ((2 * i + 2 : Nat) : Int) := by omega
  cases r with
  | false =>
    have hR := hR rfl
    subst hR
    refine goes (hEr [] [105]) 100 ?_
    conv => whnf
    repeat' first
      | (refine goN (hEr [] [105]) 100 rfl ?_; conv => whnf)
      | refine Exists.intro (2 * i + 2) (And.intro (by omega) ?_)
      | refine Exists.intro (2 * i + 1) (And.intro (by omega) ?_)
      | refine Exists.intro i (And.intro rfl ?_)
      | refine Exists.intro _ (And.intro g2 ?_)
      | refine Exists.intro _ (And.intro g1 ?_)
      | refine Exists.intro _ (And.intro g0 ?_)
      | refine .pure _ [] hl1 ?_
      | refine .pure _ [] hl2 ?_
      | refine And.intro (fun _ => ?_) (fun h => absurd (show true = false from h) (by decide))
      | refine And.intro (fun h => absurd (show false = true from h) (by decide)) (fun _ => ?_)
      | refine And.intro (fun h => ?_) (fun h => absurd (of_decide_eq_false h) (by omega))
      | refine And.intro (fun h => absurd (of_decide_eq_true h) (by omega)) (fun h => ?_)
      | refine And.intro (by omega) ?_
      | refine And.intro (by rw [List.length_set]; omega) ?_
      | refine And.intro (And.intro (by simp only [kmin]; omega) (by simp only [kmax]; omega)) ?_
      | refine Or.inl (And.intro (And.intro (by simp only [kmin]; omega) (by simp only [kmax]; omega)) ?_)
      | refine And.intro (by decide) ?_
      | refine ⟨[], [0, 1], ⟨rfl, rfl⟩, ⟨rfl, rfl⟩⟩
      | fail
  | true =>
    have next := next rfl
    rw [← hc] at next
    refine goes (hEr [] [105]) 100 ?_
    conv => whnf
    repeat' first
      | (refine goN (hEr [] [105]) 100 rfl ?_; conv => whnf)
      | refine Exists.intro (2 * i + 2) (And.intro (by omega) ?_)
      | refine Exists.intro (2 * i + 1) (And.intro (by omega) ?_)
      | refine Exists.intro i (And.intro rfl ?_)
      | refine Exists.intro _ (And.intro g2 ?_)
      | refine Exists.intro _ (And.intro g1 ?_)
      | refine Exists.intro _ (And.intro g0 ?_)
      | refine .pure _ [] hl1 ?_
      | refine .pure _ [] hl2 ?_
      | refine And.intro (fun _ => ?_) (fun h => absurd (show true = false from h) (by decide))
      | refine And.intro (fun h => absurd (show false = true from h) (by decide)) (fun _ => ?_)
      | refine And.intro (fun h => ?_) (fun h => absurd (of_decide_eq_false h) (by omega))
      | refine And.intro (fun h => absurd (of_decide_eq_true h) (by omega)) (fun h => ?_)
      | refine And.intro (by omega) ?_
      | refine And.intro (by rw [List.length_set]; omega) ?_
      | refine And.intro (And.intro (by simp only [kmin]; omega) (by simp only [kmax]; omega)) ?_
      | refine Or.inl (And.intro (And.intro (by simp only [kmin]; omega) (by simp only [kmax]; omega)) ?_)
      | refine And.intro (by decide) ?_
      | refine ⟨[], [0, 1], ⟨rfl, rfl⟩, ⟨rfl, rfl⟩⟩
      | fail
    exact To.cut [0, 2, 3, 4, 5] 4 rfl rfl rfl rfl next
theorem pop_c1 (n N : Nat) (hn : n ≤ N) (hN : N ≤ 1048577) (R : List Rn) (x : Rn) (i : Nat) (ys : List Rn) (hy : ys.length = N) (h0 : 2 * i + 1 < n) (h3 : 2 * i + 2 < n) (a b c : Rn) (g0 : (rav ys)[0 + i]? = some a.av) (g1 : (rav ys)[0 + (2 * i + 1)]? = some b.av) (g2 : (rav ys)[0 + (2 * i + 2)]? = some c.av)
    (hl1 : CallOK Tryz.prog 77 [c.av, b.av] [] (.ret (.bool false)) []) (r : Bool) (hl2 : CallOK Tryz.prog 77 [b.av, a.av] [] (.ret (.bool r)) []) (hR : r = false → ys = R)
    (next : r = true → To (Er [] [105]) fPop (.full 2 (.ret x.av) (hpO (.sub 1 0 0 n 14) 0 R)) (.head (stk fPop 0) (ppF n ((2 * i + 1 : Nat) : Int)) [.cells 98 [.sub 1 0 0 n 14, latF], .row 0 14 43 (((rav ys).set (0 + i) b.av).set (0 + (2 * i + 1)) a.av), .cells 43 z14, .cells 43 x.cs])) :
    To (Er [] [105]) fPop (.full 2 (.ret x.av) (hpO (.sub 1 0 0 n 14) 0 R)) (.head (stk fPop 0) (ppF n i) (ppO n ys x.cs)) := by
  have hrl : (rav ys).length = ys.length := by simp
  have hc : 2 * (i : Int) + 1 = ((2 * i + 1 : Nat) : Int) := by omega
  cases r with
  | false =>
    have hR := hR rfl
    subst hR
    refine goes (hEr [] [105]) 100 ?_
    conv => whnf
    repeat' first
      | (refine goN (hEr [] [105]) 100 rfl ?_; conv => whnf)
      | refine Exists.intro (2 * i + 2) (And.intro (by omega) ?_)
      | refine Exists.intro (2 * i + 1) (And.intro (by omega) ?_)
      | refine Exists.intro i (And.intro rfl ?_)
      | refine Exists.intro _ (And.intro g2 ?_)
      | refine Exists.intro _ (And.intro g1 ?_)
      | refine Exists.intro _ (And.intro g0 ?_)
      | refine .pure _ [] hl1 ?_
      | refine .pure _ [] hl2 ?_
      | refine And.intro (fun _ => ?_) (fun h => absurd (show true = false from h) (by decide))
      | refine And.intro (fun h => absurd (show false = true from h) (by decide)) (fun _ => ?_)
      | refine And.intro (fun h => ?_) (fun h => absurd (of_decide_eq_false h) (by omega))
      | refine And.intro (fun h => absurd (of_decide_eq_true h) (by omega)) (fun h => ?_)
      | refine And.intro (by omega) ?_
      | refine And.intro (by rw [List.length_set]; omega) ?_
      | refine And.intro (And.intro (by simp only [kmin]; omega) (by simp only [kmax]; omega)) ?_
      | refine Or.inl (And.intro (And.intro (by simp only [kmin]; omega) (by simp only [kmax]; omega)) ?_)
      | refine And.intro (by decide) ?_
      | refine ⟨[], [0, 1], ⟨rfl, rfl⟩, ⟨rfl, rfl⟩⟩
      | fail
  | true =>
    have next := next rfl
    rw [← hc] at next
    refine goes (hEr [] [105]) 100 ?_
    conv => whnf
    repeat' first
      | (refine goN (hEr [] [105]) 100 rfl ?_; conv => whnf)
      | refine Exists.intro (2 * i + 2) (And.intro (by omega) ?_)
      | refine Exists.intro (2 * i + 1) (And.intro (by omega) ?_)
      | refine Exists.intro i (And.intro rfl ?_)
      | refine Exists.intro _ (And.intro g2 ?_)
      | refine Exists.intro _ (And.intro g1 ?_)
      | refine Exists.intro _ (And.intro g0 ?_)
      | refine .pure _ [] hl1 ?_
      | refine .pure _ [] hl2 ?_
      | refine And.intro (fun _ => ?_) (fun h => absurd (show true = false from h) (by decide))
      | refine And.intro (fun h => absurd (show false = true from h) (by decide)) (fun _ => ?_)
      | refine And.intro (fun h => ?_) (fun h => absurd (of_decide_eq_false h) (by omega))
      | refine And.intro (fun h => absurd (of_decide_eq_true h) (by omega)) (fun h => ?_)
      | refine And.intro (by omega) ?_
      | refine And.intro (by rw [List.length_set]; omega) ?_
      | refine And.intro (And.intro (by simp only [kmin]; omega) (by simp only [kmax]; omega)) ?_
      | refine Or.inl (And.intro (And.intro (by simp only [kmin]; omega) (by simp only [kmax]; omega)) ?_)
      | refine And.intro (by decide) ?_
      | refine ⟨[], [0, 1], ⟨rfl, rfl⟩, ⟨rfl, rfl⟩⟩
      | fail
    exact To.cut [0, 2, 3, 4, 5] 4 rfl rfl rfl rfl next
theorem pop_c0 (n N : Nat) (hn : n ≤ N) (hN : N ≤ 1048577) (R : List Rn) (x : Rn) (i : Nat) (ys : List Rn) (hy : ys.length = N) (h0 : 2 * i + 1 < n) (h3 : ¬ 2 * i + 2 < n) (a b : Rn) (g0 : (rav ys)[0 + i]? = some a.av) (g1 : (rav ys)[0 + (2 * i + 1)]? = some b.av)
 (r : Bool) (hl2 : CallOK Tryz.prog 77 [b.av, a.av] [] (.ret (.bool r)) []) (hR : r = false → ys = R)
    (next : r = true → To (Er [] [105]) fPop (.full 2 (.ret x.av) (hpO (.sub 1 0 0 n 14) 0 R)) (.head (stk fPop 0) (ppF n ((2 * i + 1 : Nat) : Int)) [.cells 98 [.sub 1 0 0 n 14, latF], .row 0 14 43 (((rav ys).set (0 + i) b.av).set (0 + (2 * i + 1)) a.av), .cells 43 z14, .cells 43 x.cs])) :
    To (Er [] [105]) fPop (.full 2 (.ret x.av) (hpO (.sub 1 0 0 n 14) 0 R)) (.head (stk fPop 0) (ppF n i) (ppO n ys x.cs)) := by
  have hrl : (rav ys).length = ys.length := by simp
  have hl1 := nan_ok 0
  have g2 : True := trivial
  have hc : 2 * (i : Int) + 1 = ((2 * i + 1 : Nat) : Int) := by omega
  cases r with
  | false =>
    have hR := hR rfl
    subst hR
    refine goes (hEr [] [105]) 100 ?_
    conv => whnf
    repeat' first
      | (refine goN (hEr [] [105]) 100 rfl ?_; conv => whnf)
      | refine Exists.intro (2 * i + 2) (And.intro (by omega) ?_)
      | refine Exists.intro (2 * i + 1) (And.intro (by omega) ?_)
      | refine Exists.intro i (And.intro rfl ?_)
      | refine Exists.intro _ (And.intro g2 ?_)
      | refine Exists.intro _ (And.intro g1 ?_)
      | refine Exists.intro _ (And.intro g0 ?_)
      | refine .pure _ [] hl1 ?_
      | refine .pure _ [] hl2 ?_
      | refine And.intro (fun _ => ?_) (fun h => absurd (show true = false from h) (by decide))
      | refine And.intro (fun h => absurd (show false = true from h) (by decide)) (fun _ => ?_)
      | refine And.intro (fun h => ?_) (fun h => absurd (of_decide_eq_false h) (by omega))
      | refine And.intro (fun h => absurd (of_decide_eq_true h) (by omega)) (fun h => ?_)
      | refine And.intro (by omega) ?_
      | refine And.intro (by rw [List.length_set]; omega) ?_
      | refine And.intro (And.intro (by simp only [kmin]; omega) (by simp only [kmax]; omega)) ?_
      | refine Or.inl (And.intro (And.intro (by simp only [kmin]; omega) (by simp only [kmax]; omega)) ?_)
      | refine And.intro (by decide) ?_
      | refine ⟨[], [0, 1], ⟨rfl, rfl⟩, ⟨rfl, rfl⟩⟩
      | fail
  | true =>
    have next := next rfl
    rw [← hc] at next
    refine goes (hEr [] [105]) 100 ?_
    conv => whnf
    repeat' first
      | (refine goN (hEr [] [105]) 100 rfl ?_; conv => whnf)
      | refine Exists.intro (2 * i + 2) (And.intro (by omega) ?_)
      | refine Exists.intro (2 * i + 1) (And.intro (by omega) ?_)
      | refine Exists.intro i (And.intro rfl ?_)
      | refine Exists.intro _ (And.intro g2 ?_)
      | refine Exists.intro _ (And.intro g1 ?_)
      | refine Exists.intro _ (And.intro g0 ?_)
      | refine .pure _ [] hl1 ?_
      | refine .pure _ [] hl2 ?_
      | refine And.intro (fun _ => ?_) (fun h => absurd (show true = false from h) (by decide))
      | refine And.intro (fun h => absurd (show false = true from h) (by decide)) (fun _ => ?_)
      | refine And.intro (fun h => ?_) (fun h => absurd (of_decide_eq_false h) (by omega))
      | refine And.intro (fun h => absurd (of_decide_eq_true h) (by omega)) (fun h => ?_)
      | refine And.intro (by omega) ?_
      | refine And.intro (by rw [List.length_set]; omega) ?_
      | refine And.intro (And.intro (by simp only [kmin]; omega) (by simp only [kmax]; omega)) ?_
      | refine Or.inl (And.intro (And.intro (by simp only [kmin]; omega) (by simp only [kmax]; omega)) ?_)
      | refine And.intro (by decide) ?_
      | refine ⟨[], [0, 1], ⟨rfl, rfl⟩, ⟨rfl, rfl⟩⟩
      | fail
    exact To.cut [0, 2, 3, 4, 5] 4 rfl rfl rfl rfl next
theorem pop_loop (n N : Nat) (hn : n ≤ N) (hN : N ≤ 1048577) (R : List Rn) (x : Rn) : ∀ (f i : Nat) (ys : List Rn), ys.length = N → i < N → n < f + i + 1 → downH f ys n i = R →
    To (Er [] [105]) fPop (.full 2 (.ret x.av) (hpO (.sub 1 0 0 n 14) 0 R)) (.head (stk fPop 0) (ppF n i) (ppO n ys x.cs)) := by
  intro f
  induction f with
  | zero =>
    intro i ys hy hi hf hR
    have hR : ys = R := hR
    subst hR
    have hrl : (rav ys).length = ys.length := by simp
    refine goes (hEr [] [105]) 100 ?_
    conv => whnf
    repeat' first | (refine goN (hEr [] [105]) 100 rfl ?_; conv => whnf) | refine ⟨[], [0, 1], ⟨rfl, rfl⟩, ⟨rfl, rfl⟩⟩ | exact rfl | refine And.intro (fun _ => ?_) (fun h => absurd (show true = false from h) (by decide)) | refine And.intro (fun h => absurd (show false = true from h) (by decide)) (fun _ => ?_) | refine And.intro (fun h => ?_) (fun h => absurd (of_decide_eq_false h) (by omega)) | refine And.intro (fun h => absurd (of_decide_eq_true h) (by omega)) (fun h => ?_) | refine And.intro (fun h => ?_) (fun h => ?_) | refine Or.inl (And.intro (And.intro (by simp only [kmin]; omega) (by simp only [kmax]; omega)) ?_) | refine Exists.intro _ (And.intro rfl ?_) | refine And.intro (by decide) ?_ | refine And.intro (by omega) ?_ | fail
  | succ f ih =>
    intro i ys hy hi hf hR
    have hrl : (rav ys).length = ys.length := by simp
    unfold downH at hR
    by_cases h0 : 2 * i + 1 < n
    · rw [if_pos h0] at hR
      have hkr := downK_r ys n i h0
      have g0 := getR_z (xs := ys) (i := i) (by omega)
      have g1 := getR_z (xs := ys) (i := 2 * i + 1) (by omega)
      have hl2 := lat_ok (getR ys (downK ys n i)) (getR ys i)
      have hsw := rav_swapZ ys i (downK ys n i)
      have ih := ih (downK ys n i) (swapR ys i (downK ys n i)) (by rw [swapR_len]; exact hy) (by omega) (by omega)
      unfold ppO hpO at ih
      rw [hsw] at ih
      have e5 : ∀ r, laterB (getR ys (downK ys n i)) (getR ys i) = r → (r = false → ys = R) ∧ (r = true → downH f (swapR ys i (downK ys n i)) n (downK ys n i) = R) := fun r hr => by
        subst hr
        refine ⟨fun h => ?_, fun h => ?_⟩
        · rw [if_neg (by rw [h]; decide)] at hR
          exact hR
        · rw [if_pos h] at hR
          exact hR
      have e5 := e5 _ rfl
      generalize laterB (getR ys (downK ys n i)) (getR ys i) = r at hl2 e5
      have next := fun hr => ih (e5.2 hr)
      by_cases h3 : 2 * i + 2 < n
      · have g2 := getR_z (xs := ys) (i := 2 * i + 2) (by omega)
        have hl1 := lat_ok (getR ys (2 * i + 2)) (getR ys (2 * i + 1))
        by_cases h4 : laterB (getR ys (2 * i + 2)) (getR ys (2 * i + 1)) = true
        · have hk : downK ys n i = 2 * i + 2 := by unfold downK; rw [if_pos h3, if_pos h4]
          rw [h4] at hl1
          rw [hk] at next hl2
          exact pop_c2 n N hn hN R x i ys hy h0 h3 _ _ _ g0 g1 g2 hl1 r hl2 e5.1 next
        · have h4 : laterB (getR ys (2 * i + 2)) (getR ys (2 * i + 1)) = false := by simpa using h4
          have hk : downK ys n i = 2 * i + 1 := by unfold downK; rw [if_pos h3, if_neg (by rw [h4]; decide)]
          rw [h4] at hl1
          rw [hk] at next hl2
          exact pop_c1 n N hn hN R x i ys hy h0 h3 _ _ _ g0 g1 g2 hl1 r hl2 e5.1 next
      · have hk : downK ys n i = 2 * i + 1 := by unfold downK; rw [if_neg h3]
        rw [hk] at next hl2
        exact pop_c0 n N hn hN R x i ys hy h0 h3 _ _ g0 g1 r hl2 e5.1 next
    · rw [if_neg h0] at hR
      subst hR
      refine goes (hEr [] [105]) 100 ?_
      conv => whnf
      repeat' first | (refine goN (hEr [] [105]) 100 rfl ?_; conv => whnf) | refine ⟨[], [0, 1], ⟨rfl, rfl⟩, ⟨rfl, rfl⟩⟩ | exact rfl | refine And.intro (fun _ => ?_) (fun h => absurd (show true = false from h) (by decide)) | refine And.intro (fun h => absurd (show false = true from h) (by decide)) (fun _ => ?_) | refine And.intro (fun h => ?_) (fun h => absurd (of_decide_eq_false h) (by omega)) | refine And.intro (fun h => absurd (of_decide_eq_true h) (by omega)) (fun h => ?_) | refine And.intro (fun h => ?_) (fun h => ?_) | refine Or.inl (And.intro (And.intro (by simp only [kmin]; omega) (by simp only [kmax]; omega)) ?_) | refine Exists.intro _ (And.intro rfl ?_) | refine And.intro (by decide) ?_ | refine And.intro (by omega) ?_ | fail
/-- the row that the heap has, as its cell tells it -/
inductive HV (ys : List Rn) : AVal → Nat → Prop
  | row : HV ys (.row 1 0) ys.length
  | sub (n : Nat) (h : n ≤ ys.length) : HV ys (.sub 1 0 0 n 14) n
theorem pop_ok (ys : List Rn) (hl : ys.length ≤ 1048577) (hv : AVal) (n : Nat) (hh : HV ys hv n) (hn : 0 < n) : CallOK Tryz.prog 80 [.ref 0 0] (hpO hv 0 ys) (.ret (getR ys 0).av) (hpO (.sub 1 0 0 (n - 1) 14) 0 (popH ys n)) := by
  have hrl : (rav ys).length = ys.length := by simp
  cases hh with
  | row =>
    have g0 := getR_lt (xs := ys) (i := 0) (by omega)
    have g1 := getR_lt (xs := ys) (i := ys.length - 1) (by omega)
    have hn1 : ((ys.length : Nat) : Int) - 1 = ((ys.length - 1 : Nat) : Int) := by omega
    obtain ⟨n, hnn⟩ : ∃ n, n = ys.length := ⟨_, rfl⟩
    rw [← hnn] at g1 hn1 hn ⊢
    have hn2 : ((rav ys).length : Int) - 1 = ((n - 1 : Nat) : Int) := by rw [hrl, ← hnn]; exact hn1
    have next := pop_loop (n - 1) ys.length (by omega) (by omega) (popH ys n) (getR ys 0) n 0 (ys.set 0 (getR ys (n - 1))) (by simp) (by omega) (by omega) rfl
    have e : rav (ys.set 0 (getR ys (n - 1))) = (rav ys).set 0 (getR ys (n - 1)).av := by simp [rav, List.map_set]
    unfold ppO hpO at next
    rw [e] at next
    generalize getR ys 0 = a at g0 next
    generalize getR ys (n - 1) = b at g1 next
    refine CallOK.to (E := (Er [] [105])) (fn := Tryz.f80) (g := .full 2 _ _) (by rfl) (by rfl) (by rfl) (fun _ _ => by rfl) (by decide +kernel) (by rfl) (by rfl) (by rfl) fun _ => ?_
    repeat' first | (refine goN (hEr [] [105]) 100 rfl ?_; conv => whnf) | refine Exists.intro 0 (And.intro rfl ?_) | refine Exists.intro _ (And.intro g0 ?_) | refine Exists.intro (n - 1) (And.intro hn2 ?_) | refine Exists.intro _ (And.intro g1 ?_) | refine And.intro (by rw [List.length_set]; omega) ?_ | exact rfl | refine And.intro (fun _ => ?_) (fun h => absurd (show true = false from h) (by decide)) | refine And.intro (fun h => absurd (show false = true from h) (by decide)) (fun _ => ?_) | refine And.intro (fun h => ?_) (fun h => absurd (of_decide_eq_false h) (by omega)) | refine And.intro (fun h => absurd (of_decide_eq_true h) (by omega)) (fun h => ?_) | refine And.intro (fun h => ?_) (fun h => ?_) | refine Or.inl (And.intro (And.intro (by simp only [kmin]; omega) (by simp only [kmax]; omega)) ?_) | refine Exists.intro _ (And.intro rfl ?_) | refine And.intro (by decide) ?_ | refine And.intro (by omega) ?_ | fail
    rw [hn2]
    exact To.cut [0, 2, 3, 4, 5] 4 rfl rfl rfl rfl next
  | sub _ h =>
    have g0 := getR_z (xs := ys) (i := 0) (by omega)
    have g1 := getR_z (xs := ys) (i := n - 1) (by omega)
    have hn1 : ((n : Nat) : Int) - 1 = ((n - 1 : Nat) : Int) := by omega
    have next := pop_loop (n - 1) ys.length (by omega) (by omega) (popH ys n) (getR ys 0) n 0 (ys.set 0 (getR ys (n - 1))) (by simp) (by omega) (by omega) rfl
    have e : rav (ys.set 0 (getR ys (n - 1))) = (rav ys).set (0 + 0) (getR ys (n - 1)).av := by simp [rav, List.map_set]
    unfold ppO hpO at next
    rw [e] at next
    generalize getR ys 0 = a at g0 next
    generalize getR ys (n - 1) = b at g1 next
    refine CallOK.to (E := (Er [] [105])) (fn := Tryz.f80) (g := .full 2 _ _) (by rfl) (by rfl) (by rfl) (fun _ _ => by rfl) (by decide +kernel) (by rfl) (by rfl) (by rfl) fun _ => ?_
    repeat' first | (refine goN (hEr [] [105]) 100 rfl ?_; conv => whnf) | refine Exists.intro 0 (And.intro rfl ?_) | refine Exists.intro _ (And.intro g0 ?_) | refine Exists.intro (n - 1) (And.intro hn1 ?_) | refine Exists.intro _ (And.intro g1 ?_) | refine And.intro (by rw [List.length_set]; omega) ?_ | exact rfl | refine And.intro (fun _ => ?_) (fun h => absurd (show true = false from h) (by decide)) | refine And.intro (fun h => absurd (show false = true from h) (by decide)) (fun _ => ?_) | refine And.intro (fun h => ?_) (fun h => absurd (of_decide_eq_false h) (by omega)) | refine And.intro (fun h => absurd (of_decide_eq_true h) (by omega)) (fun h => ?_) | refine And.intro (fun h => ?_) (fun h => ?_) | refine Or.inl (And.intro (And.intro (by simp only [kmin]; omega) (by simp only [kmax]; omega)) ?_) | refine Exists.intro _ (And.intro rfl ?_) | refine And.intro (by decide) ?_ | refine And.intro (by omega) ?_ | fail
    rw [hn1]
    exact To.cut [0, 2, 3, 4, 5] 4 rfl rfl rfl rfl next
end Go.Proofs.YtlalcoklkafnnaaGreat

namespace Go.Proofs.YtlalcoklkafnnaaGreat
open Go Go.AW Go.Proofs
set_option maxRecDepth 10000

def popAll : Nat → List Rn → List Rn
  | 0, _ => []
  | n + 1, ys => getR ys 0 :: popAll n (popH ys (n + 1))
def orderL (l : List Rn) : List Rn := popAll l.length (l.foldl pushH [])
theorem pushes_len : ∀ (l ys : List Rn), (l.foldl pushH ys).length = ys.length + l.length
  | [], ys => rfl
  | x :: r, ys => by rw [List.foldl_cons, pushes_len r, pushH_len]; simp; omega
theorem HV.inv {ys : List Rn} {hv : AVal} {n : Nat} (h : HV ys hv n) : (hv = .row 1 0 ∧ n = ys.length) ∨ (hv = .sub 1 0 0 n 14 ∧ n ≤ ys.length) := by
  cases h with
  | row => exact .inl ⟨rfl, rfl⟩
  | sub _ h => exact .inr ⟨rfl, h⟩
noncomputable abbrev fOrd : Func := Tryz.f38
theorem order_pops (R : List Rn) : ∀ (n : Nat) (ys : List Rn) (hv : AVal) (out : List Rn), HV ys hv n → ys.length ≤ 1048577 → out.length + n ≤ 1048576 → out ++ popAll n ys = R →
    To (Eo [6] []) fOrd (.pure (.ret (.slice 14 (rav R) .no))) (.head (stk fOrd 1) [(3, .ref 0 0), (6, .slice 14 (rav out) (.own 2 0))] (hpO hv 0 ys ++ [.tail 0 14 43])) := by
  intro n
  induction n with
  | zero =>
    intro ys hv out hh hy ho hR
    have hR : out ++ [] = R := hR
    rw [List.append_nil] at hR
    subst hR
    have hrl : (rav ys).length = ys.length := by simp
    rcases hh.inv with ⟨e, h⟩ | ⟨e, h⟩
    · subst e
      refine goes (hEo [6] []) 100 ?_
      conv => whnf
      refine And.intro (fun h => absurd (of_decide_eq_true h) (by omega)) (fun h => ?_)
      repeat' first | (refine goN (hEo [6] []) 100 rfl ?_; conv => whnf) | exact rfl | refine And.intro (fun _ => ?_) (fun h => absurd (show true = false from h) (by decide)) | refine And.intro (fun h => absurd (show false = true from h) (by decide)) (fun _ => ?_) | refine And.intro (fun h => ?_) (fun h => absurd (of_decide_eq_false h) (by omega)) | refine And.intro (fun h => absurd (of_decide_eq_true h) (by omega)) (fun h => ?_) | refine And.intro (fun h => ?_) (fun h => ?_) | refine Or.inl (And.intro (And.intro (by simp only [kmin]; omega) (by simp only [kmax]; omega)) ?_) | refine Exists.intro _ (And.intro rfl ?_) | refine And.intro (by decide) ?_ | refine And.intro (by omega) ?_ | fail
    · subst e
      refine goes (hEo [6] []) 100 ?_
      conv => whnf
      repeat' first | (refine goN (hEo [6] []) 100 rfl ?_; conv => whnf) | exact rfl | refine And.intro (fun _ => ?_) (fun h => absurd (show true = false from h) (by decide)) | refine And.intro (fun h => absurd (show false = true from h) (by decide)) (fun _ => ?_) | refine And.intro (fun h => ?_) (fun h => absurd (of_decide_eq_false h) (by omega)) | refine And.intro (fun h => absurd (of_decide_eq_true h) (by omega)) (fun h => ?_) | refine And.intro (fun h => ?_) (fun h => ?_) | refine Or.inl (And.intro (And.intro (by simp only [kmin]; omega) (by simp only [kmax]; omega)) ?_) | refine Exists.intro _ (And.intro rfl ?_) | refine And.intro (by decide) ?_ | refine And.intro (by omega) ?_ | fail
  | succ n ih =>
    intro ys hv out hh hy ho hR
    have hrl : (rav ys).length = ys.length := by simp
    have hp := pop_ok ys hy hv (n + 1) hh (by omega)
    have hR : out ++ getR ys 0 :: popAll n (popH ys (n + 1)) = R := hR
    have hnl : n ≤ (popH ys (n + 1)).length := by
      rw [popH_len]
      rcases hh.inv with ⟨_, h⟩ | ⟨_, h⟩ <;> omega
    have next := ih (popH ys (n + 1)) (.sub 1 0 0 n 14) (out ++ [getR ys 0]) (.sub n hnl) (by rw [popH_len]; exact hy) (by simp; omega) (by rw [List.append_assoc]; exact hR)
    have e : rav (out ++ [getR ys 0]) = rav out ++ [(getR ys 0).av] := by simp
    rw [e] at next
    have hol : (rav out).length = out.length := by simp
    generalize getR ys 0 = x at hp next
    have en : n + 1 - 1 = n := by omega
    rw [en] at hp
    generalize popH ys (n + 1) = ys' at hp next
    rcases hh.inv with ⟨e, h⟩ | ⟨e, h⟩
    · subst e
      refine goes (hEo [6] []) 100 ?_
      conv => whnf
      refine And.intro (fun h => ?_) (fun h => absurd (of_decide_eq_false h) (by omega))
      repeat' first | (refine goN (hEo [6] []) 100 rfl ?_; conv => whnf) | refine .eff [] [0, 1] _ _ rfl hp ?_ | refine And.intro (And.intro (by simp only [maxLen]; simp; omega) (by simp; omega)) ?_ | exact rfl | refine And.intro (fun _ => ?_) (fun h => absurd (show true = false from h) (by decide)) | refine And.intro (fun h => absurd (show false = true from h) (by decide)) (fun _ => ?_) | refine And.intro (fun h => ?_) (fun h => absurd (of_decide_eq_false h) (by omega)) | refine And.intro (fun h => absurd (of_decide_eq_true h) (by omega)) (fun h => ?_) | refine And.intro (fun h => ?_) (fun h => ?_) | refine Or.inl (And.intro (And.intro (by simp only [kmin]; omega) (by simp only [kmax]; omega)) ?_) | refine Exists.intro _ (And.intro rfl ?_) | refine And.intro (by decide) ?_ | refine And.intro (by omega) ?_ | fail
      refine To.part [3, 6] [0, 1, 2] rfl rfl rfl ?_
      exact next
    · subst e
      refine goes (hEo [6] []) 100 ?_
      conv => whnf
      refine And.intro (fun h => ?_) (fun h => absurd (of_decide_eq_false h) (by omega))
      repeat' first | (refine goN (hEo [6] []) 100 rfl ?_; conv => whnf) | refine .eff [] [0, 1] _ _ rfl hp ?_ | refine And.intro (And.intro (by simp only [maxLen]; simp; omega) (by simp; omega)) ?_ | exact rfl | refine And.intro (fun _ => ?_) (fun h => absurd (show true = false from h) (by decide)) | refine And.intro (fun h => absurd (show false = true from h) (by decide)) (fun _ => ?_) | refine And.intro (fun h => ?_) (fun h => absurd (of_decide_eq_false h) (by omega)) | refine And.intro (fun h => absurd (of_decide_eq_true h) (by omega)) (fun h => ?_) | refine And.intro (fun h => ?_) (fun h => ?_) | refine Or.inl (And.intro (And.intro (by simp only [kmin]; omega) (by simp only [kmax]; omega)) ?_) | refine Exists.intro _ (And.intro rfl ?_) | refine And.intro (by decide) ?_ | refine And.intro (by omega) ?_ | fail
      refine To.part [3, 6] [0, 1, 2] rfl rfl rfl ?_
      exact next
theorem order_push (l : List Rn) (hs : Sm l) (R : List Rn) : ∀ (m i : Nat) (ys : List Rn), i + m = l.length → ys.length = i → popAll l.length ((l.drop i).foldl pushH ys) = R →
    To (Eo [6] []) fOrd (.pure (.ret (.slice 14 (rav R) .no))) (.head (stk fOrd 0) [(3, .ref 0 0), (9, .slice 14 (rav l) .no), (10, .int .i64 ((rav l).length : Nat)), (11, ii i)] (hpO (.row 1 0) 0 ys)) := by
  have hlen : (rav l).length = l.length := by simp
  have hl := hs.1
  intro m
  induction m with
  | zero =>
    intro i ys hi hy hR
    rw [List.drop_eq_nil_of_le (by omega)] at hR
    have hR : popAll l.length ys = R := hR
    have next := order_pops R l.length ys (.row 1 0) [] (by rw [show l.length = ys.length from by omega]; exact .row) (by omega) (by simp; omega) hR
    refine goes (hEo [6] []) 100 ?_
    conv => whnf
    refine And.intro (fun h => absurd (of_decide_eq_true h) (by omega)) (fun h => ?_)
    repeat' first | (refine goN (hEo [6] []) 100 rfl ?_; conv => whnf) | exact rfl | refine And.intro (fun _ => ?_) (fun h => absurd (show true = false from h) (by decide)) | refine And.intro (fun h => absurd (show false = true from h) (by decide)) (fun _ => ?_) | refine And.intro (fun h => ?_) (fun h => absurd (of_decide_eq_false h) (by omega)) | refine And.intro (fun h => absurd (of_decide_eq_true h) (by omega)) (fun h => ?_) | refine And.intro (fun h => ?_) (fun h => ?_) | refine Or.inl (And.intro (And.intro (by simp only [kmin]; omega) (by simp only [kmax]; omega)) ?_) | refine Exists.intro _ (And.intro rfl ?_) | refine And.intro (by decide) ?_ | refine And.intro (by omega) ?_ | fail
    refine To.part [3, 6] [0, 1, 2] rfl rfl rfl ?_
    exact next
  | succ m ih =>
    intro i ys hi hy hR
    have hlt : i < l.length := by omega
    have hb := hs.at hlt
    rw [List.drop_eq_getElem_cons hlt, List.foldl_cons] at hR
    generalize hq : l[i] = x at hR hb
    have get : (rav l)[i]? = some x.av := (rav_get hlt).trans (by rw [hq])
    have next := ih (i + 1) (pushH ys x) (by omega) (by rw [pushH_len]; omega) hR
    have hp := push_ok ys (by omega) x
    generalize pushH ys x = ys' at hp next
    refine goes (hEo [6] []) 100 ?_
    conv => whnf
    refine And.intro (fun h => ?_) (fun h => absurd (of_decide_eq_false h) (by omega))
    repeat' first | (refine goN (hEo [6] []) 100 rfl ?_; conv => whnf) | refine Exists.intro i (And.intro rfl ?_) | refine Exists.intro _ (And.intro get ?_) | refine .pure _ [] (vown_ok x hb) ?_ | refine .eff [] [0, 1] _ _ rfl hp ?_ | exact rfl | refine And.intro (fun _ => ?_) (fun h => absurd (show true = false from h) (by decide)) | refine And.intro (fun h => absurd (show false = true from h) (by decide)) (fun _ => ?_) | refine And.intro (fun h => ?_) (fun h => absurd (of_decide_eq_false h) (by omega)) | refine And.intro (fun h => absurd (of_decide_eq_true h) (by omega)) (fun h => ?_) | refine And.intro (fun h => ?_) (fun h => ?_) | refine Or.inl (And.intro (And.intro (by simp only [kmin]; omega) (by simp only [kmax]; omega)) ?_) | refine Exists.intro _ (And.intro rfl ?_) | refine And.intro (by decide) ?_ | refine And.intro (by omega) ?_ | fail
    refine To.part [3, 9, 10, 11] [0, 1] rfl rfl rfl ?_
    exact next
theorem order_ok (l : List Rn) (hs : Sm l) : CallOK Tryz.prog 38 [.slice 14 (rav l) .no] [] (.ret (.slice 14 (rav (orderL l)) .no)) [] := by
  refine CallOK.to (E := (Eo [6] [])) (fn := Tryz.f38) (g := .pure _) (by rfl) (by rfl) (by rfl) (fun _ _ => by rfl) (by decide +kernel) (by rfl) (by rfl) (by rfl) fun _ => ?_
  refine goes (hEo [6] []) 100 ?_
  conv => whnf
  refine To.beginRowH 0 0 43 rfl rfl ?_
  refine To.part [3, 9, 10, 11] [0, 1] rfl rfl rfl ?_
  exact order_push l hs _ l.length 0 [] (by omega) rfl rfl
end Go.Proofs.YtlalcoklkafnnaaGreat

namespace Go.Proofs.YtlalcoklkafnnaaGreat
open Go Go.AW Go.Proofs
set_option maxRecDepth 10000

/- ---------- Index, Contains ---------- -/
def findI (p : Int → Bool) : List Int → Nat → Int
  | [], _ => -1
  | x :: r, i => if p x = true then (i : Int) else findI p r (i + 1)
theorem findI_iff (p : Int → Bool) : ∀ (l : List Int) (i : Nat), decide (0 ≤ findI p l i) = l.any p
  | [], i => by simp [findI]
  | x :: r, i => by
    unfold findI
    rw [List.any_cons]
    cases h : p x with
    | true => simp
    | false => simp [findI_iff p r (i + 1)]
def inB (v : Int) (l : List Int) : Bool := l.any fun x => v == x
noncomputable abbrev fIdxI : Func := Tryz.f114
theorem idxI_loop (l : List Int) (hl : l.length ≤ 1048576) (v r : Int) : ∀ (m i : Nat), i + m = l.length → findI (fun x => v == x) (l.drop i) i = r →
    To E fIdxI (.pure (.ret (ii r))) (.head (stk fIdxI 0) [(0, .slice 1 (iv l) .no), (1, ii v), (7, .int .i64 ((iv l).length : Nat)), (8, ii i)] []) := by
  have hlen : (iv l).length = l.length := by simp
  intro m
  induction m with
  | zero =>
    intro i hi hr
    rw [List.drop_eq_nil_of_le (by omega)] at hr
    have hr : -1 = r := hr
    subst hr
    refine goes hE 100 ?_
    conv => whnf
    refine And.intro (fun h => absurd (of_decide_eq_true h) (by omega)) (fun h => ?_)
    repeat' first | (refine goN hE 100 rfl ?_; conv => whnf) | exact rfl | refine And.intro (fun _ => ?_) (fun h => absurd (show true = false from h) (by decide)) | refine And.intro (fun h => absurd (show false = true from h) (by decide)) (fun _ => ?_) | refine And.intro (fun h => ?_) (fun h => absurd (of_decide_eq_false h) (by omega)) | refine And.intro (fun h => absurd (of_decide_eq_true h) (by omega)) (fun h => ?_) | refine And.intro (fun h => ?_) (fun h => ?_) | refine Or.inl (And.intro (And.intro (by simp only [kmin]; omega) (by simp only [kmax]; omega)) ?_) | refine Exists.intro _ (And.intro rfl ?_) | refine And.intro (by decide) ?_ | refine And.intro (by omega) ?_ | fail
  | succ m ih =>
    intro i hi hr
    have hlt : i < l.length := by omega
    rw [List.drop_eq_getElem_cons hlt] at hr
    have get := iv_get hlt
    generalize l[i] = x at hr get
    unfold findI at hr
    have ih := ih (i + 1) (by omega)
    cases hq : (v == x) with
    | true =>
      rw [if_pos hq] at hr
      subst hr
      refine goes hE 100 ?_
      conv => whnf
      refine And.intro (fun h => ?_) (fun h => absurd (of_decide_eq_false h) (by omega))
      repeat' first | (refine goN hE 100 rfl ?_; conv => whnf) | refine Exists.intro i (And.intro rfl ?_) | refine Exists.intro _ (And.intro get ?_) | refine And.intro (fun h => ?_) (fun h => absurd h (by rw [hq]; decide)) | exact rfl | refine And.intro (fun _ => ?_) (fun h => absurd (show true = false from h) (by decide)) | refine And.intro (fun h => absurd (show false = true from h) (by decide)) (fun _ => ?_) | refine And.intro (fun h => ?_) (fun h => absurd (of_decide_eq_false h) (by omega)) | refine And.intro (fun h => absurd (of_decide_eq_true h) (by omega)) (fun h => ?_) | refine And.intro (fun h => ?_) (fun h => ?_) | refine Or.inl (And.intro (And.intro (by simp only [kmin]; omega) (by simp only [kmax]; omega)) ?_) | refine Exists.intro _ (And.intro rfl ?_) | refine And.intro (by decide) ?_ | refine And.intro (by omega) ?_ | fail
    | false =>
      rw [if_neg (by rw [hq]; decide)] at hr
      have next := ih hr
      refine goes hE 100 ?_
      conv => whnf
      refine And.intro (fun h => ?_) (fun h => absurd (of_decide_eq_false h) (by omega))
      repeat' first | (refine goN hE 100 rfl ?_; conv => whnf) | refine Exists.intro i (And.intro rfl ?_) | refine Exists.intro _ (And.intro get ?_) | refine And.intro (fun h => absurd h (by rw [hq]; decide)) (fun h => ?_) | exact rfl | refine And.intro (fun _ => ?_) (fun h => absurd (show true = false from h) (by decide)) | refine And.intro (fun h => absurd (show false = true from h) (by decide)) (fun _ => ?_) | refine And.intro (fun h => ?_) (fun h => absurd (of_decide_eq_false h) (by omega)) | refine And.intro (fun h => absurd (of_decide_eq_true h) (by omega)) (fun h => ?_) | refine And.intro (fun h => ?_) (fun h => ?_) | refine Or.inl (And.intro (And.intro (by simp only [kmin]; omega) (by simp only [kmax]; omega)) ?_) | refine Exists.intro _ (And.intro rfl ?_) | refine And.intro (by decide) ?_ | refine And.intro (by omega) ?_ | fail
      exact To.cut [0, 1, 7, 8] 0 rfl rfl rfl rfl next
theorem idxI_ok (l : List Int) (hl : l.length ≤ 1048576) (v : Int) : CallOK Tryz.prog 114 [.slice 1 (iv l) .no, ii v] [] (.ret (ii (findI (fun x => v == x) l 0))) [] := by
  refine CallOK.to (E := E) (fn := Tryz.f114) (g := .pure _) (by rfl) (by rfl) (by rfl) (fun _ _ => by rfl) (by decide +kernel) (by rfl) (by rfl) (by rfl) fun _ => ?_
  refine goes hE 100 ?_
  conv => whnf
  exact To.cut [0, 1, 7, 8] 0 rfl rfl rfl rfl (idxI_loop l hl v _ l.length 0 (by omega) rfl)
theorem contI_ok (l : List Int) (hl : l.length ≤ 1048576) (v : Int) : CallOK Tryz.prog 81 [.slice 1 (iv l) .no, ii v] [] (.ret (.bool (inB v l))) [] := by
  have h := idxI_ok l hl v
  have e := findI_iff (fun x => v == x) l 0
  unfold inB
  rw [← e]
  generalize findI (fun x => v == x) l 0 = q at h
  refine CallOK.to (E := E) (fn := Tryz.f81) (g := .pure _) (by rfl) (by rfl) (by rfl) (fun _ _ => by rfl) (by decide +kernel) (by rfl) (by rfl) (by rfl) fun _ => ?_
  repeat' first | (refine goN hE 100 rfl ?_; conv => whnf) | refine .pure _ [] h ?_ | exact rfl | refine And.intro (fun _ => ?_) (fun h => absurd (show true = false from h) (by decide)) | refine And.intro (fun h => absurd (show false = true from h) (by decide)) (fun _ => ?_) | refine And.intro (fun h => ?_) (fun h => absurd (of_decide_eq_false h) (by omega)) | refine And.intro (fun h => absurd (of_decide_eq_true h) (by omega)) (fun h => ?_) | refine And.intro (fun h => ?_) (fun h => ?_) | refine Or.inl (And.intro (And.intro (by simp only [kmin]; omega) (by simp only [kmax]; omega)) ?_) | refine Exists.intro _ (And.intro rfl ?_) | refine And.intro (by decide) ?_ | refine And.intro (by omega) ?_ | fail

/- ---------- Without ---------- -/
def withoutL (l : List Rn) (ids : List Int) : List Rn := l.filter fun x => !(inB x.g.id ids)
theorem without_pos {x : Rn} {r : List Rn} {ids : List Int} (h : inB x.g.id ids = false) : withoutL (x :: r) ids = x :: withoutL r ids := List.filter_cons_of_pos (by rw [h]; rfl)
theorem without_neg {x : Rn} {r : List Rn} {ids : List Int} (h : inB x.g.id ids = true) : withoutL (x :: r) ids = withoutL r ids := List.filter_cons_of_neg (by rw [h]; decide)
theorem without_sm {l : List Rn} (hs : Sm l) (ids : List Int) : Sm (withoutL l ids) :=
  ⟨Nat.le_trans (List.length_filter_le _ _) hs.1, fun x hx => hs.2 x (List.mem_filter.1 hx).1⟩
noncomputable abbrev fWo : Func := Tryz.f39
theorem wo_loop (l : List Rn) (hs : Sm l) (ids : List Int) (hd : ids.length ≤ 1048576) (R : List Rn) : ∀ (m i : Nat) (acc : List Rn), i + m = l.length → acc.length ≤ i → acc ++ withoutL (l.drop i) ids = R →
    To (Eo [5] []) fWo (.pure (.ret (.slice 14 (rav R) .no))) (.head (stk fWo 0) [(1, .slice 1 (iv ids) .no), (5, .slice 14 (rav acc) (.own 0 0)), (8, .slice 14 (rav l) .no), (9, .int .i64 ((rav l).length : Nat)), (10, ii i)] [.tail 0 14 43]) := by
  have hlen : (rav l).length = l.length := by simp
  have hl := hs.1
  intro m
  induction m with
  | zero =>
    intro i acc hi ha hR
    rw [List.drop_eq_nil_of_le (by omega)] at hR
    have hR : acc ++ [] = R := hR
    rw [List.append_nil] at hR
    subst hR
    refine goes (hEo [5] []) 100 ?_
    conv => whnf
    refine And.intro (fun h => absurd (of_decide_eq_true h) (by omega)) (fun h => ?_)
    repeat' first | (refine goN (hEo [5] []) 100 rfl ?_; conv => whnf) | exact rfl | refine And.intro (fun _ => ?_) (fun h => absurd (show true = false from h) (by decide)) | refine And.intro (fun h => absurd (show false = true from h) (by decide)) (fun _ => ?_) | refine And.intro (fun h => ?_) (fun h => absurd (of_decide_eq_false h) (by omega)) | refine And.intro (fun h => absurd (of_decide_eq_true h) (by omega)) (fun h => ?_) | refine And.intro (fun h => ?_) (fun h => ?_) | refine Or.inl (And.intro (And.intro (by simp only [kmin]; omega) (by simp only [kmax]; omega)) ?_) | refine Exists.intro _ (And.intro rfl ?_) | refine And.intro (by decide) ?_ | refine And.intro (by omega) ?_ | fail
  | succ m ih =>
    intro i acc hi ha hR
    have hlt : i < l.length := by omega
    have hb := hs.at hlt
    rw [List.drop_eq_getElem_cons hlt] at hR
    generalize hq : l[i] = x at hR hb
    have get : (rav l)[i]? = some x.av := (rav_get hlt).trans (by rw [hq])
    have hla : (rav acc).length = acc.length := by simp
    have hc := contI_ok ids hd x.g.id
    cases hw : inB x.g.id ids with
    | true =>
      rw [hw] at hc
      rw [without_neg hw] at hR
      have next := ih (i + 1) acc (by omega) (by omega) hR
      refine goes (hEo [5] []) 100 ?_
      conv => whnf
      refine And.intro (fun h => ?_) (fun h => absurd (of_decide_eq_false h) (by omega))
      repeat' first | (refine goN (hEo [5] []) 100 rfl ?_; conv => whnf) | refine Exists.intro i (And.intro rfl ?_) | refine Exists.intro _ (And.intro get ?_) | refine .pure _ [] hc ?_ | exact rfl | refine And.intro (fun _ => ?_) (fun h => absurd (show true = false from h) (by decide)) | refine And.intro (fun h => absurd (show false = true from h) (by decide)) (fun _ => ?_) | refine And.intro (fun h => ?_) (fun h => absurd (of_decide_eq_false h) (by omega)) | refine And.intro (fun h => absurd (of_decide_eq_true h) (by omega)) (fun h => ?_) | refine And.intro (fun h => ?_) (fun h => ?_) | refine Or.inl (And.intro (And.intro (by simp only [kmin]; omega) (by simp only [kmax]; omega)) ?_) | refine Exists.intro _ (And.intro rfl ?_) | refine And.intro (by decide) ?_ | refine And.intro (by omega) ?_ | fail
      refine To.part [1, 5, 8, 9, 10] [0] rfl rfl rfl ?_
      exact next
    | false =>
      rw [hw] at hc
      rw [without_pos hw] at hR
      have next := ih (i + 1) (acc ++ [x]) (by omega) (by simp; omega) (by rw [List.append_assoc]; exact hR)
      have e : rav (acc ++ [x]) = rav acc ++ [x.av] := by simp
      rw [e] at next
      refine goes (hEo [5] []) 100 ?_
      conv => whnf
      refine And.intro (fun h => ?_) (fun h => absurd (of_decide_eq_false h) (by omega))
      repeat' first | (refine goN (hEo [5] []) 100 rfl ?_; conv => whnf) | refine Exists.intro i (And.intro rfl ?_) | refine Exists.intro _ (And.intro get ?_) | refine .pure _ [] hc ?_ | refine .pure _ [] (vown_ok x hb) ?_ | refine And.intro (And.intro (by simp only [maxLen]; simp; omega) (by simp; omega)) ?_ | exact rfl | refine And.intro (fun _ => ?_) (fun h => absurd (show true = false from h) (by decide)) | refine And.intro (fun h => absurd (show false = true from h) (by decide)) (fun _ => ?_) | refine And.intro (fun h => ?_) (fun h => absurd (of_decide_eq_false h) (by omega)) | refine And.intro (fun h => absurd (of_decide_eq_true h) (by omega)) (fun h => ?_) | refine And.intro (fun h => ?_) (fun h => ?_) | refine Or.inl (And.intro (And.intro (by simp only [kmin]; omega) (by simp only [kmax]; omega)) ?_) | refine Exists.intro _ (And.intro rfl ?_) | refine And.intro (by decide) ?_ | refine And.intro (by omega) ?_ | fail
      refine To.part [1, 5, 8, 9, 10] [0] rfl rfl rfl ?_
      exact next
theorem without_ok (l : List Rn) (hs : Sm l) (ids : List Int) (hd : ids.length ≤ 1048576) : CallOK Tryz.prog 39 [.slice 14 (rav l) .no, .slice 1 (iv ids) .no] [] (.ret (.slice 14 (rav (withoutL l ids)) .no)) [] := by
  refine CallOK.to (E := (Eo [5] [])) (fn := Tryz.f39) (g := .pure _) (by rfl) (by rfl) (by rfl) (fun _ _ => by rfl) (by decide +kernel) (by rfl) (by rfl) (by rfl) fun _ => ?_
  refine goes (hEo [5] []) 100 ?_
  conv => whnf
  refine To.part [1, 5, 8, 9, 10] [0] rfl rfl rfl ?_
  exact wo_loop l hs ids hd _ l.length 0 [] (by omega) (by simp) rfl

/- ---------- Within, Borrows ---------- -/
theorem leafB_ok' {ns : List Nod} {t : Int} (h : leafB ns t = true) : 0 ≤ t ∧ t.toNat < ns.length := by
  unfold leafB at h
  by_cases h1 : 0 ≤ t
  · rw [if_pos (decide_eq_true h1)] at h
    by_cases h2 : t < (ns.length : Int)
    · omega
    · rw [if_neg (by rw [decide_eq_false h2]; decide)] at h
      cases h
  · rw [if_neg (by rw [decide_eq_false h1]; decide)] at h
    cases h
theorem vnod_get {c : Con} {t : Int} (h : 0 ≤ t ∧ t.toNat < c.ns.length) : (nav c.ns)[t.toNat]? = some (nodAt c.ns t).av := by
  unfold nodAt
  rw [List.getElem?_eq_getElem h.2]
  exact nav_get h.2
def withinB (c : Con) (used : List V3) (t : Int) (need : V3) : Bool := if leafB c.ns t = true then vfits (vadd (atV used t) need) (nodAt c.ns t).n else false
def borrowsB (c : Con) (used : List V3) (t : Int) : Bool := if leafB c.ns t = true then !vfits (atV used t) (nodAt c.ns t).n else false
theorem within_any (c : Con) (used : List V3) (t : Int) (need : V3) (r : Bool) (hr : withinB c used t need = r) : CallOK Tryz.prog 40 [c.av, .slice 3 (vav used) .no, ii t, need.av] [] (.ret (.bool r)) [] := by
  have hlf := leaf_ok c t
  unfold withinB at hr
  cases hq : leafB c.ns t with
  | false =>
    rw [hq] at hlf
    rw [if_neg (by rw [hq]; decide)] at hr
    subst hr
    refine CallOK.to (E := E) (fn := Tryz.f40) (g := .pure _) (by rfl) (by rfl) (by rfl) (fun _ _ => by rfl) (by decide +kernel) (by rfl) (by rfl) (by rfl) fun _ => ?_
    repeat' first | (refine goN hE 100 rfl ?_; conv => whnf) | refine .pure _ [] hlf ?_ | exact rfl | refine And.intro (fun _ => ?_) (fun h => absurd (show true = false from h) (by decide)) | refine And.intro (fun h => absurd (show false = true from h) (by decide)) (fun _ => ?_) | refine And.intro (fun h => ?_) (fun h => absurd (of_decide_eq_false h) (by omega)) | refine And.intro (fun h => absurd (of_decide_eq_true h) (by omega)) (fun h => ?_) | refine And.intro (fun h => ?_) (fun h => ?_) | refine Or.inl (And.intro (And.intro (by simp only [kmin]; omega) (by simp only [kmax]; omega)) ?_) | refine Exists.intro _ (And.intro rfl ?_) | refine And.intro (by decide) ?_ | refine And.intro (by omega) ?_ | fail
  | true =>
    rw [hq] at hlf
    rw [if_pos hq] at hr
    have hg := leafB_ok' hq
    have hn : t = (t.toNat : Int) := by omega
    have getn := vnod_get (c := c) hg
    generalize nodAt c.ns t = x at getn hr
    have h1 := atV_ok used t
    generalize atV used t = q1 at h1 hr
    have h2 := vadd_ok q1 need
    generalize vadd q1 need = q2 at h2 hr
    have h3 := vfits_ok q2 x.n
    rw [hr] at h3
    refine CallOK.to (E := E) (fn := Tryz.f40) (g := .pure _) (by rfl) (by rfl) (by rfl) (fun _ _ => by rfl) (by decide +kernel) (by rfl) (by rfl) (by rfl) fun _ => ?_
    repeat' first | (refine goN hE 100 rfl ?_; conv => whnf) | refine .pure _ [] hlf ?_ | refine Exists.intro t.toNat (And.intro hn ?_) | refine Exists.intro _ (And.intro getn ?_) | refine .pure _ [] h1 ?_ | refine .pure _ [] h2 ?_ | refine .pure _ [] h3 ?_ | exact rfl | refine And.intro (fun _ => ?_) (fun h => absurd (show true = false from h) (by decide)) | refine And.intro (fun h => absurd (show false = true from h) (by decide)) (fun _ => ?_) | refine And.intro (fun h => ?_) (fun h => absurd (of_decide_eq_false h) (by omega)) | refine And.intro (fun h => absurd (of_decide_eq_true h) (by omega)) (fun h => ?_) | refine And.intro (fun h => ?_) (fun h => ?_) | refine Or.inl (And.intro (And.intro (by simp only [kmin]; omega) (by simp only [kmax]; omega)) ?_) | refine Exists.intro _ (And.intro rfl ?_) | refine And.intro (by decide) ?_ | refine And.intro (by omega) ?_ | fail
theorem within_ok (c : Con) (used : List V3) (t : Int) (need : V3) : CallOK Tryz.prog 40 [c.av, .slice 3 (vav used) .no, ii t, need.av] [] (.ret (.bool (withinB c used t need))) [] := within_any c used t need _ rfl
theorem borrows_any (c : Con) (used : List V3) (t : Int) (r : Bool) (hr : borrowsB c used t = r) : CallOK Tryz.prog 46 [c.av, .slice 3 (vav used) .no, ii t] [] (.ret (.bool r)) [] := by
  have hlf := leaf_ok c t
  unfold borrowsB at hr
  cases hq : leafB c.ns t with
  | false =>
    rw [hq] at hlf
    rw [if_neg (by rw [hq]; decide)] at hr
    subst hr
    refine CallOK.to (E := E) (fn := Tryz.f46) (g := .pure _) (by rfl) (by rfl) (by rfl) (fun _ _ => by rfl) (by decide +kernel) (by rfl) (by rfl) (by rfl) fun _ => ?_
    repeat' first | (refine goN hE 100 rfl ?_; conv => whnf) | refine .pure _ [] hlf ?_ | exact rfl | refine And.intro (fun _ => ?_) (fun h => absurd (show true = false from h) (by decide)) | refine And.intro (fun h => absurd (show false = true from h) (by decide)) (fun _ => ?_) | refine And.intro (fun h => ?_) (fun h => absurd (of_decide_eq_false h) (by omega)) | refine And.intro (fun h => absurd (of_decide_eq_true h) (by omega)) (fun h => ?_) | refine And.intro (fun h => ?_) (fun h => ?_) | refine Or.inl (And.intro (And.intro (by simp only [kmin]; omega) (by simp only [kmax]; omega)) ?_) | refine Exists.intro _ (And.intro rfl ?_) | refine And.intro (by decide) ?_ | refine And.intro (by omega) ?_ | fail
  | true =>
    rw [hq] at hlf
    rw [if_pos hq] at hr
    have hg := leafB_ok' hq
    have hn : t = (t.toNat : Int) := by omega
    have getn := vnod_get (c := c) hg
    generalize nodAt c.ns t = x at getn hr
    have h1 := atV_ok used t
    generalize atV used t = q1 at h1 hr
    have h3 := vover_ok q1 x.n
    rw [hr] at h3
    refine CallOK.to (E := E) (fn := Tryz.f46) (g := .pure _) (by rfl) (by rfl) (by rfl) (fun _ _ => by rfl) (by decide +kernel) (by rfl) (by rfl) (by rfl) fun _ => ?_
    repeat' first | (refine goN hE 100 rfl ?_; conv => whnf) | refine .pure _ [] hlf ?_ | refine Exists.intro t.toNat (And.intro hn ?_) | refine Exists.intro _ (And.intro getn ?_) | refine .pure _ [] h1 ?_ | refine .pure _ [] h3 ?_ | exact rfl | refine And.intro (fun _ => ?_) (fun h => absurd (show true = false from h) (by decide)) | refine And.intro (fun h => absurd (show false = true from h) (by decide)) (fun _ => ?_) | refine And.intro (fun h => ?_) (fun h => absurd (of_decide_eq_false h) (by omega)) | refine And.intro (fun h => absurd (of_decide_eq_true h) (by omega)) (fun h => ?_) | refine And.intro (fun h => ?_) (fun h => ?_) | refine Or.inl (And.intro (And.intro (by simp only [kmin]; omega) (by simp only [kmax]; omega)) ?_) | refine Exists.intro _ (And.intro rfl ?_) | refine And.intro (by decide) ?_ | refine And.intro (by omega) ?_ | fail
theorem borrows_ok (c : Con) (used : List V3) (t : Int) : CallOK Tryz.prog 46 [c.av, .slice 3 (vav used) .no, ii t] [] (.ret (.bool (borrowsB c used t))) [] := borrows_any c used t _ rfl

/- ---------- the closures ---------- -/
def fitW (c : Con) (l : List Rn) (g : Gan) (ids : List Int) : Bool := (fitsL c (withoutL l ids) g).isSome
abbrev chO (c : Con) (l : List Rn) (g : Gan) : List AObj := [.cells 25 c.cs, .cells 27 [.slice 14 (rav l) .no], .cells 34 g.cs]
theorem ch1_any (c : Con) (hc : c.sm) (l : List Rn) (hs : Sm l) (g : Gan) (hg : 0 ≤ g.pods ∧ g.pods ≤ 16) (ids : List Int) (hd : ids.length ≤ 1048576) (r : Bool) (hr : fitW c l g ids = r) :
    CallOK Tryz.prog 43 [.slice 1 (iv ids) .no, .ref 0 0, .ref 1 0, .ref 2 0] (chO c l g) (.ret (.bool r)) (chO c l g) := by
  have hw := without_ok l hs ids hd
  have hf := fits_ok c hc (withoutL l ids) (without_sm hs ids) g hg
  unfold fitW at hr
  generalize withoutL l ids = left at hw hf hr
  generalize fitsL c left g = Q at hf hr
  subst hr
  unfold fdA at hf
  cases Q with
  | none =>
    refine CallOK.to (E := E) (fn := Tryz.f43) (g := .full 3 _ _) (by rfl) (by rfl) (by rfl) (fun _ _ => by rfl) (by decide +kernel) (by rfl) (by rfl) (by rfl) fun _ => ?_
    repeat' first | (refine goN hE 100 rfl ?_; conv => whnf) | refine .pure _ [] hw ?_ | refine .pure _ [] hf ?_ | refine ⟨[], [0, 1, 2], ⟨rfl, rfl⟩, ⟨rfl, rfl⟩⟩ | exact rfl | refine And.intro (fun _ => ?_) (fun h => absurd (show true = false from h) (by decide)) | refine And.intro (fun h => absurd (show false = true from h) (by decide)) (fun _ => ?_) | refine And.intro (fun h => ?_) (fun h => absurd (of_decide_eq_false h) (by omega)) | refine And.intro (fun h => absurd (of_decide_eq_true h) (by omega)) (fun h => ?_) | refine And.intro (fun h => ?_) (fun h => ?_) | refine Or.inl (And.intro (And.intro (by simp only [kmin]; omega) (by simp only [kmax]; omega)) ?_) | refine Exists.intro _ (And.intro rfl ?_) | refine And.intro (by decide) ?_ | refine And.intro (by omega) ?_ | fail
  | some x =>
    refine CallOK.to (E := E) (fn := Tryz.f43) (g := .full 3 _ _) (by rfl) (by rfl) (by rfl) (fun _ _ => by rfl) (by decide +kernel) (by rfl) (by rfl) (by rfl) fun _ => ?_
    repeat' first | (refine goN hE 100 rfl ?_; conv => whnf) | refine .pure _ [] hw ?_ | refine .pure _ [] hf ?_ | refine ⟨[], [0, 1, 2], ⟨rfl, rfl⟩, ⟨rfl, rfl⟩⟩ | exact rfl | refine And.intro (fun _ => ?_) (fun h => absurd (show true = false from h) (by decide)) | refine And.intro (fun h => absurd (show false = true from h) (by decide)) (fun _ => ?_) | refine And.intro (fun h => ?_) (fun h => absurd (of_decide_eq_false h) (by omega)) | refine And.intro (fun h => absurd (of_decide_eq_true h) (by omega)) (fun h => ?_) | refine And.intro (fun h => ?_) (fun h => ?_) | refine Or.inl (And.intro (And.intro (by simp only [kmin]; omega) (by simp only [kmax]; omega)) ?_) | refine Exists.intro _ (And.intro rfl ?_) | refine And.intro (by decide) ?_ | refine And.intro (by omega) ?_ | fail
abbrev ch2O (c : Con) (used : List V3) : List AObj := [.cells 25 c.cs, .cells 51 [.slice 3 (vav used) .no]]
theorem ch2_ok (c : Con) (used : List V3) (x : Rn) : CallOK Tryz.prog 45 [x.av, .ref 0 0, .ref 1 0] (ch2O c used) (.ret (.bool (borrowsB c used x.g.ten))) (ch2O c used) := by
  have hb := borrows_ok c used x.g.ten
  generalize borrowsB c used x.g.ten = r at hb
  refine CallOK.to (E := E) (fn := Tryz.f45) (g := .full 2 _ _) (by rfl) (by rfl) (by rfl) (fun _ _ => by rfl) (by decide +kernel) (by rfl) (by rfl) (by rfl) fun _ => ?_
  repeat' first | (refine goN hE 100 rfl ?_; conv => whnf) | refine .pure _ [] hb ?_ | refine ⟨[], [0, 1], ⟨rfl, rfl⟩, ⟨rfl, rfl⟩⟩ | exact rfl | refine And.intro (fun _ => ?_) (fun h => absurd (show true = false from h) (by decide)) | refine And.intro (fun h => absurd (show false = true from h) (by decide)) (fun _ => ?_) | refine And.intro (fun h => ?_) (fun h => absurd (of_decide_eq_false h) (by omega)) | refine And.intro (fun h => absurd (of_decide_eq_true h) (by omega)) (fun h => ?_) | refine And.intro (fun h => ?_) (fun h => ?_) | refine Or.inl (And.intro (And.intro (by simp only [kmin]; omega) (by simp only [kmax]; omega)) ?_) | refine Exists.intro _ (And.intro rfl ?_) | refine And.intro (by decide) ?_ | refine And.intro (by omega) ?_ | fail
theorem ch3_ok (x a : Int) : CallOK Tryz.prog 49 [ii x, .ref 0 0] [.cells 3 [ii a]] (.ret (.bool (x == a))) [.cells 3 [ii a]] := by
  refine CallOK.to (E := E) (fn := Tryz.f49) (g := .full 1 _ _) (by rfl) (by rfl) (by rfl) (fun _ _ => by rfl) (by decide +kernel) (by rfl) (by rfl) (by rfl) fun _ => ?_
  repeat' first | (refine goN hE 100 rfl ?_; conv => whnf) | refine ⟨[], [0], ⟨rfl, rfl⟩, ⟨rfl, rfl⟩⟩ | exact rfl | refine And.intro (fun _ => ?_) (fun h => absurd (show true = false from h) (by decide)) | refine And.intro (fun h => absurd (show false = true from h) (by decide)) (fun _ => ?_) | refine And.intro (fun h => ?_) (fun h => absurd (of_decide_eq_false h) (by omega)) | refine And.intro (fun h => absurd (of_decide_eq_true h) (by omega)) (fun h => ?_) | refine And.intro (fun h => ?_) (fun h => ?_) | refine Or.inl (And.intro (And.intro (by simp only [kmin]; omega) (by simp only [kmax]; omega)) ?_) | refine Exists.intro _ (And.intro rfl ?_) | refine And.intro (by decide) ?_ | refine And.intro (by omega) ?_ | fail
/-- where the first one stands that borrows -/
def findR (p : Rn → Bool) : List Rn → Nat → Int
  | [], _ => -1
  | x :: r, i => if p x = true then (i : Int) else findR p r (i + 1)
noncomputable abbrev fIdxR : Func := Tryz.f44
abbrev ch2F : AVal := .func (.func 45) [] [.ref 0 0, .ref 1 0]
theorem idxR_loop (c : Con) (used : List V3) (l : List Rn) (hl : l.length ≤ 1048576) (r : Int) : ∀ (m i : Nat), i + m = l.length → findR (fun x => borrowsB c used x.g.ten) (l.drop i) i = r →
    To E fIdxR (.full 2 (.ret (ii r)) (ch2O c used)) (.head (stk fIdxR 0) [(0, .slice 14 (rav l) .no), (1, ch2F), (7, .int .i64 ((rav l).length : Nat)), (8, ii i)] (ch2O c used)) := by
  have hlen : (rav l).length = l.length := by simp
  intro m
  induction m with
  | zero =>
    intro i hi hr
    rw [List.drop_eq_nil_of_le (by omega)] at hr
    have hr : -1 = r := hr
    subst hr
    refine goes hE 100 ?_
    conv => whnf
    refine And.intro (fun h => absurd (of_decide_eq_true h) (by omega)) (fun h => ?_)
    repeat' first | (refine goN hE 100 rfl ?_; conv => whnf) | refine ⟨[], [0, 1], ⟨rfl, rfl⟩, ⟨rfl, rfl⟩⟩ | exact rfl | refine And.intro (fun _ => ?_) (fun h => absurd (show true = false from h) (by decide)) | refine And.intro (fun h => absurd (show false = true from h) (by decide)) (fun _ => ?_) | refine And.intro (fun h => ?_) (fun h => absurd (of_decide_eq_false h) (by omega)) | refine And.intro (fun h => absurd (of_decide_eq_true h) (by omega)) (fun h => ?_) | refine And.intro (fun h => ?_) (fun h => ?_) | refine Or.inl (And.intro (And.intro (by simp only [kmin]; omega) (by simp only [kmax]; omega)) ?_) | refine Exists.intro _ (And.intro rfl ?_) | refine And.intro (by decide) ?_ | refine And.intro (by omega) ?_ | fail
  | succ m ih =>
    intro i hi hr
    have hlt : i < l.length := by omega
    rw [List.drop_eq_getElem_cons hlt] at hr
    have get : (rav l)[i]? = some l[i].av := rav_get hlt
    generalize l[i] = x at hr get
    unfold findR at hr
    have hb := ch2_ok c used x
    have ih := ih (i + 1) (by omega)
    cases hq : borrowsB c used x.g.ten with
    | true =>
      rw [if_pos hq] at hr
      rw [hq] at hb
      subst hr
      refine goes hE 100 ?_
      conv => whnf
      refine And.intro (fun h => ?_) (fun h => absurd (of_decide_eq_false h) (by omega))
      repeat' first | (refine goN hE 100 rfl ?_; conv => whnf) | refine Exists.intro i (And.intro rfl ?_) | refine Exists.intro _ (And.intro get ?_) | refine .eff [] [0, 1] _ _ rfl hb ?_ | refine ⟨[], [0, 1], ⟨rfl, rfl⟩, ⟨rfl, rfl⟩⟩ | exact rfl | refine And.intro (fun _ => ?_) (fun h => absurd (show true = false from h) (by decide)) | refine And.intro (fun h => absurd (show false = true from h) (by decide)) (fun _ => ?_) | refine And.intro (fun h => ?_) (fun h => absurd (of_decide_eq_false h) (by omega)) | refine And.intro (fun h => absurd (of_decide_eq_true h) (by omega)) (fun h => ?_) | refine And.intro (fun h => ?_) (fun h => ?_) | refine Or.inl (And.intro (And.intro (by simp only [kmin]; omega) (by simp only [kmax]; omega)) ?_) | refine Exists.intro _ (And.intro rfl ?_) | refine And.intro (by decide) ?_ | refine And.intro (by omega) ?_ | fail
    | false =>
      rw [if_neg (by rw [hq]; decide)] at hr
      rw [hq] at hb
      have next := ih hr
      refine goes hE 100 ?_
      conv => whnf
      refine And.intro (fun h => ?_) (fun h => absurd (of_decide_eq_false h) (by omega))
      repeat' first | (refine goN hE 100 rfl ?_; conv => whnf) | refine Exists.intro i (And.intro rfl ?_) | refine Exists.intro _ (And.intro get ?_) | refine .eff [] [0, 1] _ _ rfl hb ?_ | exact rfl | refine And.intro (fun _ => ?_) (fun h => absurd (show true = false from h) (by decide)) | refine And.intro (fun h => absurd (show false = true from h) (by decide)) (fun _ => ?_) | refine And.intro (fun h => ?_) (fun h => absurd (of_decide_eq_false h) (by omega)) | refine And.intro (fun h => absurd (of_decide_eq_true h) (by omega)) (fun h => ?_) | refine And.intro (fun h => ?_) (fun h => ?_) | refine Or.inl (And.intro (And.intro (by simp only [kmin]; omega) (by simp only [kmax]; omega)) ?_) | refine Exists.intro _ (And.intro rfl ?_) | refine And.intro (by decide) ?_ | refine And.intro (by omega) ?_ | fail
      exact To.cut [0, 1, 7, 8] 2 rfl rfl rfl rfl next
theorem idxR_ok (c : Con) (used : List V3) (l : List Rn) (hl : l.length ≤ 1048576) : CallOK Tryz.prog 44 [.slice 14 (rav l) .no, ch2F] (ch2O c used) (.ret (ii (findR (fun x => borrowsB c used x.g.ten) l 0))) (ch2O c used) := by
  refine CallOK.to (E := E) (fn := Tryz.f44) (g := .full 2 _ _) (by rfl) (by rfl) (by rfl) (fun _ _ => by rfl) (by decide +kernel) (by rfl) (by rfl) (by rfl) fun _ => ?_
  refine goes hE 100 ?_
  conv => whnf
  exact To.cut [0, 1, 7, 8] 2 rfl rfl rfl rfl (idxR_loop c used l hl _ l.length 0 (by omega) rfl)
end Go.Proofs.YtlalcoklkafnnaaGreat

namespace Go.Proofs.YtlalcoklkafnnaaGreat
open Go Go.AW Go.Proofs
set_option maxRecDepth 10000

theorem cloneR_ok (l : List Int) (h : l.length ≤ 1048576) : CallOK Tryz.prog 47 [.slice 1 (iv l) .no] [] (.ret (.row 0 0)) [.row 0 1 3 (iv l)] := by
  have hlen : (iv l).length = l.length := by simp
  refine CallOK.to (E := (Er [2, 5] [])) (fn := Tryz.f47) (g := .full 0 _ _) (by rfl) (by rfl) (by rfl) (fun _ _ => by rfl) (by decide +kernel) (by rfl) (by rfl) (by rfl) fun _ => ?_
  refine goes (hEr [2, 5] []) 100 ?_
  conv => whnf
  intro b hb
  refine goes (hEr [2, 5] []) 100 ?_
  conv => whnf
  refine ⟨fun h => ?_, fun h => ?_⟩
  · refine goes (hEr [2, 5] []) 100 ?_
    conv => whnf
    refine ⟨[], [1], ⟨rfl, rfl⟩, ?_⟩
    conv => whnf
    rw [hb (by simpa using h)]
    exact ⟨rfl, rfl⟩
  · refine goes (hEr [2, 5] []) 100 ?_
    conv => whnf
    refine ⟨⟨by simp only [maxLen]; simp; omega, by simp; omega⟩, ?_⟩
    refine goes (hEr [2, 5] []) 100 ?_
    conv => whnf
    refine ⟨[], [1], ⟨rfl, rfl⟩, ?_⟩
    exact ⟨rfl, rfl⟩
abbrev ch3F : AVal := .func (.func 49) [] [.ref 1 0]
abbrev dlO (l : List Int) (a : Int) : List AObj := [.row 0 1 3 (iv l), .cells 3 [ii a]]
noncomputable abbrev fIdxF : Func := Tryz.f91
theorem idxF_loop (l : List Int) (hl : l.length ≤ 1048576) (a r : Int) : ∀ (m i : Nat), i + m = l.length → findI (fun x => x == a) (l.drop i) i = r →
    To E fIdxF (.full 2 (.ret (ii r)) (dlO l a)) (.head (stk fIdxF 0) [(0, .row 0 0), (1, ch3F), (7, .int .i64 ((iv l).length : Nat)), (8, ii i)] (dlO l a)) := by
  have hlen : (iv l).length = l.length := by simp
  intro m
  induction m with
  | zero =>
    intro i hi hr
    rw [List.drop_eq_nil_of_le (by omega)] at hr
    have hr : -1 = r := hr
    subst hr
    refine goes hE 100 ?_
    conv => whnf
    refine And.intro (fun h => absurd (of_decide_eq_true h) (by omega)) (fun h => ?_)
    repeat' first | (refine goN hE 100 rfl ?_; conv => whnf) | refine ⟨[], [0, 1], ⟨rfl, rfl⟩, ⟨rfl, rfl⟩⟩ | exact rfl | refine And.intro (fun _ => ?_) (fun h => absurd (show true = false from h) (by decide)) | refine And.intro (fun h => absurd (show false = true from h) (by decide)) (fun _ => ?_) | refine And.intro (fun h => ?_) (fun h => absurd (of_decide_eq_false h) (by omega)) | refine And.intro (fun h => absurd (of_decide_eq_true h) (by omega)) (fun h => ?_) | refine And.intro (fun h => ?_) (fun h => ?_) | refine Or.inl (And.intro (And.intro (by simp only [kmin]; omega) (by simp only [kmax]; omega)) ?_) | refine Exists.intro _ (And.intro rfl ?_) | refine And.intro (by decide) ?_ | refine And.intro (by omega) ?_ | fail
  | succ m ih =>
    intro i hi hr
    have hlt : i < l.length := by omega
    rw [List.drop_eq_getElem_cons hlt] at hr
    have get := iv_get hlt
    generalize l[i] = x at hr get
    unfold findI at hr
    have hb := ch3_ok x a
    have ih := ih (i + 1) (by omega)
    cases hq : (x == a) with
    | true =>
      rw [if_pos hq] at hr
      rw [hq] at hb
      subst hr
      refine goes hE 100 ?_
      conv => whnf
      refine And.intro (fun h => ?_) (fun h => absurd (of_decide_eq_false h) (by omega))
      repeat' first | (refine goN hE 100 rfl ?_; conv => whnf) | refine Exists.intro i (And.intro rfl ?_) | refine Exists.intro _ (And.intro get ?_) | refine .eff [] [1] _ _ rfl hb ?_ | refine ⟨[], [0, 1], ⟨rfl, rfl⟩, ⟨rfl, rfl⟩⟩ | exact rfl | refine And.intro (fun _ => ?_) (fun h => absurd (show true = false from h) (by decide)) | refine And.intro (fun h => absurd (show false = true from h) (by decide)) (fun _ => ?_) | refine And.intro (fun h => ?_) (fun h => absurd (of_decide_eq_false h) (by omega)) | refine And.intro (fun h => absurd (of_decide_eq_true h) (by omega)) (fun h => ?_) | refine And.intro (fun h => ?_) (fun h => ?_) | refine Or.inl (And.intro (And.intro (by simp only [kmin]; omega) (by simp only [kmax]; omega)) ?_) | refine Exists.intro _ (And.intro rfl ?_) | refine And.intro (by decide) ?_ | refine And.intro (by omega) ?_ | fail
    | false =>
      rw [if_neg (by rw [hq]; decide)] at hr
      rw [hq] at hb
      have next := ih hr
      refine goes hE 100 ?_
      conv => whnf
      refine And.intro (fun h => ?_) (fun h => absurd (of_decide_eq_false h) (by omega))
      repeat' first | (refine goN hE 100 rfl ?_; conv => whnf) | refine Exists.intro i (And.intro rfl ?_) | refine Exists.intro _ (And.intro get ?_) | refine .eff [] [1] _ _ rfl hb ?_ | exact rfl | refine And.intro (fun _ => ?_) (fun h => absurd (show true = false from h) (by decide)) | refine And.intro (fun h => absurd (show false = true from h) (by decide)) (fun _ => ?_) | refine And.intro (fun h => ?_) (fun h => absurd (of_decide_eq_false h) (by omega)) | refine And.intro (fun h => absurd (of_decide_eq_true h) (by omega)) (fun h => ?_) | refine And.intro (fun h => ?_) (fun h => ?_) | refine Or.inl (And.intro (And.intro (by simp only [kmin]; omega) (by simp only [kmax]; omega)) ?_) | refine Exists.intro _ (And.intro rfl ?_) | refine And.intro (by decide) ?_ | refine And.intro (by omega) ?_ | fail
      exact To.cut [0, 1, 7, 8] 2 rfl rfl rfl rfl next
theorem idxF_ok (l : List Int) (hl : l.length ≤ 1048576) (a : Int) : CallOK Tryz.prog 91 [.row 0 0, ch3F] (dlO l a) (.ret (ii (findI (fun x => x == a) l 0))) (dlO l a) := by
  refine CallOK.to (E := E) (fn := Tryz.f91) (g := .full 2 _ _) (by rfl) (by rfl) (by rfl) (fun _ _ => by rfl) (by decide +kernel) (by rfl) (by rfl) (by rfl) fun _ => ?_
  refine goes hE 100 ?_
  conv => whnf
  exact To.cut [0, 1, 7, 8] 2 rfl rfl rfl rfl (idxF_loop l hl a _ l.length 0 (by omega) rfl)
/-- all but one number -/
def lessL (l : List Int) (a : Int) : List Int := l.filter fun x => !(x == a)
theorem findI_no (p : Int → Bool) : ∀ (l : List Int) (i : Nat), l.any p = false → findI p l i = -1
  | [], i, _ => rfl
  | x :: r, i, h => by
    rw [List.any_cons, Bool.or_eq_false_iff] at h
    unfold findI
    rw [if_neg (by rw [h.1]; decide)]
    exact findI_no p r (i + 1) h.2
theorem findI_yes (p : Int → Bool) : ∀ (l : List Int) (i : Nat), l.any p = true → ∃ k, k < l.length ∧ findI p l i = ((i + k : Nat) : Int) ∧ (∀ x ∈ l.take k, p x = false) ∧ ∃ x, l[k]? = some x ∧ p x = true
  | [], i, h => by simp at h
  | x :: r, i, h => by
    unfold findI
    cases hq : p x with
    | true => exact ⟨0, by simp, by rw [if_pos rfl]; simp, by simp, x, rfl, hq⟩
    | false =>
      rw [List.any_cons, hq, Bool.false_or] at h
      obtain ⟨k, h1, h2, h3, y, h4, h5⟩ := findI_yes p r (i + 1) h
      refine ⟨k + 1, by simp; omega, ?_, fun z hz => ?_, y, by simpa using h4, h5⟩
      · rw [if_neg (by decide), h2]
        congr 1
        omega
      · simp only [List.take_succ_cons, List.mem_cons] at hz
        rcases hz with rfl | hz
        · exact hq
        · exact h3 z hz
theorem del_no (l : List Int) (hl : l.length ≤ 1048576) (a : Int) (h : (l.any fun x => x == a) = false) : CallOK Tryz.prog 48 [.row 0 0, ch3F] (dlO l a) (.ret (.row 0 0)) (dlO l a) := by
  have hi := idxF_ok l hl a
  rw [findI_no _ l 0 h] at hi
  refine CallOK.to (E := E) (fn := Tryz.f48) (g := .full 2 _ _) (by rfl) (by rfl) (by rfl) (fun _ _ => by rfl) (by decide +kernel) (by rfl) (by rfl) (by rfl) fun _ => ?_
  repeat' first | (refine goN hE 100 rfl ?_; conv => whnf) | refine .eff [] [0, 1] _ _ rfl hi ?_ | refine ⟨[], [0, 1], ⟨rfl, rfl⟩, ⟨rfl, rfl⟩⟩ | exact rfl | refine And.intro (fun _ => ?_) (fun h => absurd (show true = false from h) (by decide)) | refine And.intro (fun h => absurd (show false = true from h) (by decide)) (fun _ => ?_) | refine And.intro (fun h => ?_) (fun h => absurd (of_decide_eq_false h) (by omega)) | refine And.intro (fun h => absurd (of_decide_eq_true h) (by omega)) (fun h => ?_) | refine And.intro (fun h => ?_) (fun h => ?_) | refine Or.inl (And.intro (And.intro (by simp only [kmin]; omega) (by simp only [kmax]; omega)) ?_) | refine Exists.intro _ (And.intro rfl ?_) | refine And.intro (by decide) ?_ | refine And.intro (by omega) ?_ | fail
noncomputable abbrev fDel : Func := Tryz.f48
abbrev dlO' (z : List AVal) (a : Int) : List AObj := [.row 0 1 3 z, .cells 3 [ii a]]
theorem iv_set (l : List Int) (i : Nat) (x : Int) : (iv l).set i (ii x) = iv (l.set i x) := by simp [iv, List.map_set]
theorem del_loop (l : List Int) (hl : l.length ≤ 1048576) (a : Int) (R : List Int) : ∀ (m j i : Nat) (z : List Int), j + m = l.length → i < j → z.length = l.length → z.drop j = l.drop j → z.take i ++ lessL (l.drop j) a = R →
    To E fDel (.full 2 (.ret (.sub 0 0 0 R.length 1)) (dlO' (iv R ++ List.replicate (l.length - R.length) (ii 0)) a)) (.head (stk fDel 0) [(0, .row 0 0), (1, ch3F), (5, ii i), (6, ii j)] (dlO z a)) := by
  intro m
  induction m with
  | zero =>
    intro j i z hj hi hz hd hR
    have hzl : (iv z).length = z.length := by simp
    rw [List.drop_eq_nil_of_le (by omega)] at hR
    have hR : z.take i ++ [] = R := hR
    rw [List.append_nil] at hR
    have hRl : R.length = i := by rw [← hR]; simp; omega
    have e : (iv z).take i = iv R := by rw [← hR]; simp
    rw [hRl]
    refine goes hE 100 ?_
    conv => whnf
    refine And.intro (fun h => absurd (of_decide_eq_true h) (by omega)) (fun h => ?_)
    repeat' first | (refine goN hE 100 rfl ?_; conv => whnf) | refine Exists.intro i (And.intro rfl ?_) | exact rfl | refine And.intro (fun _ => ?_) (fun h => absurd (show true = false from h) (by decide)) | refine And.intro (fun h => absurd (show false = true from h) (by decide)) (fun _ => ?_) | refine And.intro (fun h => ?_) (fun h => absurd (of_decide_eq_false h) (by omega)) | refine And.intro (fun h => absurd (of_decide_eq_true h) (by omega)) (fun h => ?_) | refine And.intro (fun h => ?_) (fun h => ?_) | refine Or.inl (And.intro (And.intro (by simp only [kmin]; omega) (by simp only [kmax]; omega)) ?_) | refine Exists.intro _ (And.intro rfl ?_) | refine And.intro (by decide) ?_ | refine And.intro (by omega) ?_ | fail
    refine And.intro (by simp; omega) ?_
    refine goes hE 100 ?_
    conv => whnf
    refine ⟨[], [0, 1], ⟨rfl, rfl⟩, ?_⟩
    conv => whnf
    refine ⟨rfl, ?_⟩
    have e3 : List.drop (i + ((iv z).length - i)) (iv z) = [] := List.drop_eq_nil_of_le (by omega)
    have e4 : List.take i (iv z) ++ List.replicate ((iv z).length - i) (ii 0) ++ List.drop (i + ((iv z).length - i)) (iv z) = iv R ++ List.replicate (l.length - i) (ii 0) := by rw [e, e3, List.append_nil, hzl, hz]
    exact congrArg (fun l => [AObj.row 0 1 3 l, .cells 3 [ii a]]) e4
  | succ m ih =>
    intro j i z hj hi hz hd hR
    have hzl : (iv z).length = z.length := by simp
    have hlt : j < l.length := by omega
    rw [List.drop_eq_getElem_cons hlt] at hR
    have hzj : z[j]? = some l[j] := by
      have := congrArg (fun q => q[0]?) hd
      simpa [List.getElem?_drop, List.getElem?_eq_getElem hlt] using this
    have get : (iv z)[j]? = some (ii l[j]) := by simp [hzj]
    have hd1 : z.drop (j + 1) = l.drop (j + 1) := by
      have := congrArg (List.drop 1) hd
      rwa [List.drop_drop, List.drop_drop] at this
    generalize l[j] = x at hR get hzj
    have hb := ch3_ok x a
    unfold lessL at hR
    rw [List.filter_cons] at hR
    cases hq : (x == a) with
    | true =>
      rw [hq] at hb hR
      have next := ih (j + 1) i z (by omega) (by omega) hz hd1 hR
      refine goes hE 100 ?_
      conv => whnf
      refine And.intro (fun h => ?_) (fun h => absurd (of_decide_eq_false h) (by omega))
      repeat' first | (refine goN hE 100 rfl ?_; conv => whnf) | refine Exists.intro j (And.intro rfl ?_) | refine Exists.intro _ (And.intro get ?_) | refine .eff [] [1] _ _ rfl hb ?_ | exact rfl | refine And.intro (fun _ => ?_) (fun h => absurd (show true = false from h) (by decide)) | refine And.intro (fun h => absurd (show false = true from h) (by decide)) (fun _ => ?_) | refine And.intro (fun h => ?_) (fun h => absurd (of_decide_eq_false h) (by omega)) | refine And.intro (fun h => absurd (of_decide_eq_true h) (by omega)) (fun h => ?_) | refine And.intro (fun h => ?_) (fun h => ?_) | refine Or.inl (And.intro (And.intro (by simp only [kmin]; omega) (by simp only [kmax]; omega)) ?_) | refine Exists.intro _ (And.intro rfl ?_) | refine And.intro (by decide) ?_ | refine And.intro (by omega) ?_ | fail
      exact To.cut [0, 1, 5, 6] 2 rfl rfl rfl rfl next
    | false =>
      rw [hq] at hb hR
      have next := ih (j + 1) (i + 1) (z.set i x) (by omega) (by omega) (by simp; exact hz) (by rw [List.drop_set_of_lt (by omega)]; exact hd1) (by
        have e1 : (z.set i x).take (i + 1) = z.take i ++ [x] := by
          rw [List.take_add_one, List.getElem?_set_self (by omega), List.take_set_of_le (Nat.le_refl _)]
          rfl
        rw [e1, List.append_assoc]
        exact hR)
      unfold dlO at next
      rw [← iv_set] at next
      refine goes hE 100 ?_
      conv => whnf
      refine And.intro (fun h => ?_) (fun h => absurd (of_decide_eq_false h) (by omega))
      repeat' first | (refine goN hE 100 rfl ?_; conv => whnf) | refine Exists.intro j (And.intro rfl ?_) | refine Exists.intro i (And.intro rfl ?_) | refine Exists.intro _ (And.intro get ?_) | refine .eff [] [1] _ _ rfl hb ?_ | exact rfl | refine And.intro (fun _ => ?_) (fun h => absurd (show true = false from h) (by decide)) | refine And.intro (fun h => absurd (show false = true from h) (by decide)) (fun _ => ?_) | refine And.intro (fun h => ?_) (fun h => absurd (of_decide_eq_false h) (by omega)) | refine And.intro (fun h => absurd (of_decide_eq_true h) (by omega)) (fun h => ?_) | refine And.intro (fun h => ?_) (fun h => ?_) | refine Or.inl (And.intro (And.intro (by simp only [kmin]; omega) (by simp only [kmax]; omega)) ?_) | refine Exists.intro _ (And.intro rfl ?_) | refine And.intro (by decide) ?_ | refine And.intro (by omega) ?_ | fail
      exact To.cut [0, 1, 5, 6] 2 rfl rfl rfl rfl next
theorem del_yes (l : List Int) (hl : l.length ≤ 1048576) (a : Int) (h : (l.any fun x => x == a) = true) : CallOK Tryz.prog 48 [.row 0 0, ch3F] (dlO l a) (.ret (.sub 0 0 0 (lessL l a).length 1)) (dlO' (iv (lessL l a) ++ List.replicate (l.length - (lessL l a).length) (ii 0)) a) := by
  have hi := idxF_ok l hl a
  obtain ⟨k, h1, h2, h3, x, h4, h5⟩ := findI_yes (fun x => x == a) l 0 h
  rw [h2] at hi
  rw [Nat.zero_add] at hi
  have hne : ((k : Int) == -1) = false := by simp
  have next := del_loop l hl a (lessL l a) (l.length - (k + 1)) (k + 1) k l (by omega) (by omega) rfl rfl (by
    conv => rhs; rw [← List.take_append_drop k l]
    have hx : x = a := by simpa using h5
    have e : l.drop k = x :: l.drop (k + 1) := by
      rw [List.drop_eq_getElem_cons h1]
      rw [List.getElem?_eq_getElem h1] at h4
      cases h4
      rfl
    unfold lessL
    rw [List.filter_append, e, List.filter_cons, h5]
    have e2 : (l.take k).filter (fun x => !(x == a)) = l.take k := List.filter_eq_self.2 fun y hy => by rw [h3 y hy]; rfl
    rw [e2]
    rfl)
  refine CallOK.to (E := E) (fn := Tryz.f48) (g := .full 2 _ _) (by rfl) (by rfl) (by rfl) (fun _ _ => by rfl) (by decide +kernel) (by rfl) (by rfl) (by rfl) fun _ => ?_
  repeat' first | (refine goN hE 100 rfl ?_; conv => whnf) | refine .eff [] [0, 1] _ _ rfl hi ?_ | refine And.intro (fun h => absurd h (by rw [hne]; decide)) (fun h => ?_) | exact rfl | refine And.intro (fun _ => ?_) (fun h => absurd (show true = false from h) (by decide)) | refine And.intro (fun h => absurd (show false = true from h) (by decide)) (fun _ => ?_) | refine And.intro (fun h => ?_) (fun h => absurd (of_decide_eq_false h) (by omega)) | refine And.intro (fun h => absurd (of_decide_eq_true h) (by omega)) (fun h => ?_) | refine And.intro (fun h => ?_) (fun h => ?_) | refine Or.inl (And.intro (And.intro (by simp only [kmin]; omega) (by simp only [kmax]; omega)) ?_) | refine Exists.intro _ (And.intro rfl ?_) | refine And.intro (by decide) ?_ | refine And.intro (by omega) ?_ | fail
  exact To.cut [0, 1, 5, 6] 2 rfl rfl rfl rfl next
end Go.Proofs.YtlalcoklkafnnaaGreat

namespace Go.Proofs.YtlalcoklkafnnaaGreat
open Go Go.AW Go.Proofs
set_option maxRecDepth 10000

/- ---------- whom Order gives ---------- -/
theorem getR_mem {xs : List Rn} {i : Nat} (h : i < xs.length) : getR xs i ∈ xs := by
  unfold getR
  rw [List.getElem?_eq_getElem h]
  exact List.getElem_mem h
theorem swapR_mem {xs : List Rn} {i k : Nat} (hi : i < xs.length) (hk : k < xs.length) {y : Rn} (h : y ∈ swapR xs i k) : y ∈ xs := by
  unfold swapR at h
  rcases List.mem_or_eq_of_mem_set h with h | rfl
  · rcases List.mem_or_eq_of_mem_set h with h | rfl
    · exact h
    · exact getR_mem hk
  · exact getR_mem hi
theorem upH_mem {y : Rn} : ∀ (f : Nat) (xs : List Rn) (i : Nat), i < xs.length → y ∈ upH f xs i → y ∈ xs
  | 0, xs, i, _, h => h
  | f + 1, xs, i, hi, h => by
    unfold upH at h
    split at h
    · exact h
    · split at h
      · exact swapR_mem hi (by omega) (upH_mem f _ _ (by rw [swapR_len]; omega) h)
      · exact h
theorem pushH_mem {xs : List Rn} {x y : Rn} (h : y ∈ pushH xs x) : y ∈ xs ∨ y = x := by
  have := upH_mem _ _ _ (by simp) h
  simpa using this
theorem pushes_mem {y : Rn} : ∀ (l xs : List Rn), y ∈ l.foldl pushH xs → y ∈ xs ∨ y ∈ l
  | [], xs, h => .inl h
  | x :: r, xs, h => by
    rcases pushes_mem r _ h with h | h
    · rcases pushH_mem h with h | rfl
      · exact .inl h
      · exact .inr (by simp)
    · exact .inr (by simp [h])
theorem downH_mem {y : Rn} : ∀ (f : Nat) (xs : List Rn) (n i : Nat), n ≤ xs.length → i < xs.length → y ∈ downH f xs n i → y ∈ xs
  | 0, xs, n, i, _, _, h => h
  | f + 1, xs, n, i, hn, hi, h => by
    unfold downH at h
    split at h
    · rename_i h0
      have hk := downK_r xs n i h0
      split at h
      · exact swapR_mem hi (by omega) (downH_mem f _ n _ (by rw [swapR_len]; exact hn) (by rw [swapR_len]; omega) h)
      · exact h
    · exact h
theorem popH_mem {xs : List Rn} {n : Nat} (h0 : 0 < n) (hn : n ≤ xs.length) {y : Rn} (h : y ∈ popH xs n) : y ∈ xs := by
  unfold popH at h
  have := downH_mem n (xs.set 0 (getR xs (n - 1))) (n - 1) 0 (by simp; omega) (by simp; omega) h
  rcases List.mem_or_eq_of_mem_set this with h | rfl
  · exact h
  · exact getR_mem (by omega)
theorem popAll_mem {y : Rn} : ∀ (n : Nat) (xs : List Rn), n ≤ xs.length → y ∈ popAll n xs → y ∈ xs
  | 0, xs, _, h => by cases h
  | n + 1, xs, hn, h => by
    unfold popAll at h
    rcases List.mem_cons.1 h with rfl | h
    · exact getR_mem (by omega)
    · exact popH_mem (by omega) hn (popAll_mem n _ (by rw [popH_len]; omega) h)
theorem order_mem {l : List Rn} {y : Rn} (h : y ∈ orderL l) : y ∈ l := by
  unfold orderL at h
  have := popAll_mem _ _ (by rw [pushes_len]; simp) h
  rcases pushes_mem l [] this with h | h
  · cases h
  · exact h
theorem popAll_len : ∀ (n : Nat) (xs : List Rn), (popAll n xs).length = n
  | 0, xs => rfl
  | n + 1, xs => by unfold popAll; rw [List.length_cons, popAll_len n]
theorem orderL_len (l : List Rn) : (orderL l).length = l.length := popAll_len _ _
theorem order_sm {l : List Rn} (h : Sm l) : Sm (orderL l) := ⟨by rw [orderL_len]; exact h.1, fun x hx => h.2 x (order_mem hx)⟩
theorem findR_lt (p : Rn → Bool) : ∀ (l : List Rn) (i : Nat), findR p l i = -1 ∨ ∃ k, k < l.length ∧ findR p l i = ((i + k : Nat) : Int) ∧ p (getR l k) = true
  | [], i => .inl rfl
  | x :: r, i => by
    unfold findR
    cases hq : p x with
    | true => exact .inr ⟨0, by simp, by rw [if_pos rfl]; simp, hq⟩
    | false =>
      rw [if_neg (by decide)]
      rcases findR_lt p r (i + 1) with h | ⟨k, h1, h2, h3⟩
      · exact .inl h
      · refine .inr ⟨k + 1, by simp; omega, by rw [h2]; congr 1; omega, ?_⟩
        unfold getR at h3 ⊢
        simpa using h3

/- ---------- Choose ---------- -/
def atI (c : Con) (l : List Rn) (ids : List Int) : Int := findR (fun x => borrowsB c (ofL c (withoutL l ids)) x.g.ten) (orderL (withoutL l ids)) 0
def nextI (c : Con) (l : List Rn) (ids : List Int) : Option Int := if atI c l ids < 0 then none else some (getR (orderL (withoutL l ids)) (atI c l ids).toNat).g.id
def chA (c : Con) (l : List Rn) (g : Gan) : Nat → List Int → Option (List Int)
  | 0, _ => none
  | f + 1, ids => if fitW c l g ids = true then some ids else match nextI c l ids with
    | none => none
    | some n => chA c l g f (ids ++ [n])
def chS (c : Con) (l : List Rn) (g : Gan) (ids : List Int) (a : Int) : List Int := if fitW c l g (lessL ids a) = true then lessL ids a else ids
def chooseL (c : Con) (l : List Rn) (g : Gan) : Option (List Int) := if withinB c (ofL c l) g.ten (dem g) = true then (match chA c l g (l.length + 1) [] with
  | none => none
  | some ids => some (ids.foldl (chS c l g) ids)) else none
def chR : Option (List Int) → AVal
  | some ids => .tup [.slice 1 (iv ids) .no, .bool true]
  | none => .tup [.slice 1 [] .no, .bool false]
theorem nextI_mem {c : Con} {l : List Rn} {ids : List Int} {n : Int} (h : nextI c l ids = some n) : ∃ x ∈ withoutL l ids, x.g.id = n ∧ borrowsB c (ofL c (withoutL l ids)) x.g.ten = true := by
  unfold nextI at h
  split at h
  · cases h
  · rename_i h0
    cases h
    rcases findR_lt (fun x => borrowsB c (ofL c (withoutL l ids)) x.g.ten) (orderL (withoutL l ids)) 0 with h1 | ⟨k, h1, h2, h3⟩
    · exact absurd (show atI c l ids < 0 from by unfold atI; rw [h1]; decide) h0
    · refine ⟨_, order_mem (getR_mem ?_), rfl, ?_⟩
      · unfold atI; rw [h2]; simpa using h1
      · unfold atI; rw [h2]; simpa using h3
theorem without_snoc (l : List Rn) (ids : List Int) (n : Int) : withoutL l (ids ++ [n]) = (withoutL l ids).filter fun x => !(x.g.id == n) := by
  unfold withoutL
  rw [List.filter_filter]
  refine List.filter_congr fun x _ => ?_
  unfold inB
  rw [List.any_append]
  simp only [List.any_cons, List.any_nil, Bool.or_false]
  cases (ids.any fun y => x.g.id == y) <;> cases (x.g.id == n) <;> rfl
theorem without_less {l : List Rn} {ids : List Int} {n : Int} (h : ∃ x ∈ withoutL l ids, x.g.id = n) : (withoutL l (ids ++ [n])).length < (withoutL l ids).length := by
  obtain ⟨x, hx, hn⟩ := h
  rw [without_snoc]
  generalize withoutL l ids = q at hx
  refine Nat.lt_of_le_of_ne (List.length_filter_le _ _) fun e => ?_
  have := List.length_filter_eq_length_iff.1 e x hx
  simp [hn] at this
theorem lessL_len (l : List Int) (a : Int) : (lessL l a).length ≤ l.length := List.length_filter_le _ _
abbrev ch1F : AVal := .func (.func 43) [] [.ref 0 0, .ref 1 0, .ref 2 0]
noncomputable abbrev fCh : Func := Tryz.f13
abbrev cbF (ids all : List Int) (i : Int) : List (Nat × AVal) := [(8, ch1F), (9, .slice 1 (iv ids) .no), (54, .slice 1 (iv all) .no), (55, .int .i64 ((iv all).length : Nat)), (56, ii i)]
theorem cb_frz (c : Con) (l : List Rn) (g : Gan) (a : Int) (z : List AVal) : frzs [4] (chO c l g ++ [.cells 3 [ii a], .row 0 1 3 z]) = chO c l g ++ [.cells 3 [ii a], .frow 0 1 z] := by kernel_rfl
theorem cb_frzS (c : Con) (l : List Rn) (g : Gan) (a : Int) (z : List AVal) (n : Nat) (ids all : List Int) (i : Int) : frzF [15] (oget (chO c l g ++ [.cells 3 [ii a], .frow 0 1 z])) ((15, .sub 4 0 0 n 1) :: cbF ids all i) = (15, .slice 1 ((z.drop 0).take n) .no) :: cbF ids all i := by kernel_rfl
theorem cb_frzR (c : Con) (l : List Rn) (g : Gan) (a : Int) (z : List AVal) (ids all : List Int) (i : Int) : frzF [15] (oget (chO c l g ++ [.cells 3 [ii a], .frow 0 1 z])) ((15, .row 4 0) :: cbF ids all i) = (15, .slice 1 z .no) :: cbF ids all i := by kernel_rfl
theorem cb_step {G : Goal} {ks : List KI} (c : Con) (l : List Rn) (g : Gan) (a : Int) (z : List AVal) (fr : List (Nat × AVal)) {fr' : List (Nat × AVal)} (hf : frzF [15] (oget (chO c l g ++ [.cells 3 [ii a], .frow 0 1 z])) fr = fr')
    (h : To (Eo [9] []) fCh G (.code ks fr' (chO c l g ++ [.cells 3 [ii a], .frow 0 1 z]))) : To (Eo [9] []) fCh G (.code ks fr (chO c l g ++ [.cells 3 [ii a], .row 0 1 3 z])) := by
  refine To.frz [15] [4] ?_
  rw [cb_frz, hf]
  exact h
theorem choose_b (c : Con) (hc : c.sm) (l : List Rn) (hs : Sm l) (g : Gan) (hg : 0 ≤ g.pods ∧ g.pods ≤ 16) (all : List Int) (ha : all.length ≤ 1048576) (R : List Int) : ∀ (m i : Nat) (ids : List Int), i + m = all.length → ids.length ≤ 1048576 → (all.drop i).foldl (chS c l g) ids = R →
    To (Eo [9] []) fCh (.pure (.ret (.tup [.slice 1 (iv R) .no, .bool true]))) (.head (stk fCh 1) (cbF ids all i) (chO c l g)) := by
  have hlen : (iv all).length = all.length := by simp
  intro m
  induction m with
  | zero =>
    intro i ids hi hd hR
    rw [List.drop_eq_nil_of_le (by omega)] at hR
    have hR : ids = R := hR
    subst hR
    refine goes (hEo [9] []) 100 ?_
    conv => whnf
    refine And.intro (fun h => absurd (of_decide_eq_true h) (by omega)) (fun h => ?_)
    repeat' first | (refine goN (hEo [9] []) 100 rfl ?_; conv => whnf) | exact rfl | refine And.intro (fun _ => ?_) (fun h => absurd (show true = false from h) (by decide)) | refine And.intro (fun h => absurd (show false = true from h) (by decide)) (fun _ => ?_) | refine And.intro (fun h => ?_) (fun h => absurd (of_decide_eq_false h) (by omega)) | refine And.intro (fun h => absurd (of_decide_eq_true h) (by omega)) (fun h => ?_) | refine And.intro (fun h => ?_) (fun h => ?_) | refine Or.inl (And.intro (And.intro (by simp only [kmin]; omega) (by simp only [kmax]; omega)) ?_) | refine Exists.intro _ (And.intro rfl ?_) | refine And.intro (by decide) ?_ | refine And.intro (by omega) ?_ | fail
  | succ m ih =>
    intro i ids hi hd hR
    have hlt : i < all.length := by omega
    rw [List.drop_eq_getElem_cons hlt, List.foldl_cons] at hR
    have get := iv_get hlt
    generalize all[i] = a at hR get
    have ih := ih (i + 1)
    have hll := lessL_len ids a
    have h1 := ch1_any c hc l hs g hg (lessL ids a) (by omega) _ rfl
    have ech : chS c l g ids a = if fitW c l g (lessL ids a) = true then lessL ids a else ids := rfl
    rw [ech] at hR
    cases hp : (ids.any fun x => x == a) with
    | true =>
      have hd' := del_yes ids hd a hp
      generalize hz : iv (lessL ids a) ++ List.replicate (ids.length - (lessL ids a).length) (ii 0) = z at hd'
      have hzt : (z.drop 0).take (lessL ids a).length = iv (lessL ids a) := by
        rw [← hz, List.drop_zero, List.take_append_of_le_length (by simp), List.take_of_length_le (by simp)]
      refine goes (hEo [9] []) 100 ?_
      conv => whnf
      refine And.intro (fun h => ?_) (fun h => absurd (of_decide_eq_false h) (by omega))
      repeat' first | (refine goN (hEo [9] []) 100 rfl ?_; conv => whnf) | refine Exists.intro i (And.intro rfl ?_) | refine Exists.intro _ (And.intro get ?_) | refine .pure _ [_] (cloneR_ok ids hd) ?_ | exact rfl | refine And.intro (fun _ => ?_) (fun h => absurd (show true = false from h) (by decide)) | refine And.intro (fun h => absurd (show false = true from h) (by decide)) (fun _ => ?_) | refine And.intro (fun h => ?_) (fun h => absurd (of_decide_eq_false h) (by omega)) | refine And.intro (fun h => absurd (of_decide_eq_true h) (by omega)) (fun h => ?_) | refine And.intro (fun h => ?_) (fun h => ?_) | refine Or.inl (And.intro (And.intro (by simp only [kmin]; omega) (by simp only [kmax]; omega)) ?_) | refine Exists.intro _ (And.intro rfl ?_) | refine And.intro (by decide) ?_ | refine And.intro (by omega) ?_ | fail
      refine .eff [] [4, 3] _ _ rfl hd' ?_
      refine goes (hEo [9] []) 5 ?_
      conv => whnf
      refine To.cutC [15, 8, 9, 54, 55, 56] 5 rfl rfl rfl rfl ?_
      refine cb_step c l g a _ _ (cb_frzS c l g a z _ ids all i) ?_
      rw [hzt]
      cases hf : fitW c l g (lessL ids a) with
      | true =>
        rw [if_pos hf] at hR
        rw [hf] at h1
        have next := ih (lessL ids a) (by omega) (by omega) hR
        repeat' first | (refine goN (hEo [9] []) 100 rfl ?_; conv => whnf) | refine .eff [] [0, 1, 2] _ _ rfl h1 ?_ | exact rfl | refine And.intro (fun _ => ?_) (fun h => absurd (show true = false from h) (by decide)) | refine And.intro (fun h => absurd (show false = true from h) (by decide)) (fun _ => ?_) | refine And.intro (fun h => ?_) (fun h => absurd (of_decide_eq_false h) (by omega)) | refine And.intro (fun h => absurd (of_decide_eq_true h) (by omega)) (fun h => ?_) | refine And.intro (fun h => ?_) (fun h => ?_) | refine Or.inl (And.intro (And.intro (by simp only [kmin]; omega) (by simp only [kmax]; omega)) ?_) | refine Exists.intro _ (And.intro rfl ?_) | refine And.intro (by decide) ?_ | refine And.intro (by omega) ?_ | fail
        refine To.part [8, 9, 54, 55, 56] [0, 1, 2] rfl rfl rfl ?_
        exact next
      | false =>
        rw [if_neg (by rw [hf]; decide)] at hR
        rw [hf] at h1
        have next := ih ids (by omega) hd hR
        repeat' first | (refine goN (hEo [9] []) 100 rfl ?_; conv => whnf) | refine .eff [] [0, 1, 2] _ _ rfl h1 ?_ | exact rfl | refine And.intro (fun _ => ?_) (fun h => absurd (show true = false from h) (by decide)) | refine And.intro (fun h => absurd (show false = true from h) (by decide)) (fun _ => ?_) | refine And.intro (fun h => ?_) (fun h => absurd (of_decide_eq_false h) (by omega)) | refine And.intro (fun h => absurd (of_decide_eq_true h) (by omega)) (fun h => ?_) | refine And.intro (fun h => ?_) (fun h => ?_) | refine Or.inl (And.intro (And.intro (by simp only [kmin]; omega) (by simp only [kmax]; omega)) ?_) | refine Exists.intro _ (And.intro rfl ?_) | refine And.intro (by decide) ?_ | refine And.intro (by omega) ?_ | fail
        refine To.part [8, 9, 54, 55, 56] [0, 1, 2] rfl rfl rfl ?_
        exact next
    | false =>
      have hd' := del_no ids hd a hp
      have hzt : iv ids = iv (lessL ids a) := by
        have : lessL ids a = ids := List.filter_eq_self.2 fun y hy => by
          have := (List.any_eq_false.1 hp) y hy
          simpa using this
        rw [this]
      refine goes (hEo [9] []) 100 ?_
      conv => whnf
      refine And.intro (fun h => ?_) (fun h => absurd (of_decide_eq_false h) (by omega))
      repeat' first | (refine goN (hEo [9] []) 100 rfl ?_; conv => whnf) | refine Exists.intro i (And.intro rfl ?_) | refine Exists.intro _ (And.intro get ?_) | refine .pure _ [_] (cloneR_ok ids hd) ?_ | exact rfl | refine And.intro (fun _ => ?_) (fun h => absurd (show true = false from h) (by decide)) | refine And.intro (fun h => absurd (show false = true from h) (by decide)) (fun _ => ?_) | refine And.intro (fun h => ?_) (fun h => absurd (of_decide_eq_false h) (by omega)) | refine And.intro (fun h => absurd (of_decide_eq_true h) (by omega)) (fun h => ?_) | refine And.intro (fun h => ?_) (fun h => ?_) | refine Or.inl (And.intro (And.intro (by simp only [kmin]; omega) (by simp only [kmax]; omega)) ?_) | refine Exists.intro _ (And.intro rfl ?_) | refine And.intro (by decide) ?_ | refine And.intro (by omega) ?_ | fail
      refine .eff [] [4, 3] _ _ rfl hd' ?_
      refine goes (hEo [9] []) 5 ?_
      conv => whnf
      refine To.cutC [15, 8, 9, 54, 55, 56] 5 rfl rfl rfl rfl ?_
      refine cb_step c l g a _ _ (cb_frzR c l g a (iv ids) ids all i) ?_
      rw [hzt]
      cases hf : fitW c l g (lessL ids a) with
      | true =>
        rw [if_pos hf] at hR
        rw [hf] at h1
        have next := ih (lessL ids a) (by omega) (by omega) hR
        repeat' first | (refine goN (hEo [9] []) 100 rfl ?_; conv => whnf) | refine .eff [] [0, 1, 2] _ _ rfl h1 ?_ | exact rfl | refine And.intro (fun _ => ?_) (fun h => absurd (show true = false from h) (by decide)) | refine And.intro (fun h => absurd (show false = true from h) (by decide)) (fun _ => ?_) | refine And.intro (fun h => ?_) (fun h => absurd (of_decide_eq_false h) (by omega)) | refine And.intro (fun h => absurd (of_decide_eq_true h) (by omega)) (fun h => ?_) | refine And.intro (fun h => ?_) (fun h => ?_) | refine Or.inl (And.intro (And.intro (by simp only [kmin]; omega) (by simp only [kmax]; omega)) ?_) | refine Exists.intro _ (And.intro rfl ?_) | refine And.intro (by decide) ?_ | refine And.intro (by omega) ?_ | fail
        refine To.part [8, 9, 54, 55, 56] [0, 1, 2] rfl rfl rfl ?_
        exact next
      | false =>
        rw [if_neg (by rw [hf]; decide)] at hR
        rw [hf] at h1
        have next := ih ids (by omega) hd hR
        repeat' first | (refine goN (hEo [9] []) 100 rfl ?_; conv => whnf) | refine .eff [] [0, 1, 2] _ _ rfl h1 ?_ | exact rfl | refine And.intro (fun _ => ?_) (fun h => absurd (show true = false from h) (by decide)) | refine And.intro (fun h => absurd (show false = true from h) (by decide)) (fun _ => ?_) | refine And.intro (fun h => ?_) (fun h => absurd (of_decide_eq_false h) (by omega)) | refine And.intro (fun h => absurd (of_decide_eq_true h) (by omega)) (fun h => ?_) | refine And.intro (fun h => ?_) (fun h => ?_) | refine Or.inl (And.intro (And.intro (by simp only [kmin]; omega) (by simp only [kmax]; omega)) ?_) | refine Exists.intro _ (And.intro rfl ?_) | refine And.intro (by decide) ?_ | refine And.intro (by omega) ?_ | fail
        refine To.part [8, 9, 54, 55, 56] [0, 1, 2] rfl rfl rfl ?_
        exact next
def chB (c : Con) (l : List Rn) (g : Gan) : Option (List Int) → Option (List Int)
  | none => none
  | some ids => some (ids.foldl (chS c l g) ids)
abbrev caF (ids : List Int) : List (Nat × AVal) := [(3, .ref 0 0), (4, .ref 1 0), (5, .ref 2 0), (8, ch1F), (9, .slice 1 (iv ids) (.own 3 0))]
theorem choose_a (c : Con) (hc : c.sm) (l : List Rn) (hs : Sm l) (g : Gan) (hg : 0 ≤ g.pods ∧ g.pods ≤ 16) (R : Option (List Int)) : ∀ (f : Nat) (ids : List Int), (withoutL l ids).length < f → ids.length + (withoutL l ids).length ≤ l.length → chB c l g (chA c l g f ids) = R →
    To (Eo [9] []) fCh (.pure (.ret (chR R))) (.head (stk fCh 0) (caF ids) (chO c l g ++ [.tail 0 1 3])) := by
  have hl := hs.1
  intro f
  induction f with
  | zero => intro ids h; omega
  | succ f ih =>
    intro ids hf hn hR
    have hil : (iv ids).length = ids.length := by simp
    have h1 := ch1_any c hc l hs g hg ids (by omega) _ rfl
    have hw := without_ok l hs ids (by omega)
    have hsl := without_sm hs ids
    have hof := of_ok c hc (withoutL l ids) hsl.1
    have hor := order_ok (withoutL l ids) hsl
    have hix := idxR_ok c (ofL c (withoutL l ids)) (orderL (withoutL l ids)) (order_sm hsl).1
    have hat : findR (fun x => borrowsB c (ofL c (withoutL l ids)) x.g.ten) (orderL (withoutL l ids)) 0 = atI c l ids := rfl
    rw [hat] at hix
    unfold chA at hR
    cases hq : fitW c l g ids with
    | true =>
      rw [if_pos hq] at hR
      rw [hq] at h1
      have hR : some (ids.foldl (chS c l g) ids) = R := hR
      subst hR
      have hcl := cloneI_ok ids (by omega)
      have next := choose_b c hc l hs g hg ids (by omega) _ ids.length 0 ids (by omega) (by omega) rfl
      refine goes (hEo [9] []) 100 ?_
      conv => whnf
      repeat' first | (refine goN (hEo [9] []) 100 rfl ?_; conv => whnf) | refine .eff [] [0, 1, 2] _ _ rfl h1 ?_ | refine .pure _ [] (CallOK.strip hcl) ?_ | exact rfl | refine And.intro (fun _ => ?_) (fun h => absurd (show true = false from h) (by decide)) | refine And.intro (fun h => absurd (show false = true from h) (by decide)) (fun _ => ?_) | refine And.intro (fun h => ?_) (fun h => absurd (of_decide_eq_false h) (by omega)) | refine And.intro (fun h => absurd (of_decide_eq_true h) (by omega)) (fun h => ?_) | refine And.intro (fun h => ?_) (fun h => ?_) | refine Or.inl (And.intro (And.intro (by simp only [kmin]; omega) (by simp only [kmax]; omega)) ?_) | refine Exists.intro _ (And.intro rfl ?_) | refine And.intro (by decide) ?_ | refine And.intro (by omega) ?_ | fail
      refine To.part [8, 9, 54, 55, 56] [0, 1, 2] rfl rfl rfl ?_
      exact next
    | false =>
      rw [if_neg (by rw [hq]; decide)] at hR
      rw [hq] at h1
      have hnx : nextI c l ids = if atI c l ids < 0 then none else some (getR (orderL (withoutL l ids)) (atI c l ids).toNat).g.id := rfl
      have hmem := fun n => nextI_mem (c := c) (l := l) (ids := ids) (n := n)
      by_cases hneg : atI c l ids < 0
      · rw [if_pos hneg] at hnx
        rw [hnx] at hR
        have hR : none = R := hR
        subst hR
        generalize atI c l ids = q at hix hneg
        generalize ofL c (withoutL l ids) = us at hof hix
        generalize orderL (withoutL l ids) = o at hor hix
        generalize withoutL l ids = left at hw hof hor
        refine goes (hEo [9] []) 100 ?_
        conv => whnf
        repeat' first | (refine goN (hEo [9] []) 100 rfl ?_; conv => whnf) | refine .eff [] [0, 1, 2] _ _ rfl h1 ?_ | refine .pure _ [] hw ?_ | refine .pure _ [] hof ?_ | refine .pure _ [] hor ?_ | refine .eff [] [0, 4] _ _ rfl hix ?_ | exact rfl | refine And.intro (fun _ => ?_) (fun h => absurd (show true = false from h) (by decide)) | refine And.intro (fun h => absurd (show false = true from h) (by decide)) (fun _ => ?_) | refine And.intro (fun h => ?_) (fun h => absurd (of_decide_eq_false h) (by omega)) | refine And.intro (fun h => absurd (of_decide_eq_true h) (by omega)) (fun h => ?_) | refine And.intro (fun h => ?_) (fun h => ?_) | refine Or.inl (And.intro (And.intro (by simp only [kmin]; omega) (by simp only [kmax]; omega)) ?_) | refine Exists.intro _ (And.intro rfl ?_) | refine And.intro (by decide) ?_ | refine And.intro (by omega) ?_ | fail
      · rw [if_neg hneg] at hnx
        obtain ⟨k, hk1, hk2⟩ : ∃ k : Nat, k < (orderL (withoutL l ids)).length ∧ atI c l ids = (k : Int) := by
          rcases findR_lt (fun x => borrowsB c (ofL c (withoutL l ids)) x.g.ten) (orderL (withoutL l ids)) 0 with h | ⟨k, h1, h2, _⟩
          · exact absurd (show atI c l ids < 0 from by unfold atI; rw [h]; decide) hneg
          · exact ⟨k, h1, by unfold atI; rw [h2]; simp⟩
        rw [hk2] at hnx hix
        rw [Int.toNat_natCast] at hnx
        have get := getR_lt hk1
        have hml := hmem _ hnx
        obtain ⟨y, hy1, hy2, _⟩ := hml
        have hlt := without_less ⟨y, hy1, hy2⟩
        rw [hnx] at hR
        generalize getR (orderL (withoutL l ids)) k = x at get hR hlt
        have next := ih (ids ++ [x.g.id]) (by omega) (by simp; omega) hR
        have e : iv (ids ++ [x.g.id]) = iv ids ++ [ii x.g.id] := by simp
        unfold caF at next
        rw [e] at next
        have hol := orderL_len (withoutL l ids)
        generalize ofL c (withoutL l ids) = us at hof hix
        generalize orderL (withoutL l ids) = o at hor hix get hk1 hol
        generalize withoutL l ids = left at hw hof hor hn hol
        refine goes (hEo [9] []) 100 ?_
        conv => whnf
        repeat' first | (refine goN (hEo [9] []) 100 rfl ?_; conv => whnf) | refine .eff [] [0, 1, 2] _ _ rfl h1 ?_ | refine .pure _ [] hw ?_ | refine .pure _ [] hof ?_ | refine .pure _ [] hor ?_ | refine .eff [] [0, 4] _ _ rfl hix ?_ | refine Exists.intro k (And.intro rfl ?_) | refine Exists.intro _ (And.intro get ?_) | refine And.intro (And.intro (by simp only [maxLen]; simp; omega) (by simp; omega)) ?_ | exact rfl | refine And.intro (fun _ => ?_) (fun h => absurd (show true = false from h) (by decide)) | refine And.intro (fun h => absurd (show false = true from h) (by decide)) (fun _ => ?_) | refine And.intro (fun h => ?_) (fun h => absurd (of_decide_eq_false h) (by omega)) | refine And.intro (fun h => absurd (of_decide_eq_true h) (by omega)) (fun h => ?_) | refine And.intro (fun h => ?_) (fun h => ?_) | refine Or.inl (And.intro (And.intro (by simp only [kmin]; omega) (by simp only [kmax]; omega)) ?_) | refine Exists.intro _ (And.intro rfl ?_) | refine And.intro (by decide) ?_ | refine And.intro (by omega) ?_ | fail
        refine To.part [3, 4, 5, 8, 9] [0, 1, 2, 3] rfl rfl rfl ?_
        exact next
theorem without_nil (l : List Rn) : withoutL l [] = l := List.filter_eq_self.2 fun x _ => rfl
theorem choose_any (c : Con) (hc : c.sm) (l : List Rn) (hs : Sm l) (g : Gan) (hg : 0 ≤ g.pods ∧ g.pods ≤ 16) (R : Option (List Int)) (hR : chooseL c l g = R) : CallOK Tryz.prog 13 [c.av, .slice 14 (rav l) .no, g.av] [] (.ret (chR R)) [] := by
  have hof := of_ok c hc l hs.1
  have hd := dem_ok g
  have hw := within_ok c (ofL c l) g.ten (dem g)
  unfold chooseL at hR
  cases hq : withinB c (ofL c l) g.ten (dem g) with
  | false =>
    rw [if_neg (by rw [hq]; decide)] at hR
    rw [hq] at hw
    subst hR
    refine CallOK.to (E := (Eo [9] [])) (fn := Tryz.f13) (g := .pure _) (by rfl) (by rfl) (by rfl) (fun _ _ => by rfl) (by decide +kernel) (by rfl) (by rfl) (by rfl) fun _ => ?_
    repeat' first | (refine goN (hEo [9] []) 100 rfl ?_; conv => whnf) | refine .pure _ [] hof ?_ | refine .pure _ [] hd ?_ | refine .pure _ [] hw ?_ | exact rfl | refine And.intro (fun _ => ?_) (fun h => absurd (show true = false from h) (by decide)) | refine And.intro (fun h => absurd (show false = true from h) (by decide)) (fun _ => ?_) | refine And.intro (fun h => ?_) (fun h => absurd (of_decide_eq_false h) (by omega)) | refine And.intro (fun h => absurd (of_decide_eq_true h) (by omega)) (fun h => ?_) | refine And.intro (fun h => ?_) (fun h => ?_) | refine Or.inl (And.intro (And.intro (by simp only [kmin]; omega) (by simp only [kmax]; omega)) ?_) | refine Exists.intro _ (And.intro rfl ?_) | refine And.intro (by decide) ?_ | refine And.intro (by omega) ?_ | fail
  | true =>
    rw [if_pos hq] at hR
    rw [hq] at hw
    have next := choose_a c hc l hs g hg R (l.length + 1) [] (by rw [without_nil]; omega) (by rw [without_nil]; simp) (by rw [← hR]; unfold chB; split <;> rfl)
    refine CallOK.to (E := (Eo [9] [])) (fn := Tryz.f13) (g := .pure _) (by rfl) (by rfl) (by rfl) (fun _ _ => by rfl) (by decide +kernel) (by rfl) (by rfl) (by rfl) fun _ => ?_
    repeat' first | (refine goN (hEo [9] []) 100 rfl ?_; conv => whnf) | refine .pure _ [] hof ?_ | refine .pure _ [] hd ?_ | refine .pure _ [] hw ?_ | exact rfl | refine And.intro (fun _ => ?_) (fun h => absurd (show true = false from h) (by decide)) | refine And.intro (fun h => absurd (show false = true from h) (by decide)) (fun _ => ?_) | refine And.intro (fun h => ?_) (fun h => absurd (of_decide_eq_false h) (by omega)) | refine And.intro (fun h => absurd (of_decide_eq_true h) (by omega)) (fun h => ?_) | refine And.intro (fun h => ?_) (fun h => ?_) | refine Or.inl (And.intro (And.intro (by simp only [kmin]; omega) (by simp only [kmax]; omega)) ?_) | refine Exists.intro _ (And.intro rfl ?_) | refine And.intro (by decide) ?_ | refine And.intro (by omega) ?_ | fail
    refine To.part [3, 4, 5, 8, 9] [0, 1, 2, 3] rfl rfl rfl ?_
    exact next
theorem choose_ok (c : Con) (hc : c.sm) (l : List Rn) (hs : Sm l) (g : Gan) (hg : 0 ≤ g.pods ∧ g.pods ≤ 16) : CallOK Tryz.prog 13 [c.av, .slice 14 (rav l) .no, g.av] [] (.ret (chR (chooseL c l g))) [] := choose_any c hc l hs g hg _ rfl
end Go.Proofs.YtlalcoklkafnnaaGreat

namespace Go.Proofs.YtlalcoklkafnnaaGreat
open Go Go.AW Go.Proofs
set_option maxRecDepth 10000

def v4 : V3 := ⟨4, 4, 4⟩
def c21 : Con := ⟨[⟨-1, 1, V3.zero, V3.zero, V3.zero⟩, ⟨0, 1, v4, v4, v4⟩, ⟨0, 1, v4, v4, v4⟩], [⟨0, 0, 0, ⟨8, 8, 8⟩⟩], 1, 0⟩
theorem c21_sm : c21.sm := ⟨by decide, by decide⟩
def g21 : Gan := ⟨1, 1, 1, v4, 3, 0, 0⟩
def l21 : List Rn := [⟨g21, 1, 0, 1, 0, [0]⟩, ⟨⟨2, 1, 1, v4, 3, 0, 0⟩, 2, 0, 1, 0, [0]⟩]
def k21 : Gan := ⟨3, 2, 1, v4, 3, 0, 0⟩
theorem l21_sm : Sm l21 := ⟨by decide, by decide⟩
theorem c21_choose : chooseL c21 l21 k21 = some [2] := by decide +kernel
theorem c21_none : chooseL c21 [] k21 = some [] := by decide +kernel
theorem c21_order : orderL l21 = [⟨⟨2, 1, 1, v4, 3, 0, 0⟩, 2, 0, 1, 0, [0]⟩, ⟨g21, 1, 0, 1, 0, [0]⟩] := by decide +kernel
theorem c21_without : withoutL l21 [2] = [⟨g21, 1, 0, 1, 0, [0]⟩] := by decide +kernel
theorem awake21_ok : CallOK Tryz.prog 12 [] [] (.ret (.bool true)) [] := by
  have sm0 : Sm [] := ⟨by decide, fun x h => by simp at h⟩
  have h1 := choose_ok c21 c21_sm l21 l21_sm k21 (by decide)
  rw [c21_choose] at h1
  have h2 := choose_ok c21 c21_sm [] sm0 k21 (by decide)
  rw [c21_none] at h2
  have h3 := order_ok l21 l21_sm
  rw [c21_order] at h3
  have h4 := without_ok l21 l21_sm [2] (by decide)
  rw [c21_without] at h4
  refine CallOK.to (E := E) (fn := Tryz.f12) (g := .pure _) (by rfl) (by rfl) (by rfl) (fun _ _ => by rfl) (by decide +kernel) (by rfl) (by rfl) (by rfl) fun _ => ?_
  repeat' first | (refine goN hE 100 rfl ?_; conv => whnf) | refine .pure _ [] (CallOK.strip h1) ?_ | refine .pure _ [] (CallOK.strip (CallOK.nil2 h2)) ?_ | refine .pure _ [] (CallOK.strip h3) ?_ | refine .pure _ [] (CallOK.strip h4) ?_ | refine Exists.intro 0 (And.intro rfl ?_) | exact rfl | refine And.intro (fun _ => ?_) (fun h => absurd (show true = false from h) (by decide)) | refine And.intro (fun h => absurd (show false = true from h) (by decide)) (fun _ => ?_) | refine And.intro (fun h => ?_) (fun h => absurd (of_decide_eq_false h) (by omega)) | refine And.intro (fun h => absurd (of_decide_eq_true h) (by omega)) (fun h => ?_) | refine And.intro (fun h => ?_) (fun h => ?_) | refine Or.inl (And.intro (And.intro (by simp only [kmin]; omega) (by simp only [kmax]; omega)) ?_) | refine Exists.intro _ (And.intro rfl ?_) | refine And.intro (by decide) ?_ | refine And.intro (by omega) ?_ | fail

/- ---------- once ---------- -/
def cfB (a b : Rn) : Bool := (a.g.id == b.g.id) || (a.seq == b.seq)
def onceI (l : List Rn) (i : Nat) : Bool := !((l.take i).any fun y => cfB (getR l i) y)
def onceB (l : List Rn) : Bool := (List.range l.length).all (onceI l)
noncomputable abbrev fOnce : Func := Tryz.f37
theorem once_in (l : List Rn) (hl : l.length ≤ 1048576) (r : Bool) (i : Nat) (hi : i < l.length) : ∀ (m k : Nat), k + m = i → ((((l.take i).drop k).any fun y => cfB (getR l i) y) = true → r = false) →
    ((((l.take i).drop k).any fun y => cfB (getR l i) y) = false → To E fOnce (.pure (.ret (.bool r))) (.head (stk fOnce 0) [(0, .slice 14 (rav l) .no), (3, ii ((i : Int) + 1))] [])) →
    To E fOnce (.pure (.ret (.bool r))) (.head (stk fOnce 1) [(0, .slice 14 (rav l) .no), (3, ii i), (4, ii k)] []) := by
  have hlen : (rav l).length = l.length := by simp
  intro m
  induction m with
  | zero =>
    intro k hk h1 h2
    have next := h2 (by rw [List.drop_eq_nil_of_le (by simp; omega)]; rfl)
    refine goes hE 100 ?_
    conv => whnf
    refine And.intro (fun h => absurd (of_decide_eq_true h) (by omega)) (fun h => ?_)
    repeat' first | (refine goN hE 100 rfl ?_; conv => whnf) | exact rfl | refine And.intro (fun _ => ?_) (fun h => absurd (show true = false from h) (by decide)) | refine And.intro (fun h => absurd (show false = true from h) (by decide)) (fun _ => ?_) | refine And.intro (fun h => ?_) (fun h => absurd (of_decide_eq_false h) (by omega)) | refine And.intro (fun h => absurd (of_decide_eq_true h) (by omega)) (fun h => ?_) | refine And.intro (fun h => ?_) (fun h => ?_) | refine Or.inl (And.intro (And.intro (by simp only [kmin]; omega) (by simp only [kmax]; omega)) ?_) | refine Exists.intro _ (And.intro rfl ?_) | refine And.intro (by decide) ?_ | refine And.intro (by omega) ?_ | fail
    exact To.cut [0, 3] 0 rfl rfl rfl rfl next
  | succ m ih =>
    intro k hk h1 h2
    have hlt : k < (l.take i).length := by simp; omega
    rw [List.drop_eq_getElem_cons hlt, List.any_cons, List.getElem_take] at h1 h2
    have gi := getR_lt hi
    have gk : (rav l)[k]? = some l[k].av := rav_get (by omega)
    have ih := ih (k + 1) (by omega)
    generalize getR l i = a at gi h1 h2 ih
    generalize l[k] = b at gk h1 h2
    unfold cfB at h1 h2
    cases q1 : (a.g.id == b.g.id) with
    | true =>
      have hr := h1 (by rw [q1]; rfl)
      subst hr
      have q2 : ((0 : Int) == 0) = true := rfl
      refine goes hE 100 ?_
      conv => whnf
      refine And.intro (fun h => ?_) (fun h => absurd (of_decide_eq_false h) (by omega))
      repeat' first
        | (refine goN hE 100 rfl ?_; conv => whnf)
        | refine Exists.intro i (And.intro rfl ?_)
        | refine Exists.intro k (And.intro rfl ?_)
        | refine Exists.intro _ (And.intro gi ?_)
        | refine Exists.intro _ (And.intro gk ?_)
        | exact rfl
        | refine And.intro (fun h => ?_) (fun h => absurd h (by rw [q1]; decide))
        | refine And.intro (fun h => absurd h (by rw [q1]; decide)) (fun h => ?_)
        | refine And.intro (fun h => ?_) (fun h => absurd h (by rw [q2]; decide))
        | refine And.intro (fun h => absurd h (by rw [q2]; decide)) (fun h => ?_)
        | refine And.intro (fun _ => ?_) (fun h => absurd (show true = false from h) (by decide))
        | refine And.intro (fun h => absurd (show false = true from h) (by decide)) (fun _ => ?_)
        | refine Or.inl (And.intro (And.intro (by simp only [kmin]; omega) (by simp only [kmax]; omega)) ?_)
        | fail
    | false =>
      cases q2 : (a.seq == b.seq) with
      | true =>
        have hr := h1 (by rw [q1, q2]; rfl)
        subst hr
        refine goes hE 100 ?_
        conv => whnf
        refine And.intro (fun h => ?_) (fun h => absurd (of_decide_eq_false h) (by omega))
        repeat' first
          | (refine goN hE 100 rfl ?_; conv => whnf)
          | refine Exists.intro i (And.intro rfl ?_)
          | refine Exists.intro k (And.intro rfl ?_)
          | refine Exists.intro _ (And.intro gi ?_)
          | refine Exists.intro _ (And.intro gk ?_)
          | exact rfl
          | refine And.intro (fun h => ?_) (fun h => absurd h (by rw [q1]; decide))
          | refine And.intro (fun h => absurd h (by rw [q1]; decide)) (fun h => ?_)
          | refine And.intro (fun h => ?_) (fun h => absurd h (by rw [q2]; decide))
          | refine And.intro (fun h => absurd h (by rw [q2]; decide)) (fun h => ?_)
          | refine And.intro (fun _ => ?_) (fun h => absurd (show true = false from h) (by decide))
          | refine And.intro (fun h => absurd (show false = true from h) (by decide)) (fun _ => ?_)
          | refine Or.inl (And.intro (And.intro (by simp only [kmin]; omega) (by simp only [kmax]; omega)) ?_)
          | fail
      | false =>
        rw [q1, q2] at h1 h2
        have next := ih h1 h2
        refine goes hE 100 ?_
        conv => whnf
        refine And.intro (fun h => ?_) (fun h => absurd (of_decide_eq_false h) (by omega))
        repeat' first
          | (refine goN hE 100 rfl ?_; conv => whnf)
          | refine Exists.intro i (And.intro rfl ?_)
          | refine Exists.intro k (And.intro rfl ?_)
          | refine Exists.intro _ (And.intro gi ?_)
          | refine Exists.intro _ (And.intro gk ?_)
          | exact rfl
          | refine And.intro (fun h => ?_) (fun h => absurd h (by rw [q1]; decide))
          | refine And.intro (fun h => absurd h (by rw [q1]; decide)) (fun h => ?_)
          | refine And.intro (fun h => ?_) (fun h => absurd h (by rw [q2]; decide))
          | refine And.intro (fun h => absurd h (by rw [q2]; decide)) (fun h => ?_)
          | refine And.intro (fun _ => ?_) (fun h => absurd (show true = false from h) (by decide))
          | refine And.intro (fun h => absurd (show false = true from h) (by decide)) (fun _ => ?_)
          | refine Or.inl (And.intro (And.intro (by simp only [kmin]; omega) (by simp only [kmax]; omega)) ?_)
          | fail
        exact To.cut [0, 3, 4] 0 rfl rfl rfl rfl next
theorem once_out (l : List Rn) (hl : l.length ≤ 1048576) (r : Bool) : ∀ (m i : Nat), i + m = l.length → (List.range' i m).all (onceI l) = r →
    To E fOnce (.pure (.ret (.bool r))) (.head (stk fOnce 0) [(0, .slice 14 (rav l) .no), (3, ii i)] []) := by
  have hlen : (rav l).length = l.length := by simp
  intro m
  induction m with
  | zero =>
    intro i hi hr
    have hr : true = r := hr
    subst hr
    refine goes hE 100 ?_
    conv => whnf
    refine And.intro (fun h => absurd (of_decide_eq_true h) (by omega)) (fun h => ?_)
    repeat' first | (refine goN hE 100 rfl ?_; conv => whnf) | exact rfl | refine And.intro (fun _ => ?_) (fun h => absurd (show true = false from h) (by decide)) | refine And.intro (fun h => absurd (show false = true from h) (by decide)) (fun _ => ?_) | refine And.intro (fun h => ?_) (fun h => absurd (of_decide_eq_false h) (by omega)) | refine And.intro (fun h => absurd (of_decide_eq_true h) (by omega)) (fun h => ?_) | refine And.intro (fun h => ?_) (fun h => ?_) | refine Or.inl (And.intro (And.intro (by simp only [kmin]; omega) (by simp only [kmax]; omega)) ?_) | refine Exists.intro _ (And.intro rfl ?_) | refine And.intro (by decide) ?_ | refine And.intro (by omega) ?_ | fail
  | succ m ih =>
    intro i hi hr
    rw [List.range'_succ, List.all_cons] at hr
    have next := ih (i + 1) (by omega)
    have hin := once_in l hl r i (by omega) i 0 (by omega) (fun h => by
      have : onceI l i = false := by unfold onceI; rw [List.drop_zero] at h; rw [h]; rfl
      rw [this] at hr
      exact hr.symm) (fun h => by
      have : onceI l i = true := by unfold onceI; rw [List.drop_zero] at h; rw [h]; rfl
      rw [this, Bool.true_and] at hr
      exact next hr)
    refine goes hE 100 ?_
    conv => whnf
    refine And.intro (fun h => ?_) (fun h => absurd (of_decide_eq_false h) (by omega))
    repeat' first | (refine goN hE 100 rfl ?_; conv => whnf) | exact rfl | refine And.intro (fun _ => ?_) (fun h => absurd (show true = false from h) (by decide)) | refine And.intro (fun h => absurd (show false = true from h) (by decide)) (fun _ => ?_) | refine And.intro (fun h => ?_) (fun h => absurd (of_decide_eq_false h) (by omega)) | refine And.intro (fun h => absurd (of_decide_eq_true h) (by omega)) (fun h => ?_) | refine And.intro (fun h => ?_) (fun h => ?_) | refine Or.inl (And.intro (And.intro (by simp only [kmin]; omega) (by simp only [kmax]; omega)) ?_) | refine Exists.intro _ (And.intro rfl ?_) | refine And.intro (by decide) ?_ | refine And.intro (by omega) ?_ | fail
    exact To.cut [0, 3, 4] 0 rfl rfl rfl rfl hin
theorem once_ok (l : List Rn) (hl : l.length ≤ 1048576) : CallOK Tryz.prog 37 [.slice 14 (rav l) .no] [] (.ret (.bool (onceB l))) [] := by
  refine CallOK.to (E := E) (fn := Tryz.f37) (g := .pure _) (by rfl) (by rfl) (by rfl) (fun _ _ => by rfl) (by decide +kernel) (by rfl) (by rfl) (by rfl) fun _ => ?_
  refine goes hE 100 ?_
  conv => whnf
  exact To.cut [0, 3] 0 rfl rfl rfl rfl (once_out l hl _ l.length 0 (by omega) (by unfold onceB; rw [List.range_eq_range']))

/- ---------- few ---------- -/
def fewP (c : Con) (now : Int) (l : List Rn) (g : Gan) : Prop := fewI c now l = 1 ∧ onceB l = true ∧ gangI c.ns g = 1
theorem few21_yes (c : Con) (hc : c.sm) (now k : Int) (ws : List AVal) (l : List Rn) (hs : Sm l) (zs : List AVal) (g : Gan) (h : fewP c now l g) : CallOK Tryz.prog 11 [.agg (stCs c now k ws l zs), g.av] [] (.ret (.bool true)) [] := by
  obtain ⟨p1, p2, p3⟩ := h
  have h1 := few_ok c hc now l hs
  have h2 := once_ok l hs.1
  have h3 := gang_ok c hc g
  rw [p1] at h1
  rw [p2] at h2
  rw [p3] at h3
  refine CallOK.to (E := E) (fn := Tryz.f11) (g := .pure _) (by rfl) (by rfl) (by rfl) (fun _ _ => by rfl) (by decide +kernel) (by rfl) (by rfl) (by rfl) fun _ => ?_
  repeat' first | (refine goN hE 100 rfl ?_; conv => whnf) | refine .pure _ [] h1 ?_ | refine .pure _ [] h2 ?_ | refine .pure _ [] h3 ?_ | exact rfl | refine And.intro (fun _ => ?_) (fun h => absurd (show true = false from h) (by decide)) | refine And.intro (fun h => absurd (show false = true from h) (by decide)) (fun _ => ?_) | refine And.intro (fun h => ?_) (fun h => absurd (of_decide_eq_false h) (by omega)) | refine And.intro (fun h => absurd (of_decide_eq_true h) (by omega)) (fun h => ?_) | refine And.intro (fun h => ?_) (fun h => ?_) | refine Or.inl (And.intro (And.intro (by simp only [kmin]; omega) (by simp only [kmax]; omega)) ?_) | refine Exists.intro _ (And.intro rfl ?_) | refine And.intro (by decide) ?_ | refine And.intro (by omega) ?_ | fail
theorem few21_no (c : Con) (hc : c.sm) (now k : Int) (ws : List AVal) (l : List Rn) (hs : Sm l) (zs : List AVal) (g : Gan) (h : ¬ fewP c now l g) : CallOK Tryz.prog 11 [.agg (stCs c now k ws l zs), g.av] [] (.ret (.bool false)) [] := by
  have h1 := few_ok c hc now l hs
  have h2 := once_ok l hs.1
  have h3 := gang_ok c hc g
  by_cases p1 : fewI c now l = 1
  · rw [p1] at h1
    cases p2 : onceB l with
    | false =>
      rw [p2] at h2
      refine CallOK.to (E := E) (fn := Tryz.f11) (g := .pure _) (by rfl) (by rfl) (by rfl) (fun _ _ => by rfl) (by decide +kernel) (by rfl) (by rfl) (by rfl) fun _ => ?_
      repeat' first | (refine goN hE 100 rfl ?_; conv => whnf) | refine .pure _ [] h1 ?_ | refine .pure _ [] h2 ?_ | refine .pure _ [] h3 ?_ | exact rfl | refine And.intro (fun _ => ?_) (fun h => absurd (show true = false from h) (by decide)) | refine And.intro (fun h => absurd (show false = true from h) (by decide)) (fun _ => ?_) | refine And.intro (fun h => ?_) (fun h => absurd (of_decide_eq_false h) (by omega)) | refine And.intro (fun h => absurd (of_decide_eq_true h) (by omega)) (fun h => ?_) | refine And.intro (fun h => ?_) (fun h => ?_) | refine Or.inl (And.intro (And.intro (by simp only [kmin]; omega) (by simp only [kmax]; omega)) ?_) | refine Exists.intro _ (And.intro rfl ?_) | refine And.intro (by decide) ?_ | refine And.intro (by omega) ?_ | fail
    | true =>
      rw [p2] at h2
      have p3 : ¬ gangI c.ns g = 1 := fun q => h ⟨p1, p2, q⟩
      generalize gangI c.ns g = q at h3 p3
      have hk : (q == 1) = false := by simp [p3]
      refine CallOK.to (E := E) (fn := Tryz.f11) (g := .pure _) (by rfl) (by rfl) (by rfl) (fun _ _ => by rfl) (by decide +kernel) (by rfl) (by rfl) (by rfl) fun _ => ?_
      repeat' first | (refine goN hE 100 rfl ?_; conv => whnf) | refine .pure _ [] h1 ?_ | refine .pure _ [] h2 ?_ | refine .pure _ [] h3 ?_ | exact rfl | refine And.intro (fun _ => ?_) (fun h => absurd (show true = false from h) (by decide)) | refine And.intro (fun h => absurd (show false = true from h) (by decide)) (fun _ => ?_) | refine And.intro (fun h => ?_) (fun h => absurd (of_decide_eq_false h) (by omega)) | refine And.intro (fun h => absurd (of_decide_eq_true h) (by omega)) (fun h => ?_) | refine And.intro (fun h => ?_) (fun h => ?_) | refine Or.inl (And.intro (And.intro (by simp only [kmin]; omega) (by simp only [kmax]; omega)) ?_) | refine Exists.intro _ (And.intro rfl ?_) | refine And.intro (by decide) ?_ | refine And.intro (by omega) ?_ | fail
      exact congrArg (fun b => Res.ret (AVal.bool b)) hk
  · generalize fewI c now l = q at h1 p1
    have hk : (q == 1) = false := by simp [p1]
    refine CallOK.to (E := E) (fn := Tryz.f11) (g := .pure _) (by rfl) (by rfl) (by rfl) (fun _ _ => by rfl) (by decide +kernel) (by rfl) (by rfl) (by rfl) fun _ => ?_
    repeat' first | (refine goN hE 100 rfl ?_; conv => whnf) | refine .pure _ [] h1 ?_ | refine And.intro (fun h => absurd h (by rw [hk]; decide)) (fun h => ?_) | exact rfl | refine And.intro (fun _ => ?_) (fun h => absurd (show true = false from h) (by decide)) | refine And.intro (fun h => absurd (show false = true from h) (by decide)) (fun _ => ?_) | refine And.intro (fun h => ?_) (fun h => absurd (of_decide_eq_false h) (by omega)) | refine And.intro (fun h => absurd (of_decide_eq_true h) (by omega)) (fun h => ?_) | refine And.intro (fun h => ?_) (fun h => ?_) | refine Or.inl (And.intro (And.intro (by simp only [kmin]; omega) (by simp only [kmax]; omega)) ?_) | refine Exists.intro _ (And.intro rfl ?_) | refine And.intro (by decide) ?_ | refine And.intro (by omega) ?_ | fail
end Go.Proofs.YtlalcoklkafnnaaGreat

namespace Go.Proofs.YtlalcoklkafnnaaGreat
open Go Go.AW Go.Proofs

/- ---------- what one node uses, of more and of fewer ---------- -/
def V3.le (a b : V3) : Prop := a.a ≤ b.a ∧ a.b ≤ b.b ∧ a.c ≤ b.c
def V3.farB (a : V3) : Prop := (0 ≤ a.a ∧ a.a ≤ 1099511627776) ∧ (0 ≤ a.b ∧ a.b ≤ 1099511627776) ∧ (0 ≤ a.c ∧ a.c ≤ 1099511627776)
theorem addI_mono {a b d : Int} (h : a ≤ b) : addI a d ≤ addI b d := by unfold addI cutI; omega
theorem addI_up {a d : Int} (h0 : 0 ≤ a) (h1 : a ≤ 1099511627776) (hd : 0 ≤ d) : a ≤ addI a d := by unfold addI cutI; omega
theorem addI_r {a d : Int} (h0 : 0 ≤ a) (hd : 0 ≤ d) : 0 ≤ addI a d ∧ addI a d ≤ 1099511627776 := by unfold addI cutI; omega
theorem vadd_mono {a b : V3} (d : V3) (h : a.le b) : (vadd a d).le (vadd b d) := ⟨addI_mono h.1, addI_mono h.2.1, addI_mono h.2.2⟩
def V3.pos (d : V3) : Prop := 0 ≤ d.a ∧ 0 ≤ d.b ∧ 0 ≤ d.c
theorem vadd_up {a d : V3} (h : a.farB) (hd : d.pos) : a.le (vadd a d) := ⟨addI_up h.1.1 h.1.2 hd.1, addI_up h.2.1.1 h.2.1.2 hd.2.1, addI_up h.2.2.1 h.2.2.2 hd.2.2⟩
theorem vadd_far {a d : V3} (h : a.farB) (hd : d.pos) : (vadd a d).farB := ⟨addI_r h.1.1 hd.1, addI_r h.2.1.1 hd.2.1, addI_r h.2.2.1 hd.2.2⟩
theorem V3.le.trans {a b c : V3} (h : a.le b) (k : b.le c) : a.le c := ⟨Int.le_trans h.1 k.1, Int.le_trans h.2.1 k.2.1, Int.le_trans h.2.2 k.2.2⟩
theorem vfits_le {a b : V3} : vfits a b = true ↔ a.le b := by
  obtain ⟨a1, a2, a3⟩ := a
  obtain ⟨b1, b2, b3⟩ := b
  unfold vfits V3.le
  by_cases h1 : b1 < a1
  · first | (simp [h1]; done) | (simp [h1]; omega)
  by_cases h2 : b2 < a2
  · first | (simp [h1, h2]; done) | (simp [h1, h2]; omega)
  by_cases h3 : b3 < a3
  · first | (simp [h1, h2, h3]; done) | (simp [h1, h2, h3]; omega)
  first | (simp [h1, h2, h3]; done) | (simp [h1, h2, h3]; omega)
/-- what node j uses -/
def useF (c : Con) (j : Nat) (v : V3) (x : Rn) : V3 := if leafB c.ns x.g.ten = true ∧ (j : Int) ∈ upL c.ns x.g.ten then vadd v (dem x.g) else v
theorem addPs_get (v : V3) (j : Nat) : ∀ (ks : List Int) (xs : List V3), ks.Nodup → (∀ k ∈ ks, 0 ≤ k) → (ks.foldl (addP v) xs)[j]? = if (j : Int) ∈ ks then (xs[j]?).map fun x => vadd x v else xs[j]?
  | [], xs, _, _ => by simp
  | k :: r, xs, hn, h0 => by
    have hn := List.nodup_cons.1 hn
    have hk := h0 k (by simp)
    rw [List.foldl_cons, addPs_get v j r _ hn.2 fun x hx => h0 x (by simp [hx]), addP_get]
    by_cases h1 : (j : Int) = k
    · have h2 : (j : Int) ∉ r := by rw [h1]; exact hn.1
      rw [if_neg h2, if_pos (by omega), if_pos (by simp [h1])]
    · have e : (j : Int) ∈ k :: r ↔ (j : Int) ∈ r := by simp [h1]
      by_cases h2 : (j : Int) ∈ r
      · rw [if_pos h2, if_neg (by omega), if_pos (e.2 h2)]
      · rw [if_neg h2, if_neg (by omega), if_neg (fun h => h2 (e.1 h))]
theorem rofX_get (c : Con) (xs : List V3) (x : Rn) (j : Nat) : (rofX c xs x)[j]? = (xs[j]?).map fun v => useF c j v x := by
  unfold rofX useF
  cases hq : leafB c.ns x.g.ten with
  | false => rw [if_neg (by decide)]; simp
  | true =>
    rw [if_pos rfl]
    have hpw : (pathL c.ns x.g.ten).Nodup := by
      unfold pathL
      exact List.pairwise_reverse.2 ((upF_pw c.ns _ _).imp fun h => by omega)
    have hm : (j : Int) ∈ pathL c.ns x.g.ten ↔ (j : Int) ∈ upL c.ns x.g.ten := List.mem_reverse
    rw [addPs_get _ _ _ _ hpw fun k hk => (upF_ok _ _ _ _ (List.mem_reverse.1 hk)).1]
    by_cases h : (j : Int) ∈ upL c.ns x.g.ten
    · rw [if_pos (hm.2 h)]; simp [h]
    · rw [if_neg (fun q => h (hm.1 q))]; simp [h]
theorem of_get (c : Con) (j : Nat) : ∀ (l : List Rn) (xs : List V3), (l.foldl (rofX c) xs)[j]? = (xs[j]?).map fun v => l.foldl (useF c j) v
  | [], xs => by simp
  | x :: r, xs => by
    rw [List.foldl_cons, of_get c j r, rofX_get, Option.map_map]
    rfl
theorem of_at {c : Con} {t : Int} (h : 0 ≤ t ∧ t.toNat < c.ns.length) (l : List Rn) : atV (ofL c l) t = l.foldl (useF c t.toNat) V3.zero := by
  unfold atV
  rw [if_neg (by rw [decide_eq_false (by omega)]; decide), ← of_eq]
  unfold rofL
  rw [of_get, List.getElem?_replicate, if_pos h.2]
  rfl
theorem use_mono {c : Con} {j : Nat} (p : Rn → Bool) : ∀ (l : List Rn) (a b : V3), (∀ x ∈ l, (dem x.g).pos) → a.le b → b.farB → ((l.filter p).foldl (useF c j) a).le (l.foldl (useF c j) b) ∧ (l.foldl (useF c j) b).farB
  | [], a, b, _, h, hf => ⟨h, hf⟩
  | x :: r, a, b, hd, h, hf => by
    have hx := hd x (by simp)
    have hb : (useF c j b x).farB := by unfold useF; split; exact vadd_far hf hx; exact hf
    rw [List.foldl_cons, List.filter_cons]
    cases p x with
    | true =>
      rw [if_pos rfl, List.foldl_cons]
      refine use_mono p r _ _ (fun y hy => hd y (by simp [hy])) ?_ hb
      unfold useF
      split
      · exact vadd_mono _ h
      · exact h
    | false =>
      rw [if_neg (by decide)]
      refine use_mono p r _ _ (fun y hy => hd y (by simp [hy])) ?_ hb
      unfold useF
      split
      · exact h.trans (vadd_up hf hx)
      · exact h
theorem zero_far : V3.zero.farB := by unfold V3.farB V3.zero; decide
theorem le_refl' (a : V3) : a.le a := ⟨Int.le_refl _, Int.le_refl _, Int.le_refl _⟩
/- ---------- whom Choose gives ---------- -/
theorem dem_pos {g : Gan} (hv : validB g.need = true) (hg : 0 ≤ g.pods ∧ g.pods ≤ 16) : (dem g).pos := by
  unfold validB at hv
  simp only [Bool.and_eq_true, decide_eq_true_eq] at hv
  obtain ⟨⟨⟨a1, a2⟩, b1, b2⟩, c1, c2⟩ := hv
  have key : ∀ x, 0 ≤ x → 0 ≤ mulI x g.pods := fun x hx => by
    have h2 : 0 ≤ cutI x 1099511627776 * cutI g.pods 1048576 := Int.mul_nonneg (by unfold cutI; omega) (by unfold cutI; omega)
    unfold mulI
    generalize cutI x 1099511627776 * cutI g.pods 1048576 = q at h2
    unfold cutI
    omega
  exact ⟨key _ a1, key _ b1, key _ c1⟩
theorem gang1_valid {ns : List Nod} {g : Gan} (h : gangI ns g ≠ 0) : validB g.need = true := by
  unfold gangI at h
  split at h
  · rename_i hb
    unfold gangB at hb
    simp only [Bool.and_eq_true] at hb
    exact hb.2.1
  · exact absurd rfl h
theorem few_pos {c : Con} {now : Int} {l : List Rn} (h : fewI c now l = 1) : ∀ x ∈ l, (dem x.g).pos := by
  intro x hx
  unfold fewI at h
  split at h
  · cases h
  · split at h
    · rename_i hb
      have := List.all_eq_true.1 hb x hx
      unfold runX at this
      split at this
      · cases this
      · rename_i hr
        unfold badR at hr
        have hg : gangI c.ns x.g ≠ 0 := fun e => hr (.inl e)
        exact dem_pos (gang1_valid hg) (gang_pods hg)
    · cases h
/-- each that was chosen, and when -/
def Was (c : Con) (l : List Rn) (n : Int) : Prop := ∃ (ids : List Int) (x : Rn), x ∈ l ∧ x.g.id = n ∧ borrowsB c (ofL c (withoutL l ids)) x.g.ten = true
theorem inB_iff {v : Int} {l : List Int} : inB v l = true ↔ v ∈ l := by unfold inB; simp
theorem without_mem {l : List Rn} {ids : List Int} {x : Rn} : x ∈ withoutL l ids ↔ x ∈ l ∧ x.g.id ∉ ids := by
  unfold withoutL
  rw [List.mem_filter]
  refine and_congr Iff.rfl ?_
  rw [← inB_iff]
  cases inB x.g.id ids <;> simp
theorem chA_spec {c : Con} {l : List Rn} {g : Gan} {R : List Int} : ∀ (f : Nat) (ids : List Int), ids.Nodup → (∀ n ∈ ids, Was c l n) → chA c l g f ids = some R → R.Nodup ∧ (∀ n ∈ R, Was c l n) ∧ fitW c l g R = true
  | 0, ids, _, _, h => by cases h
  | f + 1, ids, hn, hw, h => by
    unfold chA at h
    split at h
    · rename_i hf
      cases h
      exact ⟨hn, hw, hf⟩
    · split at h
      · cases h
      · rename_i n hx
        obtain ⟨x, h1, h2, h3⟩ := nextI_mem hx
        have hm := without_mem.1 h1
        refine chA_spec f _ ?_ ?_ h
        · rw [List.nodup_append]
          refine ⟨hn, by simp, fun a ha b hb e => ?_⟩
          simp at hb
          subst hb e
          rw [h2] at hm
          exact hm.2 ha
        · intro a ha
          rcases List.mem_append.1 ha with ha | ha
          · exact hw a ha
          · simp at ha
            subst ha
            exact ⟨ids, x, hm.1, h2, h3⟩
theorem chS_one {c : Con} {l : List Rn} {g : Gan} (ids : List Int) (a : Int) (h : fitW c l g ids = true) : fitW c l g (chS c l g ids a) = true ∧ (chS c l g ids a).Sublist ids := by
  have e : chS c l g ids a = if fitW c l g (lessL ids a) = true then lessL ids a else ids := rfl
  rw [e]
  cases hf : fitW c l g (lessL ids a) with
  | true => rw [if_pos rfl]; exact ⟨hf, List.filter_sublist⟩
  | false => rw [if_neg (by decide)]; exact ⟨h, List.Sublist.refl _⟩
theorem chS_spec {c : Con} {l : List Rn} {g : Gan} (bs : List Int) : ∀ (ids : List Int), fitW c l g ids = true → fitW c l g (bs.foldl (chS c l g) ids) = true ∧ (bs.foldl (chS c l g) ids).Sublist ids := by
  induction bs with
  | nil => intro ids h; exact ⟨h, List.Sublist.refl _⟩
  | cons a r ih =>
    intro ids h
    have h1 := chS_one ids a h
    rw [List.foldl_cons]
    generalize chS c l g ids a = q at h1
    obtain ⟨h2, h3⟩ := ih q h1.1
    exact ⟨h2, h3.trans h1.2⟩
theorem choose_spec {c : Con} {l : List Rn} {g : Gan} {R : List Int} (h : chooseL c l g = some R) : withinB c (ofL c l) g.ten (dem g) = true ∧ R.Nodup ∧ (∀ n ∈ R, Was c l n) ∧ fitW c l g R = true := by
  unfold chooseL at h
  split at h
  · rename_i hw
    split at h
    · cases h
    · rename_i ids hc
      cases h
      obtain ⟨h1, h2, h3⟩ := chA_spec _ [] (by simp) (by simp) hc
      obtain ⟨h4, h5⟩ := chS_spec ids ids h3
      exact ⟨hw, h5.nodup h1, fun n hn => h2 n (h5.subset hn), h4⟩
  · cases h
/-- numbers are there once -/
def OnceP (l : List Rn) : Prop := l.Pairwise fun a b => a.g.id ≠ b.g.id ∧ a.seq ≠ b.seq
theorem onceB_iff {l : List Rn} (h : onceB l = true) : OnceP l := by
  rw [OnceP, List.pairwise_iff_getElem]
  intro i j hi hj hij
  unfold onceB at h
  have h1 := List.all_eq_true.1 h j (List.mem_range.2 hj)
  unfold onceI at h1
  simp only [Bool.not_eq_true', List.any_eq_false] at h1
  have h2 := h1 l[i] (by
    rw [List.mem_take_iff_getElem]
    exact ⟨i, by omega, rfl⟩)
  unfold cfB getR at h2
  rw [List.getElem?_eq_getElem hj] at h2
  simp only [Option.getD_some, Bool.or_eq_true, beq_iff_eq, not_or] at h2
  exact ⟨fun e => h2.1 e.symm, fun e => h2.2 e.symm⟩
theorem uniq_filter {a : Int} : ∀ {q : List Rn}, q.Pairwise (fun x y => x.g.id ≠ y.g.id) → (∃ x ∈ q, x.g.id = a) → (q.filter fun y => !(y.g.id == a)).length + 1 = q.length
  | [], _, h => by obtain ⟨x, hx, _⟩ := h; cases hx
  | y :: r, hp, h => by
    have hp := List.pairwise_cons.1 hp
    rw [List.filter_cons]
    by_cases hy : y.g.id = a
    · have e : (r.filter fun y => !(y.g.id == a)) = r := List.filter_eq_self.2 fun z hz => by
        have := hp.1 z hz
        rw [hy] at this
        have : (z.g.id == a) = false := by simpa using fun e => this e.symm
        rw [this]; rfl
      rw [if_neg (by simp [hy]), e]
      simp
    · obtain ⟨x, hx, he⟩ := h
      have hx : x ∈ r := by
        rcases List.mem_cons.1 hx with rfl | hx
        · exact absurd he hy
        · exact hx
      have := uniq_filter hp.2 ⟨x, hx, he⟩
      rw [if_pos (by simp [hy])]
      simp only [List.length_cons]
      omega
theorem without_cons (l : List Rn) (a : Int) (r : List Int) : withoutL l (a :: r) = (withoutL l r).filter fun x => !(x.g.id == a) := by
  unfold withoutL
  rw [List.filter_filter]
  refine List.filter_congr fun x _ => ?_
  unfold inB
  rw [List.any_cons]
  cases (r.any fun y => x.g.id == y) <;> cases (x.g.id == a) <;> rfl
theorem without_len {l : List Rn} (ho : OnceP l) : ∀ {ids : List Int}, ids.Nodup → (∀ n ∈ ids, ∃ x ∈ l, x.g.id = n) → (withoutL l ids).length + ids.length = l.length
  | [], _, _ => by rw [without_nil]; simp
  | a :: r, hn, hm => by
    have hn := List.nodup_cons.1 hn
    have ih := without_len ho hn.2 fun n h => hm n (by simp [h])
    obtain ⟨x, hx, he⟩ := hm a (by simp)
    have hp : (withoutL l r).Pairwise fun x y => x.g.id ≠ y.g.id := (ho.sublist List.filter_sublist).imp fun h => h.1
    have := uniq_filter (a := a) hp ⟨x, without_mem.2 ⟨hx, by rw [he]; exact hn.1⟩, he⟩
    rw [without_cons]
    simp only [List.length_cons]
    omega
end Go.Proofs.YtlalcoklkafnnaaGreat

namespace Go.Proofs.YtlalcoklkafnnaaGreat
open Go Go.AW Go.Proofs
set_option maxRecDepth 10000

noncomputable abbrev fRin : Func := Tryz.f54
theorem rin21_loop (l : List Int) (hl : l.length ≤ 1048576) (v : Int) (r : Bool) : ∀ (m i : Nat), i + m = l.length → inB v (l.drop i) = r →
    To E fRin (.pure (.ret (.bool r))) (.head (stk fRin 0) [(0, ii v), (1, .slice 1 (iv l) .no), (5, ii i)] []) := by
  have hlen : (iv l).length = l.length := by simp
  intro m
  induction m with
  | zero =>
    intro i hi hr
    rw [List.drop_eq_nil_of_le (by omega)] at hr
    have hr : false = r := hr
    subst hr
    refine goes hE 100 ?_
    conv => whnf
    refine And.intro (fun h => absurd (of_decide_eq_true h) (by omega)) (fun h => ?_)
    repeat' first | (refine goN hE 100 rfl ?_; conv => whnf) | exact rfl | refine And.intro (fun _ => ?_) (fun h => absurd (show true = false from h) (by decide)) | refine And.intro (fun h => absurd (show false = true from h) (by decide)) (fun _ => ?_) | refine And.intro (fun h => ?_) (fun h => absurd (of_decide_eq_false h) (by omega)) | refine And.intro (fun h => absurd (of_decide_eq_true h) (by omega)) (fun h => ?_) | refine And.intro (fun h => ?_) (fun h => ?_) | refine Or.inl (And.intro (And.intro (by simp only [kmin]; omega) (by simp only [kmax]; omega)) ?_) | refine Exists.intro _ (And.intro rfl ?_) | refine And.intro (by decide) ?_ | refine And.intro (by omega) ?_ | fail
  | succ m ih =>
    intro i hi hr
    have hlt : i < l.length := by omega
    rw [List.drop_eq_getElem_cons hlt] at hr
    have get := iv_get hlt
    generalize l[i] = x at hr get
    unfold inB at hr
    rw [List.any_cons] at hr
    have ih := ih (i + 1) (by omega)
    have hc : (v == x) = (x == v) := by
      by_cases h : v = x
      · subst h; rfl
      · rw [beq_eq_false_iff_ne.2 h, beq_eq_false_iff_ne.2 (Ne.symm h)]
    rw [hc] at hr
    cases hq : (x == v) with
    | true =>
      rw [hq] at hr
      have hr : true = r := hr
      subst hr
      refine goes hE 100 ?_
      conv => whnf
      refine And.intro (fun h => ?_) (fun h => absurd (of_decide_eq_false h) (by omega))
      repeat' first | (refine goN hE 100 rfl ?_; conv => whnf) | refine Exists.intro i (And.intro rfl ?_) | refine Exists.intro _ (And.intro get ?_) | refine And.intro (fun h => ?_) (fun h => absurd h (by rw [hq]; decide)) | exact rfl | refine And.intro (fun _ => ?_) (fun h => absurd (show true = false from h) (by decide)) | refine And.intro (fun h => absurd (show false = true from h) (by decide)) (fun _ => ?_) | refine And.intro (fun h => ?_) (fun h => absurd (of_decide_eq_false h) (by omega)) | refine And.intro (fun h => absurd (of_decide_eq_true h) (by omega)) (fun h => ?_) | refine And.intro (fun h => ?_) (fun h => ?_) | refine Or.inl (And.intro (And.intro (by simp only [kmin]; omega) (by simp only [kmax]; omega)) ?_) | refine Exists.intro _ (And.intro rfl ?_) | refine And.intro (by decide) ?_ | refine And.intro (by omega) ?_ | fail
    | false =>
      rw [hq, Bool.false_or] at hr
      have next := ih hr
      refine goes hE 100 ?_
      conv => whnf
      refine And.intro (fun h => ?_) (fun h => absurd (of_decide_eq_false h) (by omega))
      repeat' first | (refine goN hE 100 rfl ?_; conv => whnf) | refine Exists.intro i (And.intro rfl ?_) | refine Exists.intro _ (And.intro get ?_) | refine And.intro (fun h => absurd h (by rw [hq]; decide)) (fun h => ?_) | exact rfl | refine And.intro (fun _ => ?_) (fun h => absurd (show true = false from h) (by decide)) | refine And.intro (fun h => absurd (show false = true from h) (by decide)) (fun _ => ?_) | refine And.intro (fun h => ?_) (fun h => absurd (of_decide_eq_false h) (by omega)) | refine And.intro (fun h => absurd (of_decide_eq_true h) (by omega)) (fun h => ?_) | refine And.intro (fun h => ?_) (fun h => ?_) | refine Or.inl (And.intro (And.intro (by simp only [kmin]; omega) (by simp only [kmax]; omega)) ?_) | refine Exists.intro _ (And.intro rfl ?_) | refine And.intro (by decide) ?_ | refine And.intro (by omega) ?_ | fail
      exact To.cut [0, 1, 5] 0 rfl rfl rfl rfl next
theorem rin21_ok (l : List Int) (hl : l.length ≤ 1048576) (v : Int) : CallOK Tryz.prog 54 [ii v, .slice 1 (iv l) .no] [] (.ret (.bool (inB v l))) [] := by
  refine CallOK.to (E := E) (fn := Tryz.f54) (g := .pure _) (by rfl) (by rfl) (by rfl) (fun _ _ => by rfl) (by decide +kernel) (by rfl) (by rfl) (by rfl) fun _ => ?_
  refine goes hE 100 ?_
  conv => whnf
  exact To.cut [0, 1, 5] 0 rfl rfl rfl rfl (rin21_loop l hl v _ l.length 0 (by omega) rfl)
noncomputable abbrev fRWo : Func := Tryz.f16
theorem rwo_loop (l : List Rn) (hs : Sm l) (ids : List Int) (hd : ids.length ≤ 1048576) (R : List Rn) : ∀ (m i : Nat) (acc : List Rn), i + m = l.length → acc.length ≤ i → acc ++ withoutL (l.drop i) ids = R →
    To (Eo [5] []) fRWo (.pure (.ret (.slice 14 (rav R) .no))) (.head (stk fRWo 0) [(0, .slice 14 (rav l) .no), (1, .slice 1 (iv ids) .no), (5, .slice 14 (rav acc) (.own 0 0)), (6, ii i)] [.tail 0 14 43]) := by
  have hlen : (rav l).length = l.length := by simp
  have hl := hs.1
  intro m
  induction m with
  | zero =>
    intro i acc hi ha hR
    rw [List.drop_eq_nil_of_le (by omega)] at hR
    have hR : acc ++ [] = R := hR
    rw [List.append_nil] at hR
    subst hR
    refine goes (hEo [5] []) 100 ?_
    conv => whnf
    refine And.intro (fun h => absurd (of_decide_eq_true h) (by omega)) (fun h => ?_)
    repeat' first | (refine goN (hEo [5] []) 100 rfl ?_; conv => whnf) | exact rfl | refine And.intro (fun _ => ?_) (fun h => absurd (show true = false from h) (by decide)) | refine And.intro (fun h => absurd (show false = true from h) (by decide)) (fun _ => ?_) | refine And.intro (fun h => ?_) (fun h => absurd (of_decide_eq_false h) (by omega)) | refine And.intro (fun h => absurd (of_decide_eq_true h) (by omega)) (fun h => ?_) | refine And.intro (fun h => ?_) (fun h => ?_) | refine Or.inl (And.intro (And.intro (by simp only [kmin]; omega) (by simp only [kmax]; omega)) ?_) | refine Exists.intro _ (And.intro rfl ?_) | refine And.intro (by decide) ?_ | refine And.intro (by omega) ?_ | fail
  | succ m ih =>
    intro i acc hi ha hR
    have hlt : i < l.length := by omega
    rw [List.drop_eq_getElem_cons hlt] at hR
    generalize hq : l[i] = x at hR
    have get : (rav l)[i]? = some x.av := (rav_get hlt).trans (by rw [hq])
    have hla : (rav acc).length = acc.length := by simp
    have hc := rin21_ok ids hd x.g.id
    cases hw : inB x.g.id ids with
    | true =>
      rw [hw] at hc
      rw [without_neg hw] at hR
      have next := ih (i + 1) acc (by omega) (by omega) hR
      refine goes (hEo [5] []) 100 ?_
      conv => whnf
      refine And.intro (fun h => ?_) (fun h => absurd (of_decide_eq_false h) (by omega))
      repeat' first | (refine goN (hEo [5] []) 100 rfl ?_; conv => whnf) | refine Exists.intro i (And.intro rfl ?_) | refine Exists.intro _ (And.intro get ?_) | refine .pure _ [] hc ?_ | exact rfl | refine And.intro (fun _ => ?_) (fun h => absurd (show true = false from h) (by decide)) | refine And.intro (fun h => absurd (show false = true from h) (by decide)) (fun _ => ?_) | refine And.intro (fun h => ?_) (fun h => absurd (of_decide_eq_false h) (by omega)) | refine And.intro (fun h => absurd (of_decide_eq_true h) (by omega)) (fun h => ?_) | refine And.intro (fun h => ?_) (fun h => ?_) | refine Or.inl (And.intro (And.intro (by simp only [kmin]; omega) (by simp only [kmax]; omega)) ?_) | refine Exists.intro _ (And.intro rfl ?_) | refine And.intro (by decide) ?_ | refine And.intro (by omega) ?_ | fail
      refine To.part [0, 1, 5, 6] [0] rfl rfl rfl ?_
      exact next
    | false =>
      rw [hw] at hc
      rw [without_pos hw] at hR
      have next := ih (i + 1) (acc ++ [x]) (by omega) (by simp; omega) (by rw [List.append_assoc]; exact hR)
      have e : rav (acc ++ [x]) = rav acc ++ [x.av] := by simp
      rw [e] at next
      refine goes (hEo [5] []) 100 ?_
      conv => whnf
      refine And.intro (fun h => ?_) (fun h => absurd (of_decide_eq_false h) (by omega))
      repeat' first | (refine goN (hEo [5] []) 100 rfl ?_; conv => whnf) | refine Exists.intro i (And.intro rfl ?_) | refine Exists.intro _ (And.intro get ?_) | refine .pure _ [] hc ?_ | refine And.intro (And.intro (by simp only [maxLen]; simp; omega) (by simp; omega)) ?_ | exact rfl | refine And.intro (fun _ => ?_) (fun h => absurd (show true = false from h) (by decide)) | refine And.intro (fun h => absurd (show false = true from h) (by decide)) (fun _ => ?_) | refine And.intro (fun h => ?_) (fun h => absurd (of_decide_eq_false h) (by omega)) | refine And.intro (fun h => absurd (of_decide_eq_true h) (by omega)) (fun h => ?_) | refine And.intro (fun h => ?_) (fun h => ?_) | refine Or.inl (And.intro (And.intro (by simp only [kmin]; omega) (by simp only [kmax]; omega)) ?_) | refine Exists.intro _ (And.intro rfl ?_) | refine And.intro (by decide) ?_ | refine And.intro (by omega) ?_ | fail
      refine To.part [0, 1, 5, 6] [0] rfl rfl rfl ?_
      exact next
theorem rwithout_ok (l : List Rn) (hs : Sm l) (ids : List Int) (hd : ids.length ≤ 1048576) : CallOK Tryz.prog 16 [.slice 14 (rav l) .no, .slice 1 (iv ids) .no] [] (.ret (.slice 14 (rav (withoutL l ids)) .no)) [] := by
  refine CallOK.to (E := (Eo [5] [])) (fn := Tryz.f16) (g := .pure _) (by rfl) (by rfl) (by rfl) (fun _ _ => by rfl) (by decide +kernel) (by rfl) (by rfl) (by rfl) fun _ => ?_
  refine goes (hEo [5] []) 100 ?_
  conv => whnf
  refine To.part [0, 1, 5, 6] [0] rfl rfl rfl ?_
  exact rwo_loop l hs ids hd _ l.length 0 [] (by omega) (by simp) rfl

/- ---------- VictimsFit ---------- -/
abbrev vfO (c : Con) (now k : Int) (ws : List AVal) (l : List Rn) (zs : List AVal) (g : Gan) : List AObj := [.cells 30 (stCs c now k ws l zs), .cells 34 g.cs]
end Go.Proofs.YtlalcoklkafnnaaGreat

namespace Go.Proofs.YtlalcoklkafnnaaGreat
open Go Go.AW Go.Proofs
set_option maxRecDepth 10000

/- ---------- sums that stop at the greatest amount ---------- -/
abbrev FarI : Int := 1099511627776
theorem addI_sat {v e : Int} (h0 : 0 ≤ v) (h1 : v ≤ FarI) (he : 0 ≤ e) : addI v e = min (v + e) FarI := by unfold addI cutI FarI at *; omega
def sumI : List Int → Int
  | [] => 0
  | x :: r => x + sumI r
theorem sumI_pos : ∀ {es : List Int}, (∀ e ∈ es, 0 ≤ e) → 0 ≤ sumI es
  | [], _ => Int.le_refl _
  | x :: r, h => by
    have := sumI_pos (es := r) fun e he => h e (by simp [he])
    have := h x (by simp)
    unfold sumI
    omega
theorem sat_fold : ∀ {es : List Int} {v : Int}, 0 ≤ v → v ≤ FarI → (∀ e ∈ es, 0 ≤ e) → es.foldl addI v = min (v + sumI es) FarI
  | [], v, h0, h1, _ => by
    unfold sumI
    show v = _
    omega
  | x :: r, v, h0, h1, h => by
    have hx := h x (by simp)
    have hr := sumI_pos (es := r) fun e he => h e (by simp [he])
    rw [List.foldl_cons, addI_sat h0 h1 hx, sat_fold (by unfold FarI at *; omega) (by omega) fun e he => h e (by simp [he])]
    have e : sumI (x :: r) = x + sumI r := rfl
    rw [e]
    omega
theorem sum_le {α : Type} {f g f' g' : α → Int} : ∀ (l : List α), (∀ s ∈ l, f' s + g' s ≤ f s + g s) → sumI (l.map f') + sumI (l.map g') ≤ sumI (l.map f) + sumI (l.map g)
  | [], _ => by simp [sumI]
  | x :: r, h => by
    have h1 := sum_le r fun s hs => h s (by simp [hs])
    have h2 := h x (by simp)
    simp only [List.map_cons, sumI]
    omega
/-- one resource of an amount -/
structure Prj (p : V3 → Int) : Prop where
  add : ∀ u v, p (vadd u v) = addI (p u) (p v)
  sub : ∀ u v, p (vsub u v) = subI (p u) (p v)
  pos : ∀ u, p (pos0 u) = max (p u) 0
  zero : p V3.zero = 0
theorem prjA : Prj V3.a := ⟨fun _ _ => rfl, fun _ _ => rfl, fun _ => rfl, rfl⟩
theorem prjB : Prj V3.b := ⟨fun _ _ => rfl, fun _ _ => rfl, fun _ => rfl, rfl⟩
theorem prjC : Prj V3.c := ⟨fun _ _ => rfl, fun _ _ => rfl, fun _ => rfl, rfl⟩
section
variable {p : V3 → Int} (hp : Prj p)
include hp
theorem sm_fold (us : List V3) : ∀ (B : List Int) (v : V3), p (B.foldl (smS us) v) = (B.map fun t => p (atV us t)).foldl addI (p v)
  | [], v => rfl
  | t :: r, v => by
    rw [List.foldl_cons, sm_fold us r, List.map_cons, List.foldl_cons]
    congr 1
    exact hp.add _ _
def kE (ns : List Nod) (p : V3 → Int) (us : List V3) (t s : Int) : Int := if s = t then 0 else max (subI (p (vsub (nodAt ns s).n (nodAt ns s).l)) (p (atV us s))) 0
theorem kp_fold (ns : List Nod) (us : List V3) (t : Int) : ∀ (B : List Int) (v : V3), 0 ≤ p v → p v ≤ FarI → p (B.foldl (keptS ns us t) v) = (B.map (kE ns p us t)).foldl addI (p v)
  | [], v, _, _ => rfl
  | s :: r, v, h0, h1 => by
    rw [List.foldl_cons, List.map_cons, List.foldl_cons]
    have e : p (keptS ns us t v s) = addI (p v) (kE ns p us t s) := by
      unfold keptS kE
      by_cases h : s = t
      · rw [if_pos (decide_eq_true h), if_pos h, addI_sat h0 h1 (Int.le_refl _)]
        omega
      · rw [if_neg (by rw [decide_eq_false h]; decide), if_neg h, hp.add, hp.pos, hp.sub]
    have hk : 0 ≤ kE ns p us t s := by unfold kE; split <;> omega
    have hr : 0 ≤ addI (p v) (kE ns p us t s) ∧ addI (p v) (kE ns p us t s) ≤ FarI := by
      rw [addI_sat h0 h1 hk]
      unfold FarI at *
      omega
    rw [kp_fold ns us t r _ (by rw [e]; exact hr.1) (by rw [e]; exact hr.2), e]
theorem all_mono {ns : List Nod} {us us' : List V3} {need : V3} {t n : Int} (hn : 0 ≤ p need) (hu : ∀ s, 0 ≤ p (atV us' s) ∧ p (atV us' s) ≤ p (atV us s) ∧ p (atV us s) ≤ FarI) :
    p (vadd (vadd (sumL ns n us') need) (keptL ns us' n t)) ≤ p (vadd (vadd (sumL ns n us) need) (keptL ns us n t)) := by
  have hz : p V3.zero = 0 := hp.zero
  have main : ∀ (vs : List V3), (∀ s, 0 ≤ p (atV vs s)) → p (vadd (vadd (sumL ns n vs) need) (keptL ns vs n t)) = min (sumI ((belowL ns n).map fun s => p (atV vs s)) + p need + sumI ((belowL ns n).map (kE ns p vs t))) FarI ∧ 0 ≤ sumI ((belowL ns n).map fun s => p (atV vs s)) ∧ 0 ≤ sumI ((belowL ns n).map (kE ns p vs t)) := fun vs hv => by
    have a1 : ∀ e ∈ (belowL ns n).map (fun s => p (atV vs s)), 0 ≤ e := fun e he => by
      obtain ⟨s, _, rfl⟩ := List.mem_map.1 he
      exact hv s
    have a2 : ∀ e ∈ (belowL ns n).map (kE ns p vs t), 0 ≤ e := fun e he => by
      obtain ⟨s, _, rfl⟩ := List.mem_map.1 he
      unfold kE
      split <;> omega
    have s1 := sumI_pos a1
    have s2 := sumI_pos a2
    refine ⟨?_, s1, s2⟩
    rw [hp.add, hp.add]
    unfold sumL keptL
    rw [sm_fold hp, kp_fold hp _ _ _ _ _ (by rw [hz]; exact Int.le_refl _) (by rw [hz]; decide), hz, sat_fold (Int.le_refl _) (by decide) a1, sat_fold (Int.le_refl _) (by decide) a2]
    generalize sumI ((belowL ns n).map fun s => p (atV vs s)) = A at s1
    generalize sumI ((belowL ns n).map (kE ns p vs t)) = K at s2
    rw [addI_sat (v := min (0 + A) FarI) (by unfold FarI; omega) (by omega) hn]
    rw [addI_sat (by unfold FarI; omega) (by omega) (by unfold FarI; omega)]
    unfold FarI
    omega
  obtain ⟨m1, m2, m3⟩ := main us' fun s => (hu s).1
  obtain ⟨k1, k2, k3⟩ := main us fun s => Int.le_trans (hu s).1 (hu s).2.1
  rw [m1, k1]
  have hs := sum_le (f := fun s => p (atV us s)) (g := kE ns p us t) (f' := fun s => p (atV us' s)) (g' := kE ns p us' t) (belowL ns n) fun s _ => by
    obtain ⟨h1, h2, h3⟩ := hu s
    show p (atV us' s) + kE ns p us' t s ≤ p (atV us s) + kE ns p us t s
    unfold kE
    by_cases h : s = t
    · rw [if_pos h, if_pos h]; omega
    · rw [if_neg h, if_neg h, hp.sub]
      generalize p (atV us' s) = x at h1 h2
      generalize p (atV us s) = y at h2 h3
      have hm : -FarI ≤ subI (p (nodAt ns s).n) (p (nodAt ns s).l) ∧ subI (p (nodAt ns s).n) (p (nodAt ns s).l) ≤ FarI := by unfold subI cutI FarI; omega
      generalize subI (p (nodAt ns s).n) (p (nodAt ns s).l) = m at hm
      have f : ∀ z, 0 ≤ z → z ≤ FarI → max (subI m z) 0 = max (m - z) 0 := fun z a b => by unfold subI cutI; unfold FarI at *; omega
      rw [f x h1 (by omega), f y (by omega) h3]
      omega
  omega
end
/-- may so, while some use more: may so while they use less -/
theorem may_mono {c : Con} {us us' : List V3} {t : Int} {need : V3} (hn : need.pos) (hu : ∀ s, (0 ≤ (atV us' s).a ∧ 0 ≤ (atV us' s).b ∧ 0 ≤ (atV us' s).c) ∧ (atV us' s).le (atV us s) ∧ ((atV us s).a ≤ FarI ∧ (atV us s).b ≤ FarI ∧ (atV us s).c ≤ FarI)) (h : mayB c us t need = true) : mayB c us' t need = true := by
  unfold mayB at h ⊢
  cases hq : leafB c.ns t with
  | false => rw [hq] at h; cases h
  | true =>
    rw [hq, if_pos rfl] at h
    rw [if_pos rfl]
    rw [List.all_eq_true] at h ⊢
    intro x hx
    have h := h x hx
    unfold mayP at h ⊢
    by_cases hxt : x = t
    · rw [if_pos (decide_eq_true hxt)] at h ⊢
      unfold ownB at h ⊢
      exact vfits_le.2 ((vadd_mono need (hu x).2.1).trans (vfits_le.1 h))
    · rw [if_neg (by rw [decide_eq_false hxt]; decide)] at h ⊢
      unfold allB at h ⊢
      refine vfits_le.2 (V3.le.trans ⟨?_, ?_, ?_⟩ (vfits_le.1 h))
      · exact all_mono prjA hn.1 fun s => ⟨(hu s).1.1, (hu s).2.1.1, (hu s).2.2.1⟩
      · exact all_mono prjB hn.2.1 fun s => ⟨(hu s).1.2.1, (hu s).2.1.2.1, (hu s).2.2.2.1⟩
      · exact all_mono prjC hn.2.2 fun s => ⟨(hu s).1.2.2, (hu s).2.1.2.2, (hu s).2.2.2.2⟩
theorem ofL_len (c : Con) (l : List Rn) : (ofL c l).length = c.ns.length := by unfold ofL allL; simp
theorem of_mono {c : Con} {l : List Rn} (hd : ∀ x ∈ l, (dem x.g).pos) (q : Rn → Bool) (s : Int) : (0 ≤ (atV (ofL c (l.filter q)) s).a ∧ 0 ≤ (atV (ofL c (l.filter q)) s).b ∧ 0 ≤ (atV (ofL c (l.filter q)) s).c) ∧ (atV (ofL c (l.filter q)) s).le (atV (ofL c l) s) ∧ ((atV (ofL c l) s).a ≤ FarI ∧ (atV (ofL c l) s).b ≤ FarI ∧ (atV (ofL c l) s).c ≤ FarI) := by
  by_cases hs : 0 ≤ s ∧ s.toNat < c.ns.length
  · rw [of_at hs, of_at hs]
    obtain ⟨h1, h2⟩ := use_mono (c := c) (j := s.toNat) q l V3.zero V3.zero hd (le_refl' _) zero_far
    have h3 := (use_mono (c := c) (j := s.toNat) (fun _ => true) (l.filter q) V3.zero V3.zero (fun x hx => hd x (List.mem_filter.1 hx).1) (le_refl' _) zero_far).2
    exact ⟨⟨h3.1.1, h3.2.1.1, h3.2.2.1⟩, h1, h2.1.2, h2.2.1.2, h2.2.2.2⟩
  · have z : ∀ l, atV (ofL c l) s = V3.zero := fun l => by
      unfold atV
      by_cases h0 : s < 0
      · rw [if_pos (decide_eq_true h0)]
      · rw [if_neg (by rw [decide_eq_false h0]; decide), List.getElem?_eq_none (by rw [ofL_len]; omega)]
        rfl
    rw [z, z]
    exact ⟨by decide, le_refl' _, by decide⟩

/- ---------- free hosts ---------- -/
def PW (xs ys : List V3) : Prop := xs.length = ys.length ∧ ∀ j : Nat, ((xs[j]?).getD V3.zero).le ((ys[j]?).getD V3.zero)
def LowB (xs : List V3) : Prop := ∀ j : Nat, -FarI ≤ ((xs[j]?).getD V3.zero).a ∧ -FarI ≤ ((xs[j]?).getD V3.zero).b ∧ -FarI ≤ ((xs[j]?).getD V3.zero).c
theorem subI_mono {a b n : Int} (h : a ≤ b) : subI a n ≤ subI b n := by unfold subI cutI; omega
theorem subI_down {a n : Int} (h : -FarI ≤ a) (hn : 0 ≤ n) : subI a n ≤ a := by unfold subI cutI; unfold FarI at h; omega
theorem subI_low (a n : Int) : -FarI ≤ subI a n := by unfold subI cutI FarI; omega
theorem freeS_get (need : V3) (xs : List V3) (h : Int) (j : Nat) : ((freeS need xs h)[j]?).getD V3.zero = if 0 ≤ h ∧ h.toNat < xs.length ∧ h.toNat = j then vsub ((xs[j]?).getD V3.zero) need else (xs[j]?).getD V3.zero := by
  unfold freeS
  by_cases h1 : 0 ≤ h
  · rw [if_pos (decide_eq_true h1)]
    by_cases h2 : h < (xs.length : Int)
    · rw [if_pos (decide_eq_true h2), List.getElem?_set]
      by_cases h3 : h.toNat = j
      · rw [if_pos h3, if_pos (by omega), if_pos ⟨h1, by omega, h3⟩, h3]
        rfl
      · rw [if_neg h3, if_neg (fun q => h3 q.2.2)]
    · rw [if_neg (by rw [decide_eq_false h2]; decide), if_neg (fun q => by omega)]
  · rw [if_neg (by rw [decide_eq_false h1]; decide), if_neg (fun q => h1 q.1)]
theorem freeS_mono {need : V3} {xs ys : List V3} (h : Int) (hp : PW xs ys) : PW (freeS need xs h) (freeS need ys h) := by
  refine ⟨by rw [freeS_len, freeS_len]; exact hp.1, fun j => ?_⟩
  rw [freeS_get, freeS_get, hp.1]
  split
  · have := hp.2 j
    exact ⟨subI_mono this.1, subI_mono this.2.1, subI_mono this.2.2⟩
  · exact hp.2 j
theorem freeS_down {need : V3} {xs ys : List V3} (hn : need.pos) (hl : LowB xs) (h : Int) (hp : PW xs ys) : PW (freeS need xs h) ys := by
  refine ⟨by rw [freeS_len]; exact hp.1, fun j => ?_⟩
  rw [freeS_get]
  split
  · have := hl j
    exact V3.le.trans ⟨subI_down this.1 hn.1, subI_down this.2.1 hn.2.1, subI_down this.2.2 hn.2.2⟩ (hp.2 j)
  · exact hp.2 j
theorem freeS_lowB {need : V3} {xs : List V3} (hl : LowB xs) (h : Int) : LowB (freeS need xs h) := fun j => by
  rw [freeS_get]
  split
  · exact ⟨subI_low _ _, subI_low _ _, subI_low _ _⟩
  · exact hl j
theorem freeX_both {x : Rn} (hn : x.g.need.pos) : ∀ (hs : List Int) (xs ys : List V3), LowB xs → PW xs ys → LowB (hs.foldl (freeS x.g.need) xs) ∧ PW (hs.foldl (freeS x.g.need) xs) (hs.foldl (freeS x.g.need) ys) ∧ PW (hs.foldl (freeS x.g.need) xs) ys
  | [], xs, ys, h, hp => ⟨h, hp, hp⟩
  | a :: r, xs, ys, h, hp => by
    rw [List.foldl_cons, List.foldl_cons]
    obtain ⟨q1, q2, _⟩ := freeX_both hn r _ _ (freeS_lowB h a) (freeS_mono a hp)
    obtain ⟨_, _, q3⟩ := freeX_both hn r _ _ (freeS_lowB h a) (freeS_down hn h a hp)
    exact ⟨q1, q2, q3⟩
theorem free_mono (q : Rn → Bool) : ∀ (l : List Rn) (xs ys : List V3), (∀ x ∈ l, x.g.need.pos) → LowB xs → PW xs ys → PW (l.foldl freeX xs) ((l.filter q).foldl freeX ys)
  | [], xs, ys, _, _, hp => hp
  | x :: r, xs, ys, hn, hl, hp => by
    obtain ⟨q1, q2, q3⟩ := freeX_both (hn x (by simp)) x.hs xs ys hl hp
    rw [List.foldl_cons, List.filter_cons]
    cases q x with
    | true =>
      rw [if_pos rfl, List.foldl_cons]
      exact free_mono q r _ _ (fun y hy => hn y (by simp [hy])) q1 q2
    | false =>
      rw [if_neg (by decide)]
      exact free_mono q r _ _ (fun y hy => hn y (by simp [hy])) q1 q3

/- ---------- room, groups ---------- -/
theorem room_nn {f need : V3} (hv : validB need = true) : 0 ≤ roomI f need := by
  by_cases h : vfits need f = true
  · refine (room_le hv h 0).2 ?_
    obtain ⟨⟨a1, _⟩, ⟨b1, _⟩, c1, _⟩ := validB_iff hv
    obtain ⟨h1, h2, h3⟩ := vfits_iff.1 h
    simp only [Int.mul_zero]
    omega
  · unfold roomI; rw [if_neg h]; omega
theorem room_mono {f f' need : V3} (hv : validB need = true) (h : f.le f') : roomI f need ≤ roomI f' need := by
  by_cases hf : vfits need f = true
  · have hf' : vfits need f' = true := vfits_le.2 ((vfits_le.1 hf).trans h)
    have h1 := (room_le hv hf (roomI f need)).1 (Int.le_refl _)
    exact (room_le hv hf' _).2 ⟨h1.1, Int.le_trans h1.2.1 h.1, Int.le_trans h1.2.2.1 h.2.1, Int.le_trans h1.2.2.2 h.2.2⟩
  · have := room_nn (f := f') hv
    have e : roomI f need = 0 := by unfold roomI; rw [if_neg hf]
    omega
theorem in_mono {free free' : List V3} {g : Gan} (hv : validB g.need = true) (hp : PW free free') : ∀ (gr : List Int) (o o' : List Int), o.length ≤ o'.length → (o'.length : Int) ≤ g.pods → (gr.foldl (inS free g) o).length ≤ (gr.foldl (inS free' g) o').length
  | [], o, o', h, _ => h
  | x :: r, o, o', h, hb => by
    rw [List.foldl_cons, List.foldl_cons]
    refine in_mono hv hp r _ _ ?_ (inS_len free' g o' x hb)
    unfold inS
    by_cases h1 : x < 0
    · rw [if_pos (decide_eq_true h1), if_pos (decide_eq_true h1)]; exact h
    · simp only [h1, decide_false, Bool.false_eq_true, if_false, hp.1]
      by_cases h2 : (free'.length : Int) ≤ x
      · simp only [h2, decide_true, if_true]; exact h
      · simp only [h2, decide_false, Bool.false_eq_true, if_false]
        have hr := room_mono hv (hp.2 x.toNat)
        have hr0 := room_nn (f := (free[x.toNat]?).getD V3.zero) hv
        simp only [List.length_append, List.length_replicate]
        unfold inN
        omega
theorem fdG_mono {c : Con} {free free' : List V3} {g : Gan} (hg : 0 ≤ g.pods) (hv : validB g.need = true) (hp : PW free free') : ∀ (gs : List (List Int)), (fdG c free g gs).isSome = true → (fdG c free' g gs).isSome = true
  | [], h => by cases h
  | gr :: r, h => by
    have hm := in_mono (free := free) (free' := free') (g := g) hv hp gr [] [] (Nat.le_refl _) (by simpa using hg)
    have hm : (inL free g gr).length ≤ (inL free' g gr).length := hm
    unfold fdG at h ⊢
    by_cases h1 : ((inL free' g gr).length : Int) < g.pods
    · rw [if_pos (decide_eq_true h1)]
      rw [if_pos (decide_eq_true (by omega))] at h
      exact fdG_mono hg hv hp r h
    · rw [if_neg (by rw [decide_eq_false h1]; decide)]
      rfl
theorem fdL_mono {c : Con} {free free' : List V3} {g : Gan} (hg : 0 ≤ g.pods) (hv : validB g.need = true) (hp : PW free free') : ∀ (n : Nat) (lv : Int), (fdL c free g n lv).isSome = true → (fdL c free' g n lv).isSome = true
  | 0, lv, h => by cases h
  | n + 1, lv, h => by
    unfold fdL at h ⊢
    have hm := fdG_mono (c := c) hg hv hp (gpL c lv)
    cases hq : fdG c free' g (gpL c lv) with
    | some x => rfl
    | none =>
      rw [hq] at hm
      cases hw : fdG c free g (gpL c lv) with
      | some x => rw [hw] at hm; exact absurd (hm rfl) (by decide)
      | none =>
        rw [hw] at h
        exact fdL_mono hg hv hp n (lv + 1) h
/-- WHO FITS WHILE SOME RUN FITS WHILE FEWER RUN -/
theorem fits_mono {c : Con} {l : List Rn} {g : Gan} (hcap : ∀ h ∈ c.hs, h.c.pos) (hd : ∀ x ∈ l, (dem x.g).pos) (hn : ∀ x ∈ l, x.g.need.pos) (hg : 0 ≤ g.pods) (hdg : (dem g).pos) (hv : validB g.need = true) (q : Rn → Bool) (h : (fitsL c l g).isSome = true) : (fitsL c (l.filter q) g).isSome = true := by
  unfold fitsL at h ⊢
  cases hm : mayB c (ofL c l) g.ten (dem g) with
  | false => rw [hm] at h; cases h
  | true =>
    rw [hm, if_pos rfl] at h
    rw [may_mono hdg (of_mono hd q) hm, if_pos rfl]
    unfold findL at h ⊢
    refine fdL_mono hg hv ?_ _ _ h
    unfold freeL
    refine free_mono q l _ _ hn (fun j => ?_) ⟨rfl, fun j => le_refl' _⟩
    rw [List.getElem?_map]
    by_cases hj : j < c.hs.length
    · rw [List.getElem?_range hj]
      have := hcap (hosAt c.hs (j : Int)) (by unfold hosAt; rw [Int.toNat_natCast, List.getElem?_eq_getElem hj]; exact List.getElem_mem hj)
      show -FarI ≤ (hosAt c.hs (j : Int)).c.a ∧ _ ∧ _
      exact ⟨Int.le_trans (by decide) this.1, Int.le_trans (by decide) this.2.1, Int.le_trans (by decide) this.2.2⟩
    · rw [List.getElem?_eq_none (by simp; omega)]
      show -FarI ≤ V3.zero.a ∧ -FarI ≤ V3.zero.b ∧ -FarI ≤ V3.zero.c
      decide
end Go.Proofs.YtlalcoklkafnnaaGreat

namespace Go.Proofs.YtlalcoklkafnnaaGreat
open Go Go.AW Go.Proofs
set_option maxRecDepth 10000

theorem pos_valid {v : V3} (h : validB v = true) : v.pos := by
  obtain ⟨a, b, c⟩ := validB_iff h
  exact ⟨a.1, b.1, c.1⟩
theorem few_caps {c : Con} {now : Int} {l : List Rn} (h : fewI c now l = 1) : ∀ x ∈ c.hs, x.c.pos := by
  intro x hx
  unfold fewI at h
  split at h
  · cases h
  · rename_i hb
    unfold badF at hb
    have h0 : checkI c = 0 := Decidable.byContradiction fun q => hb (.inl q)
    unfold checkI at h0
    split at h0
    · split at h0
      · split at h0
        · rename_i ha
          have := List.all_eq_true.1 ha x hx
          unfold hostX at this
          split at this
          · cases this
          · exact pos_valid this
        · cases h0
      · cases h0
    · cases h0
theorem few_needs {c : Con} {now : Int} {l : List Rn} (h : fewI c now l = 1) : ∀ x ∈ l, x.g.need.pos := by
  intro x hx
  unfold fewI at h
  split at h
  · cases h
  · split at h
    · rename_i hb
      have := List.all_eq_true.1 hb x hx
      unfold runX at this
      split at this
      · cases this
      · rename_i hr
        unfold badR at hr
        have hg : gangI c.ns x.g ≠ 0 := fun e => hr (.inl e)
        exact pos_valid (gang1_valid hg)
    · cases h
/-- more that give way: who fitted fits -/
theorem fitW_mono {c : Con} {l : List Rn} {g : Gan} (hcap : ∀ h ∈ c.hs, h.c.pos) (hd : ∀ x ∈ l, (dem x.g).pos) (hn : ∀ x ∈ l, x.g.need.pos) (hg : 0 ≤ g.pods) (hdg : (dem g).pos) (hv : validB g.need = true) {F S : List Int} (hs : ∀ n ∈ F, n ∈ S) (h : fitW c l g F = true) : fitW c l g S = true := by
  have e : withoutL l S = (withoutL l F).filter fun x => !(inB x.g.id S) := by
    unfold withoutL
    rw [List.filter_filter]
    refine List.filter_congr fun x _ => ?_
    cases h1 : inB x.g.id S with
    | true => rfl
    | false =>
      cases h2 : inB x.g.id F with
      | true =>
        have := inB_iff.2 (hs _ (inB_iff.1 h2))
        rw [h1] at this
        cases this
      | false => rfl
  have hm : ∀ x ∈ withoutL l F, x ∈ l := fun x hx => (without_mem.1 hx).1
  unfold fitW at h ⊢
  rw [e]
  exact fits_mono hcap (fun x hx => hd x (hm x hx)) (fun x hx => hn x (hm x hx)) hg hdg hv _ h
theorem less_mem {ids : List Int} {a n : Int} : n ∈ lessL ids a ↔ n ∈ ids ∧ n ≠ a := by
  unfold lessL
  rw [List.mem_filter]
  simp
/-- none that is left could stay -/
theorem chS_min {c : Con} {l : List Rn} {g : Gan} (hm : ∀ F S : List Int, (∀ n ∈ F, n ∈ S) → fitW c l g F = true → fitW c l g S = true) (bs : List Int) : ∀ (ids : List Int), ∀ a ∈ bs.foldl (chS c l g) ids, a ∈ bs → fitW c l g (lessL (bs.foldl (chS c l g) ids) a) = false := by
  have sub : ∀ (bs ids : List Int), (bs.foldl (chS c l g) ids).Sublist ids := fun bs => by
    induction bs with
    | nil => intro ids; exact List.Sublist.refl _
    | cons b r ih =>
      intro ids
      rw [List.foldl_cons]
      refine (ih _).trans ?_
      have e : chS c l g ids b = if fitW c l g (lessL ids b) = true then lessL ids b else ids := rfl
      rw [e]
      split
      · exact List.filter_sublist
      · exact List.Sublist.refl _
  induction bs with
  | nil => intro ids a _ h; cases h
  | cons b r ih =>
    intro ids a ha hb
    rw [List.foldl_cons] at ha ⊢
    by_cases har : a ∈ r
    · exact ih _ a ha har
    · have hab : a = b := by
        rcases List.mem_cons.1 hb with h | h
        · exact h
        · exact absurd h har
      subst hab
      have hs := sub r (chS c l g ids a)
      have e : chS c l g ids a = if fitW c l g (lessL ids a) = true then lessL ids a else ids := rfl
      cases hf : fitW c l g (lessL ids a) with
      | true =>
        rw [hf, if_pos rfl] at e
        rw [e] at ha hs
        exact absurd rfl (less_mem.1 (hs.subset ha)).2
      | false =>
        rw [hf, if_neg (by decide)] at e
        rw [e] at ha hs ⊢
        generalize List.foldl (chS c l g) ids r = R at ha hs
        cases hq : fitW c l g (lessL R a) with
        | false => rfl
        | true =>
          have := hm (lessL R a) (lessL ids a) (fun n hn => by
            obtain ⟨h1, h2⟩ := less_mem.1 hn
            exact less_mem.2 ⟨hs.subset h1, h2⟩) hq
          rw [hf] at this
          cases this
theorem choose_min {c : Con} {l : List Rn} {g : Gan} (hm : ∀ F S : List Int, (∀ n ∈ F, n ∈ S) → fitW c l g F = true → fitW c l g S = true) {R : List Int} (h : chooseL c l g = some R) : ∀ a ∈ R, fitW c l g (lessL R a) = false := by
  unfold chooseL at h
  split at h
  · split at h
    · cases h
    · rename_i ids hc
      cases h
      obtain ⟨h1, h2, h3⟩ := chA_spec _ [] (by simp) (by simp) hc
      obtain ⟨_, h5⟩ := chS_spec ids ids h3
      exact fun a ha => chS_min hm ids ids a ha (h5.subset ha)
  · cases h
/-- all but the one at place i -/
def remF (i : Nat) : Nat → List Int → List Int
  | _, [] => []
  | k, x :: r => if k = i then remF i (k + 1) r else x :: remF i (k + 1) r
theorem remF_none (i : Nat) : ∀ (l : List Int) (k : Nat), i < k → remF i k l = l
  | [], k, _ => rfl
  | x :: r, k, h => by
    unfold remF
    rw [if_neg (by omega), remF_none i r (k + 1) (by omega)]
theorem remF_less : ∀ (l : List Int) (i k : Nat) (a : Int), l.Nodup → k ≤ i → l[i - k]? = some a → remF i k l = lessL l a
  | [], i, k, a, _, _, h => by simp at h
  | x :: r, i, k, a, hn, hk, h => by
    have hn := List.nodup_cons.1 hn
    unfold remF lessL
    rw [List.filter_cons]
    by_cases hki : k = i
    · subst hki
      rw [Nat.sub_self] at h
      have hx : x = a := by simpa using h
      subst hx
      rw [if_pos rfl, remF_none _ _ _ (by omega), if_neg (by simp)]
      exact (List.filter_eq_self.2 fun y hy => by
        have : y ≠ x := fun e => hn.1 (e ▸ hy)
        simpa using this).symm
    · have e : i - k = (i - (k + 1)) + 1 := by omega
      rw [e, List.getElem?_cons_succ] at h
      have ha : a ∈ r := List.mem_of_getElem? h
      have hx : x ≠ a := fun q => hn.1 (q ▸ ha)
      rw [if_neg hki, if_pos (by simpa using hx), remF_less r i (k + 1) a hn.2 (by omega) h]
      rfl
theorem remF_len (i : Nat) : ∀ (l : List Int) (k : Nat), (remF i k l).length ≤ l.length
  | [], k => by simp [remF]
  | x :: r, k => by
    have := remF_len i r (k + 1)
    unfold remF
    split
    · simp; omega
    · simp; omega
noncomputable abbrev fVN : Func := Tryz.f5
abbrev vnF (ids : List Int) (i : Int) : List (Nat × AVal) := [(2, .ref 0 0), (3, .ref 1 0), (5, .slice 1 (iv ids) .no), (7, ii i)]
theorem vn_in (c : Con) (hc : c.sm) (now kk : Int) (ws : List AVal) (l : List Rn) (hs : Sm l) (zs : List AVal) (g : Gan) (hg : 0 ≤ g.pods ∧ g.pods ≤ 16) (hv : validB g.need = true) (ids : List Int) (hd : ids.length ≤ 1048576) (i : Nat) (hi : i < 1048576) (R : List Int) (hRl : R.length ≤ 1048576) (hf : fitW c l g R = false)
    (next : To (Eo [8] []) fVN (.pure (.ret (.bool true))) (.head (stk fVN 0) (vnF ids ((i : Int) + 1)) (vfO c now kk ws l zs g))) : ∀ (m k : Nat) (acc : List Int), k + m = ids.length → acc.length ≤ k → acc ++ remF i k (ids.drop k) = R →
    To (Eo [8] []) fVN (.pure (.ret (.bool true))) (.head (stk fVN 1) (vnF ids i ++ [(8, .slice 1 (iv acc) (.own 2 0)), (9, ii k)]) (vfO c now kk ws l zs g ++ [.tail 0 1 3])) := by
  have hlen : (iv ids).length = ids.length := by simp
  intro m
  induction m with
  | zero =>
    intro k acc hk ha hR
    rw [List.drop_eq_nil_of_le (by omega)] at hR
    have hR : acc ++ [] = R := hR
    rw [List.append_nil] at hR
    subst hR
    have hw := rwithout_ok l hs acc hRl
    have hft := r19fits_ok c hc (withoutL l acc) (without_sm hs acc) g hg hv
    unfold fitW at hf
    generalize withoutL l acc = left at hw hft hf
    generalize fitsL c left g = Q at hft hf
    unfold fdA at hft
    cases Q with
    | some x => cases hf
    | none =>
      refine goes (hEo [8] []) 100 ?_
      conv => whnf
      refine And.intro (fun h => absurd (of_decide_eq_true h) (by omega)) (fun h => ?_)
      repeat' first | (refine goN (hEo [8] []) 100 rfl ?_; conv => whnf) | refine .pure _ [] (CallOK.strip hw) ?_ | refine .pure _ [] hft ?_ | exact rfl | refine And.intro (fun _ => ?_) (fun h => absurd (show true = false from h) (by decide)) | refine And.intro (fun h => absurd (show false = true from h) (by decide)) (fun _ => ?_) | refine And.intro (fun h => ?_) (fun h => absurd (of_decide_eq_false h) (by omega)) | refine And.intro (fun h => absurd (of_decide_eq_true h) (by omega)) (fun h => ?_) | refine And.intro (fun h => ?_) (fun h => ?_) | refine Or.inl (And.intro (And.intro (by simp only [kmin]; omega) (by simp only [kmax]; omega)) ?_) | refine Exists.intro _ (And.intro rfl ?_) | refine And.intro (by decide) ?_ | refine And.intro (by omega) ?_ | fail
      refine To.part [2, 3, 5, 7] [0, 1] rfl rfl rfl ?_
      exact next
  | succ m ih =>
    intro k acc hk ha hR
    have hlt : k < ids.length := by omega
    rw [List.drop_eq_getElem_cons hlt] at hR
    have gk := iv_get hlt
    generalize ids[k] = x at hR gk
    have hla : (iv acc).length = acc.length := by simp
    have er : remF i k (x :: ids.drop (k + 1)) = if k = i then remF i (k + 1) (ids.drop (k + 1)) else x :: remF i (k + 1) (ids.drop (k + 1)) := rfl
    rw [er] at hR
    by_cases hki : k = i
    · rw [if_pos hki] at hR
      have nx := ih (k + 1) acc (by omega) (by omega) hR
      have q2 : ((k : Int) != (i : Int)) = false := by simp [hki]
      refine goes (hEo [8] []) 100 ?_
      conv => whnf
      refine And.intro (fun h => ?_) (fun h => absurd (of_decide_eq_false h) (by omega))
      repeat' first | (refine goN (hEo [8] []) 100 rfl ?_; conv => whnf) | refine And.intro (fun h => absurd h (by rw [q2]; decide)) (fun h => ?_) | exact rfl | refine And.intro (fun _ => ?_) (fun h => absurd (show true = false from h) (by decide)) | refine And.intro (fun h => absurd (show false = true from h) (by decide)) (fun _ => ?_) | refine And.intro (fun h => ?_) (fun h => absurd (of_decide_eq_false h) (by omega)) | refine And.intro (fun h => absurd (of_decide_eq_true h) (by omega)) (fun h => ?_) | refine And.intro (fun h => ?_) (fun h => ?_) | refine Or.inl (And.intro (And.intro (by simp only [kmin]; omega) (by simp only [kmax]; omega)) ?_) | refine Exists.intro _ (And.intro rfl ?_) | refine And.intro (by decide) ?_ | refine And.intro (by omega) ?_ | fail
      refine To.part [2, 3, 5, 7, 8, 9] [0, 1, 2] rfl rfl rfl ?_
      exact nx
    · rw [if_neg hki] at hR
      have nx := ih (k + 1) (acc ++ [x]) (by omega) (by simp; omega) (by rw [List.append_assoc]; exact hR)
      have e : iv (acc ++ [x]) = iv acc ++ [ii x] := by simp
      rw [e] at nx
      have q2 : ((k : Int) != (i : Int)) = true := by
        have : ¬ (k : Int) = (i : Int) := by omega
        simpa using this
      refine goes (hEo [8] []) 100 ?_
      conv => whnf
      refine And.intro (fun h => ?_) (fun h => absurd (of_decide_eq_false h) (by omega))
      repeat' first | (refine goN (hEo [8] []) 100 rfl ?_; conv => whnf) | refine Exists.intro k (And.intro rfl ?_) | refine Exists.intro _ (And.intro gk ?_) | refine And.intro (fun h => ?_) (fun h => absurd h (by rw [q2]; decide)) | refine And.intro (And.intro (by simp only [maxLen]; simp; omega) (by simp; omega)) ?_ | exact rfl | refine And.intro (fun _ => ?_) (fun h => absurd (show true = false from h) (by decide)) | refine And.intro (fun h => absurd (show false = true from h) (by decide)) (fun _ => ?_) | refine And.intro (fun h => ?_) (fun h => absurd (of_decide_eq_false h) (by omega)) | refine And.intro (fun h => absurd (of_decide_eq_true h) (by omega)) (fun h => ?_) | refine And.intro (fun h => ?_) (fun h => ?_) | refine Or.inl (And.intro (And.intro (by simp only [kmin]; omega) (by simp only [kmax]; omega)) ?_) | refine Exists.intro _ (And.intro rfl ?_) | refine And.intro (by decide) ?_ | refine And.intro (by omega) ?_ | fail
      refine To.part [2, 3, 5, 7, 8, 9] [0, 1, 2] rfl rfl rfl ?_
      exact nx
theorem vn_out (c : Con) (hc : c.sm) (now kk : Int) (ws : List AVal) (l : List Rn) (hs : Sm l) (zs : List AVal) (g : Gan) (hg : 0 ≤ g.pods ∧ g.pods ≤ 16) (hv : validB g.need = true) (ids : List Int) (hd : ids.length ≤ 1048576)
    (H : ∀ i, i < ids.length → fitW c l g (remF i 0 ids) = false) : ∀ (m i : Nat), i + m = ids.length →
    To (Eo [8] []) fVN (.pure (.ret (.bool true))) (.head (stk fVN 0) (vnF ids i) (vfO c now kk ws l zs g)) := by
  have hlen : (iv ids).length = ids.length := by simp
  intro m
  induction m with
  | zero =>
    intro i hi
    refine goes (hEo [8] []) 100 ?_
    conv => whnf
    refine And.intro (fun h => absurd (of_decide_eq_true h) (by omega)) (fun h => ?_)
    repeat' first | (refine goN (hEo [8] []) 100 rfl ?_; conv => whnf) | refine .pure _ [] awake21_ok ?_ | exact rfl | refine And.intro (fun _ => ?_) (fun h => absurd (show true = false from h) (by decide)) | refine And.intro (fun h => absurd (show false = true from h) (by decide)) (fun _ => ?_) | refine And.intro (fun h => ?_) (fun h => absurd (of_decide_eq_false h) (by omega)) | refine And.intro (fun h => absurd (of_decide_eq_true h) (by omega)) (fun h => ?_) | refine And.intro (fun h => ?_) (fun h => ?_) | refine Or.inl (And.intro (And.intro (by simp only [kmin]; omega) (by simp only [kmax]; omega)) ?_) | refine Exists.intro _ (And.intro rfl ?_) | refine And.intro (by decide) ?_ | refine And.intro (by omega) ?_ | fail
  | succ m ih =>
    intro i hi
    have hrl := remF_len i ids 0
    have hin := vn_in c hc now kk ws l hs zs g hg hv ids hd i (by omega) (remF i 0 ids) (by omega) (H i (by omega)) (ih (i + 1) (by omega)) ids.length 0 [] (by omega) (by simp) rfl
    refine goes (hEo [8] []) 100 ?_
    conv => whnf
    refine And.intro (fun h => ?_) (fun h => absurd (of_decide_eq_false h) (by omega))
    repeat' first | (refine goN (hEo [8] []) 100 rfl ?_; conv => whnf) | exact rfl | refine And.intro (fun _ => ?_) (fun h => absurd (show true = false from h) (by decide)) | refine And.intro (fun h => absurd (show false = true from h) (by decide)) (fun _ => ?_) | refine And.intro (fun h => ?_) (fun h => absurd (of_decide_eq_false h) (by omega)) | refine And.intro (fun h => absurd (of_decide_eq_true h) (by omega)) (fun h => ?_) | refine And.intro (fun h => ?_) (fun h => ?_) | refine Or.inl (And.intro (And.intro (by simp only [kmin]; omega) (by simp only [kmax]; omega)) ?_) | refine Exists.intro _ (And.intro rfl ?_) | refine And.intro (by decide) ?_ | refine And.intro (by omega) ?_ | fail
    refine To.part [2, 3, 5, 7, 8, 9] [0, 1, 2] rfl rfl rfl ?_
    exact hin
theorem vneeded_ok (c : Con) (hc : c.sm) (now k : Int) (ws : List AVal) (l : List Rn) (hs : Sm l) (zs : List AVal) (g : Gan) : CallOK Tryz.prog 5 [.agg (stCs c now k ws l zs), g.av] [] (.ret (.bool true)) [] := by
  by_cases hP : fewP c now l g
  · have hfw := few21_yes c hc now k ws l hs zs g hP
    obtain ⟨p1, p2, p3⟩ := hP
    have hgi : gangI c.ns g ≠ 0 := by rw [p3]; decide
    have hg := gang_pods hgi
    have hv := gang_valid hgi
    have ho := onceB_iff p2
    have hd := few_pos p1
    have hl := hs.1
    have hch := choose_ok c hc l hs g hg
    cases hR : chooseL c l g with
    | none =>
      rw [hR] at hch
      unfold chR at hch
      have hout := vn_out c hc now k ws l hs zs g hg hv [] (by simp) (fun i h => by simp at h) 0 0 rfl
      refine CallOK.to (E := (Eo [8] [])) (fn := Tryz.f5) (g := .pure _) (by rfl) (by rfl) (by rfl) (fun _ _ => by rfl) (by decide +kernel) (by rfl) (by rfl) (by rfl) fun _ => ?_
      repeat' first | (refine goN (hEo [8] []) 100 rfl ?_; conv => whnf) | refine .pure _ [] hfw ?_ | refine .pure _ [] hch ?_ | exact rfl | refine And.intro (fun _ => ?_) (fun h => absurd (show true = false from h) (by decide)) | refine And.intro (fun h => absurd (show false = true from h) (by decide)) (fun _ => ?_) | refine And.intro (fun h => ?_) (fun h => absurd (of_decide_eq_false h) (by omega)) | refine And.intro (fun h => absurd (of_decide_eq_true h) (by omega)) (fun h => ?_) | refine And.intro (fun h => ?_) (fun h => ?_) | refine Or.inl (And.intro (And.intro (by simp only [kmin]; omega) (by simp only [kmax]; omega)) ?_) | refine Exists.intro _ (And.intro rfl ?_) | refine And.intro (by decide) ?_ | refine And.intro (by omega) ?_ | fail
      refine To.part [2, 3, 5, 7] [0, 1] rfl rfl rfl ?_
      exact hout
    | some ids =>
      rw [hR] at hch
      unfold chR at hch
      obtain ⟨w1, w2, w3, w4⟩ := choose_spec hR
      have hwl := without_len ho w2 fun n hn => by
        obtain ⟨_, x, h1, h2, _⟩ := w3 n hn
        exact ⟨x, h1, h2⟩
      have hmin := choose_min (fun F S h => fitW_mono (few_caps p1) hd (few_needs p1) hg.1 (dem_pos hv hg) hv h) hR
      have hout := vn_out c hc now k ws l hs zs g hg hv ids (by omega) (fun i hi => by
        have hx : ids[i - 0]? = some ids[i] := by rw [Nat.sub_zero]; exact List.getElem?_eq_getElem hi
        rw [remF_less ids i 0 _ w2 (Nat.zero_le _) hx]
        exact hmin _ (List.getElem_mem hi)) ids.length 0 (by omega)
      refine CallOK.to (E := (Eo [8] [])) (fn := Tryz.f5) (g := .pure _) (by rfl) (by rfl) (by rfl) (fun _ _ => by rfl) (by decide +kernel) (by rfl) (by rfl) (by rfl) fun _ => ?_
      repeat' first | (refine goN (hEo [8] []) 100 rfl ?_; conv => whnf) | refine .pure _ [] hfw ?_ | refine .pure _ [] hch ?_ | exact rfl | refine And.intro (fun _ => ?_) (fun h => absurd (show true = false from h) (by decide)) | refine And.intro (fun h => absurd (show false = true from h) (by decide)) (fun _ => ?_) | refine And.intro (fun h => ?_) (fun h => absurd (of_decide_eq_false h) (by omega)) | refine And.intro (fun h => absurd (of_decide_eq_true h) (by omega)) (fun h => ?_) | refine And.intro (fun h => ?_) (fun h => ?_) | refine Or.inl (And.intro (And.intro (by simp only [kmin]; omega) (by simp only [kmax]; omega)) ?_) | refine Exists.intro _ (And.intro rfl ?_) | refine And.intro (by decide) ?_ | refine And.intro (by omega) ?_ | fail
      refine To.part [2, 3, 5, 7] [0, 1] rfl rfl rfl ?_
      exact hout
  · have hfw := few21_no c hc now k ws l hs zs g hP
    refine CallOK.to (E := (Eo [8] [])) (fn := Tryz.f5) (g := .pure _) (by rfl) (by rfl) (by rfl) (fun _ _ => by rfl) (by decide +kernel) (by rfl) (by rfl) (by rfl) fun _ => ?_
    repeat' first | (refine goN (hEo [8] []) 100 rfl ?_; conv => whnf) | refine .pure _ [] hfw ?_ | refine .pure _ [] awake21_ok ?_ | exact rfl | refine And.intro (fun _ => ?_) (fun h => absurd (show true = false from h) (by decide)) | refine And.intro (fun h => absurd (show false = true from h) (by decide)) (fun _ => ?_) | refine And.intro (fun h => ?_) (fun h => absurd (of_decide_eq_false h) (by omega)) | refine And.intro (fun h => absurd (of_decide_eq_true h) (by omega)) (fun h => ?_) | refine And.intro (fun h => ?_) (fun h => ?_) | refine Or.inl (And.intro (And.intro (by simp only [kmin]; omega) (by simp only [kmax]; omega)) ?_) | refine Exists.intro _ (And.intro rfl ?_) | refine And.intro (by decide) ?_ | refine And.intro (by omega) ?_ | fail
end Go.Proofs.YtlalcoklkafnnaaGreat

namespace Go.Proofs.YtlalcoklkafnnaaGreat
open Go Go.AW Go.Proofs
open Go.ChangeShapes Go.WideShapes Go.ChangeAt Go.RowKit
set_option maxRecDepth 100000

theorem tnRunsM {N n : Nat} {cs : List AVal} (hN0 : N ≤ 1048576) (h : TyN Tryz.prog N (n + 5) 27 cs) : ∃ l : List Rn, cs = [.slice 14 (rav l) .no] ∧ Sm l ∧ l.length ≤ N := by
  unfold TyN at h
  rw [Tryz.underlying27] at h
  obtain ⟨xs, rfl, hN, hx⟩ := h
  have hc : Tryz.prog.cellsOf 43 = 14 := by kernel_rfl
  obtain ⟨l, rfl, hl⟩ := allsN (av := Rn.av) (Q := fun x => x.hs.length ≤ 1048576) (P := fun x => x ∈ xs) (fun x hm => by
    obtain ⟨cs, rfl⟩ := (hx x hm).2.1 (by kernel_rfl)
    obtain ⟨p, hp, hq⟩ := tnRun (n := n) (hx _ hm).1
    exact ⟨p, by unfold Rn.av; rw [← hp]; rfl, Nat.le_trans hq hN0⟩) xs fun x hm => hm
  exact ⟨l, by rw [hc], ⟨Nat.le_trans (by simpa using hN) hN0, hl⟩, by simpa using hN⟩
theorem tnConM {N n : Nat} {cs : List AVal} (hN0 : N ≤ 1048576) (h : TyN Tryz.prog N (n + 5) 25 cs) : ∃ c : Con, cs = c.cs ∧ c.sm := by
  unfold TyN at h
  rw [Tryz.underlying25] at h
  obtain ⟨x0, r, rfl, h0, x1, r, rfl, h1, x2, r, rfl, h2, x3, r, rfl, h3, rfl⟩ := h
  obtain ⟨ns, rfl, l0⟩ := tnNodes (n := n) h0
  obtain ⟨hs, rfl, l1⟩ := tnHosts (n := n) h1
  obtain ⟨a2, rfl⟩ := tnInt h2
  obtain ⟨a3, rfl⟩ := tnInt h3
  exact ⟨⟨ns, hs, a2, a3⟩, rfl, ⟨Nat.le_trans l0 hN0, Nat.le_trans l1 hN0⟩⟩
theorem tnStM {N n : Nat} {cs : List AVal} (hN0 : N ≤ 1048576) (h : TyN Tryz.prog N (n + 6) 30 cs) : ∃ (c : Con) (now k : Int) (ws : List AVal) (l : List Rn) (zs : List AVal), cs = stCs c now k ws l zs ∧ c.sm ∧ Sm l ∧ l.length ≤ N := by
  unfold TyN at h
  rw [Tryz.underlying30] at h
  obtain ⟨x0, r, rfl, h0, x1, r, rfl, h1, x2, r, rfl, h2, x3, r, rfl, h3, x4, r, rfl, h4, x5, r, rfl, h5, rfl⟩ := h
  obtain ⟨c, rfl, hc⟩ := tnConM (n := n) hN0 h0
  obtain ⟨now, rfl⟩ := tnInt h1
  obtain ⟨k, rfl⟩ := tnInt h2
  obtain ⟨ws, rfl⟩ := tnAny (n := n + 4) Tryz.underlying26 h3
  obtain ⟨l, rfl, hl⟩ := tnRunsM (n := n) hN0 h4
  obtain ⟨zs, rfl⟩ := tnAny (n := n + 4) Tryz.underlying28 h5
  have e1 : Tryz.prog.cellsOf 194 = 11 := by kernel_rfl
  have e2 : Tryz.prog.cellsOf 195 = 1 := by kernel_rfl
  rw [e1, e2]
  exact ⟨c, now, k, ws, l, zs, rfl, hc, hl⟩
section
variable {H : Type} {enc : TypeId × Value → H} {W : World} {r : Reach} {base b0 : Nat} {spare : Nat → Bool} {held : Bool} {v : Value} {d : DataW H} {ps : List MemPlace}
theorem open_stateM {N : Nat} (hN0 : N ≤ 1048576) (hv : Value.okWide Tryz.prog W r b0 30 v) (h : DataW.Trod enc Tryz.prog W base spare held 30 v d ps) (hG : Rows.uptoBulk d ≤ N) : ∃ (c : Con) (now k : Int) (ws : List AVal) (l : List Rn) (zs : List AVal), Rep (Mw W) [] v (.agg (stCs c now k ws l zs)) ∧ c.sm ∧ Sm l ∧ l.length ≤ N := by
  obtain ⟨cs0, hr, ht⟩ := arg_aggN (n := 6) (bulkN H N) (by kernel_rfl) (by kernel_rfl) hv h hG
  obtain ⟨c, now, k, ws, l, zs, rfl, hc, hl⟩ := tnStM (n := 0) hN0 ht
  exact ⟨c, now, k, ws, l, zs, hr, hc, hl⟩
end
end Go.Proofs.YtlalcoklkafnnaaGreat
