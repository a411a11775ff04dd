/-
  The engine, second make, third part: code, contracts, statements. Over any program.
-/
import Derived.Defers
import Derived.RangeFuncRecord
import Derived.ChangeKeysEq
import Derived.Lib.Overlaps
import Derived.WalkKit
import Derived.ProofKit
import Derived.OpenShut
import Derived.Recover
import Derived.Sort.Grow
import Derived.Test.YtmalnhgopkfdaaaGreatWBB
set_option linter.all false
namespace Go.AW
open Go.RowKit
open Classical
section
variable {P : Program} {M : Imm} {ob : Hs} {L obs : List AObj} {w : World} {a : Act}
theorem fr_put {g : Nat → AVal} (hf : ∀ t, Rep M ob (a.tmps.getD t undef) (g t)) {u : Value} {v : AVal} (hr : Rep M ob u v) {d : Option Nat} (hd : ∀ d', d = some d' → d' < a.tmps.size) :
  ∀ t, Rep M ob ((a.put d u).tmps.getD t undef) (updG g d v t) := by
 intro t
 unfold updG
 cases d with
 | none => rw [if_neg (by simp)]; exact hf t
 | some d =>
  have hlt := hd d rfl
  by_cases h : d = t
  ·subst h
   simp only [if_true, Act.put]
   rw [Array.getD_eq_getD_getElem?, Array.getElem?_setIfInBounds_self_of_lt hlt]
   exact hr
  ·rw [if_neg (by simpa using h)]
   simp only [Act.put]
   rw [Array.getD_eq_getD_getElem?, Array.getElem?_setIfInBounds_ne h, ← Array.getD_eq_getD_getElem?]
   exact hf t
theorem put_size (a : Act) (d : Option Nat) (u : Value) : (a.put d u).tmps.size = a.tmps.size ∧ (a.put d u).defers = a.defers := by
 cases d <;> simp [Act.put]
theorem ev_rep {fr : List (Nat × AVal)} (h : ∀ t, Rep M ob (a.tmps.getD t undef) (getS fr t)) (x : Operand) : Rep M ob (a.eval x) (ev fr x) := by
 cases x with
 | tmp t => exact h t
 | const v => exact cval_rep v
 | global g => exact .undef _
 | func f => exact .func (.func f) [] [] [] [] rfl rfl (fun i v a h => by simp at h) (fun i v a h => by simp at h)
theorem evG_rep {tab : List Nat} {all : List Oper} {j : Nat} {g : Nat → AVal} (h : ∀ t, Rep M ob (a.tmps.getD t undef) (g t)) (x : Operand) : Rep M ob (a.eval x) (evG tab all j g x) := by
 cases x with
 | tmp t =>
  simp only [evG]
  cases hidT tab j t 0 all with
  | true => exact .undef _
  | false => exact h t
 | const v => exact cval_rep v
 | global g => exact .undef _
 | func f => exact .func (.func f) [] [] [] [] rfl rfl (fun i v a h => by simp at h) (fun i v a h => by simp at h)
def G (rd : Option Nat) (P : Program) (ops : Array Oper) (p : Oper) (a : Act) (w : World) (next : Act → World → Prop) (Q : Exit → Act → World → Prop) : Prop :=
 if Region.wanted p (yielded ops a.tmps) then p.wpIn (fen rd) 0 P a w next Q else next (a.put p.dst undef) w
theorem wanted_spec {ops : Array Oper} {p : Oper} {ρ : Operand → AVal} (hf : ∀ x, Rep M ob (a.eval x) (ρ x)) {b : Bool}
  (h : wantedE ops.toList ρ p.guard = some b) : Region.wanted p (yielded ops a.tmps) = b := by
 unfold wantedE at h
 unfold Region.wanted
 cases hg : p.guard with
 | none => rw [hg] at h; simpa using h
 | some gw =>
  obtain ⟨j, want⟩ := gw
  rw [hg] at h
  dsimp only at h ⊢
  split at h
  ·rename_i q hq
   have hq' : ops[j]? = some q := by simpa using nth_some hq
   split at h
   ·rename_i d hd
    have hfd := hf (.tmp d)
    have hy : ∀ u, a.tmps.getD d undef = u → yielded ops a.tmps j = match u with | .bool b => some b | _ => none := by
     intro u hu
     unfold yielded
     rw [hq']
     simp only [Option.bind_some, hd]
     rw [Array.getD_eq_getD_getElem?] at hu
     cases ht : a.tmps[d]? with
     | none => rw [ht] at hu; simp at hu; subst hu; rfl
     | some x => rw [ht] at hu; simp at hu; subst hu; cases x <;> rfl
    split at h
    ·rename_i b' hb
     rw [hb] at hfd
     have hv : a.tmps.getD d undef = .bool b' := hfd.bool_inv
     rw [hy _ hv]
     cases h
     simp
    ·rename_i hb
     rw [hb] at hfd
     obtain ⟨us, hu, hl, _⟩ := hfd.tup_inv
     have hv : a.tmps.getD d undef = .tuple us.toArray := hu
     rw [hy _ hv]
     cases h
     simp
    ·cases h
   ·cases h
  ·cases h
theorem rep_undef : Rep M ob undef (.tup []) := .tup [] [] rfl fun i v a h => by simp at h
theorem oget_pad_eq : ∀ {L obs : List AObj}, oget L = oget obs → L.length ≤ obs.length → obs = L ++ List.replicate (obs.length - L.length) .dead := fun {L obs} hg hl => by
 refine List.ext_getElem? fun k => ?_
 by_cases hk : k < L.length
 ·rw [List.getElem?_append_left hk, oget_get hk, oget_get (show k < obs.length by omega), hg]
 ·rw [List.getElem?_append_right (by omega), List.getElem?_replicate]
  by_cases hk2 : k < obs.length
  ·rw [if_pos (by omega), oget_get hk2, ← hg]
   rcases oget_or L k with ⟨h1, _⟩ | ⟨_, _, e⟩
   ·omega
   ·rw [e]
  ·rw [if_neg (by omega), List.getElem?_eq_none (by omega)]
theorem Mem.norm (h : Mem M ob L w) (hg : oget L = oget obs) (hf : ∀ (k : Nat), obs.length ≤ k → ∀ hs, ob[k]? = some hs → hs = []) :
  ∃ ob', Mem M ob' obs w ∧ (∀ (k g : Nat) v, at' ob k g = some v → at' ob' k g = some v) ∧ ∀ {M0 : Imm} {ob0 : Hs} {obs0 : List AObj} {w0 : World}, Ext M0 ob0 obs0 w0 M ob L w → ob0.length ≤ obs.length → Ext M0 ob0 obs0 w0 M ob' obs w := by
 by_cases hl : L.length ≤ obs.length
 ·have e := oget_pad_eq hg hl
  obtain ⟨m1, m2, _⟩ := h.extend (obs.length - L.length)
  rw [← e] at m1 m2
  exact ⟨_, m1, fun k g v hv => m2.hs.at hv, fun hx _ => hx.trans m2⟩
 ·have e := oget_pad_eq hg.symm (by omega)
  rw [e] at h
  obtain ⟨s1, s2, s3⟩ := h.shrink fun i hs hi => hf i hi hs
  exact ⟨_, s1, s2, fun hx h0 => s3 (e ▸ hx) h0⟩
theorem orF_mono {K K' Kp : AVal → List AObj → Prop} (hk : ∀ v o, K v o → K' v o) : ∀ {r : OR}, orF P obs K Kp r → orF P obs K' Kp r
 | .no, k => k.elim
 | .val v, k => hk _ _ k
 | .mkf fn fs cs, k => hk _ _ k
 | .need p r, k => ⟨k.1, orF_mono hk k.2⟩
 | .alt p v w, k => k.imp (fun h => ⟨h.1, hk _ _ h.2⟩) (hk _ _)
 | .idx n f, ⟨i, hi, k⟩ => ⟨i, hi, orF_mono hk k⟩
 | .elem xs i f, ⟨x, hx, k⟩ => ⟨x, hx, orF_mono hk k⟩
 | .byte l i, ⟨c, hc, k⟩ => ⟨c, hc, hk _ _ k⟩
 | .text xs, ⟨l, hl, hm, k⟩ => ⟨l, hl, hm, hk _ _ k⟩
 | .find es key f, ⟨o, ho, k⟩ => ⟨o, ho, orF_mono hk k⟩
 | .born x v, k => hk _ _ k
 | .upd i x v, k => hk _ _ k
 | .nilq xs neg, k => fun b hb => hk _ _ (k b hb)
 | .call f args, k => CallG.mono hk k
 | .pan v, k => k
theorem orD_orF {seen : List AObj} {base : Nat} {K Kp : AVal → List AObj → Prop} (hb : base = olen obs) (hs : seen = obs) : ∀ {r : OR}, orD P true true false seen obs base K Kp r → orF P obs K Kp r
 | .no, k => k.elim
 | .val v, k => k
 | .mkf fn fs cs, k => k
 | .need p r, k => ⟨k.1, orD_orF hb hs k.2⟩
 | .alt p v w, k => k
 | .idx n f, ⟨i, hi, k⟩ => ⟨i, hi, orD_orF hb hs k⟩
 | .elem xs i f, ⟨x, hx, k⟩ => ⟨x, hx, orD_orF hb hs k⟩
 | .byte l i, k => k
 | .text xs, k => k
 | .find es key f, ⟨o, ho, k⟩ => ⟨o, ho, orD_orF hb hs k⟩
 | .born x v, k => by rw [hb] at k; exact k
 | .upd i x v, k => k
 | .nilq xs neg, k => k
 | .call f args, k => by
  have k : CallD P f args true seen base obs K Kp := k
  cases k with
  | pure r new h k => subst hb hs; exact .eff [] [] r new rfl h k
  | sole _ h => exact h
 | .pan v, k => k
end
section
variable {rd : Option Nat} {M0 : Imm} {ob0 : Hs} {obs0 : List AObj} {w0 : World} {sz : Nat} {dfs : List (Nat × List AVal)} {E : Env} {ops : Array Oper} {Q : Exit → Act → World → Prop} {K : List (Nat × AVal) → List AObj → Prop} {Kp : (Nat → AVal) → AVal → List AObj → Prop}
def DsRp (M : Imm) (ob : Hs) (ds : List Deferred) (dfs : List (Nat × List AVal)) : Prop :=
 ds.length = dfs.length ∧ ∀ (i : Nat) d x, ds[i]? = some d → dfs[i]? = some x → d.target = .fn (.func x.1) #[] ∧ RepL M ob d.args.toList x.2
theorem DsRp.nil {M : Imm} {ob : Hs} : DsRp M ob [] [] := ⟨rfl, fun i d x h => by simp at h⟩
theorem DsRp.nil_inv {M : Imm} {ob : Hs} {ds : List Deferred} (h : DsRp M ob ds []) : ds = [] := List.eq_nil_of_length_eq_zero h.1
theorem DsRp.mono {M M' : Imm} {ob ob' : Hs} {ds : List Deferred} {dfs : List (Nat × List AVal)} (hM : ∀ b o x, M b o x → M' b o x) (ho : HsLe ob ob') (h : DsRp M ob ds dfs) : DsRp M' ob' ds dfs :=
 ⟨h.1, fun i d x hd hx => ⟨(h.2 i d x hd hx).1, (h.2 i d x hd hx).2.1, fun j v a hv ha => ((h.2 i d x hd hx).2.2 j v a hv ha).mono hM ho⟩⟩
theorem DsRp.monoA {M : Imm} {ob ob' : Hs} {ds : List Deferred} {dfs : List (Nat × List AVal)} (ho : ∀ (k g : Nat) v, at' ob k g = some v → at' ob' k g = some v) (h : DsRp M ob ds dfs) : DsRp M ob' ds dfs :=
 ⟨h.1, fun i d x hd hx => ⟨(h.2 i d x hd hx).1, (h.2 i d x hd hx).2.1, fun j v a hv ha => ((h.2 i d x hd hx).2.2 j v a hv ha).monoA ho⟩⟩
def Mks (w0 w : World) : List Deferred → Prop
 | [] => True
 | d :: ds => (∃ b, d.target = .collected b ∧ w0.heap.size ≤ b ∧ w.heap[b]? = some (.deferred (some [])) ∧ ∀ d' ∈ ds, d'.target ≠ .collected b) ∧ Mks w0 w ds
theorem Mks.same {w0 w w' : World} : ∀ {ds : List Deferred}, (∀ d ∈ ds, ∀ b, d.target = .collected b → w.heap[b]? = some (.deferred (some [])) → w'.heap[b]? = some (.deferred (some []))) → Mks w0 w ds → Mks w0 w' ds
 | [], _, _ => trivial
 | d :: ds, hb, ⟨⟨b, h1, h2, h3, h4⟩, h5⟩ => ⟨⟨b, h1, h2, hb d (by simp) b h1 h3, h4⟩, Mks.same (fun d hd => hb d (by simp [hd])) h5⟩
def DsRep (w0 w : World) (M : Imm) (ob : Hs) (ds : List Deferred) (dfs : List (Nat × List AVal)) : Prop := ∃ ds1 ds2, ds = ds1 ++ ds2 ∧ DsRp M ob ds1 dfs ∧ Mks w0 w ds2
theorem Mem.alive_heap {M : Imm} {ob : Hs} {obs : List AObj} {w : World} (hm : Mem M ob obs w) {k b : Nat} (ha : Alive ob obs k b) : ∃ o, w.heap[b]? = some o ∧ isDefd o = false := by
 obtain ⟨c, hs, e1, e2, e3, e4⟩ := ha
 obtain ⟨hs', e5, hok⟩ := hm.obj k c e1
 rw [e3] at e5
 cases e5
 have row : ∀ {v : Value} {n sz : Nat} {e : TypeId} {cv : List Value}, w.ownsRow 0 e sz v n cv → blk hs = v.ownBlock.toList → ∃ o, w.heap[b]? = some o ∧ isDefd o = false := fun {v n sz e cv} ho hb => by
  have e6 := own_blk hb e4
  rcases ho.2 with ⟨rfl, _⟩ | ⟨g, cap, cur, q1, _, q3, _⟩
  ·cases e6
  ·rw [q1] at e6
   cases e6
   exact ⟨_, q3, rfl⟩
 cases c with
 | dead => cases e2
 | fcells cs => cases e2
 | frow g sz xs => cases e2
 | cells T cs =>
  obtain ⟨b', rfl, _, cv, h2, _⟩ := hok
  have := mem_blk1.1 e4
  subst this
  exact ⟨_, h2, rfl⟩
 | row g sz e xs =>
  obtain ⟨h1, v, h2, cv, h3, _⟩ := hok
  exact row h3 ((blk_last h1 h2).trans (ownsRow_blk h3))
 | tail g sz e =>
  obtain ⟨h1, v, h2, n, cv, h3, _⟩ := hok
  exact row h3 ((blk_last h1 h2).trans (ownsRow_blk h3))
 | mp ag es =>
  obtain ⟨b', rfl, _, en, cl, h2, _⟩ := hok
  have := mem_blk1.1 e4
  subst this
  exact ⟨_, h2, rfl⟩
 | bun g I =>
  obtain ⟨h1, bs, h2, h3, _⟩ := hok
  have e : blk hs = bs := by rw [← blk_bun (hs := [bunV bs]) rfl]; exact blk_last h1 h2
  rw [e] at e4
  exact h3 b e4
theorem DsRep.nil {w0 w : World} {M : Imm} {ob : Hs} : DsRep w0 w M ob [] [] := ⟨[], [], rfl, .nil, trivial⟩
theorem DsRep.marks {w0 w : World} {M : Imm} {ob : Hs} {ds : List Deferred} (h : DsRep w0 w M ob ds []) : Mks w0 w ds := by
 obtain ⟨d1, d2, rfl, h1, h2⟩ := h
 rw [h1.nil_inv]; exact h2
theorem DsRep.bare {w0 w : World} {M M' : Imm} {ob ob' : Hs} {ds : List Deferred} (h : DsRep w0 w M ob ds []) : DsRep w0 w M' ob' ds [] := ⟨[], ds, rfl, .nil, h.marks⟩
theorem DsRep.mono {w0 w : World} {M M' : Imm} {ob ob' : Hs} {ds : List Deferred} {dfs : List (Nat × List AVal)} (hM : ∀ b o x, M b o x → M' b o x) (ho : HsLe ob ob') (h : DsRep w0 w M ob ds dfs) : DsRep w0 w M' ob' ds dfs :=
 let ⟨d1, d2, e, h1, h2⟩ := h; ⟨d1, d2, e, h1.mono hM ho, h2⟩
theorem DsRep.monoA {w0 w : World} {M : Imm} {ob ob' : Hs} {ds : List Deferred} {dfs : List (Nat × List AVal)} (ho : ∀ (k g : Nat) v, at' ob k g = some v → at' ob' k g = some v) (h : DsRep w0 w M ob ds dfs) : DsRep w0 w M ob' ds dfs :=
 let ⟨d1, d2, e, h1, h2⟩ := h; ⟨d1, d2, e, h1.monoA ho, h2⟩
theorem DsRep.put {w0 w : World} {M : Imm} {ob : Hs} {a : Act} {d : Option Nat} {u : Value} {dfs : List (Nat × List AVal)} (h : DsRep w0 w M ob a.defers dfs) : DsRep w0 w M ob (a.put d u).defers dfs := by rw [(put_size a d u).2]; exact h
theorem DsRep.same {w0 w w' : World} {M : Imm} {ob : Hs} {ds : List Deferred} {dfs : List (Nat × List AVal)} (hw : w'.heap = w.heap) (h : DsRep w0 w M ob ds dfs) : DsRep w0 w' M ob ds dfs :=
 let ⟨d1, d2, e, h1, h2⟩ := h; ⟨d1, d2, e, h1, h2.same fun d _ b _ h => by rw [hw]; exact h⟩
theorem DsRep.ext {w0 w w' : World} {M M' : Imm} {ob ob' : Hs} {obs obs' : List AObj} {ds : List Deferred} {dfs : List (Nat × List AVal)} (h : DsRep w0 w M ob ds dfs) (hm : Mem M ob obs w) (hx : Ext M ob obs w M' ob' obs' w') : DsRep w0 w' M' ob' ds dfs :=
 let ⟨d1, d2, e, h1, h2⟩ := h
 ⟨d1, d2, e, h1.mono hx.imm hx.hs, h2.same fun d _ b _ h => by
  rw [hx.keep b (getD_lt h) fun k ha => by
   obtain ⟨o, q1, q2⟩ := hm.alive_heap ha
   rw [h] at q1
   cases q1
   cases q2]
  exact h⟩
def SS (M0 : Imm) (ob0 : Hs) (obs0 : List AObj) (w0 : World) (sz : Nat) (dfs : List (Nat × List AVal)) (fr : List (Nat × AVal)) (obs : List AObj) (a : Act) (w : World) : Prop :=
 ∃ M ob, Ext M0 ob0 obs0 w0 M ob obs w ∧ Mem M ob obs w ∧ (∀ t, Rep M ob (a.tmps.getD t undef) (getS fr t)) ∧ a.tmps.size = sz ∧ DsRep w0 w M ob a.defers dfs ∧ ob0.length ≤ obs.length
def PP (M0 : Imm) (ob0 : Hs) (obs0 : List AObj) (w0 : World) (sz : Nat) (dfs : List (Nat × List AVal)) (gf : Nat → AVal) (v : AVal) (obs : List AObj) (ch : List PanicEntry) (a : Act) (w : World) : Prop :=
 ∃ M ob, Ext M0 ob0 obs0 w0 M ob obs w ∧ Mem M ob obs w ∧ EndRep M ob (.panicked ch) (.pan v) ∧ (∀ t, Rep M ob (a.tmps.getD t undef) (gf t)) ∧ a.tmps.size = sz ∧ DsRep w0 w M ob a.defers dfs ∧ ob0.length ≤ obs.length
theorem Ext.lens {M M' : Imm} {ob ob' : Hs} {L L' : List AObj} {w w' : World} (hx : Ext M ob L w M' ob' L' w') : ob.length ≤ ob'.length := by
 rcases Nat.eq_zero_or_pos ob.length with h | h
 ·omega
 ·obtain ⟨hs', e, _⟩ := hx.hs (ob.length - 1) _ (List.getElem?_eq_getElem (by omega))
  have := (List.getElem?_eq_some_iff.1 e).1
  omega
theorem eop_nodefer {P : Program} {hint base : Nat} {obs : List AObj} {ρ : Operand → AVal} {op : Op} {ty : TypeId} {K Kp : AVal → List AObj → Prop} (h : orF P obs K Kp (eop E hint base (oget obs) ρ op ty)) : ∀ c, op ≠ .defer c := by
 intro c e
 subst e
 exact h.elim
theorem seq_step (hE : EnvOK E) {fr : List (Nat × AVal)} {obs : List AObj} {a : Act} {w : World} (hs : SS M0 ob0 obs0 w0 sz dfs fr obs a w) {p : Oper} (hd : ∀ d, p.dst = some d → d < sz) {hint : Nat}
  (h : match wantedE ops.toList (ev fr) p.guard with
   | none => False
   | some false => K (putO fr p.dst (.tup [])) obs
   | some true => orF E.P obs (fun v obs => K (putO fr p.dst v) obs) (Kp (getS fr)) (eop E hint (olen obs) (oget obs) (ev fr) p.op p.type))
  (hp : ∀ v obs ch w, Kp (getS fr) v obs → PP M0 ob0 obs0 w0 sz dfs (getS fr) v obs ch a w → Q (.panic ch) a w) :
  G rd E.P ops p a w (fun a w => ∃ fr obs, K fr obs ∧ SS M0 ob0 obs0 w0 sz dfs fr obs a w) Q := by
 obtain ⟨M, ob, hx, hm, hf, hsz, hdf, h0⟩ := hs
 have hev := ev_rep hf
 have hl := hm.len
 unfold G
 cases hw : wantedE ops.toList (ev fr) p.guard with
 | none => rw [hw] at h; exact h.elim
 | some b =>
  rw [hw] at h
  rw [wanted_spec hev hw]
  cases b with
  | false =>
   rw [if_neg (by simp)]
   refine ⟨_, obs, h, M, ob, hx, hm, ?_, (put_size _ _ _).1.trans hsz, hdf.put, h0⟩
   rw [getS_putO]
   exact fr_put hf rep_undef fun d' e => hsz ▸ hd d' e
  | true =>
   rw [if_pos rfl]
   have hnd : ∀ c, p.op ≠ .defer c := eop_nodefer h
   refine (seq_run hE hm hev h).wpIn hnd (fun u w' ⟨M', ob', L', x1, x2, x3⟩ => ?_) (fun ch w' ⟨M', ob', L', x1, x2, x3⟩ => ?_)
   ·rcases x3 with ⟨u', v, e, hr, hk⟩ | ⟨ch, v, e, _⟩
    ·cases e
     have := x1.lens
     have := x2.len
     refine ⟨_, L', hk, M', ob', hx.trans x1, x2, ?_, (put_size _ _ _).1.trans hsz, (hdf.ext hm x1).put, by omega⟩
     rw [getS_putO]
     exact fr_put (fun t => (hf t).mono x1.imm x1.hs) hr fun d' e => hsz ▸ hd d' e
    ·cases e
   ·rcases x3 with ⟨u', v, e, _⟩ | ⟨ch', v, e, hr, hk⟩
    ·cases e
    ·cases e
     have := x1.lens
     have := x2.len
     exact hp v L' ch w' hk ⟨M', ob', hx.trans x1, x2, hr, fun t => (hf t).mono x1.imm x1.hs, hsz, hdf.ext hm x1, by omega⟩
theorem wk {l : List Oper} {p : Oper} {a : Act} {w : World} {next : Act → World → Prop} (hg : G rd E.P ops p a w next Q) (hn : ∀ a w, next a w → wpListIn (fen rd) 0 E.P ops Q l a w) : wpListIn (fen rd) 0 E.P ops Q (p :: l) a w := by
 unfold wpListIn
 unfold G at hg
 split
 ·rename_i hw; rw [if_pos hw] at hg; exact Oper.wpIn_mono hn hg
 ·rename_i hw; rw [if_neg hw] at hg; exact ⟨fun _ _ => trivial, hn _ _ hg⟩
theorem chain_sound (hE : EnvOK E) (hp : ∀ g v obs ch a w, Kp g v obs → PP M0 ob0 obs0 w0 sz dfs g v obs ch a w → Q (.panic ch) a w) (hq : ∀ fr obs a w, K fr obs → SS M0 ob0 obs0 w0 sz dfs fr obs a w → Q .normal a w) :
  ∀ (l : List Oper) (n : Nat) (fr : List (Nat × AVal)) (obs : List AObj) (a : Act) (w : World), (∀ p ∈ l, ∀ d, p.dst = some d → d < sz) → chain E ops.toList K Kp n l fr obs → SS M0 ob0 obs0 w0 sz dfs fr obs a w → wpListIn (fen rd) 0 E.P ops Q l a w
 | [], n, fr, obs, a, w, _, h, hs => hq fr obs a w h hs
 | p :: l, n, fr, obs, a, w, hd, h, hs => by
  refine wk (seq_step (K := fun fr obs => chain E ops.toList K Kp (n + 1) l fr obs) (Kp := Kp) (hint := hintOf E p.dst) hE hs (hd p (by simp)) ?_ fun v obs ch w hk hpp => hp (getS fr) v obs ch a w hk hpp) fun a' w' ⟨fr', obs', hk, hs'⟩ => chain_sound hE hp hq l (n + 1) fr' obs' a' w' (fun p hp => hd p (by simp [hp])) hk hs'
  simp only [chain] at h
  cases hw : wantedE ops.toList (ev fr) p.guard with
  | none => rw [hw] at h; exact h.elim
  | some b =>
   rw [hw] at h
   cases b with
   | false => exact h
   | true =>
    exact orF_mono (fun v o h => wrP_put h) h
end
section
variable {rd : Option Nat} {M0 : Imm} {ob0 : Hs} {obs0 : List AObj} {w0 : World} {sz : Nat} {dfs : List (Nat × List AVal)} {E : Env} {ops : Array Oper} {Q : Exit → Act → World → Prop} {K : AS → Prop} {Kp : (Nat → AVal) → AVal → List AObj → Prop} {L0 : Nat} {tab : List Nat}
theorem resOK_nodefer {P : Program} {og og' : Nat → AObj} {hint base base' : Nat} {ρ : Operand → AVal} {op : Op} {ty : TypeId} {z : AVal} {bs : List AObj} (h : resOK P og' base' z bs (eop E hint base og ρ op ty)) : ∀ c, op ≠ .defer c := by
 intro c e
 subst e
 exact h.elim
theorem resU_nodefer {og : Nat → AObj} {hint base k : Nat} {ρ : Operand → AVal} {op : Op} {ty : TypeId} {z : AVal} {x : AObj} (h : resU z k x (eop E hint base og ρ op ty)) : ∀ c, op ≠ .defer c := by
 intro c e
 subst e
 exact h.elim
def DS (M0 : Imm) (ob0 : Hs) (obs0 : List AObj) (w0 : World) (sz : Nat) (dfs : List (Nat × List AVal)) (L0 : Nat) (s : AS) (a : Act) (w : World) : Prop :=
 ∃ M ob L, Ext M0 ob0 obs0 w0 M ob L w ∧ Mem M ob L w ∧ oget L = s.o ∧ (∀ t, Rep M ob (a.tmps.getD t undef) (s.g t)) ∧ a.tmps.size = sz ∧ DsRep w0 w M ob a.defers dfs ∧ ob0.length ≤ L0 ∧
  ∀ (k : Nat), L0 ≤ k → (∀ i, ¬ s.br i k) → ∀ hs, ob[k]? = some hs → hs = []
theorem dr_step (hE : EnvOK E) (hd : ∀ (i : Nat) p, ops[i]? = some p → ∀ d, p.dst = some d → d < sz) (hp : ∀ g v obs ch a w, Kp g v obs → PP M0 ob0 obs0 w0 sz dfs g v obs ch a w → Q (.panic ch) a w)
  {s : AS} {a : Act} {w : World} (hs : DS M0 ob0 obs0 w0 sz dfs L0 s a w) {i : Nat} (h : aOp E ops tab L0 Kp i K s)  : wpOpIn (fen rd) 0 E.P ops Q i (fun a w => ∃ s', K s' ∧ DS M0 ob0 obs0 w0 sz dfs L0 s' a w) a w := by
 obtain ⟨p, hi, h⟩ := h
 have hdp := hd i p hi
 suffices hg : G rd E.P ops p a w (fun a w => ∃ s', K s' ∧ DS M0 ob0 obs0 w0 sz dfs L0 s' a w) Q by
  unfold wpOpIn
  rw [hi]
  dsimp only
  unfold G at hg
  split
  ·rename_i hw; rw [if_pos hw] at hg; exact hg
  ·rename_i hw; rw [if_neg hw] at hg; exact ⟨fun _ _ => trivial, hg⟩
 obtain ⟨M, ob, L, hx, hm, ho, hf, hsz, hdf, h0, hfree⟩ := hs
 have hev : ∀ x, Rep M ob (a.eval x) (evG tab ops.toList i s.g x) := evG_rep hf
 have skip : ∀ {base : Nat}, K (s.upd i p.dst (.tup []) base []) → Region.wanted p (yielded ops a.tmps) = false → G rd E.P ops p a w (fun a w => ∃ s', K s' ∧ DS M0 ob0 obs0 w0 sz dfs L0 s' a w) Q := fun {base} hk hw => by
  unfold G
  rw [if_neg (by rw [hw]; simp)]
  refine ⟨_, hk, ?_⟩
  rw [upd_nil]
  exact ⟨M, ob, L, hx, hm, ho, fr_put hf rep_undef fun d' e => hsz ▸ hdp d' e, (put_size _ _ _).1.trans hsz, hdf.put, h0, hfree⟩
 rcases h with ⟨_, z, base, bs, ⟨hb, _, hy⟩, hfr, hk⟩ | ⟨_, z, base, k, x, ⟨⟨hb, hbr⟩, hw, hnd, hres⟩, hk⟩ | ⟨_, obs, hoo, hl0, hall, hlt, hy⟩
 ·rcases hy with ⟨hw, rfl, rfl⟩ | ⟨hw, hres⟩
  ·exact skip hk (wanted_spec hev hw)
  ·unfold G
   rw [wanted_spec hev hw, if_pos rfl]
   obtain ⟨hid, hseen⟩ : ∃ hid, oget (seenL hid L) = seenB E tab i p.dst s := by
    cases hbl : blD E p.dst with
    | true => exact ⟨fun _ => True, by rw [seenL_oget]; unfold seenB; rw [if_pos hbl]; simp⟩
    | false => exact ⟨hidK tab i s.br, by rw [seenL_oget, ho]; unfold seenB; rw [if_neg (by rw [hbl]; simp)]; rfl⟩
   rw [← hseen] at hres
   refine (dr_run hE hm hev (fun k hk => hfree k (Nat.le_trans hb hk.1) (hfr k hk)) hres).wpIn (resOK_nodefer hres) (fun u w' ⟨M', ob', L', u', e, x1, x2, x3, x4, x5, x6⟩ => ?_) (fun ch w' ⟨M', ob', L', u', e, _⟩ => by cases e)
   cases e
   refine ⟨_, hk, M', ob', L', hx.trans x1, x2, ?_, fr_put (fun t => (hf t).mono x1.imm x1.hs) x5 fun d' e => hsz ▸ hdp d' e, (put_size _ _ _).1.trans hsz, (hdf.ext hm x1).put, h0, fun k h1 h2 hs he => ?_⟩
   ·rw [x3, ho]; rfl
   ·have hnin : ¬ inB base bs.length k := fun h => h2 i (.inr ⟨rfl, h⟩)
    exact x6 k hnin (hfree k h1 fun i' hb => h2 i' (.inl hb)) hs he
 ·unfold G
  rw [wanted_spec hev hw, if_pos rfl]
  have hseen : oget (seenL (hidK tab i s.br) L) = seenF tab i s := by
   rw [seenL_oget, ho]
   rfl
  rw [← hseen] at hres hnd
  refine (dr_runU hE hm hev (hfree base hb hbr) hnd hres).wpIn (resU_nodefer hres) (fun u w' ⟨M', ob', L', u', e, x1, x2, x3, x4, x5, x6⟩ => ?_) (fun ch w' ⟨M', ob', L', u', e, _⟩ => by cases e)
  cases e
  refine ⟨_, hk, M', ob', L', hx.trans x1, x2, ?_, fr_put (fun t => (hf t).mono x1.imm x1.hs) x5 fun d' e => hsz ▸ hdp d' e, (put_size _ _ _).1.trans hsz, (hdf.ext hm x1).put, h0, fun k' h1 h2 hs he => x6 k' (hfree k' h1 h2) hs he⟩
  rw [x3, ho]
  rfl
 ·rcases hy with ⟨hw, hk⟩ | ⟨hw, hor⟩
  ·exact skip hk (wanted_spec hev hw)
  ·unfold G
   rw [wanted_spec hev hw, if_pos rfl]
   have hof := olen_eq obs
   obtain ⟨ob1, n1, n2, n3⟩ := hm.norm (obs := obs) (ho.trans hoo.symm) fun k hk => hfree k (by omega) fun i hb => by have := hlt i k hb; omega
   have hev1 : ∀ x, Rep M ob1 (a.eval x) (evG tab ops.toList i s.g x) := fun x => (hev x).monoA n2
   have hx1 := n3 hx (by omega)
   refine (seq_run hE n1 hev1 (orD_orF rfl rfl hor)).wpIn (eop_nodefer (orD_orF rfl rfl hor)) (fun u w' ⟨M', ob', L', x1, x2, x3⟩ => ?_) (fun ch w' ⟨M', ob', L', x1, x2, x3⟩ => ?_)
   ·rcases x3 with ⟨u', v, e, hr, hk⟩ | ⟨ch, v, e, _⟩
    ·cases e
     have l1 := x1.lens
     have l2 := x2.len
     have l3 := n1.len
     have hle : olen obs ≤ olen L' := by rw [olen_eq, olen_eq]; omega
     refine ⟨_, hk hle, M', ob', L', hx1.trans x1, x2, rfl, fr_put (fun t => ((hf t).monoA n2).mono x1.imm x1.hs) hr fun d' e => hsz ▸ hdp d' e, (put_size _ _ _).1.trans hsz, ((hdf.monoA n2).ext n1 x1).put, h0, fun k h1 h2 hs he => ?_⟩
     have hk1 : k < olen L' := by rw [olen_eq, ← l2]; exact (List.getElem?_eq_some_iff.1 he).1
     by_cases hk2 : k < olen obs
     ·obtain ⟨i', hb⟩ := hall k h1 hk2
      exact absurd (.inl hb) (h2 i')
     ·exact absurd (.inr ⟨rfl, by omega, hk1⟩) (h2 i)
    ·cases e
   ·rcases x3 with ⟨u', v, e, _⟩ | ⟨ch', v, e, hr, hk⟩
    ·cases e
    ·cases e
     have l1 := x1.lens
     have l2 := x2.len
     have l3 := n1.len
     exact hp _ v L' ch a w' hk ⟨M', ob', hx1.trans x1, x2, hr, fun t => ((hf t).monoA n2).mono x1.imm x1.hs, hsz, (hdf.monoA n2).ext n1 x1, by omega⟩
theorem wpAny_of_A (hE : EnvOK E) (hd : ∀ (i : Nat) p, ops[i]? = some p → ∀ d, p.dst = some d → d < sz) (hp : ∀ g v obs ch a w, Kp g v obs → PP M0 ob0 obs0 w0 sz dfs g v obs ch a w → Q (.panic ch) a w) {Qs : AS → Prop}
  (hQ : ∀ s a w, Qs s → DS M0 ob0 obs0 w0 sz dfs L0 s a w → Q .normal a w) :
  ∀ (fuel : Nat) (listed : Array Bool) (s : AS) (a : Act) (w : World), wpA E ops tab L0 Kp Qs fuel listed s → DS M0 ob0 obs0 w0 sz dfs L0 s a w → wpAnyIn (fen rd) 0 E.P .any ops Q fuel listed a w
 | 0, _, _, _, _, h, hs => ⟨h.1, hQ _ _ _ h.2 hs⟩
 | fuel + 1, _, _, _, _, h, hs => ⟨fun h0 => hQ _ _ _ (h.1 h0) hs, fun i hi => by
   have := dr_step (rd := rd) (K := wpA E ops tab L0 Kp Qs fuel _) hE hd hp hs (h.2 i hi)
   unfold wpOpIn at this ⊢
   cases hq : ops[i]? with
   | none => rw [hq] at this; obtain ⟨s', k1, k2⟩ := this; exact wpAny_of_A hE hd hp hQ fuel _ s' _ _ k1 k2
   | some o =>
    rw [hq] at this
    dsimp only at this ⊢
    split
    ·rename_i hw
     rw [if_pos hw] at this
     exact Oper.wpIn_mono (fun a w ⟨s', k1, k2⟩ => wpAny_of_A hE hd hp hQ fuel _ s' a w k1 k2) this
    ·rename_i hw
     rw [if_neg hw] at this
     obtain ⟨_, s', k1, k2⟩ := this
     exact ⟨fun _ _ => trivial, wpAny_of_A hE hd hp hQ fuel _ s' _ _ k1 k2⟩⟩
theorem DS.of {fr : List (Nat × AVal)} {obs : List AObj} {a : Act} {w : World} (h : SS M0 ob0 obs0 w0 sz dfs fr obs a w) : DS M0 ob0 obs0 w0 sz dfs obs.length (absS fr obs []) a w := by
 obtain ⟨M, ob, hx, hm, hf, hsz, hdf, h0⟩ := h
 exact ⟨M, ob, obs, hx, hm, rfl, hf, hsz, hdf, h0, fun k hk _ hs he => by
  have := (List.getElem?_eq_some_iff.1 he).1
  rw [hm.len] at this
  omega⟩
theorem DS.back {fr : List (Nat × AVal)} {obs : List AObj} {br : List (Nat × Nat)} {n : Nat} {a : Act} {w : World} (hI : LI L0 n obs br) (h : DS M0 ob0 obs0 w0 sz dfs L0 (absS fr obs br) a w) : SS M0 ob0 obs0 w0 sz dfs fr obs a w := by
 obtain ⟨M, ob, L, hx, hm, ho, hf, hsz, hdf, h0, hfree⟩ := h
 have hof := olen_eq obs
 have hlow := hI.low
 obtain ⟨ob1, n1, n2, n3⟩ := hm.norm (obs := obs) ho fun k hk => hfree k (by omega) fun i hb => by have := (hI.lt i k hb).1; omega
 exact ⟨M, ob1, n3 hx (by omega), n1, fun t => (hf t).monoA n2, hsz, hdf.monoA n2, by omega⟩
theorem SS.draw {fr : List (Nat × AVal)} {obs : List AObj} {a : Act} {w : World} (h : SS M0 ob0 obs0 w0 sz dfs fr obs a w) : SS M0 ob0 obs0 w0 sz dfs fr obs a { w with drawn := w.drawn + 1 } := by
 obtain ⟨M, ob, hx, hm, hf, hsz, hdf, h0⟩ := h
 exact ⟨M, ob, ⟨hx.imm, hx.new, hx.hs, hx.os, hx.tape, hx.output, hx.size, hx.keep, hx.fresh⟩, hm.same (Nat.le_refl _) fun _ _ => rfl, hf, hsz, DsRep.same (w := w) rfl hdf, h0⟩
theorem region_any (hE : EnvOK E) {id : Nat} (ht : TabSp ops tab) (hd : ∀ (i : Nat) p, ops[i]? = some p → ∀ d, p.dst = some d → d < sz) {Kq : List (Nat × AVal) → List AObj → Prop}
  (hp : ∀ g v obs ch a w, Kp g v obs → PP M0 ob0 obs0 w0 sz dfs g v obs ch a w → Q (.panic ch) a w) (hq : ∀ fr obs a w, Kq fr obs → SS M0 ob0 obs0 w0 sz dfs fr obs a w → Q .normal a w)
  {fr : List (Nat × AVal)} {obs : List AObj} {a : Act} {w : World} (hs : SS M0 ob0 obs0 w0 sz dfs fr obs a w) (h : chainD E ops.toList tab Kq Kp 0 ops.toList [] fr obs) : (Code.region id ops true).wpIn (fen rd) 0 E.P Q a w := by
 refine wpIn_region_any hE.mix ?_
 have hlist : ∀ j, j < ops.size → (Array.replicate ops.size false)[j]? = some (decide (j < 0)) := by intro j hj; simp [hj]
 have hsz : (Array.replicate ops.size false).size = ops.size := by simp
 have hlen : ops.toList.length = ops.size := by simp
 have hI : LI obs.length 0 obs [] := ⟨by rw [olen_eq]; exact Nat.le_refl _, fun k h1 h2 => by rw [olen_eq] at h2; omega, fun i k hk => by simp at hk⟩
 have := lexA ht ops.toList 0 _ [] fr obs rfl hlist hsz hI h
 rw [hlen] at this
 exact wpAny_of_A hE hd hp (fun s a w ⟨fr', obs', br', n', e, hI', hk⟩ hds => hq fr' obs' a w hk (DS.back hI' (e ▸ hds))) _ _ _ _ _ this (DS.of hs.draw)
end
def KI.item : KI → Item
 | .code c => .code c
 | .inB id => .inBlock id
 | .inL c => .inLoop c
 | .beginR => .beginRound
def items (ks : List KI) : List Item := ks.map KI.item
theorem fen_room (rd : Option Nat) (n : Nat) : (fen rd).room n := fun d h => by cases h
theorem fenced_fen (P : Program) (rd : Option Nat) (m : Machine) : m.fenced P (fen rd) := fenced_wide P m
def KW (rd : Option Nat) (P : Program) (Q : Exit → Act → World → Prop) (ks : List KI) (a : Act) (w : World) : Prop :=
 ∀ (b : Frame) (cs : List Frame), b.roundOf = rd → ∃ e a' w', Q e a' w' ∧ ArrivesIn (Machine.fenced P (fen rd)) P (lone (b.atR a (items ks)) cs w) b [] cs e a' w'
section
variable {rd : Option Nat} {P : Program} {Q : Exit → Act → World → Prop} {ks ks' : List KI} {a : Act} {w : World}
theorem KW.nil (h : Q .normal a w) : KW rd P Q [] a w := fun _ _ _ => ⟨.normal, a, w, h, .refl _⟩
theorem KW.step (hs : ∀ (b : Frame) cs, Go.step P (lone (b.atR a (items ks)) cs w) = .next (lone (b.atR a (items ks')) cs w)) (h : KW rd P Q ks' a w) : KW rd P Q ks a w :=
 fun b cs hb => let ⟨e, a', w', q, r⟩ := h b cs hb; ⟨e, a', w', q, .of_steps (.one (fenced_fen _ _ _) (hs b cs)) r⟩
theorem KW.ret (h : Q .ret a w) : KW rd P Q (.code .ret :: ks) a w := fun b _ _ => ⟨.ret, a, w, h, fun hn => ⟨_, .one (fenced_fen _ _ _) (stepR_ret hn)⟩, fun _ => ⟨items ks, .refl _⟩⟩
theorem KW.code {c : Code} {Q' : Exit → Act → World → Prop} (h : c.wpIn (fen rd) 0 P Q' a w) (h1 : ∀ a w, Q' .normal a w → KW rd P Q ks a w) (h2 : ∀ ch a w, Q' (.panic ch) a w → Q (.panic ch) a w)
  (h3 : ∀ e a w, Q' e a w → e = .normal ∨ ∃ ch, e = .panic ch) : KW rd P Q (.code c :: ks) a w := by
 intro b cs hb
 obtain ⟨e, a', w', q, r⟩ := h b (items ks) cs hb trivial (fen_room _ _)
 rcases h3 e a' w' q with rfl | ⟨ch, rfl⟩
 ·obtain ⟨e2, a2, w2, q2, r2⟩ := h1 a' w' q b cs hb
  exact ⟨e2, a2, w2, q2, .of_steps r r2⟩
 ·exact ⟨.panic ch, a', w', h2 ch a' w' q, r⟩
theorem KW.arrives (h : KW none P Q ks a w) (b : Frame) (cs : List Frame) (hb : b.roundOf = none) : ∃ e a' w', Q e a' w' ∧ Arrives P (lone (b.at a (items ks)) cs w) b [] cs e a' w' := by
 obtain ⟨e, a', w', q, r⟩ := h b cs hb
 rw [Frame.atR_of_none hb] at r
 exact ⟨e, a', w', q, (arrivesIn_iff (I := Machine.fenced P Fence.wide) (fun _ _ => stepsIn_wide) hb).1 r⟩
theorem exitK_spec {id : Nat} : ∀ (ks ks' : List KI), exitK id ks = some ks' → exitTo id (items ks) = some (items ks')
 | [], ks', h => by cases h
 | .inB i :: r, ks', h => by
  simp only [exitK] at h
  simp only [items, List.map_cons, KI.item, exitTo]
  cases hb : Nat.beq i id with
  | true =>
   rw [hb] at h
   cases h
   rw [if_pos (by simpa using beq_yes hb)]
  | false =>
   rw [hb] at h
   have hne : ¬ (i == id) = true := fun e => by
    have e2 : i = id := by simpa using e
    rw [e2] at hb
    exact absurd hb (by simp)
   rw [if_neg hne]
   exact exitK_spec r ks' h
 | .code c :: r, ks', h => exitK_spec r ks' h
 | .inL c :: r, ks', h => exitK_spec r ks' h
 | .beginR :: r, ks', h => exitK_spec r ks' h
end
def edgesB : Nat → List Oper → Bool
 | _, [] => true
 | n, p :: r => (onesOf p).all (fun i => Nat.blt i n) && edgesB (n + 1) r
def dstB1 (tab : List Nat) (i : Nat) (d : Nat) : Nat → List Oper → Bool
 | _, [] => true
 | j, q :: r => (match q.dst with | some e => !Nat.beq e d || !loose tab i j | none => true) && dstB1 tab i d (j + 1) r
def dstB (tab : List Nat) (all : List Oper) : Nat → List Oper → Bool
 | _, [] => true
 | i, p :: r => (match p.dst with | some d => dstB1 tab i d 0 all | none => true) && dstB tab all (i + 1) r
def regOK (ops : Array Oper) : Bool := edgesB 0 ops.toList && dstB (befs [] ops.toList) ops.toList 0 ops.toList
def dstsB (sz : Nat) (l : List Oper) : Bool := l.all fun p => match p.dst with | some d => Nat.blt d sz | none => true
def codeOK (sz : Nat) : Code → Bool
 | .region _ ops dr => dstsB sz ops.toList && (!dr || regOK ops)
 | .seq a b => codeOK sz a && codeOK sz b
 | .cond _ a b => codeOK sz a && codeOK sz b
 | .block _ b => codeOK sz b
 | .loop b => codeOK sz b
 | _ => true
def KI.ok (sz : Nat) : KI → Bool
 | .code c => codeOK sz c
 | .inL c => codeOK sz c
 | .inB _ => true
 | .beginR => true
def stackOK (sz : Nat) : List KI → Bool
 | [] => true
 | k :: r => k.ok sz && stackOK sz r
theorem exitK_ok {sz id : Nat} : ∀ (ks ks' : List KI), exitK id ks = some ks' → stackOK sz ks = true → stackOK sz ks' = true
 | [], ks', h, _ => by cases h
 | .inB i :: r, ks', h, ho => by
  simp only [exitK] at h
  simp only [stackOK, Bool.and_eq_true] at ho
  cases hb : Nat.beq i id with
  | true => rw [hb] at h; cases h; exact ho.2
  | false => rw [hb] at h; exact exitK_ok r ks' h ho.2
 | .code c :: r, ks', h, ho => exitK_ok r ks' h (by simp only [stackOK, Bool.and_eq_true] at ho; exact ho.2)
 | .inL c :: r, ks', h, ho => exitK_ok r ks' h (by simp only [stackOK, Bool.and_eq_true] at ho; exact ho.2)
 | .beginR :: r, ks', h, ho => exitK_ok r ks' h (by simp only [stackOK, Bool.and_eq_true] at ho; exact ho.2)
def Goal.res : Goal → Res
 | .pure r => r
 | .full _ r _ => r
 | .keep _ r _ => r
def Goal.obs : Goal → List AObj
 | .pure _ => []
 | .full _ _ o => o
 | .keep _ _ o => o
def Goal.strict : Goal → Bool
 | .keep _ _ _ => false
 | _ => true
def RR (M0 : Imm) (ob0 : Hs) (obs0 : List AObj) (w0 : World) (g : Goal) (e : Ending) (w' : World) : Prop := ∃ M' ob', Ext M0 ob0 obs0 w0 M' ob' g.obs w' ∧ Mem M' ob' g.obs w' ∧ EndRep M' ob' e g.res
def LeavesM (P : Program) (fn : Func) (tmps : Array Value) (R : Ending → World → Prop) : List Deferred → FrameMode → World → Prop
 | [], u, w => Leaves P fn tmps R [] u w
 | d :: ds, u, w => u ≠ .run ∧ ((∃ r w', d.target = .collected r ∧ (Instr.takeDeferred r).run P w = .ok [] w' ∧ LeavesM P fn tmps R ds u w') ∨
   ∃ fv cap f args, d.target = .fn fv cap ∧ (invoke d.target d.args).run P w = .ok (.enter f args) w ∧
   CallsD P f args u w fun
    | .returned _, u', w' => LeavesM P fn tmps R ds (settle u') w'
    | .panicked chain, u', w' => LeavesM P fn tmps R ds (raised u' chain) w'
    | .outgrown, _, w' => R .outgrown w')
theorem leavesM_steps {P : Program} {fn : Func} {tmps : Array Value} {R : Ending → World → Prop} : ∀ (ds : List Deferred) (u : FrameMode) (w : World) (fr : Frame)
  (cs : List Frame), fr.mode = u → fr.defers = ds → fr.tmps = tmps → P.funcs[fr.fn]? = some fn → LeavesM P fn tmps R ds u w →
  ∃ e w' fr', R e w' ∧ Comes P (lone fr cs w) (lone fr' cs w') e ∧ fr'.fn = fr.fn ∧ fr'.kind = fr.kind ∧ fr'.going P w' e := by
 intro ds
 induction ds with
 | nil =>
  intro u w fr cs hu hd ht hf h
  cases u with
  | run => exact h.elim
  | returning =>
   obtain ⟨v, hr, hR⟩ := h
   exact ⟨.returned v, w, fr, hR, Steps.refl P _, rfl, rfl, hu, hd, fn, hf, ht ▸ hr⟩
  | panicking chain => exact ⟨.panicked chain, w, fr, h, Steps.refl P _, rfl, rfl, hu, hd, fn, hf⟩
 | cons d ds ih =>
  intro u w fr cs hu hd ht hf h
  obtain ⟨hrun, ⟨r, w', htar, htake, hrest⟩ | ⟨fv, cap, f, args, htar, hinv, hcall⟩⟩ := h
  ·have h1 := step_collected (cs := cs) (hu ▸ hrun) hd htar htake
   obtain ⟨e', w'', fr', hR', hs', hfn', hk', hl'⟩ := ih u w' { fr with defers := [] ++ ds } cs hu rfl ht hf hrest
   exact ⟨e', w'', fr', hR', Comes.of_steps (.one h1) hs', hfn', hk', hl'⟩
  have h1 := step_defer (cs := cs) (hu ▸ hrun) hd htar hinv
  obtain ⟨e, u', w', frX, hR, hsteps, hkX, hgo⟩ := hcall { fr with defers := ds } cs hu
  cases e with
  | returned v =>
   have h2 := step_going_returned (c := { { fr with defers := ds } with mode := u' }) (cs := cs) hkX hgo
   obtain ⟨e', w'', fr', hR', hs', hfn', hk', hl'⟩ := ih (settle u') w' { { { fr with defers := ds } with mode := u' } with mode := settle u' } cs rfl rfl ht hf hR
   exact ⟨e', w'', fr', hR', Comes.of_steps (.head h1 (Steps.trans hsteps (.one h2))) hs', hfn', hk', hl'⟩
  | panicked chain =>
   have h2 := step_going_panicked (c := { { fr with defers := ds } with mode := u' }) (cs := cs) hgo
   obtain ⟨e', w'', fr', hR', hs', hfn', hk', hl'⟩ := ih (raised u' chain) w' { { { fr with defers := ds } with mode := u' } with mode := raised u' chain } cs rfl rfl ht hf hR
   exact ⟨e', w'', fr', hR', Comes.of_steps (.head h1 (Steps.trans hsteps (.one h2))) hs', hfn', hk', hl'⟩
  | outgrown => exact ⟨.outgrown, w', fr, hR, Outgrown.of_steps (.one h1) hsteps, rfl, rfl, trivial⟩
theorem going_leaving {P : Program} {fr : Frame} {w : World} {e : Ending} (h : fr.going P w e) (hk : fr.kind = .normal) : fr.leaving P w e := by
 cases e with
 | returned v => exact ⟨h.1, h.2.1, hk, h.2.2⟩
 | panicked ch => exact h
 | outgrown => exact h
structure Shut (w0 w w' : World) : Prop where
 os : w'.os = w.os
 tape : w'.tape = w.tape
 output : w'.output = w.output
 size : w'.heap.size = w.heap.size
 heap : ∀ b, w'.heap[b]? = w.heap[b]? ∨ (w0.heap.size ≤ b ∧ w.heap[b]? = some (.deferred (some [])))
theorem leavesM_marks {P : Program} {fn : Func} {tmps : Array Value} {R : Ending → World → Prop} {w0 : World} {u : FrameMode} (hu : u ≠ .run) : ∀ (ds : List Deferred) (w : World), Mks w0 w ds → (∀ w', Shut w0 w w' → Leaves P fn tmps R [] u w') → LeavesM P fn tmps R ds u w
 | [], w, _, h => h w ⟨rfl, rfl, rfl, rfl, fun b => .inl rfl⟩
 | d :: ds, w, ⟨⟨b, h1, h2, h3, h4⟩, h5⟩, h => by
  refine ⟨hu, .inl ⟨b, _, h1, run_takeDeferred h3, ?_⟩⟩
  refine leavesM_marks hu ds _ (h5.same fun d' hd' c hc h6 => ?_) fun w' hs => h w' ⟨hs.os, hs.tape, hs.output, hs.size.trans World.putObj_size, fun c => ?_⟩
  ·have hne : c ≠ b := fun e => by subst e; exact h4 d' hd' hc
   rw [World.putObj_heap_other hne]; exact h6
  ·by_cases hc : c = b
   ·subst hc; exact .inr ⟨h2, h3⟩
   ·have := hs.heap c
    rwa [World.putObj_heap_other hc] at this
theorem Mem.shut {w0 w w' : World} {M : Imm} {ob : Hs} {obs : List AObj} (hm : Mem M ob obs w) (h : Shut w0 w w') : Mem M ob obs w' := by
 have old : ∀ {b : Nat} {o : Obj}, w.heap[b]? = some o → isDefd o = false → w'.heap[b]? = some o := fun {b o} h1 h2 => by
  rcases h.heap b with q | ⟨_, q⟩
  ·rw [q]; exact h1
  ·rw [h1] at q; cases q; cases h2
 refine ⟨fun b o x hx => ?_, hm.len, fun k c hc => ?_, fun k b ha => by rw [h.size]; exact hm.lt k b ha, hm.inj⟩
 ·obtain ⟨v, hv, hr⟩ := hm.imm b o x hx
  refine ⟨v, ?_, hr⟩
  unfold World.cell? at hv ⊢
  dsimp only at hv ⊢
  cases hq : w.heap[b]? with
  | none => rw [hq] at hv; cases hv
  | some ob =>
   rw [hq] at hv
   cases ob with
   | cells c _ _ => rw [old hq rfl]; exact hv
   | _ => cases hv
 ·obtain ⟨hs', hob, hok⟩ := hm.obj k c hc
  refine ⟨hs', hob, hok.mono (fun _ _ _ h => h) (HsLe.refl _) (fun _ _ _ _ h => h) (fun b c' p1 p2 hc' => ?_)⟩
  obtain ⟨o, q1, q2⟩ := hm.alive_heap ((alive_of hc hob).2 ⟨p1, p2⟩)
  rw [hc'] at q1
  cases q1
  exact old hc' q2
theorem Ext.shut {w0 w w' : World} {M0 M : Imm} {ob0 ob : Hs} {obs0 obs : List AObj} (hx : Ext M0 ob0 obs0 w0 M ob obs w) (h : Shut w0 w w') : Ext M0 ob0 obs0 w0 M ob obs w' :=
 ⟨hx.imm, hx.new, hx.hs, h.os.trans hx.os, h.tape.trans hx.tape, h.output.trans hx.output, by rw [h.size]; exact hx.size, fun b hb hn => by
  rcases h.heap b with q | ⟨q, _⟩
  ·rw [q]; exact hx.keep b hb hn
  ·omega, hx.fresh⟩
def EndsW (E : Env) (fn : Func) (M0 : Imm) (ob0 : Hs) (obs0 : List AObj) (w0 : World) (g : Goal) (b : Bool) (a : Act) (w : World) : Prop := match E.rd with
 | none => LeavesM E.P fn a.tmps (RR M0 ob0 obs0 w0 g) a.defers .returning w
 | some _ => RR M0 ob0 obs0 w0 g (.returned (.bool b)) w
def Post (E : Env) (fn : Func) (M0 : Imm) (ob0 : Hs) (obs0 : List AObj) (w0 : World) (g : Goal) : Exit → Act → World → Prop
 | .normal, a, w => EndsW E fn M0 ob0 obs0 w0 g true a w
 | .ret, a, w => EndsW E fn M0 ob0 obs0 w0 g false a w
 | .panic ch, a, w => (match E.rd with | none => LeavesM E.P fn a.tmps (RR M0 ob0 obs0 w0 g) a.defers (.panicking ch) w | some _ => False)
 | _, _, _ => False
def Start (g : Goal) (ob0 : Hs) : Prop := ob0.length = g.n0 ∧ (g.strict = true → ∀ hs ∈ ob0, hs.length = 1)
def GoesC (E : Env) (fn : Func) (g : Goal) (ks : List KI) (fr : List (Nat × AVal)) (obs : List AObj) : Prop :=
 stackOK fn.ntmps ks = true → ∀ M0 ob0 obs0 w0 a w, Start g ob0 → SS M0 ob0 obs0 w0 fn.ntmps E.df fr obs a w → KW E.rd E.P (Post E fn M0 ob0 obs0 w0 g) ks a w
def LeaveN (E : Env) (fn : Func) (g : Goal) (fr : List (Nat × AVal)) (obs : List AObj) : Prop :=
 ∀ M0 ob0 obs0 w0 a w, Start g ob0 → SS M0 ob0 obs0 w0 fn.ntmps E.df fr obs a w → LeavesM E.P fn a.tmps (RR M0 ob0 obs0 w0 g) a.defers .returning w
def LeaveP (E : Env) (fn : Func) (g : Goal) (gf : Nat → AVal) (v : AVal) (obs : List AObj) : Prop :=
 ∀ M0 ob0 obs0 w0 ch a w, Start g ob0 → PP M0 ob0 obs0 w0 fn.ntmps E.df gf v obs ch a w → LeavesM E.P fn a.tmps (RR M0 ob0 obs0 w0 g) a.defers (.panicking ch) w
def endP (E : Env) (fn : Func) (g : Goal) (gf : Nat → AVal) (v : AVal) (obs : List AObj) : Prop := match E.rd with
 | some _ => False
 | none => match E.df with
  | [] => endF g .pan v obs
  | _ :: _ => LeaveP E fn g gf v obs
def midF (E : Env) (fn : Func) (g : Goal) (R : RI) (n : Nat) (rest : List Oper) (br : List (Nat × Nat)) (fr : List (Nat × AVal)) (obs : List AObj) : Prop :=
 match R.dr with
 | false => chain E R.all (GoesC E fn g R.ks) (endP E fn g) n rest fr obs
 | true => chainD E R.all R.tab (GoesC E fn g R.ks) (endP E fn g) n rest br fr obs
def gotF (E : Env) (fn : Func) (g : Goal) (R : RI) (n : Nat) (d : Option Nat) (rest : List Oper) (br : List (Nat × Nat)) (fr : List (Nat × AVal)) (len : Nat) (obs : List AObj) (v : AVal) : Prop :=
 wrP rest n d fr v fun fr => midF E fn g R (n + 1) rest (bif R.dr then born n len (odrop len obs) br else br) fr obs
def Goes (E : Env) (fn : Func) (g : Goal) : St → Prop
 | .code ks fr obs => GoesC E fn g ks fr obs
 | .head ks fr obs => GoesC E fn g ks fr obs
 | .mid R n rest br fr obs => midF E fn g R n rest br fr obs
 | .pend R n d rest br fr obs r => (match R.dr with
  | false => orF E.P obs (fun v obs' => gotF E fn g R n d rest br fr (olen obs) obs' v) (endP E fn g (getS fr)) r
  | true => orD E.P (soN E R.tab R.all n d) (uoN E R.tab R.all n d) (blD E d) (seenN E R.tab n br obs d) obs (olen obs) (fun v obs' => gotF E fn g R n d rest br fr (olen obs) obs' v) (endP E fn g (getS fr)) r)
 | .got R n d rest br fr len obs v => gotF E fn g R n d rest br fr len obs v
 | .leave none fr obs => LeaveN E fn g fr obs
 | .leave (some v) fr obs => LeaveP E fn g (getS fr) v obs
section
variable {E : Env} {M : Imm} {ob : Hs} {obs : List AObj} {w : World}
theorem resV_sound (hE : EnvOK E) (hm : Mem M ob obs w) {fr : List (Nat × AVal)} {x : AVal} {tmps : Array Value} {r : ResultVar} (h : resV E obs fr r = some x) (hf : ∀ t, Rep M ob (tmps.getD t undef) (getS fr t)) :
  ∃ v, (match r with | .tmp t => (Pure.pure (tmps.getD t undef) : Sem Value) | .cell a t => (asAddr (tmps.getD a undef)) >>= loadVar t).run E.P w = .ok v w ∧ Rep M ob v x := by
 cases r with
 | tmp t => cases h; exact ⟨_, rfl, hf t⟩
 | cell a t =>
  simp only [resV] at h
  show ∃ v, ((asAddr (tmps.getD a undef)) >>= loadVar t).run E.P w = .ok v w ∧ Rep M ob v x
  have ha := hf a
  split at h
  ·rename_i ti k off hT hg
   rw [hg] at ha
   split at h
   ·rename_i cs hog
    split at h
    ·rename_i l hl
     obtain ⟨b, hav, hb⟩ := ha.ref_inv
     obtain ⟨hs, h1, b', rfl, _, cv, hh, hlen, _, hrep⟩ := hm.obj k _ (og_some hog (by simp))
     have hbb : b' = b := by rw [at_get h1] at hb; simpa using hb
     subst hbb
     obtain ⟨t1, t2⟩ := ctake_some hl
     obtain ⟨u, hu, hr⟩ := load_fin (P := E.P) (w := w) (M := M) (ob := ob) (hE.tab t ti hT) (b := b') (o := off) h t1 fun i c hi => by
      have hci := t2 i c hi
      rw [cdrop_eq, List.getElem?_drop] at hci
      have hlt : off + i < cv.length := by rw [hlen]; exact (List.getElem?_eq_some_iff.1 hci).1
      exact ⟨cv[off + i], by rw [cell_of_row w b' _ _ _ (0, 0) hh]; simp [hlt], hrep _ _ c (List.getElem?_eq_getElem hlt) hci⟩
     refine ⟨u, ?_, hr⟩
     rw [hav]
     simp only [asAddr, Sem.run_bind, Sem.run_pure, Result.andThen_ok]
     exact hu
    ·cases h
   ·cases h
  ·cases h
theorem resL_sound (hE : EnvOK E) (hm : Mem M ob obs w) {fr : List (Nat × AVal)} {tmps : Array Value} (hf : ∀ t, Rep M ob (tmps.getD t undef) (getS fr t)) :
  ∀ (rs : List ResultVar) {xs : List AVal}, resL E obs fr rs = some xs → ∃ vs, (rs.mapM fun (r : ResultVar) => (match r with | .tmp t => (Pure.pure (tmps.getD t undef) : Sem Value) | .cell a t => (asAddr (tmps.getD a undef)) >>= loadVar t)).run E.P w = .ok vs w ∧ RepL M ob vs xs
 | [], xs, h => by
  cases h
  exact ⟨[], by simp, rfl, fun i v a h => by simp at h⟩
 | r :: rs, xs, h => by
  simp only [resL] at h
  split at h
  ·rename_i x l hx hl
   cases h
   obtain ⟨v, hv, hr⟩ := resV_sound hE hm hx hf
   obtain ⟨vs, hvs, hrs⟩ := resL_sound hE hm hf rs hl
   refine ⟨v :: vs, ?_, RepL.cons hr hrs⟩
   rw [List.mapM_cons]
   simp only [Sem.run_bind]
   rw [hv]
   simp only [Result.andThen_ok]
   rw [hvs]
   simp
  ·cases h
theorem resE_sound (hE : EnvOK E) (hm : Mem M ob obs w) {fn : Func} {fr : List (Nat × AVal)} {x : AVal} {tmps : Array Value} (h : resE E obs fn.results.toList fr = some x)
  (hf : ∀ t, Rep M ob (tmps.getD t undef) (getS fr t)) : ∃ v, (results fn tmps).run E.P w = .ok v w ∧ Rep M ob v x := by
 have hl : ∃ xs, resL E obs fr fn.results.toList = some xs ∧ ((∃ y, xs = [y] ∧ x = y) ∨ (xs.length ≠ 1 ∧ x = .tup xs)) := by
  unfold resE at h
  split at h
  ·rename_i y hy; cases h; exact ⟨_, hy, .inl ⟨_, rfl, rfl⟩⟩
  ·rename_i l hne hl
   cases h
   refine ⟨_, hl, .inr ⟨fun h1 => ?_, rfl⟩⟩
   match l, h1 with
   | [y], _ => exact hne y rfl
  ·cases h
 obtain ⟨xs, hxs, hor⟩ := hl
 obtain ⟨vs, hvs, hrep⟩ := resL_sound hE hm hf _ hxs
 have hr : fn.results = fn.results.toList.toArray := by simp
 have key : (results fn tmps).run E.P w = .ok (if h : vs.toArray.size = 1 then vs.toArray[0] else .tuple vs.toArray) w := by
  unfold results
  rw [hr, List.mapM_toArray]
  simp only [Sem.run_bind, map_eq_pure_bind]
  have : (fn.results.toList.mapM fun (r : ResultVar) => (match r with | .tmp t => (Pure.pure (tmps.getD t undef) : Sem Value) | .cell a t => (asAddr (tmps.getD a undef)) >>= loadVar t)).run E.P w = .ok vs w := hvs
  refine (congrArg (fun z => Result.andThen (Result.andThen z _) _) this).trans ?_
  simp
 rw [key]
 rcases hor with ⟨y, rfl, rfl⟩ | ⟨h1, rfl⟩
 ·match vs, hrep with
  | [v], hrep => exact ⟨v, by simp, hrep.2 0 v _ rfl rfl⟩
  | [], hrep => have := hrep.1; simp at this
  | _ :: _ :: _, hrep => have := hrep.1; simp at this
 ·have hne : ¬ vs.toArray.size = 1 := by rw [List.size_toArray, hrep.1]; exact h1
  exact ⟨.tuple vs.toArray, by rw [dif_neg hne], .tup vs xs hrep.1 hrep.2⟩
theorem beginsUp_get : ∀ {n j : Nat} {ks : List Nat}, beginsUp n j ks = true → ∀ i, i < n → ks[i]? = some (j + i)
 | 0, _, _, _, i, hi => by omega
 | n + 1, j, [], h, _, _ => by cases h
 | n + 1, j, k :: r, h, i, hi => by
  simp only [beginsUp, Bool.and_eq_true] at h
  have := beq_yes h.1
  subst this
  cases i with
  | zero => rfl
  | succ i =>
   have := beginsUp_get h.2 i (by omega)
   rw [show k + (i + 1) = k + 1 + i from by omega]
   simpa using this
theorem endF_sound {M0 : Imm} {ob0 : Hs} {obs0 : List AObj} {w0 : World} {g : Goal} {mkR : AVal → Res} {v : AVal} {u : Value} (hst : Start g ob0) (hx : Ext M0 ob0 obs0 w0 M ob obs w) (hm : Mem M ob obs w) (hr : Rep M ob u v) (h : endF g mkR v obs) :
  ∃ M' ob' y, Ext M0 ob0 obs0 w0 M' ob' g.obs w ∧ Mem M' ob' g.obs w ∧ Rep M' ob' u y ∧ mkR y = g.res := by
 cases g with
 | pure r =>
  obtain ⟨M1, g1, g2, _, g4⟩ := hm.frzL [v]
  have h0 : ob0 = [] := List.eq_nil_of_length_eq_zero hst.1
  subst h0
  have hx1 := hx.trans g2
  have no : ∀ k b, ¬ Alive ([] : Hs) [] k b := fun k b ⟨c, hs, e, _⟩ => by simp at e
  exact ⟨M1, [], _, ⟨hx1.imm, hx1.new, HsLe.refl _, hx1.os, hx1.tape, hx1.output, hx1.size, hx1.keep, fun k b ha => (no k b ha).elim⟩, g1.bare, g1.cvtV (n0 := 0) (ks := []) rfl 5 u v (hr.monoM g2.imm), h⟩
 | full n0 r obs' =>
  obtain ⟨fz, ks, ⟨hk, hbeg⟩, h1, h2⟩ := h
  obtain ⟨M1, g1, g2, _, g4⟩ := Mem.frzs fz M obs hm
  obtain ⟨c1, c2, _⟩ := g1.cvt (n0 := n0) hk
  have hx1 := hx.trans g2
  have hn : ob0.length = n0 := hst.1
  refine ⟨M1, _, _, ⟨hx1.imm, hx1.new, fun j hs hj => ?_, hx1.os, hx1.tape, hx1.output, hx1.size, hx1.keep, fun j b ha => ?_⟩, ?_, g1.cvtV (n0 := n0) hk 5 u v (hr.monoM g2.imm), h1⟩
  ·have hlt : j < n0 := by rw [← hn]; exact (List.getElem?_eq_some_iff.1 hj).1
   have hkj := beginsUp_get hbeg j hlt
   rw [Nat.zero_add] at hkj
   obtain ⟨hs', e1, t, e2⟩ := hx1.hs j hs hj
   have hl1 := hst.2 rfl hs (List.mem_of_getElem? hj)
   refine ⟨cutH n0 j (oget (AW.frzs fz obs) j) hs', ?_, ?_⟩
   ·rw [cutL_get, hkj]
    simp [e1]
   ·unfold cutH
    split
    ·rw [← e2]
     have : (hs ++ t).take 1 = hs := by rw [List.take_append_of_le_length (by omega), List.take_of_length_le (by omega)]
     rw [this]
     exact ⟨_, rfl⟩
    ·exact ⟨t, e2⟩
  ·obtain ⟨k, _, ha'⟩ := c2 j b (by rw [h2]; exact ha)
   exact hx1.fresh k b ha'
  ·show Mem M1 _ obs' w
   rw [← h2]
   exact c1
 | keep n0 r obs' =>
  obtain ⟨⟨hb1, hb2⟩, h1, h2⟩ := h
  rw [otake_eq] at hb2 h2
  obtain ⟨m1, m2⟩ := hm.cutO hb2
  have hn : ob0.length = n0 := hst.1
  rw [h2] at m1 m2
  refine ⟨M, ob.take n0, v, ⟨hx.imm, hx.new, fun k hs hk => ?_, hx.os, hx.tape, hx.output, hx.size, hx.keep, fun k b ha => hx.fresh k b (m2 ha)⟩, m1, bel_rep 5 hr hb1, h1⟩
  obtain ⟨hs', e1, e2⟩ := hx.hs k hs hk
  have hlt : k < n0 := by have := (List.getElem?_eq_some_iff.1 hk).1; omega
  exact ⟨hs', by rw [List.getElem?_take_of_lt hlt]; exact e1, e2⟩
end
section
variable {E : Env} {fn : Func} {g : Goal}
theorem go_ret (hE : EnvOK E) (hdf : E.df = []) (hrd : E.rd = none) {fr : List (Nat × AVal)} {obs : List AObj} {v : AVal} (hv : resE E obs fn.results.toList fr = some v) (h : endF g .ret v obs) {M0 : Imm} {ob0 : Hs} {obs0 : List AObj} {w0 : World} {a : Act} {w : World}
  (hst : Start g ob0) (hs : SS M0 ob0 obs0 w0 fn.ntmps E.df fr obs a w) : LeavesM E.P fn a.tmps (RR M0 ob0 obs0 w0 g) a.defers .returning w := by
 obtain ⟨M, ob, hx, hm, hf, hsz, hd, h0⟩ := hs
 rw [hdf] at hd
 refine leavesM_marks (w0 := w0) (by intro h; cases h) _ _ hd.marks fun w' hsh => ?_
 have hx := hx.shut hsh
 have hm := hm.shut hsh
 obtain ⟨u, hu, hr⟩ := resE_sound hE hm hv hf
 obtain ⟨M', ob', y, x1, x2, x3, x4⟩ := endF_sound hst hx hm hr h
 refine ⟨u, hu, M', ob', x1, x2, ?_⟩
 rw [← x4]
 exact x3
theorem go_retD (hE : EnvOK E) {b : Bool} {fr : List (Nat × AVal)} {obs : List AObj} (h : retD E fn g (Goes E fn g) b fr obs) {M0 : Imm} {ob0 : Hs} {obs0 : List AObj} {w0 : World} {a : Act} {w : World}
  (hst : Start g ob0) (hs : SS M0 ob0 obs0 w0 fn.ntmps E.df fr obs a w) : EndsW E fn M0 ob0 obs0 w0 g b a w := by
 unfold retD at h
 unfold EndsW
 cases hrd : E.rd with
 | some l =>
  rw [hrd] at h
  dsimp only at h ⊢
  rw [endD_eq] at h
  obtain ⟨M, ob, hx, hm, hf, hsz, hd, h0⟩ := hs
  obtain ⟨M', ob', y, x1, x2, x3, x4⟩ := endF_sound hst hx hm (.bool b) h
  exact ⟨M', ob', x1, x2, by rw [← x4]; exact x3⟩
 | none =>
 rw [hrd] at h
 dsimp only at h ⊢
 cases hdf : E.df with
 | nil =>
  rw [hdf] at h
  dsimp only at h
  split at h
  ·rename_i v hv
   rw [KD_eq, endD_eq] at h
   exact go_ret hE hdf hrd hv h hst hs
  ·exact h.elim
 | cons d ds =>
  rw [hdf] at h
  exact h M0 ob0 obs0 w0 a w hst hs
theorem go_pan (hdf : E.df = []) {v : AVal} {obs : List AObj} (h : endF g .pan v obs) {M0 : Imm} {ob0 : Hs} {obs0 : List AObj} {w0 : World} {sz : Nat} {gf : Nat → AVal} {ch : List PanicEntry} {a : Act} {w : World}
  (hst : Start g ob0) (hs : PP M0 ob0 obs0 w0 sz E.df gf v obs ch a w) : LeavesM E.P fn a.tmps (RR M0 ob0 obs0 w0 g) a.defers (.panicking ch) w := by
 obtain ⟨M, ob, hx, hm, ⟨u, e, hr⟩, _, _, hd, _⟩ := hs
 rw [hdf] at hd
 refine leavesM_marks (w0 := w0) (by intro h; cases h) _ _ hd.marks fun w' hsh => ?_
 obtain ⟨M', ob', y, x1, x2, x3, x4⟩ := endF_sound hst (hx.shut hsh) (hm.shut hsh) hr h
 refine ⟨M', ob', x1, x2, ?_⟩
 rw [← x4]
 exact ⟨u, e, x3⟩
theorem go_endP {gf : Nat → AVal} {v : AVal} {obs : List AObj} (h : endP E fn g gf v obs) {M0 : Imm} {ob0 : Hs} {obs0 : List AObj} {w0 : World} {ch : List PanicEntry} {a : Act} {w : World}
  (hst : Start g ob0) (hs : PP M0 ob0 obs0 w0 fn.ntmps E.df gf v obs ch a w) : Post E fn M0 ob0 obs0 w0 g (.panic ch) a w := by
 unfold endP at h
 unfold Post
 cases hrd : E.rd with
 | some l => rw [hrd] at h; exact h.elim
 | none =>
 rw [hrd] at h
 dsimp only at h ⊢
 cases hdf : E.df with
 | nil =>
  rw [hdf] at h
  exact go_pan hdf h hst hs
 | cons d ds =>
  rw [hdf] at h
  exact h M0 ob0 obs0 w0 ch a w hst hs
theorem dsts_spec {sz : Nat} {l : List Oper} (h : dstsB sz l = true) : ∀ p ∈ l, ∀ d, p.dst = some d → d < sz := fun p hp d hd => by
 have := List.all_eq_true.1 h p hp
 rw [hd] at this
 simpa [Nat.blt_eq] using this
def QR (E : Env) (fn : Func) (g : Goal) (M0 : Imm) (ob0 : Hs) (obs0 : List AObj) (w0 : World) (ks : List KI) : Exit → Act → World → Prop
 | .normal, a, w => KW E.rd E.P (Post E fn M0 ob0 obs0 w0 g) ks a w
 | .panic ch, a, w => Post E fn M0 ob0 obs0 w0 g (.panic ch) a w
 | _, _, _ => False
theorem go_region (hE : EnvOK E) (hreg : ∀ ops : Array Oper, regOK ops = true → TabSp ops (befs [] ops.toList)) {id : Nat} {ops : Array Oper} {dr : Bool} {ks : List KI} {fr : List (Nat × AVal)} {obs : List AObj}
  (h : midF E fn g ⟨ops.toList, dr, befs [] ops.toList, ks⟩ 0 ops.toList [] fr obs) : GoesC E fn g (.code (.region id ops dr) :: ks) fr obs := by
 intro ho M0 ob0 obs0 w0 a w hst hs
 simp only [stackOK, KI.ok, codeOK, Bool.and_eq_true] at ho
 obtain ⟨⟨ho1, ho2⟩, ho3⟩ := ho
 have hd := dsts_spec ho1
 refine KW.code (Q' := QR E fn g M0 ob0 obs0 w0 ks) ?_ (fun a w h => h) (fun ch a w h => h) (fun e a w hh => by
  cases e <;> first | exact .inl rfl | exact .inr ⟨_, rfl⟩ | exact hh.elim)
 have hp : ∀ gf v obs ch a w, endP E fn g gf v obs → PP M0 ob0 obs0 w0 fn.ntmps E.df gf v obs ch a w → Post E fn M0 ob0 obs0 w0 g (.panic ch) a w := fun gf v obs ch a w he hpp => go_endP he hst hpp
 have hq : ∀ fr obs a w, GoesC E fn g ks fr obs → SS M0 ob0 obs0 w0 fn.ntmps E.df fr obs a w → KW E.rd E.P (Post E fn M0 ob0 obs0 w0 g) ks a w := fun fr obs a w hk hs => hk ho3 M0 ob0 obs0 w0 a w hst hs
 cases dr with
 | false =>
  refine wpIn_region_list ?_
  exact chain_sound (rd := E.rd) (Q := QR E fn g M0 ob0 obs0 w0 ks) (K := GoesC E fn g ks) (Kp := endP E fn g) hE (fun gf v obs ch a w h1 h2 => hp gf v obs ch a w h1 h2) (fun fr obs a w h1 h2 => hq fr obs a w h1 h2) ops.toList 0 fr obs a w hd h hs
 | true =>
  exact region_any (rd := E.rd) (Q := QR E fn g M0 ob0 obs0 w0 ks) (Kq := GoesC E fn g ks) (Kp := endP E fn g) hE (hreg ops (by simpa using ho2)) (fun i p hi d hd' => hd p (List.mem_of_getElem? (i := i) (by simpa using hi)) d hd') (fun gf v obs ch a w h1 h2 => hp gf v obs ch a w h1 h2) (fun fr obs a w h1 h2 => hq fr obs a w h1 h2) hs h
theorem GoesC.step {ks ks' : List KI} {fr : List (Nat × AVal)} {obs : List AObj} (hs : ∀ a w (b : Frame) cs, Go.step E.P (lone (b.atR a (items ks)) cs w) = .next (lone (b.atR a (items ks')) cs w)) (hk : stackOK fn.ntmps ks = true → stackOK fn.ntmps ks' = true) (h : GoesC E fn g ks' fr obs) : GoesC E fn g ks fr obs :=
 fun ho M0 ob0 obs0 w0 a w hst hss => KW.step (hs a w) (h (hk ho) M0 ob0 obs0 w0 a w hst hss)
theorem go (hE : EnvOK E) (hreg : ∀ ops : Array Oper, regOK ops = true → TabSp ops (befs [] ops.toList)) : ∀ (fuel : Nat) (st : St), wstep E fn g (Goes E fn g) fuel st → Goes E fn g st := by
 intro fuel
 induction fuel with
 | zero => intro st h; exact h
 | succ n ih =>
  intro st h
  cases st with
  | head ks fr obs => exact ih (.code ks fr obs) h
  | leave p fr obs => exact h
  | code ks fr obs =>
   cases ks with
   | nil =>
    simp only [wstep] at h
    exact fun _ M0 ob0 obs0 w0 a w hst hs => KW.nil (go_retD (b := true) hE h hst hs)
   | cons k ks =>
    cases k with
    | inB id => exact GoesC.step (fun a w b cs => stepR_inBlock) (fun ho => by simp only [stackOK, Bool.and_eq_true] at ho; exact ho.2) (ih (.code ks fr obs) h)
    | inL b =>
     exact GoesC.step (ks' := .code b :: .inL b :: ks) (fun a w b cs => stepR_inLoop) (fun ho => by simp only [stackOK, KI.ok, Bool.and_eq_true] at ho ⊢; exact ⟨ho.1, ho.1, ho.2⟩) h
    | beginR => exact h
    | code q =>
     cases q with
     | rangeFunc x ps as bd => exact h
     | skip => exact GoesC.step (fun a w b cs => stepR_skip) (fun ho => by simp only [stackOK, Bool.and_eq_true] at ho; exact ho.2) (ih (.code ks fr obs) h)
     | seq x y => exact GoesC.step (fun a w b cs => stepR_seq) (fun ho => by simp only [stackOK, KI.ok, codeOK, Bool.and_eq_true] at ho ⊢; exact ⟨ho.1.1, ho.1.2, ho.2⟩) (ih (.code (.code x :: .code y :: ks) fr obs) h)
     | block id b => exact GoesC.step (fun a w b cs => stepR_block) (fun ho => by simp only [stackOK, KI.ok, codeOK, Bool.and_eq_true] at ho ⊢; exact ⟨ho.1, trivial, ho.2⟩) (ih (.code (.code b :: .inB id :: ks) fr obs) h)
     | loop b => exact GoesC.step (ks' := .code b :: .inL b :: ks) (fun a w b cs => stepR_loop) (fun ho => by simp only [stackOK, KI.ok, codeOK, Bool.and_eq_true] at ho ⊢; exact ⟨ho.1, ho.1, ho.2⟩) h
     | exit id =>
            simp only [wstep] at h
            split at h
            ·rename_i ks' hx
             exact GoesC.step (fun a w b cs => stepR_exit (exitK_spec _ _ hx)) (fun ho => exitK_ok _ _ hx (by simp only [stackOK, Bool.and_eq_true] at ho; exact ho.2)) (ih (.code ks' fr obs) h)
            ·exact h.elim
     | ret =>
            simp only [wstep] at h
            exact fun _ M0 ob0 obs0 w0 a w hst hs => KW.ret (go_retD (b := false) hE h hst hs)
     | cond x c d =>
            simp only [wstep] at h
            split at h
            ·rename_i p hp
             intro ho M0 ob0 obs0 w0 a w hst hs
             simp only [stackOK, KI.ok, codeOK, Bool.and_eq_true] at ho
             obtain ⟨M, ob, hx, hm, hf, hsz, hd, h0⟩ := id hs
             have hev := ev_rep (a := a) hf x
             rw [hp] at hev
             cases p with
             | true =>
              refine KW.step (ks' := .code c :: ks) (fun b cs => ?_) (h.1 rfl (by simp only [stackOK, KI.ok, Bool.and_eq_true]; exact ⟨ho.1.1, ho.2⟩) M0 ob0 obs0 w0 a w hst hs)
              exact stepR_cond (P := E.P) (b := b) (k := items ks) (cs := cs) (w := w) (x := c) (y := d) hev.bool_inv
             | false =>
              refine KW.step (ks' := .code d :: ks) (fun b cs => ?_) (h.2 rfl (by simp only [stackOK, KI.ok, Bool.and_eq_true]; exact ⟨ho.1.2, ho.2⟩) M0 ob0 obs0 w0 a w hst hs)
              exact stepR_cond (P := E.P) (b := b) (k := items ks) (cs := cs) (w := w) (x := c) (y := d) hev.bool_inv
            ·exact h.elim
     | region id ops dr =>
            simp only [wstep] at h
            cases hdf : isDf ops.toList with
            | true => rw [hdf] at h; exact h
            | false =>
             rw [hdf] at h
             dsimp only at h
             refine go_region hE hreg ?_
             cases dr with
             | false =>
              have := ih (.mid ⟨ops.toList, false, [], ks⟩ 0 ops.toList [] fr obs) h
              exact this
             | true =>
              simp only [befsD_eq] at h
              exact ih (.mid ⟨ops.toList, true, befs [] ops.toList, ks⟩ 0 ops.toList [] fr obs) h
     | _ => exact h.elim
  | mid R i rest br fr obs =>
   cases rest with
   | nil =>
    have hk := ih (.code R.ks fr obs) h
    obtain ⟨all, dr, tab, ks⟩ := R
    cases dr with
    | false => exact hk
    | true => exact hk
   | cons p rest =>
    obtain ⟨all, dr, tab, ks⟩ := R
    cases dr with
    | false =>
     simp only [wstep] at h
     show chain E all (GoesC E fn g ks) (endP E fn g) i (p :: rest) fr obs
     simp only [chain]
     cases hw : wantedE all (ev fr) p.guard with
     | none => rw [hw] at h; exact h.elim
     | some b =>
            rw [hw] at h
            cases b with
            | false =>
             cases hdst : p.dst with
             | none => rw [hdst] at h; exact ih _ h
             | some d =>
              rw [hdst] at h
              dsimp only at h
              rw [putD_eq] at h
              exact ih (.mid ⟨all, false, tab, ks⟩ (i + 1) rest br (putS fr d (.tup [])) obs) h
            | true => exact ih (.pend ⟨all, false, tab, ks⟩ i p.dst rest br fr obs _) h
    | true =>
     simp only [wstep] at h
     show chainD E all tab (GoesC E fn g ks) (endP E fn g) i (p :: rest) br fr obs
     simp only [chainD]
     cases hw : wantedE all (evH tab all i fr) p.guard with
     | none => rw [hw] at h; exact h.elim
     | some b =>
            rw [hw] at h
            cases b with
            | false =>
             cases hdst : p.dst with
             | none => rw [hdst] at h; exact ih _ h
             | some d =>
              rw [hdst] at h
              dsimp only at h
              rw [putD_eq] at h
              exact ih (.mid ⟨all, true, tab, ks⟩ (i + 1) rest br (putS fr d (.tup [])) obs) h
            | true =>
             dsimp only at h
             rw [ODL_eq] at h
             exact ih (.pend ⟨all, true, tab, ks⟩ i p.dst rest br fr obs _) h
  | got R i d rest br fr len obs v =>
   simp only [wstep, KD_eq, ODL_eq] at h
   show gotF E fn g R i d rest br fr len obs v
   unfold gotF wrP
   cases d with
   | none => exact ih _ h
   | some d =>
    dsimp only at h ⊢
    cases hg : isGuard i rest with
    | false =>
     rw [hg] at h
     simp only [cond_false, putD_eq] at h
     exact ih _ h
    | true =>
     rw [hg] at h
     simp only [cond_true] at h ⊢
     split at h
     ·rw [putD_eq, putD_eq] at h
      exact h
     ·exact h.elim
  | pend R i d rest br fr obs r =>
   obtain ⟨all, dr, tab, ks⟩ := R
   have so : ∀ {q : Prop} {b : Bool}, (match (!dr || b) with | true => q | false => False) → q ∧ (dr = true → b = true) := fun {q b} hq => by
    cases dr with
    | false => exact ⟨hq, fun e => by cases e⟩
    | true =>
     cases b with
     | false => exact hq.elim
     | true => exact ⟨hq, fun _ => rfl⟩
   cases r with
   | no => exact h.elim
   | val v =>
    simp only [wstep, KD_eq] at h
    have := ih _ h
    cases dr <;> exact this
   | mkf f fs cs =>
    simp only [wstep, KDL_eq (KD_eq 3)] at h
    have := ih _ h
    cases dr <;> exact this
   | need p r =>
    simp only [wstep] at h
    cases dr <;> exact h
   | alt p v v' =>
    simp only [wstep] at h
    cases dr <;> exact h
   | idx m f =>
    simp only [wstep] at h
    cases dr <;> exact h
   | elem xs m f =>
    simp only [wstep] at h
    cases dr <;> exact h
   | byte l m =>
    simp only [wstep] at h
    cases dr <;> exact h
   | text xs =>
    simp only [wstep] at h
    cases dr <;> exact h
   | find es key f =>
    simp only [wstep] at h
    cases dr <;> exact h
   | born x v =>
    simp only [wstep, OD_eq, ODL_eq, KD_eq] at h
    cases dr with
    | false =>
     have := ih (.got _ _ _ _ _ _ _ _ _) h
     exact this
    | true =>
     cases hbl : blD E d with
     | true => rw [hbl] at h; exact h.elim
     | false =>
            rw [hbl] at h
            have := ih (.got _ _ _ _ _ _ _ _ _) h
            simp only [Goes]
            rw [hbl]
            exact this
   | upd k x v =>
    simp only [wstep, OD_eq, ODL_eq, KD_eq] at h
    obtain ⟨h, hso⟩ := so h
    have := ih _ h
    cases dr with
    | false => exact this
    | true =>
     simp only [Goes, orD]
     rw [hso rfl]
     exact this
   | nilq xs neg =>
    simp only [wstep] at h
    obtain ⟨h, hso⟩ := so h
    cases dr with
    | false => exact h
    | true =>
     simp only [Goes]
     rw [hso rfl]
     exact h
   | call f args =>
    have hpan : panF E g (Goes E fn g) fr = endP E fn g (getS fr) := by
     funext v obs
     unfold panF endP
     cases E.rd <;> cases E.df <;> rfl
    simp only [wstep, KDL_eq (KD_eq 5), hpan] at h
    cases dr with
    | false => exact h
    | true =>
     dsimp only at h
     cases hbl : blD E d with
     | true => rw [hbl] at h; exact h.elim
     | false =>
            rw [hbl] at h
            dsimp only at h
            rw [ODL_eq] at h
            simp only [Goes]
            rw [hbl]
            exact h
   | pan v =>
    simp only [wstep, KD_eq] at h
    obtain ⟨h2, hso⟩ := so h
    have h3 : endP E fn g (getS fr) v obs := by
     unfold endP
     cases hrd : E.rd with
     | some l => rw [hrd] at h2; exact h2.elim
     | none =>
     rw [hrd] at h2
     dsimp only at h2 ⊢
     cases hdf : E.df with
     | nil => rw [hdf] at h2; dsimp only at h2 ⊢; rw [endD_eq] at h2; exact h2
     | cons d ds => rw [hdf] at h2; exact h2
    cases dr with
    | false => exact h3
    | true =>
     simp only [Goes]
     rw [hso rfl]
     exact h3
end
def BodyOK (P : Program) (f : FuncId) : Prop := ∀ (args : Array Value) (w : World), (callFunc f args).run P w = .ok (.enter f args) w
theorem getS_frA : ∀ (l : List AVal) (n t : Nat), getS (frA n l) t = if n ≤ t then (l[t - n]?).getD .undef else .undef
 | [], n, t => by simp [frA, getS]
 | a :: l, n, t => by
  simp only [frA, getS]
  cases h : Nat.beq n t with
  | true => have := beq_yes h; subst this; simp
  | false =>
   have hne : n ≠ t := fun e => by subst e; simp at h
   simp only [cond_false]
   rw [getS_frA l (n + 1) t]
   by_cases hlt : n + 1 ≤ t
   ·rw [if_pos hlt, if_pos (by omega)]
    have : t - n = (t - (n + 1)) + 1 := by omega
    rw [this]; simp
   ·rw [if_neg hlt, if_neg (by omega)]
theorem calls_of_kw {P : Program} {f : FuncId} {fn : Func} {c : Code} {args : Array Value} {w : World} {R : Ending → World → Prop} (hf : P.funcs[f]? = some fn) (hb : fn.body = some c)
  {Q : Exit → Act → World → Prop} (hQ : ∀ e a w, Q e a w → (match e with | .normal | .ret => LeavesM P fn a.tmps R a.defers .returning w | .panic ch => LeavesM P fn a.tmps R a.defers (.panicking ch) w | _ => False)) (h : KW none P Q [.code c] { tmps := args ++ Array.replicate (fn.ntmps - args.size) undef, defers := [] } w) : Calls P f args w R := by
 intro cs
 let b : Frame := { (default : Frame) with fn := f, kind := .normal }
 have henter : Frame.enter P f args .normal = b.at { tmps := args ++ Array.replicate (fn.ntmps - args.size) undef, defers := [] } [.code c] := by
  simp [Frame.enter, Frame.at, hf, hb, b]
 obtain ⟨e, a', w', hq, harr⟩ := h.arrives b cs rfl
 have hq := hQ _ _ _ hq
 rw [show items [.code c] = [.code c] from rfl, ← henter] at harr
 cases e with
 | normal =>
  obtain ⟨e', w'', fr', hR, hs, hfn, hk, hl⟩ := leavesM_steps a'.defers .returning w' { b.at a' [] with mode := .returning } cs rfl rfl rfl hf hq
  exact ⟨e', w'', fr', hR, Comes.of_steps (Steps.trans harr (.one step_end)) hs, hfn, going_leaving hl hk⟩
 | ret =>
  obtain ⟨todo, hs₀⟩ := harr
  obtain ⟨e', w'', fr', hR, hs, hfn, hk, hl⟩ := leavesM_steps a'.defers .returning w' { b.at a' todo with mode := .returning } cs rfl rfl rfl hf hq
  exact ⟨e', w'', fr', hR, Comes.of_steps hs₀ hs, hfn, going_leaving hl hk⟩
 | panic chain =>
  obtain ⟨todo, hs₀⟩ := harr
  obtain ⟨e', w'', fr', hR, hs, hfn, hk, hl⟩ := leavesM_steps a'.defers (.panicking chain) w' { b.at a' todo with mode := .panicking chain } cs rfl rfl rfl hf hq
  exact ⟨e', w'', fr', hR, Comes.of_steps hs₀ hs, hfn, going_leaving hl hk⟩
 | exit id => exact hq.elim
 | goto l => exact hq.elim
 | outgrown => exact hq.elim
def okA : AVal → Prop
 | .int k n => inR k n
 | .str l => (l.length : Int) ≤ 9223372036854775807
 | .slice _ xs _ => (xs.length : Int) ≤ 9223372036854775807
 | _ => True
theorem Rep.okA {M : Imm} {ob : Hs} {v : Value} {a : AVal} (h : Rep M ob v a) : okA a := by
 cases a with
 | int k n => exact h.int_inv.2
 | str l => exact h.str_inv.2
 | slice sz xs t => obtain ⟨_, _, _, _, _, h⟩ := h.slice_inv; exact h
 | _ => exact trivial
def okL : List AVal → Prop
 | [] => True
 | a :: r => okA a ∧ okL r
theorem RepL.okL {M : Imm} {ob : Hs} : ∀ {vs : List Value} {as : List AVal}, RepL M ob vs as → okL as
 | _, [], _ => trivial
 | [], a :: r, h => by have := h.1; simp at this
 | v :: vs, a :: r, h => ⟨(h.2 0 v a rfl rfl).okA, RepL.okL (vs := vs) ⟨by simpa using h.1, fun i u b hu hb => h.2 (i + 1) u b (by simpa using hu) (by simpa using hb)⟩⟩
def startB : List AObj → Bool
 | [] => true
 | o :: r => o.owns && Nat.beq (curG o) 0 && startB r
theorem startB_get : ∀ {l : List AObj}, startB l = true → ∀ (k : Nat) o, l[k]? = some o → o.owns = true ∧ curG o = 0
 | [], _, k, o, h => by simp at h
 | x :: r, hb, k, o, h => by
  simp only [startB, Bool.and_eq_true] at hb
  cases k with
  | zero => simp at h; subst h; exact ⟨hb.1.1, beq_yes hb.1.2⟩
  | succ k => exact startB_get hb.2 k o (by simpa using h)
theorem CallOK.of {E : Env} {f : FuncId} {fn : Func} {args : List AVal} {obs : List AObj} {g : Goal} (hdf : E.df = []) (hf : E.P.funcs[f]? = some fn) (hb : fn.body = some (bodyOf fn)) (hbo : BodyOK E.P f)
  (hco : codeOK fn.ntmps (bodyOf fn) = true) (hn : Nat.ble args.length fn.ntmps = true) (hsb : startB obs = true) (hg : obs.length = g.n0) (h : okL args → Goes E fn g (.code [.code (bodyOf fn)] (frA 0 args) obs)) (hrd : E.rd = none := by rfl) : CallOK E.P f args obs g.res g.obs := by
 intro M ob w vargs hm hr
 refine .inl ⟨hbo _ _, calls_of_kw (Q := Post E fn M ob obs w g) hf hb (fun e a w h => ?_) ?_⟩
 ·cases e <;> (try unfold Post EndsW at h) <;> (try rw [hrd] at h) <;> exact h
 have hlen : vargs.length = args.length := hr.1
 have hle := Nat.le_of_ble_eq_true hn
 have hst : Start g ob := by
  refine ⟨by rw [hm.len, hg], fun _ hs hmem => ?_⟩
  obtain ⟨k, hk⟩ := List.getElem?_of_mem hmem
  have hlt : k < obs.length := by rw [← hm.len]; exact (List.getElem?_eq_some_iff.1 hk).1
  obtain ⟨h1, h2⟩ := startB_get hsb k _ (List.getElem?_eq_getElem hlt)
  have e := oget_of (List.getElem?_eq_getElem hlt)
  have := hm.histLen (by rw [e]; exact h1) hk
  rw [e, h2] at this
  exact this
 rw [← hrd]
 refine h hr.okL (by simp [stackOK, KI.ok, hco]) M ob obs w { tmps := vargs.toArray ++ Array.replicate (fn.ntmps - vargs.toArray.size) undef, defers := [] } w hst ⟨M, ob, Ext.refl _ _ _ _, hm, fun t => ?_, ?_, by rw [hdf]; exact DsRep.nil, by rw [hm.len]; exact Nat.le_refl _⟩
 ·rw [getS_frA]
  simp only [Nat.zero_le, if_true, Nat.sub_zero]
  by_cases ht : t < args.length
  ·rw [List.getElem?_eq_getElem ht]
   have hv : t < vargs.length := by omega
   have : (vargs.toArray ++ Array.replicate (fn.ntmps - vargs.toArray.size) undef).getD t undef = vargs[t] := by
    rw [Array.getD_eq_getD_getElem?, Array.getElem?_append_left (by simpa using hv)]
    simp [hv]
   rw [this]
   exact hr.2 t _ _ (List.getElem?_eq_getElem hv) (List.getElem?_eq_getElem ht)
  ·rw [List.getElem?_eq_none (by omega)]
   exact .undef _
 ·simp
  omega
theorem testB_eq (m i : Nat) : testB m i = m.testBit i := by
 unfold testB Nat.testBit
 have h1 : Nat.land (Nat.shiftRight m i) 1 = (m >>> i) % 2 := Nat.and_one_is_mod _
 have h2 : (1 &&& (m >>> i)) = (m >>> i) % 2 := by rw [Nat.and_comm]; exact Nat.and_one_is_mod _
 rw [h1, h2]
 rcases Nat.mod_two_eq_zero_or_one (m >>> i) with h | h <;> rw [h] <;> rfl
theorem befOf_iff {tab : List Nat} {i : Nat} : ∀ {l : List Nat}, testB (befOf tab l) i = true ↔ ∃ e ∈ l, e = i ∨ testB (getN tab e) i = true
 | [] => by rw [testB_eq]; simp [befOf]
 | x :: r => by
  have ih := befOf_iff (tab := tab) (i := i) (l := r)
  rw [testB_eq] at ih ⊢
  have e : befOf tab (x :: r) = (1 <<< x ||| getN tab x) ||| befOf tab r := rfl
  rw [e, Nat.testBit_or, Nat.testBit_or, Nat.one_shiftLeft, Nat.testBit_two_pow, Bool.or_eq_true, Bool.or_eq_true, ih, decide_eq_true_eq]
  constructor
  ·rintro ((h | h) | ⟨e, h1, h2⟩)
   ·exact ⟨x, by simp, .inl h⟩
   ·exact ⟨x, by simp, .inr (by rw [testB_eq]; exact h)⟩
   ·exact ⟨e, by simp [h1], h2⟩
  ·rintro ⟨e, h1, h2⟩
   rcases List.mem_cons.1 h1 with rfl | h1
   ·rcases h2 with h2 | h2
    ·exact .inl (.inl h2)
    ·rw [testB_eq] at h2; exact .inl (.inr h2)
   ·exact .inr ⟨e, h1, h2⟩
theorem getN_app {a b : List Nat} {j : Nat} (h : j < a.length) : getN (a ++ b) j = getN a j := by
 induction a generalizing j with
 | nil => simp at h
 | cons x r ih =>
  cases j with
  | zero => rfl
  | succ j => exact ih (by simpa using h)
theorem getN_end {a : List Nat} {m : Nat} : getN (a ++ [m]) a.length = m := by
 induction a with
 | nil => rfl
 | cons x r ih => exact ih
theorem getN_out {a : List Nat} {j : Nat} (h : a.length ≤ j) : getN a j = 0 := by
 induction a generalizing j with
 | nil => rfl
 | cons x r ih =>
  cases j with
  | zero => simp at h
  | succ j => exact ih (by simpa using h)
theorem befs_spec : ∀ (l : List Oper) (tab : List Nat), ∃ t, befs tab l = tab ++ t ∧ t.length = l.length
 | [], tab => ⟨[], by simp [befs], rfl⟩
 | p :: r, tab => by
  obtain ⟨t, h1, h2⟩ := befs_spec r (tab ++ [befOf tab (onesOf p)])
  exact ⟨befOf tab (onesOf p) :: t, by simp [befs, h1], by simp [h2]⟩
theorem befOf_congr {a b : List Nat} : ∀ {l : List Nat}, (∀ e ∈ l, getN a e = getN b e) → befOf a l = befOf b l
 | [], _ => rfl
 | x :: r, h => by
  have := befOf_congr (l := r) fun e he => h e (by simp [he])
  show Nat.lor (Nat.lor _ (getN a x)) (befOf a r) = Nat.lor (Nat.lor _ (getN b x)) (befOf b r)
  rw [this, h x (by simp)]
theorem befs_get : ∀ (l : List Oper) (tab : List Nat), edgesB tab.length l = true → ∀ (i : Nat) p, l[i]? = some p → getN (befs tab l) (tab.length + i) = befOf (befs tab l) (onesOf p) ∧ ∀ e ∈ onesOf p, e < tab.length + i
 | [], _, _, i, p, h => by simp at h
 | q :: r, tab, hb, i, p, h => by
  simp only [edgesB, Bool.and_eq_true] at hb
  have hlt : ∀ e ∈ onesOf q, e < tab.length := fun e he => by
   have := List.all_eq_true.1 hb.1 e he
   simpa [Nat.blt_eq] using this
  cases i with
  | zero =>
   simp at h
   subst h
   refine ⟨?_, fun e he => by have := hlt e he; omega⟩
   obtain ⟨t, h1, _⟩ := befs_spec r (tab ++ [befOf tab (onesOf q)])
   have e1 : befs tab (q :: r) = (tab ++ [befOf tab (onesOf q)]) ++ t := h1
   rw [Nat.add_zero, e1, getN_app (by simp), getN_end]
   refine befOf_congr fun e he => ?_
   have := hlt e he
   rw [getN_app (by simp; omega), getN_app this]
  | succ i =>
   have := befs_get r (tab ++ [befOf tab (onesOf q)]) (by simpa using hb.2) i p (by simpa using h)
   simp only [List.length_append, List.length_singleton] at this
   rw [show tab.length + (i + 1) = tab.length + 1 + i from by omega]
   exact this
theorem ones_mem {p : Oper} {i : Nat} : i ∈ onesOf p ↔ ∃ e ∈ p.after, Region.binds .any e = true ∧ e.on = i := by
 unfold onesOf
 simp only [List.mem_map, List.mem_filter]
 constructor
 ·rintro ⟨e, ⟨h1, h2⟩, h3⟩; exact ⟨e, by simpa using h1, h2, h3⟩
 ·rintro ⟨e, h1, h2, h3⟩; exact ⟨e, ⟨by simpa using h1, h2⟩, h3⟩
theorem dstB1_spec {tab : List Nat} {i d : Nat} : ∀ {l : List Oper} {n : Nat}, dstB1 tab i d n l = true → ∀ (j : Nat) q, l[j]? = some q → loose tab i (n + j) = true → q.dst ≠ some d
 | [], _, _, j, q, h, _ => by simp at h
 | x :: r, n, hb, j, q, h, hl => by
  simp only [dstB1, Bool.and_eq_true] at hb
  cases j with
  | zero =>
   simp at h
   subst h
   intro e
   have := hb.1
   rw [e] at this
   rw [Nat.add_zero] at hl
   simp [hl] at this
  | succ j => exact dstB1_spec hb.2 j q (by simpa using h) (by rw [show n + 1 + j = n + (j + 1) from by omega]; exact hl)
theorem dstB_spec {tab : List Nat} {all : List Oper} : ∀ {l : List Oper} {n : Nat}, dstB tab all n l = true → ∀ (i : Nat) p d, l[i]? = some p → p.dst = some d → dstB1 tab (n + i) d 0 all = true
 | [], _, _, i, p, d, h, _ => by simp at h
 | x :: r, n, hb, i, p, d, h, hd => by
  simp only [dstB, Bool.and_eq_true] at hb
  cases i with
  | zero =>
   simp at h
   subst h
   have := hb.1
   rw [hd] at this
   exact this
  | succ i =>
   have := dstB_spec hb.2 i p d (by simpa using h) hd
   rwa [show n + 1 + i = n + (i + 1) from by omega] at this
theorem regOK_spec (ops : Array Oper) (h : regOK ops = true) : TabSp ops (befs [] ops.toList) := by
 simp only [regOK, Bool.and_eq_true] at h
 obtain ⟨h1, h2⟩ := h
 have get : ∀ (j : Nat) p, ops[j]? = some p → getN (befs [] ops.toList) j = befOf (befs [] ops.toList) (onesOf p) ∧ ∀ e ∈ onesOf p, e < j := fun j p hp => by
  have := befs_get ops.toList [] h1 j p (by simpa using hp)
  simpa using this
 have hlen : (befs [] ops.toList).length = ops.size := by
  obtain ⟨t, e1, e2⟩ := befs_spec ops.toList []
  rw [e1]
  simpa using e2
 have hout : ∀ j i, testB (getN (befs [] ops.toList) j) i = true → j < ops.size := fun j i hj => by
  refine Nat.lt_of_not_le fun hge => ?_
  rw [getN_out (by rw [hlen]; exact hge), testB_eq] at hj
  simp at hj
 have hback : ∀ (j : Nat) p, ops[j]? = some p → ∀ e ∈ p.after, Region.binds .any e = true → e.on < j := fun j p hp e he hb => (get j p hp).2 _ (ones_mem.2 ⟨e, he, hb, rfl⟩)
 have hstep : ∀ (j : Nat) p, ops[j]? = some p → ∀ i, testB (getN (befs [] ops.toList) j) i = true → ∃ e ∈ p.after, Region.binds .any e = true ∧ (e.on = i ∨ testB (getN (befs [] ops.toList) e.on) i = true) := fun j p hp i hi => by
  rw [(get j p hp).1] at hi
  obtain ⟨e, he, hor⟩ := befOf_iff.1 hi
  obtain ⟨ed, g1, g2, g3⟩ := ones_mem.1 he
  subst g3
  exact ⟨ed, g1, g2, hor⟩
 have hless : ∀ i j, testB (getN (befs [] ops.toList) i) j = true → j < i := by
  intro i
  induction i using Nat.strongRecOn with
  | ind i ih =>
   intro j hj
   have hlt := hout i j hj
   have hp : ops[i]? = some ops[i] := Array.getElem?_eq_getElem hlt
   obtain ⟨e, he, hb, h | h⟩ := hstep i _ hp j hj
   ·have := hback i _ hp e he hb; omega
   ·have h1 := hback i _ hp e he hb
    have := ih e.on h1 j h
    omega
 exact ⟨hback, hless, hstep, hout, fun i j p q hp hq hl t ht => by
  have := dstB_spec (n := 0) h2 i p t (by simpa using hp) ht
  rw [Nat.zero_add] at this
  exact dstB1_spec this j q (by simpa using hq) (by rw [Nat.zero_add]; exact hl)⟩
inductive To (E : Env) (fn : Func) (g : Goal) (st : St) : Prop
 | mk (h : Goes E fn g st)
theorem To_eq (E : Env) (fn : Func) (g : Goal) : To E fn g = Goes E fn g := funext fun st => propext ⟨fun ⟨h⟩ => h, .mk⟩
theorem goes {E : Env} {fn : Func} {g : Goal} (hE : EnvOK E) (fuel : Nat) {st : St} (h : wstep E fn g (To E fn g) fuel st) : To E fn g st := by
 rw [To_eq] at h ⊢
 exact go hE regOK_spec fuel st h
theorem CallOK.to {E : Env} {f : FuncId} {fn : Func} {args : List AVal} {obs : List AObj} {g : Goal} (hdf : E.df = []) (hf : E.P.funcs[f]? = some fn) (hb : fn.body = some (bodyOf fn)) (hbo : BodyOK E.P f)
  (hco : codeOK fn.ntmps (bodyOf fn) = true) (hn : Nat.ble args.length fn.ntmps = true) (hsb : startB obs = true) (hg : obs.length = g.n0) (h : okL args → To E fn g (.code [.code (bodyOf fn)] (frA 0 args) obs)) (hrd : E.rd = none := by rfl) : CallOK E.P f args obs g.res g.obs :=
 CallOK.of hdf hf hb hbo hco hn hsb hg (fun ho => (h ho).rec fun h => h) hrd
def zvL (f : Value → AVal) : List Value → List AVal
 | [] => []
 | v :: r => f v :: zvL f r
def zv : Nat → Value → AVal
 | n + 1, .agg vs => .agg (zvL (zv n) vs.toList)
 | _, v => cval v
theorem zvL_rep {M : Imm} {ob : Hs} {f : Value → AVal} (hf : ∀ v, Rep M ob v (f v)) : ∀ (l : List Value), l.length = (zvL f l).length ∧ ∀ (i : Nat) v a, l[i]? = some v → (zvL f l)[i]? = some a → Rep M ob v a
 | [] => ⟨rfl, fun i v a h => by simp at h⟩
 | x :: l => by
  obtain ⟨h1, h2⟩ := zvL_rep hf l
  refine ⟨by simp [zvL, h1], fun i v a hv ha => ?_⟩
  cases i with
  | zero => simp [zvL] at hv ha; subst hv ha; exact hf x
  | succ i => exact h2 i v a (by simpa using hv) (by simpa [zvL] using ha)
theorem zv_rep {M : Imm} {ob : Hs} : ∀ (n : Nat) (v : Value), Rep M ob v (zv n v) := by
 intro n
 induction n with
 | zero => intro v; exact cval_rep v
 | succ n ih =>
  intro v
  cases v with
  | agg vs =>
   obtain ⟨h1, h2⟩ := zvL_rep (M := M) (ob := ob) ih vs.toList
   have := Rep.agg vs.toList _ h1 h2
   simpa [zv] using this
  | _ => exact cval_rep _
def cellK (P : Program) : Nat → Nat → List (Option Nat)
 | 0, _ => []
 | n + 1, t => match P.underlying t with
  | some (.struct fs) => fs.toList.flatMap fun f => cellK P n f.type
  | some (.array len e) => (List.replicate len (cellK P n e)).flatten
  | some (.slice e) => [some (((P.info? e).map (·.size)).getD 0)]
  | _ => [none]
def tyZ1 : Option Nat → AVal → AVal
 | some sz, .nilslice => .slice sz [] .nil
 | _, v => v
def tyZ : List (Option Nat) → List AVal → List AVal
 | k :: ks, c :: cs => tyZ1 k c :: tyZ ks cs
 | _, cs => cs
def zT (P : Program) (t : Nat) (z : Value) : AVal := match zv 4 z with
 | .agg cs => .agg (tyZ (cellK P 6 t) cs)
 | v => tyZ1 (match cellK P 6 t with | k :: _ => k | [] => none) v
theorem tyZ1_rep {M : Imm} {ob : Hs} {k : Option Nat} {v : Value} {a : AVal} (h : Rep M ob v a) : Rep M ob v (tyZ1 k a) := by
 unfold tyZ1
 split
 ·cases h; exact .slnil _ _ rfl
 ·exact h
theorem tyZ_rep {M : Imm} {ob : Hs} : ∀ {ks : List (Option Nat)} {cs : List AVal} {vs : List Value}, RepL M ob vs cs → RepL M ob vs (tyZ ks cs)
 | [], cs, vs, h => by cases cs <;> exact h
 | k :: ks, [], vs, h => h
 | k :: ks, c :: cs, [], h => by have := h.1; simp at this
 | k :: ks, c :: cs, v :: vs, h => RepL.cons (tyZ1_rep (h.2 0 v c rfl rfl)) (tyZ_rep ⟨by simpa using h.1, fun i u b hu hb => h.2 (i + 1) u b (by simpa using hu) (by simpa using hb)⟩)
theorem zT_rep {M : Imm} {ob : Hs} {P : Program} {t : Nat} {z : Value} : Rep M ob z (zT P t z) := by
 have h := zv_rep (M := M) (ob := ob) 4 z
 unfold zT
 split
 ·rename_i cs heq
  rw [heq] at h
  obtain ⟨vs, rfl, h1, h2⟩ := h.agg_inv
  obtain ⟨g1, g2⟩ := tyZ_rep (ks := cellK P 6 t) ⟨h1, h2⟩
  exact .agg vs _ g1 g2
 ·exact tyZ1_rep h
def sizeT (P : Program) (t : Nat) : Nat := ((P.info? t).map (·.size)).getD 0
def mkF (P : Program) (f : Field) : Nat × Nat × Bool := (f.offset, sizeT P f.type, isAggT P f.type)
def mkFs (P : Program) : List Field → List (Nat × Nat × Bool)
 | [] => []
 | f :: r => mkF P f :: mkFs P r
def knownT (P : Program) (t : Nat) : Bool := (P.info? t).isSome && (P.underlying t).isSome
def fsB (P : Program) : List Field → Bool
 | [] => true
 | f :: r => knownT P f.type && fsB P r
def mkKind (P : Program) (t : Nat) : TK := match P.underlying t with
 | some (.int k) => .int k
 | some .bool => .bool
 | some .string => .str
 | some (.struct fs) => .strct (mkFs P fs.toList)
 | some (.array n e) => .arr n (sizeT P e) (isAggT P e)
 | some (.slice e) => .slc e (sizeT P e) (((P.info? e).map (·.bytes)).getD 0)
 | some (.pointer e) => .ptr e
 | some (.interface _) => .iface
 | some (.map k e) => .mp k e
 | _ => .other
def mkTI (P : Program) (t : Nat) : TI := match P.info? t with
 | some i => ⟨mkKind P t, i.size, isAggT P t, match i.zero with | some z => zT P t z | none => .undef⟩
 | none => ⟨.other, 0, false, .undef⟩
def zeroB (P : Program) (t : Nat) : Bool := match P.info? t with
 | some i => (match i.zero with
  | some z => Nat.beq z.cells.size i.size && (z.cells.toList.all (·.oneCell') && notU (zT P t z))
  | none => false)
 | none => false
def elemB (P : Program) (e : Nat) : Bool := zeroB P e
def okB (P : Program) (t : Nat) : Bool := zeroB P t && match P.underlying t with
 | some (.int _) | some .bool | some .string | some (.pointer _) | some (.interface _) | some (.map _ _) => Nat.beq (sizeT P t) 1
 | some (.struct fs) => fsB P fs.toList
 | some (.array _ e) => knownT P e
 | some (.slice e) => Nat.beq (sizeT P t) 1 && elemB P e
 | some _ => true
 | none => false
theorem mkFs_ok (P : Program) : ∀ (l : List Field), fsB P l = true → FieldsOK P l (mkFs P l)
 | [], _ => trivial
 | f :: r, h => by
  simp only [fsB, Bool.and_eq_true, knownT] at h
  obtain ⟨⟨h1, h2⟩, h3⟩ := h
  obtain ⟨i, hi⟩ := Option.isSome_iff_exists.1 h1
  exact ⟨rfl, by simp [sizeT, hi], h2, rfl, mkFs_ok P r h3⟩
theorem zeroB_spec {P : Program} {t : Nat} (h : zeroB P t = true) : ∃ i z, P.info? t = some i ∧ i.zero = some z ∧ z.cells.size = i.size ∧ z.cells.toList.all (·.oneCell') = true ∧ zT P t z ≠ .undef := by
 unfold zeroB at h
 split at h
 ·rename_i i hi
  split at h
  ·rename_i z hz
   simp only [Bool.and_eq_true] at h
   obtain ⟨h1, h2, h3⟩ := h
   exact ⟨i, z, hi, hz, beq_yes h1, h2, notU_ne h3⟩
  ·cases h
 ·cases h
theorem mkTI_ok {P : Program} {t : Nat} (h : okB P t = true) : TIOK P t (mkTI P t) := by
 simp only [okB, Bool.and_eq_true] at h
 obtain ⟨h0, h1⟩ := h
 obtain ⟨i, z, hi, hz, hs, hone, hne⟩ := zeroB_spec h0
 have hm : mkTI P t = ⟨mkKind P t, i.size, isAggT P t, zT P t z⟩ := by simp [mkTI, hi, hz]
 have hst : sizeT P t = i.size := by simp [sizeT, hi]
 rw [hm]
 refine ⟨⟨i, z, hi, rfl, hz, hs, zT_rep, hone, hne⟩, ?_⟩
 show KindOK P t (isAggT P t) i.size (mkKind P t)
 unfold mkKind
 have ag : ∀ d, P.underlying t = some d → isAggT P t = match d with | .struct _ | .array _ _ => true | _ => false := fun d hd => by unfold isAggT; rw [hd]; cases d <;> rfl
 split at h1
 ·rename_i k hu; rw [hu]; exact ⟨hu, ag _ hu, by rw [← hst]; exact beq_yes h1⟩
 ·rename_i hu; rw [hu]; exact ⟨hu, ag _ hu, by rw [← hst]; exact beq_yes h1⟩
 ·rename_i hu; rw [hu]; exact ⟨hu, ag _ hu, by rw [← hst]; exact beq_yes h1⟩
 ·rename_i e hu; rw [hu]; exact ⟨hu, ag _ hu, by rw [← hst]; exact beq_yes h1⟩
 ·rename_i ms hu; rw [hu]; exact ⟨⟨ms, hu⟩, ag _ hu, by rw [← hst]; exact beq_yes h1⟩
 ·rename_i mk me hu; rw [hu]; exact ⟨hu, ag _ hu, by rw [← hst]; exact beq_yes h1⟩
 ·rename_i fs hu; rw [hu]; exact ⟨⟨fs, hu, mkFs_ok P _ h1⟩, ag _ hu⟩
 ·rename_i n e hu
  rw [hu]
  simp only [knownT, Bool.and_eq_true] at h1
  obtain ⟨j, hj⟩ := Option.isSome_iff_exists.1 h1.1
  exact ⟨⟨e, hu, by simp [sizeT, hj], h1.2, rfl⟩, ag _ hu⟩
 ·rename_i e hu
  rw [hu]
  simp only [Bool.and_eq_true] at h1
  obtain ⟨j, y, hj, hy, hys, hyo, _⟩ := zeroB_spec h1.2
  exact ⟨⟨hu, j, y, hj, by simp [sizeT, hj], by simp [hj], hy, by simp [sizeT, hj, hys], hyo⟩, ag _ hu, by rw [← hst]; exact beq_yes h1.1⟩
 ·rename_i d k1 k2 k3 k4 k5 k6 k7 k8 k9 hu
  rw [hu]
  have hd : ∀ (α : Type) (x y : α), True := fun _ _ _ => trivial
  cases d <;> first
   | exact ⟨⟨_, hu, fun ms e => by cases e⟩, rfl⟩
   | (exfalso; simp_all; done)
 ·cases h1
def mkTab (P : Program) : List Nat → Tab
 | [] => []
 | t :: r => (t, mkTI P t) :: mkTab P r
def tabB (P : Program) : List Nat → Bool
 | [] => true
 | t :: r => okB P t && tabB P r
def keysT : Tab → List Nat
 | [] => []
 | (t, _) :: r => t :: keysT r
theorem mkTab_ok {P : Program} : ∀ {l : List Nat}, tabB P l = true → ∀ t ti, tget (mkTab P l) t = some ti → TIOK P t ti
 | [], _, t, ti, h => by cases h
 | x :: r, hb, t, ti, h => by
  simp only [tabB, Bool.and_eq_true] at hb
  simp only [mkTab, tget] at h
  cases hx : Nat.beq x t with
  | true =>
   rw [hx] at h
   cases h
   rw [← beq_yes hx]
   exact mkTI_ok hb.1
  | false => rw [hx] at h; exact mkTab_ok hb.2 t ti h
theorem tab_ok {P : Program} {T : Tab} (h1 : mkTab P (keysT T) = T) (h2 : tabB P (keysT T) = true) : ∀ t ti, tget T t = some ti → TIOK P t ti := by
 intro t ti h
 rw [← h1] at h
 exact mkTab_ok h2 t ti h
theorem getS_pickS (fr : List (Nat × AVal)) (t : Nat) : ∀ (keep : List Nat), getS (pickS keep fr) t = getS fr t ∨ getS (pickS keep fr) t = .undef
 | [] => .inr rfl
 | k :: r => by
  simp only [pickS, getS]
  cases h : Nat.beq k t with
  | true => left; rw [beq_yes h]; rfl
  | false => exact getS_pickS fr t r
theorem SS.weak {M0 : Imm} {ob0 : Hs} {obs0 : List AObj} {w0 : World} {sz : Nat} {dfs : List (Nat × List AVal)} {fr fr2 : List (Nat × AVal)} {obs : List AObj} {a : Act} {w : World} (hw : ∀ t, getS fr2 t = getS fr t ∨ getS fr2 t = .undef) (h : SS M0 ob0 obs0 w0 sz dfs fr obs a w) :
  SS M0 ob0 obs0 w0 sz dfs fr2 obs a w := by
 obtain ⟨M, ob, hx, hm, hf, r⟩ := h
 refine ⟨M, ob, hx, hm, fun t => ?_, r⟩
 rcases hw t with e | e
 ·rw [e]; exact hf t
 ·rw [e]; exact .undef _
theorem GoesC.weak {E : Env} {fn : Func} {g : Goal} {ks : List KI} {fr fr2 : List (Nat × AVal)} {obs : List AObj} (hw : ∀ t, getS fr2 t = getS fr t ∨ getS fr2 t = .undef) (h : GoesC E fn g ks fr2 obs) : GoesC E fn g ks fr obs :=
 fun ho M0 ob0 obs0 w0 a w hst hs => h ho M0 ob0 obs0 w0 a w hst (hs.weak hw)
theorem GoesC.keep {E : Env} {fn : Func} {g : Goal} {ks : List KI} {fr : List (Nat × AVal)} {obs : List AObj} (l : List Nat) (h : GoesC E fn g ks (pickS l fr) obs) : GoesC E fn g ks fr obs := h.weak fun t => getS_pickS fr t l
theorem To.head {E : Env} {fn : Func} {g : Goal} {ks : List KI} {fr : List (Nat × AVal)} {obs : List AObj} (l : List Nat) (h : To E fn g (.head ks (pickS l fr) obs)) : To E fn g (.head ks fr obs) := h.rec fun h => .mk (GoesC.keep l h)
abbrev C3 := IntKind × Int × Int
def vA (cs : List C3) : List Value := cs.map fun c => .int c.1 c.2.1
def vB (cs : List C3) : List Value := cs.map fun c => .int c.1 c.2.2
def allE : List C3 → Bool
 | [] => true
 | c :: r => (c.2.1 == c.2.2) && allE r
theorem allE_append (a b : List C3) : allE (a ++ b) = (allE a && allE b) := by
 induction a with
 | nil => simp [allE]
 | cons c r ih => simp [allE, ih, Bool.and_assoc]
def packT (P : Program) (t : TypeId) (l : List Value) : Value := if isAggT P t then .agg l.toArray else l.headD undef
def tilesB (P : Program) (fa : TypeId → Bool) : Nat → List Field → Nat → Bool
 | off, [], total => Nat.beq off total
 | off, f :: fs, total => ((f.name != "_") && Nat.beq f.offset off) && ((fa f.type && (P.info? f.type).isSome) && tilesB P fa (off + P.cellsOf f.type) fs total)
def flatAt (P : Program) : Nat → TypeId → Bool
 | 0, _ => false
 | m + 1, t => match P.underlying t with
  | some (.int _) => Nat.beq (P.cellsOf t) 1
  | some (.array n e) => (flatAt P m e && (P.info? e).isSome) && Nat.beq (P.cellsOf t) (n * P.cellsOf e)
  | some (.struct fs) => !P.stoodInHeld t && tilesB P (flatAt P m) 0 fs.toList (P.cellsOf t)
  | _ => false
def EqI (P : Program) (d : Nat) (t : TypeId) : Prop := ∀ (w : World) (cs : List C3), cs.length = P.cellsOf t → (Op.equalIn d t (packT P t (vA cs)) (packT P t (vB cs))).run P w = .ok (allE cs) w
section
variable {P : Program} (w : World)
theorem flatAt_under {m : Nat} {t : TypeId} (h : flatAt P m t = true) : (P.underlying t).isSome = true ∧ (isAggT P t = false → P.cellsOf t = 1) := by
 cases m with
 | zero => cases h
 | succ m =>
  unfold flatAt at h
  unfold isAggT
  split at h
  ·rename_i hu; rw [hu]; exact ⟨rfl, fun _ => beq_yes h⟩
  ·rename_i hu; rw [hu]; exact ⟨rfl, fun h => by cases h⟩
  ·rename_i hu; rw [hu]; exact ⟨rfl, fun h => by cases h⟩
  ·cases h
theorem run_part_flat {e : TypeId} (hu : (P.underlying e).isSome = true) (hi : (P.info? e).isSome = true) (h1 : isAggT P e = false → P.cellsOf e = 1) (l : List Value) (off : Nat) (hoff : off + P.cellsOf e ≤ l.length) :
  (part e l.toArray off).run P w = .ok (packT P e ((l.drop off).take (P.cellsOf e))) w := by
 unfold part
 simp only [Sem.run_bind, run_isAgg hu, Result.andThen_ok]
 unfold packT
 obtain ⟨i, hi'⟩ := Option.isSome_iff_exists.1 hi
 have hsz : (P.info? e).map (·.size) = some (P.cellsOf e) := by simp [Program.cellsOf, hi']
 cases ha : isAggT P e with
 | true =>
  simp only [if_true, Sem.run_bind, AW.run_sizeOf hsz, Result.andThen_ok, Sem.run_pure]
  simp [List.extract_eq_take_drop]
 | false =>
  have hc := h1 ha
  have hlt : off < l.length := by omega
  simp only [Bool.false_eq_true, if_false]
  simp only [List.getElem?_toArray, List.getElem?_eq_getElem hlt, Sem.run_pure]
  rw [hc]
  congr 1
  rw [List.drop_eq_getElem_cons hlt]
  rfl
theorem vA_len (cs : List C3) : (vA cs).length = cs.length := by simp [vA]
theorem vB_len (cs : List C3) : (vB cs).length = cs.length := by simp [vB]
theorem vA_cut (cs : List C3) (o n : Nat) : ((vA cs).drop o).take n = vA ((cs.drop o).take n) := by simp [vA, List.map_drop, List.map_take]
theorem vB_cut (cs : List C3) (o n : Nat) : ((vB cs).drop o).take n = vB ((cs.drop o).take n) := by simp [vB, List.map_drop, List.map_take]
theorem run_step {d m : Nat} {e : TypeId} (hf : flatAt P m e = true) (hi : (P.info? e).isSome = true) (IH : EqI P d e) (cs : List C3) (off : Nat) (hoff : off + P.cellsOf e ≤ cs.length) :
  ∃ a b, (part e (vA cs).toArray off).run P w = .ok a w ∧ (part e (vB cs).toArray off).run P w = .ok b w ∧ (Op.equalIn d e a b).run P w = .ok (allE ((cs.drop off).take (P.cellsOf e))) w := by
 obtain ⟨hu, h1⟩ := flatAt_under hf
 refine ⟨_, _, run_part_flat w hu hi h1 _ _ (by rw [vA_len]; exact hoff), run_part_flat w hu hi h1 _ _ (by rw [vB_len]; exact hoff), ?_⟩
 rw [vA_cut, vB_cut]
 exact IH w _ (by simp; omega)
theorem take_add (cs : List C3) (o a b : Nat) : (cs.drop o).take (a + b) = (cs.drop o).take a ++ (cs.drop (o + a)).take b := by
 rw [List.take_add, List.drop_drop]
theorem run_items {d m : Nat} {e : TypeId} (hf : flatAt P m e = true) (hi : (P.info? e).isSome = true) (IH : EqI P d e) (cs : List C3) : ∀ (n k : Nat), (k + n) * P.cellsOf e ≤ cs.length →
  (Op.eqItems d e (P.cellsOf e) (vA cs).toArray (vB cs).toArray (List.range' k n)).run P w = .ok (allE ((cs.drop (k * P.cellsOf e)).take (n * P.cellsOf e))) w := by
 intro n
 induction n with
 | zero => intro k _; simp [Op.eqItems, allE]
 | succ n ih =>
  intro k hk
  have hk1 : (k + 1) * P.cellsOf e ≤ (k + (n + 1)) * P.cellsOf e := Nat.mul_le_mul_right _ (by omega)
  have hk2 : (k + 1) * P.cellsOf e = k * P.cellsOf e + P.cellsOf e := by rw [Nat.add_mul, Nat.one_mul]
  obtain ⟨a, b, p1, p2, p3⟩ := run_step w hf hi IH cs (k * P.cellsOf e) (by omega)
  have ih' := ih (k + 1) (by rw [show k + 1 + n = k + (n + 1) from by omega]; exact hk)
  have hn : (n + 1) * P.cellsOf e = P.cellsOf e + n * P.cellsOf e := by rw [Nat.add_mul, Nat.one_mul, Nat.add_comm]
  rw [hn, take_add, allE_append, ← hk2]
  simp only [List.range'_succ, Op.eqItems, Sem.run_bind, p1, p2, p3, Result.andThen_ok]
  cases allE ((cs.drop (k * P.cellsOf e)).take (P.cellsOf e)) with
  | true => simpa using ih'
  | false => simp
theorem run_fields {d m : Nat} (IH : ∀ t, flatAt P m t = true → EqI P d t) (cs : List C3) : ∀ (fs : List Field) (off : Nat), tilesB P (flatAt P m) off fs cs.length = true →
  (Op.eqFields d (vA cs).toArray (vB cs).toArray fs).run P w = .ok (allE (cs.drop off)) w ∧ off ≤ cs.length := by
 intro fs
 induction fs with
 | nil =>
  intro off h
  have := beq_yes h
  subst this
  exact ⟨by simp [Op.eqFields, allE], Nat.le_refl _⟩
 | cons f fs ih =>
  intro off h
  simp only [tilesB, Bool.and_eq_true] at h
  obtain ⟨⟨h1, h2⟩, ⟨h3, h4⟩, h5⟩ := h
  obtain ⟨ih1, ih2⟩ := ih _ h5
  have hoff := beq_yes h2
  obtain ⟨a, b, p1, p2, p3⟩ := run_step w h3 h4 (IH _ h3) cs f.offset (by omega)
  refine ⟨?_, by omega⟩
  have hd : cs.drop off = (cs.drop off).take (P.cellsOf f.type) ++ cs.drop (off + P.cellsOf f.type) := by rw [← List.drop_drop, List.take_append_drop]
  rw [hd, allE_append]
  have hne : f.name ≠ "_" := by simpa using h1
  simp only [Op.eqFields, hne, ne_eq, not_false_eq_true, if_true, Sem.run_bind, p1, p2, p3, Result.andThen_ok]
  rw [hoff] at *
  cases allE ((cs.drop off).take (P.cellsOf f.type)) with
  | true => simpa using ih1
  | false => simp
end
theorem eqI_of {P : Program} (d : Nat) : ∀ (m : Nat) (t : TypeId), flatAt P m t = true → EqI P (d + m) t
 | 0, _, h => by cases h
 | m + 1, t, h => by
  intro w cs hlen
  have IH : ∀ t, flatAt P m t = true → EqI P (d + m) t := fun t h => eqI_of d m t h
  unfold flatAt at h
  split at h
  ·rename_i k hu
   have hag : isAggT P t = false := by unfold isAggT; rw [hu]
   have h1 := beq_yes h
   rw [h1] at hlen
   match cs, hlen with
   | [(k', a, b)], _ =>
    simp only [packT, hag, vA, vB, List.map_cons, List.map_nil, List.headD_cons, Bool.false_eq_true, if_false, allE, Bool.and_true]
    exact run_equalIn_int w (d + m) t k' k a b hu
  ·rename_i n e hu
   simp only [Bool.and_eq_true] at h
   obtain ⟨⟨h1, h2⟩, h3⟩ := h
   have hag : isAggT P t = true := by unfold isAggT; rw [hu]
   obtain ⟨i, hi⟩ := Option.isSome_iff_exists.1 h2
   have hc := beq_yes h3
   simp only [packT, hag, if_true]
   rw [show d + (m + 1) = (d + m) + 1 from rfl, run_equalIn_array w (d + m) _ _ hu hi, List.range_eq_range', run_items w h1 h2 (IH e h1) cs n 0 (by rw [Nat.zero_add]; omega)]
   rw [Nat.zero_mul, List.drop_zero, List.take_of_length_le (by omega)]
  ·rename_i fs hu
   simp only [Bool.and_eq_true, Bool.not_eq_true'] at h
   obtain ⟨h1, h2⟩ := h
   have hag : isAggT P t = true := by unfold isAggT; rw [hu]
   have hfs : P.fieldsOf t = fs := by simp [Program.fieldsOf, hu]
   simp only [packT, hag, if_true]
   rw [← hlen] at h2
   rw [show d + (m + 1) = (d + m) + 1 from rfl, run_equalIn_struct w (d + m) t _ _ (by rw [hfs]; exact hu) h1, hfs]
   simpa using (run_fields w IH cs fs.toList 0 h2).1
  ·cases h
theorem ceq_c3 : ∀ {xs ys : List AVal} {c : Bool} {vs us : List Value}, ceq xs ys = some c → RepL (fun _ _ _ => False) [] vs xs → RepL (fun _ _ _ => False) [] us ys → ∃ cs : List C3, vs = vA cs ∧ us = vB cs ∧ c = allE cs
 | [], [], c, vs, us, h, h1, h2 => by
  cases h
  have e1 : vs = [] := by simpa using h1.1
  have e2 : us = [] := by simpa using h2.1
  exact ⟨[], by simp [vA, e1], by simp [vB, e2], rfl⟩
 | x :: xs, y :: ys, c, vs, us, h, h1, h2 => by
  cases x <;> first | (simp [ceq] at h; done) | skip
  cases y <;> first | (simp [ceq] at h; done) | skip
  rename_i k a k' b
  simp only [ceq] at h
  obtain ⟨hk, h3⟩ := cond_some h
  have := kbeq_eq hk
  subst this
  cases hr : ceq xs ys with
  | none => rw [hr] at h3; cases h3
  | some c' =>
   rw [hr] at h3
   cases h3
   match vs, us, h1, h2 with
   | v :: vs, u :: us, h1, h2 =>
    have hv := (h1.2 0 v _ rfl rfl).int_inv.1
    have hu := (h2.2 0 u _ rfl rfl).int_inv.1
    subst hv hu
    obtain ⟨cs, e1, e2, e3⟩ := ceq_c3 (vs := vs) (us := us) hr ⟨by simpa using h1.1, fun i v a hv ha => h1.2 (i + 1) v a (by simpa using hv) (by simpa using ha)⟩ ⟨by simpa using h2.1, fun i v a hv ha => h2.2 (i + 1) v a (by simpa using hv) (by simpa using ha)⟩
    exact ⟨(k, a, b) :: cs, by simp [vA, e1], by simp [vB, e2], by simp [allE, e3]⟩
 | [], _ :: _, c, vs, us, h, _, _ => by cases h
 | x :: _, [], c, vs, us, h, _, _ => by cases x <;> cases h
theorem run_checks {P : Program} (w : World) {em : Bool} {d m : Nat} (IH : ∀ (e : TypeId), flatAt P m e = true → ∀ (w : World) (cs : List C3), cs.length = P.cellsOf e → (Instr.checkKey em d e (packT P e (vA cs))).run P w = .ok () w) (cs : List C3) {e : TypeId} (hf : flatAt P m e = true) (hi : (P.info? e).isSome = true) :
  ∀ (is : List Nat), (∀ i ∈ is, (i + 1) * P.cellsOf e ≤ cs.length) →
  (forIn (m := Sem) is PUnit.unit fun i _ => (do Instr.checkKey em d e (← part e (vA cs).toArray (i * (← sizeOf e))); Pure.pure (ForInStep.yield PUnit.unit))).run P w = .ok PUnit.unit w := by
 intro is
 obtain ⟨i0, hi0⟩ := Option.isSome_iff_exists.1 hi
 have hsz : (P.info? e).map (·.size) = some (P.cellsOf e) := by simp [Program.cellsOf, hi0]
 obtain ⟨hu, h1⟩ := flatAt_under hf
 induction is with
 | nil => intro _; simp
 | cons j is ih =>
  intro h
  have hj := h j (by simp)
  rw [Nat.add_mul, Nat.one_mul] at hj
  have p1 := run_part_flat w hu hi h1 (vA cs) (j * P.cellsOf e) (by rw [vA_len]; exact hj)
  rw [vA_cut] at p1
  have p2 := IH e hf w ((cs.drop (j * P.cellsOf e)).take (P.cellsOf e)) (by simp; omega)
  simp only [List.forIn_cons, Sem.run_bind, AW.run_sizeOf hsz, Result.andThen_ok, p1, p2, Sem.run_pure]
  exact ih fun i hi => h i (by simp [hi])
theorem ckI_of {P : Program} (em : Bool) (d : Nat) : ∀ (m : Nat) (t : TypeId), flatAt P m t = true → ∀ (w : World) (cs : List C3), cs.length = P.cellsOf t → (Instr.checkKey em (d + m) t (packT P t (vA cs))).run P w = .ok () w
 | 0, _, h => by cases h
 | m + 1, t, h => by
  intro w cs hlen
  have IH := ckI_of (P := P) em d m
  unfold flatAt at h
  rw [show d + (m + 1) = (d + m) + 1 from rfl, Instr.checkKey]
  split at h
  ·rename_i k hu
   have hag : isAggT P t = false := by unfold isAggT; rw [hu]
   have h1 := beq_yes h
   rw [h1] at hlen
   match cs, hlen with
   | [(k', a, b)], _ =>
    simp [packT, hag, vA, run_underlying hu]
  ·rename_i n e hu
   simp only [Bool.and_eq_true] at h
   obtain ⟨⟨h1, h2⟩, h3⟩ := h
   have hag : isAggT P t = true := by unfold isAggT; rw [hu]
   have hc := beq_yes h3
   simp only [packT, hag, if_true, Sem.run_bind, run_underlying hu, Result.andThen_ok]
   simp only [Std.Legacy.Range.forIn_eq_forIn_range', Std.Legacy.Range.size, Nat.sub_zero, Nat.add_one_sub_one, Nat.div_one]
   have := run_checks w IH cs h1 h2 (List.range' 0 n) (fun i hi => by
    have : i < n := by simpa using hi
    have : (i + 1) * P.cellsOf e ≤ n * P.cellsOf e := Nat.mul_le_mul_right _ this
    omega)
   simp at this ⊢
   rw [this]
   rfl
  ·rename_i fs hu
   simp only [Bool.and_eq_true, Bool.not_eq_true'] at h
   obtain ⟨h1, h2⟩ := h
   have hag : isAggT P t = true := by unfold isAggT; rw [hu]
   simp only [packT, hag, if_true, Sem.run_bind, run_underlying hu, Result.andThen_ok]
   rw [← Array.forIn_toList]
   rw [← hlen] at h2
   have key : ∀ (L : List Field) (off : Nat), tilesB P (flatAt P m) off L cs.length = true → off ≤ cs.length ∧ ∀ f ∈ L, f.name ≠ "_" ∧ flatAt P m f.type = true ∧ (P.info? f.type).isSome = true ∧ f.offset + P.cellsOf f.type ≤ cs.length := by
    intro L
    induction L with
    | nil =>
     intro off h
     have := beq_yes h
     exact ⟨by omega, fun f hf => by cases hf⟩
    | cons f L ih =>
     intro off h
     simp only [tilesB, Bool.and_eq_true] at h
     obtain ⟨⟨g1, g2⟩, ⟨g3, g4⟩, g5⟩ := h
     obtain ⟨i1, i2⟩ := ih _ g5
     have hoff := beq_yes g2
     refine ⟨by omega, fun f' hf' => ?_⟩
     rcases List.mem_cons.1 hf' with rfl | hf'
     ·exact ⟨by simpa using g1, g3, g4, by omega⟩
     ·exact i2 f' hf'
   have each := (key fs.toList 0 h2).2
   clear key h2
   generalize fs.toList = L at each
   induction L with
   | nil => simp
   | cons f L ih =>
    obtain ⟨g1, g2, g3, g4⟩ := each f (by simp)
    obtain ⟨hu', h1'⟩ := flatAt_under g2
    have p1 := run_part_flat w hu' g3 h1' (vA cs) f.offset (by rw [vA_len]; exact g4)
    rw [vA_cut] at p1
    have p2 := IH f.type g2 w ((cs.drop f.offset).take (P.cellsOf f.type)) (by simp; omega)
    simp only [List.forIn_cons, Sem.run_bind, g1, ne_eq, not_false_eq_true, if_true, Result.andThen_ok, p1, p2, Sem.run_pure]
    exact ih fun y hy => each y (by simp [hy])
  ·cases h
theorem key_c3 (a b : List Int) (h : a.length = b.length) : ∃ cs : List C3, cs.length = a.length ∧ keyV true a = .agg (vA cs).toArray ∧ keyV true b = .agg (vB cs).toArray ∧ allE cs = decide (a = b) := by
 refine ⟨(a.zip b).map fun p => (.i64, p.1, p.2), by simp; omega, ?_, ?_, ?_⟩
 ·simp only [keyV, vA, if_true, List.map_map]
  congr 2
  have : (a.zip b).map Prod.fst = a := List.map_fst_zip (by omega)
  conv => lhs; rw [← this]
  simp [Function.comp_def]
 ·simp only [keyV, vB, if_true, List.map_map]
  congr 2
  have : (a.zip b).map Prod.snd = b := List.map_snd_zip (by omega)
  conv => lhs; rw [← this]
  simp [Function.comp_def]
 ·induction a generalizing b with
  | nil =>
   cases b with
   | nil => rfl
   | cons y b => cases h
  | cons x a ih =>
   cases b with
   | nil => cases h
   | cons y b =>
    simp only [List.zip_cons_cons, List.map_cons, allE]
    rw [ih b (by simpa using h)]
    by_cases hx : x = y
    ·subst hx; simp
    ·simp [hx]
def flatB (P : Program) (t n : Nat) : Bool := (isAggT P t && flatAt P 8 t) && (!P.eqGuardType P.depth t && Nat.beq (P.cellsOf t) n)
theorem flatB_ok {P : Program} {t n : Nat} (h : flatB P t n = true) : FlatOK P t n := by
 simp only [flatB, Bool.and_eq_true, Bool.not_eq_true'] at h
 obtain ⟨⟨h1, h2⟩, h3, h4⟩ := h
 have hn := beq_yes h4
 refine And.symm ⟨fun w a b ha hb => ?_, ?_⟩
 ·obtain ⟨cs, e0, e1, e2, e3⟩ := key_c3 a b (by omega)
  have g1 := eqI_of 9992 8 t h2 w cs (by omega)
  have g2 := fun em => ckI_of em 9992 8 t h2 w cs (by omega)
  simp only [packT, h1, if_true] at g1 g2
  rw [e1, e2, ← e3]
  exact ⟨g1, g2⟩
 intro w x y xs ys vs us c hq hlen hv hu
 obtain ⟨cs, rfl, rfl, rfl⟩ := ceq_c3 hq hv hu
 refine ⟨fun op => run_eqGuard_agg w op t x y _ _ h3, ?_⟩
 have hl : cs.length = P.cellsOf t := by
  have := hv.1
  rw [vA_len] at this
  omega
 have := eqI_of 9992 8 t h2 w cs hl
 simp only [packT, h1, if_true] at this
 exact this
def flatsB (P : Program) : List (Nat × Nat) → Bool
 | [] => true
 | (t, n) :: r => flatB P t n && flatsB P r
theorem flats_ok {P : Program} : ∀ {l : List (Nat × Nat)}, flatsB P l = true → ∀ t, 0 < fget l t → FlatOK P t (fget l t)
 | [], _, t, h => by cases h
 | (i, n) :: r, hb, t, h => by
  simp only [flatsB, Bool.and_eq_true] at hb
  simp only [fget] at h ⊢
  cases hx : Nat.beq i t with
  | true =>
   rw [hx] at h
   rw [← beq_yes hx]
   exact flatB_ok hb.1
  | false => rw [hx] at h; exact flats_ok hb.2 t h
def MthOK (P : Program) (mt : MTab) : Prop := ∀ t name g, mget mt t name = some g → ∀ v w, (method (P.types.size + Made.depth) t v name).run P w = .ok (g, v) w
theorem MthOK.nil {P : Program} : MthOK P [] := fun t name g h => by cases h
theorem MthOK.cons {P : Program} {i f : Nat} {s : String} {mt : MTab} (h : ∀ v w, (method (P.types.size + Made.depth) i v s).run P w = .ok (f, v) w) (k : MthOK P mt) : MthOK P ((i, s, f) :: mt) := by
 intro t name g hg
 simp only [mget] at hg
 cases hq : (Nat.beq i t && s == name) with
 | false => rw [hq] at hg; exact k t name g hg
 | true =>
  rw [hq] at hg
  cases hg
  obtain ⟨h1, h2⟩ := beq_and hq
  have h1 := beq_yes h1
  have h2 : s = name := by simpa using h2
  subst h1 h2
  exact h
section
variable {E : Env} {fn : Func} {g : Goal} {M0 : Imm} {ob0 : Hs} {obs0 : List AObj} {w0 : World} {sz : Nat} {dfs : List (Nat × List AVal)} {fr : List (Nat × AVal)} {obs : List AObj} {a : Act} {w : World}
end
def strip : Nat → AVal → AVal
 | 0, v => v
 | n + 1, v => match v with
  | .slice sz xs _ => .slice sz xs .no
  | .agg cs => .agg (mapL (strip n) cs)
  | .tup cs => .tup (mapL (strip n) cs)
  | .iface t v => .iface t (strip n v)
  | v => v
theorem strip_rep {M : Imm} {ob : Hs} : ∀ (n : Nat) {v : Value} {a : AVal}, Rep M ob v a → Rep M ob v (strip n a) := by
 intro n
 induction n with
 | zero => intro v a h; exact h
 | succ n ih =>
  intro v a h
  cases h with
  | agg vs as hl hr =>
   obtain ⟨h1, h2⟩ := mapL_rep (fun v a => ih) hl hr
   exact .agg vs _ h1 h2
  | tup vs as hl hr =>
   obtain ⟨h1, h2⟩ := mapL_rep (fun v a => ih) hl hr
   exact .tup vs _ h1 h2
  | iface t v a hr => exact .iface t v _ (ih hr)
  | slnil sz t ht => exact .slnil sz .no trivial
  | slemp sz t a cap ht => exact .slemp sz .no a cap trivial
  | sl sz b o n cap xs t hn hc hm hz hr ht => exact .sl sz b o n cap xs .no hn hc hm hz hr trivial
  | undef v => exact .undef v
  | bool b => exact .bool b
  | int k n hr => exact .int k n hr
  | str l hl => exact .str l hl
  | ptr b o cs h => exact .ptr b o cs h
  | ref k off b h => exact .ref k off b h
  | eref k g i sz off b n c h => exact .eref k g i sz off b n c h
  | csl k off len sz b h hm => exact .csl k off len sz b h hm
  | row k g a n c h => exact .row k g a n c h
  | sub k g lo len sz b n c h hl hn hc hm => exact .sub k g lo len sz b n c h hl hn hc hm
  | sub0 k g lo sz a a' n c h hl hc => exact .sub0 k g lo sz a a' n c h hl hc
  | rowc k g c a n h hm => exact .rowc k g c a n h hm
  | pre k g n c sz b len h hc hn hl hm => exact .pre k g n c sz b len h hc hn hl hm
  | mref k b h => exact .mref k b h
  | nilptr => exact .nilptr
  | nilslice => exact .nilslice
  | nilmap => exact .nilmap
  | nilfunc => exact .nilfunc
  | nilif => exact .nilif
  | hsl a n c => exact .hsl a n c
  | func fn fs cs fa ca hf hc h1 h2 => exact .func fn fs cs fa ca hf hc h1 h2
theorem CallOK.strip {P : Program} {f : FuncId} {args : List AVal} {obs obs' : List AObj} {r : Res} (h : CallOK P f (mapL (strip 5) args) obs r obs') : CallOK P f args obs r obs' :=
 fun M ob w vargs hm hr => h M ob w vargs hm (by
  obtain ⟨h1, h2⟩ := mapL_rep (M' := M) (ob' := ob) (fun v a => strip_rep (M := M) (ob := ob) 5) hr.1 hr.2
  exact ⟨h1, h2⟩)
def belD (n : Nat) : List (Nat × List AVal) → Bool
 | [] => true
 | (_, l) :: r => belL (bel n 5) l && belD n r
theorem belD_get {n : Nat} : ∀ {l : List (Nat × List AVal)}, belD n l = true → ∀ (i : Nat) x, l[i]? = some x → belL (bel n 5) x.2 = true
 | [], _, i, x, h => by simp at h
 | (f, y) :: r, hb, i, x, h => by
  simp only [belD, Bool.and_eq_true] at hb
  cases i with
  | zero => simp at h; subst h; exact hb.1
  | succ i => exact belD_get hb.2 i x (by simpa using h)
theorem belD_rep {w0 w : World} {M : Imm} {ob : Hs} {n : Nat} {ds : List Deferred} {dfs : List (Nat × List AVal)} (h : DsRep w0 w M ob ds dfs) (hb : belD n dfs = true) : DsRep w0 w M (ob.take n) ds dfs :=
 let ⟨d1, d2, e, h, h2⟩ := h
 ⟨d1, d2, e, ⟨h.1, fun i d x hd hx => ⟨(h.2 i d x hd hx).1, (h.2 i d x hd hx).2.1, fun j v a hv ha => bel_rep 5 ((h.2 i d x hd hx).2.2 j v a hv ha) (belL_get (belD_get hb i x hx) j a ha)⟩⟩, h2⟩
theorem To.cut {E : Env} {fn : Func} {g : Goal} {ks : List KI} {fr : List (Nat × AVal)} {obs : List AObj} (l : List Nat) (n : Nat) (hg : Nat.ble g.n0 n = true) (hf : belF n (pickS l fr) = true) (ho : belO n (otake n obs) = true) (hd : belD n E.df = true)
  (h : To E fn g (.head ks (pickS l fr) (otake n obs))) : To E fn g (.head ks fr obs) :=
 .mk fun hok M0 ob0 obs0 w0 a w hst hs => by
  refine h.rec fun h => h hok M0 ob0 obs0 w0 a w hst ?_
  obtain ⟨M, ob, hx, hm, hfr, r1, r2, r3⟩ := hs
  rw [otake_eq] at ho ⊢
  obtain ⟨m1, m2⟩ := hm.cutO ho
  have h0 : ob0.length ≤ n := by rw [hst.1]; exact Nat.le_of_ble_eq_true hg
  refine ⟨M, ob.take n, ⟨hx.imm, hx.new, fun k hs hk => ?_, hx.os, hx.tape, hx.output, hx.size, hx.keep, fun k b ha => hx.fresh k b (m2 ha)⟩, m1, fun t => ?_, r1, belD_rep r2 hd, by simp; omega⟩
  ·obtain ⟨hs', e1, e2⟩ := hx.hs k hs hk
   have hlt : k < n := by have := (List.getElem?_eq_some_iff.1 hk).1; omega
   exact ⟨hs', by rw [List.getElem?_take_of_lt hlt]; exact e1, e2⟩
  ·rcases belF_get hf t with q | q
   ·rcases getS_pickS fr t l with e | e
    ·rw [e] at q ⊢
     exact bel_rep 5 (hfr t) q
    ·rw [e]; exact .undef _
   ·rw [q]; exact .undef _
open Go.RowKit Go.ChangeShapes Go.WideShapes Go.ChangeAt
theorem calls_true {P : Program} {f : FuncId} {args : List AVal} {vargs : List Value} {w : World} {M : Imm} (hbo : BodyOK P f) (h : CallOK P f args [] (.ret (.bool true)) []) (hm : Mem M [] [] w) (hr : RepL M [] vargs args) :
  Calls P f vargs.toArray w fun e w' => e = .returned (.bool true) ∧ Below w.heap.size w w' := by
 rcases h M [] w vargs hm hr with ⟨_, h⟩ | ⟨u, w', h, _⟩
 ·refine h.mono fun e w' ⟨M', ob', h1, h2, h3⟩ => ⟨?_, h1.below⟩
  cases e with
  | returned v => rw [Rep.bool_inv h3]
  | panicked ch => exact h3.elim
  | outgrown => exact h3.elim
 ·rw [hbo] at h
  cases h
section
variable {P : Program} {w : World} {r : Reach} {base : Nat} {t : TypeId} {v : Value}
theorem has_inR {k : IntKind} {n : Int} (h : k.has n) : inR k n := by
 cases k <;> simpa [IntKind.has, IntKind.min, IntKind.max, IntKind.signed, IntKind.bits, inR, kmin, kmax] using h
theorem repL1 {M : Imm} {ob : Hs} {v : Value} {a : AVal} (h : Rep M ob v a) {vs : List Value} {as : List AVal} (hs : RepL M ob vs as) : RepL M ob (v :: vs) (a :: as) := RepL.cons h hs
theorem repL0 {M : Imm} {ob : Hs} : RepL M ob [] [] := ⟨rfl, fun i v a h => by simp at h⟩
end
theorem arr1 {args : Array Value} (h : args.toList.length = 1) : ∃ a, args = #[a] := by
 obtain ⟨l⟩ := args
 match l, h with
 | [a], _ => exact ⟨a, rfl⟩
section
variable {H : Type} {enc : TypeId × Value → H} {P : Program}
def readB (P : Program) : List TypeId → Bool
 | [] => true
 | t :: ts => (P.readableRec t && decide (t < P.types.size)) && readB P ts
theorem trodAll_below (hl : laidOutB P = true) {W W' : World} (hb : Below W.heap.size W W') : ∀ {ts : List TypeId} {vs : List Value} {ds : List (DataW H)} {ps : List MemPlace}, readB P ts = true → (∀ x ∈ ps, x.block < W.heap.size) →
  DataW.TrodAll enc P W 0 (fun _ => true) true ts vs ds ps → DataW.TrodAll enc P W' 0 (fun b => decide (b < W.heap.size)) true ts vs ds ps := by
 intro ts
 induction ts with
 | nil =>
  intro vs ds ps _ _ h
  obtain ⟨rfl, rfl, rfl⟩ := trodAll_nil h
  exact trodAll_mk0
 | cons t ts ih =>
  intro vs ds ps hr hlt h
  simp only [readB, Bool.and_eq_true, decide_eq_true_eq] at hr
  obtain ⟨v, vs', d, ds', p, q, rfl, rfl, rfl, h0, h1⟩ := trodAll_cons h
  exact trodAll_cons_mk (Below.trod hl hr.1.1 hr.1.2 h0 hb fun x hx => hlt x (by simp [hx])) (ih hr.2 (fun x hx => hlt x (by simp [hx])) h1)
theorem trodAll_len {W : World} : ∀ {ts : List TypeId} {vs : List Value} {ds : List (DataW H)} {ps : List MemPlace}, DataW.TrodAll enc P W 0 (fun _ => true) true ts vs ds ps → vs.length = ts.length ∧ ds.length = ts.length := by
 intro ts
 induction ts with
 | nil =>
  intro vs ds ps h
  obtain ⟨rfl, rfl, rfl⟩ := trodAll_nil h
  exact ⟨rfl, rfl⟩
 | cons t ts ih =>
  intro vs ds ps h
  obtain ⟨v, vs', d, ds', p, q, rfl, rfl, rfl, h0, h1⟩ := trodAll_cons h
  obtain ⟨a, b⟩ := ih h1
  exact ⟨by simp [a], by simp [b]⟩
theorem post_true {fn : Func} {s : ChangeSpec} {W W' : World} {args : Array Value} {ds gs : List (DataW H)} {before : List MemPlace} {tb : TypeId} (hl : laidOutB P = true) (hr : readB P fn.params.toList = true) (hv : s.vars = [])
  (hrt : fn.resultTypes = #[tb]) (hb : P.underlying tb = some .bool) (hW : DataW.Whole enc P fn.params.toList s.vars false W args.toList ds gs before) (hbel : Below W.heap.size W W')
  (hfn : ds.length = fn.params.toList.length → (s.fn H ds).results = [.lit (.bool true)] ∧ (s.fn H ds).args = ds ∧ (s.fn H ds).vars = []) : s.post enc P fn false true false false W args (.bool true) W' := by
 have hlt := hW.lt
 have hW' := hW
 obtain ⟨p, q, hA, hV, rfl, hfz, hnd⟩ := hW
 rw [hv] at hV
 obtain ⟨rfl, rfl⟩ := trodVars_none hV
 obtain ⟨f1, f2, f3⟩ := hfn (trodAll_len hA).2
 refine ⟨ds, [], _, [], p, [], hW', ?_, ?_, ?_, hbel.frame _, fun h => by cases h⟩
 ·rw [List.append_nil, f1, hrt]
  exact trodAll_cons_mk (shut_bool hb _) trodAll_mk0
 ·rw [List.append_nil, f2]
  exact trodAll_below hl hbel hr (fun x hx => hlt x (by simp [hx])) hA
 ·rw [List.append_nil, f3, hv]
  exact rfl
end
inductive RepW (w : World) : Value → AVal → Prop
 | bool (b) : RepW w (.bool b) (.bool b)
 | int (k n) (h : inR k n) : RepW w (.int k n) (.int k n)
 | str (l : List UInt8) (h : (l.length : Int) ≤ 9223372036854775807) : RepW w (.string ⟨l.toArray⟩) (.str l)
 | nilslice (sz : Nat) : RepW w (.slice none 0 0) (.slice sz [] .no)
 | emptys (sz : Nat) (a : Addr) (cap : Nat) : RepW w (.slice (some a) 0 cap) (.slice sz [] .no)
 | slice (sz b o n cap : Nat) (xs : List AVal) (us : Nat → Nat → Value) (hn : xs.length = n) (hc : n ≤ cap) (hm : (n : Int) ≤ 9223372036854775807) (hz : ∀ x ∈ xs, x.cells.length = sz)
   (h1 : ∀ (i j : Nat) x c, xs[i]? = some x → x.cells[j]? = some c → w.cell? ⟨b, o + i * sz + j, none⟩ = some (us i j)) (h2 : ∀ (i j : Nat) x c, xs[i]? = some x → x.cells[j]? = some c → (us i j).oneCell' = true)
   (h3 : ∀ (i j : Nat) x c, xs[i]? = some x → x.cells[j]? = some c → RepW w (us i j) c) : RepW w (.slice (some ⟨b, o, none⟩) n cap) (.slice sz xs .no)
def Mw (w : World) : Imm := fun b o x => ∃ v, w.cell? ⟨b, o, none⟩ = some v ∧ v.oneCell' = true ∧ RepW w v x
theorem RepW.rep {w : World} {v : Value} {a : AVal} (h : RepW w v a) : Rep (Mw w) [] v a := by
 cases h with
 | bool b => exact .bool b
 | int k n h => exact .int k n h
 | str l h => exact .str l h
 | nilslice sz => exact .slnil sz .no trivial
 | emptys _ a cap => exact .slemp _ _ _ _ trivial
 | slice sz b o n cap xs us hn hc hm hz h1 h2 h3 => exact .sl sz b o n cap xs .no hn hc hm hz (fun i j x c hx hj => ⟨us i j, h1 i j x c hx hj, h2 i j x c hx hj, h3 i j x c hx hj⟩) trivial
theorem memW (w : World) : Mem (Mw w) [] [] w where
 imm := fun b o x ⟨v, h1, h2, h3⟩ => ⟨v, h1, h2, h3.rep⟩
 len := rfl
 obj k c h := by simp at h
 lt k b h := by obtain ⟨c, hs, e, _⟩ := h; simp at e
 inj k k' b h := by obtain ⟨c, hs, e, _⟩ := h; simp at e
def TyF (T : TypeId → List AVal → Prop) : List Field → List AVal → Prop
 | [], cs => cs = []
 | f :: fs, cs => ∃ a b, cs = a ++ b ∧ T f.type a ∧ TyF T fs b
theorem RepW.one {w : World} {v : Value} {a : AVal} (h : RepW w v a) : v.oneCell' = true := by cases h <;> rfl
def RepWL (w : World) (cs : List Value) (as : List AVal) : Prop := cs.length = as.length ∧ ∀ (i : Nat) v a, cs[i]? = some v → as[i]? = some a → RepW w v a
theorem RepWL.append {w : World} {vs us : List Value} {as bs : List AVal} (h : RepWL w vs as) (k : RepWL w us bs) : RepWL w (vs ++ us) (as ++ bs) := by
 refine ⟨by simp [h.1, k.1], fun i v a hv ha => ?_⟩
 by_cases hi : i < vs.length
 ·rw [List.getElem?_append_left hi] at hv
  rw [List.getElem?_append_left (by rw [← h.1]; exact hi)] at ha
  exact h.2 i v a hv ha
 ·rw [List.getElem?_append_right (by omega)] at hv
  rw [List.getElem?_append_right (by rw [← h.1]; omega), ← h.1] at ha
  exact k.2 _ v a hv ha
theorem RepWL.single {w : World} {v : Value} {a : AVal} (h : RepW w v a) : RepWL w [v] [a] :=
 ⟨rfl, fun i u b hu hb => by cases i with | zero => simp at hu hb; subst hu hb; exact h | succ i => simp at hu⟩
theorem RepWL.nil {w : World} : RepWL w [] [] := ⟨rfl, fun i v a h => by simp at h⟩
def tilesO (P : Program) (fa : TypeId → Bool) : Nat → List Field → Nat → Bool
 | off, [], total => Nat.beq off total
 | off, f :: fs, total => (Nat.beq f.offset off && fa f.type) && tilesO P fa (off + P.cellsOf f.type) fs total
def openB (P : Program) : Nat → TypeId → Bool
 | 0, _ => false
 | n + 1, t => match P.underlying t with
  | some .bool => true
  | some (.int _) => true
  | some .string => true
  | some (.struct fs) => tilesO P (openB P n) 0 fs.toList (P.cellsOf t)
  | some (.array m e) => openB P n e && Nat.beq (P.cellsOf t) (m * P.cellsOf e)
  | some (.slice e) => openB P n e && Nat.blt 0 (P.cellsOf e)
  | _ => false
section
variable {H : Type} {enc : TypeId × Value → H} {P : Program} {w : World} {base : Nat} {spare : Nat → Bool} {held : Bool}
end
def ModeRep (M : Imm) (ob : Hs) (u : FrameMode) : Option AVal → Prop
 | none => u = .returning
 | some v => ∃ x, u = .panicking [{ v := x, recovered := false }] ∧ Rep M ob x v
def DefOK (P : Program) (f : FuncId) (args : List AVal) (obs : List AObj) (p : Option AVal) (obs' : List AObj) : Prop :=
 ∀ M ob w vargs u, Mem M ob obs w → RepL M ob vargs args → ModeRep M ob u p →
  (callFunc f vargs.toArray).run P w = .ok (.enter f vargs.toArray) w ∧
   CallsD P f vargs.toArray u w fun e u' w' => ∃ v M' ob', e = .returned v ∧ settle u' = .returning ∧ Ext M ob obs w M' ob' obs' w' ∧ Mem M' ob' obs' w'
section
variable {P : Program}
theorem run_recover {o : Oper} {ats : Array TypeId} {ρ : Operand → Value} {w : World} (ho : o.op = .call { callee := .builtin .recover, args := #[], argTypes := ats }) : (execOp ρ o).run P w = .ok .recover w := by
 obtain ⟨dst, op, ty, pos, after, gd⟩ := o
 subst ho
 rfl
theorem recover_mode {M : Imm} {ob : Hs} {u : FrameMode} {p : Option AVal} (h : ModeRep M ob u p) (c : Frame) (cs : List Frame) (hu : c.mode = u) :
  ∃ v u', Rep M ob v (match p with | none => .nilif | some a => a) ∧ settle u' = .returning ∧
   ((recoverD (c :: cs) = some (v, { c with mode := u' } :: cs)) ∨ (recoverD (c :: cs) = none ∧ v = .nilIface ∧ ({ c with mode := u' } : Frame) = c)) := by
 cases p with
 | none =>
  have h : u = .returning := h
  subst h
  refine ⟨.nilIface, .returning, .nilif, rfl, .inr ⟨by simp [recoverD, hu], rfl, ?_⟩⟩
  rw [← hu]
 | some a =>
  obtain ⟨x, rfl, hr⟩ := h
  refine ⟨x, .panicking [{ v := x, recovered := true }], hr, rfl, .inl ?_⟩
  simp [recoverD, hu]
end
def afterRec : Code → Code
 | .seq _ b => b
 | c => c
def recB : Code → Bool
 | .seq (.region _ ops false) _ => (match ops.toList with
  | [o] => (match o.op with
   | .call c => (match c.callee with | .builtin .recover => c.args.toList.isEmpty && o.guard.isNone && o.dst.isSome | _ => false)
   | _ => false)
  | _ => false)
 | _ => false
def recT : Code → Nat
 | .seq (.region _ ops _) _ => (match ops.toList with | [o] => o.dst.getD 0 | _ => 0)
 | _ => 0
theorem recB_spec {c : Code} (h : recB c = true) : ∃ id o ats rest, c = .seq (.region id #[o] false) rest ∧ o.op = .call { callee := .builtin .recover, args := #[], argTypes := ats } ∧ o.guard = none ∧ o.dst = some (recT c) ∧ afterRec c = rest := by
 unfold recB at h
 split at h
 ·rename_i id ops rest
  split at h
  ·rename_i o ho
   split at h
   ·rename_i cl hop
    split at h
    ·rename_i hcl
     simp only [Bool.and_eq_true] at h
     obtain ⟨⟨h1, h2⟩, h3⟩ := h
     obtain ⟨cal, as, ats⟩ := cl
     have hcl : cal = .builtin .recover := hcl
     subst hcl
     have e : ops = #[o] := by cases ops; simp at ho; simp [ho]
     subst e
     have ha : as = #[] := by cases as; simp at h1; simp [h1]
     subst ha
     obtain ⟨d, hd⟩ := Option.isSome_iff_exists.1 h3
     refine ⟨id, o, ats, rest, rfl, hop, by simpa using h2, ?_, rfl⟩
     simp [recT, hd]
    ·cases h
   ·cases h
  ·cases h
 ·cases h
theorem DefOK.of {E : Env} {f : FuncId} {fn : Func} {args : List AVal} {obs : List AObj} {n0 : Nat} {r : AVal} {obs' : List AObj} {p : Option AVal} (hdf : E.df = []) (hf : E.P.funcs[f]? = some fn) (hb : fn.body = some (bodyOf fn)) (hbo : BodyOK E.P f)
  (hrec : recB (bodyOf fn) = true) (hco : codeOK fn.ntmps (afterRec (bodyOf fn)) = true) (hn : Nat.ble args.length fn.ntmps = true) (ht : Nat.blt (recT (bodyOf fn)) fn.ntmps = true) (hsb : startB obs = true) (hg : obs.length = n0)
  (h : okL args → To E fn (.full n0 (.ret r) obs') (.code [.code (afterRec (bodyOf fn))] (putS (frA 0 args) (recT (bodyOf fn)) (match p with | none => .nilif | some a => a)) obs)) (hrd : E.rd = none := by rfl) : DefOK E.P f args obs p obs' := by
 intro M ob w vargs u hm hr hmode
 refine ⟨hbo _ _, ?_⟩
 obtain ⟨id, o, ats, rest, hc, hop, hgd, hdst, haft⟩ := recB_spec hrec
 rw [haft] at h hco
 have hlen : vargs.length = args.length := hr.1
 have hle := Nat.le_of_ble_eq_true hn
 have htl : recT (bodyOf fn) < fn.ntmps := by simpa [Nat.blt_eq] using ht
 generalize htt : recT (bodyOf fn) = t at *
 have hst : Start (.full n0 (.ret r) obs') ob := by
  refine ⟨by rw [hm.len, hg]; rfl, fun _ hs hmem => ?_⟩
  obtain ⟨k, hk⟩ := List.getElem?_of_mem hmem
  have hlt : k < obs.length := by rw [← hm.len]; exact (List.getElem?_eq_some_iff.1 hk).1
  obtain ⟨h1, h2⟩ := startB_get hsb k _ (List.getElem?_eq_getElem hlt)
  have e := oget_of (List.getElem?_eq_getElem hlt)
  have := hm.histLen (by rw [e]; exact h1) hk
  rw [e, h2] at this
  exact this
 intro c cs hu
 obtain ⟨v, u', hv, hset, hrecD⟩ := recover_mode hmode c cs hu
 let b : Frame := { (default : Frame) with fn := f, kind := .deferred }
 let a : Act := { tmps := vargs.toArray ++ Array.replicate (fn.ntmps - vargs.toArray.size) undef, defers := [] }
 have hasz : a.tmps.size = fn.ntmps := by simp [a]; omega
 have henter : Frame.enter E.P f vargs.toArray .deferred = b.at a [.code (.seq (.region id #[o] false) rest)] := by
  simp [Frame.enter, Frame.at, hf, hb, hc, b, a]
 have ha : ∀ t, Rep M ob (a.tmps.getD t undef) (getS (frA 0 args) t) := fun t => by
  rw [getS_frA]
  simp only [Nat.zero_le, if_true, Nat.sub_zero]
  by_cases ht : t < args.length
  ·rw [List.getElem?_eq_getElem ht]
   have hv : t < vargs.length := by omega
   have : a.tmps.getD t undef = vargs[t] := by
    show (vargs.toArray ++ Array.replicate (fn.ntmps - vargs.toArray.size) undef).getD t undef = _
    rw [Array.getD_eq_getD_getElem?, Array.getElem?_append_left (by simpa using hv)]
    simp [hv]
   rw [this]
   exact hr.2 t _ _ (List.getElem?_eq_getElem hv) (List.getElem?_eq_getElem ht)
  ·rw [List.getElem?_eq_none (by omega)]
   exact .undef _
 -- the region of recover
 have hreg := wp_opsS (P := E.P) (ops := #[o]) (Q := fun e a' cs' w' => e = .normal ∧ a' = a.put o.dst v ∧ cs' = { c with mode := u' } :: cs ∧ w' = w) [0] a (c :: cs) w (by
  have e0 : (#[o] : Array Oper)[0]? = some o := rfl
  have hw : Region.wanted o (yielded #[o] a.tmps) = true := by unfold Region.wanted; rw [hgd]
  simp only [wpOpsS, e0, hw, if_true, run_recover hop]
  rcases hrecD with h1 | ⟨h1, rfl, h2⟩
  ·rw [h1]
   refine ⟨?_, ?_, ?_, ?_⟩ <;> first | trivial | rfl
  ·rw [h1]
   refine ⟨?_, ?_, ?_, ?_⟩ <;> first | trivial | rfl | rw [h2]) b [.code rest] rfl rfl
 obtain ⟨e1, a1, cs1, w1, ⟨rfl, rfl, rfl, rfl⟩, harr1⟩ := hreg
 -- the rest
 have hkw : KW none E.P (Post E fn M ob obs w1 (.full n0 (.ret r) obs')) [.code rest] (a.put o.dst v) w1 := by
  rw [← hrd]
  obtain ⟨hh⟩ := h hr.okL
  refine hh (by simp [stackOK, KI.ok, hco]) M ob obs w1 _ w1 hst ⟨M, ob, Ext.refl _ _ _ _, hm, ?_, (put_size _ _ _).1.trans hasz, by rw [hdf]; exact DsRep.put (a := a) .nil, by rw [hm.len]; exact Nat.le_refl _⟩
  intro s
  have := fr_put (d := some t) ha hv (fun d' e => by cases e; omega) s
  rw [hdst]
  rwa [show updG (getS (frA 0 args)) (some t) _ s = getS (putS (frA 0 args) t _) s from (congrFun (getS_putO (frA 0 args) (some t) _) s).symm] at this
 obtain ⟨e2, a2, w2, hq, harr2⟩ := hkw.arrives b ({ c with mode := u' } :: cs) rfl
 have hsteps0 : Steps E.P (lone (b.at a [.code (.seq (.region id #[o] false) rest)]) (c :: cs) w1) (lone (b.at (a.put o.dst v) [.code rest]) ({ c with mode := u' } :: cs) w1) :=
  .head step_seq (.head step_region harr1)
 have fin : ∀ {e : Ending} {w' : World}, RR M ob obs w1 (.full n0 (.ret r) obs') e w' → ∃ v M' ob', e = .returned v ∧ settle u' = .returning ∧ Ext M ob obs w1 M' ob' obs' w' ∧ Mem M' ob' obs' w' := fun {e w'} ⟨M', ob', x1, x2, x3⟩ => by
  cases e with
  | returned v => exact ⟨v, M', ob', rfl, hset, x1, x2⟩
  | panicked ch => exact x3.elim
  | outgrown => exact x3.elim
 rw [henter]
 cases e2 with
 | normal =>
  unfold Post EndsW at hq
  rw [hrd] at hq
  obtain ⟨e', w'', fr', hR, hs, _, hk, hl⟩ := leavesM_steps a2.defers .returning w2 { b.at a2 [] with mode := .returning } ({ c with mode := u' } :: cs) rfl rfl rfl hf hq
  exact ⟨e', u', w'', fr', fin hR, Comes.of_steps (hsteps0.trans (Steps.trans harr2 (.one step_end))) hs, hk, hl⟩
 | ret =>
  obtain ⟨todo, hs₀⟩ := harr2
  unfold Post EndsW at hq
  rw [hrd] at hq
  obtain ⟨e', w'', fr', hR, hs, _, hk, hl⟩ := leavesM_steps a2.defers .returning w2 { b.at a2 todo with mode := .returning } ({ c with mode := u' } :: cs) rfl rfl rfl hf hq
  exact ⟨e', u', w'', fr', fin hR, Comes.of_steps (hsteps0.trans hs₀) hs, hk, hl⟩
 | panic chain =>
  obtain ⟨todo, hs₀⟩ := harr2
  unfold Post at hq
  rw [hrd] at hq
  obtain ⟨e', w'', fr', hR, hs, _, hk, hl⟩ := leavesM_steps a2.defers (.panicking chain) w2 { b.at a2 todo with mode := .panicking chain } ({ c with mode := u' } :: cs) rfl rfl rfl hf hq
  exact ⟨e', u', w'', fr', fin hR, Comes.of_steps (hsteps0.trans hs₀) hs, hk, hl⟩
 | exit id => exact hq.elim
 | goto l => exact hq.elim
 | outgrown => exact hq.elim
def dfOf (fr : List (Nat × AVal)) : List Oper → Option (Nat × List AVal)
 | [p] => (match p.guard, p.op with
  | none, .defer c => (match c.callee with
   | .value (.func f) => some (f, evO (ev fr) c.args.toList)
   | _ => none)
  | _, _ => none)
 | _ => none
theorem evO_eq (ρ : Operand → AVal) : ∀ (l : List Operand), evO ρ l = l.map ρ
 | [] => rfl
 | x :: r => by simp [evO, evO_eq ρ r]
def modeC (ks : List Nat) (og : Nat → AObj) : Option AVal → Option AVal
 | none => none
 | some v => some (cvtV 0 ks og 5 v)
section
variable {E : Env} {fn : Func} {g : Goal}
theorem goesC_defer {df : List (Nat × List AVal)} {id : Nat} {ops : Array Oper} {ks : List KI} {fr : List (Nat × AVal)} {obs : List AObj} {f : Nat} {args : List AVal} (hd : dfOf fr ops.toList = some (f, args))
  (hdf : df = (f, args) :: E.df)
  (hrd : E.rd = none) (h : GoesC { E with df := df } fn g ks (match ops.toList with | [o] => putO fr o.dst (.tup []) | _ => fr) obs) : GoesC E fn g (.code (.region id ops false) :: ks) fr obs := by
 intro ho M0 ob0 obs0 w0 a w hst hs
 simp only [stackOK, KI.ok, codeOK, Bool.and_eq_true] at ho
 obtain ⟨⟨ho1, _⟩, ho3⟩ := ho
 have hdst := dsts_spec ho1
 unfold dfOf at hd
 split at hd
 ·rename_i o hops
  split at hd
  ·rename_i c hg hop
   split at hd
   ·rename_i f' hcal
    cases hd
    rw [hops] at h hdst
    dsimp only at h
    refine KW.code (Q' := QR { E with df := df } fn g M0 ob0 obs0 w0 ks) ?_ (fun a w h => h) (fun ch a w h => h) (fun e a w hh => by
     cases e <;> first | exact .inl rfl | exact .inr ⟨_, rfl⟩ | exact hh.elim)
    refine wpIn_region_list ?_
    rw [hops]
    unfold wpListIn
    have hw : Region.wanted o (yielded ops a.tmps) = true := by unfold Region.wanted; rw [hg]
    rw [if_pos hw]
    obtain ⟨dst, op, ty, pos, after, gd⟩ := o
    have hop : op = .defer c := hop
    subst hop
    obtain ⟨cal, as, ats⟩ := c
    have hcal : cal = .value (.func f) := hcal
    subst hcal
    have hx : (execOp a.eval ⟨dst, .defer ⟨.value (.func f), as, ats⟩, ty, pos, after, gd⟩).run E.P w = .ok (.defer { target := .fn (.func f) #[], args := #[] ++ as.map a.eval }) w := rfl
    refine ⟨fun _ _ => trivial, ?_⟩
    rw [show (fen E.rd).round = none from hrd, Oper.semAt_none, hx, Oper.uponIn_defer]
    obtain ⟨M, ob, x1, x2, x3, x4, x5, x6⟩ := hs
    refine h ho3 M0 ob0 obs0 w0 _ w hst ⟨M, ob, x1, x2, ?_, (put_size _ _ _).1.trans x4, ?_, x6⟩
    ·rw [getS_putO]
     exact fr_put (a := { a with defers := { target := Target.fn (Fn.func f) #[], args := #[] ++ Array.map a.eval as } :: a.defers }) x3 rep_undef fun d' e => x4 ▸ hdst _ (List.mem_singleton.2 rfl) d' e
    ·rw [hdf]
     obtain ⟨d1, d2, ed, x5, x7⟩ := x5
     refine DsRep.put (a := { a with defers := _ }) ⟨_ :: d1, d2, by rw [ed]; rfl, ⟨by simp [x5.1], fun i d x hd hx => ?_⟩, x7⟩
     cases i with
     | zero =>
      simp at hd hx
      subst hd hx
      refine ⟨rfl, ?_, fun j v b hv hb => ?_⟩
      ·simp [evO_eq]
      ·rw [evO_eq, List.getElem?_map] at hb
       simp only [Array.empty_append, Array.toList_map, List.getElem?_map] at hv
       cases hj : as.toList[j]? with
       | none => rw [hj] at hb; cases hb
       | some y =>
        rw [hj] at hb hv
        cases hb
        cases hv
        exact ev_rep x3 y
     | succ i => exact x5.2 i d x (by simpa using hd) (by simpa using hx)
   ·cases hd
  ·cases hd
 ·cases hd
theorem To.defer (df : List (Nat × List AVal)) {id : Nat} {ops : Array Oper} {ks : List KI} {fr : List (Nat × AVal)} {obs : List AObj} {f : Nat} {args : List AVal} (hd : dfOf fr ops.toList = some (f, args)) (hdf : df = (f, args) :: E.df)
  (h : To { E with df := df } fn g (.code ks (match ops.toList with | [o] => putO fr o.dst (.tup []) | _ => fr) obs)) (hrd : E.rd = none := by rfl) : To E fn g (.code (.code (.region id ops false) :: ks) fr obs) :=
 .mk (h.rec fun h => goesC_defer hd hdf hrd h)
theorem leave_call {M0 : Imm} {ob0 : Hs} {obs0 : List AObj} {w0 : World} {sz : Nat} {f : Nat} {args : List AVal} {rest : List (Nat × List AVal)} {M : Imm} {ob : Hs} {obs obs' : List AObj} {w : World} {a : Act} {u : FrameMode} {p : Option AVal} (fz ks : List Nat)
  {fr : List (Nat × AVal)} (x1 : Ext M0 ob0 obs0 w0 M ob obs w) (x2 : Mem M ob obs w) (x3 : ∀ t, Rep M ob (a.tmps.getD t undef) (getS fr t)) (x4 : a.tmps.size = sz) {ds : List Deferred} (x5 : DsRep w0 w M ob ds ((f, args) :: rest)) (x6 : ob0.length ≤ obs.length)
  (hk : ksOK ks (frzs fz obs) = true) (hu : ModeRep M ob u p)
  (h : DefOK E.P f (mapL (cvtV 0 ks (oget (frzs fz obs)) 5) args) (subO 0 ks (frzs fz obs)) (modeC ks (oget (frzs fz obs)) p) obs') {R : Ending → World → Prop}
  (hl : ∀ (ds' : List Deferred) w', SS M0 ob0 obs0 w0 sz rest fr (embL ks (olen (frzs fz obs)) (frzs fz obs) 0 obs' (frzs fz obs)) { a with defers := ds' } w' → LeavesM E.P fn a.tmps R ds' .returning w') : LeavesM E.P fn a.tmps R ds u w := by
 obtain ⟨dsA, dsB, rfl, x5, x7⟩ := x5
 cases dsA with
 | nil => have := x5.1; simp at this
 | cons d ds =>
  obtain ⟨htar, hargs⟩ := x5.2 0 d _ rfl rfl
  obtain ⟨M1, g1, g2, _, _⟩ := Mem.frzs fz M obs x2
  obtain ⟨c1, _, _⟩ := g1.cvt (n0 := 0) hk
  have hrepl : RepL M1 _ d.args.toList (mapL (cvtV 0 ks (oget (frzs fz obs)) 5) args) := mapL_repL (fun v a => g1.cvtV (n0 := 0) hk 5 v a) ⟨hargs.1, fun i v a hv ha => (hargs.2 i v a hv ha).monoM g2.imm⟩
  have hmode : ModeRep M1 (cutL 0 ob (frzs fz obs) 0 ks) u (modeC ks (oget (frzs fz obs)) p) := by
   cases p with
   | none => exact hu
   | some v =>
    obtain ⟨x, e, hr⟩ := hu
    exact ⟨x, e, g1.cvtV hk 5 _ _ (hr.monoM g2.imm)⟩
  obtain ⟨h1, h2⟩ := h M1 _ w d.args.toList u c1 hrepl hmode
  have hne : u ≠ .run := by
   cases p with
   | none => have : u = .returning := hu; rw [this]; intro h; cases h
   | some v => obtain ⟨x, e, _⟩ := hu; rw [e]; intro h; cases h
  obtain ⟨tgt, das⟩ := d
  have htar : tgt = .fn (.func f) #[] := htar
  subst htar
  refine ⟨hne, .inr ⟨.func f, #[], f, das, rfl, ?_, ?_⟩⟩
  ·show (callFunc f (das ++ #[])).run E.P w = _
   rw [Array.append_empty]
   exact h1
  ·refine h2.mono fun e u' w' ⟨v, M', obK, e1, e2, e3, e4⟩ => ?_
   subst e1
   dsimp only
   rw [e2]
   obtain ⟨m1, m2, _⟩ := g1.emb hk e3 e4
   have ext := g2.trans m2
   refine hl (ds ++ dsB) w' ?_
   rw [olen_eq]
   refine ⟨M', _, x1.trans ext, m1, fun t => (x3 t).mono ext.imm ext.hs, x4, ?_, ?_⟩
   ·refine ⟨ds, dsB, rfl, ⟨by have := x5.1; simpa using this, fun i d x hd hx => ?_⟩, (DsRep.ext (M := M) (ob := ob) ⟨[], dsB, rfl, .nil, x7⟩ x2 ext).marks⟩
    have := x5.2 (i + 1) d x (by simpa using hd) (by simpa using hx)
    exact ⟨this.1, this.2.1, fun j v a hv ha => (this.2.2 j v a hv ha).mono ext.imm ext.hs⟩
   ·have := ext.lens
    have := m1.len
    have := x2.len
    omega
theorem To.leave (df : List (Nat × List AVal)) {f : Nat} {args : List AVal} (hdf : E.df = (f, args) :: df) (fz ks : List Nat) {p : Option AVal} {fr : List (Nat × AVal)} {obs obs' : List AObj} (hk : ksOK ks (frzs fz obs) = true)
  (h : DefOK E.P f (mapL (cvtV 0 ks (oget (frzs fz obs)) 5) args) (subO 0 ks (frzs fz obs)) (modeC ks (oget (frzs fz obs)) p) obs')
  (hn : To { E with df := df } fn g (.leave none fr (embL ks (olen (frzs fz obs)) (frzs fz obs) 0 obs' (frzs fz obs)))) : To E fn g (.leave p fr obs) := by
 obtain ⟨hn⟩ := hn
 have hn : LeaveN { E with df := df } fn g fr (embL ks (olen (frzs fz obs)) (frzs fz obs) 0 obs' (frzs fz obs)) := hn
 refine .mk ?_
 cases p with
 | none =>
  intro M0 ob0 obs0 w0 a w hst ⟨M, ob, x1, x2, x3, x4, x5, x6⟩
  rw [hdf] at x5
  exact leave_call (p := none) fz ks x1 x2 x3 x4 x5 x6 hk rfl h fun ds' w' hs => hn M0 ob0 obs0 w0 { a with defers := ds' } w' hst hs
 | some v =>
  intro M0 ob0 obs0 w0 ch a w hst ⟨M, ob, x1, x2, ⟨x, e, hr⟩, x3, x4, x5, x6⟩
  rw [hdf] at x5
  exact leave_call (p := some v) fz ks x1 x2 x3 x4 x5 x6 hk ⟨x, by rw [e], hr⟩ h fun ds' w' hs => hn M0 ob0 obs0 w0 { a with defers := ds' } w' hst hs
theorem To.left (hE : EnvOK E) (hdf : E.df = []) {fr : List (Nat × AVal)} {obs : List AObj} {v : AVal} (hv : resE E obs fn.results.toList fr = some v) (h : endF g .ret v obs) (hrd : E.rd = none := by rfl) : To E fn g (.leave none fr obs) :=
 .mk fun M0 ob0 obs0 w0 a w hst hs => go_ret hE hdf hrd hv h hst hs
end
def behindAt (r : Nat) : Code → List KI → Option (List KI)
 | .region id _ _, ks => bif Nat.beq id r then some ks else none
 | .seq a b, ks => (match behindAt r a (.code b :: ks) with | some x => some x | none => behindAt r b ks)
 | .cond _ a b, ks => (match behindAt r a ks with | some x => some x | none => behindAt r b ks)
 | .block id b, ks => behindAt r b (.inB id :: ks)
 | .loop b, ks => behindAt r b (.inL b :: ks)
 | _, _ => none
def behind (fn : Func) (r : Nat) : List KI := match behindAt r (bodyOf fn) [] with | some ks => ks | none => []
theorem To.cutC {E : Env} {fn : Func} {g : Goal} {ks : List KI} {fr : List (Nat × AVal)} {obs : List AObj} (l : List Nat) (n : Nat) (hg : Nat.ble g.n0 n = true) (hf : belF n (pickS l fr) = true) (ho : belO n (otake n obs) = true) (hd : belD n E.df = true)
  (h : To E fn g (.code ks (pickS l fr) (otake n obs))) : To E fn g (.code ks fr obs) := by
 have := To.cut (E := E) (fn := fn) (g := g) (ks := ks) (fr := fr) (obs := obs) l n hg hf ho hd (h.rec fun h => .mk h)
 exact this.rec fun h => .mk h
def notHead : St → Bool
 | .head _ _ _ => false
 | _ => true
theorem goN {E : Env} {fn : Func} {g : Goal} (hE : EnvOK E) (fuel : Nat) {st : St} (_hs : notHead st = true) (h : wstep E fn g (To E fn g) fuel st) : To E fn g st := goes hE fuel h
theorem setCell_row {w : World} {b : Nat} {u s q : Value} {T : TypeId} (h : w.heap[b]? = some (.cells #[u, s] T (0, 0))) : w.setCell ⟨b, 0, none⟩ q = w.setRow b #[q, s] := by
 unfold World.setCell World.setRow
 congr 1
 refine Array.ext_getElem? fun i => ?_
 by_cases hi : b = i
 ·subst hi
  rw [Array.getElem?_modify, Array.getElem?_modify, if_pos rfl, if_pos rfl, h]
  rfl
 ·rw [Array.getElem?_modify, Array.getElem?_modify, if_neg hi, if_neg hi]
theorem builder_check {P : Program} {f : FuncId} {T : TypeId} (hbo : BodyOK P f)
  (hc : ∀ (b : Nat) (w : World), w.cell? ⟨b, 0, none⟩ = some (.pointer none) → w.shape? b = some (T, 2) → w.frozen? ⟨b, 0, none⟩ = false → Calls P f #[.pointer (some ⟨b, 0, none⟩)] w fun e w' => e = .returned (.tuple #[]) ∧ w' = w.setCell ⟨b, 0, none⟩ (.pointer (some ⟨b, 0, none⟩)))
  (s : AVal) : CallOK P f [.ref 0 0] [.cells T [.nilptr, s]] (.ret (.tup [])) [.cells T [.ref 0 0, s]] := by
 intro M ob w vargs hm hr
 obtain ⟨hl, hr⟩ := hr
 match vargs, hl with
 | [v], _ =>
 obtain ⟨b, rfl, hat⟩ := (hr 0 _ _ rfl rfl).ref_inv
 obtain ⟨hs, e1, b', rfl, hno, cv, hh, hcl, h1, hrep⟩ := hm.obj 0 _ rfl
 have hbb : b' = b := by rw [at_get e1] at hat; simpa using hat
 subst hbb
 match cv, hcl with
 | [u, t], _ =>
 have hu : u = .pointer none := by
  have := hrep 0 u _ rfl rfl
  cases this; rfl
 subst hu
 have hh : w.heap[b']? = some (.cells #[.pointer none, t] T (0, 0)) := hh
 have hone := h1 t (by simp)
 refine .inl ⟨hbo _ _, (hc b' w (by simp [World.cell?, hh]) (by simp [World.shape?, hh]) (by simp [World.frozen?, hh])).mono ?_⟩
 rintro e w' ⟨rfl, rfl⟩
 rw [setCell_row hh]
 have := hm.cellsTurn (k := 0) (cs' := [.ref 0 0, s]) (cv' := [.pointer (some ⟨b', 0, none⟩), t]) rfl hat rfl (fun x hx => by
  rcases List.mem_cons.1 hx with rfl | hx
  ·rfl
  ·rcases List.mem_cons.1 hx with rfl | hx
   ·exact hone
   ·cases hx) (fun i v a hv ha => by
  match i with
  | 0 =>
   simp at hv ha
   subst hv ha
   exact .ref 0 0 b' hat
  | 1 =>
   simp at hv ha
   subst hv ha
   exact hrep 1 _ _ rfl rfl
  | i + 2 => simp at hv)
 exact ⟨M, ob, this.2.1, this.1, .tup [] [] rfl (fun i v a hv => by simp at hv)⟩
def FrzAt (g n : Nat) (w w' : World) : Prop := w'.os = w.os ∧ w'.tape = w.tape ∧ w'.output = w.output ∧ w'.heap = (w.freeze ⟨g, 0, none⟩ n).heap
theorem frz_at {w : World} {g n : Nat} (h : n ≠ 0) : FrzAt g n w (w.drew.freeze ⟨g, 0, none⟩ n) := by
 unfold FrzAt World.freeze
 rw [if_neg h, if_neg h]
 exact ⟨rfl, rfl, rfl, rfl⟩
theorem frz_other {w : World} {g n k : Nat} (h : g ≠ k) : (w.freeze ⟨g, 0, none⟩ n).heap[k]? = w.heap[k]? := by
 unfold World.freeze
 split
 ·rfl
 ·simp only [Array.getElem?_modify, if_neg h]
theorem frz_size {w : World} {g n : Nat} : (w.freeze ⟨g, 0, none⟩ n).heap.size = w.heap.size := by
 unfold World.freeze
 split
 ·rfl
 ·simp
theorem frz_cell {w : World} {g n b o : Nat} : (w.freeze ⟨g, 0, none⟩ n).cell? ⟨b, o, none⟩ = w.cell? ⟨b, o, none⟩ := by
 by_cases h : g = b
 ·subst h
  unfold World.freeze
  split
  ·rfl
  ·unfold World.cell?
   simp only [Array.getElem?_modify, if_true]
   cases h : w.heap[g]? with
   | none => rfl
   | some x => cases x <;> rfl
 ·exact World.cell?_of_block (w := w) (a := ⟨b, o, none⟩) (frz_other h)
theorem builder_string {P : Program} {f : FuncId} {T e : TypeId} (hbo : BodyOK P f)
  (hc : ∀ (b g cap : Nat) (p : Value) (cur : Array Value) (l : List UInt8) (w : World), w.heap[b]? = some (.cells #[p, .slice (some ⟨g, 0, none⟩) l.length cap] T (0, 0)) → w.heap[g]? = some (.cells cur e (0, 0)) → l ≠ [] →
   l.length ≤ cap → cap ≤ maxLen → cur.size = cap → (∀ (j : Nat) x, l[j]? = some x → w.cell? ⟨g, j, none⟩ = some (.int .u8 x.toNat)) →
   Calls P f #[.pointer (some ⟨b, 0, none⟩)] w fun e w' => e = .returned (.string ⟨l.toArray⟩) ∧ FrzAt g l.length w w')
  (l : List UInt8) (h0 : l ≠ []) (p : AVal) : CallOK P f [.ref 0 0] [.cells T [p, .slice 1 (l.map ub) (.own 1 0)], .tail 0 1 e] (.ret (.str l)) [.dead, .dead] := by
 intro M ob w vargs hm hr
 obtain ⟨hl, hr⟩ := hr
 match vargs, hl with
 | [v], _ =>
 obtain ⟨b, rfl, hat⟩ := (hr 0 _ _ rfl rfl).ref_inv
 obtain ⟨hs, e1, b', rfl, hno, cv, hh, hcl, h1, hrep⟩ := hm.obj 0 _ rfl
 have hbb : b' = b := by rw [at_get e1] at hat; simpa using hat
 subst hbb
 match cv, hcl with
 | [u, t], _ =>
 have hh : w.heap[b']? = some (.cells #[u, t] T (0, 0)) := hh
 have ht := hrep 1 t _ rfl rfl
 obtain ⟨ht, htk⟩ := ht.untok
 have htk : at' ob 1 0 = some t := htk
 obtain ⟨hs1, k1, k2, v1, k3, n, cw, k4, k5⟩ := hm.obj 1 _ rfl
 have hv1 : v1 = t := by
  rw [at_get k1, k3] at htk
  simpa using htk
 subst hv1
 have hn : n = (l.map ub).length := rep_own_len ht k4
 have hlen : (l.map ub).length = l.length := by simp
 have hlm := ht.slice_inv
 obtain ⟨_, _, _, _, _, hmax⟩ := hlm
 rw [hlen] at hmax hn
 have hpos : 0 < l.length := List.length_pos_iff.2 h0
 subst hn
 have k4' := k4
 obtain ⟨hcwl, hor⟩ := k4
 rcases hor with ⟨rfl, hz⟩ | ⟨g, cap, cur, rfl, _, hg, hnc, hcm, hcs, htake⟩
 ·omega
 have hcells : ∀ (j : Nat) x, l[j]? = some x → w.cell? ⟨g, j, none⟩ = some (.int .u8 x.toNat) := fun j x hx => by
  rcases ht.sl_inv with ⟨h1, _⟩ | ⟨_, _, _, h1⟩ | ⟨b2, o2, cap2, h1, _, _, _, h⟩
  ·cases h1
  ·exact absurd (List.map_eq_nil_iff.1 h1) h0
  ·simp only [Value.slice.injEq, Option.some.injEq, Addr.mk.injEq] at h1
   obtain ⟨⟨rfl, rfl, _⟩, _, _⟩ := h1
   have hM := h j 0 (ub x) (ub x) (by simp [hx]) rfl
   obtain ⟨u', hu', _, hr'⟩ := hm.imm _ _ _ hM
   rw [show 0 + j * 1 + 0 = j from by omega] at hu'
   rw [hu']
   have := hr'.int_inv
   rw [this.1]
 refine .inl ⟨hbo _ _, (hc b' g cap u cur l w hh hg h0 hnc hcm (by omega) hcells).mono ?_⟩
 rintro e w' ⟨rfl, hos, htape, hout, hheap⟩
 have hcell : ∀ b o, w'.cell? ⟨b, o, none⟩ = w.cell? ⟨b, o, none⟩ := fun b o => by
  have : w'.cell? ⟨b, o, none⟩ = (w.freeze ⟨g, 0, none⟩ l.length).cell? ⟨b, o, none⟩ := by unfold World.cell?; rw [hheap]
  rw [this, frz_cell]
 have dead : ∀ (k b : Nat), ¬ Alive ob [.dead, .dead] k b := fun k b ⟨c, hs, h1, h2, _⟩ => by
  match k with
  | 0 => simp at h1; subst h1; cases h2
  | 1 => simp at h1; subst h1; cases h2
  | k + 2 => simp at h1
 refine ⟨M, ob, ?_, ?_, .str l hmax⟩
 ·refine ⟨fun _ _ _ h => h, fun _ _ _ h => .inl h, HsLe.refl _, hos, htape, hout, by rw [hheap, frz_size]; exact Nat.le_refl _, fun k hk hal => ?_, fun k b h => absurd h (dead k b)⟩
  rw [hheap, frz_other]
  intro e
  subst e
  refine hal 1 ⟨_, hs1, rfl, rfl, k1, ?_⟩
  rw [blk_last k2 k3]
  exact mem_blk1.2 rfl
 ·refine ⟨fun b o x hx => ?_, hm.len, fun k c hk => ?_, fun k b h => absurd h (dead k b), fun k _ b h => absurd h (dead k b)⟩
  ·obtain ⟨v, h1, h2, h3⟩ := hm.imm b o x hx
   exact ⟨v, by rw [hcell]; exact h1, h2, h3⟩
  ·match k with
   | 0 => simp at hk; subst hk; exact ⟨_, e1, trivial⟩
   | 1 => simp at hk; subst hk; exact ⟨_, k1, trivial⟩
   | k + 2 => simp at hk
theorem kmax_pow (k : IntKind) : ∃ p, kmax k + 1 = 2 ^ p ∧ p ≤ k.bits := by
 cases k
 ·exact ⟨7, by decide, by decide⟩
 ·exact ⟨15, by decide, by decide⟩
 ·exact ⟨31, by decide, by decide⟩
 ·exact ⟨63, by decide, by decide⟩
 ·exact ⟨8, by decide, by decide⟩
 ·exact ⟨16, by decide, by decide⟩
 ·exact ⟨32, by decide, by decide⟩
 ·exact ⟨64, by decide, by decide⟩
theorem kmin_le (k : IntKind) : kmin k ≤ 0 := by cases k <;> decide
theorem inR_nat {k : IntKind} {a : Nat} (h : (a : Int) ≤ kmax k) : inR k a := ⟨Int.le_trans (kmin_le k) (Int.natCast_nonneg a), h⟩
theorem ofInt_nat (n a : Nat) (h : a < 2 ^ n) : (BitVec.ofInt n (a : Int)).toNat = a := by
 rw [BitVec.ofInt_natCast, BitVec.toNat_ofNat, Nat.mod_eq_of_lt h]
theorem lt_pow {k : IntKind} {a p : Nat} (hp : kmax k + 1 = 2 ^ p) (h : (a : Int) ≤ kmax k) : a < 2 ^ p := by
 have h1 : (a : Int) < 2 ^ p := by omega
 have : ((2 ^ p : Nat) : Int) = 2 ^ p := by simp
 omega
theorem le_max {k : IntKind} {a p : Nat} (hp : kmax k + 1 = 2 ^ p) (h : a < 2 ^ p) : (a : Int) ≤ kmax k := by
 have : ((2 ^ p : Nat) : Int) = 2 ^ p := by simp
 omega
theorem ebits_or (k : IntKind) (a b : Nat) (ha : (a : Int) ≤ kmax k) (hb : (b : Int) ≤ kmax k) : ebits .or k a b = ((a ||| b : Nat) : Int) := by
 obtain ⟨p, hp, hpk⟩ := kmax_pow k
 have h1 := lt_pow hp ha
 have h2 := lt_pow hp hb
 have hle : 2 ^ p ≤ 2 ^ k.bits := Nat.pow_le_pow_right (by decide) hpk
 simp only [ebits, BitVec.toNat_or, ofInt_nat k.bits a (by omega), ofInt_nat k.bits b (by omega)]
 exact wrap_inR (inR_nat (le_max hp (Nat.or_lt_two_pow h1 h2)))
theorem ebits_and (k : IntKind) (a b : Nat) (ha : (a : Int) ≤ kmax k) (hb : (b : Int) ≤ kmax k) : ebits .and k a b = ((a &&& b : Nat) : Int) := by
 obtain ⟨p, hp, hpk⟩ := kmax_pow k
 have h1 := lt_pow hp ha
 have h2 := lt_pow hp hb
 have hle : 2 ^ p ≤ 2 ^ k.bits := Nat.pow_le_pow_right (by decide) hpk
 simp only [ebits, BitVec.toNat_and, ofInt_nat k.bits a (by omega), ofInt_nat k.bits b (by omega)]
 exact wrap_inR (inR_nat (le_max hp (Nat.and_lt_two_pow _ h2)))
theorem or_add {a b i : Nat} (h : a < 2 ^ i) : a ||| (b * 2 ^ i) = a + b * 2 ^ i := by
 have := Nat.two_pow_add_eq_or_of_lt h b
 rw [Nat.or_comm, Nat.mul_comm b, ← this, Nat.add_comm]
theorem and_mod (a p : Nat) : a &&& (2 ^ p - 1) = a % 2 ^ p := Nat.and_two_pow_sub_one_eq_mod a p
theorem wrap_u8 (n : Nat) : IntKind.u8.wrap (n : Int) = ((n % 256 : Nat) : Int) := by
 simp [IntKind.wrap, IntKind.signed, IntKind.bits]
set_option maxRecDepth 8000 in
theorem or_128 : ∀ m : Fin 256, m.val ||| 128 = 128 + m.val % 128 := by decide
theorem ub_ofNat {m : Nat} (h : m < 256) : ub (UInt8.ofNat m) = .int .u8 m := by
 simp only [ub]
 rw [UInt8.toNat_ofNat', Nat.mod_eq_of_lt (by simpa using h)]
def cvtF (n0 : Nat) (ks : List Nat) (og : Nat → AObj) : List (Nat × AVal) → List (Nat × AVal)
 | [] => []
 | (i, v) :: r => (i, cvtV n0 ks og 5 v) :: cvtF n0 ks og r
theorem getS_cvtF (n0 : Nat) (ks : List Nat) (og : Nat → AObj) (t : Nat) : ∀ (fr : List (Nat × AVal)), getS (cvtF n0 ks og fr) t = cvtV n0 ks og 5 (getS fr t)
 | [] => rfl
 | (i, v) :: r => by
  simp only [cvtF, getS]
  cases Nat.beq i t with
  | true => rfl
  | false => exact getS_cvtF n0 ks og t r
theorem To.part {E : Env} {fn : Func} {g : Goal} {st : List KI} {fr : List (Nat × AVal)} {obs : List AObj} (l : List Nat) (ks : List Nat) (hdf : E.df = []) (hk : ksOK ks obs = true) (hb : beginsUp g.n0 0 ks = true)
  (h : To E fn g (.head st (cvtF g.n0 ks (oget obs) (pickS l fr)) (subO g.n0 ks obs))) (hstr : g.strict = true := by rfl) : To E fn g (.head st fr obs) :=
 .mk fun hok M0 ob0 obs0 w0 a w hst hs => by
  refine h.rec fun h => h hok M0 ob0 obs0 w0 a w hst ?_
  obtain ⟨M, ob, hx, hm, hfr, r1, r2, r3⟩ := hs
  obtain ⟨c1, c2, _⟩ := hm.cvt (n0 := g.n0) hk
  have hn : ob0.length = g.n0 := hst.1
  have hlen : (subO g.n0 ks obs).length = ks.length := by unfold subO; rw [subO_len]
  have hks : ob0.length ≤ ks.length := by
   rw [hn]
   rcases Nat.eq_zero_or_pos g.n0 with h0 | h0
   ·omega
   ·have := beginsUp_get hb (g.n0 - 1) (by omega)
    have := (List.getElem?_eq_some_iff.1 this).1
    omega
  refine ⟨M, _, ⟨hx.imm, hx.new, fun j hs hj => ?_, hx.os, hx.tape, hx.output, hx.size, hx.keep, fun j b ha => ?_⟩, c1, fun t => ?_, r1, ?_, by rw [hlen]; exact hks⟩
  ·have hlt : j < g.n0 := by rw [← hn]; exact (List.getElem?_eq_some_iff.1 hj).1
   have hkj := beginsUp_get hb j hlt
   rw [Nat.zero_add] at hkj
   obtain ⟨hs', e1, t, e2⟩ := hx.hs j hs hj
   have hl1 := hst.2 hstr hs (List.mem_of_getElem? hj)
   refine ⟨cutH g.n0 j (oget obs j) hs', ?_, ?_⟩
   ·rw [cutL_get, hkj]
    simp [e1]
   ·unfold cutH
    split
    ·rw [← e2]
     have : (hs ++ t).take 1 = hs := by rw [List.take_append_of_le_length (by omega), List.take_of_length_le (by omega)]
     rw [this]
     exact ⟨_, rfl⟩
    ·exact ⟨t, e2⟩
  ·obtain ⟨k, _, ha'⟩ := c2 j b ha
   exact hx.fresh k b ha'
  ·rw [getS_cvtF]
   have : Rep M ob (a.tmps.getD t undef) (getS (pickS l fr) t) := by
    rcases getS_pickS fr t l with e | e
    ·rw [e]; exact hfr t
    ·rw [e]; exact .undef _
   exact hm.cvtV (n0 := g.n0) hk 5 _ _ this
  ·rw [hdf] at r2 ⊢
   exact r2.bare
def setC : List AVal → Nat → AVal → List AVal
 | [], _, _ => []
 | _ :: r, 0, x => x :: r
 | c :: r, n + 1, x => c :: setC r n x
theorem setC_eq : ∀ (l : List AVal) (n : Nat) (x : AVal), setC l n x = l.set n x
 | [], _, _ => rfl
 | _ :: _, 0, _ => rfl
 | c :: r, n + 1, x => by simp [setC, setC_eq r n x]
def snocO : List AObj → AObj → List AObj
 | [], x => [x]
 | c :: r, x => c :: snocO r x
theorem snocO_eq : ∀ (l : List AObj) (x : AObj), snocO l x = l ++ [x]
 | [], _ => rfl
 | c :: r, x => by simp [snocO, snocO_eq r x]
theorem Mem.beginC {M : Imm} {ob : Hs} {obs : List AObj} {w : World} (hm : Mem M ob obs w) {k i sz : Nat} {T e : TypeId} {cs : List AVal} (hk : obs[k]? = some (.cells T cs)) (hi : cs[i]? = some (.slice sz [] .nil)) :
  Mem M (ob ++ [[.slice none 0 0]]) (obs.set k (.cells T (cs.set i (.slice sz [] (.own obs.length 0)))) ++ [.tail 0 sz e]) w ∧
   Ext M ob obs w M (ob ++ [[.slice none 0 0]]) (obs.set k (.cells T (cs.set i (.slice sz [] (.own obs.length 0)))) ++ [.tail 0 sz e]) w ∧ HsLe ob (ob ++ [[.slice none 0 0]]) := by
 have hle : HsLe ob (ob ++ [[.slice none 0 0]]) := fun j hs hj => ⟨hs, by rw [List.getElem?_append_left (List.getElem?_eq_some_iff.1 hj).1]; exact hj, List.prefix_refl _⟩
 have hkl : k < obs.length := (List.getElem?_eq_some_iff.1 hk).1
 have hnew : (ob ++ [[.slice none 0 0]])[obs.length]? = some [.slice none 0 0] := by rw [← hm.len]; simp
 have hat : at' (ob ++ [[.slice none 0 0]]) obs.length 0 = some (.slice none 0 0) := by rw [at_get hnew]; rfl
 have old : ∀ {j : Nat} {c : AObj}, (obs.set k (.cells T (cs.set i (.slice sz [] (.own obs.length 0)))) ++ [.tail 0 sz e])[j]? = some c →
   (j = obs.length ∧ c = .tail 0 sz e) ∨ (j = k ∧ c = .cells T (cs.set i (.slice sz [] (.own obs.length 0)))) ∨ (j ≠ k ∧ j < obs.length ∧ obs[j]? = some c) := fun {j c} hj => by
  by_cases hjl : j < obs.length
  ·rw [List.getElem?_append_left (by simpa using hjl)] at hj
   by_cases hjk : j = k
   ·subst hjk
    rw [List.getElem?_set_self hjl] at hj
    cases hj
    exact .inr (.inl ⟨rfl, rfl⟩)
   ·rw [List.getElem?_set_ne (Ne.symm hjk)] at hj
    exact .inr (.inr ⟨hjk, hjl, hj⟩)
  ·have h2 : j = obs.length := by
    have := (List.getElem?_eq_some_iff.1 hj).1
    simp at this
    omega
   subst h2
   rw [List.getElem?_append_right (by simp)] at hj
   simp at hj
   exact .inl ⟨rfl, hj.symm⟩
 have al : ∀ {j b : Nat}, Alive (ob ++ [[.slice none 0 0]]) (obs.set k (.cells T (cs.set i (.slice sz [] (.own obs.length 0)))) ++ [.tail 0 sz e]) j b → Alive ob obs j b := fun {j b} ⟨c, hs, e1, e2, e3, e4⟩ => by
  rcases old e1 with ⟨rfl, rfl⟩ | ⟨rfl, rfl⟩ | ⟨h1, h2, h3⟩
  ·rw [hnew] at e3
   cases e3
   cases e4
  ·rw [List.getElem?_append_left (by rw [hm.len]; exact hkl)] at e3
   exact ⟨_, hs, hk, rfl, e3, e4⟩
  ·rw [List.getElem?_append_left (by rw [hm.len]; exact h2)] at e3
   exact ⟨c, hs, h3, e2, e3, e4⟩
 have hok : ∀ (j : Nat) c, (obs.set k (.cells T (cs.set i (.slice sz [] (.own obs.length 0)))) ++ [.tail 0 sz e])[j]? = some c → ∃ hs, (ob ++ [[.slice none 0 0]])[j]? = some hs ∧ ObjOK M (ob ++ [[.slice none 0 0]]) w hs c := fun j c hj => by
  rcases old hj with ⟨rfl, rfl⟩ | ⟨rfl, rfl⟩ | ⟨h1, h2, h3⟩
  ·exact ⟨_, hnew, rfl, _, rfl, 0, [], World.ownsRow_nil w 0 _ _, fun b hb => by cases hb⟩
  ·obtain ⟨hs, e1, b, q1, q2, cv, q3, q4, q5, q6⟩ := hm.obj _ _ hk
   refine ⟨hs, by rw [List.getElem?_append_left (by rw [hm.len]; exact hkl)]; exact e1, b, q1, q2, cv, q3, by simpa using q4, q5, fun n v a hv ha => ?_⟩
   by_cases hn : n = i
   ·subst hn
    have hlt : n < cs.length := (List.getElem?_eq_some_iff.1 hi).1
    rw [List.getElem?_set_self hlt] at ha
    cases ha
    have := q6 n v _ hv hi
    obtain ⟨_, ht⟩ := this.untok
    have ht : v = .slice none 0 0 := ht
    subst ht
    exact .slnil _ _ hat
   ·rw [List.getElem?_set_ne (Ne.symm hn)] at ha
    exact (q6 n v a hv ha).mono (fun _ _ _ h => h) hle
  ·obtain ⟨hs, e1, e2⟩ := hm.obj j c h3
   refine ⟨hs, by rw [List.getElem?_append_left (by rw [hm.len]; exact h2)]; exact e1, ?_⟩
   cases c with
   | cells T' cs' =>
    obtain ⟨b, q1, q2, cv, q3, q4, q5, q6⟩ := e2
    exact ⟨b, q1, q2, cv, q3, q4, q5, fun n v a hv ha => (q6 n v a hv ha).mono (fun _ _ _ h => h) hle⟩
   | _ => exact e2
 refine ⟨⟨hm.imm, by simp [hm.len], hok, fun j b ha => hm.lt j b (al ha), fun j j' b h1 h2 => hm.inj j j' b (al h1) (al h2)⟩, ⟨fun _ _ _ h => h, fun _ _ _ h => .inl h, hle, rfl, rfl, rfl, Nat.le_refl _, fun _ _ _ => rfl, fun j b ha => .inl ⟨j, al ha⟩⟩, hle⟩
theorem To.begin {E : Env} {fn : Func} {g : Goal} {st : List KI} {fr : List (Nat × AVal)} {obs : List AObj} (k i : Nat) (e : TypeId) {T : TypeId} {cs : List AVal} {sz : Nat} (hk : oget obs k = .cells T cs) (hi : nth cs i = some (.slice sz [] .nil))
  (h : To E fn g (.head st fr (snocO (oput obs k (.cells T (setC cs i (.slice sz [] (.own (olen obs) 0))))) (.tail 0 sz e)))) : To E fn g (.head st fr obs) :=
 .mk fun hok M0 ob0 obs0 w0 a w hst hs => by
  refine h.rec fun h => h hok M0 ob0 obs0 w0 a w hst ?_
  obtain ⟨M, ob, hx, hm, hfr, r1, r2, r3⟩ := hs
  have hk' := oget_some hk (by simp)
  obtain ⟨m1, m2, m3⟩ := hm.beginC (e := e) hk' (nth_some hi)
  rw [snocO_eq, setC_eq, olen_eq, oput_some hk']
  exact ⟨M, _, hx.trans m2, m1, fun t => (hfr t).mono (fun _ _ _ h => h) m3, r1, r2.mono (fun _ _ _ h => h) m3, by simp; omega⟩
def mapO (f : AVal → AVal) : AObj → AObj
 | .cells T cs => .cells T (mapL f cs)
 | x => x
def mapOL (f : AVal → AVal) : List AObj → List AObj
 | [] => []
 | x :: r => mapO f x :: mapOL f r
theorem mapOL_eq (f : AVal → AVal) : ∀ (l : List AObj), mapOL f l = l.map (mapO f)
 | [] => rfl
 | x :: r => by simp [mapOL, mapOL_eq f r]
theorem CallOK.mapO {P : Program} {f : FuncId} {args : List AVal} {obs obs' : List AObj} {r : Res} (g : AVal → AVal) (hg : ∀ (M : Imm) (ob : Hs) v a, Rep M ob v a → Rep M ob v (g a)) (h : CallOK P f args obs r obs') : CallOK P f args obs r (mapOL g obs') := by
 rw [mapOL_eq]
 intro M ob w vargs hm hr
 have key : ∀ {e : Ending} {w' : World}, (∃ M' ob', Ext M ob obs w M' ob' obs' w' ∧ Mem M' ob' obs' w' ∧ EndRep M' ob' e r) → ∃ M' ob', Ext M ob obs w M' ob' (obs'.map (AW.mapO g)) w' ∧ Mem M' ob' (obs'.map (AW.mapO g)) w' ∧ EndRep M' ob' e r := by
  rintro e w' ⟨M', ob', h1, h2, h3⟩
  have own : ∀ x : AObj, (AW.mapO g x).owns = x.owns := fun x => by cases x <;> rfl
  have al : ∀ {k b : Nat}, Alive ob' (obs'.map (AW.mapO g)) k b → Alive ob' obs' k b := fun {k b} ⟨c, hs, e1, e2, e3, e4⟩ => by
   rw [List.getElem?_map] at e1
   cases hc : obs'[k]? with
   | none => rw [hc] at e1; cases e1
   | some x =>
    rw [hc] at e1
    cases e1
    exact ⟨x, hs, hc, by rw [← own]; exact e2, e3, e4⟩
  refine ⟨M', ob', ⟨h1.imm, h1.new, h1.hs, h1.os, h1.tape, h1.output, h1.size, h1.keep, fun k b ha => h1.fresh k b (al ha)⟩, ⟨h2.imm, by simpa using h2.len, fun k c hk => ?_, fun k b ha => h2.lt k b (al ha), fun i j b ha hb => h2.inj i j b (al ha) (al hb)⟩, h3⟩
  rw [List.getElem?_map] at hk
  cases hc : obs'[k]? with
  | none => rw [hc] at hk; cases hk
  | some x =>
   rw [hc] at hk
   cases hk
   obtain ⟨hs, e1, e2⟩ := h2.obj k x hc
   refine ⟨hs, e1, ?_⟩
   cases x with
   | cells T cs =>
    obtain ⟨b, q1, q2, cv, q3, q4, q5, q6⟩ := e2
    refine ⟨b, q1, q2, cv, q3, by rw [mapL_eq]; simpa using q4, q5, fun i v a hv ha => ?_⟩
    rw [mapL_eq, List.getElem?_map] at ha
    cases hi : cs[i]? with
    | none => rw [hi] at ha; cases ha
    | some y => rw [hi] at ha; cases ha; exact hg _ _ _ _ (q6 i v y hv hi)
   | _ => exact e2
 rcases h M ob w vargs hm hr with ⟨h1, h2⟩ | ⟨u, w', h1, h2⟩
 ·exact .inl ⟨h1, h2.mono fun e w' h => key h⟩
 ·exact .inr ⟨u, w', h1, key h2⟩
theorem CallOK.blur {P : Program} {f : FuncId} {args : List AVal} {obs obs' : List AObj} {r : Res} (h : CallOK P f args obs r obs') : CallOK P f args obs r (mapOL (fun _ => .undef) obs') :=
 h.mapO _ fun _ _ _ _ _ => .undef _
theorem CallOK.loose {P : Program} {f : FuncId} {args : List AVal} {obs obs' : List AObj} {r : Res} (h : CallOK P f args obs r obs') : CallOK P f args obs r (mapOL (AW.strip 5) obs') :=
 h.mapO _ fun _ _ _ _ => strip_rep 5
def frzF (l : List Nat) (og : Nat → AObj) : List (Nat × AVal) → List (Nat × AVal)
 | [] => []
 | (i, v) :: r => (i, bif memN i l then pureV og 5 v else v) :: frzF l og r
theorem getS_frzF (l : List Nat) (og : Nat → AObj) (t : Nat) : ∀ (fr : List (Nat × AVal)), getS (frzF l og fr) t = getS fr t ∨ getS (frzF l og fr) t = pureV og 5 (getS fr t)
 | [] => .inl rfl
 | (i, v) :: r => by
  simp only [frzF, getS]
  cases Nat.beq i t with
  | true =>
   simp only [cond_true]
   cases memN i l with
   | true => exact .inr rfl
   | false => exact .inl rfl
  | false => exact getS_frzF l og t r
theorem To.frz {E : Env} {fn : Func} {g : Goal} {st : List KI} {fr : List (Nat × AVal)} {obs : List AObj} (l fz : List Nat)
  (h : To E fn g (.code st (frzF l (oget (AW.frzs fz obs)) fr) (AW.frzs fz obs))) : To E fn g (.code st fr obs) :=
 .mk fun hok M0 ob0 obs0 w0 a w hst hs => by
  refine h.rec fun h => h hok M0 ob0 obs0 w0 a w hst ?_
  obtain ⟨M, ob, hx, hm, hfr, r1, r2, r3⟩ := hs
  obtain ⟨M', g1, g2, _, g4⟩ := Mem.frzs fz M obs hm
  refine ⟨M', ob, hx.trans g2, g1, fun t => ?_, r1, r2.mono g2.imm (HsLe.refl _), by rw [g4]; exact r3⟩
  rcases getS_frzF l (oget (AW.frzs fz obs)) t fr with e | e
  ·rw [e]; exact (hfr t).monoM g2.imm
  ·rw [e]; exact (g1.pureV 5 _ _ ((hfr t).monoM g2.imm)).pure
theorem okV_is_agg {P : Program} {w : World} {r : Reach} {b0 : Nat} {t : TypeId} {v : Value} (hag : isAggT P t = true) (h : Value.okWide P w r b0 t v) : ∃ cs : Array Value, v = .agg cs := by
 unfold Value.okWide at h
 unfold isAggT at hag
 split at h
 ·obtain ⟨cs, e, _⟩ := h; exact ⟨cs, e⟩
 ·obtain ⟨cs, e, _⟩ := h; exact ⟨cs, e⟩
 ·rename_i h1 h2
  split at hag
  ·exact absurd ‹_› (h1 _)
  ·exact absurd ‹_› (h2 _ _)
  ·cases hag
structure Bulk (H : Type) (N : Nat) (G : DataW H → Prop) : Prop where
 str : ∀ (l : List UInt8), G (.lit (.string l)) → l.length ≤ N
 sl : ∀ (e r : List (DataW H)), G (.slice e r) → e.length ≤ N ∧ ∀ d ∈ e, G d
 agg : ∀ (l : List (DataW H)), G (.agg l) → ∀ d ∈ l, G d
def TyN (P : Program) (N : Nat) : Nat → TypeId → List AVal → Prop
 | 0, _, _ => False
 | n + 1, t, cs => match P.underlying t with
  | some .bool => ∃ b, cs = [.bool b]
  | some (.int k) => ∃ m, cs = [.int k m] ∧ inR k m
  | some .string => ∃ l, cs = [.str l] ∧ l.length ≤ N
  | some (.struct fs) => TyF (TyN P N n) fs.toList cs
  | some (.array m e) => ∃ xs : List (List AVal), xs.length = m ∧ (∀ x ∈ xs, TyN P N n e x) ∧ cs = xs.flatten
  | some (.slice e) => ∃ xs, cs = [.slice (P.cellsOf e) xs .no] ∧ xs.length ≤ N ∧ ∀ x ∈ xs, TyN P N n e x.cells ∧ (isAggT P e = true → ∃ l, x = .agg l) ∧ (isAggT P e = false → x.cells = [x])
  | _ => False
section
variable {H : Type} {N : Nat} {G : DataW H → Prop} {enc : TypeId × Value → H} {P : Program} {w : World} {base : Nat} {spare : Nat → Bool} {held : Bool}
theorem open_fieldsN {n m : Nat} (ih : ∀ t, openB P n t = true → ∀ cs x, DataW.trod enc P w base spare held m t cs = some x → G x.1 → ∃ as, RepWL w cs as ∧ TyN P N n t as) (cs : List Value) :
  ∀ (fs : List Field) (off : Nat), (∀ f ∈ fs, ∃ y, DataW.trod enc P w base spare held m f.type ((cs.drop f.offset).take (P.cellsOf f.type)) = some y ∧ G y.1) → tilesO P (openB P n) off fs cs.length = true →
   ∃ as, RepWL w (cs.drop off) as ∧ TyF (TyN P N n) fs as := by
 intro fs
 induction fs with
 | nil =>
  intro off _ h
  have := beq_yes h
  subst this
  exact ⟨[], by simpa using RepWL.nil, rfl⟩
 | cons f fs ihf =>
  intro off hf h
  simp only [tilesO, Bool.and_eq_true] at h
  obtain ⟨⟨h1, h2⟩, h3⟩ := h
  have hoff := beq_yes h1
  obtain ⟨y, hy, hyG⟩ := hf f (by simp)
  obtain ⟨a, ha, hta⟩ := ih f.type h2 _ y hy hyG
  obtain ⟨b, hb, htb⟩ := ihf (off + P.cellsOf f.type) (fun g hg => hf g (by simp [hg])) h3
  refine ⟨a ++ b, ?_, a, b, rfl, hta, htb⟩
  have hd : cs.drop off = (cs.drop off).take (P.cellsOf f.type) ++ cs.drop (off + P.cellsOf f.type) := by rw [← List.drop_drop, List.take_append_drop]
  rw [hd]
  rw [hoff] at ha
  exact ha.append hb
theorem open_itemsN {n m : Nat} {e : TypeId} (he : openB P n e = true) (ih : ∀ t, openB P n t = true → ∀ cs x, DataW.trod enc P w base spare held m t cs = some x → G x.1 → ∃ as, RepWL w cs as ∧ TyN P N n t as) (cs : List Value) :
  ∀ (k : Nat), k * P.cellsOf e ≤ cs.length → (∀ i, i < k → ∃ y, DataW.trod enc P w base spare held m e ((cs.drop (i * P.cellsOf e)).take (P.cellsOf e)) = some y ∧ G y.1) →
   ∃ Ls : List (List AVal), Ls.length = k ∧ (∀ x ∈ Ls, TyN P N n e x) ∧ RepWL w (cs.take (k * P.cellsOf e)) Ls.flatten := by
 intro k
 induction k with
 | zero => intro _ _; exact ⟨[], rfl, fun x hx => by simp at hx, by simpa using RepWL.nil⟩
 | succ k ihk =>
  intro hk hf
  rw [Nat.add_mul, Nat.one_mul] at hk
  obtain ⟨Ls, l1, l2, l3⟩ := ihk (by omega) (fun i hi => hf i (by omega))
  obtain ⟨y, hy, hyG⟩ := hf k (by omega)
  obtain ⟨a, ha, hta⟩ := ih e he _ y hy hyG
  refine ⟨Ls ++ [a], by simp [l1], fun x hx => ?_, ?_⟩
  ·rcases List.mem_append.1 hx with hx | hx
   ·exact l2 x hx
   ·simp at hx; subst hx; exact hta
  ·rw [Nat.add_mul, Nat.one_mul, List.take_add]
   simp only [List.flatten_append, List.flatten_cons, List.flatten_nil, List.append_nil]
   exact l3.append ha
theorem TyN.pack {n : Nat} {t : TypeId} {as : List AVal} (h : TyN P N n t as) : ∃ x : AVal, x.cells = as ∧ (isAggT P t = true → ∃ l, x = .agg l) ∧ (isAggT P t = false → x.cells = [x]) := by
 cases n with
 | zero => exact h.elim
 | succ n =>
  unfold TyN at h
  cases ha : isAggT P t with
  | true => exact ⟨.agg as, rfl, (fun _ => ⟨_, rfl⟩), fun h => by cases h⟩
  | false =>
   unfold isAggT at ha
   split at h
   ·obtain ⟨b, rfl⟩ := h; exact ⟨.bool b, rfl, (fun h => by cases h), fun _ => rfl⟩
   ·rename_i k _; obtain ⟨m, rfl, _⟩ := h; exact ⟨.int k m, rfl, (fun h => by cases h), fun _ => rfl⟩
   ·obtain ⟨l, rfl, _⟩ := h; exact ⟨.str l, rfl, (fun h => by cases h), fun _ => rfl⟩
   ·rename_i hu; rw [hu] at ha; cases ha
   ·rename_i hu; rw [hu] at ha; cases ha
   ·rename_i e _; obtain ⟨xs, rfl, _⟩ := h; exact ⟨.slice (P.cellsOf e) xs .no, rfl, (fun h => by cases h), fun _ => rfl⟩
   ·exact h.elim
theorem open_elemsN {n m : Nat} {e : TypeId} (he : openB P n e = true) (ih : ∀ t, openB P n t = true → ∀ cs x, DataW.trod enc P w base spare held m t cs = some x → G x.1 → ∃ as, RepWL w cs as ∧ TyN P N n t as) (a : Addr) :
  ∀ (k : Nat), (∀ i, i < k → ∃ y, ((w.cells? base (a.add (i * P.cellsOf e)) (P.cellsOf e)).bind (DataW.trod enc P w base spare held m e)) = some y ∧ G y.1) →
   ∃ (xs : List AVal) (us : List (List Value)), xs.length = k ∧ us.length = k ∧ ∀ (i : Nat) x u, xs[i]? = some x → us[i]? = some u → x.cells.length = P.cellsOf e ∧ (∀ j, j < P.cellsOf e → w.cell? ((a.add (i * P.cellsOf e)).add j) = u[j]?) ∧ RepWL w u x.cells ∧
    TyN P N n e x.cells ∧ (isAggT P e = true → ∃ l, x = .agg l) ∧ (isAggT P e = false → x.cells = [x]) := by
 intro k
 induction k with
 | zero => intro _; exact ⟨[], [], rfl, rfl, fun i x u hx => by simp at hx⟩
 | succ k ihk =>
  intro hf
  obtain ⟨xs, us, l1, l2, l3⟩ := ihk fun i hi => hf i (by omega)
  obtain ⟨y, hy, hyG⟩ := hf k (by omega)
  obtain ⟨u, hu, hy⟩ := Option.bind_eq_some_iff.1 hy
  obtain ⟨_, hlen, hcell⟩ := World.cells?_some hu
  obtain ⟨as, has, hta⟩ := ih e he _ y hy hyG
  obtain ⟨x, rfl, hag⟩ := hta.pack
  refine ⟨xs ++ [x], us ++ [u], by simp [l1], by simp [l2], fun i x' u' hx hu' => ?_⟩
  by_cases hi : i < k
  ·rw [List.getElem?_append_left (by omega)] at hx hu'
   exact l3 i x' u' hx hu'
  ·have hik : i = k := by
    have := (List.getElem?_eq_some_iff.1 hx).1
    simp at this
    omega
   subst hik
   rw [List.getElem?_append_right (by omega)] at hx hu'
   rw [l1, Nat.sub_self] at hx
   rw [l2, Nat.sub_self] at hu'
   simp at hx hu'
   subst hx hu'
   exact ⟨by rw [← has.1, hlen], hcell, has, hta, hag⟩
theorem open_trodN (hB : Bulk H N G) : ∀ (n : Nat) (t : TypeId), openB P n t = true → ∀ (fuel : Nat) (cs : List Value) (x : DataW H × List MemPlace), DataW.trod enc P w base spare held fuel t cs = some x → G x.1 → ∃ as, RepWL w cs as ∧ TyN P N n t as := by
 intro n
 induction n with
 | zero => intro t h; cases h
 | succ n ih =>
  intro t h fuel cs x hx hG
  unfold openB at h
  unfold TyN
  split at h
  ·rename_i hu
   try rw [hu]
   obtain ⟨b, rfl, _⟩ := DataW.trod_bool hu hx
   exact ⟨[.bool b], RepWL.single (.bool b), b, rfl⟩
  ·rename_i k hu
   try rw [hu]
   obtain ⟨m, rfl, _, hwf⟩ := DataW.trod_int hu hx
   simp only [Lit.wf, Bool.and_eq_true, decide_eq_true_eq] at hwf
   exact ⟨[.int k m], RepWL.single (.int k m (has_inR hwf)), m, rfl, has_inR hwf⟩
  ·rename_i hu
   try rw [hu]
   obtain ⟨s, rfl, hxe, hs⟩ := DataW.trod_string hu hx
   obtain ⟨⟨l⟩⟩ := s
   have hsN := hB.str _ (by rw [hxe] at hG; exact hG)
   exact ⟨[.str l], RepWL.single (.str l (by have := maxLen_le; have h2 : l.length ≤ maxLen := hs; omega)), l, rfl, hsN⟩
  ·rename_i fs hu
   try rw [hu]
   obtain ⟨xs, m, rfl, hxe, hlen, hxl, hf⟩ := DataW.trod_struct hu hx
   have hGG := hB.agg _ (by rw [hxe] at hG; exact hG)
   rw [← hlen] at h
   have := open_fieldsN (fun t ht cs x hx hg => ih t ht m cs x hx hg) cs fs.toList 0 (fun f hf' => by
    obtain ⟨i, hi⟩ := List.getElem?_of_mem hf'
    have hi' : fs[i]? = some f := by simpa using hi
    have hlt := (Array.getElem?_eq_some_iff.1 hi').1
    exact ⟨xs[i]'(by omega), (hf i f hi').trans (List.getElem?_eq_getElem (by omega)), hGG _ (List.mem_map_of_mem (List.getElem_mem _))⟩) h
   simpa using this
  ·rename_i m e hu
   try rw [hu]
   simp only [Bool.and_eq_true] at h
   obtain ⟨h1, h2⟩ := h
   obtain ⟨xs, q, rfl, hxe, hlen, hxl, hf⟩ := DataW.trod_array hu hx
   have hGG := hB.agg _ (by rw [hxe] at hG; exact hG)
   have hc := beq_yes h2
   obtain ⟨Ls, l1, l2, l3⟩ := open_itemsN h1 (fun t ht cs x hx hg => ih t ht q cs x hx hg) cs m (by omega) (fun i hi => ⟨xs[i]'(by omega), (hf i hi).trans (List.getElem?_eq_getElem (by omega)), hGG _ (List.mem_map_of_mem (List.getElem_mem _))⟩)
   rw [List.take_of_length_le (by omega)] at l3
   exact ⟨Ls.flatten, l3, Ls, l1, l2, rfl⟩
  ·rename_i e hu
   try rw [hu]
   simp only [Bool.and_eq_true] at h
   obtain ⟨h1, h2⟩ := h
   have hpos : 0 < P.cellsOf e := by simpa [Nat.blt_eq] using h2
   rcases DataW.trod_slice hu hx with ⟨rfl, _⟩ | ⟨a, len, cap, elems, rest, q, rfl, rfl, hxe, hb, hlc, hcm, hel, hf, _⟩
   ·exact ⟨[.slice (P.cellsOf e) [] .no], RepWL.single (.nilslice _), [], rfl, Nat.zero_le _, fun x hx => by simp at hx⟩
   ·have hGG := hB.sl _ _ (by rw [hxe] at hG; exact hG)
    obtain ⟨xs, us, l1, l2, l3⟩ := open_elemsN h1 (fun t ht cs x hx hg => ih t ht q cs x hx hg) a len (fun i hi => ⟨elems[i]'(by omega), (hf i hi).trans (List.getElem?_eq_getElem (by omega)), hGG.2 _ (List.mem_map_of_mem (List.getElem_mem _))⟩)
    have hty : ∀ x ∈ xs, TyN P N n e x.cells ∧ (isAggT P e = true → ∃ l, x = .agg l) ∧ (isAggT P e = false → x.cells = [x]) := fun x hx => by
     obtain ⟨i, hi⟩ := List.getElem?_of_mem hx
     have hlt := (List.getElem?_eq_some_iff.1 hi).1
     exact (l3 i x (us[i]'(by omega)) hi (List.getElem?_eq_getElem (by omega))).2.2.2
    by_cases h0 : len = 0
    ·subst h0
     have : xs = [] := List.eq_nil_of_length_eq_zero l1
     subst this
     exact ⟨[.slice (P.cellsOf e) [] .no], RepWL.single (.emptys _ a cap), [], rfl, Nat.zero_le _, fun x hx => by simp at hx⟩
    ·obtain ⟨b, o, sp⟩ := a
     have hx0 : xs[0]? = some (xs[0]'(by omega)) := List.getElem?_eq_getElem (by omega)
     have hu0 : us[0]? = some (us[0]'(by omega)) := List.getElem?_eq_getElem (by omega)
     obtain ⟨c1, c2, c3, _⟩ := l3 0 _ _ hx0 hu0
     have hcell0 := c2 0 hpos
     have hlen0 : 0 < (us[0]'(by omega)).length := by rw [c3.1, c1]; exact hpos
     rw [List.getElem?_eq_getElem hlen0] at hcell0
     have hsp : sp = none := by
      have := World.cell?_spot hcell0
      simpa [Addr.add] using this
     subst hsp
     have key : ∀ (i j : Nat) x c, xs[i]? = some x → x.cells[j]? = some c → ∃ v, (us.getD i []).getD j undef = v ∧ w.cell? ⟨b, o + i * P.cellsOf e + j, none⟩ = some v ∧ RepW w v c := by
      intro i j x c hx hj
      have hlt := (List.getElem?_eq_some_iff.1 hx).1
      have hui : us[i]? = some (us[i]'(by omega)) := List.getElem?_eq_getElem (by omega)
      obtain ⟨d1, d2, d3, _⟩ := l3 i x _ hx hui
      have hjl := (List.getElem?_eq_some_iff.1 hj).1
      have hju : j < (us[i]'(by omega)).length := by rw [d3.1]; exact hjl
      have hcell := d2 j (by omega)
      rw [List.getElem?_eq_getElem hju] at hcell
      refine ⟨_, rfl, ?_, ?_⟩
      ·rw [List.getD_eq_getElem?_getD, List.getD_eq_getElem?_getD, hui]
       simp only [Option.getD_some, List.getElem?_eq_getElem hju]
       rw [addr_add, addr_add] at hcell
       exact hcell
      ·rw [List.getD_eq_getElem?_getD, List.getD_eq_getElem?_getD, hui]
       simp only [Option.getD_some, List.getElem?_eq_getElem hju]
       exact d3.2 j _ c (List.getElem?_eq_getElem hju) hj
     refine ⟨[.slice (P.cellsOf e) xs .no], RepWL.single (.slice (P.cellsOf e) b o len cap xs (fun i j => (us.getD i []).getD j undef) l1 hlc (by have := maxLen_le; omega) (fun x hx => ?_) (fun i j x c hx hj => ?_) (fun i j x c hx hj => ?_) (fun i j x c hx hj => ?_)), xs, rfl, by have h9 := hGG.1; simp only [List.length_map] at h9; omega, hty⟩
     ·obtain ⟨i, hi⟩ := List.getElem?_of_mem hx
      have hlt := (List.getElem?_eq_some_iff.1 hi).1
      exact (l3 i x (us[i]'(by omega)) hi (List.getElem?_eq_getElem (by omega))).1
     ·obtain ⟨v, rfl, h1, _⟩ := key i j x c hx hj; exact h1
     ·obtain ⟨v, rfl, _, h2⟩ := key i j x c hx hj; exact h2.one
     ·obtain ⟨v, rfl, _, h2⟩ := key i j x c hx hj; exact h2
  ·cases h
theorem arg_aggN (hB : Bulk H N G) {r : Reach} {b0 : Nat} {n : Nat} {t : TypeId} {v : Value} {d : DataW H} {ps : List MemPlace}
  (hag : isAggT P t = true) (hOp : openB P n t = true) (hv : Value.okWide P w r b0 t v) (h : DataW.Trod enc P w base spare held t v d ps) (hG : G d) : ∃ as, Rep (Mw w) [] v (.agg as) ∧ TyN P N n t as := by
 obtain ⟨cs, rfl⟩ := okV_is_agg hag hv
 obtain ⟨fuel, h⟩ := h
 obtain ⟨as, h1, h2⟩ := open_trodN hB n t hOp fuel _ _ h hG
 have e : (Value.agg cs).cells.toList = cs.toList := rfl
 rw [e] at h1
 refine ⟨as, ?_, h2⟩
 have := Rep.agg (M := Mw w) (ob := []) cs.toList as h1.1 (fun i v a hv ha => (h1.2 i v a hv ha).rep)
 simpa using this
end
open Go.RowKit Go.Sort
theorem mapO_owns (g : AVal → AVal) (x : AObj) : (mapO g x).owns = x.owns := by cases x <;> rfl
theorem alive_map {g : AVal → AVal} {ob : Hs} {obs : List AObj} {k b : Nat} (h : Alive ob (obs.map (mapO g)) k b) : Alive ob obs k b := by
 obtain ⟨c, hs, e1, e2, e3, e4⟩ := h
 rw [List.getElem?_map] at e1
 cases hc : obs[k]? with
 | none => rw [hc] at e1; cases e1
 | some x =>
  rw [hc] at e1
  cases e1
  exact ⟨x, hs, hc, by rw [← mapO_owns g]; exact e2, e3, e4⟩
theorem Mem.mapO {M : Imm} {ob : Hs} {obs : List AObj} {w : World} {g : AVal → AVal} (hg : ∀ (M : Imm) (ob : Hs) v a, Rep M ob v a → Rep M ob v (g a)) (h2 : Mem M ob obs w) : Mem M ob (obs.map (AW.mapO g)) w := by
 refine ⟨h2.imm, by simpa using h2.len, fun k c hk => ?_, fun k b ha => h2.lt k b (alive_map ha), fun i j b ha hb => h2.inj i j b (alive_map ha) (alive_map hb)⟩
 rw [List.getElem?_map] at hk
 cases hc : obs[k]? with
 | none => rw [hc] at hk; cases hk
 | some x =>
  rw [hc] at hk
  cases hk
  obtain ⟨hs, e1, e2⟩ := h2.obj k x hc
  refine ⟨hs, e1, ?_⟩
  cases x with
  | cells T cs =>
   obtain ⟨b, q1, q2, cv, q3, q4, q5, q6⟩ := e2
   refine ⟨b, q1, q2, cv, q3, by rw [mapL_eq]; simpa using q4, q5, fun i v a hv ha => ?_⟩
   rw [mapL_eq, List.getElem?_map] at ha
   cases hi : cs[i]? with
   | none => rw [hi] at ha; cases ha
   | some y => rw [hi] at ha; cases ha; exact hg _ _ _ _ (q6 i v y hv hi)
  | _ => exact e2
theorem Ext.mapO {M M' : Imm} {ob ob' : Hs} {obs0 obs : List AObj} {w w' : World} {g : AVal → AVal} (h1 : Ext M ob obs0 w M' ob' obs w') : Ext M ob obs0 w M' ob' (obs.map (AW.mapO g)) w' :=
 ⟨h1.imm, h1.new, h1.hs, h1.os, h1.tape, h1.output, h1.size, h1.keep, fun k b ha => h1.fresh k b (alive_map ha)⟩
theorem To.mapO {E : Env} {fn : Func} {g : Goal} {st : List KI} {fr : List (Nat × AVal)} {obs : List AObj} (f : AVal → AVal) (hf : ∀ (M : Imm) (ob : Hs) v a, Rep M ob v a → Rep M ob v (f a))
  (h : To E fn g (.code st fr (mapOL f obs))) : To E fn g (.code st fr obs) :=
 .mk fun hok M0 ob0 obs0 w0 a w hst hs => by
  rw [mapOL_eq] at h
  refine h.rec fun h => h hok M0 ob0 obs0 w0 a w hst ?_
  obtain ⟨M, ob, hx, hm, hfr, r1, r2, r3⟩ := hs
  exact ⟨M, ob, hx.mapO, hm.mapO hf, hfr, r1, r2, by simpa using r3⟩
theorem To.loose {E : Env} {fn : Func} {g : Goal} {st : List KI} {fr : List (Nat × AVal)} {obs : List AObj} (h : To E fn g (.code st fr (mapOL (strip 5) obs))) : To E fn g (.code st fr obs) :=
 h.mapO _ fun _ _ _ _ => strip_rep 5
end Go.AW
