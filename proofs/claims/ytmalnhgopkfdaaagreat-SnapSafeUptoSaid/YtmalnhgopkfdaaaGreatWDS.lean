/-
  The engine, second make, fourth part: ranges over functions, families of rows, regions whose order is drawn. Over any program.
-/
import Derived.Test.YtmalnhgopkfdaaaGreatWCS
set_option linter.all false
namespace Go.AW
open Go.RowKit
open Classical
def recI (l : Nat) (R : Loop) : BInv where
 inv _ bs w := bs = [l] ∧ w.heap[l]? = some (.loop R)
 mono := fun _ _ hb ⟨h1, h2⟩ => ⟨h1, hb _ _ (by rw [h1]; simp) h2⟩
theorem blkV_bun (bs : List Nat) : blkV (bunV bs) = bs := blk_bun (hs := [bunV bs]) rfl
theorem alive_bun {hs : List Value} {g : Nat} {I : BInv} {k b : Nat} : Alive [hs] [.bun g I] k b ↔ k = 0 ∧ b ∈ blk hs := by
 constructor
 ·rintro ⟨c, hs', e1, e2, e3, e4⟩
  cases k with
  | zero => simp at e3; subst e3; exact ⟨rfl, e4⟩
  | succ k => simp at e1
 ·rintro ⟨rfl, h⟩
  exact ⟨_, hs, rfl, rfl, rfl, h⟩
section
variable {M : Imm} {ob : Hs} {obs : List AObj} {w : World}
theorem Mem.recAt (h : Mem M ob obs w) {k l g : Nat} {R : Loop} (hx : obs[k]? = some (.bun g (recI l R))) : ∃ hs, ob[k]? = some hs ∧ hs.length = g + 1 ∧ hs[g]? = some (bunV [l]) ∧ blk hs = [l] ∧ w.heap[l]? = some (.loop R) := by
 obtain ⟨hs, hh, hl, bs, hv, hd, rfl, hR⟩ := h.obj k _ hx
 exact ⟨hs, hh, hl, hv, (blk_last hl hv).trans (blkV_bun _), hR⟩
theorem Mem.recTurn (h : Mem M ob obs w) {k l g : Nat} {R : Loop} (hx : obs[k]? = some (.bun g (recI l R))) (R' : Loop) :
  Mem M ob (obs.set k (.bun g (recI l R'))) (w.putObj l (.loop R')) ∧ Ext M ob obs w M ob (obs.set k (.bun g (recI l R'))) (w.putObj l (.loop R')) := by
 obtain ⟨hs, hh, hl, hv, hb, hR⟩ := h.recAt hx
 have hlt := getD_lt hR
 have := h.turn (M' := M) (w' := w.putObj l (.loop R')) (x' := .bun g (recI l R')) (hs' := hs) hx hh (List.prefix_refl _) (fun e => by cases e) (fun _ _ _ h => h) (fun _ _ _ h => .inl h) (fun c o y hy => by
   obtain ⟨u, hu, h4, h5⟩ := h.imm c o y hy
   have hne : c ≠ l := fun e => by subst e; unfold World.cell? at hu; dsimp only at hu; rw [hR] at hu; cases hu
   exact ⟨u, (World.cell?_of_block (w := w) (a := ⟨c, o, none⟩) (World.putObj_heap_other hne)).trans hu, h4, h5⟩)
  (fun c _ hn => World.putObj_heap_other fun e => hn ⟨rfl, by rw [hb, e]; simp⟩) rfl rfl rfl (by simp) (fun _ => ⟨hl, [l], hv, fun b hb => by
   rw [List.mem_singleton.1 hb]
   exact ⟨_, World.putObj_heap_same hlt, rfl⟩, rfl, World.putObj_heap_same hlt⟩)
  (fun _ c hc => ⟨.inl ⟨rfl, hc⟩, by
   rw [hb] at hc
   rw [List.mem_singleton.1 hc]
   simpa using hlt⟩)
 rw [set_self hh] at this
 exact ⟨this.1, this.2.1⟩
theorem Mem.drop (h : Mem M ob obs w) (k : Nat) : Mem M ob (obs.set k .dead) w ∧ ∀ {i b : Nat}, Alive ob (obs.set k .dead) i b → Alive ob obs i b := by
 have hw : Weak (obs.set k .dead) obs := ⟨by simp, fun i => by
  by_cases hi : i = k
  ·subst hi
   by_cases hl : i < obs.length
   ·exact .inr (List.getElem?_set_self hl)
   ·left; rw [List.getElem?_eq_none (by simp; omega), List.getElem?_eq_none (by omega)]
  ·exact .inl (List.getElem?_set_ne (Ne.symm hi))⟩
 exact ⟨h.weak hw, fun ha => hw.alive ha⟩
end
section
variable {E : Env} {fn : Func} {g : Goal}
theorem To.beginR {l k gg : Nat} {R : Loop} {ks : List KI} {fr : List (Nat × AVal)} {obs : List AObj} (hrd : E.rd = some l) (hk : oget obs k = .bun gg (recI l R)) (hR : R.state = .ready)
  (h : To E fn g (.code ks fr (oput obs k (.bun gg (recI l { R with state := .busy }))))) : To E fn g (.code (.beginR :: ks) fr obs) :=
 .mk fun hok M0 ob0 obs0 w0 a w hst hs => by
  obtain ⟨M, ob, hx, hm, hfr, r1, r2, r3⟩ := hs
  have hk' := oget_some hk (by simp)
  obtain ⟨m1, m2⟩ := hm.recTurn hk' { R with state := .busy }
  obtain ⟨_, _, _, _, _, hloop⟩ := hm.recAt hk'
  rw [oput_some hk'] at h
  have key := (h.rec (motive := fun _ => Goes E fn g _) fun h => h) (by simpa [stackOK, KI.ok] using hok) M0 ob0 obs0 w0 a _ hst ⟨M, ob, hx.trans m2, m1, hfr, r1, r2.ext hm m2, by simpa using r3⟩
  intro b cs hb
  obtain ⟨e, a', w', q, r⟩ := key b cs hb
  exact ⟨e, a', w', q, .of_steps (.one (fenced_fen _ _ _) (stepR_beginRound (hb.trans hrd) (run_beginRound hloop hR))) r⟩
end
def cliI (ob0 : Hs) (fr : List (Nat × AVal)) (R : Loop) (L : List AObj) : BInv where
 inv M bs w := ∃ ob, HsLe ob0 ob ∧ ob.length = L.length ∧ (∀ (k : Nat) c, L[k]? = some c → ∃ hs, ob[k]? = some hs ∧ ObjOK M ob w hs c) ∧ (∀ k k' b, Alive ob L k b → Alive ob L k' b → k = k') ∧
  (∀ b, b ∈ bs ↔ ∃ k, Alive ob L k b) ∧ ∀ t, Rep M ob (R.tmps.getD t undef) (getS fr t)
 mono := fun hM hn hb ⟨ob, h1, h2, h3, h4, h5, h6⟩ => ⟨ob, h1, h2, fun k c hc => by
  obtain ⟨hs, hh, hok⟩ := h3 k c hc
  exact ⟨hs, hh, hok.mono hM (HsLe.refl _) (fun b p1 p2 => hn b ((h5 b).2 ⟨k, (alive_of hc hh).2 ⟨p1, p2⟩⟩)) (fun b c' p1 p2 => hb b c' ((h5 b).2 ⟨k, (alive_of hc hh).2 ⟨p1, p2⟩⟩))⟩, h4, h5, fun t => (h6 t).monoM hM⟩
theorem Mem.unpack {M : Imm} {ob : Hs} {obs : List AObj} {w : World} {k g : Nat} {ob0 : Hs} {fr : List (Nat × AVal)} {R : Loop} {L : List AObj} (hm : Mem M ob obs w) (hk : obs[k]? = some (.bun g (cliI ob0 fr R L))) :
  ∃ hs obC, ob[k]? = some hs ∧ hs.length = g + 1 ∧ HsLe ob0 obC ∧ Mem M obC L w ∧ (∀ b, b ∈ blk hs ↔ ∃ k, Alive obC L k b) ∧ ∀ t, Rep M obC (R.tmps.getD t undef) (getS fr t) := by
 obtain ⟨hs, hh, hl, bs, hv, hd, obC, h1, h2, h3, h4, h5, h6⟩ := hm.obj k _ hk
 have hb : blk hs = bs := (blk_last hl hv).trans (blkV_bun _)
 refine ⟨hs, obC, hh, hl, h1, ⟨hm.imm, h2, h3, fun i b ha => ?_, h4⟩, fun b => by rw [hb]; exact h5 b, h6⟩
 obtain ⟨o, q, _⟩ := hd b ((h5 b).2 ⟨i, ha⟩)
 exact getD_lt q
theorem Mem.pack {M : Imm} {obC : Hs} {L : List AObj} {w : World} {ob0 : Hs} {fr : List (Nat × AVal)} {R : Loop} (hm : Mem M obC L w) (hle : HsLe ob0 obC) (hfr : ∀ t, Rep M obC (R.tmps.getD t undef) (getS fr t)) :
  ∃ bs, (∀ b, b ∈ bs ↔ ∃ k, Alive obC L k b) ∧ ∀ (ob : Hs) (hs : List Value), ObjOK M ob w (hs ++ [bunV bs]) (.bun hs.length (cliI ob0 fr R L)) := by
 let bs := (List.range w.heap.size).filter fun b => decide (∃ k, Alive obC L k b)
 have hbs : ∀ b, b ∈ bs ↔ ∃ k, Alive obC L k b := fun b => by
  simp only [bs, List.mem_filter, List.mem_range, decide_eq_true_eq]
  exact ⟨fun h => h.2, fun ⟨k, h⟩ => ⟨hm.lt k b h, k, h⟩⟩
 refine ⟨bs, hbs, fun ob hs => ⟨by simp, bs, by simp, fun b hb => ?_, obC, hle, hm.len, hm.obj, hm.inj, hbs, hfr⟩⟩
 obtain ⟨k, ha⟩ := (hbs b).1 hb
 exact hm.alive_heap ha
theorem blk_snoc (hs : List Value) (v : Value) : blk (hs ++ [v]) = blkV v := by unfold blk; simp
theorem rep_setP {M : Imm} {ob : Hs} {tmps : Array Value} {fr : List (Nat × AVal)} {p : Nat} {v : Value} {x : AVal} (h : ∀ t, Rep M ob (tmps.getD t undef) (getS fr t)) (hv : Rep M ob v x) (hp : p < tmps.size) :
  ∀ t, Rep M ob ((tmps.setIfInBounds p v).getD t undef) (getS (putS fr p x) t) := by
 intro t
 have := fr_put (a := { tmps := tmps, defers := [] }) (d := some p) h hv (fun d' e => by cases e; exact hp) t
 rw [show getS (putS fr p x) t = updG (getS fr) (some p) x t from congrFun (getS_putO fr (some p) x) t]
 exact this
def recE (R : Loop) (b : Bool) : Loop := if b then R else { R with state := .done, pending := some .ret }
theorem recE_true {R : Loop} (h1 : R.state = .ready) (h2 : R.pending = none) : ({ { R with state := .busy } with state := if (none : Option Code).isNone then .ready else .done, pending := none } : Loop) = recE R true := by
 obtain ⟨a, b, c, d, e, f, g, i⟩ := R
 have h1 : a = .ready := h1
 have h2 : b = none := h2
 subst h1 h2
 rfl
theorem yield_ok {E : Env} {fn : Func} {ob0 : Hs} {l k n p gg : Nat} {R : Loop} {as bd : Code} {fr : List (Nat × AVal)} {L L' : List AObj} {x : Int} {b : Bool} (hps : R.params = #[p]) (hrdy : R.state = .ready) (hpe : R.pending = none) (has : R.assign = as) (hbd : R.body = bd) (hsz : R.tmps.size = fn.ntmps)
  (hp : Nat.blt p fn.ntmps = true) (hdf : E.df = []) (hco : (codeOK fn.ntmps as && codeOK fn.ntmps bd) = true) (hk : oget L k = .bun gg (recI l R)) (hn : L.length = n) (hn' : L'.length = n) (hk' : oget L' k = .bun gg (recI l { R with state := .busy }))
  (h : inR .i64 x → To { E with rd := some l } fn (.keep n (.ret (.bool b)) L') (.code [.code as, .beginR, .code bd] (putS fr p (.int .i64 x)) L)) :
  CallOKF E.P (.yield l) [.int .i64 x] [.bun 0 (cliI ob0 fr R L)] (.ret (.bool b)) [.bun 1 (cliI ob0 fr R (L'.set k (.bun gg (recI l (recE R b)))))] := by
 intro M ob w vargs hm hr
 obtain ⟨hs, obC, hh, hl, hle, hmC, hal, hfr⟩ := hm.unpack (k := 0) rfl
 have hob : ob = [hs] := by
  have := hm.len
  match ob, this, hh with
  | [y], _, hh => simp at hh; rw [hh]
 subst hob
 obtain ⟨v, rfl⟩ : ∃ v, vargs = [v] := by
  have := hr.1
  match vargs, this with
  | [v], _ => exact ⟨v, rfl⟩
 have hv : Rep M [hs] v (.int .i64 x) := hr.2 0 v _ rfl rfl
 obtain ⟨rfl, hin⟩ := hv.int_inv
 obtain ⟨_, _, _, _, _, hloop⟩ := hmC.recAt (oget_some hk (by simp))
 have hpl : p < R.tmps.size := by rw [hsz]; simpa [Nat.blt_eq] using hp
 have hfold : (R.params.zip #[Value.int .i64 x]).foldl (fun tmps (t, a) => tmps.setIfInBounds t a) R.tmps = R.tmps.setIfInBounds p (.int .i64 x) := by rw [hps]; simp
 refine ⟨R.fn, R.tmps.setIfInBounds p (.int .i64 x), as, bd, ?_, trivial, fun c cs _ => ?_⟩
 ·have := run_yield (P := E.P) (args := #[Value.int .i64 x]) hloop (by rw [hps]; rfl)
  rw [hfold, has, hbd] at this
  exact this
 let b0 : Frame := { (default : Frame) with fn := R.fn, kind := .normal, roundOf := some l }
 let a0 : Act := { tmps := R.tmps.setIfInBounds p (.int .i64 x), defers := [] }
 have hb0 : Frame.round l R.fn (R.tmps.setIfInBounds p (.int .i64 x)) as bd .normal = b0.atR a0 (items [.code as, .beginR, .code bd]) := by
  simp [Frame.round, Frame.atR, b0, a0, items, KI.item]
 rw [hb0]
 have hst : Start (.keep n (.ret (.bool b)) L') obC := ⟨by rw [hmC.len]; exact hn, fun h => by cases h⟩
 have hok : stackOK fn.ntmps [.code as, .beginR, .code bd] = true := by
  simp only [stackOK, KI.ok, Bool.and_true, Bool.true_and]
  simpa using hco
 obtain ⟨h0⟩ := h hin
 obtain ⟨e, a', w', hq, harr⟩ := h0 hok M obC L w a0 w hst ⟨M, obC, Ext.refl _ _ _ _, hmC, rep_setP hfr (.int _ _ hin) hpl, by show (R.tmps.setIfInBounds p _).size = _; simpa using hsz, by show DsRep w w M obC [] E.df; rw [hdf]; exact .nil, by rw [hmC.len]; exact Nat.le_refl _⟩ b0 (c :: cs) rfl
 -- behind the body
 have fin : ∀ {bb : Bool} {w' : World} {st : LoopState} {jump : Option Code}, (jump.isNone = bb) → ({ { R with state := .busy } with state := if jump.isNone then .ready else .done, pending := jump } : Loop) = recE R bb → RR M obC L w (.keep n (.ret (.bool b)) L') (.returned (.bool bb)) w' →
   bb = b ∧ ∃ w4, (Instr.endRound l jump).run E.P w' = .ok (.bool bb) w4 ∧ ∃ M' ob', Ext M [hs] [.bun 0 (cliI ob0 fr R L)] w M' ob' [.bun 1 (cliI ob0 fr R (L'.set k (.bun gg (recI l (recE R b)))))] w4 ∧ Mem M' ob' [.bun 1 (cliI ob0 fr R (L'.set k (.bun gg (recI l (recE R b)))))] w4 := by
  intro bb w' st jump hj hR ⟨M', obC', x1, x2, x3⟩
  have e : bb = b := by
   have := Rep.bool_inv (M := M') (ob := obC') (b := b) x3
   simpa using this
  subst e
  refine ⟨rfl, ?_⟩
  have x2 : Mem M' obC' L' w' := x2
  have x1 : Ext M obC L w M' obC' L' w' := x1
  have hk2 := oget_some hk' (by simp)
  obtain ⟨_, _, _, _, _, hloop'⟩ := x2.recAt hk2
  obtain ⟨m1, m2⟩ := x2.recTurn hk2 (recE R bb)
  have hrun := run_endRound (P := E.P) jump hloop'
  rw [hR, hj] at hrun
  refine ⟨_, hrun, M', ?_⟩
  have X := x1.trans m2
  obtain ⟨bs, hbs, hpk⟩ := m1.pack (fr := fr) (R := R) (hle.trans X.hs) fun t => (hfr t).mono X.imm X.hs
  have hal' : ∀ {k b}, Alive [hs ++ [bunV bs]] [.bun 1 (cliI ob0 fr R (L'.set k (.bun gg (recI l (recE R bb)))))] k b → b ∈ bs := fun {k b} ha => by
   have := (alive_bun.1 ha).2
   rwa [blk_snoc, blkV_bun] at this
  have h1 : hs.length = 1 := hl
  refine ⟨[hs ++ [bunV bs]], ⟨X.imm, fun b o y hy => ?_, fun i hs' hi => ?_, X.os, X.tape, X.output, X.size, fun b hb hn => X.keep b hb fun i ha => hn 0 (alive_bun.2 ⟨rfl, (hal b).2 ⟨i, ha⟩⟩), fun i b ha => ?_⟩, ⟨m1.imm, rfl, fun i c hc => ?_, fun i b ha => ?_, fun i j b ha hb => ?_⟩⟩
  ·rcases X.new b o y hy with q | q | q
   ·exact .inl q
   ·exact .inr (.inl q)
   ·exact .inr (.inr ⟨0, alive_bun.2 ⟨rfl, (hal b).2 q⟩⟩)
  ·cases i with
   | zero => simp at hi; subst hi; exact ⟨_, rfl, ⟨_, rfl⟩⟩
   | succ i => simp at hi
  ·have hb : b ∈ bs := by
    have := (alive_bun.1 ha).2
    rwa [blk_snoc, blkV_bun] at this
   obtain ⟨j, hj⟩ := (hbs b).1 hb
   rcases X.fresh j b hj with q | q
   ·exact .inl ⟨0, alive_bun.2 ⟨rfl, (hal b).2 q⟩⟩
   ·exact .inr q
  ·cases i with
   | zero =>
    simp at hc
    subst hc
    refine ⟨_, rfl, ?_⟩
    have := hpk [hs ++ [bunV bs]] hs
    rwa [h1] at this
   | succ i => simp at hc
  ·have hb : b ∈ bs := by
    have := (alive_bun.1 ha).2
    rwa [blk_snoc, blkV_bun] at this
   obtain ⟨j, hj⟩ := (hbs b).1 hb
   exact m1.lt j b hj
  ·rw [(alive_bun.1 ha).1, (alive_bun.1 hb).1]
 cases e with
 | normal =>
  obtain ⟨rfl, w4, hrun, M', ob', x1, x2⟩ := fin (st := .ready) (jump := none) rfl (recE_true hrdy hpe) hq
  exact ⟨.returned (.bool true), w4, ⟨M', ob', x1, x2, .bool _⟩, StepsIn.trans harr (.one (fenced_fen _ _ _) (stepR_round_end rfl rfl hrun))⟩
 | ret =>
  obtain ⟨rfl, w4, hrun, M', ob', x1, x2⟩ := fin (st := .ready) (jump := some .ret) rfl rfl hq
  obtain ⟨k₁, hs'⟩ := harr.2 rfl
  exact ⟨.returned (.bool false), w4, ⟨M', ob', x1, x2, .bool _⟩, StepsIn.trans hs' (.one (fenced_fen _ _ _) (stepR_round_ret rfl rfl hrun))⟩
 | panic ch => exact hq.elim
 | exit id => exact hq.elim
 | goto t => exact hq.elim
 | outgrown => exact hq.elim
def rfIn : Code → Option (Code × Code)
 | .rangeFunc _ _ as bd => some (as, bd)
 | .seq a b => (match rfIn a with | some x => some x | none => rfIn b)
 | .cond _ a b => (match rfIn a with | some x => some x | none => rfIn b)
 | .block _ b => rfIn b
 | .loop b => rfIn b
 | _ => none
def rfA (fn : Func) : Code := match rfIn (bodyOf fn) with | some p => p.1 | none => .skip
def rfB (fn : Func) : Code := match rfIn (bodyOf fn) with | some p => p.2 | none => .skip
theorem KW.range {rd : Option Nat} {P : Program} {Q : Exit → Act → World → Prop} {ks : List KI} {a : Act} {w : World} {x : Operand} {ps : Array Tmp} {as bd : Code}
  (h : ∀ fn, ∃ (l : Nat) (mark : List Deferred) (w₁ : World) (d : Deferred) (f : FuncId) (args : Array Value),
   (Instr.enterLoop fn a.tmps ps as bd rd).run P w = .ok (l, mark) w₁ ∧ (resolve a.eval (rangeCall x l) 0).run P w₁ = .ok d w₁ ∧ (invoke d.target d.args).run P w₁ = .ok (.enter f args) w₁ ∧
   Calls P f args w₁ fun e w₃ => ∃ v, e = .returned v ∧ ∃ jump w₄, (Instr.endLoop l).run P w₃ = .ok jump w₄ ∧ KW rd P Q ((jump.map KI.code).toList ++ ks) { a with defers := mark ++ a.defers } w₄) :
  KW rd P Q (.code (.rangeFunc x ps as bd) :: ks) a w := by
 intro b cs hro
 obtain ⟨l, mark, w₁, d, f, args, he, hres, hinv, hcall⟩ := h b.fn
 rw [← hro] at he
 have henter := stepR_rangeFunc (P := P) (b := b) (a := a) (k := items ks) (cs := cs) (w := w) he hres hinv
 obtain ⟨e, w₃, fr, ⟨v, rfl, jump, w₄, hend, hk⟩, hsteps, hfn, hleave⟩ := hcall (b.atR { a with defers := mark ++ a.defers } (.inRangeFunc l :: items ks) :: cs)
 obtain ⟨e', a', w', q, r⟩ := hk b cs hro
 refine ⟨e', a', w', q, ?_⟩
 have hit : items ((jump.map KI.code).toList ++ ks) = (jump.map Item.code).toList ++ items ks := by cases jump <;> rfl
 rw [hit] at r
 have sback : Steps P (lone (b.atR a (.code (.rangeFunc x ps as bd) :: items ks)) cs w) (lone (b.atR { a with defers := mark ++ a.defers } ((jump.map Item.code).toList ++ items ks)) cs w₄) := by
  refine .head henter (Steps.trans hsteps (.head ?_ (.one (stepR_endRangeFunc hend))))
  rw [← finish_atR_inRangeFunc l v]; exact step_leave_returned hleave
 exact .of_steps ((StepsIn.of_steps sback).mono fun m _ => fenced_fen _ _ m) r
section
variable {M : Imm} {ob : Hs} {obs : List AObj} {w : World}
theorem Mem.layRec (hm : Mem M ob obs w) (R : Loop) :
  Mem M (ob ++ [[bunV [w.heap.size + 1]]]) (snocO obs (.bun 0 (recI (w.heap.size + 1) R))) ((w.alloc (.deferred (some []))).alloc (.loop R)) ∧
  Ext M ob obs w M (ob ++ [[bunV [w.heap.size + 1]]]) (snocO obs (.bun 0 (recI (w.heap.size + 1) R))) ((w.alloc (.deferred (some []))).alloc (.loop R)) := by
 rw [snocO_eq]
 have hm1 : Mem M ob obs (w.alloc (.deferred (some []))) := hm.same (by rw [alloc_size]; omega) fun b hb => heap_alloc_old w _ hb
 have hx1 : Ext M ob obs w M ob obs (w.alloc (.deferred (some []))) := ⟨fun _ _ _ h => h, fun _ _ _ h => .inl h, HsLe.refl _, rfl, rfl, rfl, by rw [alloc_size]; omega, fun b hb _ => heap_alloc_old w _ hb, fun k b ha => .inl ⟨k, ha⟩⟩
 obtain ⟨m1, m2, _⟩ := hm1.extend 1
 have h1 : (obs ++ List.replicate 1 AObj.dead)[obs.length]? = some .dead := by simp
 have h2 : (ob ++ List.replicate 1 ([] : List Value))[obs.length]? = some [] := by rw [← hm.len]; simp
 have hsz : (w.alloc (.deferred (some []))).heap.size = w.heap.size + 1 := alloc_size ..
 have t := m1.turn (M' := M) (w' := (w.alloc (.deferred (some []))).alloc (.loop R)) (x' := .bun 0 (recI (w.heap.size + 1) R)) (hs' := [bunV [w.heap.size + 1]]) h1 h2 ⟨_, rfl⟩ (fun _ => rfl) (fun _ _ _ h => h) (fun _ _ _ h => .inl h) (fun b o y hy => by
   obtain ⟨u, hu, h4, h5⟩ := m1.imm b o y hy
   exact ⟨u, (World.cell?_of_block (w := w.alloc (.deferred (some []))) (a := ⟨b, o, none⟩) (heap_alloc_old _ _ (World.block_lt_of_cell? _ _ hu))).trans hu, h4, h5⟩)
  (fun b hb _ => heap_alloc_old _ _ hb) rfl rfl rfl (by rw [alloc_size _ (Obj.loop R)]; omega) (fun _ => ⟨rfl, [w.heap.size + 1], rfl, fun b hb => by
   rw [List.mem_singleton.1 hb, ← hsz]
   exact ⟨_, heap_alloc_new _ _, rfl⟩, rfl, by rw [← hsz]; exact heap_alloc_new _ _⟩)
  (fun _ b hb => by
   have : blk [bunV [w.heap.size + 1]] = [w.heap.size + 1] := blkV_bun _
   rw [this] at hb
   rw [List.mem_singleton.1 hb, alloc_size _ (Obj.loop R), hsz]
   exact ⟨.inr (Nat.le_refl _), by omega⟩)
 have e1 : (ob ++ List.replicate 1 ([] : List Value)).set obs.length [bunV [w.heap.size + 1]] = ob ++ [[bunV [w.heap.size + 1]]] := by
  rw [← hm.len]; simp
 have e2 : (obs ++ List.replicate 1 AObj.dead).set obs.length (.bun 0 (recI (w.heap.size + 1) R)) = obs ++ [.bun 0 (recI (w.heap.size + 1) R)] := by simp
 rw [e1, e2] at t
 exact ⟨t.1, hx1.trans (m2.trans t.2.1)⟩
theorem weak_kill : ∀ (ks : List Nat) (obs : List AObj), (∀ k ∈ ks, k < obs.length) → Weak (kill ks obs) obs ∧ ∀ k ∈ ks, (kill ks obs)[k]? = some .dead
 | [], obs, _ => ⟨⟨rfl, fun _ => .inl rfl⟩, fun k h => by simp at h⟩
 | x :: r, obs, hlt => by
  have hx : x < obs.length := hlt x (by simp)
  have e : oput obs x .dead = obs.set x .dead := oput_set _ hx
  obtain ⟨⟨h1, h2⟩, h3⟩ := weak_kill r (oput obs x .dead) (fun k hk => by rw [e]; simpa using hlt k (by simp [hk]))
  have h2' : ∀ k : Nat, (kill (x :: r) obs)[k]? = obs[k]? ∨ (kill (x :: r) obs)[k]? = some AObj.dead := fun k => by
   rcases h2 k with q | q
   ·by_cases hk : k = x
    ·subst hk
     right
     show (kill r (oput obs k .dead))[k]? = _
     rw [q, e, List.getElem?_set_self hx]
    ·left
     show (kill r (oput obs x .dead))[k]? = _
     rw [q, e, List.getElem?_set_ne (Ne.symm hk)]
   ·exact .inr q
  refine ⟨⟨by show (kill r (oput obs x .dead)).length = _; rw [h1, e]; simp, h2'⟩, fun k hk => ?_⟩
  rcases List.mem_cons.1 hk with rfl | hk
  ·show (kill r (oput obs k AObj.dead))[k]? = some AObj.dead
   rcases h2 k with q | q
   ·rw [q, e, List.getElem?_set_self hx]
   ·exact q
  ·exact h3 k hk
theorem Mem.snoc {A : List AObj} {obA : Hs} {c : AObj} {hs : List Value} (hm : Mem M obA A w) (hc : ∀ ob, HsLe obA ob → ObjOK M ob w hs c) (hlt : ∀ b ∈ blk hs, b < w.heap.size) (hdis : ∀ k b, Alive obA A k b → b ∉ blk hs) :
  Mem M (obA ++ [hs]) (A ++ [c]) w ∧ ∀ k b, Alive (obA ++ [hs]) (A ++ [c]) k b → (k < A.length ∧ Alive obA A k b) ∨ (k = A.length ∧ b ∈ blk hs) := by
 have hle : HsLe obA (obA ++ [hs]) := fun j l hj => ⟨l, by rw [List.getElem?_append_left (List.getElem?_eq_some_iff.1 hj).1]; exact hj, List.prefix_refl _⟩
 have old : ∀ {j : Nat} {x : AObj}, (A ++ [c])[j]? = some x → (j < A.length ∧ A[j]? = some x ∧ (obA ++ [hs])[j]? = obA[j]?) ∨ (j = A.length ∧ x = c ∧ (obA ++ [hs])[j]? = some hs) := fun {j x} hj => by
  by_cases h : j < A.length
  ·rw [List.getElem?_append_left h] at hj
   exact .inl ⟨h, hj, List.getElem?_append_left (by rw [hm.len]; exact h)⟩
  ·have h2 : j = A.length := by have := (List.getElem?_eq_some_iff.1 hj).1; simp at this; omega
   subst h2
   rw [List.getElem?_append_right (by simp)] at hj
   simp at hj
   exact .inr ⟨rfl, hj.symm, by rw [← hm.len]; simp⟩
 have al : ∀ k b, Alive (obA ++ [hs]) (A ++ [c]) k b → (k < A.length ∧ Alive obA A k b) ∨ (k = A.length ∧ b ∈ blk hs) := by
  rintro k b ⟨x, l, e1, e2, e3, e4⟩
  rcases old e1 with ⟨h1, h2, h3⟩ | ⟨h1, h2, h3⟩
  ·rw [h3] at e3; exact .inl ⟨h1, x, l, h2, e2, e3, e4⟩
  ·rw [h3] at e3; cases e3; exact .inr ⟨h1, e4⟩
 refine ⟨⟨hm.imm, by simp [hm.len], fun k x hk => ?_, fun k b ha => ?_, fun i j b ha hb => ?_⟩, al⟩
 ·rcases old hk with ⟨h1, h2, h3⟩ | ⟨h1, rfl, h3⟩
  ·obtain ⟨l, q1, q2⟩ := hm.obj k x h2
   exact ⟨l, by rw [h3]; exact q1, q2.mono (fun _ _ _ h => h) hle (fun _ _ _ _ h => h) (fun _ _ _ _ h => h)⟩
  ·exact ⟨hs, h3, hc _ hle⟩
 ·rcases al k b ha with ⟨_, h⟩ | ⟨_, h⟩
  ·exact hm.lt k b h
  ·exact hlt b h
 ·rcases al i b ha with ⟨h1, h2⟩ | ⟨h1, h2⟩ <;> rcases al j b hb with ⟨h3, h4⟩ | ⟨h3, h4⟩
  ·exact hm.inj i j b h2 h4
  ·exact absurd h4 (hdis i b h2)
  ·exact absurd h2 (hdis j b h4)
  ·rw [h1, h3]
end
theorem CallOKF.bunTo {P : Program} {f : Fn} {args : List AVal} {obs : List AObj} {r : Res} {gg : Nat} {I I' : BInv} (h : CallOKF P f args obs r [.bun gg I])
  (hI : ∀ (M : Imm) (bs : List Nat) (w : World), (∀ b o x, M b o x → ∃ v, w.cell? ⟨b, o, none⟩ = some v ∧ v.oneCell' = true ∧ Rep M [] v x) → (∀ b, b ∈ bs → b < w.heap.size) → I.inv M bs w → I'.inv M bs w) : CallOKF P f args obs r [.bun gg I'] :=
 fun M ob w vargs hm hr => CallRunsF.mono (fun e w' ⟨M', ob', x1, x2, x3⟩ => by
  have al : ∀ {k b}, Alive ob' [.bun gg I'] k b → Alive ob' [.bun gg I] k b := fun {k b} ⟨c, hs, e1, e2, e3, e4⟩ => by
   cases k with
   | zero => exact ⟨_, hs, rfl, rfl, e3, e4⟩
   | succ k => simp at e1
  refine ⟨M', ob', ⟨x1.imm, x1.new, x1.hs, x1.os, x1.tape, x1.output, x1.size, x1.keep, fun k b ha => x1.fresh k b (al ha)⟩, ⟨x2.imm, x2.len, fun k c hc => ?_, fun k b ha => x2.lt k b (al ha), fun k k' b h1 h2 => x2.inj k k' b (al h1) (al h2)⟩, x3⟩
  cases k with
  | zero =>
   simp at hc
   subst hc
   obtain ⟨hs, h1, h2, bs, h3, h4, h5⟩ := x2.obj 0 _ rfl
   exact ⟨hs, h1, h2, bs, h3, h4, hI _ _ _ x2.imm (fun b hb => by obtain ⟨o, q, _⟩ := h4 b hb; exact getD_lt q) h5⟩
  | succ k => simp at hc) (h M ob w vargs hm hr)
theorem upto_get : ∀ (n j i : Nat), i < n → (upto j n)[i]? = some (j + i)
 | 0, _, _, h => by omega
 | n + 1, j, 0, _ => rfl
 | n + 1, j, i + 1, h => by
  show (upto (j + 1) n)[i]? = _
  rw [upto_get n (j + 1) i (by omega), show j + 1 + i = j + (i + 1) from by omega]
theorem cli_norm {ob0 : Hs} {fr : List (Nat × AVal)} {R : Loop} {L L' : List AObj} {n : Nat} (hn : L.length = n) (h1 : ∀ hs ∈ ob0, hs.length = 1) (hl : ob0.length ≤ n) (hk : ksOK (upto 0 n) L = true) (hfr : cvtF n (upto 0 n) (oget L) fr = fr) (hL : subO n (upto 0 n) L = L') :
  ∀ (M : Imm) (bs : List Nat) (w : World), (∀ b o x, M b o x → ∃ v, w.cell? ⟨b, o, none⟩ = some v ∧ v.oneCell' = true ∧ Rep M [] v x) → (∀ b, b ∈ bs → b < w.heap.size) → (cliI ob0 fr R L).inv M bs w → (cliI ob0 fr R L').inv M bs w := by
 rintro M bs w him hlt ⟨ob, q1, q2, q3, q4, q5, q6⟩
 subst hL
 have hm : Mem M ob L w := ⟨him, q2, q3, fun k b ha => hlt b ((q5 b).2 ⟨k, ha⟩), q4⟩
 obtain ⟨c1, c2, c3⟩ := hm.cvt (n0 := n) hk
 refine ⟨cutL n ob L 0 (upto 0 n), fun j hs hj => ?_, c1.len, c1.obj, c1.inj, fun b => (q5 b).trans ⟨fun ⟨k, ha⟩ => ?_, fun ⟨j, ha⟩ => ?_⟩, fun t => ?_⟩
 ·have hjl : j < n := Nat.lt_of_lt_of_le (List.getElem?_eq_some_iff.1 hj).1 hl
  obtain ⟨hs', e1, t, e2⟩ := q1 j hs hj
  have hone := h1 hs (List.mem_of_getElem? hj)
  refine ⟨cutH n j (oget L j) hs', ?_, ?_⟩
  ·rw [cutL_get, upto_get n 0 j hjl]
   simp [e1]
  ·unfold cutH
   split
   ·rw [← e2]
    have : (hs ++ t).take 1 = hs := by rw [List.take_append_of_le_length (by omega), List.take_of_length_le (by omega)]
    rw [this]
    exact ⟨_, rfl⟩
   ·exact ⟨t, e2⟩
 ·have hkl : k < n := by
   obtain ⟨c, _, e1, _⟩ := ha
   rw [← hn]
   exact (List.getElem?_eq_some_iff.1 e1).1
  exact ⟨k, c3 k k b (by rw [upto_get n 0 k hkl, Nat.zero_add]) ha⟩
 ·obtain ⟨k, _, h⟩ := c2 j b ha
  exact ⟨k, h⟩
 ·have := hm.cvtV (n0 := n) hk 5 _ _ (q6 t)
  rw [← getS_cvtF, hfr] at this
  exact this
structure RecOK (fn : Func) (p : Nat) (as bd : Code) (R : Loop) : Prop where
 params : R.params = #[p]
 ready : R.state = .ready
 pend : R.pending = none
 assign : R.assign = as
 body : R.body = bd
 size : R.tmps.size = fn.ntmps
theorem To.range {E : Env} {fn : Func} {g : Goal} {x : Operand} {p : Nat} {as bd : Code} {ks : List KI} {fr : List (Nat × AVal)} {obs : List AObj} {f : FuncId} {caps : List AVal} (ks1 : List Nat) (hrd : E.rd = none) (hdf : E.df = []) (hbo : BodyOK E.P f)
  (hx : ev fr x = .func (.func f) [] caps) (hk : ∀ l R, ksOK ks1 (snocO obs (.bun 0 (recI l R))) = true) (hlt : (ks1.all fun k => Nat.blt k (olen obs)) = true)
  (h : ∀ (l : Nat) (ob0 : Hs) (R : Loop), Start g ob0 → RecOK fn p as bd R → ∃ (L' : List AObj) (b : Bool) (r : AVal) (objs' : List AObj) (gg : Nat),
   CallOK E.P f (.func (.yield l) [] [] :: mapL (cvtV 0 ks1 (oget (snocO obs (.bun 0 (recI l R)))) 5) caps) (subO 0 ks1 (snocO obs (.bun 0 (recI l R))) ++ [.bun 0 (cliI ob0 fr R (kill ks1 (snocO obs (.bun 0 (recI l R)))))]) (.ret r) (objs' ++ [.bun gg (cliI ob0 fr R L')]) ∧
   oget L' (olen obs) = .bun 0 (recI l (recE R b)) ∧ objs'.length = ks1.length ∧ To E fn g (.code (if b then ks else .code .ret :: ks) fr (oput L' (olen obs) .dead))) :
  To E fn g (.code (.code (.rangeFunc x #[p] as bd) :: ks) fr obs) := by
 refine .mk fun hok M0 ob00 obs0 w0 a w hst hs => ?_
 obtain ⟨M, ob, hx0, hm, hfr, hsz, hds, hlen⟩ := hs
 rw [hrd]
 refine KW.range fun fid => ?_
 obtain ⟨l, hl⟩ : ∃ l, l = w.heap.size + 1 := ⟨_, rfl⟩
 obtain ⟨R, hR⟩ : ∃ R : Loop, R = { state := .ready, pending := none, fn := fid, tmps := a.tmps, params := #[p], assign := as, body := bd, defers := w.heap.size } := ⟨_, rfl⟩
 have hrec : RecOK fn p as bd R := by subst hR; exact ⟨rfl, rfl, rfl, rfl, rfl, hsz⟩
 have htm : R.tmps = a.tmps := by subst hR; rfl
 obtain ⟨w1, hw1⟩ : ∃ w1, w1 = (w.alloc (.deferred (some []))).alloc (.loop R) := ⟨_, rfl⟩
 obtain ⟨m1, x1⟩ := hm.layRec R
 rw [← hl, ← hw1] at m1 x1
 obtain ⟨ob1, hob1⟩ : ∃ ob1, ob1 = ob ++ [[bunV [l]]] := ⟨_, rfl⟩
 rw [← hob1] at m1 x1
 obtain ⟨L', b, r, objs', gg, hcall, hLk, hol, hto⟩ := h l ob00 R hst hrec
 generalize hobs1 : snocO obs (.bun 0 (recI l R)) = obs1 at *
 have hobs1l : obs1.length = obs.length + 1 := by rw [← hobs1, snocO_eq]; simp
 have hk1 : ksOK ks1 obs1 = true := by rw [← hobs1]; exact hk l R
 have hltk : ∀ k ∈ ks1, k < obs1.length := fun k hk => by
  have := List.all_eq_true.1 hlt k hk
  have : k < olen obs := by simpa [Nat.blt_eq] using this
  rw [olen_eq] at this
  omega
 obtain ⟨hwk, hdead⟩ := weak_kill ks1 obs1 hltk
 have mC := m1.weak hwk
 obtain ⟨c1, c2, c3⟩ := m1.cvt (n0 := 0) hk1
 have hfr1 : ∀ t, Rep M ob1 (R.tmps.getD t undef) (getS fr t) := fun t => by rw [htm]; exact (hfr t).mono x1.imm x1.hs
 obtain ⟨bs, hbs, hpk⟩ := mC.pack (hx0.hs.trans x1.hs) hfr1
 have hcl : (cutL 0 ob1 obs1 0 ks1).length = ks1.length := cutL_len
 have hsl : (subO 0 ks1 obs1).length = ks1.length := subO_len
 have hblk : blk ([] ++ [bunV bs]) = bs := by rw [blk_snoc, blkV_bun]
 obtain ⟨mI, aI⟩ := c1.snoc (c := .bun 0 (cliI ob00 fr R (kill ks1 obs1))) (hs := [] ++ [bunV bs]) (fun ob _ => hpk ob []) (fun b hb => by
   rw [hblk] at hb
   obtain ⟨j, hj⟩ := (hbs b).1 hb
   exact mC.lt j b hj) (fun j b ha hb => by
   rw [hblk] at hb
   obtain ⟨i, hi⟩ := (hbs b).1 hb
   obtain ⟨k, e1, e2⟩ := c2 j b ha
   have := m1.inj k i b e2 (hwk.alive hi)
   subst this
   obtain ⟨c, _, q1, q2, _⟩ := hi
   rw [hdead k (List.mem_of_getElem? e1)] at q1
   cases q1
   cases q2)
 -- the call
 have hev := ev_rep hfr x
 rw [hx] at hev
 obtain ⟨vcaps, hax, hcl1, hcr⟩ : ∃ vcaps : List Value, a.eval x = .func (.func f) #[] vcaps.toArray ∧ vcaps.length = caps.length ∧ ∀ (i : Nat) v y, vcaps[i]? = some v → caps[i]? = some y → Rep M ob v y := by
  generalize a.eval x = va at hev
  cases hev with
  | func _ vfs vcs _ _ hl1 hl2 hr1 hr2 =>
   have : vfs = [] := List.eq_nil_of_length_eq_zero (by simpa using hl1)
   subst this
   exact ⟨vcs, rfl, hl2, hr2⟩
 have hargs : RepL M (cutL 0 ob1 obs1 0 ks1 ++ [[] ++ [bunV bs]]) (.func (.yield l) #[] #[] :: vcaps) (.func (.yield l) [] [] :: mapL (cvtV 0 ks1 (oget obs1) 5) caps) := by
  have hle : HsLe (cutL 0 ob1 obs1 0 ks1) (cutL 0 ob1 obs1 0 ks1 ++ [[] ++ [bunV bs]]) := fun j l hj => ⟨l, by rw [List.getElem?_append_left (List.getElem?_eq_some_iff.1 hj).1]; exact hj, List.prefix_refl _⟩
  have h2 : RepL M (cutL 0 ob1 obs1 0 ks1) vcaps (mapL (cvtV 0 ks1 (oget obs1) 5) caps) := mapL_rep (fun v a hva => m1.cvtV (n0 := 0) hk1 5 v a (hva.mono x1.imm x1.hs)) hcl1 hcr
  refine RepL.cons (.func (.yield l) [] [] [] [] rfl rfl (fun i v a h => by simp at h) (fun i v a h => by simp at h)) ⟨h2.1, fun i v a hv ha => (h2.2 i v a hv ha).mono (fun _ _ _ h => h) hle⟩
 have hrun := hcall M _ w1 _ mI hargs
 have hcalls : Calls E.P f (Value.func (.yield l) #[] #[] :: vcaps).toArray w1 fun e w' => ∃ M' ob', Ext M (cutL 0 ob1 obs1 0 ks1 ++ [[] ++ [bunV bs]]) (subO 0 ks1 obs1 ++ [.bun 0 (cliI ob00 fr R (kill ks1 obs1))]) w1 M' ob' (objs' ++ [.bun gg (cliI ob00 fr R L')]) w' ∧ Mem M' ob' (objs' ++ [.bun gg (cliI ob00 fr R L')]) w' ∧ EndRep M' ob' e (.ret r) := by
  rcases hrun with ⟨_, q⟩ | ⟨u, w', q, _⟩
  ·exact q
  ·rw [hbo] at q; cases q
 have hent : (Instr.enterLoop fid a.tmps #[p] as bd none).run E.P w = .ok (l, [{ target := .collected w.heap.size, args := #[] }]) w1 := by
  rw [hl, hw1, hR]; exact run_enterLoop_outer ..
 refine ⟨l, [{ target := .collected w.heap.size, args := #[] }], w1, { target := .fn (.func f) vcaps.toArray, args := #[.func (.yield l) #[] #[]] }, f, _, hent, ?_, ?_, hcalls.mono fun e w3 ⟨M', obI, y1, y2, y3⟩ => ?_⟩
 ·have : resolve a.eval (rangeCall x l) 0 = Deferred.ofValue (a.eval x) #[.func (.yield l) #[] #[]] := by simp [resolve, rangeCall, Act.eval]
  rw [this, hax]
  rfl
 ·show (callFunc f (#[Value.func (.yield l) #[] #[]] ++ vcaps.toArray)).run E.P w1 = _
  rw [hbo]
  simp
 -- behind the call
 obtain ⟨v, rfl⟩ : ∃ v, e = .returned v := by
  cases e with
  | returned v => exact ⟨v, rfl⟩
  | panicked ch => exact y3.elim
  | outgrown => exact y3.elim
 refine ⟨v, rfl, ?_⟩
 have hbk : (objs' ++ [AObj.bun gg (cliI ob00 fr R L')])[objs'.length]? = some (.bun gg (cliI ob00 fr R L')) := by simp
 obtain ⟨hs', obC, hh', hl', hle', mC', hal', hfr'⟩ := y2.unpack hbk
 have hLk' := oget_some hLk (by simp)
 have hkl : olen obs = obs.length := olen_eq obs
 obtain ⟨_, _, _, _, _, hloop⟩ := mC'.recAt hLk'
 -- the client's memory, from the statement on
 have inI : ∀ {k b}, Alive (cutL 0 ob1 obs1 0 ks1 ++ [[] ++ [bunV bs]]) (subO 0 ks1 obs1 ++ [.bun 0 (cliI ob00 fr R (kill ks1 obs1))]) k b → ∃ k', Alive ob1 obs1 k' b := fun {k b} ha => by
  rcases aI k b ha with ⟨_, h⟩ | ⟨_, h⟩
  ·obtain ⟨k', _, h⟩ := c2 k b h; exact ⟨k', h⟩
  ·rw [hblk] at h
   obtain ⟨j, hj⟩ := (hbs b).1 h
   exact ⟨j, hwk.alive hj⟩
 have xnew : ∀ b o y, M' b o y → M b o y ∨ w1.heap.size ≤ b ∨ ∃ k, Alive ob1 obs1 k b := fun b o y hy => by
  rcases y1.new b o y hy with q | q | ⟨k, q⟩
  ·exact .inl q
  ·exact .inr (.inl q)
  ·exact .inr (.inr (inI q))
 have xkeep : ∀ b, b < w1.heap.size → (∀ k, ¬ Alive ob1 obs1 k b) → w3.heap[b]? = w1.heap[b]? := fun b hb hn => y1.keep b hb fun k ha => by
  obtain ⟨k', hk'⟩ := inI ha
  exact hn k' hk'
 have xfresh : ∀ k b, Alive obC L' k b → (∃ k', Alive ob1 obs1 k' b) ∨ w1.heap.size ≤ b := fun k b ha => by
  have hb : b ∈ blk hs' := (hal' b).2 ⟨k, ha⟩
  have : Alive obI (objs' ++ [AObj.bun gg (cliI ob00 fr R L')]) objs'.length b := ⟨_, hs', hbk, rfl, hh', hb⟩
  rcases y1.fresh _ b this with ⟨k', q⟩ | q
  ·exact .inl (inI q)
  ·exact .inr q
 have xx0 := hx0.trans x1
 -- from the function's start to here
 have X : Ext M0 ob00 obs0 w0 M' obC L' w3 := ⟨fun b o y h => y1.imm _ _ _ (xx0.imm _ _ _ h), fun b o y hy => by
   rcases xnew b o y hy with h1 | h1 | ⟨i, hi⟩
   ·exact xx0.new b o y h1
   ·exact .inr (.inl (Nat.le_trans xx0.size h1))
   ·rcases xx0.fresh i b hi with h2 | h2
    ·exact .inr (.inr h2)
    ·exact .inr (.inl h2), hle', y1.os.trans xx0.os, y1.tape.trans xx0.tape, y1.output.trans xx0.output, Nat.le_trans xx0.size y1.size, fun b hb ho => by
   rw [← xx0.keep b hb ho]
   refine xkeep b (Nat.lt_of_lt_of_le hb xx0.size) fun i hi => ?_
   rcases xx0.fresh i b hi with ⟨j, hj⟩ | h2
   ·exact ho j hj
   ·omega, fun i b hi => by
   rcases xfresh i b hi with ⟨j, hj⟩ | h1
   ·exact xx0.fresh j b hj
   ·exact .inr (Nat.le_trans xx0.size h1)⟩
 have hnb : (recE R b).state ≠ .busy := by
  unfold recE
  cases b with
  | true => rw [if_pos rfl, hrec.ready]; intro h; cases h
  | false => intro h; cases h
 have hend := run_endLoop (P := E.P) hloop hnb
 obtain ⟨t1, t2⟩ := mC'.recTurn hLk' { recE R b with state := .exhausted }
 obtain ⟨d1, d2⟩ := t1.drop (olen obs)
 have hfin : oput L' (olen obs) .dead = (L'.set (olen obs) (.bun 0 (recI l { recE R b with state := .exhausted }))).set (olen obs) .dead := by
  rw [oput_some hLk', List.set_set]
 rw [← hfin] at d1 d2
 have X2 : Ext M0 ob00 obs0 w0 M' obC (oput L' (olen obs) .dead) (w3.putObj l (.loop { recE R b with state := .exhausted })) := by
  have := X.trans t2
  exact ⟨this.imm, this.new, this.hs, this.os, this.tape, this.output, this.size, this.keep, fun k b ha => this.fresh k b (d2 ha)⟩
 refine ⟨(recE R b).pending, _, hend, ?_⟩
 obtain ⟨hto⟩ := hto
 have hds0 := hds
 rw [hdf] at hds
 -- the marks
 have hw1d : w1.heap[w.heap.size]? = some (.deferred (some [])) := by
  rw [hw1, heap_alloc_old _ _ (by rw [alloc_size]; omega)]
  exact heap_alloc_new w _
 have keepD : ∀ c : Nat, w1.heap[c]? = some (Obj.deferred (some [])) → (w3.putObj l (.loop { recE R b with state := .exhausted })).heap[c]? = some (Obj.deferred (some [])) := fun c hc => by
  have h3 : w3.heap[c]? = some (Obj.deferred (some [])) := by
   rw [xkeep c (getD_lt hc) fun k ha => by
    obtain ⟨o, q1, q2⟩ := m1.alive_heap ha
    rw [hc] at q1
    cases q1
    cases q2]
   exact hc
  rw [World.putObj_heap_other fun e => by subst e; rw [hloop] at h3; cases h3]
  exact h3
 have hmk : Mks w0 (w3.putObj l (.loop { recE R b with state := .exhausted })) ({ target := .collected w.heap.size, args := #[] } :: a.defers) := by
  refine ⟨⟨w.heap.size, rfl, hx0.size, keepD _ hw1d, fun d hd e => ?_⟩, hds.marks.same fun d _ c _ hc => keepD c ?_⟩
  ·have : ∀ {ds : List Deferred}, Mks w0 w ds → ∀ d ∈ ds, ∀ c, d.target = .collected c → c < w.heap.size := by
    intro ds
    induction ds with
    | nil => intro _ d hd; simp at hd
    | cons d0 ds ih =>
     rintro ⟨⟨b0, q1, q2, q3, q4⟩, q5⟩ d hd c hc
     rcases List.mem_cons.1 hd with rfl | hd
     ·rw [q1] at hc; cases hc; exact getD_lt q3
     ·exact ih q5 d hd c hc
   have := this hds.marks d hd _ e
   omega
  ·rw [hw1, heap_alloc_old _ _ (by rw [alloc_size]; have := getD_lt hc; omega), heap_alloc_old _ _ (getD_lt hc)]
   exact hc
 have hss : SS M0 ob00 obs0 w0 fn.ntmps E.df fr (oput L' (olen obs) .dead) { a with defers := [{ target := .collected w.heap.size, args := #[] }] ++ a.defers } (w3.putObj l (.loop { recE R b with state := .exhausted })) := by
  refine ⟨M', obC, X2, d1, fun t => ?_, hsz, ?_, ?_⟩
  ·have := hfr' t
   rw [htm] at this
   exact this
  ·rw [hdf]; exact ⟨[], _, rfl, .nil, hmk⟩
  ·have h1 := X2.lens
   have h2 := d1.len
   omega
 have hok2 : stackOK fn.ntmps (if b then ks else .code .ret :: ks) = true := by
  have : stackOK fn.ntmps ks = true := by
   simp only [stackOK, Bool.and_eq_true] at hok
   exact hok.2
  cases b with
  | true => exact this
  | false => simpa [stackOK, KI.ok, codeOK] using this
 have key := hto hok2 M0 ob00 obs0 w0 _ _ hst hss
 rw [hrd] at key
 have hjump : ((recE R b).pending.map KI.code).toList ++ ks = (if b then ks else .code .ret :: ks) := by
  unfold recE
  cases b with
  | true => rw [if_pos rfl, hrec.pend]; rfl
  | false => rfl
 rw [hjump]
 exact key
def nilT (sz : Nat) : AVal → AVal
 | .nilslice => .slice sz [] .nil
 | v => v
theorem nilT_rep (sz : Nat) (M : Imm) (ob : Hs) (v : Value) (a : AVal) (h : Rep M ob v a) : Rep M ob v (nilT sz a) := by
 unfold nilT
 split
 ·cases h; exact .slnil _ _ rfl
 ·exact h
theorem To.beginC {E : Env} {fn : Func} {g : Goal} {st : List KI} {fr : List (Nat × AVal)} {obs : List AObj} (k i : Nat) (e : TypeId) {T : TypeId} {cs : List AVal} {sz : Nat} (hk : oget obs k = .cells T cs) (hi : nth cs i = some (.slice sz [] .nil))
  (h : To E fn g (.code st fr (snocO (oput obs k (.cells T (setC cs i (.slice sz [] (.own (olen obs) 0))))) (.tail 0 sz e)))) : To E fn g (.code st fr obs) := by
 have h2 : To E fn g (.head st fr (snocO (oput obs k (.cells T (setC cs i (.slice sz [] (.own (olen obs) 0))))) (.tail 0 sz e))) := h.rec fun h => .mk h
 exact (To.begin k i e hk hi h2).rec fun h => .mk h
abbrev Hm := Option Addr × Nat × List AVal
def hmV (m : Hm) : Value := .slice m.1 m.2.2.length m.2.1
def hmA (m : Hm) : AVal := .hsl m.1 m.2.2.length m.2.1
theorem hm_rep (M : Imm) (ob : Hs) (m : Hm) : Rep M ob (hmV m) (hmA m) := .hsl _ _ _
def famI (sz : Nat) (e : TypeId) (ms : List Hm) : BInv where
 inv M bs w := (∀ (i : Nat) m, ms[i]? = some m → RowAt M w (hmV m) sz e m.2.2) ∧ (∀ (i j : Nat) m m' b, ms[i]? = some m → ms[j]? = some m' → (hmV m).ownBlock = some b → (hmV m').ownBlock = some b → i = j) ∧
  ∀ b, b ∈ bs ↔ ∃ (i : Nat) (m : Hm), ms[i]? = some m ∧ (hmV m).ownBlock = some b
 mono := fun hM hn hb ⟨h1, h2, h3⟩ => ⟨fun i m hm => (h1 i m hm).mono hM (fun b e ho o => hn b ((h3 b).2 ⟨i, m, hm, e⟩) o (ho o)) (fun b c e => hb b c ((h3 b).2 ⟨i, m, hm, e⟩)), h2, h3⟩
section
variable {M : Imm} {ob : Hs} {obs : List AObj} {w : World}
theorem RowAt.blockAt {v : Value} {sz : Nat} {e : TypeId} {xs : List AVal} (h : RowAt M w v sz e xs) {b : Nat} (hb : v.ownBlock = some b) : ∃ o, w.heap[b]? = some o ∧ isDefd o = false := by
 obtain ⟨cv, ⟨_, h2⟩, _⟩ := h
 rcases h2 with ⟨rfl, _⟩ | ⟨g, cap, cur, e1, _, e3, _⟩
 ·cases hb
 ·rw [e1] at hb; cases hb; exact ⟨_, e3, rfl⟩
theorem RowAt.nil (sz : Nat) (e : TypeId) : RowAt M w (.slice none 0 0) sz e [] :=
 ⟨[], World.ownsRow_nil w 0 e sz, fun u h => by simp at h, fun u h => by simp at h, fun q c h => by simp [cellAt] at h, fun b h => (by cases h), oneB_nil w⟩
theorem RowAt.append {P : Program} (hm : Mem M ob obs w) {t tx ty e : TypeId} {i : TypeInfo} {z : Value} (ht : P.underlying t = some (.slice e)) (hi : P.info? e = some i) (hz : i.zero = some z) (hz1 : z.cells.toList.all (·.oneCell') = true)
  (hzs : z.cells.size = i.size) (hpos : 0 < i.size) {xs ys : List AVal} {v x : Value} (hrow : RowAt M w v i.size e xs) (hs : SrcA P M w i.size tx x ys)
  (h63 : xs.length + ys.length ≤ maxLen) (hbytes : (xs.length + ys.length) * i.bytes ≤ 140737488355328) :
  ∃ v' w', (Builtin.append_ #[t, tx] ty #[v, x]).run P w = .ok v' w' ∧ RowAt M w' v' i.size e (xs ++ ys) ∧ w'.os = w.os ∧ w'.tape = w.tape ∧ w'.output = w.output ∧ w.heap.size ≤ w'.heap.size ∧
   (∀ b, v'.ownBlock = some b → v.ownBlock = some b ∨ w.heap.size ≤ b) ∧ ∀ b, b < w.heap.size → v.ownBlock ≠ some b → w'.heap[b]? = w.heap[b]? := by
 obtain ⟨cv, o1, o2, o3, o4, o5, o6⟩ := hrow
 obtain ⟨⟨news, s1, s2⟩, s3⟩ := hs
 obtain ⟨v', w', hr, hown', hos, htape, hout, hsize, hcase, honeb⟩ := run_append_any (P := P) w t tx ty e i z ht hi hz hz1 hzs v xs.length cv o1 o2 x ys.length news s1 h63 hbytes
 have hpick : ∀ b, v'.ownBlock = some b → v.ownBlock = some b ∨ w.heap.size ≤ b := fun b hb => by
  rcases hcase with ⟨q, _⟩ | ⟨q, _⟩
  ·exact .inl (q ▸ hb)
  ·rw [q] at hb; cases hb; exact .inr (Nat.le_refl _)
 refine ⟨v', w', hr, ⟨cv ++ news, by rw [List.length_append]; exact hown', fun u hu => ?_, fun y hy => ?_, fun q c hq => ?_, fun b hb o => ?_, honeb o6⟩, hos, htape, hout, hsize, hpick, fun b hlt hn => ?_⟩
 ·rcases List.mem_append.1 hu with hu | hu
  ·exact o2 u hu
  ·exact s1.one u hu
 ·rcases List.mem_append.1 hy with hy | hy
  ·exact o3 y hy
  ·exact s3 y hy
 ·by_cases hlt : q < xs.length * i.size
  ·rw [cellAt_app_left hpos hlt] at hq
   rw [List.getElem?_append_left (by rw [o1.1]; exact hlt)]
   exact o4 q c hq
  ·rw [cellAt_app_right hpos (by omega)] at hq
   rw [List.getElem?_append_right (by rw [o1.1]; omega), o1.1]
   exact s2 _ c hq
 ·rcases hpick b hb with q | q
  ·exact o5 b q o
  ·exact hm.noImm q o
 ·rcases hcase with ⟨_, q⟩ | ⟨_, q⟩
  ·exact q b hn
  ·exact q b hlt
theorem RowAt.hm {v : Value} {sz : Nat} {e : TypeId} {xs : List AVal} (h : RowAt M w v sz e xs) : ∃ a c, v = hmV (a, c, xs) := by
 obtain ⟨cv, o1, _⟩ := h
 rcases own_shape o1 with ⟨q, hn⟩ | ⟨b, cap, q, _⟩
 ·exact ⟨none, 0, by rw [q, hmV]; simp only [hn]⟩
 ·exact ⟨_, cap, q⟩
theorem Mem.famAppend {P : Program} (h : Mem M ob obs w) {t tx ty e : TypeId} {i : TypeInfo} {z : Value} (ht : P.underlying t = some (.slice e)) (hi : P.info? e = some i) (hz : i.zero = some z) (hz1 : z.cells.toList.all (·.oneCell') = true)
  (hzs : z.cells.size = i.size) (hpos : 0 < i.size) {k g j : Nat} {ms : List Hm} {m : Hm} {ys : List AVal} (hx : obs[k]? = some (.bun g (famI i.size e ms))) (hj : ms[j]? = some m) {x : Value} (hs : SrcA P M w i.size tx x ys)
  (h63 : m.2.2.length + ys.length ≤ maxLen) (hbytes : (m.2.2.length + ys.length) * i.bytes ≤ 140737488355328) :
  ∃ a c w' ob', (Builtin.append_ #[t, tx] ty #[hmV m, x]).run P w = .ok (hmV (a, c, m.2.2 ++ ys)) w' ∧ Mem M ob' (obs.set k (.bun (g + 1) (famI i.size e (ms.set j (a, c, m.2.2 ++ ys))))) w' ∧
   Ext M ob obs w M ob' (obs.set k (.bun (g + 1) (famI i.size e (ms.set j (a, c, m.2.2 ++ ys))))) w' := by
 obtain ⟨hs0, hh, hl, bs, hv, hd, h1, h2, h3⟩ := h.obj k _ hx
 have hb : blk hs0 = bs := (blk_last hl hv).trans (blkV_bun _)
 obtain ⟨v', w', hr, hrow, hos, htape, hout, hsize, hpick, hkeep⟩ := RowAt.append (P := P) (ty := ty) h ht hi hz hz1 hzs hpos (h1 j m hj) hs h63 hbytes
 obtain ⟨a, c, rfl⟩ := hrow.hm
 have hjl : j < ms.length := (List.getElem?_eq_some_iff.1 hj).1
 have get : ∀ {q : Nat} {m' : Hm}, (ms.set j (a, c, m.2.2 ++ ys))[q]? = some m' → (q = j ∧ m' = (a, c, m.2.2 ++ ys)) ∨ (q ≠ j ∧ ms[q]? = some m') := fun {q m'} hq => by
  by_cases hqj : q = j
  ·subst hqj; rw [List.getElem?_set_self hjl] at hq; cases hq; exact .inl ⟨rfl, rfl⟩
  ·rw [List.getElem?_set_ne (Ne.symm hqj)] at hq; exact .inr ⟨hqj, hq⟩
 have inb : ∀ {q : Nat} {m' : Hm} {b : Nat}, ms[q]? = some m' → (hmV m').ownBlock = some b → b ∈ bs ∧ b < w.heap.size := fun {q m' b} hq hb => by
  have := (h3 b).2 ⟨q, m', hq, hb⟩
  obtain ⟨o, ho, _⟩ := hd b this
  exact ⟨this, getD_lt ho⟩
 have rows : ∀ (q : Nat) m', (ms.set j (a, c, m.2.2 ++ ys))[q]? = some m' → RowAt M w' (hmV m') i.size e m'.2.2 := fun q m' hq => by
  rcases get hq with ⟨_, rfl⟩ | ⟨hne, hq⟩
  ·exact hrow
  ·refine (h1 q m' hq).mono (fun _ _ _ h => h) (fun _ _ h => h) fun b c' hb hc => ?_
   rw [hkeep b (inb hq hb).2 fun e => hne (h2 q j m' m b hq hj hb e)]
   exact hc
 let bs' := (ms.set j (a, c, m.2.2 ++ ys)).filterMap fun m => (hmV m).ownBlock
 have hbs' : ∀ b, b ∈ bs' ↔ ∃ (i : Nat) (m' : Hm), (ms.set j (a, c, m.2.2 ++ ys))[i]? = some m' ∧ (hmV m').ownBlock = some b := fun b => by
  simp only [bs', List.mem_filterMap]
  constructor
  ·rintro ⟨m', h4, h5⟩
   obtain ⟨q, hq⟩ := List.getElem?_of_mem h4
   exact ⟨q, m', hq, h5⟩
  ·rintro ⟨q, m', h4, h5⟩
   exact ⟨m', List.mem_of_getElem? h4, h5⟩
 have hno : ∀ {b o y}, M b o y → (hmV m).ownBlock ≠ some b := fun {b o y} hy e => by
  obtain ⟨_, _, _, _, _, o5, _⟩ := h1 j m hj
  exact o5 b e o y hy
 have main := h.turn (M' := M) (w' := w') (x' := .bun (g + 1) (famI i.size e (ms.set j (a, c, m.2.2 ++ ys)))) (hs' := hs0 ++ [bunV bs']) hx hh ⟨_, rfl⟩ (fun e => by cases e) (fun _ _ _ h => h) (fun _ _ _ h => .inl h) (fun b o y hy => by
   obtain ⟨u, hu, h4, h5⟩ := h.imm b o y hy
   have hlt : b < w.heap.size := by simpa using World.block_lt_of_cell? w _ hu
   exact ⟨u, (World.cell?_of_block (w := w) (a := ⟨b, o, none⟩) (hkeep b hlt (hno hy))).trans hu, h4, h5⟩)
  (fun b hlt hn => hkeep b hlt fun e => hn ⟨rfl, by rw [hb]; exact (inb hj e).1⟩) hos htape hout hsize
  (fun _ => ⟨by simp [hl], bs', by rw [← hl]; simp, fun b hb => by
   obtain ⟨q, m', hq, hb⟩ := (hbs' b).1 hb
   exact (rows q m' hq).blockAt hb, rows, fun q q' m1 m2 b hq hq' e1 e2 => by
   rcases get hq with ⟨r1, rfl⟩ | ⟨r1, hq⟩ <;> rcases get hq' with ⟨r2, rfl⟩ | ⟨r2, hq'⟩
   ·rw [r1, r2]
   ·rcases hpick b e1 with p | p
    ·exact absurd (h2 j q' m m2 b hj hq' p e2) (fun e => r2 e.symm)
    ·have := (inb hq' e2).2; omega
   ·rcases hpick b e2 with p | p
    ·exact absurd (h2 q j m1 m b hq hj e1 p) r1
    ·have := (inb hq e1).2; omega
   ·exact h2 q q' m1 m2 b hq hq' e1 e2, hbs'⟩)
  (fun _ b hb' => by
   rw [blk_snoc, blkV_bun] at hb'
   obtain ⟨q, m', hq, hb1⟩ := (hbs' b).1 hb'
   refine ⟨?_, by obtain ⟨o, ho, _⟩ := (rows q m' hq).blockAt hb1; exact getD_lt ho⟩
   rw [hb]
   rcases get hq with ⟨_, rfl⟩ | ⟨_, hq⟩
   ·rcases hpick b hb1 with p | p
    ·exact .inl ⟨rfl, (inb hj p).1⟩
    ·exact .inr p
   ·exact .inl ⟨rfl, (inb hq hb1).1⟩)
 exact ⟨a, c, w', _, hr, main.1, main.2.1⟩
end
section
variable {E : Env} {fn : Func} {g : Goal}
inductive HandA (E : Env) (fn : Func) (g : Goal) (all : List Oper) (tab : List Nat) (ks : List KI) (n : Nat) (d : Option Nat) (s x : Operand) (t t2 : TypeId) (l2 : List Oper) (fr : List (Nat × AVal)) (obs : List AObj) : Prop
 | mk (k gg j : Nat) (ms : List Hm) (m : Hm) (ys : List AVal) (e esz eb sz : Nat) (ag : Bool) (z : AVal) (hk : oget obs k = .bun gg (famI esz e ms)) (hj : ms[j]? = some m) (hs : ev fr s = hmA m) (hT : tget E.T t = some { kind := .slc e esz eb, size := sz, agg := ag, zero := z })
   (hp : Nat.ble 1 esz = true) (hx : srcE E (oget obs) esz t2 (ev fr x) = some ys) (hf : fits (m.2.2.length + ys.length) eb)
   (h : ∀ a c, To E fn g (.mid ⟨all, false, tab, ks⟩ (n + 1) l2 [] (putO fr d (hmA (a, c, m.2.2 ++ ys))) (oput obs k (.bun (gg + 1) (famI esz e (ms.set j (a, c, m.2.2 ++ ys)))))))
theorem hmA_inv {M : Imm} {ob : Hs} {v : Value} {m : Hm} (h : Rep M ob v (hmA m)) : v = hmV m := by cases h; rfl
theorem chain_then {rd : Option Nat} {ops : Array Oper} {M0 : Imm} {ob0 : Hs} {obs0 : List AObj} {w0 : World} {sz : Nat} {dfs : List (Nat × List AVal)} {Q : Exit → Act → World → Prop} {K : List (Nat × AVal) → List AObj → Prop} {Kp : (Nat → AVal) → AVal → List AObj → Prop} {rest : List Oper}
  (hE : EnvOK E) (hp : ∀ g v obs ch a w, Kp g v obs → PP M0 ob0 obs0 w0 sz dfs g v obs ch a w → Q (.panic ch) a w) (hq : ∀ fr obs a w, K fr obs → SS M0 ob0 obs0 w0 sz dfs fr obs a w → wpListIn (fen rd) 0 E.P ops Q rest a w) :
  ∀ (l : List Oper) (n : Nat) (fr : List (Nat × AVal)) (obs : List AObj) (a : Act) (w : World), (∀ p ∈ l, ∀ d, p.dst = some d → d < sz) → chain E ops.toList K Kp n l fr obs → SS M0 ob0 obs0 w0 sz dfs fr obs a w → wpListIn (fen rd) 0 E.P ops Q (l ++ rest) a w
 | [], n, fr, obs, a, w, _, h, hs => hq fr obs a w h hs
 | p :: l, n, fr, obs, a, w, hd, h, hs => by
  refine wk (seq_step (K := fun fr obs => chain E ops.toList K Kp (n + 1) l fr obs) (Kp := Kp) (hint := hintOf E p.dst) hE hs (hd p (by simp)) ?_ fun v obs ch w hk hpp => hp (getS fr) v obs ch a w hk hpp) fun a' w' ⟨fr', obs', hk, hs'⟩ => chain_then hE hp hq l (n + 1) fr' obs' a' w' (fun p hp => hd p (by simp [hp])) hk hs'
  simp only [chain] at h
  cases hw : wantedE ops.toList (ev fr) p.guard with
  | none => rw [hw] at h; exact h.elim
  | some b =>
   rw [hw] at h
   cases b with
   | false => exact h
   | true =>
    exact orF_mono (fun v o h => wrP_put h) h
theorem run_appendOp {P : Program} {s x : Operand} {t t2 : TypeId} {p : Oper} (hp : p.op = .call { callee := .builtin .append, args := #[s, x], argTypes := #[t, t2] }) {ρ : Operand → Value} {w w' : World} {v : Value}
  (h : (Builtin.append_ #[t, t2] p.type #[ρ s, ρ x]).run P w = .ok v w') : (execOp ρ p).run P w = .ok (.value v) w' := by
 obtain ⟨d, op, ty, pos, after, gd⟩ := p
 dsimp only at hp
 subst hp
 simp [execOp, resolve, invoke, builtin, h]
theorem To.handA (hE : EnvOK E) {id : Nat} {ops : Array Oper} {tab : List Nat} {ks : List KI} {fr : List (Nat × AVal)} {obs : List AObj} {l1 l2 : List Oper} {p : Oper} {s x : Operand} {t t2 : TypeId} (hops : ops.toList = l1 ++ p :: l2)
  (hp : p.op = .call { callee := .builtin .append, args := #[s, x], argTypes := #[t, t2] }) (hg : p.guard = none)
  (h : chain E ops.toList (HandA E fn g ops.toList tab ks l1.length p.dst s x t t2 l2) (endP E fn g) 0 l1 fr obs) : To E fn g (.code (.code (.region id ops false) :: ks) fr obs) :=
 .mk fun ho M0 ob0 obs0 w0 a w hst hs => by
  simp only [stackOK, KI.ok, codeOK, Bool.and_eq_true] at ho
  obtain ⟨⟨ho1, ho2⟩, ho3⟩ := ho
  have hd := dsts_spec ho1
  refine KW.code (Q' := QR E fn g M0 ob0 obs0 w0 ks) ?_ (fun a w h => h) (fun ch a w h => h) (fun e a w hh => by
   cases e <;> first | exact .inl rfl | exact .inr ⟨_, rfl⟩ | exact hh.elim)
  have hpp : ∀ gf v obs ch a w, endP E fn g gf v obs → PP M0 ob0 obs0 w0 fn.ntmps E.df gf v obs ch a w → Post E fn M0 ob0 obs0 w0 g (.panic ch) a w := fun gf v obs ch a w he hpp => go_endP he hst hpp
  have hq : ∀ fr obs a w, GoesC E fn g ks fr obs → SS M0 ob0 obs0 w0 fn.ntmps E.df fr obs a w → KW E.rd E.P (Post E fn M0 ob0 obs0 w0 g) ks a w := fun fr obs a w hk hs => hk ho3 M0 ob0 obs0 w0 a w hst hs
  refine wpIn_region_list ?_
  have main : ∀ fr obs a w, HandA E fn g ops.toList tab ks l1.length p.dst s x t t2 l2 fr obs → SS M0 ob0 obs0 w0 fn.ntmps E.df fr obs a w → wpListIn (fen E.rd) 0 E.P ops (QR E fn g M0 ob0 obs0 w0 ks) (p :: l2) a w := by
   rintro fr obs a w ⟨k, gg, j, ms, m, ys, e, esz, eb, sz, ag, z0, hk, hj, hs1, hT, hpos, hx1, hf, hth⟩ hs
   obtain ⟨M, ob, hx, hm, hfr, hsz, hdf, h0⟩ := hs
   obtain ⟨⟨hu, i, z, hi, hsi, heb, hz, hzs, hz1⟩, _⟩ := (hE.tab t _ hT).kind
   subst hsi heb
   have hpos := Nat.le_of_ble_eq_true hpos
   have hev := ev_rep (a := a) hfr
   have hsrc := srcE_s hE hm (hev x) hx1 hpos
   have hk' := oget_some hk (by simp)
   have hsv : a.eval s = hmV m := by
    have := hev s
    rw [hs1] at this
    exact hmA_inv this
   obtain ⟨a1, c1, w', ob', hrun, m1, m2⟩ := hm.famAppend (P := E.P) (ty := p.type) hu hi hz hz1 hzs hpos hk' hj hsrc hf.1 hf.2
   have hop : OpRuns E.P p a.eval w (fun e w2 => e = .returned (hmV (a1, c1, m.2.2 ++ ys)) ∧ w2 = w') := .inl ⟨_, _, run_appendOp hp (by rw [hsv]; exact hrun), rfl, rfl⟩
   refine wk (next := fun a w => SS M0 ob0 obs0 w0 fn.ntmps E.df (putO fr p.dst (hmA (a1, c1, m.2.2 ++ ys))) (oput obs k (.bun (gg + 1) (famI i.size e (ms.set j (a1, c1, m.2.2 ++ ys))))) a w) ?_ fun a w hs => ?_
   ·unfold G
    rw [if_pos (by simp [Region.wanted, hg])]
    refine hop.wpIn (by intro c; rw [hp]; simp) (fun v w2 ⟨e1, e2⟩ => ?_) (fun ch w2 ⟨e1, _⟩ => by cases e1)
    cases e1
    subst e2
    rw [oput_some hk']
    have := m2.lens
    have := m1.len
    refine ⟨M, ob', hx.trans m2, m1, ?_, (put_size _ _ _).1.trans hsz, (hdf.ext hm m2).put, by have h1 := hm.len; omega⟩
    rw [getS_putO]
    exact fr_put (fun t => (hfr t).mono m2.imm m2.hs) (hm_rep M ob' (a1, c1, m.2.2 ++ ys)) fun d' e => hsz ▸ hd p (by rw [hops]; simp) d' e
   ·obtain ⟨hth⟩ := hth a1 c1
    exact chain_sound (rd := E.rd) (Q := QR E fn g M0 ob0 obs0 w0 ks) (K := GoesC E fn g ks) (Kp := endP E fn g) hE (fun gf v obs ch a w h1 h2 => hpp gf v obs ch a w h1 h2) (fun fr obs a w h1 h2 => hq fr obs a w h1 h2) l2 (l1.length + 1) _ _ a w (fun p hp => hd p (by rw [hops]; simp [hp])) hth hs
  rw [hops]
  exact chain_then (rd := E.rd) (Q := QR E fn g M0 ob0 obs0 w0 ks) (Kp := endP E fn g) hE (fun gf v obs ch a w h1 h2 => hpp gf v obs ch a w h1 h2) main l1 0 fr obs a w (fun p hp => hd p (by rw [hops]; simp [hp])) h hs
theorem To.objTo {st : List KI} {fr : List (Nat × AVal)} {obs : List AObj} (k : Nat) {x x' : AObj} (hk : oget obs k = x) (hx : x ≠ .dead) (how : x.owns = true) (ho : ∀ M ob w hs, (∀ b, b ∈ blk hs → b < w.heap.size) → ObjOK M ob w hs x → ObjOK M ob w hs x')
  (h : To E fn g (.code st fr (oput obs k x'))) : To E fn g (.code st fr obs) :=
 .mk fun hok M0 ob0 obs0 w0 a w hst hs => by
  obtain ⟨M, ob, hxx, hm, hfr, r1, r2, r3⟩ := hs
  have hk' := oget_some hk hx
  refine h.rec fun h => h hok M0 ob0 obs0 w0 a w hst ?_
  rw [oput_some hk']
  have hlt := (List.getElem?_eq_some_iff.1 hk').1
  have al : ∀ {i b}, Alive ob (obs.set k x') i b → Alive ob obs i b := fun {i b} ⟨c, hs, e1, e2, e3, e4⟩ => by
   by_cases hi : i = k
   ·subst hi; exact ⟨x, hs, hk', how, e3, e4⟩
   ·rw [List.getElem?_set_ne (Ne.symm hi)] at e1; exact ⟨c, hs, e1, e2, e3, e4⟩
  refine ⟨M, ob, ⟨hxx.imm, hxx.new, hxx.hs, hxx.os, hxx.tape, hxx.output, hxx.size, hxx.keep, fun i b ha => hxx.fresh i b (al ha)⟩, ⟨hm.imm, by simpa using hm.len, fun i c hc => ?_, fun i b ha => hm.lt i b (al ha), fun i j b h1 h2 => hm.inj i j b (al h1) (al h2)⟩, hfr, r1, r2, by simpa using r3⟩
  by_cases hi : i = k
  ·subst hi
   rw [List.getElem?_set_self hlt] at hc
   cases hc
   obtain ⟨hs, h1, h2⟩ := hm.obj i x hk'
   exact ⟨hs, h1, ho _ _ _ _ (fun b hb => hm.lt i b ⟨x, hs, hk', how, h1, hb⟩) h2⟩
  ·rw [List.getElem?_set_ne (Ne.symm hi)] at hc
   exact hm.obj i c hc
theorem To.beginF {st : List KI} {fr : List (Nat × AVal)} {obs : List AObj} (sz : Nat) (e : TypeId) (h : To E fn g (.code st fr (snocO obs (.bun 0 (famI sz e []))))) : To E fn g (.code st fr obs) :=
 .mk fun hok M0 ob0 obs0 w0 a w hst hs => by
  obtain ⟨M, ob, hxx, hm, hfr, r1, r2, r3⟩ := hs
  refine h.rec fun h => h hok M0 ob0 obs0 w0 a w hst ?_
  rw [snocO_eq]
  have hb : blk [bunV []] = [] := blkV_bun _
  obtain ⟨m1, m2⟩ := hm.snoc (c := .bun 0 (famI sz e [])) (hs := [bunV []]) (fun ob _ => ⟨rfl, [], rfl, fun b hb => by simp at hb, fun i m h => by simp at h, fun i j m m' b h => by simp at h, fun b => ⟨fun h => by simp at h, fun ⟨i, m, h, _⟩ => by simp at h⟩⟩) (fun b h => by rw [hb] at h; simp at h) (fun k b _ => by rw [hb]; simp)
  have hle : HsLe ob (ob ++ [[bunV []]]) := fun j l hj => ⟨l, by rw [List.getElem?_append_left (List.getElem?_eq_some_iff.1 hj).1]; exact hj, List.prefix_refl _⟩
  have hx1 : Ext M ob obs w M (ob ++ [[bunV []]]) (obs ++ [.bun 0 (famI sz e [])]) w := ⟨fun _ _ _ h => h, fun _ _ _ h => .inl h, hle, rfl, rfl, rfl, Nat.le_refl _, fun _ _ _ => rfl, fun k b ha => by
   rcases m2 k b ha with ⟨_, q⟩ | ⟨_, q⟩
   ·exact .inl ⟨k, q⟩
   ·rw [hb] at q; simp at q⟩
  exact ⟨M, _, hxx.trans hx1, m1, fun t => (hfr t).mono (fun _ _ _ h => h) hle, r1, r2.ext hm hx1, by simp; omega⟩
theorem fam_nil {M : Imm} {ob : Hs} {w : World} {hs : List Value} {gg sz : Nat} {e : TypeId} {ms : List Hm} (h : ObjOK M ob w hs (.bun gg (famI sz e ms))) : ObjOK M ob w hs (.bun gg (famI sz e (ms ++ [(none, 0, [])]))) := by
 obtain ⟨h1, bs, h2, h3, i1, i2, i3⟩ := h
 have get : ∀ {i : Nat} {m : Hm}, (ms ++ [((none, 0, []) : Hm)])[i]? = some m → ms[i]? = some m ∨ (i = ms.length ∧ m = (none, 0, [])) := fun {i m} hi => by
  by_cases hl : i < ms.length
  ·rw [List.getElem?_append_left hl] at hi; exact .inl hi
  ·have h2 : i = ms.length := by have := (List.getElem?_eq_some_iff.1 hi).1; simp at this; omega
   subst h2
   rw [List.getElem?_append_right (by simp)] at hi
   simp at hi
   exact .inr ⟨rfl, hi.symm⟩
 refine ⟨h1, bs, h2, h3, fun i m hi => ?_, fun i j m m' b hi hj e1 e2 => ?_, fun b => ⟨fun hb => ?_, fun ⟨i, m, hi, e1⟩ => ?_⟩⟩
 ·rcases get hi with hi | ⟨_, rfl⟩
  ·exact i1 i m hi
  ·exact RowAt.nil sz e
 ·rcases get hi with hi | ⟨_, rfl⟩
  ·rcases get hj with hj | ⟨_, rfl⟩
   ·exact i2 i j m m' b hi hj e1 e2
   ·cases e2
  ·cases e1
 ·obtain ⟨i, m, hi, e1⟩ := (i3 b).1 hb
  exact ⟨i, m, by rw [List.getElem?_append_left (List.getElem?_eq_some_iff.1 hi).1]; exact hi, e1⟩
 ·rcases get hi with hi | ⟨_, rfl⟩
  ·exact (i3 b).2 ⟨i, m, hi, e1⟩
  ·cases e1
theorem row_nil {M : Imm} {ob : Hs} {w : World} {hs : List Value} {gg : Nat} {e : TypeId} {ms : List Hm} (h : ObjOK M ob w hs (.row gg 1 e (ms.map hmA ++ [.nilslice]))) : ObjOK M ob w hs (.row gg 1 e ((ms ++ [(none, 0, [])]).map hmA)) := by
 obtain ⟨h1, v, h2, cv, r1, r2, r3, r4, r5, r6⟩ := h
 refine ⟨h1, v, h2, cv, by simpa using r1, r2, fun x hx => ?_, fun q c hc => ?_, r5, r6⟩
 ·simp only [List.mem_map] at hx
  obtain ⟨m, _, rfl⟩ := hx
  rfl
 ·have one : ∀ {l : List AVal} {q : Nat} {c : AVal}, (∀ x ∈ l, x.cells = [x]) → (cellAt 1 l q = some c ↔ l[q]? = some c) := fun {l q c} hl => by
   unfold cellAt
   rw [Nat.div_one, Nat.mod_one]
   cases hq : l[q]? with
   | none => simp
   | some x => simp [hl x (List.mem_of_getElem? hq)]
  have hc1 := (one (fun x hx => by simp only [List.mem_map] at hx; obtain ⟨m, _, rfl⟩ := hx; rfl)).1 hc
  rw [List.map_append] at hc1
  by_cases hl : q < ms.length
  ·rw [List.getElem?_append_left (by simpa using hl)] at hc1
   exact r4 q c ((one (fun x hx => by
    simp only [List.mem_append, List.mem_map, List.mem_singleton] at hx
    rcases hx with ⟨m, _, rfl⟩ | rfl <;> rfl)).2 (by rw [List.getElem?_append_left (by simpa using hl)]; exact hc1))
  ·have hq : q = ms.length := by have := (List.getElem?_eq_some_iff.1 hc1).1; simp at this; omega
   subst hq
   rw [List.getElem?_append_right (by simp)] at hc1
   simp at hc1
   obtain ⟨u, hu, hr⟩ := r4 ms.length .nilslice ((one (fun x hx => by
    simp only [List.mem_append, List.mem_map, List.mem_singleton] at hx
    rcases hx with ⟨m, _, rfl⟩ | rfl <;> rfl)).2 (by rw [List.getElem?_append_right (by simp)]; simp))
   refine ⟨u, hu, ?_⟩
   subst hc1
   cases hr
   exact .hsl _ _ _
end
section
variable {M : Imm} {ob : Hs} {obs : List AObj} {w : World}
theorem Mem.famFreeze (h : Mem M ob obs w) {k gg sz : Nat} {e : TypeId} {ms : List Hm} (hx : obs[k]? = some (.bun gg (famI sz e ms))) :
  ∃ M' ob', Mem M' ob' (obs.set k (.bun (gg + 1) (famI sz e []))) w ∧ Ext M ob obs w M' ob' (obs.set k (.bun (gg + 1) (famI sz e []))) w ∧ ∀ (i : Nat) m, ms[i]? = some m → Rep M' [] (hmV m) (.slice sz m.2.2 .no) := by
 obtain ⟨hs0, hh, hl, bs, hv, hd, h1, h2, h3⟩ := h.obj k _ hx
 have hb : blk hs0 = bs := (blk_last hl hv).trans (blkV_bun _)
 let M' : Imm := fun b o y => M b o y ∨ ∃ (i : Nat) (m : Hm), ms[i]? = some m ∧ (hmV m).ownBlock = some b ∧ cellAt sz m.2.2 o = some y
 have hM : ∀ b o y, M b o y → M' b o y := fun _ _ _ h => .inl h
 have main := h.turn (M' := M') (w' := w) (x' := .bun (gg + 1) (famI sz e [])) (hs' := hs0 ++ [bunV []]) hx hh ⟨_, rfl⟩ (fun e => by cases e) hM (fun b o y hy => by
   rcases hy with hy | ⟨i, m, h4, h5, _⟩
   ·exact .inl hy
   ·exact .inr (.inl ⟨rfl, by rw [hb]; exact (h3 b).2 ⟨i, m, h4, h5⟩⟩)) (fun b o y hy => by
   rcases hy with hy | ⟨i, m, h4, h5, h6⟩
   ·obtain ⟨u, q1, q2, q3⟩ := h.imm b o y hy
    exact ⟨u, q1, q2, q3.monoM hM⟩
   ·obtain ⟨cv, o1, o2, o3, o4, _⟩ := h1 i m h4
    obtain ⟨u, hu, hr⟩ := o4 o y h6
    exact ⟨u, own_cells o1 h5 hu, o2 u (List.mem_of_getElem? hu), hr.monoM hM⟩) (fun _ _ _ => rfl) rfl rfl rfl (Nat.le_refl _)
  (fun _ => ⟨by simp [hl], [], by rw [← hl]; simp, fun b hb => by simp at hb, fun i m h => by simp at h, fun i j m m' b h => by simp at h, fun b => ⟨fun h => by simp at h, fun ⟨i, m, h, _⟩ => by simp at h⟩⟩)
  (fun _ b hb' => by
   rw [blk_snoc, blkV_bun] at hb'
   simp at hb')
 refine ⟨M', _, main.1, main.2.1, fun i m hm => ?_⟩
 obtain ⟨cv, o1, o2, o3, o4, _⟩ := h1 i m hm
 exact (rep_withRow (M := M) (ob := []) o1 o3 (t := .no) trivial).monoM fun b o y hy => by
  rcases hy with hy | ⟨h5, h6⟩
  ·exact .inl hy
  ·exact .inr ⟨i, m, hm, h5, h6⟩
theorem Mem.objTo (hm : Mem M ob obs w) {k : Nat} {x x' : AObj} (hk' : obs[k]? = some x) (how : x.owns = true) (ho : ∀ hs, ob[k]? = some hs → ObjOK M ob w hs x → ObjOK M ob w hs x') : Mem M ob (obs.set k x') w ∧ Ext M ob obs w M ob (obs.set k x') w := by
 have hlt := (List.getElem?_eq_some_iff.1 hk').1
 have al : ∀ {i b}, Alive ob (obs.set k x') i b → Alive ob obs i b := fun {i b} ⟨c, hs, e1, e2, e3, e4⟩ => by
  by_cases hi : i = k
  ·subst hi; exact ⟨x, hs, hk', how, e3, e4⟩
  ·rw [List.getElem?_set_ne (Ne.symm hi)] at e1; exact ⟨c, hs, e1, e2, e3, e4⟩
 refine ⟨⟨hm.imm, by simpa using hm.len, fun i c hc => ?_, fun i b ha => hm.lt i b (al ha), fun i j b h1 h2 => hm.inj i j b (al h1) (al h2)⟩, ⟨fun _ _ _ h => h, fun _ _ _ h => .inl h, HsLe.refl _, rfl, rfl, rfl, Nat.le_refl _, fun _ _ _ => rfl, fun i b ha => .inl ⟨i, al ha⟩⟩⟩
 by_cases hi : i = k
 ·subst hi
  rw [List.getElem?_set_self hlt] at hc
  cases hc
  obtain ⟨hs, h1, h2⟩ := hm.obj i x hk'
  exact ⟨hs, h1, ho _ h1 h2⟩
 ·rw [List.getElem?_set_ne (Ne.symm hi)] at hc
  exact hm.obj i c hc
end
theorem cellAt_one {l : List AVal} {q : Nat} {c : AVal} (hl : ∀ x ∈ l, x.cells = [x]) : cellAt 1 l q = some c ↔ l[q]? = some c := by
 unfold cellAt
 rw [Nat.div_one, Nat.mod_one]
 cases hq : l[q]? with
 | none => simp
 | some x => simp [hl x (List.mem_of_getElem? hq)]
theorem To.famFrz {E : Env} {fn : Func} {g : Goal} {st : List KI} {fr : List (Nat × AVal)} {obs : List AObj} (k k2 : Nat) {gg g2 sz : Nat} {e e2 : TypeId} {ms : List Hm} (hk : oget obs k = .bun gg (famI sz e ms)) (hk2 : oget obs k2 = .row g2 1 e2 (ms.map hmA))
  (h : To E fn g (.code st fr (oput (oput obs k (.bun (gg + 1) (famI sz e []))) k2 (.row g2 1 e2 (ms.map fun m => .slice sz m.2.2 .no))))) : To E fn g (.code st fr obs) :=
 .mk fun hok M0 ob0 obs0 w0 a w hst hs => by
  obtain ⟨M, ob, hxx, hm, hfr, r1, r2, r3⟩ := hs
  have hk' := oget_some hk (by simp)
  have hk2' := oget_some hk2 (by simp)
  have hne : k ≠ k2 := fun e => by rw [e, hk2'] at hk'; cases hk'
  refine h.rec fun h => h hok M0 ob0 obs0 w0 a w hst ?_
  rw [oput_some hk']
  have hk3 : (obs.set k (.bun (gg + 1) (famI sz e [])))[k2]? = some (.row g2 1 e2 (ms.map hmA)) := by rw [List.getElem?_set_ne hne]; exact hk2'
  rw [oput_some hk3]
  obtain ⟨M', ob', m1, m2, m3⟩ := hm.famFreeze hk'
  obtain ⟨m4, m5⟩ := m1.objTo (x' := .row g2 1 e2 (ms.map fun m => .slice sz m.2.2 .no)) hk3 rfl fun hs _ ⟨h1, v, h2, cv, s1, s2, s3, s4, s5, s6⟩ => by
   refine ⟨h1, v, h2, cv, by simpa using s1, s2, fun x hx => ?_, fun q c hc => ?_, s5, s6⟩
   ·simp only [List.mem_map] at hx
    obtain ⟨m, _, rfl⟩ := hx
    rfl
   ·have hc1 := (cellAt_one (fun x hx => by simp only [List.mem_map] at hx; obtain ⟨m, _, rfl⟩ := hx; rfl)).1 hc
    rw [List.getElem?_map] at hc1
    obtain ⟨m, hm1, rfl⟩ := Option.map_eq_some_iff.1 hc1
    obtain ⟨u, hu, hr⟩ := s4 q (hmA m) ((cellAt_one (fun x hx => by simp only [List.mem_map] at hx; obtain ⟨m, _, rfl⟩ := hx; rfl)).2 (by rw [List.getElem?_map, hm1]; rfl))
    exact ⟨u, hu, by rw [hmA_inv hr]; exact m3 q m hm1⟩
  have X := m2.trans m5
  have := X.lens
  have := m4.len
  exact ⟨M', ob', hxx.trans X, m4, fun t => (hfr t).mono X.imm X.hs, r1, r2.ext hm X, by have h1 := hm.len; omega⟩
theorem To.handAt {E : Env} {fn : Func} {g : Goal} (hE : EnvOK E) (n : Nat) {id : Nat} {ops : Array Oper} (tab : List Nat) {ks : List KI} {fr : List (Nat × AVal)} {obs : List AObj} {p : Oper} {s x : Operand} {t t2 : TypeId} (hn : ops.toList[n]? = some p)
  (hp : p.op = .call { callee := .builtin .append, args := #[s, x], argTypes := #[t, t2] }) (hg : p.guard = none)
  (h : chain E ops.toList (HandA E fn g ops.toList tab ks n p.dst s x t t2 (ops.toList.drop (n + 1))) (endP E fn g) 0 (ops.toList.take n) fr obs) : To E fn g (.code (.code (.region id ops false) :: ks) fr obs) := by
 have hlt := (List.getElem?_eq_some_iff.1 hn).1
 refine To.handA hE (tab := tab) (l1 := ops.toList.take n) (l2 := ops.toList.drop (n + 1)) (p := p) ?_ hp hg ?_
 ·conv => lhs; rw [← List.take_append_drop n ops.toList, List.drop_eq_getElem_cons hlt]
  rw [(List.getElem?_eq_some_iff.1 hn).2]
 ·rw [List.length_take, Nat.min_eq_left (Nat.le_of_lt hlt)]
  exact h
def regAt (r : Nat) : Code → Option Code
 | .region id ops dr => bif Nat.beq id r then some (.region id ops dr) else none
 | .seq a b => (match regAt r a with | some x => some x | none => regAt r b)
 | .cond _ a b => (match regAt r a with | some x => some x | none => regAt r b)
 | .block _ b => regAt r b
 | .loop b => regAt r b
 | _ => none
def before' (fn : Func) (r : Nat) : List KI := .code (match regAt r (bodyOf fn) with | some c => c | none => .skip) :: behind fn r
theorem To.ofC {E : Env} {fn : Func} {g : Goal} {ks : List KI} {fr : List (Nat × AVal)} {obs : List AObj} (h : To E fn g (.code ks fr obs)) : To E fn g (.head ks fr obs) := h.rec fun h => .mk h
theorem To.toC {E : Env} {fn : Func} {g : Goal} {ks : List KI} {fr : List (Nat × AVal)} {obs : List AObj} (h : To E fn g (.head ks fr obs)) : To E fn g (.code ks fr obs) := h.rec fun h => .mk h
section
variable {E : Env} {all : List Oper} {tab : List Nat} {L0 : Nat}
end
section
variable {E : Env} {ops : Array Oper} {tab : List Nat} {tl L0 : Nat} {Kp : (Nat → AVal) → AVal → List AObj → Prop} {Q : AS → Prop}
end
section
variable {E : Env} {ops : Array Oper} {tab : List Nat} {tl L0 : Nat} {Kp : (Nat → AVal) → AVal → List AObj → Prop} {Kq : List (Nat × AVal) → List AObj → Prop} {Q : AS → Prop}
end
section
variable {rd : Option Nat} {M0 : Imm} {ob0 : Hs} {obs0 : List AObj} {w0 : World} {sz : Nat} {dfs : List (Nat × List AVal)} {E : Env} {ops : Array Oper} {Q : Exit → Act → World → Prop} {K : AS → Prop} {Kp : (Nat → AVal) → AVal → List AObj → Prop} {tl L0 : Nat} {tab : List Nat}
end
section
variable {E : Env} {ops : Array Oper} {tab : List Nat} {tl L0 : Nat} {Kp : (Nat → AVal) → AVal → List AObj → Prop} {Kg : List (Nat × AVal) → List AObj → Prop}
end
def hidP (A tab : List Nat) (n t : Nat) : Nat → List Oper → Bool
 | _, [] => false
 | i, p :: r => (match p.dst with | some d => Nat.beq d t && (memN i A && !testB (getN tab n) i) | none => false) || hidP A tab n t (i + 1) r
def evP (A tab : List Nat) (all : List Oper) (n : Nat) (fr : List (Nat × AVal)) : Operand → AVal
 | .tmp t => bif hidP A tab n t 0 all then .undef else getS fr t
 | x => ev fr x
def dstA (A : List Nat) (t : Nat) : Nat → List Oper → Bool
 | _, [] => false
 | i, p :: r => (match p.dst with | some d => Nat.beq d t && memN i A | none => false) || dstA A t (i + 1) r
def gP (A : List Nat) (all : List Oper) (fr : List (Nat × AVal)) : Nat → AVal := fun t => bif dstA A t 0 all then .undef else getS fr t
def lookA (E : Env) (A tab : List Nat) (all : List Oper) (fr : List (Nat × AVal)) (obs : List AObj) : List Nat → Prop
 | [] => True
 | i :: r => (match nth all i with
   | some p => (match p.guard with
    | none => (match p.dst with
     | some d => eop E (hintOf E p.dst) (olen obs) (oget obs) (evP A tab all i fr) p.op p.type = .val (getS fr d)
     | none => False)
    | some _ => False)
   | none => False) ∧ lookA E A tab all fr obs r
def dropU (tab : List Nat) (n : Nat) : List Nat → List Nat
 | [] => []
 | i :: r => bif testB (getN tab n) i then dropU tab n r else i :: dropU tab n r
def putOD (fr : List (Nat × AVal)) (d : Option Nat) (v : AVal) (k : List (Nat × AVal) → Prop) : Prop :=
 match d with
 | none => k fr
 | some d => putD fr d v k
theorem putOD_eq (fr : List (Nat × AVal)) (d : Option Nat) (v : AVal) (k : List (Nat × AVal) → Prop) : putOD fr d v k = k (putO fr d v) := by
 cases d with
 | none => rfl
 | some d => exact putD_eq fr d v k
def chainP (E : Env) (A tab : List Nat) (all : List Oper) (K : List (Nat × AVal) → List AObj → Prop) (Kp : (Nat → AVal) → AVal → List AObj → Prop) : List Nat → List Nat → List (Nat × AVal) → List AObj → Prop
 | [], U, fr, obs => lookA E A tab all fr obs U ∧ K fr obs
 | n :: rest, U, fr, obs => lookA E A tab all fr obs U ∧ (match nth all n with
   | none => False
   | some p => (match p.guard with
    | some _ => False
    | none => orF E.P obs (fun v obs' => KD 5 v fun v => ODL obs' fun obs' => putOD fr p.dst v fun fr => chainP E A tab all K Kp rest (dropU tab n U) fr obs') (Kp (gP A all fr))
            (eop E (hintOf E p.dst) (olen obs) (oget obs) (evP A tab all n fr) p.op p.type)))
def withA (E : Env) (A tab : List Nat) (all : List Oper) (obs : List AObj) : List Nat → List (Nat × AVal) → (List (Nat × AVal) → Prop) → Prop
 | [], fr, k => k fr
 | i :: r, fr, k => match nth all i with
  | some p => (match p.dst with
   | some d => (match eop E (hintOf E p.dst) (olen obs) (oget obs) (evP A tab all i fr) p.op p.type with
    | .val v => KD 5 v fun v => putD fr d v fun fr => withA E A tab all obs r fr k
    | _ => False)
   | none => False)
  | none => False
def chB (tab : List Nat) : List Nat → Bool
 | [] => true
 | n :: r => (r.all fun j => testB (getN tab j) n) && chB tab r
def covB (A B : List Nat) : Nat → Bool
 | 0 => true
 | n + 1 => (memN n A || memN n B) && covB A B n
def nodB (sz : Nat) : List Nat → Bool
 | [] => true
 | n :: r => (Nat.blt n sz && !memN n r) && nodB sz r
def permB (A B tab : List Nat) (sz : Nat) : Bool := ((nodB sz (A ++ B) && covB A B sz) && chB tab B)
theorem covB_spec {A B : List Nat} : ∀ {n : Nat}, covB A B n = true → ∀ i, i < n → i ∈ A ∨ i ∈ B
 | 0, _, i, hi => by omega
 | n + 1, h, i, hi => by
  simp only [covB, Bool.and_eq_true, Bool.or_eq_true, memN_iff] at h
  by_cases e : i = n
  ·subst e; exact h.1
  ·exact covB_spec h.2 i (by omega)
theorem nodB_spec {sz : Nat} : ∀ {l : List Nat}, nodB sz l = true → l.Nodup ∧ ∀ i ∈ l, i < sz
 | [], _ => ⟨List.nodup_nil, fun i h => by cases h⟩
 | n :: r, h => by
  simp only [nodB, Bool.and_eq_true, Bool.not_eq_true', Nat.blt_eq] at h
  obtain ⟨h1, h2⟩ := nodB_spec h.2
  refine ⟨List.nodup_cons.2 ⟨fun hm => ?_, h1⟩, fun i hi => ?_⟩
  ·have := memN_iff.2 hm
   rw [h.1.2] at this
   cases this
  ·rcases List.mem_cons.1 hi with rfl | hi
   ·exact h.1.1
   ·exact h2 i hi
theorem hidP_spec {A tab : List Nat} {n t : Nat} : ∀ {l : List Oper} {k : Nat}, hidP A tab n t k l = false → ∀ (i : Nat) p, l[i]? = some p → p.dst = some t → (k + i) ∈ A → testB (getN tab n) (k + i) = true
 | [], _, _, i, p, hi, _, _ => by simp at hi
 | q :: r, k, h, i, p, hi, hd, ha => by
  simp only [hidP, Bool.or_eq_false_iff] at h
  cases i with
  | zero =>
   simp at hi
   subst hi
   have h1 := h.1
   rw [hd] at h1
   dsimp only at h1
   rw [Nat.beq_refl, Bool.true_and, show memN k A = true from memN_iff.2 ha, Bool.true_and] at h1
   simpa using h1
  | succ i =>
   have := hidP_spec (k := k + 1) h.2 i p (by simpa using hi) hd (by rwa [show k + 1 + i = k + (i + 1) from by omega])
   rwa [show k + 1 + i = k + (i + 1) from by omega] at this
theorem dstA_spec {A : List Nat} {t : Nat} : ∀ {l : List Oper} {k : Nat}, dstA A t k l = false → ∀ (i : Nat) p, l[i]? = some p → (k + i) ∈ A → p.dst ≠ some t
 | [], _, _, i, p, hi, _ => by simp at hi
 | q :: r, k, h, i, p, hi, ha => by
  simp only [dstA, Bool.or_eq_false_iff] at h
  cases i with
  | zero =>
   simp at hi
   subst hi
   intro hd
   have h1 := h.1
   rw [hd] at h1
   dsimp only at h1
   rw [Nat.beq_refl, Bool.true_and] at h1
   have := memN_iff.2 (show k ∈ A from ha)
   rw [h1] at this
   cases this
  | succ i => exact dstA_spec (k := k + 1) h.2 i p (by simpa using hi) (by rwa [show k + 1 + i = k + (i + 1) from by omega])
theorem dstA_ex {A : List Nat} {t : Nat} : ∀ {l : List Oper} {k : Nat}, dstA A t k l = true → ∃ (i : Nat) (p : Oper), l[i]? = some p ∧ (k + i) ∈ A ∧ p.dst = some t
 | [], _, h => by cases h
 | q :: r, k, h => by
  simp only [dstA, Bool.or_eq_true] at h
  rcases h with h | h
  ·split at h
   ·rename_i d hd
    rw [Bool.and_eq_true, memN_iff, Nat.beq_eq] at h
    exact ⟨0, q, rfl, h.2, by rw [hd, h.1]⟩
   ·cases h
  ·obtain ⟨i, p, h1, h2, h3⟩ := dstA_ex h
   exact ⟨i + 1, p, by simpa using h1, by rwa [show k + 1 + i = k + (i + 1) from by omega] at h2, h3⟩
theorem lookA_at {E : Env} {A tab : List Nat} {all : List Oper} {fr : List (Nat × AVal)} {obs : List AObj} : ∀ {U : List Nat}, lookA E A tab all fr obs U → ∀ i ∈ U, ∃ p d, all[i]? = some p ∧ p.guard = none ∧ p.dst = some d ∧
  eop E (hintOf E p.dst) (olen obs) (oget obs) (evP A tab all i fr) p.op p.type = .val (getS fr d)
 | [], _, i, hi => by cases hi
 | j :: r, h, i, hi => by
  rcases List.mem_cons.1 hi with rfl | hi
  ·have h1 := h.1
   split at h1
   ·rename_i p hp
    split at h1
    ·rename_i hg
     split at h1
     ·rename_i d hd
      exact ⟨p, d, nth_some hp, hg, hd, h1⟩
     ·exact h1.elim
    ·exact h1.elim
   ·exact h1.elim
  ·exact lookA_at h.2 i hi
theorem dropU_mem {tab : List Nat} {n i : Nat} : ∀ {U : List Nat}, i ∈ U → testB (getN tab n) i = false → i ∈ dropU tab n U
 | [], h, _ => by cases h
 | j :: r, h, ht => by
  unfold dropU
  rcases List.mem_cons.1 h with rfl | h
  ·rw [ht]; exact List.mem_cons_self ..
  ·have := dropU_mem h ht
   cases testB (getN tab n) j with
   | true => exact this
   | false => exact List.mem_cons_of_mem _ this
theorem chainP_ok {E : Env} {A tab : List Nat} {all : List Oper} {K : List (Nat × AVal) → List AObj → Prop} {Kp : (Nat → AVal) → AVal → List AObj → Prop} {B U : List Nat} {fr : List (Nat × AVal)} {obs : List AObj} (h : chainP E A tab all K Kp B U fr obs) : lookA E A tab all fr obs U := by
 cases B with
 | nil => exact h.1
 | cons n r => exact h.1
section
variable {rd : Option Nat} {M0 : Imm} {ob0 : Hs} {obs0 : List AObj} {w0 : World} {sz : Nat} {dfs : List (Nat × List AVal)} {E : Env} {ops : Array Oper} {Q : Exit → Act → World → Prop} {K : List (Nat × AVal) → List AObj → Prop} {Kp : (Nat → AVal) → AVal → List AObj → Prop} {A tab : List Nat}
def SM (M0 : Imm) (ob0 : Hs) (obs0 : List AObj) (w0 : World) (sz : Nat) (dfs : List (Nat × List AVal)) (ops : Array Oper) (UA : List Nat) (fr : List (Nat × AVal)) (obs : List AObj) (a : Act) (w : World) : Prop :=
 ∃ M ob, Ext M0 ob0 obs0 w0 M ob obs w ∧ Mem M ob obs w ∧ (∀ t, (∀ i ∈ UA, ∀ p, ops[i]? = some p → p.dst ≠ some t) → Rep M ob (a.tmps.getD t undef) (getS fr t)) ∧ a.tmps.size = sz ∧ DsRep w0 w M ob a.defers dfs ∧ ob0.length ≤ obs.length
theorem unlisted {listed : Array Bool} {j : Nat} (h : j ∈ Region.ready .any ops listed) (hsz : listed.size = ops.size) : j < ops.size ∧ listed.getD j false = false := by
 obtain ⟨h0, q, hq, _⟩ := mem_ready.1 h
 have hlt := (Array.getElem?_eq_some_iff.1 hq).1
 rw [Array.getD_eq_getD_getElem?, Array.getElem?_eq_getElem (by omega)] at h0 ⊢
 exact ⟨hlt, by simpa using h0⟩
theorem ready_some (ht : TabSp ops tab) {listed : Array Bool} (hsz : listed.size = ops.size) : ∀ (n j : Nat), j < n → j < ops.size → listed.getD j false = false → Region.ready .any ops listed ≠ []
 | 0, j, h, _, _ => by omega
 | n + 1, j, h, hj, hl => fun hr => by
  obtain ⟨p, hp⟩ : ∃ p, ops[j]? = some p := ⟨ops[j], Array.getElem?_eq_getElem hj⟩
  have : j ∈ Region.ready .any ops listed := mem_ready.2 ⟨by
   rw [Array.getD_eq_getD_getElem?, Array.getElem?_eq_getElem (by omega)] at hl ⊢
   simpa using hl, p, hp, fun e he hb => by
    have hb2 := ht.back j p hp e he hb
    cases hq : listed.getD e.on false with
    | true => rfl
    | false => exact absurd hr (ready_some ht hsz n e.on (by omega) (by omega) hq)⟩
  rw [hr] at this
  cases this
theorem perm_any (hE : EnvOK E) (ht : TabSp ops tab) (hd : ∀ (i : Nat) p, ops[i]? = some p → ∀ d, p.dst = some d → d < sz)
  (hp : ∀ g v obs ch a w, Kp g v obs → PP M0 ob0 obs0 w0 sz dfs g v obs ch a w → Q (.panic ch) a w) (hq : ∀ fr obs a w, K fr obs → SS M0 ob0 obs0 w0 sz dfs fr obs a w → Q .normal a w) :
  ∀ (fuel : Nat) (listed : Array Bool) (Bs UA U : List Nat) (fr : List (Nat × AVal)) (obs : List AObj) (a : Act) (w : World), fuel = Bs.length + UA.length → listed.size = ops.size → Closed tab listed →
   (∀ i, i < ops.size → (listed.getD i false = false ↔ i ∈ Bs ∨ i ∈ UA)) → (Bs ++ UA).Nodup → (∀ i ∈ Bs, i < ops.size) → (∀ i ∈ UA, i ∈ A ∧ i ∈ U ∧ i < ops.size) → chB tab Bs = true →
   chainP E A tab ops.toList K Kp Bs U fr obs → SM M0 ob0 obs0 w0 sz dfs ops UA fr obs a w → wpAnyIn (fen rd) 0 E.P .any ops Q fuel listed a w := by
 intro fuel
 induction fuel with
 | zero =>
  intro listed Bs UA U fr obs a w hf hsz hc hlist hnd hBs hUA hch h hs
  have e1 : Bs = [] := List.eq_nil_of_length_eq_zero (by omega)
  have e2 : UA = [] := List.eq_nil_of_length_eq_zero (by omega)
  subst e1 e2
  refine ⟨List.eq_nil_iff_forall_not_mem.2 fun j hj => ?_, hq fr obs a w h.2 ?_⟩
  ·obtain ⟨h1, h2⟩ := unlisted hj hsz
   rcases (hlist j h1).1 h2 with q | q <;> cases q
  ·obtain ⟨M, ob, hx, hm, hfr, r⟩ := hs
   exact ⟨M, ob, hx, hm, fun t => hfr t (fun i hi => absurd hi List.not_mem_nil), r⟩
 | succ fuel ih =>
  intro listed Bs UA U fr obs a w hf hsz hc hlist hnd hBs hUA hch h hs
  refine ⟨fun h0 => ?_, fun i hi => ?_⟩
  ·exfalso
   cases Bs with
   | cons n r =>
    have hn := hBs n (List.mem_cons_self ..)
    exact ready_some ht hsz (n + 1) n (by omega) hn ((hlist n hn).2 (.inl (List.mem_cons_self ..))) h0
   | nil =>
    cases UA with
    | nil => simp at hf
    | cons n r =>
     have hn := (hUA n (List.mem_cons_self ..)).2.2
     exact ready_some ht hsz (n + 1) n (by omega) hn ((hlist n hn).2 (.inr (List.mem_cons_self ..))) h0
  ·obtain ⟨hilt, hil⟩ := unlisted hi hsz
   obtain ⟨hc', hkey⟩ := hc.step ht hi
   obtain ⟨M, ob, hx, hm, hfr, hsza, hdf, h0⟩ := hs
   have hl := hm.len
   have hev : ∀ x, Rep M ob (a.eval x) (evP A tab ops.toList i fr x) := fun x => by
    cases x with
    | const v => exact cval_rep v
    | global g => exact .undef _
    | func f => exact .func (.func f) [] [] [] [] rfl rfl (fun i v a h => by simp at h) (fun i v a h => by simp at h)
    | tmp t =>
     show Rep M ob _ (bif hidP A tab i t 0 ops.toList then .undef else getS fr t)
     cases hh : hidP A tab i t 0 ops.toList with
     | true => exact .undef _
     | false =>
      refine hfr t fun j hj p hp hdt => ?_
      have h1 := hidP_spec hh j p (by simpa using hp) hdt (by rw [Nat.zero_add]; exact (hUA j hj).1)
      rw [Nat.zero_add] at h1
      have h2 := hkey j h1
      rw [(hlist j (hUA j hj).2.2).2 (.inr hj)] at h2
      cases h2
   have hlist' : ∀ (Bs' UA' : List Nat), (∀ j, (j ∈ Bs' ∨ j ∈ UA') ↔ (j ∈ Bs ∨ j ∈ UA) ∧ j ≠ i) → ∀ j, j < ops.size → ((listed.setIfInBounds i true).getD j false = false ↔ j ∈ Bs' ∨ j ∈ UA') := fun Bs' UA' he j hj => by
    rw [he j]
    by_cases e : j = i
    ·subst e
     rw [Array.getD_eq_getD_getElem?, Array.getElem?_setIfInBounds_self_of_lt (by omega)]
     simp
    ·rw [getD_set_ne false (Ne.symm e), hlist j hj]
     simp [e]
   have hsz' : (listed.setIfInBounds i true).size = ops.size := by simpa using hsz
   rcases (hlist i hilt).1 hil with hB | hA
   ·
    cases Bs with
    | nil => cases hB
    | cons n rest =>
     have hn : i = n := by
      rcases List.mem_cons.1 hB with e | e
      ·exact e
      ·simp only [chB, Bool.and_eq_true, List.all_eq_true] at hch
       have h2 := hkey n (hch.1 i e)
       rw [(hlist n (hBs n (List.mem_cons_self ..))).2 (.inl (List.mem_cons_self ..))] at h2
       cases h2
     subst hn
     obtain ⟨hok, h⟩ := h
     split at h
     ·exact h.elim
     ·rename_i p hnp
      have hip : ops[i]? = some p := by simpa using nth_some hnp
      split at h
      ·exact h.elim
      ·rename_i hg
       have h : orF E.P obs (fun v obs' => chainP E A tab ops.toList K Kp rest (dropU tab i U) (putO fr p.dst v) obs') (Kp (gP A ops.toList fr)) (eop E (hintOf E p.dst) (olen obs) (oget obs) (evP A tab ops.toList i fr) p.op p.type) :=
        orF_mono (fun v o h => by rw [KD_eq, ODL_eq, putOD_eq] at h; exact h) h
       have hw : Region.wanted p (yielded ops a.tmps) = true := by unfold Region.wanted; rw [hg]
       unfold wpOpIn
       rw [hip]
       dsimp only
       rw [if_pos hw]
       refine (seq_run hE hm hev h).wpIn (eop_nodefer h) (fun u w' ⟨M', ob', L', x1, x2, x3⟩ => ?_) (fun ch w' ⟨M', ob', L', x1, x2, x3⟩ => ?_)
       ·rcases x3 with ⟨u', v, e, hr, hk⟩ | ⟨ch, v, e, _⟩
        ·cases e
         have := x1.lens
         have := x2.len
         have hnod : (rest ++ UA).Nodup ∧ i ∉ rest ++ UA := by
          have := List.nodup_cons.1 hnd
          exact ⟨this.2, this.1⟩
         refine ih (listed.setIfInBounds i true) rest UA (dropU tab i U) _ L' _ w' (by simp at hf; omega) hsz' hc' (hlist' rest UA fun j => ?_) hnod.1 (fun j hj => hBs j (List.mem_cons_of_mem _ hj)) (fun j hj => ?_) ?_ hk
          ⟨M', ob', hx.trans x1, x2, fun t hmt => ?_, (put_size _ _ _).1.trans hsza, (hdf.ext hm x1).put, by omega⟩
         ·constructor
          ·intro hj
           exact ⟨hj.imp (List.mem_cons_of_mem _) id, fun e => hnod.2 (by subst e; exact List.mem_append.2 hj)⟩
          ·rintro ⟨hj, hne⟩
           rcases hj with hj | hj
           ·rcases List.mem_cons.1 hj with e | hj
            ·exact absurd e hne
            ·exact .inl hj
           ·exact .inr hj
         ·obtain ⟨k1, k2, k3⟩ := hUA j hj
          refine ⟨k1, dropU_mem k2 ?_, k3⟩
          cases hq2 : testB (getN tab i) j with
          | false => rfl
          | true =>
           have h2 := hkey j hq2
           rw [(hlist j k3).2 (.inr hj)] at h2
           cases h2
         ·simp only [chB, Bool.and_eq_true] at hch
          exact hch.2
         ·rw [getS_putO]
          unfold updG
          by_cases hdt : p.dst = some t
          ·rw [if_pos hdt]
           have hlt : t < a.tmps.size := hsza ▸ hd i p hip t hdt
           rw [hdt]
           simp only [Act.put]
           rw [Array.getD_eq_getD_getElem?, Array.getElem?_setIfInBounds_self_of_lt hlt]
           exact hr
          ·rw [if_neg hdt]
           have hold := (hfr t hmt).mono x1.imm x1.hs
           cases hpd : p.dst with
           | none => exact hold
           | some d =>
            have hne : d ≠ t := fun e => hdt (by rw [hpd, e])
            simp only [Act.put]
            rw [Array.getD_eq_getD_getElem?, Array.getElem?_setIfInBounds_ne hne, ← Array.getD_eq_getD_getElem?]
            exact hold
        ·cases e
       ·rcases x3 with ⟨u', v, e, _⟩ | ⟨ch', v, e, hr, hk⟩
        ·cases e
        ·cases e
         have := x1.lens
         have := x2.len
         refine hp _ v L' ch a w' hk ⟨M', ob', hx.trans x1, x2, hr, fun t => ?_, hsza, hdf.ext hm x1, by omega⟩
         unfold gP
         cases hda : dstA A t 0 ops.toList with
         | true => exact .undef _
         | false =>
          exact (hfr t fun j hj q hjq => dstA_spec hda j q (by simpa using hjq) (by rw [Nat.zero_add]; exact (hUA j hj).1)).mono x1.imm x1.hs
   ·
    obtain ⟨k1, k2, k3⟩ := hUA i hA
    obtain ⟨p, d, hip, hg, hpd, hev2⟩ := lookA_at (chainP_ok h) i k2
    have hip : ops[i]? = some p := by simpa using hip
    have hor : orF E.P obs (fun v obs' => v = getS fr d ∧ obs' = obs) (fun _ _ => False) (eop E (hintOf E p.dst) (olen obs) (oget obs) (evP A tab ops.toList i fr) p.op p.type) := by
     rw [hev2]; exact ⟨rfl, rfl⟩
    have hw : Region.wanted p (yielded ops a.tmps) = true := by unfold Region.wanted; rw [hg]
    unfold wpOpIn
    rw [hip]
    dsimp only
    rw [if_pos hw]
    refine (seq_run hE hm hev hor).wpIn (eop_nodefer hor) (fun u w' ⟨M', ob', L', x1, x2, x3⟩ => ?_) (fun ch w' ⟨M', ob', L', x1, x2, x3⟩ => ?_)
    ·rcases x3 with ⟨u', v, e, hr, hk1, hk2⟩ | ⟨ch, v, e, _⟩
     ·cases e
      subst hk1 hk2
      have hlt : d < a.tmps.size := hsza ▸ hd i p hip d hpd
      have hnod : UA.Nodup := (List.nodup_append.1 hnd).2.1
      have hmem : ∀ j, j ∈ UA.erase i ↔ j ≠ i ∧ j ∈ UA := fun j => hnod.mem_erase_iff
      have hlen : (UA.erase i).length + 1 = UA.length := by
       rw [List.length_erase_of_mem hA]
       have := List.length_pos_of_mem hA
       omega
      have hdis : i ∉ Bs := fun hb => (List.nodup_append.1 hnd).2.2 i hb i hA rfl
      refine ih (listed.setIfInBounds i true) Bs (UA.erase i) U fr L' _ w' (by omega) hsz' hc' (hlist' Bs (UA.erase i) fun j => ?_) ?_ hBs (fun j hj => hUA j ((hmem j).1 hj).2) hch h
       ⟨M', ob', hx.trans x1, x2, fun t hmt => ?_, (put_size _ _ _).1.trans hsza, (hdf.ext hm x1).put, h0⟩
      ·rw [hmem j]
       constructor
       ·rintro (hj | ⟨hne, hj⟩)
        ·exact ⟨.inl hj, fun e => hdis (e ▸ hj)⟩
        ·exact ⟨.inr hj, hne⟩
       ·rintro ⟨hj | hj, hne⟩
        ·exact .inl hj
        ·exact .inr ⟨hne, hj⟩
      ·refine List.nodup_append.2 ⟨(List.nodup_append.1 hnd).1, hnod.erase i, fun x hx y hy => ?_⟩
       exact (List.nodup_append.1 hnd).2.2 x hx y ((hmem y).1 hy).2
      ·rw [hpd]
       simp only [Act.put]
       by_cases hdt : d = t
       ·subst hdt
        rw [Array.getD_eq_getD_getElem?, Array.getElem?_setIfInBounds_self_of_lt hlt]
        exact hr
       ·rw [Array.getD_eq_getD_getElem?, Array.getElem?_setIfInBounds_ne hdt, ← Array.getD_eq_getD_getElem?]
        refine (hfr t fun j hj q hjq => ?_).mono x1.imm x1.hs
        by_cases hji : j = i
        ·subst hji
         rw [hip] at hjq
         cases hjq
         rw [hpd]
         exact fun e => hdt (Option.some.inj e)
        ·exact hmt j ((hmem j).2 ⟨hji, hj⟩) q hjq
     ·cases e
    ·rcases x3 with ⟨u', v, e, _⟩ | ⟨ch', v, e, hr, hk⟩
     ·cases e
     ·exact hk.elim
theorem withA_spec {all : List Oper} {obs : List AObj} : ∀ {l : List Nat} {fr : List (Nat × AVal)} {k : List (Nat × AVal) → Prop}, withA E A tab all obs l fr k → (∀ i ∈ l, i ∈ A) → ∃ fr', k fr' ∧ ∀ t, dstA A t 0 all = false → getS fr' t = getS fr t
 | [], fr, k, h, _ => ⟨fr, h, fun t _ => rfl⟩
 | i :: r, fr, k, h, hA => by
  unfold withA at h
  split at h
  ·rename_i p hp
   split at h
   ·rename_i d hd
    split at h
    ·rename_i v hv
     rw [KD_eq, putD_eq] at h
     obtain ⟨fr', h1, h2⟩ := withA_spec h fun j hj => hA j (List.mem_cons_of_mem _ hj)
     refine ⟨fr', h1, fun t ht => ?_⟩
     rw [h2 t ht, getS_putS]
     have := dstA_spec ht i p (by simpa using nth_some hp) (by rw [Nat.zero_add]; exact hA i (List.mem_cons_self ..))
     rw [if_neg fun e => this (by rw [hd, e])]
    ·exact h.elim
   ·exact h.elim
  ·exact h.elim
end
theorem To.permAt {E : Env} {fn : Func} {g : Goal} (hE : EnvOK E) (A B : List Nat) {id : Nat} {ops : Array Oper} {ks : List KI} {fr : List (Nat × AVal)} {obs : List AObj} (hst : permB A B (befs [] ops.toList) ops.size = true)
  (h : withA E A (befs [] ops.toList) ops.toList obs A fr fun fr => chainP E A (befs [] ops.toList) ops.toList (fun fr obs => To E fn g (.code ks fr obs)) (endP E fn g) B A fr obs) : To E fn g (.code (.code (.region id ops true) :: ks) fr obs) :=
 .mk fun ho M0 ob0 obs0 w0 a w hst0 hs => by
  simp only [stackOK, KI.ok, codeOK, Bool.and_eq_true] at ho
  obtain ⟨⟨ho1, ho2⟩, ho3⟩ := ho
  have hd := dsts_spec ho1
  refine KW.code (Q' := QR E fn g M0 ob0 obs0 w0 ks) ?_ (fun a w h => h) (fun ch a w h => h) (fun e a w hh => by
   cases e <;> first | exact .inl rfl | exact .inr ⟨_, rfl⟩ | exact hh.elim)
  have hpp : ∀ gf v obs ch a w, endP E fn g gf v obs → PP M0 ob0 obs0 w0 fn.ntmps E.df gf v obs ch a w → Post E fn M0 ob0 obs0 w0 g (.panic ch) a w := fun gf v obs ch a w he hpp => go_endP he hst0 hpp
  have hqq : ∀ fr obs a w, To E fn g (.code ks fr obs) → SS M0 ob0 obs0 w0 fn.ntmps E.df fr obs a w → KW E.rd E.P (Post E fn M0 ob0 obs0 w0 g) ks a w := fun fr obs a w hk hs => hk.rec fun hk => hk ho3 M0 ob0 obs0 w0 a w hst0 hs
  have ht : TabSp ops (befs [] ops.toList) := regOK_spec ops (by simpa using ho2)
  refine wpIn_region_any hE.mix ?_
  simp only [permB, Bool.and_eq_true] at hst
  obtain ⟨⟨s1, s2⟩, s3⟩ := hst
  obtain ⟨s4, s5⟩ := nodB_spec s1
  have s6 := covB_spec s2
  obtain ⟨fr1, h1, h2⟩ := withA_spec h fun i hi => hi
  have hnd : (B ++ A).Nodup := List.perm_append_comm.nodup_iff.1 s4
  have hlenAB : ops.size = B.length + A.length := by
   have e1 : (B ++ A).length ≤ ops.size := by
    have := (hnd.sublist (List.Sublist.refl _))
    have h3 : (B ++ A).Subset (List.range ops.size) := fun i hi => List.mem_range.2 (s5 i (by rw [List.mem_append] at hi ⊢; exact hi.symm))
    have := hnd.length_le_of_subset h3
    simpa using this
   have e2 : ops.size ≤ (B ++ A).length := by
    have h3 : (List.range ops.size).Subset (B ++ A) := fun i hi => by
     rw [List.mem_append]
     exact (s6 i (List.mem_range.1 hi)).symm
    have := List.nodup_range.length_le_of_subset h3
    simpa using this
   simp at e1 e2
   omega
  obtain ⟨M, ob, hx, hm, hf, hr⟩ := hs.draw
  have hrep : ∀ i, i < ops.size → (Array.replicate ops.size false).getD i false = false := fun i hi => by
   rw [Array.getD_eq_getD_getElem?, Array.getElem?_eq_getElem (by simpa using hi)]
   simp
  refine perm_any (Q := QR E fn g M0 ob0 obs0 w0 ks) hE ht (fun i p hi d hd' => hd p (List.mem_of_getElem? (i := i) (by simpa using hi)) d hd') (fun gf v obs ch a w h1 h2 => hpp gf v obs ch a w h1 h2) (fun fr obs a w h1 h2 => hqq fr obs a w h1 h2) ops.size _ B A A fr1 obs a _ hlenAB (by simp) (fun j i q1 _ => ?_)
   (fun i hi => ⟨fun _ => (s6 i hi).symm, fun _ => hrep i hi⟩) hnd (fun i hi => s5 i (List.mem_append_right _ hi)) (fun i hi => ⟨hi, hi, s5 i (List.mem_append_left _ hi)⟩) s3 h1 ⟨M, ob, hx, hm, fun t hmt => ?_, hr⟩
  ·by_cases hj : j < ops.size
   ·rw [hrep j hj] at q1; cases q1
   ·rw [Array.getD_eq_getD_getElem?, Array.getElem?_eq_none (by simpa using hj)] at q1
    cases q1
  ·rw [h2 t ?_]
   ·exact hf t
   ·cases hda : dstA A t 0 ops.toList with
    | false => rfl
    | true =>
     obtain ⟨i, p, e1, e2, e3⟩ := dstA_ex hda
     rw [Nat.zero_add] at e2
     exact absurd e3 (hmt i e2 p (by simpa using e1))
theorem aY {p q : Prop} (h : p) : (true = true → p) ∧ (true = false → q) := ⟨fun _ => h, fun h => absurd h (by decide)⟩
theorem aN {p q : Prop} (h : q) : (false = true → p) ∧ (false = false → q) := ⟨fun h => absurd h (by decide), fun _ => h⟩
theorem aT {a p q : Prop} [Decidable a] (ha : a) (h : decide a = true → p) : (decide a = true → p) ∧ (decide a = false → q) := ⟨h, fun h => absurd ha (of_decide_eq_false h)⟩
theorem aF {a p q : Prop} [Decidable a] (ha : ¬ a) (h : decide a = false → q) : (decide a = true → p) ∧ (decide a = false → q) := ⟨fun h => absurd (of_decide_eq_true h) ha, h⟩
theorem aJ {n : Int} {p q : Prop} (h1 : -9223372036854775808 ≤ n) (h2 : n ≤ 9223372036854775807) (h : p) : (inR .i64 n ∧ p) ∨ q := .inl ⟨⟨h1, h2⟩, h⟩
theorem gW {E : Env} {fn : Func} {g : Goal} {st : St} (hE : EnvOK E) (h : wstep E fn g (To E fn g) 100 st) : To E fn g st := goes hE 100 h
theorem gN {E : Env} {fn : Func} {g : Goal} {st : St} (hE : EnvOK E) (hs : notHead st = true) (h : wstep E fn g (To E fn g) 100 st) : To E fn g st := goN hE 100 hs h
theorem cT {E : Env} {f : FuncId} {fn : Func} {args : List AVal} {obs : List AObj} {g : Goal} (h : okL args → To E fn g (.code [.code (bodyOf fn)] (frA 0 args) obs)) (hdf : E.df = [] := by rfl) (hf : E.P.funcs[f]? = some fn := by rfl) (hb : fn.body = some (bodyOf fn) := by rfl)
  (hbo : BodyOK E.P f := by exact fun _ _ => by rfl) (hco : codeOK fn.ntmps (bodyOf fn) = true := by decide +kernel) (hn : Nat.ble args.length fn.ntmps = true := by rfl) (hsb : startB obs = true := by rfl) (hg : obs.length = g.n0 := by rfl) (hrd : E.rd = none := by rfl) : CallOK E.P f args obs g.res g.obs :=
 CallOK.to hdf hf hb hbo hco hn hsb hg h hrd
end Go.AW
