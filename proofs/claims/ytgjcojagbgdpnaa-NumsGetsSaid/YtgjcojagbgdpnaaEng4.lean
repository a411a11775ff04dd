/-
  THE ENGINE, 4: a region; the run. Over any program.
-/
import Derived.Test.YtgjcojagbgdpnaaEng3
namespace Go.AM

def AVal.K {α : Type} (v : AVal) (k : AVal → Option α) : Option α :=
  match v with
  | .agg cs => cellsK cs fun cs => k (.agg cs)
  | .tup cs => cellsK cs fun cs => k (.tup cs)
  | .ptr cs => cellsK cs fun cs => k (.ptr cs)
  | .func fn fs cs => cellsK fs fun fs => cellsK cs fun cs => k (.func fn fs cs)
  | .iface t v => v.K1 fun v => k (.iface t v)
  | v => v.K1 k
theorem AVal.K_eq {α : Type} (v : AVal) (k : AVal → Option α) : v.K k = k v := by
  cases v <;> simp only [AVal.K, cellsK_eq, AVal.K1_eq]

def putK {α : Type} : List (Nat × AVal) → Nat → AVal → (List (Nat × AVal) → Option α) → Option α
  | [], n, x, k => k [(n, x)]
  | (i, v) :: r, n, x, k => bif Nat.beq i n then k ((n, x) :: r) else putK r n x fun r' => k ((i, v) :: r')
theorem putK_eq {α : Type} (l : List (Nat × AVal)) (n : Nat) (x : AVal) : ∀ (k : List (Nat × AVal) → Option α), putK l n x k = k (putS l n x) := by
  induction l with
  | nil => intro k; rfl
  | cons p r ih => intro k; obtain ⟨i, v⟩ := p; simp only [putK, putS, ih]; cases Nat.beq i n <;> rfl

def appK {α : Type} : List Prop → List Prop → (List Prop → Option α) → Option α
  | [], c, k => k c
  | p :: r, c, k => appK r (p :: c) k
def revApp : List Prop → List Prop → List Prop
  | [], c => c
  | p :: r, c => revApp r (p :: c)
theorem appK_eq {α : Type} (l : List Prop) : ∀ (c : List Prop) (k : List Prop → Option α), appK l c k = k (revApp l c) := by
  induction l with
  | nil => intro c k; rfl
  | cons p r ih => intro c k; simp only [appK, revApp, ih]
theorem All_revApp (l : List Prop) : ∀ c, All (revApp l c) ↔ All l ∧ All c := by
  induction l with
  | nil => intro c; simp [revApp, All]
  | cons p r ih => intro c; simp only [revApp, ih, All]; constructor <;> (intro h; simp_all)

def objK {α : Type} (x : AObj) (k : AObj → Option α) : Option α :=
  match x with
  | .dead => k .dead
  | .cells cs => cellsK cs fun cs => k (.cells cs)
  | .row sz xs => k (.row sz xs)
theorem objK_eq {α : Type} (x : AObj) (k : AObj → Option α) : objK x k = k x := by
  cases x <;> simp only [objK, cellsK_eq]

def oputK {α : Type} : List AObj → Nat → AObj → (List AObj → Option α) → Option α
  | [], _, _, k => k []
  | _ :: r, 0, y, k => k (y :: r)
  | x :: r, n + 1, y, k => oputK r n y fun r => k (x :: r)
theorem oputK_eq {α : Type} (l : List AObj) : ∀ (n : Nat) (x : AObj) (k : List AObj → Option α), oputK l n x k = k (oset l n x) := by
  induction l with
  | nil => intro n x k; rfl
  | cons p r ih => intro n x k; cases n with
    | zero => rfl
    | succ n => simp only [oputK, oset, ih]

def osnocK {α : Type} : List AObj → AObj → (List AObj → Option α) → Option α
  | [], y, k => k [y]
  | x :: r, y, k => osnocK r y fun r => k (x :: r)
def osnoc : List AObj → AObj → List AObj
  | [], y => [y]
  | x :: r, y => x :: osnoc r y
theorem osnocK_eq {α : Type} (l : List AObj) (x : AObj) : ∀ (k : List AObj → Option α), osnocK l x k = k (osnoc l x) := by
  induction l with
  | nil => intro k; rfl
  | cons p r ih => intro k; simp only [osnocK, osnoc, ih]

/-- every holder of a token lets go of it -/
def untF (τ : Nat) : List (Nat × AVal) → List (Nat × AVal)
  | [] => []
  | (i, v) :: r => (i, untS τ v) :: untF τ r
def untFK {α : Type} (τ : Nat) : List (Nat × AVal) → (List (Nat × AVal) → Option α) → Option α
  | [], k => k []
  | (i, v) :: r, k => (untS τ v).K fun v => untFK τ r fun r => k ((i, v) :: r)
theorem untFK_eq {α : Type} (τ : Nat) (l : List (Nat × AVal)) : ∀ (k : List (Nat × AVal) → Option α), untFK τ l k = k (untF τ l) := by
  induction l with
  | nil => intro k; rfl
  | cons p r ih => intro k; obtain ⟨i, v⟩ := p; simp only [untFK, untF, AVal.K_eq, ih]
def untO (τ : Nat) : AObj → AObj
  | .cells cs => .cells (untCells τ cs)
  | x => x
where untCells (τ : Nat) : List AVal → List AVal
  | [] => []
  | c :: r => untS τ c :: untCells τ r
def untOL (τ : Nat) : List AObj → List AObj
  | [] => []
  | x :: r => untO τ x :: untOL τ r
def untOLK {α : Type} (τ : Nat) : List AObj → (List AObj → Option α) → Option α
  | [], k => k []
  | x :: r, k => objK (untO τ x) fun x => untOLK τ r fun r => k (x :: r)
theorem untOLK_eq {α : Type} (τ : Nat) (l : List AObj) : ∀ (k : List AObj → Option α), untOLK τ l k = k (untOL τ l) := by
  induction l with
  | nil => intro k; rfl
  | cons p r ih => intro k; simp only [untOLK, untOL, objK_eq, ih]

/-- is operation number n of the region a guard of a later one? -/
def isGuard (n : Nat) : List Oper → Bool
  | [] => false
  | o :: r => (match o.guard with | some (j, _) => Nat.beq j n | none => false) || isGuard n r

/-- May an operation be run? 'none': it cannot be told. -/
def wantedE (all : List Oper) (fr : List (Nat × AVal)) (g : Option (Nat × Bool)) : Option Bool :=
  match g with
  | none => some true
  | some (j, want) => match nth all j with
    | some p => match p.dst with
      | some d => match getS fr d with
        | .bool b => some (b == want)
        | .tup [] => some false
        | _ => none
      | none => none
    | none => none

/-- what a step leaves: a value for the operation's own slot is already laid there -/
structure SR where
  c : List Prop
  fr : List (Nat × AVal)
  obs : List AObj
  nt : Nat
  o : List Ora

/-- the slot that an operation writes, with the decision on a guard -/
def wr (rest : List Oper) (n : Nat) (d : Option Nat) (sz : Nat) (c : List Prop) (fr : List (Nat × AVal)) (obs : List AObj) (nt : Nat) (v : AVal) (o : List Ora) : Option SR :=
  match d with
  | none => some ⟨c, fr, obs, nt, o⟩
  | some d =>
    bif Nat.blt d sz then
      bif isGuard n rest then
        match v, o with
        | .bool b, .t :: o => some ⟨(b = true) :: c, putS fr d (.bool true), obs, nt, o⟩
        | .bool b, .f :: o => some ⟨(b = false) :: c, putS fr d (.bool false), obs, nt, o⟩
        | _, _ => none
      else some ⟨c, putS fr d v, obs, nt, o⟩
    else none
def wrK {α : Type} (rest : List Oper) (n : Nat) (d : Option Nat) (sz : Nat) (c : List Prop) (fr : List (Nat × AVal)) (obs : List AObj) (nt : Nat) (v : AVal) (o : List Ora)
    (k : List Prop → List (Nat × AVal) → List AObj → Nat → List Ora → Option α) : Option α :=
  match d with
  | none => k c fr obs nt o
  | some d =>
    bif Nat.blt d sz then
      bif isGuard n rest then
        match v, o with
        | .bool b, .t :: o => putK fr d (.bool true) fun fr => k ((b = true) :: c) fr obs nt o
        | .bool b, .f :: o => putK fr d (.bool false) fun fr => k ((b = false) :: c) fr obs nt o
        | _, _ => none
      else putK fr d v fun fr => k c fr obs nt o
    else none
theorem wrK_eq {α : Type} (rest : List Oper) (n : Nat) (d : Option Nat) (sz : Nat) (c : List Prop) (fr : List (Nat × AVal)) (obs : List AObj) (nt : Nat) (v : AVal) (o : List Ora)
    (k : List Prop → List (Nat × AVal) → List AObj → Nat → List Ora → Option α) :
    wrK rest n d sz c fr obs nt v o k = (wr rest n d sz c fr obs nt v o).bind fun s => k s.c s.fr s.obs s.nt s.o := by
  unfold wrK wr
  cases d with
  | none => rfl
  | some d =>
    dsimp only
    cases Nat.blt d sz
    · rfl
    · cases isGuard n rest
      · simp only [cond_true, cond_false, putK_eq, Option.bind_some]
      · simp only [cond_true]
        split <;> simp only [putK_eq, Option.bind_some, Option.bind_none]

/-- one operation: its effect on the state, and its slot -/
def estep (E : Env) (dr : Bool) (all rest : List Oper) (n sz : Nat) (p : Oper) (c : List Prop) (fr : List (Nat × AVal)) (obs : List AObj) (nt : Nat) (o : List Ora) : Option (SR ⊕ (List Prop × AVal)) :=
  match wantedE all fr p.guard with
  | none => none
  | some false => (wr [] n p.dst sz c fr obs nt (.tup []) o).map .inl
  | some true =>
    match eop E dr fr obs nt p.op p.type o with
    | none => none
    | some (.val c1 v o) => (wr rest n p.dst sz (revApp c1 c) fr obs nt v o).map .inl
    | some (.new c1 v x o) => bif dr then none else (wr rest n p.dst sz (revApp c1 c) fr (osnoc obs x) nt v o).map .inl
    | some (.upd c1 k x o) => bif dr then none else (wr rest n p.dst sz (revApp c1 c) fr (oset obs k x) nt .undef o).map .inl
    | some (.tkn c1 v m o) => bif dr then none else (wr rest n p.dst sz (revApp c1 c) fr obs (nt + m) v o).map .inl
    | some (.tkc c1 τ v o) => bif dr then none else (wr rest n p.dst sz (revApp c1 c) (untF τ fr) (untOL τ obs) nt v o).map .inl
    | some (.pan c1 v) => bif dr then none else some (.inr (revApp c1 c, v))

def estepK {α : Type} (E : Env) (dr : Bool) (all rest : List Oper) (n sz : Nat) (p : Oper) (c : List Prop) (fr : List (Nat × AVal)) (obs : List AObj) (nt : Nat) (o : List Ora)
    (k : List Prop → List (Nat × AVal) → List AObj → Nat → List Ora → Option α) (kp : List Prop → AVal → Option α) : Option α :=
  match wantedE all fr p.guard with
  | none => none
  | some false => wrK [] n p.dst sz c fr obs nt (.tup []) o k
  | some true =>
    match eop E dr fr obs nt p.op p.type o with
    | none => none
    | some (.val c1 v o) => v.K fun v => appK c1 c fun c => wrK rest n p.dst sz c fr obs nt v o k
    | some (.new c1 v x o) => bif dr then none else v.K fun v => objK x fun x => osnocK obs x fun obs => appK c1 c fun c => wrK rest n p.dst sz c fr obs nt v o k
    | some (.upd c1 j x o) => bif dr then none else objK x fun x => oputK obs j x fun obs => appK c1 c fun c => wrK rest n p.dst sz c fr obs nt .undef o k
    | some (.tkn c1 v m o) => bif dr then none else v.K fun v => appK c1 c fun c => wrK rest n p.dst sz c fr obs (nt + m) v o k
    | some (.tkc c1 τ v o) => bif dr then none else v.K fun v => untFK τ fr fun fr => untOLK τ obs fun obs => appK c1 c fun c => wrK rest n p.dst sz c fr obs nt v o k
    | some (.pan c1 v) => bif dr then none else appK c1 c fun c => kp c v
theorem estepK_eq {α : Type} (E : Env) (dr : Bool) (all rest : List Oper) (n sz : Nat) (p : Oper) (c : List Prop) (fr : List (Nat × AVal)) (obs : List AObj) (nt : Nat) (o : List Ora)
    (k : List Prop → List (Nat × AVal) → List AObj → Nat → List Ora → Option α) (kp : List Prop → AVal → Option α) :
    estepK E dr all rest n sz p c fr obs nt o k kp = (estep E dr all rest n sz p c fr obs nt o).bind fun
      | .inl s => k s.c s.fr s.obs s.nt s.o
      | .inr (c, v) => kp c v := by
  unfold estepK estep
  cases wantedE all fr p.guard with
  | none => rfl
  | some b =>
    cases b with
    | false => dsimp only; rw [wrK_eq]; cases wr [] n p.dst sz c fr obs nt (.tup []) o <;> rfl
    | true =>
      dsimp only
      cases eop E dr fr obs nt p.op p.type o with
      | none => rfl
      | some r =>
        cases r with
        | val c1 v o => dsimp only; rw [AVal.K_eq, appK_eq, wrK_eq]; cases wr rest n p.dst sz (revApp c1 c) fr obs nt v o <;> rfl
        | new c1 v x o => dsimp only; cases dr <;> simp only [cond_true, cond_false, AVal.K_eq, objK_eq, osnocK_eq, appK_eq, wrK_eq, Option.bind_none] ; cases wr rest n p.dst sz (revApp c1 c) fr (osnoc obs x) nt v o <;> rfl
        | upd c1 j x o => dsimp only; cases dr <;> simp only [cond_true, cond_false, objK_eq, oputK_eq, appK_eq, wrK_eq, Option.bind_none] ; cases wr rest n p.dst sz (revApp c1 c) fr (oset obs j x) nt .undef o <;> rfl
        | tkn c1 v m o => dsimp only; cases dr <;> simp only [cond_true, cond_false, AVal.K_eq, appK_eq, wrK_eq, Option.bind_none] ; cases wr rest n p.dst sz (revApp c1 c) fr obs (nt + m) v o <;> rfl
        | tkc c1 τ v o => dsimp only; cases dr <;> simp only [cond_true, cond_false, AVal.K_eq, untFK_eq, untOLK_eq, appK_eq, wrK_eq, Option.bind_none] ; cases wr rest n p.dst sz (revApp c1 c) (untF τ fr) (untOL τ obs) nt v o <;> rfl
        | pan c1 v => dsimp only; cases dr <;> simp only [cond_true, cond_false, appK_eq, Option.bind_none, Option.bind_some]

/- ---------- which operations stand in one order to all others ---------- -/
def memN (n : Nat) : List Nat → Bool
  | [] => false
  | x :: r => Nat.beq x n || memN n r
def subN : List Nat → List Nat → Bool
  | [], _ => true
  | x :: r, l => memN x l && subN r l
def upN : Nat → List Nat
  | 0 => []
  | n + 1 => n :: upN n
def afterL (p : Oper) : List Nat := (p.after.toList.filter (Region.binds .any)).map (·.on)
/-- what may come up while 'k' has not -/
def cloN (k : Nat) : Nat → List Oper → List Nat → List Nat
  | _, [], C => C
  | j, p :: r, C => match !Nat.beq j k && (!memN j C && subN (afterL p) C) with
    | true => cloN k (j + 1) r (j :: C)
    | false => cloN k (j + 1) r C
def beside (all : List Oper) (k : Nat) : List Nat := cloN k 0 all (upN k)
def soleAll (all : List Oper) (n : Nat) : Nat → Bool
  | 0 => true
  | j + 1 => match memN n (beside all j) with
    | true => false
    | false => soleAll all n j
def soleB (all : List Oper) (n : Nat) : Bool := subN (beside all n) (upN n) && soleAll all n n

/-- a region, in the order of the text -/
def eops (E : Env) (dr : Bool) (all : List Oper) (sz : Nat) : Nat → List Oper → List Prop → List (Nat × AVal) → List AObj → Nat → List Ora → Option (SR ⊕ (List Prop × AVal × List AObj × Nat))
  | _, [], c, fr, obs, nt, o => some (.inl ⟨c, fr, obs, nt, o⟩)
  | n, p :: rest, c, fr, obs, nt, o => match estep E (dr && !soleB all n) all rest n sz p c fr obs nt o with
    | none => none
    | some (.inl s) => eops E dr all sz (n + 1) rest s.c s.fr s.obs s.nt s.o
    | some (.inr (c, v)) => some (.inr (c, v, obs, nt))
def eopsK {α : Type} (E : Env) (dr : Bool) (all : List Oper) (sz : Nat) (k : List Prop → List (Nat × AVal) → List AObj → Nat → List Ora → Option α) (kp : List Prop → AVal → List AObj → Nat → Option α) :
    Nat → List Oper → List Prop → List (Nat × AVal) → List AObj → Nat → List Ora → Option α
  | _, [], c, fr, obs, nt, o => k c fr obs nt o
  | n, p :: rest, c, fr, obs, nt, o => estepK E (dr && !soleB all n) all rest n sz p c fr obs nt o (fun c fr obs nt o => eopsK E dr all sz k kp (n + 1) rest c fr obs nt o) (fun c v => kp c v obs nt)
theorem eopsK_eq {α : Type} (E : Env) (dr : Bool) (all : List Oper) (sz : Nat) (k : List Prop → List (Nat × AVal) → List AObj → Nat → List Ora → Option α) (kp : List Prop → AVal → List AObj → Nat → Option α) (l : List Oper) :
    ∀ n c fr obs nt o, eopsK E dr all sz k kp n l c fr obs nt o = (eops E dr all sz n l c fr obs nt o).bind fun
      | .inl s => k s.c s.fr s.obs s.nt s.o
      | .inr (c, v, obs, nt) => kp c v obs nt := by
  induction l with
  | nil => intros; rfl
  | cons p rest ih =>
    intro n c fr obs nt o
    simp only [eopsK, eops, estepK_eq]
    cases estep E (dr && !soleB all n) all rest n sz p c fr obs nt o with
    | none => rfl
    | some r => cases r with
      | inl s => simp only [Option.bind_some, ih]
      | inr x => rfl

/- ---------- the run ---------- -/
inductive KI where
  | code (c : Code) | inB (id : Nat) | inL (c : Code)

inductive Out where
  | stop (k : List KI)
  | done
  | ret
  | pan (v : AVal)

structure RK where
  c : List Prop
  out : Out
  fr : List (Nat × AVal)
  obs : List AObj
  nt : Nat
  o : List Ora

def exitK (id : Nat) : List KI → Option (List KI)
  | [] => none
  | .inB i :: r => bif Nat.beq i id then some r else exitK id r
  | _ :: r => exitK id r

def run (E : Env) (sz : Nat) : Nat → List KI → List Prop → List (Nat × AVal) → List AObj → Nat → List Ora → Option RK
  | 0, _, _, _, _, _, _ => none
  | _ + 1, [], c, fr, obs, nt, o => some ⟨c, .done, fr, obs, nt, o⟩
  | n + 1, k :: ks, c, fr, obs, nt, o =>
    match k with
    | .inB _ => run E sz n ks c fr obs nt o
    | .inL b => some ⟨c, .stop (.code b :: .inL b :: ks), fr, obs, nt, o⟩
    | .code q => match q with
      | .skip => run E sz n ks c fr obs nt o
      | .seq a b => run E sz n (.code a :: .code b :: ks) c fr obs nt o
      | .block id b => run E sz n (.code b :: .inB id :: ks) c fr obs nt o
      | .loop b => some ⟨c, .stop (.code b :: .inL b :: ks), fr, obs, nt, o⟩
      | .exit id => match exitK id ks with
        | some ks => run E sz n ks c fr obs nt o
        | none => none
      | .ret => some ⟨c, .ret, fr, obs, nt, o⟩
      | .cond x a b => match ev fr x, o with
        | .bool p, .t :: o => run E sz n (.code a :: ks) ((p = true) :: c) fr obs nt o
        | .bool p, .f :: o => run E sz n (.code b :: ks) ((p = false) :: c) fr obs nt o
        | _, _ => none
      | .region _ ops dr => eopsK E dr ops.toList sz (fun c fr obs nt o => run E sz n ks c fr obs nt o) (fun c v obs nt => some ⟨c, .pan v, [], obs, nt, []⟩) 0 ops.toList c fr obs nt o
      | _ => none

end Go.AM
