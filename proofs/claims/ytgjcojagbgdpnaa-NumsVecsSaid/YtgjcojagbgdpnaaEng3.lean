/-
  THE ENGINE, 3: one operation; a region; the run. Over any program.
-/
import Derived.Test.YtgjcojagbgdpnaaEng2
namespace Go.AM

def All : List Prop → Prop
  | [] => True
  | p :: ps => p ∧ All ps

inductive OR where
  | val (c : List Prop) (v : AVal) (o : List Ora)
  | new (c : List Prop) (v : AVal) (x : AObj) (o : List Ora)
  | upd (c : List Prop) (k : Nat) (x : AObj) (o : List Ora)
  | tkn (c : List Prop) (v : AVal) (m : Nat) (o : List Ora)
  | tkc (c : List Prop) (τ : Nat) (v : AVal) (o : List Ora)
  | pan (c : List Prop) (v : AVal)

def ebits : BinOp → IntKind → Int → Int → Int
  | op, k, x, y =>
    let a := BitVec.ofInt k.bits x
    let b := BitVec.ofInt k.bits y
    match op with
    | .and => k.wrap (a &&& b).toNat
    | .or => k.wrap (a ||| b).toNat
    | .xor => k.wrap (a ^^^ b).toNat
    | _ => k.wrap (a &&& ~~~b).toNat

def earith (k : IntKind) (n : Int) (o : List Ora) : Option OR :=
  match o with
  | .wrap :: o => some (.val [] (.int k (k.wrap n)) o)
  | o => some (.val [inR k n] (.int k n) o)

def kbeq : IntKind → IntKind → Bool
  | .i8, .i8 | .i16, .i16 | .i32, .i32 | .i64, .i64 | .u8, .u8 | .u16, .u16 | .u32, .u32 | .u64, .u64 => true
  | _, _ => false

def eint (op : BinOp) (k : IntKind) (x y : Int) (o : List Ora) : Option OR :=
  match op with
  | .add => earith k (x + y) o
  | .sub => earith k (x - y) o
  | .mul => earith k (x * y) o
  | .quo => match o with
    | .wrap :: o => some (.val [y ≠ 0] (.int k (k.wrap (x.tdiv y))) o)
    | o => some (.val [y ≠ 0, inR k (x.tdiv y)] (.int k (x.tdiv y)) o)
  | .rem => some (.val [y ≠ 0] (.int k (x.tmod y)) o)
  | .and => some (.val [] (.int k (ebits .and k x y)) o)
  | .or => some (.val [] (.int k (ebits .or k x y)) o)
  | .xor => some (.val [] (.int k (ebits .xor k x y)) o)
  | .andNot => some (.val [] (.int k (ebits .andNot k x y)) o)
  | .eql => some (.val [] (.bool (x == y)) o)
  | .neq => some (.val [] (.bool (x != y)) o)
  | .lss => some (.val [] (.bool (decide (x < y))) o)
  | .leq => some (.val [] (.bool (decide (x ≤ y))) o)
  | .gtr => some (.val [] (.bool (decide (y < x))) o)
  | .geq => some (.val [] (.bool (decide (y ≤ x))) o)
  | _ => none

/-- rows of integers, cell by cell -/
def ceq : List AVal → List AVal → Option Bool
  | [], [] => some true
  | .int k a :: r, .int k' b :: s => bif kbeq k k' then (match ceq r s with | some c => some ((a == b) && c) | none => none) else none
  | _, _ => none

def clen : List AVal → Nat
  | [] => 0
  | _ :: r => clen r + 1

/-- the flat types, with their sizes -/
def fget : List (Nat × Nat) → Nat → Nat
  | [], _ => 0
  | (i, n) :: r, t => bif Nat.beq i t then n else fget r t

/-- flat: a struct or an array whose cells are integers (of one kind each), compared one by one -/
def ebin (fl : List (Nat × Nat)) (op : BinOp) (t : Nat) (a b : AVal) (o : List Ora) : Option OR :=
  match a, b with
  | .int k x, .int k' y =>
    match op with
    | .shl => match o with
      | .wrap :: o => some (.val [0 ≤ y] (.int k (k.wrap (x * 2 ^ (min y.toNat k.bits)))) o)
      | o => some (.val [0 ≤ y, y.toNat ≤ k.bits, inR k (x * 2 ^ y.toNat)] (.int k (x * 2 ^ y.toNat)) o)
    | .shr => some (.val [0 ≤ y, y.toNat ≤ k.bits] (.int k (x.fdiv (2 ^ y.toNat))) o)
    | op => bif kbeq k k' then eint op k x y o else none
  | .str x, .str y =>
    match op with
    | .add => some (.val [((x.length + y.length : Nat) : Int) ≤ 9223372036854775807] (.str (x ++ y)) o)
    | .eql => some (.val [] (.bool (x == y)) o)
    | .neq => some (.val [] (.bool (!(x == y))) o)
    | .lss => some (.val [] (.bool (Op.bytesLess x y)) o)
    | .leq => some (.val [] (.bool (Op.bytesLess x y || x == y)) o)
    | .gtr => some (.val [] (.bool (!(Op.bytesLess x y || x == y))) o)
    | .geq => some (.val [] (.bool (!Op.bytesLess x y)) o)
    | _ => none
  | .agg xs, .agg ys =>
    bif Nat.blt 0 (fget fl t) && Nat.beq (clen xs) (fget fl t) then
      match op, ceq xs ys with
      | .eql, some c => some (.val [] (.bool c) o)
      | .neq, some c => some (.val [] (.bool (!c)) o)
      | _, _ => none
    else none
  | _, _ => none

def outC (op : BinOp) (c : Bool) (o : List Ora) : Option OR :=
  match op with
  | .eql => some (.val [] (.bool c) o)
  | .neq => some (.val [] (.bool (!c)) o)
  | _ => none

/-- comparisons whose type must be looked at: booleans, and nil -/
def ecmp (T : Tab) (op : BinOp) (t : Nat) (a b : AVal) (o : List Ora) : Option OR :=
  match tget T t with
  | none => none
  | some ti =>
    match ti.kind, a, b with
    | .bool, .bool x, .bool y => outC op (x == y) o
    | .slc _ _ _, .slice _ nl _ _, .slice _ true [] none => outC op nl o
    | .slc _ _ _, .rsl _ _ _ _ _, .slice _ true [] none => outC op false o
    | .ptr _, .nilptr, .nilptr => outC op true o
    | .ptr _, .ref _ _, .nilptr => outC op false o
    | .ptr _, .ptr _, .nilptr => outC op false o
    | _, _, _ => none

def mk (ti : TI) (l : List AVal) : Option AVal :=
  bif ti.agg then some (.agg l) else match l with
    | [c] => some c
    | _ => none

def eload (T : Tab) (obs : List AObj) (t : Nat) (a : AVal) (o : List Ora) : Option OR :=
  match tget T t with
  | none => none
  | some ti =>
    let fin (c : List Prop) (l : Option (List AVal)) (o : List Ora) : Option OR :=
      match l with
      | none => none
      | some l => match mk ti l with
        | none => none
        | some v => some (.val c v o)
    match a with
    | .ptr cs => fin [] (ctake ti.size cs) o
    | .ref k off => match oget obs k with
      | .cells cs => fin [] (ctake ti.size (cdrop off cs)) o
      | _ => none
    | .eref k i sz off => match oget obs k, o with
      | .row sz' xs, .v x :: o => bif Nat.beq sz sz' then fin [xs[i]? = some x] (ctake ti.size (cdrop off x.cells)) o else none
      | _, _ => none
    | _ => none

/-- a value that lies in one cell -/
def one : AVal → Bool
  | .undef | .agg _ | .tup _ => false
  | _ => true
def oneL : List AVal → Bool
  | [] => true
  | c :: r => one c && oneL r

def only1 : List AVal → AVal
  | [c] => c
  | _ => .undef
def remk (x : AVal) (cs : List AVal) : AVal :=
  match x with
  | .agg _ => .agg cs
  | _ => only1 cs

def estore (T : Tab) (obs : List AObj) (t : Nat) (a v : AVal) (o : List Ora) : Option OR :=
  match tget T t with
  | none => none
  | some ti =>
    bif oneL v.cells && Nat.beq (clen v.cells) ti.size then
      match a with
      | .ref k off => match oget obs k with
        | .cells cs => match cputAt off v.cells cs with
          | some cs => some (.upd [] k (.cells cs) o)
          | none => none
        | _ => none
      | .eref k i sz off => match oget obs k, o with
        | .row sz' xs, .v x :: o =>
          bif Nat.beq sz sz' && tokless0L v.cells then
            match cputAt off v.cells x.cells with
            | some cs => cellsK cs fun cs => some (.upd [xs[i]? = some x] k (.row sz (xs.set i (remk x cs))) o)
            | none => none
          else none
        | _, _ => none
      | _ => none
    else none

def nth {α : Type} : List α → Nat → Option α
  | [], _ => none
  | x :: _, 0 => some x
  | _ :: r, n + 1 => nth r n

def efield (T : Tab) (s : Nat) (a : AVal) (f : Nat) (o : List Ora) : Option OR :=
  match tget T s with
  | some { kind := .strct fs, .. } => match nth fs f with
    | none => none
    | some (off, sz, ag) => match a with
      | .agg cs => match ctake sz (cdrop off cs) with
        | none => none
        | some l => bif ag then some (.val [] (.agg l) o) else match l with
          | [c] => some (.val [] c o)
          | _ => none
      | _ => none
  | _ => none

def efieldAddr (T : Tab) (s : Nat) (a : AVal) (f : Nat) (o : List Ora) : Option OR :=
  match tget T s with
  | some { kind := .strct fs, .. } => match nth fs f with
    | none => none
    | some (off, sz, _) =>
      bif Nat.beq sz 0 then none else
      match a with
      | .ptr cs => some (.val [] (.ptr (cdrop off cs)) o)
      | .ref k x => some (.val [] (.ref k (x + off)) o)
      | .eref k i z x => some (.val [] (.eref k i z (x + off)) o)
      | _ => none
  | _ => none

def eindexAddr (T : Tab) (t : Nat) (a i : AVal) (o : List Ora) : Option OR :=
  match tget T t, i with
  | some ti, .int _ n =>
    match ti.kind with
    | .slc _ esz _ => match a with
      | .slice sz _ xs _ => match o with
        | .v x :: o => bif Nat.beq sz esz then some (.val [0 ≤ n, xs[n.toNat]? = some x] (.ptr x.cells) o) else none
        | _ => none
      | .rsl k lo len _ sz => bif Nat.beq sz esz then some (.val [0 ≤ n, n.toNat < len] (.eref k (lo + n.toNat) sz 0) o) else none
      | _ => none
    | .arr len esz _ => match a with
      | .ref k off => some (.val [0 ≤ n, n.toNat < len] (.ref k (off + n.toNat * esz)) o)
      | .ptr cs => some (.val [0 ≤ n, n.toNat < len] (.ptr (cdrop (n.toNat * esz) cs)) o)
      | _ => none
    | _ => none
  | _, _ => none

def eindex (T : Tab) (t : Nat) (a i : AVal) (o : List Ora) : Option OR :=
  match a, i with
  | .str l, .int _ n => match tget T t, o with
    | some { kind := .str, .. }, .v (.int .u8 c) :: o => some (.val [0 ≤ n, (l[n.toNat]?).map (fun (x : UInt8) => (x.toNat : Int)) = some c] (.int .u8 c) o)
    | _, _ => none
  | .agg cs, .int _ n => match tget T t with
    | some { kind := .arr len esz ag, .. } => match ctake esz (cdrop (n.toNat * esz) cs) with
      | some l => bif ag then some (.val [0 ≤ n, n < len] (.agg l) o) else (match l with | [c] => some (.val [0 ≤ n, n < len] c o) | _ => none)
      | none => none
    | _ => none
  | _, _ => none

def notU : AVal → Bool
  | .undef => false
  | _ => true
/-- the parts laid into the cells -/
def efill (place : Nat → Option (Nat × Nat)) : List AVal → List (Nat × AVal) → Option (List AVal)
  | cs, [] => some cs
  | cs, (i, v) :: r => match place i with
    | none => none
    | some (off, sz) => bif notU v && Nat.beq (clen v.cells) sz then (match cputAt off v.cells cs with | some cs => efill place cs r | none => none) else none

def ebuild (T : Tab) (t : Nat) (parts : List (Nat × AVal)) (o : List Ora) : Option OR :=
  match tget T t with
  | some ti => match ti.kind, ti.zero with
    | .strct fs, .agg z => match efill (fun i => (nth fs i).map fun f => (f.1, f.2.1)) z parts with
      | some cs => some (.val [] (.agg cs) o)
      | none => none
    | .arr _ esz _, .agg z => match efill (fun i => some (i * esz, esz)) z parts with
      | some cs => some (.val [] (.agg cs) o)
      | none => none
    | _, _ => none
  | _ => none

/-- the elements of a slice that is written out: each is given, in order -/
def eelems (esz : Nat) : Nat → List (Nat × AVal) → Option (List AVal)
  | _, [] => some []
  | n, (i, v) :: r => bif Nat.beq i n && Nat.beq (clen v.cells) esz && oneL v.cells && tokless0L v.cells then (match eelems esz (n + 1) r with | some l => some (v :: l) | none => none) else none

def plen : List (Nat × AVal) → Nat
  | [] => 0
  | _ :: r => plen r + 1

def ebuildSlice (T : Tab) (dr : Bool) (nt t len : Nat) (parts : List (Nat × AVal)) (o : List Ora) : Option OR :=
  match tget T t with
  | some { kind := .slc e esz _, .. } =>
    bif Nat.beq (plen parts) len && Nat.ble (len * esz) 1000 && Nat.ble 1 esz then
      match eelems esz 0 parts with
      | some xs => bif dr then some (.val [] (.slice esz false xs none) o) else some (.tkn [] (.slice esz false xs (some (nt, e))) 1 o)
      | none => none
    else none
  | _ => none

def evL (fr : List (Nat × AVal)) : List (Nat × Operand) → List (Nat × AVal)
  | [] => []
  | (i, x) :: r => (i, ev fr x) :: evL fr r
def evO (fr : List (Nat × AVal)) : List Operand → List AVal
  | [] => []
  | x :: r => ev fr x :: evO fr r

def eslice (T : Tab) (t : Nat) (a : AVal) (lo hi mx : Option AVal) (o : List Ora) : Option OR :=
  let get : Option AVal → Option (Option Int)
    | none => some none
    | some (.int _ n) => some (some n)
    | some _ => none
  match get lo, get hi, get mx, tget T t with
  | some lo, some hi, some mx, some ti =>
    match a with
    | .str l => match ti.kind, mx with
      | .str, none => match lo, hi with
        | none, none => some (.val [] (.str l) o)
        | some x, none => some (.val [0 ≤ x, x.toNat ≤ l.length] (.str (l.drop x.toNat)) o)
        | none, some y => some (.val [0 ≤ y, y.toNat ≤ l.length] (.str (l.take y.toNat)) o)
        | some x, some y => some (.val [0 ≤ x, x ≤ y, y.toNat ≤ l.length] (.str ((l.take y.toNat).drop x.toNat)) o)
      | _, _ => none
    | .slice sz nl xs _ => match ti.kind with
      | .slc _ esz _ => bif Nat.beq sz esz then
          match mx with
          | none => match lo, hi with
            | none, none => some (.val [] (.slice sz nl xs none) o)
            | some x, none => some (.val [0 ≤ x, x.toNat ≤ xs.length] (.slice sz nl (xs.drop x.toNat) none) o)
            | none, some y => some (.val [0 ≤ y, y.toNat ≤ xs.length] (.slice sz nl (xs.take y.toNat) none) o)
            | some x, some y => some (.val [0 ≤ x, x ≤ y, y.toNat ≤ xs.length] (.slice sz nl ((xs.take y.toNat).drop x.toNat) none) o)
          | some m => match lo, hi with
            | none, some y => some (.val [0 ≤ y, y.toNat ≤ xs.length, m = y] (.full sz nl (xs.take y.toNat)) o)
            | _, _ => none
        else none
      | _ => none
    | .ref k off => match ti.kind, lo, hi, mx with
      | .arr len esz _, none, none, none => some (.val [] (.csl k off len esz) o)
      | _, _, _, _ => none
    | .ptr cs => match ti.kind, lo, hi, mx with
      | .arr len 1 false, none, none, none => match ctake len cs with
        | some l => bif oneL l then some (.val [] (.slice 1 false l none) o) else none
        | none => none
      | _, _, _, _ => none
    | _ => none
  | _, _, _, _ => none

def econv (T : Tab) (s d : Nat) (a : AVal) (o : List Ora) : Option OR :=
  match tget T s, tget T d with
  | some ts, some td =>
    match td.kind, a with
    | .int k, .int _ n => match o with
      | .wrap :: o => some (.val [] (.int k (k.wrap n)) o)
      | o => some (.val [inR k n] (.int k n) o)
    | .str, .str l => match ts.kind with | .str => some (.val [] (.str l) o) | _ => none
    | .str, .slice 1 _ xs _ => match ts.kind, o with
      | .slc e 1 _, .v (.str l) :: o => match tget T e with
        | some { kind := .int .u8, .. } => some (.val [xs = l.map fun c => .int .u8 c.toNat] (.str l) o)
        | _ => none
      | _, _ => none
    | _, _ => none
  | _, _ => none

def elen (T : Tab) (t : Nat) (a : AVal) (o : List Ora) : Option OR :=
  match tget T t with
  | none => none
  | some ti => match ti.kind, a with
    | .str, .str l => some (.val [] (.int .i64 l.length) o)
    | .slc _ _ _, .slice _ _ xs _ => some (.val [] (.int .i64 xs.length) o)
    | .slc _ _ _, .rsl _ _ len _ _ => some (.val [] (.int .i64 len) o)
    | .arr n _ _, _ => some (.val [] (.int .i64 n) o)
    | _, _ => none

def nlApp (nl : Bool) : List AVal → Bool
  | [] => nl
  | _ :: _ => false

def eappend (T : Tab) (nt : Nat) (t : Nat) (s x : AVal) (o : List Ora) : Option OR :=
  match tget T t with
  | some { kind := .slc e esz eb, .. } =>
    bif Nat.ble 1 esz then
      match x with
      | .slice sz _ ys _ =>
        bif Nat.beq sz esz then
          match s with
          | .slice sz' nl xs t => match t with
            | some (τ, e') =>
              bif Nat.beq sz' esz && Nat.beq e e' then some (.tkc [xs.length + ys.length ≤ maxLen, (xs.length + ys.length) * eb ≤ 140737488355328] τ (.slice esz (nlApp nl ys) (xs ++ ys) (some (τ, e))) o) else none
            | none => match nl, xs with
              | true, [] => some (.tkn [ys.length ≤ maxLen, ys.length * eb ≤ 140737488355328] (.slice esz (nlApp true ys) ys (some (nt, e))) 1 o)
              | _, _ => none
          | .full sz' _ xs => match ys with
            | _ :: _ => bif Nat.beq sz' esz then some (.tkn [xs.length + ys.length ≤ maxLen, (xs.length + ys.length) * eb ≤ 140737488355328] (.slice esz false (xs ++ ys) (some (nt, e))) 1 o) else none
            | [] => none
          | _ => none
        else none
      | _ => none
    else none
  | _ => none

def ecall (P : Program) (obs : List AObj) (nt : Nat) (f : FuncId) (args : List AVal) (o : List Ora) : Option OR :=
  match o with
  | .call r :: o => bif tokless r then cellsK (shL [] args) fun as => some (.val [CallOK P f as [] 0 (.ret r) [] 0] r o) else none
  | .callS r :: o => bif plain r then cellsK (shL obs args) fun as => some (.val [CallOK P f as [] 0 (.ret r) [] 0] r o) else none
  | .callT r m :: o => bif refless r then cellsK (shL [] args) fun as => some (.tkn [CallOK P f as [] 0 (.ret r) [] m] (shift nt r) m o) else none
  | .pan r :: _ => bif tokless r then cellsK (shL [] args) fun as => some (.pan [CallOK P f as [] 0 (.pan r) [] 0] r) else none
  | _ => none

def app3 : List AVal → List AVal → List AVal
  | [], l => l
  | c :: r, l => c :: app3 r l

def partsK {α : Type} : List (Nat × AVal) → (List (Nat × AVal) → Option α) → Option α
  | [], k => k []
  | (i, v) :: r, k => v.K1 fun v => partsK r fun r => k ((i, v) :: r)
theorem partsK_eq {α : Type} (l : List (Nat × AVal)) : ∀ (k : List (Nat × AVal) → Option α), partsK l k = k l := by
  induction l with
  | nil => intro k; rfl
  | cons c r ih => intro k; obtain ⟨i, v⟩ := c; simp only [partsK, AVal.K1_eq, ih]

/-- All that the evaluator must know of the program's tables. -/
structure Env where
  P : Program
  T : Tab
  mt : MTab
  fl : List (Nat × Nat)

/-- a new row -/
def emake (T : Tab) (k : Nat) (t : Nat) (n c : AVal) (o : List Ora) : Option OR :=
  match tget T t, n, c with
  | some { kind := .slc e esz eb, .. }, .int _ a, .int _ b => match tget T e with
    | some te => bif Nat.ble 1 esz && Nat.beq (clen te.zero.cells) esz then
        some (.new [0 ≤ a, a ≤ b, (eb : Int) * b ≤ 281474976710656, b ≤ 9223372036854775807] (.rsl k 0 a.toNat b.toNat esz) (.row esz (List.replicate b.toNat te.zero)) o)
      else none
    | none => none
  | _, _, _ => none

/-- the text of a row of bytes -/
def econvR (T : Tab) (obs : List AObj) (s d : Nat) (k lo len : Nat) (o : List Ora) : Option OR :=
  match tget T s, tget T d with
  | some { kind := .slc e 1 _, .. }, some { kind := .str, .. } => match tget T e, oget obs k, o with
    | some { kind := .int .u8, .. }, .row 1 xs, .v (.str l) :: o => some (.val [(xs.drop lo).take len = l.map (fun c => AVal.int .u8 c.toNat), l.length = len] (.str l) o)
    | _, _, _ => none
  | _, _ => none

def eop (E : Env) (dr : Bool) (fr : List (Nat × AVal)) (obs : List AObj) (nt : Nat) (op : Op) (ty : TypeId) (o : List Ora) : Option OR :=
  match op with
  | .move x => some (.val [] (ev fr x) o)
  | .assign x => match ev fr x with
    | .slice 0 true [] none => match tget E.T ty with
      | some { kind := .slc e esz _, .. } => bif dr then some (.val [] (.slice esz true [] none) o) else some (.tkn [] (.slice esz true [] (some (nt, e))) 1 o)
      | _ => some (.val [] (.slice 0 true [] none) o)
    | v => some (.val [] v o)
  | .pick c a b => match ev fr c with
    | .bool true => some (.val [] (ev fr a) o)
    | .bool false => some (.val [] (ev fr b) o)
    | _ => none
  | .alloc t => match tget E.T t with
    | some ti => bif oneL ti.zero.cells then some (.new [] (.ref (olen obs) 0) (.cells ti.zero.cells) o) else none
    | none => none
  | .box _ x => bif oneL (ev fr x).cells then some (.new [] (.ref (olen obs) 0) (.cells (ev fr x).cells) o) else none
  | .build t ps => partsK (evL fr ps.toList) fun ps => ebuild E.T t ps o
  | .buildSlice t n ps => partsK (evL fr ps.toList) fun ps => ebuildSlice E.T dr nt t n ps o
  | .load t a => eload E.T obs t (ev fr a) o
  | .store t a x => estore E.T obs t (ev fr a) (ev fr x) o
  | .nilCheck x => match ev fr x with
    | .ref k off => some (.val [] (.ref k off) o)
    | .eref k i sz off => some (.val [] (.eref k i sz off) o)
    | .ptr cs => some (.val [] (.ptr cs) o)
    | .func (.func f) fs cs => some (.val [] (.func (.func f) fs cs) o)
    | .iface t v => some (.val [] (.iface t v) o)
    | _ => none
  | .binOp op t x y _ => match ebin E.fl op t (ev fr x) (ev fr y) o with
    | some r => some r
    | none => ecmp E.T op t (ev fr x) (ev fr y) o
  | .unOp op _ x => match op, ev fr x with
    | .not, .bool b => some (.val [] (.bool (!b)) o)
    | .neg, .int k n => earith k (0 - n) o
    | .xor, .int k n => some (.val [] (.int k (ebits .xor k (if k.signed then -1 else k.max) n)) o)
    | _, _ => none
  | .convert s d x => match ev fr x with
    | .rsl k lo len _ 1 => econvR E.T obs s d k lo len o
    | v => econv E.T s d v o
  | .makeSlice t n c => emake E.T (olen obs) t (ev fr n) (ev fr c) o
  | .makeInterface t x => match tget E.T t with
    | some ti => (match ti.kind with | .iface => none | _ => some (.val [] (.iface t (ev fr x)) o))
    | none => none
  | .makeFunc fn fs cs => some (.val [] (.func fn (evO fr fs.toList) (evO fr cs.toList)) o)
  | .slice t x lo hi mx => eslice E.T t (ev fr x) (lo.map (ev fr)) (hi.map (ev fr)) (mx.map (ev fr)) o
  | .fieldAddr t x f => efieldAddr E.T t (ev fr x) f o
  | .field t x f => efield E.T t (ev fr x) f o
  | .indexAddr t x i => eindexAddr E.T t (ev fr x) (ev fr i) o
  | .index t x i => eindex E.T t (ev fr x) (ev fr i) o
  | .extract x i => match ev fr x with
    | .tup vs => match nth vs i with | some v => some (.val [] v o) | none => none
    | _ => none
  | .panic x => match ev fr x with
    | .iface t v => bif tokless (.iface t v) then some (.pan [] (.iface t v)) else none
    | _ => none
  | .typeAssert x _ t ok => match tget E.T t, ev fr x with
    | some ti, .iface u v => (match ti.kind with
      | .iface => none
      | _ => bif Nat.beq u t then some (.val [] (bif ok then .tup [v, .bool true] else v) o) else (bif ok then some (.val [] (.tup [ti.zero, .bool false]) o) else none))
    | some ti, .nilif => (match ti.kind with
      | .iface => none
      | _ => bif ok then some (.val [] (.tup [ti.zero, .bool false]) o) else none)
    | _, _ => none
  | .call c => match c.callee with
    | .value f => match ev fr f with
      | .func (.func g) fs cs => ecall E.P obs nt g (app3 (app3 fs (evO fr c.args.toList)) cs) o
      | _ => none
    | .invoke r name => match ev fr r with
      | .iface t v => match mget E.mt t name with
        | some g => ecall E.P obs nt g (v :: evO fr c.args.toList) o
        | none => none
      | _ => none
    | .builtin b => match b, c.args.toList, c.argTypes.toList with
      | .len, [x], [t] => elen E.T t (ev fr x) o
      | .min, [x, y], _ => (match ev fr x, ev fr y with | .int k a, .int _ b => some (.val [] (.int k (min a b)) o) | _, _ => none)
      | .max, [x, y], _ => (match ev fr x, ev fr y with | .int k a, .int _ b => some (.val [] (.int k (max a b)) o) | _, _ => none)
      | .append, [x, y], [t, t2] => bif (!dr && Nat.beq t t2) then eappend E.T nt t (ev fr x) (ev fr y) o else none
      | _, _, _ => none
  | _ => none
end Go.AM
