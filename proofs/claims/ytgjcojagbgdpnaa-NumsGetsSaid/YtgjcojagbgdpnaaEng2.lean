/-
  THE ENGINE, 2: the evaluator: the program's operations on abstract values. Over any program.
-/
import Derived.Test.YtgjcojagbgdpnaaEng1
namespace Go.AM

inductive TK where
  | int (k : IntKind) | bool | str | strct (fs : List (Nat × Nat × Bool)) | arr (n esz : Nat) (eagg : Bool) | slc (e esz ebytes : Nat) | ptr (e : Nat) | iface | other
structure TI where
  kind : TK
  size : Nat
  agg : Bool
  zero : AVal

abbrev Tab := List (Nat × TI)
def tget : Tab → Nat → Option TI
  | [], _ => none
  | (i, x) :: r, n => bif Nat.beq i n then some x else tget r n

/-- methods: dynamic type, name, function -/
abbrev MTab := List (Nat × String × Nat)
def mget : MTab → Nat → String → Option Nat
  | [], _, _ => none
  | (i, s, f) :: r, n, m => bif (Nat.beq i n && s == m) then some f else mget r n m

inductive Ora where
  | t | f | wrap
  | v (x : AVal)
  | call (r : AVal)                 -- a pure call: its result
  | callT (r : AVal) (m : Nat)      -- a pure call that hands over m rows
  | callS (r : AVal)                -- a pure call with a plain result; objects of ours are shown to it
  | pan (r : AVal)                  -- a pure call that panics
  | freeze (k : Nat)

inductive Res where
  | ret (a : AVal)
  | pan (a : AVal)

def EndRep (M : Imm) (ob : List Nat) (tk : List Tok) : Ending → Res → Prop
  | .returned v, .ret a => Rep M ob tk v a
  | .panicked ch, .pan a => ∃ v, ch = [{ v, recovered := false }] ∧ Rep M ob tk v a
  | _, _ => False

def RepL (M : Imm) (ob : List Nat) (tk : List Tok) (vs : List Value) (as : List AVal) : Prop :=
  vs.length = as.length ∧ ∀ (i : Nat) v a, vs[i]? = some v → as[i]? = some a → Rep M ob tk v a

/-- It has a body, and is entered. -/
def BodyOK (P : Program) (f : FuncId) : Prop := ∀ (args : Array Value) (w : World), (callFunc f args).run P w = .ok (.enter f args) w

/-- A CONTRACT. The callee's objects are numbered from 0 on: those that it is handed first. -/
def CallOK (P : Program) (f : FuncId) (args : List AVal) (obs : List AObj) (nt : Nat) (r : Res) (obs' : List AObj) (nt' : Nat) : Prop :=
  BodyOK P f ∧ ∀ M ob tk w vargs, Mem M ob tk obs w → tk.length = nt → RepL M ob tk vargs args →
    Calls P f vargs.toArray w fun e w' => ∃ M' ob' tk', Ext M ob tk w M' ob' tk' w' ∧ Mem M' ob' tk' obs' w' ∧ tk'.length = nt' ∧ EndRep M' ob' tk' e r

/- ---------- frames ---------- -/
def getS : List (Nat × AVal) → Nat → AVal
  | [], _ => .undef
  | (i, v) :: r, n => bif Nat.beq i n then v else getS r n

def putS : List (Nat × AVal) → Nat → AVal → List (Nat × AVal)
  | [], n, x => [(n, x)]
  | (i, v) :: r, n, x => bif Nat.beq i n then (n, x) :: r else (i, v) :: putS r n x

def oget : List AObj → Nat → AObj
  | [], _ => .dead
  | x :: _, 0 => x
  | _ :: r, n + 1 => oget r n
def oset : List AObj → Nat → AObj → List AObj
  | [], _, _ => []
  | _ :: r, 0, y => y :: r
  | x :: r, n + 1, y => x :: oset r n y
def olen : List AObj → Nat
  | [] => 0
  | _ :: r => olen r + 1

/- lists of cells, by hand: so that they reckon -/
def cdrop : Nat → List AVal → List AVal
  | 0, l => l
  | _ + 1, [] => []
  | n + 1, _ :: l => cdrop n l
def ctake : Nat → List AVal → Option (List AVal)
  | 0, _ => some []
  | _ + 1, [] => none
  | n + 1, c :: l => match ctake n l with | some r => some (c :: r) | none => none
/-- the first cells of the second list replaced by the first -/
def cput : List AVal → List AVal → Option (List AVal)
  | [], l => some l
  | _ :: _, [] => none
  | c :: r, _ :: l => match cput r l with | some x => some (c :: x) | none => none
def cputAt : Nat → List AVal → List AVal → Option (List AVal)
  | 0, new, l => cput new l
  | _ + 1, _, [] => none
  | n + 1, new, c :: l => match cputAt n new l with | some x => some (c :: x) | none => none

/-- a constant -/
def cval : Value → AVal
  | .bool b => .bool b
  | .int k n => .int k n
  | .string s => .str s.data.toList
  | .slice none 0 0 => .slice 0 true [] none
  | .pointer none => .nilptr
  | .nilFunc => .nilfunc
  | .nilIface => .nilif
  | _ => .undef

def ev (fr : List (Nat × AVal)) : Operand → AVal
  | .tmp t => getS fr t
  | .const v => cval v
  | .func f => .func (.func f) [] []
  | .global _ => .undef

def kmin : IntKind → Int
  | .i8 => -128 | .i16 => -32768 | .i32 => -2147483648 | .i64 => -9223372036854775808 | _ => 0
def kmax : IntKind → Int
  | .i8 => 127 | .i16 => 32767 | .i32 => 2147483647 | .i64 => 9223372036854775807
  | .u8 => 255 | .u16 => 65535 | .u32 => 4294967295 | .u64 => 18446744073709551615
def inR (k : IntKind) (n : Int) : Prop := kmin k ≤ n ∧ n ≤ kmax k

/-- plain data that lies in one cell, with no memory of its own, or immutable memory -/
def pure0 : AVal → AVal
  | .bool b => .bool b
  | .int k n => .int k n
  | .str l => .str l
  | .slice sz nl xs _ => .slice sz nl xs none
  | .full sz nl xs => .slice sz nl xs none
  | .ptr cs => .ptr cs
  | .nilptr => .nilptr
  | .nilfunc => .nilfunc
  | .nilif => .nilif
  | _ => .undef
def pure0L : List AVal → List AVal
  | [] => []
  | c :: r => pure0 c :: pure0L r

/-- what a call is shown: tokens struck; objects as immutable memory -/
def sh0 (obs : List AObj) : AVal → AVal
  | .ref k off => match oget obs k with
    | .cells cs => .ptr (pure0L (cdrop off cs))
    | _ => .undef
  | .rsl _ _ _ _ _ => .undef
  | .csl k off len sz => match oget obs k with
    | .cells cs => bif Nat.beq sz 1 then (match ctake len (cdrop off cs) with | some l => .slice 1 false (pure0L l) none | none => .undef) else .undef
    | _ => .undef
  | v => pure0 v
def sh0L (obs : List AObj) : List AVal → List AVal
  | [] => []
  | c :: r => sh0 obs c :: sh0L obs r
def sh1 (obs : List AObj) : AVal → AVal
  | .func fn fs cs => .func fn (sh0L obs fs) (sh0L obs cs)
  | .agg cs => .agg (sh0L obs cs)
  | v => sh0 obs v
def sh1L (obs : List AObj) : List AVal → List AVal
  | [] => []
  | c :: r => sh1 obs c :: sh1L obs r
def sh (obs : List AObj) : AVal → AVal
  | .func fn fs cs => .func fn (sh0L obs fs) (sh1L obs cs)
  | .agg cs => .agg (sh1L obs cs)
  | .iface t v => .iface t (sh1 obs v)
  | v => sh0 obs v
def shL (obs : List AObj) : List AVal → List AVal
  | [] => []
  | c :: r => sh obs c :: shL obs r

/-- a result that holds no memory -/
def plain0 : AVal → Bool
  | .bool _ | .int _ _ | .str _ | .nilptr | .nilfunc | .nilif => true
  | _ => false
def plain0L : List AVal → Bool
  | [] => true
  | c :: r => plain0 c && plain0L r
def plain : AVal → Bool
  | .agg cs => plain0L cs
  | .tup cs => plain0L cs
  | .iface _ v => (match v with | .agg cs => plain0L cs | v => plain0 v)
  | v => plain0 v

/-- a result with no token and no object -/
def tokless0 : AVal → Bool
  | .slice _ _ _ none => true
  | .ptr _ => true
  | v => plain0 v
def tokless0L : List AVal → Bool
  | [] => true
  | c :: r => tokless0 c && tokless0L r
def tokless1 : AVal → Bool
  | .agg cs => tokless0L cs
  | v => tokless0 v
def tokless1L : List AVal → Bool
  | [] => true
  | c :: r => tokless1 c && tokless1L r
def tokless : AVal → Bool
  | .agg cs => tokless0L cs
  | .tup cs => tokless1L cs
  | .iface _ v => tokless1 v
  | v => tokless0 v

/-- tokens numbered from m on -/
def shift0 (m : Nat) : AVal → AVal
  | .slice sz nl xs (some (τ, e)) => .slice sz nl xs (some (m + τ, e))
  | v => v
def shift0L (m : Nat) : List AVal → List AVal
  | [] => []
  | c :: r => shift0 m c :: shift0L m r
def shift1 (m : Nat) : AVal → AVal
  | .agg cs => .agg (shift0L m cs)
  | v => shift0 m v
def shift1L (m : Nat) : List AVal → List AVal
  | [] => []
  | c :: r => shift1 m c :: shift1L m r
def shift (m : Nat) : AVal → AVal
  | .agg cs => .agg (shift0L m cs)
  | .tup cs => .tup (shift1L m cs)
  | v => shift0 m v
/-- it holds tokens, and no object -/
def refless0 : AVal → Bool
  | .slice _ _ _ _ => true
  | v => tokless0 v
def refless0L : List AVal → Bool
  | [] => true
  | c :: r => refless0 c && refless0L r
def refless1 : AVal → Bool
  | .agg cs => refless0L cs
  | v => refless0 v
def refless1L : List AVal → Bool
  | [] => true
  | c :: r => refless1 c && refless1L r
def refless : AVal → Bool
  | .agg cs => refless0L cs
  | .tup cs => refless1L cs
  | v => refless0 v

/-- a token is used up: every other holder lets go of it -/
def unt0 (τ : Nat) : AVal → AVal
  | .slice sz nl xs (some (σ, e)) => bif Nat.beq σ τ then .slice sz nl xs none else .slice sz nl xs (some (σ, e))
  | .agg _ | .tup _ | .func _ _ _ | .iface _ _ => .undef
  | v => v
def unt0L (τ : Nat) : List AVal → List AVal
  | [] => []
  | c :: r => unt0 τ c :: unt0L τ r
def unt1 (τ : Nat) : AVal → AVal
  | .agg cs => .agg (unt0L τ cs)
  | v => unt0 τ v
def unt1L (τ : Nat) : List AVal → List AVal
  | [] => []
  | c :: r => unt1 τ c :: unt1L τ r
/-- what holds tokens where 'untS' does not look is dropped -/
def untS (τ : Nat) : AVal → AVal
  | .agg cs => .agg (unt0L τ cs)
  | .tup cs => .tup (unt1L τ cs)
  | .func fn fs cs => bif plainOrRefL fs && plainOrRefL cs then .func fn fs cs else .undef
  | .iface t v => bif tokless1 v then .iface t v else .undef
  | v => unt0 τ v
where
  plainOrRef : AVal → Bool
    | .ref _ _ => true
    | v => tokless0 v
  plainOrRefL : List AVal → Bool
    | [] => true
    | c :: r => plainOrRef c && plainOrRefL r

/- forcing: so that what stands in a frame is always written out -/
def AVal.K1 {α : Type} (v : AVal) (k : AVal → Option α) : Option α :=
  match v with
  | .undef => k .undef
  | .bool b => k (.bool b)
  | .int kk n => k (.int kk n)
  | .str l => k (.str l)
  | .slice sz nl xs t => (match t with | none => k (.slice sz nl xs none) | some (τ, e) => k (.slice sz nl xs (some (τ, e))))
  | .agg cs => k (.agg cs)
  | .tup vs => k (.tup vs)
  | .ptr cs => k (.ptr cs)
  | .ref a b => k (.ref a b)
  | .eref a b c d => k (.eref a b c d)
  | .rsl a b c d e => k (.rsl a b c d e)
  | .csl a b c d => k (.csl a b c d)
  | .full a b c => k (.full a b c)
  | .nilptr => k .nilptr
  | .func fn fs cs => k (.func fn fs cs)
  | .nilfunc => k .nilfunc
  | .iface t v => k (.iface t v)
  | .nilif => k .nilif
theorem AVal.K1_eq {α : Type} (v : AVal) (k : AVal → Option α) : v.K1 k = k v := by
  cases v <;> try rfl
  rename_i t; cases t <;> rfl

def cellsK {α : Type} : List AVal → (List AVal → Option α) → Option α
  | [], k => k []
  | c :: r, k => c.K1 fun c => cellsK r fun r => k (c :: r)
theorem cellsK_eq {α : Type} (l : List AVal) : ∀ (k : List AVal → Option α), cellsK l k = k l := by
  induction l with
  | nil => intro k; rfl
  | cons c r ih => intro k; simp only [cellsK, AVal.K1_eq, ih]

end Go.AM
