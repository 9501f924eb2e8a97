/- Own framework, part A: the meaning of each operation of the loaded code as a plain proposition on values and heap blocks. -/
import Derived.CallsIn
import Derived.Laws.Sem
import Derived.Laws.World
import Derived.KernelRfl
set_option linter.unusedVariables false
namespace Go.Proofs.YtgnmelnohclpgaaDoor
open Go

abbrev Fr (rd : Option Nat) : Fence := { Fence.wide with round := rd }
abbrev Cont := Value → World → Prop

def callX (P : Program) (f : FuncId) (args : List Value) (w : World) (K : Cont) : Prop :=
  Calls P f args.toArray w (fun e w' => ∃ v, e = .returned v ∧ K v w')

theorem callX.mono {P : Program} {f : FuncId} {args : List Value} {w : World} {K K' : Cont} (h : callX P f args w K) (hk : ∀ v w', K v w' → K' v w') : callX P f args w K' :=
  Calls.mono h (fun _ _ ⟨v, he, hv⟩ => ⟨v, he, hk v _ hv⟩)

/-! ### What is known of a temporary: a value, a bool that is decided, or that it was passed over. -/
inductive SV where
  | v (x : Value)
  | b (t : Bool)
  | no
def SV.val : SV → Value
  | .v x => x
  | .b t => .bool t
  | .no => undef
abbrev Env := Nat → Option SV

def Env.put (e : Env) (n : Nat) (d : Option Tmp) (s : SV) : Env :=
  match d with
  | none => e
  | some d => fun i => bif Nat.beq i d then (bif Nat.blt d n then some s else none) else e i
def Env.drop (e : Env) (l : List Nat) : Env := fun i => bif l.any (Nat.beq i) then none else e i

def ev (e : Env) : Operand → Option SV
  | .tmp t => e t
  | .const (.bool t) => some (.b t)
  | .const v => some (.v v)
  | .global g => some (.v (.pointer (some ⟨g, 0, none⟩)))
  | .func f => some (.v (.func (.func f) #[] #[]))

def w1 (o : Option SV) (f : Value → Prop) : Prop := match o with | some s => f s.val | none => False

def evs (e : Env) : List Operand → Option (List Value)
  | [] => some []
  | x :: l => match ev e x, evs e l with
    | some s, some vs => some (s.val :: vs)
    | _, _ => none
def wl (o : Option (List Value)) (f : List Value → Prop) : Prop := match o with | some l => f l | none => False
/-- an operand that need not be there -/
def wo (e : Env) (x : Option Operand) (f : Option Value → Prop) : Prop := match x with
  | none => f none
  | some x => w1 (ev e x) fun v => f (some v)

/-- what a block is -/
def AtX (w : World) (b : Nat) (o : Obj) : Prop := w.heap[b]? = some o
/-- a measure falls -/
def lessN (a b : Nat) : Prop := a < b

/-! ### Worlds -/
structure Same (w w' : World) : Prop where
  os : w'.os = w.os
  tape : w'.tape = w.tape
  output : w'.output = w.output
/-- one new block -/
structure New (w w' : World) (b : Nat) (o : Obj) : Prop where
  isNew : b = w.heap.size
  size : w'.heap.size = w.heap.size + 1
  obj : w'.heap[b]? = some o
  old : ∀ r, r < w.heap.size → w'.heap[r]? = w.heap[r]?
  same : Same w w'
/-- one block is another one -/
structure Sto (w w' : World) (b : Nat) (o : Obj) : Prop where
  size : w'.heap.size = w.heap.size
  obj : w'.heap[b]? = some o
  old : ∀ r, r ≠ b → w'.heap[r]? = w.heap[r]?
  same : Same w w'

def putAll : Array Value → Nat → List Value → Array Value
  | c, _, [] => c
  | c, o, v :: l => putAll (c.setIfInBounds o v) (o + 1) l
/-- nothing of n cells from off on is frozen -/
def thawed (fz : Nat × Nat) (off n : Nat) : Prop := ∀ i, i < n → ¬ (fz.1 ≤ off + i ∧ off + i < fz.2)

/-! ### The operations -/
def pickX (c a b : Value) (K : Value → Prop) : Prop := match c with
  | .bool t => K (bif t then a else b)
  | _ => False
/-- a test -/
def brX (c : Value) (p q : Prop) : Prop := match c with
  | .bool t => (t = true → p) ∧ (t = false → q)
  | _ => False

def load1X (a : Value) (w : World) (K : Value → Prop) : Prop := match a with
  | .pointer (some p) => ∃ v, w.cell? p = some v ∧ K v
  | _ => False
def loadNX (n : Nat) (a : Value) (w : World) (K : Value → Prop) : Prop := match a with
  | .pointer (some p) => ∃ l : List Value, l.length = n ∧ (∀ (i : Nat) (v : Value), l[i]? = some v → w.cell? (p.add i) = some v) ∧ K (.agg l.toArray)
  | _ => False
def store1X (a v : Value) (w : World) (K : World → Prop) : Prop := match a with
  | .pointer (some ⟨b, off, none⟩) => v.oneCell' = true ∧ ∃ c t fz, w.heap[b]? = some (.cells c t fz) ∧ off < c.size ∧ thawed fz off 1 ∧ ∀ w', Sto w w' b (.cells (c.setIfInBounds off v) t fz) → K w'
  | _ => False
def storeNX (n : Nat) (a v : Value) (w : World) (K : World → Prop) : Prop := match a, v with
  | .pointer (some ⟨b, off, none⟩), .agg cs => cs.toList.length = n ∧ (∀ x ∈ cs.toList, x.oneCell' = true) ∧ ∃ c t fz, w.heap[b]? = some (.cells c t fz) ∧ off + n ≤ c.size ∧ thawed fz off n ∧
      ∀ w', Sto w w' b (.cells (putAll c off cs.toList) t fz) → K w'
  | _, _ => False

def zeroOf (P : Program) (t : TypeId) : List Value := match (P.info? t).bind (·.zero) with
  | some v => v.cells.toList
  | none => []
def newX (t : TypeId) (cs : List Value) (w : World) (K : Cont) : Prop := ∀ b w', New w w' b (.cells cs.toArray t (0, 0)) → K (.pointer (some ⟨b, 0, none⟩)) w'
def boxX (t : TypeId) (v : Value) (w : World) (K : Cont) : Prop := ∀ b w', New w w' b (.cells v.cells t (0, 0)) → K (.pointer (some ⟨b, 0, none⟩)) w'

def fieldAddrX (off : Nat) (a : Value) (K : Value → Prop) : Prop := match a with
  | .pointer (some p) => K (.pointer (some (p.add off)))
  | _ => False
def indexSX (s : Nat) (x i : Value) (K : Value → Prop) : Prop := match x, i with
  | .slice (some p) len _, .int _ n => 0 ≤ n ∧ n < len ∧ K (.pointer (some (p.add (n.toNat * s))))
  | _, _ => False
def indexAX (len s : Nat) (x i : Value) (K : Value → Prop) : Prop := match x, i with
  | .pointer (some p), .int _ n => 0 ≤ n ∧ n < len ∧ K (.pointer (some (p.add (n.toNat * s))))
  | _, _ => False
def indexStrX (x i : Value) (K : Value → Prop) : Prop := match x, i with
  | .string s, .int _ n => 0 ≤ n ∧ ∃ b, s[n.toNat]? = some b ∧ K (.int .u8 b.toNat)
  | _, _ => False
def indexVX (len : Nat) (x i : Value) (K : Value → Prop) : Prop := match x, i with
  | .agg cs, .int _ n => 0 ≤ n ∧ n < len ∧ ∃ v, cs[n.toNat]? = some v ∧ K v
  | _, _ => False
def fieldX (off : Nat) (x : Value) (K : Value → Prop) : Prop := match x with
  | .agg cs => ∃ v, cs[off]? = some v ∧ K v
  | _ => False
def fieldNX (off n : Nat) (x : Value) (K : Value → Prop) : Prop := match x with
  | .agg cs => K (.agg (cs.extract off (off + n)))
  | _ => False
def extractX (x : Value) (i : Nat) (K : Value → Prop) : Prop := match x with
  | .tuple vs => ∃ v, vs[i]? = some v ∧ K v
  | _ => False

def nilX (x : Value) (K : Value → Prop) : Prop := match x with
  | .pointer (some p) => K (.pointer (some p))
  | .func (.func f) a b => K (.func (.func f) a b)
  | .func (.yield f) a b => K (.func (.yield f) a b)
  | .iface t v => K (.iface t v)
  | _ => False
def notX (x : Value) (K : Value → Prop) : Prop := match x with
  | .bool t => K (.bool (!t))
  | _ => False
def negX (x : Value) (K : Value → Prop) : Prop := match x with
  | .int k n => K (.int k (k.wrap (0 - n)))
  | _ => False
def bitsV (k : IntKind) (f : BitVec k.bits → BitVec k.bits → BitVec k.bits) (a b : Int) : Int := k.wrap (f (BitVec.ofInt k.bits a) (BitVec.ofInt k.bits b)).toNat
def cplX (x : Value) (K : Value → Prop) : Prop := match x with
  | .int k n => K (.int k (bitsV k (fun p q => p ^^^ q) (if k.signed then -1 else k.max) n))
  | _ => False
def addX (x y : Value) (K : Value → Prop) : Prop := match x, y with
  | .int k a, .int k' b => k = k' ∧ K (.int k (k.wrap (a + b)))
  | .string a, .string b => ((a.size + b.size : Nat) : Int) ≤ IntKind.i64.max ∧ K (.string (a ++ b))
  | _, _ => False
def subX (x y : Value) (K : Value → Prop) : Prop := match x, y with
  | .int k a, .int k' b => k = k' ∧ K (.int k (k.wrap (a - b)))
  | _, _ => False
def mulX (x y : Value) (K : Value → Prop) : Prop := match x, y with
  | .int k a, .int k' b => k = k' ∧ K (.int k (k.wrap (a * b)))
  | _, _ => False
def quoX (x y : Value) (K : Value → Prop) : Prop := match x, y with
  | .int k a, .int k' b => k = k' ∧ b ≠ 0 ∧ K (.int k (k.wrap (a.tdiv b)))
  | _, _ => False
def remX (x y : Value) (K : Value → Prop) : Prop := match x, y with
  | .int k a, .int k' b => k = k' ∧ b ≠ 0 ∧ K (.int k (a.tmod b))
  | _, _ => False
def andX (x y : Value) (K : Value → Prop) : Prop := match x, y with
  | .int k a, .int k' b => k = k' ∧ K (.int k (bitsV k (fun p q => p &&& q) a b))
  | _, _ => False
def orX (x y : Value) (K : Value → Prop) : Prop := match x, y with
  | .int k a, .int k' b => k = k' ∧ K (.int k (bitsV k (fun p q => p ||| q) a b))
  | _, _ => False
def xorX (x y : Value) (K : Value → Prop) : Prop := match x, y with
  | .int k a, .int k' b => k = k' ∧ K (.int k (bitsV k (fun p q => p ^^^ q) a b))
  | _, _ => False
def andNotX (x y : Value) (K : Value → Prop) : Prop := match x, y with
  | .int k a, .int k' b => k = k' ∧ K (.int k (bitsV k (fun p q => p &&& ~~~q) a b))
  | _, _ => False
def shlX (x y : Value) (K : Value → Prop) : Prop := match x, y with
  | .int k a, .int _ b => 0 ≤ b ∧ K (.int k (k.wrap (a * 2 ^ min b.toNat k.bits)))
  | _, _ => False
def shrX (x y : Value) (K : Value → Prop) : Prop := match x, y with
  | .int k a, .int _ b => 0 ≤ b ∧ K (.int k (a.fdiv (2 ^ min b.toNat k.bits)))
  | _, _ => False
def ltX (x y : Value) (K : Value → Prop) : Prop := match x, y with
  | .int k a, .int k' b => k = k' ∧ K (.bool (decide (a < b)))
  | _, _ => False
def leX (x y : Value) (K : Value → Prop) : Prop := match x, y with
  | .int k a, .int k' b => k = k' ∧ K (.bool (decide (a ≤ b)))
  | _, _ => False
def gtX (x y : Value) (K : Value → Prop) : Prop := match x, y with
  | .int k a, .int k' b => k = k' ∧ K (.bool (decide (b < a)))
  | _, _ => False
def geX (x y : Value) (K : Value → Prop) : Prop := match x, y with
  | .int k a, .int k' b => k = k' ∧ K (.bool (decide (b ≤ a)))
  | _, _ => False

/-- how two values of a kind are held against each other -/
inductive EqK where
  | num | bool | str | ptr | slice | map | func | iface
  deriving DecidableEq
def eqV : EqK → Value → Value → Option Bool
  | .num, .int k a, .int k' b => if k = k' then some (a == b) else none
  | .bool, .bool a, .bool b => some (a == b)
  | .str, .string a, .string b => some (a.toList == b.toList)
  | .ptr, .pointer none, .pointer b => some b.isNone
  | .ptr, .pointer (some _), .pointer none => some false
  | .slice, .slice none _ _, .slice b _ _ => some b.isNone
  | .slice, .slice (some _) _ _, .slice none _ _ => some false
  | .map, .map none, .map b => some b.isNone
  | .map, .map (some _), .map none => some false
  | .func, .nilFunc, .nilFunc => some true
  | .func, .nilFunc, .func _ _ _ => some false
  | .func, .func _ _ _, .nilFunc => some false
  | .iface, .nilIface, .nilIface => some true
  | .iface, .nilIface, .iface _ _ => some false
  | .iface, .iface _ _, .nilIface => some false
  | _, _, _ => none
def eqX (k : EqK) (x y : Value) (K : Value → Prop) : Prop := match eqV k x y with
  | some b => K (.bool b)
  | none => False
def neX (k : EqK) (x y : Value) (K : Value → Prop) : Prop := match eqV k x y with
  | some b => K (.bool (!b))
  | none => False
/-- structs and arrays of such: at which cells what is held against each other, in order -/
def eqAll : List (Nat × EqK) → List Value → List Value → Option Bool
  | [], _, _ => some true
  | (i, k) :: l, xs, ys => match xs[i]?, ys[i]? with
    | some x, some y => match eqV k x y, eqAll l xs ys with
      | some b, some c => some (b && c)
      | _, _ => none
    | _, _ => none
def eqNX (n : Nat) (l : List (Nat × EqK)) (x y : Value) (K : Value → Prop) : Prop := match x, y with
  | .agg xs, .agg ys => xs.toList.length = n ∧ ys.toList.length = n ∧ (match eqAll l xs.toList ys.toList with
    | some b => K (.bool b)
    | none => False)
  | _, _ => False
def neNX (n : Nat) (l : List (Nat × EqK)) (x y : Value) (K : Value → Prop) : Prop := match x, y with
  | .agg xs, .agg ys => xs.toList.length = n ∧ ys.toList.length = n ∧ (match eqAll l xs.toList ys.toList with
    | some b => K (.bool (!b))
    | none => False)
  | _, _ => False

def convIX (k : IntKind) (x : Value) (K : Value → Prop) : Prop := match x with
  | .int _ n => K (.int k (k.wrap n))
  | _ => False
/-- string(b) -/
def strX (x : Value) (w : World) (K : Value → Prop) : Prop := match x with
  | .slice none _ _ => K (.string .empty)
  | .slice (some p) len _ => ∃ l : List UInt8, l.length = len ∧ (∀ (i : Nat) (c : UInt8), l[i]? = some c → w.cell? (p.add i) = some (.int .u8 c.toNat)) ∧ K (.string ⟨l.toArray⟩)
  | _ => False
def bytesCells (l : List UInt8) : List Value := l.map fun c => .int .u8 c.toNat
/-- []byte(s) -/
def bytesX (t : TypeId) (x : Value) (w : World) (K : Cont) : Prop := match x with
  | .string s => ∀ b w' cap, s.size ≤ cap → New w w' b (.cells (bytesCells s.data.toList ++ List.replicate (cap - s.size) (Value.int .u8 0)).toArray t (cap, cap + 1)) → K (.slice (some ⟨b, 0, none⟩) s.size cap) w'
  | _ => False
/-- []byte of a constant text's bytes: a sign is laid behind them -/
def markX (x : Value) (w : World) (K : Cont) : Prop := match x with
  | .slice (some ⟨b, _, none⟩) _ _ => ∃ c t, w.heap[b]? = some (.cells c t (0, 0)) ∧ ∀ w', Sto w w' b (.cells c t (c.size, c.size + 1)) → K x w'
  | _ => False
def ifaceX (t : TypeId) (x : Value) (K : Value → Prop) : Prop := K (.iface t x)
def assertX (t : TypeId) (z : Value) (x : Value) (K : Value → Prop) : Prop :=
  match x with
  | .nilIface => K (.tuple #[z, .bool false])
  | .iface u v => K (if u = t then .tuple #[v, .bool true] else .tuple #[z, .bool false])
  | _ => False

/-! maps: by the machine's own entries -/
def newMX (w : World) (K : Cont) : Prop := ∀ b w', New w w' b (.map #[] 0) → K (.map (some b)) w'
def lookX (P : Program) (t : TypeId) (ok : Bool) (x i : Value) (w : World) (K : Value → Prop) : Prop := ∃ v, (Instr.lookup t x i ok).run P w = .ok v w ∧ K v
def updX (P : Program) (t : TypeId) (m k v : Value) (w : World) (K : World → Prop) : Prop := ∃ w', (Instr.mapUpdate t m k v).run P w = .ok () w' ∧ K w'
def delX (P : Program) (ts : Array TypeId) (m k : Value) (w : World) (K : Cont) : Prop := ∃ v w', (Builtin.delete_ ts 0 #[m, k]).run P w = .ok v w' ∧ K v w'
def lenMX (x : Value) (w : World) (K : Value → Prop) : Prop := match x with
  | .map none => K (.int .i64 0)
  | .map (some r) => ∃ es c, w.heap[r]? = some (.map es c) ∧ K (.int .i64 es.size)
  | _ => False
def iterX (P : Program) (t : TypeId) (x : Value) (w : World) (K : Cont) : Prop := ∃ v w', (Instr.range t x).run P w = .ok v w' ∧ K v w'
def nextX (P : Program) (s : Bool) (x : Value) (w : World) (K : Cont) : Prop := ∃ v w', (Instr.next x s 0).run P w = .ok v w' ∧ K v w'
def entX (P : Program) (x : Value) (w : World) (K : Value → Prop) : Prop := ∃ v, (Instr.entry x).run P w = .ok v w ∧ K v
def noMap (P : Program) (ts : Array TypeId) : Bool := match ts[0]?.bind P.underlying with
  | some (.map _ _) => false
  | _ => true

def lenSX (x : Value) (K : Value → Prop) : Prop := match x with
  | .slice _ n _ => K (.int .i64 n)
  | _ => False
def lenStrX (x : Value) (K : Value → Prop) : Prop := match x with
  | .string s => K (.int .i64 s.size)
  | _ => False
def maxX (x y : Value) (K : Value → Prop) : Prop := match x, y with
  | .int k a, .int _ b => K (.int k (if b > a then b else a))
  | _, _ => False
def minX (x y : Value) (K : Value → Prop) : Prop := match x, y with
  | .int k a, .int _ b => K (.int k (if b < a then b else a))
  | _, _ => False

def natOf (o : Option Value) (d : Nat) : Option Nat := match o with
  | none => some d
  | some (.int _ n) => if 0 ≤ n then some n.toNat else none
  | _ => none
/-- x[lo:hi:mx] of a slice whose elements have s cells -/
def sliceX (s : Nat) (x : Value) (lo hi mx : Option Value) (K : Value → Prop) : Prop := match x with
  | .slice a len cap => ∃ l h m, natOf mx cap = some m ∧ natOf hi len = some h ∧ natOf lo 0 = some l ∧ l ≤ h ∧ h ≤ m ∧ m ≤ cap ∧ (mx.isSome = true → hi.isSome = true) ∧
      K (.slice (if m = l then a else a.map (·.add (l * s))) (h - l) (m - l))
  | _ => False
def sliceStrX (x : Value) (lo hi : Option Value) (K : Value → Prop) : Prop := match x with
  | .string b => ∃ l h, natOf hi b.size = some h ∧ natOf lo 0 = some l ∧ l ≤ h ∧ h ≤ b.size ∧ K (.string (b.extract l h))
  | _ => False
/-- a struct's or an array's literal: cells, and parts that are laid into them: (at, how many cells, value) -/
def fillAll : Array Value → List (Nat × Value) → Array Value
  | c, [] => c
  | c, (o, v) :: l => fillAll (putAll c o v.cells.toList) l
def buildX (zero : List Value) (ps : List (Nat × Nat × Value)) (K : Value → Prop) : Prop :=
  (∀ p ∈ ps, p.2.2.cells.size = p.2.1 ∧ p.1 + p.2.1 ≤ zero.length) ∧ K (.agg (fillAll zero.toArray (ps.map fun p => (p.1, p.2.2))))
/-- a slice's literal, all elements given in order -/
def buildSX (t : TypeId) (s : Nat) (vs : List Value) (w : World) (K : Cont) : Prop :=
  (∀ v ∈ vs, v.cells.size = s) ∧ ∀ b w', New w w' b (.cells (vs.flatMap (·.cells.toList)).toArray t (0, 0)) → K (.slice (some ⟨b, 0, none⟩) vs.length vs.length) w'
def zeros (z : List Value) (n : Nat) : List Value := (List.replicate n z).flatten
def makeSX (t : TypeId) (bytes : Nat) (z : List Value) (len cap : Value) (w : World) (K : Cont) : Prop := match len, cap with
  | .int _ n, .int _ c => 0 ≤ n ∧ n ≤ c ∧ bytes * c ≤ 2 ^ 48 ∧ c < 2 ^ 63 ∧ ∀ b w', New w w' b (.cells (zeros z c.toNat).toArray t (0, 0)) → K (.slice (some ⟨b, 0, none⟩) n.toNat c.toNat) w'
  | _, _ => False

/-- what stands in a slice's (a string's) elements: a list of cells -/
def readsX (s : Nat) (x : Value) (w : World) (n : Nat) (l : List Value) : Prop := match x with
  | .slice none _ _ => l = []
  | .slice (some p) _ _ => l.length = n * s ∧ ∀ (i : Nat) (v : Value), l[i]? = some v → w.cell? (p.add i) = some v
  | .string b => l = bytesCells (b.data.toList.take n)
  | _ => False
def lenV : Value → Option Nat
  | .slice _ n _ => some n
  | .string b => some b.size
  | _ => none
/-- append: of a slice of elements of type t (s cells, so many bytes, zero z) -/
def appendX (t : TypeId) (s bytes : Nat) (z : List Value) (dst src : Value) (w : World) (K : Cont) : Prop := match dst with
  | .slice base len cap => ∃ n l m, lenV src = some n ∧ readsX s dst w len l ∧ readsX s src w n m ∧ (∀ x ∈ m, x.oneCell' = true) ∧
      (len + n ≤ cap → match base with
        | none => K (.slice none (len + n) cap) w
        | some ⟨b, off, none⟩ => ∃ c u fz, w.heap[b]? = some (.cells c u fz) ∧ off + len * s + m.length ≤ c.size ∧ thawed fz (off + len * s) m.length ∧
            ∀ w', Sto w w' b (.cells (putAll c (off + len * s) m) u fz) → K (.slice base (len + n) cap) w'
        | _ => False) ∧
      (cap < len + n → (3 * cap + len + n + 1000) * bytes ≤ 2 ^ 48 ∧ ∀ b w' nc, len + n ≤ nc →
        New w w' b (.cells (l ++ m ++ zeros z (nc - (len + n))).toArray t (0, 0)) → K (.slice (some ⟨b, 0, none⟩) (len + n) nc) w')
  | _ => False
def copyX (s : Nat) (dst src : Value) (w : World) (K : Cont) : Prop := match dst with
  | .slice base len _ => ∃ k m, lenV src = some k ∧ readsX s src w (min k len) m ∧ (∀ x ∈ m, x.oneCell' = true) ∧
      (match base with
        | none => K (.int .i64 ((min k len : Nat) : Int)) w
        | some ⟨b, off, none⟩ => ∃ c u fz, w.heap[b]? = some (.cells c u fz) ∧ off + m.length ≤ c.size ∧ thawed fz off m.length ∧
            ∀ w', Sto w w' b (.cells (putAll c off m) u fz) → K (.int .i64 ((min k len : Nat) : Int)) w'
        | _ => False)
  | _ => False

/-- a library function that the model answers itself -/
def extX (P : Program) (f : FuncId) (args : List Value) (w : World) (K : Cont) : Prop := ∃ v w', (callFunc f args.toArray).run P w = .ok (.value v) w' ∧ K v w'
def hasBody (P : Program) (f : FuncId) : Bool := match P.funcs[f]? with
  | some fn => fn.body.isSome && fn.name != "runtime.NumGoroutine"
  | none => false
def yieldX (P : Program) (l : Nat) (args : List Value) (w : World) (K : Cont) : Prop :=
  ∃ fn tmps assign body, (Instr.yield l args.toArray).run P w = .ok (.round l fn tmps assign body) w ∧ RoundIn Fence.wide 0 P l fn tmps assign body w (fun e w' => ∃ v, e = .returned v ∧ K v w')
/-- a call of a function's value -/
def fvX (P : Program) (fv : Value) (args : List Value) (w : World) (K : Cont) : Prop := match fv with
  | .func (.func f) first cap => hasBody P f = true ∧ callX P f (first.toList ++ args ++ cap.toList) w K
  | .func (.yield l) first _ => first = #[] ∧ yieldX P l args w K
  | _ => False
/-- a call of a method through an interface's value -/
def invX (P : Program) (recv : Value) (name : String) (args : List Value) (w : World) (K : Cont) : Prop := match recv with
  | .iface t v => ∃ f r, (method (P.types.size + Made.depth) t v name).run P w = .ok (f, r) w ∧
      ((hasBody P f = true ∧ callX P f (r :: args) w K) ∨ extX P f (r :: args) w K)
  | _ => False

end Go.Proofs.YtgnmelnohclpgaaDoor
