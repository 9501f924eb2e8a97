/- Own framework, part C: an operation's meaning out of the loaded code, and that the machine does just that. -/
import Derived.Test.YtgnmelnohclpgaaDoorSxB
set_option linter.unusedVariables false
set_option linter.unusedSimpArgs false
namespace Go.Proofs.YtgnmelnohclpgaaDoor
open Go

def zeroV (P : Program) (t : TypeId) : Value := ((P.info? t).bind (·.zero)).getD undef
def eqGo (P : Program) (rec : TypeId → Nat → Option (List (Nat × EqK))) (n off : Nat) : List Field → Option (List (Nat × EqK))
  | [] => some []
  | f :: fs => if f.name = "_" then none else match sizeP P f.type, rec f.type (off + f.offset), eqGo P rec n off fs with
    | some m, some a, some b => if f.offset + m ≤ n then some (a ++ b) else none
    | _, _, _ => none
def eqArr (rec : TypeId → Nat → Option (List (Nat × EqK))) (el : TypeId) (s off : Nat) : List Nat → Option (List (Nat × EqK))
  | [] => some []
  | j :: l => match rec el (off + j * s), eqArr rec el s off l with
    | some a, some b => some (a ++ b)
    | _, _ => none
/-- where a type's parts are that are held against each other -/
def eqCells (P : Program) : Nat → TypeId → Nat → Option (List (Nat × EqK))
  | 0, _, _ => none
  | d + 1, t, off => match P.underlying t with
    | some (.struct fs) => if P.stoodInHeld t then none else (match P.info? t with
      | some i => eqGo P (eqCells P d) i.size off fs.toList
      | none => none)
    | some (.array n el) => (match P.info? el, P.info? t with
      | some i, some j => if n * i.size ≤ j.size then eqArr (eqCells P d) el i.size off (List.range n) else none
      | _, _ => none)
    | some (.interface _) => none
    | _ => (match aggN P t, eqKOf P t with
      | some none, some k => some [(off, k)]
      | _, _ => none)

def buildPs (P : Program) (t : TypeId) (e : Env) : List (Nat × Operand) → Option (List (Nat × Nat × Value))
  | [] => some []
  | (i, x) :: l => match place i, ev e x, buildPs P t e l with
    | some (o, s), some v, some r => some ((o, s, v.val) :: r)
    | _, _, _ => none
where
  place (i : Nat) : Option (Nat × Nat) := match P.underlying t with
    | some (.struct fields) => (match fields[i]? with
      | some f => (sizeP P f.type).map fun s => (f.offset, s)
      | none => none)
    | some (.array _ el) => (sizeP P el).map fun s => (i * s, s)
    | _ => none
def buildOk (P : Program) (t : TypeId) : Bool := match P.underlying t with
  | some (.struct fields) => fields.toList.all fun f => (sizeP P f.type).isSome
  | some (.array _ el) => (sizeP P el).isSome
  | _ => false
def buildSPs (e : Env) : Nat → List (Nat × Operand) → Option (List Value)
  | _, [] => some []
  | k, (i, x) :: l => if i = k then (match ev e x, buildSPs e (k + 1) l with
    | some v, some r => some (v.val :: r)
    | _, _ => none) else none

def eqOf (P : Program) (e : Env) (t : TypeId) (x y : Operand) (ne : Bool) (k : Value → Prop) : Prop :=
  match eqKOf P t with
  | some .iface => if Region.isConst x || Region.isConst y then w1 (ev e x) fun x => w1 (ev e y) fun y => bif ne then neX .iface x y k else eqX .iface x y k else False
  | some kd => w1 (ev e x) fun x => w1 (ev e y) fun y => bif ne then neX kd x y k else eqX kd x y k
  | none => if P.eqGuardType P.depth t then False else (match eqCells P 12 t 0, sizeP P t with
    | some l, some n => w1 (ev e x) fun x => w1 (ev e y) fun y => bif ne then neNX n l x y k else eqNX n l x y k
    | _, _ => False)

def isIntD : TypeDesc → Bool
  | .int _ => true
  | _ => false
def builtinX (P : Program) (e : Env) (b : Builtin) (args : List Operand) (ts : Array TypeId) (w : World) (kw : Cont) : Prop :=
  match b, args with
  | .len, [x] => (match ts[0]?.bind P.underlying with
    | some (.slice _) => w1 (ev e x) fun x => lenSX x fun v => kw v w
    | some .string => w1 (ev e x) fun x => lenStrX x fun v => kw v w
    | some (.array n _) => w1 (ev e x) fun x => kw (.int .i64 n) w
    | some (.map _ _) => w1 (ev e x) fun x => lenMX x w fun v => kw v w
    | _ => False)
  | .append, [x, y] => (match ts[0]?.bind P.underlying, ts[1]?.bind P.underlying with
    | some (.slice el), some u => (match P.info? el, isIntD u with
      | some i, false => if i.zero.isSome ∧ i.bytes ≠ 0 then w1 (ev e x) fun x => w1 (ev e y) fun y => appendX el i.size i.bytes (zeroOf P el) x y w kw else False
      | _, _ => False)
    | _, _ => False)
  | .copy, [x, y] => (match ts[0]?.bind P.underlying with
    | some (.slice el) => (match P.info? el with
      | some i => w1 (ev e x) fun x => w1 (ev e y) fun y => copyX i.size x y w kw
      | none => False)
    | _ => False)
  | .max, [x, y] => w1 (ev e x) fun x => w1 (ev e y) fun y => maxX x y fun v => kw v w
  | .min, [x, y] => w1 (ev e x) fun x => w1 (ev e y) fun y => minX x y fun v => kw v w
  | .delete, [x, y] => w1 (ev e x) fun x => w1 (ev e y) fun y => delX P ts x y w kw
  | _, _ => False

def opX (P : Program) (e : Env) (op : Op) (w : World) (K : SV → World → Prop) : Prop :=
  match op with
  | .move x => (match ev e x with | some s => K s w | none => False)
  | .assign x => (match ev e x with | some s => K s w | none => False)
  | .pick c a b => (match ev e c with
    | some (.b true) => (match ev e a with | some s => K s w | none => False)
    | some (.b false) => (match ev e b with | some s => K s w | none => False)
    | some (.v c) => w1 (ev e a) fun a => w1 (ev e b) fun b => pickX c a b fun v => K (.v v) w
    | _ => False)
  | .alloc t => if ((P.info? t).bind (·.zero)).isSome then newX t (zeroOf P t) w fun v w' => K (.v v) w' else False
  | .box t x => w1 (ev e x) fun x => boxX t x w fun v w' => K (.v v) w'
  | .build t parts => if ((P.info? t).bind (·.zero)).isSome ∧ buildOk P t = true then (match buildPs P t e parts.toList with
    | some ps => buildX (zeroOf P t) ps fun v => K (.v v) w
    | none => False) else False
  | .buildSlice t len parts => (match P.underlying t with
    | some (.slice el) => (match P.info? el, buildSPs e 0 parts.toList with
      | some i, some vs => if vs.length = len ∧ len * i.size ≤ 2 ^ 24 ∧ i.zero.isSome then buildSX el i.size vs w fun v w' => K (.v v) w' else False
      | _, _ => False)
    | _ => False)
  | .load t a => (match aggN P t with
    | some none => w1 (ev e a) fun a => load1X a w fun v => K (.v v) w
    | some (some n) => w1 (ev e a) fun a => loadNX n a w fun v => K (.v v) w
    | none => False)
  | .store t a x => (match aggN P t with
    | some none => w1 (ev e a) fun a => w1 (ev e x) fun x => store1X a x w fun w' => K (.v undef) w'
    | some (some n) => w1 (ev e a) fun a => w1 (ev e x) fun x => storeNX n a x w fun w' => K (.v undef) w'
    | none => False)
  | .nilCheck x => w1 (ev e x) fun x => nilX x fun v => K (.v v) w
  | .fieldAddr s x f => (match fieldOff P s f with
    | some off => w1 (ev e x) fun x => fieldAddrX off x fun v => K (.v v) w
    | none => False)
  | .field s x f => (match fieldAt' P s f with
    | some (off, none) => w1 (ev e x) fun x => fieldX off x fun v => K (.v v) w
    | some (off, some n) => w1 (ev e x) fun x => fieldNX off n x fun v => K (.v v) w
    | none => False)
  | .indexAddr t x i => (match P.underlying t with
    | some (.slice el) => (match sizeP P el with
      | some s => w1 (ev e x) fun x => w1 (ev e i) fun i => indexSX s x i fun v => K (.v v) w
      | none => False)
    | some (.array n el) => (match sizeP P el with
      | some s => w1 (ev e x) fun x => w1 (ev e i) fun i => indexAX n s x i fun v => K (.v v) w
      | none => False)
    | _ => False)
  | .index t x i => (match P.underlying t with
    | some .string => w1 (ev e x) fun x => w1 (ev e i) fun i => indexStrX x i fun v => K (.v v) w
    | some (.array n el) => (match aggN P el with
      | some none => w1 (ev e x) fun x => w1 (ev e i) fun i => indexVX n x i fun v => K (.v v) w
      | _ => False)
    | _ => False)
  | .extract x i => w1 (ev e x) fun x => extractX x i fun v => K (.v v) w
  | .unOp .not _ x => w1 (ev e x) fun x => notX x fun v => K (.v v) w
  | .unOp .neg _ x => w1 (ev e x) fun x => negX x fun v => K (.v v) w
  | .unOp .xor _ x => w1 (ev e x) fun x => cplX x fun v => K (.v v) w
  | .binOp .add _ x y _ => w1 (ev e x) fun x => w1 (ev e y) fun y => addX x y fun v => K (.v v) w
  | .binOp .sub _ x y _ => w1 (ev e x) fun x => w1 (ev e y) fun y => subX x y fun v => K (.v v) w
  | .binOp .mul _ x y _ => w1 (ev e x) fun x => w1 (ev e y) fun y => mulX x y fun v => K (.v v) w
  | .binOp .quo _ x y _ => w1 (ev e x) fun x => w1 (ev e y) fun y => quoX x y fun v => K (.v v) w
  | .binOp .rem _ x y _ => w1 (ev e x) fun x => w1 (ev e y) fun y => remX x y fun v => K (.v v) w
  | .binOp .and _ x y _ => w1 (ev e x) fun x => w1 (ev e y) fun y => andX x y fun v => K (.v v) w
  | .binOp .or _ x y _ => w1 (ev e x) fun x => w1 (ev e y) fun y => orX x y fun v => K (.v v) w
  | .binOp .xor _ x y _ => w1 (ev e x) fun x => w1 (ev e y) fun y => xorX x y fun v => K (.v v) w
  | .binOp .andNot _ x y _ => w1 (ev e x) fun x => w1 (ev e y) fun y => andNotX x y fun v => K (.v v) w
  | .binOp .shl _ x y _ => w1 (ev e x) fun x => w1 (ev e y) fun y => shlX x y fun v => K (.v v) w
  | .binOp .shr _ x y _ => w1 (ev e x) fun x => w1 (ev e y) fun y => shrX x y fun v => K (.v v) w
  | .binOp .lss _ x y _ => w1 (ev e x) fun x => w1 (ev e y) fun y => ltX x y fun v => K (.v v) w
  | .binOp .leq _ x y _ => w1 (ev e x) fun x => w1 (ev e y) fun y => leX x y fun v => K (.v v) w
  | .binOp .gtr _ x y _ => w1 (ev e x) fun x => w1 (ev e y) fun y => gtX x y fun v => K (.v v) w
  | .binOp .geq _ x y _ => w1 (ev e x) fun x => w1 (ev e y) fun y => geX x y fun v => K (.v v) w
  | .binOp .eql t x y _ => eqOf P e t x y false fun v => K (.v v) w
  | .binOp .neq t x y _ => eqOf P e t x y true fun v => K (.v v) w
  | .convert src dst x => (match P.underlying src, P.underlying dst with
    | some (.int _), some (.int k) => w1 (ev e x) fun x => convIX k x fun v => K (.v v) w
    | some .string, some (.slice el) => (match P.underlying el with
      | some (.int .u8) => w1 (ev e x) fun x => bytesX el x w fun v w' => K (.v v) w'
      | _ => False)
    | some (.slice el), some .string => (match P.underlying el with
      | some (.int .u8) => w1 (ev e x) fun x => strX x w fun v => K (.v v) w
      | _ => False)
    | some (.slice _), some (.slice el) => bif Nat.beq src dst then (match P.underlying el with
      | some (.int .u8) => w1 (ev e x) fun x => markX x w fun v w' => K (.v v) w'
      | _ => False) else False
    | _, _ => False)
  | .makeInterface t x => (match P.underlying t with
    | some (.interface _) => False
    | some _ => w1 (ev e x) fun x => ifaceX t x fun v => K (.v v) w
    | none => False)
  | .makeFunc fn first cap => wl (evs e first.toList) fun a => wl (evs e cap.toList) fun b => K (.v (.func fn a.toArray b.toArray)) w
  | .makeSlice t l c => (match P.underlying t with
    | some (.slice el) => (match P.info? el with
      | some i => if i.zero.isSome ∧ i.size = (zeroOf P el).length then w1 (ev e l) fun l => w1 (ev e c) fun c => makeSX el i.bytes (zeroOf P el) l c w fun v w' => K (.v v) w' else False
      | none => False)
    | _ => False)
  | .slice t x lo hi mx => (match P.underlying t with
    | some (.slice el) => (match sizeP P el with
      | some s => w1 (ev e x) fun x => wo e lo fun lo => wo e hi fun hi => wo e mx fun mx => sliceX s x lo hi mx fun v => K (.v v) w
      | none => False)
    | some .string => (match mx with
      | none => w1 (ev e x) fun x => wo e lo fun lo => wo e hi fun hi => sliceStrX x lo hi fun v => K (.v v) w
      | some _ => False)
    | _ => False)
  | .typeAssert x xt t true => (match P.underlying t, P.underlying xt with
    | some (.interface _), _ => False
    | some _, some (.interface _) => if ((P.info? t).bind (·.zero)).isSome then w1 (ev e x) fun x => assertX t (zeroV P t) x fun v => K (.v v) w else False
    | _, _ => False)
  | .makeMap _ none => newMX w fun v w' => K (.v v) w'
  | .lookup t x i ok => w1 (ev e x) fun x => w1 (ev e i) fun i => lookX P t ok x i w fun v => K (.v v) w
  | .mapUpdate t m k x => w1 (ev e m) fun m => w1 (ev e k) fun k => w1 (ev e x) fun x => updX P t m k x w fun w' => K (.v undef) w'
  | .range t x => w1 (ev e x) fun x => iterX P t x w fun v w' => K (.v v) w'
  | .next x s => w1 (ev e x) fun x => nextX P s x w fun v w' => K (.v v) w'
  | .entry x => w1 (ev e x) fun x => entX P x w fun v => K (.v v) w
  | .call c => (match c.callee with
    | .value (.func f) => wl (evs e c.args.toList) fun vs => bif hasBody P f then callX P f vs w fun v w' => K (.v v) w' else extX P f vs w fun v w' => K (.v v) w'
    | .value (.tmp t) => w1 (ev e (.tmp t)) fun fv => wl (evs e c.args.toList) fun vs => fvX P fv vs w fun v w' => K (.v v) w'
    | .value _ => False
    | .invoke r name => w1 (ev e r) fun r => wl (evs e c.args.toList) fun vs => invX P r name vs w fun v w' => K (.v v) w'
    | .builtin b => builtinX P e b c.args.toList c.argTypes w fun v w' => K (.v v) w')
  | _ => False

end Go.Proofs.YtgnmelnohclpgaaDoor
