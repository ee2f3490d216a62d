/-
  The abstract machine, part 4: what an operation does, and what is to be shown of a piece of code.
-/
import Derived.Test.YtecgdmiigdfgdaaAm3
namespace Go.Am

/-! ### data, looked into -/
def D.i : D → Int
  | .int _ n => n
  | _ => 0
def D.b : D → Bool
  | .bool b => b
  | _ => false
def D.s : D → List UInt8
  | .str s => s
  | _ => []
def D.l : D → List D
  | .list _ l => l
  | _ => []
def D.isInt (k : IntKind) : D → Prop
  | .int k' _ => k' = k
  | _ => False
def D.isBool : D → Prop
  | .bool _ => True
  | _ => False
def D.isStr : D → Prop
  | .str _ => True
  | _ => False
def D.isList (s : Nat) : D → Prop
  | .list s' _ => s' = s
  | _ => False
/-- It fills so many cells. -/
def D.fits (s : Nat) : D → Prop
  | .agg l => l.length = s
  | .tup _ => False
  | _ => s = 1
def D.cell : D → Nat → D
  | .agg l, f => l.getD f .nilp
  | x, _ => x
def D.asAgg : D → D
  | .agg l => .agg l
  | x => .agg [x]
/-- The datum at a place. -/
def el (l : List D) (i : Nat) : D := l.getD i .nilp

/-- What is known of a type. -/
inductive TK where
  | int (k : IntKind)
  | bool
  | str
  | slice (e : Nat)
  | struct (fs : List (Nat × Nat))
  | array (n e : Nat)
  | ptr (e : Nat)
  | func
  | other
  deriving Inhabited
/-- Cells of a struct that can be compared: what kinds stand in it. -/
inductive SK where
  | int (k : IntKind)
  | bool
  | str
def SK.is : SK → D → Prop
  | .int k, x => x.isInt k
  | .bool, x => x.isBool
  | .str, x => x.isStr
structure TI where
  kind : TK
  size : Nat
  bytes : Nat
  zero : AV
  zd : D
  eqk : List SK := []
  deriving Inhabited

/-- What goes into a call, and what comes out of it: a datum; a slice that the taker may write on. -/
inductive CV where
  | d (x : D)
  | own (s : Nat) (l : List D)
  | tup (l : List CV)
  deriving Inhabited
structure Con where
  modes : List Bool
  outs : List Bool
  pre : List CV → Prop
  fn : List CV → CV

/-- A contract of a call that may write on what is lent to it. Its objects bear the numbers 90000, 90001 ..; behind the call there may be more of them. -/
structure BCon where
  X : Type
  ok : X → Prop
  args : X → List AV
  objs : X → List Obj
  res : X → D
  post : X → List Obj

structure Ctx where
  τ : Nat → TI
  Γ : Nat → Option Con
  dp : Nat := 60
  Δ : Nat → Option BCon := fun _ => none
  cuts : List Nat := []

/-- Structs and arrays. -/
def TK.ag : TK → Option Bool
  | .struct _ => some true
  | .array .. => some true
  | .other => none
  | _ => some false

def Ctx.size (C : Ctx) (t : Nat) : Nat := (C.τ t).size
def Ctx.ag (C : Ctx) (t : Nat) : Option Bool := (C.τ t).kind.ag
def Ctx.esize (C : Ctx) (t : Nat) : Nat := match (C.τ t).kind with
  | .slice e => C.size e
  | .array _ e => C.size e
  | _ => 0

/-! ### operands -/
def constD : Value → Option D
  | .int k n => some (.int k n)
  | .bool b => some (.bool b)
  | .string s => some (.str s.data.toList)
  | .nilFunc => some .nilf
  | .pointer none => some .nilp
  | _ => none
def constAV (C : Ctx) (hint : Nat) : Value → AV
  | .slice none 0 0 => .nils (C.esize hint)
  | v => match constD v with
    | some x => .d x
    | none => .dead
def AS.ev (C : Ctx) (st : AS) (hint : Nat) : Operand → AV
  | .tmp t => st.tmps.getD t .dead
  | .const v => constAV C hint v
  | .func f => .d (.clo f [])
  | .global _ => .dead

/-! ### slots, looked into -/
def allD : List AV → Option (List D)
  | [] => some []
  | .d x :: r => match allD r with
    | some l => some (x :: l)
    | none => none
  | _ :: _ => none
def mkAgg (l : List AV) : AV := match allD l with
  | some ds => .d (.agg ds)
  | none => .agg l
def mkTup (l : List AV) : AV := match allD l with
  | some ds => .d (.tup ds)
  | none => .tup l
def mkClo (f : Nat) (l : List AV) : AV := match allD l with
  | some ds => .d (.clo f ds)
  | none => .clo f l
def cellsFrom (x : D) : (k n : Nat) → List AV
  | _, 0 => []
  | k, n + 1 => .d (x.cell k) :: cellsFrom x (k + 1) n
/-- The cells of what is stored in a variable of a type. -/
def AV.cells (ag : Bool) (s : Nat) : AV → List AV
  | .agg l => l
  | .d (.agg l) => l.map .d
  | .d x => if ag then cellsFrom x 0 s else [.d x]
  | x => [x]
def AV.fits (s : Nat) : AV → Prop
  | .d x => x.fits s
  | .agg l => l.length = s
  | .tup _ => False
  | .dead => False
  | _ => s = 1

abbrev Objs := List (Nat × Obj)
/-- What an operation comes to: what is to be shown, what it tells, the objects behind it. -/
abbrev Out := Option (Prop × AV × Objs)

/-! ### what is told on -/
mutual
def pur : Nat → AV → Objs → Option (Prop × D × Objs)
  | 0, _, _ => none
  | _ + 1, .d x, o => some (True, x, o)
  | _ + 1, .nils s, o => some (True, .list s [], o)
  | _ + 1, .sl i n, o => match lk o i with
    | some (.row s els _) => some (n = els.length, .list s els, upd o i (.row s els els.length))
    | _ => none
  | n + 1, .ref i 0, o => match lk o i with
    | some (.fbox s x) => some (True, .ptr s x, o)
    | some (.box ag cells) => match purs n cells o with
      | some (c, xs, o') => match lk o' i with
        | some (.box _ _) => match xs, ag with
          | xs, true => some (c, .ptr xs.length (.agg xs), upd o' i (.fbox xs.length (.agg xs)))
          | [x], false => some (c, .ptr 1 x, upd o' i (.fbox 1 x))
          | _, _ => none
        | _ => none
      | none => none
    | _ => none
  | n + 1, .agg l, o => match purs n l o with
    | some (c, xs, o') => some (c, .agg xs, o')
    | none => none
  | n + 1, .tup l, o => match purs n l o with
    | some (c, xs, o') => some (c, .tup xs, o')
    | none => none
  | n + 1, .clo f l, o => match purs n l o with
    | some (c, xs, o') => some (c, .clo f xs, o')
    | none => none
  | _ + 1, _, _ => none
def purs : Nat → List AV → Objs → Option (Prop × List D × Objs)
  | 0, _, _ => none
  | _ + 1, [], o => some (True, [], o)
  | n + 1, x :: l, o => match pur n x o with
    | some (c, y, o') => match purs n l o' with
      | some (c', ys, o'') => some (c ∧ c', y :: ys, o'')
      | none => none
    | none => none
end
end Go.Am
