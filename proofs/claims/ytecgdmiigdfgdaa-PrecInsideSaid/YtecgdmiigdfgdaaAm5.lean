/-
  The abstract machine, part 5: each operation; regions; code.
-/
import Derived.Test.YtecgdmiigdfgdaaAm4
namespace Go.Am

def ltB (a b : Int) : Bool := decide (a < b)
def leB (a b : Int) : Bool := decide (a ≤ b)
def minI (a b : Int) : Int := if b < a then b else a
def maxI (a b : Int) : Int := if a < b then b else a
def inR (k : IntKind) (n : Int) : Prop := k.min ≤ n ∧ n ≤ k.max
def D.eqb : D → D → Bool
  | .int _ a, .int _ b => a == b
  | .bool a, .bool b => a == b
  | .str a, .str b => a == b
  | _, _ => false
/-- Two rows of cells, held against one another. -/
def eqbAll : List D → List D → Bool
  | [], [] => true
  | x :: l, y :: l' => D.eqb x y && eqbAll l l'
  | _, _ => false
def skAll : List SK → List D → Prop
  | [], [] => True
  | k :: ks, x :: l => k.is x ∧ skAll ks l
  | _, _ => False
def skIs (ks : List SK) : D → Prop
  | .agg l => skAll ks l
  | _ => False
def aggL : D → List D
  | .agg l => l
  | _ => []

/-- A slice that has something. -/
def neL : D → Prop
  | .list _ l => l ≠ []
  | _ => False
def hBin (C : Ctx) (op : BinOp) (t : Nat) : AV → AV → Option (Prop × D)
  | .d x, .d y => match (C.τ t).kind, op with
    | .int k, .add => some (x.isInt k ∧ y.isInt k ∧ inR k (x.i + y.i), .int k (x.i + y.i))
    | .int k, .sub => some (x.isInt k ∧ y.isInt k ∧ inR k (x.i - y.i), .int k (x.i - y.i))
    | .int k, .mul => some (x.isInt k ∧ y.isInt k ∧ inR k (x.i * y.i), .int k (x.i * y.i))
    | .int k, .quo => some (x.isInt k ∧ y.isInt k ∧ y.i ≠ 0 ∧ inR k (x.i.tdiv y.i), .int k (x.i.tdiv y.i))
    | .int k, .rem => some (x.isInt k ∧ y.isInt k ∧ y.i ≠ 0, .int k (x.i.tmod y.i))
    | .int k, .eql => some (x.isInt k ∧ y.isInt k, .bool (x.i == y.i))
    | .int k, .neq => some (x.isInt k ∧ y.isInt k, .bool (x.i != y.i))
    | .int k, .lss => some (x.isInt k ∧ y.isInt k, .bool (ltB x.i y.i))
    | .int k, .leq => some (x.isInt k ∧ y.isInt k, .bool (leB x.i y.i))
    | .int k, .gtr => some (x.isInt k ∧ y.isInt k, .bool (ltB y.i x.i))
    | .int k, .geq => some (x.isInt k ∧ y.isInt k, .bool (leB y.i x.i))
    | .int k, .shr => match y with
      | .int _ n => some (x.isInt k ∧ 0 ≤ n ∧ n ≤ k.bits, .int k (x.i.fdiv (2 ^ n.toNat)))
      | _ => none
    | .str, .add => some (x.isStr ∧ y.isStr ∧ x.s.length + y.s.length ≤ 9223372036854775807, .str (x.s ++ y.s))
    | .str, .eql => some (x.isStr ∧ y.isStr, .bool (x.s == y.s))
    | .str, .neq => some (x.isStr ∧ y.isStr, .bool (!(x.s == y.s)))
    | .str, .lss => some (x.isStr ∧ y.isStr, .bool (Op.bytesLess x.s y.s))
    | .str, .leq => some (x.isStr ∧ y.isStr, .bool (Op.bytesLess x.s y.s || x.s == y.s))
    | .str, .gtr => some (x.isStr ∧ y.isStr, .bool (!(Op.bytesLess x.s y.s || x.s == y.s)))
    | .str, .geq => some (x.isStr ∧ y.isStr, .bool (!(Op.bytesLess x.s y.s)))
    | .struct _, .eql => match (C.τ t).eqk with
      | [] => none
      | ks => some (skIs ks x ∧ skIs ks y, .bool (eqbAll (aggL x) (aggL y)))
    | .struct _, .neq => match (C.τ t).eqk with
      | [] => none
      | ks => some (skIs ks x ∧ skIs ks y, .bool (!eqbAll (aggL x) (aggL y)))
    | .bool, .eql => some (x.isBool ∧ y.isBool, .bool (x.b == y.b))
    | .bool, .neq => some (x.isBool ∧ y.isBool, .bool (!(x.b == y.b)))
    | _, _ => none
  | .d x, .nils _ => match (C.τ t).kind, op with
    | .slice _, .eql => some (neL x, .bool false)
    | .slice _, .neq => some (neL x, .bool true)
    | _, _ => none
  | _, _ => none

def hUn (C : Ctx) (op : UnOp) (t : Nat) : AV → Option (Prop × D)
  | .d x => match (C.τ t).kind, op with
    | .bool, .not => some (x.isBool, .bool (!x.b))
    | .int k, .neg => some (x.isInt k ∧ inR k (0 - x.i), .int k (0 - x.i))
    | _, _ => none
  | _ => none

def pureOut (o : Objs) : Option (Prop × D) → Out
  | some (c, x) => some (c, .d x, o)
  | none => none

def hPick (c a b : AV) : Option AV := match c with
  | .d (.bool true) => some a
  | .d (.bool false) => some b
  | _ => none

def splice (cells : List AV) (f : Nat) (xs : List AV) : List AV := cells.take f ++ xs ++ cells.drop (f + xs.length)

def hAlloc (C : Ctx) (e : Nat) (key : Nat) (x : AV) (o : Objs) : Out :=
  match C.ag e, lk o key with
  | some ag, none => some (x.fits (C.size e), .ref key 0, upd o key (.box ag (x.cells ag (C.size e))))
  | _, _ => none

def hLoad (C : Ctx) (t : Nat) (p : AV) (o : Objs) : Out := match p with
  | .d (.ptr s x) => match C.ag t with
    | some true => if s = C.size t then some (True, .d x.asAgg, o) else none
    | some false => if s = 1 then some (True, .d (x.cell 0), o) else none
    | none => none
  | .ref i f => match lk o i with
    | some (.box _ cells) => match C.ag t with
      | some true => if f + C.size t ≤ cells.length then some (True, mkAgg ((cells.drop f).take (C.size t)), o) else none
      | some false => if f < cells.length then some (True, cells.getD f .dead, o) else none
      | none => none
    | some (.fbox s x) => match C.ag t with
      | some true => if f = 0 ∧ s = C.size t then some (True, .d x.asAgg, o) else none
      | some false => if f < s then some (True, .d (x.cell f), o) else none
      | none => none
    | _ => none
  | .rref i n e f => match lk o i with
    | some (.row s els _) => match C.ag t with
      | some true => if f = 0 ∧ s = C.size t then some (n = els.length ∧ e < els.length, .d (el els e).asAgg, o) else none
      | some false => if f < s then some (n = els.length ∧ e < els.length, .d ((el els e).cell f), o) else none
      | none => none
    | _ => none
  | _ => none

def D.setCell : D → Nat → D → D
  | .agg l, f, y => .agg (l.set f y)
  | _, _, y => y

def hStore (C : Ctx) (t : Nat) (p x : AV) (o : Objs) : Out := match p with
  | .ref i f => match lk o i with
    | some (.box ag cells) => match C.ag t with
      | some true => if f + C.size t ≤ cells.length then some (x.fits (C.size t), .dead, upd o i (.box ag (splice cells f (x.cells true (C.size t))))) else none
      | some false => if f < cells.length then some (x.fits 1 ∧ C.size t = 1, .dead, upd o i (.box ag (splice cells f (x.cells false 1)))) else none
      | none => none
    | _ => none
  | .rref i n e f => match lk o i, pur C.dp x o with
    | some (.row _ _ _), some (c, y, o') => match lk o' i with
      | some (.row s els k) => match C.ag t with
        | some true => if f = 0 ∧ s = C.size t then some (c ∧ n = els.length ∧ e < els.length ∧ k ≤ e ∧ y.fits s, .dead, upd o' i (.row s (els.set e y) k)) else none
        | some false => if f < s then some (c ∧ n = els.length ∧ e < els.length ∧ k ≤ e ∧ y.fits 1 ∧ C.size t = 1, .dead, upd o' i (.row s (els.set e ((el els e).setCell f (y.cell 0))) k)) else none
        | none => none
      | _ => none
    | _, _ => none
  | _ => none

def Ctx.fieldAt (C : Ctx) (t f : Nat) : Option (Nat × Nat) := match (C.τ t).kind with
  | .struct fs => fs[f]?
  | _ => none

def hFieldAddr (C : Ctx) (t : Nat) (p : AV) (f : Nat) (o : Objs) : Out := match C.fieldAt t f with
  | some (off, sz) => match p with
    | .ref i f0 => match lk o i with
      | some ob => if ob.isBox = true then some (True, .ref i (f0 + off), o) else none
      | none => none
    | .rref i n e f0 => match lk o i with
      | some (.row _ els _) => some (n = els.length, .rref i n e (f0 + off), o)
      | _ => none
    | .d (.ptr s x) => if s = C.size t ∧ sz = 1 ∧ off < s then some (True, .d (.ptr 1 (x.cell off)), o) else none
    | _ => none
  | none => none

def D.isAgg (s : Nat) : D → Prop
  | .agg l => l.length = s
  | _ => False

def hField (C : Ctx) (t : Nat) (x : AV) (f : Nat) (o : Objs) : Out := match C.fieldAt t f with
  | some (off, sz) => if sz = 1 ∧ off < C.size t then match x with
      | .d y => some (y.isAgg (C.size t), .d (y.cell off), o)
      | .agg l => if l.length = C.size t then some (True, l.getD off .dead, o) else none
      | _ => none
    else none
  | none => none

def D.isAnyInt : D → Prop
  | .int _ _ => True
  | _ => False

def hIndexAddr (C : Ctx) (t : Nat) (x ix : AV) (o : Objs) : Out := match (C.τ t).kind, ix with
  | .slice e, .d i => match x with
    | .d y => some (y.isList (C.size e) ∧ i.isAnyInt ∧ 0 ≤ i.i ∧ i.i < y.l.length, .d (.ptr (C.size e) (el y.l i.i.toNat)), o)
    | .sl k n => match lk o k with
      | some (.row s els _) => if s = C.size e then some (n = els.length ∧ i.isAnyInt ∧ 0 ≤ i.i ∧ i.i < els.length, .rref k n i.i.toNat 0, o) else none
      | _ => none
    | _ => none
  | .array n e, .d (.int _ j) => if 0 ≤ j ∧ j < n ∧ C.size e = 1 then match x with
      | .ref i f0 => match lk o i with
        | some ob => if ob.isBox = true then some (True, .ref i (f0 + j.toNat), o) else none
        | none => none
      | .d (.ptr s y) => if s = n then some (True, .d (.ptr 1 (y.cell j.toNat)), o) else none
      | _ => none
    else none
  | _, _ => none

def hIndex (C : Ctx) (t : Nat) (x ix : AV) (o : Objs) : Out := match (C.τ t).kind, x, ix with
  | .str, .d y, .d i => some (y.isStr ∧ i.isAnyInt ∧ 0 ≤ i.i ∧ i.i < y.s.length, .d (.int .u8 ((y.s.getD i.i.toNat 0).toNat : Int)), o)
  | _, _, _ => none

def hSlice (C : Ctx) (t : Nat) (x : AV) (lo hi : Option AV) (mx : Option AV) (o : Objs) : Out := match (C.τ t).kind, mx with
  | .str, none => match x with
    | .d y => match lo, hi with
      | some (.d a), some (.d b) => some (y.isStr ∧ a.isAnyInt ∧ b.isAnyInt ∧ 0 ≤ a.i ∧ a.i ≤ b.i ∧ b.i ≤ y.s.length, .d (.str ((y.s.take b.i.toNat).drop a.i.toNat)), o)
      | some (.d a), none => some (y.isStr ∧ a.isAnyInt ∧ 0 ≤ a.i ∧ a.i ≤ y.s.length, .d (.str (y.s.drop a.i.toNat)), o)
      | none, some (.d b) => some (y.isStr ∧ b.isAnyInt ∧ 0 ≤ b.i ∧ b.i ≤ y.s.length, .d (.str (y.s.take b.i.toNat)), o)
      | _, _ => none
    | _ => none
  | .slice e, none => match pur C.dp x o with
    | some (c, y, o') => match lo, hi with
      | some (.d a), some (.d b) => some (c ∧ y.isList (C.size e) ∧ a.isAnyInt ∧ b.isAnyInt ∧ 0 ≤ a.i ∧ a.i ≤ b.i ∧ b.i ≤ y.l.length, .d (.list (C.size e) ((y.l.take b.i.toNat).drop a.i.toNat)), o')
      | some (.d a), none => some (c ∧ y.isList (C.size e) ∧ a.isAnyInt ∧ 0 ≤ a.i ∧ a.i ≤ y.l.length, .d (.list (C.size e) (y.l.drop a.i.toNat)), o')
      | none, some (.d b) => some (c ∧ y.isList (C.size e) ∧ b.isAnyInt ∧ 0 ≤ b.i ∧ b.i ≤ y.l.length, .d (.list (C.size e) (y.l.take b.i.toNat)), o')
      | _, _ => none
    | none => none
  | _, _ => none

def zerosD (z : D) : Nat → List D
  | 0 => []
  | n + 1 => z :: zerosD z n
def setAll : List D → List (Nat × D) → List D
  | l, [] => l
  | l, (i, x) :: r => setAll (l.set i x) r
def allFit (s : Nat) : List D → Prop
  | [] => True
  | x :: l => x.fits s ∧ allFit s l

def purParts (C : Ctx) : List (Nat × AV) → Objs → Option (Prop × List (Nat × D) × Objs)
  | [], o => some (True, [], o)
  | (i, x) :: r, o => match pur C.dp x o with
    | some (c, y, o') => match purParts C r o' with
      | some (c', l, o'') => some (c ∧ c', (i, y) :: l, o'')
      | none => none
    | none => none

def allLt (n : Nat) : List (Nat × AV) → Bool
  | [] => true
  | (i, _) :: r => decide (i < n) && allLt n r

def hBuildSlice (C : Ctx) (t n : Nat) (parts : List (Nat × AV)) (key : Nat) (o : Objs) : Out := match (C.τ t).kind with
  | .slice e => match purParts C parts o with
    | some (c, ps, o') => match lk o' key with
      | none => if n * C.size e ≤ 16777216 ∧ allLt n parts = true then
          some (c ∧ allFit (C.size e) (ps.map (·.2)), .sl key n, upd o' key (.row (C.size e) (setAll (zerosD (C.τ e).zd n) ps) 0)) else none
      | some _ => none
    | none => none
  | _ => none

def buildGo (o : Objs) (fs : List (Nat × Nat)) : List AV → List (Nat × AV) → Prop → Out
  | cells, [], c => some (c, mkAgg cells, o)
  | cells, (i, x) :: r, c => match fs[i]? with
    | some (off, sz) => if sz = 1 ∧ off < cells.length then buildGo o fs (cells.set off ((x.cells false 1).getD 0 .dead)) r (c ∧ x.fits 1) else none
    | none => none
def hBuild (C : Ctx) (t : Nat) (parts : List (Nat × AV)) (o : Objs) : Out := match (C.τ t).kind with
  | .struct fs => buildGo o fs ((C.τ t).zero.cells true (C.size t)) parts ((C.τ t).zero.fits (C.size t))
  | _ => none

def hMakeSlice (C : Ctx) (t : Nat) (l c : AV) (key : Nat) (o : Objs) : Out := match (C.τ t).kind, l, c with
  | .slice e, .d a, .d b => match lk o key with
    | none => some (a.isAnyInt ∧ b.isAnyInt ∧ 0 ≤ a.i ∧ a.i = b.i ∧ (C.τ e).bytes * b.i ≤ 281474976710656 ∧ b.i ≤ 4294967296,
        .sl key a.i.toNat, upd o key (.row (C.size e) (List.replicate a.i.toNat (C.τ e).zd) 0))
    | some _ => none
  | _, _, _ => none

/-- What is appended. -/
def hSource (s : Nat) (x : AV) (o : Objs) : Option (Prop × List D) := match x with
  | .d y => some (y.isList s, y.l)
  | .nils _ => some (True, [])
  | .sl i n => match lk o i with
    | some (.row s' els _) => if s' = s then some (n = els.length, els) else none
    | _ => none
  | _ => none

def hAppend (C : Ctx) (t : Nat) (s x : AV) (key : Nat) (o : Objs) : Out := match (C.τ t).kind with
  | .slice e => match hSource (C.size e) x o with
    | some (c, xs) => match s with
      | .nils _ => match lk o key with
        | none => some (c ∧ xs.length * (C.τ e).bytes ≤ 140737488355328 ∧ xs.length ≤ 4611686018427387904, .sl key xs.length, upd o key (.row (C.size e) xs 0))
        | some _ => none
      | .sl i n => match lk o i with
        | some (.row s' els k) => if s' = C.size e then
            some (c ∧ n = els.length ∧ (els.length + xs.length) * (C.τ e).bytes ≤ 140737488355328 ∧ els.length + xs.length ≤ 4611686018427387904, .sl i (els ++ xs).length, upd o i (.row s' (els ++ xs) k)) else none
        | _ => none
      | _ => none
    | none => none
  | _ => none

def hLen (C : Ctx) (t : Nat) (x : AV) (o : Objs) : Out := match (C.τ t).kind, x with
  | .str, .d y => some (y.isStr, .d (.int .i64 y.s.length), o)
  | .slice e, .d y => some (y.isList (C.size e), .d (.int .i64 y.l.length), o)
  | .slice _, .nils _ => some (True, .d (.int .i64 0), o)
  | .slice _, .sl i n => match lk o i with
    | some (.row _ els _) => some (n = els.length, .d (.int .i64 els.length), o)
    | _ => none
  | _, _ => none

def hMin (C : Ctx) (t : Nat) : AV → AV → Option (Prop × D)
  | .d x, .d y => match (C.τ t).kind with
    | .int k => some (x.isInt k ∧ y.isInt k, .int k (minI x.i y.i))
    | _ => none
  | _, _ => none
def hMax (C : Ctx) (t : Nat) : AV → AV → Option (Prop × D)
  | .d x, .d y => match (C.τ t).kind with
    | .int k => some (x.isInt k ∧ y.isInt k, .int k (maxI x.i y.i))
    | _ => none
  | _, _ => none

def hConv (C : Ctx) (s t : Nat) : AV → Option (Prop × D)
  | .d x => match (C.τ s).kind, (C.τ t).kind with
    | .int k, .int k' => some (x.isInt k ∧ inR k' x.i, .int k' x.i)
    | .str, .str => some (x.isStr, x)
    | _, _ => none
  | _ => none

def hExtract (x : AV) (i : Nat) (o : Objs) : Out := match x with
  | .tup l => if i < l.length then some (True, l.getD i .dead, o) else none
  | .d (.tup l) => if i < l.length then some (True, .d (l.getD i .nilp), o) else none
  | _ => none

/-! ### calls -/
def inArgs (C : Ctx) : List Bool → List AV → Objs → Option (Prop × List CV × Objs)
  | _, [], o => some (True, [], o)
  | [], _ :: _, _ => none
  | false :: ms, x :: r, o => match pur C.dp x o with
    | some (c, y, o') => match inArgs C ms r o' with
      | some (c', l, o'') => some (c ∧ c', .d y :: l, o'')
      | none => none
    | none => none
  | true :: ms, x :: r, o => match x with
    | .sl i n => match lk o i with
      | some (.row s els k) => match inArgs C ms r (upd o i .gone) with
        | some (c, l, o') => some (c ∧ n = els.length ∧ k = 0, .own s els :: l, o')
        | none => none
      | _ => none
    | .nils s => match inArgs C ms r o with
      | some (c, l, o') => some (c, .own s [] :: l, o')
      | none => none
    | _ => none

def outOne (key : Nat) (x : CV) (o : Objs) : Option (AV × Objs) := match x with
  | .d y => some (.d y, o)
  | .own s l => match lk o key with
    | none => some (.sl key l.length, upd o key (.row s l 0))
    | some _ => none
  | .tup _ => none
def outAll (key : Nat) : List CV → Objs → Option (List AV × Objs)
  | [], o => some ([], o)
  | x :: r, o => match outOne key x o with
    | some (y, o') => match outAll (key + 4096) r o' with
      | some (l, o'') => some (y :: l, o'')
      | none => none
    | none => none
def outCV (key : Nat) (x : CV) (o : Objs) : Option (AV × Objs) := match x with
  | .tup l => match outAll key l o with
    | some (ys, o') => some (mkTup ys, o')
    | none => none
  | x => outOne key x o

def hCall (C : Ctx) (f : Nat) (args : List AV) (key : Nat) (o : Objs) : Out := match C.Γ f with
  | some con => match inArgs C con.modes args o with
    | some (c, cvs, o') => match outCV key (con.fn cvs) o' with
      | some (y, o'') => some (c ∧ con.pre cvs, y, o'')
      | none => none
    | none => none
  | none => none

def hCallV (C : Ctx) (f : AV) (args : List AV) (key : Nat) (o : Objs) : Out := match f with
  | .d (.clo g caps) => hCall C g (args ++ caps.map .d) key o
  | .clo g caps => hCall C g (args ++ caps) key o
  | _ => none

/-! ### one operation -/
def evs (C : Ctx) (st : AS) : List Operand → List Nat → List AV
  | [], _ => []
  | x :: r, [] => st.ev C 0 x :: evs C st r []
  | x :: r, t :: ts => st.ev C t x :: evs C st r ts
def evO (C : Ctx) (st : AS) (t : Nat) : Option Operand → Option AV
  | some x => some (st.ev C t x)
  | none => none
def evParts (C : Ctx) (st : AS) (h : Nat) : List (Nat × Operand) → List (Nat × AV)
  | [] => []
  | (i, x) :: r => (i, st.ev C h x) :: evParts C st h r
def Ctx.elemT (C : Ctx) (t : Nat) : Nat := match (C.τ t).kind with
  | .slice e => e
  | .array _ e => e
  | _ => 0

def opStep (C : Ctx) (o : Oper) (st : AS) : Out := match o.op with
  | .move x => some (True, st.ev C o.type x, st.objs)
  | .assign x => some (True, st.ev C o.type x, st.objs)
  | .pick c a b => match hPick (st.ev C 0 c) (st.ev C o.type a) (st.ev C o.type b) with
    | some x => some (True, x, st.objs)
    | none => none
  | .alloc e => match o.dst with
    | some k => hAlloc C e k (C.τ e).zero st.objs
    | none => none
  | .box e x => match o.dst with
    | some k => hAlloc C e k (st.ev C e x) st.objs
    | none => none
  | .build t ps => hBuild C t (evParts C st 0 ps.toList) st.objs
  | .buildSlice t n ps => match o.dst with
    | some k => hBuildSlice C t n (evParts C st (C.elemT t) ps.toList) k st.objs
    | none => none
  | .load t p => hLoad C t (st.ev C 0 p) st.objs
  | .store t p x => hStore C t (st.ev C 0 p) (st.ev C t x) st.objs
  | .binOp op t x y _ => pureOut st.objs (hBin C op t (st.ev C t x) (st.ev C t y))
  | .unOp op t x => pureOut st.objs (hUn C op t (st.ev C t x))
  | .convert s t x => pureOut st.objs (hConv C s t (st.ev C s x))
  | .makeFunc (.func f) first caps => match first.toList with
    | [] => some (True, mkClo f (evs C st caps.toList []), st.objs)
    | _ => none
  | .makeSlice t l c => match o.dst with
    | some k => hMakeSlice C t (st.ev C 0 l) (st.ev C 0 c) k st.objs
    | none => none
  | .slice t x lo hi mx => hSlice C t (st.ev C t x) (evO C st 0 lo) (evO C st 0 hi) (evO C st 0 mx) st.objs
  | .fieldAddr t p f => hFieldAddr C t (st.ev C 0 p) f st.objs
  | .field t x f => hField C t (st.ev C t x) f st.objs
  | .indexAddr t x i => hIndexAddr C t (st.ev C t x) (st.ev C 0 i) st.objs
  | .index t x i => hIndex C t (st.ev C t x) (st.ev C 0 i) st.objs
  | .extract x i => hExtract (st.ev C 0 x) i st.objs
  | .call c => match c.callee with
    | .builtin .len => match c.args.toList, c.argTypes.toList with
      | [x], [t] => hLen C t (st.ev C t x) st.objs
      | _, _ => none
    | .builtin .append => match c.args.toList, c.argTypes.toList, o.dst with
      | [s, x], [t, t'], some k => if t = t' then hAppend C t (st.ev C t s) (st.ev C t' x) k st.objs else none
      | _, _, _ => none
    | .builtin .min => match c.args.toList, c.argTypes.toList with
      | [x, y], t :: _ => pureOut st.objs (hMin C t (st.ev C t x) (st.ev C t y))
      | _, _ => none
    | .builtin .max => match c.args.toList, c.argTypes.toList with
      | [x, y], t :: _ => pureOut st.objs (hMax C t (st.ev C t x) (st.ev C t y))
      | _, _ => none
    | .value (.func f) => match o.dst with
      | some k => hCall C f (evs C st c.args.toList c.argTypes.toList) k st.objs
      | none => none
    | .value (.tmp f) => match o.dst with
      | some k => hCallV C (st.ev C 0 (.tmp f)) (evs C st c.args.toList c.argTypes.toList) k st.objs
      | none => none
    | _ => none
  | _ => none

def AS.put (st : AS) (dst : Option Tmp) (x : AV) (o : Objs) : AS := ⟨match dst with | some t => st.tmps.set t x | none => st.tmps, o⟩

def aExecD (C : Ctx) (o : Oper) (K : AS → Prop) (st : AS) : Prop := match opStep C o st with
  | some (c, x, os) => c ∧ K (st.put o.dst x os)
  | none => False

/-! ### what is lent to a call -/
def rk (rs : List Nat) (i : Nat) : Nat := rs.getD (i - 90000) 0
mutual
def rnA (rs : List Nat) : AV → AV
  | .d x => .d x
  | .ref i f => .ref (rk rs i) f
  | .rref i n e f => .rref (rk rs i) n e f
  | .sl i n => .sl (rk rs i) n
  | .agg l => .agg (rnAs rs l)
  | .tup l => .tup (rnAs rs l)
  | .clo f l => .clo f (rnAs rs l)
  | .nils s => .nils s
  | .dead => .dead
def rnAs (rs : List Nat) : List AV → List AV
  | [] => []
  | x :: l => rnA rs x :: rnAs rs l
end
def rnO (rs : List Nat) : Obj → Obj
  | .box ag cells => .box ag (rnAs rs cells)
  | .fbox s x => .fbox s x
  | .row s els k => .row s els k
  | .gone => .gone
/-- These objects stand at these numbers. -/
def standAt (rs0 : List Nat) : List Nat → List Obj → Objs → Prop
  | _, [], _ => True
  | [], _ :: _, _ => False
  | k :: ks, x :: l, o => lk o k = some (rnO rs0 x) ∧ standAt rs0 ks l o
def freeAt : List Nat → Objs → Prop
  | [], _ => True
  | k :: ks, o => lk o k = none ∧ freeAt ks o
def backTo (rs0 : List Nat) : List Nat → List Obj → Objs → Objs
  | k :: ks, x :: l, o => backTo rs0 ks l (upd o k (rnO rs0 x))
  | _, _, o => o
def aCallB (bc : BCon) (args : List AV) (dst : Option Tmp) (K : AS → Prop) (st : AS) : Prop :=
  ∃ (x : bc.X) (rs : List Nat), bc.ok x ∧ rnAs rs (bc.args x) = args ∧ rs.Nodup ∧ rs.length = (bc.post x).length ∧ standAt rs rs (bc.objs x) st.objs ∧ freeAt (rs.drop (bc.objs x).length) st.objs ∧
    K (AS.put st dst (.d (bc.res x)) (backTo rs rs (bc.post x) st.objs))
/-- Is it a call to which something is lent? -/
def bOf (C : Ctx) (o : Oper) (st : AS) : Option (BCon × List AV) := match o.op with
  | .call c => match c.callee with
    | .value (.func f) => match C.Δ f with
      | some bc => some (bc, evs C st c.args.toList c.argTypes.toList)
      | none => none
    | .value (.tmp f) => match st.ev C 0 (.tmp f) with
      | .d (.clo g caps) => match C.Δ g with
        | some bc => some (bc, evs C st c.args.toList c.argTypes.toList ++ caps.map .d)
        | none => none
      | .clo g caps => match C.Δ g with
        | some bc => some (bc, evs C st c.args.toList c.argTypes.toList ++ caps)
        | none => none
      | _ => none
    | _ => none
  | _ => none
/-! ### an own slice cut short, and still one's own -/
mutual
def AV.off (i : Nat) : AV → Bool
  | .d _ => true
  | .ref j _ => j != i
  | .rref j _ _ _ => j != i
  | .sl j _ => j != i
  | .agg l => offAll i l
  | .tup l => offAll i l
  | .clo _ l => offAll i l
  | .nils _ => true
  | .dead => true
def offAll (i : Nat) : List AV → Bool
  | [] => true
  | x :: l => x.off i && offAll i l
end
def killK (i : Nat) : List AV → List AV
  | [] => []
  | x :: l => cond (x.off i) x .dead :: killK i l
def objsOff (i : Nat) : Objs → Bool
  | [] => true
  | (_, .box _ cells) :: r => offAll i cells && objsOff i r
  | _ :: r => objsOff i r
def hasN : List Nat → Nat → Bool
  | [], _ => false
  | x :: l, d => if x = d then true else hasN l d
def cutOf (C : Ctx) (o : Oper) (st : AS) : Option (Nat × Nat × D × Nat × List D × Nat) := match o.op, o.dst with
  | .slice t x none (some hi) none, some d => if hasN C.cuts d = true then match (C.τ t).kind, st.ev C t x, st.ev C 0 hi with
      | .slice e, .sl i n, .d b => match lk st.objs i with
        | some (.row s els k) => if s = C.size e then some (i, n, b, s, els, k) else none
        | _ => none
      | _, _, _ => none
    else none
  | _, _ => none
def aExec (C : Ctx) (o : Oper) (K : AS → Prop) (st : AS) : Prop := match bOf C o st with
  | some (bc, args) => aCallB bc args o.dst K st
  | none => match cutOf C o st with
    | some (i, n, b, s, els, k) => (n = els.length ∧ b.isAnyInt ∧ 0 ≤ b.i ∧ b.i ≤ els.length ∧ (k : Int) ≤ b.i ∧ objsOff i st.objs = true ∧ i < 90000) ∧
        K (AS.put ⟨killK i st.tmps, st.objs⟩ o.dst (.sl i b.i.toNat) (upd st.objs i (.row s (els.take b.i.toNat) k)))
    | none => aExecD C o K st

/-- What a guard looks at: a Bool, and the slot where it stands; a slot that was passed over. -/
inductive GV where
  | b (t : Nat) (v : Bool)
  | und
  | no
def guardOf (ops : List Oper) (st : AS) (j : Nat) : GV := match ops[j]? with
  | some g => match g.dst with
    | some t => match st.tmps.getD t .dead with
      | .d (.bool b) => .b t b
      | .d (.tup []) => .und
      | _ => .no
    | none => .no
  | none => .no
def GV.skips : GV → Bool → Prop
  | .b _ v, want => v ≠ want
  | .und, _ => True
  | .no, _ => False
def GV.runs : GV → Bool → Prop
  | .b _ v, want => v = want
  | _, _ => False

/-- A branch on a Bool: one side alone is looked at where it is known. -/
def ifB (b : Bool) (P Q : Prop) : Prop := (b = true → P) ∧ (b = false → Q)
def ifG (b want : Bool) (P Q : Prop) : Prop := (b = want → P) ∧ (b = (!want) → Q)
theorem ifB_tt {P Q : Prop} : ifB (D.b (.bool true)) P Q = P := by simp [ifB, D.b]
theorem ifB_ff {P Q : Prop} : ifB (D.b (.bool false)) P Q = Q := by simp [ifB, D.b]
theorem ifB_t {P Q : Prop} : ifB true P Q = P := by simp [ifB]
theorem ifB_f {P Q : Prop} : ifB false P Q = Q := by simp [ifB]
theorem ifG_tt {P Q : Prop} : ifG true true P Q = P := by simp [ifG]
theorem ifG_ff {P Q : Prop} : ifG false false P Q = P := by simp [ifG]
theorem ifG_tf {P Q : Prop} : ifG true false P Q = Q := by simp [ifG]
theorem ifG_ft {P Q : Prop} : ifG false true P Q = Q := by simp [ifG]

def aOp (C : Ctx) (ops : List Oper) (o : Oper) (K : AS → Prop) (st : AS) : Prop := match o.guard with
  | none => aExec C o K st
  | some (j, want) => match guardOf ops st j with
    | .b t b => ifG b want (aExec C o K { st with tmps := st.tmps.set t (.d (.bool want)) })
        (K (AS.put { st with tmps := st.tmps.set t (.d (.bool (!want))) } o.dst (.d (.tup [])) st.objs))
    | .und => K (AS.put st o.dst (.d (.tup [])) st.objs)
    | .no => False

def aOps (C : Ctx) (ops : List Oper) : List Oper → (AS → Prop) → AS → Prop
  | [], K, st => K st
  | o :: r, K, st => aOp C ops o (aOps C ops r K) st

/-! ### regions whose order is open -/
mutual
def AV.keys : AV → List Nat
  | .d _ => []
  | .ref i _ => [i]
  | .rref i _ _ _ => [i]
  | .sl i _ => [i]
  | .agg l => keysAll l
  | .tup l => keysAll l
  | .clo _ l => keysAll l
  | .nils _ => []
  | .dead => []
def keysAll : List AV → List Nat
  | [] => []
  | x :: l => x.keys ++ keysAll l
end
/-- What an operation looks at. -/
def opnds : Op → List Operand
  | .move x => [x]
  | .assign x => [x]
  | .pick c a b => [c, a, b]
  | .box _ x => [x]
  | .build _ ps => ps.toList.map (·.2)
  | .buildSlice _ _ ps => ps.toList.map (·.2)
  | .load _ p => [p]
  | .store _ p x => [p, x]
  | .binOp _ _ x y _ => [x, y]
  | .unOp _ _ x => [x]
  | .convert _ _ x => [x]
  | .makeFunc _ _ caps => caps.toList
  | .makeSlice _ l c => [l, c]
  | .slice _ x lo hi mx => x :: (lo.toList ++ hi.toList ++ mx.toList)
  | .fieldAddr _ p _ => [p]
  | .field _ x _ => [x]
  | .indexAddr _ x i => [x, i]
  | .index _ x i => [x, i]
  | .extract x _ => [x]
  | .call c => match c.callee with
    | .value f => f :: c.args.toList
    | _ => c.args.toList
  | _ => []
/-- Does it lay objects of its own? -/
def makes : Op → Bool
  | .alloc _ => true
  | .box _ _ => true
  | .buildSlice _ _ _ => true
  | .makeSlice _ _ _ => true
  | .call c => match c.callee with
    | .builtin .append => true
    | .value _ => true
    | _ => false
  | _ => false
/-- Does it look at objects, if at all, and turn none? -/
def roOf : Op → Bool
  | .load .. => true
  | .fieldAddr .. => true
  | .indexAddr .. => true
  | .move _ => true
  | .assign _ => true
  | .extract .. => true
  | .pick .. => true
  | .build .. => true
  | .field .. => true
  | .index .. => true
  | .binOp .. => true
  | .unOp .. => true
  | .convert .. => true
  | .makeFunc .. => true
  | .call c => match c.callee with
    | .builtin .len => true
    | _ => false
  | _ => false
def ownKey : Option Nat → Op → List Nat
  | some k, o => if makes o = true then [k] else []
  | none, _ => []
/-- The objects that an operation may come to, modulo 4096. -/
def fpOf (C : Ctx) (o : Oper) (st : AS) : List Nat := (keysAll ((opnds o.op).map (st.ev C 0)) ++ ownKey o.dst o.op).map (· % 4096)

def maskOf : List Edge → List Nat → Nat
  | [], _ => 0
  | e :: r, acc => if Region.binds .any e = true then (2 ^ e.on ||| acc.getD e.on 0) ||| maskOf r acc else maskOf r acc
def masksGo : List Oper → List Nat → List Nat
  | [], acc => acc
  | o :: r, acc => masksGo r (acc ++ [maskOf o.after.toList acc])
def masks (ops : List Oper) : List Nat := masksGo ops []
def tmpOf : Operand → List Nat
  | .tmp t => [t]
  | _ => []
def looks (ops : List Oper) (o : Oper) : List Nat := (opnds o.op).flatMap tmpOf ++ (match o.guard with
  | some (j, _) => match ops[j]? with
    | some g => g.dst.toList
    | none => []
  | none => [])
def slotsApart (ops : List Oper) (x y : Oper) : Bool := (match x.dst with
  | some d => !(looks ops y).contains d && y.dst != some d
  | none => true) && (match y.dst with
  | some d => !(looks ops x).contains d
  | none => true)
def edgesOk : Nat → List Oper → Bool
  | _, [] => true
  | i, o :: r => o.after.toList.all (fun e => !Region.binds .any e || decide (e.on < i)) && edgesOk (i + 1) r
def slotsOk (ops : List Oper) : Bool := (List.range ops.length).all fun i => (List.range i).all fun k => ((masks ops).getD i 0).testBit k || (match ops[k]?, ops[i]? with
  | some x, some y => slotsApart ops x y
  | _, _ => true)
def fpsOk (ms : List Nat) : List (Nat × List Nat × Bool) → Bool
  | [] => true
  | (i, fi, ri) :: r => r.all (fun q => (ms.getD i 0).testBit q.1 || fi.all (fun x => !q.2.1.contains x) || (ri && q.2.2)) && fpsOk ms r
def okD (ops : List Oper) (acc : List (Nat × List Nat × Bool)) : Bool := edgesOk 0 ops && slotsOk ops && fpsOk (masks ops) acc

/-- A call to which something is lent, in an order that is open: what it may come to is told. -/
def aCallBD (bc : BCon) (args : List AV) (dst : Option Tmp) (K : List Nat → AS → Prop) (st : AS) : Prop :=
  ∃ (x : bc.X) (rs : List Nat), bc.ok x ∧ rnAs rs (bc.args x) = args ∧ rs.Nodup ∧ rs.length = (bc.post x).length ∧ standAt rs rs (bc.objs x) st.objs ∧ freeAt (rs.drop (bc.objs x).length) st.objs ∧
    K (rs.map (· % 4096)) (AS.put st dst (.d (bc.res x)) (backTo rs rs (bc.post x) st.objs))
def aExecB (C : Ctx) (o : Oper) (K : List Nat → Bool → AS → Prop) (st : AS) : Prop := match bOf C o st with
  | some (bc, args) => aCallBD bc args o.dst (fun fp => K fp false) st
  | none => match opStep C o st with
    | some (c, x, os) => c ∧ K (fpOf C o st) (roOf o.op) (st.put o.dst x os)
    | none => False
def aDraws (C : Ctx) (ops : List Oper) : Nat → List Oper → List (Nat × List Nat × Bool) → (AS → Prop) → AS → Prop
  | _, [], acc, K, st => okD ops acc = true ∧ K st
  | i, o :: r, acc, K, st => match o.guard with
    | none => aExecB C o (fun fp ro => aDraws C ops (i + 1) r ((i, fp, ro) :: acc) K) st
    | some (j, want) => match guardOf ops st j with
      | .b t b => ifG b want (aExecB C o (fun fp ro => aDraws C ops (i + 1) r ((i, fp, ro) :: acc) K) { st with tmps := st.tmps.set t (.d (.bool want)) })
          (aDraws C ops (i + 1) r acc K (AS.put { st with tmps := st.tmps.set t (.d (.bool (!want))) } o.dst (.d (.tup [])) st.objs))
      | .und => aDraws C ops (i + 1) r acc K (AS.put st o.dst (.d (.tup [])) st.objs)
      | .no => False
def Ctx.one (C : Ctx) : Ctx := ⟨C.τ, C.Γ, 1, C.Δ, []⟩

/-! ### less is known -/
mutual
def AV.kept (o : Objs) : AV → Prop
  | .d _ => True
  | .ref i _ => (lk o i).isSome = true
  | .rref i _ _ _ => (lk o i).isSome = true
  | .sl i _ => (lk o i).isSome = true
  | .agg l => keptAll o l
  | .tup l => keptAll o l
  | .clo _ l => keptAll o l
  | .nils _ => True
  | .dead => True
def keptAll (o : Objs) : List AV → Prop
  | [] => True
  | x :: l => x.kept o ∧ keptAll o l
end
def wk1 (o1 o2 : Objs) : AV → AV → Prop
  | _, .dead => True
  | .nils s, .sl i n => n = 0 ∧ lk o1 i = none ∧ lk o2 i = some (.row s [] 0)
  | x, y => x = y ∧ y.kept o2
def wkT (o1 o2 : Objs) : List AV → List AV → Prop
  | [], [] => True
  | x :: l, y :: l' => wk1 o1 o2 x y ∧ wkT o1 o2 l l'
  | _, _ => False
def wkObj (o1 o2 : Objs) : Option Obj → Obj → Prop
  | some (.box ag cs), .box ag' cs' => ag = ag' ∧ wkT o1 o2 cs cs'
  | none, .row _ els k => els = [] ∧ k = 0
  | some o, o' => o = o'
  | none, _ => False
def wkO (o1 o2 : Objs) : Objs → Prop
  | [] => True
  | (i, o) :: r => wkObj o1 o2 (lk o1 i) o ∧ wkO o1 o2 r
/-- In the second state less is known than in the first. -/
def wkK (o2 : Objs) : Objs → Prop
  | [] => True
  | (i, _) :: r => (90000 ≤ i → (lk o2 i).isSome = true) ∧ wkK o2 r
def Wk (s1 s2 : AS) : Prop := wkT s1.objs s2.objs s1.tmps s2.tmps ∧ wkO s1.objs s2.objs s2.objs ∧ wkK s2.objs s1.objs

inductive AExit where
  | normal
  | exit (id : Nat)
  | ret

def aThen (K : AS → Prop) (Q : AExit → AS → Prop) : AExit → AS → Prop
  | .normal, st => K st
  | e, st => Q e st
def aBlock (id : Nat) (Q : AExit → AS → Prop) : AExit → AS → Prop
  | .exit id', st => if id' = id then Q .normal st else Q (.exit id') st
  | e, st => Q e st

def awp (C : Ctx) : Code → (AExit → AS → Prop) → AS → Prop
  | .skip, Q, st => Q .normal st
  | .region _ ops false, Q, st => aOps C ops.toList ops.toList (Q .normal) st
  | .region _ ops true, Q, st => aDraws C.one ops.toList 0 ops.toList [] (Q .normal) st
  | .seq x y, Q, st => awp C x (aThen (awp C y Q) Q) st
  | .cond c x y, Q, st => match st.ev C 0 c with
    | .d b => b.isBool ∧ ifB b.b (awp C x Q st) (awp C y Q st)
    | _ => False
  | .block id c, Q, st => awp C c (aBlock id Q) st
  | .loop c, Q, st => ∃ (α : Type) (inv : α → AS) (ok : α → Prop) (μ : α → Nat), (∃ a, Wk st (inv a) ∧ ok a) ∧ ∀ a, ok a → awp C c (aThen (fun s' => ∃ a', Wk s' (inv a') ∧ ok a' ∧ μ a' < μ a) Q) (inv a)
  | .exit id, Q, st => Q (.exit id) st
  | .ret, Q, st => Q .ret st
  | _, _, _ => False

/-- A loop: what holds at its head, and a measure. -/
def aLoop (C : Ctx) (c : Code) (Q : AExit → AS → Prop) (st : AS) : Prop :=
  ∃ (α : Type) (inv : α → AS) (ok : α → Prop) (μ : α → Nat), (∃ a, Wk st (inv a) ∧ ok a) ∧ ∀ a, ok a → awp C c (aThen (fun s' => ∃ a', Wk s' (inv a') ∧ ok a' ∧ μ a' < μ a) Q) (inv a)

section
variable (C : Ctx) (Q : AExit → AS → Prop) (st : AS)
theorem awp_skip : awp C .skip Q st = Q .normal st := rfl
theorem awp_region (id : Nat) (ops : List Oper) : awp C (.region id ops.toArray false) Q st = aOps C ops ops (Q .normal) st := rfl
theorem awp_draw (id : Nat) (ops : List Oper) : awp C (.region id ops.toArray true) Q st = aDraws C.one ops 0 ops [] (Q .normal) st := rfl
theorem awp_seq (x y : Code) : awp C (.seq x y) Q st = awp C x (aThen (awp C y Q) Q) st := rfl
theorem awp_cond (c : Operand) (x y : Code) : awp C (.cond c x y) Q st = (match st.ev C 0 c with
    | .d b => b.isBool ∧ ifB b.b (awp C x Q st) (awp C y Q st)
    | _ => False) := rfl
theorem awp_block (id : Nat) (c : Code) : awp C (.block id c) Q st = awp C c (aBlock id Q) st := rfl
theorem awp_loop (c : Code) : awp C (.loop c) Q st = aLoop C c Q st := rfl
theorem awp_exit (id : Nat) : awp C (.exit id) Q st = Q (.exit id) st := rfl
theorem awp_ret : awp C .ret Q st = Q .ret st := rfl
end

/-- How a loop is shown: the state at its head, for each value of what is carried round. -/
theorem aLoop_of {C : Ctx} {c : Code} {Q : AExit → AS → Prop} {st : AS} {α : Type} (inv : α → AS) (ok : α → Prop) (μ : α → Nat) (a0 : α) (h0 : ok a0) (hw : Wk st (inv a0))
    (h : ∀ a, ok a → awp C c (aThen (fun s' => ∃ a', Wk s' (inv a') ∧ ok a' ∧ μ a' < μ a) Q) (inv a)) : aLoop C c Q st :=
  ⟨α, inv, ok, μ, ⟨a0, hw, h0⟩, h⟩

end Go.Am
