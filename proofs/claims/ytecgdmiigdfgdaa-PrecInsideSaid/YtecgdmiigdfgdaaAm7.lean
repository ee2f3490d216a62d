/-
  The abstract machine, part 7: operations that make nothing: what they tell is so.
-/
import Derived.Test.YtecgdmiigdfgdaaAm6
import Derived.Laws.StructEq
import Derived.Shelf.Abstract
namespace Go.Am

def plainDesc : TypeDesc → Bool
  | .struct _ => false
  | .array .. => false
  | _ => true
/-- What is known of a type is so. -/
def TK.is (P : Program) (τ : Nat → TI) : TK → TypeDesc → Prop
  | .int k, d => d = .int k
  | .bool, d => d = .bool
  | .str, d => d = .string
  | .slice e, d => d = .slice e ∧ (τ e).kind.ag.isSome = true
  | .struct fs, d => ∃ fields : Array Field, d = .struct fields ∧ fs.length = fields.size ∧ ∀ (j : Nat) (f : Field) (p : Nat × Nat), fields[j]? = some f → fs[j]? = some p →
      f.offset = p.1 ∧ (P.info? f.type).map (·.size) = some p.2 ∧ 0 < p.2 ∧ (p.2 = 1 → ∃ d', P.underlying f.type = some d' ∧ plainDesc d' = true)
  | .array n e, d => d = .array n e ∧ (τ e).kind.ag = some false
  | .ptr e, d => d = .pointer e
  | .func, d => ∃ a b c, d = .func a b c
  | .other, _ => True

def SK.desc : SK → TypeDesc
  | .int k => .int k
  | .bool => .bool
  | .str => .string
def eqFs (P : Program) : Nat → List Field → List SK → Prop
  | _, [], [] => True
  | j, f :: fs, k :: ks => f.name ≠ "_" ∧ f.offset = j ∧ P.underlying f.type = some k.desc ∧ eqFs P (j + 1) fs ks
  | _, _, _ => False
/-- Structs of a type can be compared, cell by cell. -/
def EqOk (P : Program) (t : Nat) (ks : List SK) : Prop := P.underlying t = some (.struct (P.fieldsOf t)) ∧ P.stoodInHeld t = false ∧ P.eqGuardType P.depth t = false ∧ eqFs P 0 (P.fieldsOf t).toList ks
structure TyOk (P : Program) (τ : Nat → TI) (t : Nat) : Prop where
  und : ∃ d, P.underlying t = some d ∧ (τ t).kind.is P τ d
  info : ∃ i z, P.info? t = some i ∧ i.size = (τ t).size ∧ i.bytes = (τ t).bytes ∧ i.zero = some z ∧ (∀ F G L, RA F G L (τ t).zero z) ∧ (∀ F, R F (τ t).zd z) ∧ z.cells.size = (τ t).size ∧
    ∀ u ∈ z.cells.toList, u.oneCell' = true
  pos : 0 < (τ t).size
  eqs : (τ t).eqk ≠ [] → EqOk P t (τ t).eqk
def TabOk (P : Program) (τ : Nat → TI) : Prop := ∀ t, (τ t).kind.ag.isSome = true → TyOk P τ t

section
variable {P : Program} {C : Ctx} {F : Fix} {G : Gh} {L : Nat → Option Obj} {w : World}

theorem TabOk.kind (h : TabOk P C.τ) {t : Nat} {k : TK} (hk : (C.τ t).kind = k) (hs : k.ag.isSome = true) : ∃ d, P.underlying t = some d ∧ k.is P C.τ d := by
  obtain ⟨d, h1, h2⟩ := (h t (by rw [hk]; exact hs)).und
  exact ⟨d, h1, hk ▸ h2⟩

theorem const_sound {hint : Nat} {v : Value} : RA F G L (constAV C hint v) v := by
  unfold constAV
  split
  · simp [RA]
  · cases v with
    | int k n => simp [constD, RA, R]
    | bool b => simp [constD, RA, R]
    | string s => simp [constD, RA, R]
    | nilFunc => simp [constD, RA, R]
    | pointer a => cases a <;> simp [constD, RA, R]
    | _ => simp [constD, RA]

theorem ev_sound {st : AS} {a : Act} (h : RAs F G L st.tmps a.tmps.toList) {hint : Nat} (x : Operand) : RA F G L (st.ev C hint x) (a.eval x) := by
  cases x with
  | tmp t =>
    simp only [AS.ev, Act.eval]
    cases hx : st.tmps[t]? with
    | none => rw [List.getD_eq_getElem?_getD, hx]; simp [RA]
    | some y =>
      obtain ⟨u, hu, hr⟩ := h.at hx
      rw [List.getD_eq_getElem?_getD, hx, Array.getD_eq_getD_getElem?]
      rw [Array.getElem?_toList] at hu
      rw [hu]
      exact hr
  | const v => exact const_sound
  | global g => simp [AS.ev, RA]
  | func f => simp [AS.ev, RA, R, Act.eval, Rs]

/-! ### data by kind -/
theorem R.of_int {x : D} {v : Value} {k : IntKind} (h : R F x v) (hk : x.isInt k) : v = .int k x.i := by
  cases x <;> simp_all [D.isInt, D.i, R]
theorem R.of_anyInt {x : D} {v : Value} (h : R F x v) (hk : x.isAnyInt) : ∃ k, v = .int k x.i := by
  cases x <;> simp_all [D.isAnyInt, D.i, R]
theorem R.of_bool {x : D} {v : Value} (h : R F x v) (hk : x.isBool) : v = .bool x.b := by
  cases x <;> simp_all [D.isBool, D.b, R]
theorem R.of_str {x : D} {v : Value} (h : R F x v) (hk : x.isStr) : v = .string ⟨x.s.toArray⟩ := by
  cases x <;> simp_all [D.isStr, D.s, R]
theorem R.of_list {x : D} {v : Value} {s : Nat} (h : R F x v) (hk : x.isList s) : R F (.list s x.l) v := by
  cases x <;> simp_all [D.isList, D.l]
theorem R.int {k : IntKind} {n : Int} : R F (.int k n) (.int k n) := by simp [R]
theorem R.bool {b : Bool} : R F (.bool b) (.bool b) := by simp [R]
theorem R.str {s : List UInt8} : R F (.str s) (.string ⟨s.toArray⟩) := by simp [R]

theorem wrap_in {k : IntKind} {n : Int} (h : inR k n) : k.wrap n = n := by
  unfold inR at h
  cases k <;> simp [IntKind.min, IntKind.max, IntKind.signed, IntKind.bits] at h <;> simp [IntKind.wrap, IntKind.signed, IntKind.bits] <;> omega

theorem append_bytes (a b : List UInt8) : (⟨a.toArray⟩ ++ ⟨b.toArray⟩ : ByteArray) = ⟨(a ++ b).toArray⟩ := by
  apply ByteArray.ext
  simp

/-- The two halves of a comparison, or a sum. -/
def binRun (op : BinOp) (t : Nat) (ox oy : Operand) (vx vy : Value) : Sem Value := do
  eqGuard op t ox oy vx vy
  binOp op t vx vy

theorem binRun_int {op : BinOp} {t : Nat} {ox oy : Operand} {k : IntKind} {a b : Int} {r : Value} (h : (binOp op t (.int k a) (.int k b)).run P w = .ok r w) :
    (binRun op t ox oy (.int k a) (.int k b)).run P w = .ok r w := by
  unfold binRun eqGuard
  cases op <;> simpa using h
theorem binRun_str {op : BinOp} {t : Nat} {ox oy : Operand} {a b : ByteArray} {r : Value} (h : (binOp op t (.string a) (.string b)).run P w = .ok r w) :
    (binRun op t ox oy (.string a) (.string b)).run P w = .ok r w := by
  unfold binRun eqGuard
  cases op <;> simpa using h
theorem binRun_bool {op : BinOp} {t : Nat} {ox oy : Operand} {a b : Bool} {r : Value} (h : (binOp op t (.bool a) (.bool b)).run P w = .ok r w) :
    (binRun op t ox oy (.bool a) (.bool b)).run P w = .ok r w := by
  unfold binRun eqGuard
  cases op <;> simpa using h

theorem run_eql_bool {t : Nat} {a b : Bool} (h : P.underlying t = some .bool) : (binOp .eql t (.bool a) (.bool b)).run P w = .ok (.bool (a == b)) w := by
  have he : ∀ d : Nat, (Op.equalIn (d + 1) t (.bool a) (.bool b)).run P w = .ok (a == b) w := fun d => by simp [Op.equalIn, run_underlying h]
  simp only [binOp]
  simp [Op.equal, Op.maxDepth, he 9999]
theorem run_neq_bool {t : Nat} {a b : Bool} (h : P.underlying t = some .bool) : (binOp .neq t (.bool a) (.bool b)).run P w = .ok (.bool (!(a == b))) w := by
  have he : ∀ d : Nat, (Op.equalIn (d + 1) t (.bool a) (.bool b)).run P w = .ok (a == b) w := fun d => by simp [Op.equalIn, run_underlying h]
  simp only [binOp]
  simp [Op.equal, Op.maxDepth, he 9999]

theorem run_part_one {t : Nat} {d : TypeDesc} (h : P.underlying t = some d) (hd : (match d with | .struct _ | .array _ _ => true | _ => false) = false) {cs : Array Value} {off : Nat} {v : Value} (hv : cs[off]? = some v) (w : World) :
    (part t cs off).run P w = .ok v w := by
  have hi : (isAgg t).run P w = .ok false w := by
    simp only [isAgg, Sem.run_bind, run_underlying h, Result.andThen_ok]
    cases d <;> simp_all
  simp [part, hi, hv]
theorem eqFields_run {F : Fix} : ∀ {fs : List Field} {ks : List SK} {j : Nat} {pre pre' : List Value} {l l' : List D} {vs vs' : List Value}, eqFs P j fs ks → skAll ks l → skAll ks l' → Rs F l vs → Rs F l' vs' → pre.length = j → pre'.length = j →
    ∀ (d : Nat) (w : World), (Op.eqFields (d + 1) (pre ++ vs).toArray (pre' ++ vs').toArray fs).run P w = .ok (eqbAll l l') w
  | [], [], j, pre, pre', l, l', vs, vs', _, h1, h2, _, _, _, _, d, w => by
    cases l <;> simp only [skAll] at h1
    cases l' <;> simp only [skAll] at h2
    simp [Op.eqFields, eqbAll]
  | [], _ :: _, _, _, _, _, _, _, _, h, _, _, _, _, _, _, _, _ => h.elim
  | _ :: _, [], _, _, _, _, _, _, _, h, _, _, _, _, _, _, _, _ => h.elim
  | f :: fs, k :: ks, j, pre, pre', l, l', vs, vs', h, h1, h2, h3, h4, e1, e2, d, w => by
    cases l with
    | nil => simp only [skAll] at h1
    | cons x l =>
      cases l' with
      | nil => simp only [skAll] at h2
      | cons y l' =>
        obtain ⟨hn, ho, hu, hr⟩ := h
        simp only [skAll] at h1 h2
        simp only [Rs] at h3 h4
        obtain ⟨v, r, rfl, hv, h3⟩ := h3
        obtain ⟨v', r', rfl, hv', h4⟩ := h4
        have ih := eqFields_run (pre := pre ++ [v]) (pre' := pre' ++ [v']) hr h1.2 h2.2 h3 h4 (by simp [e1]) (by simp [e2]) d w
        have p1 : (part f.type (pre ++ v :: r).toArray f.offset).run P w = .ok v w := run_part_one hu (by cases k <;> rfl) (by rw [ho]; simp [← e1]) w
        have p2 : (part f.type (pre' ++ v' :: r').toArray f.offset).run P w = .ok v' w := run_part_one hu (by cases k <;> rfl) (by rw [ho]; simp [← e2]) w
        have pe : (Op.equalIn (d + 1) f.type v v').run P w = .ok (D.eqb x y) w := by
          cases k with
          | int k =>
            have g1 := h1.1; have g2 := h2.1
            simp only [SK.is] at g1 g2
            rw [hv.of_int g1, hv'.of_int g2]
            cases x <;> simp only [D.isInt] at g1
            cases y <;> simp only [D.isInt] at g2
            exact run_equalIn_int w d _ _ _ _ _ hu
          | bool =>
            have g1 := h1.1; have g2 := h2.1
            simp only [SK.is] at g1 g2
            rw [hv.of_bool g1, hv'.of_bool g2]
            cases x <;> simp only [D.isBool] at g1
            cases y <;> simp only [D.isBool] at g2
            exact run_equalIn_bool' w d _ _ _ hu
          | str =>
            have g1 := h1.1; have g2 := h2.1
            simp only [SK.is] at g1 g2
            rw [hv.of_str g1, hv'.of_str g2, run_equalIn_string (P := P) w d f.type _ _ hu, ByteArray.toList_mk, ByteArray.toList_mk]
            cases x <;> simp only [D.isStr] at g1
            cases y <;> simp only [D.isStr] at g2
            simp [D.eqb, D.s]
        simp only [Op.eqFields, if_pos hn, Sem.run_bind, p1, p2, pe, Result.andThen_ok, Sem.run_ite]
        simp only [List.append_assoc, List.cons_append, List.nil_append] at ih
        cases hb : D.eqb x y with
        | true => simp [eqbAll, hb, ih]
        | false => simp [eqbAll, hb]
theorem bin_struct {t : Nat} {ks : List SK} (h : EqOk P t ks) {x y : D} {vx vy : Value} (hx : R F x vx) (hy : R F y vy) (h1 : skIs ks x) (h2 : skIs ks y) (ox oy : Operand) :
    (binRun .eql t ox oy vx vy).run P w = .ok (.bool (eqbAll (aggL x) (aggL y))) w ∧ (binRun .neq t ox oy vx vy).run P w = .ok (.bool (!eqbAll (aggL x) (aggL y))) w := by
  obtain ⟨g1, g2, g3, g4⟩ := h
  obtain ⟨l, rfl⟩ : ∃ l, x = .agg l := by cases x <;> simp only [skIs] at h1; exact ⟨_, rfl⟩
  obtain ⟨l', rfl⟩ : ∃ l, y = .agg l := by cases y <;> simp only [skIs] at h2; exact ⟨_, rfl⟩
  simp only [skIs] at h1 h2
  simp only [R] at hx hy
  obtain ⟨cs, rfl, hx, _⟩ := hx
  obtain ⟨cs', rfl, hy, _⟩ := hy
  have he : (Op.equalIn 10000 t (.agg cs.toArray) (.agg cs'.toArray)).run P w = .ok (eqbAll l l') w := by
    rw [run_equalIn_struct w 9999 t _ _ g1 g2]
    have := eqFields_run (P := P) (pre := []) (pre' := []) g4 h1 h2 hx hy rfl rfl 9998 w
    simpa using this
  constructor
  · unfold binRun
    rw [Sem.run_bind, run_eqGuard_agg w _ t ox oy _ _ g3, Result.andThen_ok, run_eql_struct, he]
    rfl
  · unfold binRun
    rw [Sem.run_bind, run_eqGuard_agg w _ t ox oy _ _ g3, Result.andThen_ok, run_neq_struct, he]
    rfl
theorem binRun_nil {t e : Nat} {x : D} {v : Value} (h : P.underlying t = some (.slice e)) (hx : neL x) (hr : R F x v) (ox oy : Operand) :
    (binRun .eql t ox oy v (.slice none 0 0)).run P w = .ok (.bool false) w ∧ (binRun .neq t ox oy v (.slice none 0 0)).run P w = .ok (.bool true) w := by
  obtain ⟨s, l, rfl⟩ : ∃ s l, x = .list s l := by cases x <;> simp only [neL] at hx; exact ⟨_, _, rfl⟩
  simp only [neL] at hx
  simp only [R] at hr
  obtain ⟨A, c, rfl, _, _, hA⟩ := hr
  obtain ⟨b, off, vs, rfl, _, _⟩ := hA hx
  have he : ∀ d : Nat, (Op.equalIn (d + 1) t (.slice (some ⟨b, off, none⟩) l.length c) (.slice none 0 0)).run P w = .ok false w := fun d => by simp [Op.equalIn, run_underlying h]
  constructor
  · unfold binRun
    simp only [binOp]
    simp [eqGuard, Op.equal, Op.maxDepth, he 9999]
  · unfold binRun
    simp only [binOp]
    simp [eqGuard, Op.equal, Op.maxDepth, he 9999]
theorem bin_sound (T : TabOk P C.τ) {op : BinOp} {t : Nat} {x y : AV} {ox oy : Operand} {vx vy : Value} {c : Prop} {z : D} (h : hBin C op t x y = some (c, z)) (hc : c) (hx : RA F G L x vx) (hy : RA F G L y vy) :
    ∃ v, (binRun op t ox oy vx vy).run P w = .ok v w ∧ R F z v := by
  cases x with
  | d x =>
    cases y with
    | d y =>
      simp only [RA] at hx hy
      cases hk : (C.τ t).kind with
      | int k =>
        cases op <;> simp only [hBin, hk, Option.some.injEq, Prod.mk.injEq, reduceCtorEq] at h
        case shr =>
          cases y with
          | int yk n =>
            simp only [Option.some.injEq, Prod.mk.injEq] at h
            obtain ⟨rfl, rfl⟩ := h
            obtain ⟨h1, h2, h3⟩ := hc
            have e1 := hx.of_int h1
            simp only [R] at hy
            subst e1; subst hy
            refine ⟨_, ?_, R.int⟩
            have hm : min n.toNat k.bits = n.toNat := by omega
            have hn : ¬ n < 0 := by omega
            simp [binRun, eqGuard, binOp, Op.shift, hn, hm]
          | _ => simp at h
        all_goals
          obtain ⟨rfl, rfl⟩ := h
        case add =>
          obtain ⟨h1, h2, h3⟩ := hc
          rw [hx.of_int h1, hy.of_int h2]
          exact ⟨_, binRun_int (by simp [binOp, Op.intArith, wrap_in h3]), R.int⟩
        case sub =>
          obtain ⟨h1, h2, h3⟩ := hc
          rw [hx.of_int h1, hy.of_int h2]
          exact ⟨_, binRun_int (by simp [binOp, Op.intArith, wrap_in h3]), R.int⟩
        case mul =>
          obtain ⟨h1, h2, h3⟩ := hc
          rw [hx.of_int h1, hy.of_int h2]
          exact ⟨_, binRun_int (by simp [binOp, Op.intArith, wrap_in h3]), R.int⟩
        case quo =>
          obtain ⟨h1, h2, h3, h4⟩ := hc
          rw [hx.of_int h1, hy.of_int h2]
          exact ⟨_, binRun_int (by simp [binOp, Op.intDiv, h3, wrap_in h4]), R.int⟩
        case rem =>
          obtain ⟨h1, h2, h3⟩ := hc
          rw [hx.of_int h1, hy.of_int h2]
          exact ⟨_, binRun_int (by simp [binOp, Op.intDiv, h3]), R.int⟩
        all_goals
          obtain ⟨h1, h2⟩ := hc
          rw [hx.of_int h1, hy.of_int h2]
          exact ⟨_, binRun_int (by simp only [binOp, Op.intCmp]; simp [ltB, leB]), R.bool⟩
      | str =>
        cases op <;> simp only [hBin, hk, Option.some.injEq, Prod.mk.injEq, reduceCtorEq] at h
        all_goals
          obtain ⟨rfl, rfl⟩ := h
        case add =>
          obtain ⟨h1, h2, h3⟩ := hc
          rw [hx.of_str h1, hy.of_str h2]
          refine ⟨_, binRun_str (r := .string ⟨(x.s ++ y.s).toArray⟩) ?_, R.str⟩
          have hs : ¬ ((((⟨x.s.toArray⟩ : ByteArray).size + (⟨y.s.toArray⟩ : ByteArray).size : Nat) : Int) > IntKind.i64.max) := by
            simp [ByteArray.size, IntKind.max, IntKind.signed, IntKind.bits]
            omega
          simp only [binOp, Op.stringOp]
          rw [if_neg hs, append_bytes]
          rfl
        all_goals
          obtain ⟨h1, h2⟩ := hc
          rw [hx.of_str h1, hy.of_str h2]
          exact ⟨_, binRun_str (by simp only [binOp, Op.stringOp, ByteArray.toList_mk]; simp), R.bool⟩
      | bool =>
        obtain ⟨d, hd, hkd⟩ := T.kind hk rfl
        simp only [TK.is] at hkd
        subst hkd
        cases op <;> simp only [hBin, hk, Option.some.injEq, Prod.mk.injEq, reduceCtorEq] at h
        all_goals
          obtain ⟨rfl, rfl⟩ := h
          obtain ⟨h1, h2⟩ := hc
          rw [hx.of_bool h1, hy.of_bool h2]
        · exact ⟨_, binRun_bool (run_eql_bool hd), R.bool⟩
        · exact ⟨_, binRun_bool (run_neq_bool hd), R.bool⟩
      | struct fs =>
        have hne := (T t (by rw [hk]; rfl)).eqs
        cases op <;> simp only [hBin, hk, reduceCtorEq] at h
        all_goals
          split at h
          · cases h
          · next hq =>
            simp only [Option.some.injEq, Prod.mk.injEq] at h
            obtain ⟨rfl, rfl⟩ := h
            obtain ⟨h1, h2⟩ := hc
            have hb := bin_struct (w := w) (hne (fun e => by simp_all)) hx hy h1 h2 ox oy
            first
              | exact ⟨_, hb.1, R.bool⟩
              | exact ⟨_, hb.2, R.bool⟩
      | _ => simp [hBin, hk] at h
    | nils q =>
      simp only [RA] at hx hy
      subst hy
      cases hk : (C.τ t).kind with
      | slice e =>
        obtain ⟨d, hd, hkd⟩ := T.kind hk rfl
        simp only [TK.is] at hkd
        obtain ⟨rfl, _⟩ := hkd
        cases op <;> simp only [hBin, hk, Option.some.injEq, Prod.mk.injEq, reduceCtorEq] at h
        all_goals
          obtain ⟨rfl, rfl⟩ := h
        · exact ⟨_, (binRun_nil hd hc hx ox oy).1, R.bool⟩
        · exact ⟨_, (binRun_nil hd hc hx ox oy).2, R.bool⟩
      | _ => simp [hBin, hk] at h
    | _ => simp [hBin] at h
  | _ => simp [hBin] at h

theorem un_sound {op : UnOp} {t : Nat} {x : AV} {vx : Value} {c : Prop} {z : D} (h : hUn C op t x = some (c, z)) (hc : c) (hx : RA F G L x vx) :
    ∃ v, (Op.unary op vx).run P w = .ok v w ∧ R F z v := by
  cases x with
  | d x =>
    simp only [RA] at hx
    cases hk : (C.τ t).kind <;> cases op <;> simp only [hUn, hk, Option.some.injEq, Prod.mk.injEq, reduceCtorEq] at h
    · obtain ⟨rfl, rfl⟩ := h
      obtain ⟨h1, h2⟩ := hc
      rw [hx.of_int h1]
      have e := wrap_in h2
      rw [Int.zero_sub] at e
      exact ⟨.int ‹IntKind› (-x.i), by simp [Op.unary, Op.intArith, e], by rw [Int.zero_sub]; exact R.int⟩
    · obtain ⟨rfl, rfl⟩ := h
      rw [hx.of_bool hc]
      exact ⟨_, by simp [Op.unary], R.bool⟩
  | _ => simp [hUn] at h

theorem min_sound {t : Nat} {x y : AV} {vx vy : Value} {c : Prop} {z : D} (h : hMin C t x y = some (c, z)) (hc : c) (hx : RA F G L x vx) (hy : RA F G L y vy) (ts : Array TypeId) (ty : TypeId) :
    ∃ v, (Builtin.min_ ts ty #[vx, vy]).run P w = .ok v w ∧ R F z v := by
  cases x with
  | d x =>
    cases y with
    | d y =>
      simp only [RA] at hx hy
      cases hk : (C.τ t).kind <;> simp only [hMin, hk, Option.some.injEq, Prod.mk.injEq, reduceCtorEq] at h
      obtain ⟨rfl, rfl⟩ := h
      obtain ⟨h1, h2⟩ := hc
      rw [hx.of_int h1, hy.of_int h2]
      exact ⟨_, by simp [Builtin.min_, Builtin.min2, minI], R.int⟩
    | _ => simp [hMin] at h
  | _ => simp [hMin] at h

theorem max_sound {t : Nat} {x y : AV} {vx vy : Value} {c : Prop} {z : D} (h : hMax C t x y = some (c, z)) (hc : c) (hx : RA F G L x vx) (hy : RA F G L y vy) (ts : Array TypeId) (ty : TypeId) :
    ∃ v, (Builtin.max_ ts ty #[vx, vy]).run P w = .ok v w ∧ R F z v := by
  cases x with
  | d x =>
    cases y with
    | d y =>
      simp only [RA] at hx hy
      cases hk : (C.τ t).kind <;> simp only [hMax, hk, Option.some.injEq, Prod.mk.injEq, reduceCtorEq] at h
      obtain ⟨rfl, rfl⟩ := h
      obtain ⟨h1, h2⟩ := hc
      rw [hx.of_int h1, hy.of_int h2]
      exact ⟨_, by simp [Builtin.max_, Builtin.max2, maxI], R.int⟩
    | _ => simp [hMax] at h
  | _ => simp [hMax] at h

theorem conv_sound (T : TabOk P C.τ) {s t : Nat} {x : AV} {vx : Value} {c : Prop} {z : D} (h : hConv C s t x = some (c, z)) (hc : c) (hx : RA F G L x vx) :
    ∃ v, (convert s t vx).run P w = .ok v w ∧ R F z v := by
  cases x with
  | d x =>
    simp only [RA] at hx
    cases hk : (C.τ s).kind with
    | int k =>
      cases hk' : (C.τ t).kind with
      | int k' =>
        simp only [hConv, hk, hk', Option.some.injEq, Prod.mk.injEq] at h
        obtain ⟨rfl, rfl⟩ := h
        obtain ⟨h1, h2⟩ := hc
        obtain ⟨d, hd, hkd⟩ := T.kind hk rfl
        obtain ⟨d', hd', hkd'⟩ := T.kind hk' rfl
        simp only [TK.is] at hkd hkd'
        subst hkd; subst hkd'
        rw [hx.of_int h1]
        exact ⟨_, by simp [convert, run_underlying hd, run_underlying hd', Conv.intToInt, wrap_in h2], R.int⟩
      | _ => simp [hConv, hk, hk'] at h
    | str =>
      cases hk' : (C.τ t).kind with
      | str =>
        simp only [hConv, hk, hk', Option.some.injEq, Prod.mk.injEq] at h
        obtain ⟨rfl, rfl⟩ := h
        obtain ⟨d, hd, hkd⟩ := T.kind hk rfl
        obtain ⟨d', hd', hkd'⟩ := T.kind hk' rfl
        simp only [TK.is] at hkd hkd'
        subst hkd; subst hkd'
        have e := hx.of_str hc
        rw [e] at hx ⊢
        exact ⟨_, by simp [convert, run_underlying hd, run_underlying hd'], hx⟩
      | _ => simp [hConv, hk, hk'] at h
    | _ => simp [hConv, hk] at h
  | _ => simp [hConv] at h

end
end Go.Am
