/-
  The abstract machine, part 7: operations that make nothing: what they tell is so.
-/
import Derived.Test.YtgfapoalcpodhaaAm6
namespace Go.Am

def plainDesc : TypeDesc → Bool
  | .struct _ => false
  | .array .. => false
  | _ => true
/-- What is known of a type is so. -/
def TK.is (P : Program) (τ : Nat → TI) : TK → TypeDesc → Prop
  | .int k, d => d = .int k
  | .bool, d => d = .bool
  | .str, d => d = .string
  | .slice e, d => d = .slice e ∧ (τ e).kind.ag.isSome = true
  | .struct fs, d => ∃ fields : Array Field, d = .struct fields ∧ fs.length = fields.size ∧ ∀ (j : Nat) (f : Field) (p : Nat × Nat), fields[j]? = some f → fs[j]? = some p →
      f.offset = p.1 ∧ (P.info? f.type).map (·.size) = some p.2 ∧ 0 < p.2 ∧ (p.2 = 1 → ∃ d', P.underlying f.type = some d' ∧ plainDesc d' = true)
  | .array n e, d => d = .array n e ∧ (τ e).kind.ag = some false
  | .ptr e, d => d = .pointer e
  | .func, d => ∃ a b c, d = .func a b c
  | .other, _ => True

structure TyOk (P : Program) (τ : Nat → TI) (t : Nat) : Prop where
  und : ∃ d, P.underlying t = some d ∧ (τ t).kind.is P τ d
  info : ∃ i z, P.info? t = some i ∧ i.size = (τ t).size ∧ i.bytes = (τ t).bytes ∧ i.zero = some z ∧ (∀ F G L, RA F G L (τ t).zero z) ∧ (∀ F, R F (τ t).zd z) ∧ z.cells.size = (τ t).size ∧
    ∀ u ∈ z.cells.toList, u.oneCell' = true
  pos : 0 < (τ t).size
def TabOk (P : Program) (τ : Nat → TI) : Prop := ∀ t, (τ t).kind.ag.isSome = true → TyOk P τ t

section
variable {P : Program} {C : Ctx} {F : Fix} {G : Gh} {L : Nat → Option Obj} {w : World}

theorem TabOk.kind (h : TabOk P C.τ) {t : Nat} {k : TK} (hk : (C.τ t).kind = k) (hs : k.ag.isSome = true) : ∃ d, P.underlying t = some d ∧ k.is P C.τ d := by
  obtain ⟨d, h1, h2⟩ := (h t (by rw [hk]; exact hs)).und
  exact ⟨d, h1, hk ▸ h2⟩

theorem const_sound {hint : Nat} {v : Value} : RA F G L (constAV C hint v) v := by
  unfold constAV
  split
  · simp [RA]
  · cases v with
    | int k n => simp [constD, RA, R]
    | bool b => simp [constD, RA, R]
    | string s => simp [constD, RA, R]
    | nilFunc => simp [constD, RA, R]
    | pointer a => cases a <;> simp [constD, RA, R]
    | _ => simp [constD, RA]

theorem ev_sound {st : AS} {a : Act} (h : RAs F G L st.tmps a.tmps.toList) {hint : Nat} (x : Operand) : RA F G L (st.ev C hint x) (a.eval x) := by
  cases x with
  | tmp t =>
    simp only [AS.ev, Act.eval]
    cases hx : st.tmps[t]? with
    | none => rw [List.getD_eq_getElem?_getD, hx]; simp [RA]
    | some y =>
      obtain ⟨u, hu, hr⟩ := h.at hx
      rw [List.getD_eq_getElem?_getD, hx, Array.getD_eq_getD_getElem?]
      rw [Array.getElem?_toList] at hu
      rw [hu]
      exact hr
  | const v => exact const_sound
  | global g => simp [AS.ev, RA]
  | func f => simp [AS.ev, RA, R, Act.eval, Rs]

/-! ### data by kind -/
theorem R.of_int {x : D} {v : Value} {k : IntKind} (h : R F x v) (hk : x.isInt k) : v = .int k x.i := by
  cases x <;> simp_all [D.isInt, D.i, R]
theorem R.of_anyInt {x : D} {v : Value} (h : R F x v) (hk : x.isAnyInt) : ∃ k, v = .int k x.i := by
  cases x <;> simp_all [D.isAnyInt, D.i, R]
theorem R.of_bool {x : D} {v : Value} (h : R F x v) (hk : x.isBool) : v = .bool x.b := by
  cases x <;> simp_all [D.isBool, D.b, R]
theorem R.of_str {x : D} {v : Value} (h : R F x v) (hk : x.isStr) : v = .string ⟨x.s.toArray⟩ := by
  cases x <;> simp_all [D.isStr, D.s, R]
theorem R.of_list {x : D} {v : Value} {s : Nat} (h : R F x v) (hk : x.isList s) : R F (.list s x.l) v := by
  cases x <;> simp_all [D.isList, D.l]
theorem R.int {k : IntKind} {n : Int} : R F (.int k n) (.int k n) := by simp [R]
theorem R.bool {b : Bool} : R F (.bool b) (.bool b) := by simp [R]
theorem R.str {s : List UInt8} : R F (.str s) (.string ⟨s.toArray⟩) := by simp [R]

theorem wrap_in {k : IntKind} {n : Int} (h : inR k n) : k.wrap n = n := by
  unfold inR at h
  cases k <;> simp [IntKind.min, IntKind.max, IntKind.signed, IntKind.bits] at h <;> simp [IntKind.wrap, IntKind.signed, IntKind.bits] <;> omega

theorem append_bytes (a b : List UInt8) : (⟨a.toArray⟩ ++ ⟨b.toArray⟩ : ByteArray) = ⟨(a ++ b).toArray⟩ := by
  apply ByteArray.ext
  simp

/-- The two halves of a comparison, or a sum. -/
def binRun (op : BinOp) (t : Nat) (ox oy : Operand) (vx vy : Value) : Sem Value := do
  eqGuard op t ox oy vx vy
  binOp op t vx vy

theorem binRun_int {op : BinOp} {t : Nat} {ox oy : Operand} {k : IntKind} {a b : Int} {r : Value} (h : (binOp op t (.int k a) (.int k b)).run P w = .ok r w) :
    (binRun op t ox oy (.int k a) (.int k b)).run P w = .ok r w := by
  unfold binRun eqGuard
  cases op <;> simpa using h
theorem binRun_str {op : BinOp} {t : Nat} {ox oy : Operand} {a b : ByteArray} {r : Value} (h : (binOp op t (.string a) (.string b)).run P w = .ok r w) :
    (binRun op t ox oy (.string a) (.string b)).run P w = .ok r w := by
  unfold binRun eqGuard
  cases op <;> simpa using h
theorem binRun_bool {op : BinOp} {t : Nat} {ox oy : Operand} {a b : Bool} {r : Value} (h : (binOp op t (.bool a) (.bool b)).run P w = .ok r w) :
    (binRun op t ox oy (.bool a) (.bool b)).run P w = .ok r w := by
  unfold binRun eqGuard
  cases op <;> simpa using h

theorem run_eql_bool {t : Nat} {a b : Bool} (h : P.underlying t = some .bool) : (binOp .eql t (.bool a) (.bool b)).run P w = .ok (.bool (a == b)) w := by
  have he : ∀ d : Nat, (Op.equalIn (d + 1) t (.bool a) (.bool b)).run P w = .ok (a == b) w := fun d => by simp [Op.equalIn, run_underlying h]
  simp only [binOp]
  simp [Op.equal, Op.maxDepth, he 9999]
theorem run_neq_bool {t : Nat} {a b : Bool} (h : P.underlying t = some .bool) : (binOp .neq t (.bool a) (.bool b)).run P w = .ok (.bool (!(a == b))) w := by
  have he : ∀ d : Nat, (Op.equalIn (d + 1) t (.bool a) (.bool b)).run P w = .ok (a == b) w := fun d => by simp [Op.equalIn, run_underlying h]
  simp only [binOp]
  simp [Op.equal, Op.maxDepth, he 9999]

theorem bin_sound (T : TabOk P C.τ) {op : BinOp} {t : Nat} {x y : AV} {ox oy : Operand} {vx vy : Value} {c : Prop} {z : D} (h : hBin C op t x y = some (c, z)) (hc : c) (hx : RA F G L x vx) (hy : RA F G L y vy) :
    ∃ v, (binRun op t ox oy vx vy).run P w = .ok v w ∧ R F z v := by
  cases x with
  | d x =>
    cases y with
    | d y =>
      simp only [RA] at hx hy
      cases hk : (C.τ t).kind with
      | int k =>
        cases op <;> simp only [hBin, hk, Option.some.injEq, Prod.mk.injEq, reduceCtorEq] at h
        case shr =>
          cases y with
          | int yk n =>
            simp only [Option.some.injEq, Prod.mk.injEq] at h
            obtain ⟨rfl, rfl⟩ := h
            obtain ⟨h1, h2, h3⟩ := hc
            have e1 := hx.of_int h1
            simp only [R] at hy
            subst e1; subst hy
            refine ⟨_, ?_, R.int⟩
            have hm : min n.toNat k.bits = n.toNat := by omega
            have hn : ¬ n < 0 := by omega
            simp [binRun, eqGuard, binOp, Op.shift, hn, hm]
          | _ => simp at h
        all_goals
          obtain ⟨rfl, rfl⟩ := h
        case add =>
          obtain ⟨h1, h2, h3⟩ := hc
          rw [hx.of_int h1, hy.of_int h2]
          exact ⟨_, binRun_int (by simp [binOp, Op.intArith, wrap_in h3]), R.int⟩
        case sub =>
          obtain ⟨h1, h2, h3⟩ := hc
          rw [hx.of_int h1, hy.of_int h2]
          exact ⟨_, binRun_int (by simp [binOp, Op.intArith, wrap_in h3]), R.int⟩
        case mul =>
          obtain ⟨h1, h2, h3⟩ := hc
          rw [hx.of_int h1, hy.of_int h2]
          exact ⟨_, binRun_int (by simp [binOp, Op.intArith, wrap_in h3]), R.int⟩
        case quo =>
          obtain ⟨h1, h2, h3, h4⟩ := hc
          rw [hx.of_int h1, hy.of_int h2]
          exact ⟨_, binRun_int (by simp [binOp, Op.intDiv, h3, wrap_in h4]), R.int⟩
        case rem =>
          obtain ⟨h1, h2, h3⟩ := hc
          rw [hx.of_int h1, hy.of_int h2]
          exact ⟨_, binRun_int (by simp [binOp, Op.intDiv, h3]), R.int⟩
        all_goals
          obtain ⟨h1, h2⟩ := hc
          rw [hx.of_int h1, hy.of_int h2]
          exact ⟨_, binRun_int (by simp only [binOp, Op.intCmp]; simp [ltB, leB]), R.bool⟩
      | str =>
        cases op <;> simp only [hBin, hk, Option.some.injEq, Prod.mk.injEq, reduceCtorEq] at h
        all_goals
          obtain ⟨rfl, rfl⟩ := h
        case add =>
          obtain ⟨h1, h2, h3⟩ := hc
          rw [hx.of_str h1, hy.of_str h2]
          refine ⟨_, binRun_str (r := .string ⟨(x.s ++ y.s).toArray⟩) ?_, R.str⟩
          have hs : ¬ ((((⟨x.s.toArray⟩ : ByteArray).size + (⟨y.s.toArray⟩ : ByteArray).size : Nat) : Int) > IntKind.i64.max) := by
            simp [ByteArray.size, IntKind.max, IntKind.signed, IntKind.bits]
            omega
          simp only [binOp, Op.stringOp]
          rw [if_neg hs, append_bytes]
          rfl
        all_goals
          obtain ⟨h1, h2⟩ := hc
          rw [hx.of_str h1, hy.of_str h2]
          exact ⟨_, binRun_str (by simp only [binOp, Op.stringOp, ByteArray.toList_mk]; simp), R.bool⟩
      | bool =>
        obtain ⟨d, hd, hkd⟩ := T.kind hk rfl
        simp only [TK.is] at hkd
        subst hkd
        cases op <;> simp only [hBin, hk, Option.some.injEq, Prod.mk.injEq, reduceCtorEq] at h
        all_goals
          obtain ⟨rfl, rfl⟩ := h
          obtain ⟨h1, h2⟩ := hc
          rw [hx.of_bool h1, hy.of_bool h2]
        · exact ⟨_, binRun_bool (run_eql_bool hd), R.bool⟩
        · exact ⟨_, binRun_bool (run_neq_bool hd), R.bool⟩
      | _ => simp [hBin, hk] at h
    | _ => simp [hBin] at h
  | _ => simp [hBin] at h

theorem un_sound {op : UnOp} {t : Nat} {x : AV} {vx : Value} {c : Prop} {z : D} (h : hUn C op t x = some (c, z)) (hc : c) (hx : RA F G L x vx) :
    ∃ v, (Op.unary op vx).run P w = .ok v w ∧ R F z v := by
  cases x with
  | d x =>
    simp only [RA] at hx
    cases hk : (C.τ t).kind <;> cases op <;> simp only [hUn, hk, Option.some.injEq, Prod.mk.injEq, reduceCtorEq] at h
    · obtain ⟨rfl, rfl⟩ := h
      obtain ⟨h1, h2⟩ := hc
      rw [hx.of_int h1]
      have e := wrap_in h2
      rw [Int.zero_sub] at e
      exact ⟨.int ‹IntKind› (-x.i), by simp [Op.unary, Op.intArith, e], by rw [Int.zero_sub]; exact R.int⟩
    · obtain ⟨rfl, rfl⟩ := h
      rw [hx.of_bool hc]
      exact ⟨_, by simp [Op.unary], R.bool⟩
  | _ => simp [hUn] at h

theorem min_sound {t : Nat} {x y : AV} {vx vy : Value} {c : Prop} {z : D} (h : hMin C t x y = some (c, z)) (hc : c) (hx : RA F G L x vx) (hy : RA F G L y vy) (ts : Array TypeId) (ty : TypeId) :
    ∃ v, (Builtin.min_ ts ty #[vx, vy]).run P w = .ok v w ∧ R F z v := by
  cases x with
  | d x =>
    cases y with
    | d y =>
      simp only [RA] at hx hy
      cases hk : (C.τ t).kind <;> simp only [hMin, hk, Option.some.injEq, Prod.mk.injEq, reduceCtorEq] at h
      obtain ⟨rfl, rfl⟩ := h
      obtain ⟨h1, h2⟩ := hc
      rw [hx.of_int h1, hy.of_int h2]
      exact ⟨_, by simp [Builtin.min_, Builtin.min2, minI], R.int⟩
    | _ => simp [hMin] at h
  | _ => simp [hMin] at h

theorem max_sound {t : Nat} {x y : AV} {vx vy : Value} {c : Prop} {z : D} (h : hMax C t x y = some (c, z)) (hc : c) (hx : RA F G L x vx) (hy : RA F G L y vy) (ts : Array TypeId) (ty : TypeId) :
    ∃ v, (Builtin.max_ ts ty #[vx, vy]).run P w = .ok v w ∧ R F z v := by
  cases x with
  | d x =>
    cases y with
    | d y =>
      simp only [RA] at hx hy
      cases hk : (C.τ t).kind <;> simp only [hMax, hk, Option.some.injEq, Prod.mk.injEq, reduceCtorEq] at h
      obtain ⟨rfl, rfl⟩ := h
      obtain ⟨h1, h2⟩ := hc
      rw [hx.of_int h1, hy.of_int h2]
      exact ⟨_, by simp [Builtin.max_, Builtin.max2, maxI], R.int⟩
    | _ => simp [hMax] at h
  | _ => simp [hMax] at h

theorem conv_sound (T : TabOk P C.τ) {s t : Nat} {x : AV} {vx : Value} {c : Prop} {z : D} (h : hConv C s t x = some (c, z)) (hc : c) (hx : RA F G L x vx) :
    ∃ v, (convert s t vx).run P w = .ok v w ∧ R F z v := by
  cases x with
  | d x =>
    simp only [RA] at hx
    cases hk : (C.τ s).kind with
    | int k =>
      cases hk' : (C.τ t).kind with
      | int k' =>
        simp only [hConv, hk, hk', Option.some.injEq, Prod.mk.injEq] at h
        obtain ⟨rfl, rfl⟩ := h
        obtain ⟨h1, h2⟩ := hc
        obtain ⟨d, hd, hkd⟩ := T.kind hk rfl
        obtain ⟨d', hd', hkd'⟩ := T.kind hk' rfl
        simp only [TK.is] at hkd hkd'
        subst hkd; subst hkd'
        rw [hx.of_int h1]
        exact ⟨_, by simp [convert, run_underlying hd, run_underlying hd', Conv.intToInt, wrap_in h2], R.int⟩
      | _ => simp [hConv, hk, hk'] at h
    | str =>
      cases hk' : (C.τ t).kind with
      | str =>
        simp only [hConv, hk, hk', Option.some.injEq, Prod.mk.injEq] at h
        obtain ⟨rfl, rfl⟩ := h
        obtain ⟨d, hd, hkd⟩ := T.kind hk rfl
        obtain ⟨d', hd', hkd'⟩ := T.kind hk' rfl
        simp only [TK.is] at hkd hkd'
        subst hkd; subst hkd'
        have e := hx.of_str hc
        rw [e] at hx ⊢
        exact ⟨_, by simp [convert, run_underlying hd, run_underlying hd'], hx⟩
      | _ => simp [hConv, hk, hk'] at h
    | _ => simp [hConv, hk] at h
  | _ => simp [hConv] at h

end
end Go.Am
