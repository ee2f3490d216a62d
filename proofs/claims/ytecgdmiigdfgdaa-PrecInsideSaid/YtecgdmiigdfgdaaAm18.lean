/-
  The abstract machine, part 18: tables of types, checked by reckoning; functions that are entered.
-/
import Derived.Test.YtecgdmiigdfgdaaAm17
namespace Go.Am

mutual
def zD : D → Value → Bool
  | .int k n, .int k' n' => k == k' && n == n'
  | .bool b, .bool b' => b == b'
  | .str s, .string b => s == b.data.toList
  | .nilf, .nilFunc => true
  | .nilp, .pointer none => true
  | .list _ l, .slice none 0 0 => l.isEmpty
  | .agg l, .agg cs => zDs l cs.toList && cs.toList.all (·.oneCell')
  | _, _ => false
def zDs : List D → List Value → Bool
  | [], [] => true
  | x :: l, v :: vs => zD x v && zDs l vs
  | _, _ => false
end
mutual
def zA : AV → Value → Bool
  | .d x, v => zD x v
  | .nils _, .slice none 0 0 => true
  | .agg l, .agg cs => zAs l cs.toList && cs.toList.all (·.oneCell')
  | _, _ => false
def zAs : List AV → List Value → Bool
  | [], [] => true
  | x :: l, v :: vs => zA x v && zAs l vs
  | _, _ => false
end

mutual
theorem zD_sound : ∀ {x : D} {v : Value}, zD x v = true → ∀ F, R F x v
  | .int k n, v, h, F => by
    cases v <;> simp only [zD, Bool.false_eq_true, Bool.and_eq_true, beq_iff_eq] at h
    simp only [R]; rw [h.1, h.2]
  | .bool b, v, h, F => by
    cases v <;> simp only [zD, Bool.false_eq_true, beq_iff_eq] at h
    simp only [R]; rw [h]
  | .str s, v, h, F => by
    cases v <;> simp only [zD, Bool.false_eq_true, beq_iff_eq] at h
    simp only [R]; rw [h]
  | .nilf, v, h, F => by
    cases v <;> simp only [zD, Bool.false_eq_true] at h
    simp only [R]
  | .nilp, v, h, F => by
    cases v with
    | pointer a => cases a <;> simp only [zD, Bool.false_eq_true] at h; simp only [R]
    | _ => simp only [zD, Bool.false_eq_true] at h
  | .list s l, v, h, F => by
    cases v with
    | slice A n c =>
      cases A with
      | some A => simp only [zD, Bool.false_eq_true] at h
      | none =>
        cases n with
        | succ n => simp only [zD, Bool.false_eq_true] at h
        | zero =>
          cases c with
          | succ c => simp only [zD, Bool.false_eq_true] at h
          | zero =>
            simp only [zD, List.isEmpty_iff] at h
            subst h
            simp only [R]
            exact ⟨none, 0, rfl, by simp, by simp [maxLen], by simp⟩
    | _ => simp only [zD, Bool.false_eq_true] at h
  | .agg l, v, h, F => by
    cases v with
    | agg cs =>
      simp only [zD, Bool.and_eq_true, List.all_eq_true] at h
      simp only [R]
      exact ⟨cs.toList, by simp, zDs_sound h.1 F, h.2⟩
    | _ => simp only [zD, Bool.false_eq_true] at h
  | .tup l, v, h, F => by cases v <;> simp only [zD, Bool.false_eq_true] at h
  | .ptr s x, v, h, F => by cases v <;> simp only [zD, Bool.false_eq_true] at h
  | .clo f l, v, h, F => by cases v <;> simp only [zD, Bool.false_eq_true] at h
theorem zDs_sound : ∀ {l : List D} {vs : List Value}, zDs l vs = true → ∀ F, Rs F l vs
  | [], vs, h, F => by
    cases vs with
    | nil => simp only [Rs]
    | cons => simp only [zDs, Bool.false_eq_true] at h
  | x :: l, vs, h, F => by
    cases vs with
    | nil => simp only [zDs, Bool.false_eq_true] at h
    | cons v vs =>
      simp only [zDs, Bool.and_eq_true] at h
      simp only [Rs]
      exact ⟨v, vs, rfl, zD_sound h.1 F, zDs_sound h.2 F⟩
end
mutual
theorem zA_sound : ∀ {x : AV} {v : Value}, zA x v = true → ∀ F G L, RA F G L x v
  | .d x, v, h, F, G, L => by
    simp only [zA] at h
    simp only [RA]
    exact zD_sound h F
  | .nils s, v, h, F, G, L => by
    cases v with
    | slice A n c =>
      cases A with
      | some A => simp only [zA, Bool.false_eq_true] at h
      | none =>
        cases n with
        | succ n => simp only [zA, Bool.false_eq_true] at h
        | zero =>
          cases c with
          | succ c => simp only [zA, Bool.false_eq_true] at h
          | zero => simp only [RA]
    | _ => simp only [zA, Bool.false_eq_true] at h
  | .agg l, v, h, F, G, L => by
    cases v with
    | agg cs =>
      simp only [zA, Bool.and_eq_true, List.all_eq_true] at h
      simp only [RA]
      exact ⟨cs.toList, by simp, zAs_sound h.1 F G L, h.2⟩
    | _ => simp only [zA, Bool.false_eq_true] at h
  | .ref .., v, h, F, G, L => by cases v <;> simp only [zA, Bool.false_eq_true] at h
  | .rref .., v, h, F, G, L => by cases v <;> simp only [zA, Bool.false_eq_true] at h
  | .sl .., v, h, F, G, L => by cases v <;> simp only [zA, Bool.false_eq_true] at h
  | .tup .., v, h, F, G, L => by cases v <;> simp only [zA, Bool.false_eq_true] at h
  | .clo .., v, h, F, G, L => by cases v <;> simp only [zA, Bool.false_eq_true] at h
  | .dead, v, h, F, G, L => by cases v <;> simp only [zA, Bool.false_eq_true] at h
theorem zAs_sound : ∀ {l : List AV} {vs : List Value}, zAs l vs = true → ∀ F G L, RAs F G L l vs
  | [], vs, h, F, G, L => by
    cases vs with
    | nil => simp only [RAs]
    | cons => simp only [zAs, Bool.false_eq_true] at h
  | x :: l, vs, h, F, G, L => by
    cases vs with
    | nil => simp only [zAs, Bool.false_eq_true] at h
    | cons v vs =>
      simp only [zAs, Bool.and_eq_true] at h
      simp only [RAs]
      exact ⟨v, vs, rfl, zA_sound h.1 F G L, zAs_sound h.2 F G L⟩
end

def fieldsB (P : Program) : List Field → List (Nat × Nat) → Bool
  | [], [] => true
  | f :: l, p :: r => f.offset == p.1 && ((P.info? f.type).map (·.size) == some p.2) && decide (0 < p.2) && (p.2 != 1 || (match P.underlying f.type with | some d => plainDesc d | none => false)) && fieldsB P l r
  | _, _ => false

theorem fieldsB_sound {P : Program} : ∀ {l : List Field} {r : List (Nat × Nat)}, fieldsB P l r = true → r.length = l.length ∧ ∀ (j : Nat) (f : Field) (p : Nat × Nat), l[j]? = some f → r[j]? = some p →
    f.offset = p.1 ∧ (P.info? f.type).map (·.size) = some p.2 ∧ 0 < p.2 ∧ (p.2 = 1 → ∃ d', P.underlying f.type = some d' ∧ plainDesc d' = true)
  | [], [], _ => ⟨rfl, fun j f p h => by simp at h⟩
  | [], _ :: _, h => by simp [fieldsB] at h
  | _ :: _, [], h => by simp [fieldsB] at h
  | f :: l, p :: r, h => by
    simp only [fieldsB, Bool.and_eq_true, beq_iff_eq, decide_eq_true_eq, Bool.or_eq_true, bne_iff_ne] at h
    obtain ⟨⟨⟨⟨h1, h2⟩, h3⟩, h4⟩, h5⟩ := h
    obtain ⟨g1, g2⟩ := fieldsB_sound h5
    refine ⟨by simp [g1], fun j f' p' hj hp => ?_⟩
    cases j with
    | zero =>
      simp only [List.getElem?_cons_zero, Option.some.injEq] at hj hp
      subst hj; subst hp
      refine ⟨h1, h2, h3, fun he => ?_⟩
      rcases h4 with h4 | h4
      · exact absurd he h4
      · split at h4
        · next d hd => exact ⟨d, hd, h4⟩
        · cases h4
    | succ j =>
      simp only [List.getElem?_cons_succ] at hj hp
      exact g2 j f' p' hj hp

def kindB (P : Program) (τ : Nat → TI) : TK → TypeDesc → Bool
  | .int k, .int k' => k == k'
  | .bool, .bool => true
  | .str, .string => true
  | .slice e, .slice e' => e == e' && (τ e).kind.ag.isSome
  | .struct fs, .struct fields => fieldsB P fields.toList fs
  | .array n e, .array n' e' => n == n' && e == e' && (τ e).kind.ag == some false
  | .ptr e, .pointer e' => e == e'
  | .func, .func .. => true
  | _, _ => false

theorem kindB_sound {P : Program} {τ : Nat → TI} {k : TK} {d : TypeDesc} (h : kindB P τ k d = true) : k.is P τ d := by
  cases k <;> cases d <;> simp only [kindB, Bool.false_eq_true, beq_iff_eq, Bool.and_eq_true] at h <;> simp only [TK.is]
  case int.int => rw [h]
  case slice.slice => exact ⟨by rw [h.1], h.2⟩
  case struct.struct fs fields =>
    obtain ⟨g1, g2⟩ := fieldsB_sound h
    exact ⟨fields, rfl, by simpa using g1, fun j f p hj hp => g2 j f p (by simpa using hj) hp⟩
  case array.array => exact ⟨by rw [h.1.1, h.1.2], h.2⟩
  case ptr.pointer => rw [h]
  case func.func a b c => exact ⟨a, b, c, rfl⟩

def SK.sameB : SK → TypeDesc → Bool
  | .int k, .int k' => k == k'
  | .bool, .bool => true
  | .str, .string => true
  | _, _ => false
def eqFsB (P : Program) : Nat → List Field → List SK → Bool
  | _, [], [] => true
  | j, f :: fs, k :: ks => (f.name != "_") && f.offset == j && (match P.underlying f.type with
    | some d => k.sameB d
    | none => false) && eqFsB P (j + 1) fs ks
  | _, _, _ => false
def eqB (P : Program) (t : Nat) : List SK → Bool
  | [] => true
  | ks => (match P.underlying t with
    | some (.struct _) => true
    | _ => false) && !P.stoodInHeld t && !P.eqGuardType P.depth t && eqFsB P 0 (P.fieldsOf t).toList ks
theorem eqFsB_sound {P : Program} : ∀ {j : Nat} {fs : List Field} {ks : List SK}, eqFsB P j fs ks = true → eqFs P j fs ks
  | _, [], [], _ => trivial
  | _, [], _ :: _, h => by simp [eqFsB] at h
  | _, _ :: _, [], h => by simp [eqFsB] at h
  | j, f :: fs, k :: ks, h => by
    simp only [eqFsB, Bool.and_eq_true, bne_iff_ne, beq_iff_eq] at h
    obtain ⟨⟨⟨h1, h2⟩, h3⟩, h4⟩ := h
    refine ⟨h1, h2, ?_, eqFsB_sound h4⟩
    split at h3
    · next d hd =>
      rw [hd]
      cases k <;> cases d <;> simp only [SK.sameB, Bool.false_eq_true, beq_iff_eq] at h3 <;> first | rfl | (subst h3; rfl)
    · cases h3
theorem eqB_sound {P : Program} {t : Nat} {ks : List SK} (h : eqB P t ks = true) (hk : ks ≠ []) : EqOk P t ks := by
  cases ks with
  | nil => exact absurd rfl hk
  | cons k ks =>
    simp only [eqB, Bool.and_eq_true, Bool.not_eq_true'] at h
    obtain ⟨⟨⟨h1, h2⟩, h3⟩, h4⟩ := h
    refine ⟨?_, h2, h3, eqFsB_sound h4⟩
    unfold Program.fieldsOf
    split at h1
    · next fs he => simp [he]
    · cases h1

def tyB (P : Program) (τ : Nat → TI) (t : Nat) (ti : TI) : Bool := match P.underlying t, P.info? t with
  | some d, some i => kindB P τ ti.kind d && i.size == ti.size && i.bytes == ti.bytes && decide (0 < ti.size) && eqB P t ti.eqk && (match i.zero with
    | some z => zA ti.zero z && zD ti.zd z && z.cells.size == ti.size && z.cells.toList.all (·.oneCell')
    | none => false)
  | _, _ => false

theorem tyB_sound {P : Program} {τ : Nat → TI} {t : Nat} (h : tyB P τ t (τ t) = true) : TyOk P τ t := by
  unfold tyB at h
  split at h
  · next d i hd hi =>
    simp only [Bool.and_eq_true, beq_iff_eq, decide_eq_true_eq] at h
    obtain ⟨⟨⟨⟨⟨h1, h2⟩, h3⟩, h4⟩, hq⟩, h5⟩ := h
    split at h5
    · next z hz =>
      simp only [Bool.and_eq_true, beq_iff_eq, List.all_eq_true] at h5
      obtain ⟨⟨⟨g1, g2⟩, g3⟩, g4⟩ := h5
      exact ⟨⟨d, hd, kindB_sound h1⟩, ⟨i, z, hi, h2, h3, hz, zA_sound g1, zD_sound g2, g3, g4⟩, h4, eqB_sound hq⟩
    · cases h5
  · cases h

def lkT : List (Nat × TI) → Nat → TI
  | [], _ => ⟨.other, 0, 0, .dead, .nilp, []⟩
  | (j, x) :: r, i => if i = j then x else lkT r i

theorem lkT_mem : ∀ {tt : List (Nat × TI)} {t : Nat}, (lkT tt t).kind.ag.isSome = true → (t, lkT tt t) ∈ tt
  | [], t, h => by simp [lkT, TK.ag] at h
  | (j, x) :: r, t, h => by
    simp only [lkT] at h ⊢
    by_cases htj : t = j
    · subst htj
      simp
    · rw [if_neg htj] at h ⊢
      exact List.mem_cons_of_mem _ (lkT_mem h)

theorem tabOk_of {P : Program} {tt : List (Nat × TI)} (h : tt.all (fun p => tyB P (lkT tt) p.1 p.2) = true) : TabOk P (lkT tt) := by
  intro t ht
  exact tyB_sound (List.all_eq_true.1 h _ (lkT_mem ht))

theorem enters_of {P : Program} {f : FuncId} {fn : Func} (hf : P.funcs[f]? = some fn) (h1 : (fn.name == "runtime.NumGoroutine") = false) (h2 : fn.body.isNone = false) : Enters P f := by
  intro args w
  have h1' : ¬ fn.name = "runtime.NumGoroutine" := by simpa using h1
  have h2' : ¬ fn.body = none := by
    intro h
    rw [h] at h2
    simp at h2
  simp [callFunc, hf, h1', h2']

end Go.Am
