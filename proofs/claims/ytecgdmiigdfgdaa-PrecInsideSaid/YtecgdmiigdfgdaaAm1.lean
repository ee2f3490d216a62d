/-
  The abstract machine, part 1: data, what a value in memory reads as, stability.
-/
import Derived.WalkKit
namespace Go.Am

/-- Data: what a value reads as, once it is not written any more. -/
inductive D where
  | int (k : IntKind) (n : Int)
  | bool (b : Bool)
  | str (s : List UInt8)
  | nilf
  | nilp
  | agg (l : List D)
  | tup (l : List D)
  | list (s : Nat) (l : List D)
  | ptr (s : Nat) (x : D)
  | clo (f : Nat) (l : List D)
  deriving Inhabited

/-- The world, and how much of each block's head is never written again. -/
structure Fix where
  w : World
  m : Nat → Nat

/-- These cells stand in memory, and stay. -/
def Mem (F : Fix) (b off : Nat) (vs : List Value) : Prop :=
  off + vs.length ≤ F.m b ∧ ∀ (j : Nat) (u : Value), vs[j]? = some u → F.w.cell? ⟨b, off + j, none⟩ = some u

mutual
/-- A value reads as a datum. -/
def R (F : Fix) : D → Value → Prop
  | .int k n, v => v = .int k n
  | .bool b, v => v = .bool b
  | .str s, v => v = .string ⟨s.toArray⟩
  | .nilf, v => v = .nilFunc
  | .nilp, v => v = .pointer none
  | .agg l, v => ∃ cs : List Value, v = .agg cs.toArray ∧ Rs F l cs ∧ ∀ u ∈ cs, u.oneCell' = true
  | .tup l, v => ∃ cs : List Value, v = .tuple cs.toArray ∧ Rs F l cs
  | .list s l, v => ∃ (A : Option Addr) (c : Nat), v = .slice A l.length c ∧ l.length ≤ c ∧ c ≤ maxLen ∧
      (l ≠ [] → ∃ (b off : Nat) (vs : List Value), A = some ⟨b, off, none⟩ ∧ RE F s l vs ∧ Mem F b off vs)
  | .ptr s x, v => ∃ (b off : Nat) (u : Value), v = .pointer (some ⟨b, off, none⟩) ∧ R F x u ∧ u.cells.size = s ∧ (∀ y ∈ u.cells.toList, y.oneCell' = true) ∧ Mem F b off u.cells.toList
  | .clo f l, v => ∃ cs : List Value, v = .func (.func f) #[] cs.toArray ∧ Rs F l cs
def Rs (F : Fix) : List D → List Value → Prop
  | [], vs => vs = []
  | x :: l, vs => ∃ v r, vs = v :: r ∧ R F x v ∧ Rs F l r
def RE (F : Fix) (s : Nat) : List D → List Value → Prop
  | [], vs => vs = []
  | x :: l, vs => ∃ v r, vs = v.cells.toList ++ r ∧ v.cells.size = s ∧ (∀ u ∈ v.cells.toList, u.oneCell' = true) ∧ R F x v ∧ RE F s l r
end

/-- What was fixed stays so. -/
def Fix.le (F F' : Fix) : Prop := ∀ b, F.m b ≤ F'.m b ∧ ∀ off, off < F.m b → F'.w.cell? ⟨b, off, none⟩ = F.w.cell? ⟨b, off, none⟩

theorem Fix.le_refl (F : Fix) : F.le F := fun _ => ⟨Nat.le_refl _, fun _ _ => rfl⟩
theorem Fix.le_trans {F G H : Fix} (h : F.le G) (k : G.le H) : F.le H := fun b =>
  ⟨Nat.le_trans (h b).1 (k b).1, fun off ho => ((k b).2 off (Nat.lt_of_lt_of_le ho (h b).1)).trans ((h b).2 off ho)⟩

theorem Mem.mono {F F' : Fix} (h : F.le F') {b off : Nat} {vs : List Value} (hm : Mem F b off vs) : Mem F' b off vs := by
  obtain ⟨h1, h2⟩ := hm
  refine ⟨Nat.le_trans h1 (h b).1, fun j u hu => ?_⟩
  have hj : j < vs.length := (List.getElem?_eq_some_iff.1 hu).1
  rw [(h b).2 (off + j) (by omega)]
  exact h2 j u hu

mutual
theorem R.mono {F F' : Fix} (h : F.le F') : ∀ {x : D} {v : Value}, R F x v → R F' x v
  | .int .., _, hr => by simpa [R] using hr
  | .bool .., _, hr => by simpa [R] using hr
  | .str .., _, hr => by simpa [R] using hr
  | .nilf, _, hr => by simpa [R] using hr
  | .nilp, _, hr => by simpa [R] using hr
  | .agg l, v, hr => by
    simp only [R] at hr ⊢
    obtain ⟨cs, h1, h2, h3⟩ := hr
    exact ⟨cs, h1, Rs.mono h h2, h3⟩
  | .tup l, v, hr => by
    simp only [R] at hr ⊢
    obtain ⟨cs, h1, h2⟩ := hr
    exact ⟨cs, h1, Rs.mono h h2⟩
  | .list s l, v, hr => by
    simp only [R] at hr ⊢
    obtain ⟨A, c, h1, h2, h3, h4⟩ := hr
    refine ⟨A, c, h1, h2, h3, fun hl => ?_⟩
    obtain ⟨b, off, vs, g1, g2, g3⟩ := h4 hl
    exact ⟨b, off, vs, g1, RE.mono h g2, g3.mono h⟩
  | .ptr s x, v, hr => by
    simp only [R] at hr ⊢
    obtain ⟨b, off, u, h1, h2, h3, h4, h5⟩ := hr
    exact ⟨b, off, u, h1, R.mono h h2, h3, h4, h5.mono h⟩
  | .clo f l, v, hr => by
    simp only [R] at hr ⊢
    obtain ⟨cs, h1, h2⟩ := hr
    exact ⟨cs, h1, Rs.mono h h2⟩
theorem Rs.mono {F F' : Fix} (h : F.le F') : ∀ {l : List D} {vs : List Value}, Rs F l vs → Rs F' l vs
  | [], _, hr => by simpa [Rs] using hr
  | x :: l, vs, hr => by
    simp only [Rs] at hr ⊢
    obtain ⟨v, r, h1, h2, h3⟩ := hr
    exact ⟨v, r, h1, R.mono h h2, Rs.mono h h3⟩
theorem RE.mono {F F' : Fix} (h : F.le F') : ∀ {s : Nat} {l : List D} {vs : List Value}, RE F s l vs → RE F' s l vs
  | _, [], _, hr => by simpa [RE] using hr
  | s, x :: l, vs, hr => by
    simp only [RE] at hr ⊢
    obtain ⟨v, r, h1, h2, h3, h4, h5⟩ := hr
    exact ⟨v, r, h1, h2, h3, R.mono h h4, RE.mono h h5⟩
end

/-! ### rows -/

theorem Rs.length {F : Fix} : ∀ {l : List D} {vs : List Value}, Rs F l vs → vs.length = l.length
  | [], _, h => by simp only [Rs] at h; simp [h]
  | _ :: l, _, h => by
    simp only [Rs] at h
    obtain ⟨v, r, rfl, _, h3⟩ := h
    simp [Rs.length h3]

theorem Rs.at {F : Fix} : ∀ {l : List D} {vs : List Value}, Rs F l vs → ∀ {k : Nat} {x : D}, l[k]? = some x → ∃ u, vs[k]? = some u ∧ R F x u
  | [], _, _, k, x, hk => by simp at hk
  | y :: l, vs, h, k, x, hk => by
    simp only [Rs] at h
    obtain ⟨v, r, rfl, h2, h3⟩ := h
    cases k with
    | zero => simp at hk; subst hk; exact ⟨v, rfl, h2⟩
    | succ k => simp only [List.getElem?_cons_succ] at hk ⊢; exact Rs.at h3 hk

theorem Rs.append {F : Fix} : ∀ {l l' : List D} {vs vs' : List Value}, Rs F l vs → Rs F l' vs' → Rs F (l ++ l') (vs ++ vs')
  | [], _, _, _, h, h' => by simp only [Rs] at h; subst h; simpa using h'
  | x :: l, l', vs, vs', h, h' => by
    simp only [Rs] at h
    obtain ⟨v, r, rfl, h2, h3⟩ := h
    simp only [List.cons_append, Rs]
    exact ⟨v, r ++ vs', rfl, h2, Rs.append h3 h'⟩

theorem RE.length {F : Fix} {s : Nat} : ∀ {l : List D} {vs : List Value}, RE F s l vs → vs.length = l.length * s
  | [], _, h => by simp only [RE] at h; simp [h]
  | _ :: l, _, h => by
    simp only [RE] at h
    obtain ⟨v, r, rfl, h2, _, _, h5⟩ := h
    simp [RE.length h5, Nat.add_mul, h2]; omega

theorem RE.append {F : Fix} {s : Nat} : ∀ {l l' : List D} {vs vs' : List Value}, RE F s l vs → RE F s l' vs' → RE F s (l ++ l') (vs ++ vs')
  | [], _, _, _, h, h' => by simp only [RE] at h; subst h; simpa using h'
  | x :: l, l', vs, vs', h, h' => by
    simp only [RE] at h
    obtain ⟨v, r, rfl, h2, h3, h4, h5⟩ := h
    simp only [List.cons_append, RE]
    exact ⟨v, r ++ vs', by simp, h2, h3, h4, RE.append h5 h'⟩

theorem RE.split {F : Fix} {s : Nat} : ∀ {l : List D} {vs : List Value} (k : Nat), RE F s l vs → RE F s (l.take k) (vs.take (k * s)) ∧ RE F s (l.drop k) (vs.drop (k * s))
  | [], vs, k, h => by simp only [RE] at h; subst h; simp [RE]
  | x :: l, vs, 0, h => by simp only [List.take_zero, Nat.zero_mul, List.drop_zero]; exact ⟨by simp [RE], h⟩
  | x :: l, vs, k + 1, h => by
    simp only [RE] at h
    obtain ⟨v, r, rfl, h2, h3, h4, h5⟩ := h
    obtain ⟨g1, g2⟩ := RE.split k h5
    have hl : v.cells.toList.length = s := by simpa using h2
    have e : (k + 1) * s = v.cells.toList.length + k * s := by rw [hl, Nat.add_mul]; omega
    constructor
    · rw [e, List.take_length_add_append, List.take_succ_cons]
      simp only [RE]
      exact ⟨v, _, rfl, h2, h3, h4, g1⟩
    · rw [e, List.drop_length_add_append, List.drop_succ_cons]
      exact g2

theorem RE.at {F : Fix} {s : Nat} {l : List D} {vs : List Value} (h : RE F s l vs) {k : Nat} {x : D} (hk : l[k]? = some x) :
    ∃ v : Value, R F x v ∧ v.cells.size = s ∧ (∀ u ∈ v.cells.toList, u.oneCell' = true) ∧ (vs.drop (k * s)).take s = v.cells.toList := by
  have h2 := (h.split k).2
  have hlt : k < l.length := (List.getElem?_eq_some_iff.1 hk).1
  rw [List.drop_eq_getElem_cons hlt] at h2
  have e : l[k] = x := by rw [List.getElem?_eq_getElem hlt] at hk; injection hk
  simp only [RE] at h2
  obtain ⟨v, r, h3, h4, h5, h6, h7⟩ := h2
  refine ⟨v, e ▸ h6, h4, h5, ?_⟩
  rw [h3, List.take_append_of_le_length (by simp [h4]), List.take_of_length_le (by simp [h4])]

theorem RE.one {F : Fix} {s : Nat} {x : D} {v : Value} (h : R F x v) (hs : v.cells.size = s) (h1 : ∀ u ∈ v.cells.toList, u.oneCell' = true) : RE F s [x] v.cells.toList := by
  simp only [RE]
  exact ⟨v, [], by simp, hs, h1, h, rfl⟩

theorem RE.set {F : Fix} {s : Nat} : ∀ {l : List D} {vs : List Value} {k : Nat} {x : D} {v : Value}, RE F s l vs → k < l.length → R F x v → v.cells.size = s →
    (∀ u ∈ v.cells.toList, u.oneCell' = true) → RE F s (l.set k x) (vs.take (k * s) ++ v.cells.toList ++ vs.drop ((k + 1) * s))
  | [], _, _, _, _, _, hk, _, _, _ => by simp at hk
  | y :: l, vs, 0, x, v, h, _, hr, hs, h1 => by
    have h2 := (h.split 1).2
    simp only [List.set_cons_zero, Nat.zero_mul, List.take_zero, List.nil_append, Nat.zero_add, RE]
    refine ⟨v, _, rfl, hs, h1, hr, ?_⟩
    simpa using h2
  | y :: l, vs, k + 1, x, v, h, hk, hr, hs, h1 => by
    simp only [RE] at h
    obtain ⟨u, r, rfl, h2, h3, h4, h5⟩ := h
    have g := RE.set (k := k) h5 (by simpa using hk) hr hs h1
    have hl : u.cells.toList.length = s := by simpa using h2
    simp only [List.set_cons_succ, RE]
    refine ⟨u, _, ?_, h2, h3, h4, g⟩
    rw [show (k + 1) * s = u.cells.toList.length + k * s by rw [hl, Nat.add_mul]; omega,
      show (k + 1 + 1) * s = u.cells.toList.length + (k + 1) * s by rw [hl]; simp only [Nat.add_mul]; omega,
      List.take_length_add_append, List.drop_length_add_append]
    simp
    rw [h2, Nat.succ_mul, Nat.add_comm]

end Go.Am
