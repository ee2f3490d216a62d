/-
  Plain laws of trees that are told as rows of nodes, each node ahead of its children.
-/
import Derived.Test.YtecgdmiigdfgdaaAm25
set_option linter.unusedSimpArgs false
set_option linter.unusedVariables false
namespace Go.Rose

inductive Rose (α : Type) where
  | mk (n : α) (ks : List (Rose α))
namespace Rose
variable {α : Type}
def root : Rose α → α
  | mk n _ => n
def kids : Rose α → List (Rose α)
  | mk _ ks => ks
mutual
/-- The nodes, in order. -/
def nds : Rose α → List α
  | mk n ks => n :: ndss ks
def ndss : List (Rose α) → List α
  | [] => []
  | x :: xs => nds x ++ ndss xs
end
mutual
/-- Each node has as many children as it says. -/
def wf (ar : α → Nat) : Rose α → Prop
  | mk n ks => ks.length = ar n ∧ wfs ar ks
def wfs (ar : α → Nat) : List (Rose α) → Prop
  | [] => True
  | x :: xs => wf ar x ∧ wfs ar xs
end
mutual
def depth : Rose α → Nat
  | mk _ ks => 1 + depths ks
def depths : List (Rose α) → Nat
  | [] => 0
  | x :: xs => max (depth x) (depths xs)
end
end Rose
open Rose
variable {α : Type} {ar : α → Nat}

theorem ndss_append : ∀ (a b : List (Rose α)), ndss (a ++ b) = ndss a ++ ndss b
  | [], b => by simp [ndss]
  | x :: a, b => by simp [ndss, ndss_append a b]
theorem wfs_append : ∀ {a b : List (Rose α)}, wfs ar (a ++ b) ↔ wfs ar a ∧ wfs ar b
  | [], b => by simp [wfs]
  | x :: a, b => by simp only [List.cons_append, wfs, wfs_append (a := a), and_assoc]
theorem wfs_mem : ∀ {a : List (Rose α)}, wfs ar a → ∀ x ∈ a, wf ar x
  | [], _, x, hx => by cases hx
  | y :: a, h, x, hx => by
    rcases List.mem_cons.1 hx with rfl | hx
    · exact h.1
    · exact wfs_mem h.2 x hx
theorem nds_mk (n : α) (ks : List (Rose α)) : nds (mk n ks) = n :: ndss ks := by simp [nds]
theorem nds_ne (x : Rose α) : nds x ≠ [] := by cases x; simp [nds]
theorem nds_pos (x : Rose α) : 1 ≤ (nds x).length := by cases x; simp [nds]
theorem nds_eta (x : Rose α) : nds x = x.root :: ndss x.kids := by cases x; simp [nds, root, kids]
theorem wf_eta {x : Rose α} : wf ar x ↔ x.kids.length = ar x.root ∧ wfs ar x.kids := by cases x; simp [wf, root, kids]

/-- How many nodes close so many trees. -/
def eatN (ar : α → Nat) : List α → Nat → Option Nat
  | _, 0 => some 0
  | [], _ + 1 => none
  | n :: l, o + 1 => (eatN ar l (o + ar n)).map (· + 1)

theorem eatN_ndss (ar : α → Nat) : ∀ (m : Nat) (ts : List (Rose α)) (r : List α), (ndss ts).length ≤ m → wfs ar ts → ∀ o, eatN ar (ndss ts ++ r) (ts.length + o) = (eatN ar r o).map (· + (ndss ts).length)
  | m, [], r, _, _, o => by simp [ndss, eatN]
  | 0, mk n ks :: ts, r, hm, _, o => by simp [ndss, nds] at hm
  | m + 1, mk n ks :: ts, r, hm, hw, o => by
    obtain ⟨⟨h1, h2⟩, h3⟩ := hw
    simp only [ndss, nds, List.cons_append, List.length_cons, List.length_append] at hm ⊢
    rw [show ts.length + 1 + o = (ts.length + o) + 1 by omega, eatN, List.append_assoc]
    rw [show ts.length + o + ar n = ks.length + (ts.length + o) by omega, eatN_ndss ar m ks (ndss ts ++ r) (by omega) h2 (ts.length + o), eatN_ndss ar m ts r (by omega) h3 o]
    cases eatN ar r o with
    | none => rfl
    | some k => simp only [Option.map_some]; congr 1; omega
theorem eatN_nds {x : Rose α} (h : wf ar x) (r : List α) : eatN ar (nds x ++ r) 1 = some (nds x).length := by
  have := eatN_ndss ar _ [x] r (Nat.le_refl _) ⟨h, trivial⟩ 0
  simpa [ndss, eatN] using this

theorem tree_of_eatN : ∀ (l : List α) (o k : Nat), eatN ar l o = some k → ∃ ts r, ts.length = o ∧ wfs ar ts ∧ l = ndss ts ++ r ∧ (ndss ts).length = k
  | l, 0, k, h => by
    cases l <;> (simp only [eatN, Option.some.injEq] at h; exact ⟨[], _, rfl, trivial, by simp [ndss]; rfl, by simp [ndss, ← h]⟩)
  | [], o + 1, k, h => by simp [eatN] at h
  | n :: l, o + 1, k, h => by
    rw [eatN, Option.map_eq_some_iff] at h
    obtain ⟨k', h1, rfl⟩ := h
    obtain ⟨ts, r, g1, g2, g3, g4⟩ := tree_of_eatN l _ k' h1
    rw [← List.take_append_drop (ar n) ts] at g2 g3 g4
    rw [wfs_append] at g2
    refine ⟨mk n (ts.take (ar n)) :: ts.drop (ar n), r, ?_, ⟨⟨?_, g2.1⟩, g2.2⟩, ?_, ?_⟩
    · simp only [List.length_cons, List.length_drop]; omega
    · rw [List.length_take]; omega
    · rw [g3, ndss_append]; simp [ndss, nds]
    · rw [ndss_append, List.length_append] at g4
      simp only [ndss, nds, List.length_append, List.length_cons]; omega

/-- Of one row there is one tree. -/
theorem ndss_inj : ∀ (m : Nat) {ts us : List (Rose α)} {r s : List α}, (ndss ts).length ≤ m → wfs ar ts → wfs ar us → ts.length = us.length → ndss ts ++ r = ndss us ++ s → ts = us ∧ r = s
  | m, [], us, r, s, _, _, _, hl, h => by
    have : us = [] := List.length_eq_zero_iff.1 hl.symm
    subst this
    exact ⟨rfl, by simpa [ndss] using h⟩
  | m, _ :: _, [], _, _, _, _, _, hl, _ => by simp at hl
  | 0, mk n ks :: ts, _, _, _, hm, _, _, _, _ => by simp [ndss, nds] at hm
  | m + 1, mk n ks :: ts, mk p qs :: us, r, s, hm, ht, hu, hl, h => by
    obtain ⟨⟨h1, h2⟩, h3⟩ := ht
    obtain ⟨⟨g1, g2⟩, g3⟩ := hu
    simp only [ndss, nds, List.cons_append, List.cons.injEq, List.length_cons, List.length_append] at h hm hl
    obtain ⟨rfl, h⟩ := h
    rw [← ndss_append, ← ndss_append] at h
    obtain ⟨e1, e2⟩ := ndss_inj m (ts := ks ++ ts) (us := qs ++ us) (by rw [ndss_append, List.length_append]; omega) (wfs_append.2 ⟨h2, h3⟩) (wfs_append.2 ⟨g2, g3⟩) (by simp only [List.length_append]; omega) h
    obtain ⟨e3, e4⟩ := List.append_inj e1 (by rw [h1, g1])
    exact ⟨by rw [e3, e4], e2⟩
theorem nds_inj {x y : Rose α} {r s : List α} (hx : wf ar x) (hy : wf ar y) (h : nds x ++ r = nds y ++ s) : x = y ∧ r = s := by
  obtain ⟨h1, h2⟩ := ndss_inj (ar := ar) _ (ts := [x]) (us := [y]) (Nat.le_refl _) ⟨hx, trivial⟩ ⟨hy, trivial⟩ rfl (by simpa [ndss] using h)
  injection h1 with h1
  exact ⟨h1, h2⟩

/-- At a place of a row there stands a tree. -/
def At (ar : α → Nat) (l : List α) (i : Nat) (x : Rose α) : Prop := wf ar x ∧ ∃ r, l.drop i = nds x ++ r
theorem At.inj {l : List α} {i : Nat} {x y : Rose α} (hx : At ar l i x) (hy : At ar l i y) : x = y := by
  obtain ⟨h1, r, h2⟩ := hx
  obtain ⟨g1, s, g2⟩ := hy
  exact (nds_inj h1 g1 (h2.symm.trans g2)).1
theorem At.le {l : List α} {i : Nat} {x : Rose α} (h : At ar l i x) : i + (nds x).length ≤ l.length := by
  obtain ⟨_, r, h2⟩ := h
  have h3 := congrArg List.length h2
  rw [List.length_drop, List.length_append] at h3
  have := nds_pos x
  omega
theorem At.lt {l : List α} {i : Nat} {x : Rose α} (h : At ar l i x) : i < l.length := by
  have := h.le
  have := nds_pos x
  omega
theorem At.root {l : List α} {i : Nat} {x : Rose α} (h : At ar l i x) (d : α) : l.getD i d = x.root := by
  obtain ⟨_, r, h2⟩ := h
  have h3 : (l.drop i).getD 0 d = x.root := by rw [h2, nds_eta]; rfl
  simpa [List.getD_eq_getElem?_getD] using h3
/-- Children stand one behind another. -/
def Ats (ar : α → Nat) (l : List α) (i : Nat) (xs : List (Rose α)) : Prop := wfs ar xs ∧ ∃ r, l.drop i = ndss xs ++ r
theorem At.kids {l : List α} {i : Nat} {x : Rose α} (h : At ar l i x) : Ats ar l (i + 1) x.kids ∧ x.kids.length = ar x.root := by
  obtain ⟨h1, r, h2⟩ := h
  rw [wf_eta] at h1
  refine ⟨⟨h1.2, r, ?_⟩, h1.1⟩
  rw [nds_eta] at h2
  have h3 : (l.drop i).drop 1 = (ndss x.kids ++ r) := by rw [h2]; rfl
  rwa [List.drop_drop] at h3
theorem Ats.head {l : List α} {i : Nat} {x : Rose α} {xs : List (Rose α)} (h : Ats ar l i (x :: xs)) : At ar l i x ∧ Ats ar l (i + (nds x).length) xs := by
  obtain ⟨⟨h1, h2⟩, r, h3⟩ := h
  refine ⟨⟨h1, ndss xs ++ r, by rw [h3]; simp [ndss]⟩, h2, r, ?_⟩
  rw [← List.drop_drop, h3]
  simp [ndss]
theorem at_whole {x : Rose α} (h : wf ar x) : At ar (nds x) 0 x := ⟨h, [], by simp⟩
theorem at_eatN {l : List α} {i : Nat} {x : Rose α} (h : At ar l i x) : eatN ar (l.drop i) 1 = some (nds x).length := by
  obtain ⟨h1, r, h2⟩ := h
  rw [h2]
  exact eatN_nds h1 r
theorem at_of_eatN {l : List α} {i k : Nat} (h : eatN ar (l.drop i) 1 = some k) : ∃ x, At ar l i x ∧ (nds x).length = k := by
  obtain ⟨ts, r, h1, h2, h3, h4⟩ := tree_of_eatN _ _ _ h
  match ts, h1 with
  | [x], _ =>
    refine ⟨x, ⟨h2.1, r, by rw [h3]; simp [ndss]⟩, by simpa [ndss] using h4⟩

open Classical in
/-- The tree at a place. -/
noncomputable def treeAt [Inhabited α] (ar : α → Nat) (l : List α) (i : Nat) : Rose α := if h : ∃ x, At ar l i x then Classical.choose h else mk default []
theorem treeAt_eq [Inhabited α] {l : List α} {i : Nat} {x : Rose α} (h : At ar l i x) : treeAt ar l i = x := by
  unfold treeAt
  rw [dif_pos ⟨x, h⟩]
  exact At.inj (Classical.choose_spec (⟨x, h⟩ : ∃ x, At ar l i x)) h
/-- What is at a place is part of the whole: the nodes there are nodes of the row. -/
theorem At.mem {l : List α} {i : Nat} {x : Rose α} (h : At ar l i x) : ∀ n ∈ nds x, n ∈ l := fun n hn => by
  obtain ⟨_, r, h2⟩ := h
  exact List.mem_of_mem_drop (i := i) (by rw [h2]; exact List.mem_append_left _ hn)

end Go.Rose
