/- Contracts of functions that the laws of core reach, and plain laws of sets. Conditions: those that each contract states. -/
import Derived.Test.YtgfapoalcpodhaaCoreC11
set_option linter.unusedSimpArgs false
set_option linter.unusedVariables false
namespace Go.Am.Core

/-! ### sets, plainly -/
theorem part_iff {s t : List Int} : part s t = true ↔ ∀ x ∈ s, x ∈ t := by
  unfold part
  rw [List.all_eq_true]
  constructor
  · intro h x hx; exact List.contains_iff_mem.1 (h x hx)
  · intro h x hx; exact List.contains_iff_mem.2 (h x hx)
theorem fits_iff {s : List Int} {bad : List (Sl Int)} : fits s bad = true ↔ ∀ b ∈ bad, ¬ ∀ x ∈ b.l, x ∈ s := by
  unfold fits
  rw [Bool.not_eq_true', Bool.eq_false_iff, ne_eq, List.any_eq_true]
  constructor
  · intro h b hb hc; exact h ⟨b, hb, part_iff.2 hc⟩
  · rintro h ⟨b, hb, hc⟩; exact h b hb (part_iff.1 hc)
theorem fits_not {s : List Int} {bad : List (Sl Int)} : fits s bad = false ↔ ∃ b ∈ bad, ∀ x ∈ b.l, x ∈ s := by
  rw [← Bool.not_eq_true, fits_iff]
  constructor
  · intro h
    apply Classical.byContradiction
    intro hn
    exact h fun b hb hc => hn ⟨b, hb, hc⟩
  · rintro ⟨b, hb, hc⟩ h
    exact h b hb hc
theorem fits_mono {s t : List Int} {bad : List (Sl Int)} (h : ∀ x ∈ t, x ∈ s) (hs : fits s bad = true) : fits t bad = true := by
  rw [fits_iff] at *
  intro b hb hc
  exact hs b hb fun x hx => h x (hc x hx)
theorem fits_eq {s t : List Int} {bad bad' : List (Sl Int)} (h : ∀ x, x ∈ t ↔ x ∈ s) (hb : ∀ b, b ∈ bad ↔ b ∈ bad') : fits s bad = fits t bad' := by
  rw [Bool.eq_iff_iff, fits_iff, fits_iff]
  constructor
  · intro h1 b hb1 hc; exact h1 b ((hb b).2 hb1) fun x hx => (h x).1 (hc x hx)
  · intro h1 b hb1 hc; exact h1 b ((hb b).1 hb1) fun x hx => (h x).2 (hc x hx)
theorem mem_without {s : List Int} {n x : Int} : x ∈ without s n ↔ x ∈ s ∧ x ≠ n := by
  unfold without
  rw [List.mem_filter]
  simp
theorem Sorted.without {s : List Int} (h : Sorted s) (n : Int) : Sorted (without s n) := List.Pairwise.sublist List.filter_sublist h
theorem sorted_ext : ∀ {a b : List Int}, Sorted a → Sorted b → (∀ x, x ∈ a ↔ x ∈ b) → a = b
  | [], [], _, _, _ => rfl
  | [], y :: b, _, _, h => by have := (h y).2 (by simp); cases this
  | x :: a, [], _, _, h => by have := (h x).1 (by simp); cases this
  | x :: a, y :: b, ha, hb, h => by
    obtain ⟨a1, a2⟩ := List.pairwise_cons.1 ha
    obtain ⟨b1, b2⟩ := List.pairwise_cons.1 hb
    have hx := (h x).1 (by simp)
    have hy := (h y).2 (by simp)
    have e : x = y := by
      rcases List.mem_cons.1 hx with e | hx
      · exact e
      · rcases List.mem_cons.1 hy with e | hy
        · exact e.symm
        · have := a1 y hy; have := b1 x hx; omega
    subst e
    congr 1
    refine sorted_ext a2 b2 fun z => ?_
    constructor
    · intro hz
      rcases List.mem_cons.1 ((h z).1 (List.mem_cons_of_mem _ hz)) with e | hz'
      · subst e; have := a1 z hz; omega
      · exact hz'
    · intro hz
      rcases List.mem_cons.1 ((h z).2 (List.mem_cons_of_mem _ hz)) with e | hz'
      · subst e; have := b1 z hz; omega
      · exact hz'
theorem cut_without {s : List Int} (h : Sorted s) {i : Nat} (hi : i < s.length) : cut s i = without s (s.getD i 0) := by
  refine sorted_ext (h.cut _) (h.without _) fun x => ?_
  rw [mem_without]
  have e : s.getD i 0 = s[i] := by simp [hi]
  rw [e]
  unfold cut
  rw [List.mem_append, show ((i : Int)).toNat = i by omega]
  constructor
  · rintro (hx | hx)
    · obtain ⟨j, hj, rfl⟩ := List.getElem_of_mem hx
      rw [List.length_take] at hj
      rw [List.getElem_take]
      have := List.pairwise_iff_getElem.1 h j i (by omega) hi (by omega)
      exact ⟨List.getElem_mem _, by omega⟩
    · obtain ⟨j, hj, rfl⟩ := List.getElem_of_mem hx
      rw [List.length_drop] at hj
      rw [List.getElem_drop]
      have := List.pairwise_iff_getElem.1 h i (i + 1 + j) hi (by omega) (by omega)
      exact ⟨List.getElem_mem _, by omega⟩
  · rintro ⟨hx, hne⟩
    obtain ⟨j, hj, rfl⟩ := List.getElem_of_mem hx
    rcases Nat.lt_trichotomy j i with hlt | rfl | hgt
    · left
      exact List.mem_iff_getElem.2 ⟨j, by rw [List.length_take]; omega, by rw [List.getElem_take]⟩
    · exact absurd rfl hne
    · right
      refine List.mem_iff_getElem.2 ⟨j - (i + 1), by rw [List.length_drop]; omega, ?_⟩
      rw [List.getElem_drop]
      congr 1
      omega

/-! ### with -/
theorem wfold_true (n : Int) : ∀ (s acc : List Int), s.foldl (wstep n) (acc, true) = (acc ++ s, true)
  | [], acc => by simp
  | x :: s, acc => by
    rw [List.foldl_cons]
    have : wstep n (acc, true) x = (acc ++ [x], true) := by simp [wstep]
    rw [this, wfold_true n s]
    simp
theorem wfold_false {n : Int} : ∀ {s acc : List Int}, Sorted s → s.contains n = false → (if (s.foldl (wstep n) (acc, false)).2 = true then (s.foldl (wstep n) (acc, false)).1 else (s.foldl (wstep n) (acc, false)).1 ++ [n]) = acc ++ put s n
  | [], acc, _, _ => by simp [put, less]
  | x :: s, acc, h, hc => by
    obtain ⟨h1, h2⟩ := List.pairwise_cons.1 h
    have hx : x ≠ n := by
      rintro rfl
      simp at hc
    have hc' : s.contains n = false := by
      rw [Bool.eq_false_iff] at *
      intro hh
      exact hc (List.contains_iff_mem.2 (List.mem_cons_of_mem _ (List.contains_iff_mem.1 hh)))
    rw [List.foldl_cons]
    by_cases hlt : n < x
    · have e : wstep n (acc, false) x = (acc ++ [n] ++ [x], true) := by simp [wstep, hlt]
      rw [e, wfold_true]
      have el : less (x :: s) n = 0 := by
        unfold less
        rw [List.countP_eq_zero]
        intro a ha
        rcases List.mem_cons.1 ha with rfl | ha
        · simp; omega
        · have := h1 a ha; simp; omega
      simp [put, el]
    · have e : wstep n (acc, false) x = (acc ++ [x], false) := by simp [wstep, hlt]
      rw [e, wfold_false h2 hc']
      have el : less (x :: s) n = less s n + 1 := by
        unfold less
        rw [List.countP_cons_of_pos (by simp; omega)]
      simp [put, el]
theorem withR_yes {s : List Int} {n : Int} (h : s.contains n = true) : withR s n = s := by
  unfold withR wloop
  rw [h, wfold_true]
  simp
theorem withR_no {s : List Int} {n : Int} (hs : Sorted s) (h : s.contains n = false) : withR s n = put s n := by
  unfold withR wloop
  rw [h]
  have := wfold_false (acc := []) hs h
  simpa using this
theorem Sorted.withR {s : List Int} (hs : Sorted s) (n : Int) : Sorted (withR s n) := by
  cases h : s.contains n with
  | true => rw [withR_yes h]; exact hs
  | false => rw [withR_no hs h]; exact hs.put h
theorem mem_withR {s : List Int} (hs : Sorted s) {n x : Int} : x ∈ withR s n ↔ x = n ∨ x ∈ s := by
  cases h : s.contains n with
  | true =>
    rw [withR_yes h]
    constructor
    · exact .inr
    · rintro (rfl | h')
      · exact List.contains_iff_mem.1 h
      · exact h'
  | false => rw [withR_no hs h, mem_put]

/-! ### both ways to shrink, and to grow -/
theorem shrink_step (bad : List (Sl Int)) : ∀ (rest kept : List Int), Sorted (kept ++ rest) → shrinkLoop bad rest.length (kept ++ rest) kept.length = rest.foldl (rshStep bad) (kept ++ rest)
  | [], kept, _ => rfl
  | x :: rest, kept, h => by
    have hlt : kept.length < (kept ++ x :: rest).length := by simp
    have hx : (kept ++ x :: rest).getD kept.length 0 = x := by simp
    have hc := cut_without h hlt
    rw [hx] at hc
    have hc2 : cut (kept ++ x :: rest) kept.length = kept ++ rest := by
      unfold cut
      simp
    rw [List.length_cons, shrinkLoop, List.foldl_cons]
    rw [rshStep, ← hc]
    by_cases hf : fits (cut (kept ++ x :: rest) kept.length) bad = false
    · rw [if_pos hf, if_pos hf, hc2]
      refine shrink_step bad rest kept ?_
      rw [← hc2]
      exact h.cut _
    · rw [if_neg hf, if_neg hf]
      have := shrink_step bad rest (kept ++ [x]) (by simpa using h)
      simpa using this
theorem shrink_eq {s : List Int} (h : Sorted s) (bad : List (Sl Int)) : shrinkC s bad = rshrink s bad := by
  unfold shrinkC rshrink
  have := shrink_step bad s [] (by simpa using h)
  simp only [List.length_nil, List.nil_append] at this
  rw [this]
theorem gStep_eq {out : List Int} (h : Sorted out) (bad : List (Sl Int)) (n : Int) : gStep bad out n = rgStep bad out n := by
  unfold gStep rgStep withC
  cases hc : out.contains n with
  | true => simp [withR_yes hc]
  | false => simp [withR_no h hc]
theorem g_eq (bad : List (Sl Int)) : ∀ (l out : List Int), Sorted out → l.foldl (gStep bad) out = l.foldl (rgStep bad) out
  | [], _, _ => rfl
  | x :: l, out, h => by
    rw [List.foldl_cons, List.foldl_cons, gStep_eq h, ← gStep_eq h]
    rw [g_eq bad l _ (gStep_sorted h x)]
theorem grow_eq {s : List Int} (h : Sorted s) (all : List Int) (bad : List (Sl Int)) : growC s all bad = rgrow s all bad := by
  unfold growC rgrow
  rw [g_eq bad all s h]
theorem least_eq {s : List Int} (h : Sorted s) (bad : List (Sl Int)) : leastC s bad = rleast s bad := by
  unfold leastC rleast
  congr 1
  rw [Bool.eq_iff_iff, List.all_eq_true, List.all_eq_true]
  constructor
  · intro h1 x hx
    obtain ⟨i, hi, rfl⟩ := List.getElem_of_mem hx
    have := h1 i (List.mem_range.2 hi)
    rw [cut_without h hi] at this
    simpa [hi] using this
  · intro h1 i hi
    have hi' := List.mem_range.1 hi
    rw [cut_without h hi']
    exact h1 _ (by simp [hi'])
theorem most_eq {s : List Int} (h : Sorted s) (all : List Int) (bad : List (Sl Int)) : mostC s all bad = rmost s all bad := by
  unfold mostC rmost
  congr 1
  rw [← Bool.not_not (all.all _)]
  congr 1
  rw [List.not_all_eq_any_not]
  congr 1
  funext n
  unfold more1 withC
  cases hc : s.contains n with
  | true => rfl
  | false => simp [withR_no h hc]

/-! ### what is shrunk -/
theorem rsh_sub (bad : List (Sl Int)) : ∀ (l out : List Int), ∀ x ∈ l.foldl (rshStep bad) out, x ∈ out
  | [], _, _, hx => hx
  | y :: l, out, x, hx => by
    have := rsh_sub bad l _ x hx
    unfold rshStep at this
    split at this
    · exact (mem_without.1 this).1
    · exact this
theorem rsh_not (bad : List (Sl Int)) : ∀ (l out : List Int), fits out bad = false → fits (l.foldl (rshStep bad) out) bad = false
  | [], _, h => h
  | y :: l, out, h => by
    refine rsh_not bad l _ ?_
    unfold rshStep
    split
    · assumption
    · exact h
theorem rsh_min (bad : List (Sl Int)) : ∀ (l out : List Int), ∀ n ∈ l, n ∈ l.foldl (rshStep bad) out → fits (without (l.foldl (rshStep bad) out) n) bad = true
  | y :: l, out, n, hn, hx => by
    rw [List.foldl_cons] at *
    rcases List.mem_cons.1 hn with rfl | hn
    · by_cases hf : fits (without out n) bad = false
      · have e : rshStep bad out n = without out n := by rw [rshStep, if_pos hf]
        rw [e] at hx
        have := rsh_sub bad l _ n hx
        exact absurd rfl (mem_without.1 this).2
      · have e : rshStep bad out n = out := by rw [rshStep, if_neg hf]
        rw [e]
        refine fits_mono (s := without out n) (fun x hx => ?_) (by simpa using hf)
        rw [mem_without] at *
        exact ⟨rsh_sub bad l _ x hx.1, hx.2⟩
    · exact rsh_min bad l _ n hn hx
theorem rsh_same (bad : List (Sl Int)) : ∀ (l out : List Int), (∀ n ∈ l, fits (without out n) bad = true) → l.foldl (rshStep bad) out = out
  | [], _, _ => rfl
  | y :: l, out, h => by
    rw [List.foldl_cons]
    have e : rshStep bad out y = out := by rw [rshStep, if_neg (by rw [h y (by simp)]; simp)]
    rw [e]
    exact rsh_same bad l out fun n hn => h n (List.mem_cons_of_mem _ hn)
theorem rsh_sorted (bad : List (Sl Int)) : ∀ (l : List Int) {out : List Int}, Sorted out → Sorted (l.foldl (rshStep bad) out)
  | [], _, h => h
  | y :: l, out, h => by
    refine rsh_sorted bad l ?_
    unfold rshStep
    split
    · exact h.without _
    · exact h
/-! ### what is grown -/
theorem rg_sorted (bad : List (Sl Int)) (l : List Int) {out : List Int} (h : Sorted out) : Sorted (l.foldl (rgStep bad) out) := by
  rw [← g_eq bad l out h]
  exact g_sorted l h
theorem rg_sup (bad : List (Sl Int)) : ∀ (l : List Int) {out : List Int}, Sorted out → ∀ x ∈ out, x ∈ l.foldl (rgStep bad) out
  | [], _, _, _, hx => hx
  | y :: l, out, h, x, hx => by
    rw [List.foldl_cons]
    have h1 : Sorted (rgStep bad out y) := by rw [← gStep_eq h]; exact gStep_sorted h y
    refine rg_sup bad l h1 x ?_
    unfold rgStep
    split
    · rw [mem_withR h]; exact .inr hx
    · exact hx
theorem rg_of (bad : List (Sl Int)) : ∀ (l : List Int) {out : List Int}, Sorted out → ∀ x ∈ l.foldl (rgStep bad) out, x ∈ out ∨ x ∈ l
  | [], _, _, _, hx => .inl hx
  | y :: l, out, h, x, hx => by
    rw [List.foldl_cons] at hx
    have h1 : Sorted (rgStep bad out y) := by rw [← gStep_eq h]; exact gStep_sorted h y
    rcases rg_of bad l h1 x hx with h2 | h2
    · unfold rgStep at h2
      split at h2
      · rw [mem_withR h] at h2
        rcases h2 with rfl | h2
        · exact .inr (by simp)
        · exact .inl h2
      · exact .inl h2
    · exact .inr (List.mem_cons_of_mem _ h2)
theorem rg_fits (bad : List (Sl Int)) : ∀ (l : List Int) {out : List Int}, fits out bad = true → fits (l.foldl (rgStep bad) out) bad = true
  | [], _, h => h
  | y :: l, out, h => by
    refine rg_fits bad l ?_
    unfold rgStep
    split
    · assumption
    · exact h
theorem rg_max (bad : List (Sl Int)) : ∀ (l : List Int) {out : List Int}, Sorted out → ∀ n ∈ l, n ∈ l.foldl (rgStep bad) out ∨ fits (withR (l.foldl (rgStep bad) out) n) bad = false
  | y :: l, out, h, n, hn => by
    rw [List.foldl_cons]
    have h1 : Sorted (rgStep bad out y) := by rw [← gStep_eq h]; exact gStep_sorted h y
    rcases List.mem_cons.1 hn with rfl | hn
    · by_cases hf : fits (withR out n) bad = true
      · left
        refine rg_sup bad l h1 n ?_
        rw [rgStep, if_pos hf, mem_withR h]
        exact .inl rfl
      · right
        rw [← Bool.not_eq_true]
        intro hc
        refine hf (fits_mono (fun x hx => ?_) hc)
        rw [mem_withR h] at hx
        rw [mem_withR (rg_sorted bad l h1)]
        rcases hx with hx | hx
        · exact .inl hx
        · refine .inr (rg_sup bad l h1 x ?_)
          rw [rgStep, if_neg hf]
          exact hx
    · exact rg_max bad l h1 n hn
theorem rg_same (bad : List (Sl Int)) : ∀ (l : List Int) {out : List Int}, (∀ n ∈ l, n ∈ out ∨ fits (withR out n) bad = false) → l.foldl (rgStep bad) out = out
  | [], _, _ => rfl
  | y :: l, out, h => by
    rw [List.foldl_cons]
    have e : rgStep bad out y = out := by
      unfold rgStep
      rcases h y (by simp) with h1 | h1
      · rw [withR_yes (List.contains_iff_mem.2 h1)]
        split <;> rfl
      · rw [if_neg (by rw [h1]; simp)]
    rw [e]
    exact rg_same bad l fun n hn => h n (List.mem_cons_of_mem _ hn)

end Go.Am.Core
