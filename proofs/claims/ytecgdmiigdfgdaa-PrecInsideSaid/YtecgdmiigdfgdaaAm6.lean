/-
  The abstract machine, part 6: less may be known (loops' heads).
-/
import Derived.Test.YtecgdmiigdfgdaaAm5
namespace Go.Am

def Less (G : Gh) (L : Nat → Option Obj) (G' : Gh) (L' : Nat → Option Obj) : Prop :=
  ∀ i o', L' i = some o' → ∀ o, L i = some o → G'.γ i = G.γ i ∧ G'.hd i = G.hd i ∧ (o'.isBox = true → o.isBox = true) ∧ ∀ s els k, o' = .row s els k → o = .row s els k

mutual
theorem RA.less {F : Fix} {G G' : Gh} {L : Nat → Option Obj} {o2 : Objs} (g : Less G L G' (lk o2)) : ∀ {x : AV} {v : Value}, x.kept o2 → RA F G L x v → RA F G' (lk o2) x v
  | .d x, _, _, hr => by simpa only [RA] using hr
  | .ref i f, v, hk, hr => by
    simp only [RA, AV.kept] at hr hk ⊢
    cases hl : L i with
    | none => simp [hl] at hr
    | some o =>
      cases h2 : lk o2 i with
      | none => simp [h2] at hk
      | some o' =>
        obtain ⟨q1, q2, q3, _⟩ := g i o' h2 o hl
        simp only [hl] at hr
        refine ⟨hr.1, fun hb => ?_⟩
        rw [q1]
        exact hr.2 (q3 hb)
  | .rref i n e f, v, hk, hr => by
    simp only [RA, AV.kept] at hr hk ⊢
    cases hl : L i with
    | none => simp [hl] at hr
    | some o =>
      cases h2 : lk o2 i with
      | none => simp [h2] at hk
      | some o' =>
        obtain ⟨q1, q2, _, q4⟩ := g i o' h2 o hl
        cases o' with
        | row s els k =>
          have := q4 s els k rfl
          subst this
          simp only [hl] at hr
          simp only [q1]
          exact hr
        | _ => exact ⟨hr.1, trivial⟩
  | .sl i n, v, hk, hr => by
    simp only [RA, AV.kept] at hr hk ⊢
    cases hl : L i with
    | none => simp [hl] at hr
    | some o =>
      cases h2 : lk o2 i with
      | none => simp [h2] at hk
      | some o' =>
        obtain ⟨q1, q2, _, q4⟩ := g i o' h2 o hl
        cases o' with
        | row s els k =>
          have := q4 s els k rfl
          subst this
          simp only [hl] at hr
          simp only [q2]
          exact hr
        | _ => exact ⟨hr.1, trivial⟩
  | .agg l, v, hk, hr => by
    simp only [RA, AV.kept] at hr hk ⊢
    obtain ⟨cs, h1, h2, h3⟩ := hr
    exact ⟨cs, h1, RAs.less g hk h2, h3⟩
  | .tup l, v, hk, hr => by
    simp only [RA, AV.kept] at hr hk ⊢
    obtain ⟨cs, h1, h2⟩ := hr
    exact ⟨cs, h1, RAs.less g hk h2⟩
  | .clo f l, v, hk, hr => by
    simp only [RA, AV.kept] at hr hk ⊢
    obtain ⟨cs, h1, h2⟩ := hr
    exact ⟨cs, h1, RAs.less g hk h2⟩
  | .nils _, _, _, hr => by simpa only [RA] using hr
  | .dead, _, _, _ => by simp only [RA]
theorem RAs.less {F : Fix} {G G' : Gh} {L : Nat → Option Obj} {o2 : Objs} (g : Less G L G' (lk o2)) : ∀ {l : List AV} {vs : List Value}, keptAll o2 l → RAs F G L l vs → RAs F G' (lk o2) l vs
  | [], _, _, hr => by simpa only [RAs] using hr
  | x :: l, vs, hk, hr => by
    simp only [RAs, keptAll] at hr hk ⊢
    obtain ⟨v, r, h1, h2, h3⟩ := hr
    exact ⟨v, r, h1, RA.less g hk.1 h2, RAs.less g hk.2 h3⟩
end

theorem wkO_at {o1 o2 : Objs} : ∀ {r : Objs}, wkO o1 o2 r → ∀ {i : Nat} {o : Obj}, lk r i = some o → wkObj o1 o2 (lk o1 i) o
  | [], _, i, o, h => by simp [lk] at h
  | (j, p) :: r, hw, i, o, h => by
    simp only [wkO] at hw
    simp only [lk] at h
    by_cases hij : i = j
    · rw [if_pos hij] at h
      injection h with h
      subst h; subst hij
      exact hw.1
    · rw [if_neg hij] at h
      exact wkO_at hw.2 h

def weakGh (G : Gh) (o1 : Objs) : Gh := ⟨fun i => if lk o1 i = none then none else G.γ i, fun i => if lk o1 i = none then .slice none 0 0 else G.hd i⟩

theorem less_weak {G : Gh} {o1 o2 : Objs} (h : wkO o1 o2 o2) : Less G (lk o1) (weakGh G o1) (lk o2) := by
  intro i o' h2 o h1
  have hw := wkO_at h h2
  have hn : lk o1 i ≠ none := by rw [h1]; simp
  refine ⟨by simp [weakGh, h1], by simp [weakGh, h1], ?_, ?_⟩
  · intro hb
    rw [h1] at hw
    cases o' <;> cases o <;> simp_all [wkObj, Obj.isBox]
  · intro s els k he
    subst he
    rw [h1] at hw
    cases o <;> simp_all [wkObj]

theorem wkT_sound {F : Fix} {G : Gh} {o1 o2 : Objs} (h : wkO o1 o2 o2) : ∀ {l l' : List AV} {vs : List Value}, wkT o1 o2 l l' → RAs F G (lk o1) l vs → RAs F (weakGh G o1) (lk o2) l' vs
  | [], [], _, _, hr => by simpa only [RAs] using hr
  | [], _ :: _, _, hw, _ => by simp [wkT] at hw
  | _ :: _, [], _, hw, _ => by simp [wkT] at hw
  | x :: l, y :: l', vs, hw, hr => by
    simp only [wkT] at hw
    simp only [RAs] at hr ⊢
    obtain ⟨v, r, h1, h2, h3⟩ := hr
    refine ⟨v, r, h1, ?_, wkT_sound h hw.2 h3⟩
    have gen : ∀ z : AV, x = z ∧ z.kept o2 → RA F (weakGh G o1) (lk o2) z v := fun z hz => by
      obtain ⟨rfl, hk⟩ := hz
      exact RA.less (less_weak h) hk h2
    have hw1 := hw.1
    cases y with
    | dead => simp [RA]
    | sl i n =>
      cases x with
      | nils s =>
        simp only [wk1] at hw1
        obtain ⟨rfl, g1, g2⟩ := hw1
        simp only [RA] at h2
        simp only [RA, g2]
        refine ⟨by rw [h2]; rfl, Nat.le_refl _, fun _ => ?_⟩
        simp [weakGh, g1, h2]
      | _ => exact gen _ (by simpa only [wk1] using hw1)
    | _ => cases x <;> exact gen _ (by simpa only [wk1] using hw1)

section
variable {base : Nat} {pass : Nat → Prop} {F0 : Anc} {m : Nat → Nat} {G : Gh} {st st' : AS} {a : Act} {w : World}
theorem wkK_at {o2 : Objs} : ∀ {o1 : Objs} {i : Nat} {o : Obj}, wkK o2 o1 → lk o1 i = some o → 90000 ≤ i → (lk o2 i).isSome = true
  | [], _, _, _, h, _ => by simp [lk] at h
  | (j, p) :: r, i, o, h, hi, hn => by
    simp only [wkK] at h
    simp only [lk] at hi
    by_cases hij : i = j
    · subst hij; exact h.1 hn
    · rw [if_neg hij] at hi
      exact wkK_at h.2 hi hn
theorem SRg.weak (h : SRg base pass F0 m G st a w) (hw : Wk st st') : SRg base pass F0 m (weakGh G st.objs) st' a w := by
  obtain ⟨hw1, hw2, hw3⟩ := hw
  have hless := less_weak (G := G) hw2
  have back : ∀ i o', lk st'.objs i = some o' → o'.owns = true → ∀ b, (weakGh G st.objs).γ i = some b → ∃ o, lk st.objs i = some o ∧ o.owns = true ∧ G.γ i = some b := by
    intro i o' hi ho b hb
    have hwo := wkO_at hw2 hi
    cases h1 : lk st.objs i with
    | none => simp [weakGh, h1] at hb
    | some o =>
      refine ⟨o, rfl, ?_, by simpa [weakGh, h1] using hb⟩
      rw [h1] at hwo
      cases o <;> cases o' <;> simp_all [wkObj, Obj.owns]
  constructor
  · exact h.defers
  · exact wkT_sound hw2 hw1 h.tmps
  · intro i o' hi
    have hwo := wkO_at hw2 hi
    cases h1 : lk st.objs i with
    | none =>
      rw [h1] at hwo
      cases o' with
      | row s els k =>
        simp only [wkObj] at hwo
        obtain ⟨rfl, rfl⟩ := hwo
        exact .inl ⟨by simp [weakGh, h1], by simp [weakGh, h1], rfl, rfl⟩
      | _ => simp [wkObj] at hwo
    | some o =>
      obtain ⟨q1, q2, _, _⟩ := hless i o' hi o h1
      have hk := h.objs i o h1
      rw [h1] at hwo
      cases o' with
      | box ag' cs' =>
        cases o with
        | box ag cs =>
          simp only [wkObj] at hwo
          simp only [ObjOk] at hk ⊢
          obtain ⟨b, vs, t, g1, g2, g3, g4, g5⟩ := hk
          exact ⟨b, vs, t, by rw [q1]; exact g1, g2, wkT_sound hw2 hwo.2 g3, g4, g5⟩
        | _ => simp [wkObj] at hwo
      | fbox s x =>
        cases o with
        | fbox s' x' =>
          simp only [wkObj, Obj.fbox.injEq] at hwo
          obtain ⟨rfl, rfl⟩ := hwo
          simp only [ObjOk] at hk ⊢
          rw [q1]
          exact hk
        | _ => simp [wkObj] at hwo
      | row s els k =>
        cases o with
        | row s' els' k' =>
          simp only [wkObj, Obj.row.injEq] at hwo
          obtain ⟨rfl, rfl, rfl⟩ := hwo
          simp only [ObjOk] at hk ⊢
          rw [q1, q2]
          exact hk
        | _ => simp [wkObj] at hwo
      | gone => trivial
  · intro i j oi oj b hi hj hoi hoj hbi hbj
    obtain ⟨pi, g1, g2, g3⟩ := back i oi hi hoi b hbi
    obtain ⟨pj, k1, k2, k3⟩ := back j oj hj hoj b hbj
    exact h.apart i j pi pj b g1 k1 g2 k2 g3 k3
  · intro i o b hi ho hb
    obtain ⟨p, g1, g2, g3⟩ := back i o hi ho b hb
    exact h.mine i p b g1 g2 g3
  · exact h.frame
  · exact h.old
  · exact h.new
  · exact h.small
  · intro i o ho
    obtain ⟨h1, o1, h2, h3⟩ := h.lent i o ho
    have hs := wkK_at hw3 h2 h1
    cases ho2 : lk st'.objs i with
    | none => rw [ho2] at hs; cases hs
    | some o2 =>
      refine ⟨h1, o2, rfl, h3.trans ?_⟩
      have hwo := wkO_at hw2 ho2
      obtain ⟨q1, q2, _, _⟩ := hless i o2 ho2 o1 h2
      rw [h2] at hwo
      refine ⟨fun hb => ⟨?_, q1⟩, fun s els' k' he => ?_⟩
      · cases o1 <;> cases o2 <;> simp_all [wkObj, Obj.isBox]
      · subst he
        cases o1 with
        | row s' els k =>
          simp only [wkObj, Obj.row.injEq] at hwo
          obtain ⟨rfl, rfl, rfl⟩ := hwo
          exact ⟨_, _, rfl, Nat.le_refl _, fun _ => ⟨q1, q2⟩⟩
        | _ => simp [wkObj] at hwo
end
end Go.Am
