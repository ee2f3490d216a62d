/-
  The abstract machine, part 15c: an own slice that is cut short.
-/
import Derived.Test.YtecgdmiigdfgdaaAm15b
set_option linter.unusedVariables false
set_option linter.unusedSimpArgs false
namespace Go.Am
open Go.RowKit (Below)

mutual
theorem RA.off {F : Fix} {G G' : Gh} {L L' : Nat → Option Obj} {i : Nat} (hL : ∀ j, j ≠ i → L' j = L j ∧ G'.γ j = G.γ j ∧ G'.hd j = G.hd j) : ∀ {x : AV} {v : Value}, x.off i = true → RA F G L x v → RA F G' L' x v
  | .d x, _, _, h => by simpa only [RA] using h
  | .ref j f, _, ho, h => by
    simp only [AV.off, bne_iff_ne] at ho
    obtain ⟨h1, h2, _⟩ := hL j ho
    simp only [RA, h1, h2] at h ⊢
    exact h
  | .rref j n e f, _, ho, h => by
    simp only [AV.off, bne_iff_ne] at ho
    obtain ⟨h1, h2, _⟩ := hL j ho
    simp only [RA, h1, h2] at h ⊢
    exact h
  | .sl j n, _, ho, h => by
    simp only [AV.off, bne_iff_ne] at ho
    obtain ⟨h1, _, h3⟩ := hL j ho
    simp only [RA, h1, h3] at h ⊢
    exact h
  | .agg l, _, ho, h => by
    simp only [AV.off] at ho
    simp only [RA] at h ⊢
    obtain ⟨cs, h1, h2, h3⟩ := h
    exact ⟨cs, h1, RAs.off hL ho h2, h3⟩
  | .tup l, _, ho, h => by
    simp only [AV.off] at ho
    simp only [RA] at h ⊢
    obtain ⟨cs, h1, h2⟩ := h
    exact ⟨cs, h1, RAs.off hL ho h2⟩
  | .clo f l, _, ho, h => by
    simp only [AV.off] at ho
    simp only [RA] at h ⊢
    obtain ⟨cs, h1, h2⟩ := h
    exact ⟨cs, h1, RAs.off hL ho h2⟩
  | .nils _, _, _, h => by simpa only [RA] using h
  | .dead, _, _, _ => by simp [RA]
theorem RAs.off {F : Fix} {G G' : Gh} {L L' : Nat → Option Obj} {i : Nat} (hL : ∀ j, j ≠ i → L' j = L j ∧ G'.γ j = G.γ j ∧ G'.hd j = G.hd j) : ∀ {l : List AV} {vs : List Value}, offAll i l = true → RAs F G L l vs → RAs F G' L' l vs
  | [], _, _, h => by simpa only [RAs] using h
  | x :: l, vs, ho, h => by
    simp only [offAll, Bool.and_eq_true] at ho
    simp only [RAs] at h ⊢
    obtain ⟨v, r, h1, h2, h3⟩ := h
    exact ⟨v, r, h1, RA.off hL ho.1 h2, RAs.off hL ho.2 h3⟩
end
theorem RAs.kill {F : Fix} {G G' : Gh} {L L' : Nat → Option Obj} {i : Nat} (hL : ∀ j, j ≠ i → L' j = L j ∧ G'.γ j = G.γ j ∧ G'.hd j = G.hd j) : ∀ {l : List AV} {vs : List Value}, RAs F G L l vs → RAs F G' L' (killK i l) vs
  | [], _, h => by simpa only [RAs, killK] using h
  | x :: l, vs, h => by
    simp only [RAs] at h
    obtain ⟨v, r, h1, h2, h3⟩ := h
    simp only [killK, RAs]
    refine ⟨v, r, h1, ?_, RAs.kill hL h3⟩
    cases ho : x.off i with
    | true => exact RA.off hL ho h2
    | false => simp [RA]
theorem objsOff_at {i : Nat} : ∀ {o : Objs}, objsOff i o = true → ∀ {j : Nat} {ag : Bool} {cells : List AV}, lk o j = some (.box ag cells) → offAll i cells = true
  | [], _, j, ag, cells, hj => by simp [lk] at hj
  | (k, q) :: r, h, j, ag, cells, hj => by
    simp only [lk] at hj
    by_cases hjk : j = k
    · subst hjk
      rw [if_pos rfl] at hj
      injection hj with hj
      subst hj
      simp only [objsOff, Bool.and_eq_true] at h
      exact h.1
    · rw [if_neg hjk] at hj
      have hr : objsOff i r = true := by
        cases q <;> simp only [objsOff, Bool.and_eq_true] at h
        · exact h.2
        all_goals exact h
      exact objsOff_at hr hj

section
variable {P : Program} {C : Ctx} {G : Gh}
variable {base : Nat} {pass : Nat → Prop} {F0 : Anc} {m : Nat → Nat} {st : AS} {a : Act} {w : World}

theorem SRg.cut (h : SRg base pass F0 m G st a w) {i s k c : Nat} {els : List D} (hi : lk st.objs i = some (.row s els k)) {n : Nat} (hn : n ≤ els.length) (hk : k ≤ n) (ho : objsOff i st.objs = true) (hi9 : i < 90000) {A : Option Addr} (hd : G.hd i = .slice A els.length c) :
    SRg base pass F0 m ⟨G.γ, fun j => if j = i then .slice A n c else G.hd j⟩ ⟨killK i st.tmps, upd st.objs i (.row s (els.take n) k)⟩ a w := by
  have hL : ∀ j, j ≠ i → lk (upd st.objs i (.row s (els.take n) k)) j = lk st.objs j ∧ (⟨G.γ, fun j => if j = i then .slice A n c else G.hd j⟩ : Gh).γ j = G.γ j ∧ (⟨G.γ, fun j => if j = i then .slice A n c else G.hd j⟩ : Gh).hd j = G.hd j := by
    intro j hj
    exact ⟨by rw [lk_upd, if_neg hj], rfl, by simp [hj]⟩
  have own : ∀ j o', lk (upd st.objs i (.row s (els.take n) k)) j = some o' → ∃ o, lk st.objs j = some o ∧ o.owns = o'.owns := by
    intro j o' hj
    rw [lk_upd] at hj
    by_cases hji : j = i
    · subst hji
      rw [if_pos rfl] at hj
      injection hj with hj
      subst hj
      exact ⟨_, hi, rfl⟩
    · rw [if_neg hji] at hj
      exact ⟨o', hj, rfl⟩
  constructor
  · exact h.defers
  · exact RAs.kill hL h.tmps
  · intro j o' hj
    simp only at hj
    by_cases hji : j = i
    · subst hji
      rw [lk_upd, if_pos rfl] at hj
      injection hj with hj
      subst hj
      have hob := h.objs j _ hi
      simp only [ObjOk] at hob ⊢
      have hlen : (els.take n).length = n := by rw [List.length_take]; omega
      rcases hob with ⟨h1, h2, h3, h4⟩ | ⟨b, cap, cs, t, h1, h2, h3, h4, h5, h6, h7, h8, h9⟩
      · left
        subst h3
        simp only [List.length_nil, Nat.le_zero_eq] at hn
        subst hn
        rw [h2] at hd
        simp only [List.length_nil, Value.slice.injEq] at hd
        obtain ⟨rfl, _, rfl⟩ := hd
        exact ⟨h1, by simp, by simp, h4⟩
      · right
        rw [h2] at hd
        simp only [Value.slice.injEq, true_and] at hd
        obtain ⟨rfl, rfl⟩ := hd
        refine ⟨b, cap, cs, t, h1, by simp [hlen], by omega, h4, h5, h6, ?_, h8, by omega⟩
        rw [hlen]
        have := (h7.split n).1
        rw [List.take_take] at this
        have e : min (n * s) (els.length * s) = n * s := Nat.min_eq_left (Nat.mul_le_mul_right _ hn)
        rw [e] at this
        exact this
    · rw [(hL j hji).1] at hj
      have hob := h.objs j _ hj
      obtain ⟨e1, e2, e3⟩ := hL j hji
      cases o' with
      | box ag cells =>
        simp only [ObjOk] at hob ⊢
        obtain ⟨b, cs, t, h1, h2, h3, h4, h5⟩ := hob
        exact ⟨b, cs, t, h1, h2, RAs.off hL (objsOff_at ho hj) h3, h4, h5⟩
      | fbox s' x => exact hob
      | row s' els' k' =>
        simp only [ObjOk, if_neg hji] at hob ⊢
        exact hob
      | gone => trivial
  · intro j j' o o' b hj hj' hoo hoo' hb hb'
    obtain ⟨q, q1, q2⟩ := own j o hj
    obtain ⟨q', q1', q2'⟩ := own j' o' hj'
    exact h.apart j j' q q' b q1 q1' (q2.trans hoo) (q2'.trans hoo') hb hb'
  · intro j o b hj hoo hb
    obtain ⟨q, q1, q2⟩ := own j o hj
    exact h.mine j q b q1 (q2.trans hoo) hb
  · exact h.frame
  · exact h.old
  · exact h.new
  · exact h.small
  · intro j o hj
    obtain ⟨h1, o1, h2, h3⟩ := h.lent j o hj
    have hji : j ≠ i := by omega
    refine ⟨h1, o1, by rw [(hL j hji).1]; exact h2, ?_⟩
    refine h3.trans ⟨fun hb => ⟨hb, rfl⟩, fun s' els' k' he => ⟨els', k', he, Nat.le_refl _, fun _ => ⟨rfl, by simp [hji]⟩⟩⟩
end
end Go.Am
