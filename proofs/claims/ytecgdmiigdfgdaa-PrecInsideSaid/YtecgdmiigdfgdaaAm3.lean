/-
  The abstract machine, part 3: how the state goes on.
-/
import Derived.Test.YtecgdmiigdfgdaaAm2
namespace Go.Am
open Go.RowKit (Below)

theorem ObjOk.mono {F F' : Fix} {G G' : Gh} {L L' : Nat → Option Obj} (h : F.le F') (g : Goes G L G' L') {i : Nat} {o : Obj} (hγ : G'.γ i = G.γ i) (hhd : G'.hd i = G.hd i)
    (ho : o.owns = true → ∀ b, G.γ i = some b → F'.w.heap[b]? = F.w.heap[b]? ∧ F'.m b = F.m b) (hk : ObjOk F G L i o) : ObjOk F' G' L' i o := by
  cases o with
  | box ag cells =>
    simp only [ObjOk] at hk ⊢
    obtain ⟨b, cs, t, h1, h2, h3, h4, h5⟩ := hk
    obtain ⟨q1, q2⟩ := ho rfl b h1
    exact ⟨b, cs, t, by rw [hγ]; exact h1, by rw [q1]; exact h2, RAs.mono h g h3, h4, by rw [q2]; exact h5⟩
  | fbox s x =>
    simp only [ObjOk] at hk ⊢
    obtain ⟨b, u, h1, h2, h3, h4, h5⟩ := hk
    exact ⟨b, u, by rw [hγ]; exact h1, h2.mono h, h3, h4, h5.mono h⟩
  | row s els k =>
    simp only [ObjOk] at hk ⊢
    rcases hk with ⟨h1, h2, h3, h4⟩ | ⟨b, cap, cs, t, h1, h2, h3, h4, h5, h6, h7, h8, h9⟩
    · exact .inl ⟨by rw [hγ]; exact h1, by rw [hhd]; exact h2, h3, h4⟩
    · obtain ⟨q1, q2⟩ := ho rfl b h1
      exact .inr ⟨b, cap, cs, t, by rw [hγ]; exact h1, by rw [hhd]; exact h2, h3, h4, by rw [q1]; exact h5, h6, RE.mono h h7, by rw [q2]; exact h8, h9⟩
  | gone => trivial

section
variable {base : Nat} {pass : Nat → Prop} {F0 : Anc} {m m' : Nat → Nat} {G G' : Gh} {st : AS} {a : Act} {w w' : World}

/-- A slot is filled. -/
theorem SRg.put (h : SRg base pass F0 m G st a w) {t : Nat} {x : AV} {v : Value} (hx : RA ⟨w, m⟩ G (lk st.objs) x v) :
    SRg base pass F0 m G { st with tmps := st.tmps.set t x } (a.put (some t) v) w :=
  ⟨h.defers, by simpa [Act.put] using RAs.set h.tmps hx, h.objs, h.apart, h.mine, h.frame, h.old, h.new, h.small, h.lent⟩

theorem SRg.putO (h : SRg base pass F0 m G st a w) {t : Option Nat} {x : AV} {v : Value} (hx : RA ⟨w, m⟩ G (lk st.objs) x v) :
    SRg base pass F0 m G { st with tmps := (match t with | some t => st.tmps.set t x | none => st.tmps) } (a.put t v) w := by
  cases t with
  | none => exact h
  | some t => exact h.put hx

/-- One object goes on, or a new one comes. -/
theorem SRg.obj (h : SRg base pass F0 m G st a w) (i : Nat) (o' : Obj) (hF : Fix.le ⟨w, m⟩ ⟨w', m'⟩) (hG : ∀ j, j ≠ i → G'.γ j = G.γ j ∧ G'.hd j = G.hd j)
    (hgo : ∀ o, lk st.objs i = some o → (o'.isBox = true → o.isBox = true ∧ G'.γ i = G.γ i) ∧
      ∀ s els' k', o' = .row s els' k' → ∃ els k, o = .row s els k ∧ els.length ≤ els'.length ∧ (els'.length = els.length → G'.γ i = G.γ i ∧ G'.hd i = G.hd i))
    (hok : Goes G (lk st.objs) G' (lk (upd st.objs i o')) → ObjOk ⟨w', m'⟩ G' (lk (upd st.objs i o')) i o')
    (hother : ∀ j o, j ≠ i → lk st.objs j = some o → o.owns = true → ∀ b, G.γ j = some b → w'.heap[b]? = w.heap[b]? ∧ m' b = m b)
    (hmine : o'.owns = true → ∀ b, G'.γ i = some b → b < w'.heap.size ∧ (base ≤ b ∨ pass b) ∧ ∀ j o, j ≠ i → lk st.objs j = some o → o.owns = true → G.γ j ≠ some b)
    (hfr : Frame base pass w w') (hold : ∀ b, b < base → ¬ pass b → m' b = m b) (hnew : ∀ b, w'.heap.size ≤ b → m' b = 0) :
    Goes G (lk st.objs) G' (lk (upd st.objs i o')) ∧ SRg base pass F0 m' G' { st with objs := upd st.objs i o' } a w' := by
  have hgoes : Goes G (lk st.objs) G' (lk (upd st.objs i o')) := by
    intro j o hj
    rw [lk_upd]
    by_cases hji : j = i
    · subst hji
      rw [if_pos rfl]
      obtain ⟨g1, g2⟩ := hgo o hj
      exact ⟨o', rfl, g1, g2⟩
    · rw [if_neg hji]
      obtain ⟨q1, q2⟩ := hG j hji
      exact ⟨o, hj, fun hb => ⟨hb, q1⟩, fun s els' k' he => ⟨els', k', he, Nat.le_refl _, fun _ => ⟨q1, q2⟩⟩⟩
  refine ⟨hgoes, ?_⟩
  constructor
  · exact h.defers
  · exact RAs.mono hF hgoes h.tmps
  · intro j o hj
    simp only [lk_upd] at hj
    by_cases hji : j = i
    · subst hji
      rw [if_pos rfl] at hj
      injection hj with hj
      subst hj
      exact hok hgoes
    · rw [if_neg hji] at hj
      obtain ⟨q1, q2⟩ := hG j hji
      exact ObjOk.mono hF hgoes q1 q2 (fun ho b hb => hother j o hji hj ho b hb) (h.objs j o hj)
  · intro j k oj ok b hj hk hoj hok' hbj hbk
    simp only [lk_upd] at hj hk
    by_cases hji : j = i
    · by_cases hki : k = i
      · rw [hji, hki]
      · rw [if_pos hji] at hj
        rw [if_neg hki] at hk
        injection hj with hj
        subst hj
        subst hji
        rw [(hG k hki).1] at hbk
        exact absurd hbk ((hmine hoj b hbj).2.2 k ok hki hk hok')
    · by_cases hki : k = i
      · rw [if_neg hji] at hj
        rw [if_pos hki] at hk
        injection hk with hk
        subst hk
        subst hki
        rw [(hG j hji).1] at hbj
        exact absurd hbj ((hmine hok' b hbk).2.2 j oj hji hj hoj)
      · rw [if_neg hji] at hj
        rw [if_neg hki] at hk
        rw [(hG j hji).1] at hbj
        rw [(hG k hki).1] at hbk
        exact h.apart j k oj ok b hj hk hoj hok' hbj hbk
  · intro j o b hj ho hb
    simp only [lk_upd] at hj
    by_cases hji : j = i
    · subst hji
      rw [if_pos rfl] at hj
      injection hj with hj
      subst hj
      exact ⟨(hmine ho b hb).1, (hmine ho b hb).2.1⟩
    · rw [if_neg hji] at hj
      rw [(hG j hji).1] at hb
      obtain ⟨q1, q2⟩ := h.mine j o b hj ho hb
      exact ⟨Nat.lt_of_lt_of_le q1 hfr.size, q2⟩
  · exact h.frame.trans hfr
  · exact fun b hb hp => (hold b hb hp).trans (h.old b hb hp)
  · exact hnew
  · exact Nat.le_trans h.small hfr.size
  · exact h.lent.goes hgoes

/-- The world grows, and nothing of ours turns. -/
theorem SRg.grow (h : SRg base pass F0 m G st a w) (hb : Below w.heap.size w w') (hm : ∀ b, b < w.heap.size → m' b = m b) (hnew : ∀ b, w'.heap.size ≤ b → m' b = 0) :
    Fix.le ⟨w, m⟩ ⟨w', m'⟩ ∧ SRg base pass F0 m' G st a w' := by
  have hF : Fix.le ⟨w, m⟩ ⟨w', m'⟩ := by
    intro b
    rcases Nat.lt_or_ge b w.heap.size with hlt | hge
    · refine ⟨by simp only; rw [hm b hlt]; exact Nat.le_refl _, fun off _ => ?_⟩
      exact hb.cell (p := ⟨b, off, none⟩) hlt
    · have := h.new b hge
      exact ⟨by simp only; omega, fun off ho => by simp only at ho; omega⟩
  refine ⟨hF, ?_⟩
  constructor
  · exact h.defers
  · exact RAs.mono hF (Goes.refl _ _) h.tmps
  · intro i o hi
    refine ObjOk.mono hF (Goes.refl _ _) rfl rfl (fun ho b hbb => ?_) (h.objs i o hi)
    have hlt := (h.mine i o b hi ho hbb).1
    exact ⟨hb.block b hlt, hm b hlt⟩
  · exact h.apart
  · intro i o b hi ho hbb
    obtain ⟨q1, q2⟩ := h.mine i o b hi ho hbb
    exact ⟨Nat.lt_of_lt_of_le q1 hb.size, q2⟩
  · exact h.frame.trans ⟨hb.os, hb.tape, hb.output, hb.size, fun b hbb _ => hb.block b (Nat.lt_of_lt_of_le hbb h.small)⟩
  · exact fun b hbb hp => (hm b (Nat.lt_of_lt_of_le hbb h.small)).trans (h.old b hbb hp)
  · exact hnew
  · exact Nat.le_trans h.small hb.size
  · exact h.lent

/-- A draw. -/
theorem SRg.drew (h : SRg base pass F0 m G st a w) : SRg base pass F0 m G st a w.drew :=
  (h.grow (m' := m) ((Below.refl _ _).drew) (fun _ _ => rfl) h.new).2
end

end Go.Am
