/-
  The abstract machine, part 8: what is told on may not be written any more.
-/
import Derived.Test.YtecgdmiigdfgdaaAm7
set_option linter.unusedVariables false
set_option linter.unusedSimpArgs false
namespace Go.Am

theorem cell_row {w : World} {b : Nat} {cs : Array Value} {t : TypeId} {f : Nat × Nat} (h : w.heap[b]? = some (.cells cs t f)) (j : Nat) : w.cell? ⟨b, j, none⟩ = cs[j]? := by
  simp [World.cell?, h]
theorem frozen_row {w : World} {b : Nat} {cs : Array Value} {t : TypeId} (h : w.heap[b]? = some (.cells cs t (0, 0))) (j : Nat) : w.frozen? ⟨b, j, none⟩ = false := by
  simp [World.frozen?, h]

section
variable {base : Nat} {pass : Nat → Prop} {F0 : Anc} {m : Nat → Nat} {G : Gh} {st : AS} {a : Act} {w : World}

/-- Only what is fixed of block b turns. -/
theorem Fix.le_bump {b n : Nat} (h : m b ≤ n) : Fix.le ⟨w, m⟩ ⟨w, fun x => if x = b then n else m x⟩ := by
  intro x
  refine ⟨?_, fun _ _ => rfl⟩
  show m x ≤ if x = b then n else m x
  split
  · next e => subst e; exact h
  · exact Nat.le_refl _

/-- An object whose block is fixed further: shared, or frozen. -/
theorem SRg.bump (h : SRg base pass F0 m G st a w) {i b n : Nat} {o o' : Obj} (hi : lk st.objs i = some o) (ho : o.owns = true) (hb : G.γ i = some b) (hn : m b ≤ n)
    (hbox : o'.isBox = true → o.isBox = true) (hrow : ∀ s els' k', o' = .row s els' k' → ∃ k, o = .row s els' k)
    (hok : Fix.le ⟨w, m⟩ ⟨w, fun x => if x = b then n else m x⟩ → Goes G (lk st.objs) G (lk (upd st.objs i o')) → ObjOk ⟨w, fun x => if x = b then n else m x⟩ G (lk (upd st.objs i o')) i o') :
    Goes G (lk st.objs) G (lk (upd st.objs i o')) ∧ SRg base pass F0 (fun x => if x = b then n else m x) G { st with objs := upd st.objs i o' } a w := by
  have hF := Fix.le_bump (w := w) hn
  have hm := h.mine i o b hi ho hb
  refine h.obj i o' hF (fun _ _ => ⟨rfl, rfl⟩) ?_ (hok hF) ?_ ?_ (Frame.refl _ _ _) ?_ ?_
  · intro o1 h1
    rw [hi] at h1
    injection h1 with h1
    subst h1
    refine ⟨fun hx => ⟨hbox hx, rfl⟩, fun s els' k' he => ?_⟩
    obtain ⟨k, hk⟩ := hrow s els' k' he
    exact ⟨els', k, hk, Nat.le_refl _, fun _ => ⟨rfl, rfl⟩⟩
  · intro j oj hji hj hoj b' hb'
    refine ⟨rfl, ?_⟩
    have : b' ≠ b := fun e => hji (h.apart j i oj o b hj hi hoj ho (e ▸ hb') hb)
    simp only [if_neg this]
  · intro _ b' hb'
    rw [hb] at hb'
    injection hb' with hb'
    subst hb'
    exact ⟨hm.1, hm.2, fun j oj hji hj hoj e => hji (h.apart j i oj o b hj hi hoj ho e hb)⟩
  · intro b' hlt hp
    have : b' ≠ b := fun e => by
      subst e
      rcases hm.2 with h1 | h1
      · omega
      · exact hp h1
    simp only [if_neg this]
  · intro b' hge
    have : b' ≠ b := by have := hm.1; omega
    simp only [if_neg this]
    exact h.new b' hge

theorem Rs_agg {F : Fix} {xs : List D} {cs : Array Value} (h : Rs F xs cs.toList) (h1 : ∀ u ∈ cs.toList, u.oneCell' = true) : R F (.agg xs) (.agg cs) := by
  simp only [R]
  exact ⟨cs.toList, by simp, h, h1⟩

/-- What telling on may turn: nothing but what is ours. -/
structure PurOk (G : Gh) (o o' : Objs) (F F' : Fix) : Prop where
  le : F.le F'
  goes : Goes G (lk o) G (lk o')
  sub : ∀ i oi, lk o' i = some oi → oi.owns = true → ∃ oj, lk o i = some oj ∧ oj.owns = true
  same : ∀ b, (∀ i oi, lk o i = some oi → oi.owns = true → G.γ i ≠ some b) → F'.m b = F.m b

theorem PurOk.refl (G : Gh) (o : Objs) (F : Fix) : PurOk G o o F F := ⟨Fix.le_refl _, Goes.refl _ _, fun i oi h ho => ⟨oi, h, ho⟩, fun _ _ => rfl⟩
theorem PurOk.trans {o o1 o2 : Objs} {F F1 F2 : Fix} (h : PurOk G o o1 F F1) (k : PurOk G o1 o2 F1 F2) : PurOk G o o2 F F2 := by
  refine ⟨Fix.le_trans h.le k.le, ?_, ?_, ?_⟩
  · intro j o hj
    obtain ⟨oa, a1, a2, a3⟩ := h.goes j o hj
    obtain ⟨ob, b1, b2, b3⟩ := k.goes j oa a1
    refine ⟨ob, b1, fun hb => ⟨(a2 (b2 hb).1).1, rfl⟩, fun s' els' k' he => ?_⟩
    obtain ⟨els1, kk1, e1, e2, _⟩ := b3 s' els' k' he
    obtain ⟨els2, kk2, f1, f2, _⟩ := a3 s' els1 kk1 e1
    exact ⟨els2, kk2, f1, Nat.le_trans f2 e2, fun _ => ⟨rfl, rfl⟩⟩
  · intro i oi hi ho
    obtain ⟨oj, hj, hoj⟩ := k.sub i oi hi ho
    exact h.sub i oj hj hoj
  · intro b hb
    rw [k.same b (fun i oi hi ho => by
      obtain ⟨oj, hj, hoj⟩ := h.sub i oi hi ho
      exact hb i oj hj hoj), h.same b hb]

theorem sub_upd {o : Objs} {i : Nat} {oi o' : Obj} (hi : lk o i = some oi) (ho : oi.owns = true) : ∀ j oj, lk (upd o i o') j = some oj → oj.owns = true → ∃ ok, lk o j = some ok ∧ ok.owns = true := by
  intro j oj hj hoj
  rw [lk_upd] at hj
  by_cases hji : j = i
  · subst hji; exact ⟨oi, hi, ho⟩
  · rw [if_neg hji] at hj; exact ⟨oj, hj, hoj⟩

theorem same_bump {o : Objs} {i b n : Nat} {oi : Obj} (hi : lk o i = some oi) (ho : oi.owns = true) (hb : G.γ i = some b) : ∀ b', (∀ i oi, lk o i = some oi → oi.owns = true → G.γ i ≠ some b') →
    (fun x => if x = b then n else m x) b' = m b' := by
  intro b' h
  have : b' ≠ b := fun e => h i oi hi ho (e ▸ hb)
  simp [this]

mutual
theorem pur_sound' : ∀ {n : Nat} {x : AV} {c : Prop} {y : D} {os : Objs} {st : AS} {m : Nat → Nat} {v : Value}, SRg base pass F0 m G st a w → pur n x st.objs = some (c, y, os) → c → RA ⟨w, m⟩ G (lk st.objs) x v →
    ∃ m', SRg base pass F0 m' G ⟨st.tmps, os⟩ a w ∧ PurOk G st.objs os ⟨w, m⟩ ⟨w, m'⟩ ∧ R ⟨w, m'⟩ y v
  | 0, x, c, y, os, st, m, v, _, hp, _, _ => by simp [pur] at hp
  | n + 1, .d x, c, y, os, st, m, v, h, hp, hc, hr => by
    simp only [pur, Option.some.injEq, Prod.mk.injEq] at hp
    obtain ⟨rfl, rfl, rfl⟩ := hp
    exact ⟨m, h, PurOk.refl _ _ _, by simpa only [RA] using hr⟩
  | n + 1, .nils s, c, y, os, st, m, v, h, hp, hc, hr => by
    simp only [pur, Option.some.injEq, Prod.mk.injEq] at hp
    obtain ⟨rfl, rfl, rfl⟩ := hp
    simp only [RA] at hr
    refine ⟨m, h, PurOk.refl _ _ _, ?_⟩
    simp only [R]
    exact ⟨none, 0, by simpa using hr, by simp, by simp [maxLen], by simp⟩
  | n + 1, .sl i k, c, y, os, st, m, v, h, hp, hc, hr => by
    simp only [pur] at hp
    split at hp
    · next s els k0 hi =>
      simp only [Option.some.injEq, Prod.mk.injEq] at hp
      obtain ⟨rfl, rfl, rfl⟩ := hp
      simp only [RA, hi] at hr
      have hv := hr.2.2 hc
      subst hv
      have hok := h.objs i _ hi
      simp only [ObjOk] at hok
      rcases hok with ⟨h1, h2, rfl, rfl⟩ | ⟨b, cap, cs, t, h1, h2, h3, h4, h5, h6, h7, h8, h9⟩
      · have hu : ∀ j, lk (upd st.objs i (.row s [] ([] : List D).length)) j = lk st.objs j := fun j => by
          rw [lk_upd]
          split
          · next e => subst e; simp [hi]
          · rfl
        have hL : lk (upd st.objs i (.row s [] ([] : List D).length)) = lk st.objs := funext hu
        refine ⟨m, ⟨h.defers, by simp only [hL]; exact h.tmps, by simp only [hL]; exact h.objs, by simp only [hL]; exact h.apart, by simp only [hL]; exact h.mine, h.frame, h.old, h.new, h.small, by rw [hL]; exact h.lent⟩, ⟨Fix.le_refl _, by rw [hL]; exact Goes.refl _ _, fun i oi h ho => ⟨oi, by rw [← hL]; exact h, ho⟩, fun _ _ => rfl⟩, ?_⟩
        simp only [R, h2]
        exact ⟨none, 0, by simp, by simp, by simp [maxLen], by simp⟩
      · have hlen := RE.length h7
        have hkm : m b ≤ els.length * s := by rw [show m b = k0 * s from h8]; exact Nat.mul_le_mul_right _ h9
        obtain ⟨hg, hs⟩ := h.bump (o' := .row s els els.length) (n := els.length * s) hi rfl h1 hkm (by simp [Obj.isBox]) (by
          intro s' els' k' he
          simp only [Obj.row.injEq] at he
          obtain ⟨rfl, rfl, _⟩ := he
          exact ⟨k0, rfl⟩) (by
          intro hF _
          simp only [ObjOk]
          exact .inr ⟨b, cap, cs, t, h1, h2, h3, h4, h5, h6, RE.mono hF h7, by simp, Nat.le_refl _⟩)
        refine ⟨_, hs, ⟨Fix.le_bump hkm, hg, sub_upd hi rfl, same_bump hi rfl h1⟩, ?_⟩
        simp only [R, h2]
        refine ⟨_, cap, rfl, h3, h4, fun _ => ⟨b, 0, _, rfl, RE.mono (Fix.le_bump hkm) h7, ?_⟩⟩
        refine ⟨by simp only [if_true]; omega, fun j u hu => ?_⟩
        rw [Nat.zero_add, cell_row h5]
        rw [List.getElem?_take] at hu
        split at hu
        · simpa using hu
        · cases hu
    · cases hp
  | n + 1, .ref i (k + 1), c, y, os, st, m, v, _, hp, _, _ => by simp [pur] at hp
  | n + 1, .rref i k e f, c, y, os, st, m, v, _, hp, _, _ => by simp [pur] at hp
  | n + 1, .dead, c, y, os, st, m, v, _, hp, _, _ => by simp [pur] at hp
  | n + 1, .ref i 0, c, y, os, st, m, v, h, hp, hc, hr => by
    simp only [pur] at hp
    split at hp
    · next s x hi =>
      simp only [Option.some.injEq, Prod.mk.injEq] at hp
      obtain ⟨rfl, rfl, rfl⟩ := hp
      simp only [RA, hi] at hr
      obtain ⟨b, g1, rfl⟩ := hr.2 rfl
      have hok := h.objs i _ hi
      simp only [ObjOk] at hok
      obtain ⟨b', u, q1, q2, q3, q4, q5⟩ := hok
      rw [g1] at q1
      injection q1 with q1
      subst q1
      refine ⟨m, h, PurOk.refl _ _ _, ?_⟩
      simp only [R]
      exact ⟨b, 0, u, rfl, q2, q3, q4, q5⟩
    · next ag cells hi =>
      split at hp
      · next c1 xs o1 hp1 =>
        simp only [RA, hi] at hr
        obtain ⟨b, g1, rfl⟩ := hr.2 rfl
        have hok := h.objs i _ hi
        simp only [ObjOk] at hok
        obtain ⟨b', cs, t, q1, q2, q3, q4, q5⟩ := hok
        rw [g1] at q1
        injection q1 with q1
        subst q1
        split at hp
        · next ag1 cells1 hi1 =>
          have main : c1 → ∃ m1, SRg base pass F0 m1 G ⟨st.tmps, o1⟩ a w ∧ PurOk G st.objs o1 ⟨w, m⟩ ⟨w, m1⟩ ∧ Rs ⟨w, m1⟩ xs cs.toList := fun hc1 => purs_sound' h hp1 hc1 q3
          have fin : c1 → ∀ (s : Nat) (x : D) (u : Value), (∀ F, Rs F xs cs.toList → R F x u) → u.cells = cs → s = cs.size →
              ∃ m', SRg base pass F0 m' G ⟨st.tmps, upd o1 i (.fbox s x)⟩ a w ∧ PurOk G st.objs (upd o1 i (.fbox s x)) ⟨w, m⟩ ⟨w, m'⟩ ∧ R ⟨w, m'⟩ (.ptr s x) (.pointer (some ⟨b, 0, none⟩)) := by
            intro hc1 s x u hu hcs hs
            obtain ⟨m1, k1, k2, k4⟩ := main hc1
            have hok1 := k1.objs i _ hi1
            simp only [ObjOk] at hok1
            obtain ⟨b1, cs1, t1, w1, w2, w3, w4, w5⟩ := hok1
            rw [g1] at w1
            injection w1 with w1
            subst w1
            have hz : m1 b ≤ cs.size := by rw [show m1 b = 0 from w5]; exact Nat.zero_le _
            have hcell : ∀ (j : Nat) (y : Value), cs.toList[j]? = some y → w.cell? ⟨b, 0 + j, none⟩ = some y := fun j y hy => by
              rw [Nat.zero_add, cell_row q2]
              simpa using hy
            have hmem : Mem ⟨w, fun z => if z = b then cs.size else m1 z⟩ b 0 u.cells.toList := ⟨by simp [hcs], by rw [hcs]; exact hcell⟩
            obtain ⟨hg, hsr⟩ := k1.bump (o' := .fbox s x) (n := cs.size) hi1 rfl g1 hz (fun _ => rfl) (by simp) (by
              intro hF _
              simp only [ObjOk]
              exact ⟨b, u, g1, (hu _ k4).mono hF, by rw [hcs]; exact hs.symm, by rw [hcs]; exact q4, hmem⟩)
            refine ⟨_, hsr, k2.trans ⟨Fix.le_bump hz, hg, sub_upd hi1 rfl, same_bump hi1 rfl g1⟩, ?_⟩
            simp only [R]
            exact ⟨b, 0, u, rfl, (hu _ k4).mono (Fix.le_bump hz), by rw [hcs]; exact hs.symm, by rw [hcs]; exact q4, hmem⟩
          split at hp
          · simp only [Option.some.injEq, Prod.mk.injEq] at hp
            obtain ⟨rfl, rfl, rfl⟩ := hp
            obtain ⟨m1, _, _, k4⟩ := main hc
            exact fin hc _ _ (.agg cs) (fun F hF => Rs_agg hF q4) rfl (by have := Rs.length k4; simp at this; exact this.symm)
          · next x0 _ =>
            simp only [Option.some.injEq, Prod.mk.injEq] at hp
            obtain ⟨rfl, rfl, rfl⟩ := hp
            obtain ⟨m1, _, _, k4⟩ := main hc
            have hl := Rs.length k4
            obtain ⟨l⟩ := cs
            match l, hl with
            | [v0], _ =>
              have h1 : v0.oneCell' = true := q4 v0 (by simp)
              refine fin hc _ _ v0 (fun F hF => ?_) ?_ rfl
              · simp only [Rs] at hF
                obtain ⟨v1, r, e1, e2, _⟩ := hF
                simp only [List.cons.injEq] at e1
                rw [e1.1]
                exact e2
              · cases v0 <;> simp_all [Value.oneCell', Value.cells]
          · cases hp
        · cases hp
      · cases hp
    · cases hp
  | n + 1, .agg l, c, y, os, st, m, v, h, hp, hc, hr => by
    simp only [pur] at hp
    split at hp
    · next c1 xs o1 hp1 =>
      simp only [Option.some.injEq, Prod.mk.injEq] at hp
      obtain ⟨rfl, rfl, rfl⟩ := hp
      simp only [RA] at hr
      obtain ⟨cs, rfl, g2, g3⟩ := hr
      obtain ⟨m', k1, k2, k4⟩ := purs_sound' h hp1 hc g2
      exact ⟨m', k1, k2, by simp only [R]; exact ⟨cs, rfl, k4, g3⟩⟩
    · cases hp
  | n + 1, .tup l, c, y, os, st, m, v, h, hp, hc, hr => by
    simp only [pur] at hp
    split at hp
    · next c1 xs o1 hp1 =>
      simp only [Option.some.injEq, Prod.mk.injEq] at hp
      obtain ⟨rfl, rfl, rfl⟩ := hp
      simp only [RA] at hr
      obtain ⟨cs, rfl, g2⟩ := hr
      obtain ⟨m', k1, k2, k4⟩ := purs_sound' h hp1 hc g2
      exact ⟨m', k1, k2, by simp only [R]; exact ⟨cs, rfl, k4⟩⟩
    · cases hp
  | n + 1, .clo f l, c, y, os, st, m, v, h, hp, hc, hr => by
    simp only [pur] at hp
    split at hp
    · next c1 xs o1 hp1 =>
      simp only [Option.some.injEq, Prod.mk.injEq] at hp
      obtain ⟨rfl, rfl, rfl⟩ := hp
      simp only [RA] at hr
      obtain ⟨cs, rfl, g2⟩ := hr
      obtain ⟨m', k1, k2, k4⟩ := purs_sound' h hp1 hc g2
      exact ⟨m', k1, k2, by simp only [R]; exact ⟨cs, rfl, k4⟩⟩
    · cases hp
theorem purs_sound' : ∀ {n : Nat} {l : List AV} {c : Prop} {ys : List D} {os : Objs} {st : AS} {m : Nat → Nat} {vs : List Value}, SRg base pass F0 m G st a w → purs n l st.objs = some (c, ys, os) → c → RAs ⟨w, m⟩ G (lk st.objs) l vs →
    ∃ m', SRg base pass F0 m' G ⟨st.tmps, os⟩ a w ∧ PurOk G st.objs os ⟨w, m⟩ ⟨w, m'⟩ ∧ Rs ⟨w, m'⟩ ys vs
  | 0, l, c, ys, os, st, m, vs, _, hp, _, _ => by simp [purs] at hp
  | n + 1, [], c, ys, os, st, m, vs, h, hp, hc, hr => by
    simp only [purs, Option.some.injEq, Prod.mk.injEq] at hp
    obtain ⟨rfl, rfl, rfl⟩ := hp
    exact ⟨m, h, PurOk.refl _ _ _, by simpa only [Rs, RAs] using hr⟩
  | n + 1, x :: l, c, ys, os, st, m, vs, h, hp, hc, hr => by
    simp only [purs] at hp
    split at hp
    · next c1 y o1 hp1 =>
      split at hp
      · next c2 ys2 o2 hp2 =>
        simp only [Option.some.injEq, Prod.mk.injEq] at hp
        obtain ⟨rfl, rfl, rfl⟩ := hp
        simp only [RAs] at hr
        obtain ⟨v, r, rfl, g2, g3⟩ := hr
        obtain ⟨m1, k1, k2, k4⟩ := pur_sound' h hp1 hc.1 g2
        obtain ⟨m2, j1, j2, j4⟩ := purs_sound' (st := ⟨st.tmps, o1⟩) k1 hp2 hc.2 (RAs.mono k2.le k2.goes g3)
        refine ⟨m2, j1, k2.trans j2, ?_⟩
        simp only [Rs]
        exact ⟨v, r, rfl, k4.mono j2.le, j4⟩
      · cases hp
    · cases hp
end
theorem pur_sound {n : Nat} {x : AV} {c : Prop} {y : D} {os : Objs} {st : AS} {m : Nat → Nat} {v : Value} (h : SRg base pass F0 m G st a w) (hp : pur n x st.objs = some (c, y, os)) (hc : c) (hr : RA ⟨w, m⟩ G (lk st.objs) x v) :
    ∃ m', SRg base pass F0 m' G ⟨st.tmps, os⟩ a w ∧ Fix.le ⟨w, m⟩ ⟨w, m'⟩ ∧ Goes G (lk st.objs) G (lk os) ∧ R ⟨w, m'⟩ y v := by
  obtain ⟨m', k1, k2, k3⟩ := pur_sound' h hp hc hr
  exact ⟨m', k1, k2.le, k2.goes, k3⟩
end
end Go.Am
