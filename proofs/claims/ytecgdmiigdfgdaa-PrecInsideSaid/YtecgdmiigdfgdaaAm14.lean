/-
  The abstract machine, part 14: structs built; one operation.
-/
import Derived.Test.YtecgdmiigdfgdaaAm13
namespace Go.Am
open Go.RowKit (Below)

section
variable {P : Program} {C : Ctx} {G : Gh}
variable {base : Nat} {pass : Nat → Prop} {F0 : Anc} {m : Nat → Nat} {st : AS} {a : Act} {w : World}

theorem mapM_of_at {α β : Type} (g : α → Option β) : ∀ (l : List α) (fs : List β), l.length = fs.length → (∀ (j : Nat) (f : α) (p : β), l[j]? = some f → fs[j]? = some p → g f = some p) → l.mapM g = some fs
  | [], [], _, _ => rfl
  | [], _ :: _, h, _ => by simp at h
  | _ :: _, [], h, _ => by simp at h
  | x :: l, p :: fs, h, hg => by
    have h0 := hg 0 x p rfl rfl
    have ih := mapM_of_at g l fs (by simpa using h) (fun j f q hj hq => hg (j + 1) f q (by simpa using hj) (by simpa using hq))
    simp [List.mapM_cons, h0, ih]

theorem buildGo_cond {o : Objs} {fs : List (Nat × Nat)} : ∀ {parts : List (Nat × AV)} {cells : List AV} {c c' : Prop} {z : AV} {os : Objs}, buildGo o fs cells parts c = some (c', z, os) → c' → c
  | [], cells, c, c', z, os, h, hc => by
    simp only [buildGo, Option.some.injEq, Prod.mk.injEq] at h
    obtain ⟨rfl, _, _⟩ := h
    exact hc
  | (i, x) :: parts, cells, c, c', z, os, h, hc => by
    simp only [buildGo] at h
    split at h
    · split at h
      · exact (buildGo_cond h hc).1
      · cases h
    · cases h

theorem one_part {F : Fix} {L : Nat → Option Obj} {x : AV} {v : Value} (g2 : RA F G L x v) (hx : x.fits 1) : ∃ u, v.cells = #[u] ∧ u.oneCell' = true ∧ RA F G L ((x.cells false 1).getD 0 .dead) u := by
  obtain ⟨k1, k2, k3⟩ := cells_sound (ag := false) g2 hx
  obtain ⟨u, hu⟩ := Array.size_eq_one_iff.1 k2
  rw [hu] at k1 k3
  refine ⟨u, hu, k3 u (by simp), ?_⟩
  have hlen := RAs.length k1
  match hcx : x.cells false 1, hlen with
  | [y], _ =>
    rw [hcx] at k1
    simp only [RAs] at k1
    obtain ⟨v', r, e, g, _⟩ := k1
    simp only [List.cons.injEq] at e
    rw [e.1]
    simpa using g

theorem buildGo_sound {F : Fix} {L : Nat → Option Obj} {o : Objs} {fs : List (Nat × Nat)} : ∀ {parts : List (Nat × AV)} {pv : List (Nat × Value)} {cells : List AV} {vs : List Value} {c c' : Prop} {z : AV} {os : Objs},
    buildGo o fs cells parts c = some (c', z, os) → c' → RAs F G L cells vs → (∀ u ∈ vs, u.oneCell' = true) → parts.length = pv.length →
    (∀ (j i : Nat) (x : AV), parts[j]? = some (i, x) → ∃ v, pv[j]? = some (i, v) ∧ RA F G L x v) →
    os = o ∧ ∃ cells', Instr.fill (fs.toArray[·]?) vs.toArray pv = some cells' ∧ RA F G L z (.agg cells')
  | [], pv, cells, vs, c, c', z, os, h, hc, hr, h1, hl, _ => by
    simp only [buildGo, Option.some.injEq, Prod.mk.injEq] at h
    obtain ⟨rfl, rfl, rfl⟩ := h
    have : pv = [] := List.eq_nil_of_length_eq_zero (by simpa using hl.symm)
    subst this
    exact ⟨rfl, vs.toArray, rfl, mkAgg_sound hr h1⟩
  | (i, x) :: parts, pv, cells, vs, c, c', z, os, h, hc, hr, h1, hl, hv => by
    simp only [buildGo] at h
    cases hf : fs[i]? with
    | none => simp [hf] at h
    | some p =>
      obtain ⟨off, sz⟩ := p
      simp only [hf] at h
      split at h
      · next hs =>
        have hx := (buildGo_cond h hc).2
        cases pv with
        | nil => simp at hl
        | cons p pv =>
          obtain ⟨v, e1, g2⟩ := hv 0 i x rfl
          simp only [List.getElem?_cons_zero, Option.some.injEq] at e1
          subst e1
          obtain ⟨u, hu, hu1, hur⟩ := one_part g2 hx
          obtain ⟨hos, cells', hf', hz⟩ := buildGo_sound (pv := pv) (vs := vs.set off u) h hc (RAs.set hr hur) (fun y hy => by
              rcases List.mem_or_eq_of_mem_set hy with hy | hy
              · exact h1 y hy
              · rw [hy]; exact hu1) (by simpa using hl) (fun j i x hj => by
              obtain ⟨v', e, g⟩ := hv (j + 1) i x (by simpa using hj)
              exact ⟨v', by simpa using e, g⟩)
          refine ⟨hos, cells', ?_, hz⟩
          have hvl := RAs.length hr
          have hfs : fs.toArray[i]? = some (off, sz) := by simpa using hf
          simp only [Instr.fill, hfs]
          rw [if_neg (by simp [hu, hs.1, hvl]; omega), hu]
          simpa using hf'
      · cases h

theorem build_sound (T : TabOk P C.τ) (h : SRg base pass F0 m G st a w) {t : Nat} {l : List (Nat × AV)} {vs : List (Nat × Value)} {c : Prop} {z : AV} {os : Objs} (hl : l.length = vs.length)
    (hv : ∀ (j i : Nat) (x : AV), l[j]? = some (i, x) → ∃ v, vs[j]? = some (i, v) ∧ RA ⟨w, m⟩ G (lk st.objs) x v)
    (hh : hBuild C t l st.objs = some (c, z, os)) (hc : c) : Tells P base pass F0 a st.tmps (Instr.build t vs.toArray) w z os := by
  unfold hBuild at hh
  split at hh
  · next fs hk =>
    have tt := T t (by rw [hk]; rfl)
    obtain ⟨d, hd, hkd⟩ := T.kind hk rfl
    simp only [TK.is] at hkd
    obtain ⟨fields, rfl, hlen, hfs⟩ := hkd
    obtain ⟨i, zv, h1, h2, h3, h4, h5, _, h6, h7⟩ := tt.info
    have hfit := buildGo_cond hh hc
    obtain ⟨g1, g2, g3⟩ := cells_sound (ag := true) (h5 ⟨w, m⟩ G (lk st.objs)) hfit
    obtain ⟨rfl, cells', q1, q2⟩ := buildGo_sound (pv := vs) hh hc g1 g3 hl hv
    have hmap : fields.toList.mapM (fun f => (P.info? f.type).map fun i => (f.offset, i.size)) = some fs := by
      refine mapM_of_at _ _ _ (by simpa using hlen.symm) (fun j f p hj hp => ?_)
      obtain ⟨e1, e2, _⟩ := hfs j f p (by simpa using hj) hp
      cases hi : P.info? f.type with
      | none => simp [hi] at e2
      | some ii =>
        simp [hi] at e2
        simp [e1, e2]
    have hb : P.built t vs = some cells' := by
      unfold Program.built
      simp only [h1, hd, h4, hmap]
      simpa using q1
    exact tells_same h (run_build w t vs.toArray cells' hb) q2
  · cases hh

end
end Go.Am
