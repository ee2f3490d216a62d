/-
  Plain laws: which types agree, which say more, and what both say, as trees.
-/
import Derived.Test.YtecgdmiigdfgdaaTyP1
import Derived.Test.YtecgdmiigdfgdaaTyT11
set_option linter.unusedSimpArgs false
set_option linter.unusedVariables false
set_option maxHeartbeats 1000000
namespace Go.Am.Ty
open Go.Proofs Go.Rose Go.Rose.Rose

/-! ### an order -/
def sameN (m n : Node) : Bool := m.kind == n.kind && (m.name == n.name && m.n == n.n)
theorem ov_mk {b : Bool} {n : Node} {ks : List (Rose Node)} {y : Rose Node} : ov b (mk n ks) y = cond (n.kind == 0 || y.root.kind == 0) (askB b y.root) (sameN n y.root && ovs b ks y.kids) := by rw [ov]; rfl
mutual
theorem ov_refl (b : Bool) : ∀ x : Rose Node, ov b x x = true
  | mk n ks => by
    rw [ov_mk]
    simp only [root, kids]
    cases h : (n.kind == 0) with
    | true => simp [askB, h]
    | false => simp [sameN, ovs_refl b ks]
theorem ovs_refl (b : Bool) : ∀ xs : List (Rose Node), ovs b xs xs = true
  | [] => by rw [ovs]
  | x :: xs => by rw [ovs]; simp [ov_refl b x, ovs_refl b xs]
end
theorem sameN_iff {m n : Node} : sameN m n = true ↔ m = n := by
  unfold sameN
  cases m; cases n
  simp
mutual
theorem ov_trans : ∀ {x y z : Rose Node}, ov true x y = true → ov true y z = true → ov true x z = true
  | mk n ks, mk m qs, mk p rs, h1, h2 => by
    rw [ov_mk] at h1 h2 ⊢
    simp only [root, kids] at h1 h2 ⊢
    by_cases hp : p.kind = 0
    · simp [hp, askB]
    · by_cases hm : m.kind = 0
      · rw [hm] at h2; simp [askB, hp] at h2
      · by_cases hn : n.kind = 0
        · rw [hn] at h1; simp [askB, hm] at h1
        · simp only [beq_eq_false_iff_ne.2 hp, beq_eq_false_iff_ne.2 hm, beq_eq_false_iff_ne.2 hn, Bool.or_self, cond_false, Bool.and_eq_true, sameN_iff] at h1 h2 ⊢
          exact ⟨h1.1.trans h2.1, ovs_trans h1.2 h2.2⟩
theorem ovs_trans : ∀ {xs ys zs : List (Rose Node)}, ovs true xs ys = true → ovs true ys zs = true → ovs true xs zs = true
  | [], _, _, _, _ => by rw [ovs]
  | x :: xs, [], _, h1, _ => by rw [ovs] at h1; cases h1
  | x :: xs, y :: ys, [], _, h2 => by rw [ovs] at h2; cases h2
  | x :: xs, y :: ys, z :: zs, h1, h2 => by
    rw [ovs] at h1 h2 ⊢
    simp only [Bool.and_eq_true, beq_iff_eq] at h1 h2 ⊢
    exact ⟨h1.1.trans h2.1, ov_trans h1.2.1 h2.2.1, ovs_trans h1.2.2 h2.2.2⟩
end
theorem norm_dyn {m n : Node} (h : m.kind = 0) (g : n.kind = 0) (e : m.name = n.name) : norm m = norm n := by
  unfold norm
  rw [if_pos h, if_pos g]
  cases m; cases n
  simp_all
mutual
theorem ov_anti : ∀ {x y : Rose Node}, wf ar x → wf ar y → x.root.name = y.root.name → ov true x y = true → ov true y x = true → (nds x).map norm = (nds y).map norm
  | mk n ks, mk m qs, hx, hy, he, h1, h2 => by
    rw [ov_mk] at h1 h2
    simp only [root, kids] at h1 h2 he
    by_cases hm : m.kind = 0
    · by_cases hn : n.kind = 0
      · have k0 : ks = [] := List.length_eq_zero_iff.1 (by rw [hx.1]; unfold ar; rw [if_neg (by omega), if_neg (by omega)])
        have q0 : qs = [] := List.length_eq_zero_iff.1 (by rw [hy.1]; unfold ar; rw [if_neg (by omega), if_neg (by omega)])
        subst k0; subst q0
        simp [nds, ndss, norm_dyn hn hm he]
      · rw [hm] at h2; simp [askB, hn] at h2
    · by_cases hn : n.kind = 0
      · rw [hn] at h1; simp [askB, hm] at h1
      · simp only [beq_eq_false_iff_ne.2 hm, beq_eq_false_iff_ne.2 hn, Bool.or_self, cond_false, Bool.and_eq_true, sameN_iff] at h1 h2
        rw [nds_mk, nds_mk, List.map_cons, List.map_cons, h1.1, ovs_anti hx.2 hy.2 (by rw [hx.1, hy.1, h1.1]) h1.2 h2.2]
theorem ovs_anti : ∀ {xs ys : List (Rose Node)}, wfs ar xs → wfs ar ys → xs.length = ys.length → ovs true xs ys = true → ovs true ys xs = true → (ndss xs).map norm = (ndss ys).map norm
  | [], [], _, _, _, _, _ => rfl
  | [], _ :: _, _, _, hl, _, _ => by simp at hl
  | _ :: _, [], _, _, hl, _, _ => by simp at hl
  | x :: xs, y :: ys, hx, hy, hl, h1, h2 => by
    rw [ovs] at h1 h2
    simp only [Bool.and_eq_true, beq_iff_eq] at h1 h2
    rw [ndss, ndss, List.map_append, List.map_append, ov_anti hx.1 hy.1 h1.1 h1.2.1 h2.2.1, ovs_anti hx.2 hy.2 (by simpa using hl) h1.2.2 h2.2.2]
end

theorem norm_kind {m n : Node} (h : norm m = norm n) : m.kind = n.kind ∧ m.name = n.name ∧ (m.kind ≠ 0 → m = n) := by
  unfold norm at h
  by_cases hm : m.kind = 0
  · rw [if_pos hm] at h
    by_cases hn : n.kind = 0
    · rw [if_pos hn] at h
      injection h with h1 h2 h3
      exact ⟨h1, h2, fun h => absurd hm h⟩
    · rw [if_neg hn] at h
      exact absurd (by rw [← h]; exact hm) hn
  · rw [if_neg hm] at h
    by_cases hn : n.kind = 0
    · rw [if_pos hn] at h
      exact absurd (by rw [h]; exact hn) hm
    · rw [if_neg hn] at h
      subst h
      exact ⟨rfl, rfl, fun _ => rfl⟩
mutual
theorem same_ov : ∀ {x y : Rose Node} {r s : List Node}, wf ar x → wf ar y → (nds x).map norm ++ r = (nds y).map norm ++ s → ov true x y = true ∧ x.root.name = y.root.name ∧ r = s
  | mk n ks, mk m qs, r, s, hx, hy, h => by
    rw [nds_mk, nds_mk, List.map_cons, List.map_cons, List.cons_append, List.cons_append, List.cons.injEq] at h
    obtain ⟨h1, h2⟩ := h
    obtain ⟨g1, g2, g3⟩ := norm_kind h1
    rw [ov_mk]
    simp only [root, kids]
    have hl : ks.length = qs.length := by
      rw [hx.1, hy.1]
      by_cases h0 : n.kind = 0
      · unfold ar; rw [if_neg (by omega), if_neg (by omega), if_neg (by omega), if_neg (by omega)]
      · rw [g3 h0]
    obtain ⟨e1, e2⟩ := sames_ov hx.2 hy.2 hl h2
    refine ⟨?_, g2, e2⟩
    by_cases h0 : n.kind = 0
    · have : m.kind = 0 := by omega
      simp [h0, this, askB]
    · have hm0 : ¬ m.kind = 0 := by omega
      rw [beq_eq_false_iff_ne.2 h0, beq_eq_false_iff_ne.2 hm0]
      simp only [Bool.or_self, cond_false, Bool.and_eq_true, sameN_iff]
      exact ⟨g3 h0, e1⟩
theorem sames_ov : ∀ {xs ys : List (Rose Node)} {r s : List Node}, wfs ar xs → wfs ar ys → xs.length = ys.length → (ndss xs).map norm ++ r = (ndss ys).map norm ++ s → ovs true xs ys = true ∧ r = s
  | [], [], r, s, _, _, _, h => ⟨by rw [ovs], by simpa [ndss] using h⟩
  | [], _ :: _, _, _, _, _, hl, _ => by simp at hl
  | _ :: _, [], _, _, _, _, hl, _ => by simp at hl
  | x :: xs, y :: ys, r, s, hx, hy, hl, h => by
    rw [ndss, ndss, List.map_append, List.map_append, List.append_assoc, List.append_assoc] at h
    obtain ⟨e1, e2, e3⟩ := same_ov hx.1 hy.1 h
    obtain ⟨e4, e5⟩ := sames_ov hx.2 hy.2 (by simpa using hl) e3
    refine ⟨?_, e5⟩
    rw [ovs]
    simp [e1, e2, e4]
end
theorem order_same {x y : Rose Node} (hx : wf ar x) (hy : wf ar y) (he : x.root.name = y.root.name) : (ov true x y && ov true y x) = same3 (nds x) (nds y) := by
  unfold same3
  rw [Bool.eq_iff_iff, Bool.and_eq_true, beq_iff_eq]
  constructor
  · rintro ⟨h1, h2⟩
    exact ov_anti hx hy he h1 h2
  · intro h
    exact ⟨(same_ov (r := []) (s := []) hx hy (by simpa using h)).1, (same_ov (r := []) (s := []) hy hx (by simpa using h.symm)).1⟩

/-! ### whole types -/
theorem numb_ar0 {n : Node} (h : n.kind = 0) : ar n = 0 := by unfold ar; rw [if_neg (by omega), if_neg (by omega)]
theorem at_dyn {n : Node} (h : n.kind = 0) : At ar [n] 0 (mk n []) := ⟨⟨by rw [numb_ar0 h]; rfl, trivial⟩, [], rfl⟩
theorem plain7_rt {t : List Node} {m : Int} (h : plain7 t m = true) : (t.length : Int) ≤ m ∧ (∀ n ∈ t, n.name.length ≤ 100) ∧ plain3 t = true ∧ ∃ x, t = nds x ∧ RT x := by
  unfold plain7 at h
  simp only [Bool.and_eq_true, Bool.not_eq_true', ltB_false] at h
  obtain ⟨h1, h2, h3, h4⟩ := h
  refine ⟨h1, fun n hn => ?_, h4, rt_of_right3 h3⟩
  have := List.all_eq_true.1 h2 n hn
  rw [Bool.not_eq_true', ltB_false] at this
  omega
theorem tree_of_rt {x : Rose Node} (h : RT x) : treeAt ar (nds x) 0 = x := treeAt_eq (at_whole h.wf)

end Go.Am.Ty
