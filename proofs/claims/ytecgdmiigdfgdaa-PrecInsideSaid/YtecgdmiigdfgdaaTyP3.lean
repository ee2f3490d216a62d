/-
  Plain laws: what both say, as a tree.
-/
import Derived.Test.YtecgdmiigdfgdaaTyP2
set_option linter.unusedSimpArgs false
set_option linter.unusedVariables false
set_option maxHeartbeats 1000000
namespace Go.Am.Ty
open Go.Proofs Go.Rose Go.Rose.Rose

mutual
/-- What two trees that agree both say. -/
def mt : Rose Node → Rose Node → Rose Node
  | mk n ks, y => cond (y.root.kind == 0) (mk n ks) (cond (n.kind == 0) y (mk n (mts ks y.kids)))
def mts : List (Rose Node) → List (Rose Node) → List (Rose Node)
  | [], _ => []
  | _ :: _, [] => []
  | x :: xs, y :: ys => mt x y :: mts xs ys
end
/-- What has been told of a meet, up to a place of the first one. -/
def cur (a : List Node) (s : MS) (i : Nat) : List Node := s.out.getD [] ++ (a.take i).drop s.done
theorem take_drop_at {a : List Node} {i : Nat} {x : Rose Node} (h : At ar a i x) : (a.take (i + (nds x).length)).drop i = nds x := by
  obtain ⟨_, r, h2⟩ := h
  rw [List.drop_take, Nat.add_sub_cancel_left, h2, List.take_left']
  rfl
theorem cur_step {a : List Node} {s : MS} {i : Nat} (h1 : s.done ≤ i) (h2 : i < a.length) : cur a s (i + 1) = cur a s i ++ [a.getD i n0] := by
  unfold cur
  rw [List.append_assoc]
  congr 1
  rw [List.take_succ_eq_append_getElem h2, List.drop_append_of_le_length (by rw [List.length_take]; omega)]
  simp [h2]
mutual
theorem mv_mt {a b : List Node} : ∀ {x y : Rose Node} {i k : Nat} {s : MS}, At ar a i x → At ar b k y → s.done ≤ i → (s.out.getD []).length ≤ s.done + k → ov false x y = true →
    cur a (mv a b x y i k s).2 (i + (nds x).length) = cur a s i ++ nds (mt x y)
  | mk n ks, y, i, k, s, hx, hy, h1, h2, ho => by
    rw [ov_mk] at ho
    rw [mv, mt]
    have hrx := hx.root n0
    have hry := hy.root n0
    simp only [root] at hrx
    have hex : endT a i = ((i + (nds (mk n ks)).length : Nat) : Int) := endT_at hx
    have hey : endT b k = ((k + (nds y).length : Nat) : Int) := endT_at hy
    by_cases hd : n.kind = 0 ∨ y.root.kind = 0
    · have hc : (n.kind == 0 || y.root.kind == 0) = true := by simpa using hd
      rw [hc, cond_true]
      unfold cur mstep
      rw [hex, hey, hry]
      simp only [Int.toNat_natCast, Option.getD_some]
      have hnil : (List.take (i + (nds (mk n ks)).length) a).drop (i + (nds (mk n ks)).length) = [] := List.drop_eq_nil_of_le (by rw [List.length_take]; omega)
      rw [hnil, List.append_nil, take_drop_at hx, take_drop_at hy]
      by_cases hy0 : y.root.kind = 0
      · rw [if_pos hy0, show (y.root.kind == 0) = true by simpa using hy0, cond_true]
      · have hn0 : n.kind = 0 := by rcases hd with h | h; exact h; exact absurd h hy0
        rw [if_neg hy0, show (y.root.kind == 0) = false by simpa using hy0, cond_false, show (n.kind == 0) = true by simpa using hn0, cond_true]
    · have e1 : (n.kind == 0) = false := by simp only [beq_eq_false_iff_ne]; exact fun h => hd (.inl h)
      have e2 : (y.root.kind == 0) = false := by simp only [beq_eq_false_iff_ne]; exact fun h => hd (.inr h)
      rw [e1, e2] at ho ⊢
      simp only [Bool.or_self, cond_false, Bool.and_eq_true] at ho ⊢
      rw [show (n.kind == y.root.kind && (n.name == y.root.name && n.n == y.root.n)) = true from ho.1, cond_true]
      have e3 : (nds (mk n ks)).length = 1 + (ndss ks).length := by rw [nds_mk, List.length_cons]; omega
      have hks : Ats ar a (i + 1) ks := hx.kids.1
      have := mvs_mt (s := s) hks hy.kids.1 (by omega) (by omega) ho.2
      rw [e3, ← Nat.add_assoc, this, cur_step h1 hx.lt, hrx, nds_mk]
      simp
theorem mvs_mt {a b : List Node} : ∀ {xs ys : List (Rose Node)} {i k : Nat} {s : MS}, Ats ar a i xs → Ats ar b k ys → s.done ≤ i → (s.out.getD []).length ≤ s.done + k → ovs false xs ys = true →
    cur a (mvs a b xs ys i k s).2 (i + (ndss xs).length) = cur a s i ++ ndss (mts xs ys)
  | [], ys, i, k, s, _, _, _, _, _ => by rw [mvs, mts]; simp [ndss]
  | x :: xs, [], i, k, s, _, _, _, _, ho => by rw [ovs] at ho; cases ho
  | x :: xs, y :: ys, i, k, s, hx, hy, h1, h2, ho => by
    rw [ovs] at ho
    simp only [Bool.and_eq_true] at ho
    have g := mv_ok (s := s) hx.head.1 hy.head.1 h1 h2
    have e := mv_ov a b x y i k s
    have e1 := mv_mt (s := s) hx.head.1 hy.head.1 h1 h2 ho.2.1
    rw [mvs, mts, ho.1, cond_true, e, ho.2.1, cond_true]
    have e2 := mvs_mt (s := (mv a b x y i k s).2) hx.head.2 hy.head.2 g.done g.len ho.2.2
    simp only [ndss, List.length_append]
    rw [← Nat.add_assoc, e2, e1, List.append_assoc]
end
theorem meetT_eq {x y : Rose Node} (hx : wf ar x) (hy : wf ar y) : meetT (nds x) (nds y) = cond (ov false x y) (⟨nds (mt x y)⟩, 0) (⟨[]⟩, 9) := by
  have ax := at_whole hx
  have ay := at_whole hy
  unfold meetT meetR
  rw [treeAt_eq ax, treeAt_eq ay]
  have e := mv_ov (nds x) (nds y) x y 0 0 ⟨none, 0⟩
  cases ho : ov false x y with
  | false => rw [e, ho]; rfl
  | true =>
    rw [e, ho, cond_true, cond_true]
    have h := mv_mt (s := ⟨none, 0⟩) ax ay (Nat.le_refl _) (by simp) ho
    unfold cur at h
    simp only [Nat.zero_add, Option.getD_none, List.take_zero, List.drop_nil, List.nil_append, List.take_length] at h
    rw [h]

/-! ### laws of the meet -/
mutual
theorem ov_symm : ∀ {x y : Rose Node}, wf ar x → wf ar y → ov false x y = true → ov false y x = true
  | mk n ks, mk m qs, hx, hy, h => by
    rw [ov_mk] at h ⊢
    simp only [root, kids] at h ⊢
    by_cases hd : n.kind = 0 ∨ m.kind = 0
    · rw [show (m.kind == 0 || n.kind == 0) = true by simpa [or_comm] using hd]
      rfl
    · rw [show (n.kind == 0 || m.kind == 0) = false by simpa using hd] at h
      rw [show (m.kind == 0 || n.kind == 0) = false by simpa [and_comm] using hd]
      simp only [cond_false, Bool.and_eq_true, sameN_iff] at h ⊢
      obtain ⟨rfl, h⟩ := h
      exact ⟨rfl, ovs_symm hx.2 hy.2 (by rw [hx.1, hy.1]) h⟩
theorem ovs_symm : ∀ {xs ys : List (Rose Node)}, wfs ar xs → wfs ar ys → xs.length = ys.length → ovs false xs ys = true → ovs false ys xs = true
  | [], [], _, _, _, _ => by rw [ovs]
  | [], _ :: _, _, _, hl, _ => by simp at hl
  | _ :: _, [], _, _, hl, _ => by simp at hl
  | x :: xs, y :: ys, hx, hy, hl, h => by
    rw [ovs] at h ⊢
    simp only [Bool.and_eq_true, beq_iff_eq] at h ⊢
    exact ⟨h.1.symm, ov_symm hx.1 hy.1 h.2.1, ovs_symm hx.2 hy.2 (by simpa using hl) h.2.2⟩
end
theorem ov_comm {x y : Rose Node} (hx : wf ar x) (hy : wf ar y) : ov false x y = ov false y x := by
  rw [Bool.eq_iff_iff]
  exact ⟨ov_symm hx hy, ov_symm hy hx⟩
mutual
/-- What says at least as much as both. -/
theorem under_agree : ∀ {z x y : Rose Node}, wf ar z → wf ar x → wf ar y → ov true z x = true → ov true z y = true → ov false x y = true
  | mk p rs, mk n ks, mk m qs, hz, hx, hy, h1, h2 => by
    rw [ov_mk] at h1 h2 ⊢
    simp only [root, kids] at h1 h2 ⊢
    by_cases hd : n.kind = 0 ∨ m.kind = 0
    · rw [show (n.kind == 0 || m.kind == 0) = true by simpa using hd]
      rfl
    · obtain ⟨hn, hm⟩ : ¬ n.kind = 0 ∧ ¬ m.kind = 0 := ⟨fun h => hd (.inl h), fun h => hd (.inr h)⟩
      by_cases hp : p.kind = 0
      · rw [hp] at h1; simp [askB, hn] at h1
      · simp only [beq_eq_false_iff_ne.2 hn, beq_eq_false_iff_ne.2 hm, beq_eq_false_iff_ne.2 hp, Bool.or_self, cond_false, Bool.and_eq_true, sameN_iff] at h1 h2 ⊢
        obtain ⟨rfl, h1⟩ := h1
        obtain ⟨rfl, h2⟩ := h2
        exact ⟨rfl, unders_agree hz.2 hx.2 hy.2 (by rw [hz.1, hx.1]) (by rw [hz.1, hy.1]) h1 h2⟩
theorem unders_agree : ∀ {zs xs ys : List (Rose Node)}, wfs ar zs → wfs ar xs → wfs ar ys → zs.length = xs.length → zs.length = ys.length → ovs true zs xs = true → ovs true zs ys = true → ovs false xs ys = true
  | [], [], _, _, _, _, _, _, _, _ => by rw [ovs]
  | [], _ :: _, _, _, _, _, hl, _, _, _ => by simp at hl
  | _ :: _, [], _, _, _, _, hl, _, _, _ => by simp at hl
  | _ :: _, _ :: _, [], _, _, _, _, hl, _, _ => by simp at hl
  | z :: zs, x :: xs, y :: ys, hz, hx, hy, l1, l2, h1, h2 => by
    rw [ovs] at h1 h2 ⊢
    simp only [Bool.and_eq_true, beq_iff_eq] at h1 h2 ⊢
    exact ⟨h1.1.symm.trans h2.1, under_agree hz.1 hx.1 hy.1 h1.2.1 h2.2.1, unders_agree hz.2 hx.2 hy.2 (by simpa using l1) (by simpa using l2) h1.2.2 h2.2.2⟩
end
mutual
theorem under_meet : ∀ {z x y : Rose Node}, ov true z x = true → ov true z y = true → ov true z (mt x y) = true
  | mk p rs, mk n ks, mk m qs, h1, h2 => by
    rw [mt]
    simp only [root, kids]
    cases hm : (m.kind == 0) with
    | true => exact h1
    | false =>
      simp only [cond_false]
      cases hn : (n.kind == 0) with
      | true => exact h2
      | false =>
        simp only [cond_false]
        rw [ov_mk] at h1 h2 ⊢
        simp only [root, kids] at h1 h2 ⊢
        by_cases hp : p.kind = 0
        · rw [hp] at h1; simp [askB, hn] at h1
        · simp only [hn, hm, beq_eq_false_iff_ne.2 hp, Bool.or_self, cond_false, Bool.and_eq_true, sameN_iff] at h1 h2 ⊢
          exact ⟨h1.1, unders_meet h1.2 h2.2⟩
theorem unders_meet : ∀ {zs xs ys : List (Rose Node)}, ovs true zs xs = true → ovs true zs ys = true → ovs true zs (mts xs ys) = true
  | [], _, _, _, _ => by rw [ovs]
  | _ :: _, [], _, h, _ => by rw [ovs] at h; cases h
  | _ :: _, _ :: _, [], _, h => by rw [ovs] at h; cases h
  | z :: zs, x :: xs, y :: ys, h1, h2 => by
    have hr : ∀ {x y : Rose Node}, x.root.name = y.root.name → (mt x y).root.name = x.root.name := by
      intro x y h
      obtain ⟨n, ks⟩ := x
      rw [mt]
      cases (y.root.kind == 0) with
      | true => rfl
      | false => cases (n.kind == 0) with
        | true => exact h.symm
        | false => rfl
    rw [ovs] at h1 h2
    simp only [Bool.and_eq_true, beq_iff_eq] at h1 h2
    rw [mts, ovs]
    simp only [Bool.and_eq_true, beq_iff_eq]
    exact ⟨by rw [hr (h1.1.symm.trans h2.1)]; exact h1.1, under_meet h1.2.1 h2.2.1, unders_meet h1.2.2 h2.2.2⟩
end
theorem mt_name {x y : Rose Node} (h : x.root.name = y.root.name) : (mt x y).root.name = x.root.name := by
  obtain ⟨n, ks⟩ := x
  rw [mt]
  cases (y.root.kind == 0) with
  | true => rfl
  | false => cases (n.kind == 0) with
    | true => exact h.symm
    | false => rfl
mutual
theorem meet_le1 : ∀ {x y : Rose Node}, ov false x y = true → ov true (mt x y) x = true
  | mk n ks, mk m qs, h => by
    rw [mt]
    simp only [root, kids]
    cases hm : (m.kind == 0) with
    | true => exact ov_refl _ _
    | false =>
      simp only [cond_false]
      cases hn : (n.kind == 0) with
      | true => simp only [cond_true]; rw [ov_mk]; simp only [root]; rw [hn]; simp [askB, hn]
      | false =>
        rw [ov_mk] at h
        simp only [root, kids, hn, hm, Bool.or_self, cond_false, Bool.and_eq_true, sameN_iff] at h ⊢
        rw [ov_mk]
        simp only [root, kids, hn, Bool.or_self, cond_false, Bool.and_eq_true, sameN_iff]
        exact ⟨trivial, meets_le1 h.2⟩
theorem meets_le1 : ∀ {xs ys : List (Rose Node)}, ovs false xs ys = true → ovs true (mts xs ys) xs = true
  | [], _, _ => by rw [mts, ovs]
  | _ :: _, [], h => by rw [ovs] at h; cases h
  | x :: xs, y :: ys, h => by
    rw [ovs] at h
    simp only [Bool.and_eq_true, beq_iff_eq] at h
    rw [mts, ovs]
    simp only [Bool.and_eq_true, beq_iff_eq]
    exact ⟨mt_name h.1, meet_le1 h.2.1, meets_le1 h.2.2⟩
end
mutual
theorem meet_le2 : ∀ {x y : Rose Node}, ov false x y = true → ov true (mt x y) y = true
  | mk n ks, mk m qs, h => by
    rw [mt]
    simp only [root, kids]
    cases hm : (m.kind == 0) with
    | true => simp only [cond_true]; rw [ov_mk]; simp only [root]; rw [hm]; simp [askB, hm]
    | false =>
      simp only [cond_false]
      cases hn : (n.kind == 0) with
      | true => exact ov_refl _ _
      | false =>
        rw [ov_mk] at h
        simp only [root, kids, hn, hm, Bool.or_self, cond_false, Bool.and_eq_true, sameN_iff] at h ⊢
        rw [ov_mk]
        simp only [root, kids, hn, hm, Bool.or_self, cond_false, Bool.and_eq_true, sameN_iff]
        exact ⟨h.1, meets_le2 h.2⟩
theorem meets_le2 : ∀ {xs ys : List (Rose Node)}, ovs false xs ys = true → ovs true (mts xs ys) ys = true
  | [], _, _ => by rw [mts, ovs]
  | _ :: _, [], h => by rw [ovs] at h; cases h
  | x :: xs, y :: ys, h => by
    rw [ovs] at h
    simp only [Bool.and_eq_true, beq_iff_eq] at h
    rw [mts, ovs]
    simp only [Bool.and_eq_true, beq_iff_eq]
    exact ⟨(mt_name h.1).trans h.1, meet_le2 h.2.1, meets_le2 h.2.2⟩
end
mutual
theorem meet_comm : ∀ {x y : Rose Node}, wf ar x → wf ar y → x.root.name = y.root.name → ov false x y = true → (nds (mt x y)).map norm = (nds (mt y x)).map norm
  | mk n ks, mk m qs, hx, hy, he, h => by
    rw [mt, mt]
    rw [ov_mk] at h
    simp only [root, kids] at h he ⊢
    cases hm : (m.kind == 0) with
    | true =>
      simp only [cond_true]
      cases hn : (n.kind == 0) with
      | true =>
        simp only [cond_true]
        rw [beq_iff_eq] at hm hn
        have k0 : ks = [] := List.length_eq_zero_iff.1 (by rw [hx.1, numb_ar0 hn])
        have q0 : qs = [] := List.length_eq_zero_iff.1 (by rw [hy.1, numb_ar0 hm])
        subst k0; subst q0
        simp [nds, ndss, norm_dyn hn hm he]
      | false => simp only [cond_false]
    | false =>
      cases hn : (n.kind == 0) with
      | true => simp only [cond_true, cond_false]
      | false =>
        simp only [hn, hm, Bool.or_self, cond_false, Bool.and_eq_true, sameN_iff] at h ⊢
        obtain ⟨rfl, h⟩ := h
        rw [nds_mk, nds_mk, List.map_cons, List.map_cons, meets_comm hx.2 hy.2 (by rw [hx.1, hy.1]) h]
theorem meets_comm : ∀ {xs ys : List (Rose Node)}, wfs ar xs → wfs ar ys → xs.length = ys.length → ovs false xs ys = true → (ndss (mts xs ys)).map norm = (ndss (mts ys xs)).map norm
  | [], [], _, _, _, _ => rfl
  | [], _ :: _, _, _, hl, _ => by simp at hl
  | _ :: _, [], _, _, hl, _ => by simp at hl
  | x :: xs, y :: ys, hx, hy, hl, h => by
    rw [ovs] at h
    simp only [Bool.and_eq_true, beq_iff_eq] at h
    rw [mts, mts, ndss, ndss, List.map_append, List.map_append, meet_comm hx.1 hy.1 h.1 h.2.1, meets_comm hx.2 hy.2 (by simpa using hl) h.2.2]
end

end Go.Am.Ty
