/-
  Plain laws: what two right types both say is right; of three it is all one which two come first.
-/
import Derived.Test.YtecgdmiigdfgdaaTyP3
set_option linter.unusedSimpArgs false
set_option linter.unusedVariables false
set_option maxHeartbeats 1000000
namespace Go.Am.Ty
open Go.Proofs Go.Rose Go.Rose.Rose

mutual
theorem mt_wf : ∀ {x y : Rose Node}, wf ar x → wf ar y → ov false x y = true → wf ar (mt x y)
  | mk n ks, mk m qs, hx, hy, h => by
    rw [mt]
    simp only [root, kids]
    cases hm : (m.kind == 0) with
    | true => exact hx
    | false =>
      simp only [cond_false]
      cases hn : (n.kind == 0) with
      | true => exact hy
      | false =>
        rw [ov_mk] at h
        simp only [root, kids, hn, hm, Bool.or_self, cond_false, Bool.and_eq_true, sameN_iff] at h ⊢
        obtain ⟨rfl, h⟩ := h
        have hl : ks.length = qs.length := by rw [hx.1, hy.1]
        obtain ⟨g1, g2⟩ := mts_wf hx.2 hy.2 hl h
        exact ⟨by rw [g1, hx.1], g2⟩
theorem mts_wf : ∀ {xs ys : List (Rose Node)}, wfs ar xs → wfs ar ys → xs.length = ys.length → ovs false xs ys = true → (mts xs ys).length = xs.length ∧ wfs ar (mts xs ys)
  | [], [], _, _, _, _ => ⟨rfl, trivial⟩
  | [], _ :: _, _, _, hl, _ => by simp at hl
  | _ :: _, [], _, _, hl, _ => by simp at hl
  | x :: xs, y :: ys, hx, hy, hl, h => by
    rw [ovs] at h
    simp only [Bool.and_eq_true] at h
    rw [mts]
    obtain ⟨g1, g2⟩ := mts_wf hx.2 hy.2 (by simpa using hl) h.2.2
    exact ⟨by simp [g1], mt_wf hx.1 hy.1 h.2.1, g2⟩
end
mutual
theorem mt_mem : ∀ {x y : Rose Node} {n : Node}, n ∈ nds (mt x y) → n ∈ nds x ∨ n ∈ nds y
  | mk n ks, mk m qs, p, h => by
    rw [mt] at h
    simp only [root, kids] at h
    cases hm : (m.kind == 0) with
    | true => rw [hm] at h; exact .inl h
    | false =>
      rw [hm] at h
      simp only [cond_false] at h
      cases hn : (n.kind == 0) with
      | true => rw [hn] at h; exact .inr h
      | false =>
        rw [hn] at h
        simp only [cond_false] at h
        rw [nds_mk] at h
        rcases List.mem_cons.1 h with rfl | h
        · exact .inl (by rw [nds_mk]; simp)
        · rcases mts_mem h with h | h
          · exact .inl (by rw [nds_mk]; exact List.mem_cons_of_mem _ h)
          · exact .inr (by rw [nds_mk]; exact List.mem_cons_of_mem _ h)
theorem mts_mem : ∀ {xs ys : List (Rose Node)} {n : Node}, n ∈ ndss (mts xs ys) → n ∈ ndss xs ∨ n ∈ ndss ys
  | [], _, _, h => by rw [mts] at h; simp [ndss] at h
  | _ :: _, [], _, h => by rw [mts] at h; simp [ndss] at h
  | x :: xs, y :: ys, n, h => by
    rw [mts, ndss, List.mem_append] at h
    rw [ndss, ndss, List.mem_append, List.mem_append]
    rcases h with h | h
    · rcases mt_mem h with h | h
      · exact .inl (.inl h)
      · exact .inr (.inl h)
    · rcases mts_mem h with h | h
      · exact .inl (.inr h)
      · exact .inr (.inr h)
end
mutual
theorem mt_depth : ∀ (x y : Rose Node), depth (mt x y) ≤ max (depth x) (depth y)
  | mk n ks, mk m qs => by
    rw [mt]
    simp only [root, kids]
    cases (m.kind == 0) with
    | true => simp only [cond_true]; omega
    | false =>
      simp only [cond_false]
      cases (n.kind == 0) with
      | true => simp only [cond_true]; omega
      | false =>
        simp only [cond_false, depth]
        have := mts_depth ks qs
        omega
theorem mts_depth : ∀ (xs ys : List (Rose Node)), depths (mts xs ys) ≤ max (depths xs) (depths ys)
  | [], _ => by rw [mts]; simp [depths]
  | _ :: _, [] => by rw [mts]; simp [depths]
  | x :: xs, y :: ys => by
    rw [mts]
    simp only [depths]
    have := mt_depth x y
    have := mts_depth xs ys
    omega
end
mutual
theorem mt_len : ∀ (x y : Rose Node), (nds (mt x y)).length ≤ (nds x).length + (nds y).length
  | mk n ks, mk m qs => by
    rw [mt]
    simp only [root, kids]
    cases (m.kind == 0) with
    | true => simp only [cond_true]; omega
    | false =>
      simp only [cond_false]
      cases (n.kind == 0) with
      | true => simp only [cond_true]; omega
      | false =>
        simp only [cond_false, nds_mk, List.length_cons]
        have := mts_len ks qs
        omega
theorem mts_len : ∀ (xs ys : List (Rose Node)), (ndss (mts xs ys)).length ≤ (ndss xs).length + (ndss ys).length
  | [], _ => by rw [mts]; simp [ndss]
  | _ :: _, [] => by rw [mts]; simp [ndss]
  | x :: xs, y :: ys => by
    rw [mts]
    simp only [ndss, List.length_append]
    have := mt_len x y
    have := mts_len xs ys
    omega
end
theorem labK_congr {p x x' q q' : Node} {a b : Bool} (h1 : x.kind ≠ 9) (h2 : x'.kind ≠ 9) (h3 : x.name = x'.name) (h4 : q.name = q'.name) : labK p x q a b = labK p x' q' a b := by
  unfold labK
  rw [beq_eq_false_iff_ne.2 h1, beq_eq_false_iff_ne.2 h2, h3, h4]
theorem mts_at : ∀ {xs ys : List (Rose Node)} {k : Nat}, xs.length = ys.length → k < xs.length → ovs false xs ys = true → (mts xs ys).getD k (mk n0 []) = mt (xs.getD k (mk n0 [])) (ys.getD k (mk n0 [])) ∧ (xs.getD k (mk n0 [])).root.name = (ys.getD k (mk n0 [])).root.name
  | [], _, _, _, hk, _ => by simp at hk
  | _ :: _, [], _, hl, _, _ => by simp at hl
  | x :: xs, y :: ys, 0, _, _, h => by
    rw [ovs] at h
    simp only [Bool.and_eq_true, beq_iff_eq] at h
    rw [mts]
    exact ⟨rfl, h.1⟩
  | x :: xs, y :: ys, k + 1, hl, hk, h => by
    rw [ovs] at h
    simp only [Bool.and_eq_true] at h
    rw [mts]
    simpa using mts_at (k := k) (by simpa using hl) (by simpa using hk) h.2.2
/-- No node of a tree is a Tail. -/
def NoTail (l : List Node) : Prop := ∀ n ∈ l, n.kind ≠ 9
theorem root_mem (x : Rose Node) : x.root ∈ nds x := by rw [nds_eta]; simp
theorem kid_mem {xs : List (Rose Node)} {k : Nat} (h : k < xs.length) : (xs.getD k (mk n0 [])).root ∈ ndss xs := by
  induction xs generalizing k with
  | nil => simp at h
  | cons x xs ih =>
    rw [ndss, List.mem_append]
    cases k with
    | zero => exact .inl (root_mem x)
    | succ k => exact .inr (by simpa using ih (k := k) (by simpa using h))
theorem labZ_mts {n : Node} {xs ys : List (Rose Node)} (hl : xs.length = ys.length) (hm : (mts xs ys).length = xs.length) (h : ovs false xs ys = true) (t1 : NoTail (ndss xs)) (t2 : NoTail (ndss ys)) : labZ n (mts xs ys) = labZ n xs := by
  unfold labZ
  rw [hm]
  have hk : ∀ k, k < xs.length → ((mts xs ys).getD k (mk n0 [])).root.name = (xs.getD k (mk n0 [])).root.name ∧ ((mts xs ys).getD k (mk n0 [])).root.kind ≠ 9 ∧ (xs.getD k (mk n0 [])).root.kind ≠ 9 := by
    intro k hk
    obtain ⟨e1, e2⟩ := mts_at hl hk h
    rw [e1]
    refine ⟨mt_name e2, ?_, t1 _ (kid_mem hk)⟩
    have hmem := kid_mem (xs := mts xs ys) (k := k) (by omega)
    rw [e1] at hmem
    rcases mts_mem hmem with g | g
    · exact t1 _ g
    · exact t2 _ g
  apply Bool.eq_iff_iff.2
  simp only [List.all_eq_true, List.mem_range]
  constructor
  · intro g k hk'
    obtain ⟨q1, q2, q3⟩ := hk k hk'
    rw [← labK_congr q2 q3 q1 (hk (k - 1) (by omega)).1]
    exact g k hk'
  · intro g k hk'
    obtain ⟨q1, q2, q3⟩ := hk k hk'
    rw [labK_congr q2 q3 q1 (hk (k - 1) (by omega)).1]
    exact g k hk'
mutual
theorem mt_lab : ∀ {x y : Rose Node}, wf ar x → wf ar y → ov false x y = true → NoTail (nds x) → NoTail (nds y) → labT x = true → labT y = true → labT (mt x y) = true
  | mk n ks, mk m qs, hx, hy, h, t1, t2, l1, l2 => by
    rw [mt]
    simp only [root, kids]
    cases hm : (m.kind == 0) with
    | true => exact l1
    | false =>
      simp only [cond_false]
      cases hn : (n.kind == 0) with
      | true => exact l2
      | false =>
        rw [ov_mk] at h
        simp only [root, kids, hn, hm, Bool.or_self, cond_false, Bool.and_eq_true, sameN_iff] at h ⊢
        obtain ⟨rfl, h⟩ := h
        have hl : ks.length = qs.length := by rw [hx.1, hy.1]
        rw [nds_mk] at t1 t2
        have s1 : NoTail (ndss ks) := fun p hp => t1 p (List.mem_cons_of_mem _ hp)
        have s2 : NoTail (ndss qs) := fun p hp => t2 p (List.mem_cons_of_mem _ hp)
        rw [labT, Bool.and_eq_true] at l1 l2 ⊢
        exact ⟨by rw [labZ_mts hl (mts_wf hx.2 hy.2 hl h).1 h s1 s2]; exact l1.1, mts_lab hx.2 hy.2 hl h s1 s2 l1.2 l2.2⟩
theorem mts_lab : ∀ {xs ys : List (Rose Node)}, wfs ar xs → wfs ar ys → xs.length = ys.length → ovs false xs ys = true → NoTail (ndss xs) → NoTail (ndss ys) → labTs xs = true → labTs ys = true → labTs (mts xs ys) = true
  | [], _, _, _, _, _, _, _, _, _ => by rw [mts, labTs]
  | _ :: _, [], _, _, hl, _, _, _, _, _ => by simp at hl
  | x :: xs, y :: ys, hx, hy, hl, h, t1, t2, l1, l2 => by
    rw [ovs] at h
    simp only [Bool.and_eq_true] at h
    rw [labTs, Bool.and_eq_true] at l1 l2
    rw [mts, labTs, Bool.and_eq_true]
    rw [ndss] at t1 t2
    exact ⟨mt_lab hx.1 hy.1 h.2.1 (fun p hp => t1 p (List.mem_append_left _ hp)) (fun p hp => t2 p (List.mem_append_left _ hp)) l1.1 l2.1,
      mts_lab hx.2 hy.2 (by simpa using hl) h.2.2 (fun p hp => t1 p (List.mem_append_right _ hp)) (fun p hp => t2 p (List.mem_append_right _ hp)) l1.2 l2.2⟩
end
theorem noTail_of_plain {t : List Node} (h : plain3 t = true) : NoTail t := by
  intro n hn h9
  have := List.all_eq_true.1 h n hn
  simp [h9] at this
theorem plain3_iff {t : List Node} : plain3 t = true ↔ ∀ n ∈ t, n.kind ≠ 8 ∧ n.kind ≠ 9 := by
  unfold plain3
  simp [List.all_eq_true]
theorem mt_rt {x y : Rose Node} (hx : RT x) (hy : RT y) (px : plain3 (nds x) = true) (py : plain3 (nds y) = true) (hl : (nds x).length + (nds y).length ≤ 10000) (h : ov false x y = true) : RT (mt x y) ∧ plain3 (nds (mt x y)) = true := by
  have hp : plain3 (nds (mt x y)) = true := by
    rw [plain3_iff] at px py ⊢
    intro n hn
    rcases mt_mem hn with g | g
    · exact px n g
    · exact py n g
  refine ⟨⟨mt_wf hx.wf hy.wf h, ?_, ?_, mt_lab hx.wf hy.wf h (noTail_of_plain px) (noTail_of_plain py) hx.lab hy.lab, ?_, ?_, ?_⟩, hp⟩
  · intro n hn
    rcases mt_mem hn with g | g
    · exact hx.numb n g
    · exact hy.numb n g
  · have := mt_depth x y
    have := hx.depth
    have := hy.depth
    omega
  · rw [mt_name (by rw [hx.name, hy.name]), hx.name]
  · exact noTail_of_plain hp _ (root_mem _)
  · have := mt_len x y
    omega

/-! ### three -/
mutual
theorem mt_self : ∀ x : Rose Node, mt x x = x
  | mk n ks => by
    rw [mt]
    simp only [root, kids]
    cases (n.kind == 0) with
    | true => rfl
    | false => simp only [cond_false]; rw [mts_self ks]
theorem mts_self : ∀ xs : List (Rose Node), mts xs xs = xs
  | [] => by rw [mts]
  | x :: xs => by rw [mts, mt_self x, mts_self xs]
end
theorem mt_dyn {x : Rose Node} {m : Node} (h : m.kind = 0) : mt x (mk m []) = x := by
  obtain ⟨n, ks⟩ := x
  rw [mt]
  simp [root, h]
theorem ov_dyn {b : Bool} {x : Rose Node} {m : Node} (h : m.kind = 0) : ov b x (mk m []) = true := by
  obtain ⟨n, ks⟩ := x
  rw [ov_mk]
  simp [root, h, askB]
mutual
theorem mt_assoc : ∀ {x y z : Rose Node}, ov false x y = true → ov false y z = true → ov false (mt x y) z = ov false x (mt y z) ∧ mt (mt x y) z = mt x (mt y z)
  | mk n ks, mk m qs, mk p rs, h1, h2 => by
    cases hm : (m.kind == 0) with
    | true =>
      have e1 : mt (mk n ks) (mk m qs) = mk n ks := by rw [mt]; simp only [root, hm, cond_true]
      rw [e1]
      cases hp : (p.kind == 0) with
      | true =>
        have e2 : mt (mk m qs) (mk p rs) = mk m qs := by rw [mt]; simp only [root, hp, cond_true]
        rw [e2, e1]
        refine ⟨?_, by rw [mt]; simp only [root, hp, cond_true]⟩
        rw [ov_mk, ov_mk]
        simp [root, hp, hm, askB]
      | false =>
        have e2 : mt (mk m qs) (mk p rs) = mk p rs := by rw [mt]; simp only [root, hp, hm, cond_true, cond_false]
        rw [e2]
        exact ⟨rfl, rfl⟩
    | false =>
      cases hn : (n.kind == 0) with
      | true =>
        have e1 : mt (mk n ks) (mk m qs) = mk m qs := by rw [mt]; simp only [root, hm, hn, cond_true, cond_false]
        have hk : ((mt (mk m qs) (mk p rs)).root.kind == 0) = false := by
          rw [mt]
          simp only [root, hm, cond_false]
          cases (p.kind == 0) with
          | true => simp only [cond_true]; exact hm
          | false => simp only [cond_false]; exact hm
        rw [e1, h2]
        refine ⟨?_, ?_⟩
        · rw [ov_mk, hn]; rfl
        · conv => rhs; rw [mt]
          rw [hk, hn]
          rfl
      | false =>
        rw [ov_mk] at h1
        simp only [root, kids, hn, hm, Bool.or_self, cond_false, Bool.and_eq_true, sameN_iff] at h1
        obtain ⟨rfl, h1⟩ := h1
        have e1 : mt (mk n ks) (mk n qs) = mk n (mts ks qs) := by rw [mt]; simp only [root, kids, hn, cond_false]
        rw [e1]
        cases hp : (p.kind == 0) with
        | true =>
          have e2 : mt (mk n qs) (mk p rs) = mk n qs := by rw [mt]; simp only [root, hp, cond_true]
          have e3 : mt (mk n (mts ks qs)) (mk p rs) = mk n (mts ks qs) := by rw [mt]; simp only [root, hp, cond_true]
          rw [e2, e3, e1]
          refine ⟨?_, rfl⟩
          rw [ov_mk, ov_mk]
          simp only [root, kids, hp, hn, Bool.or_true, Bool.or_self, cond_true, cond_false, askB, sameN_iff.2 rfl, h1]
          rfl
        | false =>
          have e2 : mt (mk n qs) (mk p rs) = mk n (mts qs rs) := by rw [mt]; simp only [root, kids, hn, hp, cond_false]
          have e3 : mt (mk n (mts ks qs)) (mk p rs) = mk n (mts (mts ks qs) rs) := by rw [mt]; simp only [root, kids, hn, hp, cond_false]
          have e4 : mt (mk n ks) (mk n (mts qs rs)) = mk n (mts ks (mts qs rs)) := by rw [mt]; simp only [root, kids, hn, cond_false]
          rw [ov_mk] at h2
          simp only [root, kids, hn, hp, Bool.or_self, cond_false, Bool.and_eq_true, sameN_iff] at h2
          obtain ⟨rfl, h2⟩ := h2
          obtain ⟨g1, g2⟩ := mts_assoc h1 h2
          rw [e2, e3, e4, g2]
          refine ⟨?_, rfl⟩
          rw [ov_mk, ov_mk]
          simp only [root, kids, hn, Bool.or_self, cond_false, g1]
theorem mts_assoc : ∀ {xs ys zs : List (Rose Node)}, ovs false xs ys = true → ovs false ys zs = true → ovs false (mts xs ys) zs = ovs false xs (mts ys zs) ∧ mts (mts xs ys) zs = mts xs (mts ys zs)
  | [], _, _, _, _ => by rw [mts, mts, mts, ovs, ovs]; exact ⟨rfl, rfl⟩
  | _ :: _, [], _, h, _ => by rw [ovs] at h; cases h
  | _ :: _, _ :: _, [], _, h => by rw [ovs] at h; cases h
  | x :: xs, y :: ys, z :: zs, h1, h2 => by
    rw [ovs] at h1 h2
    simp only [Bool.and_eq_true, beq_iff_eq] at h1 h2
    obtain ⟨g1, g2⟩ := mt_assoc h1.2.1 h2.2.1
    obtain ⟨g3, g4⟩ := mts_assoc h1.2.2 h2.2.2
    rw [mts, mts, mts, mts, ovs, ovs, g1, g2, g3, g4, mt_name h1.1, mt_name h2.1, h1.1, h2.1]
    exact ⟨rfl, rfl⟩
end

end Go.Am.Ty
