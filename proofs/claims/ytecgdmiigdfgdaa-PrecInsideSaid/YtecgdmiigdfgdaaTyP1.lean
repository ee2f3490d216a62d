/-
  Plain laws of right types: a right type is told by one tree, not too deep, whose children bear their labels.
-/
import Derived.Test.YtecgdmiigdfgdaaTyT7
set_option linter.unusedSimpArgs false
set_option linter.unusedVariables false
set_option maxHeartbeats 1000000
namespace Go.Am.Ty
open Go.Proofs Go.Rose Go.Rose.Rose

/-- All nodes' numbers are such as they may be. -/
def Numb (l : List Node) : Prop := ∀ n ∈ l, numb3 n = true
theorem many_ar {n : Node} (h : numb3 n = true) : many3 n = (ar n : Int) := (ar_many3 (numb3_tame h).1).symm
theorem eat_eatN : ∀ {l : List Node} {o k : Nat}, Numb l → 1 ≤ o → eatN ar l o = some k → eat l o = k
  | [], o + 1, k, _, _, h => by simp [eatN] at h
  | n :: l, o + 1, k, hn, _, h => by
    rw [eatN, Option.map_eq_some_iff] at h
    obtain ⟨k', h1, rfl⟩ := h
    have hm := many_ar (hn n (by simp))
    have e : ((o + 1 : Nat) : Int) - 1 + many3 n = ((o + ar n : Nat) : Int) := by rw [hm]; omega
    rw [eat, e]
    by_cases hz : o + ar n = 0
    · rw [if_pos (by omega)]
      rw [hz] at h1
      cases l <;> (simp only [eatN, Option.some.injEq] at h1; omega)
    · rw [if_neg (by omega), eat_eatN (fun m hm => hn m (List.mem_cons_of_mem _ hm)) (by omega) h1]
      omega
theorem numb_drop {l : List Node} {i : Nat} (h : Numb l) : Numb (l.drop i) := fun n hn => h n (List.mem_of_mem_drop hn)
theorem eat_at {t : List Node} {i : Nat} {x : Rose Node} (hn : Numb t) (h : At ar t i x) : eat (t.drop i) 1 = (nds x).length := eat_eatN (o := 1) (numb_drop hn) (Nat.le_refl _) (at_eatN h)
theorem end3_at {t : List Node} {i : Nat} {x : Rose Node} (hn : Numb t) (h : At ar t i x) : end3 t i = ((i + (nds x).length : Nat) : Int) := by
  unfold end3
  have := h.lt
  rw [if_neg (by omega), Int.toNat_natCast, eat_at hn h]
  simp
theorem kidsFrom_ats {t : List Node} (hn : Numb t) : ∀ {ks : List (Rose Node)} {q : Nat}, Ats ar t q ks → kidsFrom t ks.length q = kidPos q ks
  | [], _, _ => rfl
  | x :: ks, q, h => by
    have hx := h.head
    rw [List.length_cons, kidsFrom, if_pos hx.1.lt, eat_at hn hx.1, kidPos, kidsFrom_ats hn hx.2]
theorem kids3_at {t : List Node} {i : Nat} {x : Rose Node} (hn : Numb t) (h : At ar t i x) : kids3 t i = kidPos (i + 1) x.kids := by
  unfold kids3
  have hl := h.lt
  have hk := h.kids
  have hm := many_ar (hn (t.getD i n0) (by simp [hl]))
  rw [if_neg (by omega)]
  simp only [Int.toNat_natCast]
  rw [show (⟨0, [], 0⟩ : Node) = n0 from rfl, hm, h.root n0, Int.toNat_natCast, ← hk.2, kidsFrom_ats hn hk.1]
/-- Where all children are there a tree stands. -/
theorem ats_of_kids {t : List Node} (hn : Numb t) : ∀ {m q : Nat}, (kidsFrom t m q).length = m → (∀ j, q ≤ j → j < t.length → ∃ z, At ar t j z) → q ≤ t.length → ∃ ks : List (Rose Node), ks.length = m ∧ Ats ar t q ks
  | 0, q, _, _, hq => ⟨[], rfl, trivial, t.drop q, by simp [ndss]⟩
  | m + 1, q, h, hz, hq => by
    rw [kidsFrom] at h
    by_cases hlt : q < t.length
    · rw [if_pos hlt] at h
      obtain ⟨x, hx⟩ := hz q (Nat.le_refl _) hlt
      rw [eat_at hn hx] at h
      obtain ⟨ks, h1, h2, r, h3⟩ := ats_of_kids hn (m := m) (q := q + (nds x).length) (by simpa using h) (fun j hj => hz j (by omega)) hx.le
      obtain ⟨h4, r', h5⟩ := hx
      refine ⟨x :: ks, by simp [h1], ⟨h4, h2⟩, r, ?_⟩
      rw [← List.drop_drop, h5, List.drop_left'] at h3
      · rw [h5, h3, ndss, List.append_assoc]
      · rfl
    · rw [if_neg hlt] at h
      simp at h
theorem trees_of_labs {t : List Node} (hn : Numb t) (h : ∀ i, i < t.length → ((kids3 t i).length : Int) = many3 (t.getD i n0)) : ∀ (m i : Nat), t.length - i ≤ m → i < t.length → ∃ z, At ar t i z
  | 0, i, hm, hi => by omega
  | m + 1, i, hm, hi => by
    have h1 := h i hi
    have hmn := many_ar (hn (t.getD i n0) (by simp [hi]))
    unfold kids3 at h1
    rw [if_neg (by omega)] at h1
    simp only [Int.toNat_natCast] at h1
    rw [show (⟨0, [], 0⟩ : Node) = n0 from rfl, hmn, Int.toNat_natCast] at h1
    obtain ⟨ks, k1, k2, r, k3⟩ := ats_of_kids hn (m := ar (t.getD i n0)) (q := i + 1) (by omega) (fun j hj hjl => trees_of_labs hn h m j (by omega) hjl) (by omega)
    refine ⟨mk (t.getD i n0) ks, ⟨k1, k2⟩, r, ?_⟩
    rw [List.drop_eq_getElem_cons hi, k3, nds_mk]
    simp [hi]

/-! ### how deep -/
def deepOk (r d : Nat) : Bool := decide (r + d ≤ 100)
theorem deep_t {r d : Nat} (h : r + d ≤ 100) : deepOk r d = true := decide_eq_true h
theorem deep_f {r d : Nat} (h : ¬ r + d ≤ 100) : deepOk r d = false := decide_eq_false h
theorem deep_eq {r d r' d' : Nat} (h : r + d = r' + d') : deepOk r d = deepOk r' d' := by unfold deepOk; rw [h]
mutual
theorem shal_tree : ∀ (x : Rose Node) (l : List Node) (rs : List Int), wf ar x → Numb (nds x) → shal (nds x ++ l) rs = (deepOk rs.length (depth x) && shal l (popA 0 rs))
  | mk n ks, l, rs, hw, hn => by
    have hm := many_ar (hn n (by simp [nds]))
    rw [nds_mk, List.cons_append, shal, hm, ← hw.1]
    cases ks with
    | nil =>
      have hd : depth (mk n []) = 1 := by simp [depth, depths]
      rw [hd]
      simp only [ndss, List.nil_append, List.length_nil]
      by_cases h : 100 ≤ rs.length
      · rw [if_pos h, deep_f (by omega)]; rfl
      · rw [if_neg h, deep_t (by omega)]; rfl
    | cons y ys =>
      have hd : depth (mk n (y :: ys)) = 1 + depths (y :: ys) := by rw [depth]
      rw [hd, popA_stop (by simp only [List.length_cons]; omega), shal_forest (y :: ys) l rs (by simp) hw.2 (fun m hm => hn m (by rw [nds_mk]; exact List.mem_cons_of_mem _ hm))]
      by_cases h : 100 ≤ rs.length
      · rw [if_pos h, deep_f (by omega)]; rfl
      · rw [if_neg h]
theorem shal_forest : ∀ (xs : List (Rose Node)) (l : List Node) (rs : List Int), xs ≠ [] → wfs ar xs → Numb (ndss xs) → shal (ndss xs ++ l) ((xs.length : Int) :: rs) = (deepOk rs.length (1 + depths xs) && shal l (popA 0 rs))
  | [], _, _, h, _, _ => absurd rfl h
  | x :: ts, l, rs, _, hw, hn => by
    have h0 := shal_tree x
    cases ts with
    | nil =>
      simp only [ndss, List.append_nil] at hn ⊢
      have hd : depths [x] = depth x := by simp [depths]
      rw [h0 l _ hw.1 hn, hd]
      simp only [List.length_cons, List.length_nil]
      rw [deep_eq (r := rs.length + 1) (d := depth x) (r' := rs.length) (d' := 1 + depth x) (by omega)]
      rfl
    | cons y ts =>
      have h2 := shal_forest (y :: ts) l rs (by simp) hw.2 (fun m hm => hn m (by rw [ndss]; exact List.mem_append_right _ hm))
      rw [ndss, List.append_assoc, h0 _ _ hw.1 (fun m hm => hn m (by rw [ndss]; exact List.mem_append_left _ hm))]
      have e : popA 0 ((((x :: y :: ts).length : Nat) : Int) :: rs) = (((y :: ts).length : Nat) : Int) :: rs := by
        rw [popA, if_pos rfl, show (((x :: y :: ts).length : Nat) : Int) - 1 = (((y :: ts).length : Nat) : Int) by simp only [List.length_cons]; omega, popA_stop (by simp only [List.length_cons]; omega)]
      have hd : depths (x :: y :: ts) = max (depth x) (depths (y :: ts)) := by rw [depths]
      rw [e, h2, hd]
      simp only [List.length_cons]
      by_cases h1 : rs.length + 1 + depth x ≤ 100
      · rw [deep_t h1, Bool.true_and]
        by_cases h2 : rs.length + (1 + depths (y :: ts)) ≤ 100
        · rw [deep_t h2, deep_t (r := rs.length) (d := 1 + max (depth x) (depths (y :: ts))) (by omega)]
        · rw [deep_f h2, deep_f (r := rs.length) (d := 1 + max (depth x) (depths (y :: ts))) (by omega)]
      · rw [deep_f h1, deep_f (r := rs.length) (d := 1 + max (depth x) (depths (y :: ts))) (by omega)]
        rfl
end
theorem shallow3_tree {x : Rose Node} (hw : wf ar x) (hn : Numb (nds x)) : shallow3 (nds x) = deepOk 0 (depth x) := by
  have := shal_tree x [] [] hw hn
  simp only [List.append_nil, List.length_nil] at this
  unfold shallow3
  rw [this, shal]
  simp

/-! ### labels -/
/-- Do the children of a node bear the labels that they should? -/
def labZ (n : Node) (ks : List (Rose Node)) : Bool := (List.range ks.length).all fun k => labK n (ks.getD k (mk n0 [])).root (ks.getD (k - 1) (mk n0 [])).root (ltB 0 k) ((k : Int) == (ks.length : Int) - 1)
mutual
def labT : Rose Node → Bool
  | mk n ks => labZ n ks && labTs ks
def labTs : List (Rose Node) → Bool
  | [] => true
  | x :: xs => labT x && labTs xs
end
theorem lab3_at {t : List Node} {i : Nat} {x : Rose Node} (hn : Numb t) (h : At ar t i x) : lab3 t i = labZ x.root x.kids := by
  have hk := h.kids
  have hl := h.lt
  have hm := many_ar (hn (t.getD i n0) (by simp [hl]))
  have hr := h.root n0
  unfold lab3
  rw [kids3_at hn h, kidPos_len, hr]
  rw [hr] at hm
  rw [hm, hk.2]
  rw [show ((ar x.root : Int) == (ar x.root : Int)) = true by simp, Bool.true_and]
  unfold labZ
  rw [hk.2]
  apply Bool.eq_iff_iff.2
  simp only [List.all_eq_true, List.mem_range]
  have key : ∀ k, k < x.kids.length → kidAt t (kidPos (i + 1) x.kids) k = (x.kids.getD k (mk n0 [])).root := by
    intro k hk'
    unfold kidAt
    rw [kidPos_at _ _ k hk', Int.toNat_natCast]
    have := (ats_at hk.1 hk').root n0
    rw [this]
    simp [hk']
  have e : ∀ k, k < ar x.root → labAt t i (kidPos (i + 1) x.kids) k = labK x.root (x.kids.getD k (mk n0 [])).root (x.kids.getD (k - 1) (mk n0 [])).root (ltB 0 k) ((k : Int) == (ar x.root : Int) - 1) := by
    intro k hk'
    unfold labAt
    rw [hr, key k (by omega), key (k - 1) (by omega), kidPos_len, hk.2]
  constructor
  · intro g k hk'
    rw [← e k hk']; exact g k hk'
  · intro g k hk'
    rw [e k hk']; exact g k hk'
mutual
theorem labT_at {t : List Node} (hn : Numb t) : ∀ {x : Rose Node} {i : Nat}, At ar t i x → (labT x = true ↔ ∀ j, i ≤ j → j < i + (nds x).length → lab3 t j = true)
  | mk n ks, i, h => by
    have h1 := lab3_at hn h
    have hk : Ats ar t (i + 1) ks := h.kids.1
    rw [labT, Bool.and_eq_true, labTs_at hn hk, nds_mk, List.length_cons]
    simp only [root, kids] at h1 ⊢
    constructor
    · rintro ⟨g1, g2⟩ j hj1 hj2
      by_cases hji : j = i
      · subst hji; rw [h1]; exact g1
      · exact g2 j (by omega) (by omega)
    · intro g
      exact ⟨by rw [← h1]; exact g i (Nat.le_refl _) (by omega), fun j hj1 hj2 => g j (by omega) (by omega)⟩
theorem labTs_at {t : List Node} (hn : Numb t) : ∀ {xs : List (Rose Node)} {i : Nat}, Ats ar t i xs → (labTs xs = true ↔ ∀ j, i ≤ j → j < i + (ndss xs).length → lab3 t j = true)
  | [], i, _ => by simp only [labTs, ndss, List.length_nil, true_iff]; intro j h1 h2; omega
  | x :: xs, i, h => by
    rw [labTs, Bool.and_eq_true, labT_at hn h.head.1, labTs_at hn h.head.2]
    simp only [ndss, List.length_append]
    constructor
    · rintro ⟨g1, g2⟩ j hj1 hj2
      rcases Nat.lt_or_ge j (i + (nds x).length) with hlt | hge
      · exact g1 j hj1 hlt
      · exact g2 j hge (by omega)
    · intro g
      exact ⟨fun j hj1 hj2 => g j hj1 (by omega), fun j hj1 hj2 => g j (by omega) (by omega)⟩
end

/-! ### right types -/
structure RT (x : Rose Node) : Prop where
  wf : wf ar x
  numb : Numb (nds x)
  depth : depth x ≤ 100
  lab : labT x = true
  name : x.root.name = []
  kind : x.root.kind ≠ 9
  len : (nds x).length ≤ 10000
theorem right3_rt {x : Rose Node} (h : RT x) : right3 (nds x) = true := by
  have ha := at_whole h.wf
  have hp := nds_pos x
  have hr := ha.root n0
  unfold right3
  have h1 : headBad (nds x) = false := by
    unfold headBad
    rw [hr, h.name]
    have e1 : ((nds x).length == 0) = false := by rw [beq_eq_false_iff_ne]; omega
    have e2 : ltB 10000 ((nds x).length : Int) = false := by rw [ltB_false]; have := h.len; omega
    have e3 : (x.root.kind == 9) = false := by rw [beq_eq_false_iff_ne]; exact h.kind
    rw [e1, e2, e3]
    rfl
  have h2 : (nds x).all numb3 = true := List.all_eq_true.2 h.numb
  have h3 : end3 (nds x) 0 = ((nds x).length : Int) := by have := end3_at h.numb ha; simpa using this
  have h4 : shallow3 (nds x) = true := by rw [shallow3_tree h.wf h.numb]; exact deep_t (by have := h.depth; omega)
  have h5 : ((List.range (nds x).length).all fun i => lab3 (nds x) i) = true := range_all_lt fun j hj => (labT_at h.numb ha).1 h.lab j (Nat.zero_le _) (by omega)
  rw [h1, h2, h3, h4, h5]
  simp
theorem rt_of_right3 {t : List Node} (h : right3 t = true) : ∃ x, t = nds x ∧ RT x := by
  unfold right3 at h
  simp only [Bool.and_eq_true, Bool.not_eq_true', beq_iff_eq] at h
  obtain ⟨h1, h2, ⟨h3, h4⟩, h5⟩ := h
  unfold headBad at h1
  simp only [Bool.or_eq_false_iff, beq_eq_false_iff_ne, Bool.not_eq_false', beq_iff_eq, ltB_false] at h1
  obtain ⟨⟨⟨g1, g2⟩, g3⟩, g4⟩ := h1
  have hn : Numb t := List.all_eq_true.1 h2
  have hl : ∀ i, i < t.length → lab3 t i = true := fun i hi => List.all_eq_true.1 h5 i (List.mem_range.2 hi)
  have hk : ∀ i, i < t.length → ((kids3 t i).length : Int) = many3 (t.getD i n0) := by
    intro i hi
    have := hl i hi
    unfold lab3 at this
    rw [Bool.and_eq_true, beq_iff_eq] at this
    exact this.1
  obtain ⟨x, hx⟩ := trees_of_labs hn hk t.length 0 (by omega) (by omega)
  have he := end3_at hn hx
  have he' : end3 t 0 = ((0 + (nds x).length : Nat) : Int) := he
  rw [h3] at he'
  obtain ⟨hw, r, hr⟩ := id hx
  have htx : t = nds x := by
    rw [List.drop_zero] at hr
    have := congrArg List.length hr
    rw [List.length_append] at this
    have hr0 : r = [] := List.length_eq_zero_iff.1 (by omega)
    rw [hr, hr0, List.append_nil]
  have hroot := hx.root n0
  subst htx
  refine ⟨x, rfl, ⟨hw, hn, ?_, (labT_at hn hx).2 fun j _ hj => hl j (by omega), by rw [← hroot]; exact g3, by rw [← hroot]; exact g4, by omega⟩⟩
  rw [shallow3_tree hw hn] at h4
  have := of_decide_eq_true h4
  omega

end Go.Am.Ty
