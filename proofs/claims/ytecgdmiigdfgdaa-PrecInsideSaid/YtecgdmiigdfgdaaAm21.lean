/-
  The abstract machine, part 21: a law's arguments, read as data; a law that holds by its contract.
-/
import Derived.Test.YtecgdmiigdfgdaaAm20
import Derived.ProofKit
import Derived.OpenShut
import Derived.JoinedCond
import Derived.JoinedOf
import Derived.Carry
import Derived.Deep.Slices
namespace Go.Am
open Go.RowKit (Below)

/-- All that stands in memory, taken as it stands. -/
def fixOf (W : World) : Fix := ⟨W, fun b => match W.heap[b]? with
  | some (.cells cs _ _) => cs.size
  | _ => 0⟩
theorem fixOf_new (W : World) (b : Nat) (h : W.heap.size ≤ b) : (fixOf W).m b = 0 := by
  unfold fixOf
  simp only
  rw [Array.getElem?_eq_none h]
theorem fixOf_cell {W : World} {b off : Nat} {u : Value} (h : W.cell? ⟨b, off, none⟩ = some u) : off + 1 ≤ (fixOf W).m b := by
  unfold fixOf
  unfold World.cell? at h
  simp only at h ⊢
  split at h
  · next c _ _ he =>
    simp only [he]
    simp only [Option.isSome_none, Bool.false_eq_true, if_false] at h
    have := (Array.getElem?_eq_some_iff.1 h).1
    omega
  · cases h

def Value.noAgg : Value → Bool
  | .agg _ => false
  | _ => true
theorem cells_noAgg {v : Value} (h : Value.noAgg v = true) : v.cells = #[v] := by
  cases v <;> first | rfl | simp [Value.noAgg] at h

/-- What is read at a type is a datum such. -/
def RdP (P : Program) (t s : Nat) (ag : Bool) (p : D → Prop) : Prop :=
  ∀ (H : Type) (enc : TypeId × Value → H) (W : World) (base fuel : Nat) (cs : List Value) (d : DataW H) (ps : List MemPlace), DataW.trod enc P W base (fun _ => true) true fuel t cs = some (d, ps) →
    ∃ x v, p x ∧ (ag = true → v = .agg cs.toArray) ∧ (ag = false → cs = [v] ∧ Value.noAgg v = true) ∧ cs.length = s ∧ (∀ u ∈ cs, u.oneCell' = true) ∧ R (fixOf W) x v

theorem RdP.mono {P : Program} {t s : Nat} {ag : Bool} {p q : D → Prop} (h : RdP P t s ag p) (hpq : ∀ x, p x → q x) : RdP P t s ag q := by
  intro H enc W base fuel cs d ps ht
  obtain ⟨x, v, h1, h2⟩ := h _ enc W base fuel cs d ps ht
  exact ⟨x, v, hpq x h1, h2⟩

theorem trod_int {P : Program} {t fuel : Nat} {k : IntKind} {H : Type} {enc : TypeId × Value → H} {W : World} {base : Nat} {cs : List Value} {x : DataW H × List MemPlace} (ht : P.underlying t = some (.int k))
    (h : DataW.trod enc P W base (fun _ => true) true fuel t cs = some x) : ∃ n, cs = [.int k n] ∧ (Lit.int k n).wf = true := by
  cases fuel with
  | zero => simp [DataW.trod] at h
  | succ fuel =>
    unfold DataW.trod at h
    simp only [ht] at h
    split at h <;> first | (exfalso; simp_all; done) | skip
    all_goals rename_i e
    all_goals injection e with e
    all_goals injection e with e
    all_goals subst e
    all_goals split at h
    all_goals first | (next hk => exact ⟨_, by rw [hk.1], hk.2⟩) | cases h
theorem trod_bool {P : Program} {t fuel : Nat} {H : Type} {enc : TypeId × Value → H} {W : World} {base : Nat} {cs : List Value} {x : DataW H × List MemPlace} (ht : P.underlying t = some .bool)
    (h : DataW.trod enc P W base (fun _ => true) true fuel t cs = some x) : ∃ n, cs = [.bool n] := by
  cases fuel with
  | zero => simp [DataW.trod] at h
  | succ fuel =>
    unfold DataW.trod at h
    simp only [ht] at h
    split at h <;> first | (exfalso; simp_all; done) | skip
    all_goals exact ⟨_, rfl⟩
theorem trod_str {P : Program} {t fuel : Nat} {H : Type} {enc : TypeId × Value → H} {W : World} {base : Nat} {cs : List Value} {x : DataW H × List MemPlace} (ht : P.underlying t = some .string)
    (h : DataW.trod enc P W base (fun _ => true) true fuel t cs = some x) : ∃ s : ByteArray, cs = [.string s] ∧ s.size ≤ maxLen := by
  cases fuel with
  | zero => simp [DataW.trod] at h
  | succ fuel =>
    unfold DataW.trod at h
    simp only [ht] at h
    split at h <;> first | (exfalso; simp_all; done) | skip
    all_goals split at h
    all_goals first | (next hk => exact ⟨_, rfl, hk⟩) | cases h

theorem rd_int {P : Program} {t : Nat} {k : IntKind} (ht : P.underlying t = some (.int k)) : RdP P t 1 false (fun x => ∃ n, x = .int k n ∧ (Lit.int k n).wf = true) := by
  intro H enc W base fuel cs d ps h
  obtain ⟨n, rfl, hw⟩ := trod_int ht h
  exact ⟨.int k n, .int k n, ⟨n, rfl, hw⟩, by simp, fun _ => ⟨rfl, rfl⟩, rfl, by simp [Value.oneCell'], by simp [R]⟩
theorem rd_bool {P : Program} {t : Nat} (ht : P.underlying t = some .bool) : RdP P t 1 false (fun x => ∃ n, x = .bool n) := by
  intro H enc W base fuel cs d ps h
  obtain ⟨n, rfl⟩ := trod_bool ht h
  exact ⟨.bool n, .bool n, ⟨n, rfl⟩, by simp, fun _ => ⟨rfl, rfl⟩, rfl, by simp [Value.oneCell'], by simp [R]⟩
theorem rd_str {P : Program} {t : Nat} (ht : P.underlying t = some .string) : RdP P t 1 false (fun x => ∃ s, x = .str s ∧ s.length ≤ maxLen) := by
  intro H enc W base fuel cs d ps h
  obtain ⟨s, rfl, hw⟩ := trod_str ht h
  have e : s.data.toList.length = s.size := by rw [Array.length_toList]; rfl
  exact ⟨.str s.data.toList, .string s, ⟨_, rfl, by omega⟩, by simp, fun _ => ⟨rfl, rfl⟩, rfl, by simp [Value.oneCell'], by simp [R]⟩
theorem rd_slice {P : Program} {t e s : Nat} {ag : Bool} {p : D → Prop} (ht : P.underlying t = some (.slice e)) (hs : P.cellsOf e = s) (hpos : 0 < s) (he : RdP P e s ag p) :
    RdP P t 1 false (fun x => ∃ l, x = .list s l ∧ l.length ≤ maxLen ∧ ∀ y ∈ l, p y) := by
  intro H enc W base fuel cs d ps h
  rcases Go.Deep.open_slice ht h with ⟨rfl, hx⟩ | ⟨a, len, cap, m, n, D', Pl, rfl, hb, hl, hm, hmm, hx, hel⟩
  · refine ⟨.list s [], .slice none 0 0, ⟨[], rfl, by simp [maxLen], by simp⟩, by simp, fun _ => ⟨rfl, rfl⟩, rfl, by simp [Value.oneCell'], ?_⟩
    simp only [R]
    exact ⟨none, 0, rfl, by simp, by simp [maxLen], by simp⟩
  · rw [hs] at hel
    have hm' : len ≤ m := by rw [hmm]; simp only [if_true]; exact hl
    have key : ∀ k, k ≤ len → ∃ (xs : List D) (vs : List Value), xs.length = k ∧ (∀ y ∈ xs, p y) ∧ RE (fixOf W) s xs vs ∧ ∀ j, j < k * s → W.cell? ⟨a.block, a.off + j, none⟩ = vs[j]? := by
      intro k
      induction k with
      | zero => intro _; exact ⟨[], [], rfl, by simp, by simp [RE], by simp⟩
      | succ k ih =>
        intro hk
        obtain ⟨xs, vs, h1, h2, h3, h4⟩ := ih (by omega)
        obtain ⟨cs', g1, g2⟩ := hel k (by omega)
        obtain ⟨x, v, q1, q2, q3, q4, q5, q6⟩ := he _ enc W base n cs' _ _ g2
        obtain ⟨_, g4, g5⟩ := World.cells?_some g1
        have hvc : v.cells.toList = cs' := by
          cases ag with
          | true => rw [q2 rfl]; rfl
          | false =>
            obtain ⟨q3a, q3b⟩ := q3 rfl
            rw [cells_noAgg q3b, q3a]
        refine ⟨xs ++ [x], vs ++ cs', by simp [h1], ?_, ?_, ?_⟩
        · intro y hy
          rcases List.mem_append.1 hy with hy | hy
          · exact h2 y hy
          · rw [List.mem_singleton] at hy; subst hy; exact q1
        · rw [← hvc]
          refine RE.append h3 (RE.one q6 ?_ ?_)
          · rw [← Array.length_toList, hvc]; exact q4
          · rw [hvc]; exact q5
        · intro j hj
          have hvl : vs.length = k * s := by rw [RE.length h3, h1]
          rcases Nat.lt_or_ge j (k * s) with hlt | hge
          · rw [h4 j hlt, List.getElem?_append_left (by omega)]
          · rw [List.getElem?_append_right (by omega), hvl]
            have hjs : j - k * s < s := by
              rw [Nat.add_mul] at hj
              omega
            rw [← g5 (j - k * s) hjs]
            congr 1
            unfold Addr.add
            by_cases hk0 : k * s = 0
            · rw [if_pos hk0]
              by_cases hj0 : j - k * s = 0
              · rw [if_pos hj0]
                have hsp : a.spot = none := by
                  have h0 := g5 0 hpos
                  have hne : cs'[0]? = some cs'[0] := by simp
                  rw [hne] at h0
                  unfold Addr.add at h0
                  rw [if_pos rfl] at h0
                  simp only [hk0, if_true] at h0
                  unfold World.cell? at h0
                  split at h0
                  · cases hh : a.spot with
                    | none => rfl
                    | some z => simp [hh] at h0
                  · cases h0
                have : j = 0 := by omega
                subst this
                rw [← hsp]
                rfl
              · rw [if_neg hj0]
                simp only [Addr.mk.injEq, true_and, and_true]
                omega
            · rw [if_neg hk0]
              by_cases hj0 : j - k * s = 0
              · rw [if_pos hj0]
                simp only [Addr.mk.injEq, true_and, and_true]
                omega
              · rw [if_neg hj0]
                simp only [Addr.mk.injEq, true_and, and_true]
                omega
    obtain ⟨xs, vs, h1, h2, h3, h4⟩ := key len (Nat.le_refl _)
    refine ⟨.list s xs, .slice (some a) len cap, ⟨xs, rfl, by omega, h2⟩, by simp, fun _ => ⟨rfl, rfl⟩, rfl, by simp [Value.oneCell'], ?_⟩
    simp only [R]
    refine ⟨some a, cap, by rw [h1], by omega, hm, fun hne => ?_⟩
    have hlen : 0 < len := by
      rw [← h1]
      exact List.length_pos_iff.2 hne
    have hvl : vs.length = len * s := by rw [RE.length h3, h1]
    have hsp : a.spot = none := by
      obtain ⟨cs', g1, _⟩ := hel 0 (by omega)
      obtain ⟨_, g4, g5⟩ := World.cells?_some g1
      have h0 := g5 0 hpos
      have hne : cs'[0]? = some cs'[0] := by simp
      rw [hne] at h0
      unfold Addr.add at h0
      simp only [Nat.zero_mul, if_true] at h0
      unfold World.cell? at h0
      split at h0
      · cases hh : a.spot with
        | none => rfl
        | some z => simp [hh] at h0
      · cases h0
    refine ⟨a.block, a.off, vs, by cases a; simp at hsp; subst hsp; rfl, h3, ?_, fun j u hj => ?_⟩
    · have hpos2 : 0 < len * s := Nat.mul_pos hlen hpos
      have hlast := h4 (len * s - 1) (by omega)
      have hl2 : len * s - 1 < vs.length := by omega
      rw [List.getElem?_eq_getElem hl2] at hlast
      have := fixOf_cell hlast
      omega
    · have hjl := (List.getElem?_eq_some_iff.1 hj).1
      have := h4 j (by omega)
      rw [hj] at this
      exact this

/-! ### structs, arrays: of parts of one cell each -/
def All2 : List (D → Prop) → List D → Prop
  | [], [] => True
  | p :: ps, x :: xs => p x ∧ All2 ps xs
  | _, _ => False
/-- The parts, one behind the other. -/
def RdFs (P : Program) : Nat → List Field → List (D → Prop) → Prop
  | _, [], [] => True
  | k, f :: fs, p :: ps => f.offset = k ∧ P.cellsOf f.type = 1 ∧ RdP P f.type 1 false p ∧ RdFs P (k + 1) fs ps
  | _, _, _ => False
theorem rd_fields {P : Program} {H : Type} {enc : TypeId × Value → H} {W : World} {base fuel : Nat} {cs : List Value} : ∀ {fs : List Field} {k : Nat} {ps : List (D → Prop)} {xs : List (DataW H × List MemPlace)}, RdFs P k fs ps → k + fs.length ≤ cs.length →
    (fs.mapM fun f => DataW.trod enc P W base (fun _ => true) true fuel f.type ((cs.drop f.offset).take (P.cellsOf f.type))) = some xs →
    ∃ ds, All2 ps ds ∧ Rs (fixOf W) ds ((cs.drop k).take fs.length) ∧ ∀ u ∈ (cs.drop k).take fs.length, u.oneCell' = true
  | [], k, [], xs, _, _, _ => ⟨[], by simp [All2], by simp [Rs], by simp⟩
  | [], _, _ :: _, _, h, _, _ => h.elim
  | _ :: _, _, [], _, h, _, _ => h.elim
  | f :: fs, k, p :: ps, xs, h, hl, hm => by
    obtain ⟨h1, h2, h3, h4⟩ := h
    simp only [List.mapM_cons, Option.bind_eq_bind, Option.bind_eq_some_iff] at hm
    obtain ⟨y, hy, ys, hys, _⟩ := hm
    simp only [List.length_cons] at hl
    obtain ⟨ds, g1, g2, g3⟩ := rd_fields h4 (by omega) hys
    rw [h1, h2] at hy
    obtain ⟨d, q⟩ := y
    obtain ⟨x, v, q1, _, q3, q4, q5, q6⟩ := h3 _ enc W base fuel _ _ _ hy
    obtain ⟨q3a, q3b⟩ := q3 rfl
    have e : (cs.drop k).take (fs.length + 1) = v :: (cs.drop (k + 1)).take fs.length := by
      have hk : k < cs.length := by omega
      rw [List.drop_eq_getElem_cons hk] at q3a ⊢
      simp only [List.take_succ_cons, List.take_zero, List.cons.injEq] at q3a ⊢
      exact ⟨q3a.1, trivial⟩
    rw [List.length_cons, e]
    refine ⟨x :: ds, ⟨q1, g1⟩, ?_, ?_⟩
    · simp only [Rs]
      exact ⟨v, _, rfl, q6, g2⟩
    · intro u hu
      rcases List.mem_cons.1 hu with rfl | hu
      · exact q5 u (by rw [q3a]; simp)
      · exact g3 u hu
theorem rd_struct {P : Program} {t s : Nat} {fs : Array Field} {ps : List (D → Prop)} (ht : P.underlying t = some (.struct fs)) (hs : P.cellsOf t = s) (hl : fs.toList.length = s) (hf : RdFs P 0 fs.toList ps) :
    RdP P t s true (fun x => ∃ ds, x = .agg ds ∧ All2 ps ds) := by
  intro H enc W base fuel cs d qs h
  cases fuel with
  | zero => simp [DataW.trod] at h
  | succ fuel =>
    unfold DataW.trod at h
    simp only [ht] at h
    rw [hs] at h
    by_cases hc : cs.length = s
    · rw [if_pos hc] at h
      rw [Option.map_eq_some_iff] at h
      obtain ⟨xs, hx, _⟩ := h
      obtain ⟨ds, g1, g2, g3⟩ := rd_fields (cs := cs) hf (by omega) hx
      rw [List.drop_zero, hl, ← hc, List.take_length] at g2 g3
      refine ⟨.agg ds, .agg cs.toArray, ⟨ds, rfl, g1⟩, fun _ => rfl, by simp, hc, g3, ?_⟩
      simp only [R]
      exact ⟨cs, rfl, g2, g3⟩
    · rw [if_neg hc] at h
      cases h
theorem rd_items {P : Program} {H : Type} {enc : TypeId × Value → H} {W : World} {base fuel e : Nat} {cs : List Value} {p : D → Prop} (he : RdP P e 1 false p) : ∀ {l : List Nat} {k n : Nat} {xs : List (DataW H × List MemPlace)}, l = (List.range n).map (k + ·) → k + n ≤ cs.length →
    (l.mapM fun i => DataW.trod enc P W base (fun _ => true) true fuel e ((cs.drop (i * 1)).take 1)) = some xs →
    ∃ ds, ds.length = n ∧ (∀ y ∈ ds, p y) ∧ Rs (fixOf W) ds ((cs.drop k).take n) ∧ ∀ u ∈ (cs.drop k).take n, u.oneCell' = true
  | l, k, 0, xs, _, _, _ => ⟨[], by simp, by simp, by simp [Rs], by simp⟩
  | l, k, n + 1, xs, hl, hc, hm => by
    rw [List.range_succ_eq_map, List.map_cons, List.map_map] at hl
    subst hl
    simp only [List.mapM_cons, Option.bind_eq_bind, Option.bind_eq_some_iff, Nat.add_zero, Nat.mul_one] at hm
    obtain ⟨y, hy, ys, hys, _⟩ := hm
    obtain ⟨ds, g0, g1, g2, g3⟩ := rd_items (cs := cs) he (l := (List.range n).map (k + 1 + ·)) (k := k + 1) (n := n) rfl (by omega) (by
      rw [← hys]
      simp only [Nat.mul_one]
      congr 1
      refine List.map_congr_left fun i _ => ?_
      simp
      omega)
    obtain ⟨d, q⟩ := y
    obtain ⟨x, v, q1, _, q3, q4, q5, q6⟩ := he _ enc W base fuel _ _ _ hy
    obtain ⟨q3a, q3b⟩ := q3 rfl
    have e : (cs.drop k).take (n + 1) = v :: (cs.drop (k + 1)).take n := by
      have hk : k < cs.length := by omega
      rw [List.drop_eq_getElem_cons hk] at q3a ⊢
      simp only [List.take_succ_cons, List.take_zero, List.cons.injEq] at q3a ⊢
      exact ⟨q3a.1, trivial⟩
    rw [e]
    refine ⟨x :: ds, by simp [g0], ?_, ?_, ?_⟩
    · intro y hy
      rcases List.mem_cons.1 hy with rfl | hy
      · exact q1
      · exact g1 y hy
    · simp only [Rs]
      exact ⟨v, _, rfl, q6, g2⟩
    · intro u hu
      rcases List.mem_cons.1 hu with rfl | hu
      · exact q5 u (by rw [q3a]; simp)
      · exact g3 u hu
theorem rd_array {P : Program} {t e n : Nat} {p : D → Prop} (ht : P.underlying t = some (.array n e)) (hs : P.cellsOf t = n) (hc1 : P.cellsOf e = 1) (he : RdP P e 1 false p) :
    RdP P t n true (fun x => ∃ ds, x = .agg ds ∧ ds.length = n ∧ ∀ y ∈ ds, p y) := by
  intro H enc W base fuel cs d qs h
  cases fuel with
  | zero => simp [DataW.trod] at h
  | succ fuel =>
    unfold DataW.trod at h
    simp only [ht] at h
    rw [hs, hc1] at h
    by_cases hc : cs.length = n
    · rw [if_pos hc] at h
      rw [Option.map_eq_some_iff] at h
      obtain ⟨xs, hx, _⟩ := h
      obtain ⟨ds, g0, g1, g2, g3⟩ := rd_items (cs := cs) he (l := List.range n) (k := 0) (n := n) (by simp) (by omega) hx
      rw [List.drop_zero, ← hc, List.take_length] at g2 g3
      refine ⟨.agg ds, .agg cs.toArray, ⟨ds, rfl, g0, g1⟩, fun _ => rfl, by simp, hc, g3, ?_⟩
      simp only [R]
      exact ⟨cs, rfl, g2, g3⟩
    · rw [if_neg hc] at h
      cases h

/-! ### a law's arguments -/
theorem arg_flat {P : Program} {H : Type} {enc : TypeId × Value → H} {W : World} {base b2 t s : Nat} {p : D → Prop} {v : Value} {d : DataW H} {ps : List MemPlace} (h : RdP P t s false p) (hns : ∀ fs, P.underlying t ≠ some (.struct fs)) (hna : ∀ n e, P.underlying t ≠ some (.array n e))
    (hval : Value.okWide P W .any base t v) (hr : DataW.Trod enc P W b2 (fun _ => true) true t v d ps) : ∃ x, p x ∧ R (fixOf W) x v := by
  obtain ⟨fuel, hr⟩ := hr
  obtain ⟨x, u, h1, _, h3, _, _, h6⟩ := h _ enc W b2 fuel _ _ _ hr
  obtain ⟨h3a, h3b⟩ := h3 rfl
  have hv : Value.noAgg v = true := by
    cases v with
    | agg cs =>
      unfold Value.okWide at hval
      exfalso
      split at hval
      · next fs he => exact hns _ he
      · next n e he => exact hna _ _ he
      · unfold Cell.okWide at hval
        split at hval <;> try simp_all
        unfold Cell.ok at hval
        split at hval <;> simp_all
    | _ => rfl
  rw [cells_noAgg hv] at h3a
  simp only [List.cons.injEq, and_true] at h3a
  subst h3a
  exact ⟨x, h1, h6⟩
theorem arg_agg {P : Program} {H : Type} {enc : TypeId × Value → H} {W : World} {base b2 t s : Nat} {p : D → Prop} {v : Value} {d : DataW H} {ps : List MemPlace} (h : RdP P t s true p) (hns : (∃ fs, P.underlying t = some (.struct fs)) ∨ ∃ n e, P.underlying t = some (.array n e))
    (hval : Value.okWide P W .any base t v) (hr : DataW.Trod enc P W b2 (fun _ => true) true t v d ps) : ∃ x, p x ∧ R (fixOf W) x v := by
  obtain ⟨fuel, hr⟩ := hr
  obtain ⟨x, u, h1, h2, _, _, _, h6⟩ := h _ enc W b2 fuel _ _ _ hr
  have hv : ∃ cs, v = .agg cs := by
    unfold Value.okWide at hval
    rcases hns with ⟨fs, he⟩ | ⟨n, e, he⟩
    · rw [he] at hval
      obtain ⟨cs, hc, _⟩ := hval
      exact ⟨cs, hc⟩
    · rw [he] at hval
      obtain ⟨cs, hc, _⟩ := hval
      exact ⟨cs, hc⟩
  obtain ⟨cs, rfl⟩ := hv
  have : u = .agg cs := by rw [h2 rfl]; simp [Value.cells]
  subst this
  exact ⟨x, h1, h6⟩

theorem CVRs_of_Rs {F : Fix} : ∀ {l : List D} {vs : List Value}, Rs F l vs → CVRs F (l.map .d) vs
  | [], _, h => by simp only [Rs] at h; simpa [CVRs] using h
  | x :: l, vs, h => by
    simp only [Rs] at h
    obtain ⟨v, r, rfl, h2, h3⟩ := h
    simp only [List.map_cons, CVRs, CVR]
    exact ⟨v, r, rfl, h2, CVRs_of_Rs h3⟩
theorem ownsOf_d : ∀ (l : List D) (vs : List Value), ownsOf (l.map .d) vs = []
  | [], [] => rfl
  | [], _ :: _ => rfl
  | _ :: l, [] => rfl
  | x :: l, v :: vs => by
    simp only [List.map_cons, ownsOf]
    exact ownsOf_d l vs

/-- A law holds by its contract. -/
theorem calls_of_good {P : Program} {f : FuncId} {con : Con} (hg : Good P (f, con)) (W : World) (xs : List D) (args : Array Value) (hR : Rs (fixOf W) xs args.toList) (hpre : con.pre (xs.map .d)) (hfn : con.fn (xs.map .d) = .d (.bool true)) :
    Calls P f args W fun e W' => e = .returned (.bool true) ∧ Below W.heap.size W W' := by
  have h := hg.2 (fixOf W).m W (xs.map .d) args.toList hpre (CVRs_of_Rs hR) (by rw [ownsOf_d]; exact List.nodup_nil) (fixOf_new W)
  rw [show args.toList.toArray = args by simp] at h
  refine h.mono ?_
  rintro e W' ⟨v, m', rfl, hfr, _, _, hres⟩
  change Res _ _ _ (con.fn (xs.map .d)) v at hres
  rw [hfn] at hres
  simp only [Res, CVRs, CVR, R] at hres
  obtain ⟨⟨v1, r, hv1, rfl, rfl⟩, _⟩ := hres
  injection hv1 with hv1 _
  subst hv1
  refine ⟨rfl, hfr.os, hfr.tape, hfr.output, hfr.size, fun k hk => hfr.block k hk ?_⟩
  rw [ownsOf_d]
  simp

end Go.Am
