/-
  The abstract machine, part 12: slices cut, made, and appended to; structs built.
-/
import Derived.Test.YtecgdmiigdfgdaaAm11
set_option linter.unusedVariables false
set_option linter.unusedSimpArgs false
namespace Go.Am
open Go.RowKit (Below)

section
variable {P : Program} {C : Ctx} {G : Gh}
variable {base : Nat} {pass : Nat → Prop} {F0 : Anc} {m : Nat → Nat} {st : AS} {a : Act} {w : World}

/-- A piece of a slice that is fixed. -/
theorem list_cut {F : Fix} {s lo hi : Nat} {l : List D} {A : Option Addr} {c : Nat} (h : R F (.list s l) (.slice A l.length c)) (h1 : lo ≤ hi) (h2 : hi ≤ l.length) :
    R F (.list s ((l.take hi).drop lo)) (.slice (if c = lo then A else A.map (·.add (lo * s))) (hi - lo) (c - lo)) := by
  simp only [R] at h ⊢
  obtain ⟨A', c', e, g1, g2, g3⟩ := h
  simp only [Value.slice.injEq] at e
  obtain ⟨rfl, _, rfl⟩ := e
  have hl : ((l.take hi).drop lo).length = hi - lo := by simp; omega
  refine ⟨_, _, by rw [hl], by rw [hl]; omega, by omega, fun hne => ?_⟩
  have hlt : lo < hi := by
    rcases Nat.lt_or_ge lo hi with h3 | h3
    · exact h3
    · exact absurd (List.eq_nil_of_length_eq_zero (by omega)) hne
  obtain ⟨b, off, vs, rfl, q1, q2⟩ := g3 (by intro e; subst e; simp at h2; omega)
  have hvl := q1.length
  refine ⟨b, off + lo * s, (vs.take (hi * s)).drop (lo * s), ?_, ?_, ?_⟩
  · rw [if_neg (by omega)]
    simp [addr_add]
  · exact (((q1.split hi).1).split lo).2
  · have e1 : hi * s ≤ l.length * s := Nat.mul_le_mul_right _ h2
    have e2 : lo * s ≤ hi * s := Nat.mul_le_mul_right _ h1
    refine q2.part (n := hi * s - lo * s) (fun j u hj => ?_) (by simp; omega) (by omega)
    rw [List.getElem?_drop, List.getElem?_take] at hj
    split at hj
    · exact hj
    · cases hj

theorem extract_bytes (l : List UInt8) (lo hi : Nat) (h : hi ≤ l.length) : (⟨l.toArray⟩ : ByteArray).extract lo hi = ⟨((l.take hi).drop lo).toArray⟩ := by
  apply ByteArray.ext
  simp [ByteArray.data_extract, List.extract_toArray]
  rw [List.drop_take]

theorem run_bound {k : IntKind} {i y : Nat} {code : BoundsCode} (h : i ≤ y) : (Instr.sliceBound (.int k (i : Int)) y code).run P w = .ok i w := by
  simp [Instr.sliceBound, asIntOf, h]

theorem run_sliceAt_slice {t e : Nat} (hd : P.underlying t = some (.slice e)) {sz : Nat} (hsz : ∀ w, (sizeOf e).run P w = .ok sz w) {A : Option Addr} {n c : Nat} {lo hi : Option Value} {l h : Nat}
    (hl : (lo = none ∧ l = 0) ∨ ∃ k, lo = some (.int k (l : Int))) (hh : (hi = none ∧ h = n) ∨ ∃ k, hi = some (.int k (h : Int))) (h1 : l ≤ h) (h2 : h ≤ n) (hc : n ≤ c) :
    (Instr.sliceAt t (.slice A n c) lo hi none).run P w = .ok (.slice (if c = l then A else A.map (·.add (l * sz))) (h - l) (c - l)) w := by
  have hb : (Instr.sliceBounds true n c lo hi none).run P w = .ok (l, h, c) w := by
    rcases hl with ⟨rfl, rfl⟩ | ⟨k, rfl⟩ <;> rcases hh with ⟨rfl, rfl⟩ | ⟨k', rfl⟩
    · simp [Instr.sliceBounds]
    · simp [Instr.sliceBounds, run_bound (show h ≤ c by omega)]
    · simp [Instr.sliceBounds, run_bound h1]
    · simp [Instr.sliceBounds, run_bound (show h ≤ c by omega), run_bound h1]
  simp [Instr.sliceAt, run_underlying hd, Instr.slice, hb, hsz]

theorem run_sliceAt_string {t : Nat} (hd : P.underlying t = some .string) {s : ByteArray} {lo hi : Option Value} {l h : Nat}
    (hl : (lo = none ∧ l = 0) ∨ ∃ k, lo = some (.int k (l : Int))) (hh : (hi = none ∧ h = s.size) ∨ ∃ k, hi = some (.int k (h : Int))) (h1 : l ≤ h) (h2 : h ≤ s.size) :
    (Instr.sliceAt t (.string s) lo hi none).run P w = .ok (.string (s.extract l h)) w := by
  have hb : (Instr.sliceBounds false s.size s.size lo hi none).run P w = .ok (l, h, s.size) w := by
    rcases hl with ⟨rfl, rfl⟩ | ⟨k, rfl⟩ <;> rcases hh with ⟨rfl, rfl⟩ | ⟨k', rfl⟩
    · simp [Instr.sliceBounds]
    · simp [Instr.sliceBounds, run_bound h2]
    · simp [Instr.sliceBounds, run_bound h1]
    · simp [Instr.sliceBounds, run_bound h2, run_bound h1]
  simp [Instr.sliceAt, run_underlying hd, Instr.slice, hb]

/-- Values of bounds. -/
def OptRA (F : Fix) (G : Gh) (L : Nat → Option Obj) : Option AV → Option Value → Prop
  | some x, some v => RA F G L x v
  | none, none => True
  | _, _ => False

theorem int_nat {i : Int} (h : 0 ≤ i) : ((i.toNat : Nat) : Int) = i := Int.toNat_of_nonneg h

theorem slice_sound (T : TabOk P C.τ) (h : SRg base pass F0 m G st a w) {t : Nat} {x : AV} {v : Value} {lo hi mx : Option AV} {vl vh vm : Option Value} {c : Prop} {z : AV} {os : Objs} (hx : RA ⟨w, m⟩ G (lk st.objs) x v)
    (hl : OptRA ⟨w, m⟩ G (lk st.objs) lo vl) (hhi : OptRA ⟨w, m⟩ G (lk st.objs) hi vh) (hmx : OptRA ⟨w, m⟩ G (lk st.objs) mx vm)
    (hh : hSlice C t x lo hi mx st.objs = some (c, z, os)) (hc : c) : Tells P base pass F0 a st.tmps (Instr.sliceAt t v vl vh vm) w z os := by
  unfold hSlice at hh
  split at hh
  · next hk =>
    obtain ⟨d, hd, hkd⟩ := T.kind hk rfl
    simp only [TK.is] at hkd
    subst hkd
    cases vm with
    | some _ => simp [OptRA] at hmx
    | none =>
      split at hh
      · next y =>
        simp only [RA] at hx
        split at hh
        · next la lb =>
          simp only [Option.some.injEq, Prod.mk.injEq] at hh
          obtain ⟨rfl, rfl, rfl⟩ := hh
          obtain ⟨c1, c2, c3, c4, c5, c6⟩ := hc
          cases vl with
          | none => simp [OptRA] at hl
          | some vl =>
            cases vh with
            | none => simp [OptRA] at hhi
            | some vh =>
              simp only [OptRA, RA] at hl hhi
              obtain ⟨k1, rfl⟩ := hl.of_anyInt c2
              obtain ⟨k2, rfl⟩ := hhi.of_anyInt c3
              have e := hx.of_str c1
              subst e
              refine tells_same h (run_sliceAt_string hd (l := la.i.toNat) (h := lb.i.toNat) (.inr ⟨k1, by rw [int_nat c4]⟩) (.inr ⟨k2, by rw [int_nat (by omega)]⟩) (by omega) (by simp [ByteArray.size]; omega)) ?_
              rw [extract_bytes _ _ _ (by omega)]
              simp only [RA]
              exact R.str
        · next la =>
          simp only [Option.some.injEq, Prod.mk.injEq] at hh
          obtain ⟨rfl, rfl, rfl⟩ := hh
          obtain ⟨c1, c2, c4, c5⟩ := hc
          cases vl with
          | none => simp [OptRA] at hl
          | some vl =>
            cases vh with
            | some _ => simp [OptRA] at hhi
            | none =>
              simp only [OptRA, RA] at hl
              obtain ⟨k1, rfl⟩ := hl.of_anyInt c2
              have e := hx.of_str c1
              subst e
              refine tells_same h (run_sliceAt_string hd (l := la.i.toNat) (h := y.s.length) (.inr ⟨k1, by rw [int_nat c4]⟩) (.inl ⟨rfl, by simp [ByteArray.size]⟩) (by omega) (by simp [ByteArray.size])) ?_
              rw [extract_bytes _ _ _ (Nat.le_refl _), List.take_length]
              simp only [RA]
              exact R.str
        · next lb =>
          simp only [Option.some.injEq, Prod.mk.injEq] at hh
          obtain ⟨rfl, rfl, rfl⟩ := hh
          obtain ⟨c1, c3, c4, c5⟩ := hc
          cases vl with
          | some _ => simp [OptRA] at hl
          | none =>
            cases vh with
            | none => simp [OptRA] at hhi
            | some vh =>
              simp only [OptRA, RA] at hhi
              obtain ⟨k2, rfl⟩ := hhi.of_anyInt c3
              have e := hx.of_str c1
              subst e
              refine tells_same h (run_sliceAt_string hd (l := 0) (h := lb.i.toNat) (.inl ⟨rfl, rfl⟩) (.inr ⟨k2, by rw [int_nat c4]⟩) (by omega) (by simp [ByteArray.size]; omega)) ?_
              rw [extract_bytes _ _ _ (by omega), List.drop_zero]
              simp only [RA]
              exact R.str
        · cases hh
      · cases hh
  · next e hk =>
    obtain ⟨d, hd, hkd⟩ := T.kind hk rfl
    simp only [TK.is] at hkd
    obtain ⟨rfl, he⟩ := hkd
    have hsz := run_sizeT (T e he)
    cases vm with
    | some _ => simp [OptRA] at hmx
    | none =>
      split at hh
      · next c0 y o1 hp =>
        have main : c0 → y.isList (C.size e) → ∃ m1 A cap, SRg base pass F0 m1 G ⟨st.tmps, o1⟩ a w ∧ v = .slice A y.l.length cap ∧ y.l.length ≤ cap ∧ R ⟨w, m1⟩ (.list (C.size e) y.l) (.slice A y.l.length cap) := by
          intro hc0 hy
          obtain ⟨m1, k1, k2, k3, k4⟩ := pur_sound h hp hc0 hx
          have k5 := k4.of_list hy
          obtain ⟨A, cap, rfl, g1, g2, _⟩ := list_el k5
          exact ⟨m1, A, cap, k1, rfl, g1, k5⟩
        split at hh
        · next la lb =>
          simp only [Option.some.injEq, Prod.mk.injEq] at hh
          obtain ⟨rfl, rfl, rfl⟩ := hh
          obtain ⟨c0, c1, c2, c3, c4, c5, c6⟩ := hc
          obtain ⟨m1, A, cap, k1, rfl, g1, g2⟩ := main c0 c1
          cases vl with
          | none => simp [OptRA] at hl
          | some vl =>
            cases vh with
            | none => simp [OptRA] at hhi
            | some vh =>
              simp only [OptRA, RA] at hl hhi
              obtain ⟨q1, rfl⟩ := hl.of_anyInt c2
              obtain ⟨q2, rfl⟩ := hhi.of_anyInt c3
              have hr := run_sliceAt_slice (w := w) (A := A) (c := cap) hd hsz (lo := some (.int q1 la.i)) (hi := some (.int q2 lb.i)) (n := y.l.length) (l := la.i.toNat) (h := lb.i.toNat) (.inr ⟨q1, by rw [int_nat c4]⟩) (.inr ⟨q2, by rw [int_nat (by omega)]⟩) (by omega) (by omega) g1
              exact ⟨_, w, m1, G, hr, k1, by simp only [RA]; exact list_cut g2 (by omega) (by omega)⟩
        · next la =>
          simp only [Option.some.injEq, Prod.mk.injEq] at hh
          obtain ⟨rfl, rfl, rfl⟩ := hh
          obtain ⟨c0, c1, c2, c4, c5⟩ := hc
          obtain ⟨m1, A, cap, k1, rfl, g1, g2⟩ := main c0 c1
          cases vl with
          | none => simp [OptRA] at hl
          | some vl =>
            cases vh with
            | some _ => simp [OptRA] at hhi
            | none =>
              simp only [OptRA, RA] at hl
              obtain ⟨q1, rfl⟩ := hl.of_anyInt c2
              have hr := run_sliceAt_slice (w := w) (A := A) (c := cap) hd hsz (lo := some (.int q1 la.i)) (hi := none) (n := y.l.length) (l := la.i.toNat) (h := y.l.length) (.inr ⟨q1, by rw [int_nat c4]⟩) (.inl ⟨rfl, rfl⟩) (by omega) (Nat.le_refl _) g1
              have hcut := list_cut (lo := la.i.toNat) (hi := y.l.length) g2 (by omega) (Nat.le_refl _)
              rw [List.take_length] at hcut
              exact ⟨_, w, m1, G, hr, k1, by simp only [RA]; exact hcut⟩
        · next lb =>
          simp only [Option.some.injEq, Prod.mk.injEq] at hh
          obtain ⟨rfl, rfl, rfl⟩ := hh
          obtain ⟨c0, c1, c3, c4, c5⟩ := hc
          obtain ⟨m1, A, cap, k1, rfl, g1, g2⟩ := main c0 c1
          cases vl with
          | some _ => simp [OptRA] at hl
          | none =>
            cases vh with
            | none => simp [OptRA] at hhi
            | some vh =>
              simp only [OptRA, RA] at hhi
              obtain ⟨q2, rfl⟩ := hhi.of_anyInt c3
              have hr := run_sliceAt_slice (w := w) (A := A) (c := cap) hd hsz (lo := none) (hi := some (.int q2 lb.i)) (n := y.l.length) (l := 0) (h := lb.i.toNat) (.inl ⟨rfl, rfl⟩) (.inr ⟨q2, by rw [int_nat c4]⟩) (by omega) (by omega) g1
              have hcut := list_cut (lo := 0) (hi := lb.i.toNat) g2 (by omega) (by omega)
              rw [List.drop_zero] at hcut
              exact ⟨_, w, m1, G, hr, k1, by simp only [RA]; exact hcut⟩
        · cases hh
      · cases hh
  · cases hh

end
end Go.Am
