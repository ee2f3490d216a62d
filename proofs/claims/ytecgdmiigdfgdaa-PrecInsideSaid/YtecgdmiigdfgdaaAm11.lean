/-
  The abstract machine, part 11: fields, elements, lengths, pieces.
-/
import Derived.Test.YtecgdmiigdfgdaaAm10
namespace Go.Am
open Go.RowKit (Below)

section
variable {P : Program} {C : Ctx} {G : Gh}
variable {base : Nat} {pass : Nat → Prop} {F0 : Anc} {m : Nat → Nat} {st : AS} {a : Act} {w : World}

theorem addr_add (b off n : Nat) : (⟨b, off, none⟩ : Addr).add n = ⟨b, off + n, none⟩ := by unfold Addr.add; split <;> simp_all

theorem Mem.part {F : Fix} {b off k n : Nat} {vs us : List Value} (h : Mem F b off vs) (hu : ∀ j u, us[j]? = some u → vs[k + j]? = some u) (hl : us.length = n) (hk : k + n ≤ vs.length) : Mem F b (off + k) us := by
  obtain ⟨h1, h2⟩ := h
  refine ⟨by omega, fun j u hj => ?_⟩
  rw [Nat.add_assoc]
  exact h2 _ _ (hu j u hj)

theorem ptr_cell {F : Fix} {b off s k : Nat} {x : D} {u : Value} (h2 : R F x u) (h3 : u.cells.size = s) (h1 : ∀ y ∈ u.cells.toList, y.oneCell' = true) (hm : Mem F b off u.cells.toList) (hk : k < s) :
    R F (.ptr 1 (x.cell k)) (.pointer (some ⟨b, off + k, none⟩)) := by
  have hlt : k < u.cells.toList.length := by simp; omega
  have hg := List.getElem?_eq_getElem hlt
  have h1' := h1 _ (List.getElem_mem hlt)
  simp only [R]
  refine ⟨b, off + k, u.cells.toList[k], rfl, R.cell h2 hg, by rw [one_cells h1']; rfl, fun y hy => ?_, ?_⟩
  · rw [one_cells h1'] at hy
    simp only [List.mem_singleton] at hy
    rw [hy]
    exact h1'
  rw [one_cells h1']
  exact hm.part (n := 1) (fun j y hj => by
    cases j with
    | zero => simp only [List.getElem?_cons_zero, Option.some.injEq] at hj; subst hj; exact hg
    | succ j => simp at hj) rfl (by omega)

theorem fieldAddr_sound (T : TabOk P C.τ) (h : SRg base pass F0 m G st a w) {t f : Nat} {p : AV} {v : Value} {c : Prop} {z : AV} {os : Objs} (hp : RA ⟨w, m⟩ G (lk st.objs) p v)
    (hh : hFieldAddr C t p f st.objs = some (c, z, os)) (hc : c) : Tells P base pass F0 a st.tmps (Instr.fieldAt t v f) w z os := by
  unfold hFieldAddr at hh
  split at hh
  · next off sz hf =>
    unfold Ctx.fieldAt at hf
    split at hf
    · next fs hk =>
      obtain ⟨d, hd, hkd⟩ := T.kind hk rfl
      simp only [TK.is] at hkd
      obtain ⟨fields, rfl, hl, hfs⟩ := hkd
      have hlt : f < fields.size := by
        have := (List.getElem?_eq_some_iff.1 hf).1
        omega
      obtain ⟨g1, g2, g3, g4⟩ := hfs f fields[f] (off, sz) (Array.getElem?_eq_getElem hlt) hf
      simp only at g1 g2 g3
      have run : ∀ b o, (Instr.fieldAt t (.pointer (some ⟨b, o, none⟩)) f).run P w = .ok (.pointer (some ⟨b, o + off, none⟩)) w := by
        intro b o
        cases hi : P.info? fields[f].type with
        | none => simp [hi] at g2
        | some i =>
          have hsz : i.size = sz := by simpa [hi] using g2
          have hn : i.size ≠ 0 := by omega
          simp [Instr.fieldAt, run_underlying hd, Array.getElem?_eq_getElem hlt, Instr.sureAddr, fieldPlace, sizeOf, typeInfo, hi, hn, g1, addr_add]
      split at hh
      · next i f0 =>
        split at hh
        · next ob hi =>
          split at hh
          · next hb =>
            simp only [Option.some.injEq, Prod.mk.injEq] at hh
            obtain ⟨rfl, rfl, rfl⟩ := hh
            simp only [RA, hi] at hp
            obtain ⟨b, q1, rfl⟩ := hp.2 hb
            refine tells_same h (run b f0) ?_
            simp only [RA, hi]
            exact ⟨rfl, fun _ => ⟨b, q1, rfl⟩⟩
          · cases hh
        · cases hh
      · next i n e f0 =>
        split at hh
        · next s els k hi =>
          simp only [Option.some.injEq, Prod.mk.injEq] at hh
          obtain ⟨rfl, rfl, rfl⟩ := hh
          simp only [RA, hi] at hp
          obtain ⟨b, q1, rfl⟩ := hp.2.2 hc
          refine tells_same h (run b _) ?_
          simp only [RA, hi]
          exact ⟨rfl, hp.2.1, fun _ => ⟨b, q1, by rw [Nat.add_assoc]⟩⟩
        · cases hh
      · next s x =>
        split at hh
        · next hs =>
          simp only [Option.some.injEq, Prod.mk.injEq] at hh
          obtain ⟨rfl, rfl, rfl⟩ := hh
          simp only [RA, R] at hp
          obtain ⟨b, o, u, rfl, h2, h3, h1, h4⟩ := hp
          refine tells_same h (run b o) ?_
          simp only [RA]
          exact ptr_cell h2 h3 h1 h4 hs.2.2
        · cases hh
      · cases hh
    · cases hf
  · cases hh

theorem D.isAgg_R {F : Fix} {x : D} {v : Value} {s : Nat} (h : R F x v) (hx : x.isAgg s) : ∃ cs : Array Value, v = .agg cs ∧ cs.size = s ∧ ∀ k, k < s → ∃ u, cs[k]? = some u ∧ R F (x.cell k) u := by
  cases x with
  | agg l =>
    have h0 := h
    simp only [R] at h
    obtain ⟨cs, rfl, h2, _⟩ := h
    simp only [D.isAgg] at hx
    refine ⟨_, rfl, by simp [Rs.length h2, hx], fun k hk => ?_⟩
    have hlt : k < cs.length := by rw [Rs.length h2]; omega
    refine ⟨cs[k], by simp [hlt], R.cell h0 (by simp [Value.cells, hlt])⟩
  | _ => simp [D.isAgg] at hx

theorem field_sound (T : TabOk P C.τ) (h : SRg base pass F0 m G st a w) {t f : Nat} {x : AV} {v : Value} {c : Prop} {z : AV} {os : Objs} (hx : RA ⟨w, m⟩ G (lk st.objs) x v)
    (hh : hField C t x f st.objs = some (c, z, os)) (hc : c) : Tells P base pass F0 a st.tmps (Instr.field t v f) w z os := by
  unfold hField at hh
  split at hh
  · next off sz hf =>
    unfold Ctx.fieldAt at hf
    split at hf
    · next fs hk =>
      obtain ⟨d, hd, hkd⟩ := T.kind hk rfl
      simp only [TK.is] at hkd
      obtain ⟨fields, rfl, hl, hfs⟩ := hkd
      have hlt : f < fields.size := by
        have := (List.getElem?_eq_some_iff.1 hf).1
        omega
      obtain ⟨g1, g2, g3, g4⟩ := hfs f fields[f] (off, sz) (Array.getElem?_eq_getElem hlt) hf
      simp only at g1 g2 g3 g4
      split at hh
      · next hs =>
        obtain ⟨d', hu, hpl⟩ := g4 hs.1
        have ha : (isAgg fields[f].type).run P w = .ok false w := by
          cases d' <;> first | (simp [plainDesc] at hpl; done) | simp [isAgg, run_underlying hu]
        have run : ∀ (cs : Array Value) (u : Value), cs[off]? = some u → (Instr.field t (.agg cs) f).run P w = .ok u w := by
          intro cs u hcs
          simp [Instr.field, run_underlying hd, Array.getElem?_eq_getElem hlt, asAgg, part, ha, g1, hcs]
        split at hh
        · next y =>
          simp only [Option.some.injEq, Prod.mk.injEq] at hh
          obtain ⟨rfl, rfl, rfl⟩ := hh
          simp only [RA] at hx
          obtain ⟨cs, rfl, _, hcell⟩ := D.isAgg_R hx hc
          obtain ⟨u, hu, hr⟩ := hcell off hs.2
          exact tells_same h (run cs u hu) (by simp only [RA]; exact hr)
        · next l =>
          split at hh
          · next hls =>
            simp only [Option.some.injEq, Prod.mk.injEq] at hh
            obtain ⟨rfl, rfl, rfl⟩ := hh
            simp only [RA] at hx
            obtain ⟨cs, rfl, h2, _⟩ := hx
            have hol : off < l.length := by omega
            obtain ⟨u, hu, hr⟩ := h2.at (List.getElem?_eq_getElem hol)
            refine tells_same h (run cs.toArray u (by simpa using hu)) ?_
            rw [List.getD_eq_getElem?_getD, List.getElem?_eq_getElem hol]
            exact hr
          · cases hh
        · cases hh
      · cases hh
    · cases hf
  · cases hh

/-- Elements of a slice that is fixed. -/
theorem list_el {F : Fix} {s : Nat} {l : List D} {v : Value} (h : R F (.list s l) v) : ∃ A c, v = .slice A l.length c ∧ l.length ≤ c ∧ c ≤ maxLen ∧
    ∀ k, k < l.length → ∃ b off u, A = some ⟨b, off, none⟩ ∧ R F (el l k) u ∧ u.cells.size = s ∧ (∀ y ∈ u.cells.toList, y.oneCell' = true) ∧ Mem F b (off + k * s) u.cells.toList := by
  simp only [R] at h
  obtain ⟨A, c, rfl, h2, h3, h4⟩ := h
  refine ⟨A, c, rfl, h2, h3, fun k hk => ?_⟩
  obtain ⟨b, off, vs, rfl, g1, g2⟩ := h4 (by intro e; subst e; simp at hk)
  obtain ⟨u, q1, q2, q3, q4⟩ := g1.at (List.getElem?_eq_getElem hk)
  have hel : el l k = l[k] := by unfold el; rw [List.getD_eq_getElem?_getD, List.getElem?_eq_getElem hk]; rfl
  have hlen := g1.length
  have hks : (k + 1) * s ≤ l.length * s := Nat.mul_le_mul_right _ (by omega)
  have hks1 : (k + 1) * s = k * s + s := by rw [Nat.add_mul, Nat.one_mul]
  refine ⟨b, off, u, rfl, by rw [hel]; exact q1, q2, q3, g2.part (n := s) (fun j y hj => ?_) (by simp [q2]) (by omega)⟩
  rw [← q4] at hj
  exact drop_take_at hj

theorem run_index {t e sz : Nat} (hd : P.underlying t = some (.slice e)) (hsz : ∀ w, (sizeOf e).run P w = .ok sz w) {k : IntKind} {i : Int} {b off n c : Nat} (h0 : 0 ≤ i) (h1 : i < n) :
    (Instr.indexAt t (.slice (some ⟨b, off, none⟩) n c) (.int k i)).run P w = .ok (.pointer (some ⟨b, off + i.toNat * sz, none⟩)) w := by
  simp [Instr.indexAt, asIntOf, run_underlying hd, h0, h1, hsz, addr_add]

theorem indexAddr_sound (T : TabOk P C.τ) (h : SRg base pass F0 m G st a w) {t : Nat} {x ix : AV} {v vi : Value} {c : Prop} {z : AV} {os : Objs} (hx : RA ⟨w, m⟩ G (lk st.objs) x v) (hix : RA ⟨w, m⟩ G (lk st.objs) ix vi)
    (hh : hIndexAddr C t x ix st.objs = some (c, z, os)) (hc : c) : Tells P base pass F0 a st.tmps (Instr.indexAt t v vi) w z os := by
  unfold hIndexAddr at hh
  split at hh
  · next e i hk =>
    obtain ⟨d, hd, hkd⟩ := T.kind hk rfl
    simp only [TK.is] at hkd
    obtain ⟨rfl, he⟩ := hkd
    have hsz := run_sizeT (T e he)
    simp only [RA] at hix
    split at hh
    · next y =>
      simp only [Option.some.injEq, Prod.mk.injEq] at hh
      obtain ⟨rfl, rfl, rfl⟩ := hh
      obtain ⟨c1, c2, c3, c4⟩ := hc
      obtain ⟨ik, rfl⟩ := hix.of_anyInt c2
      simp only [RA] at hx
      obtain ⟨A, cap, rfl, _, _, hel⟩ := list_el (hx.of_list c1)
      obtain ⟨b, off, u, rfl, q1, q2, q3, q4⟩ := hel i.i.toNat (by omega)
      refine tells_same h (run_index hd hsz c3 c4) ?_
      simp only [RA, R]
      exact ⟨b, _, u, rfl, q1, q2, q3, q4⟩
    · next k n =>
      split at hh
      · next s els kk hi =>
        split at hh
        · next hs =>
          simp only [Option.some.injEq, Prod.mk.injEq] at hh
          obtain ⟨rfl, rfl, rfl⟩ := hh
          obtain ⟨c1, c2, c3, c4⟩ := hc
          obtain ⟨ik, rfl⟩ := hix.of_anyInt c2
          simp only [RA, hi] at hx
          have hv := hx.2.2 c1
          have hok := h.objs k _ hi
          simp only [ObjOk] at hok
          rcases hok with ⟨_, _, rfl, _⟩ | ⟨b, cap, cs, ty, h1, h2, _⟩
          · simp at c4; omega
          · rw [h2] at hv
            subst hv
            refine tells_same h (run_index hd hsz c3 c4) ?_
            simp only [RA, hi]
            exact ⟨rfl, hx.2.1, fun _ => ⟨b, h1, by rw [hs]; simp⟩⟩
        · cases hh
      · cases hh
    · cases hh
  · next n e ik j hk =>
    obtain ⟨d, hd, hkd⟩ := T.kind hk rfl
    simp only [TK.is] at hkd
    obtain ⟨rfl, he⟩ := hkd
    have hsz := run_sizeT (T e (by rw [he]; rfl)) w
    simp only [RA, R] at hix
    subst hix
    split at hh
    · next hj =>
      obtain ⟨j0, j1, j2⟩ := hj
      have run : ∀ b o, (Instr.indexAt t (.pointer (some ⟨b, o, none⟩)) (.int ik j)).run P w = .ok (.pointer (some ⟨b, o + j.toNat, none⟩)) w := by
        intro b o
        simp [Instr.indexAt, asIntOf, run_underlying hd, Instr.sureAddr, j0, j1, hsz, j2, addr_add]
      split at hh
      · next i f0 =>
        split at hh
        · next ob hi =>
          split at hh
          · next hb =>
            simp only [Option.some.injEq, Prod.mk.injEq] at hh
            obtain ⟨rfl, rfl, rfl⟩ := hh
            simp only [RA, hi] at hx
            obtain ⟨b, q1, rfl⟩ := hx.2 hb
            refine tells_same h (run b f0) ?_
            simp only [RA, hi]
            exact ⟨rfl, fun _ => ⟨b, q1, rfl⟩⟩
          · cases hh
        · cases hh
      · next s y =>
        split at hh
        · next hs =>
          simp only [Option.some.injEq, Prod.mk.injEq] at hh
          obtain ⟨rfl, rfl, rfl⟩ := hh
          simp only [RA, R] at hx
          obtain ⟨b, o, u, rfl, h2, h3, h1, h4⟩ := hx
          refine tells_same h (run b o) ?_
          simp only [RA]
          exact ptr_cell h2 h3 h1 h4 (by omega)
        · cases hh
      · cases hh
    · cases hh
  · cases hh

theorem index_sound (T : TabOk P C.τ) (h : SRg base pass F0 m G st a w) {t : Nat} {x ix : AV} {v vi : Value} {c : Prop} {z : AV} {os : Objs} (hx : RA ⟨w, m⟩ G (lk st.objs) x v) (hix : RA ⟨w, m⟩ G (lk st.objs) ix vi)
    (hh : hIndex C t x ix st.objs = some (c, z, os)) (hc : c) : Tells P base pass F0 a st.tmps (Instr.index t v vi) w z os := by
  unfold hIndex at hh
  split at hh
  · next y i hk =>
    obtain ⟨d, hd, hkd⟩ := T.kind hk rfl
    simp only [TK.is] at hkd
    subst hkd
    simp only [Option.some.injEq, Prod.mk.injEq] at hh
    obtain ⟨rfl, rfl, rfl⟩ := hh
    obtain ⟨c1, c2, c3, c4⟩ := hc
    simp only [RA] at hx hix
    obtain ⟨ik, rfl⟩ := hix.of_anyInt c2
    have e := hx.of_str c1
    subst e
    have hlt : i.i.toNat < (⟨y.s.toArray⟩ : ByteArray).size := by simp [ByteArray.size]; omega
    refine tells_same h (v := .int .u8 ((y.s.getD i.i.toNat 0).toNat : Int)) ?_ (by simp only [RA]; exact R.int)
    have hb := ByteArray.getElem?_lt' (⟨y.s.toArray⟩ : ByteArray) i.i.toNat hlt
    simp only [Instr.index, asIntOf, Sem.run_bind, Sem.run_pure, Result.andThen_ok, run_underlying hd, if_pos c3, hb]
    have hlt' : i.i.toNat < y.s.length := by omega
    simp [List.getD_eq_getElem?_getD, List.getElem?_eq_getElem hlt']
    rfl
  · cases hh

theorem run_lenS {t e ty : Nat} (hd : P.underlying t = some (.slice e)) (A : Option Addr) (n c : Nat) : (Builtin.len_ #[t] ty #[.slice A n c]).run P w = .ok (.int .i64 n) w := by
  simp [Builtin.len_, run_underlying hd, goInt]
theorem len_sound (T : TabOk P C.τ) (h : SRg base pass F0 m G st a w) {t : Nat} {x : AV} {v : Value} {c : Prop} {z : AV} {os : Objs} (hx : RA ⟨w, m⟩ G (lk st.objs) x v)
    (hh : hLen C t x st.objs = some (c, z, os)) (hc : c) (ty : TypeId) : Tells P base pass F0 a st.tmps (Builtin.len_ #[t] ty #[v]) w z os := by
  unfold hLen at hh
  split at hh
  · next y hk =>
    obtain ⟨d, hd, hkd⟩ := T.kind hk rfl
    simp only [TK.is] at hkd
    subst hkd
    simp only [Option.some.injEq, Prod.mk.injEq] at hh
    obtain ⟨rfl, rfl, rfl⟩ := hh
    simp only [RA] at hx
    have e := hx.of_str hc
    subst e
    exact tells_same h (v := .int .i64 y.s.length) (by rw [run_len_string w t ty _ hd]; simp [ByteArray.size]; rfl) (by simp only [RA]; exact R.int)
  · next e y hk =>
    obtain ⟨d, hd, hkd⟩ := T.kind hk rfl
    simp only [TK.is] at hkd
    obtain ⟨rfl, _⟩ := hkd
    simp only [Option.some.injEq, Prod.mk.injEq] at hh
    obtain ⟨rfl, rfl, rfl⟩ := hh
    simp only [RA] at hx
    obtain ⟨A, cap, rfl, _⟩ := list_el (hx.of_list hc)
    exact tells_same h (v := .int .i64 y.l.length) (run_lenS hd _ _ _) (by simp only [RA]; exact R.int)
  · next e s hk =>
    obtain ⟨d, hd, hkd⟩ := T.kind hk rfl
    simp only [TK.is] at hkd
    obtain ⟨rfl, _⟩ := hkd
    simp only [Option.some.injEq, Prod.mk.injEq] at hh
    obtain ⟨rfl, rfl, rfl⟩ := hh
    simp only [RA] at hx
    subst hx
    exact tells_same h (v := .int .i64 0) (run_lenS hd _ _ _) (by simp only [RA]; exact R.int)
  · next e i n hk =>
    obtain ⟨d, hd, hkd⟩ := T.kind hk rfl
    simp only [TK.is] at hkd
    obtain ⟨rfl, _⟩ := hkd
    split at hh
    · next s els k hi =>
      simp only [Option.some.injEq, Prod.mk.injEq] at hh
      obtain ⟨rfl, rfl, rfl⟩ := hh
      simp only [RA, hi] at hx
      have hv := hx.2.2 hc
      have hok := h.objs i _ hi
      simp only [ObjOk] at hok
      rcases hok with ⟨_, h2, rfl, _⟩ | ⟨b, cap, cs, ty, h1, h2, _⟩
      · rw [h2] at hv
        subst hv
        exact tells_same h (v := .int .i64 0) (run_lenS hd _ _ _) (by simp only [RA]; exact R.int)
      · rw [h2] at hv
        subst hv
        exact tells_same h (v := .int .i64 els.length) (run_lenS hd _ _ _) (by simp only [RA]; exact R.int)
    · cases hh
  · cases hh

theorem extract_sound (h : SRg base pass F0 m G st a w) {x : AV} {v : Value} {i : Nat} {c : Prop} {z : AV} {os : Objs} (hx : RA ⟨w, m⟩ G (lk st.objs) x v)
    (hh : hExtract x i st.objs = some (c, z, os)) : Tells P base pass F0 a st.tmps (Instr.extract v i) w z os := by
  unfold hExtract at hh
  split at hh
  · next l =>
    split at hh
    · next hi =>
      simp only [Option.some.injEq, Prod.mk.injEq] at hh
      obtain ⟨rfl, rfl, rfl⟩ := hh
      simp only [RA] at hx
      obtain ⟨cs, rfl, h2⟩ := hx
      obtain ⟨u, hu, hr⟩ := h2.at (List.getElem?_eq_getElem hi)
      refine tells_same h (v := u) (by simp [Instr.extract, hu]) ?_
      rw [List.getD_eq_getElem?_getD, List.getElem?_eq_getElem hi]
      exact hr
    · cases hh
  · next l =>
    split at hh
    · next hi =>
      simp only [Option.some.injEq, Prod.mk.injEq] at hh
      obtain ⟨rfl, rfl, rfl⟩ := hh
      simp only [RA, R] at hx
      obtain ⟨cs, rfl, h2⟩ := hx
      obtain ⟨u, hu, hr⟩ := h2.at (List.getElem?_eq_getElem hi)
      refine tells_same h (v := u) (by simp [Instr.extract, hu]) ?_
      simp only [RA]
      rw [List.getD_eq_getElem?_getD, List.getElem?_eq_getElem hi]
      exact hr
    · cases hh
  · cases hh

end
end Go.Am
