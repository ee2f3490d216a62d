/-
  The abstract machine, part 13: slices made and appended to; structs built.
-/
import Derived.Test.YtecgdmiigdfgdaaAm12
set_option linter.unusedVariables false
set_option linter.unusedSimpArgs false
namespace Go.Am
open Go.RowKit (Below)

/-! ### rows of cells, filled -/
theorem foldl_fill (off : Nat) : ∀ (cs : List Value) (k : Nat) (acc : Array Value), off + k + cs.length ≤ acc.size →
    ((cs.zipIdx k).foldl (fun (a : Array Value) (p : Value × Nat) => a.setIfInBounds (off + p.2) p.1) acc).toList = acc.toList.take (off + k) ++ cs ++ acc.toList.drop (off + k + cs.length)
  | [], k, acc, _ => by simp
  | c :: cs, k, acc, h => by
    simp only [List.length_cons] at h
    simp only [List.zipIdx_cons, List.foldl_cons]
    rw [foldl_fill off cs (k + 1) _ (by simp; omega)]
    have e := list_seg_step acc.toList (off + k) c cs (by simp; omega)
    simp only [Array.toList_setIfInBounds, ← Nat.add_assoc, List.length_cons]
    rw [← Nat.add_assoc] at e
    exact e

theorem fill_step (off : Nat) (v : Value) (cells : Array Value) (h : off + v.cells.size ≤ cells.size) :
    (v.cells.zipIdx.foldl (fun cs (p : Value × Nat) => cs.setIfInBounds (off + p.2) p.1) cells).toList = cells.toList.take off ++ v.cells.toList ++ cells.toList.drop (off + v.cells.size) := by
  have := foldl_fill off v.cells.toList 0 cells (by simpa using h)
  rw [← Array.foldl_toList, Array.toList_zipIdx]
  simpa using this

theorem madeCells_succ (z : Array Value) (n : Nat) (hz : 0 < z.size) : (madeCells z ((n + 1) * z.size)).toList = z.toList ++ (madeCells z (n * z.size)).toList := by
  apply List.ext_getElem?
  intro j
  have e : (n + 1) * z.size = z.size + n * z.size := by rw [Nat.add_mul]; omega
  rw [List.getElem?_append]
  simp only [Array.length_toList, Array.getElem?_toList, madeCells, Array.getElem?_map, Array.getElem?_range]
  by_cases h1 : j < z.size
  · rw [if_pos h1, if_pos (by omega)]
    simp [Nat.mod_eq_of_lt h1, h1]
  · rw [if_neg h1]
    by_cases h2 : j < (n + 1) * z.size
    · rw [if_pos h2, if_pos (by omega)]
      simp only [Option.map_some]
      rw [Nat.mod_eq_sub_mod (by omega)]
    · rw [if_neg h2, if_neg (by omega)]

theorem RE_made {F : Fix} {d : D} {z : Value} (h : R F d z) (h1 : ∀ u ∈ z.cells.toList, u.oneCell' = true) (hz : 0 < z.cells.size) : ∀ n, RE F z.cells.size (List.replicate n d) (madeCells z.cells (n * z.cells.size)).toList
  | 0 => by simp [RE, madeCells]
  | n + 1 => by
    rw [List.replicate_succ, madeCells_succ _ _ hz]
    simp only [RE]
    exact ⟨z, _, rfl, rfl, h1, h, RE_made h h1 hz n⟩

theorem zerosD_eq (d : D) : ∀ n, zerosD d n = List.replicate n d
  | 0 => rfl
  | n + 1 => by rw [zerosD, List.replicate_succ, zerosD_eq d n]

/-- Parts of a literal: places, data, values. -/
inductive Parts (F : Fix) (s n : Nat) : List (Nat × D) → List (Nat × Value) → Prop
  | nil : Parts F s n [] []
  | cons {i : Nat} {d : D} {v : Value} {ds : List (Nat × D)} {vs : List (Nat × Value)} : i < n → R F d v → v.cells.size = s → (∀ u ∈ v.cells.toList, u.oneCell' = true) → Parts F s n ds vs → Parts F s n ((i, d) :: ds) ((i, v) :: vs)

theorem fill_sound {F : Fix} {s n : Nat} : ∀ {ds : List (Nat × D)} {vs : List (Nat × Value)}, Parts F s n ds vs → ∀ {els : List D} {cells : Array Value}, els.length = n → RE F s els cells.toList →
    ∃ cells', Instr.fill (fun i => some (i * s, s)) cells vs = some cells' ∧ RE F s (setAll els ds) cells'.toList
  | _, _, .nil, els, cells, _, h => ⟨cells, rfl, h⟩
  | _, _, .cons (i := i) (d := d) (v := v) (ds := ds) (vs := vs) hi hr hs h1 hp, els, cells, hn, h => by
    have hl : cells.size = n * s := by
      have := h.length
      rw [hn] at this
      simpa using this
    have his : (i + 1) * s ≤ n * s := Nat.mul_le_mul_right _ (by omega)
    have his1 : (i + 1) * s = i * s + s := by rw [Nat.add_mul, Nat.one_mul]
    have hfit : i * s + v.cells.size ≤ cells.size := by omega
    have hset := RE.set (k := i) h (by omega) hr hs h1
    obtain ⟨cells', e, g⟩ := fill_sound hp (els := els.set i d) (cells := v.cells.zipIdx.foldl (fun cs (p : Value × Nat) => cs.setIfInBounds (i * s + p.2) p.1) cells) (by simpa using hn) (by
      rw [fill_step _ _ _ hfit, hs, ← his1]
      exact hset)
    refine ⟨cells', ?_, g⟩
    simp only [Instr.fill]
    rw [if_neg (by simp [hs]; omega)]
    exact e

section
variable {P : Program} {C : Ctx} {G : Gh}
variable {base : Nat} {pass : Nat → Prop} {F0 : Anc} {m : Nat → Nat} {st : AS} {a : Act} {w : World}

/-- A new row of ours. -/
theorem row_fresh (h : SRg base pass F0 m G st a w) {k : Nat} (hk : lk st.objs k = none) {s e cap : Nat} {els : List D} {cs : Array Value} (hcs : cs.size = cap * s) (hcap : els.length ≤ cap) (hm : cap ≤ maxLen)
    (hre : RE ⟨w, m⟩ s els (cs.toList.take (els.length * s))) :
    ∃ G', Goes G (lk st.objs) G' (lk (upd st.objs k (.row s els 0))) ∧ Fix.le ⟨w, m⟩ ⟨w.alloc (.cells cs e), m⟩ ∧ SRg base pass F0 m G' ⟨st.tmps, upd st.objs k (.row s els 0)⟩ a (w.alloc (.cells cs e)) ∧
      RA ⟨w.alloc (.cells cs e), m⟩ G' (lk (upd st.objs k (.row s els 0))) (.sl k els.length) (.slice (some ⟨w.heap.size, 0, none⟩) els.length cap) := by
  obtain ⟨q1, q2, q3⟩ := h.fresh hk (.row s els 0) (.cells cs e) (.slice (some ⟨w.heap.size, 0, none⟩) els.length cap) (fun hg hF => by
    simp only [ObjOk]
    exact .inr ⟨w.heap.size, cap, cs, e, by simp, by simp, hcap, hm, heap_alloc_new w _, hcs, RE.mono hF hre, by rw [Nat.zero_mul]; exact h.new _ (Nat.le_refl _), Nat.zero_le _⟩)
  refine ⟨_, q1, q2, q3, ?_⟩
  simp only [RA, lk_upd, if_true]
  exact ⟨rfl, Nat.le_refl _, fun _ => trivial⟩

/-- What is told on, part by part. -/
theorem purParts_sound {s n : Nat} : ∀ {l : List (Nat × AV)} {vs : List (Nat × Value)} {c : Prop} {ps : List (Nat × D)} {os : Objs} {st : AS} {m : Nat → Nat}, SRg base pass F0 m G st a w → purParts C l st.objs = some (c, ps, os) → c →
    allLt n l = true → allFit s (ps.map (·.2)) → l.length = vs.length → (∀ (j i : Nat) (x : AV), l[j]? = some (i, x) → ∃ v, vs[j]? = some (i, v) ∧ RA ⟨w, m⟩ G (lk st.objs) x v) →
    ∃ m', SRg base pass F0 m' G ⟨st.tmps, os⟩ a w ∧ Fix.le ⟨w, m⟩ ⟨w, m'⟩ ∧ Goes G (lk st.objs) G (lk os) ∧ Parts ⟨w, m'⟩ s n ps vs
  | [], vs, c, ps, os, st, m, h, hp, _, _, _, hl, _ => by
    simp only [purParts, Option.some.injEq, Prod.mk.injEq] at hp
    obtain ⟨rfl, rfl, rfl⟩ := hp
    have : vs = [] := List.eq_nil_of_length_eq_zero (by simpa using hl.symm)
    subst this
    exact ⟨m, h, Fix.le_refl _, Goes.refl _ _, .nil⟩
  | (i, x) :: l, vs, c, ps, os, st, m, h, hp, hc, hlt, hf, hl, hv => by
    simp only [purParts] at hp
    split at hp
    · next c1 y o1 hp1 =>
      split at hp
      · next c2 ps2 o2 hp2 =>
        simp only [Option.some.injEq, Prod.mk.injEq] at hp
        obtain ⟨rfl, rfl, rfl⟩ := hp
        simp only [allLt, Bool.and_eq_true, decide_eq_true_eq] at hlt
        simp only [List.map_cons, allFit] at hf
        cases vs with
        | nil => simp at hl
        | cons p vs =>
          obtain ⟨v, e1, g2⟩ := hv 0 i x rfl
          simp only [List.getElem?_cons_zero, Option.some.injEq] at e1
          subst e1
          obtain ⟨m1, k1, k2, k3, k4⟩ := pur_sound h hp1 hc.1 g2
          obtain ⟨m2, j1, j2, j3, j4⟩ := purParts_sound (vs := vs) (st := ⟨st.tmps, o1⟩) k1 hp2 hc.2 hlt.2 hf.2 (by simpa using hl) (fun j i x hj => by
            obtain ⟨v', e, g⟩ := hv (j + 1) i x (by simpa using hj)
            exact ⟨v', by simpa using e, RA.mono k2 k3 g⟩)
          obtain ⟨f1, f2⟩ := R.cellsD k4 hf.1
          refine ⟨m2, j1, Fix.le_trans k2 j2, ?_, .cons hlt.1 (k4.mono j2) f1 f2 j4⟩
          intro j o hj
          obtain ⟨oa, a1, a2, a3⟩ := k3 j o hj
          obtain ⟨ob, b1, b2, b3⟩ := j3 j oa a1
          refine ⟨ob, b1, fun hb => ⟨(a2 (b2 hb).1).1, rfl⟩, fun s' els' k' he => ?_⟩
          obtain ⟨els1, kk1, e1, e2, _⟩ := b3 s' els' k' he
          obtain ⟨els2, kk2, f1, f2, _⟩ := a3 s' els1 kk1 e1
          exact ⟨els2, kk2, f1, Nat.le_trans f2 e2, fun _ => ⟨rfl, rfl⟩⟩
      · cases hp
    · cases hp

theorem setAll_length : ∀ (ps : List (Nat × D)) (l : List D), (setAll l ps).length = l.length
  | [], l => rfl
  | (i, x) :: r, l => by rw [setAll, setAll_length r]; simp

theorem buildSlice_sound (T : TabOk P C.τ) (h : SRg base pass F0 m G st a w) {t n k : Nat} {l : List (Nat × AV)} {vs : List (Nat × Value)} {c : Prop} {z : AV} {os : Objs} (hl : l.length = vs.length)
    (hv : ∀ (j i : Nat) (x : AV), l[j]? = some (i, x) → ∃ v, vs[j]? = some (i, v) ∧ RA ⟨w, m⟩ G (lk st.objs) x v)
    (hh : hBuildSlice C t n l k st.objs = some (c, z, os)) (hc : c) : Tells P base pass F0 a st.tmps (Instr.buildSlice t n vs.toArray) w z os := by
  unfold hBuildSlice at hh
  split at hh
  · next e hk =>
    obtain ⟨d, hd, hkd⟩ := T.kind hk rfl
    simp only [TK.is] at hkd
    obtain ⟨rfl, he⟩ := hkd
    have te := T e he
    obtain ⟨i, zv, h1, h2, h3, h4, _, h5, h6, h7⟩ := te.info
    split at hh
    · next c1 ps o1 hp =>
      split at hh
      · next hk0 =>
        split at hh
        · next hs =>
          simp only [Option.some.injEq, Prod.mk.injEq] at hh
          obtain ⟨rfl, rfl, rfl⟩ := hh
          obtain ⟨m1, k1, k2, k3, k4⟩ := purParts_sound h hp hc.1 hs.2 hc.2 hl hv
          have hsz : C.size e = zv.cells.size := h6.symm
          have hz : 0 < zv.cells.size := by rw [h6]; exact te.pos
          have hmade := RE_made (h5 ⟨w, m1⟩) h7 hz n
          rw [← zerosD_eq] at hmade
          rw [hsz] at k4
          obtain ⟨cells, hf1, hf2⟩ := fill_sound k4 (by rw [zerosD_eq]; simp) hmade
          have hlen : (setAll (zerosD (C.τ e).zd n) ps).length = n := by rw [setAll_length, zerosD_eq]; simp
          have hcsz : cells.size = n * zv.cells.size := by
            have := hf2.length
            rw [hlen] at this
            simpa using this
          have hnb : n * zv.cells.size ≤ 16777216 := by rw [← hsz]; exact hs.1
          have hnm : n ≤ maxLen := by
            have : n * 1 ≤ n * zv.cells.size := Nat.mul_le_mul_left _ hz
            simp [maxLen]
            omega
          obtain ⟨G', q1, q2, q3, q4⟩ := row_fresh k1 hk0 (e := e) (cap := n) hcsz (by rw [hlen]; exact Nat.le_refl _) hnm (by rw [hlen, ← hcsz, List.take_of_length_le (by simp)]; exact hf2)
          rw [hlen] at q4
          rw [← hsz] at q3 q4
          refine ⟨_, _, m1, G', ?_, q3, q4⟩
          have hi : i.size = zv.cells.size := by rw [h2, h6]
          have hz0 : (Instr.buildSlice t n vs.toArray).run P w = (match Instr.fill (fun i => some (i * zv.cells.size, zv.cells.size)) (madeCells zv.cells (n * zv.cells.size)) vs with
              | some cells => (do pure (.slice (some (← newRow e cells)) n n) : Sem Value)
              | none => stuck "buildSlice: a part of the wrong size").run P w := by
            have hlt : ¬ (16777216 < n * zv.cells.size) := by omega
            by_cases h0 : n * zv.cells.size = 0
            · have hn0 : n = 0 := by
                rcases Nat.mul_eq_zero.1 h0 with h | h
                · exact h
                · omega
              subst hn0
              have e0 : Array.range 0 = #[] := rfl
              simp [Instr.buildSlice, run_underlying hd, sizeOf, typeInfo, h1, hi, madeCells, e0]
              cases Instr.fill (fun i => some (i * zv.cells.size, zv.cells.size)) #[] vs <;> rfl
            · simp [Instr.buildSlice, run_underlying hd, sizeOf, typeInfo, zeroValue, h1, h4, hi, hlt, h0, madeCells]
              cases Instr.fill (fun i => some (i * zv.cells.size, zv.cells.size)) ((Array.range (n * zv.cells.size)).map fun x => zv.cells[x % zv.cells.size]!) vs <;> rfl
          rw [hz0, hf1]
          simp [newRow]
        · cases hh
      · cases hh
    · cases hh
  · cases hh

theorem makeSlice_sound (T : TabOk P C.τ) (h : SRg base pass F0 m G st a w) {t k : Nat} {x y : AV} {vx vy : Value} {c : Prop} {z : AV} {os : Objs} (hx : RA ⟨w, m⟩ G (lk st.objs) x vx) (hy : RA ⟨w, m⟩ G (lk st.objs) y vy)
    (hh : hMakeSlice C t x y k st.objs = some (c, z, os)) (hc : c) : Tells P base pass F0 a st.tmps (Instr.makeSlice t vx vy) w z os := by
  unfold hMakeSlice at hh
  split at hh
  · next e la lb hk =>
    obtain ⟨d, hd, hkd⟩ := T.kind hk rfl
    simp only [TK.is] at hkd
    obtain ⟨rfl, he⟩ := hkd
    have te := T e he
    obtain ⟨i, zv, h1, h2, h3, h4, _, h5, h6, h7⟩ := te.info
    split at hh
    · next hk0 =>
      simp only [Option.some.injEq, Prod.mk.injEq] at hh
      obtain ⟨rfl, rfl, rfl⟩ := hh
      obtain ⟨c1, c2, c3, c4, c5, c6⟩ := hc
      simp only [RA] at hx hy
      obtain ⟨k1, rfl⟩ := hx.of_anyInt c1
      obtain ⟨k2, rfl⟩ := hy.of_anyInt c2
      have hr := run_make (P := P) w t e i zv hd h1 h4 k1 k2 la.i lb.i c3 (by omega) (by rw [h3]; exact c5) (by omega)
      have hi : i.size = zv.cells.size := by rw [h2, h6]
      rw [hi, ← c4] at hr
      have hz : 0 < zv.cells.size := by rw [h6]; exact te.pos
      have hmade := RE_made (h5 ⟨w, m⟩) h7 hz la.i.toNat
      have hsz : C.size e = zv.cells.size := h6.symm
      obtain ⟨G', q1, q2, q3, q4⟩ := row_fresh h hk0 (s := zv.cells.size) (e := e) (cap := la.i.toNat) (els := List.replicate la.i.toNat (C.τ e).zd) (cs := madeCells zv.cells (la.i.toNat * zv.cells.size)) (size_madeCells _ _) (by simp) (by simp [maxLen]; omega) (by
        rw [List.take_of_length_le (by simp [size_madeCells])]
        exact hmade)
      rw [← hsz] at q3 q4
      rw [← hsz] at hr
      simp only [List.length_replicate] at q4
      exact ⟨_, _, m, G', by rw [← c4]; exact hr, q3, q4⟩
    · cases hh
  · cases hh

/-! ### append -/
theorem run_append_room' {P : Program} {w : World} (t ty e tb : TypeId) (i : TypeInfo) (ht : P.underlying t = some (.slice e)) (hi : P.info? e = some i)
    (g sLen sCap : Nat) (cur : Array Value) (hg : w.heap[g]? = some (.cells cur tb (0, 0)))
    (a : Addr) (m c : Nat) (news : List Value) (hl : news.length = m * i.size) (hnews : ∀ j u, news[j]? = some u → w.cell? (a.add j) = some u) (h1 : ∀ u ∈ news, u.oneCell' = true)
    (hroom : sLen + m ≤ sCap) (hfit : sLen * i.size + news.length ≤ cur.size) :
    (Builtin.append_ #[t, t] ty #[.slice (some ⟨g, 0, none⟩) sLen sCap, .slice (some a) m c]).run P w =
      .ok (.slice (some ⟨g, 0, none⟩) (sLen + m) sCap) (w.setRow g (cur.toList.take (sLen * i.size) ++ news ++ cur.toList.drop (sLen * i.size + news.length)).toArray) := by
  have hf := run_firstCells_some (P := P) w i.size m a m c news hl hnews
  have hst := run_storeCells_at P g (sLen * i.size) tb news 0 cur w hg (by simpa using hfit) h1
  simp only [Nat.add_zero] at hst
  simp [Builtin.append_, run_underlying ht, sizeOf, typeInfo, hi, Builtin.lenOf, hroom, hf, Addr.add_lit, hst]

theorem run_append_none {P : Program} {w : World} (t ty e : TypeId) (i : TypeInfo) (ht : P.underlying t = some (.slice e)) (hi : P.info? e = some i)
    (A : Option Addr) (n cap c : Nat) (B : Option Addr) (hn : n ≤ cap) :
    (Builtin.append_ #[t, t] ty #[.slice A n cap, .slice B 0 c]).run P w = .ok (.slice A n cap) w := by
  cases A with
  | none => cases B <;> simp [Builtin.append_, run_underlying ht, sizeOf, typeInfo, hi, Builtin.lenOf, hn, Builtin.firstCells, loadCells, loadCellsFrom]
  | some A => cases B <;> simp [Builtin.append_, run_underlying ht, sizeOf, typeInfo, hi, Builtin.lenOf, hn, Builtin.firstCells, loadCells, loadCellsFrom, storeCells]

/-- What is appended lies in memory. -/
theorem source_sound (h : SRg base pass F0 m G st a w) {s : Nat} {x : AV} {v : Value} {c : Prop} {xs : List D} (hx : RA ⟨w, m⟩ G (lk st.objs) x v) (hh : hSource s x st.objs = some (c, xs)) (hc : c) :
    ∃ B cap, v = .slice B xs.length cap ∧ (xs = [] ∨ ∃ b off vs, B = some ⟨b, off, none⟩ ∧ RE ⟨w, m⟩ s xs vs ∧ ∀ j u, vs[j]? = some u → w.cell? ⟨b, off + j, none⟩ = some u) := by
  unfold hSource at hh
  split at hh
  · next y =>
    simp only [Option.some.injEq, Prod.mk.injEq] at hh
    obtain ⟨rfl, rfl⟩ := hh
    simp only [RA] at hx
    have h2 := hx.of_list hc
    simp only [R] at h2
    obtain ⟨A, cap, rfl, _, _, g⟩ := h2
    refine ⟨A, cap, rfl, ?_⟩
    by_cases hl : y.l = []
    · exact .inl hl
    · obtain ⟨b, off, vs, rfl, q1, q2⟩ := g hl
      exact .inr ⟨b, off, vs, rfl, q1, q2.2⟩
  · next k =>
    simp only [Option.some.injEq, Prod.mk.injEq] at hh
    obtain ⟨rfl, rfl⟩ := hh
    simp only [RA] at hx
    exact ⟨none, 0, hx, .inl rfl⟩
  · next i n =>
    split at hh
    · next s' els k hi =>
      split at hh
      · next hs =>
        simp only [Option.some.injEq, Prod.mk.injEq] at hh
        obtain ⟨rfl, rfl⟩ := hh
        simp only [RA, hi] at hx
        have hv := hx.2.2 hc
        have hok := h.objs i _ hi
        simp only [ObjOk] at hok
        rcases hok with ⟨_, h2, rfl, _⟩ | ⟨b, cap, cs, ty, h1, h2, h3, h4, h5, h6, h7, h8, h9⟩
        · exact ⟨none, 0, by rw [hv, h2]; rfl, .inl rfl⟩
        · subst hs
          refine ⟨_, cap, by rw [hv, h2], .inr ⟨b, 0, _, rfl, h7, fun j u hu => ?_⟩⟩
          rw [Nat.zero_add, cell_row h5]
          rw [List.getElem?_take] at hu
          split at hu
          · simpa using hu
          · cases hu
      · cases hh
    · cases hh
  · cases hh

theorem RE.one_all {F : Fix} {s : Nat} : ∀ {l : List D} {vs : List Value}, RE F s l vs → ∀ u ∈ vs, u.oneCell' = true
  | [], _, h, u, hu => by simp only [RE] at h; subst h; cases hu
  | x :: l, vs, h, u, hu => by
    simp only [RE] at h
    obtain ⟨v, r, rfl, _, h3, _, h5⟩ := h
    rcases List.mem_append.1 hu with hu | hu
    · exact h3 u hu
    · exact RE.one_all h5 u hu

theorem size_zeroCells' (z : Array Value) (n : Nat) : (Builtin.zeroCells z n).size = n * z.size := by simp [Builtin.zeroCells]

theorem append_sound (T : TabOk P C.τ) (h : SRg base pass F0 m G st a w) {t k : Nat} {s x : AV} {vs vx : Value} {c : Prop} {z : AV} {os : Objs} (hs : RA ⟨w, m⟩ G (lk st.objs) s vs) (hx : RA ⟨w, m⟩ G (lk st.objs) x vx)
    (hh : hAppend C t s x k st.objs = some (c, z, os)) (hc : c) (ty : TypeId) : Tells P base pass F0 a st.tmps (Builtin.append_ #[t, t] ty #[vs, vx]) w z os := by
  unfold hAppend at hh
  split at hh
  · next e hk =>
    obtain ⟨d, hd, hkd⟩ := T.kind hk rfl
    simp only [TK.is] at hkd
    obtain ⟨rfl, he⟩ := hkd
    have te := T e he
    obtain ⟨ii, zv, i1, i2, i3, i4, _, i5, i6, i7⟩ := te.info
    have hsz : C.size e = ii.size := i2.symm
    split at hh
    · next c1 xs hsrc =>
      split at hh
      · -- onto nothing
        next s0 =>
        split at hh
        · next hk0 =>
          simp only [Option.some.injEq, Prod.mk.injEq] at hh
          obtain ⟨rfl, rfl, rfl⟩ := hh
          obtain ⟨hc1, hc2, hc3⟩ := hc
          simp only [RA] at hs
          subst hs
          obtain ⟨B, cap, rfl, hB⟩ := source_sound h hx hsrc hc1
          by_cases hxs : xs = []
          · subst hxs
            have hr := run_append_none (w := w) t ty e ii hd i1 none 0 0 cap B (Nat.le_refl _)
            -- an empty row, without a block
            obtain ⟨q1, q2⟩ := h.obj k (.row (C.size e) [] 0) (w' := w) (m' := m) (G' := ⟨fun j => if j = k then none else G.γ j, fun j => if j = k then .slice none 0 0 else G.hd j⟩) (Fix.le_refl _)
              (fun j hj => by simp [hj]) (fun o ho => by rw [hk0] at ho; cases ho) (fun _ => by simp only [ObjOk]; exact .inl (by simp))
              (fun _ _ _ _ _ _ _ => ⟨rfl, rfl⟩) (fun _ b hb => by simp at hb) (Frame.refl _ _ _) (fun _ _ _ => rfl) h.new
            refine ⟨_, w, m, _, hr, q2, ?_⟩
            simp only [RA, lk_upd, if_true]
            exact ⟨rfl, Nat.le_refl _, fun _ => trivial⟩
          · rcases hB with hB | ⟨b, off, us, rfl, g1, g2⟩
            · exact absurd hB hxs
            have hpos : 0 < xs.length := List.length_pos_iff.2 hxs
            rw [hsz] at g1
            have hul := g1.length
            have hbytes : xs.length * ii.bytes ≤ 281474976710656 := by rw [i3]; omega
            have hr := run_append_nil (P := P) w t ty e ii zv hd i1 i4 ⟨b, off, none⟩ xs.length cap us hul (fun j u hu => by rw [addr_add]; exact g2 j u hu) hpos (by omega) hbytes
            have hcapm := grownCap_le_maxLen w xs.length 0 e (by simp [maxLen]; omega)
            have hcapge := grownCap_ge w xs.length 0 e
            obtain ⟨G', q1, q2, q3, q4⟩ := row_fresh h.drew hk0 (s := ii.size) (e := e) (cap := grownCap w xs.length 0 e) (els := xs) (cs := us.toArray ++ Builtin.zeroCells zv.cells (grownCap w xs.length 0 e - xs.length))
              (by simp [size_zeroCells', hul, i6, ← i2, ← Nat.add_mul]; congr 1; omega) hcapge hcapm (by
                rw [← hul]
                simp only [Array.toList_append, List.take_left']
                simpa using (RE.mono (F := ⟨w, m⟩) (F' := ⟨w.drew, m⟩) (fun _ => ⟨Nat.le_refl _, fun _ _ => rfl⟩) g1))
            rw [hsz]
            exact ⟨_, _, m, G', hr, q3, q4⟩
        · cases hh
      · next i n =>
        split at hh
        · next s' els kk hi =>
          split at hh
          · next hss =>
            simp only [Option.some.injEq, Prod.mk.injEq] at hh
            obtain ⟨rfl, rfl, rfl⟩ := hh
            obtain ⟨hc1, hc2, hc3, hc4⟩ := hc
            subst hss
            obtain ⟨B, cap, rfl, hB⟩ := source_sound h hx hsrc hc1
            simp only [RA, hi] at hs
            have hv := hs.2.2 hc2
            have hok := h.objs i _ hi
            simp only [ObjOk] at hok
            by_cases hxs : xs = []
            · -- nothing is appended
              subst hxs
              have hu : ∀ j, lk (upd st.objs i (.row (C.size e) (els ++ []) kk)) j = lk st.objs j := fun j => by
                rw [lk_upd]
                split
                · next e => subst e; rw [hi, List.append_nil]
                · rfl
              have hL : lk (upd st.objs i (.row (C.size e) (els ++ []) kk)) = lk st.objs := funext hu
              have hle : ∃ A cap', vs = .slice A els.length cap' ∧ els.length ≤ cap' := by
                rcases hok with ⟨_, h2, rfl, _⟩ | ⟨b, cap', cs, tb, h1, h2, h3, _⟩
                · exact ⟨none, 0, by rw [hv, h2]; rfl, Nat.le_refl _⟩
                · exact ⟨_, cap', by rw [hv, h2], h3⟩
              obtain ⟨A, cap', hvs, hle⟩ := hle
              have hr := run_append_none (w := w) t ty e ii hd i1 A els.length cap' cap B hle
              rw [← hvs] at hr
              refine ⟨_, w, m, G, hr, ⟨h.defers, by simp only [hL]; exact h.tmps, by simp only [hL]; exact h.objs, by simp only [hL]; exact h.apart, by simp only [hL]; exact h.mine, h.frame, h.old, h.new, h.small, by simp only [hL]; exact h.lent⟩, ?_⟩
              rw [hL]
              simp only [RA, hi, List.append_nil]
              exact ⟨hs.1, Nat.le_refl _, fun _ => hv⟩
            · rcases hB with hB | ⟨b, off, us, rfl, g1, g2⟩
              · exact absurd hB hxs
              have hpos : 0 < xs.length := List.length_pos_iff.2 hxs
              have g1' := g1
              rw [hsz] at g1'
              have hul := g1'.length
              have hbytes : (els.length + xs.length) * ii.bytes ≤ 140737488355328 := by rw [i3]; exact hc3
              have hnews : ∀ j u, us[j]? = some u → w.cell? ((⟨b, off, none⟩ : Addr).add j) = some u := fun j u hu => by rw [addr_add]; exact g2 j u hu
              -- a new block for the grown row
              have grow : ∀ (cap' : Nat) (cs' : Array Value), cs'.size = cap' * ii.size → (els ++ xs).length ≤ cap' → cap' ≤ maxLen → RE ⟨w, m⟩ ii.size (els ++ xs) (cs'.toList.take ((els ++ xs).length * ii.size)) → kk = 0 ∨ 0 < els.length →
                  ∃ G' m', SRg base pass F0 m' G' ⟨st.tmps, upd st.objs i (.row ii.size (els ++ xs) kk)⟩ a (w.drew.alloc (.cells cs' e)) ∧
                    RA ⟨w.drew.alloc (.cells cs' e), m'⟩ G' (lk (upd st.objs i (.row ii.size (els ++ xs) kk))) (.sl i (els ++ xs).length) (.slice (some ⟨w.heap.size, 0, none⟩) (els ++ xs).length cap') := by
                intro cap' cs' hcs hcap' hm' hre hkk
                have hkn : kk ≤ els.length := by
                  rcases hok with ⟨_, _, rfl, rfl⟩ | ⟨_, _, _, _, _, _, _, _, _, _, _, _, h9⟩
                  · simp
                  · exact h9
                have hFa := Fix.le_alloc (w := w.drew) (m := m) h.new (.cells cs' e)
                have hF0 : Fix.le ⟨w, m⟩ ⟨w.drew.alloc (.cells cs' e), m⟩ := hFa
                have hF : Fix.le ⟨w, m⟩ ⟨w.drew.alloc (.cells cs' e), fun x => if x = w.heap.size then kk * ii.size else m x⟩ := by
                  intro x
                  by_cases hx : x = w.heap.size
                  · subst hx
                    have := h.new w.heap.size (Nat.le_refl _)
                    exact ⟨by simp [this], fun off ho => by simp only [this] at ho; omega⟩
                  · exact ⟨by simp [hx], (hF0 x).2⟩
                obtain ⟨q1, q2⟩ := h.obj i (.row ii.size (els ++ xs) kk) (w' := w.drew.alloc (.cells cs' e)) (m' := fun x => if x = w.heap.size then kk * ii.size else m x)
                  (G' := ⟨fun j => if j = i then some w.heap.size else G.γ j, fun j => if j = i then .slice (some ⟨w.heap.size, 0, none⟩) (els ++ xs).length cap' else G.hd j⟩) hF
                  (fun j hj => by simp [hj]) (fun o ho => by
                    rw [hi] at ho
                    injection ho with ho
                    subst ho
                    refine ⟨by simp [Obj.isBox], fun s2 els2 k2 he2 => ?_⟩
                    simp only [Obj.row.injEq] at he2
                    obtain ⟨rfl, rfl, rfl⟩ := he2
                    exact ⟨els, kk, by rw [hsz], by simp, fun hl => by rw [List.length_append] at hl; omega⟩)
                  (fun hg => by
                    simp only [ObjOk]
                    exact .inr ⟨w.heap.size, cap', cs', e, by simp, by simp, hcap', hm', heap_alloc_new w.drew _, hcs, RE.mono hF hre, by simp, by simp; omega⟩)
                  (fun j o hj hl ho b' hb' => by
                    have hlt := (h.mine j o b' hl ho hb').1
                    exact ⟨Below.heap_alloc w.drew _ b' hlt, by simp; intro e; omega⟩)
                  (fun _ b' hb' => by
                    simp only [if_true, Option.some.injEq] at hb'
                    subst hb'
                    refine ⟨by simp, .inl h.small, fun j o hj hl ho hbj => ?_⟩
                    have := (h.mine j o _ hl ho hbj).1
                    omega)
                  ⟨rfl, rfl, rfl, by simp, fun b' hb' _ => Below.heap_alloc w.drew _ b' (Nat.lt_of_lt_of_le hb' h.small)⟩
                  (fun b' hb' _ => by have := h.small; simp; intro e; omega)
                  (fun b' hb' => by
                    simp at hb'
                    have : b' ≠ w.heap.size := by omega
                    simp [this]
                    exact h.new b' (by omega))
                refine ⟨_, _, q2, ?_⟩
                simp only [RA, lk_upd, if_true]
                exact ⟨rfl, Nat.le_refl _, fun _ => trivial⟩
              rcases hok with ⟨h1, h2, rfl, rfl⟩ | ⟨bb, cap', cs, tb, h1, h2, h3, h4, h5, h6, h7, h8, h9⟩
              · -- the first ones
                rw [h2] at hv
                subst hv
                have hr := run_append_nil (P := P) w t ty e ii zv hd i1 i4 ⟨b, off, none⟩ xs.length cap us hul hnews hpos (by omega) (by simp at hbytes; omega)
                have hcapm := grownCap_le_maxLen w xs.length 0 e (by simp [maxLen]; omega)
                have hcapge := grownCap_ge w xs.length 0 e
                obtain ⟨G', m', q1, q2⟩ := grow (grownCap w xs.length 0 e) (us.toArray ++ Builtin.zeroCells zv.cells (grownCap w xs.length 0 e - xs.length))
                  (by simp [size_zeroCells', hul, i6, ← i2, ← Nat.add_mul]; congr 1; omega) (by simpa using hcapge) hcapm (by
                    simp only [List.nil_append]
                    rw [← hul]
                    simpa using g1') (.inl rfl)
                rw [hsz]
                simp only [List.nil_append] at q1 q2 ⊢
                exact ⟨_, _, m', G', hr, q1, q2⟩
              · rw [h2] at hv
                subst hv
                by_cases hroom : els.length + xs.length ≤ cap'
                · -- there is room
                  rw [hsz] at h6 h7 h8
                  have hfit : els.length * ii.size + us.length ≤ cs.size := by rw [hul, h6, ← Nat.add_mul]; exact Nat.mul_le_mul_right _ hroom
                  have hone := RE.one_all g1
                  have hr := run_append_room' (w := w) t ty e tb ii hd i1 bb els.length cap' cs h5 ⟨b, off, none⟩ xs.length cap us hul hnews hone hroom hfit
                  have hmm := h.mine i _ bb hi rfl h1
                  have hks : kk * ii.size ≤ els.length * ii.size := Nat.mul_le_mul_right _ h9
                  have hF : Fix.le ⟨w, m⟩ ⟨w.setRow bb (cs.toList.take (els.length * ii.size) ++ us ++ cs.toList.drop (els.length * ii.size + us.length)).toArray, m⟩ := Fix.le_setRow h5 (fun o ho => by
                    rw [show m bb = kk * ii.size from h8] at ho
                    rw [← Array.getElem?_toList]
                    simp only [List.append_assoc]
                    rw [List.getElem?_append_left (by simp; omega), List.getElem?_take, if_pos (by omega)]
                    simp)
                  obtain ⟨q1, q2⟩ := h.obj i (.row (C.size e) (els ++ xs) kk) (w' := w.setRow bb (cs.toList.take (els.length * ii.size) ++ us ++ cs.toList.drop (els.length * ii.size + us.length)).toArray) (m' := m)
                    (G' := ⟨G.γ, fun j => if j = i then .slice (some ⟨bb, 0, none⟩) (els ++ xs).length cap' else G.hd j⟩) hF
                    (fun j hj => by simp [hj]) (fun o ho => by
                      rw [hi] at ho
                      injection ho with ho
                      subst ho
                      refine ⟨by simp [Obj.isBox], fun s2 els2 k2 he2 => ?_⟩
                      simp only [Obj.row.injEq] at he2
                      obtain ⟨rfl, rfl, rfl⟩ := he2
                      exact ⟨els, kk, rfl, by simp, fun hl => by rw [List.length_append] at hl; omega⟩)
                    (fun hg => by
                      simp only [ObjOk]
                      rw [hsz]
                      refine .inr ⟨bb, cap', _, tb, h1, by simp, by simpa using hroom, h4, setRow_heap w bb cs _ tb (0, 0) h5, ?_, ?_, h8, by simp; omega⟩
                      · simp
                        rw [h6] at hfit ⊢
                        omega
                      · have hl2 : (els ++ xs).length * ii.size = (cs.toList.take (els.length * ii.size) ++ us).length := by
                          simp [Nat.add_mul, hul]
                          omega
                        rw [hl2]
                        simp only [List.take_left']
                        exact RE.append (RE.mono hF h7) (RE.mono hF g1'))
                    (fun j o hj hl ho b' hb' => by
                      have : b' ≠ bb := fun e => hj (h.apart j i o _ bb hl hi ho rfl (e ▸ hb') h1)
                      exact ⟨setRow_other w bb b' _ this, rfl⟩)
                    (fun _ b' hb' => by
                      simp only [h1, Option.some.injEq] at hb'
                      subst hb'
                      exact ⟨by simpa using hmm.1, hmm.2, fun j o hj hl ho hbj => hj (h.apart j i o _ bb hl hi ho rfl hbj h1)⟩)
                    ⟨rfl, rfl, rfl, by simp, fun b' hlt hp => setRow_other w bb b' _ (fun e => by
                      subst e
                      rcases hmm.2 with h1 | h1
                      · omega
                      · exact hp h1)⟩
                    (fun _ _ _ => rfl) (fun b' hge => h.new b' (by simpa using hge))
                  refine ⟨_, _, m, _, hr, q2, ?_⟩
                  simp only [RA, lk_upd, if_true]
                  exact ⟨rfl, Nat.le_refl _, fun _ => by simp⟩
                · -- it grows
                  have hvl := h7.length
                  rw [hsz] at h7 hvl
                  have hr := run_append_grow (P := P) w t ty e ii zv hd i1 i4 ⟨bb, 0, none⟩ els.length cap' (cs.toList.take (els.length * ii.size)) hvl (fun j u hu => by
                      rw [addr_add, Nat.zero_add, cell_row h5]
                      rw [List.getElem?_take] at hu
                      split at hu
                      · simpa using hu
                      · cases hu) ⟨b, off, none⟩ xs.length cap us hul hnews (by omega) (by omega) (growslice_fits (by omega) hbytes)
                  have hcapm := grownCap_le_maxLen w (els.length + xs.length) cap' e (by simp [maxLen]; omega)
                  have hcapge := grownCap_ge w (els.length + xs.length) cap' e
                  have hpos' : kk = 0 ∨ 0 < els.length := by omega
                  obtain ⟨G', m', q1, q2⟩ := grow (grownCap w (els.length + xs.length) cap' e) ((cs.toList.take (els.length * ii.size)).toArray ++ us.toArray ++ Builtin.zeroCells zv.cells (grownCap w (els.length + xs.length) cap' e - (els.length + xs.length)))
                    (by
                      simp only [Array.size_append, List.size_toArray, size_zeroCells', hvl, hul, i6, ← i2, ← Nat.add_mul]
                      congr 1
                      omega) (by simpa using hcapge) hcapm (by
                      have hl2 : (els ++ xs).length * ii.size = (cs.toList.take (els.length * ii.size) ++ us).length := by
                        rw [List.length_append, List.length_append, hvl, hul, Nat.add_mul]
                      rw [hl2]
                      simp only [Array.toList_append, List.take_left']
                      exact RE.append h7 g1') hpos'
                  rw [hsz]
                  refine ⟨_, _, m', G', hr, q1, ?_⟩
                  simpa using q2
          · cases hh
        · cases hh
      · cases hh
    · cases hh
  · cases hh

end
end Go.Am
