/-
  The abstract machine, part 9: operations on memory: variables, fields, elements.
-/
import Derived.Test.YtecgdmiigdfgdaaAm8
namespace Go.Am
open Go.RowKit (Below)

/-- What an operation comes to. -/
def Tells (P : Program) (base : Nat) (pass : Nat → Prop) (F0 : Anc) (a : Act) (tm : List AV) (s : Sem Value) (w : World) (z : AV) (os : Objs) : Prop :=
  ∃ v w' m' G', s.run P w = .ok v w' ∧ SRg base pass F0 m' G' ⟨tm, os⟩ a w' ∧ RA ⟨w', m'⟩ G' (lk os) z v

section
variable {P : Program} {C : Ctx} {F : Fix} {G : Gh} {L : Nat → Option Obj}

theorem one_cells {v : Value} (h : v.oneCell' = true) : v.cells = #[v] := by cases v <;> simp_all [Value.oneCell', Value.cells]

theorem R.oneCell {x : D} {v : Value} (h : R F x v) (h1 : ∀ l, x ≠ .agg l) (h2 : ∀ l, x ≠ .tup l) : v.oneCell' = true := by
  cases x with
  | agg l => exact absurd rfl (h1 l)
  | tup l => exact absurd rfl (h2 l)
  | list s l =>
    simp only [R] at h
    obtain ⟨A, c, rfl, _⟩ := h
    rfl
  | ptr s x =>
    simp only [R] at h
    obtain ⟨b, off, u, rfl, _⟩ := h
    rfl
  | clo f l =>
    simp only [R] at h
    obtain ⟨cs, rfl, _⟩ := h
    rfl
  | _ => simp only [R] at h; subst h; rfl

theorem R.cellsD {x : D} {v : Value} {s : Nat} (h : R F x v) (hf : x.fits s) : v.cells.size = s ∧ ∀ u ∈ v.cells.toList, u.oneCell' = true := by
  cases x with
  | agg l =>
    simp only [R] at h
    obtain ⟨cs, rfl, h2, h3⟩ := h
    simp only [D.fits] at hf
    refine ⟨by simp [Value.cells, Rs.length h2, hf], by simpa [Value.cells] using h3⟩
  | tup l => exact absurd hf (by simp [D.fits])
  | _ =>
    have h1 := R.oneCell h (by simp) (by simp)
    simp only [D.fits] at hf
    subst hf
    rw [one_cells h1]
    simpa using h1

theorem R.cell {x : D} {v u : Value} {f : Nat} (h : R F x v) (hu : v.cells.toList[f]? = some u) : R F (x.cell f) u := by
  cases x with
  | agg l =>
    simp only [R] at h
    obtain ⟨cs, rfl, h2, h3⟩ := h
    simp only [Value.cells] at hu
    have hf : f < l.length := by
      rw [← Rs.length h2]
      exact (List.getElem?_eq_some_iff.1 hu).1
    obtain ⟨u', g1, g2⟩ := h2.at (List.getElem?_eq_getElem hf)
    rw [hu] at g1
    injection g1 with g1
    subst g1
    simp only [D.cell, List.getD_eq_getElem?_getD, List.getElem?_eq_getElem hf, Option.getD_some]
    exact g2
  | tup l =>
    have h0 := h
    simp only [R] at h
    obtain ⟨cs, rfl, _⟩ := h
    simp only [Value.cells] at hu
    cases f with
    | zero => simp at hu; subst hu; exact h0
    | succ f => simp at hu
  | _ =>
    have h1 := R.oneCell h (by simp) (by simp)
    rw [one_cells h1] at hu
    cases f with
    | zero => simp at hu; subst hu; exact h
    | succ f => simp at hu

theorem R.asAgg {x : D} {v : Value} (h : R F x v) (h1 : ∀ u ∈ v.cells.toList, u.oneCell' = true) : R F x.asAgg (.agg v.cells) := by
  cases x with
  | agg l =>
    simp only [R] at h
    obtain ⟨cs, rfl, h2, h3⟩ := h
    simp only [D.asAgg, R, Value.cells]
    exact ⟨cs, rfl, h2, h3⟩
  | _ =>
    simp only [D.asAgg]
    have hv : v.cells = #[v] := by
      cases v with
      | agg cs => simp [R] at h
      | _ => rfl
    rw [hv] at h1 ⊢
    simp only [R]
    refine ⟨[v], rfl, ?_, by simpa using h1⟩
    simp only [Rs]
    exact ⟨v, [], rfl, h, rfl⟩

theorem cells_sound {ag : Bool} {s : Nat} {x : AV} {v : Value} (h : RA F G L x v) (hf : x.fits s) :
    RAs F G L (x.cells ag s) v.cells.toList ∧ v.cells.size = s ∧ ∀ u ∈ v.cells.toList, u.oneCell' = true := by
  have one : v.oneCell' = true → s = 1 → RAs F G L [x] v.cells.toList ∧ v.cells.size = s ∧ ∀ u ∈ v.cells.toList, u.oneCell' = true := by
    intro h1 hs
    subst hs
    rw [one_cells h1]
    exact ⟨by simp only [RAs]; exact ⟨v, [], rfl, h, rfl⟩, rfl, by simpa using h1⟩
  cases x with
  | d x =>
    have hd := h
    simp only [RA] at h
    obtain ⟨g1, g2⟩ := R.cellsD h hf
    refine ⟨?_, g1, g2⟩
    cases x with
    | agg l =>
      simp only [R] at h
      obtain ⟨cs, rfl, h2, _⟩ := h
      simp only [AV.cells, Value.cells]
      simpa using RAs.of_Rs h2
    | tup l => exact absurd hf (by simp [AV.fits, D.fits])
    | _ =>
      have h1 := R.oneCell h (by simp) (by simp)
      simp only [AV.fits, D.fits] at hf
      subst hf
      have := (one h1 rfl).1
      cases ag
      · simpa [AV.cells] using this
      · simpa [AV.cells, cellsFrom, D.cell] using this
  | ref i f => simp only [RA] at h; exact one h.1 hf
  | rref i n e f => simp only [RA] at h; exact one h.1 hf
  | sl i n => simp only [RA] at h; exact one h.1 hf
  | agg l =>
    simp only [RA] at h
    obtain ⟨cs, rfl, h2, h3⟩ := h
    simp only [AV.fits] at hf
    exact ⟨by simpa [AV.cells, Value.cells] using h2, by simp [Value.cells, RAs.length h2, hf], by simpa [Value.cells] using h3⟩
  | tup l => exact absurd hf (by simp [AV.fits])
  | clo f l =>
    have h0 := h
    simp only [RA] at h
    obtain ⟨cs, rfl, _⟩ := h
    exact one rfl hf
  | nils k => simp only [RA] at h; exact one (by rw [h]; rfl) hf
  | dead => exact absurd hf (by simp [AV.fits])

theorem allD_sound : ∀ {l : List AV} {ds : List D} {vs : List Value}, allD l = some ds → RAs F G L l vs → Rs F ds vs
  | [], ds, vs, h, hr => by
    simp only [allD, Option.some.injEq] at h
    subst h
    simpa only [Rs, RAs] using hr
  | x :: l, ds, vs, h, hr => by
    cases x with
    | d x =>
      simp only [allD] at h
      split at h
      · next l' hl' =>
        simp only [Option.some.injEq] at h
        subst h
        simp only [RAs, RA] at hr
        obtain ⟨v, r, h1, h2, h3⟩ := hr
        simp only [Rs]
        exact ⟨v, r, h1, h2, allD_sound hl' h3⟩
      · cases h
    | _ => simp [allD] at h

theorem mkAgg_sound {l : List AV} {vs : List Value} (h : RAs F G L l vs) (h1 : ∀ u ∈ vs, u.oneCell' = true) : RA F G L (mkAgg l) (.agg vs.toArray) := by
  unfold mkAgg
  split
  · next ds hd => simp only [RA, R]; exact ⟨vs, rfl, allD_sound hd h, h1⟩
  · simp only [RA]; exact ⟨vs, rfl, h, h1⟩
theorem mkTup_sound {l : List AV} {vs : List Value} (h : RAs F G L l vs) : RA F G L (mkTup l) (.tuple vs.toArray) := by
  unfold mkTup
  split
  · next ds hd => simp only [RA, R]; exact ⟨vs, rfl, allD_sound hd h⟩
  · simp only [RA]; exact ⟨vs, rfl, h⟩
theorem mkClo_sound {f : Nat} {l : List AV} {vs : List Value} (h : RAs F G L l vs) : RA F G L (mkClo f l) (.func (.func f) #[] vs.toArray) := by
  unfold mkClo
  split
  · next ds hd => simp only [RA, R]; exact ⟨vs, rfl, allD_sound hd h⟩
  · simp only [RA]; exact ⟨vs, rfl, h⟩

theorem RAs.split {l : List AV} {vs : List Value} (h : RAs F G L l vs) (k : Nat) : RAs F G L (l.take k) (vs.take k) ∧ RAs F G L (l.drop k) (vs.drop k) := by
  induction k generalizing l vs with
  | zero => simpa [RAs] using h
  | succ k ih =>
    cases l with
    | nil => simp only [RAs] at h; subst h; simp [RAs]
    | cons x l =>
      simp only [RAs] at h
      obtain ⟨v, r, rfl, h2, h3⟩ := h
      obtain ⟨g1, g2⟩ := ih h3
      refine ⟨?_, by simpa using g2⟩
      simp only [List.take_succ_cons, RAs]
      exact ⟨v, _, rfl, h2, g1⟩

/-! ### types -/
theorem Ctx.ag_some (T : TabOk P C.τ) {t : Nat} {b : Bool} (h : C.ag t = some b) : TyOk P C.τ t := T t (by unfold Ctx.ag at h; rw [h]; rfl)

theorem run_isAgg (T : TabOk P C.τ) {t : Nat} {b : Bool} (h : C.ag t = some b) (w : World) : (isAgg t).run P w = .ok b w := by
  obtain ⟨d, h1, h2⟩ := (Ctx.ag_some T h).und
  unfold Ctx.ag at h
  cases hk : (C.τ t).kind with
  | struct fs =>
    rw [hk] at h h2
    simp only [TK.ag, Option.some.injEq] at h
    simp only [TK.is] at h2
    obtain ⟨fields, rfl, _⟩ := h2
    subst h
    simp [isAgg, run_underlying h1]
  | array n e =>
    rw [hk] at h h2
    simp only [TK.ag, Option.some.injEq] at h
    simp only [TK.is] at h2
    obtain ⟨rfl, _⟩ := h2
    subst h
    simp [isAgg, run_underlying h1]
  | other => rw [hk] at h; simp [TK.ag] at h
  | func =>
    rw [hk] at h h2
    simp only [TK.ag, Option.some.injEq] at h
    simp only [TK.is] at h2
    obtain ⟨x, y, z, rfl⟩ := h2
    subst h
    simp [isAgg, run_underlying h1]
  | slice e =>
    rw [hk] at h h2
    simp only [TK.ag, Option.some.injEq] at h
    simp only [TK.is] at h2
    obtain ⟨rfl, _⟩ := h2
    subst h
    simp [isAgg, run_underlying h1]
  | _ =>
    rw [hk] at h h2
    simp only [TK.ag, Option.some.injEq] at h
    simp only [TK.is] at h2
    subst h2
    subst h
    simp [isAgg, run_underlying h1]

theorem run_sizeT {t : Nat} (h : TyOk P C.τ t) (w : World) : (sizeOf t).run P w = .ok (C.size t) w := by
  obtain ⟨i, z, h1, h2, _⟩ := h.info
  simp [sizeOf, typeInfo, h1, h2, Ctx.size]

theorem run_zeroT {t : Nat} (h : TyOk P C.τ t) (w : World) : ∃ z, (zeroValue t).run P w = .ok z w ∧ (∀ F G L, RA F G L (C.τ t).zero z) ∧ z.cells.size = C.size t ∧ ∀ u ∈ z.cells.toList, u.oneCell' = true := by
  obtain ⟨i, z, h1, h2, h3, h4, h5, _, h6, h7⟩ := h.info
  exact ⟨z, by simp [zeroValue, typeInfo, h1, h4], h5, h6, h7⟩

section
variable {base : Nat} {pass : Nat → Prop} {F0 : Anc} {m : Nat → Nat} {st : AS} {a : Act} {w : World}

theorem tells_same (h : SRg base pass F0 m G st a w) {s : Sem Value} {v : Value} {z : AV} (hr : s.run P w = .ok v w) (hz : RA ⟨w, m⟩ G (lk st.objs) z v) :
    Tells P base pass F0 a st.tmps s w z st.objs := ⟨v, w, m, G, hr, h, hz⟩

theorem Fix.le_alloc (h : ∀ b, w.heap.size ≤ b → m b = 0) (o : Go.Obj) : Fix.le ⟨w, m⟩ ⟨w.alloc o, m⟩ := by
  intro b
  refine ⟨Nat.le_refl _, fun off ho => ?_⟩
  rcases Nat.lt_or_ge b w.heap.size with hlt | hge
  · exact World.cell?_alloc_lt w o ⟨b, off, none⟩ hlt
  · have := h b hge
    simp only at ho
    omega

/-- A new object, in a new block. -/
theorem SRg.fresh (h : SRg base pass F0 m G st a w) {k : Nat} (hk : lk st.objs k = none) (o' : Obj) (ob : Go.Obj) (hd : Value)
    (hok : Goes G (lk st.objs) ⟨fun j => if j = k then some w.heap.size else G.γ j, fun j => if j = k then hd else G.hd j⟩ (lk (upd st.objs k o')) → Fix.le ⟨w, m⟩ ⟨w.alloc ob, m⟩ →
      ObjOk ⟨w.alloc ob, m⟩ ⟨fun j => if j = k then some w.heap.size else G.γ j, fun j => if j = k then hd else G.hd j⟩ (lk (upd st.objs k o')) k o') :
    Goes G (lk st.objs) ⟨fun j => if j = k then some w.heap.size else G.γ j, fun j => if j = k then hd else G.hd j⟩ (lk (upd st.objs k o')) ∧ Fix.le ⟨w, m⟩ ⟨w.alloc ob, m⟩ ∧
    SRg base pass F0 m ⟨fun j => if j = k then some w.heap.size else G.γ j, fun j => if j = k then hd else G.hd j⟩ ⟨st.tmps, upd st.objs k o'⟩ a (w.alloc ob) := by
  have hF := Fix.le_alloc h.new ob
  have key := h.obj k o' (G' := ⟨fun j => if j = k then some w.heap.size else G.γ j, fun j => if j = k then hd else G.hd j⟩) hF (fun j hj => by simp [hj]) (fun o ho => by rw [hk] at ho; cases ho) (fun hg => hok hg hF)
    (fun j o hj hl ho b hb => ⟨Below.heap_alloc w ob b (h.mine j o b hl ho hb).1, rfl⟩) (fun ho b hb => by
      simp only [if_true, Option.some.injEq] at hb
      subst hb
      refine ⟨by simp, .inl h.small, fun j o hj hl ho hbj => ?_⟩
      have := (h.mine j o _ hl ho hbj).1
      omega) ⟨rfl, rfl, rfl, by simp, fun b hb _ => Below.heap_alloc w ob b (Nat.lt_of_lt_of_le hb h.small)⟩ (fun _ _ _ => rfl) (fun b hb => h.new b (by simp at hb; omega))
  exact ⟨key.1, hF, key.2⟩

theorem box_sound (h : SRg base pass F0 m G st a w) {k e : Nat} {x : AV} {v : Value} {c : Prop} {z : AV} {os : Objs} (hx : RA ⟨w, m⟩ G (lk st.objs) x v)
    (hh : hAlloc C e k x st.objs = some (c, z, os)) (hc : c) : Tells P base pass F0 a st.tmps (Instr.box e v) w z os := by
  unfold hAlloc at hh
  split at hh
  · next ag hag hk =>
    simp only [Option.some.injEq, Prod.mk.injEq] at hh
    obtain ⟨rfl, rfl, rfl⟩ := hh
    obtain ⟨g1, g2, g3⟩ := cells_sound (ag := ag) hx hc
    obtain ⟨q1, q2, q3⟩ := h.fresh hk (.box ag (x.cells ag (C.size e))) (.cells v.cells e) undef (fun hg hF => by
      simp only [ObjOk]
      refine ⟨w.heap.size, v.cells, e, by simp, heap_alloc_new w _, ?_, g3, h.new _ (Nat.le_refl _)⟩
      exact RAs.mono hF hg g1)
    refine ⟨_, _, m, _, by simp [Instr.box, newVar, newRow]; rfl, q3, ?_⟩
    simp only [RA, lk_upd, if_true]
    exact ⟨rfl, fun _ => ⟨_, rfl, rfl⟩⟩
  · cases hh

theorem alloc_sound (T : TabOk P C.τ) (h : SRg base pass F0 m G st a w) {k e : Nat} {c : Prop} {z : AV} {os : Objs}
    (hh : hAlloc C e k (C.τ e).zero st.objs = some (c, z, os)) (hc : c) : Tells P base pass F0 a st.tmps (Instr.alloc e true (.tuple #[])) w z os := by
  have hag : ∃ b, C.ag e = some b := by
    unfold hAlloc at hh
    split at hh
    · next ag hag hk => exact ⟨ag, hag⟩
    · cases hh
  obtain ⟨b, hb⟩ := hag
  obtain ⟨zv, z1, z2, _, _⟩ := run_zeroT (Ctx.ag_some T hb) w
  obtain ⟨v, w', m', G', r1, r2, r3⟩ := box_sound (P := P) (C := C) h (z2 ⟨w, m⟩ G (lk st.objs)) hh hc
  refine ⟨v, w', m', G', ?_, r2, r3⟩
  rw [← r1]
  simp [Instr.alloc, Instr.box, z1]

theorem loadVar_agg (T : TabOk P C.τ) {t : Nat} (ht : C.ag t = some true) {b off : Nat} {vs : List Value} (hl : vs.length = C.size t)
    (hc : ∀ j u, vs[j]? = some u → w.cell? ⟨b, off + j, none⟩ = some u) : (Instr.loadAt t (.pointer (some ⟨b, off, none⟩))).run P w = .ok (.agg vs.toArray) w := by
  have hll := run_loadCells_list (P := P) w ⟨b, off, none⟩ vs (fun j u hu => by
    rw [show (⟨b, off, none⟩ : Addr).add j = ⟨b, off + j, none⟩ by unfold Addr.add; split <;> simp_all]
    exact hc j u hu)
  rw [hl] at hll
  simp [Instr.loadAt, Instr.sureAddr, loadVar, run_isAgg T ht, run_sizeT (Ctx.ag_some T ht), hll]

theorem loadVar_one (T : TabOk P C.τ) {t : Nat} (ht : C.ag t = some false) {b off : Nat} {u : Value} (hc : w.cell? ⟨b, off, none⟩ = some u) :
    (Instr.loadAt t (.pointer (some ⟨b, off, none⟩))).run P w = .ok u w := by
  simp [Instr.loadAt, Instr.sureAddr, loadVar, run_isAgg T ht, hc]

theorem drop_take_at {α : Type} {l : List α} {f n j : Nat} {u : α} (h : ((l.drop f).take n)[j]? = some u) : l[f + j]? = some u := by
  rw [List.getElem?_take] at h
  split at h
  · rw [List.getElem?_drop] at h; exact h
  · cases h

theorem load_ok (T : TabOk P C.τ) (h : SRg base pass F0 m G st a w) {t : Nat} {p : AV} {v : Value} {c : Prop} {z : AV} {os : Objs} (hp : RA ⟨w, m⟩ G (lk st.objs) p v)
    (hh : hLoad C t p st.objs = some (c, z, os)) (hc : c) : os = st.objs ∧ ∃ v', (Instr.loadAt t v).run P w = .ok v' w ∧ RA ⟨w, m⟩ G (lk st.objs) z v' := by
  cases p with
  | d p =>
    cases p with
    | ptr s x =>
      simp only [hLoad] at hh
      simp only [RA, R] at hp
      obtain ⟨b, off, u, rfl, h2, h3, h1, h4, h5⟩ := hp
      split at hh
      · next ht =>
        split at hh
        · next hs =>
          simp only [Option.some.injEq, Prod.mk.injEq] at hh
          obtain ⟨rfl, rfl, rfl⟩ := hh
          have hr := loadVar_agg (w := w) T ht (vs := u.cells.toList) (b := b) (off := off) (by simp [h3, hs]) h5
          refine ⟨rfl, _, hr, ?_⟩
          simp only [RA]
          simpa using R.asAgg h2 h1
        · cases hh
      · next ht =>
        split at hh
        · next hs =>
          simp only [Option.some.injEq, Prod.mk.injEq] at hh
          obtain ⟨rfl, rfl, rfl⟩ := hh
          have hlt : 0 < u.cells.toList.length := by simp [h3, hs]
          have hg := List.getElem?_eq_getElem hlt
          have hr := loadVar_one (w := w) T ht (b := b) (off := off) (by simpa using h5 0 _ hg)
          refine ⟨rfl, _, hr, ?_⟩
          simp only [RA]
          exact R.cell h2 hg
        · cases hh
      · cases hh
    | _ => simp [hLoad] at hh
  | ref i f =>
    simp only [hLoad] at hh
    simp only [RA] at hp
    split at hh
    · next ag cells hi =>
      rw [hi] at hp
      obtain ⟨b, g1, rfl⟩ := hp.2 rfl
      have hok := h.objs i _ hi
      simp only [ObjOk] at hok
      obtain ⟨b', cs, ty, q1, q2, q3, q4, q5⟩ := hok
      rw [g1] at q1
      injection q1 with q1
      subst q1
      have hlen := RAs.length q3
      split at hh
      · next ht =>
        split at hh
        · next hs =>
          simp only [Option.some.injEq, Prod.mk.injEq] at hh
          obtain ⟨rfl, rfl, rfl⟩ := hh
          have hr := loadVar_agg (w := w) T ht (vs := (cs.toList.drop f).take (C.size t)) (b := b) (off := f) (by simp at hlen ⊢; omega) (fun j u hu => by
            rw [cell_row q2]
            simpa using drop_take_at hu)
          refine ⟨rfl, _, hr, ?_⟩
          exact mkAgg_sound ((q3.split f).2.split (C.size t)).1 (fun u hu => q4 u (List.mem_of_mem_drop (List.mem_of_mem_take hu)))
        · cases hh
      · next ht =>
        split at hh
        · next hs =>
          simp only [Option.some.injEq, Prod.mk.injEq] at hh
          obtain ⟨rfl, rfl, rfl⟩ := hh
          obtain ⟨u, hu, hru⟩ := q3.at (List.getElem?_eq_getElem hs)
          have hr := loadVar_one (w := w) T ht (b := b) (off := f) (by rw [cell_row q2]; simpa using hu)
          refine ⟨rfl, _, hr, ?_⟩
          rw [List.getD_eq_getElem?_getD, List.getElem?_eq_getElem hs]
          exact hru
        · cases hh
      · cases hh
    · next s x hi =>
      rw [hi] at hp
      obtain ⟨b, g1, rfl⟩ := hp.2 rfl
      have hok := h.objs i _ hi
      simp only [ObjOk] at hok
      obtain ⟨b', u, q1, q2, q3, q4, q5, q6⟩ := hok
      rw [g1] at q1
      injection q1 with q1
      subst q1
      split at hh
      · next ht =>
        split at hh
        · next hs =>
          simp only [Option.some.injEq, Prod.mk.injEq] at hh
          obtain ⟨rfl, rfl, rfl⟩ := hh
          obtain ⟨rfl, rfl⟩ := hs
          have hr := loadVar_agg (w := w) T ht (vs := u.cells.toList) (b := b) (off := 0) (by simp [q3]) q6
          refine ⟨rfl, _, hr, ?_⟩
          simp only [RA]
          simpa using R.asAgg q2 q4
        · cases hh
      · next ht =>
        split at hh
        · next hs =>
          simp only [Option.some.injEq, Prod.mk.injEq] at hh
          obtain ⟨rfl, rfl, rfl⟩ := hh
          have hlt : f < u.cells.toList.length := by simp [q3]; exact hs
          have hg := List.getElem?_eq_getElem hlt
          have hr := loadVar_one (w := w) T ht (b := b) (off := f) (by simpa using q6 f _ hg)
          refine ⟨rfl, _, hr, ?_⟩
          simp only [RA]
          exact R.cell q2 hg
        · cases hh
      · cases hh
    · cases hh
  | rref i n e f =>
    simp only [hLoad] at hh
    simp only [RA] at hp
    split at hh
    · next s els k hi =>
      rw [hi] at hp
      have hok := h.objs i _ hi
      simp only [ObjOk] at hok
      have blk : n = els.length → e < els.length → ∃ b cs ty vv, v = .pointer (some ⟨b, e * s + f, none⟩) ∧ w.heap[b]? = some (.cells cs ty (0, 0)) ∧ R ⟨w, m⟩ (el els e) vv ∧ vv.cells.size = s ∧
          (∀ u ∈ vv.cells.toList, u.oneCell' = true) ∧ ∀ j u, vv.cells.toList[j]? = some u → cs[e * s + j]? = some u := by
        intro hn he
        obtain ⟨b, g1, g2⟩ := hp.2.2 hn
        rcases hok with ⟨h1, _, rfl, _⟩ | ⟨b', cap, cs, ty, h1, h2, h3, h4, h5, h6, h7, h8, h9⟩
        · simp at he
        · rw [g1] at h1
          injection h1 with h1
          subst h1
          obtain ⟨vv, r1, r2, r3, r4⟩ := h7.at (List.getElem?_eq_getElem he)
          refine ⟨b, cs, ty, vv, g2, h5, ?_, r2, r3, fun j u hu => ?_⟩
          · unfold el
            rw [List.getD_eq_getElem?_getD, List.getElem?_eq_getElem he]
            exact r1
          · rw [← r4] at hu
            have := drop_take_at hu
            rw [List.getElem?_take] at this
            split at this
            · simpa using this
            · cases this
      split at hh
      · next ht =>
        split at hh
        · next hs =>
          simp only [Option.some.injEq, Prod.mk.injEq] at hh
          obtain ⟨rfl, rfl, rfl⟩ := hh
          obtain ⟨rfl, rfl⟩ := hs
          obtain ⟨b, cs, ty, vv, rfl, r1, r2, r3, r4, r5⟩ := blk hc.1 hc.2
          have hr := loadVar_agg (w := w) T ht (vs := vv.cells.toList) (b := b) (off := e * C.size t + 0) (by simp [r3]) (fun j u hu => by rw [cell_row r1, Nat.add_zero]; exact r5 j u hu)
          refine ⟨rfl, _, hr, ?_⟩
          simp only [RA]
          simpa using R.asAgg r2 r4
        · cases hh
      · next ht =>
        split at hh
        · next hs =>
          simp only [Option.some.injEq, Prod.mk.injEq] at hh
          obtain ⟨rfl, rfl, rfl⟩ := hh
          obtain ⟨b, cs, ty, vv, rfl, r1, r2, r3, r4, r5⟩ := blk hc.1 hc.2
          have hlt : f < vv.cells.toList.length := by simp [r3]; exact hs
          have hg := List.getElem?_eq_getElem hlt
          have hr := loadVar_one (w := w) T ht (b := b) (off := e * s + f) (by rw [cell_row r1]; exact r5 f _ hg)
          refine ⟨rfl, _, hr, ?_⟩
          simp only [RA]
          exact R.cell r2 hg
        · cases hh
      · cases hh
    · cases hh
  | _ => simp [hLoad] at hh

theorem load_sound (T : TabOk P C.τ) (h : SRg base pass F0 m G st a w) {t : Nat} {p : AV} {v : Value} {c : Prop} {z : AV} {os : Objs} (hp : RA ⟨w, m⟩ G (lk st.objs) p v)
    (hh : hLoad C t p st.objs = some (c, z, os)) (hc : c) : Tells P base pass F0 a st.tmps (Instr.loadAt t v) w z os := by
  obtain ⟨rfl, v', hr, hz⟩ := load_ok (P := P) T h hp hh hc
  exact tells_same h hr hz

end
end
end Go.Am
