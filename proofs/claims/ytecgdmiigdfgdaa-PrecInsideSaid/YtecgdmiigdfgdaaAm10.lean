/-
  The abstract machine, part 10: stores; places; slices made, cut and appended to.
-/
import Derived.Test.YtecgdmiigdfgdaaAm9
set_option linter.unusedVariables false
set_option linter.unusedSimpArgs false
namespace Go.Am
open Go.RowKit (Below)

section
variable {P : Program} {C : Ctx} {G : Gh}
variable {base : Nat} {pass : Nat → Prop} {F0 : Anc} {m : Nat → Nat} {st : AS} {a : Act} {w : World}

theorem cell_setRow_other {g : Nat} {cs : Array Value} {b off : Nat} (h : b ≠ g) : (w.setRow g cs).cell? ⟨b, off, none⟩ = w.cell? ⟨b, off, none⟩ :=
  World.cell?_of_block (setRow_other w g b cs h)

theorem Fix.le_setRow {g : Nat} {cur cs : Array Value} {t : TypeId} (hg : w.heap[g]? = some (.cells cur t (0, 0))) (h : ∀ off, off < m g → cs[off]? = cur[off]?) :
    Fix.le ⟨w, m⟩ ⟨w.setRow g cs, m⟩ := by
  intro b
  refine ⟨Nat.le_refl _, fun off ho => ?_⟩
  by_cases hb : b = g
  · subst hb
    rw [cell_row (setRow_heap w b cur cs t (0, 0) hg), cell_row hg]
    exact h off ho
  · exact cell_setRow_other hb

/-- An object of ours is written, in its own block. -/
theorem SRg.write (h : SRg base pass F0 m G st a w) {i b : Nat} {o o' : Obj} {cur cs : Array Value} {t : TypeId} (hi : lk st.objs i = some o) (ho : o.owns = true) (hb : G.γ i = some b)
    (hg : w.heap[b]? = some (.cells cur t (0, 0))) (hm : ∀ off, off < m b → cs[off]? = cur[off]?)
    (hbox : o'.isBox = true → o.isBox = true) (hrow : ∀ s els' k', o' = .row s els' k' → ∃ els k, o = .row s els k ∧ els.length = els'.length)
    (hok : Fix.le ⟨w, m⟩ ⟨w.setRow b cs, m⟩ → Goes G (lk st.objs) G (lk (upd st.objs i o')) → ObjOk ⟨w.setRow b cs, m⟩ G (lk (upd st.objs i o')) i o') :
    Goes G (lk st.objs) G (lk (upd st.objs i o')) ∧ Fix.le ⟨w, m⟩ ⟨w.setRow b cs, m⟩ ∧ SRg base pass F0 m G ⟨st.tmps, upd st.objs i o'⟩ a (w.setRow b cs) := by
  have hF := Fix.le_setRow hg hm
  have hmm := h.mine i o b hi ho hb
  have key := h.obj i o' (G' := G) (m' := m) hF (fun _ _ => ⟨rfl, rfl⟩) (fun o1 h1 => by
      rw [hi] at h1
      injection h1 with h1
      subst h1
      refine ⟨fun hx => ⟨hbox hx, rfl⟩, fun s els' k' he => ?_⟩
      obtain ⟨els, k, e1, e2⟩ := hrow s els' k' he
      exact ⟨els, k, e1, by omega, fun _ => ⟨rfl, rfl⟩⟩) (fun hgo => hok hF hgo)
    (fun j oj hji hj hoj b' hb' => by
      have : b' ≠ b := fun e => hji (h.apart j i oj o b hj hi hoj ho (e ▸ hb') hb)
      exact ⟨setRow_other w b b' cs this, rfl⟩)
    (fun _ b' hb' => by
      rw [hb] at hb'
      injection hb' with hb'
      subst hb'
      exact ⟨by simpa using hmm.1, hmm.2, fun j oj hji hj hoj e => hji (h.apart j i oj o b hj hi hoj ho e hb)⟩)
    ⟨rfl, rfl, rfl, by simp, fun b' hlt hp => setRow_other w b b' cs (fun e => by
      subst e
      rcases hmm.2 with h1 | h1
      · omega
      · exact hp h1)⟩ (fun _ _ _ => rfl) (fun b' hge => h.new b' (by simpa using hge))
  exact ⟨key.1, hF, key.2⟩

theorem run_storeVar_at (T : TabOk P C.τ) {t : Nat} {bb : Bool} (ht : C.ag t = some bb) {b off : Nat} {cur : Array Value} {ty : TypeId} {v : Value} (hg : w.heap[b]? = some (.cells cur ty (0, 0)))
    (hs : v.cells.size = C.size t) (hfit : off + v.cells.size ≤ cur.size) (h1 : ∀ u ∈ v.cells.toList, u.oneCell' = true) :
    (Instr.storeAt t (.pointer (some ⟨b, off, none⟩)) v).run P w = .ok () (w.setRow b (cur.toList.take off ++ v.cells.toList ++ cur.toList.drop (off + v.cells.size)).toArray) := by
  have hst := run_storeCells_at P b off ty v.cells.toList 0 cur w hg (by simpa using hfit) h1
  simp only [Nat.add_zero, Array.length_toList] at hst
  simp [Instr.storeAt, Instr.sureAddr, storeVar, run_sizeT (Ctx.ag_some T ht), hs, hst]

/-- What a store comes to. -/
def Stores (P : Program) (base : Nat) (pass : Nat → Prop) (F0 : Anc) (a : Act) (tm : List AV) (s : Sem Unit) (w : World) (os : Objs) : Prop :=
  ∃ w' m' G', s.run P w = .ok () w' ∧ SRg base pass F0 m' G' ⟨tm, os⟩ a w'

theorem store_box (T : TabOk P C.τ) (h : SRg base pass F0 m G st a w) {t i f : Nat} {bb : Bool} (ht : C.ag t = some bb) {ag : Bool} {cells : List AV} {x : AV} {v vx : Value}
    (hi : lk st.objs i = some (.box ag cells)) (hp : RA ⟨w, m⟩ G (lk st.objs) (.ref i f) v) (hx : RA ⟨w, m⟩ G (lk st.objs) x vx) (hf : x.fits (C.size t)) (hs : f + C.size t ≤ cells.length) :
    Stores P base pass F0 a st.tmps (Instr.storeAt t v vx) w (upd st.objs i (.box ag (splice cells f (x.cells bb (C.size t))))) := by
  simp only [RA, hi] at hp
  obtain ⟨b, g1, rfl⟩ := hp.2 rfl
  have hok := h.objs i _ hi
  simp only [ObjOk] at hok
  obtain ⟨b', cs, ty, q1, q2, q3, q4, q5⟩ := hok
  rw [g1] at q1
  injection q1 with q1
  subst q1
  have hlen := RAs.length q3
  obtain ⟨c1, c2, c3⟩ := cells_sound (ag := bb) hx hf
  have hcl : (x.cells bb (C.size t)).length = C.size t := by rw [← RAs.length c1]; simpa using c2
  have hfit : f + vx.cells.size ≤ cs.size := by
    rw [c2]
    have := hlen
    simp only [Array.length_toList] at this
    omega
  have hrun := run_storeVar_at (w := w) (off := f) T ht q2 c2 hfit c3
  obtain ⟨k1, k2, k3⟩ := h.write (o' := .box ag (splice cells f (x.cells bb (C.size t)))) (cs := (cs.toList.take f ++ vx.cells.toList ++ cs.toList.drop (f + vx.cells.size)).toArray) hi rfl g1 q2
    (fun off ho => by rw [show m b = 0 from q5] at ho; omega) (fun _ => rfl) (by simp) (by
      intro hF hg
      simp only [ObjOk]
      refine ⟨b, _, ty, g1, setRow_heap w b cs _ ty (0, 0) q2, ?_, ?_, q5⟩
      · have e : splice cells f (x.cells bb (C.size t)) = cells.take f ++ x.cells bb (C.size t) ++ cells.drop (f + vx.cells.size) := by unfold splice; rw [hcl, c2]
        have := RAs.append (RAs.append (RAs.mono hF hg (q3.split f).1) (RAs.mono hF hg c1)) (RAs.mono hF hg (q3.split (f + vx.cells.size)).2)
        rw [← e] at this
        exact this
      · intro u hu
        simp only [List.mem_append] at hu
        rcases hu with (hu | hu) | hu
        · exact q4 u (List.mem_of_mem_take hu)
        · exact c3 u hu
        · exact q4 u (List.mem_of_mem_drop hu))
  exact ⟨_, m, G, hrun, k3⟩

theorem Rs.set {F : Fix} : ∀ {l : List D} {vs : List Value} {k : Nat} {x : D} {v : Value}, Rs F l vs → R F x v → Rs F (l.set k x) (vs.set k v)
  | [], _, _, _, _, h, _ => by simp only [Rs] at h; subst h; simp [Rs]
  | y :: l, vs, k, x, v, h, hx => by
    simp only [Rs] at h
    obtain ⟨u, r, rfl, h2, h3⟩ := h
    cases k with
    | zero => simp only [List.set_cons_zero, Rs]; exact ⟨v, r, rfl, hx, h3⟩
    | succ k => simp only [List.set_cons_succ, Rs]; exact ⟨u, _, rfl, h2, Rs.set h3 hx⟩

theorem R.setCell {F : Fix} {x y : D} {v u : Value} {f : Nat} (h : R F x v) (h1 : ∀ z ∈ v.cells.toList, z.oneCell' = true) (hf : f < v.cells.size) (hu : R F y u) (hu1 : u.oneCell' = true) :
    ∃ v', R F (x.setCell f y) v' ∧ v'.cells.toList = v.cells.toList.set f u ∧ ∀ z ∈ v'.cells.toList, z.oneCell' = true := by
  have all : ∀ z ∈ v.cells.toList.set f u, z.oneCell' = true := by
    intro z hz
    rcases List.mem_or_eq_of_mem_set hz with hz | hz
    · exact h1 z hz
    · rw [hz]; exact hu1
  cases x with
  | agg l =>
    simp only [R] at h
    obtain ⟨cs, rfl, h2, _⟩ := h
    simp only [Value.cells] at all
    refine ⟨.agg (cs.set f u).toArray, ?_, by simp [Value.cells], by simpa [Value.cells] using all⟩
    simp only [D.setCell, R]
    exact ⟨_, rfl, Rs.set h2 hu, by simpa using all⟩
  | _ =>
    have hv : v.cells = #[v] := by
      cases v with
      | agg cs => simp [R] at h
      | _ => rfl
    rw [hv] at hf ⊢
    have hf0 : f = 0 := by simpa using hf
    subst hf0
    exact ⟨u, hu, by simp [one_cells hu1], by simp [one_cells hu1, hu1]⟩

theorem set_splice {α : Type} (l : List α) (k : Nat) (v : α) (hk : k < l.length) : l.take k ++ [v] ++ l.drop (k + 1) = l.set k v := by
  rw [List.set_eq_take_append_cons_drop, if_pos hk]
  simp

theorem take_set_of_lt {α : Type} (l : List α) (n k : Nat) (v : α) (h : k < n) : (l.set k v).take n = (l.take n).set k v := by
  rw [List.take_set]

theorem store_sound (T : TabOk P C.τ) (h : SRg base pass F0 m G st a w) {t : Nat} {p x : AV} {v vx : Value} {c : Prop} {z : AV} {os : Objs} (hp : RA ⟨w, m⟩ G (lk st.objs) p v) (hx : RA ⟨w, m⟩ G (lk st.objs) x vx)
    (hh : hStore C t p x st.objs = some (c, z, os)) (hc : c) : z = .dead ∧ Stores P base pass F0 a st.tmps (Instr.storeAt t v vx) w os := by
  cases p with
  | ref i f =>
    simp only [hStore] at hh
    split at hh
    · next ag cells hi =>
      split at hh
      · next ht =>
        split at hh
        · next hs =>
          simp only [Option.some.injEq, Prod.mk.injEq] at hh
          obtain ⟨rfl, rfl, rfl⟩ := hh
          exact ⟨rfl, store_box T h ht hi hp hx hc hs⟩
        · cases hh
      · next ht =>
        split at hh
        · next hs =>
          simp only [Option.some.injEq, Prod.mk.injEq] at hh
          obtain ⟨rfl, rfl, rfl⟩ := hh
          have hb := store_box (P := P) T h ht hi hp hx (by rw [hc.2]; exact hc.1) (by rw [hc.2]; omega)
          rw [hc.2] at hb
          exact ⟨rfl, hb⟩
        · cases hh
      · cases hh
    · cases hh
  | rref i n e f =>
    simp only [hStore] at hh
    split at hh
    · next s0 els0 k0 c1 y o1 _ hpur =>
      split at hh
      · next s els k hi =>
        have main : c1 → n = els.length → e < els.length → k ≤ e → ∃ (m1 : Nat → Nat) (b cap : Nat) (cs : Array Value) (ty : TypeId), SRg base pass F0 m1 G ⟨st.tmps, o1⟩ a w ∧ R ⟨w, m1⟩ y vx ∧ v = .pointer (some ⟨b, e * s + f, none⟩) ∧ G.γ i = some b ∧
            G.hd i = .slice (some ⟨b, 0, none⟩) els.length cap ∧ els.length ≤ cap ∧ cap ≤ maxLen ∧ w.heap[b]? = some (.cells cs ty (0, 0)) ∧ cs.size = cap * s ∧ RE ⟨w, m1⟩ s els (cs.toList.take (els.length * s)) ∧ m1 b = k * s ∧ k ≤ els.length := by
          intro hc1 hn he hk
          obtain ⟨m1, k1, k2, k3, k4⟩ := pur_sound h hpur hc1 hx
          have hp' := RA.mono k2 k3 hp
          simp only [RA, hi] at hp'
          obtain ⟨b, g1, g2⟩ := hp'.2.2 hn
          have hok := k1.objs i _ hi
          simp only [ObjOk] at hok
          rcases hok with ⟨_, _, rfl, _⟩ | ⟨b', cap, cs, ty, h1, h2, h3, h4, h5, h6, h7, h8, h9⟩
          · simp at he
          · rw [g1] at h1
            injection h1 with h1
            subst h1
            exact ⟨m1, b, cap, cs, ty, k1, k4, g2, g1, h2, h3, h4, h5, h6, h7, h8, h9⟩
        -- one element turns
        have fin : ∀ (m1 : Nat → Nat) (b cap : Nat) (cs : Array Value) (ty : TypeId), SRg base pass F0 m1 G ⟨st.tmps, o1⟩ a w → G.γ i = some b → G.hd i = .slice (some ⟨b, 0, none⟩) els.length cap → els.length ≤ cap → cap ≤ maxLen →
            w.heap[b]? = some (.cells cs ty (0, 0)) → cs.size = cap * s → RE ⟨w, m1⟩ s els (cs.toList.take (els.length * s)) → m1 b = k * s → k ≤ els.length → e < els.length → k ≤ e →
            ∀ (d : D) (vd : Value) (new : Array Value), R ⟨w, m1⟩ d vd → vd.cells.size = s → (∀ u ∈ vd.cells.toList, u.oneCell' = true) →
              new.toList = cs.toList.take (e * s) ++ vd.cells.toList ++ cs.toList.drop ((e + 1) * s) →
              SRg base pass F0 m1 G ⟨st.tmps, upd o1 i (.row s (els.set e d) k)⟩ a (w.setRow b new) := by
          intro m1 b cap cs ty k1 h1 h2 h3 h4 h5 h6 h7 h8 h9 he hk d vd new hd hds hd1 hnew
          have hes : (e + 1) * s ≤ els.length * s := Nat.mul_le_mul_right _ (by omega)
          have hcs : els.length * s ≤ cs.size := by rw [h6]; exact Nat.mul_le_mul_right _ h3
          have hes1 : (e + 1) * s = e * s + s := by rw [Nat.add_mul, Nat.one_mul]
          have hsz : new.size = cs.size := by
            rw [← Array.length_toList, hnew]
            simp [hds]
            omega
          have hks : k * s ≤ e * s := Nat.mul_le_mul_right _ hk
          refine (k1.write (o' := .row s (els.set e d) k) (cs := new) hi rfl h1 h5 (fun off ho => ?_) (by simp [Obj.isBox]) (fun s' els' k' he' => ?_) (fun hF hg => ?_)).2.2
          · rw [h8] at ho
            have : off < e * s := by omega
            rw [← Array.getElem?_toList, hnew, List.append_assoc, List.getElem?_append_left (by simp; omega), List.getElem?_take, if_pos this]
            simp
          · simp only [Obj.row.injEq] at he'
            obtain ⟨rfl, rfl, rfl⟩ := he'
            exact ⟨els, k, rfl, by simp⟩
          · simp only [ObjOk]
            refine .inr ⟨b, cap, new, ty, h1, by simpa using h2, by simpa using h3, h4, setRow_heap w b cs new ty (0, 0) h5, by rw [hsz, h6], ?_, h8, by simpa using h9⟩
            have g := RE.set (RE.mono hF h7) he (hd.mono hF) hds hd1
            have e1 : (cs.toList.take (els.length * s)).take (e * s) = cs.toList.take (e * s) := by rw [List.take_take]; congr 1; omega
            have e2 : new.toList.take ((els.set e d).length * s) = (cs.toList.take (els.length * s)).take (e * s) ++ vd.cells.toList ++ (cs.toList.take (els.length * s)).drop ((e + 1) * s) := by
              rw [e1, hnew, List.length_set]
              have hl1 : (cs.toList.take (e * s) ++ vd.cells.toList).length = (e + 1) * s := by simp [hds]; omega
              rw [List.take_append, List.take_of_length_le (by omega), hl1, List.drop_take]
            rw [e2]
            exact g
        split at hh
        · next ht =>
          split at hh
          · next hs =>
            simp only [Option.some.injEq, Prod.mk.injEq] at hh
            obtain ⟨rfl, rfl, rfl⟩ := hh
            obtain ⟨hc1, hn, he, hk, hfit⟩ := hc
            obtain ⟨rfl, rfl⟩ := hs
            obtain ⟨m1, b, cap, cs, ty, k1, k4, rfl, h1, h2, h3, h4, h5, h6, h7, h8, h9⟩ := main hc1 hn he hk
            obtain ⟨f1, f2⟩ := R.cellsD k4 hfit
            have hes : (e + 1) * C.size t ≤ els.length * C.size t := Nat.mul_le_mul_right _ (by omega)
            have hcs : els.length * C.size t ≤ cs.size := by rw [h6]; exact Nat.mul_le_mul_right _ h3
            have hes1 : (e + 1) * C.size t = e * C.size t + C.size t := by rw [Nat.add_mul, Nat.one_mul]
            have hrun := run_storeVar_at (w := w) (off := e * C.size t + 0) T ht h5 f1 (by omega) f2
            refine ⟨rfl, _, m1, G, hrun, fin m1 b cap cs ty k1 h1 h2 h3 h4 h5 h6 h7 h8 h9 he hk y vx _ k4 f1 f2 ?_⟩
            simp [f1, hes1]
          · cases hh
        · next ht =>
          split at hh
          · next hs =>
            simp only [Option.some.injEq, Prod.mk.injEq] at hh
            obtain ⟨rfl, rfl, rfl⟩ := hh
            obtain ⟨hc1, hn, he, hk, hfit, hst⟩ := hc
            obtain ⟨m1, b, cap, cs, ty, k1, k4, rfl, h1, h2, h3, h4, h5, h6, h7, h8, h9⟩ := main hc1 hn he hk
            obtain ⟨f1, f2⟩ := R.cellsD k4 hfit
            have hes : (e + 1) * s ≤ els.length * s := Nat.mul_le_mul_right _ (by omega)
            have hcs : els.length * s ≤ cs.size := by rw [h6]; exact Nat.mul_le_mul_right _ h3
            have hes1 : (e + 1) * s = e * s + s := by rw [Nat.add_mul, Nat.one_mul]
            have hrun := run_storeVar_at (w := w) (off := e * s + f) T ht h5 (by rw [f1, hst]) (by omega) f2
            -- the cell that is stored
            have hl1 : vx.cells.toList.length = 1 := by simpa using f1
            obtain ⟨u, hu⟩ : ∃ u, vx.cells.toList = [u] := by
              match vx.cells.toList, hl1 with
              | [u], _ => exact ⟨u, rfl⟩
            have hu1 : u.oneCell' = true := f2 u (by rw [hu]; simp)
            have hru : R ⟨w, m1⟩ (y.cell 0) u := R.cell k4 (by rw [hu]; rfl)
            obtain ⟨vv, r1, r2, r3, r4⟩ := h7.at (List.getElem?_eq_getElem he)
            have hel : el els e = els[e] := by unfold el; rw [List.getD_eq_getElem?_getD, List.getElem?_eq_getElem he]; rfl
            obtain ⟨v', w1, w2, w3⟩ := R.setCell (f := f) r1 r3 (by omega) hru hu1
            rw [← hel] at w1
            refine ⟨rfl, _, m1, G, hrun, fin m1 b cap cs ty k1 h1 h2 h3 h4 h5 h6 h7 h8 h9 he hk _ v' _ w1 ?_ w3 ?_⟩
            · rw [← Array.length_toList, w2]
              simpa using r2
            · rw [w2, ← r4, hu]
              simp only [f1]
              have a1 : ((cs.toList.take (els.length * s)).drop (e * s)).take s = (cs.toList.drop (e * s)).take s := by
                rw [List.drop_take, List.take_take]
                congr 1
                omega
              rw [a1]
              have hl2 : ((cs.toList.drop (e * s)).take s).length = s := by simp; omega
              rw [← set_splice _ f u (by omega)]
              have a2 : cs.toList.take (e * s + f) = cs.toList.take (e * s) ++ ((cs.toList.drop (e * s)).take s).take f := by
                rw [List.take_add, List.take_take]
                congr 2
                omega
              have a3 : cs.toList.drop (e * s + f + 1) = ((cs.toList.drop (e * s)).take s).drop (f + 1) ++ cs.toList.drop ((e + 1) * s) := by
                have e1 : cs.toList.drop (e * s + f + 1) = (cs.toList.drop (e * s)).drop (f + 1) := by rw [List.drop_drop]; congr 1
                have e2 : cs.toList.drop ((e + 1) * s) = (cs.toList.drop (e * s)).drop s := by rw [List.drop_drop, hes1]
                rw [e1, e2]
                conv => lhs; rw [← List.take_append_drop s (cs.toList.drop (e * s))]
                rw [List.drop_append, hl2, show f + 1 - s = 0 by omega, List.drop_zero]
              rw [a2, a3]
              simp [List.append_assoc]
          · cases hh
        · cases hh
      · cases hh
    · cases hh
  | _ => simp [hStore] at hh

end
end Go.Am
