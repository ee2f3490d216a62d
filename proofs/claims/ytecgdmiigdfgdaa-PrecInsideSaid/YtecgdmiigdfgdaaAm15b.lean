/-
  The abstract machine, part 15b: a call to which objects are lent.
-/
import Derived.Test.YtecgdmiigdfgdaaAm15
set_option linter.unusedVariables false
set_option linter.unusedSimpArgs false
namespace Go.Am
open Go.RowKit (Below)

theorem lk_mkFrom : ∀ (l : List Obj) (n i : Nat), lk (mkFrom n l) i = if n ≤ i then l[i - n]? else none
  | [], n, i => by simp [mkFrom, lk]
  | o :: l, n, i => by
    simp only [mkFrom, lk, lk_mkFrom l]
    by_cases h : i = n
    · subst h
      simp
    · rw [if_neg h]
      by_cases h1 : n ≤ i
      · rw [if_pos (by omega), if_pos h1, show i - n = (i - (n + 1)) + 1 by omega, List.getElem?_cons_succ]
      · rw [if_neg (by omega), if_neg h1]
theorem lk_mkObjs {l : List Obj} {i : Nat} {o : Obj} (h : lk (mkObjs l) i = some o) : ∃ j, i = 90000 + j ∧ l[j]? = some o := by
  unfold mkObjs at h
  rw [lk_mkFrom] at h
  by_cases h1 : 90000 ≤ i
  · rw [if_pos h1] at h
    exact ⟨i - 90000, by omega, h⟩
  · rw [if_neg h1] at h
    cases h
theorem mkObjs_at {l : List Obj} {j : Nat} {o : Obj} (h : l[j]? = some o) : lk (mkObjs l) (90000 + j) = some o := by
  unfold mkObjs
  rw [lk_mkFrom, if_pos (by omega), show 90000 + j - 90000 = j by omega]
  exact h
theorem rk_at {rs : List Nat} {j k : Nat} (h : rs[j]? = some k) : rk rs (90000 + j) = k := by
  unfold rk
  rw [show 90000 + j - 90000 = j by omega, List.getD_eq_getElem?_getD, h]
  rfl
theorem standAt_at {rs0 : List Nat} : ∀ {ks : List Nat} {l : List Obj} {o : Objs}, standAt rs0 ks l o → ∀ {j : Nat} {x : Obj}, l[j]? = some x → ∃ k, ks[j]? = some k ∧ lk o k = some (rnO rs0 x)
  | _, [], _, _, j, x, hx => by simp at hx
  | [], _ :: _, _, h, _, _, _ => h.elim
  | k :: ks, y :: l, o, h, j, x, hx => by
    cases j with
    | zero => simp at hx; subst hx; exact ⟨k, rfl, h.1⟩
    | succ j => simp only [List.getElem?_cons_succ] at hx ⊢; exact standAt_at h.2 hx
theorem freeAt_at : ∀ {ks : List Nat} {o : Objs}, freeAt ks o → ∀ {k : Nat}, k ∈ ks → lk o k = none
  | [], _, _, _, hk => by simp at hk
  | k :: ks, o, h, k', hk => by
    rcases List.mem_cons.1 hk with rfl | hk
    · exact h.1
    · exact freeAt_at h.2 hk
theorem backTo_out {rs0 : List Nat} : ∀ {ks : List Nat} {l : List Obj} {o : Objs} {k : Nat}, k ∉ ks → lk (backTo rs0 ks l o) k = lk o k
  | [], l, o, k, _ => by simp [backTo]
  | q :: ks, [], o, k, _ => by simp [backTo]
  | q :: ks, x :: l, o, k, h => by
    simp only [List.mem_cons, not_or] at h
    simp only [backTo]
    rw [backTo_out h.2, lk_upd, if_neg h.1]
theorem backTo_in {rs0 : List Nat} : ∀ {ks : List Nat} {l : List Obj} {o : Objs} {j k : Nat} {x : Obj}, ks.Nodup → ks[j]? = some k → l[j]? = some x → lk (backTo rs0 ks l o) k = some (rnO rs0 x)
  | [], _, _, _, _, _, _, h, _ => by simp at h
  | _ :: _, [], _, _, _, _, _, _, h => by simp at h
  | q :: ks, y :: l, o, j, k, x, hn, hk, hx => by
    obtain ⟨h1, h2⟩ := List.nodup_cons.1 hn
    simp only [backTo]
    cases j with
    | zero =>
      simp at hk hx
      subst hk; subst hx
      rw [backTo_out h1, lk_upd, if_pos rfl]
    | succ j =>
      simp only [List.getElem?_cons_succ] at hk hx
      exact backTo_in h2 hk hx

/-! ### other numbers for the same objects -/
theorem rnO_isBox (rs : List Nat) (o : Obj) : (rnO rs o).isBox = o.isBox := by cases o <;> rfl
theorem rnO_owns (rs : List Nat) (o : Obj) : (rnO rs o).owns = o.owns := by cases o <;> rfl
theorem rnO_row {rs : List Nat} {o : Obj} {s k : Nat} {els : List D} : rnO rs o = .row s els k ↔ o = .row s els k := by cases o <;> simp [rnO]

/-- The same objects: by their numbers here and there. -/
structure Alike (rs : List Nat) (l : List Obj) (G Gc : Gh) (Lc : Nat → Option Obj) : Prop where
  obj : ∀ i o, lk (mkObjs l) i = some o → Lc (rk rs i) = some (rnO rs o)
  gam : ∀ i o, lk (mkObjs l) i = some o → G.γ i = Gc.γ (rk rs i) ∧ G.hd i = Gc.hd (rk rs i)

mutual
theorem rn_RA {rs : List Nat} {l : List Obj} {F : Fix} {G Gc : Gh} {Lc : Nat → Option Obj} (h : Alike rs l G Gc Lc) : ∀ {x : AV} {v : Value}, x.kept (mkObjs l) → (RA F G (lk (mkObjs l)) x v ↔ RA F Gc Lc (rnA rs x) v)
  | .d x, v, _ => by simp [RA, rnA]
  | .ref i f, v, hk => by
    simp only [AV.kept] at hk
    simp only [RA, rnA]
    cases hi : lk (mkObjs l) i with
    | none => rw [hi] at hk; cases hk
    | some o =>
      rw [h.obj i o hi, (h.gam i o hi).1]
      simp only [rnO_isBox]
  | .rref i n e f, v, hk => by
    simp only [AV.kept] at hk
    simp only [RA, rnA]
    cases hi : lk (mkObjs l) i with
    | none => rw [hi] at hk; cases hk
    | some o =>
      rw [h.obj i o hi, (h.gam i o hi).1]
      cases o <;> simp [rnO]
  | .sl i n, v, hk => by
    simp only [AV.kept] at hk
    simp only [RA, rnA]
    cases hi : lk (mkObjs l) i with
    | none => rw [hi] at hk; cases hk
    | some o =>
      rw [h.obj i o hi, (h.gam i o hi).2]
      cases o <;> simp [rnO]
  | .agg xs, v, hk => by
    simp only [AV.kept] at hk
    simp only [RA, rnA]
    constructor
    · rintro ⟨cs, h1, h2, h3⟩; exact ⟨cs, h1, (rn_RAs h hk).1 h2, h3⟩
    · rintro ⟨cs, h1, h2, h3⟩; exact ⟨cs, h1, (rn_RAs h hk).2 h2, h3⟩
  | .tup xs, v, hk => by
    simp only [AV.kept] at hk
    simp only [RA, rnA]
    constructor
    · rintro ⟨cs, h1, h2⟩; exact ⟨cs, h1, (rn_RAs h hk).1 h2⟩
    · rintro ⟨cs, h1, h2⟩; exact ⟨cs, h1, (rn_RAs h hk).2 h2⟩
  | .clo f xs, v, hk => by
    simp only [AV.kept] at hk
    simp only [RA, rnA]
    constructor
    · rintro ⟨cs, h1, h2⟩; exact ⟨cs, h1, (rn_RAs h hk).1 h2⟩
    · rintro ⟨cs, h1, h2⟩; exact ⟨cs, h1, (rn_RAs h hk).2 h2⟩
  | .nils s, v, _ => by simp [RA, rnA]
  | .dead, v, _ => by simp [RA, rnA]
theorem rn_RAs {rs : List Nat} {l : List Obj} {F : Fix} {G Gc : Gh} {Lc : Nat → Option Obj} (h : Alike rs l G Gc Lc) : ∀ {xs : List AV} {vs : List Value}, keptAll (mkObjs l) xs → (RAs F G (lk (mkObjs l)) xs vs ↔ RAs F Gc Lc (rnAs rs xs) vs)
  | [], vs, _ => by simp [RAs, rnAs]
  | x :: xs, vs, hk => by
    simp only [keptAll] at hk
    simp only [RAs, rnAs]
    constructor
    · rintro ⟨v, r, h1, h2, h3⟩; exact ⟨v, r, h1, (rn_RA h hk.1).1 h2, (rn_RAs h hk.2).1 h3⟩
    · rintro ⟨v, r, h1, h2, h3⟩; exact ⟨v, r, h1, (rn_RA h hk.1).2 h2, (rn_RAs h hk.2).2 h3⟩
end
theorem tiedAll_at {q : Objs} : ∀ {l : List Obj}, tiedAll q l → ∀ {j : Nat} {o : Obj}, l[j]? = some o → o.tied q
  | [], _, _, _, h => by simp at h
  | x :: l, ht, j, o, h => by
    cases j with
    | zero => simp at h; subst h; exact ht.1
    | succ j => simp only [List.getElem?_cons_succ] at h; exact tiedAll_at ht.2 h
theorem noneFixed_at : ∀ {l : List Obj}, noneFixed l → ∀ {j s k : Nat} {els : List D}, l[j]? = some (.row s els k) → k = 0
  | [], _, _, _, _, _, h => by simp at h
  | x :: l, ht, j, s, k, els, h => by
    have htl : noneFixed l := by cases x <;> first | exact ht.2 | exact ht
    cases j with
    | zero => simp at h; subst h; exact ht.1
    | succ j => simp only [List.getElem?_cons_succ] at h; exact noneFixed_at htl h
theorem rn_ObjOk {rs : List Nat} {l : List Obj} {F : Fix} {G Gc : Gh} {Lc : Nat → Option Obj} (h : Alike rs l G Gc Lc) {i : Nat} {o : Obj} (hi : lk (mkObjs l) i = some o) (ht : o.tied (mkObjs l)) :
    ObjOk F G (lk (mkObjs l)) i o ↔ ObjOk F Gc Lc (rk rs i) (rnO rs o) := by
  obtain ⟨g1, g2⟩ := h.gam i o hi
  cases o with
  | box ag cells =>
    simp only [Obj.tied] at ht
    simp only [ObjOk, rnO, g1]
    constructor
    · rintro ⟨b, cs, t, h1, h2, h3, h4⟩; exact ⟨b, cs, t, h1, h2, (rn_RAs h ht).1 h3, h4⟩
    · rintro ⟨b, cs, t, h1, h2, h3, h4⟩; exact ⟨b, cs, t, h1, h2, (rn_RAs h ht).2 h3, h4⟩
  | fbox s x => simp only [ObjOk, rnO, g1]
  | row s els k => simp only [ObjOk, rnO, g1, g2]
  | gone => simp only [ObjOk, rnO]

section
variable {P : Program} {C : Ctx} {G : Gh}
variable {base : Nat} {pass : Nat → Prop} {F0 : Anc} {m : Nat → Nat} {st : AS} {a : Act} {w : World}

theorem bcall_sound (K : CtxOk P C) (h : SRg base pass F0 m G st a w) {f : FuncId} {bc : BCon} (hf : C.Δ f = some bc) {x : bc.X} {rs : List Nat} {vs : List Value} (hok : bc.ok x)
    (hx : RAs ⟨w, m⟩ G (lk st.objs) (rnAs rs (bc.args x)) vs) (hnd : rs.Nodup) (hlen : rs.length = (bc.post x).length) (hst : standAt rs rs (bc.objs x) st.objs) (hfr : freeAt (rs.drop (bc.objs x).length) st.objs) :
    Enters P f ∧ Calls P f vs.toArray w fun e w' => ∃ v m' G', e = .returned v ∧ SRg base pass F0 m' G' ⟨st.tmps, backTo rs rs (bc.post x) st.objs⟩ a w' ∧ RA ⟨w', m'⟩ G' (lk (backTo rs rs (bc.post x) st.objs)) (.d (bc.res x)) v := by
  obtain ⟨hent, hsnd⟩ := K.2.2.2 f bc hf
  refine ⟨hent, ?_⟩
  obtain ⟨ht1, hnf, ht2, hle, hcall⟩ := hsnd x hok
  have hinj : ∀ {j j' k : Nat}, rs[j]? = some k → rs[j']? = some k → j = j' := by
    intro j j' k h1 h2
    obtain ⟨hj, e1⟩ := List.getElem?_eq_some_iff.1 h1
    obtain ⟨hj', e2⟩ := List.getElem?_eq_some_iff.1 h2
    have hp := List.pairwise_iff_getElem.1 hnd
    rcases Nat.lt_trichotomy j j' with hlt | heq | hgt
    · exact absurd (e1.trans e2.symm) (hp j j' hj hj' hlt)
    · exact heq
    · exact absurd (e2.trans e1.symm) (hp j' j hj' hj hgt)
  let G1 : Gh := ⟨fun i => G.γ (rk rs i), fun i => G.hd (rk rs i)⟩
  have al1 : Alike rs (bc.objs x) G1 G (lk st.objs) := ⟨fun i o hi => by
    obtain ⟨j, rfl, hj⟩ := lk_mkObjs hi
    obtain ⟨k, hk, hkk⟩ := standAt_at hst hj
    rw [rk_at hk]; exact hkk, fun i o hi => ⟨rfl, rfl⟩⟩
  have own1 : ∀ {b : Nat}, passB G1 (bc.objs x) b → ∃ k o, k ∈ rs ∧ lk st.objs k = some o ∧ o.owns = true ∧ G.γ k = some b := by
    rintro b ⟨i, o, hi, ho, hg⟩
    obtain ⟨j, rfl, hj⟩ := lk_mkObjs hi
    obtain ⟨k, hk, hkk⟩ := standAt_at hst hj
    have hg' : G.γ (rk rs (90000 + j)) = some b := hg
    rw [rk_at hk] at hg'
    exact ⟨k, _, List.mem_of_getElem? hk, hkk, by rw [rnO_owns]; exact ho, hg'⟩
  have zero1 : ∀ {b : Nat}, passB G1 (bc.objs x) b → m b = 0 := by
    rintro b ⟨i, o, hi, ho, hg⟩
    obtain ⟨j, rfl, hj⟩ := lk_mkObjs hi
    obtain ⟨k, hk, hkk⟩ := standAt_at hst hj
    have hg' : G.γ (rk rs (90000 + j)) = some b := hg
    rw [rk_at hk] at hg'
    have hob := h.objs k _ hkk
    cases o with
    | box ag cells =>
      simp only [ObjOk, rnO] at hob
      obtain ⟨b', cs, t, h1, _, _, _, h5⟩ := hob
      rw [hg'] at h1
      injection h1 with h1
      subst h1
      exact h5
    | row s els k0 =>
      have := noneFixed_at hnf hj
      subst this
      simp only [ObjOk, rnO] at hob
      rcases hob with ⟨h1, _⟩ | ⟨b', cap, cs, t, h1, _, _, _, _, _, _, h8, _⟩
      · rw [hg'] at h1; cases h1
      · rw [hg'] at h1
        injection h1 with h1
        subst h1
        simpa using h8
    | fbox s y => simp [Obj.owns] at ho
    | gone => simp [Obj.owns] at ho
  have hs1 : SRg w.heap.size (passB G1 (bc.objs x)) ⟨⟨w, m⟩, G1, lk (mkObjs (bc.objs x))⟩ m G1 ⟨bc.args x, mkObjs (bc.objs x)⟩ ⟨vs.toArray, []⟩ w := by
    constructor
    · rfl
    · simpa using (rn_RAs al1 ht1.1).2 hx
    · intro i o hi
      obtain ⟨j, rfl, hj⟩ := lk_mkObjs hi
      exact (rn_ObjOk al1 hi (tiedAll_at ht1.2 hj)).2 (h.objs _ _ (al1.obj _ _ hi))
    · intro i i' o o' b hi hi' ho ho' hb hb'
      have e := h.apart _ _ _ _ b (al1.obj _ _ hi) (al1.obj _ _ hi') (by rw [rnO_owns]; exact ho) (by rw [rnO_owns]; exact ho') hb hb'
      obtain ⟨j, rfl, hj⟩ := lk_mkObjs hi
      obtain ⟨j', rfl, hj'⟩ := lk_mkObjs hi'
      obtain ⟨k, hk, _⟩ := standAt_at hst hj
      obtain ⟨k', hk', _⟩ := standAt_at hst hj'
      rw [rk_at hk, rk_at hk'] at e
      subst e
      rw [hinj hk hk']
    · intro i o b hi ho hb
      exact ⟨(h.mine _ _ b (al1.obj _ _ hi) (by rw [rnO_owns]; exact ho) hb).1, .inr ⟨i, o, hi, ho, hb⟩⟩
    · exact Frame.refl _ _ _
    · exact fun _ _ _ => rfl
    · exact h.new
    · exact Nat.le_refl _
    · intro i o hi
      obtain ⟨j, rfl, hj⟩ := lk_mkObjs hi
      exact ⟨by omega, o, hi, Went.refl _ _ _⟩
  refine (hcall m w G1 vs hs1).mono ?_
  rintro e w' ⟨v, m', G2, rfl, hr, hs2⟩
  have old2 : ∀ b, b < w.heap.size → ¬ passB G1 (bc.objs x) b → m' b = m b := hs2.old
  have hF : Fix.le ⟨w, m⟩ ⟨w', m'⟩ := by
    intro b
    by_cases hp : passB G1 (bc.objs x) b
    · have hz := zero1 hp
      exact ⟨by simp only [hz]; exact Nat.zero_le _, fun off ho => by simp only [hz] at ho; omega⟩
    · rcases Nat.lt_or_ge b w.heap.size with hlt | hge
      · exact ⟨by simp only; rw [old2 b hlt hp]; exact Nat.le_refl _, fun off _ => World.cell?_of_block (a := ⟨b, off, none⟩) (hs2.frame.block b hlt hp)⟩
      · have := h.new b hge
        exact ⟨by simp only; omega, fun off ho => by simp only at ho; omega⟩
  let G' : Gh := ⟨fun k => if k ∈ rs then G2.γ (90000 + rs.idxOf k) else G.γ k, fun k => if k ∈ rs then G2.hd (90000 + rs.idxOf k) else G.hd k⟩
  have hidx : ∀ {j k : Nat}, rs[j]? = some k → rs.idxOf k = j := by
    intro j k hk
    have hmem := List.mem_of_getElem? hk
    have h1 : rs[rs.idxOf k]? = some k := by
      rw [List.getElem?_eq_getElem (List.idxOf_lt_length_of_mem hmem), List.getElem_idxOf]
    exact hinj h1 hk
  have gin : ∀ {j k : Nat}, rs[j]? = some k → G'.γ k = G2.γ (90000 + j) ∧ G'.hd k = G2.hd (90000 + j) := by
    intro j k hk
    have hmem := List.mem_of_getElem? hk
    exact ⟨by show (if k ∈ rs then _ else _) = _; rw [if_pos hmem, hidx hk], by show (if k ∈ rs then _ else _) = _; rw [if_pos hmem, hidx hk]⟩
  have gout : ∀ {k : Nat}, k ∉ rs → G'.γ k = G.γ k ∧ G'.hd k = G.hd k := by
    intro k hk
    exact ⟨by show (if k ∈ rs then _ else _) = _; rw [if_neg hk], by show (if k ∈ rs then _ else _) = _; rw [if_neg hk]⟩
  have hat : ∀ {k : Nat}, k ∈ rs → ∃ (j : Nat) (o : Obj), rs[j]? = some k ∧ (bc.post x)[j]? = some o ∧ lk (backTo rs rs (bc.post x) st.objs) k = some (rnO rs o) := by
    intro k hk
    obtain ⟨j, hj, e⟩ := List.getElem_of_mem hk
    have hk' : rs[j]? = some k := by rw [List.getElem?_eq_getElem hj, e]
    have hjp : j < (bc.post x).length := by omega
    have ho := List.getElem?_eq_getElem (l := bc.post x) hjp
    exact ⟨j, _, hk', ho, backTo_in hnd hk' ho⟩
  have al2 : Alike rs (bc.post x) G2 G' (lk (backTo rs rs (bc.post x) st.objs)) := by
    constructor
    · intro i o hi
      obtain ⟨j, rfl, hj⟩ := lk_mkObjs hi
      have hjl : j < rs.length := by rw [hlen]; exact (List.getElem?_eq_some_iff.1 hj).1
      have hrs := List.getElem?_eq_getElem (l := rs) hjl
      rw [rk_at hrs]
      exact backTo_in hnd hrs hj
    · intro i o hi
      obtain ⟨j, rfl, hj⟩ := lk_mkObjs hi
      have hjl : j < rs.length := by rw [hlen]; exact (List.getElem?_eq_some_iff.1 hj).1
      have hrs := List.getElem?_eq_getElem (l := rs) hjl
      rw [rk_at hrs]
      obtain ⟨g1, g2⟩ := gin hrs
      exact ⟨g1.symm, g2.symm⟩
  have hgoes : Goes G (lk st.objs) G' (lk (backTo rs rs (bc.post x) st.objs)) := by
    intro k o hk
    by_cases hkr : k ∈ rs
    · obtain ⟨j, o1, hj, ho1, hb1⟩ := hat hkr
      have hjn : j < (bc.objs x).length := by
        rcases Nat.lt_or_ge j (bc.objs x).length with hlt | hge
        · exact hlt
        · have : k ∈ rs.drop (bc.objs x).length := by
            refine List.mem_iff_getElem?.2 ⟨j - (bc.objs x).length, ?_⟩
            rw [List.getElem?_drop, show (bc.objs x).length + (j - (bc.objs x).length) = j by omega]
            exact hj
          rw [freeAt_at hfr this] at hk
          cases hk
      have hob := List.getElem?_eq_getElem (l := bc.objs x) hjn
      obtain ⟨k', hk', hkk⟩ := standAt_at hst hob
      rw [hj] at hk'
      injection hk' with hk'
      subst hk'
      rw [hk] at hkk
      injection hkk with hkk
      subst hkk
      obtain ⟨_, o2, hl2, hwent⟩ := hs2.lent _ _ (mkObjs_at hob)
      rw [mkObjs_at ho1] at hl2
      injection hl2 with hl2
      subst hl2
      obtain ⟨g1, g2⟩ := gin hj
      have e1 : G1.γ (90000 + j) = G.γ k := by show G.γ (rk rs (90000 + j)) = _; rw [rk_at hj]
      have e2 : G1.hd (90000 + j) = G.hd k := by show G.hd (rk rs (90000 + j)) = _; rw [rk_at hj]
      refine ⟨_, hb1, fun hb => ?_, fun s els' k' he => ?_⟩
      · rw [rnO_isBox] at hb
        obtain ⟨w1, w2⟩ := hwent.1 hb
        exact ⟨by rw [rnO_isBox]; exact w1, by rw [g1, ← e1]; exact w2⟩
      · rw [rnO_row] at he
        obtain ⟨els, k0, f1, f2, f3⟩ := hwent.2 s els' k' he
        refine ⟨els, k0, by rw [rnO_row]; exact f1, f2, fun heq => ?_⟩
        obtain ⟨q1, q2⟩ := f3 heq
        exact ⟨by rw [g1, ← e1]; exact q1, by rw [g2, ← e2]; exact q2⟩
    · obtain ⟨g1, g2⟩ := gout hkr
      refine ⟨o, by rw [backTo_out hkr]; exact hk, fun hb => ⟨hb, g1⟩, fun s els' k' he => ⟨els', k', he, Nat.le_refl _, fun _ => ⟨g1, g2⟩⟩⟩
  have notB : ∀ {k : Nat} {o : Obj} {b : Nat}, k ∉ rs → lk st.objs k = some o → o.owns = true → G.γ k = some b → ¬ passB G1 (bc.objs x) b := by
    intro k o b hk ho hw hg hp
    obtain ⟨k', o', hm', ho', hw', hg'⟩ := own1 hp
    have := h.apart k k' o o' b ho ho' hw hw' hg hg'
    subst this
    exact hk hm'
  refine ⟨v, m', G', rfl, ?_, by simpa only [RA] using hr⟩
  constructor
  · exact h.defers
  · exact RAs.mono hF hgoes h.tmps
  · intro k o hk
    by_cases hkr : k ∈ rs
    · obtain ⟨j, o1, hj, ho1, hb1⟩ := hat hkr
      simp only at hk
      rw [hb1] at hk
      injection hk with hk
      subst hk
      have := (rn_ObjOk al2 (mkObjs_at ho1) (tiedAll_at ht2.2 ho1)).1 (hs2.objs _ _ (mkObjs_at ho1))
      rw [rk_at hj] at this
      exact this
    · simp only [backTo_out hkr] at hk
      obtain ⟨g1, g2⟩ := gout hkr
      refine ObjOk.mono hF hgoes g1 g2 (fun ho b hbb => ?_) (h.objs k o hk)
      have hlt := (h.mine k o b hk ho hbb).1
      have hnp := notB hkr hk ho hbb
      exact ⟨hs2.frame.block b hlt hnp, old2 b hlt hnp⟩
  · intro k k' o o' b hk hk' ho ho' hb hb'
    simp only at hk hk'
    by_cases hkr : k ∈ rs
    · obtain ⟨j, o1, hj, ho1, hb1⟩ := hat hkr
      rw [hb1] at hk
      injection hk with hk
      subst hk
      rw [rnO_owns] at ho
      rw [(gin hj).1] at hb
      by_cases hkr' : k' ∈ rs
      · obtain ⟨j', o1', hj', ho1', hb1'⟩ := hat hkr'
        rw [hb1'] at hk'
        injection hk' with hk'
        subst hk'
        rw [rnO_owns] at ho'
        rw [(gin hj').1] at hb'
        have := hs2.apart _ _ _ _ b (mkObjs_at ho1) (mkObjs_at ho1') ho ho' hb hb'
        have e : j = j' := by omega
        subst e
        rw [hj] at hj'
        injection hj'
      · rw [backTo_out hkr'] at hk'
        rw [(gout hkr').1] at hb'
        have hlt := (h.mine k' o' b hk' ho' hb').1
        have hnp := notB hkr' hk' ho' hb'
        rcases (hs2.mine _ _ b (mkObjs_at ho1) ho hb).2 with h1 | h1
        · omega
        · exact absurd h1 hnp
    · rw [backTo_out hkr] at hk
      rw [(gout hkr).1] at hb
      by_cases hkr' : k' ∈ rs
      · obtain ⟨j', o1', hj', ho1', hb1'⟩ := hat hkr'
        rw [hb1'] at hk'
        injection hk' with hk'
        subst hk'
        rw [rnO_owns] at ho'
        rw [(gin hj').1] at hb'
        have hlt := (h.mine k o b hk ho hb).1
        have hnp := notB hkr hk ho hb
        rcases (hs2.mine _ _ b (mkObjs_at ho1') ho' hb').2 with h1 | h1
        · omega
        · exact absurd h1 hnp
      · rw [backTo_out hkr'] at hk'
        rw [(gout hkr').1] at hb'
        exact h.apart k k' o o' b hk hk' ho ho' hb hb'
  · intro k o b hk ho hb
    simp only at hk
    by_cases hkr : k ∈ rs
    · obtain ⟨j, o1, hj, ho1, hb1⟩ := hat hkr
      rw [hb1] at hk
      injection hk with hk
      subst hk
      rw [rnO_owns] at ho
      rw [(gin hj).1] at hb
      obtain ⟨q1, q2⟩ := hs2.mine _ _ b (mkObjs_at ho1) ho hb
      refine ⟨q1, ?_⟩
      rcases q2 with q2 | q2
      · exact .inl (Nat.le_trans h.small q2)
      · obtain ⟨k', o', _, ho', hw', hg'⟩ := own1 q2
        exact (h.mine k' o' b ho' hw' hg').2
    · rw [backTo_out hkr] at hk
      rw [(gout hkr).1] at hb
      obtain ⟨q1, q2⟩ := h.mine k o b hk ho hb
      exact ⟨Nat.lt_of_lt_of_le q1 hs2.frame.size, q2⟩
  · refine h.frame.trans ⟨hs2.frame.os, hs2.frame.tape, hs2.frame.output, hs2.frame.size, fun b hbb hp => hs2.frame.block b (Nat.lt_of_lt_of_le hbb h.small) (fun hB => ?_)⟩
    obtain ⟨k', o', _, ho', hw', hg'⟩ := own1 hB
    rcases (h.mine k' o' b ho' hw' hg').2 with h1 | h1
    · omega
    · exact hp h1
  · intro b hbb hp
    refine (old2 b (Nat.lt_of_lt_of_le hbb h.small) (fun hB => ?_)).trans (h.old b hbb hp)
    obtain ⟨k', o', _, ho', hw', hg'⟩ := own1 hB
    rcases (h.mine k' o' b ho' hw' hg').2 with h1 | h1
    · omega
    · exact hp h1
  · exact hs2.new
  · exact Nat.le_trans h.small hs2.frame.size
  · exact h.lent.goes hgoes
end
end Go.Am
