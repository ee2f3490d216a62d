/-
  The abstract machine, part 17: regions, code, functions.
-/
import Derived.Test.YtecgdmiigdfgdaaAm16b
namespace Go.Am
open Go.RowKit (Below)

section
variable {P : Program} {C : Ctx}
variable {base : Nat} {pass : Nat → Prop} {F0 : Anc} {st : AS} {a : Act} {w : World}

theorem set_same {α : Type} {l : List α} {i : Nat} {x d : α} (h : l.getD i d = x) (hi : i < l.length) : l.set i x = l := by
  apply List.ext_getElem?
  intro j
  rw [List.getElem?_set]
  by_cases hij : i = j
  · subst hij
    rw [if_pos rfl, if_pos hi]
    rw [List.getD_eq_getElem?_getD, List.getElem?_eq_getElem hi] at h
    rw [List.getElem?_eq_getElem hi, ← h]
    rfl
  · rw [if_neg hij]

theorem guardOf_spec {ops : List Oper} {j t : Nat} {b : Bool} (h : guardOf ops st j = .b t b) : ∃ g, ops[j]? = some g ∧ g.dst = some t ∧ t < st.tmps.length ∧ st.tmps.getD t .dead = .d (.bool b) := by
  unfold guardOf at h
  split at h
  · next g hg =>
    split at h
    · next t' ht =>
      split at h
      · next b' hb =>
        injection h with h1 h2
        subst h1; subst h2
        refine ⟨g, hg, ht, ?_, hb⟩
        rcases Nat.lt_or_ge t' st.tmps.length with hlt | hge
        · exact hlt
        · rw [List.getD_eq_getElem?_getD, List.getElem?_eq_none hge] at hb; simp at hb
      · cases h
      · cases h
    · cases h
  · cases h

theorem guard_yield {m : Nat → Nat} {G : Gh} (h : SRg base pass F0 m G st a w) {ops : List Oper} {j t : Nat} {b : Bool} (hg : guardOf ops st j = .b t b) : yielded ops.toArray a.tmps j = some b := by
  obtain ⟨g, h1, h2, h3, h4⟩ := guardOf_spec hg
  have hx : st.tmps[t]? = some (.d (.bool b)) := by
    rw [List.getElem?_eq_getElem h3]
    rw [List.getD_eq_getElem?_getD, List.getElem?_eq_getElem h3] at h4
    simpa using h4
  obtain ⟨u, hu, hr⟩ := h.tmps.at hx
  simp only [RA, R] at hr
  subst hr
  have hu' : a.tmps[t]? = some (.bool b) := by simpa using hu
  simp [yielded, h1, h2, hu']

theorem guard_und {m : Nat → Nat} {G : Gh} (h : SRg base pass F0 m G st a w) {ops : List Oper} {j : Nat} (hg : guardOf ops st j = .und) : yielded ops.toArray a.tmps j = none := by
  unfold guardOf at hg
  split at hg
  · next g hj =>
    split at hg
    · next t ht =>
      split at hg
      · cases hg
      · next hb =>
        have hlt : t < st.tmps.length := by
          rcases Nat.lt_or_ge t st.tmps.length with hlt | hge
          · exact hlt
          · rw [List.getD_eq_getElem?_getD, List.getElem?_eq_none hge] at hb; simp at hb
        have hx : st.tmps[t]? = some (.d (.tup [])) := by
          rw [List.getElem?_eq_getElem hlt]
          rw [List.getD_eq_getElem?_getD, List.getElem?_eq_getElem hlt] at hb
          simpa using hb
        obtain ⟨u, hu, hr⟩ := h.tmps.at hx
        simp only [RA, R, Rs] at hr
        obtain ⟨cs, rfl, rfl⟩ := hr
        have hu' : a.tmps[t]? = some (.tuple #[]) := by simpa using hu
        simp [yielded, hj, ht, hu']
      · cases hg
    · cases hg
  · cases hg

theorem undef_ok {F : Fix} {G : Gh} {L : Nat → Option Obj} : RA F G L (.d (.tup [])) undef := by
  simp only [RA, R, Rs]
  exact ⟨[], rfl, rfl⟩

theorem bcall_wp (K : CtxOk P C) {m : Nat → Nat} {G : Gh} (h : SRg base pass F0 m G st a w) {o : Oper} {bc : BCon} {x : bc.X} {rs : List Nat} (hb : bOf C o st = some (bc, rnAs rs (bc.args x))) (hok : bc.ok x)
    (hnd : rs.Nodup) (hlen : rs.length = (bc.post x).length) (hst : standAt rs rs (bc.objs x) st.objs) (hfr : freeAt (rs.drop (bc.objs x).length) st.objs) {N : Act → World → Prop} {Q : Exit → Act → World → Prop}
    (hn : After base pass F0 a st.tmps o.dst (.d (bc.res x)) (backTo rs rs (bc.post x) st.objs) N) : o.wp P a w N Q := by
  unfold bOf at hb
  split at hb
  · next cl hop =>
    have e : cl.args.map a.eval = (cl.args.toList.map a.eval).toArray := by cases cl.args; simp
    split at hb
    · next f hcal =>
      split at hb
      · next bc' hf =>
        injection hb with hb
        injection hb with hb1 hb2
        subst hb1
        have hx := evs_sound (C := C) h.tmps cl.args.toList cl.argTypes.toList
        rw [hb2] at hx
        obtain ⟨hent, hcalls⟩ := bcall_sound K h hf hok hx hnd hlen hst hfr
        refine wp_enters (st := st) (args := (cl.args.toList.map a.eval).toArray) ?_ hcalls hn
        have := hent (cl.args.toList.map a.eval).toArray w
        simp only [execOp, hop, resolve, hcal, Act.eval, Deferred.ofValue]
        simpa [invoke, e] using this
      · cases hb
    · next f hcal =>
      have hf0 := ev_sound (C := C) (hint := 0) h.tmps (.tmp f)
      split at hb
      · next g caps hfv =>
        split at hb
        · next bc' hf =>
          injection hb with hb
          injection hb with hb1 hb2
          subst hb1
          rw [hfv] at hf0
          simp only [RA, R] at hf0
          obtain ⟨cs, hfe, hcs⟩ := hf0
          have hx := RAs.append (evs_sound (C := C) h.tmps cl.args.toList cl.argTypes.toList) (RAs.of_Rs (G := G) (L := lk st.objs) hcs)
          rw [hb2] at hx
          obtain ⟨hent, hcalls⟩ := bcall_sound K h hf hok hx hnd hlen hst hfr
          refine wp_enters (st := st) (args := (cl.args.toList.map a.eval ++ cs).toArray) ?_ hcalls hn
          have := hent (cl.args.toList.map a.eval ++ cs).toArray w
          simp only [execOp, hop, resolve, hcal, hfe, Deferred.ofValue]
          simpa [invoke, e] using this
        · cases hb
      · next g caps hfv =>
        split at hb
        · next bc' hf =>
          injection hb with hb
          injection hb with hb1 hb2
          subst hb1
          rw [hfv] at hf0
          simp only [RA] at hf0
          obtain ⟨cs, hfe, hcs⟩ := hf0
          have hx := RAs.append (evs_sound (C := C) h.tmps cl.args.toList cl.argTypes.toList) hcs
          rw [hb2] at hx
          obtain ⟨hent, hcalls⟩ := bcall_sound K h hf hok hx hnd hlen hst hfr
          refine wp_enters (st := st) (args := (cl.args.toList.map a.eval ++ cs).toArray) ?_ hcalls hn
          have := hent (cl.args.toList.map a.eval ++ cs).toArray w
          simp only [execOp, hop, resolve, hcal, hfe, Deferred.ofValue]
          simpa [invoke, e] using this
        · cases hb
      · cases hb
    · cases hb
  · cases hb

theorem cut_wp (K : CtxOk P C) {m : Nat → Nat} {G : Gh} (h : SRg base pass F0 m G st a w) {o : Oper} {i n s k : Nat} {b : D} {els : List D} (hb : cutOf C o st = some (i, n, b, s, els, k))
    (hc : n = els.length ∧ b.isAnyInt ∧ 0 ≤ b.i ∧ b.i ≤ els.length ∧ (k : Int) ≤ b.i ∧ objsOff i st.objs = true ∧ i < 90000) {N : Act → World → Prop} {Q : Exit → Act → World → Prop}
    (hn : After base pass F0 a (killK i st.tmps) o.dst (.sl i b.i.toNat) (upd st.objs i (.row s (els.take b.i.toNat) k)) N) : o.wp P a w N Q := by
  obtain ⟨c1, c2, c3, c4, c5, c6, c7⟩ := hc
  unfold cutOf at hb
  split at hb
  · next t x hi d hop hdst =>
    split at hb
    · split at hb
      · next e i' n' b' hk hx hhi =>
        split at hb
        · next s' els' k' hl =>
          split at hb
          · next hs =>
            simp only [Option.some.injEq, Prod.mk.injEq] at hb
            obtain ⟨rfl, rfl, rfl, rfl, rfl, rfl⟩ := hb
            have hvx := ev_sound (C := C) (hint := t) h.tmps x
            have hvh := ev_sound (C := C) (hint := 0) h.tmps hi
            rw [hx] at hvx
            rw [hhi] at hvh
            simp only [RA, hl] at hvx hvh
            have hv := hvx.2.2 c1
            obtain ⟨q2, hq⟩ := hvh.of_anyInt c2
            obtain ⟨dd, hd, hkd⟩ := K.1.kind hk rfl
            simp only [TK.is] at hkd
            obtain ⟨rfl, he⟩ := hkd
            have hsz := run_sizeT (K.1 e he)
            obtain ⟨A, cp, hhd, hle⟩ : ∃ A cp, G.hd i' = .slice A els'.length cp ∧ els'.length ≤ cp := by
              have hob := h.objs i' _ hl
              simp only [ObjOk] at hob
              rcases hob with ⟨_, h2, h3, _⟩ | ⟨bb, cap, cs, ty, _, h2, h3, _⟩
              · subst h3; exact ⟨none, 0, by rw [h2]; rfl, Nat.le_refl _⟩
              · exact ⟨_, cap, h2, h3⟩
            have hnb : b'.i.toNat ≤ els'.length := by omega
            have hr := run_sliceAt_slice (P := P) (w := w) (A := A) (c := cp) hd hsz (lo := none) (hi := some (.int q2 b'.i)) (n := els'.length) (l := 0) (h := b'.i.toNat) (.inl ⟨rfl, rfl⟩) (.inr ⟨q2, by rw [int_nat c3]⟩) (Nat.zero_le _) hnb hle
            have hA : (if cp = 0 then A else A.map (·.add (0 * C.size e))) = A := by
              split
              · rfl
              · cases A <;> simp [Addr.add]
            have hcut := h.cut hl hnb (by omega) c6 c7 hhd
            have hlen : (els'.take b'.i.toNat).length = b'.i.toNat := by rw [List.length_take]; omega
            unfold Oper.wp
            rw [show execOp a.eval o = (do pure (.value (← Instr.sliceAt t (a.eval x) none (some (a.eval hi)) none))) by simp only [execOp, hop]; rfl]
            rw [hv, hhd, hq]
            simp only [Sem.run_bind, hr, Result.andThen_ok, Sem.run_pure, Oper.upon]
            refine hn _ w m _ hcut ?_
            simp only [RA, lk_upd, if_true]
            refine ⟨rfl, by omega, fun _ => ?_⟩
            rw [hA]
            simp
          · cases hb
        · cases hb
      · cases hb
    · cases hb
  · cases hb

theorem ops_sound (K : CtxOk P C) {ops : List Oper} {N : AS → Prop} {Q : Exit → Act → World → Prop} (hQ : ∀ st a w, SR base pass F0 st a w → N st → Q .normal a w) :
    ∀ (l : List Oper) (st : AS) (a : Act) (w : World), SR base pass F0 st a w → aOps C ops l N st → wpList P ops.toArray Q l a w
  | [], st, a, w, h, hn => by
    simp only [aOps] at hn
    exact wpList_nil (hQ st a w h hn)
  | o :: l, st, a, w, h, hn => by
    simp only [aOps] at hn
    have exec : ∀ st a w, SR base pass F0 st a w → aExec C o (aOps C ops l N) st → o.wp P a w (wpList P ops.toArray Q l) Q := by
      intro st a w ⟨m, G, h⟩ he
      unfold aExec at he
      split at he
      · next bc args hbo =>
        obtain ⟨x, rs, hok, hargs, hnd, hlen, hst, hfr, hk⟩ := he
        subst hargs
        refine bcall_wp K h hbo hok hnd hlen hst hfr (fun v w' m' G' hs' hz => ?_)
        refine ops_sound K hQ l _ _ _ ⟨m', G', ?_⟩ hk
        have := hs'.putO (t := o.dst) hz
        unfold AS.put
        exact this
      · split at he
        · next i n b s els k hcu =>
          refine cut_wp K h hcu he.1 (fun v w' m' G' hs' hz => ?_)
          refine ops_sound K hQ l _ _ _ ⟨m', G', ?_⟩ he.2
          have := hs'.putO (t := o.dst) hz
          unfold AS.put
          exact this
        · unfold aExecD at he
          split at he
          · next c x os hs =>
            refine op_sound K h hs he.1 (fun v w' m' G' hs' hz => ?_)
            refine ops_sound K hQ l _ _ _ ⟨m', G', ?_⟩ he.2
            have := hs'.putO (t := o.dst) hz
            unfold AS.put
            exact this
          · exact he.elim
    unfold aOp at hn
    unfold wpList
    split at hn
    · next hg =>
      rw [if_pos (by simp [Region.wanted, hg])]
      exact .inl (exec st a w h hn)
    · next j want hg =>
      split at hn
      · next t b hgo =>
        obtain ⟨m, G, hs⟩ := h
        have hy := guard_yield hs hgo
        obtain ⟨g, g1, g2, g3, g4⟩ := guardOf_spec hgo
        have hsame : ({ st with tmps := st.tmps.set t (.d (.bool b)) } : AS) = st := by rw [set_same g4 g3]
        by_cases hb : b = want
        · rw [if_pos (by simp [Region.wanted, hg, hy, hb])]
          have := hn.1 hb
          rw [← hb, hsame] at this
          exact .inl (exec st a w ⟨m, G, hs⟩ this)
        · rw [if_neg (by simp [Region.wanted, hg, hy, hb])]
          have hb' : b = !want := by cases b <;> cases want <;> simp_all
          have := hn.2 hb'
          rw [← hb', hsame] at this
          refine ops_sound K hQ l _ _ _ ⟨m, G, ?_⟩ this
          have hp := hs.putO (t := o.dst) (x := .d (.tup [])) (v := undef) undef_ok
          unfold AS.put
          exact hp
      · next hgo =>
        obtain ⟨m, G, hs⟩ := h
        have hy := guard_und hs hgo
        rw [if_neg (by simp [Region.wanted, hg, hy])]
        refine ops_sound K hQ l _ _ _ ⟨m, G, ?_⟩ hn
        have hp := hs.putO (t := o.dst) (x := .d (.tup [])) (v := undef) undef_ok
        unfold AS.put
        exact hp
      · exact hn.elim

/-! ### an order that is open -/
theorem maskOf_bit : ∀ {es : List Edge} {acc : List Nat} {k : Nat}, (maskOf es acc).testBit k = true → ∃ e ∈ es, Region.binds .any e = true ∧ (e.on = k ∨ (acc.getD e.on 0).testBit k = true)
  | [], acc, k, h => by simp [maskOf] at h
  | e :: r, acc, k, h => by
    simp only [maskOf] at h
    split at h
    · next hb =>
      simp only [Nat.testBit_or, Bool.or_eq_true] at h
      rcases h with (h | h) | h
      · rw [Nat.testBit_two_pow] at h
        exact ⟨e, by simp, hb, .inl (by simpa using h)⟩
      · exact ⟨e, by simp, hb, .inr h⟩
      · obtain ⟨e', h1, h2⟩ := maskOf_bit h
        exact ⟨e', List.mem_cons_of_mem _ h1, h2⟩
    · obtain ⟨e', h1, h2⟩ := maskOf_bit h
      exact ⟨e', List.mem_cons_of_mem _ h1, h2⟩

theorem masksGo_spec : ∀ (r : List Oper) (acc : List Nat), ∃ l, masksGo r acc = acc ++ l ∧ l.length = r.length ∧ ∀ (j : Nat) (o : Oper), r[j]? = some o → l[j]? = some (maskOf o.after.toList (acc ++ l.take j))
  | [], acc => ⟨[], by simp [masksGo], rfl, by simp⟩
  | o :: r, acc => by
    obtain ⟨l, h1, h2, h3⟩ := masksGo_spec r (acc ++ [maskOf o.after.toList acc])
    refine ⟨maskOf o.after.toList acc :: l, by simp [masksGo, h1], by simp [h2], fun j x hj => ?_⟩
    cases j with
    | zero => simp only [List.getElem?_cons_zero, Option.some.injEq] at hj; subst hj; simp
    | succ j =>
      simp only [List.getElem?_cons_succ] at hj ⊢
      rw [h3 j x hj]
      simp

theorem masks_bit {ops : List Oper} {i k : Nat} {o : Oper} (ho : ops[i]? = some o) (h : ((masks ops).getD i 0).testBit k = true) :
    ∃ e ∈ o.after.toList, Region.binds .any e = true ∧ (e.on = k ∨ (e.on < i ∧ ((masks ops).getD e.on 0).testBit k = true)) := by
  obtain ⟨l, h1, h2, h3⟩ := masksGo_spec ops []
  have hm : masks ops = l := by simpa [masks] using h1
  have hi := h3 i o ho
  simp only [List.nil_append] at hi
  rw [hm, List.getD_eq_getElem?_getD, hi] at h
  simp only [Option.getD_some] at h
  obtain ⟨e, g1, g2, g3⟩ := maskOf_bit h
  refine ⟨e, g1, g2, g3.elim (fun h => .inl h) fun g => .inr ?_⟩
  by_cases hlt : e.on < i
  · refine ⟨hlt, ?_⟩
    rw [hm]
    rw [List.getD_eq_getElem?_getD, List.getElem?_take, if_pos hlt] at g
    rw [List.getD_eq_getElem?_getD]
    exact g
  · rw [List.getD_eq_getElem?_getD, List.getElem?_take, if_neg hlt] at g
    simp at g

/-- What is done has all done that it waits for. -/
def Closed (ops : List Oper) (listed : Array Bool) : Prop := ∀ i o, ops[i]? = some o → listed.getD i false = true → ∀ e ∈ o.after.toList, Region.binds .any e = true → listed.getD e.on false = true

theorem anc_listed {ops : List Oper} {listed : Array Bool} (hc : Closed ops listed) : ∀ (n i : Nat), i ≤ n → ∀ o, ops[i]? = some o → (∀ e ∈ o.after.toList, Region.binds .any e = true → listed.getD e.on false = true) →
    ∀ k, ((masks ops).getD i 0).testBit k = true → listed.getD k false = true := by
  intro n
  induction n with
  | zero =>
    intro i hi o ho he k hk
    obtain ⟨e, h1, h2, h3⟩ := masks_bit ho hk
    rcases h3 with rfl | ⟨h3, _⟩
    · exact he e h1 h2
    · omega
  | succ n ih =>
    intro i hi o ho he k hk
    obtain ⟨e, h1, h2, h3⟩ := masks_bit ho hk
    rcases h3 with rfl | ⟨h3, h4⟩
    · exact he e h1 h2
    · have hlt : i < ops.length := (List.getElem?_eq_some_iff.1 ho).1
      have hoe : ops[e.on]? = some ops[e.on] := List.getElem?_eq_getElem (by omega)
      exact ih e.on (by omega) _ hoe (fun e' g1 g2 => hc e.on _ hoe (he e h1 h2) e' g1 g2) k h4

theorem edgesOk_spec : ∀ {ops : List Oper} {n : Nat}, edgesOk n ops = true → ∀ i o, ops[i]? = some o → ∀ e ∈ o.after.toList, Region.binds .any e = true → e.on < n + i
  | [], n, _, i, o, ho => by simp at ho
  | x :: r, n, h, i, o, ho => by
    simp only [edgesOk, Bool.and_eq_true, List.all_eq_true, Bool.or_eq_true, Bool.not_eq_true', decide_eq_true_eq] at h
    cases i with
    | zero =>
      simp only [List.getElem?_cons_zero, Option.some.injEq] at ho
      subst ho
      intro e he hb
      rcases h.1 e he with h1 | h1
      · rw [hb] at h1; cases h1
      · exact h1
    | succ i =>
      simp only [List.getElem?_cons_succ] at ho
      intro e he hb
      have := edgesOk_spec h.2 i o ho e he hb
      omega

theorem getD_two {l : Array Bool} {i : Nat} (h : i < l.size) : l.getD i true = l.getD i false := by simp [h]

theorem any_sound (K : CtxOk P C) (hC : C.dp = 1) {ops : Array Oper} (hE : edgesOk 0 ops.toList = true) {N : Exit → Act → World → Prop} : ∀ (n : Nat) (l : List (Nat × List Nat × Bool)) (listed : Array Bool) (s t : AS) (a : Act) (w : World), l.length = n →
    listed.size = ops.size → (∀ i, i < ops.size → (listed.getD i false = false ↔ ∃ q ∈ l, q.1 = i)) → (∀ q ∈ l, q.1 < ops.size) → (l.map (·.1)).Nodup → Closed ops.toList listed → Tr C ops.toList l s t →
    l.Pairwise (fun p q => Indep ops.toList p q ∨ ((masks ops.toList).getD q.1 0).testBit p.1 = true) → SR base pass F0 s a w → (∀ a w, SR base pass F0 t a w → N .normal a w) → wpAny P .any ops N n listed a w := by
  intro n
  induction n with
  | zero =>
    intro l listed s t a w hl hsz hun hlt hnd hcl htr hpw hs hN
    have : l = [] := List.eq_nil_of_length_eq_zero hl
    subst this
    cases htr
    refine ⟨?_, hN a w hs⟩
    cases hr : Region.ready .any ops listed with
    | nil => rfl
    | cons j r =>
      have hj : j ∈ Region.ready .any ops listed := by rw [hr]; simp
      obtain ⟨h1, o, ho, _⟩ := mem_ready.1 hj
      have hjl : j < ops.size := (Array.getElem?_eq_some_iff.1 ho).1
      rw [getD_two (by omega)] at h1
      obtain ⟨q, hq, _⟩ := (hun j hjl).1 h1
      cases hq
  | succ n ih =>
    intro l listed s t a w hl hsz hun hlt hnd hcl htr hpw hs hN
    refine ⟨fun hnil => ?_, fun i hi => ?_⟩
    · -- some operation is ready
      exfalso
      have ex : ∀ m i, i ≤ m → i < ops.size → listed.getD i false = false → ∃ j, j ∈ Region.ready .any ops listed := by
        intro m
        induction m with
        | zero =>
          intro i him hil hu
          refine ⟨i, mem_ready.2 ⟨by rw [getD_two (by omega)]; exact hu, ops[i], by simp [hil], fun e he hb => ?_⟩⟩
          have := edgesOk_spec hE i ops[i] (by simp [hil]) e (by simpa using he) hb
          omega
        | succ m ihm =>
          intro i him hil hu
          by_cases hall : ∀ e ∈ ops[i].after, Region.binds .any e = true → listed.getD e.on false = true
          · exact ⟨i, mem_ready.2 ⟨by rw [getD_two (by omega)]; exact hu, ops[i], by simp [hil], hall⟩⟩
          · have : ∃ e, e ∈ ops[i].after ∧ Region.binds .any e = true ∧ listed.getD e.on false = false := by
              apply Classical.byContradiction
              intro hno
              apply hall
              intro e he hb
              cases hx : listed.getD e.on false with
              | true => rfl
              | false => exact absurd ⟨e, he, hb, hx⟩ hno
            obtain ⟨e, he, hb, hx⟩ := this
            have := edgesOk_spec hE i ops[i] (by simp [hil]) e (by simpa using he) hb
            exact ihm e.on (by omega) (by omega) hx
      cases l with
      | nil => simp at hl
      | cons q r =>
        have hq := hlt q (by simp)
        obtain ⟨j, hj⟩ := ex q.1 q.1 (Nat.le_refl _) hq ((hun q.1 hq).2 ⟨q, by simp, rfl⟩)
        rw [hnil] at hj
        cases hj
    · obtain ⟨h1, o, ho, hall⟩ := mem_ready.1 hi
      have hil : i < ops.size := (Array.getElem?_eq_some_iff.1 ho).1
      have hol : ops.toList[i]? = some o := by simpa using ho
      rw [getD_two (by omega)] at h1
      obtain ⟨q, hq, rfl⟩ := (hun i hil).1 h1
      obtain ⟨l1, l2, rfl⟩ := List.append_of_mem hq
      have hind : ∀ k ∈ l1, Indep ops.toList k q := by
        intro k hk
        rcases (List.pairwise_append.1 hpw).2.2 k hk q (by simp) with h | h
        · exact h
        · exfalso
          have := anc_listed hcl q.1 q.1 (Nat.le_refl _) o hol (fun e he hb => hall e (by simpa using he) hb) k.1 h
          have h2 := (hun k.1 (hlt k (by simp [hk]))).2 ⟨k, by simp [hk], rfl⟩
          rw [this] at h2
          cases h2
      obtain ⟨s1, t', hst, htr', hsame⟩ := htr.first hC hind
      -- the rest
      have rest : ∀ a w, SR base pass F0 s1 a w → wpAny P .any ops N n (listed.setIfInBounds q.1 true) a w := by
        intro a w hs1
        have hnd' : q.1 ∉ (l1 ++ l2).map (·.1) := by
          simp only [List.map_append, List.map_cons] at hnd
          have h2 := List.nodup_append.1 hnd
          have h3 := List.nodup_cons.1 h2.2.1
          simp only [List.map_append, List.mem_append, not_or]
          exact ⟨fun hx => h2.2.2 q.1 hx q.1 (by simp) rfl, h3.1⟩
        refine ih (l1 ++ l2) _ s1 t' a w (by simp at hl ⊢; omega) (by simpa using hsz) (fun i hi => ?_) (fun p hp => hlt p (by simp at hp ⊢; rcases hp with hp | hp <;> simp [hp])) ?_ ?_ htr' ?_ hs1 (fun a w h => hN a w (h.same hsame.symm))
        · by_cases hiq : q.1 = i
          · subst hiq
            have : (listed.setIfInBounds q.1 true).getD q.1 false = true := by simp [hsz, hi]
            rw [this]
            constructor
            · intro h; cases h
            · rintro ⟨p, hp, hpe⟩
              exact absurd (List.mem_map.2 ⟨p, hp, hpe⟩) hnd'
          · rw [getD_set_ne false hiq, hun i hi]
            constructor
            · rintro ⟨p, hp, rfl⟩
              refine ⟨p, ?_, rfl⟩
              simp only [List.mem_append, List.mem_cons] at hp ⊢
              rcases hp with hp | rfl | hp
              · exact .inl hp
              · exact absurd rfl hiq
              · exact .inr hp
            · rintro ⟨p, hp, rfl⟩
              refine ⟨p, ?_, rfl⟩
              simp only [List.mem_append, List.mem_cons] at hp ⊢
              rcases hp with hp | hp
              · exact .inl hp
              · exact .inr (.inr hp)
        · simp only [List.map_append, List.map_cons] at hnd ⊢
          have h2 := List.nodup_append.1 hnd
          have h3 := List.nodup_cons.1 h2.2.1
          exact List.nodup_append.2 ⟨h2.1, h3.2, fun x hx y hy => h2.2.2 x hx y (List.mem_cons_of_mem _ hy)⟩
        · intro j oj hoj hlj e he hb
          by_cases hjq : q.1 = j
          · subst hjq
            rw [hol] at hoj
            injection hoj with hoj
            subst hoj
            exact getD_set_true (hall e (by simpa using he) hb)
          · rw [getD_set_ne false hjq] at hlj
            exact getD_set_true (hcl j oj hoj hlj e he hb)
        · have h2 := List.pairwise_append.1 hpw
          have h3 := List.pairwise_cons.1 h2.2.1
          exact List.pairwise_append.2 ⟨h2.1, h3.2, fun x hx y hy => h2.2.2 x hx y (List.mem_cons_of_mem _ hy)⟩
      -- the step
      obtain ⟨o', ho', hstep⟩ := hst
      rw [hol] at ho'
      injection ho' with ho'
      subst ho'
      unfold wpOp
      simp only [ho]
      obtain ⟨m, G, hsg⟩ := hs
      rcases hstep with hstep | ⟨hg, _, _, c, x, os, e1, hc, rfl⟩ | ⟨hg, _, bc, x, rs, ⟨b1, b2, b3, b4, b5, b6, b7⟩, _, rfl⟩
      · cases hgd : o.guard with
        | none => simp only [hgd] at hstep
        | some jw =>
          obtain ⟨j, want⟩ := jw
          simp only [hgd] at hstep
          obtain ⟨g1, _, _, rfl⟩ := hstep
          have hw : ¬ Region.wanted o (yielded ops a.tmps) = true := by
            cases hgo : guardOf ops.toList s j with
            | b t1 b =>
              rw [hgo] at g1
              have hy := guard_yield hsg hgo
              have hy' : yielded ops a.tmps j = some b := by simpa using hy
              simp only [GV.skips] at g1
              simp [Region.wanted, hgd, hy', g1]
            | und =>
              have hy := guard_und hsg hgo
              have hy' : yielded ops a.tmps j = none := by simpa using hy
              simp [Region.wanted, hgd, hy']
            | no => rw [hgo] at g1; exact g1.elim
          rw [if_neg hw]
          refine rest _ _ ⟨m, G, ?_⟩
          have hp := hsg.putO (t := o.dst) (x := .d (.tup [])) (v := undef) undef_ok
          unfold AS.put
          exact hp
      · have hw : Region.wanted o (yielded ops a.tmps) = true := by
          cases hgd : o.guard with
          | none => simp [Region.wanted, hgd]
          | some jw =>
            obtain ⟨j, want⟩ := jw
            simp only [hgd] at hg
            cases hgo : guardOf ops.toList s j with
            | b t1 b =>
              rw [hgo] at hg
              simp only [GV.runs] at hg
              subst hg
              have hy := guard_yield hsg hgo
              have hy' : yielded ops a.tmps j = some b := by simpa using hy
              simp [Region.wanted, hgd, hy']
            | und => rw [hgo] at hg; exact hg.elim
            | no => rw [hgo] at hg; exact hg.elim
        rw [if_pos hw]
        refine .inl (op_sound K hsg e1 hc (fun v w' m' G' hs' hz => rest _ _ ⟨m', G', ?_⟩))
        have := hs'.putO (t := o.dst) hz
        unfold AS.put
        exact this
      · have hw : Region.wanted o (yielded ops a.tmps) = true := by
          cases hgd : o.guard with
          | none => simp [Region.wanted, hgd]
          | some jw =>
            obtain ⟨j, want⟩ := jw
            simp only [hgd] at hg
            cases hgo : guardOf ops.toList s j with
            | b t1 b =>
              rw [hgo] at hg
              simp only [GV.runs] at hg
              subst hg
              have hy := guard_yield hsg hgo
              have hy' : yielded ops a.tmps j = some b := by simpa using hy
              simp [Region.wanted, hgd, hy']
            | und => rw [hgo] at hg; exact hg.elim
            | no => rw [hgo] at hg; exact hg.elim
        rw [if_pos hw]
        refine .inl (bcall_wp K hsg b1 b2 b3 b4 b6 b7 (fun v w' m' G' hs' hz => rest _ _ ⟨m', G', ?_⟩))
        have := hs'.putO (t := o.dst) hz
        unfold AS.put
        exact this

theorem fpsOk_spec {ms : List Nat} : ∀ {acc : List (Nat × List Nat × Bool)}, fpsOk ms acc = true → acc.Pairwise (fun q p => (∀ k, k ∈ p.2.1 → k ∉ q.2.1) ∨ (p.2.2 = true ∧ q.2.2 = true) ∨ (ms.getD q.1 0).testBit p.1 = true)
  | [], _ => List.Pairwise.nil
  | (i, fi, ri) :: r, h => by
    simp only [fpsOk, Bool.and_eq_true, List.all_eq_true, Bool.or_eq_true] at h
    refine List.pairwise_cons.2 ⟨fun p hp => ?_, fpsOk_spec h.2⟩
    rcases h.1 p hp with (h1 | h1) | h1
    · exact .inr (.inr h1)
    · refine .inl fun k hk hk2 => ?_
      have := h1 k hk2
      simp [hk] at this
    · exact .inr (.inl ⟨h1.2, h1.1⟩)

theorem standAt_len {rs0 : List Nat} : ∀ {ks : List Nat} {l : List Obj} {o : Objs}, standAt rs0 ks l o → l.length ≤ ks.length
  | _, [], _, _ => by simp
  | [], _ :: _, _, h => by simp [standAt] at h
  | k :: ks, x :: l, o, h => by
    simp only [standAt] at h
    have := standAt_len h.2
    simp only [List.length_cons]; omega
theorem draws_trace {ops : List Oper} {Kp : AS → Prop} : ∀ (r : List Oper) (i : Nat) (acc : List (Nat × List Nat × Bool)) (s : AS), (∀ j, r[j]? = ops[i + j]?) → aDraws C ops i r acc Kp s →
    ∃ l t acc', Tr C ops l s t ∧ okD ops acc' = true ∧ Kp t ∧ l.map (·.1) = List.range' i r.length ∧
      (∃ d, acc' = d ++ acc ∧ d.reverse.Sublist l ∧ ∀ q ∈ l, q ∉ d → q.2.1 = [] ∧ q.2.2 = true)
  | [], i, acc, s, _, h => by
    simp only [aDraws] at h
    exact ⟨[], s, acc, .nil s, h.1, h.2, rfl, [], rfl, List.Sublist.refl _, by simp⟩
  | o :: r, i, acc, s, hr, h => by
    have ho : ops[i]? = some o := by have := hr 0; simpa using this.symm
    have hr' : ∀ j, r[j]? = ops[i + 1 + j]? := fun j => by have := hr (j + 1); simpa [Nat.add_assoc, Nat.add_comm 1] using this
    have exec : ∀ s, aExecB C o (fun fp ro => aDraws C ops (i + 1) r ((i, fp, ro) :: acc) Kp) s → (match o.guard with
        | none => True
        | some (j, want) => (guardOf ops s j).runs want) → ∃ l t acc', Tr C ops l s t ∧ okD ops acc' = true ∧ Kp t ∧ l.map (·.1) = List.range' i (o :: r).length ∧
      (∃ d, acc' = d ++ acc ∧ d.reverse.Sublist l ∧ ∀ q ∈ l, q ∉ d → q.2.1 = [] ∧ q.2.2 = true) := by
      intro s h hg
      unfold aExecB at h
      split at h
      · next bc args hbo =>
        obtain ⟨x, rs, h1, rfl, h3, h4, h5, h6, h7⟩ := h
        obtain ⟨l, t, acc', k1, k2, k3, k4, d, k5, k6, k7⟩ := draws_trace r (i + 1) _ _ hr' h7
        refine ⟨(i, rs.map (· % 4096), false) :: l, t, acc', .cons ⟨o, ho, .inr (.inr ⟨hg, rfl, bc, x, rs, ⟨hbo, h1, h3, h4, standAt_len h5, h5, h6⟩, rfl, rfl⟩)⟩ k1, k2, k3, by simp [k4, List.range'], d ++ [(i, rs.map (· % 4096), false)], by simp [k5], by simpa using k6, fun q hq hqd => ?_⟩
        simp only [List.mem_append, List.mem_singleton, not_or] at hqd
        rcases List.mem_cons.1 hq with rfl | hq
        · exact absurd rfl hqd.2
        · exact k7 q hq hqd.1
      · split at h
        · next c x os hs =>
          obtain ⟨l, t, acc', k1, k2, k3, k4, d, k5, k6, k7⟩ := draws_trace r (i + 1) _ _ hr' h.2
          refine ⟨(i, fpOf C o s, roOf o.op) :: l, t, acc', .cons ⟨o, ho, .inr (.inl ⟨hg, rfl, rfl, c, x, os, hs, h.1, rfl⟩)⟩ k1, k2, k3, by simp [k4, List.range'], d ++ [(i, fpOf C o s, roOf o.op)], by simp [k5], by simpa using k6, fun q hq hqd => ?_⟩
          simp only [List.mem_append, List.mem_singleton, not_or] at hqd
          rcases List.mem_cons.1 hq with rfl | hq
          · exact absurd rfl hqd.2
          · exact k7 q hq hqd.1
        · exact h.elim
    simp only [aDraws] at h
    split at h
    · next hg => exact exec s h (by simp only [hg])
    · next j want hg =>
      split at h
      · next t b hgo =>
        obtain ⟨g, g1, g2, g3, g4⟩ := guardOf_spec hgo
        have hsame : ({ s with tmps := s.tmps.set t (.d (.bool b)) } : AS) = s := by rw [set_same g4 g3]
        by_cases hb : b = want
        · have := h.1 hb
          rw [← hb, hsame] at this
          exact exec s this (by simp only [hg, hgo, GV.runs]; exact hb)
        · have hb' : b = !want := by cases b <;> cases want <;> simp_all
          have := h.2 hb'
          rw [← hb', hsame] at this
          obtain ⟨l, t', acc', k1, k2, k3, k4, d, k5, k6, k7⟩ := draws_trace r (i + 1) _ _ hr' this
          refine ⟨(i, [], true) :: l, t', acc', .cons ⟨o, ho, .inl ?_⟩ k1, k2, k3, by simp [k4, List.range'], d, k5, k6.cons _, fun q hq hqd => ?_⟩
          · simp only [hg, hgo]
            exact ⟨hb, by simp⟩
          · rcases List.mem_cons.1 hq with rfl | hq
            · exact ⟨rfl, rfl⟩
            · exact k7 q hq hqd
      · next hgo =>
        obtain ⟨l, t', acc', k1, k2, k3, k4, d, k5, k6, k7⟩ := draws_trace r (i + 1) _ _ hr' h
        refine ⟨(i, [], true) :: l, t', acc', .cons ⟨o, ho, .inl ?_⟩ k1, k2, k3, by simp [k4, List.range'], d, k5, k6.cons _, fun q hq hqd => ?_⟩
        · simp only [hg, hgo]
          exact ⟨trivial, by simp⟩
        · rcases List.mem_cons.1 hq with rfl | hq
          · exact ⟨rfl, rfl⟩
          · exact k7 q hq hqd
      · exact h.elim

theorem slotsOk_spec {ops : List Oper} (h : slotsOk ops = true) {i k : Nat} {x y : Oper} (hk : ops[k]? = some x) (hi : ops[i]? = some y) (hlt : k < i) : ((masks ops).getD i 0).testBit k = true ∨ slotsApart ops x y = true := by
  simp only [slotsOk, List.all_eq_true, List.mem_range, Bool.or_eq_true] at h
  have := h i (List.getElem?_eq_some_iff.1 hi).1 k hlt
  rw [hk, hi] at this
  exact this

theorem draw_sound (K : CtxOk P C) (hC : C.dp = 1) {ops : Array Oper} {N : AS → Prop} {Q : Exit → Act → World → Prop} (hQ : ∀ st a w, SR base pass F0 st a w → N st → Q .normal a w) {s : AS} (h : SR base pass F0 s a w)
    (hn : aDraws C ops.toList 0 ops.toList [] N s) : wpAny P .any ops Q ops.size (Array.replicate ops.size false) a w := by
  obtain ⟨l, t, d, k1, k2, k3, k4, d', k5, k6, k7⟩ := draws_trace ops.toList 0 [] s (fun j => by simp) hn
  simp only [List.append_nil] at k5
  subst k5
  simp only [okD, Bool.and_eq_true] at k2
  obtain ⟨⟨e1, e2⟩, e3⟩ := k2
  have hlen : l.length = ops.size := by have := congrArg List.length k4; simpa using this
  have hmem : ∀ i, (∃ q ∈ l, q.1 = i) ↔ i < ops.size := by
    intro i
    have : i ∈ l.map (·.1) ↔ i < ops.size := by rw [k4]; simp
    rw [← this, List.mem_map]
  have hnd : (l.map (·.1)).Nodup := by rw [k4, ← List.range_eq_range']; exact List.nodup_range
  refine any_sound K hC e1 ops.size l _ s t a w hlen (by simp) (fun i hi => ?_) (fun q hq => (hmem q.1).1 ⟨q, hq, rfl⟩) hnd (fun i o ho hl => ?_) k1 ?_ h (fun a w hs => hQ t a w hs k3)
  · simp [hi, hmem i]
  · rcases Nat.lt_or_ge i ops.size with hlt | hge
    · simp [hlt] at hl
    · simp [Nat.not_lt.2 hge] at hl
  · -- each pair
    have hord : l.Pairwise (fun p q => p.1 < q.1) := by
      have : (l.map (·.1)).Pairwise (· < ·) := by rw [k4, ← List.range_eq_range']; exact List.pairwise_lt_range
      exact List.pairwise_map.1 this
    have hfp := fpsOk_spec e3
    have hd : d.reverse.Pairwise (fun p q => (∀ k, k ∈ p.2.1 → k ∉ q.2.1) ∨ (p.2.2 = true ∧ q.2.2 = true) ∨ ((masks ops.toList).getD q.1 0).testBit p.1 = true) := List.pairwise_reverse.2 hfp
    have hall : ∀ p ∈ l, ∀ q ∈ l, p.1 < q.1 → (∀ k, k ∈ p.2.1 → k ∉ q.2.1) ∨ (p.2.2 = true ∧ q.2.2 = true) ∨ ((masks ops.toList).getD q.1 0).testBit p.1 = true := by
      intro p hp q hq hlt
      by_cases hpd : p ∈ d
      · by_cases hqd : q ∈ d
        · -- both were looked at: their order is that of the text
          have hs : d.reverse.Pairwise (fun p q => p.1 < q.1) := hord.sublist k6
          have both : ∀ {R : Nat × List Nat × Bool → Nat × List Nat × Bool → Prop} {L : List (Nat × List Nat × Bool)}, L.Pairwise R → L.Pairwise (fun p q => p.1 < q.1) → ∀ p ∈ L, ∀ q ∈ L, p.1 < q.1 → R p q := by
            intro R L
            induction L with
            | nil => intro _ _ p hp; cases hp
            | cons x L ihL =>
              intro h1 h2 p hp q hq hlt
              rw [List.pairwise_cons] at h1 h2
              rcases List.mem_cons.1 hp with hpx | hp'
              · rcases List.mem_cons.1 hq with hqx | hq'
                · subst hpx; subst hqx; omega
                · subst hpx; exact h1.1 q hq'
              · rcases List.mem_cons.1 hq with hqx | hq'
                · subst hqx; have := h2.1 p hp'; omega
                · exact ihL h1.2 h2.2 p hp' q hq' hlt
          exact both hd hs p (by simpa using hpd) q (by simpa using hqd) hlt
        · obtain ⟨q1, _⟩ := k7 q hq hqd
          exact .inl fun k _ hk => by rw [q1] at hk; cases hk
      · obtain ⟨q1, _⟩ := k7 p hp hpd
        exact .inl fun k hk => by rw [q1] at hk; cases hk
    refine hord.imp_of_mem fun {p q} hp hq hlt => ?_
    have hpl := (hmem p.1).1 ⟨p, hp, rfl⟩
    have hql := (hmem q.1).1 ⟨q, hq, rfl⟩
    rcases slotsOk_spec e2 (k := p.1) (i := q.1) (x := ops[p.1]) (y := ops[q.1]) (by simp [hpl]) (by simp [hql]) hlt with hb | hap
    · exact .inr hb
    · rcases hall p hp q hq hlt with h1 | h1 | h1
      · refine .inl ⟨fun x y hx hy => ?_, .inl h1⟩
        have hx' : ops[p.1] = x := by simpa [hpl] using hx
        have hy' : ops[q.1] = y := by simpa [hql] using hy
        rw [← hx', ← hy']
        exact hap
      · refine .inl ⟨fun x y hx hy => ?_, .inr h1⟩
        have hx' : ops[p.1] = x := by simpa [hpl] using hx
        have hy' : ops[q.1] = y := by simpa [hql] using hy
        rw [← hx', ← hy']
        exact hap
      · exact .inr h1

theorem SR.drew (h : SR base pass F0 st a w) : SR base pass F0 st a { w with drawn := w.drawn + 1 } := by
  obtain ⟨m, G, h⟩ := h
  exact ⟨m, G, h.drew⟩

def exitOf : AExit → Exit
  | .normal => .normal
  | .exit id => .exit id
  | .ret => .ret

theorem awp_sound (K : CtxOk P C) : ∀ (c : Code) {N : AExit → AS → Prop} {Q : Exit → Act → World → Prop} {st : AS} {a : Act} {w : World},
    (∀ e st a w, SR base pass F0 st a w → N e st → Q (exitOf e) a w) → SR base pass F0 st a w → awp C c N st → c.wp P Q a w
  | .skip, N, Q, st, a, w, hQ, h, hn => wp_skip (hQ .normal st a w h hn)
  | .region id ops false, N, Q, st, a, w, hQ, h, hn => by
    simp only [awp] at hn
    refine wp_region_list ?_
    have := ops_sound (P := P) K (Q := Q) (hQ .normal) ops.toList st a w h hn
    simpa using this
  | .region id ops true, N, Q, st, a, w, hQ, h, hn => by
    simp only [awp] at hn
    refine wp_region_any K.2.2.1 (draw_sound (C := C.one) ⟨K.1, K.2.1, K.2.2.1, K.2.2.2⟩ rfl (hQ .normal) h.drew hn)
  | .seq x y, N, Q, st, a, w, hQ, h, hn => by
    simp only [awp] at hn
    refine wp_seq (awp_sound K x ?_ h hn)
    intro e st a w hs he
    cases e with
    | normal => exact awp_sound K y hQ hs he
    | exit id => exact hQ (.exit id) st a w hs he
    | ret => exact hQ .ret st a w hs he
  | .cond c x y, N, Q, st, a, w, hQ, h, hn => by
    simp only [awp] at hn
    split at hn
    · next b hb =>
      obtain ⟨m, G, hs⟩ := h
      have hr := ev_sound (C := C) (hint := 0) hs.tmps c
      rw [hb] at hr
      simp only [RA] at hr
      have hv := hr.of_bool hn.1
      exact wp_cond_split hv (fun ht => awp_sound K x hQ ⟨m, G, hs⟩ (hn.2.1 ht)) (fun hf => awp_sound K y hQ ⟨m, G, hs⟩ (hn.2.2 hf))
    · exact hn.elim
  | .block id c, N, Q, st, a, w, hQ, h, hn => by
    simp only [awp] at hn
    refine wp_block (awp_sound K c ?_ h hn)
    intro e st a w hs he
    cases e with
    | normal => exact hQ .normal st a w hs he
    | exit id' =>
      simp only [aBlock] at he
      simp only [exitOf, Exit.inBlock]
      split
      · next hid => rw [if_pos hid] at he; exact hQ .normal st a w hs he
      · next hid => rw [if_neg hid] at he; exact hQ (.exit id') st a w hs he
    | ret => exact hQ .ret st a w hs he
  | .loop c, N, Q, st, a, w, hQ, h, hn => by
    simp only [awp] at hn
    obtain ⟨α, inv, ok, μ, ⟨x0, hw0, hok0⟩, hround⟩ := hn
    obtain ⟨m, G, hs⟩ := h
    refine wp_loop_ghost (fun n a w => ∃ x, ok x ∧ μ x = n ∧ SR base pass F0 (inv x) a w) (μ x0) ⟨x0, hok0, rfl, m, _, hs.weak hw0⟩ ?_
    rintro n a w ⟨x, hok, rfl, hsx⟩
    refine awp_sound K c ?_ hsx (hround x hok)
    intro e st a w hs he
    cases e with
    | normal =>
      obtain ⟨x', hw', hok', hlt⟩ := he
      obtain ⟨m', G', hs'⟩ := hs
      exact ⟨μ x', hlt, x', hok', rfl, m', _, hs'.weak hw'⟩
    | exit id => exact hQ (.exit id) st a w hs he
    | ret => exact hQ .ret st a w hs he
  | .exit id, N, Q, st, a, w, hQ, h, hn => wp_exit (hQ (.exit id) st a w h hn)
  | .ret, N, Q, st, a, w, hQ, h, hn => wp_ret (hQ .ret st a w h hn)
  | .rangeFunc .., _, _, _, _, _, _, _, hn => by simp [awp] at hn
  | .scope _, _, _, _, _, _, _, _, hn => by simp [awp] at hn
  | .label _, _, _, _, _, _, _, _, hn => by simp [awp] at hn
  | .goto _, _, _, _, _, _, _, _, hn => by simp [awp] at hn
  | .refuse _, _, _, _, _, _, _, _, hn => by simp [awp] at hn

end

/-! ### functions -/
/-- What a result slot holds. -/
def resAV (C : Ctx) (st : AS) : ResultVar → Option (Prop × AV)
  | .tmp t => some (True, st.tmps.getD t .dead)
  | .cell t T => match hLoad C T (st.tmps.getD t .dead) st.objs with
    | some (c, x, _) => some (c, x)
    | none => none
def resAll (C : Ctx) (st : AS) : List ResultVar → Option (Prop × List AV)
  | [] => some (True, [])
  | r :: rs => match resAV C st r, resAll C st rs with
    | some (c, x), some (c', l) => some (c ∧ c', x :: l)
    | _, _ => none
/-- What a function's end is to show. -/
def retOk (C : Ctx) (rs : List ResultVar) (outs : List Bool) (r : CV) (st : AS) : Prop := match resAll C st rs with
  | some (c, xs) => match inArgs C outs xs st.objs with
    | some (c', cvs, _) => c ∧ c' ∧ match cvs with
      | [x] => x = r
      | l => CV.tup l = r
    | none => False
  | none => False
def Post (C : Ctx) (rs : List ResultVar) (outs : List Bool) (r : CV) : AExit → AS → Prop
  | .exit _, _ => False
  | _, st => retOk C rs outs r st

/-- The slots and objects with which a function begins. -/
def beginAll : Nat → List CV → List AV × Objs
  | _, [] => ([], [])
  | k, .d x :: r => (.d x :: (beginAll (k + 1) r).1, (beginAll (k + 1) r).2)
  | k, .own s l :: r => (.sl k l.length :: (beginAll (k + 1) r).1, (k, .row s l 0) :: (beginAll (k + 1) r).2)
  | k, .tup _ :: r => (.dead :: (beginAll (k + 1) r).1, (beginAll (k + 1) r).2)
def deads : Nat → List AV
  | 0 => []
  | n + 1 => .dead :: deads n
def beginAS (n : Nat) (cvs : List CV) : AS := ⟨(beginAll 90000 cvs).1 ++ deads (n - cvs.length), (beginAll 90000 cvs).2⟩

theorem upd_new : ∀ {o : Objs} {k : Nat} {x : Obj}, lk o k = none → upd o k x = o ++ [(k, x)]
  | [], _, _, _ => rfl
  | (j, p) :: r, k, x, h => by
    simp only [lk] at h
    by_cases hkj : k = j
    · rw [if_pos hkj] at h; cases h
    · rw [if_neg hkj] at h
      simp only [upd, if_neg hkj, List.cons_append, upd_new h]

theorem begin_sound {base : Nat} {pass : Nat → Prop} {F0 : Anc} {m : Nat → Nat} {w : World} : ∀ {cvs : List CV} {vs : List Value} {k : Nat} {os : Objs} {G : Gh}, SRg base pass F0 m G ⟨[], os⟩ ⟨#[], []⟩ w → CVRs ⟨w, m⟩ cvs vs → (ownsOf cvs vs).Nodup →
    (∀ b ∈ ownsOf cvs vs, (base ≤ b ∨ pass b) ∧ ∀ i oi, lk os i = some oi → oi.owns = true → G.γ i ≠ some b) → (∀ j, k ≤ j → lk os j = none) →
    ∃ G', Goes G (lk os) G' (lk (os ++ (beginAll k cvs).2)) ∧ SRg base pass F0 m G' ⟨[], os ++ (beginAll k cvs).2⟩ ⟨#[], []⟩ w ∧ RAs ⟨w, m⟩ G' (lk (os ++ (beginAll k cvs).2)) (beginAll k cvs).1 vs
  | [], vs, k, os, G, h, hc, _, _, _ => by
    simp only [CVRs] at hc
    subst hc
    simp only [beginAll, List.append_nil]
    exact ⟨G, Goes.refl _ _, h, by simp [RAs]⟩
  | .tup l :: cvs, vs, k, os, G, h, hc, _, _, _ => by
    simp only [CVRs, CVR] at hc
    obtain ⟨_, _, _, hf, _⟩ := hc
    exact hf.elim
  | .d x :: cvs, vs, k, os, G, h, hc, hn, hb, hk => by
    simp only [CVRs, CVR] at hc
    obtain ⟨v, r, rfl, hx, hxs⟩ := hc
    obtain ⟨G', q1, q2, q3⟩ := begin_sound (k := k + 1) h hxs (by simpa [ownsOf] using hn) (fun b hbb => hb b (by simpa [ownsOf] using hbb)) (fun j hj => hk j (by omega))
    simp only [beginAll]
    refine ⟨G', q1, q2, ?_⟩
    simp only [RAs, RA]
    exact ⟨v, r, rfl, hx, q3⟩
  | .own s l :: cvs, vs, k, os, G, h, hc, hn, hb, hk => by
    simp only [CVRs, CVR] at hc
    obtain ⟨v, r, rfl, hx, hxs⟩ := hc
    have hsplit : ownsOf (.own s l :: cvs) (v :: r) = v.ownBlock.toList ++ ownsOf cvs r := rfl
    rw [hsplit] at hn hb
    obtain ⟨n1, n2, n3⟩ := List.nodup_append.1 hn
    have hk0 := hk k (Nat.le_refl _)
    obtain ⟨G1, q1, q2, q3, q4, q5⟩ := h.adopt hk0 hx (fun b hbb => hb b (List.mem_append_left _ (by simp [hbb])))
    rw [upd_new hk0] at q1 q2 q3
    obtain ⟨G', p1, p2, p3⟩ := begin_sound (k := k + 1) (os := os ++ [(k, .row s l 0)]) q2 hxs n2 (fun b hbb => by
      refine ⟨(hb b (List.mem_append_right _ hbb)).1, fun i oi hi ho hg => ?_⟩
      rw [← upd_new hk0, lk_upd] at hi
      by_cases hik : i = k
      · subst hik
        exact n3 b (by simp [q5 b hg]) b hbb rfl
      · rw [if_neg hik] at hi
        rw [q4 i hik] at hg
        exact (hb b (List.mem_append_right _ hbb)).2 i oi hi ho hg) (fun j hj => by
      rw [← upd_new hk0, lk_upd, if_neg (by omega)]
      exact hk j (by omega))
    simp only [beginAll]
    simp only [List.append_assoc, List.singleton_append] at p1 p2 p3
    refine ⟨G', ?_, p2, ?_⟩
    · intro j o hj
      obtain ⟨oa, a1, a2, a3⟩ := q1 j o hj
      obtain ⟨ob, b1, b2, b3⟩ := p1 j oa a1
      refine ⟨ob, b1, fun hbx => ?_, fun s' els' k' he => ?_⟩
      · obtain ⟨u1, u2⟩ := b2 hbx
        obtain ⟨u3, u4⟩ := a2 u1
        exact ⟨u3, u2.trans u4⟩
      · obtain ⟨els1, kk1, e1, e2, e3⟩ := b3 s' els' k' he
        obtain ⟨els2, kk2, f1, f2, f3⟩ := a3 s' els1 kk1 e1
        refine ⟨els2, kk2, f1, Nat.le_trans f2 e2, fun hl => ?_⟩
        obtain ⟨u1, u2⟩ := e3 (by omega)
        obtain ⟨u3, u4⟩ := f3 (by omega)
        exact ⟨u1.trans u3, u2.trans u4⟩
    · simp only [RAs]
      exact ⟨v, r, rfl, RA.mono (Fix.le_refl _) p1 q3, p3⟩

theorem CVRs.length {F : Fix} : ∀ {l : List CV} {vs : List Value}, CVRs F l vs → vs.length = l.length
  | [], _, h => by simp only [CVRs] at h; simp [h]
  | _ :: l, _, h => by
    simp only [CVRs] at h
    obtain ⟨v, r, rfl, _, h3⟩ := h
    simp [CVRs.length h3]

theorem deads_sound {F : Fix} {G : Gh} {L : Nat → Option Obj} : ∀ n, RAs F G L (deads n) (List.replicate n undef)
  | 0 => by simp [deads, RAs]
  | n + 1 => by simp only [deads, List.replicate_succ, RAs, RA]; exact ⟨undef, _, rfl, trivial, deads_sound n⟩

/-- A result slot, read. -/
def resSem (a : Act) : ResultVar → Sem Value
  | .tmp t => pure (a.tmps.getD t undef)
  | .cell t T => do loadVar T (← asAddr (a.tmps.getD t undef))

theorem run_resSem {P : Program} {w : World} {T : TypeId} {v v' : Value} (h : (Instr.loadAt T v).run P w = .ok v' w) : (do loadVar T (← asAddr v) : Sem Value).run P w = .ok v' w := by
  cases v with
  | pointer a =>
    cases a with
    | none => simp [Instr.loadAt, Instr.sureAddr] at h
    | some a => simpa [Instr.loadAt, Instr.sureAddr, asAddr] using h
  | _ => simp [Instr.loadAt, Instr.sureAddr] at h

section
variable {P : Program} {C : Ctx} {base : Nat} {pass : Nat → Prop} {F0 : Anc} {m : Nat → Nat} {G : Gh} {st : AS} {a : Act} {w : World}

theorem resAV_sound (T : TabOk P C.τ) (h : SRg base pass F0 m G st a w) {r : ResultVar} {c : Prop} {x : AV}
    (hr : resAV C st r = some (c, x)) (hc : c) : ∃ v, (resSem a r).run P w = .ok v w ∧ RA ⟨w, m⟩ G (lk st.objs) x v := by
  cases r with
  | tmp t =>
    simp only [resAV, Option.some.injEq, Prod.mk.injEq] at hr
    obtain ⟨rfl, rfl⟩ := hr
    exact ⟨_, rfl, ev_sound (C := C) (hint := 0) h.tmps (.tmp t)⟩
  | cell t T' =>
    simp only [resAV] at hr
    split at hr
    · next c1 y os hl =>
      simp only [Option.some.injEq, Prod.mk.injEq] at hr
      obtain ⟨rfl, rfl⟩ := hr
      have hp := ev_sound (C := C) (hint := 0) h.tmps (.tmp t)
      obtain ⟨_, v, r1, r2⟩ := load_ok (P := P) T h hp hl hc
      exact ⟨v, run_resSem r1, r2⟩
    · cases hr

theorem resAll_sound (T : TabOk P C.τ) (h : SRg base pass F0 m G st a w) : ∀ {rs : List ResultVar} {c : Prop} {xs : List AV}, resAll C st rs = some (c, xs) → c →
    ∃ vs, (rs.mapM (resSem a)).run P w = .ok vs w ∧ RAs ⟨w, m⟩ G (lk st.objs) xs vs
  | [], c, xs, hr, hc => by
    simp only [resAll, Option.some.injEq, Prod.mk.injEq] at hr
    obtain ⟨rfl, rfl⟩ := hr
    exact ⟨[], by simp, by simp [RAs]⟩
  | r :: rs, c, xs, hr, hc => by
    simp only [resAll] at hr
    split at hr
    · next c1 x c2 l h1 h2 =>
      simp only [Option.some.injEq, Prod.mk.injEq] at hr
      obtain ⟨rfl, rfl⟩ := hr
      obtain ⟨v, e1, e2⟩ := resAV_sound T h h1 hc.1
      obtain ⟨vs, g1, g2⟩ := resAll_sound T h h2 hc.2
      refine ⟨v :: vs, by simp [List.mapM_cons, e1, g1], ?_⟩
      simp only [RAs]
      exact ⟨v, vs, rfl, e2, g2⟩
    · cases hr

def packs : List Value → Value
  | [v] => v
  | vs => .tuple vs.toArray

theorem run_results {fn : Func} {vs : List Value} (h : (fn.results.toList.mapM (resSem a)).run P w = .ok vs w) : (results fn a.tmps).run P w = .ok (packs vs) w := by
  have e : results fn a.tmps = (do
      let us ← List.toArray <$> fn.results.toList.mapM (resSem a)
      pure (if h : us.size = 1 then us[0] else .tuple us)) := by
    unfold results
    congr 1
    rw [Array.mapM_eq_mapM_toList]
    rfl
  rw [e]
  simp only [Sem.run_bind, Sem.run_map, h, Result.andThen_ok, Sem.run_pure]
  match vs with
  | [] => simp [packs]
  | [v] => simp [packs]
  | _ :: _ :: _ => simp [packs]

/-- A function's contract, out of what its code is shown to do. -/
theorem fn_sound (K : CtxOk P C) {f : FuncId} {fn : Func} {c : Code} {con : Con} (hf : P.funcs[f]? = some fn) (hb : fn.body = some c) (rs : List ResultVar) (hrs : fn.results.toList = rs) (nt : Nat) (hnt : fn.ntmps = nt)
    (h : ∀ cvs, con.pre cvs → awp C c (Post C rs con.outs (con.fn cvs)) (beginAS nt cvs)) : Sound P f con := by
  intro m w cvs vs hpre hcv hnd hnew
  subst hnt
  subst hrs
  refine calls_of_wp hf hb ?_
  have hlt : ∀ (l : List CV) (us : List Value), CVRs ⟨w, m⟩ l us → ∀ b ∈ ownsOf l us, b < w.heap.size := by
    intro l
    induction l with
    | nil => intro us hu b hb; simp [ownsOf] at hb
    | cons x l ih =>
      intro us hu b hb
      simp only [CVRs] at hu
      obtain ⟨u, r, rfl, hx1, hxs1⟩ := hu
      have hsplit : ownsOf (x :: l) (u :: r) = ownsOf [x] [u] ++ ownsOf l r := by cases x <;> simp [ownsOf]
      rw [hsplit] at hb
      rcases List.mem_append.1 hb with hb | hb
      · cases x with
        | own s els =>
          simp [ownsOf] at hb
          exact (OwnV.lt hx1 hb).1
        | _ => simp [ownsOf] at hb
      · exact ih r hxs1 b hb
  have h0 : SRg w.heap.size (· ∈ ownsOf cvs vs) ⟨⟨w, m⟩, ⟨fun _ => none, fun _ => undef⟩, fun _ => none⟩ m ⟨fun _ => none, fun _ => undef⟩ ⟨[], []⟩ ⟨#[], []⟩ w :=
    ⟨rfl, by simp [RAs], fun i o hi => by simp [lk] at hi, fun i j oi oj b hi => by simp [lk] at hi, fun i o b hi => by simp [lk] at hi, Frame.refl _ _ _, fun _ _ _ => rfl, hnew, Nat.le_refl _, fun i o hi => by cases hi⟩
  obtain ⟨G, q1, q2, q3⟩ := begin_sound (k := 90000) (os := []) h0 hcv hnd (fun b hb => ⟨.inr hb, fun i oi hi => by simp [lk] at hi⟩) (fun _ _ => rfl)
  simp only [List.nil_append] at q1 q2 q3
  have hlen := CVRs.length hcv
  have hs : SRg w.heap.size (· ∈ ownsOf cvs vs) ⟨⟨w, m⟩, ⟨fun _ => none, fun _ => undef⟩, fun _ => none⟩ m G (beginAS fn.ntmps cvs) { tmps := vs.toArray ++ Array.replicate (fn.ntmps - vs.toArray.size) undef, defers := [] } w := by
    refine ⟨rfl, ?_, q2.objs, q2.apart, q2.mine, q2.frame, q2.old, q2.new, q2.small, q2.lent⟩
    have := RAs.append q3 (deads_sound (F := ⟨w, m⟩) (G := G) (L := lk (beginAll 90000 cvs).2) (fn.ntmps - cvs.length))
    simpa [beginAS, hlen] using this
  have fin : ∀ (st : AS) (a : Act) (w' : World), SR w.heap.size (· ∈ ownsOf cvs vs) ⟨⟨w, m⟩, ⟨fun _ => none, fun _ => undef⟩, fun _ => none⟩ st a w' → retOk C fn.results.toList con.outs (con.fn cvs) st →
      a.defers = [] ∧ ∃ v, (results fn a.tmps).run P w' = .ok v w' ∧ ∃ u m', Ending.returned v = .returned u ∧ Frame w.heap.size (· ∈ ownsOf cvs vs) w w' ∧ (∀ b, b < w.heap.size → b ∉ ownsOf cvs vs → m' b = m b) ∧
        (∀ b, w'.heap.size ≤ b → m' b = 0) ∧ Res ⟨w', m'⟩ w.heap.size (· ∈ ownsOf cvs vs) (con.fn cvs) u := by
    intro st a w' ⟨m1, G1, hs1⟩ hret
    unfold retOk at hret
    split at hret
    · next c1 xs hra =>
      split at hret
      · next c2 cvs2 os hin =>
        obtain ⟨hc1, hc2, hfin⟩ := hret
        obtain ⟨us, e1, e2⟩ := resAll_sound K.1 hs1 hra hc1
        obtain ⟨m2, k1, k2, k3, k4, k5⟩ := inArgs_sound hs1 hin hc2 e2
        refine ⟨hs1.defers, _, run_results e1, _, m2, rfl, k1.frame, fun b hb hnb => k1.old b hb hnb, k1.new, ?_⟩
        split at hfin
        · next x =>
          simp only [CVRs] at k3
          obtain ⟨v, r, rfl, hx, rfl⟩ := k3
          rw [← hfin]
          cases x with
          | tup l => simp [CVR] at hx
          | d x =>
            simp only [Res]
            exact ⟨⟨v, [], rfl, hx, rfl⟩, fun b hb => (k5 b hb).1⟩
          | own s l =>
            simp only [Res]
            exact ⟨⟨v, [], rfl, hx, rfl⟩, fun b hb => (k5 b hb).1⟩
        · next hne =>
          rw [← hfin]
          simp only [Res]
          refine ⟨us, ?_, k3, k4, fun b hb => (k5 b hb).1⟩
          match us, CVRs.length k3 with
          | [u], hl =>
            match cvs2, hl with
            | [x], _ => exact absurd rfl (hne x)
          | [], _ => rfl
          | _ :: _ :: _, _ => rfl
      · exact hret.elim
    · exact hret.elim
  refine awp_sound K c ?_ ⟨m, G, hs⟩ (h cvs hpre)
  intro e st a w' hsr hpost
  cases e with
  | normal => exact fin st a w' hsr hpost
  | ret => exact fin st a w' hsr hpost
  | exit id => exact hpost.elim

/-! ### functions to which something is lent -/
def packD : List D → D
  | [d] => d
  | l => .tup l
def canon (n : Nat) (qs : List Nat) : Prop := ∀ j, j < n → qs[j]? = some (90000 + j)
/-- What such a function's end is to show: where its objects stand then. -/
def retB (C : Ctx) (rs : List ResultVar) (n : Nat) (res : D) (post : List Obj) (st : AS) : Prop := match resAll C st rs with
  | some (c, xs) => match purs C.dp xs st.objs with
    | some (c', ds, os) => c ∧ c' ∧ packD ds = res ∧ ∃ qs : List Nat, qs.Nodup ∧ qs.length = post.length ∧ canon n qs ∧ standAt qs qs post os
    | none => False
  | none => False
def PostB (C : Ctx) (rs : List ResultVar) (n : Nat) (res : D) (post : List Obj) : AExit → AS → Prop
  | .exit _, _ => False
  | _, st => retB C rs n res post st

theorem packs_R {F : Fix} {ds : List D} {us : List Value} (h : Rs F ds us) : R F (packD ds) (packs us) := by
  match ds, us, h with
  | [], us, h =>
    simp only [Rs] at h
    subst h
    simp only [packD, packs, R, Rs]
    exact ⟨[], rfl, rfl⟩
  | [d], us, h =>
    simp only [Rs] at h
    obtain ⟨v, r, rfl, h2, rfl⟩ := h
    exact h2
  | d :: e :: l, us, h =>
    have h' := h
    simp only [Rs] at h
    obtain ⟨v, r, rfl, h2, v', r', rfl, h3, h4⟩ := h
    simp only [packD, packs, R]
    exact ⟨_, rfl, h'⟩

theorem fn_soundB (K : CtxOk P C) {f : FuncId} {fn : Func} {c : Code} {bc : BCon} (hf : P.funcs[f]? = some fn) (hb : fn.body = some c) (rs : List ResultVar) (hrs : fn.results.toList = rs) (nt : Nat) (hnt : fn.ntmps = nt)
    (h : ∀ x, bc.ok x → Tied (bc.args x) (bc.objs x) ∧ noneFixed (bc.objs x) ∧ Tied [] (bc.post x) ∧ (bc.objs x).length ≤ (bc.post x).length ∧
      awp C c (PostB C rs (bc.objs x).length (bc.res x) (bc.post x)) ⟨bc.args x ++ deads (nt - (bc.args x).length), mkObjs (bc.objs x)⟩) : SoundB P f bc := by
  intro x hok
  obtain ⟨h1, h2, h3, h4, h5⟩ := h x hok
  refine ⟨h1, h2, h3, h4, fun m w G vs hsr => ?_⟩
  subst hnt
  subst hrs
  refine calls_of_wp hf hb ?_
  have hlen := RAs.length (by simpa using hsr.tmps : RAs ⟨w, m⟩ G (lk (mkObjs (bc.objs x))) (bc.args x) vs)
  have hs : SRg w.heap.size (passB G (bc.objs x)) ⟨⟨w, m⟩, G, lk (mkObjs (bc.objs x))⟩ m G ⟨bc.args x ++ deads (fn.ntmps - (bc.args x).length), mkObjs (bc.objs x)⟩
      { tmps := vs.toArray ++ Array.replicate (fn.ntmps - vs.toArray.size) undef, defers := [] } w := by
    refine ⟨rfl, ?_, hsr.objs, hsr.apart, hsr.mine, hsr.frame, hsr.old, hsr.new, hsr.small, hsr.lent⟩
    have := RAs.append (by simpa using hsr.tmps : RAs ⟨w, m⟩ G (lk (mkObjs (bc.objs x))) (bc.args x) vs) (deads_sound (F := ⟨w, m⟩) (G := G) (L := lk (mkObjs (bc.objs x))) (fn.ntmps - (bc.args x).length))
    simpa [hlen] using this
  have fin : ∀ (st : AS) (a : Act) (w' : World), SR w.heap.size (passB G (bc.objs x)) ⟨⟨w, m⟩, G, lk (mkObjs (bc.objs x))⟩ st a w' → retB C fn.results.toList (bc.objs x).length (bc.res x) (bc.post x) st →
      a.defers = [] ∧ ∃ v, (results fn a.tmps).run P w' = .ok v w' ∧ ∃ u m' G', Ending.returned v = .returned u ∧ R ⟨w', m'⟩ (bc.res x) u ∧
        SRg w.heap.size (passB G (bc.objs x)) ⟨⟨w, m⟩, G, lk (mkObjs (bc.objs x))⟩ m' G' ⟨[], mkObjs (bc.post x)⟩ ⟨#[], []⟩ w' := by
    intro st a w' ⟨m1, Gf, hs1⟩ hret
    unfold retB at hret
    split at hret
    · next c1 xs hra =>
      split at hret
      · next c2 ds os hpu =>
        obtain ⟨hc1, hc2, hpk, qs, hnd, hql, hcan, hst⟩ := hret
        obtain ⟨us, e1, e2⟩ := resAll_sound K.1 hs1 hra hc1
        obtain ⟨m2, k1, _, k3⟩ := purs_sound' hs1 hpu hc2 e2
        have hinj : ∀ {j j' k : Nat}, qs[j]? = some k → qs[j']? = some k → j = j' := by
          intro j j' k h1 h2
          obtain ⟨hj, e1⟩ := List.getElem?_eq_some_iff.1 h1
          obtain ⟨hj', e2⟩ := List.getElem?_eq_some_iff.1 h2
          have hp := List.pairwise_iff_getElem.1 hnd
          rcases Nat.lt_trichotomy j j' with hlt | heq | hgt
          · exact absurd (e1.trans e2.symm) (hp j j' hj hj' hlt)
          · exact heq
          · exact absurd (e2.trans e1.symm) (hp j' j hj' hj hgt)
        let G' : Gh := ⟨fun i => Gf.γ (rk qs i), fun i => Gf.hd (rk qs i)⟩
        have al : Alike qs (bc.post x) G' Gf (lk os) := ⟨fun i o hi => by
          obtain ⟨j, rfl, hj⟩ := lk_mkObjs hi
          obtain ⟨k, hk, hkk⟩ := standAt_at hst hj
          rw [rk_at hk]; exact hkk, fun i o hi => ⟨rfl, rfl⟩⟩
        refine ⟨hs1.defers, _, run_results e1, _, m2, G', rfl, by rw [← hpk]; exact packs_R k3, ?_⟩
        constructor
        · rfl
        · simp [RAs]
        · intro i o hi
          obtain ⟨j, rfl, hj⟩ := lk_mkObjs hi
          exact (rn_ObjOk al hi (tiedAll_at h3.2 hj)).2 (k1.objs _ _ (al.obj _ _ hi))
        · intro i i' o o' b hi hi' ho ho' hb hb'
          have e := k1.apart _ _ _ _ b (al.obj _ _ hi) (al.obj _ _ hi') (by rw [rnO_owns]; exact ho) (by rw [rnO_owns]; exact ho') hb hb'
          obtain ⟨j, rfl, hj⟩ := lk_mkObjs hi
          obtain ⟨j', rfl, hj'⟩ := lk_mkObjs hi'
          obtain ⟨k, hk, _⟩ := standAt_at hst hj
          obtain ⟨k', hk', _⟩ := standAt_at hst hj'
          rw [rk_at hk, rk_at hk'] at e
          subst e
          rw [hinj hk hk']
        · intro i o b hi ho hb
          exact k1.mine _ _ b (al.obj _ _ hi) (by rw [rnO_owns]; exact ho) hb
        · exact k1.frame
        · exact k1.old
        · exact k1.new
        · exact k1.small
        · intro i o hi
          obtain ⟨hge, o', ho', hw⟩ := k1.lent i o hi
          obtain ⟨j, rfl, hj⟩ := lk_mkObjs hi
          have hjn : j < (bc.objs x).length := (List.getElem?_eq_some_iff.1 hj).1
          have hjp : j < (bc.post x).length := by omega
          have hp := List.getElem?_eq_getElem (l := bc.post x) hjp
          obtain ⟨k, hk, hkk⟩ := standAt_at hst hp
          rw [hcan j hjn] at hk
          injection hk with hk
          subst hk
          simp only at ho'
          rw [hkk] at ho'
          injection ho' with ho'
          subst ho'
          have eg : G'.γ (90000 + j) = Gf.γ (90000 + j) := by show Gf.γ (rk qs (90000 + j)) = _; rw [rk_at (hcan j hjn)]
          have eh : G'.hd (90000 + j) = Gf.hd (90000 + j) := by show Gf.hd (rk qs (90000 + j)) = _; rw [rk_at (hcan j hjn)]
          refine ⟨hge, _, mkObjs_at hp, fun hb => ?_, fun s els' k' he => ?_⟩
          · obtain ⟨w1, w2⟩ := hw.1 (by rw [rnO_isBox]; exact hb)
            exact ⟨w1, eg.trans w2⟩
          · obtain ⟨els, k0, f1, f2, f3⟩ := hw.2 s els' k' (rnO_row.2 he)
            refine ⟨els, k0, f1, f2, fun heq => ?_⟩
            obtain ⟨q1, q2⟩ := f3 heq
            exact ⟨eg.trans q1, eh.trans q2⟩
      · exact hret.elim
    · exact hret.elim
  refine awp_sound K c ?_ ⟨m, G, hs⟩ h5
  intro e st a w' hsr hpost
  cases e with
  | normal => exact fin st a w' hsr hpost
  | ret => exact fin st a w' hsr hpost
  | exit id => exact hpost.elim

end
end Go.Am
