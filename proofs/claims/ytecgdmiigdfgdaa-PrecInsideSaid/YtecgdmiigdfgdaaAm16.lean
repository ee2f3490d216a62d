/-
  The abstract machine, part 16: one operation, a region, a piece of code: what is shown of them holds of the machine.
-/
import Derived.Test.YtecgdmiigdfgdaaAm15c
import Derived.Deep.LoopGhost
namespace Go.Am
open Go.RowKit (Below)

section
variable {P : Program} {C : Ctx} {G : Gh}
variable {base : Nat} {pass : Nat → Prop} {F0 : Anc} {m : Nat → Nat} {st : AS} {a : Act} {w : World}

theorem evs_sound {F : Fix} {L : Nat → Option Obj} (h : RAs F G L st.tmps a.tmps.toList) : ∀ (xs : List Operand) (ts : List Nat), RAs F G L (evs C st xs ts) (xs.map a.eval)
  | [], ts => by cases ts <;> simp [evs, RAs]
  | x :: xs, [] => by simp only [evs, List.map_cons, RAs]; exact ⟨_, _, rfl, ev_sound h x, evs_sound h xs []⟩
  | x :: xs, t :: ts => by simp only [evs, List.map_cons, RAs]; exact ⟨_, _, rfl, ev_sound h x, evs_sound h xs ts⟩

theorem evParts_sound {F : Fix} {L : Nat → Option Obj} (h : RAs F G L st.tmps a.tmps.toList) (hint : Nat) : ∀ (ps : List (Nat × Operand)) (j i : Nat) (x : AV), (evParts C st hint ps)[j]? = some (i, x) →
    ∃ v, (ps.map fun p => (p.1, a.eval p.2))[j]? = some (i, v) ∧ RA F G L x v
  | [], j, i, x, hj => by simp [evParts] at hj
  | (i0, y) :: ps, 0, i, x, hj => by
    simp only [evParts, List.getElem?_cons_zero, Option.some.injEq, Prod.mk.injEq] at hj
    obtain ⟨rfl, rfl⟩ := hj
    exact ⟨a.eval y, rfl, ev_sound h y⟩
  | (i0, y) :: ps, j + 1, i, x, hj => by
    simp only [evParts, List.getElem?_cons_succ] at hj
    simpa using evParts_sound h hint ps j i x hj

theorem evParts_length (hint : Nat) : ∀ (ps : List (Nat × Operand)), (evParts C st hint ps).length = ps.length
  | [] => rfl
  | (i, x) :: ps => by simp [evParts, evParts_length hint ps]

theorem evO_sound {F : Fix} {L : Nat → Option Obj} (h : RAs F G L st.tmps a.tmps.toList) (t : Nat) (x : Option Operand) : OptRA F G L (evO C st t x) (x.map a.eval) := by
  cases x with
  | none => simp [evO, OptRA]
  | some x => simp only [evO, Option.map_some, OptRA]; exact ev_sound h x

/-- What follows an operation. -/
def After (base : Nat) (pass : Nat → Prop) (F0 : Anc) (a : Act) (tm : List AV) (dst : Option Tmp) (z : AV) (os : Objs) (K : Act → World → Prop) : Prop :=
  ∀ v w' m' G', SRg base pass F0 m' G' ⟨tm, os⟩ a w' → RA ⟨w', m'⟩ G' (lk os) z v → K (a.put dst v) w'

theorem wp_tells {o : Oper} {s : Sem Value} {z : AV} {os : Objs} {K : Act → World → Prop} {Q : Exit → Act → World → Prop} (he : execOp a.eval o = (do pure (.value (← s)))) (ht : Tells P base pass F0 a st.tmps s w z os)
    (hn : After base pass F0 a st.tmps o.dst z os K) : o.wp P a w K Q := by
  obtain ⟨v, w', m', G', hr, hs, hz⟩ := ht
  unfold Oper.wp
  rw [he]
  simp only [Sem.run_bind, hr, Result.andThen_ok, Sem.run_pure, Oper.upon]
  exact hn v w' m' G' hs hz

theorem wp_stores {o : Oper} {s : Sem Unit} {os : Objs} {K : Act → World → Prop} {Q : Exit → Act → World → Prop} (he : execOp a.eval o = (do s; pure .skip)) (ht : Stores P base pass F0 a st.tmps s w os)
    (hn : After base pass F0 a st.tmps o.dst .dead os K) : o.wp P a w K Q := by
  obtain ⟨w', m', G', hr, hs⟩ := ht
  unfold Oper.wp
  rw [he]
  simp only [Sem.run_bind, hr, Result.andThen_ok, Sem.run_pure, Oper.upon]
  exact hn _ w' m' G' hs (by simp [RA])

theorem wp_enters {o : Oper} {f : FuncId} {args : Array Value} {z : AV} {os : Objs} {K : Act → World → Prop} {Q : Exit → Act → World → Prop} (he : (execOp a.eval o).run P w = .ok (.enter f args) w)
    (hc : Calls P f args w fun e w' => ∃ v m' G', e = .returned v ∧ SRg base pass F0 m' G' ⟨st.tmps, os⟩ a w' ∧ RA ⟨w', m'⟩ G' (lk os) z v) (hn : After base pass F0 a st.tmps o.dst z os K) : o.wp P a w K Q := by
  unfold Oper.wp
  rw [he]
  simp only [Oper.upon]
  refine hc.mono fun e w' ⟨v, m', G', he', hs, hz⟩ => ?_
  subst he'
  exact hn v w' m' G' hs hz

theorem array_one {α : Type} {a : Array α} {x : α} (h : a.toList = [x]) : a = #[x] := by cases a; simp_all
theorem array_two {α : Type} {a : Array α} {x y : α} (h : a.toList = [x, y]) : a = #[x, y] := by cases a; simp_all

theorem op_sound (K : CtxOk P C) (h : SRg base pass F0 m G st a w) {o : Oper} {c : Prop} {z : AV} {os : Objs} {N : Act → World → Prop} {Q : Exit → Act → World → Prop} (hh : opStep C o st = some (c, z, os)) (hc : c)
    (hn : After base pass F0 a st.tmps o.dst z os N) : o.wp P a w N Q := by
  have T := K.1
  have ev : ∀ (hint : Nat) (x : Operand), RA ⟨w, m⟩ G (lk st.objs) (st.ev C hint x) (a.eval x) := fun hint x => ev_sound h.tmps x
  unfold opStep at hh
  split at hh
  case h_1 x hop =>
    simp only [Option.some.injEq, Prod.mk.injEq] at hh
    obtain ⟨rfl, rfl, rfl⟩ := hh
    exact wp_tells (st := st) (s := pure (a.eval x)) (by simp [execOp, hop]) (tells_same h rfl (ev _ x)) hn
  case h_2 x hop =>
    simp only [Option.some.injEq, Prod.mk.injEq] at hh
    obtain ⟨rfl, rfl, rfl⟩ := hh
    exact wp_tells (st := st) (s := pure (a.eval x)) (by simp [execOp, hop]) (tells_same h rfl (ev _ x)) hn
  case h_3 cnd x y hop =>
    split at hh
    · next r hr =>
      simp only [Option.some.injEq, Prod.mk.injEq] at hh
      obtain ⟨rfl, rfl, rfl⟩ := hh
      have h0 := ev 0 cnd
      unfold hPick at hr
      split at hr
      · next hb =>
        simp only [Option.some.injEq] at hr
        subst hr
        rw [hb] at h0
        simp only [RA, R] at h0
        exact wp_tells (st := st) (s := pure (a.eval x)) (by simp [execOp, hop, h0, asBool]) (tells_same h rfl (ev _ x)) hn
      · next hb =>
        simp only [Option.some.injEq] at hr
        subst hr
        rw [hb] at h0
        simp only [RA, R] at h0
        exact wp_tells (st := st) (s := pure (a.eval y)) (by simp [execOp, hop, h0, asBool]) (tells_same h rfl (ev _ y)) hn
      · cases hr
    · cases hh
  case h_4 e hop =>
    split at hh
    · next k hd => exact wp_tells (st := st) (by simp only [execOp, hop]) (alloc_sound T h hh hc) hn
    · cases hh
  case h_5 e x hop =>
    split at hh
    · next k hd => exact wp_tells (st := st) (by simp only [execOp, hop]) (box_sound h (ev _ x) hh hc) hn
    · cases hh
  case h_6 t ps hop =>
    refine wp_tells (st := st) (s := Instr.build t (ps.toList.map fun p => (p.1, a.eval p.2)).toArray) ?_ (build_sound T h (by rw [evParts_length]; simp) (evParts_sound h.tmps 0 ps.toList) hh hc) hn
    simp only [execOp, hop]
    congr 2
    cases ps
    simp
  case h_7 t n ps hop =>
    split at hh
    · next k hd =>
      refine wp_tells (st := st) (s := Instr.buildSlice t n (ps.toList.map fun p => (p.1, a.eval p.2)).toArray) ?_ (buildSlice_sound T h (by rw [evParts_length]; simp) (evParts_sound h.tmps _ ps.toList) hh hc) hn
      simp only [execOp, hop]
      congr 2
      cases ps
      simp
    · cases hh
  case h_8 t p hop => exact wp_tells (st := st) (by simp only [execOp, hop]) (load_sound T h (ev _ p) hh hc) hn
  case h_9 t p x hop =>
    obtain ⟨rfl, hs⟩ := store_sound (P := P) T h (ev 0 p) (ev t x) hh hc
    exact wp_stores (st := st) (by simp only [execOp, hop]) hs hn
  case h_10 op t x y ty hop =>
    unfold pureOut at hh
    split at hh
    · next c1 d hb =>
      simp only [Option.some.injEq, Prod.mk.injEq] at hh
      obtain ⟨rfl, rfl, rfl⟩ := hh
      obtain ⟨v, hr, hv⟩ := bin_sound (w := w) (ox := x) (oy := y) T hb hc (ev t x) (ev t y)
      exact wp_tells (st := st) (s := binRun op t x y (a.eval x) (a.eval y)) (by simp only [execOp, hop, binRun]) (tells_same h hr (by simpa only [RA] using hv)) hn
    · cases hh
  case h_11 op t x hop =>
    unfold pureOut at hh
    split at hh
    · next c1 d hb =>
      simp only [Option.some.injEq, Prod.mk.injEq] at hh
      obtain ⟨rfl, rfl, rfl⟩ := hh
      obtain ⟨v, hr, hv⟩ := un_sound (P := P) (w := w) hb hc (ev t x)
      exact wp_tells (st := st) (by simp only [execOp, hop]) (tells_same h hr (by simpa only [RA] using hv)) hn
    · cases hh
  case h_12 s t x hop =>
    unfold pureOut at hh
    split at hh
    · next c1 d hb =>
      simp only [Option.some.injEq, Prod.mk.injEq] at hh
      obtain ⟨rfl, rfl, rfl⟩ := hh
      obtain ⟨v, hr, hv⟩ := conv_sound (w := w) T hb hc (ev s x)
      exact wp_tells (st := st) (by simp only [execOp, hop]) (tells_same h hr (by simpa only [RA] using hv)) hn
    · cases hh
  case h_13 f first caps hop =>
    split at hh
    · next hf =>
      simp only [Option.some.injEq, Prod.mk.injEq] at hh
      obtain ⟨rfl, rfl, rfl⟩ := hh
      refine wp_tells (st := st) (s := Instr.makeFunc (.func f) (first.map a.eval) (caps.map a.eval)) (by simp only [execOp, hop]) (tells_same h (v := .func (.func f) #[] (caps.toList.map a.eval).toArray) ?_ (mkClo_sound (evs_sound h.tmps caps.toList []))) hn
      have hf' : first = #[] := by cases first; simp_all
      subst hf'
      simp [Instr.makeFunc]
      cases caps
      simp
    · cases hh
  case h_14 t l cp hop =>
    split at hh
    · next k hd => exact wp_tells (st := st) (by simp only [execOp, hop]) (makeSlice_sound T h (ev _ l) (ev _ cp) hh hc) hn
    · cases hh
  case h_15 t x lo hi mx hop =>
    exact wp_tells (st := st) (by simp only [execOp, hop]) (slice_sound T h (ev _ x) (evO_sound h.tmps _ lo) (evO_sound h.tmps _ hi) (evO_sound h.tmps _ mx) hh hc) hn
  case h_16 t p f hop => exact wp_tells (st := st) (by simp only [execOp, hop]) (fieldAddr_sound T h (ev _ p) hh hc) hn
  case h_17 t x f hop => exact wp_tells (st := st) (by simp only [execOp, hop]) (field_sound T h (ev _ x) hh hc) hn
  case h_18 t x i hop => exact wp_tells (st := st) (by simp only [execOp, hop]) (indexAddr_sound T h (ev _ x) (ev _ i) hh hc) hn
  case h_19 t x i hop => exact wp_tells (st := st) (by simp only [execOp, hop]) (index_sound T h (ev _ x) (ev _ i) hh hc) hn
  case h_20 x i hop => exact wp_tells (st := st) (by simp only [execOp, hop]) (extract_sound h (ev _ x) hh) hn
  case h_21 cl hop =>
    split at hh
    case h_1 hcal =>
      split at hh
      · next x t hx ht =>
        have e1 := array_one hx
        have e2 := array_one ht
        refine wp_tells (st := st) (s := Builtin.len_ #[t] o.type #[a.eval x]) ?_ (len_sound T h (ev t x) hh hc o.type) hn
        simp [execOp, hop, resolve, hcal, e1, e2, invoke, builtin]
      · cases hh
    case h_2 hcal =>
      split at hh
      · next s x t t' k hx ht hk =>
        split at hh
        · next htt =>
          subst htt
          have e1 := array_two hx
          have e2 := array_two ht
          refine wp_tells (st := st) (s := Builtin.append_ #[t, t] o.type #[a.eval s, a.eval x]) ?_ (append_sound T h (ev t s) (ev t x) hh hc o.type) hn
          simp [execOp, hop, resolve, hcal, e1, e2, invoke, builtin]
        · cases hh
      · cases hh
    case h_3 hcal =>
      split at hh
      · next x y t ts hx ht =>
        unfold pureOut at hh
        split at hh
        · next c1 d hb =>
          simp only [Option.some.injEq, Prod.mk.injEq] at hh
          obtain ⟨rfl, rfl, rfl⟩ := hh
          have e1 := array_two hx
          obtain ⟨v, hr, hv⟩ := min_sound (P := P) (w := w) hb hc (ev t x) (ev t y) cl.argTypes o.type
          refine wp_tells (st := st) (s := Builtin.min_ cl.argTypes o.type #[a.eval x, a.eval y]) ?_ (tells_same h hr (by simpa only [RA] using hv)) hn
          simp [execOp, hop, resolve, hcal, e1, invoke, builtin]
        · cases hh
      · cases hh
    case h_4 hcal =>
      split at hh
      · next x y t ts hx ht =>
        unfold pureOut at hh
        split at hh
        · next c1 d hb =>
          simp only [Option.some.injEq, Prod.mk.injEq] at hh
          obtain ⟨rfl, rfl, rfl⟩ := hh
          have e1 := array_two hx
          obtain ⟨v, hr, hv⟩ := max_sound (P := P) (w := w) hb hc (ev t x) (ev t y) cl.argTypes o.type
          refine wp_tells (st := st) (s := Builtin.max_ cl.argTypes o.type #[a.eval x, a.eval y]) ?_ (tells_same h hr (by simpa only [RA] using hv)) hn
          simp [execOp, hop, resolve, hcal, e1, invoke, builtin]
        · cases hh
      · cases hh
    case h_5 f hcal =>
      split at hh
      · next k hk =>
        obtain ⟨hent, hcalls⟩ := call_sound K h (evs_sound h.tmps cl.args.toList cl.argTypes.toList) hh hc
        refine wp_enters (st := st) (args := (cl.args.toList.map a.eval).toArray) ?_ hcalls hn
        have := hent (cl.args.toList.map a.eval).toArray w
        have e : cl.args.map a.eval = (cl.args.toList.map a.eval).toArray := by cases cl.args; simp
        simp only [execOp, hop, resolve, hcal, Act.eval, Deferred.ofValue]
        simpa [invoke, e] using this
      · cases hh
    case h_6 f hcal =>
      split at hh
      · next k hk =>
        have hf := ev 0 (.tmp f)
        unfold hCallV at hh
        have e : cl.args.map a.eval = (cl.args.toList.map a.eval).toArray := by cases cl.args; simp
        split at hh
        · next g caps hfv =>
          rw [hfv] at hf
          simp only [RA, R] at hf
          obtain ⟨cs, hfe, hcs⟩ := hf
          obtain ⟨hent, hcalls⟩ := call_sound K h (RAs.append (evs_sound h.tmps cl.args.toList cl.argTypes.toList) (RAs.of_Rs hcs)) hh hc
          refine wp_enters (st := st) (args := (cl.args.toList.map a.eval ++ cs).toArray) ?_ hcalls hn
          have := hent (cl.args.toList.map a.eval ++ cs).toArray w
          simp only [execOp, hop, resolve, hcal, hfe, Deferred.ofValue]
          simpa [invoke, e] using this
        · next g caps hfv =>
          rw [hfv] at hf
          simp only [RA] at hf
          obtain ⟨cs, hfe, hcs⟩ := hf
          obtain ⟨hent, hcalls⟩ := call_sound K h (RAs.append (evs_sound h.tmps cl.args.toList cl.argTypes.toList) hcs) hh hc
          refine wp_enters (st := st) (args := (cl.args.toList.map a.eval ++ cs).toArray) ?_ hcalls hn
          have := hent (cl.args.toList.map a.eval ++ cs).toArray w
          simp only [execOp, hop, resolve, hcal, hfe, Deferred.ofValue]
          simpa [invoke, e] using this
        · cases hh
      · cases hh
    case h_7 => cases hh
  case h_22 => cases hh

end
end Go.Am
