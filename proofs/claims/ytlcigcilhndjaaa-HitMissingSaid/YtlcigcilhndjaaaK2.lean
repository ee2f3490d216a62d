/- Contracts of functions that the law reaches, and plain laws. Conditions: those that each contract states. -/
import Derived.Test.YtlcigcilhndjaaaK1
import Derived.Deep.LoopGhost
import Derived.Orders
import Derived.ProofKit
import Derived.OpenShut
import Derived.JoinedCond
import Derived.JoinedOf
import Derived.Carry
import Derived.Deep.Slices
import Derived.Test.YtlcigcilhndjaaaChecked
namespace Go.Am
open Go.RowKit (Below)
section
variable {P : Program} {C : Ctx} {G : Gh}
variable {base : Nat} {pass : Nat → Prop} {F0 : Anc} {m : Nat → Nat} {st : AS} {a : Act} {w : World}
theorem Tv {F : Fix} {L : Nat → Option Obj} (h : RAs F G L st.tmps a.tmps.toList) : ∀ (xs : List Operand) (ts : List Nat), RAs F G L (evs C st xs ts) (xs.map a.eval)
  | [], ts => by cases ts <;> simp [evs, RAs]
  | x :: xs, [] => by simp only [evs, List.map_cons, RAs]; exact ⟨_, _, rfl, Pn h x, Tv h xs []⟩
  | x :: xs, t :: ts => by simp only [evs, List.map_cons, RAs]; exact ⟨_, _, rfl, Pn h x, Tv h xs ts⟩
theorem A5 {F : Fix} {L : Nat → Option Obj} (h : RAs F G L st.tmps a.tmps.toList) (hint : Nat) : ∀ (ps : List (Nat × Operand)) (j i : Nat) (x : AV), (Ph C st hint ps)[j]? = some (i, x) →
    ∃ v, (ps.map fun p => (p.1, a.eval p.2))[j]? = some (i, v) ∧ RA F G L x v
  | [], j, i, x, hj => by simp [Ph] at hj
  | (i0, y) :: ps, 0, i, x, hj => by
    simp only [Ph, List.getElem?_cons_zero, Option.some.injEq, Prod.mk.injEq] at hj
    obtain ⟨rfl, rfl⟩ := hj
    exact ⟨a.eval y, rfl, Pn h y⟩
  | (i0, y) :: ps, j + 1, i, x, hj => by
    simp only [Ph, List.getElem?_cons_succ] at hj
    simpa using A5 h hint ps j i x hj
theorem Rz (hint : Nat) : ∀ (ps : List (Nat × Operand)), (Ph C st hint ps).length = ps.length
  | [] => rfl
  | (i, x) :: ps => by simp [Ph, Rz hint ps]
theorem evO_sound {F : Fix} {L : Nat → Option Obj} (h : RAs F G L st.tmps a.tmps.toList) (t : Nat) (x : Option Operand) : Be F G L (evO C st t x) (x.map a.eval) := by
  cases x with
  | none => simp [evO, Be]
  | some x => simp only [evO, Option.map_some, Be]; exact Pn h x
def After (base : Nat) (pass : Nat → Prop) (F0 : Anc) (a : Act) (tm : List AV) (dst : Option Tmp) (z : AV) (os : Gv) (K : Act → World → Prop) : Prop :=
  ∀ v w' m' G', SRg base pass F0 m' G' ⟨tm, os⟩ a w' → RA ⟨w', m'⟩ G' (lk os) z v → K (a.put dst v) w'
theorem H6 {o : Oper} {s : Sem Value} {z : AV} {os : Gv} {K : Act → World → Prop} {Q : Exit → Act → World → Prop} (he : execOp a.eval o = (do pure (.value (← s)))) (ht : Fv P base pass F0 a st.tmps s w z os)
    (hn : After base pass F0 a st.tmps o.dst z os K) : o.wp P a w K Q := by
  obtain ⟨v, w', m', G', hr, hs, hz⟩ := ht
  unfold Oper.wp
  rw [he]
  simp only [Sem.run_bind, hr, Result.andThen_ok, Sem.run_pure, Oper.upon]
  exact hn v w' m' G' hs hz
theorem wp_stores {o : Oper} {s : Sem Unit} {os : Gv} {K : Act → World → Prop} {Q : Exit → Act → World → Prop} (he : execOp a.eval o = (do s; pure .skip)) (ht : Stores P base pass F0 a st.tmps s w os)
    (hn : After base pass F0 a st.tmps o.dst .dead os K) : o.wp P a w K Q := by
  obtain ⟨w', m', G', hr, hs⟩ := ht
  unfold Oper.wp
  rw [he]
  simp only [Sem.run_bind, hr, Result.andThen_ok, Sem.run_pure, Oper.upon]
  exact hn _ w' m' G' hs (by simp [RA])
theorem Ri {o : Oper} {f : FuncId} {args : Array Value} {z : AV} {os : Gv} {K : Act → World → Prop} {Q : Exit → Act → World → Prop} (he : (execOp a.eval o).run P w = .ok (.enter f args) w)
    (hc : Calls P f args w fun e w' => ∃ v m' G', e = .returned v ∧ SRg base pass F0 m' G' ⟨st.tmps, os⟩ a w' ∧ RA ⟨w', m'⟩ G' (lk os) z v) (hn : After base pass F0 a st.tmps o.dst z os K) : o.wp P a w K Q := by
  unfold Oper.wp
  rw [he]
  simp only [Oper.upon]
  refine hc.mono fun e w' ⟨v, m', G', he', hs, hz⟩ => ?_
  subst he'
  exact hn v w' m' G' hs hz
theorem array_one {α : Type} {a : Array α} {x : α} (h : a.toList = [x]) : a = #[x] := by cases a; simp_all
theorem array_two {α : Type} {a : Array α} {x y : α} (h : a.toList = [x, y]) : a = #[x, y] := by cases a; simp_all
theorem op_sound (K : Hq P C) (h : SRg base pass F0 m G st a w) {o : Oper} {c : Prop} {z : AV} {os : Gv} {N : Act → World → Prop} {Q : Exit → Act → World → Prop} (hh : S4 C o st = some (c, z, os)) (hc : c)
    (hn : After base pass F0 a st.tmps o.dst z os N) : o.wp P a w N Q := by
  have T := K.1
  have ev : ∀ (hint : Nat) (x : Operand), RA ⟨w, m⟩ G (lk st.objs) (st.ev C hint x) (a.eval x) := fun hint x => Pn h.tmps x
  unfold S4 at hh
  split at hh
  case h_1 x hop =>
    simp only [Option.some.injEq, Prod.mk.injEq] at hh
    obtain ⟨rfl, rfl, rfl⟩ := hh
    exact H6 (st := st) (s := pure (a.eval x)) (by simp [execOp, hop]) (Gz h rfl (ev _ x)) hn
  case h_2 x hop =>
    simp only [Option.some.injEq, Prod.mk.injEq] at hh
    obtain ⟨rfl, rfl, rfl⟩ := hh
    exact H6 (st := st) (s := pure (a.eval x)) (by simp [execOp, hop]) (Gz h rfl (ev _ x)) hn
  case h_3 cnd x y hop =>
    split at hh
    · next r hr =>
      simp only [Option.some.injEq, Prod.mk.injEq] at hh
      obtain ⟨rfl, rfl, rfl⟩ := hh
      have h0 := ev 0 cnd
      unfold hPick at hr
      split at hr
      · next hb =>
        simp only [Option.some.injEq] at hr
        subst hr
        rw [hb] at h0
        simp only [RA, R] at h0
        exact H6 (st := st) (s := pure (a.eval x)) (by simp [execOp, hop, h0, asBool]) (Gz h rfl (ev _ x)) hn
      · next hb =>
        simp only [Option.some.injEq] at hr
        subst hr
        rw [hb] at h0
        simp only [RA, R] at h0
        exact H6 (st := st) (s := pure (a.eval y)) (by simp [execOp, hop, h0, asBool]) (Gz h rfl (ev _ y)) hn
      · cases hr
    · cases hh
  case h_4 e hop =>
    split at hh
    · next k hd => exact H6 (st := st) (by simp only [execOp, hop]) (alloc_sound T h hh hc) hn
    · cases hh
  case h_5 e x hop =>
    split at hh
    · next k hd => exact H6 (st := st) (by simp only [execOp, hop]) (box_sound h (ev _ x) hh hc) hn
    · cases hh
  case h_6 t ps hop =>
    refine H6 (st := st) (s := Instr.build t (ps.toList.map fun p => (p.1, a.eval p.2)).toArray) ?_ (build_sound T h (by rw [Rz]; simp) (A5 h.tmps 0 ps.toList) hh hc) hn
    simp only [execOp, hop]
    congr 2
    cases ps
    simp
  case h_7 t n ps hop =>
    split at hh
    · next k hd =>
      refine H6 (st := st) (s := Instr.buildSlice t n (ps.toList.map fun p => (p.1, a.eval p.2)).toArray) ?_ (buildSlice_sound T h (by rw [Rz]; simp) (A5 h.tmps _ ps.toList) hh hc) hn
      simp only [execOp, hop]
      congr 2
      cases ps
      simp
    · cases hh
  case h_8 t p hop => exact H6 (st := st) (by simp only [execOp, hop]) (load_sound T h (ev _ p) hh hc) hn
  case h_9 t p x hop =>
    obtain ⟨rfl, hs⟩ := store_sound (P := P) T h (ev 0 p) (ev t x) hh hc
    exact wp_stores (st := st) (by simp only [execOp, hop]) hs hn
  case h_10 op t x y ty hop =>
    unfold Pf at hh
    split at hh
    · next c1 d hb =>
      simp only [Option.some.injEq, Prod.mk.injEq] at hh
      obtain ⟨rfl, rfl, rfl⟩ := hh
      obtain ⟨v, hr, hv⟩ := bin_sound (w := w) (ox := x) (oy := y) T hb hc (ev t x) (ev t y)
      exact H6 (st := st) (s := Md op t x y (a.eval x) (a.eval y)) (by simp only [execOp, hop, Md]) (Gz h hr (by simpa only [RA] using hv)) hn
    · cases hh
  case h_11 op t x hop =>
    unfold Pf at hh
    split at hh
    · next c1 d hb =>
      simp only [Option.some.injEq, Prod.mk.injEq] at hh
      obtain ⟨rfl, rfl, rfl⟩ := hh
      obtain ⟨v, hr, hv⟩ := un_sound (P := P) (w := w) hb hc (ev t x)
      exact H6 (st := st) (by simp only [execOp, hop]) (Gz h hr (by simpa only [RA] using hv)) hn
    · cases hh
  case h_12 s t x hop =>
    unfold Pf at hh
    split at hh
    · next c1 d hb =>
      simp only [Option.some.injEq, Prod.mk.injEq] at hh
      obtain ⟨rfl, rfl, rfl⟩ := hh
      obtain ⟨v, hr, hv⟩ := conv_sound (w := w) T hb hc (ev s x)
      exact H6 (st := st) (by simp only [execOp, hop]) (Gz h hr (by simpa only [RA] using hv)) hn
    · cases hh
  case h_13 f first caps hop =>
    split at hh
    · next hf =>
      simp only [Option.some.injEq, Prod.mk.injEq] at hh
      obtain ⟨rfl, rfl, rfl⟩ := hh
      refine H6 (st := st) (s := Instr.makeFunc (.func f) (first.map a.eval) (caps.map a.eval)) (by simp only [execOp, hop]) (Gz h (v := .func (.func f) #[] (caps.toList.map a.eval).toArray) ?_ (mkClo_sound (Tv h.tmps caps.toList []))) hn
      have hf' : first = #[] := by cases first; simp_all
      subst hf'
      simp [Instr.makeFunc]
      cases caps
      simp
    · cases hh
  case h_14 t l cp hop =>
    split at hh
    · next k hd => exact H6 (st := st) (by simp only [execOp, hop]) (makeSlice_sound T h (ev _ l) (ev _ cp) hh hc) hn
    · cases hh
  case h_15 t x lo hi mx hop =>
    exact H6 (st := st) (by simp only [execOp, hop]) (slice_sound T h (ev _ x) (evO_sound h.tmps _ lo) (evO_sound h.tmps _ hi) (evO_sound h.tmps _ mx) hh hc) hn
  case h_16 t p f hop => exact H6 (st := st) (by simp only [execOp, hop]) (fieldAddr_sound T h (ev _ p) hh hc) hn
  case h_17 t x f hop => exact H6 (st := st) (by simp only [execOp, hop]) (field_sound T h (ev _ x) hh hc) hn
  case h_18 t x i hop => exact H6 (st := st) (by simp only [execOp, hop]) (indexAddr_sound T h (ev _ x) (ev _ i) hh hc) hn
  case h_19 t x i hop => exact H6 (st := st) (by simp only [execOp, hop]) (index_sound T h (ev _ x) (ev _ i) hh hc) hn
  case h_20 x i hop => exact H6 (st := st) (by simp only [execOp, hop]) (extract_sound h (ev _ x) hh) hn
  case h_21 cl hop =>
    split at hh
    case h_1 hcal =>
      split at hh
      · next x t hx ht =>
        have e1 := array_one hx
        have e2 := array_one ht
        refine H6 (st := st) (s := Builtin.len_ #[t] o.type #[a.eval x]) ?_ (len_sound T h (ev t x) hh hc o.type) hn
        simp [execOp,hop,resolve,hcal,e1,e2,invoke,builtin]
      · cases hh
    case h_2 hcal =>
      split at hh
      · next s x t t' k hx ht hk =>
        split at hh
        · next htt =>
          subst htt
          have e1 := array_two hx
          have e2 := array_two ht
          refine H6 (st := st) (s := Builtin.append_ #[t, t] o.type #[a.eval s, a.eval x]) ?_ (append_sound T h (ev t s) (ev t x) hh hc o.type) hn
          simp [execOp,hop,resolve,hcal,e1,e2,invoke,builtin]
        · cases hh
      · cases hh
    case h_3 hcal =>
      split at hh
      · next x y t ts hx ht =>
        unfold Pf at hh
        split at hh
        · next c1 d hb =>
          simp only [Option.some.injEq, Prod.mk.injEq] at hh
          obtain ⟨rfl, rfl, rfl⟩ := hh
          have e1 := array_two hx
          obtain ⟨v, hr, hv⟩ := min_sound (P := P) (w := w) hb hc (ev t x) (ev t y) cl.argTypes o.type
          refine H6 (st := st) (s := Builtin.min_ cl.argTypes o.type #[a.eval x, a.eval y]) ?_ (Gz h hr (by simpa only [RA] using hv)) hn
          simp [execOp,hop,resolve,hcal,e1,invoke,builtin]
        · cases hh
      · cases hh
    case h_4 hcal =>
      split at hh
      · next x y t ts hx ht =>
        unfold Pf at hh
        split at hh
        · next c1 d hb =>
          simp only [Option.some.injEq, Prod.mk.injEq] at hh
          obtain ⟨rfl, rfl, rfl⟩ := hh
          have e1 := array_two hx
          obtain ⟨v, hr, hv⟩ := max_sound (P := P) (w := w) hb hc (ev t x) (ev t y) cl.argTypes o.type
          refine H6 (st := st) (s := Builtin.max_ cl.argTypes o.type #[a.eval x, a.eval y]) ?_ (Gz h hr (by simpa only [RA] using hv)) hn
          simp [execOp,hop,resolve,hcal,e1,invoke,builtin]
        · cases hh
      · cases hh
    case h_5 f hcal =>
      split at hh
      · next k hk =>
        obtain ⟨hent, hcalls⟩ := call_sound K h (Tv h.tmps cl.args.toList cl.argTypes.toList) hh hc
        refine Ri (st := st) (args := (cl.args.toList.map a.eval).toArray) ?_ hcalls hn
        have := hent (cl.args.toList.map a.eval).toArray w
        have e : cl.args.map a.eval = (cl.args.toList.map a.eval).toArray := by cases cl.args; simp
        simp only [execOp, hop, resolve, hcal, Act.eval, Deferred.ofValue]
        simpa [invoke, e] using this
      · cases hh
    case h_6 f hcal =>
      split at hh
      · next k hk =>
        have hf := ev 0 (.tmp f)
        unfold hCallV at hh
        have e : cl.args.map a.eval = (cl.args.toList.map a.eval).toArray := by cases cl.args; simp
        split at hh
        · next g caps hfv =>
          rw [hfv] at hf
          simp only [RA, R] at hf
          obtain ⟨cs, hfe, hcs⟩ := hf
          obtain ⟨hent, hcalls⟩ := call_sound K h (RAs.append (Tv h.tmps cl.args.toList cl.argTypes.toList) (RAs.of_Rs hcs)) hh hc
          refine Ri (st := st) (args := (cl.args.toList.map a.eval ++ cs).toArray) ?_ hcalls hn
          have := hent (cl.args.toList.map a.eval ++ cs).toArray w
          simp only [execOp, hop, resolve, hcal, hfe, Deferred.ofValue]
          simpa [invoke, e] using this
        · next g caps hfv =>
          rw [hfv] at hf
          simp only [RA] at hf
          obtain ⟨cs, hfe, hcs⟩ := hf
          obtain ⟨hent, hcalls⟩ := call_sound K h (RAs.append (Tv h.tmps cl.args.toList cl.argTypes.toList) hcs) hh hc
          refine Ri (st := st) (args := (cl.args.toList.map a.eval ++ cs).toArray) ?_ hcalls hn
          have := hent (cl.args.toList.map a.eval ++ cs).toArray w
          simp only [execOp, hop, resolve, hcal, hfe, Deferred.ofValue]
          simpa [invoke, e] using this
        · cases hh
      · cases hh
    case h_7 => cases hh
  case h_22 => cases hh
end
end Go.Am
set_option linter.unusedVariables false
set_option linter.unusedSimpArgs false
namespace Go.Am
def Loc {α : Type} (S : Nat → Prop) (f : Gv → Option (Prop × α × Gv)) : Prop :=
  ∀ o o' c x p, (∀ k, S k → lk o k = lk o' k) → f o = some (c, x, p) → ∃ p', f o' = some (c, x, p') ∧ (∀ k, S k → lk p k = lk p' k) ∧ (∀ k, ¬ S k → lk p k = lk o k ∧ lk p' k = lk o' k)
section
variable {α β : Type} {S : Nat → Prop}
theorem Loc.ret (c : Prop) (x : α) : Loc S (fun o => some (c, x, o)) := by
  intro o o' c' x' p h he
  simp only [Option.some.injEq, Prod.mk.injEq] at he
  obtain ⟨rfl, rfl, rfl⟩ := he
  exact ⟨o', rfl, h, fun k _ => ⟨rfl, rfl⟩⟩
theorem Loc.none : Loc (α := α) S (fun _ => none) := by
  intro o o' c' x' p h he
  cases he
theorem Loc.upd {i : Nat} (hi : S i) (c : Prop) (x : α) (b : Obj) : Loc S (fun o => some (c, x, upd o i b)) := by
  intro o o' c' x' p h he
  simp only [Option.some.injEq, Prod.mk.injEq] at he
  obtain ⟨rfl, rfl, rfl⟩ := he
  refine ⟨_, rfl, fun k hk => ?_, fun k hk => ?_⟩
  · rw [M3, M3, h k hk]
  · have : k ≠ i := fun e => hk (e ▸ hi)
    rw [M3, M3, if_neg this, if_neg this]
    exact ⟨rfl, rfl⟩
theorem Loc.lk {i : Nat} (hi : S i) {g : Option Obj → Gv → Option (Prop × α × Gv)} (h : ∀ v, Loc S (g v)) : Loc S (fun o => g (lk o i) o) := by
  intro o o' c x p ho he
  have := h (Go.Am.lk o i) o o' c x p ho he
  rw [ho i hi] at this
  exact this
theorem Loc.bind {f : Gv → Option (Prop × α × Gv)} {g : Prop → α → Gv → Option (Prop × β × Gv)} (hf : Loc S f) (hg : ∀ c x, Loc S (g c x)) :
    Loc S (fun o => match f o with | some (c, x, p) => g c x p | Option.none => Option.none) := by
  intro o o' c x p ho he
  simp only at he
  split at he
  · next c1 x1 p1 hf1 =>
    obtain ⟨p1', k1, k2, k3⟩ := hf o o' c1 x1 p1 ho hf1
    obtain ⟨p', j1, j2, j3⟩ := hg c1 x1 p1 p1' c x p k2 he
    refine ⟨p', ?_, j2, fun k hk => ⟨(j3 k hk).1.trans (k3 k hk).1, (j3 k hk).2.trans (k3 k hk).2⟩⟩
    simp only [k1]
    exact j1
  · cases he
theorem Loc.bindE {f : Gv → Option (Prop × α × Gv)} {g : Prop → α → Gv → Option (Prop × β × Gv)} {F : Gv → Option (Prop × β × Gv)} (hf : Loc S f) (hg : ∀ c x, Loc S (g c x))
    (h0 : ∀ o, f o = Option.none → F o = Option.none) (h1 : ∀ o c x p, f o = some (c, x, p) → F o = g c x p) : Loc S F := by
  have : F = fun o => match f o with | some (c, x, p) => g c x p | Option.none => Option.none := by
    funext o
    split
    · next c x p h => exact h1 o c x p h
    · next h => exact h0 o h
  rw [this]
  exact Loc.bind hf hg
theorem Loc.lkE {i : Nat} (hi : S i) {g : Option Obj → Gv → Option (Prop × α × Gv)} {F : Gv → Option (Prop × α × Gv)} (h : ∀ v, Loc S (g v)) (hF : ∀ o v, Go.Am.lk o i = v → F o = g v o) : Loc S F := by
  have : F = fun o => g (Go.Am.lk o i) o := by
    funext o
    exact hF o _ rfl
  rw [this]
  exact Loc.lk hi h
theorem Loc.congr {f g : Gv → Option (Prop × α × Gv)} (h : Loc S f) (e : ∀ o, f o = g o) : Loc S g := by
  have : f = g := funext e
  exact this ▸ h
theorem Loc.mono {S' : Nat → Prop} {f : Gv → Option (Prop × α × Gv)} (h : Loc S f) (hs : ∀ k, S k → S' k) : Loc S' f := by
  intro o o' c x p ho he
  obtain ⟨p', k1, k2, k3⟩ := h o o' c x p (fun k hk => ho k (hs k hk)) he
  refine ⟨p', k1, fun k hk => ?_, fun k hk => k3 k (fun h => hk (hs k h))⟩
  by_cases hs : S k
  · exact k2 k hs
  · rw [(k3 k hs).1, (k3 k hs).2, ho k hk]
end
section
variable {C : Ctx} {S : Nat → Prop}
theorem alloc_loc {e key : Nat} {x : AV} (hk : S key) : Loc S (I3 C e key x) := by
  refine Loc.congr (Loc.lk (g := fun v o => match C.ag e, v with
    | some ag, none => some (x.fits (C.size e), AV.ref key 0, upd o key (.box ag (x.cells ag (C.size e))))
    | _, _ => none) hk fun v => ?_) (fun o => rfl)
  split
  · exact Loc.upd hk _ _ _
  · exact Loc.none
theorem load_loc {t : Nat} {p : AV} (hk : ∀ k ∈ p.keys, S k) : Loc S (Ie C t p) := by
  cases p with
  | d x =>
    cases x with
    | ptr s x =>
      refine Loc.congr (f := fun o => match C.ag t with
        | some true => if s = C.size t then some (True, .d x.asAgg, o) else none
        | some false => if s = 1 then some (True, .d (x.cell 0), o) else none
        | none => none) ?_ (fun o => rfl)
      repeat' split
      all_goals first | exact Loc.ret _ _ | exact Loc.none
    | _ => exact Loc.none
  | ref i f =>
    have hi := hk i (by simp [AV.keys])
    refine Loc.congr (Loc.lk (g := fun v o => match v with
      | some (.box _ cells) => match C.ag t with
        | some true => if f + C.size t ≤ cells.length then some (True, mkAgg ((cells.drop f).take (C.size t)), o) else none
        | some false => if f < cells.length then some (True, cells.getD f .dead, o) else none
        | none => none
      | some (.fbox s x) => match C.ag t with
        | some true => if f = 0 ∧ s = C.size t then some (True, .d x.asAgg, o) else none
        | some false => if f < s then some (True, .d (x.cell f), o) else none
        | none => none
      | _ => none) hi fun v => ?_) (fun o => rfl)
    repeat' split
    all_goals first | exact Loc.ret _ _ | exact Loc.none
  | rref i n e f =>
    have hi := hk i (by simp [AV.keys])
    refine Loc.congr (Loc.lk (g := fun v o => match v with
      | some (.row s els _) => match C.ag t with
        | some true => if f = 0 ∧ s = C.size t then some (n = els.length ∧ e < els.length, .d (el els e).asAgg, o) else none
        | some false => if f < s then some (n = els.length ∧ e < els.length, .d ((el els e).cell f), o) else none
        | none => none
      | _ => none) hi fun v => ?_) (fun o => rfl)
    repeat' split
    all_goals first | exact Loc.ret _ _ | exact Loc.none
  | _ => exact Loc.none
theorem pur1_loc {x : AV} (hk : ∀ k ∈ x.keys, S k) : Loc S (pur 1 x) := by
  cases x with
  | d x => exact Loc.ret _ _
  | nils s => exact Loc.ret _ _
  | sl i n =>
    have hi := hk i (by simp [AV.keys])
    refine Loc.lkE hi (g := fun v o => match v with
      | some (.row s els _) => some (n = els.length, D.list s els, upd o i (.row s els els.length))
      | _ => none) (fun v => ?_) (fun o v h => ?_)
    · split
      · exact Loc.upd hi _ _ _
      · exact Loc.none
    · simp only [pur, h]
      rcases v with _ | (_ | _ | _ | _) <;> rfl
  | ref i f =>
    have hi := hk i (by simp [AV.keys])
    cases f with
    | succ f => exact Loc.none
    | zero =>
      refine Loc.lkE hi (g := fun v o => match v with
        | some (.fbox s x) => some (True, D.ptr s x, o)
        | _ => none) (fun v => ?_) (fun o v h => ?_)
      · split
        · exact Loc.ret _ _
        · exact Loc.none
      · simp only [pur, h]
        cases v with
        | none => rfl
        | some ob => cases ob <;> simp [purs]
  | agg l => exact Loc.congr Loc.none (fun o => by cases l <;> simp [pur, purs])
  | tup l => exact Loc.congr Loc.none (fun o => by cases l <;> simp [pur, purs])
  | clo f l => exact Loc.congr Loc.none (fun o => by cases l <;> simp [pur, purs])
  | rref a b c d => exact Loc.none
  | sb a b c => exact Loc.none
  | dead => exact Loc.none
theorem store_loc {C : Ctx} (hC : C.dp = 1) {t : Nat} {p x : AV} (hp : ∀ k ∈ p.keys, S k) (hx : ∀ k ∈ x.keys, S k) : Loc S (A1 C t p x) := by
  cases p with
  | ref i f =>
    have hi := hp i (by simp [AV.keys])
    refine Loc.lkE hi (g := fun v o => match v with
      | some (.box ag cells) => match C.ag t with
        | some true => if f + C.size t ≤ cells.length then some (x.fits (C.size t), AV.dead, upd o i (.box ag (Ax cells f (x.cells true (C.size t))))) else none
        | some false => if f < cells.length then some (x.fits 1 ∧ C.size t = 1, AV.dead, upd o i (.box ag (Ax cells f (x.cells false 1)))) else none
        | none => none
      | _ => none) (fun v => ?_) (fun o v h => ?_)
    · repeat' split
      all_goals first | exact Loc.upd hi _ _ _ | exact Loc.none
    · simp only [A1, h]
      rcases v with _ | (_ | _ | _ | _) <;> rfl
  | rref i n e f =>
    have hi := hp i (by simp [AV.keys])
    refine Loc.lkE hi (g := fun v o => match v with
      | some (.row _ _ _) => (match pur 1 x o with
        | some (c, y, o') => (match lk o' i with
          | some (.row s els k) => match C.ag t with
            | some true => if f = 0 ∧ s = C.size t then some (c ∧ n = els.length ∧ e < els.length ∧ k ≤ e ∧ y.fits s, AV.dead, upd o' i (.row s (els.set e y) k)) else none
            | some false => if f < s then some (c ∧ n = els.length ∧ e < els.length ∧ k ≤ e ∧ y.fits 1 ∧ C.size t = 1, AV.dead, upd o' i (.row s (els.set e ((el els e).setCell f (y.cell 0))) k)) else none
            | none => none
          | _ => none)
        | none => none)
      | _ => none) (fun v => ?_) (fun o v h => ?_)
    · split
      · refine Loc.bindE (g := fun c y o' => (match lk o' i with
          | some (.row s els k) => match C.ag t with
            | some true => if f = 0 ∧ s = C.size t then some (c ∧ n = els.length ∧ e < els.length ∧ k ≤ e ∧ y.fits s, AV.dead, upd o' i (.row s (els.set e y) k)) else none
            | some false => if f < s then some (c ∧ n = els.length ∧ e < els.length ∧ k ≤ e ∧ y.fits 1 ∧ C.size t = 1, AV.dead, upd o' i (.row s (els.set e ((el els e).setCell f (y.cell 0))) k)) else none
            | none => none
          | _ => none)) (pur1_loc hx) (fun c y => ?_) (fun o h => by simp only [h]) (fun o c x p h => by simp only [h]; try rfl)
        refine Loc.lkE hi (g := fun v o' => match v with
          | some (.row s els k) => match C.ag t with
            | some true => if f = 0 ∧ s = C.size t then some (c ∧ n = els.length ∧ e < els.length ∧ k ≤ e ∧ y.fits s, AV.dead, upd o' i (.row s (els.set e y) k)) else none
            | some false => if f < s then some (c ∧ n = els.length ∧ e < els.length ∧ k ≤ e ∧ y.fits 1 ∧ C.size t = 1, AV.dead, upd o' i (.row s (els.set e ((el els e).setCell f (y.cell 0))) k)) else none
            | none => none
          | _ => none) (fun v => ?_) (fun o v h => by simp only [h]; try rfl)
        repeat' split
        all_goals first | exact Loc.upd hi _ _ _ | exact Loc.none
      · exact Loc.none
    · simp only [A1, hC, h]
      cases v with
      | none => rfl
      | some ob =>
        cases ob with
        | row s els k =>
          simp only
          cases pur 1 x o with
          | none => rfl
          | some r => rfl
        | _ => rfl
  | _ => exact Loc.none
theorem fieldAddr_loc {t f : Nat} {p : AV} (hp : ∀ k ∈ p.keys, S k) : Loc S (E7 C t p f) := by
  unfold E7
  split
  · next off sz _ =>
    cases p with
    | ref i f0 =>
      have hi := hp i (by simp [AV.keys])
      refine Loc.lkE hi (g := fun v o => match v with
        | some ob => if ob.isBox = true then some (True, .ref i (f0 + off), o) else none
        | none => none) (fun v => ?_) (fun o v h => by simp only [h]; cases v <;> rfl)
      repeat' split
      all_goals first | exact Loc.ret _ _ | exact Loc.none
    | rref i n e f0 =>
      have hi := hp i (by simp [AV.keys])
      refine Loc.lkE hi (g := fun v o => match v with
        | some (.row _ els _) => some (n = els.length, .rref i n e (f0 + off), o)
        | _ => none) (fun v => ?_) (fun o v h => by simp only [h]; rcases v with _ | (_ | _ | _ | _) <;> rfl)
      repeat' split
      all_goals first | exact Loc.ret _ _ | exact Loc.none
    | d x =>
      cases x with
      | ptr s x =>
        simp only
        repeat' split
        all_goals first | exact Loc.ret _ _ | exact Loc.none
      | _ => exact Loc.none
    | _ => exact Loc.none
  · exact Loc.none
theorem indexAddr_loc {t : Nat} {x ix : AV} (hp : ∀ k ∈ x.keys, S k) : Loc S (S8 C t x ix) := by
  unfold S8
  split
  · next e i _ =>
    cases x with
    | d y => exact Loc.ret _ _
    | sl k n =>
      have hi := hp k (by simp [AV.keys])
      refine Loc.lkE hi (g := fun v o => match v with
        | some (.row s els _) => if s = C.size e then some (n = els.length ∧ i.isAnyInt ∧ 0 ≤ i.i ∧ i.i < els.length, .rref k n i.i.toNat 0, o) else none
        | _ => none) (fun v => ?_) (fun o v h => by simp only [h]; rcases v with _ | (_ | _ | _ | _) <;> rfl)
      repeat' split
      all_goals first | exact Loc.ret _ _ | exact Loc.none
    | sb k n f =>
      have hi := hp k (by simp [AV.keys])
      refine Loc.lkE hi (g := fun v o => match v with
        | some (.row s els _) => if s = C.size e then some (n = els.length ∧ i.isAnyInt ∧ 0 ≤ i.i ∧ (f : Int) + i.i < els.length, .rref k n (f + i.i.toNat) 0, o) else none
        | _ => none) (fun v => ?_) (fun o v h => by simp only [h]; rcases v with _ | (_ | _ | _ | _) <;> rfl)
      repeat' split
      all_goals first | exact Loc.ret _ _ | exact Loc.none
    | _ => exact Loc.none
  · next n e k j _ =>
    split
    · cases x with
      | ref i f0 =>
        have hi := hp i (by simp [AV.keys])
        refine Loc.lkE hi (g := fun v o => match v with
          | some ob => if ob.isBox = true then some (True, .ref i (f0 + j.toNat), o) else none
          | none => none) (fun v => ?_) (fun o v h => by simp only [h]; cases v <;> rfl)
        repeat' split
        all_goals first | exact Loc.ret _ _ | exact Loc.none
      | d y =>
        cases y with
        | ptr s y =>
          simp only
          repeat' split
          all_goals first | exact Loc.ret _ _ | exact Loc.none
        | _ => exact Loc.none
      | _ => exact Loc.none
    · exact Loc.none
  · exact Loc.none
theorem index_loc {t : Nat} {x ix : AV} : Loc S (hIndex C t x ix) := by
  unfold hIndex
  split
  · exact Loc.ret _ _
  · exact Loc.none
theorem slice_loc (hC : C.dp = 1) {t : Nat} {x : AV} {lo hi mx : Option AV} (hp : ∀ k ∈ x.keys, S k) : Loc S (hSlice C t x lo hi mx) := by
  unfold hSlice
  split
  · split
    · split
      all_goals first | exact Loc.ret _ _ | exact Loc.none
    · exact Loc.none
  · next e _ =>
    refine Loc.bindE (g := fun c y o' => match lo, hi with
      | some (.d a), some (.d b) => some (c ∧ y.isList (C.size e) ∧ a.isAnyInt ∧ b.isAnyInt ∧ 0 ≤ a.i ∧ a.i ≤ b.i ∧ b.i ≤ y.l.length, .d (.list (C.size e) ((y.l.take b.i.toNat).drop a.i.toNat)), o')
      | some (.d a), none => some (c ∧ y.isList (C.size e) ∧ a.isAnyInt ∧ 0 ≤ a.i ∧ a.i ≤ y.l.length, .d (.list (C.size e) (y.l.drop a.i.toNat)), o')
      | none, some (.d b) => some (c ∧ y.isList (C.size e) ∧ b.isAnyInt ∧ 0 ≤ b.i ∧ b.i ≤ y.l.length, .d (.list (C.size e) (y.l.take b.i.toNat)), o')
      | _, _ => none) (pur1_loc hp) (fun c y => ?_) (fun o h => by simp only [hC, h]) (fun o c x p h => by simp only [hC, h]; try rfl)
    split
    all_goals first | exact Loc.ret _ _ | exact Loc.none
  · next e m _ =>
    refine Loc.bindE (g := fun c y o' => match lo, hi with
      | some (.d a), some (.d b) => some (c ∧ y.isList (C.size e) ∧ a.isAnyInt ∧ b.isAnyInt ∧ m.isAnyInt ∧ 0 ≤ a.i ∧ a.i ≤ b.i ∧ b.i ≤ m.i ∧ m.i ≤ y.l.length, .d (.list (C.size e) ((y.l.take b.i.toNat).drop a.i.toNat)), o')
      | _, _ => none) (pur1_loc hp) (fun c y => ?_) (fun o h => by simp only [hC, h]) (fun o c x p h => by simp only [hC, h]; try rfl)
    split
    all_goals first | exact Loc.ret _ _ | exact Loc.none
  · exact Loc.none
theorem extract_loc {x : AV} {i : Nat} : Loc S (Fl x i) := by
  unfold Fl
  split
  · split
    all_goals first | exact Loc.ret _ _ | exact Loc.none
  · split
    all_goals first | exact Loc.ret _ _ | exact Loc.none
  · exact Loc.none
theorem field_loc {t f : Nat} {x : AV} : Loc S (hField C t x f) := by
  unfold hField
  split
  · split
    · split
      · exact Loc.ret _ _
      · split
        all_goals first | exact Loc.ret _ _ | exact Loc.none
      · exact Loc.none
    · exact Loc.none
  · exact Loc.none
theorem purParts_loc (hC : C.dp = 1) : ∀ {ps : List (Nat × AV)} (_ : ∀ k ∈ keysAll (ps.map (·.2)), S k), Loc S (S3 C ps)
  | [], _ => Loc.ret _ _
  | (i, x) :: r, h => by
    simp only [List.map_cons, keysAll, List.mem_append] at h
    refine Loc.bindE (g := fun c y o' => match S3 C r o' with
      | some (c', l, o'') => some (c ∧ c', (i, y) :: l, o'')
      | none => none) (pur1_loc (fun k hk => h k (.inl hk))) (fun c y => ?_) (fun o e => by simp only [S3, hC, e]) (fun o c x p e => by simp only [S3, hC, e]; try rfl)
    refine Loc.bindE (g := fun c' l o'' => some (c ∧ c', (i, y) :: l, o'')) (purParts_loc hC (fun k hk => h k (.inr hk))) (fun c y => Loc.ret _ _) (fun o e => by simp only [e]) (fun o c x p e => by simp only [e]; try rfl)
theorem buildSlice_loc (hC : C.dp = 1) {t n key : Nat} {ps : List (Nat × AV)} (hp : ∀ k ∈ keysAll (ps.map (·.2)), S k) (hk : S key) : Loc S (S9 C t n ps key) := by
  unfold S9
  split
  · next e _ =>
    refine Loc.bindE (g := fun c qs o' => match lk o' key with
      | none => if n * C.size e ≤ 16777216 ∧ allLt n ps = true then
          some (c ∧ allFit (C.size e) (qs.map (·.2)), AV.sl key n, upd o' key (.row (C.size e) (Ay (Rm (C.τ e).zd n) qs) 0)) else none
      | some _ => none) (purParts_loc hC hp) (fun c y => ?_) (fun o e => by simp only [e]) (fun o c x p e => by simp only [e]; try rfl)
    refine Loc.lkE hk (g := fun v o' => match v with
      | none => if n * C.size e ≤ 16777216 ∧ allLt n ps = true then
          some (c ∧ allFit (C.size e) (y.map (·.2)), AV.sl key n, upd o' key (.row (C.size e) (Ay (Rm (C.τ e).zd n) y) 0)) else none
      | some _ => none) (fun v => ?_) (fun o v h => by simp only [h]; try rfl)
    repeat' split
    all_goals first | exact Loc.upd hk _ _ _ | exact Loc.none
  · exact Loc.none
theorem makeSlice_loc {t key : Nat} {l c : AV} (hk : S key) : Loc S (Rv C t l c key) := by
  unfold Rv
  split
  · next e a b _ =>
    refine Loc.lkE hk (g := fun v o => match v with
      | none => some (a.isAnyInt ∧ b.isAnyInt ∧ 0 ≤ a.i ∧ a.i = b.i ∧ (C.τ e).bytes * b.i ≤ 281474976710656 ∧ b.i ≤ 4294967296,
          AV.sl key a.i.toNat, upd o key (.row (C.size e) (List.replicate a.i.toNat (C.τ e).zd) 0))
      | some _ => none) (fun v => ?_) (fun o v h => by simp only [h]; cases v <;> rfl)
    repeat' split
    all_goals first | exact Loc.upd hk _ _ _ | exact Loc.none
  · exact Loc.none
theorem source_loc {s : Nat} {x : AV} (hx : ∀ k ∈ x.keys, S k) {o o' : Gv} (h : ∀ k, S k → lk o k = lk o' k) : Fj s x o = Fj s x o' := by
  cases x with
  | sl i n => simp only [Fj, h i (hx i (by simp [AV.keys]))]
  | _ => rfl
theorem append_loc {t key : Nat} {s x : AV} (hs : ∀ k ∈ s.keys, S k) (hx : ∀ k ∈ x.keys, S k) (hk : S key) : Loc S (I2 C t s x key) := by
  intro o o' c z p ho he
  have hsrc : ∀ s', Fj s' x o' = Fj s' x o := fun s' => (source_loc hx ho).symm
  unfold I2 at he ⊢
  simp only [hsrc]
  revert he
  split
  · next e _ =>
    split
    · next c1 xs _ =>
      cases s with
      | nils s =>
        have h2 : Loc S (fun o => match lk o key with
          | none => some (c1 ∧ xs.length * (C.τ e).bytes ≤ 140737488355328 ∧ xs.length ≤ 4611686018427387904, AV.sl key xs.length, upd o key (.row (C.size e) xs 0))
          | some _ => none) := by
          refine Loc.lkE hk (g := fun v o => match v with
            | none => some (c1 ∧ xs.length * (C.τ e).bytes ≤ 140737488355328 ∧ xs.length ≤ 4611686018427387904, AV.sl key xs.length, upd o key (.row (C.size e) xs 0))
            | some _ => none) (fun v => ?_) (fun o v h => by simp only [h]; try rfl)
          repeat' split
          all_goals first | exact Loc.upd hk _ _ _ | exact Loc.none
        exact h2 o o' c z p ho
      | sl i n =>
        have hi := hs i (by simp [AV.keys])
        have h2 : Loc S (fun o => match lk o i with
          | some (.row s' els k) => if s' = C.size e then
              some (c1 ∧ n = els.length ∧ (els.length + xs.length) * (C.τ e).bytes ≤ 140737488355328 ∧ els.length + xs.length ≤ 4611686018427387904, AV.sl i (els ++ xs).length, upd o i (.row s' (els ++ xs) k)) else none
          | _ => none) := by
          refine Loc.lkE hi (g := fun v o => match v with
            | some (.row s' els k) => if s' = C.size e then
              some (c1 ∧ n = els.length ∧ (els.length + xs.length) * (C.τ e).bytes ≤ 140737488355328 ∧ els.length + xs.length ≤ 4611686018427387904, AV.sl i (els ++ xs).length, upd o i (.row s' (els ++ xs) k)) else none
            | _ => none) (fun v => ?_) (fun o v h => by simp only [h]; try rfl)
          repeat' split
          all_goals first | exact Loc.upd hi _ _ _ | exact Loc.none
        exact h2 o o' c z p ho
      | _ => intro he; cases he
    · intro he; cases he
  · intro he; cases he
theorem len_loc {t : Nat} {x : AV} (hx : ∀ k ∈ x.keys, S k) : Loc S (hLen C t x) := by
  unfold hLen
  split
  · exact Loc.ret _ _
  · exact Loc.ret _ _
  · exact Loc.ret _ _
  · next i n _ =>
    have hi := hx i (by simp [AV.keys])
    refine Loc.lkE hi (g := fun v o => match v with
      | some (.row _ els _) => some (n = els.length, AV.d (.int .i64 els.length), o)
      | _ => none) (fun v => ?_) (fun o v h => by simp only [h]; rcases v with _ | (_ | _ | _ | _) <;> rfl)
    repeat' split
    all_goals first | exact Loc.ret _ _ | exact Loc.none
  · next i n f _ =>
    have hi := hx i (by simp [AV.keys])
    refine Loc.lkE hi (g := fun v o => match v with
      | some (.row _ els _) => some (n = els.length, AV.d (.int .i64 (els.length - f : Nat)), o)
      | _ => none) (fun v => ?_) (fun o v h => by simp only [h]; rcases v with _ | (_ | _ | _ | _) <;> rfl)
    repeat' split
    all_goals first | exact Loc.ret _ _ | exact Loc.none
  · exact Loc.none
theorem inArgs_loc (hC : C.dp = 1) : ∀ {xs : List AV} {ms : List Bool} (_ : ∀ k ∈ keysAll xs, S k), Loc S (Po C ms xs)
  | [], ms, _ => by cases ms <;> exact Loc.ret _ _
  | x :: r, [], _ => Loc.none
  | x :: r, false :: ms, h => by
    simp only [keysAll, List.mem_append] at h
    refine Loc.bindE (g := fun c y o' => match Po C ms r o' with
      | some (c', l, o'') => some (c ∧ c', CV.d y :: l, o'')
      | none => none) (pur1_loc (fun k hk => h k (.inl hk))) (fun c y => ?_) (fun o e => by simp only [Po, hC, e]) (fun o c x p e => by simp only [Po, hC, e]; try rfl)
    refine Loc.bindE (g := fun c' l o'' => some (c ∧ c', CV.d y :: l, o'')) (inArgs_loc hC (xs := r) (ms := ms) (fun k hk => h k (.inr hk))) (fun c y => Loc.ret _ _) (fun o e => by simp only [e]) (fun o c x p e => by simp only [e]; try rfl)
  | x :: r, true :: ms, h => by
    simp only [keysAll, List.mem_append] at h
    have ih := inArgs_loc hC (ms := ms) (fun k hk => h k (.inr hk))
    cases x with
    | sl i n =>
      have hi := h i (.inl (by simp [AV.keys]))
      refine Loc.lkE hi (g := fun v o => match v with
        | some (.row s els k) => (match Po C ms r (upd o i .gone) with
          | some (c, l, o') => some (c ∧ n = els.length ∧ k = 0 ∧ 0 < s, CV.own s els :: l, o')
          | none => none)
        | _ => none) (fun v => ?_) (fun o v h => by simp only [Po, h]; try rfl)
      split
      · next s els k =>
        refine Loc.bindE (f := fun o => some (True, (), upd o i .gone)) (g := fun _ _ o => match Po C ms r o with
          | some (c, l, o') => some (c ∧ n = els.length ∧ k = 0 ∧ 0 < s, CV.own s els :: l, o')
          | none => none) (Loc.upd hi _ _ _) (fun _ _ => ?_) (fun o e => by cases e) (fun o c x p e => by
            simp only [Option.some.injEq, Prod.mk.injEq] at e
            obtain ⟨_, _, rfl⟩ := e
            rfl)
        refine Loc.bindE (g := fun c l o' => some (c ∧ n = els.length ∧ k = 0 ∧ 0 < s, CV.own s els :: l, o')) ih (fun c y => Loc.ret _ _) (fun o e => by simp only [e]) (fun o c x p e => by simp only [e]; try rfl)
      · exact Loc.none
    | nils s =>
      refine Loc.bindE (g := fun c l o' => some (c, CV.own s [] :: l, o')) ih (fun c y => Loc.ret _ _) (fun o e => by simp only [Po, e]) (fun o c x p e => by simp only [Po, e]; try rfl)
    | _ => exact Loc.none
theorem outAll_loc : ∀ {l : List CV} {key : Nat} (_ : ∀ j, S (key + 4096 * j)), Loc S (fun o => match C2 key l o with
    | some (ys, o') => some (True, ys, o')
    | none => none)
  | [], key, _ => Loc.congr (Loc.ret True []) (fun o => rfl)
  | x :: r, key, hk => by
    have hk0 : S key := hk 0
    have ih := outAll_loc (l := r) (key := key + 4096) (fun j => by have := hk (j + 1); rwa [Nat.mul_add, Nat.mul_one, Nat.add_comm (4096 * j), ← Nat.add_assoc] at this)
    cases x with
    | tup l => exact Loc.congr Loc.none (fun o => by simp only [C2, E4])
    | d y =>
      refine Loc.bindE (g := fun _ ys o' => some (True, AV.d y :: ys, o')) ih (fun c y => Loc.ret _ _) (fun o h => ?_) (fun o c x p h => ?_)
      · simp only [C2, E4]
        split at h
        · cases h
        · next h2 => simp only [h2]
      · simp only [C2, E4]
        split at h
        · next h2 =>
          simp only [Option.some.injEq, Prod.mk.injEq] at h
          obtain ⟨_, rfl, rfl⟩ := h
          simp only [h2]
        · cases h
    | own s l =>
      refine Loc.lkE hk0 (g := fun v o => match v with
        | none => (match C2 (key + 4096) r (upd o key (.row s l 0)) with
          | some (ys, o') => some (True, AV.sl key l.length :: ys, o')
          | none => none)
        | some _ => none) (fun v => ?_) (fun o v h => ?_)
      · split
        · refine Loc.bindE (f := fun o => some (True, (), upd o key (.row s l 0))) (g := fun _ _ o => match C2 (key + 4096) r o with
            | some (ys, o') => some (True, AV.sl key l.length :: ys, o')
            | none => none) (Loc.upd hk0 _ _ _) (fun _ _ => ?_) (fun o e => by cases e) (fun o c x p e => by
              simp only [Option.some.injEq, Prod.mk.injEq] at e
              obtain ⟨_, _, rfl⟩ := e
              rfl)
          refine Loc.bindE (g := fun _ ys o' => some (True, AV.sl key l.length :: ys, o')) ih (fun c y => Loc.ret _ _) (fun o h => ?_) (fun o c x p h => ?_)
          · split at h
            · cases h
            · next h2 => simp only [h2]
          · split at h
            · next h2 =>
              simp only [Option.some.injEq, Prod.mk.injEq] at h
              obtain ⟨_, rfl, rfl⟩ := h
              simp only [h2]
            · cases h
        · exact Loc.none
      · simp only [C2, E4, h]
        cases v with
        | some _ => rfl
        | none =>
          simp only
          cases C2 (key + 4096) r (upd o key (.row s l 0)) with
          | none => rfl
          | some q => rfl
theorem outCV_loc {x : CV} {key : Nat} (hk : ∀ j, S (key + 4096 * j)) : Loc S (fun o => match outCV key x o with
    | some (y, o') => some (True, y, o')
    | none => none) := by
  cases x with
  | tup l =>
    refine Loc.bindE (g := fun _ ys o' => some (True, mkTup ys, o')) (outAll_loc (l := l) hk) (fun c y => Loc.ret _ _) (fun o h => ?_) (fun o c x p h => ?_)
    · simp only [outCV]
      split at h
      · cases h
      · next h2 => simp only [h2]
    · simp only [outCV]
      split at h
      · next h2 =>
        simp only [Option.some.injEq, Prod.mk.injEq] at h
        obtain ⟨_, rfl, rfl⟩ := h
        simp only [h2]
      · cases h
  | d y => exact Loc.congr (Loc.ret True (AV.d y)) (fun o => rfl)
  | own s l =>
    refine Loc.lkE (hk 0) (g := fun v o => match v with
      | none => some (True, AV.sl key l.length, upd o key (.row s l 0))
      | some _ => none) (fun v => ?_) (fun o v h => ?_)
    · split
      · exact Loc.upd (hk 0) _ _ _
      · exact Loc.none
    · have h' : lk o key = v := by simpa using h
      simp only [outCV, E4, h']
      cases v <;> rfl
theorem call_loc (hC : C.dp = 1) {f key : Nat} {args : List AV} (ha : ∀ k ∈ keysAll args, S k) (hk : ∀ j, S (key + 4096 * j)) : Loc S (hCall C f args key) := by
  unfold hCall
  split
  · next con _ =>
    refine Loc.bindE (g := fun c cvs o' => match outCV key (con.fn cvs) o' with
      | some (y, o'') => some (c ∧ con.pre cvs, y, o'')
      | none => none) (inArgs_loc hC (ms := con.modes) ha) (fun c cvs => ?_) (fun o h => by simp only [h]) (fun o c x p h => by simp only [h]; try rfl)
    refine Loc.bindE (g := fun _ y o' => some (c ∧ con.pre cvs, y, o')) (outCV_loc (x := con.fn cvs) hk) (fun c y => Loc.ret _ _) (fun o h => ?_) (fun o c x p h => ?_)
    · split at h
      · cases h
      · next h2 => simp only [h2]
    · split at h
      · next h2 =>
        simp only [Option.some.injEq, Prod.mk.injEq] at h
        obtain ⟨_, rfl, rfl⟩ := h
        simp only [h2]
      · cases h
  · exact Loc.none
theorem Rt : ∀ {a b : List AV}, keysAll (a ++ b) = keysAll a ++ keysAll b
  | [], b => rfl
  | x :: a, b => by simp [keysAll, Rt (a := a), List.append_assoc]
theorem keysAll_d : ∀ (l : List D), keysAll (l.map .d) = []
  | [] => rfl
  | x :: l => by simp [keysAll, AV.keys, keysAll_d l]
theorem callV_loc (hC : C.dp = 1) {f : AV} {key : Nat} {args : List AV} (hf : ∀ k ∈ f.keys, S k) (ha : ∀ k ∈ keysAll args, S k) (hk : ∀ j, S (key + 4096 * j)) : Loc S (hCallV C f args key) := by
  cases f with
  | d x =>
    cases x with
    | clo g caps =>
      refine call_loc hC (fun k h => ?_) hk
      rw [Rt, keysAll_d, List.append_nil] at h
      exact ha k h
    | _ => exact Loc.none
  | clo g caps =>
    refine call_loc hC (fun k h => ?_) hk
    rw [Rt, List.mem_append] at h
    rcases h with h | h
    · exact ha k h
    · exact hf k (by simpa [AV.keys] using h)
  | _ => exact Loc.none
def Sj (l : List Nat) (k : Nat) : Prop := k % 4096 ∈ l
theorem ev_keys {st : AS} (hint : Nat) (x : Operand) : (st.ev C hint x).keys = (st.ev C 0 x).keys := by
  cases x with
  | const v =>
    simp only [AS.ev]
    unfold E3
    split
    · rfl
    · rfl
  | _ => rfl
theorem Af {k : Nat} : ∀ {l : List AV}, k ∈ keysAll l ↔ ∃ x ∈ l, k ∈ x.keys
  | [] => by simp [keysAll]
  | x :: l => by simp [keysAll, Af (l := l)]
theorem evs_keys {st : AS} : ∀ (xs : List Operand) (ts : List Nat), keysAll (evs C st xs ts) = keysAll (xs.map (st.ev C 0))
  | [], ts => by cases ts <;> rfl
  | x :: xs, [] => by simp [evs, keysAll, evs_keys xs []]
  | x :: xs, t :: ts => by simp [evs, keysAll, evs_keys xs ts, ev_keys t x]
theorem evParts_keys {st : AS} (h : Nat) : ∀ (ps : List (Nat × Operand)), keysAll ((Ph C st h ps).map (·.2)) = keysAll ((ps.map (·.2)).map (st.ev C 0))
  | [] => rfl
  | (i, x) :: ps => by simp [Ph, keysAll, evParts_keys h ps, ev_keys h x]
theorem opStep_loc (hC : C.dp = 1) (o : Oper) (st : AS) : Loc (Sj (Fs C o st)) (fun os => S4 C o ⟨st.tmps, os⟩) := by
  have hev : ∀ (hint : Nat) (x : Operand), x ∈ Hp o.op → ∀ k ∈ (AS.ev C st hint x).keys, Sj (Fs C o st) k := by
    intro hint x hx k hk
    unfold Sj Fs
    rw [List.mem_map]
    refine ⟨k, List.mem_append_left _ (Af.2 ⟨_, List.mem_map.2 ⟨x, hx, rfl⟩, ?_⟩), rfl⟩
    rwa [ev_keys] at hk
  have hown : ∀ k, o.dst = some k → Ow o.op = true → ∀ j, Sj (Fs C o st) (k + 4096 * j) := by
    intro k hk hm j
    unfold Sj Fs
    rw [List.mem_map]
    refine ⟨k, List.mem_append_right _ (by simp [hk, ownKey, hm]), by omega⟩
  have hown0 : ∀ k, o.dst = some k → Ow o.op = true → Sj (Fs C o st) k := fun k hk hm => by simpa using hown k hk hm 0
  have E : ∀ (os : Gv) (hint : Nat) (x : Operand), AS.ev C ⟨st.tmps, os⟩ hint x = AS.ev C st hint x := fun os hint x => by cases x <;> rfl
  have ES : ∀ (os : Gv) (xs : List Operand) (ts : List Nat), evs C ⟨st.tmps, os⟩ xs ts = evs C st xs ts := by
    intro os xs
    induction xs with
    | nil => intro ts; cases ts <;> rfl
    | cons x xs ih => intro ts; cases ts <;> simp [evs, ih, E]
  have EP : ∀ (os : Gv) (h : Nat) (ps : List (Nat × Operand)), Ph C ⟨st.tmps, os⟩ h ps = Ph C st h ps := by
    intro os h ps
    induction ps with
    | nil => rfl
    | cons p ps ih => obtain ⟨i, x⟩ := p; simp [Ph, ih, E]
  have EO : ∀ (os : Gv) (t : Nat) (x : Option Operand), evO C ⟨st.tmps, os⟩ t x = evO C st t x := by
    intro os t x; cases x <;> simp [evO, E]
  unfold S4
  simp only [E, ES, EP, EO]
  have args : ∀ (xs : List Operand) (ts : List Nat), (∀ x ∈ xs, x ∈ Hp o.op) → ∀ k ∈ keysAll (evs C st xs ts), Sj (Fs C o st) k := by
    intro xs ts hx k hk
    rw [evs_keys, Af] at hk
    obtain ⟨a, ha, hka⟩ := hk
    obtain ⟨x, hx1, rfl⟩ := List.mem_map.1 ha
    exact hev 0 x (hx x hx1) k hka
  have parts : ∀ (h : Nat) (ps : List (Nat × Operand)), (∀ x ∈ ps.map (·.2), x ∈ Hp o.op) → ∀ k ∈ keysAll ((Ph C st h ps).map (·.2)), Sj (Fs C o st) k := by
    intro h ps hx k hk
    rw [evParts_keys, Af] at hk
    obtain ⟨a, ha, hka⟩ := hk
    obtain ⟨x, hx1, rfl⟩ := List.mem_map.1 ha
    exact hev 0 x (hx x hx1) k hka
  split
  case h_1 => exact Loc.ret _ _
  case h_2 => exact Loc.ret _ _
  case h_3 => split <;> first | exact Loc.ret _ _ | exact Loc.none
  case h_4 e hop =>
    split
    · next k hk => exact alloc_loc (hown0 k hk (by simp [hop, Ow]))
    · exact Loc.none
  case h_5 e x hop =>
    split
    · next k hk => exact alloc_loc (hown0 k hk (by simp [hop, Ow]))
    · exact Loc.none
  case h_6 t ps hop =>
    unfold hBuild
    split
    · next fs _ =>
      have : ∀ (r : List (Nat × AV)) (cells : List AV) (c : Prop), Loc (Sj (Fs C o st)) (fun os => Cm os fs cells r c) := by
        intro r
        induction r with
        | nil => intro cells c; exact Loc.ret _ _
        | cons p r ih =>
          intro cells c
          obtain ⟨i, x⟩ := p
          simp only [Cm]
          split
          · split
            · exact ih _ _
            · exact Loc.none
          · exact Loc.none
      exact this _ _ _
    · exact Loc.none
  case h_7 t n ps hop =>
    split
    · next k hk => exact buildSlice_loc hC (parts _ _ (fun x hx => by simpa [hop, Hp] using hx)) (hown0 k hk (by simp [hop, Ow]))
    · exact Loc.none
  case h_8 t p hop => exact load_loc (hev 0 p (by simp [hop, Hp]))
  case h_9 t p x hop => exact store_loc hC (hev 0 p (by simp [hop, Hp])) (hev t x (by simp [hop, Hp]))
  case h_10 =>
    unfold Pf
    split <;> first | exact Loc.ret _ _ | exact Loc.none
  case h_11 =>
    unfold Pf
    split <;> first | exact Loc.ret _ _ | exact Loc.none
  case h_12 =>
    unfold Pf
    split <;> first | exact Loc.ret _ _ | exact Loc.none
  case h_13 => split <;> first | exact Loc.ret _ _ | exact Loc.none
  case h_14 t l c hop =>
    split
    · next k hk => exact makeSlice_loc (hown0 k hk (by simp [hop, Ow]))
    · exact Loc.none
  case h_15 t x lo hi mx hop => exact slice_loc hC (hev t x (by simp [hop, Hp]))
  case h_16 t p f hop => exact fieldAddr_loc (hev 0 p (by simp [hop, Hp]))
  case h_17 t x f hop => exact field_loc
  case h_18 t x i hop => exact indexAddr_loc (hev t x (by simp [hop, Hp]))
  case h_19 t x i hop => exact index_loc
  case h_20 x i hop => exact extract_loc
  case h_21 cl hop =>
    split
    case h_1 hcal =>
      split
      · next x t hx ht => exact len_loc (hev t x (by simp [hop, Hp, hcal, hx]))
      · exact Loc.none
    case h_2 hcal =>
      split
      · next s x t t' k hx ht hk =>
        split
        · exact append_loc (hev t s (by simp [hop, Hp, hcal, hx])) (hev t' x (by simp [hop, Hp, hcal, hx])) (hown0 k hk (by simp [hop, Ow, hcal]))
        · exact Loc.none
      · exact Loc.none
    case h_3 =>
      split
      · unfold Pf
        split <;> first | exact Loc.ret _ _ | exact Loc.none
      · exact Loc.none
    case h_4 =>
      split
      · unfold Pf
        split <;> first | exact Loc.ret _ _ | exact Loc.none
      · exact Loc.none
    case h_5 f hcal =>
      split
      · next k hk => exact call_loc hC (args _ _ (fun x hx => by simp only [hop, Hp, hcal]; exact List.mem_cons_of_mem _ hx)) (hown k hk (by simp [hop, Ow, hcal]))
      · exact Loc.none
    case h_6 f hcal =>
      split
      · next k hk => exact callV_loc hC (hev 0 (.tmp f) (by simp [hop, Hp, hcal])) (args _ _ (fun x hx => by simp only [hop, Hp, hcal]; exact List.mem_cons_of_mem _ hx)) (hown k hk (by simp [hop, Ow, hcal]))
      · exact Loc.none
    case h_7 => exact Loc.none
  case h_22 => exact Loc.none
theorem opStep_ro {o : Oper} {st : AS} {c : Prop} {x : AV} {p : Gv} (hr : Iw o.op = true) (h : S4 C o st = some (c, x, p)) : p = st.objs := by
  unfold S4 at h
  split at h
  case h_1 => simp only [Option.some.injEq, Prod.mk.injEq] at h; exact h.2.2.symm
  case h_2 => simp only [Option.some.injEq, Prod.mk.injEq] at h; exact h.2.2.symm
  case h_3 => split at h <;> simp_all
  case h_4 hop => simp [hop, Iw] at hr
  case h_5 hop => simp [hop, Iw] at hr
  case h_6 t ps hop =>
    unfold hBuild at h
    split at h
    · next fs _ =>
      have : ∀ (r : List (Nat × AV)) (cells : List AV) (c0 : Prop), Cm st.objs fs cells r c0 = some (c, x, p) → p = st.objs := by
        intro r
        induction r with
        | nil =>
          intro cells c0 h
          simp only [Cm, Option.some.injEq, Prod.mk.injEq] at h
          exact h.2.2.symm
        | cons q r ih =>
          intro cells c0 h
          obtain ⟨i, y⟩ := q
          simp only [Cm] at h
          split at h
          · split at h
            · exact ih _ _ h
            · cases h
          · cases h
      exact this _ _ _ h
    · cases h
  case h_7 hop => simp [hop, Iw] at hr
  case h_8 t q hop =>
    unfold Ie at h
    repeat' split at h
    all_goals first | (simp only [Option.some.injEq, Prod.mk.injEq] at h; exact h.2.2.symm) | cases h
  case h_9 hop => simp [hop, Iw] at hr
  case h_10 =>
    unfold Pf at h
    split at h
    all_goals first | (simp only [Option.some.injEq, Prod.mk.injEq] at h; exact h.2.2.symm) | cases h
  case h_11 =>
    unfold Pf at h
    split at h
    all_goals first | (simp only [Option.some.injEq, Prod.mk.injEq] at h; exact h.2.2.symm) | cases h
  case h_12 =>
    unfold Pf at h
    split at h
    all_goals first | (simp only [Option.some.injEq, Prod.mk.injEq] at h; exact h.2.2.symm) | cases h
  case h_13 =>
    split at h
    all_goals first | (simp only [Option.some.injEq, Prod.mk.injEq] at h; exact h.2.2.symm) | cases h
  case h_14 hop => simp [hop, Iw] at hr
  case h_15 hop => simp [hop, Iw] at hr
  case h_16 =>
    unfold E7 at h
    repeat' split at h
    all_goals first | (simp only [Option.some.injEq, Prod.mk.injEq] at h; exact h.2.2.symm) | cases h
  case h_17 =>
    unfold hField at h
    repeat' split at h
    all_goals first | (simp only [Option.some.injEq, Prod.mk.injEq] at h; exact h.2.2.symm) | cases h
  case h_18 =>
    unfold S8 at h
    repeat' split at h
    all_goals first | (simp only [Option.some.injEq, Prod.mk.injEq] at h; exact h.2.2.symm) | cases h
  case h_19 =>
    unfold hIndex at h
    repeat' split at h
    all_goals first | (simp only [Option.some.injEq, Prod.mk.injEq] at h; exact h.2.2.symm) | cases h
  case h_20 =>
    unfold Fl at h
    repeat' split at h
    all_goals first | (simp only [Option.some.injEq, Prod.mk.injEq] at h; exact h.2.2.symm) | cases h
  case h_21 cl hop =>
    split at h
    case h_1 =>
      split at h
      · unfold hLen at h
        repeat' split at h
        all_goals first | (simp only [Option.some.injEq, Prod.mk.injEq] at h; exact h.2.2.symm) | cases h
      · cases h
    case h_2 hcal => simp [hop, Iw, hcal] at hr
    case h_3 hcal => simp [hop, Iw, hcal] at hr
    case h_4 hcal => simp [hop, Iw, hcal] at hr
    case h_5 hcal => simp [hop, Iw, hcal] at hr
    case h_6 hcal => simp [hop, Iw, hcal] at hr
    case h_7 => cases h
  case h_22 => cases h
theorem opStep_congr {o : Oper} {s s' : AS} (ho : s.objs = s'.objs) (h : ∀ x ∈ Hp o.op, ∀ hint, s.ev C hint x = s'.ev C hint x) : S4 C o s = S4 C o s' := by
  have args : ∀ (xs : List Operand) (ts : List Nat), (∀ x ∈ xs, x ∈ Hp o.op) → evs C s xs ts = evs C s' xs ts := by
    intro xs
    induction xs with
    | nil => intro ts _; cases ts <;> rfl
    | cons x xs ih =>
      intro ts hx
      have h1 := fun hint => h x (hx x (by simp)) hint
      cases ts <;> simp [evs, h1, ih _ (fun y hy => hx y (List.mem_cons_of_mem _ hy))]
  have parts : ∀ (hint : Nat) (ps : List (Nat × Operand)), (∀ x ∈ ps.map (·.2), x ∈ Hp o.op) → Ph C s hint ps = Ph C s' hint ps := by
    intro hint ps
    induction ps with
    | nil => intro _; rfl
    | cons q ps ih =>
      intro hx
      obtain ⟨i, x⟩ := q
      have h1 := h x (hx x (by simp)) hint
      simp [Ph,h1,ih (fun y hy => hx y (by simp only [List.map_cons]; exact List.mem_cons_of_mem _ hy))]
  have opt : ∀ (t : Nat) (x : Option Operand), (∀ y ∈ x.toList, y ∈ Hp o.op) → evO C s t x = evO C s' t x := by
    intro t x hx
    cases x with
    | none => rfl
    | some x => simp [evO, h x (hx x (by simp))]
  unfold S4
  rw [ho]
  split
  case h_1 x hop => rw [h x (by simp [hop, Hp])]
  case h_2 x hop => rw [h x (by simp [hop, Hp])]
  case h_3 c a b hop => rw [h c (by simp [hop, Hp]), h a (by simp [hop, Hp]), h b (by simp [hop, Hp])]
  case h_4 => rfl
  case h_5 e x hop => rw [h x (by simp [hop, Hp])]
  case h_6 t ps hop => rw [parts _ _ (fun x hx => by simpa [hop, Hp] using hx)]
  case h_7 t n ps hop => rw [parts _ _ (fun x hx => by simpa [hop, Hp] using hx)]
  case h_8 t p hop => rw [h p (by simp [hop, Hp])]
  case h_9 t p x hop => rw [h p (by simp [hop, Hp]), h x (by simp [hop, Hp])]
  case h_10 op t x y ty hop => rw [h x (by simp [hop, Hp]), h y (by simp [hop, Hp])]
  case h_11 op t x hop => rw [h x (by simp [hop, Hp])]
  case h_12 s1 t x hop => rw [h x (by simp [hop, Hp])]
  case h_13 f first caps hop => rw [args _ _ (fun x hx => by simpa [hop, Hp] using hx)]
  case h_14 t l c hop => rw [h l (by simp [hop, Hp]), h c (by simp [hop, Hp])]
  case h_15 t x lo hi mx hop =>
    rw [h x (by simp [hop, Hp]), opt 0 lo (fun y hy => by simp only [hop, Hp]; simp only [List.mem_cons, List.mem_append]; exact .inr (.inl (.inl hy))),
      opt 0 hi (fun y hy => by simp only [hop, Hp]; simp only [List.mem_cons, List.mem_append]; exact .inr (.inl (.inr hy))),
      opt 0 mx (fun y hy => by simp only [hop, Hp]; simp only [List.mem_cons, List.mem_append]; exact .inr (.inr hy))]
  case h_16 t p f hop => rw [h p (by simp [hop, Hp])]
  case h_17 t x f hop => rw [h x (by simp [hop, Hp])]
  case h_18 t x i hop => rw [h x (by simp [hop, Hp]), h i (by simp [hop, Hp])]
  case h_19 t x i hop => rw [h x (by simp [hop, Hp]), h i (by simp [hop, Hp])]
  case h_20 x i hop => rw [h x (by simp [hop, Hp])]
  case h_21 cl hop =>
    split
    case h_1 hcal =>
      split
      · next x t hx ht => rw [h x (by simp [hop, Hp, hcal, hx])]
      · rfl
    case h_2 hcal =>
      split
      · next a x t t' k hx ht hk => rw [h a (by simp [hop, Hp, hcal, hx]), h x (by simp [hop, Hp, hcal, hx])]
      · rfl
    case h_3 hcal =>
      split
      · next x y t ts hx ht => rw [h x (by simp [hop, Hp, hcal, hx]), h y (by simp [hop, Hp, hcal, hx])]
      · rfl
    case h_4 hcal =>
      split
      · next x y t ts hx ht => rw [h x (by simp [hop, Hp, hcal, hx]), h y (by simp [hop, Hp, hcal, hx])]
      · rfl
    case h_5 f hcal => rw [args _ _ (fun x hx => by simp only [hop, Hp, hcal]; exact List.mem_cons_of_mem _ hx)]
    case h_6 f hcal => rw [args _ _ (fun x hx => by simp only [hop, Hp, hcal]; exact List.mem_cons_of_mem _ hx), h (.tmp f) (by simp [hop, Hp, hcal])]
    case h_7 => rfl
  case h_22 => rfl
def AS.same (s s' : AS) : Prop := s.tmps = s'.tmps ∧ ∀ k, lk s.objs k = lk s'.objs k
theorem AS.same.refl (s : AS) : s.same s := ⟨rfl, fun _ => rfl⟩
theorem AS.same.trans {a b c : AS} (h : a.same b) (k : b.same c) : a.same c := ⟨h.1.trans k.1, fun i => (h.2 i).trans (k.2 i)⟩
theorem AS.same.symm {a b : AS} (h : a.same b) : b.same a := ⟨h.1.symm, fun i => (h.2 i).symm⟩
theorem SRg.same {base : Nat} {pass : Nat → Prop} {F0 : Anc} {m : Nat → Nat} {G : Gh} {s s' : AS} {a : Act} {w : World} (h : SRg base pass F0 m G s a w) (e : s.same s') : SRg base pass F0 m G s' a w := by
  have el : lk s.objs = lk s'.objs := funext e.2
  obtain ⟨a1, a2, a3, a4, a5, a6, a7, a8, a9, a10⟩ := h
  constructor
  · exact a1
  · rw [← e.1, ← el]; exact a2
  · rw [← el]; exact a3
  · rw [← el]; exact a4
  · rw [← el]; exact a5
  · exact a6
  · exact a7
  · exact a8
  · exact a9
  · rw [← el]; exact a10
theorem SR.same {base : Nat} {pass : Nat → Prop} {F0 : Anc} {s s' : AS} {a : Act} {w : World} (h : SR base pass F0 s a w) (e : s.same s') : SR base pass F0 s' a w := by
  obtain ⟨m, G, h⟩ := h
  exact ⟨m, G, h.same e⟩
def BStep (C : Ctx) (o : Oper) (s : AS) (bc : BCon) (x : bc.X) (rs : List Nat) : Prop :=
  bOf C o s = some (bc, rnAs rs (bc.args x)) ∧ bc.ok x ∧ rs.Nodup ∧ rs.length = (bc.post x).length ∧ (bc.objs x).length ≤ rs.length ∧ Mg rs rs (bc.objs x) s.objs ∧ Sp (rs.drop (bc.objs x).length) s.objs
theorem evs_congr {s s' : AS} : ∀ (xs : List Operand) (ts : List Nat), (∀ x ∈ xs, ∀ hint, s.ev C hint x = s'.ev C hint x) → evs C s xs ts = evs C s' xs ts
  | [], _, _ => rfl
  | x :: r, [], h => by simp only [evs]; rw [h x (by simp), evs_congr r [] (fun y hy => h y (List.mem_cons_of_mem _ hy))]
  | x :: r, t :: ts, h => by simp only [evs]; rw [h x (by simp), evs_congr r ts (fun y hy => h y (List.mem_cons_of_mem _ hy))]
theorem bOf_congr {o : Oper} {s s' : AS} (h : ∀ y ∈ Hp o.op, ∀ hint, s.ev C hint y = s'.ev C hint y) : bOf C o s = bOf C o s' := by
  unfold bOf
  cases hop : o.op with
  | call c =>
    rw [hop] at h
    simp only
    cases hc : c.callee with
    | value f =>
      simp only [Hp, hc] at h
      have ha : ∀ x ∈ c.args.toList, ∀ hint, s.ev C hint x = s'.ev C hint x := fun x hx => h x (List.mem_cons_of_mem _ hx)
      have hf := h f (by simp)
      cases f with
      | func f => simp only [evs_congr _ _ ha]
      | tmp f => simp only [evs_congr _ _ ha, hf]
      | _ => rfl
    | _ => rfl
  | _ => rfl
theorem standAt_congr {rs0 : List Nat} {o o' : Gv} : ∀ {ks : List Nat} {l : List Obj}, (∀ k ∈ ks, lk o k = lk o' k) → Mg rs0 ks l o → Mg rs0 ks l o'
  | _, [], _, _ => by unfold Mg; trivial
  | [], _ :: _, _, h => by simp [Mg] at h
  | k :: ks, x :: l, hk, h => by
    simp only [Mg] at h ⊢
    exact ⟨by rw [← hk k (by simp)]; exact h.1, standAt_congr (fun q hq => hk q (List.mem_cons_of_mem _ hq)) h.2⟩
theorem freeAt_congr {o o' : Gv} : ∀ {ks : List Nat}, (∀ k ∈ ks, lk o k = lk o' k) → Sp ks o → Sp ks o'
  | [], _, _ => by unfold Sp; trivial
  | k :: ks, hk, h => by
    simp only [Sp] at h ⊢
    exact ⟨by rw [← hk k (by simp)]; exact h.1, freeAt_congr (fun q hq => hk q (List.mem_cons_of_mem _ hq)) h.2⟩
theorem among_rs {rs : List Nat} {k : Nat} (h : k ∈ rs) : Sj (rs.map (· % 4096)) k := List.mem_map.2 ⟨k, h, rfl⟩
theorem BStep.move {o : Oper} {s s' : AS} {bc : BCon} {x : bc.X} {rs : List Nat} (h : BStep C o s bc x rs) (hop : ∀ y ∈ Hp o.op, ∀ hint, s'.ev C hint y = s.ev C hint y)
    (ho : ∀ k, Sj (rs.map (· % 4096)) k → lk s.objs k = lk s'.objs k) : BStep C o s' bc x rs ∧ (∀ k, Sj (rs.map (· % 4096)) k → lk (Pd rs rs (bc.post x) s.objs) k = lk (Pd rs rs (bc.post x) s'.objs) k) ∧
      (∀ k, ¬ Sj (rs.map (· % 4096)) k → lk (Pd rs rs (bc.post x) s.objs) k = lk s.objs k ∧ lk (Pd rs rs (bc.post x) s'.objs) k = lk s'.objs k) := by
  obtain ⟨h1, h2, h3, h4, h5, h6, h7⟩ := h
  have hk : ∀ k ∈ rs, lk s.objs k = lk s'.objs k := fun k hk => ho k (among_rs hk)
  refine ⟨⟨by rw [bOf_congr hop]; exact h1, h2, h3, h4, h5, standAt_congr hk h6, freeAt_congr (fun k hk' => hk k (List.mem_of_mem_drop hk')) h7⟩, fun k hka => ?_, fun k hka => ?_⟩
  · by_cases hkr : k ∈ rs
    · obtain ⟨j, hj⟩ := List.getElem?_of_mem hkr
      have hjl : j < (bc.post x).length := by rw [← h4]; exact (List.getElem?_eq_some_iff.1 hj).1
      have hp := List.getElem?_eq_getElem hjl
      rw [Ir h3 hj hp, Ir h3 hj hp]
    · rw [Pm hkr, Pm hkr]; exact ho k hka
  · have hkr : k ∉ rs := fun hkr => hka (among_rs hkr)
    exact ⟨Pm hkr, Pm hkr⟩
def Step (C : Ctx) (ops : List Oper) (i : Nat) (fp : List Nat) (ro : Bool) (s s' : AS) : Prop := ∃ o, ops[i]? = some o ∧
  ((match o.guard with
    | none => False
    | some (j, want) => (Nd ops s j).skips want ∧ fp = [] ∧ ro = true ∧ s' = s.put o.dst (.d (.tup [])) s.objs) ∨
  ((match o.guard with
    | none => True
    | some (j, want) => (Nd ops s j).runs want) ∧ fp = Fs C o s ∧ ro = Iw o.op ∧ ∃ c x os, S4 C o s = some (c, x, os) ∧ c ∧ s' = s.put o.dst x os) ∨
  ((match o.guard with
    | none => True
    | some (j, want) => (Nd ops s j).runs want) ∧ ro = false ∧ ∃ (bc : BCon) (x : bc.X) (rs : List Nat), BStep C o s bc x rs ∧ fp = rs.map (· % 4096) ∧ s' = s.put o.dst (.d (bc.res x)) (Pd rs rs (bc.post x) s.objs)))
inductive Tr (C : Ctx) (ops : List Oper) : List (Nat × List Nat × Bool) → AS → AS → Prop
  | nil (s : AS) : Tr C ops [] s s
  | cons {i : Nat} {fp : List Nat} {ro : Bool} {l : List (Nat × List Nat × Bool)} {s t u : AS} (h : Step C ops i fp ro s t) (k : Tr C ops l t u) : Tr C ops ((i, fp, ro) :: l) s u
theorem put_ev {s : AS} {dst : Option Nat} {x : AV} {os : Gv} {y : Operand} {hint : Nat} (h : ∀ d, dst = some d → d ∉ tmpOf y) : (s.put dst x os).ev C hint y = s.ev C hint y := by
  cases y with
  | tmp t =>
    cases dst with
    | none => rfl
    | some d =>
      have : d ≠ t := by simpa [tmpOf] using h d rfl
      simp [AS.put,AS.ev,List.getD_eq_getElem?_getD,List.getElem?_set_ne this]
  | _ => rfl
theorem looks_opnd {ops : List Oper} {o : Oper} {d : Nat} (h : d ∉ looks ops o) : ∀ y ∈ Hp o.op, d ∉ tmpOf y := by
  intro y hy hd
  exact h (List.mem_append_left _ (List.mem_flatMap.2 ⟨y, hy, hd⟩))
theorem put_guard {ops : List Oper} {s : AS} {o : Oper} {j : Nat} {want : Bool} (hg : o.guard = some (j, want)) {dst : Option Nat} {x : AV} {os : Gv} (h : ∀ d, dst = some d → d ∉ looks ops o) : Nd ops (s.put dst x os) j = Nd ops s j := by
  unfold Nd
  cases hj : ops[j]? with
  | none => rfl
  | some g =>
    simp only
    cases hd : g.dst with
    | none => rfl
    | some t =>
      simp only
      cases dst with
      | none => rfl
      | some d =>
        have hne : d ≠ t := by
          intro e
          exact h d rfl (by simp [looks, hg, hj, hd, e])
        simp [AS.put,List.getD_eq_getElem?_getD,List.getElem?_set_ne hne]
theorem I5 {ops : List Oper} {s s' : AS} (h : s.tmps = s'.tmps) (j : Nat) : Nd ops s j = Nd ops s' j := by
  unfold Nd
  rw [h]
theorem fpOf_put {ops : List Oper} {s : AS} {o : Oper} {dst : Option Nat} {x : AV} {os : Gv} (h : ∀ d, dst = some d → d ∉ looks ops o) : Fs C o (s.put dst x os) = Fs C o s := by
  have : (Hp o.op).map ((s.put dst x os).ev C 0) = (Hp o.op).map (s.ev C 0) := List.map_congr_left fun y hy => put_ev (fun d hd => looks_opnd (h d hd) y hy)
  unfold Fs
  rw [this]
theorem fpOf_same {s s' : AS} (h : s.tmps = s'.tmps) (o : Oper) : Fs C o s = Fs C o s' := by
  have : (Hp o.op).map (s.ev C 0) = (Hp o.op).map (s'.ev C 0) := List.map_congr_left fun y hy => by cases y <;> simp [AS.ev, h]
  unfold Fs
  rw [this]
theorem N3 {s : AS} {dst : Option Nat} {x : AV} {os : Gv} : (s.put dst x os).objs = os := by cases dst <;> rfl
theorem put_comm {s : AS} {a b : Option Nat} {x y : AV} {p q r u : Gv} (h : ∀ d, a = some d → b ≠ some d) : ((s.put a x p).put b y q).tmps = ((s.put b y r).put a x u).tmps := by
  cases a with
  | none => cases b <;> rfl
  | some d =>
    cases b with
    | none => rfl
    | some e =>
      have hne : d ≠ e := fun he => h d rfl (he ▸ rfl)
      simp [AS.put,List.set_comm _ _ hne]
theorem Step.same (hC : C.dp = 1) {ops : List Oper} {i : Nat} {fp : List Nat} {ro : Bool} {s s' t : AS} (h : Step C ops i fp ro s t) (e : s.same s') : ∃ t', Step C ops i fp ro s' t' ∧ t.same t' := by
  obtain ⟨o, ho, h⟩ := h
  rcases h with h | ⟨hg, hfp, hro, c, x, os, h1, hc, rfl⟩ | ⟨hg, hro, bc, x, rs, hb, hfp, rfl⟩
  rotate_right
  · have hev : ∀ y ∈ Hp o.op, ∀ hint, s'.ev C hint y = s.ev C hint y := fun y _ hint => by cases y <;> simp [AS.ev, e.1]
    obtain ⟨b1, b2, b3⟩ := hb.move hev (fun k _ => e.2 k)
    refine ⟨s'.put o.dst (.d (bc.res x)) (Pd rs rs (bc.post x) s'.objs), ⟨o, ho, .inr (.inr ⟨?_, hro, bc, x, rs, b1, hfp, rfl⟩)⟩, ?_, fun k => ?_⟩
    · cases hgd : o.guard with
      | none => trivial
      | some jw =>
        obtain ⟨j, want⟩ := jw
        simp only [hgd] at hg ⊢
        rw [← I5 e.1]
        exact hg
    · cases o.dst <;> simp [AS.put, e.1]
    · rw [N3, N3]
      by_cases hk : Sj (rs.map (· % 4096)) k
      · exact b2 k hk
      · rw [(b3 k hk).1, (b3 k hk).2]; exact e.2 k
  · cases hgd : o.guard with
    | none => simp only [hgd] at h
    | some jw =>
      obtain ⟨j, want⟩ := jw
      simp only [hgd] at h
      obtain ⟨h1, h3, h4, rfl⟩ := h
      refine ⟨s'.put o.dst (.d (.tup [])) s'.objs, ⟨o, ho, .inl ?_⟩, ?_⟩
      · simp only [hgd]
        exact ⟨by rw [← I5 e.1]; exact h1, h3, h4, trivial⟩
      · refine ⟨?_, fun k => ?_⟩
        · cases o.dst <;> simp [AS.put, e.1]
        · rw [N3, N3]; exact e.2 k
  · have h1' : S4 C o ⟨s.tmps, s.objs⟩ = some (c, x, os) := h1
    obtain ⟨os', k1, k2, k3⟩ := opStep_loc hC o s s.objs s'.objs c x os (fun k _ => e.2 k) h1'
    have k1' : S4 C o s' = some (c, x, os') := by
      have : s' = ⟨s.tmps, s'.objs⟩ := by cases s'; simp only [AS.mk.injEq, and_true]; exact e.1.symm
      rw [this]; exact k1
    refine ⟨s'.put o.dst x os', ⟨o, ho, .inr (.inl ⟨?_, by rw [← fpOf_same e.1]; exact hfp, hro, c, x, os', k1', hc, rfl⟩)⟩, ?_, fun k => ?_⟩
    · cases hgd : o.guard with
      | none => trivial
      | some jw =>
        obtain ⟨j, want⟩ := jw
        simp only [hgd] at hg ⊢
        rw [← I5 e.1]
        exact hg
    · cases o.dst <;> simp [AS.put, e.1]
    · rw [N3, N3]
      by_cases hk : Sj (Fs C o s) k
      · exact k2 k hk
      · rw [(k3 k hk).1, (k3 k hk).2]; exact e.2 k
theorem Tr.same (hC : C.dp = 1) {ops : List Oper} {l : List (Nat × List Nat × Bool)} {s s' t : AS} (h : Tr C ops l s t) (e : s.same s') : ∃ t', Tr C ops l s' t' ∧ t.same t' := by
  induction h generalizing s' with
  | nil s => exact ⟨s', .nil s', e⟩
  | cons h _ ih =>
    obtain ⟨t1, k1, k2⟩ := h.same hC e
    obtain ⟨t2, j1, j2⟩ := ih k2
    exact ⟨t2, .cons k1 j1, j2⟩
def Indep (ops : List Oper) (a b : Nat × List Nat × Bool) : Prop := (∀ x y, ops[a.1]? = some x → ops[b.1]? = some y → Rp ops x y = true) ∧ ((∀ k, k ∈ a.2.1 → k ∉ b.2.1) ∨ (a.2.2 = true ∧ b.2.2 = true))
theorem slotsApart_spec {ops : List Oper} {x y : Oper} (h : Rp ops x y = true) :
    (∀ d, x.dst = some d → d ∉ looks ops y) ∧ (∀ d, x.dst = some d → y.dst ≠ some d) ∧ (∀ d, y.dst = some d → d ∉ looks ops x) := by
  refine ⟨fun d hd => ?_, fun d hd => ?_, fun d hd => ?_⟩ <;> simp [Rp, hd] at h
  · exact h.1.1
  · exact h.1.2
  · exact h.2
def StepF (C : Ctx) (ops : List Oper) (o : Oper) (fp : List Nat) (ro : Bool) (s : AS) (x : AV) (os : Gv) : Prop :=
  (match o.guard with
    | none => False
    | some (j, want) => (Nd ops s j).skips want ∧ fp = [] ∧ ro = true ∧ x = .d (.tup []) ∧ os = s.objs) ∨
  ((match o.guard with
    | none => True
    | some (j, want) => (Nd ops s j).runs want) ∧ fp = Fs C o s ∧ ro = Iw o.op ∧ ∃ c, S4 C o s = some (c, x, os) ∧ c) ∨
  ((match o.guard with
    | none => True
    | some (j, want) => (Nd ops s j).runs want) ∧ ro = false ∧ ∃ (bc : BCon) (q : bc.X) (rs : List Nat), BStep C o s bc q rs ∧ fp = rs.map (· % 4096) ∧ x = .d (bc.res q) ∧ os = Pd rs rs (bc.post q) s.objs)
theorem step_iff {ops : List Oper} {i : Nat} {fp : List Nat} {ro : Bool} {s t : AS} : Step C ops i fp ro s t ↔ ∃ o x os, ops[i]? = some o ∧ StepF C ops o fp ro s x os ∧ t = s.put o.dst x os := by
  constructor
  · rintro ⟨o, ho, h⟩
    rcases h with h | ⟨hg, hfp, hro, c, x, os, h1, hc, rfl⟩ | ⟨hg, hro, bc, x, rs, hb, hfp, rfl⟩
    rotate_right
    · exact ⟨o, .d (bc.res x), Pd rs rs (bc.post x) s.objs, ho, .inr (.inr ⟨hg, hro, bc, x, rs, hb, hfp, rfl, rfl⟩), rfl⟩
    · refine ⟨o, .d (.tup []), s.objs, ho, .inl ?_, ?_⟩
      · cases hgd : o.guard with
        | none => simp only [hgd] at h
        | some jw => simp only [hgd] at h ⊢; obtain ⟨h1, h3, h4, _⟩ := h; exact ⟨h1, h3, h4, trivial, trivial⟩
      · cases hgd : o.guard with
        | none => simp only [hgd] at h
        | some jw => simp only [hgd] at h; exact h.2.2.2
    · exact ⟨o, x, os, ho, .inr (.inl ⟨hg, hfp, hro, c, h1, hc⟩), rfl⟩
  · rintro ⟨o, x, os, ho, h, rfl⟩
    refine ⟨o, ho, ?_⟩
    rcases h with h | ⟨hg, hfp, hro, c, h1, hc⟩ | ⟨hg, hro, bc, q, rs, hb, hfp, rfl, rfl⟩
    · refine .inl ?_
      cases hgd : o.guard with
      | none => simp only [hgd] at h
      | some jw => simp only [hgd] at h ⊢; obtain ⟨h1, h3, h4, rfl, rfl⟩ := h; exact ⟨h1, h3, h4, rfl⟩
    · exact .inr (.inl ⟨hg, hfp, hro, c, x, os, h1, hc, rfl⟩)
    · exact .inr (.inr ⟨hg, hro, bc, q, rs, hb, hfp, rfl⟩)
theorem StepF.move (hC : C.dp = 1) {ops : List Oper} {o : Oper} {fp : List Nat} {ro : Bool} {s : AS} {x : AV} {os : Gv} (h : StepF C ops o fp ro s x os) {s' : AS}
    (hg : ∀ j want, o.guard = some (j, want) → Nd ops s' j = Nd ops s j) (hf : Fs C o s' = Fs C o s) (hop : ∀ y ∈ Hp o.op, ∀ hint, s'.ev C hint y = s.ev C hint y)
    (ho : ∀ k, Sj fp k → lk s.objs k = lk s'.objs k) : ∃ os', StepF C ops o fp ro s' x os' ∧ (∀ k, Sj fp k → lk os k = lk os' k) ∧ (∀ k, ¬ Sj fp k → lk os k = lk s.objs k ∧ lk os' k = lk s'.objs k) := by
  rcases h with h | ⟨hgd, hfp, hro, c, h1, hc⟩ | ⟨hgd, hro, bc, q, rs, hb, hfp, rfl, rfl⟩
  rotate_right
  · subst hfp
    obtain ⟨b1, b2, b3⟩ := hb.move hop ho
    refine ⟨Pd rs rs (bc.post q) s'.objs, .inr (.inr ⟨?_, hro, bc, q, rs, b1, rfl, rfl, rfl⟩), b2, b3⟩
    cases hgd' : o.guard with
    | none => trivial
    | some jw =>
      obtain ⟨j, want⟩ := jw
      simp only [hgd'] at hgd ⊢
      rw [hg j want hgd']
      exact hgd
  · cases hgd : o.guard with
    | none => simp only [hgd] at h
    | some jw =>
      obtain ⟨j, want⟩ := jw
      simp only [hgd] at h
      obtain ⟨h1, h3, h4, rfl, rfl⟩ := h
      refine ⟨s'.objs, .inl ?_, fun k hk => ho k hk, fun k _ => ⟨rfl, rfl⟩⟩
      simp only [hgd]
      exact ⟨by rw [hg j want hgd]; exact h1, h3, h4, trivial, trivial⟩
  · subst hfp
    obtain ⟨os', k1, k2, k3⟩ := opStep_loc hC o s s.objs s'.objs c x os ho h1
    refine ⟨os', .inr (.inl ⟨?_, hf.symm, hro, c, ?_, hc⟩), k2, k3⟩
    · cases hgd' : o.guard with
      | none => trivial
      | some jw =>
        obtain ⟨j, want⟩ := jw
        simp only [hgd'] at hgd ⊢
        rw [hg j want hgd']
        exact hgd
    · rw [← k1]
      exact opStep_congr rfl (fun y hy hint => by rw [hop y hy hint]; cases y <;> rfl)
theorem StepF.ro {ops : List Oper} {o : Oper} {fp : List Nat} {s : AS} {x : AV} {os : Gv} (h : StepF C ops o fp true s x os) : os = s.objs := by
  rcases h with h | ⟨_, _, hro, c, h1, _⟩ | ⟨_, hro, _⟩
  · cases hgd : o.guard with
    | none => simp only [hgd] at h
    | some jw => simp only [hgd] at h; obtain ⟨h1, h3, h4, rfl, rfl⟩ := h; rfl
  · exact opStep_ro hro.symm h1
  · cases hro
theorem step_swap (hC : C.dp = 1) {ops : List Oper} {a b : Nat × List Nat × Bool} {s t u : AS} (h1 : Step C ops a.1 a.2.1 a.2.2 s t) (h2 : Step C ops b.1 b.2.1 b.2.2 t u) (hi : Indep ops a b) :
    ∃ t' u', Step C ops b.1 b.2.1 b.2.2 s t' ∧ Step C ops a.1 a.2.1 a.2.2 t' u' ∧ u.same u' := by
  obtain ⟨oa, xa, osa, hoa, fa, rfl⟩ := step_iff.1 h1
  obtain ⟨ob, xb, osb, hob, fb, rfl⟩ := step_iff.1 h2
  obtain ⟨s1, s2, s3⟩ := slotsApart_spec (hi.1 oa ob hoa hob)
  have key : ∀ k, Sj b.2.1 k → lk (s.put oa.dst xa osa).objs k = lk s.objs k := by
    intro k hk
    rw [N3]
    rcases hi.2 with hd | ⟨hr, _⟩
    · have : ¬ Sj a.2.1 k := fun hka => hd _ hka hk
      obtain ⟨_, q1, q2, q3⟩ := fa.move hC (s' := s) (fun _ _ _ => rfl) rfl (fun _ _ _ => rfl) (fun _ _ => rfl)
      exact (q3 k this).1
    · rw [hr] at fa
      rw [fa.ro]
  obtain ⟨osb', fb', e1, e2⟩ := fb.move hC (s' := s) (fun j want hg => (put_guard hg s1).symm) (fpOf_put s1).symm (fun y hy hint => (put_ev (fun d hd => looks_opnd (s1 d hd) y hy)).symm) key
  have key2 : ∀ k, Sj a.2.1 k → lk s.objs k = lk (s.put ob.dst xb osb').objs k := by
    intro k hk
    rw [N3]
    rcases hi.2 with hd | ⟨_, hr⟩
    · have : ¬ Sj b.2.1 k := fun hkb => hd _ hk hkb
      exact (e2 k this).2.symm
    · rw [hr] at fb'
      rw [fb'.ro]
  obtain ⟨osa', fa', g1, g2⟩ := fa.move hC (s' := s.put ob.dst xb osb') (fun j want hg => put_guard hg s3) (fpOf_put s3) (fun y hy hint => put_ev (fun d hd => looks_opnd (s3 d hd) y hy)) key2
  refine ⟨s.put ob.dst xb osb', (s.put ob.dst xb osb').put oa.dst xa osa', step_iff.2 ⟨ob, xb, osb', hob, fb', rfl⟩, step_iff.2 ⟨oa, xa, osa', hoa, fa', rfl⟩, put_comm s2, fun k => ?_⟩
  simp only [N3] at e1 e2 g1 g2 key key2 ⊢
  rcases hi.2 with hd | ⟨hra, hrb⟩
  · by_cases hka : Sj a.2.1 k
    · have hkb : ¬ Sj b.2.1 k := fun hkb => hd _ hka hkb
      rw [(e2 k hkb).1, g1 k hka]
    · rw [(g2 k hka).2]
      by_cases hkb : Sj b.2.1 k
      · exact e1 k hkb
      · rw [(e2 k hkb).1, (e2 k hkb).2, (g2 k hka).1]
  · rw [hra] at fa fa'
    rw [hrb] at fb fb'
    rw [fb.ro, N3, fa.ro, fa'.ro, N3, fb'.ro]
theorem Tr.first (hC : C.dp = 1) {ops : List Oper} {i : Nat × List Nat × Bool} : ∀ {l1 l2 : List (Nat × List Nat × Bool)} {s t : AS}, Tr C ops (l1 ++ i :: l2) s t → (∀ k ∈ l1, Indep ops k i) →
    ∃ s1 t', Step C ops i.1 i.2.1 i.2.2 s s1 ∧ Tr C ops (l1 ++ l2) s1 t' ∧ t.same t'
  | [], l2, s, t, h, _ => by
    simp only [List.nil_append] at h ⊢
    cases h with
    | cons h k => exact ⟨_, t, h, k, AS.same.refl t⟩
  | (k, fk, rk) :: l1, l2, s, t, h, hi => by
    simp only [List.cons_append] at h
    cases h with
    | cons h1 h2 =>
      obtain ⟨u1, t', k1, k2, k3⟩ := Tr.first hC h2 (fun q hq => hi q (List.mem_cons_of_mem _ hq))
      obtain ⟨s1, u', j1, j2, j3⟩ := step_swap hC (a := (k, fk, rk)) (b := i) h1 k1 (hi _ (by simp))
      obtain ⟨t'', q1, q2⟩ := k2.same hC j3
      exact ⟨s1, t'', j1, .cons j2 q1, k3.trans q2⟩
end
end Go.Am
namespace Go.Am
open Go.RowKit (Below)
section
variable {P : Program} {C : Ctx}
variable {base : Nat} {pass : Nat → Prop} {F0 : Anc} {st : AS} {a : Act} {w : World}
theorem set_same {α : Type} {l : List α} {i : Nat} {x d : α} (h : l.getD i d = x) (hi : i < l.length) : l.set i x = l := by
  apply List.ext_getElem?
  intro j
  rw [List.getElem?_set]
  by_cases hij : i = j
  · subst hij
    rw [if_pos rfl, if_pos hi]
    rw [List.getD_eq_getElem?_getD, List.getElem?_eq_getElem hi] at h
    rw [List.getElem?_eq_getElem hi, ← h]
    rfl
  · rw [if_neg hij]
theorem I4 {ops : List Oper} {j t : Nat} {b : Bool} (h : Nd ops st j = .b t b) : ∃ g, ops[j]? = some g ∧ g.dst = some t ∧ t < st.tmps.length ∧ st.tmps.getD t .dead = .d (.bool b) := by
  unfold Nd at h
  split at h
  · next g hg =>
    split at h
    · next t' ht =>
      split at h
      · next b' hb =>
        injection h with h1 h2
        subst h1; subst h2
        refine ⟨g, hg, ht, ?_, hb⟩
        rcases Nat.lt_or_ge t' st.tmps.length with hlt | hge
        · exact hlt
        · rw [List.getD_eq_getElem?_getD, List.getElem?_eq_none hge] at hb; simp at hb
      · cases h
      · cases h
    · cases h
  · cases h
theorem Al {m : Nat → Nat} {G : Gh} (h : SRg base pass F0 m G st a w) {ops : List Oper} {j t : Nat} {b : Bool} (hg : Nd ops st j = .b t b) : yielded ops.toArray a.tmps j = some b := by
  obtain ⟨g, h1, h2, h3, h4⟩ := I4 hg
  have hx : st.tmps[t]? = some (.d (.bool b)) := by
    rw [List.getElem?_eq_getElem h3]
    rw [List.getD_eq_getElem?_getD, List.getElem?_eq_getElem h3] at h4
    simpa using h4
  obtain ⟨u, hu, hr⟩ := h.tmps.at hx
  simp only [RA, R] at hr
  subst hr
  have hu' : a.tmps[t]? = some (.bool b) := by simpa using hu
  simp [yielded,h1,h2,hu']
theorem guard_und {m : Nat → Nat} {G : Gh} (h : SRg base pass F0 m G st a w) {ops : List Oper} {j : Nat} (hg : Nd ops st j = .und) : yielded ops.toArray a.tmps j = none := by
  unfold Nd at hg
  split at hg
  · next g hj =>
    split at hg
    · next t ht =>
      split at hg
      · cases hg
      · next hb =>
        have hlt : t < st.tmps.length := by
          rcases Nat.lt_or_ge t st.tmps.length with hlt | hge
          · exact hlt
          · rw [List.getD_eq_getElem?_getD, List.getElem?_eq_none hge] at hb; simp at hb
        have hx : st.tmps[t]? = some (.d (.tup [])) := by
          rw [List.getElem?_eq_getElem hlt]
          rw [List.getD_eq_getElem?_getD, List.getElem?_eq_getElem hlt] at hb
          simpa using hb
        obtain ⟨u, hu, hr⟩ := h.tmps.at hx
        simp only [RA, R, Rs] at hr
        obtain ⟨cs, rfl, rfl⟩ := hr
        have hu' : a.tmps[t]? = some (.tuple #[]) := by simpa using hu
        simp [yielded,hj,ht,hu']
      · cases hg
    · cases hg
  · cases hg
theorem undef_ok {F : Fix} {G : Gh} {L : Nat → Option Obj} : RA F G L (.d (.tup [])) undef := by
  simp only [RA, R, Rs]
  exact ⟨[], rfl, rfl⟩
theorem bcall_wp (K : Hq P C) {m : Nat → Nat} {G : Gh} (h : SRg base pass F0 m G st a w) {o : Oper} {bc : BCon} {x : bc.X} {rs : List Nat} (hb : bOf C o st = some (bc, rnAs rs (bc.args x))) (hok : bc.ok x)
    (hnd : rs.Nodup) (hlen : rs.length = (bc.post x).length) (hst : Mg rs rs (bc.objs x) st.objs) (hfr : Sp (rs.drop (bc.objs x).length) st.objs) {N : Act → World → Prop} {Q : Exit → Act → World → Prop}
    (hn : After base pass F0 a st.tmps o.dst (.d (bc.res x)) (Pd rs rs (bc.post x) st.objs) N) : o.wp P a w N Q := by
  unfold bOf at hb
  split at hb
  · next cl hop =>
    have e : cl.args.map a.eval = (cl.args.toList.map a.eval).toArray := by cases cl.args; simp
    split at hb
    · next f hcal =>
      split at hb
      · next bc' hf =>
        injection hb with hb
        injection hb with hb1 hb2
        subst hb1
        have hx := Tv (C := C) h.tmps cl.args.toList cl.argTypes.toList
        rw [hb2] at hx
        obtain ⟨hent, hcalls⟩ := bcall_sound K h hf hok hx hnd hlen hst hfr
        refine Ri (st := st) (args := (cl.args.toList.map a.eval).toArray) ?_ hcalls hn
        have := hent (cl.args.toList.map a.eval).toArray w
        simp only [execOp, hop, resolve, hcal, Act.eval, Deferred.ofValue]
        simpa [invoke, e] using this
      · cases hb
    · next f hcal =>
      have hf0 := Pn (C := C) (hint := 0) h.tmps (.tmp f)
      split at hb
      · next g caps hfv =>
        split at hb
        · next bc' hf =>
          injection hb with hb
          injection hb with hb1 hb2
          subst hb1
          rw [hfv] at hf0
          simp only [RA, R] at hf0
          obtain ⟨cs, hfe, hcs⟩ := hf0
          have hx := RAs.append (Tv (C := C) h.tmps cl.args.toList cl.argTypes.toList) (RAs.of_Rs (G := G) (L := lk st.objs) hcs)
          rw [hb2] at hx
          obtain ⟨hent, hcalls⟩ := bcall_sound K h hf hok hx hnd hlen hst hfr
          refine Ri (st := st) (args := (cl.args.toList.map a.eval ++ cs).toArray) ?_ hcalls hn
          have := hent (cl.args.toList.map a.eval ++ cs).toArray w
          simp only [execOp, hop, resolve, hcal, hfe, Deferred.ofValue]
          simpa [invoke, e] using this
        · cases hb
      · next g caps hfv =>
        split at hb
        · next bc' hf =>
          injection hb with hb
          injection hb with hb1 hb2
          subst hb1
          rw [hfv] at hf0
          simp only [RA] at hf0
          obtain ⟨cs, hfe, hcs⟩ := hf0
          have hx := RAs.append (Tv (C := C) h.tmps cl.args.toList cl.argTypes.toList) hcs
          rw [hb2] at hx
          obtain ⟨hent, hcalls⟩ := bcall_sound K h hf hok hx hnd hlen hst hfr
          refine Ri (st := st) (args := (cl.args.toList.map a.eval ++ cs).toArray) ?_ hcalls hn
          have := hent (cl.args.toList.map a.eval ++ cs).toArray w
          simp only [execOp, hop, resolve, hcal, hfe, Deferred.ofValue]
          simpa [invoke, e] using this
        · cases hb
      · cases hb
    · cases hb
  · cases hb
theorem cut_wp (K : Hq P C) {m : Nat → Nat} {G : Gh} (h : SRg base pass F0 m G st a w) {o : Oper} {i n s k : Nat} {b : D} {els : List D} (hb : cutOf C o st = some (i, n, b, s, els, k))
    (hc : n = els.length ∧ b.isAnyInt ∧ 0 ≤ b.i ∧ b.i ≤ els.length ∧ (k : Int) ≤ b.i ∧ D3 i st.objs = true ∧ i < 90000) {N : Act → World → Prop} {Q : Exit → Act → World → Prop}
    (hn : After base pass F0 a (S7 i st.tmps) o.dst (.sl i b.i.toNat) (upd st.objs i (.row s (els.take b.i.toNat) k)) N) : o.wp P a w N Q := by
  obtain ⟨c1, c2, c3, c4, c5, c6, c7⟩ := hc
  unfold cutOf at hb
  split at hb
  · next t x hi d hop hdst =>
    split at hb
    · split at hb
      · next e i' n' b' hk hx hhi =>
        split at hb
        · next s' els' k' hl =>
          split at hb
          · next hs =>
            simp only [Option.some.injEq, Prod.mk.injEq] at hb
            obtain ⟨rfl, rfl, rfl, rfl, rfl, rfl⟩ := hb
            have hvx := Pn (C := C) (hint := t) h.tmps x
            have hvh := Pn (C := C) (hint := 0) h.tmps hi
            rw [hx] at hvx
            rw [hhi] at hvh
            simp only [RA, hl] at hvx hvh
            have hv := hvx.2.2 c1
            obtain ⟨q2, hq⟩ := hvh.of_anyInt c2
            obtain ⟨dd, hd, hkd⟩ := K.1.kind hk rfl
            simp only [TK.is] at hkd
            obtain ⟨rfl, he⟩ := hkd
            have hsz := Dn (K.1 e he)
            obtain ⟨A, cp, hhd, hle⟩ : ∃ A cp, G.hd i' = .slice A els'.length cp ∧ els'.length ≤ cp := by
              have hob := h.objs i' _ hl
              simp only [H7] at hob
              rcases hob with ⟨_, h2, h3, _⟩ | ⟨bb, cap, cs, ty, _, h2, h3, _⟩
              · subst h3; exact ⟨none, 0, by rw [h2]; rfl, Nat.le_refl _⟩
              · exact ⟨_, cap, h2, h3⟩
            have hnb : b'.i.toNat ≤ els'.length := by omega
            have hr := Bn (P := P) (w := w) (A := A) (c := cp) hd hsz (lo := none) (hi := some (.int q2 b'.i)) (n := els'.length) (l := 0) (h := b'.i.toNat) (.inl ⟨rfl, rfl⟩) (.inr ⟨q2, by rw [Tu c3]⟩) (Nat.zero_le _) hnb hle
            have hA : (if cp = 0 then A else A.map (·.add (0 * C.size e))) = A := by
              split
              · rfl
              · cases A <;> simp [Addr.add]
            have hcut := h.cut hl hnb (by omega) c6 c7 hhd
            have hlen : (els'.take b'.i.toNat).length = b'.i.toNat := by rw [List.length_take]; omega
            unfold Oper.wp
            rw [show execOp a.eval o = (do pure (.value (← Instr.sliceAt t (a.eval x) none (some (a.eval hi)) none))) by simp only [execOp, hop]; rfl]
            rw [hv, hhd, hq]
            simp only [Sem.run_bind, hr, Result.andThen_ok, Sem.run_pure, Oper.upon]
            refine hn _ w m _ hcut ?_
            simp only [RA, M3, if_true]
            refine ⟨rfl, by omega, fun _ => ?_⟩
            rw [hA]
            simp
          · cases hb
        · cases hb
      · cases hb
    · cases hb
  · cases hb
theorem run_clear_row {t e ty : TypeId} {z : Value} (ht : P.underlying t = some (.slice e)) (hv : ∀ w, (zeroValue e).run P w = .ok z w) {zc : Value} (hz : z.cells = #[zc]) (h1 : zc.oneCell' = true) {b o n c : Nat} (hn : 0 < n) {cur : Array Value} {tt : TypeId}
    (hg : w.heap[b]? = some (.cells cur tt (0, 0))) (hl : o + n ≤ cur.size) :
    (Builtin.clear_ #[t] ty #[.slice (some ⟨b, o, none⟩) n c]).run P w = .ok (.tuple #[]) (w.setRow b (cur.toList.take o ++ List.replicate n zc ++ cur.toList.drop (o + n)).toArray) := by
  have hzc : (Builtin.zeroCells z.cells n).toList = List.replicate n zc := by
    rw [hz]
    simp [Builtin.zeroCells]
    apply List.ext_getElem
    · simp
    · intro i h1 h2
      simp [Nat.mod_one]
  have hst := run_storeCells_at P b o tt (List.replicate n zc) 0 cur w hg (by simpa using hl) (by intro v hv'; rw [List.eq_of_mem_replicate hv']; exact h1)
  simp only [Nat.add_zero, List.length_replicate] at hst
  obtain ⟨m, rfl⟩ : ∃ m, n = m + 1 := ⟨n - 1, by omega⟩
  simp [Builtin.clear_,run_underlying ht,hv,hzc,hst]
theorem RE_reps {F : Fix} {d : D} {z zc : Value} (h : R F d z) (hz : z.cells = #[zc]) (h1 : zc.oneCell' = true) : ∀ n, RE F 1 (List.replicate n d) (List.replicate n zc)
  | 0 => by simp [RE]
  | n + 1 => by
    rw [List.replicate_succ, List.replicate_succ]
    simp only [RE]
    exact ⟨z, _, by rw [hz]; rfl, by rw [hz]; rfl, by rw [hz]; simpa using h1, h, RE_reps h hz h1 n⟩
theorem ext_wp (K : Hq P C) {m : Nat → Nat} {G : Gh} (h : SRg base pass F0 m G st a w) {o : Oper} {c : Prop} {z : AV} {os : Gv} (hb : extStep C o st = some (c, z, os)) (hc : c)
    {N : Act → World → Prop} {Q : Exit → Act → World → Prop} (hn : After base pass F0 a st.tmps o.dst z os N) : o.wp P a w N Q := by
  unfold extStep at hb
  split at hb
  · next t x lo hop =>
    split at hb
    · next d hdst =>
      split at hb
      · split at hb
        · next e i n y hk hx hlo =>
          split at hb
          · next s els k hl =>
            split at hb
            · next hs =>
              simp only [Option.some.injEq, Prod.mk.injEq] at hb
              obtain ⟨rfl, rfl, rfl⟩ := hb
              obtain ⟨c1, c2, c3, c4⟩ := hc
              have hvx := Pn (C := C) (hint := t) h.tmps x
              have hvl := Pn (C := C) (hint := 0) h.tmps lo
              rw [hx] at hvx
              rw [hlo] at hvl
              simp only [RA, hl] at hvx hvl
              have hv := hvx.2.2 c1
              obtain ⟨q2, hq⟩ := hvl.of_anyInt c2
              obtain ⟨dd, hd, hkd⟩ := K.1.kind hk rfl
              simp only [TK.is] at hkd
              obtain ⟨rfl, he⟩ := hkd
              have hsz := Dn (K.1 e he)
              have hob := h.objs i _ hl
              simp only [H7] at hob
              rcases hob with ⟨_, _, h3, _⟩ | ⟨bb, cap, cs, ty, h1, h2, h3, _⟩
              · subst h3; simp at c4; omega
              · have hr := Bn (P := P) (w := w) (A := some ⟨bb, 0, none⟩) (c := cap) hd hsz (lo := some (.int q2 y.i)) (hi := none) (n := els.length) (l := y.i.toNat) (h := els.length) (.inr ⟨q2, by rw [Tu c3]⟩) (.inl ⟨rfl, rfl⟩) (by omega) (Nat.le_refl _) h3
                have hne : ¬ cap = y.i.toNat := by omega
                rw [if_neg hne] at hr
                refine H6 (st := st) (s := Instr.sliceAt t (a.eval x) (some (a.eval lo)) none none) (by simp only [execOp, hop]; rfl) (Gz h (v := .slice (some ⟨bb, y.i.toNat * s, none⟩) (els.length - y.i.toNat) (cap - y.i.toNat)) ?_ ?_) hn
                · rw [hv, h2, hq, hr]
                  simp [Fo,hs]
                · simp only [RA, hl]
                  refine ⟨rfl, by omega, fun _ => ⟨bb, cap, h1, by rw [h2, c1], by omega, by rw [c1]⟩⟩
            · cases hb
          · cases hb
        · cases hb
      · cases hb
    · cases hb
  · next cl hop =>
    split at hb
    · next hcal =>
      split at hb
      · next x t hx ht =>
        split at hb
        · next e i n f hk hxe =>
          split at hb
          · next s els k hl =>
            split at hb
            · next hs =>
              obtain ⟨hs, rfl⟩ := hs
              simp only [Option.some.injEq, Prod.mk.injEq] at hb
              obtain ⟨rfl, rfl, rfl⟩ := hb
              obtain ⟨c1, c2⟩ := hc
              have e1 := array_one hx
              have e2 := array_one ht
              have hvx := Pn (C := C) (hint := t) h.tmps x
              rw [hxe] at hvx
              simp only [RA, hl] at hvx
              obtain ⟨bb, cc, g1, g2, g3, hv⟩ := hvx.2.2 c1
              obtain ⟨dd, hd, hkd⟩ := K.1.kind hk rfl
              simp only [TK.is] at hkd
              obtain ⟨rfl, he⟩ := hkd
              obtain ⟨ii, zv, i1, i2, i3, i4, i5, i6, i7, i8⟩ := (K.1 e he).info
              have hz1 : zv.cells.size = 1 := by rw [i7]; exact hs.symm
              obtain ⟨zc, hzc⟩ : ∃ zc, zv.cells = #[zc] := ⟨zv.cells[0], by
                apply Array.ext
                · simpa using hz1
                · intro j h1 h2
                  have : j = 0 := by simp at h2; omega
                  subst this
                  rfl⟩
              have hzo : zc.oneCell' = true := i8 zc (by rw [hzc]; simp)
              have hzr : ∀ w, (zeroValue e).run P w = .ok zv w := by
                intro w
                simp [zeroValue,typeInfo,i1,i4]
              have hob := h.objs i _ hl
              simp only [H7] at hob
              rcases hob with ⟨_, _, h3, _⟩ | ⟨b', cap, cs, ty, h1, h2, h3, h4, h5, h6, h7, h8, h9⟩
              · subst h3; simp at c1; omega
              · rw [g1] at h1
                injection h1 with h1
                subst h1
                rw [h2] at g2
                injection g2 with _ _ g2
                subst g2
                simp only [Nat.mul_one] at hv h6 h7 h8
                have hr := run_clear_row (P := P) (w := w) (ty := o.type) hd hzr hzc hzo (b := bb) (o := f) (n := n - f) (c := cap - f) (by omega) h5 (by omega)
                refine H6 (st := st) (s := Builtin.clear_ #[t] o.type #[a.eval x]) (by simp [execOp, hop, resolve, hcal, e1, e2, invoke, builtin]) ⟨_, _, m, G, by rw [hv]; exact hr, ?_, ?_⟩ hn
                · refine (h.write hl rfl g1 h5 (fun off ho => ?_) (by simp [Obj.isBox]) (fun s' els' k' he' => ?_) (fun hF hg => ?_)).2.2
                  · rw [h8] at ho
                    have : off < f := by omega
                    rw [← Array.getElem?_toList, List.append_assoc, List.getElem?_append_left (by simp; omega), List.getElem?_take, if_pos this]
                    simp
                  · simp only [Obj.row.injEq] at he'
                    obtain ⟨rfl, rfl, rfl⟩ := he'
                    exact ⟨els, k, rfl, by simp; omega⟩
                  · simp only [H7]
                    have hlen : (els.take f ++ List.replicate (els.length - f) (C.τ e).zd).length = els.length := by simp; omega
                    have hz2 : (cs.toList.take f ++ List.replicate (n - f) zc ++ cs.toList.drop (f + (n - f))).length = cs.size := by simp; omega
                    refine .inr ⟨bb, cap, _, ty, g1, by rw [hlen]; exact h2, by rw [hlen]; exact h3, h4, setRow_heap w bb cs _ ty (0, 0) h5, ?_, ?_, by simpa using h8, by rw [hlen]; exact h9⟩
                    · rw [Nat.mul_one, ← h6]; simpa using hz2
                    · have r1 := (RE.split f (RE.mono hF h7)).1
                      have r2 := RE.append r1 (RE_reps (F := ⟨w.setRow bb (cs.toList.take f ++ List.replicate (n - f) zc ++ cs.toList.drop (f + (n - f))).toArray, m⟩) (i6 _) hzc hzo (els.length - f))
                      rw [hlen]
                      have e3 : (cs.toList.take f ++ List.replicate (n - f) zc ++ cs.toList.drop (f + (n - f))).toArray.toList.take (els.length * 1) = (cs.toList.take els.length).take (f * 1) ++ List.replicate (els.length - f) zc := by
                        rw [Nat.mul_one, Nat.mul_one, List.take_take, c1]
                        simp only []
                        rw [List.take_append_of_le_length (by simp; omega), List.take_of_length_le (by simp; omega)]
                        congr 2
                        omega
                      rw [e3]
                      exact r2
                · simp only [RA, R, Rs]
                  exact ⟨[], rfl, rfl⟩
            · cases hb
          · cases hb
        · cases hb
      · cases hb
    · cases hb
  · cases hb
theorem nil_wp (K : Hq P C) {m : Nat → Nat} {G : Gh} (h : SRg base pass F0 m G st a w) {o : Oper} {c : Prop} {l : List D} {b : Bool} (hb : nilOf C o st = some (c, l, b)) (hc : c)
    {N : Act → World → Prop} {Q : Exit → Act → World → Prop} (hn1 : l = [] → After base pass F0 a st.tmps o.dst (.d (.bool b)) st.objs N) (hn2 : After base pass F0 a st.tmps o.dst (.d (.bool (!b))) st.objs N) : o.wp P a w N Q := by
  have key : ∀ (op : BinOp) (t : Nat) (ox oy : Operand) (ty : TypeId), (op = .eql ∧ b = true ∨ op = .neq ∧ b = false) → o.op = .binOp op t ox oy ty → nilArg C t (st.ev C t ox) (st.ev C t oy) st.objs = some (c, l) → o.wp P a w N Q := by
    intro op t ox oy ty hopb hop hna
    have hvx := Pn (C := C) (hint := t) h.tmps ox
    have hvy := Pn (C := C) (hint := t) h.tmps oy
    obtain ⟨e, A, cc, hk, hv, hvy', hnone⟩ : ∃ e A cc, (C.τ t).kind = .slice e ∧ a.eval ox = .slice A l.length cc ∧ a.eval oy = .slice none 0 0 ∧ (A = none → l = []) := by
      unfold nilArg at hna
      split at hna
      · next e d s hk hx hy =>
        simp only [Option.some.injEq, Prod.mk.injEq] at hna
        obtain ⟨rfl, rfl⟩ := hna
        rw [hx] at hvx
        rw [hy] at hvy
        simp only [RA] at hvx hvy
        have hl := hvx.of_list hc
        simp only [R] at hl
        obtain ⟨A, cc, hv, _, _, hA⟩ := hl
        refine ⟨e, A, cc, hk, hv, hvy, fun hz => ?_⟩
        apply Classical.byContradiction
        intro hne
        obtain ⟨b, off, vs, hz', _⟩ := hA hne
        rw [hz] at hz'
        cases hz'
      · next e i n s hk hx hy =>
        split at hna
        · next s' els k hl =>
          simp only [Option.some.injEq, Prod.mk.injEq] at hna
          obtain ⟨rfl, rfl⟩ := hna
          rw [hx] at hvx
          rw [hy] at hvy
          simp only [RA, hl] at hvx hvy
          have hv := hvx.2.2 hc
          have hob := h.objs i _ hl
          simp only [H7] at hob
          rcases hob with ⟨_, h2, h3, _⟩ | ⟨bb, cap, cs, ty', _, h2, _⟩
          · subst h3
            exact ⟨e, none, 0, hk, by rw [hv, h2]; rfl, hvy, fun _ => rfl⟩
          · exact ⟨e, _, cap, hk, by rw [hv, h2], hvy, fun hz => by cases hz⟩
        · cases hna
      · cases hna
    obtain ⟨dd, hd, hkd⟩ := K.1.kind hk rfl
    simp only [TK.is] at hkd
    obtain ⟨rfl, _⟩ := hkd
    have heq : ∀ d : Nat, (Op.equalIn (d + 1) t (.slice A l.length cc) (.slice none 0 0)).run P w = .ok A.isNone w := fun d => by cases A <;> simp [Op.equalIn, run_underlying hd]
    have run1 : (Md .eql t ox oy (a.eval ox) (a.eval oy)).run P w = .ok (.bool A.isNone) w := by
      rw [hv, hvy']
      unfold Md
      simp only [binOp]
      simp [eqGuard,Op.equal,Op.maxDepth,heq 9999]
    have run2 : (Md .neq t ox oy (a.eval ox) (a.eval oy)).run P w = .ok (.bool (!A.isNone)) w := by
      rw [hv, hvy']
      unfold Md
      simp only [binOp]
      simp [eqGuard,Op.equal,Op.maxDepth,heq 9999]
    have hnone' : A.isNone = true → l = [] := fun h => hnone (by cases A with | none => rfl | some _ => cases h)
    rcases hopb with ⟨rfl, rfl⟩ | ⟨rfl, rfl⟩
    · cases hz : A.isNone with
      | true =>
        rw [hz] at run1
        exact H6 (st := st) (s := Md .eql t ox oy (a.eval ox) (a.eval oy)) (by simp only [execOp, hop, Md]) (Gz h run1 (by simp only [RA]; exact R.bool)) (hn1 (hnone' hz))
      | false =>
        rw [hz] at run1
        exact H6 (st := st) (s := Md .eql t ox oy (a.eval ox) (a.eval oy)) (by simp only [execOp, hop, Md]) (Gz h run1 (by simp only [RA]; exact R.bool)) hn2
    · cases hz : A.isNone with
      | true =>
        rw [hz] at run2
        exact H6 (st := st) (s := Md .neq t ox oy (a.eval ox) (a.eval oy)) (by simp only [execOp, hop, Md]) (Gz h run2 (by simp only [RA]; exact R.bool)) (hn1 (hnone' hz))
      | false =>
        rw [hz] at run2
        exact H6 (st := st) (s := Md .neq t ox oy (a.eval ox) (a.eval oy)) (by simp only [execOp, hop, Md]) (Gz h run2 (by simp only [RA]; exact R.bool)) hn2
  unfold nilOf at hb
  split at hb
  · next t ox oy ty hop =>
    split at hb
    · split at hb
      · split at hb
        · next c' l' hna =>
          simp only [Option.some.injEq, Prod.mk.injEq] at hb
          obtain ⟨rfl, rfl, h3⟩ := hb
          exact key .eql t ox oy ty (.inl ⟨rfl, h3.symm⟩) hop hna
        · cases hb
      · cases hb
    · cases hb
  · next t ox oy ty hop =>
    split at hb
    · split at hb
      · split at hb
        · next c' l' hna =>
          simp only [Option.some.injEq, Prod.mk.injEq] at hb
          obtain ⟨rfl, rfl, h3⟩ := hb
          exact key .neq t ox oy ty (.inr ⟨rfl, h3.symm⟩) hop hna
        · cases hb
      · cases hb
    · cases hb
  · cases hb
theorem Ts (K : Hq P C) {ops : List Oper} {N : AS → Prop} {Q : Exit → Act → World → Prop} (hQ : ∀ st a w, SR base pass F0 st a w → N st → Q .normal a w) :
    ∀ (l : List Oper) (st : AS) (a : Act) (w : World), SR base pass F0 st a w → aOps C ops l N st → wpList P ops.toArray Q l a w
  | [], st, a, w, h, hn => by
    simp only [aOps] at hn
    exact wpList_nil (hQ st a w h hn)
  | o :: l, st, a, w, h, hn => by
    simp only [aOps] at hn
    have exec : ∀ st a w, SR base pass F0 st a w → aExec C o (aOps C ops l N) st → o.wp P a w (wpList P ops.toArray Q l) Q := by
      intro st a w ⟨m, G, h⟩ he
      unfold aExec at he
      split at he
      · next bc args hbo =>
        obtain ⟨x, rs, hok, hargs, hnd, hlen, hst, hfr, hk⟩ := he
        subst hargs
        refine bcall_wp K h hbo hok hnd hlen hst hfr (fun v w' m' G' hs' hz => ?_)
        refine Ts K hQ l _ _ _ ⟨m', G', ?_⟩ hk
        have := hs'.putO (t := o.dst) hz
        unfold AS.put
        exact this
      · split at he
        · next i n b s els k hcu =>
          refine cut_wp K h hcu he.1 (fun v w' m' G' hs' hz => ?_)
          refine Ts K hQ l _ _ _ ⟨m', G', ?_⟩ he.2
          have := hs'.putO (t := o.dst) hz
          unfold AS.put
          exact this
        · split at he
          · next c x os hs =>
            refine ext_wp K h hs he.1 (fun v w' m' G' hs' hz => ?_)
            refine Ts K hQ l _ _ _ ⟨m', G', ?_⟩ he.2
            have := hs'.putO (t := o.dst) hz
            unfold AS.put
            exact this
          · split at he
            · next c ll b hni =>
              obtain ⟨he1, he2, he3⟩ := he
              refine nil_wp K h hni he1 (fun hnil v w' m' G' hs' hz => ?_) (fun v w' m' G' hs' hz => ?_)
              · refine Ts K hQ l _ _ _ ⟨m', G', ?_⟩ (he2 hnil)
                have := hs'.putO (t := o.dst) hz
                unfold AS.put
                exact this
              · refine Ts K hQ l _ _ _ ⟨m', G', ?_⟩ he3
                have := hs'.putO (t := o.dst) hz
                unfold AS.put
                exact this
            · unfold aExecD at he
              split at he
              · next c x os hs =>
                refine op_sound K h hs he.1 (fun v w' m' G' hs' hz => ?_)
                refine Ts K hQ l _ _ _ ⟨m', G', ?_⟩ he.2
                have := hs'.putO (t := o.dst) hz
                unfold AS.put
                exact this
              · exact he.elim
    unfold aOp at hn
    unfold wpList
    split at hn
    · next hg =>
      rw [if_pos (by simp [Region.wanted, hg])]
      exact .inl (exec st a w h hn)
    · next j want hg =>
      split at hn
      · next t b hgo =>
        obtain ⟨m, G, hs⟩ := h
        have hy := Al hs hgo
        obtain ⟨g, g1, g2, g3, g4⟩ := I4 hgo
        have hsame : ({ st with tmps := st.tmps.set t (.d (.bool b)) } : AS) = st := by rw [set_same g4 g3]
        by_cases hb : b = want
        · rw [if_pos (by simp [Region.wanted, hg, hy, hb])]
          have := hn.1 hb
          rw [← hb, hsame] at this
          exact .inl (exec st a w ⟨m, G, hs⟩ this)
        · rw [if_neg (by simp [Region.wanted, hg, hy, hb])]
          have hb' : b = !want := by cases b <;> cases want <;> simp_all
          have := hn.2 hb'
          rw [← hb', hsame] at this
          refine Ts K hQ l _ _ _ ⟨m, G, ?_⟩ this
          have hp := hs.putO (t := o.dst) (x := .d (.tup [])) (v := undef) undef_ok
          unfold AS.put
          exact hp
      · next hgo =>
        obtain ⟨m, G, hs⟩ := h
        have hy := guard_und hs hgo
        rw [if_neg (by simp [Region.wanted, hg, hy])]
        refine Ts K hQ l _ _ _ ⟨m, G, ?_⟩ hn
        have hp := hs.putO (t := o.dst) (x := .d (.tup [])) (v := undef) undef_ok
        unfold AS.put
        exact hp
      · exact hn.elim
theorem maskOf_bit : ∀ {es : List Edge} {acc : List Nat} {k : Nat}, (Iy es acc).testBit k = true → ∃ e ∈ es, Region.binds .any e = true ∧ (e.on = k ∨ (acc.getD e.on 0).testBit k = true)
  | [], acc, k, h => by simp [Iy] at h
  | e :: r, acc, k, h => by
    simp only [Iy] at h
    split at h
    · next hb =>
      simp only [Nat.testBit_or, Bool.or_eq_true] at h
      rcases h with (h | h) | h
      · rw [Nat.testBit_two_pow] at h
        exact ⟨e, by simp, hb, .inl (by simpa using h)⟩
      · exact ⟨e, by simp, hb, .inr h⟩
      · obtain ⟨e', h1, h2⟩ := maskOf_bit h
        exact ⟨e', List.mem_cons_of_mem _ h1, h2⟩
    · obtain ⟨e', h1, h2⟩ := maskOf_bit h
      exact ⟨e', List.mem_cons_of_mem _ h1, h2⟩
theorem masksGo_spec : ∀ (r : List Oper) (acc : List Nat), ∃ l, masksGo r acc = acc ++ l ∧ l.length = r.length ∧ ∀ (j : Nat) (o : Oper), r[j]? = some o → l[j]? = some (Iy o.after.toList (acc ++ l.take j))
  | [], acc => ⟨[], by simp [masksGo], rfl, by simp⟩
  | o :: r, acc => by
    obtain ⟨l, h1, h2, h3⟩ := masksGo_spec r (acc ++ [Iy o.after.toList acc])
    refine ⟨Iy o.after.toList acc :: l, by simp [masksGo, h1], by simp [h2], fun j x hj => ?_⟩
    cases j with
    | zero => simp only [List.getElem?_cons_zero, Option.some.injEq] at hj; subst hj; simp
    | succ j =>
      simp only [List.getElem?_cons_succ] at hj ⊢
      rw [h3 j x hj]
      simp
theorem masks_bit {ops : List Oper} {i k : Nat} {o : Oper} (ho : ops[i]? = some o) (h : ((masks ops).getD i 0).testBit k = true) :
    ∃ e ∈ o.after.toList, Region.binds .any e = true ∧ (e.on = k ∨ (e.on < i ∧ ((masks ops).getD e.on 0).testBit k = true)) := by
  obtain ⟨l, h1, h2, h3⟩ := masksGo_spec ops []
  have hm : masks ops = l := by simpa [masks] using h1
  have hi := h3 i o ho
  simp only [List.nil_append] at hi
  rw [hm, List.getD_eq_getElem?_getD, hi] at h
  simp only [Option.getD_some] at h
  obtain ⟨e, g1, g2, g3⟩ := maskOf_bit h
  refine ⟨e, g1, g2, g3.elim (fun h => .inl h) fun g => .inr ?_⟩
  by_cases hlt : e.on < i
  · refine ⟨hlt, ?_⟩
    rw [hm]
    rw [List.getD_eq_getElem?_getD, List.getElem?_take, if_pos hlt] at g
    rw [List.getD_eq_getElem?_getD]
    exact g
  · rw [List.getD_eq_getElem?_getD, List.getElem?_take, if_neg hlt] at g
    simp at g
def Closed (ops : List Oper) (listed : Array Bool) : Prop := ∀ i o, ops[i]? = some o → listed.getD i false = true → ∀ e ∈ o.after.toList, Region.binds .any e = true → listed.getD e.on false = true
theorem anc_listed {ops : List Oper} {listed : Array Bool} (hc : Closed ops listed) : ∀ (n i : Nat), i ≤ n → ∀ o, ops[i]? = some o → (∀ e ∈ o.after.toList, Region.binds .any e = true → listed.getD e.on false = true) →
    ∀ k, ((masks ops).getD i 0).testBit k = true → listed.getD k false = true := by
  intro n
  induction n with
  | zero =>
    intro i hi o ho he k hk
    obtain ⟨e, h1, h2, h3⟩ := masks_bit ho hk
    rcases h3 with rfl | ⟨h3, _⟩
    · exact he e h1 h2
    · omega
  | succ n ih =>
    intro i hi o ho he k hk
    obtain ⟨e, h1, h2, h3⟩ := masks_bit ho hk
    rcases h3 with rfl | ⟨h3, h4⟩
    · exact he e h1 h2
    · have hlt : i < ops.length := (List.getElem?_eq_some_iff.1 ho).1
      have hoe : ops[e.on]? = some ops[e.on] := List.getElem?_eq_getElem (by omega)
      exact ih e.on (by omega) _ hoe (fun e' g1 g2 => hc e.on _ hoe (he e h1 h2) e' g1 g2) k h4
theorem I6 : ∀ {ops : List Oper} {n : Nat}, edgesOk n ops = true → ∀ i o, ops[i]? = some o → ∀ e ∈ o.after.toList, Region.binds .any e = true → e.on < n + i
  | [], n, _, i, o, ho => by simp at ho
  | x :: r, n, h, i, o, ho => by
    simp only [edgesOk, Bool.and_eq_true, List.all_eq_true, Bool.or_eq_true, Bool.not_eq_true', decide_eq_true_eq] at h
    cases i with
    | zero =>
      simp only [List.getElem?_cons_zero, Option.some.injEq] at ho
      subst ho
      intro e he hb
      rcases h.1 e he with h1 | h1
      · rw [hb] at h1; cases h1
      · exact h1
    | succ i =>
      simp only [List.getElem?_cons_succ] at ho
      intro e he hb
      have := I6 h.2 i o ho e he hb
      omega
theorem getD_two {l : Array Bool} {i : Nat} (h : i < l.size) : l.getD i true = l.getD i false := by simp [h]
theorem any_sound (K : Hq P C) (hC : C.dp = 1) {ops : Array Oper} (hE : edgesOk 0 ops.toList = true) {N : Exit → Act → World → Prop} : ∀ (n : Nat) (l : List (Nat × List Nat × Bool)) (listed : Array Bool) (s t : AS) (a : Act) (w : World), l.length = n →
    listed.size = ops.size → (∀ i, i < ops.size → (listed.getD i false = false ↔ ∃ q ∈ l, q.1 = i)) → (∀ q ∈ l, q.1 < ops.size) → (l.map (·.1)).Nodup → Closed ops.toList listed → Tr C ops.toList l s t →
    l.Pairwise (fun p q => Indep ops.toList p q ∨ ((masks ops.toList).getD q.1 0).testBit p.1 = true) → SR base pass F0 s a w → (∀ a w, SR base pass F0 t a w → N .normal a w) → wpAny P .any ops N n listed a w := by
  intro n
  induction n with
  | zero =>
    intro l listed s t a w hl hsz hun hlt hnd hcl htr hpw hs hN
    have : l = [] := List.eq_nil_of_length_eq_zero hl
    subst this
    cases htr
    refine ⟨?_, hN a w hs⟩
    cases hr : Region.ready .any ops listed with
    | nil => rfl
    | cons j r =>
      have hj : j ∈ Region.ready .any ops listed := by rw [hr]; simp
      obtain ⟨h1, o, ho, _⟩ := mem_ready.1 hj
      have hjl : j < ops.size := (Array.getElem?_eq_some_iff.1 ho).1
      rw [getD_two (by omega)] at h1
      obtain ⟨q, hq, _⟩ := (hun j hjl).1 h1
      cases hq
  | succ n ih =>
    intro l listed s t a w hl hsz hun hlt hnd hcl htr hpw hs hN
    refine ⟨fun hnil => ?_, fun i hi => ?_⟩
    · 
      exfalso
      have ex : ∀ m i, i ≤ m → i < ops.size → listed.getD i false = false → ∃ j, j ∈ Region.ready .any ops listed := by
        intro m
        induction m with
        | zero =>
          intro i him hil hu
          refine ⟨i, mem_ready.2 ⟨by rw [getD_two (by omega)]; exact hu, ops[i], by simp [hil], fun e he hb => ?_⟩⟩
          have := I6 hE i ops[i] (by simp [hil]) e (by simpa using he) hb
          omega
        | succ m ihm =>
          intro i him hil hu
          by_cases hall : ∀ e ∈ ops[i].after, Region.binds .any e = true → listed.getD e.on false = true
          · exact ⟨i, mem_ready.2 ⟨by rw [getD_two (by omega)]; exact hu, ops[i], by simp [hil], hall⟩⟩
          · have : ∃ e, e ∈ ops[i].after ∧ Region.binds .any e = true ∧ listed.getD e.on false = false := by
              apply Classical.byContradiction
              intro hno
              apply hall
              intro e he hb
              cases hx : listed.getD e.on false with
              | true => rfl
              | false => exact absurd ⟨e, he, hb, hx⟩ hno
            obtain ⟨e, he, hb, hx⟩ := this
            have := I6 hE i ops[i] (by simp [hil]) e (by simpa using he) hb
            exact ihm e.on (by omega) (by omega) hx
      cases l with
      | nil => simp at hl
      | cons q r =>
        have hq := hlt q (by simp)
        obtain ⟨j, hj⟩ := ex q.1 q.1 (Nat.le_refl _) hq ((hun q.1 hq).2 ⟨q, by simp, rfl⟩)
        rw [hnil] at hj
        cases hj
    · obtain ⟨h1, o, ho, hall⟩ := mem_ready.1 hi
      have hil : i < ops.size := (Array.getElem?_eq_some_iff.1 ho).1
      have hol : ops.toList[i]? = some o := by simpa using ho
      rw [getD_two (by omega)] at h1
      obtain ⟨q, hq, rfl⟩ := (hun i hil).1 h1
      obtain ⟨l1, l2, rfl⟩ := List.append_of_mem hq
      have hind : ∀ k ∈ l1, Indep ops.toList k q := by
        intro k hk
        rcases (List.pairwise_append.1 hpw).2.2 k hk q (by simp) with h | h
        · exact h
        · exfalso
          have := anc_listed hcl q.1 q.1 (Nat.le_refl _) o hol (fun e he hb => hall e (by simpa using he) hb) k.1 h
          have h2 := (hun k.1 (hlt k (by simp [hk]))).2 ⟨k, by simp [hk], rfl⟩
          rw [this] at h2
          cases h2
      obtain ⟨s1, t', hst, htr', hsame⟩ := htr.first hC hind
      have rest : ∀ a w, SR base pass F0 s1 a w → wpAny P .any ops N n (listed.setIfInBounds q.1 true) a w := by
        intro a w hs1
        have hnd' : q.1 ∉ (l1 ++ l2).map (·.1) := by
          simp only [List.map_append, List.map_cons] at hnd
          have h2 := List.nodup_append.1 hnd
          have h3 := List.nodup_cons.1 h2.2.1
          simp only [List.map_append, List.mem_append, not_or]
          exact ⟨fun hx => h2.2.2 q.1 hx q.1 (by simp) rfl, h3.1⟩
        refine ih (l1 ++ l2) _ s1 t' a w (by simp at hl ⊢; omega) (by simpa using hsz) (fun i hi => ?_) (fun p hp => hlt p (by simp at hp ⊢; rcases hp with hp | hp <;> simp [hp])) ?_ ?_ htr' ?_ hs1 (fun a w h => hN a w (h.same hsame.symm))
        · by_cases hiq : q.1 = i
          · subst hiq
            have : (listed.setIfInBounds q.1 true).getD q.1 false = true := by simp [hsz, hi]
            rw [this]
            constructor
            · intro h; cases h
            · rintro ⟨p, hp, hpe⟩
              exact absurd (List.mem_map.2 ⟨p, hp, hpe⟩) hnd'
          · rw [getD_set_ne false hiq, hun i hi]
            constructor
            · rintro ⟨p, hp, rfl⟩
              refine ⟨p, ?_, rfl⟩
              simp only [List.mem_append, List.mem_cons] at hp ⊢
              rcases hp with hp | rfl | hp
              · exact .inl hp
              · exact absurd rfl hiq
              · exact .inr hp
            · rintro ⟨p, hp, rfl⟩
              refine ⟨p, ?_, rfl⟩
              simp only [List.mem_append, List.mem_cons] at hp ⊢
              rcases hp with hp | hp
              · exact .inl hp
              · exact .inr (.inr hp)
        · simp only [List.map_append, List.map_cons] at hnd ⊢
          have h2 := List.nodup_append.1 hnd
          have h3 := List.nodup_cons.1 h2.2.1
          exact List.nodup_append.2 ⟨h2.1, h3.2, fun x hx y hy => h2.2.2 x hx y (List.mem_cons_of_mem _ hy)⟩
        · intro j oj hoj hlj e he hb
          by_cases hjq : q.1 = j
          · subst hjq
            rw [hol] at hoj
            injection hoj with hoj
            subst hoj
            exact getD_set_true (hall e (by simpa using he) hb)
          · rw [getD_set_ne false hjq] at hlj
            exact getD_set_true (hcl j oj hoj hlj e he hb)
        · have h2 := List.pairwise_append.1 hpw
          have h3 := List.pairwise_cons.1 h2.2.1
          exact List.pairwise_append.2 ⟨h2.1, h3.2, fun x hx y hy => h2.2.2 x hx y (List.mem_cons_of_mem _ hy)⟩
      obtain ⟨o', ho', hstep⟩ := hst
      rw [hol] at ho'
      injection ho' with ho'
      subst ho'
      unfold wpOp
      simp only [ho]
      obtain ⟨m, G, hsg⟩ := hs
      rcases hstep with hstep | ⟨hg, _, _, c, x, os, e1, hc, rfl⟩ | ⟨hg, _, bc, x, rs, ⟨b1, b2, b3, b4, b5, b6, b7⟩, _, rfl⟩
      · cases hgd : o.guard with
        | none => simp only [hgd] at hstep
        | some jw =>
          obtain ⟨j, want⟩ := jw
          simp only [hgd] at hstep
          obtain ⟨g1, _, _, rfl⟩ := hstep
          have hw : ¬ Region.wanted o (yielded ops a.tmps) = true := by
            cases hgo : Nd ops.toList s j with
            | b t1 b =>
              rw [hgo] at g1
              have hy := Al hsg hgo
              have hy' : yielded ops a.tmps j = some b := by simpa using hy
              simp only [GV.skips] at g1
              simp [Region.wanted,hgd,hy',g1]
            | und =>
              have hy := guard_und hsg hgo
              have hy' : yielded ops a.tmps j = none := by simpa using hy
              simp [Region.wanted,hgd,hy']
            | no => rw [hgo] at g1; exact g1.elim
          rw [if_neg hw]
          refine rest _ _ ⟨m, G, ?_⟩
          have hp := hsg.putO (t := o.dst) (x := .d (.tup [])) (v := undef) undef_ok
          unfold AS.put
          exact hp
      · have hw : Region.wanted o (yielded ops a.tmps) = true := by
          cases hgd : o.guard with
          | none => simp [Region.wanted, hgd]
          | some jw =>
            obtain ⟨j, want⟩ := jw
            simp only [hgd] at hg
            cases hgo : Nd ops.toList s j with
            | b t1 b =>
              rw [hgo] at hg
              simp only [GV.runs] at hg
              subst hg
              have hy := Al hsg hgo
              have hy' : yielded ops a.tmps j = some b := by simpa using hy
              simp [Region.wanted,hgd,hy']
            | und => rw [hgo] at hg; exact hg.elim
            | no => rw [hgo] at hg; exact hg.elim
        rw [if_pos hw]
        refine .inl (op_sound K hsg e1 hc (fun v w' m' G' hs' hz => rest _ _ ⟨m', G', ?_⟩))
        have := hs'.putO (t := o.dst) hz
        unfold AS.put
        exact this
      · have hw : Region.wanted o (yielded ops a.tmps) = true := by
          cases hgd : o.guard with
          | none => simp [Region.wanted, hgd]
          | some jw =>
            obtain ⟨j, want⟩ := jw
            simp only [hgd] at hg
            cases hgo : Nd ops.toList s j with
            | b t1 b =>
              rw [hgo] at hg
              simp only [GV.runs] at hg
              subst hg
              have hy := Al hsg hgo
              have hy' : yielded ops a.tmps j = some b := by simpa using hy
              simp [Region.wanted,hgd,hy']
            | und => rw [hgo] at hg; exact hg.elim
            | no => rw [hgo] at hg; exact hg.elim
        rw [if_pos hw]
        refine .inl (bcall_wp K hsg b1 b2 b3 b4 b6 b7 (fun v w' m' G' hs' hz => rest _ _ ⟨m', G', ?_⟩))
        have := hs'.putO (t := o.dst) hz
        unfold AS.put
        exact this
theorem fpsOk_spec {ms : List Nat} : ∀ {acc : List (Nat × List Nat × Bool)}, fpsOk ms acc = true → acc.Pairwise (fun q p => (∀ k, k ∈ p.2.1 → k ∉ q.2.1) ∨ (p.2.2 = true ∧ q.2.2 = true) ∨ (ms.getD q.1 0).testBit p.1 = true)
  | [], _ => List.Pairwise.nil
  | (i, fi, ri) :: r, h => by
    simp only [fpsOk, Bool.and_eq_true, List.all_eq_true, Bool.or_eq_true] at h
    refine List.pairwise_cons.2 ⟨fun p hp => ?_, fpsOk_spec h.2⟩
    rcases h.1 p hp with (h1 | h1) | h1
    · exact .inr (.inr h1)
    · refine .inl fun k hk hk2 => ?_
      have := h1 k hk2
      simp [hk] at this
    · exact .inr (.inl ⟨h1.2, h1.1⟩)
theorem standAt_len {rs0 : List Nat} : ∀ {ks : List Nat} {l : List Obj} {o : Gv}, Mg rs0 ks l o → l.length ≤ ks.length
  | _, [], _, _ => by simp
  | [], _ :: _, _, h => by simp [Mg] at h
  | k :: ks, x :: l, o, h => by
    simp only [Mg] at h
    have := standAt_len h.2
    simp only [List.length_cons]; omega
theorem Fn {ops : List Oper} {Kp : AS → Prop} : ∀ (r : List Oper) (i : Nat) (acc : List (Nat × List Nat × Bool)) (s : AS), (∀ j, r[j]? = ops[i + j]?) → B2 C ops i r acc Kp s →
    ∃ l t acc', Tr C ops l s t ∧ okD ops acc' = true ∧ Kp t ∧ l.map (·.1) = List.range' i r.length ∧
      (∃ d, acc' = d ++ acc ∧ d.reverse.Sublist l ∧ ∀ q ∈ l, q ∉ d → q.2.1 = [] ∧ q.2.2 = true)
  | [], i, acc, s, _, h => by
    simp only [B2] at h
    exact ⟨[], s, acc, .nil s, h.1, h.2, rfl, [], rfl, List.Sublist.refl _, by simp⟩
  | o :: r, i, acc, s, hr, h => by
    have ho : ops[i]? = some o := by have := hr 0; simpa using this.symm
    have hr' : ∀ j, r[j]? = ops[i + 1 + j]? := fun j => by have := hr (j + 1); simpa [Nat.add_assoc, Nat.add_comm 1] using this
    have exec : ∀ s, On C o (fun fp ro => B2 C ops (i + 1) r ((i, fp, ro) :: acc) Kp) s → (match o.guard with
        | none => True
        | some (j, want) => (Nd ops s j).runs want) → ∃ l t acc', Tr C ops l s t ∧ okD ops acc' = true ∧ Kp t ∧ l.map (·.1) = List.range' i (o :: r).length ∧
      (∃ d, acc' = d ++ acc ∧ d.reverse.Sublist l ∧ ∀ q ∈ l, q ∉ d → q.2.1 = [] ∧ q.2.2 = true) := by
      intro s h hg
      unfold On at h
      split at h
      · next bc args hbo =>
        obtain ⟨x, rs, h1, rfl, h3, h4, h5, h6, h7⟩ := h
        obtain ⟨l, t, acc', k1, k2, k3, k4, d, k5, k6, k7⟩ := Fn r (i + 1) _ _ hr' h7
        refine ⟨(i, rs.map (· % 4096), false) :: l, t, acc', .cons ⟨o, ho, .inr (.inr ⟨hg, rfl, bc, x, rs, ⟨hbo, h1, h3, h4, standAt_len h5, h5, h6⟩, rfl, rfl⟩)⟩ k1, k2, k3, by simp [k4, List.range'], d ++ [(i, rs.map (· % 4096), false)], by simp [k5], by simpa using k6, fun q hq hqd => ?_⟩
        simp only [List.mem_append, List.mem_singleton, not_or] at hqd
        rcases List.mem_cons.1 hq with rfl | hq
        · exact absurd rfl hqd.2
        · exact k7 q hq hqd.1
      · split at h
        · next c x os hs =>
          obtain ⟨l, t, acc', k1, k2, k3, k4, d, k5, k6, k7⟩ := Fn r (i + 1) _ _ hr' h.2
          refine ⟨(i, Fs C o s, Iw o.op) :: l, t, acc', .cons ⟨o, ho, .inr (.inl ⟨hg, rfl, rfl, c, x, os, hs, h.1, rfl⟩)⟩ k1, k2, k3, by simp [k4, List.range'], d ++ [(i, Fs C o s, Iw o.op)], by simp [k5], by simpa using k6, fun q hq hqd => ?_⟩
          simp only [List.mem_append, List.mem_singleton, not_or] at hqd
          rcases List.mem_cons.1 hq with rfl | hq
          · exact absurd rfl hqd.2
          · exact k7 q hq hqd.1
        · exact h.elim
    simp only [B2] at h
    split at h
    · next hg => exact exec s h (by simp only [hg])
    · next j want hg =>
      split at h
      · next t b hgo =>
        obtain ⟨g, g1, g2, g3, g4⟩ := I4 hgo
        have hsame : ({ s with tmps := s.tmps.set t (.d (.bool b)) } : AS) = s := by rw [set_same g4 g3]
        by_cases hb : b = want
        · have := h.1 hb
          rw [← hb, hsame] at this
          exact exec s this (by simp only [hg, hgo, GV.runs]; exact hb)
        · have hb' : b = !want := by cases b <;> cases want <;> simp_all
          have := h.2 hb'
          rw [← hb', hsame] at this
          obtain ⟨l, t', acc', k1, k2, k3, k4, d, k5, k6, k7⟩ := Fn r (i + 1) _ _ hr' this
          refine ⟨(i, [], true) :: l, t', acc', .cons ⟨o, ho, .inl ?_⟩ k1, k2, k3, by simp [k4, List.range'], d, k5, k6.cons _, fun q hq hqd => ?_⟩
          · simp only [hg, hgo]
            exact ⟨hb, by simp⟩
          · rcases List.mem_cons.1 hq with rfl | hq
            · exact ⟨rfl, rfl⟩
            · exact k7 q hq hqd
      · next hgo =>
        obtain ⟨l, t', acc', k1, k2, k3, k4, d, k5, k6, k7⟩ := Fn r (i + 1) _ _ hr' h
        refine ⟨(i, [], true) :: l, t', acc', .cons ⟨o, ho, .inl ?_⟩ k1, k2, k3, by simp [k4, List.range'], d, k5, k6.cons _, fun q hq hqd => ?_⟩
        · simp only [hg, hgo]
          exact ⟨trivial, by simp⟩
        · rcases List.mem_cons.1 hq with rfl | hq
          · exact ⟨rfl, rfl⟩
          · exact k7 q hq hqd
      · exact h.elim
theorem slotsOk_spec {ops : List Oper} (h : slotsOk ops = true) {i k : Nat} {x y : Oper} (hk : ops[k]? = some x) (hi : ops[i]? = some y) (hlt : k < i) : ((masks ops).getD i 0).testBit k = true ∨ Rp ops x y = true := by
  simp only [slotsOk, List.all_eq_true, List.mem_range, Bool.or_eq_true] at h
  have := h i (List.getElem?_eq_some_iff.1 hi).1 k hlt
  rw [hk, hi] at this
  exact this
theorem draw_sound (K : Hq P C) (hC : C.dp = 1) {ops : Array Oper} {N : AS → Prop} {Q : Exit → Act → World → Prop} (hQ : ∀ st a w, SR base pass F0 st a w → N st → Q .normal a w) {s : AS} (h : SR base pass F0 s a w)
    (hn : B2 C ops.toList 0 ops.toList [] N s) : wpAny P .any ops Q ops.size (Array.replicate ops.size false) a w := by
  obtain ⟨l, t, d, k1, k2, k3, k4, d', k5, k6, k7⟩ := Fn ops.toList 0 [] s (fun j => by simp) hn
  simp only [List.append_nil] at k5
  subst k5
  simp only [okD, Bool.and_eq_true] at k2
  obtain ⟨⟨e1, e2⟩, e3⟩ := k2
  have hlen : l.length = ops.size := by have := congrArg List.length k4; simpa using this
  have hmem : ∀ i, (∃ q ∈ l, q.1 = i) ↔ i < ops.size := by
    intro i
    have : i ∈ l.map (·.1) ↔ i < ops.size := by rw [k4]; simp
    rw [← this, List.mem_map]
  have hnd : (l.map (·.1)).Nodup := by rw [k4, ← List.range_eq_range']; exact List.nodup_range
  refine any_sound K hC e1 ops.size l _ s t a w hlen (by simp) (fun i hi => ?_) (fun q hq => (hmem q.1).1 ⟨q, hq, rfl⟩) hnd (fun i o ho hl => ?_) k1 ?_ h (fun a w hs => hQ t a w hs k3)
  · simp [hi, hmem i]
  · rcases Nat.lt_or_ge i ops.size with hlt | hge
    · simp [hlt] at hl
    · simp [Nat.not_lt.2 hge] at hl
  · 
    have hord : l.Pairwise (fun p q => p.1 < q.1) := by
      have : (l.map (·.1)).Pairwise (· < ·) := by rw [k4, ← List.range_eq_range']; exact List.pairwise_lt_range
      exact List.pairwise_map.1 this
    have hfp := fpsOk_spec e3
    have hd : d.reverse.Pairwise (fun p q => (∀ k, k ∈ p.2.1 → k ∉ q.2.1) ∨ (p.2.2 = true ∧ q.2.2 = true) ∨ ((masks ops.toList).getD q.1 0).testBit p.1 = true) := List.pairwise_reverse.2 hfp
    have hall : ∀ p ∈ l, ∀ q ∈ l, p.1 < q.1 → (∀ k, k ∈ p.2.1 → k ∉ q.2.1) ∨ (p.2.2 = true ∧ q.2.2 = true) ∨ ((masks ops.toList).getD q.1 0).testBit p.1 = true := by
      intro p hp q hq hlt
      by_cases hpd : p ∈ d
      · by_cases hqd : q ∈ d
        · 
          have hs : d.reverse.Pairwise (fun p q => p.1 < q.1) := hord.sublist k6
          have both : ∀ {R : Nat × List Nat × Bool → Nat × List Nat × Bool → Prop} {L : List (Nat × List Nat × Bool)}, L.Pairwise R → L.Pairwise (fun p q => p.1 < q.1) → ∀ p ∈ L, ∀ q ∈ L, p.1 < q.1 → R p q := by
            intro R L
            induction L with
            | nil => intro _ _ p hp; cases hp
            | cons x L ihL =>
              intro h1 h2 p hp q hq hlt
              rw [List.pairwise_cons] at h1 h2
              rcases List.mem_cons.1 hp with hpx | hp'
              · rcases List.mem_cons.1 hq with hqx | hq'
                · subst hpx; subst hqx; omega
                · subst hpx; exact h1.1 q hq'
              · rcases List.mem_cons.1 hq with hqx | hq'
                · subst hqx; have := h2.1 p hp'; omega
                · exact ihL h1.2 h2.2 p hp' q hq' hlt
          exact both hd hs p (by simpa using hpd) q (by simpa using hqd) hlt
        · obtain ⟨q1, _⟩ := k7 q hq hqd
          exact .inl fun k _ hk => by rw [q1] at hk; cases hk
      · obtain ⟨q1, _⟩ := k7 p hp hpd
        exact .inl fun k hk => by rw [q1] at hk; cases hk
    refine hord.imp_of_mem fun {p q} hp hq hlt => ?_
    have hpl := (hmem p.1).1 ⟨p, hp, rfl⟩
    have hql := (hmem q.1).1 ⟨q, hq, rfl⟩
    rcases slotsOk_spec e2 (k := p.1) (i := q.1) (x := ops[p.1]) (y := ops[q.1]) (by simp [hpl]) (by simp [hql]) hlt with hb | hap
    · exact .inr hb
    · rcases hall p hp q hq hlt with h1 | h1 | h1
      · refine .inl ⟨fun x y hx hy => ?_, .inl h1⟩
        have hx' : ops[p.1] = x := by simpa [hpl] using hx
        have hy' : ops[q.1] = y := by simpa [hql] using hy
        rw [← hx', ← hy']
        exact hap
      · refine .inl ⟨fun x y hx hy => ?_, .inr h1⟩
        have hx' : ops[p.1] = x := by simpa [hpl] using hx
        have hy' : ops[q.1] = y := by simpa [hql] using hy
        rw [← hx', ← hy']
        exact hap
      · exact .inr h1
theorem SR.drew (h : SR base pass F0 st a w) : SR base pass F0 st a { w with drawn := w.drawn + 1 } := by
  obtain ⟨m, G, h⟩ := h
  exact ⟨m, G, h.drew⟩
def exitOf : AExit → Exit
  | .normal => .normal
  | .exit id => .exit id
  | .ret => .ret
theorem WkP_sound : ∀ {ks : List Nat} {st st' : AS} {m : Nat → Nat} {G : Gh}, SRg base pass F0 m G st a w → WkP ks st st' → ∃ m' G', SRg base pass F0 m' G' st' a w
  | [], st, st', m, G, h, hw => ⟨m, _, h.weak hw⟩
  | k :: ks, st, st', m, G, h, hw => by
    simp only [WkP] at hw
    cases hp : pur 60 (st.tmps.getD k .dead) st.objs with
    | none => rw [hp] at hw; exact hw.elim
    | some p =>
      obtain ⟨c, y, os⟩ := p
      rw [hp] at hw
      simp only at hw
      obtain ⟨hc, hw⟩ := hw
      have hk : k < st.tmps.length := by
        refine Nat.lt_of_not_le fun hk => ?_
        rw [List.getD_eq_getElem?_getD, List.getElem?_eq_none hk, Option.getD_none] at hp
        simp [pur] at hp
      have hx : st.tmps[k]? = some (st.tmps.getD k .dead) := by
        rw [List.getD_eq_getElem?_getD, List.getElem?_eq_getElem hk, Option.getD_some]
      obtain ⟨v, hv, hr⟩ := RAs.at h.tmps hx
      obtain ⟨m', h', _, _, hy⟩ := A9 h hp hc hr
      refine WkP_sound (m := m') (G := G) ?_ hw
      have ht : RAs ⟨w, m'⟩ G (lk os) (st.tmps.set k (.d y)) (a.tmps.toList.set k v) := RAs.set h'.tmps (by simpa only [RA] using hy)
      have hvs : a.tmps.toList.set k v = a.tmps.toList := by
        have hl : k < a.tmps.toList.length := by
          refine Nat.lt_of_not_le fun hn => ?_
          rw [List.getElem?_eq_none hn] at hv
          cases hv
        rw [List.getElem?_eq_getElem hl] at hv
        injection hv with hv
        rw [← hv, List.set_getElem_self]
      rw [hvs] at ht
      exact ⟨h'.defers, ht, h'.objs, h'.apart, h'.mine, h'.frame, h'.old, h'.new, h'.small, h'.lent⟩
theorem D2 (K : Hq P C) : ∀ (c : Code) {N : AExit → AS → Prop} {Q : Exit → Act → World → Prop} {st : AS} {a : Act} {w : World},
    (∀ e st a w, SR base pass F0 st a w → N e st → Q (exitOf e) a w) → SR base pass F0 st a w → awp C c N st → c.wp P Q a w
  | .skip, N, Q, st, a, w, hQ, h, hn => wp_skip (hQ .normal st a w h hn)
  | .region id ops false, N, Q, st, a, w, hQ, h, hn => by
    simp only [awp] at hn
    refine wp_region_list ?_
    have := Ts (P := P) K (Q := Q) (hQ .normal) ops.toList st a w h hn
    simpa using this
  | .region id ops true, N, Q, st, a, w, hQ, h, hn => by
    simp only [awp] at hn
    refine wp_region_any K.2.2.1 (draw_sound (C := C.one) ⟨K.1, K.2.1, K.2.2.1, K.2.2.2⟩ rfl (hQ .normal) h.drew hn)
  | .seq x y, N, Q, st, a, w, hQ, h, hn => by
    simp only [awp] at hn
    refine wp_seq (D2 K x ?_ h hn)
    intro e st a w hs he
    cases e with
    | normal => exact D2 K y hQ hs he
    | exit id => exact hQ (.exit id) st a w hs he
    | ret => exact hQ .ret st a w hs he
  | .cond c x y, N, Q, st, a, w, hQ, h, hn => by
    simp only [awp] at hn
    split at hn
    · next b hb =>
      obtain ⟨m, G, hs⟩ := h
      have hr := Pn (C := C) (hint := 0) hs.tmps c
      rw [hb] at hr
      simp only [RA] at hr
      have hv := hr.of_bool hn.1
      exact wp_cond_split hv (fun ht => D2 K x hQ ⟨m, G, hs⟩ (hn.2.1 ht)) (fun hf => D2 K y hQ ⟨m, G, hs⟩ (hn.2.2 hf))
    · exact hn.elim
  | .block id c, N, Q, st, a, w, hQ, h, hn => by
    simp only [awp] at hn
    refine wp_block (D2 K c ?_ h hn)
    intro e st a w hs he
    cases e with
    | normal => exact hQ .normal st a w hs he
    | exit id' =>
      simp only [aBlock] at he
      simp only [exitOf, Exit.inBlock]
      split
      · next hid => rw [if_pos hid] at he; exact hQ .normal st a w hs he
      · next hid => rw [if_neg hid] at he; exact hQ (.exit id') st a w hs he
    | ret => exact hQ .ret st a w hs he
  | .loop c, N, Q, st, a, w, hQ, h, hn => by
    simp only [awp] at hn
    obtain ⟨α, inv, ok, μ, ⟨x0, hw0, hok0⟩, hround⟩ := hn
    obtain ⟨m, G, hs⟩ := h
    obtain ⟨ks, hw0⟩ := hw0
    obtain ⟨m, G, hs⟩ := WkP_sound hs hw0
    refine wp_loop_ghost (fun n a w => ∃ x, ok x ∧ μ x = n ∧ SR base pass F0 (inv x) a w) (μ x0) ⟨x0, hok0, rfl, m, G, hs⟩ ?_
    rintro n a w ⟨x, hok, rfl, hsx⟩
    refine D2 K c ?_ hsx (hround x hok)
    intro e st a w hs he
    cases e with
    | normal =>
      obtain ⟨x', hw', hok', hlt⟩ := he
      obtain ⟨m', G', hs'⟩ := hs
      exact ⟨μ x', hlt, x', hok', rfl, m', _, hs'.weak hw'⟩
    | exit id => exact hQ (.exit id) st a w hs he
    | ret => exact hQ .ret st a w hs he
  | .exit id, N, Q, st, a, w, hQ, h, hn => wp_exit (hQ (.exit id) st a w h hn)
  | .ret, N, Q, st, a, w, hQ, h, hn => wp_ret (hQ .ret st a w h hn)
  | .rangeFunc .., _, _, _, _, _, _, _, hn => by simp [awp] at hn
  | .scope _, _, _, _, _, _, _, _, hn => by simp [awp] at hn
  | .label _, _, _, _, _, _, _, _, hn => by simp [awp] at hn
  | .goto _, _, _, _, _, _, _, _, hn => by simp [awp] at hn
  | .refuse _, _, _, _, _, _, _, _, hn => by simp [awp] at hn
end
def resAV (C : Ctx) (st : AS) : ResultVar → Option (Prop × AV)
  | .tmp t => some (True, st.tmps.getD t .dead)
  | .cell t T => match Ie C T (st.tmps.getD t .dead) st.objs with
    | some (c, x, _) => some (c, x)
    | none => none
def O8 (C : Ctx) (st : AS) : List ResultVar → Option (Prop × List AV)
  | [] => some (True, [])
  | r :: rs => match resAV C st r, O8 C st rs with
    | some (c, x), some (c', l) => some (c ∧ c', x :: l)
    | _, _ => none
def retOk (C : Ctx) (rs : List ResultVar) (outs : List Bool) (r : CV) (st : AS) : Prop := match O8 C st rs with
  | some (c, xs) => match Po C outs xs st.objs with
    | some (c', cvs, _) => c ∧ c' ∧ match cvs with
      | [x] => x = r
      | l => CV.tup l = r
    | none => False
  | none => False
def Post (C : Ctx) (rs : List ResultVar) (outs : List Bool) (r : CV) : AExit → AS → Prop
  | .exit _, _ => False
  | _, st => retOk C rs outs r st
def M1 : Nat → List CV → List AV × Gv
  | _, [] => ([], [])
  | k, .d x :: r => (.d x :: (M1 (k + 1) r).1, (M1 (k + 1) r).2)
  | k, .own s l :: r => (.sl k l.length :: (M1 (k + 1) r).1, (k, .row s l 0) :: (M1 (k + 1) r).2)
  | k, .tup _ :: r => (.dead :: (M1 (k + 1) r).1, (M1 (k + 1) r).2)
def Ii : Nat → List AV
  | 0 => []
  | n + 1 => .dead :: Ii n
def beginAS (n : Nat) (cvs : List CV) : AS := ⟨(M1 80000 cvs).1 ++ Ii (n - cvs.length), (M1 80000 cvs).2⟩
theorem upd_new : ∀ {o : Gv} {k : Nat} {x : Obj}, lk o k = none → upd o k x = o ++ [(k, x)]
  | [], _, _, _ => rfl
  | (j, p) :: r, k, x, h => by
    simp only [lk] at h
    by_cases hkj : k = j
    · rw [if_pos hkj] at h; cases h
    · rw [if_neg hkj] at h
      simp only [upd, if_neg hkj, List.cons_append, upd_new h]
theorem begin_sound {base : Nat} {pass : Nat → Prop} {F0 : Anc} {m : Nat → Nat} {w : World} : ∀ {cvs : List CV} {vs : List Value} {k : Nat} {os : Gv} {G : Gh}, SRg base pass F0 m G ⟨[], os⟩ ⟨#[], []⟩ w → Sb ⟨w, m⟩ cvs vs → (Gx cvs vs).Nodup →
    (∀ b ∈ Gx cvs vs, (base ≤ b ∨ pass b) ∧ ∀ i oi, lk os i = some oi → oi.owns = true → G.γ i ≠ some b) → (∀ j, k ≤ j → lk os j = none) →
    ∃ G', Co G (lk os) G' (lk (os ++ (M1 k cvs).2)) ∧ SRg base pass F0 m G' ⟨[], os ++ (M1 k cvs).2⟩ ⟨#[], []⟩ w ∧ RAs ⟨w, m⟩ G' (lk (os ++ (M1 k cvs).2)) (M1 k cvs).1 vs
  | [], vs, k, os, G, h, hc, _, _, _ => by
    simp only [Sb] at hc
    subst hc
    simp only [M1, List.append_nil]
    exact ⟨G, Co.refl _ _, h, by simp [RAs]⟩
  | .tup l :: cvs, vs, k, os, G, h, hc, _, _, _ => by
    simp only [Sb, CVR] at hc
    obtain ⟨_, _, _, hf, _⟩ := hc
    exact hf.elim
  | .d x :: cvs, vs, k, os, G, h, hc, hn, hb, hk => by
    simp only [Sb, CVR] at hc
    obtain ⟨v, r, rfl, hx, hxs⟩ := hc
    obtain ⟨G', q1, q2, q3⟩ := begin_sound (k := k + 1) h hxs (by simpa [Gx] using hn) (fun b hbb => hb b (by simpa [Gx] using hbb)) (fun j hj => hk j (by omega))
    simp only [M1]
    refine ⟨G', q1, q2, ?_⟩
    simp only [RAs, RA]
    exact ⟨v, r, rfl, hx, q3⟩
  | .own s l :: cvs, vs, k, os, G, h, hc, hn, hb, hk => by
    simp only [Sb, CVR] at hc
    obtain ⟨v, r, rfl, hx, hxs⟩ := hc
    have hsplit : Gx (.own s l :: cvs) (v :: r) = v.ownBlock.toList ++ Gx cvs r := rfl
    rw [hsplit] at hn hb
    obtain ⟨n1, n2, n3⟩ := List.nodup_append.1 hn
    have hk0 := hk k (Nat.le_refl _)
    obtain ⟨G1, q1, q2, q3, q4, q5⟩ := h.adopt hk0 hx (fun b hbb => hb b (List.mem_append_left _ (by simp [hbb])))
    rw [upd_new hk0] at q1 q2 q3
    obtain ⟨G', p1, p2, p3⟩ := begin_sound (k := k + 1) (os := os ++ [(k, .row s l 0)]) q2 hxs n2 (fun b hbb => by
      refine ⟨(hb b (List.mem_append_right _ hbb)).1, fun i oi hi ho hg => ?_⟩
      rw [← upd_new hk0, M3] at hi
      by_cases hik : i = k
      · subst hik
        exact n3 b (by simp [q5 b hg]) b hbb rfl
      · rw [if_neg hik] at hi
        rw [q4 i hik] at hg
        exact (hb b (List.mem_append_right _ hbb)).2 i oi hi ho hg) (fun j hj => by
      rw [← upd_new hk0, M3, if_neg (by omega)]
      exact hk j (by omega))
    simp only [M1]
    simp only [List.append_assoc, List.singleton_append] at p1 p2 p3
    refine ⟨G', ?_, p2, ?_⟩
    · intro j o hj
      obtain ⟨oa, a1, a2, a3⟩ := q1 j o hj
      obtain ⟨ob, b1, b2, b3⟩ := p1 j oa a1
      refine ⟨ob, b1, fun hbx => ?_, fun s' els' k' he => ?_⟩
      · obtain ⟨u1, u2⟩ := b2 hbx
        obtain ⟨u3, u4⟩ := a2 u1
        exact ⟨u3, u2.trans u4⟩
      · obtain ⟨els1, kk1, e1, e2, e3⟩ := b3 s' els' k' he
        obtain ⟨els2, kk2, f1, f2, f3⟩ := a3 s' els1 kk1 e1
        refine ⟨els2, kk2, f1, Nat.le_trans f2 e2, fun hl => ?_⟩
        obtain ⟨u1, u2⟩ := e3 (by omega)
        obtain ⟨u3, u4⟩ := f3 (by omega)
        exact ⟨u1.trans u3, u2.trans u4⟩
    · simp only [RAs]
      exact ⟨v, r, rfl, RA.mono (Fix.le_refl _) p1 q3, p3⟩
theorem Sb.length {F : Fix} : ∀ {l : List CV} {vs : List Value}, Sb F l vs → vs.length = l.length
  | [], _, h => by simp only [Sb] at h; simp [h]
  | _ :: l, _, h => by
    simp only [Sb] at h
    obtain ⟨v, r, rfl, _, h3⟩ := h
    simp [Sb.length h3]
theorem deads_sound {F : Fix} {G : Gh} {L : Nat → Option Obj} : ∀ n, RAs F G L (Ii n) (List.replicate n undef)
  | 0 => by simp [Ii, RAs]
  | n + 1 => by simp only [Ii, List.replicate_succ, RAs, RA]; exact ⟨undef, _, rfl, trivial, deads_sound n⟩
def resSem (a : Act) : ResultVar → Sem Value
  | .tmp t => pure (a.tmps.getD t undef)
  | .cell t T => do loadVar T (← asAddr (a.tmps.getD t undef))
theorem run_resSem {P : Program} {w : World} {T : TypeId} {v v' : Value} (h : (Instr.loadAt T v).run P w = .ok v' w) : (do loadVar T (← asAddr v) : Sem Value).run P w = .ok v' w := by
  cases v with
  | pointer a =>
    cases a with
    | none => simp [Instr.loadAt, Instr.sureAddr] at h
    | some a => simpa [Instr.loadAt, Instr.sureAddr, asAddr] using h
  | _ => simp [Instr.loadAt, Instr.sureAddr] at h
section
variable {P : Program} {C : Ctx} {base : Nat} {pass : Nat → Prop} {F0 : Anc} {m : Nat → Nat} {G : Gh} {st : AS} {a : Act} {w : World}
theorem resAV_sound (T : Bd P C.τ) (h : SRg base pass F0 m G st a w) {r : ResultVar} {c : Prop} {x : AV}
    (hr : resAV C st r = some (c, x)) (hc : c) : ∃ v, (resSem a r).run P w = .ok v w ∧ RA ⟨w, m⟩ G (lk st.objs) x v := by
  cases r with
  | tmp t =>
    simp only [resAV, Option.some.injEq, Prod.mk.injEq] at hr
    obtain ⟨rfl, rfl⟩ := hr
    exact ⟨_, rfl, Pn (C := C) (hint := 0) h.tmps (.tmp t)⟩
  | cell t T' =>
    simp only [resAV] at hr
    split at hr
    · next c1 y os hl =>
      simp only [Option.some.injEq, Prod.mk.injEq] at hr
      obtain ⟨rfl, rfl⟩ := hr
      have hp := Pn (C := C) (hint := 0) h.tmps (.tmp t)
      obtain ⟨_, v, r1, r2⟩ := load_ok (P := P) T h hp hl hc
      exact ⟨v, run_resSem r1, r2⟩
    · cases hr
theorem Ix (T : Bd P C.τ) (h : SRg base pass F0 m G st a w) : ∀ {rs : List ResultVar} {c : Prop} {xs : List AV}, O8 C st rs = some (c, xs) → c →
    ∃ vs, (rs.mapM (resSem a)).run P w = .ok vs w ∧ RAs ⟨w, m⟩ G (lk st.objs) xs vs
  | [], c, xs, hr, hc => by
    simp only [O8, Option.some.injEq, Prod.mk.injEq] at hr
    obtain ⟨rfl, rfl⟩ := hr
    exact ⟨[], by simp, by simp [RAs]⟩
  | r :: rs, c, xs, hr, hc => by
    simp only [O8] at hr
    split at hr
    · next c1 x c2 l h1 h2 =>
      simp only [Option.some.injEq, Prod.mk.injEq] at hr
      obtain ⟨rfl, rfl⟩ := hr
      obtain ⟨v, e1, e2⟩ := resAV_sound T h h1 hc.1
      obtain ⟨vs, g1, g2⟩ := Ix T h h2 hc.2
      refine ⟨v :: vs, by simp [List.mapM_cons, e1, g1], ?_⟩
      simp only [RAs]
      exact ⟨v, vs, rfl, e2, g2⟩
    · cases hr
def packs : List Value → Value
  | [v] => v
  | vs => .tuple vs.toArray
theorem run_results {fn : Func} {vs : List Value} (h : (fn.results.toList.mapM (resSem a)).run P w = .ok vs w) : (results fn a.tmps).run P w = .ok (packs vs) w := by
  have e : results fn a.tmps = (do
      let us ← List.toArray <$> fn.results.toList.mapM (resSem a)
      pure (if h : us.size = 1 then us[0] else .tuple us)) := by
    unfold results
    congr 1
    rw [Array.mapM_eq_mapM_toList]
    rfl
  rw [e]
  simp only [Sem.run_bind, Sem.run_map, h, Result.andThen_ok, Sem.run_pure]
  match vs with
  | [] => simp [packs]
  | [v] => simp [packs]
  | _ :: _ :: _ => simp [packs]
theorem Gu (K : Hq P C) {f : FuncId} {fn : Func} {c : Code} {con : Con} (hf : P.funcs[f]? = some fn) (hb : fn.body = some c) (rs : List ResultVar) (hrs : fn.results.toList = rs) (nt : Nat) (hnt : fn.ntmps = nt)
    (h : ∀ cvs, con.pre cvs → awp C c (Post C rs con.outs (con.fn cvs)) (beginAS nt cvs)) : Sound P f con := by
  intro m w cvs vs hpre hcv hnd hnew
  subst hnt
  subst hrs
  refine calls_of_wp hf hb ?_
  have hlt : ∀ (l : List CV) (us : List Value), Sb ⟨w, m⟩ l us → ∀ b ∈ Gx l us, b < w.heap.size := by
    intro l
    induction l with
    | nil => intro us hu b hb; simp [Gx] at hb
    | cons x l ih =>
      intro us hu b hb
      simp only [Sb] at hu
      obtain ⟨u, r, rfl, hx1, hxs1⟩ := hu
      have hsplit : Gx (x :: l) (u :: r) = Gx [x] [u] ++ Gx l r := by cases x <;> simp [Gx]
      rw [hsplit] at hb
      rcases List.mem_append.1 hb with hb | hb
      · cases x with
        | own s els =>
          simp [Gx] at hb
          exact (OwnV.lt hx1 hb).1
        | _ => simp [Gx] at hb
      · exact ih r hxs1 b hb
  have h0 : SRg w.heap.size (· ∈ Gx cvs vs) ⟨⟨w, m⟩, ⟨fun _ => none, fun _ => undef⟩, fun _ => none⟩ m ⟨fun _ => none, fun _ => undef⟩ ⟨[], []⟩ ⟨#[], []⟩ w :=
    ⟨rfl, by simp [RAs], fun i o hi => by simp [lk] at hi, fun i j oi oj b hi => by simp [lk] at hi, fun i o b hi => by simp [lk] at hi, Frame.refl _ _ _, fun _ _ _ => rfl, hnew, Nat.le_refl _, fun i o hi => by cases hi⟩
  obtain ⟨G, q1, q2, q3⟩ := begin_sound (k := 80000) (os := []) h0 hcv hnd (fun b hb => ⟨.inr hb, fun i oi hi => by simp [lk] at hi⟩) (fun _ _ => rfl)
  simp only [List.nil_append] at q1 q2 q3
  have hlen := Sb.length hcv
  have hs : SRg w.heap.size (· ∈ Gx cvs vs) ⟨⟨w, m⟩, ⟨fun _ => none, fun _ => undef⟩, fun _ => none⟩ m G (beginAS fn.ntmps cvs) { tmps := vs.toArray ++ Array.replicate (fn.ntmps - vs.toArray.size) undef, defers := [] } w := by
    refine ⟨rfl, ?_, q2.objs, q2.apart, q2.mine, q2.frame, q2.old, q2.new, q2.small, q2.lent⟩
    have := RAs.append q3 (deads_sound (F := ⟨w, m⟩) (G := G) (L := lk (M1 80000 cvs).2) (fn.ntmps - cvs.length))
    simpa [beginAS, hlen] using this
  have fin : ∀ (st : AS) (a : Act) (w' : World), SR w.heap.size (· ∈ Gx cvs vs) ⟨⟨w, m⟩, ⟨fun _ => none, fun _ => undef⟩, fun _ => none⟩ st a w' → retOk C fn.results.toList con.outs (con.fn cvs) st →
      a.defers = [] ∧ ∃ v, (results fn a.tmps).run P w' = .ok v w' ∧ ∃ u m', Ending.returned v = .returned u ∧ Frame w.heap.size (· ∈ Gx cvs vs) w w' ∧ (∀ b, b < w.heap.size → b ∉ Gx cvs vs → m' b = m b) ∧
        (∀ b, w'.heap.size ≤ b → m' b = 0) ∧ Res ⟨w', m'⟩ w.heap.size (· ∈ Gx cvs vs) (con.fn cvs) u := by
    intro st a w' ⟨m1, G1, hs1⟩ hret
    unfold retOk at hret
    split at hret
    · next c1 xs hra =>
      split at hret
      · next c2 cvs2 os hin =>
        obtain ⟨hc1, hc2, hfin⟩ := hret
        obtain ⟨us, e1, e2⟩ := Ix K.1 hs1 hra hc1
        obtain ⟨m2, k1, k2, k3, k4, k5⟩ := inArgs_sound hs1 hin hc2 e2
        refine ⟨hs1.defers, _, run_results e1, _, m2, rfl, k1.frame, fun b hb hnb => k1.old b hb hnb, k1.new, ?_⟩
        split at hfin
        · next x =>
          simp only [Sb] at k3
          obtain ⟨v, r, rfl, hx, rfl⟩ := k3
          rw [← hfin]
          cases x with
          | tup l => simp [CVR] at hx
          | d x =>
            simp only [Res]
            exact ⟨⟨v, [], rfl, hx, rfl⟩, fun b hb => (k5 b hb).1⟩
          | own s l =>
            simp only [Res]
            exact ⟨⟨v, [], rfl, hx, rfl⟩, fun b hb => (k5 b hb).1⟩
        · next hne =>
          rw [← hfin]
          simp only [Res]
          refine ⟨us, ?_, k3, k4, fun b hb => (k5 b hb).1⟩
          match us, Sb.length k3 with
          | [u], hl =>
            match cvs2, hl with
            | [x], _ => exact absurd rfl (hne x)
          | [], _ => rfl
          | _ :: _ :: _, _ => rfl
      · exact hret.elim
    · exact hret.elim
  refine D2 K c ?_ ⟨m, G, hs⟩ (h cvs hpre)
  intro e st a w' hsr hpost
  cases e with
  | normal => exact fin st a w' hsr hpost
  | ret => exact fin st a w' hsr hpost
  | exit id => exact hpost.elim
def packD : List D → D
  | [d] => d
  | l => .tup l
def canon (n : Nat) (qs : List Nat) : Prop := ∀ j, j < n → qs[j]? = some (90000 + j)
def retB (C : Ctx) (rs : List ResultVar) (n : Nat) (res : D) (post : List Obj) (st : AS) : Prop := match O8 C st rs with
  | some (c, xs) => match purs C.dp xs st.objs with
    | some (c', ds, os) => c ∧ c' ∧ packD ds = res ∧ ∃ qs : List Nat, qs.Nodup ∧ qs.length = post.length ∧ canon n qs ∧ Mg qs qs post os
    | none => False
  | none => False
def PostB (C : Ctx) (rs : List ResultVar) (n : Nat) (res : D) (post : List Obj) : AExit → AS → Prop
  | .exit _, _ => False
  | _, st => retB C rs n res post st
theorem packs_R {F : Fix} {ds : List D} {us : List Value} (h : Rs F ds us) : R F (packD ds) (packs us) := by
  match ds, us, h with
  | [], us, h =>
    simp only [Rs] at h
    subst h
    simp only [packD, packs, R, Rs]
    exact ⟨[], rfl, rfl⟩
  | [d], us, h =>
    simp only [Rs] at h
    obtain ⟨v, r, rfl, h2, rfl⟩ := h
    exact h2
  | d :: e :: l, us, h =>
    have h' := h
    simp only [Rs] at h
    obtain ⟨v, r, rfl, h2, v', r', rfl, h3, h4⟩ := h
    simp only [packD, packs, R]
    exact ⟨_, rfl, h'⟩
theorem fn_soundB (K : Hq P C) {f : FuncId} {fn : Func} {c : Code} {bc : BCon} (hf : P.funcs[f]? = some fn) (hb : fn.body = some c) (rs : List ResultVar) (hrs : fn.results.toList = rs) (nt : Nat) (hnt : fn.ntmps = nt)
    (h : ∀ x, bc.ok x → Tied (bc.args x) (bc.objs x) ∧ M2 (bc.objs x) ∧ Tied [] (bc.post x) ∧ (bc.objs x).length ≤ (bc.post x).length ∧
      awp C c (PostB C rs (bc.objs x).length (bc.res x) (bc.post x)) ⟨bc.args x ++ Ii (nt - (bc.args x).length), Hz (bc.objs x)⟩) : SoundB P f bc := by
  intro x hok
  obtain ⟨h1, h2, h3, h4, h5⟩ := h x hok
  refine ⟨h1, h2, h3, h4, fun m w G vs hsr => ?_⟩
  subst hnt
  subst hrs
  refine calls_of_wp hf hb ?_
  have hlen := RAs.length (by simpa using hsr.tmps : RAs ⟨w, m⟩ G (lk (Hz (bc.objs x))) (bc.args x) vs)
  have hs : SRg w.heap.size (Ia G (bc.objs x)) ⟨⟨w, m⟩, G, lk (Hz (bc.objs x))⟩ m G ⟨bc.args x ++ Ii (fn.ntmps - (bc.args x).length), Hz (bc.objs x)⟩
      { tmps := vs.toArray ++ Array.replicate (fn.ntmps - vs.toArray.size) undef, defers := [] } w := by
    refine ⟨rfl, ?_, hsr.objs, hsr.apart, hsr.mine, hsr.frame, hsr.old, hsr.new, hsr.small, hsr.lent⟩
    have := RAs.append (by simpa using hsr.tmps : RAs ⟨w, m⟩ G (lk (Hz (bc.objs x))) (bc.args x) vs) (deads_sound (F := ⟨w, m⟩) (G := G) (L := lk (Hz (bc.objs x))) (fn.ntmps - (bc.args x).length))
    simpa [hlen] using this
  have fin : ∀ (st : AS) (a : Act) (w' : World), SR w.heap.size (Ia G (bc.objs x)) ⟨⟨w, m⟩, G, lk (Hz (bc.objs x))⟩ st a w' → retB C fn.results.toList (bc.objs x).length (bc.res x) (bc.post x) st →
      a.defers = [] ∧ ∃ v, (results fn a.tmps).run P w' = .ok v w' ∧ ∃ u m' G', Ending.returned v = .returned u ∧ R ⟨w', m'⟩ (bc.res x) u ∧
        SRg w.heap.size (Ia G (bc.objs x)) ⟨⟨w, m⟩, G, lk (Hz (bc.objs x))⟩ m' G' ⟨[], Hz (bc.post x)⟩ ⟨#[], []⟩ w' := by
    intro st a w' ⟨m1, Gf, hs1⟩ hret
    unfold retB at hret
    split at hret
    · next c1 xs hra =>
      split at hret
      · next c2 ds os hpu =>
        obtain ⟨hc1, hc2, hpk, qs, hnd, hql, hcan, hst⟩ := hret
        obtain ⟨us, e1, e2⟩ := Ix K.1 hs1 hra hc1
        obtain ⟨m2, k1, _, k3⟩ := purs_sound' hs1 hpu hc2 e2
        have hinj : ∀ {j j' k : Nat}, qs[j]? = some k → qs[j']? = some k → j = j' := by
          intro j j' k h1 h2
          obtain ⟨hj, e1⟩ := List.getElem?_eq_some_iff.1 h1
          obtain ⟨hj', e2⟩ := List.getElem?_eq_some_iff.1 h2
          have hp := List.pairwise_iff_getElem.1 hnd
          rcases Nat.lt_trichotomy j j' with hlt | heq | hgt
          · exact absurd (e1.trans e2.symm) (hp j j' hj hj' hlt)
          · exact heq
          · exact absurd (e2.trans e1.symm) (hp j' j hj' hj hgt)
        let G' : Gh := ⟨fun i => Gf.γ (rk qs i), fun i => Gf.hd (rk qs i)⟩
        have al : Alike qs (bc.post x) G' Gf (lk os) := ⟨fun i o hi => by
          obtain ⟨j, rfl, hj⟩ := Pg hi
          obtain ⟨k, hk, hkk⟩ := P4 hst hj
          rw [Rr hk]; exact hkk, fun i o hi => ⟨rfl, rfl⟩⟩
        refine ⟨hs1.defers, _, run_results e1, _, m2, G', rfl, by rw [← hpk]; exact packs_R k3, ?_⟩
        constructor
        · rfl
        · simp [RAs]
        · intro i o hi
          obtain ⟨j, rfl, hj⟩ := Pg hi
          exact (rn_ObjOk al hi (Is h3.2 hj)).2 (k1.objs _ _ (al.obj _ _ hi))
        · intro i i' o o' b hi hi' ho ho' hb hb'
          have e := k1.apart _ _ _ _ b (al.obj _ _ hi) (al.obj _ _ hi') (by rw [S2]; exact ho) (by rw [S2]; exact ho') hb hb'
          obtain ⟨j, rfl, hj⟩ := Pg hi
          obtain ⟨j', rfl, hj'⟩ := Pg hi'
          obtain ⟨k, hk, _⟩ := P4 hst hj
          obtain ⟨k', hk', _⟩ := P4 hst hj'
          rw [Rr hk, Rr hk'] at e
          subst e
          rw [hinj hk hk']
        · intro i o b hi ho hb
          exact k1.mine _ _ b (al.obj _ _ hi) (by rw [S2]; exact ho) hb
        · exact k1.frame
        · exact k1.old
        · exact k1.new
        · exact k1.small
        · intro i o hi
          obtain ⟨hge, o', ho', hw⟩ := k1.lent i o hi
          obtain ⟨j, rfl, hj⟩ := Pg hi
          have hjn : j < (bc.objs x).length := (List.getElem?_eq_some_iff.1 hj).1
          have hjp : j < (bc.post x).length := by omega
          have hp := List.getElem?_eq_getElem (l := bc.post x) hjp
          obtain ⟨k, hk, hkk⟩ := P4 hst hp
          rw [hcan j hjn] at hk
          injection hk with hk
          subst hk
          simp only at ho'
          rw [hkk] at ho'
          injection ho' with ho'
          subst ho'
          have eg : G'.γ (90000 + j) = Gf.γ (90000 + j) := by show Gf.γ (rk qs (90000 + j)) = _; rw [Rr (hcan j hjn)]
          have eh : G'.hd (90000 + j) = Gf.hd (90000 + j) := by show Gf.hd (rk qs (90000 + j)) = _; rw [Rr (hcan j hjn)]
          refine ⟨hge, _, Sn hp, fun hb => ?_, fun s els' k' he => ?_⟩
          · obtain ⟨w1, w2⟩ := hw.1 (by rw [rnO_isBox]; exact hb)
            exact ⟨w1, eg.trans w2⟩
          · obtain ⟨els, k0, f1, f2, f3⟩ := hw.2 s els' k' (rnO_row.2 he)
            refine ⟨els, k0, f1, f2, fun heq => ?_⟩
            obtain ⟨q1, q2⟩ := f3 heq
            exact ⟨eg.trans q1, eh.trans q2⟩
      · exact hret.elim
    · exact hret.elim
  refine D2 K c ?_ ⟨m, G, hs⟩ h5
  intro e st a w' hsr hpost
  cases e with
  | normal => exact fin st a w' hsr hpost
  | ret => exact fin st a w' hsr hpost
  | exit id => exact hpost.elim
end
end Go.Am
namespace Go.Am
mutual
def zD : D → Value → Bool
  | .int k n, .int k' n' => k == k' && n == n'
  | .bool b, .bool b' => b == b'
  | .str s, .string b => s == b.data.toList
  | .nilf, .nilFunc => true
  | .nilp, .pointer none => true
  | .list _ l, .slice none 0 0 => l.isEmpty
  | .agg l, .agg cs => zDs l cs.toList && cs.toList.all (·.oneCell')
  | _, _ => false
def zDs : List D → List Value → Bool
  | [], [] => true
  | x :: l, v :: vs => zD x v && zDs l vs
  | _, _ => false
end
mutual
def zA : AV → Value → Bool
  | .d x, v => zD x v
  | .nils _, .slice none 0 0 => true
  | .agg l, .agg cs => zAs l cs.toList && cs.toList.all (·.oneCell')
  | _, _ => false
def zAs : List AV → List Value → Bool
  | [], [] => true
  | x :: l, v :: vs => zA x v && zAs l vs
  | _, _ => false
end
mutual
theorem zD_sound : ∀ {x : D} {v : Value}, zD x v = true → ∀ F, R F x v
  | .int k n, v, h, F => by
    cases v <;> simp only [zD, Bool.false_eq_true, Bool.and_eq_true, beq_iff_eq] at h
    simp only [R]; rw [h.1, h.2]
  | .bool b, v, h, F => by
    cases v <;> simp only [zD, Bool.false_eq_true, beq_iff_eq] at h
    simp only [R]; rw [h]
  | .str s, v, h, F => by
    cases v <;> simp only [zD, Bool.false_eq_true, beq_iff_eq] at h
    simp only [R]; rw [h]
  | .nilf, v, h, F => by
    cases v <;> simp only [zD, Bool.false_eq_true] at h
    simp only [R]
  | .nilp, v, h, F => by
    cases v with
    | pointer a => cases a <;> simp only [zD, Bool.false_eq_true] at h; simp only [R]
    | _ => simp only [zD, Bool.false_eq_true] at h
  | .list s l, v, h, F => by
    cases v with
    | slice A n c =>
      cases A with
      | some A => simp only [zD, Bool.false_eq_true] at h
      | none =>
        cases n with
        | succ n => simp only [zD, Bool.false_eq_true] at h
        | zero =>
          cases c with
          | succ c => simp only [zD, Bool.false_eq_true] at h
          | zero =>
            simp only [zD, List.isEmpty_iff] at h
            subst h
            simp only [R]
            exact ⟨none, 0, rfl, by simp, by simp [maxLen], by simp⟩
    | _ => simp only [zD, Bool.false_eq_true] at h
  | .agg l, v, h, F => by
    cases v with
    | agg cs =>
      simp only [zD, Bool.and_eq_true, List.all_eq_true] at h
      simp only [R]
      exact ⟨cs.toList, by simp, zDs_sound h.1 F, h.2⟩
    | _ => simp only [zD, Bool.false_eq_true] at h
  | .tup l, v, h, F => by cases v <;> simp only [zD, Bool.false_eq_true] at h
  | .ptr s x, v, h, F => by cases v <;> simp only [zD, Bool.false_eq_true] at h
  | .clo f l, v, h, F => by cases v <;> simp only [zD, Bool.false_eq_true] at h
theorem zDs_sound : ∀ {l : List D} {vs : List Value}, zDs l vs = true → ∀ F, Rs F l vs
  | [], vs, h, F => by
    cases vs with
    | nil => simp only [Rs]
    | cons => simp only [zDs, Bool.false_eq_true] at h
  | x :: l, vs, h, F => by
    cases vs with
    | nil => simp only [zDs, Bool.false_eq_true] at h
    | cons v vs =>
      simp only [zDs, Bool.and_eq_true] at h
      simp only [Rs]
      exact ⟨v, vs, rfl, zD_sound h.1 F, zDs_sound h.2 F⟩
end
mutual
theorem zA_sound : ∀ {x : AV} {v : Value}, zA x v = true → ∀ F G L, RA F G L x v
  | .d x, v, h, F, G, L => by
    simp only [zA] at h
    simp only [RA]
    exact zD_sound h F
  | .nils s, v, h, F, G, L => by
    cases v with
    | slice A n c =>
      cases A with
      | some A => simp only [zA, Bool.false_eq_true] at h
      | none =>
        cases n with
        | succ n => simp only [zA, Bool.false_eq_true] at h
        | zero =>
          cases c with
          | succ c => simp only [zA, Bool.false_eq_true] at h
          | zero => simp only [RA]
    | _ => simp only [zA, Bool.false_eq_true] at h
  | .agg l, v, h, F, G, L => by
    cases v with
    | agg cs =>
      simp only [zA, Bool.and_eq_true, List.all_eq_true] at h
      simp only [RA]
      exact ⟨cs.toList, by simp, zAs_sound h.1 F G L, h.2⟩
    | _ => simp only [zA, Bool.false_eq_true] at h
  | .ref .., v, h, F, G, L => by cases v <;> simp only [zA, Bool.false_eq_true] at h
  | .rref .., v, h, F, G, L => by cases v <;> simp only [zA, Bool.false_eq_true] at h
  | .sl .., v, h, F, G, L => by cases v <;> simp only [zA, Bool.false_eq_true] at h
  | .sb .., v, h, F, G, L => by cases v <;> simp only [zA, Bool.false_eq_true] at h
  | .tup .., v, h, F, G, L => by cases v <;> simp only [zA, Bool.false_eq_true] at h
  | .clo .., v, h, F, G, L => by cases v <;> simp only [zA, Bool.false_eq_true] at h
  | .dead, v, h, F, G, L => by cases v <;> simp only [zA, Bool.false_eq_true] at h
theorem zAs_sound : ∀ {l : List AV} {vs : List Value}, zAs l vs = true → ∀ F G L, RAs F G L l vs
  | [], vs, h, F, G, L => by
    cases vs with
    | nil => simp only [RAs]
    | cons => simp only [zAs, Bool.false_eq_true] at h
  | x :: l, vs, h, F, G, L => by
    cases vs with
    | nil => simp only [zAs, Bool.false_eq_true] at h
    | cons v vs =>
      simp only [zAs, Bool.and_eq_true] at h
      simp only [RAs]
      exact ⟨v, vs, rfl, zA_sound h.1 F G L, zAs_sound h.2 F G L⟩
end
def fieldsB (P : Program) : List Field → List (Nat × Nat) → Bool
  | [], [] => true
  | f :: l, p :: r => f.offset == p.1 && ((P.info? f.type).map (·.size) == some p.2) && decide (0 < p.2) && (p.2 != 1 || (match P.underlying f.type with | some d => plainDesc d | none => false)) && fieldsB P l r
  | _, _ => false
theorem fieldsB_sound {P : Program} : ∀ {l : List Field} {r : List (Nat × Nat)}, fieldsB P l r = true → r.length = l.length ∧ ∀ (j : Nat) (f : Field) (p : Nat × Nat), l[j]? = some f → r[j]? = some p →
    f.offset = p.1 ∧ (P.info? f.type).map (·.size) = some p.2 ∧ 0 < p.2 ∧ (p.2 = 1 → ∃ d', P.underlying f.type = some d' ∧ plainDesc d' = true)
  | [], [], _ => ⟨rfl, fun j f p h => by simp at h⟩
  | [], _ :: _, h => by simp [fieldsB] at h
  | _ :: _, [], h => by simp [fieldsB] at h
  | f :: l, p :: r, h => by
    simp only [fieldsB, Bool.and_eq_true, beq_iff_eq, decide_eq_true_eq, Bool.or_eq_true, bne_iff_ne] at h
    obtain ⟨⟨⟨⟨h1, h2⟩, h3⟩, h4⟩, h5⟩ := h
    obtain ⟨g1, g2⟩ := fieldsB_sound h5
    refine ⟨by simp [g1], fun j f' p' hj hp => ?_⟩
    cases j with
    | zero =>
      simp only [List.getElem?_cons_zero, Option.some.injEq] at hj hp
      subst hj; subst hp
      refine ⟨h1, h2, h3, fun he => ?_⟩
      rcases h4 with h4 | h4
      · exact absurd he h4
      · split at h4
        · next d hd => exact ⟨d, hd, h4⟩
        · cases h4
    | succ j =>
      simp only [List.getElem?_cons_succ] at hj hp
      exact g2 j f' p' hj hp
def kindB (P : Program) (τ : Nat → TI) : TK → TypeDesc → Bool
  | .int k, .int k' => k == k'
  | .bool, .bool => true
  | .str, .string => true
  | .slice e, .slice e' => e == e' && (τ e).kind.ag.isSome
  | .struct fs, .struct fields => fieldsB P fields.toList fs
  | .array n e, .array n' e' => n == n' && e == e' && (τ e).kind.ag == some false
  | .ptr e, .pointer e' => e == e'
  | .func, .func .. => true
  | _, _ => false
theorem kindB_sound {P : Program} {τ : Nat → TI} {k : TK} {d : TypeDesc} (h : kindB P τ k d = true) : k.is P τ d := by
  cases k <;> cases d <;> simp only [kindB, Bool.false_eq_true, beq_iff_eq, Bool.and_eq_true] at h <;> simp only [TK.is]
  case int.int => rw [h]
  case slice.slice => exact ⟨by rw [h.1], h.2⟩
  case struct.struct fs fields =>
    obtain ⟨g1, g2⟩ := fieldsB_sound h
    exact ⟨fields, rfl, by simpa using g1, fun j f p hj hp => g2 j f p (by simpa using hj) hp⟩
  case array.array => exact ⟨by rw [h.1.1, h.1.2], h.2⟩
  case ptr.pointer => rw [h]
  case func.func a b c => exact ⟨a, b, c, rfl⟩
def SK.sameB : SK → TypeDesc → Bool
  | .int k, .int k' => k == k'
  | .bool, .bool => true
  | .str, .string => true
  | _, _ => false
def eqFsB (P : Program) : Nat → List Field → List SK → Bool
  | _, [], [] => true
  | j, f :: fs, k :: ks => (f.name != "_") && f.offset == j && (match P.underlying f.type with
    | some d => k.sameB d
    | none => false) && eqFsB P (j + 1) fs ks
  | _, _, _ => false
def eqB (P : Program) (t : Nat) : List SK → Bool
  | [] => true
  | ks => (match P.underlying t with
    | some (.struct _) => true
    | _ => false) && !P.stoodInHeld t && !P.eqGuardType P.depth t && eqFsB P 0 (P.fieldsOf t).toList ks
theorem eqFsB_sound {P : Program} : ∀ {j : Nat} {fs : List Field} {ks : List SK}, eqFsB P j fs ks = true → eqFs P j fs ks
  | _, [], [], _ => trivial
  | _, [], _ :: _, h => by simp [eqFsB] at h
  | _, _ :: _, [], h => by simp [eqFsB] at h
  | j, f :: fs, k :: ks, h => by
    simp only [eqFsB, Bool.and_eq_true, bne_iff_ne, beq_iff_eq] at h
    obtain ⟨⟨⟨h1, h2⟩, h3⟩, h4⟩ := h
    refine ⟨h1, h2, ?_, eqFsB_sound h4⟩
    split at h3
    · next d hd =>
      rw [hd]
      cases k <;> cases d <;> simp only [SK.sameB, Bool.false_eq_true, beq_iff_eq] at h3 <;> first | rfl | (subst h3; rfl)
    · cases h3
theorem eqB_sound {P : Program} {t : Nat} {ks : List SK} (h : eqB P t ks = true) (hk : ks ≠ []) : EqOk P t ks := by
  cases ks with
  | nil => exact absurd rfl hk
  | cons k ks =>
    simp only [eqB, Bool.and_eq_true, Bool.not_eq_true'] at h
    obtain ⟨⟨⟨h1, h2⟩, h3⟩, h4⟩ := h
    refine ⟨?_, h2, h3, eqFsB_sound h4⟩
    unfold Program.fieldsOf
    split at h1
    · next fs he => simp [he]
    · cases h1
def tyB (P : Program) (τ : Nat → TI) (t : Nat) (ti : TI) : Bool := match P.underlying t, P.info? t with
  | some d, some i => kindB P τ ti.kind d && i.size == ti.size && i.bytes == ti.bytes && decide (0 < ti.size) && eqB P t ti.eqk && (match i.zero with
    | some z => zA ti.zero z && zD ti.zd z && z.cells.size == ti.size && z.cells.toList.all (·.oneCell')
    | none => false)
  | _, _ => false
theorem tyB_sound {P : Program} {τ : Nat → TI} {t : Nat} (h : tyB P τ t (τ t) = true) : TyOk P τ t := by
  unfold tyB at h
  split at h
  · next d i hd hi =>
    simp only [Bool.and_eq_true, beq_iff_eq, decide_eq_true_eq] at h
    obtain ⟨⟨⟨⟨⟨h1, h2⟩, h3⟩, h4⟩, hq⟩, h5⟩ := h
    split at h5
    · next z hz =>
      simp only [Bool.and_eq_true, beq_iff_eq, List.all_eq_true] at h5
      obtain ⟨⟨⟨g1, g2⟩, g3⟩, g4⟩ := h5
      exact ⟨⟨d, hd, kindB_sound h1⟩, ⟨i, z, hi, h2, h3, hz, zA_sound g1, zD_sound g2, g3, g4⟩, h4, eqB_sound hq⟩
    · cases h5
  · cases h
def lkT : List (Nat × TI) → Nat → TI
  | [], _ => ⟨.other, 0, 0, .dead, .nilp, []⟩
  | (j, x) :: r, i => if i = j then x else lkT r i
theorem lkT_mem : ∀ {tt : List (Nat × TI)} {t : Nat}, (lkT tt t).kind.ag.isSome = true → (t, lkT tt t) ∈ tt
  | [], t, h => by simp [lkT, TK.ag] at h
  | (j, x) :: r, t, h => by
    simp only [lkT] at h ⊢
    by_cases htj : t = j
    · subst htj
      simp
    · rw [if_neg htj] at h ⊢
      exact List.mem_cons_of_mem _ (lkT_mem h)
theorem tabOk_of {P : Program} {tt : List (Nat × TI)} (h : tt.all (fun p => tyB P (lkT tt) p.1 p.2) = true) : Bd P (lkT tt) := by
  intro t ht
  exact tyB_sound (List.all_eq_true.1 h _ (lkT_mem ht))
theorem Gj {P : Program} {f : FuncId} {fn : Func} (hf : P.funcs[f]? = some fn) (h1 : (fn.name == "runtime.NumGoroutine") = false) (h2 : fn.body.isNone = false) : Ot P f := by
  intro args w
  have h1' : ¬ fn.name = "runtime.NumGoroutine" := by simpa using h1
  have h2' : ¬ fn.body = none := by
    intro h
    rw [h] at h2
    simp at h2
  simp [callFunc,hf,h1',h2']
end Go.Am
namespace Go.Am
class Enc (α : Type) where
  enc : α → D
  dec : D → α
  dec_enc : ∀ a, dec (enc a) = a
open Enc (enc dec)
def isE (α : Type) [Enc α] (x : D) : Prop := x = enc (dec x : α)
theorem N7 {α : Type} [Enc α] (a : α) : isE α (enc a) := by unfold isE; rw [Enc.dec_enc]
instance encInt : Enc Int := ⟨.int .i64, D.i, fun _ => rfl⟩
instance encBool : Enc Bool := ⟨.bool, D.b, fun _ => rfl⟩
instance encStr : Enc (List UInt8) := ⟨.str, D.s, fun _ => rfl⟩
class Sz (α : Type) where
  sz : Nat
instance szInt : Sz Int := ⟨1⟩
instance szBool : Sz Bool := ⟨1⟩
instance szStr : Sz (List UInt8) := ⟨1⟩
structure Sl (α : Type) where
  l : List α
instance encSl {α : Type} [Enc α] [Sz α] : Enc (Sl α) := ⟨fun a => .list (Sz.sz α) (a.l.map enc), fun x => ⟨x.l.map dec⟩, fun a => by
  show Sl.mk ((a.l.map enc).map dec) = a
  rw [List.map_map]
  have : (dec ∘ enc : α → α) = id := funext fun x => Enc.dec_enc x
  rw [this, List.map_id]⟩
instance szSl {α : Type} : Sz (Sl α) := ⟨1⟩
section
variable {k k' : IntKind} {n : Int} {s s' : Nat} {l : List D} {b : Bool} {x : D} {bs : List UInt8} {f : Nat}
theorem i_int : D.i (.int k n) = n := rfl
theorem b_bool : D.b (.bool b) = b := rfl
theorem s_str : D.s (.str bs) = bs := rfl
theorem l_list : D.l (.list s l) = l := rfl
theorem isInt_int : D.isInt k (.int k' n) = (k' = k) := rfl
theorem Ak : D.isBool (.bool b) = True := rfl
theorem isStr_str : D.isStr (.str bs) = True := rfl
theorem Aj : D.isList s (.list s' l) = (s' = s) := rfl
theorem Fz : D.isAnyInt (.int k n) = True := rfl
theorem fits_int : D.fits s (.int k n) = (s = 1) := rfl
theorem fits_bool : D.fits s (.bool b) = (s = 1) := rfl
theorem fits_str : D.fits s (.str bs) = (s = 1) := rfl
theorem fits_list : D.fits s (.list s' l) = (s = 1) := rfl
theorem fits_agg : D.fits s (.agg l) = (l.length = s) := rfl
theorem fits_ptr : D.fits s (.ptr s' x) = (s = 1) := rfl
theorem fits_clo : D.fits s (.clo s' l) = (s = 1) := rfl
theorem fits_nilp : D.fits s .nilp = (s = 1) := rfl
theorem fits_nilf : D.fits s .nilf = (s = 1) := rfl
theorem cell_int : D.cell (.int k n) f = .int k n := rfl
theorem cell_bool : D.cell (.bool b) f = .bool b := rfl
theorem cell_str : D.cell (.str bs) f = .str bs := rfl
theorem cell_list : D.cell (.list s l) f = .list s l := rfl
theorem cell_clo : D.cell (.clo s l) f = .clo s l := rfl
theorem cell_ptr : D.cell (.ptr s x) f = .ptr s x := rfl
theorem cell_agg : D.cell (.agg l) f = l.getD f .nilp := rfl
theorem i_enc {n : Int} : D.i (enc n) = n := rfl
theorem b_enc {n : Bool} : D.b (enc n) = n := rfl
theorem s_enc {n : List UInt8} : D.s (enc n) = n := rfl
theorem isInt_enc {n : Int} : D.isInt k (enc n) = (.i64 = k) := rfl
theorem isBool_enc {n : Bool} : D.isBool (enc n) = True := rfl
theorem isStr_enc {n : List UInt8} : D.isStr (enc n) = True := rfl
theorem fits_encI {n : Int} : D.fits s (enc n) = (s = 1) := rfl
theorem cell_encI {n : Int} : D.cell (enc n) f = enc n := rfl
theorem fits_encB {n : Bool} : D.fits s (enc n) = (s = 1) := rfl
theorem cell_encB {n : Bool} : D.cell (enc n) f = enc n := rfl
theorem fits_encS {n : List UInt8} : D.fits s (enc n) = (s = 1) := rfl
theorem cell_encS {n : List UInt8} : D.cell (enc n) f = enc n := rfl
theorem isAnyInt_enc {n : Int} : D.isAnyInt (enc n) = True := rfl
section
variable {α : Type} [Enc α] [Sz α] {a : Sl α}
theorem l_enc : D.l (enc a) = a.l.map enc := rfl
theorem I0 : D.isList s (enc a) = (Sz.sz α = s) := rfl
theorem fits_encL : D.fits s (enc a) = (s = 1) := rfl
theorem cell_encL : D.cell (enc a) f = enc a := rfl
end
theorem dec_int : (dec (.int k n) : Int) = n := rfl
theorem dec_bool : (dec (.bool b) : Bool) = b := rfl
theorem dec_str : (dec (.str bs) : List UInt8) = bs := rfl
theorem dec_encE {α : Type} [Enc α] (a : α) : (dec (enc a) : α) = a := Enc.dec_enc a
theorem isE_int : isE Int (.int .i64 n) = True := eq_true rfl
theorem isE_bool : isE Bool (.bool b) = True := eq_true rfl
theorem isE_str : isE (List UInt8) (.str bs) = True := eq_true rfl
theorem isE_encE {α : Type} [Enc α] (a : α) : isE α (enc a) = True := eq_true (N7 a)
section
variable {α : Type} [Enc α] [Sz α]
theorem dec_list : (dec (.list s l) : Sl α) = ⟨l.map dec⟩ := rfl
theorem isE_list : isE (Sl α) (.list s l) = (s = Sz.sz α ∧ ∀ y ∈ l, isE α y) := by
  apply propext
  unfold isE
  constructor
  · intro h
    have h' : D.list s l = D.list (Sz.sz α) ((l.map (dec : D → α)).map enc) := h
    injection h' with h1 h2
    refine ⟨h1, fun y hy => ?_⟩
    rw [List.map_map] at h2
    have h3 : l.map id = l.map ((enc : α → D) ∘ dec) := by rw [List.map_id]; exact h2
    exact List.map_inj_left.1 h3 y hy
  · rintro ⟨rfl, h⟩
    show D.list (Sz.sz α) l = D.list (Sz.sz α) ((l.map (dec : D → α)).map enc)
    rw [List.map_map]
    congr 1
    conv => lhs; rw [← List.map_id l]
    exact List.map_congr_left fun y hy => h y hy
end
end
theorem isE_map {α : Type} [Enc α] {l : List α} : (∀ y ∈ l.map enc, isE α y) = True := eq_true (by
  intro y hy
  obtain ⟨a, _, rfl⟩ := List.mem_map.1 hy
  exact N7 a)
theorem Dq {α : Type} [Enc α] {l : List α} : (l.map enc).map (dec : D → α) = l := by
  rw [List.map_map]
  have : (dec ∘ enc : α → α) = id := funext fun x => Enc.dec_enc x
  rw [this, List.map_id]
theorem Nr {a b : Int} : (ltB a b = true) = (a < b) := by simp [ltB]
theorem Hg {a b : Int} : (ltB a b = false) = (b ≤ a) := by simp [ltB]
theorem D5 {a b : Int} : (leB a b = true) = (a ≤ b) := by simp [leB]
theorem Dr {a b : Int} : (leB a b = false) = (b < a) := by simp [leB]
theorem szI : Sz.sz Int = 1 := rfl
theorem szB : Sz.sz Bool = 1 := rfl
theorem szS : Sz.sz (List UInt8) = 1 := rfl
theorem szL {α : Type} : Sz.sz (Sl α) = 1 := rfl
theorem boolE {b b' : Bool} : (D.bool b = enc b') = (b = b') := propext ⟨fun h => by have h' : D.bool b = D.bool b' := h; injection h', fun h => by rw [h]; rfl⟩
theorem intE {b b' : Int} : (D.int .i64 b = enc b') = (b = b') := propext ⟨fun h => by have h' : D.int .i64 b = D.int .i64 b' := h; injection h', fun h => by rw [h]; rfl⟩
theorem strE {b b' : List UInt8} : (D.str b = enc b') = (b = b') := propext ⟨fun h => by have h' : D.str b = D.str b' := h; injection h', fun h => by rw [h]; rfl⟩
theorem listE {α : Type} [Enc α] [Sz α] {s : Nat} {l : List D} {a : Sl α} : (D.list s l = enc a) = (s = Sz.sz α ∧ l = a.l.map enc) := propext ⟨fun h => by have h' : D.list s l = D.list (Sz.sz α) (a.l.map enc) := h; injection h' with h1 h2; exact ⟨h1, h2⟩, fun h => by rw [h.1, h.2]; rfl⟩
theorem encE {α : Type} [Enc α] {a b : α} : (enc a = enc b) = (a = b) := propext ⟨fun h => by rw [← Enc.dec_enc a, h, Enc.dec_enc], fun h => by rw [h]⟩
theorem SlE {α : Type} {a b : List α} : (Sl.mk a = Sl.mk b) = (a = b) := propext ⟨fun h => by injection h, fun h => by rw [h]⟩
@[simp] theorem encI_def {n : Int} : (enc n : D) = .int .i64 n := rfl
@[simp] theorem encB_def {n : Bool} : (enc n : D) = .bool n := rfl
@[simp] theorem encS_def {n : List UInt8} : (enc n : D) = .str n := rfl
theorem all_of_lt {α : Type} {l : List α} {p : α → Bool} (d : α) (h : ∀ j, j < l.length → p (l.getD j d) = true) : l.all p = true := by
  rw [List.all_eq_true]
  intro x hx
  obtain ⟨j, hj, rfl⟩ := List.getElem_of_mem hx
  have := h j hj
  simpa [hj] using this
theorem all_not {α : Type} {l : List α} {p : α → Bool} (d : α) (j : Nat) (hj : j < l.length) (h : p (l.getD j d) = false) : l.all p = false := by
  cases hc : l.all p with
  | false => rfl
  | true =>
    rw [List.all_eq_true] at hc
    have := hc (l.getD j d) (by simp [hj])
    rw [h] at this
    cases this
theorem any_at {α : Type} {l : List α} {p : α → Bool} (d : α) (j : Nat) (hj : j < l.length) (h : p (l.getD j d) = true) : l.any p = true := by
  rw [List.any_eq_true]
  exact ⟨l.getD j d, by simp [hj], h⟩
theorem any_not {α : Type} {l : List α} {p : α → Bool} (d : α) (h : ∀ j, j < l.length → p (l.getD j d) = false) : l.any p = false := by
  cases hc : l.any p with
  | false => rfl
  | true =>
    rw [List.any_eq_true] at hc
    obtain ⟨x, hx, hp⟩ := hc
    obtain ⟨j, hj, rfl⟩ := List.getElem_of_mem hx
    have := h j hj
    simp [hj,hp] at this
theorem el_map {α : Type} {f : α → D} {l : List α} {i : Nat} (d : α) (h : i < l.length) : el (l.map f) i = f (l.getD i d) := by
  simp [el,h]
theorem Ku {n : Int} : inR .i64 n ↔ -9223372036854775808 ≤ n ∧ n ≤ 9223372036854775807 := by
  unfold inR
  constructor <;> intro h <;> simpa [IntKind.min, IntKind.max, IntKind.bits, IntKind.signed] using h
theorem inR_u64 {n : Int} : inR .u64 n ↔ 0 ≤ n ∧ n ≤ 18446744073709551615 := by
  unfold inR
  constructor <;> intro h <;> simpa [IntKind.min, IntKind.max, IntKind.bits, IntKind.signed] using h
def con1 {A B : Type} [Enc A] [Enc B] (p : A → Prop) (f : A → B) : Con := ⟨[false], [false], fun c => match c with
  | [.d x] => isE A x ∧ p (dec x)
  | _ => False, fun c => match c with
  | [.d x] => .d (enc (f (dec x)))
  | _ => .d .nilp⟩
def L3 {A B R : Type} [Enc A] [Enc B] [Enc R] (p : A → B → Prop) (f : A → B → R) : Con := ⟨[false, false], [false], fun c => match c with
  | [.d x, .d y] => isE A x ∧ isE B y ∧ p (dec x) (dec y)
  | _ => False, fun c => match c with
  | [.d x, .d y] => .d (enc (f (dec x) (dec y)))
  | _ => .d .nilp⟩
def con3 {A B C R : Type} [Enc A] [Enc B] [Enc C] [Enc R] (p : A → B → C → Prop) (f : A → B → C → R) : Con := ⟨[false, false, false], [false], fun c => match c with
  | [.d x, .d y, .d z] => isE A x ∧ isE B y ∧ isE C z ∧ p (dec x) (dec y) (dec z)
  | _ => False, fun c => match c with
  | [.d x, .d y, .d z] => .d (enc (f (dec x) (dec y) (dec z)))
  | _ => .d .nilp⟩
def B5 {A B R S : Type} [Enc A] [Enc B] [Enc R] [Enc S] (p : A → B → Prop) (f : A → B → R × S) : Con := ⟨[false, false], [false, false], fun c => match c with
  | [.d x, .d y] => isE A x ∧ isE B y ∧ p (dec x) (dec y)
  | _ => False, fun c => match c with
  | [.d x, .d y] => .tup [.d (enc (f (dec x) (dec y)).1), .d (enc (f (dec x) (dec y)).2)]
  | _ => .d .nilp⟩
def con3t {A B C R S : Type} [Enc A] [Enc B] [Enc C] [Enc R] [Enc S] (p : A → B → C → Prop) (f : A → B → C → R × S) : Con := ⟨[false, false, false], [false, false], fun c => match c with
  | [.d x, .d y, .d z] => isE A x ∧ isE B y ∧ isE C z ∧ p (dec x) (dec y) (dec z)
  | _ => False, fun c => match c with
  | [.d x, .d y, .d z] => .tup [.d (enc (f (dec x) (dec y) (dec z)).1), .d (enc (f (dec x) (dec y) (dec z)).2)]
  | _ => .d .nilp⟩
def con0 {R : Type} [Enc R] (r : R) : Con := ⟨[], [false], fun c => match c with
  | [] => True
  | _ => False, fun _ => .d (enc r)⟩
theorem Ct {A B : Type} [Enc A] [Enc B] {p : A → Prop} {f : A → B} {c : List CV} (h : (con1 p f).pre c) : ∃ a, c = [.d (enc a)] ∧ p a := by
  unfold con1 at h
  simp only at h
  split at h
  · next x => exact ⟨dec x, by rw [← h.1], h.2⟩
  · exact h.elim
theorem Hx {A B R : Type} [Enc A] [Enc B] [Enc R] {p : A → B → Prop} {f : A → B → R} {c : List CV} (h : (L3 p f).pre c) : ∃ a b, c = [.d (enc a), .d (enc b)] ∧ p a b := by
  unfold L3 at h
  simp only at h
  split at h
  · next x y => exact ⟨dec x, dec y, by rw [← h.1, ← h.2.1], h.2.2⟩
  · exact h.elim
theorem con3_pre {A B C R : Type} [Enc A] [Enc B] [Enc C] [Enc R] {p : A → B → C → Prop} {f : A → B → C → R} {c : List CV} (h : (con3 p f).pre c) : ∃ a b d, c = [.d (enc a), .d (enc b), .d (enc d)] ∧ p a b d := by
  unfold con3 at h
  simp only at h
  split at h
  · next x y z => exact ⟨dec x, dec y, dec z, by rw [← h.1, ← h.2.1, ← h.2.2.1], h.2.2.2⟩
  · exact h.elim
theorem con2t_pre {A B R S : Type} [Enc A] [Enc B] [Enc R] [Enc S] {p : A → B → Prop} {f : A → B → R × S} {c : List CV} (h : (B5 p f).pre c) : ∃ a b, c = [.d (enc a), .d (enc b)] ∧ p a b := by
  unfold B5 at h
  simp only at h
  split at h
  · next x y => exact ⟨dec x, dec y, by rw [← h.1, ← h.2.1], h.2.2⟩
  · exact h.elim
theorem con0_pre {R : Type} [Enc R] {r : R} {c : List CV} (h : (con0 r).pre c) : c = [] := by
  unfold con0 at h
  simp only at h
  split at h
  · rfl
  · exact h.elim
def lkC : List (Nat × Con) → Nat → Option Con
  | [], _ => none
  | (j, x) :: r, i => if i = j then some x else lkC r i
def Me (P : Program) (p : Nat × Con) : Prop := Ot P p.1 ∧ Sound P p.1 p.2
def lkB : List (Nat × BCon) → Nat → Option BCon
  | [], _ => none
  | (j, x) :: r, i => if i = j then some x else lkB r i
def GoodB (P : Program) (p : Nat × BCon) : Prop := Ot P p.1 ∧ SoundB P p.1 p.2
theorem Gq {P : Program} {τ : Nat → TI} {l : List (Nat × Con)} {n : Nat} (hT : Bd P τ) (hm : P.follows .mixedOrders = true) (h : ∀ p ∈ l, Me P p) {lb : List (Nat × BCon)} (hb : ∀ p ∈ lb, GoodB P p := by simp) {cu : List Nat} {wr : Bool} : Hq P ⟨τ, lkC l, n, lkB lb, cu, wr⟩ := by
  refine ⟨hT, fun f con hf => ?_, hm, fun f bc hf => ?_⟩
  case refine_2 =>
    have : ∀ (l : List (Nat × BCon)), lkB l f = some bc → (f, bc) ∈ l := by
      intro l
      induction l with
      | nil => intro h; simp [lkB] at h
      | cons p r ih =>
        intro h
        obtain ⟨j, x⟩ := p
        simp only [lkB] at h
        by_cases hfj : f = j
        · rw [if_pos hfj] at h
          injection h with h
          subst h; subst hfj
          simp
        · rw [if_neg hfj] at h
          exact List.mem_cons_of_mem _ (ih h)
    exact hb _ (this lb hf)
  have : ∀ (l : List (Nat × Con)), lkC l f = some con → (f, con) ∈ l := by
    intro l
    induction l with
    | nil => intro h; simp [lkC] at h
    | cons p r ih =>
      intro h
      obtain ⟨j, x⟩ := p
      simp only [lkC] at h
      by_cases hfj : f = j
      · rw [if_pos hfj] at h
        injection h with h
        subst h; subst hfj
        simp
      · rw [if_neg hfj] at h
        exact List.mem_cons_of_mem _ (ih h)
  exact h _ (this l hf)
end Go.Am
namespace Go.Am
def Ky : List AV → List Nat → List AV
  | l, [] => l
  | l, i :: r => Ky (l.set i .dead) r
def Kx : List AV → List (Nat × AV) → List AV
  | l, [] => l
  | l, (i, x) :: r => Kx (l.set i x) r
def K4 : Gv → List (Nat × Obj) → Gv
  | o, [] => o
  | o, (i, x) :: r => K4 (upd o i x) r
def Ol (st : AS) (kills : List Nat) (vals : List (Nat × AV)) (objs : List (Nat × Obj)) : AS := ⟨Kx (Ky st.tmps kills) vals, K4 st.objs objs⟩
structure Shut (p : Prop) : Prop where
  out : p
theorem shut_eq {p : Prop} : Shut p = p := propext ⟨fun h => h.out, fun h => ⟨h⟩⟩
theorem Gi {C : Ctx} {c : Code} {Q : AExit → AS → Prop} {st : AS} (kills : List Nat) {α : Type} (vals : α → List (Nat × AV)) (objs : α → List (Nat × Obj)) (ok : α → Prop) (μ : α → Nat) (a0 : α) (h0 : ok a0)
    (hw : Wk st (Ol st kills (vals a0) (objs a0))) (h : ∀ a, ok a → Shut (awp C c (aThen (fun s' => ∃ a', Wk s' (Ol st kills (vals a') (objs a')) ∧ ok a' ∧ μ a' < μ a) Q) (Ol st kills (vals a) (objs a)))) : aLoop C c Q st :=
  ⟨α, fun a => Ol st kills (vals a) (objs a), ok, μ, ⟨a0, ⟨[], hw⟩, h0⟩, fun a ha => (h a ha).out⟩
theorem aLoop_killP {C : Ctx} {c : Code} {Q : AExit → AS → Prop} {st : AS} (ks : List Nat) (kills : List Nat) {α : Type} (vals : α → List (Nat × AV)) (objs : α → List (Nat × Obj)) (ok : α → Prop) (μ : α → Nat) (a0 : α) (h0 : ok a0)
    (hw : WkP ks st (Ol st kills (vals a0) (objs a0))) (h : ∀ a, ok a → Shut (awp C c (aThen (fun s' => ∃ a', Wk s' (Ol st kills (vals a') (objs a')) ∧ ok a' ∧ μ a' < μ a) Q) (Ol st kills (vals a) (objs a)))) : aLoop C c Q st :=
  ⟨α, fun a => Ol st kills (vals a) (objs a), ok, μ, ⟨a0, ⟨ks, hw⟩, h0⟩, fun a ha => (h a ha).out⟩
theorem Kv (t : List AV) (o : Gv) (kills : List Nat) (vals : List (Nat × AV)) (objs : List (Nat × Obj)) : Ol ⟨t, o⟩ kills vals objs = ⟨Kx (Ky t kills) vals, K4 o objs⟩ := rfl
theorem Gl (a b : Nat) : (a < b ∧ ltB (a : Int) (b : Int) = true) ∨ (b ≤ a ∧ ltB (a : Int) (b : Int) = false) := by
  rcases Nat.lt_or_ge a b with h | h
  · exact .inl ⟨h, by rw [Nr]; omega⟩
  · exact .inr ⟨h, by rw [Hg]; omega⟩
theorem S5 (a b : Int) : (a < b ∧ ltB a b = true) ∨ (b ≤ a ∧ ltB a b = false) := by
  rcases Int.lt_or_le a b with h | h
  · exact .inl ⟨h, by rw [Nr]; exact h⟩
  · exact .inr ⟨h, by rw [Hg]; exact h⟩
section
open Enc (enc dec)
theorem map_snoc {α : Type} [Enc α] {l : List α} {x : α} : l.map (enc : α → D) ++ [enc x] = (l ++ [x]).map enc := by simp
theorem map_snocI {l : List Int} {x : Int} : l.map (enc : Int → D) ++ [.int .i64 x] = (l ++ [x]).map enc := by simp
theorem map_snocB {l : List Bool} {x : Bool} : l.map (enc : Bool → D) ++ [.bool x] = (l ++ [x]).map enc := by simp
theorem map_snocS {l : List (List UInt8)} {x : List UInt8} : l.map (enc : List UInt8 → D) ++ [.str x] = (l ++ [x]).map enc := by simp
theorem map_cat {α : Type} [Enc α] {l r : List α} : l.map (enc : α → D) ++ r.map enc = (l ++ r).map enc := by simp
end
end Go.Am
namespace Go.Am
open Go.RowKit (Below)
def D7 (W : World) : Fix := ⟨W, fun b => match W.heap[b]? with
  | some (.cells cs _ _) => cs.size
  | _ => 0⟩
theorem fixOf_new (W : World) (b : Nat) (h : W.heap.size ≤ b) : (D7 W).m b = 0 := by
  unfold D7
  simp only
  rw [Array.getElem?_eq_none h]
theorem fixOf_cell {W : World} {b off : Nat} {u : Value} (h : W.cell? ⟨b, off, none⟩ = some u) : off + 1 ≤ (D7 W).m b := by
  unfold D7
  unfold World.cell? at h
  simp only at h ⊢
  split at h
  · next c _ _ he =>
    simp only [he]
    simp only [Option.isSome_none, Bool.false_eq_true, if_false] at h
    have := (Array.getElem?_eq_some_iff.1 h).1
    omega
  · cases h
def Value.noAgg : Value → Bool
  | .agg _ => false
  | _ => true
theorem cells_noAgg {v : Value} (h : Value.noAgg v = true) : v.cells = #[v] := by
  cases v <;> first | rfl | simp [Value.noAgg] at h
def RdP (P : Program) (t s : Nat) (ag : Bool) (p : D → Prop) : Prop :=
  ∀ (H : Type) (enc : TypeId × Value → H) (W : World) (base fuel : Nat) (cs : List Value) (d : DataW H) (ps : List MemPlace), DataW.trod enc P W base (fun _ => true) true fuel t cs = some (d, ps) →
    ∃ x v, p x ∧ (ag = true → v = .agg cs.toArray) ∧ (ag = false → cs = [v] ∧ Value.noAgg v = true) ∧ cs.length = s ∧ (∀ u ∈ cs, u.oneCell' = true) ∧ R (D7 W) x v
theorem RdP.mono {P : Program} {t s : Nat} {ag : Bool} {p q : D → Prop} (h : RdP P t s ag p) (hpq : ∀ x, p x → q x) : RdP P t s ag q := by
  intro H enc W base fuel cs d ps ht
  obtain ⟨x, v, h1, h2⟩ := h _ enc W base fuel cs d ps ht
  exact ⟨x, v, hpq x h1, h2⟩
theorem trod_int {P : Program} {t fuel : Nat} {k : IntKind} {H : Type} {enc : TypeId × Value → H} {W : World} {base : Nat} {cs : List Value} {x : DataW H × List MemPlace} (ht : P.underlying t = some (.int k))
    (h : DataW.trod enc P W base (fun _ => true) true fuel t cs = some x) : ∃ n, cs = [.int k n] ∧ (Lit.int k n).wf = true := by
  cases fuel with
  | zero => simp [DataW.trod] at h
  | succ fuel =>
    unfold DataW.trod at h
    simp only [ht] at h
    split at h <;> first | (exfalso; simp_all; done) | skip
    all_goals rename_i e
    all_goals injection e with e
    all_goals injection e with e
    all_goals subst e
    all_goals split at h
    all_goals first | (next hk => exact ⟨_, by rw [hk.1], hk.2⟩) | cases h
theorem rd_int {P : Program} {t : Nat} {k : IntKind} (ht : P.underlying t = some (.int k)) : RdP P t 1 false (fun x => ∃ n, x = .int k n ∧ (Lit.int k n).wf = true) := by
  intro H enc W base fuel cs d ps h
  obtain ⟨n, rfl, hw⟩ := trod_int ht h
  exact ⟨.int k n, .int k n, ⟨n, rfl, hw⟩, by simp, fun _ => ⟨rfl, rfl⟩, rfl, by simp [Value.oneCell'], by simp [R]⟩
theorem rd_slice {P : Program} {t e s : Nat} {ag : Bool} {p : D → Prop} (ht : P.underlying t = some (.slice e)) (hs : P.cellsOf e = s) (hpos : 0 < s) (he : RdP P e s ag p) :
    RdP P t 1 false (fun x => ∃ l, x = .list s l ∧ l.length ≤ maxLen ∧ ∀ y ∈ l, p y) := by
  intro H enc W base fuel cs d ps h
  rcases Go.Deep.open_slice ht h with ⟨rfl, hx⟩ | ⟨a, len, cap, m, n, D', Pl, rfl, hb, hl, hm, hmm, hx, hel⟩
  · refine ⟨.list s [], .slice none 0 0, ⟨[], rfl, by simp [maxLen], by simp⟩, by simp, fun _ => ⟨rfl, rfl⟩, rfl, by simp [Value.oneCell'], ?_⟩
    simp only [R]
    exact ⟨none, 0, rfl, by simp, by simp [maxLen], by simp⟩
  · rw [hs] at hel
    have hm' : len ≤ m := by rw [hmm]; simp only [if_true]; exact hl
    have key : ∀ k, k ≤ len → ∃ (xs : List D) (vs : List Value), xs.length = k ∧ (∀ y ∈ xs, p y) ∧ RE (D7 W) s xs vs ∧ ∀ j, j < k * s → W.cell? ⟨a.block, a.off + j, none⟩ = vs[j]? := by
      intro k
      induction k with
      | zero => intro _; exact ⟨[], [], rfl, by simp, by simp [RE], by simp⟩
      | succ k ih =>
        intro hk
        obtain ⟨xs, vs, h1, h2, h3, h4⟩ := ih (by omega)
        obtain ⟨cs', g1, g2⟩ := hel k (by omega)
        obtain ⟨x, v, q1, q2, q3, q4, q5, q6⟩ := he _ enc W base n cs' _ _ g2
        obtain ⟨_, g4, g5⟩ := World.cells?_some g1
        have hvc : v.cells.toList = cs' := by
          cases ag with
          | true => rw [q2 rfl]; rfl
          | false =>
            obtain ⟨q3a, q3b⟩ := q3 rfl
            rw [cells_noAgg q3b, q3a]
        refine ⟨xs ++ [x], vs ++ cs', by simp [h1], ?_, ?_, ?_⟩
        · intro y hy
          rcases List.mem_append.1 hy with hy | hy
          · exact h2 y hy
          · rw [List.mem_singleton] at hy; subst hy; exact q1
        · rw [← hvc]
          refine RE.append h3 (RE.one q6 ?_ ?_)
          · rw [← Array.length_toList, hvc]; exact q4
          · rw [hvc]; exact q5
        · intro j hj
          have hvl : vs.length = k * s := by rw [RE.length h3, h1]
          rcases Nat.lt_or_ge j (k * s) with hlt | hge
          · rw [h4 j hlt, List.getElem?_append_left (by omega)]
          · rw [List.getElem?_append_right (by omega), hvl]
            have hjs : j - k * s < s := by
              rw [Nat.add_mul] at hj
              omega
            rw [← g5 (j - k * s) hjs]
            congr 1
            unfold Addr.add
            by_cases hk0 : k * s = 0
            · rw [if_pos hk0]
              by_cases hj0 : j - k * s = 0
              · rw [if_pos hj0]
                have hsp : a.spot = none := by
                  have h0 := g5 0 hpos
                  have hne : cs'[0]? = some cs'[0] := by simp
                  rw [hne] at h0
                  unfold Addr.add at h0
                  rw [if_pos rfl] at h0
                  simp only [hk0, if_true] at h0
                  unfold World.cell? at h0
                  split at h0
                  · cases hh : a.spot with
                    | none => rfl
                    | some z => simp [hh] at h0
                  · cases h0
                have : j = 0 := by omega
                subst this
                rw [← hsp]
                rfl
              · rw [if_neg hj0]
                simp only [Addr.mk.injEq, true_and, and_true]
                omega
            · rw [if_neg hk0]
              by_cases hj0 : j - k * s = 0
              · rw [if_pos hj0]
                simp only [Addr.mk.injEq, true_and, and_true]
                omega
              · rw [if_neg hj0]
                simp only [Addr.mk.injEq, true_and, and_true]
                omega
    obtain ⟨xs, vs, h1, h2, h3, h4⟩ := key len (Nat.le_refl _)
    refine ⟨.list s xs, .slice (some a) len cap, ⟨xs, rfl, by omega, h2⟩, by simp, fun _ => ⟨rfl, rfl⟩, rfl, by simp [Value.oneCell'], ?_⟩
    simp only [R]
    refine ⟨some a, cap, by rw [h1], by omega, hm, fun hne => ?_⟩
    have hlen : 0 < len := by
      rw [← h1]
      exact List.length_pos_iff.2 hne
    have hvl : vs.length = len * s := by rw [RE.length h3, h1]
    have hsp : a.spot = none := by
      obtain ⟨cs', g1, _⟩ := hel 0 (by omega)
      obtain ⟨_, g4, g5⟩ := World.cells?_some g1
      have h0 := g5 0 hpos
      have hne : cs'[0]? = some cs'[0] := by simp
      rw [hne] at h0
      unfold Addr.add at h0
      simp only [Nat.zero_mul, if_true] at h0
      unfold World.cell? at h0
      split at h0
      · cases hh : a.spot with
        | none => rfl
        | some z => simp [hh] at h0
      · cases h0
    refine ⟨a.block, a.off, vs, by cases a; simp at hsp; subst hsp; rfl, h3, ?_, fun j u hj => ?_⟩
    · have hpos2 : 0 < len * s := Nat.mul_pos hlen hpos
      have hlast := h4 (len * s - 1) (by omega)
      have hl2 : len * s - 1 < vs.length := by omega
      rw [List.getElem?_eq_getElem hl2] at hlast
      have := fixOf_cell hlast
      omega
    · have hjl := (List.getElem?_eq_some_iff.1 hj).1
      have := h4 j (by omega)
      rw [hj] at this
      exact this
theorem Ba {P : Program} {H : Type} {enc : TypeId × Value → H} {W : World} {base b2 t s : Nat} {p : D → Prop} {v : Value} {d : DataW H} {ps : List MemPlace} (h : RdP P t s false p) (hns : ∀ fs, P.underlying t ≠ some (.struct fs)) (hna : ∀ n e, P.underlying t ≠ some (.array n e))
    (hval : Value.okWide P W .any base t v) (hr : DataW.Trod enc P W b2 (fun _ => true) true t v d ps) : ∃ x, p x ∧ R (D7 W) x v := by
  obtain ⟨fuel, hr⟩ := hr
  obtain ⟨x, u, h1, _, h3, _, _, h6⟩ := h _ enc W b2 fuel _ _ _ hr
  obtain ⟨h3a, h3b⟩ := h3 rfl
  have hv : Value.noAgg v = true := by
    cases v with
    | agg cs =>
      unfold Value.okWide at hval
      exfalso
      split at hval
      · next fs he => exact hns _ he
      · next n e he => exact hna _ _ he
      · unfold Cell.okWide at hval
        split at hval <;> try simp_all
        unfold Cell.ok at hval
        split at hval <;> simp_all
    | _ => rfl
  rw [cells_noAgg hv] at h3a
  simp only [List.cons.injEq, and_true] at h3a
  subst h3a
  exact ⟨x, h1, h6⟩
theorem CVRs_of_Rs {F : Fix} : ∀ {l : List D} {vs : List Value}, Rs F l vs → Sb F (l.map .d) vs
  | [], _, h => by simp only [Rs] at h; simpa [Sb] using h
  | x :: l, vs, h => by
    simp only [Rs] at h
    obtain ⟨v, r, rfl, h2, h3⟩ := h
    simp only [List.map_cons, Sb, CVR]
    exact ⟨v, r, rfl, h2, CVRs_of_Rs h3⟩
theorem ownsOf_d : ∀ (l : List D) (vs : List Value), Gx (l.map .d) vs = []
  | [], [] => rfl
  | [], _ :: _ => rfl
  | _ :: l, [] => rfl
  | x :: l, v :: vs => by
    simp only [List.map_cons, Gx]
    exact ownsOf_d l vs
theorem calls_of_good {P : Program} {f : FuncId} {con : Con} (hg : Me P (f, con)) (W : World) (xs : List D) (args : Array Value) (hR : Rs (D7 W) xs args.toList) (hpre : con.pre (xs.map .d)) (hfn : con.fn (xs.map .d) = .d (.bool true)) :
    Calls P f args W fun e W' => e = .returned (.bool true) ∧ Below W.heap.size W W' := by
  have h := hg.2 (D7 W).m W (xs.map .d) args.toList hpre (CVRs_of_Rs hR) (by rw [ownsOf_d]; exact List.nodup_nil) (fixOf_new W)
  rw [show args.toList.toArray = args by simp] at h
  refine h.mono ?_
  rintro e W' ⟨v, m', rfl, hfr, _, _, hres⟩
  change Res _ _ _ (con.fn (xs.map .d)) v at hres
  rw [hfn] at hres
  simp only [Res, Sb, CVR, R] at hres
  obtain ⟨⟨v1, r, hv1, rfl, rfl⟩, _⟩ := hres
  injection hv1 with hv1 _
  subst hv1
  refine ⟨rfl, hfr.os, hfr.tape, hfr.output, hfr.size, fun k hk => hfr.block k hk ?_⟩
  rw [ownsOf_d]
  simp
end Go.Am
namespace Go.Am
open Go.RowKit (Below)
open Go.ChangeShapes Go.WideShapes Go.ChangeAt Go.RowKit
theorem trodAll_below {H : Type} {enc : TypeId × Value → H} {P : Program} (hl : laidOutB P = true) {W W' : World} (hb : Below W.heap.size W W') : ∀ {ts : List TypeId} {vs : List Value} {ds : List (DataW H)} {ps : List MemPlace}, (∀ t ∈ ts, P.readableRec t = true ∧ t < P.types.size) →
    DataW.TrodAll enc P W 0 (fun _ => true) true ts vs ds ps → (∀ x ∈ ps, x.block < W.heap.size) → ∀ sp : Nat → Bool, (∀ x ∈ ps, sp x.block = true) → DataW.TrodAll enc P W' 0 sp true ts vs ds ps
  | [], vs, ds, ps, _, h, _, _, _ => by
    obtain ⟨rfl, rfl, rfl⟩ := trodAll_nil h
    exact trodAll_mk0
  | t :: ts, vs, ds, ps, hr, h, hlt, sp, hsp => by
    obtain ⟨v, vs', d, ds', p, q, rfl, rfl, rfl, h1, h2⟩ := trodAll_cons h
    refine trodAll_cons_mk ?_ (trodAll_below hl hb (fun t ht => hr t (List.mem_cons_of_mem _ ht)) h2 (fun x hx => hlt x (List.mem_append_right _ hx)) sp (fun x hx => hsp x (List.mem_append_right _ hx)))
    obtain ⟨r1, r2⟩ := hr t (by simp)
    exact WideElems.Trod_stays hl r1 r2 h1 (fun x hx => hb.same (hlt x (List.mem_append_left _ hx))) (fun x hx => hsp x (List.mem_append_left _ hx))
theorem trodAll_len2 {H : Type} {enc : TypeId × Value → H} {P : Program} {W : World} {base : Nat} {spare : Nat → Bool} {held : Bool} : ∀ {ts : List TypeId} {vs : List Value} {ds : List (DataW H)} {ps : List MemPlace}, DataW.TrodAll enc P W base spare held ts vs ds ps → ds.length = ts.length
  | [], vs, ds, ps, h => by
    obtain ⟨rfl, rfl, rfl⟩ := trodAll_nil h
    rfl
  | t :: ts, vs, ds, ps, h => by
    obtain ⟨v, vs', d, ds', p, q, rfl, rfl, rfl, h1, h2⟩ := trodAll_cons h
    simp [trodAll_len2 h2]
theorem B8 {P : Program} {f : FuncId} {fn : Func} {con : Con} {s : ChangeSpec} {tb : TypeId} (hg : Me P (f, con)) (hv : s.vars = []) (hl : laidOutB P = true)
    (hr : ∀ t ∈ fn.params.toList, P.readableRec t = true ∧ t < P.types.size) (hres : fn.resultTypes = #[tb]) (htb : P.underlying tb = some .bool)
    (hspec : ∀ (H : Type) (ds : List (DataW H)), ds.length = fn.params.toList.length → s.fn H ds = { results := [.lit (.bool true)], args := ds })
    {H : Type} (enc : TypeId × Value → H) (W : World) (args : Array Value) (ds gs : List (DataW H)) (before : List MemPlace)
    (hread : ∀ ps, DataW.TrodAll enc P W 0 (fun _ => true) true fn.params.toList args.toList ds ps → ∃ xs : List D, Rs (D7 W) xs args.toList ∧ con.pre (xs.map .d) ∧ con.fn (xs.map .d) = .d (.bool true))
    (hW : DataW.Whole enc P fn.params.toList s.vars false W args.toList ds gs before) :
    Calls P f args W fun e W' => ∃ v, e = .returned v ∧ s.post enc P fn false true false false W args v W' := by
  have hW' := hW
  obtain ⟨p, q, hA, hV, rfl, hfz, hnd⟩ := hW
  rw [hv] at hV
  obtain ⟨rfl, rfl⟩ := trodVars_none hV
  obtain ⟨xs, hR, hpre, hfn⟩ := hread p hA
  have hlen := (trodAll_len2 hA)
  refine (calls_of_good hg W xs args hR hpre hfn).mono ?_
  rintro e W' ⟨rfl, hb⟩
  have hlt : ∀ x ∈ p, x.block < W.heap.size := fun x hx => hW'.lt x (by simpa using hx)
  have hsp := hspec H (ds ++ []) (by simpa using hlen)
  rw [List.append_nil] at hsp
  refine ⟨_, rfl, ds, [], p ++ [], [], p, [], hW', ?_, ?_, ?_, hb.frame _, fun h => by cases h⟩
  · rw [List.append_nil, hsp, hres]
    exact trodAll_cons_mk (shut_bool htb _) trodAll_mk0
  · rw [List.append_nil, hsp]
    exact trodAll_below hl hb hr hA hlt _ (fun x hx => by simpa using hlt x hx)
  · rw [List.append_nil, hsp, hv]
    rfl
section
open Enc (enc dec)
def Rdt (P : Program) (t s : Nat) (ag : Bool) (α : Type) [Enc α] (ok : α → Prop) : Prop := RdP P t s ag fun x => ∃ a : α, x = enc a ∧ ok a
theorem rdt_int {P : Program} {t : Nat} (ht : P.underlying t = some (.int .i64)) : Rdt P t 1 false Int (fun a => inR .i64 a) := (rd_int ht).mono fun x h => by
  obtain ⟨n, rfl, hw⟩ := h
  refine ⟨n, rfl, ?_⟩
  show inR .i64 n
  rw [Ku]
  have h := hw
  simp [Lit.wf,IntKind.min,IntKind.max,IntKind.signed,IntKind.bits] at h
  omega
theorem list_enc {α : Type} [Enc α] {ok : α → Prop} : ∀ {l : List D}, (∀ y ∈ l, ∃ a : α, y = enc a ∧ ok a) → ∃ r : List α, l = r.map enc ∧ ∀ a ∈ r, ok a
  | [], _ => ⟨[], rfl, by simp⟩
  | y :: l, h => by
    obtain ⟨a, rfl, ha⟩ := h y (by simp)
    obtain ⟨r, rfl, hr⟩ := list_enc (l := l) fun z hz => h z (List.mem_cons_of_mem _ hz)
    exact ⟨a :: r, rfl, by
      intro b hb
      rcases List.mem_cons.1 hb with rfl | hb
      · exact ha
      · exact hr b hb⟩
theorem rdt_sl {P : Program} {t e s : Nat} {ag : Bool} {α : Type} [Enc α] [Sz α] {ok : α → Prop} (ht : P.underlying t = some (.slice e)) (hs : P.cellsOf e = s) (hz : Sz.sz α = s) (hpos : 0 < s) (he : Rdt P e s ag α ok) :
    Rdt P t 1 false (Sl α) (fun a => a.l.length ≤ maxLen ∧ ∀ y ∈ a.l, ok y) := (rd_slice ht hs hpos he).mono fun x h => by
  obtain ⟨l, rfl, hl, hy⟩ := h
  obtain ⟨r, rfl, hr⟩ := list_enc hy
  rw [List.length_map] at hl
  refine ⟨⟨r⟩, ?_, hl, hr⟩
  show D.list s (r.map enc) = D.list (Sz.sz α) (r.map enc)
  rw [hz]
end
end Go.Am
set_option linter.unusedVariables false
namespace Go.Am
def B3 : Nat → List AV → List AV
  | 0, _ => []
  | n + 1, [] => .dead :: B3 n []
  | n + 1, x :: l => x :: B3 n l
theorem Dp : ∀ (n : Nat) (l : List AV), (B3 n l).length = n
  | 0, _ => rfl
  | n + 1, [] => by simp [B3, Dp n]
  | n + 1, x :: l => by simp [B3, Dp n]
theorem pad16_getD : ∀ (n : Nat) (l : List AV) (t : Nat), t < n → (B3 n l).getD t .dead = l.getD t .dead
  | 0, _, t, h => by omega
  | n + 1, [], 0, _ => by simp [B3]
  | n + 1, [], t + 1, h => by
    have := pad16_getD n [] t (by omega)
    simpa [B3] using this
  | n + 1, x :: l, 0, _ => by simp [B3]
  | n + 1, x :: l, t + 1, h => by
    have := pad16_getD n l t (by omega)
    simpa [B3] using this
def Gs : Nat → AV → List AV → List AV
  | 0, x, [] => [x]
  | n + 1, x, [] => .dead :: Gs n x []
  | 0, x, _ :: l => x :: l
  | n + 1, x, y :: l => y :: Gs n x l
theorem pad16_put : ∀ (n : Nat) (l : List AV) (t : Nat) (x : AV), t < n → (B3 n l).set t x = B3 n (Gs t x l)
  | 0, _, t, _, h => by omega
  | n + 1, [], 0, x, _ => by simp [B3, Gs]
  | n + 1, [], t + 1, x, h => by
    have := pad16_put n [] t x (by omega)
    simpa [B3, Gs] using this
  | n + 1, y :: l, 0, x, _ => by simp [B3, Gs]
  | n + 1, y :: l, t + 1, x, h => by
    have := pad16_put n l t x (by omega)
    simpa [B3, Gs] using this
def fl : List (List AV) → List AV → List AV
  | [], r => r
  | c :: cs, r => B3 16 c ++ fl cs r
def getC : List (List AV) → List AV → Nat → Nat → AV
  | [], r, a, b => r.getD (16 * a + b) .dead
  | c :: _, _, 0, b => c.getD b .dead
  | _ :: cs, r, a + 1, b => getC cs r a b
theorem getD_fl : ∀ (cs : List (List AV)) (r : List AV) (a b : Nat), b < 16 → (fl cs r).getD (16 * a + b) .dead = getC cs r a b
  | [], r, a, b, _ => rfl
  | c :: cs, r, 0, b, hb => by
    simp only [fl, getC, Nat.mul_zero, Nat.zero_add]
    rw [List.getD_eq_getElem?_getD, List.getElem?_append_left (by rw [Dp]; exact hb), ← List.getD_eq_getElem?_getD]
    exact pad16_getD 16 c b hb
  | c :: cs, r, a + 1, b, hb => by
    simp only [fl, getC]
    rw [List.getD_eq_getElem?_getD, List.getElem?_append_right (by rw [Dp]; omega), ← List.getD_eq_getElem?_getD, Dp, show 16 * (a + 1) + b - 16 = 16 * a + b by omega]
    exact getD_fl cs r a b hb
theorem getD_fl' (cs : List (List AV)) (r : List AV) (t : Nat) : (fl cs r).getD t .dead = getC cs r (t / 16) (t % 16) := by
  rw [← getD_fl cs r (t / 16) (t % 16) (Nat.mod_lt _ (by omega)), Nat.div_add_mod]
def setC : List (List AV) → List AV → Nat → Nat → AV → List AV
  | [], r, a, b, x => r.set (16 * a + b) x
  | c :: cs, r, 0, b, x => fl (Gs b x c :: cs) r
  | c :: cs, r, a + 1, b, x => B3 16 c ++ setC cs r a b x
theorem set_flC : ∀ (cs : List (List AV)) (r : List AV) (a b : Nat) (x : AV), b < 16 → (fl cs r).set (16 * a + b) x = setC cs r a b x
  | [], r, a, b, x, _ => rfl
  | c :: cs, r, 0, b, x, hb => by
    simp only [fl, setC, Nat.mul_zero, Nat.zero_add]
    rw [List.set_append_left _ _ (by rw [Dp]; exact hb), pad16_put 16 c b x hb]
  | c :: cs, r, a + 1, b, x, hb => by
    simp only [fl, setC]
    rw [List.set_append_right _ _ (by rw [Dp]; omega), Dp, show 16 * (a + 1) + b - 16 = 16 * a + b by omega, set_flC cs r a b x hb]
def Gb : List (List AV) → List AV → Nat → Nat → AV → List (List AV) × List AV
  | [], r, a, b, x => ([], r.set (16 * a + b) x)
  | c :: cs, r, 0, b, x => (Gs b x c :: cs, r)
  | c :: cs, r, a + 1, b, x => (c :: (Gb cs r a b x).1, (Gb cs r a b x).2)
theorem setC_fl : ∀ (cs : List (List AV)) (r : List AV) (a b : Nat) (x : AV), setC cs r a b x = fl (Gb cs r a b x).1 (Gb cs r a b x).2
  | [], r, a, b, x => rfl
  | c :: cs, r, 0, b, x => rfl
  | c :: cs, r, a + 1, b, x => by
    simp only [setC, Gb, fl]
    rw [setC_fl cs r a b x]
theorem K5 (cs : List (List AV)) (r : List AV) (t : Nat) (x : AV) : (fl cs r).set t x = fl (Gb cs r (t / 16) (t % 16) x).1 (Gb cs r (t / 16) (t % 16) x).2 := by
  rw [← setC_fl, ← set_flC cs r (t / 16) (t % 16) x (Nat.mod_lt _ (by omega)), Nat.div_add_mod]
theorem killK_app (i : Nat) : ∀ (a b : List AV), S7 i (a ++ b) = S7 i a ++ S7 i b
  | [], _ => rfl
  | x :: a, b => by simp [S7, killK_app i a b]
theorem killK_pad (i : Nat) : ∀ (n : Nat) (l : List AV), S7 i (B3 n l) = B3 n (S7 i l)
  | 0, _ => rfl
  | n + 1, [] => by
    have := killK_pad i n []
    simp only [S7] at this
    simp [B3,S7,AV.off,this]
  | n + 1, x :: l => by simp [B3, S7, killK_pad i n l]
def killCs (i : Nat) : List (List AV) → List (List AV)
  | [] => []
  | c :: cs => S7 i c :: killCs i cs
theorem killK_fl (i : Nat) : ∀ (cs : List (List AV)) (r : List AV), S7 i (fl cs r) = fl (killCs i cs) (S7 i r)
  | [], _ => rfl
  | c :: cs, r => by simp only [fl, killCs, killK_app, killK_pad, killK_fl i cs r]
theorem wkT_app {o1 o2 : Gv} : ∀ {a a' b b' : List AV}, wkT o1 o2 a a' → wkT o1 o2 b b' → wkT o1 o2 (a ++ b) (a' ++ b')
  | [], [], _, _, _, h => h
  | [], _ :: _, _, _, h, _ => h.elim
  | _ :: _, [], _, _, h, _ => h.elim
  | x :: a, y :: a', b, b', h, h' => ⟨h.1, wkT_app h.2 h'⟩
theorem wkT_pad {o1 o2 : Gv} : ∀ {n : Nat} {a a' : List AV}, wkT o1 o2 a a' → wkT o1 o2 (B3 n a) (B3 n a')
  | 0, _, _, _ => trivial
  | n + 1, [], [], _ => ⟨by simp [wk1], wkT_pad (a := []) (a' := []) trivial⟩
  | n + 1, [], _ :: _, h => h.elim
  | n + 1, _ :: _, [], h => h.elim
  | n + 1, x :: a, y :: a', h => ⟨h.1, wkT_pad h.2⟩
def Gy (o1 o2 : Gv) : List (List AV) → List (List AV) → Prop
  | [], [] => True
  | c :: cs, d :: ds => wkT o1 o2 c d ∧ Gy o1 o2 cs ds
  | _, _ => False
theorem wkT_fl {o1 o2 : Gv} : ∀ {cs ds : List (List AV)} {r r' : List AV}, Gy o1 o2 cs ds → wkT o1 o2 r r' → wkT o1 o2 (fl cs r) (fl ds r')
  | [], [], _, _, _, h => h
  | [], _ :: _, _, _, h, _ => h.elim
  | _ :: _, [], _, _, h, _ => h.elim
  | c :: cs, d :: ds, r, r', h, h' => wkT_app (wkT_pad h.1) (wkT_fl h.2 h')
theorem Wk.of_fl {cs ds : List (List AV)} {r r' : List AV} {o o' : Gv} (h : Gy o o' cs ds ∧ wkT o o' r r' ∧ wkO o o' o' ∧ wkK o' o) : Wk ⟨fl cs r, o⟩ ⟨fl ds r', o'⟩ :=
  ⟨wkT_fl h.1 h.2.1, h.2.2.1, h.2.2.2⟩
def chk : Nat → List AV → List (List AV) × List AV
  | 0, l => ([], l)
  | n + 1, l => (l.take 16 :: (chk n (l.drop 16)).1, (chk n (l.drop 16)).2)
theorem pad16_full : ∀ (n : Nat) (l : List AV), l.length = n → B3 n l = l
  | 0, [], _ => rfl
  | 0, _ :: _, h => by simp at h
  | n + 1, [], h => by simp at h
  | n + 1, x :: l, h => by simp only [B3, pad16_full n l (by simpa using h)]
theorem chk_fl : ∀ (n : Nat) (l : List AV), 16 * n ≤ l.length → fl (chk n l).1 (chk n l).2 = l
  | 0, l, _ => rfl
  | n + 1, l, h => by
    simp only [chk, fl]
    rw [pad16_full 16 (l.take 16) (by rw [List.length_take]; omega), chk_fl n (l.drop 16) (by rw [List.length_drop]; omega), List.take_append_drop]
theorem Hy {C : Ctx} {c : Code} {Q : AExit → AS → Prop} {t : List AV} {o : Gv} (n : Nat) (hn : 16 * n ≤ t.length) (h : Shut (awp C c Q ⟨fl (chk n t).1 (chk n t).2, o⟩)) : awp C c Q ⟨t, o⟩ := by
  have := h.out
  rw [chk_fl n t hn] at this
  exact this
end Go.Am
set_option linter.unusedVariables false
namespace Go.Am
open Enc (enc dec)
theorem set_getD {α : Type} {l : List α} {i : Nat} {x d : α} (h : l.getD i d = x) (hx : x ≠ d) : l.set i x = l := by
  apply List.ext_getElem?
  intro j
  rw [List.getElem?_set]
  by_cases hij : i = j
  · subst hij
    rw [if_pos rfl]
    by_cases hi : i < l.length
    · rw [if_pos hi]
      rw [List.getD_eq_getElem?_getD, List.getElem?_eq_getElem hi] at h
      rw [List.getElem?_eq_getElem hi, ← h]
      rfl
    · rw [List.getD_eq_getElem?_getD, List.getElem?_eq_none (by omega)] at h
      exact absurd h.symm hx
  · rw [if_neg hij]
theorem sAwp_condT (C : Ctx) (t : Nat) (x y : Code) (Q : AExit → AS → Prop) (T : List AV) (o : Gv) : awp C (.cond (.tmp t) x y) Q ⟨T, o⟩ = (match T.getD t .dead with
    | .d (.bool b) => (b = true → awp C x Q ⟨T.set t (.d (.bool true)), o⟩) ∧ (b = false → awp C y Q ⟨T.set t (.d (.bool false)), o⟩)
    | _ => False) := by
  rw [awp_cond]
  simp only [AS.ev]
  generalize hz : T.getD t .dead = z
  cases z with
  | d x =>
    cases x with
    | bool b =>
      simp only [D.isBool, D.b, true_and, ifB]
      have h := set_getD hz (by simp)
      cases b with
      | true => simp only [h]; simp
      | false => simp only [h]; simp
    | _ => simp [D.isBool]
  | _ => rfl
theorem sAwp_condC (C : Ctx) (b : Bool) (x y : Code) (Q : AExit → AS → Prop) (T : List AV) (o : Gv) : awp C (.cond (.const (.bool b)) x y) Q ⟨T, o⟩ = ((b = true → awp C x Q ⟨T, o⟩) ∧ (b = false → awp C y Q ⟨T, o⟩)) := by
  rw [awp_cond]
  simp only [AS.ev, E3, constD, D.isBool, D.b, true_and, ifB]
theorem sIfG (b want : Bool) (P Q : Prop) : ifG b want P Q = (match want with
    | true => (b = true → P) ∧ (b = false → Q)
    | false => (b = false → P) ∧ (b = true → Q)) := by
  cases b <;> cases want <;> simp [ifG]
theorem sOp (C : Ctx) (ops : List Oper) (o : Oper) (K : AS → Prop) (st : AS) : aOp C ops o K st = (match o.guard with
  | none => aExec C o K st
  | some (j, want) => match Nd ops st j with
    | .b t b => (match want with
      | true => (b = true → aExec C o K ⟨st.tmps.set t (.d (.bool true)), st.objs⟩) ∧ (b = false → K (AS.put ⟨st.tmps.set t (.d (.bool false)), st.objs⟩ o.dst (.d (.tup [])) st.objs))
      | false => (b = false → aExec C o K ⟨st.tmps.set t (.d (.bool false)), st.objs⟩) ∧ (b = true → K (AS.put ⟨st.tmps.set t (.d (.bool true)), st.objs⟩ o.dst (.d (.tup [])) st.objs)))
    | .und => K (AS.put st o.dst (.d (.tup [])) st.objs)
    | .no => False) := by
  unfold aOp
  cases o.guard with
  | none => rfl
  | some p =>
    obtain ⟨j, want⟩ := p
    simp only
    cases Nd ops st j with
    | b t b =>
      simp only [sIfG]
      cases want <;> rfl
    | und => rfl
    | no => rfl
theorem sDraws_nil (C : Ctx) (ops : List Oper) (i : Nat) (acc : List (Nat × List Nat × Bool)) (K : AS → Prop) (st : AS) : B2 C ops i [] acc K st = (okD ops acc = true ∧ K st) := rfl
theorem sDraws_cons (C : Ctx) (ops : List Oper) (i : Nat) (o : Oper) (r : List Oper) (acc : List (Nat × List Nat × Bool)) (K : AS → Prop) (st : AS) : B2 C ops i (o :: r) acc K st = (match o.guard with
    | none => On C o (fun fp ro => B2 C ops (i + 1) r ((i, fp, ro) :: acc) K) st
    | some (j, want) => match Nd ops st j with
      | .b t b => (match want with
        | true => (b = true → On C o (fun fp ro => B2 C ops (i + 1) r ((i, fp, ro) :: acc) K) ⟨st.tmps.set t (.d (.bool true)), st.objs⟩) ∧
            (b = false → B2 C ops (i + 1) r acc K (AS.put ⟨st.tmps.set t (.d (.bool false)), st.objs⟩ o.dst (.d (.tup [])) st.objs))
        | false => (b = false → On C o (fun fp ro => B2 C ops (i + 1) r ((i, fp, ro) :: acc) K) ⟨st.tmps.set t (.d (.bool false)), st.objs⟩) ∧
            (b = true → B2 C ops (i + 1) r acc K (AS.put ⟨st.tmps.set t (.d (.bool true)), st.objs⟩ o.dst (.d (.tup [])) st.objs)))
      | .und => B2 C ops (i + 1) r acc K (AS.put st o.dst (.d (.tup [])) st.objs)
      | .no => False) := by
  rw [B2]
  cases o.guard with
  | none => rfl
  | some p =>
    obtain ⟨j, want⟩ := p
    simp only
    cases Nd ops st j with
    | b t b =>
      simp only [sIfG]
      cases want <;> rfl
    | und => rfl
    | no => rfl
section
variable (a : Option Tmp) (b : Op) (c : TypeId) (d : String) (e : Array Edge) (f : Option (Nat × Bool))
theorem sO1 : (Oper.mk a b c d e f).dst = a := rfl
theorem sO2 : (Oper.mk a b c d e f).op = b := rfl
theorem sO3 : (Oper.mk a b c d e f).type = c := rfl
theorem sO4 : (Oper.mk a b c d e f).guard = f := rfl
end
section
variable (a : TK) (b c : Nat) (d : AV) (e : D) (f : List SK)
theorem sT1 : (TI.mk a b c d e f).kind = a := rfl
theorem sT2 : (TI.mk a b c d e f).size = b := rfl
theorem sT3 : (TI.mk a b c d e f).bytes = c := rfl
theorem sT4 : (TI.mk a b c d e f).zero = d := rfl
theorem sT5 : (TI.mk a b c d e f).zd = e := rfl
theorem sT6 : (TI.mk a b c d e f).eqk = f := rfl
end
section
variable (a : Nat → TI) (b : Nat → Option Con) (c : Nat) (d : Nat → Option BCon) (e : List Nat) (f : Bool)
theorem sC1 : (Ctx.mk a b c d e f).τ = a := rfl
theorem sC2 : (Ctx.mk a b c d e f).Γ = b := rfl
theorem sC3 : (Ctx.mk a b c d e f).dp = c := rfl
theorem sC4 : (Ctx.mk a b c d e f).Δ = d := rfl
theorem sC5 : (Ctx.mk a b c d e f).cuts = e := rfl
theorem sC6 : (Ctx.mk a b c d e f).wr = f := rfl
end
theorem sA1 (a : List AV) (b : Gv) : (AS.mk a b).tmps = a := rfl
theorem sA2 (a : List AV) (b : Gv) : (AS.mk a b).objs = b := rfl
theorem sP1 {α β : Type} (a : α) (b : β) : (a, b).1 = a := rfl
theorem sP2 {α β : Type} (a : α) (b : β) : (a, b).2 = b := rfl
theorem sN1 (a b : List Bool) (p : List CV → Prop) (f : List CV → CV) : (Con.mk a b p f).modes = a := rfl
theorem sN2 (a b : List Bool) (p : List CV → Prop) (f : List CV → CV) : (Con.mk a b p f).outs = b := rfl
theorem sN3 (a b : List Bool) (p : List CV → Prop) (f : List CV → CV) (x : List CV) : (Con.mk a b p f).pre x = p x := rfl
theorem sN4 (a b : List Bool) (p : List CV → Prop) (f : List CV → CV) (x : List CV) : (Con.mk a b p f).fn x = f x := rfl
theorem sR1 {α : Type} (l : List α) : l.toArray.toList = l := rfl
theorem sMapId {α β : Type} (f : α → β) (x : α) (l : List α) : (x :: l).map f = f x :: l.map f := rfl
theorem sMapNil {α β : Type} (f : α → β) : ([] : List α).map f = [] := rfl
theorem sLenC {α : Type} (x : α) (l : List α) : (x :: l).length = l.length + 1 := rfl
theorem sLenN {α : Type} : ([] : List α).length = 0 := rfl
theorem sGet0 {α : Type} (x : α) (l : List α) : (x :: l)[0]? = some x := rfl
theorem sGet1 {α : Type} (x : α) (l : List α) (n : Nat) : (x :: l)[n + 1]? = l[n]? := rfl
theorem sCondT {α : Type} (a b : α) : cond true a b = a := rfl
theorem sCondF {α : Type} (a b : α) : cond false a b = b := rfl
theorem sCl1 (s : Nat) (k : IntKind) (n : Int) : AV.cells false s (.d (.int k n)) = [.d (.int k n)] := rfl
theorem sCl2 (s : Nat) (b : Bool) : AV.cells false s (.d (.bool b)) = [.d (.bool b)] := rfl
theorem sCl3 (s : Nat) (b : List UInt8) : AV.cells false s (.d (.str b)) = [.d (.str b)] := rfl
theorem sCl4 (s : Nat) : AV.cells false s (.d .nilf) = [.d .nilf] := rfl
theorem sCl5 (s : Nat) : AV.cells false s (.d .nilp) = [.d .nilp] := rfl
theorem sCl6 (s m : Nat) (l : List D) : AV.cells false s (.d (.list m l)) = [.d (.list m l)] := rfl
theorem sCl7 (s m : Nat) (x : D) : AV.cells false s (.d (.ptr m x)) = [.d (.ptr m x)] := rfl
theorem sCl8 (s f : Nat) (l : List D) : AV.cells false s (.d (.clo f l)) = [.d (.clo f l)] := rfl
theorem sCl9 {α : Type} [Enc α] [Sz α] (s : Nat) (a : Sl α) : AV.cells false s (.d (enc a)) = [.d (enc a)] := rfl
theorem sCla (ag : Bool) (s i f : Nat) : AV.cells ag s (.ref i f) = [.ref i f] := rfl
theorem sClb (ag : Bool) (s i n e f : Nat) : AV.cells ag s (.rref i n e f) = [.rref i n e f] := rfl
theorem sClc (ag : Bool) (s i n : Nat) : AV.cells ag s (.sl i n) = [.sl i n] := rfl
theorem sClg (ag : Bool) (s i n f : Nat) : AV.cells ag s (.sb i n f) = [.sb i n f] := rfl
theorem sCld (ag : Bool) (s f : Nat) (l : List AV) : AV.cells ag s (.clo f l) = [.clo f l] := rfl
theorem sCle (ag : Bool) (s m : Nat) : AV.cells ag s (.nils m) = [.nils m] := rfl
theorem sClf (ag : Bool) (s : Nat) : AV.cells ag s .dead = [.dead] := rfl
theorem sDec (i : Decidable True) : @decide True i = true := by simp
theorem sDecF (i : Decidable False) : @decide False i = false := by simp
theorem sCv1 (C : Ctx) (h : Nat) (k : IntKind) (n : Int) : E3 C h (.int k n) = .d (.int k n) := rfl
theorem sCv2 (C : Ctx) (h : Nat) (b : Bool) : E3 C h (.bool b) = .d (.bool b) := rfl
theorem sCv3 (C : Ctx) (h : Nat) (b : ByteArray) : E3 C h (.string b) = .d (.str b.data.toList) := rfl
theorem sCv4 (C : Ctx) (h : Nat) : E3 C h .nilFunc = .d .nilf := rfl
theorem sCv5 (C : Ctx) (h : Nat) : E3 C h (.pointer none) = .d .nilp := rfl
theorem sCv6 (C : Ctx) (h : Nat) : E3 C h (.slice none 0 0) = .nils (C.esize h) := rfl
theorem sBy (l : Array UInt8) : (ByteArray.mk l).data = l := rfl
theorem aCallB_of {bc : BCon} {args : List AV} {dst : Option Tmp} {K : AS → Prop} {st : AS} (x : bc.X) (rs : List Nat) (h1 : bc.ok x) (h2 : rnAs rs (bc.args x) = args) (h3 : rs.Nodup) (h4 : rs.length = (bc.post x).length)
    (h5 : Mg rs rs (bc.objs x) st.objs) (h6 : Sp (rs.drop (bc.objs x).length) st.objs) (h7 : Shut (K (AS.put st dst (.d (bc.res x)) (Pd rs rs (bc.post x) st.objs)))) : aCallB bc args dst K st :=
  ⟨x, rs, h1, h2, h3, h4, h5, h6, h7.out⟩
theorem K9 {ops : List Oper} {acc : List (Nat × List Nat × Bool)} (h : okD ops acc = true) : okD ops acc = true := h
theorem sNc0 : ((0 : Nat) : Int) = 0 := rfl
theorem sNc1 : ((1 : Nat) : Int) = 1 := rfl
theorem sEl0 (x : D) (l : List D) : el (x :: l) 0 = x := rfl
theorem sEl1 (x : D) (l : List D) (n : Nat) : el (x :: l) (n + 1) = el l n := rfl
theorem sNc2 : ((2 : Nat) : Int) = 2 := rfl
theorem sNc3 : ((3 : Nat) : Int) = 3 := rfl
theorem sNc4 : ((4 : Nat) : Int) = 4 := rfl
theorem sTn1 : Int.toNat 1 = 1 := rfl
theorem sTn2 : Int.toNat 2 = 2 := rfl
theorem sTn3 : Int.toNat 3 = 3 := rfl
theorem sSc1 (k : IntKind) (n : Int) (f : Nat) (y : D) : D.setCell (.int k n) f y = y := rfl
theorem sSc2 (b : Bool) (f : Nat) (y : D) : D.setCell (.bool b) f y = y := rfl
theorem sSc3 (b : List UInt8) (f : Nat) (y : D) : D.setCell (.str b) f y = y := rfl
theorem sSc4 (m : Nat) (l : List D) (f : Nat) (y : D) : D.setCell (.list m l) f y = y := rfl
theorem sSc5 {α : Type} [Enc α] [Sz α] (a : Sl α) (f : Nat) (y : D) : D.setCell (enc a) f y = y := rfl
theorem sSl {α : Type} (l : List α) : (Sl.mk l).l = l := rfl
theorem K2 (k : Nat) : (NatCast.natCast k : Int) = Int.ofNat k := rfl
theorem Hd {α : Type} [Enc α] {l : List α} {i : Nat} (d : α) (h : i < l.length) : el (l.map enc) i = enc (l.getD i d) := el_map d h
end Go.Am
set_option linter.unusedVariables false
namespace Go.Am
open Enc (enc dec)
theorem Za : type_of% @beginAS.eq_def := @beginAS.eq_def
theorem Zb : type_of% @aExec.eq_def := @aExec.eq_def
theorem Zc : type_of% @S4.eq_def := @S4.eq_def
theorem Zd : type_of% @Nd.eq_def := @Nd.eq_def
theorem Ze : type_of% @AS.put.eq_def := @AS.put.eq_def
theorem Zf : type_of% @aThen.eq_def := @aThen.eq_def
theorem Zg : type_of% @aBlock.eq_def := @aBlock.eq_def
theorem Zh : type_of% @Ctx.one.eq_def := @Ctx.one.eq_def
theorem Zi : type_of% @Fs.eq_def := @Fs.eq_def
theorem Zj : type_of% @Hp.eq_def := @Hp.eq_def
theorem Zk : type_of% @ownKey.eq_def := @ownKey.eq_def
theorem Zl : type_of% @Ow.eq_def := @Ow.eq_def
theorem Zm : type_of% @Iw.eq_def := @Iw.eq_def
theorem Zn : type_of% @Ctx.esize.eq_def := @Ctx.esize.eq_def
theorem Zo : type_of% @Ctx.size.eq_def := @Ctx.size.eq_def
theorem Zp : type_of% @Ctx.ag.eq_def := @Ctx.ag.eq_def
theorem Zq : type_of% @TK.ag.eq_def := @TK.ag.eq_def
theorem Zr : type_of% @Ctx.elemT.eq_def := @Ctx.elemT.eq_def
theorem Zs : type_of% @Ctx.fieldAt.eq_def := @Ctx.fieldAt.eq_def
theorem Zt : type_of% @hPick.eq_def := @hPick.eq_def
theorem Zu : type_of% @I3.eq_def := @I3.eq_def
theorem Zv : type_of% @Ie.eq_def := @Ie.eq_def
theorem Zw : type_of% @A1.eq_def := @A1.eq_def
theorem Zx : type_of% @S8.eq_def := @S8.eq_def
theorem Zy : type_of% @hSlice.eq_def := @hSlice.eq_def
theorem Zz : type_of% @S9.eq_def := @S9.eq_def
theorem Z0 : type_of% @Fj.eq_def := @Fj.eq_def
theorem Z1 : type_of% @I2.eq_def := @I2.eq_def
theorem Z2 : type_of% @hLen.eq_def := @hLen.eq_def
theorem Z3 : type_of% @hMax.eq_def := @hMax.eq_def
theorem Z4 : type_of% @hConv.eq_def := @hConv.eq_def
theorem Z5 : type_of% @Fl.eq_def := @Fl.eq_def
theorem Z6 : type_of% @hCall.eq_def := @hCall.eq_def
theorem Z7 : type_of% @hCallV.eq_def := @hCallV.eq_def
theorem Z8 : type_of% @hBin.eq_def := @hBin.eq_def
theorem Z9 : type_of% @hUn.eq_def := @hUn.eq_def
theorem Qa : type_of% @Pf.eq_def := @Pf.eq_def
theorem Qb : type_of% @outCV.eq_def := @outCV.eq_def
theorem Qc : type_of% @E4.eq_def := @E4.eq_def
theorem Qd : type_of% @mkTup.eq_def := @mkTup.eq_def
theorem Qe : type_of% @mkAgg.eq_def := @mkAgg.eq_def
theorem Qf : type_of% @mkClo.eq_def := @mkClo.eq_def
theorem Qg : type_of% @evO.eq_def := @evO.eq_def
theorem Qh : type_of% @Ax.eq_def := @Ax.eq_def
theorem Qi : type_of% @AV.fits.eq_def := @AV.fits.eq_def
theorem Qj : type_of% @Obj.isBox.eq_def := @Obj.isBox.eq_def
theorem Qk : type_of% @retOk.eq_def := @retOk.eq_def
theorem Ql : type_of% @resAV.eq_def := @resAV.eq_def
theorem Qm : type_of% @Post.eq_def := @Post.eq_def
theorem Qn : type_of% @aExecD.eq_def := @aExecD.eq_def
theorem Qo : type_of% @On.eq_def := @On.eq_def
theorem Qp : type_of% @bOf.eq_def := @bOf.eq_def
theorem Qq : type_of% @rnO.eq_def := @rnO.eq_def
theorem Qr : type_of% @rk.eq_def := @rk.eq_def
theorem Qs : type_of% @PostB.eq_def := @PostB.eq_def
theorem Qt : type_of% @retB.eq_def := @retB.eq_def
theorem Qu : type_of% @packD.eq_def := @packD.eq_def
theorem Qv : type_of% @cutOf.eq_def := @cutOf.eq_def
theorem Qw : type_of% @AS.ev.eq_def := @AS.ev.eq_def
theorem Qx : type_of% @Hz.eq_def := @Hz.eq_def
theorem Qy : type_of% @aOps.eq_def := @aOps.eq_def
theorem Qz : type_of% @keysAll.eq_def := @keysAll.eq_def
theorem Q0 : type_of% @AV.keys.eq_def := @AV.keys.eq_def
theorem Q1 : type_of% @Po.eq_def := @Po.eq_def
theorem Q2 : type_of% @C2.eq_def := @C2.eq_def
theorem Q3 : type_of% @allD.eq_def := @allD.eq_def
theorem Q4 : type_of% @S3.eq_def := @S3.eq_def
theorem Q5 : type_of% @allLt.eq_def := @allLt.eq_def
theorem Q6 : type_of% @Ay.eq_def := @Ay.eq_def
theorem Q7 : type_of% @allFit.eq_def := @allFit.eq_def
theorem Q8 : type_of% @evs.eq_def := @evs.eq_def
theorem Q9 : type_of% @Ph.eq_def := @Ph.eq_def
theorem Ja : type_of% @lk.eq_def := @lk.eq_def
theorem Jb : type_of% @upd.eq_def := @upd.eq_def
theorem Jc : type_of% @lkC.eq_def := @lkC.eq_def
theorem Jd : type_of% @O8.eq_def := @O8.eq_def
theorem Je : type_of% @lkB.eq_def := @lkB.eq_def
theorem Jf : type_of% @E5.eq_def := @E5.eq_def
theorem Jg : type_of% @rnA.eq_def := @rnA.eq_def
theorem Jh : type_of% @rnAs.eq_def := @rnAs.eq_def
theorem Ji : type_of% @Mg.eq_def := @Mg.eq_def
theorem Jj : type_of% @Sp.eq_def := @Sp.eq_def
theorem Jk : type_of% @Pd.eq_def := @Pd.eq_def
theorem Jl : type_of% @hasN.eq_def := @hasN.eq_def
theorem Jm : type_of% @AV.off.eq_def := @AV.off.eq_def
theorem Jn : type_of% @offAll.eq_def := @offAll.eq_def
theorem Jo : type_of% @D3.eq_def := @D3.eq_def
theorem Jp : type_of% @killCs.eq_def := @killCs.eq_def
theorem Jq : type_of% @M1.eq_def := @M1.eq_def
theorem Jr : type_of% @Option.toList.eq_def := @Option.toList.eq_def
theorem Js : type_of% @Ky.eq_def := @Ky.eq_def
theorem Jt : type_of% @Kx.eq_def := @Kx.eq_def
theorem Ju : type_of% @K4.eq_def := @K4.eq_def
theorem Jv : type_of% @S7.eq_1 := @S7.eq_1
theorem Jw : type_of% @S7.eq_2 := @S7.eq_2
theorem Jx : type_of% @Ii.eq_1 := @Ii.eq_1
theorem Jy : type_of% @Ii.eq_2 := @Ii.eq_2
theorem Jz : type_of% @Gs.eq_1 := @Gs.eq_1
theorem J0 : type_of% @Gs.eq_2 := @Gs.eq_2
theorem J1 : type_of% @Gs.eq_3 := @Gs.eq_3
theorem J2 : type_of% @Gs.eq_4 := @Gs.eq_4
theorem J3 : type_of% @getC.eq_1 := @getC.eq_1
theorem J4 : type_of% @getC.eq_2 := @getC.eq_2
theorem J5 : type_of% @getC.eq_3 := @getC.eq_3
theorem J6 : type_of% @Gb.eq_1 := @Gb.eq_1
theorem J7 : type_of% @Gb.eq_2 := @Gb.eq_2
theorem J8 : type_of% @Gb.eq_3 := @Gb.eq_3
theorem J9 : type_of% @Rm.eq_1 := @Rm.eq_1
theorem Xa : type_of% @Rm.eq_2 := @Rm.eq_2
theorem Xb : type_of% @Fi.eq_1 := @Fi.eq_1
theorem Xc : type_of% @Fi.eq_2 := @Fi.eq_2
theorem Xd : type_of% @pur.eq_1 := @pur.eq_1
theorem Xe : type_of% @pur.eq_2 := @pur.eq_2
theorem Xf : type_of% @pur.eq_3 := @pur.eq_3
theorem Xg : type_of% @pur.eq_4 := @pur.eq_4
theorem Xh : type_of% @pur.eq_5 := @pur.eq_5
theorem Xi : type_of% @pur.eq_6 := @pur.eq_6
theorem Xj : type_of% @pur.eq_7 := @pur.eq_7
theorem Xk : type_of% @pur.eq_8 := @pur.eq_8
theorem Xl : type_of% @purs.eq_1 := @purs.eq_1
theorem Xm : type_of% @purs.eq_2 := @purs.eq_2
theorem Xn : type_of% @purs.eq_3 := @purs.eq_3
theorem Xo : type_of% @chk.eq_1 := @chk.eq_1
theorem Xp : type_of% @chk.eq_2 := @chk.eq_2
theorem Xq : type_of% @D.asAgg.eq_1 := @D.asAgg.eq_1
theorem Xr : type_of% @D.setCell.eq_1 := @D.setCell.eq_1
theorem Xs : type_of% @AV.cells.eq_1 := @AV.cells.eq_1
theorem Xt : type_of% @AV.cells.eq_2 := @AV.cells.eq_2
theorem Xu : type_of% @con0.eq_1 := @con0.eq_1
theorem Xv : type_of% @con1.eq_1 := @con1.eq_1
theorem Xw : type_of% @L3.eq_1 := @L3.eq_1
theorem Xx : type_of% @con3.eq_1 := @con3.eq_1
theorem Xy : type_of% @B5.eq_1 := @B5.eq_1
theorem Xz : type_of% @con3t.eq_1 := @con3t.eq_1
theorem X0 : type_of% @awp_skip := @awp_skip
theorem X1 : type_of% @awp_region := @awp_region
theorem X2 : type_of% @awp_draw := @awp_draw
theorem X3 : type_of% @awp_seq := @awp_seq
theorem X4 : type_of% @sAwp_condT := @sAwp_condT
theorem X5 : type_of% @sAwp_condC := @sAwp_condC
theorem X6 : type_of% @awp_block := @awp_block
theorem X7 : type_of% @awp_loop := @awp_loop
theorem X8 : type_of% @awp_exit := @awp_exit
theorem X9 : type_of% @awp_ret := @awp_ret
theorem Wa : type_of% @sOp := @sOp
theorem Wb : type_of% @sDraws_nil := @sDraws_nil
theorem Wc : type_of% @sDraws_cons := @sDraws_cons
theorem Wd : type_of% @sO1 := @sO1
theorem We : type_of% @sO2 := @sO2
theorem Wf : type_of% @sO3 := @sO3
theorem Wg : type_of% @sO4 := @sO4
theorem Wh : type_of% @sT1 := @sT1
theorem Wi : type_of% @sT2 := @sT2
theorem Wj : type_of% @sT3 := @sT3
theorem Wl : type_of% @sT4 := @sT4
theorem Wm : type_of% @sT5 := @sT5
theorem Wn : type_of% @sT6 := @sT6
theorem Wo : type_of% @sC1 := @sC1
theorem Wp : type_of% @sC2 := @sC2
theorem Wq : type_of% @sC3 := @sC3
theorem Wr : type_of% @sC4 := @sC4
theorem Ws : type_of% @sC5 := @sC5
theorem Wt : type_of% @sC6 := @sC6
theorem Wu : type_of% @sA1 := @sA1
theorem Wv : type_of% @sA2 := @sA2
theorem Ww : type_of% @sP1 := @sP1
theorem Wx : type_of% @sP2 := @sP2
theorem Wy : type_of% @sN1 := @sN1
theorem Wz : type_of% @sN2 := @sN2
theorem W0 : type_of% @sN3 := @sN3
theorem W1 : type_of% @sN4 := @sN4
theorem W2 : type_of% @sR1 := @sR1
theorem W3 : type_of% @sMapId := @sMapId
theorem W4 : type_of% @sMapNil := @sMapNil
theorem W5 : type_of% @sLenC := @sLenC
theorem W6 : type_of% @sLenN := @sLenN
theorem W7 : type_of% @sGet0 := @sGet0
theorem W8 : type_of% @sGet1 := @sGet1
theorem W9 : type_of% @sCondT := @sCondT
theorem Ya : type_of% @sCondF := @sCondF
theorem Yb : type_of% @getD_fl' := @getD_fl'
theorem Yc : type_of% @K5 := @K5
theorem Yd : type_of% @killK_fl := @killK_fl
theorem Ye : type_of% @Kv := @Kv
theorem Yf : type_of% @i_int := @i_int
theorem Yg : type_of% @b_bool := @b_bool
theorem Yh : type_of% @s_str := @s_str
theorem Yi : type_of% @l_list := @l_list
theorem Yj : type_of% @isInt_int := @isInt_int
theorem Yk : type_of% @Ak := @Ak
theorem Yl : type_of% @isStr_str := @isStr_str
theorem Ym : type_of% @Aj := @Aj
theorem Yn : type_of% @Fz := @Fz
theorem Yo : type_of% @fits_int := @fits_int
theorem Yp : type_of% @fits_bool := @fits_bool
theorem Yq : type_of% @fits_str := @fits_str
theorem Yr : type_of% @fits_list := @fits_list
theorem Ys : type_of% @fits_agg := @fits_agg
theorem Yt : type_of% @fits_ptr := @fits_ptr
theorem Yu : type_of% @fits_clo := @fits_clo
theorem Yv : type_of% @fits_nilp := @fits_nilp
theorem Yw : type_of% @fits_nilf := @fits_nilf
theorem Yx : type_of% @cell_int := @cell_int
theorem Yy : type_of% @cell_bool := @cell_bool
theorem Yz : type_of% @cell_str := @cell_str
theorem Y0 : type_of% @cell_list := @cell_list
theorem Y1 : type_of% @cell_clo := @cell_clo
theorem Y2 : type_of% @cell_ptr := @cell_ptr
theorem Y3 : type_of% @cell_agg := @cell_agg
theorem Y4 : type_of% @encI_def := @encI_def
theorem Y5 : type_of% @encB_def := @encB_def
theorem Y6 : type_of% @encS_def := @encS_def
theorem Y7 : type_of% @l_enc := @l_enc
theorem Y8 : type_of% @I0 := @I0
theorem Y9 : type_of% @fits_encL := @fits_encL
theorem Va : type_of% @cell_encL := @cell_encL
theorem Vb : type_of% @szI := @szI
theorem Vc : type_of% @szB := @szB
theorem Vd : type_of% @szS := @szS
theorem Ve : type_of% @szL := @szL
theorem Vf : type_of% @List.getD_cons_zero := @List.getD_cons_zero
theorem Vg : type_of% @List.getD_cons_succ := @List.getD_cons_succ
theorem Vh : type_of% @List.set_cons_zero := @List.set_cons_zero
theorem Vi : type_of% @List.set_cons_succ := @List.set_cons_succ
theorem Vj : type_of% @List.cons_append := @List.cons_append
theorem Vk : type_of% @List.nil_append := @List.nil_append
theorem Vl : type_of% @List.take_succ_cons := @List.take_succ_cons
theorem Vm : type_of% @List.take_zero := @List.take_zero
theorem Vn : type_of% @List.drop_succ_cons := @List.drop_succ_cons
theorem Vo : type_of% @List.drop_zero := @List.drop_zero
theorem Vp : type_of% @dec_int := @dec_int
theorem Vq : type_of% @dec_bool := @dec_bool
theorem Vr : type_of% @dec_str := @dec_str
theorem Vs : type_of% @dec_encE := @dec_encE
theorem Vt : type_of% @dec_list := @dec_list
theorem Vu : type_of% @Dq := @Dq
theorem Vv : type_of% @isE_int := @isE_int
theorem Vw : type_of% @isE_bool := @isE_bool
theorem Vx : type_of% @isE_str := @isE_str
theorem Vy : type_of% @isE_encE := @isE_encE
theorem Vz : type_of% @Bool.not_true := @Bool.not_true
theorem V0 : type_of% @Bool.not_false := @Bool.not_false
theorem V1 : type_of% @Bool.not_not := @Bool.not_not
theorem V3 : type_of% @Int.toNat_natCast := @Int.toNat_natCast
theorem V4 : type_of% @Int.toNat_zero := @Int.toNat_zero
theorem V5 : type_of% @shut_eq := @shut_eq
theorem V6 : type_of% @SlE := @SlE
theorem V7 : type_of% @sSl := @sSl
theorem V8 : type_of% @sEl0 := @sEl0
theorem V9 : type_of% @sEl1 := @sEl1
theorem Ua : type_of% @sNc2 := @sNc2
theorem Ub : type_of% @sNc3 := @sNc3
theorem Uc : type_of% @sNc4 := @sNc4
theorem Ud : type_of% @sTn1 := @sTn1
theorem Ue : type_of% @sTn2 := @sTn2
theorem Uf : type_of% @sTn3 := @sTn3
theorem Ug : type_of% @sSc1 := @sSc1
theorem Uh : type_of% @sSc2 := @sSc2
theorem Ui : type_of% @sSc3 := @sSc3
theorem Uj : type_of% @sSc4 := @sSc4
theorem Uk : type_of% @sSc5 := @sSc5
theorem Ul : type_of% @sNc0 := @sNc0
theorem Um : type_of% @sNc1 := @sNc1
theorem Un : type_of% @sDec := @sDec
theorem Uo : type_of% @sDecF := @sDecF
theorem Uq : type_of% @sCv1 := @sCv1
theorem Ur : type_of% @sCv2 := @sCv2
theorem Us : type_of% @sCv3 := @sCv3
theorem Ut : type_of% @sCv4 := @sCv4
theorem Uu : type_of% @sCv5 := @sCv5
theorem Uv : type_of% @sCv6 := @sCv6
theorem Uw : type_of% @sBy := @sBy
theorem Ux : type_of% @Bool.and_true := @Bool.and_true
theorem Uy : type_of% @Bool.true_and := @Bool.true_and
theorem Uz : type_of% @Bool.and_false := @Bool.and_false
theorem U0 : type_of% @Bool.false_and := @Bool.false_and
theorem U1 : type_of% @sCl1 := @sCl1
theorem U3 : type_of% @sCl2 := @sCl2
theorem U4 : type_of% @sCl3 := @sCl3
theorem U5 : type_of% @sCl4 := @sCl4
theorem U6 : type_of% @sCl5 := @sCl5
theorem U7 : type_of% @sCl6 := @sCl6
theorem U8 : type_of% @sCl7 := @sCl7
theorem U9 : type_of% @sCl8 := @sCl8
theorem Ka : type_of% @sCl9 := @sCl9
theorem Kb : type_of% @sCla := @sCla
theorem Kc : type_of% @sClb := @sClb
theorem Kd : type_of% @sClc := @sClc
theorem Ke : type_of% @sCld := @sCld
theorem Kf : type_of% @sCle := @sCle
theorem Kg : type_of% @sClf := @sClf
theorem Kh : type_of% @Bool.true_eq_false := @Bool.true_eq_false
theorem Ki : type_of% @Bool.false_eq_true := @Bool.false_eq_true
theorem Kj : type_of% @true_and := @true_and
theorem Kk : type_of% @and_true := @and_true
theorem Kl : type_of% @and_assoc := @and_assoc
theorem Km : type_of% @List.length_map := @List.length_map
theorem Kn : type_of% @List.append_nil := @List.append_nil
theorem Ko : type_of% @List.getD_nil := @List.getD_nil
theorem Kq : type_of% @extStep.eq_def := @extStep.eq_def
theorem Kr : type_of% @sClg := @sClg
theorem Ks : type_of% @nilOf.eq_def := @nilOf.eq_def
theorem Kt : type_of% @nilArg.eq_def := @nilArg.eq_def
theorem nc2 : type_of% @Int.ofNat_eq_natCast := @Int.ofNat_eq_natCast
theorem Gg : (type_of% @List.length_cons.{0}) ∧ (type_of% @List.length_nil.{0}) ∧ (type_of% @List.cons_append.{0}) ∧ (type_of% @List.nil_append.{0}) ∧ (type_of% @and_assoc) ∧ (type_of% @true_and) ∧ (type_of% @and_true) ∧ (type_of% @List.map_cons.{0, 0}) ∧ (type_of% @List.map_nil.{0, 0}) ∧ (type_of% @isInt_int) ∧ (type_of% @Ak) ∧ (type_of% @isStr_str) ∧ (type_of% @Aj) ∧ (type_of% @Fz) ∧ (type_of% @i_int) ∧ (type_of% @b_bool) ∧ (type_of% @s_str) ∧ (type_of% @l_list) ∧ (type_of% @fits_int) ∧ (type_of% @fits_bool) ∧ (type_of% @fits_str) ∧ (type_of% @fits_list) ∧ (type_of% @fits_agg) ∧ (type_of% @fits_ptr) ∧ (type_of% @fits_clo) ∧ (type_of% @fits_nilp) ∧ (type_of% @fits_nilf) ∧ (type_of% @cell_int) ∧ (type_of% @cell_bool) ∧ (type_of% @cell_str) ∧ (type_of% @cell_list) ∧ (type_of% @cell_clo) ∧ (type_of% @cell_ptr) ∧ (type_of% @cell_agg) ∧ (type_of% @encI_def) ∧ (type_of% @encB_def) ∧ (type_of% @encS_def) ∧ (type_of% @i_enc) ∧ (type_of% @b_enc) ∧ (type_of% @s_enc) ∧ (type_of% @isInt_enc) ∧ (type_of% @isBool_enc) ∧ (type_of% @isStr_enc) ∧ (type_of% @fits_encI) ∧ (type_of% @cell_encI) ∧ (type_of% @fits_encB) ∧ (type_of% @cell_encB) ∧ (type_of% @fits_encS) ∧ (type_of% @cell_encS) ∧ (type_of% @isAnyInt_enc) ∧ (type_of% @l_enc) ∧ (type_of% @I0) ∧ (type_of% @fits_encL) ∧ (type_of% @cell_encL) ∧ (type_of% @dec_int) ∧ (type_of% @dec_bool) ∧ (type_of% @dec_str) ∧ (type_of% @dec_encE) ∧ (type_of% @isE_int) ∧ (type_of% @isE_bool) ∧ (type_of% @isE_str) ∧ (type_of% @isE_encE) ∧ (type_of% @dec_list) ∧ (type_of% @isE_list) ∧ (type_of% @isE_map) ∧ (type_of% @Dq) ∧ (type_of% @Nr) ∧ (type_of% @Hg) ∧ (type_of% @D5) ∧ (type_of% @Dr) ∧ (type_of% @szI) ∧ (type_of% @szB) ∧ (type_of% @szS) ∧ (type_of% @szL) ∧ (type_of% @boolE) ∧ (type_of% @intE) ∧ (type_of% @strE) ∧ (type_of% @listE) ∧ (type_of% @encE) ∧ (type_of% @SlE) ∧ (type_of% @List.length_map.{0, 0}) ∧ (type_of% @List.length_append.{0}) ∧ (type_of% @List.length_replicate.{0}) ∧ (type_of% @Int.toNat_natCast) ∧ (type_of% @Bool.not_true) ∧ (type_of% @Bool.not_false) ∧ (type_of% @Bool.not_not) ∧ (type_of% @decide_true) ∧ (type_of% @decide_false) ∧ (type_of% @Bool.and_true) ∧ (type_of% @Bool.true_and) ∧ (type_of% @Bool.and_false) ∧ (type_of% @Bool.false_and) ∧ (type_of% @Bool.or_true) ∧ (type_of% @Bool.true_or) ∧ (type_of% @Bool.or_false) ∧ (type_of% @Bool.false_or) ∧ (type_of% @List.length_singleton.{0}) ∧ (type_of% @decide_eq_true_eq) ∧ (type_of% @decide_eq_false_iff_not) ∧ (type_of% @beq_iff_eq.{0}) ∧ (type_of% @beq_eq_false_iff_ne.{0}) ∧ (type_of% @bne_iff_ne.{0}) ∧ (type_of% @bne_eq_false_iff_eq.{0}) ∧ (type_of% @Bool.not_eq_true') ∧ (type_of% @Bool.not_eq_false') ∧ (type_of% @forall_const.{1}) ∧ (type_of% @true_imp_iff) ∧ (type_of% @false_imp_iff) ∧ (type_of% @if_true.{1}) ∧ (type_of% @if_false.{1}) ∧ (type_of% @and_self) ∧ (type_of% @or_self) ∧ (type_of% @not_true) ∧ (type_of% @not_false_eq_true) ∧ (type_of% @List.append_nil.{0}) ∧ (type_of% @D.bool.injEq) ∧ (type_of% @D.int.injEq) ∧ (type_of% @D.str.injEq) ∧ (type_of% @D.list.injEq) ∧ (type_of% @D.agg.injEq) ∧ (type_of% @bne_self_eq_false.{0}) ∧ (type_of% @CV.d.injEq) ∧ (type_of% @CV.own.injEq) ∧ (type_of% @CV.tup.injEq) ∧ (type_of% @List.cons.injEq.{0}) ∧ (type_of% @List.toList_toArray.{0}) ∧ (type_of% @Option.some.injEq.{0}) ∧ (type_of% @Prod.mk.injEq.{0, 0}) ∧ (type_of% @List.take_succ_cons.{0}) ∧ (type_of% @List.take_zero.{0}) ∧ (type_of% @List.drop_succ_cons.{0}) ∧ (type_of% @List.drop_zero.{0}) ∧ (type_of% @List.getD_nil.{0}) ∧ (type_of% @map_snoc) ∧ (type_of% @map_snocI) ∧ (type_of% @map_snocB) ∧ (type_of% @map_snocS) ∧ (type_of% @map_cat) ∧ (type_of% @List.not_mem_nil.{0}) ∧ (type_of% @false_implies) ∧ (type_of% @implies_true.{1}) ∧ (type_of% @List.mem_cons.{0}) ∧ (type_of% @or_false) ∧ (type_of% @forall_eq_or_imp.{1}) ∧ (type_of% @forall_eq.{1}) ∧ (type_of% @ne_eq.{1}) ∧ (type_of% @cond_true.{1}) ∧ (type_of% @cond_false.{1}) ∧ (type_of% @Bool.false_eq_true) := ⟨@List.length_cons.{0}, @List.length_nil.{0}, @List.cons_append.{0}, @List.nil_append.{0}, @and_assoc, @true_and, @and_true, @List.map_cons.{0, 0}, @List.map_nil.{0, 0}, @isInt_int, @Ak, @isStr_str, @Aj, @Fz, @i_int, @b_bool, @s_str, @l_list, @fits_int, @fits_bool, @fits_str, @fits_list, @fits_agg, @fits_ptr, @fits_clo, @fits_nilp, @fits_nilf, @cell_int, @cell_bool, @cell_str, @cell_list, @cell_clo, @cell_ptr, @cell_agg, @encI_def, @encB_def, @encS_def, @i_enc, @b_enc, @s_enc, @isInt_enc, @isBool_enc, @isStr_enc, @fits_encI, @cell_encI, @fits_encB, @cell_encB, @fits_encS, @cell_encS, @isAnyInt_enc, @l_enc, @I0, @fits_encL, @cell_encL, @dec_int, @dec_bool, @dec_str, @dec_encE, @isE_int, @isE_bool, @isE_str, @isE_encE, @dec_list, @isE_list, @isE_map, @Dq, @Nr, @Hg, @D5, @Dr, @szI, @szB, @szS, @szL, @boolE, @intE, @strE, @listE, @encE, @SlE, @List.length_map.{0, 0}, @List.length_append.{0}, @List.length_replicate.{0}, @Int.toNat_natCast, @Bool.not_true, @Bool.not_false, @Bool.not_not, @decide_true, @decide_false, @Bool.and_true, @Bool.true_and, @Bool.and_false, @Bool.false_and, @Bool.or_true, @Bool.true_or, @Bool.or_false, @Bool.false_or, @List.length_singleton.{0}, @decide_eq_true_eq, @decide_eq_false_iff_not, @beq_iff_eq.{0}, @beq_eq_false_iff_ne.{0}, @bne_iff_ne.{0}, @bne_eq_false_iff_eq.{0}, @Bool.not_eq_true', @Bool.not_eq_false', @forall_const.{1}, @true_imp_iff, @false_imp_iff, @if_true.{1}, @if_false.{1}, @and_self, @or_self, @not_true, @not_false_eq_true, @List.append_nil.{0}, @D.bool.injEq, @D.int.injEq, @D.str.injEq, @D.list.injEq, @D.agg.injEq, @bne_self_eq_false.{0}, @CV.d.injEq, @CV.own.injEq, @CV.tup.injEq, @List.cons.injEq.{0}, @List.toList_toArray.{0}, @Option.some.injEq.{0}, @Prod.mk.injEq.{0, 0}, @List.take_succ_cons.{0}, @List.take_zero.{0}, @List.drop_succ_cons.{0}, @List.drop_zero.{0}, @List.getD_nil.{0}, @map_snoc, @map_snocI, @map_snocB, @map_snocS, @map_cat, @List.not_mem_nil.{0}, @false_implies, @implies_true.{1}, @List.mem_cons.{0}, @or_false, @forall_eq_or_imp.{1}, @forall_eq.{1}, @ne_eq.{1}, @cond_true.{1}, @cond_false.{1}, @Bool.false_eq_true⟩
end Go.Am
set_option linter.unusedSimpArgs false
set_option linter.unusedVariables false
set_option maxHeartbeats 1000000
namespace Go.Am.Hit
open Go.Proofs
open Enc (enc dec)
def tt : List (Nat × TI) := [(2, ⟨.int .i64, 1, 8, .d (.int .i64 0), .int .i64 0, []⟩), (3, ⟨.int .i64, 1, 8, .d (.int .i64 0), .int .i64 0, []⟩), (4, ⟨.bool, 1, 1, .d (.bool false), .bool false, []⟩), (5, ⟨.int .u8, 1, 1, .d (.int .u8 0), .int .u8 0, []⟩), (9, ⟨.str, 1, 16, .d (.str []), .str [], []⟩), (21, ⟨.int .i32, 1, 4, .d (.int .i32 0), .int .i32 0, []⟩), (22, ⟨.slice 29, 1, 24, .nils 1, .list 1 [], []⟩), (23, ⟨.func, 1, 8, .d .nilf, .nilf, []⟩), (24, ⟨.func, 1, 8, .d .nilf, .nilf, []⟩), (25, ⟨.int .i64, 1, 8, .d (.int .i64 0), .int .i64 0, []⟩), (27, ⟨.func, 1, 8, .d .nilf, .nilf, []⟩), (28, ⟨.func, 1, 8, .d .nilf, .nilf, []⟩), (29, ⟨.slice 3, 1, 24, .nils 1, .list 1 [], []⟩), (30, ⟨.func, 1, 8, .d .nilf, .nilf, []⟩), (31, ⟨.func, 1, 8, .d .nilf, .nilf, []⟩), (32, ⟨.func, 1, 8, .d .nilf, .nilf, []⟩), (33, ⟨.func, 1, 8, .d .nilf, .nilf, []⟩), (34, ⟨.func, 1, 8, .d .nilf, .nilf, []⟩), (35, ⟨.func, 1, 8, .d .nilf, .nilf, []⟩), (36, ⟨.func, 1, 8, .d .nilf, .nilf, []⟩), (37, ⟨.func, 1, 8, .d .nilf, .nilf, []⟩), (38, ⟨.func, 1, 8, .d .nilf, .nilf, []⟩), (39, ⟨.func, 1, 8, .d .nilf, .nilf, []⟩), (40, ⟨.func, 1, 8, .d .nilf, .nilf, []⟩), (41, ⟨.func, 1, 8, .d .nilf, .nilf, []⟩), (42, ⟨.func, 1, 8, .d .nilf, .nilf, []⟩), (43, ⟨.func, 1, 8, .d .nilf, .nilf, []⟩), (44, ⟨.func, 1, 8, .d .nilf, .nilf, []⟩), (45, ⟨.func, 1, 8, .d .nilf, .nilf, []⟩), (46, ⟨.func, 1, 8, .d .nilf, .nilf, []⟩), (47, ⟨.func, 1, 8, .d .nilf, .nilf, []⟩), (49, ⟨.func, 1, 8, .d .nilf, .nilf, []⟩), (50, ⟨.func, 1, 8, .d .nilf, .nilf, []⟩), (51, ⟨.func, 1, 8, .d .nilf, .nilf, []⟩), (52, ⟨.func, 1, 8, .d .nilf, .nilf, []⟩), (53, ⟨.func, 1, 8, .d .nilf, .nilf, []⟩), (54, ⟨.func, 1, 8, .d .nilf, .nilf, []⟩), (55, ⟨.func, 1, 8, .d .nilf, .nilf, []⟩), (56, ⟨.int .u64, 1, 8, .d (.int .u64 0), .int .u64 0, []⟩), (57, ⟨.func, 1, 8, .d .nilf, .nilf, []⟩), (58, ⟨.func, 1, 8, .d .nilf, .nilf, []⟩), (59, ⟨.func, 1, 8, .d .nilf, .nilf, []⟩), (60, ⟨.func, 1, 8, .d .nilf, .nilf, []⟩), (61, ⟨.func, 1, 8, .d .nilf, .nilf, []⟩), (62, ⟨.func, 1, 8, .d .nilf, .nilf, []⟩), (63, ⟨.int .i64, 1, 8, .d (.int .i64 0), .int .i64 0, []⟩), (65, ⟨.func, 1, 8, .d .nilf, .nilf, []⟩), (66, ⟨.func, 1, 8, .d .nilf, .nilf, []⟩), (67, ⟨.func, 1, 8, .d .nilf, .nilf, []⟩), (68, ⟨.func, 1, 8, .d .nilf, .nilf, []⟩), (69, ⟨.func, 1, 8, .d .nilf, .nilf, []⟩), (70, ⟨.int .u32, 1, 4, .d (.int .u32 0), .int .u32 0, []⟩), (71, ⟨.func, 1, 8, .d .nilf, .nilf, []⟩), (72, ⟨.int .u64, 1, 8, .d (.int .u64 0), .int .u64 0, []⟩), (73, ⟨.int .u64, 1, 8, .d (.int .u64 0), .int .u64 0, []⟩), (74, ⟨.func, 1, 8, .d .nilf, .nilf, []⟩), (75, ⟨.func, 1, 8, .d .nilf, .nilf, []⟩), (76, ⟨.func, 1, 8, .d .nilf, .nilf, []⟩), (77, ⟨.ptr 3, 1, 8, .d .nilp, .nilp, []⟩), (78, ⟨.func, 1, 8, .d .nilf, .nilf, []⟩), (79, ⟨.func, 1, 8, .d .nilf, .nilf, []⟩), (80, ⟨.ptr 73, 1, 8, .d .nilp, .nilp, []⟩), (82, ⟨.func, 1, 8, .d .nilf, .nilf, []⟩), (83, ⟨.func, 1, 8, .d .nilf, .nilf, []⟩), (89, ⟨.func, 1, 8, .d .nilf, .nilf, []⟩), (92, ⟨.func, 1, 8, .d .nilf, .nilf, []⟩), (93, ⟨.ptr 5, 1, 8, .d .nilp, .nilp, []⟩)]
def tab : Nat → TI := lkT tt
theorem Ga : tab 3 = ⟨.int .i64, 1, 8, .d (.int .i64 0), .int .i64 0, []⟩ := rfl
theorem G5 : tab 4 = ⟨.bool, 1, 1, .d (.bool false), .bool false, []⟩ := rfl
theorem K8 : tab 22 = ⟨.slice 29, 1, 24, .nils 1, .list 1 [], []⟩ := rfl
theorem M0 : tab 25 = ⟨.int .i64, 1, 8, .d (.int .i64 0), .int .i64 0, []⟩ := rfl
theorem Kz : tab 29 = ⟨.slice 3, 1, 24, .nils 1, .list 1 [], []⟩ := rfl
theorem Dm : tab 30 = ⟨.func, 1, 8, .d .nilf, .nilf, []⟩ := rfl
theorem tab32 : tab 32 = ⟨.func, 1, 8, .d .nilf, .nilf, []⟩ := rfl
theorem tab44 : tab 44 = ⟨.func, 1, 8, .d .nilf, .nilf, []⟩ := rfl
theorem tab53 : tab 53 = ⟨.func, 1, 8, .d .nilf, .nilf, []⟩ := rfl
theorem tab56 : tab 56 = ⟨.int .u64, 1, 8, .d (.int .u64 0), .int .u64 0, []⟩ := rfl
theorem H8 : Bd Try.prog tab := tabOk_of (by kernel_rfl)
theorem G4 : Try.prog.follows .mixedOrders = true := by kernel_rfl
abbrev Lo (n : Nat) : Prop := n ≤ 9223372036854775807
def inB (l : List Int) (n : Int) : Bool := l.any fun x => x == n
def Hh : Con := L3 (fun (l : Sl Int) (_ : Int) => Lo l.l.length) (fun l n => inB l.l n)
noncomputable def R3 : Ctx := ⟨tab, lkC [], 60, lkB [], [], false⟩
theorem Og : R3.τ = tab := rfl
theorem Oi : R3.Γ = lkC [] := rfl
theorem Oh : R3.dp = 60 := rfl
theorem Oj : R3.Δ = lkB [] := rfl
theorem Of : R3.cuts = [] := rfl
theorem Oe : R3.wr = false := rfl
theorem good_In08 : Me Try.prog (34, Hh) := by
  refine ⟨Gj Try.func34 (by kernel_rfl) rfl, ?_⟩
  have K : Hq Try.prog R3 := Gq H8 G4 (by simp) (by simp)
  obtain ⟨c, hc⟩ : ∃ c, Try.f34.body = some c := ⟨_, rfl⟩
  refine Gu K Try.func34 hc [.tmp 4] rfl 18 rfl (fun cvs hpre => ?_)
  change Hh.pre cvs at hpre
  unfold Hh at hpre
  obtain ⟨⟨l⟩, n, rfl, hl⟩ := Hx hpre
  simp only at hl
  simp only [Try.f34, Option.some.injEq] at hc
  subst hc
  (sym =>
   simp [Og,Oi,Oh,Oj,Of,Oe,Hh.eq_def,Za,Zb,Zc,Ze,Zf,Zg,Zn,Zo,Zp,Zq,Zr,Zs,Zv,Zx,Z2,Z8,Z9,Qa,Qe,Qi,Qj,Qk,Ql,Qm,Qn,Qp,Qv,Qw,Qy,Q1,Q3,Q8,Ja,Jb,Jc,Jd,Je,Jl,Jq,Jr,Js,Jt,Ju,Jx,Jy,Xb,Xc,Xd,Xe,Xf,Xg,Xh,Xi,Xj,Xk,Xl,Xm,Xn,Xq,Xs,Xt,Xu,Xv,Xw,Xx,Xy,Xz,X0,X1,X2,X3,X4,X5,X6,X7,X8,X9,Wa,Wd,We,Wf,Wg,Wh,Wi,Wj,Wl,Wm,Wn,Wo,Wp,Wq,Wr,Ws,Wt,Wu,Wv,Ww,Wx,Wy,Wz,W0,W1,W2,W3,W4,W5,W6,W7,W8,Ye,Yf,Yg,Yh,Yi,Yj,Yk,Yl,Ym,Yn,Yo,Yp,Yq,Yr,Ys,Yt,Yu,Yv,Yw,Yx,Yy,Yz,Y0,Y1,Y2,Y3,Y4,Y5,Y6,Y7,Y8,Y9,Va,Vb,Vc,Vd,Ve,Vf,Vg,Vh,Vi,Vj,Vk,Vl,Vm,Vn,Vo,Vp,Vq,Vr,Vs,Vt,Vu,Vv,Vw,Vx,Vy,Vz,V0,V1,V3,V4,V5,V6,V7,V8,V9,Ua,Ub,Uc,Ud,Ue,Uf,Ul,Um,Uq,Ur,Us,Ut,Uu,Uv,Uw,Ux,Uy,Uz,U0,U1,U3,U4,U5,U6,U7,U8,U9,Ka,Kb,Kc,Kd,Ke,Kf,Kg,Kh,Ki,Kj,Kk,Kl,Km,Kn,Ko,Kq,Kr,Ks,Kt,Ga,Kz]
   tactic =>
    try simp only [K2] at *
    try simp only [nc2] at *
    try simp (maxSteps := 4000000) only [Gg]
    repeat' (first | with_reducible assumption | with_reducible refine And.intro ?_ ?_ | intro _ | omega | (rw [Ku]; omega))
    refine Gi [4, 6, 7, 8, 9, 10, 11, 12, 13, 14, 15, 16, 17] (fun k : Nat => [(5, .d (.int .i64 k))]) (fun k : Nat => []) (fun k : Nat => k ≤ l.length ∧ ∀ j, j < k → l.getD j 0 ≠ n) (fun k : Nat => l.length - k) 0 ?_ ?_ ?_
    · simp
    · ((try simp only [Kv, Ky, Kx, K4, upd, K5, Gb, Gs, Nat.reduceDiv, Nat.reduceMod, Nat.reduceMul, Nat.reduceAdd, Nat.reduceEqDiff, List.set_cons_zero, List.set_cons_succ, if_true, if_false, reduceIte]); (first | refine Wk.of_fl ?_ | skip); simp only [Wk, wkK, Gy, wkT, wk1, AV.kept, keptAll, wkO, lk, Kw, and_true, true_and, and_self, Nat.reduceEqDiff, Nat.reduceLeDiff, if_true, if_false, reduceIte, reduceCtorEq, Option.isSome, false_implies]; try simp [Wk, wkK, wkT, wk1, AV.kept, keptAll, wkO, lk, Kw])
    rintro k ⟨hk, hno⟩
    rcases Gl k l.length with ⟨hlt, hlb⟩ | ⟨hlt, hlb⟩
    · have q1 := Hd (0 : Int) hlt
      have hst : l.getD k 0 ≠ n → ∀ j, j < k + 1 → l.getD j 0 ≠ n := by
        intro h j hj
        by_cases e : j = k
        · subst e; exact h
        · exact hno j (by omega)
      have hit : (l.getD k 0 == n) = true → inB l n = true := fun h => any_at 0 k hlt h
      obtain ⟨x, hx⟩ : ∃ x, l.getD k 0 = x := ⟨_, rfl⟩
      rw [hx] at q1 hst hit
      cases hb : (x == n) with
      | true =>
        have hr := hit hb
        (sym =>
         simp [hlb,q1,hb,hr,Og,Oi,Oh,Oj,Of,Oe,Hh.eq_def,Za,Zb,Zc,Ze,Zf,Zg,Zn,Zo,Zp,Zq,Zr,Zs,Zv,Zx,Z2,Z8,Z9,Qa,Qe,Qi,Qj,Qk,Ql,Qm,Qn,Qp,Qv,Qw,Qy,Q1,Q3,Q8,Ja,Jb,Jc,Jd,Je,Jl,Jq,Jr,Js,Jt,Ju,Jx,Jy,Xb,Xc,Xd,Xe,Xf,Xg,Xh,Xi,Xj,Xk,Xl,Xm,Xn,Xq,Xs,Xt,Xu,Xv,Xw,Xx,Xy,Xz,X0,X1,X2,X3,X4,X5,X6,X7,X8,X9,Wa,Wd,We,Wf,Wg,Wh,Wi,Wj,Wl,Wm,Wn,Wo,Wp,Wq,Wr,Ws,Wt,Wu,Wv,Ww,Wx,Wy,Wz,W0,W1,W2,W3,W4,W5,W6,W7,W8,Ye,Yf,Yg,Yh,Yi,Yj,Yk,Yl,Ym,Yn,Yo,Yp,Yq,Yr,Ys,Yt,Yu,Yv,Yw,Yx,Yy,Yz,Y0,Y1,Y2,Y3,Y4,Y5,Y6,Y7,Y8,Y9,Va,Vb,Vc,Vd,Ve,Vf,Vg,Vh,Vi,Vj,Vk,Vl,Vm,Vn,Vo,Vp,Vq,Vr,Vs,Vt,Vu,Vv,Vw,Vx,Vy,Vz,V0,V1,V3,V4,V5,V6,V7,V8,V9,Ua,Ub,Uc,Ud,Ue,Uf,Ul,Um,Uq,Ur,Us,Ut,Uu,Uv,Uw,Ux,Uy,Uz,U0,U1,U3,U4,U5,U6,U7,U8,U9,Ka,Kb,Kc,Kd,Ke,Kf,Kg,Kh,Ki,Kj,Kk,Kl,Km,Kn,Ko,Kq,Kr,Ks,Kt,Ga,Kz]
         tactic =>
          try simp only [K2] at *
          try simp only [nc2] at *
          try simp (maxSteps := 4000000) only [hlb,q1,hb,hr,Gg]
          repeat' (first | with_reducible assumption | with_reducible refine And.intro ?_ ?_ | intro _ | omega | (rw [Ku]; omega))
          all_goals first
            | (with_reducible refine K9 ?_; kernel_rfl)
            | omega
            | rfl
            | skip)
      | false =>
        have h2 := hst (by simpa using hb)
        (sym =>
         simp [hlb,q1,hb,Og,Oi,Oh,Oj,Of,Oe,Hh.eq_def,Za,Zb,Zc,Ze,Zf,Zg,Zn,Zo,Zp,Zq,Zr,Zs,Zv,Zx,Z2,Z8,Z9,Qa,Qe,Qi,Qj,Qk,Ql,Qm,Qn,Qp,Qv,Qw,Qy,Q1,Q3,Q8,Ja,Jb,Jc,Jd,Je,Jl,Jq,Jr,Js,Jt,Ju,Jx,Jy,Xb,Xc,Xd,Xe,Xf,Xg,Xh,Xi,Xj,Xk,Xl,Xm,Xn,Xq,Xs,Xt,Xu,Xv,Xw,Xx,Xy,Xz,X0,X1,X2,X3,X4,X5,X6,X7,X8,X9,Wa,Wd,We,Wf,Wg,Wh,Wi,Wj,Wl,Wm,Wn,Wo,Wp,Wq,Wr,Ws,Wt,Wu,Wv,Ww,Wx,Wy,Wz,W0,W1,W2,W3,W4,W5,W6,W7,W8,Ye,Yf,Yg,Yh,Yi,Yj,Yk,Yl,Ym,Yn,Yo,Yp,Yq,Yr,Ys,Yt,Yu,Yv,Yw,Yx,Yy,Yz,Y0,Y1,Y2,Y3,Y4,Y5,Y6,Y7,Y8,Y9,Va,Vb,Vc,Vd,Ve,Vf,Vg,Vh,Vi,Vj,Vk,Vl,Vm,Vn,Vo,Vp,Vq,Vr,Vs,Vt,Vu,Vv,Vw,Vx,Vy,Vz,V0,V1,V3,V4,V5,V6,V7,V8,V9,Ua,Ub,Uc,Ud,Ue,Uf,Ul,Um,Uq,Ur,Us,Ut,Uu,Uv,Uw,Ux,Uy,Uz,U0,U1,U3,U4,U5,U6,U7,U8,U9,Ka,Kb,Kc,Kd,Ke,Kf,Kg,Kh,Ki,Kj,Kk,Kl,Km,Kn,Ko,Kq,Kr,Ks,Kt,Ga,Kz]
         tactic =>
          try simp only [K2] at *
          try simp only [nc2] at *
          try simp (maxSteps := 4000000) only [hlb,q1,hb,Gg]
          repeat' (first | with_reducible assumption | with_reducible refine And.intro ?_ ?_ | intro _ | omega | (rw [Ku]; omega))
          all_goals first
            | (with_reducible refine K9 ?_; kernel_rfl)
            | omega
            | exact ⟨k + 1, by ((try simp only [Kv, Ky, Kx, K4, upd, K5, Gb, Gs, Nat.reduceDiv, Nat.reduceMod, Nat.reduceMul, Nat.reduceAdd, Nat.reduceEqDiff, List.set_cons_zero, List.set_cons_succ, if_true, if_false, reduceIte]); (first | refine Wk.of_fl ?_ | skip); simp only [Wk, wkK, Gy, wkT, wk1, AV.kept, keptAll, wkO, lk, Kw, and_true, true_and, and_self, Nat.reduceEqDiff, Nat.reduceLeDiff, if_true, if_false, reduceIte, reduceCtorEq, Option.isSome, false_implies]; try simp [Wk, wkK, wkT, wk1, AV.kept, keptAll, wkO, lk, Kw]), by omega, h2, by omega⟩
            | skip)
    · have hr : inB l n = false := any_not 0 fun j hj => beq_eq_false_iff_ne.2 (hno j (by omega))
      (sym =>
       simp [hlb,hr,Og,Oi,Oh,Oj,Of,Oe,Hh.eq_def,Za,Zb,Zc,Ze,Zf,Zg,Zn,Zo,Zp,Zq,Zr,Zs,Zv,Zx,Z2,Z8,Z9,Qa,Qe,Qi,Qj,Qk,Ql,Qm,Qn,Qp,Qv,Qw,Qy,Q1,Q3,Q8,Ja,Jb,Jc,Jd,Je,Jl,Jq,Jr,Js,Jt,Ju,Jx,Jy,Xb,Xc,Xd,Xe,Xf,Xg,Xh,Xi,Xj,Xk,Xl,Xm,Xn,Xq,Xs,Xt,Xu,Xv,Xw,Xx,Xy,Xz,X0,X1,X2,X3,X4,X5,X6,X7,X8,X9,Wa,Wd,We,Wf,Wg,Wh,Wi,Wj,Wl,Wm,Wn,Wo,Wp,Wq,Wr,Ws,Wt,Wu,Wv,Ww,Wx,Wy,Wz,W0,W1,W2,W3,W4,W5,W6,W7,W8,Ye,Yf,Yg,Yh,Yi,Yj,Yk,Yl,Ym,Yn,Yo,Yp,Yq,Yr,Ys,Yt,Yu,Yv,Yw,Yx,Yy,Yz,Y0,Y1,Y2,Y3,Y4,Y5,Y6,Y7,Y8,Y9,Va,Vb,Vc,Vd,Ve,Vf,Vg,Vh,Vi,Vj,Vk,Vl,Vm,Vn,Vo,Vp,Vq,Vr,Vs,Vt,Vu,Vv,Vw,Vx,Vy,Vz,V0,V1,V3,V4,V5,V6,V7,V8,V9,Ua,Ub,Uc,Ud,Ue,Uf,Ul,Um,Uq,Ur,Us,Ut,Uu,Uv,Uw,Ux,Uy,Uz,U0,U1,U3,U4,U5,U6,U7,U8,U9,Ka,Kb,Kc,Kd,Ke,Kf,Kg,Kh,Ki,Kj,Kk,Kl,Km,Kn,Ko,Kq,Kr,Ks,Kt,Ga,Kz]))
def Gp : Con := L3 (fun (a b : Sl Int) => Lo a.l.length ∧ Lo b.l.length) (fun a b => a.l == b.l)
noncomputable def Di : Ctx := ⟨tab, lkC [], 60, lkB [], [], false⟩
theorem Ez : Di.τ = tab := rfl
theorem E1 : Di.Γ = lkC [] := rfl
theorem E0 : Di.dp = 60 := rfl
theorem E2 : Di.Δ = lkB [] := rfl
theorem Ey : Di.cuts = [] := rfl
theorem Ex : Di.wr = false := rfl
theorem good_Ints03 : Me Try.prog (27, Gp) := by
  refine ⟨Gj Try.func27 (by kernel_rfl) rfl, ?_⟩
  have K : Hq Try.prog Di := Gq H8 G4 (by simp) (by simp)
  obtain ⟨c, hc⟩ : ∃ c, Try.f27.body = some c := ⟨_, rfl⟩
  refine Gu K Try.func27 hc [.tmp 4] rfl 26 rfl (fun cvs hpre => ?_)
  change Gp.pre cvs at hpre
  unfold Gp at hpre
  obtain ⟨⟨a⟩, ⟨b⟩, rfl, ha, hb⟩ := Hx hpre
  simp only at ha hb
  obtain ⟨R, hR⟩ : ∃ R, (a == b) = R := ⟨_, rfl⟩
  by_cases hlen : a.length = b.length
  case neg =>
    have hne : ((a.length : Int) != (b.length : Int)) = true := by rw [bne_iff_ne]; omega
    have hr : (a == b) = false := by rw [beq_eq_false_iff_ne]; intro e; exact hlen (by rw [e])
    simp only [Try.f27, Option.some.injEq] at hc
    subst hc
    (sym =>
     simp [hne,hr,Ez,E1,E0,E2,Ey,Ex,Gp.eq_def,Za,Zb,Zc,Ze,Zf,Zg,Zh,Zi,Zj,Zk,Zl,Zm,Zn,Zo,Zp,Zq,Zr,Zs,Zv,Zx,Z2,Z8,Z9,Qa,Qe,Qi,Qj,Qk,Ql,Qm,Qn,Qo,Qp,Qv,Qw,Qy,Qz,Q0,Q1,Q3,Q8,Ja,Jb,Jc,Jd,Je,Jl,Jq,Jr,Js,Jt,Ju,Jx,Jy,Xb,Xc,Xd,Xe,Xf,Xg,Xh,Xi,Xj,Xk,Xl,Xm,Xn,Xq,Xs,Xt,Xu,Xv,Xw,Xx,Xy,Xz,X0,X1,X2,X3,X4,X5,X6,X7,X8,X9,Wa,Wb,Wc,Wd,We,Wf,Wg,Wh,Wi,Wj,Wl,Wm,Wn,Wo,Wp,Wq,Wr,Ws,Wt,Wu,Wv,Ww,Wx,Wy,Wz,W0,W1,W2,W3,W4,W5,W6,W7,W8,Ye,Yf,Yg,Yh,Yi,Yj,Yk,Yl,Ym,Yn,Yo,Yp,Yq,Yr,Ys,Yt,Yu,Yv,Yw,Yx,Yy,Yz,Y0,Y1,Y2,Y3,Y4,Y5,Y6,Y7,Y8,Y9,Va,Vb,Vc,Vd,Ve,Vf,Vg,Vh,Vi,Vj,Vk,Vl,Vm,Vn,Vo,Vp,Vq,Vr,Vs,Vt,Vu,Vv,Vw,Vx,Vy,Vz,V0,V1,V3,V4,V5,V6,V7,V8,V9,Ua,Ub,Uc,Ud,Ue,Uf,Ul,Um,Uq,Ur,Us,Ut,Uu,Uv,Uw,Ux,Uy,Uz,U0,U1,U3,U4,U5,U6,U7,U8,U9,Ka,Kb,Kc,Kd,Ke,Kf,Kg,Kh,Ki,Kj,Kk,Kl,Km,Kn,Ko,Kq,Kr,Ks,Kt,Ga,Kz])
  have hne : ((a.length : Int) != (b.length : Int)) = false := by rw [hlen, bne_self_eq_false]
  simp only [Try.f27, Option.some.injEq] at hc
  subst hc
  (sym =>
   simp [hne,Ez,E1,E0,E2,Ey,Ex,Gp.eq_def,Za,Zb,Zc,Ze,Zf,Zg,Zh,Zi,Zj,Zk,Zl,Zm,Zn,Zo,Zp,Zq,Zr,Zs,Zv,Zx,Z2,Z8,Z9,Qa,Qe,Qi,Qj,Qk,Ql,Qm,Qn,Qo,Qp,Qv,Qw,Qy,Qz,Q0,Q1,Q3,Q8,Ja,Jb,Jc,Jd,Je,Jl,Jq,Jr,Js,Jt,Ju,Jx,Jy,Xb,Xc,Xd,Xe,Xf,Xg,Xh,Xi,Xj,Xk,Xl,Xm,Xn,Xq,Xs,Xt,Xu,Xv,Xw,Xx,Xy,Xz,X0,X1,X2,X3,X4,X5,X6,X7,X8,X9,Wa,Wb,Wc,Wd,We,Wf,Wg,Wh,Wi,Wj,Wl,Wm,Wn,Wo,Wp,Wq,Wr,Ws,Wt,Wu,Wv,Ww,Wx,Wy,Wz,W0,W1,W2,W3,W4,W5,W6,W7,W8,Ye,Yf,Yg,Yh,Yi,Yj,Yk,Yl,Ym,Yn,Yo,Yp,Yq,Yr,Ys,Yt,Yu,Yv,Yw,Yx,Yy,Yz,Y0,Y1,Y2,Y3,Y4,Y5,Y6,Y7,Y8,Y9,Va,Vb,Vc,Vd,Ve,Vf,Vg,Vh,Vi,Vj,Vk,Vl,Vm,Vn,Vo,Vp,Vq,Vr,Vs,Vt,Vu,Vv,Vw,Vx,Vy,Vz,V0,V1,V3,V4,V5,V6,V7,V8,V9,Ua,Ub,Uc,Ud,Ue,Uf,Ul,Um,Uq,Ur,Us,Ut,Uu,Uv,Uw,Ux,Uy,Uz,U0,U1,U3,U4,U5,U6,U7,U8,U9,Ka,Kb,Kc,Kd,Ke,Kf,Kg,Kh,Ki,Kj,Kk,Kl,Km,Kn,Ko,Kq,Kr,Ks,Kt,Ga,Kz]
   tactic =>
    try simp only [K2] at *
    try simp only [nc2] at *
    try simp (maxSteps := 4000000) only [hne,Gg]
    repeat' (first | with_reducible assumption | with_reducible refine And.intro ?_ ?_ | intro _ | omega | (rw [Ku]; omega))
    refine Gi [4, 11, 12, 13, 14, 15, 16, 17, 18, 19, 20, 21, 22, 23, 24, 25] (fun k : Nat => [(5, .d (.int .i64 k))]) (fun k : Nat => []) (fun k : Nat => k ≤ a.length ∧ ∀ j, j < k → a.getD j 0 = b.getD j 0) (fun k : Nat => a.length - k) 0 ?_ ?_ ?_
    · simp
    · ((try simp only [Kv, Ky, Kx, K4, upd, K5, Gb, Gs, Nat.reduceDiv, Nat.reduceMod, Nat.reduceMul, Nat.reduceAdd, Nat.reduceEqDiff, List.set_cons_zero, List.set_cons_succ, if_true, if_false, reduceIte]); (first | refine Wk.of_fl ?_ | skip); simp only [Wk, wkK, Gy, wkT, wk1, AV.kept, keptAll, wkO, lk, Kw, and_true, true_and, and_self, Nat.reduceEqDiff, Nat.reduceLeDiff, if_true, if_false, reduceIte, reduceCtorEq, Option.isSome, false_implies]; try simp [Wk, wkK, wkT, wk1, AV.kept, keptAll, wkO, lk, Kw])
    rintro k ⟨hk, hno⟩
    rcases Gl k a.length with ⟨hlt, hlb⟩ | ⟨hlt, hlb⟩
    · have q1 := Hd (0 : Int) hlt
      have q2 := Hd (0 : Int) (show k < b.length by omega)
      have hst : a.getD k 0 = b.getD k 0 → ∀ j, j < k + 1 → a.getD j 0 = b.getD j 0 := by
        intro h j hj
        by_cases e : j = k
        · subst e; exact h
        · exact hno j (by omega)
      have hbad : a.getD k 0 ≠ b.getD k 0 → (a == b) = false := by
        intro h
        rw [beq_eq_false_iff_ne]
        intro e
        exact h (by rw [e])
      obtain ⟨x, hx⟩ : ∃ x, a.getD k 0 = x := ⟨_, rfl⟩
      obtain ⟨y, hy⟩ : ∃ x, b.getD k 0 = x := ⟨_, rfl⟩
      rw [hx] at q1 hst hbad
      rw [hy] at q2 hst hbad
      cases hxy : (x != y) with
      | true =>
        have hr := hbad (by simpa using hxy)
        (sym =>
         simp [hlb,q1,q2,hxy,hr,Ez,E1,E0,E2,Ey,Ex,Gp.eq_def,Za,Zb,Zc,Ze,Zf,Zg,Zh,Zi,Zj,Zk,Zl,Zm,Zn,Zo,Zp,Zq,Zr,Zs,Zv,Zx,Z2,Z8,Z9,Qa,Qe,Qi,Qj,Qk,Ql,Qm,Qn,Qo,Qp,Qv,Qw,Qy,Qz,Q0,Q1,Q3,Q8,Ja,Jb,Jc,Jd,Je,Jl,Jq,Jr,Js,Jt,Ju,Jx,Jy,Xb,Xc,Xd,Xe,Xf,Xg,Xh,Xi,Xj,Xk,Xl,Xm,Xn,Xq,Xs,Xt,Xu,Xv,Xw,Xx,Xy,Xz,X0,X1,X2,X3,X4,X5,X6,X7,X8,X9,Wa,Wb,Wc,Wd,We,Wf,Wg,Wh,Wi,Wj,Wl,Wm,Wn,Wo,Wp,Wq,Wr,Ws,Wt,Wu,Wv,Ww,Wx,Wy,Wz,W0,W1,W2,W3,W4,W5,W6,W7,W8,Ye,Yf,Yg,Yh,Yi,Yj,Yk,Yl,Ym,Yn,Yo,Yp,Yq,Yr,Ys,Yt,Yu,Yv,Yw,Yx,Yy,Yz,Y0,Y1,Y2,Y3,Y4,Y5,Y6,Y7,Y8,Y9,Va,Vb,Vc,Vd,Ve,Vf,Vg,Vh,Vi,Vj,Vk,Vl,Vm,Vn,Vo,Vp,Vq,Vr,Vs,Vt,Vu,Vv,Vw,Vx,Vy,Vz,V0,V1,V3,V4,V5,V6,V7,V8,V9,Ua,Ub,Uc,Ud,Ue,Uf,Ul,Um,Uq,Ur,Us,Ut,Uu,Uv,Uw,Ux,Uy,Uz,U0,U1,U3,U4,U5,U6,U7,U8,U9,Ka,Kb,Kc,Kd,Ke,Kf,Kg,Kh,Ki,Kj,Kk,Kl,Km,Kn,Ko,Kq,Kr,Ks,Kt,Ga,Kz]
         tactic =>
          try simp only [K2] at *
          try simp only [nc2] at *
          try simp (maxSteps := 4000000) only [hlb,q1,q2,hxy,hr,Gg]
          repeat' (first | with_reducible assumption | with_reducible refine And.intro ?_ ?_ | intro _ | omega | (rw [Ku]; omega))
          all_goals first
            | (with_reducible refine K9 ?_; kernel_rfl)
            | omega
            | rfl
            | skip)
      | false =>
        have h2 := hst (by simpa using hxy)
        (sym =>
         simp [hlb,q1,q2,hxy,Ez,E1,E0,E2,Ey,Ex,Gp.eq_def,Za,Zb,Zc,Ze,Zf,Zg,Zh,Zi,Zj,Zk,Zl,Zm,Zn,Zo,Zp,Zq,Zr,Zs,Zv,Zx,Z2,Z8,Z9,Qa,Qe,Qi,Qj,Qk,Ql,Qm,Qn,Qo,Qp,Qv,Qw,Qy,Qz,Q0,Q1,Q3,Q8,Ja,Jb,Jc,Jd,Je,Jl,Jq,Jr,Js,Jt,Ju,Jx,Jy,Xb,Xc,Xd,Xe,Xf,Xg,Xh,Xi,Xj,Xk,Xl,Xm,Xn,Xq,Xs,Xt,Xu,Xv,Xw,Xx,Xy,Xz,X0,X1,X2,X3,X4,X5,X6,X7,X8,X9,Wa,Wb,Wc,Wd,We,Wf,Wg,Wh,Wi,Wj,Wl,Wm,Wn,Wo,Wp,Wq,Wr,Ws,Wt,Wu,Wv,Ww,Wx,Wy,Wz,W0,W1,W2,W3,W4,W5,W6,W7,W8,Ye,Yf,Yg,Yh,Yi,Yj,Yk,Yl,Ym,Yn,Yo,Yp,Yq,Yr,Ys,Yt,Yu,Yv,Yw,Yx,Yy,Yz,Y0,Y1,Y2,Y3,Y4,Y5,Y6,Y7,Y8,Y9,Va,Vb,Vc,Vd,Ve,Vf,Vg,Vh,Vi,Vj,Vk,Vl,Vm,Vn,Vo,Vp,Vq,Vr,Vs,Vt,Vu,Vv,Vw,Vx,Vy,Vz,V0,V1,V3,V4,V5,V6,V7,V8,V9,Ua,Ub,Uc,Ud,Ue,Uf,Ul,Um,Uq,Ur,Us,Ut,Uu,Uv,Uw,Ux,Uy,Uz,U0,U1,U3,U4,U5,U6,U7,U8,U9,Ka,Kb,Kc,Kd,Ke,Kf,Kg,Kh,Ki,Kj,Kk,Kl,Km,Kn,Ko,Kq,Kr,Ks,Kt,Ga,Kz]
         tactic =>
          try simp only [K2] at *
          try simp only [nc2] at *
          try simp (maxSteps := 4000000) only [hlb,q1,q2,hxy,Gg]
          repeat' (first | with_reducible assumption | with_reducible refine And.intro ?_ ?_ | intro _ | omega | (rw [Ku]; omega))
          all_goals first
            | (with_reducible refine K9 ?_; kernel_rfl)
            | omega
            | exact ⟨k + 1, by ((try simp only [Kv, Ky, Kx, K4, upd, K5, Gb, Gs, Nat.reduceDiv, Nat.reduceMod, Nat.reduceMul, Nat.reduceAdd, Nat.reduceEqDiff, List.set_cons_zero, List.set_cons_succ, if_true, if_false, reduceIte]); (first | refine Wk.of_fl ?_ | skip); simp only [Wk, wkK, Gy, wkT, wk1, AV.kept, keptAll, wkO, lk, Kw, and_true, true_and, and_self, Nat.reduceEqDiff, Nat.reduceLeDiff, if_true, if_false, reduceIte, reduceCtorEq, Option.isSome, false_implies]; try simp [Wk, wkK, wkT, wk1, AV.kept, keptAll, wkO, lk, Kw]), by omega, h2, by omega⟩
            | skip)
    · have hr : (a == b) = true := by
        rw [beq_iff_eq]
        refine List.ext_getElem hlen fun j h1 h2 => ?_
        have := hno j (by omega)
        simpa [h1, h2] using this
      (sym =>
       simp [hlb,hr,Ez,E1,E0,E2,Ey,Ex,Gp.eq_def,Za,Zb,Zc,Ze,Zf,Zg,Zh,Zi,Zj,Zk,Zl,Zm,Zn,Zo,Zp,Zq,Zr,Zs,Zv,Zx,Z2,Z8,Z9,Qa,Qe,Qi,Qj,Qk,Ql,Qm,Qn,Qo,Qp,Qv,Qw,Qy,Qz,Q0,Q1,Q3,Q8,Ja,Jb,Jc,Jd,Je,Jl,Jq,Jr,Js,Jt,Ju,Jx,Jy,Xb,Xc,Xd,Xe,Xf,Xg,Xh,Xi,Xj,Xk,Xl,Xm,Xn,Xq,Xs,Xt,Xu,Xv,Xw,Xx,Xy,Xz,X0,X1,X2,X3,X4,X5,X6,X7,X8,X9,Wa,Wb,Wc,Wd,We,Wf,Wg,Wh,Wi,Wj,Wl,Wm,Wn,Wo,Wp,Wq,Wr,Ws,Wt,Wu,Wv,Ww,Wx,Wy,Wz,W0,W1,W2,W3,W4,W5,W6,W7,W8,Ye,Yf,Yg,Yh,Yi,Yj,Yk,Yl,Ym,Yn,Yo,Yp,Yq,Yr,Ys,Yt,Yu,Yv,Yw,Yx,Yy,Yz,Y0,Y1,Y2,Y3,Y4,Y5,Y6,Y7,Y8,Y9,Va,Vb,Vc,Vd,Ve,Vf,Vg,Vh,Vi,Vj,Vk,Vl,Vm,Vn,Vo,Vp,Vq,Vr,Vs,Vt,Vu,Vv,Vw,Vx,Vy,Vz,V0,V1,V3,V4,V5,V6,V7,V8,V9,Ua,Ub,Uc,Ud,Ue,Uf,Ul,Um,Uq,Ur,Us,Ut,Uu,Uv,Uw,Ux,Uy,Uz,U0,U1,U3,U4,U5,U6,U7,U8,U9,Ka,Kb,Kc,Kd,Ke,Kf,Kg,Kh,Ki,Kj,Kk,Kl,Km,Kn,Ko,Kq,Kr,Ks,Kt,Ga,Kz]))
def Ox (l : List Int) : Bool := (List.range l.length).all fun j => j == 0 || !leB (l.getD j 0) (l.getD (j - 1) 0)
theorem allr_not {p : Nat → Bool} {n j : Nat} (hj : j < n) (h : p j = false) : (List.range n).all p = false := by
  rw [Bool.eq_false_iff]
  intro hc
  rw [List.all_eq_true] at hc
  rw [hc j (List.mem_range.2 hj)] at h
  cases h
theorem allr {p : Nat → Bool} {n : Nat} (h : ∀ j, j < n → p j = true) : (List.range n).all p = true := by
  rw [List.all_eq_true]
  exact fun j hj => h j (List.mem_range.1 hj)
def K7 : Con := con1 (fun (l : Sl Int) => Lo l.l.length) (fun l => Ox l.l)
noncomputable def Fe : Ctx := ⟨tab, lkC [], 60, lkB [], [], false⟩
theorem Aq : Fe.τ = tab := rfl
theorem As : Fe.Γ = lkC [] := rfl
theorem Ar : Fe.dp = 60 := rfl
theorem Au : Fe.Δ = lkB [] := rfl
theorem Ap : Fe.cuts = [] := rfl
theorem Ao : Fe.wr = false := rfl
theorem Ry : Me Try.prog (15, K7) := by
  refine ⟨Gj Try.func15 (by kernel_rfl) rfl, ?_⟩
  have K : Hq Try.prog Fe := Gq H8 G4 (by simp) (by simp)
  obtain ⟨c, hc⟩ : ∃ c, Try.f15.body = some c := ⟨_, rfl⟩
  refine Gu K Try.func15 hc [.tmp 2] rfl 20 rfl (fun cvs hpre => ?_)
  change K7.pre cvs at hpre
  unfold K7 at hpre
  obtain ⟨⟨l⟩, rfl, hl⟩ := Ct hpre
  simp only at hl
  simp only [Try.f15, Option.some.injEq] at hc
  subst hc
  (sym =>
   simp [Aq,As,Ar,Au,Ap,Ao,K7.eq_def,Za,Zb,Zc,Ze,Zf,Zg,Zh,Zi,Zj,Zk,Zl,Zm,Zn,Zo,Zp,Zq,Zr,Zs,Zv,Zx,Z2,Z8,Z9,Qa,Qe,Qi,Qj,Qk,Ql,Qm,Qn,Qo,Qp,Qv,Qw,Qy,Qz,Q0,Q1,Q3,Q8,Ja,Jb,Jc,Jd,Je,Jl,Jq,Jr,Js,Jt,Ju,Jx,Jy,Xb,Xc,Xd,Xe,Xf,Xg,Xh,Xi,Xj,Xk,Xl,Xm,Xn,Xq,Xs,Xt,Xu,Xv,Xw,Xx,Xy,Xz,X0,X1,X2,X3,X4,X5,X6,X7,X8,X9,Wa,Wb,Wc,Wd,We,Wf,Wg,Wh,Wi,Wj,Wl,Wm,Wn,Wo,Wp,Wq,Wr,Ws,Wt,Wu,Wv,Ww,Wx,Wy,Wz,W0,W1,W2,W3,W4,W5,W6,W7,W8,Ye,Yf,Yg,Yh,Yi,Yj,Yk,Yl,Ym,Yn,Yo,Yp,Yq,Yr,Ys,Yt,Yu,Yv,Yw,Yx,Yy,Yz,Y0,Y1,Y2,Y3,Y4,Y5,Y6,Y7,Y8,Y9,Va,Vb,Vc,Vd,Ve,Vf,Vg,Vh,Vi,Vj,Vk,Vl,Vm,Vn,Vo,Vp,Vq,Vr,Vs,Vt,Vu,Vv,Vw,Vx,Vy,Vz,V0,V1,V3,V4,V5,V6,V7,V8,V9,Ua,Ub,Uc,Ud,Ue,Uf,Ul,Um,Uq,Ur,Us,Ut,Uu,Uv,Uw,Ux,Uy,Uz,U0,U1,U3,U4,U5,U6,U7,U8,U9,Ka,Kb,Kc,Kd,Ke,Kf,Kg,Kh,Ki,Kj,Kk,Kl,Km,Kn,Ko,Kq,Kr,Ks,Kt,Ga,Kz]
   tactic =>
    try simp only [K2] at *
    try simp only [nc2] at *
    try simp (maxSteps := 4000000) only [Gg]
    repeat' (first | with_reducible assumption | with_reducible refine And.intro ?_ ?_ | intro _ | omega | (rw [Ku]; omega))
    refine Gi [2, 4, 5, 6, 7, 8, 9, 10, 11, 12, 13, 14, 15, 16, 17, 18, 19] (fun k : Nat => [(3, .d (.int .i64 k))]) (fun k : Nat => []) (fun k : Nat => 1 ≤ k ∧ (k = 1 ∨ k ≤ l.length) ∧ ∀ j, 1 ≤ j → j < k → l.getD (j - 1) 0 < l.getD j 0) (fun k : Nat => l.length - k) 1 ?_ ?_ ?_
    · simp
      omega
    · ((try simp only [Kv, Ky, Kx, K4, upd, K5, Gb, Gs, Nat.reduceDiv, Nat.reduceMod, Nat.reduceMul, Nat.reduceAdd, Nat.reduceEqDiff, List.set_cons_zero, List.set_cons_succ, if_true, if_false, reduceIte]); (first | refine Wk.of_fl ?_ | skip); simp only [Wk, wkK, Gy, wkT, wk1, AV.kept, keptAll, wkO, lk, Kw, and_true, true_and, and_self, Nat.reduceEqDiff, Nat.reduceLeDiff, if_true, if_false, reduceIte, reduceCtorEq, Option.isSome, false_implies]; try simp [Wk, wkK, wkT, wk1, AV.kept, keptAll, wkO, lk, Kw])
    rintro k ⟨h1, hk, hno⟩
    rcases Gl k l.length with ⟨hlt, hlb⟩ | ⟨hlt, hlb⟩
    · have q1 := Hd (0 : Int) hlt
      have q2 := Hd (0 : Int) (show k - 1 < l.length by omega)
      have e1 : (k : Int) - 1 = ((k - 1 : Nat) : Int) := by omega
      have hst : l.getD (k - 1) 0 < l.getD k 0 → ∀ j, 1 ≤ j → j < k + 1 → l.getD (j - 1) 0 < l.getD j 0 := by
        intro h j hj1 hj
        by_cases e : j = k
        · subst e; exact h
        · exact hno j hj1 (by omega)
      have hbad : leB (l.getD k 0) (l.getD (k - 1) 0) = true → Ox l = false := fun h => allr_not hlt (by rw [h]; simp; omega)
      obtain ⟨x, hx⟩ : ∃ x, l.getD k 0 = x := ⟨_, rfl⟩
      obtain ⟨y, hy⟩ : ∃ x, l.getD (k - 1) 0 = x := ⟨_, rfl⟩
      rw [hx] at q1 hst hbad
      rw [hy] at q2 hst hbad
      obtain ⟨p, hp⟩ : ∃ p, k - 1 = p := ⟨_, rfl⟩
      rw [hp] at e1 q2
      cases hxy : leB x y with
      | true =>
        have hr := hbad hxy
        (sym =>
         simp [hlb,e1,q1,q2,hxy,hr,Aq,As,Ar,Au,Ap,Ao,K7.eq_def,Za,Zb,Zc,Ze,Zf,Zg,Zh,Zi,Zj,Zk,Zl,Zm,Zn,Zo,Zp,Zq,Zr,Zs,Zv,Zx,Z2,Z8,Z9,Qa,Qe,Qi,Qj,Qk,Ql,Qm,Qn,Qo,Qp,Qv,Qw,Qy,Qz,Q0,Q1,Q3,Q8,Ja,Jb,Jc,Jd,Je,Jl,Jq,Jr,Js,Jt,Ju,Jx,Jy,Xb,Xc,Xd,Xe,Xf,Xg,Xh,Xi,Xj,Xk,Xl,Xm,Xn,Xq,Xs,Xt,Xu,Xv,Xw,Xx,Xy,Xz,X0,X1,X2,X3,X4,X5,X6,X7,X8,X9,Wa,Wb,Wc,Wd,We,Wf,Wg,Wh,Wi,Wj,Wl,Wm,Wn,Wo,Wp,Wq,Wr,Ws,Wt,Wu,Wv,Ww,Wx,Wy,Wz,W0,W1,W2,W3,W4,W5,W6,W7,W8,Ye,Yf,Yg,Yh,Yi,Yj,Yk,Yl,Ym,Yn,Yo,Yp,Yq,Yr,Ys,Yt,Yu,Yv,Yw,Yx,Yy,Yz,Y0,Y1,Y2,Y3,Y4,Y5,Y6,Y7,Y8,Y9,Va,Vb,Vc,Vd,Ve,Vf,Vg,Vh,Vi,Vj,Vk,Vl,Vm,Vn,Vo,Vp,Vq,Vr,Vs,Vt,Vu,Vv,Vw,Vx,Vy,Vz,V0,V1,V3,V4,V5,V6,V7,V8,V9,Ua,Ub,Uc,Ud,Ue,Uf,Ul,Um,Uq,Ur,Us,Ut,Uu,Uv,Uw,Ux,Uy,Uz,U0,U1,U3,U4,U5,U6,U7,U8,U9,Ka,Kb,Kc,Kd,Ke,Kf,Kg,Kh,Ki,Kj,Kk,Kl,Km,Kn,Ko,Kq,Kr,Ks,Kt,Ga,Kz]
         tactic =>
          try simp only [K2] at *
          try simp only [nc2] at *
          try simp (maxSteps := 4000000) only [hlb,e1,q1,q2,hxy,hr,Gg]
          repeat' (first | with_reducible assumption | with_reducible refine And.intro ?_ ?_ | intro _ | omega | (rw [Ku]; omega))
          all_goals first
            | (with_reducible refine K9 ?_; kernel_rfl)
            | omega
            | rfl
            | skip)
      | false =>
        have h2 := hst (by rw [Dr] at hxy; omega)
        (sym =>
         simp [hlb,e1,q1,q2,hxy,Aq,As,Ar,Au,Ap,Ao,K7.eq_def,Za,Zb,Zc,Ze,Zf,Zg,Zh,Zi,Zj,Zk,Zl,Zm,Zn,Zo,Zp,Zq,Zr,Zs,Zv,Zx,Z2,Z8,Z9,Qa,Qe,Qi,Qj,Qk,Ql,Qm,Qn,Qo,Qp,Qv,Qw,Qy,Qz,Q0,Q1,Q3,Q8,Ja,Jb,Jc,Jd,Je,Jl,Jq,Jr,Js,Jt,Ju,Jx,Jy,Xb,Xc,Xd,Xe,Xf,Xg,Xh,Xi,Xj,Xk,Xl,Xm,Xn,Xq,Xs,Xt,Xu,Xv,Xw,Xx,Xy,Xz,X0,X1,X2,X3,X4,X5,X6,X7,X8,X9,Wa,Wb,Wc,Wd,We,Wf,Wg,Wh,Wi,Wj,Wl,Wm,Wn,Wo,Wp,Wq,Wr,Ws,Wt,Wu,Wv,Ww,Wx,Wy,Wz,W0,W1,W2,W3,W4,W5,W6,W7,W8,Ye,Yf,Yg,Yh,Yi,Yj,Yk,Yl,Ym,Yn,Yo,Yp,Yq,Yr,Ys,Yt,Yu,Yv,Yw,Yx,Yy,Yz,Y0,Y1,Y2,Y3,Y4,Y5,Y6,Y7,Y8,Y9,Va,Vb,Vc,Vd,Ve,Vf,Vg,Vh,Vi,Vj,Vk,Vl,Vm,Vn,Vo,Vp,Vq,Vr,Vs,Vt,Vu,Vv,Vw,Vx,Vy,Vz,V0,V1,V3,V4,V5,V6,V7,V8,V9,Ua,Ub,Uc,Ud,Ue,Uf,Ul,Um,Uq,Ur,Us,Ut,Uu,Uv,Uw,Ux,Uy,Uz,U0,U1,U3,U4,U5,U6,U7,U8,U9,Ka,Kb,Kc,Kd,Ke,Kf,Kg,Kh,Ki,Kj,Kk,Kl,Km,Kn,Ko,Kq,Kr,Ks,Kt,Ga,Kz]
         tactic =>
          try simp only [K2] at *
          try simp only [nc2] at *
          try simp (maxSteps := 4000000) only [hlb,e1,q1,q2,hxy,Gg]
          repeat' (first | with_reducible assumption | with_reducible refine And.intro ?_ ?_ | intro _ | omega | (rw [Ku]; omega))
          all_goals first
            | (with_reducible refine K9 ?_; kernel_rfl)
            | omega
            | exact ⟨k + 1, by ((try simp only [Kv, Ky, Kx, K4, upd, K5, Gb, Gs, Nat.reduceDiv, Nat.reduceMod, Nat.reduceMul, Nat.reduceAdd, Nat.reduceEqDiff, List.set_cons_zero, List.set_cons_succ, if_true, if_false, reduceIte]); (first | refine Wk.of_fl ?_ | skip); simp only [Wk, wkK, Gy, wkT, wk1, AV.kept, keptAll, wkO, lk, Kw, and_true, true_and, and_self, Nat.reduceEqDiff, Nat.reduceLeDiff, if_true, if_false, reduceIte, reduceCtorEq, Option.isSome, false_implies]; try simp [Wk, wkK, wkT, wk1, AV.kept, keptAll, wkO, lk, Kw]), by omega, by omega, h2, by omega⟩
            | skip)
    · have hr : Ox l = true := allr fun j hj => by
        by_cases e : j = 0
        · simp [e]
        · rw [show leB (l.getD j 0) (l.getD (j - 1) 0) = false by rw [Dr]; have := hno j (by omega) (by omega); omega]; simp
      (sym =>
       simp [hlb,hr,Aq,As,Ar,Au,Ap,Ao,K7.eq_def,Za,Zb,Zc,Ze,Zf,Zg,Zh,Zi,Zj,Zk,Zl,Zm,Zn,Zo,Zp,Zq,Zr,Zs,Zv,Zx,Z2,Z8,Z9,Qa,Qe,Qi,Qj,Qk,Ql,Qm,Qn,Qo,Qp,Qv,Qw,Qy,Qz,Q0,Q1,Q3,Q8,Ja,Jb,Jc,Jd,Je,Jl,Jq,Jr,Js,Jt,Ju,Jx,Jy,Xb,Xc,Xd,Xe,Xf,Xg,Xh,Xi,Xj,Xk,Xl,Xm,Xn,Xq,Xs,Xt,Xu,Xv,Xw,Xx,Xy,Xz,X0,X1,X2,X3,X4,X5,X6,X7,X8,X9,Wa,Wb,Wc,Wd,We,Wf,Wg,Wh,Wi,Wj,Wl,Wm,Wn,Wo,Wp,Wq,Wr,Ws,Wt,Wu,Wv,Ww,Wx,Wy,Wz,W0,W1,W2,W3,W4,W5,W6,W7,W8,Ye,Yf,Yg,Yh,Yi,Yj,Yk,Yl,Ym,Yn,Yo,Yp,Yq,Yr,Ys,Yt,Yu,Yv,Yw,Yx,Yy,Yz,Y0,Y1,Y2,Y3,Y4,Y5,Y6,Y7,Y8,Y9,Va,Vb,Vc,Vd,Ve,Vf,Vg,Vh,Vi,Vj,Vk,Vl,Vm,Vn,Vo,Vp,Vq,Vr,Vs,Vt,Vu,Vv,Vw,Vx,Vy,Vz,V0,V1,V3,V4,V5,V6,V7,V8,V9,Ua,Ub,Uc,Ud,Ue,Uf,Ul,Um,Uq,Ur,Us,Ut,Uu,Uv,Uw,Ux,Uy,Uz,U0,U1,U3,U4,U5,U6,U7,U8,U9,Ka,Kb,Kc,Kd,Ke,Kf,Kg,Kh,Ki,Kj,Kk,Kl,Km,Kn,Ko,Kq,Kr,Ks,Kt,Ga,Kz]))
def Sq (s t : List Int) : Bool := s.all fun x => inB t x
def K0 : Con := L3 (fun (s t : Sl Int) => Lo s.l.length ∧ Lo t.l.length) (fun s t => Sq s.l t.l)
noncomputable def Dg : Ctx := ⟨tab, lkC [(34, Hh)], 60, lkB [], [], false⟩
theorem Rc : Dg.τ = tab := rfl
theorem Re : Dg.Γ = lkC [(34, Hh)] := rfl
theorem Rd : Dg.dp = 60 := rfl
theorem Rf : Dg.Δ = lkB [] := rfl
theorem Rb : Dg.cuts = [] := rfl
theorem Ra : Dg.wr = false := rfl
theorem Fm : Me Try.prog (19, K0) := by
  refine ⟨Gj Try.func19 (by kernel_rfl) rfl, ?_⟩
  have K : Hq Try.prog Dg := Gq H8 G4 (by
    intro p hp
    simp only [List.mem_cons, List.not_mem_nil, or_false] at hp
    rcases hp with rfl
    · exact good_In08) (by simp)
  obtain ⟨c, hc⟩ : ∃ c, Try.f19.body = some c := ⟨_, rfl⟩
  refine Gu K Try.func19 hc [.tmp 4] rfl 19 rfl (fun cvs hpre => ?_)
  change K0.pre cvs at hpre
  unfold K0 at hpre
  obtain ⟨⟨s⟩, ⟨t⟩, rfl, hs, ht⟩ := Hx hpre
  simp only at hs ht
  simp only [Try.f19, Option.some.injEq] at hc
  subst hc
  (sym =>
   simp [Rc,Re,Rd,Rf,Rb,Ra,Hh.eq_def,K0.eq_def,Za,Zb,Zc,Ze,Zf,Zg,Zn,Zo,Zp,Zq,Zr,Zs,Zv,Zx,Z2,Z6,Z7,Z8,Z9,Qa,Qb,Qc,Qd,Qe,Qi,Qj,Qk,Ql,Qm,Qn,Qp,Qv,Qw,Qy,Q1,Q2,Q3,Q8,Ja,Jb,Jc,Jd,Je,Jl,Jq,Jr,Js,Jt,Ju,Jx,Jy,Xb,Xc,Xd,Xe,Xf,Xg,Xh,Xi,Xj,Xk,Xl,Xm,Xn,Xq,Xs,Xt,Xu,Xv,Xw,Xx,Xy,Xz,X0,X1,X2,X3,X4,X5,X6,X7,X8,X9,Wa,Wd,We,Wf,Wg,Wh,Wi,Wj,Wl,Wm,Wn,Wo,Wp,Wq,Wr,Ws,Wt,Wu,Wv,Ww,Wx,Wy,Wz,W0,W1,W2,W3,W4,W5,W6,W7,W8,Ye,Yf,Yg,Yh,Yi,Yj,Yk,Yl,Ym,Yn,Yo,Yp,Yq,Yr,Ys,Yt,Yu,Yv,Yw,Yx,Yy,Yz,Y0,Y1,Y2,Y3,Y4,Y5,Y6,Y7,Y8,Y9,Va,Vb,Vc,Vd,Ve,Vf,Vg,Vh,Vi,Vj,Vk,Vl,Vm,Vn,Vo,Vp,Vq,Vr,Vs,Vt,Vu,Vv,Vw,Vx,Vy,Vz,V0,V1,V3,V4,V5,V6,V7,V8,V9,Ua,Ub,Uc,Ud,Ue,Uf,Ul,Um,Uq,Ur,Us,Ut,Uu,Uv,Uw,Ux,Uy,Uz,U0,U1,U3,U4,U5,U6,U7,U8,U9,Ka,Kb,Kc,Kd,Ke,Kf,Kg,Kh,Ki,Kj,Kk,Kl,Km,Kn,Ko,Kq,Kr,Ks,Kt,Ga,G5,Kz]
   tactic =>
    try simp only [K2] at *
    try simp only [nc2] at *
    try simp (maxSteps := 4000000) only [Gg]
    repeat' (first | with_reducible assumption | with_reducible refine And.intro ?_ ?_ | intro _ | omega | (rw [Ku]; omega))
    refine Gi [4, 6, 7, 8, 9, 10, 11, 12, 13, 14, 15, 16, 17, 18] (fun k : Nat => [(5, .d (.int .i64 k))]) (fun k : Nat => []) (fun k : Nat => k ≤ s.length ∧ ∀ j, j < k → inB t (s.getD j 0) = true) (fun k : Nat => s.length - k) 0 ?_ ?_ ?_
    · simp
    · ((try simp only [Kv, Ky, Kx, K4, upd, K5, Gb, Gs, Nat.reduceDiv, Nat.reduceMod, Nat.reduceMul, Nat.reduceAdd, Nat.reduceEqDiff, List.set_cons_zero, List.set_cons_succ, if_true, if_false, reduceIte]); (first | refine Wk.of_fl ?_ | skip); simp only [Wk, wkK, Gy, wkT, wk1, AV.kept, keptAll, wkO, lk, Kw, and_true, true_and, and_self, Nat.reduceEqDiff, Nat.reduceLeDiff, if_true, if_false, reduceIte, reduceCtorEq, Option.isSome, false_implies]; try simp [Wk, wkK, wkT, wk1, AV.kept, keptAll, wkO, lk, Kw])
    rintro k ⟨hk, hno⟩
    rcases Gl k s.length with ⟨hlt, hlb⟩ | ⟨hlt, hlb⟩
    · have q1 := Hd (0 : Int) hlt
      have hst : inB t (s.getD k 0) = true → ∀ j, j < k + 1 → inB t (s.getD j 0) = true := by
        intro h j hj
        by_cases e : j = k
        · subst e; exact h
        · exact hno j (by omega)
      have hbad : inB t (s.getD k 0) = false → Sq s t = false := fun h => all_not 0 k hlt h
      obtain ⟨x, hx⟩ : ∃ x, s.getD k 0 = x := ⟨_, rfl⟩
      rw [hx] at q1 hst hbad
      cases hb : inB t x with
      | false =>
        have hr := hbad hb
        (sym =>
         simp [hlb,q1,hb,hr,Rc,Re,Rd,Rf,Rb,Ra,Hh.eq_def,K0.eq_def,Za,Zb,Zc,Ze,Zf,Zg,Zn,Zo,Zp,Zq,Zr,Zs,Zv,Zx,Z2,Z6,Z7,Z8,Z9,Qa,Qb,Qc,Qd,Qe,Qi,Qj,Qk,Ql,Qm,Qn,Qp,Qv,Qw,Qy,Q1,Q2,Q3,Q8,Ja,Jb,Jc,Jd,Je,Jl,Jq,Jr,Js,Jt,Ju,Jx,Jy,Xb,Xc,Xd,Xe,Xf,Xg,Xh,Xi,Xj,Xk,Xl,Xm,Xn,Xq,Xs,Xt,Xu,Xv,Xw,Xx,Xy,Xz,X0,X1,X2,X3,X4,X5,X6,X7,X8,X9,Wa,Wd,We,Wf,Wg,Wh,Wi,Wj,Wl,Wm,Wn,Wo,Wp,Wq,Wr,Ws,Wt,Wu,Wv,Ww,Wx,Wy,Wz,W0,W1,W2,W3,W4,W5,W6,W7,W8,Ye,Yf,Yg,Yh,Yi,Yj,Yk,Yl,Ym,Yn,Yo,Yp,Yq,Yr,Ys,Yt,Yu,Yv,Yw,Yx,Yy,Yz,Y0,Y1,Y2,Y3,Y4,Y5,Y6,Y7,Y8,Y9,Va,Vb,Vc,Vd,Ve,Vf,Vg,Vh,Vi,Vj,Vk,Vl,Vm,Vn,Vo,Vp,Vq,Vr,Vs,Vt,Vu,Vv,Vw,Vx,Vy,Vz,V0,V1,V3,V4,V5,V6,V7,V8,V9,Ua,Ub,Uc,Ud,Ue,Uf,Ul,Um,Uq,Ur,Us,Ut,Uu,Uv,Uw,Ux,Uy,Uz,U0,U1,U3,U4,U5,U6,U7,U8,U9,Ka,Kb,Kc,Kd,Ke,Kf,Kg,Kh,Ki,Kj,Kk,Kl,Km,Kn,Ko,Kq,Kr,Ks,Kt,Ga,G5,Kz]
         tactic =>
          try simp only [K2] at *
          try simp only [nc2] at *
          try simp (maxSteps := 4000000) only [hlb,q1,hb,hr,Gg]
          repeat' (first | with_reducible assumption | with_reducible refine And.intro ?_ ?_ | intro _ | omega | (rw [Ku]; omega))
          all_goals first
            | (with_reducible refine K9 ?_; kernel_rfl)
            | omega
            | rfl
            | skip)
      | true =>
        have h2 := hst hb
        (sym =>
         simp [hlb,q1,hb,Rc,Re,Rd,Rf,Rb,Ra,Hh.eq_def,K0.eq_def,Za,Zb,Zc,Ze,Zf,Zg,Zn,Zo,Zp,Zq,Zr,Zs,Zv,Zx,Z2,Z6,Z7,Z8,Z9,Qa,Qb,Qc,Qd,Qe,Qi,Qj,Qk,Ql,Qm,Qn,Qp,Qv,Qw,Qy,Q1,Q2,Q3,Q8,Ja,Jb,Jc,Jd,Je,Jl,Jq,Jr,Js,Jt,Ju,Jx,Jy,Xb,Xc,Xd,Xe,Xf,Xg,Xh,Xi,Xj,Xk,Xl,Xm,Xn,Xq,Xs,Xt,Xu,Xv,Xw,Xx,Xy,Xz,X0,X1,X2,X3,X4,X5,X6,X7,X8,X9,Wa,Wd,We,Wf,Wg,Wh,Wi,Wj,Wl,Wm,Wn,Wo,Wp,Wq,Wr,Ws,Wt,Wu,Wv,Ww,Wx,Wy,Wz,W0,W1,W2,W3,W4,W5,W6,W7,W8,Ye,Yf,Yg,Yh,Yi,Yj,Yk,Yl,Ym,Yn,Yo,Yp,Yq,Yr,Ys,Yt,Yu,Yv,Yw,Yx,Yy,Yz,Y0,Y1,Y2,Y3,Y4,Y5,Y6,Y7,Y8,Y9,Va,Vb,Vc,Vd,Ve,Vf,Vg,Vh,Vi,Vj,Vk,Vl,Vm,Vn,Vo,Vp,Vq,Vr,Vs,Vt,Vu,Vv,Vw,Vx,Vy,Vz,V0,V1,V3,V4,V5,V6,V7,V8,V9,Ua,Ub,Uc,Ud,Ue,Uf,Ul,Um,Uq,Ur,Us,Ut,Uu,Uv,Uw,Ux,Uy,Uz,U0,U1,U3,U4,U5,U6,U7,U8,U9,Ka,Kb,Kc,Kd,Ke,Kf,Kg,Kh,Ki,Kj,Kk,Kl,Km,Kn,Ko,Kq,Kr,Ks,Kt,Ga,G5,Kz]
         tactic =>
          try simp only [K2] at *
          try simp only [nc2] at *
          try simp (maxSteps := 4000000) only [hlb,q1,hb,Gg]
          repeat' (first | with_reducible assumption | with_reducible refine And.intro ?_ ?_ | intro _ | omega | (rw [Ku]; omega))
          all_goals first
            | (with_reducible refine K9 ?_; kernel_rfl)
            | omega
            | exact ⟨k + 1, by ((try simp only [Kv, Ky, Kx, K4, upd, K5, Gb, Gs, Nat.reduceDiv, Nat.reduceMod, Nat.reduceMul, Nat.reduceAdd, Nat.reduceEqDiff, List.set_cons_zero, List.set_cons_succ, if_true, if_false, reduceIte]); (first | refine Wk.of_fl ?_ | skip); simp only [Wk, wkK, Gy, wkT, wk1, AV.kept, keptAll, wkO, lk, Kw, and_true, true_and, and_self, Nat.reduceEqDiff, Nat.reduceLeDiff, if_true, if_false, reduceIte, reduceCtorEq, Option.isSome, false_implies]; try simp [Wk, wkK, wkT, wk1, AV.kept, keptAll, wkO, lk, Kw]), by omega, h2, by omega⟩
            | skip)
    · have hr : Sq s t = true := all_of_lt 0 fun j hj => hno j (by omega)
      (sym =>
       simp [hlb,hr,Rc,Re,Rd,Rf,Rb,Ra,Hh.eq_def,K0.eq_def,Za,Zb,Zc,Ze,Zf,Zg,Zn,Zo,Zp,Zq,Zr,Zs,Zv,Zx,Z2,Z6,Z7,Z8,Z9,Qa,Qb,Qc,Qd,Qe,Qi,Qj,Qk,Ql,Qm,Qn,Qp,Qv,Qw,Qy,Q1,Q2,Q3,Q8,Ja,Jb,Jc,Jd,Je,Jl,Jq,Jr,Js,Jt,Ju,Jx,Jy,Xb,Xc,Xd,Xe,Xf,Xg,Xh,Xi,Xj,Xk,Xl,Xm,Xn,Xq,Xs,Xt,Xu,Xv,Xw,Xx,Xy,Xz,X0,X1,X2,X3,X4,X5,X6,X7,X8,X9,Wa,Wd,We,Wf,Wg,Wh,Wi,Wj,Wl,Wm,Wn,Wo,Wp,Wq,Wr,Ws,Wt,Wu,Wv,Ww,Wx,Wy,Wz,W0,W1,W2,W3,W4,W5,W6,W7,W8,Ye,Yf,Yg,Yh,Yi,Yj,Yk,Yl,Ym,Yn,Yo,Yp,Yq,Yr,Ys,Yt,Yu,Yv,Yw,Yx,Yy,Yz,Y0,Y1,Y2,Y3,Y4,Y5,Y6,Y7,Y8,Y9,Va,Vb,Vc,Vd,Ve,Vf,Vg,Vh,Vi,Vj,Vk,Vl,Vm,Vn,Vo,Vp,Vq,Vr,Vs,Vt,Vu,Vv,Vw,Vx,Vy,Vz,V0,V1,V3,V4,V5,V6,V7,V8,V9,Ua,Ub,Uc,Ud,Ue,Uf,Ul,Um,Uq,Ur,Us,Ut,Uu,Uv,Uw,Ux,Uy,Uz,U0,U1,U3,U4,U5,U6,U7,U8,U9,Ka,Kb,Kc,Kd,Ke,Kf,Kg,Kh,Ki,Kj,Kk,Kl,Km,Kn,Ko,Kq,Kr,Ks,Kt,Ga,G5,Kz]))
end Go.Am.Hit
