/-
  The abstract machine, part 16b: regions whose order is open: what an operation comes to hangs on few objects; orders are all alike.
-/
import Derived.Test.YtecgdmiigdfgdaaAm16
import Derived.Orders
set_option linter.unusedVariables false
set_option linter.unusedSimpArgs false
namespace Go.Am

/-- It looks at the objects of S alone, and turns no others. -/
def Loc {α : Type} (S : Nat → Prop) (f : Objs → Option (Prop × α × Objs)) : Prop :=
  ∀ o o' c x p, (∀ k, S k → lk o k = lk o' k) → f o = some (c, x, p) → ∃ p', f o' = some (c, x, p') ∧ (∀ k, S k → lk p k = lk p' k) ∧ (∀ k, ¬ S k → lk p k = lk o k ∧ lk p' k = lk o' k)

section
variable {α β : Type} {S : Nat → Prop}

theorem Loc.ret (c : Prop) (x : α) : Loc S (fun o => some (c, x, o)) := by
  intro o o' c' x' p h he
  simp only [Option.some.injEq, Prod.mk.injEq] at he
  obtain ⟨rfl, rfl, rfl⟩ := he
  exact ⟨o', rfl, h, fun k _ => ⟨rfl, rfl⟩⟩
theorem Loc.none : Loc (α := α) S (fun _ => none) := by
  intro o o' c' x' p h he
  cases he
theorem Loc.upd {i : Nat} (hi : S i) (c : Prop) (x : α) (b : Obj) : Loc S (fun o => some (c, x, upd o i b)) := by
  intro o o' c' x' p h he
  simp only [Option.some.injEq, Prod.mk.injEq] at he
  obtain ⟨rfl, rfl, rfl⟩ := he
  refine ⟨_, rfl, fun k hk => ?_, fun k hk => ?_⟩
  · rw [lk_upd, lk_upd, h k hk]
  · have : k ≠ i := fun e => hk (e ▸ hi)
    rw [lk_upd, lk_upd, if_neg this, if_neg this]
    exact ⟨rfl, rfl⟩
theorem Loc.lk {i : Nat} (hi : S i) {g : Option Obj → Objs → Option (Prop × α × Objs)} (h : ∀ v, Loc S (g v)) : Loc S (fun o => g (lk o i) o) := by
  intro o o' c x p ho he
  have := h (Go.Am.lk o i) o o' c x p ho he
  rw [ho i hi] at this
  exact this
theorem Loc.bind {f : Objs → Option (Prop × α × Objs)} {g : Prop → α → Objs → Option (Prop × β × Objs)} (hf : Loc S f) (hg : ∀ c x, Loc S (g c x)) :
    Loc S (fun o => match f o with | some (c, x, p) => g c x p | Option.none => Option.none) := by
  intro o o' c x p ho he
  simp only at he
  split at he
  · next c1 x1 p1 hf1 =>
    obtain ⟨p1', k1, k2, k3⟩ := hf o o' c1 x1 p1 ho hf1
    obtain ⟨p', j1, j2, j3⟩ := hg c1 x1 p1 p1' c x p k2 he
    refine ⟨p', ?_, j2, fun k hk => ⟨(j3 k hk).1.trans (k3 k hk).1, (j3 k hk).2.trans (k3 k hk).2⟩⟩
    simp only [k1]
    exact j1
  · cases he
theorem Loc.bindE {f : Objs → Option (Prop × α × Objs)} {g : Prop → α → Objs → Option (Prop × β × Objs)} {F : Objs → Option (Prop × β × Objs)} (hf : Loc S f) (hg : ∀ c x, Loc S (g c x))
    (h0 : ∀ o, f o = Option.none → F o = Option.none) (h1 : ∀ o c x p, f o = some (c, x, p) → F o = g c x p) : Loc S F := by
  have : F = fun o => match f o with | some (c, x, p) => g c x p | Option.none => Option.none := by
    funext o
    split
    · next c x p h => exact h1 o c x p h
    · next h => exact h0 o h
  rw [this]
  exact Loc.bind hf hg
theorem Loc.lkE {i : Nat} (hi : S i) {g : Option Obj → Objs → Option (Prop × α × Objs)} {F : Objs → Option (Prop × α × Objs)} (h : ∀ v, Loc S (g v)) (hF : ∀ o v, Go.Am.lk o i = v → F o = g v o) : Loc S F := by
  have : F = fun o => g (Go.Am.lk o i) o := by
    funext o
    exact hF o _ rfl
  rw [this]
  exact Loc.lk hi h
theorem Loc.congr {f g : Objs → Option (Prop × α × Objs)} (h : Loc S f) (e : ∀ o, f o = g o) : Loc S g := by
  have : f = g := funext e
  exact this ▸ h
theorem Loc.mono {S' : Nat → Prop} {f : Objs → Option (Prop × α × Objs)} (h : Loc S f) (hs : ∀ k, S k → S' k) : Loc S' f := by
  intro o o' c x p ho he
  obtain ⟨p', k1, k2, k3⟩ := h o o' c x p (fun k hk => ho k (hs k hk)) he
  refine ⟨p', k1, fun k hk => ?_, fun k hk => k3 k (fun h => hk (hs k h))⟩
  by_cases hs : S k
  · exact k2 k hs
  · rw [(k3 k hs).1, (k3 k hs).2, ho k hk]
end

section
variable {C : Ctx} {S : Nat → Prop}

theorem alloc_loc {e key : Nat} {x : AV} (hk : S key) : Loc S (hAlloc C e key x) := by
  refine Loc.congr (Loc.lk (g := fun v o => match C.ag e, v with
    | some ag, none => some (x.fits (C.size e), AV.ref key 0, upd o key (.box ag (x.cells ag (C.size e))))
    | _, _ => none) hk fun v => ?_) (fun o => rfl)
  split
  · exact Loc.upd hk _ _ _
  · exact Loc.none

theorem load_loc {t : Nat} {p : AV} (hk : ∀ k ∈ p.keys, S k) : Loc S (hLoad C t p) := by
  cases p with
  | d x =>
    cases x with
    | ptr s x =>
      refine Loc.congr (f := fun o => match C.ag t with
        | some true => if s = C.size t then some (True, .d x.asAgg, o) else none
        | some false => if s = 1 then some (True, .d (x.cell 0), o) else none
        | none => none) ?_ (fun o => rfl)
      repeat' split
      all_goals first | exact Loc.ret _ _ | exact Loc.none
    | _ => exact Loc.none
  | ref i f =>
    have hi := hk i (by simp [AV.keys])
    refine Loc.congr (Loc.lk (g := fun v o => match v with
      | some (.box _ cells) => match C.ag t with
        | some true => if f + C.size t ≤ cells.length then some (True, mkAgg ((cells.drop f).take (C.size t)), o) else none
        | some false => if f < cells.length then some (True, cells.getD f .dead, o) else none
        | none => none
      | some (.fbox s x) => match C.ag t with
        | some true => if f = 0 ∧ s = C.size t then some (True, .d x.asAgg, o) else none
        | some false => if f < s then some (True, .d (x.cell f), o) else none
        | none => none
      | _ => none) hi fun v => ?_) (fun o => rfl)
    repeat' split
    all_goals first | exact Loc.ret _ _ | exact Loc.none
  | rref i n e f =>
    have hi := hk i (by simp [AV.keys])
    refine Loc.congr (Loc.lk (g := fun v o => match v with
      | some (.row s els _) => match C.ag t with
        | some true => if f = 0 ∧ s = C.size t then some (n = els.length ∧ e < els.length, .d (el els e).asAgg, o) else none
        | some false => if f < s then some (n = els.length ∧ e < els.length, .d ((el els e).cell f), o) else none
        | none => none
      | _ => none) hi fun v => ?_) (fun o => rfl)
    repeat' split
    all_goals first | exact Loc.ret _ _ | exact Loc.none
  | _ => exact Loc.none

/-- With depth 1. -/
theorem pur1_loc {x : AV} (hk : ∀ k ∈ x.keys, S k) : Loc S (pur 1 x) := by
  cases x with
  | d x => exact Loc.ret _ _
  | nils s => exact Loc.ret _ _
  | sl i n =>
    have hi := hk i (by simp [AV.keys])
    refine Loc.lkE hi (g := fun v o => match v with
      | some (.row s els _) => some (n = els.length, D.list s els, upd o i (.row s els els.length))
      | _ => none) (fun v => ?_) (fun o v h => ?_)
    · split
      · exact Loc.upd hi _ _ _
      · exact Loc.none
    · simp only [pur, h]
      rcases v with _ | (_ | _ | _ | _) <;> rfl
  | ref i f =>
    have hi := hk i (by simp [AV.keys])
    cases f with
    | succ f => exact Loc.none
    | zero =>
      refine Loc.lkE hi (g := fun v o => match v with
        | some (.fbox s x) => some (True, D.ptr s x, o)
        | _ => none) (fun v => ?_) (fun o v h => ?_)
      · split
        · exact Loc.ret _ _
        · exact Loc.none
      · simp only [pur, h]
        cases v with
        | none => rfl
        | some ob => cases ob <;> simp [purs]
  | agg l => exact Loc.congr Loc.none (fun o => by cases l <;> simp [pur, purs])
  | tup l => exact Loc.congr Loc.none (fun o => by cases l <;> simp [pur, purs])
  | clo f l => exact Loc.congr Loc.none (fun o => by cases l <;> simp [pur, purs])
  | rref a b c d => exact Loc.none
  | dead => exact Loc.none

theorem store_loc {C : Ctx} (hC : C.dp = 1) {t : Nat} {p x : AV} (hp : ∀ k ∈ p.keys, S k) (hx : ∀ k ∈ x.keys, S k) : Loc S (hStore C t p x) := by
  cases p with
  | ref i f =>
    have hi := hp i (by simp [AV.keys])
    refine Loc.lkE hi (g := fun v o => match v with
      | some (.box ag cells) => match C.ag t with
        | some true => if f + C.size t ≤ cells.length then some (x.fits (C.size t), AV.dead, upd o i (.box ag (splice cells f (x.cells true (C.size t))))) else none
        | some false => if f < cells.length then some (x.fits 1 ∧ C.size t = 1, AV.dead, upd o i (.box ag (splice cells f (x.cells false 1)))) else none
        | none => none
      | _ => none) (fun v => ?_) (fun o v h => ?_)
    · repeat' split
      all_goals first | exact Loc.upd hi _ _ _ | exact Loc.none
    · simp only [hStore, h]
      rcases v with _ | (_ | _ | _ | _) <;> rfl
  | rref i n e f =>
    have hi := hp i (by simp [AV.keys])
    refine Loc.lkE hi (g := fun v o => match v with
      | some (.row _ _ _) => (match pur 1 x o with
        | some (c, y, o') => (match lk o' i with
          | some (.row s els k) => match C.ag t with
            | some true => if f = 0 ∧ s = C.size t then some (c ∧ n = els.length ∧ e < els.length ∧ k ≤ e ∧ y.fits s, AV.dead, upd o' i (.row s (els.set e y) k)) else none
            | some false => if f < s then some (c ∧ n = els.length ∧ e < els.length ∧ k ≤ e ∧ y.fits 1 ∧ C.size t = 1, AV.dead, upd o' i (.row s (els.set e ((el els e).setCell f (y.cell 0))) k)) else none
            | none => none
          | _ => none)
        | none => none)
      | _ => none) (fun v => ?_) (fun o v h => ?_)
    · split
      · refine Loc.bindE (g := fun c y o' => (match lk o' i with
          | some (.row s els k) => match C.ag t with
            | some true => if f = 0 ∧ s = C.size t then some (c ∧ n = els.length ∧ e < els.length ∧ k ≤ e ∧ y.fits s, AV.dead, upd o' i (.row s (els.set e y) k)) else none
            | some false => if f < s then some (c ∧ n = els.length ∧ e < els.length ∧ k ≤ e ∧ y.fits 1 ∧ C.size t = 1, AV.dead, upd o' i (.row s (els.set e ((el els e).setCell f (y.cell 0))) k)) else none
            | none => none
          | _ => none)) (pur1_loc hx) (fun c y => ?_) (fun o h => by simp only [h]) (fun o c x p h => by simp only [h]; try rfl)
        refine Loc.lkE hi (g := fun v o' => match v with
          | some (.row s els k) => match C.ag t with
            | some true => if f = 0 ∧ s = C.size t then some (c ∧ n = els.length ∧ e < els.length ∧ k ≤ e ∧ y.fits s, AV.dead, upd o' i (.row s (els.set e y) k)) else none
            | some false => if f < s then some (c ∧ n = els.length ∧ e < els.length ∧ k ≤ e ∧ y.fits 1 ∧ C.size t = 1, AV.dead, upd o' i (.row s (els.set e ((el els e).setCell f (y.cell 0))) k)) else none
            | none => none
          | _ => none) (fun v => ?_) (fun o v h => by simp only [h]; try rfl)
        repeat' split
        all_goals first | exact Loc.upd hi _ _ _ | exact Loc.none
      · exact Loc.none
    · simp only [hStore, hC, h]
      cases v with
      | none => rfl
      | some ob =>
        cases ob with
        | row s els k =>
          simp only
          cases pur 1 x o with
          | none => rfl
          | some r => rfl
        | _ => rfl
  | _ => exact Loc.none

theorem fieldAddr_loc {t f : Nat} {p : AV} (hp : ∀ k ∈ p.keys, S k) : Loc S (hFieldAddr C t p f) := by
  unfold hFieldAddr
  split
  · next off sz _ =>
    cases p with
    | ref i f0 =>
      have hi := hp i (by simp [AV.keys])
      refine Loc.lkE hi (g := fun v o => match v with
        | some ob => if ob.isBox = true then some (True, .ref i (f0 + off), o) else none
        | none => none) (fun v => ?_) (fun o v h => by simp only [h]; cases v <;> rfl)
      repeat' split
      all_goals first | exact Loc.ret _ _ | exact Loc.none
    | rref i n e f0 =>
      have hi := hp i (by simp [AV.keys])
      refine Loc.lkE hi (g := fun v o => match v with
        | some (.row _ els _) => some (n = els.length, .rref i n e (f0 + off), o)
        | _ => none) (fun v => ?_) (fun o v h => by simp only [h]; rcases v with _ | (_ | _ | _ | _) <;> rfl)
      repeat' split
      all_goals first | exact Loc.ret _ _ | exact Loc.none
    | d x =>
      cases x with
      | ptr s x =>
        simp only
        repeat' split
        all_goals first | exact Loc.ret _ _ | exact Loc.none
      | _ => exact Loc.none
    | _ => exact Loc.none
  · exact Loc.none

theorem indexAddr_loc {t : Nat} {x ix : AV} (hp : ∀ k ∈ x.keys, S k) : Loc S (hIndexAddr C t x ix) := by
  unfold hIndexAddr
  split
  · next e i _ =>
    cases x with
    | d y => exact Loc.ret _ _
    | sl k n =>
      have hi := hp k (by simp [AV.keys])
      refine Loc.lkE hi (g := fun v o => match v with
        | some (.row s els _) => if s = C.size e then some (n = els.length ∧ i.isAnyInt ∧ 0 ≤ i.i ∧ i.i < els.length, .rref k n i.i.toNat 0, o) else none
        | _ => none) (fun v => ?_) (fun o v h => by simp only [h]; rcases v with _ | (_ | _ | _ | _) <;> rfl)
      repeat' split
      all_goals first | exact Loc.ret _ _ | exact Loc.none
    | _ => exact Loc.none
  · next n e k j _ =>
    split
    · cases x with
      | ref i f0 =>
        have hi := hp i (by simp [AV.keys])
        refine Loc.lkE hi (g := fun v o => match v with
          | some ob => if ob.isBox = true then some (True, .ref i (f0 + j.toNat), o) else none
          | none => none) (fun v => ?_) (fun o v h => by simp only [h]; cases v <;> rfl)
        repeat' split
        all_goals first | exact Loc.ret _ _ | exact Loc.none
      | d y =>
        cases y with
        | ptr s y =>
          simp only
          repeat' split
          all_goals first | exact Loc.ret _ _ | exact Loc.none
        | _ => exact Loc.none
      | _ => exact Loc.none
    · exact Loc.none
  · exact Loc.none

theorem index_loc {t : Nat} {x ix : AV} : Loc S (hIndex C t x ix) := by
  unfold hIndex
  split
  · exact Loc.ret _ _
  · exact Loc.none

theorem slice_loc (hC : C.dp = 1) {t : Nat} {x : AV} {lo hi mx : Option AV} (hp : ∀ k ∈ x.keys, S k) : Loc S (hSlice C t x lo hi mx) := by
  unfold hSlice
  split
  · split
    · split
      all_goals first | exact Loc.ret _ _ | exact Loc.none
    · exact Loc.none
  · next e _ =>
    refine Loc.bindE (g := fun c y o' => match lo, hi with
      | some (.d a), some (.d b) => some (c ∧ y.isList (C.size e) ∧ a.isAnyInt ∧ b.isAnyInt ∧ 0 ≤ a.i ∧ a.i ≤ b.i ∧ b.i ≤ y.l.length, .d (.list (C.size e) ((y.l.take b.i.toNat).drop a.i.toNat)), o')
      | some (.d a), none => some (c ∧ y.isList (C.size e) ∧ a.isAnyInt ∧ 0 ≤ a.i ∧ a.i ≤ y.l.length, .d (.list (C.size e) (y.l.drop a.i.toNat)), o')
      | none, some (.d b) => some (c ∧ y.isList (C.size e) ∧ b.isAnyInt ∧ 0 ≤ b.i ∧ b.i ≤ y.l.length, .d (.list (C.size e) (y.l.take b.i.toNat)), o')
      | _, _ => none) (pur1_loc hp) (fun c y => ?_) (fun o h => by simp only [hC, h]) (fun o c x p h => by simp only [hC, h]; try rfl)
    split
    all_goals first | exact Loc.ret _ _ | exact Loc.none
  · exact Loc.none

theorem extract_loc {x : AV} {i : Nat} : Loc S (hExtract x i) := by
  unfold hExtract
  split
  · split
    all_goals first | exact Loc.ret _ _ | exact Loc.none
  · split
    all_goals first | exact Loc.ret _ _ | exact Loc.none
  · exact Loc.none

theorem field_loc {t f : Nat} {x : AV} : Loc S (hField C t x f) := by
  unfold hField
  split
  · split
    · split
      · exact Loc.ret _ _
      · split
        all_goals first | exact Loc.ret _ _ | exact Loc.none
      · exact Loc.none
    · exact Loc.none
  · exact Loc.none

theorem purParts_loc (hC : C.dp = 1) : ∀ {ps : List (Nat × AV)} (_ : ∀ k ∈ keysAll (ps.map (·.2)), S k), Loc S (purParts C ps)
  | [], _ => Loc.ret _ _
  | (i, x) :: r, h => by
    simp only [List.map_cons, keysAll, List.mem_append] at h
    refine Loc.bindE (g := fun c y o' => match purParts C r o' with
      | some (c', l, o'') => some (c ∧ c', (i, y) :: l, o'')
      | none => none) (pur1_loc (fun k hk => h k (.inl hk))) (fun c y => ?_) (fun o e => by simp only [purParts, hC, e]) (fun o c x p e => by simp only [purParts, hC, e]; try rfl)
    refine Loc.bindE (g := fun c' l o'' => some (c ∧ c', (i, y) :: l, o'')) (purParts_loc hC (fun k hk => h k (.inr hk))) (fun c y => Loc.ret _ _) (fun o e => by simp only [e]) (fun o c x p e => by simp only [e]; try rfl)

theorem buildSlice_loc (hC : C.dp = 1) {t n key : Nat} {ps : List (Nat × AV)} (hp : ∀ k ∈ keysAll (ps.map (·.2)), S k) (hk : S key) : Loc S (hBuildSlice C t n ps key) := by
  unfold hBuildSlice
  split
  · next e _ =>
    refine Loc.bindE (g := fun c qs o' => match lk o' key with
      | none => if n * C.size e ≤ 16777216 ∧ allLt n ps = true then
          some (c ∧ allFit (C.size e) (qs.map (·.2)), AV.sl key n, upd o' key (.row (C.size e) (setAll (zerosD (C.τ e).zd n) qs) 0)) else none
      | some _ => none) (purParts_loc hC hp) (fun c y => ?_) (fun o e => by simp only [e]) (fun o c x p e => by simp only [e]; try rfl)
    refine Loc.lkE hk (g := fun v o' => match v with
      | none => if n * C.size e ≤ 16777216 ∧ allLt n ps = true then
          some (c ∧ allFit (C.size e) (y.map (·.2)), AV.sl key n, upd o' key (.row (C.size e) (setAll (zerosD (C.τ e).zd n) y) 0)) else none
      | some _ => none) (fun v => ?_) (fun o v h => by simp only [h]; try rfl)
    repeat' split
    all_goals first | exact Loc.upd hk _ _ _ | exact Loc.none
  · exact Loc.none

theorem makeSlice_loc {t key : Nat} {l c : AV} (hk : S key) : Loc S (hMakeSlice C t l c key) := by
  unfold hMakeSlice
  split
  · next e a b _ =>
    refine Loc.lkE hk (g := fun v o => match v with
      | none => some (a.isAnyInt ∧ b.isAnyInt ∧ 0 ≤ a.i ∧ a.i = b.i ∧ (C.τ e).bytes * b.i ≤ 281474976710656 ∧ b.i ≤ 4294967296,
          AV.sl key a.i.toNat, upd o key (.row (C.size e) (List.replicate a.i.toNat (C.τ e).zd) 0))
      | some _ => none) (fun v => ?_) (fun o v h => by simp only [h]; cases v <;> rfl)
    repeat' split
    all_goals first | exact Loc.upd hk _ _ _ | exact Loc.none
  · exact Loc.none

theorem source_loc {s : Nat} {x : AV} (hx : ∀ k ∈ x.keys, S k) {o o' : Objs} (h : ∀ k, S k → lk o k = lk o' k) : hSource s x o = hSource s x o' := by
  cases x with
  | sl i n => simp only [hSource, h i (hx i (by simp [AV.keys]))]
  | _ => rfl

theorem append_loc {t key : Nat} {s x : AV} (hs : ∀ k ∈ s.keys, S k) (hx : ∀ k ∈ x.keys, S k) (hk : S key) : Loc S (hAppend C t s x key) := by
  intro o o' c z p ho he
  have hsrc : ∀ s', hSource s' x o' = hSource s' x o := fun s' => (source_loc hx ho).symm
  unfold hAppend at he ⊢
  simp only [hsrc]
  revert he
  split
  · next e _ =>
    split
    · next c1 xs _ =>
      cases s with
      | nils s =>
        have h2 : Loc S (fun o => match lk o key with
          | none => some (c1 ∧ xs.length * (C.τ e).bytes ≤ 140737488355328 ∧ xs.length ≤ 4611686018427387904, AV.sl key xs.length, upd o key (.row (C.size e) xs 0))
          | some _ => none) := by
          refine Loc.lkE hk (g := fun v o => match v with
            | none => some (c1 ∧ xs.length * (C.τ e).bytes ≤ 140737488355328 ∧ xs.length ≤ 4611686018427387904, AV.sl key xs.length, upd o key (.row (C.size e) xs 0))
            | some _ => none) (fun v => ?_) (fun o v h => by simp only [h]; try rfl)
          repeat' split
          all_goals first | exact Loc.upd hk _ _ _ | exact Loc.none
        exact h2 o o' c z p ho
      | sl i n =>
        have hi := hs i (by simp [AV.keys])
        have h2 : Loc S (fun o => match lk o i with
          | some (.row s' els k) => if s' = C.size e then
              some (c1 ∧ n = els.length ∧ (els.length + xs.length) * (C.τ e).bytes ≤ 140737488355328 ∧ els.length + xs.length ≤ 4611686018427387904, AV.sl i (els ++ xs).length, upd o i (.row s' (els ++ xs) k)) else none
          | _ => none) := by
          refine Loc.lkE hi (g := fun v o => match v with
            | some (.row s' els k) => if s' = C.size e then
              some (c1 ∧ n = els.length ∧ (els.length + xs.length) * (C.τ e).bytes ≤ 140737488355328 ∧ els.length + xs.length ≤ 4611686018427387904, AV.sl i (els ++ xs).length, upd o i (.row s' (els ++ xs) k)) else none
            | _ => none) (fun v => ?_) (fun o v h => by simp only [h]; try rfl)
          repeat' split
          all_goals first | exact Loc.upd hi _ _ _ | exact Loc.none
        exact h2 o o' c z p ho
      | _ => intro he; cases he
    · intro he; cases he
  · intro he; cases he

theorem len_loc {t : Nat} {x : AV} (hx : ∀ k ∈ x.keys, S k) : Loc S (hLen C t x) := by
  unfold hLen
  split
  · exact Loc.ret _ _
  · exact Loc.ret _ _
  · exact Loc.ret _ _
  · next i n _ =>
    have hi := hx i (by simp [AV.keys])
    refine Loc.lkE hi (g := fun v o => match v with
      | some (.row _ els _) => some (n = els.length, AV.d (.int .i64 els.length), o)
      | _ => none) (fun v => ?_) (fun o v h => by simp only [h]; rcases v with _ | (_ | _ | _ | _) <;> rfl)
    repeat' split
    all_goals first | exact Loc.ret _ _ | exact Loc.none
  · exact Loc.none

theorem inArgs_loc (hC : C.dp = 1) : ∀ {xs : List AV} {ms : List Bool} (_ : ∀ k ∈ keysAll xs, S k), Loc S (inArgs C ms xs)
  | [], ms, _ => by cases ms <;> exact Loc.ret _ _
  | x :: r, [], _ => Loc.none
  | x :: r, false :: ms, h => by
    simp only [keysAll, List.mem_append] at h
    refine Loc.bindE (g := fun c y o' => match inArgs C ms r o' with
      | some (c', l, o'') => some (c ∧ c', CV.d y :: l, o'')
      | none => none) (pur1_loc (fun k hk => h k (.inl hk))) (fun c y => ?_) (fun o e => by simp only [inArgs, hC, e]) (fun o c x p e => by simp only [inArgs, hC, e]; try rfl)
    refine Loc.bindE (g := fun c' l o'' => some (c ∧ c', CV.d y :: l, o'')) (inArgs_loc hC (xs := r) (ms := ms) (fun k hk => h k (.inr hk))) (fun c y => Loc.ret _ _) (fun o e => by simp only [e]) (fun o c x p e => by simp only [e]; try rfl)
  | x :: r, true :: ms, h => by
    simp only [keysAll, List.mem_append] at h
    have ih := inArgs_loc hC (ms := ms) (fun k hk => h k (.inr hk))
    cases x with
    | sl i n =>
      have hi := h i (.inl (by simp [AV.keys]))
      refine Loc.lkE hi (g := fun v o => match v with
        | some (.row s els k) => (match inArgs C ms r (upd o i .gone) with
          | some (c, l, o') => some (c ∧ n = els.length ∧ k = 0, CV.own s els :: l, o')
          | none => none)
        | _ => none) (fun v => ?_) (fun o v h => by simp only [inArgs, h]; try rfl)
      split
      · next s els k =>
        refine Loc.bindE (f := fun o => some (True, (), upd o i .gone)) (g := fun _ _ o => match inArgs C ms r o with
          | some (c, l, o') => some (c ∧ n = els.length ∧ k = 0, CV.own s els :: l, o')
          | none => none) (Loc.upd hi _ _ _) (fun _ _ => ?_) (fun o e => by cases e) (fun o c x p e => by
            simp only [Option.some.injEq, Prod.mk.injEq] at e
            obtain ⟨_, _, rfl⟩ := e
            rfl)
        refine Loc.bindE (g := fun c l o' => some (c ∧ n = els.length ∧ k = 0, CV.own s els :: l, o')) ih (fun c y => Loc.ret _ _) (fun o e => by simp only [e]) (fun o c x p e => by simp only [e]; try rfl)
      · exact Loc.none
    | nils s =>
      refine Loc.bindE (g := fun c l o' => some (c, CV.own s [] :: l, o')) ih (fun c y => Loc.ret _ _) (fun o e => by simp only [inArgs, e]) (fun o c x p e => by simp only [inArgs, e]; try rfl)
    | _ => exact Loc.none

/-- The keys that a call may lay objects under. -/
theorem outAll_loc : ∀ {l : List CV} {key : Nat} (_ : ∀ j, S (key + 4096 * j)), Loc S (fun o => match outAll key l o with
    | some (ys, o') => some (True, ys, o')
    | none => none)
  | [], key, _ => Loc.congr (Loc.ret True []) (fun o => rfl)
  | x :: r, key, hk => by
    have hk0 : S key := hk 0
    have ih := outAll_loc (l := r) (key := key + 4096) (fun j => by have := hk (j + 1); rwa [Nat.mul_add, Nat.mul_one, Nat.add_comm (4096 * j), ← Nat.add_assoc] at this)
    cases x with
    | tup l => exact Loc.congr Loc.none (fun o => by simp only [outAll, outOne])
    | d y =>
      refine Loc.bindE (g := fun _ ys o' => some (True, AV.d y :: ys, o')) ih (fun c y => Loc.ret _ _) (fun o h => ?_) (fun o c x p h => ?_)
      · simp only [outAll, outOne]
        split at h
        · cases h
        · next h2 => simp only [h2]
      · simp only [outAll, outOne]
        split at h
        · next h2 =>
          simp only [Option.some.injEq, Prod.mk.injEq] at h
          obtain ⟨_, rfl, rfl⟩ := h
          simp only [h2]
        · cases h
    | own s l =>
      refine Loc.lkE hk0 (g := fun v o => match v with
        | none => (match outAll (key + 4096) r (upd o key (.row s l 0)) with
          | some (ys, o') => some (True, AV.sl key l.length :: ys, o')
          | none => none)
        | some _ => none) (fun v => ?_) (fun o v h => ?_)
      · split
        · refine Loc.bindE (f := fun o => some (True, (), upd o key (.row s l 0))) (g := fun _ _ o => match outAll (key + 4096) r o with
            | some (ys, o') => some (True, AV.sl key l.length :: ys, o')
            | none => none) (Loc.upd hk0 _ _ _) (fun _ _ => ?_) (fun o e => by cases e) (fun o c x p e => by
              simp only [Option.some.injEq, Prod.mk.injEq] at e
              obtain ⟨_, _, rfl⟩ := e
              rfl)
          refine Loc.bindE (g := fun _ ys o' => some (True, AV.sl key l.length :: ys, o')) ih (fun c y => Loc.ret _ _) (fun o h => ?_) (fun o c x p h => ?_)
          · split at h
            · cases h
            · next h2 => simp only [h2]
          · split at h
            · next h2 =>
              simp only [Option.some.injEq, Prod.mk.injEq] at h
              obtain ⟨_, rfl, rfl⟩ := h
              simp only [h2]
            · cases h
        · exact Loc.none
      · simp only [outAll, outOne, h]
        cases v with
        | some _ => rfl
        | none =>
          simp only
          cases outAll (key + 4096) r (upd o key (.row s l 0)) with
          | none => rfl
          | some q => rfl

theorem outCV_loc {x : CV} {key : Nat} (hk : ∀ j, S (key + 4096 * j)) : Loc S (fun o => match outCV key x o with
    | some (y, o') => some (True, y, o')
    | none => none) := by
  cases x with
  | tup l =>
    refine Loc.bindE (g := fun _ ys o' => some (True, mkTup ys, o')) (outAll_loc (l := l) hk) (fun c y => Loc.ret _ _) (fun o h => ?_) (fun o c x p h => ?_)
    · simp only [outCV]
      split at h
      · cases h
      · next h2 => simp only [h2]
    · simp only [outCV]
      split at h
      · next h2 =>
        simp only [Option.some.injEq, Prod.mk.injEq] at h
        obtain ⟨_, rfl, rfl⟩ := h
        simp only [h2]
      · cases h
  | d y => exact Loc.congr (Loc.ret True (AV.d y)) (fun o => rfl)
  | own s l =>
    refine Loc.lkE (hk 0) (g := fun v o => match v with
      | none => some (True, AV.sl key l.length, upd o key (.row s l 0))
      | some _ => none) (fun v => ?_) (fun o v h => ?_)
    · split
      · exact Loc.upd (hk 0) _ _ _
      · exact Loc.none
    · have h' : lk o key = v := by simpa using h
      simp only [outCV, outOne, h']
      cases v <;> rfl

theorem call_loc (hC : C.dp = 1) {f key : Nat} {args : List AV} (ha : ∀ k ∈ keysAll args, S k) (hk : ∀ j, S (key + 4096 * j)) : Loc S (hCall C f args key) := by
  unfold hCall
  split
  · next con _ =>
    refine Loc.bindE (g := fun c cvs o' => match outCV key (con.fn cvs) o' with
      | some (y, o'') => some (c ∧ con.pre cvs, y, o'')
      | none => none) (inArgs_loc hC (ms := con.modes) ha) (fun c cvs => ?_) (fun o h => by simp only [h]) (fun o c x p h => by simp only [h]; try rfl)
    refine Loc.bindE (g := fun _ y o' => some (c ∧ con.pre cvs, y, o')) (outCV_loc (x := con.fn cvs) hk) (fun c y => Loc.ret _ _) (fun o h => ?_) (fun o c x p h => ?_)
    · split at h
      · cases h
      · next h2 => simp only [h2]
    · split at h
      · next h2 =>
        simp only [Option.some.injEq, Prod.mk.injEq] at h
        obtain ⟨_, rfl, rfl⟩ := h
        simp only [h2]
      · cases h
  · exact Loc.none

theorem keysAll_append : ∀ {a b : List AV}, keysAll (a ++ b) = keysAll a ++ keysAll b
  | [], b => rfl
  | x :: a, b => by simp [keysAll, keysAll_append (a := a), List.append_assoc]
theorem keysAll_d : ∀ (l : List D), keysAll (l.map .d) = []
  | [] => rfl
  | x :: l => by simp [keysAll, AV.keys, keysAll_d l]

theorem callV_loc (hC : C.dp = 1) {f : AV} {key : Nat} {args : List AV} (hf : ∀ k ∈ f.keys, S k) (ha : ∀ k ∈ keysAll args, S k) (hk : ∀ j, S (key + 4096 * j)) : Loc S (hCallV C f args key) := by
  cases f with
  | d x =>
    cases x with
    | clo g caps =>
      refine call_loc hC (fun k h => ?_) hk
      rw [keysAll_append, keysAll_d, List.append_nil] at h
      exact ha k h
    | _ => exact Loc.none
  | clo g caps =>
    refine call_loc hC (fun k h => ?_) hk
    rw [keysAll_append, List.mem_append] at h
    rcases h with h | h
    · exact ha k h
    · exact hf k (by simpa [AV.keys] using h)
  | _ => exact Loc.none


/-- Which objects: those whose numbers are so, modulo 4096. -/
def Among (l : List Nat) (k : Nat) : Prop := k % 4096 ∈ l

theorem ev_keys {st : AS} (hint : Nat) (x : Operand) : (st.ev C hint x).keys = (st.ev C 0 x).keys := by
  cases x with
  | const v =>
    simp only [AS.ev]
    unfold constAV
    split
    · rfl
    · rfl
  | _ => rfl

theorem mem_keysAll {k : Nat} : ∀ {l : List AV}, k ∈ keysAll l ↔ ∃ x ∈ l, k ∈ x.keys
  | [] => by simp [keysAll]
  | x :: l => by simp [keysAll, mem_keysAll (l := l)]

theorem evs_keys {st : AS} : ∀ (xs : List Operand) (ts : List Nat), keysAll (evs C st xs ts) = keysAll (xs.map (st.ev C 0))
  | [], ts => by cases ts <;> rfl
  | x :: xs, [] => by simp [evs, keysAll, evs_keys xs []]
  | x :: xs, t :: ts => by simp [evs, keysAll, evs_keys xs ts, ev_keys t x]

theorem evParts_keys {st : AS} (h : Nat) : ∀ (ps : List (Nat × Operand)), keysAll ((evParts C st h ps).map (·.2)) = keysAll ((ps.map (·.2)).map (st.ev C 0))
  | [] => rfl
  | (i, x) :: ps => by simp [evParts, keysAll, evParts_keys h ps, ev_keys h x]

/-- What an operation comes to hangs on few objects, and turns no others. -/
theorem opStep_loc (hC : C.dp = 1) (o : Oper) (st : AS) : Loc (Among (fpOf C o st)) (fun os => opStep C o ⟨st.tmps, os⟩) := by
  have hev : ∀ (hint : Nat) (x : Operand), x ∈ opnds o.op → ∀ k ∈ (AS.ev C st hint x).keys, Among (fpOf C o st) k := by
    intro hint x hx k hk
    unfold Among fpOf
    rw [List.mem_map]
    refine ⟨k, List.mem_append_left _ (mem_keysAll.2 ⟨_, List.mem_map.2 ⟨x, hx, rfl⟩, ?_⟩), rfl⟩
    rwa [ev_keys] at hk
  have hown : ∀ k, o.dst = some k → makes o.op = true → ∀ j, Among (fpOf C o st) (k + 4096 * j) := by
    intro k hk hm j
    unfold Among fpOf
    rw [List.mem_map]
    refine ⟨k, List.mem_append_right _ (by simp [hk, ownKey, hm]), by omega⟩
  have hown0 : ∀ k, o.dst = some k → makes o.op = true → Among (fpOf C o st) k := fun k hk hm => by simpa using hown k hk hm 0
  have E : ∀ (os : Objs) (hint : Nat) (x : Operand), AS.ev C ⟨st.tmps, os⟩ hint x = AS.ev C st hint x := fun os hint x => by cases x <;> rfl
  have ES : ∀ (os : Objs) (xs : List Operand) (ts : List Nat), evs C ⟨st.tmps, os⟩ xs ts = evs C st xs ts := by
    intro os xs
    induction xs with
    | nil => intro ts; cases ts <;> rfl
    | cons x xs ih => intro ts; cases ts <;> simp [evs, ih, E]
  have EP : ∀ (os : Objs) (h : Nat) (ps : List (Nat × Operand)), evParts C ⟨st.tmps, os⟩ h ps = evParts C st h ps := by
    intro os h ps
    induction ps with
    | nil => rfl
    | cons p ps ih => obtain ⟨i, x⟩ := p; simp [evParts, ih, E]
  have EO : ∀ (os : Objs) (t : Nat) (x : Option Operand), evO C ⟨st.tmps, os⟩ t x = evO C st t x := by
    intro os t x; cases x <;> simp [evO, E]
  unfold opStep
  simp only [E, ES, EP, EO]
  have args : ∀ (xs : List Operand) (ts : List Nat), (∀ x ∈ xs, x ∈ opnds o.op) → ∀ k ∈ keysAll (evs C st xs ts), Among (fpOf C o st) k := by
    intro xs ts hx k hk
    rw [evs_keys, mem_keysAll] at hk
    obtain ⟨a, ha, hka⟩ := hk
    obtain ⟨x, hx1, rfl⟩ := List.mem_map.1 ha
    exact hev 0 x (hx x hx1) k hka
  have parts : ∀ (h : Nat) (ps : List (Nat × Operand)), (∀ x ∈ ps.map (·.2), x ∈ opnds o.op) → ∀ k ∈ keysAll ((evParts C st h ps).map (·.2)), Among (fpOf C o st) k := by
    intro h ps hx k hk
    rw [evParts_keys, mem_keysAll] at hk
    obtain ⟨a, ha, hka⟩ := hk
    obtain ⟨x, hx1, rfl⟩ := List.mem_map.1 ha
    exact hev 0 x (hx x hx1) k hka
  split
  case h_1 => exact Loc.ret _ _
  case h_2 => exact Loc.ret _ _
  case h_3 => split <;> first | exact Loc.ret _ _ | exact Loc.none
  case h_4 e hop =>
    split
    · next k hk => exact alloc_loc (hown0 k hk (by simp [hop, makes]))
    · exact Loc.none
  case h_5 e x hop =>
    split
    · next k hk => exact alloc_loc (hown0 k hk (by simp [hop, makes]))
    · exact Loc.none
  case h_6 t ps hop =>
    unfold hBuild
    split
    · next fs _ =>
      have : ∀ (r : List (Nat × AV)) (cells : List AV) (c : Prop), Loc (Among (fpOf C o st)) (fun os => buildGo os fs cells r c) := by
        intro r
        induction r with
        | nil => intro cells c; exact Loc.ret _ _
        | cons p r ih =>
          intro cells c
          obtain ⟨i, x⟩ := p
          simp only [buildGo]
          split
          · split
            · exact ih _ _
            · exact Loc.none
          · exact Loc.none
      exact this _ _ _
    · exact Loc.none
  case h_7 t n ps hop =>
    split
    · next k hk => exact buildSlice_loc hC (parts _ _ (fun x hx => by simpa [hop, opnds] using hx)) (hown0 k hk (by simp [hop, makes]))
    · exact Loc.none
  case h_8 t p hop => exact load_loc (hev 0 p (by simp [hop, opnds]))
  case h_9 t p x hop => exact store_loc hC (hev 0 p (by simp [hop, opnds])) (hev t x (by simp [hop, opnds]))
  case h_10 =>
    unfold pureOut
    split <;> first | exact Loc.ret _ _ | exact Loc.none
  case h_11 =>
    unfold pureOut
    split <;> first | exact Loc.ret _ _ | exact Loc.none
  case h_12 =>
    unfold pureOut
    split <;> first | exact Loc.ret _ _ | exact Loc.none
  case h_13 => split <;> first | exact Loc.ret _ _ | exact Loc.none
  case h_14 t l c hop =>
    split
    · next k hk => exact makeSlice_loc (hown0 k hk (by simp [hop, makes]))
    · exact Loc.none
  case h_15 t x lo hi mx hop => exact slice_loc hC (hev t x (by simp [hop, opnds]))
  case h_16 t p f hop => exact fieldAddr_loc (hev 0 p (by simp [hop, opnds]))
  case h_17 t x f hop => exact field_loc
  case h_18 t x i hop => exact indexAddr_loc (hev t x (by simp [hop, opnds]))
  case h_19 t x i hop => exact index_loc
  case h_20 x i hop => exact extract_loc
  case h_21 cl hop =>
    split
    case h_1 hcal =>
      split
      · next x t hx ht => exact len_loc (hev t x (by simp [hop, opnds, hcal, hx]))
      · exact Loc.none
    case h_2 hcal =>
      split
      · next s x t t' k hx ht hk =>
        split
        · exact append_loc (hev t s (by simp [hop, opnds, hcal, hx])) (hev t' x (by simp [hop, opnds, hcal, hx])) (hown0 k hk (by simp [hop, makes, hcal]))
        · exact Loc.none
      · exact Loc.none
    case h_3 =>
      split
      · unfold pureOut
        split <;> first | exact Loc.ret _ _ | exact Loc.none
      · exact Loc.none
    case h_4 =>
      split
      · unfold pureOut
        split <;> first | exact Loc.ret _ _ | exact Loc.none
      · exact Loc.none
    case h_5 f hcal =>
      split
      · next k hk => exact call_loc hC (args _ _ (fun x hx => by simp only [hop, opnds, hcal]; exact List.mem_cons_of_mem _ hx)) (hown k hk (by simp [hop, makes, hcal]))
      · exact Loc.none
    case h_6 f hcal =>
      split
      · next k hk => exact callV_loc hC (hev 0 (.tmp f) (by simp [hop, opnds, hcal])) (args _ _ (fun x hx => by simp only [hop, opnds, hcal]; exact List.mem_cons_of_mem _ hx)) (hown k hk (by simp [hop, makes, hcal]))
      · exact Loc.none
    case h_7 => exact Loc.none
  case h_22 => exact Loc.none

/-- What only looks turns nothing. -/
theorem opStep_ro {o : Oper} {st : AS} {c : Prop} {x : AV} {p : Objs} (hr : roOf o.op = true) (h : opStep C o st = some (c, x, p)) : p = st.objs := by
  unfold opStep at h
  split at h
  case h_1 => simp only [Option.some.injEq, Prod.mk.injEq] at h; exact h.2.2.symm
  case h_2 => simp only [Option.some.injEq, Prod.mk.injEq] at h; exact h.2.2.symm
  case h_3 => split at h <;> simp_all
  case h_4 hop => simp [hop, roOf] at hr
  case h_5 hop => simp [hop, roOf] at hr
  case h_6 t ps hop =>
    unfold hBuild at h
    split at h
    · next fs _ =>
      have : ∀ (r : List (Nat × AV)) (cells : List AV) (c0 : Prop), buildGo st.objs fs cells r c0 = some (c, x, p) → p = st.objs := by
        intro r
        induction r with
        | nil =>
          intro cells c0 h
          simp only [buildGo, Option.some.injEq, Prod.mk.injEq] at h
          exact h.2.2.symm
        | cons q r ih =>
          intro cells c0 h
          obtain ⟨i, y⟩ := q
          simp only [buildGo] at h
          split at h
          · split at h
            · exact ih _ _ h
            · cases h
          · cases h
      exact this _ _ _ h
    · cases h
  case h_7 hop => simp [hop, roOf] at hr
  case h_8 t q hop =>
    unfold hLoad at h
    repeat' split at h
    all_goals first | (simp only [Option.some.injEq, Prod.mk.injEq] at h; exact h.2.2.symm) | cases h
  case h_9 hop => simp [hop, roOf] at hr
  case h_10 =>
    unfold pureOut at h
    split at h
    all_goals first | (simp only [Option.some.injEq, Prod.mk.injEq] at h; exact h.2.2.symm) | cases h
  case h_11 =>
    unfold pureOut at h
    split at h
    all_goals first | (simp only [Option.some.injEq, Prod.mk.injEq] at h; exact h.2.2.symm) | cases h
  case h_12 =>
    unfold pureOut at h
    split at h
    all_goals first | (simp only [Option.some.injEq, Prod.mk.injEq] at h; exact h.2.2.symm) | cases h
  case h_13 =>
    split at h
    all_goals first | (simp only [Option.some.injEq, Prod.mk.injEq] at h; exact h.2.2.symm) | cases h
  case h_14 hop => simp [hop, roOf] at hr
  case h_15 hop => simp [hop, roOf] at hr
  case h_16 =>
    unfold hFieldAddr at h
    repeat' split at h
    all_goals first | (simp only [Option.some.injEq, Prod.mk.injEq] at h; exact h.2.2.symm) | cases h
  case h_17 =>
    unfold hField at h
    repeat' split at h
    all_goals first | (simp only [Option.some.injEq, Prod.mk.injEq] at h; exact h.2.2.symm) | cases h
  case h_18 =>
    unfold hIndexAddr at h
    repeat' split at h
    all_goals first | (simp only [Option.some.injEq, Prod.mk.injEq] at h; exact h.2.2.symm) | cases h
  case h_19 =>
    unfold hIndex at h
    repeat' split at h
    all_goals first | (simp only [Option.some.injEq, Prod.mk.injEq] at h; exact h.2.2.symm) | cases h
  case h_20 =>
    unfold hExtract at h
    repeat' split at h
    all_goals first | (simp only [Option.some.injEq, Prod.mk.injEq] at h; exact h.2.2.symm) | cases h
  case h_21 cl hop =>
    split at h
    case h_1 =>
      split at h
      · unfold hLen at h
        repeat' split at h
        all_goals first | (simp only [Option.some.injEq, Prod.mk.injEq] at h; exact h.2.2.symm) | cases h
      · cases h
    case h_2 hcal => simp [hop, roOf, hcal] at hr
    case h_3 hcal => simp [hop, roOf, hcal] at hr
    case h_4 hcal => simp [hop, roOf, hcal] at hr
    case h_5 hcal => simp [hop, roOf, hcal] at hr
    case h_6 hcal => simp [hop, roOf, hcal] at hr
    case h_7 => cases h
  case h_22 => cases h

/-- It hangs on the slots that it looks at. -/
theorem opStep_congr {o : Oper} {s s' : AS} (ho : s.objs = s'.objs) (h : ∀ x ∈ opnds o.op, ∀ hint, s.ev C hint x = s'.ev C hint x) : opStep C o s = opStep C o s' := by
  have args : ∀ (xs : List Operand) (ts : List Nat), (∀ x ∈ xs, x ∈ opnds o.op) → evs C s xs ts = evs C s' xs ts := by
    intro xs
    induction xs with
    | nil => intro ts _; cases ts <;> rfl
    | cons x xs ih =>
      intro ts hx
      have h1 := fun hint => h x (hx x (by simp)) hint
      cases ts <;> simp [evs, h1, ih _ (fun y hy => hx y (List.mem_cons_of_mem _ hy))]
  have parts : ∀ (hint : Nat) (ps : List (Nat × Operand)), (∀ x ∈ ps.map (·.2), x ∈ opnds o.op) → evParts C s hint ps = evParts C s' hint ps := by
    intro hint ps
    induction ps with
    | nil => intro _; rfl
    | cons q ps ih =>
      intro hx
      obtain ⟨i, x⟩ := q
      have h1 := h x (hx x (by simp)) hint
      simp [evParts, h1, ih (fun y hy => hx y (by simp only [List.map_cons]; exact List.mem_cons_of_mem _ hy))]
  have opt : ∀ (t : Nat) (x : Option Operand), (∀ y ∈ x.toList, y ∈ opnds o.op) → evO C s t x = evO C s' t x := by
    intro t x hx
    cases x with
    | none => rfl
    | some x => simp [evO, h x (hx x (by simp))]
  unfold opStep
  rw [ho]
  split
  case h_1 x hop => rw [h x (by simp [hop, opnds])]
  case h_2 x hop => rw [h x (by simp [hop, opnds])]
  case h_3 c a b hop => rw [h c (by simp [hop, opnds]), h a (by simp [hop, opnds]), h b (by simp [hop, opnds])]
  case h_4 => rfl
  case h_5 e x hop => rw [h x (by simp [hop, opnds])]
  case h_6 t ps hop => rw [parts _ _ (fun x hx => by simpa [hop, opnds] using hx)]
  case h_7 t n ps hop => rw [parts _ _ (fun x hx => by simpa [hop, opnds] using hx)]
  case h_8 t p hop => rw [h p (by simp [hop, opnds])]
  case h_9 t p x hop => rw [h p (by simp [hop, opnds]), h x (by simp [hop, opnds])]
  case h_10 op t x y ty hop => rw [h x (by simp [hop, opnds]), h y (by simp [hop, opnds])]
  case h_11 op t x hop => rw [h x (by simp [hop, opnds])]
  case h_12 s1 t x hop => rw [h x (by simp [hop, opnds])]
  case h_13 f first caps hop => rw [args _ _ (fun x hx => by simpa [hop, opnds] using hx)]
  case h_14 t l c hop => rw [h l (by simp [hop, opnds]), h c (by simp [hop, opnds])]
  case h_15 t x lo hi mx hop =>
    rw [h x (by simp [hop, opnds]), opt 0 lo (fun y hy => by simp only [hop, opnds]; simp only [List.mem_cons, List.mem_append]; exact .inr (.inl (.inl hy))),
      opt 0 hi (fun y hy => by simp only [hop, opnds]; simp only [List.mem_cons, List.mem_append]; exact .inr (.inl (.inr hy))),
      opt 0 mx (fun y hy => by simp only [hop, opnds]; simp only [List.mem_cons, List.mem_append]; exact .inr (.inr hy))]
  case h_16 t p f hop => rw [h p (by simp [hop, opnds])]
  case h_17 t x f hop => rw [h x (by simp [hop, opnds])]
  case h_18 t x i hop => rw [h x (by simp [hop, opnds]), h i (by simp [hop, opnds])]
  case h_19 t x i hop => rw [h x (by simp [hop, opnds]), h i (by simp [hop, opnds])]
  case h_20 x i hop => rw [h x (by simp [hop, opnds])]
  case h_21 cl hop =>
    split
    case h_1 hcal =>
      split
      · next x t hx ht => rw [h x (by simp [hop, opnds, hcal, hx])]
      · rfl
    case h_2 hcal =>
      split
      · next a x t t' k hx ht hk => rw [h a (by simp [hop, opnds, hcal, hx]), h x (by simp [hop, opnds, hcal, hx])]
      · rfl
    case h_3 hcal =>
      split
      · next x y t ts hx ht => rw [h x (by simp [hop, opnds, hcal, hx]), h y (by simp [hop, opnds, hcal, hx])]
      · rfl
    case h_4 hcal =>
      split
      · next x y t ts hx ht => rw [h x (by simp [hop, opnds, hcal, hx]), h y (by simp [hop, opnds, hcal, hx])]
      · rfl
    case h_5 f hcal => rw [args _ _ (fun x hx => by simp only [hop, opnds, hcal]; exact List.mem_cons_of_mem _ hx)]
    case h_6 f hcal => rw [args _ _ (fun x hx => by simp only [hop, opnds, hcal]; exact List.mem_cons_of_mem _ hx), h (.tmp f) (by simp [hop, opnds, hcal])]
    case h_7 => rfl
  case h_22 => rfl


/-! ### orders -/
/-- The same slots; the same objects. -/
def AS.same (s s' : AS) : Prop := s.tmps = s'.tmps ∧ ∀ k, lk s.objs k = lk s'.objs k

theorem AS.same.refl (s : AS) : s.same s := ⟨rfl, fun _ => rfl⟩
theorem AS.same.trans {a b c : AS} (h : a.same b) (k : b.same c) : a.same c := ⟨h.1.trans k.1, fun i => (h.2 i).trans (k.2 i)⟩
theorem AS.same.symm {a b : AS} (h : a.same b) : b.same a := ⟨h.1.symm, fun i => (h.2 i).symm⟩

theorem SRg.same {base : Nat} {pass : Nat → Prop} {F0 : Anc} {m : Nat → Nat} {G : Gh} {s s' : AS} {a : Act} {w : World} (h : SRg base pass F0 m G s a w) (e : s.same s') : SRg base pass F0 m G s' a w := by
  have el : lk s.objs = lk s'.objs := funext e.2
  obtain ⟨a1, a2, a3, a4, a5, a6, a7, a8, a9, a10⟩ := h
  constructor
  · exact a1
  · rw [← e.1, ← el]; exact a2
  · rw [← el]; exact a3
  · rw [← el]; exact a4
  · rw [← el]; exact a5
  · exact a6
  · exact a7
  · exact a8
  · exact a9
  · rw [← el]; exact a10
theorem SR.same {base : Nat} {pass : Nat → Prop} {F0 : Anc} {s s' : AS} {a : Act} {w : World} (h : SR base pass F0 s a w) (e : s.same s') : SR base pass F0 s' a w := by
  obtain ⟨m, G, h⟩ := h
  exact ⟨m, G, h.same e⟩

/-- A call to which something is lent may be made here. -/
def BStep (C : Ctx) (o : Oper) (s : AS) (bc : BCon) (x : bc.X) (rs : List Nat) : Prop :=
  bOf C o s = some (bc, rnAs rs (bc.args x)) ∧ bc.ok x ∧ rs.Nodup ∧ rs.length = (bc.post x).length ∧ (bc.objs x).length ≤ rs.length ∧ standAt rs rs (bc.objs x) s.objs ∧ freeAt (rs.drop (bc.objs x).length) s.objs
theorem evs_congr {s s' : AS} : ∀ (xs : List Operand) (ts : List Nat), (∀ x ∈ xs, ∀ hint, s.ev C hint x = s'.ev C hint x) → evs C s xs ts = evs C s' xs ts
  | [], _, _ => rfl
  | x :: r, [], h => by simp only [evs]; rw [h x (by simp), evs_congr r [] (fun y hy => h y (List.mem_cons_of_mem _ hy))]
  | x :: r, t :: ts, h => by simp only [evs]; rw [h x (by simp), evs_congr r ts (fun y hy => h y (List.mem_cons_of_mem _ hy))]
theorem bOf_congr {o : Oper} {s s' : AS} (h : ∀ y ∈ opnds o.op, ∀ hint, s.ev C hint y = s'.ev C hint y) : bOf C o s = bOf C o s' := by
  unfold bOf
  cases hop : o.op with
  | call c =>
    rw [hop] at h
    simp only
    cases hc : c.callee with
    | value f =>
      simp only [opnds, hc] at h
      have ha : ∀ x ∈ c.args.toList, ∀ hint, s.ev C hint x = s'.ev C hint x := fun x hx => h x (List.mem_cons_of_mem _ hx)
      have hf := h f (by simp)
      cases f with
      | func f => simp only [evs_congr _ _ ha]
      | tmp f => simp only [evs_congr _ _ ha, hf]
      | _ => rfl
    | _ => rfl
  | _ => rfl
theorem standAt_congr {rs0 : List Nat} {o o' : Objs} : ∀ {ks : List Nat} {l : List Obj}, (∀ k ∈ ks, lk o k = lk o' k) → standAt rs0 ks l o → standAt rs0 ks l o'
  | _, [], _, _ => by unfold standAt; trivial
  | [], _ :: _, _, h => by simp [standAt] at h
  | k :: ks, x :: l, hk, h => by
    simp only [standAt] at h ⊢
    exact ⟨by rw [← hk k (by simp)]; exact h.1, standAt_congr (fun q hq => hk q (List.mem_cons_of_mem _ hq)) h.2⟩
theorem freeAt_congr {o o' : Objs} : ∀ {ks : List Nat}, (∀ k ∈ ks, lk o k = lk o' k) → freeAt ks o → freeAt ks o'
  | [], _, _ => by unfold freeAt; trivial
  | k :: ks, hk, h => by
    simp only [freeAt] at h ⊢
    exact ⟨by rw [← hk k (by simp)]; exact h.1, freeAt_congr (fun q hq => hk q (List.mem_cons_of_mem _ hq)) h.2⟩
theorem among_rs {rs : List Nat} {k : Nat} (h : k ∈ rs) : Among (rs.map (· % 4096)) k := List.mem_map.2 ⟨k, h, rfl⟩
theorem BStep.move {o : Oper} {s s' : AS} {bc : BCon} {x : bc.X} {rs : List Nat} (h : BStep C o s bc x rs) (hop : ∀ y ∈ opnds o.op, ∀ hint, s'.ev C hint y = s.ev C hint y)
    (ho : ∀ k, Among (rs.map (· % 4096)) k → lk s.objs k = lk s'.objs k) : BStep C o s' bc x rs ∧ (∀ k, Among (rs.map (· % 4096)) k → lk (backTo rs rs (bc.post x) s.objs) k = lk (backTo rs rs (bc.post x) s'.objs) k) ∧
      (∀ k, ¬ Among (rs.map (· % 4096)) k → lk (backTo rs rs (bc.post x) s.objs) k = lk s.objs k ∧ lk (backTo rs rs (bc.post x) s'.objs) k = lk s'.objs k) := by
  obtain ⟨h1, h2, h3, h4, h5, h6, h7⟩ := h
  have hk : ∀ k ∈ rs, lk s.objs k = lk s'.objs k := fun k hk => ho k (among_rs hk)
  refine ⟨⟨by rw [bOf_congr hop]; exact h1, h2, h3, h4, h5, standAt_congr hk h6, freeAt_congr (fun k hk' => hk k (List.mem_of_mem_drop hk')) h7⟩, fun k hka => ?_, fun k hka => ?_⟩
  · by_cases hkr : k ∈ rs
    · obtain ⟨j, hj⟩ := List.getElem?_of_mem hkr
      have hjl : j < (bc.post x).length := by rw [← h4]; exact (List.getElem?_eq_some_iff.1 hj).1
      have hp := List.getElem?_eq_getElem hjl
      rw [backTo_in h3 hj hp, backTo_in h3 hj hp]
    · rw [backTo_out hkr, backTo_out hkr]; exact ho k hka
  · have hkr : k ∉ rs := fun hkr => hka (among_rs hkr)
    exact ⟨backTo_out hkr, backTo_out hkr⟩

/-- One operation at its place in an order. -/
def Step (C : Ctx) (ops : List Oper) (i : Nat) (fp : List Nat) (ro : Bool) (s s' : AS) : Prop := ∃ o, ops[i]? = some o ∧
  ((match o.guard with
    | none => False
    | some (j, want) => (guardOf ops s j).skips want ∧ fp = [] ∧ ro = true ∧ s' = s.put o.dst (.d (.tup [])) s.objs) ∨
  ((match o.guard with
    | none => True
    | some (j, want) => (guardOf ops s j).runs want) ∧ fp = fpOf C o s ∧ ro = roOf o.op ∧ ∃ c x os, opStep C o s = some (c, x, os) ∧ c ∧ s' = s.put o.dst x os) ∨
  ((match o.guard with
    | none => True
    | some (j, want) => (guardOf ops s j).runs want) ∧ ro = false ∧ ∃ (bc : BCon) (x : bc.X) (rs : List Nat), BStep C o s bc x rs ∧ fp = rs.map (· % 4096) ∧ s' = s.put o.dst (.d (bc.res x)) (backTo rs rs (bc.post x) s.objs)))

inductive Tr (C : Ctx) (ops : List Oper) : List (Nat × List Nat × Bool) → AS → AS → Prop
  | nil (s : AS) : Tr C ops [] s s
  | cons {i : Nat} {fp : List Nat} {ro : Bool} {l : List (Nat × List Nat × Bool)} {s t u : AS} (h : Step C ops i fp ro s t) (k : Tr C ops l t u) : Tr C ops ((i, fp, ro) :: l) s u

theorem put_ev {s : AS} {dst : Option Nat} {x : AV} {os : Objs} {y : Operand} {hint : Nat} (h : ∀ d, dst = some d → d ∉ tmpOf y) : (s.put dst x os).ev C hint y = s.ev C hint y := by
  cases y with
  | tmp t =>
    cases dst with
    | none => rfl
    | some d =>
      have : d ≠ t := by simpa [tmpOf] using h d rfl
      simp [AS.put, AS.ev, List.getD_eq_getElem?_getD, List.getElem?_set_ne this]
  | _ => rfl

theorem looks_opnd {ops : List Oper} {o : Oper} {d : Nat} (h : d ∉ looks ops o) : ∀ y ∈ opnds o.op, d ∉ tmpOf y := by
  intro y hy hd
  exact h (List.mem_append_left _ (List.mem_flatMap.2 ⟨y, hy, hd⟩))

theorem put_guard {ops : List Oper} {s : AS} {o : Oper} {j : Nat} {want : Bool} (hg : o.guard = some (j, want)) {dst : Option Nat} {x : AV} {os : Objs} (h : ∀ d, dst = some d → d ∉ looks ops o) : guardOf ops (s.put dst x os) j = guardOf ops s j := by
  unfold guardOf
  cases hj : ops[j]? with
  | none => rfl
  | some g =>
    simp only
    cases hd : g.dst with
    | none => rfl
    | some t =>
      simp only
      cases dst with
      | none => rfl
      | some d =>
        have hne : d ≠ t := by
          intro e
          exact h d rfl (by simp [looks, hg, hj, hd, e])
        simp [AS.put, List.getD_eq_getElem?_getD, List.getElem?_set_ne hne]

theorem guardOf_same {ops : List Oper} {s s' : AS} (h : s.tmps = s'.tmps) (j : Nat) : guardOf ops s j = guardOf ops s' j := by
  unfold guardOf
  rw [h]

theorem fpOf_put {ops : List Oper} {s : AS} {o : Oper} {dst : Option Nat} {x : AV} {os : Objs} (h : ∀ d, dst = some d → d ∉ looks ops o) : fpOf C o (s.put dst x os) = fpOf C o s := by
  have : (opnds o.op).map ((s.put dst x os).ev C 0) = (opnds o.op).map (s.ev C 0) := List.map_congr_left fun y hy => put_ev (fun d hd => looks_opnd (h d hd) y hy)
  unfold fpOf
  rw [this]

theorem fpOf_same {s s' : AS} (h : s.tmps = s'.tmps) (o : Oper) : fpOf C o s = fpOf C o s' := by
  have : (opnds o.op).map (s.ev C 0) = (opnds o.op).map (s'.ev C 0) := List.map_congr_left fun y hy => by cases y <;> simp [AS.ev, h]
  unfold fpOf
  rw [this]

theorem put_objs_tmps {s : AS} {dst : Option Nat} {x : AV} {os : Objs} : (s.put dst x os).objs = os := by cases dst <;> rfl
theorem put_comm {s : AS} {a b : Option Nat} {x y : AV} {p q r u : Objs} (h : ∀ d, a = some d → b ≠ some d) : ((s.put a x p).put b y q).tmps = ((s.put b y r).put a x u).tmps := by
  cases a with
  | none => cases b <;> rfl
  | some d =>
    cases b with
    | none => rfl
    | some e =>
      have hne : d ≠ e := fun he => h d rfl (he ▸ rfl)
      simp [AS.put, List.set_comm _ _ hne]

/-- An operation from the same state comes to the same. -/
theorem Step.same (hC : C.dp = 1) {ops : List Oper} {i : Nat} {fp : List Nat} {ro : Bool} {s s' t : AS} (h : Step C ops i fp ro s t) (e : s.same s') : ∃ t', Step C ops i fp ro s' t' ∧ t.same t' := by
  obtain ⟨o, ho, h⟩ := h
  rcases h with h | ⟨hg, hfp, hro, c, x, os, h1, hc, rfl⟩ | ⟨hg, hro, bc, x, rs, hb, hfp, rfl⟩
  rotate_right
  · have hev : ∀ y ∈ opnds o.op, ∀ hint, s'.ev C hint y = s.ev C hint y := fun y _ hint => by cases y <;> simp [AS.ev, e.1]
    obtain ⟨b1, b2, b3⟩ := hb.move hev (fun k _ => e.2 k)
    refine ⟨s'.put o.dst (.d (bc.res x)) (backTo rs rs (bc.post x) s'.objs), ⟨o, ho, .inr (.inr ⟨?_, hro, bc, x, rs, b1, hfp, rfl⟩)⟩, ?_, fun k => ?_⟩
    · cases hgd : o.guard with
      | none => trivial
      | some jw =>
        obtain ⟨j, want⟩ := jw
        simp only [hgd] at hg ⊢
        rw [← guardOf_same e.1]
        exact hg
    · cases o.dst <;> simp [AS.put, e.1]
    · rw [put_objs_tmps, put_objs_tmps]
      by_cases hk : Among (rs.map (· % 4096)) k
      · exact b2 k hk
      · rw [(b3 k hk).1, (b3 k hk).2]; exact e.2 k
  · cases hgd : o.guard with
    | none => simp only [hgd] at h
    | some jw =>
      obtain ⟨j, want⟩ := jw
      simp only [hgd] at h
      obtain ⟨h1, h3, h4, rfl⟩ := h
      refine ⟨s'.put o.dst (.d (.tup [])) s'.objs, ⟨o, ho, .inl ?_⟩, ?_⟩
      · simp only [hgd]
        exact ⟨by rw [← guardOf_same e.1]; exact h1, h3, h4, trivial⟩
      · refine ⟨?_, fun k => ?_⟩
        · cases o.dst <;> simp [AS.put, e.1]
        · rw [put_objs_tmps, put_objs_tmps]; exact e.2 k
  · have h1' : opStep C o ⟨s.tmps, s.objs⟩ = some (c, x, os) := h1
    obtain ⟨os', k1, k2, k3⟩ := opStep_loc hC o s s.objs s'.objs c x os (fun k _ => e.2 k) h1'
    have k1' : opStep C o s' = some (c, x, os') := by
      have : s' = ⟨s.tmps, s'.objs⟩ := by cases s'; simp only [AS.mk.injEq, and_true]; exact e.1.symm
      rw [this]; exact k1
    refine ⟨s'.put o.dst x os', ⟨o, ho, .inr (.inl ⟨?_, by rw [← fpOf_same e.1]; exact hfp, hro, c, x, os', k1', hc, rfl⟩)⟩, ?_, fun k => ?_⟩
    · cases hgd : o.guard with
      | none => trivial
      | some jw =>
        obtain ⟨j, want⟩ := jw
        simp only [hgd] at hg ⊢
        rw [← guardOf_same e.1]
        exact hg
    · cases o.dst <;> simp [AS.put, e.1]
    · rw [put_objs_tmps, put_objs_tmps]
      by_cases hk : Among (fpOf C o s) k
      · exact k2 k hk
      · rw [(k3 k hk).1, (k3 k hk).2]; exact e.2 k

theorem Tr.same (hC : C.dp = 1) {ops : List Oper} {l : List (Nat × List Nat × Bool)} {s s' t : AS} (h : Tr C ops l s t) (e : s.same s') : ∃ t', Tr C ops l s' t' ∧ t.same t' := by
  induction h generalizing s' with
  | nil s => exact ⟨s', .nil s', e⟩
  | cons h _ ih =>
    obtain ⟨t1, k1, k2⟩ := h.same hC e
    obtain ⟨t2, j1, j2⟩ := ih k2
    exact ⟨t2, .cons k1 j1, j2⟩

/-- Two operations that are apart. -/
def Indep (ops : List Oper) (a b : Nat × List Nat × Bool) : Prop := (∀ x y, ops[a.1]? = some x → ops[b.1]? = some y → slotsApart ops x y = true) ∧ ((∀ k, k ∈ a.2.1 → k ∉ b.2.1) ∨ (a.2.2 = true ∧ b.2.2 = true))

theorem slotsApart_spec {ops : List Oper} {x y : Oper} (h : slotsApart ops x y = true) :
    (∀ d, x.dst = some d → d ∉ looks ops y) ∧ (∀ d, x.dst = some d → y.dst ≠ some d) ∧ (∀ d, y.dst = some d → d ∉ looks ops x) := by
  refine ⟨fun d hd => ?_, fun d hd => ?_, fun d hd => ?_⟩ <;> simp [slotsApart, hd] at h
  · exact h.1.1
  · exact h.1.2
  · exact h.2

/-- What a step does, in one form. -/
def StepF (C : Ctx) (ops : List Oper) (o : Oper) (fp : List Nat) (ro : Bool) (s : AS) (x : AV) (os : Objs) : Prop :=
  (match o.guard with
    | none => False
    | some (j, want) => (guardOf ops s j).skips want ∧ fp = [] ∧ ro = true ∧ x = .d (.tup []) ∧ os = s.objs) ∨
  ((match o.guard with
    | none => True
    | some (j, want) => (guardOf ops s j).runs want) ∧ fp = fpOf C o s ∧ ro = roOf o.op ∧ ∃ c, opStep C o s = some (c, x, os) ∧ c) ∨
  ((match o.guard with
    | none => True
    | some (j, want) => (guardOf ops s j).runs want) ∧ ro = false ∧ ∃ (bc : BCon) (q : bc.X) (rs : List Nat), BStep C o s bc q rs ∧ fp = rs.map (· % 4096) ∧ x = .d (bc.res q) ∧ os = backTo rs rs (bc.post q) s.objs)

theorem step_iff {ops : List Oper} {i : Nat} {fp : List Nat} {ro : Bool} {s t : AS} : Step C ops i fp ro s t ↔ ∃ o x os, ops[i]? = some o ∧ StepF C ops o fp ro s x os ∧ t = s.put o.dst x os := by
  constructor
  · rintro ⟨o, ho, h⟩
    rcases h with h | ⟨hg, hfp, hro, c, x, os, h1, hc, rfl⟩ | ⟨hg, hro, bc, x, rs, hb, hfp, rfl⟩
    rotate_right
    · exact ⟨o, .d (bc.res x), backTo rs rs (bc.post x) s.objs, ho, .inr (.inr ⟨hg, hro, bc, x, rs, hb, hfp, rfl, rfl⟩), rfl⟩
    · refine ⟨o, .d (.tup []), s.objs, ho, .inl ?_, ?_⟩
      · cases hgd : o.guard with
        | none => simp only [hgd] at h
        | some jw => simp only [hgd] at h ⊢; obtain ⟨h1, h3, h4, _⟩ := h; exact ⟨h1, h3, h4, trivial, trivial⟩
      · cases hgd : o.guard with
        | none => simp only [hgd] at h
        | some jw => simp only [hgd] at h; exact h.2.2.2
    · exact ⟨o, x, os, ho, .inr (.inl ⟨hg, hfp, hro, c, h1, hc⟩), rfl⟩
  · rintro ⟨o, x, os, ho, h, rfl⟩
    refine ⟨o, ho, ?_⟩
    rcases h with h | ⟨hg, hfp, hro, c, h1, hc⟩ | ⟨hg, hro, bc, q, rs, hb, hfp, rfl, rfl⟩
    · refine .inl ?_
      cases hgd : o.guard with
      | none => simp only [hgd] at h
      | some jw => simp only [hgd] at h ⊢; obtain ⟨h1, h3, h4, rfl, rfl⟩ := h; exact ⟨h1, h3, h4, rfl⟩
    · exact .inr (.inl ⟨hg, hfp, hro, c, x, os, h1, hc, rfl⟩)
    · exact .inr (.inr ⟨hg, hro, bc, q, rs, hb, hfp, rfl⟩)

/-- It is local, and hangs on no other slot. -/
theorem StepF.move (hC : C.dp = 1) {ops : List Oper} {o : Oper} {fp : List Nat} {ro : Bool} {s : AS} {x : AV} {os : Objs} (h : StepF C ops o fp ro s x os) {s' : AS}
    (hg : ∀ j want, o.guard = some (j, want) → guardOf ops s' j = guardOf ops s j) (hf : fpOf C o s' = fpOf C o s) (hop : ∀ y ∈ opnds o.op, ∀ hint, s'.ev C hint y = s.ev C hint y)
    (ho : ∀ k, Among fp k → lk s.objs k = lk s'.objs k) : ∃ os', StepF C ops o fp ro s' x os' ∧ (∀ k, Among fp k → lk os k = lk os' k) ∧ (∀ k, ¬ Among fp k → lk os k = lk s.objs k ∧ lk os' k = lk s'.objs k) := by
  rcases h with h | ⟨hgd, hfp, hro, c, h1, hc⟩ | ⟨hgd, hro, bc, q, rs, hb, hfp, rfl, rfl⟩
  rotate_right
  · subst hfp
    obtain ⟨b1, b2, b3⟩ := hb.move hop ho
    refine ⟨backTo rs rs (bc.post q) s'.objs, .inr (.inr ⟨?_, hro, bc, q, rs, b1, rfl, rfl, rfl⟩), b2, b3⟩
    cases hgd' : o.guard with
    | none => trivial
    | some jw =>
      obtain ⟨j, want⟩ := jw
      simp only [hgd'] at hgd ⊢
      rw [hg j want hgd']
      exact hgd
  · cases hgd : o.guard with
    | none => simp only [hgd] at h
    | some jw =>
      obtain ⟨j, want⟩ := jw
      simp only [hgd] at h
      obtain ⟨h1, h3, h4, rfl, rfl⟩ := h
      refine ⟨s'.objs, .inl ?_, fun k hk => ho k hk, fun k _ => ⟨rfl, rfl⟩⟩
      simp only [hgd]
      exact ⟨by rw [hg j want hgd]; exact h1, h3, h4, trivial, trivial⟩
  · subst hfp
    obtain ⟨os', k1, k2, k3⟩ := opStep_loc hC o s s.objs s'.objs c x os ho h1
    refine ⟨os', .inr (.inl ⟨?_, hf.symm, hro, c, ?_, hc⟩), k2, k3⟩
    · cases hgd' : o.guard with
      | none => trivial
      | some jw =>
        obtain ⟨j, want⟩ := jw
        simp only [hgd'] at hgd ⊢
        rw [hg j want hgd']
        exact hgd
    · rw [← k1]
      exact opStep_congr rfl (fun y hy hint => by rw [hop y hy hint]; cases y <;> rfl)

theorem StepF.ro {ops : List Oper} {o : Oper} {fp : List Nat} {s : AS} {x : AV} {os : Objs} (h : StepF C ops o fp true s x os) : os = s.objs := by
  rcases h with h | ⟨_, _, hro, c, h1, _⟩ | ⟨_, hro, _⟩
  · cases hgd : o.guard with
    | none => simp only [hgd] at h
    | some jw => simp only [hgd] at h; obtain ⟨h1, h3, h4, rfl, rfl⟩ := h; rfl
  · exact opStep_ro hro.symm h1
  · cases hro

/-- Two that are apart may change places. -/
theorem step_swap (hC : C.dp = 1) {ops : List Oper} {a b : Nat × List Nat × Bool} {s t u : AS} (h1 : Step C ops a.1 a.2.1 a.2.2 s t) (h2 : Step C ops b.1 b.2.1 b.2.2 t u) (hi : Indep ops a b) :
    ∃ t' u', Step C ops b.1 b.2.1 b.2.2 s t' ∧ Step C ops a.1 a.2.1 a.2.2 t' u' ∧ u.same u' := by
  obtain ⟨oa, xa, osa, hoa, fa, rfl⟩ := step_iff.1 h1
  obtain ⟨ob, xb, osb, hob, fb, rfl⟩ := step_iff.1 h2
  obtain ⟨s1, s2, s3⟩ := slotsApart_spec (hi.1 oa ob hoa hob)
  -- b from s
  have key : ∀ k, Among b.2.1 k → lk (s.put oa.dst xa osa).objs k = lk s.objs k := by
    intro k hk
    rw [put_objs_tmps]
    rcases hi.2 with hd | ⟨hr, _⟩
    · have : ¬ Among a.2.1 k := fun hka => hd _ hka hk
      obtain ⟨_, q1, q2, q3⟩ := fa.move hC (s' := s) (fun _ _ _ => rfl) rfl (fun _ _ _ => rfl) (fun _ _ => rfl)
      exact (q3 k this).1
    · rw [hr] at fa
      rw [fa.ro]
  obtain ⟨osb', fb', e1, e2⟩ := fb.move hC (s' := s) (fun j want hg => (put_guard hg s1).symm) (fpOf_put s1).symm (fun y hy hint => (put_ev (fun d hd => looks_opnd (s1 d hd) y hy)).symm) key
  -- a from behind b
  have key2 : ∀ k, Among a.2.1 k → lk s.objs k = lk (s.put ob.dst xb osb').objs k := by
    intro k hk
    rw [put_objs_tmps]
    rcases hi.2 with hd | ⟨_, hr⟩
    · have : ¬ Among b.2.1 k := fun hkb => hd _ hk hkb
      exact (e2 k this).2.symm
    · rw [hr] at fb'
      rw [fb'.ro]
  obtain ⟨osa', fa', g1, g2⟩ := fa.move hC (s' := s.put ob.dst xb osb') (fun j want hg => put_guard hg s3) (fpOf_put s3) (fun y hy hint => put_ev (fun d hd => looks_opnd (s3 d hd) y hy)) key2
  refine ⟨s.put ob.dst xb osb', (s.put ob.dst xb osb').put oa.dst xa osa', step_iff.2 ⟨ob, xb, osb', hob, fb', rfl⟩, step_iff.2 ⟨oa, xa, osa', hoa, fa', rfl⟩, put_comm s2, fun k => ?_⟩
  simp only [put_objs_tmps] at e1 e2 g1 g2 key key2 ⊢
  rcases hi.2 with hd | ⟨hra, hrb⟩
  · by_cases hka : Among a.2.1 k
    · have hkb : ¬ Among b.2.1 k := fun hkb => hd _ hka hkb
      rw [(e2 k hkb).1, g1 k hka]
    · rw [(g2 k hka).2]
      by_cases hkb : Among b.2.1 k
      · exact e1 k hkb
      · rw [(e2 k hkb).1, (e2 k hkb).2, (g2 k hka).1]
  · rw [hra] at fa fa'
    rw [hrb] at fb fb'
    rw [fb.ro, put_objs_tmps, fa.ro, fa'.ro, put_objs_tmps, fb'.ro]

/-- One that is apart from all ahead of it may come first. -/
theorem Tr.first (hC : C.dp = 1) {ops : List Oper} {i : Nat × List Nat × Bool} : ∀ {l1 l2 : List (Nat × List Nat × Bool)} {s t : AS}, Tr C ops (l1 ++ i :: l2) s t → (∀ k ∈ l1, Indep ops k i) →
    ∃ s1 t', Step C ops i.1 i.2.1 i.2.2 s s1 ∧ Tr C ops (l1 ++ l2) s1 t' ∧ t.same t'
  | [], l2, s, t, h, _ => by
    simp only [List.nil_append] at h ⊢
    cases h with
    | cons h k => exact ⟨_, t, h, k, AS.same.refl t⟩
  | (k, fk, rk) :: l1, l2, s, t, h, hi => by
    simp only [List.cons_append] at h
    cases h with
    | cons h1 h2 =>
      obtain ⟨u1, t', k1, k2, k3⟩ := Tr.first hC h2 (fun q hq => hi q (List.mem_cons_of_mem _ hq))
      obtain ⟨s1, u', j1, j2, j3⟩ := step_swap hC (a := (k, fk, rk)) (b := i) h1 k1 (hi _ (by simp))
      obtain ⟨t'', q1, q2⟩ := k2.same hC j3
      exact ⟨s1, t'', j1, .cons j2 q1, k3.trans q2⟩

end
end Go.Am
