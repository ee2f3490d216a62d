/- Contracts of functions that the law reaches, and plain laws. Conditions: those that each contract states. -/
import Derived.Test.YtecgdmiigdfgdaaGreatK1
import Derived.Orders
import Derived.ProofKit
import Derived.OpenShut
import Derived.JoinedCond
import Derived.JoinedOf
import Derived.Carry
import Derived.Deep.Slices
import Derived.Test.YtecgdmiigdfgdaaGreatChecked
set_option linter.unusedVariables false
set_option linter.unusedSimpArgs false
namespace Go.Am
def Loc {α : Type} (S : Nat → Prop) (f : K4 → Option (Prop × α × K4)) : Prop :=
  ∀ o o' c x p, (∀ k, S k → lk o k = lk o' k) → f o = some (c, x, p) → ∃ p', f o' = some (c, x, p') ∧ (∀ k, S k → lk p k = lk p' k) ∧ (∀ k, ¬ S k → lk p k = lk o k ∧ lk p' k = lk o' k)
section
variable {α β : Type} {S : Nat → Prop}
theorem Loc.ret (c : Prop) (x : α) : Loc S (fun o => some (c, x, o)) := by
  intro o o' c' x' p h he
  simp only [Option.some.injEq, Prod.mk.injEq] at he
  obtain ⟨rfl, rfl, rfl⟩ := he
  exact ⟨o', rfl, h, fun k _ => ⟨rfl, rfl⟩⟩
theorem Loc.none : Loc (α := α) S (fun _ => none) := by
  intro o o' c' x' p h he
  cases he
theorem Loc.upd {i : Nat} (hi : S i) (c : Prop) (x : α) (b : Obj) : Loc S (fun o => some (c, x, upd o i b)) := by
  intro o o' c' x' p h he
  simp only [Option.some.injEq, Prod.mk.injEq] at he
  obtain ⟨rfl, rfl, rfl⟩ := he
  refine ⟨_, rfl, fun k hk => ?_, fun k hk => ?_⟩
  · rw [M7, M7, h k hk]
  · have : k ≠ i := fun e => hk (e ▸ hi)
    rw [M7, M7, if_neg this, if_neg this]
    exact ⟨rfl, rfl⟩
theorem Loc.lk {i : Nat} (hi : S i) {g : Option Obj → K4 → Option (Prop × α × K4)} (h : ∀ v, Loc S (g v)) : Loc S (fun o => g (lk o i) o) := by
  intro o o' c x p ho he
  have := h (Go.Am.lk o i) o o' c x p ho he
  rw [ho i hi] at this
  exact this
theorem Loc.bind {f : K4 → Option (Prop × α × K4)} {g : Prop → α → K4 → Option (Prop × β × K4)} (hf : Loc S f) (hg : ∀ c x, Loc S (g c x)) :
    Loc S (fun o => match f o with | some (c, x, p) => g c x p | Option.none => Option.none) := by
  intro o o' c x p ho he
  simp only at he
  split at he
  · next c1 x1 p1 hf1 =>
    obtain ⟨p1', k1, k2, k3⟩ := hf o o' c1 x1 p1 ho hf1
    obtain ⟨p', j1, j2, j3⟩ := hg c1 x1 p1 p1' c x p k2 he
    refine ⟨p', ?_, j2, fun k hk => ⟨(j3 k hk).1.trans (k3 k hk).1, (j3 k hk).2.trans (k3 k hk).2⟩⟩
    simp only [k1]
    exact j1
  · cases he
theorem Loc.bindE {f : K4 → Option (Prop × α × K4)} {g : Prop → α → K4 → Option (Prop × β × K4)} {F : K4 → Option (Prop × β × K4)} (hf : Loc S f) (hg : ∀ c x, Loc S (g c x))
    (h0 : ∀ o, f o = Option.none → F o = Option.none) (h1 : ∀ o c x p, f o = some (c, x, p) → F o = g c x p) : Loc S F := by
  have : F = fun o => match f o with | some (c, x, p) => g c x p | Option.none => Option.none := by
    funext o
    split
    · next c x p h => exact h1 o c x p h
    · next h => exact h0 o h
  rw [this]
  exact Loc.bind hf hg
theorem Loc.lkE {i : Nat} (hi : S i) {g : Option Obj → K4 → Option (Prop × α × K4)} {F : K4 → Option (Prop × α × K4)} (h : ∀ v, Loc S (g v)) (hF : ∀ o v, Go.Am.lk o i = v → F o = g v o) : Loc S F := by
  have : F = fun o => g (Go.Am.lk o i) o := by
    funext o
    exact hF o _ rfl
  rw [this]
  exact Loc.lk hi h
theorem Loc.congr {f g : K4 → Option (Prop × α × K4)} (h : Loc S f) (e : ∀ o, f o = g o) : Loc S g := by
  have : f = g := funext e
  exact this ▸ h
theorem Loc.mono {S' : Nat → Prop} {f : K4 → Option (Prop × α × K4)} (h : Loc S f) (hs : ∀ k, S k → S' k) : Loc S' f := by
  intro o o' c x p ho he
  obtain ⟨p', k1, k2, k3⟩ := h o o' c x p (fun k hk => ho k (hs k hk)) he
  refine ⟨p', k1, fun k hk => ?_, fun k hk => k3 k (fun h => hk (hs k h))⟩
  by_cases hs : S k
  · exact k2 k hs
  · rw [(k3 k hs).1, (k3 k hs).2, ho k hk]
end
section
variable {C : Ctx} {S : Nat → Prop}
theorem alloc_loc {e key : Nat} {x : AV} (hk : S key) : Loc S (hAlloc C e key x) := by
  refine Loc.congr (Loc.lk (g := fun v o => match C.ag e, v with
    | some ag, none => some (x.fits (C.size e), AV.ref key 0, upd o key (.box ag (x.cells ag (C.size e))))
    | _, _ => none) hk fun v => ?_) (fun o => rfl)
  split
  · exact Loc.upd hk _ _ _
  · exact Loc.none
theorem load_loc {t : Nat} {p : AV} (hk : ∀ k ∈ p.keys, S k) : Loc S (hLoad C t p) := by
  cases p with
  | d x =>
    cases x with
    | ptr s x =>
      refine Loc.congr (f := fun o => match C.ag t with
        | some true => if s = C.size t then some (True, .d x.asAgg, o) else none
        | some false => if s = 1 then some (True, .d (x.cell 0), o) else none
        | none => none) ?_ (fun o => rfl)
      repeat' split
      all_goals first | exact Loc.ret _ _ | exact Loc.none
    | _ => exact Loc.none
  | ref i f =>
    have hi := hk i (by simp [AV.keys])
    refine Loc.congr (Loc.lk (g := fun v o => match v with
      | some (.box _ cells) => match C.ag t with
        | some true => if f + C.size t ≤ cells.length then some (True, mkAgg ((cells.drop f).take (C.size t)), o) else none
        | some false => if f < cells.length then some (True, cells.getD f .dead, o) else none
        | none => none
      | some (.fbox s x) => match C.ag t with
        | some true => if f = 0 ∧ s = C.size t then some (True, .d x.asAgg, o) else none
        | some false => if f < s then some (True, .d (x.cell f), o) else none
        | none => none
      | _ => none) hi fun v => ?_) (fun o => rfl)
    repeat' split
    all_goals first | exact Loc.ret _ _ | exact Loc.none
  | rref i n e f =>
    have hi := hk i (by simp [AV.keys])
    refine Loc.congr (Loc.lk (g := fun v o => match v with
      | some (.row s els _) => match C.ag t with
        | some true => if f = 0 ∧ s = C.size t then some (n = els.length ∧ e < els.length, .d (el els e).asAgg, o) else none
        | some false => if f < s then some (n = els.length ∧ e < els.length, .d ((el els e).cell f), o) else none
        | none => none
      | _ => none) hi fun v => ?_) (fun o => rfl)
    repeat' split
    all_goals first | exact Loc.ret _ _ | exact Loc.none
  | _ => exact Loc.none
theorem pur1_loc {x : AV} (hk : ∀ k ∈ x.keys, S k) : Loc S (pur 1 x) := by
  cases x with
  | d x => exact Loc.ret _ _
  | nils s => exact Loc.ret _ _
  | sl i n =>
    have hi := hk i (by simp [AV.keys])
    refine Loc.lkE hi (g := fun v o => match v with
      | some (.row s els _) => some (n = els.length, D.list s els, upd o i (.row s els els.length))
      | _ => none) (fun v => ?_) (fun o v h => ?_)
    · split
      · exact Loc.upd hi _ _ _
      · exact Loc.none
    · simp only [pur, h]
      rcases v with _ | (_ | _ | _ | _) <;> rfl
  | ref i f =>
    have hi := hk i (by simp [AV.keys])
    cases f with
    | succ f => exact Loc.none
    | zero =>
      refine Loc.lkE hi (g := fun v o => match v with
        | some (.fbox s x) => some (True, D.ptr s x, o)
        | _ => none) (fun v => ?_) (fun o v h => ?_)
      · split
        · exact Loc.ret _ _
        · exact Loc.none
      · simp only [pur, h]
        cases v with
        | none => rfl
        | some ob => cases ob <;> simp [purs]
  | agg l => exact Loc.congr Loc.none (fun o => by cases l <;> simp [pur, purs])
  | tup l => exact Loc.congr Loc.none (fun o => by cases l <;> simp [pur, purs])
  | clo f l => exact Loc.congr Loc.none (fun o => by cases l <;> simp [pur, purs])
  | rref a b c d => exact Loc.none
  | dead => exact Loc.none
theorem store_loc {C : Ctx} (hC : C.dp = 1) {t : Nat} {p x : AV} (hp : ∀ k ∈ p.keys, S k) (hx : ∀ k ∈ x.keys, S k) : Loc S (O9 C t p x) := by
  cases p with
  | ref i f =>
    have hi := hp i (by simp [AV.keys])
    refine Loc.lkE hi (g := fun v o => match v with
      | some (.box ag cells) => match C.ag t with
        | some true => if f + C.size t ≤ cells.length then some (x.fits (C.size t), AV.dead, upd o i (.box ag (O5 cells f (x.cells true (C.size t))))) else none
        | some false => if f < cells.length then some (x.fits 1 ∧ C.size t = 1, AV.dead, upd o i (.box ag (O5 cells f (x.cells false 1)))) else none
        | none => none
      | _ => none) (fun v => ?_) (fun o v h => ?_)
    · repeat' split
      all_goals first | exact Loc.upd hi _ _ _ | exact Loc.none
    · simp only [O9, h]
      rcases v with _ | (_ | _ | _ | _) <;> rfl
  | rref i n e f =>
    have hi := hp i (by simp [AV.keys])
    refine Loc.lkE hi (g := fun v o => match v with
      | some (.row _ _ _) => (match pur 1 x o with
        | some (c, y, o') => (match lk o' i with
          | some (.row s els k) => match C.ag t with
            | some true => if f = 0 ∧ s = C.size t then some (c ∧ n = els.length ∧ e < els.length ∧ k ≤ e ∧ y.fits s, AV.dead, upd o' i (.row s (els.set e y) k)) else none
            | some false => if f < s then some (c ∧ n = els.length ∧ e < els.length ∧ k ≤ e ∧ y.fits 1 ∧ C.size t = 1, AV.dead, upd o' i (.row s (els.set e ((el els e).setCell f (y.cell 0))) k)) else none
            | none => none
          | _ => none)
        | none => none)
      | _ => none) (fun v => ?_) (fun o v h => ?_)
    · split
      · refine Loc.bindE (g := fun c y o' => (match lk o' i with
          | some (.row s els k) => match C.ag t with
            | some true => if f = 0 ∧ s = C.size t then some (c ∧ n = els.length ∧ e < els.length ∧ k ≤ e ∧ y.fits s, AV.dead, upd o' i (.row s (els.set e y) k)) else none
            | some false => if f < s then some (c ∧ n = els.length ∧ e < els.length ∧ k ≤ e ∧ y.fits 1 ∧ C.size t = 1, AV.dead, upd o' i (.row s (els.set e ((el els e).setCell f (y.cell 0))) k)) else none
            | none => none
          | _ => none)) (pur1_loc hx) (fun c y => ?_) (fun o h => by simp only [h]) (fun o c x p h => by simp only [h]; try rfl)
        refine Loc.lkE hi (g := fun v o' => match v with
          | some (.row s els k) => match C.ag t with
            | some true => if f = 0 ∧ s = C.size t then some (c ∧ n = els.length ∧ e < els.length ∧ k ≤ e ∧ y.fits s, AV.dead, upd o' i (.row s (els.set e y) k)) else none
            | some false => if f < s then some (c ∧ n = els.length ∧ e < els.length ∧ k ≤ e ∧ y.fits 1 ∧ C.size t = 1, AV.dead, upd o' i (.row s (els.set e ((el els e).setCell f (y.cell 0))) k)) else none
            | none => none
          | _ => none) (fun v => ?_) (fun o v h => by simp only [h]; try rfl)
        repeat' split
        all_goals first | exact Loc.upd hi _ _ _ | exact Loc.none
      · exact Loc.none
    · simp only [O9, hC, h]
      cases v with
      | none => rfl
      | some ob =>
        cases ob with
        | row s els k =>
          simp only
          cases pur 1 x o with
          | none => rfl
          | some r => rfl
        | _ => rfl
  | _ => exact Loc.none
theorem fieldAddr_loc {t f : Nat} {p : AV} (hp : ∀ k ∈ p.keys, S k) : Loc S (Tg C t p f) := by
  unfold Tg
  split
  · next off sz _ =>
    cases p with
    | ref i f0 =>
      have hi := hp i (by simp [AV.keys])
      refine Loc.lkE hi (g := fun v o => match v with
        | some ob => if ob.isBox = true then some (True, .ref i (f0 + off), o) else none
        | none => none) (fun v => ?_) (fun o v h => by simp only [h]; cases v <;> rfl)
      repeat' split
      all_goals first | exact Loc.ret _ _ | exact Loc.none
    | rref i n e f0 =>
      have hi := hp i (by simp [AV.keys])
      refine Loc.lkE hi (g := fun v o => match v with
        | some (.row _ els _) => some (n = els.length, .rref i n e (f0 + off), o)
        | _ => none) (fun v => ?_) (fun o v h => by simp only [h]; rcases v with _ | (_ | _ | _ | _) <;> rfl)
      repeat' split
      all_goals first | exact Loc.ret _ _ | exact Loc.none
    | d x =>
      cases x with
      | ptr s x =>
        simp only
        repeat' split
        all_goals first | exact Loc.ret _ _ | exact Loc.none
      | _ => exact Loc.none
    | _ => exact Loc.none
  · exact Loc.none
theorem indexAddr_loc {t : Nat} {x ix : AV} (hp : ∀ k ∈ x.keys, S k) : Loc S (Tf C t x ix) := by
  unfold Tf
  split
  · next e i _ =>
    cases x with
    | d y => exact Loc.ret _ _
    | sl k n =>
      have hi := hp k (by simp [AV.keys])
      refine Loc.lkE hi (g := fun v o => match v with
        | some (.row s els _) => if s = C.size e then some (n = els.length ∧ i.isAnyInt ∧ 0 ≤ i.i ∧ i.i < els.length, .rref k n i.i.toNat 0, o) else none
        | _ => none) (fun v => ?_) (fun o v h => by simp only [h]; rcases v with _ | (_ | _ | _ | _) <;> rfl)
      repeat' split
      all_goals first | exact Loc.ret _ _ | exact Loc.none
    | _ => exact Loc.none
  · next n e k j _ =>
    split
    · cases x with
      | ref i f0 =>
        have hi := hp i (by simp [AV.keys])
        refine Loc.lkE hi (g := fun v o => match v with
          | some ob => if ob.isBox = true then some (True, .ref i (f0 + j.toNat), o) else none
          | none => none) (fun v => ?_) (fun o v h => by simp only [h]; cases v <;> rfl)
        repeat' split
        all_goals first | exact Loc.ret _ _ | exact Loc.none
      | d y =>
        cases y with
        | ptr s y =>
          simp only
          repeat' split
          all_goals first | exact Loc.ret _ _ | exact Loc.none
        | _ => exact Loc.none
      | _ => exact Loc.none
    · exact Loc.none
  · exact Loc.none
theorem index_loc {t : Nat} {x ix : AV} : Loc S (hIndex C t x ix) := by
  unfold hIndex
  split
  · exact Loc.ret _ _
  · exact Loc.none
theorem slice_loc (hC : C.dp = 1) {t : Nat} {x : AV} {lo hi mx : Option AV} (hp : ∀ k ∈ x.keys, S k) : Loc S (hSlice C t x lo hi mx) := by
  unfold hSlice
  split
  · split
    · split
      all_goals first | exact Loc.ret _ _ | exact Loc.none
    · exact Loc.none
  · next e _ =>
    refine Loc.bindE (g := fun c y o' => match lo, hi with
      | some (.d a), some (.d b) => some (c ∧ y.isList (C.size e) ∧ a.isAnyInt ∧ b.isAnyInt ∧ 0 ≤ a.i ∧ a.i ≤ b.i ∧ b.i ≤ y.l.length, .d (.list (C.size e) ((y.l.take b.i.toNat).drop a.i.toNat)), o')
      | some (.d a), none => some (c ∧ y.isList (C.size e) ∧ a.isAnyInt ∧ 0 ≤ a.i ∧ a.i ≤ y.l.length, .d (.list (C.size e) (y.l.drop a.i.toNat)), o')
      | none, some (.d b) => some (c ∧ y.isList (C.size e) ∧ b.isAnyInt ∧ 0 ≤ b.i ∧ b.i ≤ y.l.length, .d (.list (C.size e) (y.l.take b.i.toNat)), o')
      | _, _ => none) (pur1_loc hp) (fun c y => ?_) (fun o h => by simp only [hC, h]) (fun o c x p h => by simp only [hC, h]; try rfl)
    split
    all_goals first | exact Loc.ret _ _ | exact Loc.none
  · next e m _ =>
    refine Loc.bindE (g := fun c y o' => match lo, hi with
      | some (.d a), some (.d b) => some (c ∧ y.isList (C.size e) ∧ a.isAnyInt ∧ b.isAnyInt ∧ m.isAnyInt ∧ 0 ≤ a.i ∧ a.i ≤ b.i ∧ b.i ≤ m.i ∧ m.i ≤ y.l.length, .d (.list (C.size e) ((y.l.take b.i.toNat).drop a.i.toNat)), o')
      | _, _ => none) (pur1_loc hp) (fun c y => ?_) (fun o h => by simp only [hC, h]) (fun o c x p h => by simp only [hC, h]; try rfl)
    split
    all_goals first | exact Loc.ret _ _ | exact Loc.none
  · exact Loc.none
theorem extract_loc {x : AV} {i : Nat} : Loc S (Fw x i) := by
  unfold Fw
  split
  · split
    all_goals first | exact Loc.ret _ _ | exact Loc.none
  · split
    all_goals first | exact Loc.ret _ _ | exact Loc.none
  · exact Loc.none
theorem field_loc {t f : Nat} {x : AV} : Loc S (hField C t x f) := by
  unfold hField
  split
  · split
    · split
      · exact Loc.ret _ _
      · split
        all_goals first | exact Loc.ret _ _ | exact Loc.none
      · exact Loc.none
    · exact Loc.none
  · exact Loc.none
theorem purParts_loc (hC : C.dp = 1) : ∀ {ps : List (Nat × AV)} (_ : ∀ k ∈ keysAll (ps.map (·.2)), S k), Loc S (Ta C ps)
  | [], _ => Loc.ret _ _
  | (i, x) :: r, h => by
    simp only [List.map_cons, keysAll, List.mem_append] at h
    refine Loc.bindE (g := fun c y o' => match Ta C r o' with
      | some (c', l, o'') => some (c ∧ c', (i, y) :: l, o'')
      | none => none) (pur1_loc (fun k hk => h k (.inl hk))) (fun c y => ?_) (fun o e => by simp only [Ta, hC, e]) (fun o c x p e => by simp only [Ta, hC, e]; try rfl)
    refine Loc.bindE (g := fun c' l o'' => some (c ∧ c', (i, y) :: l, o'')) (purParts_loc hC (fun k hk => h k (.inr hk))) (fun c y => Loc.ret _ _) (fun o e => by simp only [e]) (fun o c x p e => by simp only [e]; try rfl)
theorem buildSlice_loc (hC : C.dp = 1) {t n key : Nat} {ps : List (Nat × AV)} (hp : ∀ k ∈ keysAll (ps.map (·.2)), S k) (hk : S key) : Loc S (Th C t n ps key) := by
  unfold Th
  split
  · next e _ =>
    refine Loc.bindE (g := fun c qs o' => match lk o' key with
      | none => if n * C.size e ≤ 16777216 ∧ allLt n ps = true then
          some (c ∧ allFit (C.size e) (qs.map (·.2)), AV.sl key n, upd o' key (.row (C.size e) (O7 (Au (C.τ e).zd n) qs) 0)) else none
      | some _ => none) (purParts_loc hC hp) (fun c y => ?_) (fun o e => by simp only [e]) (fun o c x p e => by simp only [e]; try rfl)
    refine Loc.lkE hk (g := fun v o' => match v with
      | none => if n * C.size e ≤ 16777216 ∧ allLt n ps = true then
          some (c ∧ allFit (C.size e) (y.map (·.2)), AV.sl key n, upd o' key (.row (C.size e) (O7 (Au (C.τ e).zd n) y) 0)) else none
      | some _ => none) (fun v => ?_) (fun o v h => by simp only [h]; try rfl)
    repeat' split
    all_goals first | exact Loc.upd hk _ _ _ | exact Loc.none
  · exact Loc.none
theorem makeSlice_loc {t key : Nat} {l c : AV} (hk : S key) : Loc S (C5 C t l c key) := by
  unfold C5
  split
  · next e a b _ =>
    refine Loc.lkE hk (g := fun v o => match v with
      | none => some (a.isAnyInt ∧ b.isAnyInt ∧ 0 ≤ a.i ∧ a.i = b.i ∧ (C.τ e).bytes * b.i ≤ 281474976710656 ∧ b.i ≤ 4294967296,
          AV.sl key a.i.toNat, upd o key (.row (C.size e) (List.replicate a.i.toNat (C.τ e).zd) 0))
      | some _ => none) (fun v => ?_) (fun o v h => by simp only [h]; cases v <;> rfl)
    repeat' split
    all_goals first | exact Loc.upd hk _ _ _ | exact Loc.none
  · exact Loc.none
theorem source_loc {s : Nat} {x : AV} (hx : ∀ k ∈ x.keys, S k) {o o' : K4} (h : ∀ k, S k → lk o k = lk o' k) : Fk s x o = Fk s x o' := by
  cases x with
  | sl i n => simp only [Fk, h i (hx i (by simp [AV.keys]))]
  | _ => rfl
theorem append_loc {t key : Nat} {s x : AV} (hs : ∀ k ∈ s.keys, S k) (hx : ∀ k ∈ x.keys, S k) (hk : S key) : Loc S (hAppend C t s x key) := by
  intro o o' c z p ho he
  have hsrc : ∀ s', Fk s' x o' = Fk s' x o := fun s' => (source_loc hx ho).symm
  unfold hAppend at he ⊢
  simp only [hsrc]
  revert he
  split
  · next e _ =>
    split
    · next c1 xs _ =>
      cases s with
      | nils s =>
        have h2 : Loc S (fun o => match lk o key with
          | none => some (c1 ∧ xs.length * (C.τ e).bytes ≤ 140737488355328 ∧ xs.length ≤ 4611686018427387904, AV.sl key xs.length, upd o key (.row (C.size e) xs 0))
          | some _ => none) := by
          refine Loc.lkE hk (g := fun v o => match v with
            | none => some (c1 ∧ xs.length * (C.τ e).bytes ≤ 140737488355328 ∧ xs.length ≤ 4611686018427387904, AV.sl key xs.length, upd o key (.row (C.size e) xs 0))
            | some _ => none) (fun v => ?_) (fun o v h => by simp only [h]; try rfl)
          repeat' split
          all_goals first | exact Loc.upd hk _ _ _ | exact Loc.none
        exact h2 o o' c z p ho
      | sl i n =>
        have hi := hs i (by simp [AV.keys])
        have h2 : Loc S (fun o => match lk o i with
          | some (.row s' els k) => if s' = C.size e then
              some (c1 ∧ n = els.length ∧ (els.length + xs.length) * (C.τ e).bytes ≤ 140737488355328 ∧ els.length + xs.length ≤ 4611686018427387904, AV.sl i (els ++ xs).length, upd o i (.row s' (els ++ xs) k)) else none
          | _ => none) := by
          refine Loc.lkE hi (g := fun v o => match v with
            | some (.row s' els k) => if s' = C.size e then
              some (c1 ∧ n = els.length ∧ (els.length + xs.length) * (C.τ e).bytes ≤ 140737488355328 ∧ els.length + xs.length ≤ 4611686018427387904, AV.sl i (els ++ xs).length, upd o i (.row s' (els ++ xs) k)) else none
            | _ => none) (fun v => ?_) (fun o v h => by simp only [h]; try rfl)
          repeat' split
          all_goals first | exact Loc.upd hi _ _ _ | exact Loc.none
        exact h2 o o' c z p ho
      | _ => intro he; cases he
    · intro he; cases he
  · intro he; cases he
theorem len_loc {t : Nat} {x : AV} (hx : ∀ k ∈ x.keys, S k) : Loc S (hLen C t x) := by
  unfold hLen
  split
  · exact Loc.ret _ _
  · exact Loc.ret _ _
  · exact Loc.ret _ _
  · next i n _ =>
    have hi := hx i (by simp [AV.keys])
    refine Loc.lkE hi (g := fun v o => match v with
      | some (.row _ els _) => some (n = els.length, AV.d (.int .i64 els.length), o)
      | _ => none) (fun v => ?_) (fun o v h => by simp only [h]; rcases v with _ | (_ | _ | _ | _) <;> rfl)
    repeat' split
    all_goals first | exact Loc.ret _ _ | exact Loc.none
  · exact Loc.none
theorem inArgs_loc (hC : C.dp = 1) : ∀ {xs : List AV} {ms : List Bool} (_ : ∀ k ∈ keysAll xs, S k), Loc S (Bj C ms xs)
  | [], ms, _ => by cases ms <;> exact Loc.ret _ _
  | x :: r, [], _ => Loc.none
  | x :: r, false :: ms, h => by
    simp only [keysAll, List.mem_append] at h
    refine Loc.bindE (g := fun c y o' => match Bj C ms r o' with
      | some (c', l, o'') => some (c ∧ c', CV.d y :: l, o'')
      | none => none) (pur1_loc (fun k hk => h k (.inl hk))) (fun c y => ?_) (fun o e => by simp only [Bj, hC, e]) (fun o c x p e => by simp only [Bj, hC, e]; try rfl)
    refine Loc.bindE (g := fun c' l o'' => some (c ∧ c', CV.d y :: l, o'')) (inArgs_loc hC (xs := r) (ms := ms) (fun k hk => h k (.inr hk))) (fun c y => Loc.ret _ _) (fun o e => by simp only [e]) (fun o c x p e => by simp only [e]; try rfl)
  | x :: r, true :: ms, h => by
    simp only [keysAll, List.mem_append] at h
    have ih := inArgs_loc hC (ms := ms) (fun k hk => h k (.inr hk))
    cases x with
    | sl i n =>
      have hi := h i (.inl (by simp [AV.keys]))
      refine Loc.lkE hi (g := fun v o => match v with
        | some (.row s els k) => (match Bj C ms r (upd o i .gone) with
          | some (c, l, o') => some (c ∧ n = els.length ∧ k = 0 ∧ 0 < s, CV.own s els :: l, o')
          | none => none)
        | _ => none) (fun v => ?_) (fun o v h => by simp only [Bj, h]; try rfl)
      split
      · next s els k =>
        refine Loc.bindE (f := fun o => some (True, (), upd o i .gone)) (g := fun _ _ o => match Bj C ms r o with
          | some (c, l, o') => some (c ∧ n = els.length ∧ k = 0 ∧ 0 < s, CV.own s els :: l, o')
          | none => none) (Loc.upd hi _ _ _) (fun _ _ => ?_) (fun o e => by cases e) (fun o c x p e => by
            simp only [Option.some.injEq, Prod.mk.injEq] at e
            obtain ⟨_, _, rfl⟩ := e
            rfl)
        refine Loc.bindE (g := fun c l o' => some (c ∧ n = els.length ∧ k = 0 ∧ 0 < s, CV.own s els :: l, o')) ih (fun c y => Loc.ret _ _) (fun o e => by simp only [e]) (fun o c x p e => by simp only [e]; try rfl)
      · exact Loc.none
    | nils s =>
      refine Loc.bindE (g := fun c l o' => some (c, CV.own s [] :: l, o')) ih (fun c y => Loc.ret _ _) (fun o e => by simp only [Bj, e]) (fun o c x p e => by simp only [Bj, e]; try rfl)
    | _ => exact Loc.none
theorem outAll_loc : ∀ {l : List CV} {key : Nat} (_ : ∀ j, S (key + 4096 * j)), Loc S (fun o => match C3 key l o with
    | some (ys, o') => some (True, ys, o')
    | none => none)
  | [], key, _ => Loc.congr (Loc.ret True []) (fun o => rfl)
  | x :: r, key, hk => by
    have hk0 : S key := hk 0
    have ih := outAll_loc (l := r) (key := key + 4096) (fun j => by have := hk (j + 1); rwa [Nat.mul_add, Nat.mul_one, Nat.add_comm (4096 * j), ← Nat.add_assoc] at this)
    cases x with
    | tup l => exact Loc.congr Loc.none (fun o => by simp only [C3, Ep])
    | d y =>
      refine Loc.bindE (g := fun _ ys o' => some (True, AV.d y :: ys, o')) ih (fun c y => Loc.ret _ _) (fun o h => ?_) (fun o c x p h => ?_)
      · simp only [C3, Ep]
        split at h
        · cases h
        · next h2 => simp only [h2]
      · simp only [C3, Ep]
        split at h
        · next h2 =>
          simp only [Option.some.injEq, Prod.mk.injEq] at h
          obtain ⟨_, rfl, rfl⟩ := h
          simp only [h2]
        · cases h
    | own s l =>
      refine Loc.lkE hk0 (g := fun v o => match v with
        | none => (match C3 (key + 4096) r (upd o key (.row s l 0)) with
          | some (ys, o') => some (True, AV.sl key l.length :: ys, o')
          | none => none)
        | some _ => none) (fun v => ?_) (fun o v h => ?_)
      · split
        · refine Loc.bindE (f := fun o => some (True, (), upd o key (.row s l 0))) (g := fun _ _ o => match C3 (key + 4096) r o with
            | some (ys, o') => some (True, AV.sl key l.length :: ys, o')
            | none => none) (Loc.upd hk0 _ _ _) (fun _ _ => ?_) (fun o e => by cases e) (fun o c x p e => by
              simp only [Option.some.injEq, Prod.mk.injEq] at e
              obtain ⟨_, _, rfl⟩ := e
              rfl)
          refine Loc.bindE (g := fun _ ys o' => some (True, AV.sl key l.length :: ys, o')) ih (fun c y => Loc.ret _ _) (fun o h => ?_) (fun o c x p h => ?_)
          · split at h
            · cases h
            · next h2 => simp only [h2]
          · split at h
            · next h2 =>
              simp only [Option.some.injEq, Prod.mk.injEq] at h
              obtain ⟨_, rfl, rfl⟩ := h
              simp only [h2]
            · cases h
        · exact Loc.none
      · simp only [C3, Ep, h]
        cases v with
        | some _ => rfl
        | none =>
          simp only
          cases C3 (key + 4096) r (upd o key (.row s l 0)) with
          | none => rfl
          | some q => rfl
theorem outCV_loc {x : CV} {key : Nat} (hk : ∀ j, S (key + 4096 * j)) : Loc S (fun o => match outCV key x o with
    | some (y, o') => some (True, y, o')
    | none => none) := by
  cases x with
  | tup l =>
    refine Loc.bindE (g := fun _ ys o' => some (True, mkTup ys, o')) (outAll_loc (l := l) hk) (fun c y => Loc.ret _ _) (fun o h => ?_) (fun o c x p h => ?_)
    · simp only [outCV]
      split at h
      · cases h
      · next h2 => simp only [h2]
    · simp only [outCV]
      split at h
      · next h2 =>
        simp only [Option.some.injEq, Prod.mk.injEq] at h
        obtain ⟨_, rfl, rfl⟩ := h
        simp only [h2]
      · cases h
  | d y => exact Loc.congr (Loc.ret True (AV.d y)) (fun o => rfl)
  | own s l =>
    refine Loc.lkE (hk 0) (g := fun v o => match v with
      | none => some (True, AV.sl key l.length, upd o key (.row s l 0))
      | some _ => none) (fun v => ?_) (fun o v h => ?_)
    · split
      · exact Loc.upd (hk 0) _ _ _
      · exact Loc.none
    · have h' : lk o key = v := by simpa using h
      simp only [outCV, Ep, h']
      cases v <;> rfl
theorem call_loc (hC : C.dp = 1) {f key : Nat} {args : List AV} (ha : ∀ k ∈ keysAll args, S k) (hk : ∀ j, S (key + 4096 * j)) : Loc S (hCall C f args key) := by
  unfold hCall
  split
  · next con _ =>
    refine Loc.bindE (g := fun c cvs o' => match outCV key (con.fn cvs) o' with
      | some (y, o'') => some (c ∧ con.pre cvs, y, o'')
      | none => none) (inArgs_loc hC (ms := con.modes) ha) (fun c cvs => ?_) (fun o h => by simp only [h]) (fun o c x p h => by simp only [h]; try rfl)
    refine Loc.bindE (g := fun _ y o' => some (c ∧ con.pre cvs, y, o')) (outCV_loc (x := con.fn cvs) hk) (fun c y => Loc.ret _ _) (fun o h => ?_) (fun o c x p h => ?_)
    · split at h
      · cases h
      · next h2 => simp only [h2]
    · split at h
      · next h2 =>
        simp only [Option.some.injEq, Prod.mk.injEq] at h
        obtain ⟨_, rfl, rfl⟩ := h
        simp only [h2]
      · cases h
  · exact Loc.none
theorem Ik : ∀ {a b : List AV}, keysAll (a ++ b) = keysAll a ++ keysAll b
  | [], b => rfl
  | x :: a, b => by simp [keysAll, Ik (a := a), List.append_assoc]
theorem keysAll_d : ∀ (l : List D), keysAll (l.map .d) = []
  | [] => rfl
  | x :: l => by simp [keysAll, AV.keys, keysAll_d l]
theorem callV_loc (hC : C.dp = 1) {f : AV} {key : Nat} {args : List AV} (hf : ∀ k ∈ f.keys, S k) (ha : ∀ k ∈ keysAll args, S k) (hk : ∀ j, S (key + 4096 * j)) : Loc S (hCallV C f args key) := by
  cases f with
  | d x =>
    cases x with
    | clo g caps =>
      refine call_loc hC (fun k h => ?_) hk
      rw [Ik, keysAll_d, List.append_nil] at h
      exact ha k h
    | _ => exact Loc.none
  | clo g caps =>
    refine call_loc hC (fun k h => ?_) hk
    rw [Ik, List.mem_append] at h
    rcases h with h | h
    · exact ha k h
    · exact hf k (by simpa [AV.keys] using h)
  | _ => exact Loc.none
def Sw (l : List Nat) (k : Nat) : Prop := k % 4096 ∈ l
theorem ev_keys {st : AS} (hint : Nat) (x : Operand) : (st.ev C hint x).keys = (st.ev C 0 x).keys := by
  cases x with
  | const v =>
    simp only [AS.ev]
    unfold O1
    split
    · rfl
    · rfl
  | _ => rfl
theorem Oe {k : Nat} : ∀ {l : List AV}, k ∈ keysAll l ↔ ∃ x ∈ l, k ∈ x.keys
  | [] => by simp [keysAll]
  | x :: l => by simp [keysAll, Oe (l := l)]
theorem evs_keys {st : AS} : ∀ (xs : List Operand) (ts : List Nat), keysAll (evs C st xs ts) = keysAll (xs.map (st.ev C 0))
  | [], ts => by cases ts <;> rfl
  | x :: xs, [] => by simp [evs, keysAll, evs_keys xs []]
  | x :: xs, t :: ts => by simp [evs, keysAll, evs_keys xs ts, ev_keys t x]
theorem evParts_keys {st : AS} (h : Nat) : ∀ (ps : List (Nat × Operand)), keysAll ((P4 C st h ps).map (·.2)) = keysAll ((ps.map (·.2)).map (st.ev C 0))
  | [] => rfl
  | (i, x) :: ps => by simp [P4, keysAll, evParts_keys h ps, ev_keys h x]
theorem opStep_loc (hC : C.dp = 1) (o : Oper) (st : AS) : Loc (Sw (Rk C o st)) (fun os => Tb C o ⟨st.tmps, os⟩) := by
  have hev : ∀ (hint : Nat) (x : Operand), x ∈ Gv o.op → ∀ k ∈ (AS.ev C st hint x).keys, Sw (Rk C o st) k := by
    intro hint x hx k hk
    unfold Sw Rk
    rw [List.mem_map]
    refine ⟨k, List.mem_append_left _ (Oe.2 ⟨_, List.mem_map.2 ⟨x, hx, rfl⟩, ?_⟩), rfl⟩
    rwa [ev_keys] at hk
  have hown : ∀ k, o.dst = some k → makes o.op = true → ∀ j, Sw (Rk C o st) (k + 4096 * j) := by
    intro k hk hm j
    unfold Sw Rk
    rw [List.mem_map]
    refine ⟨k, List.mem_append_right _ (by simp [hk, ownKey, hm]), by omega⟩
  have hown0 : ∀ k, o.dst = some k → makes o.op = true → Sw (Rk C o st) k := fun k hk hm => by simpa using hown k hk hm 0
  have E : ∀ (os : K4) (hint : Nat) (x : Operand), AS.ev C ⟨st.tmps, os⟩ hint x = AS.ev C st hint x := fun os hint x => by cases x <;> rfl
  have ES : ∀ (os : K4) (xs : List Operand) (ts : List Nat), evs C ⟨st.tmps, os⟩ xs ts = evs C st xs ts := by
    intro os xs
    induction xs with
    | nil => intro ts; cases ts <;> rfl
    | cons x xs ih => intro ts; cases ts <;> simp [evs, ih, E]
  have EP : ∀ (os : K4) (h : Nat) (ps : List (Nat × Operand)), P4 C ⟨st.tmps, os⟩ h ps = P4 C st h ps := by
    intro os h ps
    induction ps with
    | nil => rfl
    | cons p ps ih => obtain ⟨i, x⟩ := p; simp [P4, ih, E]
  have EO : ∀ (os : K4) (t : Nat) (x : Option Operand), evO C ⟨st.tmps, os⟩ t x = evO C st t x := by
    intro os t x; cases x <;> simp [evO, E]
  unfold Tb
  simp only [E, ES, EP, EO]
  have args : ∀ (xs : List Operand) (ts : List Nat), (∀ x ∈ xs, x ∈ Gv o.op) → ∀ k ∈ keysAll (evs C st xs ts), Sw (Rk C o st) k := by
    intro xs ts hx k hk
    rw [evs_keys, Oe] at hk
    obtain ⟨a, ha, hka⟩ := hk
    obtain ⟨x, hx1, rfl⟩ := List.mem_map.1 ha
    exact hev 0 x (hx x hx1) k hka
  have Na : ∀ (h : Nat) (ps : List (Nat × Operand)), (∀ x ∈ ps.map (·.2), x ∈ Gv o.op) → ∀ k ∈ keysAll ((P4 C st h ps).map (·.2)), Sw (Rk C o st) k := by
    intro h ps hx k hk
    rw [evParts_keys, Oe] at hk
    obtain ⟨a, ha, hka⟩ := hk
    obtain ⟨x, hx1, rfl⟩ := List.mem_map.1 ha
    exact hev 0 x (hx x hx1) k hka
  split
  case h_1 => exact Loc.ret _ _
  case h_2 => exact Loc.ret _ _
  case h_3 => split <;> first | exact Loc.ret _ _ | exact Loc.none
  case h_4 e hop =>
    split
    · next k hk => exact alloc_loc (hown0 k hk (by simp [hop, makes]))
    · exact Loc.none
  case h_5 e x hop =>
    split
    · next k hk => exact alloc_loc (hown0 k hk (by simp [hop, makes]))
    · exact Loc.none
  case h_6 t ps hop =>
    unfold hBuild
    split
    · next fs _ =>
      have : ∀ (r : List (Nat × AV)) (cells : List AV) (c : Prop), Loc (Sw (Rk C o st)) (fun os => St os fs cells r c) := by
        intro r
        induction r with
        | nil => intro cells c; exact Loc.ret _ _
        | cons p r ih =>
          intro cells c
          obtain ⟨i, x⟩ := p
          simp only [St]
          split
          · split
            · exact ih _ _
            · exact Loc.none
          · exact Loc.none
      exact this _ _ _
    · exact Loc.none
  case h_7 t n ps hop =>
    split
    · next k hk => exact buildSlice_loc hC (Na _ _ (fun x hx => by simpa [hop, Gv] using hx)) (hown0 k hk (by simp [hop, makes]))
    · exact Loc.none
  case h_8 t p hop => exact load_loc (hev 0 p (by simp [hop, Gv]))
  case h_9 t p x hop => exact store_loc hC (hev 0 p (by simp [hop, Gv])) (hev t x (by simp [hop, Gv]))
  case h_10 =>
    unfold P0
    split <;> first | exact Loc.ret _ _ | exact Loc.none
  case h_11 =>
    unfold P0
    split <;> first | exact Loc.ret _ _ | exact Loc.none
  case h_12 =>
    unfold P0
    split <;> first | exact Loc.ret _ _ | exact Loc.none
  case h_13 => split <;> first | exact Loc.ret _ _ | exact Loc.none
  case h_14 t l c hop =>
    split
    · next k hk => exact makeSlice_loc (hown0 k hk (by simp [hop, makes]))
    · exact Loc.none
  case h_15 t x lo hi mx hop => exact slice_loc hC (hev t x (by simp [hop, Gv]))
  case h_16 t p f hop => exact fieldAddr_loc (hev 0 p (by simp [hop, Gv]))
  case h_17 t x f hop => exact field_loc
  case h_18 t x i hop => exact indexAddr_loc (hev t x (by simp [hop, Gv]))
  case h_19 t x i hop => exact index_loc
  case h_20 x i hop => exact extract_loc
  case h_21 cl hop =>
    split
    case h_1 hcal =>
      split
      · next x t hx ht => exact len_loc (hev t x (by simp [hop, Gv, hcal, hx]))
      · exact Loc.none
    case h_2 hcal =>
      split
      · next s x t t' k hx ht hk =>
        split
        · exact append_loc (hev t s (by simp [hop, Gv, hcal, hx])) (hev t' x (by simp [hop, Gv, hcal, hx])) (hown0 k hk (by simp [hop, makes, hcal]))
        · exact Loc.none
      · exact Loc.none
    case h_3 =>
      split
      · unfold P0
        split <;> first | exact Loc.ret _ _ | exact Loc.none
      · exact Loc.none
    case h_4 =>
      split
      · unfold P0
        split <;> first | exact Loc.ret _ _ | exact Loc.none
      · exact Loc.none
    case h_5 f hcal =>
      split
      · next k hk => exact call_loc hC (args _ _ (fun x hx => by simp only [hop, Gv, hcal]; exact List.mem_cons_of_mem _ hx)) (hown k hk (by simp [hop, makes, hcal]))
      · exact Loc.none
    case h_6 f hcal =>
      split
      · next k hk => exact callV_loc hC (hev 0 (.tmp f) (by simp [hop, Gv, hcal])) (args _ _ (fun x hx => by simp only [hop, Gv, hcal]; exact List.mem_cons_of_mem _ hx)) (hown k hk (by simp [hop, makes, hcal]))
      · exact Loc.none
    case h_7 => exact Loc.none
  case h_22 => exact Loc.none
theorem opStep_ro {o : Oper} {st : AS} {c : Prop} {x : AV} {p : K4} (hr : roOf o.op = true) (h : Tb C o st = some (c, x, p)) : p = st.objs := by
  unfold Tb at h
  split at h
  case h_1 => simp only [Option.some.injEq, Prod.mk.injEq] at h; exact h.2.2.symm
  case h_2 => simp only [Option.some.injEq, Prod.mk.injEq] at h; exact h.2.2.symm
  case h_3 => split at h <;> simp_all
  case h_4 hop => simp [hop, roOf] at hr
  case h_5 hop => simp [hop, roOf] at hr
  case h_6 t ps hop =>
    unfold hBuild at h
    split at h
    · next fs _ =>
      have : ∀ (r : List (Nat × AV)) (cells : List AV) (c0 : Prop), St st.objs fs cells r c0 = some (c, x, p) → p = st.objs := by
        intro r
        induction r with
        | nil =>
          intro cells c0 h
          simp only [St, Option.some.injEq, Prod.mk.injEq] at h
          exact h.2.2.symm
        | cons q r ih =>
          intro cells c0 h
          obtain ⟨i, y⟩ := q
          simp only [St] at h
          split at h
          · split at h
            · exact ih _ _ h
            · cases h
          · cases h
      exact this _ _ _ h
    · cases h
  case h_7 hop => simp [hop, roOf] at hr
  case h_8 t q hop =>
    unfold hLoad at h
    repeat' split at h
    all_goals first | (simp only [Option.some.injEq, Prod.mk.injEq] at h; exact h.2.2.symm) | cases h
  case h_9 hop => simp [hop, roOf] at hr
  case h_10 =>
    unfold P0 at h
    split at h
    all_goals first | (simp only [Option.some.injEq, Prod.mk.injEq] at h; exact h.2.2.symm) | cases h
  case h_11 =>
    unfold P0 at h
    split at h
    all_goals first | (simp only [Option.some.injEq, Prod.mk.injEq] at h; exact h.2.2.symm) | cases h
  case h_12 =>
    unfold P0 at h
    split at h
    all_goals first | (simp only [Option.some.injEq, Prod.mk.injEq] at h; exact h.2.2.symm) | cases h
  case h_13 =>
    split at h
    all_goals first | (simp only [Option.some.injEq, Prod.mk.injEq] at h; exact h.2.2.symm) | cases h
  case h_14 hop => simp [hop, roOf] at hr
  case h_15 hop => simp [hop, roOf] at hr
  case h_16 =>
    unfold Tg at h
    repeat' split at h
    all_goals first | (simp only [Option.some.injEq, Prod.mk.injEq] at h; exact h.2.2.symm) | cases h
  case h_17 =>
    unfold hField at h
    repeat' split at h
    all_goals first | (simp only [Option.some.injEq, Prod.mk.injEq] at h; exact h.2.2.symm) | cases h
  case h_18 =>
    unfold Tf at h
    repeat' split at h
    all_goals first | (simp only [Option.some.injEq, Prod.mk.injEq] at h; exact h.2.2.symm) | cases h
  case h_19 =>
    unfold hIndex at h
    repeat' split at h
    all_goals first | (simp only [Option.some.injEq, Prod.mk.injEq] at h; exact h.2.2.symm) | cases h
  case h_20 =>
    unfold Fw at h
    repeat' split at h
    all_goals first | (simp only [Option.some.injEq, Prod.mk.injEq] at h; exact h.2.2.symm) | cases h
  case h_21 cl hop =>
    split at h
    case h_1 =>
      split at h
      · unfold hLen at h
        repeat' split at h
        all_goals first | (simp only [Option.some.injEq, Prod.mk.injEq] at h; exact h.2.2.symm) | cases h
      · cases h
    case h_2 hcal => simp [hop, roOf, hcal] at hr
    case h_3 hcal => simp [hop, roOf, hcal] at hr
    case h_4 hcal => simp [hop, roOf, hcal] at hr
    case h_5 hcal => simp [hop, roOf, hcal] at hr
    case h_6 hcal => simp [hop, roOf, hcal] at hr
    case h_7 => cases h
  case h_22 => cases h
theorem opStep_congr {o : Oper} {s s' : AS} (ho : s.objs = s'.objs) (h : ∀ x ∈ Gv o.op, ∀ hint, s.ev C hint x = s'.ev C hint x) : Tb C o s = Tb C o s' := by
  have args : ∀ (xs : List Operand) (ts : List Nat), (∀ x ∈ xs, x ∈ Gv o.op) → evs C s xs ts = evs C s' xs ts := by
    intro xs
    induction xs with
    | nil => intro ts _; cases ts <;> rfl
    | cons x xs ih =>
      intro ts hx
      have h1 := fun hint => h x (hx x (by simp)) hint
      cases ts <;> simp [evs, h1, ih _ (fun y hy => hx y (List.mem_cons_of_mem _ hy))]
  have Na : ∀ (hint : Nat) (ps : List (Nat × Operand)), (∀ x ∈ ps.map (·.2), x ∈ Gv o.op) → P4 C s hint ps = P4 C s' hint ps := by
    intro hint ps
    induction ps with
    | nil => intro _; rfl
    | cons q ps ih =>
      intro hx
      obtain ⟨i, x⟩ := q
      have h1 := h x (hx x (by simp)) hint
      simp [P4,h1,ih (fun y hy => hx y (by simp only [List.map_cons]; exact List.mem_cons_of_mem _ hy))]
  have opt : ∀ (t : Nat) (x : Option Operand), (∀ y ∈ x.toList, y ∈ Gv o.op) → evO C s t x = evO C s' t x := by
    intro t x hx
    cases x with
    | none => rfl
    | some x => simp [evO, h x (hx x (by simp))]
  unfold Tb
  rw [ho]
  split
  case h_1 x hop => rw [h x (by simp [hop, Gv])]
  case h_2 x hop => rw [h x (by simp [hop, Gv])]
  case h_3 c a b hop => rw [h c (by simp [hop, Gv]), h a (by simp [hop, Gv]), h b (by simp [hop, Gv])]
  case h_4 => rfl
  case h_5 e x hop => rw [h x (by simp [hop, Gv])]
  case h_6 t ps hop => rw [Na _ _ (fun x hx => by simpa [hop, Gv] using hx)]
  case h_7 t n ps hop => rw [Na _ _ (fun x hx => by simpa [hop, Gv] using hx)]
  case h_8 t p hop => rw [h p (by simp [hop, Gv])]
  case h_9 t p x hop => rw [h p (by simp [hop, Gv]), h x (by simp [hop, Gv])]
  case h_10 op t x y ty hop => rw [h x (by simp [hop, Gv]), h y (by simp [hop, Gv])]
  case h_11 op t x hop => rw [h x (by simp [hop, Gv])]
  case h_12 s1 t x hop => rw [h x (by simp [hop, Gv])]
  case h_13 f first caps hop => rw [args _ _ (fun x hx => by simpa [hop, Gv] using hx)]
  case h_14 t l c hop => rw [h l (by simp [hop, Gv]), h c (by simp [hop, Gv])]
  case h_15 t x lo hi mx hop =>
    rw [h x (by simp [hop, Gv]), opt 0 lo (fun y hy => by simp only [hop, Gv]; simp only [List.mem_cons, List.mem_append]; exact .inr (.inl (.inl hy))),
      opt 0 hi (fun y hy => by simp only [hop, Gv]; simp only [List.mem_cons, List.mem_append]; exact .inr (.inl (.inr hy))),
      opt 0 mx (fun y hy => by simp only [hop, Gv]; simp only [List.mem_cons, List.mem_append]; exact .inr (.inr hy))]
  case h_16 t p f hop => rw [h p (by simp [hop, Gv])]
  case h_17 t x f hop => rw [h x (by simp [hop, Gv])]
  case h_18 t x i hop => rw [h x (by simp [hop, Gv]), h i (by simp [hop, Gv])]
  case h_19 t x i hop => rw [h x (by simp [hop, Gv]), h i (by simp [hop, Gv])]
  case h_20 x i hop => rw [h x (by simp [hop, Gv])]
  case h_21 cl hop =>
    split
    case h_1 hcal =>
      split
      · next x t hx ht => rw [h x (by simp [hop, Gv, hcal, hx])]
      · rfl
    case h_2 hcal =>
      split
      · next a x t t' k hx ht hk => rw [h a (by simp [hop, Gv, hcal, hx]), h x (by simp [hop, Gv, hcal, hx])]
      · rfl
    case h_3 hcal =>
      split
      · next x y t ts hx ht => rw [h x (by simp [hop, Gv, hcal, hx]), h y (by simp [hop, Gv, hcal, hx])]
      · rfl
    case h_4 hcal =>
      split
      · next x y t ts hx ht => rw [h x (by simp [hop, Gv, hcal, hx]), h y (by simp [hop, Gv, hcal, hx])]
      · rfl
    case h_5 f hcal => rw [args _ _ (fun x hx => by simp only [hop, Gv, hcal]; exact List.mem_cons_of_mem _ hx)]
    case h_6 f hcal => rw [args _ _ (fun x hx => by simp only [hop, Gv, hcal]; exact List.mem_cons_of_mem _ hx), h (.tmp f) (by simp [hop, Gv, hcal])]
    case h_7 => rfl
  case h_22 => rfl
def AS.same (s s' : AS) : Prop := s.tmps = s'.tmps ∧ ∀ k, lk s.objs k = lk s'.objs k
theorem AS.same.refl (s : AS) : s.same s := ⟨rfl, fun _ => rfl⟩
theorem AS.same.trans {a b c : AS} (h : a.same b) (k : b.same c) : a.same c := ⟨h.1.trans k.1, fun i => (h.2 i).trans (k.2 i)⟩
theorem AS.same.symm {a b : AS} (h : a.same b) : b.same a := ⟨h.1.symm, fun i => (h.2 i).symm⟩
theorem SRg.same {base : Nat} {pass : Nat → Prop} {F0 : Anc} {m : Nat → Nat} {G : Gh} {s s' : AS} {a : Act} {w : World} (h : SRg base pass F0 m G s a w) (e : s.same s') : SRg base pass F0 m G s' a w := by
  have el : lk s.objs = lk s'.objs := funext e.2
  obtain ⟨a1, a2, a3, a4, a5, a6, a7, a8, a9, a10⟩ := h
  constructor
  · exact a1
  · rw [← e.1, ← el]; exact a2
  · rw [← el]; exact a3
  · rw [← el]; exact a4
  · rw [← el]; exact a5
  · exact a6
  · exact a7
  · exact a8
  · exact a9
  · rw [← el]; exact a10
theorem SR.same {base : Nat} {pass : Nat → Prop} {F0 : Anc} {s s' : AS} {a : Act} {w : World} (h : SR base pass F0 s a w) (e : s.same s') : SR base pass F0 s' a w := by
  obtain ⟨m, G, h⟩ := h
  exact ⟨m, G, h.same e⟩
def BStep (C : Ctx) (o : Oper) (s : AS) (bc : BCon) (x : bc.X) (rs : List Nat) : Prop :=
  bOf C o s = some (bc, rnAs rs (bc.args x)) ∧ bc.ok x ∧ rs.Nodup ∧ rs.length = (bc.post x).length ∧ (bc.objs x).length ≤ rs.length ∧ K2 rs rs (bc.objs x) s.objs ∧ Mm (rs.drop (bc.objs x).length) s.objs
theorem evs_congr {s s' : AS} : ∀ (xs : List Operand) (ts : List Nat), (∀ x ∈ xs, ∀ hint, s.ev C hint x = s'.ev C hint x) → evs C s xs ts = evs C s' xs ts
  | [], _, _ => rfl
  | x :: r, [], h => by simp only [evs]; rw [h x (by simp), evs_congr r [] (fun y hy => h y (List.mem_cons_of_mem _ hy))]
  | x :: r, t :: ts, h => by simp only [evs]; rw [h x (by simp), evs_congr r ts (fun y hy => h y (List.mem_cons_of_mem _ hy))]
theorem bOf_congr {o : Oper} {s s' : AS} (h : ∀ y ∈ Gv o.op, ∀ hint, s.ev C hint y = s'.ev C hint y) : bOf C o s = bOf C o s' := by
  unfold bOf
  cases hop : o.op with
  | call c =>
    rw [hop] at h
    simp only
    cases hc : c.callee with
    | value f =>
      simp only [Gv, hc] at h
      have ha : ∀ x ∈ c.args.toList, ∀ hint, s.ev C hint x = s'.ev C hint x := fun x hx => h x (List.mem_cons_of_mem _ hx)
      have hf := h f (by simp)
      cases f with
      | func f => simp only [evs_congr _ _ ha]
      | tmp f => simp only [evs_congr _ _ ha, hf]
      | _ => rfl
    | _ => rfl
  | _ => rfl
theorem standAt_congr {rs0 : List Nat} {o o' : K4} : ∀ {ks : List Nat} {l : List Obj}, (∀ k ∈ ks, lk o k = lk o' k) → K2 rs0 ks l o → K2 rs0 ks l o'
  | _, [], _, _ => by unfold K2; trivial
  | [], _ :: _, _, h => by simp [K2] at h
  | k :: ks, x :: l, hk, h => by
    simp only [K2] at h ⊢
    exact ⟨by rw [← hk k (by simp)]; exact h.1, standAt_congr (fun q hq => hk q (List.mem_cons_of_mem _ hq)) h.2⟩
theorem freeAt_congr {o o' : K4} : ∀ {ks : List Nat}, (∀ k ∈ ks, lk o k = lk o' k) → Mm ks o → Mm ks o'
  | [], _, _ => by unfold Mm; trivial
  | k :: ks, hk, h => by
    simp only [Mm] at h ⊢
    exact ⟨by rw [← hk k (by simp)]; exact h.1, freeAt_congr (fun q hq => hk q (List.mem_cons_of_mem _ hq)) h.2⟩
theorem among_rs {rs : List Nat} {k : Nat} (h : k ∈ rs) : Sw (rs.map (· % 4096)) k := List.mem_map.2 ⟨k, h, rfl⟩
theorem BStep.move {o : Oper} {s s' : AS} {bc : BCon} {x : bc.X} {rs : List Nat} (h : BStep C o s bc x rs) (hop : ∀ y ∈ Gv o.op, ∀ hint, s'.ev C hint y = s.ev C hint y)
    (ho : ∀ k, Sw (rs.map (· % 4096)) k → lk s.objs k = lk s'.objs k) : BStep C o s' bc x rs ∧ (∀ k, Sw (rs.map (· % 4096)) k → lk (Pf rs rs (bc.post x) s.objs) k = lk (Pf rs rs (bc.post x) s'.objs) k) ∧
      (∀ k, ¬ Sw (rs.map (· % 4096)) k → lk (Pf rs rs (bc.post x) s.objs) k = lk s.objs k ∧ lk (Pf rs rs (bc.post x) s'.objs) k = lk s'.objs k) := by
  obtain ⟨h1, h2, h3, h4, h5, h6, h7⟩ := h
  have hk : ∀ k ∈ rs, lk s.objs k = lk s'.objs k := fun k hk => ho k (among_rs hk)
  refine ⟨⟨by rw [bOf_congr hop]; exact h1, h2, h3, h4, h5, standAt_congr hk h6, freeAt_congr (fun k hk' => hk k (List.mem_of_mem_drop hk')) h7⟩, fun k hka => ?_, fun k hka => ?_⟩
  · by_cases hkr : k ∈ rs
    · obtain ⟨j, hj⟩ := List.getElem?_of_mem hkr
      have hjl : j < (bc.post x).length := by rw [← h4]; exact (List.getElem?_eq_some_iff.1 hj).1
      have hp := List.getElem?_eq_getElem hjl
      rw [backTo_in h3 hj hp, backTo_in h3 hj hp]
    · rw [Bd hkr, Bd hkr]; exact ho k hka
  · have hkr : k ∉ rs := fun hkr => hka (among_rs hkr)
    exact ⟨Bd hkr, Bd hkr⟩
def Step (C : Ctx) (ops : List Oper) (i : Nat) (fp : List Nat) (ro : Bool) (s s' : AS) : Prop := ∃ o, ops[i]? = some o ∧
  ((match o.guard with
    | none => False
    | some (j, want) => (H5 ops s j).skips want ∧ fp = [] ∧ ro = true ∧ s' = s.put o.dst (.d (.tup [])) s.objs) ∨
  ((match o.guard with
    | none => True
    | some (j, want) => (H5 ops s j).runs want) ∧ fp = Rk C o s ∧ ro = roOf o.op ∧ ∃ c x os, Tb C o s = some (c, x, os) ∧ c ∧ s' = s.put o.dst x os) ∨
  ((match o.guard with
    | none => True
    | some (j, want) => (H5 ops s j).runs want) ∧ ro = false ∧ ∃ (bc : BCon) (x : bc.X) (rs : List Nat), BStep C o s bc x rs ∧ fp = rs.map (· % 4096) ∧ s' = s.put o.dst (.d (bc.res x)) (Pf rs rs (bc.post x) s.objs)))
inductive Tr (C : Ctx) (ops : List Oper) : List (Nat × List Nat × Bool) → AS → AS → Prop
  | nil (s : AS) : Tr C ops [] s s
  | cons {i : Nat} {fp : List Nat} {ro : Bool} {l : List (Nat × List Nat × Bool)} {s t u : AS} (h : Step C ops i fp ro s t) (k : Tr C ops l t u) : Tr C ops ((i, fp, ro) :: l) s u
theorem put_ev {s : AS} {dst : Option Nat} {x : AV} {os : K4} {y : Operand} {hint : Nat} (h : ∀ d, dst = some d → d ∉ tmpOf y) : (s.put dst x os).ev C hint y = s.ev C hint y := by
  cases y with
  | tmp t =>
    cases dst with
    | none => rfl
    | some d =>
      have : d ≠ t := by simpa [tmpOf] using h d rfl
      simp [AS.put,AS.ev,List.getD_eq_getElem?_getD,List.getElem?_set_ne this]
  | _ => rfl
theorem looks_opnd {ops : List Oper} {o : Oper} {d : Nat} (h : d ∉ looks ops o) : ∀ y ∈ Gv o.op, d ∉ tmpOf y := by
  intro y hy hd
  exact h (List.mem_append_left _ (List.mem_flatMap.2 ⟨y, hy, hd⟩))
theorem put_guard {ops : List Oper} {s : AS} {o : Oper} {j : Nat} {want : Bool} (hg : o.guard = some (j, want)) {dst : Option Nat} {x : AV} {os : K4} (h : ∀ d, dst = some d → d ∉ looks ops o) : H5 ops (s.put dst x os) j = H5 ops s j := by
  unfold H5
  cases hj : ops[j]? with
  | none => rfl
  | some g =>
    simp only
    cases hd : g.dst with
    | none => rfl
    | some t =>
      simp only
      cases dst with
      | none => rfl
      | some d =>
        have hne : d ≠ t := by
          intro e
          exact h d rfl (by simp [looks, hg, hj, hd, e])
        simp [AS.put,List.getD_eq_getElem?_getD,List.getElem?_set_ne hne]
theorem guardOf_same {ops : List Oper} {s s' : AS} (h : s.tmps = s'.tmps) (j : Nat) : H5 ops s j = H5 ops s' j := by
  unfold H5
  rw [h]
theorem fpOf_put {ops : List Oper} {s : AS} {o : Oper} {dst : Option Nat} {x : AV} {os : K4} (h : ∀ d, dst = some d → d ∉ looks ops o) : Rk C o (s.put dst x os) = Rk C o s := by
  have : (Gv o.op).map ((s.put dst x os).ev C 0) = (Gv o.op).map (s.ev C 0) := List.map_congr_left fun y hy => put_ev (fun d hd => looks_opnd (h d hd) y hy)
  unfold Rk
  rw [this]
theorem fpOf_same {s s' : AS} (h : s.tmps = s'.tmps) (o : Oper) : Rk C o s = Rk C o s' := by
  have : (Gv o.op).map (s.ev C 0) = (Gv o.op).map (s'.ev C 0) := List.map_congr_left fun y hy => by cases y <;> simp [AS.ev, h]
  unfold Rk
  rw [this]
theorem Md {s : AS} {dst : Option Nat} {x : AV} {os : K4} : (s.put dst x os).objs = os := by cases dst <;> rfl
theorem put_comm {s : AS} {a b : Option Nat} {x y : AV} {p q r u : K4} (h : ∀ d, a = some d → b ≠ some d) : ((s.put a x p).put b y q).tmps = ((s.put b y r).put a x u).tmps := by
  cases a with
  | none => cases b <;> rfl
  | some d =>
    cases b with
    | none => rfl
    | some e =>
      have hne : d ≠ e := fun he => h d rfl (he ▸ rfl)
      simp [AS.put,List.set_comm _ _ hne]
theorem Step.same (hC : C.dp = 1) {ops : List Oper} {i : Nat} {fp : List Nat} {ro : Bool} {s s' t : AS} (h : Step C ops i fp ro s t) (e : s.same s') : ∃ t', Step C ops i fp ro s' t' ∧ t.same t' := by
  obtain ⟨o, ho, h⟩ := h
  rcases h with h | ⟨hg, hfp, hro, c, x, os, h1, hc, rfl⟩ | ⟨hg, hro, bc, x, rs, hb, hfp, rfl⟩
  rotate_right
  · have hev : ∀ y ∈ Gv o.op, ∀ hint, s'.ev C hint y = s.ev C hint y := fun y _ hint => by cases y <;> simp [AS.ev, e.1]
    obtain ⟨b1, b2, b3⟩ := hb.move hev (fun k _ => e.2 k)
    refine ⟨s'.put o.dst (.d (bc.res x)) (Pf rs rs (bc.post x) s'.objs), ⟨o, ho, .inr (.inr ⟨?_, hro, bc, x, rs, b1, hfp, rfl⟩)⟩, ?_, fun k => ?_⟩
    · cases hgd : o.guard with
      | none => trivial
      | some jw =>
        obtain ⟨j, want⟩ := jw
        simp only [hgd] at hg ⊢
        rw [← guardOf_same e.1]
        exact hg
    · cases o.dst <;> simp [AS.put, e.1]
    · rw [Md, Md]
      by_cases hk : Sw (rs.map (· % 4096)) k
      · exact b2 k hk
      · rw [(b3 k hk).1, (b3 k hk).2]; exact e.2 k
  · cases hgd : o.guard with
    | none => simp only [hgd] at h
    | some jw =>
      obtain ⟨j, want⟩ := jw
      simp only [hgd] at h
      obtain ⟨h1, h3, h4, rfl⟩ := h
      refine ⟨s'.put o.dst (.d (.tup [])) s'.objs, ⟨o, ho, .inl ?_⟩, ?_⟩
      · simp only [hgd]
        exact ⟨by rw [← guardOf_same e.1]; exact h1, h3, h4, trivial⟩
      · refine ⟨?_, fun k => ?_⟩
        · cases o.dst <;> simp [AS.put, e.1]
        · rw [Md, Md]; exact e.2 k
  · have h1' : Tb C o ⟨s.tmps, s.objs⟩ = some (c, x, os) := h1
    obtain ⟨os', k1, k2, k3⟩ := opStep_loc hC o s s.objs s'.objs c x os (fun k _ => e.2 k) h1'
    have k1' : Tb C o s' = some (c, x, os') := by
      have : s' = ⟨s.tmps, s'.objs⟩ := by cases s'; simp only [AS.mk.injEq, and_true]; exact e.1.symm
      rw [this]; exact k1
    refine ⟨s'.put o.dst x os', ⟨o, ho, .inr (.inl ⟨?_, by rw [← fpOf_same e.1]; exact hfp, hro, c, x, os', k1', hc, rfl⟩)⟩, ?_, fun k => ?_⟩
    · cases hgd : o.guard with
      | none => trivial
      | some jw =>
        obtain ⟨j, want⟩ := jw
        simp only [hgd] at hg ⊢
        rw [← guardOf_same e.1]
        exact hg
    · cases o.dst <;> simp [AS.put, e.1]
    · rw [Md, Md]
      by_cases hk : Sw (Rk C o s) k
      · exact k2 k hk
      · rw [(k3 k hk).1, (k3 k hk).2]; exact e.2 k
theorem Tr.same (hC : C.dp = 1) {ops : List Oper} {l : List (Nat × List Nat × Bool)} {s s' t : AS} (h : Tr C ops l s t) (e : s.same s') : ∃ t', Tr C ops l s' t' ∧ t.same t' := by
  induction h generalizing s' with
  | nil s => exact ⟨s', .nil s', e⟩
  | cons h _ ih =>
    obtain ⟨t1, k1, k2⟩ := h.same hC e
    obtain ⟨t2, j1, j2⟩ := ih k2
    exact ⟨t2, .cons k1 j1, j2⟩
def Indep (ops : List Oper) (a b : Nat × List Nat × Bool) : Prop := (∀ x y, ops[a.1]? = some x → ops[b.1]? = some y → Az ops x y = true) ∧ ((∀ k, k ∈ a.2.1 → k ∉ b.2.1) ∨ (a.2.2 = true ∧ b.2.2 = true))
theorem slotsApart_spec {ops : List Oper} {x y : Oper} (h : Az ops x y = true) :
    (∀ d, x.dst = some d → d ∉ looks ops y) ∧ (∀ d, x.dst = some d → y.dst ≠ some d) ∧ (∀ d, y.dst = some d → d ∉ looks ops x) := by
  refine ⟨fun d hd => ?_, fun d hd => ?_, fun d hd => ?_⟩ <;> simp [Az, hd] at h
  · exact h.1.1
  · exact h.1.2
  · exact h.2
def StepF (C : Ctx) (ops : List Oper) (o : Oper) (fp : List Nat) (ro : Bool) (s : AS) (x : AV) (os : K4) : Prop :=
  (match o.guard with
    | none => False
    | some (j, want) => (H5 ops s j).skips want ∧ fp = [] ∧ ro = true ∧ x = .d (.tup []) ∧ os = s.objs) ∨
  ((match o.guard with
    | none => True
    | some (j, want) => (H5 ops s j).runs want) ∧ fp = Rk C o s ∧ ro = roOf o.op ∧ ∃ c, Tb C o s = some (c, x, os) ∧ c) ∨
  ((match o.guard with
    | none => True
    | some (j, want) => (H5 ops s j).runs want) ∧ ro = false ∧ ∃ (bc : BCon) (q : bc.X) (rs : List Nat), BStep C o s bc q rs ∧ fp = rs.map (· % 4096) ∧ x = .d (bc.res q) ∧ os = Pf rs rs (bc.post q) s.objs)
theorem step_iff {ops : List Oper} {i : Nat} {fp : List Nat} {ro : Bool} {s t : AS} : Step C ops i fp ro s t ↔ ∃ o x os, ops[i]? = some o ∧ StepF C ops o fp ro s x os ∧ t = s.put o.dst x os := by
  constructor
  · rintro ⟨o, ho, h⟩
    rcases h with h | ⟨hg, hfp, hro, c, x, os, h1, hc, rfl⟩ | ⟨hg, hro, bc, x, rs, hb, hfp, rfl⟩
    rotate_right
    · exact ⟨o, .d (bc.res x), Pf rs rs (bc.post x) s.objs, ho, .inr (.inr ⟨hg, hro, bc, x, rs, hb, hfp, rfl, rfl⟩), rfl⟩
    · refine ⟨o, .d (.tup []), s.objs, ho, .inl ?_, ?_⟩
      · cases hgd : o.guard with
        | none => simp only [hgd] at h
        | some jw => simp only [hgd] at h ⊢; obtain ⟨h1, h3, h4, _⟩ := h; exact ⟨h1, h3, h4, trivial, trivial⟩
      · cases hgd : o.guard with
        | none => simp only [hgd] at h
        | some jw => simp only [hgd] at h; exact h.2.2.2
    · exact ⟨o, x, os, ho, .inr (.inl ⟨hg, hfp, hro, c, h1, hc⟩), rfl⟩
  · rintro ⟨o, x, os, ho, h, rfl⟩
    refine ⟨o, ho, ?_⟩
    rcases h with h | ⟨hg, hfp, hro, c, h1, hc⟩ | ⟨hg, hro, bc, q, rs, hb, hfp, rfl, rfl⟩
    · refine .inl ?_
      cases hgd : o.guard with
      | none => simp only [hgd] at h
      | some jw => simp only [hgd] at h ⊢; obtain ⟨h1, h3, h4, rfl, rfl⟩ := h; exact ⟨h1, h3, h4, rfl⟩
    · exact .inr (.inl ⟨hg, hfp, hro, c, x, os, h1, hc, rfl⟩)
    · exact .inr (.inr ⟨hg, hro, bc, q, rs, hb, hfp, rfl⟩)
theorem StepF.move (hC : C.dp = 1) {ops : List Oper} {o : Oper} {fp : List Nat} {ro : Bool} {s : AS} {x : AV} {os : K4} (h : StepF C ops o fp ro s x os) {s' : AS}
    (hg : ∀ j want, o.guard = some (j, want) → H5 ops s' j = H5 ops s j) (hf : Rk C o s' = Rk C o s) (hop : ∀ y ∈ Gv o.op, ∀ hint, s'.ev C hint y = s.ev C hint y)
    (ho : ∀ k, Sw fp k → lk s.objs k = lk s'.objs k) : ∃ os', StepF C ops o fp ro s' x os' ∧ (∀ k, Sw fp k → lk os k = lk os' k) ∧ (∀ k, ¬ Sw fp k → lk os k = lk s.objs k ∧ lk os' k = lk s'.objs k) := by
  rcases h with h | ⟨hgd, hfp, hro, c, h1, hc⟩ | ⟨hgd, hro, bc, q, rs, hb, hfp, rfl, rfl⟩
  rotate_right
  · subst hfp
    obtain ⟨b1, b2, b3⟩ := hb.move hop ho
    refine ⟨Pf rs rs (bc.post q) s'.objs, .inr (.inr ⟨?_, hro, bc, q, rs, b1, rfl, rfl, rfl⟩), b2, b3⟩
    cases hgd' : o.guard with
    | none => trivial
    | some jw =>
      obtain ⟨j, want⟩ := jw
      simp only [hgd'] at hgd ⊢
      rw [hg j want hgd']
      exact hgd
  · cases hgd : o.guard with
    | none => simp only [hgd] at h
    | some jw =>
      obtain ⟨j, want⟩ := jw
      simp only [hgd] at h
      obtain ⟨h1, h3, h4, rfl, rfl⟩ := h
      refine ⟨s'.objs, .inl ?_, fun k hk => ho k hk, fun k _ => ⟨rfl, rfl⟩⟩
      simp only [hgd]
      exact ⟨by rw [hg j want hgd]; exact h1, h3, h4, trivial, trivial⟩
  · subst hfp
    obtain ⟨os', k1, k2, k3⟩ := opStep_loc hC o s s.objs s'.objs c x os ho h1
    refine ⟨os', .inr (.inl ⟨?_, hf.symm, hro, c, ?_, hc⟩), k2, k3⟩
    · cases hgd' : o.guard with
      | none => trivial
      | some jw =>
        obtain ⟨j, want⟩ := jw
        simp only [hgd'] at hgd ⊢
        rw [hg j want hgd']
        exact hgd
    · rw [← k1]
      exact opStep_congr rfl (fun y hy hint => by rw [hop y hy hint]; cases y <;> rfl)
theorem StepF.ro {ops : List Oper} {o : Oper} {fp : List Nat} {s : AS} {x : AV} {os : K4} (h : StepF C ops o fp true s x os) : os = s.objs := by
  rcases h with h | ⟨_, _, hro, c, h1, _⟩ | ⟨_, hro, _⟩
  · cases hgd : o.guard with
    | none => simp only [hgd] at h
    | some jw => simp only [hgd] at h; obtain ⟨h1, h3, h4, rfl, rfl⟩ := h; rfl
  · exact opStep_ro hro.symm h1
  · cases hro
theorem step_swap (hC : C.dp = 1) {ops : List Oper} {a b : Nat × List Nat × Bool} {s t u : AS} (h1 : Step C ops a.1 a.2.1 a.2.2 s t) (h2 : Step C ops b.1 b.2.1 b.2.2 t u) (hi : Indep ops a b) :
    ∃ t' u', Step C ops b.1 b.2.1 b.2.2 s t' ∧ Step C ops a.1 a.2.1 a.2.2 t' u' ∧ u.same u' := by
  obtain ⟨oa, xa, osa, hoa, fa, rfl⟩ := step_iff.1 h1
  obtain ⟨ob, xb, osb, hob, fb, rfl⟩ := step_iff.1 h2
  obtain ⟨s1, s2, s3⟩ := slotsApart_spec (hi.1 oa ob hoa hob)
  have key : ∀ k, Sw b.2.1 k → lk (s.put oa.dst xa osa).objs k = lk s.objs k := by
    intro k hk
    rw [Md]
    rcases hi.2 with hd | ⟨hr, _⟩
    · have : ¬ Sw a.2.1 k := fun hka => hd _ hka hk
      obtain ⟨_, q1, q2, q3⟩ := fa.move hC (s' := s) (fun _ _ _ => rfl) rfl (fun _ _ _ => rfl) (fun _ _ => rfl)
      exact (q3 k this).1
    · rw [hr] at fa
      rw [fa.ro]
  obtain ⟨osb', fb', e1, e2⟩ := fb.move hC (s' := s) (fun j want hg => (put_guard hg s1).symm) (fpOf_put s1).symm (fun y hy hint => (put_ev (fun d hd => looks_opnd (s1 d hd) y hy)).symm) key
  have key2 : ∀ k, Sw a.2.1 k → lk s.objs k = lk (s.put ob.dst xb osb').objs k := by
    intro k hk
    rw [Md]
    rcases hi.2 with hd | ⟨_, hr⟩
    · have : ¬ Sw b.2.1 k := fun hkb => hd _ hk hkb
      exact (e2 k this).2.symm
    · rw [hr] at fb'
      rw [fb'.ro]
  obtain ⟨osa', fa', g1, g2⟩ := fa.move hC (s' := s.put ob.dst xb osb') (fun j want hg => put_guard hg s3) (fpOf_put s3) (fun y hy hint => put_ev (fun d hd => looks_opnd (s3 d hd) y hy)) key2
  refine ⟨s.put ob.dst xb osb', (s.put ob.dst xb osb').put oa.dst xa osa', step_iff.2 ⟨ob, xb, osb', hob, fb', rfl⟩, step_iff.2 ⟨oa, xa, osa', hoa, fa', rfl⟩, put_comm s2, fun k => ?_⟩
  simp only [Md] at e1 e2 g1 g2 key key2 ⊢
  rcases hi.2 with hd | ⟨hra, hrb⟩
  · by_cases hka : Sw a.2.1 k
    · have hkb : ¬ Sw b.2.1 k := fun hkb => hd _ hka hkb
      rw [(e2 k hkb).1, g1 k hka]
    · rw [(g2 k hka).2]
      by_cases hkb : Sw b.2.1 k
      · exact e1 k hkb
      · rw [(e2 k hkb).1, (e2 k hkb).2, (g2 k hka).1]
  · rw [hra] at fa fa'
    rw [hrb] at fb fb'
    rw [fb.ro, Md, fa.ro, fa'.ro, Md, fb'.ro]
theorem Tr.first (hC : C.dp = 1) {ops : List Oper} {i : Nat × List Nat × Bool} : ∀ {l1 l2 : List (Nat × List Nat × Bool)} {s t : AS}, Tr C ops (l1 ++ i :: l2) s t → (∀ k ∈ l1, Indep ops k i) →
    ∃ s1 t', Step C ops i.1 i.2.1 i.2.2 s s1 ∧ Tr C ops (l1 ++ l2) s1 t' ∧ t.same t'
  | [], l2, s, t, h, _ => by
    simp only [List.nil_append] at h ⊢
    cases h with
    | cons h k => exact ⟨_, t, h, k, AS.same.refl t⟩
  | (k, fk, rk) :: l1, l2, s, t, h, hi => by
    simp only [List.cons_append] at h
    cases h with
    | cons h1 h2 =>
      obtain ⟨u1, t', k1, k2, k3⟩ := Tr.first hC h2 (fun q hq => hi q (List.mem_cons_of_mem _ hq))
      obtain ⟨s1, u', j1, j2, j3⟩ := step_swap hC (a := (k, fk, rk)) (b := i) h1 k1 (hi _ (by simp))
      obtain ⟨t'', q1, q2⟩ := k2.same hC j3
      exact ⟨s1, t'', j1, .cons j2 q1, k3.trans q2⟩
end
end Go.Am
namespace Go.Am
open Go.RowKit (Below)
section
variable {P : Program} {C : Ctx}
variable {base : Nat} {pass : Nat → Prop} {F0 : Anc} {st : AS} {a : Act} {w : World}
theorem set_same {α : Type} {l : List α} {i : Nat} {x d : α} (h : l.getD i d = x) (hi : i < l.length) : l.set i x = l := by
  apply List.ext_getElem?
  intro j
  rw [List.getElem?_set]
  by_cases hij : i = j
  · subst hij
    rw [if_pos rfl, if_pos hi]
    rw [List.getD_eq_getElem?_getD, List.getElem?_eq_getElem hi] at h
    rw [List.getElem?_eq_getElem hi, ← h]
    rfl
  · rw [if_neg hij]
theorem guardOf_spec {ops : List Oper} {j t : Nat} {b : Bool} (h : H5 ops st j = .b t b) : ∃ g, ops[j]? = some g ∧ g.dst = some t ∧ t < st.tmps.length ∧ st.tmps.getD t .dead = .d (.bool b) := by
  unfold H5 at h
  split at h
  · next g hg =>
    split at h
    · next t' ht =>
      split at h
      · next b' hb =>
        injection h with h1 h2
        subst h1; subst h2
        refine ⟨g, hg, ht, ?_, hb⟩
        rcases Nat.lt_or_ge t' st.tmps.length with hlt | hge
        · exact hlt
        · rw [List.getD_eq_getElem?_getD, List.getElem?_eq_none hge] at hb; simp at hb
      · cases h
      · cases h
    · cases h
  · cases h
theorem On {m : Nat → Nat} {G : Gh} (h : SRg base pass F0 m G st a w) {ops : List Oper} {j t : Nat} {b : Bool} (hg : H5 ops st j = .b t b) : yielded ops.toArray a.tmps j = some b := by
  obtain ⟨g, h1, h2, h3, h4⟩ := guardOf_spec hg
  have hx : st.tmps[t]? = some (.d (.bool b)) := by
    rw [List.getElem?_eq_getElem h3]
    rw [List.getD_eq_getElem?_getD, List.getElem?_eq_getElem h3] at h4
    simpa using h4
  obtain ⟨u, hu, hr⟩ := h.tmps.at hx
  simp only [RA, R] at hr
  subst hr
  have hu' : a.tmps[t]? = some (.bool b) := by simpa using hu
  simp [yielded,h1,h2,hu']
theorem guard_und {m : Nat → Nat} {G : Gh} (h : SRg base pass F0 m G st a w) {ops : List Oper} {j : Nat} (hg : H5 ops st j = .und) : yielded ops.toArray a.tmps j = none := by
  unfold H5 at hg
  split at hg
  · next g hj =>
    split at hg
    · next t ht =>
      split at hg
      · cases hg
      · next hb =>
        have hlt : t < st.tmps.length := by
          rcases Nat.lt_or_ge t st.tmps.length with hlt | hge
          · exact hlt
          · rw [List.getD_eq_getElem?_getD, List.getElem?_eq_none hge] at hb; simp at hb
        have hx : st.tmps[t]? = some (.d (.tup [])) := by
          rw [List.getElem?_eq_getElem hlt]
          rw [List.getD_eq_getElem?_getD, List.getElem?_eq_getElem hlt] at hb
          simpa using hb
        obtain ⟨u, hu, hr⟩ := h.tmps.at hx
        simp only [RA, R, Rs] at hr
        obtain ⟨cs, rfl, rfl⟩ := hr
        have hu' : a.tmps[t]? = some (.tuple #[]) := by simpa using hu
        simp [yielded,hj,ht,hu']
      · cases hg
    · cases hg
  · cases hg
theorem undef_ok {F : Fix} {G : Gh} {L : Nat → Option Obj} : RA F G L (.d (.tup [])) undef := by
  simp only [RA, R, Rs]
  exact ⟨[], rfl, rfl⟩
theorem bcall_wp (K : Ky P C) {m : Nat → Nat} {G : Gh} (h : SRg base pass F0 m G st a w) {o : Oper} {bc : BCon} {x : bc.X} {rs : List Nat} (hb : bOf C o st = some (bc, rnAs rs (bc.args x))) (hok : bc.ok x)
    (hnd : rs.Nodup) (hlen : rs.length = (bc.post x).length) (hst : K2 rs rs (bc.objs x) st.objs) (hfr : Mm (rs.drop (bc.objs x).length) st.objs) {N : Act → World → Prop} {Q : Exit → Act → World → Prop}
    (hn : After base pass F0 a st.tmps o.dst (.d (bc.res x)) (Pf rs rs (bc.post x) st.objs) N) : o.wp P a w N Q := by
  unfold bOf at hb
  split at hb
  · next cl hop =>
    have e : cl.args.map a.eval = (cl.args.toList.map a.eval).toArray := by cases cl.args; simp
    split at hb
    · next f hcal =>
      split at hb
      · next bc' hf =>
        injection hb with hb
        injection hb with hb1 hb2
        subst hb1
        have hx := T4 (C := C) h.tmps cl.args.toList cl.argTypes.toList
        rw [hb2] at hx
        obtain ⟨hent, hcalls⟩ := bcall_sound K h hf hok hx hnd hlen hst hfr
        refine Ad (st := st) (args := (cl.args.toList.map a.eval).toArray) ?_ hcalls hn
        have := hent (cl.args.toList.map a.eval).toArray w
        simp only [execOp, hop, resolve, hcal, Act.eval, Deferred.ofValue]
        simpa [invoke, e] using this
      · cases hb
    · next f hcal =>
      have hf0 := Ti (C := C) (hint := 0) h.tmps (.tmp f)
      split at hb
      · next g caps hfv =>
        split at hb
        · next bc' hf =>
          injection hb with hb
          injection hb with hb1 hb2
          subst hb1
          rw [hfv] at hf0
          simp only [RA, R] at hf0
          obtain ⟨cs, hfe, hcs⟩ := hf0
          have hx := RAs.append (T4 (C := C) h.tmps cl.args.toList cl.argTypes.toList) (RAs.of_Rs (G := G) (L := lk st.objs) hcs)
          rw [hb2] at hx
          obtain ⟨hent, hcalls⟩ := bcall_sound K h hf hok hx hnd hlen hst hfr
          refine Ad (st := st) (args := (cl.args.toList.map a.eval ++ cs).toArray) ?_ hcalls hn
          have := hent (cl.args.toList.map a.eval ++ cs).toArray w
          simp only [execOp, hop, resolve, hcal, hfe, Deferred.ofValue]
          simpa [invoke, e] using this
        · cases hb
      · next g caps hfv =>
        split at hb
        · next bc' hf =>
          injection hb with hb
          injection hb with hb1 hb2
          subst hb1
          rw [hfv] at hf0
          simp only [RA] at hf0
          obtain ⟨cs, hfe, hcs⟩ := hf0
          have hx := RAs.append (T4 (C := C) h.tmps cl.args.toList cl.argTypes.toList) hcs
          rw [hb2] at hx
          obtain ⟨hent, hcalls⟩ := bcall_sound K h hf hok hx hnd hlen hst hfr
          refine Ad (st := st) (args := (cl.args.toList.map a.eval ++ cs).toArray) ?_ hcalls hn
          have := hent (cl.args.toList.map a.eval ++ cs).toArray w
          simp only [execOp, hop, resolve, hcal, hfe, Deferred.ofValue]
          simpa [invoke, e] using this
        · cases hb
      · cases hb
    · cases hb
  · cases hb
theorem cut_wp (K : Ky P C) {m : Nat → Nat} {G : Gh} (h : SRg base pass F0 m G st a w) {o : Oper} {i n s k : Nat} {b : D} {els : List D} (hb : cutOf C o st = some (i, n, b, s, els, k))
    (hc : n = els.length ∧ b.isAnyInt ∧ 0 ≤ b.i ∧ b.i ≤ els.length ∧ (k : Int) ≤ b.i ∧ D0 i st.objs = true ∧ i < 90000) {N : Act → World → Prop} {Q : Exit → Act → World → Prop}
    (hn : After base pass F0 a (Td i st.tmps) o.dst (.sl i b.i.toNat) (upd st.objs i (.row s (els.take b.i.toNat) k)) N) : o.wp P a w N Q := by
  obtain ⟨c1, c2, c3, c4, c5, c6, c7⟩ := hc
  unfold cutOf at hb
  split at hb
  · next t x hi d hop hdst =>
    split at hb
    · split at hb
      · next e i' n' b' hk hx hhi =>
        split at hb
        · next s' els' k' hl =>
          split at hb
          · next hs =>
            simp only [Option.some.injEq, Prod.mk.injEq] at hb
            obtain ⟨rfl, rfl, rfl, rfl, rfl, rfl⟩ := hb
            have hvx := Ti (C := C) (hint := t) h.tmps x
            have hvh := Ti (C := C) (hint := 0) h.tmps hi
            rw [hx] at hvx
            rw [hhi] at hvh
            simp only [RA, hl] at hvx hvh
            have hv := hvx.2.2 c1
            obtain ⟨q2, hq⟩ := hvh.of_anyInt c2
            obtain ⟨dd, hd, hkd⟩ := K.1.kind hk rfl
            simp only [TK.is] at hkd
            obtain ⟨rfl, he⟩ := hkd
            have hsz := En (K.1 e he)
            obtain ⟨A, cp, hhd, hle⟩ : ∃ A cp, G.hd i' = .slice A els'.length cp ∧ els'.length ≤ cp := by
              have hob := h.objs i' _ hl
              simp only [Hw] at hob
              rcases hob with ⟨_, h2, h3, _⟩ | ⟨bb, cap, cs, ty, _, h2, h3, _⟩
              · subst h3; exact ⟨none, 0, by rw [h2]; rfl, Nat.le_refl _⟩
              · exact ⟨_, cap, h2, h3⟩
            have hnb : b'.i.toNat ≤ els'.length := by omega
            have hr := S6 (P := P) (w := w) (A := A) (c := cp) hd hsz (lo := none) (hi := some (.int q2 b'.i)) (n := els'.length) (l := 0) (h := b'.i.toNat) (.inl ⟨rfl, rfl⟩) (.inr ⟨q2, by rw [S7 c3]⟩) (Nat.zero_le _) hnb hle
            have hA : (if cp = 0 then A else A.map (·.add (0 * C.size e))) = A := by
              split
              · rfl
              · cases A <;> simp [Addr.add]
            have hcut := h.cut hl hnb (by omega) c6 c7 hhd
            have hlen : (els'.take b'.i.toNat).length = b'.i.toNat := by rw [List.length_take]; omega
            unfold Oper.wp
            rw [show execOp a.eval o = (do pure (.value (← Instr.sliceAt t (a.eval x) none (some (a.eval hi)) none))) by simp only [execOp, hop]; rfl]
            rw [hv, hhd, hq]
            simp only [Sem.run_bind, hr, Result.andThen_ok, Sem.run_pure, Oper.upon]
            refine hn _ w m _ hcut ?_
            simp only [RA, M7, if_true]
            refine ⟨rfl, by omega, fun _ => ?_⟩
            rw [hA]
            simp
          · cases hb
        · cases hb
      · cases hb
    · cases hb
  · cases hb
theorem Af (K : Ky P C) {ops : List Oper} {N : AS → Prop} {Q : Exit → Act → World → Prop} (hQ : ∀ st a w, SR base pass F0 st a w → N st → Q .normal a w) :
    ∀ (l : List Oper) (st : AS) (a : Act) (w : World), SR base pass F0 st a w → aOps C ops l N st → wpList P ops.toArray Q l a w
  | [], st, a, w, h, hn => by
    simp only [aOps] at hn
    exact wpList_nil (hQ st a w h hn)
  | o :: l, st, a, w, h, hn => by
    simp only [aOps] at hn
    have exec : ∀ st a w, SR base pass F0 st a w → aExec C o (aOps C ops l N) st → o.wp P a w (wpList P ops.toArray Q l) Q := by
      intro st a w ⟨m, G, h⟩ he
      unfold aExec at he
      split at he
      · next bc args hbo =>
        obtain ⟨x, rs, hok, hargs, hnd, hlen, hst, hfr, hk⟩ := he
        subst hargs
        refine bcall_wp K h hbo hok hnd hlen hst hfr (fun v w' m' G' hs' hz => ?_)
        refine Af K hQ l _ _ _ ⟨m', G', ?_⟩ hk
        have := hs'.putO (t := o.dst) hz
        unfold AS.put
        exact this
      · split at he
        · next i n b s els k hcu =>
          refine cut_wp K h hcu he.1 (fun v w' m' G' hs' hz => ?_)
          refine Af K hQ l _ _ _ ⟨m', G', ?_⟩ he.2
          have := hs'.putO (t := o.dst) hz
          unfold AS.put
          exact this
        · unfold aExecD at he
          split at he
          · next c x os hs =>
            refine op_sound K h hs he.1 (fun v w' m' G' hs' hz => ?_)
            refine Af K hQ l _ _ _ ⟨m', G', ?_⟩ he.2
            have := hs'.putO (t := o.dst) hz
            unfold AS.put
            exact this
          · exact he.elim
    unfold aOp at hn
    unfold wpList
    split at hn
    · next hg =>
      rw [if_pos (by simp [Region.wanted, hg])]
      exact .inl (exec st a w h hn)
    · next j want hg =>
      split at hn
      · next t b hgo =>
        obtain ⟨m, G, hs⟩ := h
        have hy := On hs hgo
        obtain ⟨g, g1, g2, g3, g4⟩ := guardOf_spec hgo
        have hsame : ({ st with tmps := st.tmps.set t (.d (.bool b)) } : AS) = st := by rw [set_same g4 g3]
        by_cases hb : b = want
        · rw [if_pos (by simp [Region.wanted, hg, hy, hb])]
          have := hn.1 hb
          rw [← hb, hsame] at this
          exact .inl (exec st a w ⟨m, G, hs⟩ this)
        · rw [if_neg (by simp [Region.wanted, hg, hy, hb])]
          have hb' : b = !want := by cases b <;> cases want <;> simp_all
          have := hn.2 hb'
          rw [← hb', hsame] at this
          refine Af K hQ l _ _ _ ⟨m, G, ?_⟩ this
          have hp := hs.putO (t := o.dst) (x := .d (.tup [])) (v := undef) undef_ok
          unfold AS.put
          exact hp
      · next hgo =>
        obtain ⟨m, G, hs⟩ := h
        have hy := guard_und hs hgo
        rw [if_neg (by simp [Region.wanted, hg, hy])]
        refine Af K hQ l _ _ _ ⟨m, G, ?_⟩ hn
        have hp := hs.putO (t := o.dst) (x := .d (.tup [])) (v := undef) undef_ok
        unfold AS.put
        exact hp
      · exact hn.elim
theorem maskOf_bit : ∀ {es : List Edge} {acc : List Nat} {k : Nat}, (maskOf es acc).testBit k = true → ∃ e ∈ es, Region.binds .any e = true ∧ (e.on = k ∨ (acc.getD e.on 0).testBit k = true)
  | [], acc, k, h => by simp [maskOf] at h
  | e :: r, acc, k, h => by
    simp only [maskOf] at h
    split at h
    · next hb =>
      simp only [Nat.testBit_or, Bool.or_eq_true] at h
      rcases h with (h | h) | h
      · rw [Nat.testBit_two_pow] at h
        exact ⟨e, by simp, hb, .inl (by simpa using h)⟩
      · exact ⟨e, by simp, hb, .inr h⟩
      · obtain ⟨e', h1, h2⟩ := maskOf_bit h
        exact ⟨e', List.mem_cons_of_mem _ h1, h2⟩
    · obtain ⟨e', h1, h2⟩ := maskOf_bit h
      exact ⟨e', List.mem_cons_of_mem _ h1, h2⟩
theorem masksGo_spec : ∀ (r : List Oper) (acc : List Nat), ∃ l, masksGo r acc = acc ++ l ∧ l.length = r.length ∧ ∀ (j : Nat) (o : Oper), r[j]? = some o → l[j]? = some (maskOf o.after.toList (acc ++ l.take j))
  | [], acc => ⟨[], by simp [masksGo], rfl, by simp⟩
  | o :: r, acc => by
    obtain ⟨l, h1, h2, h3⟩ := masksGo_spec r (acc ++ [maskOf o.after.toList acc])
    refine ⟨maskOf o.after.toList acc :: l, by simp [masksGo, h1], by simp [h2], fun j x hj => ?_⟩
    cases j with
    | zero => simp only [List.getElem?_cons_zero, Option.some.injEq] at hj; subst hj; simp
    | succ j =>
      simp only [List.getElem?_cons_succ] at hj ⊢
      rw [h3 j x hj]
      simp
theorem masks_bit {ops : List Oper} {i k : Nat} {o : Oper} (ho : ops[i]? = some o) (h : ((masks ops).getD i 0).testBit k = true) :
    ∃ e ∈ o.after.toList, Region.binds .any e = true ∧ (e.on = k ∨ (e.on < i ∧ ((masks ops).getD e.on 0).testBit k = true)) := by
  obtain ⟨l, h1, h2, h3⟩ := masksGo_spec ops []
  have hm : masks ops = l := by simpa [masks] using h1
  have hi := h3 i o ho
  simp only [List.nil_append] at hi
  rw [hm, List.getD_eq_getElem?_getD, hi] at h
  simp only [Option.getD_some] at h
  obtain ⟨e, g1, g2, g3⟩ := maskOf_bit h
  refine ⟨e, g1, g2, g3.elim (fun h => .inl h) fun g => .inr ?_⟩
  by_cases hlt : e.on < i
  · refine ⟨hlt, ?_⟩
    rw [hm]
    rw [List.getD_eq_getElem?_getD, List.getElem?_take, if_pos hlt] at g
    rw [List.getD_eq_getElem?_getD]
    exact g
  · rw [List.getD_eq_getElem?_getD, List.getElem?_take, if_neg hlt] at g
    simp at g
def Closed (ops : List Oper) (listed : Array Bool) : Prop := ∀ i o, ops[i]? = some o → listed.getD i false = true → ∀ e ∈ o.after.toList, Region.binds .any e = true → listed.getD e.on false = true
theorem anc_listed {ops : List Oper} {listed : Array Bool} (hc : Closed ops listed) : ∀ (n i : Nat), i ≤ n → ∀ o, ops[i]? = some o → (∀ e ∈ o.after.toList, Region.binds .any e = true → listed.getD e.on false = true) →
    ∀ k, ((masks ops).getD i 0).testBit k = true → listed.getD k false = true := by
  intro n
  induction n with
  | zero =>
    intro i hi o ho he k hk
    obtain ⟨e, h1, h2, h3⟩ := masks_bit ho hk
    rcases h3 with rfl | ⟨h3, _⟩
    · exact he e h1 h2
    · omega
  | succ n ih =>
    intro i hi o ho he k hk
    obtain ⟨e, h1, h2, h3⟩ := masks_bit ho hk
    rcases h3 with rfl | ⟨h3, h4⟩
    · exact he e h1 h2
    · have hlt : i < ops.length := (List.getElem?_eq_some_iff.1 ho).1
      have hoe : ops[e.on]? = some ops[e.on] := List.getElem?_eq_getElem (by omega)
      exact ih e.on (by omega) _ hoe (fun e' g1 g2 => hc e.on _ hoe (he e h1 h2) e' g1 g2) k h4
theorem edgesOk_spec : ∀ {ops : List Oper} {n : Nat}, edgesOk n ops = true → ∀ i o, ops[i]? = some o → ∀ e ∈ o.after.toList, Region.binds .any e = true → e.on < n + i
  | [], n, _, i, o, ho => by simp at ho
  | x :: r, n, h, i, o, ho => by
    simp only [edgesOk, Bool.and_eq_true, List.all_eq_true, Bool.or_eq_true, Bool.not_eq_true', decide_eq_true_eq] at h
    cases i with
    | zero =>
      simp only [List.getElem?_cons_zero, Option.some.injEq] at ho
      subst ho
      intro e he hb
      rcases h.1 e he with h1 | h1
      · rw [hb] at h1; cases h1
      · exact h1
    | succ i =>
      simp only [List.getElem?_cons_succ] at ho
      intro e he hb
      have := edgesOk_spec h.2 i o ho e he hb
      omega
theorem getD_two {l : Array Bool} {i : Nat} (h : i < l.size) : l.getD i true = l.getD i false := by simp [h]
theorem any_sound (K : Ky P C) (hC : C.dp = 1) {ops : Array Oper} (hE : edgesOk 0 ops.toList = true) {N : Exit → Act → World → Prop} : ∀ (n : Nat) (l : List (Nat × List Nat × Bool)) (listed : Array Bool) (s t : AS) (a : Act) (w : World), l.length = n →
    listed.size = ops.size → (∀ i, i < ops.size → (listed.getD i false = false ↔ ∃ q ∈ l, q.1 = i)) → (∀ q ∈ l, q.1 < ops.size) → (l.map (·.1)).Nodup → Closed ops.toList listed → Tr C ops.toList l s t →
    l.Pairwise (fun p q => Indep ops.toList p q ∨ ((masks ops.toList).getD q.1 0).testBit p.1 = true) → SR base pass F0 s a w → (∀ a w, SR base pass F0 t a w → N .normal a w) → wpAny P .any ops N n listed a w := by
  intro n
  induction n with
  | zero =>
    intro l listed s t a w hl hsz hun hlt hnd hcl htr hpw hs hN
    have : l = [] := List.eq_nil_of_length_eq_zero hl
    subst this
    cases htr
    refine ⟨?_, hN a w hs⟩
    cases hr : Region.ready .any ops listed with
    | nil => rfl
    | cons j r =>
      have hj : j ∈ Region.ready .any ops listed := by rw [hr]; simp
      obtain ⟨h1, o, ho, _⟩ := mem_ready.1 hj
      have hjl : j < ops.size := (Array.getElem?_eq_some_iff.1 ho).1
      rw [getD_two (by omega)] at h1
      obtain ⟨q, hq, _⟩ := (hun j hjl).1 h1
      cases hq
  | succ n ih =>
    intro l listed s t a w hl hsz hun hlt hnd hcl htr hpw hs hN
    refine ⟨fun hnil => ?_, fun i hi => ?_⟩
    · 
      exfalso
      have ex : ∀ m i, i ≤ m → i < ops.size → listed.getD i false = false → ∃ j, j ∈ Region.ready .any ops listed := by
        intro m
        induction m with
        | zero =>
          intro i him hil hu
          refine ⟨i, mem_ready.2 ⟨by rw [getD_two (by omega)]; exact hu, ops[i], by simp [hil], fun e he hb => ?_⟩⟩
          have := edgesOk_spec hE i ops[i] (by simp [hil]) e (by simpa using he) hb
          omega
        | succ m ihm =>
          intro i him hil hu
          by_cases hall : ∀ e ∈ ops[i].after, Region.binds .any e = true → listed.getD e.on false = true
          · exact ⟨i, mem_ready.2 ⟨by rw [getD_two (by omega)]; exact hu, ops[i], by simp [hil], hall⟩⟩
          · have : ∃ e, e ∈ ops[i].after ∧ Region.binds .any e = true ∧ listed.getD e.on false = false := by
              apply Classical.byContradiction
              intro hno
              apply hall
              intro e he hb
              cases hx : listed.getD e.on false with
              | true => rfl
              | false => exact absurd ⟨e, he, hb, hx⟩ hno
            obtain ⟨e, he, hb, hx⟩ := this
            have := edgesOk_spec hE i ops[i] (by simp [hil]) e (by simpa using he) hb
            exact ihm e.on (by omega) (by omega) hx
      cases l with
      | nil => simp at hl
      | cons q r =>
        have hq := hlt q (by simp)
        obtain ⟨j, hj⟩ := ex q.1 q.1 (Nat.le_refl _) hq ((hun q.1 hq).2 ⟨q, by simp, rfl⟩)
        rw [hnil] at hj
        cases hj
    · obtain ⟨h1, o, ho, hall⟩ := mem_ready.1 hi
      have hil : i < ops.size := (Array.getElem?_eq_some_iff.1 ho).1
      have hol : ops.toList[i]? = some o := by simpa using ho
      rw [getD_two (by omega)] at h1
      obtain ⟨q, hq, rfl⟩ := (hun i hil).1 h1
      obtain ⟨l1, l2, rfl⟩ := List.append_of_mem hq
      have hind : ∀ k ∈ l1, Indep ops.toList k q := by
        intro k hk
        rcases (List.pairwise_append.1 hpw).2.2 k hk q (by simp) with h | h
        · exact h
        · exfalso
          have := anc_listed hcl q.1 q.1 (Nat.le_refl _) o hol (fun e he hb => hall e (by simpa using he) hb) k.1 h
          have h2 := (hun k.1 (hlt k (by simp [hk]))).2 ⟨k, by simp [hk], rfl⟩
          rw [this] at h2
          cases h2
      obtain ⟨s1, t', hst, htr', hsame⟩ := htr.first hC hind
      have rest : ∀ a w, SR base pass F0 s1 a w → wpAny P .any ops N n (listed.setIfInBounds q.1 true) a w := by
        intro a w hs1
        have hnd' : q.1 ∉ (l1 ++ l2).map (·.1) := by
          simp only [List.map_append, List.map_cons] at hnd
          have h2 := List.nodup_append.1 hnd
          have h3 := List.nodup_cons.1 h2.2.1
          simp only [List.map_append, List.mem_append, not_or]
          exact ⟨fun hx => h2.2.2 q.1 hx q.1 (by simp) rfl, h3.1⟩
        refine ih (l1 ++ l2) _ s1 t' a w (by simp at hl ⊢; omega) (by simpa using hsz) (fun i hi => ?_) (fun p hp => hlt p (by simp at hp ⊢; rcases hp with hp | hp <;> simp [hp])) ?_ ?_ htr' ?_ hs1 (fun a w h => hN a w (h.same hsame.symm))
        · by_cases hiq : q.1 = i
          · subst hiq
            have : (listed.setIfInBounds q.1 true).getD q.1 false = true := by simp [hsz, hi]
            rw [this]
            constructor
            · intro h; cases h
            · rintro ⟨p, hp, hpe⟩
              exact absurd (List.mem_map.2 ⟨p, hp, hpe⟩) hnd'
          · rw [getD_set_ne false hiq, hun i hi]
            constructor
            · rintro ⟨p, hp, rfl⟩
              refine ⟨p, ?_, rfl⟩
              simp only [List.mem_append, List.mem_cons] at hp ⊢
              rcases hp with hp | rfl | hp
              · exact .inl hp
              · exact absurd rfl hiq
              · exact .inr hp
            · rintro ⟨p, hp, rfl⟩
              refine ⟨p, ?_, rfl⟩
              simp only [List.mem_append, List.mem_cons] at hp ⊢
              rcases hp with hp | hp
              · exact .inl hp
              · exact .inr (.inr hp)
        · simp only [List.map_append, List.map_cons] at hnd ⊢
          have h2 := List.nodup_append.1 hnd
          have h3 := List.nodup_cons.1 h2.2.1
          exact List.nodup_append.2 ⟨h2.1, h3.2, fun x hx y hy => h2.2.2 x hx y (List.mem_cons_of_mem _ hy)⟩
        · intro j oj hoj hlj e he hb
          by_cases hjq : q.1 = j
          · subst hjq
            rw [hol] at hoj
            injection hoj with hoj
            subst hoj
            exact getD_set_true (hall e (by simpa using he) hb)
          · rw [getD_set_ne false hjq] at hlj
            exact getD_set_true (hcl j oj hoj hlj e he hb)
        · have h2 := List.pairwise_append.1 hpw
          have h3 := List.pairwise_cons.1 h2.2.1
          exact List.pairwise_append.2 ⟨h2.1, h3.2, fun x hx y hy => h2.2.2 x hx y (List.mem_cons_of_mem _ hy)⟩
      obtain ⟨o', ho', hstep⟩ := hst
      rw [hol] at ho'
      injection ho' with ho'
      subst ho'
      unfold wpOp
      simp only [ho]
      obtain ⟨m, G, hsg⟩ := hs
      rcases hstep with hstep | ⟨hg, _, _, c, x, os, e1, hc, rfl⟩ | ⟨hg, _, bc, x, rs, ⟨b1, b2, b3, b4, b5, b6, b7⟩, _, rfl⟩
      · cases hgd : o.guard with
        | none => simp only [hgd] at hstep
        | some jw =>
          obtain ⟨j, want⟩ := jw
          simp only [hgd] at hstep
          obtain ⟨g1, _, _, rfl⟩ := hstep
          have hw : ¬ Region.wanted o (yielded ops a.tmps) = true := by
            cases hgo : H5 ops.toList s j with
            | b t1 b =>
              rw [hgo] at g1
              have hy := On hsg hgo
              have hy' : yielded ops a.tmps j = some b := by simpa using hy
              simp only [GV.skips] at g1
              simp [Region.wanted,hgd,hy',g1]
            | und =>
              have hy := guard_und hsg hgo
              have hy' : yielded ops a.tmps j = none := by simpa using hy
              simp [Region.wanted,hgd,hy']
            | no => rw [hgo] at g1; exact g1.elim
          rw [if_neg hw]
          refine rest _ _ ⟨m, G, ?_⟩
          have hp := hsg.putO (t := o.dst) (x := .d (.tup [])) (v := undef) undef_ok
          unfold AS.put
          exact hp
      · have hw : Region.wanted o (yielded ops a.tmps) = true := by
          cases hgd : o.guard with
          | none => simp [Region.wanted, hgd]
          | some jw =>
            obtain ⟨j, want⟩ := jw
            simp only [hgd] at hg
            cases hgo : H5 ops.toList s j with
            | b t1 b =>
              rw [hgo] at hg
              simp only [GV.runs] at hg
              subst hg
              have hy := On hsg hgo
              have hy' : yielded ops a.tmps j = some b := by simpa using hy
              simp [Region.wanted,hgd,hy']
            | und => rw [hgo] at hg; exact hg.elim
            | no => rw [hgo] at hg; exact hg.elim
        rw [if_pos hw]
        refine .inl (op_sound K hsg e1 hc (fun v w' m' G' hs' hz => rest _ _ ⟨m', G', ?_⟩))
        have := hs'.putO (t := o.dst) hz
        unfold AS.put
        exact this
      · have hw : Region.wanted o (yielded ops a.tmps) = true := by
          cases hgd : o.guard with
          | none => simp [Region.wanted, hgd]
          | some jw =>
            obtain ⟨j, want⟩ := jw
            simp only [hgd] at hg
            cases hgo : H5 ops.toList s j with
            | b t1 b =>
              rw [hgo] at hg
              simp only [GV.runs] at hg
              subst hg
              have hy := On hsg hgo
              have hy' : yielded ops a.tmps j = some b := by simpa using hy
              simp [Region.wanted,hgd,hy']
            | und => rw [hgo] at hg; exact hg.elim
            | no => rw [hgo] at hg; exact hg.elim
        rw [if_pos hw]
        refine .inl (bcall_wp K hsg b1 b2 b3 b4 b6 b7 (fun v w' m' G' hs' hz => rest _ _ ⟨m', G', ?_⟩))
        have := hs'.putO (t := o.dst) hz
        unfold AS.put
        exact this
theorem fpsOk_spec {ms : List Nat} : ∀ {acc : List (Nat × List Nat × Bool)}, fpsOk ms acc = true → acc.Pairwise (fun q p => (∀ k, k ∈ p.2.1 → k ∉ q.2.1) ∨ (p.2.2 = true ∧ q.2.2 = true) ∨ (ms.getD q.1 0).testBit p.1 = true)
  | [], _ => List.Pairwise.nil
  | (i, fi, ri) :: r, h => by
    simp only [fpsOk, Bool.and_eq_true, List.all_eq_true, Bool.or_eq_true] at h
    refine List.pairwise_cons.2 ⟨fun p hp => ?_, fpsOk_spec h.2⟩
    rcases h.1 p hp with (h1 | h1) | h1
    · exact .inr (.inr h1)
    · refine .inl fun k hk hk2 => ?_
      have := h1 k hk2
      simp [hk] at this
    · exact .inr (.inl ⟨h1.2, h1.1⟩)
theorem standAt_len {rs0 : List Nat} : ∀ {ks : List Nat} {l : List Obj} {o : K4}, K2 rs0 ks l o → l.length ≤ ks.length
  | _, [], _, _ => by simp
  | [], _ :: _, _, h => by simp [K2] at h
  | k :: ks, x :: l, o, h => by
    simp only [K2] at h
    have := standAt_len h.2
    simp only [List.length_cons]; omega
theorem Fy {ops : List Oper} {Kp : AS → Prop} : ∀ (r : List Oper) (i : Nat) (acc : List (Nat × List Nat × Bool)) (s : AS), (∀ j, r[j]? = ops[i + j]?) → L4 C ops i r acc Kp s →
    ∃ l t acc', Tr C ops l s t ∧ okD ops acc' = true ∧ Kp t ∧ l.map (·.1) = List.range' i r.length ∧
      (∃ d, acc' = d ++ acc ∧ d.reverse.Sublist l ∧ ∀ q ∈ l, q ∉ d → q.2.1 = [] ∧ q.2.2 = true)
  | [], i, acc, s, _, h => by
    simp only [L4] at h
    exact ⟨[], s, acc, .nil s, h.1, h.2, rfl, [], rfl, List.Sublist.refl _, by simp⟩
  | o :: r, i, acc, s, hr, h => by
    have ho : ops[i]? = some o := by have := hr 0; simpa using this.symm
    have hr' : ∀ j, r[j]? = ops[i + 1 + j]? := fun j => by have := hr (j + 1); simpa [Nat.add_assoc, Nat.add_comm 1] using this
    have exec : ∀ s, aExecB C o (fun fp ro => L4 C ops (i + 1) r ((i, fp, ro) :: acc) Kp) s → (match o.guard with
        | none => True
        | some (j, want) => (H5 ops s j).runs want) → ∃ l t acc', Tr C ops l s t ∧ okD ops acc' = true ∧ Kp t ∧ l.map (·.1) = List.range' i (o :: r).length ∧
      (∃ d, acc' = d ++ acc ∧ d.reverse.Sublist l ∧ ∀ q ∈ l, q ∉ d → q.2.1 = [] ∧ q.2.2 = true) := by
      intro s h hg
      unfold aExecB at h
      split at h
      · next bc args hbo =>
        obtain ⟨x, rs, h1, rfl, h3, h4, h5, h6, h7⟩ := h
        obtain ⟨l, t, acc', k1, k2, k3, k4, d, k5, k6, k7⟩ := Fy r (i + 1) _ _ hr' h7
        refine ⟨(i, rs.map (· % 4096), false) :: l, t, acc', .cons ⟨o, ho, .inr (.inr ⟨hg, rfl, bc, x, rs, ⟨hbo, h1, h3, h4, standAt_len h5, h5, h6⟩, rfl, rfl⟩)⟩ k1, k2, k3, by simp [k4, List.range'], d ++ [(i, rs.map (· % 4096), false)], by simp [k5], by simpa using k6, fun q hq hqd => ?_⟩
        simp only [List.mem_append, List.mem_singleton, not_or] at hqd
        rcases List.mem_cons.1 hq with rfl | hq
        · exact absurd rfl hqd.2
        · exact k7 q hq hqd.1
      · split at h
        · next c x os hs =>
          obtain ⟨l, t, acc', k1, k2, k3, k4, d, k5, k6, k7⟩ := Fy r (i + 1) _ _ hr' h.2
          refine ⟨(i, Rk C o s, roOf o.op) :: l, t, acc', .cons ⟨o, ho, .inr (.inl ⟨hg, rfl, rfl, c, x, os, hs, h.1, rfl⟩)⟩ k1, k2, k3, by simp [k4, List.range'], d ++ [(i, Rk C o s, roOf o.op)], by simp [k5], by simpa using k6, fun q hq hqd => ?_⟩
          simp only [List.mem_append, List.mem_singleton, not_or] at hqd
          rcases List.mem_cons.1 hq with rfl | hq
          · exact absurd rfl hqd.2
          · exact k7 q hq hqd.1
        · exact h.elim
    simp only [L4] at h
    split at h
    · next hg => exact exec s h (by simp only [hg])
    · next j want hg =>
      split at h
      · next t b hgo =>
        obtain ⟨g, g1, g2, g3, g4⟩ := guardOf_spec hgo
        have hsame : ({ s with tmps := s.tmps.set t (.d (.bool b)) } : AS) = s := by rw [set_same g4 g3]
        by_cases hb : b = want
        · have := h.1 hb
          rw [← hb, hsame] at this
          exact exec s this (by simp only [hg, hgo, GV.runs]; exact hb)
        · have hb' : b = !want := by cases b <;> cases want <;> simp_all
          have := h.2 hb'
          rw [← hb', hsame] at this
          obtain ⟨l, t', acc', k1, k2, k3, k4, d, k5, k6, k7⟩ := Fy r (i + 1) _ _ hr' this
          refine ⟨(i, [], true) :: l, t', acc', .cons ⟨o, ho, .inl ?_⟩ k1, k2, k3, by simp [k4, List.range'], d, k5, k6.cons _, fun q hq hqd => ?_⟩
          · simp only [hg, hgo]
            exact ⟨hb, by simp⟩
          · rcases List.mem_cons.1 hq with rfl | hq
            · exact ⟨rfl, rfl⟩
            · exact k7 q hq hqd
      · next hgo =>
        obtain ⟨l, t', acc', k1, k2, k3, k4, d, k5, k6, k7⟩ := Fy r (i + 1) _ _ hr' h
        refine ⟨(i, [], true) :: l, t', acc', .cons ⟨o, ho, .inl ?_⟩ k1, k2, k3, by simp [k4, List.range'], d, k5, k6.cons _, fun q hq hqd => ?_⟩
        · simp only [hg, hgo]
          exact ⟨trivial, by simp⟩
        · rcases List.mem_cons.1 hq with rfl | hq
          · exact ⟨rfl, rfl⟩
          · exact k7 q hq hqd
      · exact h.elim
theorem slotsOk_spec {ops : List Oper} (h : slotsOk ops = true) {i k : Nat} {x y : Oper} (hk : ops[k]? = some x) (hi : ops[i]? = some y) (hlt : k < i) : ((masks ops).getD i 0).testBit k = true ∨ Az ops x y = true := by
  simp only [slotsOk, List.all_eq_true, List.mem_range, Bool.or_eq_true] at h
  have := h i (List.getElem?_eq_some_iff.1 hi).1 k hlt
  rw [hk, hi] at this
  exact this
theorem draw_sound (K : Ky P C) (hC : C.dp = 1) {ops : Array Oper} {N : AS → Prop} {Q : Exit → Act → World → Prop} (hQ : ∀ st a w, SR base pass F0 st a w → N st → Q .normal a w) {s : AS} (h : SR base pass F0 s a w)
    (hn : L4 C ops.toList 0 ops.toList [] N s) : wpAny P .any ops Q ops.size (Array.replicate ops.size false) a w := by
  obtain ⟨l, t, d, k1, k2, k3, k4, d', k5, k6, k7⟩ := Fy ops.toList 0 [] s (fun j => by simp) hn
  simp only [List.append_nil] at k5
  subst k5
  simp only [okD, Bool.and_eq_true] at k2
  obtain ⟨⟨e1, e2⟩, e3⟩ := k2
  have hlen : l.length = ops.size := by have := congrArg List.length k4; simpa using this
  have hmem : ∀ i, (∃ q ∈ l, q.1 = i) ↔ i < ops.size := by
    intro i
    have : i ∈ l.map (·.1) ↔ i < ops.size := by rw [k4]; simp
    rw [← this, List.mem_map]
  have hnd : (l.map (·.1)).Nodup := by rw [k4, ← List.range_eq_range']; exact List.nodup_range
  refine any_sound K hC e1 ops.size l _ s t a w hlen (by simp) (fun i hi => ?_) (fun q hq => (hmem q.1).1 ⟨q, hq, rfl⟩) hnd (fun i o ho hl => ?_) k1 ?_ h (fun a w hs => hQ t a w hs k3)
  · simp [hi, hmem i]
  · rcases Nat.lt_or_ge i ops.size with hlt | hge
    · simp [hlt] at hl
    · simp [Nat.not_lt.2 hge] at hl
  · 
    have hord : l.Pairwise (fun p q => p.1 < q.1) := by
      have : (l.map (·.1)).Pairwise (· < ·) := by rw [k4, ← List.range_eq_range']; exact List.pairwise_lt_range
      exact List.pairwise_map.1 this
    have hfp := fpsOk_spec e3
    have hd : d.reverse.Pairwise (fun p q => (∀ k, k ∈ p.2.1 → k ∉ q.2.1) ∨ (p.2.2 = true ∧ q.2.2 = true) ∨ ((masks ops.toList).getD q.1 0).testBit p.1 = true) := List.pairwise_reverse.2 hfp
    have hall : ∀ p ∈ l, ∀ q ∈ l, p.1 < q.1 → (∀ k, k ∈ p.2.1 → k ∉ q.2.1) ∨ (p.2.2 = true ∧ q.2.2 = true) ∨ ((masks ops.toList).getD q.1 0).testBit p.1 = true := by
      intro p hp q hq hlt
      by_cases hpd : p ∈ d
      · by_cases hqd : q ∈ d
        · 
          have hs : d.reverse.Pairwise (fun p q => p.1 < q.1) := hord.sublist k6
          have both : ∀ {R : Nat × List Nat × Bool → Nat × List Nat × Bool → Prop} {L : List (Nat × List Nat × Bool)}, L.Pairwise R → L.Pairwise (fun p q => p.1 < q.1) → ∀ p ∈ L, ∀ q ∈ L, p.1 < q.1 → R p q := by
            intro R L
            induction L with
            | nil => intro _ _ p hp; cases hp
            | cons x L ihL =>
              intro h1 h2 p hp q hq hlt
              rw [List.pairwise_cons] at h1 h2
              rcases List.mem_cons.1 hp with hpx | hp'
              · rcases List.mem_cons.1 hq with hqx | hq'
                · subst hpx; subst hqx; omega
                · subst hpx; exact h1.1 q hq'
              · rcases List.mem_cons.1 hq with hqx | hq'
                · subst hqx; have := h2.1 p hp'; omega
                · exact ihL h1.2 h2.2 p hp' q hq' hlt
          exact both hd hs p (by simpa using hpd) q (by simpa using hqd) hlt
        · obtain ⟨q1, _⟩ := k7 q hq hqd
          exact .inl fun k _ hk => by rw [q1] at hk; cases hk
      · obtain ⟨q1, _⟩ := k7 p hp hpd
        exact .inl fun k hk => by rw [q1] at hk; cases hk
    refine hord.imp_of_mem fun {p q} hp hq hlt => ?_
    have hpl := (hmem p.1).1 ⟨p, hp, rfl⟩
    have hql := (hmem q.1).1 ⟨q, hq, rfl⟩
    rcases slotsOk_spec e2 (k := p.1) (i := q.1) (x := ops[p.1]) (y := ops[q.1]) (by simp [hpl]) (by simp [hql]) hlt with hb | hap
    · exact .inr hb
    · rcases hall p hp q hq hlt with h1 | h1 | h1
      · refine .inl ⟨fun x y hx hy => ?_, .inl h1⟩
        have hx' : ops[p.1] = x := by simpa [hpl] using hx
        have hy' : ops[q.1] = y := by simpa [hql] using hy
        rw [← hx', ← hy']
        exact hap
      · refine .inl ⟨fun x y hx hy => ?_, .inr h1⟩
        have hx' : ops[p.1] = x := by simpa [hpl] using hx
        have hy' : ops[q.1] = y := by simpa [hql] using hy
        rw [← hx', ← hy']
        exact hap
      · exact .inr h1
theorem SR.drew (h : SR base pass F0 st a w) : SR base pass F0 st a { w with drawn := w.drawn + 1 } := by
  obtain ⟨m, G, h⟩ := h
  exact ⟨m, G, h.drew⟩
def exitOf : AExit → Exit
  | .normal => .normal
  | .exit id => .exit id
  | .ret => .ret
theorem Dy (K : Ky P C) : ∀ (c : Code) {N : AExit → AS → Prop} {Q : Exit → Act → World → Prop} {st : AS} {a : Act} {w : World},
    (∀ e st a w, SR base pass F0 st a w → N e st → Q (exitOf e) a w) → SR base pass F0 st a w → awp C c N st → c.wp P Q a w
  | .skip, N, Q, st, a, w, hQ, h, hn => wp_skip (hQ .normal st a w h hn)
  | .region id ops false, N, Q, st, a, w, hQ, h, hn => by
    simp only [awp] at hn
    refine wp_region_list ?_
    have := Af (P := P) K (Q := Q) (hQ .normal) ops.toList st a w h hn
    simpa using this
  | .region id ops true, N, Q, st, a, w, hQ, h, hn => by
    simp only [awp] at hn
    refine wp_region_any K.2.2.1 (draw_sound (C := C.one) ⟨K.1, K.2.1, K.2.2.1, K.2.2.2⟩ rfl (hQ .normal) h.drew hn)
  | .seq x y, N, Q, st, a, w, hQ, h, hn => by
    simp only [awp] at hn
    refine wp_seq (Dy K x ?_ h hn)
    intro e st a w hs he
    cases e with
    | normal => exact Dy K y hQ hs he
    | exit id => exact hQ (.exit id) st a w hs he
    | ret => exact hQ .ret st a w hs he
  | .cond c x y, N, Q, st, a, w, hQ, h, hn => by
    simp only [awp] at hn
    split at hn
    · next b hb =>
      obtain ⟨m, G, hs⟩ := h
      have hr := Ti (C := C) (hint := 0) hs.tmps c
      rw [hb] at hr
      simp only [RA] at hr
      have hv := hr.of_bool hn.1
      exact wp_cond_split hv (fun ht => Dy K x hQ ⟨m, G, hs⟩ (hn.2.1 ht)) (fun hf => Dy K y hQ ⟨m, G, hs⟩ (hn.2.2 hf))
    · exact hn.elim
  | .block id c, N, Q, st, a, w, hQ, h, hn => by
    simp only [awp] at hn
    refine wp_block (Dy K c ?_ h hn)
    intro e st a w hs he
    cases e with
    | normal => exact hQ .normal st a w hs he
    | exit id' =>
      simp only [aBlock] at he
      simp only [exitOf, Exit.inBlock]
      split
      · next hid => rw [if_pos hid] at he; exact hQ .normal st a w hs he
      · next hid => rw [if_neg hid] at he; exact hQ (.exit id') st a w hs he
    | ret => exact hQ .ret st a w hs he
  | .loop c, N, Q, st, a, w, hQ, h, hn => by
    simp only [awp] at hn
    obtain ⟨α, inv, ok, μ, ⟨x0, hw0, hok0⟩, hround⟩ := hn
    obtain ⟨m, G, hs⟩ := h
    refine wp_loop_ghost (fun n a w => ∃ x, ok x ∧ μ x = n ∧ SR base pass F0 (inv x) a w) (μ x0) ⟨x0, hok0, rfl, m, _, hs.weak hw0⟩ ?_
    rintro n a w ⟨x, hok, rfl, hsx⟩
    refine Dy K c ?_ hsx (hround x hok)
    intro e st a w hs he
    cases e with
    | normal =>
      obtain ⟨x', hw', hok', hlt⟩ := he
      obtain ⟨m', G', hs'⟩ := hs
      exact ⟨μ x', hlt, x', hok', rfl, m', _, hs'.weak hw'⟩
    | exit id => exact hQ (.exit id) st a w hs he
    | ret => exact hQ .ret st a w hs he
  | .exit id, N, Q, st, a, w, hQ, h, hn => wp_exit (hQ (.exit id) st a w h hn)
  | .ret, N, Q, st, a, w, hQ, h, hn => wp_ret (hQ .ret st a w h hn)
  | .rangeFunc .., _, _, _, _, _, _, _, hn => by simp [awp] at hn
  | .scope _, _, _, _, _, _, _, _, hn => by simp [awp] at hn
  | .label _, _, _, _, _, _, _, _, hn => by simp [awp] at hn
  | .goto _, _, _, _, _, _, _, _, hn => by simp [awp] at hn
  | .refuse _, _, _, _, _, _, _, _, hn => by simp [awp] at hn
end
def resAV (C : Ctx) (st : AS) : ResultVar → Option (Prop × AV)
  | .tmp t => some (True, st.tmps.getD t .dead)
  | .cell t T => match hLoad C T (st.tmps.getD t .dead) st.objs with
    | some (c, x, _) => some (c, x)
    | none => none
def resAll (C : Ctx) (st : AS) : List ResultVar → Option (Prop × List AV)
  | [] => some (True, [])
  | r :: rs => match resAV C st r, resAll C st rs with
    | some (c, x), some (c', l) => some (c ∧ c', x :: l)
    | _, _ => none
def retOk (C : Ctx) (rs : List ResultVar) (outs : List Bool) (r : CV) (st : AS) : Prop := match resAll C st rs with
  | some (c, xs) => match Bj C outs xs st.objs with
    | some (c', cvs, _) => c ∧ c' ∧ match cvs with
      | [x] => x = r
      | l => CV.tup l = r
    | none => False
  | none => False
def Post (C : Ctx) (rs : List ResultVar) (outs : List Bool) (r : CV) : AExit → AS → Prop
  | .exit _, _ => False
  | _, st => retOk C rs outs r st
def M6 : Nat → List CV → List AV × K4
  | _, [] => ([], [])
  | k, .d x :: r => (.d x :: (M6 (k + 1) r).1, (M6 (k + 1) r).2)
  | k, .own s l :: r => (.sl k l.length :: (M6 (k + 1) r).1, (k, .row s l 0) :: (M6 (k + 1) r).2)
  | k, .tup _ :: r => (.dead :: (M6 (k + 1) r).1, (M6 (k + 1) r).2)
def deads : Nat → List AV
  | 0 => []
  | n + 1 => .dead :: deads n
def beginAS (n : Nat) (cvs : List CV) : AS := ⟨(M6 90000 cvs).1 ++ deads (n - cvs.length), (M6 90000 cvs).2⟩
theorem upd_new : ∀ {o : K4} {k : Nat} {x : Obj}, lk o k = none → upd o k x = o ++ [(k, x)]
  | [], _, _, _ => rfl
  | (j, p) :: r, k, x, h => by
    simp only [lk] at h
    by_cases hkj : k = j
    · rw [if_pos hkj] at h; cases h
    · rw [if_neg hkj] at h
      simp only [upd, if_neg hkj, List.cons_append, upd_new h]
theorem begin_sound {base : Nat} {pass : Nat → Prop} {F0 : Anc} {m : Nat → Nat} {w : World} : ∀ {cvs : List CV} {vs : List Value} {k : Nat} {os : K4} {G : Gh}, SRg base pass F0 m G ⟨[], os⟩ ⟨#[], []⟩ w → Lm ⟨w, m⟩ cvs vs → (K8 cvs vs).Nodup →
    (∀ b ∈ K8 cvs vs, (base ≤ b ∨ pass b) ∧ ∀ i oi, lk os i = some oi → oi.owns = true → G.γ i ≠ some b) → (∀ j, k ≤ j → lk os j = none) →
    ∃ G', Cm G (lk os) G' (lk (os ++ (M6 k cvs).2)) ∧ SRg base pass F0 m G' ⟨[], os ++ (M6 k cvs).2⟩ ⟨#[], []⟩ w ∧ RAs ⟨w, m⟩ G' (lk (os ++ (M6 k cvs).2)) (M6 k cvs).1 vs
  | [], vs, k, os, G, h, hc, _, _, _ => by
    simp only [Lm] at hc
    subst hc
    simp only [M6, List.append_nil]
    exact ⟨G, Cm.refl _ _, h, by simp [RAs]⟩
  | .tup l :: cvs, vs, k, os, G, h, hc, _, _, _ => by
    simp only [Lm, CVR] at hc
    obtain ⟨_, _, _, hf, _⟩ := hc
    exact hf.elim
  | .d x :: cvs, vs, k, os, G, h, hc, hn, hb, hk => by
    simp only [Lm, CVR] at hc
    obtain ⟨v, r, rfl, hx, hxs⟩ := hc
    obtain ⟨G', q1, q2, q3⟩ := begin_sound (k := k + 1) h hxs (by simpa [K8] using hn) (fun b hbb => hb b (by simpa [K8] using hbb)) (fun j hj => hk j (by omega))
    simp only [M6]
    refine ⟨G', q1, q2, ?_⟩
    simp only [RAs, RA]
    exact ⟨v, r, rfl, hx, q3⟩
  | .own s l :: cvs, vs, k, os, G, h, hc, hn, hb, hk => by
    simp only [Lm, CVR] at hc
    obtain ⟨v, r, rfl, hx, hxs⟩ := hc
    have hsplit : K8 (.own s l :: cvs) (v :: r) = v.ownBlock.toList ++ K8 cvs r := rfl
    rw [hsplit] at hn hb
    obtain ⟨n1, n2, n3⟩ := List.nodup_append.1 hn
    have hk0 := hk k (Nat.le_refl _)
    obtain ⟨G1, q1, q2, q3, q4, q5⟩ := h.adopt hk0 hx (fun b hbb => hb b (List.mem_append_left _ (by simp [hbb])))
    rw [upd_new hk0] at q1 q2 q3
    obtain ⟨G', p1, p2, p3⟩ := begin_sound (k := k + 1) (os := os ++ [(k, .row s l 0)]) q2 hxs n2 (fun b hbb => by
      refine ⟨(hb b (List.mem_append_right _ hbb)).1, fun i oi hi ho hg => ?_⟩
      rw [← upd_new hk0, M7] at hi
      by_cases hik : i = k
      · subst hik
        exact n3 b (by simp [q5 b hg]) b hbb rfl
      · rw [if_neg hik] at hi
        rw [q4 i hik] at hg
        exact (hb b (List.mem_append_right _ hbb)).2 i oi hi ho hg) (fun j hj => by
      rw [← upd_new hk0, M7, if_neg (by omega)]
      exact hk j (by omega))
    simp only [M6]
    simp only [List.append_assoc, List.singleton_append] at p1 p2 p3
    refine ⟨G', ?_, p2, ?_⟩
    · intro j o hj
      obtain ⟨oa, a1, a2, a3⟩ := q1 j o hj
      obtain ⟨ob, b1, b2, b3⟩ := p1 j oa a1
      refine ⟨ob, b1, fun hbx => ?_, fun s' els' k' he => ?_⟩
      · obtain ⟨u1, u2⟩ := b2 hbx
        obtain ⟨u3, u4⟩ := a2 u1
        exact ⟨u3, u2.trans u4⟩
      · obtain ⟨els1, kk1, e1, e2, e3⟩ := b3 s' els' k' he
        obtain ⟨els2, kk2, f1, f2, f3⟩ := a3 s' els1 kk1 e1
        refine ⟨els2, kk2, f1, Nat.le_trans f2 e2, fun hl => ?_⟩
        obtain ⟨u1, u2⟩ := e3 (by omega)
        obtain ⟨u3, u4⟩ := f3 (by omega)
        exact ⟨u1.trans u3, u2.trans u4⟩
    · simp only [RAs]
      exact ⟨v, r, rfl, RA.mono (Fix.le_refl _) p1 q3, p3⟩
theorem Lm.length {F : Fix} : ∀ {l : List CV} {vs : List Value}, Lm F l vs → vs.length = l.length
  | [], _, h => by simp only [Lm] at h; simp [h]
  | _ :: l, _, h => by
    simp only [Lm] at h
    obtain ⟨v, r, rfl, _, h3⟩ := h
    simp [Lm.length h3]
theorem deads_sound {F : Fix} {G : Gh} {L : Nat → Option Obj} : ∀ n, RAs F G L (deads n) (List.replicate n undef)
  | 0 => by simp [deads, RAs]
  | n + 1 => by simp only [deads, List.replicate_succ, RAs, RA]; exact ⟨undef, _, rfl, trivial, deads_sound n⟩
def resSem (a : Act) : ResultVar → Sem Value
  | .tmp t => pure (a.tmps.getD t undef)
  | .cell t T => do loadVar T (← asAddr (a.tmps.getD t undef))
theorem run_resSem {P : Program} {w : World} {T : TypeId} {v v' : Value} (h : (Instr.loadAt T v).run P w = .ok v' w) : (do loadVar T (← asAddr v) : Sem Value).run P w = .ok v' w := by
  cases v with
  | pointer a =>
    cases a with
    | none => simp [Instr.loadAt, Instr.sureAddr] at h
    | some a => simpa [Instr.loadAt, Instr.sureAddr, asAddr] using h
  | _ => simp [Instr.loadAt, Instr.sureAddr] at h
section
variable {P : Program} {C : Ctx} {base : Nat} {pass : Nat → Prop} {F0 : Anc} {m : Nat → Nat} {G : Gh} {st : AS} {a : Act} {w : World}
theorem resAV_sound (T : B6 P C.τ) (h : SRg base pass F0 m G st a w) {r : ResultVar} {c : Prop} {x : AV}
    (hr : resAV C st r = some (c, x)) (hc : c) : ∃ v, (resSem a r).run P w = .ok v w ∧ RA ⟨w, m⟩ G (lk st.objs) x v := by
  cases r with
  | tmp t =>
    simp only [resAV, Option.some.injEq, Prod.mk.injEq] at hr
    obtain ⟨rfl, rfl⟩ := hr
    exact ⟨_, rfl, Ti (C := C) (hint := 0) h.tmps (.tmp t)⟩
  | cell t T' =>
    simp only [resAV] at hr
    split at hr
    · next c1 y os hl =>
      simp only [Option.some.injEq, Prod.mk.injEq] at hr
      obtain ⟨rfl, rfl⟩ := hr
      have hp := Ti (C := C) (hint := 0) h.tmps (.tmp t)
      obtain ⟨_, v, r1, r2⟩ := load_ok (P := P) T h hp hl hc
      exact ⟨v, run_resSem r1, r2⟩
    · cases hr
theorem resAll_sound (T : B6 P C.τ) (h : SRg base pass F0 m G st a w) : ∀ {rs : List ResultVar} {c : Prop} {xs : List AV}, resAll C st rs = some (c, xs) → c →
    ∃ vs, (rs.mapM (resSem a)).run P w = .ok vs w ∧ RAs ⟨w, m⟩ G (lk st.objs) xs vs
  | [], c, xs, hr, hc => by
    simp only [resAll, Option.some.injEq, Prod.mk.injEq] at hr
    obtain ⟨rfl, rfl⟩ := hr
    exact ⟨[], by simp, by simp [RAs]⟩
  | r :: rs, c, xs, hr, hc => by
    simp only [resAll] at hr
    split at hr
    · next c1 x c2 l h1 h2 =>
      simp only [Option.some.injEq, Prod.mk.injEq] at hr
      obtain ⟨rfl, rfl⟩ := hr
      obtain ⟨v, e1, e2⟩ := resAV_sound T h h1 hc.1
      obtain ⟨vs, g1, g2⟩ := resAll_sound T h h2 hc.2
      refine ⟨v :: vs, by simp [List.mapM_cons, e1, g1], ?_⟩
      simp only [RAs]
      exact ⟨v, vs, rfl, e2, g2⟩
    · cases hr
def packs : List Value → Value
  | [v] => v
  | vs => .tuple vs.toArray
theorem run_results {fn : Func} {vs : List Value} (h : (fn.results.toList.mapM (resSem a)).run P w = .ok vs w) : (results fn a.tmps).run P w = .ok (packs vs) w := by
  have e : results fn a.tmps = (do
      let us ← List.toArray <$> fn.results.toList.mapM (resSem a)
      pure (if h : us.size = 1 then us[0] else .tuple us)) := by
    unfold results
    congr 1
    rw [Array.mapM_eq_mapM_toList]
    rfl
  rw [e]
  simp only [Sem.run_bind, Sem.run_map, h, Result.andThen_ok, Sem.run_pure]
  match vs with
  | [] => simp [packs]
  | [v] => simp [packs]
  | _ :: _ :: _ => simp [packs]
theorem Ke (K : Ky P C) {f : FuncId} {fn : Func} {c : Code} {con : Con} (hf : P.funcs[f]? = some fn) (hb : fn.body = some c) (rs : List ResultVar) (hrs : fn.results.toList = rs) (nt : Nat) (hnt : fn.ntmps = nt)
    (h : ∀ cvs, con.pre cvs → awp C c (Post C rs con.outs (con.fn cvs)) (beginAS nt cvs)) : Sound P f con := by
  intro m w cvs vs hpre hcv hnd hnew
  subst hnt
  subst hrs
  refine calls_of_wp hf hb ?_
  have hlt : ∀ (l : List CV) (us : List Value), Lm ⟨w, m⟩ l us → ∀ b ∈ K8 l us, b < w.heap.size := by
    intro l
    induction l with
    | nil => intro us hu b hb; simp [K8] at hb
    | cons x l ih =>
      intro us hu b hb
      simp only [Lm] at hu
      obtain ⟨u, r, rfl, hx1, hxs1⟩ := hu
      have hsplit : K8 (x :: l) (u :: r) = K8 [x] [u] ++ K8 l r := by cases x <;> simp [K8]
      rw [hsplit] at hb
      rcases List.mem_append.1 hb with hb | hb
      · cases x with
        | own s els =>
          simp [K8] at hb
          exact (OwnV.lt hx1 hb).1
        | _ => simp [K8] at hb
      · exact ih r hxs1 b hb
  have h0 : SRg w.heap.size (· ∈ K8 cvs vs) ⟨⟨w, m⟩, ⟨fun _ => none, fun _ => undef⟩, fun _ => none⟩ m ⟨fun _ => none, fun _ => undef⟩ ⟨[], []⟩ ⟨#[], []⟩ w :=
    ⟨rfl, by simp [RAs], fun i o hi => by simp [lk] at hi, fun i j oi oj b hi => by simp [lk] at hi, fun i o b hi => by simp [lk] at hi, Frame.refl _ _ _, fun _ _ _ => rfl, hnew, Nat.le_refl _, fun i o hi => by cases hi⟩
  obtain ⟨G, q1, q2, q3⟩ := begin_sound (k := 90000) (os := []) h0 hcv hnd (fun b hb => ⟨.inr hb, fun i oi hi => by simp [lk] at hi⟩) (fun _ _ => rfl)
  simp only [List.nil_append] at q1 q2 q3
  have hlen := Lm.length hcv
  have hs : SRg w.heap.size (· ∈ K8 cvs vs) ⟨⟨w, m⟩, ⟨fun _ => none, fun _ => undef⟩, fun _ => none⟩ m G (beginAS fn.ntmps cvs) { tmps := vs.toArray ++ Array.replicate (fn.ntmps - vs.toArray.size) undef, defers := [] } w := by
    refine ⟨rfl, ?_, q2.objs, q2.apart, q2.mine, q2.frame, q2.old, q2.new, q2.small, q2.lent⟩
    have := RAs.append q3 (deads_sound (F := ⟨w, m⟩) (G := G) (L := lk (M6 90000 cvs).2) (fn.ntmps - cvs.length))
    simpa [beginAS, hlen] using this
  have fin : ∀ (st : AS) (a : Act) (w' : World), SR w.heap.size (· ∈ K8 cvs vs) ⟨⟨w, m⟩, ⟨fun _ => none, fun _ => undef⟩, fun _ => none⟩ st a w' → retOk C fn.results.toList con.outs (con.fn cvs) st →
      a.defers = [] ∧ ∃ v, (results fn a.tmps).run P w' = .ok v w' ∧ ∃ u m', Ending.returned v = .returned u ∧ Frame w.heap.size (· ∈ K8 cvs vs) w w' ∧ (∀ b, b < w.heap.size → b ∉ K8 cvs vs → m' b = m b) ∧
        (∀ b, w'.heap.size ≤ b → m' b = 0) ∧ Res ⟨w', m'⟩ w.heap.size (· ∈ K8 cvs vs) (con.fn cvs) u := by
    intro st a w' ⟨m1, G1, hs1⟩ hret
    unfold retOk at hret
    split at hret
    · next c1 xs hra =>
      split at hret
      · next c2 cvs2 os hin =>
        obtain ⟨hc1, hc2, hfin⟩ := hret
        obtain ⟨us, e1, e2⟩ := resAll_sound K.1 hs1 hra hc1
        obtain ⟨m2, k1, k2, k3, k4, k5⟩ := inArgs_sound hs1 hin hc2 e2
        refine ⟨hs1.defers, _, run_results e1, _, m2, rfl, k1.frame, fun b hb hnb => k1.old b hb hnb, k1.new, ?_⟩
        split at hfin
        · next x =>
          simp only [Lm] at k3
          obtain ⟨v, r, rfl, hx, rfl⟩ := k3
          rw [← hfin]
          cases x with
          | tup l => simp [CVR] at hx
          | d x =>
            simp only [Res]
            exact ⟨⟨v, [], rfl, hx, rfl⟩, fun b hb => (k5 b hb).1⟩
          | own s l =>
            simp only [Res]
            exact ⟨⟨v, [], rfl, hx, rfl⟩, fun b hb => (k5 b hb).1⟩
        · next hne =>
          rw [← hfin]
          simp only [Res]
          refine ⟨us, ?_, k3, k4, fun b hb => (k5 b hb).1⟩
          match us, Lm.length k3 with
          | [u], hl =>
            match cvs2, hl with
            | [x], _ => exact absurd rfl (hne x)
          | [], _ => rfl
          | _ :: _ :: _, _ => rfl
      · exact hret.elim
    · exact hret.elim
  refine Dy K c ?_ ⟨m, G, hs⟩ (h cvs hpre)
  intro e st a w' hsr hpost
  cases e with
  | normal => exact fin st a w' hsr hpost
  | ret => exact fin st a w' hsr hpost
  | exit id => exact hpost.elim
def packD : List D → D
  | [d] => d
  | l => .tup l
def canon (n : Nat) (qs : List Nat) : Prop := ∀ j, j < n → qs[j]? = some (90000 + j)
def retB (C : Ctx) (rs : List ResultVar) (n : Nat) (res : D) (post : List Obj) (st : AS) : Prop := match resAll C st rs with
  | some (c, xs) => match purs C.dp xs st.objs with
    | some (c', ds, os) => c ∧ c' ∧ packD ds = res ∧ ∃ qs : List Nat, qs.Nodup ∧ qs.length = post.length ∧ canon n qs ∧ K2 qs qs post os
    | none => False
  | none => False
def PostB (C : Ctx) (rs : List ResultVar) (n : Nat) (res : D) (post : List Obj) : AExit → AS → Prop
  | .exit _, _ => False
  | _, st => retB C rs n res post st
theorem packs_R {F : Fix} {ds : List D} {us : List Value} (h : Rs F ds us) : R F (packD ds) (packs us) := by
  match ds, us, h with
  | [], us, h =>
    simp only [Rs] at h
    subst h
    simp only [packD, packs, R, Rs]
    exact ⟨[], rfl, rfl⟩
  | [d], us, h =>
    simp only [Rs] at h
    obtain ⟨v, r, rfl, h2, rfl⟩ := h
    exact h2
  | d :: e :: l, us, h =>
    have h' := h
    simp only [Rs] at h
    obtain ⟨v, r, rfl, h2, v', r', rfl, h3, h4⟩ := h
    simp only [packD, packs, R]
    exact ⟨_, rfl, h'⟩
theorem fn_soundB (K : Ky P C) {f : FuncId} {fn : Func} {c : Code} {bc : BCon} (hf : P.funcs[f]? = some fn) (hb : fn.body = some c) (rs : List ResultVar) (hrs : fn.results.toList = rs) (nt : Nat) (hnt : fn.ntmps = nt)
    (h : ∀ x, bc.ok x → Tied (bc.args x) (bc.objs x) ∧ P1 (bc.objs x) ∧ Tied [] (bc.post x) ∧ (bc.objs x).length ≤ (bc.post x).length ∧
      awp C c (PostB C rs (bc.objs x).length (bc.res x) (bc.post x)) ⟨bc.args x ++ deads (nt - (bc.args x).length), Hs (bc.objs x)⟩) : SoundB P f bc := by
  intro x hok
  obtain ⟨h1, h2, h3, h4, h5⟩ := h x hok
  refine ⟨h1, h2, h3, h4, fun m w G vs hsr => ?_⟩
  subst hnt
  subst hrs
  refine calls_of_wp hf hb ?_
  have hlen := RAs.length (by simpa using hsr.tmps : RAs ⟨w, m⟩ G (lk (Hs (bc.objs x))) (bc.args x) vs)
  have hs : SRg w.heap.size (passB G (bc.objs x)) ⟨⟨w, m⟩, G, lk (Hs (bc.objs x))⟩ m G ⟨bc.args x ++ deads (fn.ntmps - (bc.args x).length), Hs (bc.objs x)⟩
      { tmps := vs.toArray ++ Array.replicate (fn.ntmps - vs.toArray.size) undef, defers := [] } w := by
    refine ⟨rfl, ?_, hsr.objs, hsr.apart, hsr.mine, hsr.frame, hsr.old, hsr.new, hsr.small, hsr.lent⟩
    have := RAs.append (by simpa using hsr.tmps : RAs ⟨w, m⟩ G (lk (Hs (bc.objs x))) (bc.args x) vs) (deads_sound (F := ⟨w, m⟩) (G := G) (L := lk (Hs (bc.objs x))) (fn.ntmps - (bc.args x).length))
    simpa [hlen] using this
  have fin : ∀ (st : AS) (a : Act) (w' : World), SR w.heap.size (passB G (bc.objs x)) ⟨⟨w, m⟩, G, lk (Hs (bc.objs x))⟩ st a w' → retB C fn.results.toList (bc.objs x).length (bc.res x) (bc.post x) st →
      a.defers = [] ∧ ∃ v, (results fn a.tmps).run P w' = .ok v w' ∧ ∃ u m' G', Ending.returned v = .returned u ∧ R ⟨w', m'⟩ (bc.res x) u ∧
        SRg w.heap.size (passB G (bc.objs x)) ⟨⟨w, m⟩, G, lk (Hs (bc.objs x))⟩ m' G' ⟨[], Hs (bc.post x)⟩ ⟨#[], []⟩ w' := by
    intro st a w' ⟨m1, Gf, hs1⟩ hret
    unfold retB at hret
    split at hret
    · next c1 xs hra =>
      split at hret
      · next c2 ds os hpu =>
        obtain ⟨hc1, hc2, hpk, qs, hnd, hql, hcan, hst⟩ := hret
        obtain ⟨us, e1, e2⟩ := resAll_sound K.1 hs1 hra hc1
        obtain ⟨m2, k1, _, k3⟩ := purs_sound' hs1 hpu hc2 e2
        have hinj : ∀ {j j' k : Nat}, qs[j]? = some k → qs[j']? = some k → j = j' := by
          intro j j' k h1 h2
          obtain ⟨hj, e1⟩ := List.getElem?_eq_some_iff.1 h1
          obtain ⟨hj', e2⟩ := List.getElem?_eq_some_iff.1 h2
          have hp := List.pairwise_iff_getElem.1 hnd
          rcases Nat.lt_trichotomy j j' with hlt | heq | hgt
          · exact absurd (e1.trans e2.symm) (hp j j' hj hj' hlt)
          · exact heq
          · exact absurd (e2.trans e1.symm) (hp j' j hj' hj hgt)
        let G' : Gh := ⟨fun i => Gf.γ (rk qs i), fun i => Gf.hd (rk qs i)⟩
        have al : Alike qs (bc.post x) G' Gf (lk os) := ⟨fun i o hi => by
          obtain ⟨j, rfl, hj⟩ := P2 hi
          obtain ⟨k, hk, hkk⟩ := Bz hst hj
          rw [A6 hk]; exact hkk, fun i o hi => ⟨rfl, rfl⟩⟩
        refine ⟨hs1.defers, _, run_results e1, _, m2, G', rfl, by rw [← hpk]; exact packs_R k3, ?_⟩
        constructor
        · rfl
        · simp [RAs]
        · intro i o hi
          obtain ⟨j, rfl, hj⟩ := P2 hi
          exact (rn_ObjOk al hi (tiedAll_at h3.2 hj)).2 (k1.objs _ _ (al.obj _ _ hi))
        · intro i i' o o' b hi hi' ho ho' hb hb'
          have e := k1.apart _ _ _ _ b (al.obj _ _ hi) (al.obj _ _ hi') (by rw [S9]; exact ho) (by rw [S9]; exact ho') hb hb'
          obtain ⟨j, rfl, hj⟩ := P2 hi
          obtain ⟨j', rfl, hj'⟩ := P2 hi'
          obtain ⟨k, hk, _⟩ := Bz hst hj
          obtain ⟨k', hk', _⟩ := Bz hst hj'
          rw [A6 hk, A6 hk'] at e
          subst e
          rw [hinj hk hk']
        · intro i o b hi ho hb
          exact k1.mine _ _ b (al.obj _ _ hi) (by rw [S9]; exact ho) hb
        · exact k1.frame
        · exact k1.old
        · exact k1.new
        · exact k1.small
        · intro i o hi
          obtain ⟨hge, o', ho', hw⟩ := k1.lent i o hi
          obtain ⟨j, rfl, hj⟩ := P2 hi
          have hjn : j < (bc.objs x).length := (List.getElem?_eq_some_iff.1 hj).1
          have hjp : j < (bc.post x).length := by omega
          have hp := List.getElem?_eq_getElem (l := bc.post x) hjp
          obtain ⟨k, hk, hkk⟩ := Bz hst hp
          rw [hcan j hjn] at hk
          injection hk with hk
          subst hk
          simp only at ho'
          rw [hkk] at ho'
          injection ho' with ho'
          subst ho'
          have eg : G'.γ (90000 + j) = Gf.γ (90000 + j) := by show Gf.γ (rk qs (90000 + j)) = _; rw [A6 (hcan j hjn)]
          have eh : G'.hd (90000 + j) = Gf.hd (90000 + j) := by show Gf.hd (rk qs (90000 + j)) = _; rw [A6 (hcan j hjn)]
          refine ⟨hge, _, Sx hp, fun hb => ?_, fun s els' k' he => ?_⟩
          · obtain ⟨w1, w2⟩ := hw.1 (by rw [rnO_isBox]; exact hb)
            exact ⟨w1, eg.trans w2⟩
          · obtain ⟨els, k0, f1, f2, f3⟩ := hw.2 s els' k' (rnO_row.2 he)
            refine ⟨els, k0, f1, f2, fun heq => ?_⟩
            obtain ⟨q1, q2⟩ := f3 heq
            exact ⟨eg.trans q1, eh.trans q2⟩
      · exact hret.elim
    · exact hret.elim
  refine Dy K c ?_ ⟨m, G, hs⟩ h5
  intro e st a w' hsr hpost
  cases e with
  | normal => exact fin st a w' hsr hpost
  | ret => exact fin st a w' hsr hpost
  | exit id => exact hpost.elim
end
end Go.Am
namespace Go.Am
mutual
def zD : D → Value → Bool
  | .int k n, .int k' n' => k == k' && n == n'
  | .bool b, .bool b' => b == b'
  | .str s, .string b => s == b.data.toList
  | .nilf, .nilFunc => true
  | .nilp, .pointer none => true
  | .list _ l, .slice none 0 0 => l.isEmpty
  | .agg l, .agg cs => zDs l cs.toList && cs.toList.all (·.oneCell')
  | _, _ => false
def zDs : List D → List Value → Bool
  | [], [] => true
  | x :: l, v :: vs => zD x v && zDs l vs
  | _, _ => false
end
mutual
def zA : AV → Value → Bool
  | .d x, v => zD x v
  | .nils _, .slice none 0 0 => true
  | .agg l, .agg cs => zAs l cs.toList && cs.toList.all (·.oneCell')
  | _, _ => false
def zAs : List AV → List Value → Bool
  | [], [] => true
  | x :: l, v :: vs => zA x v && zAs l vs
  | _, _ => false
end
mutual
theorem zD_sound : ∀ {x : D} {v : Value}, zD x v = true → ∀ F, R F x v
  | .int k n, v, h, F => by
    cases v <;> simp only [zD, Bool.false_eq_true, Bool.and_eq_true, beq_iff_eq] at h
    simp only [R]; rw [h.1, h.2]
  | .bool b, v, h, F => by
    cases v <;> simp only [zD, Bool.false_eq_true, beq_iff_eq] at h
    simp only [R]; rw [h]
  | .str s, v, h, F => by
    cases v <;> simp only [zD, Bool.false_eq_true, beq_iff_eq] at h
    simp only [R]; rw [h]
  | .nilf, v, h, F => by
    cases v <;> simp only [zD, Bool.false_eq_true] at h
    simp only [R]
  | .nilp, v, h, F => by
    cases v with
    | pointer a => cases a <;> simp only [zD, Bool.false_eq_true] at h; simp only [R]
    | _ => simp only [zD, Bool.false_eq_true] at h
  | .list s l, v, h, F => by
    cases v with
    | slice A n c =>
      cases A with
      | some A => simp only [zD, Bool.false_eq_true] at h
      | none =>
        cases n with
        | succ n => simp only [zD, Bool.false_eq_true] at h
        | zero =>
          cases c with
          | succ c => simp only [zD, Bool.false_eq_true] at h
          | zero =>
            simp only [zD, List.isEmpty_iff] at h
            subst h
            simp only [R]
            exact ⟨none, 0, rfl, by simp, by simp [maxLen], by simp⟩
    | _ => simp only [zD, Bool.false_eq_true] at h
  | .agg l, v, h, F => by
    cases v with
    | agg cs =>
      simp only [zD, Bool.and_eq_true, List.all_eq_true] at h
      simp only [R]
      exact ⟨cs.toList, by simp, zDs_sound h.1 F, h.2⟩
    | _ => simp only [zD, Bool.false_eq_true] at h
  | .tup l, v, h, F => by cases v <;> simp only [zD, Bool.false_eq_true] at h
  | .ptr s x, v, h, F => by cases v <;> simp only [zD, Bool.false_eq_true] at h
  | .clo f l, v, h, F => by cases v <;> simp only [zD, Bool.false_eq_true] at h
theorem zDs_sound : ∀ {l : List D} {vs : List Value}, zDs l vs = true → ∀ F, Rs F l vs
  | [], vs, h, F => by
    cases vs with
    | nil => simp only [Rs]
    | cons => simp only [zDs, Bool.false_eq_true] at h
  | x :: l, vs, h, F => by
    cases vs with
    | nil => simp only [zDs, Bool.false_eq_true] at h
    | cons v vs =>
      simp only [zDs, Bool.and_eq_true] at h
      simp only [Rs]
      exact ⟨v, vs, rfl, zD_sound h.1 F, zDs_sound h.2 F⟩
end
mutual
theorem zA_sound : ∀ {x : AV} {v : Value}, zA x v = true → ∀ F G L, RA F G L x v
  | .d x, v, h, F, G, L => by
    simp only [zA] at h
    simp only [RA]
    exact zD_sound h F
  | .nils s, v, h, F, G, L => by
    cases v with
    | slice A n c =>
      cases A with
      | some A => simp only [zA, Bool.false_eq_true] at h
      | none =>
        cases n with
        | succ n => simp only [zA, Bool.false_eq_true] at h
        | zero =>
          cases c with
          | succ c => simp only [zA, Bool.false_eq_true] at h
          | zero => simp only [RA]
    | _ => simp only [zA, Bool.false_eq_true] at h
  | .agg l, v, h, F, G, L => by
    cases v with
    | agg cs =>
      simp only [zA, Bool.and_eq_true, List.all_eq_true] at h
      simp only [RA]
      exact ⟨cs.toList, by simp, zAs_sound h.1 F G L, h.2⟩
    | _ => simp only [zA, Bool.false_eq_true] at h
  | .ref .., v, h, F, G, L => by cases v <;> simp only [zA, Bool.false_eq_true] at h
  | .rref .., v, h, F, G, L => by cases v <;> simp only [zA, Bool.false_eq_true] at h
  | .sl .., v, h, F, G, L => by cases v <;> simp only [zA, Bool.false_eq_true] at h
  | .tup .., v, h, F, G, L => by cases v <;> simp only [zA, Bool.false_eq_true] at h
  | .clo .., v, h, F, G, L => by cases v <;> simp only [zA, Bool.false_eq_true] at h
  | .dead, v, h, F, G, L => by cases v <;> simp only [zA, Bool.false_eq_true] at h
theorem zAs_sound : ∀ {l : List AV} {vs : List Value}, zAs l vs = true → ∀ F G L, RAs F G L l vs
  | [], vs, h, F, G, L => by
    cases vs with
    | nil => simp only [RAs]
    | cons => simp only [zAs, Bool.false_eq_true] at h
  | x :: l, vs, h, F, G, L => by
    cases vs with
    | nil => simp only [zAs, Bool.false_eq_true] at h
    | cons v vs =>
      simp only [zAs, Bool.and_eq_true] at h
      simp only [RAs]
      exact ⟨v, vs, rfl, zA_sound h.1 F G L, zAs_sound h.2 F G L⟩
end
def fieldsB (P : Program) : List Field → List (Nat × Nat) → Bool
  | [], [] => true
  | f :: l, p :: r => f.offset == p.1 && ((P.info? f.type).map (·.size) == some p.2) && decide (0 < p.2) && (p.2 != 1 || (match P.underlying f.type with | some d => plainDesc d | none => false)) && fieldsB P l r
  | _, _ => false
theorem fieldsB_sound {P : Program} : ∀ {l : List Field} {r : List (Nat × Nat)}, fieldsB P l r = true → r.length = l.length ∧ ∀ (j : Nat) (f : Field) (p : Nat × Nat), l[j]? = some f → r[j]? = some p →
    f.offset = p.1 ∧ (P.info? f.type).map (·.size) = some p.2 ∧ 0 < p.2 ∧ (p.2 = 1 → ∃ d', P.underlying f.type = some d' ∧ plainDesc d' = true)
  | [], [], _ => ⟨rfl, fun j f p h => by simp at h⟩
  | [], _ :: _, h => by simp [fieldsB] at h
  | _ :: _, [], h => by simp [fieldsB] at h
  | f :: l, p :: r, h => by
    simp only [fieldsB, Bool.and_eq_true, beq_iff_eq, decide_eq_true_eq, Bool.or_eq_true, bne_iff_ne] at h
    obtain ⟨⟨⟨⟨h1, h2⟩, h3⟩, h4⟩, h5⟩ := h
    obtain ⟨g1, g2⟩ := fieldsB_sound h5
    refine ⟨by simp [g1], fun j f' p' hj hp => ?_⟩
    cases j with
    | zero =>
      simp only [List.getElem?_cons_zero, Option.some.injEq] at hj hp
      subst hj; subst hp
      refine ⟨h1, h2, h3, fun he => ?_⟩
      rcases h4 with h4 | h4
      · exact absurd he h4
      · split at h4
        · next d hd => exact ⟨d, hd, h4⟩
        · cases h4
    | succ j =>
      simp only [List.getElem?_cons_succ] at hj hp
      exact g2 j f' p' hj hp
def kindB (P : Program) (τ : Nat → TI) : TK → TypeDesc → Bool
  | .int k, .int k' => k == k'
  | .bool, .bool => true
  | .str, .string => true
  | .slice e, .slice e' => e == e' && (τ e).kind.ag.isSome
  | .struct fs, .struct fields => fieldsB P fields.toList fs
  | .array n e, .array n' e' => n == n' && e == e' && (τ e).kind.ag == some false
  | .ptr e, .pointer e' => e == e'
  | .func, .func .. => true
  | _, _ => false
theorem kindB_sound {P : Program} {τ : Nat → TI} {k : TK} {d : TypeDesc} (h : kindB P τ k d = true) : k.is P τ d := by
  cases k <;> cases d <;> simp only [kindB, Bool.false_eq_true, beq_iff_eq, Bool.and_eq_true] at h <;> simp only [TK.is]
  case int.int => rw [h]
  case slice.slice => exact ⟨by rw [h.1], h.2⟩
  case struct.struct fs fields =>
    obtain ⟨g1, g2⟩ := fieldsB_sound h
    exact ⟨fields, rfl, by simpa using g1, fun j f p hj hp => g2 j f p (by simpa using hj) hp⟩
  case array.array => exact ⟨by rw [h.1.1, h.1.2], h.2⟩
  case ptr.pointer => rw [h]
  case func.func a b c => exact ⟨a, b, c, rfl⟩
def SK.sameB : SK → TypeDesc → Bool
  | .int k, .int k' => k == k'
  | .bool, .bool => true
  | .str, .string => true
  | _, _ => false
def eqFsB (P : Program) : Nat → List Field → List SK → Bool
  | _, [], [] => true
  | j, f :: fs, k :: ks => (f.name != "_") && f.offset == j && (match P.underlying f.type with
    | some d => k.sameB d
    | none => false) && eqFsB P (j + 1) fs ks
  | _, _, _ => false
def eqB (P : Program) (t : Nat) : List SK → Bool
  | [] => true
  | ks => (match P.underlying t with
    | some (.struct _) => true
    | _ => false) && !P.stoodInHeld t && !P.eqGuardType P.depth t && eqFsB P 0 (P.fieldsOf t).toList ks
theorem eqFsB_sound {P : Program} : ∀ {j : Nat} {fs : List Field} {ks : List SK}, eqFsB P j fs ks = true → eqFs P j fs ks
  | _, [], [], _ => trivial
  | _, [], _ :: _, h => by simp [eqFsB] at h
  | _, _ :: _, [], h => by simp [eqFsB] at h
  | j, f :: fs, k :: ks, h => by
    simp only [eqFsB, Bool.and_eq_true, bne_iff_ne, beq_iff_eq] at h
    obtain ⟨⟨⟨h1, h2⟩, h3⟩, h4⟩ := h
    refine ⟨h1, h2, ?_, eqFsB_sound h4⟩
    split at h3
    · next d hd =>
      rw [hd]
      cases k <;> cases d <;> simp only [SK.sameB, Bool.false_eq_true, beq_iff_eq] at h3 <;> first | rfl | (subst h3; rfl)
    · cases h3
theorem eqB_sound {P : Program} {t : Nat} {ks : List SK} (h : eqB P t ks = true) (hk : ks ≠ []) : EqOk P t ks := by
  cases ks with
  | nil => exact absurd rfl hk
  | cons k ks =>
    simp only [eqB, Bool.and_eq_true, Bool.not_eq_true'] at h
    obtain ⟨⟨⟨h1, h2⟩, h3⟩, h4⟩ := h
    refine ⟨?_, h2, h3, eqFsB_sound h4⟩
    unfold Program.fieldsOf
    split at h1
    · next fs he => simp [he]
    · cases h1
def tyB (P : Program) (τ : Nat → TI) (t : Nat) (ti : TI) : Bool := match P.underlying t, P.info? t with
  | some d, some i => kindB P τ ti.kind d && i.size == ti.size && i.bytes == ti.bytes && decide (0 < ti.size) && eqB P t ti.eqk && (match i.zero with
    | some z => zA ti.zero z && zD ti.zd z && z.cells.size == ti.size && z.cells.toList.all (·.oneCell')
    | none => false)
  | _, _ => false
theorem tyB_sound {P : Program} {τ : Nat → TI} {t : Nat} (h : tyB P τ t (τ t) = true) : TyOk P τ t := by
  unfold tyB at h
  split at h
  · next d i hd hi =>
    simp only [Bool.and_eq_true, beq_iff_eq, decide_eq_true_eq] at h
    obtain ⟨⟨⟨⟨⟨h1, h2⟩, h3⟩, h4⟩, hq⟩, h5⟩ := h
    split at h5
    · next z hz =>
      simp only [Bool.and_eq_true, beq_iff_eq, List.all_eq_true] at h5
      obtain ⟨⟨⟨g1, g2⟩, g3⟩, g4⟩ := h5
      exact ⟨⟨d, hd, kindB_sound h1⟩, ⟨i, z, hi, h2, h3, hz, zA_sound g1, zD_sound g2, g3, g4⟩, h4, eqB_sound hq⟩
    · cases h5
  · cases h
def lkT : List (Nat × TI) → Nat → TI
  | [], _ => ⟨.other, 0, 0, .dead, .nilp, []⟩
  | (j, x) :: r, i => if i = j then x else lkT r i
theorem lkT_mem : ∀ {tt : List (Nat × TI)} {t : Nat}, (lkT tt t).kind.ag.isSome = true → (t, lkT tt t) ∈ tt
  | [], t, h => by simp [lkT, TK.ag] at h
  | (j, x) :: r, t, h => by
    simp only [lkT] at h ⊢
    by_cases htj : t = j
    · subst htj
      simp
    · rw [if_neg htj] at h ⊢
      exact List.mem_cons_of_mem _ (lkT_mem h)
theorem tabOk_of {P : Program} {tt : List (Nat × TI)} (h : tt.all (fun p => tyB P (lkT tt) p.1 p.2) = true) : B6 P (lkT tt) := by
  intro t ht
  exact tyB_sound (List.all_eq_true.1 h _ (lkT_mem ht))
theorem U7 {P : Program} {f : FuncId} {fn : Func} (hf : P.funcs[f]? = some fn) (h1 : (fn.name == "runtime.NumGoroutine") = false) (h2 : fn.body.isNone = false) : Ob P f := by
  intro args w
  have h1' : ¬ fn.name = "runtime.NumGoroutine" := by simpa using h1
  have h2' : ¬ fn.body = none := by
    intro h
    rw [h] at h2
    simp at h2
  simp [callFunc,hf,h1',h2']
end Go.Am
namespace Go.Am
class Enc (α : Type) where
  enc : α → D
  dec : D → α
  dec_enc : ∀ a, dec (enc a) = a
open Enc (enc dec)
def isE (α : Type) [Enc α] (x : D) : Prop := x = enc (dec x : α)
theorem Lf {α : Type} [Enc α] (a : α) : isE α (enc a) := by unfold isE; rw [Enc.dec_enc]
instance encInt : Enc Int := ⟨.int .i64, D.i, fun _ => rfl⟩
instance encBool : Enc Bool := ⟨.bool, D.b, fun _ => rfl⟩
instance encStr : Enc (List UInt8) := ⟨.str, D.s, fun _ => rfl⟩
class Sz (α : Type) where
  sz : Nat
instance szInt : Sz Int := ⟨1⟩
instance szBool : Sz Bool := ⟨1⟩
instance szStr : Sz (List UInt8) := ⟨1⟩
structure Sl (α : Type) where
  l : List α
instance encSl {α : Type} [Enc α] [Sz α] : Enc (Sl α) := ⟨fun a => .list (Sz.sz α) (a.l.map enc), fun x => ⟨x.l.map dec⟩, fun a => by
  show Sl.mk ((a.l.map enc).map dec) = a
  rw [List.map_map]
  have : (dec ∘ enc : α → α) = id := funext fun x => Enc.dec_enc x
  rw [this, List.map_id]⟩
instance szSl {α : Type} : Sz (Sl α) := ⟨1⟩
section
variable {k k' : IntKind} {n : Int} {s s' : Nat} {l : List D} {b : Bool} {x : D} {bs : List UInt8} {f : Nat}
theorem i_int : D.i (.int k n) = n := rfl
theorem b_bool : D.b (.bool b) = b := rfl
theorem s_str : D.s (.str bs) = bs := rfl
theorem l_list : D.l (.list s l) = l := rfl
theorem isInt_int : D.isInt k (.int k' n) = (k' = k) := rfl
theorem Om : D.isBool (.bool b) = True := rfl
theorem isStr_str : D.isStr (.str bs) = True := rfl
theorem Ol : D.isList s (.list s' l) = (s' = s) := rfl
theorem Rt : D.isAnyInt (.int k n) = True := rfl
theorem fits_int : D.fits s (.int k n) = (s = 1) := rfl
theorem fits_bool : D.fits s (.bool b) = (s = 1) := rfl
theorem fits_str : D.fits s (.str bs) = (s = 1) := rfl
theorem fits_list : D.fits s (.list s' l) = (s = 1) := rfl
theorem fits_agg : D.fits s (.agg l) = (l.length = s) := rfl
theorem fits_ptr : D.fits s (.ptr s' x) = (s = 1) := rfl
theorem fits_clo : D.fits s (.clo s' l) = (s = 1) := rfl
theorem fits_nilp : D.fits s .nilp = (s = 1) := rfl
theorem fits_nilf : D.fits s .nilf = (s = 1) := rfl
theorem cell_int : D.cell (.int k n) f = .int k n := rfl
theorem cell_bool : D.cell (.bool b) f = .bool b := rfl
theorem cell_str : D.cell (.str bs) f = .str bs := rfl
theorem cell_list : D.cell (.list s l) f = .list s l := rfl
theorem cell_clo : D.cell (.clo s l) f = .clo s l := rfl
theorem cell_ptr : D.cell (.ptr s x) f = .ptr s x := rfl
theorem cell_agg : D.cell (.agg l) f = l.getD f .nilp := rfl
theorem i_enc {n : Int} : D.i (enc n) = n := rfl
theorem b_enc {n : Bool} : D.b (enc n) = n := rfl
theorem s_enc {n : List UInt8} : D.s (enc n) = n := rfl
theorem isInt_enc {n : Int} : D.isInt k (enc n) = (.i64 = k) := rfl
theorem isBool_enc {n : Bool} : D.isBool (enc n) = True := rfl
theorem isStr_enc {n : List UInt8} : D.isStr (enc n) = True := rfl
theorem fits_encI {n : Int} : D.fits s (enc n) = (s = 1) := rfl
theorem cell_encI {n : Int} : D.cell (enc n) f = enc n := rfl
theorem fits_encB {n : Bool} : D.fits s (enc n) = (s = 1) := rfl
theorem cell_encB {n : Bool} : D.cell (enc n) f = enc n := rfl
theorem fits_encS {n : List UInt8} : D.fits s (enc n) = (s = 1) := rfl
theorem cell_encS {n : List UInt8} : D.cell (enc n) f = enc n := rfl
theorem isAnyInt_enc {n : Int} : D.isAnyInt (enc n) = True := rfl
section
variable {α : Type} [Enc α] [Sz α] {a : Sl α}
theorem l_enc : D.l (enc a) = a.l.map enc := rfl
theorem isList_enc : D.isList s (enc a) = (Sz.sz α = s) := rfl
theorem fits_encL : D.fits s (enc a) = (s = 1) := rfl
theorem cell_encL : D.cell (enc a) f = enc a := rfl
end
theorem dec_int : (dec (.int k n) : Int) = n := rfl
theorem dec_bool : (dec (.bool b) : Bool) = b := rfl
theorem dec_str : (dec (.str bs) : List UInt8) = bs := rfl
theorem dec_encE {α : Type} [Enc α] (a : α) : (dec (enc a) : α) = a := Enc.dec_enc a
theorem isE_int : isE Int (.int .i64 n) = True := eq_true rfl
theorem isE_bool : isE Bool (.bool b) = True := eq_true rfl
theorem isE_str : isE (List UInt8) (.str bs) = True := eq_true rfl
theorem isE_encE {α : Type} [Enc α] (a : α) : isE α (enc a) = True := eq_true (Lf a)
section
variable {α : Type} [Enc α] [Sz α]
theorem dec_list : (dec (.list s l) : Sl α) = ⟨l.map dec⟩ := rfl
theorem isE_list : isE (Sl α) (.list s l) = (s = Sz.sz α ∧ ∀ y ∈ l, isE α y) := by
  apply propext
  unfold isE
  constructor
  · intro h
    have h' : D.list s l = D.list (Sz.sz α) ((l.map (dec : D → α)).map enc) := h
    injection h' with h1 h2
    refine ⟨h1, fun y hy => ?_⟩
    rw [List.map_map] at h2
    have h3 : l.map id = l.map ((enc : α → D) ∘ dec) := by rw [List.map_id]; exact h2
    exact List.map_inj_left.1 h3 y hy
  · rintro ⟨rfl, h⟩
    show D.list (Sz.sz α) l = D.list (Sz.sz α) ((l.map (dec : D → α)).map enc)
    rw [List.map_map]
    congr 1
    conv => lhs; rw [← List.map_id l]
    exact List.map_congr_left fun y hy => h y hy
end
end
theorem isE_map {α : Type} [Enc α] {l : List α} : (∀ y ∈ l.map enc, isE α y) = True := eq_true (by
  intro y hy
  obtain ⟨a, _, rfl⟩ := List.mem_map.1 hy
  exact Lf a)
theorem Bs {α : Type} [Enc α] {l : List α} : (l.map enc).map (dec : D → α) = l := by
  rw [List.map_map]
  have : (dec ∘ enc : α → α) = id := funext fun x => Enc.dec_enc x
  rw [this, List.map_id]
theorem Pv {a b : Int} : (ltB a b = true) = (a < b) := by simp [ltB]
theorem Nd {a b : Int} : (ltB a b = false) = (b ≤ a) := by simp [ltB]
theorem Ig {a b : Int} : (leB a b = true) = (a ≤ b) := by simp [leB]
theorem Dk {a b : Int} : (leB a b = false) = (b < a) := by simp [leB]
theorem szI : Sz.sz Int = 1 := rfl
theorem szB : Sz.sz Bool = 1 := rfl
theorem szS : Sz.sz (List UInt8) = 1 := rfl
theorem szL {α : Type} : Sz.sz (Sl α) = 1 := rfl
theorem boolE {b b' : Bool} : (D.bool b = enc b') = (b = b') := propext ⟨fun h => by have h' : D.bool b = D.bool b' := h; injection h', fun h => by rw [h]; rfl⟩
theorem intE {b b' : Int} : (D.int .i64 b = enc b') = (b = b') := propext ⟨fun h => by have h' : D.int .i64 b = D.int .i64 b' := h; injection h', fun h => by rw [h]; rfl⟩
theorem strE {b b' : List UInt8} : (D.str b = enc b') = (b = b') := propext ⟨fun h => by have h' : D.str b = D.str b' := h; injection h', fun h => by rw [h]; rfl⟩
theorem listE {α : Type} [Enc α] [Sz α] {s : Nat} {l : List D} {a : Sl α} : (D.list s l = enc a) = (s = Sz.sz α ∧ l = a.l.map enc) := propext ⟨fun h => by have h' : D.list s l = D.list (Sz.sz α) (a.l.map enc) := h; injection h' with h1 h2; exact ⟨h1, h2⟩, fun h => by rw [h.1, h.2]; rfl⟩
theorem encE {α : Type} [Enc α] {a b : α} : (enc a = enc b) = (a = b) := propext ⟨fun h => by rw [← Enc.dec_enc a, h, Enc.dec_enc], fun h => by rw [h]⟩
theorem SlE {α : Type} {a b : List α} : (Sl.mk a = Sl.mk b) = (a = b) := propext ⟨fun h => by injection h, fun h => by rw [h]⟩
@[simp] theorem encI_def {n : Int} : (enc n : D) = .int .i64 n := rfl
@[simp] theorem encB_def {n : Bool} : (enc n : D) = .bool n := rfl
@[simp] theorem encS_def {n : List UInt8} : (enc n : D) = .str n := rfl
theorem all_of_lt {α : Type} {l : List α} {p : α → Bool} (d : α) (h : ∀ j, j < l.length → p (l.getD j d) = true) : l.all p = true := by
  rw [List.all_eq_true]
  intro x hx
  obtain ⟨j, hj, rfl⟩ := List.getElem_of_mem hx
  have := h j hj
  simpa [hj] using this
theorem all_not {α : Type} {l : List α} {p : α → Bool} (d : α) (j : Nat) (hj : j < l.length) (h : p (l.getD j d) = false) : l.all p = false := by
  cases hc : l.all p with
  | false => rfl
  | true =>
    rw [List.all_eq_true] at hc
    have := hc (l.getD j d) (by simp [hj])
    rw [h] at this
    cases this
theorem el_map {α : Type} {f : α → D} {l : List α} {i : Nat} (d : α) (h : i < l.length) : el (l.map f) i = f (l.getD i d) := by
  simp [el,h]
theorem U0 {n : Int} : inR .i64 n ↔ -9223372036854775808 ≤ n ∧ n ≤ 9223372036854775807 := by
  unfold inR
  constructor <;> intro h <;> simpa [IntKind.min, IntKind.max, IntKind.bits, IntKind.signed] using h
def Ss {A B : Type} [Enc A] [Enc B] (p : A → Prop) (f : A → B) : Con := ⟨[false], [false], fun c => match c with
  | [.d x] => isE A x ∧ p (dec x)
  | _ => False, fun c => match c with
  | [.d x] => .d (enc (f (dec x)))
  | _ => .d .nilp⟩
def Bg {A B R : Type} [Enc A] [Enc B] [Enc R] (p : A → B → Prop) (f : A → B → R) : Con := ⟨[false, false], [false], fun c => match c with
  | [.d x, .d y] => isE A x ∧ isE B y ∧ p (dec x) (dec y)
  | _ => False, fun c => match c with
  | [.d x, .d y] => .d (enc (f (dec x) (dec y)))
  | _ => .d .nilp⟩
def con3 {A B C R : Type} [Enc A] [Enc B] [Enc C] [Enc R] (p : A → B → C → Prop) (f : A → B → C → R) : Con := ⟨[false, false, false], [false], fun c => match c with
  | [.d x, .d y, .d z] => isE A x ∧ isE B y ∧ isE C z ∧ p (dec x) (dec y) (dec z)
  | _ => False, fun c => match c with
  | [.d x, .d y, .d z] => .d (enc (f (dec x) (dec y) (dec z)))
  | _ => .d .nilp⟩
def con2t {A B R S : Type} [Enc A] [Enc B] [Enc R] [Enc S] (p : A → B → Prop) (f : A → B → R × S) : Con := ⟨[false, false], [false, false], fun c => match c with
  | [.d x, .d y] => isE A x ∧ isE B y ∧ p (dec x) (dec y)
  | _ => False, fun c => match c with
  | [.d x, .d y] => .tup [.d (enc (f (dec x) (dec y)).1), .d (enc (f (dec x) (dec y)).2)]
  | _ => .d .nilp⟩
def con3t {A B C R S : Type} [Enc A] [Enc B] [Enc C] [Enc R] [Enc S] (p : A → B → C → Prop) (f : A → B → C → R × S) : Con := ⟨[false, false, false], [false, false], fun c => match c with
  | [.d x, .d y, .d z] => isE A x ∧ isE B y ∧ isE C z ∧ p (dec x) (dec y) (dec z)
  | _ => False, fun c => match c with
  | [.d x, .d y, .d z] => .tup [.d (enc (f (dec x) (dec y) (dec z)).1), .d (enc (f (dec x) (dec y) (dec z)).2)]
  | _ => .d .nilp⟩
def con0 {R : Type} [Enc R] (r : R) : Con := ⟨[], [false], fun c => match c with
  | [] => True
  | _ => False, fun _ => .d (enc r)⟩
theorem Ha {A B : Type} [Enc A] [Enc B] {p : A → Prop} {f : A → B} {c : List CV} (h : (Ss p f).pre c) : ∃ a, c = [.d (enc a)] ∧ p a := by
  unfold Ss at h
  simp only at h
  split at h
  · next x => exact ⟨dec x, by rw [← h.1], h.2⟩
  · exact h.elim
theorem Gi {A B R : Type} [Enc A] [Enc B] [Enc R] {p : A → B → Prop} {f : A → B → R} {c : List CV} (h : (Bg p f).pre c) : ∃ a b, c = [.d (enc a), .d (enc b)] ∧ p a b := by
  unfold Bg at h
  simp only at h
  split at h
  · next x y => exact ⟨dec x, dec y, by rw [← h.1, ← h.2.1], h.2.2⟩
  · exact h.elim
theorem con3_pre {A B C R : Type} [Enc A] [Enc B] [Enc C] [Enc R] {p : A → B → C → Prop} {f : A → B → C → R} {c : List CV} (h : (con3 p f).pre c) : ∃ a b d, c = [.d (enc a), .d (enc b), .d (enc d)] ∧ p a b d := by
  unfold con3 at h
  simp only at h
  split at h
  · next x y z => exact ⟨dec x, dec y, dec z, by rw [← h.1, ← h.2.1, ← h.2.2.1], h.2.2.2⟩
  · exact h.elim
theorem con2t_pre {A B R S : Type} [Enc A] [Enc B] [Enc R] [Enc S] {p : A → B → Prop} {f : A → B → R × S} {c : List CV} (h : (con2t p f).pre c) : ∃ a b, c = [.d (enc a), .d (enc b)] ∧ p a b := by
  unfold con2t at h
  simp only at h
  split at h
  · next x y => exact ⟨dec x, dec y, by rw [← h.1, ← h.2.1], h.2.2⟩
  · exact h.elim
theorem con3t_pre {A B C R S : Type} [Enc A] [Enc B] [Enc C] [Enc R] [Enc S] {p : A → B → C → Prop} {f : A → B → C → R × S} {c : List CV} (h : (con3t p f).pre c) : ∃ a b d, c = [.d (enc a), .d (enc b), .d (enc d)] ∧ p a b d := by
  unfold con3t at h
  simp only at h
  split at h
  · next x y z => exact ⟨dec x, dec y, dec z, by rw [← h.1, ← h.2.1, ← h.2.2.1], h.2.2.2⟩
  · exact h.elim
theorem con0_pre {R : Type} [Enc R] {r : R} {c : List CV} (h : (con0 r).pre c) : c = [] := by
  unfold con0 at h
  simp only at h
  split at h
  · rfl
  · exact h.elim
def lkC : List (Nat × Con) → Nat → Option Con
  | [], _ => none
  | (j, x) :: r, i => if i = j then some x else lkC r i
def Gj (P : Program) (p : Nat × Con) : Prop := Ob P p.1 ∧ Sound P p.1 p.2
def lkB : List (Nat × BCon) → Nat → Option BCon
  | [], _ => none
  | (j, x) :: r, i => if i = j then some x else lkB r i
def GoodB (P : Program) (p : Nat × BCon) : Prop := Ob P p.1 ∧ SoundB P p.1 p.2
theorem Kd {P : Program} {τ : Nat → TI} {l : List (Nat × Con)} {n : Nat} (hT : B6 P τ) (hm : P.follows .mixedOrders = true) (h : ∀ p ∈ l, Gj P p) {lb : List (Nat × BCon)} (hb : ∀ p ∈ lb, GoodB P p := by simp) {cu : List Nat} {wr : Bool} : Ky P ⟨τ, lkC l, n, lkB lb, cu, wr⟩ := by
  refine ⟨hT, fun f con hf => ?_, hm, fun f bc hf => ?_⟩
  case refine_2 =>
    have : ∀ (l : List (Nat × BCon)), lkB l f = some bc → (f, bc) ∈ l := by
      intro l
      induction l with
      | nil => intro h; simp [lkB] at h
      | cons p r ih =>
        intro h
        obtain ⟨j, x⟩ := p
        simp only [lkB] at h
        by_cases hfj : f = j
        · rw [if_pos hfj] at h
          injection h with h
          subst h; subst hfj
          simp
        · rw [if_neg hfj] at h
          exact List.mem_cons_of_mem _ (ih h)
    exact hb _ (this lb hf)
  have : ∀ (l : List (Nat × Con)), lkC l f = some con → (f, con) ∈ l := by
    intro l
    induction l with
    | nil => intro h; simp [lkC] at h
    | cons p r ih =>
      intro h
      obtain ⟨j, x⟩ := p
      simp only [lkC] at h
      by_cases hfj : f = j
      · rw [if_pos hfj] at h
        injection h with h
        subst h; subst hfj
        simp
      · rw [if_neg hfj] at h
        exact List.mem_cons_of_mem _ (ih h)
  exact h _ (this l hf)
end Go.Am
namespace Go.Am
def Ka : List AV → List Nat → List AV
  | l, [] => l
  | l, i :: r => Ka (l.set i .dead) r
def U6 : List AV → List (Nat × AV) → List AV
  | l, [] => l
  | l, (i, x) :: r => U6 (l.set i x) r
def Kg : K4 → List (Nat × Obj) → K4
  | o, [] => o
  | o, (i, x) :: r => Kg (upd o i x) r
def atHead (st : AS) (kills : List Nat) (vals : List (Nat × AV)) (objs : List (Nat × Obj)) : AS := ⟨U6 (Ka st.tmps kills) vals, Kg st.objs objs⟩
structure Shut (p : Prop) : Prop where
  out : p
theorem shut_eq {p : Prop} : Shut p = p := propext ⟨fun h => h.out, fun h => ⟨h⟩⟩
theorem Km {C : Ctx} {c : Code} {Q : AExit → AS → Prop} {st : AS} (kills : List Nat) {α : Type} (vals : α → List (Nat × AV)) (objs : α → List (Nat × Obj)) (ok : α → Prop) (μ : α → Nat) (a0 : α) (h0 : ok a0)
    (hw : Wk st (atHead st kills (vals a0) (objs a0))) (h : ∀ a, ok a → Shut (awp C c (aThen (fun s' => ∃ a', Wk s' (atHead st kills (vals a') (objs a')) ∧ ok a' ∧ μ a' < μ a) Q) (atHead st kills (vals a) (objs a)))) : aLoop C c Q st :=
  ⟨α, fun a => atHead st kills (vals a) (objs a), ok, μ, ⟨a0, hw, h0⟩, fun a ha => (h a ha).out⟩
theorem U2 (t : List AV) (o : K4) (kills : List Nat) (vals : List (Nat × AV)) (objs : List (Nat × Obj)) : atHead ⟨t, o⟩ kills vals objs = ⟨U6 (Ka t kills) vals, Kg o objs⟩ := rfl
theorem Ks (a b : Nat) : (a < b ∧ ltB (a : Int) (b : Int) = true) ∨ (b ≤ a ∧ ltB (a : Int) (b : Int) = false) := by
  rcases Nat.lt_or_ge a b with h | h
  · exact .inl ⟨h, by rw [Pv]; omega⟩
  · exact .inr ⟨h, by rw [Nd]; omega⟩
theorem Tc (a b : Int) : (a < b ∧ ltB a b = true) ∨ (b ≤ a ∧ ltB a b = false) := by
  rcases Int.lt_or_le a b with h | h
  · exact .inl ⟨h, by rw [Pv]; exact h⟩
  · exact .inr ⟨h, by rw [Nd]; exact h⟩
theorem Es (a b : Int) : (a ≤ b ∧ leB a b = true) ∨ (b < a ∧ leB a b = false) := by
  rcases Int.lt_or_le b a with h | h
  · exact .inr ⟨h, by rw [Dk]; exact h⟩
  · exact .inl ⟨h, by rw [Ig]; exact h⟩
section
open Enc (enc dec)
theorem map_snoc {α : Type} [Enc α] {l : List α} {x : α} : l.map (enc : α → D) ++ [enc x] = (l ++ [x]).map enc := by simp
theorem map_snocI {l : List Int} {x : Int} : l.map (enc : Int → D) ++ [.int .i64 x] = (l ++ [x]).map enc := by simp
theorem map_snocB {l : List Bool} {x : Bool} : l.map (enc : Bool → D) ++ [.bool x] = (l ++ [x]).map enc := by simp
theorem map_snocS {l : List (List UInt8)} {x : List UInt8} : l.map (enc : List UInt8 → D) ++ [.str x] = (l ++ [x]).map enc := by simp
theorem map_cat {α : Type} [Enc α] {l r : List α} : l.map (enc : α → D) ++ r.map enc = (l ++ r).map enc := by simp
end
end Go.Am
namespace Go.Am
open Go.RowKit (Below)
def Oq (W : World) : Fix := ⟨W, fun b => match W.heap[b]? with
  | some (.cells cs _ _) => cs.size
  | _ => 0⟩
theorem fixOf_new (W : World) (b : Nat) (h : W.heap.size ≤ b) : (Oq W).m b = 0 := by
  unfold Oq
  simp only
  rw [Array.getElem?_eq_none h]
theorem fixOf_cell {W : World} {b off : Nat} {u : Value} (h : W.cell? ⟨b, off, none⟩ = some u) : off + 1 ≤ (Oq W).m b := by
  unfold Oq
  unfold World.cell? at h
  simp only at h ⊢
  split at h
  · next c _ _ he =>
    simp only [he]
    simp only [Option.isSome_none, Bool.false_eq_true, if_false] at h
    have := (Array.getElem?_eq_some_iff.1 h).1
    omega
  · cases h
def Value.noAgg : Value → Bool
  | .agg _ => false
  | _ => true
theorem cells_noAgg {v : Value} (h : Value.noAgg v = true) : v.cells = #[v] := by
  cases v <;> first | rfl | simp [Value.noAgg] at h
def RdP (P : Program) (t s : Nat) (ag : Bool) (p : D → Prop) : Prop :=
  ∀ (H : Type) (enc : TypeId × Value → H) (W : World) (base fuel : Nat) (cs : List Value) (d : DataW H) (ps : List MemPlace), DataW.trod enc P W base (fun _ => true) true fuel t cs = some (d, ps) →
    ∃ x v, p x ∧ (ag = true → v = .agg cs.toArray) ∧ (ag = false → cs = [v] ∧ Value.noAgg v = true) ∧ cs.length = s ∧ (∀ u ∈ cs, u.oneCell' = true) ∧ R (Oq W) x v
theorem RdP.mono {P : Program} {t s : Nat} {ag : Bool} {p q : D → Prop} (h : RdP P t s ag p) (hpq : ∀ x, p x → q x) : RdP P t s ag q := by
  intro H enc W base fuel cs d ps ht
  obtain ⟨x, v, h1, h2⟩ := h _ enc W base fuel cs d ps ht
  exact ⟨x, v, hpq x h1, h2⟩
theorem trod_int {P : Program} {t fuel : Nat} {k : IntKind} {H : Type} {enc : TypeId × Value → H} {W : World} {base : Nat} {cs : List Value} {x : DataW H × List MemPlace} (ht : P.underlying t = some (.int k))
    (h : DataW.trod enc P W base (fun _ => true) true fuel t cs = some x) : ∃ n, cs = [.int k n] ∧ (Lit.int k n).wf = true := by
  cases fuel with
  | zero => simp [DataW.trod] at h
  | succ fuel =>
    unfold DataW.trod at h
    simp only [ht] at h
    split at h <;> first | (exfalso; simp_all; done) | skip
    all_goals rename_i e
    all_goals injection e with e
    all_goals injection e with e
    all_goals subst e
    all_goals split at h
    all_goals first | (next hk => exact ⟨_, by rw [hk.1], hk.2⟩) | cases h
theorem trod_str {P : Program} {t fuel : Nat} {H : Type} {enc : TypeId × Value → H} {W : World} {base : Nat} {cs : List Value} {x : DataW H × List MemPlace} (ht : P.underlying t = some .string)
    (h : DataW.trod enc P W base (fun _ => true) true fuel t cs = some x) : ∃ s : ByteArray, cs = [.string s] ∧ s.size ≤ maxLen := by
  cases fuel with
  | zero => simp [DataW.trod] at h
  | succ fuel =>
    unfold DataW.trod at h
    simp only [ht] at h
    split at h <;> first | (exfalso; simp_all; done) | skip
    all_goals split at h
    all_goals first | (next hk => exact ⟨_, rfl, hk⟩) | cases h
theorem rd_int {P : Program} {t : Nat} {k : IntKind} (ht : P.underlying t = some (.int k)) : RdP P t 1 false (fun x => ∃ n, x = .int k n ∧ (Lit.int k n).wf = true) := by
  intro H enc W base fuel cs d ps h
  obtain ⟨n, rfl, hw⟩ := trod_int ht h
  exact ⟨.int k n, .int k n, ⟨n, rfl, hw⟩, by simp, fun _ => ⟨rfl, rfl⟩, rfl, by simp [Value.oneCell'], by simp [R]⟩
theorem rd_str {P : Program} {t : Nat} (ht : P.underlying t = some .string) : RdP P t 1 false (fun x => ∃ s, x = .str s ∧ s.length ≤ maxLen) := by
  intro H enc W base fuel cs d ps h
  obtain ⟨s, rfl, hw⟩ := trod_str ht h
  have e : s.data.toList.length = s.size := by rw [Array.length_toList]; rfl
  exact ⟨.str s.data.toList, .string s, ⟨_, rfl, by omega⟩, by simp, fun _ => ⟨rfl, rfl⟩, rfl, by simp [Value.oneCell'], by simp [R]⟩
theorem rd_slice {P : Program} {t e s : Nat} {ag : Bool} {p : D → Prop} (ht : P.underlying t = some (.slice e)) (hs : P.cellsOf e = s) (hpos : 0 < s) (he : RdP P e s ag p) :
    RdP P t 1 false (fun x => ∃ l, x = .list s l ∧ l.length ≤ maxLen ∧ ∀ y ∈ l, p y) := by
  intro H enc W base fuel cs d ps h
  rcases Go.Deep.open_slice ht h with ⟨rfl, hx⟩ | ⟨a, len, cap, m, n, D', Pl, rfl, hb, hl, hm, hmm, hx, hel⟩
  · refine ⟨.list s [], .slice none 0 0, ⟨[], rfl, by simp [maxLen], by simp⟩, by simp, fun _ => ⟨rfl, rfl⟩, rfl, by simp [Value.oneCell'], ?_⟩
    simp only [R]
    exact ⟨none, 0, rfl, by simp, by simp [maxLen], by simp⟩
  · rw [hs] at hel
    have hm' : len ≤ m := by rw [hmm]; simp only [if_true]; exact hl
    have key : ∀ k, k ≤ len → ∃ (xs : List D) (vs : List Value), xs.length = k ∧ (∀ y ∈ xs, p y) ∧ RE (Oq W) s xs vs ∧ ∀ j, j < k * s → W.cell? ⟨a.block, a.off + j, none⟩ = vs[j]? := by
      intro k
      induction k with
      | zero => intro _; exact ⟨[], [], rfl, by simp, by simp [RE], by simp⟩
      | succ k ih =>
        intro hk
        obtain ⟨xs, vs, h1, h2, h3, h4⟩ := ih (by omega)
        obtain ⟨cs', g1, g2⟩ := hel k (by omega)
        obtain ⟨x, v, q1, q2, q3, q4, q5, q6⟩ := he _ enc W base n cs' _ _ g2
        obtain ⟨_, g4, g5⟩ := World.cells?_some g1
        have hvc : v.cells.toList = cs' := by
          cases ag with
          | true => rw [q2 rfl]; rfl
          | false =>
            obtain ⟨q3a, q3b⟩ := q3 rfl
            rw [cells_noAgg q3b, q3a]
        refine ⟨xs ++ [x], vs ++ cs', by simp [h1], ?_, ?_, ?_⟩
        · intro y hy
          rcases List.mem_append.1 hy with hy | hy
          · exact h2 y hy
          · rw [List.mem_singleton] at hy; subst hy; exact q1
        · rw [← hvc]
          refine RE.append h3 (RE.one q6 ?_ ?_)
          · rw [← Array.length_toList, hvc]; exact q4
          · rw [hvc]; exact q5
        · intro j hj
          have hvl : vs.length = k * s := by rw [RE.length h3, h1]
          rcases Nat.lt_or_ge j (k * s) with hlt | hge
          · rw [h4 j hlt, List.getElem?_append_left (by omega)]
          · rw [List.getElem?_append_right (by omega), hvl]
            have hjs : j - k * s < s := by
              rw [Nat.add_mul] at hj
              omega
            rw [← g5 (j - k * s) hjs]
            congr 1
            unfold Addr.add
            by_cases hk0 : k * s = 0
            · rw [if_pos hk0]
              by_cases hj0 : j - k * s = 0
              · rw [if_pos hj0]
                have hsp : a.spot = none := by
                  have h0 := g5 0 hpos
                  have hne : cs'[0]? = some cs'[0] := by simp
                  rw [hne] at h0
                  unfold Addr.add at h0
                  rw [if_pos rfl] at h0
                  simp only [hk0, if_true] at h0
                  unfold World.cell? at h0
                  split at h0
                  · cases hh : a.spot with
                    | none => rfl
                    | some z => simp [hh] at h0
                  · cases h0
                have : j = 0 := by omega
                subst this
                rw [← hsp]
                rfl
              · rw [if_neg hj0]
                simp only [Addr.mk.injEq, true_and, and_true]
                omega
            · rw [if_neg hk0]
              by_cases hj0 : j - k * s = 0
              · rw [if_pos hj0]
                simp only [Addr.mk.injEq, true_and, and_true]
                omega
              · rw [if_neg hj0]
                simp only [Addr.mk.injEq, true_and, and_true]
                omega
    obtain ⟨xs, vs, h1, h2, h3, h4⟩ := key len (Nat.le_refl _)
    refine ⟨.list s xs, .slice (some a) len cap, ⟨xs, rfl, by omega, h2⟩, by simp, fun _ => ⟨rfl, rfl⟩, rfl, by simp [Value.oneCell'], ?_⟩
    simp only [R]
    refine ⟨some a, cap, by rw [h1], by omega, hm, fun hne => ?_⟩
    have hlen : 0 < len := by
      rw [← h1]
      exact List.length_pos_iff.2 hne
    have hvl : vs.length = len * s := by rw [RE.length h3, h1]
    have hsp : a.spot = none := by
      obtain ⟨cs', g1, _⟩ := hel 0 (by omega)
      obtain ⟨_, g4, g5⟩ := World.cells?_some g1
      have h0 := g5 0 hpos
      have hne : cs'[0]? = some cs'[0] := by simp
      rw [hne] at h0
      unfold Addr.add at h0
      simp only [Nat.zero_mul, if_true] at h0
      unfold World.cell? at h0
      split at h0
      · cases hh : a.spot with
        | none => rfl
        | some z => simp [hh] at h0
      · cases h0
    refine ⟨a.block, a.off, vs, by cases a; simp at hsp; subst hsp; rfl, h3, ?_, fun j u hj => ?_⟩
    · have hpos2 : 0 < len * s := Nat.mul_pos hlen hpos
      have hlast := h4 (len * s - 1) (by omega)
      have hl2 : len * s - 1 < vs.length := by omega
      rw [List.getElem?_eq_getElem hl2] at hlast
      have := fixOf_cell hlast
      omega
    · have hjl := (List.getElem?_eq_some_iff.1 hj).1
      have := h4 j (by omega)
      rw [hj] at this
      exact this
def All2 : List (D → Prop) → List D → Prop
  | [], [] => True
  | p :: ps, x :: xs => p x ∧ All2 ps xs
  | _, _ => False
def RdFs (P : Program) : Nat → List Field → List (D → Prop) → Prop
  | _, [], [] => True
  | k, f :: fs, p :: ps => f.offset = k ∧ P.cellsOf f.type = 1 ∧ RdP P f.type 1 false p ∧ RdFs P (k + 1) fs ps
  | _, _, _ => False
theorem rd_fields {P : Program} {H : Type} {enc : TypeId × Value → H} {W : World} {base fuel : Nat} {cs : List Value} : ∀ {fs : List Field} {k : Nat} {ps : List (D → Prop)} {xs : List (DataW H × List MemPlace)}, RdFs P k fs ps → k + fs.length ≤ cs.length →
    (fs.mapM fun f => DataW.trod enc P W base (fun _ => true) true fuel f.type ((cs.drop f.offset).take (P.cellsOf f.type))) = some xs →
    ∃ ds, All2 ps ds ∧ Rs (Oq W) ds ((cs.drop k).take fs.length) ∧ ∀ u ∈ (cs.drop k).take fs.length, u.oneCell' = true
  | [], k, [], xs, _, _, _ => ⟨[], by simp [All2], by simp [Rs], by simp⟩
  | [], _, _ :: _, _, h, _, _ => h.elim
  | _ :: _, _, [], _, h, _, _ => h.elim
  | f :: fs, k, p :: ps, xs, h, hl, hm => by
    obtain ⟨h1, h2, h3, h4⟩ := h
    simp only [List.mapM_cons, Option.bind_eq_bind, Option.bind_eq_some_iff] at hm
    obtain ⟨y, hy, ys, hys, _⟩ := hm
    simp only [List.length_cons] at hl
    obtain ⟨ds, g1, g2, g3⟩ := rd_fields h4 (by omega) hys
    rw [h1, h2] at hy
    obtain ⟨d, q⟩ := y
    obtain ⟨x, v, q1, _, q3, q4, q5, q6⟩ := h3 _ enc W base fuel _ _ _ hy
    obtain ⟨q3a, q3b⟩ := q3 rfl
    have e : (cs.drop k).take (fs.length + 1) = v :: (cs.drop (k + 1)).take fs.length := by
      have hk : k < cs.length := by omega
      rw [List.drop_eq_getElem_cons hk] at q3a ⊢
      simp only [List.take_succ_cons, List.take_zero, List.cons.injEq] at q3a ⊢
      exact ⟨q3a.1, trivial⟩
    rw [List.length_cons, e]
    refine ⟨x :: ds, ⟨q1, g1⟩, ?_, ?_⟩
    · simp only [Rs]
      exact ⟨v, _, rfl, q6, g2⟩
    · intro u hu
      rcases List.mem_cons.1 hu with rfl | hu
      · exact q5 u (by rw [q3a]; simp)
      · exact g3 u hu
theorem rd_struct {P : Program} {t s : Nat} {fs : Array Field} {ps : List (D → Prop)} (ht : P.underlying t = some (.struct fs)) (hs : P.cellsOf t = s) (hl : fs.toList.length = s) (hf : RdFs P 0 fs.toList ps) :
    RdP P t s true (fun x => ∃ ds, x = .agg ds ∧ All2 ps ds) := by
  intro H enc W base fuel cs d qs h
  cases fuel with
  | zero => simp [DataW.trod] at h
  | succ fuel =>
    unfold DataW.trod at h
    simp only [ht] at h
    rw [hs] at h
    by_cases hc : cs.length = s
    · rw [if_pos hc] at h
      rw [Option.map_eq_some_iff] at h
      obtain ⟨xs, hx, _⟩ := h
      obtain ⟨ds, g1, g2, g3⟩ := rd_fields (cs := cs) hf (by omega) hx
      rw [List.drop_zero, hl, ← hc, List.take_length] at g2 g3
      refine ⟨.agg ds, .agg cs.toArray, ⟨ds, rfl, g1⟩, fun _ => rfl, by simp, hc, g3, ?_⟩
      simp only [R]
      exact ⟨cs, rfl, g2, g3⟩
    · rw [if_neg hc] at h
      cases h
theorem arg_flat {P : Program} {H : Type} {enc : TypeId × Value → H} {W : World} {base b2 t s : Nat} {p : D → Prop} {v : Value} {d : DataW H} {ps : List MemPlace} (h : RdP P t s false p) (hns : ∀ fs, P.underlying t ≠ some (.struct fs)) (hna : ∀ n e, P.underlying t ≠ some (.array n e))
    (hval : Value.okWide P W .any base t v) (hr : DataW.Trod enc P W b2 (fun _ => true) true t v d ps) : ∃ x, p x ∧ R (Oq W) x v := by
  obtain ⟨fuel, hr⟩ := hr
  obtain ⟨x, u, h1, _, h3, _, _, h6⟩ := h _ enc W b2 fuel _ _ _ hr
  obtain ⟨h3a, h3b⟩ := h3 rfl
  have hv : Value.noAgg v = true := by
    cases v with
    | agg cs =>
      unfold Value.okWide at hval
      exfalso
      split at hval
      · next fs he => exact hns _ he
      · next n e he => exact hna _ _ he
      · unfold Cell.okWide at hval
        split at hval <;> try simp_all
        unfold Cell.ok at hval
        split at hval <;> simp_all
    | _ => rfl
  rw [cells_noAgg hv] at h3a
  simp only [List.cons.injEq, and_true] at h3a
  subst h3a
  exact ⟨x, h1, h6⟩
theorem CVRs_of_Rs {F : Fix} : ∀ {l : List D} {vs : List Value}, Rs F l vs → Lm F (l.map .d) vs
  | [], _, h => by simp only [Rs] at h; simpa [Lm] using h
  | x :: l, vs, h => by
    simp only [Rs] at h
    obtain ⟨v, r, rfl, h2, h3⟩ := h
    simp only [List.map_cons, Lm, CVR]
    exact ⟨v, r, rfl, h2, CVRs_of_Rs h3⟩
theorem ownsOf_d : ∀ (l : List D) (vs : List Value), K8 (l.map .d) vs = []
  | [], [] => rfl
  | [], _ :: _ => rfl
  | _ :: l, [] => rfl
  | x :: l, v :: vs => by
    simp only [List.map_cons, K8]
    exact ownsOf_d l vs
theorem calls_of_good {P : Program} {f : FuncId} {con : Con} (hg : Gj P (f, con)) (W : World) (xs : List D) (args : Array Value) (hR : Rs (Oq W) xs args.toList) (hpre : con.pre (xs.map .d)) (hfn : con.fn (xs.map .d) = .d (.bool true)) :
    Calls P f args W fun e W' => e = .returned (.bool true) ∧ Below W.heap.size W W' := by
  have h := hg.2 (Oq W).m W (xs.map .d) args.toList hpre (CVRs_of_Rs hR) (by rw [ownsOf_d]; exact List.nodup_nil) (fixOf_new W)
  rw [show args.toList.toArray = args by simp] at h
  refine h.mono ?_
  rintro e W' ⟨v, m', rfl, hfr, _, _, hres⟩
  change Res _ _ _ (con.fn (xs.map .d)) v at hres
  rw [hfn] at hres
  simp only [Res, Lm, CVR, R] at hres
  obtain ⟨⟨v1, r, hv1, rfl, rfl⟩, _⟩ := hres
  injection hv1 with hv1 _
  subst hv1
  refine ⟨rfl, hfr.os, hfr.tape, hfr.output, hfr.size, fun k hk => hfr.block k hk ?_⟩
  rw [ownsOf_d]
  simp
end Go.Am
namespace Go.Am
open Go.RowKit (Below)
open Go.ChangeShapes Go.WideShapes Go.ChangeAt Go.RowKit
theorem trodAll_below {H : Type} {enc : TypeId × Value → H} {P : Program} (hl : laidOutB P = true) {W W' : World} (hb : Below W.heap.size W W') : ∀ {ts : List TypeId} {vs : List Value} {ds : List (DataW H)} {ps : List MemPlace}, (∀ t ∈ ts, P.readableRec t = true ∧ t < P.types.size) →
    DataW.TrodAll enc P W 0 (fun _ => true) true ts vs ds ps → (∀ x ∈ ps, x.block < W.heap.size) → ∀ sp : Nat → Bool, (∀ x ∈ ps, sp x.block = true) → DataW.TrodAll enc P W' 0 sp true ts vs ds ps
  | [], vs, ds, ps, _, h, _, _, _ => by
    obtain ⟨rfl, rfl, rfl⟩ := trodAll_nil h
    exact trodAll_mk0
  | t :: ts, vs, ds, ps, hr, h, hlt, sp, hsp => by
    obtain ⟨v, vs', d, ds', p, q, rfl, rfl, rfl, h1, h2⟩ := trodAll_cons h
    refine trodAll_cons_mk ?_ (trodAll_below hl hb (fun t ht => hr t (List.mem_cons_of_mem _ ht)) h2 (fun x hx => hlt x (List.mem_append_right _ hx)) sp (fun x hx => hsp x (List.mem_append_right _ hx)))
    obtain ⟨r1, r2⟩ := hr t (by simp)
    exact WideElems.Trod_stays hl r1 r2 h1 (fun x hx => hb.same (hlt x (List.mem_append_left _ hx))) (fun x hx => hsp x (List.mem_append_left _ hx))
theorem trodAll_len2 {H : Type} {enc : TypeId × Value → H} {P : Program} {W : World} {base : Nat} {spare : Nat → Bool} {held : Bool} : ∀ {ts : List TypeId} {vs : List Value} {ds : List (DataW H)} {ps : List MemPlace}, DataW.TrodAll enc P W base spare held ts vs ds ps → ds.length = ts.length
  | [], vs, ds, ps, h => by
    obtain ⟨rfl, rfl, rfl⟩ := trodAll_nil h
    rfl
  | t :: ts, vs, ds, ps, h => by
    obtain ⟨v, vs', d, ds', p, q, rfl, rfl, rfl, h1, h2⟩ := trodAll_cons h
    simp [trodAll_len2 h2]
theorem law_contract {P : Program} {f : FuncId} {fn : Func} {con : Con} {s : ChangeSpec} {tb : TypeId} (hg : Gj P (f, con)) (hv : s.vars = []) (hl : laidOutB P = true)
    (hr : ∀ t ∈ fn.params.toList, P.readableRec t = true ∧ t < P.types.size) (hres : fn.resultTypes = #[tb]) (htb : P.underlying tb = some .bool)
    (hspec : ∀ (H : Type) (ds : List (DataW H)), ds.length = fn.params.toList.length → s.fn H ds = { results := [.lit (.bool true)], args := ds })
    {H : Type} (enc : TypeId × Value → H) (W : World) (args : Array Value) (ds gs : List (DataW H)) (before : List MemPlace)
    (hread : ∀ ps, DataW.TrodAll enc P W 0 (fun _ => true) true fn.params.toList args.toList ds ps → ∃ xs : List D, Rs (Oq W) xs args.toList ∧ con.pre (xs.map .d) ∧ con.fn (xs.map .d) = .d (.bool true))
    (hW : DataW.Whole enc P fn.params.toList s.vars false W args.toList ds gs before) :
    Calls P f args W fun e W' => ∃ v, e = .returned v ∧ s.post enc P fn false true false false W args v W' := by
  have hW' := hW
  obtain ⟨p, q, hA, hV, rfl, hfz, hnd⟩ := hW
  rw [hv] at hV
  obtain ⟨rfl, rfl⟩ := trodVars_none hV
  obtain ⟨xs, hR, hpre, hfn⟩ := hread p hA
  have hlen := (trodAll_len2 hA)
  refine (calls_of_good hg W xs args hR hpre hfn).mono ?_
  rintro e W' ⟨rfl, hb⟩
  have hlt : ∀ x ∈ p, x.block < W.heap.size := fun x hx => hW'.lt x (by simpa using hx)
  have hsp := hspec H (ds ++ []) (by simpa using hlen)
  rw [List.append_nil] at hsp
  refine ⟨_, rfl, ds, [], p ++ [], [], p, [], hW', ?_, ?_, ?_, hb.frame _, fun h => by cases h⟩
  · rw [List.append_nil, hsp, hres]
    exact trodAll_cons_mk (shut_bool htb _) trodAll_mk0
  · rw [List.append_nil, hsp]
    exact trodAll_below hl hb hr hA hlt _ (fun x hx => by simpa using hlt x hx)
  · rw [List.append_nil, hsp, hv]
    rfl
section
open Enc (enc dec)
def Rdt (P : Program) (t s : Nat) (ag : Bool) (α : Type) [Enc α] (ok : α → Prop) : Prop := RdP P t s ag fun x => ∃ a : α, x = enc a ∧ ok a
theorem rdt_int {P : Program} {t : Nat} (ht : P.underlying t = some (.int .i64)) : Rdt P t 1 false Int (fun a => inR .i64 a) := (rd_int ht).mono fun x h => by
  obtain ⟨n, rfl, hw⟩ := h
  refine ⟨n, rfl, ?_⟩
  show inR .i64 n
  rw [U0]
  have h := hw
  simp [Lit.wf,IntKind.min,IntKind.max,IntKind.signed,IntKind.bits] at h
  omega
theorem rdt_str {P : Program} {t : Nat} (ht : P.underlying t = some .string) : Rdt P t 1 false (List UInt8) (fun a => a.length ≤ maxLen) := (rd_str ht).mono fun x h => by
  obtain ⟨s, rfl, hs⟩ := h
  exact ⟨s, rfl, hs⟩
theorem list_enc {α : Type} [Enc α] {ok : α → Prop} : ∀ {l : List D}, (∀ y ∈ l, ∃ a : α, y = enc a ∧ ok a) → ∃ r : List α, l = r.map enc ∧ ∀ a ∈ r, ok a
  | [], _ => ⟨[], rfl, by simp⟩
  | y :: l, h => by
    obtain ⟨a, rfl, ha⟩ := h y (by simp)
    obtain ⟨r, rfl, hr⟩ := list_enc (l := l) fun z hz => h z (List.mem_cons_of_mem _ hz)
    exact ⟨a :: r, rfl, by
      intro b hb
      rcases List.mem_cons.1 hb with rfl | hb
      · exact ha
      · exact hr b hb⟩
theorem rdt_sl {P : Program} {t e s : Nat} {ag : Bool} {α : Type} [Enc α] [Sz α] {ok : α → Prop} (ht : P.underlying t = some (.slice e)) (hs : P.cellsOf e = s) (hz : Sz.sz α = s) (hpos : 0 < s) (he : Rdt P e s ag α ok) :
    Rdt P t 1 false (Sl α) (fun a => a.l.length ≤ maxLen ∧ ∀ y ∈ a.l, ok y) := (rd_slice ht hs hpos he).mono fun x h => by
  obtain ⟨l, rfl, hl, hy⟩ := h
  obtain ⟨r, rfl, hr⟩ := list_enc hy
  rw [List.length_map] at hl
  refine ⟨⟨r⟩, ?_, hl, hr⟩
  show D.list s (r.map enc) = D.list (Sz.sz α) (r.map enc)
  rw [hz]
end
end Go.Am
set_option linter.unusedVariables false
namespace Go.Am
def L8 : Nat → List AV → List AV
  | 0, _ => []
  | n + 1, [] => .dead :: L8 n []
  | n + 1, x :: l => x :: L8 n l
theorem Di : ∀ (n : Nat) (l : List AV), (L8 n l).length = n
  | 0, _ => rfl
  | n + 1, [] => by simp [L8, Di n]
  | n + 1, x :: l => by simp [L8, Di n]
theorem pad16_getD : ∀ (n : Nat) (l : List AV) (t : Nat), t < n → (L8 n l).getD t .dead = l.getD t .dead
  | 0, _, t, h => by omega
  | n + 1, [], 0, _ => by simp [L8]
  | n + 1, [], t + 1, h => by
    have := pad16_getD n [] t (by omega)
    simpa [L8] using this
  | n + 1, x :: l, 0, _ => by simp [L8]
  | n + 1, x :: l, t + 1, h => by
    have := pad16_getD n l t (by omega)
    simpa [L8] using this
def Gd : Nat → AV → List AV → List AV
  | 0, x, [] => [x]
  | n + 1, x, [] => .dead :: Gd n x []
  | 0, x, _ :: l => x :: l
  | n + 1, x, y :: l => y :: Gd n x l
theorem pad16_put : ∀ (n : Nat) (l : List AV) (t : Nat) (x : AV), t < n → (L8 n l).set t x = L8 n (Gd t x l)
  | 0, _, t, _, h => by omega
  | n + 1, [], 0, x, _ => by simp [L8, Gd]
  | n + 1, [], t + 1, x, h => by
    have := pad16_put n [] t x (by omega)
    simpa [L8, Gd] using this
  | n + 1, y :: l, 0, x, _ => by simp [L8, Gd]
  | n + 1, y :: l, t + 1, x, h => by
    have := pad16_put n l t x (by omega)
    simpa [L8, Gd] using this
def fl : List (List AV) → List AV → List AV
  | [], r => r
  | c :: cs, r => L8 16 c ++ fl cs r
def getC : List (List AV) → List AV → Nat → Nat → AV
  | [], r, a, b => r.getD (16 * a + b) .dead
  | c :: _, _, 0, b => c.getD b .dead
  | _ :: cs, r, a + 1, b => getC cs r a b
theorem getD_fl : ∀ (cs : List (List AV)) (r : List AV) (a b : Nat), b < 16 → (fl cs r).getD (16 * a + b) .dead = getC cs r a b
  | [], r, a, b, _ => rfl
  | c :: cs, r, 0, b, hb => by
    simp only [fl, getC, Nat.mul_zero, Nat.zero_add]
    rw [List.getD_eq_getElem?_getD, List.getElem?_append_left (by rw [Di]; exact hb), ← List.getD_eq_getElem?_getD]
    exact pad16_getD 16 c b hb
  | c :: cs, r, a + 1, b, hb => by
    simp only [fl, getC]
    rw [List.getD_eq_getElem?_getD, List.getElem?_append_right (by rw [Di]; omega), ← List.getD_eq_getElem?_getD, Di, show 16 * (a + 1) + b - 16 = 16 * a + b by omega]
    exact getD_fl cs r a b hb
theorem getD_fl' (cs : List (List AV)) (r : List AV) (t : Nat) : (fl cs r).getD t .dead = getC cs r (t / 16) (t % 16) := by
  rw [← getD_fl cs r (t / 16) (t % 16) (Nat.mod_lt _ (by omega)), Nat.div_add_mod]
def setC : List (List AV) → List AV → Nat → Nat → AV → List AV
  | [], r, a, b, x => r.set (16 * a + b) x
  | c :: cs, r, 0, b, x => fl (Gd b x c :: cs) r
  | c :: cs, r, a + 1, b, x => L8 16 c ++ setC cs r a b x
theorem set_flC : ∀ (cs : List (List AV)) (r : List AV) (a b : Nat) (x : AV), b < 16 → (fl cs r).set (16 * a + b) x = setC cs r a b x
  | [], r, a, b, x, _ => rfl
  | c :: cs, r, 0, b, x, hb => by
    simp only [fl, setC, Nat.mul_zero, Nat.zero_add]
    rw [List.set_append_left _ _ (by rw [Di]; exact hb), pad16_put 16 c b x hb]
  | c :: cs, r, a + 1, b, x, hb => by
    simp only [fl, setC]
    rw [List.set_append_right _ _ (by rw [Di]; omega), Di, show 16 * (a + 1) + b - 16 = 16 * a + b by omega, set_flC cs r a b x hb]
def Ko : List (List AV) → List AV → Nat → Nat → AV → List (List AV) × List AV
  | [], r, a, b, x => ([], r.set (16 * a + b) x)
  | c :: cs, r, 0, b, x => (Gd b x c :: cs, r)
  | c :: cs, r, a + 1, b, x => (c :: (Ko cs r a b x).1, (Ko cs r a b x).2)
theorem setC_fl : ∀ (cs : List (List AV)) (r : List AV) (a b : Nat) (x : AV), setC cs r a b x = fl (Ko cs r a b x).1 (Ko cs r a b x).2
  | [], r, a, b, x => rfl
  | c :: cs, r, 0, b, x => rfl
  | c :: cs, r, a + 1, b, x => by
    simp only [setC, Ko, fl]
    rw [setC_fl cs r a b x]
theorem Kh (cs : List (List AV)) (r : List AV) (t : Nat) (x : AV) : (fl cs r).set t x = fl (Ko cs r (t / 16) (t % 16) x).1 (Ko cs r (t / 16) (t % 16) x).2 := by
  rw [← setC_fl, ← set_flC cs r (t / 16) (t % 16) x (Nat.mod_lt _ (by omega)), Nat.div_add_mod]
theorem killK_app (i : Nat) : ∀ (a b : List AV), Td i (a ++ b) = Td i a ++ Td i b
  | [], _ => rfl
  | x :: a, b => by simp [Td, killK_app i a b]
theorem killK_pad (i : Nat) : ∀ (n : Nat) (l : List AV), Td i (L8 n l) = L8 n (Td i l)
  | 0, _ => rfl
  | n + 1, [] => by
    have := killK_pad i n []
    simp only [Td] at this
    simp [L8,Td,AV.off,this]
  | n + 1, x :: l => by simp [L8, Td, killK_pad i n l]
def killCs (i : Nat) : List (List AV) → List (List AV)
  | [] => []
  | c :: cs => Td i c :: killCs i cs
theorem killK_fl (i : Nat) : ∀ (cs : List (List AV)) (r : List AV), Td i (fl cs r) = fl (killCs i cs) (Td i r)
  | [], _ => rfl
  | c :: cs, r => by simp only [fl, killCs, killK_app, killK_pad, killK_fl i cs r]
theorem wkT_app {o1 o2 : K4} : ∀ {a a' b b' : List AV}, wkT o1 o2 a a' → wkT o1 o2 b b' → wkT o1 o2 (a ++ b) (a' ++ b')
  | [], [], _, _, _, h => h
  | [], _ :: _, _, _, h, _ => h.elim
  | _ :: _, [], _, _, h, _ => h.elim
  | x :: a, y :: a', b, b', h, h' => ⟨h.1, wkT_app h.2 h'⟩
theorem wkT_pad {o1 o2 : K4} : ∀ {n : Nat} {a a' : List AV}, wkT o1 o2 a a' → wkT o1 o2 (L8 n a) (L8 n a')
  | 0, _, _, _ => trivial
  | n + 1, [], [], _ => ⟨by simp [wk1], wkT_pad (a := []) (a' := []) trivial⟩
  | n + 1, [], _ :: _, h => h.elim
  | n + 1, _ :: _, [], h => h.elim
  | n + 1, x :: a, y :: a', h => ⟨h.1, wkT_pad h.2⟩
def Gl (o1 o2 : K4) : List (List AV) → List (List AV) → Prop
  | [], [] => True
  | c :: cs, d :: ds => wkT o1 o2 c d ∧ Gl o1 o2 cs ds
  | _, _ => False
theorem wkT_fl {o1 o2 : K4} : ∀ {cs ds : List (List AV)} {r r' : List AV}, Gl o1 o2 cs ds → wkT o1 o2 r r' → wkT o1 o2 (fl cs r) (fl ds r')
  | [], [], _, _, _, h => h
  | [], _ :: _, _, _, h, _ => h.elim
  | _ :: _, [], _, _, h, _ => h.elim
  | c :: cs, d :: ds, r, r', h, h' => wkT_app (wkT_pad h.1) (wkT_fl h.2 h')
theorem Wk.of_fl {cs ds : List (List AV)} {r r' : List AV} {o o' : K4} (h : Gl o o' cs ds ∧ wkT o o' r r' ∧ wkO o o' o' ∧ wkK o' o) : Wk ⟨fl cs r, o⟩ ⟨fl ds r', o'⟩ :=
  ⟨wkT_fl h.1 h.2.1, h.2.2.1, h.2.2.2⟩
def chk : Nat → List AV → List (List AV) × List AV
  | 0, l => ([], l)
  | n + 1, l => (l.take 16 :: (chk n (l.drop 16)).1, (chk n (l.drop 16)).2)
theorem pad16_full : ∀ (n : Nat) (l : List AV), l.length = n → L8 n l = l
  | 0, [], _ => rfl
  | 0, _ :: _, h => by simp at h
  | n + 1, [], h => by simp at h
  | n + 1, x :: l, h => by simp only [L8, pad16_full n l (by simpa using h)]
theorem chk_fl : ∀ (n : Nat) (l : List AV), 16 * n ≤ l.length → fl (chk n l).1 (chk n l).2 = l
  | 0, l, _ => rfl
  | n + 1, l, h => by
    simp only [chk, fl]
    rw [pad16_full 16 (l.take 16) (by rw [List.length_take]; omega), chk_fl n (l.drop 16) (by rw [List.length_drop]; omega), List.take_append_drop]
theorem Kw {C : Ctx} {c : Code} {Q : AExit → AS → Prop} {t : List AV} {o : K4} (n : Nat) (hn : 16 * n ≤ t.length) (h : Shut (awp C c Q ⟨fl (chk n t).1 (chk n t).2, o⟩)) : awp C c Q ⟨t, o⟩ := by
  have := h.out
  rw [chk_fl n t hn] at this
  exact this
end Go.Am
set_option linter.unusedVariables false
namespace Go.Am
open Enc (enc dec)
theorem set_getD {α : Type} {l : List α} {i : Nat} {x d : α} (h : l.getD i d = x) (hx : x ≠ d) : l.set i x = l := by
  apply List.ext_getElem?
  intro j
  rw [List.getElem?_set]
  by_cases hij : i = j
  · subst hij
    rw [if_pos rfl]
    by_cases hi : i < l.length
    · rw [if_pos hi]
      rw [List.getD_eq_getElem?_getD, List.getElem?_eq_getElem hi] at h
      rw [List.getElem?_eq_getElem hi, ← h]
      rfl
    · rw [List.getD_eq_getElem?_getD, List.getElem?_eq_none (by omega)] at h
      exact absurd h.symm hx
  · rw [if_neg hij]
theorem sAwp_condT (C : Ctx) (t : Nat) (x y : Code) (Q : AExit → AS → Prop) (T : List AV) (o : K4) : awp C (.cond (.tmp t) x y) Q ⟨T, o⟩ = (match T.getD t .dead with
    | .d (.bool b) => (b = true → awp C x Q ⟨T.set t (.d (.bool true)), o⟩) ∧ (b = false → awp C y Q ⟨T.set t (.d (.bool false)), o⟩)
    | _ => False) := by
  rw [awp_cond]
  simp only [AS.ev]
  generalize hz : T.getD t .dead = z
  cases z with
  | d x =>
    cases x with
    | bool b =>
      simp only [D.isBool, D.b, true_and, ifB]
      have h := set_getD hz (by simp)
      cases b with
      | true => simp only [h]; simp
      | false => simp only [h]; simp
    | _ => simp [D.isBool]
  | _ => rfl
theorem sIfG (b want : Bool) (P Q : Prop) : ifG b want P Q = (match want with
    | true => (b = true → P) ∧ (b = false → Q)
    | false => (b = false → P) ∧ (b = true → Q)) := by
  cases b <;> cases want <;> simp [ifG]
theorem sOp (C : Ctx) (ops : List Oper) (o : Oper) (K : AS → Prop) (st : AS) : aOp C ops o K st = (match o.guard with
  | none => aExec C o K st
  | some (j, want) => match H5 ops st j with
    | .b t b => (match want with
      | true => (b = true → aExec C o K ⟨st.tmps.set t (.d (.bool true)), st.objs⟩) ∧ (b = false → K (AS.put ⟨st.tmps.set t (.d (.bool false)), st.objs⟩ o.dst (.d (.tup [])) st.objs))
      | false => (b = false → aExec C o K ⟨st.tmps.set t (.d (.bool false)), st.objs⟩) ∧ (b = true → K (AS.put ⟨st.tmps.set t (.d (.bool true)), st.objs⟩ o.dst (.d (.tup [])) st.objs)))
    | .und => K (AS.put st o.dst (.d (.tup [])) st.objs)
    | .no => False) := by
  unfold aOp
  cases o.guard with
  | none => rfl
  | some p =>
    obtain ⟨j, want⟩ := p
    simp only
    cases H5 ops st j with
    | b t b =>
      simp only [sIfG]
      cases want <;> rfl
    | und => rfl
    | no => rfl
theorem sDraws_nil (C : Ctx) (ops : List Oper) (i : Nat) (acc : List (Nat × List Nat × Bool)) (K : AS → Prop) (st : AS) : L4 C ops i [] acc K st = (okD ops acc = true ∧ K st) := rfl
theorem sDraws_cons (C : Ctx) (ops : List Oper) (i : Nat) (o : Oper) (r : List Oper) (acc : List (Nat × List Nat × Bool)) (K : AS → Prop) (st : AS) : L4 C ops i (o :: r) acc K st = (match o.guard with
    | none => aExecB C o (fun fp ro => L4 C ops (i + 1) r ((i, fp, ro) :: acc) K) st
    | some (j, want) => match H5 ops st j with
      | .b t b => (match want with
        | true => (b = true → aExecB C o (fun fp ro => L4 C ops (i + 1) r ((i, fp, ro) :: acc) K) ⟨st.tmps.set t (.d (.bool true)), st.objs⟩) ∧
            (b = false → L4 C ops (i + 1) r acc K (AS.put ⟨st.tmps.set t (.d (.bool false)), st.objs⟩ o.dst (.d (.tup [])) st.objs))
        | false => (b = false → aExecB C o (fun fp ro => L4 C ops (i + 1) r ((i, fp, ro) :: acc) K) ⟨st.tmps.set t (.d (.bool false)), st.objs⟩) ∧
            (b = true → L4 C ops (i + 1) r acc K (AS.put ⟨st.tmps.set t (.d (.bool true)), st.objs⟩ o.dst (.d (.tup [])) st.objs)))
      | .und => L4 C ops (i + 1) r acc K (AS.put st o.dst (.d (.tup [])) st.objs)
      | .no => False) := by
  rw [L4]
  cases o.guard with
  | none => rfl
  | some p =>
    obtain ⟨j, want⟩ := p
    simp only
    cases H5 ops st j with
    | b t b =>
      simp only [sIfG]
      cases want <;> rfl
    | und => rfl
    | no => rfl
section
variable (a : Option Tmp) (b : Op) (c : TypeId) (d : String) (e : Array Edge) (f : Option (Nat × Bool))
theorem sO1 : (Oper.mk a b c d e f).dst = a := rfl
theorem sO2 : (Oper.mk a b c d e f).op = b := rfl
theorem sO3 : (Oper.mk a b c d e f).type = c := rfl
end
section
variable (a : TK) (b c : Nat) (d : AV) (e : D) (f : List SK)
theorem sT1 : (TI.mk a b c d e f).kind = a := rfl
theorem sT2 : (TI.mk a b c d e f).size = b := rfl
theorem sT3 : (TI.mk a b c d e f).bytes = c := rfl
theorem sT4 : (TI.mk a b c d e f).zero = d := rfl
theorem sT5 : (TI.mk a b c d e f).zd = e := rfl
theorem sT6 : (TI.mk a b c d e f).eqk = f := rfl
end
section
variable (a : Nat → TI) (b : Nat → Option Con) (c : Nat) (d : Nat → Option BCon) (e : List Nat) (f : Bool)
theorem sC1 : (Ctx.mk a b c d e f).τ = a := rfl
theorem sC2 : (Ctx.mk a b c d e f).Γ = b := rfl
theorem sC3 : (Ctx.mk a b c d e f).dp = c := rfl
theorem sC4 : (Ctx.mk a b c d e f).Δ = d := rfl
end
theorem sA1 (a : List AV) (b : K4) : (AS.mk a b).tmps = a := rfl
theorem sA2 (a : List AV) (b : K4) : (AS.mk a b).objs = b := rfl
theorem sP1 {α β : Type} (a : α) (b : β) : (a, b).1 = a := rfl
theorem sP2 {α β : Type} (a : α) (b : β) : (a, b).2 = b := rfl
theorem sN1 (a b : List Bool) (p : List CV → Prop) (f : List CV → CV) : (Con.mk a b p f).modes = a := rfl
theorem sN2 (a b : List Bool) (p : List CV → Prop) (f : List CV → CV) : (Con.mk a b p f).outs = b := rfl
theorem sN3 (a b : List Bool) (p : List CV → Prop) (f : List CV → CV) (x : List CV) : (Con.mk a b p f).pre x = p x := rfl
theorem sN4 (a b : List Bool) (p : List CV → Prop) (f : List CV → CV) (x : List CV) : (Con.mk a b p f).fn x = f x := rfl
theorem sR1 {α : Type} (l : List α) : l.toArray.toList = l := rfl
theorem sMapId {α β : Type} (f : α → β) (x : α) (l : List α) : (x :: l).map f = f x :: l.map f := rfl
theorem sMapNil {α β : Type} (f : α → β) : ([] : List α).map f = [] := rfl
theorem sLenC {α : Type} (x : α) (l : List α) : (x :: l).length = l.length + 1 := rfl
theorem sLenN {α : Type} : ([] : List α).length = 0 := rfl
theorem sGet0 {α : Type} (x : α) (l : List α) : (x :: l)[0]? = some x := rfl
theorem sGet1 {α : Type} (x : α) (l : List α) (n : Nat) : (x :: l)[n + 1]? = l[n]? := rfl
theorem sCl1 (s : Nat) (k : IntKind) (n : Int) : AV.cells false s (.d (.int k n)) = [.d (.int k n)] := rfl
theorem sCl3 (s : Nat) (b : List UInt8) : AV.cells false s (.d (.str b)) = [.d (.str b)] := rfl
theorem sCl4 (s : Nat) : AV.cells false s (.d .nilf) = [.d .nilf] := rfl
theorem sCl6 (s m : Nat) (l : List D) : AV.cells false s (.d (.list m l)) = [.d (.list m l)] := rfl
theorem sCl8 (s f : Nat) (l : List D) : AV.cells false s (.d (.clo f l)) = [.d (.clo f l)] := rfl
theorem sCl9 {α : Type} [Enc α] [Sz α] (s : Nat) (a : Sl α) : AV.cells false s (.d (enc a)) = [.d (enc a)] := rfl
theorem sCld (ag : Bool) (s f : Nat) (l : List AV) : AV.cells ag s (.clo f l) = [.clo f l] := rfl
theorem sDec (i : Decidable True) : @decide True i = true := by simp
theorem sCv1 (C : Ctx) (h : Nat) (k : IntKind) (n : Int) : O1 C h (.int k n) = .d (.int k n) := rfl
theorem sCv2 (C : Ctx) (h : Nat) (b : Bool) : O1 C h (.bool b) = .d (.bool b) := rfl
theorem sCv3 (C : Ctx) (h : Nat) (b : ByteArray) : O1 C h (.string b) = .d (.str b.data.toList) := rfl
theorem sCv6 (C : Ctx) (h : Nat) : O1 C h (.slice none 0 0) = .nils (C.esize h) := rfl
theorem sBy (l : Array UInt8) : (ByteArray.mk l).data = l := rfl
theorem Ev {P : Program} {f : Nat} {con : Con} (h : Ob P f) (hv : ∀ c, ¬ con.pre c) : Gj P (f, con) := ⟨h, fun _ _ c _ hp => absurd hp (hv c)⟩
theorem goodb_void {P : Program} {f : Nat} {bc : BCon} (h : Ob P f) (hv : ∀ x, ¬ bc.ok x) : GoodB P (f, bc) := ⟨h, fun x hx => absurd hx (hv x)⟩
theorem Cl {bc : BCon} {args : List AV} {dst : Option Tmp} {K : AS → Prop} {st : AS} (x : bc.X) (rs : List Nat) (h1 : bc.ok x) (h2 : rnAs rs (bc.args x) = args) (h3 : rs.Nodup) (h4 : rs.length = (bc.post x).length)
    (h5 : K2 rs rs (bc.objs x) st.objs) (h6 : Mm (rs.drop (bc.objs x).length) st.objs) (h7 : Shut (K (AS.put st dst (.d (bc.res x)) (Pf rs rs (bc.post x) st.objs)))) : aCallB bc args dst K st :=
  ⟨x, rs, h1, h2, h3, h4, h5, h6, h7.out⟩
theorem Kl {ops : List Oper} {acc : List (Nat × List Nat × Bool)} (h : okD ops acc = true) : okD ops acc = true := h
theorem sNc0 : ((0 : Nat) : Int) = 0 := rfl
theorem sNc1 : ((1 : Nat) : Int) = 1 := rfl
theorem sEl0 (x : D) (l : List D) : el (x :: l) 0 = x := rfl
theorem sEl1 (x : D) (l : List D) (n : Nat) : el (x :: l) (n + 1) = el l n := rfl
theorem sNc2 : ((2 : Nat) : Int) = 2 := rfl
theorem sTn1 : Int.toNat 1 = 1 := rfl
theorem sSc1 (k : IntKind) (n : Int) (f : Nat) (y : D) : D.setCell (.int k n) f y = y := rfl
theorem sSc5 {α : Type} [Enc α] [Sz α] (a : Sl α) (f : Nat) (y : D) : D.setCell (enc a) f y = y := rfl
theorem sSl {α : Type} (l : List α) : (Sl.mk l).l = l := rfl
theorem U1 (k : Nat) : (NatCast.natCast k : Int) = Int.ofNat k := rfl
theorem Kf {α : Type} [Enc α] {l : List α} {i : Nat} (d : α) (h : i < l.length) : el (l.map enc) i = enc (l.getD i d) := el_map d h
end Go.Am
set_option linter.unusedVariables false
namespace Go.Am
open Enc (enc dec)
theorem Za : type_of% @beginAS.eq_def := @beginAS.eq_def
theorem Zb : type_of% @aExec.eq_def := @aExec.eq_def
theorem Zc : type_of% @Tb.eq_def := @Tb.eq_def
theorem Zd : type_of% @H5.eq_def := @H5.eq_def
theorem Ze : type_of% @AS.put.eq_def := @AS.put.eq_def
theorem Zf : type_of% @aThen.eq_def := @aThen.eq_def
theorem Zg : type_of% @aBlock.eq_def := @aBlock.eq_def
theorem Zh : type_of% @Ctx.one.eq_def := @Ctx.one.eq_def
theorem Zi : type_of% @Rk.eq_def := @Rk.eq_def
theorem Zj : type_of% @Gv.eq_def := @Gv.eq_def
theorem Zk : type_of% @ownKey.eq_def := @ownKey.eq_def
theorem Zl : type_of% @makes.eq_def := @makes.eq_def
theorem Zm : type_of% @roOf.eq_def := @roOf.eq_def
theorem Zn : type_of% @Ctx.esize.eq_def := @Ctx.esize.eq_def
theorem Zo : type_of% @Ctx.size.eq_def := @Ctx.size.eq_def
theorem Zp : type_of% @Ctx.ag.eq_def := @Ctx.ag.eq_def
theorem Zq : type_of% @TK.ag.eq_def := @TK.ag.eq_def
theorem Zr : type_of% @Ctx.elemT.eq_def := @Ctx.elemT.eq_def
theorem Zs : type_of% @Ctx.fieldAt.eq_def := @Ctx.fieldAt.eq_def
theorem Zt : type_of% @hPick.eq_def := @hPick.eq_def
theorem Zu : type_of% @hAlloc.eq_def := @hAlloc.eq_def
theorem Zv : type_of% @hLoad.eq_def := @hLoad.eq_def
theorem Zw : type_of% @O9.eq_def := @O9.eq_def
theorem Zx : type_of% @Tg.eq_def := @Tg.eq_def
theorem Zy : type_of% @Tf.eq_def := @Tf.eq_def
theorem Zz : type_of% @hIndex.eq_def := @hIndex.eq_def
theorem Z0 : type_of% @hSlice.eq_def := @hSlice.eq_def
theorem Z1 : type_of% @Th.eq_def := @Th.eq_def
theorem Z2 : type_of% @hBuild.eq_def := @hBuild.eq_def
theorem Z3 : type_of% @C5.eq_def := @C5.eq_def
theorem Z4 : type_of% @Fk.eq_def := @Fk.eq_def
theorem Z5 : type_of% @hAppend.eq_def := @hAppend.eq_def
theorem Z6 : type_of% @hLen.eq_def := @hLen.eq_def
theorem Z7 : type_of% @hMax.eq_def := @hMax.eq_def
theorem Z8 : type_of% @Fw.eq_def := @Fw.eq_def
theorem Z9 : type_of% @hCall.eq_def := @hCall.eq_def
theorem Qa : type_of% @hCallV.eq_def := @hCallV.eq_def
theorem Qb : type_of% @hBin.eq_def := @hBin.eq_def
theorem Qc : type_of% @hUn.eq_def := @hUn.eq_def
theorem Qd : type_of% @P0.eq_def := @P0.eq_def
theorem Qe : type_of% @outCV.eq_def := @outCV.eq_def
theorem Qf : type_of% @Ep.eq_def := @Ep.eq_def
theorem Qg : type_of% @mkTup.eq_def := @mkTup.eq_def
theorem Qh : type_of% @mkAgg.eq_def := @mkAgg.eq_def
theorem Qi : type_of% @mkClo.eq_def := @mkClo.eq_def
theorem Qj : type_of% @evO.eq_def := @evO.eq_def
theorem Qk : type_of% @O5.eq_def := @O5.eq_def
theorem Ql : type_of% @AV.fits.eq_def := @AV.fits.eq_def
theorem Qm : type_of% @Obj.isBox.eq_def := @Obj.isBox.eq_def
theorem Qn : type_of% @retOk.eq_def := @retOk.eq_def
theorem Qo : type_of% @resAV.eq_def := @resAV.eq_def
theorem Qp : type_of% @Post.eq_def := @Post.eq_def
theorem Qq : type_of% @aExecD.eq_def := @aExecD.eq_def
theorem Qr : type_of% @aExecB.eq_def := @aExecB.eq_def
theorem Qs : type_of% @bOf.eq_def := @bOf.eq_def
theorem Qt : type_of% @rnO.eq_def := @rnO.eq_def
theorem Qu : type_of% @rk.eq_def := @rk.eq_def
theorem Qv : type_of% @PostB.eq_def := @PostB.eq_def
theorem Qw : type_of% @retB.eq_def := @retB.eq_def
theorem Qx : type_of% @packD.eq_def := @packD.eq_def
theorem Qy : type_of% @skIs.eq_def := @skIs.eq_def
theorem Qz : type_of% @SK.is.eq_def := @SK.is.eq_def
theorem Q0 : type_of% @aggL.eq_def := @aggL.eq_def
theorem Q1 : type_of% @cutOf.eq_def := @cutOf.eq_def
theorem Q2 : type_of% @AS.ev.eq_def := @AS.ev.eq_def
theorem Q3 : type_of% @Hs.eq_def := @Hs.eq_def
theorem Q4 : type_of% @aOps.eq_def := @aOps.eq_def
theorem Q5 : type_of% @keysAll.eq_def := @keysAll.eq_def
theorem Q6 : type_of% @AV.keys.eq_def := @AV.keys.eq_def
theorem Q7 : type_of% @St.eq_def := @St.eq_def
theorem Q8 : type_of% @Bj.eq_def := @Bj.eq_def
theorem Q9 : type_of% @C3.eq_def := @C3.eq_def
theorem Ja : type_of% @allD.eq_def := @allD.eq_def
theorem Jb : type_of% @Ta.eq_def := @Ta.eq_def
theorem Jc : type_of% @allLt.eq_def := @allLt.eq_def
theorem Jd : type_of% @O7.eq_def := @O7.eq_def
theorem Je : type_of% @allFit.eq_def := @allFit.eq_def
theorem Jf : type_of% @evs.eq_def := @evs.eq_def
theorem Jg : type_of% @P4.eq_def := @P4.eq_def
theorem Jh : type_of% @lk.eq_def := @lk.eq_def
theorem Ji : type_of% @upd.eq_def := @upd.eq_def
theorem Jj : type_of% @lkC.eq_def := @lkC.eq_def
theorem Jk : type_of% @resAll.eq_def := @resAll.eq_def
theorem Jl : type_of% @lkB.eq_def := @lkB.eq_def
theorem Jm : type_of% @Ie.eq_def := @Ie.eq_def
theorem Jn : type_of% @rnA.eq_def := @rnA.eq_def
theorem Jo : type_of% @rnAs.eq_def := @rnAs.eq_def
theorem Jp : type_of% @K2.eq_def := @K2.eq_def
theorem Jq : type_of% @Pf.eq_def := @Pf.eq_def
theorem Jr : type_of% @skAll.eq_def := @skAll.eq_def
theorem Js : type_of% @hasN.eq_def := @hasN.eq_def
theorem Jt : type_of% @AV.off.eq_def := @AV.off.eq_def
theorem Ju : type_of% @D0.eq_def := @D0.eq_def
theorem Jv : type_of% @killCs.eq_def := @killCs.eq_def
theorem Jw : type_of% @M6.eq_def := @M6.eq_def
theorem Jx : type_of% @Option.toList.eq_def := @Option.toList.eq_def
theorem Jy : type_of% @Ka.eq_def := @Ka.eq_def
theorem Jz : type_of% @U6.eq_def := @U6.eq_def
theorem J0 : type_of% @Kg.eq_def := @Kg.eq_def
theorem J1 : type_of% @Td.eq_1 := @Td.eq_1
theorem J2 : type_of% @Td.eq_2 := @Td.eq_2
theorem J3 : type_of% @deads.eq_1 := @deads.eq_1
theorem J4 : type_of% @deads.eq_2 := @deads.eq_2
theorem J5 : type_of% @Gd.eq_3 := @Gd.eq_3
theorem J6 : type_of% @Gd.eq_4 := @Gd.eq_4
theorem J7 : type_of% @getC.eq_1 := @getC.eq_1
theorem J8 : type_of% @getC.eq_2 := @getC.eq_2
theorem J9 : type_of% @getC.eq_3 := @getC.eq_3
theorem Xa : type_of% @Ko.eq_1 := @Ko.eq_1
theorem Xb : type_of% @Ko.eq_2 := @Ko.eq_2
theorem Xc : type_of% @Ko.eq_3 := @Ko.eq_3
theorem Xd : type_of% @Au.eq_1 := @Au.eq_1
theorem Xe : type_of% @Au.eq_2 := @Au.eq_2
theorem Xf : type_of% @pur.eq_2 := @pur.eq_2
theorem Xg : type_of% @pur.eq_3 := @pur.eq_3
theorem Xh : type_of% @pur.eq_4 := @pur.eq_4
theorem Xi : type_of% @pur.eq_5 := @pur.eq_5
theorem Xj : type_of% @pur.eq_6 := @pur.eq_6
theorem Xk : type_of% @pur.eq_8 := @pur.eq_8
theorem Xl : type_of% @purs.eq_2 := @purs.eq_2
theorem Xm : type_of% @purs.eq_3 := @purs.eq_3
theorem Xn : type_of% @chk.eq_1 := @chk.eq_1
theorem Xo : type_of% @chk.eq_2 := @chk.eq_2
theorem Xp : type_of% @D.asAgg.eq_1 := @D.asAgg.eq_1
theorem Xq : type_of% @D.setCell.eq_1 := @D.setCell.eq_1
theorem Xr : type_of% @AV.cells.eq_1 := @AV.cells.eq_1
theorem Xs : type_of% @AV.cells.eq_2 := @AV.cells.eq_2
theorem Xt : type_of% @con0.eq_1 := @con0.eq_1
theorem Xu : type_of% @Ss.eq_1 := @Ss.eq_1
theorem Xv : type_of% @Bg.eq_1 := @Bg.eq_1
theorem Xw : type_of% @con3.eq_1 := @con3.eq_1
theorem Xx : type_of% @con2t.eq_1 := @con2t.eq_1
theorem Xy : type_of% @con3t.eq_1 := @con3t.eq_1
theorem Xz : type_of% @D5.eq_1 := @D5.eq_1
theorem X0 : type_of% @D5.eq_2 := @D5.eq_2
theorem X1 : type_of% @D.eqb.eq_1 := @D.eqb.eq_1
theorem X2 : type_of% @D.eqb.eq_3 := @D.eqb.eq_3
theorem X3 : type_of% @awp_skip := @awp_skip
theorem X4 : type_of% @awp_region := @awp_region
theorem X5 : type_of% @awp_draw := @awp_draw
theorem X6 : type_of% @awp_seq := @awp_seq
theorem X7 : type_of% @sAwp_condT := @sAwp_condT
theorem X8 : type_of% @awp_block := @awp_block
theorem X9 : type_of% @awp_loop := @awp_loop
theorem Wa : type_of% @awp_exit := @awp_exit
theorem Wb : type_of% @awp_ret := @awp_ret
theorem Wc : type_of% @sOp := @sOp
theorem Wd : type_of% @sDraws_nil := @sDraws_nil
theorem We : type_of% @sDraws_cons := @sDraws_cons
theorem Wf : type_of% @sO1 := @sO1
theorem Wg : type_of% @sO2 := @sO2
theorem Wh : type_of% @sO3 := @sO3
theorem Wi : type_of% @sT1 := @sT1
theorem Wj : type_of% @sT2 := @sT2
theorem Wl : type_of% @sT3 := @sT3
theorem Wm : type_of% @sT4 := @sT4
theorem Wn : type_of% @sT5 := @sT5
theorem Wo : type_of% @sT6 := @sT6
theorem Wp : type_of% @sC1 := @sC1
theorem Wq : type_of% @sC2 := @sC2
theorem Wr : type_of% @sC3 := @sC3
theorem Ws : type_of% @sC4 := @sC4
theorem Wt : type_of% @sA1 := @sA1
theorem Wu : type_of% @sA2 := @sA2
theorem Wv : type_of% @sP1 := @sP1
theorem Ww : type_of% @sP2 := @sP2
theorem Wx : type_of% @sN1 := @sN1
theorem Wy : type_of% @sN2 := @sN2
theorem Wz : type_of% @sN3 := @sN3
theorem W0 : type_of% @sN4 := @sN4
theorem W3 : type_of% @sR1 := @sR1
theorem W4 : type_of% @sMapId := @sMapId
theorem W5 : type_of% @sMapNil := @sMapNil
theorem W6 : type_of% @sLenC := @sLenC
theorem W7 : type_of% @sLenN := @sLenN
theorem W8 : type_of% @sGet0 := @sGet0
theorem W9 : type_of% @sGet1 := @sGet1
theorem Ya : type_of% @getD_fl' := @getD_fl'
theorem Yb : type_of% @Kh := @Kh
theorem Yc : type_of% @killK_fl := @killK_fl
theorem Yd : type_of% @U2 := @U2
theorem Ye : type_of% @i_int := @i_int
theorem Yf : type_of% @b_bool := @b_bool
theorem Yg : type_of% @s_str := @s_str
theorem Yh : type_of% @l_list := @l_list
theorem Yi : type_of% @isInt_int := @isInt_int
theorem Yj : type_of% @Om := @Om
theorem Yk : type_of% @isStr_str := @isStr_str
theorem Yl : type_of% @Ol := @Ol
theorem Ym : type_of% @Rt := @Rt
theorem Yn : type_of% @fits_int := @fits_int
theorem Yo : type_of% @fits_str := @fits_str
theorem Yp : type_of% @fits_list := @fits_list
theorem Yq : type_of% @fits_agg := @fits_agg
theorem Yr : type_of% @fits_clo := @fits_clo
theorem Ys : type_of% @fits_nilf := @fits_nilf
theorem Yt : type_of% @cell_int := @cell_int
theorem Yu : type_of% @cell_str := @cell_str
theorem Yv : type_of% @cell_list := @cell_list
theorem Yw : type_of% @cell_agg := @cell_agg
theorem Yx : type_of% @encI_def := @encI_def
theorem Yy : type_of% @encB_def := @encB_def
theorem Yz : type_of% @encS_def := @encS_def
theorem Y0 : type_of% @l_enc := @l_enc
theorem Y1 : type_of% @isList_enc := @isList_enc
theorem Y2 : type_of% @fits_encL := @fits_encL
theorem Y3 : type_of% @cell_encL := @cell_encL
theorem Y4 : type_of% @szI := @szI
theorem Y5 : type_of% @szS := @szS
theorem Y6 : type_of% @szL := @szL
theorem Y7 : type_of% @List.getD_cons_zero := @List.getD_cons_zero
theorem Y8 : type_of% @List.getD_cons_succ := @List.getD_cons_succ
theorem Y9 : type_of% @List.set_cons_zero := @List.set_cons_zero
theorem Va : type_of% @List.set_cons_succ := @List.set_cons_succ
theorem Vb : type_of% @List.cons_append := @List.cons_append
theorem Vc : type_of% @List.nil_append := @List.nil_append
theorem Vd : type_of% @List.take_succ_cons := @List.take_succ_cons
theorem Ve : type_of% @List.take_zero := @List.take_zero
theorem Vf : type_of% @List.drop_succ_cons := @List.drop_succ_cons
theorem Vg : type_of% @List.drop_zero := @List.drop_zero
theorem Vh : type_of% @dec_int := @dec_int
theorem Vi : type_of% @dec_str := @dec_str
theorem Vj : type_of% @dec_encE := @dec_encE
theorem Vk : type_of% @dec_list := @dec_list
theorem Vl : type_of% @Bs := @Bs
theorem Vm : type_of% @isE_int := @isE_int
theorem Vn : type_of% @isE_str := @isE_str
theorem Vo : type_of% @isE_encE := @isE_encE
theorem Vp : type_of% @Bool.not_true := @Bool.not_true
theorem Vq : type_of% @Bool.not_false := @Bool.not_false
theorem Vr : type_of% @Int.toNat_natCast := @Int.toNat_natCast
theorem Vs : type_of% @Int.toNat_zero := @Int.toNat_zero
theorem Vt : type_of% @shut_eq := @shut_eq
theorem Vu : type_of% @sSl := @sSl
theorem Vv : type_of% @sEl0 := @sEl0
theorem Vw : type_of% @sEl1 := @sEl1
theorem Vx : type_of% @sNc2 := @sNc2
theorem Vy : type_of% @sTn1 := @sTn1
theorem Vz : type_of% @sSc1 := @sSc1
theorem V0 : type_of% @sSc5 := @sSc5
theorem V1 : type_of% @sNc0 := @sNc0
theorem V2 : type_of% @sNc1 := @sNc1
theorem V3 : type_of% @sDec := @sDec
theorem V4 : type_of% @sCv1 := @sCv1
theorem V5 : type_of% @sCv2 := @sCv2
theorem V6 : type_of% @sCv3 := @sCv3
theorem V7 : type_of% @sCv6 := @sCv6
theorem V8 : type_of% @sBy := @sBy
theorem V9 : type_of% @Bool.and_true := @Bool.and_true
theorem Ua : type_of% @Bool.true_and := @Bool.true_and
theorem Ub : type_of% @Bool.and_false := @Bool.and_false
theorem Uc : type_of% @Bool.false_and := @Bool.false_and
theorem Ud : type_of% @sCl1 := @sCl1
theorem Ue : type_of% @sCl3 := @sCl3
theorem Uf : type_of% @sCl4 := @sCl4
theorem Ug : type_of% @sCl6 := @sCl6
theorem Uh : type_of% @sCl8 := @sCl8
theorem Ui : type_of% @sCl9 := @sCl9
theorem Uj : type_of% @sCld := @sCld
theorem Uk : type_of% @Bool.true_eq_false := @Bool.true_eq_false
theorem Ul : type_of% @Bool.false_eq_true := @Bool.false_eq_true
theorem Um : type_of% @true_and := @true_and
theorem Un : type_of% @and_true := @and_true
theorem Uo : type_of% @and_assoc := @and_assoc
theorem Up : type_of% @List.length_map := @List.length_map
theorem Uq : type_of% @List.append_nil := @List.append_nil
theorem nc2 : type_of% @Int.ofNat_eq_natCast := @Int.ofNat_eq_natCast
theorem U9 : (type_of% @List.length_cons.{0}) ∧ (type_of% @List.length_nil.{0}) ∧ (type_of% @List.cons_append.{0}) ∧ (type_of% @List.nil_append.{0}) ∧ (type_of% @and_assoc) ∧ (type_of% @true_and) ∧ (type_of% @and_true) ∧ (type_of% @List.map_cons.{0, 0}) ∧ (type_of% @List.map_nil.{0, 0}) ∧ (type_of% @isInt_int) ∧ (type_of% @Om) ∧ (type_of% @isStr_str) ∧ (type_of% @Ol) ∧ (type_of% @Rt) ∧ (type_of% @i_int) ∧ (type_of% @b_bool) ∧ (type_of% @s_str) ∧ (type_of% @l_list) ∧ (type_of% @fits_int) ∧ (type_of% @fits_bool) ∧ (type_of% @fits_str) ∧ (type_of% @fits_list) ∧ (type_of% @fits_agg) ∧ (type_of% @fits_ptr) ∧ (type_of% @fits_clo) ∧ (type_of% @fits_nilp) ∧ (type_of% @fits_nilf) ∧ (type_of% @cell_int) ∧ (type_of% @cell_bool) ∧ (type_of% @cell_str) ∧ (type_of% @cell_list) ∧ (type_of% @cell_clo) ∧ (type_of% @cell_ptr) ∧ (type_of% @cell_agg) ∧ (type_of% @encI_def) ∧ (type_of% @encB_def) ∧ (type_of% @encS_def) ∧ (type_of% @i_enc) ∧ (type_of% @b_enc) ∧ (type_of% @s_enc) ∧ (type_of% @isInt_enc) ∧ (type_of% @isBool_enc) ∧ (type_of% @isStr_enc) ∧ (type_of% @fits_encI) ∧ (type_of% @cell_encI) ∧ (type_of% @fits_encB) ∧ (type_of% @cell_encB) ∧ (type_of% @fits_encS) ∧ (type_of% @cell_encS) ∧ (type_of% @isAnyInt_enc) ∧ (type_of% @l_enc) ∧ (type_of% @isList_enc) ∧ (type_of% @fits_encL) ∧ (type_of% @cell_encL) ∧ (type_of% @dec_int) ∧ (type_of% @dec_bool) ∧ (type_of% @dec_str) ∧ (type_of% @dec_encE) ∧ (type_of% @isE_int) ∧ (type_of% @isE_bool) ∧ (type_of% @isE_str) ∧ (type_of% @isE_encE) ∧ (type_of% @dec_list) ∧ (type_of% @isE_list) ∧ (type_of% @isE_map) ∧ (type_of% @Bs) ∧ (type_of% @Pv) ∧ (type_of% @Nd) ∧ (type_of% @Ig) ∧ (type_of% @Dk) ∧ (type_of% @szI) ∧ (type_of% @szB) ∧ (type_of% @szS) ∧ (type_of% @szL) ∧ (type_of% @boolE) ∧ (type_of% @intE) ∧ (type_of% @strE) ∧ (type_of% @listE) ∧ (type_of% @encE) ∧ (type_of% @SlE) ∧ (type_of% @List.length_map.{0, 0}) ∧ (type_of% @List.length_append.{0}) ∧ (type_of% @List.length_replicate.{0}) ∧ (type_of% @Int.toNat_natCast) ∧ (type_of% @Bool.not_true) ∧ (type_of% @Bool.not_false) ∧ (type_of% @Bool.not_not) ∧ (type_of% @decide_true) ∧ (type_of% @decide_false) ∧ (type_of% @Bool.and_true) ∧ (type_of% @Bool.true_and) ∧ (type_of% @Bool.and_false) ∧ (type_of% @Bool.false_and) ∧ (type_of% @Bool.or_true) ∧ (type_of% @Bool.true_or) ∧ (type_of% @Bool.or_false) ∧ (type_of% @Bool.false_or) ∧ (type_of% @List.length_singleton.{0}) ∧ (type_of% @decide_eq_true_eq) ∧ (type_of% @decide_eq_false_iff_not) ∧ (type_of% @beq_iff_eq.{0}) ∧ (type_of% @beq_eq_false_iff_ne.{0}) ∧ (type_of% @bne_iff_ne.{0}) ∧ (type_of% @bne_eq_false_iff_eq.{0}) ∧ (type_of% @Bool.not_eq_true') ∧ (type_of% @Bool.not_eq_false') ∧ (type_of% @forall_const.{1}) ∧ (type_of% @true_imp_iff) ∧ (type_of% @false_imp_iff) ∧ (type_of% @if_true.{1}) ∧ (type_of% @if_false.{1}) ∧ (type_of% @and_self) ∧ (type_of% @or_self) ∧ (type_of% @not_true) ∧ (type_of% @not_false_eq_true) ∧ (type_of% @List.append_nil.{0}) ∧ (type_of% @D.bool.injEq) ∧ (type_of% @D.int.injEq) ∧ (type_of% @D.str.injEq) ∧ (type_of% @D.list.injEq) ∧ (type_of% @D.agg.injEq) ∧ (type_of% @bne_self_eq_false.{0}) ∧ (type_of% @CV.d.injEq) ∧ (type_of% @CV.own.injEq) ∧ (type_of% @CV.tup.injEq) ∧ (type_of% @List.cons.injEq.{0}) ∧ (type_of% @List.toList_toArray.{0}) ∧ (type_of% @Option.some.injEq.{0}) ∧ (type_of% @Prod.mk.injEq.{0, 0}) ∧ (type_of% @List.take_succ_cons.{0}) ∧ (type_of% @List.take_zero.{0}) ∧ (type_of% @List.drop_succ_cons.{0}) ∧ (type_of% @List.drop_zero.{0}) ∧ (type_of% @List.getD_nil.{0}) ∧ (type_of% @map_snoc) ∧ (type_of% @map_snocI) ∧ (type_of% @map_snocB) ∧ (type_of% @map_snocS) ∧ (type_of% @map_cat) ∧ (type_of% @List.not_mem_nil.{0}) ∧ (type_of% @false_implies) ∧ (type_of% @implies_true.{1}) ∧ (type_of% @List.mem_cons.{0}) ∧ (type_of% @or_false) ∧ (type_of% @forall_eq_or_imp.{1}) ∧ (type_of% @forall_eq.{1}) ∧ (type_of% @ne_eq.{1}) ∧ (type_of% @cond_true.{1}) ∧ (type_of% @cond_false.{1}) ∧ (type_of% @Bool.false_eq_true) := ⟨@List.length_cons.{0}, @List.length_nil.{0}, @List.cons_append.{0}, @List.nil_append.{0}, @and_assoc, @true_and, @and_true, @List.map_cons.{0, 0}, @List.map_nil.{0, 0}, @isInt_int, @Om, @isStr_str, @Ol, @Rt, @i_int, @b_bool, @s_str, @l_list, @fits_int, @fits_bool, @fits_str, @fits_list, @fits_agg, @fits_ptr, @fits_clo, @fits_nilp, @fits_nilf, @cell_int, @cell_bool, @cell_str, @cell_list, @cell_clo, @cell_ptr, @cell_agg, @encI_def, @encB_def, @encS_def, @i_enc, @b_enc, @s_enc, @isInt_enc, @isBool_enc, @isStr_enc, @fits_encI, @cell_encI, @fits_encB, @cell_encB, @fits_encS, @cell_encS, @isAnyInt_enc, @l_enc, @isList_enc, @fits_encL, @cell_encL, @dec_int, @dec_bool, @dec_str, @dec_encE, @isE_int, @isE_bool, @isE_str, @isE_encE, @dec_list, @isE_list, @isE_map, @Bs, @Pv, @Nd, @Ig, @Dk, @szI, @szB, @szS, @szL, @boolE, @intE, @strE, @listE, @encE, @SlE, @List.length_map.{0, 0}, @List.length_append.{0}, @List.length_replicate.{0}, @Int.toNat_natCast, @Bool.not_true, @Bool.not_false, @Bool.not_not, @decide_true, @decide_false, @Bool.and_true, @Bool.true_and, @Bool.and_false, @Bool.false_and, @Bool.or_true, @Bool.true_or, @Bool.or_false, @Bool.false_or, @List.length_singleton.{0}, @decide_eq_true_eq, @decide_eq_false_iff_not, @beq_iff_eq.{0}, @beq_eq_false_iff_ne.{0}, @bne_iff_ne.{0}, @bne_eq_false_iff_eq.{0}, @Bool.not_eq_true', @Bool.not_eq_false', @forall_const.{1}, @true_imp_iff, @false_imp_iff, @if_true.{1}, @if_false.{1}, @and_self, @or_self, @not_true, @not_false_eq_true, @List.append_nil.{0}, @D.bool.injEq, @D.int.injEq, @D.str.injEq, @D.list.injEq, @D.agg.injEq, @bne_self_eq_false.{0}, @CV.d.injEq, @CV.own.injEq, @CV.tup.injEq, @List.cons.injEq.{0}, @List.toList_toArray.{0}, @Option.some.injEq.{0}, @Prod.mk.injEq.{0, 0}, @List.take_succ_cons.{0}, @List.take_zero.{0}, @List.drop_succ_cons.{0}, @List.drop_zero.{0}, @List.getD_nil.{0}, @map_snoc, @map_snocI, @map_snocB, @map_snocS, @map_cat, @List.not_mem_nil.{0}, @false_implies, @implies_true.{1}, @List.mem_cons.{0}, @or_false, @forall_eq_or_imp.{1}, @forall_eq.{1}, @ne_eq.{1}, @cond_true.{1}, @cond_false.{1}, @Bool.false_eq_true⟩
end Go.Am
set_option linter.unusedSimpArgs false
set_option linter.unusedVariables false
set_option maxHeartbeats 1000000
namespace Go.Am.Ty
open Go.Proofs
open Enc (enc dec)
def tt : List (Nat × TI) := [(2, ⟨.int .i64, 1, 8, .d (.int .i64 0), .int .i64 0, []⟩), (3, ⟨.int .i64, 1, 8, .d (.int .i64 0), .int .i64 0, []⟩), (4, ⟨.bool, 1, 1, .d (.bool false), .bool false, []⟩), (5, ⟨.int .u8, 1, 1, .d (.int .u8 0), .int .u8 0, []⟩), (9, ⟨.str, 1, 16, .d (.str []), .str [], []⟩), (21, ⟨.int .i32, 1, 4, .d (.int .i32 0), .int .i32 0, []⟩), (22, ⟨.slice 44, 1, 24, .nils 7, .list 7 [], []⟩), (23, ⟨.slice 44, 1, 24, .nils 7, .list 7 [], []⟩), (24, ⟨.slice 39, 1, 24, .nils 3, .list 3 [], []⟩), (25, ⟨.slice 39, 1, 24, .nils 3, .list 3 [], []⟩), (26, ⟨.func, 1, 8, .d .nilf, .nilf, []⟩), (27, ⟨.func, 1, 8, .d .nilf, .nilf, []⟩), (28, ⟨.func, 1, 8, .d .nilf, .nilf, []⟩), (29, ⟨.func, 1, 8, .d .nilf, .nilf, []⟩), (31, ⟨.func, 1, 8, .d .nilf, .nilf, []⟩), (32, ⟨.func, 1, 8, .d .nilf, .nilf, []⟩), (33, ⟨.func, 1, 8, .d .nilf, .nilf, []⟩), (34, ⟨.slice 25, 1, 24, .nils 1, .list 1 [], []⟩), (35, ⟨.func, 1, 8, .d .nilf, .nilf, []⟩), (36, ⟨.func, 1, 8, .d .nilf, .nilf, []⟩), (37, ⟨.func, 1, 8, .d .nilf, .nilf, []⟩), (38, ⟨.struct [(0, 1), (1, 1), (2, 1)], 3, 32, .d (.agg [.int .i64 0, .str [], .int .i64 0]), .agg [.int .i64 0, .str [], .int .i64 0], [.int .i64, .str, .int .i64]⟩), (39, ⟨.struct [(0, 1), (1, 1), (2, 1)], 3, 32, .d (.agg [.int .i64 0, .str [], .int .i64 0]), .agg [.int .i64 0, .str [], .int .i64 0], [.int .i64, .str, .int .i64]⟩), (40, ⟨.slice 9, 1, 24, .nils 1, .list 1 [], []⟩), (42, ⟨.func, 1, 8, .d .nilf, .nilf, []⟩), (43, ⟨.struct [(0, 1), (1, 1), (2, 1), (3, 1), (4, 1), (5, 1), (6, 1)], 7, 104, .agg [.d (.int .i64 0), .d (.str []), .d (.str []), .d (.int .i64 0), .d (.int .i64 0), .nils 3, .nils 3], .agg [.int .i64 0, .str [], .str [], .int .i64 0, .int .i64 0, .list 3 [], .list 3 []], []⟩), (44, ⟨.struct [(0, 1), (1, 1), (2, 1), (3, 1), (4, 1), (5, 1), (6, 1)], 7, 104, .agg [.d (.int .i64 0), .d (.str []), .d (.str []), .d (.int .i64 0), .d (.int .i64 0), .nils 3, .nils 3], .agg [.int .i64 0, .str [], .str [], .int .i64 0, .int .i64 0, .list 3 [], .list 3 []], []⟩), (46, ⟨.func, 1, 8, .d .nilf, .nilf, []⟩), (47, ⟨.slice 23, 1, 24, .nils 1, .list 1 [], []⟩), (48, ⟨.func, 1, 8, .d .nilf, .nilf, []⟩), (49, ⟨.func, 1, 8, .d .nilf, .nilf, []⟩), (50, ⟨.func, 1, 8, .d .nilf, .nilf, []⟩), (52, ⟨.func, 1, 8, .d .nilf, .nilf, []⟩), (53, ⟨.func, 1, 8, .d .nilf, .nilf, []⟩), (54, ⟨.func, 1, 8, .d .nilf, .nilf, []⟩), (55, ⟨.func, 1, 8, .d .nilf, .nilf, []⟩), (56, ⟨.func, 1, 8, .d .nilf, .nilf, []⟩), (57, ⟨.func, 1, 8, .d .nilf, .nilf, []⟩), (58, ⟨.func, 1, 8, .d .nilf, .nilf, []⟩), (59, ⟨.slice 3, 1, 24, .nils 1, .list 1 [], []⟩), (60, ⟨.func, 1, 8, .d .nilf, .nilf, []⟩), (61, ⟨.func, 1, 8, .d .nilf, .nilf, []⟩), (62, ⟨.func, 1, 8, .d .nilf, .nilf, []⟩), (63, ⟨.func, 1, 8, .d .nilf, .nilf, []⟩), (64, ⟨.func, 1, 8, .d .nilf, .nilf, []⟩), (65, ⟨.func, 1, 8, .d .nilf, .nilf, []⟩), (66, ⟨.func, 1, 8, .d .nilf, .nilf, []⟩), (67, ⟨.func, 1, 8, .d .nilf, .nilf, []⟩), (68, ⟨.func, 1, 8, .d .nilf, .nilf, []⟩), (69, ⟨.func, 1, 8, .d .nilf, .nilf, []⟩), (70, ⟨.func, 1, 8, .d .nilf, .nilf, []⟩), (71, ⟨.func, 1, 8, .d .nilf, .nilf, []⟩), (72, ⟨.int .i64, 1, 8, .d (.int .i64 0), .int .i64 0, []⟩), (74, ⟨.func, 1, 8, .d .nilf, .nilf, []⟩), (75, ⟨.func, 1, 8, .d .nilf, .nilf, []⟩), (76, ⟨.func, 1, 8, .d .nilf, .nilf, []⟩), (77, ⟨.func, 1, 8, .d .nilf, .nilf, []⟩), (78, ⟨.func, 1, 8, .d .nilf, .nilf, []⟩), (79, ⟨.func, 1, 8, .d .nilf, .nilf, []⟩), (80, ⟨.func, 1, 8, .d .nilf, .nilf, []⟩), (81, ⟨.func, 1, 8, .d .nilf, .nilf, []⟩), (82, ⟨.func, 1, 8, .d .nilf, .nilf, []⟩), (83, ⟨.func, 1, 8, .d .nilf, .nilf, []⟩), (84, ⟨.func, 1, 8, .d .nilf, .nilf, []⟩), (85, ⟨.func, 1, 8, .d .nilf, .nilf, []⟩), (86, ⟨.func, 1, 8, .d .nilf, .nilf, []⟩), (87, ⟨.func, 1, 8, .d .nilf, .nilf, []⟩), (88, ⟨.struct [(0, 1), (1, 1), (2, 1)], 3, 56, .agg [.nils 3, .nils 3, .d .nilf], .agg [.list 3 [], .list 3 [], .nilf], []⟩), (89, ⟨.struct [(0, 1), (1, 1), (2, 1)], 3, 56, .agg [.nils 3, .nils 3, .d .nilf], .agg [.list 3 [], .list 3 [], .nilf], []⟩), (91, ⟨.func, 1, 8, .d .nilf, .nilf, []⟩), (92, ⟨.func, 1, 8, .d .nilf, .nilf, []⟩), (93, ⟨.func, 1, 8, .d .nilf, .nilf, []⟩), (94, ⟨.func, 1, 8, .d .nilf, .nilf, []⟩), (95, ⟨.func, 1, 8, .d .nilf, .nilf, []⟩), (96, ⟨.func, 1, 8, .d .nilf, .nilf, []⟩), (97, ⟨.func, 1, 8, .d .nilf, .nilf, []⟩), (98, ⟨.func, 1, 8, .d .nilf, .nilf, []⟩), (99, ⟨.func, 1, 8, .d .nilf, .nilf, []⟩), (100, ⟨.func, 1, 8, .d .nilf, .nilf, []⟩), (101, ⟨.struct [(0, 1), (1, 1), (2, 1), (3, 1)], 4, 40, .d (.agg [.nilp, .nilp, .nilp, .str []]), .agg [.nilp, .nilp, .nilp, .str []], []⟩), (102, ⟨.struct [(0, 1), (1, 1), (2, 1), (3, 1)], 4, 40, .d (.agg [.nilp, .nilp, .nilp, .str []]), .agg [.nilp, .nilp, .nilp, .str []], []⟩), (106, ⟨.func, 1, 8, .d .nilf, .nilf, []⟩), (107, ⟨.int .u32, 1, 4, .d (.int .u32 0), .int .u32 0, []⟩), (108, ⟨.int .u8, 1, 1, .d (.int .u8 0), .int .u8 0, []⟩), (109, ⟨.int .u8, 1, 1, .d (.int .u8 0), .int .u8 0, []⟩), (110, ⟨.func, 1, 8, .d .nilf, .nilf, []⟩), (111, ⟨.ptr 5, 1, 8, .d .nilp, .nilp, []⟩), (112, ⟨.int .i32, 1, 4, .d (.int .i32 0), .int .i32 0, []⟩), (113, ⟨.int .i32, 1, 4, .d (.int .i32 0), .int .i32 0, []⟩), (114, ⟨.struct [(0, 1), (1, 1), (2, 1), (3, 1), (4, 1), (5, 1), (6, 1), (7, 1), (8, 1), (9, 1), (10, 1)], 11, 48, .d (.agg [.int .u64 0, .int .u64 0, .int .u32 0, .int .u8 0, .int .u8 0, .int .u8 0, .int .u8 0, .nilf, .nilp, .int .i32 0, .int .i32 0]), .agg [.int .u64 0, .int .u64 0, .int .u32 0, .int .u8 0, .int .u8 0, .int .u8 0, .int .u8 0, .nilf, .nilp, .int .i32 0, .int .i32 0], []⟩), (115, ⟨.struct [(0, 1), (1, 1), (2, 1), (3, 1), (4, 1), (5, 1), (6, 1), (7, 1), (8, 1), (9, 1), (10, 1)], 11, 48, .d (.agg [.int .u64 0, .int .u64 0, .int .u32 0, .int .u8 0, .int .u8 0, .int .u8 0, .int .u8 0, .nilf, .nilp, .int .i32 0, .int .i32 0]), .agg [.int .u64 0, .int .u64 0, .int .u32 0, .int .u8 0, .int .u8 0, .int .u8 0, .int .u8 0, .nilf, .nilp, .int .i32 0, .int .i32 0], []⟩)]
def tab : Nat → TI := lkT tt
theorem Nx : tab 2 = ⟨.int .i64, 1, 8, .d (.int .i64 0), .int .i64 0, []⟩ := rfl
theorem U8 : tab 3 = ⟨.int .i64, 1, 8, .d (.int .i64 0), .int .i64 0, []⟩ := rfl
theorem Ku : tab 4 = ⟨.bool, 1, 1, .d (.bool false), .bool false, []⟩ := rfl
theorem tab5 : tab 5 = ⟨.int .u8, 1, 1, .d (.int .u8 0), .int .u8 0, []⟩ := rfl
theorem Kq : tab 9 = ⟨.str, 1, 16, .d (.str []), .str [], []⟩ := rfl
theorem tab21 : tab 21 = ⟨.int .i32, 1, 4, .d (.int .i32 0), .int .i32 0, []⟩ := rfl
theorem Kc : tab 23 = ⟨.slice 44, 1, 24, .nils 7, .list 7 [], []⟩ := rfl
theorem U4 : tab 25 = ⟨.slice 39, 1, 24, .nils 3, .list 3 [], []⟩ := rfl
theorem Kr : tab 34 = ⟨.slice 25, 1, 24, .nils 1, .list 1 [], []⟩ := rfl
theorem U3 : tab 39 = ⟨.struct [(0, 1), (1, 1), (2, 1)], 3, 32, .d (.agg [.int .i64 0, .str [], .int .i64 0]), .agg [.int .i64 0, .str [], .int .i64 0], [.int .i64, .str, .int .i64]⟩ := rfl
theorem My : tab 40 = ⟨.slice 9, 1, 24, .nils 1, .list 1 [], []⟩ := rfl
theorem Kb : tab 44 = ⟨.struct [(0, 1), (1, 1), (2, 1), (3, 1), (4, 1), (5, 1), (6, 1)], 7, 104, .agg [.d (.int .i64 0), .d (.str []), .d (.str []), .d (.int .i64 0), .d (.int .i64 0), .nils 3, .nils 3], .agg [.int .i64 0, .str [], .str [], .int .i64 0, .int .i64 0, .list 3 [], .list 3 []], []⟩ := rfl
theorem Gg : tab 47 = ⟨.slice 23, 1, 24, .nils 1, .list 1 [], []⟩ := rfl
theorem H9 : tab 59 = ⟨.slice 3, 1, 24, .nils 1, .list 1 [], []⟩ := rfl
theorem tab66 : tab 66 = ⟨.func, 1, 8, .d .nilf, .nilf, []⟩ := rfl
theorem Hi : tab 67 = ⟨.func, 1, 8, .d .nilf, .nilf, []⟩ := rfl
theorem tab71 : tab 71 = ⟨.func, 1, 8, .d .nilf, .nilf, []⟩ := rfl
theorem tab72 : tab 72 = ⟨.int .i64, 1, 8, .d (.int .i64 0), .int .i64 0, []⟩ := rfl
theorem tab78 : tab 78 = ⟨.func, 1, 8, .d .nilf, .nilf, []⟩ := rfl
theorem tab87 : tab 87 = ⟨.func, 1, 8, .d .nilf, .nilf, []⟩ := rfl
theorem tab89 : tab 89 = ⟨.struct [(0, 1), (1, 1), (2, 1)], 3, 56, .agg [.nils 3, .nils 3, .d .nilf], .agg [.list 3 [], .list 3 [], .nilf], []⟩ := rfl
theorem K6 : B6 Tryz.prog tab := tabOk_of (by kernel_rfl)
theorem Ki : Tryz.prog.follows .mixedOrders = true := by kernel_rfl
instance encU8 : Enc UInt8 := ⟨fun b => .int .u8 b.toNat, fun x => UInt8.ofNat x.i.toNat, fun b => by simp [D.i]⟩
instance szU8 : Sz UInt8 := ⟨1⟩
theorem enc_U8 {b : UInt8} : (enc b : D) = .int .u8 b.toNat := rfl
theorem isE_U8 {b : UInt8} : isE UInt8 (.int .u8 b.toNat) = True := eq_true (Lf b)
theorem dec_U8 {b : UInt8} : (dec (.int .u8 b.toNat) : UInt8) = b := Enc.dec_enc b
def Ax (c a b : UInt8) : Bool := decide (a ≤ c) && decide (c ≤ b)
theorem le_u8 {a b : UInt8} : leB (a.toNat : Int) (b.toNat : Int) = decide (a ≤ b) := by
  unfold leB
  congr 1
  rw [UInt8.le_iff_toNat_le]
  exact propext (by omega)
def Pc : Con := con3 (fun (_ _ _ : UInt8) => True) (fun c a b => Ax c a b)
noncomputable def ctx_within : Ctx := ⟨tab, lkC [], 60, lkB [], [], false⟩
theorem ctx_within_t : ctx_within.τ = tab := rfl
theorem ctx_within_d : ctx_within.dp = 60 := rfl
theorem good_within : Gj Tryz.prog (86, Pc) := by
  refine ⟨U7 Tryz.func86 (by kernel_rfl) rfl, ?_⟩
  have K : Ky Tryz.prog ctx_within := Kd K6 Ki (by simp) (by simp)
  obtain ⟨c, hc⟩ : ∃ c, Tryz.f86.body = some c := ⟨_, rfl⟩
  refine Ke K Tryz.func86 hc [.tmp 6] rfl 15 rfl (fun cvs hpre => ?_)
  change Pc.pre cvs at hpre
  unfold Pc at hpre
  obtain ⟨x, y, z, rfl, -⟩ := con3_pre hpre
  simp only [Tryz.f86, Option.some.injEq] at hc
  subst hc
  (sym =>
   simp [enc_U8,isE_U8,dec_U8,le_u8,ctx_within_t,ctx_within_d,Pc.eq_def,Za,Zb,Zc,Zd,Ze,Zf,Zt,Qb,Qd,Qn,Qo,Qp,Qq,Qs,Q1,Q2,Q4,Q8,Jk,Jw,J3,J4,Xf,Xw,X4,X6,Wb,Wc,Wf,Wh,Wi,Wt,Wu,Wv,Ww,Wy,W0,W6,W7,W8,W9,Ye,Yi,Yy,Y7,Y8,Y9,Va,Vb,Vc,V5,Uk,Ul,Um,Un,tab5]
   tactic =>
    try simp only [U1] at *
    try simp only [nc2] at *
    try simp (maxSteps := 4000000) only [enc_U8,isE_U8,dec_U8,le_u8,U9]
    repeat' (first | with_reducible assumption | with_reducible refine And.intro ?_ ?_ | intro _ | omega | (rw [U0]; omega))
    · rename_i h
      unfold Ax
      simp [h]
    · rename_i h
      unfold Ax
      rw [decide_eq_false h]
      rfl)
def behind (c : UInt8) : Bool := Ax c 97 122 || Ax c 65 90 || Ax c 48 57 || c == 95
theorem eq_u8 {a b : UInt8} : ((a.toNat : Int) == (b.toNat : Int)) = (a == b) := by
  rw [Bool.eq_iff_iff, beq_iff_eq, beq_iff_eq]
  constructor
  · intro h; exact UInt8.toNat_inj.1 (by omega)
  · intro h; rw [h]
theorem b97 : D.int .u8 97 = enc (97 : UInt8) := rfl
theorem b122 : D.int .u8 122 = enc (122 : UInt8) := rfl
theorem b65 : D.int .u8 65 = enc (65 : UInt8) := rfl
theorem b90 : D.int .u8 90 = enc (90 : UInt8) := rfl
theorem b48 : D.int .u8 48 = enc (48 : UInt8) := rfl
theorem b57 : D.int .u8 57 = enc (57 : UInt8) := rfl
theorem u8_enc {b : UInt8} : (.int .u8 b.toNat : D) = enc b := rfl
theorem Fv {k : IntKind} {x : UInt8} : D.isInt k (enc x) = (.u8 = k) := rfl
theorem i_U8 {x : UInt8} : D.i (enc x) = x.toNat := rfl
theorem Ot {s : Nat} {x : UInt8} : D.fits s (enc x) = (s = 1) := rfl
theorem O4 {f : Nat} {x : UInt8} : D.cell (enc x) f = enc x := rfl
theorem eq95 {x : UInt8} : ((x.toNat : Int) == 95) = (x == 95) := eq_u8 (b := 95)
def Da : Con := Ss (fun (_ : UInt8) => True) (fun c => behind c)
noncomputable def I0 : Ctx := ⟨tab, lkC [(86, Pc)], 60, lkB [], [], false⟩
theorem ctx_behind_t : I0.τ = tab := rfl
theorem ctx_behind_c : I0.Γ = lkC [(86, Pc)] := rfl
theorem ctx_behind_d : I0.dp = 60 := rfl
theorem ctx_behind_b : I0.Δ = lkB [] := rfl
theorem good_behind : Gj Tryz.prog (98, Da) := by
  refine ⟨U7 Tryz.func98 (by kernel_rfl) rfl, ?_⟩
  have K : Ky Tryz.prog I0 := Kd K6 Ki (by
    intro p hp
    simp only [List.mem_cons, List.not_mem_nil, or_false] at hp
    rcases hp with rfl
    · exact good_within) (by simp)
  obtain ⟨c, hc⟩ : ∃ c, Tryz.f98.body = some c := ⟨_, rfl⟩
  refine Ke K Tryz.func98 hc [.tmp 2] rfl 17 rfl (fun cvs hpre => ?_)
  change Da.pre cvs at hpre
  unfold Da at hpre
  obtain ⟨x, rfl, -⟩ := Ha hpre
  simp only [Tryz.f98, Option.some.injEq] at hc
  subst hc
  (sym =>
   simp [b97,b122,b65,b90,b48,b57,u8_enc,Fv,i_U8,Ot,O4,le_u8,eq95,ctx_behind_t,ctx_behind_c,ctx_behind_d,ctx_behind_b,Da.eq_def,Pc.eq_def,Za,Zb,Zc,Zd,Ze,Zf,Zt,Z9,Qb,Qd,Qe,Qf,Qn,Qo,Qp,Qq,Qs,Q1,Q2,Q4,Q8,Jf,Jj,Jk,Jl,Jw,J3,J4,Xf,Xu,Xw,X4,X6,Wb,Wc,Wf,Wh,Wi,Wt,Wu,Wv,Ww,Wx,Wy,Wz,W0,W6,W7,W8,W9,Ye,Yi,Yy,Y7,Y8,Y9,Va,Vb,Vc,Vj,Vo,V4,V5,Uk,Ul,Um,Un,tab5]
   tactic =>
    try simp only [U1] at *
    try simp only [nc2] at *
    try simp (maxSteps := 4000000) only [b97,b122,b65,b90,b48,b57,u8_enc,Fv,i_U8,Ot,O4,le_u8,eq95,U9]
    unfold behind
    refine ⟨fun h1 => ⟨fun h2 => ⟨fun h3 => ?_, fun h3 => ?_⟩, fun h2 => ?_⟩, fun h1 => ?_⟩
    all_goals simp only [*, Bool.false_or, Bool.true_or, Bool.or_true])
def Dx (s : List UInt8) : Bool := s.all behind
theorem drop1_getD {s : List UInt8} {j : Nat} : (s.drop 1).getD j 0 = s.getD (j + 1) 0 := by
  simp [List.getD_eq_getElem?_getD,Nat.add_comm]
def Cy : Con := Ss (fun (s : List UInt8) => s.length ≤ 9223372036854775807) (fun s => Dx (s.drop 1))
noncomputable def ctx_all1 : Ctx := ⟨tab, lkC [(98, Da)], 60, lkB [], [], false⟩
theorem ctx_all1_t : ctx_all1.τ = tab := rfl
theorem ctx_all1_c : ctx_all1.Γ = lkC [(98, Da)] := rfl
theorem ctx_all1_d : ctx_all1.dp = 60 := rfl
theorem ctx_all1_b : ctx_all1.Δ = lkB [] := rfl
theorem ctx_all1_w : ctx_all1.wr = false := rfl
theorem good_all1 : Gj Tryz.prog (87, Cy) := by
  refine ⟨U7 Tryz.func87 (by kernel_rfl) rfl, ?_⟩
  have K : Ky Tryz.prog ctx_all1 := Kd K6 Ki (by
    intro p hp
    simp only [List.mem_cons, List.not_mem_nil, or_false] at hp
    rcases hp with rfl
    · exact good_behind) (by simp)
  obtain ⟨c, hc⟩ : ∃ c, Tryz.f87.body = some c := ⟨_, rfl⟩
  refine Ke K Tryz.func87 hc [.tmp 2] rfl 15 rfl (fun cvs hpre => ?_)
  change Cy.pre cvs at hpre
  unfold Cy at hpre
  obtain ⟨s, rfl, hs⟩ := Ha hpre
  simp only [Tryz.f87, Option.some.injEq] at hc
  subst hc
  (sym =>
   simp [Cy.eq_def,Za,Zb,Zc,Ze,Zf,Qq,Qs,Q1,Q2,Q4,Jw,J3,J4,Xu,X4,X6,X8,X9,Wc,Wf,Wh,Wt,Wu,Wv,Ww,Wy,W0,W6,W7,Yy,Yz,Y9,Va,Vb,Vc,Vi,V4,V5,Um,U8,Ku,Kq]
   tactic =>
    try simp only [U1] at *
    try simp only [nc2] at *
    try simp (maxSteps := 4000000) only [U9]
    refine Km [2, 4, 5, 6, 7, 8, 9, 10, 11, 12, 13, 14] (fun k : Nat => [(3, .d (.int .i64 k))]) (fun k : Nat => []) (fun k : Nat => 1 ≤ k ∧ (k = 1 ∨ k ≤ s.length) ∧ ∀ j, 1 ≤ j → j < k → behind (s.getD j 0) = true) (fun k : Nat => s.length - k) 1 ?_ ?_ ?_
    · simp
      omega
    · ((try simp only [U2, Ka, U6, Kg, upd, Kh, Ko, Gd, Nat.reduceDiv, Nat.reduceMod, Nat.reduceMul, Nat.reduceAdd, Nat.reduceEqDiff, List.set_cons_zero, List.set_cons_succ, if_true, if_false, reduceIte]); (first | refine Wk.of_fl ?_ | skip); simp only [Wk, wkK, Gl, wkT, wk1, AV.kept, keptAll, wkO, lk, U5, and_true, true_and, and_self, Nat.reduceEqDiff, Nat.reduceLeDiff, if_true, if_false, reduceIte, reduceCtorEq, Option.isSome, false_implies]; try simp [Wk, wkK, wkT, wk1, AV.kept, keptAll, wkO, lk, U5])
    rintro k ⟨hk1, hk, hno⟩
    rcases Ks k s.length with ⟨hlt, hlb⟩ | ⟨hlt, hlb⟩
    · (sym =>
       simp [hlb,u8_enc,Fv,i_U8,Ot,O4,le_u8,ctx_all1_t,ctx_all1_c,ctx_all1_d,ctx_all1_b,ctx_all1_w,Da.eq_def,Zb,Zc,Ze,Zf,Zg,Zz,Z6,Z9,Qb,Qc,Qd,Qe,Qf,Qn,Qo,Qp,Qq,Qs,Q1,Q2,Q4,Q8,Jf,Jj,Jk,Jl,Jy,Jz,J0,Xf,Xu,X3,X4,X6,X7,X8,Wb,Wc,Wf,Wh,Wi,Wt,Wu,Wx,Wz,W0,Yd,Ye,Yf,Yg,Yi,Yj,Yk,Ym,Yy,Y7,Y8,Y9,Va,Vj,Vo,Vr,Vt,V4,V5,Uk,Um,Un,Uo,U8,Ku,Kq]
       tactic =>
        try simp only [U1] at *
        try simp only [nc2] at *
        try simp (maxSteps := 4000000) only [hlb,u8_enc,Fv,i_U8,Ot,O4,le_u8,U9]
        repeat' (first | with_reducible assumption | with_reducible refine And.intro ?_ ?_ | intro _ | omega | (rw [U0]; omega))
        · rename_i hb
          unfold Dx
          rw [all_not (p := behind) 0 (k - 1) (by rw [List.length_drop]; omega) (by rw [drop1_getD, show k - 1 + 1 = k by omega]; exact hb)]
        · rename_i hb
          refine ⟨k + 1, by ((try simp only [U2, Ka, U6, Kg, upd, Kh, Ko, Gd, Nat.reduceDiv, Nat.reduceMod, Nat.reduceMul, Nat.reduceAdd, Nat.reduceEqDiff, List.set_cons_zero, List.set_cons_succ, if_true, if_false, reduceIte]); (first | refine Wk.of_fl ?_ | skip); simp only [Wk, wkK, Gl, wkT, wk1, AV.kept, keptAll, wkO, lk, U5, and_true, true_and, and_self, Nat.reduceEqDiff, Nat.reduceLeDiff, if_true, if_false, reduceIte, reduceCtorEq, Option.isSome, false_implies]; try simp [Wk, wkK, wkT, wk1, AV.kept, keptAll, wkO, lk, U5]), by omega, by omega, fun j h1 hj => ?_, by omega⟩
          by_cases hjk : j = k
          · subst hjk; exact hb
          · exact hno j h1 (by omega))
    · (sym =>
       simp [hlb,ctx_all1_t,ctx_all1_d,Zb,Zc,Ze,Zf,Zg,Z6,Qb,Qd,Qn,Qo,Qp,Qq,Qs,Q1,Q2,Q4,Q8,Jk,Jy,Jz,J0,Xf,X4,X6,X7,Wa,Wb,Wc,Wf,Wh,Wi,Wt,Wu,Yd,Ye,Yg,Yi,Yk,Y7,Y8,Y9,Va,Vt,V5,Ul,Um,Un,Uo,U8,Ku,Kq]
       tactic =>
        try simp only [U1] at *
        try simp only [nc2] at *
        try simp (maxSteps := 4000000) only [hlb,U9]
        unfold Dx
        rw [all_of_lt (p := behind) 0 fun j hj => ?_]
        rw [drop1_getD]
        rw [List.length_drop] at hj
        exact hno (j + 1) (by omega) (by omega)))
def D2 (s : List UInt8) : Bool := match s with
  | [] => false
  | c :: r => Ax c 97 122 && Dx r
def isTag (s : List UInt8) : Bool := match s with
  | [] => false
  | c :: r => Ax c 65 90 && Dx r
def Ng : Con := Ss (fun (s : List UInt8) => s.length ≤ 9223372036854775807) (fun s => D2 s)
noncomputable def Rb : Ctx := ⟨tab, lkC [(86, Pc), (87, Cy)], 60, lkB [], [], false⟩
theorem ctx_IsWord1_t : Rb.τ = tab := rfl
theorem ctx_IsWord1_c : Rb.Γ = lkC [(86, Pc), (87, Cy)] := rfl
theorem ctx_IsWord1_d : Rb.dp = 60 := rfl
theorem ctx_IsWord1_b : Rb.Δ = lkB [] := rfl
theorem good_IsWord1 : Gj Tryz.prog (68, Ng) := by
  refine ⟨U7 Tryz.func68 (by kernel_rfl) rfl, ?_⟩
  have K : Ky Tryz.prog Rb := Kd K6 Ki (by
    intro p hp
    simp only [List.mem_cons, List.not_mem_nil, or_false] at hp
    rcases hp with rfl | rfl
    · exact good_within
    · exact good_all1) (by simp)
  obtain ⟨c, hc⟩ : ∃ c, Tryz.f68.body = some c := ⟨_, rfl⟩
  refine Ke K Tryz.func68 hc [.tmp 2] rfl 15 rfl (fun cvs hpre => ?_)
  change Ng.pre cvs at hpre
  unfold Ng at hpre
  obtain ⟨s, rfl, hs⟩ := Ha hpre
  simp only [Tryz.f68, Option.some.injEq] at hc
  subst hc
  (sym =>
   simp [u8_enc,Fv,i_U8,Ot,O4,le_u8,b97,b122,ctx_IsWord1_t,ctx_IsWord1_c,ctx_IsWord1_d,ctx_IsWord1_b,Ng.eq_def,Cy.eq_def,Pc.eq_def,Za,Zb,Zc,Zd,Ze,Zf,Zt,Zz,Z6,Z9,Qb,Qd,Qe,Qf,Qn,Qo,Qp,Qq,Qs,Q1,Q2,Q4,Q8,Jf,Jj,Jk,Jl,Jw,J3,J4,Xf,Xu,Xw,X4,X6,Wb,Wc,Wf,Wh,Wi,Wt,Wu,Wv,Ww,Wx,Wy,Wz,W0,W6,W7,W8,W9,Ye,Yg,Yi,Yk,Ym,Yy,Yz,Y7,Y8,Y9,Va,Vb,Vc,Vi,Vj,Vn,Vo,Vs,V4,V5,Uk,Ul,Um,Un,U8,Kq]
   tactic =>
    try simp only [U1] at *
    try simp only [nc2] at *
    try simp (maxSteps := 4000000) only [u8_enc,Fv,i_U8,Ot,O4,le_u8,b97,b122,U9]
    cases s with
    | nil => simp [D2]
    | cons c r =>
      simp only [List.length_cons] at hs
      simp only [List.length_cons, D2, Int.toNat_zero, List.getD_cons_zero, List.drop_succ_cons, List.drop_zero]
      repeat' (first | with_reducible assumption | with_reducible refine And.intro ?_ ?_ | intro _ | omega | (rw [U0]; omega))
      all_goals simp_all)
def B4 : Con := Ss (fun (s : List UInt8) => s.length ≤ 9223372036854775807) (fun s => isTag s)
noncomputable def I3 : Ctx := ⟨tab, lkC [(86, Pc), (87, Cy)], 60, lkB [], [], false⟩
theorem ctx_IsTag1_t : I3.τ = tab := rfl
theorem ctx_IsTag1_c : I3.Γ = lkC [(86, Pc), (87, Cy)] := rfl
theorem ctx_IsTag1_d : I3.dp = 60 := rfl
theorem ctx_IsTag1_b : I3.Δ = lkB [] := rfl
theorem good_IsTag1 : Gj Tryz.prog (84, B4) := by
  refine ⟨U7 Tryz.func84 (by kernel_rfl) rfl, ?_⟩
  have K : Ky Tryz.prog I3 := Kd K6 Ki (by
    intro p hp
    simp only [List.mem_cons, List.not_mem_nil, or_false] at hp
    rcases hp with rfl | rfl
    · exact good_within
    · exact good_all1) (by simp)
  obtain ⟨c, hc⟩ : ∃ c, Tryz.f84.body = some c := ⟨_, rfl⟩
  refine Ke K Tryz.func84 hc [.tmp 2] rfl 15 rfl (fun cvs hpre => ?_)
  change B4.pre cvs at hpre
  unfold B4 at hpre
  obtain ⟨s, rfl, hs⟩ := Ha hpre
  simp only [Tryz.f84, Option.some.injEq] at hc
  subst hc
  (sym =>
   simp [u8_enc,Fv,i_U8,Ot,O4,le_u8,b65,b90,ctx_IsTag1_t,ctx_IsTag1_c,ctx_IsTag1_d,ctx_IsTag1_b,B4.eq_def,Cy.eq_def,Pc.eq_def,Za,Zb,Zc,Zd,Ze,Zf,Zt,Zz,Z6,Z9,Qb,Qd,Qe,Qf,Qn,Qo,Qp,Qq,Qs,Q1,Q2,Q4,Q8,Jf,Jj,Jk,Jl,Jw,J3,J4,Xf,Xu,Xw,X4,X6,Wb,Wc,Wf,Wh,Wi,Wt,Wu,Wv,Ww,Wx,Wy,Wz,W0,W6,W7,W8,W9,Ye,Yg,Yi,Yk,Ym,Yy,Yz,Y7,Y8,Y9,Va,Vb,Vc,Vi,Vj,Vn,Vo,Vs,V4,V5,Uk,Ul,Um,Un,U8,Kq]
   tactic =>
    try simp only [U1] at *
    try simp only [nc2] at *
    try simp (maxSteps := 4000000) only [u8_enc,Fv,i_U8,Ot,O4,le_u8,b65,b90,U9]
    cases s with
    | nil => simp [isTag]
    | cons c r =>
      simp only [List.length_cons] at hs
      simp only [List.length_cons, isTag, Int.toNat_zero, List.getD_cons_zero, List.drop_succ_cons, List.drop_zero]
      repeat' (first | with_reducible assumption | with_reducible refine And.intro ?_ ?_ | intro _ | omega | (rw [U0]; omega))
      all_goals simp_all)
structure Node where
  kind : Int
  name : List UInt8
  n : Int
  deriving DecidableEq
instance encNode : Enc Node := ⟨fun a => .agg [.int .i64 a.kind, .str a.name, .int .i64 a.n], fun x => match x with
  | .agg [a, b, c] => ⟨a.i, b.s, c.i⟩
  | _ => ⟨0, [], 0⟩, fun a => rfl⟩
instance szNode : Sz Node := ⟨3⟩
theorem szN : Sz.sz Node = 3 := rfl
theorem Uu {n : Node} : (enc n : D) = .agg [.int .i64 n.kind, .str n.name, .int .i64 n.n] := rfl
theorem Uv {a : Int} {b : List UInt8} {c : Int} : (dec (.agg [.int .i64 a, .str b, .int .i64 c]) : Node) = ⟨a, b, c⟩ := rfl
theorem Us {a : Int} {b : List UInt8} {c : Int} : isE Node (.agg [.int .i64 a, .str b, .int .i64 c]) = True := eq_true rfl
theorem Ut {a b : Node} : ((a.kind == b.kind) && ((a.name == b.name) && (a.n == b.n))) = (a == b) := by
  rw [Bool.eq_iff_iff]
  cases a; cases b
  simp
theorem Ur {n : Node} : Node.mk n.kind n.name n.n = n := rfl
def Pu (n : Node) : Int := if n.kind = 5 then 2 else if n.kind = 6 ∨ n.kind = 7 then n.n else 0
def N0 : Con := Ss (fun (_ : Node) => True) (fun n => Pu n)
noncomputable def ctx_many3 : Ctx := ⟨tab, lkC [], 60, lkB [], [], false⟩
theorem ctx_many3_t : ctx_many3.τ = tab := rfl
theorem ctx_many3_d : ctx_many3.dp = 60 := rfl
theorem good_many3 : Gj Tryz.prog (69, N0) := by
  refine ⟨U7 Tryz.func69 (by kernel_rfl) rfl, ?_⟩
  have K : Ky Tryz.prog ctx_many3 := Kd K6 Ki (by simp) (by simp)
  obtain ⟨c, hc⟩ : ∃ c, Tryz.f69.body = some c := ⟨_, rfl⟩
  refine Ke K Tryz.func69 hc [.tmp 2] rfl 16 rfl (fun cvs hpre => ?_)
  change N0.pre cvs at hpre
  unfold N0 at hpre
  obtain ⟨n, rfl, -⟩ := Ha hpre
  simp only [Tryz.f69, Option.some.injEq] at hc
  subst hc
  (sym =>
   simp [Uu,Us,Uv,Ur,szN,Ut,ctx_many3_t,ctx_many3_d,N0.eq_def,Za,Zb,Zc,Zd,Ze,Zf,Zo,Zp,Zq,Zs,Zt,Zu,Zv,Zx,Qb,Qd,Ql,Qm,Qn,Qo,Qp,Qq,Qs,Q1,Q2,Q4,Q8,Jh,Ji,Jk,Jw,J3,J4,Xf,Xs,Xu,X3,X4,X6,X7,Wb,Wc,Wf,Wh,Wi,Wj,Wt,Wu,Wv,Ww,Wy,W0,W4,W5,W6,W7,W8,W9,Ye,Yi,Yq,Yx,Y7,Y8,Y9,Va,Vb,Vc,V4,V5,Uk,Ul,Um,Un,U8,U3]
   tactic =>
    try simp only [U1] at *
    try simp only [nc2] at *
    try simp (maxSteps := 4000000) only [Uu,Us,Uv,Ur,szN,Ut,U9]
    unfold Pu
    refine ⟨fun h => by rw [if_pos h], fun h => ⟨fun h6 => ⟨fun h7 => by rw [if_neg h, if_pos (.inr h7)], fun h7 => by rw [if_neg h, if_neg (by omega)]⟩, fun h6 => by rw [if_neg h, if_pos (.inl h6)]⟩⟩)
def B5 (n : Node) : Bool :=
  if n.kind = 0 ∨ n.kind = 8 ∨ n.kind = 9 then decide (0 ≤ n.n)
  else if 1 ≤ n.kind ∧ n.kind ≤ 5 then decide (n.n = 0)
  else if n.kind = 6 then decide (0 ≤ n.n) && decide (n.n ≤ 50)
  else if n.kind = 7 then decide (1 ≤ n.n) && decide (n.n ≤ 50)
  else false
def Pn : Con := Ss (fun (_ : Node) => True) (fun n => B5 n)
noncomputable def ctx_numbered3 : Ctx := ⟨tab, lkC [], 60, lkB [], [], false⟩
theorem ctx_numbered3_t : ctx_numbered3.τ = tab := rfl
theorem ctx_numbered3_d : ctx_numbered3.dp = 60 := rfl
set_option maxRecDepth 100000 in
theorem good_numbered3 : Gj Tryz.prog (63, Pn) := by
  refine ⟨U7 Tryz.func63 (by kernel_rfl) rfl, ?_⟩
  have K : Ky Tryz.prog ctx_numbered3 := Kd K6 Ki (by simp) (by simp)
  obtain ⟨c, hc⟩ : ∃ c, Tryz.f63.body = some c := ⟨_, rfl⟩
  refine Ke K Tryz.func63 hc [.tmp 2] rfl 41 rfl (fun cvs hpre => ?_)
  change Pn.pre cvs at hpre
  unfold Pn at hpre
  obtain ⟨n, rfl, -⟩ := Ha hpre
  simp only [Tryz.f63, Option.some.injEq] at hc
  subst hc
  refine Kw 2 (of_decide_eq_true (by kernel_rfl)) ?_
  (sym =>
   simp [Uu,Us,Uv,Ur,szN,Ut,ctx_numbered3_t,ctx_numbered3_d,Pn.eq_def,Zb,Zc,Zd,Ze,Zf,Zg,Zo,Zp,Zq,Zs,Zt,Zu,Zv,Zx,Qb,Qd,Ql,Qm,Qn,Qo,Qp,Qq,Qs,Q1,Q2,Q4,Q8,Jh,Ji,Jk,Jw,J3,J4,J5,J6,J7,J8,J9,Xa,Xb,Xc,Xf,Xn,Xo,Xs,Xu,X3,X4,X6,X7,X8,Wb,Wc,Wf,Wh,Wi,Wj,Wt,Wu,Wv,Ww,Wy,W0,W4,W5,W6,W7,W8,W9,Ya,Yb,Ye,Yi,Yq,Yy,Y7,Y8,Y9,Va,Vb,Vc,Vd,Ve,Vf,Vg,Vt,V4,V5,Uk,Ul,Um,Un,U8,U3]
   tactic =>
    try simp only [U1] at *
    try simp only [nc2] at *
    try simp (maxSteps := 4000000) only [Uu,Us,Uv,Ur,szN,Ut,U9]
    unfold B5
    repeat' (first | with_reducible assumption | with_reducible refine And.intro ?_ ?_ | intro _ | omega | (rw [U0]; omega))
    all_goals repeat (first | rw [if_pos (by omega)] | rw [if_neg (by omega)])
    all_goals try unfold leB
    all_goals try unfold ltB
    all_goals rw [Bool.eq_iff_iff]
    all_goals simp only [Bool.and_eq_true, Bool.or_eq_true, decide_eq_true_eq, beq_iff_eq, Bool.false_eq_true, iff_self, false_iff, iff_false, true_iff, iff_true]
    all_goals omega)
def eat : List Node → Int → Nat
  | [], _ => 0
  | n :: l, o => if o - 1 + Pu n = 0 then 1 else 1 + eat l (o - 1 + Pu n)
def end3 (t : List Node) (i : Int) : Int := if i < 0 ∨ (t.length : Int) ≤ i then -1 else i + eat (t.drop i.toNat) 1
def Tame (t : List Node) : Prop := t.length ≤ 100000 ∧ ∀ n ∈ t, 0 ≤ Pu n ∧ Pu n ≤ 50
def Pz : Con := Bg (fun (t : Sl Node) (i : Int) => Tame t.l ∧ inR .i64 i) (fun t i => end3 t.l i)
noncomputable def ctx_End3 : Ctx := ⟨tab, lkC [(69, N0)], 60, lkB [], [], false⟩
theorem ctx_End3_t : ctx_End3.τ = tab := rfl
theorem ctx_End3_c : ctx_End3.Γ = lkC [(69, N0)] := rfl
theorem ctx_End3_d : ctx_End3.dp = 60 := rfl
theorem ctx_End3_b : ctx_End3.Δ = lkB [] := rfl
theorem ctx_End3_w : ctx_End3.wr = false := rfl
theorem good_End3 : Gj Tryz.prog (64, Pz) := by
  refine ⟨U7 Tryz.func64 (by kernel_rfl) rfl, ?_⟩
  have K : Ky Tryz.prog ctx_End3 := Kd K6 Ki (by
    intro p hp
    simp only [List.mem_cons, List.not_mem_nil, or_false] at hp
    rcases hp with rfl
    · exact good_many3) (by simp)
  obtain ⟨c, hc⟩ : ∃ c, Tryz.f64.body = some c := ⟨_, rfl⟩
  refine Ke K Tryz.func64 hc [.tmp 4] rfl 36 rfl (fun cvs hpre => ?_)
  change Pz.pre cvs at hpre
  unfold Pz at hpre
  obtain ⟨⟨t⟩, i, rfl, ⟨ht, hm⟩, hi⟩ := Gi hpre
  simp only at ht hm
  rw [U0] at hi
  simp only [Tryz.f64, Option.some.injEq] at hc
  subst hc
  refine Kw 2 (of_decide_eq_true (by kernel_rfl)) ?_
  (sym =>
   simp [Uu,Us,Uv,Ur,szN,Ut,ctx_End3_t,ctx_End3_d,Pz.eq_def,Zb,Zc,Zd,Ze,Zf,Zo,Zt,Z6,Qb,Qd,Qn,Qo,Qp,Qq,Qs,Q1,Q2,Q4,Q8,Jk,Jw,J3,J4,J5,J6,J8,Xb,Xf,Xn,Xo,Xv,X3,X4,X6,X7,X8,X9,Wb,Wc,Wf,Wh,Wi,Wj,Wt,Wu,Wv,Ww,Wy,W0,W6,W7,W8,W9,Ya,Yb,Ye,Yi,Yx,Y0,Y1,Y7,Y8,Vb,Vc,Vd,Ve,Vf,Vg,Vh,Vj,Vt,Vu,V4,V5,Uk,Ul,Um,Un,Up,U8,U4,U3]
   tactic =>
    try simp only [U1] at *
    try simp only [nc2] at *
    try simp (maxSteps := 4000000) only [Uu,Us,Uv,Ur,szN,Ut,U9]
    repeat' (first | with_reducible assumption | with_reducible refine And.intro ?_ ?_ | intro _ | omega | (rw [U0]; omega))
    · unfold end3
      rw [if_pos (.inr ‹_›)]
    · obtain ⟨i, rfl⟩ : ∃ n : Nat, i = n := ⟨i.toNat, by omega⟩
      have hil : i < t.length := by omega
      have e0 : end3 t i = i + eat (t.drop i) 1 := by
        unfold end3
        rw [if_neg (by omega)]
        rfl
      refine Km [4, 16, 17, 18, 19, 20, 21, 22, 23, 24, 25, 26, 27, 28, 29, 30, 31, 32, 33] (fun p : Nat × Int => [(5, .d (.int .i64 p.2)), (6, .d (.int .i64 p.1))]) (fun p : Nat × Int => []) (fun p : Nat × Int => i ≤ p.1 ∧ p.1 ≤ t.length ∧ 1 ≤ p.2 ∧ p.2 ≤ 1 + 50 * p.1 ∧ i + eat (t.drop i) 1 = p.1 + eat (t.drop p.1) p.2) (fun p : Nat × Int => t.length - p.1) (i, 1) ?_ ?_ ?_
      · exact ⟨Nat.le_refl _, by simp only; omega, by simp, by simp only; omega, rfl⟩
      · ((try simp only [U2, Ka, U6, Kg, upd, Kh, Ko, Gd, Nat.reduceDiv, Nat.reduceMod, Nat.reduceMul, Nat.reduceAdd, Nat.reduceEqDiff, List.set_cons_zero, List.set_cons_succ, if_true, if_false, reduceIte]); (first | refine Wk.of_fl ?_ | skip); simp only [Wk, wkK, Gl, wkT, wk1, AV.kept, keptAll, wkO, lk, U5, and_true, true_and, and_self, Nat.reduceEqDiff, Nat.reduceLeDiff, if_true, if_false, reduceIte, reduceCtorEq, Option.isSome, false_implies]; try simp [Wk, wkK, wkT, wk1, AV.kept, keptAll, wkO, lk, U5])
      rintro ⟨k, o⟩ ⟨h1, h2, h3, h4, h5⟩
      simp only at h1 h2 h3 h4 h5
      rcases Ks k t.length with ⟨hlt, hlb⟩ | ⟨hlt, hlb⟩
      · have hmk := hm (t.getD k ⟨0, [], 0⟩) (by simp [hlt])
        have he : eat (t.drop k) o = if o - 1 + Pu (t.getD k ⟨0, [], 0⟩) = 0 then 1 else 1 + eat (t.drop (k + 1)) (o - 1 + Pu (t.getD k ⟨0, [], 0⟩)) := by
          rw [List.drop_eq_getElem_cons hlt, eat]
          simp [hlt]
        have zz1 := Kf (⟨0, [], 0⟩ : Node) hlt
        (sym =>
         simp [hlb,zz1,Uu,Us,Uv,Ur,szN,Ut,ctx_End3_t,ctx_End3_c,ctx_End3_d,ctx_End3_b,ctx_End3_w,N0.eq_def,Zb,Zc,Ze,Zf,Zg,Zo,Zp,Zq,Zv,Zy,Z6,Z9,Qb,Qd,Qe,Qf,Qn,Qo,Qp,Qq,Qs,Q1,Q2,Q4,Q8,Jf,Jj,Jk,Jl,Jy,Jz,J0,J5,J6,J7,J8,J9,Xa,Xb,Xc,Xf,Xp,Xu,X3,X4,X6,X7,X8,Wb,Wc,Wf,Wh,Wi,Wj,Wt,Wu,Wv,Ww,Wx,Wz,W0,Ya,Yb,Yd,Ye,Yi,Ym,Yx,Y0,Y1,Y7,Y8,Y9,Va,Vr,Vt,Vu,V4,Uk,Um,Un,Uo,Up,U8,U4,U3]
         tactic =>
          try simp only [U1] at *
          try simp only [nc2] at *
          try simp (maxSteps := 4000000) only [hlb,zz1,Uu,Us,Uv,Ur,szN,Ut,U9]
          repeat' (first | with_reducible assumption | with_reducible refine And.intro ?_ ?_ | intro _ | omega | (rw [U0]; omega))
          · rename_i hz
            rw [if_pos hz] at he
            rw [e0]
            omega
          · rename_i hz
            rw [if_neg hz] at he
            exact ⟨(k + 1, o - 1 + Pu (t.getD k ⟨0, [], 0⟩)), by ((try simp only [U2, Ka, U6, Kg, upd, Kh, Ko, Gd, Nat.reduceDiv, Nat.reduceMod, Nat.reduceMul, Nat.reduceAdd, Nat.reduceEqDiff, List.set_cons_zero, List.set_cons_succ, if_true, if_false, reduceIte]); (first | refine Wk.of_fl ?_ | skip); simp only [Wk, wkK, Gl, wkT, wk1, AV.kept, keptAll, wkO, lk, U5, and_true, true_and, and_self, Nat.reduceEqDiff, Nat.reduceLeDiff, if_true, if_false, reduceIte, reduceCtorEq, Option.isSome, false_implies]; try simp [Wk, wkK, wkT, wk1, AV.kept, keptAll, wkO, lk, U5]), by simp only; omega, by simp only; omega, by simp only; omega, by simp only; omega, by simp only; omega, by simp only; omega⟩)
      · have hd : t.drop k = [] := List.drop_eq_nil_of_le hlt
        rw [hd, eat] at h5
        (sym =>
         simp [hlb,Uu,Us,Uv,Ur,szN,Ut,ctx_End3_t,ctx_End3_d,Zb,Zc,Ze,Zf,Zg,Zo,Z6,Qb,Qd,Qn,Qo,Qp,Qq,Qs,Q1,Q2,Q4,Q8,Jk,Jy,Jz,J0,J5,J6,J7,J8,J9,Xa,Xb,Xc,Xf,X4,X6,X7,Wa,Wb,Wc,Wf,Wh,Wi,Wj,Wt,Wu,Wv,Ww,Ya,Yb,Yd,Ye,Yi,Y0,Y1,Y7,Y8,Y9,Va,Vt,Vu,Ul,Um,Un,Uo,Up,U8,U4,U3]
         tactic =>
          try simp only [U1] at *
          try simp only [nc2] at *
          try simp (maxSteps := 4000000) only [hlb,Uu,Us,Uv,Ur,szN,Ut,U9]
          rw [e0]
          omega)
    · unfold end3
      rw [if_pos (.inl ‹_›)])
end Go.Am.Ty
set_option linter.unusedSimpArgs false
set_option linter.unusedVariables false
set_option maxHeartbeats 1000000
namespace Go.Am.Ty
open Go.Proofs
open Enc (enc dec)
def Nt (t : List Node) : Bool := t.all fun n => n.kind != 8 && n.kind != 9
def H7 : Con := Ss (fun (t : Sl Node) => t.l.length ≤ 9223372036854775807) (fun t => Nt t.l)
noncomputable def ctx_Plain3 : Ctx := ⟨tab, lkC [], 60, lkB [], [], false⟩
theorem ctx_Plain3_t : ctx_Plain3.τ = tab := rfl
theorem ctx_Plain3_d : ctx_Plain3.dp = 60 := rfl
theorem ctx_Plain3_w : ctx_Plain3.wr = false := rfl
theorem good_Plain3 : Gj Tryz.prog (40, H7) := by
  refine ⟨U7 Tryz.func40 (by kernel_rfl) rfl, ?_⟩
  have K : Ky Tryz.prog ctx_Plain3 := Kd K6 Ki (by simp) (by simp)
  obtain ⟨c, hc⟩ : ∃ c, Tryz.f40.body = some c := ⟨_, rfl⟩
  refine Ke K Tryz.func40 hc [.tmp 2] rfl 24 rfl (fun cvs hpre => ?_)
  change H7.pre cvs at hpre
  unfold H7 at hpre
  obtain ⟨⟨t⟩, rfl, ht⟩ := Ha hpre
  simp only at ht
  simp only [Tryz.f40, Option.some.injEq] at hc
  subst hc
  (sym =>
   simp [Uu,Us,Uv,Ur,szN,Ut,H7.eq_def,Za,Zb,Zc,Ze,Zf,Qq,Qs,Q1,Q2,Q4,Jw,J3,J4,Xu,X4,X6,X8,X9,Wc,Wf,Wh,Wt,Wu,Wv,Ww,Wy,W0,W6,W7,Yy,Y9,Va,Vb,Vc,Vj,Vu,V4,V5,Um,U8,U4,U3]
   tactic =>
    try simp only [U1] at *
    try simp only [nc2] at *
    try simp (maxSteps := 4000000) only [Uu,Us,Uv,Ur,szN,Ut,U9]
    refine Km [2, 4, 5, 6, 7, 8, 9, 10, 11, 12, 13, 14, 15, 16, 17, 18, 19, 20, 21, 22, 23] (fun k : Nat => [(3, .d (.int .i64 k))]) (fun k : Nat => []) (fun k : Nat => k ≤ t.length ∧ ∀ j, j < k → ((t.getD j ⟨0, [], 0⟩).kind != 8 && (t.getD j ⟨0, [], 0⟩).kind != 9) = true) (fun k : Nat => t.length - k) 0 ?_ ?_ ?_
    · simp
    · ((try simp only [U2, Ka, U6, Kg, upd, Kh, Ko, Gd, Nat.reduceDiv, Nat.reduceMod, Nat.reduceMul, Nat.reduceAdd, Nat.reduceEqDiff, List.set_cons_zero, List.set_cons_succ, if_true, if_false, reduceIte]); (first | refine Wk.of_fl ?_ | skip); simp only [Wk, wkK, Gl, wkT, wk1, AV.kept, keptAll, wkO, lk, U5, and_true, true_and, and_self, Nat.reduceEqDiff, Nat.reduceLeDiff, if_true, if_false, reduceIte, reduceCtorEq, Option.isSome, false_implies]; try simp [Wk, wkK, wkT, wk1, AV.kept, keptAll, wkO, lk, U5])
    rintro k ⟨hk, hno⟩
    rcases Ks k t.length with ⟨hlt, hlb⟩ | ⟨hlt, hlb⟩
    · have zz1 := Kf (⟨0, [], 0⟩ : Node) hlt
      (sym =>
       simp [hlb,zz1,Uu,Us,Uv,Ur,szN,Ut,ctx_Plain3_t,ctx_Plain3_d,ctx_Plain3_w,Zb,Zc,Zd,Ze,Zf,Zg,Zo,Zp,Zq,Zs,Zt,Zv,Zx,Zy,Z6,Qb,Qd,Qn,Qo,Qp,Qq,Qs,Q1,Q2,Q4,Q8,Jk,Jy,Jz,J0,Xf,X3,X4,X6,X7,X8,Wb,Wc,Wf,Wh,Wi,Wj,Wt,Wu,W8,W9,Yd,Ye,Yi,Ym,Yt,Yw,Y0,Y1,Y7,Y8,Y9,Va,Vr,Vt,Vu,V4,V5,Uk,Ul,Um,Un,Uo,Up,U8,U4,U3]
       tactic =>
        try simp only [U1] at *
        try simp only [nc2] at *
        try simp (maxSteps := 4000000) only [hlb,zz1,Uu,Us,Uv,Ur,szN,Ut,U9]
        have hbad : ((t.getD k ⟨0, [], 0⟩).kind != 8 && (t.getD k ⟨0, [], 0⟩).kind != 9) = false → false = Nt t := by
          intro h
          unfold Nt
          rw [all_not (p := fun n : Node => n.kind != 8 && n.kind != 9) ⟨0, [], 0⟩ k hlt h]
        repeat' (first | with_reducible assumption | with_reducible refine And.intro ?_ ?_ | intro _ | omega | (rw [U0]; omega))
        · rename_i h8 h9
          exact hbad (by rw [h9]; simp)
        · rename_i h8 h9
          refine ⟨k + 1, by ((try simp only [U2, Ka, U6, Kg, upd, Kh, Ko, Gd, Nat.reduceDiv, Nat.reduceMod, Nat.reduceMul, Nat.reduceAdd, Nat.reduceEqDiff, List.set_cons_zero, List.set_cons_succ, if_true, if_false, reduceIte]); (first | refine Wk.of_fl ?_ | skip); simp only [Wk, wkK, Gl, wkT, wk1, AV.kept, keptAll, wkO, lk, U5, and_true, true_and, and_self, Nat.reduceEqDiff, Nat.reduceLeDiff, if_true, if_false, reduceIte, reduceCtorEq, Option.isSome, false_implies]; try simp [Wk, wkK, wkT, wk1, AV.kept, keptAll, wkO, lk, U5]), by omega, fun j hj => ?_, by omega⟩
          by_cases hjk : j = k
          · subst hjk; simp only [bne_iff_ne, ne_eq, Bool.and_eq_true]; exact ⟨h8, h9⟩
          · exact hno j (by omega)
        · rename_i h8
          exact hbad (by rw [h8]; simp))
    · (sym =>
       simp [hlb,Uu,Us,Uv,Ur,szN,Ut,ctx_Plain3_t,ctx_Plain3_d,Zb,Zc,Ze,Zf,Zg,Zo,Z6,Qb,Qd,Qn,Qo,Qp,Qq,Qs,Q1,Q2,Q4,Q8,Jk,Jy,Jz,J0,Xf,X4,X6,X7,Wa,Wb,Wc,Wf,Wh,Wi,Wj,Wt,Wu,Yd,Ye,Yi,Y0,Y1,Y7,Y8,Y9,Va,Vt,Vu,V5,Ul,Um,Un,Uo,Up,U8,U4,U3]
       tactic =>
        try simp only [U1] at *
        try simp only [nc2] at *
        try simp (maxSteps := 4000000) only [hlb,Uu,Us,Uv,Ur,szN,Ut,U9]
        unfold Nt
        rw [all_of_lt (p := fun n : Node => n.kind != 8 && n.kind != 9) ⟨0, [], 0⟩ fun j hj => hno j (by omega)]))
def Tu : Con := Bg (fun (a b : Sl Node) => a.l.length ≤ 9223372036854775807 ∧ b.l.length ≤ 9223372036854775807) (fun a b => a.l == b.l)
noncomputable def ctx_One3 : Ctx := ⟨tab, lkC [], 60, lkB [], [], false⟩
theorem ctx_One3_t : ctx_One3.τ = tab := rfl
theorem ctx_One3_c : ctx_One3.Γ = lkC [] := rfl
theorem ctx_One3_d : ctx_One3.dp = 60 := rfl
theorem ctx_One3_b : ctx_One3.Δ = lkB [] := rfl
theorem ctx_One3_w : ctx_One3.wr = false := rfl
theorem good_One3 : Gj Tryz.prog (38, Tu) := by
  refine ⟨U7 Tryz.func38 (by kernel_rfl) rfl, ?_⟩
  have K : Ky Tryz.prog ctx_One3 := Kd K6 Ki (by simp) (by simp)
  obtain ⟨c, hc⟩ : ∃ c, Tryz.f38.body = some c := ⟨_, rfl⟩
  refine Ke K Tryz.func38 hc [.tmp 4] rfl 26 rfl (fun cvs hpre => ?_)
  change Tu.pre cvs at hpre
  unfold Tu at hpre
  obtain ⟨⟨a⟩, ⟨b⟩, rfl, ha, hb⟩ := Gi hpre
  simp only at ha hb
  simp only [Tryz.f38, Option.some.injEq] at hc
  subst hc
  (sym =>
   simp [Uu,Us,Uv,Ur,szN,Ut,ctx_One3_t,ctx_One3_d,Tu.eq_def,Za,Zb,Zc,Ze,Zf,Zo,Z6,Qb,Qd,Qn,Qo,Qp,Qq,Qs,Q1,Q2,Q4,Q8,Jk,Jw,J3,J4,Xf,Xv,X3,X4,X6,X7,X8,X9,Wb,Wc,Wf,Wh,Wi,Wj,Wt,Wu,Wv,Ww,Wy,W0,W6,W7,Ye,Yi,Yy,Y0,Y1,Y7,Y8,Y9,Va,Vb,Vc,Vj,Vu,V4,V5,Um,Un,Up,U8,U4,U3]
   tactic =>
    try simp only [U1] at *
    try simp only [nc2] at *
    try simp (maxSteps := 4000000) only [Uu,Us,Uv,Ur,szN,Ut,U9]
    refine ⟨fun hne => ?_, fun heq => ?_⟩
    · symm
      rw [beq_eq_false_iff_ne]
      intro h
      exact hne (by rw [h])
    have hlen : a.length = b.length := by omega
    refine Km [4, 11, 12, 13, 14, 15, 16, 17, 18, 19, 20, 21, 22, 23, 24, 25] (fun k : Nat => [(5, .d (.int .i64 k))]) (fun k : Nat => []) (fun k : Nat => k ≤ a.length ∧ ∀ j, j < k → a.getD j ⟨0, [], 0⟩ = b.getD j ⟨0, [], 0⟩) (fun k : Nat => a.length - k) 0 ?_ ?_ ?_
    · simp
    · ((try simp only [U2, Ka, U6, Kg, upd, Kh, Ko, Gd, Nat.reduceDiv, Nat.reduceMod, Nat.reduceMul, Nat.reduceAdd, Nat.reduceEqDiff, List.set_cons_zero, List.set_cons_succ, if_true, if_false, reduceIte]); (first | refine Wk.of_fl ?_ | skip); simp only [Wk, wkK, Gl, wkT, wk1, AV.kept, keptAll, wkO, lk, U5, and_true, true_and, and_self, Nat.reduceEqDiff, Nat.reduceLeDiff, if_true, if_false, reduceIte, reduceCtorEq, Option.isSome, false_implies]; try simp [Wk, wkK, wkT, wk1, AV.kept, keptAll, wkO, lk, U5])
    rintro k ⟨hk, hno⟩
    rcases Ks k a.length with ⟨hlt, hlb⟩ | ⟨hlt, hlb⟩
    · have zz2 := Kf (⟨0, [], 0⟩ : Node) hlt
      have zz3 := Kf (⟨0, [], 0⟩ : Node) (show k < b.length by omega)
      (sym =>
       simp [hlb,zz2,zz3,Uu,Us,Uv,Ur,szN,Ut,ctx_One3_t,ctx_One3_c,ctx_One3_d,ctx_One3_b,ctx_One3_w,Zb,Zc,Ze,Zf,Zg,Zh,Zi,Zj,Zk,Zl,Zm,Zo,Zp,Zq,Zv,Zy,Z6,Qb,Qd,Qn,Qo,Qp,Qq,Qr,Qs,Qy,Qz,Q0,Q1,Q2,Q4,Q5,Q6,Q8,Jk,Jr,Jy,Jz,J0,Xf,Xp,Xz,X0,X1,X2,X3,X4,X5,X6,X7,X8,Wb,Wc,Wd,We,Wf,Wg,Wh,Wi,Wj,Wo,Wp,Wt,Wu,W4,W5,Yd,Ye,Yi,Yk,Ym,Y0,Y1,Y7,Y8,Y9,Va,Vr,Vt,Vu,V4,V5,V9,Uk,Ul,Um,Un,Uo,Up,Uq,U8,U4,U3]
       tactic =>
        try simp only [U1] at *
        try simp only [nc2] at *
        try simp (maxSteps := 4000000) only [hlb,zz2,zz3,Uu,Us,Uv,Ur,szN,Ut,U9]
        repeat' (first | with_reducible assumption | with_reducible refine And.intro ?_ ?_ | intro _ | omega | (rw [U0]; omega))
        · kernel_rfl
        · rename_i h
          symm
          rw [beq_eq_false_iff_ne]
          intro e
          exact h (by rw [e])
        · rename_i h
          refine ⟨k + 1, by ((try simp only [U2, Ka, U6, Kg, upd, Kh, Ko, Gd, Nat.reduceDiv, Nat.reduceMod, Nat.reduceMul, Nat.reduceAdd, Nat.reduceEqDiff, List.set_cons_zero, List.set_cons_succ, if_true, if_false, reduceIte]); (first | refine Wk.of_fl ?_ | skip); simp only [Wk, wkK, Gl, wkT, wk1, AV.kept, keptAll, wkO, lk, U5, and_true, true_and, and_self, Nat.reduceEqDiff, Nat.reduceLeDiff, if_true, if_false, reduceIte, reduceCtorEq, Option.isSome, false_implies]; try simp [Wk, wkK, wkT, wk1, AV.kept, keptAll, wkO, lk, U5]), by omega, fun j hj => ?_, by omega⟩
          by_cases hjk : j = k
          · subst hjk; exact h
          · exact hno j (by omega))
    · (sym =>
       simp [hlb,Uu,Us,Uv,Ur,szN,Ut,ctx_One3_t,ctx_One3_d,Zb,Zc,Ze,Zf,Zg,Zo,Z6,Qb,Qd,Qn,Qo,Qp,Qq,Qs,Q1,Q2,Q4,Q8,Jk,Jy,Jz,J0,Xf,X4,X6,X7,Wa,Wb,Wc,Wf,Wh,Wi,Wj,Wt,Wu,Yd,Ye,Yi,Y0,Y1,Y7,Y8,Y9,Va,Vt,Vu,V5,Ul,Um,Un,Uo,Up,U8,U4,U3]
       tactic =>
        try simp only [U1] at *
        try simp only [nc2] at *
        try simp (maxSteps := 4000000) only [hlb,Uu,Us,Uv,Ur,szN,Ut,U9]
        symm
        rw [beq_iff_eq]
        refine List.ext_getElem hlen fun j h1 h2 => ?_
        have := hno j (by omega)
        simpa [h1, h2] using this))
def Hx (n : Node) : Node := if n.kind = 0 then { n with n := 0 } else n
def Gp (a b : List Node) : Bool := a.map Hx == b.map Hx
def Kj : Con := Bg (fun (a b : Sl Node) => a.l.length ≤ 9223372036854775807 ∧ b.l.length ≤ 9223372036854775807) (fun a b => Gp a.l b.l)
noncomputable def Aj : Ctx := ⟨tab, lkC [], 60, lkB [], [], false⟩
theorem ctx_Same3_t : Aj.τ = tab := rfl
theorem ctx_Same3_c : Aj.Γ = lkC [] := rfl
theorem ctx_Same3_d : Aj.dp = 60 := rfl
theorem ctx_Same3_b : Aj.Δ = lkB [] := rfl
theorem ctx_Same3_w : Aj.wr = false := rfl
set_option maxRecDepth 100000 in
theorem Ew : Gj Tryz.prog (18, Kj) := by
  refine ⟨U7 Tryz.func18 (by kernel_rfl) rfl, ?_⟩
  have K : Ky Tryz.prog Aj := Kd K6 Ki (by simp) (by simp)
  obtain ⟨c, hc⟩ : ∃ c, Tryz.f18.body = some c := ⟨_, rfl⟩
  refine Ke K Tryz.func18 hc [.tmp 4] rfl 38 rfl (fun cvs hpre => ?_)
  change Kj.pre cvs at hpre
  unfold Kj at hpre
  obtain ⟨⟨a⟩, ⟨b⟩, rfl, ha, hb⟩ := Gi hpre
  simp only at ha hb
  simp only [Tryz.f18, Option.some.injEq] at hc
  subst hc
  refine Kw 2 (of_decide_eq_true (by kernel_rfl)) ?_
  (sym =>
   simp [Uu,Us,Uv,Ur,szN,Ut,ctx_Same3_t,ctx_Same3_d,Kj.eq_def,Zb,Zc,Ze,Zf,Zo,Z6,Qb,Qd,Qn,Qo,Qp,Qq,Qs,Q1,Q2,Q4,Q8,Jk,Jw,J3,J4,J5,J6,J8,Xb,Xf,Xn,Xo,Xv,X3,X4,X6,X7,X8,X9,Wb,Wc,Wf,Wh,Wi,Wj,Wt,Wu,Wv,Ww,Wy,W0,W6,W7,Ya,Yb,Ye,Yi,Yy,Y0,Y1,Y7,Y8,Vb,Vc,Vd,Ve,Vf,Vg,Vj,Vt,Vu,V4,V5,Um,Un,Up,U8,U4,U3]
   tactic =>
    try simp only [U1] at *
    try simp only [nc2] at *
    try simp (maxSteps := 4000000) only [Uu,Us,Uv,Ur,szN,Ut,U9]
    refine ⟨fun hne => ?_, fun heq => ?_⟩
    · symm
      unfold Gp
      rw [beq_eq_false_iff_ne]
      intro h
      have := congrArg List.length h
      rw [List.length_map, List.length_map] at this
      exact hne (by rw [this])
    have hlen : a.length = b.length := by omega
    refine Km [4, 6, 7, 13, 14, 15, 16, 17, 18, 19, 20, 21, 22, 23, 24, 25, 26, 27, 28, 29, 30, 31, 32, 33, 34, 35, 36, 37] (fun k : Nat => [(5, .d (.int .i64 k))]) (fun k : Nat => []) (fun k : Nat => k ≤ a.length ∧ ∀ j, j < k → Hx (a.getD j ⟨0, [], 0⟩) = Hx (b.getD j ⟨0, [], 0⟩)) (fun k : Nat => a.length - k) 0 ?_ ?_ ?_
    · simp
    · ((try simp only [U2, Ka, U6, Kg, upd, Kh, Ko, Gd, Nat.reduceDiv, Nat.reduceMod, Nat.reduceMul, Nat.reduceAdd, Nat.reduceEqDiff, List.set_cons_zero, List.set_cons_succ, if_true, if_false, reduceIte]); (first | refine Wk.of_fl ?_ | skip); simp only [Wk, wkK, Gl, wkT, wk1, AV.kept, keptAll, wkO, lk, U5, and_true, true_and, and_self, Nat.reduceEqDiff, Nat.reduceLeDiff, if_true, if_false, reduceIte, reduceCtorEq, Option.isSome, false_implies]; try simp [Wk, wkK, wkT, wk1, AV.kept, keptAll, wkO, lk, U5])
    rintro k ⟨hk, hno⟩
    rcases Ks k a.length with ⟨hlt, hlb⟩ | ⟨hlt, hlb⟩
    · have hyes : Hx (a.getD k ⟨0, [], 0⟩) = Hx (b.getD k ⟨0, [], 0⟩) → ∀ j, j < k + 1 → Hx (a.getD j ⟨0, [], 0⟩) = Hx (b.getD j ⟨0, [], 0⟩) := by
        intro h j hj
        by_cases hjk : j = k
        · subst hjk; exact h
        · exact hno j (by omega)
      have hbad : Hx (a.getD k ⟨0, [], 0⟩) ≠ Hx (b.getD k ⟨0, [], 0⟩) → false = Gp a b := by
        intro h
        symm
        unfold Gp
        rw [beq_eq_false_iff_ne]
        intro e
        apply h
        have h1 : (a.map Hx).getD k ⟨0, [], 0⟩ = (b.map Hx).getD k ⟨0, [], 0⟩ := by rw [e]
        simpa [hlt, show k < b.length by omega] using h1
      have zz4 := Kf (⟨0, [], 0⟩ : Node) hlt
      have zz5 := Kf (⟨0, [], 0⟩ : Node) (show k < b.length by omega)
      (sym =>
       simp [hlb,zz4,zz5,Uu,Us,Uv,Ur,szN,Ut,ctx_Same3_t,ctx_Same3_c,ctx_Same3_d,ctx_Same3_b,ctx_Same3_w,Zb,Zc,Ze,Zf,Zg,Zh,Zi,Zj,Zk,Zl,Zm,Zo,Zp,Zq,Zs,Zu,Zv,Zw,Zx,Zy,Z6,Qb,Qd,Qh,Qk,Ql,Qm,Qn,Qo,Qp,Qq,Qr,Qs,Qy,Qz,Q0,Q1,Q2,Q4,Q5,Q6,Q8,Ja,Jh,Ji,Jk,Jr,Jy,Jz,J0,J5,J6,J7,J8,J9,Xa,Xb,Xc,Xf,Xp,Xs,Xz,X0,X1,X2,X3,X4,X5,X6,X7,X8,Wb,Wc,Wd,We,Wf,Wg,Wh,Wi,Wj,Wm,Wo,Wp,Wt,Wu,Wv,Ww,W4,W5,W6,W7,W8,W9,Ya,Yb,Yd,Ye,Yi,Yk,Ym,Yn,Yq,Y0,Y1,Y7,Y8,Y9,Va,Vb,Vc,Vd,Ve,Vf,Vg,Vr,Vt,Vu,V4,V5,V9,Ud,Uk,Ul,Um,Un,Uo,Up,Uq,U8,U4,U3]
       tactic =>
        try simp only [U1] at *
        try simp only [nc2] at *
        try simp (maxSteps := 4000000) only [hlb,zz4,zz5,Uu,Us,Uv,Ur,szN,Ut,U9]
        revert hyes hbad
        generalize a.getD k ⟨0, [], 0⟩ = x
        generalize b.getD k ⟨0, [], 0⟩ = y
        intro hyes hbad
        repeat' (first | with_reducible assumption | with_reducible refine And.intro ?_ ?_ | intro _ | omega | (rw [U0]; omega))
        · kernel_rfl
        all_goals first
          | (refine hbad (fun e => ?_); revert e; clear hyes hbad hno; cases x; cases y; simp_all [Hx]; done)
          | exact ⟨k + 1, by ((try simp only [U2, Ka, U6, Kg, upd, Kh, Ko, Gd, Nat.reduceDiv, Nat.reduceMod, Nat.reduceMul, Nat.reduceAdd, Nat.reduceEqDiff, List.set_cons_zero, List.set_cons_succ, if_true, if_false, reduceIte]); (first | refine Wk.of_fl ?_ | skip); simp only [Wk, wkK, Gl, wkT, wk1, AV.kept, keptAll, wkO, lk, U5, and_true, true_and, and_self, Nat.reduceEqDiff, Nat.reduceLeDiff, if_true, if_false, reduceIte, reduceCtorEq, Option.isSome, false_implies]; try simp [Wk, wkK, wkT, wk1, AV.kept, keptAll, wkO, lk, U5]), by omega, hyes (by clear hyes hbad hno; cases x; cases y; simp_all [Hx]), by omega⟩)
    · (sym =>
       simp [hlb,Uu,Us,Uv,Ur,szN,Ut,ctx_Same3_t,ctx_Same3_d,Zb,Zc,Ze,Zf,Zg,Zo,Z6,Qb,Qd,Qn,Qo,Qp,Qq,Qs,Q1,Q2,Q4,Q8,Jk,Jy,Jz,J0,J5,J6,J8,J9,Xa,Xb,Xc,Xf,X4,X6,X7,Wa,Wb,Wc,Wf,Wh,Wi,Wj,Wt,Wu,Wv,Ww,Ya,Yb,Yd,Ye,Yi,Y0,Y1,Y7,Y8,Y9,Va,Vt,Vu,V5,Ul,Um,Un,Uo,Up,U8,U4,U3]
       tactic =>
        try simp only [U1] at *
        try simp only [nc2] at *
        try simp (maxSteps := 4000000) only [hlb,Uu,Us,Uv,Ur,szN,Ut,U9]
        symm
        unfold Gp
        rw [beq_iff_eq]
        refine List.ext_getElem (by simp [hlen]) fun j h1 h2 => ?_
        rw [List.length_map] at h1 h2
        have := hno j (by omega)
        simpa [h1, h2] using this))
def Eh (a b : List Node) : List Node := ⟨5, [], 0⟩ :: (a ++ b)
def De : Con := Bg (fun (a b : Sl Node) => a.l.length ≤ 1048576 ∧ b.l.length ≤ 1048576) (fun a b => Sl.mk (Eh a.l b.l))
noncomputable def ctx_Arrow3 : Ctx := ⟨tab, lkC [], 60, lkB [], [], false⟩
theorem ctx_Arrow3_t : ctx_Arrow3.τ = tab := rfl
theorem ctx_Arrow3_d : ctx_Arrow3.dp = 60 := rfl
theorem good_Arrow3 : Gj Tryz.prog (46, De) := by
  refine ⟨U7 Tryz.func46 (by kernel_rfl) rfl, ?_⟩
  have K : Ky Tryz.prog ctx_Arrow3 := Kd K6 Ki (by simp) (by simp)
  obtain ⟨c, hc⟩ : ∃ c, Tryz.f46.body = some c := ⟨_, rfl⟩
  refine Ke K Tryz.func46 hc [.tmp 4] rfl 15 rfl (fun cvs hpre => ?_)
  change De.pre cvs at hpre
  unfold De at hpre
  obtain ⟨⟨a⟩, ⟨b⟩, rfl, ha, hb⟩ := Gi hpre
  simp only at ha hb
  simp only [Tryz.f46, Option.some.injEq] at hc
  subst hc
  (sym =>
   simp [Uu,Us,Uv,Ur,szN,Ut,ctx_Arrow3_t,ctx_Arrow3_d,De.eq_def,Za,Zb,Zc,Ze,Zf,Zn,Zo,Zr,Z1,Z2,Z4,Z5,Qh,Ql,Qn,Qo,Qp,Qq,Qs,Q1,Q2,Q4,Q7,Q8,Ja,Jb,Jc,Jd,Je,Jg,Jh,Ji,Jk,Jw,J3,J4,Xd,Xe,Xf,Xh,Xs,Xv,X4,X6,Wb,Wc,Wf,Wh,Wi,Wj,Wl,Wm,Wn,Wt,Wu,Wv,Ww,Wy,W0,W3,W4,W5,W6,W7,W8,Yn,Yq,Y0,Y1,Y7,Y8,Y9,Va,Vb,Vc,Vj,Vu,V3,V4,V7,V9,Ud,Um,Un,Uo,Up,U4,U3]
   tactic =>
    try simp only [U1] at *
    try simp only [nc2] at *
    try simp (maxSteps := 4000000) only [Uu,Us,Uv,Ur,szN,Ut,U9]
    repeat' (first | with_reducible assumption | with_reducible refine And.intro ?_ ?_ | intro _ | omega | (rw [U0]; omega))
    rfl)
theorem eat_le : ∀ (l : List Node) (o : Int), eat l o ≤ l.length
  | [], o => by simp [eat]
  | n :: l, o => by
    simp only [eat]
    split
    · simp
    · have := eat_le l (o - 1 + Pu n)
      simp only [List.length_cons]
      omega
def Mn (t : List Node) : Nat → Nat → List Int
  | 0, _ => []
  | m + 1, at_ => if at_ < t.length then (at_ : Int) :: Mn t m (at_ + eat (t.drop at_) 1) else []
def Cr (t : List Node) (i : Int) : List Int := if i < 0 ∨ (t.length : Int) ≤ i then [] else Mn t (Pu (t.getD i.toNat ⟨0, [], 0⟩)).toNat (i.toNat + 1)
def Mx : Con := Bg (fun (t : Sl Node) (i : Int) => Tame t.l ∧ inR .i64 i) (fun t i => Sl.mk (Cr t.l i))
noncomputable def An : Ctx := ⟨tab, lkC [(64, Pz), (69, N0)], 60, lkB [], [], false⟩
theorem Ox : An.τ = tab := rfl
theorem ctx_Kids3_c : An.Γ = lkC [(64, Pz), (69, N0)] := rfl
theorem Oy : An.dp = 60 := rfl
theorem ctx_Kids3_b : An.Δ = lkB [] := rfl
theorem ctx_Kids3_w : An.wr = false := rfl
theorem good_Kids3 : Gj Tryz.prog (42, Mx) := by
  refine ⟨U7 Tryz.func42 (by kernel_rfl) rfl, ?_⟩
  have K : Ky Tryz.prog An := Kd K6 Ki (by
    intro p hp
    simp only [List.mem_cons, List.not_mem_nil, or_false] at hp
    rcases hp with rfl | rfl
    · exact good_End3
    · exact good_many3) (by simp)
  obtain ⟨c, hc⟩ : ∃ c, Tryz.f42.body = some c := ⟨_, rfl⟩
  refine Ke K Tryz.func42 hc [.tmp 4] rfl 43 rfl (fun cvs hpre => ?_)
  change Mx.pre cvs at hpre
  unfold Mx at hpre
  obtain ⟨⟨t⟩, i, rfl, ⟨ht, hm⟩, hi⟩ := Gi hpre
  simp only at ht hm
  rw [U0] at hi
  simp only [Tryz.f42, Option.some.injEq] at hc
  subst hc
  refine Kw 2 (of_decide_eq_true (by kernel_rfl)) ?_
  (sym =>
   simp [Uu,Us,Uv,Ur,szN,Ut,Ox,Oy,ctx_Kids3_w,Mx.eq_def,Zb,Zc,Zd,Ze,Zf,Zn,Zo,Zr,Zt,Z1,Z6,Qb,Qd,Qn,Qo,Qp,Qq,Qs,Q1,Q2,Q4,Q8,Jb,Jc,Jd,Je,Jg,Jh,Ji,Jk,Jw,J3,J4,J5,J6,J8,J9,Xb,Xc,Xd,Xh,Xn,Xo,Xv,X3,X4,X6,X7,X8,X9,Wb,Wc,Wf,Wh,Wi,Wj,Wn,Wt,Wu,Wv,Ww,Wy,W0,W3,W5,W6,W7,W8,W9,Ya,Yb,Ye,Yi,Yx,Y0,Y1,Y7,Y8,Vb,Vc,Vd,Ve,Vf,Vg,Vh,Vj,Vt,Vu,V4,V5,V7,Uk,Ul,Um,Un,Up,U8,U4,U3,H9]
   tactic =>
    try simp only [U1] at *
    try simp only [nc2] at *
    try simp (maxSteps := 4000000) only [Uu,Us,Uv,Ur,szN,Ut,U9]
    repeat' (first | with_reducible assumption | with_reducible refine And.intro ?_ ?_ | intro _ | omega | (rw [U0]; omega))
    · unfold Cr
      rw [if_pos (.inr ‹_›)]
      rfl
    · obtain ⟨i, rfl⟩ : ∃ n : Nat, i = n := ⟨i.toNat, by omega⟩
      have hil : i < t.length := by omega
      have hmi := hm (t.getD i ⟨0, [], 0⟩) (by simp [hil])
      obtain ⟨M, hM⟩ : ∃ M : Nat, Pu (t.getD i ⟨0, [], 0⟩) = M := ⟨(Pu (t.getD i ⟨0, [], 0⟩)).toNat, by omega⟩
      have e0 : Cr t i = Mn t M (i + 1) := by
        unfold Cr
        rw [if_neg (by omega)]
        simp only [Int.toNat_natCast, hM]
      refine Km [20, 21, 22, 23, 24, 25, 26, 27, 28, 29, 30, 31, 32, 33, 34, 35, 36, 37, 38, 39, 40, 41] (fun p : Nat × Nat × List Int => [(5, .sl 8 (p.2.2.map enc).length), (6, .d (.int .i64 p.2.1)), (7, .d (.int .i64 p.1))]) (fun p : Nat × Nat × List Int => [(8, .row 1 (p.2.2.map enc) 0)]) (fun p : Nat × Nat × List Int => p.1 ≤ M ∧ p.2.1 ≤ t.length ∧ p.2.2.length = p.1 ∧ p.2.2 ++ Mn t (M - p.1) p.2.1 = Mn t M (i + 1)) (fun p : Nat × Nat × List Int => M - p.1) (0, i + 1, []) ?_ ?_ ?_
      · exact ⟨Nat.zero_le _, hil, rfl, rfl⟩
      · ((try simp only [U2, Ka, U6, Kg, upd, Kh, Ko, Gd, Nat.reduceDiv, Nat.reduceMod, Nat.reduceMul, Nat.reduceAdd, Nat.reduceEqDiff, List.set_cons_zero, List.set_cons_succ, if_true, if_false, reduceIte]); (first | refine Wk.of_fl ?_ | skip); simp only [Wk, wkK, Gl, wkT, wk1, AV.kept, keptAll, wkO, lk, U5, and_true, true_and, and_self, Nat.reduceEqDiff, Nat.reduceLeDiff, if_true, if_false, reduceIte, reduceCtorEq, Option.isSome, false_implies]; try simp [Wk, wkK, wkT, wk1, AV.kept, keptAll, wkO, lk, U5])
      rintro ⟨k, q, out⟩ ⟨h1, h2, h3, h4⟩
      simp only at h1 h2 h3 h4
      rcases Ks k M with ⟨hk, hkb⟩ | ⟨hk, hkb⟩
      · rcases Ks q t.length with ⟨hq, hqb⟩ | ⟨hq, hqb⟩
        · have e1 : M - k = (M - k - 1) + 1 := by omega
          rw [e1, Mn, if_pos hq] at h4
          have hle := eat_le (t.drop q) 1
          rw [List.length_drop] at hle
          have e2 : end3 t q = ((q + eat (t.drop q) 1 : Nat) : Int) := by
            unfold end3
            rw [if_neg (by omega)]
            simp
          have hT : Tame t := ⟨ht, hm⟩
          have zz6 := Kf (⟨0, [], 0⟩ : Node) hil
          (sym =>
           simp [hkb,hqb,hM,e2,zz6,Uu,Us,Uv,Ur,szN,Ut,Ox,ctx_Kids3_c,Oy,ctx_Kids3_b,ctx_Kids3_w,Pz.eq_def,N0.eq_def,Zb,Zc,Zd,Ze,Zf,Zg,Zo,Zp,Zq,Zr,Zt,Zv,Zy,Z1,Z4,Z5,Z6,Z9,Qb,Qd,Qe,Qf,Qq,Qs,Q1,Q2,Q4,Q8,Jb,Jc,Jd,Je,Jf,Jg,Jh,Ji,Jj,Jl,Jy,Jz,J0,J5,J6,J7,J8,J9,Xa,Xb,Xc,Xd,Xe,Xf,Xp,Xu,Xv,X3,X4,X6,X7,X8,Wc,Wf,Wh,Wi,Wj,Wl,Wn,Wt,Wu,Wv,Ww,Wx,Wz,W0,W3,W4,W5,W6,W7,W8,W9,Ya,Yb,Yd,Ye,Yi,Ym,Yn,Yx,Y0,Y1,Y7,Y8,Y9,Va,Vh,Vj,Vm,Vo,Vr,Vt,Vu,V3,V4,V5,V9,Uk,Um,Un,Uo,Up,U8,U4,U3,H9]
           tactic =>
            try simp only [U1] at *
            try simp only [nc2] at *
            try simp (maxSteps := 4000000) only [hkb,hqb,hM,e2,zz6,Uu,Us,Uv,Ur,szN,Ut,U9]
            repeat' (first | with_reducible assumption | with_reducible refine And.intro ?_ ?_ | intro _ | omega | (rw [U0]; omega))
            refine ⟨(k + 1, q + eat (t.drop q) 1, out ++ [(q : Int)]), by ((try simp only [U2, Ka, U6, Kg, upd, Kh, Ko, Gd, Nat.reduceDiv, Nat.reduceMod, Nat.reduceMul, Nat.reduceAdd, Nat.reduceEqDiff, List.set_cons_zero, List.set_cons_succ, if_true, if_false, reduceIte]); (first | refine Wk.of_fl ?_ | skip); simp only [Wk, wkK, Gl, wkT, wk1, AV.kept, keptAll, wkO, lk, U5, and_true, true_and, and_self, Nat.reduceEqDiff, Nat.reduceLeDiff, if_true, if_false, reduceIte, reduceCtorEq, Option.isSome, false_implies]; try simp [Wk, wkK, wkT, wk1, AV.kept, keptAll, wkO, lk, U5]), by simp only; omega, by simp only; omega, by simp [h3], ?_, by simp only; omega⟩
            simp only
            rw [← h4, show M - (k + 1) = M - k - 1 by omega]
            simp)
        · have hz : Mn t (M - k) q = [] := by
            cases hc : M - k with
            | zero => rfl
            | succ c => rw [Mn, if_neg (by omega)]
          rw [hz, List.append_nil] at h4
          have zz7 := Kf (⟨0, [], 0⟩ : Node) hil
          (sym =>
           simp [hkb,hqb,hM,zz7,Uu,Us,Uv,Ur,szN,Ut,Ox,ctx_Kids3_c,Oy,ctx_Kids3_b,Pz.eq_def,N0.eq_def,Zb,Zc,Zd,Ze,Zf,Zg,Zo,Zp,Zq,Zt,Zv,Zy,Z6,Z9,Qb,Qd,Qe,Qf,Qn,Qo,Qp,Qq,Qs,Q1,Q2,Q4,Q8,Jf,Jh,Ji,Jj,Jk,Jl,Jy,Jz,J0,J5,J6,J7,J8,J9,Xa,Xb,Xc,Xf,Xh,Xp,Xu,Xv,X4,X6,X7,Wa,Wb,Wc,Wf,Wh,Wi,Wj,Wt,Wu,Wv,Ww,Wx,Wz,W0,W8,W9,Ya,Yb,Yd,Ye,Yi,Ym,Yx,Y0,Y1,Y7,Y8,Y9,Va,Vr,Vt,Vu,V5,Uk,Ul,Um,Un,Uo,Up,U8,U4,U3,H9]
           tactic =>
            try simp only [U1] at *
            try simp only [nc2] at *
            try simp (maxSteps := 4000000) only [hkb,hqb,hM,zz7,Uu,Us,Uv,Ur,szN,Ut,U9]
            repeat' (first | with_reducible assumption | with_reducible refine And.intro ?_ ?_ | intro _ | omega | (rw [U0]; omega))
            rw [e0, h4])
      · have hz : Mn t (M - k) q = [] := by
          rw [show M - k = 0 by omega]
          rfl
        rw [hz, List.append_nil] at h4
        have zz8 := Kf (⟨0, [], 0⟩ : Node) hil
        (sym =>
         simp [hkb,hM,zz8,Uu,Us,Uv,Ur,szN,Ut,Ox,ctx_Kids3_c,Oy,ctx_Kids3_b,Pz.eq_def,N0.eq_def,Zb,Zc,Zd,Ze,Zf,Zg,Zo,Zp,Zq,Zt,Zv,Zy,Z9,Qb,Qd,Qe,Qf,Qn,Qo,Qp,Qq,Qs,Q1,Q2,Q4,Q8,Jf,Jh,Ji,Jj,Jk,Jl,Jy,Jz,J0,J5,J6,J7,J8,J9,Xa,Xb,Xc,Xf,Xh,Xp,Xu,Xv,X4,X6,X7,Wa,Wb,Wc,Wf,Wh,Wi,Wj,Wt,Wu,Wv,Ww,Wx,Wz,W0,W8,W9,Ya,Yb,Yd,Ye,Yi,Ym,Yx,Y0,Y1,Y7,Y8,Y9,Va,Vr,Vt,Vu,V5,Ul,Um,Un,Uo,Up,U8,U4,U3,H9]
         tactic =>
          try simp only [U1] at *
          try simp only [nc2] at *
          try simp (maxSteps := 4000000) only [hkb,hM,zz8,Uu,Us,Uv,Ur,szN,Ut,U9]
          repeat' (first | with_reducible assumption | with_reducible refine And.intro ?_ ?_ | intro _ | omega | (rw [U0]; omega))
          rw [e0, h4])
    · unfold Cr
      rw [if_pos (.inl ‹_›)]
      rfl)
end Go.Am.Ty
set_option linter.unusedSimpArgs false
set_option linter.unusedVariables false
set_option maxHeartbeats 1000000
namespace Go.Am.Ty
open Go.Proofs
open Enc (enc dec)
def popA : Int → List Int → List Int
  | x, [] => if x = 0 then [] else [x]
  | x, y :: r => if x = 0 then popA (y - 1) r else x :: y :: r
def popL : List Int → List Int
  | [] => []
  | x :: r => popA x r
def shal : List Node → List Int → Bool
  | [], _ => true
  | n :: l, rs => if 100 ≤ rs.length then false else shal l (popA (Pu n) rs)
def A0 (t : List Node) : Bool := shal t []
def OpenOk (rs : List Int) : Prop := (∀ x ∈ rs, 0 ≤ x ∧ x ≤ 50) ∧ ∀ x ∈ rs.tail, 1 ≤ x
theorem rev_last {x : Int} {r : List Int} : el ((x :: r).reverse.map enc) r.length = .int .i64 x := by
  simp [el]
theorem rev_take {x : Int} {r : List Int} : ((x :: r).reverse.map (enc : Int → D)).take r.length = r.reverse.map enc := by
  rw [List.reverse_cons, List.map_append, List.take_left' (by simp)]
theorem rev_set {x y : Int} {r : List Int} : ((x :: r).reverse.map (enc : Int → D)).set r.length (.int .i64 y) = (y :: r).reverse.map enc := by
  rw [List.reverse_cons, List.map_append, List.set_append]
  simp
theorem popA_stop {x : Int} {r : List Int} (h : x ≠ 0) : popA x r = x :: r := by
  cases r <;> simp [popA, h]
def Bo : Con := Ss (fun (t : Sl Node) => Tame t.l) (fun t => A0 t.l)
noncomputable def Sg : Ctx := ⟨tab, lkC [(69, N0)], 60, lkB [], [39], false⟩
theorem B0 : Sg.τ = tab := rfl
theorem ctx_shallow3_c : Sg.Γ = lkC [(69, N0)] := rfl
theorem Tj : Sg.dp = 60 := rfl
theorem ctx_shallow3_b : Sg.Δ = lkB [] := rfl
theorem Iu : Sg.cuts = [39] := rfl
theorem D6 : Sg.wr = false := rfl
set_option maxRecDepth 100000 in
theorem good_shallow3 : Gj Tryz.prog (65, Bo) := by
  refine ⟨U7 Tryz.func65 (by kernel_rfl) rfl, ?_⟩
  have K : Ky Tryz.prog Sg := Kd K6 Ki (by
    intro p hp
    simp only [List.mem_cons, List.not_mem_nil, or_false] at hp
    rcases hp with rfl
    · exact good_many3) (by simp)
  obtain ⟨c, hc⟩ : ∃ c, Tryz.f65.body = some c := ⟨_, rfl⟩
  refine Ke K Tryz.func65 hc [.tmp 2] rfl 51 rfl (fun cvs hpre => ?_)
  change Bo.pre cvs at hpre
  unfold Bo at hpre
  obtain ⟨⟨t⟩, rfl, ⟨ht, hm⟩⟩ := Ha hpre
  simp only at ht hm
  simp only [Tryz.f65, Option.some.injEq] at hc
  subst hc
  refine Kw 3 (of_decide_eq_true (by kernel_rfl)) ?_
  (sym =>
   simp [Uu,Us,Uv,Ur,szN,Ut,B0,Bo.eq_def,Zb,Zc,Ze,Zf,Zo,Zr,Z1,Qq,Qs,Q1,Q2,Q4,Jb,Jc,Jd,Je,Jg,Jh,Ji,Jw,J3,J4,J5,J6,J8,Xb,Xd,Xn,Xo,Xu,X4,X6,X8,X9,Wc,Wf,Wh,Wi,Wj,Wn,Wt,Wu,Wv,Ww,Wy,W0,W3,W5,W6,W7,Ya,Yb,Yy,Y7,Y8,Vb,Vc,Vd,Ve,Vf,Vg,Vj,Vt,Vu,V4,V5,Um,Un,U8,U4,U3,H9]
   tactic =>
    try simp only [U1] at *
    try simp only [nc2] at *
    try simp (maxSteps := 4000000) only [Uu,Us,Uv,Ur,szN,Ut,U9]
    refine Km [2, 6, 7, 8, 9, 10, 11, 12, 13, 14, 15, 16, 17, 18, 19, 20, 21, 22, 23, 24, 25, 26, 27, 28, 29, 30, 31, 32, 33, 34, 35, 36, 37, 38, 39, 40, 41, 42, 43, 44, 45, 46, 47, 48, 49, 50] (fun p : Nat × List Int => [(3, .sl 5 (p.2.reverse.map enc).length), (4, .d (.int .i64 p.1)), (5, .dead)]) (fun p : Nat × List Int => [(5, .row 1 (p.2.reverse.map enc) 0)]) (fun p : Nat × List Int => p.1 ≤ t.length ∧ p.2.length ≤ 101 ∧ (∀ x ∈ p.2, 1 ≤ x ∧ x ≤ 50) ∧ shal (t.drop p.1) p.2 = A0 t) (fun p : Nat × List Int => t.length - p.1) (0, []) ?_ ?_ ?_
    · exact ⟨Nat.zero_le _, by simp, by simp, rfl⟩
    · ((try simp only [U2, Ka, U6, Kg, upd, Kh, Ko, Gd, Nat.reduceDiv, Nat.reduceMod, Nat.reduceMul, Nat.reduceAdd, Nat.reduceEqDiff, List.set_cons_zero, List.set_cons_succ, if_true, if_false, reduceIte]); (first | refine Wk.of_fl ?_ | skip); simp only [Wk, wkK, Gl, wkT, wk1, AV.kept, keptAll, wkO, lk, U5, and_true, true_and, and_self, Nat.reduceEqDiff, Nat.reduceLeDiff, if_true, if_false, reduceIte, reduceCtorEq, Option.isSome, false_implies]; try simp [Wk, wkK, wkT, wk1, AV.kept, keptAll, wkO, lk, U5])
    rintro ⟨k, rs⟩ ⟨h1, h2, h3, h4⟩
    simp only at h1 h2 h3 h4
    rcases Ks k t.length with ⟨hlt, hlb⟩ | ⟨hlt, hlb⟩
    · have hmk := hm (t.getD k ⟨0, [], 0⟩) (by simp [hlt])
      have e1 : shal (t.drop k) rs = if 100 ≤ rs.length then false else shal (t.drop (k + 1)) (popA (Pu (t.getD k ⟨0, [], 0⟩)) rs) := by
        rw [List.drop_eq_getElem_cons hlt, shal]
        simp [hlt]
      have zz1 := Kf (⟨0, [], 0⟩ : Node) hlt
      (sym =>
       simp [hlb,zz1,List.length_reverse,Uu,Us,Uv,Ur,szN,Ut,B0,ctx_shallow3_c,Tj,ctx_shallow3_b,N0.eq_def,Zb,Zc,Ze,Zf,Zg,Zo,Zp,Zq,Zr,Zv,Zy,Z1,Z4,Z5,Z6,Z9,Qb,Qd,Qe,Qf,Qn,Qo,Qp,Qq,Qs,Q1,Q2,Q4,Q8,Jb,Jc,Jd,Je,Jf,Jg,Jh,Ji,Jj,Jk,Jl,Jy,Jz,J0,J5,J6,J8,J9,Xa,Xb,Xc,Xd,Xe,Xf,Xp,Xu,X3,X4,X6,X7,X8,X9,Wb,Wc,Wf,Wh,Wi,Wj,Wl,Wn,Wt,Wu,Wv,Ww,Wx,Wz,W0,W3,W4,W5,W6,W7,Ya,Yb,Yd,Ye,Yi,Ym,Yn,Yx,Y0,Y1,Y7,Y8,Y9,Va,Vr,Vt,Vu,V3,V4,V5,V9,Uk,Um,Un,Uo,Up,U8,U4,U3,H9]
       tactic =>
        try simp only [U1] at *
        try simp only [nc2] at *
        try simp (maxSteps := 4000000) only [hlb,zz1,List.length_reverse,Uu,Us,Uv,Ur,szN,Ut,U9]
        revert e1 hmk
        generalize Pu (t.getD k ⟨0, [], 0⟩) = M
        intro hmk e1
        repeat' (first | with_reducible assumption | with_reducible refine And.intro ?_ ?_ | intro _ | omega | (rw [U0]; omega))
        · rw [if_pos (by omega)] at e1
          rw [← h4, e1]
        · rw [if_neg (by omega)] at e1
          have e2 : rs.reverse ++ [M] = (M :: rs).reverse := by simp
          have hS : ∀ (q : List Int), q ≠ [] → ((q.length : Nat) : Int) - 1 = ((q.length - 1 : Nat) : Int) := by
            intro q hq
            have := List.length_pos_iff.2 hq
            omega
          refine Km [23, 24, 25, 26, 27, 28, 29, 30, 31, 32, 33, 34, 35, 36, 37, 38, 39, 40, 41, 42, 43, 44, 45, 46, 47, 48, 49, 50] (fun q : List Int => [(3, .sl 5 (q.reverse.map enc).length), (5, .dead), (12, .dead), (15, .dead), (22, .dead)]) (fun q : List Int => [(5, .row 1 (q.reverse.map enc) 0)]) (fun q : List Int => OpenOk q ∧ q.length ≤ 101 ∧ popL q = popA M rs) (fun q : List Int => q.length) (M :: rs) ?_ ?_ ?_
          · refine ⟨⟨fun x hx => ?_, fun x hx => (h3 x hx).1⟩, by simp only [List.length_cons]; omega, rfl⟩
            rcases List.mem_cons.1 hx with rfl | hx
            · exact hmk
            · have := h3 x hx; omega
          · ((try simp only [U2, Ka, U6, Kg, upd, Kh, Ko, Gd, Nat.reduceDiv, Nat.reduceMod, Nat.reduceMul, Nat.reduceAdd, Nat.reduceEqDiff, List.set_cons_zero, List.set_cons_succ, if_true, if_false, reduceIte]); (first | refine Wk.of_fl ?_ | skip); simp only [Wk, wkK, Gl, wkT, wk1, AV.kept, keptAll, wkO, lk, U5, and_true, true_and, and_self, Nat.reduceEqDiff, Nat.reduceLeDiff, if_true, if_false, reduceIte, reduceCtorEq, Option.isSome, false_implies]; try simp [Wk, wkK, wkT, wk1, AV.kept, keptAll, wkO, lk, U5])
          rintro q ⟨⟨g1, g2⟩, g3, g4⟩
          cases q with
          | nil =>
            have hz : ltB 0 ((0 : Nat) : Int) = false := rfl
            (sym =>
             simp [List.length_reverse,List.reverse_nil,hz,Uu,Us,Uv,Ur,szN,Ut,B0,Tj,Iu,D6,Zb,Zc,Zd,Ze,Zf,Zg,Zo,Zp,Zq,Zt,Zv,Zw,Zy,Z6,Qb,Qd,Qq,Qs,Q1,Q2,Q4,Jh,Ji,Js,Jt,Ju,Jv,Jy,Jz,J0,J1,J2,J5,J6,J7,J8,J9,Xa,Xb,Xc,Xf,X3,X4,X6,X7,X8,Wa,Wc,Wf,Wh,Wi,Wj,Wt,Wu,Wv,Ww,W5,W7,W8,W9,Ya,Yb,Yc,Yd,Ye,Yi,Ym,Yn,Yt,Y7,Y8,Y9,Va,Vt,V1,V4,V5,Uk,Ul,Um,Un,Uo,Up,U8,U4,U3,H9]
             tactic =>
              try simp only [U1] at *
              try simp only [nc2] at *
              try simp (maxSteps := 4000000) only [List.length_reverse,List.reverse_nil,hz,Uu,Us,Uv,Ur,szN,Ut,U9]
              repeat' (first | with_reducible assumption | with_reducible refine And.intro ?_ ?_ | intro _ | omega | (rw [U0]; omega))
              simp only [popL] at g4
              exact ⟨(k + 1, []), by ((try simp only [U2, Ka, U6, Kg, upd, Kh, Ko, Gd, Nat.reduceDiv, Nat.reduceMod, Nat.reduceMul, Nat.reduceAdd, Nat.reduceEqDiff, List.set_cons_zero, List.set_cons_succ, if_true, if_false, reduceIte]); (first | refine Wk.of_fl ?_ | skip); simp only [Wk, wkK, Gl, wkT, wk1, AV.kept, keptAll, wkO, lk, U5, and_true, true_and, and_self, Nat.reduceEqDiff, Nat.reduceLeDiff, if_true, if_false, reduceIte, reduceCtorEq, Option.isSome, false_implies]; try simp [Wk, wkK, wkT, wk1, AV.kept, keptAll, wkO, lk, U5]), by simp only; omega, by simp, by simp, by simp only; rw [← h4, e1, g4], by simp only; omega⟩)
          | cons x r =>
            have hz : ltB 0 ((r.length + 1 : Nat) : Int) = true := by rw [Pv]; omega
            have hy : ((r.length + 1 : Nat) : Int) - 1 = (r.length : Int) := by omega
            have hx1 := g1 x (by simp)
            have hlt' : el (List.map enc (x :: r).reverse) r.length = .int .i64 x := rev_last
            have htk : List.take r.length (List.map (enc : Int → D) (x :: r).reverse) = List.map enc r.reverse := rev_take
            simp only [List.length_cons] at g3
            by_cases hx0 : x = 0
            · subst hx0
              cases r with
              | nil =>
                have hz1 : ltB 0 ((0 : Nat) : Int) = false := rfl
                simp only [List.length_nil] at hz hy hlt' htk
                (sym =>
                 simp [List.length_reverse,hz,hy,hlt',htk,hz1,List.reverse_nil,Uu,Us,Uv,Ur,szN,Ut,B0,Tj,Iu,D6,Zb,Zc,Zd,Ze,Zf,Zg,Zo,Zp,Zq,Zt,Zv,Zw,Zy,Z6,Qb,Qd,Qq,Qs,Q1,Q2,Q4,Jh,Ji,Js,Jt,Ju,Jv,Jy,Jz,J0,J1,J2,J5,J6,J7,J8,J9,Xa,Xb,Xc,Xf,X3,X4,X6,X7,X8,Wa,Wc,Wf,Wh,Wi,Wj,Wt,Wu,Wv,Ww,W6,W7,W8,W9,Ya,Yb,Yc,Yd,Ye,Yi,Ym,Yn,Yt,Y7,Y8,Y9,Va,Ve,Vs,Vt,V1,V2,V4,V5,Uk,Ul,Um,Un,Uo,Up,U8,U4,U3,H9]
                 tactic =>
                  try simp only [U1] at *
                  try simp only [nc2] at *
                  try simp (maxSteps := 4000000) only [List.length_reverse,hz,hy,hlt',htk,hz1,List.reverse_nil,Uu,Us,Uv,Ur,szN,Ut,U9]
                  repeat' (first | with_reducible assumption | with_reducible refine And.intro ?_ ?_ | intro _ | omega | (rw [U0]; omega))
                  exact ⟨[], by ((try simp only [U2, Ka, U6, Kg, upd, Kh, Ko, Gd, Nat.reduceDiv, Nat.reduceMod, Nat.reduceMul, Nat.reduceAdd, Nat.reduceEqDiff, List.set_cons_zero, List.set_cons_succ, if_true, if_false, reduceIte]); (first | refine Wk.of_fl ?_ | skip); simp only [Wk, wkK, Gl, wkT, wk1, AV.kept, keptAll, wkO, lk, U5, and_true, true_and, and_self, Nat.reduceEqDiff, Nat.reduceLeDiff, if_true, if_false, reduceIte, reduceCtorEq, Option.isSome, false_implies]; try simp [Wk, wkK, wkT, wk1, AV.kept, keptAll, wkO, lk, U5]), ⟨by simp, by simp⟩, by simp, by rw [← g4]; rfl, by simp⟩)
              | cons y r =>
                have hy1 := g2 y (by simp)
                have hy2 := g1 y (by simp)
                have hz2 : ltB 0 ((r.length + 1 : Nat) : Int) = true := by rw [Pv]; omega
                have hy3 : ((r.length + 1 : Nat) : Int) - 1 = (r.length : Int) := by omega
                have hl2 : el (List.map enc (y :: r).reverse) r.length = .int .i64 y := rev_last
                simp only [List.length_cons] at hz hy hlt' htk g3
                (sym =>
                 simp [List.length_reverse,hz,hy,hlt',htk,hz2,hy3,hl2,rev_set,Uu,Us,Uv,Ur,szN,Ut,B0,Tj,Iu,D6,Zb,Zc,Zd,Ze,Zf,Zg,Zo,Zp,Zq,Zt,Zv,Zw,Zy,Z6,Qb,Qd,Qq,Qs,Q1,Q2,Q4,Jh,Ji,Js,Jt,Ju,Jv,Jy,Jz,J0,J1,J2,J5,J6,J7,J8,J9,Xa,Xb,Xc,Xf,X3,X4,X6,X7,X8,Wc,Wf,Wh,Wi,Wj,Wt,Wu,Wv,Ww,W6,W8,W9,Ya,Yb,Yc,Yd,Ye,Yi,Ym,Yn,Yt,Y7,Y8,Y9,Va,Vr,Vt,Vz,V1,V4,V5,Uk,Um,Un,Uo,Up,U8,U4,U3,H9]
                 tactic =>
                  try simp only [U1] at *
                  try simp only [nc2] at *
                  try simp (maxSteps := 4000000) only [List.length_reverse,hz,hy,hlt',htk,hz2,hy3,hl2,rev_set,Uu,Us,Uv,Ur,szN,Ut,U9]
                  repeat' (first | with_reducible assumption | with_reducible refine And.intro ?_ ?_ | intro _ | omega | (rw [U0]; omega))
                  refine ⟨(y - 1) :: r, by ((try simp only [U2, Ka, U6, Kg, upd, Kh, Ko, Gd, Nat.reduceDiv, Nat.reduceMod, Nat.reduceMul, Nat.reduceAdd, Nat.reduceEqDiff, List.set_cons_zero, List.set_cons_succ, if_true, if_false, reduceIte]); (first | refine Wk.of_fl ?_ | skip); simp only [Wk, wkK, Gl, wkT, wk1, AV.kept, keptAll, wkO, lk, U5, and_true, true_and, and_self, Nat.reduceEqDiff, Nat.reduceLeDiff, if_true, if_false, reduceIte, reduceCtorEq, Option.isSome, false_implies]; try simp [Wk, wkK, wkT, wk1, AV.kept, keptAll, wkO, lk, U5]), ⟨fun z hz => ?_, fun z hz => g2 z (List.mem_cons_of_mem _ hz)⟩, by simp only [List.length_cons]; omega, by rw [← g4]; simp only [popL, popA, if_true], by simp only [List.length_cons]; omega⟩
                  rcases List.mem_cons.1 hz with rfl | hz
                  · omega
                  · exact g1 z (List.mem_cons_of_mem _ (List.mem_cons_of_mem _ hz)))
            · have hxb : (x == (0 : Int)) = false := by simpa using hx0
              (sym =>
               simp [List.length_reverse,hz,hy,hlt',hxb,Uu,Us,Uv,Ur,szN,Ut,B0,D6,Zb,Zc,Zd,Ze,Zf,Zg,Zo,Zp,Zq,Zt,Zv,Zy,Z6,Qb,Qd,Qq,Qs,Q1,Q2,Q4,Jh,Ji,Jy,Jz,J0,J5,J6,J8,J9,Xa,Xb,Xc,X4,X6,X7,Wa,Wc,Wf,Wh,Wi,Wj,Wt,Wu,Wv,Ww,W6,W8,W9,Ya,Yb,Yd,Ye,Yi,Ym,Yt,Y7,Y8,Y9,Va,Vr,Vt,V4,V5,Uk,Ul,Um,Un,Uo,Up,U8,U4,U3,H9]
               tactic =>
                try simp only [U1] at *
                try simp only [nc2] at *
                try simp (maxSteps := 4000000) only [List.length_reverse,hz,hy,hlt',hxb,Uu,Us,Uv,Ur,szN,Ut,U9]
                repeat' (first | with_reducible assumption | with_reducible refine And.intro ?_ ?_ | intro _ | omega | (rw [U0]; omega))
                have e3 : popA M rs = x :: r := by rw [← g4]; exact popA_stop hx0
                refine ⟨(k + 1, x :: r), by ((try simp only [U2, Ka, U6, Kg, upd, Kh, Ko, Gd, Nat.reduceDiv, Nat.reduceMod, Nat.reduceMul, Nat.reduceAdd, Nat.reduceEqDiff, List.set_cons_zero, List.set_cons_succ, if_true, if_false, reduceIte]); (first | refine Wk.of_fl ?_ | skip); simp only [Wk, wkK, Gl, wkT, wk1, AV.kept, keptAll, wkO, lk, U5, and_true, true_and, and_self, Nat.reduceEqDiff, Nat.reduceLeDiff, if_true, if_false, reduceIte, reduceCtorEq, Option.isSome, false_implies]; try simp [Wk, wkK, wkT, wk1, AV.kept, keptAll, wkO, lk, U5]), by simp only; omega, by simp only [List.length_cons]; omega, fun z hz => ?_, by simp only; rw [← h4, e1, e3], by simp only; omega⟩
                rcases List.mem_cons.1 hz with rfl | hz
                · omega
                · exact ⟨g2 z hz, (g1 z (List.mem_cons_of_mem _ hz)).2⟩))
    · (sym =>
       simp [hlb,Uu,Us,Uv,Ur,szN,Ut,B0,Tj,Zb,Zc,Ze,Zf,Zg,Zo,Z6,Qb,Qd,Qn,Qo,Qp,Qq,Qs,Q1,Q2,Q4,Q8,Ji,Jk,Jy,Jz,J0,J5,J6,J8,Xa,Xb,Xc,Xf,X4,X6,X7,Wa,Wb,Wc,Wf,Wh,Wi,Wj,Wt,Wu,Wv,Ww,Ya,Yb,Yd,Ye,Yi,Y0,Y1,Y7,Y8,Y9,Va,Vt,Vu,V5,Ul,Um,Un,Uo,Up,U8,U4,U3,H9]
       tactic =>
        try simp only [U1] at *
        try simp only [nc2] at *
        try simp (maxSteps := 4000000) only [hlb,Uu,Us,Uv,Ur,szN,Ut,U9]
        rw [← h4, List.drop_eq_nil_of_le hlt]
        rfl))
end Go.Am.Ty
