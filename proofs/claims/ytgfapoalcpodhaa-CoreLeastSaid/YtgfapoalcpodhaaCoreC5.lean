/- Contracts of functions that the laws of core reach, and plain laws of sets. Conditions: those that each contract states. -/
import Derived.Test.YtgfapoalcpodhaaCoreC4
import Derived.Shelf.Slices.Clone
import Derived.Shelf.Slices.Delete
import Derived.Shelf.Slices.Cells
import Derived.Shelf.Slices.Empties
import Derived.Shelf.Spec.SlicesInsert
import Derived.Shelf.Spec.SlicesInsertGrow
set_option linter.unusedSimpArgs false
set_option linter.unusedVariables false
set_option maxHeartbeats 1000000
namespace Go.Am.Core
open Go.Proofs Go.Shelf
open Go.RowKit (Below)
open Enc (enc dec)

def rho : Ren := ⟨fun x => if x = 15 then 27 else if x = 23 then 37 else if x = 21 then 39 else if x = 27 then 44 else if x = 28 then 45 else if x = 35 then 47 else if x = 39 then 48 else x, fun x => x, fun x => x⟩
theorem t27 : Try.prog.funcs[27]? = some (Body2.n15 rho) := by rw [Try.func27]; kernel_rfl
theorem L15 : Lays2.n15 Try.prog rho := ⟨by kernel_rfl, t27, Try.underlying3, Try.isAgg3, Try.sizeOf3, Try.zeroValue3, Try.underlying4, Try.isAgg4, Try.sizeOf4, Try.zeroValue4, Try.underlying22, Try.isAgg22, Try.sizeOf22, Try.zeroValue22, by kernel_rfl⟩
theorem t37 : Try.prog.funcs[37]? = some (Body2.n23 rho) := by rw [Try.func37]; kernel_rfl
theorem L23 : Lays2.n23 Try.prog rho := ⟨by kernel_rfl, t37, Try.underlying0, Try.isAgg0, Try.sizeOf0, Try.zeroValue0, Try.underlying3, Try.isAgg3, Try.sizeOf3, Try.zeroValue3, Try.underlying4, Try.isAgg4, Try.sizeOf4, Try.zeroValue4, Try.underlying22, Try.isAgg22, Try.sizeOf22, Try.zeroValue22, by kernel_rfl⟩

theorem RE_ints {F : Fix} : ∀ {l : List Int} {vs : List Value}, RE F 1 (l.map enc) vs ↔ vs = l.map (Value.int .i64)
  | [], vs => by simp [RE]
  | x :: l, vs => by
    simp only [List.map_cons, RE, encI_def, R]
    constructor
    · rintro ⟨v, r, rfl, _, _, rfl, h⟩
      have h' : RE F 1 (l.map enc) r := h
      rw [RE_ints.1 h']
      simp [Value.cells]
    · rintro rfl
      refine ⟨.int .i64 x, l.map (Value.int .i64), by simp [Value.cells], by simp [Value.cells], by simp [Value.cells, Value.oneCell'], rfl, ?_⟩
      exact RE_ints.2 rfl

theorem own_ints {w : World} {m : Nat → Nat} {base : Nat} {e : TypeId} {v : Value} {l : List Int} (h : w.ownsRow base e 1 v l.length (l.map (Value.int .i64))) (hm : ∀ b, base ≤ b → m b = 0) :
    OwnV ⟨w, m⟩ 1 (l.map enc) v ∧ ∀ b, v.ownBlock = some b → base ≤ b := by
  rcases h.2 with ⟨rfl, hn⟩ | ⟨g, cap, cur, rfl, hb, hg, hc, hx, hs, ht⟩
  · have : l = [] := List.eq_nil_of_length_eq_zero hn
    subst this
    exact ⟨.inl ⟨rfl, rfl⟩, by simp [Value.ownBlock]⟩
  · refine ⟨.inr ⟨g, cap, cur, e, by simp, by simpa using hc, hx, hg, hs, ?_, hm g hb⟩, by simp [Value.ownBlock]; exact hb⟩
    rw [RE_ints]
    simpa using ht

/-! ### slices.Clone -/
def con27 : Con := ⟨[false], [true], fun c => match c with
  | [.d x] => isE (Sl Int) x ∧ (dec x : Sl Int).l.length ≤ 1048576
  | _ => False, fun c => match c with
  | [.d x] => .own 1 x.l
  | _ => .d .nilp⟩
theorem good27 : Good Try.prog (27, con27) := by
  refine ⟨enters_of Try.func27 (by kernel_rfl) rfl, ?_⟩
  intro m w cvs vs hpre hcv hnd hnew
  obtain ⟨l, rfl, hl⟩ : ∃ l : List Int, cvs = [.d (enc (Sl.mk l))] ∧ l.length ≤ 1048576 := by
    change con27.pre cvs at hpre
    unfold con27 at hpre
    simp only at hpre
    split at hpre
    · next x => exact ⟨(dec x : Sl Int).l, by rw [Sl.eta, ← hpre.1], hpre.2⟩
    · exact hpre.elim
  simp only [CVRs, CVR] at hcv
  obtain ⟨v, r, rfl, hr, rfl⟩ := hcv
  change R ⟨w, m⟩ (.list 1 (l.map enc)) v at hr
  simp only [R, List.length_map] at hr
  obtain ⟨A, c, rfl, hc, hx, hmem⟩ := hr
  have fin : ∀ (v' : Value) (w' : World), w'.ownsRow w.heap.size 3 1 v' l.length (l.map (Value.int .i64)) → Below w.heap.size w w' →
      ∃ u m', Ending.returned v' = .returned u ∧ Frame w.heap.size (· ∈ ownsOf [CV.d (enc (Sl.mk l))] [Value.slice A l.length c]) w w' ∧ (∀ b, b < w.heap.size → b ∉ ownsOf [CV.d (enc (Sl.mk l))] [Value.slice A l.length c] → m' b = m b) ∧
        (∀ b, w'.heap.size ≤ b → m' b = 0) ∧ Res ⟨w', m'⟩ w.heap.size (· ∈ ownsOf [CV.d (enc (Sl.mk l))] [Value.slice A l.length c]) (con27.fn [CV.d (enc (Sl.mk l))]) u := by
    intro v' w' ho hb
    obtain ⟨h1, h2⟩ := own_ints (m := fun b => if b < w.heap.size then m b else 0) ho (fun b hb => if_neg (by omega))
    refine ⟨v', fun b => if b < w.heap.size then m b else 0, rfl, ⟨hb.os, hb.tape, hb.output, hb.size, fun b hbb _ => hb.block b hbb⟩, fun b hbb _ => if_pos hbb, fun b hbb => if_neg (by have := hb.size; omega), ?_⟩
    show Res _ _ _ (.own 1 (l.map enc)) v'
    simp only [Res, CVRs, CVR]
    refine ⟨⟨v', [], rfl, h1, rfl⟩, fun b hbb => .inl (h2 b ?_)⟩
    simpa [ownsOf] using hbb
  show Calls Try.prog (rho.f 15) #[Value.slice A l.length c] w _
  cases A with
  | none =>
    have : l = [] := by
      apply Classical.byContradiction
      intro hne
      obtain ⟨b, off, vs, h1, _⟩ := hmem (by simpa using hne)
      cases h1
    subst this
    refine (Any.slices_Clone_int_nil L15 _ c w).mono ?_
    rintro e w' ⟨rfl, rfl⟩
    exact fin _ _ (World.ownsRow_nil _ _ _ _) (Below.refl _ _)
  | some a =>
    by_cases hne : l = []
    · subst hne
      refine (Any.slices_Clone_int_zero L15 a c w).mono ?_
      rintro e w' ⟨v', rfl, ho, _, hb⟩
      exact fin _ _ ho hb
    · obtain ⟨b, off, vs, h1, h2, h3⟩ := hmem (by simpa using hne)
      injection h1 with h1
      subst h1
      rw [RE_ints] at h2
      subst h2
      refine (Any.slices_Clone_int L15 b off l.length c l w (Nat.le_refl _) (by omega) (fun j hj => ?_)).mono ?_
      · refine h3.2 j _ ?_
        simp [hj]
      · rintro e w' ⟨v', rfl, ho, _, hb⟩
        rw [List.take_of_length_le (Nat.le_refl _)] at ho
        exact fin _ _ ho hb

end Go.Am.Core
