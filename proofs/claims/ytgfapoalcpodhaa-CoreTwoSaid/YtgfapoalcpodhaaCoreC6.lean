/- Contracts of functions that the laws of core reach, and plain laws of sets. Conditions: those that each contract states. -/
import Derived.Test.YtgfapoalcpodhaaCoreC5
set_option linter.unusedSimpArgs false
set_option linter.unusedVariables false
set_option maxHeartbeats 1000000
namespace Go.Am.Core
open Go.Proofs Go.Shelf
open Go.RowKit (Below)
open Enc (enc dec)

theorem seg_set {α : Type} (l : List α) (o : Nat) (v : α) (vs : List α) (h : o < l.length) : (l.set o v).take (o + 1) ++ vs ++ (l.set o v).drop (o + 1 + vs.length) = l.take o ++ (v :: vs) ++ l.drop (o + (v :: vs).length) := by
  have e1 : (l.set o v).take (o + 1) = l.take o ++ [v] := by
    rw [List.take_succ_eq_append_getElem (by simpa using h)]
    simp [List.take_set_of_le]
  have e2 : (l.set o v).drop (o + 1 + vs.length) = l.drop (o + (v :: vs).length) := by
    rw [List.drop_set_of_lt (by omega)]
    congr 1
    simp
    omega
  rw [e1, e2]
  simp

theorem heap_setCells {b : Nat} {t : TypeId} : ∀ (vs : List Value) (o : Nat) (w : World) (cs : Array Value), w.heap[b]? = some (.cells cs t (0, 0)) → o + vs.length ≤ cs.size →
    ∃ cs' : Array Value, (w.setCells b o vs).heap[b]? = some (.cells cs' t (0, 0)) ∧ cs'.size = cs.size ∧ cs'.toList = cs.toList.take o ++ vs ++ cs.toList.drop (o + vs.length)
  | [], o, w, cs, h, _ => ⟨cs, h, rfl, by simp⟩
  | v :: vs, o, w, cs, h, hl => by
    simp only [List.length_cons] at hl
    obtain ⟨cs', h1, h2, h3⟩ := heap_setCells vs (o + 1) (w.setCell ⟨b, o, none⟩ v) (cs.setIfInBounds o v) (heap_setCell_same w b o cs t v h) (by simp; omega)
    refine ⟨cs', h1, by simpa using h2, ?_⟩
    rw [h3, Array.toList_setIfInBounds]
    exact seg_set cs.toList o v vs (by simp; omega)

theorem frame_setCells {b base : Nat} {pass : Nat → Prop} (hb : base ≤ b ∨ pass b) : ∀ (vs : List Value) (o : Nat) (w : World), Frame base pass w (w.setCells b o vs)
  | [], _, w => Frame.refl _ _ _
  | v :: vs, o, w => by
    refine Frame.trans (b := w.setCell ⟨b, o, none⟩ v) ⟨rfl, rfl, rfl, by simp [World.setCell], fun k hk hp => ?_⟩ (frame_setCells hb vs (o + 1) _)
    refine heap_setCell_other w ⟨b, o, none⟩ k v ?_
    rintro rfl
    rcases hb with hb | hb
    · omega
    · exact hp hb

/-! ### slices.Delete -/
def con37 : Con := ⟨[true, false, false], [true], fun c => ∃ (l : List Int) (i j : Nat), c = [.own 1 (l.map enc), .d (.int .i64 i), .d (.int .i64 j)] ∧ i ≤ j ∧ j ≤ l.length, fun c => match c with
  | [.own s l, .d x, .d y] => .own s (l.take x.i.toNat ++ l.drop y.i.toNat)
  | _ => .d .nilp⟩
theorem good37 : Good Try.prog (37, con37) := by
  refine ⟨enters_of Try.func37 (by kernel_rfl) rfl, ?_⟩
  intro m w cvs vs hpre hcv hnd hnew
  obtain ⟨l, i, j, rfl, hij, hj⟩ := hpre
  simp only [CVRs, CVR] at hcv
  obtain ⟨v, r, rfl, hv, v1, r1, rfl, h1, v2, r2, rfl, h2, rfl⟩ := hcv
  simp only [R] at h1 h2
  subst h1; subst h2
  have hfn : con37.fn [.own 1 (l.map enc), .d (.int .i64 i), .d (.int .i64 j)] = .own 1 ((l.take i ++ l.drop j).map enc) := by
    simp [con37, D.i, List.map_take, List.map_drop]
  rw [hfn]
  rcases hv with ⟨rfl, hl⟩ | ⟨b, cap, cs, t, rfl, hc, hx, hg, hs, hre, hm⟩
  · have : l = [] := by simpa using hl
    subst this
    have hj0 : j = 0 := by simpa using hj
    subst hj0
    have hi0 : i = 0 := by omega
    subst hi0
    show Calls Try.prog (rho.f 23) #[Value.slice none 0 0, .int .i64 0, .int .i64 0] w _
    refine (Any.slices_Delete_int_empty L23 none 0 w).mono ?_
    rintro e w' ⟨rfl, rfl⟩
    refine ⟨_, m, rfl, Frame.refl _ _ _, fun _ _ _ => rfl, hnew, ?_⟩
    simp only [Res, CVRs, CVR]
    exact ⟨⟨_, [], rfl, .inl ⟨rfl, by simp⟩, rfl⟩, by simp [ownsOf, Value.ownBlock]⟩
  · simp only [List.length_map] at hc hre
    rw [RE_ints, Nat.mul_one] at hre
    have hsz : cs.size = cap := by omega
    have hcell : ∀ k, k < l.length → w.cell? ⟨b, 0 + k, none⟩ = some (.int .i64 (l.getD k 0)) := by
      intro k hk
      have e1 : (cs.toList.take l.length)[k]? = some (Value.int .i64 (l.getD k 0)) := by rw [hre]; simp [hk]
      rw [List.getElem?_take, if_pos hk] at e1
      simp only [World.cell?, hg]
      simpa using e1
    show Calls Try.prog (rho.f 23) #[Value.slice (some ⟨b, 0, none⟩) (l.map enc).length cap, .int .i64 i, .int .i64 j] w _
    rw [List.length_map]
    refine (Any.slices_Delete_int_cells L23 b 0 l.length cap i j l w (Nat.le_refl _) hc (by unfold maxLen at hx; omega) hij hj hcell (fun k hk => ?_)).mono ?_
    · simp [World.frozen?, hg]
    · rintro e w' ⟨rfl, q, rfl⟩
      have hown : b ∈ ownsOf [CV.own 1 (l.map enc), .d (.int .i64 i), .d (.int .i64 j)] [Value.slice (some ⟨b, 0, none⟩) (l.map enc).length cap, .int .i64 i, .int .i64 j] := by simp [ownsOf, Value.ownBlock]
      obtain ⟨cs', k1, k2, k3⟩ := heap_setCells (((l.take l.length).take i ++ (l.take l.length).drop j ++ List.replicate (j - i) 0).map (Value.int .i64)) 0 (w.drewN q) cs hg (by simp; omega)
      have fr := frame_setCells (base := w.heap.size) (.inr hown) (((l.take l.length).take i ++ (l.take l.length).drop j ++ List.replicate (j - i) 0).map (Value.int .i64)) 0 (w.drewN q)
      refine ⟨_, m, rfl, ⟨fr.os, fr.tape, fr.output, fr.size, fr.block⟩, fun _ _ _ => rfl, fun k hk => hnew k (Nat.le_trans fr.size hk), ?_⟩
      simp only [Res, CVRs, CVR]
      refine ⟨⟨_, [], rfl, .inr ⟨b, cap, cs', t, ?_, ?_, hx, k1, by omega, ?_, hm⟩, rfl⟩, fun k hk => .inr ?_⟩
      · simp
        omega
      · simp
        omega
      · rw [RE_ints, k3]
        simp
        rw [← List.append_assoc, List.take_append_of_le_length (by simp), List.take_of_length_le (by simp)]
      · simp [ownsOf, Value.ownBlock] at hk ⊢
        exact hk

end Go.Am.Core
