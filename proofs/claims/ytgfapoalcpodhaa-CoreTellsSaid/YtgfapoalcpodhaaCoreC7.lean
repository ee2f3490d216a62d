/- Contracts of functions that the laws of core reach, and plain laws of sets. Conditions: those that each contract states. -/
import Derived.Test.YtgfapoalcpodhaaCoreC6
set_option linter.unusedSimpArgs false
set_option linter.unusedVariables false
set_option maxHeartbeats 1000000
namespace Go.Am.Core
open Go.Proofs Go.Shelf
open Go.RowKit (Below)
open Enc (enc dec)

theorem t39 : Try.prog.funcs[39]? = some (Body2.n21 rho) := by rw [Try.func39]; kernel_rfl
theorem t44 : Try.prog.funcs[44]? = some (Body2.n27 rho) := by rw [Try.func44]; kernel_rfl
theorem t45 : Try.prog.funcs[45]? = some (Body2.n28 rho) := by rw [Try.func45]; kernel_rfl
theorem t47 : Try.prog.funcs[47]? = some (Body2.n35 rho) := by rw [Try.func47]; kernel_rfl
theorem t48 : Try.prog.funcs[48]? = some (Body2.n39 rho) := by rw [Try.func48]; kernel_rfl
theorem L21 : Lays2.n21 Try.prog rho := ⟨by kernel_rfl, t39, t44, t45, t47, t48, Try.underlying0, Try.isAgg0, Try.sizeOf0, Try.zeroValue0, Try.underlying3, Try.isAgg3, Try.sizeOf3, Try.zeroValue3, Try.underlying4, Try.isAgg4, Try.sizeOf4, Try.zeroValue4, Try.underlying22, Try.isAgg22, Try.sizeOf22, Try.zeroValue22, by kernel_rfl⟩

theorem list_shift {α : Type} (cs L R : List α) (x : α) (i n : Nat) (h : cs.take n = L) (hL : L.length = n) (hi : i < n) (hn : n + 1 ≤ cs.length) :
    (((cs.take (i + 1) ++ L.drop i ++ R).take i ++ [x] ++ (cs.take (i + 1) ++ L.drop i ++ R).drop (i + 1))).take (n + 1) = L.take i ++ [x] ++ L.drop i := by
  have e1 : (cs.take (i + 1) ++ L.drop i ++ R).take i = L.take i := by
    rw [List.append_assoc, List.take_append_of_le_length (by simp; omega), List.take_take, ← h, List.take_take]
    congr 1
    omega
  have e2 : (cs.take (i + 1) ++ L.drop i ++ R).drop (i + 1) = L.drop i ++ R := by
    have hl : (cs.take (i + 1)).length = i + 1 := by simp; omega
    rw [List.append_assoc]
    generalize cs.take (i + 1) = A at hl ⊢
    rw [← hl, List.drop_left]
  rw [e1, e2, ← List.append_assoc, List.take_append_of_le_length (by simp; omega), List.take_of_length_le (by simp; omega)]

/-! ### slices.Insert of one value -/
def con39 : Con := ⟨[true, false, true], [true], fun c => ∃ (l : List Int) (i : Nat) (x : Int), c = [.own 1 (l.map enc), .d (.int .i64 i), .own 1 [enc x]] ∧ i ≤ l.length ∧ l.length ≤ 1048576, fun c => match c with
  | [.own s l, .d y, .own _ r] => .own s (l.take y.i.toNat ++ r ++ l.drop y.i.toNat)
  | _ => .d .nilp⟩
theorem good39 : Good Try.prog (39, con39) := by
  refine ⟨enters_of Try.func39 (by kernel_rfl) rfl, ?_⟩
  intro m w cvs vs hpre hcv hnd hnew
  obtain ⟨l, i, x, rfl, hi, hl⟩ := hpre
  simp only [CVRs, CVR] at hcv
  obtain ⟨v, r, rfl, hv, v1, r1, rfl, h1, v2, r2, rfl, h2, rfl⟩ := hcv
  simp only [R] at h1
  subst h1
  have hfn : con39.fn [.own 1 (l.map enc), .d (.int .i64 i), .own 1 [enc x]] = .own 1 ((l.take i ++ [x] ++ l.drop i).map enc) := by
    simp [con39, D.i, List.map_take, List.map_drop]
  rw [hfn]
  rcases h2 with ⟨_, hn⟩ | ⟨vb, vc, vcs, vt, rfl, hvc, hvx, hvg, hvs, hvre, hvm⟩
  · cases hn
  have hvre' : RE ⟨w, m⟩ 1 ([x].map enc) (vcs.toList.take (1 * 1)) := hvre
  rw [RE_ints] at hvre'
  have hvcell : ∀ j u, [Value.int .i64 x][j]? = some u → w.cell? ⟨vb, 0 + j, none⟩ = some u := by
    intro j u hj
    cases j with
    | succ j => simp at hj
    | zero =>
      simp only [List.getElem?_cons_zero, Option.some.injEq] at hj
      subst hj
      have e1 : (vcs.toList.take (1 * 1))[0]? = some (Value.int .i64 x) := by rw [hvre']; rfl
      rw [List.getElem?_take, if_pos (by omega)] at e1
      simp only [World.cell?, hvg]
      simpa using e1
  -- a new row, or the old one
  have fin : ∀ (S : List Nat) (v' : Value) (w' : World) (g cap' : Nat) (cs' : Array Value) (t' : TypeId), v' = .slice (some ⟨g, 0, none⟩) (l.length + 1) cap' → l.length + 1 ≤ cap' → cap' ≤ maxLen → w'.heap[g]? = some (.cells cs' t' (0, 0)) → cs'.size = cap' →
      cs'.toList.take (l.length + 1) = (l.take i ++ [x] ++ l.drop i).map (Value.int .i64) → (w.heap.size ≤ g ∨ (g ∈ S ∧ m g = 0)) → Frame w.heap.size (· ∈ S) w w' →
      ∃ u m', Ending.returned v' = .returned u ∧ Frame w.heap.size (· ∈ S) w w' ∧ (∀ b, b < w.heap.size → b ∉ S → m' b = m b) ∧ (∀ b, w'.heap.size ≤ b → m' b = 0) ∧ Res ⟨w', m'⟩ w.heap.size (· ∈ S) (.own 1 ((l.take i ++ [x] ++ l.drop i).map enc)) u := by
    intro S v' w' g cap' cs' t' hv' hc' hx' hg' hs' ht' hgS hfr
    subst hv'
    refine ⟨_, m, rfl, hfr, fun _ _ _ => rfl, fun b hb => hnew b (Nat.le_trans hfr.size hb), ?_⟩
    have hlen : (l.take i ++ [x] ++ l.drop i).length = l.length + 1 := by simp; omega
    simp only [Res, CVRs, CVR]
    refine ⟨⟨_, [], rfl, .inr ⟨g, cap', cs', t', by rw [List.length_map, hlen], by rw [List.length_map, hlen]; exact hc', hx', hg', by omega, ?_, ?_⟩, rfl⟩, fun b hb => ?_⟩
    · rw [RE_ints, List.length_map, hlen, Nat.mul_one]
      exact ht'
    · rcases hgS with h | h
      · exact hnew g h
      · exact h.2
    · simp [ownsOf, Value.ownBlock] at hb
      subst hb
      rcases hgS with h | h
      · exact .inl h
      · exact .inr h.1
  -- at the end, where there is no room
  have atEnd : ∀ (base : Option Addr) (c : Nat), (∀ b ∈ ownsOf [CV.own 1 (l.map enc), .d (.int .i64 i), .own 1 [enc x]] [Value.slice base l.length c, .int .i64 i, .slice (some ⟨vb, 0, none⟩) 1 vc], b < w.heap.size) → i = l.length → l.length ≤ c → c < l.length + 1 → (base = none → l.length = 0) →
      (∀ a, base = some a → ∀ j u, (l.map (Value.int .i64))[j]? = some u → w.cell? (a.add j) = some u) →
      Calls Try.prog 39 #[Value.slice base l.length c, .int .i64 i, .slice (some ⟨vb, 0, none⟩) 1 vc] w fun e w' => ∃ v m', e = .returned v ∧ Frame w.heap.size (· ∈ ownsOf [CV.own 1 (l.map enc), .d (.int .i64 i), .own 1 [enc x]] [Value.slice base l.length c, .int .i64 i, .slice (some ⟨vb, 0, none⟩) 1 vc]) w w' ∧
        (∀ b, b < w.heap.size → b ∉ ownsOf [CV.own 1 (l.map enc), .d (.int .i64 i), .own 1 [enc x]] [Value.slice base l.length c, .int .i64 i, .slice (some ⟨vb, 0, none⟩) 1 vc] → m' b = m b) ∧ (∀ b, w'.heap.size ≤ b → m' b = 0) ∧
        Res ⟨w', m'⟩ w.heap.size (· ∈ ownsOf [CV.own 1 (l.map enc), .d (.int .i64 i), .own 1 [enc x]] [Value.slice base l.length c, .int .i64 i, .slice (some ⟨vb, 0, none⟩) 1 vc]) (.own 1 ((l.take i ++ [x] ++ l.drop i).map enc)) v := by
    intro base c hown hie hc1 hc2 hnil hcell
    subst hie
    show Calls Try.prog (rho.f 21) _ w _
    refine (Any2.slices_Insert_int_end_grow L21 base l.length c vb 0 1 vc (l.map (Value.int .i64)) [.int .i64 x] w (by omega) hc1 hc2 (by omega) (by simp) rfl hnil hcell hvcell (by simp [Value.oneCell'])).mono ?_
    rintro e w' ⟨rfl, rfl⟩
    have hge := grownCap_ge w (l.length + 1) c 3
    refine fin _ _ _ w.heap.size _ _ _ rfl hge (grownCap_le_maxLen w _ _ _ (by unfold maxLen; omega)) (heap_alloc_new w.drew _) ?_ ?_ (.inl (Nat.le_refl _)) ⟨rfl, rfl, rfl, by show w.heap.size ≤ (w.heap.push _).size; simp, fun b hb _ => heap_alloc_old w.drew _ hb⟩
    · rw [Array.size_append, List.size_toArray, size_zeroCells']
      change _ = grownCap w (l.length + 1) c 3
      simp only [List.length_append, List.length_map, List.length_singleton, Value.cells]
      have e3 : grownCap w (l.length + 1) c (rho.t 3) = grownCap w (l.length + 1) c 3 := rfl
      rw [e3]
      simp
      omega
    · rw [Array.toList_append, List.toList_toArray, List.take_append_of_le_length (by simp), List.take_of_length_le (by simp), List.take_of_length_le (Nat.le_refl _), List.drop_length]
      simp
  rcases hv with ⟨rfl, hl0⟩ | ⟨b, cap, cs, t, rfl, hc, hx, hg, hs, hre, hm⟩
  · have : l = [] := by simpa using hl0
    subst this
    have hi0 : i = 0 := by simpa using hi
    exact atEnd none 0 (by simp [ownsOf, Value.ownBlock]; exact (Array.getElem?_eq_some_iff.1 hvg).1) hi0 (Nat.zero_le _) (by simp) (fun _ => rfl) (fun a ha => by cases ha)
  · simp only [List.length_map] at hc hre hnd ⊢
    rw [RE_ints, Nat.mul_one] at hre
    have hsz : cs.size = cap := by omega
    have hcell : ∀ j u, (l.map (Value.int .i64))[j]? = some u → w.cell? ⟨b, 0 + j, none⟩ = some u := by
      intro k u hk
      have hkl : k < l.length := by have := (List.getElem?_eq_some_iff.1 hk).1; simpa using this
      rw [← hre, List.getElem?_take, if_pos hkl] at hk
      simp only [World.cell?, hg]
      simpa using hk
    have hbw : b < w.heap.size := (Array.getElem?_eq_some_iff.1 hg).1
    have hvw : vb < w.heap.size := (Array.getElem?_eq_some_iff.1 hvg).1
    have hbv : vb ≠ b := by
      simp [ownsOf, Value.ownBlock] at hnd
      exact fun e => hnd e.symm
    have hown : b ∈ ownsOf [CV.own 1 (l.map enc), .d (.int .i64 i), .own 1 [enc x]] [Value.slice (some ⟨b, 0, none⟩) l.length cap, .int .i64 i, .slice (some ⟨vb, 0, none⟩) 1 vc] := by simp [ownsOf, Value.ownBlock]
    by_cases hroom : l.length + 1 ≤ cap
    · have hsome : ∀ j, j < l.length + 1 → (w.cell? ⟨b, 0 + j, none⟩).isSome = true := by
        intro j hj
        simp only [World.cell?, hg]
        simp
        omega
      by_cases hie : i = l.length
      · subst hie
        show Calls Try.prog (rho.f 21) _ w _
        refine (Any2.slices_Insert_int_end_room L21 b 0 l.length cap vb 0 1 vc [.int .i64 x] w (by omega) hroom (by unfold maxLen at hx; omega) rfl (fun j hj => ?_) (fun j hj => by simp [World.frozen?, hg]) hvcell (by simp [Value.oneCell'])).mono ?_
        · have := hsome (l.length + j) (by omega)
          rwa [← Nat.add_assoc] at this
        · rintro e w' ⟨rfl, rfl⟩
          obtain ⟨cs', k1, k2, k3⟩ := heap_setCells [Value.int .i64 x] (0 + l.length) w cs hg (by simp; omega)
          refine fin _ _ _ b cap cs' t rfl hroom hx k1 (by omega) ?_ (.inr ⟨hown, hm⟩) (frame_setCells (.inr hown) _ _ _)
          rw [k3]
          simp only [Nat.zero_add, hre]
          rw [List.take_append_of_le_length (by simp), List.take_of_length_le (by simp), List.take_of_length_le (Nat.le_refl _), List.drop_length]
          simp
      · show Calls Try.prog (rho.f 21) _ w _
        refine (Any2.slices_Insert_int_shift L21 b 0 l.length cap i vb 0 1 vc (l.map (Value.int .i64)) [.int .i64 x] w (by omega) (by omega) hroom (by unfold maxLen at hx; omega) hbv (by simp) rfl hcell hsome (fun j hj => by simp [World.frozen?, hg]) hvcell
          (by simp [Value.oneCell']) (by simp [Value.oneCell']) vt t vcs.size cs.size (by simp [World.shape?, hvg]) (by simp [World.shape?, hg]) (by omega) (by simp [World.frozen?, hvg]) (by simp [World.frozen?, hvg])).mono ?_
        rintro e w' ⟨rfl, rfl⟩
        obtain ⟨cs1, k1, k2, k3⟩ := heap_setCells ((l.map (Value.int .i64)).drop i) (0 + (i + 1)) w.drew cs hg (by simp; omega)
        obtain ⟨cs2, j1, j2, j3⟩ := heap_setCells [Value.int .i64 x] (0 + i) _ cs1 k1 (by simp; omega)
        have f1 := frame_setCells (base := w.heap.size) (pass := (· ∈ ownsOf [CV.own 1 (l.map enc), .d (.int .i64 i), .own 1 [enc x]] [Value.slice (some ⟨b, 0, none⟩) l.length cap, .int .i64 i, .slice (some ⟨vb, 0, none⟩) 1 vc])) (.inr hown) ((l.map (Value.int .i64)).drop i) (0 + (i + 1)) w.drew
        have f2 := f1.trans (frame_setCells (.inr hown) [Value.int .i64 x] (0 + i) _)
        refine fin _ _ _ b cap cs2 t rfl hroom hx j1 (by omega) ?_ (.inr ⟨hown, hm⟩) ⟨f2.os, f2.tape, f2.output, f2.size, f2.block⟩
        rw [j3, k3]
        simp only [Nat.zero_add, List.length_singleton]
        rw [list_shift cs.toList (l.map (Value.int .i64)) _ _ i l.length hre (by simp) (by omega) (by simp; omega)]
        simp [List.map_take, List.map_drop]
    · by_cases hie : i = l.length
      · refine atEnd (some ⟨b, 0, none⟩) cap ?_ hie hc (by omega) (fun e => by cases e) (fun a ha j u hj => ?_)
        · intro k hk
          simp [ownsOf, Value.ownBlock] at hk
          rcases hk with rfl | rfl
          · exact hbw
          · exact hvw
        · injection ha with ha
          subst ha
          rw [Addr.add_lit]
          exact hcell j u hj
      · show Calls Try.prog (rho.f 21) _ w _
        refine (Any2.slices_Insert_int_grow L21 b 0 l.length cap i vb 0 1 vc (l.map (Value.int .i64)) [.int .i64 x] w (by omega) (by omega) hc (by omega) (by omega) (by simp) rfl hcell hvcell (by simp [Value.oneCell']) (by simp [Value.oneCell'])).mono ?_
        rintro e w' ⟨rfl, rfl⟩
        have hge := grownCap_ge w (l.length + 1) cap 3
        have e3 : grownCap w (l.length + 1) cap (rho.t 3) = grownCap w (l.length + 1) cap 3 := rfl
        simp only [e3]
        generalize hcs0 : (((l.map (Value.int .i64)).take i).toArray ++ Builtin.zeroCells (Value.int .i64 0).cells (l.length + 1 - i) ++ Builtin.zeroCells (Value.int .i64 0).cells (grownCap w (l.length + 1) cap 3 - (l.length + 1)) : Array Value) = cs0
        have hs0 : cs0.size = grownCap w (l.length + 1) cap 3 := by
          rw [← hcs0, Array.size_append, Array.size_append, List.size_toArray, size_zeroCells', size_zeroCells']
          simp [Value.cells]
          omega
        have h0 : cs0.toList.take i = (l.map (Value.int .i64)).take i := by
          rw [← hcs0]
          simp only [Array.toList_append, List.append_assoc]
          rw [List.take_append_of_le_length (by simp; omega), List.take_of_length_le (by simp; omega)]
        obtain ⟨cs1, k1, k2, k3⟩ := heap_setCells [Value.int .i64 x] i (w.alloc (.cells cs0 (rho.t 3))).drew cs0 (heap_alloc_new w _) (by simp; omega)
        obtain ⟨cs2, j1, j2, j3⟩ := heap_setCells ((l.map (Value.int .i64)).drop i) (i + 1) ((w.alloc (.cells cs0 (rho.t 3))).drew.setCells w.heap.size i [Value.int .i64 x]).drew cs1 k1 (by simp; omega)
        have f0 : Frame w.heap.size (· ∈ ownsOf [CV.own 1 (l.map enc), .d (.int .i64 i), .own 1 [enc x]] [Value.slice (some ⟨b, 0, none⟩) l.length cap, .int .i64 i, .slice (some ⟨vb, 0, none⟩) 1 vc]) w (w.alloc (.cells cs0 (rho.t 3))).drew :=
          ⟨rfl, rfl, rfl, by show w.heap.size ≤ (w.heap.push _).size; simp, fun b hb _ => heap_alloc_old w _ hb⟩
        have f1 := f0.trans (frame_setCells (.inl (Nat.le_refl _)) [Value.int .i64 x] i _)
        have f1' : Frame w.heap.size (· ∈ ownsOf [CV.own 1 (l.map enc), .d (.int .i64 i), .own 1 [enc x]] [Value.slice (some ⟨b, 0, none⟩) l.length cap, .int .i64 i, .slice (some ⟨vb, 0, none⟩) 1 vc]) w ((w.alloc (.cells cs0 (rho.t 3))).drew.setCells w.heap.size i [Value.int .i64 x]).drew := ⟨f1.os, f1.tape, f1.output, f1.size, f1.block⟩
        have f2 := f1'.trans (frame_setCells (.inl (Nat.le_refl _)) ((l.map (Value.int .i64)).drop i) (i + 1) _)
        refine fin _ _ _ w.heap.size _ cs2 _ rfl hge (grownCap_le_maxLen w _ _ _ (by unfold maxLen; omega)) j1 (by omega) ?_ (.inl (Nat.le_refl _)) ⟨f2.os, f2.tape, f2.output, f2.size, f2.block⟩
        rw [j3, k3]
        simp only [List.length_singleton]
        rw [List.take_append_of_le_length (by simp; omega), List.take_of_length_le (by simp; omega), h0]
        rw [List.take_append_of_le_length (by simp; omega), List.take_of_length_le (by simp; omega)]
        simp [List.map_take, List.map_drop]

end Go.Am.Core
