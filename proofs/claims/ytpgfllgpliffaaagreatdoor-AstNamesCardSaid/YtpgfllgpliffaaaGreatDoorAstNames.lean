/-
  The statement 'AstNamesSaid': for every input the law returns true, and its arguments read as before.
  Conditions: none beyond the row's own.
-/
import Derived.Test.YtpgfllgpliffaaaGreatDoorRows
import Derived.Test.YtpgfllgpliffaaaGreatDoorCards
import Derived.Test.YtpgfllgpliffaaaGreatDoorTie
import Derived.ProofKit
import Derived.LaidMore
import Derived.Lay
import Derived.SevenTiedAt
import Derived.Test.YtpgfllgpliffaaaGreatDoorA9
set_option linter.unusedSimpArgs false
namespace Go.Proofs.YtpgfllgpliffaaaGreatDoor.astNames
open Go.Am Go.ChangeShapes Go.WideShapes Go.ChangeAt Go.RowKit
theorem own : ownKnob Tryz.prog.godebug = none := by kernel_rfl
theorem laid : laidOutB Tryz.prog = true := by kernel_rfl
set_option maxRecDepth 100000 in
theorem reads {H : Type} (enc : TypeId × Value → H) (W : World) (base : Nat) (args : Array Value) (ds : List (DataW H))
    (Y7 : ∀ (j : Nat) t v, Tryz.f9.params[j]? = some t → args[j]? = some v → Value.okWide Tryz.prog W .any base t v) (ps : List MemPlace)
    (hA : DataW.TrodAll enc Tryz.prog W 0 (fun _ => true) true Tryz.f9.params.toList args.toList ds ps) :
    ∃ xs : List D, Rs (K2 W) xs args.toList ∧ Go.Am.Ty.con_AstNames.pre (xs.map .d) ∧ Go.Am.Ty.con_AstNames.fn (xs.map .d) = .d (.bool true) := by
  rw [Tryz.params9] at hA Y7
  obtain ⟨v0, vs0, d0, ds0, p0, q0, iR, rfl, rfl, h0, r0⟩ := trodAll_cons hA
  obtain ⟨v1, vs1, d1, ds1, p1, q1, rfl, rfl, rfl, h1, r1⟩ := trodAll_cons r0
  obtain ⟨v2, vs2, d2, ds2, p2, q2, rfl, rfl, rfl, h2, r2⟩ := trodAll_cons r1
  obtain ⟨rfl, rfl, rfl⟩ := trodAll_nil r2
  obtain rfl : args = #[v0, v1, v2] := by cases args; simp_all
  obtain ⟨x0, ⟨a0, rfl, o0⟩, g0⟩ := V8 Go.Am.Ty.rdParts (by rw [Tryz.underlying23]; intro _ h; cases h) (by rw [Tryz.underlying23]; intro _ _ h; cases h) (Y7 0 23 v0 rfl rfl) h0
  obtain ⟨x1, ⟨a1, rfl, o1⟩, g1⟩ := V8 Go.Am.Ty.rdS (by rw [Tryz.underlying9]; intro _ h; cases h) (by rw [Tryz.underlying9]; intro _ _ h; cases h) (Y7 1 9 v1 rfl rfl) h1
  obtain ⟨x2, ⟨a2, rfl, o2⟩, g2⟩ := V8 Go.Am.Ty.rdS (by rw [Tryz.underlying9]; intro _ h; cases h) (by rw [Tryz.underlying9]; intro _ _ h; cases h) (Y7 2 9 v2 rfl rfl) h2
  refine ⟨[Enc.enc a0, Enc.enc a1, Enc.enc a2], ?_, ?_, rfl⟩
  · simp only [Rs]
    exact ⟨v0, _, rfl, g0, ⟨v1, _, rfl, g1, ⟨v2, _, rfl, g2, rfl⟩⟩⟩
  · show Go.Am.Ty.con_AstNames.pre [.d (Enc.enc a0), .d (Enc.enc a1), .d (Enc.enc a2)]
    unfold Go.Am.Ty.con_AstNames
    unfold maxLen at *
    refine ⟨Xi a0, Xi a1, Xi a2, ?_⟩
    simp only [Enc.dec_enc]
    exact ⟨Go.Am.Ty.fitE_of o0, by omega, by omega⟩
theorem spec_eq (H : Type) (ds : List (DataW H)) (h : ds.length = Tryz.f9.params.toList.length) : Rows.astNamesSpec.fn H ds = { results := [.lit (.bool true)], args := ds } := by
  rw [Tryz.params9] at h
  match ds, h with
  | [_, _, _], _ => rfl
theorem fits_types : ∀ t ∈ Tryz.f9.params.toList, Tryz.prog.readableRec t = true ∧ t < Tryz.prog.types.size := by
  rw [Tryz.params9]
  intro t ht
  simp only [Zm, Wp, or_false] at ht
  rcases ht with rfl | rfl | rfl
  all_goals exact ⟨by kernel_rfl, of_decide_eq_true (by kernel_rfl)⟩
set_option maxRecDepth 100000 in
theorem lifted (os : Os) (started : os.Started) (H : Type) (enc : TypeId × Value → H) :
    ReturnsInHanded {} Tryz.checked os 9 .any (fun w args => (Rows.astNamesSpec.pre enc Tryz.prog Tryz.f9 Rows.astNamesRow.domain false w args ∧ laidMetH Tryz.prog Rows.astNamesRow.laid w) ∧ sizedMet enc Tryz.prog Tryz.f9 (OpenSpec.ofChange Rows.astNamesSpec) false w args) (Rows.astNamesSpec.post enc Tryz.prog Tryz.f9 false true false false) := by
  refine returnsInHanded_of_change_and (C := Tryz.checked) (X := fun w _ => laidMetH Tryz.prog Rows.astNamesRow.laid w) (fun _ _ _ hh h => h.of_heap hh) own started (by kernel_rfl) Tryz.func9
    (ChangeSpec.witness_shaped (enc := enc) (C := Tryz.checked) (os := os) (X := fun w _ => laidMetH Tryz.prog Rows.astNamesRow.laid w) false (World.laidAll Tryz.prog os Rows.astNamesRow.laid) #[.slice none 0 0, .string ⟨#[]⟩, .string ⟨#[]⟩] 8 (World.laidAll_os _ _ _)
      (World.shaped_of_ZipB (by kernel_rfl) (by kernel_rfl)) (by kernel_rfl) (by kernel_rfl) (by kernel_rfl)
      (by rw [MakeChecks.laidMetH_plain _ _ _ (by kernel_rfl)]; exact laidMet_laidAll _ (by kernel_rfl) (by kernel_rfl))) ?_
  intro W base args ds gs before Y7 hW _ _ _ _
  exact U7 Go.Am.Ty.good_AstNames rfl laid fits_types (by kernel_rfl) Tryz.underlying4 spec_eq enc W args ds gs before (reads enc W base args ds Y7) hW
theorem over : Rows.astNamesRow.holds Tryz.pinned (OpenSpec.ofChange Rows.astNamesSpec) :=
  OpenClaim.holds_of_wide 9 Tryz.f9 rfl rfl rfl rfl rfl rfl rfl ⟨rfl, rfl, rfl, rfl, rfl⟩ rfl rfl rfl rfl rfl (by kernel_rfl) Tryz.func9 (by kernel_rfl)
    (of_decide_eq_true (by kernel_rfl)) (by unfold Func.isWrapper; first | (rw [if_pos (by decide +kernel)]; kernel_rfl) | (rw [if_neg (by decide +kernel)]; exact ⟨rfl, rfl⟩))
    (fun os started H enc _ => lifted os started H enc)
theorem proved : Rows.AstNamesCardSaid :=
  Claim7.holds_tied_plain_at .later [] [.data, .data, .data, .data, .pinned] true (true, "144d45627e679d93d12a5e96c8f15349f51c7198a3f28afb53a639266f5a5c59") false
    over (fun _ h => by cases h) (by kernel_rfl) (fun _ h => by cases h) astNames_row_tie rfl ⟨rfl, rfl⟩ (by kernel_rfl) rfl
    (fun f fn hf dR => by
      obtain rfl : f = 9 := Option.some.inj ((show Tryz.prog.funcNamed "leaven/leavenlaw05.AstNames" = some 9 by kernel_rfl).symm.trans hf) |>.symm
      obtain rfl : fn = Tryz.f9 := (Option.some.inj (Tryz.func9.symm.trans dR)).symm
      exact ⟨by kernel_rfl, fun j t ht => by
        rw [Tryz.params9] at ht
        have hm : t ∈ [23, 9, 9] := by simpa using Array.mem_of_getElem? ht
        have Up : ([23, 9, 9].all fun u => !Tryz.prog.wantsStandIn u) = true := by kernel_rfl
        exact (show Tryz.prog.wantsStandIn t = false by simpa using List.all_eq_true.1 Up t hm)⟩)
    (by kernel_rfl)
end Go.Proofs.YtpgfllgpliffaaaGreatDoor.astNames
