/-
  The statement 'AstFreeSaid': for every input the law returns true, and its arguments read as before.
  Conditions: none beyond the row's own.
-/
import Derived.Test.YtpgfllgpliffaaaGreatDoorRows
import Derived.Test.YtpgfllgpliffaaaGreatDoorCards
import Derived.Test.YtpgfllgpliffaaaGreatDoorTie
import Derived.ProofKit
import Derived.LaidMore
import Derived.Lay
import Derived.SevenTiedAt
import Derived.Test.YtpgfllgpliffaaaGreatDoorA9
set_option linter.unusedSimpArgs false
namespace Go.Proofs.YtpgfllgpliffaaaGreatDoor.astFree
open Go.Am Go.ChangeShapes Go.WideShapes Go.ChangeAt Go.RowKit
theorem own : ownKnob Tryz.prog.godebug = none := by kernel_rfl
theorem laid : laidOutB Tryz.prog = true := by kernel_rfl
set_option maxRecDepth 100000 in
theorem reads {H : Type} (enc : TypeId × Value → H) (W : World) (base : Nat) (args : Array Value) (ds : List (DataW H))
    (Y7 : ∀ (j : Nat) t v, Tryz.f6.params[j]? = some t → args[j]? = some v → Value.okWide Tryz.prog W .any base t v) (ps : List MemPlace)
    (hA : DataW.TrodAll enc Tryz.prog W 0 (fun _ => true) true Tryz.f6.params.toList args.toList ds ps) :
    ∃ xs : List D, Rs (K2 W) xs args.toList ∧ Go.Am.Ty.con_AstFree.pre (xs.map .d) ∧ Go.Am.Ty.con_AstFree.fn (xs.map .d) = .d (.bool true) := by
  rw [Tryz.params6] at hA Y7
  obtain ⟨v0, vs0, d0, ds0, p0, q0, iR, rfl, rfl, h0, r0⟩ := trodAll_cons hA
  obtain ⟨rfl, rfl, rfl⟩ := trodAll_nil r0
  obtain rfl : args = #[v0] := by cases args; simp_all
  obtain ⟨x0, ⟨a0, rfl, o0⟩, g0⟩ := V8 Go.Am.Ty.rdParts (by rw [Tryz.underlying23]; intro _ h; cases h) (by rw [Tryz.underlying23]; intro _ _ h; cases h) (Y7 0 23 v0 rfl rfl) h0
  refine ⟨[Enc.enc a0], ?_, ?_, rfl⟩
  · simp only [Rs]
    exact ⟨v0, _, rfl, g0, rfl⟩
  · show Go.Am.Ty.con_AstFree.pre [.d (Enc.enc a0)]
    unfold Go.Am.Ty.con_AstFree
    unfold maxLen at *
    refine ⟨Xi a0, ?_⟩
    simp only [Enc.dec_enc]
    exact Go.Am.Ty.fitE_of o0
theorem spec_eq (H : Type) (ds : List (DataW H)) (h : ds.length = Tryz.f6.params.toList.length) : Rows.astFreeSpec.fn H ds = { results := [.lit (.bool true)], args := ds } := by
  rw [Tryz.params6] at h
  match ds, h with
  | [_], _ => rfl
theorem fits_types : ∀ t ∈ Tryz.f6.params.toList, Tryz.prog.readableRec t = true ∧ t < Tryz.prog.types.size := by
  rw [Tryz.params6]
  intro t ht
  simp only [Zm, Wp, or_false] at ht
  rcases ht with rfl
  all_goals exact ⟨by kernel_rfl, of_decide_eq_true (by kernel_rfl)⟩
set_option maxRecDepth 100000 in
theorem lifted (os : Os) (started : os.Started) (H : Type) (enc : TypeId × Value → H) :
    ReturnsInHanded {} Tryz.checked os 6 .any (fun w args => (Rows.astFreeSpec.pre enc Tryz.prog Tryz.f6 Rows.astFreeRow.domain false w args ∧ laidMetH Tryz.prog Rows.astFreeRow.laid w) ∧ sizedMet enc Tryz.prog Tryz.f6 (OpenSpec.ofChange Rows.astFreeSpec) false w args) (Rows.astFreeSpec.post enc Tryz.prog Tryz.f6 false true false false) := by
  refine returnsInHanded_of_change_and (C := Tryz.checked) (X := fun w _ => laidMetH Tryz.prog Rows.astFreeRow.laid w) (fun _ _ _ hh h => h.of_heap hh) own started (by kernel_rfl) Tryz.func6
    (ChangeSpec.witness_shaped (enc := enc) (C := Tryz.checked) (os := os) (X := fun w _ => laidMetH Tryz.prog Rows.astFreeRow.laid w) false (World.laidAll Tryz.prog os Rows.astFreeRow.laid) #[.slice none 0 0] 8 (World.laidAll_os _ _ _)
      (World.shaped_of_ZipB (by kernel_rfl) (by kernel_rfl)) (by kernel_rfl) (by kernel_rfl) (by kernel_rfl)
      (by rw [MakeChecks.laidMetH_plain _ _ _ (by kernel_rfl)]; exact laidMet_laidAll _ (by kernel_rfl) (by kernel_rfl))) ?_
  intro W base args ds gs before Y7 hW _ _ _ _
  exact U7 Go.Am.Ty.good_AstFree rfl laid fits_types (by kernel_rfl) Tryz.underlying4 spec_eq enc W args ds gs before (reads enc W base args ds Y7) hW
theorem over : Rows.astFreeRow.holds Tryz.pinned (OpenSpec.ofChange Rows.astFreeSpec) :=
  OpenClaim.holds_of_wide 6 Tryz.f6 rfl rfl rfl rfl rfl rfl rfl ⟨rfl, rfl, rfl, rfl, rfl⟩ rfl rfl rfl rfl rfl (by kernel_rfl) Tryz.func6 (by kernel_rfl)
    (of_decide_eq_true (by kernel_rfl)) (by unfold Func.isWrapper; first | (rw [if_pos (by decide +kernel)]; kernel_rfl) | (rw [if_neg (by decide +kernel)]; exact ⟨rfl, rfl⟩))
    (fun os started H enc _ => lifted os started H enc)
theorem proved : Rows.AstFreeCardSaid :=
  Claim7.holds_tied_plain_at .later [] [.data, .data, .data, .data, .pinned] true (true, "144d45627e679d93d12a5e96c8f15349f51c7198a3f28afb53a639266f5a5c59") false
    over (fun _ h => by cases h) (by kernel_rfl) (fun _ h => by cases h) astFree_row_tie rfl ⟨rfl, rfl⟩ (by kernel_rfl) rfl
    (fun f fn hf dR => by
      obtain rfl : f = 6 := Option.some.inj ((show Tryz.prog.funcNamed "leaven/leavenlaw05.AstFree" = some 6 by kernel_rfl).symm.trans hf) |>.symm
      obtain rfl : fn = Tryz.f6 := (Option.some.inj (Tryz.func6.symm.trans dR)).symm
      exact ⟨by kernel_rfl, fun j t ht => by
        rw [Tryz.params6] at ht
        have hm : t ∈ [23] := by simpa using Array.mem_of_getElem? ht
        have Up : ([23].all fun u => !Tryz.prog.wantsStandIn u) = true := by kernel_rfl
        exact (show Tryz.prog.wantsStandIn t = false by simpa using List.all_eq_true.1 Up t hm)⟩)
    (by kernel_rfl)
end Go.Proofs.YtpgfllgpliffaaaGreatDoor.astFree
