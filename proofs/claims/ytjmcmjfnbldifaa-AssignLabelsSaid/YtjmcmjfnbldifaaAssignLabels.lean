/-
  The statement 'AssignLabelsSaid': for every input the law returns true, and its arguments read as before.
  Conditions: none beyond the row's own.
-/
import Derived.Test.YtjmcmjfnbldifaaRows
import Derived.Test.YtjmcmjfnbldifaaK5
namespace Go.Proofs.Ytjmcmjfnbldifaa.assignLabels
open Go.Am Go.ChangeShapes Go.WideShapes Go.ChangeAt Go.RowKit
theorem own : ownKnob Try.prog.godebug = none := by kernel_rfl
theorem laid : laidOutB Try.prog = true := by kernel_rfl
set_option maxRecDepth 100000 in
theorem reads {H : Type} (enc : TypeId × Value → H) (W : World) (base : Nat) (args : Array Value) (ds : List (DataW H))
    (hval : ∀ (j : Nat) t v, Try.f4.params[j]? = some t → args[j]? = some v → Value.okWide Try.prog W .any base t v) (ps : List MemPlace)
    (hA : DataW.TrodAll enc Try.prog W 0 (fun _ => true) true Try.f4.params.toList args.toList ds ps) :
    ∃ xs : List D, Rs (Ei W) xs args.toList ∧ Go.Am.Ty.con_AssignLabels.pre (xs.map .d) ∧ Go.Am.Ty.con_AssignLabels.fn (xs.map .d) = .d (.bool true) := by
  rw [Try.params4] at hA hval
  obtain ⟨v0, vs0, d0, ds0, p0, q0, hargs, rfl, rfl, h0, r0⟩ := trodAll_cons hA
  obtain ⟨v1, vs1, d1, ds1, p1, q1, rfl, rfl, rfl, h1, r1⟩ := trodAll_cons r0
  obtain ⟨rfl, rfl, rfl⟩ := trodAll_nil r1
  obtain rfl : args = #[v0, v1] := by cases args; simp_all
  obtain ⟨x0, ⟨a0, rfl, o0⟩, g0⟩ := Re Go.Am.Ty.rdNodes (by rw [Try.underlying25]; intro _ h; cases h) (by rw [Try.underlying25]; intro _ _ h; cases h) (hval 0 25 v0 rfl rfl) h0
  obtain ⟨x1, ⟨a1, rfl, o1⟩, g1⟩ := Re Go.Am.Ty.rdChs (by rw [Try.underlying22]; intro _ h; cases h) (by rw [Try.underlying22]; intro _ _ h; cases h) (hval 1 22 v1 rfl rfl) h1
  refine ⟨[Enc.enc a0, Enc.enc a1], ?_, ?_, rfl⟩
  · simp only [Rs]
    exact ⟨v0, _, rfl, g0, ⟨v1, _, rfl, g1, rfl⟩⟩
  · show Go.Am.Ty.con_AssignLabels.pre [.d (Enc.enc a0), .d (Enc.enc a1)]
    unfold Go.Am.Ty.con_AssignLabels
    unfold maxLen at *
    refine ⟨B0 a0, B0 a1, ?_⟩
    simp only [Enc.dec_enc]
    exact ⟨Go.Am.Ty.inT_of o0, Go.Am.Ty.fitC_of o1⟩
theorem spec_eq (H : Type) (ds : List (DataW H)) (h : ds.length = Try.f4.params.toList.length) : Rows.assignLabelsSpec.fn H ds = { results := [.lit (.bool true)], args := ds } := by
  rw [Try.params4] at h
  match ds, h with
  | [_, _], _ => rfl
theorem fits_types : ∀ t ∈ Try.f4.params.toList, Try.prog.readableRec t = true ∧ t < Try.prog.types.size := by
  rw [Try.params4]
  intro t ht
  simp only [List.mem_cons, List.not_mem_nil, or_false] at ht
  rcases ht with rfl | rfl
  all_goals exact ⟨by kernel_rfl, of_decide_eq_true (by kernel_rfl)⟩
set_option maxRecDepth 100000 in
theorem lifted (os : Os) (started : os.Started) (H : Type) (enc : TypeId × Value → H) :
    ReturnsInHanded {} Try.checked os 4 .any (Rows.assignLabelsSpec.pre6 enc Try.prog Try.f4 Rows.assignLabelsRow.domain false) (Rows.assignLabelsSpec.post enc Try.prog Try.f4 false true false false) := by
  refine returnsInHanded_of_change (C := Try.checked) own started (by kernel_rfl) Try.func4
    (ChangeSpec.witness6 (enc := enc) (C := Try.checked) false ⟨#[], #[.slice none 0 0, .slice none 0 0], []⟩ 8 (by kernel_rfl) (by kernel_rfl) (by kernel_rfl) (by kernel_rfl)) ?_
  intro W base args ds gs before hval hW _ _
  exact Rr Go.Am.Ty.good_AssignLabels rfl laid fits_types (by kernel_rfl) Try.underlying4 spec_eq enc W args ds gs before (reads enc W base args ds hval) hW
theorem over : Rows.assignLabelsRow.holds Try.pinned (OpenSpec.ofChange Rows.assignLabelsSpec) :=
  OpenClaim.holds_of_wide 4 Try.f4 rfl rfl rfl rfl rfl rfl rfl ⟨rfl, rfl, rfl, rfl, rfl⟩ rfl rfl rfl rfl rfl (by kernel_rfl) Try.func4 (by kernel_rfl)
    (of_decide_eq_true (by kernel_rfl)) (by unfold Func.isWrapper; first | (rw [if_pos (by decide +kernel)]; kernel_rfl) | (rw [if_neg (by decide +kernel)]; exact ⟨rfl, rfl⟩))
    (fun os started H enc _ => lifted os started H enc)
theorem proved : Rows.AssignLabelsSaid :=
  over
end Go.Proofs.Ytjmcmjfnbldifaa.assignLabels
