/-
  The statement 'AssignTypesSaid': for every input the law returns true, and its arguments read as before.
  Conditions: none beyond the row's own.
-/
import Derived.Test.YtjmcmjfnbldifaaRows
import Derived.Test.YtjmcmjfnbldifaaK5
namespace Go.Proofs.Ytjmcmjfnbldifaa.assignTypes
open Go.Am Go.ChangeShapes Go.WideShapes Go.ChangeAt Go.RowKit
theorem own : ownKnob Try.prog.godebug = none := by kernel_rfl
theorem laid : laidOutB Try.prog = true := by kernel_rfl
set_option maxRecDepth 100000 in
theorem reads {H : Type} (enc : TypeId × Value → H) (W : World) (base : Nat) (args : Array Value) (ds : List (DataW H))
    (hval : ∀ (j : Nat) t v, Try.f5.params[j]? = some t → args[j]? = some v → Value.okWide Try.prog W .any base t v) (ps : List MemPlace)
    (hA : DataW.TrodAll enc Try.prog W 0 (fun _ => true) true Try.f5.params.toList args.toList ds ps) :
    ∃ xs : List D, Rs (Ei W) xs args.toList ∧ Go.Am.Ty.con_AssignTypes.pre (xs.map .d) ∧ Go.Am.Ty.con_AssignTypes.fn (xs.map .d) = .d (.bool true) := by
  rw [Try.params5] at hA hval
  obtain ⟨v0, vs0, d0, ds0, p0, q0, hargs, rfl, rfl, h0, r0⟩ := trodAll_cons hA
  obtain ⟨v1, vs1, d1, ds1, p1, q1, rfl, rfl, rfl, h1, r1⟩ := trodAll_cons r0
  obtain ⟨v2, vs2, d2, ds2, p2, q2, rfl, rfl, rfl, h2, r2⟩ := trodAll_cons r1
  obtain ⟨rfl, rfl, rfl⟩ := trodAll_nil r2
  obtain rfl : args = #[v0, v1, v2] := by cases args; simp_all
  obtain ⟨x0, ⟨a0, rfl, o0⟩, g0⟩ := Re Go.Am.Ty.rdNodes (by rw [Try.underlying25]; intro _ h; cases h) (by rw [Try.underlying25]; intro _ _ h; cases h) (hval 0 25 v0 rfl rfl) h0
  obtain ⟨x1, ⟨a1, rfl, o1⟩, g1⟩ := Re Go.Am.Ty.rdParts (by rw [Try.underlying37]; intro _ h; cases h) (by rw [Try.underlying37]; intro _ _ h; cases h) (hval 1 37 v1 rfl rfl) h1
  obtain ⟨x2, ⟨a2, rfl, o2⟩, g2⟩ := Re Go.Am.Ty.rdChs (by rw [Try.underlying22]; intro _ h; cases h) (by rw [Try.underlying22]; intro _ _ h; cases h) (hval 2 22 v2 rfl rfl) h2
  refine ⟨[Enc.enc a0, Enc.enc a1, Enc.enc a2], ?_, ?_, rfl⟩
  · simp only [Rs]
    exact ⟨v0, _, rfl, g0, ⟨v1, _, rfl, g1, ⟨v2, _, rfl, g2, rfl⟩⟩⟩
  · show Go.Am.Ty.con_AssignTypes.pre [.d (Enc.enc a0), .d (Enc.enc a1), .d (Enc.enc a2)]
    unfold Go.Am.Ty.con_AssignTypes
    unfold maxLen at *
    refine ⟨B0 a0, B0 a1, B0 a2, ?_⟩
    simp only [Enc.dec_enc]
    exact ⟨Go.Am.Ty.inT_of o0, Go.Am.Ty.inE_of o1, Go.Am.Ty.fitC_of o2⟩
theorem spec_eq (H : Type) (ds : List (DataW H)) (h : ds.length = Try.f5.params.toList.length) : Rows.assignTypesSpec.fn H ds = { results := [.lit (.bool true)], args := ds } := by
  rw [Try.params5] at h
  match ds, h with
  | [_, _, _], _ => rfl
theorem fits_types : ∀ t ∈ Try.f5.params.toList, Try.prog.readableRec t = true ∧ t < Try.prog.types.size := by
  rw [Try.params5]
  intro t ht
  simp only [List.mem_cons, List.not_mem_nil, or_false] at ht
  rcases ht with rfl | rfl | rfl
  all_goals exact ⟨by kernel_rfl, of_decide_eq_true (by kernel_rfl)⟩
set_option maxRecDepth 100000 in
theorem lifted (os : Os) (started : os.Started) (H : Type) (enc : TypeId × Value → H) :
    ReturnsInHanded {} Try.checked os 5 .any (Rows.assignTypesSpec.pre6 enc Try.prog Try.f5 Rows.assignTypesRow.domain false) (Rows.assignTypesSpec.post enc Try.prog Try.f5 false true false false) := by
  refine returnsInHanded_of_change (C := Try.checked) own started (by kernel_rfl) Try.func5
    (ChangeSpec.witness6 (enc := enc) (C := Try.checked) false ⟨#[], #[.slice none 0 0, .slice none 0 0, .slice none 0 0], []⟩ 8 (by kernel_rfl) (by kernel_rfl) (by kernel_rfl) (by kernel_rfl)) ?_
  intro W base args ds gs before hval hW _ _
  exact Rr Go.Am.Ty.good_AssignTypes rfl laid fits_types (by kernel_rfl) Try.underlying4 spec_eq enc W args ds gs before (reads enc W base args ds hval) hW
theorem over : Rows.assignTypesRow.holds Try.pinned (OpenSpec.ofChange Rows.assignTypesSpec) :=
  OpenClaim.holds_of_wide 5 Try.f5 rfl rfl rfl rfl rfl rfl rfl ⟨rfl, rfl, rfl, rfl, rfl⟩ rfl rfl rfl rfl rfl (by kernel_rfl) Try.func5 (by kernel_rfl)
    (of_decide_eq_true (by kernel_rfl)) (by unfold Func.isWrapper; first | (rw [if_pos (by decide +kernel)]; kernel_rfl) | (rw [if_neg (by decide +kernel)]; exact ⟨rfl, rfl⟩))
    (fun os started H enc _ => lifted os started H enc)
theorem proved : Rows.AssignTypesSaid :=
  over
end Go.Proofs.Ytjmcmjfnbldifaa.assignTypes
