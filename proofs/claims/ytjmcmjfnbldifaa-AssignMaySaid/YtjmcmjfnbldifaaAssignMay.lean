/-
  The statement 'AssignMaySaid': for every input the law returns true, and its arguments read as before.
  Conditions: none beyond the row's own.
-/
import Derived.Test.YtjmcmjfnbldifaaRows
import Derived.Test.YtjmcmjfnbldifaaK5
namespace Go.Proofs.Ytjmcmjfnbldifaa.assignMay
open Go.Am Go.ChangeShapes Go.WideShapes Go.ChangeAt Go.RowKit
theorem own : ownKnob Try.prog.godebug = none := by kernel_rfl
theorem laid : laidOutB Try.prog = true := by kernel_rfl
set_option maxRecDepth 100000 in
theorem reads {H : Type} (enc : TypeId × Value → H) (W : World) (base : Nat) (args : Array Value) (ds : List (DataW H))
    (hval : ∀ (j : Nat) t v, Try.f3.params[j]? = some t → args[j]? = some v → Value.okWide Try.prog W .any base t v) (ps : List MemPlace)
    (hA : DataW.TrodAll enc Try.prog W 0 (fun _ => true) true Try.f3.params.toList args.toList ds ps) :
    ∃ xs : List D, Rs (Ei W) xs args.toList ∧ Go.Am.Ty.con_AssignMay.pre (xs.map .d) ∧ Go.Am.Ty.con_AssignMay.fn (xs.map .d) = .d (.bool true) := by
  rw [Try.params3] at hA hval
  obtain ⟨v0, vs0, d0, ds0, p0, q0, hargs, rfl, rfl, h0, r0⟩ := trodAll_cons hA
  obtain ⟨rfl, rfl, rfl⟩ := trodAll_nil r0
  obtain rfl : args = #[v0] := by cases args; simp_all
  obtain ⟨x0, ⟨a0, rfl, o0⟩, g0⟩ := Re Go.Am.Ty.rdChs (by rw [Try.underlying22]; intro _ h; cases h) (by rw [Try.underlying22]; intro _ _ h; cases h) (hval 0 22 v0 rfl rfl) h0
  refine ⟨[Enc.enc a0], ?_, ?_, rfl⟩
  · simp only [Rs]
    exact ⟨v0, _, rfl, g0, rfl⟩
  · show Go.Am.Ty.con_AssignMay.pre [.d (Enc.enc a0)]
    unfold Go.Am.Ty.con_AssignMay
    unfold maxLen at *
    refine ⟨B0 a0, ?_⟩
    simp only [Enc.dec_enc]
    exact Go.Am.Ty.fitC_of o0
theorem spec_eq (H : Type) (ds : List (DataW H)) (h : ds.length = Try.f3.params.toList.length) : Rows.assignMaySpec.fn H ds = { results := [.lit (.bool true)], args := ds } := by
  rw [Try.params3] at h
  match ds, h with
  | [_], _ => rfl
theorem fits_types : ∀ t ∈ Try.f3.params.toList, Try.prog.readableRec t = true ∧ t < Try.prog.types.size := by
  rw [Try.params3]
  intro t ht
  simp only [List.mem_cons, List.not_mem_nil, or_false] at ht
  rcases ht with rfl
  all_goals exact ⟨by kernel_rfl, of_decide_eq_true (by kernel_rfl)⟩
set_option maxRecDepth 100000 in
theorem lifted (os : Os) (started : os.Started) (H : Type) (enc : TypeId × Value → H) :
    ReturnsInHanded {} Try.checked os 3 .any (Rows.assignMaySpec.pre6 enc Try.prog Try.f3 Rows.assignMayRow.domain false) (Rows.assignMaySpec.post enc Try.prog Try.f3 false true false false) := by
  refine returnsInHanded_of_change (C := Try.checked) own started (by kernel_rfl) Try.func3
    (ChangeSpec.witness6 (enc := enc) (C := Try.checked) false ⟨#[], #[.slice none 0 0], []⟩ 8 (by kernel_rfl) (by kernel_rfl) (by kernel_rfl) (by kernel_rfl)) ?_
  intro W base args ds gs before hval hW _ _
  exact Rr Go.Am.Ty.good_AssignMay rfl laid fits_types (by kernel_rfl) Try.underlying4 spec_eq enc W args ds gs before (reads enc W base args ds hval) hW
theorem over : Rows.assignMayRow.holds Try.pinned (OpenSpec.ofChange Rows.assignMaySpec) :=
  OpenClaim.holds_of_wide 3 Try.f3 rfl rfl rfl rfl rfl rfl rfl ⟨rfl, rfl, rfl, rfl, rfl⟩ rfl rfl rfl rfl rfl (by kernel_rfl) Try.func3 (by kernel_rfl)
    (of_decide_eq_true (by kernel_rfl)) (by unfold Func.isWrapper; first | (rw [if_pos (by decide +kernel)]; kernel_rfl) | (rw [if_neg (by decide +kernel)]; exact ⟨rfl, rfl⟩))
    (fun os started H enc _ => lifted os started H enc)
theorem proved : Rows.AssignMaySaid :=
  over
end Go.Proofs.Ytjmcmjfnbldifaa.assignMay
