/-
  The statement 'CoreBadSaid': for every input the law returns true, and its arguments read as before.
  Conditions: none beyond the row's own.
-/
import Derived.Test.YtgfapoalcpodhaaRows
import Derived.Test.YtgfapoalcpodhaaAm22
import Derived.Test.YtgfapoalcpodhaaCoreC16
namespace Go.Proofs.Ytgfapoalcpodhaa.coreBad
open Go.Am Go.ChangeShapes Go.WideShapes Go.ChangeAt Go.RowKit
theorem rdInts : Rdt Try.prog 22 1 false (Sl Int) (fun a => a.l.length ≤ maxLen ∧ ∀ y ∈ a.l, inR .i64 y) := rdt_sl Try.underlying22 (by kernel_rfl) rfl (by decide) (rdt_int Try.underlying3)
theorem rdBads : Rdt Try.prog 23 1 false (Sl (Sl Int)) (fun a => a.l.length ≤ maxLen ∧ ∀ y ∈ a.l, y.l.length ≤ maxLen ∧ ∀ z ∈ y.l, inR .i64 z) := rdt_sl Try.underlying23 (by kernel_rfl) rfl (by decide) rdInts
theorem own : ownKnob Try.prog.godebug = none := by kernel_rfl
theorem laid : laidOutB Try.prog = true := by kernel_rfl
theorem reads {H : Type} (enc : TypeId × Value → H) (W : World) (base : Nat) (args : Array Value) (ds : List (DataW H))
    (hval : ∀ (j : Nat) t v, Try.f6.params[j]? = some t → args[j]? = some v → Value.okWide Try.prog W .any base t v) (ps : List MemPlace)
    (hA : DataW.TrodAll enc Try.prog W 0 (fun _ => true) true Try.f6.params.toList args.toList ds ps) :
    ∃ xs : List D, Rs (fixOf W) xs args.toList ∧ Go.Am.Core.con6.pre (xs.map .d) ∧ Go.Am.Core.con6.fn (xs.map .d) = .d (.bool true) := by
  rw [Try.params6] at hA hval
  obtain ⟨v0, vs0, d0, ds0, p0, q0, hargs, rfl, rfl, h0, r0⟩ := trodAll_cons hA
  obtain ⟨v1, vs1, d1, ds1, p1, q1, rfl, rfl, rfl, h1, r1⟩ := trodAll_cons r0
  obtain ⟨v2, vs2, d2, ds2, p2, q2, rfl, rfl, rfl, h2, r2⟩ := trodAll_cons r1
  obtain ⟨rfl, rfl, rfl⟩ := trodAll_nil r2
  obtain rfl : args = #[v0, v1, v2] := by cases args; simp_all
  obtain ⟨x0, ⟨a0, rfl, o0⟩, g0⟩ := arg_flat rdInts (by rw [Try.underlying22]; intro _ h; cases h) (by rw [Try.underlying22]; intro _ _ h; cases h) (hval 0 22 v0 rfl rfl) h0
  obtain ⟨x1, ⟨a1, rfl, o1⟩, g1⟩ := arg_flat rdBads (by rw [Try.underlying23]; intro _ h; cases h) (by rw [Try.underlying23]; intro _ _ h; cases h) (hval 1 23 v1 rfl rfl) h1
  obtain ⟨x2, ⟨a2, rfl, o2⟩, g2⟩ := arg_flat rdInts (by rw [Try.underlying22]; intro _ h; cases h) (by rw [Try.underlying22]; intro _ _ h; cases h) (hval 2 22 v2 rfl rfl) h2
  refine ⟨[Enc.enc a0, Enc.enc a1, Enc.enc a2], ?_, ?_, rfl⟩
  · simp only [Rs]
    exact ⟨v0, _, rfl, g0, ⟨v1, _, rfl, g1, ⟨v2, _, rfl, g2, rfl⟩⟩⟩
  · show Go.Am.Core.con6.pre [.d (Enc.enc a0), .d (Enc.enc a1), .d (Enc.enc a2)]
    unfold Go.Am.Core.con6
    unfold maxLen at *
    refine ⟨isE_enc a0, isE_enc a1, isE_enc a2, ?_⟩
    simp only [Enc.dec_enc]
    exact ⟨by have := o0.1; omega, by have := o1.1; omega, fun b hb => by have := (o1.2 b hb).1; omega, by have := o2.1; omega⟩
theorem spec_eq (H : Type) (ds : List (DataW H)) (h : ds.length = Try.f6.params.toList.length) : Rows.coreBadSpec.fn H ds = { results := [.lit (.bool true)], args := ds } := by
  rw [Try.params6] at h
  match ds, h with
  | [_, _, _], _ => rfl
theorem fits_types : ∀ t ∈ Try.f6.params.toList, Try.prog.readableRec t = true ∧ t < Try.prog.types.size := by
  rw [Try.params6]
  intro t ht
  simp only [List.mem_cons, List.not_mem_nil, or_false] at ht
  rcases ht with rfl | rfl | rfl
  all_goals exact ⟨by kernel_rfl, of_decide_eq_true (by kernel_rfl)⟩
set_option maxRecDepth 100000 in
theorem lifted (os : Os) (started : os.Started) (H : Type) (enc : TypeId × Value → H) :
    ReturnsInHanded {} Try.checked os 6 .any (Rows.coreBadSpec.pre6 enc Try.prog Try.f6 Rows.coreBadRow.domain false) (Rows.coreBadSpec.post enc Try.prog Try.f6 false true false false) := by
  refine returnsInHanded_of_change (C := Try.checked) own started (by kernel_rfl) Try.func6
    (ChangeSpec.witness6 (enc := enc) (C := Try.checked) false ⟨#[], #[.slice none 0 0, .slice none 0 0, .slice none 0 0], []⟩ 8 (by kernel_rfl) (by kernel_rfl) (by kernel_rfl) (by kernel_rfl)) ?_
  intro W base args ds gs before hval hW _ _
  exact law_contract Go.Am.Core.good6 rfl laid fits_types (by kernel_rfl) Try.underlying4 spec_eq enc W args ds gs before (reads enc W base args ds hval) hW
theorem over : Rows.coreBadRow.holds Try.pinned (OpenSpec.ofChange Rows.coreBadSpec) :=
  OpenClaim.holds_of_wide 6 Try.f6 rfl rfl rfl rfl rfl rfl rfl ⟨rfl, rfl, rfl, rfl, rfl⟩ rfl rfl rfl rfl rfl (by kernel_rfl) Try.func6 (by kernel_rfl)
    (of_decide_eq_true (by kernel_rfl)) (by unfold Func.isWrapper; first | (rw [if_pos (by decide +kernel)]; kernel_rfl) | (rw [if_neg (by decide +kernel)]; exact ⟨rfl, rfl⟩))
    (fun os started H enc _ => lifted os started H enc)
theorem proved : Rows.CoreBadSaid :=
  over
end Go.Proofs.Ytgfapoalcpodhaa.coreBad
