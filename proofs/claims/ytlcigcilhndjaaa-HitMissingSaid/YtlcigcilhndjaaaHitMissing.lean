/-
  The statement 'HitMissingSaid': for every input the law returns true, and its arguments read as before.
  Conditions: none beyond the row's own.
-/
import Derived.Test.YtlcigcilhndjaaaRows
import Derived.Test.YtlcigcilhndjaaaK5
namespace Go.Proofs.Ytlcigcilhndjaaa.hitMissing
open Go.Am Go.ChangeShapes Go.WideShapes Go.ChangeAt Go.RowKit
theorem own : ownKnob Try.prog.godebug = none := by kernel_rfl
theorem laid : laidOutB Try.prog = true := by kernel_rfl
set_option maxRecDepth 100000 in
theorem reads {H : Type} (enc : TypeId × Value → H) (W : World) (base : Nat) (args : Array Value) (ds : List (DataW H))
    (hval : ∀ (j : Nat) t v, Try.f9.params[j]? = some t → args[j]? = some v → Value.okWide Try.prog W .any base t v) (ps : List MemPlace)
    (hA : DataW.TrodAll enc Try.prog W 0 (fun _ => true) true Try.f9.params.toList args.toList ds ps) :
    ∃ xs : List D, Rs (D7 W) xs args.toList ∧ Go.Am.Hit.con_HitMissing.pre (xs.map .d) ∧ Go.Am.Hit.con_HitMissing.fn (xs.map .d) = .d (.bool true) := by
  rw [Try.params9] at hA hval
  obtain ⟨v0, vs0, d0, ds0, p0, q0, hargs, rfl, rfl, h0, r0⟩ := trodAll_cons hA
  obtain ⟨v1, vs1, d1, ds1, p1, q1, rfl, rfl, rfl, h1, r1⟩ := trodAll_cons r0
  obtain ⟨v2, vs2, d2, ds2, p2, q2, rfl, rfl, rfl, h2, r2⟩ := trodAll_cons r1
  obtain ⟨rfl, rfl, rfl⟩ := trodAll_nil r2
  obtain rfl : args = #[v0, v1, v2] := by cases args; simp_all
  obtain ⟨x0, ⟨a0, rfl, o0⟩, g0⟩ := Ba Go.Am.Hit.rdW (by rw [Try.underlying22]; intro _ h; cases h) (by rw [Try.underlying22]; intro _ _ h; cases h) (hval 0 22 v0 rfl rfl) h0
  obtain ⟨x1, ⟨a1, rfl, o1⟩, g1⟩ := Ba Go.Am.Hit.rdS (by rw [Try.underlying29]; intro _ h; cases h) (by rw [Try.underlying29]; intro _ _ h; cases h) (hval 1 29 v1 rfl rfl) h1
  obtain ⟨x2, ⟨a2, rfl, o2⟩, g2⟩ := Ba Go.Am.Hit.rdN (by rw [Try.underlying3]; intro _ h; cases h) (by rw [Try.underlying3]; intro _ _ h; cases h) (hval 2 3 v2 rfl rfl) h2
  refine ⟨[Enc.enc a0, Enc.enc a1, Enc.enc a2], ?_, ?_, rfl⟩
  · simp only [Rs]
    exact ⟨v0, _, rfl, g0, ⟨v1, _, rfl, g1, ⟨v2, _, rfl, g2, rfl⟩⟩⟩
  · show Go.Am.Hit.con_HitMissing.pre [.d (Enc.enc a0), .d (Enc.enc a1), .d (Enc.enc a2)]
    unfold Go.Am.Hit.con_HitMissing
    unfold maxLen at *
    refine ⟨N7 a0, N7 a1, N7 a2, ?_⟩
    simp only [Enc.dec_enc]
    exact ⟨Go.Am.Hit.rw_of o0, Go.Am.Hit.lo_of o1⟩
theorem spec_eq (H : Type) (ds : List (DataW H)) (h : ds.length = Try.f9.params.toList.length) : Rows.hitMissingSpec.fn H ds = { results := [.lit (.bool true)], args := ds } := by
  rw [Try.params9] at h
  match ds, h with
  | [_, _, _], _ => rfl
theorem fits_types : ∀ t ∈ Try.f9.params.toList, Try.prog.readableRec t = true ∧ t < Try.prog.types.size := by
  rw [Try.params9]
  intro t ht
  simp only [List.mem_cons, List.not_mem_nil, or_false] at ht
  rcases ht with rfl | rfl | rfl
  all_goals exact ⟨by kernel_rfl, of_decide_eq_true (by kernel_rfl)⟩
set_option maxRecDepth 100000 in
theorem lifted (os : Os) (started : os.Started) (H : Type) (enc : TypeId × Value → H) :
    ReturnsInHanded {} Try.checked os 9 .any (Rows.hitMissingSpec.pre6 enc Try.prog Try.f9 Rows.hitMissingRow.domain false) (Rows.hitMissingSpec.post enc Try.prog Try.f9 false true false false) := by
  refine returnsInHanded_of_change (C := Try.checked) own started (by kernel_rfl) Try.func9
    (ChangeSpec.witness6 (enc := enc) (C := Try.checked) false ⟨#[], #[.slice none 0 0, .slice none 0 0, .int .i64 0], []⟩ 8 (by kernel_rfl) (by kernel_rfl) (by kernel_rfl) (by kernel_rfl)) ?_
  intro W base args ds gs before hval hW _ _
  exact B8 Go.Am.Hit.good_HitMissing rfl laid fits_types (by kernel_rfl) Try.underlying4 spec_eq enc W args ds gs before (reads enc W base args ds hval) hW
theorem over : Rows.hitMissingRow.holds Try.pinned (OpenSpec.ofChange Rows.hitMissingSpec) :=
  OpenClaim.holds_of_wide 9 Try.f9 rfl rfl rfl rfl rfl rfl rfl ⟨rfl, rfl, rfl, rfl, rfl⟩ rfl rfl rfl rfl rfl (by kernel_rfl) Try.func9 (by kernel_rfl)
    (of_decide_eq_true (by kernel_rfl)) (by unfold Func.isWrapper; first | (rw [if_pos (by decide +kernel)]; kernel_rfl) | (rw [if_neg (by decide +kernel)]; exact ⟨rfl, rfl⟩))
    (fun os started H enc _ => lifted os started H enc)
theorem proved : Rows.HitMissingSaid :=
  over
end Go.Proofs.Ytlcigcilhndjaaa.hitMissing
