/-
  The statement 'AstTellsSaid': for every input the law returns true, and its arguments read as before.
  Conditions: none beyond the row's own.
-/
import Derived.Test.YtpgfllgpliffaaaGreatDoorRows
import Derived.Test.YtpgfllgpliffaaaGreatDoorCards
import Derived.Test.YtpgfllgpliffaaaGreatDoorTie
import Derived.ProofKit
import Derived.LaidMore
import Derived.Lay
import Derived.SevenTiedAt
import Derived.MakeChecks
import Derived.Lib.LaidU8T
import Derived.Test.YtpgfllgpliffaaaGreatDoorC11
set_option linter.unusedSimpArgs false
namespace Go.Proofs.YtpgfllgpliffaaaGreatDoor.astTells
open Go.Am Go.ChangeShapes Go.WideShapes Go.ChangeAt Go.RowKit
theorem pow_laid : (Rows.laid_internal_strconv_uint64pow10 : DataW Unit) = Go.Lib.tabData .u64 Go.Lib.pow10Tab := by kernel_rfl
theorem first_laid : Rows.laid_unicode_utf8_first = Go.Lib.firstData := by kernel_rfl
theorem accept_laid : (Rows.laid_unicode_utf8_acceptRanges : DataW Unit) = Go.Lib.acceptData := by kernel_rfl
theorem tabs {W : World} (hL : laidMet Tryz.prog Rows.astTellsRow.laid W) : Go.Am.glG ≤ W.heap.size ∧ Go.Am.tabQ W := by
  have h0 : Go.Lib.VarReads Tryz.prog W "internal/strconv.uint64pow10" (Go.Lib.tabData .u64 Go.Lib.pow10Tab) := pow_laid ▸ Go.Lib.laidMet.reads hL (.tail _ (.tail _ (.head _)))
  have h1 : Go.Lib.VarReads Tryz.prog W "unicode/utf8.first" Go.Lib.firstData := first_laid ▸ Go.Lib.laidMet.reads hL (.tail _ (.tail _ (.tail _ (.tail _ (.head _)))))
  have h2 : Go.Lib.VarReads Tryz.prog W "unicode/utf8.acceptRanges" Go.Lib.acceptData := accept_laid ▸ Go.Lib.laidMet.reads hL (.tail _ (.tail _ (.tail _ (.head _))))
  have hu : Go.Lib.Utf8Tabs 1 2 W := utf8Tabs_of_readsT (ρ := ⟨id, fun x => if x = 119 then 159 else if x = 138 then 161 else if x = 139 then 162 else x, fun x => if x = 3 then 1 else if x = 4 then 2 else x⟩) ⟨Tryz.underlying5, Tryz.underlying159, Tryz.underlying161, Tryz.underlying162⟩ ⟨by kernel_rfl, by kernel_rfl, by kernel_rfl, by kernel_rfl, by kernel_rfl, by kernel_rfl, by kernel_rfl⟩ h1 h2
  refine ⟨?_, hu, ?_⟩
  · have h := (hu.2 0 (by omega)).1
    unfold World.cell? at h
    split at h
    · rename_i hb
      have : 2 < W.heap.size := (Array.getElem?_eq_some_iff.1 hb).1
      unfold Go.Am.glG
      omega
    · cases h
  · obtain ⟨g, t, cs, fuel, p, hg, Wj, Zea, hd⟩ := h0
    obtain rfl := Option.some.inj ((show Tryz.prog.globalNamed "internal/strconv.uint64pow10" = some 0 by kernel_rfl).symm.trans hg)
    obtain rfl := Option.some.inj ((show (Tryz.prog.globals[0]?).map (·.type) = some 157 by kernel_rfl).symm.trans Wj)
    have A3 := Go.Lib.cells_of_tab Tryz.underlying157 Tryz.underlying134 (by kernel_rfl) (by kernel_rfl) hd
    unfold World.var? at Zea
    rw [hg] at Zea
    simp only [Option.bind_some] at Zea
    split at Zea
    · rename_i c t s hb
      obtain rfl := Option.some.inj Zea
      exact ⟨t, s, by rw [hb, ← A3]⟩
    · cases Zea
theorem own : ownKnob Tryz.prog.godebug = none := by kernel_rfl
theorem laid : laidOutB Tryz.prog = true := by kernel_rfl
set_option maxRecDepth 100000 in
theorem reads {H : Type} (enc : TypeId × Value → H) (W : World) (base : Nat) (args : Array Value) (ds : List (DataW H))
    (fZ : ∀ (j : Nat) t v, Tryz.f4.params[j]? = some t → args[j]? = some v → Value.okWide Tryz.prog W .any base t v) (ps : List MemPlace)
    (hA : DataW.TrodAll enc Tryz.prog W 0 (fun _ => true) true Tryz.f4.params.toList args.toList ds ps) :
    ∃ xs : List D, Rs (Cy W) xs args.toList ∧ Go.Am.Ty.con_AstTells.pre (xs.map .d) ∧ Go.Am.Ty.con_AstTells.fn (xs.map .d) = .d (.bool true) := by
  rw [Tryz.params4] at hA fZ
  obtain ⟨v0, vs0, d0, ds0, p0, q0, Zvl, rfl, rfl, h0, r0⟩ := trodAll_cons hA
  obtain ⟨v1, vs1, d1, ds1, p1, q1, rfl, rfl, rfl, h1, r1⟩ := trodAll_cons r0
  obtain ⟨rfl, rfl, rfl⟩ := trodAll_nil r1
  obtain rfl : args = #[v0, v1] := by cases args; simp_all
  obtain ⟨x0, ⟨a0, rfl, o0⟩, g0⟩ := vQ Go.Am.Ty.rdParts (by rw [Tryz.underlying23]; intro _ h; cases h) (by rw [Tryz.underlying23]; intro _ _ h; cases h) (fZ 0 23 v0 rfl rfl) h0
  obtain ⟨x1, ⟨a1, rfl, o1⟩, g1⟩ := vQ Go.Am.Ty.rdN (by rw [Tryz.underlying3]; intro _ h; cases h) (by rw [Tryz.underlying3]; intro _ _ h; cases h) (fZ 1 3 v1 rfl rfl) h1
  refine ⟨[Enc.enc a0, Enc.enc a1], ?_, ?_, rfl⟩
  · simp only [Rs]
    exact ⟨v0, _, rfl, g0, ⟨v1, _, rfl, g1, rfl⟩⟩
  · show Go.Am.Ty.con_AstTells.pre [.d (Enc.enc a0), .d (Enc.enc a1)]
    unfold Go.Am.Ty.con_AstTells
    unfold maxLen at *
    refine ⟨Ue a0, Ue a1, ?_⟩
    simp only [Enc.dec_enc]
    exact ⟨Go.Am.Ty.fitE_of o0, o1⟩
theorem spec_eq (H : Type) (ds : List (DataW H)) (h : ds.length = Tryz.f4.params.toList.length) : Rows.astTellsSpec.fn H ds = { results := [.lit (.bool true)], args := ds } := by
  rw [Tryz.params4] at h
  match ds, h with
  | [_, _], _ => rfl
theorem fits_types : ∀ t ∈ Tryz.f4.params.toList, Tryz.prog.readableRec t = true ∧ t < Tryz.prog.types.size := by
  rw [Tryz.params4]
  intro t ht
  simp only [Z2, lR, or_false] at ht
  rcases ht with rfl | rfl
  all_goals exact ⟨by kernel_rfl, of_decide_eq_true (by kernel_rfl)⟩
set_option maxRecDepth 100000 in
theorem lifted (os : Os) (started : os.Started) (H : Type) (enc : TypeId × Value → H) :
    ReturnsInHanded {} Tryz.checked os 4 .any (fun w args => (Rows.astTellsSpec.pre enc Tryz.prog Tryz.f4 Rows.astTellsRow.domain false w args ∧ laidMetH Tryz.prog Rows.astTellsRow.laid w) ∧ sizedMet enc Tryz.prog Tryz.f4 (OpenSpec.ofChange Rows.astTellsSpec) false w args) (Rows.astTellsSpec.post enc Tryz.prog Tryz.f4 false true false false) := by
  refine returnsInHanded_of_change_and (C := Tryz.checked) (X := fun w _ => laidMetH Tryz.prog Rows.astTellsRow.laid w) (fun _ _ _ hh h => h.of_heap hh) own started (by kernel_rfl) Tryz.func4
    (ChangeSpec.witness_shaped (enc := enc) (C := Tryz.checked) (os := os) (X := fun w _ => laidMetH Tryz.prog Rows.astTellsRow.laid w) false (World.laidAll Tryz.prog os Rows.astTellsRow.laid) #[.slice none 0 0, .int .i64 0] 8 (World.laidAll_os _ _ _)
      (World.shaped_of_ZipB (by kernel_rfl) (by kernel_rfl)) (by kernel_rfl) (by kernel_rfl) (by kernel_rfl)
      (by rw [MakeChecks.laidMetH_plain _ _ _ (by kernel_rfl)]; exact laidMet_laidAll _ (by kernel_rfl) (by kernel_rfl))) ?_
  intro W base args ds gs before fZ hW x1 x2 x3 x4
  exact pF Go.Am.Ty.good_AstTells rfl laid fits_types (by kernel_rfl) Tryz.underlying4 spec_eq enc W args ds gs before (reads enc W base args ds fZ) hW (by first | exact tabs (Eq.mp (MakeChecks.laidMetH_plain Tryz.prog Rows.astTellsRow.laid W (by kernel_rfl)) x1) | exact tabs (Eq.mp (MakeChecks.laidMetH_plain Tryz.prog Rows.astTellsRow.laid W (by kernel_rfl)) x2) | exact tabs (Eq.mp (MakeChecks.laidMetH_plain Tryz.prog Rows.astTellsRow.laid W (by kernel_rfl)) x3) | exact tabs (Eq.mp (MakeChecks.laidMetH_plain Tryz.prog Rows.astTellsRow.laid W (by kernel_rfl)) x4))
theorem over : Rows.astTellsRow.holds Tryz.pinned (OpenSpec.ofChange Rows.astTellsSpec) :=
  OpenClaim.holds_of_wide 4 Tryz.f4 rfl rfl rfl rfl rfl rfl rfl ⟨rfl, rfl, rfl, rfl, rfl⟩ rfl rfl rfl rfl rfl (by kernel_rfl) Tryz.func4 (by kernel_rfl)
    (of_decide_eq_true (by kernel_rfl)) (by unfold Func.isWrapper; first | (rw [if_pos (by decide +kernel)]; kernel_rfl) | (rw [if_neg (by decide +kernel)]; exact ⟨rfl, rfl⟩))
    (fun os started H enc _ => lifted os started H enc)
theorem proved : Rows.AstTellsCardSaid :=
  Claim7.holds_tied_plain_at .later [] [.data, .data, .data, .data, .pinned] true (true, "144d45627e679d93d12a5e96c8f15349f51c7198a3f28afb53a639266f5a5c59") false
    over (fun _ h => by cases h) (by kernel_rfl) (fun _ h => by cases h) astTells_row_tie rfl ⟨rfl, rfl⟩ (by kernel_rfl) rfl
    (fun f fn hf Zib => by
      obtain rfl : f = 4 := Option.some.inj ((show Tryz.prog.funcNamed "leaven/leavenlaw05.AstTells" = some 4 by kernel_rfl).symm.trans hf) |>.symm
      obtain rfl : fn = Tryz.f4 := (Option.some.inj (Tryz.func4.symm.trans Zib)).symm
      exact ⟨by kernel_rfl, fun j t ht => by
        rw [Tryz.params4] at ht
        have hm : t ∈ [23, 3] := by simpa using Array.mem_of_getElem? ht
        have J8 : ([23, 3].all fun u => !Tryz.prog.wantsStandIn u) = true := by kernel_rfl
        exact (show Tryz.prog.wantsStandIn t = false by simpa using List.all_eq_true.1 J8 t hm)⟩)
    (by kernel_rfl)
end Go.Proofs.YtpgfllgpliffaaaGreatDoor.astTells
