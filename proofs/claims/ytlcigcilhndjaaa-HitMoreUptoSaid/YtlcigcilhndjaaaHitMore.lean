/-
  The statement 'HitMoreUptoSaid': for every input of bulk at most 1048576 the law returns true, and its arguments read as before.
  Conditions: none beyond the row's own.
-/
import Derived.Test.YtlcigcilhndjaaaRows
import Derived.Test.YtlcigcilhndjaaaK5
namespace Go.Proofs.Ytlcigcilhndjaaa.hitMore
open Go.Am Go.ChangeShapes Go.WideShapes Go.ChangeAt Go.RowKit
theorem bulk_pos {H : Type} (d : DataW H) : 1 ≤ Rows.uptoBulk d := by
  cases d with
  | lit l => cases l <;> simp [Rows.uptoBulk]
  | nil => simp [Rows.uptoBulk]
  | ptr d => simp [Rows.uptoBulk]
  | slice elems spare => simp [Rows.uptoBulk]
  | agg parts => simp [Rows.uptoBulk]
  | iface t d => simp [Rows.uptoBulk]
  | map entries => simp [Rows.uptoBulk]
  | held h => simp [Rows.uptoBulk]
theorem bulk_len {H : Type} (l : List (DataW H)) : l.length ≤ Rows.uptoBulkAll l := by
  induction l with
  | nil => simp [Rows.uptoBulkAll]
  | cons x r ih => have := bulk_pos x; simp only [Rows.uptoBulkAll, List.length_cons]; omega
theorem bulk_slice {H : Type} {enc : TypeId × Value → H} {W : World} {a : Sl (Sl Int)} {v : Value} {d : DataW H} {ps : List MemPlace} (hr : R (D7 W) (Enc.enc a) v)
    (h : DataW.Trod enc Try.prog W 0 (fun _ => true) true 22 v d ps) : a.l.length ≤ Rows.uptoBulk d := by
  obtain ⟨fuel, hf⟩ := h
  change R (D7 W) (.list 1 (a.l.map Enc.enc)) v at hr
  simp only [R, List.length_map] at hr
  obtain ⟨A, c, rfl, _⟩ := hr
  rcases Go.Deep.open_slice Try.underlying22 hf with ⟨hcs, _⟩ | ⟨a', len, cap, m, n, D', Pl, hcs, _, _, _, _, hx, _⟩
  · have e : Value.slice A a.l.length c = .slice none 0 0 := by
      have h2 : [Value.slice A a.l.length c] = [.slice none 0 0] := hcs
      injection h2
    injection e with _ e2 _
    omega
  · have e : Value.slice A a.l.length c = .slice (some a') len cap := by
      have h2 : [Value.slice A a.l.length c] = [.slice (some a') len cap] := hcs
      injection h2
    injection e with _ e2 _
    injection hx with hd _
    subst hd
    have := bulk_len ((List.range len).map D')
    rw [List.length_map, List.length_range] at this
    simp only [Rows.uptoBulk]
    omega
theorem own : ownKnob Try.prog.godebug = none := by kernel_rfl
theorem laid : laidOutB Try.prog = true := by kernel_rfl
set_option maxRecDepth 100000 in
theorem reads {H : Type} (enc : TypeId × Value → H) (W : World) (base : Nat) (args : Array Value) (ds : List (DataW H))
    (hval : ∀ (j : Nat) t v, Try.f5.params[j]? = some t → args[j]? = some v → Value.okWide Try.prog W .any base t v) (hk : Rows.uptoBulkAll ds ≤ 1048576) (ps : List MemPlace)
    (hA : DataW.TrodAll enc Try.prog W 0 (fun _ => true) true Try.f5.params.toList args.toList ds ps) :
    ∃ xs : List D, Rs (D7 W) xs args.toList ∧ Go.Am.Hit.con_HitMore.pre (xs.map .d) ∧ Go.Am.Hit.con_HitMore.fn (xs.map .d) = .d (.bool true) := by
  rw [Try.params5] at hA hval
  obtain ⟨v0, vs0, d0, ds0, p0, q0, hargs, rfl, rfl, h0, r0⟩ := trodAll_cons hA
  obtain ⟨v1, vs1, d1, ds1, p1, q1, rfl, rfl, rfl, h1, r1⟩ := trodAll_cons r0
  obtain ⟨rfl, rfl, rfl⟩ := trodAll_nil r1
  obtain rfl : args = #[v0, v1] := by cases args; simp_all
  obtain ⟨x0, ⟨a0, rfl, o0⟩, g0⟩ := Ba Go.Am.Hit.rdW (by rw [Try.underlying22]; intro _ h; cases h) (by rw [Try.underlying22]; intro _ _ h; cases h) (hval 0 22 v0 rfl rfl) h0
  obtain ⟨x1, ⟨a1, rfl, o1⟩, g1⟩ := Ba Go.Am.Hit.rdS (by rw [Try.underlying29]; intro _ h; cases h) (by rw [Try.underlying29]; intro _ _ h; cases h) (hval 1 29 v1 rfl rfl) h1
  refine ⟨[Enc.enc a0, Enc.enc a1], ?_, ?_, rfl⟩
  · simp only [Rs]
    exact ⟨v0, _, rfl, g0, ⟨v1, _, rfl, g1, rfl⟩⟩
  · show Go.Am.Hit.con_HitMore.pre [.d (Enc.enc a0), .d (Enc.enc a1)]
    unfold Go.Am.Hit.con_HitMore
    unfold maxLen at *
    refine ⟨N7 a0, N7 a1, ?_⟩
    simp only [Enc.dec_enc]
    exact ⟨by { have hbk := bulk_slice g0 h0; simp only [Rows.uptoBulkAll] at hk; have q : a0.l.length ≤ Rows.uptoBulk d0 := hbk; show a0.l.length ≤ 2000000; omega }, Go.Am.Hit.rw_of o0, Go.Am.Hit.lo_of o1⟩
theorem spec_eq (H : Type) (ds : List (DataW H)) (h : ds.length = Try.f5.params.toList.length) : Rows.hitMoreSpec.fn H ds = { results := [.lit (.bool true)], args := ds } := by
  rw [Try.params5] at h
  match ds, h with
  | [_, _], _ => rfl
theorem fits_types : ∀ t ∈ Try.f5.params.toList, Try.prog.readableRec t = true ∧ t < Try.prog.types.size := by
  rw [Try.params5]
  intro t ht
  simp only [List.mem_cons, List.not_mem_nil, or_false] at ht
  rcases ht with rfl | rfl
  all_goals exact ⟨by kernel_rfl, of_decide_eq_true (by kernel_rfl)⟩
set_option maxRecDepth 100000 in
theorem lifted (os : Os) (started : os.Started) (H : Type) (enc : TypeId × Value → H) (F : Stop.Interp) :
    ReturnsInHanded {} Try.checked os 5 .any ((Rows.OpenSpec.upto Rows.hitMoreSpec).pre6 enc Try.prog Try.f5 Rows.hitMoreUptoRow.domain false) (((Rows.OpenSpec.upto Rows.hitMoreSpec).at F).post enc Try.prog Try.f5 false true false false) := by
  refine returnsInHanded_of_cond (C := Try.checked) (s := Rows.OpenSpec.upto Rows.hitMoreSpec) (k := Rows.uptoSmall) rfl own started (by kernel_rfl) Try.func5
    (OpenSpec.witness (enc := enc) (C := Try.checked) (s := Rows.OpenSpec.upto Rows.hitMoreSpec) (k := Rows.uptoSmall) rfl false ⟨#[], #[.slice none 0 0, .slice none 0 0], []⟩ 8 (by kernel_rfl) (by kernel_rfl) (by kernel_rfl)
      (x := ([.nil, .nil], [], [])) (by kernel_rfl) rfl (by kernel_rfl)) ?_
  intro W base args ds gs before hval hW _ hk _
  have hb : Rows.uptoBulkAll (ds ++ gs) ≤ 1048576 := of_decide_eq_true hk
  have hgs : gs = [] := by
    obtain ⟨_, _, _, hV, _⟩ := hW
    exact (trodVars_none hV).1
  rw [hgs, List.append_nil] at hb
  exact B8 Go.Am.Hit.good_HitMore rfl laid fits_types (by kernel_rfl) Try.underlying4 spec_eq enc W args ds gs before (reads enc W base args ds hval hb) hW
theorem over : Rows.hitMoreUptoRow.holds Try.pinned (Rows.OpenSpec.upto Rows.hitMoreSpec) :=
  OpenClaim.holds_of_cond 5 Try.f5 rfl rfl rfl rfl rfl rfl rfl ⟨rfl, rfl, rfl, rfl, rfl⟩ rfl rfl rfl rfl rfl (by kernel_rfl) Try.func5 (by kernel_rfl)
    (of_decide_eq_true (by kernel_rfl)) (by unfold Func.isWrapper; first | (rw [if_pos (by decide +kernel)]; kernel_rfl) | (rw [if_neg (by decide +kernel)]; exact ⟨rfl, rfl⟩))
    (fun os started H enc _ F => lifted os started H enc F)
theorem proved : Rows.HitMoreUptoSaid :=
  over
end Go.Proofs.Ytlcigcilhndjaaa.hitMore
