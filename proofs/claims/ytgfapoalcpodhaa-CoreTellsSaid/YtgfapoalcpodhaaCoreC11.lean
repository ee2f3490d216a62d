/- Contracts of functions that the laws of core reach, and plain laws of sets. Conditions: those that each contract states. -/
import Derived.Test.YtgfapoalcpodhaaCoreC10
set_option linter.unusedSimpArgs false
set_option linter.unusedVariables false
set_option maxHeartbeats 1000000
namespace Go.Am.Core
open Go.Proofs
open Enc (enc dec)

theorem Sorted.less {l : List Int} (h : Sorted l) (n : Int) : (∀ x ∈ l.take (less l n), x < n) ∧ ∀ x ∈ l.drop (less l n), n ≤ x := by
  unfold Core.less
  induction l with
  | nil => simp
  | cons y l ih =>
    obtain ⟨h1, h2⟩ := List.pairwise_cons.1 h
    obtain ⟨i1, i2⟩ := ih h2
    by_cases hy : y < n
    · rw [List.countP_cons_of_pos (by simpa using hy), List.take_succ_cons, List.drop_succ_cons]
      refine ⟨fun x hx => ?_, i2⟩
      rcases List.mem_cons.1 hx with rfl | hx
      · exact hy
      · exact i1 x hx
    · have e : (y :: l).countP (fun y => decide (y < n)) = 0 := by
        rw [List.countP_eq_zero]
        intro a ha
        rcases List.mem_cons.1 ha with rfl | ha
        · simpa using hy
        · have := h1 a ha
          simp
          omega
      rw [e]
      simp only [List.take_zero, List.not_mem_nil, false_implies, implies_true, List.drop_zero, true_and]
      intro x hx
      rcases List.mem_cons.1 hx with rfl | hx
      · omega
      · have := h1 x hx
        omega
theorem mem_put {l : List Int} {n x : Int} : x ∈ put l n ↔ x = n ∨ x ∈ l := by
  unfold put
  rw [List.mem_append, List.mem_append, List.mem_singleton]
  have : x ∈ l ↔ x ∈ l.take (less l n) ∨ x ∈ l.drop (less l n) := by rw [← List.mem_append, List.take_append_drop]
  rw [this]
  constructor
  · rintro ((h | h) | h)
    · exact .inr (.inl h)
    · exact .inl h
    · exact .inr (.inr h)
  · rintro (h | h | h)
    · exact .inl (.inr h)
    · exact .inl (.inl h)
    · exact .inr h
theorem Sorted.put {l : List Int} (h : Sorted l) {n : Int} (hn : l.contains n = false) : Sorted (put l n) := by
  obtain ⟨h1, h2⟩ := h.less n
  have hne : ∀ x ∈ l, x ≠ n := by
    rintro x hx rfl
    have := List.contains_iff_mem.2 hx
    rw [hn] at this
    cases this
  unfold Core.put Sorted at *
  rw [List.pairwise_append, List.pairwise_append]
  refine ⟨⟨List.Pairwise.sublist (List.take_sublist _ _) h, List.pairwise_singleton _ _, ?_⟩, List.Pairwise.sublist (List.drop_sublist _ _) h, ?_⟩
  · intro a ha b hb
    rw [List.mem_singleton] at hb
    subst hb
    exact h1 a ha
  · intro a ha b hb
    have hb1 := h2 b hb
    have hb2 := hne b (List.drop_subset _ _ hb)
    rcases List.mem_append.1 ha with ha | ha
    · have := h1 a ha
      omega
    · rw [List.mem_singleton] at ha
      subst ha
      omega
theorem put_len (l : List Int) (n : Int) : (put l n).length = l.length + 1 := by
  have := less_le l n
  unfold put
  simp
  omega
theorem withC_len (l : List Int) (n : Int) : (withC l n).1.l.length ≤ l.length + 1 := by
  unfold withC
  split
  · simp
  · simp [put_len]
theorem withC_sorted {l : List Int} (h : Sorted l) (n : Int) : Sorted (withC l n).1.l := by
  unfold withC
  split
  · exact h
  · next hc => exact h.put (by simpa using hc)

/-! ### core.Grow -/
def gStep (bad : List (Sl Int)) (out : List Int) (n : Int) : List Int := if (withC out n).2 = true ∧ fits (withC out n).1.l bad = true then (withC out n).1.l else out
def growC (s all : List Int) (bad : List (Sl Int)) : Sl Int × Bool := if fits s bad = false then (⟨[]⟩, false) else (⟨all.foldl (gStep bad) s⟩, true)
theorem gStep_len (bad : List (Sl Int)) (out : List Int) (n : Int) : (gStep bad out n).length ≤ out.length + 1 := by
  unfold gStep
  split
  · exact withC_len _ _
  · omega
theorem g_len (bad : List (Sl Int)) (l out : List Int) : (l.foldl (gStep bad) out).length ≤ out.length + l.length := by
  induction l generalizing out with
  | nil => exact Nat.le_refl _
  | cons x l ih =>
    have h1 := ih (gStep bad out x)
    have h2 := gStep_len bad out x
    simp only [List.foldl_cons, List.length_cons]
    omega
theorem gStep_sorted {bad : List (Sl Int)} {out : List Int} (h : Sorted out) (n : Int) : Sorted (gStep bad out n) := by
  unfold gStep
  split
  · exact withC_sorted h n
  · exact h
theorem g_sorted {bad : List (Sl Int)} (l : List Int) {out : List Int} (h : Sorted out) : Sorted (l.foldl (gStep bad) out) := by
  induction l generalizing out with
  | nil => exact h
  | cons x l ih => exact ih (gStep_sorted h x)
def con12 : Con := con3t (fun (s all : Sl Int) (bad : Sl (Sl Int)) => s.l.length + all.l.length ≤ 1048575 ∧ Sorted s.l ∧ Bads bad.l) (fun s all bad => growC s.l all.l bad.l)
def ctx12 : Ctx := ⟨tab, lkC [(26, con26), (33, con33), (27, con27d), (29, con29)], 60⟩
theorem ctx12_t : ctx12.τ = tab := rfl
theorem ctx12_c : ctx12.Γ = lkC [(26, con26), (33, con33), (27, con27d), (29, con29)] := rfl
theorem ctx12_d : ctx12.dp = 60 := rfl
theorem good12 : Good Try.prog (12, con12) := by
  refine ⟨enters_of Try.func12 (by kernel_rfl) rfl, ?_⟩
  have K : CtxOk Try.prog ctx12 := ctxOk_of tabOk mixedOk (by
    intro p hp
    simp only [List.mem_cons, List.not_mem_nil, or_false] at hp
    rcases hp with rfl | rfl | rfl | rfl
    · exact good26
    · exact good33
    · exact good27d
    · exact good29)
  obtain ⟨c, hc⟩ : ∃ c, Try.f12.body = some c := ⟨_, rfl⟩
  refine fn_sound K Try.func12 hc [.tmp 6, .tmp 7] rfl 45 rfl (fun cvs hpre => ?_)
  change con12.pre cvs at hpre
  unfold con12 at hpre
  obtain ⟨⟨s⟩, ⟨all⟩, ⟨bad⟩, rfl, hs, hss, hB⟩ := con3t_pre hpre
  simp only at hs hss hB
  simp only [Try.f12, Option.some.injEq] at hc
  subst hc
  simp (config := { maxSteps := 4000000 }) only [awp_skip, awp_region, awp_draw, awp_seq, awp_cond, awp_block, awp_loop, awp_exit, awp_ret, beginAS, beginAll, deads, List.length_cons, List.length_nil, Nat.reduceAdd, Nat.reduceSub, Nat.reduceMul, Nat.reduceMod, Nat.reduceLT, Nat.reduceLeDiff, Nat.reduceEqDiff, Nat.reduceBEq, List.cons_append, List.nil_append,     aOps, aOp, aExec, opStep, guardOf, ↓ifB_tt, ↓ifB_ff, ↓ifB_t, ↓ifB_f, ↓ifG_tt, ↓ifG_ff, ↓ifG_tf, ↓ifG_ft, ifB, ifG, and_assoc, List.getElem?_cons_zero, List.getElem?_cons_succ, AS.ev, constAV, constD, AS.put, aThen, aBlock, aDraws, Ctx.one, fpOf, opnds, keysAll, AV.keys, ownKey, makes, roOf, List.map_cons, List.map_nil, Ctx.esize, Ctx.size, Ctx.ag, TK.ag, Ctx.elemT, Ctx.fieldAt, tab3, tab4, tab22, tab23, tab33, tab37, tab42, tab51, List.getD_cons_zero, List.getD_cons_succ, List.set_cons_zero, List.set_cons_succ, true_and, and_true,     hPick, hAlloc, hLoad, hStore, hFieldAddr, hField, hIndexAddr, hIndex, hSlice, hBuildSlice, hBuild, buildGo, hMakeSlice, hSource, hAppend, hLen, hMin, hMax, hConv, hExtract, hCall, hCallV, hBin, hUn, pureOut, inArgs, outCV, outOne, outAll, mkTup, mkAgg, mkClo, allD, pur, purs, purParts, allLt, allFit, zerosD, setAll, evs, evO, evParts, lk, upd, splice, AV.cells, AV.fits, cellsFrom, Obj.isBox, D.setCell, D.asAgg, lkC, retOk, resAll, resAV, Post,     isInt_int, isBool_bool, isStr_str, isList_list, isAnyInt_int, i_int, b_bool, s_str, l_list, fits_int, fits_bool, fits_str, fits_list, fits_agg, fits_ptr, fits_clo, fits_nilp, fits_nilf, cell_int, cell_bool, cell_str, cell_list, cell_clo, cell_ptr, cell_agg, encI_def, encB_def, encS_def, i_enc, b_enc, s_enc, isInt_enc, isBool_enc, isStr_enc, fits_encI, cell_encI, fits_encB, cell_encB, fits_encS, cell_encS, isAnyInt_enc, l_enc, isList_enc, fits_encL, cell_encL, dec_int, dec_bool, dec_str, dec_encE, isE_int, isE_bool, isE_str, isE_encE, dec_list, isE_list, isE_map, map_dec_enc, ltB_true, ltB_false, leB_true, leB_false, szI, szB, szS, szL, boolE, intE, strE, listE, encE, SlE, List.length_map, List.length_append, List.length_replicate, Int.toNat_natCast, Bool.not_true, Bool.not_false, Bool.not_not, decide_true, decide_false, Bool.and_true, Bool.true_and, Bool.and_false, Bool.false_and, Bool.or_true, Bool.true_or, Bool.or_false, Bool.false_or, List.length_singleton, decide_eq_true_eq, decide_eq_false_iff_not, beq_iff_eq, beq_eq_false_iff_ne, bne_iff_ne, bne_eq_false_iff_eq, Bool.not_eq_true', Bool.not_eq_false', forall_const, true_imp_iff, false_imp_iff, if_true, if_false, reduceIte, reduceCtorEq, and_self, or_self, not_true, not_false_eq_true, List.append_nil, D.bool.injEq, D.int.injEq, D.str.injEq, D.list.injEq, D.agg.injEq, bne_self_eq_false, CV.d.injEq, CV.own.injEq, CV.tup.injEq, List.cons.injEq, List.toList_toArray, Option.some.injEq, Option.toList, List.flatMap_cons, List.flatMap_nil, Prod.mk.injEq, List.take_succ_cons, List.take_zero, List.drop_succ_cons, List.drop_zero, List.getD_nil, con0, con1, con2, con3, con2t, con3t, atHead_mk, killAll, setSlots, updAll, shut_eq, map_snoc, map_snocI, map_snocB, map_snocS, map_cat, List.not_mem_nil, false_implies, implies_true, List.mem_cons, or_false, forall_eq_or_imp, forall_eq, ne_eq, isE_int, isE_bool, isE_str, isE_list, ctx12_t, ctx12_c, ctx12_d, con12, con26, con27d, con29, con33, enc_Judge, enc_Pt, isE_Pt, dec_Pt]
  refine ⟨by omega, hss, hB, fun hf => ?_, fun hf => ⟨by omega, ?_⟩⟩
  · unfold growC
    rw [if_pos hf]
    exact ⟨rfl, rfl⟩
  refine aLoop_kill [11, 12, 13, 26, 27, 28, 29, 30, 31, 32, 33, 34, 35, 36, 37, 38, 39, 40, 41, 42, 43] (fun k : Nat => [(9, .d (enc (Sl.mk ((all.take k).foldl (gStep bad) s)))), (25, .d (.int .i64 k))]) (fun k : Nat => []) (fun k : Nat => k ≤ all.length) (fun k : Nat => all.length - k) 0 ?_ ?_ ?_
  · exact Nat.zero_le _
  · (simp only [Wk, wkT, wk1, AV.kept, wkO, lk, wkObj, atHead_mk, killAll, setSlots, updAll, upd, List.set_cons_zero, List.set_cons_succ, and_true, true_and, and_self, Nat.reduceEqDiff, if_true, if_false, reduceIte, reduceCtorEq, Option.isSome]; try simp [Wk, wkT, wk1, AV.kept, wkO, lk, wkObj])
  intro k hk
  rcases Nat.lt_or_ge k (all.length) with hlt | hlt
  · have hl := g_len bad (all.take k) s
    rw [List.length_take] at hl
    have hso := g_sorted (bad := bad) (all.take k) hss
    have hst := fold_take (gStep bad) s (0 : Int) hlt
    have hwl := withC_len ((all.take k).foldl (gStep bad) s) (all.getD k 0)
    have hws := withC_sorted hso (all.getD k 0)
    simp (config := { maxSteps := 4000000 }) only [awp_skip, awp_region, awp_draw, awp_seq, awp_cond, awp_block, awp_loop, awp_exit, awp_ret, beginAS, beginAll, deads, List.length_cons, List.length_nil, Nat.reduceAdd, Nat.reduceSub, Nat.reduceMul, Nat.reduceMod, Nat.reduceLT, Nat.reduceLeDiff, Nat.reduceEqDiff, Nat.reduceBEq, List.cons_append, List.nil_append,     aOps, aOp, aExec, opStep, guardOf, ↓ifB_tt, ↓ifB_ff, ↓ifB_t, ↓ifB_f, ↓ifG_tt, ↓ifG_ff, ↓ifG_tf, ↓ifG_ft, ifB, ifG, and_assoc, List.getElem?_cons_zero, List.getElem?_cons_succ, AS.ev, constAV, constD, AS.put, aThen, aBlock, aDraws, Ctx.one, fpOf, opnds, keysAll, AV.keys, ownKey, makes, roOf, List.map_cons, List.map_nil, Ctx.esize, Ctx.size, Ctx.ag, TK.ag, Ctx.elemT, Ctx.fieldAt, tab3, tab4, tab22, tab23, tab33, tab37, tab42, tab51, List.getD_cons_zero, List.getD_cons_succ, List.set_cons_zero, List.set_cons_succ, true_and, and_true,     hPick, hAlloc, hLoad, hStore, hFieldAddr, hField, hIndexAddr, hIndex, hSlice, hBuildSlice, hBuild, buildGo, hMakeSlice, hSource, hAppend, hLen, hMin, hMax, hConv, hExtract, hCall, hCallV, hBin, hUn, pureOut, inArgs, outCV, outOne, outAll, mkTup, mkAgg, mkClo, allD, pur, purs, purParts, allLt, allFit, zerosD, setAll, evs, evO, evParts, lk, upd, splice, AV.cells, AV.fits, cellsFrom, Obj.isBox, D.setCell, D.asAgg, lkC, retOk, resAll, resAV, Post,     isInt_int, isBool_bool, isStr_str, isList_list, isAnyInt_int, i_int, b_bool, s_str, l_list, fits_int, fits_bool, fits_str, fits_list, fits_agg, fits_ptr, fits_clo, fits_nilp, fits_nilf, cell_int, cell_bool, cell_str, cell_list, cell_clo, cell_ptr, cell_agg, encI_def, encB_def, encS_def, i_enc, b_enc, s_enc, isInt_enc, isBool_enc, isStr_enc, fits_encI, cell_encI, fits_encB, cell_encB, fits_encS, cell_encS, isAnyInt_enc, l_enc, isList_enc, fits_encL, cell_encL, dec_int, dec_bool, dec_str, dec_encE, isE_int, isE_bool, isE_str, isE_encE, dec_list, isE_list, isE_map, map_dec_enc, ltB_true, ltB_false, leB_true, leB_false, szI, szB, szS, szL, boolE, intE, strE, listE, encE, SlE, List.length_map, List.length_append, List.length_replicate, Int.toNat_natCast, Bool.not_true, Bool.not_false, Bool.not_not, decide_true, decide_false, Bool.and_true, Bool.true_and, Bool.and_false, Bool.false_and, Bool.or_true, Bool.true_or, Bool.or_false, Bool.false_or, List.length_singleton, decide_eq_true_eq, decide_eq_false_iff_not, beq_iff_eq, beq_eq_false_iff_ne, bne_iff_ne, bne_eq_false_iff_eq, Bool.not_eq_true', Bool.not_eq_false', forall_const, true_imp_iff, false_imp_iff, if_true, if_false, reduceIte, reduceCtorEq, and_self, or_self, not_true, not_false_eq_true, List.append_nil, D.bool.injEq, D.int.injEq, D.str.injEq, D.list.injEq, D.agg.injEq, bne_self_eq_false, CV.d.injEq, CV.own.injEq, CV.tup.injEq, List.cons.injEq, List.toList_toArray, Option.some.injEq, Option.toList, List.flatMap_cons, List.flatMap_nil, Prod.mk.injEq, List.take_succ_cons, List.take_zero, List.drop_succ_cons, List.drop_zero, List.getD_nil, con0, con1, con2, con3, con2t, con3t, atHead_mk, killAll, setSlots, updAll, shut_eq, map_snoc, map_snocI, map_snocB, map_snocS, map_cat, List.not_mem_nil, false_implies, implies_true, List.mem_cons, or_false, forall_eq_or_imp, forall_eq, ne_eq, isE_int, isE_bool, isE_str, isE_list, ctx12_t, ctx12_c, ctx12_d, con12, con26, con27d, con29, con33, enc_Judge, enc_Pt, isE_Pt, dec_Pt, el_map (0 : Int) hlt]
    repeat' (first | with_reducible assumption | with_reducible refine And.intro ?_ ?_ | intro _ | omega | (rw [inR_i64]; omega))
    · rename_i hc hf1
      rw [gStep, if_pos ⟨hc, hf1⟩] at hst
      exact ⟨k + 1, by (simp only [Wk, wkT, wk1, AV.kept, wkO, lk, wkObj, atHead_mk, killAll, setSlots, updAll, upd, List.set_cons_zero, List.set_cons_succ, and_true, true_and, and_self, Nat.reduceEqDiff, if_true, if_false, reduceIte, reduceCtorEq, Option.isSome]; try simp [Wk, wkT, wk1, AV.kept, wkO, lk, wkObj, hst]), by omega, by omega⟩
    · rename_i hc hf1
      rw [gStep, if_neg (by rw [hf1]; simp)] at hst
      exact ⟨k + 1, by (simp only [Wk, wkT, wk1, AV.kept, wkO, lk, wkObj, atHead_mk, killAll, setSlots, updAll, upd, List.set_cons_zero, List.set_cons_succ, and_true, true_and, and_self, Nat.reduceEqDiff, if_true, if_false, reduceIte, reduceCtorEq, Option.isSome]; try simp [Wk, wkT, wk1, AV.kept, wkO, lk, wkObj, hst]), by omega, by omega⟩
    · rename_i hc
      rw [gStep, if_neg (by rw [hc]; simp)] at hst
      exact ⟨k + 1, by (simp only [Wk, wkT, wk1, AV.kept, wkO, lk, wkObj, atHead_mk, killAll, setSlots, updAll, upd, List.set_cons_zero, List.set_cons_succ, and_true, true_and, and_self, Nat.reduceEqDiff, if_true, if_false, reduceIte, reduceCtorEq, Option.isSome]; try simp [Wk, wkT, wk1, AV.kept, wkO, lk, wkObj, hst]), by omega, by omega⟩
  · simp (config := { maxSteps := 4000000 }) only [awp_skip, awp_region, awp_draw, awp_seq, awp_cond, awp_block, awp_loop, awp_exit, awp_ret, beginAS, beginAll, deads, List.length_cons, List.length_nil, Nat.reduceAdd, Nat.reduceSub, Nat.reduceMul, Nat.reduceMod, Nat.reduceLT, Nat.reduceLeDiff, Nat.reduceEqDiff, Nat.reduceBEq, List.cons_append, List.nil_append,     aOps, aOp, aExec, opStep, guardOf, ↓ifB_tt, ↓ifB_ff, ↓ifB_t, ↓ifB_f, ↓ifG_tt, ↓ifG_ff, ↓ifG_tf, ↓ifG_ft, ifB, ifG, and_assoc, List.getElem?_cons_zero, List.getElem?_cons_succ, AS.ev, constAV, constD, AS.put, aThen, aBlock, aDraws, Ctx.one, fpOf, opnds, keysAll, AV.keys, ownKey, makes, roOf, List.map_cons, List.map_nil, Ctx.esize, Ctx.size, Ctx.ag, TK.ag, Ctx.elemT, Ctx.fieldAt, tab3, tab4, tab22, tab23, tab33, tab37, tab42, tab51, List.getD_cons_zero, List.getD_cons_succ, List.set_cons_zero, List.set_cons_succ, true_and, and_true,     hPick, hAlloc, hLoad, hStore, hFieldAddr, hField, hIndexAddr, hIndex, hSlice, hBuildSlice, hBuild, buildGo, hMakeSlice, hSource, hAppend, hLen, hMin, hMax, hConv, hExtract, hCall, hCallV, hBin, hUn, pureOut, inArgs, outCV, outOne, outAll, mkTup, mkAgg, mkClo, allD, pur, purs, purParts, allLt, allFit, zerosD, setAll, evs, evO, evParts, lk, upd, splice, AV.cells, AV.fits, cellsFrom, Obj.isBox, D.setCell, D.asAgg, lkC, retOk, resAll, resAV, Post,     isInt_int, isBool_bool, isStr_str, isList_list, isAnyInt_int, i_int, b_bool, s_str, l_list, fits_int, fits_bool, fits_str, fits_list, fits_agg, fits_ptr, fits_clo, fits_nilp, fits_nilf, cell_int, cell_bool, cell_str, cell_list, cell_clo, cell_ptr, cell_agg, encI_def, encB_def, encS_def, i_enc, b_enc, s_enc, isInt_enc, isBool_enc, isStr_enc, fits_encI, cell_encI, fits_encB, cell_encB, fits_encS, cell_encS, isAnyInt_enc, l_enc, isList_enc, fits_encL, cell_encL, dec_int, dec_bool, dec_str, dec_encE, isE_int, isE_bool, isE_str, isE_encE, dec_list, isE_list, isE_map, map_dec_enc, ltB_true, ltB_false, leB_true, leB_false, szI, szB, szS, szL, boolE, intE, strE, listE, encE, SlE, List.length_map, List.length_append, List.length_replicate, Int.toNat_natCast, Bool.not_true, Bool.not_false, Bool.not_not, decide_true, decide_false, Bool.and_true, Bool.true_and, Bool.and_false, Bool.false_and, Bool.or_true, Bool.true_or, Bool.or_false, Bool.false_or, List.length_singleton, decide_eq_true_eq, decide_eq_false_iff_not, beq_iff_eq, beq_eq_false_iff_ne, bne_iff_ne, bne_eq_false_iff_eq, Bool.not_eq_true', Bool.not_eq_false', forall_const, true_imp_iff, false_imp_iff, if_true, if_false, reduceIte, reduceCtorEq, and_self, or_self, not_true, not_false_eq_true, List.append_nil, D.bool.injEq, D.int.injEq, D.str.injEq, D.list.injEq, D.agg.injEq, bne_self_eq_false, CV.d.injEq, CV.own.injEq, CV.tup.injEq, List.cons.injEq, List.toList_toArray, Option.some.injEq, Option.toList, List.flatMap_cons, List.flatMap_nil, Prod.mk.injEq, List.take_succ_cons, List.take_zero, List.drop_succ_cons, List.drop_zero, List.getD_nil, con0, con1, con2, con3, con2t, con3t, atHead_mk, killAll, setSlots, updAll, shut_eq, map_snoc, map_snocI, map_snocB, map_snocS, map_cat, List.not_mem_nil, false_implies, implies_true, List.mem_cons, or_false, forall_eq_or_imp, forall_eq, ne_eq, isE_int, isE_bool, isE_str, isE_list, ctx12_t, ctx12_c, ctx12_d, con12, con26, con27d, con29, con33]
    refine ⟨fun h => by omega, fun _ => ?_⟩
    unfold growC
    rw [if_neg (by rw [hf]; simp), fold_all _ _ (by omega)]
    exact ⟨rfl, rfl⟩

/-! ### core.Least -/
def leastC (s : List Int) (bad : List (Sl Int)) : Bool := !fits s bad && (List.range s.length).all fun i => fits (cut s i) bad
def con17 : Con := con2 (fun (s : Sl Int) (bad : Sl (Sl Int)) => s.l.length ≤ 1048576 ∧ Sorted s.l ∧ Bads bad.l) (fun s bad => leastC s.l bad.l)
def ctx17 : Ctx := ⟨tab, lkC [(26, con26), (33, con33), (28, con28)], 60⟩
theorem ctx17_t : ctx17.τ = tab := rfl
theorem ctx17_c : ctx17.Γ = lkC [(26, con26), (33, con33), (28, con28)] := rfl
theorem ctx17_d : ctx17.dp = 60 := rfl
theorem good17 : Good Try.prog (17, con17) := by
  refine ⟨enters_of Try.func17 (by kernel_rfl) rfl, ?_⟩
  have K : CtxOk Try.prog ctx17 := ctxOk_of tabOk mixedOk (by
    intro p hp
    simp only [List.mem_cons, List.not_mem_nil, or_false] at hp
    rcases hp with rfl | rfl | rfl
    · exact good26
    · exact good33
    · exact good28)
  obtain ⟨c, hc⟩ : ∃ c, Try.f17.body = some c := ⟨_, rfl⟩
  refine fn_sound K Try.func17 hc [.tmp 4] rfl 26 rfl (fun cvs hpre => ?_)
  change con17.pre cvs at hpre
  unfold con17 at hpre
  obtain ⟨⟨s⟩, ⟨bad⟩, rfl, hs, hss, hB⟩ := con2_pre hpre
  simp only at hs hss hB
  simp only [Try.f17, Option.some.injEq] at hc
  subst hc
  simp (config := { maxSteps := 4000000 }) only [awp_skip, awp_region, awp_draw, awp_seq, awp_cond, awp_block, awp_loop, awp_exit, awp_ret, beginAS, beginAll, deads, List.length_cons, List.length_nil, Nat.reduceAdd, Nat.reduceSub, Nat.reduceMul, Nat.reduceMod, Nat.reduceLT, Nat.reduceLeDiff, Nat.reduceEqDiff, Nat.reduceBEq, List.cons_append, List.nil_append,     aOps, aOp, aExec, opStep, guardOf, ↓ifB_tt, ↓ifB_ff, ↓ifB_t, ↓ifB_f, ↓ifG_tt, ↓ifG_ff, ↓ifG_tf, ↓ifG_ft, ifB, ifG, and_assoc, List.getElem?_cons_zero, List.getElem?_cons_succ, AS.ev, constAV, constD, AS.put, aThen, aBlock, aDraws, Ctx.one, fpOf, opnds, keysAll, AV.keys, ownKey, makes, roOf, List.map_cons, List.map_nil, Ctx.esize, Ctx.size, Ctx.ag, TK.ag, Ctx.elemT, Ctx.fieldAt, tab3, tab4, tab22, tab23, tab33, tab37, tab42, tab51, List.getD_cons_zero, List.getD_cons_succ, List.set_cons_zero, List.set_cons_succ, true_and, and_true,     hPick, hAlloc, hLoad, hStore, hFieldAddr, hField, hIndexAddr, hIndex, hSlice, hBuildSlice, hBuild, buildGo, hMakeSlice, hSource, hAppend, hLen, hMin, hMax, hConv, hExtract, hCall, hCallV, hBin, hUn, pureOut, inArgs, outCV, outOne, outAll, mkTup, mkAgg, mkClo, allD, pur, purs, purParts, allLt, allFit, zerosD, setAll, evs, evO, evParts, lk, upd, splice, AV.cells, AV.fits, cellsFrom, Obj.isBox, D.setCell, D.asAgg, lkC, retOk, resAll, resAV, Post,     isInt_int, isBool_bool, isStr_str, isList_list, isAnyInt_int, i_int, b_bool, s_str, l_list, fits_int, fits_bool, fits_str, fits_list, fits_agg, fits_ptr, fits_clo, fits_nilp, fits_nilf, cell_int, cell_bool, cell_str, cell_list, cell_clo, cell_ptr, cell_agg, encI_def, encB_def, encS_def, i_enc, b_enc, s_enc, isInt_enc, isBool_enc, isStr_enc, fits_encI, cell_encI, fits_encB, cell_encB, fits_encS, cell_encS, isAnyInt_enc, l_enc, isList_enc, fits_encL, cell_encL, dec_int, dec_bool, dec_str, dec_encE, isE_int, isE_bool, isE_str, isE_encE, dec_list, isE_list, isE_map, map_dec_enc, ltB_true, ltB_false, leB_true, leB_false, szI, szB, szS, szL, boolE, intE, strE, listE, encE, SlE, List.length_map, List.length_append, List.length_replicate, Int.toNat_natCast, Bool.not_true, Bool.not_false, Bool.not_not, decide_true, decide_false, Bool.and_true, Bool.true_and, Bool.and_false, Bool.false_and, Bool.or_true, Bool.true_or, Bool.or_false, Bool.false_or, List.length_singleton, decide_eq_true_eq, decide_eq_false_iff_not, beq_iff_eq, beq_eq_false_iff_ne, bne_iff_ne, bne_eq_false_iff_eq, Bool.not_eq_true', Bool.not_eq_false', forall_const, true_imp_iff, false_imp_iff, if_true, if_false, reduceIte, reduceCtorEq, and_self, or_self, not_true, not_false_eq_true, List.append_nil, D.bool.injEq, D.int.injEq, D.str.injEq, D.list.injEq, D.agg.injEq, bne_self_eq_false, CV.d.injEq, CV.own.injEq, CV.tup.injEq, List.cons.injEq, List.toList_toArray, Option.some.injEq, Option.toList, List.flatMap_cons, List.flatMap_nil, Prod.mk.injEq, List.take_succ_cons, List.take_zero, List.drop_succ_cons, List.drop_zero, List.getD_nil, con0, con1, con2, con3, con2t, con3t, atHead_mk, killAll, setSlots, updAll, shut_eq, map_snoc, map_snocI, map_snocB, map_snocS, map_cat, List.not_mem_nil, false_implies, implies_true, List.mem_cons, or_false, forall_eq_or_imp, forall_eq, ne_eq, isE_int, isE_bool, isE_str, isE_list, ctx17_t, ctx17_c, ctx17_d, con17, con26, con28, con33, enc_Judge, enc_Pt, isE_Pt, dec_Pt]
  refine ⟨by omega, hss, hB, fun hf => ?_, fun hf => ?_⟩
  · unfold leastC
    rw [hf]
    rfl
  refine aLoop_kill [4, 6, 16, 17, 18, 19, 20, 21, 22, 23, 24, 25] (fun k : Nat => [(15, .d (.int .i64 k))]) (fun k : Nat => []) (fun k : Nat => k ≤ s.length ∧ ∀ j, j < k → fits (cut s j) bad = true) (fun k : Nat => s.length - k) 0 ?_ ?_ ?_
  · simp
  · (simp only [Wk, wkT, wk1, AV.kept, wkO, lk, wkObj, atHead_mk, killAll, setSlots, updAll, upd, List.set_cons_zero, List.set_cons_succ, and_true, true_and, and_self, Nat.reduceEqDiff, if_true, if_false, reduceIte, reduceCtorEq, Option.isSome]; try simp [Wk, wkT, wk1, AV.kept, wkO, lk, wkObj])
  rintro k ⟨hk, hno⟩
  rcases Nat.lt_or_ge k (s.length) with hlt | hlt
  · have hcl := cut_len hlt
    have hsc := Sorted.cut hss k
    simp (config := { maxSteps := 4000000 }) only [awp_skip, awp_region, awp_draw, awp_seq, awp_cond, awp_block, awp_loop, awp_exit, awp_ret, beginAS, beginAll, deads, List.length_cons, List.length_nil, Nat.reduceAdd, Nat.reduceSub, Nat.reduceMul, Nat.reduceMod, Nat.reduceLT, Nat.reduceLeDiff, Nat.reduceEqDiff, Nat.reduceBEq, List.cons_append, List.nil_append,     aOps, aOp, aExec, opStep, guardOf, ↓ifB_tt, ↓ifB_ff, ↓ifB_t, ↓ifB_f, ↓ifG_tt, ↓ifG_ff, ↓ifG_tf, ↓ifG_ft, ifB, ifG, and_assoc, List.getElem?_cons_zero, List.getElem?_cons_succ, AS.ev, constAV, constD, AS.put, aThen, aBlock, aDraws, Ctx.one, fpOf, opnds, keysAll, AV.keys, ownKey, makes, roOf, List.map_cons, List.map_nil, Ctx.esize, Ctx.size, Ctx.ag, TK.ag, Ctx.elemT, Ctx.fieldAt, tab3, tab4, tab22, tab23, tab33, tab37, tab42, tab51, List.getD_cons_zero, List.getD_cons_succ, List.set_cons_zero, List.set_cons_succ, true_and, and_true,     hPick, hAlloc, hLoad, hStore, hFieldAddr, hField, hIndexAddr, hIndex, hSlice, hBuildSlice, hBuild, buildGo, hMakeSlice, hSource, hAppend, hLen, hMin, hMax, hConv, hExtract, hCall, hCallV, hBin, hUn, pureOut, inArgs, outCV, outOne, outAll, mkTup, mkAgg, mkClo, allD, pur, purs, purParts, allLt, allFit, zerosD, setAll, evs, evO, evParts, lk, upd, splice, AV.cells, AV.fits, cellsFrom, Obj.isBox, D.setCell, D.asAgg, lkC, retOk, resAll, resAV, Post,     isInt_int, isBool_bool, isStr_str, isList_list, isAnyInt_int, i_int, b_bool, s_str, l_list, fits_int, fits_bool, fits_str, fits_list, fits_agg, fits_ptr, fits_clo, fits_nilp, fits_nilf, cell_int, cell_bool, cell_str, cell_list, cell_clo, cell_ptr, cell_agg, encI_def, encB_def, encS_def, i_enc, b_enc, s_enc, isInt_enc, isBool_enc, isStr_enc, fits_encI, cell_encI, fits_encB, cell_encB, fits_encS, cell_encS, isAnyInt_enc, l_enc, isList_enc, fits_encL, cell_encL, dec_int, dec_bool, dec_str, dec_encE, isE_int, isE_bool, isE_str, isE_encE, dec_list, isE_list, isE_map, map_dec_enc, ltB_true, ltB_false, leB_true, leB_false, szI, szB, szS, szL, boolE, intE, strE, listE, encE, SlE, List.length_map, List.length_append, List.length_replicate, Int.toNat_natCast, Bool.not_true, Bool.not_false, Bool.not_not, decide_true, decide_false, Bool.and_true, Bool.true_and, Bool.and_false, Bool.false_and, Bool.or_true, Bool.true_or, Bool.or_false, Bool.false_or, List.length_singleton, decide_eq_true_eq, decide_eq_false_iff_not, beq_iff_eq, beq_eq_false_iff_ne, bne_iff_ne, bne_eq_false_iff_eq, Bool.not_eq_true', Bool.not_eq_false', forall_const, true_imp_iff, false_imp_iff, if_true, if_false, reduceIte, reduceCtorEq, and_self, or_self, not_true, not_false_eq_true, List.append_nil, D.bool.injEq, D.int.injEq, D.str.injEq, D.list.injEq, D.agg.injEq, bne_self_eq_false, CV.d.injEq, CV.own.injEq, CV.tup.injEq, List.cons.injEq, List.toList_toArray, Option.some.injEq, Option.toList, List.flatMap_cons, List.flatMap_nil, Prod.mk.injEq, List.take_succ_cons, List.take_zero, List.drop_succ_cons, List.drop_zero, List.getD_nil, con0, con1, con2, con3, con2t, con3t, atHead_mk, killAll, setSlots, updAll, shut_eq, map_snoc, map_snocI, map_snocB, map_snocS, map_cat, List.not_mem_nil, false_implies, implies_true, List.mem_cons, or_false, forall_eq_or_imp, forall_eq, ne_eq, isE_int, isE_bool, isE_str, isE_list, ctx17_t, ctx17_c, ctx17_d, con17, con26, con28, con33, enc_Judge, enc_Pt, isE_Pt, dec_Pt]
    repeat' (first | with_reducible assumption | with_reducible refine And.intro ?_ ?_ | intro _ | omega | (rw [inR_i64]; omega))
    · kernel_rfl
    · rename_i hf1
      unfold leastC
      have : ((List.range s.length).all fun i => fits (cut s i) bad) = false := by
        rw [Bool.eq_false_iff]
        intro hc
        rw [List.all_eq_true] at hc
        have := hc k (List.mem_range.2 hlt)
        rw [hf1] at this
        cases this
      rw [this]
      simp
    · rename_i hf1
      refine ⟨k + 1, by (simp only [Wk, wkT, wk1, AV.kept, wkO, lk, wkObj, atHead_mk, killAll, setSlots, updAll, upd, List.set_cons_zero, List.set_cons_succ, and_true, true_and, and_self, Nat.reduceEqDiff, if_true, if_false, reduceIte, reduceCtorEq, Option.isSome]; try simp [Wk, wkT, wk1, AV.kept, wkO, lk, wkObj]), by omega, fun j hj => ?_, by omega⟩
      by_cases hjk : j = k
      · subst hjk; exact hf1
      · exact hno j (by omega)
  · simp (config := { maxSteps := 4000000 }) only [awp_skip, awp_region, awp_draw, awp_seq, awp_cond, awp_block, awp_loop, awp_exit, awp_ret, beginAS, beginAll, deads, List.length_cons, List.length_nil, Nat.reduceAdd, Nat.reduceSub, Nat.reduceMul, Nat.reduceMod, Nat.reduceLT, Nat.reduceLeDiff, Nat.reduceEqDiff, Nat.reduceBEq, List.cons_append, List.nil_append,     aOps, aOp, aExec, opStep, guardOf, ↓ifB_tt, ↓ifB_ff, ↓ifB_t, ↓ifB_f, ↓ifG_tt, ↓ifG_ff, ↓ifG_tf, ↓ifG_ft, ifB, ifG, and_assoc, List.getElem?_cons_zero, List.getElem?_cons_succ, AS.ev, constAV, constD, AS.put, aThen, aBlock, aDraws, Ctx.one, fpOf, opnds, keysAll, AV.keys, ownKey, makes, roOf, List.map_cons, List.map_nil, Ctx.esize, Ctx.size, Ctx.ag, TK.ag, Ctx.elemT, Ctx.fieldAt, tab3, tab4, tab22, tab23, tab33, tab37, tab42, tab51, List.getD_cons_zero, List.getD_cons_succ, List.set_cons_zero, List.set_cons_succ, true_and, and_true,     hPick, hAlloc, hLoad, hStore, hFieldAddr, hField, hIndexAddr, hIndex, hSlice, hBuildSlice, hBuild, buildGo, hMakeSlice, hSource, hAppend, hLen, hMin, hMax, hConv, hExtract, hCall, hCallV, hBin, hUn, pureOut, inArgs, outCV, outOne, outAll, mkTup, mkAgg, mkClo, allD, pur, purs, purParts, allLt, allFit, zerosD, setAll, evs, evO, evParts, lk, upd, splice, AV.cells, AV.fits, cellsFrom, Obj.isBox, D.setCell, D.asAgg, lkC, retOk, resAll, resAV, Post,     isInt_int, isBool_bool, isStr_str, isList_list, isAnyInt_int, i_int, b_bool, s_str, l_list, fits_int, fits_bool, fits_str, fits_list, fits_agg, fits_ptr, fits_clo, fits_nilp, fits_nilf, cell_int, cell_bool, cell_str, cell_list, cell_clo, cell_ptr, cell_agg, encI_def, encB_def, encS_def, i_enc, b_enc, s_enc, isInt_enc, isBool_enc, isStr_enc, fits_encI, cell_encI, fits_encB, cell_encB, fits_encS, cell_encS, isAnyInt_enc, l_enc, isList_enc, fits_encL, cell_encL, dec_int, dec_bool, dec_str, dec_encE, isE_int, isE_bool, isE_str, isE_encE, dec_list, isE_list, isE_map, map_dec_enc, ltB_true, ltB_false, leB_true, leB_false, szI, szB, szS, szL, boolE, intE, strE, listE, encE, SlE, List.length_map, List.length_append, List.length_replicate, Int.toNat_natCast, Bool.not_true, Bool.not_false, Bool.not_not, decide_true, decide_false, Bool.and_true, Bool.true_and, Bool.and_false, Bool.false_and, Bool.or_true, Bool.true_or, Bool.or_false, Bool.false_or, List.length_singleton, decide_eq_true_eq, decide_eq_false_iff_not, beq_iff_eq, beq_eq_false_iff_ne, bne_iff_ne, bne_eq_false_iff_eq, Bool.not_eq_true', Bool.not_eq_false', forall_const, true_imp_iff, false_imp_iff, if_true, if_false, reduceIte, reduceCtorEq, and_self, or_self, not_true, not_false_eq_true, List.append_nil, D.bool.injEq, D.int.injEq, D.str.injEq, D.list.injEq, D.agg.injEq, bne_self_eq_false, CV.d.injEq, CV.own.injEq, CV.tup.injEq, List.cons.injEq, List.toList_toArray, Option.some.injEq, Option.toList, List.flatMap_cons, List.flatMap_nil, Prod.mk.injEq, List.take_succ_cons, List.take_zero, List.drop_succ_cons, List.drop_zero, List.getD_nil, con0, con1, con2, con3, con2t, con3t, atHead_mk, killAll, setSlots, updAll, shut_eq, map_snoc, map_snocI, map_snocB, map_snocS, map_cat, List.not_mem_nil, false_implies, implies_true, List.mem_cons, or_false, forall_eq_or_imp, forall_eq, ne_eq, isE_int, isE_bool, isE_str, isE_list, ctx17_t, ctx17_c, ctx17_d, con17, con26, con28, con33]
    refine ⟨fun h => by omega, fun _ => ?_⟩
    unfold leastC
    have : ((List.range s.length).all fun i => fits (cut s i) bad) = true := by
      rw [List.all_eq_true]
      intro j hj
      exact hno j (by have := List.mem_range.1 hj; omega)
    rw [hf, this]
    rfl

/-! ### core.Most -/
def more1 (s : List Int) (bad : List (Sl Int)) (n : Int) : Bool := (withC s n).2 && fits (withC s n).1.l bad
def con31 : Con := con3 (fun (_ : Int) (s : Pt (Sl Int)) (j : Pt Judge) => s.v.l.length ≤ 1048575 ∧ Sorted s.v.l ∧ Bads j.v.bad) (fun n s j => more1 s.v.l j.v.bad n)
theorem dec_Judge {s : Sl (Sl Int)} : (dec (.agg [.clo 33 [.ptr 1 (enc s)]]) : Judge) = ⟨s.l⟩ := by
  show Judge.mk (dec (enc s) : Sl (Sl Int)).l = _
  rw [Enc.dec_enc]
theorem isE_Judge {s : Sl (Sl Int)} : isE Judge (.agg [.clo 33 [.ptr 1 (enc s)]]) = True := eq_true (by
  unfold isE
  rw [dec_Judge]
  rfl)
def ctx31 : Ctx := ⟨tab, lkC [(29, con29), (33, con33)], 60⟩
theorem ctx31_t : ctx31.τ = tab := rfl
theorem ctx31_c : ctx31.Γ = lkC [(29, con29), (33, con33)] := rfl
theorem ctx31_d : ctx31.dp = 60 := rfl
theorem good31 : Good Try.prog (31, con31) := by
  refine ⟨enters_of Try.func31 (by kernel_rfl) rfl, ?_⟩
  have K : CtxOk Try.prog ctx31 := ctxOk_of tabOk mixedOk (by
    intro p hp
    simp only [List.mem_cons, List.not_mem_nil, or_false] at hp
    rcases hp with rfl | rfl
    · exact good29
    · exact good33)
  obtain ⟨c, hc⟩ : ∃ c, Try.f31.body = some c := ⟨_, rfl⟩
  refine fn_sound K Try.func31 hc [.tmp 4] rfl 20 rfl (fun cvs hpre => ?_)
  change con31.pre cvs at hpre
  unfold con31 at hpre
  obtain ⟨n, ⟨⟨s⟩⟩, ⟨⟨bad⟩⟩, rfl, hs, hss, hB⟩ := con3_pre hpre
  simp only at hs hss hB
  have hwl := withC_len s n
  have hws := withC_sorted hss n
  simp only [Try.f31, Option.some.injEq] at hc
  subst hc
  simp (config := { maxSteps := 4000000 }) only [awp_skip, awp_region, awp_draw, awp_seq, awp_cond, awp_block, awp_loop, awp_exit, awp_ret, beginAS, beginAll, deads, List.length_cons, List.length_nil, Nat.reduceAdd, Nat.reduceSub, Nat.reduceMul, Nat.reduceMod, Nat.reduceLT, Nat.reduceLeDiff, Nat.reduceEqDiff, Nat.reduceBEq, List.cons_append, List.nil_append,     aOps, aOp, aExec, opStep, guardOf, ↓ifB_tt, ↓ifB_ff, ↓ifB_t, ↓ifB_f, ↓ifG_tt, ↓ifG_ff, ↓ifG_tf, ↓ifG_ft, ifB, ifG, and_assoc, List.getElem?_cons_zero, List.getElem?_cons_succ, AS.ev, constAV, constD, AS.put, aThen, aBlock, aDraws, Ctx.one, fpOf, opnds, keysAll, AV.keys, ownKey, makes, roOf, List.map_cons, List.map_nil, Ctx.esize, Ctx.size, Ctx.ag, TK.ag, Ctx.elemT, Ctx.fieldAt, tab3, tab4, tab22, tab23, tab33, tab37, tab42, tab51, List.getD_cons_zero, List.getD_cons_succ, List.set_cons_zero, List.set_cons_succ, true_and, and_true,     hPick, hAlloc, hLoad, hStore, hFieldAddr, hField, hIndexAddr, hIndex, hSlice, hBuildSlice, hBuild, buildGo, hMakeSlice, hSource, hAppend, hLen, hMin, hMax, hConv, hExtract, hCall, hCallV, hBin, hUn, pureOut, inArgs, outCV, outOne, outAll, mkTup, mkAgg, mkClo, allD, pur, purs, purParts, allLt, allFit, zerosD, setAll, evs, evO, evParts, lk, upd, splice, AV.cells, AV.fits, cellsFrom, Obj.isBox, D.setCell, D.asAgg, lkC, retOk, resAll, resAV, Post,     isInt_int, isBool_bool, isStr_str, isList_list, isAnyInt_int, i_int, b_bool, s_str, l_list, fits_int, fits_bool, fits_str, fits_list, fits_agg, fits_ptr, fits_clo, fits_nilp, fits_nilf, cell_int, cell_bool, cell_str, cell_list, cell_clo, cell_ptr, cell_agg, encI_def, encB_def, encS_def, i_enc, b_enc, s_enc, isInt_enc, isBool_enc, isStr_enc, fits_encI, cell_encI, fits_encB, cell_encB, fits_encS, cell_encS, isAnyInt_enc, l_enc, isList_enc, fits_encL, cell_encL, dec_int, dec_bool, dec_str, dec_encE, isE_int, isE_bool, isE_str, isE_encE, dec_list, isE_list, isE_map, map_dec_enc, ltB_true, ltB_false, leB_true, leB_false, szI, szB, szS, szL, boolE, intE, strE, listE, encE, SlE, List.length_map, List.length_append, List.length_replicate, Int.toNat_natCast, Bool.not_true, Bool.not_false, Bool.not_not, decide_true, decide_false, Bool.and_true, Bool.true_and, Bool.and_false, Bool.false_and, Bool.or_true, Bool.true_or, Bool.or_false, Bool.false_or, List.length_singleton, decide_eq_true_eq, decide_eq_false_iff_not, beq_iff_eq, beq_eq_false_iff_ne, bne_iff_ne, bne_eq_false_iff_eq, Bool.not_eq_true', Bool.not_eq_false', forall_const, true_imp_iff, false_imp_iff, if_true, if_false, reduceIte, reduceCtorEq, and_self, or_self, not_true, not_false_eq_true, List.append_nil, D.bool.injEq, D.int.injEq, D.str.injEq, D.list.injEq, D.agg.injEq, bne_self_eq_false, CV.d.injEq, CV.own.injEq, CV.tup.injEq, List.cons.injEq, List.toList_toArray, Option.some.injEq, Option.toList, List.flatMap_cons, List.flatMap_nil, Prod.mk.injEq, List.take_succ_cons, List.take_zero, List.drop_succ_cons, List.drop_zero, List.getD_nil, con0, con1, con2, con3, con2t, con3t, atHead_mk, killAll, setSlots, updAll, shut_eq, map_snoc, map_snocI, map_snocB, map_snocS, map_cat, List.not_mem_nil, false_implies, implies_true, List.mem_cons, or_false, forall_eq_or_imp, forall_eq, ne_eq, isE_int, isE_bool, isE_str, isE_list, ctx31_t, ctx31_c, ctx31_d, con29, con31, con33, enc_Judge, enc_Pt, isE_Pt, dec_Pt, isE_Judge, dec_Judge]
  repeat' (first | with_reducible assumption | with_reducible refine And.intro ?_ ?_ | intro _ | omega | (rw [inR_i64]; omega))
  · rename_i hc
    unfold more1
    rw [hc]
    rfl
  · rename_i hc
    unfold more1
    rw [hc]
    rfl
structure Most1 where
  s : List Int
  bad : List (Sl Int)
instance encMost1 : Enc Most1 := ⟨fun a => .clo 31 [.ptr 1 (enc (Sl.mk a.s)), .ptr 1 (enc (Judge.mk a.bad))], fun x => match x with
  | .clo _ [.ptr _ y, .ptr _ z] => ⟨(dec y : Sl Int).l, (dec z : Judge).bad⟩
  | _ => ⟨[], []⟩, fun a => by
  show Most1.mk (dec (enc (Sl.mk a.s)) : Sl Int).l (dec (enc (Judge.mk a.bad)) : Judge).bad = a
  rw [Enc.dec_enc, Enc.dec_enc]⟩
theorem enc_Most1 {s : List Int} {bad : List (Sl Int)} : (enc (Most1.mk s bad) : D) = .clo 31 [.ptr 1 (enc (Sl.mk s)), .ptr 1 (enc (Judge.mk bad))] := rfl
theorem dec_Most1 {s : Sl Int} {bad : Sl (Sl Int)} : (dec (.clo 31 [.ptr 1 (enc s), .ptr 1 (.agg [.clo 33 [.ptr 1 (enc bad)]])]) : Most1) = ⟨s.l, bad.l⟩ := by
  show Most1.mk (dec (enc s) : Sl Int).l (dec (.agg [.clo 33 [.ptr 1 (enc bad)]]) : Judge).bad = _
  rw [dec_Judge, Enc.dec_enc]
theorem isE_Most1 {s : Sl Int} {bad : Sl (Sl Int)} : isE Most1 (.clo 31 [.ptr 1 (enc s), .ptr 1 (.agg [.clo 33 [.ptr 1 (enc bad)]])]) = True := eq_true (by
  unfold isE
  rw [dec_Most1]
  rfl)

def first1 (l : List Int) (p : Int → Bool) : Int := if l.any p = true then (l.findIdx p : Nat) else -1
theorem first1_ge (l : List Int) (p : Int → Bool) : leB 0 (first1 l p) = l.any p := by
  unfold first1
  by_cases h : l.any p = true
  · rw [if_pos h, h]
    simp [leB]
  · rw [if_neg h]
    have : l.any p = false := by simpa using h
    rw [this]
    rfl
def con40 : Con := con2 (fun (l : Sl Int) (f : Most1) => l.l.length ≤ 9223372036854775807 ∧ f.s.length ≤ 1048575 ∧ Sorted f.s ∧ Bads f.bad) (fun l f => first1 l.l (more1 f.s f.bad))
def ctx40 : Ctx := ⟨tab, lkC [(31, con31)], 60⟩
theorem ctx40_t : ctx40.τ = tab := rfl
theorem ctx40_c : ctx40.Γ = lkC [(31, con31)] := rfl
theorem ctx40_d : ctx40.dp = 60 := rfl
theorem good40 : Good Try.prog (40, con40) := by
  refine ⟨enters_of Try.func40 (by kernel_rfl) rfl, ?_⟩
  have K : CtxOk Try.prog ctx40 := ctxOk_of tabOk mixedOk (by
    intro p hp
    simp only [List.mem_cons, List.not_mem_nil, or_false] at hp
    rcases hp with rfl
    · exact good31)
  obtain ⟨c, hc⟩ : ∃ c, Try.f40.body = some c := ⟨_, rfl⟩
  refine fn_sound K Try.func40 hc [.tmp 4] rfl 19 rfl (fun cvs hpre => ?_)
  change con40.pre cvs at hpre
  unfold con40 at hpre
  obtain ⟨⟨l⟩, ⟨s, bad⟩, rfl, hl, hs, hss, hB⟩ := con2_pre hpre
  simp only at hl hs hss hB
  simp only [Try.f40, Option.some.injEq] at hc
  subst hc
  simp (config := { maxSteps := 4000000 }) only [awp_skip, awp_region, awp_draw, awp_seq, awp_cond, awp_block, awp_loop, awp_exit, awp_ret, beginAS, beginAll, deads, List.length_cons, List.length_nil, Nat.reduceAdd, Nat.reduceSub, Nat.reduceMul, Nat.reduceMod, Nat.reduceLT, Nat.reduceLeDiff, Nat.reduceEqDiff, Nat.reduceBEq, List.cons_append, List.nil_append,     aOps, aOp, aExec, opStep, guardOf, ↓ifB_tt, ↓ifB_ff, ↓ifB_t, ↓ifB_f, ↓ifG_tt, ↓ifG_ff, ↓ifG_tf, ↓ifG_ft, ifB, ifG, and_assoc, List.getElem?_cons_zero, List.getElem?_cons_succ, AS.ev, constAV, constD, AS.put, aThen, aBlock, aDraws, Ctx.one, fpOf, opnds, keysAll, AV.keys, ownKey, makes, roOf, List.map_cons, List.map_nil, Ctx.esize, Ctx.size, Ctx.ag, TK.ag, Ctx.elemT, Ctx.fieldAt, tab3, tab4, tab22, tab23, tab33, tab37, tab42, tab51, List.getD_cons_zero, List.getD_cons_succ, List.set_cons_zero, List.set_cons_succ, true_and, and_true,     hPick, hAlloc, hLoad, hStore, hFieldAddr, hField, hIndexAddr, hIndex, hSlice, hBuildSlice, hBuild, buildGo, hMakeSlice, hSource, hAppend, hLen, hMin, hMax, hConv, hExtract, hCall, hCallV, hBin, hUn, pureOut, inArgs, outCV, outOne, outAll, mkTup, mkAgg, mkClo, allD, pur, purs, purParts, allLt, allFit, zerosD, setAll, evs, evO, evParts, lk, upd, splice, AV.cells, AV.fits, cellsFrom, Obj.isBox, D.setCell, D.asAgg, lkC, retOk, resAll, resAV, Post,     isInt_int, isBool_bool, isStr_str, isList_list, isAnyInt_int, i_int, b_bool, s_str, l_list, fits_int, fits_bool, fits_str, fits_list, fits_agg, fits_ptr, fits_clo, fits_nilp, fits_nilf, cell_int, cell_bool, cell_str, cell_list, cell_clo, cell_ptr, cell_agg, encI_def, encB_def, encS_def, i_enc, b_enc, s_enc, isInt_enc, isBool_enc, isStr_enc, fits_encI, cell_encI, fits_encB, cell_encB, fits_encS, cell_encS, isAnyInt_enc, l_enc, isList_enc, fits_encL, cell_encL, dec_int, dec_bool, dec_str, dec_encE, isE_int, isE_bool, isE_str, isE_encE, dec_list, isE_list, isE_map, map_dec_enc, ltB_true, ltB_false, leB_true, leB_false, szI, szB, szS, szL, boolE, intE, strE, listE, encE, SlE, List.length_map, List.length_append, List.length_replicate, Int.toNat_natCast, Bool.not_true, Bool.not_false, Bool.not_not, decide_true, decide_false, Bool.and_true, Bool.true_and, Bool.and_false, Bool.false_and, Bool.or_true, Bool.true_or, Bool.or_false, Bool.false_or, List.length_singleton, decide_eq_true_eq, decide_eq_false_iff_not, beq_iff_eq, beq_eq_false_iff_ne, bne_iff_ne, bne_eq_false_iff_eq, Bool.not_eq_true', Bool.not_eq_false', forall_const, true_imp_iff, false_imp_iff, if_true, if_false, reduceIte, reduceCtorEq, and_self, or_self, not_true, not_false_eq_true, List.append_nil, D.bool.injEq, D.int.injEq, D.str.injEq, D.list.injEq, D.agg.injEq, bne_self_eq_false, CV.d.injEq, CV.own.injEq, CV.tup.injEq, List.cons.injEq, List.toList_toArray, Option.some.injEq, Option.toList, List.flatMap_cons, List.flatMap_nil, Prod.mk.injEq, List.take_succ_cons, List.take_zero, List.drop_succ_cons, List.drop_zero, List.getD_nil, con0, con1, con2, con3, con2t, con3t, atHead_mk, killAll, setSlots, updAll, shut_eq, map_snoc, map_snocI, map_snocB, map_snocS, map_cat, List.not_mem_nil, false_implies, implies_true, List.mem_cons, or_false, forall_eq_or_imp, forall_eq, ne_eq, isE_int, isE_bool, isE_str, isE_list, ctx40_t, ctx40_c, ctx40_d, con31, con40, enc_Most1]
  refine aLoop_kill [4, 5, 9, 10, 11, 12, 13, 14, 15, 16, 17, 18] (fun k : Nat => [(8, .d (.int .i64 k))]) (fun k : Nat => []) (fun k : Nat => k ≤ l.length ∧ ∀ j, j < k → more1 s bad (l.getD j 0) = false) (fun k : Nat => l.length - k) 0 ?_ ?_ ?_
  · simp
  · (simp only [Wk, wkT, wk1, AV.kept, wkO, lk, wkObj, atHead_mk, killAll, setSlots, updAll, upd, List.set_cons_zero, List.set_cons_succ, and_true, true_and, and_self, Nat.reduceEqDiff, if_true, if_false, reduceIte, reduceCtorEq, Option.isSome]; try simp [Wk, wkT, wk1, AV.kept, wkO, lk, wkObj])
  rintro k ⟨hk, hno⟩
  rcases Nat.lt_or_ge k (l.length) with hlt | hlt
  · simp (config := { maxSteps := 4000000 }) only [awp_skip, awp_region, awp_draw, awp_seq, awp_cond, awp_block, awp_loop, awp_exit, awp_ret, beginAS, beginAll, deads, List.length_cons, List.length_nil, Nat.reduceAdd, Nat.reduceSub, Nat.reduceMul, Nat.reduceMod, Nat.reduceLT, Nat.reduceLeDiff, Nat.reduceEqDiff, Nat.reduceBEq, List.cons_append, List.nil_append,     aOps, aOp, aExec, opStep, guardOf, ↓ifB_tt, ↓ifB_ff, ↓ifB_t, ↓ifB_f, ↓ifG_tt, ↓ifG_ff, ↓ifG_tf, ↓ifG_ft, ifB, ifG, and_assoc, List.getElem?_cons_zero, List.getElem?_cons_succ, AS.ev, constAV, constD, AS.put, aThen, aBlock, aDraws, Ctx.one, fpOf, opnds, keysAll, AV.keys, ownKey, makes, roOf, List.map_cons, List.map_nil, Ctx.esize, Ctx.size, Ctx.ag, TK.ag, Ctx.elemT, Ctx.fieldAt, tab3, tab4, tab22, tab23, tab33, tab37, tab42, tab51, List.getD_cons_zero, List.getD_cons_succ, List.set_cons_zero, List.set_cons_succ, true_and, and_true,     hPick, hAlloc, hLoad, hStore, hFieldAddr, hField, hIndexAddr, hIndex, hSlice, hBuildSlice, hBuild, buildGo, hMakeSlice, hSource, hAppend, hLen, hMin, hMax, hConv, hExtract, hCall, hCallV, hBin, hUn, pureOut, inArgs, outCV, outOne, outAll, mkTup, mkAgg, mkClo, allD, pur, purs, purParts, allLt, allFit, zerosD, setAll, evs, evO, evParts, lk, upd, splice, AV.cells, AV.fits, cellsFrom, Obj.isBox, D.setCell, D.asAgg, lkC, retOk, resAll, resAV, Post,     isInt_int, isBool_bool, isStr_str, isList_list, isAnyInt_int, i_int, b_bool, s_str, l_list, fits_int, fits_bool, fits_str, fits_list, fits_agg, fits_ptr, fits_clo, fits_nilp, fits_nilf, cell_int, cell_bool, cell_str, cell_list, cell_clo, cell_ptr, cell_agg, encI_def, encB_def, encS_def, i_enc, b_enc, s_enc, isInt_enc, isBool_enc, isStr_enc, fits_encI, cell_encI, fits_encB, cell_encB, fits_encS, cell_encS, isAnyInt_enc, l_enc, isList_enc, fits_encL, cell_encL, dec_int, dec_bool, dec_str, dec_encE, isE_int, isE_bool, isE_str, isE_encE, dec_list, isE_list, isE_map, map_dec_enc, ltB_true, ltB_false, leB_true, leB_false, szI, szB, szS, szL, boolE, intE, strE, listE, encE, SlE, List.length_map, List.length_append, List.length_replicate, Int.toNat_natCast, Bool.not_true, Bool.not_false, Bool.not_not, decide_true, decide_false, Bool.and_true, Bool.true_and, Bool.and_false, Bool.false_and, Bool.or_true, Bool.true_or, Bool.or_false, Bool.false_or, List.length_singleton, decide_eq_true_eq, decide_eq_false_iff_not, beq_iff_eq, beq_eq_false_iff_ne, bne_iff_ne, bne_eq_false_iff_eq, Bool.not_eq_true', Bool.not_eq_false', forall_const, true_imp_iff, false_imp_iff, if_true, if_false, reduceIte, reduceCtorEq, and_self, or_self, not_true, not_false_eq_true, List.append_nil, D.bool.injEq, D.int.injEq, D.str.injEq, D.list.injEq, D.agg.injEq, bne_self_eq_false, CV.d.injEq, CV.own.injEq, CV.tup.injEq, List.cons.injEq, List.toList_toArray, Option.some.injEq, Option.toList, List.flatMap_cons, List.flatMap_nil, Prod.mk.injEq, List.take_succ_cons, List.take_zero, List.drop_succ_cons, List.drop_zero, List.getD_nil, con0, con1, con2, con3, con2t, con3t, atHead_mk, killAll, setSlots, updAll, shut_eq, map_snoc, map_snocI, map_snocB, map_snocS, map_cat, List.not_mem_nil, false_implies, implies_true, List.mem_cons, or_false, forall_eq_or_imp, forall_eq, ne_eq, isE_int, isE_bool, isE_str, isE_list, ctx40_t, ctx40_c, ctx40_d, con31, con40, enc_Pt, isE_Pt, dec_Pt, enc_Judge, isE_Judge, dec_Judge, dec_Most1, el_map (0 : Int) hlt]
    repeat' (first | with_reducible assumption | with_reducible refine And.intro ?_ ?_ | intro _ | omega | (rw [inR_i64]; omega))
    · rename_i he
      unfold first1
      rw [if_pos (any_at (p := more1 s bad) 0 k hlt he)]
      congr 1
      symm
      rw [List.findIdx_eq hlt]
      refine ⟨by simpa [hlt] using he, fun j hj => ?_⟩
      have := hno j hj
      simpa [show j < l.length by omega] using this
    · rename_i he
      refine ⟨k + 1, by (simp only [Wk, wkT, wk1, AV.kept, wkO, lk, wkObj, atHead_mk, killAll, setSlots, updAll, upd, List.set_cons_zero, List.set_cons_succ, and_true, true_and, and_self, Nat.reduceEqDiff, if_true, if_false, reduceIte, reduceCtorEq, Option.isSome]; try simp [Wk, wkT, wk1, AV.kept, wkO, lk, wkObj]), by omega, fun j hj => ?_, by omega⟩
      by_cases hjk : j = k
      · subst hjk; exact he
      · exact hno j (by omega)
  · simp (config := { maxSteps := 4000000 }) only [awp_skip, awp_region, awp_draw, awp_seq, awp_cond, awp_block, awp_loop, awp_exit, awp_ret, beginAS, beginAll, deads, List.length_cons, List.length_nil, Nat.reduceAdd, Nat.reduceSub, Nat.reduceMul, Nat.reduceMod, Nat.reduceLT, Nat.reduceLeDiff, Nat.reduceEqDiff, Nat.reduceBEq, List.cons_append, List.nil_append,     aOps, aOp, aExec, opStep, guardOf, ↓ifB_tt, ↓ifB_ff, ↓ifB_t, ↓ifB_f, ↓ifG_tt, ↓ifG_ff, ↓ifG_tf, ↓ifG_ft, ifB, ifG, and_assoc, List.getElem?_cons_zero, List.getElem?_cons_succ, AS.ev, constAV, constD, AS.put, aThen, aBlock, aDraws, Ctx.one, fpOf, opnds, keysAll, AV.keys, ownKey, makes, roOf, List.map_cons, List.map_nil, Ctx.esize, Ctx.size, Ctx.ag, TK.ag, Ctx.elemT, Ctx.fieldAt, tab3, tab4, tab22, tab23, tab33, tab37, tab42, tab51, List.getD_cons_zero, List.getD_cons_succ, List.set_cons_zero, List.set_cons_succ, true_and, and_true,     hPick, hAlloc, hLoad, hStore, hFieldAddr, hField, hIndexAddr, hIndex, hSlice, hBuildSlice, hBuild, buildGo, hMakeSlice, hSource, hAppend, hLen, hMin, hMax, hConv, hExtract, hCall, hCallV, hBin, hUn, pureOut, inArgs, outCV, outOne, outAll, mkTup, mkAgg, mkClo, allD, pur, purs, purParts, allLt, allFit, zerosD, setAll, evs, evO, evParts, lk, upd, splice, AV.cells, AV.fits, cellsFrom, Obj.isBox, D.setCell, D.asAgg, lkC, retOk, resAll, resAV, Post,     isInt_int, isBool_bool, isStr_str, isList_list, isAnyInt_int, i_int, b_bool, s_str, l_list, fits_int, fits_bool, fits_str, fits_list, fits_agg, fits_ptr, fits_clo, fits_nilp, fits_nilf, cell_int, cell_bool, cell_str, cell_list, cell_clo, cell_ptr, cell_agg, encI_def, encB_def, encS_def, i_enc, b_enc, s_enc, isInt_enc, isBool_enc, isStr_enc, fits_encI, cell_encI, fits_encB, cell_encB, fits_encS, cell_encS, isAnyInt_enc, l_enc, isList_enc, fits_encL, cell_encL, dec_int, dec_bool, dec_str, dec_encE, isE_int, isE_bool, isE_str, isE_encE, dec_list, isE_list, isE_map, map_dec_enc, ltB_true, ltB_false, leB_true, leB_false, szI, szB, szS, szL, boolE, intE, strE, listE, encE, SlE, List.length_map, List.length_append, List.length_replicate, Int.toNat_natCast, Bool.not_true, Bool.not_false, Bool.not_not, decide_true, decide_false, Bool.and_true, Bool.true_and, Bool.and_false, Bool.false_and, Bool.or_true, Bool.true_or, Bool.or_false, Bool.false_or, List.length_singleton, decide_eq_true_eq, decide_eq_false_iff_not, beq_iff_eq, beq_eq_false_iff_ne, bne_iff_ne, bne_eq_false_iff_eq, Bool.not_eq_true', Bool.not_eq_false', forall_const, true_imp_iff, false_imp_iff, if_true, if_false, reduceIte, reduceCtorEq, and_self, or_self, not_true, not_false_eq_true, List.append_nil, D.bool.injEq, D.int.injEq, D.str.injEq, D.list.injEq, D.agg.injEq, bne_self_eq_false, CV.d.injEq, CV.own.injEq, CV.tup.injEq, List.cons.injEq, List.toList_toArray, Option.some.injEq, Option.toList, List.flatMap_cons, List.flatMap_nil, Prod.mk.injEq, List.take_succ_cons, List.take_zero, List.drop_succ_cons, List.drop_zero, List.getD_nil, con0, con1, con2, con3, con2t, con3t, atHead_mk, killAll, setSlots, updAll, shut_eq, map_snoc, map_snocI, map_snocB, map_snocS, map_cat, List.not_mem_nil, false_implies, implies_true, List.mem_cons, or_false, forall_eq_or_imp, forall_eq, ne_eq, isE_int, isE_bool, isE_str, isE_list, ctx40_t, ctx40_c, ctx40_d, con31, con40, enc_Judge, dec_Most1]
    refine ⟨fun h => by omega, fun _ => ?_⟩
    unfold first1
    rw [any_not (p := more1 s bad) 0 fun j hj => hno j (by omega)]
    rfl
def con30 : Con := con2 (fun (l : Sl Int) (f : Most1) => l.l.length ≤ 9223372036854775807 ∧ f.s.length ≤ 1048575 ∧ Sorted f.s ∧ Bads f.bad) (fun l f => l.l.any (more1 f.s f.bad))
def ctx30 : Ctx := ⟨tab, lkC [(40, con40)], 60⟩
theorem ctx30_t : ctx30.τ = tab := rfl
theorem ctx30_c : ctx30.Γ = lkC [(40, con40)] := rfl
theorem ctx30_d : ctx30.dp = 60 := rfl
theorem good30 : Good Try.prog (30, con30) := by
  refine ⟨enters_of Try.func30 (by kernel_rfl) rfl, ?_⟩
  have K : CtxOk Try.prog ctx30 := ctxOk_of tabOk mixedOk (by
    intro p hp
    simp only [List.mem_cons, List.not_mem_nil, or_false] at hp
    rcases hp with rfl
    · exact good40)
  obtain ⟨c, hc⟩ : ∃ c, Try.f30.body = some c := ⟨_, rfl⟩
  refine fn_sound K Try.func30 hc [.tmp 4] rfl 9 rfl (fun cvs hpre => ?_)
  change con30.pre cvs at hpre
  unfold con30 at hpre
  obtain ⟨⟨l⟩, ⟨s, bad⟩, rfl, hl, hs, hss, hB⟩ := con2_pre hpre
  simp only at hl hs hss hB
  simp only [Try.f30, Option.some.injEq] at hc
  subst hc
  simp (config := { maxSteps := 4000000 }) only [awp_skip, awp_region, awp_draw, awp_seq, awp_cond, awp_block, awp_loop, awp_exit, awp_ret, beginAS, beginAll, deads, List.length_cons, List.length_nil, Nat.reduceAdd, Nat.reduceSub, Nat.reduceMul, Nat.reduceMod, Nat.reduceLT, Nat.reduceLeDiff, Nat.reduceEqDiff, Nat.reduceBEq, List.cons_append, List.nil_append,     aOps, aOp, aExec, opStep, guardOf, ↓ifB_tt, ↓ifB_ff, ↓ifB_t, ↓ifB_f, ↓ifG_tt, ↓ifG_ff, ↓ifG_tf, ↓ifG_ft, ifB, ifG, and_assoc, List.getElem?_cons_zero, List.getElem?_cons_succ, AS.ev, constAV, constD, AS.put, aThen, aBlock, aDraws, Ctx.one, fpOf, opnds, keysAll, AV.keys, ownKey, makes, roOf, List.map_cons, List.map_nil, Ctx.esize, Ctx.size, Ctx.ag, TK.ag, Ctx.elemT, Ctx.fieldAt, tab3, tab4, tab22, tab23, tab33, tab37, tab42, tab51, List.getD_cons_zero, List.getD_cons_succ, List.set_cons_zero, List.set_cons_succ, true_and, and_true,     hPick, hAlloc, hLoad, hStore, hFieldAddr, hField, hIndexAddr, hIndex, hSlice, hBuildSlice, hBuild, buildGo, hMakeSlice, hSource, hAppend, hLen, hMin, hMax, hConv, hExtract, hCall, hCallV, hBin, hUn, pureOut, inArgs, outCV, outOne, outAll, mkTup, mkAgg, mkClo, allD, pur, purs, purParts, allLt, allFit, zerosD, setAll, evs, evO, evParts, lk, upd, splice, AV.cells, AV.fits, cellsFrom, Obj.isBox, D.setCell, D.asAgg, lkC, retOk, resAll, resAV, Post,     isInt_int, isBool_bool, isStr_str, isList_list, isAnyInt_int, i_int, b_bool, s_str, l_list, fits_int, fits_bool, fits_str, fits_list, fits_agg, fits_ptr, fits_clo, fits_nilp, fits_nilf, cell_int, cell_bool, cell_str, cell_list, cell_clo, cell_ptr, cell_agg, encI_def, encB_def, encS_def, i_enc, b_enc, s_enc, isInt_enc, isBool_enc, isStr_enc, fits_encI, cell_encI, fits_encB, cell_encB, fits_encS, cell_encS, isAnyInt_enc, l_enc, isList_enc, fits_encL, cell_encL, dec_int, dec_bool, dec_str, dec_encE, isE_int, isE_bool, isE_str, isE_encE, dec_list, isE_list, isE_map, map_dec_enc, ltB_true, ltB_false, leB_true, leB_false, szI, szB, szS, szL, boolE, intE, strE, listE, encE, SlE, List.length_map, List.length_append, List.length_replicate, Int.toNat_natCast, Bool.not_true, Bool.not_false, Bool.not_not, decide_true, decide_false, Bool.and_true, Bool.true_and, Bool.and_false, Bool.false_and, Bool.or_true, Bool.true_or, Bool.or_false, Bool.false_or, List.length_singleton, decide_eq_true_eq, decide_eq_false_iff_not, beq_iff_eq, beq_eq_false_iff_ne, bne_iff_ne, bne_eq_false_iff_eq, Bool.not_eq_true', Bool.not_eq_false', forall_const, true_imp_iff, false_imp_iff, if_true, if_false, reduceIte, reduceCtorEq, and_self, or_self, not_true, not_false_eq_true, List.append_nil, D.bool.injEq, D.int.injEq, D.str.injEq, D.list.injEq, D.agg.injEq, bne_self_eq_false, CV.d.injEq, CV.own.injEq, CV.tup.injEq, List.cons.injEq, List.toList_toArray, Option.some.injEq, Option.toList, List.flatMap_cons, List.flatMap_nil, Prod.mk.injEq, List.take_succ_cons, List.take_zero, List.drop_succ_cons, List.drop_zero, List.getD_nil, con0, con1, con2, con3, con2t, con3t, atHead_mk, killAll, setSlots, updAll, shut_eq, map_snoc, map_snocI, map_snocB, map_snocS, map_cat, List.not_mem_nil, false_implies, implies_true, List.mem_cons, or_false, forall_eq_or_imp, forall_eq, ne_eq, isE_int, isE_bool, isE_str, isE_list, ctx30_t, ctx30_c, ctx30_d, con30, con40, enc_Most1, dec_Most1, isE_Most1, enc_Judge]
  refine ⟨hl, hs, hss, hB, ?_⟩
  exact first1_ge _ _
def mostC (s all : List Int) (bad : List (Sl Int)) : Bool := fits s bad && !all.any (more1 s bad)
def con19 : Con := con3 (fun (s all : Sl Int) (bad : Sl (Sl Int)) => s.l.length ≤ 1048575 ∧ all.l.length ≤ 1048576 ∧ Sorted s.l ∧ Bads bad.l) (fun s all bad => mostC s.l all.l bad.l)
def ctx19 : Ctx := ⟨tab, lkC [(26, con26), (33, con33), (30, con30)], 60⟩
theorem ctx19_t : ctx19.τ = tab := rfl
theorem ctx19_c : ctx19.Γ = lkC [(26, con26), (33, con33), (30, con30)] := rfl
theorem ctx19_d : ctx19.dp = 60 := rfl
theorem good19 : Good Try.prog (19, con19) := by
  refine ⟨enters_of Try.func19 (by kernel_rfl) rfl, ?_⟩
  have K : CtxOk Try.prog ctx19 := ctxOk_of tabOk mixedOk (by
    intro p hp
    simp only [List.mem_cons, List.not_mem_nil, or_false] at hp
    rcases hp with rfl | rfl | rfl
    · exact good26
    · exact good33
    · exact good30)
  obtain ⟨c, hc⟩ : ∃ c, Try.f19.body = some c := ⟨_, rfl⟩
  refine fn_sound K Try.func19 hc [.tmp 6] rfl 20 rfl (fun cvs hpre => ?_)
  change con19.pre cvs at hpre
  unfold con19 at hpre
  obtain ⟨⟨s⟩, ⟨all⟩, ⟨bad⟩, rfl, hs, hall, hss, hB⟩ := con3_pre hpre
  simp only at hs hall hss hB
  simp only [Try.f19, Option.some.injEq] at hc
  subst hc
  simp (config := { maxSteps := 4000000 }) only [awp_skip, awp_region, awp_draw, awp_seq, awp_cond, awp_block, awp_loop, awp_exit, awp_ret, beginAS, beginAll, deads, List.length_cons, List.length_nil, Nat.reduceAdd, Nat.reduceSub, Nat.reduceMul, Nat.reduceMod, Nat.reduceLT, Nat.reduceLeDiff, Nat.reduceEqDiff, Nat.reduceBEq, List.cons_append, List.nil_append,     aOps, aOp, aExec, opStep, guardOf, ↓ifB_tt, ↓ifB_ff, ↓ifB_t, ↓ifB_f, ↓ifG_tt, ↓ifG_ff, ↓ifG_tf, ↓ifG_ft, ifB, ifG, and_assoc, List.getElem?_cons_zero, List.getElem?_cons_succ, AS.ev, constAV, constD, AS.put, aThen, aBlock, aDraws, Ctx.one, fpOf, opnds, keysAll, AV.keys, ownKey, makes, roOf, List.map_cons, List.map_nil, Ctx.esize, Ctx.size, Ctx.ag, TK.ag, Ctx.elemT, Ctx.fieldAt, tab3, tab4, tab22, tab23, tab33, tab37, tab42, tab51, List.getD_cons_zero, List.getD_cons_succ, List.set_cons_zero, List.set_cons_succ, true_and, and_true,     hPick, hAlloc, hLoad, hStore, hFieldAddr, hField, hIndexAddr, hIndex, hSlice, hBuildSlice, hBuild, buildGo, hMakeSlice, hSource, hAppend, hLen, hMin, hMax, hConv, hExtract, hCall, hCallV, hBin, hUn, pureOut, inArgs, outCV, outOne, outAll, mkTup, mkAgg, mkClo, allD, pur, purs, purParts, allLt, allFit, zerosD, setAll, evs, evO, evParts, lk, upd, splice, AV.cells, AV.fits, cellsFrom, Obj.isBox, D.setCell, D.asAgg, lkC, retOk, resAll, resAV, Post,     isInt_int, isBool_bool, isStr_str, isList_list, isAnyInt_int, i_int, b_bool, s_str, l_list, fits_int, fits_bool, fits_str, fits_list, fits_agg, fits_ptr, fits_clo, fits_nilp, fits_nilf, cell_int, cell_bool, cell_str, cell_list, cell_clo, cell_ptr, cell_agg, encI_def, encB_def, encS_def, i_enc, b_enc, s_enc, isInt_enc, isBool_enc, isStr_enc, fits_encI, cell_encI, fits_encB, cell_encB, fits_encS, cell_encS, isAnyInt_enc, l_enc, isList_enc, fits_encL, cell_encL, dec_int, dec_bool, dec_str, dec_encE, isE_int, isE_bool, isE_str, isE_encE, dec_list, isE_list, isE_map, map_dec_enc, ltB_true, ltB_false, leB_true, leB_false, szI, szB, szS, szL, boolE, intE, strE, listE, encE, SlE, List.length_map, List.length_append, List.length_replicate, Int.toNat_natCast, Bool.not_true, Bool.not_false, Bool.not_not, decide_true, decide_false, Bool.and_true, Bool.true_and, Bool.and_false, Bool.false_and, Bool.or_true, Bool.true_or, Bool.or_false, Bool.false_or, List.length_singleton, decide_eq_true_eq, decide_eq_false_iff_not, beq_iff_eq, beq_eq_false_iff_ne, bne_iff_ne, bne_eq_false_iff_eq, Bool.not_eq_true', Bool.not_eq_false', forall_const, true_imp_iff, false_imp_iff, if_true, if_false, reduceIte, reduceCtorEq, and_self, or_self, not_true, not_false_eq_true, List.append_nil, D.bool.injEq, D.int.injEq, D.str.injEq, D.list.injEq, D.agg.injEq, bne_self_eq_false, CV.d.injEq, CV.own.injEq, CV.tup.injEq, List.cons.injEq, List.toList_toArray, Option.some.injEq, Option.toList, List.flatMap_cons, List.flatMap_nil, Prod.mk.injEq, List.take_succ_cons, List.take_zero, List.drop_succ_cons, List.drop_zero, List.getD_nil, con0, con1, con2, con3, con2t, con3t, atHead_mk, killAll, setSlots, updAll, shut_eq, map_snoc, map_snocI, map_snocB, map_snocS, map_cat, List.not_mem_nil, false_implies, implies_true, List.mem_cons, or_false, forall_eq_or_imp, forall_eq, ne_eq, isE_int, isE_bool, isE_str, isE_list, ctx19_t, ctx19_c, ctx19_d, con19, con26, con30, con33, enc_Judge, enc_Pt, isE_Pt, dec_Pt, dec_Most1, isE_Most1]
  repeat' (first | with_reducible assumption | with_reducible refine And.intro ?_ ?_ | intro _ | omega | (rw [inR_i64]; omega))
  · rename_i hc
    unfold mostC
    rw [hc]
    rfl
  · rename_i hc
    unfold mostC
    rw [hc]
    rfl

end Go.Am.Core
