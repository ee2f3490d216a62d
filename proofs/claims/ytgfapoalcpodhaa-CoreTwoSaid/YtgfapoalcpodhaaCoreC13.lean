/- Contracts of functions that the laws of core reach, and plain laws of sets. Conditions: those that each contract states. -/
import Derived.Test.YtgfapoalcpodhaaCoreC12
set_option linter.unusedSimpArgs false
set_option linter.unusedVariables false
set_option maxHeartbeats 2000000
namespace Go.Am.Core
open Go.Proofs
open Enc (enc dec)

theorem may_out {s all : List Int} {bad : List (Sl Int)} (h : mayB s all bad = true) : s.length ≤ 20 ∧ all.length ≤ 20 ∧ Sorted s ∧ Sorted all ∧ Bads bad ∧ ∀ b ∈ bad, Sorted b.l := by
  unfold mayB at h
  simp only [Bool.and_eq_true, decide_eq_true_eq] at h
  obtain ⟨⟨⟨⟨h1, h2⟩, h3⟩, h4⟩, h5⟩ := h
  unfold few at h5
  simp only [Bool.and_eq_true, decide_eq_true_eq, List.all_eq_true] at h5
  unfold isSet at h3 h4 h5
  refine ⟨h1, h2, by unfold Sorted; simpa using h3, by unfold Sorted; simpa using h4, ⟨by omega, fun b hb => ?_⟩, fun b hb => ?_⟩
  · have := (h5.2 b hb).1; omega
  · have := (h5.2 b hb).2; unfold Sorted; simpa using this
theorem rshrink_len (s : List Int) (bad : List (Sl Int)) : (rshrink s bad).1.l.length ≤ s.length := by
  unfold rshrink
  split
  · simp
  · exact rsh_len bad s s
theorem rgrow_len (s all : List Int) (bad : List (Sl Int)) : (rgrow s all bad).1.l.length ≤ s.length + all.length := by
  unfold rgrow
  split
  · simp
  · exact rg_len bad all s

/-! ### CoreTells -/
def con3' : Con := con3 (fun (s all : Sl Int) (bad : Sl (Sl Int)) => s.l.length ≤ 9223372036854775807 ∧ all.l.length ≤ 9223372036854775807 ∧ bad.l.length ≤ 9223372036854775807 ∧ ∀ b ∈ bad.l, b.l.length ≤ 9223372036854775807) (fun _ _ _ => true)
def ctx3' : Ctx := ⟨tab, lkC [(8, con8), (9, con9), (10, con10), (11, con11), (12, con12), (13, con13), (14, con14), (15, con15), (16, con16), (17, con17), (18, con18), (19, con19), (20, con20)], 60⟩
theorem ctx3'_t : ctx3'.τ = tab := rfl
theorem ctx3'_c : ctx3'.Γ = lkC [(8, con8), (9, con9), (10, con10), (11, con11), (12, con12), (13, con13), (14, con14), (15, con15), (16, con16), (17, con17), (18, con18), (19, con19), (20, con20)] := rfl
theorem ctx3'_d : ctx3'.dp = 60 := rfl
set_option maxRecDepth 100000 in
theorem good3' : Good Try.prog (3, con3') := by
  refine ⟨enters_of Try.func3 (by kernel_rfl) rfl, ?_⟩
  have K : CtxOk Try.prog ctx3' := ctxOk_of tabOk mixedOk (by
    intro p hp
    simp only [List.mem_cons, List.not_mem_nil, or_false] at hp
    rcases hp with rfl | rfl | rfl | rfl | rfl | rfl | rfl | rfl | rfl | rfl | rfl | rfl | rfl
    · exact good8
    · exact good9
    · exact good10
    · exact good11
    · exact good12
    · exact good13
    · exact good14
    · exact good15
    · exact good16
    · exact good17
    · exact good18
    · exact good19
    · exact good20)
  obtain ⟨c, hc⟩ : ∃ c, Try.f3.body = some c := ⟨_, rfl⟩
  refine fn_sound K Try.func3 hc [.tmp 6] rfl 109 rfl (fun cvs hpre => ?_)
  change con3'.pre cvs at hpre
  unfold con3' at hpre
  obtain ⟨⟨s⟩, ⟨all⟩, ⟨bad⟩, rfl, hs, hall, hbad, hb⟩ := con3_pre hpre
  simp only at hs hall hbad hb
  cases hm : mayB s all bad with
  | false =>
    simp only [Try.f3, Option.some.injEq] at hc
    subst hc
    simp (config := { maxSteps := 4000000 }) only [awp_skip, awp_region, awp_draw, awp_seq, awp_cond, awp_block, awp_loop, awp_exit, awp_ret, beginAS, beginAll, deads, List.length_cons, List.length_nil, Nat.reduceAdd, Nat.reduceSub, Nat.reduceMul, Nat.reduceMod, Nat.reduceLT, Nat.reduceLeDiff, Nat.reduceEqDiff, Nat.reduceBEq, List.cons_append, List.nil_append,     aOps, aOp, aExec, opStep, guardOf, ↓ifB_tt, ↓ifB_ff, ↓ifB_t, ↓ifB_f, ↓ifG_tt, ↓ifG_ff, ↓ifG_tf, ↓ifG_ft, ifB, ifG, and_assoc, List.getElem?_cons_zero, List.getElem?_cons_succ, AS.ev, constAV, constD, AS.put, aThen, aBlock, aDraws, Ctx.one, fpOf, opnds, keysAll, AV.keys, ownKey, makes, roOf, List.map_cons, List.map_nil, Ctx.esize, Ctx.size, Ctx.ag, TK.ag, Ctx.elemT, Ctx.fieldAt, tab3, tab4, tab22, tab23, tab33, tab37, tab42, tab51, List.getD_cons_zero, List.getD_cons_succ, List.set_cons_zero, List.set_cons_succ, true_and, and_true,     hPick, hAlloc, hLoad, hStore, hFieldAddr, hField, hIndexAddr, hIndex, hSlice, hBuildSlice, hBuild, buildGo, hMakeSlice, hSource, hAppend, hLen, hMin, hMax, hConv, hExtract, hCall, hCallV, hBin, hUn, pureOut, inArgs, outCV, outOne, outAll, mkTup, mkAgg, mkClo, allD, pur, purs, purParts, allLt, allFit, zerosD, setAll, evs, evO, evParts, lk, upd, splice, AV.cells, AV.fits, cellsFrom, Obj.isBox, D.setCell, D.asAgg, lkC, retOk, resAll, resAV, Post,     isInt_int, isBool_bool, isStr_str, isList_list, isAnyInt_int, i_int, b_bool, s_str, l_list, fits_int, fits_bool, fits_str, fits_list, fits_agg, fits_ptr, fits_clo, fits_nilp, fits_nilf, cell_int, cell_bool, cell_str, cell_list, cell_clo, cell_ptr, cell_agg, encI_def, encB_def, encS_def, i_enc, b_enc, s_enc, isInt_enc, isBool_enc, isStr_enc, fits_encI, cell_encI, fits_encB, cell_encB, fits_encS, cell_encS, isAnyInt_enc, l_enc, isList_enc, fits_encL, cell_encL, dec_int, dec_bool, dec_str, dec_encE, isE_int, isE_bool, isE_str, isE_encE, dec_list, isE_list, isE_map, map_dec_enc, ltB_true, ltB_false, leB_true, leB_false, szI, szB, szS, szL, boolE, intE, strE, listE, encE, SlE, List.length_map, List.length_append, List.length_replicate, Int.toNat_natCast, Bool.not_true, Bool.not_false, Bool.not_not, decide_true, decide_false, Bool.and_true, Bool.true_and, Bool.and_false, Bool.false_and, Bool.or_true, Bool.true_or, Bool.or_false, Bool.false_or, List.length_singleton, decide_eq_true_eq, decide_eq_false_iff_not, beq_iff_eq, beq_eq_false_iff_ne, bne_iff_ne, bne_eq_false_iff_eq, Bool.not_eq_true', Bool.not_eq_false', forall_const, true_imp_iff, false_imp_iff, if_true, if_false, reduceIte, reduceCtorEq, and_self, or_self, not_true, not_false_eq_true, List.append_nil, D.bool.injEq, D.int.injEq, D.str.injEq, D.list.injEq, D.agg.injEq, bne_self_eq_false, CV.d.injEq, CV.own.injEq, CV.tup.injEq, List.cons.injEq, List.toList_toArray, Option.some.injEq, Option.toList, List.flatMap_cons, List.flatMap_nil, Prod.mk.injEq, List.take_succ_cons, List.take_zero, List.drop_succ_cons, List.drop_zero, List.getD_nil, con0, con1, con2, con3, con2t, con3t, atHead_mk, killAll, setSlots, updAll, shut_eq, map_snoc, map_snocI, map_snocB, map_snocS, map_cat, List.not_mem_nil, false_implies, implies_true, List.mem_cons, or_false, forall_eq_or_imp, forall_eq, ne_eq, isE_int, isE_bool, isE_str, isE_list, ctx3'_t, ctx3'_c, ctx3'_d, con10, con11, con12, con13, con14, con15, con16, con17, con18, con19, con20, con3', con8, con9, hm]
    repeat' (first | with_reducible assumption | with_reducible refine And.intro ?_ ?_ | intro _ | omega | (rw [inR_i64]; omega))
  | true =>
    obtain ⟨h1, h2, hss, hsa, hB, hsb⟩ := may_out hm
    have e1 := shrink_eq hss bad
    have e2 := grow_eq hss all bad
    have e3 := least_eq hss bad
    have e4 := most_eq hss all bad
    have l1 := rshrink_len s bad
    have l2 := rgrow_len s all bad
    simp only [Try.f3, Option.some.injEq] at hc
    subst hc
    simp (config := { maxSteps := 4000000 }) only [awp_skip, awp_region, awp_draw, awp_seq, awp_cond, awp_block, awp_loop, awp_exit, awp_ret, beginAS, beginAll, deads, List.length_cons, List.length_nil, Nat.reduceAdd, Nat.reduceSub, Nat.reduceMul, Nat.reduceMod, Nat.reduceLT, Nat.reduceLeDiff, Nat.reduceEqDiff, Nat.reduceBEq, List.cons_append, List.nil_append,     aOps, aOp, aExec, opStep, guardOf, ↓ifB_tt, ↓ifB_ff, ↓ifB_t, ↓ifB_f, ↓ifG_tt, ↓ifG_ff, ↓ifG_tf, ↓ifG_ft, ifB, ifG, and_assoc, List.getElem?_cons_zero, List.getElem?_cons_succ, AS.ev, constAV, constD, AS.put, aThen, aBlock, aDraws, Ctx.one, fpOf, opnds, keysAll, AV.keys, ownKey, makes, roOf, List.map_cons, List.map_nil, Ctx.esize, Ctx.size, Ctx.ag, TK.ag, Ctx.elemT, Ctx.fieldAt, tab3, tab4, tab22, tab23, tab33, tab37, tab42, tab51, List.getD_cons_zero, List.getD_cons_succ, List.set_cons_zero, List.set_cons_succ, true_and, and_true,     hPick, hAlloc, hLoad, hStore, hFieldAddr, hField, hIndexAddr, hIndex, hSlice, hBuildSlice, hBuild, buildGo, hMakeSlice, hSource, hAppend, hLen, hMin, hMax, hConv, hExtract, hCall, hCallV, hBin, hUn, pureOut, inArgs, outCV, outOne, outAll, mkTup, mkAgg, mkClo, allD, pur, purs, purParts, allLt, allFit, zerosD, setAll, evs, evO, evParts, lk, upd, splice, AV.cells, AV.fits, cellsFrom, Obj.isBox, D.setCell, D.asAgg, lkC, retOk, resAll, resAV, Post,     isInt_int, isBool_bool, isStr_str, isList_list, isAnyInt_int, i_int, b_bool, s_str, l_list, fits_int, fits_bool, fits_str, fits_list, fits_agg, fits_ptr, fits_clo, fits_nilp, fits_nilf, cell_int, cell_bool, cell_str, cell_list, cell_clo, cell_ptr, cell_agg, encI_def, encB_def, encS_def, i_enc, b_enc, s_enc, isInt_enc, isBool_enc, isStr_enc, fits_encI, cell_encI, fits_encB, cell_encB, fits_encS, cell_encS, isAnyInt_enc, l_enc, isList_enc, fits_encL, cell_encL, dec_int, dec_bool, dec_str, dec_encE, isE_int, isE_bool, isE_str, isE_encE, dec_list, isE_list, isE_map, map_dec_enc, ltB_true, ltB_false, leB_true, leB_false, szI, szB, szS, szL, boolE, intE, strE, listE, encE, SlE, List.length_map, List.length_append, List.length_replicate, Int.toNat_natCast, Bool.not_true, Bool.not_false, Bool.not_not, decide_true, decide_false, Bool.and_true, Bool.true_and, Bool.and_false, Bool.false_and, Bool.or_true, Bool.true_or, Bool.or_false, Bool.false_or, List.length_singleton, decide_eq_true_eq, decide_eq_false_iff_not, beq_iff_eq, beq_eq_false_iff_ne, bne_iff_ne, bne_eq_false_iff_eq, Bool.not_eq_true', Bool.not_eq_false', forall_const, true_imp_iff, false_imp_iff, if_true, if_false, reduceIte, reduceCtorEq, and_self, or_self, not_true, not_false_eq_true, List.append_nil, D.bool.injEq, D.int.injEq, D.str.injEq, D.list.injEq, D.agg.injEq, bne_self_eq_false, CV.d.injEq, CV.own.injEq, CV.tup.injEq, List.cons.injEq, List.toList_toArray, Option.some.injEq, Option.toList, List.flatMap_cons, List.flatMap_nil, Prod.mk.injEq, List.take_succ_cons, List.take_zero, List.drop_succ_cons, List.drop_zero, List.getD_nil, con0, con1, con2, con3, con2t, con3t, atHead_mk, killAll, setSlots, updAll, shut_eq, map_snoc, map_snocI, map_snocB, map_snocS, map_cat, List.not_mem_nil, false_implies, implies_true, List.mem_cons, or_false, forall_eq_or_imp, forall_eq, ne_eq, isE_int, isE_bool, isE_str, isE_list, ctx3'_t, ctx3'_c, ctx3'_d, con10, con11, con12, con13, con14, con15, con16, con17, con18, con19, con20, con3', con8, con9, hm, e1, e2, e3, e4, beq_self_eq_true]
    repeat' (first | with_reducible assumption | with_reducible refine And.intro ?_ ?_ | intro _ | omega | (rw [inR_i64]; omega))
    trace_state

end Go.Am.Core
