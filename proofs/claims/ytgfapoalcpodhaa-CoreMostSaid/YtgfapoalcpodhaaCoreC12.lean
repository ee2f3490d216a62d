/- Contracts of functions that the laws of core reach, and plain laws of sets. Conditions: those that each contract states. -/
import Derived.Test.YtgfapoalcpodhaaCoreP1
set_option linter.unusedSimpArgs false
set_option linter.unusedVariables false
set_option maxHeartbeats 1000000
namespace Go.Am.Core
open Go.Proofs
open Enc (enc dec)

/-! ### may -/
def mayB (s all : List Int) (bad : List (Sl Int)) : Bool := decide (s.length ≤ 20) && decide (all.length ≤ 20) && isSet s && isSet all && few bad
def con8 : Con := con3 (fun (s all : Sl Int) (bad : Sl (Sl Int)) => s.l.length ≤ 9223372036854775807 ∧ all.l.length ≤ 9223372036854775807 ∧ bad.l.length ≤ 9223372036854775807 ∧ ∀ b ∈ bad.l, b.l.length ≤ 9223372036854775807) (fun s all bad => mayB s.l all.l bad.l)
def ctx8 : Ctx := ⟨tab, lkC [(22, con22), (25, con25)], 60⟩
theorem ctx8_t : ctx8.τ = tab := rfl
theorem ctx8_c : ctx8.Γ = lkC [(22, con22), (25, con25)] := rfl
theorem ctx8_d : ctx8.dp = 60 := rfl
theorem good8 : Good Try.prog (8, con8) := by
  refine ⟨enters_of Try.func8 (by kernel_rfl) rfl, ?_⟩
  have K : CtxOk Try.prog ctx8 := ctxOk_of tabOk mixedOk (by
    intro p hp
    simp only [List.mem_cons, List.not_mem_nil, or_false] at hp
    rcases hp with rfl | rfl
    · exact good22
    · exact good25)
  obtain ⟨c, hc⟩ : ∃ c, Try.f8.body = some c := ⟨_, rfl⟩
  refine fn_sound K Try.func8 hc [.tmp 6] rfl 27 rfl (fun cvs hpre => ?_)
  change con8.pre cvs at hpre
  unfold con8 at hpre
  obtain ⟨⟨s⟩, ⟨all⟩, ⟨bad⟩, rfl, hs, hall, hbad, hb⟩ := con3_pre hpre
  simp only at hs hall hbad hb
  simp only [Try.f8, Option.some.injEq] at hc
  subst hc
  simp (config := { maxSteps := 4000000 }) only [awp_skip, awp_region, awp_draw, awp_seq, awp_cond, awp_block, awp_loop, awp_exit, awp_ret, beginAS, beginAll, deads, List.length_cons, List.length_nil, Nat.reduceAdd, Nat.reduceSub, Nat.reduceMul, Nat.reduceMod, Nat.reduceLT, Nat.reduceLeDiff, Nat.reduceEqDiff, Nat.reduceBEq, List.cons_append, List.nil_append,     aOps, aOp, aExec, opStep, guardOf, ↓ifB_tt, ↓ifB_ff, ↓ifB_t, ↓ifB_f, ↓ifG_tt, ↓ifG_ff, ↓ifG_tf, ↓ifG_ft, ifB, ifG, and_assoc, List.getElem?_cons_zero, List.getElem?_cons_succ, AS.ev, constAV, constD, AS.put, aThen, aBlock, aDraws, Ctx.one, fpOf, opnds, keysAll, AV.keys, ownKey, makes, roOf, List.map_cons, List.map_nil, Ctx.esize, Ctx.size, Ctx.ag, TK.ag, Ctx.elemT, Ctx.fieldAt, tab3, tab4, tab22, tab23, tab33, tab37, tab42, tab51, List.getD_cons_zero, List.getD_cons_succ, List.set_cons_zero, List.set_cons_succ, true_and, and_true,     hPick, hAlloc, hLoad, hStore, hFieldAddr, hField, hIndexAddr, hIndex, hSlice, hBuildSlice, hBuild, buildGo, hMakeSlice, hSource, hAppend, hLen, hMin, hMax, hConv, hExtract, hCall, hCallV, hBin, hUn, pureOut, inArgs, outCV, outOne, outAll, mkTup, mkAgg, mkClo, allD, pur, purs, purParts, allLt, allFit, zerosD, setAll, evs, evO, evParts, lk, upd, splice, AV.cells, AV.fits, cellsFrom, Obj.isBox, D.setCell, D.asAgg, lkC, retOk, resAll, resAV, Post,     isInt_int, isBool_bool, isStr_str, isList_list, isAnyInt_int, i_int, b_bool, s_str, l_list, fits_int, fits_bool, fits_str, fits_list, fits_agg, fits_ptr, fits_clo, fits_nilp, fits_nilf, cell_int, cell_bool, cell_str, cell_list, cell_clo, cell_ptr, cell_agg, encI_def, encB_def, encS_def, i_enc, b_enc, s_enc, isInt_enc, isBool_enc, isStr_enc, fits_encI, cell_encI, fits_encB, cell_encB, fits_encS, cell_encS, isAnyInt_enc, l_enc, isList_enc, fits_encL, cell_encL, dec_int, dec_bool, dec_str, dec_encE, isE_int, isE_bool, isE_str, isE_encE, dec_list, isE_list, isE_map, map_dec_enc, ltB_true, ltB_false, leB_true, leB_false, szI, szB, szS, szL, boolE, intE, strE, listE, encE, SlE, List.length_map, List.length_append, List.length_replicate, Int.toNat_natCast, Bool.not_true, Bool.not_false, Bool.not_not, decide_true, decide_false, Bool.and_true, Bool.true_and, Bool.and_false, Bool.false_and, Bool.or_true, Bool.true_or, Bool.or_false, Bool.false_or, List.length_singleton, decide_eq_true_eq, decide_eq_false_iff_not, beq_iff_eq, beq_eq_false_iff_ne, bne_iff_ne, bne_eq_false_iff_eq, Bool.not_eq_true', Bool.not_eq_false', forall_const, true_imp_iff, false_imp_iff, if_true, if_false, reduceIte, reduceCtorEq, and_self, or_self, not_true, not_false_eq_true, List.append_nil, D.bool.injEq, D.int.injEq, D.str.injEq, D.list.injEq, D.agg.injEq, bne_self_eq_false, CV.d.injEq, CV.own.injEq, CV.tup.injEq, List.cons.injEq, List.toList_toArray, Option.some.injEq, Option.toList, List.flatMap_cons, List.flatMap_nil, Prod.mk.injEq, List.take_succ_cons, List.take_zero, List.drop_succ_cons, List.drop_zero, List.getD_nil, con0, con1, con2, con3, con2t, con3t, atHead_mk, killAll, setSlots, updAll, shut_eq, map_snoc, map_snocI, map_snocB, map_snocS, map_cat, List.not_mem_nil, false_implies, implies_true, List.mem_cons, or_false, forall_eq_or_imp, forall_eq, ne_eq, isE_int, isE_bool, isE_str, isE_list, ctx8_t, ctx8_c, ctx8_d, con22, con25, con8]
  repeat' (first | with_reducible assumption | with_reducible refine And.intro ?_ ?_ | intro _ | omega | (rw [inR_i64]; omega))
  all_goals unfold mayB
  · rename_i h1 h2 h3 h4
    rw [decide_eq_true (by omega), decide_eq_true (by omega), h3, h4]
    rfl
  · rename_i h1 h2 h3 h4
    rw [h3, h4]
    simp
  · rename_i h1 h2 h3
    rw [h3]
    simp
  · rename_i h1 h2
    rw [decide_eq_false (p := all.length ≤ 20) (by omega)]
    simp
  · rename_i h1
    rw [decide_eq_false (p := s.length ≤ 20) (by omega)]
    simp

/-! ### alive -/
theorem al1 : shrinkC [1, 2, 3, 4] [⟨[2, 3]⟩] = (⟨[2, 3]⟩, true) := by kernel_rfl
theorem al2 : growC [] [1, 2, 3, 4] [⟨[2, 3]⟩] = (⟨[1, 2, 4]⟩, true) := by kernel_rfl
theorem al3 : leastC [2, 3] [⟨[2, 3]⟩] = true := by kernel_rfl
theorem al4 : mostC [1, 2, 4] [1, 2, 3, 4] [⟨[2, 3]⟩] = true := by kernel_rfl
theorem al5 : fits [1, 2, 4] [⟨[2, 3]⟩] = true := by kernel_rfl
theorem al6 : Bads [⟨[2, 3]⟩] := ⟨by simp, by simp⟩
theorem al7 : Sorted [1, 2, 3, 4] ∧ Sorted [2, 3] ∧ Sorted [1, 2, 4] ∧ Sorted [] := by unfold Sorted; decide
def con9 : Con := con0 true
def ctx9 : Ctx := ⟨tab, lkC [(10, con10), (12, con12), (14, con14), (15, con15), (17, con17), (19, con19)], 60⟩
theorem ctx9_t : ctx9.τ = tab := rfl
theorem ctx9_c : ctx9.Γ = lkC [(10, con10), (12, con12), (14, con14), (15, con15), (17, con17), (19, con19)] := rfl
theorem ctx9_d : ctx9.dp = 60 := rfl
set_option maxRecDepth 100000 in
theorem good9 : Good Try.prog (9, con9) := by
  refine ⟨enters_of Try.func9 (by kernel_rfl) rfl, ?_⟩
  have K : CtxOk Try.prog ctx9 := ctxOk_of tabOk mixedOk (by
    intro p hp
    simp only [List.mem_cons, List.not_mem_nil, or_false] at hp
    rcases hp with rfl | rfl | rfl | rfl | rfl | rfl
    · exact good10
    · exact good12
    · exact good14
    · exact good15
    · exact good17
    · exact good19)
  obtain ⟨c, hc⟩ : ∃ c, Try.f9.body = some c := ⟨_, rfl⟩
  refine fn_sound K Try.func9 hc [.tmp 0] rfl 50 rfl (fun cvs hpre => ?_)
  change con9.pre cvs at hpre
  unfold con9 at hpre
  obtain rfl := con0_pre hpre
  obtain ⟨a1, a2, a3, a4⟩ := al7
  have a5 := al6
  simp only [Try.f9, Option.some.injEq] at hc
  subst hc
  simp (config := { maxSteps := 4000000 }) only [awp_skip, awp_region, awp_draw, awp_seq, awp_cond, awp_block, awp_loop, awp_exit, awp_ret, beginAS, beginAll, deads, List.length_cons, List.length_nil, Nat.reduceAdd, Nat.reduceSub, Nat.reduceMul, Nat.reduceMod, Nat.reduceLT, Nat.reduceLeDiff, Nat.reduceEqDiff, Nat.reduceBEq, List.cons_append, List.nil_append,     aOps, aOp, aExec, opStep, guardOf, ↓ifB_tt, ↓ifB_ff, ↓ifB_t, ↓ifB_f, ↓ifG_tt, ↓ifG_ff, ↓ifG_tf, ↓ifG_ft, ifB, ifG, and_assoc, List.getElem?_cons_zero, List.getElem?_cons_succ, AS.ev, constAV, constD, AS.put, aThen, aBlock, aDraws, Ctx.one, fpOf, opnds, keysAll, AV.keys, ownKey, makes, roOf, List.map_cons, List.map_nil, Ctx.esize, Ctx.size, Ctx.ag, TK.ag, Ctx.elemT, Ctx.fieldAt, tab3, tab4, tab22, tab23, tab33, tab37, tab42, tab51, List.getD_cons_zero, List.getD_cons_succ, List.set_cons_zero, List.set_cons_succ, true_and, and_true,     hPick, hAlloc, hLoad, hStore, hFieldAddr, hField, hIndexAddr, hIndex, hSlice, hBuildSlice, hBuild, buildGo, hMakeSlice, hSource, hAppend, hLen, hMin, hMax, hConv, hExtract, hCall, hCallV, hBin, hUn, pureOut, inArgs, outCV, outOne, outAll, mkTup, mkAgg, mkClo, allD, pur, purs, purParts, allLt, allFit, zerosD, setAll, evs, evO, evParts, lk, upd, splice, AV.cells, AV.fits, cellsFrom, Obj.isBox, D.setCell, D.asAgg, lkC, retOk, resAll, resAV, Post,     isInt_int, isBool_bool, isStr_str, isList_list, isAnyInt_int, i_int, b_bool, s_str, l_list, fits_int, fits_bool, fits_str, fits_list, fits_agg, fits_ptr, fits_clo, fits_nilp, fits_nilf, cell_int, cell_bool, cell_str, cell_list, cell_clo, cell_ptr, cell_agg, encI_def, encB_def, encS_def, i_enc, b_enc, s_enc, isInt_enc, isBool_enc, isStr_enc, fits_encI, cell_encI, fits_encB, cell_encB, fits_encS, cell_encS, isAnyInt_enc, l_enc, isList_enc, fits_encL, cell_encL, dec_int, dec_bool, dec_str, dec_encE, isE_int, isE_bool, isE_str, isE_encE, dec_list, isE_list, isE_map, map_dec_enc, ltB_true, ltB_false, leB_true, leB_false, szI, szB, szS, szL, boolE, intE, strE, listE, encE, SlE, List.length_map, List.length_append, List.length_replicate, Int.toNat_natCast, Bool.not_true, Bool.not_false, Bool.not_not, decide_true, decide_false, Bool.and_true, Bool.true_and, Bool.and_false, Bool.false_and, Bool.or_true, Bool.true_or, Bool.or_false, Bool.false_or, List.length_singleton, decide_eq_true_eq, decide_eq_false_iff_not, beq_iff_eq, beq_eq_false_iff_ne, bne_iff_ne, bne_eq_false_iff_eq, Bool.not_eq_true', Bool.not_eq_false', forall_const, true_imp_iff, false_imp_iff, if_true, if_false, reduceIte, reduceCtorEq, and_self, or_self, not_true, not_false_eq_true, List.append_nil, D.bool.injEq, D.int.injEq, D.str.injEq, D.list.injEq, D.agg.injEq, bne_self_eq_false, CV.d.injEq, CV.own.injEq, CV.tup.injEq, List.cons.injEq, List.toList_toArray, Option.some.injEq, Option.toList, List.flatMap_cons, List.flatMap_nil, Prod.mk.injEq, List.take_succ_cons, List.take_zero, List.drop_succ_cons, List.drop_zero, List.getD_nil, con0, con1, con2, con3, con2t, con3t, atHead_mk, killAll, setSlots, updAll, shut_eq, map_snoc, map_snocI, map_snocB, map_snocS, map_cat, List.not_mem_nil, false_implies, implies_true, List.mem_cons, or_false, forall_eq_or_imp, forall_eq, ne_eq, isE_int, isE_bool, isE_str, isE_list, ctx9_t, ctx9_c, ctx9_d, con10, con12, con14, con15, con17, con19, con9, al1, al2, al3, al4, al5, List.mem_cons, List.not_mem_nil, forall_eq_or_imp, isE_int, isE_list, false_implies, implies_true, szI, or_false, forall_eq]
  repeat' (first | with_reducible assumption | with_reducible refine And.intro ?_ ?_)
  all_goals simp_all

end Go.Am.Core
