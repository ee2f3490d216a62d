/- Contracts of functions that the laws of core reach, and plain laws of sets. Conditions: those that each contract states. -/
import Derived.Test.YtgfapoalcpodhaaChecked
import Derived.Test.YtgfapoalcpodhaaAm19
set_option linter.unusedSimpArgs false
set_option linter.unusedVariables false
set_option maxHeartbeats 1000000
namespace Go.Am.Core
open Go.Proofs
open Enc (enc dec)

def tt : List (Nat × TI) := [(3, ⟨.int .i64, 1, 8, .d (.int .i64 0), .int .i64 0⟩), (4, ⟨.bool, 1, 1, .d (.bool false), .bool false⟩), (22, ⟨.slice 3, 1, 24, .nils 1, .list 1 []⟩), (23, ⟨.slice 22, 1, 24, .nils 1, .list 1 []⟩),
  (33, ⟨.func, 1, 8, .d .nilf, .nilf⟩), (37, ⟨.struct [(0, 1)], 1, 8, .d (.agg [.nilf]), .agg [.nilf]⟩), (42, ⟨.func, 1, 8, .d .nilf, .nilf⟩), (51, ⟨.int .u64, 1, 8, .d (.int .u64 0), .int .u64 0⟩)]
def tab : Nat → TI := lkT tt
theorem tab3 : tab 3 = ⟨.int .i64, 1, 8, .d (.int .i64 0), .int .i64 0⟩ := rfl
theorem tab4 : tab 4 = ⟨.bool, 1, 1, .d (.bool false), .bool false⟩ := rfl
theorem tab22 : tab 22 = ⟨.slice 3, 1, 24, .nils 1, .list 1 []⟩ := rfl
theorem tab23 : tab 23 = ⟨.slice 22, 1, 24, .nils 1, .list 1 []⟩ := rfl
theorem tab33 : tab 33 = ⟨.func, 1, 8, .d .nilf, .nilf⟩ := rfl
theorem tab37 : tab 37 = ⟨.struct [(0, 1)], 1, 8, .d (.agg [.nilf]), .agg [.nilf]⟩ := rfl
theorem tab42 : tab 42 = ⟨.func, 1, 8, .d .nilf, .nilf⟩ := rfl
theorem tab51 : tab 51 = ⟨.int .u64, 1, 8, .d (.int .u64 0), .int .u64 0⟩ := rfl
theorem tabOk : TabOk Try.prog tab := tabOk_of (by kernel_rfl)
theorem mixedOk : Try.prog.follows .mixedOrders = true := by kernel_rfl

/-- No slice is longer. -/
def Short (n : Nat) : Prop := n ≤ 9223372036854775807

/-! ### leavenref08.In -/
def con32 : Con := con2 (fun (l : Sl Int) (_ : Int) => l.l.length ≤ 9223372036854775807) (fun l n => l.l.contains n)
def ctx32 : Ctx := ⟨tab, lkC [], 60⟩
theorem ctx32_t : ctx32.τ = tab := rfl
theorem ctx32_c : ctx32.Γ = lkC [] := rfl
theorem ctx32_d : ctx32.dp = 60 := rfl
theorem good32 : Good Try.prog (32, con32) := by
  refine ⟨enters_of Try.func32 (by kernel_rfl) rfl, ?_⟩
  have K : CtxOk Try.prog ctx32 := ctxOk_of tabOk mixedOk (by simp)
  obtain ⟨c, hc⟩ : ∃ c, Try.f32.body = some c := ⟨_, rfl⟩
  refine fn_sound K Try.func32 hc [.tmp 4] rfl 18 rfl (fun cvs hpre => ?_)
  change con32.pre cvs at hpre
  unfold con32 at hpre
  obtain ⟨⟨l⟩, n, rfl, hl⟩ := con2_pre hpre
  simp only at hl
  simp only [Try.f32, Option.some.injEq] at hc
  subst hc
  simp (config := { maxSteps := 2000000 }) only [awp_skip, awp_region, awp_draw, awp_seq, awp_cond, awp_block, awp_loop, awp_exit, awp_ret, beginAS, beginAll, deads, List.length_cons, List.length_nil, Nat.reduceAdd, Nat.reduceSub, Nat.reduceMul, Nat.reduceMod, Nat.reduceLT, Nat.reduceLeDiff, Nat.reduceEqDiff, Nat.reduceBEq, List.cons_append, List.nil_append,
    aOps, aOp, aExec, opStep, guardOf, ↓ifB_tt, ↓ifB_ff, ↓ifB_t, ↓ifB_f, ↓ifG_tt, ↓ifG_ff, ↓ifG_tf, ↓ifG_ft, ifB, ifG, and_assoc, List.getElem?_cons_zero, List.getElem?_cons_succ, AS.ev, constAV, constD, AS.put, aThen, aBlock, aDraws, Ctx.one, fpOf, opnds, keysAll, AV.keys, ownKey, makes, roOf, List.map_cons, List.map_nil, Ctx.esize, Ctx.size, Ctx.ag, TK.ag, Ctx.elemT, Ctx.fieldAt, tab3, tab4, tab22, tab23, tab33, tab37, tab42, tab51, tab3, tab4, tab22, tab23, tab33, tab37, tab42, tab51, List.getD_cons_zero, List.getD_cons_succ, List.set_cons_zero, List.set_cons_succ, true_and, and_true,
    hPick, hAlloc, hLoad, hStore, hFieldAddr, hField, hIndexAddr, hIndex, hSlice, hBuildSlice, hBuild, buildGo, hMakeSlice, hSource, hAppend, hLen, hMin, hMax, hConv, hExtract, hCall, hCallV, hBin, hUn, pureOut, inArgs, outCV, outOne, outAll, mkTup, mkAgg, mkClo, allD, pur, purs, purParts, allLt, allFit, zerosD, setAll, evs, evO, evParts, lk, upd, splice, AV.cells, AV.fits, cellsFrom, Obj.isBox, D.setCell, D.asAgg, lkC, retOk, resAll, resAV, Post,
    isInt_int, isBool_bool, isStr_str, isList_list, isAnyInt_int, i_int, b_bool, s_str, l_list, fits_int, fits_bool, fits_str, fits_list, fits_agg, fits_ptr, fits_clo, fits_nilp, fits_nilf, cell_int, cell_bool, cell_str, cell_list, cell_clo, cell_ptr, cell_agg, encI_def, encB_def, encS_def, i_enc, b_enc, s_enc, isInt_enc, isBool_enc, isStr_enc, fits_encI, cell_encI, fits_encB, cell_encB, fits_encS, cell_encS, isAnyInt_enc, l_enc, isList_enc, fits_encL, cell_encL, dec_int, dec_bool, dec_str, dec_encE, isE_int, isE_bool, isE_str, isE_encE, dec_list, isE_list, isE_map, map_dec_enc, ltB_true, ltB_false, leB_true, leB_false, szI, szB, szS, szL, boolE, intE, strE, listE, encE, SlE, List.length_map, List.length_append, List.length_replicate, Int.toNat_natCast, Bool.not_true, Bool.not_false, Bool.not_not, decide_true, decide_false, Bool.and_true, Bool.true_and, Bool.and_false, Bool.false_and, Bool.or_true, Bool.true_or, Bool.or_false, Bool.false_or, List.length_singleton, decide_eq_true_eq, decide_eq_false_iff_not, beq_iff_eq, beq_eq_false_iff_ne, bne_iff_ne, bne_eq_false_iff_eq, Bool.not_eq_true', Bool.not_eq_false', forall_const, true_imp_iff, false_imp_iff, if_true, if_false, reduceIte, reduceCtorEq, and_self, or_self, not_true, not_false_eq_true, List.append_nil, D.bool.injEq, D.int.injEq, D.str.injEq, D.list.injEq, D.agg.injEq, bne_self_eq_false, CV.d.injEq, CV.own.injEq, CV.tup.injEq, List.cons.injEq, List.toList_toArray, Option.some.injEq, Option.toList, List.flatMap_cons, List.flatMap_nil, Prod.mk.injEq, List.take_succ_cons, List.take_zero, List.drop_succ_cons, List.drop_zero, List.getD_nil, con0, con1, con2, con3, con2t, con3t, ctx32_t, ctx32_c, ctx32_d, con32]
  refine aLoop_of (fun k : Nat => ⟨[.d (enc (Sl.mk l)), .d (enc n), .dead, .dead, .d (.bool false), .d (.int .i64 k), .dead, .dead, .dead, .dead, .dead, .dead, .dead, .dead, .dead, .dead, .dead, .dead], []⟩) (fun k => k ≤ l.length ∧ ∀ j, j < k → l.getD j 0 ≠ n) (fun k => l.length - k) 0 ?_ ?_ ?_
  · simp
  · simp [Wk, wkT, wk1, AV.kept, wkO]
  rintro k ⟨hk, hno⟩
  simp (config := { maxSteps := 2000000 }) only [awp_skip, awp_region, awp_draw, awp_seq, awp_cond, awp_block, awp_loop, awp_exit, awp_ret, beginAS, beginAll, deads, List.length_cons, List.length_nil, Nat.reduceAdd, Nat.reduceSub, Nat.reduceMul, Nat.reduceMod, Nat.reduceLT, Nat.reduceLeDiff, Nat.reduceEqDiff, Nat.reduceBEq, List.cons_append, List.nil_append,
    aOps, aOp, aExec, opStep, guardOf, ↓ifB_tt, ↓ifB_ff, ↓ifB_t, ↓ifB_f, ↓ifG_tt, ↓ifG_ff, ↓ifG_tf, ↓ifG_ft, ifB, ifG, and_assoc, List.getElem?_cons_zero, List.getElem?_cons_succ, AS.ev, constAV, constD, AS.put, aThen, aBlock, aDraws, Ctx.one, fpOf, opnds, keysAll, AV.keys, ownKey, makes, roOf, List.map_cons, List.map_nil, Ctx.esize, Ctx.size, Ctx.ag, TK.ag, Ctx.elemT, Ctx.fieldAt, tab3, tab4, tab22, tab23, tab33, tab37, tab42, tab51, tab3, tab4, tab22, tab23, tab33, tab37, tab42, tab51, List.getD_cons_zero, List.getD_cons_succ, List.set_cons_zero, List.set_cons_succ, true_and, and_true,
    hPick, hAlloc, hLoad, hStore, hFieldAddr, hField, hIndexAddr, hIndex, hSlice, hBuildSlice, hBuild, buildGo, hMakeSlice, hSource, hAppend, hLen, hMin, hMax, hConv, hExtract, hCall, hCallV, hBin, hUn, pureOut, inArgs, outCV, outOne, outAll, mkTup, mkAgg, mkClo, allD, pur, purs, purParts, allLt, allFit, zerosD, setAll, evs, evO, evParts, lk, upd, splice, AV.cells, AV.fits, cellsFrom, Obj.isBox, D.setCell, D.asAgg, lkC, retOk, resAll, resAV, Post,
    isInt_int, isBool_bool, isStr_str, isList_list, isAnyInt_int, i_int, b_bool, s_str, l_list, fits_int, fits_bool, fits_str, fits_list, fits_agg, fits_ptr, fits_clo, fits_nilp, fits_nilf, cell_int, cell_bool, cell_str, cell_list, cell_clo, cell_ptr, cell_agg, encI_def, encB_def, encS_def, i_enc, b_enc, s_enc, isInt_enc, isBool_enc, isStr_enc, fits_encI, cell_encI, fits_encB, cell_encB, fits_encS, cell_encS, isAnyInt_enc, l_enc, isList_enc, fits_encL, cell_encL, dec_int, dec_bool, dec_str, dec_encE, isE_int, isE_bool, isE_str, isE_encE, dec_list, isE_list, isE_map, map_dec_enc, ltB_true, ltB_false, leB_true, leB_false, szI, szB, szS, szL, boolE, intE, strE, listE, encE, SlE, List.length_map, List.length_append, List.length_replicate, Int.toNat_natCast, Bool.not_true, Bool.not_false, Bool.not_not, decide_true, decide_false, Bool.and_true, Bool.true_and, Bool.and_false, Bool.false_and, Bool.or_true, Bool.true_or, Bool.or_false, Bool.false_or, List.length_singleton, decide_eq_true_eq, decide_eq_false_iff_not, beq_iff_eq, beq_eq_false_iff_ne, bne_iff_ne, bne_eq_false_iff_eq, Bool.not_eq_true', Bool.not_eq_false', forall_const, true_imp_iff, false_imp_iff, if_true, if_false, reduceIte, reduceCtorEq, and_self, or_self, not_true, not_false_eq_true, List.append_nil, D.bool.injEq, D.int.injEq, D.str.injEq, D.list.injEq, D.agg.injEq, bne_self_eq_false, CV.d.injEq, CV.own.injEq, CV.tup.injEq, List.cons.injEq, List.toList_toArray, Option.some.injEq, Option.toList, List.flatMap_cons, List.flatMap_nil, Prod.mk.injEq, List.take_succ_cons, List.take_zero, List.drop_succ_cons, List.drop_zero, List.getD_nil, con0, con1, con2, con3, con2t, con3t, ctx32_t, ctx32_c, ctx32_d, con32]
  refine ⟨fun hlt => ⟨by omega, by omega, ?_⟩, fun hge => ?_⟩
  · rw [el_map 0 (by omega)]
    simp (config := { maxSteps := 2000000 }) only [awp_skip, awp_region, awp_draw, awp_seq, awp_cond, awp_block, awp_loop, awp_exit, awp_ret, beginAS, beginAll, deads, List.length_cons, List.length_nil, Nat.reduceAdd, Nat.reduceSub, Nat.reduceMul, Nat.reduceMod, Nat.reduceLT, Nat.reduceLeDiff, Nat.reduceEqDiff, Nat.reduceBEq, List.cons_append, List.nil_append,
    aOps, aOp, aExec, opStep, guardOf, ↓ifB_tt, ↓ifB_ff, ↓ifB_t, ↓ifB_f, ↓ifG_tt, ↓ifG_ff, ↓ifG_tf, ↓ifG_ft, ifB, ifG, and_assoc, List.getElem?_cons_zero, List.getElem?_cons_succ, AS.ev, constAV, constD, AS.put, aThen, aBlock, aDraws, Ctx.one, fpOf, opnds, keysAll, AV.keys, ownKey, makes, roOf, List.map_cons, List.map_nil, Ctx.esize, Ctx.size, Ctx.ag, TK.ag, Ctx.elemT, Ctx.fieldAt, tab3, tab4, tab22, tab23, tab33, tab37, tab42, tab51, tab3, tab4, tab22, tab23, tab33, tab37, tab42, tab51, List.getD_cons_zero, List.getD_cons_succ, List.set_cons_zero, List.set_cons_succ, true_and, and_true,
    hPick, hAlloc, hLoad, hStore, hFieldAddr, hField, hIndexAddr, hIndex, hSlice, hBuildSlice, hBuild, buildGo, hMakeSlice, hSource, hAppend, hLen, hMin, hMax, hConv, hExtract, hCall, hCallV, hBin, hUn, pureOut, inArgs, outCV, outOne, outAll, mkTup, mkAgg, mkClo, allD, pur, purs, purParts, allLt, allFit, zerosD, setAll, evs, evO, evParts, lk, upd, splice, AV.cells, AV.fits, cellsFrom, Obj.isBox, D.setCell, D.asAgg, lkC, retOk, resAll, resAV, Post,
    isInt_int, isBool_bool, isStr_str, isList_list, isAnyInt_int, i_int, b_bool, s_str, l_list, fits_int, fits_bool, fits_str, fits_list, fits_agg, fits_ptr, fits_clo, fits_nilp, fits_nilf, cell_int, cell_bool, cell_str, cell_list, cell_clo, cell_ptr, cell_agg, encI_def, encB_def, encS_def, i_enc, b_enc, s_enc, isInt_enc, isBool_enc, isStr_enc, fits_encI, cell_encI, fits_encB, cell_encB, fits_encS, cell_encS, isAnyInt_enc, l_enc, isList_enc, fits_encL, cell_encL, dec_int, dec_bool, dec_str, dec_encE, isE_int, isE_bool, isE_str, isE_encE, dec_list, isE_list, isE_map, map_dec_enc, ltB_true, ltB_false, leB_true, leB_false, szI, szB, szS, szL, boolE, intE, strE, listE, encE, SlE, List.length_map, List.length_append, List.length_replicate, Int.toNat_natCast, Bool.not_true, Bool.not_false, Bool.not_not, decide_true, decide_false, Bool.and_true, Bool.true_and, Bool.and_false, Bool.false_and, Bool.or_true, Bool.true_or, Bool.or_false, Bool.false_or, List.length_singleton, decide_eq_true_eq, decide_eq_false_iff_not, beq_iff_eq, beq_eq_false_iff_ne, bne_iff_ne, bne_eq_false_iff_eq, Bool.not_eq_true', Bool.not_eq_false', forall_const, true_imp_iff, false_imp_iff, if_true, if_false, reduceIte, reduceCtorEq, and_self, or_self, not_true, not_false_eq_true, List.append_nil, D.bool.injEq, D.int.injEq, D.str.injEq, D.list.injEq, D.agg.injEq, bne_self_eq_false, CV.d.injEq, CV.own.injEq, CV.tup.injEq, List.cons.injEq, List.toList_toArray, Option.some.injEq, Option.toList, List.flatMap_cons, List.flatMap_nil, Prod.mk.injEq, List.take_succ_cons, List.take_zero, List.drop_succ_cons, List.drop_zero, List.getD_nil, con0, con1, con2, con3, con2t, con3t, ctx32_t, ctx32_c, ctx32_d, con32]
    refine ⟨fun he => ?_, fun he => ⟨by rw [inR_i64]; omega, k + 1, by simp [Wk, wkT, wk1, AV.kept, wkO], by omega, fun j hj => ?_, by omega⟩⟩
    · symm
      rw [List.contains_iff_mem, ← he]
      simp [show k < l.length by omega]
    · by_cases hjk : j = k
      · subst hjk; exact he
      · exact hno j (by omega)
  · symm
    rw [List.contains_eq_any_beq]
    refine any_not 0 fun j hj => ?_
    have := hno j (by omega)
    simp only [beq_eq_false_iff_ne]
    exact fun h => this h.symm

/-! ### leavenref03.Ints -/
def con14 : Con := con2 (fun (a b : Sl Int) => a.l.length ≤ 9223372036854775807 ∧ b.l.length ≤ 9223372036854775807) (fun a b => a.l == b.l)
def ctx14 : Ctx := ⟨tab, lkC [], 60⟩
theorem ctx14_t : ctx14.τ = tab := rfl
theorem ctx14_c : ctx14.Γ = lkC [] := rfl
theorem ctx14_d : ctx14.dp = 60 := rfl
theorem good14 : Good Try.prog (14, con14) := by
  refine ⟨enters_of Try.func14 (by kernel_rfl) rfl, ?_⟩
  have K : CtxOk Try.prog ctx14 := ctxOk_of tabOk mixedOk (by simp)
  obtain ⟨c, hc⟩ : ∃ c, Try.f14.body = some c := ⟨_, rfl⟩
  refine fn_sound K Try.func14 hc [.tmp 4] rfl 26 rfl (fun cvs hpre => ?_)
  change con14.pre cvs at hpre
  unfold con14 at hpre
  obtain ⟨⟨a⟩, ⟨b⟩, rfl, ha, hb⟩ := con2_pre hpre
  simp only at ha hb
  simp only [Try.f14, Option.some.injEq] at hc
  subst hc
  simp (config := { maxSteps := 2000000 }) only [awp_skip, awp_region, awp_draw, awp_seq, awp_cond, awp_block, awp_loop, awp_exit, awp_ret, beginAS, beginAll, deads, List.length_cons, List.length_nil, Nat.reduceAdd, Nat.reduceSub, Nat.reduceMul, Nat.reduceMod, Nat.reduceLT, Nat.reduceLeDiff, Nat.reduceEqDiff, Nat.reduceBEq, List.cons_append, List.nil_append,
    aOps, aOp, aExec, opStep, guardOf, ↓ifB_tt, ↓ifB_ff, ↓ifB_t, ↓ifB_f, ↓ifG_tt, ↓ifG_ff, ↓ifG_tf, ↓ifG_ft, ifB, ifG, and_assoc, List.getElem?_cons_zero, List.getElem?_cons_succ, AS.ev, constAV, constD, AS.put, aThen, aBlock, aDraws, Ctx.one, fpOf, opnds, keysAll, AV.keys, ownKey, makes, roOf, List.map_cons, List.map_nil, Ctx.esize, Ctx.size, Ctx.ag, TK.ag, Ctx.elemT, Ctx.fieldAt, tab3, tab4, tab22, tab23, tab33, tab37, tab42, tab51, tab3, tab4, tab22, tab23, tab33, tab37, tab42, tab51, List.getD_cons_zero, List.getD_cons_succ, List.set_cons_zero, List.set_cons_succ, true_and, and_true,
    hPick, hAlloc, hLoad, hStore, hFieldAddr, hField, hIndexAddr, hIndex, hSlice, hBuildSlice, hBuild, buildGo, hMakeSlice, hSource, hAppend, hLen, hMin, hMax, hConv, hExtract, hCall, hCallV, hBin, hUn, pureOut, inArgs, outCV, outOne, outAll, mkTup, mkAgg, mkClo, allD, pur, purs, purParts, allLt, allFit, zerosD, setAll, evs, evO, evParts, lk, upd, splice, AV.cells, AV.fits, cellsFrom, Obj.isBox, D.setCell, D.asAgg, lkC, retOk, resAll, resAV, Post,
    isInt_int, isBool_bool, isStr_str, isList_list, isAnyInt_int, i_int, b_bool, s_str, l_list, fits_int, fits_bool, fits_str, fits_list, fits_agg, fits_ptr, fits_clo, fits_nilp, fits_nilf, cell_int, cell_bool, cell_str, cell_list, cell_clo, cell_ptr, cell_agg, encI_def, encB_def, encS_def, i_enc, b_enc, s_enc, isInt_enc, isBool_enc, isStr_enc, fits_encI, cell_encI, fits_encB, cell_encB, fits_encS, cell_encS, isAnyInt_enc, l_enc, isList_enc, fits_encL, cell_encL, dec_int, dec_bool, dec_str, dec_encE, isE_int, isE_bool, isE_str, isE_encE, dec_list, isE_list, isE_map, map_dec_enc, ltB_true, ltB_false, leB_true, leB_false, szI, szB, szS, szL, boolE, intE, strE, listE, encE, SlE, List.length_map, List.length_append, List.length_replicate, Int.toNat_natCast, Bool.not_true, Bool.not_false, Bool.not_not, decide_true, decide_false, Bool.and_true, Bool.true_and, Bool.and_false, Bool.false_and, Bool.or_true, Bool.true_or, Bool.or_false, Bool.false_or, List.length_singleton, decide_eq_true_eq, decide_eq_false_iff_not, beq_iff_eq, beq_eq_false_iff_ne, bne_iff_ne, bne_eq_false_iff_eq, Bool.not_eq_true', Bool.not_eq_false', forall_const, true_imp_iff, false_imp_iff, if_true, if_false, reduceIte, reduceCtorEq, and_self, or_self, not_true, not_false_eq_true, List.append_nil, D.bool.injEq, D.int.injEq, D.str.injEq, D.list.injEq, D.agg.injEq, bne_self_eq_false, CV.d.injEq, CV.own.injEq, CV.tup.injEq, List.cons.injEq, List.toList_toArray, Option.some.injEq, Option.toList, List.flatMap_cons, List.flatMap_nil, Prod.mk.injEq, List.take_succ_cons, List.take_zero, List.drop_succ_cons, List.drop_zero, List.getD_nil, con0, con1, con2, con3, con2t, con3t, ctx14_t, ctx14_c, ctx14_d, con14]
  refine ⟨fun hne => ?_, fun heq => ?_⟩
  · symm
    rw [beq_eq_false_iff_ne]
    intro h
    exact hne (by rw [h])
  have hlen : a.length = b.length := by omega
  refine aLoop_of (fun k : Nat => ⟨[.d (enc (Sl.mk a)), .d (enc (Sl.mk b)), .dead, .dead, .d (.bool false), .d (.int .i64 k), .dead, .dead, .dead, .dead, .dead, .dead, .dead, .dead, .dead, .dead, .dead, .dead, .dead, .dead, .dead, .dead, .dead, .dead, .dead, .dead], []⟩) (fun k => k ≤ a.length ∧ ∀ j, j < k → a.getD j 0 = b.getD j 0) (fun k => a.length - k) 0 ?_ ?_ ?_
  · simp
  · simp [Wk, wkT, wk1, AV.kept, wkO]
  rintro k ⟨hk, hno⟩
  simp (config := { maxSteps := 2000000 }) only [awp_skip, awp_region, awp_draw, awp_seq, awp_cond, awp_block, awp_loop, awp_exit, awp_ret, beginAS, beginAll, deads, List.length_cons, List.length_nil, Nat.reduceAdd, Nat.reduceSub, Nat.reduceMul, Nat.reduceMod, Nat.reduceLT, Nat.reduceLeDiff, Nat.reduceEqDiff, Nat.reduceBEq, List.cons_append, List.nil_append,
    aOps, aOp, aExec, opStep, guardOf, ↓ifB_tt, ↓ifB_ff, ↓ifB_t, ↓ifB_f, ↓ifG_tt, ↓ifG_ff, ↓ifG_tf, ↓ifG_ft, ifB, ifG, and_assoc, List.getElem?_cons_zero, List.getElem?_cons_succ, AS.ev, constAV, constD, AS.put, aThen, aBlock, aDraws, Ctx.one, fpOf, opnds, keysAll, AV.keys, ownKey, makes, roOf, List.map_cons, List.map_nil, Ctx.esize, Ctx.size, Ctx.ag, TK.ag, Ctx.elemT, Ctx.fieldAt, tab3, tab4, tab22, tab23, tab33, tab37, tab42, tab51, tab3, tab4, tab22, tab23, tab33, tab37, tab42, tab51, List.getD_cons_zero, List.getD_cons_succ, List.set_cons_zero, List.set_cons_succ, true_and, and_true,
    hPick, hAlloc, hLoad, hStore, hFieldAddr, hField, hIndexAddr, hIndex, hSlice, hBuildSlice, hBuild, buildGo, hMakeSlice, hSource, hAppend, hLen, hMin, hMax, hConv, hExtract, hCall, hCallV, hBin, hUn, pureOut, inArgs, outCV, outOne, outAll, mkTup, mkAgg, mkClo, allD, pur, purs, purParts, allLt, allFit, zerosD, setAll, evs, evO, evParts, lk, upd, splice, AV.cells, AV.fits, cellsFrom, Obj.isBox, D.setCell, D.asAgg, lkC, retOk, resAll, resAV, Post,
    isInt_int, isBool_bool, isStr_str, isList_list, isAnyInt_int, i_int, b_bool, s_str, l_list, fits_int, fits_bool, fits_str, fits_list, fits_agg, fits_ptr, fits_clo, fits_nilp, fits_nilf, cell_int, cell_bool, cell_str, cell_list, cell_clo, cell_ptr, cell_agg, encI_def, encB_def, encS_def, i_enc, b_enc, s_enc, isInt_enc, isBool_enc, isStr_enc, fits_encI, cell_encI, fits_encB, cell_encB, fits_encS, cell_encS, isAnyInt_enc, l_enc, isList_enc, fits_encL, cell_encL, dec_int, dec_bool, dec_str, dec_encE, isE_int, isE_bool, isE_str, isE_encE, dec_list, isE_list, isE_map, map_dec_enc, ltB_true, ltB_false, leB_true, leB_false, szI, szB, szS, szL, boolE, intE, strE, listE, encE, SlE, List.length_map, List.length_append, List.length_replicate, Int.toNat_natCast, Bool.not_true, Bool.not_false, Bool.not_not, decide_true, decide_false, Bool.and_true, Bool.true_and, Bool.and_false, Bool.false_and, Bool.or_true, Bool.true_or, Bool.or_false, Bool.false_or, List.length_singleton, decide_eq_true_eq, decide_eq_false_iff_not, beq_iff_eq, beq_eq_false_iff_ne, bne_iff_ne, bne_eq_false_iff_eq, Bool.not_eq_true', Bool.not_eq_false', forall_const, true_imp_iff, false_imp_iff, if_true, if_false, reduceIte, reduceCtorEq, and_self, or_self, not_true, not_false_eq_true, List.append_nil, D.bool.injEq, D.int.injEq, D.str.injEq, D.list.injEq, D.agg.injEq, bne_self_eq_false, CV.d.injEq, CV.own.injEq, CV.tup.injEq, List.cons.injEq, List.toList_toArray, Option.some.injEq, Option.toList, List.flatMap_cons, List.flatMap_nil, Prod.mk.injEq, List.take_succ_cons, List.take_zero, List.drop_succ_cons, List.drop_zero, List.getD_nil, con0, con1, con2, con3, con2t, con3t, ctx14_t, ctx14_c, ctx14_d, con14]
  refine ⟨fun hlt => ⟨by omega, by omega, ?_⟩, fun hge => ?_⟩
  · rw [el_map 0 (by omega), el_map 0 (by omega)]
    simp (config := { maxSteps := 2000000 }) only [awp_skip, awp_region, awp_draw, awp_seq, awp_cond, awp_block, awp_loop, awp_exit, awp_ret, beginAS, beginAll, deads, List.length_cons, List.length_nil, Nat.reduceAdd, Nat.reduceSub, Nat.reduceMul, Nat.reduceMod, Nat.reduceLT, Nat.reduceLeDiff, Nat.reduceEqDiff, Nat.reduceBEq, List.cons_append, List.nil_append,
    aOps, aOp, aExec, opStep, guardOf, ↓ifB_tt, ↓ifB_ff, ↓ifB_t, ↓ifB_f, ↓ifG_tt, ↓ifG_ff, ↓ifG_tf, ↓ifG_ft, ifB, ifG, and_assoc, List.getElem?_cons_zero, List.getElem?_cons_succ, AS.ev, constAV, constD, AS.put, aThen, aBlock, aDraws, Ctx.one, fpOf, opnds, keysAll, AV.keys, ownKey, makes, roOf, List.map_cons, List.map_nil, Ctx.esize, Ctx.size, Ctx.ag, TK.ag, Ctx.elemT, Ctx.fieldAt, tab3, tab4, tab22, tab23, tab33, tab37, tab42, tab51, tab3, tab4, tab22, tab23, tab33, tab37, tab42, tab51, List.getD_cons_zero, List.getD_cons_succ, List.set_cons_zero, List.set_cons_succ, true_and, and_true,
    hPick, hAlloc, hLoad, hStore, hFieldAddr, hField, hIndexAddr, hIndex, hSlice, hBuildSlice, hBuild, buildGo, hMakeSlice, hSource, hAppend, hLen, hMin, hMax, hConv, hExtract, hCall, hCallV, hBin, hUn, pureOut, inArgs, outCV, outOne, outAll, mkTup, mkAgg, mkClo, allD, pur, purs, purParts, allLt, allFit, zerosD, setAll, evs, evO, evParts, lk, upd, splice, AV.cells, AV.fits, cellsFrom, Obj.isBox, D.setCell, D.asAgg, lkC, retOk, resAll, resAV, Post,
    isInt_int, isBool_bool, isStr_str, isList_list, isAnyInt_int, i_int, b_bool, s_str, l_list, fits_int, fits_bool, fits_str, fits_list, fits_agg, fits_ptr, fits_clo, fits_nilp, fits_nilf, cell_int, cell_bool, cell_str, cell_list, cell_clo, cell_ptr, cell_agg, encI_def, encB_def, encS_def, i_enc, b_enc, s_enc, isInt_enc, isBool_enc, isStr_enc, fits_encI, cell_encI, fits_encB, cell_encB, fits_encS, cell_encS, isAnyInt_enc, l_enc, isList_enc, fits_encL, cell_encL, dec_int, dec_bool, dec_str, dec_encE, isE_int, isE_bool, isE_str, isE_encE, dec_list, isE_list, isE_map, map_dec_enc, ltB_true, ltB_false, leB_true, leB_false, szI, szB, szS, szL, boolE, intE, strE, listE, encE, SlE, List.length_map, List.length_append, List.length_replicate, Int.toNat_natCast, Bool.not_true, Bool.not_false, Bool.not_not, decide_true, decide_false, Bool.and_true, Bool.true_and, Bool.and_false, Bool.false_and, Bool.or_true, Bool.true_or, Bool.or_false, Bool.false_or, List.length_singleton, decide_eq_true_eq, decide_eq_false_iff_not, beq_iff_eq, beq_eq_false_iff_ne, bne_iff_ne, bne_eq_false_iff_eq, Bool.not_eq_true', Bool.not_eq_false', forall_const, true_imp_iff, false_imp_iff, if_true, if_false, reduceIte, reduceCtorEq, and_self, or_self, not_true, not_false_eq_true, List.append_nil, D.bool.injEq, D.int.injEq, D.str.injEq, D.list.injEq, D.agg.injEq, bne_self_eq_false, CV.d.injEq, CV.own.injEq, CV.tup.injEq, List.cons.injEq, List.toList_toArray, Option.some.injEq, Option.toList, List.flatMap_cons, List.flatMap_nil, Prod.mk.injEq, List.take_succ_cons, List.take_zero, List.drop_succ_cons, List.drop_zero, List.getD_nil, con0, con1, con2, con3, con2t, con3t, ctx14_t, ctx14_c, ctx14_d, con14]
    refine ⟨by omega, by omega, by kernel_rfl, fun he => ?_, fun he => ⟨by rw [inR_i64]; omega, k + 1, by simp [Wk, wkT, wk1, AV.kept, wkO], by omega, fun j hj => ?_, by omega⟩⟩
    · symm
      rw [beq_eq_false_iff_ne]
      intro h
      exact he (by rw [h])
    · by_cases hjk : j = k
      · subst hjk; exact he
      · exact hno j (by omega)
  · symm
    rw [beq_iff_eq]
    refine List.ext_getElem hlen fun j h1 h2 => ?_
    have := hno j (by omega)
    simpa [h1, h2] using this

/-! ### leavenref15.Set -/
def isSet (l : List Int) : Bool := decide (l.Pairwise (· < ·))
theorem pairwise_of_adj : ∀ {l : List Int}, (∀ j, j + 1 < l.length → l.getD j 0 < l.getD (j + 1) 0) → l.Pairwise (· < ·)
  | [], _ => List.Pairwise.nil
  | [x], _ => List.pairwise_singleton _ _
  | x :: y :: l, h => by
    have ih := pairwise_of_adj (l := y :: l) (fun j hj => h (j + 1) (by simpa using hj))
    refine List.pairwise_cons.2 ⟨fun z hz => ?_, ih⟩
    have h0 : x < y := h 0 (by simp)
    rcases List.mem_cons.1 hz with rfl | hz
    · exact h0
    · have := (List.pairwise_cons.1 ih).1 z hz
      omega
theorem adj_of_pairwise {l : List Int} (h : l.Pairwise (· < ·)) (j : Nat) (hj : j + 1 < l.length) : l.getD j 0 < l.getD (j + 1) 0 := by
  have := List.pairwise_iff_getElem.1 h j (j + 1) (by omega) hj (by omega)
  simpa [hj, show j < l.length by omega] using this
def con22 : Con := con1 (fun (a : Sl Int) => a.l.length ≤ 9223372036854775807) (fun a => isSet a.l)
def ctx22 : Ctx := ⟨tab, lkC [], 60⟩
theorem ctx22_t : ctx22.τ = tab := rfl
theorem ctx22_c : ctx22.Γ = lkC [] := rfl
theorem ctx22_d : ctx22.dp = 60 := rfl
theorem good22 : Good Try.prog (22, con22) := by
  refine ⟨enters_of Try.func22 (by kernel_rfl) rfl, ?_⟩
  have K : CtxOk Try.prog ctx22 := ctxOk_of tabOk mixedOk (by simp)
  obtain ⟨c, hc⟩ : ∃ c, Try.f22.body = some c := ⟨_, rfl⟩
  refine fn_sound K Try.func22 hc [.tmp 2] rfl 20 rfl (fun cvs hpre => ?_)
  change con22.pre cvs at hpre
  unfold con22 at hpre
  obtain ⟨⟨a⟩, rfl, ha⟩ := con1_pre hpre
  simp only at ha
  simp only [Try.f22, Option.some.injEq] at hc
  subst hc
  simp (config := { maxSteps := 2000000 }) only [awp_skip, awp_region, awp_draw, awp_seq, awp_cond, awp_block, awp_loop, awp_exit, awp_ret, beginAS, beginAll, deads, List.length_cons, List.length_nil, Nat.reduceAdd, Nat.reduceSub, Nat.reduceMul, Nat.reduceMod, Nat.reduceLT, Nat.reduceLeDiff, Nat.reduceEqDiff, Nat.reduceBEq, List.cons_append, List.nil_append,
    aOps, aOp, aExec, opStep, guardOf, ↓ifB_tt, ↓ifB_ff, ↓ifB_t, ↓ifB_f, ↓ifG_tt, ↓ifG_ff, ↓ifG_tf, ↓ifG_ft, ifB, ifG, and_assoc, List.getElem?_cons_zero, List.getElem?_cons_succ, AS.ev, constAV, constD, AS.put, aThen, aBlock, aDraws, Ctx.one, fpOf, opnds, keysAll, AV.keys, ownKey, makes, roOf, List.map_cons, List.map_nil, Ctx.esize, Ctx.size, Ctx.ag, TK.ag, Ctx.elemT, Ctx.fieldAt, tab3, tab4, tab22, tab23, tab33, tab37, tab42, tab51, tab3, tab4, tab22, tab23, tab33, tab37, tab42, tab51, List.getD_cons_zero, List.getD_cons_succ, List.set_cons_zero, List.set_cons_succ, true_and, and_true,
    hPick, hAlloc, hLoad, hStore, hFieldAddr, hField, hIndexAddr, hIndex, hSlice, hBuildSlice, hBuild, buildGo, hMakeSlice, hSource, hAppend, hLen, hMin, hMax, hConv, hExtract, hCall, hCallV, hBin, hUn, pureOut, inArgs, outCV, outOne, outAll, mkTup, mkAgg, mkClo, allD, pur, purs, purParts, allLt, allFit, zerosD, setAll, evs, evO, evParts, lk, upd, splice, AV.cells, AV.fits, cellsFrom, Obj.isBox, D.setCell, D.asAgg, lkC, retOk, resAll, resAV, Post,
    isInt_int, isBool_bool, isStr_str, isList_list, isAnyInt_int, i_int, b_bool, s_str, l_list, fits_int, fits_bool, fits_str, fits_list, fits_agg, fits_ptr, fits_clo, fits_nilp, fits_nilf, cell_int, cell_bool, cell_str, cell_list, cell_clo, cell_ptr, cell_agg, encI_def, encB_def, encS_def, i_enc, b_enc, s_enc, isInt_enc, isBool_enc, isStr_enc, fits_encI, cell_encI, fits_encB, cell_encB, fits_encS, cell_encS, isAnyInt_enc, l_enc, isList_enc, fits_encL, cell_encL, dec_int, dec_bool, dec_str, dec_encE, isE_int, isE_bool, isE_str, isE_encE, dec_list, isE_list, isE_map, map_dec_enc, ltB_true, ltB_false, leB_true, leB_false, szI, szB, szS, szL, boolE, intE, strE, listE, encE, SlE, List.length_map, List.length_append, List.length_replicate, Int.toNat_natCast, Bool.not_true, Bool.not_false, Bool.not_not, decide_true, decide_false, Bool.and_true, Bool.true_and, Bool.and_false, Bool.false_and, Bool.or_true, Bool.true_or, Bool.or_false, Bool.false_or, List.length_singleton, decide_eq_true_eq, decide_eq_false_iff_not, beq_iff_eq, beq_eq_false_iff_ne, bne_iff_ne, bne_eq_false_iff_eq, Bool.not_eq_true', Bool.not_eq_false', forall_const, true_imp_iff, false_imp_iff, if_true, if_false, reduceIte, reduceCtorEq, and_self, or_self, not_true, not_false_eq_true, List.append_nil, D.bool.injEq, D.int.injEq, D.str.injEq, D.list.injEq, D.agg.injEq, bne_self_eq_false, CV.d.injEq, CV.own.injEq, CV.tup.injEq, List.cons.injEq, List.toList_toArray, Option.some.injEq, Option.toList, List.flatMap_cons, List.flatMap_nil, Prod.mk.injEq, List.take_succ_cons, List.take_zero, List.drop_succ_cons, List.drop_zero, List.getD_nil, con0, con1, con2, con3, con2t, con3t, ctx22_t, ctx22_c, ctx22_d, con22]
  refine aLoop_of (fun k : Nat => ⟨[.d (enc (Sl.mk a)), .dead, .d (.bool false), .d (.int .i64 k), .dead, .dead, .dead, .dead, .dead, .dead, .dead, .dead, .dead, .dead, .dead, .dead, .dead, .dead, .dead, .dead], []⟩) (fun k => 1 ≤ k ∧ (k = 1 ∨ k ≤ a.length) ∧ ∀ j, j + 1 < k → a.getD j 0 < a.getD (j + 1) 0) (fun k => a.length - k) 1 ?_ ?_ ?_
  · simp
  · simp [Wk, wkT, wk1, AV.kept, wkO]
  rintro k ⟨hk1, hk, hno⟩
  simp (config := { maxSteps := 2000000 }) only [awp_skip, awp_region, awp_draw, awp_seq, awp_cond, awp_block, awp_loop, awp_exit, awp_ret, beginAS, beginAll, deads, List.length_cons, List.length_nil, Nat.reduceAdd, Nat.reduceSub, Nat.reduceMul, Nat.reduceMod, Nat.reduceLT, Nat.reduceLeDiff, Nat.reduceEqDiff, Nat.reduceBEq, List.cons_append, List.nil_append,
    aOps, aOp, aExec, opStep, guardOf, ↓ifB_tt, ↓ifB_ff, ↓ifB_t, ↓ifB_f, ↓ifG_tt, ↓ifG_ff, ↓ifG_tf, ↓ifG_ft, ifB, ifG, and_assoc, List.getElem?_cons_zero, List.getElem?_cons_succ, AS.ev, constAV, constD, AS.put, aThen, aBlock, aDraws, Ctx.one, fpOf, opnds, keysAll, AV.keys, ownKey, makes, roOf, List.map_cons, List.map_nil, Ctx.esize, Ctx.size, Ctx.ag, TK.ag, Ctx.elemT, Ctx.fieldAt, tab3, tab4, tab22, tab23, tab33, tab37, tab42, tab51, tab3, tab4, tab22, tab23, tab33, tab37, tab42, tab51, List.getD_cons_zero, List.getD_cons_succ, List.set_cons_zero, List.set_cons_succ, true_and, and_true,
    hPick, hAlloc, hLoad, hStore, hFieldAddr, hField, hIndexAddr, hIndex, hSlice, hBuildSlice, hBuild, buildGo, hMakeSlice, hSource, hAppend, hLen, hMin, hMax, hConv, hExtract, hCall, hCallV, hBin, hUn, pureOut, inArgs, outCV, outOne, outAll, mkTup, mkAgg, mkClo, allD, pur, purs, purParts, allLt, allFit, zerosD, setAll, evs, evO, evParts, lk, upd, splice, AV.cells, AV.fits, cellsFrom, Obj.isBox, D.setCell, D.asAgg, lkC, retOk, resAll, resAV, Post,
    isInt_int, isBool_bool, isStr_str, isList_list, isAnyInt_int, i_int, b_bool, s_str, l_list, fits_int, fits_bool, fits_str, fits_list, fits_agg, fits_ptr, fits_clo, fits_nilp, fits_nilf, cell_int, cell_bool, cell_str, cell_list, cell_clo, cell_ptr, cell_agg, encI_def, encB_def, encS_def, i_enc, b_enc, s_enc, isInt_enc, isBool_enc, isStr_enc, fits_encI, cell_encI, fits_encB, cell_encB, fits_encS, cell_encS, isAnyInt_enc, l_enc, isList_enc, fits_encL, cell_encL, dec_int, dec_bool, dec_str, dec_encE, isE_int, isE_bool, isE_str, isE_encE, dec_list, isE_list, isE_map, map_dec_enc, ltB_true, ltB_false, leB_true, leB_false, szI, szB, szS, szL, boolE, intE, strE, listE, encE, SlE, List.length_map, List.length_append, List.length_replicate, Int.toNat_natCast, Bool.not_true, Bool.not_false, Bool.not_not, decide_true, decide_false, Bool.and_true, Bool.true_and, Bool.and_false, Bool.false_and, Bool.or_true, Bool.true_or, Bool.or_false, Bool.false_or, List.length_singleton, decide_eq_true_eq, decide_eq_false_iff_not, beq_iff_eq, beq_eq_false_iff_ne, bne_iff_ne, bne_eq_false_iff_eq, Bool.not_eq_true', Bool.not_eq_false', forall_const, true_imp_iff, false_imp_iff, if_true, if_false, reduceIte, reduceCtorEq, and_self, or_self, not_true, not_false_eq_true, List.append_nil, D.bool.injEq, D.int.injEq, D.str.injEq, D.list.injEq, D.agg.injEq, bne_self_eq_false, CV.d.injEq, CV.own.injEq, CV.tup.injEq, List.cons.injEq, List.toList_toArray, Option.some.injEq, Option.toList, List.flatMap_cons, List.flatMap_nil, Prod.mk.injEq, List.take_succ_cons, List.take_zero, List.drop_succ_cons, List.drop_zero, List.getD_nil, con0, con1, con2, con3, con2t, con3t, ctx22_t, ctx22_c, ctx22_d, con22]
  refine ⟨fun hlt => ⟨by rw [inR_i64]; omega, by omega, by omega, ?_⟩, fun hge => ?_⟩
  · have e : ((k : Int) - 1).toNat = k - 1 := by omega
    rw [e, el_map 0 (by omega), el_map 0 (by omega)]
    simp (config := { maxSteps := 2000000 }) only [awp_skip, awp_region, awp_draw, awp_seq, awp_cond, awp_block, awp_loop, awp_exit, awp_ret, beginAS, beginAll, deads, List.length_cons, List.length_nil, Nat.reduceAdd, Nat.reduceSub, Nat.reduceMul, Nat.reduceMod, Nat.reduceLT, Nat.reduceLeDiff, Nat.reduceEqDiff, Nat.reduceBEq, List.cons_append, List.nil_append,
    aOps, aOp, aExec, opStep, guardOf, ↓ifB_tt, ↓ifB_ff, ↓ifB_t, ↓ifB_f, ↓ifG_tt, ↓ifG_ff, ↓ifG_tf, ↓ifG_ft, ifB, ifG, and_assoc, List.getElem?_cons_zero, List.getElem?_cons_succ, AS.ev, constAV, constD, AS.put, aThen, aBlock, aDraws, Ctx.one, fpOf, opnds, keysAll, AV.keys, ownKey, makes, roOf, List.map_cons, List.map_nil, Ctx.esize, Ctx.size, Ctx.ag, TK.ag, Ctx.elemT, Ctx.fieldAt, tab3, tab4, tab22, tab23, tab33, tab37, tab42, tab51, tab3, tab4, tab22, tab23, tab33, tab37, tab42, tab51, List.getD_cons_zero, List.getD_cons_succ, List.set_cons_zero, List.set_cons_succ, true_and, and_true,
    hPick, hAlloc, hLoad, hStore, hFieldAddr, hField, hIndexAddr, hIndex, hSlice, hBuildSlice, hBuild, buildGo, hMakeSlice, hSource, hAppend, hLen, hMin, hMax, hConv, hExtract, hCall, hCallV, hBin, hUn, pureOut, inArgs, outCV, outOne, outAll, mkTup, mkAgg, mkClo, allD, pur, purs, purParts, allLt, allFit, zerosD, setAll, evs, evO, evParts, lk, upd, splice, AV.cells, AV.fits, cellsFrom, Obj.isBox, D.setCell, D.asAgg, lkC, retOk, resAll, resAV, Post,
    isInt_int, isBool_bool, isStr_str, isList_list, isAnyInt_int, i_int, b_bool, s_str, l_list, fits_int, fits_bool, fits_str, fits_list, fits_agg, fits_ptr, fits_clo, fits_nilp, fits_nilf, cell_int, cell_bool, cell_str, cell_list, cell_clo, cell_ptr, cell_agg, encI_def, encB_def, encS_def, i_enc, b_enc, s_enc, isInt_enc, isBool_enc, isStr_enc, fits_encI, cell_encI, fits_encB, cell_encB, fits_encS, cell_encS, isAnyInt_enc, l_enc, isList_enc, fits_encL, cell_encL, dec_int, dec_bool, dec_str, dec_encE, isE_int, isE_bool, isE_str, isE_encE, dec_list, isE_list, isE_map, map_dec_enc, ltB_true, ltB_false, leB_true, leB_false, szI, szB, szS, szL, boolE, intE, strE, listE, encE, SlE, List.length_map, List.length_append, List.length_replicate, Int.toNat_natCast, Bool.not_true, Bool.not_false, Bool.not_not, decide_true, decide_false, Bool.and_true, Bool.true_and, Bool.and_false, Bool.false_and, Bool.or_true, Bool.true_or, Bool.or_false, Bool.false_or, List.length_singleton, decide_eq_true_eq, decide_eq_false_iff_not, beq_iff_eq, beq_eq_false_iff_ne, bne_iff_ne, bne_eq_false_iff_eq, Bool.not_eq_true', Bool.not_eq_false', forall_const, true_imp_iff, false_imp_iff, if_true, if_false, reduceIte, reduceCtorEq, and_self, or_self, not_true, not_false_eq_true, List.append_nil, D.bool.injEq, D.int.injEq, D.str.injEq, D.list.injEq, D.agg.injEq, bne_self_eq_false, CV.d.injEq, CV.own.injEq, CV.tup.injEq, List.cons.injEq, List.toList_toArray, Option.some.injEq, Option.toList, List.flatMap_cons, List.flatMap_nil, Prod.mk.injEq, List.take_succ_cons, List.take_zero, List.drop_succ_cons, List.drop_zero, List.getD_nil, con0, con1, con2, con3, con2t, con3t, ctx22_t, ctx22_c, ctx22_d, con22]
    refine ⟨by omega, by omega, by kernel_rfl, fun he => ?_, fun he => ⟨by rw [inR_i64]; omega, k + 1, by simp [Wk, wkT, wk1, AV.kept, wkO], by omega, by omega, fun j hj => ?_, by omega⟩⟩
    · symm
      unfold isSet
      rw [decide_eq_false_iff_not]
      intro h
      have := adj_of_pairwise h (k - 1) (by omega)
      rw [show k - 1 + 1 = k by omega] at this
      omega
    · by_cases hjk : j + 1 = k
      · subst hjk
        simpa using he
      · exact hno j (by omega)
  · symm
    unfold isSet
    rw [decide_eq_true_eq]
    exact pairwise_of_adj fun j hj => hno j (by omega)

/-! ### leavenref15.Part -/
def part (s t : List Int) : Bool := s.all fun x => t.contains x
def con23 : Con := con2 (fun (a b : Sl Int) => a.l.length ≤ 9223372036854775807 ∧ b.l.length ≤ 9223372036854775807) (fun a b => part a.l b.l)
def ctx23 : Ctx := ⟨tab, lkC [(32, con32)], 60⟩
theorem ctx23_t : ctx23.τ = tab := rfl
theorem ctx23_c : ctx23.Γ = lkC [(32, con32)] := rfl
theorem ctx23_d : ctx23.dp = 60 := rfl
theorem good23 : Good Try.prog (23, con23) := by
  refine ⟨enters_of Try.func23 (by kernel_rfl) rfl, ?_⟩
  have K : CtxOk Try.prog ctx23 := ctxOk_of tabOk mixedOk (by
    intro p hp
    simp only [List.mem_cons, List.not_mem_nil, or_false] at hp
    rcases hp with rfl
    · exact good32)
  obtain ⟨c, hc⟩ : ∃ c, Try.f23.body = some c := ⟨_, rfl⟩
  refine fn_sound K Try.func23 hc [.tmp 4] rfl 19 rfl (fun cvs hpre => ?_)
  change con23.pre cvs at hpre
  unfold con23 at hpre
  obtain ⟨⟨a⟩, ⟨b⟩, rfl, ha, hb⟩ := con2_pre hpre
  simp only at ha hb
  simp only [Try.f23, Option.some.injEq] at hc
  subst hc
  simp (config := { maxSteps := 2000000 }) only [awp_skip, awp_region, awp_draw, awp_seq, awp_cond, awp_block, awp_loop, awp_exit, awp_ret, beginAS, beginAll, deads, List.length_cons, List.length_nil, Nat.reduceAdd, Nat.reduceSub, Nat.reduceMul, Nat.reduceMod, Nat.reduceLT, Nat.reduceLeDiff, Nat.reduceEqDiff, Nat.reduceBEq, List.cons_append, List.nil_append,
    aOps, aOp, aExec, opStep, guardOf, ↓ifB_tt, ↓ifB_ff, ↓ifB_t, ↓ifB_f, ↓ifG_tt, ↓ifG_ff, ↓ifG_tf, ↓ifG_ft, ifB, ifG, and_assoc, List.getElem?_cons_zero, List.getElem?_cons_succ, AS.ev, constAV, constD, AS.put, aThen, aBlock, aDraws, Ctx.one, fpOf, opnds, keysAll, AV.keys, ownKey, makes, roOf, List.map_cons, List.map_nil, Ctx.esize, Ctx.size, Ctx.ag, TK.ag, Ctx.elemT, Ctx.fieldAt, tab3, tab4, tab22, tab23, tab33, tab37, tab42, tab51, tab3, tab4, tab22, tab23, tab33, tab37, tab42, tab51, List.getD_cons_zero, List.getD_cons_succ, List.set_cons_zero, List.set_cons_succ, true_and, and_true,
    hPick, hAlloc, hLoad, hStore, hFieldAddr, hField, hIndexAddr, hIndex, hSlice, hBuildSlice, hBuild, buildGo, hMakeSlice, hSource, hAppend, hLen, hMin, hMax, hConv, hExtract, hCall, hCallV, hBin, hUn, pureOut, inArgs, outCV, outOne, outAll, mkTup, mkAgg, mkClo, allD, pur, purs, purParts, allLt, allFit, zerosD, setAll, evs, evO, evParts, lk, upd, splice, AV.cells, AV.fits, cellsFrom, Obj.isBox, D.setCell, D.asAgg, lkC, retOk, resAll, resAV, Post,
    isInt_int, isBool_bool, isStr_str, isList_list, isAnyInt_int, i_int, b_bool, s_str, l_list, fits_int, fits_bool, fits_str, fits_list, fits_agg, fits_ptr, fits_clo, fits_nilp, fits_nilf, cell_int, cell_bool, cell_str, cell_list, cell_clo, cell_ptr, cell_agg, encI_def, encB_def, encS_def, i_enc, b_enc, s_enc, isInt_enc, isBool_enc, isStr_enc, fits_encI, cell_encI, fits_encB, cell_encB, fits_encS, cell_encS, isAnyInt_enc, l_enc, isList_enc, fits_encL, cell_encL, dec_int, dec_bool, dec_str, dec_encE, isE_int, isE_bool, isE_str, isE_encE, dec_list, isE_list, isE_map, map_dec_enc, ltB_true, ltB_false, leB_true, leB_false, szI, szB, szS, szL, boolE, intE, strE, listE, encE, SlE, List.length_map, List.length_append, List.length_replicate, Int.toNat_natCast, Bool.not_true, Bool.not_false, Bool.not_not, decide_true, decide_false, Bool.and_true, Bool.true_and, Bool.and_false, Bool.false_and, Bool.or_true, Bool.true_or, Bool.or_false, Bool.false_or, List.length_singleton, decide_eq_true_eq, decide_eq_false_iff_not, beq_iff_eq, beq_eq_false_iff_ne, bne_iff_ne, bne_eq_false_iff_eq, Bool.not_eq_true', Bool.not_eq_false', forall_const, true_imp_iff, false_imp_iff, if_true, if_false, reduceIte, reduceCtorEq, and_self, or_self, not_true, not_false_eq_true, List.append_nil, D.bool.injEq, D.int.injEq, D.str.injEq, D.list.injEq, D.agg.injEq, bne_self_eq_false, CV.d.injEq, CV.own.injEq, CV.tup.injEq, List.cons.injEq, List.toList_toArray, Option.some.injEq, Option.toList, List.flatMap_cons, List.flatMap_nil, Prod.mk.injEq, List.take_succ_cons, List.take_zero, List.drop_succ_cons, List.drop_zero, List.getD_nil, con0, con1, con2, con3, con2t, con3t, ctx23_t, ctx23_c, ctx23_d, con23, con32]
  refine aLoop_of (fun k : Nat => ⟨[.d (enc (Sl.mk a)), .d (enc (Sl.mk b)), .dead, .dead, .d (.bool false), .d (.int .i64 k), .dead, .dead, .dead, .dead, .dead, .dead, .dead, .dead, .dead, .dead, .dead, .dead, .dead], []⟩) (fun k => k ≤ a.length ∧ ∀ j, j < k → b.contains (a.getD j 0) = true) (fun k => a.length - k) 0 ?_ ?_ ?_
  · simp
  · simp [Wk, wkT, wk1, AV.kept, wkO]
  rintro k ⟨hk, hno⟩
  simp (config := { maxSteps := 2000000 }) only [awp_skip, awp_region, awp_draw, awp_seq, awp_cond, awp_block, awp_loop, awp_exit, awp_ret, beginAS, beginAll, deads, List.length_cons, List.length_nil, Nat.reduceAdd, Nat.reduceSub, Nat.reduceMul, Nat.reduceMod, Nat.reduceLT, Nat.reduceLeDiff, Nat.reduceEqDiff, Nat.reduceBEq, List.cons_append, List.nil_append,
    aOps, aOp, aExec, opStep, guardOf, ↓ifB_tt, ↓ifB_ff, ↓ifB_t, ↓ifB_f, ↓ifG_tt, ↓ifG_ff, ↓ifG_tf, ↓ifG_ft, ifB, ifG, and_assoc, List.getElem?_cons_zero, List.getElem?_cons_succ, AS.ev, constAV, constD, AS.put, aThen, aBlock, aDraws, Ctx.one, fpOf, opnds, keysAll, AV.keys, ownKey, makes, roOf, List.map_cons, List.map_nil, Ctx.esize, Ctx.size, Ctx.ag, TK.ag, Ctx.elemT, Ctx.fieldAt, tab3, tab4, tab22, tab23, tab33, tab37, tab42, tab51, tab3, tab4, tab22, tab23, tab33, tab37, tab42, tab51, List.getD_cons_zero, List.getD_cons_succ, List.set_cons_zero, List.set_cons_succ, true_and, and_true,
    hPick, hAlloc, hLoad, hStore, hFieldAddr, hField, hIndexAddr, hIndex, hSlice, hBuildSlice, hBuild, buildGo, hMakeSlice, hSource, hAppend, hLen, hMin, hMax, hConv, hExtract, hCall, hCallV, hBin, hUn, pureOut, inArgs, outCV, outOne, outAll, mkTup, mkAgg, mkClo, allD, pur, purs, purParts, allLt, allFit, zerosD, setAll, evs, evO, evParts, lk, upd, splice, AV.cells, AV.fits, cellsFrom, Obj.isBox, D.setCell, D.asAgg, lkC, retOk, resAll, resAV, Post,
    isInt_int, isBool_bool, isStr_str, isList_list, isAnyInt_int, i_int, b_bool, s_str, l_list, fits_int, fits_bool, fits_str, fits_list, fits_agg, fits_ptr, fits_clo, fits_nilp, fits_nilf, cell_int, cell_bool, cell_str, cell_list, cell_clo, cell_ptr, cell_agg, encI_def, encB_def, encS_def, i_enc, b_enc, s_enc, isInt_enc, isBool_enc, isStr_enc, fits_encI, cell_encI, fits_encB, cell_encB, fits_encS, cell_encS, isAnyInt_enc, l_enc, isList_enc, fits_encL, cell_encL, dec_int, dec_bool, dec_str, dec_encE, isE_int, isE_bool, isE_str, isE_encE, dec_list, isE_list, isE_map, map_dec_enc, ltB_true, ltB_false, leB_true, leB_false, szI, szB, szS, szL, boolE, intE, strE, listE, encE, SlE, List.length_map, List.length_append, List.length_replicate, Int.toNat_natCast, Bool.not_true, Bool.not_false, Bool.not_not, decide_true, decide_false, Bool.and_true, Bool.true_and, Bool.and_false, Bool.false_and, Bool.or_true, Bool.true_or, Bool.or_false, Bool.false_or, List.length_singleton, decide_eq_true_eq, decide_eq_false_iff_not, beq_iff_eq, beq_eq_false_iff_ne, bne_iff_ne, bne_eq_false_iff_eq, Bool.not_eq_true', Bool.not_eq_false', forall_const, true_imp_iff, false_imp_iff, if_true, if_false, reduceIte, reduceCtorEq, and_self, or_self, not_true, not_false_eq_true, List.append_nil, D.bool.injEq, D.int.injEq, D.str.injEq, D.list.injEq, D.agg.injEq, bne_self_eq_false, CV.d.injEq, CV.own.injEq, CV.tup.injEq, List.cons.injEq, List.toList_toArray, Option.some.injEq, Option.toList, List.flatMap_cons, List.flatMap_nil, Prod.mk.injEq, List.take_succ_cons, List.take_zero, List.drop_succ_cons, List.drop_zero, List.getD_nil, con0, con1, con2, con3, con2t, con3t, ctx23_t, ctx23_c, ctx23_d, con23, con32]
  refine ⟨fun hlt => ⟨by omega, by omega, ?_⟩, fun hge => ?_⟩
  · rw [el_map 0 (by omega)]
    simp (config := { maxSteps := 2000000 }) only [awp_skip, awp_region, awp_draw, awp_seq, awp_cond, awp_block, awp_loop, awp_exit, awp_ret, beginAS, beginAll, deads, List.length_cons, List.length_nil, Nat.reduceAdd, Nat.reduceSub, Nat.reduceMul, Nat.reduceMod, Nat.reduceLT, Nat.reduceLeDiff, Nat.reduceEqDiff, Nat.reduceBEq, List.cons_append, List.nil_append,
    aOps, aOp, aExec, opStep, guardOf, ↓ifB_tt, ↓ifB_ff, ↓ifB_t, ↓ifB_f, ↓ifG_tt, ↓ifG_ff, ↓ifG_tf, ↓ifG_ft, ifB, ifG, and_assoc, List.getElem?_cons_zero, List.getElem?_cons_succ, AS.ev, constAV, constD, AS.put, aThen, aBlock, aDraws, Ctx.one, fpOf, opnds, keysAll, AV.keys, ownKey, makes, roOf, List.map_cons, List.map_nil, Ctx.esize, Ctx.size, Ctx.ag, TK.ag, Ctx.elemT, Ctx.fieldAt, tab3, tab4, tab22, tab23, tab33, tab37, tab42, tab51, tab3, tab4, tab22, tab23, tab33, tab37, tab42, tab51, List.getD_cons_zero, List.getD_cons_succ, List.set_cons_zero, List.set_cons_succ, true_and, and_true,
    hPick, hAlloc, hLoad, hStore, hFieldAddr, hField, hIndexAddr, hIndex, hSlice, hBuildSlice, hBuild, buildGo, hMakeSlice, hSource, hAppend, hLen, hMin, hMax, hConv, hExtract, hCall, hCallV, hBin, hUn, pureOut, inArgs, outCV, outOne, outAll, mkTup, mkAgg, mkClo, allD, pur, purs, purParts, allLt, allFit, zerosD, setAll, evs, evO, evParts, lk, upd, splice, AV.cells, AV.fits, cellsFrom, Obj.isBox, D.setCell, D.asAgg, lkC, retOk, resAll, resAV, Post,
    isInt_int, isBool_bool, isStr_str, isList_list, isAnyInt_int, i_int, b_bool, s_str, l_list, fits_int, fits_bool, fits_str, fits_list, fits_agg, fits_ptr, fits_clo, fits_nilp, fits_nilf, cell_int, cell_bool, cell_str, cell_list, cell_clo, cell_ptr, cell_agg, encI_def, encB_def, encS_def, i_enc, b_enc, s_enc, isInt_enc, isBool_enc, isStr_enc, fits_encI, cell_encI, fits_encB, cell_encB, fits_encS, cell_encS, isAnyInt_enc, l_enc, isList_enc, fits_encL, cell_encL, dec_int, dec_bool, dec_str, dec_encE, isE_int, isE_bool, isE_str, isE_encE, dec_list, isE_list, isE_map, map_dec_enc, ltB_true, ltB_false, leB_true, leB_false, szI, szB, szS, szL, boolE, intE, strE, listE, encE, SlE, List.length_map, List.length_append, List.length_replicate, Int.toNat_natCast, Bool.not_true, Bool.not_false, Bool.not_not, decide_true, decide_false, Bool.and_true, Bool.true_and, Bool.and_false, Bool.false_and, Bool.or_true, Bool.true_or, Bool.or_false, Bool.false_or, List.length_singleton, decide_eq_true_eq, decide_eq_false_iff_not, beq_iff_eq, beq_eq_false_iff_ne, bne_iff_ne, bne_eq_false_iff_eq, Bool.not_eq_true', Bool.not_eq_false', forall_const, true_imp_iff, false_imp_iff, if_true, if_false, reduceIte, reduceCtorEq, and_self, or_self, not_true, not_false_eq_true, List.append_nil, D.bool.injEq, D.int.injEq, D.str.injEq, D.list.injEq, D.agg.injEq, bne_self_eq_false, CV.d.injEq, CV.own.injEq, CV.tup.injEq, List.cons.injEq, List.toList_toArray, Option.some.injEq, Option.toList, List.flatMap_cons, List.flatMap_nil, Prod.mk.injEq, List.take_succ_cons, List.take_zero, List.drop_succ_cons, List.drop_zero, List.getD_nil, con0, con1, con2, con3, con2t, con3t, ctx23_t, ctx23_c, ctx23_d, con23, con32]
    refine ⟨hb, fun he => ?_, fun he => ⟨by rw [inR_i64]; omega, k + 1, by simp [Wk, wkT, wk1, AV.kept, wkO], by omega, fun j hj => ?_, by omega⟩⟩
    · exact (all_not 0 k (by omega) he).symm
    · by_cases hjk : j = k
      · subst hjk; exact he
      · exact hno j (by omega)
  · exact (all_of_lt 0 fun j hj => hno j (by omega)).symm

/-! ### leavenref15.Fits -/
def fits (s : List Int) (bad : List (Sl Int)) : Bool := !bad.any fun b => part b.l s
def con16 : Con := con2 (fun (bad : Sl (Sl Int)) (s : Sl Int) => bad.l.length ≤ 9223372036854775807 ∧ s.l.length ≤ 9223372036854775807 ∧ ∀ b ∈ bad.l, b.l.length ≤ 9223372036854775807) (fun bad s => fits s.l bad.l)
def ctx16 : Ctx := ⟨tab, lkC [(23, con23)], 60⟩
theorem ctx16_t : ctx16.τ = tab := rfl
theorem ctx16_c : ctx16.Γ = lkC [(23, con23)] := rfl
theorem ctx16_d : ctx16.dp = 60 := rfl
theorem good16 : Good Try.prog (16, con16) := by
  refine ⟨enters_of Try.func16 (by kernel_rfl) rfl, ?_⟩
  have K : CtxOk Try.prog ctx16 := ctxOk_of tabOk mixedOk (by
    intro p hp
    simp only [List.mem_cons, List.not_mem_nil, or_false] at hp
    rcases hp with rfl
    · exact good23)
  obtain ⟨c, hc⟩ : ∃ c, Try.f16.body = some c := ⟨_, rfl⟩
  refine fn_sound K Try.func16 hc [.tmp 4] rfl 18 rfl (fun cvs hpre => ?_)
  change con16.pre cvs at hpre
  unfold con16 at hpre
  obtain ⟨⟨bad⟩, ⟨s⟩, rfl, ha, hs, hb⟩ := con2_pre hpre
  simp only at ha hs hb
  simp only [Try.f16, Option.some.injEq] at hc
  subst hc
  simp (config := { maxSteps := 2000000 }) only [awp_skip, awp_region, awp_draw, awp_seq, awp_cond, awp_block, awp_loop, awp_exit, awp_ret, beginAS, beginAll, deads, List.length_cons, List.length_nil, Nat.reduceAdd, Nat.reduceSub, Nat.reduceMul, Nat.reduceMod, Nat.reduceLT, Nat.reduceLeDiff, Nat.reduceEqDiff, Nat.reduceBEq, List.cons_append, List.nil_append,
    aOps, aOp, aExec, opStep, guardOf, ↓ifB_tt, ↓ifB_ff, ↓ifB_t, ↓ifB_f, ↓ifG_tt, ↓ifG_ff, ↓ifG_tf, ↓ifG_ft, ifB, ifG, and_assoc, List.getElem?_cons_zero, List.getElem?_cons_succ, AS.ev, constAV, constD, AS.put, aThen, aBlock, aDraws, Ctx.one, fpOf, opnds, keysAll, AV.keys, ownKey, makes, roOf, List.map_cons, List.map_nil, Ctx.esize, Ctx.size, Ctx.ag, TK.ag, Ctx.elemT, Ctx.fieldAt, tab3, tab4, tab22, tab23, tab33, tab37, tab42, tab51, tab3, tab4, tab22, tab23, tab33, tab37, tab42, tab51, List.getD_cons_zero, List.getD_cons_succ, List.set_cons_zero, List.set_cons_succ, true_and, and_true,
    hPick, hAlloc, hLoad, hStore, hFieldAddr, hField, hIndexAddr, hIndex, hSlice, hBuildSlice, hBuild, buildGo, hMakeSlice, hSource, hAppend, hLen, hMin, hMax, hConv, hExtract, hCall, hCallV, hBin, hUn, pureOut, inArgs, outCV, outOne, outAll, mkTup, mkAgg, mkClo, allD, pur, purs, purParts, allLt, allFit, zerosD, setAll, evs, evO, evParts, lk, upd, splice, AV.cells, AV.fits, cellsFrom, Obj.isBox, D.setCell, D.asAgg, lkC, retOk, resAll, resAV, Post,
    isInt_int, isBool_bool, isStr_str, isList_list, isAnyInt_int, i_int, b_bool, s_str, l_list, fits_int, fits_bool, fits_str, fits_list, fits_agg, fits_ptr, fits_clo, fits_nilp, fits_nilf, cell_int, cell_bool, cell_str, cell_list, cell_clo, cell_ptr, cell_agg, encI_def, encB_def, encS_def, i_enc, b_enc, s_enc, isInt_enc, isBool_enc, isStr_enc, fits_encI, cell_encI, fits_encB, cell_encB, fits_encS, cell_encS, isAnyInt_enc, l_enc, isList_enc, fits_encL, cell_encL, dec_int, dec_bool, dec_str, dec_encE, isE_int, isE_bool, isE_str, isE_encE, dec_list, isE_list, isE_map, map_dec_enc, ltB_true, ltB_false, leB_true, leB_false, szI, szB, szS, szL, boolE, intE, strE, listE, encE, SlE, List.length_map, List.length_append, List.length_replicate, Int.toNat_natCast, Bool.not_true, Bool.not_false, Bool.not_not, decide_true, decide_false, Bool.and_true, Bool.true_and, Bool.and_false, Bool.false_and, Bool.or_true, Bool.true_or, Bool.or_false, Bool.false_or, List.length_singleton, decide_eq_true_eq, decide_eq_false_iff_not, beq_iff_eq, beq_eq_false_iff_ne, bne_iff_ne, bne_eq_false_iff_eq, Bool.not_eq_true', Bool.not_eq_false', forall_const, true_imp_iff, false_imp_iff, if_true, if_false, reduceIte, reduceCtorEq, and_self, or_self, not_true, not_false_eq_true, List.append_nil, D.bool.injEq, D.int.injEq, D.str.injEq, D.list.injEq, D.agg.injEq, bne_self_eq_false, CV.d.injEq, CV.own.injEq, CV.tup.injEq, List.cons.injEq, List.toList_toArray, Option.some.injEq, Option.toList, List.flatMap_cons, List.flatMap_nil, Prod.mk.injEq, List.take_succ_cons, List.take_zero, List.drop_succ_cons, List.drop_zero, List.getD_nil, con0, con1, con2, con3, con2t, con3t, ctx16_t, ctx16_c, ctx16_d, con16, con23]
  refine aLoop_of (fun k : Nat => ⟨[.d (enc (Sl.mk bad)), .d (enc (Sl.mk s)), .dead, .dead, .d (.bool false), .d (.int .i64 k), .dead, .dead, .dead, .dead, .dead, .dead, .dead, .dead, .dead, .dead, .dead, .dead], []⟩) (fun k => k ≤ bad.length ∧ ∀ j, j < k → part (bad.getD j ⟨[]⟩).l s = false) (fun k => bad.length - k) 0 ?_ ?_ ?_
  · simp
  · simp [Wk, wkT, wk1, AV.kept, wkO]
  rintro k ⟨hk, hno⟩
  simp (config := { maxSteps := 2000000 }) only [awp_skip, awp_region, awp_draw, awp_seq, awp_cond, awp_block, awp_loop, awp_exit, awp_ret, beginAS, beginAll, deads, List.length_cons, List.length_nil, Nat.reduceAdd, Nat.reduceSub, Nat.reduceMul, Nat.reduceMod, Nat.reduceLT, Nat.reduceLeDiff, Nat.reduceEqDiff, Nat.reduceBEq, List.cons_append, List.nil_append,
    aOps, aOp, aExec, opStep, guardOf, ↓ifB_tt, ↓ifB_ff, ↓ifB_t, ↓ifB_f, ↓ifG_tt, ↓ifG_ff, ↓ifG_tf, ↓ifG_ft, ifB, ifG, and_assoc, List.getElem?_cons_zero, List.getElem?_cons_succ, AS.ev, constAV, constD, AS.put, aThen, aBlock, aDraws, Ctx.one, fpOf, opnds, keysAll, AV.keys, ownKey, makes, roOf, List.map_cons, List.map_nil, Ctx.esize, Ctx.size, Ctx.ag, TK.ag, Ctx.elemT, Ctx.fieldAt, tab3, tab4, tab22, tab23, tab33, tab37, tab42, tab51, tab3, tab4, tab22, tab23, tab33, tab37, tab42, tab51, List.getD_cons_zero, List.getD_cons_succ, List.set_cons_zero, List.set_cons_succ, true_and, and_true,
    hPick, hAlloc, hLoad, hStore, hFieldAddr, hField, hIndexAddr, hIndex, hSlice, hBuildSlice, hBuild, buildGo, hMakeSlice, hSource, hAppend, hLen, hMin, hMax, hConv, hExtract, hCall, hCallV, hBin, hUn, pureOut, inArgs, outCV, outOne, outAll, mkTup, mkAgg, mkClo, allD, pur, purs, purParts, allLt, allFit, zerosD, setAll, evs, evO, evParts, lk, upd, splice, AV.cells, AV.fits, cellsFrom, Obj.isBox, D.setCell, D.asAgg, lkC, retOk, resAll, resAV, Post,
    isInt_int, isBool_bool, isStr_str, isList_list, isAnyInt_int, i_int, b_bool, s_str, l_list, fits_int, fits_bool, fits_str, fits_list, fits_agg, fits_ptr, fits_clo, fits_nilp, fits_nilf, cell_int, cell_bool, cell_str, cell_list, cell_clo, cell_ptr, cell_agg, encI_def, encB_def, encS_def, i_enc, b_enc, s_enc, isInt_enc, isBool_enc, isStr_enc, fits_encI, cell_encI, fits_encB, cell_encB, fits_encS, cell_encS, isAnyInt_enc, l_enc, isList_enc, fits_encL, cell_encL, dec_int, dec_bool, dec_str, dec_encE, isE_int, isE_bool, isE_str, isE_encE, dec_list, isE_list, isE_map, map_dec_enc, ltB_true, ltB_false, leB_true, leB_false, szI, szB, szS, szL, boolE, intE, strE, listE, encE, SlE, List.length_map, List.length_append, List.length_replicate, Int.toNat_natCast, Bool.not_true, Bool.not_false, Bool.not_not, decide_true, decide_false, Bool.and_true, Bool.true_and, Bool.and_false, Bool.false_and, Bool.or_true, Bool.true_or, Bool.or_false, Bool.false_or, List.length_singleton, decide_eq_true_eq, decide_eq_false_iff_not, beq_iff_eq, beq_eq_false_iff_ne, bne_iff_ne, bne_eq_false_iff_eq, Bool.not_eq_true', Bool.not_eq_false', forall_const, true_imp_iff, false_imp_iff, if_true, if_false, reduceIte, reduceCtorEq, and_self, or_self, not_true, not_false_eq_true, List.append_nil, D.bool.injEq, D.int.injEq, D.str.injEq, D.list.injEq, D.agg.injEq, bne_self_eq_false, CV.d.injEq, CV.own.injEq, CV.tup.injEq, List.cons.injEq, List.toList_toArray, Option.some.injEq, Option.toList, List.flatMap_cons, List.flatMap_nil, Prod.mk.injEq, List.take_succ_cons, List.take_zero, List.drop_succ_cons, List.drop_zero, List.getD_nil, con0, con1, con2, con3, con2t, con3t, ctx16_t, ctx16_c, ctx16_d, con16, con23]
  refine ⟨fun hlt => ⟨by omega, by omega, ?_⟩, fun hge => ?_⟩
  · rw [el_map ⟨[]⟩ (by omega)]
    simp (config := { maxSteps := 2000000 }) only [awp_skip, awp_region, awp_draw, awp_seq, awp_cond, awp_block, awp_loop, awp_exit, awp_ret, beginAS, beginAll, deads, List.length_cons, List.length_nil, Nat.reduceAdd, Nat.reduceSub, Nat.reduceMul, Nat.reduceMod, Nat.reduceLT, Nat.reduceLeDiff, Nat.reduceEqDiff, Nat.reduceBEq, List.cons_append, List.nil_append,
    aOps, aOp, aExec, opStep, guardOf, ↓ifB_tt, ↓ifB_ff, ↓ifB_t, ↓ifB_f, ↓ifG_tt, ↓ifG_ff, ↓ifG_tf, ↓ifG_ft, ifB, ifG, and_assoc, List.getElem?_cons_zero, List.getElem?_cons_succ, AS.ev, constAV, constD, AS.put, aThen, aBlock, aDraws, Ctx.one, fpOf, opnds, keysAll, AV.keys, ownKey, makes, roOf, List.map_cons, List.map_nil, Ctx.esize, Ctx.size, Ctx.ag, TK.ag, Ctx.elemT, Ctx.fieldAt, tab3, tab4, tab22, tab23, tab33, tab37, tab42, tab51, tab3, tab4, tab22, tab23, tab33, tab37, tab42, tab51, List.getD_cons_zero, List.getD_cons_succ, List.set_cons_zero, List.set_cons_succ, true_and, and_true,
    hPick, hAlloc, hLoad, hStore, hFieldAddr, hField, hIndexAddr, hIndex, hSlice, hBuildSlice, hBuild, buildGo, hMakeSlice, hSource, hAppend, hLen, hMin, hMax, hConv, hExtract, hCall, hCallV, hBin, hUn, pureOut, inArgs, outCV, outOne, outAll, mkTup, mkAgg, mkClo, allD, pur, purs, purParts, allLt, allFit, zerosD, setAll, evs, evO, evParts, lk, upd, splice, AV.cells, AV.fits, cellsFrom, Obj.isBox, D.setCell, D.asAgg, lkC, retOk, resAll, resAV, Post,
    isInt_int, isBool_bool, isStr_str, isList_list, isAnyInt_int, i_int, b_bool, s_str, l_list, fits_int, fits_bool, fits_str, fits_list, fits_agg, fits_ptr, fits_clo, fits_nilp, fits_nilf, cell_int, cell_bool, cell_str, cell_list, cell_clo, cell_ptr, cell_agg, encI_def, encB_def, encS_def, i_enc, b_enc, s_enc, isInt_enc, isBool_enc, isStr_enc, fits_encI, cell_encI, fits_encB, cell_encB, fits_encS, cell_encS, isAnyInt_enc, l_enc, isList_enc, fits_encL, cell_encL, dec_int, dec_bool, dec_str, dec_encE, isE_int, isE_bool, isE_str, isE_encE, dec_list, isE_list, isE_map, map_dec_enc, ltB_true, ltB_false, leB_true, leB_false, szI, szB, szS, szL, boolE, intE, strE, listE, encE, SlE, List.length_map, List.length_append, List.length_replicate, Int.toNat_natCast, Bool.not_true, Bool.not_false, Bool.not_not, decide_true, decide_false, Bool.and_true, Bool.true_and, Bool.and_false, Bool.false_and, Bool.or_true, Bool.true_or, Bool.or_false, Bool.false_or, List.length_singleton, decide_eq_true_eq, decide_eq_false_iff_not, beq_iff_eq, beq_eq_false_iff_ne, bne_iff_ne, bne_eq_false_iff_eq, Bool.not_eq_true', Bool.not_eq_false', forall_const, true_imp_iff, false_imp_iff, if_true, if_false, reduceIte, reduceCtorEq, and_self, or_self, not_true, not_false_eq_true, List.append_nil, D.bool.injEq, D.int.injEq, D.str.injEq, D.list.injEq, D.agg.injEq, bne_self_eq_false, CV.d.injEq, CV.own.injEq, CV.tup.injEq, List.cons.injEq, List.toList_toArray, Option.some.injEq, Option.toList, List.flatMap_cons, List.flatMap_nil, Prod.mk.injEq, List.take_succ_cons, List.take_zero, List.drop_succ_cons, List.drop_zero, List.getD_nil, con0, con1, con2, con3, con2t, con3t, ctx16_t, ctx16_c, ctx16_d, con16, con23]
    refine ⟨hb _ (by simp [show k < bad.length by omega]), hs, fun he => ?_, fun he => ⟨by rw [inR_i64]; omega, k + 1, by simp [Wk, wkT, wk1, AV.kept, wkO], by omega, fun j hj => ?_, by omega⟩⟩
    · unfold fits
      rw [any_at (p := fun b : Sl Int => part b.l s) ⟨[]⟩ k (by omega) he]
      rfl
    · by_cases hjk : j = k
      · subst hjk; exact he
      · exact hno j (by omega)
  · unfold fits
    rw [any_not (p := fun b : Sl Int => part b.l s) ⟨[]⟩ fun j hj => hno j (by omega)]
    rfl

end Go.Am.Core
