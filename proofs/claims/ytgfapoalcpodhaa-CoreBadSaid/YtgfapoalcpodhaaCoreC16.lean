/- Contracts of functions that the laws of core reach, and plain laws of sets. Conditions: those that each contract states. -/
import Derived.Test.YtgfapoalcpodhaaCoreC15
set_option linter.unusedSimpArgs false
set_option linter.unusedVariables false
set_option maxHeartbeats 2000000
namespace Go.Am.Core
open Go.Proofs
open Enc (enc dec)

/-! ### CoreTwo -/
theorem fits_rev (s : List Int) (bad : List (Sl Int)) : fits s bad.reverse = fits s bad := fits_eq (fun _ => Iff.rfl) fun _ => List.mem_reverse
theorem rshrink_rev (s : List Int) (bad : List (Sl Int)) : rshrink s bad.reverse = rshrink s bad := by
  have : rshStep bad.reverse = rshStep bad := by
    funext out n
    unfold rshStep
    rw [fits_rev]
  unfold rshrink
  rw [fits_rev, this]
theorem rgrow_rev (s all : List Int) (bad : List (Sl Int)) : rgrow s all bad.reverse = rgrow s all bad := by
  have : rgStep bad.reverse = rgStep bad := by
    funext out n
    unfold rgStep
    rw [fits_rev]
  unfold rgrow
  rw [fits_rev, this]
def con7 : Con := con3 (fun (s all : Sl Int) (bad : Sl (Sl Int)) => s.l.length ≤ 9223372036854775807 ∧ all.l.length ≤ 9223372036854775807 ∧ bad.l.length ≤ 9223372036854775807 ∧ ∀ b ∈ bad.l, b.l.length ≤ 9223372036854775807) (fun _ _ _ => true)
def ctx7 : Ctx := ⟨tab, lkC [(8, con8), (9, con9), (10, con10), (12, con12), (14, con14), (15, con15), (23, con23)], 60⟩
theorem ctx7_t : ctx7.τ = tab := rfl
theorem ctx7_c : ctx7.Γ = lkC [(8, con8), (9, con9), (10, con10), (12, con12), (14, con14), (15, con15), (23, con23)] := rfl
theorem ctx7_d : ctx7.dp = 60 := rfl
set_option maxRecDepth 100000 in
theorem good7 : Good Try.prog (7, con7) := by
  refine ⟨enters_of Try.func7 (by kernel_rfl) rfl, ?_⟩
  have K : CtxOk Try.prog ctx7 := ctxOk_of tabOk mixedOk (by
    intro p hp
    simp only [List.mem_cons, List.not_mem_nil, or_false] at hp
    rcases hp with rfl | rfl | rfl | rfl | rfl | rfl | rfl
    · exact good8
    · exact good9
    · exact good10
    · exact good12
    · exact good14
    · exact good15
    · exact good23)
  obtain ⟨c, hc⟩ : ∃ c, Try.f7.body = some c := ⟨_, rfl⟩
  refine fn_sound K Try.func7 hc [.tmp 6] rfl 121 rfl (fun cvs hpre => ?_)
  change con7.pre cvs at hpre
  unfold con7 at hpre
  obtain ⟨⟨s⟩, ⟨all⟩, ⟨bad⟩, rfl, hs, hall, hbad, hb⟩ := con3_pre hpre
  simp only at hs hall hbad hb
  cases hm : mayB s all bad with
  | false =>
    simp only [Try.f7, Option.some.injEq] at hc
    subst hc
    simp (config := { maxSteps := 4000000 }) only [awp_skip, awp_region, awp_draw, awp_seq, awp_cond, awp_block, awp_loop, awp_exit, awp_ret, beginAS, beginAll, deads, List.length_cons, List.length_nil, Nat.reduceAdd, Nat.reduceSub, Nat.reduceMul, Nat.reduceMod, Nat.reduceLT, Nat.reduceLeDiff, Nat.reduceEqDiff, Nat.reduceBEq, List.cons_append, List.nil_append,     aOps, aOp, aExec, opStep, guardOf, ↓ifB_tt, ↓ifB_ff, ↓ifB_t, ↓ifB_f, ↓ifG_tt, ↓ifG_ff, ↓ifG_tf, ↓ifG_ft, ifB, ifG, and_assoc, List.getElem?_cons_zero, List.getElem?_cons_succ, AS.ev, constAV, constD, AS.put, aThen, aBlock, aDraws, Ctx.one, fpOf, opnds, keysAll, AV.keys, ownKey, makes, roOf, List.map_cons, List.map_nil, Ctx.esize, Ctx.size, Ctx.ag, TK.ag, Ctx.elemT, Ctx.fieldAt, tab3, tab4, tab22, tab23, tab33, tab37, tab42, tab51, List.getD_cons_zero, List.getD_cons_succ, List.set_cons_zero, List.set_cons_succ, true_and, and_true,     hPick, hAlloc, hLoad, hStore, hFieldAddr, hField, hIndexAddr, hIndex, hSlice, hBuildSlice, hBuild, buildGo, hMakeSlice, hSource, hAppend, hLen, hMin, hMax, hConv, hExtract, hCall, hCallV, hBin, hUn, pureOut, inArgs, outCV, outOne, outAll, mkTup, mkAgg, mkClo, allD, pur, purs, purParts, allLt, allFit, zerosD, setAll, evs, evO, evParts, lk, upd, splice, AV.cells, AV.fits, cellsFrom, Obj.isBox, D.setCell, D.asAgg, lkC, retOk, resAll, resAV, Post,     isInt_int, isBool_bool, isStr_str, isList_list, isAnyInt_int, i_int, b_bool, s_str, l_list, fits_int, fits_bool, fits_str, fits_list, fits_agg, fits_ptr, fits_clo, fits_nilp, fits_nilf, cell_int, cell_bool, cell_str, cell_list, cell_clo, cell_ptr, cell_agg, encI_def, encB_def, encS_def, i_enc, b_enc, s_enc, isInt_enc, isBool_enc, isStr_enc, fits_encI, cell_encI, fits_encB, cell_encB, fits_encS, cell_encS, isAnyInt_enc, l_enc, isList_enc, fits_encL, cell_encL, dec_int, dec_bool, dec_str, dec_encE, isE_int, isE_bool, isE_str, isE_encE, dec_list, isE_list, isE_map, map_dec_enc, ltB_true, ltB_false, leB_true, leB_false, szI, szB, szS, szL, boolE, intE, strE, listE, encE, SlE, List.length_map, List.length_append, List.length_replicate, Int.toNat_natCast, Bool.not_true, Bool.not_false, Bool.not_not, decide_true, decide_false, Bool.and_true, Bool.true_and, Bool.and_false, Bool.false_and, Bool.or_true, Bool.true_or, Bool.or_false, Bool.false_or, List.length_singleton, decide_eq_true_eq, decide_eq_false_iff_not, beq_iff_eq, beq_eq_false_iff_ne, bne_iff_ne, bne_eq_false_iff_eq, Bool.not_eq_true', Bool.not_eq_false', forall_const, true_imp_iff, false_imp_iff, if_true, if_false, reduceIte, reduceCtorEq, and_self, or_self, not_true, not_false_eq_true, List.append_nil, D.bool.injEq, D.int.injEq, D.str.injEq, D.list.injEq, D.agg.injEq, bne_self_eq_false, CV.d.injEq, CV.own.injEq, CV.tup.injEq, List.cons.injEq, List.toList_toArray, Option.some.injEq, Option.toList, List.flatMap_cons, List.flatMap_nil, Prod.mk.injEq, List.take_succ_cons, List.take_zero, List.drop_succ_cons, List.drop_zero, List.getD_nil, con0, con1, con2, con3, con2t, con3t, atHead_mk, killAll, setSlots, updAll, shut_eq, map_snoc, map_snocI, map_snocB, map_snocS, map_cat, List.not_mem_nil, false_implies, implies_true, List.mem_cons, or_false, forall_eq_or_imp, forall_eq, ne_eq, isE_int, isE_bool, isE_str, isE_list, ctx7_t, ctx7_c, ctx7_d, con10, con12, con14, con15, con23, con7, con8, con9, hm]
    repeat' (first | with_reducible assumption | with_reducible refine And.intro ?_ ?_ | intro _ | omega | (rw [inR_i64]; omega))
  | true =>
    obtain ⟨h1, h2, hss, hsa, hB, hsb⟩ := may_out hm
    have hbl := few_out hm
    have hBr : Bads bad.reverse := ⟨by rw [List.length_reverse]; exact hB.1, fun b hb => hB.2 b (List.mem_reverse.1 hb)⟩
    have hBn : Bads [] := ⟨by simp, by simp⟩
    have e1 := shrink_eq hss bad
    have e2 := (shrink_eq hss bad.reverse).trans (rshrink_rev s bad)
    have e3 := grow_eq hss all bad
    have e4 := (grow_eq hss all bad.reverse).trans (rgrow_rev s all bad)
    have e5 := grow_eq hss all []
    have l1 := rshrink_len s bad
    obtain ⟨E, e6, hEl, hEs, hEp, hEq, hEf, hEm⟩ := grown all hss (fits_nil s)
    have hEa : part all E = true := part_iff.2 fun n hn => (hEm n hn).resolve_right (by rw [fits_nil]; simp)
    have hEp' := part_iff.2 hEp
    obtain ⟨C, u, e7, hCl, hCs, hCE, hCf⟩ : ∃ C u, rgrow s all bad = (⟨C⟩, u) ∧ C.length ≤ 40 ∧ Sorted C ∧ part C E = true ∧ (u = true → fits C bad.reverse = true) := by
      cases hf : fits s bad with
      | false => exact ⟨[], false, by unfold rgrow; rw [if_pos hf], by simp, List.Pairwise.nil, rfl, fun h => by cases h⟩
      | true =>
        obtain ⟨R, e2, hRl, hRs, hRp, hRq, hRf, hRm⟩ := grown all hss hf
        refine ⟨R, true, e2, by omega, hRs, part_iff.2 fun x hx => ?_, fun _ => by rw [fits_rev]; exact hRf⟩
        rcases hRq x hx with h | h
        · exact hEp x h
        · exact (hEm x h).resolve_right (by rw [fits_nil]; simp)
    simp only [Try.f7, Option.some.injEq] at hc
    subst hc
    simp (config := { maxSteps := 4000000 }) only [awp_skip, awp_region, awp_draw, awp_seq, awp_cond, awp_block, awp_loop, awp_exit, awp_ret, beginAS, beginAll, deads, List.length_cons, List.length_nil, Nat.reduceAdd, Nat.reduceSub, Nat.reduceMul, Nat.reduceMod, Nat.reduceLT, Nat.reduceLeDiff, Nat.reduceEqDiff, Nat.reduceBEq, List.cons_append, List.nil_append,     aOps, aOp, aExec, opStep, guardOf, ↓ifB_tt, ↓ifB_ff, ↓ifB_t, ↓ifB_f, ↓ifG_tt, ↓ifG_ff, ↓ifG_tf, ↓ifG_ft, ifB, ifG, and_assoc, List.getElem?_cons_zero, List.getElem?_cons_succ, AS.ev, constAV, constD, AS.put, aThen, aBlock, aDraws, Ctx.one, fpOf, opnds, keysAll, AV.keys, ownKey, makes, roOf, List.map_cons, List.map_nil, Ctx.esize, Ctx.size, Ctx.ag, TK.ag, Ctx.elemT, Ctx.fieldAt, tab3, tab4, tab22, tab23, tab33, tab37, tab42, tab51, List.getD_cons_zero, List.getD_cons_succ, List.set_cons_zero, List.set_cons_succ, true_and, and_true,     hPick, hAlloc, hLoad, hStore, hFieldAddr, hField, hIndexAddr, hIndex, hSlice, hBuildSlice, hBuild, buildGo, hMakeSlice, hSource, hAppend, hLen, hMin, hMax, hConv, hExtract, hCall, hCallV, hBin, hUn, pureOut, inArgs, outCV, outOne, outAll, mkTup, mkAgg, mkClo, allD, pur, purs, purParts, allLt, allFit, zerosD, setAll, evs, evO, evParts, lk, upd, splice, AV.cells, AV.fits, cellsFrom, Obj.isBox, D.setCell, D.asAgg, lkC, retOk, resAll, resAV, Post,     isInt_int, isBool_bool, isStr_str, isList_list, isAnyInt_int, i_int, b_bool, s_str, l_list, fits_int, fits_bool, fits_str, fits_list, fits_agg, fits_ptr, fits_clo, fits_nilp, fits_nilf, cell_int, cell_bool, cell_str, cell_list, cell_clo, cell_ptr, cell_agg, encI_def, encB_def, encS_def, i_enc, b_enc, s_enc, isInt_enc, isBool_enc, isStr_enc, fits_encI, cell_encI, fits_encB, cell_encB, fits_encS, cell_encS, isAnyInt_enc, l_enc, isList_enc, fits_encL, cell_encL, dec_int, dec_bool, dec_str, dec_encE, isE_int, isE_bool, isE_str, isE_encE, dec_list, isE_list, isE_map, map_dec_enc, ltB_true, ltB_false, leB_true, leB_false, szI, szB, szS, szL, boolE, intE, strE, listE, encE, SlE, List.length_map, List.length_append, List.length_replicate, Int.toNat_natCast, Bool.not_true, Bool.not_false, Bool.not_not, decide_true, decide_false, Bool.and_true, Bool.true_and, Bool.and_false, Bool.false_and, Bool.or_true, Bool.true_or, Bool.or_false, Bool.false_or, List.length_singleton, decide_eq_true_eq, decide_eq_false_iff_not, beq_iff_eq, beq_eq_false_iff_ne, bne_iff_ne, bne_eq_false_iff_eq, Bool.not_eq_true', Bool.not_eq_false', forall_const, true_imp_iff, false_imp_iff, if_true, if_false, reduceIte, reduceCtorEq, and_self, or_self, not_true, not_false_eq_true, List.append_nil, D.bool.injEq, D.int.injEq, D.str.injEq, D.list.injEq, D.agg.injEq, bne_self_eq_false, CV.d.injEq, CV.own.injEq, CV.tup.injEq, List.cons.injEq, List.toList_toArray, Option.some.injEq, Option.toList, List.flatMap_cons, List.flatMap_nil, Prod.mk.injEq, List.take_succ_cons, List.take_zero, List.drop_succ_cons, List.drop_zero, List.getD_nil, con0, con1, con2, con3, con2t, con3t, atHead_mk, killAll, setSlots, updAll, shut_eq, map_snoc, map_snocI, map_snocB, map_snocS, map_cat, List.not_mem_nil, false_implies, implies_true, List.mem_cons, or_false, forall_eq_or_imp, forall_eq, ne_eq, isE_int, isE_bool, isE_str, isE_list, ctx7_t, ctx7_c, ctx7_d, con10, con12, con14, con15, con23, con7, con8, con9, hm]
    repeat' (first | with_reducible assumption | with_reducible refine And.intro ?_ ?_ | intro _ | omega | (rw [inR_i64]; omega))
    refine aLoop_kill [29, 30, 31, 32, 33, 34, 35, 36, 37, 38, 39] (fun k : Nat => [(7, .sl 25 ((bad.reverse.take k).map enc).length), (8, .d (.int .i64 ((bad.length : Int) - 1 - k)))]) (fun k : Nat => [(25, .row 1 ((bad.reverse.take k).map enc) 0)]) (fun k : Nat => k ≤ bad.length) (fun k : Nat => bad.length - k) 0 ?_ ?_ ?_
    · exact Nat.zero_le _
    · (simp only [Wk, wkT, wk1, AV.kept, wkO, lk, wkObj, atHead_mk, killAll, setSlots, updAll, upd, List.set_cons_zero, List.set_cons_succ, and_true, true_and, and_self, Nat.reduceEqDiff, if_true, if_false, reduceIte, reduceCtorEq, Option.isSome]; try simp [Wk, wkT, wk1, AV.kept, wkO, lk, wkObj])
    intro k hk
    rcases leB_cases 0 ((bad.length : Int) - 1 - k) with ⟨hlt, hlb⟩ | ⟨hlt, hlb⟩
    · have hkr : bad.length - 1 - k < bad.length := by omega
      have e8 : ((bad.length : Int) - 1 - k).toNat = bad.length - 1 - k := by omega
      have e9 : bad.reverse.take (k + 1) = bad.reverse.take k ++ [bad.getD (bad.length - 1 - k) ⟨[]⟩] := by
        rw [List.take_succ_eq_append_getElem (by rw [List.length_reverse]; omega), List.getElem_reverse]
        simp [show bad.length - 1 - k < bad.length by omega]
      have hlr : (bad.reverse.take k).length = k := by rw [List.length_take, List.length_reverse]; omega
      simp (config := { maxSteps := 4000000 }) only [awp_skip, awp_region, awp_draw, awp_seq, awp_cond, awp_block, awp_loop, awp_exit, awp_ret, beginAS, beginAll, deads, List.length_cons, List.length_nil, Nat.reduceAdd, Nat.reduceSub, Nat.reduceMul, Nat.reduceMod, Nat.reduceLT, Nat.reduceLeDiff, Nat.reduceEqDiff, Nat.reduceBEq, List.cons_append, List.nil_append,     aOps, aOp, aExec, opStep, guardOf, ↓ifB_tt, ↓ifB_ff, ↓ifB_t, ↓ifB_f, ↓ifG_tt, ↓ifG_ff, ↓ifG_tf, ↓ifG_ft, ifB, ifG, and_assoc, List.getElem?_cons_zero, List.getElem?_cons_succ, AS.ev, constAV, constD, AS.put, aThen, aBlock, aDraws, Ctx.one, fpOf, opnds, keysAll, AV.keys, ownKey, makes, roOf, List.map_cons, List.map_nil, Ctx.esize, Ctx.size, Ctx.ag, TK.ag, Ctx.elemT, Ctx.fieldAt, tab3, tab4, tab22, tab23, tab33, tab37, tab42, tab51, List.getD_cons_zero, List.getD_cons_succ, List.set_cons_zero, List.set_cons_succ, true_and, and_true,     hPick, hAlloc, hLoad, hStore, hFieldAddr, hField, hIndexAddr, hIndex, hSlice, hBuildSlice, hBuild, buildGo, hMakeSlice, hSource, hAppend, hLen, hMin, hMax, hConv, hExtract, hCall, hCallV, hBin, hUn, pureOut, inArgs, outCV, outOne, outAll, mkTup, mkAgg, mkClo, allD, pur, purs, purParts, allLt, allFit, zerosD, setAll, evs, evO, evParts, lk, upd, splice, AV.cells, AV.fits, cellsFrom, Obj.isBox, D.setCell, D.asAgg, lkC, retOk, resAll, resAV, Post,     isInt_int, isBool_bool, isStr_str, isList_list, isAnyInt_int, i_int, b_bool, s_str, l_list, fits_int, fits_bool, fits_str, fits_list, fits_agg, fits_ptr, fits_clo, fits_nilp, fits_nilf, cell_int, cell_bool, cell_str, cell_list, cell_clo, cell_ptr, cell_agg, encI_def, encB_def, encS_def, i_enc, b_enc, s_enc, isInt_enc, isBool_enc, isStr_enc, fits_encI, cell_encI, fits_encB, cell_encB, fits_encS, cell_encS, isAnyInt_enc, l_enc, isList_enc, fits_encL, cell_encL, dec_int, dec_bool, dec_str, dec_encE, isE_int, isE_bool, isE_str, isE_encE, dec_list, isE_list, isE_map, map_dec_enc, ltB_true, ltB_false, leB_true, leB_false, szI, szB, szS, szL, boolE, intE, strE, listE, encE, SlE, List.length_map, List.length_append, List.length_replicate, Int.toNat_natCast, Bool.not_true, Bool.not_false, Bool.not_not, decide_true, decide_false, Bool.and_true, Bool.true_and, Bool.and_false, Bool.false_and, Bool.or_true, Bool.true_or, Bool.or_false, Bool.false_or, List.length_singleton, decide_eq_true_eq, decide_eq_false_iff_not, beq_iff_eq, beq_eq_false_iff_ne, bne_iff_ne, bne_eq_false_iff_eq, Bool.not_eq_true', Bool.not_eq_false', forall_const, true_imp_iff, false_imp_iff, if_true, if_false, reduceIte, reduceCtorEq, and_self, or_self, not_true, not_false_eq_true, List.append_nil, D.bool.injEq, D.int.injEq, D.str.injEq, D.list.injEq, D.agg.injEq, bne_self_eq_false, CV.d.injEq, CV.own.injEq, CV.tup.injEq, List.cons.injEq, List.toList_toArray, Option.some.injEq, Option.toList, List.flatMap_cons, List.flatMap_nil, Prod.mk.injEq, List.take_succ_cons, List.take_zero, List.drop_succ_cons, List.drop_zero, List.getD_nil, con0, con1, con2, con3, con2t, con3t, atHead_mk, killAll, setSlots, updAll, shut_eq, map_snoc, map_snocI, map_snocB, map_snocS, map_cat, List.not_mem_nil, false_implies, implies_true, List.mem_cons, or_false, forall_eq_or_imp, forall_eq, ne_eq, isE_int, isE_bool, isE_str, isE_list, ctx7_t, ctx7_c, ctx7_d, con10, con12, con14, con15, con23, con7, con8, con9, hlb, e8, el_map (⟨[]⟩ : Sl Int) hkr]
      repeat' (first | with_reducible assumption | with_reducible refine And.intro ?_ ?_ | intro _ | omega | (rw [inR_i64]; omega))
      have e10 : (bad.length : Int) - 1 - ((k : Int) + 1) = (bad.length : Int) - 1 - (k : Int) - 1 := by omega
      exact ⟨k + 1, by (simp only [Wk, wkT, wk1, AV.kept, wkO, lk, wkObj, atHead_mk, killAll, setSlots, updAll, upd, List.set_cons_zero, List.set_cons_succ, and_true, true_and, and_self, Nat.reduceEqDiff, if_true, if_false, reduceIte, reduceCtorEq, Option.isSome]; try simp [Wk, wkT, wk1, AV.kept, wkO, lk, wkObj, e9, e10]), by omega, by omega⟩
    · have et : bad.reverse.take k = bad.reverse := List.take_of_length_le (by rw [List.length_reverse]; omega)
      simp (config := { maxSteps := 4000000 }) only [awp_skip, awp_region, awp_draw, awp_seq, awp_cond, awp_block, awp_loop, awp_exit, awp_ret, beginAS, beginAll, deads, List.length_cons, List.length_nil, Nat.reduceAdd, Nat.reduceSub, Nat.reduceMul, Nat.reduceMod, Nat.reduceLT, Nat.reduceLeDiff, Nat.reduceEqDiff, Nat.reduceBEq, List.cons_append, List.nil_append,     aOps, aOp, aExec, opStep, guardOf, ↓ifB_tt, ↓ifB_ff, ↓ifB_t, ↓ifB_f, ↓ifG_tt, ↓ifG_ff, ↓ifG_tf, ↓ifG_ft, ifB, ifG, and_assoc, List.getElem?_cons_zero, List.getElem?_cons_succ, AS.ev, constAV, constD, AS.put, aThen, aBlock, aDraws, Ctx.one, fpOf, opnds, keysAll, AV.keys, ownKey, makes, roOf, List.map_cons, List.map_nil, Ctx.esize, Ctx.size, Ctx.ag, TK.ag, Ctx.elemT, Ctx.fieldAt, tab3, tab4, tab22, tab23, tab33, tab37, tab42, tab51, List.getD_cons_zero, List.getD_cons_succ, List.set_cons_zero, List.set_cons_succ, true_and, and_true,     hPick, hAlloc, hLoad, hStore, hFieldAddr, hField, hIndexAddr, hIndex, hSlice, hBuildSlice, hBuild, buildGo, hMakeSlice, hSource, hAppend, hLen, hMin, hMax, hConv, hExtract, hCall, hCallV, hBin, hUn, pureOut, inArgs, outCV, outOne, outAll, mkTup, mkAgg, mkClo, allD, pur, purs, purParts, allLt, allFit, zerosD, setAll, evs, evO, evParts, lk, upd, splice, AV.cells, AV.fits, cellsFrom, Obj.isBox, D.setCell, D.asAgg, lkC, retOk, resAll, resAV, Post,     isInt_int, isBool_bool, isStr_str, isList_list, isAnyInt_int, i_int, b_bool, s_str, l_list, fits_int, fits_bool, fits_str, fits_list, fits_agg, fits_ptr, fits_clo, fits_nilp, fits_nilf, cell_int, cell_bool, cell_str, cell_list, cell_clo, cell_ptr, cell_agg, encI_def, encB_def, encS_def, i_enc, b_enc, s_enc, isInt_enc, isBool_enc, isStr_enc, fits_encI, cell_encI, fits_encB, cell_encB, fits_encS, cell_encS, isAnyInt_enc, l_enc, isList_enc, fits_encL, cell_encL, dec_int, dec_bool, dec_str, dec_encE, isE_int, isE_bool, isE_str, isE_encE, dec_list, isE_list, isE_map, map_dec_enc, ltB_true, ltB_false, leB_true, leB_false, szI, szB, szS, szL, boolE, intE, strE, listE, encE, SlE, List.length_map, List.length_append, List.length_replicate, Int.toNat_natCast, Bool.not_true, Bool.not_false, Bool.not_not, decide_true, decide_false, Bool.and_true, Bool.true_and, Bool.and_false, Bool.false_and, Bool.or_true, Bool.true_or, Bool.or_false, Bool.false_or, List.length_singleton, decide_eq_true_eq, decide_eq_false_iff_not, beq_iff_eq, beq_eq_false_iff_ne, bne_iff_ne, bne_eq_false_iff_eq, Bool.not_eq_true', Bool.not_eq_false', forall_const, true_imp_iff, false_imp_iff, if_true, if_false, reduceIte, reduceCtorEq, and_self, or_self, not_true, not_false_eq_true, List.append_nil, D.bool.injEq, D.int.injEq, D.str.injEq, D.list.injEq, D.agg.injEq, bne_self_eq_false, CV.d.injEq, CV.own.injEq, CV.tup.injEq, List.cons.injEq, List.toList_toArray, Option.some.injEq, Option.toList, List.flatMap_cons, List.flatMap_nil, Prod.mk.injEq, List.take_succ_cons, List.take_zero, List.drop_succ_cons, List.drop_zero, List.getD_nil, con0, con1, con2, con3, con2t, con3t, atHead_mk, killAll, setSlots, updAll, shut_eq, map_snoc, map_snocI, map_snocB, map_snocS, map_cat, List.not_mem_nil, false_implies, implies_true, List.mem_cons, or_false, forall_eq_or_imp, forall_eq, ne_eq, isE_int, isE_bool, isE_str, isE_list, ctx7_t, ctx7_c, ctx7_d, con10, con12, con14, con15, con23, con7, con8, con9, hlb, et, e1, e2, e3, e4, e5, e6, e7, beq_self_eq_true, hEa, hEp', hCE]
      repeat' (first | with_reducible assumption | with_reducible refine And.intro ?_ ?_ | intro _ | omega | (rw [inR_i64]; omega))
      rename_i hu
      exact hCf hu

end Go.Am.Core
