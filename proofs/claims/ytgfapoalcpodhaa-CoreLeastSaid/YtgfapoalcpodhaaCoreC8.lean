/- Contracts of functions that the laws of core reach, and plain laws of sets. Conditions: those that each contract states. -/
import Derived.Test.YtgfapoalcpodhaaCoreC7
set_option linter.unusedSimpArgs false
set_option linter.unusedVariables false
set_option maxHeartbeats 1000000
namespace Go.Am.Core
open Go.Proofs
open Enc (enc dec)

/-! ### core.without -/
def cut (l : List Int) (i : Int) : List Int := l.take i.toNat ++ l.drop (i.toNat + 1)
def con28 : Con := con2 (fun (s : Sl Int) (i : Int) => s.l.length ≤ 1048576 ∧ 0 ≤ i ∧ i < s.l.length) (fun s i => Sl.mk (cut s.l i))
def ctx28 : Ctx := ⟨tab, lkC [(27, con27), (37, con37)], 60⟩
theorem ctx28_t : ctx28.τ = tab := rfl
theorem ctx28_c : ctx28.Γ = lkC [(27, con27), (37, con37)] := rfl
theorem ctx28_d : ctx28.dp = 60 := rfl
theorem good28 : Good Try.prog (28, con28) := by
  refine ⟨enters_of Try.func28 (by kernel_rfl) rfl, ?_⟩
  have K : CtxOk Try.prog ctx28 := ctxOk_of tabOk mixedOk (by
    intro p hp
    simp only [List.mem_cons, List.not_mem_nil, or_false] at hp
    rcases hp with rfl | rfl
    · exact good27
    · exact good37)
  obtain ⟨c, hc⟩ : ∃ c, Try.f28.body = some c := ⟨_, rfl⟩
  refine fn_sound K Try.func28 hc [.tmp 4] rfl 11 rfl (fun cvs hpre => ?_)
  change con28.pre cvs at hpre
  unfold con28 at hpre
  obtain ⟨⟨s⟩, i, rfl, hs, hi0, hi1⟩ := con2_pre hpre
  simp only at hs hi0 hi1
  simp only [Try.f28, Option.some.injEq] at hc
  subst hc
  simp (config := { maxSteps := 2000000 }) only [awp_skip, awp_region, awp_draw, awp_seq, awp_cond, awp_block, awp_loop, awp_exit, awp_ret, beginAS, beginAll, deads, List.length_cons, List.length_nil, Nat.reduceAdd, Nat.reduceSub, Nat.reduceMul, Nat.reduceMod, Nat.reduceLT, Nat.reduceLeDiff, Nat.reduceEqDiff, Nat.reduceBEq, List.cons_append, List.nil_append,
    aOps, aOp, aExec, opStep, guardOf, ↓ifB_tt, ↓ifB_ff, ↓ifB_t, ↓ifB_f, ↓ifG_tt, ↓ifG_ff, ↓ifG_tf, ↓ifG_ft, ifB, ifG, and_assoc, List.getElem?_cons_zero, List.getElem?_cons_succ, AS.ev, constAV, constD, AS.put, aThen, aBlock, aDraws, Ctx.one, fpOf, opnds, keysAll, AV.keys, ownKey, makes, roOf, List.map_cons, List.map_nil, Ctx.esize, Ctx.size, Ctx.ag, TK.ag, Ctx.elemT, Ctx.fieldAt, tab3, tab4, tab22, tab23, tab33, tab37, tab42, tab51, List.getD_cons_zero, List.getD_cons_succ, List.set_cons_zero, List.set_cons_succ, true_and, and_true,
    hPick, hAlloc, hLoad, hStore, hFieldAddr, hField, hIndexAddr, hIndex, hSlice, hBuildSlice, hBuild, buildGo, hMakeSlice, hSource, hAppend, hLen, hMin, hMax, hConv, hExtract, hCall, hCallV, hBin, hUn, pureOut, inArgs, outCV, outOne, outAll, mkTup, mkAgg, mkClo, allD, pur, purs, purParts, allLt, allFit, zerosD, setAll, evs, evO, evParts, lk, upd, splice, AV.cells, AV.fits, cellsFrom, Obj.isBox, D.setCell, D.asAgg, lkC, retOk, resAll, resAV, Post,
    isInt_int, isBool_bool, isStr_str, isList_list, isAnyInt_int, i_int, b_bool, s_str, l_list, fits_int, fits_bool, fits_str, fits_list, fits_agg, fits_ptr, fits_clo, fits_nilp, fits_nilf, cell_int, cell_bool, cell_str, cell_list, cell_clo, cell_ptr, cell_agg, encI_def, encB_def, encS_def, i_enc, b_enc, s_enc, isInt_enc, isBool_enc, isStr_enc, fits_encI, cell_encI, fits_encB, cell_encB, fits_encS, cell_encS, isAnyInt_enc, l_enc, isList_enc, fits_encL, cell_encL, dec_int, dec_bool, dec_str, dec_encE, isE_int, isE_bool, isE_str, isE_encE, dec_list, isE_list, isE_map, map_dec_enc, ltB_true, ltB_false, leB_true, leB_false, szI, szB, szS, szL, boolE, intE, strE, listE, encE, SlE, List.length_map, List.length_append, List.length_replicate, Int.toNat_natCast, Bool.not_true, Bool.not_false, Bool.not_not, decide_true, decide_false, Bool.and_true, Bool.true_and, Bool.and_false, Bool.false_and, Bool.or_true, Bool.true_or, Bool.or_false, Bool.false_or, List.length_singleton, decide_eq_true_eq, decide_eq_false_iff_not, beq_iff_eq, beq_eq_false_iff_ne, bne_iff_ne, bne_eq_false_iff_eq, Bool.not_eq_true', Bool.not_eq_false', forall_const, true_imp_iff, false_imp_iff, if_true, if_false, reduceIte, reduceCtorEq, and_self, or_self, not_true, not_false_eq_true, List.append_nil, D.bool.injEq, D.int.injEq, D.str.injEq, D.list.injEq, D.agg.injEq, bne_self_eq_false, CV.d.injEq, CV.own.injEq, CV.tup.injEq, List.cons.injEq, List.toList_toArray, Option.some.injEq, Option.toList, List.flatMap_cons, List.flatMap_nil, Prod.mk.injEq, List.take_succ_cons, List.take_zero, List.drop_succ_cons, List.drop_zero, List.getD_nil, con0, con1, con2, con3, con2t, con3t, ctx28_t, ctx28_c, ctx28_d, con28, con27, con37]
  refine ⟨hs, by rw [inR_i64]; omega, ⟨s, i.toNat, i.toNat + 1, rfl, by omega, by omega, by omega, by omega⟩, ?_⟩
  unfold cut
  rw [show (i + 1).toNat = i.toNat + 1 by omega]
  simp [List.map_take, List.map_drop]

/-! ### core.with -/
def put (l : List Int) (n : Int) : List Int := l.take (less l n) ++ [n] ++ l.drop (less l n)
def withC (l : List Int) (n : Int) : Sl Int × Bool := if l.contains n = true then (⟨l⟩, false) else (⟨put l n⟩, true)
theorem less_le (l : List Int) (n : Int) : less l n ≤ l.length := List.countP_le_length
def con29 : Con := con2t (fun (s : Sl Int) (_ : Int) => s.l.length ≤ 1048576 ∧ Sorted s.l) (fun s n => withC s.l n)
def ctx29 : Ctx := ⟨tab, lkC [(27, con27), (38, con38), (39, con39)], 60⟩
theorem ctx29_t : ctx29.τ = tab := rfl
theorem ctx29_c : ctx29.Γ = lkC [(27, con27), (38, con38), (39, con39)] := rfl
theorem ctx29_d : ctx29.dp = 60 := rfl
theorem good29 : Good Try.prog (29, con29) := by
  refine ⟨enters_of Try.func29 (by kernel_rfl) rfl, ?_⟩
  have K : CtxOk Try.prog ctx29 := ctxOk_of tabOk mixedOk (by
    intro p hp
    simp only [List.mem_cons, List.not_mem_nil, or_false] at hp
    rcases hp with rfl | rfl | rfl
    · exact good27
    · exact good38
    · exact good39)
  obtain ⟨c, hc⟩ : ∃ c, Try.f29.body = some c := ⟨_, rfl⟩
  refine fn_sound K Try.func29 hc [.tmp 4, .tmp 5] rfl 22 rfl (fun cvs hpre => ?_)
  change con29.pre cvs at hpre
  unfold con29 at hpre
  obtain ⟨⟨s⟩, n, rfl, hs, hss⟩ := con2t_pre hpre
  simp only at hs hss
  simp only [Try.f29, Option.some.injEq] at hc
  subst hc
  simp (config := { maxSteps := 2000000 }) only [awp_skip, awp_region, awp_draw, awp_seq, awp_cond, awp_block, awp_loop, awp_exit, awp_ret, beginAS, beginAll, deads, List.length_cons, List.length_nil, Nat.reduceAdd, Nat.reduceSub, Nat.reduceMul, Nat.reduceMod, Nat.reduceLT, Nat.reduceLeDiff, Nat.reduceEqDiff, Nat.reduceBEq, List.cons_append, List.nil_append,
    aOps, aOp, aExec, opStep, guardOf, ↓ifB_tt, ↓ifB_ff, ↓ifB_t, ↓ifB_f, ↓ifG_tt, ↓ifG_ff, ↓ifG_tf, ↓ifG_ft, ifB, ifG, and_assoc, List.getElem?_cons_zero, List.getElem?_cons_succ, AS.ev, constAV, constD, AS.put, aThen, aBlock, aDraws, Ctx.one, fpOf, opnds, keysAll, AV.keys, ownKey, makes, roOf, List.map_cons, List.map_nil, Ctx.esize, Ctx.size, Ctx.ag, TK.ag, Ctx.elemT, Ctx.fieldAt, tab3, tab4, tab22, tab23, tab33, tab37, tab42, tab51, List.getD_cons_zero, List.getD_cons_succ, List.set_cons_zero, List.set_cons_succ, true_and, and_true,
    hPick, hAlloc, hLoad, hStore, hFieldAddr, hField, hIndexAddr, hIndex, hSlice, hBuildSlice, hBuild, buildGo, hMakeSlice, hSource, hAppend, hLen, hMin, hMax, hConv, hExtract, hCall, hCallV, hBin, hUn, pureOut, inArgs, outCV, outOne, outAll, mkTup, mkAgg, mkClo, allD, pur, purs, purParts, allLt, allFit, zerosD, setAll, evs, evO, evParts, lk, upd, splice, AV.cells, AV.fits, cellsFrom, Obj.isBox, D.setCell, D.asAgg, lkC, retOk, resAll, resAV, Post,
    isInt_int, isBool_bool, isStr_str, isList_list, isAnyInt_int, i_int, b_bool, s_str, l_list, fits_int, fits_bool, fits_str, fits_list, fits_agg, fits_ptr, fits_clo, fits_nilp, fits_nilf, cell_int, cell_bool, cell_str, cell_list, cell_clo, cell_ptr, cell_agg, encI_def, encB_def, encS_def, i_enc, b_enc, s_enc, isInt_enc, isBool_enc, isStr_enc, fits_encI, cell_encI, fits_encB, cell_encB, fits_encS, cell_encS, isAnyInt_enc, l_enc, isList_enc, fits_encL, cell_encL, dec_int, dec_bool, dec_str, dec_encE, isE_int, isE_bool, isE_str, isE_encE, dec_list, isE_list, isE_map, map_dec_enc, ltB_true, ltB_false, leB_true, leB_false, szI, szB, szS, szL, boolE, intE, strE, listE, encE, SlE, List.length_map, List.length_append, List.length_replicate, Int.toNat_natCast, Bool.not_true, Bool.not_false, Bool.not_not, decide_true, decide_false, Bool.and_true, Bool.true_and, Bool.and_false, Bool.false_and, Bool.or_true, Bool.true_or, Bool.or_false, Bool.false_or, List.length_singleton, decide_eq_true_eq, decide_eq_false_iff_not, beq_iff_eq, beq_eq_false_iff_ne, bne_iff_ne, bne_eq_false_iff_eq, Bool.not_eq_true', Bool.not_eq_false', forall_const, true_imp_iff, false_imp_iff, if_true, if_false, reduceIte, reduceCtorEq, and_self, or_self, not_true, not_false_eq_true, List.append_nil, D.bool.injEq, D.int.injEq, D.str.injEq, D.list.injEq, D.agg.injEq, bne_self_eq_false, CV.d.injEq, CV.own.injEq, CV.tup.injEq, List.cons.injEq, List.toList_toArray, Option.some.injEq, Option.toList, List.flatMap_cons, List.flatMap_nil, Prod.mk.injEq, List.take_succ_cons, List.take_zero, List.drop_succ_cons, List.drop_zero, List.getD_nil, con0, con1, con2, con3, con2t, con3t, ctx29_t, ctx29_c, ctx29_d, con29, con27, con38, con39]
  have h1 := less_le s n
  refine ⟨hs, hss, fun hc => ?_, fun hc => ⟨hs, ⟨s, less s n, n, rfl, rfl, rfl, h1, hs⟩, ?_⟩⟩
  · unfold withC
    rw [if_pos hc]
    exact ⟨rfl, rfl⟩
  · unfold withC
    rw [if_neg (by rw [hc]; exact Bool.false_ne_true)]
    refine ⟨?_, rfl⟩
    simp [put, List.map_take, List.map_drop]

end Go.Am.Core
