/- Contracts of functions that the laws of core reach, and plain laws of sets. Conditions: those that each contract states. -/
import Derived.Test.YtgfapoalcpodhaaCoreC2
set_option linter.unusedSimpArgs false
set_option linter.unusedVariables false
set_option maxHeartbeats 1000000
namespace Go.Am.Core
open Go.Proofs
open Enc (enc dec)

/-! ### slices.BinarySearch -/
def con46 : Con := con1 (fun (_ : Int) => True) (fun _ => false)
def ctx46 : Ctx := ⟨tab, lkC [], 60⟩
theorem ctx46_t : ctx46.τ = tab := rfl
theorem ctx46_c : ctx46.Γ = lkC [] := rfl
theorem ctx46_d : ctx46.dp = 60 := rfl
theorem good46 : Good Try.prog (46, con46) := by
  refine ⟨enters_of Try.func46 (by kernel_rfl) rfl, ?_⟩
  have K : CtxOk Try.prog ctx46 := ctxOk_of tabOk mixedOk (by simp)
  obtain ⟨c, hc⟩ : ∃ c, Try.f46.body = some c := ⟨_, rfl⟩
  refine fn_sound K Try.func46 hc [.tmp 2] rfl 6 rfl (fun cvs hpre => ?_)
  change con46.pre cvs at hpre
  unfold con46 at hpre
  obtain ⟨x, rfl, -⟩ := con1_pre hpre
  simp only [Try.f46, Option.some.injEq] at hc
  subst hc
  simp (config := { maxSteps := 2000000 }) only [awp_skip, awp_region, awp_draw, awp_seq, awp_cond, awp_block, awp_loop, awp_exit, awp_ret, beginAS, beginAll, deads, List.length_cons, List.length_nil, Nat.reduceAdd, Nat.reduceSub, Nat.reduceMul, Nat.reduceMod, Nat.reduceLT, Nat.reduceLeDiff, Nat.reduceEqDiff, Nat.reduceBEq, List.cons_append, List.nil_append,
    aOps, aOp, aExec, opStep, guardOf, ↓ifB_tt, ↓ifB_ff, ↓ifB_t, ↓ifB_f, ↓ifG_tt, ↓ifG_ff, ↓ifG_tf, ↓ifG_ft, ifB, ifG, and_assoc, List.getElem?_cons_zero, List.getElem?_cons_succ, AS.ev, constAV, constD, AS.put, aThen, aBlock, aDraws, Ctx.one, fpOf, opnds, keysAll, AV.keys, ownKey, makes, roOf, List.map_cons, List.map_nil, Ctx.esize, Ctx.size, Ctx.ag, TK.ag, Ctx.elemT, Ctx.fieldAt, tab3, tab4, tab22, tab23, tab33, tab37, tab42, tab51, List.getD_cons_zero, List.getD_cons_succ, List.set_cons_zero, List.set_cons_succ, true_and, and_true,
    hPick, hAlloc, hLoad, hStore, hFieldAddr, hField, hIndexAddr, hIndex, hSlice, hBuildSlice, hBuild, buildGo, hMakeSlice, hSource, hAppend, hLen, hMin, hMax, hConv, hExtract, hCall, hCallV, hBin, hUn, pureOut, inArgs, outCV, outOne, outAll, mkTup, mkAgg, mkClo, allD, pur, purs, purParts, allLt, allFit, zerosD, setAll, evs, evO, evParts, lk, upd, splice, AV.cells, AV.fits, cellsFrom, Obj.isBox, D.setCell, D.asAgg, lkC, retOk, resAll, resAV, Post,
    isInt_int, isBool_bool, isStr_str, isList_list, isAnyInt_int, i_int, b_bool, s_str, l_list, fits_int, fits_bool, fits_str, fits_list, fits_agg, fits_ptr, fits_clo, fits_nilp, fits_nilf, cell_int, cell_bool, cell_str, cell_list, cell_clo, cell_ptr, cell_agg, encI_def, encB_def, encS_def, i_enc, b_enc, s_enc, isInt_enc, isBool_enc, isStr_enc, fits_encI, cell_encI, fits_encB, cell_encB, fits_encS, cell_encS, isAnyInt_enc, l_enc, isList_enc, fits_encL, cell_encL, dec_int, dec_bool, dec_str, dec_encE, isE_int, isE_bool, isE_str, isE_encE, dec_list, isE_list, isE_map, map_dec_enc, ltB_true, ltB_false, leB_true, leB_false, szI, szB, szS, szL, boolE, intE, strE, listE, encE, SlE, List.length_map, List.length_append, List.length_replicate, Int.toNat_natCast, Bool.not_true, Bool.not_false, Bool.not_not, decide_true, decide_false, Bool.and_true, Bool.true_and, Bool.and_false, Bool.false_and, Bool.or_true, Bool.true_or, Bool.or_false, Bool.false_or, List.length_singleton, decide_eq_true_eq, decide_eq_false_iff_not, beq_iff_eq, beq_eq_false_iff_ne, bne_iff_ne, bne_eq_false_iff_eq, Bool.not_eq_true', Bool.not_eq_false', forall_const, true_imp_iff, false_imp_iff, if_true, if_false, reduceIte, reduceCtorEq, and_self, or_self, not_true, not_false_eq_true, List.append_nil, D.bool.injEq, D.int.injEq, D.str.injEq, D.list.injEq, D.agg.injEq, bne_self_eq_false, CV.d.injEq, CV.own.injEq, CV.tup.injEq, List.cons.injEq, List.toList_toArray, Option.some.injEq, Option.toList, List.flatMap_cons, List.flatMap_nil, Prod.mk.injEq, List.take_succ_cons, List.take_zero, List.drop_succ_cons, List.drop_zero, List.getD_nil, con0, con1, con2, con3, con2t, con3t, ctx46_t, ctx46_c, ctx46_d, con46]
def con43 : Con := con1 (fun (_ : Int) => True) (fun _ => false)
def ctx43 : Ctx := ⟨tab, lkC [], 60⟩
theorem ctx43_t : ctx43.τ = tab := rfl
theorem ctx43_c : ctx43.Γ = lkC [] := rfl
theorem ctx43_d : ctx43.dp = 60 := rfl
theorem good43 : Good Try.prog (43, con43) := by
  refine ⟨enters_of Try.func43 (by kernel_rfl) rfl, ?_⟩
  have K : CtxOk Try.prog ctx43 := ctxOk_of tabOk mixedOk (by simp)
  obtain ⟨c, hc⟩ : ∃ c, Try.f43.body = some c := ⟨_, rfl⟩
  refine fn_sound K Try.func43 hc [.tmp 2] rfl 6 rfl (fun cvs hpre => ?_)
  change con43.pre cvs at hpre
  unfold con43 at hpre
  obtain ⟨x, rfl, -⟩ := con1_pre hpre
  simp only [Try.f43, Option.some.injEq] at hc
  subst hc
  simp (config := { maxSteps := 2000000 }) only [awp_skip, awp_region, awp_draw, awp_seq, awp_cond, awp_block, awp_loop, awp_exit, awp_ret, beginAS, beginAll, deads, List.length_cons, List.length_nil, Nat.reduceAdd, Nat.reduceSub, Nat.reduceMul, Nat.reduceMod, Nat.reduceLT, Nat.reduceLeDiff, Nat.reduceEqDiff, Nat.reduceBEq, List.cons_append, List.nil_append,
    aOps, aOp, aExec, opStep, guardOf, ↓ifB_tt, ↓ifB_ff, ↓ifB_t, ↓ifB_f, ↓ifG_tt, ↓ifG_ff, ↓ifG_tf, ↓ifG_ft, ifB, ifG, and_assoc, List.getElem?_cons_zero, List.getElem?_cons_succ, AS.ev, constAV, constD, AS.put, aThen, aBlock, aDraws, Ctx.one, fpOf, opnds, keysAll, AV.keys, ownKey, makes, roOf, List.map_cons, List.map_nil, Ctx.esize, Ctx.size, Ctx.ag, TK.ag, Ctx.elemT, Ctx.fieldAt, tab3, tab4, tab22, tab23, tab33, tab37, tab42, tab51, List.getD_cons_zero, List.getD_cons_succ, List.set_cons_zero, List.set_cons_succ, true_and, and_true,
    hPick, hAlloc, hLoad, hStore, hFieldAddr, hField, hIndexAddr, hIndex, hSlice, hBuildSlice, hBuild, buildGo, hMakeSlice, hSource, hAppend, hLen, hMin, hMax, hConv, hExtract, hCall, hCallV, hBin, hUn, pureOut, inArgs, outCV, outOne, outAll, mkTup, mkAgg, mkClo, allD, pur, purs, purParts, allLt, allFit, zerosD, setAll, evs, evO, evParts, lk, upd, splice, AV.cells, AV.fits, cellsFrom, Obj.isBox, D.setCell, D.asAgg, lkC, retOk, resAll, resAV, Post,
    isInt_int, isBool_bool, isStr_str, isList_list, isAnyInt_int, i_int, b_bool, s_str, l_list, fits_int, fits_bool, fits_str, fits_list, fits_agg, fits_ptr, fits_clo, fits_nilp, fits_nilf, cell_int, cell_bool, cell_str, cell_list, cell_clo, cell_ptr, cell_agg, encI_def, encB_def, encS_def, i_enc, b_enc, s_enc, isInt_enc, isBool_enc, isStr_enc, fits_encI, cell_encI, fits_encB, cell_encB, fits_encS, cell_encS, isAnyInt_enc, l_enc, isList_enc, fits_encL, cell_encL, dec_int, dec_bool, dec_str, dec_encE, isE_int, isE_bool, isE_str, isE_encE, dec_list, isE_list, isE_map, map_dec_enc, ltB_true, ltB_false, leB_true, leB_false, szI, szB, szS, szL, boolE, intE, strE, listE, encE, SlE, List.length_map, List.length_append, List.length_replicate, Int.toNat_natCast, Bool.not_true, Bool.not_false, Bool.not_not, decide_true, decide_false, Bool.and_true, Bool.true_and, Bool.and_false, Bool.false_and, Bool.or_true, Bool.true_or, Bool.or_false, Bool.false_or, List.length_singleton, decide_eq_true_eq, decide_eq_false_iff_not, beq_iff_eq, beq_eq_false_iff_ne, bne_iff_ne, bne_eq_false_iff_eq, Bool.not_eq_true', Bool.not_eq_false', forall_const, true_imp_iff, false_imp_iff, if_true, if_false, reduceIte, reduceCtorEq, and_self, or_self, not_true, not_false_eq_true, List.append_nil, D.bool.injEq, D.int.injEq, D.str.injEq, D.list.injEq, D.agg.injEq, bne_self_eq_false, CV.d.injEq, CV.own.injEq, CV.tup.injEq, List.cons.injEq, List.toList_toArray, Option.some.injEq, Option.toList, List.flatMap_cons, List.flatMap_nil, Prod.mk.injEq, List.take_succ_cons, List.take_zero, List.drop_succ_cons, List.drop_zero, List.getD_nil, con0, con1, con2, con3, con2t, con3t, ctx43_t, ctx43_c, ctx43_d, con43]
def con42 : Con := con2 (fun (_ _ : Int) => True) (fun x y => ltB x y)
def ctx42 : Ctx := ⟨tab, lkC [(46, con46)], 60⟩
theorem ctx42_t : ctx42.τ = tab := rfl
theorem ctx42_c : ctx42.Γ = lkC [(46, con46)] := rfl
theorem ctx42_d : ctx42.dp = 60 := rfl
theorem good42 : Good Try.prog (42, con42) := by
  refine ⟨enters_of Try.func42 (by kernel_rfl) rfl, ?_⟩
  have K : CtxOk Try.prog ctx42 := ctxOk_of tabOk mixedOk (by
    intro p hp
    simp only [List.mem_cons, List.not_mem_nil, or_false] at hp
    rcases hp with rfl
    · exact good46)
  obtain ⟨c, hc⟩ : ∃ c, Try.f42.body = some c := ⟨_, rfl⟩
  refine fn_sound K Try.func42 hc [.tmp 4] rfl 17 rfl (fun cvs hpre => ?_)
  change con42.pre cvs at hpre
  unfold con42 at hpre
  obtain ⟨x, y, rfl, -⟩ := con2_pre hpre
  simp only [Try.f42, Option.some.injEq] at hc
  subst hc
  simp (config := { maxSteps := 2000000 }) only [awp_skip, awp_region, awp_draw, awp_seq, awp_cond, awp_block, awp_loop, awp_exit, awp_ret, beginAS, beginAll, deads, List.length_cons, List.length_nil, Nat.reduceAdd, Nat.reduceSub, Nat.reduceMul, Nat.reduceMod, Nat.reduceLT, Nat.reduceLeDiff, Nat.reduceEqDiff, Nat.reduceBEq, List.cons_append, List.nil_append,
    aOps, aOp, aExec, opStep, guardOf, ↓ifB_tt, ↓ifB_ff, ↓ifB_t, ↓ifB_f, ↓ifG_tt, ↓ifG_ff, ↓ifG_tf, ↓ifG_ft, ifB, ifG, and_assoc, List.getElem?_cons_zero, List.getElem?_cons_succ, AS.ev, constAV, constD, AS.put, aThen, aBlock, aDraws, Ctx.one, fpOf, opnds, keysAll, AV.keys, ownKey, makes, roOf, List.map_cons, List.map_nil, Ctx.esize, Ctx.size, Ctx.ag, TK.ag, Ctx.elemT, Ctx.fieldAt, tab3, tab4, tab22, tab23, tab33, tab37, tab42, tab51, List.getD_cons_zero, List.getD_cons_succ, List.set_cons_zero, List.set_cons_succ, true_and, and_true,
    hPick, hAlloc, hLoad, hStore, hFieldAddr, hField, hIndexAddr, hIndex, hSlice, hBuildSlice, hBuild, buildGo, hMakeSlice, hSource, hAppend, hLen, hMin, hMax, hConv, hExtract, hCall, hCallV, hBin, hUn, pureOut, inArgs, outCV, outOne, outAll, mkTup, mkAgg, mkClo, allD, pur, purs, purParts, allLt, allFit, zerosD, setAll, evs, evO, evParts, lk, upd, splice, AV.cells, AV.fits, cellsFrom, Obj.isBox, D.setCell, D.asAgg, lkC, retOk, resAll, resAV, Post,
    isInt_int, isBool_bool, isStr_str, isList_list, isAnyInt_int, i_int, b_bool, s_str, l_list, fits_int, fits_bool, fits_str, fits_list, fits_agg, fits_ptr, fits_clo, fits_nilp, fits_nilf, cell_int, cell_bool, cell_str, cell_list, cell_clo, cell_ptr, cell_agg, encI_def, encB_def, encS_def, i_enc, b_enc, s_enc, isInt_enc, isBool_enc, isStr_enc, fits_encI, cell_encI, fits_encB, cell_encB, fits_encS, cell_encS, isAnyInt_enc, l_enc, isList_enc, fits_encL, cell_encL, dec_int, dec_bool, dec_str, dec_encE, isE_int, isE_bool, isE_str, isE_encE, dec_list, isE_list, isE_map, map_dec_enc, ltB_true, ltB_false, leB_true, leB_false, szI, szB, szS, szL, boolE, intE, strE, listE, encE, SlE, List.length_map, List.length_append, List.length_replicate, Int.toNat_natCast, Bool.not_true, Bool.not_false, Bool.not_not, decide_true, decide_false, Bool.and_true, Bool.true_and, Bool.and_false, Bool.false_and, Bool.or_true, Bool.true_or, Bool.or_false, Bool.false_or, List.length_singleton, decide_eq_true_eq, decide_eq_false_iff_not, beq_iff_eq, beq_eq_false_iff_ne, bne_iff_ne, bne_eq_false_iff_eq, Bool.not_eq_true', Bool.not_eq_false', forall_const, true_imp_iff, false_imp_iff, if_true, if_false, reduceIte, reduceCtorEq, and_self, or_self, not_true, not_false_eq_true, List.append_nil, D.bool.injEq, D.int.injEq, D.str.injEq, D.list.injEq, D.agg.injEq, bne_self_eq_false, CV.d.injEq, CV.own.injEq, CV.tup.injEq, List.cons.injEq, List.toList_toArray, Option.some.injEq, Option.toList, List.flatMap_cons, List.flatMap_nil, Prod.mk.injEq, List.take_succ_cons, List.take_zero, List.drop_succ_cons, List.drop_zero, List.getD_nil, con0, con1, con2, con3, con2t, con3t, ctx42_t, ctx42_c, ctx42_d, con42, con46]
theorem countP_at {l : List Int} {x : Int} {k : Nat} (hk : k ≤ l.length) (h1 : ∀ j, j < k → l.getD j 0 < x) (h2 : ∀ j, k ≤ j → j < l.length → x ≤ l.getD j 0) : l.countP (fun y => decide (y < x)) = k := by
  rw [← List.take_append_drop k l, List.countP_append]
  have e1 : (l.take k).countP (fun y => decide (y < x)) = (l.take k).length := by
    rw [List.countP_eq_length]
    intro a ha
    obtain ⟨j, hj, rfl⟩ := List.getElem_of_mem ha
    have hj' : j < k := by rw [List.length_take] at hj; omega
    have := h1 j hj'
    simpa [show j < l.length by omega] using this
  have e2 : (l.drop k).countP (fun y => decide (y < x)) = 0 := by
    rw [List.countP_eq_zero]
    intro a ha
    obtain ⟨j, hj, rfl⟩ := List.getElem_of_mem ha
    have hj' : k + j < l.length := by rw [List.length_drop] at hj; omega
    have := h2 (k + j) (by omega) hj'
    simpa [hj'] using this
  rw [e1, e2, List.length_take]
  omega
theorem contains_at {l : List Int} {x : Int} {k : Nat} (h1 : ∀ j, j < k → l.getD j 0 < x) (h2 : ∀ j, k ≤ j → j < l.length → x ≤ l.getD j 0) (hs : l.Pairwise (· < ·)) : l.contains x = (decide (k < l.length) && l.getD k 0 == x) := by
  by_cases hk : k < l.length
  · by_cases hx : l.getD k 0 = x
    · rw [hx]
      simp only [hk, decide_true, beq_self_eq_true, Bool.and_self]
      rw [List.contains_iff_mem, ← hx]
      simp [hk]
    · have : (l.getD k 0 == x) = false := by simpa using hx
      rw [this, Bool.and_false, Bool.eq_false_iff]
      intro hc
      rw [List.contains_iff_mem] at hc
      obtain ⟨j, hj, hjx⟩ := List.getElem_of_mem hc
      have hjd : l.getD j 0 = x := by simpa [hj] using hjx
      rcases Nat.lt_trichotomy j k with h | h | h
      · have := h1 j h; omega
      · subst h; exact hx hjd
      · have h3 := List.pairwise_iff_getElem.1 hs k j hk hj h
        have h4 := h2 k (Nat.le_refl _) hk
        have : l.getD k 0 < l.getD j 0 := by simpa [hk, hj] using h3
        omega
  · rw [decide_eq_false hk, Bool.false_and, Bool.eq_false_iff]
    intro hc
    rw [List.contains_iff_mem] at hc
    obtain ⟨j, hj, hjx⟩ := List.getElem_of_mem hc
    have hjd : l.getD j 0 = x := by simpa [hj] using hjx
    have := h1 j (by omega)
    omega
def less (l : List Int) (x : Int) : Nat := l.countP fun y => decide (y < x)
def Sorted (l : List Int) : Prop := l.Pairwise (· < ·)
def con38 : Con := con2t (fun (l : Sl Int) (_ : Int) => l.l.length ≤ 1048576 ∧ Sorted l.l) (fun l x => ((less l.l x : Int), l.l.contains x))
def ctx38 : Ctx := ⟨tab, lkC [(42, con42), (43, con43)], 60⟩
theorem ctx38_t : ctx38.τ = tab := rfl
theorem ctx38_c : ctx38.Γ = lkC [(42, con42), (43, con43)] := rfl
theorem ctx38_d : ctx38.dp = 60 := rfl
theorem good38 : Good Try.prog (38, con38) := by
  refine ⟨enters_of Try.func38 (by kernel_rfl) rfl, ?_⟩
  have K : CtxOk Try.prog ctx38 := ctxOk_of tabOk mixedOk (by
    intro p hp
    simp only [List.mem_cons, List.not_mem_nil, or_false] at hp
    rcases hp with rfl | rfl
    · exact good42
    · exact good43)
  obtain ⟨c, hc⟩ : ∃ c, Try.f38.body = some c := ⟨_, rfl⟩
  refine fn_sound K Try.func38 hc [.tmp 4, .tmp 5] rfl 54 rfl (fun cvs hpre => ?_)
  change con38.pre cvs at hpre
  unfold con38 at hpre
  obtain ⟨⟨l⟩, x, rfl, hl, hsrt⟩ := con2t_pre hpre
  simp only at hl hsrt
  simp only [Try.f38, Option.some.injEq] at hc
  subst hc
  simp (config := { maxSteps := 2000000 }) only [awp_skip, awp_region, awp_draw, awp_seq, awp_cond, awp_block, awp_loop, awp_exit, awp_ret, beginAS, beginAll, deads, List.length_cons, List.length_nil, Nat.reduceAdd, Nat.reduceSub, Nat.reduceMul, Nat.reduceMod, Nat.reduceLT, Nat.reduceLeDiff, Nat.reduceEqDiff, Nat.reduceBEq, List.cons_append, List.nil_append,
    aOps, aOp, aExec, opStep, guardOf, ↓ifB_tt, ↓ifB_ff, ↓ifB_t, ↓ifB_f, ↓ifG_tt, ↓ifG_ff, ↓ifG_tf, ↓ifG_ft, ifB, ifG, and_assoc, List.getElem?_cons_zero, List.getElem?_cons_succ, AS.ev, constAV, constD, AS.put, aThen, aBlock, aDraws, Ctx.one, fpOf, opnds, keysAll, AV.keys, ownKey, makes, roOf, List.map_cons, List.map_nil, Ctx.esize, Ctx.size, Ctx.ag, TK.ag, Ctx.elemT, Ctx.fieldAt, tab3, tab4, tab22, tab23, tab33, tab37, tab42, tab51, List.getD_cons_zero, List.getD_cons_succ, List.set_cons_zero, List.set_cons_succ, true_and, and_true,
    hPick, hAlloc, hLoad, hStore, hFieldAddr, hField, hIndexAddr, hIndex, hSlice, hBuildSlice, hBuild, buildGo, hMakeSlice, hSource, hAppend, hLen, hMin, hMax, hConv, hExtract, hCall, hCallV, hBin, hUn, pureOut, inArgs, outCV, outOne, outAll, mkTup, mkAgg, mkClo, allD, pur, purs, purParts, allLt, allFit, zerosD, setAll, evs, evO, evParts, lk, upd, splice, AV.cells, AV.fits, cellsFrom, Obj.isBox, D.setCell, D.asAgg, lkC, retOk, resAll, resAV, Post,
    isInt_int, isBool_bool, isStr_str, isList_list, isAnyInt_int, i_int, b_bool, s_str, l_list, fits_int, fits_bool, fits_str, fits_list, fits_agg, fits_ptr, fits_clo, fits_nilp, fits_nilf, cell_int, cell_bool, cell_str, cell_list, cell_clo, cell_ptr, cell_agg, encI_def, encB_def, encS_def, i_enc, b_enc, s_enc, isInt_enc, isBool_enc, isStr_enc, fits_encI, cell_encI, fits_encB, cell_encB, fits_encS, cell_encS, isAnyInt_enc, l_enc, isList_enc, fits_encL, cell_encL, dec_int, dec_bool, dec_str, dec_encE, isE_int, isE_bool, isE_str, isE_encE, dec_list, isE_list, isE_map, map_dec_enc, ltB_true, ltB_false, leB_true, leB_false, szI, szB, szS, szL, boolE, intE, strE, listE, encE, SlE, List.length_map, List.length_append, List.length_replicate, Int.toNat_natCast, Bool.not_true, Bool.not_false, Bool.not_not, decide_true, decide_false, Bool.and_true, Bool.true_and, Bool.and_false, Bool.false_and, Bool.or_true, Bool.true_or, Bool.or_false, Bool.false_or, List.length_singleton, decide_eq_true_eq, decide_eq_false_iff_not, beq_iff_eq, beq_eq_false_iff_ne, bne_iff_ne, bne_eq_false_iff_eq, Bool.not_eq_true', Bool.not_eq_false', forall_const, true_imp_iff, false_imp_iff, if_true, if_false, reduceIte, reduceCtorEq, and_self, or_self, not_true, not_false_eq_true, List.append_nil, D.bool.injEq, D.int.injEq, D.str.injEq, D.list.injEq, D.agg.injEq, bne_self_eq_false, CV.d.injEq, CV.own.injEq, CV.tup.injEq, List.cons.injEq, List.toList_toArray, Option.some.injEq, Option.toList, List.flatMap_cons, List.flatMap_nil, Prod.mk.injEq, List.take_succ_cons, List.take_zero, List.drop_succ_cons, List.drop_zero, List.getD_nil, con0, con1, con2, con3, con2t, con3t, ctx38_t, ctx38_c, ctx38_d, con38, con42, con43]
  refine aLoop_of (fun p : Nat × Nat => ⟨[.d (enc (Sl.mk l)), .d (enc x), .dead, .dead, .d (.int .i64 0), .d (.bool false), .d (.int .i64 l.length), .d (.int .i64 p.1), .d (.int .i64 p.2), .dead, .dead, .dead, .dead, .dead, .dead, .dead, .dead, .dead, .dead, .dead, .dead, .dead, .dead, .dead, .dead, .dead, .dead, .dead, .dead, .dead, .dead, .dead, .dead, .dead, .dead, .dead, .dead, .dead, .dead, .dead, .dead, .dead, .dead, .dead, .dead, .dead, .dead, .dead, .dead, .dead, .dead, .dead, .dead, .dead], []⟩) (fun p => p.1 ≤ p.2 ∧ p.2 ≤ l.length ∧ (∀ j, j < p.1 → l.getD j 0 < x) ∧ ∀ j, p.2 ≤ j → j < l.length → x ≤ l.getD j 0) (fun p => p.2 - p.1) (0, l.length) ?_ ?_ ?_
  · refine ⟨Nat.zero_le _, Nat.le_refl _, fun j hj => by simp at hj, fun j h1 h2 => by simp only at h1; omega⟩
  · simp [Wk, wkT, wk1, AV.kept, wkO]
  rintro ⟨lo, hi⟩ ⟨h1, h2, h3, h4⟩
  simp only at h1 h2 h3 h4
  have sle : ∀ i j, i ≤ j → j < l.length → l.getD i 0 ≤ l.getD j 0 := by
    intro i j hij hj
    rcases Nat.lt_or_ge i j with h | h
    · have := List.pairwise_iff_getElem.1 hsrt i j (by omega) hj h
      have h5 : l.getD i 0 < l.getD j 0 := by simpa [hj, show i < l.length by omega] using this
      omega
    · have : i = j := by omega
      subst this
      exact Int.le_refl _
  by_cases hlt : lo < hi
  · obtain ⟨m, hm⟩ : ∃ m, m = (lo + hi) / 2 := ⟨_, rfl⟩
    have hh : (((lo : Int) + (hi : Int)).fdiv (2 ^ Int.toNat 1)) = (m : Int) := by
      rw [Int.fdiv_eq_ediv_of_nonneg _ (by decide), show (2 : Int) ^ Int.toNat 1 = 2 from rfl]
      omega
    have hml : m < l.length := by omega
    simp (config := { maxSteps := 2000000 }) only [awp_skip, awp_region, awp_draw, awp_seq, awp_cond, awp_block, awp_loop, awp_exit, awp_ret, beginAS, beginAll, deads, List.length_cons, List.length_nil, Nat.reduceAdd, Nat.reduceSub, Nat.reduceMul, Nat.reduceMod, Nat.reduceLT, Nat.reduceLeDiff, Nat.reduceEqDiff, Nat.reduceBEq, List.cons_append, List.nil_append,
    aOps, aOp, aExec, opStep, guardOf, ↓ifB_tt, ↓ifB_ff, ↓ifB_t, ↓ifB_f, ↓ifG_tt, ↓ifG_ff, ↓ifG_tf, ↓ifG_ft, ifB, ifG, and_assoc, List.getElem?_cons_zero, List.getElem?_cons_succ, AS.ev, constAV, constD, AS.put, aThen, aBlock, aDraws, Ctx.one, fpOf, opnds, keysAll, AV.keys, ownKey, makes, roOf, List.map_cons, List.map_nil, Ctx.esize, Ctx.size, Ctx.ag, TK.ag, Ctx.elemT, Ctx.fieldAt, tab3, tab4, tab22, tab23, tab33, tab37, tab42, tab51, List.getD_cons_zero, List.getD_cons_succ, List.set_cons_zero, List.set_cons_succ, true_and, and_true,
    hPick, hAlloc, hLoad, hStore, hFieldAddr, hField, hIndexAddr, hIndex, hSlice, hBuildSlice, hBuild, buildGo, hMakeSlice, hSource, hAppend, hLen, hMin, hMax, hConv, hExtract, hCall, hCallV, hBin, hUn, pureOut, inArgs, outCV, outOne, outAll, mkTup, mkAgg, mkClo, allD, pur, purs, purParts, allLt, allFit, zerosD, setAll, evs, evO, evParts, lk, upd, splice, AV.cells, AV.fits, cellsFrom, Obj.isBox, D.setCell, D.asAgg, lkC, retOk, resAll, resAV, Post,
    isInt_int, isBool_bool, isStr_str, isList_list, isAnyInt_int, i_int, b_bool, s_str, l_list, fits_int, fits_bool, fits_str, fits_list, fits_agg, fits_ptr, fits_clo, fits_nilp, fits_nilf, cell_int, cell_bool, cell_str, cell_list, cell_clo, cell_ptr, cell_agg, encI_def, encB_def, encS_def, i_enc, b_enc, s_enc, isInt_enc, isBool_enc, isStr_enc, fits_encI, cell_encI, fits_encB, cell_encB, fits_encS, cell_encS, isAnyInt_enc, l_enc, isList_enc, fits_encL, cell_encL, dec_int, dec_bool, dec_str, dec_encE, isE_int, isE_bool, isE_str, isE_encE, dec_list, isE_list, isE_map, map_dec_enc, ltB_true, ltB_false, leB_true, leB_false, szI, szB, szS, szL, boolE, intE, strE, listE, encE, SlE, List.length_map, List.length_append, List.length_replicate, Int.toNat_natCast, Bool.not_true, Bool.not_false, Bool.not_not, decide_true, decide_false, Bool.and_true, Bool.true_and, Bool.and_false, Bool.false_and, Bool.or_true, Bool.true_or, Bool.or_false, Bool.false_or, List.length_singleton, decide_eq_true_eq, decide_eq_false_iff_not, beq_iff_eq, beq_eq_false_iff_ne, bne_iff_ne, bne_eq_false_iff_eq, Bool.not_eq_true', Bool.not_eq_false', forall_const, true_imp_iff, false_imp_iff, if_true, if_false, reduceIte, reduceCtorEq, and_self, or_self, not_true, not_false_eq_true, List.append_nil, D.bool.injEq, D.int.injEq, D.str.injEq, D.list.injEq, D.agg.injEq, bne_self_eq_false, CV.d.injEq, CV.own.injEq, CV.tup.injEq, List.cons.injEq, List.toList_toArray, Option.some.injEq, Option.toList, List.flatMap_cons, List.flatMap_nil, Prod.mk.injEq, List.take_succ_cons, List.take_zero, List.drop_succ_cons, List.drop_zero, List.getD_nil, con0, con1, con2, con3, con2t, con3t, ctx38_t, ctx38_c, ctx38_d, con38, con42, con43, hh, el_map (0 : Int) hml]
    refine ⟨fun _ => ⟨by rw [inR_i64]; omega, by rw [inR_u64]; omega, by decide, by decide, by rw [inR_i64]; omega, by omega, by omega, fun hx => ⟨by rw [inR_i64]; omega, (m + 1, hi), by simp [Wk, wkT, wk1, AV.kept, wkO, lk, wkObj], by simp only; omega, by simp only; omega, fun j hj => ?_, fun j hj1 hj2 => h4 j hj1 hj2, by simp only; omega⟩,
      fun hx => ⟨(lo, m), by simp [Wk, wkT, wk1, AV.kept, wkO, lk, wkObj], by simp only; omega, by simp only; omega, fun j hj => h3 j hj, fun j hj1 hj2 => ?_, by simp only; omega⟩⟩, fun h => by omega⟩
    · have := sle j m (by simp only at hj; omega) hml
      omega
    · have := sle m j (by simp only at hj1; omega) hj2
      omega
  · have he : lo = hi := by omega
    subst he
    have e1 : less l x = lo := countP_at h2 h3 h4
    have e2 := contains_at h3 h4 hsrt
    by_cases hlo : lo < l.length
    · simp (config := { maxSteps := 2000000 }) only [awp_skip, awp_region, awp_draw, awp_seq, awp_cond, awp_block, awp_loop, awp_exit, awp_ret, beginAS, beginAll, deads, List.length_cons, List.length_nil, Nat.reduceAdd, Nat.reduceSub, Nat.reduceMul, Nat.reduceMod, Nat.reduceLT, Nat.reduceLeDiff, Nat.reduceEqDiff, Nat.reduceBEq, List.cons_append, List.nil_append,
    aOps, aOp, aExec, opStep, guardOf, ↓ifB_tt, ↓ifB_ff, ↓ifB_t, ↓ifB_f, ↓ifG_tt, ↓ifG_ff, ↓ifG_tf, ↓ifG_ft, ifB, ifG, and_assoc, List.getElem?_cons_zero, List.getElem?_cons_succ, AS.ev, constAV, constD, AS.put, aThen, aBlock, aDraws, Ctx.one, fpOf, opnds, keysAll, AV.keys, ownKey, makes, roOf, List.map_cons, List.map_nil, Ctx.esize, Ctx.size, Ctx.ag, TK.ag, Ctx.elemT, Ctx.fieldAt, tab3, tab4, tab22, tab23, tab33, tab37, tab42, tab51, List.getD_cons_zero, List.getD_cons_succ, List.set_cons_zero, List.set_cons_succ, true_and, and_true,
    hPick, hAlloc, hLoad, hStore, hFieldAddr, hField, hIndexAddr, hIndex, hSlice, hBuildSlice, hBuild, buildGo, hMakeSlice, hSource, hAppend, hLen, hMin, hMax, hConv, hExtract, hCall, hCallV, hBin, hUn, pureOut, inArgs, outCV, outOne, outAll, mkTup, mkAgg, mkClo, allD, pur, purs, purParts, allLt, allFit, zerosD, setAll, evs, evO, evParts, lk, upd, splice, AV.cells, AV.fits, cellsFrom, Obj.isBox, D.setCell, D.asAgg, lkC, retOk, resAll, resAV, Post,
    isInt_int, isBool_bool, isStr_str, isList_list, isAnyInt_int, i_int, b_bool, s_str, l_list, fits_int, fits_bool, fits_str, fits_list, fits_agg, fits_ptr, fits_clo, fits_nilp, fits_nilf, cell_int, cell_bool, cell_str, cell_list, cell_clo, cell_ptr, cell_agg, encI_def, encB_def, encS_def, i_enc, b_enc, s_enc, isInt_enc, isBool_enc, isStr_enc, fits_encI, cell_encI, fits_encB, cell_encB, fits_encS, cell_encS, isAnyInt_enc, l_enc, isList_enc, fits_encL, cell_encL, dec_int, dec_bool, dec_str, dec_encE, isE_int, isE_bool, isE_str, isE_encE, dec_list, isE_list, isE_map, map_dec_enc, ltB_true, ltB_false, leB_true, leB_false, szI, szB, szS, szL, boolE, intE, strE, listE, encE, SlE, List.length_map, List.length_append, List.length_replicate, Int.toNat_natCast, Bool.not_true, Bool.not_false, Bool.not_not, decide_true, decide_false, Bool.and_true, Bool.true_and, Bool.and_false, Bool.false_and, Bool.or_true, Bool.true_or, Bool.or_false, Bool.false_or, List.length_singleton, decide_eq_true_eq, decide_eq_false_iff_not, beq_iff_eq, beq_eq_false_iff_ne, bne_iff_ne, bne_eq_false_iff_eq, Bool.not_eq_true', Bool.not_eq_false', forall_const, true_imp_iff, false_imp_iff, if_true, if_false, reduceIte, reduceCtorEq, and_self, or_self, not_true, not_false_eq_true, List.append_nil, D.bool.injEq, D.int.injEq, D.str.injEq, D.list.injEq, D.agg.injEq, bne_self_eq_false, CV.d.injEq, CV.own.injEq, CV.tup.injEq, List.cons.injEq, List.toList_toArray, Option.some.injEq, Option.toList, List.flatMap_cons, List.flatMap_nil, Prod.mk.injEq, List.take_succ_cons, List.take_zero, List.drop_succ_cons, List.drop_zero, List.getD_nil, con0, con1, con2, con3, con2t, con3t, ctx38_t, ctx38_c, ctx38_d, con38, con42, con43, el_map (0 : Int) hlo]
      refine ⟨fun h => by omega, fun _ => ?_⟩
      rw [e1, e2]
      refine ⟨fun _ => ⟨by omega, by omega, fun hne => ⟨by omega, by omega, rfl, ?_⟩, fun heq => ⟨rfl, ?_⟩⟩, fun h => by omega⟩
      · simp only [beq_eq_false_iff_ne.2 hne, Bool.and_false]
      · simp only [heq, hlo, decide_true, beq_self_eq_true, Bool.and_self]
    · simp (config := { maxSteps := 2000000 }) only [awp_skip, awp_region, awp_draw, awp_seq, awp_cond, awp_block, awp_loop, awp_exit, awp_ret, beginAS, beginAll, deads, List.length_cons, List.length_nil, Nat.reduceAdd, Nat.reduceSub, Nat.reduceMul, Nat.reduceMod, Nat.reduceLT, Nat.reduceLeDiff, Nat.reduceEqDiff, Nat.reduceBEq, List.cons_append, List.nil_append,
    aOps, aOp, aExec, opStep, guardOf, ↓ifB_tt, ↓ifB_ff, ↓ifB_t, ↓ifB_f, ↓ifG_tt, ↓ifG_ff, ↓ifG_tf, ↓ifG_ft, ifB, ifG, and_assoc, List.getElem?_cons_zero, List.getElem?_cons_succ, AS.ev, constAV, constD, AS.put, aThen, aBlock, aDraws, Ctx.one, fpOf, opnds, keysAll, AV.keys, ownKey, makes, roOf, List.map_cons, List.map_nil, Ctx.esize, Ctx.size, Ctx.ag, TK.ag, Ctx.elemT, Ctx.fieldAt, tab3, tab4, tab22, tab23, tab33, tab37, tab42, tab51, List.getD_cons_zero, List.getD_cons_succ, List.set_cons_zero, List.set_cons_succ, true_and, and_true,
    hPick, hAlloc, hLoad, hStore, hFieldAddr, hField, hIndexAddr, hIndex, hSlice, hBuildSlice, hBuild, buildGo, hMakeSlice, hSource, hAppend, hLen, hMin, hMax, hConv, hExtract, hCall, hCallV, hBin, hUn, pureOut, inArgs, outCV, outOne, outAll, mkTup, mkAgg, mkClo, allD, pur, purs, purParts, allLt, allFit, zerosD, setAll, evs, evO, evParts, lk, upd, splice, AV.cells, AV.fits, cellsFrom, Obj.isBox, D.setCell, D.asAgg, lkC, retOk, resAll, resAV, Post,
    isInt_int, isBool_bool, isStr_str, isList_list, isAnyInt_int, i_int, b_bool, s_str, l_list, fits_int, fits_bool, fits_str, fits_list, fits_agg, fits_ptr, fits_clo, fits_nilp, fits_nilf, cell_int, cell_bool, cell_str, cell_list, cell_clo, cell_ptr, cell_agg, encI_def, encB_def, encS_def, i_enc, b_enc, s_enc, isInt_enc, isBool_enc, isStr_enc, fits_encI, cell_encI, fits_encB, cell_encB, fits_encS, cell_encS, isAnyInt_enc, l_enc, isList_enc, fits_encL, cell_encL, dec_int, dec_bool, dec_str, dec_encE, isE_int, isE_bool, isE_str, isE_encE, dec_list, isE_list, isE_map, map_dec_enc, ltB_true, ltB_false, leB_true, leB_false, szI, szB, szS, szL, boolE, intE, strE, listE, encE, SlE, List.length_map, List.length_append, List.length_replicate, Int.toNat_natCast, Bool.not_true, Bool.not_false, Bool.not_not, decide_true, decide_false, Bool.and_true, Bool.true_and, Bool.and_false, Bool.false_and, Bool.or_true, Bool.true_or, Bool.or_false, Bool.false_or, List.length_singleton, decide_eq_true_eq, decide_eq_false_iff_not, beq_iff_eq, beq_eq_false_iff_ne, bne_iff_ne, bne_eq_false_iff_eq, Bool.not_eq_true', Bool.not_eq_false', forall_const, true_imp_iff, false_imp_iff, if_true, if_false, reduceIte, reduceCtorEq, and_self, or_self, not_true, not_false_eq_true, List.append_nil, D.bool.injEq, D.int.injEq, D.str.injEq, D.list.injEq, D.agg.injEq, bne_self_eq_false, CV.d.injEq, CV.own.injEq, CV.tup.injEq, List.cons.injEq, List.toList_toArray, Option.some.injEq, Option.toList, List.flatMap_cons, List.flatMap_nil, Prod.mk.injEq, List.take_succ_cons, List.take_zero, List.drop_succ_cons, List.drop_zero, List.getD_nil, con0, con1, con2, con3, con2t, con3t, ctx38_t, ctx38_c, ctx38_d, con38, con42, con43]
      refine ⟨fun h => by omega, fun _ => ?_⟩
      rw [e1, e2]
      refine ⟨fun h => by omega, fun _ => ⟨rfl, ?_⟩⟩
      simp only [hlo, decide_false, Bool.false_and]

end Go.Am.Core
