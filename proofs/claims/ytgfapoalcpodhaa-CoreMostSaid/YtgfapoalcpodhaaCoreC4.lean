/- Contracts of functions that the laws of core reach, and plain laws of sets. Conditions: those that each contract states. -/
import Derived.Test.YtgfapoalcpodhaaCoreC3
set_option linter.unusedSimpArgs false
set_option linter.unusedVariables false
set_option maxHeartbeats 1000000
namespace Go.Am.Core
open Go.Proofs
open Enc (enc dec)

/-! ### core.isPart -/
def con36 : Con := con2 (fun (s t : Sl Int) => s.l.length ≤ 9223372036854775807 ∧ t.l.length ≤ 1048576 ∧ Sorted t.l) (fun s t => part s.l t.l)
def ctx36 : Ctx := ⟨tab, lkC [(38, con38)], 60⟩
theorem ctx36_t : ctx36.τ = tab := rfl
theorem ctx36_c : ctx36.Γ = lkC [(38, con38)] := rfl
theorem ctx36_d : ctx36.dp = 60 := rfl
theorem good36 : Good Try.prog (36, con36) := by
  refine ⟨enters_of Try.func36 (by kernel_rfl) rfl, ?_⟩
  have K : CtxOk Try.prog ctx36 := ctxOk_of tabOk mixedOk (by
    intro p hp
    simp only [List.mem_cons, List.not_mem_nil, or_false] at hp
    rcases hp with rfl
    · exact good38)
  obtain ⟨c, hc⟩ : ∃ c, Try.f36.body = some c := ⟨_, rfl⟩
  refine fn_sound K Try.func36 hc [.tmp 4] rfl 24 rfl (fun cvs hpre => ?_)
  change con36.pre cvs at hpre
  unfold con36 at hpre
  obtain ⟨⟨a⟩, ⟨b⟩, rfl, ha, hb, hsb⟩ := con2_pre hpre
  simp only at ha hb hsb
  simp only [Try.f36, Option.some.injEq] at hc
  subst hc
  simp (config := { maxSteps := 2000000 }) only [awp_skip, awp_region, awp_draw, awp_seq, awp_cond, awp_block, awp_loop, awp_exit, awp_ret, beginAS, beginAll, deads, List.length_cons, List.length_nil, Nat.reduceAdd, Nat.reduceSub, Nat.reduceMul, Nat.reduceMod, Nat.reduceLT, Nat.reduceLeDiff, Nat.reduceEqDiff, Nat.reduceBEq, List.cons_append, List.nil_append,
    aOps, aOp, aExec, opStep, guardOf, ↓ifB_tt, ↓ifB_ff, ↓ifB_t, ↓ifB_f, ↓ifG_tt, ↓ifG_ff, ↓ifG_tf, ↓ifG_ft, ifB, ifG, and_assoc, List.getElem?_cons_zero, List.getElem?_cons_succ, AS.ev, constAV, constD, AS.put, aThen, aBlock, aDraws, Ctx.one, fpOf, opnds, keysAll, AV.keys, ownKey, makes, roOf, List.map_cons, List.map_nil, Ctx.esize, Ctx.size, Ctx.ag, TK.ag, Ctx.elemT, Ctx.fieldAt, tab3, tab4, tab22, tab23, tab33, tab37, tab42, tab51, List.getD_cons_zero, List.getD_cons_succ, List.set_cons_zero, List.set_cons_succ, true_and, and_true,
    hPick, hAlloc, hLoad, hStore, hFieldAddr, hField, hIndexAddr, hIndex, hSlice, hBuildSlice, hBuild, buildGo, hMakeSlice, hSource, hAppend, hLen, hMin, hMax, hConv, hExtract, hCall, hCallV, hBin, hUn, pureOut, inArgs, outCV, outOne, outAll, mkTup, mkAgg, mkClo, allD, pur, purs, purParts, allLt, allFit, zerosD, setAll, evs, evO, evParts, lk, upd, splice, AV.cells, AV.fits, cellsFrom, Obj.isBox, D.setCell, D.asAgg, lkC, retOk, resAll, resAV, Post,
    isInt_int, isBool_bool, isStr_str, isList_list, isAnyInt_int, i_int, b_bool, s_str, l_list, fits_int, fits_bool, fits_str, fits_list, fits_agg, fits_ptr, fits_clo, fits_nilp, fits_nilf, cell_int, cell_bool, cell_str, cell_list, cell_clo, cell_ptr, cell_agg, encI_def, encB_def, encS_def, i_enc, b_enc, s_enc, isInt_enc, isBool_enc, isStr_enc, fits_encI, cell_encI, fits_encB, cell_encB, fits_encS, cell_encS, isAnyInt_enc, l_enc, isList_enc, fits_encL, cell_encL, dec_int, dec_bool, dec_str, dec_encE, isE_int, isE_bool, isE_str, isE_encE, dec_list, isE_list, isE_map, map_dec_enc, ltB_true, ltB_false, leB_true, leB_false, szI, szB, szS, szL, boolE, intE, strE, listE, encE, SlE, List.length_map, List.length_append, List.length_replicate, Int.toNat_natCast, Bool.not_true, Bool.not_false, Bool.not_not, decide_true, decide_false, Bool.and_true, Bool.true_and, Bool.and_false, Bool.false_and, Bool.or_true, Bool.true_or, Bool.or_false, Bool.false_or, List.length_singleton, decide_eq_true_eq, decide_eq_false_iff_not, beq_iff_eq, beq_eq_false_iff_ne, bne_iff_ne, bne_eq_false_iff_eq, Bool.not_eq_true', Bool.not_eq_false', forall_const, true_imp_iff, false_imp_iff, if_true, if_false, reduceIte, reduceCtorEq, and_self, or_self, not_true, not_false_eq_true, List.append_nil, D.bool.injEq, D.int.injEq, D.str.injEq, D.list.injEq, D.agg.injEq, bne_self_eq_false, CV.d.injEq, CV.own.injEq, CV.tup.injEq, List.cons.injEq, List.toList_toArray, Option.some.injEq, Option.toList, List.flatMap_cons, List.flatMap_nil, Prod.mk.injEq, List.take_succ_cons, List.take_zero, List.drop_succ_cons, List.drop_zero, List.getD_nil, con0, con1, con2, con3, con2t, con3t, ctx36_t, ctx36_c, ctx36_d, con36, con38]
  refine aLoop_of (fun k : Nat => ⟨[.d (enc (Sl.mk a)), .d (enc (Sl.mk b)), .dead, .dead, .d (.bool false), .dead, .dead, .dead, .dead, .d (enc (Sl.mk a)), .d (.int .i64 a.length), .d (.int .i64 k), .dead, .dead, .dead, .dead, .dead, .dead, .dead, .dead, .dead, .dead, .dead, .dead], []⟩) (fun k => k ≤ a.length ∧ ∀ j, j < k → b.contains (a.getD j 0) = true) (fun k => a.length - k) 0 ?_ ?_ ?_
  · simp
  · simp [Wk, wkT, wk1, AV.kept, wkO, lk, wkObj]
  rintro k ⟨hk, hno⟩
  by_cases hlt : k < a.length
  · simp (config := { maxSteps := 2000000 }) only [awp_skip, awp_region, awp_draw, awp_seq, awp_cond, awp_block, awp_loop, awp_exit, awp_ret, beginAS, beginAll, deads, List.length_cons, List.length_nil, Nat.reduceAdd, Nat.reduceSub, Nat.reduceMul, Nat.reduceMod, Nat.reduceLT, Nat.reduceLeDiff, Nat.reduceEqDiff, Nat.reduceBEq, List.cons_append, List.nil_append,
    aOps, aOp, aExec, opStep, guardOf, ↓ifB_tt, ↓ifB_ff, ↓ifB_t, ↓ifB_f, ↓ifG_tt, ↓ifG_ff, ↓ifG_tf, ↓ifG_ft, ifB, ifG, and_assoc, List.getElem?_cons_zero, List.getElem?_cons_succ, AS.ev, constAV, constD, AS.put, aThen, aBlock, aDraws, Ctx.one, fpOf, opnds, keysAll, AV.keys, ownKey, makes, roOf, List.map_cons, List.map_nil, Ctx.esize, Ctx.size, Ctx.ag, TK.ag, Ctx.elemT, Ctx.fieldAt, tab3, tab4, tab22, tab23, tab33, tab37, tab42, tab51, List.getD_cons_zero, List.getD_cons_succ, List.set_cons_zero, List.set_cons_succ, true_and, and_true,
    hPick, hAlloc, hLoad, hStore, hFieldAddr, hField, hIndexAddr, hIndex, hSlice, hBuildSlice, hBuild, buildGo, hMakeSlice, hSource, hAppend, hLen, hMin, hMax, hConv, hExtract, hCall, hCallV, hBin, hUn, pureOut, inArgs, outCV, outOne, outAll, mkTup, mkAgg, mkClo, allD, pur, purs, purParts, allLt, allFit, zerosD, setAll, evs, evO, evParts, lk, upd, splice, AV.cells, AV.fits, cellsFrom, Obj.isBox, D.setCell, D.asAgg, lkC, retOk, resAll, resAV, Post,
    isInt_int, isBool_bool, isStr_str, isList_list, isAnyInt_int, i_int, b_bool, s_str, l_list, fits_int, fits_bool, fits_str, fits_list, fits_agg, fits_ptr, fits_clo, fits_nilp, fits_nilf, cell_int, cell_bool, cell_str, cell_list, cell_clo, cell_ptr, cell_agg, encI_def, encB_def, encS_def, i_enc, b_enc, s_enc, isInt_enc, isBool_enc, isStr_enc, fits_encI, cell_encI, fits_encB, cell_encB, fits_encS, cell_encS, isAnyInt_enc, l_enc, isList_enc, fits_encL, cell_encL, dec_int, dec_bool, dec_str, dec_encE, isE_int, isE_bool, isE_str, isE_encE, dec_list, isE_list, isE_map, map_dec_enc, ltB_true, ltB_false, leB_true, leB_false, szI, szB, szS, szL, boolE, intE, strE, listE, encE, SlE, List.length_map, List.length_append, List.length_replicate, Int.toNat_natCast, Bool.not_true, Bool.not_false, Bool.not_not, decide_true, decide_false, Bool.and_true, Bool.true_and, Bool.and_false, Bool.false_and, Bool.or_true, Bool.true_or, Bool.or_false, Bool.false_or, List.length_singleton, decide_eq_true_eq, decide_eq_false_iff_not, beq_iff_eq, beq_eq_false_iff_ne, bne_iff_ne, bne_eq_false_iff_eq, Bool.not_eq_true', Bool.not_eq_false', forall_const, true_imp_iff, false_imp_iff, if_true, if_false, reduceIte, reduceCtorEq, and_self, or_self, not_true, not_false_eq_true, List.append_nil, D.bool.injEq, D.int.injEq, D.str.injEq, D.list.injEq, D.agg.injEq, bne_self_eq_false, CV.d.injEq, CV.own.injEq, CV.tup.injEq, List.cons.injEq, List.toList_toArray, Option.some.injEq, Option.toList, List.flatMap_cons, List.flatMap_nil, Prod.mk.injEq, List.take_succ_cons, List.take_zero, List.drop_succ_cons, List.drop_zero, List.getD_nil, con0, con1, con2, con3, con2t, con3t, ctx36_t, ctx36_c, ctx36_d, con36, con38, el_map (0 : Int) hlt]
    refine ⟨fun _ => ⟨by omega, by omega, hb, hsb, fun he => (all_not 0 k hlt he).symm, fun he => ⟨by rw [inR_i64]; omega, k + 1, by simp [Wk, wkT, wk1, AV.kept, wkO, lk, wkObj], by omega, fun j hj => ?_, by omega⟩⟩, fun h => by omega⟩
    by_cases hjk : j = k
    · subst hjk; exact he
    · exact hno j (by omega)
  · simp (config := { maxSteps := 2000000 }) only [awp_skip, awp_region, awp_draw, awp_seq, awp_cond, awp_block, awp_loop, awp_exit, awp_ret, beginAS, beginAll, deads, List.length_cons, List.length_nil, Nat.reduceAdd, Nat.reduceSub, Nat.reduceMul, Nat.reduceMod, Nat.reduceLT, Nat.reduceLeDiff, Nat.reduceEqDiff, Nat.reduceBEq, List.cons_append, List.nil_append,
    aOps, aOp, aExec, opStep, guardOf, ↓ifB_tt, ↓ifB_ff, ↓ifB_t, ↓ifB_f, ↓ifG_tt, ↓ifG_ff, ↓ifG_tf, ↓ifG_ft, ifB, ifG, and_assoc, List.getElem?_cons_zero, List.getElem?_cons_succ, AS.ev, constAV, constD, AS.put, aThen, aBlock, aDraws, Ctx.one, fpOf, opnds, keysAll, AV.keys, ownKey, makes, roOf, List.map_cons, List.map_nil, Ctx.esize, Ctx.size, Ctx.ag, TK.ag, Ctx.elemT, Ctx.fieldAt, tab3, tab4, tab22, tab23, tab33, tab37, tab42, tab51, List.getD_cons_zero, List.getD_cons_succ, List.set_cons_zero, List.set_cons_succ, true_and, and_true,
    hPick, hAlloc, hLoad, hStore, hFieldAddr, hField, hIndexAddr, hIndex, hSlice, hBuildSlice, hBuild, buildGo, hMakeSlice, hSource, hAppend, hLen, hMin, hMax, hConv, hExtract, hCall, hCallV, hBin, hUn, pureOut, inArgs, outCV, outOne, outAll, mkTup, mkAgg, mkClo, allD, pur, purs, purParts, allLt, allFit, zerosD, setAll, evs, evO, evParts, lk, upd, splice, AV.cells, AV.fits, cellsFrom, Obj.isBox, D.setCell, D.asAgg, lkC, retOk, resAll, resAV, Post,
    isInt_int, isBool_bool, isStr_str, isList_list, isAnyInt_int, i_int, b_bool, s_str, l_list, fits_int, fits_bool, fits_str, fits_list, fits_agg, fits_ptr, fits_clo, fits_nilp, fits_nilf, cell_int, cell_bool, cell_str, cell_list, cell_clo, cell_ptr, cell_agg, encI_def, encB_def, encS_def, i_enc, b_enc, s_enc, isInt_enc, isBool_enc, isStr_enc, fits_encI, cell_encI, fits_encB, cell_encB, fits_encS, cell_encS, isAnyInt_enc, l_enc, isList_enc, fits_encL, cell_encL, dec_int, dec_bool, dec_str, dec_encE, isE_int, isE_bool, isE_str, isE_encE, dec_list, isE_list, isE_map, map_dec_enc, ltB_true, ltB_false, leB_true, leB_false, szI, szB, szS, szL, boolE, intE, strE, listE, encE, SlE, List.length_map, List.length_append, List.length_replicate, Int.toNat_natCast, Bool.not_true, Bool.not_false, Bool.not_not, decide_true, decide_false, Bool.and_true, Bool.true_and, Bool.and_false, Bool.false_and, Bool.or_true, Bool.true_or, Bool.or_false, Bool.false_or, List.length_singleton, decide_eq_true_eq, decide_eq_false_iff_not, beq_iff_eq, beq_eq_false_iff_ne, bne_iff_ne, bne_eq_false_iff_eq, Bool.not_eq_true', Bool.not_eq_false', forall_const, true_imp_iff, false_imp_iff, if_true, if_false, reduceIte, reduceCtorEq, and_self, or_self, not_true, not_false_eq_true, List.append_nil, D.bool.injEq, D.int.injEq, D.str.injEq, D.list.injEq, D.agg.injEq, bne_self_eq_false, CV.d.injEq, CV.own.injEq, CV.tup.injEq, List.cons.injEq, List.toList_toArray, Option.some.injEq, Option.toList, List.flatMap_cons, List.flatMap_nil, Prod.mk.injEq, List.take_succ_cons, List.take_zero, List.drop_succ_cons, List.drop_zero, List.getD_nil, con0, con1, con2, con3, con2t, con3t, ctx36_t, ctx36_c, ctx36_d, con36, con38]
    exact ⟨fun h => by omega, fun _ => (all_of_lt 0 fun j hj => hno j (by omega)).symm⟩

/-! ### what a judge looks at -/
/-- A pointer to a variable that stays. -/
structure Pt (α : Type) where
  v : α
instance encPt {α : Type} [Enc α] : Enc (Pt α) := ⟨fun a => .ptr 1 (enc a.v), fun x => match x with
  | .ptr _ y => ⟨dec y⟩
  | _ => ⟨dec .nilp⟩, fun a => by
  show Pt.mk (dec (enc a.v)) = a
  rw [Enc.dec_enc]⟩
theorem isE_Pt {α : Type} [Enc α] {x : D} : isE (Pt α) (.ptr 1 x) = isE α x := propext ⟨fun h => by
  have h' : D.ptr 1 x = D.ptr 1 (enc (dec x : α)) := h
  injection h' with _ h2, fun h => by
  show D.ptr 1 x = D.ptr 1 (enc (dec x : α))
  rw [← h]⟩
theorem dec_Pt {α : Type} [Enc α] {s : Nat} {x : D} : (dec (.ptr s x) : Pt α) = ⟨dec x⟩ := rfl
theorem enc_Pt {α : Type} [Enc α] {a : α} : (enc (Pt.mk a) : D) = .ptr 1 (enc a) := rfl
/-- core.of$1$1 and its captured set. -/
structure Part1 where
  s : List Int
instance encPart1 : Enc Part1 := ⟨fun a => .clo 35 [.ptr 1 (enc (Sl.mk a.s))], fun x => match x with
  | .clo _ [.ptr _ y] => ⟨(dec y : Sl Int).l⟩
  | _ => ⟨[]⟩, fun a => by
  show Part1.mk (dec (enc (Sl.mk a.s)) : Sl Int).l = a
  rw [Enc.dec_enc]⟩
theorem dec_Part1 {s : Sl Int} : (dec (.clo 35 [.ptr 1 (enc s)]) : Part1) = ⟨s.l⟩ := by
  show Part1.mk (dec (enc s) : Sl Int).l = _
  rw [Enc.dec_enc]
theorem isE_Part1 {s : Sl Int} : isE Part1 (.clo 35 [.ptr 1 (enc s)]) = True := eq_true (by
  unfold isE
  rw [dec_Part1]
  rfl)
theorem enc_Part1 {s : List Int} : (enc (Part1.mk s) : D) = .clo 35 [.ptr 1 (enc (Sl.mk s))] := rfl

def con35 : Con := con2 (fun (b : Sl Int) (s : Pt (Sl Int)) => b.l.length ≤ 9223372036854775807 ∧ s.v.l.length ≤ 1048576 ∧ Sorted s.v.l) (fun b s => part b.l s.v.l)
def ctx35 : Ctx := ⟨tab, lkC [(36, con36)], 60⟩
theorem ctx35_t : ctx35.τ = tab := rfl
theorem ctx35_c : ctx35.Γ = lkC [(36, con36)] := rfl
theorem ctx35_d : ctx35.dp = 60 := rfl
theorem good35 : Good Try.prog (35, con35) := by
  refine ⟨enters_of Try.func35 (by kernel_rfl) rfl, ?_⟩
  have K : CtxOk Try.prog ctx35 := ctxOk_of tabOk mixedOk (by
    intro p hp
    simp only [List.mem_cons, List.not_mem_nil, or_false] at hp
    rcases hp with rfl
    · exact good36)
  obtain ⟨c, hc⟩ : ∃ c, Try.f35.body = some c := ⟨_, rfl⟩
  refine fn_sound K Try.func35 hc [.tmp 3] rfl 7 rfl (fun cvs hpre => ?_)
  change con35.pre cvs at hpre
  unfold con35 at hpre
  obtain ⟨⟨b⟩, ⟨⟨s⟩⟩, rfl, hb, hs, hss⟩ := con2_pre hpre
  simp only at hb hs hss
  simp only [Try.f35, Option.some.injEq] at hc
  subst hc
  simp (config := { maxSteps := 2000000 }) only [awp_skip, awp_region, awp_draw, awp_seq, awp_cond, awp_block, awp_loop, awp_exit, awp_ret, beginAS, beginAll, deads, List.length_cons, List.length_nil, Nat.reduceAdd, Nat.reduceSub, Nat.reduceMul, Nat.reduceMod, Nat.reduceLT, Nat.reduceLeDiff, Nat.reduceEqDiff, Nat.reduceBEq, List.cons_append, List.nil_append,
    aOps, aOp, aExec, opStep, guardOf, ↓ifB_tt, ↓ifB_ff, ↓ifB_t, ↓ifB_f, ↓ifG_tt, ↓ifG_ff, ↓ifG_tf, ↓ifG_ft, ifB, ifG, and_assoc, List.getElem?_cons_zero, List.getElem?_cons_succ, AS.ev, constAV, constD, AS.put, aThen, aBlock, aDraws, Ctx.one, fpOf, opnds, keysAll, AV.keys, ownKey, makes, roOf, List.map_cons, List.map_nil, Ctx.esize, Ctx.size, Ctx.ag, TK.ag, Ctx.elemT, Ctx.fieldAt, tab3, tab4, tab22, tab23, tab33, tab37, tab42, tab51, List.getD_cons_zero, List.getD_cons_succ, List.set_cons_zero, List.set_cons_succ, true_and, and_true,
    hPick, hAlloc, hLoad, hStore, hFieldAddr, hField, hIndexAddr, hIndex, hSlice, hBuildSlice, hBuild, buildGo, hMakeSlice, hSource, hAppend, hLen, hMin, hMax, hConv, hExtract, hCall, hCallV, hBin, hUn, pureOut, inArgs, outCV, outOne, outAll, mkTup, mkAgg, mkClo, allD, pur, purs, purParts, allLt, allFit, zerosD, setAll, evs, evO, evParts, lk, upd, splice, AV.cells, AV.fits, cellsFrom, Obj.isBox, D.setCell, D.asAgg, lkC, retOk, resAll, resAV, Post,
    isInt_int, isBool_bool, isStr_str, isList_list, isAnyInt_int, i_int, b_bool, s_str, l_list, fits_int, fits_bool, fits_str, fits_list, fits_agg, fits_ptr, fits_clo, fits_nilp, fits_nilf, cell_int, cell_bool, cell_str, cell_list, cell_clo, cell_ptr, cell_agg, encI_def, encB_def, encS_def, i_enc, b_enc, s_enc, isInt_enc, isBool_enc, isStr_enc, fits_encI, cell_encI, fits_encB, cell_encB, fits_encS, cell_encS, isAnyInt_enc, l_enc, isList_enc, fits_encL, cell_encL, dec_int, dec_bool, dec_str, dec_encE, isE_int, isE_bool, isE_str, isE_encE, dec_list, isE_list, isE_map, map_dec_enc, ltB_true, ltB_false, leB_true, leB_false, szI, szB, szS, szL, boolE, intE, strE, listE, encE, SlE, List.length_map, List.length_append, List.length_replicate, Int.toNat_natCast, Bool.not_true, Bool.not_false, Bool.not_not, decide_true, decide_false, Bool.and_true, Bool.true_and, Bool.and_false, Bool.false_and, Bool.or_true, Bool.true_or, Bool.or_false, Bool.false_or, List.length_singleton, decide_eq_true_eq, decide_eq_false_iff_not, beq_iff_eq, beq_eq_false_iff_ne, bne_iff_ne, bne_eq_false_iff_eq, Bool.not_eq_true', Bool.not_eq_false', forall_const, true_imp_iff, false_imp_iff, if_true, if_false, reduceIte, reduceCtorEq, and_self, or_self, not_true, not_false_eq_true, List.append_nil, D.bool.injEq, D.int.injEq, D.str.injEq, D.list.injEq, D.agg.injEq, bne_self_eq_false, CV.d.injEq, CV.own.injEq, CV.tup.injEq, List.cons.injEq, List.toList_toArray, Option.some.injEq, Option.toList, List.flatMap_cons, List.flatMap_nil, Prod.mk.injEq, List.take_succ_cons, List.take_zero, List.drop_succ_cons, List.drop_zero, List.getD_nil, con0, con1, con2, con3, con2t, con3t, ctx35_t, ctx35_c, ctx35_d, con35, con36, enc_Pt, isE_Pt, dec_Pt]
  exact ⟨hb, hs, hss⟩

/-! ### slices.IndexFunc, at sets and 'is it a part' -/
def firstPart (l : List (Sl Int)) (s : List Int) : Int := if l.any (fun b => part b.l s) = true then (l.findIdx fun b => part b.l s : Nat) else -1
def con41 : Con := con2 (fun (l : Sl (Sl Int)) (f : Part1) => l.l.length ≤ 9223372036854775807 ∧ (∀ b ∈ l.l, b.l.length ≤ 9223372036854775807) ∧ f.s.length ≤ 1048576 ∧ Sorted f.s) (fun l f => firstPart l.l f.s)
def ctx41 : Ctx := ⟨tab, lkC [(35, con35)], 60⟩
theorem ctx41_t : ctx41.τ = tab := rfl
theorem ctx41_c : ctx41.Γ = lkC [(35, con35)] := rfl
theorem ctx41_d : ctx41.dp = 60 := rfl
theorem good41 : Good Try.prog (41, con41) := by
  refine ⟨enters_of Try.func41 (by kernel_rfl) rfl, ?_⟩
  have K : CtxOk Try.prog ctx41 := ctxOk_of tabOk mixedOk (by
    intro p hp
    simp only [List.mem_cons, List.not_mem_nil, or_false] at hp
    rcases hp with rfl
    · exact good35)
  obtain ⟨c, hc⟩ : ∃ c, Try.f41.body = some c := ⟨_, rfl⟩
  refine fn_sound K Try.func41 hc [.tmp 4] rfl 19 rfl (fun cvs hpre => ?_)
  change con41.pre cvs at hpre
  unfold con41 at hpre
  obtain ⟨⟨l⟩, ⟨s⟩, rfl, hl, hb, hs, hss⟩ := con2_pre hpre
  simp only at hl hb hs hss
  simp only [Try.f41, Option.some.injEq] at hc
  subst hc
  simp (config := { maxSteps := 2000000 }) only [awp_skip, awp_region, awp_draw, awp_seq, awp_cond, awp_block, awp_loop, awp_exit, awp_ret, beginAS, beginAll, deads, List.length_cons, List.length_nil, Nat.reduceAdd, Nat.reduceSub, Nat.reduceMul, Nat.reduceMod, Nat.reduceLT, Nat.reduceLeDiff, Nat.reduceEqDiff, Nat.reduceBEq, List.cons_append, List.nil_append,
    aOps, aOp, aExec, opStep, guardOf, ↓ifB_tt, ↓ifB_ff, ↓ifB_t, ↓ifB_f, ↓ifG_tt, ↓ifG_ff, ↓ifG_tf, ↓ifG_ft, ifB, ifG, and_assoc, List.getElem?_cons_zero, List.getElem?_cons_succ, AS.ev, constAV, constD, AS.put, aThen, aBlock, aDraws, Ctx.one, fpOf, opnds, keysAll, AV.keys, ownKey, makes, roOf, List.map_cons, List.map_nil, Ctx.esize, Ctx.size, Ctx.ag, TK.ag, Ctx.elemT, Ctx.fieldAt, tab3, tab4, tab22, tab23, tab33, tab37, tab42, tab51, List.getD_cons_zero, List.getD_cons_succ, List.set_cons_zero, List.set_cons_succ, true_and, and_true,
    hPick, hAlloc, hLoad, hStore, hFieldAddr, hField, hIndexAddr, hIndex, hSlice, hBuildSlice, hBuild, buildGo, hMakeSlice, hSource, hAppend, hLen, hMin, hMax, hConv, hExtract, hCall, hCallV, hBin, hUn, pureOut, inArgs, outCV, outOne, outAll, mkTup, mkAgg, mkClo, allD, pur, purs, purParts, allLt, allFit, zerosD, setAll, evs, evO, evParts, lk, upd, splice, AV.cells, AV.fits, cellsFrom, Obj.isBox, D.setCell, D.asAgg, lkC, retOk, resAll, resAV, Post,
    isInt_int, isBool_bool, isStr_str, isList_list, isAnyInt_int, i_int, b_bool, s_str, l_list, fits_int, fits_bool, fits_str, fits_list, fits_agg, fits_ptr, fits_clo, fits_nilp, fits_nilf, cell_int, cell_bool, cell_str, cell_list, cell_clo, cell_ptr, cell_agg, encI_def, encB_def, encS_def, i_enc, b_enc, s_enc, isInt_enc, isBool_enc, isStr_enc, fits_encI, cell_encI, fits_encB, cell_encB, fits_encS, cell_encS, isAnyInt_enc, l_enc, isList_enc, fits_encL, cell_encL, dec_int, dec_bool, dec_str, dec_encE, isE_int, isE_bool, isE_str, isE_encE, dec_list, isE_list, isE_map, map_dec_enc, ltB_true, ltB_false, leB_true, leB_false, szI, szB, szS, szL, boolE, intE, strE, listE, encE, SlE, List.length_map, List.length_append, List.length_replicate, Int.toNat_natCast, Bool.not_true, Bool.not_false, Bool.not_not, decide_true, decide_false, Bool.and_true, Bool.true_and, Bool.and_false, Bool.false_and, Bool.or_true, Bool.true_or, Bool.or_false, Bool.false_or, List.length_singleton, decide_eq_true_eq, decide_eq_false_iff_not, beq_iff_eq, beq_eq_false_iff_ne, bne_iff_ne, bne_eq_false_iff_eq, Bool.not_eq_true', Bool.not_eq_false', forall_const, true_imp_iff, false_imp_iff, if_true, if_false, reduceIte, reduceCtorEq, and_self, or_self, not_true, not_false_eq_true, List.append_nil, D.bool.injEq, D.int.injEq, D.str.injEq, D.list.injEq, D.agg.injEq, bne_self_eq_false, CV.d.injEq, CV.own.injEq, CV.tup.injEq, List.cons.injEq, List.toList_toArray, Option.some.injEq, Option.toList, List.flatMap_cons, List.flatMap_nil, Prod.mk.injEq, List.take_succ_cons, List.take_zero, List.drop_succ_cons, List.drop_zero, List.getD_nil, con0, con1, con2, con3, con2t, con3t, ctx41_t, ctx41_c, ctx41_d, con41, con35, enc_Part1]
  refine aLoop_of (fun k : Nat => ⟨[.d (enc (Sl.mk l)), .d (enc (Part1.mk s)), .dead, .dead, .d (.int .i64 0), .dead, .dead, .d (.int .i64 l.length), .d (.int .i64 k), .dead, .dead, .dead, .dead, .dead, .dead, .dead, .dead, .dead, .dead], []⟩) (fun k => k ≤ l.length ∧ ∀ j, j < k → part (l.getD j ⟨[]⟩).l s = false) (fun k => l.length - k) 0 ?_ ?_ ?_
  · simp
  · simp [Wk, wkT, wk1, AV.kept, wkO, enc_Part1]
  rintro k ⟨hk, hno⟩
  by_cases hlt : k < l.length
  · have hbk := hb (l.getD k ⟨[]⟩) (by simp [hlt])
    simp (config := { maxSteps := 2000000 }) only [awp_skip, awp_region, awp_draw, awp_seq, awp_cond, awp_block, awp_loop, awp_exit, awp_ret, beginAS, beginAll, deads, List.length_cons, List.length_nil, Nat.reduceAdd, Nat.reduceSub, Nat.reduceMul, Nat.reduceMod, Nat.reduceLT, Nat.reduceLeDiff, Nat.reduceEqDiff, Nat.reduceBEq, List.cons_append, List.nil_append,
    aOps, aOp, aExec, opStep, guardOf, ↓ifB_tt, ↓ifB_ff, ↓ifB_t, ↓ifB_f, ↓ifG_tt, ↓ifG_ff, ↓ifG_tf, ↓ifG_ft, ifB, ifG, and_assoc, List.getElem?_cons_zero, List.getElem?_cons_succ, AS.ev, constAV, constD, AS.put, aThen, aBlock, aDraws, Ctx.one, fpOf, opnds, keysAll, AV.keys, ownKey, makes, roOf, List.map_cons, List.map_nil, Ctx.esize, Ctx.size, Ctx.ag, TK.ag, Ctx.elemT, Ctx.fieldAt, tab3, tab4, tab22, tab23, tab33, tab37, tab42, tab51, List.getD_cons_zero, List.getD_cons_succ, List.set_cons_zero, List.set_cons_succ, true_and, and_true,
    hPick, hAlloc, hLoad, hStore, hFieldAddr, hField, hIndexAddr, hIndex, hSlice, hBuildSlice, hBuild, buildGo, hMakeSlice, hSource, hAppend, hLen, hMin, hMax, hConv, hExtract, hCall, hCallV, hBin, hUn, pureOut, inArgs, outCV, outOne, outAll, mkTup, mkAgg, mkClo, allD, pur, purs, purParts, allLt, allFit, zerosD, setAll, evs, evO, evParts, lk, upd, splice, AV.cells, AV.fits, cellsFrom, Obj.isBox, D.setCell, D.asAgg, lkC, retOk, resAll, resAV, Post,
    isInt_int, isBool_bool, isStr_str, isList_list, isAnyInt_int, i_int, b_bool, s_str, l_list, fits_int, fits_bool, fits_str, fits_list, fits_agg, fits_ptr, fits_clo, fits_nilp, fits_nilf, cell_int, cell_bool, cell_str, cell_list, cell_clo, cell_ptr, cell_agg, encI_def, encB_def, encS_def, i_enc, b_enc, s_enc, isInt_enc, isBool_enc, isStr_enc, fits_encI, cell_encI, fits_encB, cell_encB, fits_encS, cell_encS, isAnyInt_enc, l_enc, isList_enc, fits_encL, cell_encL, dec_int, dec_bool, dec_str, dec_encE, isE_int, isE_bool, isE_str, isE_encE, dec_list, isE_list, isE_map, map_dec_enc, ltB_true, ltB_false, leB_true, leB_false, szI, szB, szS, szL, boolE, intE, strE, listE, encE, SlE, List.length_map, List.length_append, List.length_replicate, Int.toNat_natCast, Bool.not_true, Bool.not_false, Bool.not_not, decide_true, decide_false, Bool.and_true, Bool.true_and, Bool.and_false, Bool.false_and, Bool.or_true, Bool.true_or, Bool.or_false, Bool.false_or, List.length_singleton, decide_eq_true_eq, decide_eq_false_iff_not, beq_iff_eq, beq_eq_false_iff_ne, bne_iff_ne, bne_eq_false_iff_eq, Bool.not_eq_true', Bool.not_eq_false', forall_const, true_imp_iff, false_imp_iff, if_true, if_false, reduceIte, reduceCtorEq, and_self, or_self, not_true, not_false_eq_true, List.append_nil, D.bool.injEq, D.int.injEq, D.str.injEq, D.list.injEq, D.agg.injEq, bne_self_eq_false, CV.d.injEq, CV.own.injEq, CV.tup.injEq, List.cons.injEq, List.toList_toArray, Option.some.injEq, Option.toList, List.flatMap_cons, List.flatMap_nil, Prod.mk.injEq, List.take_succ_cons, List.take_zero, List.drop_succ_cons, List.drop_zero, List.getD_nil, con0, con1, con2, con3, con2t, con3t, ctx41_t, ctx41_c, ctx41_d, con41, con35, enc_Part1, dec_Part1, enc_Pt, isE_Pt, dec_Pt, el_map (⟨[]⟩ : Sl Int) hlt]
    refine ⟨fun _ => ⟨by omega, by omega, hbk, hs, hss, fun he => ?_, fun he => ⟨by rw [inR_i64]; omega, k + 1, by simp [Wk, wkT, wk1, AV.kept, wkO, enc_Part1], by omega, fun j hj => ?_, by omega⟩⟩, fun h => by omega⟩
    · unfold firstPart
      rw [if_pos (any_at (p := fun b : Sl Int => part b.l s) ⟨[]⟩ k hlt he)]
      congr 1
      symm
      rw [List.findIdx_eq hlt]
      refine ⟨by simpa [hlt] using he, fun j hj => ?_⟩
      have := hno j hj
      simpa [show j < l.length by omega] using this
    · by_cases hjk : j = k
      · subst hjk; exact he
      · exact hno j (by omega)
  · simp (config := { maxSteps := 2000000 }) only [awp_skip, awp_region, awp_draw, awp_seq, awp_cond, awp_block, awp_loop, awp_exit, awp_ret, beginAS, beginAll, deads, List.length_cons, List.length_nil, Nat.reduceAdd, Nat.reduceSub, Nat.reduceMul, Nat.reduceMod, Nat.reduceLT, Nat.reduceLeDiff, Nat.reduceEqDiff, Nat.reduceBEq, List.cons_append, List.nil_append,
    aOps, aOp, aExec, opStep, guardOf, ↓ifB_tt, ↓ifB_ff, ↓ifB_t, ↓ifB_f, ↓ifG_tt, ↓ifG_ff, ↓ifG_tf, ↓ifG_ft, ifB, ifG, and_assoc, List.getElem?_cons_zero, List.getElem?_cons_succ, AS.ev, constAV, constD, AS.put, aThen, aBlock, aDraws, Ctx.one, fpOf, opnds, keysAll, AV.keys, ownKey, makes, roOf, List.map_cons, List.map_nil, Ctx.esize, Ctx.size, Ctx.ag, TK.ag, Ctx.elemT, Ctx.fieldAt, tab3, tab4, tab22, tab23, tab33, tab37, tab42, tab51, List.getD_cons_zero, List.getD_cons_succ, List.set_cons_zero, List.set_cons_succ, true_and, and_true,
    hPick, hAlloc, hLoad, hStore, hFieldAddr, hField, hIndexAddr, hIndex, hSlice, hBuildSlice, hBuild, buildGo, hMakeSlice, hSource, hAppend, hLen, hMin, hMax, hConv, hExtract, hCall, hCallV, hBin, hUn, pureOut, inArgs, outCV, outOne, outAll, mkTup, mkAgg, mkClo, allD, pur, purs, purParts, allLt, allFit, zerosD, setAll, evs, evO, evParts, lk, upd, splice, AV.cells, AV.fits, cellsFrom, Obj.isBox, D.setCell, D.asAgg, lkC, retOk, resAll, resAV, Post,
    isInt_int, isBool_bool, isStr_str, isList_list, isAnyInt_int, i_int, b_bool, s_str, l_list, fits_int, fits_bool, fits_str, fits_list, fits_agg, fits_ptr, fits_clo, fits_nilp, fits_nilf, cell_int, cell_bool, cell_str, cell_list, cell_clo, cell_ptr, cell_agg, encI_def, encB_def, encS_def, i_enc, b_enc, s_enc, isInt_enc, isBool_enc, isStr_enc, fits_encI, cell_encI, fits_encB, cell_encB, fits_encS, cell_encS, isAnyInt_enc, l_enc, isList_enc, fits_encL, cell_encL, dec_int, dec_bool, dec_str, dec_encE, isE_int, isE_bool, isE_str, isE_encE, dec_list, isE_list, isE_map, map_dec_enc, ltB_true, ltB_false, leB_true, leB_false, szI, szB, szS, szL, boolE, intE, strE, listE, encE, SlE, List.length_map, List.length_append, List.length_replicate, Int.toNat_natCast, Bool.not_true, Bool.not_false, Bool.not_not, decide_true, decide_false, Bool.and_true, Bool.true_and, Bool.and_false, Bool.false_and, Bool.or_true, Bool.true_or, Bool.or_false, Bool.false_or, List.length_singleton, decide_eq_true_eq, decide_eq_false_iff_not, beq_iff_eq, beq_eq_false_iff_ne, bne_iff_ne, bne_eq_false_iff_eq, Bool.not_eq_true', Bool.not_eq_false', forall_const, true_imp_iff, false_imp_iff, if_true, if_false, reduceIte, reduceCtorEq, and_self, or_self, not_true, not_false_eq_true, List.append_nil, D.bool.injEq, D.int.injEq, D.str.injEq, D.list.injEq, D.agg.injEq, bne_self_eq_false, CV.d.injEq, CV.own.injEq, CV.tup.injEq, List.cons.injEq, List.toList_toArray, Option.some.injEq, Option.toList, List.flatMap_cons, List.flatMap_nil, Prod.mk.injEq, List.take_succ_cons, List.take_zero, List.drop_succ_cons, List.drop_zero, List.getD_nil, con0, con1, con2, con3, con2t, con3t, ctx41_t, ctx41_c, ctx41_d, con41, con35, enc_Part1, dec_Part1]
    refine ⟨fun h => by omega, fun _ => ?_⟩
    unfold firstPart
    rw [if_neg]
    rw [any_not (p := fun b : Sl Int => part b.l s) ⟨[]⟩ fun j hj => hno j (by omega)]
    simp

/-! ### slices.ContainsFunc, at them -/
def con34 : Con := con2 (fun (l : Sl (Sl Int)) (f : Part1) => l.l.length ≤ 9223372036854775807 ∧ (∀ b ∈ l.l, b.l.length ≤ 9223372036854775807) ∧ f.s.length ≤ 1048576 ∧ Sorted f.s) (fun l f => l.l.any fun b => part b.l f.s)
def ctx34 : Ctx := ⟨tab, lkC [(41, con41)], 60⟩
theorem ctx34_t : ctx34.τ = tab := rfl
theorem ctx34_c : ctx34.Γ = lkC [(41, con41)] := rfl
theorem ctx34_d : ctx34.dp = 60 := rfl
theorem good34 : Good Try.prog (34, con34) := by
  refine ⟨enters_of Try.func34 (by kernel_rfl) rfl, ?_⟩
  have K : CtxOk Try.prog ctx34 := ctxOk_of tabOk mixedOk (by
    intro p hp
    simp only [List.mem_cons, List.not_mem_nil, or_false] at hp
    rcases hp with rfl
    · exact good41)
  obtain ⟨c, hc⟩ : ∃ c, Try.f34.body = some c := ⟨_, rfl⟩
  refine fn_sound K Try.func34 hc [.tmp 4] rfl 9 rfl (fun cvs hpre => ?_)
  change con34.pre cvs at hpre
  unfold con34 at hpre
  obtain ⟨⟨l⟩, ⟨s⟩, rfl, hl, hb, hs, hss⟩ := con2_pre hpre
  simp only at hl hb hs hss
  simp only [Try.f34, Option.some.injEq] at hc
  subst hc
  simp (config := { maxSteps := 2000000 }) only [awp_skip, awp_region, awp_draw, awp_seq, awp_cond, awp_block, awp_loop, awp_exit, awp_ret, beginAS, beginAll, deads, List.length_cons, List.length_nil, Nat.reduceAdd, Nat.reduceSub, Nat.reduceMul, Nat.reduceMod, Nat.reduceLT, Nat.reduceLeDiff, Nat.reduceEqDiff, Nat.reduceBEq, List.cons_append, List.nil_append,
    aOps, aOp, aExec, opStep, guardOf, ↓ifB_tt, ↓ifB_ff, ↓ifB_t, ↓ifB_f, ↓ifG_tt, ↓ifG_ff, ↓ifG_tf, ↓ifG_ft, ifB, ifG, and_assoc, List.getElem?_cons_zero, List.getElem?_cons_succ, AS.ev, constAV, constD, AS.put, aThen, aBlock, aDraws, Ctx.one, fpOf, opnds, keysAll, AV.keys, ownKey, makes, roOf, List.map_cons, List.map_nil, Ctx.esize, Ctx.size, Ctx.ag, TK.ag, Ctx.elemT, Ctx.fieldAt, tab3, tab4, tab22, tab23, tab33, tab37, tab42, tab51, List.getD_cons_zero, List.getD_cons_succ, List.set_cons_zero, List.set_cons_succ, true_and, and_true,
    hPick, hAlloc, hLoad, hStore, hFieldAddr, hField, hIndexAddr, hIndex, hSlice, hBuildSlice, hBuild, buildGo, hMakeSlice, hSource, hAppend, hLen, hMin, hMax, hConv, hExtract, hCall, hCallV, hBin, hUn, pureOut, inArgs, outCV, outOne, outAll, mkTup, mkAgg, mkClo, allD, pur, purs, purParts, allLt, allFit, zerosD, setAll, evs, evO, evParts, lk, upd, splice, AV.cells, AV.fits, cellsFrom, Obj.isBox, D.setCell, D.asAgg, lkC, retOk, resAll, resAV, Post,
    isInt_int, isBool_bool, isStr_str, isList_list, isAnyInt_int, i_int, b_bool, s_str, l_list, fits_int, fits_bool, fits_str, fits_list, fits_agg, fits_ptr, fits_clo, fits_nilp, fits_nilf, cell_int, cell_bool, cell_str, cell_list, cell_clo, cell_ptr, cell_agg, encI_def, encB_def, encS_def, i_enc, b_enc, s_enc, isInt_enc, isBool_enc, isStr_enc, fits_encI, cell_encI, fits_encB, cell_encB, fits_encS, cell_encS, isAnyInt_enc, l_enc, isList_enc, fits_encL, cell_encL, dec_int, dec_bool, dec_str, dec_encE, isE_int, isE_bool, isE_str, isE_encE, dec_list, isE_list, isE_map, map_dec_enc, ltB_true, ltB_false, leB_true, leB_false, szI, szB, szS, szL, boolE, intE, strE, listE, encE, SlE, List.length_map, List.length_append, List.length_replicate, Int.toNat_natCast, Bool.not_true, Bool.not_false, Bool.not_not, decide_true, decide_false, Bool.and_true, Bool.true_and, Bool.and_false, Bool.false_and, Bool.or_true, Bool.true_or, Bool.or_false, Bool.false_or, List.length_singleton, decide_eq_true_eq, decide_eq_false_iff_not, beq_iff_eq, beq_eq_false_iff_ne, bne_iff_ne, bne_eq_false_iff_eq, Bool.not_eq_true', Bool.not_eq_false', forall_const, true_imp_iff, false_imp_iff, if_true, if_false, reduceIte, reduceCtorEq, and_self, or_self, not_true, not_false_eq_true, List.append_nil, D.bool.injEq, D.int.injEq, D.str.injEq, D.list.injEq, D.agg.injEq, bne_self_eq_false, CV.d.injEq, CV.own.injEq, CV.tup.injEq, List.cons.injEq, List.toList_toArray, Option.some.injEq, Option.toList, List.flatMap_cons, List.flatMap_nil, Prod.mk.injEq, List.take_succ_cons, List.take_zero, List.drop_succ_cons, List.drop_zero, List.getD_nil, con0, con1, con2, con3, con2t, con3t, ctx34_t, ctx34_c, ctx34_d, con34, con41, enc_Part1, dec_Part1, isE_Part1]
  refine ⟨hl, hb, hs, hss, ?_⟩
  unfold firstPart
  by_cases h : (l.any fun b => part b.l s) = true
  · rw [if_pos h, h]
    simp [leB]
  · rw [if_neg h]
    have : (l.any fun b => part b.l s) = false := by simpa using h
    rw [this]
    rfl

/-! ### a judge -/
/-- core.of$1 and its captured bad sets. -/
structure Fit1 where
  bad : List (Sl Int)
instance encFit1 : Enc Fit1 := ⟨fun a => .clo 33 [.ptr 1 (enc (Sl.mk a.bad))], fun x => match x with
  | .clo _ [.ptr _ y] => ⟨(dec y : Sl (Sl Int)).l⟩
  | _ => ⟨[]⟩, fun a => by
  show Fit1.mk (dec (enc (Sl.mk a.bad)) : Sl (Sl Int)).l = a
  rw [Enc.dec_enc]⟩
/-- core.judge -/
structure Judge where
  bad : List (Sl Int)
instance encJudge : Enc Judge := ⟨fun a => .agg [.clo 33 [.ptr 1 (enc (Sl.mk a.bad))]], fun x => match x with
  | .agg [.clo _ [.ptr _ y]] => ⟨(dec y : Sl (Sl Int)).l⟩
  | _ => ⟨[]⟩, fun a => by
  show Judge.mk (dec (enc (Sl.mk a.bad)) : Sl (Sl Int)).l = a
  rw [Enc.dec_enc]⟩
theorem enc_Judge {s : List (Sl Int)} : (enc (Judge.mk s) : D) = .agg [.clo 33 [.ptr 1 (enc (Sl.mk s))]] := rfl

def Bads (bad : List (Sl Int)) : Prop := bad.length ≤ 1048576 ∧ ∀ b ∈ bad, b.l.length ≤ 1048576
def con33 : Con := con2 (fun (s : Sl Int) (bad : Pt (Sl (Sl Int))) => s.l.length ≤ 1048576 ∧ Sorted s.l ∧ Bads bad.v.l) (fun s bad => fits s.l bad.v.l)
def ctx33 : Ctx := ⟨tab, lkC [(34, con34)], 60⟩
theorem ctx33_t : ctx33.τ = tab := rfl
theorem ctx33_c : ctx33.Γ = lkC [(34, con34)] := rfl
theorem ctx33_d : ctx33.dp = 60 := rfl
theorem good33 : Good Try.prog (33, con33) := by
  refine ⟨enters_of Try.func33 (by kernel_rfl) rfl, ?_⟩
  have K : CtxOk Try.prog ctx33 := ctxOk_of tabOk mixedOk (by
    intro p hp
    simp only [List.mem_cons, List.not_mem_nil, or_false] at hp
    rcases hp with rfl
    · exact good34)
  obtain ⟨c, hc⟩ : ∃ c, Try.f33.body = some c := ⟨_, rfl⟩
  refine fn_sound K Try.func33 hc [.tmp 3] rfl 8 rfl (fun cvs hpre => ?_)
  change con33.pre cvs at hpre
  unfold con33 at hpre
  obtain ⟨⟨s⟩, ⟨⟨bad⟩⟩, rfl, hs, hss, hb1, hb2⟩ := con2_pre hpre
  simp only at hs hss hb1 hb2
  simp only [Try.f33, Option.some.injEq] at hc
  subst hc
  simp (config := { maxSteps := 2000000 }) only [awp_skip, awp_region, awp_draw, awp_seq, awp_cond, awp_block, awp_loop, awp_exit, awp_ret, beginAS, beginAll, deads, List.length_cons, List.length_nil, Nat.reduceAdd, Nat.reduceSub, Nat.reduceMul, Nat.reduceMod, Nat.reduceLT, Nat.reduceLeDiff, Nat.reduceEqDiff, Nat.reduceBEq, List.cons_append, List.nil_append,
    aOps, aOp, aExec, opStep, guardOf, ↓ifB_tt, ↓ifB_ff, ↓ifB_t, ↓ifB_f, ↓ifG_tt, ↓ifG_ff, ↓ifG_tf, ↓ifG_ft, ifB, ifG, and_assoc, List.getElem?_cons_zero, List.getElem?_cons_succ, AS.ev, constAV, constD, AS.put, aThen, aBlock, aDraws, Ctx.one, fpOf, opnds, keysAll, AV.keys, ownKey, makes, roOf, List.map_cons, List.map_nil, Ctx.esize, Ctx.size, Ctx.ag, TK.ag, Ctx.elemT, Ctx.fieldAt, tab3, tab4, tab22, tab23, tab33, tab37, tab42, tab51, List.getD_cons_zero, List.getD_cons_succ, List.set_cons_zero, List.set_cons_succ, true_and, and_true,
    hPick, hAlloc, hLoad, hStore, hFieldAddr, hField, hIndexAddr, hIndex, hSlice, hBuildSlice, hBuild, buildGo, hMakeSlice, hSource, hAppend, hLen, hMin, hMax, hConv, hExtract, hCall, hCallV, hBin, hUn, pureOut, inArgs, outCV, outOne, outAll, mkTup, mkAgg, mkClo, allD, pur, purs, purParts, allLt, allFit, zerosD, setAll, evs, evO, evParts, lk, upd, splice, AV.cells, AV.fits, cellsFrom, Obj.isBox, D.setCell, D.asAgg, lkC, retOk, resAll, resAV, Post,
    isInt_int, isBool_bool, isStr_str, isList_list, isAnyInt_int, i_int, b_bool, s_str, l_list, fits_int, fits_bool, fits_str, fits_list, fits_agg, fits_ptr, fits_clo, fits_nilp, fits_nilf, cell_int, cell_bool, cell_str, cell_list, cell_clo, cell_ptr, cell_agg, encI_def, encB_def, encS_def, i_enc, b_enc, s_enc, isInt_enc, isBool_enc, isStr_enc, fits_encI, cell_encI, fits_encB, cell_encB, fits_encS, cell_encS, isAnyInt_enc, l_enc, isList_enc, fits_encL, cell_encL, dec_int, dec_bool, dec_str, dec_encE, isE_int, isE_bool, isE_str, isE_encE, dec_list, isE_list, isE_map, map_dec_enc, ltB_true, ltB_false, leB_true, leB_false, szI, szB, szS, szL, boolE, intE, strE, listE, encE, SlE, List.length_map, List.length_append, List.length_replicate, Int.toNat_natCast, Bool.not_true, Bool.not_false, Bool.not_not, decide_true, decide_false, Bool.and_true, Bool.true_and, Bool.and_false, Bool.false_and, Bool.or_true, Bool.true_or, Bool.or_false, Bool.false_or, List.length_singleton, decide_eq_true_eq, decide_eq_false_iff_not, beq_iff_eq, beq_eq_false_iff_ne, bne_iff_ne, bne_eq_false_iff_eq, Bool.not_eq_true', Bool.not_eq_false', forall_const, true_imp_iff, false_imp_iff, if_true, if_false, reduceIte, reduceCtorEq, and_self, or_self, not_true, not_false_eq_true, List.append_nil, D.bool.injEq, D.int.injEq, D.str.injEq, D.list.injEq, D.agg.injEq, bne_self_eq_false, CV.d.injEq, CV.own.injEq, CV.tup.injEq, List.cons.injEq, List.toList_toArray, Option.some.injEq, Option.toList, List.flatMap_cons, List.flatMap_nil, Prod.mk.injEq, List.take_succ_cons, List.take_zero, List.drop_succ_cons, List.drop_zero, List.getD_nil, con0, con1, con2, con3, con2t, con3t, ctx33_t, ctx33_c, ctx33_d, con33, con34, enc_Pt, isE_Pt, dec_Pt, enc_Part1, dec_Part1, isE_Part1]
  exact ⟨by omega, fun b hb => by have := hb2 b hb; omega, hs, hss, rfl⟩

def con26 : Con := con1 (fun (bad : Sl (Sl Int)) => True) (fun bad => Judge.mk bad.l)
def ctx26 : Ctx := ⟨tab, lkC [], 60⟩
theorem ctx26_t : ctx26.τ = tab := rfl
theorem ctx26_c : ctx26.Γ = lkC [] := rfl
theorem ctx26_d : ctx26.dp = 60 := rfl
theorem good26 : Good Try.prog (26, con26) := by
  refine ⟨enters_of Try.func26 (by kernel_rfl) rfl, ?_⟩
  have K : CtxOk Try.prog ctx26 := ctxOk_of tabOk mixedOk (by simp)
  obtain ⟨c, hc⟩ : ∃ c, Try.f26.body = some c := ⟨_, rfl⟩
  refine fn_sound K Try.func26 hc [.cell 2 37] rfl 5 rfl (fun cvs hpre => ?_)
  change con26.pre cvs at hpre
  unfold con26 at hpre
  obtain ⟨⟨bad⟩, rfl, -⟩ := con1_pre hpre
  simp only [Try.f26, Option.some.injEq] at hc
  subst hc
  simp (config := { maxSteps := 2000000 }) only [awp_skip, awp_region, awp_draw, awp_seq, awp_cond, awp_block, awp_loop, awp_exit, awp_ret, beginAS, beginAll, deads, List.length_cons, List.length_nil, Nat.reduceAdd, Nat.reduceSub, Nat.reduceMul, Nat.reduceMod, Nat.reduceLT, Nat.reduceLeDiff, Nat.reduceEqDiff, Nat.reduceBEq, List.cons_append, List.nil_append,
    aOps, aOp, aExec, opStep, guardOf, ↓ifB_tt, ↓ifB_ff, ↓ifB_t, ↓ifB_f, ↓ifG_tt, ↓ifG_ff, ↓ifG_tf, ↓ifG_ft, ifB, ifG, and_assoc, List.getElem?_cons_zero, List.getElem?_cons_succ, AS.ev, constAV, constD, AS.put, aThen, aBlock, aDraws, Ctx.one, fpOf, opnds, keysAll, AV.keys, ownKey, makes, roOf, List.map_cons, List.map_nil, Ctx.esize, Ctx.size, Ctx.ag, TK.ag, Ctx.elemT, Ctx.fieldAt, tab3, tab4, tab22, tab23, tab33, tab37, tab42, tab51, List.getD_cons_zero, List.getD_cons_succ, List.set_cons_zero, List.set_cons_succ, true_and, and_true,
    hPick, hAlloc, hLoad, hStore, hFieldAddr, hField, hIndexAddr, hIndex, hSlice, hBuildSlice, hBuild, buildGo, hMakeSlice, hSource, hAppend, hLen, hMin, hMax, hConv, hExtract, hCall, hCallV, hBin, hUn, pureOut, inArgs, outCV, outOne, outAll, mkTup, mkAgg, mkClo, allD, pur, purs, purParts, allLt, allFit, zerosD, setAll, evs, evO, evParts, lk, upd, splice, AV.cells, AV.fits, cellsFrom, Obj.isBox, D.setCell, D.asAgg, lkC, retOk, resAll, resAV, Post,
    isInt_int, isBool_bool, isStr_str, isList_list, isAnyInt_int, i_int, b_bool, s_str, l_list, fits_int, fits_bool, fits_str, fits_list, fits_agg, fits_ptr, fits_clo, fits_nilp, fits_nilf, cell_int, cell_bool, cell_str, cell_list, cell_clo, cell_ptr, cell_agg, encI_def, encB_def, encS_def, i_enc, b_enc, s_enc, isInt_enc, isBool_enc, isStr_enc, fits_encI, cell_encI, fits_encB, cell_encB, fits_encS, cell_encS, isAnyInt_enc, l_enc, isList_enc, fits_encL, cell_encL, dec_int, dec_bool, dec_str, dec_encE, isE_int, isE_bool, isE_str, isE_encE, dec_list, isE_list, isE_map, map_dec_enc, ltB_true, ltB_false, leB_true, leB_false, szI, szB, szS, szL, boolE, intE, strE, listE, encE, SlE, List.length_map, List.length_append, List.length_replicate, Int.toNat_natCast, Bool.not_true, Bool.not_false, Bool.not_not, decide_true, decide_false, Bool.and_true, Bool.true_and, Bool.and_false, Bool.false_and, Bool.or_true, Bool.true_or, Bool.or_false, Bool.false_or, List.length_singleton, decide_eq_true_eq, decide_eq_false_iff_not, beq_iff_eq, beq_eq_false_iff_ne, bne_iff_ne, bne_eq_false_iff_eq, Bool.not_eq_true', Bool.not_eq_false', forall_const, true_imp_iff, false_imp_iff, if_true, if_false, reduceIte, reduceCtorEq, and_self, or_self, not_true, not_false_eq_true, List.append_nil, D.bool.injEq, D.int.injEq, D.str.injEq, D.list.injEq, D.agg.injEq, bne_self_eq_false, CV.d.injEq, CV.own.injEq, CV.tup.injEq, List.cons.injEq, List.toList_toArray, Option.some.injEq, Option.toList, List.flatMap_cons, List.flatMap_nil, Prod.mk.injEq, List.take_succ_cons, List.take_zero, List.drop_succ_cons, List.drop_zero, List.getD_nil, con0, con1, con2, con3, con2t, con3t, ctx26_t, ctx26_c, ctx26_d, con26, enc_Judge]

/-! ### core.Fits -/
def con15 : Con := con2 (fun (s : Sl Int) (bad : Sl (Sl Int)) => s.l.length ≤ 1048576 ∧ Sorted s.l ∧ Bads bad.l) (fun s bad => fits s.l bad.l)
def ctx15 : Ctx := ⟨tab, lkC [(26, con26), (33, con33)], 60⟩
theorem ctx15_t : ctx15.τ = tab := rfl
theorem ctx15_c : ctx15.Γ = lkC [(26, con26), (33, con33)] := rfl
theorem ctx15_d : ctx15.dp = 60 := rfl
theorem good15 : Good Try.prog (15, con15) := by
  refine ⟨enters_of Try.func15 (by kernel_rfl) rfl, ?_⟩
  have K : CtxOk Try.prog ctx15 := ctxOk_of tabOk mixedOk (by
    intro p hp
    simp only [List.mem_cons, List.not_mem_nil, or_false] at hp
    rcases hp with rfl | rfl
    · exact good26
    · exact good33)
  obtain ⟨c, hc⟩ : ∃ c, Try.f15.body = some c := ⟨_, rfl⟩
  refine fn_sound K Try.func15 hc [.tmp 4] rfl 10 rfl (fun cvs hpre => ?_)
  change con15.pre cvs at hpre
  unfold con15 at hpre
  obtain ⟨⟨s⟩, ⟨bad⟩, rfl, hs, hss, hb1, hb2⟩ := con2_pre hpre
  simp only at hs hss hb1 hb2
  simp only [Try.f15, Option.some.injEq] at hc
  subst hc
  simp (config := { maxSteps := 2000000 }) only [awp_skip, awp_region, awp_draw, awp_seq, awp_cond, awp_block, awp_loop, awp_exit, awp_ret, beginAS, beginAll, deads, List.length_cons, List.length_nil, Nat.reduceAdd, Nat.reduceSub, Nat.reduceMul, Nat.reduceMod, Nat.reduceLT, Nat.reduceLeDiff, Nat.reduceEqDiff, Nat.reduceBEq, List.cons_append, List.nil_append,
    aOps, aOp, aExec, opStep, guardOf, ↓ifB_tt, ↓ifB_ff, ↓ifB_t, ↓ifB_f, ↓ifG_tt, ↓ifG_ff, ↓ifG_tf, ↓ifG_ft, ifB, ifG, and_assoc, List.getElem?_cons_zero, List.getElem?_cons_succ, AS.ev, constAV, constD, AS.put, aThen, aBlock, aDraws, Ctx.one, fpOf, opnds, keysAll, AV.keys, ownKey, makes, roOf, List.map_cons, List.map_nil, Ctx.esize, Ctx.size, Ctx.ag, TK.ag, Ctx.elemT, Ctx.fieldAt, tab3, tab4, tab22, tab23, tab33, tab37, tab42, tab51, List.getD_cons_zero, List.getD_cons_succ, List.set_cons_zero, List.set_cons_succ, true_and, and_true,
    hPick, hAlloc, hLoad, hStore, hFieldAddr, hField, hIndexAddr, hIndex, hSlice, hBuildSlice, hBuild, buildGo, hMakeSlice, hSource, hAppend, hLen, hMin, hMax, hConv, hExtract, hCall, hCallV, hBin, hUn, pureOut, inArgs, outCV, outOne, outAll, mkTup, mkAgg, mkClo, allD, pur, purs, purParts, allLt, allFit, zerosD, setAll, evs, evO, evParts, lk, upd, splice, AV.cells, AV.fits, cellsFrom, Obj.isBox, D.setCell, D.asAgg, lkC, retOk, resAll, resAV, Post,
    isInt_int, isBool_bool, isStr_str, isList_list, isAnyInt_int, i_int, b_bool, s_str, l_list, fits_int, fits_bool, fits_str, fits_list, fits_agg, fits_ptr, fits_clo, fits_nilp, fits_nilf, cell_int, cell_bool, cell_str, cell_list, cell_clo, cell_ptr, cell_agg, encI_def, encB_def, encS_def, i_enc, b_enc, s_enc, isInt_enc, isBool_enc, isStr_enc, fits_encI, cell_encI, fits_encB, cell_encB, fits_encS, cell_encS, isAnyInt_enc, l_enc, isList_enc, fits_encL, cell_encL, dec_int, dec_bool, dec_str, dec_encE, isE_int, isE_bool, isE_str, isE_encE, dec_list, isE_list, isE_map, map_dec_enc, ltB_true, ltB_false, leB_true, leB_false, szI, szB, szS, szL, boolE, intE, strE, listE, encE, SlE, List.length_map, List.length_append, List.length_replicate, Int.toNat_natCast, Bool.not_true, Bool.not_false, Bool.not_not, decide_true, decide_false, Bool.and_true, Bool.true_and, Bool.and_false, Bool.false_and, Bool.or_true, Bool.true_or, Bool.or_false, Bool.false_or, List.length_singleton, decide_eq_true_eq, decide_eq_false_iff_not, beq_iff_eq, beq_eq_false_iff_ne, bne_iff_ne, bne_eq_false_iff_eq, Bool.not_eq_true', Bool.not_eq_false', forall_const, true_imp_iff, false_imp_iff, if_true, if_false, reduceIte, reduceCtorEq, and_self, or_self, not_true, not_false_eq_true, List.append_nil, D.bool.injEq, D.int.injEq, D.str.injEq, D.list.injEq, D.agg.injEq, bne_self_eq_false, CV.d.injEq, CV.own.injEq, CV.tup.injEq, List.cons.injEq, List.toList_toArray, Option.some.injEq, Option.toList, List.flatMap_cons, List.flatMap_nil, Prod.mk.injEq, List.take_succ_cons, List.take_zero, List.drop_succ_cons, List.drop_zero, List.getD_nil, con0, con1, con2, con3, con2t, con3t, ctx15_t, ctx15_c, ctx15_d, con15, con26, con33, enc_Judge, enc_Pt, isE_Pt, dec_Pt, D.isAgg]
  exact ⟨hs, hss, hb1, hb2⟩

end Go.Am.Core
