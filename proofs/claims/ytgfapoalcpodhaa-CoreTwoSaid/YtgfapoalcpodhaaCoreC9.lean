/- Contracts of functions that the laws of core reach, and plain laws of sets. Conditions: those that each contract states. -/
import Derived.Test.YtgfapoalcpodhaaCoreC8
import Derived.Test.YtgfapoalcpodhaaAm20
set_option linter.unusedSimpArgs false
set_option linter.unusedVariables false
set_option maxHeartbeats 1000000
namespace Go.Am.Core
open Go.Proofs
open Enc (enc dec)

def con27d : Con := con1 (fun (l : Sl Int) => l.l.length ≤ 1048576) (fun l => l)
theorem good27d : Good Try.prog (27, con27d) := by
  refine (Good.frozen good27 (fun c => match c with
    | [.d x] => .list 1 x.l
    | _ => .nilp) (fun c hc => by
    change con27.pre c at hc
    unfold con27 at hc
    simp only at hc
    split at hc
    · next x => exact ⟨1, x.l, rfl, rfl⟩
    · exact hc.elim)).asksMore (fun c hc => ?_)
  obtain ⟨⟨l⟩, rfl, hl⟩ := con1_pre hc
  exact ⟨⟨isE_enc (Sl.mk l), by rw [Enc.dec_enc]; exact hl⟩, by show CV.d (enc (dec (enc (Sl.mk l)) : Sl Int)) = _; rw [Enc.dec_enc]; rfl⟩

/-! ### core.Shrink -/
def shrinkLoop (bad : List (Sl Int)) : Nat → List Int → Nat → List Int
  | 0, out, _ => out
  | f + 1, out, k => if fits (cut out k) bad = false then shrinkLoop bad f (cut out k) k else shrinkLoop bad f out (k + 1)
def shrinkC (s : List Int) (bad : List (Sl Int)) : Sl Int × Bool := if fits s bad = true then (⟨[]⟩, false) else (⟨shrinkLoop bad s.length s 0⟩, true)
theorem cut_len {l : List Int} {k : Nat} (h : k < l.length) : (cut l k).length = l.length - 1 := by
  unfold cut
  simp
  omega
theorem cut_sub (l : List Int) (k : Int) : (cut l k).Sublist l := by
  unfold cut
  conv => rhs; rw [← List.take_append_drop k.toNat l]
  exact (List.Sublist.refl _).append (by rw [← List.drop_drop]; exact List.drop_sublist _ _)
theorem Sorted.cut {l : List Int} (h : Sorted l) (k : Int) : Sorted (cut l k) := List.Pairwise.sublist (cut_sub l k) h
def con10 : Con := con2t (fun (s : Sl Int) (bad : Sl (Sl Int)) => s.l.length ≤ 1048576 ∧ Sorted s.l ∧ Bads bad.l) (fun s bad => shrinkC s.l bad.l)
def ctx10 : Ctx := ⟨tab, lkC [(26, con26), (33, con33), (27, con27d), (28, con28)], 60⟩
theorem ctx10_t : ctx10.τ = tab := rfl
theorem ctx10_c : ctx10.Γ = lkC [(26, con26), (33, con33), (27, con27d), (28, con28)] := rfl
theorem ctx10_d : ctx10.dp = 60 := rfl
theorem good10 : Good Try.prog (10, con10) := by
  refine ⟨enters_of Try.func10 (by kernel_rfl) rfl, ?_⟩
  have K : CtxOk Try.prog ctx10 := ctxOk_of tabOk mixedOk (by
    intro p hp
    simp only [List.mem_cons, List.not_mem_nil, or_false] at hp
    rcases hp with rfl | rfl | rfl | rfl
    · exact good26
    · exact good33
    · exact good27d
    · exact good28)
  obtain ⟨c, hc⟩ : ∃ c, Try.f10.body = some c := ⟨_, rfl⟩
  refine fn_sound K Try.func10 hc [.tmp 4, .tmp 5] rfl 34 rfl (fun cvs hpre => ?_)
  change con10.pre cvs at hpre
  unfold con10 at hpre
  obtain ⟨⟨s⟩, ⟨bad⟩, rfl, hs, hss, hb1, hb2⟩ := con2t_pre hpre
  simp only at hs hss hb1 hb2
  simp only [Try.f10, Option.some.injEq] at hc
  subst hc
  simp (config := { maxSteps := 4000000 }) only [awp_skip, awp_region, awp_draw, awp_seq, awp_cond, awp_block, awp_loop, awp_exit, awp_ret, beginAS, beginAll, deads, List.length_cons, List.length_nil, Nat.reduceAdd, Nat.reduceSub, Nat.reduceMul, Nat.reduceMod, Nat.reduceLT, Nat.reduceLeDiff, Nat.reduceEqDiff, Nat.reduceBEq, List.cons_append, List.nil_append,     aOps, aOp, aExec, opStep, guardOf, ↓ifB_tt, ↓ifB_ff, ↓ifB_t, ↓ifB_f, ↓ifG_tt, ↓ifG_ff, ↓ifG_tf, ↓ifG_ft, ifB, ifG, and_assoc, List.getElem?_cons_zero, List.getElem?_cons_succ, AS.ev, constAV, constD, AS.put, aThen, aBlock, aDraws, Ctx.one, fpOf, opnds, keysAll, AV.keys, ownKey, makes, roOf, List.map_cons, List.map_nil, Ctx.esize, Ctx.size, Ctx.ag, TK.ag, Ctx.elemT, Ctx.fieldAt, tab3, tab4, tab22, tab23, tab33, tab37, tab42, tab51, List.getD_cons_zero, List.getD_cons_succ, List.set_cons_zero, List.set_cons_succ, true_and, and_true,     hPick, hAlloc, hLoad, hStore, hFieldAddr, hField, hIndexAddr, hIndex, hSlice, hBuildSlice, hBuild, buildGo, hMakeSlice, hSource, hAppend, hLen, hMin, hMax, hConv, hExtract, hCall, hCallV, hBin, hUn, pureOut, inArgs, outCV, outOne, outAll, mkTup, mkAgg, mkClo, allD, pur, purs, purParts, allLt, allFit, zerosD, setAll, evs, evO, evParts, lk, upd, splice, AV.cells, AV.fits, cellsFrom, Obj.isBox, D.setCell, D.asAgg, lkC, retOk, resAll, resAV, Post,     isInt_int, isBool_bool, isStr_str, isList_list, isAnyInt_int, i_int, b_bool, s_str, l_list, fits_int, fits_bool, fits_str, fits_list, fits_agg, fits_ptr, fits_clo, fits_nilp, fits_nilf, cell_int, cell_bool, cell_str, cell_list, cell_clo, cell_ptr, cell_agg, encI_def, encB_def, encS_def, i_enc, b_enc, s_enc, isInt_enc, isBool_enc, isStr_enc, fits_encI, cell_encI, fits_encB, cell_encB, fits_encS, cell_encS, isAnyInt_enc, l_enc, isList_enc, fits_encL, cell_encL, dec_int, dec_bool, dec_str, dec_encE, isE_int, isE_bool, isE_str, isE_encE, dec_list, isE_list, isE_map, map_dec_enc, ltB_true, ltB_false, leB_true, leB_false, szI, szB, szS, szL, boolE, intE, strE, listE, encE, SlE, List.length_map, List.length_append, List.length_replicate, Int.toNat_natCast, Bool.not_true, Bool.not_false, Bool.not_not, decide_true, decide_false, Bool.and_true, Bool.true_and, Bool.and_false, Bool.false_and, Bool.or_true, Bool.true_or, Bool.or_false, Bool.false_or, List.length_singleton, decide_eq_true_eq, decide_eq_false_iff_not, beq_iff_eq, beq_eq_false_iff_ne, bne_iff_ne, bne_eq_false_iff_eq, Bool.not_eq_true', Bool.not_eq_false', forall_const, true_imp_iff, false_imp_iff, if_true, if_false, reduceIte, reduceCtorEq, and_self, or_self, not_true, not_false_eq_true, List.append_nil, D.bool.injEq, D.int.injEq, D.str.injEq, D.list.injEq, D.agg.injEq, bne_self_eq_false, CV.d.injEq, CV.own.injEq, CV.tup.injEq, List.cons.injEq, List.toList_toArray, Option.some.injEq, Option.toList, List.flatMap_cons, List.flatMap_nil, Prod.mk.injEq, List.take_succ_cons, List.take_zero, List.drop_succ_cons, List.drop_zero, List.getD_nil, con0, con1, con2, con3, con2t, con3t, atHead_mk, killAll, setSlots, updAll, shut_eq, map_snoc, map_snocI, map_snocB, map_snocS, map_cat, List.not_mem_nil, false_implies, implies_true, List.mem_cons, or_false, forall_eq_or_imp, forall_eq, ne_eq, isE_int, isE_bool, isE_str, isE_list, ctx10_t, ctx10_c, ctx10_d, con10, con26, con27d, con28, con33, enc_Judge, enc_Pt, isE_Pt, dec_Pt]
  refine ⟨hs, hss, ⟨hb1, hb2⟩, fun hf => ?_, fun hf => ⟨hs, ?_⟩⟩
  · unfold shrinkC
    rw [if_pos hf]
    exact ⟨rfl, rfl⟩
  refine aLoop_kill [9, 18, 19, 20, 21, 22, 23, 24, 25, 26, 27, 28, 29, 30, 31, 32] (fun p : List Int × Nat => [(7, .d (enc (Sl.mk p.1))), (8, .d (.int .i64 p.2))]) (fun p : List Int × Nat => []) (fun p : List Int × Nat => p.2 ≤ p.1.length ∧ p.1.length ≤ 1048576 ∧ Sorted p.1 ∧ shrinkLoop bad (p.1.length - p.2) p.1 p.2 = shrinkLoop bad s.length s 0) (fun p : List Int × Nat => p.1.length - p.2) (s, 0) ?_ ?_ ?_
  · exact ⟨Nat.zero_le _, hs, hss, rfl⟩
  · (simp only [Wk, wkT, wk1, AV.kept, wkO, lk, wkObj, atHead_mk, killAll, setSlots, updAll, upd, List.set_cons_zero, List.set_cons_succ, and_true, true_and, and_self, Nat.reduceEqDiff, if_true, if_false, reduceIte, reduceCtorEq, Option.isSome]; try simp [Wk, wkT, wk1, AV.kept, wkO, lk, wkObj])
  rintro ⟨out, k⟩ ⟨hk, hlen, hso, hinv⟩
  simp only at hk hlen hso hinv
  rcases Nat.lt_or_ge k (out.length) with hlt | hlt
  · have e1 : out.length - k = (out.length - k - 1) + 1 := by omega
    rw [e1, shrinkLoop] at hinv
    have hcl := cut_len hlt
    have hsc := Sorted.cut hso k
    simp (config := { maxSteps := 4000000 }) only [awp_skip, awp_region, awp_draw, awp_seq, awp_cond, awp_block, awp_loop, awp_exit, awp_ret, beginAS, beginAll, deads, List.length_cons, List.length_nil, Nat.reduceAdd, Nat.reduceSub, Nat.reduceMul, Nat.reduceMod, Nat.reduceLT, Nat.reduceLeDiff, Nat.reduceEqDiff, Nat.reduceBEq, List.cons_append, List.nil_append,     aOps, aOp, aExec, opStep, guardOf, ↓ifB_tt, ↓ifB_ff, ↓ifB_t, ↓ifB_f, ↓ifG_tt, ↓ifG_ff, ↓ifG_tf, ↓ifG_ft, ifB, ifG, and_assoc, List.getElem?_cons_zero, List.getElem?_cons_succ, AS.ev, constAV, constD, AS.put, aThen, aBlock, aDraws, Ctx.one, fpOf, opnds, keysAll, AV.keys, ownKey, makes, roOf, List.map_cons, List.map_nil, Ctx.esize, Ctx.size, Ctx.ag, TK.ag, Ctx.elemT, Ctx.fieldAt, tab3, tab4, tab22, tab23, tab33, tab37, tab42, tab51, List.getD_cons_zero, List.getD_cons_succ, List.set_cons_zero, List.set_cons_succ, true_and, and_true,     hPick, hAlloc, hLoad, hStore, hFieldAddr, hField, hIndexAddr, hIndex, hSlice, hBuildSlice, hBuild, buildGo, hMakeSlice, hSource, hAppend, hLen, hMin, hMax, hConv, hExtract, hCall, hCallV, hBin, hUn, pureOut, inArgs, outCV, outOne, outAll, mkTup, mkAgg, mkClo, allD, pur, purs, purParts, allLt, allFit, zerosD, setAll, evs, evO, evParts, lk, upd, splice, AV.cells, AV.fits, cellsFrom, Obj.isBox, D.setCell, D.asAgg, lkC, retOk, resAll, resAV, Post,     isInt_int, isBool_bool, isStr_str, isList_list, isAnyInt_int, i_int, b_bool, s_str, l_list, fits_int, fits_bool, fits_str, fits_list, fits_agg, fits_ptr, fits_clo, fits_nilp, fits_nilf, cell_int, cell_bool, cell_str, cell_list, cell_clo, cell_ptr, cell_agg, encI_def, encB_def, encS_def, i_enc, b_enc, s_enc, isInt_enc, isBool_enc, isStr_enc, fits_encI, cell_encI, fits_encB, cell_encB, fits_encS, cell_encS, isAnyInt_enc, l_enc, isList_enc, fits_encL, cell_encL, dec_int, dec_bool, dec_str, dec_encE, isE_int, isE_bool, isE_str, isE_encE, dec_list, isE_list, isE_map, map_dec_enc, ltB_true, ltB_false, leB_true, leB_false, szI, szB, szS, szL, boolE, intE, strE, listE, encE, SlE, List.length_map, List.length_append, List.length_replicate, Int.toNat_natCast, Bool.not_true, Bool.not_false, Bool.not_not, decide_true, decide_false, Bool.and_true, Bool.true_and, Bool.and_false, Bool.false_and, Bool.or_true, Bool.true_or, Bool.or_false, Bool.false_or, List.length_singleton, decide_eq_true_eq, decide_eq_false_iff_not, beq_iff_eq, beq_eq_false_iff_ne, bne_iff_ne, bne_eq_false_iff_eq, Bool.not_eq_true', Bool.not_eq_false', forall_const, true_imp_iff, false_imp_iff, if_true, if_false, reduceIte, reduceCtorEq, and_self, or_self, not_true, not_false_eq_true, List.append_nil, D.bool.injEq, D.int.injEq, D.str.injEq, D.list.injEq, D.agg.injEq, bne_self_eq_false, CV.d.injEq, CV.own.injEq, CV.tup.injEq, List.cons.injEq, List.toList_toArray, Option.some.injEq, Option.toList, List.flatMap_cons, List.flatMap_nil, Prod.mk.injEq, List.take_succ_cons, List.take_zero, List.drop_succ_cons, List.drop_zero, List.getD_nil, con0, con1, con2, con3, con2t, con3t, atHead_mk, killAll, setSlots, updAll, shut_eq, map_snoc, map_snocI, map_snocB, map_snocS, map_cat, List.not_mem_nil, false_implies, implies_true, List.mem_cons, or_false, forall_eq_or_imp, forall_eq, ne_eq, isE_int, isE_bool, isE_str, isE_list, ctx10_t, ctx10_c, ctx10_d, con10, con26, con27d, con28, con33, enc_Judge, enc_Pt, isE_Pt, dec_Pt]
    refine ⟨fun _ => ⟨hlen, by omega, by omega, by omega, hsc, ⟨hb1, hb2⟩, fun hf => ⟨(cut out k, k), by (simp only [Wk, wkT, wk1, AV.kept, wkO, lk, wkObj, atHead_mk, killAll, setSlots, updAll, upd, List.set_cons_zero, List.set_cons_succ, and_true, true_and, and_self, Nat.reduceEqDiff, if_true, if_false, reduceIte, reduceCtorEq, Option.isSome]; try simp [Wk, wkT, wk1, AV.kept, wkO, lk, wkObj]), by simp only; omega, by simp only; omega, hsc, ?_, by simp only; omega⟩, fun hf => ⟨by rw [inR_i64]; omega, (out, k + 1), by (simp only [Wk, wkT, wk1, AV.kept, wkO, lk, wkObj, atHead_mk, killAll, setSlots, updAll, upd, List.set_cons_zero, List.set_cons_succ, and_true, true_and, and_self, Nat.reduceEqDiff, if_true, if_false, reduceIte, reduceCtorEq, Option.isSome]; try simp [Wk, wkT, wk1, AV.kept, wkO, lk, wkObj]), by simp only; omega, hlen, hso, ?_, by simp only; omega⟩⟩, fun h => by omega⟩
    · rw [if_pos hf] at hinv
      simp only
      rw [← hinv, hcl]
      congr 1
      omega
    · rw [if_neg (by rw [hf]; simp)] at hinv
      simp only
      rw [← hinv]
      congr 1
  · simp (config := { maxSteps := 4000000 }) only [awp_skip, awp_region, awp_draw, awp_seq, awp_cond, awp_block, awp_loop, awp_exit, awp_ret, beginAS, beginAll, deads, List.length_cons, List.length_nil, Nat.reduceAdd, Nat.reduceSub, Nat.reduceMul, Nat.reduceMod, Nat.reduceLT, Nat.reduceLeDiff, Nat.reduceEqDiff, Nat.reduceBEq, List.cons_append, List.nil_append,     aOps, aOp, aExec, opStep, guardOf, ↓ifB_tt, ↓ifB_ff, ↓ifB_t, ↓ifB_f, ↓ifG_tt, ↓ifG_ff, ↓ifG_tf, ↓ifG_ft, ifB, ifG, and_assoc, List.getElem?_cons_zero, List.getElem?_cons_succ, AS.ev, constAV, constD, AS.put, aThen, aBlock, aDraws, Ctx.one, fpOf, opnds, keysAll, AV.keys, ownKey, makes, roOf, List.map_cons, List.map_nil, Ctx.esize, Ctx.size, Ctx.ag, TK.ag, Ctx.elemT, Ctx.fieldAt, tab3, tab4, tab22, tab23, tab33, tab37, tab42, tab51, List.getD_cons_zero, List.getD_cons_succ, List.set_cons_zero, List.set_cons_succ, true_and, and_true,     hPick, hAlloc, hLoad, hStore, hFieldAddr, hField, hIndexAddr, hIndex, hSlice, hBuildSlice, hBuild, buildGo, hMakeSlice, hSource, hAppend, hLen, hMin, hMax, hConv, hExtract, hCall, hCallV, hBin, hUn, pureOut, inArgs, outCV, outOne, outAll, mkTup, mkAgg, mkClo, allD, pur, purs, purParts, allLt, allFit, zerosD, setAll, evs, evO, evParts, lk, upd, splice, AV.cells, AV.fits, cellsFrom, Obj.isBox, D.setCell, D.asAgg, lkC, retOk, resAll, resAV, Post,     isInt_int, isBool_bool, isStr_str, isList_list, isAnyInt_int, i_int, b_bool, s_str, l_list, fits_int, fits_bool, fits_str, fits_list, fits_agg, fits_ptr, fits_clo, fits_nilp, fits_nilf, cell_int, cell_bool, cell_str, cell_list, cell_clo, cell_ptr, cell_agg, encI_def, encB_def, encS_def, i_enc, b_enc, s_enc, isInt_enc, isBool_enc, isStr_enc, fits_encI, cell_encI, fits_encB, cell_encB, fits_encS, cell_encS, isAnyInt_enc, l_enc, isList_enc, fits_encL, cell_encL, dec_int, dec_bool, dec_str, dec_encE, isE_int, isE_bool, isE_str, isE_encE, dec_list, isE_list, isE_map, map_dec_enc, ltB_true, ltB_false, leB_true, leB_false, szI, szB, szS, szL, boolE, intE, strE, listE, encE, SlE, List.length_map, List.length_append, List.length_replicate, Int.toNat_natCast, Bool.not_true, Bool.not_false, Bool.not_not, decide_true, decide_false, Bool.and_true, Bool.true_and, Bool.and_false, Bool.false_and, Bool.or_true, Bool.true_or, Bool.or_false, Bool.false_or, List.length_singleton, decide_eq_true_eq, decide_eq_false_iff_not, beq_iff_eq, beq_eq_false_iff_ne, bne_iff_ne, bne_eq_false_iff_eq, Bool.not_eq_true', Bool.not_eq_false', forall_const, true_imp_iff, false_imp_iff, if_true, if_false, reduceIte, reduceCtorEq, and_self, or_self, not_true, not_false_eq_true, List.append_nil, D.bool.injEq, D.int.injEq, D.str.injEq, D.list.injEq, D.agg.injEq, bne_self_eq_false, CV.d.injEq, CV.own.injEq, CV.tup.injEq, List.cons.injEq, List.toList_toArray, Option.some.injEq, Option.toList, List.flatMap_cons, List.flatMap_nil, Prod.mk.injEq, List.take_succ_cons, List.take_zero, List.drop_succ_cons, List.drop_zero, List.getD_nil, con0, con1, con2, con3, con2t, con3t, atHead_mk, killAll, setSlots, updAll, shut_eq, map_snoc, map_snocI, map_snocB, map_snocS, map_cat, List.not_mem_nil, false_implies, implies_true, List.mem_cons, or_false, forall_eq_or_imp, forall_eq, ne_eq, isE_int, isE_bool, isE_str, isE_list, ctx10_t, ctx10_c, ctx10_d, con10, con26, con27d, con28, con33]
    refine ⟨fun h => by omega, fun _ => ?_⟩
    have e : out.length - k = 0 := by omega
    rw [e, shrinkLoop] at hinv
    unfold shrinkC
    rw [if_neg (by rw [hf]; simp), hinv]
    exact ⟨rfl, rfl⟩

end Go.Am.Core
