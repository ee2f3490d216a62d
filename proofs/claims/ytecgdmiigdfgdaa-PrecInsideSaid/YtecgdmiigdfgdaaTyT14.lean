/- Contracts of functions that the laws reach, and plain laws. Conditions: those that each contract states. -/
import Derived.Test.YtecgdmiigdfgdaaTyT13
import Derived.Test.YtecgdmiigdfgdaaTyP4
set_option linter.unusedSimpArgs false
set_option linter.unusedVariables false
set_option maxHeartbeats 1000000
namespace Go.Am.Ty
open Go.Proofs Go.Rose Go.Rose.Rose
open Enc (enc dec)

/-! ### MEET -/
theorem belowT_ov {x y : Rose Node} (hx : wf ar x) (hy : wf ar y) : belowT (nds x) (nds y) = ov true x y := by
  unfold belowT
  rw [treeAt_eq (at_whole hx), treeAt_eq (at_whole hy)]
theorem agreeT_ov {x y : Rose Node} (hx : wf ar x) (hy : wf ar y) : agreeT (nds x) (nds y) = ov false x y := by
  unfold agreeT
  rw [treeAt_eq (at_whole hx), treeAt_eq (at_whole hy)]
theorem named_mt {x y : Rose Node} (hx : Named (nds x)) (hy : Named (nds y)) : Named (nds (mt x y)) := by
  intro n hn
  rcases mt_mem hn with h | h
  · exact hx n h
  · exact hy n h
def con_PrecMeets : Con := con3 (fun (a b c : Sl Node) => In a.l ∧ In b.l ∧ In c.l) (fun _ _ _ => true)
noncomputable def ctx_PrecMeets : Ctx := ⟨tab, lkC [(14, con_plain07), (15, con_alive07), (16, con_BelowP), (17, con_Same3), (18, con_MeetP), (19, con_AgreeP), (20, con_Right3), (21, con_Plain3)], 60, lkB [], []⟩
theorem ctx_PrecMeets_t : ctx_PrecMeets.τ = tab := rfl
theorem ctx_PrecMeets_c : ctx_PrecMeets.Γ = lkC [(14, con_plain07), (15, con_alive07), (16, con_BelowP), (17, con_Same3), (18, con_MeetP), (19, con_AgreeP), (20, con_Right3), (21, con_Plain3)] := rfl
theorem ctx_PrecMeets_d : ctx_PrecMeets.dp = 60 := rfl
theorem ctx_PrecMeets_b : ctx_PrecMeets.Δ = lkB [] := rfl
theorem ctx_PrecMeets_u : ctx_PrecMeets.cuts = [] := rfl
set_option maxRecDepth 100000 in
theorem good_PrecMeets : Good Try.prog (4, con_PrecMeets) := by
  refine ⟨enters_of Try.func4 (by kernel_rfl) rfl, ?_⟩
  have K : CtxOk Try.prog ctx_PrecMeets := ctxOk_of tabOk mixedOk (by
    intro p hp
    simp only [List.mem_cons, List.not_mem_nil, or_false] at hp
    rcases hp with rfl | rfl | rfl | rfl | rfl | rfl | rfl | rfl
    · exact good_plain07
    · exact good_alive07
    · exact good_BelowP
    · exact good_Same3
    · exact good_MeetP
    · exact good_AgreeP
    · exact good_Right3
    · exact good_Plain3) (by simp)
  obtain ⟨c, hc⟩ : ∃ c, Try.f4.body = some c := ⟨_, rfl⟩
  refine fn_sound K Try.func4 hc [.tmp 6] rfl 107 rfl (fun cvs hpre => ?_)
  change con_PrecMeets.pre cvs at hpre
  unfold con_PrecMeets at hpre
  obtain ⟨⟨a⟩, ⟨b⟩, ⟨e⟩, rfl, hIa, hIb, hIe⟩ := con3_pre hpre
  obtain ⟨ha, hA⟩ : In a := hIa
  obtain ⟨hb, hB⟩ : In b := hIb
  obtain ⟨he, hE⟩ : In e := hIe
  simp only [Try.f4, Option.some.injEq] at hc
  subst hc
  refine awp_chk 6 (of_decide_eq_true (by kernel_rfl)) ?_
  cases hp : plain07 [⟨a⟩, ⟨b⟩, ⟨e⟩] with
  | false =>
    (sym =>
       simp [hp, enc_Node, isE_Node, dec_Node, node_eta, szN, eqb_Node, ctx_PrecMeets_t, ctx_PrecMeets_c, ctx_PrecMeets_d, ctx_PrecMeets_b, ctx_PrecMeets_u, con_AgreeP.eq_def, con_BelowP.eq_def, con_MeetP.eq_def, con_Plain3.eq_def, con_PrecMeets.eq_def, con_Right3.eq_def, con_Same3.eq_def, con_alive07.eq_def, con_plain07.eq_def, zaa, zab, zac, zad, zae, zaf, zag, zan, zao, zap, zaq, zar, zas, zat, zav, zbc, zbh, zbl, zbm, zbn, zbo, zbp, zbq, zbr, zbs, zbt, zbu, zby, zca, zcb, zcc, zcd, zcf, zco, zcp, zcr, zcv, zcw, zcx, zcy, zcz, zda, zdb, zdc, zdd, zde, zdf, zdg, zdh, zdi, zdu, zdv, zdw, zec, zed, zee, zef, zeg, zeh, zei, zej, zek, zel, zem, zen, zeo, zep, zeq, zer, zes, zet, zeu, zev, zew, zex, zey, zez, zfa, zfb, zfc, zfd, zfe, zff, zfh, zfi, zfj, zfk, zfl, zfm, zfn, zfo, zfu, zfv, zfw, zfx, zfy, zfz, zga, zgc, zgd, zge, zgh, zgi, zgj, zgk, zgl, zgm, zgn, zgo, zgp, zgq, zgr, zgs, zgt, zgu, zgv, zgw, zgx, zgy, zgz, zha, zhb, zhc, zhd, zhe, zhf, zhg, zhh, zhi, zhj, zhk, zhn, zho, zhp, zhr, zhs, zht, zhu, zhv, zhw, zhx, zhy, zhz, zia, zib, zic, zid, zie, zif, zig, zih, zii, zij, zik, zil, zim, zin, zio, zip, ziq, zir, zis, zit, ziu, ziv, ziw, zix, ziy, ziz, zja, zjb, zjc, zjd, zje, zjf, zjg, zjh, zji, zjj, zjk, zjl, zjm, zjn, zjo, zjp, zjq, zjr, zjs, zjt, zju, zjv, zjw, zjx, zjy, zjz, zka, zkb, zkc, zkd, zke, zkf, zkg, zkh, zki, zkj, zkk, zkq, zkr, zks, zkt, zku, zkv, zkw, zkx, zky, zkz, zla, zlb, zlc, zld, zle, zlf, zlg, zlh, zli, zlj, zlk, zll, zlm, zln, zlo, zlp, zlq, zlr, zls, zlt, zlu, zlv, zlw, zlx, zly, zlz, zma, zmb, tab3, tab4, tab23, tab28, tab30, tab55]
       tactic =>
        try simp only [ncast] at *
        try simp only [Int.ofNat_eq_natCast] at *
        try simp (config := { maxSteps := 4000000 }) only [hp, enc_Node, isE_Node, dec_Node, node_eta, szN, eqb_Node, con_AgreeP, con_BelowP, con_MeetP, con_Plain3, con_PrecMeets, con_Right3, con_Same3, con_alive07, con_plain07, Int.ofNat_eq_natCast, con0, con1, con2, con3, con2t, con3t, symD0, symD1, symD2, symD3, symD4, Nat.reduceAdd, Nat.reduceSub, Nat.reduceMul, Nat.reduceMod, Nat.reduceLT, Nat.reduceLeDiff, Nat.reduceEqDiff, Nat.reduceBEq, Obj.isBox, D.setCell, D.asAgg, setAll, allFit, AV.fits, lk, upd, standAt, freeAt, backTo, packD, Nat.reduceDiv, reduceIte, reduceCtorEq, skIs, skAll, SK.is, aggL, eqbAll, D.eqb, Nat.reduceBNe]
        repeat' (first | with_reducible assumption | with_reducible refine And.intro ?_ ?_ | intro _ | omega | (rw [inR_i64]; omega)))
  | true =>
    have hp' := hp
    rw [plain07_3] at hp'
    simp only [Bool.and_eq_true] at hp'
    obtain ⟨pa, pb, pc⟩ := hp'
    obtain ⟨la, na, qa, x, rfl, hx⟩ := plain7_rt pa
    obtain ⟨lb, nb, qb, y, rfl, hy⟩ := plain7_rt pb
    obtain ⟨lc, nc, qc, z, rfl, hz⟩ := plain7_rt pc
    have oa : One (nds x) := ⟨x, at_whole hx.wf⟩
    have ob : One (nds y) := ⟨y, at_whole hy.wf⟩
    have oc : One (nds z) := ⟨z, at_whole hz.wf⟩
    have bzx := belowT_ov hz.wf hx.wf
    have bzy := belowT_ov hz.wf hy.wf
    have agr := agreeT_ov hx.wf hy.wf
    have m1 := meetT_eq hx.wf hy.wf
    have m2 := meetT_eq hy.wf hx.wf
    rw [← ov_comm hx.wf hy.wf] at m2
    have un : ov true z x = true → ov true z y = true → ov false x y = true := under_agree hz.wf hx.wf hy.wf
    cases ho : ov false x y with
    | false =>
      rw [ho] at m1 m2 agr un
      simp only [cond_false] at m1 m2
      clear hpre K
      (sym =>
         simp [hp, bzx, bzy, agr, m1, m2, dec_PairB, isE_PairB, dec_PL, isE_PL, PL_l, con3q_d, enc_Pair, Pair_a, Pair_b, Pair_c, dynOf_t, dynOf_f, dec_PairT, dec_PairF, isE_PairT, isE_PairF, enc_Node, isE_Node, dec_Node, node_eta, szN, eqb_Node, ctx_PrecMeets_t, ctx_PrecMeets_c, ctx_PrecMeets_d, ctx_PrecMeets_b, ctx_PrecMeets_u, con_AgreeP.eq_def, con_BelowP.eq_def, con_MeetP.eq_def, con_Plain3.eq_def, con_PrecMeets.eq_def, con_Right3.eq_def, con_Same3.eq_def, con_alive07.eq_def, con_plain07.eq_def, zaa, zab, zac, zad, zae, zaf, zag, zan, zao, zap, zaq, zar, zas, zat, zav, zbc, zbh, zbl, zbm, zbn, zbo, zbp, zbq, zbr, zbs, zbt, zbu, zby, zca, zcb, zcc, zcd, zcf, zco, zcp, zcr, zcv, zcw, zcx, zcy, zcz, zda, zdb, zdc, zdd, zde, zdf, zdg, zdh, zdi, zdu, zdv, zdw, zec, zed, zee, zef, zeg, zeh, zei, zej, zek, zel, zem, zen, zeo, zep, zeq, zer, zes, zet, zeu, zev, zew, zex, zey, zez, zfa, zfb, zfc, zfd, zfe, zff, zfh, zfi, zfj, zfk, zfl, zfm, zfn, zfo, zfu, zfv, zfw, zfx, zfy, zfz, zga, zgc, zgd, zge, zgh, zgi, zgj, zgk, zgl, zgm, zgn, zgo, zgp, zgq, zgr, zgs, zgt, zgu, zgv, zgw, zgx, zgy, zgz, zha, zhb, zhc, zhd, zhe, zhf, zhg, zhh, zhi, zhj, zhk, zhn, zho, zhp, zhr, zhs, zht, zhu, zhv, zhw, zhx, zhy, zhz, zia, zib, zic, zid, zie, zif, zig, zih, zii, zij, zik, zil, zim, zin, zio, zip, ziq, zir, zis, zit, ziu, ziv, ziw, zix, ziy, ziz, zja, zjb, zjc, zjd, zje, zjf, zjg, zjh, zji, zjj, zjk, zjl, zjm, zjn, zjo, zjp, zjq, zjr, zjs, zjt, zju, zjv, zjw, zjx, zjy, zjz, zka, zkb, zkc, zkd, zke, zkf, zkg, zkh, zki, zkj, zkk, zkq, zkr, zks, zkt, zku, zkv, zkw, zkx, zky, zkz, zla, zlb, zlc, zld, zle, zlf, zlg, zlh, zli, zlj, zlk, zll, zlm, zln, zlo, zlp, zlq, zlr, zls, zlt, zlu, zlv, zlw, zlx, zly, zlz, zma, zmb, tab3, tab4, tab23, tab28, tab30, tab55]
         tactic =>
          try simp only [ncast] at *
          try simp only [Int.ofNat_eq_natCast] at *
          try simp (config := { maxSteps := 4000000 }) only [hp, bzx, bzy, agr, m1, m2, dec_PairB, isE_PairB, dec_PL, isE_PL, PL_l, con3q_d, enc_Pair, Pair_a, Pair_b, Pair_c, dynOf_t, dynOf_f, dec_PairT, dec_PairF, isE_PairT, isE_PairF, enc_Node, isE_Node, dec_Node, node_eta, szN, eqb_Node, con_AgreeP, con_BelowP, con_MeetP, con_Plain3, con_PrecMeets, con_Right3, con_Same3, con_alive07, con_plain07, Int.ofNat_eq_natCast, con0, con1, con2, con3, con2t, con3t, symD0, symD1, symD2, symD3, symD4, Nat.reduceAdd, Nat.reduceSub, Nat.reduceMul, Nat.reduceMod, Nat.reduceLT, Nat.reduceLeDiff, Nat.reduceEqDiff, Nat.reduceBEq, Obj.isBox, D.setCell, D.asAgg, setAll, allFit, AV.fits, lk, upd, standAt, freeAt, backTo, packD, Nat.reduceDiv, reduceIte, reduceCtorEq, skIs, skAll, SK.is, aggL, eqbAll, D.eqb, Nat.reduceBNe]
          repeat' (first | with_reducible assumption | with_reducible refine And.intro ?_ ?_ | intro _ | omega | (rw [inR_i64]; omega))
          all_goals first
            | (with_reducible refine okD_id ?_; kernel_rfl)
            | simp_all)
    | true =>
      rw [ho] at m1 m2 agr
      simp only [cond_true] at m1 m2
      obtain ⟨hm, qm⟩ := mt_rt hx hy qa qb (by omega) ho
      obtain ⟨hn, qn⟩ := mt_rt hy hx qb qa (by omega) (by rw [← ov_comm hx.wf hy.wf]; exact ho)
      have om : One (nds (mt x y)) := ⟨_, at_whole hm.wf⟩
      have rm := right3_rt hm
      have NM := named_mt hA hB
      have lm := hm.len
      have ln := hn.len
      have pm := nds_pos (mt x y)
      have sm : same3 (nds (mt x y)) (nds (mt y x)) = true := by
        unfold same3
        rw [meet_comm hx.wf hy.wf (by rw [hx.name, hy.name]) ho]
        exact beq_self_eq_true _
      have b1 : belowT (nds (mt x y)) (nds x) = true := by rw [belowT_ov hm.wf hx.wf]; exact meet_le1 ho
      have b2 : belowT (nds (mt x y)) (nds y) = true := by rw [belowT_ov hm.wf hy.wf]; exact meet_le2 ho
      have b3 : ov true z x = true → ov true z y = true → belowT (nds z) (nds (mt x y)) = true := by
        intro h1 h2
        rw [belowT_ov hz.wf hm.wf]
        exact under_meet h1 h2
      clear hpre K
      (sym =>
         simp [hp, bzx, bzy, agr, m1, m2, rm, qm, sm, b1, b2, dec_PairB, isE_PairB, dec_PL, isE_PL, PL_l, con3q_d, enc_Pair, Pair_a, Pair_b, Pair_c, dynOf_t, dynOf_f, dec_PairT, dec_PairF, isE_PairT, isE_PairF, enc_Node, isE_Node, dec_Node, node_eta, szN, eqb_Node, ctx_PrecMeets_t, ctx_PrecMeets_c, ctx_PrecMeets_d, ctx_PrecMeets_b, ctx_PrecMeets_u, con_AgreeP.eq_def, con_BelowP.eq_def, con_MeetP.eq_def, con_Plain3.eq_def, con_PrecMeets.eq_def, con_Right3.eq_def, con_Same3.eq_def, con_alive07.eq_def, con_plain07.eq_def, zaa, zab, zac, zad, zae, zaf, zag, zan, zao, zap, zaq, zar, zas, zat, zav, zbc, zbh, zbl, zbm, zbn, zbo, zbp, zbq, zbr, zbs, zbt, zbu, zby, zca, zcb, zcc, zcd, zcf, zco, zcp, zcr, zcv, zcw, zcx, zcy, zcz, zda, zdb, zdc, zdd, zde, zdf, zdg, zdh, zdi, zdu, zdv, zdw, zec, zed, zee, zef, zeg, zeh, zei, zej, zek, zel, zem, zen, zeo, zep, zeq, zer, zes, zet, zeu, zev, zew, zex, zey, zez, zfa, zfb, zfc, zfd, zfe, zff, zfh, zfi, zfj, zfk, zfl, zfm, zfn, zfo, zfu, zfv, zfw, zfx, zfy, zfz, zga, zgc, zgd, zge, zgh, zgi, zgj, zgk, zgl, zgm, zgn, zgo, zgp, zgq, zgr, zgs, zgt, zgu, zgv, zgw, zgx, zgy, zgz, zha, zhb, zhc, zhd, zhe, zhf, zhg, zhh, zhi, zhj, zhk, zhn, zho, zhp, zhr, zhs, zht, zhu, zhv, zhw, zhx, zhy, zhz, zia, zib, zic, zid, zie, zif, zig, zih, zii, zij, zik, zil, zim, zin, zio, zip, ziq, zir, zis, zit, ziu, ziv, ziw, zix, ziy, ziz, zja, zjb, zjc, zjd, zje, zjf, zjg, zjh, zji, zjj, zjk, zjl, zjm, zjn, zjo, zjp, zjq, zjr, zjs, zjt, zju, zjv, zjw, zjx, zjy, zjz, zka, zkb, zkc, zkd, zke, zkf, zkg, zkh, zki, zkj, zkk, zkq, zkr, zks, zkt, zku, zkv, zkw, zkx, zky, zkz, zla, zlb, zlc, zld, zle, zlf, zlg, zlh, zli, zlj, zlk, zll, zlm, zln, zlo, zlp, zlq, zlr, zls, zlt, zlu, zlv, zlw, zlx, zly, zlz, zma, zmb, tab3, tab4, tab23, tab28, tab30, tab55]
         tactic =>
          try simp only [ncast] at *
          try simp only [Int.ofNat_eq_natCast] at *
          try simp (config := { maxSteps := 4000000 }) only [hp, bzx, bzy, agr, m1, m2, rm, qm, sm, b1, b2, dec_PairB, isE_PairB, dec_PL, isE_PL, PL_l, con3q_d, enc_Pair, Pair_a, Pair_b, Pair_c, dynOf_t, dynOf_f, dec_PairT, dec_PairF, isE_PairT, isE_PairF, enc_Node, isE_Node, dec_Node, node_eta, szN, eqb_Node, con_AgreeP, con_BelowP, con_MeetP, con_Plain3, con_PrecMeets, con_Right3, con_Same3, con_alive07, con_plain07, Int.ofNat_eq_natCast, con0, con1, con2, con3, con2t, con3t, symD0, symD1, symD2, symD3, symD4, Nat.reduceAdd, Nat.reduceSub, Nat.reduceMul, Nat.reduceMod, Nat.reduceLT, Nat.reduceLeDiff, Nat.reduceEqDiff, Nat.reduceBEq, Obj.isBox, D.setCell, D.asAgg, setAll, allFit, AV.fits, lk, upd, standAt, freeAt, backTo, packD, Nat.reduceDiv, reduceIte, reduceCtorEq, skIs, skAll, SK.is, aggL, eqbAll, D.eqb, Nat.reduceBNe]
          repeat' (first | with_reducible assumption | with_reducible refine And.intro ?_ ?_ | intro _ | omega | (rw [inR_i64]; omega))
          all_goals first
            | (with_reducible refine okD_id ?_; kernel_rfl)
            | exact b3 (by assumption) (by assumption)
            | simp_all)

end Go.Am.Ty
