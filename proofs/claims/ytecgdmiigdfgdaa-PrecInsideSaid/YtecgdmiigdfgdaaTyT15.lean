/- Contracts of functions that the laws reach, and plain laws. Conditions: those that each contract states. -/
import Derived.Test.YtecgdmiigdfgdaaTyT14
set_option linter.unusedSimpArgs false
set_option linter.unusedVariables false
set_option maxHeartbeats 1000000
namespace Go.Am.Ty
open Go.Proofs Go.Rose Go.Rose.Rose
open Enc (enc dec)

/-! ### THREE -/
theorem ov_dynB {b : Bool} {x : Rose Node} : ov b x (mk (nB 0) []) = true := ov_dyn rfl
theorem same3_refl (l : List Node) : same3 l l = true := by unfold same3; exact beq_self_eq_true _
theorem len_ne {x : Rose Node} : ((nds x).length : Int) ≠ 0 := by have := nds_pos x; omega
def con_PrecThree : Con := con3 (fun (a b c : Sl Node) => In a.l ∧ In b.l ∧ In c.l) (fun _ _ _ => true)
noncomputable def ctx_PrecThree : Ctx := ⟨tab, lkC [(14, con_plain07), (15, con_alive07), (17, con_Same3), (18, con_MeetP), (22, con_One3)], 60, lkB [], []⟩
theorem ctx_PrecThree_t : ctx_PrecThree.τ = tab := rfl
theorem ctx_PrecThree_c : ctx_PrecThree.Γ = lkC [(14, con_plain07), (15, con_alive07), (17, con_Same3), (18, con_MeetP), (22, con_One3)] := rfl
theorem ctx_PrecThree_d : ctx_PrecThree.dp = 60 := rfl
theorem ctx_PrecThree_b : ctx_PrecThree.Δ = lkB [] := rfl
theorem ctx_PrecThree_u : ctx_PrecThree.cuts = [] := rfl
set_option maxRecDepth 100000 in
theorem good_PrecThree : Good Try.prog (5, con_PrecThree) := by
  refine ⟨enters_of Try.func5 (by kernel_rfl) rfl, ?_⟩
  have K : CtxOk Try.prog ctx_PrecThree := ctxOk_of tabOk mixedOk (by
    intro p hp
    simp only [List.mem_cons, List.not_mem_nil, or_false] at hp
    rcases hp with rfl | rfl | rfl | rfl | rfl
    · exact good_plain07
    · exact good_alive07
    · exact good_Same3
    · exact good_MeetP
    · exact good_One3) (by simp)
  obtain ⟨c, hc⟩ : ∃ c, Try.f5.body = some c := ⟨_, rfl⟩
  refine fn_sound K Try.func5 hc [.tmp 6] rfl 109 rfl (fun cvs hpre => ?_)
  change con_PrecThree.pre cvs at hpre
  unfold con_PrecThree at hpre
  obtain ⟨⟨a⟩, ⟨b⟩, ⟨e⟩, rfl, hIa, hIb, hIe⟩ := con3_pre hpre
  obtain ⟨ha, hA⟩ : In a := hIa
  obtain ⟨hb, hB⟩ : In b := hIb
  obtain ⟨he, hE⟩ : In e := hIe
  simp only [Try.f5, Option.some.injEq] at hc
  subst hc
  refine awp_chk 6 (of_decide_eq_true (by kernel_rfl)) ?_
  cases hp : plain07 [⟨a⟩, ⟨b⟩, ⟨e⟩] with
  | false =>
    (sym =>
       simp [hp, enc_Node, isE_Node, dec_Node, node_eta, szN, eqb_Node, ctx_PrecThree_t, ctx_PrecThree_c, ctx_PrecThree_d, ctx_PrecThree_b, ctx_PrecThree_u, con_MeetP.eq_def, con_One3.eq_def, con_PrecThree.eq_def, con_Same3.eq_def, con_alive07.eq_def, con_plain07.eq_def, zaa, zab, zac, zad, zae, zaf, zag, zan, zao, zap, zaq, zar, zas, zat, zav, zbc, zbd, zbh, zbl, zbm, zbn, zbo, zbp, zbq, zbr, zbs, zbt, zbu, zby, zca, zcb, zcc, zcd, zcf, zco, zcp, zcr, zcu, zcv, zcw, zcx, zcy, zcz, zda, zdb, zdc, zdd, zde, zdf, zdg, zdh, zdi, zdu, zdv, zdw, zec, zed, zee, zef, zeg, zeh, zei, zej, zek, zel, zem, zen, zeo, zep, zeq, zer, zes, zet, zeu, zev, zew, zex, zey, zez, zfa, zfb, zfc, zfd, zfe, zff, zfh, zfi, zfj, zfk, zfl, zfm, zfn, zfo, zfu, zfv, zfw, zfx, zfy, zfz, zga, zgc, zgd, zge, zgh, zgi, zgj, zgk, zgl, zgm, zgn, zgo, zgp, zgq, zgr, zgs, zgt, zgu, zgv, zgw, zgx, zgy, zgz, zha, zhb, zhc, zhd, zhe, zhf, zhg, zhh, zhi, zhj, zhk, zhn, zho, zhp, zhr, zhs, zht, zhu, zhv, zhw, zhx, zhy, zhz, zia, zib, zic, zid, zie, zif, zig, zih, zii, zij, zik, zil, zim, zin, zio, zip, ziq, zir, zis, zit, ziu, ziv, ziw, zix, ziy, ziz, zja, zjb, zjc, zjd, zje, zjf, zjg, zjh, zji, zjj, zjk, zjl, zjm, zjn, zjo, zjp, zjq, zjr, zjs, zjt, zju, zjv, zjw, zjx, zjy, zjz, zka, zkb, zkc, zkd, zke, zkf, zkg, zkh, zki, zkj, zkk, zkq, zkr, zks, zkt, zku, zkv, zkw, zkx, zky, zkz, zla, zlb, zlc, zld, zle, zlf, zlg, zlh, zli, zlj, zlk, zll, zlm, zln, zlo, zlp, zlq, zlr, zls, zlt, zlu, zlv, zlw, zlx, zly, zlz, zma, zmb, tab3, tab4, tab23, tab28, tab30, tab55]
       tactic =>
        try simp only [ncast] at *
        try simp only [Int.ofNat_eq_natCast] at *
        try simp (config := { maxSteps := 4000000 }) only [hp, enc_Node, isE_Node, dec_Node, node_eta, szN, eqb_Node, con_MeetP, con_One3, con_PrecThree, con_Same3, con_alive07, con_plain07, Int.ofNat_eq_natCast, con0, con1, con2, con3, con2t, con3t, symD0, symD1, symD2, symD3, symD4, Nat.reduceAdd, Nat.reduceSub, Nat.reduceMul, Nat.reduceMod, Nat.reduceLT, Nat.reduceLeDiff, Nat.reduceEqDiff, Nat.reduceBEq, Obj.isBox, D.setCell, D.asAgg, setAll, allFit, AV.fits, lk, upd, standAt, freeAt, backTo, packD, Nat.reduceDiv, reduceIte, reduceCtorEq, skIs, skAll, SK.is, aggL, eqbAll, D.eqb, Nat.reduceBNe]
        repeat' (first | with_reducible assumption | with_reducible refine And.intro ?_ ?_ | intro _ | omega | (rw [inR_i64]; omega)))
  | true =>
    have hp' := hp
    rw [plain07_3] at hp'
    simp only [Bool.and_eq_true] at hp'
    obtain ⟨pa, pb, pc⟩ := hp'
    obtain ⟨la, na, qa, x, rfl, hx⟩ := plain7_rt pa
    obtain ⟨lb, nb, qb, y, rfl, hy⟩ := plain7_rt pb
    obtain ⟨lc, nc, qc, z, rfl, hz⟩ := plain7_rt pc
    have oa : One (nds x) := ⟨x, at_whole hx.wf⟩
    have ob : One (nds y) := ⟨y, at_whole hy.wf⟩
    have oc : One (nds z) := ⟨z, at_whole hz.wf⟩
    have od : One [nB 0] := ⟨_, at_dyn rfl⟩
    have wd : wf ar (mk (nB 0) []) := (at_dyn (n := nB 0) rfl).1
    have m1 : meetT (nds x) (nds x) = (⟨nds x⟩, 0) := by rw [meetT_eq hx.wf hx.wf, ov_refl, mt_self]; rfl
    have m2 : meetT (nds x) [nB 0] = (⟨nds x⟩, 0) := by
      have := meetT_eq hx.wf wd
      rw [ov_dynB, mt_dyn (m := nB 0) rfl] at this
      exact this
    have o1 : (nds x == nds x) = true := beq_self_eq_true _
    have m3 := meetT_eq hx.wf hy.wf
    have m4 := meetT_eq hy.wf hz.wf
    have lx := len_ne (x := mt x y)
    have ly := len_ne (x := mt y z)
    cases hxy : ov false x y with
    | false =>
      rw [hxy] at m3
      simp only [cond_false] at m3
      cases hyz : ov false y z with
      | false =>
        rw [hyz] at m4
        simp only [cond_false] at m4
        clear hpre K
        (sym =>
           simp [hp, m1, m2, o1, m3, m4, dec_PairB, isE_PairB, dec_PL, isE_PL, PL_l, con3q_d, enc_Pair, Pair_a, Pair_b, Pair_c, dynOf_t, dynOf_f, dec_PairT, dec_PairF, isE_PairT, isE_PairF, enc_Node, isE_Node, dec_Node, node_eta, szN, eqb_Node, ctx_PrecThree_t, ctx_PrecThree_c, ctx_PrecThree_d, ctx_PrecThree_b, ctx_PrecThree_u, con_MeetP.eq_def, con_One3.eq_def, con_PrecThree.eq_def, con_Same3.eq_def, con_alive07.eq_def, con_plain07.eq_def, zaa, zab, zac, zad, zae, zaf, zag, zan, zao, zap, zaq, zar, zas, zat, zav, zbc, zbd, zbh, zbl, zbm, zbn, zbo, zbp, zbq, zbr, zbs, zbt, zbu, zby, zca, zcb, zcc, zcd, zcf, zco, zcp, zcr, zcu, zcv, zcw, zcx, zcy, zcz, zda, zdb, zdc, zdd, zde, zdf, zdg, zdh, zdi, zdu, zdv, zdw, zec, zed, zee, zef, zeg, zeh, zei, zej, zek, zel, zem, zen, zeo, zep, zeq, zer, zes, zet, zeu, zev, zew, zex, zey, zez, zfa, zfb, zfc, zfd, zfe, zff, zfh, zfi, zfj, zfk, zfl, zfm, zfn, zfo, zfu, zfv, zfw, zfx, zfy, zfz, zga, zgc, zgd, zge, zgh, zgi, zgj, zgk, zgl, zgm, zgn, zgo, zgp, zgq, zgr, zgs, zgt, zgu, zgv, zgw, zgx, zgy, zgz, zha, zhb, zhc, zhd, zhe, zhf, zhg, zhh, zhi, zhj, zhk, zhn, zho, zhp, zhr, zhs, zht, zhu, zhv, zhw, zhx, zhy, zhz, zia, zib, zic, zid, zie, zif, zig, zih, zii, zij, zik, zil, zim, zin, zio, zip, ziq, zir, zis, zit, ziu, ziv, ziw, zix, ziy, ziz, zja, zjb, zjc, zjd, zje, zjf, zjg, zjh, zji, zjj, zjk, zjl, zjm, zjn, zjo, zjp, zjq, zjr, zjs, zjt, zju, zjv, zjw, zjx, zjy, zjz, zka, zkb, zkc, zkd, zke, zkf, zkg, zkh, zki, zkj, zkk, zkq, zkr, zks, zkt, zku, zkv, zkw, zkx, zky, zkz, zla, zlb, zlc, zld, zle, zlf, zlg, zlh, zli, zlj, zlk, zll, zlm, zln, zlo, zlp, zlq, zlr, zls, zlt, zlu, zlv, zlw, zlx, zly, zlz, zma, zmb, tab3, tab4, tab23, tab28, tab30, tab55]
           tactic =>
            try simp only [ncast] at *
            try simp only [Int.ofNat_eq_natCast] at *
            try simp (config := { maxSteps := 4000000 }) only [hp, m1, m2, o1, m3, m4, dec_PairB, isE_PairB, dec_PL, isE_PL, PL_l, con3q_d, enc_Pair, Pair_a, Pair_b, Pair_c, dynOf_t, dynOf_f, dec_PairT, dec_PairF, isE_PairT, isE_PairF, enc_Node, isE_Node, dec_Node, node_eta, szN, eqb_Node, con_MeetP, con_One3, con_PrecThree, con_Same3, con_alive07, con_plain07, Int.ofNat_eq_natCast, con0, con1, con2, con3, con2t, con3t, symD0, symD1, symD2, symD3, symD4, Nat.reduceAdd, Nat.reduceSub, Nat.reduceMul, Nat.reduceMod, Nat.reduceLT, Nat.reduceLeDiff, Nat.reduceEqDiff, Nat.reduceBEq, Obj.isBox, D.setCell, D.asAgg, setAll, allFit, AV.fits, lk, upd, standAt, freeAt, backTo, packD, Nat.reduceDiv, reduceIte, reduceCtorEq, skIs, skAll, SK.is, aggL, eqbAll, D.eqb, Nat.reduceBNe]
            repeat' (first | with_reducible assumption | with_reducible refine And.intro ?_ ?_ | intro _ | omega | (rw [inR_i64]; omega))
            all_goals first
              | (with_reducible refine okD_id ?_; kernel_rfl)
              | simp_all)
      | true =>
        rw [hyz] at m4
        simp only [cond_true] at m4
        clear hpre K
        (sym =>
           simp [hp, m1, m2, o1, m3, m4, dec_PairB, isE_PairB, dec_PL, isE_PL, PL_l, con3q_d, enc_Pair, Pair_a, Pair_b, Pair_c, dynOf_t, dynOf_f, dec_PairT, dec_PairF, isE_PairT, isE_PairF, enc_Node, isE_Node, dec_Node, node_eta, szN, eqb_Node, ctx_PrecThree_t, ctx_PrecThree_c, ctx_PrecThree_d, ctx_PrecThree_b, ctx_PrecThree_u, con_MeetP.eq_def, con_One3.eq_def, con_PrecThree.eq_def, con_Same3.eq_def, con_alive07.eq_def, con_plain07.eq_def, zaa, zab, zac, zad, zae, zaf, zag, zan, zao, zap, zaq, zar, zas, zat, zav, zbc, zbd, zbh, zbl, zbm, zbn, zbo, zbp, zbq, zbr, zbs, zbt, zbu, zby, zca, zcb, zcc, zcd, zcf, zco, zcp, zcr, zcu, zcv, zcw, zcx, zcy, zcz, zda, zdb, zdc, zdd, zde, zdf, zdg, zdh, zdi, zdu, zdv, zdw, zec, zed, zee, zef, zeg, zeh, zei, zej, zek, zel, zem, zen, zeo, zep, zeq, zer, zes, zet, zeu, zev, zew, zex, zey, zez, zfa, zfb, zfc, zfd, zfe, zff, zfh, zfi, zfj, zfk, zfl, zfm, zfn, zfo, zfu, zfv, zfw, zfx, zfy, zfz, zga, zgc, zgd, zge, zgh, zgi, zgj, zgk, zgl, zgm, zgn, zgo, zgp, zgq, zgr, zgs, zgt, zgu, zgv, zgw, zgx, zgy, zgz, zha, zhb, zhc, zhd, zhe, zhf, zhg, zhh, zhi, zhj, zhk, zhn, zho, zhp, zhr, zhs, zht, zhu, zhv, zhw, zhx, zhy, zhz, zia, zib, zic, zid, zie, zif, zig, zih, zii, zij, zik, zil, zim, zin, zio, zip, ziq, zir, zis, zit, ziu, ziv, ziw, zix, ziy, ziz, zja, zjb, zjc, zjd, zje, zjf, zjg, zjh, zji, zjj, zjk, zjl, zjm, zjn, zjo, zjp, zjq, zjr, zjs, zjt, zju, zjv, zjw, zjx, zjy, zjz, zka, zkb, zkc, zkd, zke, zkf, zkg, zkh, zki, zkj, zkk, zkq, zkr, zks, zkt, zku, zkv, zkw, zkx, zky, zkz, zla, zlb, zlc, zld, zle, zlf, zlg, zlh, zli, zlj, zlk, zll, zlm, zln, zlo, zlp, zlq, zlr, zls, zlt, zlu, zlv, zlw, zlx, zly, zlz, zma, zmb, tab3, tab4, tab23, tab28, tab30, tab55]
           tactic =>
            try simp only [ncast] at *
            try simp only [Int.ofNat_eq_natCast] at *
            try simp (config := { maxSteps := 4000000 }) only [hp, m1, m2, o1, m3, m4, dec_PairB, isE_PairB, dec_PL, isE_PL, PL_l, con3q_d, enc_Pair, Pair_a, Pair_b, Pair_c, dynOf_t, dynOf_f, dec_PairT, dec_PairF, isE_PairT, isE_PairF, enc_Node, isE_Node, dec_Node, node_eta, szN, eqb_Node, con_MeetP, con_One3, con_PrecThree, con_Same3, con_alive07, con_plain07, Int.ofNat_eq_natCast, con0, con1, con2, con3, con2t, con3t, symD0, symD1, symD2, symD3, symD4, Nat.reduceAdd, Nat.reduceSub, Nat.reduceMul, Nat.reduceMod, Nat.reduceLT, Nat.reduceLeDiff, Nat.reduceEqDiff, Nat.reduceBEq, Obj.isBox, D.setCell, D.asAgg, setAll, allFit, AV.fits, lk, upd, standAt, freeAt, backTo, packD, Nat.reduceDiv, reduceIte, reduceCtorEq, skIs, skAll, SK.is, aggL, eqbAll, D.eqb, Nat.reduceBNe]
            repeat' (first | with_reducible assumption | with_reducible refine And.intro ?_ ?_ | intro _ | omega | (rw [inR_i64]; omega))
            all_goals first
              | (with_reducible refine okD_id ?_; kernel_rfl)
              | simp_all)
    | true =>
      rw [hxy] at m3
      simp only [cond_true] at m3
      cases hyz : ov false y z with
      | false =>
        rw [hyz] at m4
        simp only [cond_false] at m4
        clear hpre K
        (sym =>
           simp [hp, m1, m2, o1, m3, m4, dec_PairB, isE_PairB, dec_PL, isE_PL, PL_l, con3q_d, enc_Pair, Pair_a, Pair_b, Pair_c, dynOf_t, dynOf_f, dec_PairT, dec_PairF, isE_PairT, isE_PairF, enc_Node, isE_Node, dec_Node, node_eta, szN, eqb_Node, ctx_PrecThree_t, ctx_PrecThree_c, ctx_PrecThree_d, ctx_PrecThree_b, ctx_PrecThree_u, con_MeetP.eq_def, con_One3.eq_def, con_PrecThree.eq_def, con_Same3.eq_def, con_alive07.eq_def, con_plain07.eq_def, zaa, zab, zac, zad, zae, zaf, zag, zan, zao, zap, zaq, zar, zas, zat, zav, zbc, zbd, zbh, zbl, zbm, zbn, zbo, zbp, zbq, zbr, zbs, zbt, zbu, zby, zca, zcb, zcc, zcd, zcf, zco, zcp, zcr, zcu, zcv, zcw, zcx, zcy, zcz, zda, zdb, zdc, zdd, zde, zdf, zdg, zdh, zdi, zdu, zdv, zdw, zec, zed, zee, zef, zeg, zeh, zei, zej, zek, zel, zem, zen, zeo, zep, zeq, zer, zes, zet, zeu, zev, zew, zex, zey, zez, zfa, zfb, zfc, zfd, zfe, zff, zfh, zfi, zfj, zfk, zfl, zfm, zfn, zfo, zfu, zfv, zfw, zfx, zfy, zfz, zga, zgc, zgd, zge, zgh, zgi, zgj, zgk, zgl, zgm, zgn, zgo, zgp, zgq, zgr, zgs, zgt, zgu, zgv, zgw, zgx, zgy, zgz, zha, zhb, zhc, zhd, zhe, zhf, zhg, zhh, zhi, zhj, zhk, zhn, zho, zhp, zhr, zhs, zht, zhu, zhv, zhw, zhx, zhy, zhz, zia, zib, zic, zid, zie, zif, zig, zih, zii, zij, zik, zil, zim, zin, zio, zip, ziq, zir, zis, zit, ziu, ziv, ziw, zix, ziy, ziz, zja, zjb, zjc, zjd, zje, zjf, zjg, zjh, zji, zjj, zjk, zjl, zjm, zjn, zjo, zjp, zjq, zjr, zjs, zjt, zju, zjv, zjw, zjx, zjy, zjz, zka, zkb, zkc, zkd, zke, zkf, zkg, zkh, zki, zkj, zkk, zkq, zkr, zks, zkt, zku, zkv, zkw, zkx, zky, zkz, zla, zlb, zlc, zld, zle, zlf, zlg, zlh, zli, zlj, zlk, zll, zlm, zln, zlo, zlp, zlq, zlr, zls, zlt, zlu, zlv, zlw, zlx, zly, zlz, zma, zmb, tab3, tab4, tab23, tab28, tab30, tab55]
           tactic =>
            try simp only [ncast] at *
            try simp only [Int.ofNat_eq_natCast] at *
            try simp (config := { maxSteps := 4000000 }) only [hp, m1, m2, o1, m3, m4, dec_PairB, isE_PairB, dec_PL, isE_PL, PL_l, con3q_d, enc_Pair, Pair_a, Pair_b, Pair_c, dynOf_t, dynOf_f, dec_PairT, dec_PairF, isE_PairT, isE_PairF, enc_Node, isE_Node, dec_Node, node_eta, szN, eqb_Node, con_MeetP, con_One3, con_PrecThree, con_Same3, con_alive07, con_plain07, Int.ofNat_eq_natCast, con0, con1, con2, con3, con2t, con3t, symD0, symD1, symD2, symD3, symD4, Nat.reduceAdd, Nat.reduceSub, Nat.reduceMul, Nat.reduceMod, Nat.reduceLT, Nat.reduceLeDiff, Nat.reduceEqDiff, Nat.reduceBEq, Obj.isBox, D.setCell, D.asAgg, setAll, allFit, AV.fits, lk, upd, standAt, freeAt, backTo, packD, Nat.reduceDiv, reduceIte, reduceCtorEq, skIs, skAll, SK.is, aggL, eqbAll, D.eqb, Nat.reduceBNe]
            repeat' (first | with_reducible assumption | with_reducible refine And.intro ?_ ?_ | intro _ | omega | (rw [inR_i64]; omega))
            all_goals first
              | (with_reducible refine okD_id ?_; kernel_rfl)
              | simp_all)
      | true =>
        rw [hyz] at m4
        simp only [cond_true] at m4
        have w1 := mt_wf hx.wf hy.wf hxy
        have w2 := mt_wf hy.wf hz.wf hyz
        have l1 := mt_len x y
        have l2 := mt_len y z
        have l3 := mt_len x (mt y z)
        have l4 := mt_len (mt x y) z
        have o3 : One (nds (mt x y)) := ⟨_, at_whole w1⟩
        have o4 : One (nds (mt y z)) := ⟨_, at_whole w2⟩
        obtain ⟨e1, e2⟩ := mt_assoc hxy hyz
        have m5 := meetT_eq w1 hz.wf
        have m6 := meetT_eq hx.wf w2
        rw [e1, e2] at m5
        have s1 := same3_refl (nds (mt x (mt y z)))
        have s2 := same3_refl []
        cases hu : ov false x (mt y z) with
        | false =>
          rw [hu] at m5 m6
          simp only [cond_false] at m5 m6
          clear hpre K
          (sym =>
             simp [hp, m1, m2, o1, m3, m4, m5, m6, s1, s2, lx, ly, dec_PairB, isE_PairB, dec_PL, isE_PL, PL_l, con3q_d, enc_Pair, Pair_a, Pair_b, Pair_c, dynOf_t, dynOf_f, dec_PairT, dec_PairF, isE_PairT, isE_PairF, enc_Node, isE_Node, dec_Node, node_eta, szN, eqb_Node, ctx_PrecThree_t, ctx_PrecThree_c, ctx_PrecThree_d, ctx_PrecThree_b, ctx_PrecThree_u, con_MeetP.eq_def, con_One3.eq_def, con_PrecThree.eq_def, con_Same3.eq_def, con_alive07.eq_def, con_plain07.eq_def, zaa, zab, zac, zad, zae, zaf, zag, zan, zao, zap, zaq, zar, zas, zat, zav, zbc, zbd, zbh, zbl, zbm, zbn, zbo, zbp, zbq, zbr, zbs, zbt, zbu, zby, zca, zcb, zcc, zcd, zcf, zco, zcp, zcr, zcu, zcv, zcw, zcx, zcy, zcz, zda, zdb, zdc, zdd, zde, zdf, zdg, zdh, zdi, zdu, zdv, zdw, zec, zed, zee, zef, zeg, zeh, zei, zej, zek, zel, zem, zen, zeo, zep, zeq, zer, zes, zet, zeu, zev, zew, zex, zey, zez, zfa, zfb, zfc, zfd, zfe, zff, zfh, zfi, zfj, zfk, zfl, zfm, zfn, zfo, zfu, zfv, zfw, zfx, zfy, zfz, zga, zgc, zgd, zge, zgh, zgi, zgj, zgk, zgl, zgm, zgn, zgo, zgp, zgq, zgr, zgs, zgt, zgu, zgv, zgw, zgx, zgy, zgz, zha, zhb, zhc, zhd, zhe, zhf, zhg, zhh, zhi, zhj, zhk, zhn, zho, zhp, zhr, zhs, zht, zhu, zhv, zhw, zhx, zhy, zhz, zia, zib, zic, zid, zie, zif, zig, zih, zii, zij, zik, zil, zim, zin, zio, zip, ziq, zir, zis, zit, ziu, ziv, ziw, zix, ziy, ziz, zja, zjb, zjc, zjd, zje, zjf, zjg, zjh, zji, zjj, zjk, zjl, zjm, zjn, zjo, zjp, zjq, zjr, zjs, zjt, zju, zjv, zjw, zjx, zjy, zjz, zka, zkb, zkc, zkd, zke, zkf, zkg, zkh, zki, zkj, zkk, zkq, zkr, zks, zkt, zku, zkv, zkw, zkx, zky, zkz, zla, zlb, zlc, zld, zle, zlf, zlg, zlh, zli, zlj, zlk, zll, zlm, zln, zlo, zlp, zlq, zlr, zls, zlt, zlu, zlv, zlw, zlx, zly, zlz, zma, zmb, tab3, tab4, tab23, tab28, tab30, tab55]
             tactic =>
              try simp only [ncast] at *
              try simp only [Int.ofNat_eq_natCast] at *
              try simp (config := { maxSteps := 4000000 }) only [hp, m1, m2, o1, m3, m4, m5, m6, s1, s2, lx, ly, dec_PairB, isE_PairB, dec_PL, isE_PL, PL_l, con3q_d, enc_Pair, Pair_a, Pair_b, Pair_c, dynOf_t, dynOf_f, dec_PairT, dec_PairF, isE_PairT, isE_PairF, enc_Node, isE_Node, dec_Node, node_eta, szN, eqb_Node, con_MeetP, con_One3, con_PrecThree, con_Same3, con_alive07, con_plain07, Int.ofNat_eq_natCast, con0, con1, con2, con3, con2t, con3t, symD0, symD1, symD2, symD3, symD4, Nat.reduceAdd, Nat.reduceSub, Nat.reduceMul, Nat.reduceMod, Nat.reduceLT, Nat.reduceLeDiff, Nat.reduceEqDiff, Nat.reduceBEq, Obj.isBox, D.setCell, D.asAgg, setAll, allFit, AV.fits, lk, upd, standAt, freeAt, backTo, packD, Nat.reduceDiv, reduceIte, reduceCtorEq, skIs, skAll, SK.is, aggL, eqbAll, D.eqb, Nat.reduceBNe]
              repeat' (first | with_reducible assumption | with_reducible refine And.intro ?_ ?_ | intro _ | omega | (rw [inR_i64]; omega))
              all_goals first
                | (with_reducible refine okD_id ?_; kernel_rfl)
                | simp_all)
        | true =>
          rw [hu] at m5 m6
          simp only [cond_true] at m5 m6
          clear hpre K
          (sym =>
             simp [hp, m1, m2, o1, m3, m4, m5, m6, s1, s2, lx, ly, dec_PairB, isE_PairB, dec_PL, isE_PL, PL_l, con3q_d, enc_Pair, Pair_a, Pair_b, Pair_c, dynOf_t, dynOf_f, dec_PairT, dec_PairF, isE_PairT, isE_PairF, enc_Node, isE_Node, dec_Node, node_eta, szN, eqb_Node, ctx_PrecThree_t, ctx_PrecThree_c, ctx_PrecThree_d, ctx_PrecThree_b, ctx_PrecThree_u, con_MeetP.eq_def, con_One3.eq_def, con_PrecThree.eq_def, con_Same3.eq_def, con_alive07.eq_def, con_plain07.eq_def, zaa, zab, zac, zad, zae, zaf, zag, zan, zao, zap, zaq, zar, zas, zat, zav, zbc, zbd, zbh, zbl, zbm, zbn, zbo, zbp, zbq, zbr, zbs, zbt, zbu, zby, zca, zcb, zcc, zcd, zcf, zco, zcp, zcr, zcu, zcv, zcw, zcx, zcy, zcz, zda, zdb, zdc, zdd, zde, zdf, zdg, zdh, zdi, zdu, zdv, zdw, zec, zed, zee, zef, zeg, zeh, zei, zej, zek, zel, zem, zen, zeo, zep, zeq, zer, zes, zet, zeu, zev, zew, zex, zey, zez, zfa, zfb, zfc, zfd, zfe, zff, zfh, zfi, zfj, zfk, zfl, zfm, zfn, zfo, zfu, zfv, zfw, zfx, zfy, zfz, zga, zgc, zgd, zge, zgh, zgi, zgj, zgk, zgl, zgm, zgn, zgo, zgp, zgq, zgr, zgs, zgt, zgu, zgv, zgw, zgx, zgy, zgz, zha, zhb, zhc, zhd, zhe, zhf, zhg, zhh, zhi, zhj, zhk, zhn, zho, zhp, zhr, zhs, zht, zhu, zhv, zhw, zhx, zhy, zhz, zia, zib, zic, zid, zie, zif, zig, zih, zii, zij, zik, zil, zim, zin, zio, zip, ziq, zir, zis, zit, ziu, ziv, ziw, zix, ziy, ziz, zja, zjb, zjc, zjd, zje, zjf, zjg, zjh, zji, zjj, zjk, zjl, zjm, zjn, zjo, zjp, zjq, zjr, zjs, zjt, zju, zjv, zjw, zjx, zjy, zjz, zka, zkb, zkc, zkd, zke, zkf, zkg, zkh, zki, zkj, zkk, zkq, zkr, zks, zkt, zku, zkv, zkw, zkx, zky, zkz, zla, zlb, zlc, zld, zle, zlf, zlg, zlh, zli, zlj, zlk, zll, zlm, zln, zlo, zlp, zlq, zlr, zls, zlt, zlu, zlv, zlw, zlx, zly, zlz, zma, zmb, tab3, tab4, tab23, tab28, tab30, tab55]
             tactic =>
              try simp only [ncast] at *
              try simp only [Int.ofNat_eq_natCast] at *
              try simp (config := { maxSteps := 4000000 }) only [hp, m1, m2, o1, m3, m4, m5, m6, s1, s2, lx, ly, dec_PairB, isE_PairB, dec_PL, isE_PL, PL_l, con3q_d, enc_Pair, Pair_a, Pair_b, Pair_c, dynOf_t, dynOf_f, dec_PairT, dec_PairF, isE_PairT, isE_PairF, enc_Node, isE_Node, dec_Node, node_eta, szN, eqb_Node, con_MeetP, con_One3, con_PrecThree, con_Same3, con_alive07, con_plain07, Int.ofNat_eq_natCast, con0, con1, con2, con3, con2t, con3t, symD0, symD1, symD2, symD3, symD4, Nat.reduceAdd, Nat.reduceSub, Nat.reduceMul, Nat.reduceMod, Nat.reduceLT, Nat.reduceLeDiff, Nat.reduceEqDiff, Nat.reduceBEq, Obj.isBox, D.setCell, D.asAgg, setAll, allFit, AV.fits, lk, upd, standAt, freeAt, backTo, packD, Nat.reduceDiv, reduceIte, reduceCtorEq, skIs, skAll, SK.is, aggL, eqbAll, D.eqb, Nat.reduceBNe]
              repeat' (first | with_reducible assumption | with_reducible refine And.intro ?_ ?_ | intro _ | omega | (rw [inR_i64]; omega))
              all_goals first
                | (with_reducible refine okD_id ?_; kernel_rfl)
                | simp_all)

end Go.Am.Ty
