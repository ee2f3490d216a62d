/- Contracts of functions that the laws reach, and plain laws. Conditions: those that each contract states. -/
import Derived.Test.YtecgdmiigdfgdaaTyT4
import Derived.Test.YtecgdmiigdfgdaaTyG1
set_option linter.unusedSimpArgs false
set_option linter.unusedVariables false
set_option maxHeartbeats 1000000
namespace Go.Am.Ty
open Go.Proofs
open Enc (enc dec)

/-! ### right types -/
theorem numb3_tame {n : Node} (h : numb3 n = true) : 0 ≤ many3 n ∧ many3 n ≤ 50 := by
  unfold numb3 at h
  unfold many3
  by_cases h5 : n.kind = 5
  · rw [if_pos h5]; omega
  · rw [if_neg h5]
    by_cases h67 : n.kind = 6 ∨ n.kind = 7
    · rw [if_pos h67]
      rw [if_neg (by omega), if_neg (by omega)] at h
      by_cases h6 : n.kind = 6
      · rw [if_pos h6] at h
        simpa using h
      · rw [if_neg h6, if_pos (by omega)] at h
        simp only [Bool.and_eq_true, decide_eq_true_eq] at h
        omega
    · rw [if_neg h67]; omega
def headBad (t : List Node) : Bool := t.length == 0 || ltB 10000 t.length || !((t.getD 0 n0).name == []) || (t.getD 0 n0).kind == 9
def right3 (t : List Node) : Bool := !headBad t && (t.all numb3 && ((end3 t 0 == (t.length : Int) && shallow3 t) && (List.range t.length).all fun i => lab3 t i))
theorem range_all_lt {p : Nat → Bool} {n : Nat} (h : ∀ j, j < n → p j = true) : (List.range n).all p = true := by
  rw [List.all_eq_true]
  intro j hj
  exact h j (List.mem_range.1 hj)
theorem range_all_not {p : Nat → Bool} {n : Nat} (j : Nat) (hj : j < n) (h : p j = false) : (List.range n).all p = false := by
  rw [Bool.eq_false_iff]
  intro hc
  rw [List.all_eq_true] at hc
  have := hc j (List.mem_range.2 hj)
  rw [h] at this
  cases this
def con_Right3 : Con := con1 (fun (t : Sl Node) => t.l.length ≤ 9223372036854775807 ∧ Named t.l) (fun t => right3 t.l)
noncomputable def ctx_Right3 : Ctx := ⟨tab, lkC [(47, con_numbered3), (48, con_End3), (49, con_shallow3), (50, con_labelled3)], 60, lkB [], []⟩
theorem ctx_Right3_t : ctx_Right3.τ = tab := rfl
theorem ctx_Right3_c : ctx_Right3.Γ = lkC [(47, con_numbered3), (48, con_End3), (49, con_shallow3), (50, con_labelled3)] := rfl
theorem ctx_Right3_d : ctx_Right3.dp = 60 := rfl
theorem ctx_Right3_b : ctx_Right3.Δ = lkB [] := rfl
theorem ctx_Right3_u : ctx_Right3.cuts = [] := rfl
set_option maxRecDepth 100000 in
theorem good_Right3 : Good Try.prog (20, con_Right3) := by
  refine ⟨enters_of Try.func20 (by kernel_rfl) rfl, ?_⟩
  have K : CtxOk Try.prog ctx_Right3 := ctxOk_of tabOk mixedOk (by
    intro p hp
    simp only [List.mem_cons, List.not_mem_nil, or_false] at hp
    rcases hp with rfl | rfl | rfl | rfl
    · exact good_numbered3
    · exact good_End3
    · exact good_shallow3
    · exact good_labelled3) (by simp)
  obtain ⟨c, hc⟩ : ∃ c, Try.f20.body = some c := ⟨_, rfl⟩
  refine fn_sound K Try.func20 hc [.tmp 2] rfl 59 rfl (fun cvs hpre => ?_)
  change con_Right3.pre cvs at hpre
  unfold con_Right3 at hpre
  obtain ⟨⟨t⟩, rfl, ht, hN⟩ := con1_pre hpre
  simp only at ht hN
  simp only [Try.f20, Option.some.injEq] at hc
  subst hc
  refine awp_chk 3 (of_decide_eq_true (by kernel_rfl)) ?_
  by_cases h0 : t.length = 0
  · have hz : ((t.length : Int) == 0) = true := by simp [h0]
    (sym =>
       simp [hz, enc_Node, isE_Node, dec_Node, node_eta, szN, eqb_Node, ctx_Right3_t, ctx_Right3_c, ctx_Right3_d, ctx_Right3_b, ctx_Right3_u, con_End3.eq_def, con_Right3.eq_def, con_labelled3.eq_def, con_numbered3.eq_def, con_shallow3.eq_def, zaa, zab, zac, zad, zae, zaf, zag, zan, zao, zap, zaq, zar, zas, zat, zav, zax, zaz, zbh, zbm, zbn, zbo, zbp, zbq, zbr, zbs, zbt, zbu, zby, zbz, zca, zcb, zcc, zcd, zcf, zco, zcp, zcr, zcv, zcw, zcx, zdc, zde, zdf, zdg, zdh, zdi, zdu, zdv, zdw, zdx, zdy, zdz, zec, zed, zee, zef, zeg, zeh, zei, zej, zek, zel, zem, zen, zeq, zer, zes, zet, zeu, zev, zew, zex, zey, zez, zfa, zfb, zfc, zfd, zfe, zff, zfh, zfi, zfj, zfk, zfl, zfm, zfn, zfo, zfu, zfv, zfw, zfx, zfy, zfz, zga, zgb, zgc, zgd, zge, zgh, zgi, zgj, zgk, zgl, zgm, zgn, zgo, zgp, zgq, zgr, zgs, zgt, zgu, zgv, zgw, zgx, zgy, zgz, zha, zhb, zhc, zhd, zhe, zhf, zhg, zhh, zhi, zhj, zhk, zhn, zho, zhp, zhq, zhr, zhs, zht, zhu, zhv, zhw, zhx, zhy, zhz, zia, zib, zic, zid, zie, zif, zig, zih, zii, zij, zik, zil, zim, zin, zio, zip, ziq, zir, zis, zit, ziu, ziv, ziw, zix, ziy, ziz, zja, zjb, zjc, zjd, zje, zjf, zjg, zjh, zji, zjj, zjk, zjl, zjm, zjn, zjo, zjp, zjq, zjr, zjs, zjt, zju, zjv, zjw, zjx, zjy, zjz, zka, zkb, zkc, zkd, zke, zkf, zkg, zkh, zki, zkj, zkk, zkq, zkr, zku, zkv, zkw, zkx, zky, zkz, zla, zlb, zlc, zld, zle, zlf, zlg, zlh, zli, zlj, zlk, zll, zlm, zln, zlo, zlp, zlq, zlr, zls, zlt, zlu, zlv, zlw, zlx, zly, zlz, zma, zmb, tab3, tab4, tab9, tab23, tab28]
       tactic =>
        try simp only [ncast] at *
        try simp only [Int.ofNat_eq_natCast] at *
        try simp (config := { maxSteps := 4000000 }) only [hz, enc_Node, isE_Node, dec_Node, node_eta, szN, eqb_Node, con_End3, con_Right3, con_labelled3, con_numbered3, con_shallow3, Int.ofNat_eq_natCast, con0, con1, con2, con3, con2t, con3t, symD0, symD1, symD2, symD3, symD4, Nat.reduceAdd, Nat.reduceSub, Nat.reduceMul, Nat.reduceMod, Nat.reduceLT, Nat.reduceLeDiff, Nat.reduceEqDiff, Nat.reduceBEq, Obj.isBox, D.setCell, D.asAgg, setAll, allFit, AV.fits, lk, upd, standAt, freeAt, backTo, packD, Nat.reduceDiv, reduceIte, reduceCtorEq, skIs, skAll, SK.is, aggL, eqbAll, D.eqb, Nat.reduceBNe]
        unfold right3 headBad
        simp [h0])
  have hz : ((t.length : Int) == 0) = false := by rw [beq_eq_false_iff_ne]; omega
  have hlt0 : 0 < t.length := by omega
  have heb : headBad t = true → false = right3 t := by
    intro h; unfold right3; rw [h]; rfl
  have zz1 := el_enc n0 hlt0
  (sym =>
     simp [hz, zz1, enc_Node, isE_Node, dec_Node, node_eta, szN, eqb_Node, ctx_Right3_t, ctx_Right3_c, ctx_Right3_d, ctx_Right3_b, ctx_Right3_u, con_End3.eq_def, con_Right3.eq_def, con_labelled3.eq_def, con_numbered3.eq_def, con_shallow3.eq_def, zaa, zab, zac, zad, zae, zaf, zag, zan, zao, zap, zaq, zar, zas, zat, zav, zax, zaz, zbh, zbm, zbn, zbo, zbp, zbq, zbr, zbs, zbt, zbu, zby, zbz, zca, zcb, zcc, zcd, zcf, zco, zcp, zcr, zcv, zcw, zcx, zdc, zde, zdf, zdg, zdh, zdi, zdu, zdv, zdw, zdx, zdy, zdz, zec, zed, zee, zef, zeg, zeh, zei, zej, zek, zel, zem, zen, zeq, zer, zes, zet, zeu, zev, zew, zex, zey, zez, zfa, zfb, zfc, zfd, zfe, zff, zfh, zfi, zfj, zfk, zfl, zfm, zfn, zfo, zfu, zfv, zfw, zfx, zfy, zfz, zga, zgb, zgc, zgd, zge, zgh, zgi, zgj, zgk, zgl, zgm, zgn, zgo, zgp, zgq, zgr, zgs, zgt, zgu, zgv, zgw, zgx, zgy, zgz, zha, zhb, zhc, zhd, zhe, zhf, zhg, zhh, zhi, zhj, zhk, zhn, zho, zhp, zhq, zhr, zhs, zht, zhu, zhv, zhw, zhx, zhy, zhz, zia, zib, zic, zid, zie, zif, zig, zih, zii, zij, zik, zil, zim, zin, zio, zip, ziq, zir, zis, zit, ziu, ziv, ziw, zix, ziy, ziz, zja, zjb, zjc, zjd, zje, zjf, zjg, zjh, zji, zjj, zjk, zjl, zjm, zjn, zjo, zjp, zjq, zjr, zjs, zjt, zju, zjv, zjw, zjx, zjy, zjz, zka, zkb, zkc, zkd, zke, zkf, zkg, zkh, zki, zkj, zkk, zkq, zkr, zku, zkv, zkw, zkx, zky, zkz, zla, zlb, zlc, zld, zle, zlf, zlg, zlh, zli, zlj, zlk, zll, zlm, zln, zlo, zlp, zlq, zlr, zls, zlt, zlu, zlv, zlw, zlx, zly, zlz, zma, zmb, tab3, tab4, tab9, tab23, tab28]
     tactic =>
      try simp only [ncast] at *
      try simp only [Int.ofNat_eq_natCast] at *
      try simp (config := { maxSteps := 4000000 }) only [hz, zz1, enc_Node, isE_Node, dec_Node, node_eta, szN, eqb_Node, con_End3, con_Right3, con_labelled3, con_numbered3, con_shallow3, Int.ofNat_eq_natCast, con0, con1, con2, con3, con2t, con3t, symD0, symD1, symD2, symD3, symD4, Nat.reduceAdd, Nat.reduceSub, Nat.reduceMul, Nat.reduceMod, Nat.reduceLT, Nat.reduceLeDiff, Nat.reduceEqDiff, Nat.reduceBEq, Obj.isBox, D.setCell, D.asAgg, setAll, allFit, AV.fits, lk, upd, standAt, freeAt, backTo, packD, Nat.reduceDiv, reduceIte, reduceCtorEq, skIs, skAll, SK.is, aggL, eqbAll, D.eqb, Nat.reduceBNe]
      repeat' (first | with_reducible assumption | with_reducible refine And.intro ?_ ?_ | intro _ | omega | (rw [inR_i64]; omega))
      · rename_i h1 h2 h9
        exact heb (by unfold headBad; rw [show ((t.getD 0 n0).kind == 9) = true by rw [beq_iff_eq]; exact h9]; simp only [Bool.or_true])
      · rename_i h1 h3 h9
        have hle : t.length ≤ 10000 := by omega
        have hnb : headBad t = false := by
          unfold headBad
          simp only [Bool.or_eq_false_iff, ltB_false, beq_eq_false_iff_ne]
          refine ⟨⟨⟨by omega, by omega⟩, ?_⟩, h9⟩
          simpa using h3
        have hr : right3 t = (t.all numb3 && ((end3 t 0 == (t.length : Int) && shallow3 t) && (List.range t.length).all fun i => lab3 t i)) := by
          unfold right3; rw [hnb]; rfl
        refine aLoop_kill [2, 27, 28, 29, 30, 31, 32, 33, 34, 35, 36, 37, 38] (fun k : Nat => [(3, .d (.int .i64 k))]) (fun k : Nat => []) (fun k : Nat => k ≤ t.length ∧ ∀ j, j < k → numb3 (t.getD j n0) = true) (fun k : Nat => t.length - k) 0 ?_ ?_ ?_
        · simp
        · ((try simp only [atHead_mk, killAll, setSlots, updAll, upd, set_fl, setCs, putC, Nat.reduceDiv, Nat.reduceMod, Nat.reduceMul, Nat.reduceAdd, Nat.reduceEqDiff, List.set_cons_zero, List.set_cons_succ, if_true, if_false, reduceIte]); (first | refine Wk.of_fl ?_ | skip); simp only [Wk, wkK, wkCs, wkT, wk1, AV.kept, keptAll, wkO, lk, wkObj, and_true, true_and, and_self, Nat.reduceEqDiff, Nat.reduceLeDiff, if_true, if_false, reduceIte, reduceCtorEq, Option.isSome, false_implies]; try simp [Wk, wkK, wkT, wk1, AV.kept, keptAll, wkO, lk, wkObj])
        rintro k ⟨hk, hno⟩
        rcases ltB_cases k t.length with ⟨hlt, hlb⟩ | ⟨hlt, hlb⟩
        · have zz2 := el_enc n0 hlt
          (sym =>
             simp [hlb, zz2, enc_Node, isE_Node, dec_Node, node_eta, szN, eqb_Node, ctx_Right3_t, ctx_Right3_c, ctx_Right3_d, ctx_Right3_b, ctx_Right3_u, con_End3.eq_def, con_Right3.eq_def, con_labelled3.eq_def, con_numbered3.eq_def, con_shallow3.eq_def, zaa, zab, zac, zad, zae, zaf, zag, zan, zao, zap, zaq, zar, zas, zat, zav, zax, zaz, zbh, zbm, zbn, zbo, zbp, zbq, zbr, zbs, zbt, zbu, zby, zbz, zca, zcb, zcc, zcd, zcf, zco, zcp, zcr, zcv, zcw, zcx, zdc, zde, zdf, zdg, zdh, zdi, zdu, zdv, zdw, zdx, zdy, zdz, zec, zed, zee, zef, zeg, zeh, zei, zej, zek, zel, zem, zen, zeq, zer, zes, zet, zeu, zev, zew, zex, zey, zez, zfa, zfb, zfc, zfd, zfe, zff, zfh, zfi, zfj, zfk, zfl, zfm, zfn, zfo, zfu, zfv, zfw, zfx, zfy, zfz, zga, zgb, zgc, zgd, zge, zgh, zgi, zgj, zgk, zgl, zgm, zgn, zgo, zgp, zgq, zgr, zgs, zgt, zgu, zgv, zgw, zgx, zgy, zgz, zha, zhb, zhc, zhd, zhe, zhf, zhg, zhh, zhi, zhj, zhk, zhn, zho, zhp, zhq, zhr, zhs, zht, zhu, zhv, zhw, zhx, zhy, zhz, zia, zib, zic, zid, zie, zif, zig, zih, zii, zij, zik, zil, zim, zin, zio, zip, ziq, zir, zis, zit, ziu, ziv, ziw, zix, ziy, ziz, zja, zjb, zjc, zjd, zje, zjf, zjg, zjh, zji, zjj, zjk, zjl, zjm, zjn, zjo, zjp, zjq, zjr, zjs, zjt, zju, zjv, zjw, zjx, zjy, zjz, zka, zkb, zkc, zkd, zke, zkf, zkg, zkh, zki, zkj, zkk, zkq, zkr, zku, zkv, zkw, zkx, zky, zkz, zla, zlb, zlc, zld, zle, zlf, zlg, zlh, zli, zlj, zlk, zll, zlm, zln, zlo, zlp, zlq, zlr, zls, zlt, zlu, zlv, zlw, zlx, zly, zlz, zma, zmb, tab3, tab4, tab9, tab23, tab28]
             tactic =>
              try simp only [ncast] at *
              try simp only [Int.ofNat_eq_natCast] at *
              try simp (config := { maxSteps := 4000000 }) only [hlb, zz2, enc_Node, isE_Node, dec_Node, node_eta, szN, eqb_Node, con_End3, con_Right3, con_labelled3, con_numbered3, con_shallow3, Int.ofNat_eq_natCast, con0, con1, con2, con3, con2t, con3t, symD0, symD1, symD2, symD3, symD4, Nat.reduceAdd, Nat.reduceSub, Nat.reduceMul, Nat.reduceMod, Nat.reduceLT, Nat.reduceLeDiff, Nat.reduceEqDiff, Nat.reduceBEq, Obj.isBox, D.setCell, D.asAgg, setAll, allFit, AV.fits, lk, upd, standAt, freeAt, backTo, packD, Nat.reduceDiv, reduceIte, reduceCtorEq, skIs, skAll, SK.is, aggL, eqbAll, D.eqb, Nat.reduceBNe]
              repeat' (first | with_reducible assumption | with_reducible refine And.intro ?_ ?_ | intro _ | omega | (rw [inR_i64]; omega))
              · rename_i hb
                rw [hr, all_not (p := numb3) n0 k hlt hb]
                rfl
              · rename_i hb
                refine ⟨k + 1, by ((try simp only [atHead_mk, killAll, setSlots, updAll, upd, set_fl, setCs, putC, Nat.reduceDiv, Nat.reduceMod, Nat.reduceMul, Nat.reduceAdd, Nat.reduceEqDiff, List.set_cons_zero, List.set_cons_succ, if_true, if_false, reduceIte]); (first | refine Wk.of_fl ?_ | skip); simp only [Wk, wkK, wkCs, wkT, wk1, AV.kept, keptAll, wkO, lk, wkObj, and_true, true_and, and_self, Nat.reduceEqDiff, Nat.reduceLeDiff, if_true, if_false, reduceIte, reduceCtorEq, Option.isSome, false_implies]; try simp [Wk, wkK, wkT, wk1, AV.kept, keptAll, wkO, lk, wkObj]), by omega, fun j hj => ?_, by omega⟩
                by_cases hjk : j = k
                · subst hjk; exact hb
                · exact hno j (by omega))
        · have hall : t.all numb3 = true := all_of_lt (p := numb3) n0 fun j hj => hno j (by omega)
          have hT : Tame t := ⟨by omega, fun n hn => numb3_tame (List.all_eq_true.1 hall n hn)⟩
          rw [hall, Bool.true_and] at hr
          have hT2 : Tame t ∧ inR .i64 0 := ⟨hT, by rw [inR_i64]; omega⟩
          (sym =>
             simp [hlb, hT, enc_Node, isE_Node, dec_Node, node_eta, szN, eqb_Node, ctx_Right3_t, ctx_Right3_c, ctx_Right3_d, ctx_Right3_b, ctx_Right3_u, con_End3.eq_def, con_Right3.eq_def, con_labelled3.eq_def, con_numbered3.eq_def, con_shallow3.eq_def, zaa, zab, zac, zad, zae, zaf, zag, zan, zao, zap, zaq, zar, zas, zat, zav, zax, zaz, zbh, zbm, zbn, zbo, zbp, zbq, zbr, zbs, zbt, zbu, zby, zbz, zca, zcb, zcc, zcd, zcf, zco, zcp, zcr, zcv, zcw, zcx, zdc, zde, zdf, zdg, zdh, zdi, zdu, zdv, zdw, zdx, zdy, zdz, zec, zed, zee, zef, zeg, zeh, zei, zej, zek, zel, zem, zen, zeq, zer, zes, zet, zeu, zev, zew, zex, zey, zez, zfa, zfb, zfc, zfd, zfe, zff, zfh, zfi, zfj, zfk, zfl, zfm, zfn, zfo, zfu, zfv, zfw, zfx, zfy, zfz, zga, zgb, zgc, zgd, zge, zgh, zgi, zgj, zgk, zgl, zgm, zgn, zgo, zgp, zgq, zgr, zgs, zgt, zgu, zgv, zgw, zgx, zgy, zgz, zha, zhb, zhc, zhd, zhe, zhf, zhg, zhh, zhi, zhj, zhk, zhn, zho, zhp, zhq, zhr, zhs, zht, zhu, zhv, zhw, zhx, zhy, zhz, zia, zib, zic, zid, zie, zif, zig, zih, zii, zij, zik, zil, zim, zin, zio, zip, ziq, zir, zis, zit, ziu, ziv, ziw, zix, ziy, ziz, zja, zjb, zjc, zjd, zje, zjf, zjg, zjh, zji, zjj, zjk, zjl, zjm, zjn, zjo, zjp, zjq, zjr, zjs, zjt, zju, zjv, zjw, zjx, zjy, zjz, zka, zkb, zkc, zkd, zke, zkf, zkg, zkh, zki, zkj, zkk, zkq, zkr, zku, zkv, zkw, zkx, zky, zkz, zla, zlb, zlc, zld, zle, zlf, zlg, zlh, zli, zlj, zlk, zll, zlm, zln, zlo, zlp, zlq, zlr, zls, zlt, zlu, zlv, zlw, zlx, zly, zlz, zma, zmb, tab3, tab4, tab9, tab23, tab28]
             tactic =>
              try simp only [ncast] at *
              try simp only [Int.ofNat_eq_natCast] at *
              try simp (config := { maxSteps := 4000000 }) only [hlb, hT, enc_Node, isE_Node, dec_Node, node_eta, szN, eqb_Node, con_End3, con_Right3, con_labelled3, con_numbered3, con_shallow3, Int.ofNat_eq_natCast, con0, con1, con2, con3, con2t, con3t, symD0, symD1, symD2, symD3, symD4, Nat.reduceAdd, Nat.reduceSub, Nat.reduceMul, Nat.reduceMod, Nat.reduceLT, Nat.reduceLeDiff, Nat.reduceEqDiff, Nat.reduceBEq, Obj.isBox, D.setCell, D.asAgg, setAll, allFit, AV.fits, lk, upd, standAt, freeAt, backTo, packD, Nat.reduceDiv, reduceIte, reduceCtorEq, skIs, skAll, SK.is, aggL, eqbAll, D.eqb, Nat.reduceBNe]
              repeat' (first | with_reducible assumption | with_reducible refine And.intro ?_ ?_ | intro _ | omega | (rw [inR_i64]; omega))
              · rename_i he hs
                rw [hr, hs]
                simp
              · rename_i he hs
                have hr2 : right3 t = (List.range t.length).all fun i => lab3 t i := by
                  rw [hr, hs, show (end3 t 0 == (t.length : Int)) = true by simpa using he]
                  rfl
                refine aLoop_kill [2, 49, 50, 51, 52, 53, 54, 55, 56, 57, 58] (fun k : Nat => [(4, .d (.int .i64 k))]) (fun k : Nat => []) (fun k : Nat => k ≤ t.length ∧ ∀ j, j < k → lab3 t j = true) (fun k : Nat => t.length - k) 0 ?_ ?_ ?_
                · simp
                · ((try simp only [atHead_mk, killAll, setSlots, updAll, upd, set_fl, setCs, putC, Nat.reduceDiv, Nat.reduceMod, Nat.reduceMul, Nat.reduceAdd, Nat.reduceEqDiff, List.set_cons_zero, List.set_cons_succ, if_true, if_false, reduceIte]); (first | refine Wk.of_fl ?_ | skip); simp only [Wk, wkK, wkCs, wkT, wk1, AV.kept, keptAll, wkO, lk, wkObj, and_true, true_and, and_self, Nat.reduceEqDiff, Nat.reduceLeDiff, if_true, if_false, reduceIte, reduceCtorEq, Option.isSome, false_implies]; try simp [Wk, wkK, wkT, wk1, AV.kept, keptAll, wkO, lk, wkObj])
                rintro k ⟨hk2, hno2⟩
                rcases ltB_cases k t.length with ⟨hlt2, hlb2⟩ | ⟨hlt2, hlb2⟩
                · (sym =>
                     simp [hlb2, enc_Node, isE_Node, dec_Node, node_eta, szN, eqb_Node, ctx_Right3_t, ctx_Right3_c, ctx_Right3_d, ctx_Right3_b, ctx_Right3_u, con_End3.eq_def, con_Right3.eq_def, con_labelled3.eq_def, con_numbered3.eq_def, con_shallow3.eq_def, zaa, zab, zac, zad, zae, zaf, zag, zan, zao, zap, zaq, zar, zas, zat, zav, zax, zaz, zbh, zbm, zbn, zbo, zbp, zbq, zbr, zbs, zbt, zbu, zby, zbz, zca, zcb, zcc, zcd, zcf, zco, zcp, zcr, zcv, zcw, zcx, zdc, zde, zdf, zdg, zdh, zdi, zdu, zdv, zdw, zdx, zdy, zdz, zec, zed, zee, zef, zeg, zeh, zei, zej, zek, zel, zem, zen, zeq, zer, zes, zet, zeu, zev, zew, zex, zey, zez, zfa, zfb, zfc, zfd, zfe, zff, zfh, zfi, zfj, zfk, zfl, zfm, zfn, zfo, zfu, zfv, zfw, zfx, zfy, zfz, zga, zgb, zgc, zgd, zge, zgh, zgi, zgj, zgk, zgl, zgm, zgn, zgo, zgp, zgq, zgr, zgs, zgt, zgu, zgv, zgw, zgx, zgy, zgz, zha, zhb, zhc, zhd, zhe, zhf, zhg, zhh, zhi, zhj, zhk, zhn, zho, zhp, zhq, zhr, zhs, zht, zhu, zhv, zhw, zhx, zhy, zhz, zia, zib, zic, zid, zie, zif, zig, zih, zii, zij, zik, zil, zim, zin, zio, zip, ziq, zir, zis, zit, ziu, ziv, ziw, zix, ziy, ziz, zja, zjb, zjc, zjd, zje, zjf, zjg, zjh, zji, zjj, zjk, zjl, zjm, zjn, zjo, zjp, zjq, zjr, zjs, zjt, zju, zjv, zjw, zjx, zjy, zjz, zka, zkb, zkc, zkd, zke, zkf, zkg, zkh, zki, zkj, zkk, zkq, zkr, zku, zkv, zkw, zkx, zky, zkz, zla, zlb, zlc, zld, zle, zlf, zlg, zlh, zli, zlj, zlk, zll, zlm, zln, zlo, zlp, zlq, zlr, zls, zlt, zlu, zlv, zlw, zlx, zly, zlz, zma, zmb, tab3, tab4, tab9, tab23, tab28]
                     tactic =>
                      try simp only [ncast] at *
                      try simp only [Int.ofNat_eq_natCast] at *
                      try simp (config := { maxSteps := 4000000 }) only [hlb2, enc_Node, isE_Node, dec_Node, node_eta, szN, eqb_Node, con_End3, con_Right3, con_labelled3, con_numbered3, con_shallow3, Int.ofNat_eq_natCast, con0, con1, con2, con3, con2t, con3t, symD0, symD1, symD2, symD3, symD4, Nat.reduceAdd, Nat.reduceSub, Nat.reduceMul, Nat.reduceMod, Nat.reduceLT, Nat.reduceLeDiff, Nat.reduceEqDiff, Nat.reduceBEq, Obj.isBox, D.setCell, D.asAgg, setAll, allFit, AV.fits, lk, upd, standAt, freeAt, backTo, packD, Nat.reduceDiv, reduceIte, reduceCtorEq, skIs, skAll, SK.is, aggL, eqbAll, D.eqb, Nat.reduceBNe]
                      repeat' (first | with_reducible assumption | with_reducible refine And.intro ?_ ?_ | intro _ | omega | (rw [inR_i64]; omega))
                      · rename_i hb
                        rw [hr2, range_all_not k hlt2 hb]
                      · rename_i hb
                        refine ⟨k + 1, by ((try simp only [atHead_mk, killAll, setSlots, updAll, upd, set_fl, setCs, putC, Nat.reduceDiv, Nat.reduceMod, Nat.reduceMul, Nat.reduceAdd, Nat.reduceEqDiff, List.set_cons_zero, List.set_cons_succ, if_true, if_false, reduceIte]); (first | refine Wk.of_fl ?_ | skip); simp only [Wk, wkK, wkCs, wkT, wk1, AV.kept, keptAll, wkO, lk, wkObj, and_true, true_and, and_self, Nat.reduceEqDiff, Nat.reduceLeDiff, if_true, if_false, reduceIte, reduceCtorEq, Option.isSome, false_implies]; try simp [Wk, wkK, wkT, wk1, AV.kept, keptAll, wkO, lk, wkObj]), by omega, fun j hj => ?_, by omega⟩
                        by_cases hjk : j = k
                        · subst hjk; exact hb
                        · exact hno2 j (by omega))
                · (sym =>
                     simp [hlb2, enc_Node, isE_Node, dec_Node, node_eta, szN, eqb_Node, ctx_Right3_t, ctx_Right3_c, ctx_Right3_d, ctx_Right3_b, ctx_Right3_u, con_End3.eq_def, con_Right3.eq_def, con_labelled3.eq_def, con_numbered3.eq_def, con_shallow3.eq_def, zaa, zab, zac, zad, zae, zaf, zag, zan, zao, zap, zaq, zar, zas, zat, zav, zax, zaz, zbh, zbm, zbn, zbo, zbp, zbq, zbr, zbs, zbt, zbu, zby, zbz, zca, zcb, zcc, zcd, zcf, zco, zcp, zcr, zcv, zcw, zcx, zdc, zde, zdf, zdg, zdh, zdi, zdu, zdv, zdw, zdx, zdy, zdz, zec, zed, zee, zef, zeg, zeh, zei, zej, zek, zel, zem, zen, zeq, zer, zes, zet, zeu, zev, zew, zex, zey, zez, zfa, zfb, zfc, zfd, zfe, zff, zfh, zfi, zfj, zfk, zfl, zfm, zfn, zfo, zfu, zfv, zfw, zfx, zfy, zfz, zga, zgb, zgc, zgd, zge, zgh, zgi, zgj, zgk, zgl, zgm, zgn, zgo, zgp, zgq, zgr, zgs, zgt, zgu, zgv, zgw, zgx, zgy, zgz, zha, zhb, zhc, zhd, zhe, zhf, zhg, zhh, zhi, zhj, zhk, zhn, zho, zhp, zhq, zhr, zhs, zht, zhu, zhv, zhw, zhx, zhy, zhz, zia, zib, zic, zid, zie, zif, zig, zih, zii, zij, zik, zil, zim, zin, zio, zip, ziq, zir, zis, zit, ziu, ziv, ziw, zix, ziy, ziz, zja, zjb, zjc, zjd, zje, zjf, zjg, zjh, zji, zjj, zjk, zjl, zjm, zjn, zjo, zjp, zjq, zjr, zjs, zjt, zju, zjv, zjw, zjx, zjy, zjz, zka, zkb, zkc, zkd, zke, zkf, zkg, zkh, zki, zkj, zkk, zkq, zkr, zku, zkv, zkw, zkx, zky, zkz, zla, zlb, zlc, zld, zle, zlf, zlg, zlh, zli, zlj, zlk, zll, zlm, zln, zlo, zlp, zlq, zlr, zls, zlt, zlu, zlv, zlw, zlx, zly, zlz, zma, zmb, tab3, tab4, tab9, tab23, tab28]
                     tactic =>
                      try simp only [ncast] at *
                      try simp only [Int.ofNat_eq_natCast] at *
                      try simp (config := { maxSteps := 4000000 }) only [hlb2, enc_Node, isE_Node, dec_Node, node_eta, szN, eqb_Node, con_End3, con_Right3, con_labelled3, con_numbered3, con_shallow3, Int.ofNat_eq_natCast, con0, con1, con2, con3, con2t, con3t, symD0, symD1, symD2, symD3, symD4, Nat.reduceAdd, Nat.reduceSub, Nat.reduceMul, Nat.reduceMod, Nat.reduceLT, Nat.reduceLeDiff, Nat.reduceEqDiff, Nat.reduceBEq, Obj.isBox, D.setCell, D.asAgg, setAll, allFit, AV.fits, lk, upd, standAt, freeAt, backTo, packD, Nat.reduceDiv, reduceIte, reduceCtorEq, skIs, skAll, SK.is, aggL, eqbAll, D.eqb, Nat.reduceBNe]
                      rw [hr2, range_all_lt fun j hj => hno2 j (by omega)])
              · rename_i he
                rw [hr, show (end3 t 0 == (t.length : Int)) = false by simpa using he]
                rfl)
      · rename_i h1 h3
        exact heb (by unfold headBad; rw [show ((t.getD 0 n0).name == []) = false by rw [beq_eq_false_iff_ne]; exact h3]; simp only [Bool.not_false, Bool.or_true, Bool.true_or])
      · rename_i h1
        exact heb (by unfold headBad; rw [show ltB 10000 (t.length : Int) = true by rw [ltB_true]; exact h1]; simp only [Bool.or_true, Bool.true_or]))

end Go.Am.Ty
