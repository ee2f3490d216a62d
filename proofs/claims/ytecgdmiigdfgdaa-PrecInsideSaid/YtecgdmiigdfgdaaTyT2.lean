/- Contracts of functions that the laws reach, and plain laws. Conditions: those that each contract states. -/
import Derived.Test.YtecgdmiigdfgdaaTyT1
set_option linter.unusedSimpArgs false
set_option linter.unusedVariables false
set_option maxHeartbeats 1000000
namespace Go.Am.Ty
open Go.Proofs
open Enc (enc dec)

theorem take_snoc {α : Type} {l : List α} {k : Nat} (d : α) (h : k < l.length) : l.take (k + 1) = l.take k ++ [l.getD k d] := by
  rw [List.take_succ_eq_append_getElem h]
  simp [h]

/-! ### no variables -/
def plain3 (t : List Node) : Bool := t.all fun n => n.kind != 8 && n.kind != 9
def con_Plain3 : Con := con1 (fun (t : Sl Node) => t.l.length ≤ 9223372036854775807) (fun t => plain3 t.l)
noncomputable def ctx_Plain3 : Ctx := ⟨tab, lkC [], 60, lkB [], []⟩
theorem ctx_Plain3_t : ctx_Plain3.τ = tab := rfl
theorem ctx_Plain3_c : ctx_Plain3.Γ = lkC [] := rfl
theorem ctx_Plain3_d : ctx_Plain3.dp = 60 := rfl
theorem ctx_Plain3_b : ctx_Plain3.Δ = lkB [] := rfl
theorem ctx_Plain3_u : ctx_Plain3.cuts = [] := rfl
theorem good_Plain3 : Good Try.prog (21, con_Plain3) := by
  refine ⟨enters_of Try.func21 (by kernel_rfl) rfl, ?_⟩
  have K : CtxOk Try.prog ctx_Plain3 := ctxOk_of tabOk mixedOk (by simp) (by simp)
  obtain ⟨c, hc⟩ : ∃ c, Try.f21.body = some c := ⟨_, rfl⟩
  refine fn_sound K Try.func21 hc [.tmp 2] rfl 24 rfl (fun cvs hpre => ?_)
  change con_Plain3.pre cvs at hpre
  unfold con_Plain3 at hpre
  obtain ⟨⟨t⟩, rfl, ht⟩ := con1_pre hpre
  simp only at ht
  simp only [Try.f21, Option.some.injEq] at hc
  subst hc
  (sym =>
     simp [enc_Node, isE_Node, dec_Node, node_eta, szN, eqb_Node, ctx_Plain3_t, ctx_Plain3_c, ctx_Plain3_d, ctx_Plain3_b, ctx_Plain3_u, con_Plain3.eq_def, zaa, zab, zac, zad, zae, zaf, zag, zan, zao, zap, zaq, zar, zas, zat, zav, zax, zaz, zbh, zbo, zbp, zbq, zbu, zby, zbz, zca, zcb, zcc, zcd, zcf, zco, zcp, zcr, zcv, zcx, zdc, zde, zdf, zdg, zdh, zdi, zdv, zdw, zdx, zdy, zdz, zec, zed, zeq, zer, zes, zet, zeu, zev, zew, zex, zey, zez, zfa, zfb, zfc, zff, zfh, zfi, zfj, zfk, zfl, zfm, zfn, zfo, zfu, zfv, zfw, zfx, zfy, zfz, zga, zgb, zgc, zgd, zge, zgh, zgi, zgj, zgk, zgl, zgm, zgn, zgo, zgp, zgq, zgr, zgs, zgt, zgu, zgv, zgw, zgx, zgy, zgz, zha, zhb, zhc, zhd, zhe, zhf, zhg, zhh, zhi, zhj, zhk, zhq, zhr, zhs, zht, zhu, zhv, zhw, zhx, zhy, zhz, zia, zib, zic, zid, zie, zif, zig, zih, zii, zij, zik, zil, zim, zin, zio, zip, ziq, zir, zis, zit, ziu, ziv, ziw, zix, ziy, ziz, zja, zjb, zjc, zjd, zje, zjf, zjg, zjh, zji, zjj, zjk, zjl, zjm, zjn, zjo, zjp, zjq, zjr, zjs, zjt, zju, zjv, zjw, zjx, zjy, zjz, zka, zkb, zkc, zkd, zke, zkf, zkg, zkh, zki, zkj, zkk, zkq, zkr, zku, zkv, zkw, zkx, zky, zkz, zla, zlb, zlc, zld, zle, zlf, zlg, zlh, zli, zlj, zlk, zll, zlm, zln, zlo, zlp, zlq, zlr, zls, zlt, zlu, zlv, zlw, zlx, zly, zlz, zma, zmb, tab3, tab23, tab28]
     tactic =>
      try simp only [ncast] at *
      try simp only [Int.ofNat_eq_natCast] at *
      try simp (config := { maxSteps := 4000000 }) only [enc_Node, isE_Node, dec_Node, node_eta, szN, eqb_Node, con_Plain3, Int.ofNat_eq_natCast, con0, con1, con2, con3, con2t, con3t, symD0, symD1, symD2, symD3, symD4, Nat.reduceAdd, Nat.reduceSub, Nat.reduceMul, Nat.reduceMod, Nat.reduceLT, Nat.reduceLeDiff, Nat.reduceEqDiff, Nat.reduceBEq, Obj.isBox, D.setCell, D.asAgg, setAll, allFit, AV.fits, lk, upd, standAt, freeAt, backTo, packD, Nat.reduceDiv, reduceIte, reduceCtorEq, skIs, skAll, SK.is, aggL, eqbAll, D.eqb, Nat.reduceBNe]
      refine aLoop_kill [2, 4, 5, 6, 7, 8, 9, 10, 11, 12, 13, 14, 15, 16, 17, 18, 19, 20, 21, 22, 23] (fun k : Nat => [(3, .d (.int .i64 k))]) (fun k : Nat => []) (fun k : Nat => k ≤ t.length ∧ ∀ j, j < k → ((t.getD j ⟨0, [], 0⟩).kind != 8 && (t.getD j ⟨0, [], 0⟩).kind != 9) = true) (fun k : Nat => t.length - k) 0 ?_ ?_ ?_
      · simp
      · ((try simp only [atHead_mk, killAll, setSlots, updAll, upd, set_fl, setCs, putC, Nat.reduceDiv, Nat.reduceMod, Nat.reduceMul, Nat.reduceAdd, Nat.reduceEqDiff, List.set_cons_zero, List.set_cons_succ, if_true, if_false, reduceIte]); (first | refine Wk.of_fl ?_ | skip); simp only [Wk, wkK, wkCs, wkT, wk1, AV.kept, keptAll, wkO, lk, wkObj, and_true, true_and, and_self, Nat.reduceEqDiff, Nat.reduceLeDiff, if_true, if_false, reduceIte, reduceCtorEq, Option.isSome, false_implies]; try simp [Wk, wkK, wkT, wk1, AV.kept, keptAll, wkO, lk, wkObj])
      rintro k ⟨hk, hno⟩
      rcases ltB_cases k t.length with ⟨hlt, hlb⟩ | ⟨hlt, hlb⟩
      · have zz1 := el_enc (⟨0, [], 0⟩ : Node) hlt
        (sym =>
           simp [hlb, zz1, enc_Node, isE_Node, dec_Node, node_eta, szN, eqb_Node, ctx_Plain3_t, ctx_Plain3_c, ctx_Plain3_d, ctx_Plain3_b, ctx_Plain3_u, con_Plain3.eq_def, zaa, zab, zac, zad, zae, zaf, zag, zan, zao, zap, zaq, zar, zas, zat, zav, zax, zaz, zbh, zbo, zbp, zbq, zbu, zby, zbz, zca, zcb, zcc, zcd, zcf, zco, zcp, zcr, zcv, zcx, zdc, zde, zdf, zdg, zdh, zdi, zdv, zdw, zdx, zdy, zdz, zec, zed, zeq, zer, zes, zet, zeu, zev, zew, zex, zey, zez, zfa, zfb, zfc, zff, zfh, zfi, zfj, zfk, zfl, zfm, zfn, zfo, zfu, zfv, zfw, zfx, zfy, zfz, zga, zgb, zgc, zgd, zge, zgh, zgi, zgj, zgk, zgl, zgm, zgn, zgo, zgp, zgq, zgr, zgs, zgt, zgu, zgv, zgw, zgx, zgy, zgz, zha, zhb, zhc, zhd, zhe, zhf, zhg, zhh, zhi, zhj, zhk, zhq, zhr, zhs, zht, zhu, zhv, zhw, zhx, zhy, zhz, zia, zib, zic, zid, zie, zif, zig, zih, zii, zij, zik, zil, zim, zin, zio, zip, ziq, zir, zis, zit, ziu, ziv, ziw, zix, ziy, ziz, zja, zjb, zjc, zjd, zje, zjf, zjg, zjh, zji, zjj, zjk, zjl, zjm, zjn, zjo, zjp, zjq, zjr, zjs, zjt, zju, zjv, zjw, zjx, zjy, zjz, zka, zkb, zkc, zkd, zke, zkf, zkg, zkh, zki, zkj, zkk, zkq, zkr, zku, zkv, zkw, zkx, zky, zkz, zla, zlb, zlc, zld, zle, zlf, zlg, zlh, zli, zlj, zlk, zll, zlm, zln, zlo, zlp, zlq, zlr, zls, zlt, zlu, zlv, zlw, zlx, zly, zlz, zma, zmb, tab3, tab23, tab28]
           tactic =>
            try simp only [ncast] at *
            try simp only [Int.ofNat_eq_natCast] at *
            try simp (config := { maxSteps := 4000000 }) only [hlb, zz1, enc_Node, isE_Node, dec_Node, node_eta, szN, eqb_Node, con_Plain3, Int.ofNat_eq_natCast, con0, con1, con2, con3, con2t, con3t, symD0, symD1, symD2, symD3, symD4, Nat.reduceAdd, Nat.reduceSub, Nat.reduceMul, Nat.reduceMod, Nat.reduceLT, Nat.reduceLeDiff, Nat.reduceEqDiff, Nat.reduceBEq, Obj.isBox, D.setCell, D.asAgg, setAll, allFit, AV.fits, lk, upd, standAt, freeAt, backTo, packD, Nat.reduceDiv, reduceIte, reduceCtorEq, skIs, skAll, SK.is, aggL, eqbAll, D.eqb, Nat.reduceBNe]
            have hbad : ((t.getD k ⟨0, [], 0⟩).kind != 8 && (t.getD k ⟨0, [], 0⟩).kind != 9) = false → false = plain3 t := by
              intro h
              unfold plain3
              rw [all_not (p := fun n : Node => n.kind != 8 && n.kind != 9) ⟨0, [], 0⟩ k hlt h]
            repeat' (first | with_reducible assumption | with_reducible refine And.intro ?_ ?_ | intro _ | omega | (rw [inR_i64]; omega))
            · rename_i h8 h9
              exact hbad (by rw [h9]; simp)
            · rename_i h8 h9
              refine ⟨k + 1, by ((try simp only [atHead_mk, killAll, setSlots, updAll, upd, set_fl, setCs, putC, Nat.reduceDiv, Nat.reduceMod, Nat.reduceMul, Nat.reduceAdd, Nat.reduceEqDiff, List.set_cons_zero, List.set_cons_succ, if_true, if_false, reduceIte]); (first | refine Wk.of_fl ?_ | skip); simp only [Wk, wkK, wkCs, wkT, wk1, AV.kept, keptAll, wkO, lk, wkObj, and_true, true_and, and_self, Nat.reduceEqDiff, Nat.reduceLeDiff, if_true, if_false, reduceIte, reduceCtorEq, Option.isSome, false_implies]; try simp [Wk, wkK, wkT, wk1, AV.kept, keptAll, wkO, lk, wkObj]), by omega, fun j hj => ?_, by omega⟩
              by_cases hjk : j = k
              · subst hjk; simp only [bne_iff_ne, ne_eq, Bool.and_eq_true]; exact ⟨h8, h9⟩
              · exact hno j (by omega)
            · rename_i h8
              exact hbad (by rw [h8]; simp))
      · (sym =>
           simp [hlb, enc_Node, isE_Node, dec_Node, node_eta, szN, eqb_Node, ctx_Plain3_t, ctx_Plain3_c, ctx_Plain3_d, ctx_Plain3_b, ctx_Plain3_u, con_Plain3.eq_def, zaa, zab, zac, zad, zae, zaf, zag, zan, zao, zap, zaq, zar, zas, zat, zav, zax, zaz, zbh, zbo, zbp, zbq, zbu, zby, zbz, zca, zcb, zcc, zcd, zcf, zco, zcp, zcr, zcv, zcx, zdc, zde, zdf, zdg, zdh, zdi, zdv, zdw, zdx, zdy, zdz, zec, zed, zeq, zer, zes, zet, zeu, zev, zew, zex, zey, zez, zfa, zfb, zfc, zff, zfh, zfi, zfj, zfk, zfl, zfm, zfn, zfo, zfu, zfv, zfw, zfx, zfy, zfz, zga, zgb, zgc, zgd, zge, zgh, zgi, zgj, zgk, zgl, zgm, zgn, zgo, zgp, zgq, zgr, zgs, zgt, zgu, zgv, zgw, zgx, zgy, zgz, zha, zhb, zhc, zhd, zhe, zhf, zhg, zhh, zhi, zhj, zhk, zhq, zhr, zhs, zht, zhu, zhv, zhw, zhx, zhy, zhz, zia, zib, zic, zid, zie, zif, zig, zih, zii, zij, zik, zil, zim, zin, zio, zip, ziq, zir, zis, zit, ziu, ziv, ziw, zix, ziy, ziz, zja, zjb, zjc, zjd, zje, zjf, zjg, zjh, zji, zjj, zjk, zjl, zjm, zjn, zjo, zjp, zjq, zjr, zjs, zjt, zju, zjv, zjw, zjx, zjy, zjz, zka, zkb, zkc, zkd, zke, zkf, zkg, zkh, zki, zkj, zkk, zkq, zkr, zku, zkv, zkw, zkx, zky, zkz, zla, zlb, zlc, zld, zle, zlf, zlg, zlh, zli, zlj, zlk, zll, zlm, zln, zlo, zlp, zlq, zlr, zls, zlt, zlu, zlv, zlw, zlx, zly, zlz, zma, zmb, tab3, tab23, tab28]
           tactic =>
            try simp only [ncast] at *
            try simp only [Int.ofNat_eq_natCast] at *
            try simp (config := { maxSteps := 4000000 }) only [hlb, enc_Node, isE_Node, dec_Node, node_eta, szN, eqb_Node, con_Plain3, Int.ofNat_eq_natCast, con0, con1, con2, con3, con2t, con3t, symD0, symD1, symD2, symD3, symD4, Nat.reduceAdd, Nat.reduceSub, Nat.reduceMul, Nat.reduceMod, Nat.reduceLT, Nat.reduceLeDiff, Nat.reduceEqDiff, Nat.reduceBEq, Obj.isBox, D.setCell, D.asAgg, setAll, allFit, AV.fits, lk, upd, standAt, freeAt, backTo, packD, Nat.reduceDiv, reduceIte, reduceCtorEq, skIs, skAll, SK.is, aggL, eqbAll, D.eqb, Nat.reduceBNe]
            unfold plain3
            rw [all_of_lt (p := fun n : Node => n.kind != 8 && n.kind != 9) ⟨0, [], 0⟩ fun j hj => hno j (by omega)]))

/-! ### the same nodes -/
def con_One3 : Con := con2 (fun (a b : Sl Node) => a.l.length ≤ 9223372036854775807 ∧ b.l.length ≤ 9223372036854775807) (fun a b => a.l == b.l)
noncomputable def ctx_One3 : Ctx := ⟨tab, lkC [], 60, lkB [], []⟩
theorem ctx_One3_t : ctx_One3.τ = tab := rfl
theorem ctx_One3_c : ctx_One3.Γ = lkC [] := rfl
theorem ctx_One3_d : ctx_One3.dp = 60 := rfl
theorem ctx_One3_b : ctx_One3.Δ = lkB [] := rfl
theorem ctx_One3_u : ctx_One3.cuts = [] := rfl
theorem good_One3 : Good Try.prog (22, con_One3) := by
  refine ⟨enters_of Try.func22 (by kernel_rfl) rfl, ?_⟩
  have K : CtxOk Try.prog ctx_One3 := ctxOk_of tabOk mixedOk (by simp) (by simp)
  obtain ⟨c, hc⟩ : ∃ c, Try.f22.body = some c := ⟨_, rfl⟩
  refine fn_sound K Try.func22 hc [.tmp 4] rfl 26 rfl (fun cvs hpre => ?_)
  change con_One3.pre cvs at hpre
  unfold con_One3 at hpre
  obtain ⟨⟨a⟩, ⟨b⟩, rfl, ha, hb⟩ := con2_pre hpre
  simp only at ha hb
  simp only [Try.f22, Option.some.injEq] at hc
  subst hc
  (sym =>
     simp [enc_Node, isE_Node, dec_Node, node_eta, szN, eqb_Node, ctx_One3_t, ctx_One3_c, ctx_One3_d, ctx_One3_b, ctx_One3_u, con_One3.eq_def, zaa, zab, zac, zae, zaf, zag, zah, zai, zaj, zak, zal, zam, zan, zao, zap, zaq, zar, zas, zav, zaz, zbh, zbo, zbp, zbq, zbu, zby, zbz, zca, zcb, zcc, zcd, zce, zcf, zcl, zcm, zcn, zco, zcp, zcr, zcs, zct, zcv, zcx, zdc, zde, zdf, zdg, zdh, zdi, zdp, zdv, zdw, zdx, zdy, zdz, zec, zed, zeq, zer, zes, zet, zeu, zev, zew, zex, zey, zez, zfa, zfb, zfc, zff, zfh, zfi, zfj, zfk, zfl, zfm, zfn, zfo, zfp, zfq, zfr, zfs, zft, zfu, zfv, zfw, zfx, zfy, zfz, zga, zgb, zgc, zgd, zge, zgf, zgg, zgh, zgi, zgj, zgk, zgl, zgm, zgn, zgo, zgp, zgq, zgr, zgs, zgt, zgu, zgv, zgw, zgx, zgy, zgz, zha, zhb, zhc, zhd, zhe, zhf, zhg, zhh, zhi, zhj, zhk, zhq, zhr, zhs, zht, zhu, zhv, zhw, zhx, zhy, zhz, zia, zib, zic, zid, zie, zif, zig, zih, zii, zij, zik, zil, zim, zin, zio, zip, ziq, zir, zis, zit, ziu, ziv, ziw, zix, ziy, ziz, zja, zjb, zjc, zjd, zje, zjf, zjg, zjh, zji, zjj, zjk, zjl, zjm, zjn, zjo, zjp, zjq, zjr, zjs, zjt, zju, zjv, zjw, zjx, zjy, zjz, zka, zkb, zkc, zkd, zke, zkf, zkg, zkh, zki, zkj, zkk, zkq, zkr, zku, zkv, zkw, zkx, zky, zkz, zla, zlb, zlc, zld, zle, zlf, zlg, zlh, zli, zlj, zlk, zll, zlm, zln, zlo, zlp, zlq, zlr, zls, zlt, zlu, zlv, zlw, zlx, zly, zlz, zma, zmb, tab3, tab23, tab28]
     tactic =>
      try simp only [ncast] at *
      try simp only [Int.ofNat_eq_natCast] at *
      try simp (config := { maxSteps := 4000000 }) only [enc_Node, isE_Node, dec_Node, node_eta, szN, eqb_Node, con_One3, Int.ofNat_eq_natCast, con0, con1, con2, con3, con2t, con3t, symD0, symD1, symD2, symD3, symD4, Nat.reduceAdd, Nat.reduceSub, Nat.reduceMul, Nat.reduceMod, Nat.reduceLT, Nat.reduceLeDiff, Nat.reduceEqDiff, Nat.reduceBEq, Obj.isBox, D.setCell, D.asAgg, setAll, allFit, AV.fits, lk, upd, standAt, freeAt, backTo, packD, Nat.reduceDiv, reduceIte, reduceCtorEq, skIs, skAll, SK.is, aggL, eqbAll, D.eqb, Nat.reduceBNe]
      refine ⟨fun hne => ?_, fun heq => ?_⟩
      · symm
        rw [beq_eq_false_iff_ne]
        intro h
        exact hne (by rw [h])
      have hlen : a.length = b.length := by omega
      refine aLoop_kill [4, 11, 12, 13, 14, 15, 16, 17, 18, 19, 20, 21, 22, 23, 24, 25] (fun k : Nat => [(5, .d (.int .i64 k))]) (fun k : Nat => []) (fun k : Nat => k ≤ a.length ∧ ∀ j, j < k → a.getD j ⟨0, [], 0⟩ = b.getD j ⟨0, [], 0⟩) (fun k : Nat => a.length - k) 0 ?_ ?_ ?_
      · simp
      · ((try simp only [atHead_mk, killAll, setSlots, updAll, upd, set_fl, setCs, putC, Nat.reduceDiv, Nat.reduceMod, Nat.reduceMul, Nat.reduceAdd, Nat.reduceEqDiff, List.set_cons_zero, List.set_cons_succ, if_true, if_false, reduceIte]); (first | refine Wk.of_fl ?_ | skip); simp only [Wk, wkK, wkCs, wkT, wk1, AV.kept, keptAll, wkO, lk, wkObj, and_true, true_and, and_self, Nat.reduceEqDiff, Nat.reduceLeDiff, if_true, if_false, reduceIte, reduceCtorEq, Option.isSome, false_implies]; try simp [Wk, wkK, wkT, wk1, AV.kept, keptAll, wkO, lk, wkObj])
      rintro k ⟨hk, hno⟩
      rcases ltB_cases k a.length with ⟨hlt, hlb⟩ | ⟨hlt, hlb⟩
      · have zz2 := el_enc (⟨0, [], 0⟩ : Node) hlt
        have zz3 := el_enc (⟨0, [], 0⟩ : Node) (show k < b.length by omega)
        (sym =>
           simp [hlb, zz2, zz3, enc_Node, isE_Node, dec_Node, node_eta, szN, eqb_Node, ctx_One3_t, ctx_One3_c, ctx_One3_d, ctx_One3_b, ctx_One3_u, con_One3.eq_def, zaa, zab, zac, zae, zaf, zag, zah, zai, zaj, zak, zal, zam, zan, zao, zap, zaq, zar, zas, zav, zaz, zbh, zbo, zbp, zbq, zbu, zby, zbz, zca, zcb, zcc, zcd, zce, zcf, zcl, zcm, zcn, zco, zcp, zcr, zcs, zct, zcv, zcx, zdc, zde, zdf, zdg, zdh, zdi, zdp, zdv, zdw, zdx, zdy, zdz, zec, zed, zeq, zer, zes, zet, zeu, zev, zew, zex, zey, zez, zfa, zfb, zfc, zff, zfh, zfi, zfj, zfk, zfl, zfm, zfn, zfo, zfp, zfq, zfr, zfs, zft, zfu, zfv, zfw, zfx, zfy, zfz, zga, zgb, zgc, zgd, zge, zgf, zgg, zgh, zgi, zgj, zgk, zgl, zgm, zgn, zgo, zgp, zgq, zgr, zgs, zgt, zgu, zgv, zgw, zgx, zgy, zgz, zha, zhb, zhc, zhd, zhe, zhf, zhg, zhh, zhi, zhj, zhk, zhq, zhr, zhs, zht, zhu, zhv, zhw, zhx, zhy, zhz, zia, zib, zic, zid, zie, zif, zig, zih, zii, zij, zik, zil, zim, zin, zio, zip, ziq, zir, zis, zit, ziu, ziv, ziw, zix, ziy, ziz, zja, zjb, zjc, zjd, zje, zjf, zjg, zjh, zji, zjj, zjk, zjl, zjm, zjn, zjo, zjp, zjq, zjr, zjs, zjt, zju, zjv, zjw, zjx, zjy, zjz, zka, zkb, zkc, zkd, zke, zkf, zkg, zkh, zki, zkj, zkk, zkq, zkr, zku, zkv, zkw, zkx, zky, zkz, zla, zlb, zlc, zld, zle, zlf, zlg, zlh, zli, zlj, zlk, zll, zlm, zln, zlo, zlp, zlq, zlr, zls, zlt, zlu, zlv, zlw, zlx, zly, zlz, zma, zmb, tab3, tab23, tab28]
           tactic =>
            try simp only [ncast] at *
            try simp only [Int.ofNat_eq_natCast] at *
            try simp (config := { maxSteps := 4000000 }) only [hlb, zz2, zz3, enc_Node, isE_Node, dec_Node, node_eta, szN, eqb_Node, con_One3, Int.ofNat_eq_natCast, con0, con1, con2, con3, con2t, con3t, symD0, symD1, symD2, symD3, symD4, Nat.reduceAdd, Nat.reduceSub, Nat.reduceMul, Nat.reduceMod, Nat.reduceLT, Nat.reduceLeDiff, Nat.reduceEqDiff, Nat.reduceBEq, Obj.isBox, D.setCell, D.asAgg, setAll, allFit, AV.fits, lk, upd, standAt, freeAt, backTo, packD, Nat.reduceDiv, reduceIte, reduceCtorEq, skIs, skAll, SK.is, aggL, eqbAll, D.eqb, Nat.reduceBNe]
            repeat' (first | with_reducible assumption | with_reducible refine And.intro ?_ ?_ | intro _ | omega | (rw [inR_i64]; omega))
            · kernel_rfl
            · rename_i h
              symm
              rw [beq_eq_false_iff_ne]
              intro e
              exact h (by rw [e])
            · rename_i h
              refine ⟨k + 1, by ((try simp only [atHead_mk, killAll, setSlots, updAll, upd, set_fl, setCs, putC, Nat.reduceDiv, Nat.reduceMod, Nat.reduceMul, Nat.reduceAdd, Nat.reduceEqDiff, List.set_cons_zero, List.set_cons_succ, if_true, if_false, reduceIte]); (first | refine Wk.of_fl ?_ | skip); simp only [Wk, wkK, wkCs, wkT, wk1, AV.kept, keptAll, wkO, lk, wkObj, and_true, true_and, and_self, Nat.reduceEqDiff, Nat.reduceLeDiff, if_true, if_false, reduceIte, reduceCtorEq, Option.isSome, false_implies]; try simp [Wk, wkK, wkT, wk1, AV.kept, keptAll, wkO, lk, wkObj]), by omega, fun j hj => ?_, by omega⟩
              by_cases hjk : j = k
              · subst hjk; exact h
              · exact hno j (by omega))
      · (sym =>
           simp [hlb, enc_Node, isE_Node, dec_Node, node_eta, szN, eqb_Node, ctx_One3_t, ctx_One3_c, ctx_One3_d, ctx_One3_b, ctx_One3_u, con_One3.eq_def, zaa, zab, zac, zae, zaf, zag, zah, zai, zaj, zak, zal, zam, zan, zao, zap, zaq, zar, zas, zav, zaz, zbh, zbo, zbp, zbq, zbu, zby, zbz, zca, zcb, zcc, zcd, zce, zcf, zcl, zcm, zcn, zco, zcp, zcr, zcs, zct, zcv, zcx, zdc, zde, zdf, zdg, zdh, zdi, zdp, zdv, zdw, zdx, zdy, zdz, zec, zed, zeq, zer, zes, zet, zeu, zev, zew, zex, zey, zez, zfa, zfb, zfc, zff, zfh, zfi, zfj, zfk, zfl, zfm, zfn, zfo, zfp, zfq, zfr, zfs, zft, zfu, zfv, zfw, zfx, zfy, zfz, zga, zgb, zgc, zgd, zge, zgf, zgg, zgh, zgi, zgj, zgk, zgl, zgm, zgn, zgo, zgp, zgq, zgr, zgs, zgt, zgu, zgv, zgw, zgx, zgy, zgz, zha, zhb, zhc, zhd, zhe, zhf, zhg, zhh, zhi, zhj, zhk, zhq, zhr, zhs, zht, zhu, zhv, zhw, zhx, zhy, zhz, zia, zib, zic, zid, zie, zif, zig, zih, zii, zij, zik, zil, zim, zin, zio, zip, ziq, zir, zis, zit, ziu, ziv, ziw, zix, ziy, ziz, zja, zjb, zjc, zjd, zje, zjf, zjg, zjh, zji, zjj, zjk, zjl, zjm, zjn, zjo, zjp, zjq, zjr, zjs, zjt, zju, zjv, zjw, zjx, zjy, zjz, zka, zkb, zkc, zkd, zke, zkf, zkg, zkh, zki, zkj, zkk, zkq, zkr, zku, zkv, zkw, zkx, zky, zkz, zla, zlb, zlc, zld, zle, zlf, zlg, zlh, zli, zlj, zlk, zll, zlm, zln, zlo, zlp, zlq, zlr, zls, zlt, zlu, zlv, zlw, zlx, zly, zlz, zma, zmb, tab3, tab23, tab28]
           tactic =>
            try simp only [ncast] at *
            try simp only [Int.ofNat_eq_natCast] at *
            try simp (config := { maxSteps := 4000000 }) only [hlb, enc_Node, isE_Node, dec_Node, node_eta, szN, eqb_Node, con_One3, Int.ofNat_eq_natCast, con0, con1, con2, con3, con2t, con3t, symD0, symD1, symD2, symD3, symD4, Nat.reduceAdd, Nat.reduceSub, Nat.reduceMul, Nat.reduceMod, Nat.reduceLT, Nat.reduceLeDiff, Nat.reduceEqDiff, Nat.reduceBEq, Obj.isBox, D.setCell, D.asAgg, setAll, allFit, AV.fits, lk, upd, standAt, freeAt, backTo, packD, Nat.reduceDiv, reduceIte, reduceCtorEq, skIs, skAll, SK.is, aggL, eqbAll, D.eqb, Nat.reduceBNe]
            symm
            rw [beq_iff_eq]
            refine List.ext_getElem hlen fun j h1 h2 => ?_
            have := hno j (by omega)
            simpa [h1, h2] using this))

/-! ### alike, but for sites -/
def norm (n : Node) : Node := if n.kind = 0 then { n with n := 0 } else n
def same3 (a b : List Node) : Bool := a.map norm == b.map norm
def con_Same3 : Con := con2 (fun (a b : Sl Node) => a.l.length ≤ 9223372036854775807 ∧ b.l.length ≤ 9223372036854775807) (fun a b => same3 a.l b.l)
noncomputable def ctx_Same3 : Ctx := ⟨tab, lkC [], 60, lkB [], []⟩
theorem ctx_Same3_t : ctx_Same3.τ = tab := rfl
theorem ctx_Same3_c : ctx_Same3.Γ = lkC [] := rfl
theorem ctx_Same3_d : ctx_Same3.dp = 60 := rfl
theorem ctx_Same3_b : ctx_Same3.Δ = lkB [] := rfl
theorem ctx_Same3_u : ctx_Same3.cuts = [] := rfl
set_option maxRecDepth 100000 in
theorem good_Same3 : Good Try.prog (17, con_Same3) := by
  refine ⟨enters_of Try.func17 (by kernel_rfl) rfl, ?_⟩
  have K : CtxOk Try.prog ctx_Same3 := ctxOk_of tabOk mixedOk (by simp) (by simp)
  obtain ⟨c, hc⟩ : ∃ c, Try.f17.body = some c := ⟨_, rfl⟩
  refine fn_sound K Try.func17 hc [.tmp 4] rfl 38 rfl (fun cvs hpre => ?_)
  change con_Same3.pre cvs at hpre
  unfold con_Same3 at hpre
  obtain ⟨⟨a⟩, ⟨b⟩, rfl, ha, hb⟩ := con2_pre hpre
  simp only at ha hb
  simp only [Try.f17, Option.some.injEq] at hc
  subst hc
  refine awp_chk 2 (of_decide_eq_true (by kernel_rfl)) ?_
  (sym =>
     simp [enc_Node, isE_Node, dec_Node, node_eta, szN, eqb_Node, ctx_Same3_t, ctx_Same3_c, ctx_Same3_d, ctx_Same3_b, ctx_Same3_u, con_Same3.eq_def, zaa, zab, zac, zae, zaf, zag, zah, zai, zaj, zak, zal, zam, zan, zao, zap, zaq, zar, zas, zau, zav, zaw, zax, zaz, zbh, zbo, zbp, zbq, zbu, zbx, zby, zbz, zca, zcb, zcc, zcd, zce, zcf, zcl, zcm, zcn, zco, zcp, zcr, zcs, zct, zcv, zcx, zdc, zde, zdf, zdg, zdh, zdi, zdp, zdu, zdv, zdw, zdx, zdy, zdz, zec, zed, zee, zef, zeg, zeh, zei, zej, zek, zel, zem, zen, zeq, zer, zes, zet, zeu, zev, zew, zex, zey, zez, zfa, zfb, zfc, zfd, zfe, zff, zfg, zfh, zfi, zfj, zfk, zfl, zfm, zfn, zfo, zfp, zfq, zfr, zfs, zft, zfu, zfv, zfw, zfx, zfy, zfz, zga, zgb, zgc, zgd, zge, zgf, zgg, zgh, zgi, zgj, zgk, zgl, zgm, zgn, zgo, zgp, zgq, zgr, zgs, zgt, zgu, zgv, zgw, zgx, zgy, zgz, zha, zhb, zhc, zhd, zhe, zhf, zhg, zhh, zhi, zhj, zhk, zhn, zho, zhp, zhq, zhr, zhs, zht, zhu, zhv, zhw, zhx, zhy, zhz, zia, zib, zic, zid, zie, zif, zig, zih, zii, zij, zik, zil, zim, zin, zio, zip, ziq, zir, zis, zit, ziu, ziv, ziw, zix, ziy, ziz, zja, zjb, zjc, zjd, zje, zjf, zjg, zjh, zji, zjj, zjk, zjl, zjm, zjn, zjo, zjp, zjq, zjr, zjs, zjt, zju, zjv, zjw, zjx, zjy, zjz, zka, zkb, zkc, zkd, zke, zkf, zkg, zkh, zki, zkj, zkk, zkl, zkm, zkn, zko, zkp, zkq, zkr, zku, zkv, zkw, zkx, zky, zkz, zla, zlb, zlc, zld, zle, zlf, zlg, zlh, zli, zlj, zlk, zll, zlm, zln, zlo, zlp, zlq, zlr, zls, zlt, zlu, zlv, zlw, zlx, zly, zlz, zma, zmb, tab3, tab23, tab28]
     tactic =>
      try simp only [ncast] at *
      try simp only [Int.ofNat_eq_natCast] at *
      try simp (config := { maxSteps := 4000000 }) only [enc_Node, isE_Node, dec_Node, node_eta, szN, eqb_Node, con_Same3, Int.ofNat_eq_natCast, con0, con1, con2, con3, con2t, con3t, symD0, symD1, symD2, symD3, symD4, Nat.reduceAdd, Nat.reduceSub, Nat.reduceMul, Nat.reduceMod, Nat.reduceLT, Nat.reduceLeDiff, Nat.reduceEqDiff, Nat.reduceBEq, Obj.isBox, D.setCell, D.asAgg, setAll, allFit, AV.fits, lk, upd, standAt, freeAt, backTo, packD, Nat.reduceDiv, reduceIte, reduceCtorEq, skIs, skAll, SK.is, aggL, eqbAll, D.eqb, Nat.reduceBNe]
      refine ⟨fun hne => ?_, fun heq => ?_⟩
      · symm
        unfold same3
        rw [beq_eq_false_iff_ne]
        intro h
        have := congrArg List.length h
        rw [List.length_map, List.length_map] at this
        exact hne (by rw [this])
      have hlen : a.length = b.length := by omega
      refine aLoop_kill [4, 6, 7, 13, 14, 15, 16, 17, 18, 19, 20, 21, 22, 23, 24, 25, 26, 27, 28, 29, 30, 31, 32, 33, 34, 35, 36, 37] (fun k : Nat => [(5, .d (.int .i64 k))]) (fun k : Nat => []) (fun k : Nat => k ≤ a.length ∧ ∀ j, j < k → norm (a.getD j ⟨0, [], 0⟩) = norm (b.getD j ⟨0, [], 0⟩)) (fun k : Nat => a.length - k) 0 ?_ ?_ ?_
      · simp
      · ((try simp only [atHead_mk, killAll, setSlots, updAll, upd, set_fl, setCs, putC, Nat.reduceDiv, Nat.reduceMod, Nat.reduceMul, Nat.reduceAdd, Nat.reduceEqDiff, List.set_cons_zero, List.set_cons_succ, if_true, if_false, reduceIte]); (first | refine Wk.of_fl ?_ | skip); simp only [Wk, wkK, wkCs, wkT, wk1, AV.kept, keptAll, wkO, lk, wkObj, and_true, true_and, and_self, Nat.reduceEqDiff, Nat.reduceLeDiff, if_true, if_false, reduceIte, reduceCtorEq, Option.isSome, false_implies]; try simp [Wk, wkK, wkT, wk1, AV.kept, keptAll, wkO, lk, wkObj])
      rintro k ⟨hk, hno⟩
      rcases ltB_cases k a.length with ⟨hlt, hlb⟩ | ⟨hlt, hlb⟩
      · have hyes : norm (a.getD k ⟨0, [], 0⟩) = norm (b.getD k ⟨0, [], 0⟩) → ∀ j, j < k + 1 → norm (a.getD j ⟨0, [], 0⟩) = norm (b.getD j ⟨0, [], 0⟩) := by
          intro h j hj
          by_cases hjk : j = k
          · subst hjk; exact h
          · exact hno j (by omega)
        have hbad : norm (a.getD k ⟨0, [], 0⟩) ≠ norm (b.getD k ⟨0, [], 0⟩) → false = same3 a b := by
          intro h
          symm
          unfold same3
          rw [beq_eq_false_iff_ne]
          intro e
          apply h
          have h1 : (a.map norm).getD k ⟨0, [], 0⟩ = (b.map norm).getD k ⟨0, [], 0⟩ := by rw [e]
          simpa [hlt, show k < b.length by omega] using h1
        have zz4 := el_enc (⟨0, [], 0⟩ : Node) hlt
        have zz5 := el_enc (⟨0, [], 0⟩ : Node) (show k < b.length by omega)
        (sym =>
           simp [hlb, zz4, zz5, enc_Node, isE_Node, dec_Node, node_eta, szN, eqb_Node, ctx_Same3_t, ctx_Same3_c, ctx_Same3_d, ctx_Same3_b, ctx_Same3_u, con_Same3.eq_def, zaa, zab, zac, zae, zaf, zag, zah, zai, zaj, zak, zal, zam, zan, zao, zap, zaq, zar, zas, zau, zav, zaw, zax, zaz, zbh, zbo, zbp, zbq, zbu, zbx, zby, zbz, zca, zcb, zcc, zcd, zce, zcf, zcl, zcm, zcn, zco, zcp, zcr, zcs, zct, zcv, zcx, zdc, zde, zdf, zdg, zdh, zdi, zdp, zdu, zdv, zdw, zdx, zdy, zdz, zec, zed, zee, zef, zeg, zeh, zei, zej, zek, zel, zem, zen, zeq, zer, zes, zet, zeu, zev, zew, zex, zey, zez, zfa, zfb, zfc, zfd, zfe, zff, zfg, zfh, zfi, zfj, zfk, zfl, zfm, zfn, zfo, zfp, zfq, zfr, zfs, zft, zfu, zfv, zfw, zfx, zfy, zfz, zga, zgb, zgc, zgd, zge, zgf, zgg, zgh, zgi, zgj, zgk, zgl, zgm, zgn, zgo, zgp, zgq, zgr, zgs, zgt, zgu, zgv, zgw, zgx, zgy, zgz, zha, zhb, zhc, zhd, zhe, zhf, zhg, zhh, zhi, zhj, zhk, zhn, zho, zhp, zhq, zhr, zhs, zht, zhu, zhv, zhw, zhx, zhy, zhz, zia, zib, zic, zid, zie, zif, zig, zih, zii, zij, zik, zil, zim, zin, zio, zip, ziq, zir, zis, zit, ziu, ziv, ziw, zix, ziy, ziz, zja, zjb, zjc, zjd, zje, zjf, zjg, zjh, zji, zjj, zjk, zjl, zjm, zjn, zjo, zjp, zjq, zjr, zjs, zjt, zju, zjv, zjw, zjx, zjy, zjz, zka, zkb, zkc, zkd, zke, zkf, zkg, zkh, zki, zkj, zkk, zkl, zkm, zkn, zko, zkp, zkq, zkr, zku, zkv, zkw, zkx, zky, zkz, zla, zlb, zlc, zld, zle, zlf, zlg, zlh, zli, zlj, zlk, zll, zlm, zln, zlo, zlp, zlq, zlr, zls, zlt, zlu, zlv, zlw, zlx, zly, zlz, zma, zmb, tab3, tab23, tab28]
           tactic =>
            try simp only [ncast] at *
            try simp only [Int.ofNat_eq_natCast] at *
            try simp (config := { maxSteps := 4000000 }) only [hlb, zz4, zz5, enc_Node, isE_Node, dec_Node, node_eta, szN, eqb_Node, con_Same3, Int.ofNat_eq_natCast, con0, con1, con2, con3, con2t, con3t, symD0, symD1, symD2, symD3, symD4, Nat.reduceAdd, Nat.reduceSub, Nat.reduceMul, Nat.reduceMod, Nat.reduceLT, Nat.reduceLeDiff, Nat.reduceEqDiff, Nat.reduceBEq, Obj.isBox, D.setCell, D.asAgg, setAll, allFit, AV.fits, lk, upd, standAt, freeAt, backTo, packD, Nat.reduceDiv, reduceIte, reduceCtorEq, skIs, skAll, SK.is, aggL, eqbAll, D.eqb, Nat.reduceBNe]
            revert hyes hbad
            generalize a.getD k ⟨0, [], 0⟩ = x
            generalize b.getD k ⟨0, [], 0⟩ = y
            intro hyes hbad
            repeat' (first | with_reducible assumption | with_reducible refine And.intro ?_ ?_ | intro _ | omega | (rw [inR_i64]; omega))
            · kernel_rfl
            all_goals first
              | (refine hbad (fun e => ?_); revert e; clear hyes hbad hno; cases x; cases y; simp_all [norm]; done)
              | exact ⟨k + 1, by ((try simp only [atHead_mk, killAll, setSlots, updAll, upd, set_fl, setCs, putC, Nat.reduceDiv, Nat.reduceMod, Nat.reduceMul, Nat.reduceAdd, Nat.reduceEqDiff, List.set_cons_zero, List.set_cons_succ, if_true, if_false, reduceIte]); (first | refine Wk.of_fl ?_ | skip); simp only [Wk, wkK, wkCs, wkT, wk1, AV.kept, keptAll, wkO, lk, wkObj, and_true, true_and, and_self, Nat.reduceEqDiff, Nat.reduceLeDiff, if_true, if_false, reduceIte, reduceCtorEq, Option.isSome, false_implies]; try simp [Wk, wkK, wkT, wk1, AV.kept, keptAll, wkO, lk, wkObj]), by omega, hyes (by clear hyes hbad hno; cases x; cases y; simp_all [norm]), by omega⟩)
      · (sym =>
           simp [hlb, enc_Node, isE_Node, dec_Node, node_eta, szN, eqb_Node, ctx_Same3_t, ctx_Same3_c, ctx_Same3_d, ctx_Same3_b, ctx_Same3_u, con_Same3.eq_def, zaa, zab, zac, zae, zaf, zag, zah, zai, zaj, zak, zal, zam, zan, zao, zap, zaq, zar, zas, zau, zav, zaw, zax, zaz, zbh, zbo, zbp, zbq, zbu, zbx, zby, zbz, zca, zcb, zcc, zcd, zce, zcf, zcl, zcm, zcn, zco, zcp, zcr, zcs, zct, zcv, zcx, zdc, zde, zdf, zdg, zdh, zdi, zdp, zdu, zdv, zdw, zdx, zdy, zdz, zec, zed, zee, zef, zeg, zeh, zei, zej, zek, zel, zem, zen, zeq, zer, zes, zet, zeu, zev, zew, zex, zey, zez, zfa, zfb, zfc, zfd, zfe, zff, zfg, zfh, zfi, zfj, zfk, zfl, zfm, zfn, zfo, zfp, zfq, zfr, zfs, zft, zfu, zfv, zfw, zfx, zfy, zfz, zga, zgb, zgc, zgd, zge, zgf, zgg, zgh, zgi, zgj, zgk, zgl, zgm, zgn, zgo, zgp, zgq, zgr, zgs, zgt, zgu, zgv, zgw, zgx, zgy, zgz, zha, zhb, zhc, zhd, zhe, zhf, zhg, zhh, zhi, zhj, zhk, zhn, zho, zhp, zhq, zhr, zhs, zht, zhu, zhv, zhw, zhx, zhy, zhz, zia, zib, zic, zid, zie, zif, zig, zih, zii, zij, zik, zil, zim, zin, zio, zip, ziq, zir, zis, zit, ziu, ziv, ziw, zix, ziy, ziz, zja, zjb, zjc, zjd, zje, zjf, zjg, zjh, zji, zjj, zjk, zjl, zjm, zjn, zjo, zjp, zjq, zjr, zjs, zjt, zju, zjv, zjw, zjx, zjy, zjz, zka, zkb, zkc, zkd, zke, zkf, zkg, zkh, zki, zkj, zkk, zkl, zkm, zkn, zko, zkp, zkq, zkr, zku, zkv, zkw, zkx, zky, zkz, zla, zlb, zlc, zld, zle, zlf, zlg, zlh, zli, zlj, zlk, zll, zlm, zln, zlo, zlp, zlq, zlr, zls, zlt, zlu, zlv, zlw, zlx, zly, zlz, zma, zmb, tab3, tab23, tab28]
           tactic =>
            try simp only [ncast] at *
            try simp only [Int.ofNat_eq_natCast] at *
            try simp (config := { maxSteps := 4000000 }) only [hlb, enc_Node, isE_Node, dec_Node, node_eta, szN, eqb_Node, con_Same3, Int.ofNat_eq_natCast, con0, con1, con2, con3, con2t, con3t, symD0, symD1, symD2, symD3, symD4, Nat.reduceAdd, Nat.reduceSub, Nat.reduceMul, Nat.reduceMod, Nat.reduceLT, Nat.reduceLeDiff, Nat.reduceEqDiff, Nat.reduceBEq, Obj.isBox, D.setCell, D.asAgg, setAll, allFit, AV.fits, lk, upd, standAt, freeAt, backTo, packD, Nat.reduceDiv, reduceIte, reduceCtorEq, skIs, skAll, SK.is, aggL, eqbAll, D.eqb, Nat.reduceBNe]
            symm
            unfold same3
            rw [beq_iff_eq]
            refine List.ext_getElem (by simp [hlen]) fun j h1 h2 => ?_
            rw [List.length_map] at h1 h2
            have := hno j (by omega)
            simpa [h1, h2] using this))

/-! ### a function's type -/
def arrow3 (a b : List Node) : List Node := ⟨5, [], 0⟩ :: (a ++ b)
def con_Arrow3 : Con := con2 (fun (a b : Sl Node) => a.l.length ≤ 1048576 ∧ b.l.length ≤ 1048576) (fun a b => Sl.mk (arrow3 a.l b.l))
noncomputable def ctx_Arrow3 : Ctx := ⟨tab, lkC [], 60, lkB [], []⟩
theorem ctx_Arrow3_t : ctx_Arrow3.τ = tab := rfl
theorem ctx_Arrow3_c : ctx_Arrow3.Γ = lkC [] := rfl
theorem ctx_Arrow3_d : ctx_Arrow3.dp = 60 := rfl
theorem ctx_Arrow3_b : ctx_Arrow3.Δ = lkB [] := rfl
theorem ctx_Arrow3_u : ctx_Arrow3.cuts = [] := rfl
theorem good_Arrow3 : Good Try.prog (23, con_Arrow3) := by
  refine ⟨enters_of Try.func23 (by kernel_rfl) rfl, ?_⟩
  have K : CtxOk Try.prog ctx_Arrow3 := ctxOk_of tabOk mixedOk (by simp) (by simp)
  obtain ⟨c, hc⟩ : ∃ c, Try.f23.body = some c := ⟨_, rfl⟩
  refine fn_sound K Try.func23 hc [.tmp 4] rfl 15 rfl (fun cvs hpre => ?_)
  change con_Arrow3.pre cvs at hpre
  unfold con_Arrow3 at hpre
  obtain ⟨⟨a⟩, ⟨b⟩, rfl, ha, hb⟩ := con2_pre hpre
  simp only at ha hb
  simp only [Try.f23, Option.some.injEq] at hc
  subst hc
  (sym =>
     simp [enc_Node, isE_Node, dec_Node, node_eta, szN, eqb_Node, ctx_Arrow3_t, ctx_Arrow3_c, ctx_Arrow3_d, ctx_Arrow3_b, ctx_Arrow3_u, con_Arrow3.eq_def, zaa, zab, zac, zae, zaf, zag, zan, zao, zap, zaq, zar, zas, zav, zbc, zbd, zbf, zbg, zbo, zbp, zbq, zbu, zby, zca, zcb, zcc, zcd, zcf, zco, zcp, zcr, zcu, zcv, zcx, zcy, zcz, zda, zdb, zdc, zdd, zde, zdf, zdg, zdh, zdi, zdv, zdw, zec, zed, zeo, zep, zeq, zer, zes, zet, zeu, zev, zew, zex, zey, zez, zfa, zfb, zfc, zff, zfh, zfi, zfj, zfk, zfl, zfm, zfn, zfo, zfu, zfv, zfw, zfx, zfy, zfz, zga, zgc, zgd, zge, zgh, zgi, zgj, zgk, zgl, zgm, zgn, zgo, zgp, zgq, zgr, zgs, zgt, zgu, zgv, zgw, zgx, zgy, zgz, zha, zhb, zhc, zhd, zhe, zhf, zhg, zhh, zhi, zhj, zhk, zhr, zhs, zht, zhu, zhv, zhw, zhx, zhy, zhz, zia, zib, zic, zid, zie, zif, zig, zih, zii, zij, zik, zil, zim, zin, zio, zip, ziq, zir, zis, zit, ziu, ziv, ziw, zix, ziy, ziz, zja, zjb, zjc, zjd, zje, zjf, zjg, zjh, zji, zjj, zjk, zjl, zjm, zjn, zjo, zjp, zjq, zjr, zjs, zjt, zju, zjv, zjw, zjx, zjy, zjz, zka, zkb, zkc, zkd, zke, zkf, zkg, zkh, zki, zkj, zkk, zkq, zkr, zks, zkt, zku, zkv, zkw, zkx, zky, zkz, zla, zlb, zlc, zld, zle, zlf, zlg, zlh, zli, zlj, zlk, zll, zlm, zln, zlo, zlp, zlq, zlr, zls, zlt, zlu, zlv, zlw, zlx, zly, zlz, zma, zmb, tab23, tab28]
     tactic =>
      try simp only [ncast] at *
      try simp only [Int.ofNat_eq_natCast] at *
      try simp (config := { maxSteps := 4000000 }) only [enc_Node, isE_Node, dec_Node, node_eta, szN, eqb_Node, con_Arrow3, Int.ofNat_eq_natCast, con0, con1, con2, con3, con2t, con3t, symD0, symD1, symD2, symD3, symD4, Nat.reduceAdd, Nat.reduceSub, Nat.reduceMul, Nat.reduceMod, Nat.reduceLT, Nat.reduceLeDiff, Nat.reduceEqDiff, Nat.reduceBEq, Obj.isBox, D.setCell, D.asAgg, setAll, allFit, AV.fits, lk, upd, standAt, freeAt, backTo, packD, Nat.reduceDiv, reduceIte, reduceCtorEq, skIs, skAll, SK.is, aggL, eqbAll, D.eqb, Nat.reduceBNe]
      repeat' (first | with_reducible assumption | with_reducible refine And.intro ?_ ?_ | intro _ | omega | (rw [inR_i64]; omega))
      rfl)

/-! ### children -/
theorem eat_le : ∀ (l : List Node) (o : Int), eat l o ≤ l.length
  | [], o => by simp [eat]
  | n :: l, o => by
    simp only [eat]
    split
    · simp
    · have := eat_le l (o - 1 + many3 n)
      simp only [List.length_cons]
      omega
theorem eat_pos {l : List Node} {o : Int} (h : l ≠ []) : 1 ≤ eat l o := by
  cases l with
  | nil => exact absurd rfl h
  | cons n l =>
    simp only [eat]
    split <;> omega
def kidsFrom (t : List Node) : Nat → Nat → List Int
  | 0, _ => []
  | m + 1, at_ => if at_ < t.length then (at_ : Int) :: kidsFrom t m (at_ + eat (t.drop at_) 1) else []
def kids3 (t : List Node) (i : Int) : List Int := if i < 0 ∨ (t.length : Int) ≤ i then [] else kidsFrom t (many3 (t.getD i.toNat ⟨0, [], 0⟩)).toNat (i.toNat + 1)
def con_Kids3 : Con := con2 (fun (t : Sl Node) (i : Int) => Tame t.l ∧ inR .i64 i) (fun t i => Sl.mk (kids3 t.l i))
noncomputable def ctx_Kids3 : Ctx := ⟨tab, lkC [(48, con_End3), (77, con_many3)], 60, lkB [], []⟩
theorem ctx_Kids3_t : ctx_Kids3.τ = tab := rfl
theorem ctx_Kids3_c : ctx_Kids3.Γ = lkC [(48, con_End3), (77, con_many3)] := rfl
theorem ctx_Kids3_d : ctx_Kids3.dp = 60 := rfl
theorem ctx_Kids3_b : ctx_Kids3.Δ = lkB [] := rfl
theorem ctx_Kids3_u : ctx_Kids3.cuts = [] := rfl
theorem good_Kids3 : Good Try.prog (78, con_Kids3) := by
  refine ⟨enters_of Try.func78 (by kernel_rfl) rfl, ?_⟩
  have K : CtxOk Try.prog ctx_Kids3 := ctxOk_of tabOk mixedOk (by
    intro p hp
    simp only [List.mem_cons, List.not_mem_nil, or_false] at hp
    rcases hp with rfl | rfl
    · exact good_End3
    · exact good_many3) (by simp)
  obtain ⟨c, hc⟩ : ∃ c, Try.f78.body = some c := ⟨_, rfl⟩
  refine fn_sound K Try.func78 hc [.tmp 4] rfl 43 rfl (fun cvs hpre => ?_)
  change con_Kids3.pre cvs at hpre
  unfold con_Kids3 at hpre
  obtain ⟨⟨t⟩, i, rfl, ⟨ht, hm⟩, hi⟩ := con2_pre hpre
  simp only at ht hm
  rw [inR_i64] at hi
  simp only [Try.f78, Option.some.injEq] at hc
  subst hc
  refine awp_chk 2 (of_decide_eq_true (by kernel_rfl)) ?_
  (sym =>
     simp [enc_Node, isE_Node, dec_Node, node_eta, szN, eqb_Node, ctx_Kids3_t, ctx_Kids3_c, ctx_Kids3_d, ctx_Kids3_b, ctx_Kids3_u, con_End3.eq_def, con_Kids3.eq_def, con_many3.eq_def, zaa, zab, zac, zad, zae, zaf, zag, zan, zao, zap, zaq, zar, zas, zat, zav, zaz, zbc, zbf, zbg, zbh, zbm, zbn, zbo, zbp, zbq, zbr, zbs, zbt, zbu, zby, zbz, zca, zcb, zcc, zcd, zcf, zco, zcp, zcr, zcv, zcw, zcx, zcy, zcz, zda, zdb, zdc, zdd, zde, zdf, zdg, zdh, zdi, zdu, zdv, zdw, zdx, zdy, zdz, zec, zed, zee, zef, zeg, zeh, zei, zej, zek, zel, zem, zen, zeo, zep, zeq, zer, zes, zet, zeu, zev, zew, zex, zey, zez, zfa, zfb, zfc, zfd, zfe, zff, zfh, zfi, zfj, zfk, zfl, zfm, zfn, zfo, zfu, zfv, zfw, zfx, zfy, zfz, zga, zgb, zgc, zgd, zge, zgh, zgi, zgj, zgk, zgl, zgm, zgn, zgo, zgp, zgq, zgr, zgs, zgt, zgu, zgv, zgw, zgx, zgy, zgz, zha, zhb, zhc, zhd, zhe, zhf, zhg, zhh, zhi, zhj, zhk, zhn, zho, zhp, zhq, zhr, zhs, zht, zhu, zhv, zhw, zhx, zhy, zhz, zia, zib, zic, zid, zie, zif, zig, zih, zii, zij, zik, zil, zim, zin, zio, zip, ziq, zir, zis, zit, ziu, ziv, ziw, zix, ziy, ziz, zja, zjb, zjc, zjd, zje, zjf, zjg, zjh, zji, zjj, zjk, zjl, zjm, zjn, zjo, zjp, zjq, zjr, zjs, zjt, zju, zjv, zjw, zjx, zjy, zjz, zka, zkb, zkc, zkd, zke, zkf, zkg, zkh, zki, zkj, zkk, zkq, zkr, zks, zkt, zku, zkv, zkw, zkx, zky, zkz, zla, zlb, zlc, zld, zle, zlf, zlg, zlh, zli, zlj, zlk, zll, zlm, zln, zlo, zlp, zlq, zlr, zls, zlt, zlu, zlv, zlw, zlx, zly, zlz, zma, zmb, tab3, tab23, tab28, tab84]
     tactic =>
      try simp only [ncast] at *
      try simp only [Int.ofNat_eq_natCast] at *
      try simp (config := { maxSteps := 4000000 }) only [enc_Node, isE_Node, dec_Node, node_eta, szN, eqb_Node, con_End3, con_Kids3, con_many3, Int.ofNat_eq_natCast, con0, con1, con2, con3, con2t, con3t, symD0, symD1, symD2, symD3, symD4, Nat.reduceAdd, Nat.reduceSub, Nat.reduceMul, Nat.reduceMod, Nat.reduceLT, Nat.reduceLeDiff, Nat.reduceEqDiff, Nat.reduceBEq, Obj.isBox, D.setCell, D.asAgg, setAll, allFit, AV.fits, lk, upd, standAt, freeAt, backTo, packD, Nat.reduceDiv, reduceIte, reduceCtorEq, skIs, skAll, SK.is, aggL, eqbAll, D.eqb, Nat.reduceBNe]
      repeat' (first | with_reducible assumption | with_reducible refine And.intro ?_ ?_ | intro _ | omega | (rw [inR_i64]; omega))
      · unfold kids3
        rw [if_pos (.inr ‹_›)]
        rfl
      · obtain ⟨i, rfl⟩ : ∃ n : Nat, i = n := ⟨i.toNat, by omega⟩
        have hil : i < t.length := by omega
        have hmi := hm (t.getD i ⟨0, [], 0⟩) (by simp [hil])
        obtain ⟨M, hM⟩ : ∃ M : Nat, many3 (t.getD i ⟨0, [], 0⟩) = M := ⟨(many3 (t.getD i ⟨0, [], 0⟩)).toNat, by omega⟩
        have e0 : kids3 t i = kidsFrom t M (i + 1) := by
          unfold kids3
          rw [if_neg (by omega)]
          simp only [Int.toNat_natCast, hM]
        refine aLoop_kill [20, 21, 22, 23, 24, 25, 26, 27, 28, 29, 30, 31, 32, 33, 34, 35, 36, 37, 38, 39, 40, 41] (fun p : Nat × Nat × List Int => [(5, .sl 8 (p.2.2.map enc).length), (6, .d (.int .i64 p.2.1)), (7, .d (.int .i64 p.1))]) (fun p : Nat × Nat × List Int => [(8, .row 1 (p.2.2.map enc) 0)]) (fun p : Nat × Nat × List Int => p.1 ≤ M ∧ p.2.1 ≤ t.length ∧ p.2.2.length = p.1 ∧ p.2.2 ++ kidsFrom t (M - p.1) p.2.1 = kidsFrom t M (i + 1)) (fun p : Nat × Nat × List Int => M - p.1) (0, i + 1, []) ?_ ?_ ?_
        · exact ⟨Nat.zero_le _, hil, rfl, rfl⟩
        · ((try simp only [atHead_mk, killAll, setSlots, updAll, upd, set_fl, setCs, putC, Nat.reduceDiv, Nat.reduceMod, Nat.reduceMul, Nat.reduceAdd, Nat.reduceEqDiff, List.set_cons_zero, List.set_cons_succ, if_true, if_false, reduceIte]); (first | refine Wk.of_fl ?_ | skip); simp only [Wk, wkK, wkCs, wkT, wk1, AV.kept, keptAll, wkO, lk, wkObj, and_true, true_and, and_self, Nat.reduceEqDiff, Nat.reduceLeDiff, if_true, if_false, reduceIte, reduceCtorEq, Option.isSome, false_implies]; try simp [Wk, wkK, wkT, wk1, AV.kept, keptAll, wkO, lk, wkObj])
        rintro ⟨k, q, out⟩ ⟨h1, h2, h3, h4⟩
        simp only at h1 h2 h3 h4
        rcases ltB_cases k M with ⟨hk, hkb⟩ | ⟨hk, hkb⟩
        · rcases ltB_cases q t.length with ⟨hq, hqb⟩ | ⟨hq, hqb⟩
          · have e1 : M - k = (M - k - 1) + 1 := by omega
            rw [e1, kidsFrom, if_pos hq] at h4
            have hle := eat_le (t.drop q) 1
            rw [List.length_drop] at hle
            have e2 : end3 t q = ((q + eat (t.drop q) 1 : Nat) : Int) := by
              unfold end3
              rw [if_neg (by omega)]
              simp
            have hT : Tame t := ⟨ht, hm⟩
            have zz6 := el_enc (⟨0, [], 0⟩ : Node) hil
            (sym =>
               simp [hkb, hqb, hM, e2, zz6, enc_Node, isE_Node, dec_Node, node_eta, szN, eqb_Node, ctx_Kids3_t, ctx_Kids3_c, ctx_Kids3_d, ctx_Kids3_b, ctx_Kids3_u, con_End3.eq_def, con_Kids3.eq_def, con_many3.eq_def, zaa, zab, zac, zad, zae, zaf, zag, zan, zao, zap, zaq, zar, zas, zat, zav, zaz, zbc, zbf, zbg, zbh, zbm, zbn, zbo, zbp, zbq, zbr, zbs, zbt, zbu, zby, zbz, zca, zcb, zcc, zcd, zcf, zco, zcp, zcr, zcv, zcw, zcx, zcy, zcz, zda, zdb, zdc, zdd, zde, zdf, zdg, zdh, zdi, zdu, zdv, zdw, zdx, zdy, zdz, zec, zed, zee, zef, zeg, zeh, zei, zej, zek, zel, zem, zen, zeo, zep, zeq, zer, zes, zet, zeu, zev, zew, zex, zey, zez, zfa, zfb, zfc, zfd, zfe, zff, zfh, zfi, zfj, zfk, zfl, zfm, zfn, zfo, zfu, zfv, zfw, zfx, zfy, zfz, zga, zgb, zgc, zgd, zge, zgh, zgi, zgj, zgk, zgl, zgm, zgn, zgo, zgp, zgq, zgr, zgs, zgt, zgu, zgv, zgw, zgx, zgy, zgz, zha, zhb, zhc, zhd, zhe, zhf, zhg, zhh, zhi, zhj, zhk, zhn, zho, zhp, zhq, zhr, zhs, zht, zhu, zhv, zhw, zhx, zhy, zhz, zia, zib, zic, zid, zie, zif, zig, zih, zii, zij, zik, zil, zim, zin, zio, zip, ziq, zir, zis, zit, ziu, ziv, ziw, zix, ziy, ziz, zja, zjb, zjc, zjd, zje, zjf, zjg, zjh, zji, zjj, zjk, zjl, zjm, zjn, zjo, zjp, zjq, zjr, zjs, zjt, zju, zjv, zjw, zjx, zjy, zjz, zka, zkb, zkc, zkd, zke, zkf, zkg, zkh, zki, zkj, zkk, zkq, zkr, zks, zkt, zku, zkv, zkw, zkx, zky, zkz, zla, zlb, zlc, zld, zle, zlf, zlg, zlh, zli, zlj, zlk, zll, zlm, zln, zlo, zlp, zlq, zlr, zls, zlt, zlu, zlv, zlw, zlx, zly, zlz, zma, zmb, tab3, tab23, tab28, tab84]
               tactic =>
                try simp only [ncast] at *
                try simp only [Int.ofNat_eq_natCast] at *
                try simp (config := { maxSteps := 4000000 }) only [hkb, hqb, hM, e2, zz6, enc_Node, isE_Node, dec_Node, node_eta, szN, eqb_Node, con_End3, con_Kids3, con_many3, Int.ofNat_eq_natCast, con0, con1, con2, con3, con2t, con3t, symD0, symD1, symD2, symD3, symD4, Nat.reduceAdd, Nat.reduceSub, Nat.reduceMul, Nat.reduceMod, Nat.reduceLT, Nat.reduceLeDiff, Nat.reduceEqDiff, Nat.reduceBEq, Obj.isBox, D.setCell, D.asAgg, setAll, allFit, AV.fits, lk, upd, standAt, freeAt, backTo, packD, Nat.reduceDiv, reduceIte, reduceCtorEq, skIs, skAll, SK.is, aggL, eqbAll, D.eqb, Nat.reduceBNe]
                repeat' (first | with_reducible assumption | with_reducible refine And.intro ?_ ?_ | intro _ | omega | (rw [inR_i64]; omega))
                refine ⟨(k + 1, q + eat (t.drop q) 1, out ++ [(q : Int)]), by ((try simp only [atHead_mk, killAll, setSlots, updAll, upd, set_fl, setCs, putC, Nat.reduceDiv, Nat.reduceMod, Nat.reduceMul, Nat.reduceAdd, Nat.reduceEqDiff, List.set_cons_zero, List.set_cons_succ, if_true, if_false, reduceIte]); (first | refine Wk.of_fl ?_ | skip); simp only [Wk, wkK, wkCs, wkT, wk1, AV.kept, keptAll, wkO, lk, wkObj, and_true, true_and, and_self, Nat.reduceEqDiff, Nat.reduceLeDiff, if_true, if_false, reduceIte, reduceCtorEq, Option.isSome, false_implies]; try simp [Wk, wkK, wkT, wk1, AV.kept, keptAll, wkO, lk, wkObj]), by simp only; omega, by simp only; omega, by simp [h3], ?_, by simp only; omega⟩
                simp only
                rw [← h4, show M - (k + 1) = M - k - 1 by omega]
                simp)
          · have hz : kidsFrom t (M - k) q = [] := by
              cases hc : M - k with
              | zero => rfl
              | succ c => rw [kidsFrom, if_neg (by omega)]
            rw [hz, List.append_nil] at h4
            have zz7 := el_enc (⟨0, [], 0⟩ : Node) hil
            (sym =>
               simp [hkb, hqb, hM, zz7, enc_Node, isE_Node, dec_Node, node_eta, szN, eqb_Node, ctx_Kids3_t, ctx_Kids3_c, ctx_Kids3_d, ctx_Kids3_b, ctx_Kids3_u, con_End3.eq_def, con_Kids3.eq_def, con_many3.eq_def, zaa, zab, zac, zad, zae, zaf, zag, zan, zao, zap, zaq, zar, zas, zat, zav, zaz, zbc, zbf, zbg, zbh, zbm, zbn, zbo, zbp, zbq, zbr, zbs, zbt, zbu, zby, zbz, zca, zcb, zcc, zcd, zcf, zco, zcp, zcr, zcv, zcw, zcx, zcy, zcz, zda, zdb, zdc, zdd, zde, zdf, zdg, zdh, zdi, zdu, zdv, zdw, zdx, zdy, zdz, zec, zed, zee, zef, zeg, zeh, zei, zej, zek, zel, zem, zen, zeo, zep, zeq, zer, zes, zet, zeu, zev, zew, zex, zey, zez, zfa, zfb, zfc, zfd, zfe, zff, zfh, zfi, zfj, zfk, zfl, zfm, zfn, zfo, zfu, zfv, zfw, zfx, zfy, zfz, zga, zgb, zgc, zgd, zge, zgh, zgi, zgj, zgk, zgl, zgm, zgn, zgo, zgp, zgq, zgr, zgs, zgt, zgu, zgv, zgw, zgx, zgy, zgz, zha, zhb, zhc, zhd, zhe, zhf, zhg, zhh, zhi, zhj, zhk, zhn, zho, zhp, zhq, zhr, zhs, zht, zhu, zhv, zhw, zhx, zhy, zhz, zia, zib, zic, zid, zie, zif, zig, zih, zii, zij, zik, zil, zim, zin, zio, zip, ziq, zir, zis, zit, ziu, ziv, ziw, zix, ziy, ziz, zja, zjb, zjc, zjd, zje, zjf, zjg, zjh, zji, zjj, zjk, zjl, zjm, zjn, zjo, zjp, zjq, zjr, zjs, zjt, zju, zjv, zjw, zjx, zjy, zjz, zka, zkb, zkc, zkd, zke, zkf, zkg, zkh, zki, zkj, zkk, zkq, zkr, zks, zkt, zku, zkv, zkw, zkx, zky, zkz, zla, zlb, zlc, zld, zle, zlf, zlg, zlh, zli, zlj, zlk, zll, zlm, zln, zlo, zlp, zlq, zlr, zls, zlt, zlu, zlv, zlw, zlx, zly, zlz, zma, zmb, tab3, tab23, tab28, tab84]
               tactic =>
                try simp only [ncast] at *
                try simp only [Int.ofNat_eq_natCast] at *
                try simp (config := { maxSteps := 4000000 }) only [hkb, hqb, hM, zz7, enc_Node, isE_Node, dec_Node, node_eta, szN, eqb_Node, con_End3, con_Kids3, con_many3, Int.ofNat_eq_natCast, con0, con1, con2, con3, con2t, con3t, symD0, symD1, symD2, symD3, symD4, Nat.reduceAdd, Nat.reduceSub, Nat.reduceMul, Nat.reduceMod, Nat.reduceLT, Nat.reduceLeDiff, Nat.reduceEqDiff, Nat.reduceBEq, Obj.isBox, D.setCell, D.asAgg, setAll, allFit, AV.fits, lk, upd, standAt, freeAt, backTo, packD, Nat.reduceDiv, reduceIte, reduceCtorEq, skIs, skAll, SK.is, aggL, eqbAll, D.eqb, Nat.reduceBNe]
                repeat' (first | with_reducible assumption | with_reducible refine And.intro ?_ ?_ | intro _ | omega | (rw [inR_i64]; omega))
                rw [e0, h4])
        · have hz : kidsFrom t (M - k) q = [] := by
            rw [show M - k = 0 by omega]
            rfl
          rw [hz, List.append_nil] at h4
          have zz8 := el_enc (⟨0, [], 0⟩ : Node) hil
          (sym =>
             simp [hkb, hM, zz8, enc_Node, isE_Node, dec_Node, node_eta, szN, eqb_Node, ctx_Kids3_t, ctx_Kids3_c, ctx_Kids3_d, ctx_Kids3_b, ctx_Kids3_u, con_End3.eq_def, con_Kids3.eq_def, con_many3.eq_def, zaa, zab, zac, zad, zae, zaf, zag, zan, zao, zap, zaq, zar, zas, zat, zav, zaz, zbc, zbf, zbg, zbh, zbm, zbn, zbo, zbp, zbq, zbr, zbs, zbt, zbu, zby, zbz, zca, zcb, zcc, zcd, zcf, zco, zcp, zcr, zcv, zcw, zcx, zcy, zcz, zda, zdb, zdc, zdd, zde, zdf, zdg, zdh, zdi, zdu, zdv, zdw, zdx, zdy, zdz, zec, zed, zee, zef, zeg, zeh, zei, zej, zek, zel, zem, zen, zeo, zep, zeq, zer, zes, zet, zeu, zev, zew, zex, zey, zez, zfa, zfb, zfc, zfd, zfe, zff, zfh, zfi, zfj, zfk, zfl, zfm, zfn, zfo, zfu, zfv, zfw, zfx, zfy, zfz, zga, zgb, zgc, zgd, zge, zgh, zgi, zgj, zgk, zgl, zgm, zgn, zgo, zgp, zgq, zgr, zgs, zgt, zgu, zgv, zgw, zgx, zgy, zgz, zha, zhb, zhc, zhd, zhe, zhf, zhg, zhh, zhi, zhj, zhk, zhn, zho, zhp, zhq, zhr, zhs, zht, zhu, zhv, zhw, zhx, zhy, zhz, zia, zib, zic, zid, zie, zif, zig, zih, zii, zij, zik, zil, zim, zin, zio, zip, ziq, zir, zis, zit, ziu, ziv, ziw, zix, ziy, ziz, zja, zjb, zjc, zjd, zje, zjf, zjg, zjh, zji, zjj, zjk, zjl, zjm, zjn, zjo, zjp, zjq, zjr, zjs, zjt, zju, zjv, zjw, zjx, zjy, zjz, zka, zkb, zkc, zkd, zke, zkf, zkg, zkh, zki, zkj, zkk, zkq, zkr, zks, zkt, zku, zkv, zkw, zkx, zky, zkz, zla, zlb, zlc, zld, zle, zlf, zlg, zlh, zli, zlj, zlk, zll, zlm, zln, zlo, zlp, zlq, zlr, zls, zlt, zlu, zlv, zlw, zlx, zly, zlz, zma, zmb, tab3, tab23, tab28, tab84]
             tactic =>
              try simp only [ncast] at *
              try simp only [Int.ofNat_eq_natCast] at *
              try simp (config := { maxSteps := 4000000 }) only [hkb, hM, zz8, enc_Node, isE_Node, dec_Node, node_eta, szN, eqb_Node, con_End3, con_Kids3, con_many3, Int.ofNat_eq_natCast, con0, con1, con2, con3, con2t, con3t, symD0, symD1, symD2, symD3, symD4, Nat.reduceAdd, Nat.reduceSub, Nat.reduceMul, Nat.reduceMod, Nat.reduceLT, Nat.reduceLeDiff, Nat.reduceEqDiff, Nat.reduceBEq, Obj.isBox, D.setCell, D.asAgg, setAll, allFit, AV.fits, lk, upd, standAt, freeAt, backTo, packD, Nat.reduceDiv, reduceIte, reduceCtorEq, skIs, skAll, SK.is, aggL, eqbAll, D.eqb, Nat.reduceBNe]
              repeat' (first | with_reducible assumption | with_reducible refine And.intro ?_ ?_ | intro _ | omega | (rw [inR_i64]; omega))
              rw [e0, h4])
      · unfold kids3
        rw [if_pos (.inl ‹_›)]
        rfl)

end Go.Am.Ty
