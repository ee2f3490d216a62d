/- Contracts of functions that the laws reach, and plain laws. Conditions: those that each contract states. -/
import Derived.Test.YtecgdmiigdfgdaaTyT5
set_option linter.unusedSimpArgs false
set_option linter.unusedVariables false
set_option maxHeartbeats 1000000
namespace Go.Am.Ty
open Go.Proofs Go.Rose Go.Rose.Rose
open Enc (enc dec)

/-! ### plain types, short -/
def plain7 (t : List Node) (most : Int) : Bool := !ltB most t.length && (t.all (fun n => !ltB 100 n.name.length) && (right3 t && plain3 t))
def con_Plain7 : Con := con2 (fun (t : Sl Node) (_ : Int) => t.l.length ≤ 9223372036854775807 ∧ Named t.l) (fun t m => plain7 t.l m)
noncomputable def ctx_Plain7 : Ctx := ⟨tab, lkC [(20, con_Right3), (21, con_Plain3)], 60, lkB [], []⟩
theorem ctx_Plain7_t : ctx_Plain7.τ = tab := rfl
theorem ctx_Plain7_c : ctx_Plain7.Γ = lkC [(20, con_Right3), (21, con_Plain3)] := rfl
theorem ctx_Plain7_d : ctx_Plain7.dp = 60 := rfl
theorem ctx_Plain7_b : ctx_Plain7.Δ = lkB [] := rfl
theorem ctx_Plain7_u : ctx_Plain7.cuts = [] := rfl
set_option maxRecDepth 100000 in
theorem good_Plain7 : Good Try.prog (24, con_Plain7) := by
  refine ⟨enters_of Try.func24 (by kernel_rfl) rfl, ?_⟩
  have K : CtxOk Try.prog ctx_Plain7 := ctxOk_of tabOk mixedOk (by
    intro p hp
    simp only [List.mem_cons, List.not_mem_nil, or_false] at hp
    rcases hp with rfl | rfl
    · exact good_Right3
    · exact good_Plain3) (by simp)
  obtain ⟨c, hc⟩ : ∃ c, Try.f24.body = some c := ⟨_, rfl⟩
  refine fn_sound K Try.func24 hc [.tmp 4] rfl 29 rfl (fun cvs hpre => ?_)
  change con_Plain7.pre cvs at hpre
  unfold con_Plain7 at hpre
  obtain ⟨⟨t⟩, m, rfl, ht, hN⟩ := con2_pre hpre
  simp only at ht hN
  simp only [Try.f24, Option.some.injEq] at hc
  subst hc
  rcases ltB_casesI m t.length with ⟨hm, hmb⟩ | ⟨hm, hmb⟩
  · (sym =>
       simp [hmb, enc_Node, isE_Node, dec_Node, node_eta, szN, eqb_Node, ctx_Plain7_t, ctx_Plain7_c, ctx_Plain7_d, ctx_Plain7_b, ctx_Plain7_u, con_Plain3.eq_def, con_Plain7.eq_def, con_Right3.eq_def, zaa, zab, zac, zad, zae, zaf, zag, zan, zao, zap, zaq, zar, zas, zat, zav, zax, zaz, zbh, zbm, zbn, zbo, zbp, zbq, zbr, zbs, zbt, zbu, zby, zbz, zca, zcb, zcc, zcd, zcf, zco, zcp, zcr, zcv, zcw, zcx, zdc, zde, zdf, zdg, zdh, zdi, zdv, zdw, zdx, zdy, zdz, zec, zed, zeq, zer, zes, zet, zeu, zev, zew, zex, zey, zez, zfa, zfb, zfc, zff, zfh, zfi, zfj, zfk, zfl, zfm, zfn, zfo, zfu, zfv, zfw, zfx, zfy, zfz, zga, zgb, zgc, zgd, zge, zgh, zgi, zgj, zgk, zgl, zgm, zgn, zgo, zgp, zgq, zgr, zgs, zgt, zgu, zgv, zgw, zgx, zgy, zgz, zha, zhb, zhc, zhd, zhe, zhf, zhg, zhh, zhi, zhj, zhk, zhq, zhr, zhs, zht, zhu, zhv, zhw, zhx, zhy, zhz, zia, zib, zic, zid, zie, zif, zig, zih, zii, zij, zik, zil, zim, zin, zio, zip, ziq, zir, zis, zit, ziu, ziv, ziw, zix, ziy, ziz, zja, zjb, zjc, zjd, zje, zjf, zjg, zjh, zji, zjj, zjk, zjl, zjm, zjn, zjo, zjp, zjq, zjr, zjs, zjt, zju, zjv, zjw, zjx, zjy, zjz, zka, zkb, zkc, zkd, zke, zkf, zkg, zkh, zki, zkj, zkk, zkq, zkr, zku, zkv, zkw, zkx, zky, zkz, zla, zlb, zlc, zld, zle, zlf, zlg, zlh, zli, zlj, zlk, zll, zlm, zln, zlo, zlp, zlq, zlr, zls, zlt, zlu, zlv, zlw, zlx, zly, zlz, zma, zmb, tab3, tab9, tab23, tab28]
       tactic =>
        try simp only [ncast] at *
        try simp only [Int.ofNat_eq_natCast] at *
        try simp (config := { maxSteps := 4000000 }) only [hmb, enc_Node, isE_Node, dec_Node, node_eta, szN, eqb_Node, con_Plain3, con_Plain7, con_Right3, Int.ofNat_eq_natCast, con0, con1, con2, con3, con2t, con3t, symD0, symD1, symD2, symD3, symD4, Nat.reduceAdd, Nat.reduceSub, Nat.reduceMul, Nat.reduceMod, Nat.reduceLT, Nat.reduceLeDiff, Nat.reduceEqDiff, Nat.reduceBEq, Obj.isBox, D.setCell, D.asAgg, setAll, allFit, AV.fits, lk, upd, standAt, freeAt, backTo, packD, Nat.reduceDiv, reduceIte, reduceCtorEq, skIs, skAll, SK.is, aggL, eqbAll, D.eqb, Nat.reduceBNe]
        unfold plain7
        rw [hmb]
        rfl)
  · have hp : plain7 t m = (t.all (fun n => !ltB 100 n.name.length) && (right3 t && plain3 t)) := by
      unfold plain7; rw [hmb]; rfl
    (sym =>
       simp [hmb, enc_Node, isE_Node, dec_Node, node_eta, szN, eqb_Node, ctx_Plain7_t, ctx_Plain7_c, ctx_Plain7_d, ctx_Plain7_b, ctx_Plain7_u, con_Plain3.eq_def, con_Plain7.eq_def, con_Right3.eq_def, zaa, zab, zac, zad, zae, zaf, zag, zan, zao, zap, zaq, zar, zas, zat, zav, zax, zaz, zbh, zbm, zbn, zbo, zbp, zbq, zbr, zbs, zbt, zbu, zby, zbz, zca, zcb, zcc, zcd, zcf, zco, zcp, zcr, zcv, zcw, zcx, zdc, zde, zdf, zdg, zdh, zdi, zdv, zdw, zdx, zdy, zdz, zec, zed, zeq, zer, zes, zet, zeu, zev, zew, zex, zey, zez, zfa, zfb, zfc, zff, zfh, zfi, zfj, zfk, zfl, zfm, zfn, zfo, zfu, zfv, zfw, zfx, zfy, zfz, zga, zgb, zgc, zgd, zge, zgh, zgi, zgj, zgk, zgl, zgm, zgn, zgo, zgp, zgq, zgr, zgs, zgt, zgu, zgv, zgw, zgx, zgy, zgz, zha, zhb, zhc, zhd, zhe, zhf, zhg, zhh, zhi, zhj, zhk, zhq, zhr, zhs, zht, zhu, zhv, zhw, zhx, zhy, zhz, zia, zib, zic, zid, zie, zif, zig, zih, zii, zij, zik, zil, zim, zin, zio, zip, ziq, zir, zis, zit, ziu, ziv, ziw, zix, ziy, ziz, zja, zjb, zjc, zjd, zje, zjf, zjg, zjh, zji, zjj, zjk, zjl, zjm, zjn, zjo, zjp, zjq, zjr, zjs, zjt, zju, zjv, zjw, zjx, zjy, zjz, zka, zkb, zkc, zkd, zke, zkf, zkg, zkh, zki, zkj, zkk, zkq, zkr, zku, zkv, zkw, zkx, zky, zkz, zla, zlb, zlc, zld, zle, zlf, zlg, zlh, zli, zlj, zlk, zll, zlm, zln, zlo, zlp, zlq, zlr, zls, zlt, zlu, zlv, zlw, zlx, zly, zlz, zma, zmb, tab3, tab9, tab23, tab28]
       tactic =>
        try simp only [ncast] at *
        try simp only [Int.ofNat_eq_natCast] at *
        try simp (config := { maxSteps := 4000000 }) only [hmb, enc_Node, isE_Node, dec_Node, node_eta, szN, eqb_Node, con_Plain3, con_Plain7, con_Right3, Int.ofNat_eq_natCast, con0, con1, con2, con3, con2t, con3t, symD0, symD1, symD2, symD3, symD4, Nat.reduceAdd, Nat.reduceSub, Nat.reduceMul, Nat.reduceMod, Nat.reduceLT, Nat.reduceLeDiff, Nat.reduceEqDiff, Nat.reduceBEq, Obj.isBox, D.setCell, D.asAgg, setAll, allFit, AV.fits, lk, upd, standAt, freeAt, backTo, packD, Nat.reduceDiv, reduceIte, reduceCtorEq, skIs, skAll, SK.is, aggL, eqbAll, D.eqb, Nat.reduceBNe]
        refine aLoop_kill [4, 10, 11, 12, 13, 14, 15, 16, 17, 18, 19, 20, 21, 22] (fun k : Nat => [(5, .d (.int .i64 k))]) (fun k : Nat => []) (fun k : Nat => k ≤ t.length ∧ ∀ j, j < k → (!ltB 100 (t.getD j n0).name.length) = true) (fun k : Nat => t.length - k) 0 ?_ ?_ ?_
        · simp
        · ((try simp only [atHead_mk, killAll, setSlots, updAll, upd, set_fl, setCs, putC, Nat.reduceDiv, Nat.reduceMod, Nat.reduceMul, Nat.reduceAdd, Nat.reduceEqDiff, List.set_cons_zero, List.set_cons_succ, if_true, if_false, reduceIte]); (first | refine Wk.of_fl ?_ | skip); simp only [Wk, wkK, wkCs, wkT, wk1, AV.kept, keptAll, wkO, lk, wkObj, and_true, true_and, and_self, Nat.reduceEqDiff, Nat.reduceLeDiff, if_true, if_false, reduceIte, reduceCtorEq, Option.isSome, false_implies]; try simp [Wk, wkK, wkT, wk1, AV.kept, keptAll, wkO, lk, wkObj])
        rintro k ⟨hk, hno⟩
        rcases ltB_cases k t.length with ⟨hlt, hlb⟩ | ⟨hlt, hlb⟩
        · have zz1 := el_enc n0 hlt
          (sym =>
             simp [hlb, zz1, enc_Node, isE_Node, dec_Node, node_eta, szN, eqb_Node, ctx_Plain7_t, ctx_Plain7_c, ctx_Plain7_d, ctx_Plain7_b, ctx_Plain7_u, con_Plain3.eq_def, con_Plain7.eq_def, con_Right3.eq_def, zaa, zab, zac, zad, zae, zaf, zag, zan, zao, zap, zaq, zar, zas, zat, zav, zax, zaz, zbh, zbm, zbn, zbo, zbp, zbq, zbr, zbs, zbt, zbu, zby, zbz, zca, zcb, zcc, zcd, zcf, zco, zcp, zcr, zcv, zcw, zcx, zdc, zde, zdf, zdg, zdh, zdi, zdv, zdw, zdx, zdy, zdz, zec, zed, zeq, zer, zes, zet, zeu, zev, zew, zex, zey, zez, zfa, zfb, zfc, zff, zfh, zfi, zfj, zfk, zfl, zfm, zfn, zfo, zfu, zfv, zfw, zfx, zfy, zfz, zga, zgb, zgc, zgd, zge, zgh, zgi, zgj, zgk, zgl, zgm, zgn, zgo, zgp, zgq, zgr, zgs, zgt, zgu, zgv, zgw, zgx, zgy, zgz, zha, zhb, zhc, zhd, zhe, zhf, zhg, zhh, zhi, zhj, zhk, zhq, zhr, zhs, zht, zhu, zhv, zhw, zhx, zhy, zhz, zia, zib, zic, zid, zie, zif, zig, zih, zii, zij, zik, zil, zim, zin, zio, zip, ziq, zir, zis, zit, ziu, ziv, ziw, zix, ziy, ziz, zja, zjb, zjc, zjd, zje, zjf, zjg, zjh, zji, zjj, zjk, zjl, zjm, zjn, zjo, zjp, zjq, zjr, zjs, zjt, zju, zjv, zjw, zjx, zjy, zjz, zka, zkb, zkc, zkd, zke, zkf, zkg, zkh, zki, zkj, zkk, zkq, zkr, zku, zkv, zkw, zkx, zky, zkz, zla, zlb, zlc, zld, zle, zlf, zlg, zlh, zli, zlj, zlk, zll, zlm, zln, zlo, zlp, zlq, zlr, zls, zlt, zlu, zlv, zlw, zlx, zly, zlz, zma, zmb, tab3, tab9, tab23, tab28]
             tactic =>
              try simp only [ncast] at *
              try simp only [Int.ofNat_eq_natCast] at *
              try simp (config := { maxSteps := 4000000 }) only [hlb, zz1, enc_Node, isE_Node, dec_Node, node_eta, szN, eqb_Node, con_Plain3, con_Plain7, con_Right3, Int.ofNat_eq_natCast, con0, con1, con2, con3, con2t, con3t, symD0, symD1, symD2, symD3, symD4, Nat.reduceAdd, Nat.reduceSub, Nat.reduceMul, Nat.reduceMod, Nat.reduceLT, Nat.reduceLeDiff, Nat.reduceEqDiff, Nat.reduceBEq, Obj.isBox, D.setCell, D.asAgg, setAll, allFit, AV.fits, lk, upd, standAt, freeAt, backTo, packD, Nat.reduceDiv, reduceIte, reduceCtorEq, skIs, skAll, SK.is, aggL, eqbAll, D.eqb, Nat.reduceBNe]
              repeat' (first | with_reducible assumption | with_reducible refine And.intro ?_ ?_ | intro _ | omega | (rw [inR_i64]; omega))
              · rename_i hb
                rw [hp, all_not (p := fun n : Node => !ltB 100 n.name.length) n0 k hlt (by rw [show ltB 100 ((t.getD k n0).name.length : Int) = true by rw [ltB_true]; exact hb]; rfl)]
                rfl
              · rename_i hb
                refine ⟨k + 1, by ((try simp only [atHead_mk, killAll, setSlots, updAll, upd, set_fl, setCs, putC, Nat.reduceDiv, Nat.reduceMod, Nat.reduceMul, Nat.reduceAdd, Nat.reduceEqDiff, List.set_cons_zero, List.set_cons_succ, if_true, if_false, reduceIte]); (first | refine Wk.of_fl ?_ | skip); simp only [Wk, wkK, wkCs, wkT, wk1, AV.kept, keptAll, wkO, lk, wkObj, and_true, true_and, and_self, Nat.reduceEqDiff, Nat.reduceLeDiff, if_true, if_false, reduceIte, reduceCtorEq, Option.isSome, false_implies]; try simp [Wk, wkK, wkT, wk1, AV.kept, keptAll, wkO, lk, wkObj]), by omega, fun j hj => ?_, by omega⟩
                by_cases hjk : j = k
                · subst hjk; exact hb
                · have := hno j (by omega)
                  rw [Bool.not_eq_true', ltB_false] at this
                  exact this)
        · have hall : t.all (fun n => !ltB 100 n.name.length) = true := all_of_lt (p := fun n : Node => !ltB 100 n.name.length) n0 fun j hj => hno j (by omega)
          rw [hall, Bool.true_and] at hp
          (sym =>
             simp [hlb, hp, enc_Node, isE_Node, dec_Node, node_eta, szN, eqb_Node, ctx_Plain7_t, ctx_Plain7_c, ctx_Plain7_d, ctx_Plain7_b, ctx_Plain7_u, con_Plain3.eq_def, con_Plain7.eq_def, con_Right3.eq_def, zaa, zab, zac, zad, zae, zaf, zag, zan, zao, zap, zaq, zar, zas, zat, zav, zax, zaz, zbh, zbm, zbn, zbo, zbp, zbq, zbr, zbs, zbt, zbu, zby, zbz, zca, zcb, zcc, zcd, zcf, zco, zcp, zcr, zcv, zcw, zcx, zdc, zde, zdf, zdg, zdh, zdi, zdv, zdw, zdx, zdy, zdz, zec, zed, zeq, zer, zes, zet, zeu, zev, zew, zex, zey, zez, zfa, zfb, zfc, zff, zfh, zfi, zfj, zfk, zfl, zfm, zfn, zfo, zfu, zfv, zfw, zfx, zfy, zfz, zga, zgb, zgc, zgd, zge, zgh, zgi, zgj, zgk, zgl, zgm, zgn, zgo, zgp, zgq, zgr, zgs, zgt, zgu, zgv, zgw, zgx, zgy, zgz, zha, zhb, zhc, zhd, zhe, zhf, zhg, zhh, zhi, zhj, zhk, zhq, zhr, zhs, zht, zhu, zhv, zhw, zhx, zhy, zhz, zia, zib, zic, zid, zie, zif, zig, zih, zii, zij, zik, zil, zim, zin, zio, zip, ziq, zir, zis, zit, ziu, ziv, ziw, zix, ziy, ziz, zja, zjb, zjc, zjd, zje, zjf, zjg, zjh, zji, zjj, zjk, zjl, zjm, zjn, zjo, zjp, zjq, zjr, zjs, zjt, zju, zjv, zjw, zjx, zjy, zjz, zka, zkb, zkc, zkd, zke, zkf, zkg, zkh, zki, zkj, zkk, zkq, zkr, zku, zkv, zkw, zkx, zky, zkz, zla, zlb, zlc, zld, zle, zlf, zlg, zlh, zli, zlj, zlk, zll, zlm, zln, zlo, zlp, zlq, zlr, zls, zlt, zlu, zlv, zlw, zlx, zly, zlz, zma, zmb, tab3, tab9, tab23, tab28]
             tactic =>
              try simp only [ncast] at *
              try simp only [Int.ofNat_eq_natCast] at *
              try simp (config := { maxSteps := 4000000 }) only [hlb, hp, enc_Node, isE_Node, dec_Node, node_eta, szN, eqb_Node, con_Plain3, con_Plain7, con_Right3, Int.ofNat_eq_natCast, con0, con1, con2, con3, con2t, con3t, symD0, symD1, symD2, symD3, symD4, Nat.reduceAdd, Nat.reduceSub, Nat.reduceMul, Nat.reduceMod, Nat.reduceLT, Nat.reduceLeDiff, Nat.reduceEqDiff, Nat.reduceBEq, Obj.isBox, D.setCell, D.asAgg, setAll, allFit, AV.fits, lk, upd, standAt, freeAt, backTo, packD, Nat.reduceDiv, reduceIte, reduceCtorEq, skIs, skAll, SK.is, aggL, eqbAll, D.eqb, Nat.reduceBNe]
              repeat' (first | with_reducible assumption | with_reducible refine And.intro ?_ ?_ | intro _ | omega | (rw [inR_i64]; omega))
              all_goals rename_i hr
              all_goals rw [hr]
              all_goals rfl))

def plain07 (l : List (Sl Node)) : Bool := l.all fun t => plain7 t.l 60
instance inhSl {α : Type} : Inhabited (Sl α) := ⟨⟨[]⟩⟩
def con_plain07 : Con := con1 (fun (l : Sl (Sl Node)) => l.l.length ≤ 9223372036854775807 ∧ ∀ t ∈ l.l, t.l.length ≤ 9223372036854775807 ∧ Named t.l) (fun l => plain07 l.l)
noncomputable def ctx_plain07 : Ctx := ⟨tab, lkC [(24, con_Plain7)], 60, lkB [], []⟩
theorem ctx_plain07_t : ctx_plain07.τ = tab := rfl
theorem ctx_plain07_c : ctx_plain07.Γ = lkC [(24, con_Plain7)] := rfl
theorem ctx_plain07_d : ctx_plain07.dp = 60 := rfl
theorem ctx_plain07_b : ctx_plain07.Δ = lkB [] := rfl
theorem ctx_plain07_u : ctx_plain07.cuts = [] := rfl
theorem good_plain07 : Good Try.prog (14, con_plain07) := by
  refine ⟨enters_of Try.func14 (by kernel_rfl) rfl, ?_⟩
  have K : CtxOk Try.prog ctx_plain07 := ctxOk_of tabOk mixedOk (by
    intro p hp
    simp only [List.mem_cons, List.not_mem_nil, or_false] at hp
    rcases hp with rfl
    · exact good_Plain7) (by simp)
  obtain ⟨c, hc⟩ : ∃ c, Try.f14.body = some c := ⟨_, rfl⟩
  refine fn_sound K Try.func14 hc [.tmp 2] rfl 16 rfl (fun cvs hpre => ?_)
  change con_plain07.pre cvs at hpre
  unfold con_plain07 at hpre
  obtain ⟨⟨l⟩, rfl, hl, hN⟩ := con1_pre hpre
  simp only at hl hN
  simp only [Try.f14, Option.some.injEq] at hc
  subst hc
  (sym =>
     simp [ctx_plain07_t, ctx_plain07_c, ctx_plain07_d, ctx_plain07_b, ctx_plain07_u, con_Plain7.eq_def, con_plain07.eq_def, zaa, zab, zac, zae, zaf, zag, zan, zao, zap, zaq, zar, zas, zav, zaz, zbh, zbm, zbn, zbo, zbp, zbq, zbr, zbs, zbt, zbu, zby, zbz, zca, zcb, zcc, zcd, zcf, zco, zcp, zcr, zcv, zcw, zcx, zdc, zde, zdf, zdg, zdh, zdi, zdv, zdw, zdx, zdy, zdz, zec, zed, zeq, zer, zes, zet, zeu, zev, zew, zex, zey, zez, zfa, zfb, zfc, zff, zfh, zfi, zfj, zfk, zfl, zfm, zfn, zfo, zfu, zfv, zfw, zfx, zfy, zfz, zga, zgb, zgc, zgd, zge, zgh, zgi, zgj, zgk, zgl, zgm, zgn, zgo, zgp, zgq, zgr, zgs, zgt, zgu, zgv, zgw, zgx, zgy, zgz, zha, zhb, zhc, zhd, zhe, zhf, zhg, zhh, zhi, zhj, zhk, zhq, zhr, zhs, zht, zhu, zhv, zhw, zhx, zhy, zhz, zia, zib, zic, zid, zie, zif, zig, zih, zii, zij, zik, zil, zim, zin, zio, zip, ziq, zir, zis, zit, ziu, ziv, ziw, zix, ziy, ziz, zja, zjb, zjc, zjd, zje, zjf, zjg, zjh, zji, zjj, zjk, zjl, zjm, zjn, zjo, zjp, zjq, zjr, zjs, zjt, zju, zjv, zjw, zjx, zjy, zjz, zka, zkb, zkc, zkd, zke, zkf, zkg, zkh, zki, zkj, zkk, zkq, zkr, zku, zkv, zkw, zkx, zky, zkz, zla, zlb, zlc, zld, zle, zlf, zlg, zlh, zli, zlj, zlk, zll, zlm, zln, zlo, zlp, zlq, zlr, zls, zlt, zlu, zlv, zlw, zlx, zly, zlz, zma, zmb, tab3, tab4, tab23, tab28, tab55]
     tactic =>
      try simp only [ncast] at *
      try simp only [Int.ofNat_eq_natCast] at *
      try simp (config := { maxSteps := 4000000 }) only [con_Plain7, con_plain07, Int.ofNat_eq_natCast, con0, con1, con2, con3, con2t, con3t, symD0, symD1, symD2, symD3, symD4, Nat.reduceAdd, Nat.reduceSub, Nat.reduceMul, Nat.reduceMod, Nat.reduceLT, Nat.reduceLeDiff, Nat.reduceEqDiff, Nat.reduceBEq, Obj.isBox, D.setCell, D.asAgg, setAll, allFit, AV.fits, lk, upd, standAt, freeAt, backTo, packD, Nat.reduceDiv, reduceIte, reduceCtorEq, skIs, skAll, SK.is, aggL, eqbAll, D.eqb, Nat.reduceBNe]
      refine aLoop_kill [2, 4, 5, 6, 7, 8, 9, 10, 11, 12, 13, 14, 15] (fun k : Nat => [(3, .d (.int .i64 k))]) (fun k : Nat => []) (fun k : Nat => k ≤ l.length ∧ ∀ j, j < k → plain7 (l.getD j ⟨[]⟩).l 60 = true) (fun k : Nat => l.length - k) 0 ?_ ?_ ?_
      · simp
      · ((try simp only [atHead_mk, killAll, setSlots, updAll, upd, set_fl, setCs, putC, Nat.reduceDiv, Nat.reduceMod, Nat.reduceMul, Nat.reduceAdd, Nat.reduceEqDiff, List.set_cons_zero, List.set_cons_succ, if_true, if_false, reduceIte]); (first | refine Wk.of_fl ?_ | skip); simp only [Wk, wkK, wkCs, wkT, wk1, AV.kept, keptAll, wkO, lk, wkObj, and_true, true_and, and_self, Nat.reduceEqDiff, Nat.reduceLeDiff, if_true, if_false, reduceIte, reduceCtorEq, Option.isSome, false_implies]; try simp [Wk, wkK, wkT, wk1, AV.kept, keptAll, wkO, lk, wkObj])
      rintro k ⟨hk, hno⟩
      rcases ltB_cases k l.length with ⟨hlt, hlb⟩ | ⟨hlt, hlb⟩
      · obtain ⟨hNk1, hNk2⟩ := hN (l.getD k ⟨[]⟩) (by simp [hlt])
        have zz2 := el_enc (⟨[]⟩ : Sl Node) hlt
        (sym =>
           simp [hlb, zz2, ctx_plain07_t, ctx_plain07_c, ctx_plain07_d, ctx_plain07_b, ctx_plain07_u, con_Plain7.eq_def, con_plain07.eq_def, zaa, zab, zac, zae, zaf, zag, zan, zao, zap, zaq, zar, zas, zav, zaz, zbh, zbm, zbn, zbo, zbp, zbq, zbr, zbs, zbt, zbu, zby, zbz, zca, zcb, zcc, zcd, zcf, zco, zcp, zcr, zcv, zcw, zcx, zdc, zde, zdf, zdg, zdh, zdi, zdv, zdw, zdx, zdy, zdz, zec, zed, zeq, zer, zes, zet, zeu, zev, zew, zex, zey, zez, zfa, zfb, zfc, zff, zfh, zfi, zfj, zfk, zfl, zfm, zfn, zfo, zfu, zfv, zfw, zfx, zfy, zfz, zga, zgb, zgc, zgd, zge, zgh, zgi, zgj, zgk, zgl, zgm, zgn, zgo, zgp, zgq, zgr, zgs, zgt, zgu, zgv, zgw, zgx, zgy, zgz, zha, zhb, zhc, zhd, zhe, zhf, zhg, zhh, zhi, zhj, zhk, zhq, zhr, zhs, zht, zhu, zhv, zhw, zhx, zhy, zhz, zia, zib, zic, zid, zie, zif, zig, zih, zii, zij, zik, zil, zim, zin, zio, zip, ziq, zir, zis, zit, ziu, ziv, ziw, zix, ziy, ziz, zja, zjb, zjc, zjd, zje, zjf, zjg, zjh, zji, zjj, zjk, zjl, zjm, zjn, zjo, zjp, zjq, zjr, zjs, zjt, zju, zjv, zjw, zjx, zjy, zjz, zka, zkb, zkc, zkd, zke, zkf, zkg, zkh, zki, zkj, zkk, zkq, zkr, zku, zkv, zkw, zkx, zky, zkz, zla, zlb, zlc, zld, zle, zlf, zlg, zlh, zli, zlj, zlk, zll, zlm, zln, zlo, zlp, zlq, zlr, zls, zlt, zlu, zlv, zlw, zlx, zly, zlz, zma, zmb, tab3, tab4, tab23, tab28, tab55]
           tactic =>
            try simp only [ncast] at *
            try simp only [Int.ofNat_eq_natCast] at *
            try simp (config := { maxSteps := 4000000 }) only [hlb, zz2, con_Plain7, con_plain07, Int.ofNat_eq_natCast, con0, con1, con2, con3, con2t, con3t, symD0, symD1, symD2, symD3, symD4, Nat.reduceAdd, Nat.reduceSub, Nat.reduceMul, Nat.reduceMod, Nat.reduceLT, Nat.reduceLeDiff, Nat.reduceEqDiff, Nat.reduceBEq, Obj.isBox, D.setCell, D.asAgg, setAll, allFit, AV.fits, lk, upd, standAt, freeAt, backTo, packD, Nat.reduceDiv, reduceIte, reduceCtorEq, skIs, skAll, SK.is, aggL, eqbAll, D.eqb, Nat.reduceBNe]
            repeat' (first | with_reducible assumption | with_reducible refine And.intro ?_ ?_ | intro _ | omega | (rw [inR_i64]; omega))
            · rename_i hb
              unfold plain07
              rw [all_not (p := fun t : Sl Node => plain7 t.l 60) ⟨[]⟩ k hlt hb]
            · rename_i hb
              refine ⟨k + 1, by ((try simp only [atHead_mk, killAll, setSlots, updAll, upd, set_fl, setCs, putC, Nat.reduceDiv, Nat.reduceMod, Nat.reduceMul, Nat.reduceAdd, Nat.reduceEqDiff, List.set_cons_zero, List.set_cons_succ, if_true, if_false, reduceIte]); (first | refine Wk.of_fl ?_ | skip); simp only [Wk, wkK, wkCs, wkT, wk1, AV.kept, keptAll, wkO, lk, wkObj, and_true, true_and, and_self, Nat.reduceEqDiff, Nat.reduceLeDiff, if_true, if_false, reduceIte, reduceCtorEq, Option.isSome, false_implies]; try simp [Wk, wkK, wkT, wk1, AV.kept, keptAll, wkO, lk, wkObj]), by omega, fun j hj => ?_, by omega⟩
              by_cases hjk : j = k
              · subst hjk; exact hb
              · exact hno j (by omega))
      · (sym =>
           simp [hlb, ctx_plain07_t, ctx_plain07_c, ctx_plain07_d, ctx_plain07_b, ctx_plain07_u, con_Plain7.eq_def, con_plain07.eq_def, zaa, zab, zac, zae, zaf, zag, zan, zao, zap, zaq, zar, zas, zav, zaz, zbh, zbm, zbn, zbo, zbp, zbq, zbr, zbs, zbt, zbu, zby, zbz, zca, zcb, zcc, zcd, zcf, zco, zcp, zcr, zcv, zcw, zcx, zdc, zde, zdf, zdg, zdh, zdi, zdv, zdw, zdx, zdy, zdz, zec, zed, zeq, zer, zes, zet, zeu, zev, zew, zex, zey, zez, zfa, zfb, zfc, zff, zfh, zfi, zfj, zfk, zfl, zfm, zfn, zfo, zfu, zfv, zfw, zfx, zfy, zfz, zga, zgb, zgc, zgd, zge, zgh, zgi, zgj, zgk, zgl, zgm, zgn, zgo, zgp, zgq, zgr, zgs, zgt, zgu, zgv, zgw, zgx, zgy, zgz, zha, zhb, zhc, zhd, zhe, zhf, zhg, zhh, zhi, zhj, zhk, zhq, zhr, zhs, zht, zhu, zhv, zhw, zhx, zhy, zhz, zia, zib, zic, zid, zie, zif, zig, zih, zii, zij, zik, zil, zim, zin, zio, zip, ziq, zir, zis, zit, ziu, ziv, ziw, zix, ziy, ziz, zja, zjb, zjc, zjd, zje, zjf, zjg, zjh, zji, zjj, zjk, zjl, zjm, zjn, zjo, zjp, zjq, zjr, zjs, zjt, zju, zjv, zjw, zjx, zjy, zjz, zka, zkb, zkc, zkd, zke, zkf, zkg, zkh, zki, zkj, zkk, zkq, zkr, zku, zkv, zkw, zkx, zky, zkz, zla, zlb, zlc, zld, zle, zlf, zlg, zlh, zli, zlj, zlk, zll, zlm, zln, zlo, zlp, zlq, zlr, zls, zlt, zlu, zlv, zlw, zlx, zly, zlz, zma, zmb, tab3, tab4, tab23, tab28, tab55]
           tactic =>
            try simp only [ncast] at *
            try simp only [Int.ofNat_eq_natCast] at *
            try simp (config := { maxSteps := 4000000 }) only [hlb, con_Plain7, con_plain07, Int.ofNat_eq_natCast, con0, con1, con2, con3, con2t, con3t, symD0, symD1, symD2, symD3, symD4, Nat.reduceAdd, Nat.reduceSub, Nat.reduceMul, Nat.reduceMod, Nat.reduceLT, Nat.reduceLeDiff, Nat.reduceEqDiff, Nat.reduceBEq, Obj.isBox, D.setCell, D.asAgg, setAll, allFit, AV.fits, lk, upd, standAt, freeAt, backTo, packD, Nat.reduceDiv, reduceIte, reduceCtorEq, skIs, skAll, SK.is, aggL, eqbAll, D.eqb, Nat.reduceBNe]
            unfold plain07
            rw [all_of_lt (p := fun t : Sl Node => plain7 t.l 60) ⟨[]⟩ fun j hj => hno j (by omega)]))

/-! ### the program's own -/
instance inhNode : Inhabited Node := ⟨n0⟩
def isRowT (n : Node) : Bool := n.kind == 6 || n.kind == 7
def con_isRowT : Con := con1 (fun (_ : Node) => True) (fun n => isRowT n)
noncomputable def ctx_isRowT : Ctx := ⟨tab, lkC [], 60, lkB [], []⟩
theorem ctx_isRowT_t : ctx_isRowT.τ = tab := rfl
theorem ctx_isRowT_c : ctx_isRowT.Γ = lkC [] := rfl
theorem ctx_isRowT_d : ctx_isRowT.dp = 60 := rfl
theorem ctx_isRowT_b : ctx_isRowT.Δ = lkB [] := rfl
theorem ctx_isRowT_u : ctx_isRowT.cuts = [] := rfl
theorem good_isRowT : Good Try.prog (99, con_isRowT) := by
  refine ⟨enters_of Try.func99 (by kernel_rfl) rfl, ?_⟩
  have K : CtxOk Try.prog ctx_isRowT := ctxOk_of tabOk mixedOk (by simp) (by simp)
  obtain ⟨c, hc⟩ : ∃ c, Try.f99.body = some c := ⟨_, rfl⟩
  refine fn_sound K Try.func99 hc [.tmp 2] rfl 11 rfl (fun cvs hpre => ?_)
  change con_isRowT.pre cvs at hpre
  unfold con_isRowT at hpre
  obtain ⟨n, rfl, -⟩ := con1_pre hpre
  simp only [Try.f99, Option.some.injEq] at hc
  subst hc
  (sym =>
     simp [enc_Node, isE_Node, dec_Node, node_eta, szN, eqb_Node, ctx_isRowT_t, ctx_isRowT_c, ctx_isRowT_d, ctx_isRowT_b, ctx_isRowT_u, con_isRowT.eq_def, zaa, zab, zac, zad, zae, zaf, zag, zan, zao, zap, zaq, zar, zas, zat, zau, zav, zax, zbo, zbp, zbq, zbu, zby, zbz, zca, zcb, zcc, zcd, zcf, zco, zcp, zcr, zcv, zcx, zdc, zde, zdf, zdg, zdh, zdi, zdv, zdw, zec, zed, zeq, zer, zes, zet, zeu, zev, zew, zex, zey, zez, zfa, zfb, zfc, zff, zfh, zfi, zfj, zfk, zfl, zfm, zfn, zfo, zfu, zfv, zfw, zfx, zfy, zfz, zga, zgc, zgd, zge, zgh, zgi, zgj, zgk, zgl, zgm, zgn, zgo, zgp, zgq, zgr, zgs, zgt, zgu, zgv, zgw, zgx, zgy, zgz, zha, zhb, zhc, zhd, zhe, zhf, zhg, zhh, zhi, zhj, zhk, zhr, zhs, zht, zhu, zhv, zhw, zhx, zhy, zhz, zia, zib, zic, zid, zie, zif, zig, zih, zii, zij, zik, zil, zim, zin, zio, zip, ziq, zir, zis, zit, ziu, ziv, ziw, zix, ziy, ziz, zja, zjb, zjc, zjd, zje, zjf, zjg, zjh, zji, zjj, zjk, zjl, zjm, zjn, zjo, zjp, zjq, zjr, zjs, zjt, zju, zjv, zjw, zjx, zjy, zjz, zka, zkb, zkc, zkd, zke, zkf, zkg, zkh, zki, zkj, zkk, zkq, zkr, zku, zkv, zkw, zkx, zky, zkz, zla, zlb, zlc, zld, zle, zlf, zlg, zlh, zli, zlj, zlk, zll, zlm, zln, zlo, zlp, zlq, zlr, zls, zlt, zlu, zlv, zlw, zlx, zly, zlz, zma, zmb, tab3, tab28]
     tactic =>
      try simp only [ncast] at *
      try simp only [Int.ofNat_eq_natCast] at *
      try simp (config := { maxSteps := 4000000 }) only [enc_Node, isE_Node, dec_Node, node_eta, szN, eqb_Node, con_isRowT, Int.ofNat_eq_natCast, con0, con1, con2, con3, con2t, con3t, symD0, symD1, symD2, symD3, symD4, Nat.reduceAdd, Nat.reduceSub, Nat.reduceMul, Nat.reduceMod, Nat.reduceLT, Nat.reduceLeDiff, Nat.reduceEqDiff, Nat.reduceBEq, Obj.isBox, D.setCell, D.asAgg, setAll, allFit, AV.fits, lk, upd, standAt, freeAt, backTo, packD, Nat.reduceDiv, reduceIte, reduceCtorEq, skIs, skAll, SK.is, aggL, eqbAll, D.eqb, Nat.reduceBNe]
      unfold isRowT
      repeat' (first | with_reducible assumption | with_reducible refine And.intro ?_ ?_ | intro _ | omega | (rw [inR_i64]; omega))
      all_goals simp_all)
/-- How many children a node has. -/
def ar (n : Node) : Nat := if n.kind = 5 then 2 else if n.kind = 6 ∨ n.kind = 7 then n.n.toNat else 0
def con_manyT : Con := con1 (fun (_ : Node) => True) (fun n => (ar n : Int))
noncomputable def ctx_manyT : Ctx := ⟨tab, lkC [(99, con_isRowT)], 60, lkB [], []⟩
theorem ctx_manyT_t : ctx_manyT.τ = tab := rfl
theorem ctx_manyT_c : ctx_manyT.Γ = lkC [(99, con_isRowT)] := rfl
theorem ctx_manyT_d : ctx_manyT.dp = 60 := rfl
theorem ctx_manyT_b : ctx_manyT.Δ = lkB [] := rfl
theorem ctx_manyT_u : ctx_manyT.cuts = [] := rfl
theorem good_manyT : Good Try.prog (76, con_manyT) := by
  refine ⟨enters_of Try.func76 (by kernel_rfl) rfl, ?_⟩
  have K : CtxOk Try.prog ctx_manyT := ctxOk_of tabOk mixedOk (by
    intro p hp
    simp only [List.mem_cons, List.not_mem_nil, or_false] at hp
    rcases hp with rfl
    · exact good_isRowT) (by simp)
  obtain ⟨c, hc⟩ : ∃ c, Try.f76.body = some c := ⟨_, rfl⟩
  refine fn_sound K Try.func76 hc [.tmp 2] rfl 13 rfl (fun cvs hpre => ?_)
  change con_manyT.pre cvs at hpre
  unfold con_manyT at hpre
  obtain ⟨n, rfl, -⟩ := con1_pre hpre
  simp only [Try.f76, Option.some.injEq] at hc
  subst hc
  (sym =>
     simp [enc_Node, isE_Node, dec_Node, node_eta, szN, eqb_Node, ctx_manyT_t, ctx_manyT_c, ctx_manyT_d, ctx_manyT_b, ctx_manyT_u, con_isRowT.eq_def, con_manyT.eq_def, zaa, zab, zac, zae, zaf, zag, zan, zao, zap, zaq, zar, zas, zau, zav, zax, zbj, zbm, zbn, zbo, zbp, zbq, zbr, zbs, zbt, zbu, zby, zbz, zca, zcb, zcc, zcd, zcf, zco, zcp, zcr, zcv, zcw, zcx, zdc, zde, zdf, zdg, zdh, zdi, zdv, zdw, zec, zed, zeq, zer, zes, zet, zeu, zev, zew, zex, zey, zez, zfa, zfb, zfc, zff, zfh, zfi, zfj, zfk, zfl, zfm, zfn, zfo, zfu, zfv, zfw, zfx, zfy, zfz, zga, zgc, zgd, zge, zgh, zgi, zgj, zgk, zgl, zgm, zgn, zgo, zgp, zgq, zgr, zgs, zgt, zgu, zgv, zgw, zgx, zgy, zgz, zha, zhb, zhc, zhd, zhe, zhf, zhg, zhh, zhi, zhj, zhk, zhr, zhs, zht, zhu, zhv, zhw, zhx, zhy, zhz, zia, zib, zic, zid, zie, zif, zig, zih, zii, zij, zik, zil, zim, zin, zio, zip, ziq, zir, zis, zit, ziu, ziv, ziw, zix, ziy, ziz, zja, zjb, zjc, zjd, zje, zjf, zjg, zjh, zji, zjj, zjk, zjl, zjm, zjn, zjo, zjp, zjq, zjr, zjs, zjt, zju, zjv, zjw, zjx, zjy, zjz, zka, zkb, zkc, zkd, zke, zkf, zkg, zkh, zki, zkj, zkk, zkq, zkr, zku, zkv, zkw, zkx, zky, zkz, zla, zlb, zlc, zld, zle, zlf, zlg, zlh, zli, zlj, zlk, zll, zlm, zln, zlo, zlp, zlq, zlr, zls, zlt, zlu, zlv, zlw, zlx, zly, zlz, zma, zmb, tab3, tab28]
     tactic =>
      try simp only [ncast] at *
      try simp only [Int.ofNat_eq_natCast] at *
      try simp (config := { maxSteps := 4000000 }) only [enc_Node, isE_Node, dec_Node, node_eta, szN, eqb_Node, con_isRowT, con_manyT, Int.ofNat_eq_natCast, con0, con1, con2, con3, con2t, con3t, symD0, symD1, symD2, symD3, symD4, Nat.reduceAdd, Nat.reduceSub, Nat.reduceMul, Nat.reduceMod, Nat.reduceLT, Nat.reduceLeDiff, Nat.reduceEqDiff, Nat.reduceBEq, Obj.isBox, D.setCell, D.asAgg, setAll, allFit, AV.fits, lk, upd, standAt, freeAt, backTo, packD, Nat.reduceDiv, reduceIte, reduceCtorEq, skIs, skAll, SK.is, aggL, eqbAll, D.eqb, Nat.reduceBNe]
      unfold ar
      repeat' (first | with_reducible assumption | with_reducible refine And.intro ?_ ?_ | intro _ | omega | (rw [inR_i64]; omega))
      · rename_i h5
        rw [if_pos h5]; rfl
      · rename_i h5 h6
        rw [if_neg h5, if_pos (by simpa [isRowT] using h6)]
        unfold maxI
        split <;> omega
      · rename_i h5 h6
        rw [if_neg h5, if_neg (by simpa [isRowT] using h6)]; rfl)
theorem ar_many3 {n : Node} (h : 0 ≤ many3 n) : (ar n : Int) = many3 n := by
  unfold ar many3 at *
  split
  · rfl
  · rename_i h5
    rw [if_neg h5] at h
    split
    · rename_i h6
      rw [if_pos h6] at h
      omega
    · rfl

def endT (t : List Node) (i : Int) : Int := if i < 0 ∨ (t.length : Int) ≤ i then -1 else i + ((eatN ar (t.drop i.toNat) 1).getD 0 : Nat)
/-- Nothing is there, or a whole tree. -/
def Whole (t : List Node) (i : Int) : Prop := 0 ≤ i → i < t.length → (eatN ar (t.drop i.toNat) 1).isSome = true
theorem eatN_ge : ∀ {l : List Node} {o k : Nat}, eatN ar l o = some k → o ≤ k ∧ k ≤ l.length
  | l, 0, k, h => by
    cases l <;> (simp only [eatN, Option.some.injEq] at h; omega)
  | [], o + 1, k, h => by simp [eatN] at h
  | n :: l, o + 1, k, h => by
    rw [eatN, Option.map_eq_some_iff] at h
    obtain ⟨k', h1, rfl⟩ := h
    have := eatN_ge h1
    simp only [List.length_cons]
    omega
def con_EndT : Con := con2 (fun (t : Sl Node) (i : Int) => t.l.length ≤ 1000000000 ∧ inR .i64 i ∧ Whole t.l i) (fun t i => endT t.l i)
noncomputable def ctx_EndT : Ctx := ⟨tab, lkC [(76, con_manyT)], 60, lkB [], []⟩
theorem ctx_EndT_t : ctx_EndT.τ = tab := rfl
theorem ctx_EndT_c : ctx_EndT.Γ = lkC [(76, con_manyT)] := rfl
theorem ctx_EndT_d : ctx_EndT.dp = 60 := rfl
theorem ctx_EndT_b : ctx_EndT.Δ = lkB [] := rfl
theorem ctx_EndT_u : ctx_EndT.cuts = [] := rfl
set_option maxRecDepth 100000 in
theorem good_EndT : Good Try.prog (45, con_EndT) := by
  refine ⟨enters_of Try.func45 (by kernel_rfl) rfl, ?_⟩
  have K : CtxOk Try.prog ctx_EndT := ctxOk_of tabOk mixedOk (by
    intro p hp
    simp only [List.mem_cons, List.not_mem_nil, or_false] at hp
    rcases hp with rfl
    · exact good_manyT) (by simp)
  obtain ⟨c, hc⟩ : ∃ c, Try.f45.body = some c := ⟨_, rfl⟩
  refine fn_sound K Try.func45 hc [.tmp 4] rfl 27 rfl (fun cvs hpre => ?_)
  change con_EndT.pre cvs at hpre
  unfold con_EndT at hpre
  obtain ⟨⟨t⟩, i, rfl, ht, hi, hw⟩ := con2_pre hpre
  simp only at ht hw
  rw [inR_i64] at hi
  simp only [Try.f45, Option.some.injEq] at hc
  subst hc
  (sym =>
     simp [enc_Node, isE_Node, dec_Node, node_eta, szN, eqb_Node, ctx_EndT_t, ctx_EndT_c, ctx_EndT_d, ctx_EndT_b, ctx_EndT_u, con_EndT.eq_def, con_manyT.eq_def, zaa, zab, zac, zad, zae, zaf, zag, zan, zao, zap, zaq, zar, zas, zat, zav, zaz, zbh, zbm, zbn, zbo, zbp, zbq, zbr, zbs, zbt, zbu, zby, zbz, zca, zcb, zcc, zcd, zcf, zco, zcp, zcr, zcv, zcw, zcx, zdc, zde, zdf, zdg, zdh, zdi, zdv, zdw, zdx, zdy, zdz, zec, zed, zeq, zer, zes, zet, zeu, zev, zew, zex, zey, zez, zfa, zfb, zfc, zff, zfh, zfi, zfj, zfk, zfl, zfm, zfn, zfo, zfu, zfv, zfw, zfx, zfy, zfz, zga, zgb, zgc, zgd, zge, zgh, zgi, zgj, zgk, zgl, zgm, zgn, zgo, zgp, zgq, zgr, zgs, zgt, zgu, zgv, zgw, zgx, zgy, zgz, zha, zhb, zhc, zhd, zhe, zhf, zhg, zhh, zhi, zhj, zhk, zhq, zhr, zhs, zht, zhu, zhv, zhw, zhx, zhy, zhz, zia, zib, zic, zid, zie, zif, zig, zih, zii, zij, zik, zil, zim, zin, zio, zip, ziq, zir, zis, zit, ziu, ziv, ziw, zix, ziy, ziz, zja, zjb, zjc, zjd, zje, zjf, zjg, zjh, zji, zjj, zjk, zjl, zjm, zjn, zjo, zjp, zjq, zjr, zjs, zjt, zju, zjv, zjw, zjx, zjy, zjz, zka, zkb, zkc, zkd, zke, zkf, zkg, zkh, zki, zkj, zkk, zkq, zkr, zku, zkv, zkw, zkx, zky, zkz, zla, zlb, zlc, zld, zle, zlf, zlg, zlh, zli, zlj, zlk, zll, zlm, zln, zlo, zlp, zlq, zlr, zls, zlt, zlu, zlv, zlw, zlx, zly, zlz, zma, zmb, tab3, tab23, tab28]
     tactic =>
      try simp only [ncast] at *
      try simp only [Int.ofNat_eq_natCast] at *
      try simp (config := { maxSteps := 4000000 }) only [enc_Node, isE_Node, dec_Node, node_eta, szN, eqb_Node, con_EndT, con_manyT, Int.ofNat_eq_natCast, con0, con1, con2, con3, con2t, con3t, symD0, symD1, symD2, symD3, symD4, Nat.reduceAdd, Nat.reduceSub, Nat.reduceMul, Nat.reduceMod, Nat.reduceLT, Nat.reduceLeDiff, Nat.reduceEqDiff, Nat.reduceBEq, Obj.isBox, D.setCell, D.asAgg, setAll, allFit, AV.fits, lk, upd, standAt, freeAt, backTo, packD, Nat.reduceDiv, reduceIte, reduceCtorEq, skIs, skAll, SK.is, aggL, eqbAll, D.eqb, Nat.reduceBNe]
      repeat' (first | with_reducible assumption | with_reducible refine And.intro ?_ ?_ | intro _ | omega | (rw [inR_i64]; omega))
      · rename_i h1 h2
        unfold endT
        rw [if_pos (.inr h2)]
      · rename_i h1 h2
        obtain ⟨i, rfl⟩ : ∃ n : Nat, i = n := ⟨i.toNat, by omega⟩
        obtain ⟨m, hm⟩ := Option.isSome_iff_exists.1 (hw h1 h2)
        simp only [Int.toNat_natCast] at hm
        have e0 : endT t i = i + (m : Int) := by
          unfold endT
          rw [if_neg (by omega), Int.toNat_natCast, hm]
          rfl
        refine aLoop_kill [14, 15, 16, 17, 18, 19, 20, 21, 22, 23, 24, 25] (fun p : Nat × Nat => [(1, .d (.int .i64 p.1)), (5, .d (.int .i64 p.2))]) (fun p : Nat × Nat => []) (fun p : Nat × Nat => p.1 ≤ t.length ∧ ∃ r, eatN ar (t.drop p.1) p.2 = some r ∧ p.1 + r = i + m) (fun p : Nat × Nat => t.length - p.1) (i, 1) ?_ ?_ ?_
        · exact ⟨by simp only; omega, m, hm, rfl⟩
        · ((try simp only [atHead_mk, killAll, setSlots, updAll, upd, set_fl, setCs, putC, Nat.reduceDiv, Nat.reduceMod, Nat.reduceMul, Nat.reduceAdd, Nat.reduceEqDiff, List.set_cons_zero, List.set_cons_succ, if_true, if_false, reduceIte]); (first | refine Wk.of_fl ?_ | skip); simp only [Wk, wkK, wkCs, wkT, wk1, AV.kept, keptAll, wkO, lk, wkObj, and_true, true_and, and_self, Nat.reduceEqDiff, Nat.reduceLeDiff, if_true, if_false, reduceIte, reduceCtorEq, Option.isSome, false_implies]; try simp [Wk, wkK, wkT, wk1, AV.kept, keptAll, wkO, lk, wkObj])
        rintro ⟨k, o⟩ ⟨g1, r, g2, g3⟩
        simp only at g1 g2 g3
        cases o with
        | zero =>
          have hz : ltB 0 ((0 : Nat) : Int) = false := rfl
          (sym =>
             simp [hz, enc_Node, isE_Node, dec_Node, node_eta, szN, eqb_Node, ctx_EndT_t, ctx_EndT_c, ctx_EndT_d, ctx_EndT_b, ctx_EndT_u, con_EndT.eq_def, con_manyT.eq_def, zaa, zab, zac, zad, zae, zaf, zag, zan, zao, zap, zaq, zar, zas, zat, zav, zaz, zbh, zbm, zbn, zbo, zbp, zbq, zbr, zbs, zbt, zbu, zby, zbz, zca, zcb, zcc, zcd, zcf, zco, zcp, zcr, zcv, zcw, zcx, zdc, zde, zdf, zdg, zdh, zdi, zdv, zdw, zdx, zdy, zdz, zec, zed, zeq, zer, zes, zet, zeu, zev, zew, zex, zey, zez, zfa, zfb, zfc, zff, zfh, zfi, zfj, zfk, zfl, zfm, zfn, zfo, zfu, zfv, zfw, zfx, zfy, zfz, zga, zgb, zgc, zgd, zge, zgh, zgi, zgj, zgk, zgl, zgm, zgn, zgo, zgp, zgq, zgr, zgs, zgt, zgu, zgv, zgw, zgx, zgy, zgz, zha, zhb, zhc, zhd, zhe, zhf, zhg, zhh, zhi, zhj, zhk, zhq, zhr, zhs, zht, zhu, zhv, zhw, zhx, zhy, zhz, zia, zib, zic, zid, zie, zif, zig, zih, zii, zij, zik, zil, zim, zin, zio, zip, ziq, zir, zis, zit, ziu, ziv, ziw, zix, ziy, ziz, zja, zjb, zjc, zjd, zje, zjf, zjg, zjh, zji, zjj, zjk, zjl, zjm, zjn, zjo, zjp, zjq, zjr, zjs, zjt, zju, zjv, zjw, zjx, zjy, zjz, zka, zkb, zkc, zkd, zke, zkf, zkg, zkh, zki, zkj, zkk, zkq, zkr, zku, zkv, zkw, zkx, zky, zkz, zla, zlb, zlc, zld, zle, zlf, zlg, zlh, zli, zlj, zlk, zll, zlm, zln, zlo, zlp, zlq, zlr, zls, zlt, zlu, zlv, zlw, zlx, zly, zlz, zma, zmb, tab3, tab23, tab28]
             tactic =>
              try simp only [ncast] at *
              try simp only [Int.ofNat_eq_natCast] at *
              try simp (config := { maxSteps := 4000000 }) only [hz, enc_Node, isE_Node, dec_Node, node_eta, szN, eqb_Node, con_EndT, con_manyT, Int.ofNat_eq_natCast, con0, con1, con2, con3, con2t, con3t, symD0, symD1, symD2, symD3, symD4, Nat.reduceAdd, Nat.reduceSub, Nat.reduceMul, Nat.reduceMod, Nat.reduceLT, Nat.reduceLeDiff, Nat.reduceEqDiff, Nat.reduceBEq, Obj.isBox, D.setCell, D.asAgg, setAll, allFit, AV.fits, lk, upd, standAt, freeAt, backTo, packD, Nat.reduceDiv, reduceIte, reduceCtorEq, skIs, skAll, SK.is, aggL, eqbAll, D.eqb, Nat.reduceBNe]
              rw [e0]
              cases hd : t.drop k <;> (rw [hd] at g2; simp only [eatN, Option.some.injEq] at g2; omega))
        | succ o =>
          have hz : ltB 0 ((o + 1 : Nat) : Int) = true := by rw [ltB_true]; omega
          have hlt : k < t.length := by
            rcases Nat.lt_or_ge k t.length with h | h
            · exact h
            · rw [List.drop_eq_nil_of_le h] at g2; simp [eatN] at g2
          rw [List.drop_eq_getElem_cons hlt, eatN, Option.map_eq_some_iff] at g2
          obtain ⟨r', g4, rfl⟩ := g2
          have hnk : t.getD k n0 = t[k] := by simp [hlt]
          rw [← hnk] at g4
          have hge := eatN_ge g4
          rw [List.length_drop] at hge
          have ee : ((o + 1 : Nat) : Int) + ((ar (t.getD k n0) : Int) - 1) = ((o + ar (t.getD k n0) : Nat) : Int) := by omega
          have zz3 := el_enc n0 hlt
          (sym =>
             simp [hz, ee, zz3, enc_Node, isE_Node, dec_Node, node_eta, szN, eqb_Node, ctx_EndT_t, ctx_EndT_c, ctx_EndT_d, ctx_EndT_b, ctx_EndT_u, con_EndT.eq_def, con_manyT.eq_def, zaa, zab, zac, zad, zae, zaf, zag, zan, zao, zap, zaq, zar, zas, zat, zav, zaz, zbh, zbm, zbn, zbo, zbp, zbq, zbr, zbs, zbt, zbu, zby, zbz, zca, zcb, zcc, zcd, zcf, zco, zcp, zcr, zcv, zcw, zcx, zdc, zde, zdf, zdg, zdh, zdi, zdv, zdw, zdx, zdy, zdz, zec, zed, zeq, zer, zes, zet, zeu, zev, zew, zex, zey, zez, zfa, zfb, zfc, zff, zfh, zfi, zfj, zfk, zfl, zfm, zfn, zfo, zfu, zfv, zfw, zfx, zfy, zfz, zga, zgb, zgc, zgd, zge, zgh, zgi, zgj, zgk, zgl, zgm, zgn, zgo, zgp, zgq, zgr, zgs, zgt, zgu, zgv, zgw, zgx, zgy, zgz, zha, zhb, zhc, zhd, zhe, zhf, zhg, zhh, zhi, zhj, zhk, zhq, zhr, zhs, zht, zhu, zhv, zhw, zhx, zhy, zhz, zia, zib, zic, zid, zie, zif, zig, zih, zii, zij, zik, zil, zim, zin, zio, zip, ziq, zir, zis, zit, ziu, ziv, ziw, zix, ziy, ziz, zja, zjb, zjc, zjd, zje, zjf, zjg, zjh, zji, zjj, zjk, zjl, zjm, zjn, zjo, zjp, zjq, zjr, zjs, zjt, zju, zjv, zjw, zjx, zjy, zjz, zka, zkb, zkc, zkd, zke, zkf, zkg, zkh, zki, zkj, zkk, zkq, zkr, zku, zkv, zkw, zkx, zky, zkz, zla, zlb, zlc, zld, zle, zlf, zlg, zlh, zli, zlj, zlk, zll, zlm, zln, zlo, zlp, zlq, zlr, zls, zlt, zlu, zlv, zlw, zlx, zly, zlz, zma, zmb, tab3, tab23, tab28]
             tactic =>
              try simp only [ncast] at *
              try simp only [Int.ofNat_eq_natCast] at *
              try simp (config := { maxSteps := 4000000 }) only [hz, ee, zz3, enc_Node, isE_Node, dec_Node, node_eta, szN, eqb_Node, con_EndT, con_manyT, Int.ofNat_eq_natCast, con0, con1, con2, con3, con2t, con3t, symD0, symD1, symD2, symD3, symD4, Nat.reduceAdd, Nat.reduceSub, Nat.reduceMul, Nat.reduceMod, Nat.reduceLT, Nat.reduceLeDiff, Nat.reduceEqDiff, Nat.reduceBEq, Obj.isBox, D.setCell, D.asAgg, setAll, allFit, AV.fits, lk, upd, standAt, freeAt, backTo, packD, Nat.reduceDiv, reduceIte, reduceCtorEq, skIs, skAll, SK.is, aggL, eqbAll, D.eqb, Nat.reduceBNe]
              repeat' (first | with_reducible assumption | with_reducible refine And.intro ?_ ?_ | intro _ | omega | (rw [inR_i64]; omega))
              refine ⟨(k + 1, o + ar (t.getD k n0)), by ((try simp only [atHead_mk, killAll, setSlots, updAll, upd, set_fl, setCs, putC, Nat.reduceDiv, Nat.reduceMod, Nat.reduceMul, Nat.reduceAdd, Nat.reduceEqDiff, List.set_cons_zero, List.set_cons_succ, if_true, if_false, reduceIte]); (first | refine Wk.of_fl ?_ | skip); simp only [Wk, wkK, wkCs, wkT, wk1, AV.kept, keptAll, wkO, lk, wkObj, and_true, true_and, and_self, Nat.reduceEqDiff, Nat.reduceLeDiff, if_true, if_false, reduceIte, reduceCtorEq, Option.isSome, false_implies]; try simp [Wk, wkK, wkT, wk1, AV.kept, keptAll, wkO, lk, wkObj]), by simp only; omega, ⟨r', g4, by simp only; omega⟩, by simp only; omega⟩)
      · rename_i h1
        unfold endT
        rw [if_pos (.inl h1)])

end Go.Am.Ty
