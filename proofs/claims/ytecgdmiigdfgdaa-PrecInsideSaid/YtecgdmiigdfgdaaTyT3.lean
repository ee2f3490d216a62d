/- Contracts of functions that the laws reach, and plain laws. Conditions: those that each contract states. -/
import Derived.Test.YtecgdmiigdfgdaaTyT2
set_option linter.unusedSimpArgs false
set_option linter.unusedVariables false
set_option maxHeartbeats 1000000
namespace Go.Am.Ty
open Go.Proofs
open Enc (enc dec)

/-! ### how deep -/
/-- The open nodes, the last one first: what is full is left. -/
def popA : Int → List Int → List Int
  | x, [] => if x = 0 then [] else [x]
  | x, y :: r => if x = 0 then popA (y - 1) r else x :: y :: r
def popL : List Int → List Int
  | [] => []
  | x :: r => popA x r
def shal : List Node → List Int → Bool
  | [], _ => true
  | n :: l, rs => if 100 ≤ rs.length then false else shal l (popA (many3 n) rs)
def shallow3 (t : List Node) : Bool := shal t []
/-- What stands in such a row. -/
def OpenOk (rs : List Int) : Prop := (∀ x ∈ rs, 0 ≤ x ∧ x ≤ 50) ∧ ∀ x ∈ rs.tail, 1 ≤ x
theorem popA_ok : ∀ {x : Int} {r : List Int}, 0 ≤ x → x ≤ 50 → (∀ y ∈ r, 1 ≤ y ∧ y ≤ 50) → ∀ y ∈ popA x r, 1 ≤ y ∧ y ≤ 50
  | x, [], h1, h2, _, y, hy => by
    unfold popA at hy
    split at hy
    · cases hy
    · rw [List.mem_singleton] at hy
      subst hy
      omega
  | x, z :: r, h1, h2, h3, y, hy => by
    unfold popA at hy
    have hz := h3 z (by simp)
    split at hy
    · exact popA_ok (x := z - 1) (by omega) (by omega) (fun u hu => h3 u (List.mem_cons_of_mem _ hu)) y hy
    · rcases List.mem_cons.1 hy with rfl | hy
      · omega
      · exact h3 y hy
theorem popA_len : ∀ {x : Int} {r : List Int}, (popA x r).length ≤ r.length + 1
  | x, [] => by unfold popA; split <;> simp
  | x, z :: r => by
    unfold popA
    have := popA_len (x := z - 1) (r := r)
    split
    · simp only [List.length_cons]; omega
    · simp
theorem rev_last {x : Int} {r : List Int} : el ((x :: r).reverse.map enc) r.length = .int .i64 x := by
  simp [el]
theorem rev_take {x : Int} {r : List Int} : ((x :: r).reverse.map (enc : Int → D)).take r.length = r.reverse.map enc := by
  rw [List.reverse_cons, List.map_append, List.take_left' (by simp)]
theorem rev_set {x y : Int} {r : List Int} : ((x :: r).reverse.map (enc : Int → D)).set r.length (.int .i64 y) = (y :: r).reverse.map enc := by
  rw [List.reverse_cons, List.map_append, List.set_append]
  simp
theorem popA_stop {x : Int} {r : List Int} (h : x ≠ 0) : popA x r = x :: r := by
  cases r <;> simp [popA, h]
def con_shallow3 : Con := con1 (fun (t : Sl Node) => Tame t.l) (fun t => shallow3 t.l)
noncomputable def ctx_shallow3 : Ctx := ⟨tab, lkC [(77, con_many3)], 60, lkB [], [39]⟩
theorem ctx_shallow3_t : ctx_shallow3.τ = tab := rfl
theorem ctx_shallow3_c : ctx_shallow3.Γ = lkC [(77, con_many3)] := rfl
theorem ctx_shallow3_d : ctx_shallow3.dp = 60 := rfl
theorem ctx_shallow3_b : ctx_shallow3.Δ = lkB [] := rfl
theorem ctx_shallow3_u : ctx_shallow3.cuts = [39] := rfl
set_option maxRecDepth 100000 in
theorem good_shallow3 : Good Try.prog (49, con_shallow3) := by
  refine ⟨enters_of Try.func49 (by kernel_rfl) rfl, ?_⟩
  have K : CtxOk Try.prog ctx_shallow3 := ctxOk_of tabOk mixedOk (by
    intro p hp
    simp only [List.mem_cons, List.not_mem_nil, or_false] at hp
    rcases hp with rfl
    · exact good_many3) (by simp)
  obtain ⟨c, hc⟩ : ∃ c, Try.f49.body = some c := ⟨_, rfl⟩
  refine fn_sound K Try.func49 hc [.tmp 2] rfl 51 rfl (fun cvs hpre => ?_)
  change con_shallow3.pre cvs at hpre
  unfold con_shallow3 at hpre
  obtain ⟨⟨t⟩, rfl, ⟨ht, hm⟩⟩ := con1_pre hpre
  simp only at ht hm
  simp only [Try.f49, Option.some.injEq] at hc
  subst hc
  refine awp_chk 3 (of_decide_eq_true (by kernel_rfl)) ?_
  (sym =>
     simp [enc_Node, isE_Node, dec_Node, node_eta, szN, eqb_Node, ctx_shallow3_t, ctx_shallow3_c, ctx_shallow3_d, ctx_shallow3_b, ctx_shallow3_u, con_many3.eq_def, con_shallow3.eq_def, zaa, zab, zac, zad, zae, zaf, zag, zan, zao, zap, zaq, zar, zas, zat, zav, zaw, zaz, zbb, zbc, zbf, zbg, zbh, zbm, zbn, zbo, zbp, zbq, zbr, zbs, zbt, zbu, zbw, zbx, zby, zbz, zca, zcb, zcc, zcd, zcf, zco, zcp, zcr, zcv, zcw, zcx, zcy, zcz, zda, zdb, zdc, zdd, zde, zdf, zdg, zdh, zdi, zdq, zdr, zds, zdt, zdu, zdv, zdw, zdx, zdy, zdz, zea, zeb, zec, zed, zee, zef, zeg, zeh, zei, zej, zek, zel, zem, zen, zeo, zep, zeq, zer, zes, zet, zeu, zev, zew, zex, zey, zez, zfa, zfb, zfc, zfd, zfe, zff, zfg, zfh, zfi, zfj, zfk, zfl, zfm, zfn, zfo, zfu, zfv, zfw, zfx, zfy, zfz, zga, zgb, zgc, zgd, zge, zgh, zgi, zgj, zgk, zgl, zgm, zgn, zgo, zgp, zgq, zgr, zgs, zgt, zgu, zgv, zgw, zgx, zgy, zgz, zha, zhb, zhc, zhd, zhe, zhf, zhg, zhh, zhi, zhj, zhk, zhl, zhm, zhn, zho, zhp, zhq, zhr, zhs, zht, zhu, zhv, zhw, zhx, zhy, zhz, zia, zib, zic, zid, zie, zif, zig, zih, zii, zij, zik, zil, zim, zin, zio, zip, ziq, zir, zis, zit, ziu, ziv, ziw, zix, ziy, ziz, zja, zjb, zjc, zjd, zje, zjf, zjg, zjh, zji, zjj, zjk, zjl, zjm, zjn, zjo, zjp, zjq, zjr, zjs, zjt, zju, zjv, zjw, zjx, zjy, zjz, zka, zkb, zkc, zkd, zke, zkf, zkg, zkh, zki, zkj, zkk, zkl, zkm, zkn, zko, zkp, zkq, zkr, zks, zkt, zku, zkv, zkw, zkx, zky, zkz, zla, zlb, zlc, zld, zle, zlf, zlg, zlh, zli, zlj, zlk, zll, zlm, zln, zlo, zlp, zlq, zlr, zls, zlt, zlu, zlv, zlw, zlx, zly, zlz, zma, zmb, tab3, tab23, tab28, tab84]
     tactic =>
      try simp only [ncast] at *
      try simp only [Int.ofNat_eq_natCast] at *
      try simp (config := { maxSteps := 4000000 }) only [enc_Node, isE_Node, dec_Node, node_eta, szN, eqb_Node, con_many3, con_shallow3, Int.ofNat_eq_natCast, con0, con1, con2, con3, con2t, con3t, symD0, symD1, symD2, symD3, symD4, Nat.reduceAdd, Nat.reduceSub, Nat.reduceMul, Nat.reduceMod, Nat.reduceLT, Nat.reduceLeDiff, Nat.reduceEqDiff, Nat.reduceBEq, Obj.isBox, D.setCell, D.asAgg, setAll, allFit, AV.fits, lk, upd, standAt, freeAt, backTo, packD, Nat.reduceDiv, reduceIte, reduceCtorEq, skIs, skAll, SK.is, aggL, eqbAll, D.eqb, Nat.reduceBNe]
      refine aLoop_kill [2, 6, 7, 8, 9, 10, 11, 12, 13, 14, 15, 16, 17, 18, 19, 20, 21, 22, 23, 24, 25, 26, 27, 28, 29, 30, 31, 32, 33, 34, 35, 36, 37, 38, 39, 40, 41, 42, 43, 44, 45, 46, 47, 48, 49, 50] (fun p : Nat × List Int => [(3, .sl 5 (p.2.reverse.map enc).length), (4, .d (.int .i64 p.1)), (5, .dead)]) (fun p : Nat × List Int => [(5, .row 1 (p.2.reverse.map enc) 0)]) (fun p : Nat × List Int => p.1 ≤ t.length ∧ p.2.length ≤ 101 ∧ (∀ x ∈ p.2, 1 ≤ x ∧ x ≤ 50) ∧ shal (t.drop p.1) p.2 = shallow3 t) (fun p : Nat × List Int => t.length - p.1) (0, []) ?_ ?_ ?_
      · exact ⟨Nat.zero_le _, by simp, by simp, rfl⟩
      · ((try simp only [atHead_mk, killAll, setSlots, updAll, upd, set_fl, setCs, putC, Nat.reduceDiv, Nat.reduceMod, Nat.reduceMul, Nat.reduceAdd, Nat.reduceEqDiff, List.set_cons_zero, List.set_cons_succ, if_true, if_false, reduceIte]); (first | refine Wk.of_fl ?_ | skip); simp only [Wk, wkK, wkCs, wkT, wk1, AV.kept, keptAll, wkO, lk, wkObj, and_true, true_and, and_self, Nat.reduceEqDiff, Nat.reduceLeDiff, if_true, if_false, reduceIte, reduceCtorEq, Option.isSome, false_implies]; try simp [Wk, wkK, wkT, wk1, AV.kept, keptAll, wkO, lk, wkObj])
      rintro ⟨k, rs⟩ ⟨h1, h2, h3, h4⟩
      simp only at h1 h2 h3 h4
      rcases ltB_cases k t.length with ⟨hlt, hlb⟩ | ⟨hlt, hlb⟩
      · have hmk := hm (t.getD k ⟨0, [], 0⟩) (by simp [hlt])
        have e1 : shal (t.drop k) rs = if 100 ≤ rs.length then false else shal (t.drop (k + 1)) (popA (many3 (t.getD k ⟨0, [], 0⟩)) rs) := by
          rw [List.drop_eq_getElem_cons hlt, shal]
          simp [hlt]
        have zz1 := el_enc (⟨0, [], 0⟩ : Node) hlt
        (sym =>
           simp [hlb, zz1, List.length_reverse, enc_Node, isE_Node, dec_Node, node_eta, szN, eqb_Node, ctx_shallow3_t, ctx_shallow3_c, ctx_shallow3_d, ctx_shallow3_b, ctx_shallow3_u, con_many3.eq_def, con_shallow3.eq_def, zaa, zab, zac, zad, zae, zaf, zag, zan, zao, zap, zaq, zar, zas, zat, zav, zaw, zaz, zbb, zbc, zbf, zbg, zbh, zbm, zbn, zbo, zbp, zbq, zbr, zbs, zbt, zbu, zbw, zbx, zby, zbz, zca, zcb, zcc, zcd, zcf, zco, zcp, zcr, zcv, zcw, zcx, zcy, zcz, zda, zdb, zdc, zdd, zde, zdf, zdg, zdh, zdi, zdq, zdr, zds, zdt, zdu, zdv, zdw, zdx, zdy, zdz, zea, zeb, zec, zed, zee, zef, zeg, zeh, zei, zej, zek, zel, zem, zen, zeo, zep, zeq, zer, zes, zet, zeu, zev, zew, zex, zey, zez, zfa, zfb, zfc, zfd, zfe, zff, zfg, zfh, zfi, zfj, zfk, zfl, zfm, zfn, zfo, zfu, zfv, zfw, zfx, zfy, zfz, zga, zgb, zgc, zgd, zge, zgh, zgi, zgj, zgk, zgl, zgm, zgn, zgo, zgp, zgq, zgr, zgs, zgt, zgu, zgv, zgw, zgx, zgy, zgz, zha, zhb, zhc, zhd, zhe, zhf, zhg, zhh, zhi, zhj, zhk, zhl, zhm, zhn, zho, zhp, zhq, zhr, zhs, zht, zhu, zhv, zhw, zhx, zhy, zhz, zia, zib, zic, zid, zie, zif, zig, zih, zii, zij, zik, zil, zim, zin, zio, zip, ziq, zir, zis, zit, ziu, ziv, ziw, zix, ziy, ziz, zja, zjb, zjc, zjd, zje, zjf, zjg, zjh, zji, zjj, zjk, zjl, zjm, zjn, zjo, zjp, zjq, zjr, zjs, zjt, zju, zjv, zjw, zjx, zjy, zjz, zka, zkb, zkc, zkd, zke, zkf, zkg, zkh, zki, zkj, zkk, zkl, zkm, zkn, zko, zkp, zkq, zkr, zks, zkt, zku, zkv, zkw, zkx, zky, zkz, zla, zlb, zlc, zld, zle, zlf, zlg, zlh, zli, zlj, zlk, zll, zlm, zln, zlo, zlp, zlq, zlr, zls, zlt, zlu, zlv, zlw, zlx, zly, zlz, zma, zmb, tab3, tab23, tab28, tab84]
           tactic =>
            try simp only [ncast] at *
            try simp only [Int.ofNat_eq_natCast] at *
            try simp (config := { maxSteps := 4000000 }) only [hlb, zz1, List.length_reverse, enc_Node, isE_Node, dec_Node, node_eta, szN, eqb_Node, con_many3, con_shallow3, Int.ofNat_eq_natCast, con0, con1, con2, con3, con2t, con3t, symD0, symD1, symD2, symD3, symD4, Nat.reduceAdd, Nat.reduceSub, Nat.reduceMul, Nat.reduceMod, Nat.reduceLT, Nat.reduceLeDiff, Nat.reduceEqDiff, Nat.reduceBEq, Obj.isBox, D.setCell, D.asAgg, setAll, allFit, AV.fits, lk, upd, standAt, freeAt, backTo, packD, Nat.reduceDiv, reduceIte, reduceCtorEq, skIs, skAll, SK.is, aggL, eqbAll, D.eqb, Nat.reduceBNe]
            revert e1 hmk
            generalize many3 (t.getD k ⟨0, [], 0⟩) = M
            intro hmk e1
            repeat' (first | with_reducible assumption | with_reducible refine And.intro ?_ ?_ | intro _ | omega | (rw [inR_i64]; omega))
            · rw [if_pos (by omega)] at e1
              rw [← h4, e1]
            · rw [if_neg (by omega)] at e1
              have e2 : rs.reverse ++ [M] = (M :: rs).reverse := by simp
              have hS : ∀ (q : List Int), q ≠ [] → ((q.length : Nat) : Int) - 1 = ((q.length - 1 : Nat) : Int) := by
                intro q hq
                have := List.length_pos_iff.2 hq
                omega
              refine aLoop_kill [23, 24, 25, 26, 27, 28, 29, 30, 31, 32, 33, 34, 35, 36, 37, 38, 39, 40, 41, 42, 43, 44, 45, 46, 47, 48, 49, 50] (fun q : List Int => [(3, .sl 5 (q.reverse.map enc).length), (5, .dead), (12, .dead), (15, .dead), (22, .dead)]) (fun q : List Int => [(5, .row 1 (q.reverse.map enc) 0)]) (fun q : List Int => OpenOk q ∧ q.length ≤ 101 ∧ popL q = popA M rs) (fun q : List Int => q.length) (M :: rs) ?_ ?_ ?_
              · refine ⟨⟨fun x hx => ?_, fun x hx => (h3 x hx).1⟩, by simp only [List.length_cons]; omega, rfl⟩
                rcases List.mem_cons.1 hx with rfl | hx
                · exact hmk
                · have := h3 x hx; omega
              · ((try simp only [atHead_mk, killAll, setSlots, updAll, upd, set_fl, setCs, putC, Nat.reduceDiv, Nat.reduceMod, Nat.reduceMul, Nat.reduceAdd, Nat.reduceEqDiff, List.set_cons_zero, List.set_cons_succ, if_true, if_false, reduceIte]); (first | refine Wk.of_fl ?_ | skip); simp only [Wk, wkK, wkCs, wkT, wk1, AV.kept, keptAll, wkO, lk, wkObj, and_true, true_and, and_self, Nat.reduceEqDiff, Nat.reduceLeDiff, if_true, if_false, reduceIte, reduceCtorEq, Option.isSome, false_implies]; try simp [Wk, wkK, wkT, wk1, AV.kept, keptAll, wkO, lk, wkObj])
              rintro q ⟨⟨g1, g2⟩, g3, g4⟩
              cases q with
              | nil =>
                have hz : ltB 0 ((0 : Nat) : Int) = false := rfl
                (sym =>
                   simp [List.length_reverse, List.reverse_nil, hz, enc_Node, isE_Node, dec_Node, node_eta, szN, eqb_Node, ctx_shallow3_t, ctx_shallow3_c, ctx_shallow3_d, ctx_shallow3_b, ctx_shallow3_u, con_many3.eq_def, con_shallow3.eq_def, zaa, zab, zac, zad, zae, zaf, zag, zan, zao, zap, zaq, zar, zas, zat, zav, zaw, zaz, zbb, zbc, zbf, zbg, zbh, zbm, zbn, zbo, zbp, zbq, zbr, zbs, zbt, zbu, zbw, zbx, zby, zbz, zca, zcb, zcc, zcd, zcf, zco, zcp, zcr, zcv, zcw, zcx, zcy, zcz, zda, zdb, zdc, zdd, zde, zdf, zdg, zdh, zdi, zdq, zdr, zds, zdt, zdu, zdv, zdw, zdx, zdy, zdz, zea, zeb, zec, zed, zee, zef, zeg, zeh, zei, zej, zek, zel, zem, zen, zeo, zep, zeq, zer, zes, zet, zeu, zev, zew, zex, zey, zez, zfa, zfb, zfc, zfd, zfe, zff, zfg, zfh, zfi, zfj, zfk, zfl, zfm, zfn, zfo, zfu, zfv, zfw, zfx, zfy, zfz, zga, zgb, zgc, zgd, zge, zgh, zgi, zgj, zgk, zgl, zgm, zgn, zgo, zgp, zgq, zgr, zgs, zgt, zgu, zgv, zgw, zgx, zgy, zgz, zha, zhb, zhc, zhd, zhe, zhf, zhg, zhh, zhi, zhj, zhk, zhl, zhm, zhn, zho, zhp, zhq, zhr, zhs, zht, zhu, zhv, zhw, zhx, zhy, zhz, zia, zib, zic, zid, zie, zif, zig, zih, zii, zij, zik, zil, zim, zin, zio, zip, ziq, zir, zis, zit, ziu, ziv, ziw, zix, ziy, ziz, zja, zjb, zjc, zjd, zje, zjf, zjg, zjh, zji, zjj, zjk, zjl, zjm, zjn, zjo, zjp, zjq, zjr, zjs, zjt, zju, zjv, zjw, zjx, zjy, zjz, zka, zkb, zkc, zkd, zke, zkf, zkg, zkh, zki, zkj, zkk, zkl, zkm, zkn, zko, zkp, zkq, zkr, zks, zkt, zku, zkv, zkw, zkx, zky, zkz, zla, zlb, zlc, zld, zle, zlf, zlg, zlh, zli, zlj, zlk, zll, zlm, zln, zlo, zlp, zlq, zlr, zls, zlt, zlu, zlv, zlw, zlx, zly, zlz, zma, zmb, tab3, tab23, tab28, tab84]
                   tactic =>
                    try simp only [ncast] at *
                    try simp only [Int.ofNat_eq_natCast] at *
                    try simp (config := { maxSteps := 4000000 }) only [List.length_reverse, List.reverse_nil, hz, enc_Node, isE_Node, dec_Node, node_eta, szN, eqb_Node, con_many3, con_shallow3, Int.ofNat_eq_natCast, con0, con1, con2, con3, con2t, con3t, symD0, symD1, symD2, symD3, symD4, Nat.reduceAdd, Nat.reduceSub, Nat.reduceMul, Nat.reduceMod, Nat.reduceLT, Nat.reduceLeDiff, Nat.reduceEqDiff, Nat.reduceBEq, Obj.isBox, D.setCell, D.asAgg, setAll, allFit, AV.fits, lk, upd, standAt, freeAt, backTo, packD, Nat.reduceDiv, reduceIte, reduceCtorEq, skIs, skAll, SK.is, aggL, eqbAll, D.eqb, Nat.reduceBNe]
                    repeat' (first | with_reducible assumption | with_reducible refine And.intro ?_ ?_ | intro _ | omega | (rw [inR_i64]; omega))
                    simp only [popL] at g4
                    exact ⟨(k + 1, []), by ((try simp only [atHead_mk, killAll, setSlots, updAll, upd, set_fl, setCs, putC, Nat.reduceDiv, Nat.reduceMod, Nat.reduceMul, Nat.reduceAdd, Nat.reduceEqDiff, List.set_cons_zero, List.set_cons_succ, if_true, if_false, reduceIte]); (first | refine Wk.of_fl ?_ | skip); simp only [Wk, wkK, wkCs, wkT, wk1, AV.kept, keptAll, wkO, lk, wkObj, and_true, true_and, and_self, Nat.reduceEqDiff, Nat.reduceLeDiff, if_true, if_false, reduceIte, reduceCtorEq, Option.isSome, false_implies]; try simp [Wk, wkK, wkT, wk1, AV.kept, keptAll, wkO, lk, wkObj]), by simp only; omega, by simp, by simp, by simp only; rw [← h4, e1, g4], by simp only; omega⟩)
              | cons x r =>
                have hz : ltB 0 ((r.length + 1 : Nat) : Int) = true := by rw [ltB_true]; omega
                have hy : ((r.length + 1 : Nat) : Int) - 1 = (r.length : Int) := by omega
                have hx1 := g1 x (by simp)
                have hlt' : el (List.map enc (x :: r).reverse) r.length = .int .i64 x := rev_last
                have htk : List.take r.length (List.map (enc : Int → D) (x :: r).reverse) = List.map enc r.reverse := rev_take
                simp only [List.length_cons] at g3
                by_cases hx0 : x = 0
                · subst hx0
                  cases r with
                  | nil =>
                    have hz1 : ltB 0 ((0 : Nat) : Int) = false := rfl
                    simp only [List.length_nil] at hz hy hlt' htk
                    (sym =>
                       simp [List.length_reverse, hz, hy, hlt', htk, hz1, List.reverse_nil, enc_Node, isE_Node, dec_Node, node_eta, szN, eqb_Node, ctx_shallow3_t, ctx_shallow3_c, ctx_shallow3_d, ctx_shallow3_b, ctx_shallow3_u, con_many3.eq_def, con_shallow3.eq_def, zaa, zab, zac, zad, zae, zaf, zag, zan, zao, zap, zaq, zar, zas, zat, zav, zaw, zaz, zbb, zbc, zbf, zbg, zbh, zbm, zbn, zbo, zbp, zbq, zbr, zbs, zbt, zbu, zbw, zbx, zby, zbz, zca, zcb, zcc, zcd, zcf, zco, zcp, zcr, zcv, zcw, zcx, zcy, zcz, zda, zdb, zdc, zdd, zde, zdf, zdg, zdh, zdi, zdq, zdr, zds, zdt, zdu, zdv, zdw, zdx, zdy, zdz, zea, zeb, zec, zed, zee, zef, zeg, zeh, zei, zej, zek, zel, zem, zen, zeo, zep, zeq, zer, zes, zet, zeu, zev, zew, zex, zey, zez, zfa, zfb, zfc, zfd, zfe, zff, zfg, zfh, zfi, zfj, zfk, zfl, zfm, zfn, zfo, zfu, zfv, zfw, zfx, zfy, zfz, zga, zgb, zgc, zgd, zge, zgh, zgi, zgj, zgk, zgl, zgm, zgn, zgo, zgp, zgq, zgr, zgs, zgt, zgu, zgv, zgw, zgx, zgy, zgz, zha, zhb, zhc, zhd, zhe, zhf, zhg, zhh, zhi, zhj, zhk, zhl, zhm, zhn, zho, zhp, zhq, zhr, zhs, zht, zhu, zhv, zhw, zhx, zhy, zhz, zia, zib, zic, zid, zie, zif, zig, zih, zii, zij, zik, zil, zim, zin, zio, zip, ziq, zir, zis, zit, ziu, ziv, ziw, zix, ziy, ziz, zja, zjb, zjc, zjd, zje, zjf, zjg, zjh, zji, zjj, zjk, zjl, zjm, zjn, zjo, zjp, zjq, zjr, zjs, zjt, zju, zjv, zjw, zjx, zjy, zjz, zka, zkb, zkc, zkd, zke, zkf, zkg, zkh, zki, zkj, zkk, zkl, zkm, zkn, zko, zkp, zkq, zkr, zks, zkt, zku, zkv, zkw, zkx, zky, zkz, zla, zlb, zlc, zld, zle, zlf, zlg, zlh, zli, zlj, zlk, zll, zlm, zln, zlo, zlp, zlq, zlr, zls, zlt, zlu, zlv, zlw, zlx, zly, zlz, zma, zmb, tab3, tab23, tab28, tab84]
                       tactic =>
                        try simp only [ncast] at *
                        try simp only [Int.ofNat_eq_natCast] at *
                        try simp (config := { maxSteps := 4000000 }) only [List.length_reverse, hz, hy, hlt', htk, hz1, List.reverse_nil, enc_Node, isE_Node, dec_Node, node_eta, szN, eqb_Node, con_many3, con_shallow3, Int.ofNat_eq_natCast, con0, con1, con2, con3, con2t, con3t, symD0, symD1, symD2, symD3, symD4, Nat.reduceAdd, Nat.reduceSub, Nat.reduceMul, Nat.reduceMod, Nat.reduceLT, Nat.reduceLeDiff, Nat.reduceEqDiff, Nat.reduceBEq, Obj.isBox, D.setCell, D.asAgg, setAll, allFit, AV.fits, lk, upd, standAt, freeAt, backTo, packD, Nat.reduceDiv, reduceIte, reduceCtorEq, skIs, skAll, SK.is, aggL, eqbAll, D.eqb, Nat.reduceBNe]
                        repeat' (first | with_reducible assumption | with_reducible refine And.intro ?_ ?_ | intro _ | omega | (rw [inR_i64]; omega))
                        exact ⟨[], by ((try simp only [atHead_mk, killAll, setSlots, updAll, upd, set_fl, setCs, putC, Nat.reduceDiv, Nat.reduceMod, Nat.reduceMul, Nat.reduceAdd, Nat.reduceEqDiff, List.set_cons_zero, List.set_cons_succ, if_true, if_false, reduceIte]); (first | refine Wk.of_fl ?_ | skip); simp only [Wk, wkK, wkCs, wkT, wk1, AV.kept, keptAll, wkO, lk, wkObj, and_true, true_and, and_self, Nat.reduceEqDiff, Nat.reduceLeDiff, if_true, if_false, reduceIte, reduceCtorEq, Option.isSome, false_implies]; try simp [Wk, wkK, wkT, wk1, AV.kept, keptAll, wkO, lk, wkObj]), ⟨by simp, by simp⟩, by simp, by rw [← g4]; rfl, by simp⟩)
                  | cons y r =>
                    have hy1 := g2 y (by simp)
                    have hy2 := g1 y (by simp)
                    have hz2 : ltB 0 ((r.length + 1 : Nat) : Int) = true := by rw [ltB_true]; omega
                    have hy3 : ((r.length + 1 : Nat) : Int) - 1 = (r.length : Int) := by omega
                    have hl2 : el (List.map enc (y :: r).reverse) r.length = .int .i64 y := rev_last
                    simp only [List.length_cons] at hz hy hlt' htk g3
                    (sym =>
                       simp [List.length_reverse, hz, hy, hlt', htk, hz2, hy3, hl2, rev_set, enc_Node, isE_Node, dec_Node, node_eta, szN, eqb_Node, ctx_shallow3_t, ctx_shallow3_c, ctx_shallow3_d, ctx_shallow3_b, ctx_shallow3_u, con_many3.eq_def, con_shallow3.eq_def, zaa, zab, zac, zad, zae, zaf, zag, zan, zao, zap, zaq, zar, zas, zat, zav, zaw, zaz, zbb, zbc, zbf, zbg, zbh, zbm, zbn, zbo, zbp, zbq, zbr, zbs, zbt, zbu, zbw, zbx, zby, zbz, zca, zcb, zcc, zcd, zcf, zco, zcp, zcr, zcv, zcw, zcx, zcy, zcz, zda, zdb, zdc, zdd, zde, zdf, zdg, zdh, zdi, zdq, zdr, zds, zdt, zdu, zdv, zdw, zdx, zdy, zdz, zea, zeb, zec, zed, zee, zef, zeg, zeh, zei, zej, zek, zel, zem, zen, zeo, zep, zeq, zer, zes, zet, zeu, zev, zew, zex, zey, zez, zfa, zfb, zfc, zfd, zfe, zff, zfg, zfh, zfi, zfj, zfk, zfl, zfm, zfn, zfo, zfu, zfv, zfw, zfx, zfy, zfz, zga, zgb, zgc, zgd, zge, zgh, zgi, zgj, zgk, zgl, zgm, zgn, zgo, zgp, zgq, zgr, zgs, zgt, zgu, zgv, zgw, zgx, zgy, zgz, zha, zhb, zhc, zhd, zhe, zhf, zhg, zhh, zhi, zhj, zhk, zhl, zhm, zhn, zho, zhp, zhq, zhr, zhs, zht, zhu, zhv, zhw, zhx, zhy, zhz, zia, zib, zic, zid, zie, zif, zig, zih, zii, zij, zik, zil, zim, zin, zio, zip, ziq, zir, zis, zit, ziu, ziv, ziw, zix, ziy, ziz, zja, zjb, zjc, zjd, zje, zjf, zjg, zjh, zji, zjj, zjk, zjl, zjm, zjn, zjo, zjp, zjq, zjr, zjs, zjt, zju, zjv, zjw, zjx, zjy, zjz, zka, zkb, zkc, zkd, zke, zkf, zkg, zkh, zki, zkj, zkk, zkl, zkm, zkn, zko, zkp, zkq, zkr, zks, zkt, zku, zkv, zkw, zkx, zky, zkz, zla, zlb, zlc, zld, zle, zlf, zlg, zlh, zli, zlj, zlk, zll, zlm, zln, zlo, zlp, zlq, zlr, zls, zlt, zlu, zlv, zlw, zlx, zly, zlz, zma, zmb, tab3, tab23, tab28, tab84]
                       tactic =>
                        try simp only [ncast] at *
                        try simp only [Int.ofNat_eq_natCast] at *
                        try simp (config := { maxSteps := 4000000 }) only [List.length_reverse, hz, hy, hlt', htk, hz2, hy3, hl2, rev_set, enc_Node, isE_Node, dec_Node, node_eta, szN, eqb_Node, con_many3, con_shallow3, Int.ofNat_eq_natCast, con0, con1, con2, con3, con2t, con3t, symD0, symD1, symD2, symD3, symD4, Nat.reduceAdd, Nat.reduceSub, Nat.reduceMul, Nat.reduceMod, Nat.reduceLT, Nat.reduceLeDiff, Nat.reduceEqDiff, Nat.reduceBEq, Obj.isBox, D.setCell, D.asAgg, setAll, allFit, AV.fits, lk, upd, standAt, freeAt, backTo, packD, Nat.reduceDiv, reduceIte, reduceCtorEq, skIs, skAll, SK.is, aggL, eqbAll, D.eqb, Nat.reduceBNe]
                        repeat' (first | with_reducible assumption | with_reducible refine And.intro ?_ ?_ | intro _ | omega | (rw [inR_i64]; omega))
                        refine ⟨(y - 1) :: r, by ((try simp only [atHead_mk, killAll, setSlots, updAll, upd, set_fl, setCs, putC, Nat.reduceDiv, Nat.reduceMod, Nat.reduceMul, Nat.reduceAdd, Nat.reduceEqDiff, List.set_cons_zero, List.set_cons_succ, if_true, if_false, reduceIte]); (first | refine Wk.of_fl ?_ | skip); simp only [Wk, wkK, wkCs, wkT, wk1, AV.kept, keptAll, wkO, lk, wkObj, and_true, true_and, and_self, Nat.reduceEqDiff, Nat.reduceLeDiff, if_true, if_false, reduceIte, reduceCtorEq, Option.isSome, false_implies]; try simp [Wk, wkK, wkT, wk1, AV.kept, keptAll, wkO, lk, wkObj]), ⟨fun z hz => ?_, fun z hz => g2 z (List.mem_cons_of_mem _ hz)⟩, by simp only [List.length_cons]; omega, by rw [← g4]; simp only [popL, popA, if_true], by simp only [List.length_cons]; omega⟩
                        rcases List.mem_cons.1 hz with rfl | hz
                        · omega
                        · exact g1 z (List.mem_cons_of_mem _ (List.mem_cons_of_mem _ hz)))
                · have hxb : (x == (0 : Int)) = false := by simpa using hx0
                  (sym =>
                     simp [List.length_reverse, hz, hy, hlt', hxb, enc_Node, isE_Node, dec_Node, node_eta, szN, eqb_Node, ctx_shallow3_t, ctx_shallow3_c, ctx_shallow3_d, ctx_shallow3_b, ctx_shallow3_u, con_many3.eq_def, con_shallow3.eq_def, zaa, zab, zac, zad, zae, zaf, zag, zan, zao, zap, zaq, zar, zas, zat, zav, zaw, zaz, zbb, zbc, zbf, zbg, zbh, zbm, zbn, zbo, zbp, zbq, zbr, zbs, zbt, zbu, zbw, zbx, zby, zbz, zca, zcb, zcc, zcd, zcf, zco, zcp, zcr, zcv, zcw, zcx, zcy, zcz, zda, zdb, zdc, zdd, zde, zdf, zdg, zdh, zdi, zdq, zdr, zds, zdt, zdu, zdv, zdw, zdx, zdy, zdz, zea, zeb, zec, zed, zee, zef, zeg, zeh, zei, zej, zek, zel, zem, zen, zeo, zep, zeq, zer, zes, zet, zeu, zev, zew, zex, zey, zez, zfa, zfb, zfc, zfd, zfe, zff, zfg, zfh, zfi, zfj, zfk, zfl, zfm, zfn, zfo, zfu, zfv, zfw, zfx, zfy, zfz, zga, zgb, zgc, zgd, zge, zgh, zgi, zgj, zgk, zgl, zgm, zgn, zgo, zgp, zgq, zgr, zgs, zgt, zgu, zgv, zgw, zgx, zgy, zgz, zha, zhb, zhc, zhd, zhe, zhf, zhg, zhh, zhi, zhj, zhk, zhl, zhm, zhn, zho, zhp, zhq, zhr, zhs, zht, zhu, zhv, zhw, zhx, zhy, zhz, zia, zib, zic, zid, zie, zif, zig, zih, zii, zij, zik, zil, zim, zin, zio, zip, ziq, zir, zis, zit, ziu, ziv, ziw, zix, ziy, ziz, zja, zjb, zjc, zjd, zje, zjf, zjg, zjh, zji, zjj, zjk, zjl, zjm, zjn, zjo, zjp, zjq, zjr, zjs, zjt, zju, zjv, zjw, zjx, zjy, zjz, zka, zkb, zkc, zkd, zke, zkf, zkg, zkh, zki, zkj, zkk, zkl, zkm, zkn, zko, zkp, zkq, zkr, zks, zkt, zku, zkv, zkw, zkx, zky, zkz, zla, zlb, zlc, zld, zle, zlf, zlg, zlh, zli, zlj, zlk, zll, zlm, zln, zlo, zlp, zlq, zlr, zls, zlt, zlu, zlv, zlw, zlx, zly, zlz, zma, zmb, tab3, tab23, tab28, tab84]
                     tactic =>
                      try simp only [ncast] at *
                      try simp only [Int.ofNat_eq_natCast] at *
                      try simp (config := { maxSteps := 4000000 }) only [List.length_reverse, hz, hy, hlt', hxb, enc_Node, isE_Node, dec_Node, node_eta, szN, eqb_Node, con_many3, con_shallow3, Int.ofNat_eq_natCast, con0, con1, con2, con3, con2t, con3t, symD0, symD1, symD2, symD3, symD4, Nat.reduceAdd, Nat.reduceSub, Nat.reduceMul, Nat.reduceMod, Nat.reduceLT, Nat.reduceLeDiff, Nat.reduceEqDiff, Nat.reduceBEq, Obj.isBox, D.setCell, D.asAgg, setAll, allFit, AV.fits, lk, upd, standAt, freeAt, backTo, packD, Nat.reduceDiv, reduceIte, reduceCtorEq, skIs, skAll, SK.is, aggL, eqbAll, D.eqb, Nat.reduceBNe]
                      repeat' (first | with_reducible assumption | with_reducible refine And.intro ?_ ?_ | intro _ | omega | (rw [inR_i64]; omega))
                      have e3 : popA M rs = x :: r := by rw [← g4]; exact popA_stop hx0
                      refine ⟨(k + 1, x :: r), by ((try simp only [atHead_mk, killAll, setSlots, updAll, upd, set_fl, setCs, putC, Nat.reduceDiv, Nat.reduceMod, Nat.reduceMul, Nat.reduceAdd, Nat.reduceEqDiff, List.set_cons_zero, List.set_cons_succ, if_true, if_false, reduceIte]); (first | refine Wk.of_fl ?_ | skip); simp only [Wk, wkK, wkCs, wkT, wk1, AV.kept, keptAll, wkO, lk, wkObj, and_true, true_and, and_self, Nat.reduceEqDiff, Nat.reduceLeDiff, if_true, if_false, reduceIte, reduceCtorEq, Option.isSome, false_implies]; try simp [Wk, wkK, wkT, wk1, AV.kept, keptAll, wkO, lk, wkObj]), by simp only; omega, by simp only [List.length_cons]; omega, fun z hz => ?_, by simp only; rw [← h4, e1, e3], by simp only; omega⟩
                      rcases List.mem_cons.1 hz with rfl | hz
                      · omega
                      · exact ⟨g2 z hz, (g1 z (List.mem_cons_of_mem _ hz)).2⟩))
      · (sym =>
           simp [hlb, enc_Node, isE_Node, dec_Node, node_eta, szN, eqb_Node, ctx_shallow3_t, ctx_shallow3_c, ctx_shallow3_d, ctx_shallow3_b, ctx_shallow3_u, con_many3.eq_def, con_shallow3.eq_def, zaa, zab, zac, zad, zae, zaf, zag, zan, zao, zap, zaq, zar, zas, zat, zav, zaw, zaz, zbb, zbc, zbf, zbg, zbh, zbm, zbn, zbo, zbp, zbq, zbr, zbs, zbt, zbu, zbw, zbx, zby, zbz, zca, zcb, zcc, zcd, zcf, zco, zcp, zcr, zcv, zcw, zcx, zcy, zcz, zda, zdb, zdc, zdd, zde, zdf, zdg, zdh, zdi, zdq, zdr, zds, zdt, zdu, zdv, zdw, zdx, zdy, zdz, zea, zeb, zec, zed, zee, zef, zeg, zeh, zei, zej, zek, zel, zem, zen, zeo, zep, zeq, zer, zes, zet, zeu, zev, zew, zex, zey, zez, zfa, zfb, zfc, zfd, zfe, zff, zfg, zfh, zfi, zfj, zfk, zfl, zfm, zfn, zfo, zfu, zfv, zfw, zfx, zfy, zfz, zga, zgb, zgc, zgd, zge, zgh, zgi, zgj, zgk, zgl, zgm, zgn, zgo, zgp, zgq, zgr, zgs, zgt, zgu, zgv, zgw, zgx, zgy, zgz, zha, zhb, zhc, zhd, zhe, zhf, zhg, zhh, zhi, zhj, zhk, zhl, zhm, zhn, zho, zhp, zhq, zhr, zhs, zht, zhu, zhv, zhw, zhx, zhy, zhz, zia, zib, zic, zid, zie, zif, zig, zih, zii, zij, zik, zil, zim, zin, zio, zip, ziq, zir, zis, zit, ziu, ziv, ziw, zix, ziy, ziz, zja, zjb, zjc, zjd, zje, zjf, zjg, zjh, zji, zjj, zjk, zjl, zjm, zjn, zjo, zjp, zjq, zjr, zjs, zjt, zju, zjv, zjw, zjx, zjy, zjz, zka, zkb, zkc, zkd, zke, zkf, zkg, zkh, zki, zkj, zkk, zkl, zkm, zkn, zko, zkp, zkq, zkr, zks, zkt, zku, zkv, zkw, zkx, zky, zkz, zla, zlb, zlc, zld, zle, zlf, zlg, zlh, zli, zlj, zlk, zll, zlm, zln, zlo, zlp, zlq, zlr, zls, zlt, zlu, zlv, zlw, zlx, zly, zlz, zma, zmb, tab3, tab23, tab28, tab84]
           tactic =>
            try simp only [ncast] at *
            try simp only [Int.ofNat_eq_natCast] at *
            try simp (config := { maxSteps := 4000000 }) only [hlb, enc_Node, isE_Node, dec_Node, node_eta, szN, eqb_Node, con_many3, con_shallow3, Int.ofNat_eq_natCast, con0, con1, con2, con3, con2t, con3t, symD0, symD1, symD2, symD3, symD4, Nat.reduceAdd, Nat.reduceSub, Nat.reduceMul, Nat.reduceMod, Nat.reduceLT, Nat.reduceLeDiff, Nat.reduceEqDiff, Nat.reduceBEq, Obj.isBox, D.setCell, D.asAgg, setAll, allFit, AV.fits, lk, upd, standAt, freeAt, backTo, packD, Nat.reduceDiv, reduceIte, reduceCtorEq, skIs, skAll, SK.is, aggL, eqbAll, D.eqb, Nat.reduceBNe]
            rw [← h4, List.drop_eq_nil_of_le hlt]
            rfl))

end Go.Am.Ty
