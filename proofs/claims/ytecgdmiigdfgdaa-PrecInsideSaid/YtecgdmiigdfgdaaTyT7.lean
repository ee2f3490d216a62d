/- Contracts of functions that the laws reach, and plain laws. Conditions: those that each contract states. -/
import Derived.Test.YtecgdmiigdfgdaaTyT6
set_option linter.unusedSimpArgs false
set_option linter.unusedVariables false
set_option maxHeartbeats 1000000
namespace Go.Am.Ty
open Go.Proofs Go.Rose Go.Rose.Rose
open Enc (enc dec)

/-! ### children -/
def kidPos : Nat → List (Rose Node) → List Int
  | _, [] => []
  | q, x :: xs => (q : Int) :: kidPos (q + (nds x).length) xs
theorem kidPos_len : ∀ (q : Nat) (xs : List (Rose Node)), (kidPos q xs).length = xs.length
  | _, [] => rfl
  | q, x :: xs => by simp [kidPos, kidPos_len _ xs]
theorem kidPos_at : ∀ (q : Nat) (xs : List (Rose Node)) (j : Nat), j < xs.length → (kidPos q xs).getD j 0 = ((q + (ndss (xs.take j)).length : Nat) : Int)
  | _, [], j, h => by simp at h
  | q, x :: xs, 0, _ => by simp [kidPos, ndss]
  | q, x :: xs, j + 1, h => by
    simp only [kidPos, List.getD_cons_succ, List.take_succ_cons, ndss, List.length_append]
    rw [kidPos_at _ xs j (by simpa using h)]
    congr 1
    omega
theorem ats_at {t : List Node} : ∀ {xs : List (Rose Node)} {i j : Nat}, Ats ar t i xs → ∀ h : j < xs.length, At ar t (i + (ndss (xs.take j)).length) xs[j]
  | [], _, _, _, h => by simp at h
  | x :: xs, i, 0, ha, _ => by simpa [ndss] using ha.head.1
  | x :: xs, i, j + 1, ha, h => by
    have := ats_at ha.head.2 (j := j) (by simpa using h)
    simpa [ndss, Nat.add_assoc] using this
theorem ndss_take_succ {xs : List (Rose Node)} {j : Nat} (h : j < xs.length) : (ndss (xs.take (j + 1))).length = (ndss (xs.take j)).length + (nds xs[j]).length := by
  rw [List.take_succ_eq_append_getElem h, ndss_append, List.length_append]
  simp [ndss]
theorem ats_le {t : List Node} {i : Nat} {xs : List (Rose Node)} (h : Ats ar t i xs) (hi : i ≤ t.length) : i + (ndss xs).length ≤ t.length := by
  obtain ⟨_, r, h2⟩ := h
  have := congrArg List.length h2
  rw [List.length_drop, List.length_append] at this
  omega
theorem at_whl {t : List Node} {i : Nat} {x : Rose Node} (h : At ar t i x) : Whole t i := fun _ _ => by
  simp only [Int.toNat_natCast]
  rw [at_eatN h]
  rfl
theorem endT_at {t : List Node} {i : Nat} {x : Rose Node} (h : At ar t i x) : endT t i = ((i + (nds x).length : Nat) : Int) := by
  unfold endT
  have := h.lt
  rw [if_neg (by omega), Int.toNat_natCast, at_eatN h]
  simp
/-- A row of numbers, filled up to a place. -/
def rowK (l : List Int) (j : Nat) : List Int := l.take j ++ List.replicate (l.length - j) 0
theorem rowK_len {l : List Int} {j : Nat} (h : j ≤ l.length) : (rowK l j).length = l.length := by
  unfold rowK
  rw [List.length_append, List.length_take, List.length_replicate]
  omega
theorem rowK_set {l : List Int} {j : Nat} {q : Int} (h : j < l.length) (hq : l.getD j 0 = q) : ((rowK l j).map (enc : Int → D)).set j (.int .i64 q) = (rowK l (j + 1)).map enc := by
  have e : (enc q : D) = .int .i64 q := rfl
  rw [← e, ← List.map_set]
  congr 1
  unfold rowK
  rw [List.set_append_right _ _ (by rw [List.length_take]; omega), List.length_take, show l.length - j = (l.length - (j + 1)) + 1 by omega, List.replicate_succ,
    show j - min j l.length = 0 by omega, List.set_cons_zero, List.take_succ_eq_append_getElem h]
  simp only [List.append_assoc, List.singleton_append]
  congr 2
  rw [← hq]
  simp [h]
theorem rowK_el {l : List Int} {j : Nat} (h : j < l.length) : el ((rowK l j).map (enc : Int → D)) j = .int .i64 0 := by
  rw [el_enc (0 : Int) (by rw [rowK_len (by omega)]; exact h)]
  unfold rowK
  rw [List.getD_eq_getElem?_getD, List.getElem?_append_right (by rw [List.length_take]; omega), List.length_take, show j - min j l.length = 0 by omega, show l.length - j = (l.length - (j + 1)) + 1 by omega, List.replicate_succ]
  rfl
theorem rowK_zero {l : List Int} {n : Nat} (h : l.length = n) : List.replicate n (D.int .i64 0) = (rowK l 0).map enc := by
  unfold rowK
  simp [h]
theorem rowK_all {l : List Int} : rowK l l.length = l := by
  unfold rowK
  simp
noncomputable def kidsT (t : List Node) (i : Int) : List Int := if i < 0 ∨ (t.length : Int) ≤ i then [] else kidPos (i.toNat + 1) (treeAt ar t i.toNat).kids
def Tree (t : List Node) (i : Int) : Prop := 0 ≤ i → i < t.length → ∃ x, At ar t i.toNat x
noncomputable def con_KidsT : Con := con2 (fun (t : Sl Node) (i : Int) => t.l.length ≤ 1000000000 ∧ inR .i64 i ∧ Tree t.l i) (fun t i => Sl.mk (kidsT t.l i))
noncomputable def ctx_KidsT : Ctx := ⟨tab, lkC [(45, con_EndT), (76, con_manyT)], 60, lkB [], []⟩
theorem ctx_KidsT_t : ctx_KidsT.τ = tab := rfl
theorem ctx_KidsT_c : ctx_KidsT.Γ = lkC [(45, con_EndT), (76, con_manyT)] := rfl
theorem ctx_KidsT_d : ctx_KidsT.dp = 60 := rfl
theorem ctx_KidsT_b : ctx_KidsT.Δ = lkB [] := rfl
theorem ctx_KidsT_u : ctx_KidsT.cuts = [] := rfl
set_option maxRecDepth 100000 in
theorem good_KidsT : Good Try.prog (75, con_KidsT) := by
  refine ⟨enters_of Try.func75 (by kernel_rfl) rfl, ?_⟩
  have K : CtxOk Try.prog ctx_KidsT := ctxOk_of tabOk mixedOk (by
    intro p hp
    simp only [List.mem_cons, List.not_mem_nil, or_false] at hp
    rcases hp with rfl | rfl
    · exact good_EndT
    · exact good_manyT) (by simp)
  obtain ⟨c, hc⟩ : ∃ c, Try.f75.body = some c := ⟨_, rfl⟩
  refine fn_sound K Try.func75 hc [.tmp 4] rfl 38 rfl (fun cvs hpre => ?_)
  change con_KidsT.pre cvs at hpre
  unfold con_KidsT at hpre
  obtain ⟨⟨t⟩, i, rfl, ht, hi, hw⟩ := con2_pre hpre
  simp only at ht hw
  rw [inR_i64] at hi
  simp only [Try.f75, Option.some.injEq] at hc
  subst hc
  refine awp_chk 2 (of_decide_eq_true (by kernel_rfl)) ?_
  rcases (by omega : i < 0 ∨ (t.length : Int) ≤ i ∨ (0 ≤ i ∧ i < t.length)) with h | h | ⟨h1, h2⟩
  · have hb : ltB i 0 = true := by rw [ltB_true]; exact h
    (sym =>
       simp [hb, enc_Node, isE_Node, dec_Node, node_eta, szN, eqb_Node, ctx_KidsT_t, ctx_KidsT_c, ctx_KidsT_d, ctx_KidsT_b, ctx_KidsT_u, con_EndT.eq_def, con_KidsT.eq_def, con_manyT.eq_def, zaa, zab, zac, zad, zae, zaf, zag, zan, zao, zap, zaq, zar, zas, zat, zav, zaw, zaz, zbe, zbh, zbm, zbn, zbo, zbp, zbq, zbr, zbs, zbt, zbu, zbx, zby, zbz, zca, zcb, zcc, zcd, zcf, zco, zcp, zcr, zcv, zcw, zcx, zdc, zde, zdf, zdg, zdh, zdi, zdu, zdv, zdw, zdx, zdy, zdz, zec, zed, zee, zef, zeg, zeh, zei, zej, zek, zel, zem, zen, zeq, zer, zes, zet, zeu, zev, zew, zex, zey, zez, zfa, zfb, zfc, zfd, zfe, zff, zfg, zfh, zfi, zfj, zfk, zfl, zfm, zfn, zfo, zfu, zfv, zfw, zfx, zfy, zfz, zga, zgb, zgc, zgd, zge, zgh, zgi, zgj, zgk, zgl, zgm, zgn, zgo, zgp, zgq, zgr, zgs, zgt, zgu, zgv, zgw, zgx, zgy, zgz, zha, zhb, zhc, zhd, zhe, zhf, zhg, zhh, zhi, zhj, zhk, zhn, zho, zhp, zhq, zhr, zhs, zht, zhu, zhv, zhw, zhx, zhy, zhz, zia, zib, zic, zid, zie, zif, zig, zih, zii, zij, zik, zil, zim, zin, zio, zip, ziq, zir, zis, zit, ziu, ziv, ziw, zix, ziy, ziz, zja, zjb, zjc, zjd, zje, zjf, zjg, zjh, zji, zjj, zjk, zjl, zjm, zjn, zjo, zjp, zjq, zjr, zjs, zjt, zju, zjv, zjw, zjx, zjy, zjz, zka, zkb, zkc, zkd, zke, zkf, zkg, zkh, zki, zkj, zkk, zkl, zkm, zkn, zko, zkp, zkq, zkr, zku, zkv, zkw, zkx, zky, zkz, zla, zlb, zlc, zld, zle, zlf, zlg, zlh, zli, zlj, zlk, zll, zlm, zln, zlo, zlp, zlq, zlr, zls, zlt, zlu, zlv, zlw, zlx, zly, zlz, zma, zmb, tab3, tab23, tab28, tab84]
       tactic =>
        try simp only [ncast] at *
        try simp only [Int.ofNat_eq_natCast] at *
        try simp (config := { maxSteps := 4000000 }) only [hb, enc_Node, isE_Node, dec_Node, node_eta, szN, eqb_Node, con_EndT, con_KidsT, con_manyT, Int.ofNat_eq_natCast, con0, con1, con2, con3, con2t, con3t, symD0, symD1, symD2, symD3, symD4, Nat.reduceAdd, Nat.reduceSub, Nat.reduceMul, Nat.reduceMod, Nat.reduceLT, Nat.reduceLeDiff, Nat.reduceEqDiff, Nat.reduceBEq, Obj.isBox, D.setCell, D.asAgg, setAll, allFit, AV.fits, lk, upd, standAt, freeAt, backTo, packD, Nat.reduceDiv, reduceIte, reduceCtorEq, skIs, skAll, SK.is, aggL, eqbAll, D.eqb, Nat.reduceBNe]
        unfold kidsT
        rw [if_pos (.inl h)]
        rfl)
  · have hb : ltB i 0 = false := by rw [ltB_false]; omega
    have hb2 : leB (t.length : Int) i = true := by rw [leB_true]; omega
    (sym =>
       simp [hb, hb2, enc_Node, isE_Node, dec_Node, node_eta, szN, eqb_Node, ctx_KidsT_t, ctx_KidsT_c, ctx_KidsT_d, ctx_KidsT_b, ctx_KidsT_u, con_EndT.eq_def, con_KidsT.eq_def, con_manyT.eq_def, zaa, zab, zac, zad, zae, zaf, zag, zan, zao, zap, zaq, zar, zas, zat, zav, zaw, zaz, zbe, zbh, zbm, zbn, zbo, zbp, zbq, zbr, zbs, zbt, zbu, zbx, zby, zbz, zca, zcb, zcc, zcd, zcf, zco, zcp, zcr, zcv, zcw, zcx, zdc, zde, zdf, zdg, zdh, zdi, zdu, zdv, zdw, zdx, zdy, zdz, zec, zed, zee, zef, zeg, zeh, zei, zej, zek, zel, zem, zen, zeq, zer, zes, zet, zeu, zev, zew, zex, zey, zez, zfa, zfb, zfc, zfd, zfe, zff, zfg, zfh, zfi, zfj, zfk, zfl, zfm, zfn, zfo, zfu, zfv, zfw, zfx, zfy, zfz, zga, zgb, zgc, zgd, zge, zgh, zgi, zgj, zgk, zgl, zgm, zgn, zgo, zgp, zgq, zgr, zgs, zgt, zgu, zgv, zgw, zgx, zgy, zgz, zha, zhb, zhc, zhd, zhe, zhf, zhg, zhh, zhi, zhj, zhk, zhn, zho, zhp, zhq, zhr, zhs, zht, zhu, zhv, zhw, zhx, zhy, zhz, zia, zib, zic, zid, zie, zif, zig, zih, zii, zij, zik, zil, zim, zin, zio, zip, ziq, zir, zis, zit, ziu, ziv, ziw, zix, ziy, ziz, zja, zjb, zjc, zjd, zje, zjf, zjg, zjh, zji, zjj, zjk, zjl, zjm, zjn, zjo, zjp, zjq, zjr, zjs, zjt, zju, zjv, zjw, zjx, zjy, zjz, zka, zkb, zkc, zkd, zke, zkf, zkg, zkh, zki, zkj, zkk, zkl, zkm, zkn, zko, zkp, zkq, zkr, zku, zkv, zkw, zkx, zky, zkz, zla, zlb, zlc, zld, zle, zlf, zlg, zlh, zli, zlj, zlk, zll, zlm, zln, zlo, zlp, zlq, zlr, zls, zlt, zlu, zlv, zlw, zlx, zly, zlz, zma, zmb, tab3, tab23, tab28, tab84]
       tactic =>
        try simp only [ncast] at *
        try simp only [Int.ofNat_eq_natCast] at *
        try simp (config := { maxSteps := 4000000 }) only [hb, hb2, enc_Node, isE_Node, dec_Node, node_eta, szN, eqb_Node, con_EndT, con_KidsT, con_manyT, Int.ofNat_eq_natCast, con0, con1, con2, con3, con2t, con3t, symD0, symD1, symD2, symD3, symD4, Nat.reduceAdd, Nat.reduceSub, Nat.reduceMul, Nat.reduceMod, Nat.reduceLT, Nat.reduceLeDiff, Nat.reduceEqDiff, Nat.reduceBEq, Obj.isBox, D.setCell, D.asAgg, setAll, allFit, AV.fits, lk, upd, standAt, freeAt, backTo, packD, Nat.reduceDiv, reduceIte, reduceCtorEq, skIs, skAll, SK.is, aggL, eqbAll, D.eqb, Nat.reduceBNe]
        unfold kidsT
        rw [if_pos (.inr h)]
        rfl)
  · obtain ⟨x, hx⟩ := hw h1 h2
    obtain ⟨i, rfl⟩ : ∃ n : Nat, i = n := ⟨i.toNat, by omega⟩
    simp only [Int.toNat_natCast] at hx
    have hil : i < t.length := by omega
    have hb : ltB (i : Int) 0 = false := by rw [ltB_false]; omega
    have hb2 : leB (t.length : Int) (i : Int) = false := by rw [leB_false]; omega
    have hroot : t.getD i n0 = x.root := hx.root n0
    obtain ⟨hks, hkl⟩ := hx.kids
    obtain ⟨ks, hk⟩ : ∃ ks, x.kids = ks := ⟨_, rfl⟩
    rw [hk] at hks hkl
    have hle := ats_le hks (by omega)
    have har : ar (t.getD i n0) = ks.length := by rw [hroot, hkl]
    obtain ⟨l, hl⟩ : ∃ l, kidPos (i + 1) ks = l := ⟨_, rfl⟩
    have hll : l.length = ks.length := by rw [← hl, kidPos_len]
    have hkn : ks.length ≤ (ndss ks).length := by
      clear hks hkl hle har hl hll hk
      induction ks with
      | nil => simp
      | cons y ys ih => simp only [List.length_cons, ndss, List.length_append]; have := nds_pos y; omega
    have e0 : kidsT t i = l := by
      unfold kidsT
      rw [if_neg (by omega)]
      simp only [Int.toNat_natCast]
      rw [treeAt_eq hx, hk, hl]
    have zz1 := el_enc n0 hil
    (sym =>
       simp [hb, hb2, zz1, har, enc_Node, isE_Node, dec_Node, node_eta, szN, eqb_Node, ctx_KidsT_t, ctx_KidsT_c, ctx_KidsT_d, ctx_KidsT_b, ctx_KidsT_u, con_EndT.eq_def, con_KidsT.eq_def, con_manyT.eq_def, zaa, zab, zac, zad, zae, zaf, zag, zan, zao, zap, zaq, zar, zas, zat, zav, zaw, zaz, zbe, zbh, zbm, zbn, zbo, zbp, zbq, zbr, zbs, zbt, zbu, zbx, zby, zbz, zca, zcb, zcc, zcd, zcf, zco, zcp, zcr, zcv, zcw, zcx, zdc, zde, zdf, zdg, zdh, zdi, zdu, zdv, zdw, zdx, zdy, zdz, zec, zed, zee, zef, zeg, zeh, zei, zej, zek, zel, zem, zen, zeq, zer, zes, zet, zeu, zev, zew, zex, zey, zez, zfa, zfb, zfc, zfd, zfe, zff, zfg, zfh, zfi, zfj, zfk, zfl, zfm, zfn, zfo, zfu, zfv, zfw, zfx, zfy, zfz, zga, zgb, zgc, zgd, zge, zgh, zgi, zgj, zgk, zgl, zgm, zgn, zgo, zgp, zgq, zgr, zgs, zgt, zgu, zgv, zgw, zgx, zgy, zgz, zha, zhb, zhc, zhd, zhe, zhf, zhg, zhh, zhi, zhj, zhk, zhn, zho, zhp, zhq, zhr, zhs, zht, zhu, zhv, zhw, zhx, zhy, zhz, zia, zib, zic, zid, zie, zif, zig, zih, zii, zij, zik, zil, zim, zin, zio, zip, ziq, zir, zis, zit, ziu, ziv, ziw, zix, ziy, ziz, zja, zjb, zjc, zjd, zje, zjf, zjg, zjh, zji, zjj, zjk, zjl, zjm, zjn, zjo, zjp, zjq, zjr, zjs, zjt, zju, zjv, zjw, zjx, zjy, zjz, zka, zkb, zkc, zkd, zke, zkf, zkg, zkh, zki, zkj, zkk, zkl, zkm, zkn, zko, zkp, zkq, zkr, zku, zkv, zkw, zkx, zky, zkz, zla, zlb, zlc, zld, zle, zlf, zlg, zlh, zli, zlj, zlk, zll, zlm, zln, zlo, zlp, zlq, zlr, zls, zlt, zlu, zlv, zlw, zlx, zly, zlz, zma, zmb, tab3, tab23, tab28, tab84]
       tactic =>
        try simp only [ncast] at *
        try simp only [Int.ofNat_eq_natCast] at *
        try simp (config := { maxSteps := 4000000 }) only [hb, hb2, zz1, har, enc_Node, isE_Node, dec_Node, node_eta, szN, eqb_Node, con_EndT, con_KidsT, con_manyT, Int.ofNat_eq_natCast, con0, con1, con2, con3, con2t, con3t, symD0, symD1, symD2, symD3, symD4, Nat.reduceAdd, Nat.reduceSub, Nat.reduceMul, Nat.reduceMod, Nat.reduceLT, Nat.reduceLeDiff, Nat.reduceEqDiff, Nat.reduceBEq, Obj.isBox, D.setCell, D.asAgg, setAll, allFit, AV.fits, lk, upd, standAt, freeAt, backTo, packD, Nat.reduceDiv, reduceIte, reduceCtorEq, skIs, skAll, SK.is, aggL, eqbAll, D.eqb, Nat.reduceBNe]
        repeat' (first | with_reducible assumption | with_reducible refine And.intro ?_ ?_ | intro _ | omega | (rw [inR_i64]; omega))
        refine aLoop_kill [7, 27, 28, 29, 30, 31, 32, 33, 34, 35, 36] (fun j : Nat => [(5, .sl 21 ((rowK l j).map (enc : Int → D)).length), (6, .d (.int .i64 (i + 1 + (ndss (ks.take j)).length : Nat))), (21, .dead), (26, .d (.int .i64 j))]) (fun j : Nat => [(21, .row 1 ((rowK l j).map enc) 0)]) (fun j : Nat => j ≤ ks.length) (fun j : Nat => ks.length - j) 0 ?_ ?_ ?_
        · omega
        · ((try simp only [atHead_mk, killAll, setSlots, updAll, upd, set_fl, setCs, putC, Nat.reduceDiv, Nat.reduceMod, Nat.reduceMul, Nat.reduceAdd, Nat.reduceEqDiff, List.set_cons_zero, List.set_cons_succ, if_true, if_false, reduceIte]); (first | refine Wk.of_fl ?_ | skip); simp only [Wk, wkK, wkCs, wkT, wk1, AV.kept, keptAll, wkO, lk, wkObj, and_true, true_and, and_self, Nat.reduceEqDiff, Nat.reduceLeDiff, if_true, if_false, reduceIte, reduceCtorEq, Option.isSome, false_implies]; try simp [Wk, wkK, wkT, wk1, AV.kept, keptAll, wkO, lk, wkObj, rowK_zero hll, ndss, hll, rowK_len])
        rintro j hj
        have hrl : (rowK l j).length = ks.length := by rw [rowK_len (by omega), hll]
        rcases ltB_cases j ks.length with ⟨hlt, hlb⟩ | ⟨hlt, hlb⟩
        · have hat := ats_at hks hlt
          have hq : l.getD j 0 = ((i + 1 + (ndss (ks.take j)).length : Nat) : Int) := by rw [← hl]; exact kidPos_at _ _ j hlt
          have hset := rowK_set (by omega) hq
          have hel := rowK_el (l := l) (j := j) (by omega)
          have hrl2 : (rowK l (j + 1)).length = ks.length := by rw [rowK_len (by omega), hll]
          have hend := endT_at hat
          have hwh := at_whl hat
          have hlt2 := hat.le
          have hsz := ndss_take_succ hlt
          (sym =>
             simp [hlb, hrl, hel, hset, hend, enc_Node, isE_Node, dec_Node, node_eta, szN, eqb_Node, ctx_KidsT_t, ctx_KidsT_c, ctx_KidsT_d, ctx_KidsT_b, ctx_KidsT_u, con_EndT.eq_def, con_KidsT.eq_def, con_manyT.eq_def, zaa, zab, zac, zad, zae, zaf, zag, zan, zao, zap, zaq, zar, zas, zat, zav, zaw, zaz, zbe, zbh, zbm, zbn, zbo, zbp, zbq, zbr, zbs, zbt, zbu, zbx, zby, zbz, zca, zcb, zcc, zcd, zcf, zco, zcp, zcr, zcv, zcw, zcx, zdc, zde, zdf, zdg, zdh, zdi, zdu, zdv, zdw, zdx, zdy, zdz, zec, zed, zee, zef, zeg, zeh, zei, zej, zek, zel, zem, zen, zeq, zer, zes, zet, zeu, zev, zew, zex, zey, zez, zfa, zfb, zfc, zfd, zfe, zff, zfg, zfh, zfi, zfj, zfk, zfl, zfm, zfn, zfo, zfu, zfv, zfw, zfx, zfy, zfz, zga, zgb, zgc, zgd, zge, zgh, zgi, zgj, zgk, zgl, zgm, zgn, zgo, zgp, zgq, zgr, zgs, zgt, zgu, zgv, zgw, zgx, zgy, zgz, zha, zhb, zhc, zhd, zhe, zhf, zhg, zhh, zhi, zhj, zhk, zhn, zho, zhp, zhq, zhr, zhs, zht, zhu, zhv, zhw, zhx, zhy, zhz, zia, zib, zic, zid, zie, zif, zig, zih, zii, zij, zik, zil, zim, zin, zio, zip, ziq, zir, zis, zit, ziu, ziv, ziw, zix, ziy, ziz, zja, zjb, zjc, zjd, zje, zjf, zjg, zjh, zji, zjj, zjk, zjl, zjm, zjn, zjo, zjp, zjq, zjr, zjs, zjt, zju, zjv, zjw, zjx, zjy, zjz, zka, zkb, zkc, zkd, zke, zkf, zkg, zkh, zki, zkj, zkk, zkl, zkm, zkn, zko, zkp, zkq, zkr, zku, zkv, zkw, zkx, zky, zkz, zla, zlb, zlc, zld, zle, zlf, zlg, zlh, zli, zlj, zlk, zll, zlm, zln, zlo, zlp, zlq, zlr, zls, zlt, zlu, zlv, zlw, zlx, zly, zlz, zma, zmb, tab3, tab23, tab28, tab84]
             tactic =>
              try simp only [ncast] at *
              try simp only [Int.ofNat_eq_natCast] at *
              try simp (config := { maxSteps := 4000000 }) only [hlb, hrl, hel, hset, hend, enc_Node, isE_Node, dec_Node, node_eta, szN, eqb_Node, con_EndT, con_KidsT, con_manyT, Int.ofNat_eq_natCast, con0, con1, con2, con3, con2t, con3t, symD0, symD1, symD2, symD3, symD4, Nat.reduceAdd, Nat.reduceSub, Nat.reduceMul, Nat.reduceMod, Nat.reduceLT, Nat.reduceLeDiff, Nat.reduceEqDiff, Nat.reduceBEq, Obj.isBox, D.setCell, D.asAgg, setAll, allFit, AV.fits, lk, upd, standAt, freeAt, backTo, packD, Nat.reduceDiv, reduceIte, reduceCtorEq, skIs, skAll, SK.is, aggL, eqbAll, D.eqb, Nat.reduceBNe]
              repeat' (first | with_reducible assumption | with_reducible refine And.intro ?_ ?_ | intro _ | omega | (rw [inR_i64]; omega))
              refine ⟨j + 1, by ((try simp only [atHead_mk, killAll, setSlots, updAll, upd, set_fl, setCs, putC, Nat.reduceDiv, Nat.reduceMod, Nat.reduceMul, Nat.reduceAdd, Nat.reduceEqDiff, List.set_cons_zero, List.set_cons_succ, if_true, if_false, reduceIte]); (first | refine Wk.of_fl ?_ | skip); simp only [Wk, wkK, wkCs, wkT, wk1, AV.kept, keptAll, wkO, lk, wkObj, and_true, true_and, and_self, Nat.reduceEqDiff, Nat.reduceLeDiff, if_true, if_false, reduceIte, reduceCtorEq, Option.isSome, false_implies]; try simp [Wk, wkK, wkT, wk1, AV.kept, keptAll, wkO, lk, wkObj, hrl2, hsz, Int.add_assoc]), by omega, by omega⟩)
        · have hjk : j = l.length := by omega
          (sym =>
             simp [hlb, hrl, enc_Node, isE_Node, dec_Node, node_eta, szN, eqb_Node, ctx_KidsT_t, ctx_KidsT_c, ctx_KidsT_d, ctx_KidsT_b, ctx_KidsT_u, con_EndT.eq_def, con_KidsT.eq_def, con_manyT.eq_def, zaa, zab, zac, zad, zae, zaf, zag, zan, zao, zap, zaq, zar, zas, zat, zav, zaw, zaz, zbe, zbh, zbm, zbn, zbo, zbp, zbq, zbr, zbs, zbt, zbu, zbx, zby, zbz, zca, zcb, zcc, zcd, zcf, zco, zcp, zcr, zcv, zcw, zcx, zdc, zde, zdf, zdg, zdh, zdi, zdu, zdv, zdw, zdx, zdy, zdz, zec, zed, zee, zef, zeg, zeh, zei, zej, zek, zel, zem, zen, zeq, zer, zes, zet, zeu, zev, zew, zex, zey, zez, zfa, zfb, zfc, zfd, zfe, zff, zfg, zfh, zfi, zfj, zfk, zfl, zfm, zfn, zfo, zfu, zfv, zfw, zfx, zfy, zfz, zga, zgb, zgc, zgd, zge, zgh, zgi, zgj, zgk, zgl, zgm, zgn, zgo, zgp, zgq, zgr, zgs, zgt, zgu, zgv, zgw, zgx, zgy, zgz, zha, zhb, zhc, zhd, zhe, zhf, zhg, zhh, zhi, zhj, zhk, zhn, zho, zhp, zhq, zhr, zhs, zht, zhu, zhv, zhw, zhx, zhy, zhz, zia, zib, zic, zid, zie, zif, zig, zih, zii, zij, zik, zil, zim, zin, zio, zip, ziq, zir, zis, zit, ziu, ziv, ziw, zix, ziy, ziz, zja, zjb, zjc, zjd, zje, zjf, zjg, zjh, zji, zjj, zjk, zjl, zjm, zjn, zjo, zjp, zjq, zjr, zjs, zjt, zju, zjv, zjw, zjx, zjy, zjz, zka, zkb, zkc, zkd, zke, zkf, zkg, zkh, zki, zkj, zkk, zkl, zkm, zkn, zko, zkp, zkq, zkr, zku, zkv, zkw, zkx, zky, zkz, zla, zlb, zlc, zld, zle, zlf, zlg, zlh, zli, zlj, zlk, zll, zlm, zln, zlo, zlp, zlq, zlr, zls, zlt, zlu, zlv, zlw, zlx, zly, zlz, zma, zmb, tab3, tab23, tab28, tab84]
             tactic =>
              try simp only [ncast] at *
              try simp only [Int.ofNat_eq_natCast] at *
              try simp (config := { maxSteps := 4000000 }) only [hlb, hrl, enc_Node, isE_Node, dec_Node, node_eta, szN, eqb_Node, con_EndT, con_KidsT, con_manyT, Int.ofNat_eq_natCast, con0, con1, con2, con3, con2t, con3t, symD0, symD1, symD2, symD3, symD4, Nat.reduceAdd, Nat.reduceSub, Nat.reduceMul, Nat.reduceMod, Nat.reduceLT, Nat.reduceLeDiff, Nat.reduceEqDiff, Nat.reduceBEq, Obj.isBox, D.setCell, D.asAgg, setAll, allFit, AV.fits, lk, upd, standAt, freeAt, backTo, packD, Nat.reduceDiv, reduceIte, reduceCtorEq, skIs, skAll, SK.is, aggL, eqbAll, D.eqb, Nat.reduceBNe]
              repeat' (first | with_reducible assumption | with_reducible refine And.intro ?_ ?_ | intro _ | omega | (rw [inR_i64]; omega))
              rw [e0, hjk, rowK_all]))

end Go.Am.Ty
