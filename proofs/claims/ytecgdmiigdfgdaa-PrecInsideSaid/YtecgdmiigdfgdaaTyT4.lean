/- Contracts of functions that the laws reach, and plain laws. Conditions: those that each contract states. -/
import Derived.Test.YtecgdmiigdfgdaaTyT3
set_option linter.unusedSimpArgs false
set_option linter.unusedVariables false
set_option maxHeartbeats 0
namespace Go.Am.Ty
open Go.Proofs
open Enc (enc dec)

/-! ### labels -/
abbrev n0 : Node := ⟨0, [], 0⟩
def isRow3 (n : Node) : Bool := n.kind == 6 || n.kind == 7
def labK (p x prev : Node) (pos last : Bool) : Bool :=
  cond (x.kind == 9) (isRow3 p && (last && x.name == []))
    (!((p.kind == 6 && !isWord x.name) || (p.kind == 7 && !isTag x.name)) && (!(!isRow3 p && !(x.name == [])) && !(isRow3 p && (pos && !Op.bytesLess prev.name x.name))))
def kidAt (t : List Node) (l : List Int) (k : Nat) : Node := t.getD (l.getD k 0).toNat n0
def labAt (t : List Node) (i : Nat) (l : List Int) (k : Nat) : Bool := labK (t.getD i n0) (kidAt t l k) (kidAt t l (k - 1)) (ltB 0 k) ((k : Int) == (l.length : Int) - 1)
def lab3 (t : List Node) (i : Nat) : Bool := (((kids3 t i).length : Int) == many3 (t.getD i n0)) && (List.range (kids3 t i).length).all fun k => labAt t i (kids3 t i) k
def Named (t : List Node) : Prop := ∀ n ∈ t, n.name.length ≤ 9223372036854775807
theorem kidsFrom_in (t : List Node) : ∀ (m q : Nat), ∀ x ∈ kidsFrom t m q, (q : Int) ≤ x ∧ x < t.length
  | 0, q, x, hx => by simp [kidsFrom] at hx
  | m + 1, q, x, hx => by
    unfold kidsFrom at hx
    split at hx
    · rcases List.mem_cons.1 hx with rfl | hx
      · omega
      · have := kidsFrom_in t m _ x hx
        omega
    · cases hx
theorem kids3_in {t : List Node} {i : Nat} : ∀ x ∈ kids3 t i, (i : Int) < x ∧ x < t.length := by
  intro x hx
  unfold kids3 at hx
  split at hx
  · cases hx
  · have := kidsFrom_in t _ _ x hx
    omega
theorem kidsFrom_len (t : List Node) : ∀ (m q : Nat), (kidsFrom t m q).length ≤ m
  | 0, q => by simp [kidsFrom]
  | m + 1, q => by
    unfold kidsFrom
    split
    · simp only [List.length_cons]
      have := kidsFrom_len t m (q + eat (t.drop q) 1)
      omega
    · simp
def con_labelled3 : Con := con2 (fun (t : Sl Node) (i : Int) => Tame t.l ∧ Named t.l ∧ 0 ≤ i ∧ i < t.l.length) (fun t i => lab3 t.l i.toNat)
noncomputable def ctx_labelled3 : Ctx := ⟨tab, lkC [(77, con_many3), (78, con_Kids3), (79, con_IsWord1), (80, con_IsTag1)], 60, lkB [], []⟩
theorem ctx_labelled3_t : ctx_labelled3.τ = tab := rfl
theorem ctx_labelled3_c : ctx_labelled3.Γ = lkC [(77, con_many3), (78, con_Kids3), (79, con_IsWord1), (80, con_IsTag1)] := rfl
theorem ctx_labelled3_d : ctx_labelled3.dp = 60 := rfl
theorem ctx_labelled3_b : ctx_labelled3.Δ = lkB [] := rfl
theorem ctx_labelled3_u : ctx_labelled3.cuts = [] := rfl
set_option maxRecDepth 100000 in
theorem good_labelled3 : Good Try.prog (50, con_labelled3) := by
  refine ⟨enters_of Try.func50 (by kernel_rfl) rfl, ?_⟩
  have K : CtxOk Try.prog ctx_labelled3 := ctxOk_of tabOk mixedOk (by
    intro p hp
    simp only [List.mem_cons, List.not_mem_nil, or_false] at hp
    rcases hp with rfl | rfl | rfl | rfl
    · exact good_many3
    · exact good_Kids3
    · exact good_IsWord1
    · exact good_IsTag1) (by simp)
  obtain ⟨c, hc⟩ : ∃ c, Try.f50.body = some c := ⟨_, rfl⟩
  refine fn_sound K Try.func50 hc [.tmp 4] rfl 123 rfl (fun cvs hpre => ?_)
  change con_labelled3.pre cvs at hpre
  unfold con_labelled3 at hpre
  obtain ⟨⟨t⟩, i, rfl, hT, hN, hi0, hi1⟩ := con2_pre hpre
  simp only at hT hN hi0 hi1
  obtain ⟨i, rfl⟩ : ∃ n : Nat, i = n := ⟨i.toNat, by omega⟩
  have hil : i < t.length := by omega
  have hlen := hT.1
  obtain ⟨l, hl⟩ : ∃ l, kids3 t i = l := ⟨_, rfl⟩
  have hin : ∀ x ∈ l, (i : Int) < x ∧ x < t.length := by rw [← hl]; exact kids3_in
  have hll : l.length ≤ 100000 := by
    rw [← hl]
    unfold kids3
    split
    · simp
    · have h1 := kidsFrom_len t (many3 (t.getD (Int.toNat i) ⟨0, [], 0⟩)).toNat ((Int.toNat i) + 1)
      have h2 := (hT.2 (t.getD i ⟨0, [], 0⟩) (by simp [hil])).2
      simp only [Int.toNat_natCast] at h1 ⊢
      omega
  have hlab : lab3 t i = (((l.length : Int) == many3 (t.getD i n0)) && (List.range l.length).all fun k => labAt t i l k) := by
    unfold lab3
    rw [hl]
  simp only [Try.f50, Option.some.injEq] at hc
  subst hc
  refine awp_chk 7 (of_decide_eq_true (by kernel_rfl)) ?_
  have zz1 := el_enc n0 hil
  (sym =>
     simp [hl, zz1, Int.toNat_natCast, enc_Node, isE_Node, dec_Node, node_eta, szN, eqb_Node, ctx_labelled3_t, ctx_labelled3_c, ctx_labelled3_d, ctx_labelled3_b, ctx_labelled3_u, con_IsTag1.eq_def, con_IsWord1.eq_def, con_Kids3.eq_def, con_labelled3.eq_def, con_many3.eq_def, zaa, zab, zac, zad, zae, zaf, zag, zah, zai, zaj, zak, zal, zam, zan, zao, zap, zaq, zar, zas, zat, zau, zav, zaw, zax, zaz, zbh, zbm, zbn, zbo, zbp, zbq, zbr, zbs, zbt, zbu, zbx, zby, zbz, zca, zcb, zcc, zcd, zce, zcf, zco, zcp, zcr, zcs, zct, zcv, zcw, zcx, zdc, zde, zdf, zdg, zdh, zdi, zdu, zdv, zdw, zdx, zdy, zdz, zec, zed, zee, zef, zeg, zeh, zei, zej, zek, zel, zem, zen, zeq, zer, zes, zet, zeu, zev, zew, zex, zey, zez, zfa, zfb, zfc, zfd, zfe, zff, zfg, zfh, zfi, zfj, zfk, zfl, zfm, zfn, zfo, zfu, zfv, zfw, zfx, zfy, zfz, zga, zgb, zgc, zgd, zge, zgf, zgg, zgh, zgi, zgj, zgk, zgl, zgm, zgn, zgo, zgp, zgq, zgr, zgs, zgt, zgu, zgv, zgw, zgx, zgy, zgz, zha, zhb, zhc, zhd, zhe, zhf, zhg, zhh, zhi, zhj, zhk, zhn, zho, zhp, zhq, zhr, zhs, zht, zhu, zhv, zhw, zhx, zhy, zhz, zia, zib, zic, zid, zie, zif, zig, zih, zii, zij, zik, zil, zim, zin, zio, zip, ziq, zir, zis, zit, ziu, ziv, ziw, zix, ziy, ziz, zja, zjb, zjc, zjd, zje, zjf, zjg, zjh, zji, zjj, zjk, zjl, zjm, zjn, zjo, zjp, zjq, zjr, zjs, zjt, zju, zjv, zjw, zjx, zjy, zjz, zka, zkb, zkc, zkd, zke, zkf, zkg, zkh, zki, zkj, zkk, zkl, zkm, zkn, zko, zkp, zkq, zkr, zku, zkv, zkw, zkx, zky, zkz, zla, zlb, zlc, zld, zle, zlf, zlg, zlh, zli, zlj, zlk, zll, zlm, zln, zlo, zlp, zlq, zlr, zls, zlt, zlu, zlv, zlw, zlx, zly, zlz, zma, zmb, tab3, tab4, tab9, tab23, tab28, tab84]
     tactic =>
      try simp only [ncast] at *
      try simp only [Int.ofNat_eq_natCast] at *
      try simp (config := { maxSteps := 4000000 }) only [hl, zz1, Int.toNat_natCast, enc_Node, isE_Node, dec_Node, node_eta, szN, eqb_Node, con_IsTag1, con_IsWord1, con_Kids3, con_labelled3, con_many3, Int.ofNat_eq_natCast, con0, con1, con2, con3, con2t, con3t, symD0, symD1, symD2, symD3, symD4, Nat.reduceAdd, Nat.reduceSub, Nat.reduceMul, Nat.reduceMod, Nat.reduceLT, Nat.reduceLeDiff, Nat.reduceEqDiff, Nat.reduceBEq, Obj.isBox, D.setCell, D.asAgg, setAll, allFit, AV.fits, lk, upd, standAt, freeAt, backTo, packD, Nat.reduceDiv, reduceIte, reduceCtorEq, skIs, skAll, SK.is, aggL, eqbAll, D.eqb, Nat.reduceBNe]
      repeat' (first | with_reducible assumption | with_reducible refine And.intro ?_ ?_ | intro _ | omega | (rw [inR_i64]; omega))
      · rename_i hne
        rw [hlab]
        rw [show ((l.length : Int) == many3 (t.getD i n0)) = false by simpa using hne]
        rfl
      · rename_i heq
        have hlab' : lab3 t i = (List.range l.length).all fun k => labAt t i l k := by
          rw [hlab, show ((l.length : Int) == many3 (t.getD i n0)) = true by simpa using heq]
          rfl
        refine aLoop_kill [4, 7, 8, 9, 21, 22, 23, 24, 25, 26, 27, 28, 29, 30, 31, 32, 33, 34, 35, 36, 37, 38, 39, 40, 41, 42, 43, 44, 45, 46, 47, 48, 49, 50, 51, 52, 53, 54, 55, 56, 57, 58, 59, 60, 61, 62, 63, 64, 65, 66, 67, 68, 69, 70, 71, 72, 73, 74, 75, 76, 77, 78, 79, 80, 81, 82, 83, 84, 85, 86, 87, 88, 89, 90, 91, 92, 93, 94, 95, 96, 97, 98, 99, 100, 101, 102, 103, 104, 105, 106, 107, 108, 109, 110, 111, 112, 113, 114, 115, 116, 117, 118, 119, 120, 121, 122] (fun k : Nat => [(6, .d (.int .i64 k))]) (fun k : Nat => []) (fun k : Nat => k ≤ l.length ∧ ∀ j, j < k → labAt t i l j = true) (fun k : Nat => l.length - k) 0 ?_ ?_ ?_
        · simp
        · ((try simp only [atHead_mk, killAll, setSlots, updAll, upd, set_fl, setCs, putC, Nat.reduceDiv, Nat.reduceMod, Nat.reduceMul, Nat.reduceAdd, Nat.reduceEqDiff, List.set_cons_zero, List.set_cons_succ, if_true, if_false, reduceIte]); (first | refine Wk.of_fl ?_ | skip); simp only [Wk, wkK, wkCs, wkT, wk1, AV.kept, keptAll, wkO, lk, wkObj, and_true, true_and, and_self, Nat.reduceEqDiff, Nat.reduceLeDiff, if_true, if_false, reduceIte, reduceCtorEq, Option.isSome, false_implies]; try simp [Wk, wkK, wkT, wk1, AV.kept, keptAll, wkO, lk, wkObj])
        rintro k ⟨hk, hno⟩
        rcases ltB_cases k l.length with ⟨hlt, hlb⟩ | ⟨hlt, hlb⟩
        · have hki := hin (l.getD k 0) (by simp [hlt])
          have hkt : (l.getD k 0).toNat < t.length := by omega
          have hkn := hN (kidAt t l k) (by
            show t.getD _ n0 ∈ t
            rw [List.getD_eq_getElem?_getD, List.getElem?_eq_getElem hkt]
            exact List.getElem_mem hkt)
          have hyes : labAt t i l k = true → ∀ j, j < k + 1 → labAt t i l j = true := by
            intro h j hj
            by_cases hjk : j = k
            · subst hjk; exact h
            · exact hno j (by omega)
          have hbad : labAt t i l k = false → false = lab3 t i := by
            intro h
            rw [hlab', eq_comm, Bool.eq_false_iff]
            intro hc
            rw [List.all_eq_true] at hc
            have := hc k (List.mem_range.2 hlt)
            rw [h] at this
            cases this
          have ek : t.getD (l.getD k 0).toNat ⟨0, [], 0⟩ = kidAt t l k := rfl
          have hyes : labK (t.getD i n0) (kidAt t l k) (kidAt t l (k - 1)) (ltB 0 k) ((k : Int) == (l.length : Int) - 1) = true → ∀ j, j < k + 1 → labAt t i l j = true := hyes
          have hbad : labK (t.getD i n0) (kidAt t l k) (kidAt t l (k - 1)) (ltB 0 k) ((k : Int) == (l.length : Int) - 1) = false → false = lab3 t i := hbad
          have hprev : t.getD (l.getD (k - 1) 0).toNat ⟨0, [], 0⟩ = kidAt t l (k - 1) := rfl
          obtain ⟨x, hx⟩ : ∃ x, kidAt t l k = x := ⟨_, rfl⟩
          obtain ⟨prev, hp0⟩ : ∃ x, kidAt t l (k - 1) = x := ⟨_, rfl⟩
          obtain ⟨p, hp⟩ : ∃ x, t.getD i n0 = x := ⟨_, rfl⟩
          rw [hx, hp0, hp] at hyes hbad
          rw [hx] at hkn ek
          rw [hp0] at hprev
          have eip : t.getD i ⟨0, [], 0⟩ = p := hp
          have hk1 : k - 1 < l.length := by omega
          have hpi := hin (l.getD (k - 1) 0) (by simp [hk1])
          have hpt : (l.getD (k - 1) 0).toNat < t.length := by omega
          have em : ((k : Int) - 1).toNat = k - 1 := by omega
          have hc : ((p.kind == 6) = true ∧ (p.kind == 7) = false) ∨ ((p.kind == 6) = false ∧ (p.kind == 7) = true) ∨ ((p.kind == 6) = false ∧ (p.kind == 7) = false) := by
            simp only [beq_iff_eq, beq_eq_false_iff_ne, ne_eq]
            omega
          rcases hc with ⟨h6, h7⟩ | ⟨h6, h7⟩ | ⟨h6, h7⟩
          all_goals
            have zz2 := el_enc (0 : Int) hlt
            have zz3 := el_enc n0 hkt
            have zz4 := el_enc n0 hil
            have zz5 := el_enc (0 : Int) hk1
            have zz6 := el_enc n0 hpt
            (sym =>
               simp [hlb, eip, h6, h7, zz2, zz3, zz4, ek, em, zz5, zz6, hprev, enc_Node, isE_Node, dec_Node, node_eta, szN, eqb_Node, ctx_labelled3_t, ctx_labelled3_c, ctx_labelled3_d, ctx_labelled3_b, ctx_labelled3_u, con_IsTag1.eq_def, con_IsWord1.eq_def, con_Kids3.eq_def, con_labelled3.eq_def, con_many3.eq_def, zaa, zab, zac, zad, zae, zaf, zag, zah, zai, zaj, zak, zal, zam, zan, zao, zap, zaq, zar, zas, zat, zau, zav, zaw, zax, zaz, zbh, zbm, zbn, zbo, zbp, zbq, zbr, zbs, zbt, zbu, zbx, zby, zbz, zca, zcb, zcc, zcd, zce, zcf, zco, zcp, zcr, zcs, zct, zcv, zcw, zcx, zdc, zde, zdf, zdg, zdh, zdi, zdu, zdv, zdw, zdx, zdy, zdz, zec, zed, zee, zef, zeg, zeh, zei, zej, zek, zel, zem, zen, zeq, zer, zes, zet, zeu, zev, zew, zex, zey, zez, zfa, zfb, zfc, zfd, zfe, zff, zfg, zfh, zfi, zfj, zfk, zfl, zfm, zfn, zfo, zfu, zfv, zfw, zfx, zfy, zfz, zga, zgb, zgc, zgd, zge, zgf, zgg, zgh, zgi, zgj, zgk, zgl, zgm, zgn, zgo, zgp, zgq, zgr, zgs, zgt, zgu, zgv, zgw, zgx, zgy, zgz, zha, zhb, zhc, zhd, zhe, zhf, zhg, zhh, zhi, zhj, zhk, zhn, zho, zhp, zhq, zhr, zhs, zht, zhu, zhv, zhw, zhx, zhy, zhz, zia, zib, zic, zid, zie, zif, zig, zih, zii, zij, zik, zil, zim, zin, zio, zip, ziq, zir, zis, zit, ziu, ziv, ziw, zix, ziy, ziz, zja, zjb, zjc, zjd, zje, zjf, zjg, zjh, zji, zjj, zjk, zjl, zjm, zjn, zjo, zjp, zjq, zjr, zjs, zjt, zju, zjv, zjw, zjx, zjy, zjz, zka, zkb, zkc, zkd, zke, zkf, zkg, zkh, zki, zkj, zkk, zkl, zkm, zkn, zko, zkp, zkq, zkr, zku, zkv, zkw, zkx, zky, zkz, zla, zlb, zlc, zld, zle, zlf, zlg, zlh, zli, zlj, zlk, zll, zlm, zln, zlo, zlp, zlq, zlr, zls, zlt, zlu, zlv, zlw, zlx, zly, zlz, zma, zmb, tab3, tab4, tab9, tab23, tab28, tab84]
               tactic =>
                try simp only [ncast] at *
                try simp only [Int.ofNat_eq_natCast] at *
                try simp (config := { maxSteps := 4000000 }) only [hlb, eip, h6, h7, zz2, zz3, zz4, ek, em, zz5, zz6, hprev, enc_Node, isE_Node, dec_Node, node_eta, szN, eqb_Node, con_IsTag1, con_IsWord1, con_Kids3, con_labelled3, con_many3, Int.ofNat_eq_natCast, con0, con1, con2, con3, con2t, con3t, symD0, symD1, symD2, symD3, symD4, Nat.reduceAdd, Nat.reduceSub, Nat.reduceMul, Nat.reduceMod, Nat.reduceLT, Nat.reduceLeDiff, Nat.reduceEqDiff, Nat.reduceBEq, Obj.isBox, D.setCell, D.asAgg, setAll, allFit, AV.fits, lk, upd, standAt, freeAt, backTo, packD, Nat.reduceDiv, reduceIte, reduceCtorEq, skIs, skAll, SK.is, aggL, eqbAll, D.eqb, Nat.reduceBNe]
                repeat' (first | with_reducible assumption | with_reducible refine And.intro ?_ ?_ | intro _ | omega | (rw [inR_i64]; omega))
                all_goals first
                  | (with_reducible refine okD_id ?_; kernel_rfl)
                  | exact hbad (by clear hyes hbad heq hlab hlab' hno; simp_all [labK, isRow3, ltB])
                  | exact ⟨k + 1, by ((try simp only [atHead_mk, killAll, setSlots, updAll, upd, set_fl, setCs, putC, Nat.reduceDiv, Nat.reduceMod, Nat.reduceMul, Nat.reduceAdd, Nat.reduceEqDiff, List.set_cons_zero, List.set_cons_succ, if_true, if_false, reduceIte]); (first | refine Wk.of_fl ?_ | skip); simp only [Wk, wkK, wkCs, wkT, wk1, AV.kept, keptAll, wkO, lk, wkObj, and_true, true_and, and_self, Nat.reduceEqDiff, Nat.reduceLeDiff, if_true, if_false, reduceIte, reduceCtorEq, Option.isSome, false_implies]; try simp [Wk, wkK, wkT, wk1, AV.kept, keptAll, wkO, lk, wkObj]), by omega, hyes (by clear hyes hbad heq hlab hlab' hno; simp_all [labK, isRow3, ltB]), by omega⟩)
        · (sym =>
             simp [hlb, enc_Node, isE_Node, dec_Node, node_eta, szN, eqb_Node, ctx_labelled3_t, ctx_labelled3_c, ctx_labelled3_d, ctx_labelled3_b, ctx_labelled3_u, con_IsTag1.eq_def, con_IsWord1.eq_def, con_Kids3.eq_def, con_labelled3.eq_def, con_many3.eq_def, zaa, zab, zac, zad, zae, zaf, zag, zah, zai, zaj, zak, zal, zam, zan, zao, zap, zaq, zar, zas, zat, zau, zav, zaw, zax, zaz, zbh, zbm, zbn, zbo, zbp, zbq, zbr, zbs, zbt, zbu, zbx, zby, zbz, zca, zcb, zcc, zcd, zce, zcf, zco, zcp, zcr, zcs, zct, zcv, zcw, zcx, zdc, zde, zdf, zdg, zdh, zdi, zdu, zdv, zdw, zdx, zdy, zdz, zec, zed, zee, zef, zeg, zeh, zei, zej, zek, zel, zem, zen, zeq, zer, zes, zet, zeu, zev, zew, zex, zey, zez, zfa, zfb, zfc, zfd, zfe, zff, zfg, zfh, zfi, zfj, zfk, zfl, zfm, zfn, zfo, zfu, zfv, zfw, zfx, zfy, zfz, zga, zgb, zgc, zgd, zge, zgf, zgg, zgh, zgi, zgj, zgk, zgl, zgm, zgn, zgo, zgp, zgq, zgr, zgs, zgt, zgu, zgv, zgw, zgx, zgy, zgz, zha, zhb, zhc, zhd, zhe, zhf, zhg, zhh, zhi, zhj, zhk, zhn, zho, zhp, zhq, zhr, zhs, zht, zhu, zhv, zhw, zhx, zhy, zhz, zia, zib, zic, zid, zie, zif, zig, zih, zii, zij, zik, zil, zim, zin, zio, zip, ziq, zir, zis, zit, ziu, ziv, ziw, zix, ziy, ziz, zja, zjb, zjc, zjd, zje, zjf, zjg, zjh, zji, zjj, zjk, zjl, zjm, zjn, zjo, zjp, zjq, zjr, zjs, zjt, zju, zjv, zjw, zjx, zjy, zjz, zka, zkb, zkc, zkd, zke, zkf, zkg, zkh, zki, zkj, zkk, zkl, zkm, zkn, zko, zkp, zkq, zkr, zku, zkv, zkw, zkx, zky, zkz, zla, zlb, zlc, zld, zle, zlf, zlg, zlh, zli, zlj, zlk, zll, zlm, zln, zlo, zlp, zlq, zlr, zls, zlt, zlu, zlv, zlw, zlx, zly, zlz, zma, zmb, tab3, tab4, tab9, tab23, tab28, tab84]
             tactic =>
              try simp only [ncast] at *
              try simp only [Int.ofNat_eq_natCast] at *
              try simp (config := { maxSteps := 4000000 }) only [hlb, enc_Node, isE_Node, dec_Node, node_eta, szN, eqb_Node, con_IsTag1, con_IsWord1, con_Kids3, con_labelled3, con_many3, Int.ofNat_eq_natCast, con0, con1, con2, con3, con2t, con3t, symD0, symD1, symD2, symD3, symD4, Nat.reduceAdd, Nat.reduceSub, Nat.reduceMul, Nat.reduceMod, Nat.reduceLT, Nat.reduceLeDiff, Nat.reduceEqDiff, Nat.reduceBEq, Obj.isBox, D.setCell, D.asAgg, setAll, allFit, AV.fits, lk, upd, standAt, freeAt, backTo, packD, Nat.reduceDiv, reduceIte, reduceCtorEq, skIs, skAll, SK.is, aggL, eqbAll, D.eqb, Nat.reduceBNe]
              rw [hlab', eq_comm, List.all_eq_true]
              intro j hj
              exact hno j (by have := List.mem_range.1 hj; omega)))

end Go.Am.Ty
