/- Contracts of functions that the laws reach, and plain laws. Conditions: those that each contract states. -/
import Derived.Test.YtecgdmiigdfgdaaTyT12
import Derived.Test.YtecgdmiigdfgdaaTyP2
set_option linter.unusedSimpArgs false
set_option linter.unusedVariables false
set_option maxHeartbeats 1000000
namespace Go.Am.Ty
open Go.Proofs Go.Rose Go.Rose.Rose
open Enc (enc dec)

/-! ### ORDER -/
/-- What is known of a slice that came in. -/
def In (t : List Node) : Prop := t.length ≤ 9223372036854775807 ∧ Named t
def con_PrecOrder : Con := con3 (fun (a b c : Sl Node) => In a.l ∧ In b.l ∧ In c.l) (fun _ _ _ => true)
theorem plain07_3 {a b c : List Node} : plain07 [⟨a⟩, ⟨b⟩, ⟨c⟩] = (plain7 a 60 && (plain7 b 60 && plain7 c 60)) := by
  unfold plain07
  simp [List.all_cons]
theorem el_map0 {l : List Node} (h : 0 < l.length) : el (l.map (enc : Node → D)) 0 = enc (l.getD 0 n0) := el_enc n0 h
noncomputable def ctx_PrecOrder : Ctx := ⟨tab, lkC [(14, con_plain07), (15, con_alive07), (16, con_BelowP), (17, con_Same3)], 60, lkB [], []⟩
theorem ctx_PrecOrder_t : ctx_PrecOrder.τ = tab := rfl
theorem ctx_PrecOrder_c : ctx_PrecOrder.Γ = lkC [(14, con_plain07), (15, con_alive07), (16, con_BelowP), (17, con_Same3)] := rfl
theorem ctx_PrecOrder_d : ctx_PrecOrder.dp = 60 := rfl
theorem ctx_PrecOrder_b : ctx_PrecOrder.Δ = lkB [] := rfl
theorem ctx_PrecOrder_u : ctx_PrecOrder.cuts = [] := rfl
set_option maxRecDepth 100000 in
theorem good_PrecOrder : Good Try.prog (3, con_PrecOrder) := by
  refine ⟨enters_of Try.func3 (by kernel_rfl) rfl, ?_⟩
  have K : CtxOk Try.prog ctx_PrecOrder := ctxOk_of tabOk mixedOk (by
    intro p hp
    simp only [List.mem_cons, List.not_mem_nil, or_false] at hp
    rcases hp with rfl | rfl | rfl | rfl
    · exact good_plain07
    · exact good_alive07
    · exact good_BelowP
    · exact good_Same3) (by simp)
  obtain ⟨c, hc⟩ : ∃ c, Try.f3.body = some c := ⟨_, rfl⟩
  refine fn_sound K Try.func3 hc [.tmp 6] rfl 71 rfl (fun cvs hpre => ?_)
  change con_PrecOrder.pre cvs at hpre
  unfold con_PrecOrder at hpre
  obtain ⟨⟨a⟩, ⟨b⟩, ⟨e⟩, rfl, hIa, hIb, hIe⟩ := con3_pre hpre
  obtain ⟨ha, hA⟩ : In a := hIa
  obtain ⟨hb, hB⟩ : In b := hIb
  obtain ⟨he, hE⟩ : In e := hIe
  simp only [Try.f3, Option.some.injEq] at hc
  subst hc
  refine awp_chk 4 (of_decide_eq_true (by kernel_rfl)) ?_
  cases hp : plain07 [⟨a⟩, ⟨b⟩, ⟨e⟩] with
  | false =>
    (sym =>
       simp [hp, enc_Node, isE_Node, dec_Node, node_eta, szN, eqb_Node, ctx_PrecOrder_t, ctx_PrecOrder_c, ctx_PrecOrder_d, ctx_PrecOrder_b, ctx_PrecOrder_u, con_BelowP.eq_def, con_PrecOrder.eq_def, con_Same3.eq_def, con_alive07.eq_def, con_plain07.eq_def, zaa, zab, zac, zad, zae, zaf, zag, zah, zai, zaj, zak, zal, zam, zan, zao, zap, zaq, zar, zas, zat, zav, zax, zaz, zbc, zbd, zbm, zbn, zbo, zbp, zbq, zbr, zbs, zbt, zbu, zby, zbz, zca, zcb, zcc, zcd, zce, zcf, zco, zcp, zcr, zcs, zct, zcu, zcv, zcw, zcx, zcy, zcz, zda, zdb, zdc, zdd, zde, zdf, zdg, zdh, zdi, zdu, zdv, zdw, zec, zed, zee, zef, zeg, zeh, zei, zej, zek, zel, zem, zen, zeo, zep, zeq, zer, zes, zet, zeu, zev, zew, zex, zey, zez, zfa, zfb, zfc, zfd, zfe, zff, zfh, zfi, zfj, zfk, zfl, zfm, zfn, zfo, zfu, zfv, zfw, zfx, zfy, zfz, zga, zgc, zgd, zge, zgf, zgg, zgh, zgi, zgj, zgk, zgl, zgm, zgn, zgo, zgp, zgq, zgr, zgs, zgt, zgu, zgv, zgw, zgx, zgy, zgz, zha, zhb, zhc, zhd, zhe, zhf, zhg, zhh, zhi, zhj, zhk, zhn, zho, zhp, zhr, zhs, zht, zhu, zhv, zhw, zhx, zhy, zhz, zia, zib, zic, zid, zie, zif, zig, zih, zii, zij, zik, zil, zim, zin, zio, zip, ziq, zir, zis, zit, ziu, ziv, ziw, zix, ziy, ziz, zja, zjb, zjc, zjd, zje, zjf, zjg, zjh, zji, zjj, zjk, zjl, zjm, zjn, zjo, zjp, zjq, zjr, zjs, zjt, zju, zjv, zjw, zjx, zjy, zjz, zka, zkb, zkc, zkd, zke, zkf, zkg, zkh, zki, zkj, zkk, zkq, zkr, zks, zkt, zku, zkv, zkw, zkx, zky, zkz, zla, zlb, zlc, zld, zle, zlf, zlg, zlh, zli, zlj, zlk, zll, zlm, zln, zlo, zlp, zlq, zlr, zls, zlt, zlu, zlv, zlw, zlx, zly, zlz, zma, zmb, tab3, tab4, tab23, tab28, tab55]
       tactic =>
        try simp only [ncast] at *
        try simp only [Int.ofNat_eq_natCast] at *
        try simp (config := { maxSteps := 4000000 }) only [hp, enc_Node, isE_Node, dec_Node, node_eta, szN, eqb_Node, con_BelowP, con_PrecOrder, con_Same3, con_alive07, con_plain07, Int.ofNat_eq_natCast, con0, con1, con2, con3, con2t, con3t, symD0, symD1, symD2, symD3, symD4, Nat.reduceAdd, Nat.reduceSub, Nat.reduceMul, Nat.reduceMod, Nat.reduceLT, Nat.reduceLeDiff, Nat.reduceEqDiff, Nat.reduceBEq, Obj.isBox, D.setCell, D.asAgg, setAll, allFit, AV.fits, lk, upd, standAt, freeAt, backTo, packD, Nat.reduceDiv, reduceIte, reduceCtorEq, skIs, skAll, SK.is, aggL, eqbAll, D.eqb, Nat.reduceBNe]
        repeat' (first | with_reducible assumption | with_reducible refine And.intro ?_ ?_ | intro _ | omega | (rw [inR_i64]; omega)))
  | true =>
    have hp' := hp
    rw [plain07_3] at hp'
    simp only [Bool.and_eq_true] at hp'
    obtain ⟨pa, pb, pc⟩ := hp'
    obtain ⟨la, na, -, x, rfl, hx⟩ := plain7_rt pa
    obtain ⟨lb, nb, -, y, rfl, hy⟩ := plain7_rt pb
    obtain ⟨lc, nc, -, z, rfl, hz⟩ := plain7_rt pc
    have tx := tree_of_rt hx
    have ty := tree_of_rt hy
    have tz := tree_of_rt hz
    have td : treeAt ar [nB 0] 0 = mk (nB 0) [] := treeAt_eq (at_dyn rfl)
    have oa : One (nds x) := ⟨x, at_whole hx.wf⟩
    have ob : One (nds y) := ⟨y, at_whole hy.wf⟩
    have oc : One (nds z) := ⟨z, at_whole hz.wf⟩
    have od : One [nB 0] := ⟨_, at_dyn rfl⟩
    have h1 : belowT (nds x) (nds x) = true := by unfold belowT; rw [tx]; exact ov_refl _ _
    have h2 : belowT (nds x) [nB 0] = true := by
      unfold belowT
      rw [tx, td]
      obtain ⟨n, ks⟩ := x
      rw [ov_mk]
      simp [root, askB]
    have hlx : 0 < (nds x).length := nds_pos x
    have hroot : (nds x).getD 0 n0 = x.root := (at_whole hx.wf).root n0
    have h3 : belowT [nB 0] (nds x) = (x.root.kind == 0) := by
      unfold belowT
      rw [tx, td, ov_mk]
      simp [root, askB]
    have h4 : (belowT (nds x) (nds y) && belowT (nds y) (nds x)) = same3 (nds x) (nds y) := by
      unfold belowT
      rw [tx, ty]
      exact order_same hx.wf hy.wf (by rw [hx.name, hy.name])
    have h5 : belowT (nds x) (nds y) = true → belowT (nds y) (nds z) = true → belowT (nds x) (nds z) = true := by
      unfold belowT
      rw [tx, ty, tz]
      exact ov_trans
    have zz1 := el_map0 hlx
    (sym =>
       simp [hp, h1, h2, h3, zz1, hroot, enc_Node, isE_Node, dec_Node, node_eta, szN, eqb_Node, ctx_PrecOrder_t, ctx_PrecOrder_c, ctx_PrecOrder_d, ctx_PrecOrder_b, ctx_PrecOrder_u, con_BelowP.eq_def, con_PrecOrder.eq_def, con_Same3.eq_def, con_alive07.eq_def, con_plain07.eq_def, zaa, zab, zac, zad, zae, zaf, zag, zah, zai, zaj, zak, zal, zam, zan, zao, zap, zaq, zar, zas, zat, zav, zax, zaz, zbc, zbd, zbm, zbn, zbo, zbp, zbq, zbr, zbs, zbt, zbu, zby, zbz, zca, zcb, zcc, zcd, zce, zcf, zco, zcp, zcr, zcs, zct, zcu, zcv, zcw, zcx, zcy, zcz, zda, zdb, zdc, zdd, zde, zdf, zdg, zdh, zdi, zdu, zdv, zdw, zec, zed, zee, zef, zeg, zeh, zei, zej, zek, zel, zem, zen, zeo, zep, zeq, zer, zes, zet, zeu, zev, zew, zex, zey, zez, zfa, zfb, zfc, zfd, zfe, zff, zfh, zfi, zfj, zfk, zfl, zfm, zfn, zfo, zfu, zfv, zfw, zfx, zfy, zfz, zga, zgc, zgd, zge, zgf, zgg, zgh, zgi, zgj, zgk, zgl, zgm, zgn, zgo, zgp, zgq, zgr, zgs, zgt, zgu, zgv, zgw, zgx, zgy, zgz, zha, zhb, zhc, zhd, zhe, zhf, zhg, zhh, zhi, zhj, zhk, zhn, zho, zhp, zhr, zhs, zht, zhu, zhv, zhw, zhx, zhy, zhz, zia, zib, zic, zid, zie, zif, zig, zih, zii, zij, zik, zil, zim, zin, zio, zip, ziq, zir, zis, zit, ziu, ziv, ziw, zix, ziy, ziz, zja, zjb, zjc, zjd, zje, zjf, zjg, zjh, zji, zjj, zjk, zjl, zjm, zjn, zjo, zjp, zjq, zjr, zjs, zjt, zju, zjv, zjw, zjx, zjy, zjz, zka, zkb, zkc, zkd, zke, zkf, zkg, zkh, zki, zkj, zkk, zkq, zkr, zks, zkt, zku, zkv, zkw, zkx, zky, zkz, zla, zlb, zlc, zld, zle, zlf, zlg, zlh, zli, zlj, zlk, zll, zlm, zln, zlo, zlp, zlq, zlr, zls, zlt, zlu, zlv, zlw, zlx, zly, zlz, zma, zmb, tab3, tab4, tab23, tab28, tab55]
       tactic =>
        try simp only [ncast] at *
        try simp only [Int.ofNat_eq_natCast] at *
        try simp (config := { maxSteps := 4000000 }) only [hp, h1, h2, h3, zz1, hroot, enc_Node, isE_Node, dec_Node, node_eta, szN, eqb_Node, con_BelowP, con_PrecOrder, con_Same3, con_alive07, con_plain07, Int.ofNat_eq_natCast, con0, con1, con2, con3, con2t, con3t, symD0, symD1, symD2, symD3, symD4, Nat.reduceAdd, Nat.reduceSub, Nat.reduceMul, Nat.reduceMod, Nat.reduceLT, Nat.reduceLeDiff, Nat.reduceEqDiff, Nat.reduceBEq, Obj.isBox, D.setCell, D.asAgg, setAll, allFit, AV.fits, lk, upd, standAt, freeAt, backTo, packD, Nat.reduceDiv, reduceIte, reduceCtorEq, skIs, skAll, SK.is, aggL, eqbAll, D.eqb, Nat.reduceBNe]
        repeat' (first | with_reducible assumption | with_reducible refine And.intro ?_ ?_ | intro _ | omega | (rw [inR_i64]; omega))
        all_goals first
          | (with_reducible refine okD_id ?_; kernel_rfl)
          | exact h5 (by assumption) (by assumption)
          | (clear hpre K; revert h4; simp_all))

end Go.Am.Ty
