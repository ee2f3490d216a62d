/- Contracts of functions that the laws reach, and plain laws. Conditions: those that each contract states. -/
import Derived.Test.YtecgdmiigdfgdaaTyT10
set_option linter.unusedSimpArgs false
set_option linter.unusedVariables false
set_option maxHeartbeats 1000000
namespace Go.Am.Ty
open Go.Proofs Go.Rose Go.Rose.Rose
open Enc (enc dec)

noncomputable def bcon_overA : BCon := bcon_over 1000001
theorem goodb_overA : GoodB Try.prog (43, bcon_overA) := goodbn_over _
theorem overA_post {a b : List Node} {s : MS} {i k : Nat} : bcon_overA.post ⟨a, b, s, i, k⟩ = boxed a b (mv a b (treeAt ar a i) (treeAt ar b k) i k s).2 := rfl
theorem overA_res {a b : List Node} {s : MS} {i k : Nat} : bcon_overA.res ⟨a, b, s, i, k⟩ = tripD (overR false (treeAt ar a i) (treeAt ar b k) i k) := rfl
/-- What both say; nothing, and an error, where they do not agree. -/
noncomputable def meetR (a b : List Node) : Bool × MS := mv a b (treeAt ar a 0) (treeAt ar b 0) 0 0 ⟨none, 0⟩
noncomputable def meetT (a b : List Node) : Sl Node × Int := cond (meetR a b).1 (⟨(meetR a b).2.out.getD [] ++ a.drop (meetR a b).2.done⟩, 0) (⟨[]⟩, 9)
noncomputable def con_MeetP : Con := con2t (fun (a b : Sl Node) => a.l.length ≤ 1000000 ∧ b.l.length ≤ 1000000 ∧ One a.l ∧ One b.l) (fun a b => meetT a.l b.l)
noncomputable def ctx_MeetP : Ctx := ⟨tab, lkC [], 60, lkB [(43, bcon_overA)], []⟩
theorem ctx_MeetP_t : ctx_MeetP.τ = tab := rfl
theorem ctx_MeetP_c : ctx_MeetP.Γ = lkC [] := rfl
theorem ctx_MeetP_d : ctx_MeetP.dp = 60 := rfl
theorem ctx_MeetP_b : ctx_MeetP.Δ = lkB [(43, bcon_overA)] := rfl
theorem ctx_MeetP_u : ctx_MeetP.cuts = [] := rfl
set_option maxRecDepth 100000 in
theorem good_MeetP : Good Try.prog (18, con_MeetP) := by
  refine ⟨enters_of Try.func18 (by kernel_rfl) rfl, ?_⟩
  have K : CtxOk Try.prog ctx_MeetP := ctxOk_of tabOk mixedOk (by simp) (by
    intro p hp
    simp only [List.mem_cons, List.not_mem_nil, or_false] at hp
    rcases hp with rfl
    · exact goodb_overA)
  obtain ⟨c, hc⟩ : ∃ c, Try.f18.body = some c := ⟨_, rfl⟩
  refine fn_sound K Try.func18 hc [.tmp 4, .tmp 5] rfl 30 rfl (fun cvs hpre => ?_)
  change con_MeetP.pre cvs at hpre
  unfold con_MeetP at hpre
  obtain ⟨⟨a⟩, ⟨b⟩, rfl, ha, hb, ⟨x, hx⟩, ⟨y, hy⟩⟩ := con2t_pre hpre
  simp only at ha hb hx hy
  have htx : treeAt ar a 0 = x := treeAt_eq hx
  have hty : treeAt ar b 0 = y := treeAt_eq hy
  have hxl := hx.le
  have hyl := hy.le
  obtain ⟨r, hr⟩ : ∃ r, mv a b x y 0 0 ⟨none, 0⟩ = r := ⟨_, rfl⟩
  have hmr : meetR a b = r := by unfold meetR; rw [htx, hty, hr]
  have hmo := mv_ok (s := ⟨none, 0⟩) hx hy (Nat.le_refl _) (by simp)
  have hov := mv_ov a b x y 0 0 ⟨none, 0⟩
  rw [hr] at hmo hov
  obtain ⟨r, ⟨o, d⟩⟩ := r
  have hd := hmo.done
  have hl := hmo.len
  simp only [Nat.zero_add] at hd hl hov hxl hyl
  have hrec : ∃ z w, At ar a 0 z ∧ At ar b 0 w ∧ (nds z).length < 1000001 := ⟨x, y, hx, hy, by omega⟩
  have hmt : meetT a b = cond r (⟨o.getD [] ++ a.drop d⟩, 0) (⟨[]⟩, 9) := by unfold meetT; rw [hmr]
  simp only [Try.f18, Option.some.injEq] at hc
  subst hc
  (sym =>
     simp [dec_PairB, isE_PairB, dec_PL, isE_PL, PL_l, con3q_d, enc_Pair, Pair_a, Pair_b, Pair_c, dynOf_t, dynOf_f, dec_PairT, dec_PairF, isE_PairT, isE_PairF, enc_Node, isE_Node, dec_Node, node_eta, szN, eqb_Node, enc_SlN, ctx_MeetP_t, ctx_MeetP_c, ctx_MeetP_d, ctx_MeetP_b, ctx_MeetP_u, con_MeetP.eq_def, zaa, zab, zac, zae, zaf, zag, zah, zai, zaj, zak, zal, zam, zan, zao, zap, zaq, zar, zas, zau, zav, zaw, zax, zbb, zbd, zbf, zbg, zbl, zbm, zbn, zbo, zbp, zbq, zbr, zbs, zbt, zbu, zbv, zbw, zbx, zby, zbz, zca, zcb, zcc, zcd, zce, zcf, zcg, zch, zci, zcj, zck, zco, zcp, zcq, zcr, zcs, zct, zcu, zcv, zcw, zcx, zdc, zdd, zde, zdf, zdg, zdh, zdi, zdj, zdk, zdl, zdm, zdn, zdo, zdq, zdr, zds, zdt, zdv, zdw, zea, zeb, zec, zed, zeq, zer, zes, zet, zeu, zev, zew, zex, zey, zez, zfa, zfb, zfc, zff, zfg, zfh, zfi, zfj, zfk, zfl, zfm, zfn, zfo, zfu, zfv, zfw, zfx, zfy, zfz, zga, zgc, zgd, zge, zgf, zgg, zgh, zgi, zgj, zgk, zgl, zgm, zgn, zgo, zgp, zgq, zgr, zgs, zgt, zgu, zgv, zgw, zgx, zgy, zgz, zha, zhb, zhc, zhd, zhe, zhf, zhg, zhh, zhi, zhj, zhk, zhl, zhm, zhr, zhs, zht, zhu, zhv, zhw, zhx, zhy, zhz, zia, zib, zic, zid, zie, zif, zig, zih, zii, zij, zik, zil, zim, zin, zio, zip, ziq, zir, zis, zit, ziu, ziv, ziw, zix, ziy, ziz, zja, zjb, zjc, zjd, zje, zjf, zjg, zjh, zji, zjj, zjk, zjl, zjm, zjn, zjo, zjp, zjq, zjr, zjs, zjt, zju, zjv, zjw, zjx, zjy, zjz, zka, zkb, zkc, zkd, zke, zkf, zkg, zkh, zki, zkj, zkk, zkl, zkm, zkn, zko, zkp, zkq, zkr, zku, zkv, zkw, zkx, zky, zkz, zla, zlb, zlc, zld, zle, zlf, zlg, zlh, zli, zlj, zlk, zll, zlm, zln, zlo, zlp, zlq, zlr, zls, zlt, zlu, zlv, zlw, zlx, zly, zlz, zma, zmb, tab3, tab4, tab23, tab28, tab57, tab59]
     tactic =>
      try simp only [ncast] at *
      try simp only [Int.ofNat_eq_natCast] at *
      try simp (config := { maxSteps := 4000000 }) only [dec_PairB, isE_PairB, dec_PL, isE_PL, PL_l, con3q_d, enc_Pair, Pair_a, Pair_b, Pair_c, dynOf_t, dynOf_f, dec_PairT, dec_PairF, isE_PairT, isE_PairF, enc_Node, isE_Node, dec_Node, node_eta, szN, eqb_Node, enc_SlN, con_MeetP, Int.ofNat_eq_natCast, con0, con1, con2, con3, con2t, con3t, symD0, symD1, symD2, symD3, symD4, Nat.reduceAdd, Nat.reduceSub, Nat.reduceMul, Nat.reduceMod, Nat.reduceLT, Nat.reduceLeDiff, Nat.reduceEqDiff, Nat.reduceBEq, Obj.isBox, D.setCell, D.asAgg, setAll, allFit, AV.fits, lk, upd, standAt, freeAt, backTo, packD, Nat.reduceDiv, reduceIte, reduceCtorEq, skIs, skAll, SK.is, aggL, eqbAll, D.eqb, Nat.reduceBNe]
      have hrz : overR false x y 0 0 = overR false x y ((0 : Nat) : Int) ((0 : Nat) : Int) := rfl
      cases o with
      | none =>
        have hp2 : bcon_overA.post ⟨a, b, ⟨none, 0⟩, 0, 0⟩ = boxed a b ⟨none, d⟩ := by rw [overA_post, htx, hty, hr]
        refine aCallB_of (bc := bcon_overA) ⟨a, b, ⟨none, 0⟩, 0, 0⟩ [6, 2, 7, 3] ⟨ha, hb, hrec, Nat.le_refl _, by simp⟩ rfl (by simp) (by rw [hp2]; rfl) ?_ ?_ ?_
        · show standAt _ _ (boxed a b ⟨none, 0⟩) _
          simp only [boxed_n]
          simp [standAt, lk, rnO, rnA, rnAs, rk]
        · show freeAt (List.drop (boxed a b ⟨none, 0⟩).length _) _
          simp only [boxed_n]
          simp [freeAt, lk]
        simp only [Option.getD_none, Option.getD_some, List.nil_append] at hmt hl
        cases r with
        | false =>
          have h22 : (overR false x y 0 0).2.2 = false := by rw [overR_ok, ← hov]
          rw [cond_false] at hmt
          (sym =>
             simp [hp2, overA_res, boxed_n, htx, hty, h22, hmt, enc_SlN, tripD.eq_def, dec_PairB, isE_PairB, dec_PL, isE_PL, PL_l, con3q_d, enc_Pair, Pair_a, Pair_b, Pair_c, dynOf_t, dynOf_f, dec_PairT, dec_PairF, isE_PairT, isE_PairF, enc_Node, isE_Node, dec_Node, node_eta, szN, eqb_Node, ctx_MeetP_t, ctx_MeetP_c, ctx_MeetP_d, ctx_MeetP_b, ctx_MeetP_u, con_MeetP.eq_def, zaa, zab, zac, zae, zaf, zag, zah, zai, zaj, zak, zal, zam, zan, zao, zap, zaq, zar, zas, zau, zav, zaw, zax, zbb, zbd, zbf, zbg, zbl, zbm, zbn, zbo, zbp, zbq, zbr, zbs, zbt, zbu, zbv, zbw, zbx, zby, zbz, zca, zcb, zcc, zcd, zce, zcf, zcg, zch, zci, zcj, zck, zco, zcp, zcq, zcr, zcs, zct, zcu, zcv, zcw, zcx, zdc, zdd, zde, zdf, zdg, zdh, zdi, zdj, zdk, zdl, zdm, zdn, zdo, zdq, zdr, zds, zdt, zdv, zdw, zea, zeb, zec, zed, zeq, zer, zes, zet, zeu, zev, zew, zex, zey, zez, zfa, zfb, zfc, zff, zfg, zfh, zfi, zfj, zfk, zfl, zfm, zfn, zfo, zfu, zfv, zfw, zfx, zfy, zfz, zga, zgc, zgd, zge, zgf, zgg, zgh, zgi, zgj, zgk, zgl, zgm, zgn, zgo, zgp, zgq, zgr, zgs, zgt, zgu, zgv, zgw, zgx, zgy, zgz, zha, zhb, zhc, zhd, zhe, zhf, zhg, zhh, zhi, zhj, zhk, zhl, zhm, zhr, zhs, zht, zhu, zhv, zhw, zhx, zhy, zhz, zia, zib, zic, zid, zie, zif, zig, zih, zii, zij, zik, zil, zim, zin, zio, zip, ziq, zir, zis, zit, ziu, ziv, ziw, zix, ziy, ziz, zja, zjb, zjc, zjd, zje, zjf, zjg, zjh, zji, zjj, zjk, zjl, zjm, zjn, zjo, zjp, zjq, zjr, zjs, zjt, zju, zjv, zjw, zjx, zjy, zjz, zka, zkb, zkc, zkd, zke, zkf, zkg, zkh, zki, zkj, zkk, zkl, zkm, zkn, zko, zkp, zkq, zkr, zku, zkv, zkw, zkx, zky, zkz, zla, zlb, zlc, zld, zle, zlf, zlg, zlh, zli, zlj, zlk, zll, zlm, zln, zlo, zlp, zlq, zlr, zls, zlt, zlu, zlv, zlw, zlx, zly, zlz, zma, zmb, tab3, tab4, tab23, tab28, tab57, tab59])
        | true =>
          have h22 : (overR false x y 0 0).2.2 = true := by rw [overR_ok, ← hov]
          rw [cond_true] at hmt
          (sym =>
             simp [hp2, overA_res, boxed_n, htx, hty, h22, hmt, enc_SlN, tripD.eq_def, dec_PairB, isE_PairB, dec_PL, isE_PL, PL_l, con3q_d, enc_Pair, Pair_a, Pair_b, Pair_c, dynOf_t, dynOf_f, dec_PairT, dec_PairF, isE_PairT, isE_PairF, enc_Node, isE_Node, dec_Node, node_eta, szN, eqb_Node, ctx_MeetP_t, ctx_MeetP_c, ctx_MeetP_d, ctx_MeetP_b, ctx_MeetP_u, con_MeetP.eq_def, zaa, zab, zac, zae, zaf, zag, zah, zai, zaj, zak, zal, zam, zan, zao, zap, zaq, zar, zas, zau, zav, zaw, zax, zbb, zbd, zbf, zbg, zbl, zbm, zbn, zbo, zbp, zbq, zbr, zbs, zbt, zbu, zbv, zbw, zbx, zby, zbz, zca, zcb, zcc, zcd, zce, zcf, zcg, zch, zci, zcj, zck, zco, zcp, zcq, zcr, zcs, zct, zcu, zcv, zcw, zcx, zdc, zdd, zde, zdf, zdg, zdh, zdi, zdj, zdk, zdl, zdm, zdn, zdo, zdq, zdr, zds, zdt, zdv, zdw, zea, zeb, zec, zed, zeq, zer, zes, zet, zeu, zev, zew, zex, zey, zez, zfa, zfb, zfc, zff, zfg, zfh, zfi, zfj, zfk, zfl, zfm, zfn, zfo, zfu, zfv, zfw, zfx, zfy, zfz, zga, zgc, zgd, zge, zgf, zgg, zgh, zgi, zgj, zgk, zgl, zgm, zgn, zgo, zgp, zgq, zgr, zgs, zgt, zgu, zgv, zgw, zgx, zgy, zgz, zha, zhb, zhc, zhd, zhe, zhf, zhg, zhh, zhi, zhj, zhk, zhl, zhm, zhr, zhs, zht, zhu, zhv, zhw, zhx, zhy, zhz, zia, zib, zic, zid, zie, zif, zig, zih, zii, zij, zik, zil, zim, zin, zio, zip, ziq, zir, zis, zit, ziu, ziv, ziw, zix, ziy, ziz, zja, zjb, zjc, zjd, zje, zjf, zjg, zjh, zji, zjj, zjk, zjl, zjm, zjn, zjo, zjp, zjq, zjr, zjs, zjt, zju, zjv, zjw, zjx, zjy, zjz, zka, zkb, zkc, zkd, zke, zkf, zkg, zkh, zki, zkj, zkk, zkl, zkm, zkn, zko, zkp, zkq, zkr, zku, zkv, zkw, zkx, zky, zkz, zla, zlb, zlc, zld, zle, zlf, zlg, zlh, zli, zlj, zlk, zll, zlm, zln, zlo, zlp, zlq, zlr, zls, zlt, zlu, zlv, zlw, zlx, zly, zlz, zma, zmb, tab3, tab4, tab23, tab28, tab57, tab59]
             tactic =>
              try simp only [ncast] at *
              try simp only [Int.ofNat_eq_natCast] at *
              try simp (config := { maxSteps := 4000000 }) only [hp2, overA_res, boxed_n, htx, hty, h22, hmt, enc_SlN, tripD.eq_def, dec_PairB, isE_PairB, dec_PL, isE_PL, PL_l, con3q_d, enc_Pair, Pair_a, Pair_b, Pair_c, dynOf_t, dynOf_f, dec_PairT, dec_PairF, isE_PairT, isE_PairF, enc_Node, isE_Node, dec_Node, node_eta, szN, eqb_Node, con_MeetP, Int.ofNat_eq_natCast, con0, con1, con2, con3, con2t, con3t, symD0, symD1, symD2, symD3, symD4, Nat.reduceAdd, Nat.reduceSub, Nat.reduceMul, Nat.reduceMod, Nat.reduceLT, Nat.reduceLeDiff, Nat.reduceEqDiff, Nat.reduceBEq, Obj.isBox, D.setCell, D.asAgg, setAll, allFit, AV.fits, lk, upd, standAt, freeAt, backTo, packD, Nat.reduceDiv, reduceIte, reduceCtorEq, skIs, skAll, SK.is, aggL, eqbAll, D.eqb, Nat.reduceBNe]
              repeat' (first | with_reducible assumption | with_reducible refine And.intro ?_ ?_ | intro _ | omega | (rw [inR_i64]; omega))
              all_goals first
                | (with_reducible refine okD_id ?_; kernel_rfl)
                | (simp only [List.length_append, List.length_drop, List.length_map]; omega)
                | simp)
      | some l =>
        have hp2 : bcon_overA.post ⟨a, b, ⟨none, 0⟩, 0, 0⟩ = boxed a b ⟨some l, d⟩ := by rw [overA_post, htx, hty, hr]
        refine aCallB_of (bc := bcon_overA) ⟨a, b, ⟨none, 0⟩, 0, 0⟩ [6, 2, 7, 3, 77777] ⟨ha, hb, hrec, Nat.le_refl _, by simp⟩ rfl (by simp) (by rw [hp2]; rfl) ?_ ?_ ?_
        · show standAt _ _ (boxed a b ⟨none, 0⟩) _
          simp only [boxed_n]
          simp [standAt, lk, rnO, rnA, rnAs, rk]
        · show freeAt (List.drop (boxed a b ⟨none, 0⟩).length _) _
          simp only [boxed_n]
          simp [freeAt, lk]
        simp only [Option.getD_none, Option.getD_some, List.nil_append] at hmt hl
        cases r with
        | false =>
          have h22 : (overR false x y 0 0).2.2 = false := by rw [overR_ok, ← hov]
          rw [cond_false] at hmt
          (sym =>
             simp [hp2, overA_res, boxed_s, htx, hty, h22, hmt, enc_SlN, tripD.eq_def, dec_PairB, isE_PairB, dec_PL, isE_PL, PL_l, con3q_d, enc_Pair, Pair_a, Pair_b, Pair_c, dynOf_t, dynOf_f, dec_PairT, dec_PairF, isE_PairT, isE_PairF, enc_Node, isE_Node, dec_Node, node_eta, szN, eqb_Node, ctx_MeetP_t, ctx_MeetP_c, ctx_MeetP_d, ctx_MeetP_b, ctx_MeetP_u, con_MeetP.eq_def, zaa, zab, zac, zae, zaf, zag, zah, zai, zaj, zak, zal, zam, zan, zao, zap, zaq, zar, zas, zau, zav, zaw, zax, zbb, zbd, zbf, zbg, zbl, zbm, zbn, zbo, zbp, zbq, zbr, zbs, zbt, zbu, zbv, zbw, zbx, zby, zbz, zca, zcb, zcc, zcd, zce, zcf, zcg, zch, zci, zcj, zck, zco, zcp, zcq, zcr, zcs, zct, zcu, zcv, zcw, zcx, zdc, zdd, zde, zdf, zdg, zdh, zdi, zdj, zdk, zdl, zdm, zdn, zdo, zdq, zdr, zds, zdt, zdv, zdw, zea, zeb, zec, zed, zeq, zer, zes, zet, zeu, zev, zew, zex, zey, zez, zfa, zfb, zfc, zff, zfg, zfh, zfi, zfj, zfk, zfl, zfm, zfn, zfo, zfu, zfv, zfw, zfx, zfy, zfz, zga, zgc, zgd, zge, zgf, zgg, zgh, zgi, zgj, zgk, zgl, zgm, zgn, zgo, zgp, zgq, zgr, zgs, zgt, zgu, zgv, zgw, zgx, zgy, zgz, zha, zhb, zhc, zhd, zhe, zhf, zhg, zhh, zhi, zhj, zhk, zhl, zhm, zhr, zhs, zht, zhu, zhv, zhw, zhx, zhy, zhz, zia, zib, zic, zid, zie, zif, zig, zih, zii, zij, zik, zil, zim, zin, zio, zip, ziq, zir, zis, zit, ziu, ziv, ziw, zix, ziy, ziz, zja, zjb, zjc, zjd, zje, zjf, zjg, zjh, zji, zjj, zjk, zjl, zjm, zjn, zjo, zjp, zjq, zjr, zjs, zjt, zju, zjv, zjw, zjx, zjy, zjz, zka, zkb, zkc, zkd, zke, zkf, zkg, zkh, zki, zkj, zkk, zkl, zkm, zkn, zko, zkp, zkq, zkr, zku, zkv, zkw, zkx, zky, zkz, zla, zlb, zlc, zld, zle, zlf, zlg, zlh, zli, zlj, zlk, zll, zlm, zln, zlo, zlp, zlq, zlr, zls, zlt, zlu, zlv, zlw, zlx, zly, zlz, zma, zmb, tab3, tab4, tab23, tab28, tab57, tab59])
        | true =>
          have h22 : (overR false x y 0 0).2.2 = true := by rw [overR_ok, ← hov]
          rw [cond_true] at hmt
          (sym =>
             simp [hp2, overA_res, boxed_s, htx, hty, h22, hmt, enc_SlN, tripD.eq_def, dec_PairB, isE_PairB, dec_PL, isE_PL, PL_l, con3q_d, enc_Pair, Pair_a, Pair_b, Pair_c, dynOf_t, dynOf_f, dec_PairT, dec_PairF, isE_PairT, isE_PairF, enc_Node, isE_Node, dec_Node, node_eta, szN, eqb_Node, ctx_MeetP_t, ctx_MeetP_c, ctx_MeetP_d, ctx_MeetP_b, ctx_MeetP_u, con_MeetP.eq_def, zaa, zab, zac, zae, zaf, zag, zah, zai, zaj, zak, zal, zam, zan, zao, zap, zaq, zar, zas, zau, zav, zaw, zax, zbb, zbd, zbf, zbg, zbl, zbm, zbn, zbo, zbp, zbq, zbr, zbs, zbt, zbu, zbv, zbw, zbx, zby, zbz, zca, zcb, zcc, zcd, zce, zcf, zcg, zch, zci, zcj, zck, zco, zcp, zcq, zcr, zcs, zct, zcu, zcv, zcw, zcx, zdc, zdd, zde, zdf, zdg, zdh, zdi, zdj, zdk, zdl, zdm, zdn, zdo, zdq, zdr, zds, zdt, zdv, zdw, zea, zeb, zec, zed, zeq, zer, zes, zet, zeu, zev, zew, zex, zey, zez, zfa, zfb, zfc, zff, zfg, zfh, zfi, zfj, zfk, zfl, zfm, zfn, zfo, zfu, zfv, zfw, zfx, zfy, zfz, zga, zgc, zgd, zge, zgf, zgg, zgh, zgi, zgj, zgk, zgl, zgm, zgn, zgo, zgp, zgq, zgr, zgs, zgt, zgu, zgv, zgw, zgx, zgy, zgz, zha, zhb, zhc, zhd, zhe, zhf, zhg, zhh, zhi, zhj, zhk, zhl, zhm, zhr, zhs, zht, zhu, zhv, zhw, zhx, zhy, zhz, zia, zib, zic, zid, zie, zif, zig, zih, zii, zij, zik, zil, zim, zin, zio, zip, ziq, zir, zis, zit, ziu, ziv, ziw, zix, ziy, ziz, zja, zjb, zjc, zjd, zje, zjf, zjg, zjh, zji, zjj, zjk, zjl, zjm, zjn, zjo, zjp, zjq, zjr, zjs, zjt, zju, zjv, zjw, zjx, zjy, zjz, zka, zkb, zkc, zkd, zke, zkf, zkg, zkh, zki, zkj, zkk, zkl, zkm, zkn, zko, zkp, zkq, zkr, zku, zkv, zkw, zkx, zky, zkz, zla, zlb, zlc, zld, zle, zlf, zlg, zlh, zli, zlj, zlk, zll, zlm, zln, zlo, zlp, zlq, zlr, zls, zlt, zlu, zlv, zlw, zlx, zly, zlz, zma, zmb, tab3, tab4, tab23, tab28, tab57, tab59]
             tactic =>
              try simp only [ncast] at *
              try simp only [Int.ofNat_eq_natCast] at *
              try simp (config := { maxSteps := 4000000 }) only [hp2, overA_res, boxed_s, htx, hty, h22, hmt, enc_SlN, tripD.eq_def, dec_PairB, isE_PairB, dec_PL, isE_PL, PL_l, con3q_d, enc_Pair, Pair_a, Pair_b, Pair_c, dynOf_t, dynOf_f, dec_PairT, dec_PairF, isE_PairT, isE_PairF, enc_Node, isE_Node, dec_Node, node_eta, szN, eqb_Node, con_MeetP, Int.ofNat_eq_natCast, con0, con1, con2, con3, con2t, con3t, symD0, symD1, symD2, symD3, symD4, Nat.reduceAdd, Nat.reduceSub, Nat.reduceMul, Nat.reduceMod, Nat.reduceLT, Nat.reduceLeDiff, Nat.reduceEqDiff, Nat.reduceBEq, Obj.isBox, D.setCell, D.asAgg, setAll, allFit, AV.fits, lk, upd, standAt, freeAt, backTo, packD, Nat.reduceDiv, reduceIte, reduceCtorEq, skIs, skAll, SK.is, aggL, eqbAll, D.eqb, Nat.reduceBNe]
              repeat' (first | with_reducible assumption | with_reducible refine And.intro ?_ ?_ | intro _ | omega | (rw [inR_i64]; omega))
              all_goals first
                | (with_reducible refine okD_id ?_; kernel_rfl)
                | (simp only [List.length_append, List.length_drop, List.length_map]; omega)
                | simp))

end Go.Am.Ty
