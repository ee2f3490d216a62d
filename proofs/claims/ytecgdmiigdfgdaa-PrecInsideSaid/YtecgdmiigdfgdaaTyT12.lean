/- Contracts of functions that the laws reach, and plain laws. Conditions: those that each contract states. -/
import Derived.Test.YtecgdmiigdfgdaaTyT11
set_option linter.unusedSimpArgs false
set_option linter.unusedVariables false
set_option maxHeartbeats 1000000
namespace Go.Am.Ty
open Go.Proofs Go.Rose Go.Rose.Rose
open Enc (enc dec)

/-! ### a function's type of two short ones, printed -/
def wordS (k : Int) : List UInt8 := if k = 0 then [63] else if k = 1 then [105, 110, 116] else if k = 2 then [98, 111, 111, 108] else if k = 3 then [115, 116, 114, 105, 110, 103] else [117, 110, 105, 116]
def Short (n : Node) : Prop := 0 ≤ n.kind ∧ n.kind ≤ 4
def con_word3 : Con := con1 (fun (n : Node) => Short n) (fun n => wordS n.kind)
noncomputable def ctx_word3 : Ctx := ⟨tab, lkC [], 60, lkB [], []⟩
theorem ctx_word3_t : ctx_word3.τ = tab := rfl
theorem ctx_word3_c : ctx_word3.Γ = lkC [] := rfl
theorem ctx_word3_d : ctx_word3.dp = 60 := rfl
theorem ctx_word3_b : ctx_word3.Δ = lkB [] := rfl
theorem ctx_word3_u : ctx_word3.cuts = [] := rfl
theorem good_word3 : Good Try.prog (98, con_word3) := by
  refine ⟨enters_of Try.func98 (by kernel_rfl) rfl, ?_⟩
  have K : CtxOk Try.prog ctx_word3 := ctxOk_of tabOk mixedOk (by simp) (by simp)
  obtain ⟨c, hc⟩ : ∃ c, Try.f98.body = some c := ⟨_, rfl⟩
  refine fn_sound K Try.func98 hc [.tmp 2] rfl 25 rfl (fun cvs hpre => ?_)
  change con_word3.pre cvs at hpre
  unfold con_word3 at hpre
  obtain ⟨n, rfl, h0, h4⟩ := con1_pre hpre
  simp only [Try.f98, Option.some.injEq] at hc
  subst hc
  have hc : n.kind = 0 ∨ n.kind = 1 ∨ n.kind = 2 ∨ n.kind = 3 ∨ n.kind = 4 := by omega
  (sym =>
     simp [enc_Node, isE_Node, dec_Node, node_eta, szN, eqb_Node, ctx_word3_t, ctx_word3_c, ctx_word3_d, ctx_word3_b, ctx_word3_u, con_word3.eq_def, zaa, zab, zac, zae, zaf, zag, zan, zao, zap, zaq, zar, zas, zau, zav, zax, zbm, zbn, zbo, zbp, zbq, zbr, zbs, zbt, zbu, zby, zbz, zca, zcb, zcc, zcd, zcf, zco, zcp, zcr, zcv, zcw, zcx, zdc, zde, zdf, zdg, zdh, zdi, zdv, zdw, zec, zed, zeq, zer, zes, zet, zeu, zev, zew, zex, zey, zez, zfa, zfb, zfc, zff, zfh, zfi, zfj, zfk, zfl, zfm, zfn, zfo, zfu, zfv, zfw, zfx, zfy, zfz, zga, zgc, zgd, zge, zgh, zgi, zgj, zgk, zgl, zgm, zgn, zgo, zgp, zgq, zgr, zgs, zgt, zgu, zgv, zgw, zgx, zgy, zgz, zha, zhb, zhc, zhd, zhe, zhf, zhg, zhh, zhi, zhj, zhk, zhr, zhs, zht, zhu, zhv, zhw, zhx, zhy, zhz, zia, zib, zic, zid, zie, zif, zig, zih, zii, zij, zik, zil, zim, zin, zio, zip, ziq, zir, zis, zit, ziu, ziv, ziw, zix, ziy, ziz, zja, zjb, zjc, zjd, zje, zjf, zjg, zjh, zji, zjj, zjk, zjl, zjm, zjn, zjo, zjp, zjq, zjr, zjs, zjt, zju, zjv, zjw, zjx, zjy, zjz, zka, zkb, zkc, zkd, zke, zkf, zkg, zkh, zki, zkj, zkk, zkq, zkr, zku, zkv, zkw, zkx, zky, zkz, zla, zlb, zlc, zld, zle, zlf, zlg, zlh, zli, zlj, zlk, zll, zlm, zln, zlo, zlp, zlq, zlr, zls, zlt, zlu, zlv, zlw, zlx, zly, zlz, zma, zmb, tab3, tab9, tab28]
     tactic =>
      try simp only [ncast] at *
      try simp only [Int.ofNat_eq_natCast] at *
      try simp (config := { maxSteps := 4000000 }) only [enc_Node, isE_Node, dec_Node, node_eta, szN, eqb_Node, con_word3, Int.ofNat_eq_natCast, con0, con1, con2, con3, con2t, con3t, symD0, symD1, symD2, symD3, symD4, Nat.reduceAdd, Nat.reduceSub, Nat.reduceMul, Nat.reduceMod, Nat.reduceLT, Nat.reduceLeDiff, Nat.reduceEqDiff, Nat.reduceBEq, Obj.isBox, D.setCell, D.asAgg, setAll, allFit, AV.fits, lk, upd, standAt, freeAt, backTo, packD, Nat.reduceDiv, reduceIte, reduceCtorEq, skIs, skAll, SK.is, aggL, eqbAll, D.eqb, Nat.reduceBNe]
      unfold wordS
      repeat' (first | with_reducible assumption | with_reducible refine And.intro ?_ ?_ | intro _ | omega | (rw [inR_i64]; omega))
      all_goals first
        | (rename_i h; rw [h]; rfl)
        | (rename_i h; simp only [h]; rfl)
        | skip)

def arrowS (x y : Node) : List UInt8 := wordS x.kind ++ [32, 45, 62, 32] ++ wordS y.kind
def ArrowOf (t : List Node) : Prop := ∃ p x y, t = [p, x, y] ∧ p.kind = 5 ∧ Short x ∧ Short y
def con_printed3 (n : Nat) : Con := con2 (fun (t : Sl Node) (i : Int) => ArrowOf t.l ∧ ((i = 0 ∧ 2 ≤ n) ∨ ((i = 1 ∨ i = 2) ∧ 1 ≤ n)))
  (fun t i => if i = 0 then arrowS (t.l.getD 1 n0) (t.l.getD 2 n0) else wordS (t.l.getD i.toNat n0).kind)
theorem con_printed3_zero : ∀ c, ¬ (con_printed3 0).pre c := by
  intro c h
  unfold con_printed3 at h
  obtain ⟨_, _, _, _, h⟩ := con2_pre h
  omega
theorem wordS_len {k : Int} : (wordS k).length ≤ 6 := by
  unfold wordS
  repeat' split
  all_goals simp
theorem many3_short {n : Node} (h : Short n) : many3 n = 0 := by
  obtain ⟨h1, h2⟩ := h
  unfold many3
  rw [if_neg (by omega), if_neg (by omega)]
theorem many3_five {n : Node} (h : n.kind = 5) : many3 n = 2 := by unfold many3; rw [if_pos h]
noncomputable def ctx_printed3 (n : Nat) : Ctx := ⟨tab, lkC [(78, con_Kids3), (98, con_word3), (74, (con_printed3 n))], 60, lkB [], []⟩
theorem ctx_printed3_t (n : Nat) : (ctx_printed3 n).τ = tab := rfl
theorem ctx_printed3_c (n : Nat) : (ctx_printed3 n).Γ = lkC [(78, con_Kids3), (98, con_word3), (74, (con_printed3 n))] := rfl
theorem ctx_printed3_d (n : Nat) : (ctx_printed3 n).dp = 60 := rfl
theorem ctx_printed3_b (n : Nat) : (ctx_printed3 n).Δ = lkB [] := rfl
theorem ctx_printed3_u (n : Nat) : (ctx_printed3 n).cuts = [] := rfl
set_option maxRecDepth 100000 in
theorem step_printed3 (n : Nat) (ih : Good Try.prog (74, con_printed3 n)) : Good Try.prog (74, (con_printed3 (n + 1))) := by
  refine ⟨enters_of Try.func74 (by kernel_rfl) rfl, ?_⟩
  have K : CtxOk Try.prog (ctx_printed3 n) := ctxOk_of tabOk mixedOk (by
    intro p hp
    simp only [List.mem_cons, List.not_mem_nil, or_false] at hp
    rcases hp with rfl | rfl | rfl
    · exact good_Kids3
    · exact good_word3
    · exact ih) (by simp)
  obtain ⟨c, hc⟩ : ∃ c, Try.f74.body = some c := ⟨_, rfl⟩
  refine fn_sound K Try.func74 hc [.tmp 4] rfl 126 rfl (fun cvs hpre => ?_)
  change (con_printed3 (n + 1)).pre cvs at hpre
  unfold con_printed3 at hpre
  obtain ⟨⟨t⟩, i, rfl, ⟨p, x, y, ht, hp, hx, hy⟩, hi⟩ := con2_pre hpre
  simp only at ht
  subst ht
  have mx := many3_short hx
  have my := many3_short hy
  have mp := many3_five hp
  have hT : Tame [p, x, y] := by
    refine ⟨by simp, fun n hn => ?_⟩
    simp only [List.mem_cons, List.not_mem_nil, or_false] at hn
    rcases hn with rfl | rfl | rfl
    · omega
    · omega
    · omega
  have hA : ArrowOf [p, x, y] := ⟨p, x, y, rfl, hp, hx, hy⟩
  have ep : el (List.map (enc : Node → D) [p, x, y]) 0 = enc p := rfl
  have ex : el (List.map (enc : Node → D) [p, x, y]) 1 = enc x := rfl
  have ey : el (List.map (enc : Node → D) [p, x, y]) 2 = enc y := rfl
  obtain ⟨L, hL⟩ : ∃ L, [p, x, y] = L := ⟨_, rfl⟩
  have g0 : L.getD 0 n0 = p := by rw [← hL]; rfl
  have g1 : L.getD 1 n0 = x := by rw [← hL]; rfl
  have g2 : L.getD 2 n0 = y := by rw [← hL]; rfl
  have hlen : L.length = 3 := by rw [← hL]; rfl
  rw [hL] at ep ex ey hT hA
  have hx5 : (x.kind == 5) = false := by rw [beq_eq_false_iff_ne]; have := hx.2; omega
  have hy5 : (y.kind == 5) = false := by rw [beq_eq_false_iff_ne]; have := hy.2; omega
  have hp5 : (p.kind == 5) = true := by rw [beq_iff_eq]; exact hp
  have hx6 : (x.kind != 6) = true := by rw [bne_iff_ne]; have := hx.2; omega
  have hy6 : (y.kind != 6) = true := by rw [bne_iff_ne]; have := hy.2; omega
  have hx7 : (x.kind != 7) = true := by rw [bne_iff_ne]; have := hx.2; omega
  have hy7 : (y.kind != 7) = true := by rw [bne_iff_ne]; have := hy.2; omega
  have wx := wordS_len (k := x.kind)
  have wy := wordS_len (k := y.kind)
  simp only [Try.f74, Option.some.injEq] at hc
  subst hc
  refine awp_chk 7 (of_decide_eq_true (by kernel_rfl)) ?_
  rcases hi with ⟨rfl, hn⟩ | ⟨rfl | rfl, hn⟩
  · have hk : kids3 L 0 = [1, 2] := by
      rw [← hL]
      unfold kids3
      rw [if_neg (by simp)]
      show kidsFrom _ (many3 p).toNat 1 = _
      rw [mp]
      have e1 : eat [x, y] 1 = 1 := by
        simp only [eat, mx]
        rfl
      have e2 : (2 : Int).toNat = 1 + 1 := rfl
      rw [e2, kidsFrom, if_pos (by simp)]
      show (1 : Int) :: kidsFrom [p, x, y] 1 (1 + eat [x, y] 1) = _
      rw [e1, kidsFrom, if_pos (by simp)]
      rfl
    (sym =>
       simp [hL, hlen, hk, ep, ex, ey, g0, g1, g2, hp5, hx5, enc_Node, isE_Node, dec_Node, node_eta, szN, eqb_Node, ctx_printed3_t, ctx_printed3_c, ctx_printed3_d, ctx_printed3_b, ctx_printed3_u, con_Kids3.eq_def, con_printed3.eq_def, con_word3.eq_def, zaa, zab, zac, zad, zae, zaf, zag, zan, zao, zap, zaq, zar, zas, zat, zav, zax, zaz, zbh, zbm, zbn, zbo, zbp, zbq, zbr, zbs, zbt, zbu, zby, zbz, zca, zcb, zcc, zcd, zcf, zco, zcp, zcr, zcv, zcw, zcx, zdc, zde, zdf, zdg, zdh, zdi, zdu, zdv, zdw, zdx, zdy, zdz, zec, zed, zee, zef, zeg, zeh, zei, zej, zek, zel, zem, zen, zeq, zer, zes, zet, zeu, zev, zew, zex, zey, zez, zfa, zfb, zfc, zfd, zfe, zff, zfh, zfi, zfj, zfk, zfl, zfm, zfn, zfo, zfu, zfv, zfw, zfx, zfy, zfz, zga, zgb, zgc, zgd, zge, zgh, zgi, zgj, zgk, zgl, zgm, zgn, zgo, zgp, zgq, zgr, zgs, zgt, zgu, zgv, zgw, zgx, zgy, zgz, zha, zhb, zhc, zhd, zhe, zhf, zhg, zhh, zhi, zhj, zhk, zhn, zho, zhp, zhq, zhr, zhs, zht, zhu, zhv, zhw, zhx, zhy, zhz, zia, zib, zic, zid, zie, zif, zig, zih, zii, zij, zik, zil, zim, zin, zio, zip, ziq, zir, zis, zit, ziu, ziv, ziw, zix, ziy, ziz, zja, zjb, zjc, zjd, zje, zjf, zjg, zjh, zji, zjj, zjk, zjl, zjm, zjn, zjo, zjp, zjq, zjr, zjs, zjt, zju, zjv, zjw, zjx, zjy, zjz, zka, zkb, zkc, zkd, zke, zkf, zkg, zkh, zki, zkj, zkk, zkq, zkr, zku, zkv, zkw, zkx, zky, zkz, zla, zlb, zlc, zld, zle, zlf, zlg, zlh, zli, zlj, zlk, zll, zlm, zln, zlo, zlp, zlq, zlr, zls, zlt, zlu, zlv, zlw, zlx, zly, zlz, zma, zmb, tab3, tab9, tab23, tab28, tab84]
       tactic =>
        try simp only [ncast] at *
        try simp only [Int.ofNat_eq_natCast] at *
        try simp (config := { maxSteps := 4000000 }) only [hL, hlen, hk, ep, ex, ey, g0, g1, g2, hp5, hx5, enc_Node, isE_Node, dec_Node, node_eta, szN, eqb_Node, con_Kids3, con_printed3, con_word3, Int.ofNat_eq_natCast, con0, con1, con2, con3, con2t, con3t, symD0, symD1, symD2, symD3, symD4, Nat.reduceAdd, Nat.reduceSub, Nat.reduceMul, Nat.reduceMod, Nat.reduceLT, Nat.reduceLeDiff, Nat.reduceEqDiff, Nat.reduceBEq, Obj.isBox, D.setCell, D.asAgg, setAll, allFit, AV.fits, lk, upd, standAt, freeAt, backTo, packD, Nat.reduceDiv, reduceIte, reduceCtorEq, skIs, skAll, SK.is, aggL, eqbAll, D.eqb, Nat.reduceBNe]
        repeat' (first | with_reducible assumption | with_reducible refine And.intro ?_ ?_ | intro _ | omega | (rw [inR_i64]; omega))
        all_goals first
          | (simp only [List.length_append, List.length_cons, List.length_nil]; omega)
          | (unfold arrowS; simp only [List.append_assoc])
          | (simp; omega))
  · have hk : kids3 L 1 = [] := by
      rw [← hL]
      unfold kids3
      rw [if_neg (by simp)]
      show kidsFrom _ (many3 x).toNat 2 = _
      rw [mx]
      rfl
    (sym =>
       simp [hL, hlen, hk, ep, ex, ey, g0, g1, g2, hx5, hx6, hx7, enc_Node, isE_Node, dec_Node, node_eta, szN, eqb_Node, ctx_printed3_t, ctx_printed3_c, ctx_printed3_d, ctx_printed3_b, ctx_printed3_u, con_Kids3.eq_def, con_printed3.eq_def, con_word3.eq_def, zaa, zab, zac, zad, zae, zaf, zag, zan, zao, zap, zaq, zar, zas, zat, zav, zax, zaz, zbh, zbm, zbn, zbo, zbp, zbq, zbr, zbs, zbt, zbu, zby, zbz, zca, zcb, zcc, zcd, zcf, zco, zcp, zcr, zcv, zcw, zcx, zdc, zde, zdf, zdg, zdh, zdi, zdu, zdv, zdw, zdx, zdy, zdz, zec, zed, zee, zef, zeg, zeh, zei, zej, zek, zel, zem, zen, zeq, zer, zes, zet, zeu, zev, zew, zex, zey, zez, zfa, zfb, zfc, zfd, zfe, zff, zfh, zfi, zfj, zfk, zfl, zfm, zfn, zfo, zfu, zfv, zfw, zfx, zfy, zfz, zga, zgb, zgc, zgd, zge, zgh, zgi, zgj, zgk, zgl, zgm, zgn, zgo, zgp, zgq, zgr, zgs, zgt, zgu, zgv, zgw, zgx, zgy, zgz, zha, zhb, zhc, zhd, zhe, zhf, zhg, zhh, zhi, zhj, zhk, zhn, zho, zhp, zhq, zhr, zhs, zht, zhu, zhv, zhw, zhx, zhy, zhz, zia, zib, zic, zid, zie, zif, zig, zih, zii, zij, zik, zil, zim, zin, zio, zip, ziq, zir, zis, zit, ziu, ziv, ziw, zix, ziy, ziz, zja, zjb, zjc, zjd, zje, zjf, zjg, zjh, zji, zjj, zjk, zjl, zjm, zjn, zjo, zjp, zjq, zjr, zjs, zjt, zju, zjv, zjw, zjx, zjy, zjz, zka, zkb, zkc, zkd, zke, zkf, zkg, zkh, zki, zkj, zkk, zkq, zkr, zku, zkv, zkw, zkx, zky, zkz, zla, zlb, zlc, zld, zle, zlf, zlg, zlh, zli, zlj, zlk, zll, zlm, zln, zlo, zlp, zlq, zlr, zls, zlt, zlu, zlv, zlw, zlx, zly, zlz, zma, zmb, tab3, tab9, tab23, tab28, tab84]
       tactic =>
        try simp only [ncast] at *
        try simp only [Int.ofNat_eq_natCast] at *
        try simp (config := { maxSteps := 4000000 }) only [hL, hlen, hk, ep, ex, ey, g0, g1, g2, hx5, hx6, hx7, enc_Node, isE_Node, dec_Node, node_eta, szN, eqb_Node, con_Kids3, con_printed3, con_word3, Int.ofNat_eq_natCast, con0, con1, con2, con3, con2t, con3t, symD0, symD1, symD2, symD3, symD4, Nat.reduceAdd, Nat.reduceSub, Nat.reduceMul, Nat.reduceMod, Nat.reduceLT, Nat.reduceLeDiff, Nat.reduceEqDiff, Nat.reduceBEq, Obj.isBox, D.setCell, D.asAgg, setAll, allFit, AV.fits, lk, upd, standAt, freeAt, backTo, packD, Nat.reduceDiv, reduceIte, reduceCtorEq, skIs, skAll, SK.is, aggL, eqbAll, D.eqb, Nat.reduceBNe]
        repeat' (first | with_reducible assumption | with_reducible refine And.intro ?_ ?_ | intro _ | omega | (rw [inR_i64]; omega)))
  · have hk : kids3 L 2 = [] := by
      rw [← hL]
      unfold kids3
      rw [if_neg (by simp)]
      show kidsFrom _ (many3 y).toNat 3 = _
      rw [my]
      rfl
    (sym =>
       simp [hL, hlen, hk, ep, ex, ey, g0, g1, g2, hy5, hy6, hy7, enc_Node, isE_Node, dec_Node, node_eta, szN, eqb_Node, ctx_printed3_t, ctx_printed3_c, ctx_printed3_d, ctx_printed3_b, ctx_printed3_u, con_Kids3.eq_def, con_printed3.eq_def, con_word3.eq_def, zaa, zab, zac, zad, zae, zaf, zag, zan, zao, zap, zaq, zar, zas, zat, zav, zax, zaz, zbh, zbm, zbn, zbo, zbp, zbq, zbr, zbs, zbt, zbu, zby, zbz, zca, zcb, zcc, zcd, zcf, zco, zcp, zcr, zcv, zcw, zcx, zdc, zde, zdf, zdg, zdh, zdi, zdu, zdv, zdw, zdx, zdy, zdz, zec, zed, zee, zef, zeg, zeh, zei, zej, zek, zel, zem, zen, zeq, zer, zes, zet, zeu, zev, zew, zex, zey, zez, zfa, zfb, zfc, zfd, zfe, zff, zfh, zfi, zfj, zfk, zfl, zfm, zfn, zfo, zfu, zfv, zfw, zfx, zfy, zfz, zga, zgb, zgc, zgd, zge, zgh, zgi, zgj, zgk, zgl, zgm, zgn, zgo, zgp, zgq, zgr, zgs, zgt, zgu, zgv, zgw, zgx, zgy, zgz, zha, zhb, zhc, zhd, zhe, zhf, zhg, zhh, zhi, zhj, zhk, zhn, zho, zhp, zhq, zhr, zhs, zht, zhu, zhv, zhw, zhx, zhy, zhz, zia, zib, zic, zid, zie, zif, zig, zih, zii, zij, zik, zil, zim, zin, zio, zip, ziq, zir, zis, zit, ziu, ziv, ziw, zix, ziy, ziz, zja, zjb, zjc, zjd, zje, zjf, zjg, zjh, zji, zjj, zjk, zjl, zjm, zjn, zjo, zjp, zjq, zjr, zjs, zjt, zju, zjv, zjw, zjx, zjy, zjz, zka, zkb, zkc, zkd, zke, zkf, zkg, zkh, zki, zkj, zkk, zkq, zkr, zku, zkv, zkw, zkx, zky, zkz, zla, zlb, zlc, zld, zle, zlf, zlg, zlh, zli, zlj, zlk, zll, zlm, zln, zlo, zlp, zlq, zlr, zls, zlt, zlu, zlv, zlw, zlx, zly, zlz, zma, zmb, tab3, tab9, tab23, tab28, tab84]
       tactic =>
        try simp only [ncast] at *
        try simp only [Int.ofNat_eq_natCast] at *
        try simp (config := { maxSteps := 4000000 }) only [hL, hlen, hk, ep, ex, ey, g0, g1, g2, hy5, hy6, hy7, enc_Node, isE_Node, dec_Node, node_eta, szN, eqb_Node, con_Kids3, con_printed3, con_word3, Int.ofNat_eq_natCast, con0, con1, con2, con3, con2t, con3t, symD0, symD1, symD2, symD3, symD4, Nat.reduceAdd, Nat.reduceSub, Nat.reduceMul, Nat.reduceMod, Nat.reduceLT, Nat.reduceLeDiff, Nat.reduceEqDiff, Nat.reduceBEq, Obj.isBox, D.setCell, D.asAgg, setAll, allFit, AV.fits, lk, upd, standAt, freeAt, backTo, packD, Nat.reduceDiv, reduceIte, reduceCtorEq, skIs, skAll, SK.is, aggL, eqbAll, D.eqb, Nat.reduceBNe]
        repeat' (first | with_reducible assumption | with_reducible refine And.intro ?_ ?_ | intro _ | omega | (rw [inR_i64]; omega)))
theorem goodn_printed3 : ∀ n, Good Try.prog (74, con_printed3 n)
  | 0 => good_void (enters_of Try.func74 (by kernel_rfl) rfl) con_printed3_zero
  | n + 1 => step_printed3 n (goodn_printed3 n)
def con_printed3A : Con := con_printed3 2
theorem good_printed3A : Good Try.prog (74, con_printed3A) := goodn_printed3 2
theorem con_printed3A_d : con_printed3A = con_printed3 2 := rfl
def con_Print3 : Con := con1 (fun (t : Sl Node) => ArrowOf t.l) (fun t => arrowS (t.l.getD 1 n0) (t.l.getD 2 n0))
noncomputable def ctx_Print3 : Ctx := ⟨tab, lkC [(74, con_printed3A)], 60, lkB [], []⟩
theorem ctx_Print3_t : ctx_Print3.τ = tab := rfl
theorem ctx_Print3_c : ctx_Print3.Γ = lkC [(74, con_printed3A)] := rfl
theorem ctx_Print3_d : ctx_Print3.dp = 60 := rfl
theorem ctx_Print3_b : ctx_Print3.Δ = lkB [] := rfl
theorem ctx_Print3_u : ctx_Print3.cuts = [] := rfl
theorem good_Print3 : Good Try.prog (41, con_Print3) := by
  refine ⟨enters_of Try.func41 (by kernel_rfl) rfl, ?_⟩
  have K : CtxOk Try.prog ctx_Print3 := ctxOk_of tabOk mixedOk (by
    intro p hp
    simp only [List.mem_cons, List.not_mem_nil, or_false] at hp
    rcases hp with rfl
    · exact good_printed3A) (by simp)
  obtain ⟨c, hc⟩ : ∃ c, Try.f41.body = some c := ⟨_, rfl⟩
  refine fn_sound K Try.func41 hc [.tmp 2] rfl 5 rfl (fun cvs hpre => ?_)
  change con_Print3.pre cvs at hpre
  unfold con_Print3 at hpre
  obtain ⟨⟨t⟩, rfl, hA⟩ := con1_pre hpre
  simp only at hA
  simp only [Try.f41, Option.some.injEq] at hc
  subst hc
  (sym =>
     simp [con_printed3A_d, con_printed3.eq_def, enc_Node, isE_Node, dec_Node, node_eta, szN, eqb_Node, ctx_Print3_t, ctx_Print3_c, ctx_Print3_d, ctx_Print3_b, ctx_Print3_u, con_Print3.eq_def, con_printed3A.eq_def, zaa, zab, zac, zae, zaf, zag, zan, zao, zap, zaq, zar, zas, zav, zbm, zbn, zbo, zbp, zbq, zbr, zbs, zbt, zbu, zby, zca, zcb, zcc, zcd, zcf, zco, zcp, zcr, zcv, zcw, zcx, zdc, zde, zdf, zdg, zdh, zdi, zdv, zdw, zec, zed, zeq, zer, zes, zet, zeu, zev, zew, zex, zey, zez, zfa, zfb, zfc, zff, zfh, zfi, zfj, zfk, zfl, zfm, zfn, zfo, zfu, zfv, zfw, zfx, zfy, zfz, zga, zgc, zgd, zge, zgh, zgi, zgj, zgk, zgl, zgm, zgn, zgo, zgp, zgq, zgr, zgs, zgt, zgu, zgv, zgw, zgx, zgy, zgz, zha, zhb, zhc, zhd, zhe, zhf, zhg, zhh, zhi, zhj, zhk, zhr, zhs, zht, zhu, zhv, zhw, zhx, zhy, zhz, zia, zib, zic, zid, zie, zif, zig, zih, zii, zij, zik, zil, zim, zin, zio, zip, ziq, zir, zis, zit, ziu, ziv, ziw, zix, ziy, ziz, zja, zjb, zjc, zjd, zje, zjf, zjg, zjh, zji, zjj, zjk, zjl, zjm, zjn, zjo, zjp, zjq, zjr, zjs, zjt, zju, zjv, zjw, zjx, zjy, zjz, zka, zkb, zkc, zkd, zke, zkf, zkg, zkh, zki, zkj, zkk, zkq, zkr, zku, zkv, zkw, zkx, zky, zkz, zla, zlb, zlc, zld, zle, zlf, zlg, zlh, zli, zlj, zlk, zll, zlm, zln, zlo, zlp, zlq, zlr, zls, zlt, zlu, zlv, zlw, zlx, zly, zlz, zma, zmb, tab23, tab28]
     tactic =>
      try simp only [ncast] at *
      try simp only [Int.ofNat_eq_natCast] at *
      try simp (config := { maxSteps := 4000000 }) only [con_printed3A_d, con_printed3.eq_def, enc_Node, isE_Node, dec_Node, node_eta, szN, eqb_Node, con_Print3, con_printed3A, Int.ofNat_eq_natCast, con0, con1, con2, con3, con2t, con3t, symD0, symD1, symD2, symD3, symD4, Nat.reduceAdd, Nat.reduceSub, Nat.reduceMul, Nat.reduceMod, Nat.reduceLT, Nat.reduceLeDiff, Nat.reduceEqDiff, Nat.reduceBEq, Obj.isBox, D.setCell, D.asAgg, setAll, allFit, AV.fits, lk, upd, standAt, freeAt, backTo, packD, Nat.reduceDiv, reduceIte, reduceCtorEq, skIs, skAll, SK.is, aggL, eqbAll, D.eqb, Nat.reduceBNe]
      repeat' (first | with_reducible assumption | with_reducible refine And.intro ?_ ?_ | intro _ | omega | (rw [inR_i64]; omega)))

/-! ### the live question of layer 7 -/
abbrev nB (k : Int) : Node := ⟨k, [], 0⟩
def tr3 (p x y : Node) : Rose Node := mk p [mk x [], mk y []]
theorem at_tr3 {p x y : Node} (hp : p.kind = 5) (hx : Short x) (hy : Short y) : At ar [p, x, y] 0 (tr3 p x y) := by
  have z : ∀ {n : Node}, Short n → ar n = 0 := by
    intro n hn
    unfold ar
    rw [if_neg (by have := hn.2; omega), if_neg (by have := hn.2; omega)]
  refine ⟨⟨?_, ⟨by rw [z hx]; rfl, trivial⟩, ⟨by rw [z hy]; rfl, trivial⟩, trivial⟩, [], rfl⟩
  unfold ar
  rw [if_pos hp]
  rfl
theorem at_one {n : Node} (h : Short n) : At ar [n] 0 (mk n []) := by
  refine ⟨⟨?_, trivial⟩, [], rfl⟩
  unfold ar
  rw [if_neg (by have := h.2; omega), if_neg (by have := h.2; omega)]
  rfl
theorem short_nB {k : Int} (h : 0 ≤ k ∧ k ≤ 4 := by omega) : Short (nB k) := h
def con_alive07 : Con := con0 true
noncomputable def ctx_alive07 : Ctx := ⟨tab, lkC [(16, con_BelowP), (18, con_MeetP), (19, con_AgreeP), (41, con_Print3)], 60, lkB [], []⟩
theorem ctx_alive07_t : ctx_alive07.τ = tab := rfl
theorem ctx_alive07_c : ctx_alive07.Γ = lkC [(16, con_BelowP), (18, con_MeetP), (19, con_AgreeP), (41, con_Print3)] := rfl
theorem ctx_alive07_d : ctx_alive07.dp = 60 := rfl
theorem ctx_alive07_b : ctx_alive07.Δ = lkB [] := rfl
theorem ctx_alive07_u : ctx_alive07.cuts = [] := rfl
set_option maxRecDepth 100000 in
theorem good_alive07 : Good Try.prog (15, con_alive07) := by
  refine ⟨enters_of Try.func15 (by kernel_rfl) rfl, ?_⟩
  have K : CtxOk Try.prog ctx_alive07 := ctxOk_of tabOk mixedOk (by
    intro p hp
    simp only [List.mem_cons, List.not_mem_nil, or_false] at hp
    rcases hp with rfl | rfl | rfl | rfl
    · exact good_BelowP
    · exact good_MeetP
    · exact good_AgreeP
    · exact good_Print3) (by simp)
  obtain ⟨c, hc⟩ : ∃ c, Try.f15.body = some c := ⟨_, rfl⟩
  refine fn_sound K Try.func15 hc [.tmp 0] rfl 41 rfl (fun cvs hpre => ?_)
  change con_alive07.pre cvs at hpre
  unfold con_alive07 at hpre
  obtain rfl := con0_pre hpre
  have a1 : At ar [nB 5, nB 0, nB 1] 0 (tr3 (nB 5) (nB 0) (nB 1)) := at_tr3 rfl short_nB short_nB
  have a2 : At ar [nB 5, nB 2, nB 0] 0 (tr3 (nB 5) (nB 2) (nB 0)) := at_tr3 rfl short_nB short_nB
  have a3 : At ar [nB 5, nB 2, nB 1] 0 (tr3 (nB 5) (nB 2) (nB 1)) := at_tr3 rfl short_nB short_nB
  have a4 : At ar [nB 0] 0 (mk (nB 0) []) := at_one short_nB
  have t1 := treeAt_eq a1
  have t2 := treeAt_eq a2
  have t3 := treeAt_eq a3
  have t4 := treeAt_eq a4
  have hm : meetT [nB 5, nB 0, nB 1] [nB 5, nB 2, nB 0] = (⟨[nB 5, nB 2, nB 1]⟩, 0) := by
    unfold meetT meetR
    rw [t1, t2]
    rfl
  have hag : agreeT [nB 5, nB 2, nB 1] [nB 0] = true := by unfold agreeT; rw [t3, t4]; rfl
  have hb1 : belowT [nB 5, nB 2, nB 1] [nB 0] = true := by unfold belowT; rw [t3, t4]; rfl
  have hb2 : belowT [nB 0] [nB 5, nB 2, nB 1] = false := by unfold belowT; rw [t3, t4]; rfl
  have hA : ArrowOf [nB 5, nB 2, nB 1] := ⟨_, _, _, rfl, rfl, short_nB, short_nB⟩
  have o1 : One [nB 5, nB 0, nB 1] := ⟨_, a1⟩
  have o2 : One [nB 5, nB 2, nB 0] := ⟨_, a2⟩
  have o3 : One [nB 5, nB 2, nB 1] := ⟨_, a3⟩
  have o4 : One [nB 0] := ⟨_, a4⟩
  simp only [Try.f15, Option.some.injEq] at hc
  subst hc
  refine awp_chk 2 (of_decide_eq_true (by kernel_rfl)) ?_
  (sym =>
     simp [hm, hag, hb1, hb2, enc_Node, isE_Node, dec_Node, node_eta, szN, eqb_Node, ctx_alive07_t, ctx_alive07_c, ctx_alive07_d, ctx_alive07_b, ctx_alive07_u, con_AgreeP.eq_def, con_BelowP.eq_def, con_MeetP.eq_def, con_Print3.eq_def, con_alive07.eq_def, zaa, zab, zac, zad, zae, zaf, zag, zan, zao, zap, zaq, zar, zas, zat, zav, zbc, zbd, zbl, zbm, zbn, zbo, zbp, zbq, zbr, zbs, zbt, zbu, zby, zca, zcb, zcc, zcd, zcf, zco, zcp, zcr, zcu, zcv, zcw, zcx, zcy, zcz, zda, zdb, zdc, zdd, zde, zdf, zdg, zdh, zdi, zdu, zdv, zdw, zec, zed, zee, zef, zeg, zeh, zei, zej, zek, zel, zem, zen, zeo, zep, zeq, zer, zes, zet, zeu, zev, zew, zex, zey, zez, zfa, zfb, zfc, zfd, zfe, zff, zfh, zfi, zfj, zfk, zfl, zfm, zfn, zfo, zfu, zfv, zfw, zfx, zfy, zfz, zga, zgc, zgd, zge, zgh, zgi, zgj, zgk, zgl, zgm, zgn, zgo, zgp, zgq, zgr, zgs, zgt, zgu, zgv, zgw, zgx, zgy, zgz, zha, zhb, zhc, zhd, zhe, zhf, zhg, zhh, zhi, zhj, zhk, zhn, zho, zhp, zhr, zhs, zht, zhu, zhv, zhw, zhx, zhy, zhz, zia, zib, zic, zid, zie, zif, zig, zih, zii, zij, zik, zil, zim, zin, zio, zip, ziq, zir, zis, zit, ziu, ziv, ziw, zix, ziy, ziz, zja, zjb, zjc, zjd, zje, zjf, zjg, zjh, zji, zjj, zjk, zjl, zjm, zjn, zjo, zjp, zjq, zjr, zjs, zjt, zju, zjv, zjw, zjx, zjy, zjz, zka, zkb, zkc, zkd, zke, zkf, zkg, zkh, zki, zkj, zkk, zkq, zkr, zks, zkt, zku, zkv, zkw, zkx, zky, zkz, zla, zlb, zlc, zld, zle, zlf, zlg, zlh, zli, zlj, zlk, zll, zlm, zln, zlo, zlp, zlq, zlr, zls, zlt, zlu, zlv, zlw, zlx, zly, zlz, zma, zmb, tab4, tab9, tab23, tab28, tab30]
     tactic =>
      try simp only [ncast] at *
      try simp only [Int.ofNat_eq_natCast] at *
      try simp (config := { maxSteps := 4000000 }) only [hm, hag, hb1, hb2, enc_Node, isE_Node, dec_Node, node_eta, szN, eqb_Node, con_AgreeP, con_BelowP, con_MeetP, con_Print3, con_alive07, Int.ofNat_eq_natCast, con0, con1, con2, con3, con2t, con3t, symD0, symD1, symD2, symD3, symD4, Nat.reduceAdd, Nat.reduceSub, Nat.reduceMul, Nat.reduceMod, Nat.reduceLT, Nat.reduceLeDiff, Nat.reduceEqDiff, Nat.reduceBEq, Obj.isBox, D.setCell, D.asAgg, setAll, allFit, AV.fits, lk, upd, standAt, freeAt, backTo, packD, Nat.reduceDiv, reduceIte, reduceCtorEq, skIs, skAll, SK.is, aggL, eqbAll, D.eqb, Nat.reduceBNe]
      repeat' (first | with_reducible assumption | with_reducible refine And.intro ?_ ?_ | intro _ | omega | (rw [inR_i64]; omega))
      rename_i h
      exact h rfl)

end Go.Am.Ty
