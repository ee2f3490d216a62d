/- Contracts of functions that the laws reach, and plain laws. Conditions: those that each contract states. -/
import Derived.Test.YtecgdmiigdfgdaaTyT16
import Derived.Test.YtecgdmiigdfgdaaTyR1
set_option linter.unusedSimpArgs false
set_option linter.unusedVariables false
set_option maxHeartbeats 1000000
namespace Go.Am.Ty
open Go.Proofs Go.Rose Go.Rose.Rose
open Enc (enc dec)

/-! ### INSIDE -/
structure Two where
  a : Sl Node
  b : Sl Node
instance encTwo : Enc Two := ⟨fun p => .agg [.list 3 (p.a.l.map enc), .list 3 (p.b.l.map enc)], fun x => match x with
  | .agg [a, b] => ⟨⟨a.l.map dec⟩, ⟨b.l.map dec⟩⟩
  | _ => ⟨⟨[]⟩, ⟨[]⟩⟩, fun p => by
    have h : ∀ l : List Node, (l.map (enc : Node → D)).map dec = l := fun l => map_dec_enc
    obtain ⟨⟨a⟩, ⟨b⟩⟩ := p
    simp [D.l, h]⟩
theorem enc_Two {a b : List Node} : (enc (Two.mk ⟨a⟩ ⟨b⟩) : D) = .agg [.list 3 (a.map enc), .list 3 (b.map enc)] := rfl
theorem ov_arrow {f : Bool} {x y u v : Rose Node} (hx : x.root.name = []) (hy : y.root.name = []) (hu : u.root.name = []) (hv : v.root.name = []) : ov f (mk n5 [x, y]) (mk n5 [u, v]) = (ov f x u && ov f y v) := by
  rw [ov_mk]
  simp only [root, kids, n5]
  rw [ovs, ovs, ovs, hx, hy, hu, hv]
  simp [sameN]
theorem mt_arrow {x y u v : Rose Node} : mt (mk n5 [x, y]) (mk n5 [u, v]) = mk n5 [mt x u, mt y v] := by
  rw [mt]
  simp only [root, kids, n5]
  rw [mts, mts, mts]
  simp
theorem meet_arrow {x y u v : Rose Node} (wx : wf ar x) (wy : wf ar y) (wu : wf ar u) (wv : wf ar v) (hx : x.root.name = []) (hy : y.root.name = []) (hu : u.root.name = []) (hv : v.root.name = []) :
    meetT (arrow3 (nds x) (nds y)) (arrow3 (nds u) (nds v)) = cond (ov false x u && ov false y v) (⟨arrow3 (nds (mt x u)) (nds (mt y v))⟩, 0) (⟨[]⟩, 9) := by
  rw [arrow3_tree, arrow3_tree, arrow3_tree, meetT_eq (arrow_wf wx wy) (arrow_wf wu wv), ov_arrow hx hy hu hv, mt_arrow]
theorem below_arrow {x y u v : Rose Node} (wx : wf ar x) (wy : wf ar y) (wu : wf ar u) (wv : wf ar v) (hx : x.root.name = []) (hy : y.root.name = []) (hu : u.root.name = []) (hv : v.root.name = []) :
    belowT (arrow3 (nds x) (nds y)) (arrow3 (nds u) (nds v)) = (ov true x u && ov true y v) := by
  rw [arrow3_tree, arrow3_tree, belowT_ov (arrow_wf wx wy) (arrow_wf wu wv), ov_arrow hx hy hu hv]
theorem named_arrow {a b : List Node} (ha : Named a) (hb : Named b) : Named (arrow3 a b) := by
  intro n hn
  unfold arrow3 at hn
  rw [List.mem_cons, List.mem_append] at hn
  rcases hn with rfl | h | h
  · simp
  · exact ha n h
  · exact hb n h
theorem arrow3_len {a b : List Node} : (arrow3 a b).length = a.length + b.length + 1 := by unfold arrow3; simp
theorem plain07_4 {a b c d : List Node} : plain07 [⟨a⟩, ⟨b⟩, ⟨c⟩, ⟨d⟩] = (plain7 a 60 && (plain7 b 60 && (plain7 c 60 && plain7 d 60))) := by
  unfold plain07
  simp [List.all_cons]
def con_PrecInside : Con := con2 (fun (p q : Two) => In p.a.l ∧ In p.b.l ∧ In q.a.l ∧ In q.b.l) (fun _ _ => true)
noncomputable def ctx_PrecInside : Ctx := ⟨tab, lkC [(14, con_plain07), (15, con_alive07), (16, con_BelowP), (22, con_One3), (23, con_Arrow3), (24, con_Plain7), (18, con_MeetP), (25, con_CallP)], 60, lkB [], []⟩
theorem ctx_PrecInside_t : ctx_PrecInside.τ = tab := rfl
theorem ctx_PrecInside_c : ctx_PrecInside.Γ = lkC [(14, con_plain07), (15, con_alive07), (16, con_BelowP), (22, con_One3), (23, con_Arrow3), (24, con_Plain7), (18, con_MeetP), (25, con_CallP)] := rfl
theorem ctx_PrecInside_d : ctx_PrecInside.dp = 60 := rfl
theorem ctx_PrecInside_b : ctx_PrecInside.Δ = lkB [] := rfl
theorem ctx_PrecInside_u : ctx_PrecInside.cuts = [] := rfl
set_option maxRecDepth 100000 in
theorem good_PrecInside : Good Try.prog (6, con_PrecInside) := by
  refine ⟨enters_of Try.func6 (by kernel_rfl) rfl, ?_⟩
  have K : CtxOk Try.prog ctx_PrecInside := ctxOk_of tabOk mixedOk (by
    intro p hp
    simp only [List.mem_cons, List.not_mem_nil, or_false] at hp
    rcases hp with rfl | rfl | rfl | rfl | rfl | rfl | rfl | rfl
    · exact good_plain07
    · exact good_alive07
    · exact good_BelowP
    · exact good_One3
    · exact good_Arrow3
    · exact good_Plain7
    · exact good_MeetP
    · exact good_CallP) (by simp)
  obtain ⟨c, hc⟩ : ∃ c, Try.f6.body = some c := ⟨_, rfl⟩
  refine fn_sound K Try.func6 hc [.tmp 4] rfl 152 rfl (fun cvs hpre => ?_)
  change con_PrecInside.pre cvs at hpre
  unfold con_PrecInside at hpre
  obtain ⟨⟨⟨a1⟩, ⟨a2⟩⟩, ⟨⟨b1⟩, ⟨b2⟩⟩, rfl, hI1, hI2, hI3, hI4⟩ := con2_pre hpre
  obtain ⟨h1, H1⟩ : In a1 := hI1
  obtain ⟨h2, H2⟩ : In a2 := hI2
  obtain ⟨h3, H3⟩ : In b1 := hI3
  obtain ⟨h4, H4⟩ : In b2 := hI4
  simp only [Try.f6, Option.some.injEq] at hc
  subst hc
  refine awp_chk 9 (of_decide_eq_true (by kernel_rfl)) ?_
  cases hp : plain07 [⟨a1⟩, ⟨a2⟩, ⟨b1⟩, ⟨b2⟩] with
  | false =>
    clear hpre K
    (sym =>
       simp [hp, enc_Two, enc_Node, isE_Node, dec_Node, node_eta, szN, eqb_Node, ctx_PrecInside_t, ctx_PrecInside_c, ctx_PrecInside_d, ctx_PrecInside_b, ctx_PrecInside_u, con_Arrow3.eq_def, con_BelowP.eq_def, con_CallP.eq_def, con_MeetP.eq_def, con_One3.eq_def, con_Plain7.eq_def, con_PrecInside.eq_def, con_alive07.eq_def, con_plain07.eq_def, zaa, zab, zac, zad, zae, zaf, zag, zah, zai, zaj, zak, zal, zam, zan, zao, zap, zaq, zar, zas, zat, zau, zav, zaz, zbc, zbh, zbl, zbm, zbn, zbo, zbp, zbq, zbr, zbs, zbt, zbu, zby, zbz, zca, zcb, zcc, zcd, zce, zcf, zco, zcp, zcr, zcs, zct, zcv, zcw, zcx, zcy, zcz, zda, zdb, zdc, zdd, zde, zdf, zdg, zdh, zdi, zdu, zdv, zdw, zec, zed, zee, zef, zeg, zeh, zei, zej, zek, zel, zem, zen, zeo, zep, zeq, zer, zes, zet, zeu, zev, zew, zex, zey, zez, zfa, zfb, zfc, zfd, zfe, zff, zfh, zfi, zfj, zfk, zfl, zfm, zfn, zfo, zfu, zfv, zfw, zfx, zfy, zfz, zga, zgc, zgd, zge, zgf, zgg, zgh, zgi, zgj, zgk, zgl, zgm, zgn, zgo, zgp, zgq, zgr, zgs, zgt, zgu, zgv, zgw, zgx, zgy, zgz, zha, zhb, zhc, zhd, zhe, zhf, zhg, zhh, zhi, zhj, zhk, zhn, zho, zhp, zhr, zhs, zht, zhu, zhv, zhw, zhx, zhy, zhz, zia, zib, zic, zid, zie, zif, zig, zih, zii, zij, zik, zil, zim, zin, zio, zip, ziq, zir, zis, zit, ziu, ziv, ziw, zix, ziy, ziz, zja, zjb, zjc, zjd, zje, zjf, zjg, zjh, zji, zjj, zjk, zjl, zjm, zjn, zjo, zjp, zjq, zjr, zjs, zjt, zju, zjv, zjw, zjx, zjy, zjz, zka, zkb, zkc, zkd, zke, zkf, zkg, zkh, zki, zkj, zkk, zkq, zkr, zks, zkt, zku, zkv, zkw, zkx, zky, zkz, zla, zlb, zlc, zld, zle, zlf, zlg, zlh, zli, zlj, zlk, zll, zlm, zln, zlo, zlp, zlq, zlr, zls, zlt, zlu, zlv, zlw, zlx, zly, zlz, zma, zmb, tab3, tab4, tab23, tab28, tab30, tab34, tab55]
       tactic =>
        try simp only [ncast] at *
        try simp only [Int.ofNat_eq_natCast] at *
        try simp (config := { maxSteps := 4000000 }) only [hp, enc_Two, enc_Node, isE_Node, dec_Node, node_eta, szN, eqb_Node, con_Arrow3, con_BelowP, con_CallP, con_MeetP, con_One3, con_Plain7, con_PrecInside, con_alive07, con_plain07, Int.ofNat_eq_natCast, con0, con1, con2, con3, con2t, con3t, symD0, symD1, symD2, symD3, symD4, Nat.reduceAdd, Nat.reduceSub, Nat.reduceMul, Nat.reduceMod, Nat.reduceLT, Nat.reduceLeDiff, Nat.reduceEqDiff, Nat.reduceBEq, Obj.isBox, D.setCell, D.asAgg, setAll, allFit, AV.fits, lk, upd, standAt, freeAt, backTo, packD, Nat.reduceDiv, reduceIte, reduceCtorEq, skIs, skAll, SK.is, aggL, eqbAll, D.eqb, Nat.reduceBNe]
        repeat' (first | with_reducible assumption | with_reducible refine And.intro ?_ ?_ | intro _ | omega | (rw [inR_i64]; omega)))
  | true =>
    have hp' := hp
    rw [plain07_4] at hp'
    simp only [Bool.and_eq_true] at hp'
    obtain ⟨p1, p2, p3, p4⟩ := hp'
    obtain ⟨l1, -, -, x, rfl, hx⟩ := plain7_rt p1
    obtain ⟨l2, -, -, y, rfl, hy⟩ := plain7_rt p2
    obtain ⟨l3, -, -, u, rfl, hu⟩ := plain7_rt p3
    obtain ⟨l4, -, -, v, rfl, hv⟩ := plain7_rt p4
    clear hpre K
    by_cases hsum : (100 : Int) < (nds x).length + (nds y).length + (nds u).length + (nds v).length
    · have hsb : ltB 100 ((((nds x).length : Int) + (nds y).length) + (nds u).length + (nds v).length) = true := by rw [ltB_true]; exact hsum
      (sym =>
         simp [hp, enc_Two, hsb, enc_Node, isE_Node, dec_Node, node_eta, szN, eqb_Node, ctx_PrecInside_t, ctx_PrecInside_c, ctx_PrecInside_d, ctx_PrecInside_b, ctx_PrecInside_u, con_Arrow3.eq_def, con_BelowP.eq_def, con_CallP.eq_def, con_MeetP.eq_def, con_One3.eq_def, con_Plain7.eq_def, con_PrecInside.eq_def, con_alive07.eq_def, con_plain07.eq_def, zaa, zab, zac, zad, zae, zaf, zag, zah, zai, zaj, zak, zal, zam, zan, zao, zap, zaq, zar, zas, zat, zau, zav, zaz, zbc, zbh, zbl, zbm, zbn, zbo, zbp, zbq, zbr, zbs, zbt, zbu, zby, zbz, zca, zcb, zcc, zcd, zce, zcf, zco, zcp, zcr, zcs, zct, zcv, zcw, zcx, zcy, zcz, zda, zdb, zdc, zdd, zde, zdf, zdg, zdh, zdi, zdu, zdv, zdw, zec, zed, zee, zef, zeg, zeh, zei, zej, zek, zel, zem, zen, zeo, zep, zeq, zer, zes, zet, zeu, zev, zew, zex, zey, zez, zfa, zfb, zfc, zfd, zfe, zff, zfh, zfi, zfj, zfk, zfl, zfm, zfn, zfo, zfu, zfv, zfw, zfx, zfy, zfz, zga, zgc, zgd, zge, zgf, zgg, zgh, zgi, zgj, zgk, zgl, zgm, zgn, zgo, zgp, zgq, zgr, zgs, zgt, zgu, zgv, zgw, zgx, zgy, zgz, zha, zhb, zhc, zhd, zhe, zhf, zhg, zhh, zhi, zhj, zhk, zhn, zho, zhp, zhr, zhs, zht, zhu, zhv, zhw, zhx, zhy, zhz, zia, zib, zic, zid, zie, zif, zig, zih, zii, zij, zik, zil, zim, zin, zio, zip, ziq, zir, zis, zit, ziu, ziv, ziw, zix, ziy, ziz, zja, zjb, zjc, zjd, zje, zjf, zjg, zjh, zji, zjj, zjk, zjl, zjm, zjn, zjo, zjp, zjq, zjr, zjs, zjt, zju, zjv, zjw, zjx, zjy, zjz, zka, zkb, zkc, zkd, zke, zkf, zkg, zkh, zki, zkj, zkk, zkq, zkr, zks, zkt, zku, zkv, zkw, zkx, zky, zkz, zla, zlb, zlc, zld, zle, zlf, zlg, zlh, zli, zlj, zlk, zll, zlm, zln, zlo, zlp, zlq, zlr, zls, zlt, zlu, zlv, zlw, zlx, zly, zlz, zma, zmb, tab3, tab4, tab23, tab28, tab30, tab34, tab55]
         tactic =>
          try simp only [ncast] at *
          try simp only [Int.ofNat_eq_natCast] at *
          try simp (config := { maxSteps := 4000000 }) only [hp, enc_Two, hsb, enc_Node, isE_Node, dec_Node, node_eta, szN, eqb_Node, con_Arrow3, con_BelowP, con_CallP, con_MeetP, con_One3, con_Plain7, con_PrecInside, con_alive07, con_plain07, Int.ofNat_eq_natCast, con0, con1, con2, con3, con2t, con3t, symD0, symD1, symD2, symD3, symD4, Nat.reduceAdd, Nat.reduceSub, Nat.reduceMul, Nat.reduceMod, Nat.reduceLT, Nat.reduceLeDiff, Nat.reduceEqDiff, Nat.reduceBEq, Obj.isBox, D.setCell, D.asAgg, setAll, allFit, AV.fits, lk, upd, standAt, freeAt, backTo, packD, Nat.reduceDiv, reduceIte, reduceCtorEq, skIs, skAll, SK.is, aggL, eqbAll, D.eqb, Nat.reduceBNe]
          repeat' (first | with_reducible assumption | with_reducible refine And.intro ?_ ?_ | intro _ | omega | (rw [inR_i64]; omega)))
    have hsb : ltB 100 ((((nds x).length : Int) + (nds y).length) + (nds u).length + (nds v).length) = false := by rw [ltB_false]; exact Int.not_lt.1 hsum
    have NX := named_arrow H1 H2
    have NY := named_arrow H3 H4
    have LX := arrow3_len (a := nds x) (b := nds y)
    have LY := arrow3_len (a := nds u) (b := nds v)
    have aX : ArrowT (arrow3 (nds x) (nds y)) := ⟨x, y, rfl, hx.wf, hy.wf, hx.name, hy.name⟩
    have oX : One (arrow3 (nds x) (nds y)) := by rw [arrow3_tree]; exact ⟨_, at_whole (arrow_wf hx.wf hy.wf)⟩
    have oY : One (arrow3 (nds u) (nds v)) := by rw [arrow3_tree]; exact ⟨_, at_whole (arrow_wf hu.wf hv.wf)⟩
    have ox : One (nds x) := ⟨x, at_whole hx.wf⟩
    have oy : One (nds y) := ⟨y, at_whole hy.wf⟩
    have ou : One (nds u) := ⟨u, at_whole hu.wf⟩
    have ov' : One (nds v) := ⟨v, at_whole hv.wf⟩
    have mA := meet_arrow hx.wf hy.wf hu.wf hv.wf hx.name hy.name hu.name hv.name
    have bA := below_arrow hx.wf hy.wf hu.wf hv.wf hx.name hy.name hu.name hv.name
    have m1 := meetT_eq hx.wf hu.wf
    have m2 := meetT_eq hy.wf hv.wf
    have b1 := belowT_ov hx.wf hu.wf
    have b2 := belowT_ov hy.wf hv.wf
    have cA := callT_eq hx.wf hy.wf
    have e1 : (nds x == nds x) = true := beq_self_eq_true _
    have e2 : (nds y == nds y) = true := beq_self_eq_true _
    have e3 : (arrow3 (nds (mt x u)) (nds (mt y v)) == arrow3 (nds (mt x u)) (nds (mt y v))) = true := beq_self_eq_true _
    have t1 := mt_len x u
    have t2 := mt_len y v
    have LZ := arrow3_len (a := nds (mt x u)) (b := nds (mt y v))
    cases hq1 : plain7 (arrow3 (nds x) (nds y)) 200 with
    | false =>
      (sym =>
         simp [hp, enc_Two, hsb, hq1, enc_Node, isE_Node, dec_Node, node_eta, szN, eqb_Node, ctx_PrecInside_t, ctx_PrecInside_c, ctx_PrecInside_d, ctx_PrecInside_b, ctx_PrecInside_u, con_Arrow3.eq_def, con_BelowP.eq_def, con_CallP.eq_def, con_MeetP.eq_def, con_One3.eq_def, con_Plain7.eq_def, con_PrecInside.eq_def, con_alive07.eq_def, con_plain07.eq_def, zaa, zab, zac, zad, zae, zaf, zag, zah, zai, zaj, zak, zal, zam, zan, zao, zap, zaq, zar, zas, zat, zau, zav, zaz, zbc, zbh, zbl, zbm, zbn, zbo, zbp, zbq, zbr, zbs, zbt, zbu, zby, zbz, zca, zcb, zcc, zcd, zce, zcf, zco, zcp, zcr, zcs, zct, zcv, zcw, zcx, zcy, zcz, zda, zdb, zdc, zdd, zde, zdf, zdg, zdh, zdi, zdu, zdv, zdw, zec, zed, zee, zef, zeg, zeh, zei, zej, zek, zel, zem, zen, zeo, zep, zeq, zer, zes, zet, zeu, zev, zew, zex, zey, zez, zfa, zfb, zfc, zfd, zfe, zff, zfh, zfi, zfj, zfk, zfl, zfm, zfn, zfo, zfu, zfv, zfw, zfx, zfy, zfz, zga, zgc, zgd, zge, zgf, zgg, zgh, zgi, zgj, zgk, zgl, zgm, zgn, zgo, zgp, zgq, zgr, zgs, zgt, zgu, zgv, zgw, zgx, zgy, zgz, zha, zhb, zhc, zhd, zhe, zhf, zhg, zhh, zhi, zhj, zhk, zhn, zho, zhp, zhr, zhs, zht, zhu, zhv, zhw, zhx, zhy, zhz, zia, zib, zic, zid, zie, zif, zig, zih, zii, zij, zik, zil, zim, zin, zio, zip, ziq, zir, zis, zit, ziu, ziv, ziw, zix, ziy, ziz, zja, zjb, zjc, zjd, zje, zjf, zjg, zjh, zji, zjj, zjk, zjl, zjm, zjn, zjo, zjp, zjq, zjr, zjs, zjt, zju, zjv, zjw, zjx, zjy, zjz, zka, zkb, zkc, zkd, zke, zkf, zkg, zkh, zki, zkj, zkk, zkq, zkr, zks, zkt, zku, zkv, zkw, zkx, zky, zkz, zla, zlb, zlc, zld, zle, zlf, zlg, zlh, zli, zlj, zlk, zll, zlm, zln, zlo, zlp, zlq, zlr, zls, zlt, zlu, zlv, zlw, zlx, zly, zlz, zma, zmb, tab3, tab4, tab23, tab28, tab30, tab34, tab55]
         tactic =>
          try simp only [ncast] at *
          try simp only [Int.ofNat_eq_natCast] at *
          try simp (config := { maxSteps := 4000000 }) only [hp, enc_Two, hsb, hq1, enc_Node, isE_Node, dec_Node, node_eta, szN, eqb_Node, con_Arrow3, con_BelowP, con_CallP, con_MeetP, con_One3, con_Plain7, con_PrecInside, con_alive07, con_plain07, Int.ofNat_eq_natCast, con0, con1, con2, con3, con2t, con3t, symD0, symD1, symD2, symD3, symD4, Nat.reduceAdd, Nat.reduceSub, Nat.reduceMul, Nat.reduceMod, Nat.reduceLT, Nat.reduceLeDiff, Nat.reduceEqDiff, Nat.reduceBEq, Obj.isBox, D.setCell, D.asAgg, setAll, allFit, AV.fits, lk, upd, standAt, freeAt, backTo, packD, Nat.reduceDiv, reduceIte, reduceCtorEq, skIs, skAll, SK.is, aggL, eqbAll, D.eqb, Nat.reduceBNe]
          repeat' (first | with_reducible assumption | with_reducible refine And.intro ?_ ?_ | intro _ | omega | (rw [inR_i64]; omega))
          all_goals (with_reducible refine okD_id ?_; kernel_rfl))
    | true =>
      cases hq2 : plain7 (arrow3 (nds u) (nds v)) 200 with
      | false =>
        (sym =>
           simp [hp, enc_Two, hsb, hq1, hq2, enc_Node, isE_Node, dec_Node, node_eta, szN, eqb_Node, ctx_PrecInside_t, ctx_PrecInside_c, ctx_PrecInside_d, ctx_PrecInside_b, ctx_PrecInside_u, con_Arrow3.eq_def, con_BelowP.eq_def, con_CallP.eq_def, con_MeetP.eq_def, con_One3.eq_def, con_Plain7.eq_def, con_PrecInside.eq_def, con_alive07.eq_def, con_plain07.eq_def, zaa, zab, zac, zad, zae, zaf, zag, zah, zai, zaj, zak, zal, zam, zan, zao, zap, zaq, zar, zas, zat, zau, zav, zaz, zbc, zbh, zbl, zbm, zbn, zbo, zbp, zbq, zbr, zbs, zbt, zbu, zby, zbz, zca, zcb, zcc, zcd, zce, zcf, zco, zcp, zcr, zcs, zct, zcv, zcw, zcx, zcy, zcz, zda, zdb, zdc, zdd, zde, zdf, zdg, zdh, zdi, zdu, zdv, zdw, zec, zed, zee, zef, zeg, zeh, zei, zej, zek, zel, zem, zen, zeo, zep, zeq, zer, zes, zet, zeu, zev, zew, zex, zey, zez, zfa, zfb, zfc, zfd, zfe, zff, zfh, zfi, zfj, zfk, zfl, zfm, zfn, zfo, zfu, zfv, zfw, zfx, zfy, zfz, zga, zgc, zgd, zge, zgf, zgg, zgh, zgi, zgj, zgk, zgl, zgm, zgn, zgo, zgp, zgq, zgr, zgs, zgt, zgu, zgv, zgw, zgx, zgy, zgz, zha, zhb, zhc, zhd, zhe, zhf, zhg, zhh, zhi, zhj, zhk, zhn, zho, zhp, zhr, zhs, zht, zhu, zhv, zhw, zhx, zhy, zhz, zia, zib, zic, zid, zie, zif, zig, zih, zii, zij, zik, zil, zim, zin, zio, zip, ziq, zir, zis, zit, ziu, ziv, ziw, zix, ziy, ziz, zja, zjb, zjc, zjd, zje, zjf, zjg, zjh, zji, zjj, zjk, zjl, zjm, zjn, zjo, zjp, zjq, zjr, zjs, zjt, zju, zjv, zjw, zjx, zjy, zjz, zka, zkb, zkc, zkd, zke, zkf, zkg, zkh, zki, zkj, zkk, zkq, zkr, zks, zkt, zku, zkv, zkw, zkx, zky, zkz, zla, zlb, zlc, zld, zle, zlf, zlg, zlh, zli, zlj, zlk, zll, zlm, zln, zlo, zlp, zlq, zlr, zls, zlt, zlu, zlv, zlw, zlx, zly, zlz, zma, zmb, tab3, tab4, tab23, tab28, tab30, tab34, tab55]
           tactic =>
            try simp only [ncast] at *
            try simp only [Int.ofNat_eq_natCast] at *
            try simp (config := { maxSteps := 4000000 }) only [hp, enc_Two, hsb, hq1, hq2, enc_Node, isE_Node, dec_Node, node_eta, szN, eqb_Node, con_Arrow3, con_BelowP, con_CallP, con_MeetP, con_One3, con_Plain7, con_PrecInside, con_alive07, con_plain07, Int.ofNat_eq_natCast, con0, con1, con2, con3, con2t, con3t, symD0, symD1, symD2, symD3, symD4, Nat.reduceAdd, Nat.reduceSub, Nat.reduceMul, Nat.reduceMod, Nat.reduceLT, Nat.reduceLeDiff, Nat.reduceEqDiff, Nat.reduceBEq, Obj.isBox, D.setCell, D.asAgg, setAll, allFit, AV.fits, lk, upd, standAt, freeAt, backTo, packD, Nat.reduceDiv, reduceIte, reduceCtorEq, skIs, skAll, SK.is, aggL, eqbAll, D.eqb, Nat.reduceBNe]
            repeat' (first | with_reducible assumption | with_reducible refine And.intro ?_ ?_ | intro _ | omega | (rw [inR_i64]; omega))
            all_goals (with_reducible refine okD_id ?_; kernel_rfl))
      | true =>
        cases ho1 : ov false x u with
        | false =>
          cases ho2 : ov false y v with
          | false =>
            rw [ho1, ho2] at mA
            rw [ho1] at m1
            rw [ho2] at m2
            simp only [Bool.and_true, Bool.and_false, cond_true, cond_false] at mA m1 m2
            (sym =>
               simp [hp, enc_Two, hsb, hq1, hq2, mA, m1, m2, bA, b1, b2, cA, e1, e2, e3, con1tt.eq_def, dec_PairB, isE_PairB, dec_PL, isE_PL, PL_l, con3q_d, enc_Pair, Pair_a, Pair_b, Pair_c, dynOf_t, dynOf_f, dec_PairT, dec_PairF, isE_PairT, isE_PairF, enc_Node, isE_Node, dec_Node, node_eta, szN, eqb_Node, ctx_PrecInside_t, ctx_PrecInside_c, ctx_PrecInside_d, ctx_PrecInside_b, ctx_PrecInside_u, con_Arrow3.eq_def, con_BelowP.eq_def, con_CallP.eq_def, con_MeetP.eq_def, con_One3.eq_def, con_Plain7.eq_def, con_PrecInside.eq_def, con_alive07.eq_def, con_plain07.eq_def, zaa, zab, zac, zad, zae, zaf, zag, zah, zai, zaj, zak, zal, zam, zan, zao, zap, zaq, zar, zas, zat, zau, zav, zaz, zbc, zbh, zbl, zbm, zbn, zbo, zbp, zbq, zbr, zbs, zbt, zbu, zby, zbz, zca, zcb, zcc, zcd, zce, zcf, zco, zcp, zcr, zcs, zct, zcv, zcw, zcx, zcy, zcz, zda, zdb, zdc, zdd, zde, zdf, zdg, zdh, zdi, zdu, zdv, zdw, zec, zed, zee, zef, zeg, zeh, zei, zej, zek, zel, zem, zen, zeo, zep, zeq, zer, zes, zet, zeu, zev, zew, zex, zey, zez, zfa, zfb, zfc, zfd, zfe, zff, zfh, zfi, zfj, zfk, zfl, zfm, zfn, zfo, zfu, zfv, zfw, zfx, zfy, zfz, zga, zgc, zgd, zge, zgf, zgg, zgh, zgi, zgj, zgk, zgl, zgm, zgn, zgo, zgp, zgq, zgr, zgs, zgt, zgu, zgv, zgw, zgx, zgy, zgz, zha, zhb, zhc, zhd, zhe, zhf, zhg, zhh, zhi, zhj, zhk, zhn, zho, zhp, zhr, zhs, zht, zhu, zhv, zhw, zhx, zhy, zhz, zia, zib, zic, zid, zie, zif, zig, zih, zii, zij, zik, zil, zim, zin, zio, zip, ziq, zir, zis, zit, ziu, ziv, ziw, zix, ziy, ziz, zja, zjb, zjc, zjd, zje, zjf, zjg, zjh, zji, zjj, zjk, zjl, zjm, zjn, zjo, zjp, zjq, zjr, zjs, zjt, zju, zjv, zjw, zjx, zjy, zjz, zka, zkb, zkc, zkd, zke, zkf, zkg, zkh, zki, zkj, zkk, zkq, zkr, zks, zkt, zku, zkv, zkw, zkx, zky, zkz, zla, zlb, zlc, zld, zle, zlf, zlg, zlh, zli, zlj, zlk, zll, zlm, zln, zlo, zlp, zlq, zlr, zls, zlt, zlu, zlv, zlw, zlx, zly, zlz, zma, zmb, tab3, tab4, tab23, tab28, tab30, tab34, tab55]
               tactic =>
                try simp only [ncast] at *
                try simp only [Int.ofNat_eq_natCast] at *
                try simp (config := { maxSteps := 4000000 }) only [hp, enc_Two, hsb, hq1, hq2, mA, m1, m2, bA, b1, b2, cA, e1, e2, e3, con1tt.eq_def, dec_PairB, isE_PairB, dec_PL, isE_PL, PL_l, con3q_d, enc_Pair, Pair_a, Pair_b, Pair_c, dynOf_t, dynOf_f, dec_PairT, dec_PairF, isE_PairT, isE_PairF, enc_Node, isE_Node, dec_Node, node_eta, szN, eqb_Node, con_Arrow3, con_BelowP, con_CallP, con_MeetP, con_One3, con_Plain7, con_PrecInside, con_alive07, con_plain07, Int.ofNat_eq_natCast, con0, con1, con2, con3, con2t, con3t, symD0, symD1, symD2, symD3, symD4, Nat.reduceAdd, Nat.reduceSub, Nat.reduceMul, Nat.reduceMod, Nat.reduceLT, Nat.reduceLeDiff, Nat.reduceEqDiff, Nat.reduceBEq, Obj.isBox, D.setCell, D.asAgg, setAll, allFit, AV.fits, lk, upd, standAt, freeAt, backTo, packD, Nat.reduceDiv, reduceIte, reduceCtorEq, skIs, skAll, SK.is, aggL, eqbAll, D.eqb, Nat.reduceBNe]
                repeat' (first | with_reducible assumption | with_reducible refine And.intro ?_ ?_ | intro _ | omega | (rw [inR_i64]; omega))
                all_goals first
                  | (with_reducible refine okD_id ?_; kernel_rfl)
                  | simp_all)
          | true =>
            rw [ho1, ho2] at mA
            rw [ho1] at m1
            rw [ho2] at m2
            simp only [Bool.and_true, Bool.and_false, cond_true, cond_false] at mA m1 m2
            (sym =>
               simp [hp, enc_Two, hsb, hq1, hq2, mA, m1, m2, bA, b1, b2, cA, e1, e2, e3, con1tt.eq_def, dec_PairB, isE_PairB, dec_PL, isE_PL, PL_l, con3q_d, enc_Pair, Pair_a, Pair_b, Pair_c, dynOf_t, dynOf_f, dec_PairT, dec_PairF, isE_PairT, isE_PairF, enc_Node, isE_Node, dec_Node, node_eta, szN, eqb_Node, ctx_PrecInside_t, ctx_PrecInside_c, ctx_PrecInside_d, ctx_PrecInside_b, ctx_PrecInside_u, con_Arrow3.eq_def, con_BelowP.eq_def, con_CallP.eq_def, con_MeetP.eq_def, con_One3.eq_def, con_Plain7.eq_def, con_PrecInside.eq_def, con_alive07.eq_def, con_plain07.eq_def, zaa, zab, zac, zad, zae, zaf, zag, zah, zai, zaj, zak, zal, zam, zan, zao, zap, zaq, zar, zas, zat, zau, zav, zaz, zbc, zbh, zbl, zbm, zbn, zbo, zbp, zbq, zbr, zbs, zbt, zbu, zby, zbz, zca, zcb, zcc, zcd, zce, zcf, zco, zcp, zcr, zcs, zct, zcv, zcw, zcx, zcy, zcz, zda, zdb, zdc, zdd, zde, zdf, zdg, zdh, zdi, zdu, zdv, zdw, zec, zed, zee, zef, zeg, zeh, zei, zej, zek, zel, zem, zen, zeo, zep, zeq, zer, zes, zet, zeu, zev, zew, zex, zey, zez, zfa, zfb, zfc, zfd, zfe, zff, zfh, zfi, zfj, zfk, zfl, zfm, zfn, zfo, zfu, zfv, zfw, zfx, zfy, zfz, zga, zgc, zgd, zge, zgf, zgg, zgh, zgi, zgj, zgk, zgl, zgm, zgn, zgo, zgp, zgq, zgr, zgs, zgt, zgu, zgv, zgw, zgx, zgy, zgz, zha, zhb, zhc, zhd, zhe, zhf, zhg, zhh, zhi, zhj, zhk, zhn, zho, zhp, zhr, zhs, zht, zhu, zhv, zhw, zhx, zhy, zhz, zia, zib, zic, zid, zie, zif, zig, zih, zii, zij, zik, zil, zim, zin, zio, zip, ziq, zir, zis, zit, ziu, ziv, ziw, zix, ziy, ziz, zja, zjb, zjc, zjd, zje, zjf, zjg, zjh, zji, zjj, zjk, zjl, zjm, zjn, zjo, zjp, zjq, zjr, zjs, zjt, zju, zjv, zjw, zjx, zjy, zjz, zka, zkb, zkc, zkd, zke, zkf, zkg, zkh, zki, zkj, zkk, zkq, zkr, zks, zkt, zku, zkv, zkw, zkx, zky, zkz, zla, zlb, zlc, zld, zle, zlf, zlg, zlh, zli, zlj, zlk, zll, zlm, zln, zlo, zlp, zlq, zlr, zls, zlt, zlu, zlv, zlw, zlx, zly, zlz, zma, zmb, tab3, tab4, tab23, tab28, tab30, tab34, tab55]
               tactic =>
                try simp only [ncast] at *
                try simp only [Int.ofNat_eq_natCast] at *
                try simp (config := { maxSteps := 4000000 }) only [hp, enc_Two, hsb, hq1, hq2, mA, m1, m2, bA, b1, b2, cA, e1, e2, e3, con1tt.eq_def, dec_PairB, isE_PairB, dec_PL, isE_PL, PL_l, con3q_d, enc_Pair, Pair_a, Pair_b, Pair_c, dynOf_t, dynOf_f, dec_PairT, dec_PairF, isE_PairT, isE_PairF, enc_Node, isE_Node, dec_Node, node_eta, szN, eqb_Node, con_Arrow3, con_BelowP, con_CallP, con_MeetP, con_One3, con_Plain7, con_PrecInside, con_alive07, con_plain07, Int.ofNat_eq_natCast, con0, con1, con2, con3, con2t, con3t, symD0, symD1, symD2, symD3, symD4, Nat.reduceAdd, Nat.reduceSub, Nat.reduceMul, Nat.reduceMod, Nat.reduceLT, Nat.reduceLeDiff, Nat.reduceEqDiff, Nat.reduceBEq, Obj.isBox, D.setCell, D.asAgg, setAll, allFit, AV.fits, lk, upd, standAt, freeAt, backTo, packD, Nat.reduceDiv, reduceIte, reduceCtorEq, skIs, skAll, SK.is, aggL, eqbAll, D.eqb, Nat.reduceBNe]
                repeat' (first | with_reducible assumption | with_reducible refine And.intro ?_ ?_ | intro _ | omega | (rw [inR_i64]; omega))
                all_goals first
                  | (with_reducible refine okD_id ?_; kernel_rfl)
                  | simp_all)
        | true =>
          cases ho2 : ov false y v with
          | false =>
            rw [ho1, ho2] at mA
            rw [ho1] at m1
            rw [ho2] at m2
            simp only [Bool.and_true, Bool.and_false, cond_true, cond_false] at mA m1 m2
            (sym =>
               simp [hp, enc_Two, hsb, hq1, hq2, mA, m1, m2, bA, b1, b2, cA, e1, e2, e3, con1tt.eq_def, dec_PairB, isE_PairB, dec_PL, isE_PL, PL_l, con3q_d, enc_Pair, Pair_a, Pair_b, Pair_c, dynOf_t, dynOf_f, dec_PairT, dec_PairF, isE_PairT, isE_PairF, enc_Node, isE_Node, dec_Node, node_eta, szN, eqb_Node, ctx_PrecInside_t, ctx_PrecInside_c, ctx_PrecInside_d, ctx_PrecInside_b, ctx_PrecInside_u, con_Arrow3.eq_def, con_BelowP.eq_def, con_CallP.eq_def, con_MeetP.eq_def, con_One3.eq_def, con_Plain7.eq_def, con_PrecInside.eq_def, con_alive07.eq_def, con_plain07.eq_def, zaa, zab, zac, zad, zae, zaf, zag, zah, zai, zaj, zak, zal, zam, zan, zao, zap, zaq, zar, zas, zat, zau, zav, zaz, zbc, zbh, zbl, zbm, zbn, zbo, zbp, zbq, zbr, zbs, zbt, zbu, zby, zbz, zca, zcb, zcc, zcd, zce, zcf, zco, zcp, zcr, zcs, zct, zcv, zcw, zcx, zcy, zcz, zda, zdb, zdc, zdd, zde, zdf, zdg, zdh, zdi, zdu, zdv, zdw, zec, zed, zee, zef, zeg, zeh, zei, zej, zek, zel, zem, zen, zeo, zep, zeq, zer, zes, zet, zeu, zev, zew, zex, zey, zez, zfa, zfb, zfc, zfd, zfe, zff, zfh, zfi, zfj, zfk, zfl, zfm, zfn, zfo, zfu, zfv, zfw, zfx, zfy, zfz, zga, zgc, zgd, zge, zgf, zgg, zgh, zgi, zgj, zgk, zgl, zgm, zgn, zgo, zgp, zgq, zgr, zgs, zgt, zgu, zgv, zgw, zgx, zgy, zgz, zha, zhb, zhc, zhd, zhe, zhf, zhg, zhh, zhi, zhj, zhk, zhn, zho, zhp, zhr, zhs, zht, zhu, zhv, zhw, zhx, zhy, zhz, zia, zib, zic, zid, zie, zif, zig, zih, zii, zij, zik, zil, zim, zin, zio, zip, ziq, zir, zis, zit, ziu, ziv, ziw, zix, ziy, ziz, zja, zjb, zjc, zjd, zje, zjf, zjg, zjh, zji, zjj, zjk, zjl, zjm, zjn, zjo, zjp, zjq, zjr, zjs, zjt, zju, zjv, zjw, zjx, zjy, zjz, zka, zkb, zkc, zkd, zke, zkf, zkg, zkh, zki, zkj, zkk, zkq, zkr, zks, zkt, zku, zkv, zkw, zkx, zky, zkz, zla, zlb, zlc, zld, zle, zlf, zlg, zlh, zli, zlj, zlk, zll, zlm, zln, zlo, zlp, zlq, zlr, zls, zlt, zlu, zlv, zlw, zlx, zly, zlz, zma, zmb, tab3, tab4, tab23, tab28, tab30, tab34, tab55]
               tactic =>
                try simp only [ncast] at *
                try simp only [Int.ofNat_eq_natCast] at *
                try simp (config := { maxSteps := 4000000 }) only [hp, enc_Two, hsb, hq1, hq2, mA, m1, m2, bA, b1, b2, cA, e1, e2, e3, con1tt.eq_def, dec_PairB, isE_PairB, dec_PL, isE_PL, PL_l, con3q_d, enc_Pair, Pair_a, Pair_b, Pair_c, dynOf_t, dynOf_f, dec_PairT, dec_PairF, isE_PairT, isE_PairF, enc_Node, isE_Node, dec_Node, node_eta, szN, eqb_Node, con_Arrow3, con_BelowP, con_CallP, con_MeetP, con_One3, con_Plain7, con_PrecInside, con_alive07, con_plain07, Int.ofNat_eq_natCast, con0, con1, con2, con3, con2t, con3t, symD0, symD1, symD2, symD3, symD4, Nat.reduceAdd, Nat.reduceSub, Nat.reduceMul, Nat.reduceMod, Nat.reduceLT, Nat.reduceLeDiff, Nat.reduceEqDiff, Nat.reduceBEq, Obj.isBox, D.setCell, D.asAgg, setAll, allFit, AV.fits, lk, upd, standAt, freeAt, backTo, packD, Nat.reduceDiv, reduceIte, reduceCtorEq, skIs, skAll, SK.is, aggL, eqbAll, D.eqb, Nat.reduceBNe]
                repeat' (first | with_reducible assumption | with_reducible refine And.intro ?_ ?_ | intro _ | omega | (rw [inR_i64]; omega))
                all_goals first
                  | (with_reducible refine okD_id ?_; kernel_rfl)
                  | simp_all)
          | true =>
            rw [ho1, ho2] at mA
            rw [ho1] at m1
            rw [ho2] at m2
            simp only [Bool.and_true, Bool.and_false, cond_true, cond_false] at mA m1 m2
            (sym =>
               simp [hp, enc_Two, hsb, hq1, hq2, mA, m1, m2, bA, b1, b2, cA, e1, e2, e3, con1tt.eq_def, dec_PairB, isE_PairB, dec_PL, isE_PL, PL_l, con3q_d, enc_Pair, Pair_a, Pair_b, Pair_c, dynOf_t, dynOf_f, dec_PairT, dec_PairF, isE_PairT, isE_PairF, enc_Node, isE_Node, dec_Node, node_eta, szN, eqb_Node, ctx_PrecInside_t, ctx_PrecInside_c, ctx_PrecInside_d, ctx_PrecInside_b, ctx_PrecInside_u, con_Arrow3.eq_def, con_BelowP.eq_def, con_CallP.eq_def, con_MeetP.eq_def, con_One3.eq_def, con_Plain7.eq_def, con_PrecInside.eq_def, con_alive07.eq_def, con_plain07.eq_def, zaa, zab, zac, zad, zae, zaf, zag, zah, zai, zaj, zak, zal, zam, zan, zao, zap, zaq, zar, zas, zat, zau, zav, zaz, zbc, zbh, zbl, zbm, zbn, zbo, zbp, zbq, zbr, zbs, zbt, zbu, zby, zbz, zca, zcb, zcc, zcd, zce, zcf, zco, zcp, zcr, zcs, zct, zcv, zcw, zcx, zcy, zcz, zda, zdb, zdc, zdd, zde, zdf, zdg, zdh, zdi, zdu, zdv, zdw, zec, zed, zee, zef, zeg, zeh, zei, zej, zek, zel, zem, zen, zeo, zep, zeq, zer, zes, zet, zeu, zev, zew, zex, zey, zez, zfa, zfb, zfc, zfd, zfe, zff, zfh, zfi, zfj, zfk, zfl, zfm, zfn, zfo, zfu, zfv, zfw, zfx, zfy, zfz, zga, zgc, zgd, zge, zgf, zgg, zgh, zgi, zgj, zgk, zgl, zgm, zgn, zgo, zgp, zgq, zgr, zgs, zgt, zgu, zgv, zgw, zgx, zgy, zgz, zha, zhb, zhc, zhd, zhe, zhf, zhg, zhh, zhi, zhj, zhk, zhn, zho, zhp, zhr, zhs, zht, zhu, zhv, zhw, zhx, zhy, zhz, zia, zib, zic, zid, zie, zif, zig, zih, zii, zij, zik, zil, zim, zin, zio, zip, ziq, zir, zis, zit, ziu, ziv, ziw, zix, ziy, ziz, zja, zjb, zjc, zjd, zje, zjf, zjg, zjh, zji, zjj, zjk, zjl, zjm, zjn, zjo, zjp, zjq, zjr, zjs, zjt, zju, zjv, zjw, zjx, zjy, zjz, zka, zkb, zkc, zkd, zke, zkf, zkg, zkh, zki, zkj, zkk, zkq, zkr, zks, zkt, zku, zkv, zkw, zkx, zky, zkz, zla, zlb, zlc, zld, zle, zlf, zlg, zlh, zli, zlj, zlk, zll, zlm, zln, zlo, zlp, zlq, zlr, zls, zlt, zlu, zlv, zlw, zlx, zly, zlz, zma, zmb, tab3, tab4, tab23, tab28, tab30, tab34, tab55]
               tactic =>
                try simp only [ncast] at *
                try simp only [Int.ofNat_eq_natCast] at *
                try simp (config := { maxSteps := 4000000 }) only [hp, enc_Two, hsb, hq1, hq2, mA, m1, m2, bA, b1, b2, cA, e1, e2, e3, con1tt.eq_def, dec_PairB, isE_PairB, dec_PL, isE_PL, PL_l, con3q_d, enc_Pair, Pair_a, Pair_b, Pair_c, dynOf_t, dynOf_f, dec_PairT, dec_PairF, isE_PairT, isE_PairF, enc_Node, isE_Node, dec_Node, node_eta, szN, eqb_Node, con_Arrow3, con_BelowP, con_CallP, con_MeetP, con_One3, con_Plain7, con_PrecInside, con_alive07, con_plain07, Int.ofNat_eq_natCast, con0, con1, con2, con3, con2t, con3t, symD0, symD1, symD2, symD3, symD4, Nat.reduceAdd, Nat.reduceSub, Nat.reduceMul, Nat.reduceMod, Nat.reduceLT, Nat.reduceLeDiff, Nat.reduceEqDiff, Nat.reduceBEq, Obj.isBox, D.setCell, D.asAgg, setAll, allFit, AV.fits, lk, upd, standAt, freeAt, backTo, packD, Nat.reduceDiv, reduceIte, reduceCtorEq, skIs, skAll, SK.is, aggL, eqbAll, D.eqb, Nat.reduceBNe]
                repeat' (first | with_reducible assumption | with_reducible refine And.intro ?_ ?_ | intro _ | omega | (rw [inR_i64]; omega))
                all_goals first
                  | (with_reducible refine okD_id ?_; kernel_rfl)
                  | simp_all)

theorem rdTwo : Rdt Try.prog 34 2 true Two (fun p => (p.a.l.length ≤ maxLen ∧ ∀ y ∈ p.a.l, y.name.length ≤ maxLen) ∧ p.b.l.length ≤ maxLen ∧ ∀ y ∈ p.b.l, y.name.length ≤ maxLen) :=
  (rd_array Try.underlying34 (by kernel_rfl) (by kernel_rfl) rdNodes).mono fun x h => by
    obtain ⟨ds, rfl, hl, h⟩ := h
    match ds, hl with
    | [a, b], _ =>
      obtain ⟨p, rfl, hp⟩ := h a (by simp)
      obtain ⟨q, rfl, hq⟩ := h b (by simp)
      exact ⟨⟨p, q⟩, rfl, hp, hq⟩

end Go.Am.Ty
