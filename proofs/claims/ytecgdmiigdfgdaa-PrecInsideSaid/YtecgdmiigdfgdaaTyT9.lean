/- Contracts of functions that the laws reach, and plain laws. Conditions: those that each contract states. -/
import Derived.Test.YtecgdmiigdfgdaaTyT8
set_option linter.unusedSimpArgs false
set_option linter.unusedVariables false
set_option maxHeartbeats 1000000
namespace Go.Am.Ty
open Go.Proofs Go.Rose Go.Rose.Rose
open Enc (enc dec)

/-! ### what both say -/
/-- What is told so far, and how far the first one has been told. -/
structure MS where
  out : Option (List Node)
  done : Nat
structure MX where
  a : List Node
  b : List Node
  st : MS
  i : Nat
  k : Nat
def boxed (a b : List Node) (s : MS) : List Obj := match s.out with
  | none => [.box false [.nils 3], .box false [.d (.list 3 (a.map enc))], .box false [.d (.int .i64 s.done)], .box false [.d (.list 3 (b.map enc))]]
  | some l => [.box false [.sl 90004 l.length], .box false [.d (.list 3 (a.map enc))], .box false [.d (.int .i64 s.done)], .box false [.d (.list 3 (b.map enc))], .row 3 (l.map enc) 0]
theorem boxed_n {a b : List Node} {d : Nat} : boxed a b ⟨none, d⟩ = [.box false [.nils 3], .box false [.d (.list 3 (a.map enc))], .box false [.d (.int .i64 d)], .box false [.d (.list 3 (b.map enc))]] := rfl
theorem boxed_s {a b l : List Node} {d : Nat} : boxed a b ⟨some l, d⟩ = [.box false [.sl 90004 l.length], .box false [.d (.list 3 (a.map enc))], .box false [.d (.int .i64 d)], .box false [.d (.list 3 (b.map enc))], .row 3 (l.map enc) 0] := rfl
/-- A ? is met: all up to it is told, and what stands in its place. -/
noncomputable def mstep (a b : List Node) (i k : Nat) (s : MS) : MS :=
  ⟨some (s.out.getD [] ++ (a.take i).drop s.done ++ (if (b.getD k n0).kind = 0 then (a.take (endT a i).toNat).drop i else (b.take (endT b k).toNat).drop k)), (endT a i).toNat⟩
noncomputable def bcon_MeetDyn : BCon where
  X := MX
  ok x := x.a.length ≤ 1000000 ∧ x.b.length ≤ 1000000 ∧ (∃ z, At ar x.a x.i z) ∧ (∃ z, At ar x.b x.k z) ∧ x.st.done ≤ x.i ∧ (x.st.out.getD []).length ≤ 1000000000
  args x := [.d (.int .i64 x.i), .d (.int .i64 x.k), .ref 90000 0, .ref 90001 0, .ref 90002 0, .ref 90003 0]
  objs x := boxed x.a x.b x.st
  res _ := .bool true
  post x := boxed x.a x.b (mstep x.a x.b x.i x.k x.st)
theorem mboxed {a b : List Node} {i k : Nat} {s : MS} : boxed a b (mstep a b i k s) = [.box false [.sl 90004 ((mstep a b i k s).out.getD []).length], .box false [.d (.list 3 (a.map enc))], .box false [.d (.int .i64 (mstep a b i k s).done)], .box false [.d (.list 3 (b.map enc))], .row 3 (((mstep a b i k s).out.getD []).map enc) 0] := rfl
theorem canon4 {k : Nat} : canon 4 [90000, 90001, 90002, 90003, k] := by
  intro j hj
  match j, hj with
  | 0, _ => rfl
  | 1, _ => rfl
  | 2, _ => rfl
  | 3, _ => rfl
theorem canon5 : canon 5 [90000, 90001, 90002, 90003, 90004] := by
  intro j hj
  match j, hj with
  | 0, _ => rfl
  | 1, _ => rfl
  | 2, _ => rfl
  | 3, _ => rfl
  | 4, _ => rfl
theorem hdp (p q : Nat) (l : List Node) : ((l.map (enc : Node → D)).take p).drop q = ((l.take p).drop q).map enc := by rw [List.map_drop, List.map_take]
noncomputable def bctx_MeetDyn : Ctx := ⟨tab, lkC [(45, con_EndT)], 60, lkB [], []⟩
theorem bctx_MeetDyn_t : bctx_MeetDyn.τ = tab := rfl
theorem bctx_MeetDyn_c : bctx_MeetDyn.Γ = lkC [(45, con_EndT)] := rfl
theorem bctx_MeetDyn_d : bctx_MeetDyn.dp = 60 := rfl
theorem bctx_MeetDyn_b : bctx_MeetDyn.Δ = lkB [] := rfl
theorem bctx_MeetDyn_u : bctx_MeetDyn.cuts = [] := rfl
set_option maxRecDepth 100000 in
theorem goodb_MeetDyn : GoodB Try.prog (44, bcon_MeetDyn) := by
  refine ⟨enters_of Try.func44 (by kernel_rfl) rfl, ?_⟩
  have K : CtxOk Try.prog bctx_MeetDyn := ctxOk_of tabOk mixedOk (by
    intro p hp
    simp only [List.mem_cons, List.not_mem_nil, or_false] at hp
    rcases hp with rfl
    · exact good_EndT) (by simp)
  obtain ⟨c, hc⟩ : ∃ c, Try.f44.body = some c := ⟨_, rfl⟩
  refine fn_soundB K Try.func44 hc [.tmp 8] rfl 38 rfl (fun x hok => ?_)
  obtain ⟨a, b, ⟨o, d⟩, i, k⟩ := x
  obtain ⟨ha, hb, ⟨x, hx⟩, ⟨y, hy⟩, hd, ho⟩ := hok
  simp only at ha hb hx hy hd ho
  have hix := hx.le
  have hky := hy.le
  have hil := hx.lt
  have hkl := hy.lt
  have hex : endT a i = ((i + (nds x).length : Nat) : Int) := endT_at hx
  have hey : endT b k = ((k + (nds y).length : Nat) : Int) := endT_at hy
  have hwx := at_whl hx
  have hwy := at_whl hy
  have hm : mstep a b i k ⟨o, d⟩ = ⟨some (o.getD [] ++ (a.take i).drop d ++ (if (b.getD k n0).kind = 0 then (a.take (i + (nds x).length)).drop i else (b.take (k + (nds y).length)).drop k)), i + (nds x).length⟩ := by
    unfold mstep
    rw [hex, hey]
    rfl
  cases o with
  | none =>
    refine ⟨?_, ?_, ?_, ?_, ?_⟩
    · show Tied [.d (.int .i64 i), .d (.int .i64 k), .ref 90000 0, .ref 90001 0, .ref 90002 0, .ref 90003 0] (boxed a b ⟨none, d⟩)
      rw [boxed_n]
      simp [Tied, tiedAll, Obj.tied, noneFixed, keptAll, AV.kept, mkObjs, mkFrom, lk]
    · show noneFixed (boxed a b ⟨none, d⟩)
      rw [boxed_n]
      simp [noneFixed]
    · show Tied [] (boxed a b (mstep a b i k ⟨none, d⟩))
      rw [mboxed]
      simp [Tied, tiedAll, Obj.tied, noneFixed, keptAll, AV.kept, mkObjs, mkFrom, lk]
    · show (boxed a b ⟨none, d⟩).length ≤ (boxed a b (mstep a b i k ⟨none, d⟩)).length
      rw [mboxed, boxed_n]
      simp
    · show awp _ _ (PostB _ _ (boxed a b ⟨none, d⟩).length (.bool true) (boxed a b (mstep a b i k ⟨none, d⟩))) ⟨[.d (.int .i64 i), .d (.int .i64 k), .ref 90000 0, .ref 90001 0, .ref 90002 0, .ref 90003 0] ++ deads 32, mkObjs (boxed a b ⟨none, d⟩)⟩
      rw [mboxed, boxed_n, hm]
      simp only [Try.f44, Option.some.injEq] at hc
      subst hc
      refine awp_chk 2 (of_decide_eq_true (by kernel_rfl)) ?_
      have zz1 := el_enc n0 hkl
      (sym =>
         simp [zz1, hex, hey, enc_Node, isE_Node, dec_Node, node_eta, szN, eqb_Node, bctx_MeetDyn_t, bctx_MeetDyn_c, bctx_MeetDyn_d, bctx_MeetDyn_b, bctx_MeetDyn_u, con_EndT.eq_def, zaa, zab, zac, zae, zaf, zag, zah, zai, zaj, zak, zal, zam, zan, zao, zap, zaq, zar, zas, zav, zaw, zax, zaz, zbb, zbf, zbg, zbm, zbn, zbo, zbp, zbq, zbr, zbs, zbt, zbu, zbw, zbx, zby, zbz, zca, zcb, zcc, zcd, zce, zcf, zcg, zch, zci, zcj, zck, zco, zcp, zcq, zcr, zcs, zct, zcv, zcw, zcx, zdc, zde, zdf, zdg, zdh, zdi, zdj, zdk, zdl, zdm, zdn, zdo, zdq, zdr, zds, zdt, zdu, zdv, zdw, zea, zeb, zec, zed, zee, zef, zeg, zeh, zei, zej, zek, zel, zem, zen, zeq, zer, zes, zet, zeu, zev, zew, zex, zey, zez, zfa, zfb, zfc, zfd, zfe, zff, zfg, zfh, zfi, zfj, zfk, zfl, zfm, zfn, zfo, zfu, zfv, zfw, zfx, zfy, zfz, zga, zgc, zgd, zge, zgf, zgg, zgh, zgi, zgj, zgk, zgl, zgm, zgn, zgo, zgp, zgq, zgr, zgs, zgt, zgu, zgv, zgw, zgx, zgy, zgz, zha, zhb, zhc, zhd, zhe, zhf, zhg, zhh, zhi, zhj, zhk, zhl, zhm, zhn, zho, zhp, zhr, zhs, zht, zhu, zhv, zhw, zhx, zhy, zhz, zia, zib, zic, zid, zie, zif, zig, zih, zii, zij, zik, zil, zim, zin, zio, zip, ziq, zir, zis, zit, ziu, ziv, ziw, zix, ziy, ziz, zja, zjb, zjc, zjd, zje, zjf, zjg, zjh, zji, zjj, zjk, zjl, zjm, zjn, zjo, zjp, zjq, zjr, zjs, zjt, zju, zjv, zjw, zjx, zjy, zjz, zka, zkb, zkc, zkd, zke, zkf, zkg, zkh, zki, zkj, zkk, zkl, zkm, zkn, zko, zkp, zkq, zkr, zku, zkv, zkw, zkx, zky, zkz, zla, zlb, zlc, zld, zle, zlf, zlg, zlh, zli, zlj, zlk, zll, zlm, zln, zlo, zlp, zlq, zlr, zls, zlt, zlu, zlv, zlw, zlx, zly, zlz, zma, zmb, tab3, tab23, tab28]
         tactic =>
          try simp only [ncast] at *
          try simp only [Int.ofNat_eq_natCast] at *
          try simp (config := { maxSteps := 4000000 }) only [zz1, hex, hey, enc_Node, isE_Node, dec_Node, node_eta, szN, eqb_Node, con_EndT, Int.ofNat_eq_natCast, con0, con1, con2, con3, con2t, con3t, symD0, symD1, symD2, symD3, symD4, Nat.reduceAdd, Nat.reduceSub, Nat.reduceMul, Nat.reduceMod, Nat.reduceLT, Nat.reduceLeDiff, Nat.reduceEqDiff, Nat.reduceBEq, Obj.isBox, D.setCell, D.asAgg, setAll, allFit, AV.fits, lk, upd, standAt, freeAt, backTo, packD, Nat.reduceDiv, reduceIte, reduceCtorEq, skIs, skAll, SK.is, aggL, eqbAll, D.eqb, Nat.reduceBNe]
          repeat' (first | with_reducible assumption | with_reducible refine And.intro ?_ ?_ | intro _ | omega | (rw [inR_i64]; omega))
          all_goals first
            | (with_reducible refine okD_id ?_; kernel_rfl)
            | (simp only [List.length_append, List.length_drop, List.length_take, List.length_map]; omega)
            | (rename_i hb0
               refine ⟨[90000, 90001, 90002, 90003, 14], by simp, rfl, canon4, ?_⟩
               simp only [hb0, if_true, if_false]
               simp [lk, rnO, rnA, rnAs, rk, standAt, Nat.add_assoc]))
  | some l =>
    simp only [Option.getD_some] at ho hm
    refine ⟨?_, ?_, ?_, ?_, ?_⟩
    · show Tied [.d (.int .i64 i), .d (.int .i64 k), .ref 90000 0, .ref 90001 0, .ref 90002 0, .ref 90003 0] (boxed a b ⟨some l, d⟩)
      rw [boxed_s]
      simp [Tied, tiedAll, Obj.tied, noneFixed, keptAll, AV.kept, mkObjs, mkFrom, lk]
    · show noneFixed (boxed a b ⟨some l, d⟩)
      rw [boxed_s]
      simp [noneFixed]
    · show Tied [] (boxed a b (mstep a b i k ⟨some l, d⟩))
      rw [mboxed]
      simp [Tied, tiedAll, Obj.tied, noneFixed, keptAll, AV.kept, mkObjs, mkFrom, lk]
    · show (boxed a b ⟨some l, d⟩).length ≤ (boxed a b (mstep a b i k ⟨some l, d⟩)).length
      rw [mboxed, boxed_s]
      simp
    · show awp _ _ (PostB _ _ (boxed a b ⟨some l, d⟩).length (.bool true) (boxed a b (mstep a b i k ⟨some l, d⟩))) ⟨[.d (.int .i64 i), .d (.int .i64 k), .ref 90000 0, .ref 90001 0, .ref 90002 0, .ref 90003 0] ++ deads 32, mkObjs (boxed a b ⟨some l, d⟩)⟩
      rw [mboxed, boxed_s, hm]
      simp only [Try.f44, Option.some.injEq] at hc
      subst hc
      refine awp_chk 2 (of_decide_eq_true (by kernel_rfl)) ?_
      have zz2 := el_enc n0 hkl
      (sym =>
         simp [zz2, hex, hey, enc_Node, isE_Node, dec_Node, node_eta, szN, eqb_Node, bctx_MeetDyn_t, bctx_MeetDyn_c, bctx_MeetDyn_d, bctx_MeetDyn_b, bctx_MeetDyn_u, con_EndT.eq_def, zaa, zab, zac, zae, zaf, zag, zah, zai, zaj, zak, zal, zam, zan, zao, zap, zaq, zar, zas, zav, zaw, zax, zaz, zbb, zbf, zbg, zbm, zbn, zbo, zbp, zbq, zbr, zbs, zbt, zbu, zbw, zbx, zby, zbz, zca, zcb, zcc, zcd, zce, zcf, zcg, zch, zci, zcj, zck, zco, zcp, zcq, zcr, zcs, zct, zcv, zcw, zcx, zdc, zde, zdf, zdg, zdh, zdi, zdj, zdk, zdl, zdm, zdn, zdo, zdq, zdr, zds, zdt, zdu, zdv, zdw, zea, zeb, zec, zed, zee, zef, zeg, zeh, zei, zej, zek, zel, zem, zen, zeq, zer, zes, zet, zeu, zev, zew, zex, zey, zez, zfa, zfb, zfc, zfd, zfe, zff, zfg, zfh, zfi, zfj, zfk, zfl, zfm, zfn, zfo, zfu, zfv, zfw, zfx, zfy, zfz, zga, zgc, zgd, zge, zgf, zgg, zgh, zgi, zgj, zgk, zgl, zgm, zgn, zgo, zgp, zgq, zgr, zgs, zgt, zgu, zgv, zgw, zgx, zgy, zgz, zha, zhb, zhc, zhd, zhe, zhf, zhg, zhh, zhi, zhj, zhk, zhl, zhm, zhn, zho, zhp, zhr, zhs, zht, zhu, zhv, zhw, zhx, zhy, zhz, zia, zib, zic, zid, zie, zif, zig, zih, zii, zij, zik, zil, zim, zin, zio, zip, ziq, zir, zis, zit, ziu, ziv, ziw, zix, ziy, ziz, zja, zjb, zjc, zjd, zje, zjf, zjg, zjh, zji, zjj, zjk, zjl, zjm, zjn, zjo, zjp, zjq, zjr, zjs, zjt, zju, zjv, zjw, zjx, zjy, zjz, zka, zkb, zkc, zkd, zke, zkf, zkg, zkh, zki, zkj, zkk, zkl, zkm, zkn, zko, zkp, zkq, zkr, zku, zkv, zkw, zkx, zky, zkz, zla, zlb, zlc, zld, zle, zlf, zlg, zlh, zli, zlj, zlk, zll, zlm, zln, zlo, zlp, zlq, zlr, zls, zlt, zlu, zlv, zlw, zlx, zly, zlz, zma, zmb, tab3, tab23, tab28]
         tactic =>
          try simp only [ncast] at *
          try simp only [Int.ofNat_eq_natCast] at *
          try simp (config := { maxSteps := 4000000 }) only [zz2, hex, hey, enc_Node, isE_Node, dec_Node, node_eta, szN, eqb_Node, con_EndT, Int.ofNat_eq_natCast, con0, con1, con2, con3, con2t, con3t, symD0, symD1, symD2, symD3, symD4, Nat.reduceAdd, Nat.reduceSub, Nat.reduceMul, Nat.reduceMod, Nat.reduceLT, Nat.reduceLeDiff, Nat.reduceEqDiff, Nat.reduceBEq, Obj.isBox, D.setCell, D.asAgg, setAll, allFit, AV.fits, lk, upd, standAt, freeAt, backTo, packD, Nat.reduceDiv, reduceIte, reduceCtorEq, skIs, skAll, SK.is, aggL, eqbAll, D.eqb, Nat.reduceBNe]
          repeat' (first | with_reducible assumption | with_reducible refine And.intro ?_ ?_ | intro _ | omega | (rw [inR_i64]; omega))
          all_goals first
            | (with_reducible refine okD_id ?_; kernel_rfl)
            | (simp only [List.length_append, List.length_drop, List.length_take, List.length_map]; omega)
            | (rename_i hb0
               refine ⟨[90000, 90001, 90002, 90003, 90004], by simp, rfl, canon5, ?_⟩
               simp only [hb0, if_true, if_false]
               simp [lk, rnO, rnA, rnAs, rk, standAt, Nat.add_assoc]))

end Go.Am.Ty
