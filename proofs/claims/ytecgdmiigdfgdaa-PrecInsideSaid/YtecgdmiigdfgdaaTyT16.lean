/- Contracts of functions that the laws reach, and plain laws. Conditions: those that each contract states. -/
import Derived.Test.YtecgdmiigdfgdaaTyT15
set_option linter.unusedSimpArgs false
set_option linter.unusedVariables false
set_option maxHeartbeats 1000000
namespace Go.Am.Ty
open Go.Proofs Go.Rose Go.Rose.Rose
open Enc (enc dec)

/-! ### a part of a type -/
/-- One argument; a slice of the caller's own comes back. -/
def con1w {A B : Type} [Enc A] [Enc B] [Sz B] (p : A → Prop) (f : A → List B) : Con := ⟨[false], [true], fun c => match c with
  | [.d x] => isE A x ∧ p (dec x)
  | _ => False, fun c => match c with
  | [.d x] => .own (Sz.sz B) ((f (dec x)).map enc)
  | _ => .d .nilp⟩
theorem con1w_pre {A B : Type} [Enc A] [Enc B] [Sz B] {p : A → Prop} {f : A → List B} {c : List CV} (h : (con1w p f).pre c) : ∃ a, c = [.d (enc a)] ∧ p a := by
  unfold con1w at h
  simp only at h
  split at h
  · next x => exact ⟨dec x, by rw [← h.1], h.2⟩
  · exact h.elim
theorem neL_mk {s : Nat} {l : List D} : neL (.list s l) = (l ≠ []) := rfl
def con_cloneNodes : Con := con1w (fun (t : Sl Node) => t.l ≠ [] ∧ t.l.length ≤ 1000000000) (fun t => t.l)
theorem con_cloneNodes_d : con_cloneNodes = con1w (fun (t : Sl Node) => t.l ≠ [] ∧ t.l.length ≤ 1000000000) (fun t => t.l) := rfl
noncomputable def ctx_cloneNodes : Ctx := ⟨tab, lkC [], 60, lkB [], []⟩
theorem ctx_cloneNodes_t : ctx_cloneNodes.τ = tab := rfl
theorem ctx_cloneNodes_c : ctx_cloneNodes.Γ = lkC [] := rfl
theorem ctx_cloneNodes_d : ctx_cloneNodes.dp = 60 := rfl
theorem ctx_cloneNodes_b : ctx_cloneNodes.Δ = lkB [] := rfl
theorem ctx_cloneNodes_u : ctx_cloneNodes.cuts = [] := rfl
set_option maxRecDepth 100000 in
theorem good_cloneNodes : Good Try.prog (81, con_cloneNodes) := by
  refine ⟨enters_of Try.func81 (by kernel_rfl) rfl, ?_⟩
  have K : CtxOk Try.prog ctx_cloneNodes := ctxOk_of tabOk mixedOk (by simp) (by simp)
  obtain ⟨c, hc⟩ : ∃ c, Try.f81.body = some c := ⟨_, rfl⟩
  refine fn_sound K Try.func81 hc [.tmp 2] rfl 8 rfl (fun cvs hpre => ?_)
  change con_cloneNodes.pre cvs at hpre
  unfold con_cloneNodes at hpre
  obtain ⟨⟨t⟩, rfl, hn, ht⟩ := con1w_pre hpre
  simp only at hn ht
  simp only [Try.f81, Option.some.injEq] at hc
  subst hc
  have hm : t.map (enc : Node → D) ≠ [] := by simpa using hn
  (sym =>
     simp [con1w.eq_def, neL_mk, hm, enc_Node, isE_Node, dec_Node, node_eta, szN, eqb_Node, ctx_cloneNodes_t, ctx_cloneNodes_c, ctx_cloneNodes_d, ctx_cloneNodes_b, ctx_cloneNodes_u, con_cloneNodes.eq_def, zaa, zab, zac, zae, zaf, zag, zan, zao, zap, zaq, zar, zas, zav, zbc, zbf, zbg, zbo, zbp, zbq, zbu, zby, zca, zcb, zcc, zcd, zcf, zco, zcp, zcr, zcv, zcx, zcy, zcz, zda, zdb, zdc, zdd, zde, zdf, zdg, zdh, zdi, zdv, zdw, zec, zed, zeo, zep, zeq, zer, zes, zet, zeu, zev, zew, zex, zey, zez, zfa, zfb, zfc, zff, zfh, zfi, zfj, zfk, zfl, zfm, zfn, zfo, zfu, zfv, zfw, zfx, zfy, zfz, zga, zgc, zgd, zge, zgh, zgi, zgj, zgk, zgl, zgm, zgn, zgo, zgp, zgq, zgr, zgs, zgt, zgu, zgv, zgw, zgx, zgy, zgz, zha, zhb, zhc, zhd, zhe, zhf, zhg, zhh, zhi, zhj, zhk, zhr, zhs, zht, zhu, zhv, zhw, zhx, zhy, zhz, zia, zib, zic, zid, zie, zif, zig, zih, zii, zij, zik, zil, zim, zin, zio, zip, ziq, zir, zis, zit, ziu, ziv, ziw, zix, ziy, ziz, zja, zjb, zjc, zjd, zje, zjf, zjg, zjh, zji, zjj, zjk, zjl, zjm, zjn, zjo, zjp, zjq, zjr, zjs, zjt, zju, zjv, zjw, zjx, zjy, zjz, zka, zkb, zkc, zkd, zke, zkf, zkg, zkh, zki, zkj, zkk, zkq, zkr, zks, zkt, zku, zkv, zkw, zkx, zky, zkz, zla, zlb, zlc, zld, zle, zlf, zlg, zlh, zli, zlj, zlk, zll, zlm, zln, zlo, zlp, zlq, zlr, zls, zlt, zlu, zlv, zlw, zlx, zly, zlz, zma, zmb, tab23, tab28]
     tactic =>
      try simp only [ncast] at *
      try simp only [Int.ofNat_eq_natCast] at *
      try simp (config := { maxSteps := 4000000 }) only [con1w.eq_def, neL_mk, hm, enc_Node, isE_Node, dec_Node, node_eta, szN, eqb_Node, con_cloneNodes, Int.ofNat_eq_natCast, con0, con1, con2, con3, con2t, con3t, symD0, symD1, symD2, symD3, symD4, Nat.reduceAdd, Nat.reduceSub, Nat.reduceMul, Nat.reduceMod, Nat.reduceLT, Nat.reduceLeDiff, Nat.reduceEqDiff, Nat.reduceBEq, Obj.isBox, D.setCell, D.asAgg, setAll, allFit, AV.fits, lk, upd, standAt, freeAt, backTo, packD, Nat.reduceDiv, reduceIte, reduceCtorEq, skIs, skAll, SK.is, aggL, eqbAll, D.eqb, Nat.reduceBNe]
      repeat' (first | with_reducible assumption | with_reducible refine And.intro ?_ ?_ | intro _ | omega | (rw [inR_i64]; omega))
      all_goals simp_all)

/-- What stands first has no name. -/
def clr : List Node → List Node
  | [] => []
  | n :: r => ⟨n.kind, [], n.n⟩ :: r
theorem clr_of {l : List Node} (h : (l.getD 0 n0).name = []) : clr l = l := by
  cases l with
  | nil => rfl
  | cons n r => cases n; simp at h; subst h; rfl
noncomputable def con_PartT : Con := con2 (fun (t : Sl Node) (i : Int) => t.l.length ≤ 1000000000 ∧ 0 ≤ i ∧ ∃ x, At ar t.l i.toNat x) (fun t i => Sl.mk (clr (nds (treeAt ar t.l i.toNat))))
noncomputable def ctx_PartT : Ctx := ⟨tab, lkC [(45, con_EndT), (81, con_cloneNodes)], 60, lkB [], []⟩
theorem ctx_PartT_t : ctx_PartT.τ = tab := rfl
theorem ctx_PartT_c : ctx_PartT.Γ = lkC [(45, con_EndT), (81, con_cloneNodes)] := rfl
theorem ctx_PartT_d : ctx_PartT.dp = 60 := rfl
theorem ctx_PartT_b : ctx_PartT.Δ = lkB [] := rfl
theorem ctx_PartT_u : ctx_PartT.cuts = [] := rfl
set_option maxRecDepth 100000 in
theorem good_PartT : Good Try.prog (51, con_PartT) := by
  refine ⟨enters_of Try.func51 (by kernel_rfl) rfl, ?_⟩
  have K : CtxOk Try.prog ctx_PartT := ctxOk_of tabOk mixedOk (by
    intro p hp
    simp only [List.mem_cons, List.not_mem_nil, or_false] at hp
    rcases hp with rfl | rfl
    · exact good_EndT
    · exact good_cloneNodes) (by simp)
  obtain ⟨c, hc⟩ : ∃ c, Try.f51.body = some c := ⟨_, rfl⟩
  refine fn_sound K Try.func51 hc [.tmp 4] rfl 25 rfl (fun cvs hpre => ?_)
  change con_PartT.pre cvs at hpre
  unfold con_PartT at hpre
  obtain ⟨⟨t⟩, i, rfl, ht, hi, x, hx⟩ := con2_pre hpre
  simp only at ht hx
  obtain ⟨i, rfl⟩ : ∃ n : Nat, i = n := ⟨i.toNat, by omega⟩
  simp only [Int.toNat_natCast] at hx
  have hw : Whole t i := at_whl hx
  have he := endT_at hx
  have hle := hx.le
  have hp := nds_pos x
  have hcut := take_drop_at hx
  have htr : treeAt ar t i = x := treeAt_eq hx
  have hmc : List.drop i (List.take (i + (nds x).length) (t.map (enc : Node → D))) = (nds x).map enc := by rw [← List.map_take, ← List.map_drop, hcut]
  simp only [Try.f51, Option.some.injEq] at hc
  subst hc
  (sym =>
     simp [con1w.eq_def, neL_mk, he, htr, hmc, Int.toNat_natCast, enc_Node, isE_Node, dec_Node, node_eta, szN, eqb_Node, ctx_PartT_t, ctx_PartT_c, ctx_PartT_d, ctx_PartT_b, ctx_PartT_u, con_EndT.eq_def, con_PartT.eq_def, con_cloneNodes.eq_def, zaa, zab, zac, zad, zae, zaf, zag, zan, zao, zap, zaq, zar, zas, zat, zav, zaw, zax, zaz, zbb, zbh, zbm, zbn, zbo, zbp, zbq, zbr, zbs, zbt, zbu, zbw, zbx, zby, zbz, zca, zcb, zcc, zcd, zcf, zco, zcp, zcr, zcv, zcw, zcx, zdc, zde, zdf, zdg, zdh, zdi, zdq, zdr, zds, zdt, zdv, zdw, zea, zeb, zec, zed, zeq, zer, zes, zet, zeu, zev, zew, zex, zey, zez, zfa, zfb, zfc, zff, zfg, zfh, zfi, zfj, zfk, zfl, zfm, zfn, zfo, zfu, zfv, zfw, zfx, zfy, zfz, zga, zgc, zgd, zge, zgh, zgi, zgj, zgk, zgl, zgm, zgn, zgo, zgp, zgq, zgr, zgs, zgt, zgu, zgv, zgw, zgx, zgy, zgz, zha, zhb, zhc, zhd, zhe, zhf, zhg, zhh, zhi, zhj, zhk, zhl, zhm, zhr, zhs, zht, zhu, zhv, zhw, zhx, zhy, zhz, zia, zib, zic, zid, zie, zif, zig, zih, zii, zij, zik, zil, zim, zin, zio, zip, ziq, zir, zis, zit, ziu, ziv, ziw, zix, ziy, ziz, zja, zjb, zjc, zjd, zje, zjf, zjg, zjh, zji, zjj, zjk, zjl, zjm, zjn, zjo, zjp, zjq, zjr, zjs, zjt, zju, zjv, zjw, zjx, zjy, zjz, zka, zkb, zkc, zkd, zke, zkf, zkg, zkh, zki, zkj, zkk, zkl, zkm, zkn, zko, zkp, zkq, zkr, zku, zkv, zkw, zkx, zky, zkz, zla, zlb, zlc, zld, zle, zlf, zlg, zlh, zli, zlj, zlk, zll, zlm, zln, zlo, zlp, zlq, zlr, zls, zlt, zlu, zlv, zlw, zlx, zly, zlz, zma, zmb, tab3, tab9, tab23, tab28]
     tactic =>
      try simp only [ncast] at *
      try simp only [Int.ofNat_eq_natCast] at *
      try simp (config := { maxSteps := 4000000 }) only [con1w.eq_def, neL_mk, he, htr, hmc, Int.toNat_natCast, enc_Node, isE_Node, dec_Node, node_eta, szN, eqb_Node, con_EndT, con_PartT, con_cloneNodes, Int.ofNat_eq_natCast, con0, con1, con2, con3, con2t, con3t, symD0, symD1, symD2, symD3, symD4, Nat.reduceAdd, Nat.reduceSub, Nat.reduceMul, Nat.reduceMod, Nat.reduceLT, Nat.reduceLeDiff, Nat.reduceEqDiff, Nat.reduceBEq, Obj.isBox, D.setCell, D.asAgg, setAll, allFit, AV.fits, lk, upd, standAt, freeAt, backTo, packD, Nat.reduceDiv, reduceIte, reduceCtorEq, skIs, skAll, SK.is, aggL, eqbAll, D.eqb, Nat.reduceBNe]
      repeat' (first | with_reducible assumption | with_reducible refine And.intro ?_ ?_ | intro _ | omega | (rw [inR_i64]; omega))
      · have hne : nds x ≠ [] := by intro h; rw [h] at hp; simp at hp
        contradiction
      · rw [List.length_set, List.length_map]
      · revert hp
        cases nds x with
        | nil => intro hp; simp at hp
        | cons n r => intro _; rfl)

/-! ### a function's type, looked into -/
def n5 : Node := ⟨5, [], 0⟩
theorem arrow3_tree {x y : Rose Node} : arrow3 (nds x) (nds y) = nds (mk n5 [x, y]) := by
  unfold arrow3 n5
  simp [nds, ndss]
theorem arrow_wf {x y : Rose Node} (hx : wf ar x) (hy : wf ar y) : wf ar (mk n5 [x, y]) := ⟨rfl, hx, hy, trivial⟩
theorem arrow_at1 {x y : Rose Node} (hx : wf ar x) : At ar (arrow3 (nds x) (nds y)) 1 x := ⟨hx, nds y, by simp [arrow3]⟩
theorem arrow_at2 {x y : Rose Node} (hy : wf ar y) : At ar (arrow3 (nds x) (nds y)) (1 + (nds x).length) y := ⟨hy, [], by
  unfold arrow3
  rw [Nat.add_comm 1, List.drop_succ_cons, List.drop_left', List.append_nil]
  rfl⟩
theorem clr_root {x : Rose Node} (h : x.root.name = []) : clr (nds x) = nds x := clr_of (by rw [nds_eta]; exact h)
def ArrowT (t : List Node) : Prop := ∃ x y : Rose Node, t = arrow3 (nds x) (nds y) ∧ wf ar x ∧ wf ar y ∧ x.root.name = [] ∧ y.root.name = []
def con1tt {A B R S : Type} [Enc A] [Enc B] [Enc R] [Enc S] (p : A → Prop) (f : A → B × R × S) : Con := ⟨[false], [false, false, false], fun c => match c with
  | [.d x] => isE A x ∧ p (dec x)
  | _ => False, fun c => match c with
  | [.d x] => .tup [.d (enc (f (dec x)).1), .d (enc (f (dec x)).2.1), .d (enc (f (dec x)).2.2)]
  | _ => .d .nilp⟩
theorem con1tt_pre {A B R S : Type} [Enc A] [Enc B] [Enc R] [Enc S] {p : A → Prop} {f : A → B × R × S} {c : List CV} (h : (con1tt p f).pre c) : ∃ a, c = [.d (enc a)] ∧ p a := by
  unfold con1tt at h
  simp only at h
  split at h
  · next x => exact ⟨dec x, by rw [← h.1], h.2⟩
  · exact h.elim
noncomputable def callT (t : List Node) : Sl Node × Sl Node × Int := (⟨nds (treeAt ar t 1)⟩, ⟨nds (treeAt ar t (1 + (nds (treeAt ar t 1)).length))⟩, 0)
theorem callT_eq {x y : Rose Node} (hx : wf ar x) (hy : wf ar y) : callT (arrow3 (nds x) (nds y)) = (⟨nds x⟩, ⟨nds y⟩, 0) := by
  unfold callT
  rw [treeAt_eq (arrow_at1 hx), treeAt_eq (arrow_at2 hy)]
noncomputable def con_CallP : Con := con1tt (fun (t : Sl Node) => t.l.length ≤ 1000000000 ∧ ArrowT t.l) (fun t => callT t.l)
noncomputable def ctx_CallP : Ctx := ⟨tab, lkC [(45, con_EndT), (51, con_PartT)], 60, lkB [], []⟩
theorem ctx_CallP_t : ctx_CallP.τ = tab := rfl
theorem ctx_CallP_c : ctx_CallP.Γ = lkC [(45, con_EndT), (51, con_PartT)] := rfl
theorem ctx_CallP_d : ctx_CallP.dp = 60 := rfl
theorem ctx_CallP_b : ctx_CallP.Δ = lkB [] := rfl
theorem ctx_CallP_u : ctx_CallP.cuts = [] := rfl
set_option maxRecDepth 100000 in
theorem good_CallP : Good Try.prog (25, con_CallP) := by
  refine ⟨enters_of Try.func25 (by kernel_rfl) rfl, ?_⟩
  have K : CtxOk Try.prog ctx_CallP := ctxOk_of tabOk mixedOk (by
    intro p hp
    simp only [List.mem_cons, List.not_mem_nil, or_false] at hp
    rcases hp with rfl | rfl
    · exact good_EndT
    · exact good_PartT) (by simp)
  obtain ⟨c, hc⟩ : ∃ c, Try.f25.body = some c := ⟨_, rfl⟩
  refine fn_sound K Try.func25 hc [.tmp 2, .tmp 3, .tmp 4] rfl 23 rfl (fun cvs hpre => ?_)
  change con_CallP.pre cvs at hpre
  unfold con_CallP at hpre
  obtain ⟨⟨t⟩, rfl, ht, x, y, rfl, hx, hy, nx, ny⟩ := con1tt_pre hpre
  simp only at ht
  have a1 := arrow_at1 (y := y) hx
  have a2 := arrow_at2 (x := x) hy
  have he : endT (arrow3 (nds x) (nds y)) 1 = ((1 + (nds x).length : Nat) : Int) := endT_at a1
  have hw : Whole (arrow3 (nds x) (nds y)) 1 := at_whl a1
  have hlen : (arrow3 (nds x) (nds y)).length = 1 + (nds x).length + (nds y).length := by unfold arrow3; simp; omega
  have ht1 := treeAt_eq a1
  have ht2 := treeAt_eq a2
  have c1 := clr_root nx
  have c2 := clr_root ny
  have hcall := callT_eq hx hy
  have hroot : (arrow3 (nds x) (nds y)).getD 0 n0 = n5 := rfl
  have hpos : 0 < (arrow3 (nds x) (nds y)).length := by omega
  have hel := el_map0 hpos
  generalize arrow3 (nds x) (nds y) = t at *
  have hn5 : n5 = ⟨5, [], 0⟩ := rfl
  simp only [Try.f25, Option.some.injEq] at hc
  subst hc
  (sym =>
     simp [con1tt.eq_def, he, Int.toNat_natCast, ht1, ht2, c1, c2, hcall, hel, hroot, hn5, enc_Node, isE_Node, dec_Node, node_eta, szN, eqb_Node, ctx_CallP_t, ctx_CallP_c, ctx_CallP_d, ctx_CallP_b, ctx_CallP_u, con_CallP.eq_def, con_EndT.eq_def, con_PartT.eq_def, zaa, zab, zac, zae, zaf, zag, zan, zao, zap, zaq, zar, zas, zav, zax, zaz, zbc, zbd, zbm, zbn, zbo, zbp, zbq, zbr, zbs, zbt, zbu, zby, zbz, zca, zcb, zcc, zcd, zcf, zco, zcp, zcr, zcu, zcv, zcw, zcx, zcy, zcz, zda, zdb, zdc, zdd, zde, zdf, zdg, zdh, zdi, zdv, zdw, zec, zed, zeo, zep, zeq, zer, zes, zet, zeu, zev, zew, zex, zey, zez, zfa, zfb, zfc, zff, zfh, zfi, zfj, zfk, zfl, zfm, zfn, zfo, zfu, zfv, zfw, zfx, zfy, zfz, zga, zgc, zgd, zge, zgh, zgi, zgj, zgk, zgl, zgm, zgn, zgo, zgp, zgq, zgr, zgs, zgt, zgu, zgv, zgw, zgx, zgy, zgz, zha, zhb, zhc, zhd, zhe, zhf, zhg, zhh, zhi, zhj, zhk, zhr, zhs, zht, zhu, zhv, zhw, zhx, zhy, zhz, zia, zib, zic, zid, zie, zif, zig, zih, zii, zij, zik, zil, zim, zin, zio, zip, ziq, zir, zis, zit, ziu, ziv, ziw, zix, ziy, ziz, zja, zjb, zjc, zjd, zje, zjf, zjg, zjh, zji, zjj, zjk, zjl, zjm, zjn, zjo, zjp, zjq, zjr, zjs, zjt, zju, zjv, zjw, zjx, zjy, zjz, zka, zkb, zkc, zkd, zke, zkf, zkg, zkh, zki, zkj, zkk, zkq, zkr, zks, zkt, zku, zkv, zkw, zkx, zky, zkz, zla, zlb, zlc, zld, zle, zlf, zlg, zlh, zli, zlj, zlk, zll, zlm, zln, zlo, zlp, zlq, zlr, zls, zlt, zlu, zlv, zlw, zlx, zly, zlz, zma, zmb, tab3, tab23, tab28]
     tactic =>
      try simp only [ncast] at *
      try simp only [Int.ofNat_eq_natCast] at *
      try simp (config := { maxSteps := 4000000 }) only [con1tt.eq_def, he, Int.toNat_natCast, ht1, ht2, c1, c2, hcall, hel, hroot, hn5, enc_Node, isE_Node, dec_Node, node_eta, szN, eqb_Node, con_CallP, con_EndT, con_PartT, Int.ofNat_eq_natCast, con0, con1, con2, con3, con2t, con3t, symD0, symD1, symD2, symD3, symD4, Nat.reduceAdd, Nat.reduceSub, Nat.reduceMul, Nat.reduceMod, Nat.reduceLT, Nat.reduceLeDiff, Nat.reduceEqDiff, Nat.reduceBEq, Obj.isBox, D.setCell, D.asAgg, setAll, allFit, AV.fits, lk, upd, standAt, freeAt, backTo, packD, Nat.reduceDiv, reduceIte, reduceCtorEq, skIs, skAll, SK.is, aggL, eqbAll, D.eqb, Nat.reduceBNe]
      repeat' (first | with_reducible assumption | with_reducible refine And.intro ?_ ?_ | intro _ | omega | (rw [inR_i64]; omega))
      all_goals first
        | exact ⟨_, a1⟩
        | exact ⟨_, a2⟩
        | exact hw (by omega) (by omega)
        | (with_reducible refine okD_id ?_; kernel_rfl))

end Go.Am.Ty
