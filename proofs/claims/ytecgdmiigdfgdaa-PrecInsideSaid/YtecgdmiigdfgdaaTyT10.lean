/- Contracts of functions that the laws reach, and plain laws. Conditions: those that each contract states. -/
import Derived.Test.YtecgdmiigdfgdaaTyT9
set_option linter.unusedSimpArgs false
set_option linter.unusedVariables false
set_option maxHeartbeats 1000000
namespace Go.Am.Ty
open Go.Proofs Go.Rose Go.Rose.Rose
open Enc (enc dec)

/-! ### what both say, gone over side by side -/
mutual
noncomputable def mv (a b : List Node) : Rose Node → Rose Node → Nat → Nat → MS → Bool × MS
  | mk n ks, y, i, k, s => cond (n.kind == 0 || y.root.kind == 0) (true, mstep a b i k s)
      (cond (n.kind == y.root.kind && (n.name == y.root.name && n.n == y.root.n)) (mvs a b ks y.kids (i + 1) (k + 1) s) (false, s))
noncomputable def mvs (a b : List Node) : List (Rose Node) → List (Rose Node) → Nat → Nat → MS → Bool × MS
  | [], _, _, _, s => (true, s)
  | _ :: _, [], _, _, s => (false, s)
  | x :: xs, y :: ys, i, k, s => cond (x.root.name == y.root.name)
      (cond (mv a b x y i k s).1 (mvs a b xs ys (i + (nds x).length) (k + (nds y).length) (mv a b x y i k s).2) (false, (mv a b x y i k s).2)) (false, s)
end
mutual
theorem mv_ov (a b : List Node) : ∀ (x y : Rose Node) (i k : Nat) (s : MS), (mv a b x y i k s).1 = ov false x y
  | mk n ks, y, i, k, s => by
    rw [mv, ov]
    cases (n.kind == 0 || y.root.kind == 0) with
    | true => simp [askB]
    | false =>
      cases (n.kind == y.root.kind && (n.name == y.root.name && n.n == y.root.n)) with
      | true => simp [mvs_ov a b ks y.kids (i + 1) (k + 1) s]
      | false => simp
theorem mvs_ov (a b : List Node) : ∀ (xs ys : List (Rose Node)) (i k : Nat) (s : MS), (mvs a b xs ys i k s).1 = ovs false xs ys
  | [], ys, i, k, s => by rw [mvs, ovs]
  | _ :: _, [], i, k, s => by rw [mvs, ovs]
  | x :: xs, y :: ys, i, k, s => by
    rw [mvs, ovs]
    have h1 := mv_ov a b x y i k s
    cases (x.root.name == y.root.name) with
    | false => simp
    | true =>
      cases ho : ov false x y with
      | false => rw [ho] at h1; simp [h1]
      | true => rw [ho] at h1; simp [h1, mvs_ov a b xs ys]
end
/-- What is told so far stays within what was gone over. -/
structure MOk (a b : List Node) (i k : Nat) (s s' : MS) : Prop where
  done : s'.done ≤ i
  len : (s'.out.getD []).length ≤ s'.done + k
  some : s.out.isSome = true → s'.out.isSome = true
theorem mstep_ok {a b : List Node} {i k : Nat} {s : MS} {x y : Rose Node} (hx : At ar a i x) (hy : At ar b k y) (h1 : s.done ≤ i) (h2 : (s.out.getD []).length ≤ s.done + k) :
    MOk a b (i + (nds x).length) (k + (nds y).length) s (mstep a b i k s) := by
  have hex : endT a i = ((i + (nds x).length : Nat) : Int) := endT_at hx
  have hey : endT b k = ((k + (nds y).length : Nat) : Int) := endT_at hy
  unfold mstep
  rw [hex, hey]
  simp only [Int.toNat_natCast]
  have := hx.le
  have := hy.le
  refine ⟨Nat.le_refl _, ?_, fun _ => rfl⟩
  simp only [Option.getD_some, List.length_append, List.length_drop, List.length_take]
  split <;> simp only [List.length_drop, List.length_take] <;> omega
mutual
theorem mv_ok {a b : List Node} : ∀ {x y : Rose Node} {i k : Nat} {s : MS}, At ar a i x → At ar b k y → s.done ≤ i → (s.out.getD []).length ≤ s.done + k →
    MOk a b (i + (nds x).length) (k + (nds y).length) s (mv a b x y i k s).2
  | mk n ks, y, i, k, s, hx, hy, h1, h2 => by
    rw [mv]
    cases hd : (n.kind == 0 || y.root.kind == 0) with
    | true => exact mstep_ok hx hy h1 h2
    | false =>
      cases hs : (n.kind == y.root.kind && (n.name == y.root.name && n.n == y.root.n)) with
      | false => exact ⟨by simp only [cond_false]; omega, by simp only [cond_false]; omega, fun h => h⟩
      | true =>
        simp only [cond_false, cond_true]
        have hk := hx.kids.1
        have hq := hy.kids.1
        have := mvs_ok (xs := ks) (ys := y.kids) (i := i + 1) (k := k + 1) (s := s) hk hq (by omega) (by omega)
        have e1 : (nds (mk n ks)).length = 1 + (ndss ks).length := by rw [nds_mk, List.length_cons]; omega
        have e2 : (nds y).length = 1 + (ndss y.kids).length := by rw [nds_eta, List.length_cons]; omega
        exact ⟨by have := this.done; omega, by have := this.len; omega, this.some⟩
theorem mvs_ok {a b : List Node} : ∀ {xs ys : List (Rose Node)} {i k : Nat} {s : MS}, Ats ar a i xs → Ats ar b k ys → s.done ≤ i → (s.out.getD []).length ≤ s.done + k →
    MOk a b (i + (ndss xs).length) (k + (ndss ys).length) s (mvs a b xs ys i k s).2
  | [], ys, i, k, s, _, _, h1, h2 => by rw [mvs]; exact ⟨by simp only; omega, by simp only; omega, fun h => h⟩
  | _ :: _, [], i, k, s, _, _, h1, h2 => by rw [mvs]; exact ⟨by simp only; omega, by simp only; omega, fun h => h⟩
  | x :: xs, y :: ys, i, k, s, hx, hy, h1, h2 => by
    rw [mvs]
    simp only [ndss, List.length_append]
    cases (x.root.name == y.root.name) with
    | false => exact ⟨by simp only [cond_false]; omega, by simp only [cond_false]; omega, fun h => h⟩
    | true =>
      have g := mv_ok (s := s) hx.head.1 hy.head.1 h1 h2
      simp only [cond_true]
      cases (mv a b x y i k s).1 with
      | false =>
        simp only [cond_false]
        exact ⟨by have := g.done; omega, by have := g.len; omega, g.some⟩
      | true =>
        simp only [cond_true]
        have := mvs_ok (s := (mv a b x y i k s).2) hx.head.2 hy.head.2 g.done g.len
        exact ⟨by have := this.done; omega, by have := this.len; omega, fun h => this.some (g.some h)⟩
end
/-- How the objects stand that were lent. -/
def obU (s : MS) : List (Nat × Obj) := match s.out with
  | none => [(90000, .box false [.nils 3]), (90002, .box false [.d (.int .i64 s.done)])]
  | some l => [(90000, .box false [.sl 90004 l.length]), (90002, .box false [.d (.int .i64 s.done)]), (90004, .row 3 (l.map enc) 0)]
theorem obU_n {d : Nat} : obU ⟨none, d⟩ = [(90000, .box false [.nils 3]), (90002, .box false [.d (.int .i64 d)])] := rfl
theorem obU_s {l : List Node} {d : Nat} : obU ⟨some l, d⟩ = [(90000, .box false [.sl 90004 l.length]), (90002, .box false [.d (.int .i64 d)]), (90004, .row 3 (l.map enc) 0)] := rfl
def mArgs (a b : List Node) (i k : Nat) : List AV := [.agg [.d (.list 3 (a.map enc)), .d (.list 3 (b.map enc)), .clo 44 [.ref 90000 0, .ref 90001 0, .ref 90002 0, .ref 90003 0]], .d (.int .i64 i), .d (.int .i64 k)]
def tripD (r : Int × Int × Bool) : D := .tup [.int .i64 r.1, .int .i64 r.2.1, .bool r.2.2]
noncomputable def bcon_over (n : Nat) : BCon where
  X := MX
  ok x := x.a.length ≤ 1000000 ∧ x.b.length ≤ 1000000 ∧ (∃ z w, At ar x.a x.i z ∧ At ar x.b x.k w ∧ (nds z).length < n) ∧ x.st.done ≤ x.i ∧ (x.st.out.getD []).length ≤ x.st.done + x.k
  args x := mArgs x.a x.b x.i x.k
  objs x := boxed x.a x.b x.st
  res x := tripD (overR false (treeAt ar x.a x.i) (treeAt ar x.b x.k) x.i x.k)
  post x := boxed x.a x.b (mv x.a x.b (treeAt ar x.a x.i) (treeAt ar x.b x.k) x.i x.k x.st).2

/-- Where the lent objects stand. -/
def keysOf (s : MS) : List Nat := match s.out with
  | none => [90000, 90001, 90002, 90003]
  | some _ => [90000, 90001, 90002, 90003, 90004]
theorem keysOf_n {d : Nat} : keysOf ⟨none, d⟩ = [90000, 90001, 90002, 90003] := rfl
theorem keysOf_s {l : List Node} {d : Nat} : keysOf ⟨some l, d⟩ = [90000, 90001, 90002, 90003, 90004] := rfl
theorem canon4' : canon 4 [90000, 90001, 90002, 90003] := by
  intro j hj
  match j, hj with
  | 0, _ => rfl
  | 1, _ => rfl
  | 2, _ => rfl
  | 3, _ => rfl
theorem bcon_over_zero : ∀ x, ¬ (bcon_over 0).ok x := by
  rintro x ⟨_, _, ⟨_, _, _, _, h⟩, _⟩
  omega
theorem MeetDyn_post {a b : List Node} {s : MS} {i k : Nat} : bcon_MeetDyn.post ⟨a, b, s, i, k⟩ = boxed a b (mstep a b i k s) := rfl
theorem MeetDyn_res {x : MX} : bcon_MeetDyn.res x = .bool true := rfl
theorem over_post {n : Nat} {a b : List Node} {s : MS} {i k : Nat} : (bcon_over n).post ⟨a, b, s, i, k⟩ = boxed a b (mv a b (treeAt ar a i) (treeAt ar b k) i k s).2 := rfl
theorem over_res {n : Nat} {a b : List Node} {s : MS} {i k : Nat} : (bcon_over n).res ⟨a, b, s, i, k⟩ = tripD (overR false (treeAt ar a i) (treeAt ar b k) i k) := rfl
noncomputable def bctx_over (n : Nat) : Ctx := ⟨tab, lkC [(45, con_EndT), (75, con_KidsT)], 60, lkB [(44, bcon_MeetDyn), (43, (bcon_over n))], []⟩
theorem bctx_over_t (n : Nat) : (bctx_over n).τ = tab := rfl
theorem bctx_over_c (n : Nat) : (bctx_over n).Γ = lkC [(45, con_EndT), (75, con_KidsT)] := rfl
theorem bctx_over_d (n : Nat) : (bctx_over n).dp = 60 := rfl
theorem bctx_over_b (n : Nat) : (bctx_over n).Δ = lkB [(44, bcon_MeetDyn), (43, (bcon_over n))] := rfl
theorem bctx_over_u (n : Nat) : (bctx_over n).cuts = [] := rfl
set_option maxRecDepth 100000 in
theorem stepb_over (n : Nat) (ih : GoodB Try.prog (43, bcon_over n)) : GoodB Try.prog (43, (bcon_over (n + 1))) := by
  refine ⟨enters_of Try.func43 (by kernel_rfl) rfl, ?_⟩
  have K : CtxOk Try.prog (bctx_over n) := ctxOk_of tabOk mixedOk (by
    intro p hp
    simp only [List.mem_cons, List.not_mem_nil, or_false] at hp
    rcases hp with rfl | rfl
    · exact good_EndT
    · exact good_KidsT) (by
    intro p hp
    simp only [List.mem_cons, List.not_mem_nil, or_false] at hp
    rcases hp with rfl | rfl
    · exact goodb_MeetDyn
    · exact ih)
  obtain ⟨c, hc⟩ : ∃ c, Try.f43.body = some c := ⟨_, rfl⟩
  refine fn_soundB K Try.func43 hc [.tmp 6, .tmp 7, .tmp 8] rfl 101 rfl (fun x hok => ?_)
  obtain ⟨a, b, ⟨o, d⟩, i, k⟩ := x
  obtain ⟨ha, hb, ⟨x, y, hx, hy, hn⟩, hdi, hol⟩ := hok
  simp only at ha hb hx hy hdi hol
  have hil := hx.lt
  have hkl := hy.lt
  have hix := hx.le
  have hky := hy.le
  have hrx : a.getD i n0 = x.root := hx.root n0
  have hry : b.getD k n0 = y.root := hy.root n0
  have htx : treeAt ar a i = x := treeAt_eq hx
  have hty : treeAt ar b k = y := treeAt_eq hy
  have hex : endT a i = ((i + (nds x).length : Nat) : Int) := endT_at hx
  have hey : endT b k = ((k + (nds y).length : Nat) : Int) := endT_at hy
  have hwx := at_whl hx
  have hwy := at_whl hy
  refine ⟨?_, ?_, ?_, ?_, ?_⟩
  · show Tied (mArgs a b i k) (boxed a b ⟨o, d⟩)
    cases o
    all_goals
      simp only [boxed_n, boxed_s, mArgs]
      simp [Tied, tiedAll, Obj.tied, noneFixed, keptAll, AV.kept, mkObjs, mkFrom, lk]
  · show noneFixed (boxed a b ⟨o, d⟩)
    cases o <;> simp [boxed_n, boxed_s, noneFixed]
  · show Tied [] (boxed a b (mv a b (treeAt ar a i) (treeAt ar b k) i k ⟨o, d⟩).2)
    generalize (mv a b (treeAt ar a i) (treeAt ar b k) i k ⟨o, d⟩).2 = s'
    obtain ⟨o', d'⟩ := s'
    cases o'
    all_goals
      simp only [boxed_n, boxed_s]
      simp [Tied, tiedAll, Obj.tied, noneFixed, keptAll, AV.kept, mkObjs, mkFrom, lk]
  · show (boxed a b ⟨o, d⟩).length ≤ (boxed a b (mv a b (treeAt ar a i) (treeAt ar b k) i k ⟨o, d⟩).2).length
    rw [htx, hty]
    have := (mv_ok (s := ⟨o, d⟩) hx hy hdi hol).some
    generalize (mv a b x y i k ⟨o, d⟩).2 = s' at this
    obtain ⟨o', d'⟩ := s'
    cases o <;> cases o' <;> simp_all [boxed_n, boxed_s]
  show awp (bctx_over n) c (PostB _ _ (boxed a b ⟨o, d⟩).length (tripD (overR false (treeAt ar a i) (treeAt ar b k) i k)) (boxed a b (mv a b (treeAt ar a i) (treeAt ar b k) i k ⟨o, d⟩).2)) ⟨mArgs a b i k ++ deads 98, mkObjs (boxed a b ⟨o, d⟩)⟩
  rw [htx, hty]
  have hmo := mv_ok (s := ⟨o, d⟩) hx hy hdi hol
  simp only [Try.f43, Option.some.injEq] at hc
  subst hc
  refine awp_chk 6 (of_decide_eq_true (by kernel_rfl)) ?_
  have hdc : ((x.root.kind == 0) = true ∧ (x.root.kind == 0 || y.root.kind == 0) = true) ∨ ((x.root.kind == 0) = false ∧ (y.root.kind == 0) = true ∧ (x.root.kind == 0 || y.root.kind == 0) = true) ∨ ((x.root.kind == 0) = false ∧ (y.root.kind == 0) = false ∧ (x.root.kind == 0 || y.root.kind == 0) = false) := by
    cases x.root.kind == 0 <;> cases y.root.kind == 0 <;> simp
  have hR : (x.root.kind == 0 || y.root.kind == 0) = true → overR false x y i k = (((i + (nds x).length : Nat) : Int), ((k + (nds y).length : Nat) : Int), true) := by
    intro hd
    unfold overR; rw [hd]; simp [askB]
  have hM : (x.root.kind == 0 || y.root.kind == 0) = true → (mv a b x y i k ⟨o, d⟩).2 = mstep a b i k ⟨o, d⟩ := by
    intro hd
    obtain ⟨m, zs⟩ := x
    rw [mv]
    rw [show (mk m zs).root = m from rfl] at hd
    rw [hd]
    rfl
  rcases hdc with ⟨hd1, hd⟩ | ⟨hd1, hd2, hd⟩ | ⟨hd1, hd2, hd⟩
  · have hRd := hR hd
    rw [hM hd, mboxed]
    cases o with
    | none =>
      rw [boxed_n]
      have zz1 := el_enc n0 hil
      have zz2 := el_enc n0 hkl
      (sym =>
         simp [mArgs.eq_def, tripD.eq_def, zz1, zz2, hrx, hry, htx, hty, hex, hey, hd1, hRd, dec_PairB, isE_PairB, dec_PL, isE_PL, PL_l, con3q_d, enc_Pair, Pair_a, Pair_b, Pair_c, dynOf_t, dynOf_f, dec_PairT, dec_PairF, isE_PairT, isE_PairF, enc_Node, isE_Node, dec_Node, node_eta, szN, eqb_Node, bctx_over_t, bctx_over_c, bctx_over_d, bctx_over_b, bctx_over_u, con_EndT.eq_def, con_KidsT.eq_def, zaa, zab, zac, zad, zae, zaf, zag, zah, zai, zaj, zak, zal, zam, zan, zao, zap, zaq, zar, zas, zat, zau, zav, zaw, zax, zaz, zbh, zbl, zbm, zbn, zbo, zbp, zbq, zbr, zbs, zbt, zbu, zbx, zby, zbz, zca, zcb, zcc, zcd, zce, zcf, zcg, zch, zci, zcj, zck, zco, zcp, zcq, zcr, zcs, zct, zcv, zcw, zcx, zdc, zde, zdf, zdg, zdh, zdi, zdj, zdk, zdl, zdm, zdn, zdo, zdu, zdv, zdw, zdx, zdy, zdz, zec, zed, zee, zef, zeg, zeh, zei, zej, zek, zel, zem, zen, zeq, zer, zes, zet, zeu, zev, zew, zex, zey, zez, zfa, zfb, zfc, zfd, zfe, zff, zfg, zfh, zfi, zfj, zfk, zfl, zfm, zfn, zfo, zfu, zfv, zfw, zfx, zfy, zfz, zga, zgb, zgc, zgd, zge, zgf, zgg, zgh, zgi, zgj, zgk, zgl, zgm, zgn, zgo, zgp, zgq, zgr, zgs, zgt, zgu, zgv, zgw, zgx, zgy, zgz, zha, zhb, zhc, zhd, zhe, zhf, zhg, zhh, zhi, zhj, zhk, zhn, zho, zhp, zhq, zhr, zhs, zht, zhu, zhv, zhw, zhx, zhy, zhz, zia, zib, zic, zid, zie, zif, zig, zih, zii, zij, zik, zil, zim, zin, zio, zip, ziq, zir, zis, zit, ziu, ziv, ziw, zix, ziy, ziz, zja, zjb, zjc, zjd, zje, zjf, zjg, zjh, zji, zjj, zjk, zjl, zjm, zjn, zjo, zjp, zjq, zjr, zjs, zjt, zju, zjv, zjw, zjx, zjy, zjz, zka, zkb, zkc, zkd, zke, zkf, zkg, zkh, zki, zkj, zkk, zkl, zkm, zkn, zko, zkp, zkq, zkr, zku, zkv, zkw, zkx, zky, zkz, zla, zlb, zlc, zld, zle, zlf, zlg, zlh, zli, zlj, zlk, zll, zlm, zln, zlo, zlp, zlq, zlr, zls, zlt, zlu, zlv, zlw, zlx, zly, zlz, zma, zmb, tab3, tab4, tab9, tab23, tab28, tab57, tab59, tab84]
         tactic =>
          try simp only [ncast] at *
          try simp only [Int.ofNat_eq_natCast] at *
          try simp (config := { maxSteps := 4000000 }) only [mArgs.eq_def, tripD.eq_def, zz1, zz2, hrx, hry, htx, hty, hex, hey, hd1, hRd, dec_PairB, isE_PairB, dec_PL, isE_PL, PL_l, con3q_d, enc_Pair, Pair_a, Pair_b, Pair_c, dynOf_t, dynOf_f, dec_PairT, dec_PairF, isE_PairT, isE_PairF, enc_Node, isE_Node, dec_Node, node_eta, szN, eqb_Node, con_EndT, con_KidsT, Int.ofNat_eq_natCast, con0, con1, con2, con3, con2t, con3t, symD0, symD1, symD2, symD3, symD4, Nat.reduceAdd, Nat.reduceSub, Nat.reduceMul, Nat.reduceMod, Nat.reduceLT, Nat.reduceLeDiff, Nat.reduceEqDiff, Nat.reduceBEq, Obj.isBox, D.setCell, D.asAgg, setAll, allFit, AV.fits, lk, upd, standAt, freeAt, backTo, packD, Nat.reduceDiv, reduceIte, reduceCtorEq, skIs, skAll, SK.is, aggL, eqbAll, D.eqb, Nat.reduceBNe]
          repeat' (first | with_reducible assumption | with_reducible refine And.intro ?_ ?_ | intro _ | omega | (rw [inR_i64]; omega))
          all_goals first
            | (with_reducible refine okD_id ?_; kernel_rfl)
            | skip
          refine aCallBD_of (bc := bcon_MeetDyn) ⟨a, b, ⟨none, d⟩, i, k⟩ [90000, 90001, 90002, 90003, 90004] ⟨ha, hb, ⟨x, hx⟩, ⟨y, hy⟩, hdi, by simp⟩ rfl (by simp) rfl ?_ ?_ ?_
          · show standAt _ _ (boxed a b ⟨none, d⟩) _
            rw [boxed_n]
            simp [standAt, lk, rnO, rnA, rnAs, rk]
          · show freeAt (List.drop (boxed a b ⟨none, d⟩).length _) _
            rw [boxed_n]
            simp [freeAt, lk]
          (sym =>
             simp [MeetDyn_post, MeetDyn_res, mboxed, tripD.eq_def, hRd, dec_PairB, isE_PairB, dec_PL, isE_PL, PL_l, con3q_d, enc_Pair, Pair_a, Pair_b, Pair_c, dynOf_t, dynOf_f, dec_PairT, dec_PairF, isE_PairT, isE_PairF, enc_Node, isE_Node, dec_Node, node_eta, szN, eqb_Node, bctx_over_t, bctx_over_c, bctx_over_d, bctx_over_b, bctx_over_u, con_EndT.eq_def, con_KidsT.eq_def, zaa, zab, zac, zad, zae, zaf, zag, zah, zai, zaj, zak, zal, zam, zan, zao, zap, zaq, zar, zas, zat, zau, zav, zaw, zax, zaz, zbh, zbl, zbm, zbn, zbo, zbp, zbq, zbr, zbs, zbt, zbu, zbx, zby, zbz, zca, zcb, zcc, zcd, zce, zcf, zcg, zch, zci, zcj, zck, zco, zcp, zcq, zcr, zcs, zct, zcv, zcw, zcx, zdc, zde, zdf, zdg, zdh, zdi, zdj, zdk, zdl, zdm, zdn, zdo, zdu, zdv, zdw, zdx, zdy, zdz, zec, zed, zee, zef, zeg, zeh, zei, zej, zek, zel, zem, zen, zeq, zer, zes, zet, zeu, zev, zew, zex, zey, zez, zfa, zfb, zfc, zfd, zfe, zff, zfg, zfh, zfi, zfj, zfk, zfl, zfm, zfn, zfo, zfu, zfv, zfw, zfx, zfy, zfz, zga, zgb, zgc, zgd, zge, zgf, zgg, zgh, zgi, zgj, zgk, zgl, zgm, zgn, zgo, zgp, zgq, zgr, zgs, zgt, zgu, zgv, zgw, zgx, zgy, zgz, zha, zhb, zhc, zhd, zhe, zhf, zhg, zhh, zhi, zhj, zhk, zhn, zho, zhp, zhq, zhr, zhs, zht, zhu, zhv, zhw, zhx, zhy, zhz, zia, zib, zic, zid, zie, zif, zig, zih, zii, zij, zik, zil, zim, zin, zio, zip, ziq, zir, zis, zit, ziu, ziv, ziw, zix, ziy, ziz, zja, zjb, zjc, zjd, zje, zjf, zjg, zjh, zji, zjj, zjk, zjl, zjm, zjn, zjo, zjp, zjq, zjr, zjs, zjt, zju, zjv, zjw, zjx, zjy, zjz, zka, zkb, zkc, zkd, zke, zkf, zkg, zkh, zki, zkj, zkk, zkl, zkm, zkn, zko, zkp, zkq, zkr, zku, zkv, zkw, zkx, zky, zkz, zla, zlb, zlc, zld, zle, zlf, zlg, zlh, zli, zlj, zlk, zll, zlm, zln, zlo, zlp, zlq, zlr, zls, zlt, zlu, zlv, zlw, zlx, zly, zlz, zma, zmb, tab3, tab4, tab9, tab23, tab28, tab57, tab59, tab84]
             tactic =>
              try simp only [ncast] at *
              try simp only [Int.ofNat_eq_natCast] at *
              try simp (config := { maxSteps := 4000000 }) only [MeetDyn_post, MeetDyn_res, mboxed, tripD.eq_def, hRd, dec_PairB, isE_PairB, dec_PL, isE_PL, PL_l, con3q_d, enc_Pair, Pair_a, Pair_b, Pair_c, dynOf_t, dynOf_f, dec_PairT, dec_PairF, isE_PairT, isE_PairF, enc_Node, isE_Node, dec_Node, node_eta, szN, eqb_Node, con_EndT, con_KidsT, Int.ofNat_eq_natCast, con0, con1, con2, con3, con2t, con3t, symD0, symD1, symD2, symD3, symD4, Nat.reduceAdd, Nat.reduceSub, Nat.reduceMul, Nat.reduceMod, Nat.reduceLT, Nat.reduceLeDiff, Nat.reduceEqDiff, Nat.reduceBEq, Obj.isBox, D.setCell, D.asAgg, setAll, allFit, AV.fits, lk, upd, standAt, freeAt, backTo, packD, Nat.reduceDiv, reduceIte, reduceCtorEq, skIs, skAll, SK.is, aggL, eqbAll, D.eqb, Nat.reduceBNe]
              repeat' (first | with_reducible assumption | with_reducible refine And.intro ?_ ?_ | intro _ | omega | (rw [inR_i64]; omega))
              all_goals first
                | (with_reducible refine okD_id ?_; kernel_rfl)
                | skip
              refine ⟨[90000, 90001, 90002, 90003, 90004], by simp, rfl, canon4, ?_⟩
              simp [standAt, lk, rnO, rnA, rnAs, rk]))
    | some l =>
      rw [boxed_s]
      simp only [Option.getD_some] at hol
      have zz3 := el_enc n0 hil
      have zz4 := el_enc n0 hkl
      (sym =>
         simp [mArgs.eq_def, tripD.eq_def, zz3, zz4, hrx, hry, htx, hty, hex, hey, hd1, hRd, dec_PairB, isE_PairB, dec_PL, isE_PL, PL_l, con3q_d, enc_Pair, Pair_a, Pair_b, Pair_c, dynOf_t, dynOf_f, dec_PairT, dec_PairF, isE_PairT, isE_PairF, enc_Node, isE_Node, dec_Node, node_eta, szN, eqb_Node, bctx_over_t, bctx_over_c, bctx_over_d, bctx_over_b, bctx_over_u, con_EndT.eq_def, con_KidsT.eq_def, zaa, zab, zac, zad, zae, zaf, zag, zah, zai, zaj, zak, zal, zam, zan, zao, zap, zaq, zar, zas, zat, zau, zav, zaw, zax, zaz, zbh, zbl, zbm, zbn, zbo, zbp, zbq, zbr, zbs, zbt, zbu, zbx, zby, zbz, zca, zcb, zcc, zcd, zce, zcf, zcg, zch, zci, zcj, zck, zco, zcp, zcq, zcr, zcs, zct, zcv, zcw, zcx, zdc, zde, zdf, zdg, zdh, zdi, zdj, zdk, zdl, zdm, zdn, zdo, zdu, zdv, zdw, zdx, zdy, zdz, zec, zed, zee, zef, zeg, zeh, zei, zej, zek, zel, zem, zen, zeq, zer, zes, zet, zeu, zev, zew, zex, zey, zez, zfa, zfb, zfc, zfd, zfe, zff, zfg, zfh, zfi, zfj, zfk, zfl, zfm, zfn, zfo, zfu, zfv, zfw, zfx, zfy, zfz, zga, zgb, zgc, zgd, zge, zgf, zgg, zgh, zgi, zgj, zgk, zgl, zgm, zgn, zgo, zgp, zgq, zgr, zgs, zgt, zgu, zgv, zgw, zgx, zgy, zgz, zha, zhb, zhc, zhd, zhe, zhf, zhg, zhh, zhi, zhj, zhk, zhn, zho, zhp, zhq, zhr, zhs, zht, zhu, zhv, zhw, zhx, zhy, zhz, zia, zib, zic, zid, zie, zif, zig, zih, zii, zij, zik, zil, zim, zin, zio, zip, ziq, zir, zis, zit, ziu, ziv, ziw, zix, ziy, ziz, zja, zjb, zjc, zjd, zje, zjf, zjg, zjh, zji, zjj, zjk, zjl, zjm, zjn, zjo, zjp, zjq, zjr, zjs, zjt, zju, zjv, zjw, zjx, zjy, zjz, zka, zkb, zkc, zkd, zke, zkf, zkg, zkh, zki, zkj, zkk, zkl, zkm, zkn, zko, zkp, zkq, zkr, zku, zkv, zkw, zkx, zky, zkz, zla, zlb, zlc, zld, zle, zlf, zlg, zlh, zli, zlj, zlk, zll, zlm, zln, zlo, zlp, zlq, zlr, zls, zlt, zlu, zlv, zlw, zlx, zly, zlz, zma, zmb, tab3, tab4, tab9, tab23, tab28, tab57, tab59, tab84]
         tactic =>
          try simp only [ncast] at *
          try simp only [Int.ofNat_eq_natCast] at *
          try simp (config := { maxSteps := 4000000 }) only [mArgs.eq_def, tripD.eq_def, zz3, zz4, hrx, hry, htx, hty, hex, hey, hd1, hRd, dec_PairB, isE_PairB, dec_PL, isE_PL, PL_l, con3q_d, enc_Pair, Pair_a, Pair_b, Pair_c, dynOf_t, dynOf_f, dec_PairT, dec_PairF, isE_PairT, isE_PairF, enc_Node, isE_Node, dec_Node, node_eta, szN, eqb_Node, con_EndT, con_KidsT, Int.ofNat_eq_natCast, con0, con1, con2, con3, con2t, con3t, symD0, symD1, symD2, symD3, symD4, Nat.reduceAdd, Nat.reduceSub, Nat.reduceMul, Nat.reduceMod, Nat.reduceLT, Nat.reduceLeDiff, Nat.reduceEqDiff, Nat.reduceBEq, Obj.isBox, D.setCell, D.asAgg, setAll, allFit, AV.fits, lk, upd, standAt, freeAt, backTo, packD, Nat.reduceDiv, reduceIte, reduceCtorEq, skIs, skAll, SK.is, aggL, eqbAll, D.eqb, Nat.reduceBNe]
          repeat' (first | with_reducible assumption | with_reducible refine And.intro ?_ ?_ | intro _ | omega | (rw [inR_i64]; omega))
          all_goals first
            | (with_reducible refine okD_id ?_; kernel_rfl)
            | skip
          refine aCallBD_of (bc := bcon_MeetDyn) ⟨a, b, ⟨some l, d⟩, i, k⟩ [90000, 90001, 90002, 90003, 90004] ⟨ha, hb, ⟨x, hx⟩, ⟨y, hy⟩, hdi, by simp only [Option.getD_some]; omega⟩ rfl (by simp) rfl ?_ ?_ ?_
          · show standAt _ _ (boxed a b ⟨some l, d⟩) _
            rw [boxed_s]
            simp [standAt, lk, rnO, rnA, rnAs, rk]
          · show freeAt (List.drop (boxed a b ⟨some l, d⟩).length _) _
            rw [boxed_s]
            simp [freeAt, lk]
          (sym =>
             simp [MeetDyn_post, MeetDyn_res, mboxed, tripD.eq_def, hRd, dec_PairB, isE_PairB, dec_PL, isE_PL, PL_l, con3q_d, enc_Pair, Pair_a, Pair_b, Pair_c, dynOf_t, dynOf_f, dec_PairT, dec_PairF, isE_PairT, isE_PairF, enc_Node, isE_Node, dec_Node, node_eta, szN, eqb_Node, bctx_over_t, bctx_over_c, bctx_over_d, bctx_over_b, bctx_over_u, con_EndT.eq_def, con_KidsT.eq_def, zaa, zab, zac, zad, zae, zaf, zag, zah, zai, zaj, zak, zal, zam, zan, zao, zap, zaq, zar, zas, zat, zau, zav, zaw, zax, zaz, zbh, zbl, zbm, zbn, zbo, zbp, zbq, zbr, zbs, zbt, zbu, zbx, zby, zbz, zca, zcb, zcc, zcd, zce, zcf, zcg, zch, zci, zcj, zck, zco, zcp, zcq, zcr, zcs, zct, zcv, zcw, zcx, zdc, zde, zdf, zdg, zdh, zdi, zdj, zdk, zdl, zdm, zdn, zdo, zdu, zdv, zdw, zdx, zdy, zdz, zec, zed, zee, zef, zeg, zeh, zei, zej, zek, zel, zem, zen, zeq, zer, zes, zet, zeu, zev, zew, zex, zey, zez, zfa, zfb, zfc, zfd, zfe, zff, zfg, zfh, zfi, zfj, zfk, zfl, zfm, zfn, zfo, zfu, zfv, zfw, zfx, zfy, zfz, zga, zgb, zgc, zgd, zge, zgf, zgg, zgh, zgi, zgj, zgk, zgl, zgm, zgn, zgo, zgp, zgq, zgr, zgs, zgt, zgu, zgv, zgw, zgx, zgy, zgz, zha, zhb, zhc, zhd, zhe, zhf, zhg, zhh, zhi, zhj, zhk, zhn, zho, zhp, zhq, zhr, zhs, zht, zhu, zhv, zhw, zhx, zhy, zhz, zia, zib, zic, zid, zie, zif, zig, zih, zii, zij, zik, zil, zim, zin, zio, zip, ziq, zir, zis, zit, ziu, ziv, ziw, zix, ziy, ziz, zja, zjb, zjc, zjd, zje, zjf, zjg, zjh, zji, zjj, zjk, zjl, zjm, zjn, zjo, zjp, zjq, zjr, zjs, zjt, zju, zjv, zjw, zjx, zjy, zjz, zka, zkb, zkc, zkd, zke, zkf, zkg, zkh, zki, zkj, zkk, zkl, zkm, zkn, zko, zkp, zkq, zkr, zku, zkv, zkw, zkx, zky, zkz, zla, zlb, zlc, zld, zle, zlf, zlg, zlh, zli, zlj, zlk, zll, zlm, zln, zlo, zlp, zlq, zlr, zls, zlt, zlu, zlv, zlw, zlx, zly, zlz, zma, zmb, tab3, tab4, tab9, tab23, tab28, tab57, tab59, tab84]
             tactic =>
              try simp only [ncast] at *
              try simp only [Int.ofNat_eq_natCast] at *
              try simp (config := { maxSteps := 4000000 }) only [MeetDyn_post, MeetDyn_res, mboxed, tripD.eq_def, hRd, dec_PairB, isE_PairB, dec_PL, isE_PL, PL_l, con3q_d, enc_Pair, Pair_a, Pair_b, Pair_c, dynOf_t, dynOf_f, dec_PairT, dec_PairF, isE_PairT, isE_PairF, enc_Node, isE_Node, dec_Node, node_eta, szN, eqb_Node, con_EndT, con_KidsT, Int.ofNat_eq_natCast, con0, con1, con2, con3, con2t, con3t, symD0, symD1, symD2, symD3, symD4, Nat.reduceAdd, Nat.reduceSub, Nat.reduceMul, Nat.reduceMod, Nat.reduceLT, Nat.reduceLeDiff, Nat.reduceEqDiff, Nat.reduceBEq, Obj.isBox, D.setCell, D.asAgg, setAll, allFit, AV.fits, lk, upd, standAt, freeAt, backTo, packD, Nat.reduceDiv, reduceIte, reduceCtorEq, skIs, skAll, SK.is, aggL, eqbAll, D.eqb, Nat.reduceBNe]
              repeat' (first | with_reducible assumption | with_reducible refine And.intro ?_ ?_ | intro _ | omega | (rw [inR_i64]; omega))
              all_goals first
                | (with_reducible refine okD_id ?_; kernel_rfl)
                | skip
              refine ⟨[90000, 90001, 90002, 90003, 90004], by simp, rfl, canon5, ?_⟩
              simp [standAt, lk, rnO, rnA, rnAs, rk]))
  · have hRd := hR hd
    rw [hM hd, mboxed]
    cases o with
    | none =>
      rw [boxed_n]
      have zz5 := el_enc n0 hil
      have zz6 := el_enc n0 hkl
      (sym =>
         simp [mArgs.eq_def, tripD.eq_def, zz5, zz6, hrx, hry, htx, hty, hex, hey, hd1, hd2, hRd, dec_PairB, isE_PairB, dec_PL, isE_PL, PL_l, con3q_d, enc_Pair, Pair_a, Pair_b, Pair_c, dynOf_t, dynOf_f, dec_PairT, dec_PairF, isE_PairT, isE_PairF, enc_Node, isE_Node, dec_Node, node_eta, szN, eqb_Node, bctx_over_t, bctx_over_c, bctx_over_d, bctx_over_b, bctx_over_u, con_EndT.eq_def, con_KidsT.eq_def, zaa, zab, zac, zad, zae, zaf, zag, zah, zai, zaj, zak, zal, zam, zan, zao, zap, zaq, zar, zas, zat, zau, zav, zaw, zax, zaz, zbh, zbl, zbm, zbn, zbo, zbp, zbq, zbr, zbs, zbt, zbu, zbx, zby, zbz, zca, zcb, zcc, zcd, zce, zcf, zcg, zch, zci, zcj, zck, zco, zcp, zcq, zcr, zcs, zct, zcv, zcw, zcx, zdc, zde, zdf, zdg, zdh, zdi, zdj, zdk, zdl, zdm, zdn, zdo, zdu, zdv, zdw, zdx, zdy, zdz, zec, zed, zee, zef, zeg, zeh, zei, zej, zek, zel, zem, zen, zeq, zer, zes, zet, zeu, zev, zew, zex, zey, zez, zfa, zfb, zfc, zfd, zfe, zff, zfg, zfh, zfi, zfj, zfk, zfl, zfm, zfn, zfo, zfu, zfv, zfw, zfx, zfy, zfz, zga, zgb, zgc, zgd, zge, zgf, zgg, zgh, zgi, zgj, zgk, zgl, zgm, zgn, zgo, zgp, zgq, zgr, zgs, zgt, zgu, zgv, zgw, zgx, zgy, zgz, zha, zhb, zhc, zhd, zhe, zhf, zhg, zhh, zhi, zhj, zhk, zhn, zho, zhp, zhq, zhr, zhs, zht, zhu, zhv, zhw, zhx, zhy, zhz, zia, zib, zic, zid, zie, zif, zig, zih, zii, zij, zik, zil, zim, zin, zio, zip, ziq, zir, zis, zit, ziu, ziv, ziw, zix, ziy, ziz, zja, zjb, zjc, zjd, zje, zjf, zjg, zjh, zji, zjj, zjk, zjl, zjm, zjn, zjo, zjp, zjq, zjr, zjs, zjt, zju, zjv, zjw, zjx, zjy, zjz, zka, zkb, zkc, zkd, zke, zkf, zkg, zkh, zki, zkj, zkk, zkl, zkm, zkn, zko, zkp, zkq, zkr, zku, zkv, zkw, zkx, zky, zkz, zla, zlb, zlc, zld, zle, zlf, zlg, zlh, zli, zlj, zlk, zll, zlm, zln, zlo, zlp, zlq, zlr, zls, zlt, zlu, zlv, zlw, zlx, zly, zlz, zma, zmb, tab3, tab4, tab9, tab23, tab28, tab57, tab59, tab84]
         tactic =>
          try simp only [ncast] at *
          try simp only [Int.ofNat_eq_natCast] at *
          try simp (config := { maxSteps := 4000000 }) only [mArgs.eq_def, tripD.eq_def, zz5, zz6, hrx, hry, htx, hty, hex, hey, hd1, hd2, hRd, dec_PairB, isE_PairB, dec_PL, isE_PL, PL_l, con3q_d, enc_Pair, Pair_a, Pair_b, Pair_c, dynOf_t, dynOf_f, dec_PairT, dec_PairF, isE_PairT, isE_PairF, enc_Node, isE_Node, dec_Node, node_eta, szN, eqb_Node, con_EndT, con_KidsT, Int.ofNat_eq_natCast, con0, con1, con2, con3, con2t, con3t, symD0, symD1, symD2, symD3, symD4, Nat.reduceAdd, Nat.reduceSub, Nat.reduceMul, Nat.reduceMod, Nat.reduceLT, Nat.reduceLeDiff, Nat.reduceEqDiff, Nat.reduceBEq, Obj.isBox, D.setCell, D.asAgg, setAll, allFit, AV.fits, lk, upd, standAt, freeAt, backTo, packD, Nat.reduceDiv, reduceIte, reduceCtorEq, skIs, skAll, SK.is, aggL, eqbAll, D.eqb, Nat.reduceBNe]
          repeat' (first | with_reducible assumption | with_reducible refine And.intro ?_ ?_ | intro _ | omega | (rw [inR_i64]; omega))
          all_goals first
            | (with_reducible refine okD_id ?_; kernel_rfl)
            | skip
          refine aCallBD_of (bc := bcon_MeetDyn) ⟨a, b, ⟨none, d⟩, i, k⟩ [90000, 90001, 90002, 90003, 90004] ⟨ha, hb, ⟨x, hx⟩, ⟨y, hy⟩, hdi, by simp⟩ rfl (by simp) rfl ?_ ?_ ?_
          · show standAt _ _ (boxed a b ⟨none, d⟩) _
            rw [boxed_n]
            simp [standAt, lk, rnO, rnA, rnAs, rk]
          · show freeAt (List.drop (boxed a b ⟨none, d⟩).length _) _
            rw [boxed_n]
            simp [freeAt, lk]
          (sym =>
             simp [MeetDyn_post, MeetDyn_res, mboxed, tripD.eq_def, hRd, dec_PairB, isE_PairB, dec_PL, isE_PL, PL_l, con3q_d, enc_Pair, Pair_a, Pair_b, Pair_c, dynOf_t, dynOf_f, dec_PairT, dec_PairF, isE_PairT, isE_PairF, enc_Node, isE_Node, dec_Node, node_eta, szN, eqb_Node, bctx_over_t, bctx_over_c, bctx_over_d, bctx_over_b, bctx_over_u, con_EndT.eq_def, con_KidsT.eq_def, zaa, zab, zac, zad, zae, zaf, zag, zah, zai, zaj, zak, zal, zam, zan, zao, zap, zaq, zar, zas, zat, zau, zav, zaw, zax, zaz, zbh, zbl, zbm, zbn, zbo, zbp, zbq, zbr, zbs, zbt, zbu, zbx, zby, zbz, zca, zcb, zcc, zcd, zce, zcf, zcg, zch, zci, zcj, zck, zco, zcp, zcq, zcr, zcs, zct, zcv, zcw, zcx, zdc, zde, zdf, zdg, zdh, zdi, zdj, zdk, zdl, zdm, zdn, zdo, zdu, zdv, zdw, zdx, zdy, zdz, zec, zed, zee, zef, zeg, zeh, zei, zej, zek, zel, zem, zen, zeq, zer, zes, zet, zeu, zev, zew, zex, zey, zez, zfa, zfb, zfc, zfd, zfe, zff, zfg, zfh, zfi, zfj, zfk, zfl, zfm, zfn, zfo, zfu, zfv, zfw, zfx, zfy, zfz, zga, zgb, zgc, zgd, zge, zgf, zgg, zgh, zgi, zgj, zgk, zgl, zgm, zgn, zgo, zgp, zgq, zgr, zgs, zgt, zgu, zgv, zgw, zgx, zgy, zgz, zha, zhb, zhc, zhd, zhe, zhf, zhg, zhh, zhi, zhj, zhk, zhn, zho, zhp, zhq, zhr, zhs, zht, zhu, zhv, zhw, zhx, zhy, zhz, zia, zib, zic, zid, zie, zif, zig, zih, zii, zij, zik, zil, zim, zin, zio, zip, ziq, zir, zis, zit, ziu, ziv, ziw, zix, ziy, ziz, zja, zjb, zjc, zjd, zje, zjf, zjg, zjh, zji, zjj, zjk, zjl, zjm, zjn, zjo, zjp, zjq, zjr, zjs, zjt, zju, zjv, zjw, zjx, zjy, zjz, zka, zkb, zkc, zkd, zke, zkf, zkg, zkh, zki, zkj, zkk, zkl, zkm, zkn, zko, zkp, zkq, zkr, zku, zkv, zkw, zkx, zky, zkz, zla, zlb, zlc, zld, zle, zlf, zlg, zlh, zli, zlj, zlk, zll, zlm, zln, zlo, zlp, zlq, zlr, zls, zlt, zlu, zlv, zlw, zlx, zly, zlz, zma, zmb, tab3, tab4, tab9, tab23, tab28, tab57, tab59, tab84]
             tactic =>
              try simp only [ncast] at *
              try simp only [Int.ofNat_eq_natCast] at *
              try simp (config := { maxSteps := 4000000 }) only [MeetDyn_post, MeetDyn_res, mboxed, tripD.eq_def, hRd, dec_PairB, isE_PairB, dec_PL, isE_PL, PL_l, con3q_d, enc_Pair, Pair_a, Pair_b, Pair_c, dynOf_t, dynOf_f, dec_PairT, dec_PairF, isE_PairT, isE_PairF, enc_Node, isE_Node, dec_Node, node_eta, szN, eqb_Node, con_EndT, con_KidsT, Int.ofNat_eq_natCast, con0, con1, con2, con3, con2t, con3t, symD0, symD1, symD2, symD3, symD4, Nat.reduceAdd, Nat.reduceSub, Nat.reduceMul, Nat.reduceMod, Nat.reduceLT, Nat.reduceLeDiff, Nat.reduceEqDiff, Nat.reduceBEq, Obj.isBox, D.setCell, D.asAgg, setAll, allFit, AV.fits, lk, upd, standAt, freeAt, backTo, packD, Nat.reduceDiv, reduceIte, reduceCtorEq, skIs, skAll, SK.is, aggL, eqbAll, D.eqb, Nat.reduceBNe]
              repeat' (first | with_reducible assumption | with_reducible refine And.intro ?_ ?_ | intro _ | omega | (rw [inR_i64]; omega))
              all_goals first
                | (with_reducible refine okD_id ?_; kernel_rfl)
                | skip
              refine ⟨[90000, 90001, 90002, 90003, 90004], by simp, rfl, canon4, ?_⟩
              simp [standAt, lk, rnO, rnA, rnAs, rk]))
    | some l =>
      rw [boxed_s]
      simp only [Option.getD_some] at hol
      have zz7 := el_enc n0 hil
      have zz8 := el_enc n0 hkl
      (sym =>
         simp [mArgs.eq_def, tripD.eq_def, zz7, zz8, hrx, hry, htx, hty, hex, hey, hd1, hd2, hRd, dec_PairB, isE_PairB, dec_PL, isE_PL, PL_l, con3q_d, enc_Pair, Pair_a, Pair_b, Pair_c, dynOf_t, dynOf_f, dec_PairT, dec_PairF, isE_PairT, isE_PairF, enc_Node, isE_Node, dec_Node, node_eta, szN, eqb_Node, bctx_over_t, bctx_over_c, bctx_over_d, bctx_over_b, bctx_over_u, con_EndT.eq_def, con_KidsT.eq_def, zaa, zab, zac, zad, zae, zaf, zag, zah, zai, zaj, zak, zal, zam, zan, zao, zap, zaq, zar, zas, zat, zau, zav, zaw, zax, zaz, zbh, zbl, zbm, zbn, zbo, zbp, zbq, zbr, zbs, zbt, zbu, zbx, zby, zbz, zca, zcb, zcc, zcd, zce, zcf, zcg, zch, zci, zcj, zck, zco, zcp, zcq, zcr, zcs, zct, zcv, zcw, zcx, zdc, zde, zdf, zdg, zdh, zdi, zdj, zdk, zdl, zdm, zdn, zdo, zdu, zdv, zdw, zdx, zdy, zdz, zec, zed, zee, zef, zeg, zeh, zei, zej, zek, zel, zem, zen, zeq, zer, zes, zet, zeu, zev, zew, zex, zey, zez, zfa, zfb, zfc, zfd, zfe, zff, zfg, zfh, zfi, zfj, zfk, zfl, zfm, zfn, zfo, zfu, zfv, zfw, zfx, zfy, zfz, zga, zgb, zgc, zgd, zge, zgf, zgg, zgh, zgi, zgj, zgk, zgl, zgm, zgn, zgo, zgp, zgq, zgr, zgs, zgt, zgu, zgv, zgw, zgx, zgy, zgz, zha, zhb, zhc, zhd, zhe, zhf, zhg, zhh, zhi, zhj, zhk, zhn, zho, zhp, zhq, zhr, zhs, zht, zhu, zhv, zhw, zhx, zhy, zhz, zia, zib, zic, zid, zie, zif, zig, zih, zii, zij, zik, zil, zim, zin, zio, zip, ziq, zir, zis, zit, ziu, ziv, ziw, zix, ziy, ziz, zja, zjb, zjc, zjd, zje, zjf, zjg, zjh, zji, zjj, zjk, zjl, zjm, zjn, zjo, zjp, zjq, zjr, zjs, zjt, zju, zjv, zjw, zjx, zjy, zjz, zka, zkb, zkc, zkd, zke, zkf, zkg, zkh, zki, zkj, zkk, zkl, zkm, zkn, zko, zkp, zkq, zkr, zku, zkv, zkw, zkx, zky, zkz, zla, zlb, zlc, zld, zle, zlf, zlg, zlh, zli, zlj, zlk, zll, zlm, zln, zlo, zlp, zlq, zlr, zls, zlt, zlu, zlv, zlw, zlx, zly, zlz, zma, zmb, tab3, tab4, tab9, tab23, tab28, tab57, tab59, tab84]
         tactic =>
          try simp only [ncast] at *
          try simp only [Int.ofNat_eq_natCast] at *
          try simp (config := { maxSteps := 4000000 }) only [mArgs.eq_def, tripD.eq_def, zz7, zz8, hrx, hry, htx, hty, hex, hey, hd1, hd2, hRd, dec_PairB, isE_PairB, dec_PL, isE_PL, PL_l, con3q_d, enc_Pair, Pair_a, Pair_b, Pair_c, dynOf_t, dynOf_f, dec_PairT, dec_PairF, isE_PairT, isE_PairF, enc_Node, isE_Node, dec_Node, node_eta, szN, eqb_Node, con_EndT, con_KidsT, Int.ofNat_eq_natCast, con0, con1, con2, con3, con2t, con3t, symD0, symD1, symD2, symD3, symD4, Nat.reduceAdd, Nat.reduceSub, Nat.reduceMul, Nat.reduceMod, Nat.reduceLT, Nat.reduceLeDiff, Nat.reduceEqDiff, Nat.reduceBEq, Obj.isBox, D.setCell, D.asAgg, setAll, allFit, AV.fits, lk, upd, standAt, freeAt, backTo, packD, Nat.reduceDiv, reduceIte, reduceCtorEq, skIs, skAll, SK.is, aggL, eqbAll, D.eqb, Nat.reduceBNe]
          repeat' (first | with_reducible assumption | with_reducible refine And.intro ?_ ?_ | intro _ | omega | (rw [inR_i64]; omega))
          all_goals first
            | (with_reducible refine okD_id ?_; kernel_rfl)
            | skip
          refine aCallBD_of (bc := bcon_MeetDyn) ⟨a, b, ⟨some l, d⟩, i, k⟩ [90000, 90001, 90002, 90003, 90004] ⟨ha, hb, ⟨x, hx⟩, ⟨y, hy⟩, hdi, by simp only [Option.getD_some]; omega⟩ rfl (by simp) rfl ?_ ?_ ?_
          · show standAt _ _ (boxed a b ⟨some l, d⟩) _
            rw [boxed_s]
            simp [standAt, lk, rnO, rnA, rnAs, rk]
          · show freeAt (List.drop (boxed a b ⟨some l, d⟩).length _) _
            rw [boxed_s]
            simp [freeAt, lk]
          (sym =>
             simp [MeetDyn_post, MeetDyn_res, mboxed, tripD.eq_def, hRd, dec_PairB, isE_PairB, dec_PL, isE_PL, PL_l, con3q_d, enc_Pair, Pair_a, Pair_b, Pair_c, dynOf_t, dynOf_f, dec_PairT, dec_PairF, isE_PairT, isE_PairF, enc_Node, isE_Node, dec_Node, node_eta, szN, eqb_Node, bctx_over_t, bctx_over_c, bctx_over_d, bctx_over_b, bctx_over_u, con_EndT.eq_def, con_KidsT.eq_def, zaa, zab, zac, zad, zae, zaf, zag, zah, zai, zaj, zak, zal, zam, zan, zao, zap, zaq, zar, zas, zat, zau, zav, zaw, zax, zaz, zbh, zbl, zbm, zbn, zbo, zbp, zbq, zbr, zbs, zbt, zbu, zbx, zby, zbz, zca, zcb, zcc, zcd, zce, zcf, zcg, zch, zci, zcj, zck, zco, zcp, zcq, zcr, zcs, zct, zcv, zcw, zcx, zdc, zde, zdf, zdg, zdh, zdi, zdj, zdk, zdl, zdm, zdn, zdo, zdu, zdv, zdw, zdx, zdy, zdz, zec, zed, zee, zef, zeg, zeh, zei, zej, zek, zel, zem, zen, zeq, zer, zes, zet, zeu, zev, zew, zex, zey, zez, zfa, zfb, zfc, zfd, zfe, zff, zfg, zfh, zfi, zfj, zfk, zfl, zfm, zfn, zfo, zfu, zfv, zfw, zfx, zfy, zfz, zga, zgb, zgc, zgd, zge, zgf, zgg, zgh, zgi, zgj, zgk, zgl, zgm, zgn, zgo, zgp, zgq, zgr, zgs, zgt, zgu, zgv, zgw, zgx, zgy, zgz, zha, zhb, zhc, zhd, zhe, zhf, zhg, zhh, zhi, zhj, zhk, zhn, zho, zhp, zhq, zhr, zhs, zht, zhu, zhv, zhw, zhx, zhy, zhz, zia, zib, zic, zid, zie, zif, zig, zih, zii, zij, zik, zil, zim, zin, zio, zip, ziq, zir, zis, zit, ziu, ziv, ziw, zix, ziy, ziz, zja, zjb, zjc, zjd, zje, zjf, zjg, zjh, zji, zjj, zjk, zjl, zjm, zjn, zjo, zjp, zjq, zjr, zjs, zjt, zju, zjv, zjw, zjx, zjy, zjz, zka, zkb, zkc, zkd, zke, zkf, zkg, zkh, zki, zkj, zkk, zkl, zkm, zkn, zko, zkp, zkq, zkr, zku, zkv, zkw, zkx, zky, zkz, zla, zlb, zlc, zld, zle, zlf, zlg, zlh, zli, zlj, zlk, zll, zlm, zln, zlo, zlp, zlq, zlr, zls, zlt, zlu, zlv, zlw, zlx, zly, zlz, zma, zmb, tab3, tab4, tab9, tab23, tab28, tab57, tab59, tab84]
             tactic =>
              try simp only [ncast] at *
              try simp only [Int.ofNat_eq_natCast] at *
              try simp (config := { maxSteps := 4000000 }) only [MeetDyn_post, MeetDyn_res, mboxed, tripD.eq_def, hRd, dec_PairB, isE_PairB, dec_PL, isE_PL, PL_l, con3q_d, enc_Pair, Pair_a, Pair_b, Pair_c, dynOf_t, dynOf_f, dec_PairT, dec_PairF, isE_PairT, isE_PairF, enc_Node, isE_Node, dec_Node, node_eta, szN, eqb_Node, con_EndT, con_KidsT, Int.ofNat_eq_natCast, con0, con1, con2, con3, con2t, con3t, symD0, symD1, symD2, symD3, symD4, Nat.reduceAdd, Nat.reduceSub, Nat.reduceMul, Nat.reduceMod, Nat.reduceLT, Nat.reduceLeDiff, Nat.reduceEqDiff, Nat.reduceBEq, Obj.isBox, D.setCell, D.asAgg, setAll, allFit, AV.fits, lk, upd, standAt, freeAt, backTo, packD, Nat.reduceDiv, reduceIte, reduceCtorEq, skIs, skAll, SK.is, aggL, eqbAll, D.eqb, Nat.reduceBNe]
              repeat' (first | with_reducible assumption | with_reducible refine And.intro ?_ ?_ | intro _ | omega | (rw [inR_i64]; omega))
              all_goals first
                | (with_reducible refine okD_id ?_; kernel_rfl)
                | skip
              refine ⟨[90000, 90001, 90002, 90003, 90004], by simp, rfl, canon5, ?_⟩
              simp [standAt, lk, rnO, rnA, rnAs, rk]))
  · obtain ⟨hks, hkn⟩ := hx.kids
    obtain ⟨hqs, hqn⟩ := hy.kids
    obtain ⟨xs, hxs⟩ : ∃ xs, x.kids = xs := ⟨_, rfl⟩
    obtain ⟨ys, hys⟩ : ∃ ys, y.kids = ys := ⟨_, rfl⟩
    have hov : ov false x y = ((x.root.kind == y.root.kind && (x.root.name == y.root.name && x.root.n == y.root.n)) && ovs false xs ys) := by
      obtain ⟨m, zs⟩ := x
      rw [ov]
      rw [show (mk m zs).root = m from rfl] at hd
      rw [hd, hys, show zs = xs from hxs]
      rfl
    have hmv : ∀ s, mv a b x y i k s = cond (x.root.kind == y.root.kind && (x.root.name == y.root.name && x.root.n == y.root.n)) (mvs a b xs ys (i + 1) (k + 1) s) (false, s) := by
      intro s
      obtain ⟨m, zs⟩ := x
      rw [mv]
      rw [show (mk m zs).root = m from rfl] at hd
      rw [hd, hys, show zs = xs from hxs]
      rfl
    have hRo : overR false x y i k = cond (ov false x y) (((i + (nds x).length : Nat) : Int), ((k + (nds y).length : Nat) : Int), true) (0, 0, false) := by
      unfold overR; rw [hd]; simp
    have hkids : kidsT a i = kidPos (i + 1) xs := by
      unfold kidsT
      rw [if_neg (by omega)]
      simp only [Int.toNat_natCast]
      rw [htx, hxs]
    have hklen : (kidsT a i).length = xs.length := by rw [hkids, kidPos_len]
    have htree : Tree a i := fun _ _ => ⟨x, by simpa using hx⟩
    have hbadR : ov false x y = false → overR false x y i k = (0, 0, false) := by
      intro h; rw [hRo, h]; rfl
    rw [hxs] at hks hkn
    rw [hys] at hqs hqn
    have hle := ats_le hks (by omega)
    have hleq := ats_le hqs (by omega)
    have hnx : (nds x).length = 1 + (ndss xs).length := by rw [nds_eta, hxs, List.length_cons]; omega
    have hny : (nds y).length = 1 + (ndss ys).length := by rw [nds_eta, hys, List.length_cons]; omega
    have hxl : xs.length ≤ 1000000000 := by
      have h2 : xs.length ≤ (ndss xs).length := by
        clear hks hle hov hkids hklen hbadR hRo hxs hnx hkn hmv
        induction xs with
        | nil => simp
        | cons z zs ih => simp only [List.length_cons, ndss, List.length_append]; have := nds_pos z; omega
      omega
    by_cases hk1 : x.root.kind = y.root.kind ∧ x.root.name = y.root.name ∧ x.root.n = y.root.n
    · obtain ⟨e1, e2, e3⟩ := hk1
      have b1 : (x.root.kind != y.root.kind) = false := by simp [e1]
      have b2 : (x.root.name == y.root.name) = true := by simp [e2]
      have b3 : (x.root.n != y.root.n) = false := by simp [e3]
      have c1 : (x.root.kind == y.root.kind) = true := by simp [e1]
      have c3 : (x.root.n == y.root.n) = true := by simp [e3]
      have hlen : xs.length = ys.length := by rw [hkn, hqn, ar_eq e1 e3]
      rw [c1, b2, c3, Bool.true_and, Bool.true_and, Bool.true_and] at hov
      simp only [c1, b2, c3, Bool.true_and, cond_true] at hmv
      rw [hmv]
      have hwhole : (mvs a b xs ys (i + 1) (k + 1) ⟨o, d⟩).1 = ov false x y := by rw [mvs_ov, hov]
      have hstart : mvs a b (xs.drop 0) (ys.drop 0) (i + 1 + (ndss (xs.take 0)).length) (k + 1 + (ndss (ys.take 0)).length) ⟨o, d⟩ = mvs a b xs ys (i + 1) (k + 1) ⟨o, d⟩ := by simp [ndss]
      cases o with
      | none =>
        simp only [boxed_n]
        have zz9 := el_enc n0 hil
        have zz10 := el_enc n0 hkl
        (sym =>
           simp [mArgs.eq_def, tripD.eq_def, zz9, zz10, hrx, hry, htx, hty, hd1, hd2, b1, b2, b3, hklen, dec_PairB, isE_PairB, dec_PL, isE_PL, PL_l, con3q_d, enc_Pair, Pair_a, Pair_b, Pair_c, dynOf_t, dynOf_f, dec_PairT, dec_PairF, isE_PairT, isE_PairF, enc_Node, isE_Node, dec_Node, node_eta, szN, eqb_Node, bctx_over_t, bctx_over_c, bctx_over_d, bctx_over_b, bctx_over_u, con_EndT.eq_def, con_KidsT.eq_def, zaa, zab, zac, zad, zae, zaf, zag, zah, zai, zaj, zak, zal, zam, zan, zao, zap, zaq, zar, zas, zat, zau, zav, zaw, zax, zaz, zbh, zbl, zbm, zbn, zbo, zbp, zbq, zbr, zbs, zbt, zbu, zbx, zby, zbz, zca, zcb, zcc, zcd, zce, zcf, zcg, zch, zci, zcj, zck, zco, zcp, zcq, zcr, zcs, zct, zcv, zcw, zcx, zdc, zde, zdf, zdg, zdh, zdi, zdj, zdk, zdl, zdm, zdn, zdo, zdu, zdv, zdw, zdx, zdy, zdz, zec, zed, zee, zef, zeg, zeh, zei, zej, zek, zel, zem, zen, zeq, zer, zes, zet, zeu, zev, zew, zex, zey, zez, zfa, zfb, zfc, zfd, zfe, zff, zfg, zfh, zfi, zfj, zfk, zfl, zfm, zfn, zfo, zfu, zfv, zfw, zfx, zfy, zfz, zga, zgb, zgc, zgd, zge, zgf, zgg, zgh, zgi, zgj, zgk, zgl, zgm, zgn, zgo, zgp, zgq, zgr, zgs, zgt, zgu, zgv, zgw, zgx, zgy, zgz, zha, zhb, zhc, zhd, zhe, zhf, zhg, zhh, zhi, zhj, zhk, zhn, zho, zhp, zhq, zhr, zhs, zht, zhu, zhv, zhw, zhx, zhy, zhz, zia, zib, zic, zid, zie, zif, zig, zih, zii, zij, zik, zil, zim, zin, zio, zip, ziq, zir, zis, zit, ziu, ziv, ziw, zix, ziy, ziz, zja, zjb, zjc, zjd, zje, zjf, zjg, zjh, zji, zjj, zjk, zjl, zjm, zjn, zjo, zjp, zjq, zjr, zjs, zjt, zju, zjv, zjw, zjx, zjy, zjz, zka, zkb, zkc, zkd, zke, zkf, zkg, zkh, zki, zkj, zkk, zkl, zkm, zkn, zko, zkp, zkq, zkr, zku, zkv, zkw, zkx, zky, zkz, zla, zlb, zlc, zld, zle, zlf, zlg, zlh, zli, zlj, zlk, zll, zlm, zln, zlo, zlp, zlq, zlr, zls, zlt, zlu, zlv, zlw, zlx, zly, zlz, zma, zmb, tab3, tab4, tab9, tab23, tab28, tab57, tab59, tab84]
           tactic =>
            try simp only [ncast] at *
            try simp only [Int.ofNat_eq_natCast] at *
            try simp (config := { maxSteps := 4000000 }) only [mArgs.eq_def, tripD.eq_def, zz9, zz10, hrx, hry, htx, hty, hd1, hd2, b1, b2, b3, hklen, dec_PairB, isE_PairB, dec_PL, isE_PL, PL_l, con3q_d, enc_Pair, Pair_a, Pair_b, Pair_c, dynOf_t, dynOf_f, dec_PairT, dec_PairF, isE_PairT, isE_PairF, enc_Node, isE_Node, dec_Node, node_eta, szN, eqb_Node, con_EndT, con_KidsT, Int.ofNat_eq_natCast, con0, con1, con2, con3, con2t, con3t, symD0, symD1, symD2, symD3, symD4, Nat.reduceAdd, Nat.reduceSub, Nat.reduceMul, Nat.reduceMod, Nat.reduceLT, Nat.reduceLeDiff, Nat.reduceEqDiff, Nat.reduceBEq, Obj.isBox, D.setCell, D.asAgg, setAll, allFit, AV.fits, lk, upd, standAt, freeAt, backTo, packD, Nat.reduceDiv, reduceIte, reduceCtorEq, skIs, skAll, SK.is, aggL, eqbAll, D.eqb, Nat.reduceBNe]
            repeat' (first | with_reducible assumption | with_reducible refine And.intro ?_ ?_ | intro _ | omega | (rw [inR_i64]; omega))
            all_goals first
              | (with_reducible refine okD_id ?_; kernel_rfl)
              | skip
            refine aLoop_kill [6, 7, 8, 12, 74, 75, 76, 77, 78, 79, 80, 81, 82, 83, 84, 85, 86, 87, 88, 89, 90, 91, 92, 93, 94, 95, 96, 97, 98] (fun p : Nat × MS => [(1, .d (.int .i64 (i + 1 + (ndss (xs.take p.1)).length : Nat))), (2, .d (.int .i64 (k + 1 + (ndss (ys.take p.1)).length : Nat))), (73, .d (.int .i64 p.1))]) (fun p : Nat × MS => obU p.2) (fun p : Nat × MS => p.1 ≤ xs.length ∧ mvs a b (xs.drop p.1) (ys.drop p.1) (i + 1 + (ndss (xs.take p.1)).length) (k + 1 + (ndss (ys.take p.1)).length) p.2 = mvs a b xs ys (i + 1) (k + 1) ⟨none, d⟩ ∧ p.2.done ≤ i + 1 + (ndss (xs.take p.1)).length ∧ (p.2.out.getD []).length ≤ p.2.done + (k + 1 + (ndss (ys.take p.1)).length)) (fun p : Nat × MS => xs.length - p.1) (0, ⟨none, d⟩) ?_ ?_ ?_
            · exact ⟨Nat.zero_le _, hstart, by simp only; omega, by simp only [Option.getD_none, Option.getD_some, List.length_nil] at hol ⊢; omega⟩
            · simp only [obU_n]
              ((try simp only [atHead_mk, killAll, setSlots, updAll, upd, set_fl, setCs, putC, Nat.reduceDiv, Nat.reduceMod, Nat.reduceMul, Nat.reduceAdd, Nat.reduceEqDiff, List.set_cons_zero, List.set_cons_succ, if_true, if_false, reduceIte]); (first | refine Wk.of_fl ?_ | skip); simp only [Wk, wkK, wkCs, wkT, wk1, AV.kept, keptAll, wkO, lk, wkObj, and_true, true_and, and_self, Nat.reduceEqDiff, Nat.reduceLeDiff, if_true, if_false, reduceIte, reduceCtorEq, Option.isSome, false_implies]; try simp [Wk, wkK, wkT, wk1, AV.kept, keptAll, wkO, lk, wkObj, ndss])
            rintro ⟨j, ⟨o1, d1⟩⟩ ⟨hj, hrest, hd1i, hl1k⟩
            simp only at hj hrest hd1i hl1k
            cases o1 with
            | none =>
              simp only [Option.getD_none, Option.getD_some, List.length_nil] at hl1k
              simp only [obU_n]
              rcases ltB_cases j xs.length with ⟨hlt, hlb⟩ | ⟨hlt, hlb⟩
              · have hlt' : j < ys.length := by omega
                have hax := ats_at hks hlt
                have hay := ats_at hqs hlt'
                have hnr : (nds xs[j]).length < n := by have := nds_at_lt hlt; omega
                rw [List.drop_eq_getElem_cons hlt, List.drop_eq_getElem_cons hlt', mvs] at hrest
                have hsx := ndss_take_succ hlt
                have hsy := ndss_take_succ hlt'
                obtain ⟨xj, hxj⟩ : ∃ z, xs[j] = z := ⟨_, rfl⟩
                obtain ⟨yj, hyj⟩ : ∃ z, ys[j] = z := ⟨_, rfl⟩
                rw [hxj] at hax hnr hsx hrest
                rw [hyj] at hay hsy hrest
                obtain ⟨I, hI⟩ : ∃ I, i + 1 + (ndss (xs.take j)).length = I := ⟨_, rfl⟩
                obtain ⟨J, hJ⟩ : ∃ I, k + 1 + (ndss (ys.take j)).length = I := ⟨_, rfl⟩
                rw [hI] at hax hrest hd1i
                rw [hJ] at hay hrest hl1k
                have hIl := hax.lt
                have hJl := hay.lt
                have hrx2 : a.getD I n0 = xj.root := hax.root n0
                have hry2 : b.getD J n0 = yj.root := hay.root n0
                have htx2 : treeAt ar a I = xj := treeAt_eq hax
                have hty2 : treeAt ar b J = yj := treeAt_eq hay
                have hov2 := mv_ov a b xj yj I J ⟨none, d1⟩
                have hmo2 := mv_ok (s := ⟨none, d1⟩) hax hay hd1i (by simp only [Option.getD_none, Option.getD_some, List.length_nil]; omega)
                cases hnm : (xj.root.name == yj.root.name) with
                | false =>
                  rw [hnm, cond_false] at hrest
                  have hz := hbadR (by rw [← hwhole, ← hrest])
                  rw [← hrest]
                  have zz11 := el_enc n0 hIl
                  have zz12 := el_enc n0 hJl
                  (sym =>
                     simp [hlb, hI, hJ, zz11, zz12, hrx2, hry2, hnm, htx, hty, hz, tripD.eq_def, dec_PairB, isE_PairB, dec_PL, isE_PL, PL_l, con3q_d, enc_Pair, Pair_a, Pair_b, Pair_c, dynOf_t, dynOf_f, dec_PairT, dec_PairF, isE_PairT, isE_PairF, enc_Node, isE_Node, dec_Node, node_eta, szN, eqb_Node, bctx_over_t, bctx_over_c, bctx_over_d, bctx_over_b, bctx_over_u, con_EndT.eq_def, con_KidsT.eq_def, zaa, zab, zac, zad, zae, zaf, zag, zah, zai, zaj, zak, zal, zam, zan, zao, zap, zaq, zar, zas, zat, zau, zav, zaw, zax, zaz, zbh, zbl, zbm, zbn, zbo, zbp, zbq, zbr, zbs, zbt, zbu, zbx, zby, zbz, zca, zcb, zcc, zcd, zce, zcf, zcg, zch, zci, zcj, zck, zco, zcp, zcq, zcr, zcs, zct, zcv, zcw, zcx, zdc, zde, zdf, zdg, zdh, zdi, zdj, zdk, zdl, zdm, zdn, zdo, zdu, zdv, zdw, zdx, zdy, zdz, zec, zed, zee, zef, zeg, zeh, zei, zej, zek, zel, zem, zen, zeq, zer, zes, zet, zeu, zev, zew, zex, zey, zez, zfa, zfb, zfc, zfd, zfe, zff, zfg, zfh, zfi, zfj, zfk, zfl, zfm, zfn, zfo, zfu, zfv, zfw, zfx, zfy, zfz, zga, zgb, zgc, zgd, zge, zgf, zgg, zgh, zgi, zgj, zgk, zgl, zgm, zgn, zgo, zgp, zgq, zgr, zgs, zgt, zgu, zgv, zgw, zgx, zgy, zgz, zha, zhb, zhc, zhd, zhe, zhf, zhg, zhh, zhi, zhj, zhk, zhn, zho, zhp, zhq, zhr, zhs, zht, zhu, zhv, zhw, zhx, zhy, zhz, zia, zib, zic, zid, zie, zif, zig, zih, zii, zij, zik, zil, zim, zin, zio, zip, ziq, zir, zis, zit, ziu, ziv, ziw, zix, ziy, ziz, zja, zjb, zjc, zjd, zje, zjf, zjg, zjh, zji, zjj, zjk, zjl, zjm, zjn, zjo, zjp, zjq, zjr, zjs, zjt, zju, zjv, zjw, zjx, zjy, zjz, zka, zkb, zkc, zkd, zke, zkf, zkg, zkh, zki, zkj, zkk, zkl, zkm, zkn, zko, zkp, zkq, zkr, zku, zkv, zkw, zkx, zky, zkz, zla, zlb, zlc, zld, zle, zlf, zlg, zlh, zli, zlj, zlk, zll, zlm, zln, zlo, zlp, zlq, zlr, zls, zlt, zlu, zlv, zlw, zlx, zly, zlz, zma, zmb, tab3, tab4, tab9, tab23, tab28, tab57, tab59, tab84]
                     tactic =>
                      try simp only [ncast] at *
                      try simp only [Int.ofNat_eq_natCast] at *
                      try simp (config := { maxSteps := 4000000 }) only [hlb, hI, hJ, zz11, zz12, hrx2, hry2, hnm, htx, hty, hz, tripD.eq_def, dec_PairB, isE_PairB, dec_PL, isE_PL, PL_l, con3q_d, enc_Pair, Pair_a, Pair_b, Pair_c, dynOf_t, dynOf_f, dec_PairT, dec_PairF, isE_PairT, isE_PairF, enc_Node, isE_Node, dec_Node, node_eta, szN, eqb_Node, con_EndT, con_KidsT, Int.ofNat_eq_natCast, con0, con1, con2, con3, con2t, con3t, symD0, symD1, symD2, symD3, symD4, Nat.reduceAdd, Nat.reduceSub, Nat.reduceMul, Nat.reduceMod, Nat.reduceLT, Nat.reduceLeDiff, Nat.reduceEqDiff, Nat.reduceBEq, Obj.isBox, D.setCell, D.asAgg, setAll, allFit, AV.fits, lk, upd, standAt, freeAt, backTo, packD, Nat.reduceDiv, reduceIte, reduceCtorEq, skIs, skAll, SK.is, aggL, eqbAll, D.eqb, Nat.reduceBNe]
                      repeat' (first | with_reducible assumption | with_reducible refine And.intro ?_ ?_ | intro _ | omega | (rw [inR_i64]; omega))
                      all_goals first
                        | (with_reducible refine okD_id ?_; kernel_rfl)
                        | skip
                      simp only [boxed_n]
                      refine ⟨[90000, 90001, 90002, 90003], by simp, rfl, canon4', ?_⟩
                      simp [standAt, lk, rnO, rnA, rnAs, rk])
                | true =>
                  rw [hnm, cond_true] at hrest
                  obtain ⟨r, hr⟩ : ∃ r, mv a b xj yj I J ⟨none, d1⟩ = r := ⟨_, rfl⟩
                  rw [hr] at hrest hov2 hmo2
                  obtain ⟨r, ⟨o2, d2⟩⟩ := r
                  simp only at hrest hov2 hmo2
                  have zz13 := el_enc n0 hIl
                  have zz14 := el_enc n0 hJl
                  (sym =>
                     simp [hlb, hI, hJ, zz13, zz14, hrx2, hry2, hnm, dec_PairB, isE_PairB, dec_PL, isE_PL, PL_l, con3q_d, enc_Pair, Pair_a, Pair_b, Pair_c, dynOf_t, dynOf_f, dec_PairT, dec_PairF, isE_PairT, isE_PairF, enc_Node, isE_Node, dec_Node, node_eta, szN, eqb_Node, bctx_over_t, bctx_over_c, bctx_over_d, bctx_over_b, bctx_over_u, con_EndT.eq_def, con_KidsT.eq_def, zaa, zab, zac, zad, zae, zaf, zag, zah, zai, zaj, zak, zal, zam, zan, zao, zap, zaq, zar, zas, zat, zau, zav, zaw, zax, zaz, zbh, zbl, zbm, zbn, zbo, zbp, zbq, zbr, zbs, zbt, zbu, zbx, zby, zbz, zca, zcb, zcc, zcd, zce, zcf, zcg, zch, zci, zcj, zck, zco, zcp, zcq, zcr, zcs, zct, zcv, zcw, zcx, zdc, zde, zdf, zdg, zdh, zdi, zdj, zdk, zdl, zdm, zdn, zdo, zdu, zdv, zdw, zdx, zdy, zdz, zec, zed, zee, zef, zeg, zeh, zei, zej, zek, zel, zem, zen, zeq, zer, zes, zet, zeu, zev, zew, zex, zey, zez, zfa, zfb, zfc, zfd, zfe, zff, zfg, zfh, zfi, zfj, zfk, zfl, zfm, zfn, zfo, zfu, zfv, zfw, zfx, zfy, zfz, zga, zgb, zgc, zgd, zge, zgf, zgg, zgh, zgi, zgj, zgk, zgl, zgm, zgn, zgo, zgp, zgq, zgr, zgs, zgt, zgu, zgv, zgw, zgx, zgy, zgz, zha, zhb, zhc, zhd, zhe, zhf, zhg, zhh, zhi, zhj, zhk, zhn, zho, zhp, zhq, zhr, zhs, zht, zhu, zhv, zhw, zhx, zhy, zhz, zia, zib, zic, zid, zie, zif, zig, zih, zii, zij, zik, zil, zim, zin, zio, zip, ziq, zir, zis, zit, ziu, ziv, ziw, zix, ziy, ziz, zja, zjb, zjc, zjd, zje, zjf, zjg, zjh, zji, zjj, zjk, zjl, zjm, zjn, zjo, zjp, zjq, zjr, zjs, zjt, zju, zjv, zjw, zjx, zjy, zjz, zka, zkb, zkc, zkd, zke, zkf, zkg, zkh, zki, zkj, zkk, zkl, zkm, zkn, zko, zkp, zkq, zkr, zku, zkv, zkw, zkx, zky, zkz, zla, zlb, zlc, zld, zle, zlf, zlg, zlh, zli, zlj, zlk, zll, zlm, zln, zlo, zlp, zlq, zlr, zls, zlt, zlu, zlv, zlw, zlx, zly, zlz, zma, zmb, tab3, tab4, tab9, tab23, tab28, tab57, tab59, tab84]
                     tactic =>
                      try simp only [ncast] at *
                      try simp only [Int.ofNat_eq_natCast] at *
                      try simp (config := { maxSteps := 4000000 }) only [hlb, hI, hJ, zz13, zz14, hrx2, hry2, hnm, dec_PairB, isE_PairB, dec_PL, isE_PL, PL_l, con3q_d, enc_Pair, Pair_a, Pair_b, Pair_c, dynOf_t, dynOf_f, dec_PairT, dec_PairF, isE_PairT, isE_PairF, enc_Node, isE_Node, dec_Node, node_eta, szN, eqb_Node, con_EndT, con_KidsT, Int.ofNat_eq_natCast, con0, con1, con2, con3, con2t, con3t, symD0, symD1, symD2, symD3, symD4, Nat.reduceAdd, Nat.reduceSub, Nat.reduceMul, Nat.reduceMod, Nat.reduceLT, Nat.reduceLeDiff, Nat.reduceEqDiff, Nat.reduceBEq, Obj.isBox, D.setCell, D.asAgg, setAll, allFit, AV.fits, lk, upd, standAt, freeAt, backTo, packD, Nat.reduceDiv, reduceIte, reduceCtorEq, skIs, skAll, SK.is, aggL, eqbAll, D.eqb, Nat.reduceBNe]
                      repeat' (first | with_reducible assumption | with_reducible refine And.intro ?_ ?_ | intro _ | omega | (rw [inR_i64]; omega))
                      all_goals first
                        | (with_reducible refine okD_id ?_; kernel_rfl)
                        | skip
                      cases o2 with
                      | none =>
                        have hp2 : (bcon_over n).post ⟨a, b, ⟨none, d1⟩, I, J⟩ = boxed a b ⟨none, d2⟩ := by rw [over_post, htx2, hty2, hr]
                        refine aCallB_of (bc := bcon_over n) ⟨a, b, ⟨none, d1⟩, I, J⟩ [90000, 90001, 90002, 90003] ⟨ha, hb, ⟨xj, yj, hax, hay, hnr⟩, hd1i, by simp only [Option.getD_none, Option.getD_some, List.length_nil]; omega⟩ rfl (by simp) (by rw [hp2]; rfl) ?_ ?_ ?_
                        · show standAt _ _ (boxed a b ⟨none, d1⟩) _
                          simp only [boxed_n]
                          simp [standAt, lk, rnO, rnA, rnAs, rk]
                        · show freeAt (List.drop (boxed a b ⟨none, d1⟩).length _) _
                          simp only [boxed_n]
                          simp [freeAt, lk]
                        cases r with
                        | false =>
                          rw [cond_false] at hrest
                          have hz := hbadR (by rw [← hwhole, ← hrest])
                          rw [← hrest]
                          have h22 : (overR false xj yj (I : Int) (J : Int)).2.2 = false := by rw [overR_ok, ← hov2]
                          (sym =>
                             simp [hp2, over_res, boxed_n, htx2, hty2, h22, hz, tripD.eq_def, dec_PairB, isE_PairB, dec_PL, isE_PL, PL_l, con3q_d, enc_Pair, Pair_a, Pair_b, Pair_c, dynOf_t, dynOf_f, dec_PairT, dec_PairF, isE_PairT, isE_PairF, enc_Node, isE_Node, dec_Node, node_eta, szN, eqb_Node, bctx_over_t, bctx_over_c, bctx_over_d, bctx_over_b, bctx_over_u, con_EndT.eq_def, con_KidsT.eq_def, zaa, zab, zac, zad, zae, zaf, zag, zah, zai, zaj, zak, zal, zam, zan, zao, zap, zaq, zar, zas, zat, zau, zav, zaw, zax, zaz, zbh, zbl, zbm, zbn, zbo, zbp, zbq, zbr, zbs, zbt, zbu, zbx, zby, zbz, zca, zcb, zcc, zcd, zce, zcf, zcg, zch, zci, zcj, zck, zco, zcp, zcq, zcr, zcs, zct, zcv, zcw, zcx, zdc, zde, zdf, zdg, zdh, zdi, zdj, zdk, zdl, zdm, zdn, zdo, zdu, zdv, zdw, zdx, zdy, zdz, zec, zed, zee, zef, zeg, zeh, zei, zej, zek, zel, zem, zen, zeq, zer, zes, zet, zeu, zev, zew, zex, zey, zez, zfa, zfb, zfc, zfd, zfe, zff, zfg, zfh, zfi, zfj, zfk, zfl, zfm, zfn, zfo, zfu, zfv, zfw, zfx, zfy, zfz, zga, zgb, zgc, zgd, zge, zgf, zgg, zgh, zgi, zgj, zgk, zgl, zgm, zgn, zgo, zgp, zgq, zgr, zgs, zgt, zgu, zgv, zgw, zgx, zgy, zgz, zha, zhb, zhc, zhd, zhe, zhf, zhg, zhh, zhi, zhj, zhk, zhn, zho, zhp, zhq, zhr, zhs, zht, zhu, zhv, zhw, zhx, zhy, zhz, zia, zib, zic, zid, zie, zif, zig, zih, zii, zij, zik, zil, zim, zin, zio, zip, ziq, zir, zis, zit, ziu, ziv, ziw, zix, ziy, ziz, zja, zjb, zjc, zjd, zje, zjf, zjg, zjh, zji, zjj, zjk, zjl, zjm, zjn, zjo, zjp, zjq, zjr, zjs, zjt, zju, zjv, zjw, zjx, zjy, zjz, zka, zkb, zkc, zkd, zke, zkf, zkg, zkh, zki, zkj, zkk, zkl, zkm, zkn, zko, zkp, zkq, zkr, zku, zkv, zkw, zkx, zky, zkz, zla, zlb, zlc, zld, zle, zlf, zlg, zlh, zli, zlj, zlk, zll, zlm, zln, zlo, zlp, zlq, zlr, zls, zlt, zlu, zlv, zlw, zlx, zly, zlz, zma, zmb, tab3, tab4, tab9, tab23, tab28, tab57, tab59, tab84]
                             tactic =>
                              try simp only [ncast] at *
                              try simp only [Int.ofNat_eq_natCast] at *
                              try simp (config := { maxSteps := 4000000 }) only [hp2, over_res, boxed_n, htx2, hty2, h22, hz, tripD.eq_def, dec_PairB, isE_PairB, dec_PL, isE_PL, PL_l, con3q_d, enc_Pair, Pair_a, Pair_b, Pair_c, dynOf_t, dynOf_f, dec_PairT, dec_PairF, isE_PairT, isE_PairF, enc_Node, isE_Node, dec_Node, node_eta, szN, eqb_Node, con_EndT, con_KidsT, Int.ofNat_eq_natCast, con0, con1, con2, con3, con2t, con3t, symD0, symD1, symD2, symD3, symD4, Nat.reduceAdd, Nat.reduceSub, Nat.reduceMul, Nat.reduceMod, Nat.reduceLT, Nat.reduceLeDiff, Nat.reduceEqDiff, Nat.reduceBEq, Obj.isBox, D.setCell, D.asAgg, setAll, allFit, AV.fits, lk, upd, standAt, freeAt, backTo, packD, Nat.reduceDiv, reduceIte, reduceCtorEq, skIs, skAll, SK.is, aggL, eqbAll, D.eqb, Nat.reduceBNe]
                              repeat' (first | with_reducible assumption | with_reducible refine And.intro ?_ ?_ | intro _ | omega | (rw [inR_i64]; omega))
                              all_goals first
                                | (with_reducible refine okD_id ?_; kernel_rfl)
                                | skip
                              refine ⟨[90000, 90001, 90002, 90003], by simp, rfl, canon4', ?_⟩
                              simp [standAt, lk, rnO, rnA, rnAs, rk])
                        | true =>
                          rw [cond_true] at hrest
                          have h22 := overR_t (bel := false) (x := xj) (y := yj) (i := I) (k := J) hov2.symm
                          have hI2 : I + (nds xj).length = i + 1 + (ndss (xs.take (j + 1))).length := by omega
                          have hJ2 : J + (nds yj).length = k + 1 + (ndss (ys.take (j + 1))).length := by omega
                          have g1 := hmo2.done
                          have g2 := hmo2.len
                          rw [hI2] at g1 hrest
                          rw [hJ2] at g2 hrest
                          (sym =>
                             simp [hp2, over_res, boxed_n, htx2, hty2, h22, hI2, hJ2, tripD.eq_def, dec_PairB, isE_PairB, dec_PL, isE_PL, PL_l, con3q_d, enc_Pair, Pair_a, Pair_b, Pair_c, dynOf_t, dynOf_f, dec_PairT, dec_PairF, isE_PairT, isE_PairF, enc_Node, isE_Node, dec_Node, node_eta, szN, eqb_Node, bctx_over_t, bctx_over_c, bctx_over_d, bctx_over_b, bctx_over_u, con_EndT.eq_def, con_KidsT.eq_def, zaa, zab, zac, zad, zae, zaf, zag, zah, zai, zaj, zak, zal, zam, zan, zao, zap, zaq, zar, zas, zat, zau, zav, zaw, zax, zaz, zbh, zbl, zbm, zbn, zbo, zbp, zbq, zbr, zbs, zbt, zbu, zbx, zby, zbz, zca, zcb, zcc, zcd, zce, zcf, zcg, zch, zci, zcj, zck, zco, zcp, zcq, zcr, zcs, zct, zcv, zcw, zcx, zdc, zde, zdf, zdg, zdh, zdi, zdj, zdk, zdl, zdm, zdn, zdo, zdu, zdv, zdw, zdx, zdy, zdz, zec, zed, zee, zef, zeg, zeh, zei, zej, zek, zel, zem, zen, zeq, zer, zes, zet, zeu, zev, zew, zex, zey, zez, zfa, zfb, zfc, zfd, zfe, zff, zfg, zfh, zfi, zfj, zfk, zfl, zfm, zfn, zfo, zfu, zfv, zfw, zfx, zfy, zfz, zga, zgb, zgc, zgd, zge, zgf, zgg, zgh, zgi, zgj, zgk, zgl, zgm, zgn, zgo, zgp, zgq, zgr, zgs, zgt, zgu, zgv, zgw, zgx, zgy, zgz, zha, zhb, zhc, zhd, zhe, zhf, zhg, zhh, zhi, zhj, zhk, zhn, zho, zhp, zhq, zhr, zhs, zht, zhu, zhv, zhw, zhx, zhy, zhz, zia, zib, zic, zid, zie, zif, zig, zih, zii, zij, zik, zil, zim, zin, zio, zip, ziq, zir, zis, zit, ziu, ziv, ziw, zix, ziy, ziz, zja, zjb, zjc, zjd, zje, zjf, zjg, zjh, zji, zjj, zjk, zjl, zjm, zjn, zjo, zjp, zjq, zjr, zjs, zjt, zju, zjv, zjw, zjx, zjy, zjz, zka, zkb, zkc, zkd, zke, zkf, zkg, zkh, zki, zkj, zkk, zkl, zkm, zkn, zko, zkp, zkq, zkr, zku, zkv, zkw, zkx, zky, zkz, zla, zlb, zlc, zld, zle, zlf, zlg, zlh, zli, zlj, zlk, zll, zlm, zln, zlo, zlp, zlq, zlr, zls, zlt, zlu, zlv, zlw, zlx, zly, zlz, zma, zmb, tab3, tab4, tab9, tab23, tab28, tab57, tab59, tab84]
                             tactic =>
                              try simp only [ncast] at *
                              try simp only [Int.ofNat_eq_natCast] at *
                              try simp (config := { maxSteps := 4000000 }) only [hp2, over_res, boxed_n, htx2, hty2, h22, hI2, hJ2, tripD.eq_def, dec_PairB, isE_PairB, dec_PL, isE_PL, PL_l, con3q_d, enc_Pair, Pair_a, Pair_b, Pair_c, dynOf_t, dynOf_f, dec_PairT, dec_PairF, isE_PairT, isE_PairF, enc_Node, isE_Node, dec_Node, node_eta, szN, eqb_Node, con_EndT, con_KidsT, Int.ofNat_eq_natCast, con0, con1, con2, con3, con2t, con3t, symD0, symD1, symD2, symD3, symD4, Nat.reduceAdd, Nat.reduceSub, Nat.reduceMul, Nat.reduceMod, Nat.reduceLT, Nat.reduceLeDiff, Nat.reduceEqDiff, Nat.reduceBEq, Obj.isBox, D.setCell, D.asAgg, setAll, allFit, AV.fits, lk, upd, standAt, freeAt, backTo, packD, Nat.reduceDiv, reduceIte, reduceCtorEq, skIs, skAll, SK.is, aggL, eqbAll, D.eqb, Nat.reduceBNe]
                              repeat' (first | with_reducible assumption | with_reducible refine And.intro ?_ ?_ | intro _ | omega | (rw [inR_i64]; omega))
                              refine ⟨(j + 1, ⟨none, d2⟩), ?_, by simp only; omega, hrest, g1, g2, by simp only; omega⟩
                              simp only [obU_n]
                              ((try simp only [atHead_mk, killAll, setSlots, updAll, upd, set_fl, setCs, putC, Nat.reduceDiv, Nat.reduceMod, Nat.reduceMul, Nat.reduceAdd, Nat.reduceEqDiff, List.set_cons_zero, List.set_cons_succ, if_true, if_false, reduceIte]); (first | refine Wk.of_fl ?_ | skip); simp only [Wk, wkK, wkCs, wkT, wk1, AV.kept, keptAll, wkO, lk, wkObj, and_true, true_and, and_self, Nat.reduceEqDiff, Nat.reduceLeDiff, if_true, if_false, reduceIte, reduceCtorEq, Option.isSome, false_implies]; try simp [Wk, wkK, wkT, wk1, AV.kept, keptAll, wkO, lk, wkObj]))
                      | some l2 =>
                        have hp2 : (bcon_over n).post ⟨a, b, ⟨none, d1⟩, I, J⟩ = boxed a b ⟨some l2, d2⟩ := by rw [over_post, htx2, hty2, hr]
                        refine aCallB_of (bc := bcon_over n) ⟨a, b, ⟨none, d1⟩, I, J⟩ [90000, 90001, 90002, 90003, 90004] ⟨ha, hb, ⟨xj, yj, hax, hay, hnr⟩, hd1i, by simp only [Option.getD_none, Option.getD_some, List.length_nil]; omega⟩ rfl (by simp) (by rw [hp2]; rfl) ?_ ?_ ?_
                        · show standAt _ _ (boxed a b ⟨none, d1⟩) _
                          simp only [boxed_n]
                          simp [standAt, lk, rnO, rnA, rnAs, rk]
                        · show freeAt (List.drop (boxed a b ⟨none, d1⟩).length _) _
                          simp only [boxed_n]
                          simp [freeAt, lk]
                        cases r with
                        | false =>
                          rw [cond_false] at hrest
                          have hz := hbadR (by rw [← hwhole, ← hrest])
                          rw [← hrest]
                          have h22 : (overR false xj yj (I : Int) (J : Int)).2.2 = false := by rw [overR_ok, ← hov2]
                          (sym =>
                             simp [hp2, over_res, boxed_s, htx2, hty2, h22, hz, tripD.eq_def, dec_PairB, isE_PairB, dec_PL, isE_PL, PL_l, con3q_d, enc_Pair, Pair_a, Pair_b, Pair_c, dynOf_t, dynOf_f, dec_PairT, dec_PairF, isE_PairT, isE_PairF, enc_Node, isE_Node, dec_Node, node_eta, szN, eqb_Node, bctx_over_t, bctx_over_c, bctx_over_d, bctx_over_b, bctx_over_u, con_EndT.eq_def, con_KidsT.eq_def, zaa, zab, zac, zad, zae, zaf, zag, zah, zai, zaj, zak, zal, zam, zan, zao, zap, zaq, zar, zas, zat, zau, zav, zaw, zax, zaz, zbh, zbl, zbm, zbn, zbo, zbp, zbq, zbr, zbs, zbt, zbu, zbx, zby, zbz, zca, zcb, zcc, zcd, zce, zcf, zcg, zch, zci, zcj, zck, zco, zcp, zcq, zcr, zcs, zct, zcv, zcw, zcx, zdc, zde, zdf, zdg, zdh, zdi, zdj, zdk, zdl, zdm, zdn, zdo, zdu, zdv, zdw, zdx, zdy, zdz, zec, zed, zee, zef, zeg, zeh, zei, zej, zek, zel, zem, zen, zeq, zer, zes, zet, zeu, zev, zew, zex, zey, zez, zfa, zfb, zfc, zfd, zfe, zff, zfg, zfh, zfi, zfj, zfk, zfl, zfm, zfn, zfo, zfu, zfv, zfw, zfx, zfy, zfz, zga, zgb, zgc, zgd, zge, zgf, zgg, zgh, zgi, zgj, zgk, zgl, zgm, zgn, zgo, zgp, zgq, zgr, zgs, zgt, zgu, zgv, zgw, zgx, zgy, zgz, zha, zhb, zhc, zhd, zhe, zhf, zhg, zhh, zhi, zhj, zhk, zhn, zho, zhp, zhq, zhr, zhs, zht, zhu, zhv, zhw, zhx, zhy, zhz, zia, zib, zic, zid, zie, zif, zig, zih, zii, zij, zik, zil, zim, zin, zio, zip, ziq, zir, zis, zit, ziu, ziv, ziw, zix, ziy, ziz, zja, zjb, zjc, zjd, zje, zjf, zjg, zjh, zji, zjj, zjk, zjl, zjm, zjn, zjo, zjp, zjq, zjr, zjs, zjt, zju, zjv, zjw, zjx, zjy, zjz, zka, zkb, zkc, zkd, zke, zkf, zkg, zkh, zki, zkj, zkk, zkl, zkm, zkn, zko, zkp, zkq, zkr, zku, zkv, zkw, zkx, zky, zkz, zla, zlb, zlc, zld, zle, zlf, zlg, zlh, zli, zlj, zlk, zll, zlm, zln, zlo, zlp, zlq, zlr, zls, zlt, zlu, zlv, zlw, zlx, zly, zlz, zma, zmb, tab3, tab4, tab9, tab23, tab28, tab57, tab59, tab84]
                             tactic =>
                              try simp only [ncast] at *
                              try simp only [Int.ofNat_eq_natCast] at *
                              try simp (config := { maxSteps := 4000000 }) only [hp2, over_res, boxed_s, htx2, hty2, h22, hz, tripD.eq_def, dec_PairB, isE_PairB, dec_PL, isE_PL, PL_l, con3q_d, enc_Pair, Pair_a, Pair_b, Pair_c, dynOf_t, dynOf_f, dec_PairT, dec_PairF, isE_PairT, isE_PairF, enc_Node, isE_Node, dec_Node, node_eta, szN, eqb_Node, con_EndT, con_KidsT, Int.ofNat_eq_natCast, con0, con1, con2, con3, con2t, con3t, symD0, symD1, symD2, symD3, symD4, Nat.reduceAdd, Nat.reduceSub, Nat.reduceMul, Nat.reduceMod, Nat.reduceLT, Nat.reduceLeDiff, Nat.reduceEqDiff, Nat.reduceBEq, Obj.isBox, D.setCell, D.asAgg, setAll, allFit, AV.fits, lk, upd, standAt, freeAt, backTo, packD, Nat.reduceDiv, reduceIte, reduceCtorEq, skIs, skAll, SK.is, aggL, eqbAll, D.eqb, Nat.reduceBNe]
                              repeat' (first | with_reducible assumption | with_reducible refine And.intro ?_ ?_ | intro _ | omega | (rw [inR_i64]; omega))
                              all_goals first
                                | (with_reducible refine okD_id ?_; kernel_rfl)
                                | skip
                              refine ⟨[90000, 90001, 90002, 90003, 90004], by simp, rfl, canon4, ?_⟩
                              simp [standAt, lk, rnO, rnA, rnAs, rk])
                        | true =>
                          rw [cond_true] at hrest
                          have h22 := overR_t (bel := false) (x := xj) (y := yj) (i := I) (k := J) hov2.symm
                          have hI2 : I + (nds xj).length = i + 1 + (ndss (xs.take (j + 1))).length := by omega
                          have hJ2 : J + (nds yj).length = k + 1 + (ndss (ys.take (j + 1))).length := by omega
                          have g1 := hmo2.done
                          have g2 := hmo2.len
                          rw [hI2] at g1 hrest
                          rw [hJ2] at g2 hrest
                          (sym =>
                             simp [hp2, over_res, boxed_s, htx2, hty2, h22, hI2, hJ2, tripD.eq_def, dec_PairB, isE_PairB, dec_PL, isE_PL, PL_l, con3q_d, enc_Pair, Pair_a, Pair_b, Pair_c, dynOf_t, dynOf_f, dec_PairT, dec_PairF, isE_PairT, isE_PairF, enc_Node, isE_Node, dec_Node, node_eta, szN, eqb_Node, bctx_over_t, bctx_over_c, bctx_over_d, bctx_over_b, bctx_over_u, con_EndT.eq_def, con_KidsT.eq_def, zaa, zab, zac, zad, zae, zaf, zag, zah, zai, zaj, zak, zal, zam, zan, zao, zap, zaq, zar, zas, zat, zau, zav, zaw, zax, zaz, zbh, zbl, zbm, zbn, zbo, zbp, zbq, zbr, zbs, zbt, zbu, zbx, zby, zbz, zca, zcb, zcc, zcd, zce, zcf, zcg, zch, zci, zcj, zck, zco, zcp, zcq, zcr, zcs, zct, zcv, zcw, zcx, zdc, zde, zdf, zdg, zdh, zdi, zdj, zdk, zdl, zdm, zdn, zdo, zdu, zdv, zdw, zdx, zdy, zdz, zec, zed, zee, zef, zeg, zeh, zei, zej, zek, zel, zem, zen, zeq, zer, zes, zet, zeu, zev, zew, zex, zey, zez, zfa, zfb, zfc, zfd, zfe, zff, zfg, zfh, zfi, zfj, zfk, zfl, zfm, zfn, zfo, zfu, zfv, zfw, zfx, zfy, zfz, zga, zgb, zgc, zgd, zge, zgf, zgg, zgh, zgi, zgj, zgk, zgl, zgm, zgn, zgo, zgp, zgq, zgr, zgs, zgt, zgu, zgv, zgw, zgx, zgy, zgz, zha, zhb, zhc, zhd, zhe, zhf, zhg, zhh, zhi, zhj, zhk, zhn, zho, zhp, zhq, zhr, zhs, zht, zhu, zhv, zhw, zhx, zhy, zhz, zia, zib, zic, zid, zie, zif, zig, zih, zii, zij, zik, zil, zim, zin, zio, zip, ziq, zir, zis, zit, ziu, ziv, ziw, zix, ziy, ziz, zja, zjb, zjc, zjd, zje, zjf, zjg, zjh, zji, zjj, zjk, zjl, zjm, zjn, zjo, zjp, zjq, zjr, zjs, zjt, zju, zjv, zjw, zjx, zjy, zjz, zka, zkb, zkc, zkd, zke, zkf, zkg, zkh, zki, zkj, zkk, zkl, zkm, zkn, zko, zkp, zkq, zkr, zku, zkv, zkw, zkx, zky, zkz, zla, zlb, zlc, zld, zle, zlf, zlg, zlh, zli, zlj, zlk, zll, zlm, zln, zlo, zlp, zlq, zlr, zls, zlt, zlu, zlv, zlw, zlx, zly, zlz, zma, zmb, tab3, tab4, tab9, tab23, tab28, tab57, tab59, tab84]
                             tactic =>
                              try simp only [ncast] at *
                              try simp only [Int.ofNat_eq_natCast] at *
                              try simp (config := { maxSteps := 4000000 }) only [hp2, over_res, boxed_s, htx2, hty2, h22, hI2, hJ2, tripD.eq_def, dec_PairB, isE_PairB, dec_PL, isE_PL, PL_l, con3q_d, enc_Pair, Pair_a, Pair_b, Pair_c, dynOf_t, dynOf_f, dec_PairT, dec_PairF, isE_PairT, isE_PairF, enc_Node, isE_Node, dec_Node, node_eta, szN, eqb_Node, con_EndT, con_KidsT, Int.ofNat_eq_natCast, con0, con1, con2, con3, con2t, con3t, symD0, symD1, symD2, symD3, symD4, Nat.reduceAdd, Nat.reduceSub, Nat.reduceMul, Nat.reduceMod, Nat.reduceLT, Nat.reduceLeDiff, Nat.reduceEqDiff, Nat.reduceBEq, Obj.isBox, D.setCell, D.asAgg, setAll, allFit, AV.fits, lk, upd, standAt, freeAt, backTo, packD, Nat.reduceDiv, reduceIte, reduceCtorEq, skIs, skAll, SK.is, aggL, eqbAll, D.eqb, Nat.reduceBNe]
                              repeat' (first | with_reducible assumption | with_reducible refine And.intro ?_ ?_ | intro _ | omega | (rw [inR_i64]; omega))
                              refine ⟨(j + 1, ⟨some l2, d2⟩), ?_, by simp only; omega, hrest, g1, g2, by simp only; omega⟩
                              simp only [obU_s]
                              ((try simp only [atHead_mk, killAll, setSlots, updAll, upd, set_fl, setCs, putC, Nat.reduceDiv, Nat.reduceMod, Nat.reduceMul, Nat.reduceAdd, Nat.reduceEqDiff, List.set_cons_zero, List.set_cons_succ, if_true, if_false, reduceIte]); (first | refine Wk.of_fl ?_ | skip); simp only [Wk, wkK, wkCs, wkT, wk1, AV.kept, keptAll, wkO, lk, wkObj, and_true, true_and, and_self, Nat.reduceEqDiff, Nat.reduceLeDiff, if_true, if_false, reduceIte, reduceCtorEq, Option.isSome, false_implies]; try simp [Wk, wkK, wkT, wk1, AV.kept, keptAll, wkO, lk, wkObj])))
              · have hjk : j = xs.length := by omega
                subst hjk
                rw [List.drop_length, hlen, List.drop_length, mvs] at hrest
                have ho : ov false x y = true := by rw [← hwhole, ← hrest]
                have h22 := overR_t (bel := false) (x := x) (y := y) (i := i) (k := k) ho
                have hI2 : i + 1 + (ndss (xs.take xs.length)).length = i + (nds x).length := by rw [List.take_length]; omega
                have hJ2 : k + 1 + (ndss (ys.take xs.length)).length = k + (nds y).length := by rw [hlen, List.take_length]; omega
                rw [← hrest]
                (sym =>
                   simp [hlb, htx, hty, h22, hI2, hJ2, boxed_n, tripD.eq_def, dec_PairB, isE_PairB, dec_PL, isE_PL, PL_l, con3q_d, enc_Pair, Pair_a, Pair_b, Pair_c, dynOf_t, dynOf_f, dec_PairT, dec_PairF, isE_PairT, isE_PairF, enc_Node, isE_Node, dec_Node, node_eta, szN, eqb_Node, bctx_over_t, bctx_over_c, bctx_over_d, bctx_over_b, bctx_over_u, con_EndT.eq_def, con_KidsT.eq_def, zaa, zab, zac, zad, zae, zaf, zag, zah, zai, zaj, zak, zal, zam, zan, zao, zap, zaq, zar, zas, zat, zau, zav, zaw, zax, zaz, zbh, zbl, zbm, zbn, zbo, zbp, zbq, zbr, zbs, zbt, zbu, zbx, zby, zbz, zca, zcb, zcc, zcd, zce, zcf, zcg, zch, zci, zcj, zck, zco, zcp, zcq, zcr, zcs, zct, zcv, zcw, zcx, zdc, zde, zdf, zdg, zdh, zdi, zdj, zdk, zdl, zdm, zdn, zdo, zdu, zdv, zdw, zdx, zdy, zdz, zec, zed, zee, zef, zeg, zeh, zei, zej, zek, zel, zem, zen, zeq, zer, zes, zet, zeu, zev, zew, zex, zey, zez, zfa, zfb, zfc, zfd, zfe, zff, zfg, zfh, zfi, zfj, zfk, zfl, zfm, zfn, zfo, zfu, zfv, zfw, zfx, zfy, zfz, zga, zgb, zgc, zgd, zge, zgf, zgg, zgh, zgi, zgj, zgk, zgl, zgm, zgn, zgo, zgp, zgq, zgr, zgs, zgt, zgu, zgv, zgw, zgx, zgy, zgz, zha, zhb, zhc, zhd, zhe, zhf, zhg, zhh, zhi, zhj, zhk, zhn, zho, zhp, zhq, zhr, zhs, zht, zhu, zhv, zhw, zhx, zhy, zhz, zia, zib, zic, zid, zie, zif, zig, zih, zii, zij, zik, zil, zim, zin, zio, zip, ziq, zir, zis, zit, ziu, ziv, ziw, zix, ziy, ziz, zja, zjb, zjc, zjd, zje, zjf, zjg, zjh, zji, zjj, zjk, zjl, zjm, zjn, zjo, zjp, zjq, zjr, zjs, zjt, zju, zjv, zjw, zjx, zjy, zjz, zka, zkb, zkc, zkd, zke, zkf, zkg, zkh, zki, zkj, zkk, zkl, zkm, zkn, zko, zkp, zkq, zkr, zku, zkv, zkw, zkx, zky, zkz, zla, zlb, zlc, zld, zle, zlf, zlg, zlh, zli, zlj, zlk, zll, zlm, zln, zlo, zlp, zlq, zlr, zls, zlt, zlu, zlv, zlw, zlx, zly, zlz, zma, zmb, tab3, tab4, tab9, tab23, tab28, tab57, tab59, tab84]
                   tactic =>
                    try simp only [ncast] at *
                    try simp only [Int.ofNat_eq_natCast] at *
                    try simp (config := { maxSteps := 4000000 }) only [hlb, htx, hty, h22, hI2, hJ2, boxed_n, tripD.eq_def, dec_PairB, isE_PairB, dec_PL, isE_PL, PL_l, con3q_d, enc_Pair, Pair_a, Pair_b, Pair_c, dynOf_t, dynOf_f, dec_PairT, dec_PairF, isE_PairT, isE_PairF, enc_Node, isE_Node, dec_Node, node_eta, szN, eqb_Node, con_EndT, con_KidsT, Int.ofNat_eq_natCast, con0, con1, con2, con3, con2t, con3t, symD0, symD1, symD2, symD3, symD4, Nat.reduceAdd, Nat.reduceSub, Nat.reduceMul, Nat.reduceMod, Nat.reduceLT, Nat.reduceLeDiff, Nat.reduceEqDiff, Nat.reduceBEq, Obj.isBox, D.setCell, D.asAgg, setAll, allFit, AV.fits, lk, upd, standAt, freeAt, backTo, packD, Nat.reduceDiv, reduceIte, reduceCtorEq, skIs, skAll, SK.is, aggL, eqbAll, D.eqb, Nat.reduceBNe]
                    repeat' (first | with_reducible assumption | with_reducible refine And.intro ?_ ?_ | intro _ | omega | (rw [inR_i64]; omega))
                    refine ⟨[90000, 90001, 90002, 90003], by simp, rfl, canon4', ?_⟩
                    simp [standAt, lk, rnO, rnA, rnAs, rk])
            | some l1 =>
              simp only [Option.getD_none, Option.getD_some, List.length_nil] at hl1k
              simp only [obU_s]
              rcases ltB_cases j xs.length with ⟨hlt, hlb⟩ | ⟨hlt, hlb⟩
              · have hlt' : j < ys.length := by omega
                have hax := ats_at hks hlt
                have hay := ats_at hqs hlt'
                have hnr : (nds xs[j]).length < n := by have := nds_at_lt hlt; omega
                rw [List.drop_eq_getElem_cons hlt, List.drop_eq_getElem_cons hlt', mvs] at hrest
                have hsx := ndss_take_succ hlt
                have hsy := ndss_take_succ hlt'
                obtain ⟨xj, hxj⟩ : ∃ z, xs[j] = z := ⟨_, rfl⟩
                obtain ⟨yj, hyj⟩ : ∃ z, ys[j] = z := ⟨_, rfl⟩
                rw [hxj] at hax hnr hsx hrest
                rw [hyj] at hay hsy hrest
                obtain ⟨I, hI⟩ : ∃ I, i + 1 + (ndss (xs.take j)).length = I := ⟨_, rfl⟩
                obtain ⟨J, hJ⟩ : ∃ I, k + 1 + (ndss (ys.take j)).length = I := ⟨_, rfl⟩
                rw [hI] at hax hrest hd1i
                rw [hJ] at hay hrest hl1k
                have hIl := hax.lt
                have hJl := hay.lt
                have hrx2 : a.getD I n0 = xj.root := hax.root n0
                have hry2 : b.getD J n0 = yj.root := hay.root n0
                have htx2 : treeAt ar a I = xj := treeAt_eq hax
                have hty2 : treeAt ar b J = yj := treeAt_eq hay
                have hov2 := mv_ov a b xj yj I J ⟨some l1, d1⟩
                have hmo2 := mv_ok (s := ⟨some l1, d1⟩) hax hay hd1i (by simp only [Option.getD_none, Option.getD_some, List.length_nil]; omega)
                cases hnm : (xj.root.name == yj.root.name) with
                | false =>
                  rw [hnm, cond_false] at hrest
                  have hz := hbadR (by rw [← hwhole, ← hrest])
                  rw [← hrest]
                  have zz15 := el_enc n0 hIl
                  have zz16 := el_enc n0 hJl
                  (sym =>
                     simp [hlb, hI, hJ, zz15, zz16, hrx2, hry2, hnm, htx, hty, hz, tripD.eq_def, dec_PairB, isE_PairB, dec_PL, isE_PL, PL_l, con3q_d, enc_Pair, Pair_a, Pair_b, Pair_c, dynOf_t, dynOf_f, dec_PairT, dec_PairF, isE_PairT, isE_PairF, enc_Node, isE_Node, dec_Node, node_eta, szN, eqb_Node, bctx_over_t, bctx_over_c, bctx_over_d, bctx_over_b, bctx_over_u, con_EndT.eq_def, con_KidsT.eq_def, zaa, zab, zac, zad, zae, zaf, zag, zah, zai, zaj, zak, zal, zam, zan, zao, zap, zaq, zar, zas, zat, zau, zav, zaw, zax, zaz, zbh, zbl, zbm, zbn, zbo, zbp, zbq, zbr, zbs, zbt, zbu, zbx, zby, zbz, zca, zcb, zcc, zcd, zce, zcf, zcg, zch, zci, zcj, zck, zco, zcp, zcq, zcr, zcs, zct, zcv, zcw, zcx, zdc, zde, zdf, zdg, zdh, zdi, zdj, zdk, zdl, zdm, zdn, zdo, zdu, zdv, zdw, zdx, zdy, zdz, zec, zed, zee, zef, zeg, zeh, zei, zej, zek, zel, zem, zen, zeq, zer, zes, zet, zeu, zev, zew, zex, zey, zez, zfa, zfb, zfc, zfd, zfe, zff, zfg, zfh, zfi, zfj, zfk, zfl, zfm, zfn, zfo, zfu, zfv, zfw, zfx, zfy, zfz, zga, zgb, zgc, zgd, zge, zgf, zgg, zgh, zgi, zgj, zgk, zgl, zgm, zgn, zgo, zgp, zgq, zgr, zgs, zgt, zgu, zgv, zgw, zgx, zgy, zgz, zha, zhb, zhc, zhd, zhe, zhf, zhg, zhh, zhi, zhj, zhk, zhn, zho, zhp, zhq, zhr, zhs, zht, zhu, zhv, zhw, zhx, zhy, zhz, zia, zib, zic, zid, zie, zif, zig, zih, zii, zij, zik, zil, zim, zin, zio, zip, ziq, zir, zis, zit, ziu, ziv, ziw, zix, ziy, ziz, zja, zjb, zjc, zjd, zje, zjf, zjg, zjh, zji, zjj, zjk, zjl, zjm, zjn, zjo, zjp, zjq, zjr, zjs, zjt, zju, zjv, zjw, zjx, zjy, zjz, zka, zkb, zkc, zkd, zke, zkf, zkg, zkh, zki, zkj, zkk, zkl, zkm, zkn, zko, zkp, zkq, zkr, zku, zkv, zkw, zkx, zky, zkz, zla, zlb, zlc, zld, zle, zlf, zlg, zlh, zli, zlj, zlk, zll, zlm, zln, zlo, zlp, zlq, zlr, zls, zlt, zlu, zlv, zlw, zlx, zly, zlz, zma, zmb, tab3, tab4, tab9, tab23, tab28, tab57, tab59, tab84]
                     tactic =>
                      try simp only [ncast] at *
                      try simp only [Int.ofNat_eq_natCast] at *
                      try simp (config := { maxSteps := 4000000 }) only [hlb, hI, hJ, zz15, zz16, hrx2, hry2, hnm, htx, hty, hz, tripD.eq_def, dec_PairB, isE_PairB, dec_PL, isE_PL, PL_l, con3q_d, enc_Pair, Pair_a, Pair_b, Pair_c, dynOf_t, dynOf_f, dec_PairT, dec_PairF, isE_PairT, isE_PairF, enc_Node, isE_Node, dec_Node, node_eta, szN, eqb_Node, con_EndT, con_KidsT, Int.ofNat_eq_natCast, con0, con1, con2, con3, con2t, con3t, symD0, symD1, symD2, symD3, symD4, Nat.reduceAdd, Nat.reduceSub, Nat.reduceMul, Nat.reduceMod, Nat.reduceLT, Nat.reduceLeDiff, Nat.reduceEqDiff, Nat.reduceBEq, Obj.isBox, D.setCell, D.asAgg, setAll, allFit, AV.fits, lk, upd, standAt, freeAt, backTo, packD, Nat.reduceDiv, reduceIte, reduceCtorEq, skIs, skAll, SK.is, aggL, eqbAll, D.eqb, Nat.reduceBNe]
                      repeat' (first | with_reducible assumption | with_reducible refine And.intro ?_ ?_ | intro _ | omega | (rw [inR_i64]; omega))
                      all_goals first
                        | (with_reducible refine okD_id ?_; kernel_rfl)
                        | skip
                      simp only [boxed_s]
                      refine ⟨[90000, 90001, 90002, 90003, 90004], by simp, rfl, canon4, ?_⟩
                      simp [standAt, lk, rnO, rnA, rnAs, rk])
                | true =>
                  rw [hnm, cond_true] at hrest
                  obtain ⟨r, hr⟩ : ∃ r, mv a b xj yj I J ⟨some l1, d1⟩ = r := ⟨_, rfl⟩
                  rw [hr] at hrest hov2 hmo2
                  obtain ⟨r, ⟨o2, d2⟩⟩ := r
                  simp only at hrest hov2 hmo2
                  have zz17 := el_enc n0 hIl
                  have zz18 := el_enc n0 hJl
                  (sym =>
                     simp [hlb, hI, hJ, zz17, zz18, hrx2, hry2, hnm, dec_PairB, isE_PairB, dec_PL, isE_PL, PL_l, con3q_d, enc_Pair, Pair_a, Pair_b, Pair_c, dynOf_t, dynOf_f, dec_PairT, dec_PairF, isE_PairT, isE_PairF, enc_Node, isE_Node, dec_Node, node_eta, szN, eqb_Node, bctx_over_t, bctx_over_c, bctx_over_d, bctx_over_b, bctx_over_u, con_EndT.eq_def, con_KidsT.eq_def, zaa, zab, zac, zad, zae, zaf, zag, zah, zai, zaj, zak, zal, zam, zan, zao, zap, zaq, zar, zas, zat, zau, zav, zaw, zax, zaz, zbh, zbl, zbm, zbn, zbo, zbp, zbq, zbr, zbs, zbt, zbu, zbx, zby, zbz, zca, zcb, zcc, zcd, zce, zcf, zcg, zch, zci, zcj, zck, zco, zcp, zcq, zcr, zcs, zct, zcv, zcw, zcx, zdc, zde, zdf, zdg, zdh, zdi, zdj, zdk, zdl, zdm, zdn, zdo, zdu, zdv, zdw, zdx, zdy, zdz, zec, zed, zee, zef, zeg, zeh, zei, zej, zek, zel, zem, zen, zeq, zer, zes, zet, zeu, zev, zew, zex, zey, zez, zfa, zfb, zfc, zfd, zfe, zff, zfg, zfh, zfi, zfj, zfk, zfl, zfm, zfn, zfo, zfu, zfv, zfw, zfx, zfy, zfz, zga, zgb, zgc, zgd, zge, zgf, zgg, zgh, zgi, zgj, zgk, zgl, zgm, zgn, zgo, zgp, zgq, zgr, zgs, zgt, zgu, zgv, zgw, zgx, zgy, zgz, zha, zhb, zhc, zhd, zhe, zhf, zhg, zhh, zhi, zhj, zhk, zhn, zho, zhp, zhq, zhr, zhs, zht, zhu, zhv, zhw, zhx, zhy, zhz, zia, zib, zic, zid, zie, zif, zig, zih, zii, zij, zik, zil, zim, zin, zio, zip, ziq, zir, zis, zit, ziu, ziv, ziw, zix, ziy, ziz, zja, zjb, zjc, zjd, zje, zjf, zjg, zjh, zji, zjj, zjk, zjl, zjm, zjn, zjo, zjp, zjq, zjr, zjs, zjt, zju, zjv, zjw, zjx, zjy, zjz, zka, zkb, zkc, zkd, zke, zkf, zkg, zkh, zki, zkj, zkk, zkl, zkm, zkn, zko, zkp, zkq, zkr, zku, zkv, zkw, zkx, zky, zkz, zla, zlb, zlc, zld, zle, zlf, zlg, zlh, zli, zlj, zlk, zll, zlm, zln, zlo, zlp, zlq, zlr, zls, zlt, zlu, zlv, zlw, zlx, zly, zlz, zma, zmb, tab3, tab4, tab9, tab23, tab28, tab57, tab59, tab84]
                     tactic =>
                      try simp only [ncast] at *
                      try simp only [Int.ofNat_eq_natCast] at *
                      try simp (config := { maxSteps := 4000000 }) only [hlb, hI, hJ, zz17, zz18, hrx2, hry2, hnm, dec_PairB, isE_PairB, dec_PL, isE_PL, PL_l, con3q_d, enc_Pair, Pair_a, Pair_b, Pair_c, dynOf_t, dynOf_f, dec_PairT, dec_PairF, isE_PairT, isE_PairF, enc_Node, isE_Node, dec_Node, node_eta, szN, eqb_Node, con_EndT, con_KidsT, Int.ofNat_eq_natCast, con0, con1, con2, con3, con2t, con3t, symD0, symD1, symD2, symD3, symD4, Nat.reduceAdd, Nat.reduceSub, Nat.reduceMul, Nat.reduceMod, Nat.reduceLT, Nat.reduceLeDiff, Nat.reduceEqDiff, Nat.reduceBEq, Obj.isBox, D.setCell, D.asAgg, setAll, allFit, AV.fits, lk, upd, standAt, freeAt, backTo, packD, Nat.reduceDiv, reduceIte, reduceCtorEq, skIs, skAll, SK.is, aggL, eqbAll, D.eqb, Nat.reduceBNe]
                      repeat' (first | with_reducible assumption | with_reducible refine And.intro ?_ ?_ | intro _ | omega | (rw [inR_i64]; omega))
                      all_goals first
                        | (with_reducible refine okD_id ?_; kernel_rfl)
                        | skip
                      cases o2 with
                      | none => have := hmo2.some rfl; cases this
                      | some l2 =>
                        have hp2 : (bcon_over n).post ⟨a, b, ⟨some l1, d1⟩, I, J⟩ = boxed a b ⟨some l2, d2⟩ := by rw [over_post, htx2, hty2, hr]
                        refine aCallB_of (bc := bcon_over n) ⟨a, b, ⟨some l1, d1⟩, I, J⟩ [90000, 90001, 90002, 90003, 90004] ⟨ha, hb, ⟨xj, yj, hax, hay, hnr⟩, hd1i, by simp only [Option.getD_none, Option.getD_some, List.length_nil]; omega⟩ rfl (by simp) (by rw [hp2]; rfl) ?_ ?_ ?_
                        · show standAt _ _ (boxed a b ⟨some l1, d1⟩) _
                          simp only [boxed_s]
                          simp [standAt, lk, rnO, rnA, rnAs, rk]
                        · show freeAt (List.drop (boxed a b ⟨some l1, d1⟩).length _) _
                          simp only [boxed_s]
                          simp [freeAt, lk]
                        cases r with
                        | false =>
                          rw [cond_false] at hrest
                          have hz := hbadR (by rw [← hwhole, ← hrest])
                          rw [← hrest]
                          have h22 : (overR false xj yj (I : Int) (J : Int)).2.2 = false := by rw [overR_ok, ← hov2]
                          (sym =>
                             simp [hp2, over_res, boxed_s, htx2, hty2, h22, hz, tripD.eq_def, dec_PairB, isE_PairB, dec_PL, isE_PL, PL_l, con3q_d, enc_Pair, Pair_a, Pair_b, Pair_c, dynOf_t, dynOf_f, dec_PairT, dec_PairF, isE_PairT, isE_PairF, enc_Node, isE_Node, dec_Node, node_eta, szN, eqb_Node, bctx_over_t, bctx_over_c, bctx_over_d, bctx_over_b, bctx_over_u, con_EndT.eq_def, con_KidsT.eq_def, zaa, zab, zac, zad, zae, zaf, zag, zah, zai, zaj, zak, zal, zam, zan, zao, zap, zaq, zar, zas, zat, zau, zav, zaw, zax, zaz, zbh, zbl, zbm, zbn, zbo, zbp, zbq, zbr, zbs, zbt, zbu, zbx, zby, zbz, zca, zcb, zcc, zcd, zce, zcf, zcg, zch, zci, zcj, zck, zco, zcp, zcq, zcr, zcs, zct, zcv, zcw, zcx, zdc, zde, zdf, zdg, zdh, zdi, zdj, zdk, zdl, zdm, zdn, zdo, zdu, zdv, zdw, zdx, zdy, zdz, zec, zed, zee, zef, zeg, zeh, zei, zej, zek, zel, zem, zen, zeq, zer, zes, zet, zeu, zev, zew, zex, zey, zez, zfa, zfb, zfc, zfd, zfe, zff, zfg, zfh, zfi, zfj, zfk, zfl, zfm, zfn, zfo, zfu, zfv, zfw, zfx, zfy, zfz, zga, zgb, zgc, zgd, zge, zgf, zgg, zgh, zgi, zgj, zgk, zgl, zgm, zgn, zgo, zgp, zgq, zgr, zgs, zgt, zgu, zgv, zgw, zgx, zgy, zgz, zha, zhb, zhc, zhd, zhe, zhf, zhg, zhh, zhi, zhj, zhk, zhn, zho, zhp, zhq, zhr, zhs, zht, zhu, zhv, zhw, zhx, zhy, zhz, zia, zib, zic, zid, zie, zif, zig, zih, zii, zij, zik, zil, zim, zin, zio, zip, ziq, zir, zis, zit, ziu, ziv, ziw, zix, ziy, ziz, zja, zjb, zjc, zjd, zje, zjf, zjg, zjh, zji, zjj, zjk, zjl, zjm, zjn, zjo, zjp, zjq, zjr, zjs, zjt, zju, zjv, zjw, zjx, zjy, zjz, zka, zkb, zkc, zkd, zke, zkf, zkg, zkh, zki, zkj, zkk, zkl, zkm, zkn, zko, zkp, zkq, zkr, zku, zkv, zkw, zkx, zky, zkz, zla, zlb, zlc, zld, zle, zlf, zlg, zlh, zli, zlj, zlk, zll, zlm, zln, zlo, zlp, zlq, zlr, zls, zlt, zlu, zlv, zlw, zlx, zly, zlz, zma, zmb, tab3, tab4, tab9, tab23, tab28, tab57, tab59, tab84]
                             tactic =>
                              try simp only [ncast] at *
                              try simp only [Int.ofNat_eq_natCast] at *
                              try simp (config := { maxSteps := 4000000 }) only [hp2, over_res, boxed_s, htx2, hty2, h22, hz, tripD.eq_def, dec_PairB, isE_PairB, dec_PL, isE_PL, PL_l, con3q_d, enc_Pair, Pair_a, Pair_b, Pair_c, dynOf_t, dynOf_f, dec_PairT, dec_PairF, isE_PairT, isE_PairF, enc_Node, isE_Node, dec_Node, node_eta, szN, eqb_Node, con_EndT, con_KidsT, Int.ofNat_eq_natCast, con0, con1, con2, con3, con2t, con3t, symD0, symD1, symD2, symD3, symD4, Nat.reduceAdd, Nat.reduceSub, Nat.reduceMul, Nat.reduceMod, Nat.reduceLT, Nat.reduceLeDiff, Nat.reduceEqDiff, Nat.reduceBEq, Obj.isBox, D.setCell, D.asAgg, setAll, allFit, AV.fits, lk, upd, standAt, freeAt, backTo, packD, Nat.reduceDiv, reduceIte, reduceCtorEq, skIs, skAll, SK.is, aggL, eqbAll, D.eqb, Nat.reduceBNe]
                              repeat' (first | with_reducible assumption | with_reducible refine And.intro ?_ ?_ | intro _ | omega | (rw [inR_i64]; omega))
                              all_goals first
                                | (with_reducible refine okD_id ?_; kernel_rfl)
                                | skip
                              refine ⟨[90000, 90001, 90002, 90003, 90004], by simp, rfl, canon4, ?_⟩
                              simp [standAt, lk, rnO, rnA, rnAs, rk])
                        | true =>
                          rw [cond_true] at hrest
                          have h22 := overR_t (bel := false) (x := xj) (y := yj) (i := I) (k := J) hov2.symm
                          have hI2 : I + (nds xj).length = i + 1 + (ndss (xs.take (j + 1))).length := by omega
                          have hJ2 : J + (nds yj).length = k + 1 + (ndss (ys.take (j + 1))).length := by omega
                          have g1 := hmo2.done
                          have g2 := hmo2.len
                          rw [hI2] at g1 hrest
                          rw [hJ2] at g2 hrest
                          (sym =>
                             simp [hp2, over_res, boxed_s, htx2, hty2, h22, hI2, hJ2, tripD.eq_def, dec_PairB, isE_PairB, dec_PL, isE_PL, PL_l, con3q_d, enc_Pair, Pair_a, Pair_b, Pair_c, dynOf_t, dynOf_f, dec_PairT, dec_PairF, isE_PairT, isE_PairF, enc_Node, isE_Node, dec_Node, node_eta, szN, eqb_Node, bctx_over_t, bctx_over_c, bctx_over_d, bctx_over_b, bctx_over_u, con_EndT.eq_def, con_KidsT.eq_def, zaa, zab, zac, zad, zae, zaf, zag, zah, zai, zaj, zak, zal, zam, zan, zao, zap, zaq, zar, zas, zat, zau, zav, zaw, zax, zaz, zbh, zbl, zbm, zbn, zbo, zbp, zbq, zbr, zbs, zbt, zbu, zbx, zby, zbz, zca, zcb, zcc, zcd, zce, zcf, zcg, zch, zci, zcj, zck, zco, zcp, zcq, zcr, zcs, zct, zcv, zcw, zcx, zdc, zde, zdf, zdg, zdh, zdi, zdj, zdk, zdl, zdm, zdn, zdo, zdu, zdv, zdw, zdx, zdy, zdz, zec, zed, zee, zef, zeg, zeh, zei, zej, zek, zel, zem, zen, zeq, zer, zes, zet, zeu, zev, zew, zex, zey, zez, zfa, zfb, zfc, zfd, zfe, zff, zfg, zfh, zfi, zfj, zfk, zfl, zfm, zfn, zfo, zfu, zfv, zfw, zfx, zfy, zfz, zga, zgb, zgc, zgd, zge, zgf, zgg, zgh, zgi, zgj, zgk, zgl, zgm, zgn, zgo, zgp, zgq, zgr, zgs, zgt, zgu, zgv, zgw, zgx, zgy, zgz, zha, zhb, zhc, zhd, zhe, zhf, zhg, zhh, zhi, zhj, zhk, zhn, zho, zhp, zhq, zhr, zhs, zht, zhu, zhv, zhw, zhx, zhy, zhz, zia, zib, zic, zid, zie, zif, zig, zih, zii, zij, zik, zil, zim, zin, zio, zip, ziq, zir, zis, zit, ziu, ziv, ziw, zix, ziy, ziz, zja, zjb, zjc, zjd, zje, zjf, zjg, zjh, zji, zjj, zjk, zjl, zjm, zjn, zjo, zjp, zjq, zjr, zjs, zjt, zju, zjv, zjw, zjx, zjy, zjz, zka, zkb, zkc, zkd, zke, zkf, zkg, zkh, zki, zkj, zkk, zkl, zkm, zkn, zko, zkp, zkq, zkr, zku, zkv, zkw, zkx, zky, zkz, zla, zlb, zlc, zld, zle, zlf, zlg, zlh, zli, zlj, zlk, zll, zlm, zln, zlo, zlp, zlq, zlr, zls, zlt, zlu, zlv, zlw, zlx, zly, zlz, zma, zmb, tab3, tab4, tab9, tab23, tab28, tab57, tab59, tab84]
                             tactic =>
                              try simp only [ncast] at *
                              try simp only [Int.ofNat_eq_natCast] at *
                              try simp (config := { maxSteps := 4000000 }) only [hp2, over_res, boxed_s, htx2, hty2, h22, hI2, hJ2, tripD.eq_def, dec_PairB, isE_PairB, dec_PL, isE_PL, PL_l, con3q_d, enc_Pair, Pair_a, Pair_b, Pair_c, dynOf_t, dynOf_f, dec_PairT, dec_PairF, isE_PairT, isE_PairF, enc_Node, isE_Node, dec_Node, node_eta, szN, eqb_Node, con_EndT, con_KidsT, Int.ofNat_eq_natCast, con0, con1, con2, con3, con2t, con3t, symD0, symD1, symD2, symD3, symD4, Nat.reduceAdd, Nat.reduceSub, Nat.reduceMul, Nat.reduceMod, Nat.reduceLT, Nat.reduceLeDiff, Nat.reduceEqDiff, Nat.reduceBEq, Obj.isBox, D.setCell, D.asAgg, setAll, allFit, AV.fits, lk, upd, standAt, freeAt, backTo, packD, Nat.reduceDiv, reduceIte, reduceCtorEq, skIs, skAll, SK.is, aggL, eqbAll, D.eqb, Nat.reduceBNe]
                              repeat' (first | with_reducible assumption | with_reducible refine And.intro ?_ ?_ | intro _ | omega | (rw [inR_i64]; omega))
                              refine ⟨(j + 1, ⟨some l2, d2⟩), ?_, by simp only; omega, hrest, g1, g2, by simp only; omega⟩
                              simp only [obU_s]
                              ((try simp only [atHead_mk, killAll, setSlots, updAll, upd, set_fl, setCs, putC, Nat.reduceDiv, Nat.reduceMod, Nat.reduceMul, Nat.reduceAdd, Nat.reduceEqDiff, List.set_cons_zero, List.set_cons_succ, if_true, if_false, reduceIte]); (first | refine Wk.of_fl ?_ | skip); simp only [Wk, wkK, wkCs, wkT, wk1, AV.kept, keptAll, wkO, lk, wkObj, and_true, true_and, and_self, Nat.reduceEqDiff, Nat.reduceLeDiff, if_true, if_false, reduceIte, reduceCtorEq, Option.isSome, false_implies]; try simp [Wk, wkK, wkT, wk1, AV.kept, keptAll, wkO, lk, wkObj])))
              · have hjk : j = xs.length := by omega
                subst hjk
                rw [List.drop_length, hlen, List.drop_length, mvs] at hrest
                have ho : ov false x y = true := by rw [← hwhole, ← hrest]
                have h22 := overR_t (bel := false) (x := x) (y := y) (i := i) (k := k) ho
                have hI2 : i + 1 + (ndss (xs.take xs.length)).length = i + (nds x).length := by rw [List.take_length]; omega
                have hJ2 : k + 1 + (ndss (ys.take xs.length)).length = k + (nds y).length := by rw [hlen, List.take_length]; omega
                rw [← hrest]
                (sym =>
                   simp [hlb, htx, hty, h22, hI2, hJ2, boxed_s, tripD.eq_def, dec_PairB, isE_PairB, dec_PL, isE_PL, PL_l, con3q_d, enc_Pair, Pair_a, Pair_b, Pair_c, dynOf_t, dynOf_f, dec_PairT, dec_PairF, isE_PairT, isE_PairF, enc_Node, isE_Node, dec_Node, node_eta, szN, eqb_Node, bctx_over_t, bctx_over_c, bctx_over_d, bctx_over_b, bctx_over_u, con_EndT.eq_def, con_KidsT.eq_def, zaa, zab, zac, zad, zae, zaf, zag, zah, zai, zaj, zak, zal, zam, zan, zao, zap, zaq, zar, zas, zat, zau, zav, zaw, zax, zaz, zbh, zbl, zbm, zbn, zbo, zbp, zbq, zbr, zbs, zbt, zbu, zbx, zby, zbz, zca, zcb, zcc, zcd, zce, zcf, zcg, zch, zci, zcj, zck, zco, zcp, zcq, zcr, zcs, zct, zcv, zcw, zcx, zdc, zde, zdf, zdg, zdh, zdi, zdj, zdk, zdl, zdm, zdn, zdo, zdu, zdv, zdw, zdx, zdy, zdz, zec, zed, zee, zef, zeg, zeh, zei, zej, zek, zel, zem, zen, zeq, zer, zes, zet, zeu, zev, zew, zex, zey, zez, zfa, zfb, zfc, zfd, zfe, zff, zfg, zfh, zfi, zfj, zfk, zfl, zfm, zfn, zfo, zfu, zfv, zfw, zfx, zfy, zfz, zga, zgb, zgc, zgd, zge, zgf, zgg, zgh, zgi, zgj, zgk, zgl, zgm, zgn, zgo, zgp, zgq, zgr, zgs, zgt, zgu, zgv, zgw, zgx, zgy, zgz, zha, zhb, zhc, zhd, zhe, zhf, zhg, zhh, zhi, zhj, zhk, zhn, zho, zhp, zhq, zhr, zhs, zht, zhu, zhv, zhw, zhx, zhy, zhz, zia, zib, zic, zid, zie, zif, zig, zih, zii, zij, zik, zil, zim, zin, zio, zip, ziq, zir, zis, zit, ziu, ziv, ziw, zix, ziy, ziz, zja, zjb, zjc, zjd, zje, zjf, zjg, zjh, zji, zjj, zjk, zjl, zjm, zjn, zjo, zjp, zjq, zjr, zjs, zjt, zju, zjv, zjw, zjx, zjy, zjz, zka, zkb, zkc, zkd, zke, zkf, zkg, zkh, zki, zkj, zkk, zkl, zkm, zkn, zko, zkp, zkq, zkr, zku, zkv, zkw, zkx, zky, zkz, zla, zlb, zlc, zld, zle, zlf, zlg, zlh, zli, zlj, zlk, zll, zlm, zln, zlo, zlp, zlq, zlr, zls, zlt, zlu, zlv, zlw, zlx, zly, zlz, zma, zmb, tab3, tab4, tab9, tab23, tab28, tab57, tab59, tab84]
                   tactic =>
                    try simp only [ncast] at *
                    try simp only [Int.ofNat_eq_natCast] at *
                    try simp (config := { maxSteps := 4000000 }) only [hlb, htx, hty, h22, hI2, hJ2, boxed_s, tripD.eq_def, dec_PairB, isE_PairB, dec_PL, isE_PL, PL_l, con3q_d, enc_Pair, Pair_a, Pair_b, Pair_c, dynOf_t, dynOf_f, dec_PairT, dec_PairF, isE_PairT, isE_PairF, enc_Node, isE_Node, dec_Node, node_eta, szN, eqb_Node, con_EndT, con_KidsT, Int.ofNat_eq_natCast, con0, con1, con2, con3, con2t, con3t, symD0, symD1, symD2, symD3, symD4, Nat.reduceAdd, Nat.reduceSub, Nat.reduceMul, Nat.reduceMod, Nat.reduceLT, Nat.reduceLeDiff, Nat.reduceEqDiff, Nat.reduceBEq, Obj.isBox, D.setCell, D.asAgg, setAll, allFit, AV.fits, lk, upd, standAt, freeAt, backTo, packD, Nat.reduceDiv, reduceIte, reduceCtorEq, skIs, skAll, SK.is, aggL, eqbAll, D.eqb, Nat.reduceBNe]
                    repeat' (first | with_reducible assumption | with_reducible refine And.intro ?_ ?_ | intro _ | omega | (rw [inR_i64]; omega))
                    refine ⟨[90000, 90001, 90002, 90003, 90004], by simp, rfl, canon4, ?_⟩
                    simp [standAt, lk, rnO, rnA, rnAs, rk]))
      | some l =>
        simp only [boxed_s]
        have zz19 := el_enc n0 hil
        have zz20 := el_enc n0 hkl
        (sym =>
           simp [mArgs.eq_def, tripD.eq_def, zz19, zz20, hrx, hry, htx, hty, hd1, hd2, b1, b2, b3, hklen, dec_PairB, isE_PairB, dec_PL, isE_PL, PL_l, con3q_d, enc_Pair, Pair_a, Pair_b, Pair_c, dynOf_t, dynOf_f, dec_PairT, dec_PairF, isE_PairT, isE_PairF, enc_Node, isE_Node, dec_Node, node_eta, szN, eqb_Node, bctx_over_t, bctx_over_c, bctx_over_d, bctx_over_b, bctx_over_u, con_EndT.eq_def, con_KidsT.eq_def, zaa, zab, zac, zad, zae, zaf, zag, zah, zai, zaj, zak, zal, zam, zan, zao, zap, zaq, zar, zas, zat, zau, zav, zaw, zax, zaz, zbh, zbl, zbm, zbn, zbo, zbp, zbq, zbr, zbs, zbt, zbu, zbx, zby, zbz, zca, zcb, zcc, zcd, zce, zcf, zcg, zch, zci, zcj, zck, zco, zcp, zcq, zcr, zcs, zct, zcv, zcw, zcx, zdc, zde, zdf, zdg, zdh, zdi, zdj, zdk, zdl, zdm, zdn, zdo, zdu, zdv, zdw, zdx, zdy, zdz, zec, zed, zee, zef, zeg, zeh, zei, zej, zek, zel, zem, zen, zeq, zer, zes, zet, zeu, zev, zew, zex, zey, zez, zfa, zfb, zfc, zfd, zfe, zff, zfg, zfh, zfi, zfj, zfk, zfl, zfm, zfn, zfo, zfu, zfv, zfw, zfx, zfy, zfz, zga, zgb, zgc, zgd, zge, zgf, zgg, zgh, zgi, zgj, zgk, zgl, zgm, zgn, zgo, zgp, zgq, zgr, zgs, zgt, zgu, zgv, zgw, zgx, zgy, zgz, zha, zhb, zhc, zhd, zhe, zhf, zhg, zhh, zhi, zhj, zhk, zhn, zho, zhp, zhq, zhr, zhs, zht, zhu, zhv, zhw, zhx, zhy, zhz, zia, zib, zic, zid, zie, zif, zig, zih, zii, zij, zik, zil, zim, zin, zio, zip, ziq, zir, zis, zit, ziu, ziv, ziw, zix, ziy, ziz, zja, zjb, zjc, zjd, zje, zjf, zjg, zjh, zji, zjj, zjk, zjl, zjm, zjn, zjo, zjp, zjq, zjr, zjs, zjt, zju, zjv, zjw, zjx, zjy, zjz, zka, zkb, zkc, zkd, zke, zkf, zkg, zkh, zki, zkj, zkk, zkl, zkm, zkn, zko, zkp, zkq, zkr, zku, zkv, zkw, zkx, zky, zkz, zla, zlb, zlc, zld, zle, zlf, zlg, zlh, zli, zlj, zlk, zll, zlm, zln, zlo, zlp, zlq, zlr, zls, zlt, zlu, zlv, zlw, zlx, zly, zlz, zma, zmb, tab3, tab4, tab9, tab23, tab28, tab57, tab59, tab84]
           tactic =>
            try simp only [ncast] at *
            try simp only [Int.ofNat_eq_natCast] at *
            try simp (config := { maxSteps := 4000000 }) only [mArgs.eq_def, tripD.eq_def, zz19, zz20, hrx, hry, htx, hty, hd1, hd2, b1, b2, b3, hklen, dec_PairB, isE_PairB, dec_PL, isE_PL, PL_l, con3q_d, enc_Pair, Pair_a, Pair_b, Pair_c, dynOf_t, dynOf_f, dec_PairT, dec_PairF, isE_PairT, isE_PairF, enc_Node, isE_Node, dec_Node, node_eta, szN, eqb_Node, con_EndT, con_KidsT, Int.ofNat_eq_natCast, con0, con1, con2, con3, con2t, con3t, symD0, symD1, symD2, symD3, symD4, Nat.reduceAdd, Nat.reduceSub, Nat.reduceMul, Nat.reduceMod, Nat.reduceLT, Nat.reduceLeDiff, Nat.reduceEqDiff, Nat.reduceBEq, Obj.isBox, D.setCell, D.asAgg, setAll, allFit, AV.fits, lk, upd, standAt, freeAt, backTo, packD, Nat.reduceDiv, reduceIte, reduceCtorEq, skIs, skAll, SK.is, aggL, eqbAll, D.eqb, Nat.reduceBNe]
            repeat' (first | with_reducible assumption | with_reducible refine And.intro ?_ ?_ | intro _ | omega | (rw [inR_i64]; omega))
            all_goals first
              | (with_reducible refine okD_id ?_; kernel_rfl)
              | skip
            refine aLoop_kill [6, 7, 8, 12, 74, 75, 76, 77, 78, 79, 80, 81, 82, 83, 84, 85, 86, 87, 88, 89, 90, 91, 92, 93, 94, 95, 96, 97, 98] (fun p : Nat × MS => [(1, .d (.int .i64 (i + 1 + (ndss (xs.take p.1)).length : Nat))), (2, .d (.int .i64 (k + 1 + (ndss (ys.take p.1)).length : Nat))), (73, .d (.int .i64 p.1))]) (fun p : Nat × MS => obU p.2) (fun p : Nat × MS => p.1 ≤ xs.length ∧ mvs a b (xs.drop p.1) (ys.drop p.1) (i + 1 + (ndss (xs.take p.1)).length) (k + 1 + (ndss (ys.take p.1)).length) p.2 = mvs a b xs ys (i + 1) (k + 1) ⟨some l, d⟩ ∧ p.2.done ≤ i + 1 + (ndss (xs.take p.1)).length ∧ (p.2.out.getD []).length ≤ p.2.done + (k + 1 + (ndss (ys.take p.1)).length) ∧ p.2.out.isSome = true) (fun p : Nat × MS => xs.length - p.1) (0, ⟨some l, d⟩) ?_ ?_ ?_
            · exact ⟨Nat.zero_le _, hstart, by simp only; omega, by simp only [Option.getD_none, Option.getD_some, List.length_nil] at hol ⊢; omega, rfl⟩
            · simp only [obU_s]
              ((try simp only [atHead_mk, killAll, setSlots, updAll, upd, set_fl, setCs, putC, Nat.reduceDiv, Nat.reduceMod, Nat.reduceMul, Nat.reduceAdd, Nat.reduceEqDiff, List.set_cons_zero, List.set_cons_succ, if_true, if_false, reduceIte]); (first | refine Wk.of_fl ?_ | skip); simp only [Wk, wkK, wkCs, wkT, wk1, AV.kept, keptAll, wkO, lk, wkObj, and_true, true_and, and_self, Nat.reduceEqDiff, Nat.reduceLeDiff, if_true, if_false, reduceIte, reduceCtorEq, Option.isSome, false_implies]; try simp [Wk, wkK, wkT, wk1, AV.kept, keptAll, wkO, lk, wkObj, ndss])
            rintro ⟨j, ⟨o1, d1⟩⟩ ⟨hj, hrest, hd1i, hl1k, hsm⟩
            simp only at hj hrest hd1i hl1k hsm
            cases o1 with
            | none => cases hsm
            | some l1 =>
              simp only [Option.getD_none, Option.getD_some, List.length_nil] at hl1k
              simp only [obU_s]
              rcases ltB_cases j xs.length with ⟨hlt, hlb⟩ | ⟨hlt, hlb⟩
              · have hlt' : j < ys.length := by omega
                have hax := ats_at hks hlt
                have hay := ats_at hqs hlt'
                have hnr : (nds xs[j]).length < n := by have := nds_at_lt hlt; omega
                rw [List.drop_eq_getElem_cons hlt, List.drop_eq_getElem_cons hlt', mvs] at hrest
                have hsx := ndss_take_succ hlt
                have hsy := ndss_take_succ hlt'
                obtain ⟨xj, hxj⟩ : ∃ z, xs[j] = z := ⟨_, rfl⟩
                obtain ⟨yj, hyj⟩ : ∃ z, ys[j] = z := ⟨_, rfl⟩
                rw [hxj] at hax hnr hsx hrest
                rw [hyj] at hay hsy hrest
                obtain ⟨I, hI⟩ : ∃ I, i + 1 + (ndss (xs.take j)).length = I := ⟨_, rfl⟩
                obtain ⟨J, hJ⟩ : ∃ I, k + 1 + (ndss (ys.take j)).length = I := ⟨_, rfl⟩
                rw [hI] at hax hrest hd1i
                rw [hJ] at hay hrest hl1k
                have hIl := hax.lt
                have hJl := hay.lt
                have hrx2 : a.getD I n0 = xj.root := hax.root n0
                have hry2 : b.getD J n0 = yj.root := hay.root n0
                have htx2 : treeAt ar a I = xj := treeAt_eq hax
                have hty2 : treeAt ar b J = yj := treeAt_eq hay
                have hov2 := mv_ov a b xj yj I J ⟨some l1, d1⟩
                have hmo2 := mv_ok (s := ⟨some l1, d1⟩) hax hay hd1i (by simp only [Option.getD_none, Option.getD_some, List.length_nil]; omega)
                cases hnm : (xj.root.name == yj.root.name) with
                | false =>
                  rw [hnm, cond_false] at hrest
                  have hz := hbadR (by rw [← hwhole, ← hrest])
                  rw [← hrest]
                  have zz21 := el_enc n0 hIl
                  have zz22 := el_enc n0 hJl
                  (sym =>
                     simp [hlb, hI, hJ, zz21, zz22, hrx2, hry2, hnm, htx, hty, hz, tripD.eq_def, dec_PairB, isE_PairB, dec_PL, isE_PL, PL_l, con3q_d, enc_Pair, Pair_a, Pair_b, Pair_c, dynOf_t, dynOf_f, dec_PairT, dec_PairF, isE_PairT, isE_PairF, enc_Node, isE_Node, dec_Node, node_eta, szN, eqb_Node, bctx_over_t, bctx_over_c, bctx_over_d, bctx_over_b, bctx_over_u, con_EndT.eq_def, con_KidsT.eq_def, zaa, zab, zac, zad, zae, zaf, zag, zah, zai, zaj, zak, zal, zam, zan, zao, zap, zaq, zar, zas, zat, zau, zav, zaw, zax, zaz, zbh, zbl, zbm, zbn, zbo, zbp, zbq, zbr, zbs, zbt, zbu, zbx, zby, zbz, zca, zcb, zcc, zcd, zce, zcf, zcg, zch, zci, zcj, zck, zco, zcp, zcq, zcr, zcs, zct, zcv, zcw, zcx, zdc, zde, zdf, zdg, zdh, zdi, zdj, zdk, zdl, zdm, zdn, zdo, zdu, zdv, zdw, zdx, zdy, zdz, zec, zed, zee, zef, zeg, zeh, zei, zej, zek, zel, zem, zen, zeq, zer, zes, zet, zeu, zev, zew, zex, zey, zez, zfa, zfb, zfc, zfd, zfe, zff, zfg, zfh, zfi, zfj, zfk, zfl, zfm, zfn, zfo, zfu, zfv, zfw, zfx, zfy, zfz, zga, zgb, zgc, zgd, zge, zgf, zgg, zgh, zgi, zgj, zgk, zgl, zgm, zgn, zgo, zgp, zgq, zgr, zgs, zgt, zgu, zgv, zgw, zgx, zgy, zgz, zha, zhb, zhc, zhd, zhe, zhf, zhg, zhh, zhi, zhj, zhk, zhn, zho, zhp, zhq, zhr, zhs, zht, zhu, zhv, zhw, zhx, zhy, zhz, zia, zib, zic, zid, zie, zif, zig, zih, zii, zij, zik, zil, zim, zin, zio, zip, ziq, zir, zis, zit, ziu, ziv, ziw, zix, ziy, ziz, zja, zjb, zjc, zjd, zje, zjf, zjg, zjh, zji, zjj, zjk, zjl, zjm, zjn, zjo, zjp, zjq, zjr, zjs, zjt, zju, zjv, zjw, zjx, zjy, zjz, zka, zkb, zkc, zkd, zke, zkf, zkg, zkh, zki, zkj, zkk, zkl, zkm, zkn, zko, zkp, zkq, zkr, zku, zkv, zkw, zkx, zky, zkz, zla, zlb, zlc, zld, zle, zlf, zlg, zlh, zli, zlj, zlk, zll, zlm, zln, zlo, zlp, zlq, zlr, zls, zlt, zlu, zlv, zlw, zlx, zly, zlz, zma, zmb, tab3, tab4, tab9, tab23, tab28, tab57, tab59, tab84]
                     tactic =>
                      try simp only [ncast] at *
                      try simp only [Int.ofNat_eq_natCast] at *
                      try simp (config := { maxSteps := 4000000 }) only [hlb, hI, hJ, zz21, zz22, hrx2, hry2, hnm, htx, hty, hz, tripD.eq_def, dec_PairB, isE_PairB, dec_PL, isE_PL, PL_l, con3q_d, enc_Pair, Pair_a, Pair_b, Pair_c, dynOf_t, dynOf_f, dec_PairT, dec_PairF, isE_PairT, isE_PairF, enc_Node, isE_Node, dec_Node, node_eta, szN, eqb_Node, con_EndT, con_KidsT, Int.ofNat_eq_natCast, con0, con1, con2, con3, con2t, con3t, symD0, symD1, symD2, symD3, symD4, Nat.reduceAdd, Nat.reduceSub, Nat.reduceMul, Nat.reduceMod, Nat.reduceLT, Nat.reduceLeDiff, Nat.reduceEqDiff, Nat.reduceBEq, Obj.isBox, D.setCell, D.asAgg, setAll, allFit, AV.fits, lk, upd, standAt, freeAt, backTo, packD, Nat.reduceDiv, reduceIte, reduceCtorEq, skIs, skAll, SK.is, aggL, eqbAll, D.eqb, Nat.reduceBNe]
                      repeat' (first | with_reducible assumption | with_reducible refine And.intro ?_ ?_ | intro _ | omega | (rw [inR_i64]; omega))
                      all_goals first
                        | (with_reducible refine okD_id ?_; kernel_rfl)
                        | skip
                      simp only [boxed_s]
                      refine ⟨[90000, 90001, 90002, 90003, 90004], by simp, rfl, canon5, ?_⟩
                      simp [standAt, lk, rnO, rnA, rnAs, rk])
                | true =>
                  rw [hnm, cond_true] at hrest
                  obtain ⟨r, hr⟩ : ∃ r, mv a b xj yj I J ⟨some l1, d1⟩ = r := ⟨_, rfl⟩
                  rw [hr] at hrest hov2 hmo2
                  obtain ⟨r, ⟨o2, d2⟩⟩ := r
                  simp only at hrest hov2 hmo2
                  have zz23 := el_enc n0 hIl
                  have zz24 := el_enc n0 hJl
                  (sym =>
                     simp [hlb, hI, hJ, zz23, zz24, hrx2, hry2, hnm, dec_PairB, isE_PairB, dec_PL, isE_PL, PL_l, con3q_d, enc_Pair, Pair_a, Pair_b, Pair_c, dynOf_t, dynOf_f, dec_PairT, dec_PairF, isE_PairT, isE_PairF, enc_Node, isE_Node, dec_Node, node_eta, szN, eqb_Node, bctx_over_t, bctx_over_c, bctx_over_d, bctx_over_b, bctx_over_u, con_EndT.eq_def, con_KidsT.eq_def, zaa, zab, zac, zad, zae, zaf, zag, zah, zai, zaj, zak, zal, zam, zan, zao, zap, zaq, zar, zas, zat, zau, zav, zaw, zax, zaz, zbh, zbl, zbm, zbn, zbo, zbp, zbq, zbr, zbs, zbt, zbu, zbx, zby, zbz, zca, zcb, zcc, zcd, zce, zcf, zcg, zch, zci, zcj, zck, zco, zcp, zcq, zcr, zcs, zct, zcv, zcw, zcx, zdc, zde, zdf, zdg, zdh, zdi, zdj, zdk, zdl, zdm, zdn, zdo, zdu, zdv, zdw, zdx, zdy, zdz, zec, zed, zee, zef, zeg, zeh, zei, zej, zek, zel, zem, zen, zeq, zer, zes, zet, zeu, zev, zew, zex, zey, zez, zfa, zfb, zfc, zfd, zfe, zff, zfg, zfh, zfi, zfj, zfk, zfl, zfm, zfn, zfo, zfu, zfv, zfw, zfx, zfy, zfz, zga, zgb, zgc, zgd, zge, zgf, zgg, zgh, zgi, zgj, zgk, zgl, zgm, zgn, zgo, zgp, zgq, zgr, zgs, zgt, zgu, zgv, zgw, zgx, zgy, zgz, zha, zhb, zhc, zhd, zhe, zhf, zhg, zhh, zhi, zhj, zhk, zhn, zho, zhp, zhq, zhr, zhs, zht, zhu, zhv, zhw, zhx, zhy, zhz, zia, zib, zic, zid, zie, zif, zig, zih, zii, zij, zik, zil, zim, zin, zio, zip, ziq, zir, zis, zit, ziu, ziv, ziw, zix, ziy, ziz, zja, zjb, zjc, zjd, zje, zjf, zjg, zjh, zji, zjj, zjk, zjl, zjm, zjn, zjo, zjp, zjq, zjr, zjs, zjt, zju, zjv, zjw, zjx, zjy, zjz, zka, zkb, zkc, zkd, zke, zkf, zkg, zkh, zki, zkj, zkk, zkl, zkm, zkn, zko, zkp, zkq, zkr, zku, zkv, zkw, zkx, zky, zkz, zla, zlb, zlc, zld, zle, zlf, zlg, zlh, zli, zlj, zlk, zll, zlm, zln, zlo, zlp, zlq, zlr, zls, zlt, zlu, zlv, zlw, zlx, zly, zlz, zma, zmb, tab3, tab4, tab9, tab23, tab28, tab57, tab59, tab84]
                     tactic =>
                      try simp only [ncast] at *
                      try simp only [Int.ofNat_eq_natCast] at *
                      try simp (config := { maxSteps := 4000000 }) only [hlb, hI, hJ, zz23, zz24, hrx2, hry2, hnm, dec_PairB, isE_PairB, dec_PL, isE_PL, PL_l, con3q_d, enc_Pair, Pair_a, Pair_b, Pair_c, dynOf_t, dynOf_f, dec_PairT, dec_PairF, isE_PairT, isE_PairF, enc_Node, isE_Node, dec_Node, node_eta, szN, eqb_Node, con_EndT, con_KidsT, Int.ofNat_eq_natCast, con0, con1, con2, con3, con2t, con3t, symD0, symD1, symD2, symD3, symD4, Nat.reduceAdd, Nat.reduceSub, Nat.reduceMul, Nat.reduceMod, Nat.reduceLT, Nat.reduceLeDiff, Nat.reduceEqDiff, Nat.reduceBEq, Obj.isBox, D.setCell, D.asAgg, setAll, allFit, AV.fits, lk, upd, standAt, freeAt, backTo, packD, Nat.reduceDiv, reduceIte, reduceCtorEq, skIs, skAll, SK.is, aggL, eqbAll, D.eqb, Nat.reduceBNe]
                      repeat' (first | with_reducible assumption | with_reducible refine And.intro ?_ ?_ | intro _ | omega | (rw [inR_i64]; omega))
                      all_goals first
                        | (with_reducible refine okD_id ?_; kernel_rfl)
                        | skip
                      cases o2 with
                      | none => have := hmo2.some rfl; cases this
                      | some l2 =>
                        have hp2 : (bcon_over n).post ⟨a, b, ⟨some l1, d1⟩, I, J⟩ = boxed a b ⟨some l2, d2⟩ := by rw [over_post, htx2, hty2, hr]
                        refine aCallB_of (bc := bcon_over n) ⟨a, b, ⟨some l1, d1⟩, I, J⟩ [90000, 90001, 90002, 90003, 90004] ⟨ha, hb, ⟨xj, yj, hax, hay, hnr⟩, hd1i, by simp only [Option.getD_none, Option.getD_some, List.length_nil]; omega⟩ rfl (by simp) (by rw [hp2]; rfl) ?_ ?_ ?_
                        · show standAt _ _ (boxed a b ⟨some l1, d1⟩) _
                          simp only [boxed_s]
                          simp [standAt, lk, rnO, rnA, rnAs, rk]
                        · show freeAt (List.drop (boxed a b ⟨some l1, d1⟩).length _) _
                          simp only [boxed_s]
                          simp [freeAt, lk]
                        cases r with
                        | false =>
                          rw [cond_false] at hrest
                          have hz := hbadR (by rw [← hwhole, ← hrest])
                          rw [← hrest]
                          have h22 : (overR false xj yj (I : Int) (J : Int)).2.2 = false := by rw [overR_ok, ← hov2]
                          (sym =>
                             simp [hp2, over_res, boxed_s, htx2, hty2, h22, hz, tripD.eq_def, dec_PairB, isE_PairB, dec_PL, isE_PL, PL_l, con3q_d, enc_Pair, Pair_a, Pair_b, Pair_c, dynOf_t, dynOf_f, dec_PairT, dec_PairF, isE_PairT, isE_PairF, enc_Node, isE_Node, dec_Node, node_eta, szN, eqb_Node, bctx_over_t, bctx_over_c, bctx_over_d, bctx_over_b, bctx_over_u, con_EndT.eq_def, con_KidsT.eq_def, zaa, zab, zac, zad, zae, zaf, zag, zah, zai, zaj, zak, zal, zam, zan, zao, zap, zaq, zar, zas, zat, zau, zav, zaw, zax, zaz, zbh, zbl, zbm, zbn, zbo, zbp, zbq, zbr, zbs, zbt, zbu, zbx, zby, zbz, zca, zcb, zcc, zcd, zce, zcf, zcg, zch, zci, zcj, zck, zco, zcp, zcq, zcr, zcs, zct, zcv, zcw, zcx, zdc, zde, zdf, zdg, zdh, zdi, zdj, zdk, zdl, zdm, zdn, zdo, zdu, zdv, zdw, zdx, zdy, zdz, zec, zed, zee, zef, zeg, zeh, zei, zej, zek, zel, zem, zen, zeq, zer, zes, zet, zeu, zev, zew, zex, zey, zez, zfa, zfb, zfc, zfd, zfe, zff, zfg, zfh, zfi, zfj, zfk, zfl, zfm, zfn, zfo, zfu, zfv, zfw, zfx, zfy, zfz, zga, zgb, zgc, zgd, zge, zgf, zgg, zgh, zgi, zgj, zgk, zgl, zgm, zgn, zgo, zgp, zgq, zgr, zgs, zgt, zgu, zgv, zgw, zgx, zgy, zgz, zha, zhb, zhc, zhd, zhe, zhf, zhg, zhh, zhi, zhj, zhk, zhn, zho, zhp, zhq, zhr, zhs, zht, zhu, zhv, zhw, zhx, zhy, zhz, zia, zib, zic, zid, zie, zif, zig, zih, zii, zij, zik, zil, zim, zin, zio, zip, ziq, zir, zis, zit, ziu, ziv, ziw, zix, ziy, ziz, zja, zjb, zjc, zjd, zje, zjf, zjg, zjh, zji, zjj, zjk, zjl, zjm, zjn, zjo, zjp, zjq, zjr, zjs, zjt, zju, zjv, zjw, zjx, zjy, zjz, zka, zkb, zkc, zkd, zke, zkf, zkg, zkh, zki, zkj, zkk, zkl, zkm, zkn, zko, zkp, zkq, zkr, zku, zkv, zkw, zkx, zky, zkz, zla, zlb, zlc, zld, zle, zlf, zlg, zlh, zli, zlj, zlk, zll, zlm, zln, zlo, zlp, zlq, zlr, zls, zlt, zlu, zlv, zlw, zlx, zly, zlz, zma, zmb, tab3, tab4, tab9, tab23, tab28, tab57, tab59, tab84]
                             tactic =>
                              try simp only [ncast] at *
                              try simp only [Int.ofNat_eq_natCast] at *
                              try simp (config := { maxSteps := 4000000 }) only [hp2, over_res, boxed_s, htx2, hty2, h22, hz, tripD.eq_def, dec_PairB, isE_PairB, dec_PL, isE_PL, PL_l, con3q_d, enc_Pair, Pair_a, Pair_b, Pair_c, dynOf_t, dynOf_f, dec_PairT, dec_PairF, isE_PairT, isE_PairF, enc_Node, isE_Node, dec_Node, node_eta, szN, eqb_Node, con_EndT, con_KidsT, Int.ofNat_eq_natCast, con0, con1, con2, con3, con2t, con3t, symD0, symD1, symD2, symD3, symD4, Nat.reduceAdd, Nat.reduceSub, Nat.reduceMul, Nat.reduceMod, Nat.reduceLT, Nat.reduceLeDiff, Nat.reduceEqDiff, Nat.reduceBEq, Obj.isBox, D.setCell, D.asAgg, setAll, allFit, AV.fits, lk, upd, standAt, freeAt, backTo, packD, Nat.reduceDiv, reduceIte, reduceCtorEq, skIs, skAll, SK.is, aggL, eqbAll, D.eqb, Nat.reduceBNe]
                              repeat' (first | with_reducible assumption | with_reducible refine And.intro ?_ ?_ | intro _ | omega | (rw [inR_i64]; omega))
                              all_goals first
                                | (with_reducible refine okD_id ?_; kernel_rfl)
                                | skip
                              refine ⟨[90000, 90001, 90002, 90003, 90004], by simp, rfl, canon5, ?_⟩
                              simp [standAt, lk, rnO, rnA, rnAs, rk])
                        | true =>
                          rw [cond_true] at hrest
                          have h22 := overR_t (bel := false) (x := xj) (y := yj) (i := I) (k := J) hov2.symm
                          have hI2 : I + (nds xj).length = i + 1 + (ndss (xs.take (j + 1))).length := by omega
                          have hJ2 : J + (nds yj).length = k + 1 + (ndss (ys.take (j + 1))).length := by omega
                          have g1 := hmo2.done
                          have g2 := hmo2.len
                          rw [hI2] at g1 hrest
                          rw [hJ2] at g2 hrest
                          (sym =>
                             simp [hp2, over_res, boxed_s, htx2, hty2, h22, hI2, hJ2, tripD.eq_def, dec_PairB, isE_PairB, dec_PL, isE_PL, PL_l, con3q_d, enc_Pair, Pair_a, Pair_b, Pair_c, dynOf_t, dynOf_f, dec_PairT, dec_PairF, isE_PairT, isE_PairF, enc_Node, isE_Node, dec_Node, node_eta, szN, eqb_Node, bctx_over_t, bctx_over_c, bctx_over_d, bctx_over_b, bctx_over_u, con_EndT.eq_def, con_KidsT.eq_def, zaa, zab, zac, zad, zae, zaf, zag, zah, zai, zaj, zak, zal, zam, zan, zao, zap, zaq, zar, zas, zat, zau, zav, zaw, zax, zaz, zbh, zbl, zbm, zbn, zbo, zbp, zbq, zbr, zbs, zbt, zbu, zbx, zby, zbz, zca, zcb, zcc, zcd, zce, zcf, zcg, zch, zci, zcj, zck, zco, zcp, zcq, zcr, zcs, zct, zcv, zcw, zcx, zdc, zde, zdf, zdg, zdh, zdi, zdj, zdk, zdl, zdm, zdn, zdo, zdu, zdv, zdw, zdx, zdy, zdz, zec, zed, zee, zef, zeg, zeh, zei, zej, zek, zel, zem, zen, zeq, zer, zes, zet, zeu, zev, zew, zex, zey, zez, zfa, zfb, zfc, zfd, zfe, zff, zfg, zfh, zfi, zfj, zfk, zfl, zfm, zfn, zfo, zfu, zfv, zfw, zfx, zfy, zfz, zga, zgb, zgc, zgd, zge, zgf, zgg, zgh, zgi, zgj, zgk, zgl, zgm, zgn, zgo, zgp, zgq, zgr, zgs, zgt, zgu, zgv, zgw, zgx, zgy, zgz, zha, zhb, zhc, zhd, zhe, zhf, zhg, zhh, zhi, zhj, zhk, zhn, zho, zhp, zhq, zhr, zhs, zht, zhu, zhv, zhw, zhx, zhy, zhz, zia, zib, zic, zid, zie, zif, zig, zih, zii, zij, zik, zil, zim, zin, zio, zip, ziq, zir, zis, zit, ziu, ziv, ziw, zix, ziy, ziz, zja, zjb, zjc, zjd, zje, zjf, zjg, zjh, zji, zjj, zjk, zjl, zjm, zjn, zjo, zjp, zjq, zjr, zjs, zjt, zju, zjv, zjw, zjx, zjy, zjz, zka, zkb, zkc, zkd, zke, zkf, zkg, zkh, zki, zkj, zkk, zkl, zkm, zkn, zko, zkp, zkq, zkr, zku, zkv, zkw, zkx, zky, zkz, zla, zlb, zlc, zld, zle, zlf, zlg, zlh, zli, zlj, zlk, zll, zlm, zln, zlo, zlp, zlq, zlr, zls, zlt, zlu, zlv, zlw, zlx, zly, zlz, zma, zmb, tab3, tab4, tab9, tab23, tab28, tab57, tab59, tab84]
                             tactic =>
                              try simp only [ncast] at *
                              try simp only [Int.ofNat_eq_natCast] at *
                              try simp (config := { maxSteps := 4000000 }) only [hp2, over_res, boxed_s, htx2, hty2, h22, hI2, hJ2, tripD.eq_def, dec_PairB, isE_PairB, dec_PL, isE_PL, PL_l, con3q_d, enc_Pair, Pair_a, Pair_b, Pair_c, dynOf_t, dynOf_f, dec_PairT, dec_PairF, isE_PairT, isE_PairF, enc_Node, isE_Node, dec_Node, node_eta, szN, eqb_Node, con_EndT, con_KidsT, Int.ofNat_eq_natCast, con0, con1, con2, con3, con2t, con3t, symD0, symD1, symD2, symD3, symD4, Nat.reduceAdd, Nat.reduceSub, Nat.reduceMul, Nat.reduceMod, Nat.reduceLT, Nat.reduceLeDiff, Nat.reduceEqDiff, Nat.reduceBEq, Obj.isBox, D.setCell, D.asAgg, setAll, allFit, AV.fits, lk, upd, standAt, freeAt, backTo, packD, Nat.reduceDiv, reduceIte, reduceCtorEq, skIs, skAll, SK.is, aggL, eqbAll, D.eqb, Nat.reduceBNe]
                              repeat' (first | with_reducible assumption | with_reducible refine And.intro ?_ ?_ | intro _ | omega | (rw [inR_i64]; omega))
                              refine ⟨(j + 1, ⟨some l2, d2⟩), ?_, by simp only; omega, hrest, g1, g2, rfl, by simp only; omega⟩
                              simp only [obU_s]
                              ((try simp only [atHead_mk, killAll, setSlots, updAll, upd, set_fl, setCs, putC, Nat.reduceDiv, Nat.reduceMod, Nat.reduceMul, Nat.reduceAdd, Nat.reduceEqDiff, List.set_cons_zero, List.set_cons_succ, if_true, if_false, reduceIte]); (first | refine Wk.of_fl ?_ | skip); simp only [Wk, wkK, wkCs, wkT, wk1, AV.kept, keptAll, wkO, lk, wkObj, and_true, true_and, and_self, Nat.reduceEqDiff, Nat.reduceLeDiff, if_true, if_false, reduceIte, reduceCtorEq, Option.isSome, false_implies]; try simp [Wk, wkK, wkT, wk1, AV.kept, keptAll, wkO, lk, wkObj])))
              · have hjk : j = xs.length := by omega
                subst hjk
                rw [List.drop_length, hlen, List.drop_length, mvs] at hrest
                have ho : ov false x y = true := by rw [← hwhole, ← hrest]
                have h22 := overR_t (bel := false) (x := x) (y := y) (i := i) (k := k) ho
                have hI2 : i + 1 + (ndss (xs.take xs.length)).length = i + (nds x).length := by rw [List.take_length]; omega
                have hJ2 : k + 1 + (ndss (ys.take xs.length)).length = k + (nds y).length := by rw [hlen, List.take_length]; omega
                rw [← hrest]
                (sym =>
                   simp [hlb, htx, hty, h22, hI2, hJ2, boxed_s, tripD.eq_def, dec_PairB, isE_PairB, dec_PL, isE_PL, PL_l, con3q_d, enc_Pair, Pair_a, Pair_b, Pair_c, dynOf_t, dynOf_f, dec_PairT, dec_PairF, isE_PairT, isE_PairF, enc_Node, isE_Node, dec_Node, node_eta, szN, eqb_Node, bctx_over_t, bctx_over_c, bctx_over_d, bctx_over_b, bctx_over_u, con_EndT.eq_def, con_KidsT.eq_def, zaa, zab, zac, zad, zae, zaf, zag, zah, zai, zaj, zak, zal, zam, zan, zao, zap, zaq, zar, zas, zat, zau, zav, zaw, zax, zaz, zbh, zbl, zbm, zbn, zbo, zbp, zbq, zbr, zbs, zbt, zbu, zbx, zby, zbz, zca, zcb, zcc, zcd, zce, zcf, zcg, zch, zci, zcj, zck, zco, zcp, zcq, zcr, zcs, zct, zcv, zcw, zcx, zdc, zde, zdf, zdg, zdh, zdi, zdj, zdk, zdl, zdm, zdn, zdo, zdu, zdv, zdw, zdx, zdy, zdz, zec, zed, zee, zef, zeg, zeh, zei, zej, zek, zel, zem, zen, zeq, zer, zes, zet, zeu, zev, zew, zex, zey, zez, zfa, zfb, zfc, zfd, zfe, zff, zfg, zfh, zfi, zfj, zfk, zfl, zfm, zfn, zfo, zfu, zfv, zfw, zfx, zfy, zfz, zga, zgb, zgc, zgd, zge, zgf, zgg, zgh, zgi, zgj, zgk, zgl, zgm, zgn, zgo, zgp, zgq, zgr, zgs, zgt, zgu, zgv, zgw, zgx, zgy, zgz, zha, zhb, zhc, zhd, zhe, zhf, zhg, zhh, zhi, zhj, zhk, zhn, zho, zhp, zhq, zhr, zhs, zht, zhu, zhv, zhw, zhx, zhy, zhz, zia, zib, zic, zid, zie, zif, zig, zih, zii, zij, zik, zil, zim, zin, zio, zip, ziq, zir, zis, zit, ziu, ziv, ziw, zix, ziy, ziz, zja, zjb, zjc, zjd, zje, zjf, zjg, zjh, zji, zjj, zjk, zjl, zjm, zjn, zjo, zjp, zjq, zjr, zjs, zjt, zju, zjv, zjw, zjx, zjy, zjz, zka, zkb, zkc, zkd, zke, zkf, zkg, zkh, zki, zkj, zkk, zkl, zkm, zkn, zko, zkp, zkq, zkr, zku, zkv, zkw, zkx, zky, zkz, zla, zlb, zlc, zld, zle, zlf, zlg, zlh, zli, zlj, zlk, zll, zlm, zln, zlo, zlp, zlq, zlr, zls, zlt, zlu, zlv, zlw, zlx, zly, zlz, zma, zmb, tab3, tab4, tab9, tab23, tab28, tab57, tab59, tab84]
                   tactic =>
                    try simp only [ncast] at *
                    try simp only [Int.ofNat_eq_natCast] at *
                    try simp (config := { maxSteps := 4000000 }) only [hlb, htx, hty, h22, hI2, hJ2, boxed_s, tripD.eq_def, dec_PairB, isE_PairB, dec_PL, isE_PL, PL_l, con3q_d, enc_Pair, Pair_a, Pair_b, Pair_c, dynOf_t, dynOf_f, dec_PairT, dec_PairF, isE_PairT, isE_PairF, enc_Node, isE_Node, dec_Node, node_eta, szN, eqb_Node, con_EndT, con_KidsT, Int.ofNat_eq_natCast, con0, con1, con2, con3, con2t, con3t, symD0, symD1, symD2, symD3, symD4, Nat.reduceAdd, Nat.reduceSub, Nat.reduceMul, Nat.reduceMod, Nat.reduceLT, Nat.reduceLeDiff, Nat.reduceEqDiff, Nat.reduceBEq, Obj.isBox, D.setCell, D.asAgg, setAll, allFit, AV.fits, lk, upd, standAt, freeAt, backTo, packD, Nat.reduceDiv, reduceIte, reduceCtorEq, skIs, skAll, SK.is, aggL, eqbAll, D.eqb, Nat.reduceBNe]
                    repeat' (first | with_reducible assumption | with_reducible refine And.intro ?_ ?_ | intro _ | omega | (rw [inR_i64]; omega))
                    refine ⟨[90000, 90001, 90002, 90003, 90004], by simp, rfl, canon5, ?_⟩
                    simp [standAt, lk, rnO, rnA, rnAs, rk]))
    · have hz := hbadR (by
        rw [hov, Bool.eq_false_iff]
        intro hc
        simp only [Bool.and_eq_true, beq_iff_eq] at hc
        exact hk1 ⟨hc.1.1, hc.1.2.1, hc.1.2.2⟩)
      have hcc : (x.root.kind == y.root.kind && (x.root.name == y.root.name && x.root.n == y.root.n)) = false := by
        rw [Bool.eq_false_iff]
        intro hc
        simp only [Bool.and_eq_true, beq_iff_eq] at hc
        exact hk1 ⟨hc.1, hc.2.1, hc.2.2⟩
      rw [hmv, hcc, cond_false]
      have hcs : (x.root.kind != y.root.kind) = true ∨ ((x.root.kind != y.root.kind) = false ∧ (x.root.name == y.root.name) = false) ∨ ((x.root.kind != y.root.kind) = false ∧ (x.root.name == y.root.name) = true ∧ (x.root.n != y.root.n) = true) := by
        simp only [bne_iff_ne, ne_eq, bne_eq_false_iff_eq, beq_eq_false_iff_ne, beq_iff_eq]
        by_cases h1 : x.root.kind = y.root.kind
        · by_cases h2 : x.root.name = y.root.name
          · exact .inr (.inr ⟨h1, h2, fun h3 => hk1 ⟨h1, h2, h3⟩⟩)
          · exact .inr (.inl ⟨h1, h2⟩)
        · exact .inl h1
      rcases hcs with g1 | ⟨g1, g2⟩ | ⟨g1, g2, g3⟩
      · cases o with
        | none =>
          simp only [boxed_n]
          have zz25 := el_enc n0 hil
          have zz26 := el_enc n0 hkl
          (sym =>
             simp [mArgs.eq_def, tripD.eq_def, zz25, zz26, hrx, hry, htx, hty, hd1, hd2, g1, hz, dec_PairB, isE_PairB, dec_PL, isE_PL, PL_l, con3q_d, enc_Pair, Pair_a, Pair_b, Pair_c, dynOf_t, dynOf_f, dec_PairT, dec_PairF, isE_PairT, isE_PairF, enc_Node, isE_Node, dec_Node, node_eta, szN, eqb_Node, bctx_over_t, bctx_over_c, bctx_over_d, bctx_over_b, bctx_over_u, con_EndT.eq_def, con_KidsT.eq_def, zaa, zab, zac, zad, zae, zaf, zag, zah, zai, zaj, zak, zal, zam, zan, zao, zap, zaq, zar, zas, zat, zau, zav, zaw, zax, zaz, zbh, zbl, zbm, zbn, zbo, zbp, zbq, zbr, zbs, zbt, zbu, zbx, zby, zbz, zca, zcb, zcc, zcd, zce, zcf, zcg, zch, zci, zcj, zck, zco, zcp, zcq, zcr, zcs, zct, zcv, zcw, zcx, zdc, zde, zdf, zdg, zdh, zdi, zdj, zdk, zdl, zdm, zdn, zdo, zdu, zdv, zdw, zdx, zdy, zdz, zec, zed, zee, zef, zeg, zeh, zei, zej, zek, zel, zem, zen, zeq, zer, zes, zet, zeu, zev, zew, zex, zey, zez, zfa, zfb, zfc, zfd, zfe, zff, zfg, zfh, zfi, zfj, zfk, zfl, zfm, zfn, zfo, zfu, zfv, zfw, zfx, zfy, zfz, zga, zgb, zgc, zgd, zge, zgf, zgg, zgh, zgi, zgj, zgk, zgl, zgm, zgn, zgo, zgp, zgq, zgr, zgs, zgt, zgu, zgv, zgw, zgx, zgy, zgz, zha, zhb, zhc, zhd, zhe, zhf, zhg, zhh, zhi, zhj, zhk, zhn, zho, zhp, zhq, zhr, zhs, zht, zhu, zhv, zhw, zhx, zhy, zhz, zia, zib, zic, zid, zie, zif, zig, zih, zii, zij, zik, zil, zim, zin, zio, zip, ziq, zir, zis, zit, ziu, ziv, ziw, zix, ziy, ziz, zja, zjb, zjc, zjd, zje, zjf, zjg, zjh, zji, zjj, zjk, zjl, zjm, zjn, zjo, zjp, zjq, zjr, zjs, zjt, zju, zjv, zjw, zjx, zjy, zjz, zka, zkb, zkc, zkd, zke, zkf, zkg, zkh, zki, zkj, zkk, zkl, zkm, zkn, zko, zkp, zkq, zkr, zku, zkv, zkw, zkx, zky, zkz, zla, zlb, zlc, zld, zle, zlf, zlg, zlh, zli, zlj, zlk, zll, zlm, zln, zlo, zlp, zlq, zlr, zls, zlt, zlu, zlv, zlw, zlx, zly, zlz, zma, zmb, tab3, tab4, tab9, tab23, tab28, tab57, tab59, tab84]
             tactic =>
              try simp only [ncast] at *
              try simp only [Int.ofNat_eq_natCast] at *
              try simp (config := { maxSteps := 4000000 }) only [mArgs.eq_def, tripD.eq_def, zz25, zz26, hrx, hry, htx, hty, hd1, hd2, g1, hz, dec_PairB, isE_PairB, dec_PL, isE_PL, PL_l, con3q_d, enc_Pair, Pair_a, Pair_b, Pair_c, dynOf_t, dynOf_f, dec_PairT, dec_PairF, isE_PairT, isE_PairF, enc_Node, isE_Node, dec_Node, node_eta, szN, eqb_Node, con_EndT, con_KidsT, Int.ofNat_eq_natCast, con0, con1, con2, con3, con2t, con3t, symD0, symD1, symD2, symD3, symD4, Nat.reduceAdd, Nat.reduceSub, Nat.reduceMul, Nat.reduceMod, Nat.reduceLT, Nat.reduceLeDiff, Nat.reduceEqDiff, Nat.reduceBEq, Obj.isBox, D.setCell, D.asAgg, setAll, allFit, AV.fits, lk, upd, standAt, freeAt, backTo, packD, Nat.reduceDiv, reduceIte, reduceCtorEq, skIs, skAll, SK.is, aggL, eqbAll, D.eqb, Nat.reduceBNe]
              repeat' (first | with_reducible assumption | with_reducible refine And.intro ?_ ?_ | intro _ | omega | (rw [inR_i64]; omega))
              all_goals first
                | (with_reducible refine okD_id ?_; kernel_rfl)
                | skip
              refine ⟨[90000, 90001, 90002, 90003], by simp, rfl, canon4', ?_⟩
              simp [standAt, lk, rnO, rnA, rnAs, rk])
        | some l =>
          simp only [boxed_s]
          have zz27 := el_enc n0 hil
          have zz28 := el_enc n0 hkl
          (sym =>
             simp [mArgs.eq_def, tripD.eq_def, zz27, zz28, hrx, hry, htx, hty, hd1, hd2, g1, hz, dec_PairB, isE_PairB, dec_PL, isE_PL, PL_l, con3q_d, enc_Pair, Pair_a, Pair_b, Pair_c, dynOf_t, dynOf_f, dec_PairT, dec_PairF, isE_PairT, isE_PairF, enc_Node, isE_Node, dec_Node, node_eta, szN, eqb_Node, bctx_over_t, bctx_over_c, bctx_over_d, bctx_over_b, bctx_over_u, con_EndT.eq_def, con_KidsT.eq_def, zaa, zab, zac, zad, zae, zaf, zag, zah, zai, zaj, zak, zal, zam, zan, zao, zap, zaq, zar, zas, zat, zau, zav, zaw, zax, zaz, zbh, zbl, zbm, zbn, zbo, zbp, zbq, zbr, zbs, zbt, zbu, zbx, zby, zbz, zca, zcb, zcc, zcd, zce, zcf, zcg, zch, zci, zcj, zck, zco, zcp, zcq, zcr, zcs, zct, zcv, zcw, zcx, zdc, zde, zdf, zdg, zdh, zdi, zdj, zdk, zdl, zdm, zdn, zdo, zdu, zdv, zdw, zdx, zdy, zdz, zec, zed, zee, zef, zeg, zeh, zei, zej, zek, zel, zem, zen, zeq, zer, zes, zet, zeu, zev, zew, zex, zey, zez, zfa, zfb, zfc, zfd, zfe, zff, zfg, zfh, zfi, zfj, zfk, zfl, zfm, zfn, zfo, zfu, zfv, zfw, zfx, zfy, zfz, zga, zgb, zgc, zgd, zge, zgf, zgg, zgh, zgi, zgj, zgk, zgl, zgm, zgn, zgo, zgp, zgq, zgr, zgs, zgt, zgu, zgv, zgw, zgx, zgy, zgz, zha, zhb, zhc, zhd, zhe, zhf, zhg, zhh, zhi, zhj, zhk, zhn, zho, zhp, zhq, zhr, zhs, zht, zhu, zhv, zhw, zhx, zhy, zhz, zia, zib, zic, zid, zie, zif, zig, zih, zii, zij, zik, zil, zim, zin, zio, zip, ziq, zir, zis, zit, ziu, ziv, ziw, zix, ziy, ziz, zja, zjb, zjc, zjd, zje, zjf, zjg, zjh, zji, zjj, zjk, zjl, zjm, zjn, zjo, zjp, zjq, zjr, zjs, zjt, zju, zjv, zjw, zjx, zjy, zjz, zka, zkb, zkc, zkd, zke, zkf, zkg, zkh, zki, zkj, zkk, zkl, zkm, zkn, zko, zkp, zkq, zkr, zku, zkv, zkw, zkx, zky, zkz, zla, zlb, zlc, zld, zle, zlf, zlg, zlh, zli, zlj, zlk, zll, zlm, zln, zlo, zlp, zlq, zlr, zls, zlt, zlu, zlv, zlw, zlx, zly, zlz, zma, zmb, tab3, tab4, tab9, tab23, tab28, tab57, tab59, tab84]
             tactic =>
              try simp only [ncast] at *
              try simp only [Int.ofNat_eq_natCast] at *
              try simp (config := { maxSteps := 4000000 }) only [mArgs.eq_def, tripD.eq_def, zz27, zz28, hrx, hry, htx, hty, hd1, hd2, g1, hz, dec_PairB, isE_PairB, dec_PL, isE_PL, PL_l, con3q_d, enc_Pair, Pair_a, Pair_b, Pair_c, dynOf_t, dynOf_f, dec_PairT, dec_PairF, isE_PairT, isE_PairF, enc_Node, isE_Node, dec_Node, node_eta, szN, eqb_Node, con_EndT, con_KidsT, Int.ofNat_eq_natCast, con0, con1, con2, con3, con2t, con3t, symD0, symD1, symD2, symD3, symD4, Nat.reduceAdd, Nat.reduceSub, Nat.reduceMul, Nat.reduceMod, Nat.reduceLT, Nat.reduceLeDiff, Nat.reduceEqDiff, Nat.reduceBEq, Obj.isBox, D.setCell, D.asAgg, setAll, allFit, AV.fits, lk, upd, standAt, freeAt, backTo, packD, Nat.reduceDiv, reduceIte, reduceCtorEq, skIs, skAll, SK.is, aggL, eqbAll, D.eqb, Nat.reduceBNe]
              repeat' (first | with_reducible assumption | with_reducible refine And.intro ?_ ?_ | intro _ | omega | (rw [inR_i64]; omega))
              all_goals first
                | (with_reducible refine okD_id ?_; kernel_rfl)
                | skip
              refine ⟨[90000, 90001, 90002, 90003, 90004], by simp, rfl, canon5, ?_⟩
              simp [standAt, lk, rnO, rnA, rnAs, rk])
      · cases o with
        | none =>
          simp only [boxed_n]
          have zz29 := el_enc n0 hil
          have zz30 := el_enc n0 hkl
          (sym =>
             simp [mArgs.eq_def, tripD.eq_def, zz29, zz30, hrx, hry, htx, hty, hd1, hd2, g1, g2, hz, dec_PairB, isE_PairB, dec_PL, isE_PL, PL_l, con3q_d, enc_Pair, Pair_a, Pair_b, Pair_c, dynOf_t, dynOf_f, dec_PairT, dec_PairF, isE_PairT, isE_PairF, enc_Node, isE_Node, dec_Node, node_eta, szN, eqb_Node, bctx_over_t, bctx_over_c, bctx_over_d, bctx_over_b, bctx_over_u, con_EndT.eq_def, con_KidsT.eq_def, zaa, zab, zac, zad, zae, zaf, zag, zah, zai, zaj, zak, zal, zam, zan, zao, zap, zaq, zar, zas, zat, zau, zav, zaw, zax, zaz, zbh, zbl, zbm, zbn, zbo, zbp, zbq, zbr, zbs, zbt, zbu, zbx, zby, zbz, zca, zcb, zcc, zcd, zce, zcf, zcg, zch, zci, zcj, zck, zco, zcp, zcq, zcr, zcs, zct, zcv, zcw, zcx, zdc, zde, zdf, zdg, zdh, zdi, zdj, zdk, zdl, zdm, zdn, zdo, zdu, zdv, zdw, zdx, zdy, zdz, zec, zed, zee, zef, zeg, zeh, zei, zej, zek, zel, zem, zen, zeq, zer, zes, zet, zeu, zev, zew, zex, zey, zez, zfa, zfb, zfc, zfd, zfe, zff, zfg, zfh, zfi, zfj, zfk, zfl, zfm, zfn, zfo, zfu, zfv, zfw, zfx, zfy, zfz, zga, zgb, zgc, zgd, zge, zgf, zgg, zgh, zgi, zgj, zgk, zgl, zgm, zgn, zgo, zgp, zgq, zgr, zgs, zgt, zgu, zgv, zgw, zgx, zgy, zgz, zha, zhb, zhc, zhd, zhe, zhf, zhg, zhh, zhi, zhj, zhk, zhn, zho, zhp, zhq, zhr, zhs, zht, zhu, zhv, zhw, zhx, zhy, zhz, zia, zib, zic, zid, zie, zif, zig, zih, zii, zij, zik, zil, zim, zin, zio, zip, ziq, zir, zis, zit, ziu, ziv, ziw, zix, ziy, ziz, zja, zjb, zjc, zjd, zje, zjf, zjg, zjh, zji, zjj, zjk, zjl, zjm, zjn, zjo, zjp, zjq, zjr, zjs, zjt, zju, zjv, zjw, zjx, zjy, zjz, zka, zkb, zkc, zkd, zke, zkf, zkg, zkh, zki, zkj, zkk, zkl, zkm, zkn, zko, zkp, zkq, zkr, zku, zkv, zkw, zkx, zky, zkz, zla, zlb, zlc, zld, zle, zlf, zlg, zlh, zli, zlj, zlk, zll, zlm, zln, zlo, zlp, zlq, zlr, zls, zlt, zlu, zlv, zlw, zlx, zly, zlz, zma, zmb, tab3, tab4, tab9, tab23, tab28, tab57, tab59, tab84]
             tactic =>
              try simp only [ncast] at *
              try simp only [Int.ofNat_eq_natCast] at *
              try simp (config := { maxSteps := 4000000 }) only [mArgs.eq_def, tripD.eq_def, zz29, zz30, hrx, hry, htx, hty, hd1, hd2, g1, g2, hz, dec_PairB, isE_PairB, dec_PL, isE_PL, PL_l, con3q_d, enc_Pair, Pair_a, Pair_b, Pair_c, dynOf_t, dynOf_f, dec_PairT, dec_PairF, isE_PairT, isE_PairF, enc_Node, isE_Node, dec_Node, node_eta, szN, eqb_Node, con_EndT, con_KidsT, Int.ofNat_eq_natCast, con0, con1, con2, con3, con2t, con3t, symD0, symD1, symD2, symD3, symD4, Nat.reduceAdd, Nat.reduceSub, Nat.reduceMul, Nat.reduceMod, Nat.reduceLT, Nat.reduceLeDiff, Nat.reduceEqDiff, Nat.reduceBEq, Obj.isBox, D.setCell, D.asAgg, setAll, allFit, AV.fits, lk, upd, standAt, freeAt, backTo, packD, Nat.reduceDiv, reduceIte, reduceCtorEq, skIs, skAll, SK.is, aggL, eqbAll, D.eqb, Nat.reduceBNe]
              repeat' (first | with_reducible assumption | with_reducible refine And.intro ?_ ?_ | intro _ | omega | (rw [inR_i64]; omega))
              all_goals first
                | (with_reducible refine okD_id ?_; kernel_rfl)
                | skip
              refine ⟨[90000, 90001, 90002, 90003], by simp, rfl, canon4', ?_⟩
              simp [standAt, lk, rnO, rnA, rnAs, rk])
        | some l =>
          simp only [boxed_s]
          have zz31 := el_enc n0 hil
          have zz32 := el_enc n0 hkl
          (sym =>
             simp [mArgs.eq_def, tripD.eq_def, zz31, zz32, hrx, hry, htx, hty, hd1, hd2, g1, g2, hz, dec_PairB, isE_PairB, dec_PL, isE_PL, PL_l, con3q_d, enc_Pair, Pair_a, Pair_b, Pair_c, dynOf_t, dynOf_f, dec_PairT, dec_PairF, isE_PairT, isE_PairF, enc_Node, isE_Node, dec_Node, node_eta, szN, eqb_Node, bctx_over_t, bctx_over_c, bctx_over_d, bctx_over_b, bctx_over_u, con_EndT.eq_def, con_KidsT.eq_def, zaa, zab, zac, zad, zae, zaf, zag, zah, zai, zaj, zak, zal, zam, zan, zao, zap, zaq, zar, zas, zat, zau, zav, zaw, zax, zaz, zbh, zbl, zbm, zbn, zbo, zbp, zbq, zbr, zbs, zbt, zbu, zbx, zby, zbz, zca, zcb, zcc, zcd, zce, zcf, zcg, zch, zci, zcj, zck, zco, zcp, zcq, zcr, zcs, zct, zcv, zcw, zcx, zdc, zde, zdf, zdg, zdh, zdi, zdj, zdk, zdl, zdm, zdn, zdo, zdu, zdv, zdw, zdx, zdy, zdz, zec, zed, zee, zef, zeg, zeh, zei, zej, zek, zel, zem, zen, zeq, zer, zes, zet, zeu, zev, zew, zex, zey, zez, zfa, zfb, zfc, zfd, zfe, zff, zfg, zfh, zfi, zfj, zfk, zfl, zfm, zfn, zfo, zfu, zfv, zfw, zfx, zfy, zfz, zga, zgb, zgc, zgd, zge, zgf, zgg, zgh, zgi, zgj, zgk, zgl, zgm, zgn, zgo, zgp, zgq, zgr, zgs, zgt, zgu, zgv, zgw, zgx, zgy, zgz, zha, zhb, zhc, zhd, zhe, zhf, zhg, zhh, zhi, zhj, zhk, zhn, zho, zhp, zhq, zhr, zhs, zht, zhu, zhv, zhw, zhx, zhy, zhz, zia, zib, zic, zid, zie, zif, zig, zih, zii, zij, zik, zil, zim, zin, zio, zip, ziq, zir, zis, zit, ziu, ziv, ziw, zix, ziy, ziz, zja, zjb, zjc, zjd, zje, zjf, zjg, zjh, zji, zjj, zjk, zjl, zjm, zjn, zjo, zjp, zjq, zjr, zjs, zjt, zju, zjv, zjw, zjx, zjy, zjz, zka, zkb, zkc, zkd, zke, zkf, zkg, zkh, zki, zkj, zkk, zkl, zkm, zkn, zko, zkp, zkq, zkr, zku, zkv, zkw, zkx, zky, zkz, zla, zlb, zlc, zld, zle, zlf, zlg, zlh, zli, zlj, zlk, zll, zlm, zln, zlo, zlp, zlq, zlr, zls, zlt, zlu, zlv, zlw, zlx, zly, zlz, zma, zmb, tab3, tab4, tab9, tab23, tab28, tab57, tab59, tab84]
             tactic =>
              try simp only [ncast] at *
              try simp only [Int.ofNat_eq_natCast] at *
              try simp (config := { maxSteps := 4000000 }) only [mArgs.eq_def, tripD.eq_def, zz31, zz32, hrx, hry, htx, hty, hd1, hd2, g1, g2, hz, dec_PairB, isE_PairB, dec_PL, isE_PL, PL_l, con3q_d, enc_Pair, Pair_a, Pair_b, Pair_c, dynOf_t, dynOf_f, dec_PairT, dec_PairF, isE_PairT, isE_PairF, enc_Node, isE_Node, dec_Node, node_eta, szN, eqb_Node, con_EndT, con_KidsT, Int.ofNat_eq_natCast, con0, con1, con2, con3, con2t, con3t, symD0, symD1, symD2, symD3, symD4, Nat.reduceAdd, Nat.reduceSub, Nat.reduceMul, Nat.reduceMod, Nat.reduceLT, Nat.reduceLeDiff, Nat.reduceEqDiff, Nat.reduceBEq, Obj.isBox, D.setCell, D.asAgg, setAll, allFit, AV.fits, lk, upd, standAt, freeAt, backTo, packD, Nat.reduceDiv, reduceIte, reduceCtorEq, skIs, skAll, SK.is, aggL, eqbAll, D.eqb, Nat.reduceBNe]
              repeat' (first | with_reducible assumption | with_reducible refine And.intro ?_ ?_ | intro _ | omega | (rw [inR_i64]; omega))
              all_goals first
                | (with_reducible refine okD_id ?_; kernel_rfl)
                | skip
              refine ⟨[90000, 90001, 90002, 90003, 90004], by simp, rfl, canon5, ?_⟩
              simp [standAt, lk, rnO, rnA, rnAs, rk])
      · cases o with
        | none =>
          simp only [boxed_n]
          have zz33 := el_enc n0 hil
          have zz34 := el_enc n0 hkl
          (sym =>
             simp [mArgs.eq_def, tripD.eq_def, zz33, zz34, hrx, hry, htx, hty, hd1, hd2, g1, g2, g3, hz, dec_PairB, isE_PairB, dec_PL, isE_PL, PL_l, con3q_d, enc_Pair, Pair_a, Pair_b, Pair_c, dynOf_t, dynOf_f, dec_PairT, dec_PairF, isE_PairT, isE_PairF, enc_Node, isE_Node, dec_Node, node_eta, szN, eqb_Node, bctx_over_t, bctx_over_c, bctx_over_d, bctx_over_b, bctx_over_u, con_EndT.eq_def, con_KidsT.eq_def, zaa, zab, zac, zad, zae, zaf, zag, zah, zai, zaj, zak, zal, zam, zan, zao, zap, zaq, zar, zas, zat, zau, zav, zaw, zax, zaz, zbh, zbl, zbm, zbn, zbo, zbp, zbq, zbr, zbs, zbt, zbu, zbx, zby, zbz, zca, zcb, zcc, zcd, zce, zcf, zcg, zch, zci, zcj, zck, zco, zcp, zcq, zcr, zcs, zct, zcv, zcw, zcx, zdc, zde, zdf, zdg, zdh, zdi, zdj, zdk, zdl, zdm, zdn, zdo, zdu, zdv, zdw, zdx, zdy, zdz, zec, zed, zee, zef, zeg, zeh, zei, zej, zek, zel, zem, zen, zeq, zer, zes, zet, zeu, zev, zew, zex, zey, zez, zfa, zfb, zfc, zfd, zfe, zff, zfg, zfh, zfi, zfj, zfk, zfl, zfm, zfn, zfo, zfu, zfv, zfw, zfx, zfy, zfz, zga, zgb, zgc, zgd, zge, zgf, zgg, zgh, zgi, zgj, zgk, zgl, zgm, zgn, zgo, zgp, zgq, zgr, zgs, zgt, zgu, zgv, zgw, zgx, zgy, zgz, zha, zhb, zhc, zhd, zhe, zhf, zhg, zhh, zhi, zhj, zhk, zhn, zho, zhp, zhq, zhr, zhs, zht, zhu, zhv, zhw, zhx, zhy, zhz, zia, zib, zic, zid, zie, zif, zig, zih, zii, zij, zik, zil, zim, zin, zio, zip, ziq, zir, zis, zit, ziu, ziv, ziw, zix, ziy, ziz, zja, zjb, zjc, zjd, zje, zjf, zjg, zjh, zji, zjj, zjk, zjl, zjm, zjn, zjo, zjp, zjq, zjr, zjs, zjt, zju, zjv, zjw, zjx, zjy, zjz, zka, zkb, zkc, zkd, zke, zkf, zkg, zkh, zki, zkj, zkk, zkl, zkm, zkn, zko, zkp, zkq, zkr, zku, zkv, zkw, zkx, zky, zkz, zla, zlb, zlc, zld, zle, zlf, zlg, zlh, zli, zlj, zlk, zll, zlm, zln, zlo, zlp, zlq, zlr, zls, zlt, zlu, zlv, zlw, zlx, zly, zlz, zma, zmb, tab3, tab4, tab9, tab23, tab28, tab57, tab59, tab84]
             tactic =>
              try simp only [ncast] at *
              try simp only [Int.ofNat_eq_natCast] at *
              try simp (config := { maxSteps := 4000000 }) only [mArgs.eq_def, tripD.eq_def, zz33, zz34, hrx, hry, htx, hty, hd1, hd2, g1, g2, g3, hz, dec_PairB, isE_PairB, dec_PL, isE_PL, PL_l, con3q_d, enc_Pair, Pair_a, Pair_b, Pair_c, dynOf_t, dynOf_f, dec_PairT, dec_PairF, isE_PairT, isE_PairF, enc_Node, isE_Node, dec_Node, node_eta, szN, eqb_Node, con_EndT, con_KidsT, Int.ofNat_eq_natCast, con0, con1, con2, con3, con2t, con3t, symD0, symD1, symD2, symD3, symD4, Nat.reduceAdd, Nat.reduceSub, Nat.reduceMul, Nat.reduceMod, Nat.reduceLT, Nat.reduceLeDiff, Nat.reduceEqDiff, Nat.reduceBEq, Obj.isBox, D.setCell, D.asAgg, setAll, allFit, AV.fits, lk, upd, standAt, freeAt, backTo, packD, Nat.reduceDiv, reduceIte, reduceCtorEq, skIs, skAll, SK.is, aggL, eqbAll, D.eqb, Nat.reduceBNe]
              repeat' (first | with_reducible assumption | with_reducible refine And.intro ?_ ?_ | intro _ | omega | (rw [inR_i64]; omega))
              all_goals first
                | (with_reducible refine okD_id ?_; kernel_rfl)
                | skip
              refine ⟨[90000, 90001, 90002, 90003], by simp, rfl, canon4', ?_⟩
              simp [standAt, lk, rnO, rnA, rnAs, rk])
        | some l =>
          simp only [boxed_s]
          have zz35 := el_enc n0 hil
          have zz36 := el_enc n0 hkl
          (sym =>
             simp [mArgs.eq_def, tripD.eq_def, zz35, zz36, hrx, hry, htx, hty, hd1, hd2, g1, g2, g3, hz, dec_PairB, isE_PairB, dec_PL, isE_PL, PL_l, con3q_d, enc_Pair, Pair_a, Pair_b, Pair_c, dynOf_t, dynOf_f, dec_PairT, dec_PairF, isE_PairT, isE_PairF, enc_Node, isE_Node, dec_Node, node_eta, szN, eqb_Node, bctx_over_t, bctx_over_c, bctx_over_d, bctx_over_b, bctx_over_u, con_EndT.eq_def, con_KidsT.eq_def, zaa, zab, zac, zad, zae, zaf, zag, zah, zai, zaj, zak, zal, zam, zan, zao, zap, zaq, zar, zas, zat, zau, zav, zaw, zax, zaz, zbh, zbl, zbm, zbn, zbo, zbp, zbq, zbr, zbs, zbt, zbu, zbx, zby, zbz, zca, zcb, zcc, zcd, zce, zcf, zcg, zch, zci, zcj, zck, zco, zcp, zcq, zcr, zcs, zct, zcv, zcw, zcx, zdc, zde, zdf, zdg, zdh, zdi, zdj, zdk, zdl, zdm, zdn, zdo, zdu, zdv, zdw, zdx, zdy, zdz, zec, zed, zee, zef, zeg, zeh, zei, zej, zek, zel, zem, zen, zeq, zer, zes, zet, zeu, zev, zew, zex, zey, zez, zfa, zfb, zfc, zfd, zfe, zff, zfg, zfh, zfi, zfj, zfk, zfl, zfm, zfn, zfo, zfu, zfv, zfw, zfx, zfy, zfz, zga, zgb, zgc, zgd, zge, zgf, zgg, zgh, zgi, zgj, zgk, zgl, zgm, zgn, zgo, zgp, zgq, zgr, zgs, zgt, zgu, zgv, zgw, zgx, zgy, zgz, zha, zhb, zhc, zhd, zhe, zhf, zhg, zhh, zhi, zhj, zhk, zhn, zho, zhp, zhq, zhr, zhs, zht, zhu, zhv, zhw, zhx, zhy, zhz, zia, zib, zic, zid, zie, zif, zig, zih, zii, zij, zik, zil, zim, zin, zio, zip, ziq, zir, zis, zit, ziu, ziv, ziw, zix, ziy, ziz, zja, zjb, zjc, zjd, zje, zjf, zjg, zjh, zji, zjj, zjk, zjl, zjm, zjn, zjo, zjp, zjq, zjr, zjs, zjt, zju, zjv, zjw, zjx, zjy, zjz, zka, zkb, zkc, zkd, zke, zkf, zkg, zkh, zki, zkj, zkk, zkl, zkm, zkn, zko, zkp, zkq, zkr, zku, zkv, zkw, zkx, zky, zkz, zla, zlb, zlc, zld, zle, zlf, zlg, zlh, zli, zlj, zlk, zll, zlm, zln, zlo, zlp, zlq, zlr, zls, zlt, zlu, zlv, zlw, zlx, zly, zlz, zma, zmb, tab3, tab4, tab9, tab23, tab28, tab57, tab59, tab84]
             tactic =>
              try simp only [ncast] at *
              try simp only [Int.ofNat_eq_natCast] at *
              try simp (config := { maxSteps := 4000000 }) only [mArgs.eq_def, tripD.eq_def, zz35, zz36, hrx, hry, htx, hty, hd1, hd2, g1, g2, g3, hz, dec_PairB, isE_PairB, dec_PL, isE_PL, PL_l, con3q_d, enc_Pair, Pair_a, Pair_b, Pair_c, dynOf_t, dynOf_f, dec_PairT, dec_PairF, isE_PairT, isE_PairF, enc_Node, isE_Node, dec_Node, node_eta, szN, eqb_Node, con_EndT, con_KidsT, Int.ofNat_eq_natCast, con0, con1, con2, con3, con2t, con3t, symD0, symD1, symD2, symD3, symD4, Nat.reduceAdd, Nat.reduceSub, Nat.reduceMul, Nat.reduceMod, Nat.reduceLT, Nat.reduceLeDiff, Nat.reduceEqDiff, Nat.reduceBEq, Obj.isBox, D.setCell, D.asAgg, setAll, allFit, AV.fits, lk, upd, standAt, freeAt, backTo, packD, Nat.reduceDiv, reduceIte, reduceCtorEq, skIs, skAll, SK.is, aggL, eqbAll, D.eqb, Nat.reduceBNe]
              repeat' (first | with_reducible assumption | with_reducible refine And.intro ?_ ?_ | intro _ | omega | (rw [inR_i64]; omega))
              all_goals first
                | (with_reducible refine okD_id ?_; kernel_rfl)
                | skip
              refine ⟨[90000, 90001, 90002, 90003, 90004], by simp, rfl, canon5, ?_⟩
              simp [standAt, lk, rnO, rnA, rnAs, rk])

theorem goodbn_over : ∀ n, GoodB Try.prog (43, bcon_over n)
  | 0 => goodb_void (enters_of Try.func43 (by kernel_rfl) rfl) bcon_over_zero
  | n + 1 => stepb_over n (goodbn_over n)

end Go.Am.Ty
