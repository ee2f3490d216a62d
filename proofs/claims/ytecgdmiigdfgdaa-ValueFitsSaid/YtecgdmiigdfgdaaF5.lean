/- Contracts of functions that the law reaches, and plain laws. Conditions: those that each contract states. -/
import Derived.Test.YtecgdmiigdfgdaaF4
set_option linter.unusedSimpArgs false
set_option linter.unusedVariables false
set_option maxHeartbeats 2000000
namespace Go.Am.Ty
open Go.Proofs Go.Rose Go.Rose.Rose
open Enc (enc dec)
def dynT : Rose Node := mk n0 []
theorem E3 : nds dynT = [n0] := rfl
def fieldR (t : Rose Node) (s : List UInt8) : Option (Rose Node) := (t.kids.findIdx? (fun k => k.root.name == s)).map fun j => clrX (t.kids.getD j (mk n0 []))
theorem fieldX_row {t : Rose Node} {s : List UInt8} (h : isRowT t.root = true) (h0 : t.root.kind ≠ 0) : fieldX t s = match fieldR t s with
    | some y => (⟨nds y⟩, 0)
    | none => (⟨[]⟩, 9) := by
  unfold fieldX fieldR
  rw [show (t.root.kind == 0) = false by rw [beq_eq_false_iff_ne]; exact h0, cond_false, h, cond_true]
  cases t.kids.findIdx? (fun k => k.root.name == s) with
  | none => rfl
  | some j => simp only [Option.map_some]; rw [L9]
def fieldsR (t : Rose Node) : List (Rose VNode) → Option (List (Rose Node))
  | [] => some []
  | k :: ks => match fieldR t k.root.label with
    | none => none
    | some y => (fieldsR t ks).map (y :: ·)
theorem S4 {t : Rose Node} {k : Rose VNode} : ∀ {ks : List (Rose VNode)}, fieldsR t (ks ++ [k]) = match fieldsR t ks, fieldR t k.root.label with
    | some l, some y => some (l ++ [y])
    | _, _ => none
  | [] => by
    rw [List.nil_append, fieldsR, fieldsR]
    cases fieldR t k.root.label <;> rfl
  | x :: xs => by
    rw [List.cons_append, fieldsR, fieldsR, S4]
    cases fieldR t x.root.label with
    | none => rfl
    | some y =>
      simp only
      cases fieldsR t xs with
      | none => rfl
      | some l =>
        cases fieldR t k.root.label <;> rfl
theorem Fv {t : Rose Node} : ∀ {ks : List (Rose VNode)} {k : Nat} (h : k < ks.length), fieldR t ks[k].root.label = none → fieldsR t ks = none
  | [], k, h, _ => by simp at h
  | x :: xs, k, h, hn => by
    rw [fieldsR]
    cases k with
    | zero => simp only [List.getElem_cons_zero] at hn; rw [hn]
    | succ k =>
      rw [Fv (k := k) (by simpa using h) hn]
      cases fieldR t x.root.label <;> rfl
theorem T5 {t : Rose Node} : ∀ {ks : List (Rose VNode)} {l : List (Rose Node)}, fieldsR t ks = some l → l.length = ks.length
  | [], l, h => by rw [fieldsR] at h; injection h with h; rw [← h]; rfl
  | x :: xs, l, h => by
    rw [fieldsR] at h
    cases hx : fieldR t x.root.label with
    | none => rw [hx] at h; cases h
    | some y =>
      rw [hx] at h
      simp only [Option.map_eq_some_iff] at h
      obtain ⟨l', h1, rfl⟩ := h
      rw [List.length_cons, List.length_cons, T5 h1]
def partsR (n : VNode) (ks : List (Rose VNode)) (t : Rose Node) : Option (List (Rose Node)) :=
  cond (t.root.kind == 0) (some (List.replicate ks.length dynT))
    (cond (t.root.kind == 7 && n.kind == 5) ((fieldR t n.name).map fun y => [y])
      (cond (t.root.kind == 6 && (n.kind == 4 && t.root.n == (ks.length : Int))) (fieldsR t ks) none))
def slsN (l : List (Rose Node)) : List (Sl Node) := l.map fun y => Sl.mk (nds y)
theorem M0 {l : List (Rose Node)} : (slsN l).length = l.length := by unfold slsN; simp
theorem slsN_snoc {l : List (Rose Node)} {y : Rose Node} : (slsN l).map (enc : Sl Node → D) ++ [.list 3 ((nds y).map enc)] = (slsN (l ++ [y])).map enc := by
  unfold slsN
  rw [List.map_append, List.map_append]
  rfl
noncomputable def partsX (x : Rose VNode) (t : Rose Node) : Sl (Sl Node) × Bool := match partsR x.root x.kids t with
  | some l => (⟨slsN l⟩, true)
  | none => (cond (t.root.kind == 7 && x.root.kind == 5) ⟨[⟨[]⟩]⟩ ⟨[]⟩, false)
noncomputable def con_partsV : Con := con2t (fun (v : Sl VNode) (t : Sl Node) => v.l.length ≤ 1000000 ∧ (∃ x, OneV v.l x ∧ (x.root.kind = 4 ∨ x.root.kind = 5)) ∧ t.l.length ≤ 1000000 ∧ ∃ y, At ar t.l 0 y) (fun v t => partsX (treeAt arV v.l 0) (treeAt ar t.l 0))
theorem Bt {ks : List (Rose VNode)} {k : Nat} (h : k < ks.length) : (sls ks).getD k ⟨[]⟩ = ⟨nds ks[k]⟩ := by
  unfold sls
  simp [h]
noncomputable def ctx_partsV : Ctx := ⟨tab, lkC [(65, con_kidsV), (93, con_dynV), (94, con_FieldP)], 60, lkB [], [], false⟩
theorem Hi : ctx_partsV.τ = tab := rfl
theorem Ht : ctx_partsV.Γ = lkC [(65, con_kidsV), (93, con_dynV), (94, con_FieldP)] := rfl
theorem Hj : ctx_partsV.dp = 60 := rfl
theorem Hu : ctx_partsV.Δ = lkB [] := rfl
theorem P7 : ctx_partsV.wr = false := rfl
set_option maxRecDepth 100000 in
theorem Av : Good Try.prog (64, con_partsV) := by
  refine ⟨U2 Try.func64 (by kernel_rfl) rfl, ?_⟩
  have K : CtxOk Try.prog ctx_partsV := U5 Kh Ka (by
    intro p hp
    simp only [List.mem_cons, List.not_mem_nil, or_false] at hp
    rcases hp with rfl | rfl | rfl
    · exact S2
    · exact good_dynV
    · exact good_FieldP) (by simp)
  obtain ⟨c, hc⟩ : ∃ c, Try.f64.body = some c := ⟨_, rfl⟩
  refine U6 K Try.func64 hc [.tmp 4, .tmp 5] rfl 117 rfl (fun cvs hpre => ?_)
  change con_partsV.pre cvs at hpre
  unfold con_partsV at hpre
  obtain ⟨⟨v⟩, ⟨t⟩, rfl, hv, ⟨x, hx, hk45⟩, ht, y, hy⟩ := con2t_pre hpre
  simp only at hv hx ht hy
  have hx1 := hx.tree
  have hy1 := Kx hy
  have hxl := hx.at.lt
  have hyl := hy.lt
  have ev := U8 v0 hxl
  have et := U8 n0 hyl
  rw [hx.at.root v0] at ev
  rw [hy.root n0] at et
  have hkl := P5 x.kids
  have hvl : v.length = 1 + (ndss x.kids).length := by rw [hx.1, Gu, List.length_cons]; omega
  obtain ⟨ks, hks⟩ : ∃ ks, x.kids = ks := ⟨_, rfl⟩
  rw [hks] at hkl hvl
  have hsl : (sls ks).length = ks.length := Nb
  obtain ⟨R, hR⟩ : ∃ R, partsX x y = R := ⟨_, rfl⟩
  have hR2 := hR
  unfold partsX partsR at hR2
  rw [hks] at hR2
  obtain ⟨n, hn⟩ : ∃ n, x.root = n := ⟨_, rfl⟩
  rw [hn] at ev hk45 hR2
  obtain ⟨p, hp⟩ : ∃ p, y.root = p := ⟨_, rfl⟩
  rw [hp] at et hR2
  clear hpre
  cases h0 : (p.kind == 0) with
  | true =>
    rw [h0] at hR2
    simp only [cond_true] at hR2
    have hrow : (n.kind == 4 || n.kind == 5) = true := by rcases hk45 with h | h <;> simp [h]
    simp only [Try.f64, Option.some.injEq] at hc
    subst hc
    refine Kq 7 (of_decide_eq_true (by kernel_rfl)) ?_
    (sym =>
     simp [con1w.eq_def,hx1,hy1,hks,hsl,ev,et,h0,hR,Uv,Uy,Ux,Uw,szV,Ut,Ur,Uu,Uq,szN,Us,Hi,Ht,Hj,Hu,con_FieldP.eq_def,con_dynV.eq_def,con_kidsV.eq_def,con_partsV.eq_def,Zb,Zc,Ze,Zf,Zn,Zo,Zp,Zq,Zs,Zv,Zx,Zy,Z6,Z9,Qb,Qd,Qe,Qf,Qq,Qs,Q1,Q2,Q4,Q8,Jf,Jh,Ji,Jj,Jl,Jw,J3,J4,J5,J6,J8,J9,Xb,Xc,Xf,Xn,Xo,Xt,Xx,X3,X5,X6,X7,X8,Wb,We,Wg,Wh,Wi,Ws,Wt,Wu,Wv,Ww,Wx,Wy,Wz,W5,W6,W7,W9,Ya,Yd,Yh,Yl,Ys,Yv,Yx,Yz,Y0,Y5,Y6,Y7,Va,Vb,Vc,Vd,Ve,Vf,Vi,Vn,Vr,Vs,Vt,V3,V4,V6,Uj,Ul,Um,Un,Uo,U4,U7,Kb,Gt,Gl]
     tactic =>
      try simp only [U0] at *
      try simp only [nc2] at *
      try simp (maxSteps := 4000000) only [con1w.eq_def,hx1,hy1,hks,hsl,ev,et,h0,hR,Uv,Uy,Ux,Uw,szV,Ut,Ur,Uu,Uq,szN,Us,U3]
      repeat' (first | with_reducible assumption | with_reducible refine And.intro ?_ ?_ | intro _ | omega | (rw [Uz]; omega))
      · exact ⟨x, hx⟩
      refine Kd [25, 26, 27, 28, 29, 30] (fun k : Nat => [(6, .sl 6 ((slsN (List.replicate k dynT)).map (enc : Sl Node → D)).length), (24, .d (.int .i64 k))]) (fun k : Nat => [(6, .row 1 ((slsN (List.replicate k dynT)).map enc) 0)]) (fun k : Nat => k ≤ ks.length) (fun k : Nat => ks.length - k) 0 ?_ ?_ ?_
      · simp
      · ((try simp only [U1, killAll, setSlots, updAll, upd, U9, setCs, putC, Nat.reduceDiv, Nat.reduceMod, Nat.reduceMul, Nat.reduceAdd, Nat.reduceEqDiff, List.set_cons_zero, List.set_cons_succ, if_true, if_false, reduceIte]); (first | refine Wk.of_fl ?_ | skip); simp only [Wk, wkK, wkCs, wkT, wk1, AV.kept, keptAll, wkO, lk, wkObj, and_true, true_and, and_self, Nat.reduceEqDiff, Nat.reduceLeDiff, if_true, if_false, reduceIte, reduceCtorEq, Option.isSome, false_implies]; try simp [Wk, wkK, wkT, wk1, AV.kept, keptAll, wkO, lk, wkObj, slsN])
      rintro k hk
      have hrl : (slsN (List.replicate k dynT)).length = k := by rw [M0, List.length_replicate]
      have hrl2 : (slsN (List.replicate (k + 1) dynT)).length = k + 1 := by rw [M0, List.length_replicate]
      have hsn : (slsN (List.replicate k dynT)).map (enc : Sl Node → D) ++ [.list 3 [.agg [.int .i64 0, .str [], .int .i64 0]]] = (slsN (List.replicate (k + 1) dynT)).map enc := by
        rw [List.replicate_succ', ← slsN_snoc]
        rfl
      rcases Kg k ks.length with ⟨hlt, hlb⟩ | ⟨hlt, hlb⟩
      · (sym =>
         simp [con1w.eq_def,hlb,hrl,hsn,Uv,Uy,Ux,Uw,szV,Ut,Ur,Uu,Uq,szN,Us,Hi,Ht,Hj,Hu,P7,con_FieldP.eq_def,con_dynV.eq_def,con_kidsV.eq_def,Zb,Zc,Ze,Zf,Zg,Zo,Zr,Z1,Z4,Z5,Z9,Qb,Qd,Qe,Qf,Qq,Qs,Q1,Q2,Q4,Q8,Jb,Jc,Jd,Je,Jf,Jg,Jh,Ji,Jj,Jl,Jy,Jz,J0,J5,J6,J8,J9,Xb,Xc,Xd,Xe,Xf,Xt,Xx,X2,X3,X5,X6,X7,Wb,We,Wg,Wh,Wi,Wj,Wm,Ws,Wt,Wu,Wv,Ww,Wy,Wz,W0,W3,W4,W5,W6,W9,Ya,Yc,Yd,Yh,Y1,Y6,Y7,Y8,Vs,V2,V3,V8,Uj,Ul,Um,Un,Uo,U4,U7,Gt]
         tactic =>
          try simp only [U0] at *
          try simp only [nc2] at *
          try simp (maxSteps := 4000000) only [con1w.eq_def,hlb,hrl,hsn,Uv,Uy,Ux,Uw,szV,Ut,Ur,Uu,Uq,szN,Us,U3]
          repeat' (first | with_reducible assumption | with_reducible refine And.intro ?_ ?_ | intro _ | omega | (rw [Uz]; omega))
          all_goals first
            | omega
            | (refine ⟨k + 1, ?_, by omega, by omega⟩; ((try simp only [U1, killAll, setSlots, updAll, upd, U9, setCs, putC, Nat.reduceDiv, Nat.reduceMod, Nat.reduceMul, Nat.reduceAdd, Nat.reduceEqDiff, List.set_cons_zero, List.set_cons_succ, if_true, if_false, reduceIte]); (first | refine Wk.of_fl ?_ | skip); simp only [Wk, wkK, wkCs, wkT, wk1, AV.kept, keptAll, wkO, lk, wkObj, and_true, true_and, and_self, Nat.reduceEqDiff, Nat.reduceLeDiff, if_true, if_false, reduceIte, reduceCtorEq, Option.isSome, false_implies]; try simp [Wk, wkK, wkT, wk1, AV.kept, keptAll, wkO, lk, wkObj, hrl, hrl2, hsn]); done)
            | (refine ⟨k + 1, ?_, by omega, by omega⟩; ((try simp only [U1, killAll, setSlots, updAll, upd, U9, setCs, putC, Nat.reduceDiv, Nat.reduceMod, Nat.reduceMul, Nat.reduceAdd, Nat.reduceEqDiff, List.set_cons_zero, List.set_cons_succ, if_true, if_false, reduceIte]); (first | refine Wk.of_fl ?_ | skip); simp only [Wk, wkK, wkCs, wkT, wk1, AV.kept, keptAll, wkO, lk, wkObj, and_true, true_and, and_self, Nat.reduceEqDiff, Nat.reduceLeDiff, if_true, if_false, reduceIte, reduceCtorEq, Option.isSome, false_implies]; try simp [Wk, wkK, wkT, wk1, AV.kept, keptAll, wkO, lk, wkObj, hrl, hrl2, hsn]); exact hsn)
            | skip)
      · have hkl2 : k = ks.length := by omega
        subst hkl2
        (sym =>
         simp [con1w.eq_def,hlb,hrl,hx1,hy1,hks,hsl,ev,et,hR,Uv,Uy,Ux,Uw,szV,Ut,Ur,Uu,Uq,szN,Us,Hi,Ht,Hj,Hu,P7,con_FieldP.eq_def,con_dynV.eq_def,con_kidsV.eq_def,Zb,Zc,Zd,Ze,Zf,Zg,Zh,Zi,Zj,Zk,Zl,Zm,Zo,Zp,Zq,Zs,Zt,Zv,Zx,Zy,Qb,Qd,Qn,Qo,Qp,Qq,Qr,Qs,Q1,Q2,Q4,Q5,Q6,Q8,Jh,Ji,Jk,Jy,Jz,J0,J5,J6,J8,J9,Xb,Xc,Xf,Xh,Xt,Xx,X3,X4,X5,X6,X9,Wa,Wb,Wc,Wd,We,Wf,Wg,Wh,Wi,Wo,Ws,Wt,Wu,Wv,W3,W4,W7,W8,W9,Ya,Yc,Yd,Yh,Yl,Ys,Yv,Yz,Y0,Y6,Y7,Vr,Vs,Vt,V3,V4,Uj,Uk,Ul,Um,Uo,Up,U4,Kc,Ke]
         tactic =>
          try simp only [U0] at *
          try simp only [nc2] at *
          try simp (maxSteps := 4000000) only [con1w.eq_def,hlb,hrl,hx1,hy1,hks,hsl,ev,et,hR,Uv,Uy,Ux,Uw,szV,Ut,Ur,Uu,Uq,szN,Us,U3]
          repeat' (first | with_reducible assumption | with_reducible refine And.intro ?_ ?_ | intro _ | omega | (rw [Uz]; omega))
          all_goals first
            | (with_reducible refine Kf ?_; kernel_rfl)
            | omega
            | (rw [← hR2]; done)
            | (rw [← hR2]; rfl)
            | (rw [← hR2]; simp_all; done)
            | skip))
  | false =>
    rw [h0] at hR2
    simp only [cond_false] at hR2
    cases h75 : (p.kind == 7 && n.kind == 5) with
    | true =>
      rw [h75] at hR2
      simp only [cond_true] at hR2
      rw [Bool.and_eq_true] at h75
      obtain ⟨h7, h5⟩ := h75
      have hrow : isRowT y.root = true := by rw [hp]; unfold isRowT; rw [h7, Bool.or_true]
      have hfx := fieldX_row (s := n.name) hrow (by rw [hp]; simpa using h0)
      obtain ⟨f, hf⟩ : ∃ f, fieldR y n.name = f := ⟨_, rfl⟩
      rw [hf] at hfx hR2
      cases f with
      | none =>
        simp only [Option.map_none] at hR2 hfx
        simp only [Try.f64, Option.some.injEq] at hc
        subst hc
        refine Kq 7 (of_decide_eq_true (by kernel_rfl)) ?_
        (sym =>
         simp [con1w.eq_def,hx1,hy1,hks,hsl,ev,et,h0,h7,h5,hfx,hR,Uv,Uy,Ux,Uw,szV,Ut,Ur,Uu,Uq,szN,Us,Hi,Ht,Hj,Hu,con_FieldP.eq_def,con_dynV.eq_def,con_kidsV.eq_def,con_partsV.eq_def,Zb,Zc,Zd,Ze,Zf,Zg,Zn,Zo,Zp,Zq,Zr,Zs,Zt,Zv,Zx,Zy,Z1,Z4,Z5,Z8,Z9,Qb,Qd,Qe,Qf,Qg,Qn,Qo,Qp,Qq,Qs,Q1,Q2,Q4,Q8,Q9,Ja,Jb,Jc,Jd,Je,Jf,Jg,Jh,Ji,Jj,Jk,Jl,Jw,J3,J4,J5,J6,J8,J9,Xb,Xc,Xd,Xe,Xf,Xh,Xn,Xo,Xt,Xx,X3,X5,X6,X7,Wa,Wb,We,Wg,Wh,Wi,Wj,Wm,Ws,Wt,Wu,Wv,Ww,Wx,Wy,Wz,W0,W3,W4,W5,W6,W7,W8,W9,Ya,Yd,Yh,Yl,Ys,Yt,Yv,Yw,Yx,Yz,Y0,Y1,Y5,Y6,Y7,Y8,Va,Vb,Vc,Vd,Ve,Vf,Vh,Vi,Vm,Vn,Vr,Vs,Vt,V2,V3,V4,V6,V8,Uj,Uk,Ul,Um,Un,Uo,U4,K9,U7,Kb,tab30,Kc,Ke,Gt]
         tactic =>
          try simp only [U0] at *
          try simp only [nc2] at *
          try simp (maxSteps := 4000000) only [con1w.eq_def,hx1,hy1,hks,hsl,ev,et,h0,h7,h5,hfx,hR,Uv,Uy,Ux,Uw,szV,Ut,Ur,Uu,Uq,szN,Us,U3]
          repeat' (first | with_reducible assumption | with_reducible refine And.intro ?_ ?_ | intro _ | omega | (rw [Uz]; omega))
          all_goals first
            | exact ⟨x, hx⟩
            | exact ⟨y, hy⟩
            | (with_reducible refine Kf ?_; kernel_rfl)
            | omega
            | (rw [← hR2]; done)
            | (rw [← hR2]; rfl)
            | skip)
      | some z =>
        simp only [Option.map_some] at hR2 hfx
        simp only [Try.f64, Option.some.injEq] at hc
        subst hc
        refine Kq 7 (of_decide_eq_true (by kernel_rfl)) ?_
        (sym =>
         simp [con1w.eq_def,hx1,hy1,hks,hsl,ev,et,h0,h7,h5,hfx,hR,Uv,Uy,Ux,Uw,szV,Ut,Ur,Uu,Uq,szN,Us,Hi,Ht,Hj,Hu,con_FieldP.eq_def,con_dynV.eq_def,con_kidsV.eq_def,con_partsV.eq_def,Zb,Zc,Zd,Ze,Zf,Zg,Zn,Zo,Zp,Zq,Zr,Zs,Zt,Zv,Zx,Zy,Z1,Z4,Z5,Z8,Z9,Qb,Qd,Qe,Qf,Qg,Qn,Qo,Qp,Qq,Qs,Q1,Q2,Q4,Q8,Q9,Ja,Jb,Jc,Jd,Je,Jf,Jg,Jh,Ji,Jj,Jk,Jl,Jw,J3,J4,J5,J6,J8,J9,Xb,Xc,Xd,Xe,Xf,Xh,Xn,Xo,Xt,Xx,X3,X5,X6,X7,Wa,Wb,We,Wg,Wh,Wi,Wj,Wm,Ws,Wt,Wu,Wv,Ww,Wx,Wy,Wz,W0,W3,W4,W5,W6,W7,W8,W9,Ya,Yd,Yh,Yl,Ys,Yt,Yv,Yw,Yx,Yz,Y0,Y1,Y5,Y6,Y7,Y8,Va,Vb,Vc,Vd,Ve,Vf,Vh,Vi,Vm,Vn,Vr,Vs,Vt,V2,V3,V4,V6,V8,Uj,Uk,Ul,Um,Un,Uo,U4,K9,U7,Kb,tab30,Kc,Ke,Gt]
         tactic =>
          try simp only [U0] at *
          try simp only [nc2] at *
          try simp (maxSteps := 4000000) only [con1w.eq_def,hx1,hy1,hks,hsl,ev,et,h0,h7,h5,hfx,hR,Uv,Uy,Ux,Uw,szV,Ut,Ur,Uu,Uq,szN,Us,U3]
          repeat' (first | with_reducible assumption | with_reducible refine And.intro ?_ ?_ | intro _ | omega | (rw [Uz]; omega))
          all_goals first
            | exact ⟨x, hx⟩
            | exact ⟨y, hy⟩
            | (with_reducible refine Kf ?_; kernel_rfl)
            | omega
            | (rw [← hR2]; done)
            | (rw [← hR2]; rfl)
            | skip)
    | false =>
      rw [h75] at hR2
      simp only [cond_false] at hR2
      cases h64 : (p.kind == 6 && (n.kind == 4 && p.n == (ks.length : Int))) with
      | false =>
        rw [h64] at hR2
        simp only [cond_false] at hR2
        simp only [Try.f64, Option.some.injEq] at hc
        subst hc
        refine Kq 7 (of_decide_eq_true (by kernel_rfl)) ?_
        (sym =>
         simp [con1w.eq_def,hx1,hy1,hks,hsl,ev,et,h0,hR,Uv,Uy,Ux,Uw,szV,Ut,Ur,Uu,Uq,szN,Us,Hi,Ht,Hj,Hu,con_FieldP.eq_def,con_dynV.eq_def,con_kidsV.eq_def,con_partsV.eq_def,Zb,Zc,Zd,Ze,Zf,Zg,Zn,Zo,Zp,Zq,Zr,Zs,Zt,Zv,Zx,Zy,Z1,Z4,Z5,Z6,Z8,Z9,Qb,Qd,Qe,Qf,Qg,Qn,Qo,Qp,Qq,Qs,Q1,Q2,Q4,Q8,Q9,Ja,Jb,Jc,Jd,Je,Jf,Jg,Jh,Ji,Jj,Jk,Jl,Jw,J3,J4,J5,J6,J8,J9,Xb,Xc,Xd,Xe,Xf,Xg,Xh,Xn,Xo,Xt,Xx,X2,X3,X5,X6,X7,X8,Wa,Wb,We,Wg,Wh,Wi,Wj,Wm,Ws,Wt,Wu,Wv,Ww,Wx,Wy,Wz,W0,W3,W4,W5,W6,W7,W8,W9,Ya,Yd,Yh,Yl,Ys,Yt,Yv,Yw,Yx,Yz,Y0,Y1,Y5,Y6,Y7,Y8,Va,Vb,Vc,Vd,Ve,Vf,Vh,Vi,Vm,Vn,Vr,Vs,Vt,V2,V3,V4,V6,V8,Uj,Uk,Ul,Um,Un,Uo,U4,K9,U7,Kb,tab30,Kc,Ke,Gt,Gl]
         tactic =>
          try simp only [U0] at *
          try simp only [nc2] at *
          try simp (maxSteps := 4000000) only [con1w.eq_def,hx1,hy1,hks,hsl,ev,et,h0,hR,Uv,Uy,Ux,Uw,szV,Ut,Ur,Uu,Uq,szN,Us,U3]
          repeat' (first | with_reducible assumption | with_reducible refine And.intro ?_ ?_ | intro _ | omega | (rw [Uz]; omega))
          all_goals first
            | exact ⟨x, hx⟩
            | exact ⟨y, hy⟩
            | (with_reducible refine Kf ?_; kernel_rfl)
            | omega
            | (rw [← hR2]; done)
            | (rw [← hR2]; rfl)
            | (exfalso; simp_all; done)
            | skip)
      | true =>
        rw [h64] at hR2
        simp only [cond_true] at hR2
        rw [Bool.and_eq_true, Bool.and_eq_true] at h64
        obtain ⟨h6, h4, hnn⟩ := h64
        have h7 : (p.kind == 7) = false := by rw [beq_iff_eq] at h6; rw [h6]; rfl
        have n6 : (p.kind != 6) = false := by rw [bne, h6]; rfl
        have n4 : (n.kind != 4) = false := by rw [bne, h4]; rfl
        have nn : (p.n != (ks.length : Int)) = false := by rw [bne, hnn]; rfl
        have hrow : isRowT y.root = true := by rw [hp]; unfold isRowT; rw [h6, Bool.true_or]
        have hfx := fun s => fieldX_row (s := s) hrow (by rw [hp]; simpa using h0)
        simp only [Try.f64, Option.some.injEq] at hc
        subst hc
        refine Kq 7 (of_decide_eq_true (by kernel_rfl)) ?_
        (sym =>
         simp [con1w.eq_def,hx1,hy1,hks,hsl,ev,et,h0,h7,n6,n4,nn,hR,Uv,Uy,Ux,Uw,szV,Ut,Ur,Uu,Uq,szN,Us,Hi,Ht,Hj,Hu,con_FieldP.eq_def,con_dynV.eq_def,con_kidsV.eq_def,con_partsV.eq_def,Zb,Zc,Zd,Ze,Zf,Zg,Zn,Zo,Zp,Zq,Zs,Zt,Zv,Zx,Zy,Z6,Z9,Qb,Qd,Qe,Qf,Qq,Qs,Q1,Q2,Q4,Q8,Jf,Jh,Ji,Jj,Jl,Jw,J3,J4,J5,J6,J8,J9,Xb,Xc,Xf,Xn,Xo,Xt,Xx,X2,X3,X5,X6,X7,X8,Wb,We,Wg,Wh,Wi,Ws,Wt,Wu,Wv,Ww,Wx,Wy,Wz,W5,W6,W7,W8,W9,Ya,Yd,Yh,Yl,Ys,Yv,Yx,Yz,Y0,Y5,Y6,Y7,Va,Vb,Vc,Vd,Ve,Vf,Vi,Vn,Vr,Vs,Vt,V3,V4,V6,Uk,Ul,Um,Un,Uo,U4,U7,Kb,Kc,Ke,Gt,Gl]
         tactic =>
          try simp only [U0] at *
          try simp only [nc2] at *
          try simp (maxSteps := 4000000) only [con1w.eq_def,hx1,hy1,hks,hsl,ev,et,h0,h7,n6,n4,nn,hR,Uv,Uy,Ux,Uw,szV,Ut,Ur,Uu,Uq,szN,Us,U3]
          repeat' (first | with_reducible assumption | with_reducible refine And.intro ?_ ?_ | intro _ | omega | (rw [Uz]; omega))
          · exact ⟨x, hx⟩
          refine Kd [4, 5, 11, 12, 13, 97, 98, 99, 100, 101, 102, 103, 104, 105, 106, 107, 108, 109, 110, 111, 112, 113, 114, 115] (fun q : Nat × List (Rose Node) => [(6, .sl 6 ((slsN q.2).map (enc : Sl Node → D)).length), (96, .d (.int .i64 q.1))]) (fun q : Nat × List (Rose Node) => [(6, .row 1 ((slsN q.2).map enc) 0)]) (fun q : Nat × List (Rose Node) => q.1 ≤ ks.length ∧ q.2.length = q.1 ∧ fieldsR y (ks.take q.1) = some q.2) (fun q : Nat × List (Rose Node) => ks.length - q.1) (0, []) ?_ ?_ ?_
          · exact ⟨Nat.zero_le _, rfl, rfl⟩
          · ((try simp only [U1, killAll, setSlots, updAll, upd, U9, setCs, putC, Nat.reduceDiv, Nat.reduceMod, Nat.reduceMul, Nat.reduceAdd, Nat.reduceEqDiff, List.set_cons_zero, List.set_cons_succ, if_true, if_false, reduceIte]); (first | refine Wk.of_fl ?_ | skip); simp only [Wk, wkK, wkCs, wkT, wk1, AV.kept, keptAll, wkO, lk, wkObj, and_true, true_and, and_self, Nat.reduceEqDiff, Nat.reduceLeDiff, if_true, if_false, reduceIte, reduceCtorEq, Option.isSome, false_implies]; try simp [Wk, wkK, wkT, wk1, AV.kept, keptAll, wkO, lk, wkObj, slsN])
          rintro ⟨k, l⟩ ⟨hk, hll, hF⟩
          simp only at hk hll hF
          have hrl : (slsN l).length = k := by rw [M0, hll]
          rcases Kg k ks.length with ⟨hlt, hlb⟩ | ⟨hlt, hlb⟩
          · have q1 := U8 (⟨[]⟩ : Sl VNode) (show k < (sls ks).length by omega)
            rw [Bt hlt] at q1
            obtain ⟨z, hz⟩ : ∃ z, ks[k] = z := ⟨_, rfl⟩
            have hsnoc := S4 (t := y) (k := z) (ks := ks.take k)
            rw [← hz, ← List.take_succ_eq_append_getElem hlt, hF, hz] at hsnoc
            have hnone := Fv (t := y) hlt
            rw [hz] at q1 hnone
            have q2 := U8 v0 (show 0 < (nds z).length from Gw z)
            have hzr : (nds z).getD 0 v0 = z.root := by rw [Gu]; rfl
            rw [hzr] at q2
            have hzp := Gw z
            obtain ⟨m, hm⟩ : ∃ m, z.root = m := ⟨_, rfl⟩
            rw [hm] at q2 hsnoc hnone
            have hfm := hfx m.label
            cases hf : fieldR y m.label with
            | none =>
              rw [hf] at hfm
              rw [hnone hf] at hR2
              (sym =>
               simp [con1w.eq_def,hlb,q1,q2,hfm,hx1,hy1,hR,Uv,Uy,Ux,Uw,szV,Ut,Ur,Uu,Uq,szN,Us,Hi,Ht,Hj,Hu,P7,con_FieldP.eq_def,con_dynV.eq_def,con_kidsV.eq_def,Zb,Zc,Ze,Zf,Zg,Zn,Zo,Zp,Zq,Zr,Zs,Zv,Zx,Zy,Z1,Z4,Z5,Z8,Z9,Qb,Qd,Qe,Qf,Qg,Qn,Qo,Qp,Qq,Qs,Q1,Q2,Q4,Q8,Q9,Ja,Jb,Jc,Jd,Je,Jf,Jg,Jh,Ji,Jj,Jk,Jl,Jy,Jz,J0,J5,J6,J7,J8,J9,Xa,Xb,Xc,Xd,Xe,Xf,Xg,Xt,Xx,X2,X3,X5,X6,X7,Wa,Wb,We,Wg,Wh,Wi,Wj,Wm,Ws,Wt,Wu,Wv,Ww,Wy,Wz,W0,W3,W4,W5,W6,W7,W8,W9,Ya,Yc,Yd,Yh,Yl,Yt,Yv,Yw,Yz,Y0,Y1,Y2,Y6,Y7,Y8,Y9,Vh,Vi,Vm,Vn,Vq,Vr,Vs,Vt,V2,V3,V4,V6,V8,Uj,Ul,Um,Un,Uo,U4,K9,U7,tab30,Kc,Ke,Gt,Gl]
               tactic =>
                try simp only [U0] at *
                try simp only [nc2] at *
                try simp (maxSteps := 4000000) only [con1w.eq_def,hlb,q1,q2,hfm,hx1,hy1,hR,Uv,Uy,Ux,Uw,szV,Ut,Ur,Uu,Uq,szN,Us,U3]
                repeat' (first | with_reducible assumption | with_reducible refine And.intro ?_ ?_ | intro _ | omega | (rw [Uz]; omega))
                all_goals first
                  | exact ⟨y, hy⟩
                  | (with_reducible refine Kf ?_; kernel_rfl)
                  | omega
                  | (rw [← hR2]; done)
                  | (rw [← hR2]; rfl)
                  | skip)
            | some w =>
              rw [hf] at hfm
              rw [hf] at hsnoc
              simp only at hsnoc
              have hsn := slsN_snoc (l := l) (y := w)
              have hrl2 : (slsN (l ++ [w])).length = k + 1 := by rw [M0, List.length_append, hll]; rfl
              (sym =>
               simp [con1w.eq_def,hlb,q1,q2,hfm,hx1,hy1,hrl,hsn,Uv,Uy,Ux,Uw,szV,Ut,Ur,Uu,Uq,szN,Us,Hi,Ht,Hj,Hu,P7,con_FieldP.eq_def,con_dynV.eq_def,con_kidsV.eq_def,Zb,Zc,Ze,Zf,Zg,Zn,Zo,Zp,Zq,Zr,Zs,Zv,Zx,Zy,Z1,Z4,Z5,Z8,Z9,Qb,Qd,Qe,Qf,Qg,Qn,Qo,Qp,Qq,Qs,Q1,Q2,Q4,Q8,Q9,Ja,Jb,Jc,Jd,Je,Jf,Jg,Jh,Ji,Jj,Jk,Jl,Jy,Jz,J0,J5,J6,J7,J8,J9,Xa,Xb,Xc,Xd,Xe,Xf,Xg,Xt,Xx,X2,X3,X5,X6,X7,Wa,Wb,We,Wg,Wh,Wi,Wj,Wm,Ws,Wt,Wu,Wv,Ww,Wy,Wz,W0,W3,W4,W5,W6,W7,W8,W9,Ya,Yc,Yd,Yh,Yl,Yt,Yv,Yw,Yz,Y0,Y1,Y2,Y6,Y7,Y8,Y9,Vh,Vi,Vm,Vn,Vq,Vr,Vs,Vt,V2,V3,V4,V6,V8,Uj,Ul,Um,Un,Uo,U4,K9,U7,tab30,Kc,Ke,Gt,Gl]
               tactic =>
                try simp only [U0] at *
                try simp only [nc2] at *
                try simp (maxSteps := 4000000) only [con1w.eq_def,hlb,q1,q2,hfm,hx1,hy1,hrl,hsn,Uv,Uy,Ux,Uw,szV,Ut,Ur,Uu,Uq,szN,Us,U3]
                repeat' (first | with_reducible assumption | with_reducible refine And.intro ?_ ?_ | intro _ | omega | (rw [Uz]; omega))
                all_goals first
                  | exact ⟨y, hy⟩
                  | (with_reducible refine Kf ?_; kernel_rfl)
                  | omega
                  | (refine ⟨(k + 1, l ++ [w]), ?_, by simp only; omega, by simp [hll], hsnoc, by simp only; omega⟩; ((try simp only [U1, killAll, setSlots, updAll, upd, U9, setCs, putC, Nat.reduceDiv, Nat.reduceMod, Nat.reduceMul, Nat.reduceAdd, Nat.reduceEqDiff, List.set_cons_zero, List.set_cons_succ, if_true, if_false, reduceIte]); (first | refine Wk.of_fl ?_ | skip); simp only [Wk, wkK, wkCs, wkT, wk1, AV.kept, keptAll, wkO, lk, wkObj, and_true, true_and, and_self, Nat.reduceEqDiff, Nat.reduceLeDiff, if_true, if_false, reduceIte, reduceCtorEq, Option.isSome, false_implies]; try simp [Wk, wkK, wkT, wk1, AV.kept, keptAll, wkO, lk, wkObj, hrl, hrl2, hsn]); done)
                  | (refine ⟨(k + 1, l ++ [w]), ?_, by simp only; omega, by simp [hll], hsnoc, by simp only; omega⟩; ((try simp only [U1, killAll, setSlots, updAll, upd, U9, setCs, putC, Nat.reduceDiv, Nat.reduceMod, Nat.reduceMul, Nat.reduceAdd, Nat.reduceEqDiff, List.set_cons_zero, List.set_cons_succ, if_true, if_false, reduceIte]); (first | refine Wk.of_fl ?_ | skip); simp only [Wk, wkK, wkCs, wkT, wk1, AV.kept, keptAll, wkO, lk, wkObj, and_true, true_and, and_self, Nat.reduceEqDiff, Nat.reduceLeDiff, if_true, if_false, reduceIte, reduceCtorEq, Option.isSome, false_implies]; try simp [Wk, wkK, wkT, wk1, AV.kept, keptAll, wkO, lk, wkObj, hrl, hrl2, hsn]); exact hsn)
                  | skip)
          · have hkl2 : k = ks.length := by omega
            rw [hkl2, List.take_length] at hF
            rw [hF] at hR2
            simp only at hR2
            (sym =>
             simp [con1w.eq_def,hlb,hrl,hx1,hy1,hR,Uv,Uy,Ux,Uw,szV,Ut,Ur,Uu,Uq,szN,Us,Hi,Hj,Zb,Zc,Ze,Zf,Zg,Qb,Qd,Qn,Qo,Qp,Qq,Qs,Q1,Q2,Q4,Q8,Jh,Ji,Jk,Jy,Jz,J0,J5,J6,J7,J8,J9,Xa,Xb,Xc,Xf,Xh,X3,X5,X6,X9,Wa,Wb,We,Wg,Wh,Ws,Wt,Wu,Wv,W9,Ya,Yc,Yd,Yh,Y6,Y7,Y8,Y9,Vs,V4,Uk,Ul,Um,Un,Uo,U4]
             tactic =>
              try simp only [U0] at *
              try simp only [nc2] at *
              try simp (maxSteps := 4000000) only [con1w.eq_def,hlb,hrl,hx1,hy1,hR,Uv,Uy,Ux,Uw,szV,Ut,Ur,Uu,Uq,szN,Us,U3]
              repeat' (first | with_reducible assumption | with_reducible refine And.intro ?_ ?_ | intro _ | omega | (rw [Uz]; omega))
              all_goals first
                | (with_reducible refine Kf ?_; kernel_rfl)
                | omega
                | (rw [← hR2]; done)
                | (rw [← hR2]; rfl)
                | skip))
end Go.Am.Ty
set_option linter.unusedSimpArgs false
set_option linter.unusedVariables false
set_option maxHeartbeats 2000000
namespace Go.Am.Ty
open Go.Proofs Go.Rose Go.Rose.Rose
open Enc (enc dec)
abbrev dv : Rose VNode := mk v0 []
mutual
def fitsR : Rose VNode → Rose Node → Bool
  | mk n ks, t => cond (n.kind == 6) (t.root.kind == 0 || t.root.kind == 5)
      (cond (n.kind == 7) (same3 n.u (nds t) || (t.root.kind == 0 && same3 n.u dynL))
        (cond (n.kind == 4 || n.kind == 5) (match partsR n ks t with
          | none => false
          | some l => fitsRs ks l) (t.root.kind == 0 || isBaseB n t.root.kind)))
def fitsRs : List (Rose VNode) → List (Rose Node) → Bool
  | [], _ => true
  | k :: ks, l => fitsR k (l.headD dynT) && fitsRs ks l.tail
end
mutual
def plainR : Rose VNode → Rose VNode
  | mk n ks => cond (isFunB n) (mk ⟨6, n.label, [], 0, 0, [], []⟩ []) (mk n (plainRs ks))
def plainRs : List (Rose VNode) → List (Rose VNode)
  | [] => []
  | k :: ks => plainR k :: plainRs ks
end
theorem Ns : ∀ ks : List (Rose VNode), plainRs ks = ks.map plainR
  | [] => rfl
  | k :: ks => by rw [plainRs, Ns, List.map_cons]
def dynFT : Rose Node := mk n5 [dynT, dynT]
def arrR (t : Rose Node) : Rose Node := cond (t.root.kind == 0) dynFT t
def relabT : Rose VNode → Rose VNode
  | mk n ks => mk (relab n) ks
theorem nds_relabT : ∀ x : Rose VNode, nds (relabT x) = relabL (nds x)
  | mk n ks => rfl
def wrapT (lab : Int) (x : Rose VNode) (t u : Rose Node) : Rose VNode := mk ⟨7, x.root.label, [], lab, 0, (nds t).map norm, (nds u).map norm⟩ [relabT x]
def funR (lab : Int) (x : Rose VNode) (t u : Rose Node) : Option (Rose VNode) :=
  cond ((arrR u).root.kind == 5) (cond (same3 (nds (arrR t)) (nds (arrR u))) (some x) (some (wrapT lab x (arrR t) (arrR u)))) none
mutual
def castR (lab : Int) : Rose VNode → Rose Node → Rose Node → Option (Rose VNode)
  | mk n ks, t, u => cond (same3 (nds t) (nds u)) (some (mk n ks))
      (cond (isFunB n) (funR lab (mk n ks) t u)
        (cond (n.kind == 4 || n.kind == 5) (match partsR n ks t, partsR n ks u with
          | some a, some b => (castRs lab ks a b).map (mk n)
          | _, _ => none) (cond (!(u.root.kind == 0) && !isBaseB n u.root.kind) none (some (mk n ks)))))
def castRs (lab : Int) : List (Rose VNode) → List (Rose Node) → List (Rose Node) → Option (List (Rose VNode))
  | [], _, _ => some []
  | k :: ks, a, b => match castR lab k (a.headD dynT) (b.headD dynT) with
    | none => none
    | some y => (castRs lab ks a.tail b.tail).map (y :: ·)
end
def seqO {β : Type} (f : Nat → Option β) : Nat → Option (List β)
  | 0 => some []
  | n + 1 => match seqO f n, f n with
    | some l, some y => some (l ++ [y])
    | _, _ => none
theorem Bu {β : Type} {f : Nat → Option β} : ∀ {n : Nat} {l : List β}, seqO f n = some l → l.length = n
  | 0, l, h => by injection h with h; rw [← h]; rfl
  | n + 1, l, h => by
    rw [seqO] at h
    cases h1 : seqO f n with
    | none => rw [h1] at h; cases h
    | some l' =>
      cases h2 : f n with
      | none => rw [h1, h2] at h; cases h
      | some y =>
        rw [h1, h2] at h
        injection h with h
        rw [← h, List.length_append, Bu h1]
        rfl
theorem Rr {β : Type} {f : Nat → Option β} {k : Nat} (h : f k = none) : ∀ {n : Nat}, k < n → seqO f n = none
  | 0, hk => by omega
  | n + 1, hk => by
    rw [seqO]
    by_cases e : k = n
    · subst e
      rw [h]
      cases seqO f k <;> rfl
    · rw [Rr h (n := n) (by omega)]
theorem seqO_at {β : Type} {f : Nat → Option β} : ∀ {n : Nat} {l : List β}, seqO f n = some l → ∀ j (h : j < l.length), f j = some l[j]
  | 0, l, h, j, hj => by injection h with h; subst h; simp at hj
  | n + 1, l, h, j, hj => by
    rw [seqO] at h
    cases h1 : seqO f n with
    | none => rw [h1] at h; cases h
    | some l' =>
      cases h2 : f n with
      | none => rw [h1, h2] at h; cases h
      | some y =>
        rw [h1, h2] at h
        injection h with h
        subst h
        have hl := Bu h1
        by_cases e : j < l'.length
        · rw [List.getElem_append_left e]
          exact seqO_at h1 j e
        · have : j = n := by rw [List.length_append, hl] at hj; simp at hj; omega
          subst this
          rw [List.getElem_append_right (by omega)]
          simp [h2]
theorem seqO_of {β : Type} {f : Nat → Option β} : ∀ {n : Nat} {l : List β}, l.length = n → (∀ j (h : j < l.length), f j = some l[j]) → seqO f n = some l
  | 0, l, h, _ => by rw [List.eq_nil_of_length_eq_zero h]; rfl
  | n + 1, l, h, hf => by
    have hl : l = l.take n ++ [l[n]] := by
      conv => lhs; rw [← List.take_length (l := l), h]
      exact List.take_succ_eq_append_getElem (by omega)
    have h1 : seqO f n = some (l.take n) := seqO_of (by rw [List.length_take]; omega) (fun j hj => by
      rw [List.length_take] at hj
      rw [hf j (by omega)]
      simp)
    rw [seqO, h1, hf n (by omega)]
    simp only
    rw [← hl]
theorem seqO_iff {β : Type} {f : Nat → Option β} {n : Nat} {l : List β} : seqO f n = some l ↔ l.length = n ∧ ∀ j (h : j < l.length), f j = some l[j] :=
  ⟨fun h => ⟨Bu h, seqO_at h⟩, fun h => seqO_of h.1 h.2⟩
theorem El {lab : Int} : ∀ {ks : List (Rose VNode)} {a b : List (Rose Node)} {ys : List (Rose VNode)}, castRs lab ks a b = some ys ↔ ys.length = ks.length ∧ ∀ j (h : j < ys.length), castR lab (ks.getD j dv) (a.getD j dynT) (b.getD j dynT) = some ys[j]
  | [], a, b, ys => by
    rw [castRs]
    constructor
    · intro h
      injection h with h
      subst h
      exact ⟨rfl, fun j hj => by simp at hj⟩
    · rintro ⟨h, _⟩
      rw [List.eq_nil_of_length_eq_zero h]
  | k :: ks, a, b, ys => by
    rw [castRs]
    have hd : ∀ c : List (Rose Node), c.headD dynT = c.getD 0 dynT := fun c => by cases c <;> rfl
    have ht : ∀ (c : List (Rose Node)) j, c.tail.getD j dynT = c.getD (j + 1) dynT := fun c j => by cases c <;> rfl
    rw [hd, hd]
    constructor
    · intro h
      cases hc : castR lab k (a.getD 0 dynT) (b.getD 0 dynT) with
      | none => rw [hc] at h; cases h
      | some y =>
        rw [hc] at h
        simp only [Option.map_eq_some_iff] at h
        obtain ⟨zs, h1, rfl⟩ := h
        obtain ⟨g1, g2⟩ := El.1 h1
        refine ⟨by simp [g1], fun j hj => ?_⟩
        cases j with
        | zero => exact hc
        | succ j =>
          have := g2 j (by simpa using hj)
          rw [ht, ht] at this
          exact this
    · rintro ⟨h1, h2⟩
      cases ys with
      | nil => simp at h1
      | cons y zs =>
        have h0 := h2 0 (by simp)
        simp only [List.getD_cons_zero, List.getElem_cons_zero] at h0
        rw [h0]
        simp only [Option.map_eq_some_iff]
        refine ⟨zs, El.2 ⟨by simpa using h1, fun j hj => ?_⟩, rfl⟩
        have := h2 (j + 1) (by simpa using hj)
        rw [ht, ht]
        exact this
theorem castRs_seq {lab : Int} {ks : List (Rose VNode)} {a b : List (Rose Node)} : castRs lab ks a b = seqO (fun j => castR lab (ks.getD j dv) (a.getD j dynT) (b.getD j dynT)) ks.length := by
  apply Option.ext
  intro ys
  show castRs lab ks a b = some ys ↔ _ = some ys
  rw [El, seqO_iff]
theorem B4 : ∀ {ks : List (Rose VNode)} {l : List (Rose Node)}, fitsRs ks l = (List.range ks.length).all fun j => fitsR (ks.getD j dv) (l.getD j dynT)
  | [], l => rfl
  | k :: ks, l => by
    have hd : l.headD dynT = l.getD 0 dynT := by cases l <;> rfl
    have ht : ∀ j, l.tail.getD j dynT = l.getD (j + 1) dynT := fun j => by cases l <;> rfl
    rw [fitsRs, B4, List.length_cons, List.range_succ_eq_map, List.all_cons, List.all_map, hd]
    simp only [ht]
    rfl
theorem Bz {n : VNode} {ks : List (Rose VNode)} {t : Rose Node} {l : List (Rose Node)} (h : partsR n ks t = some l) (hk : n.kind = 5 → ks.length = 1) : l.length = ks.length := by
  unfold partsR at h
  cases h0 : (t.root.kind == 0) with
  | true =>
    rw [h0, cond_true] at h
    injection h with h
    rw [← h, List.length_replicate]
  | false =>
    rw [h0, cond_false] at h
    cases h1 : (t.root.kind == 7 && n.kind == 5) with
    | true =>
      rw [h1, cond_true, Option.map_eq_some_iff] at h
      obtain ⟨y, _, rfl⟩ := h
      rw [Bool.and_eq_true, beq_iff_eq, beq_iff_eq] at h1
      rw [hk h1.2]
      rfl
    | false =>
      rw [h1, cond_false] at h
      cases h2 : (t.root.kind == 6 && (n.kind == 4 && t.root.n == (ks.length : Int))) with
      | true => rw [h2, cond_true] at h; exact T5 h
      | false => rw [h2, cond_false] at h; cases h
theorem A5 {t y : Rose Node} {s : List UInt8} (h : fieldR t s = some y) : ∃ j, ∃ hj : j < t.kids.length, y = clrX t.kids[j] ∧ t.kids[j].root.name = s := by
  unfold fieldR at h
  rw [Option.map_eq_some_iff] at h
  obtain ⟨j, h1, h2⟩ := h
  rw [List.findIdx?_eq_some_iff_getElem] at h1
  obtain ⟨g1, g2, _⟩ := h1
  refine ⟨j, g1, ?_, by simpa using g2⟩
  rw [← h2]
  simp [g1]
theorem partsR_in {P : Rose Node → Prop} {n : VNode} {ks : List (Rose VNode)} {t : Rose Node} {l : List (Rose Node)} (h : partsR n ks t = some l) (h0 : P dynT) (hP : ∀ j (hj : j < t.kids.length), P (clrX t.kids[j])) : ∀ y ∈ l, P y := by
  have hf : ∀ {s y}, fieldR t s = some y → P y := fun {s y} h => by
    obtain ⟨j, hj, rfl, _⟩ := A5 h
    exact hP j hj
  have hfs : ∀ {ks l}, fieldsR t ks = some l → ∀ y ∈ l, P y := by
    intro ks
    induction ks with
    | nil =>
      intro l h
      rw [fieldsR] at h
      injection h with h
      subst h
      intro y hy
      cases hy
    | cons k ks ih =>
      intro l h
      rw [fieldsR] at h
      cases hk : fieldR t k.root.label with
      | none => rw [hk] at h; cases h
      | some z =>
        rw [hk] at h
        simp only [Option.map_eq_some_iff] at h
        obtain ⟨l', h1, rfl⟩ := h
        intro y hy
        rcases List.mem_cons.1 hy with rfl | hy
        · exact hf hk
        · exact ih h1 y hy
  unfold partsR at h
  cases g0 : (t.root.kind == 0) with
  | true =>
    rw [g0, cond_true] at h
    injection h with h
    rw [← h]
    intro y hy
    rw [List.eq_of_mem_replicate hy]
    exact h0
  | false =>
    rw [g0, cond_false] at h
    cases h1 : (t.root.kind == 7 && n.kind == 5) with
    | true =>
      rw [h1, cond_true, Option.map_eq_some_iff] at h
      obtain ⟨y, h2, rfl⟩ := h
      intro z hz
      rw [List.mem_singleton] at hz
      rw [hz]
      exact hf h2
    | false =>
      rw [h1, cond_false] at h
      cases h2 : (t.root.kind == 6 && (n.kind == 4 && t.root.n == (ks.length : Int))) with
      | true => rw [h2, cond_true] at h; exact hfs h
      | false => rw [h2, cond_false] at h; cases h
def TyT (y : Rose Node) : Prop := wf ar y ∧ (nds y).length ≤ 1000000
theorem tyT_dyn : TyT dynT := ⟨⟨rfl, trivial⟩, by rw [E3]; decide⟩
theorem clrX_nlen (x : Rose Node) : (nds (clrX x)).length = (nds x).length := by rw [L9]; cases nds x <;> rfl
theorem ndsN_get {ks : List (Rose Node)} {i : Nat} (h : i < ks.length) : (nds ks[i]).length ≤ (ndss ks).length := by
  induction ks generalizing i with
  | nil => simp at h
  | cons x xs ih =>
    simp only [ndss, List.length_append]
    cases i with
    | zero => simp
    | succ i => have := ih (i := i) (by simpa using h); simp only [List.getElem_cons_succ]; omega
theorem tyT_kid {t : Rose Node} (h : TyT t) {j : Nat} (hj : j < t.kids.length) : TyT (clrX t.kids[j]) := by
  obtain ⟨h1, h2⟩ := h
  rw [Rp] at h1
  refine ⟨Oc (So h1.2 _ (List.getElem_mem hj)), ?_⟩
  rw [clrX_nlen]
  have := ndsN_get hj
  rw [Gu, List.length_cons] at h2
  omega
theorem L4 {n : VNode} {ks : List (Rose VNode)} {t : Rose Node} {l : List (Rose Node)} (ht : TyT t) (h : partsR n ks t = some l) : ∀ y ∈ l, TyT y :=
  partsR_in h tyT_dyn fun _ hj => tyT_kid ht hj
end Go.Am.Ty
set_option linter.unusedSimpArgs false
set_option linter.unusedVariables false
set_option maxHeartbeats 2000000
namespace Go.Am.Ty
open Go.Proofs Go.Rose Go.Rose.Rose
open Enc (enc dec)
def OneN (t : List Node) (y : Rose Node) : Prop := t = nds y ∧ TyT y
theorem OneN.at {t : List Node} {y : Rose Node} (h : OneN t y) : At ar t 0 y := by rw [h.1]; exact H1 h.2.1
theorem OneN.tree {t : List Node} {y : Rose Node} (h : OneN t y) : treeAt ar t 0 = y := Kx h.at
theorem L8 {y : Rose Node} (h : TyT y) : OneN (nds y) y := ⟨rfl, h⟩
noncomputable def con_FitsV (n : Nat) : Con := con2 (fun (v : Sl VNode) (t : Sl Node) => v.l.length ≤ 1000000 ∧ (∃ x, OneV v.l x) ∧ (∀ m ∈ v.l, Short2 m) ∧ (∃ y, OneN t.l y) ∧ v.l.length < n) (fun v t => fitsR (treeAt arV v.l 0) (treeAt ar t.l 0))
theorem con_FitsV_zero : ∀ c, ¬ (con_FitsV 0).pre c := by
  intro c h
  unfold con_FitsV at h
  obtain ⟨_, _, _, _, _, _, _, h⟩ := Ki h
  omega
theorem Cr {l : List (Rose Node)} {k : Nat} (h : k < l.length) : (slsN l).getD k ⟨[]⟩ = ⟨nds l[k]⟩ := by
  unfold slsN
  simp [h]
theorem T0 {x : Rose VNode} (hw : wf arV x) {i : Nat} (h : i < x.kids.length) : OneV (nds x.kids[i]) x.kids[i] := by
  rw [Rp] at hw
  exact ⟨rfl, So hw.2 _ (List.getElem_mem h)⟩
theorem kid_memV {x : Rose VNode} {i : Nat} (h : i < x.kids.length) : ∀ m ∈ nds x.kids[i], m ∈ nds x := by
  intro m hm
  rw [Gu]
  refine List.mem_cons_of_mem _ ?_
  generalize x.kids = ks at h hm ⊢
  induction ks generalizing i with
  | nil => simp at h
  | cons y ys ih =>
    rw [ndss, List.mem_append]
    cases i with
    | zero => exact .inl hm
    | succ i => exact .inr (ih (by simpa using h) (by simpa using hm))
theorem Sb {x : Rose VNode} {i : Nat} (h : i < x.kids.length) : (nds x.kids[i]).length < (nds x).length := by
  rw [Gu x, List.length_cons]
  have := T1 h
  omega
theorem Tw {p : Nat → Bool} {k : Nat} : (List.range (k + 1)).all p = ((List.range k).all p && p k) := by
  rw [List.range_succ, List.all_append]
  simp
theorem kid1 {x : Rose VNode} (hw : wf arV x) (h : x.root.kind = 5) : x.kids.length = 1 := by
  rw [Rp] at hw
  rw [hw.1]
  unfold arV
  rw [if_neg (by omega), if_pos (.inl h)]
noncomputable def ctx_FitsV (n : Nat) : Ctx := ⟨tab, lkC [(59, con_SameT), (62, con_dynamicV), (63, con_isBaseV), (64, con_partsV), (65, con_kidsV), (34, (con_FitsV n))], 60, lkB [], [], false⟩
theorem Gb (n : Nat) : (ctx_FitsV n).τ = tab := rfl
theorem Ng (n : Nat) : (ctx_FitsV n).Γ = lkC [(59, con_SameT), (62, con_dynamicV), (63, con_isBaseV), (64, con_partsV), (65, con_kidsV), (34, (con_FitsV n))] := rfl
theorem G4 (n : Nat) : (ctx_FitsV n).dp = 60 := rfl
theorem Nh (n : Nat) : (ctx_FitsV n).Δ = lkB [] := rfl
theorem N1 (n : Nat) : (ctx_FitsV n).wr = false := rfl
set_option maxRecDepth 100000 in
theorem step_FitsV (n : Nat) (ih : Good Try.prog (34, con_FitsV n)) : Good Try.prog (34, (con_FitsV (n + 1))) := by
  refine ⟨U2 Try.func34 (by kernel_rfl) rfl, ?_⟩
  have K : CtxOk Try.prog (ctx_FitsV n) := U5 Kh Ka (by
    intro p hp
    simp only [List.mem_cons, List.not_mem_nil, or_false] at hp
    rcases hp with rfl | rfl | rfl | rfl | rfl | rfl
    · exact B3
    · exact Df
    · exact Fi
    · exact Av
    · exact S2
    · exact ih) (by simp)
  obtain ⟨c, hc⟩ : ∃ c, Try.f34.body = some c := ⟨_, rfl⟩
  refine U6 K Try.func34 hc [.tmp 4] rfl 99 rfl (fun cvs hpre => ?_)
  change (con_FitsV (n + 1)).pre cvs at hpre
  unfold con_FitsV at hpre
  obtain ⟨⟨v⟩, ⟨t⟩, rfl, hv, ⟨x, hx⟩, hS, ⟨y, hy⟩, hn⟩ := Ki hpre
  simp only at hv hx hS hy hn
  have hx1 := hx.tree
  have hy1 := hy.tree
  have hxl := hx.at.lt
  have hyl := hy.at.lt
  have hya := hy.at
  have htl : t.length ≤ 1000000 := by rw [hy.1]; exact hy.2.2
  have ev := U8 v0 hxl
  have et := U8 n0 hyl
  rw [hx.at.root v0] at ev
  rw [hya.root n0] at et
  have hSx : Short2 x.root := by
    have := hS _ (Mj (d := v0) hxl)
    rw [hx.at.root v0] at this
    exact this
  obtain ⟨hs1, hs2⟩ := hSx
  obtain ⟨R, hR⟩ : ∃ R, fitsR x y = R := ⟨_, rfl⟩
  have hR2 := hR
  rw [show x = mk x.root x.kids by cases x; rfl, fitsR] at hR2
  rw [← hy.1] at hR2
  have hsub := @T0 x hx.2
  have hmem := @kid_memV x
  have hlen := @Sb x
  have hk1 := kid1 hx.2
  rw [← hx.1] at hmem hlen
  obtain ⟨ks, hks⟩ : ∃ ks, x.kids = ks := ⟨_, rfl⟩
  rw [hks] at hR2
  simp only [hks] at hsub hmem hlen hk1
  have hsl : (sls ks).length = ks.length := Nb
  obtain ⟨m, hm⟩ : ∃ m, x.root = m := ⟨_, rfl⟩
  rw [hm] at ev hR2 hs1 hs2 hk1
  obtain ⟨p, hp⟩ : ∃ p, y.root = p := ⟨_, rfl⟩
  rw [hp] at et hR2
  have hdl : dynL.length ≤ 9223372036854775807 := by decide
  have htl2 : t.length ≤ 9223372036854775807 := by omega
  obtain ⟨dl, hDl⟩ : ∃ dl, dl = dynL := ⟨_, rfl⟩
  rw [← hDl] at hR2 hdl
  have hDl2 : arrow3 [n0] [n0] = dl := by rw [hDl]; rfl
  clear hpre hDl
  simp only [Try.f34, Option.some.injEq] at hc
  subst hc
  refine Kq 6 (of_decide_eq_true (by kernel_rfl)) ?_
  cases k6 : (m.kind == 6) with
  | true =>
    rw [k6, cond_true] at hR2
    (sym =>
     simp [hx1,hy1,ev,et,hR,k6,Uv,Uy,Ux,Uw,szV,Ut,Ur,Uu,Uq,szN,Us,Gb,G4,con_FitsV.eq_def,Zb,Zc,Zd,Ze,Zf,Zg,Zo,Zp,Zq,Zs,Zt,Zv,Zx,Zy,Qb,Qd,Qn,Qo,Qp,Qq,Qs,Q1,Q2,Q4,Q8,Jk,Jw,J3,J4,J5,J6,J8,J9,Xb,Xc,Xf,Xn,Xo,Xv,X3,X5,X6,X7,Wa,Wb,We,Wg,Wh,Wi,Ws,Wt,Wu,Wv,Wx,Wz,W5,W6,W7,W8,W9,Ya,Yd,Yh,Yl,Ys,Yv,Yx,Yz,Y0,Y6,Y7,Va,Vb,Vc,Vd,Ve,Vf,Vi,Vr,Vs,Vt,V3,V4,Uj,Uk,Ul,Um,Uo,U4,U7,Kb,Kc,Ke]
     tactic =>
      try simp only [U0] at *
      try simp only [nc2] at *
      try simp (maxSteps := 4000000) only [hx1,hy1,ev,et,hR,k6,Uv,Uy,Ux,Uw,szV,Ut,Ur,Uu,Uq,szN,Us,U3]
      repeat' (first | with_reducible assumption | with_reducible refine And.intro ?_ ?_ | intro _ | omega | (rw [Uz]; omega))
      all_goals first
        | omega
        | (rw [← hR2]; clear hR2 hR; simp_all; done)
        | skip)
  | false =>
  rw [k6, cond_false] at hR2
  cases k7 : (m.kind == 7) with
  | true =>
    rw [k7, cond_true] at hR2
    (sym =>
     simp [hx1,hy1,ev,et,hR,k6,k7,hDl2,Uv,Uy,Ux,Uw,szV,Ut,Ur,Uu,Uq,szN,Us,Gb,Ng,G4,Nh,N1,con_FitsV.eq_def,con_SameT.eq_def,con_dynamicV.eq_def,con_isBaseV.eq_def,con_kidsV.eq_def,con_partsV.eq_def,Zb,Zc,Zd,Ze,Zf,Zg,Zh,Zi,Zj,Zk,Zl,Zm,Zo,Zp,Zq,Zs,Zt,Zv,Zx,Zy,Z9,Qb,Qd,Qe,Qf,Qn,Qo,Qp,Qq,Qr,Qs,Q1,Q2,Q4,Q5,Q6,Q8,Jf,Jj,Jk,Jl,Jw,J3,J4,J5,J6,J8,J9,Xb,Xc,Xf,Xn,Xo,Xt,Xv,Xx,X3,X4,X5,X6,X7,Wa,Wb,Wc,Wd,We,Wf,Wg,Wh,Wi,Wo,Wp,Wq,Wr,Ws,Wt,Wu,Wv,Ww,Wx,Wy,Wz,W3,W4,W5,W6,W7,W8,W9,Ya,Yd,Yh,Yl,Ys,Yu,Yv,Yx,Yz,Y0,Y6,Y7,Va,Vb,Vc,Vd,Ve,Vf,Vi,Vj,Vk,Vn,Vr,Vs,Vt,V3,V4,Uj,Uk,Ul,Um,Un,Uo,Up,U4,U7,Kb,Kc,Ke]
     tactic =>
      try simp only [U0] at *
      try simp only [nc2] at *
      try simp (maxSteps := 4000000) only [hx1,hy1,ev,et,hR,k6,k7,hDl2,Uv,Uy,Ux,Uw,szV,Ut,Ur,Uu,Uq,szN,Us,U3]
      repeat' (first | with_reducible assumption | with_reducible refine And.intro ?_ ?_ | intro _ | omega | (rw [Uz]; omega))
      all_goals first
        | (with_reducible refine Kf ?_; kernel_rfl)
        | omega
        | (rw [← hR2]; clear hR2 hR; simp_all; done)
        | skip)
  | false =>
  rw [k7, cond_false] at hR2
  cases k45 : (m.kind == 4 || m.kind == 5) with
  | false =>
    rw [k45, cond_false] at hR2
    rw [Bool.or_eq_false_iff] at k45
    obtain ⟨k4, k5⟩ := k45
    have n4 : (m.kind != 4) = true := by rw [bne, k4]; rfl
    have n5 : (m.kind != 5) = true := by rw [bne, k5]; rfl
    have zz1 := hx.at.root v0
    (sym =>
     simp [hx1,hy1,ev,et,hR,k6,k7,n4,n5,zz1,hm,Uv,Uy,Ux,Uw,szV,Ut,Ur,Uu,Uq,szN,Us,Gb,Ng,G4,Nh,con_FitsV.eq_def,con_SameT.eq_def,con_dynamicV.eq_def,con_isBaseV.eq_def,con_kidsV.eq_def,con_partsV.eq_def,Zb,Zc,Zd,Ze,Zf,Zg,Zo,Zp,Zq,Zs,Zt,Zv,Zx,Zy,Z9,Qb,Qd,Qe,Qf,Qn,Qo,Qp,Qq,Qs,Q1,Q2,Q4,Q8,Jf,Jj,Jk,Jl,Jw,J3,J4,J5,J6,J8,J9,Xb,Xc,Xf,Xn,Xo,Xt,Xv,Xx,X3,X5,X6,X7,Wa,Wb,We,Wg,Wh,Wi,Ws,Wt,Wu,Wv,Ww,Wx,Wy,Wz,W5,W6,W7,W8,W9,Ya,Yd,Yh,Yl,Ys,Yv,Yx,Yz,Y0,Y6,Y7,Va,Vb,Vc,Vd,Ve,Vf,Vg,Vi,Vl,Vn,Vr,Vs,Vt,V3,V4,Uj,Uk,Ul,Um,Uo,U4,U7,Kb,Kc,Ke]
     tactic =>
      try simp only [U0] at *
      try simp only [nc2] at *
      try simp (maxSteps := 4000000) only [hx1,hy1,ev,et,hR,k6,k7,n4,n5,zz1,hm,Uv,Uy,Ux,Uw,szV,Ut,Ur,Uu,Uq,szN,Us,U3]
      repeat' (first | with_reducible assumption | with_reducible refine And.intro ?_ ?_ | intro _ | omega | (rw [Uz]; omega))
      all_goals first
        | (with_reducible refine Kf ?_; kernel_rfl)
        | omega
        | (rw [← hR2]; clear hR2 hR; simp_all; done)
        | skip)
  | true =>
  rw [k45, cond_true] at hR2
  have h45 : m.kind = 4 ∨ m.kind = 5 := by simpa using k45
  have hkk : ks.length ≤ v.length := by rw [hx.1, Gu, List.length_cons, hks]; have := P5 ks; omega
  have hex : ∃ x, OneV v x ∧ (x.root.kind = 4 ∨ x.root.kind = 5) := ⟨x, hx, by rw [hm]; exact h45⟩
  cases hpr : partsR m ks y with
  | none =>
    rw [hpr] at hR2
    simp only at hR2
    have hpx : partsX x y = (cond (p.kind == 7 && m.kind == 5) ⟨[⟨[]⟩]⟩ ⟨[]⟩, false) := by unfold partsX; rw [hks, hm, hpr, hp]
    obtain ⟨gl, hgl⟩ : ∃ gl : Sl (Sl Node), cond (p.kind == 7 && m.kind == 5) ⟨[⟨[]⟩]⟩ ⟨[]⟩ = gl := ⟨_, rfl⟩
    rw [hgl] at hpx
    rcases h45 with h | h
    · have n4 : (m.kind != 4) = false := by rw [h]; rfl
      (sym =>
       simp [con1w.eq_def,hx1,hy1,hks,hsl,ev,et,k6,k7,n4,hpx,Uv,Uy,Ux,Uw,szV,Ut,Ur,Uu,Uq,szN,Us,Gb,Ng,G4,Nh,con_FitsV.eq_def,con_SameT.eq_def,con_dynamicV.eq_def,con_isBaseV.eq_def,con_kidsV.eq_def,con_partsV.eq_def,Zb,Zc,Zd,Ze,Zf,Zg,Zo,Zp,Zq,Zs,Zt,Zv,Zx,Zy,Z6,Z8,Z9,Qb,Qd,Qe,Qf,Qg,Qq,Qs,Q1,Q2,Q4,Q8,Q9,Ja,Jf,Jh,Ji,Jj,Jl,Jw,J3,J4,J5,J6,J8,J9,Xb,Xc,Xf,Xn,Xo,Xt,Xv,Xx,X2,X3,X5,X6,X7,X8,Wb,We,Wg,Wh,Wi,Ws,Wt,Wu,Wv,Ww,Wx,Wy,Wz,W5,W6,W7,W8,W9,Ya,Yd,Yh,Yl,Ys,Yv,Yx,Yz,Y0,Y5,Y6,Y7,Va,Vb,Vc,Vd,Ve,Vf,Vi,Vn,Vr,Vs,Vt,V3,V4,Uk,Ul,Um,Un,Uo,U4,U7,Kb,Kc,Ke,Gl]
       tactic =>
        try simp only [U0] at *
        try simp only [nc2] at *
        try simp (maxSteps := 4000000) only [con1w.eq_def,hx1,hy1,hks,hsl,ev,et,k6,k7,n4,hpx,Uv,Uy,Ux,Uw,szV,Ut,Ur,Uu,Uq,szN,Us,U3]
        repeat' (first | with_reducible assumption | with_reducible refine And.intro ?_ ?_ | intro _ | omega | (rw [Uz]; omega))
        · exact ⟨y, hya⟩
        · exact ⟨x, hx⟩
        refine Kd [8, 9, 84, 85, 86, 87, 88, 89, 90, 91, 92, 93, 94, 95, 96, 97] (fun k : Nat => [(7, .d (.bool false)), (83, .d (.int .i64 k))]) (fun k : Nat => []) (fun k : Nat => k ≤ ks.length) (fun k : Nat => ks.length - k) 0 ?_ ?_ ?_
        · simp
        · ((try simp only [U1, killAll, setSlots, updAll, upd, U9, setCs, putC, Nat.reduceDiv, Nat.reduceMod, Nat.reduceMul, Nat.reduceAdd, Nat.reduceEqDiff, List.set_cons_zero, List.set_cons_succ, if_true, if_false, reduceIte]); (first | refine Wk.of_fl ?_ | skip); simp only [Wk, wkK, wkCs, wkT, wk1, AV.kept, keptAll, wkO, lk, wkObj, and_true, true_and, and_self, Nat.reduceEqDiff, Nat.reduceLeDiff, if_true, if_false, reduceIte, reduceCtorEq, Option.isSome, false_implies]; try simp [Wk, wkK, wkT, wk1, AV.kept, keptAll, wkO, lk, wkObj])
        rintro k hk
        rcases Kg k ks.length with ⟨hlt, hlb⟩ | ⟨hlt, hlb⟩
        · have q1 := U8 (⟨[]⟩ : Sl VNode) (show k < (sls ks).length by omega)
          (sym =>
           simp [con1w.eq_def,hlb,q1,Uv,Uy,Ux,Uw,szV,Ut,Ur,Uu,Uq,szN,Us,Gb,N1,Zb,Zc,Zd,Ze,Zf,Zg,Zo,Zp,Zq,Zt,Zv,Zy,Qb,Qd,Qq,Qs,Q1,Q2,Q4,Jh,Jy,Jz,J0,J5,J6,J7,J8,J9,Xa,Xb,Xc,X2,X3,X5,X6,X7,Wb,We,Wg,Wh,Wi,Ws,Wt,Wu,Wv,W7,W8,W9,Ya,Yc,Yd,Yh,Yl,Y2,Y6,Y7,Y8,Y9,Vq,Vs,V3,V4,Uj,Uk,Ul,Um,Un,Uo,U4,Kc,Gl]
           tactic =>
            try simp only [U0] at *
            try simp only [nc2] at *
            try simp (maxSteps := 4000000) only [con1w.eq_def,hlb,q1,Uv,Uy,Ux,Uw,szV,Ut,Ur,Uu,Uq,szN,Us,U3]
            repeat' (first | with_reducible assumption | with_reducible refine And.intro ?_ ?_ | intro _ | omega | (rw [Uz]; omega))
            all_goals first
              | (with_reducible refine Kf ?_; kernel_rfl)
              | omega
              | exact ⟨k + 1, by ((try simp only [U1, killAll, setSlots, updAll, upd, U9, setCs, putC, Nat.reduceDiv, Nat.reduceMod, Nat.reduceMul, Nat.reduceAdd, Nat.reduceEqDiff, List.set_cons_zero, List.set_cons_succ, if_true, if_false, reduceIte]); (first | refine Wk.of_fl ?_ | skip); simp only [Wk, wkK, wkCs, wkT, wk1, AV.kept, keptAll, wkO, lk, wkObj, and_true, true_and, and_self, Nat.reduceEqDiff, Nat.reduceLeDiff, if_true, if_false, reduceIte, reduceCtorEq, Option.isSome, false_implies]; try simp [Wk, wkK, wkT, wk1, AV.kept, keptAll, wkO, lk, wkObj]), by omega, by omega⟩)
        · subst hR2
          (sym =>
           simp [con1w.eq_def,hlb,hx1,hy1,hR,Uv,Uy,Ux,Uw,szV,Ut,Ur,Uu,Uq,szN,Us,Gb,G4,Zb,Zc,Ze,Zf,Zg,Qb,Qd,Qn,Qo,Qp,Qq,Qs,Q1,Q2,Q4,Q8,Jk,Jy,Jz,J0,J5,J6,J7,J8,J9,Xa,Xb,Xc,Xf,X3,X5,X6,X9,Wa,Wb,We,Wg,Wh,Ws,Wt,Wu,Wv,W9,Ya,Yc,Yd,Yh,Y6,Y7,Y8,Y9,Vs,Uk,Ul,Um,U4]))
    · have n4 : (m.kind != 4) = true := by rw [h]; rfl
      have n5 : (m.kind != 5) = false := by rw [h]; rfl
      (sym =>
       simp [con1w.eq_def,hx1,hy1,hks,hsl,ev,et,k6,k7,n4,n5,hpx,Uv,Uy,Ux,Uw,szV,Ut,Ur,Uu,Uq,szN,Us,Gb,Ng,G4,Nh,con_FitsV.eq_def,con_SameT.eq_def,con_dynamicV.eq_def,con_isBaseV.eq_def,con_kidsV.eq_def,con_partsV.eq_def,Zb,Zc,Zd,Ze,Zf,Zg,Zo,Zp,Zq,Zs,Zt,Zv,Zx,Zy,Z6,Z8,Z9,Qb,Qd,Qe,Qf,Qg,Qq,Qs,Q1,Q2,Q4,Q8,Q9,Ja,Jf,Jh,Ji,Jj,Jl,Jw,J3,J4,J5,J6,J8,J9,Xb,Xc,Xf,Xn,Xo,Xt,Xv,Xx,X2,X3,X5,X6,X7,X8,Wb,We,Wg,Wh,Wi,Ws,Wt,Wu,Wv,Ww,Wx,Wy,Wz,W5,W6,W7,W8,W9,Ya,Yd,Yh,Yl,Ys,Yv,Yx,Yz,Y0,Y5,Y6,Y7,Va,Vb,Vc,Vd,Ve,Vf,Vi,Vn,Vr,Vs,Vt,V3,V4,Uj,Uk,Ul,Um,Un,Uo,U4,U7,Kb,Kc,Ke,Gl]
       tactic =>
        try simp only [U0] at *
        try simp only [nc2] at *
        try simp (maxSteps := 4000000) only [con1w.eq_def,hx1,hy1,hks,hsl,ev,et,k6,k7,n4,n5,hpx,Uv,Uy,Ux,Uw,szV,Ut,Ur,Uu,Uq,szN,Us,U3]
        repeat' (first | with_reducible assumption | with_reducible refine And.intro ?_ ?_ | intro _ | omega | (rw [Uz]; omega))
        · exact ⟨y, hya⟩
        · exact ⟨x, hx⟩
        refine Kd [8, 9, 84, 85, 86, 87, 88, 89, 90, 91, 92, 93, 94, 95, 96, 97] (fun k : Nat => [(7, .d (.bool false)), (83, .d (.int .i64 k))]) (fun k : Nat => []) (fun k : Nat => k ≤ ks.length) (fun k : Nat => ks.length - k) 0 ?_ ?_ ?_
        · simp
        · ((try simp only [U1, killAll, setSlots, updAll, upd, U9, setCs, putC, Nat.reduceDiv, Nat.reduceMod, Nat.reduceMul, Nat.reduceAdd, Nat.reduceEqDiff, List.set_cons_zero, List.set_cons_succ, if_true, if_false, reduceIte]); (first | refine Wk.of_fl ?_ | skip); simp only [Wk, wkK, wkCs, wkT, wk1, AV.kept, keptAll, wkO, lk, wkObj, and_true, true_and, and_self, Nat.reduceEqDiff, Nat.reduceLeDiff, if_true, if_false, reduceIte, reduceCtorEq, Option.isSome, false_implies]; try simp [Wk, wkK, wkT, wk1, AV.kept, keptAll, wkO, lk, wkObj])
        rintro k hk
        rcases Kg k ks.length with ⟨hlt, hlb⟩ | ⟨hlt, hlb⟩
        · have q1 := U8 (⟨[]⟩ : Sl VNode) (show k < (sls ks).length by omega)
          (sym =>
           simp [con1w.eq_def,hlb,q1,Uv,Uy,Ux,Uw,szV,Ut,Ur,Uu,Uq,szN,Us,Gb,N1,Zb,Zc,Zd,Ze,Zf,Zg,Zo,Zp,Zq,Zt,Zv,Zy,Qb,Qd,Qq,Qs,Q1,Q2,Q4,Jh,Jy,Jz,J0,J5,J6,J7,J8,J9,Xa,Xb,Xc,X2,X3,X5,X6,X7,Wb,We,Wg,Wh,Wi,Ws,Wt,Wu,Wv,W7,W8,W9,Ya,Yc,Yd,Yh,Yl,Y2,Y6,Y7,Y8,Y9,Vq,Vs,V3,V4,Uj,Uk,Ul,Um,Un,Uo,U4,Kc,Gl]
           tactic =>
            try simp only [U0] at *
            try simp only [nc2] at *
            try simp (maxSteps := 4000000) only [con1w.eq_def,hlb,q1,Uv,Uy,Ux,Uw,szV,Ut,Ur,Uu,Uq,szN,Us,U3]
            repeat' (first | with_reducible assumption | with_reducible refine And.intro ?_ ?_ | intro _ | omega | (rw [Uz]; omega))
            all_goals first
              | (with_reducible refine Kf ?_; kernel_rfl)
              | omega
              | exact ⟨k + 1, by ((try simp only [U1, killAll, setSlots, updAll, upd, U9, setCs, putC, Nat.reduceDiv, Nat.reduceMod, Nat.reduceMul, Nat.reduceAdd, Nat.reduceEqDiff, List.set_cons_zero, List.set_cons_succ, if_true, if_false, reduceIte]); (first | refine Wk.of_fl ?_ | skip); simp only [Wk, wkK, wkCs, wkT, wk1, AV.kept, keptAll, wkO, lk, wkObj, and_true, true_and, and_self, Nat.reduceEqDiff, Nat.reduceLeDiff, if_true, if_false, reduceIte, reduceCtorEq, Option.isSome, false_implies]; try simp [Wk, wkK, wkT, wk1, AV.kept, keptAll, wkO, lk, wkObj]), by omega, by omega⟩)
        · subst hR2
          (sym =>
           simp [con1w.eq_def,hlb,hx1,hy1,hR,Uv,Uy,Ux,Uw,szV,Ut,Ur,Uu,Uq,szN,Us,Gb,G4,Zb,Zc,Ze,Zf,Zg,Qb,Qd,Qn,Qo,Qp,Qq,Qs,Q1,Q2,Q4,Q8,Jk,Jy,Jz,J0,J5,J6,J7,J8,J9,Xa,Xb,Xc,Xf,X3,X5,X6,X9,Wa,Wb,We,Wg,Wh,Ws,Wt,Wu,Wv,W9,Ya,Yc,Yd,Yh,Y6,Y7,Y8,Y9,Vs,Uk,Ul,Um,U4]))
  | some l =>
    rw [hpr] at hR2
    simp only at hR2
    rw [B4] at hR2
    have hll : l.length = ks.length := Bz hpr hk1
    have hpx : partsX x y = (⟨slsN l⟩, true) := by unfold partsX; rw [hks, hm, hpr]
    have hty := L4 hy.2 hpr
    have hsll : (slsN l).length = ks.length := by rw [M0, hll]
    obtain ⟨P, hP⟩ : ∃ P : Nat → Bool, P = fun j => fitsR (ks.getD j dv) (l.getD j dynT) := ⟨_, rfl⟩
    rw [← hP] at hR2
    rcases h45 with h | h
    · have n4 : (m.kind != 4) = false := by rw [h]; rfl
      (sym =>
       simp [con1w.eq_def,hx1,hy1,hks,hsl,ev,et,k6,k7,n4,hpx,Uv,Uy,Ux,Uw,szV,Ut,Ur,Uu,Uq,szN,Us,Gb,Ng,G4,Nh,con_FitsV.eq_def,con_SameT.eq_def,con_dynamicV.eq_def,con_isBaseV.eq_def,con_kidsV.eq_def,con_partsV.eq_def,Zb,Zc,Zd,Ze,Zf,Zg,Zo,Zp,Zq,Zs,Zt,Zv,Zx,Zy,Z6,Z8,Z9,Qb,Qd,Qe,Qf,Qg,Qq,Qs,Q1,Q2,Q4,Q8,Q9,Ja,Jf,Jh,Ji,Jj,Jl,Jw,J3,J4,J5,J6,J8,J9,Xb,Xc,Xf,Xn,Xo,Xt,Xv,Xx,X2,X3,X5,X6,X7,X8,Wb,We,Wg,Wh,Wi,Ws,Wt,Wu,Wv,Ww,Wx,Wy,Wz,W5,W6,W7,W8,W9,Ya,Yd,Yh,Yl,Ys,Yv,Yx,Yz,Y0,Y5,Y6,Y7,Va,Vb,Vc,Vd,Ve,Vf,Vi,Vn,Vr,Vs,Vt,V3,V4,Uk,Ul,Um,Un,Uo,U4,U7,Kb,Kc,Ke,Gl]
       tactic =>
        try simp only [U0] at *
        try simp only [nc2] at *
        try simp (maxSteps := 4000000) only [con1w.eq_def,hx1,hy1,hks,hsl,ev,et,k6,k7,n4,hpx,Uv,Uy,Ux,Uw,szV,Ut,Ur,Uu,Uq,szN,Us,U3]
        repeat' (first | with_reducible assumption | with_reducible refine And.intro ?_ ?_ | intro _ | omega | (rw [Uz]; omega))
        · exact ⟨y, hya⟩
        · exact ⟨x, hx⟩
        refine Kd [8, 9, 84, 85, 86, 87, 88, 89, 90, 91, 92, 93, 94, 95, 96, 97] (fun q : Nat × Bool => [(7, .d (.bool q.2)), (83, .d (.int .i64 q.1))]) (fun q : Nat × Bool => []) (fun q : Nat × Bool => q.1 ≤ ks.length ∧ q.2 = (List.range q.1).all P) (fun q : Nat × Bool => ks.length - q.1) (0, true) ?_ ?_ ?_
        · exact ⟨Nat.zero_le _, rfl⟩
        · ((try simp only [U1, killAll, setSlots, updAll, upd, U9, setCs, putC, Nat.reduceDiv, Nat.reduceMod, Nat.reduceMul, Nat.reduceAdd, Nat.reduceEqDiff, List.set_cons_zero, List.set_cons_succ, if_true, if_false, reduceIte]); (first | refine Wk.of_fl ?_ | skip); simp only [Wk, wkK, wkCs, wkT, wk1, AV.kept, keptAll, wkO, lk, wkObj, and_true, true_and, and_self, Nat.reduceEqDiff, Nat.reduceLeDiff, if_true, if_false, reduceIte, reduceCtorEq, Option.isSome, false_implies]; try simp [Wk, wkK, wkT, wk1, AV.kept, keptAll, wkO, lk, wkObj])
        rintro ⟨k, b⟩ ⟨hk, hb⟩
        simp only at hk hb
        rcases Kg k ks.length with ⟨hlt, hlb⟩ | ⟨hlt, hlb⟩
        · have q1 := U8 (⟨[]⟩ : Sl VNode) (show k < (sls ks).length by omega)
          rw [Bt hlt] at q1
          have q2 := U8 (⟨[]⟩ : Sl Node) (show k < (slsN l).length by omega)
          rw [Cr (show k < l.length by omega)] at q2
          have hPk : P k = fitsR ks[k] (l[k]'(by omega)) := by rw [hP]; simp [hlt, show k < l.length by omega]
          have g1 := hsub hlt
          have g2 := hlen hlt
          have g3 := fun m hm => hS m (hmem hlt m hm)
          have g4 := L8 (hty _ (List.getElem_mem (show k < l.length by omega)))
          have g5 := Tw (p := P) (k := k)
          rw [← hb] at g5
          obtain ⟨z, hz⟩ : ∃ z, ks[k] = z := ⟨_, rfl⟩
          obtain ⟨w, hw⟩ : ∃ w, l[k]'(by omega) = w := ⟨_, rfl⟩
          rw [hz] at q1 g1 g2 g3 hPk
          rw [hw] at q2 g4 hPk
          have tz := g1.tree
          have tw := g4.tree
          cases b with
          | false =>
            rw [Bool.false_and] at g5
            (sym =>
             simp [con1w.eq_def,hlb,q1,q2,hsll,Uv,Uy,Ux,Uw,szV,Ut,Ur,Uu,Uq,szN,Us,Gb,N1,Zb,Zc,Zd,Ze,Zf,Zg,Zo,Zp,Zq,Zt,Zv,Zy,Qb,Qd,Qq,Qs,Q1,Q2,Q4,Jh,Jy,Jz,J0,J5,J6,J7,J8,J9,Xa,Xb,Xc,X2,X3,X5,X6,X7,Wb,We,Wg,Wh,Wi,Ws,Wt,Wu,Wv,W7,W8,W9,Ya,Yc,Yd,Yh,Yl,Y2,Y6,Y7,Y8,Y9,Vq,Vs,V3,V4,Uj,Uk,Ul,Um,Un,Uo,U4,Kc,Gl]
             tactic =>
              try simp only [U0] at *
              try simp only [nc2] at *
              try simp (maxSteps := 4000000) only [con1w.eq_def,hlb,q1,q2,hsll,Uv,Uy,Ux,Uw,szV,Ut,Ur,Uu,Uq,szN,Us,U3]
              repeat' (first | with_reducible assumption | with_reducible refine And.intro ?_ ?_ | intro _ | omega | (rw [Uz]; omega))
              all_goals first
                | (with_reducible refine Kf ?_; kernel_rfl)
                | omega
                | exact ⟨(k + 1, false), by ((try simp only [U1, killAll, setSlots, updAll, upd, U9, setCs, putC, Nat.reduceDiv, Nat.reduceMod, Nat.reduceMul, Nat.reduceAdd, Nat.reduceEqDiff, List.set_cons_zero, List.set_cons_succ, if_true, if_false, reduceIte]); (first | refine Wk.of_fl ?_ | skip); simp only [Wk, wkK, wkCs, wkT, wk1, AV.kept, keptAll, wkO, lk, wkObj, and_true, true_and, and_self, Nat.reduceEqDiff, Nat.reduceLeDiff, if_true, if_false, reduceIte, reduceCtorEq, Option.isSome, false_implies]; try simp [Wk, wkK, wkT, wk1, AV.kept, keptAll, wkO, lk, wkObj]), by simp only; omega, g5.symm, by simp only; omega⟩)
          | true =>
            rw [Bool.true_and] at g5
            (sym =>
             simp [con1w.eq_def,hlb,q1,q2,hsll,tz,tw,Uv,Uy,Ux,Uw,szV,Ut,Ur,Uu,Uq,szN,Us,Gb,Ng,G4,Nh,N1,con_FitsV.eq_def,con_SameT.eq_def,con_dynamicV.eq_def,con_isBaseV.eq_def,con_kidsV.eq_def,con_partsV.eq_def,Zb,Zc,Zd,Ze,Zf,Zg,Zo,Zp,Zq,Zt,Zv,Zy,Z9,Qb,Qd,Qe,Qf,Qq,Qs,Q1,Q2,Q4,Q8,Jf,Jh,Jj,Jl,Jy,Jz,J0,J5,J6,J7,J8,J9,Xa,Xb,Xc,Xf,Xt,Xv,Xx,X2,X3,X5,X6,X7,Wb,We,Wg,Wh,Wi,Ws,Wt,Wu,Wv,Ww,Wy,Wz,W7,W8,W9,Ya,Yc,Yd,Yh,Yl,Yx,Yz,Y0,Y2,Y5,Y6,Y7,Y8,Y9,Vi,Vn,Vq,Vs,Vt,V3,V4,Uj,Ul,Um,Un,Uo,U4,U7,Kc,Gt,Gl]
             tactic =>
              try simp only [U0] at *
              try simp only [nc2] at *
              try simp (maxSteps := 4000000) only [con1w.eq_def,hlb,q1,q2,hsll,tz,tw,Uv,Uy,Ux,Uw,szV,Ut,Ur,Uu,Uq,szN,Us,U3]
              repeat' (first | with_reducible assumption | with_reducible refine And.intro ?_ ?_ | intro _ | omega | (rw [Uz]; omega))
              all_goals first
                | (with_reducible refine Kf ?_; kernel_rfl)
                | omega
                | exact ⟨_, g1⟩
                | exact ⟨_, g4⟩
                | exact g3
                | exact ⟨(k + 1, P k), by rw [hPk]; ((try simp only [U1, killAll, setSlots, updAll, upd, U9, setCs, putC, Nat.reduceDiv, Nat.reduceMod, Nat.reduceMul, Nat.reduceAdd, Nat.reduceEqDiff, List.set_cons_zero, List.set_cons_succ, if_true, if_false, reduceIte]); (first | refine Wk.of_fl ?_ | skip); simp only [Wk, wkK, wkCs, wkT, wk1, AV.kept, keptAll, wkO, lk, wkObj, and_true, true_and, and_self, Nat.reduceEqDiff, Nat.reduceLeDiff, if_true, if_false, reduceIte, reduceCtorEq, Option.isSome, false_implies]; try simp [Wk, wkK, wkT, wk1, AV.kept, keptAll, wkO, lk, wkObj]), by simp only; omega, g5.symm, by simp only; omega⟩
                | exact ⟨(k + 1, P k), by ((try simp only [U1, killAll, setSlots, updAll, upd, U9, setCs, putC, Nat.reduceDiv, Nat.reduceMod, Nat.reduceMul, Nat.reduceAdd, Nat.reduceEqDiff, List.set_cons_zero, List.set_cons_succ, if_true, if_false, reduceIte]); (first | refine Wk.of_fl ?_ | skip); simp only [Wk, wkK, wkCs, wkT, wk1, AV.kept, keptAll, wkO, lk, wkObj, and_true, true_and, and_self, Nat.reduceEqDiff, Nat.reduceLeDiff, if_true, if_false, reduceIte, reduceCtorEq, Option.isSome, false_implies]; try simp [Wk, wkK, wkT, wk1, AV.kept, keptAll, wkO, lk, wkObj]), by simp only; omega, g5.symm, by simp only; omega⟩
                | skip)
        · have hkl : k = ks.length := by omega
          rw [hkl, hR2] at hb
          subst hb
          (sym =>
           simp [con1w.eq_def,hlb,hx1,hy1,hR,Uv,Uy,Ux,Uw,szV,Ut,Ur,Uu,Uq,szN,Us,Gb,G4,Zb,Zc,Ze,Zf,Zg,Qb,Qd,Qn,Qo,Qp,Qq,Qs,Q1,Q2,Q4,Q8,Jk,Jy,Jz,J0,J5,J6,J7,J8,J9,Xa,Xb,Xc,Xf,X3,X5,X6,X9,Wa,Wb,We,Wg,Wh,Ws,Wt,Wu,Wv,W9,Ya,Yc,Yd,Yh,Y6,Y7,Y8,Y9,Vs,Uk,Ul,Um,Un,U4]))
    · have n4 : (m.kind != 4) = true := by rw [h]; rfl
      have n5 : (m.kind != 5) = false := by rw [h]; rfl
      (sym =>
       simp [con1w.eq_def,hx1,hy1,hks,hsl,ev,et,k6,k7,n4,n5,hpx,Uv,Uy,Ux,Uw,szV,Ut,Ur,Uu,Uq,szN,Us,Gb,Ng,G4,Nh,con_FitsV.eq_def,con_SameT.eq_def,con_dynamicV.eq_def,con_isBaseV.eq_def,con_kidsV.eq_def,con_partsV.eq_def,Zb,Zc,Zd,Ze,Zf,Zg,Zo,Zp,Zq,Zs,Zt,Zv,Zx,Zy,Z6,Z8,Z9,Qb,Qd,Qe,Qf,Qg,Qq,Qs,Q1,Q2,Q4,Q8,Q9,Ja,Jf,Jh,Ji,Jj,Jl,Jw,J3,J4,J5,J6,J8,J9,Xb,Xc,Xf,Xn,Xo,Xt,Xv,Xx,X2,X3,X5,X6,X7,X8,Wb,We,Wg,Wh,Wi,Ws,Wt,Wu,Wv,Ww,Wx,Wy,Wz,W5,W6,W7,W8,W9,Ya,Yd,Yh,Yl,Ys,Yv,Yx,Yz,Y0,Y5,Y6,Y7,Va,Vb,Vc,Vd,Ve,Vf,Vi,Vn,Vr,Vs,Vt,V3,V4,Uj,Uk,Ul,Um,Un,Uo,U4,U7,Kb,Kc,Ke,Gl]
       tactic =>
        try simp only [U0] at *
        try simp only [nc2] at *
        try simp (maxSteps := 4000000) only [con1w.eq_def,hx1,hy1,hks,hsl,ev,et,k6,k7,n4,n5,hpx,Uv,Uy,Ux,Uw,szV,Ut,Ur,Uu,Uq,szN,Us,U3]
        repeat' (first | with_reducible assumption | with_reducible refine And.intro ?_ ?_ | intro _ | omega | (rw [Uz]; omega))
        · exact ⟨y, hya⟩
        · exact ⟨x, hx⟩
        refine Kd [8, 9, 84, 85, 86, 87, 88, 89, 90, 91, 92, 93, 94, 95, 96, 97] (fun q : Nat × Bool => [(7, .d (.bool q.2)), (83, .d (.int .i64 q.1))]) (fun q : Nat × Bool => []) (fun q : Nat × Bool => q.1 ≤ ks.length ∧ q.2 = (List.range q.1).all P) (fun q : Nat × Bool => ks.length - q.1) (0, true) ?_ ?_ ?_
        · exact ⟨Nat.zero_le _, rfl⟩
        · ((try simp only [U1, killAll, setSlots, updAll, upd, U9, setCs, putC, Nat.reduceDiv, Nat.reduceMod, Nat.reduceMul, Nat.reduceAdd, Nat.reduceEqDiff, List.set_cons_zero, List.set_cons_succ, if_true, if_false, reduceIte]); (first | refine Wk.of_fl ?_ | skip); simp only [Wk, wkK, wkCs, wkT, wk1, AV.kept, keptAll, wkO, lk, wkObj, and_true, true_and, and_self, Nat.reduceEqDiff, Nat.reduceLeDiff, if_true, if_false, reduceIte, reduceCtorEq, Option.isSome, false_implies]; try simp [Wk, wkK, wkT, wk1, AV.kept, keptAll, wkO, lk, wkObj])
        rintro ⟨k, b⟩ ⟨hk, hb⟩
        simp only at hk hb
        rcases Kg k ks.length with ⟨hlt, hlb⟩ | ⟨hlt, hlb⟩
        · have q1 := U8 (⟨[]⟩ : Sl VNode) (show k < (sls ks).length by omega)
          rw [Bt hlt] at q1
          have q2 := U8 (⟨[]⟩ : Sl Node) (show k < (slsN l).length by omega)
          rw [Cr (show k < l.length by omega)] at q2
          have hPk : P k = fitsR ks[k] (l[k]'(by omega)) := by rw [hP]; simp [hlt, show k < l.length by omega]
          have g1 := hsub hlt
          have g2 := hlen hlt
          have g3 := fun m hm => hS m (hmem hlt m hm)
          have g4 := L8 (hty _ (List.getElem_mem (show k < l.length by omega)))
          have g5 := Tw (p := P) (k := k)
          rw [← hb] at g5
          obtain ⟨z, hz⟩ : ∃ z, ks[k] = z := ⟨_, rfl⟩
          obtain ⟨w, hw⟩ : ∃ w, l[k]'(by omega) = w := ⟨_, rfl⟩
          rw [hz] at q1 g1 g2 g3 hPk
          rw [hw] at q2 g4 hPk
          have tz := g1.tree
          have tw := g4.tree
          cases b with
          | false =>
            rw [Bool.false_and] at g5
            (sym =>
             simp [con1w.eq_def,hlb,q1,q2,hsll,Uv,Uy,Ux,Uw,szV,Ut,Ur,Uu,Uq,szN,Us,Gb,N1,Zb,Zc,Zd,Ze,Zf,Zg,Zo,Zp,Zq,Zt,Zv,Zy,Qb,Qd,Qq,Qs,Q1,Q2,Q4,Jh,Jy,Jz,J0,J5,J6,J7,J8,J9,Xa,Xb,Xc,X2,X3,X5,X6,X7,Wb,We,Wg,Wh,Wi,Ws,Wt,Wu,Wv,W7,W8,W9,Ya,Yc,Yd,Yh,Yl,Y2,Y6,Y7,Y8,Y9,Vq,Vs,V3,V4,Uj,Uk,Ul,Um,Un,Uo,U4,Kc,Gl]
             tactic =>
              try simp only [U0] at *
              try simp only [nc2] at *
              try simp (maxSteps := 4000000) only [con1w.eq_def,hlb,q1,q2,hsll,Uv,Uy,Ux,Uw,szV,Ut,Ur,Uu,Uq,szN,Us,U3]
              repeat' (first | with_reducible assumption | with_reducible refine And.intro ?_ ?_ | intro _ | omega | (rw [Uz]; omega))
              all_goals first
                | (with_reducible refine Kf ?_; kernel_rfl)
                | omega
                | exact ⟨(k + 1, false), by ((try simp only [U1, killAll, setSlots, updAll, upd, U9, setCs, putC, Nat.reduceDiv, Nat.reduceMod, Nat.reduceMul, Nat.reduceAdd, Nat.reduceEqDiff, List.set_cons_zero, List.set_cons_succ, if_true, if_false, reduceIte]); (first | refine Wk.of_fl ?_ | skip); simp only [Wk, wkK, wkCs, wkT, wk1, AV.kept, keptAll, wkO, lk, wkObj, and_true, true_and, and_self, Nat.reduceEqDiff, Nat.reduceLeDiff, if_true, if_false, reduceIte, reduceCtorEq, Option.isSome, false_implies]; try simp [Wk, wkK, wkT, wk1, AV.kept, keptAll, wkO, lk, wkObj]), by simp only; omega, g5.symm, by simp only; omega⟩)
          | true =>
            rw [Bool.true_and] at g5
            (sym =>
             simp [con1w.eq_def,hlb,q1,q2,hsll,tz,tw,Uv,Uy,Ux,Uw,szV,Ut,Ur,Uu,Uq,szN,Us,Gb,Ng,G4,Nh,N1,con_FitsV.eq_def,con_SameT.eq_def,con_dynamicV.eq_def,con_isBaseV.eq_def,con_kidsV.eq_def,con_partsV.eq_def,Zb,Zc,Zd,Ze,Zf,Zg,Zo,Zp,Zq,Zt,Zv,Zy,Z9,Qb,Qd,Qe,Qf,Qq,Qs,Q1,Q2,Q4,Q8,Jf,Jh,Jj,Jl,Jy,Jz,J0,J5,J6,J7,J8,J9,Xa,Xb,Xc,Xf,Xt,Xv,Xx,X2,X3,X5,X6,X7,Wb,We,Wg,Wh,Wi,Ws,Wt,Wu,Wv,Ww,Wy,Wz,W7,W8,W9,Ya,Yc,Yd,Yh,Yl,Yx,Yz,Y0,Y2,Y5,Y6,Y7,Y8,Y9,Vi,Vn,Vq,Vs,Vt,V3,V4,Uj,Ul,Um,Un,Uo,U4,U7,Kc,Gt,Gl]
             tactic =>
              try simp only [U0] at *
              try simp only [nc2] at *
              try simp (maxSteps := 4000000) only [con1w.eq_def,hlb,q1,q2,hsll,tz,tw,Uv,Uy,Ux,Uw,szV,Ut,Ur,Uu,Uq,szN,Us,U3]
              repeat' (first | with_reducible assumption | with_reducible refine And.intro ?_ ?_ | intro _ | omega | (rw [Uz]; omega))
              all_goals first
                | (with_reducible refine Kf ?_; kernel_rfl)
                | omega
                | exact ⟨_, g1⟩
                | exact ⟨_, g4⟩
                | exact g3
                | exact ⟨(k + 1, P k), by rw [hPk]; ((try simp only [U1, killAll, setSlots, updAll, upd, U9, setCs, putC, Nat.reduceDiv, Nat.reduceMod, Nat.reduceMul, Nat.reduceAdd, Nat.reduceEqDiff, List.set_cons_zero, List.set_cons_succ, if_true, if_false, reduceIte]); (first | refine Wk.of_fl ?_ | skip); simp only [Wk, wkK, wkCs, wkT, wk1, AV.kept, keptAll, wkO, lk, wkObj, and_true, true_and, and_self, Nat.reduceEqDiff, Nat.reduceLeDiff, if_true, if_false, reduceIte, reduceCtorEq, Option.isSome, false_implies]; try simp [Wk, wkK, wkT, wk1, AV.kept, keptAll, wkO, lk, wkObj]), by simp only; omega, g5.symm, by simp only; omega⟩
                | exact ⟨(k + 1, P k), by ((try simp only [U1, killAll, setSlots, updAll, upd, U9, setCs, putC, Nat.reduceDiv, Nat.reduceMod, Nat.reduceMul, Nat.reduceAdd, Nat.reduceEqDiff, List.set_cons_zero, List.set_cons_succ, if_true, if_false, reduceIte]); (first | refine Wk.of_fl ?_ | skip); simp only [Wk, wkK, wkCs, wkT, wk1, AV.kept, keptAll, wkO, lk, wkObj, and_true, true_and, and_self, Nat.reduceEqDiff, Nat.reduceLeDiff, if_true, if_false, reduceIte, reduceCtorEq, Option.isSome, false_implies]; try simp [Wk, wkK, wkT, wk1, AV.kept, keptAll, wkO, lk, wkObj]), by simp only; omega, g5.symm, by simp only; omega⟩
                | skip)
        · have hkl : k = ks.length := by omega
          rw [hkl, hR2] at hb
          subst hb
          (sym =>
           simp [con1w.eq_def,hlb,hx1,hy1,hR,Uv,Uy,Ux,Uw,szV,Ut,Ur,Uu,Uq,szN,Us,Gb,G4,Zb,Zc,Ze,Zf,Zg,Qb,Qd,Qn,Qo,Qp,Qq,Qs,Q1,Q2,Q4,Q8,Jk,Jy,Jz,J0,J5,J6,J7,J8,J9,Xa,Xb,Xc,Xf,X3,X5,X6,X9,Wa,Wb,We,Wg,Wh,Ws,Wt,Wu,Wv,W9,Ya,Yc,Yd,Yh,Y6,Y7,Y8,Y9,Vs,Uk,Ul,Um,Un,U4]))
theorem As : ∀ n, Good Try.prog (34, con_FitsV n)
  | 0 => Mv (U2 Try.func34 (by kernel_rfl) rfl) con_FitsV_zero
  | n + 1 => step_FitsV n (As n)
end Go.Am.Ty
set_option linter.unusedSimpArgs false
set_option linter.unusedVariables false
set_option maxHeartbeats 2000000
namespace Go.Am.Ty
open Go.Proofs Go.Rose Go.Rose.Rose
open Enc (enc dec)
theorem L6 : ∀ x : Rose VNode, (nds (plainR x)).length ≤ (nds x).length
  | mk n ks => by
    rw [plainR]
    cases isFunB n with
    | true => simp [nds, ndss]
    | false =>
      simp only [cond_false, Gj, List.length_cons]
      have := plains_len ks
      omega
where plains_len : ∀ ks : List (Rose VNode), (ndss (plainRs ks)).length ≤ (ndss ks).length
  | [] => Nat.le_refl _
  | k :: ks => by
    rw [plainRs, ndss, ndss, List.length_append, List.length_append]
    have := L6 k
    have := plains_len ks
    omega
theorem Fp : ∀ ks : List (Rose VNode), flat (sls ks) = ndss ks
  | [] => rfl
  | k :: ks => by
    have := Fp ks
    unfold flat sls at *
    rw [List.map_cons, List.flatMap_cons, this, ndss]
def mixT (f : Nat → Rose VNode) (ks : List (Rose VNode)) (k : Nat) : List (Rose VNode) := (List.range k).map f ++ ks.drop k
theorem mixT_zero {f : Nat → Rose VNode} {ks : List (Rose VNode)} : mixT f ks 0 = ks := by simp [mixT]
theorem mixT_all {f : Nat → Rose VNode} {ks : List (Rose VNode)} : mixT f ks ks.length = (List.range ks.length).map f := by simp [mixT]
theorem E4 {f : Nat → Rose VNode} {ks : List (Rose VNode)} {k : Nat} (h : k ≤ ks.length) : (mixT f ks k).length = ks.length := by simp [mixT]; omega
theorem mixT_at {f : Nat → Rose VNode} {ks : List (Rose VNode)} {k : Nat} (h : k < ks.length) : (mixT f ks k)[k]'(by rw [E4 (by omega)]; exact h) = ks[k] := by
  simp [mixT,List.getElem_append_right]
theorem mixT_set {f : Nat → Rose VNode} {ks : List (Rose VNode)} {k : Nat} (h : k < ks.length) : (mixT f ks k).set k (f k) = mixT f ks (k + 1) := by
  unfold mixT
  rw [List.set_append_right _ _ (by simp), List.length_map, List.length_range, Nat.sub_self, List.drop_eq_getElem_cons h, List.set_cons_zero, List.range_succ, List.map_append, List.append_assoc]
  rfl
theorem sls_set {ks : List (Rose VNode)} {k : Nat} {y : Rose VNode} : ((sls ks).map (enc : Sl VNode → D)).set k (enc (Sl.mk (nds y))) = (sls (ks.set k y)).map enc := by
  unfold sls
  rw [List.map_set, List.map_set]
theorem map_range {ks : List (Rose VNode)} {f : Rose VNode → Rose VNode} : (List.range ks.length).map (fun j => f (ks.getD j dv)) = ks.map f := by
  refine List.ext_getElem (by simp) fun j h1 h2 => ?_
  simp at h1
  simp [h1]
noncomputable def con_PlainV (n : Nat) : Con := con1 (fun (v : Sl VNode) => v.l.length ≤ 1000000 ∧ (∃ x, OneV v.l x) ∧ v.l.length < n) (fun v => Sl.mk (nds (plainR (treeAt arV v.l 0))))
theorem I7 : ∀ c, ¬ (con_PlainV 0).pre c := by
  intro c h
  unfold con_PlainV at h
  obtain ⟨_, _, _, _, h⟩ := Kw h
  omega
noncomputable def ctx_PlainV (n : Nat) : Ctx := ⟨tab, lkC [(66, con_isFunV), (65, con_kidsV), (68, con_joinedV), (39, (con_PlainV n))], 60, lkB [], [], false⟩
theorem Bd (n : Nat) : (ctx_PlainV n).τ = tab := rfl
theorem Bf (n : Nat) : (ctx_PlainV n).Γ = lkC [(66, con_isFunV), (65, con_kidsV), (68, con_joinedV), (39, (con_PlainV n))] := rfl
theorem Be (n : Nat) : (ctx_PlainV n).dp = 60 := rfl
theorem Bg (n : Nat) : (ctx_PlainV n).Δ = lkB [] := rfl
theorem ctx_PlainV_w (n : Nat) : (ctx_PlainV n).wr = false := rfl
set_option maxRecDepth 100000 in
theorem step_PlainV (n : Nat) (ih : Good Try.prog (39, con_PlainV n)) : Good Try.prog (39, (con_PlainV (n + 1))) := by
  refine ⟨U2 Try.func39 (by kernel_rfl) rfl, ?_⟩
  have K : CtxOk Try.prog (ctx_PlainV n) := U5 Kh Ka (by
    intro p hp
    simp only [List.mem_cons, List.not_mem_nil, or_false] at hp
    rcases hp with rfl | rfl | rfl | rfl
    · exact Ax
    · exact S2
    · exact S3
    · exact ih) (by simp)
  obtain ⟨c, hc⟩ : ∃ c, Try.f39.body = some c := ⟨_, rfl⟩
  refine U6 K Try.func39 hc [.tmp 2] rfl 34 rfl (fun cvs hpre => ?_)
  change (con_PlainV (n + 1)).pre cvs at hpre
  unfold con_PlainV at hpre
  obtain ⟨⟨v⟩, rfl, hv, ⟨x, hx⟩, hn⟩ := Kw hpre
  simp only at hv hx hn
  have hx1 := hx.tree
  have hxl := hx.at.lt
  have ev := U8 v0 hxl
  have hro := hx.at.root v0
  rw [hro] at ev
  have hpl := L6 x
  rw [← hx.1] at hpl
  obtain ⟨R, hR⟩ : ∃ R, plainR x = R := ⟨_, rfl⟩
  have hR2 := hR
  rw [show x = mk x.root x.kids by cases x; rfl, plainR] at hR2
  rw [hR] at hpl
  have hsub := @T0 x hx.2
  have hlen := @Sb x
  rw [← hx.1] at hlen
  have hkl := P5 x.kids
  have hvl : v.length = 1 + (ndss x.kids).length := by rw [hx.1, Gu, List.length_cons]; omega
  obtain ⟨ks, hks⟩ : ∃ ks, x.kids = ks := ⟨_, rfl⟩
  rw [hks] at hR2 hkl hvl
  simp only [hks] at hsub hlen
  have hsl : (sls ks).length = ks.length := Nb
  obtain ⟨m, hm⟩ : ∃ m, x.root = m := ⟨_, rfl⟩
  rw [hm] at ev hR2 hro
  clear hpre
  simp only [Try.f39, Option.some.injEq] at hc
  subst hc
  refine Kq 2 (of_decide_eq_true (by kernel_rfl)) ?_
  cases hf : isFunB m with
  | true =>
    rw [hf, cond_true] at hR2
    have hR3 : nds R = [VNode.mk 6 m.label [] 0 0 [] []] := by rw [← hR2]; rfl
    (sym =>
     simp [hx1,ev,hro,hf,hR,hR3,Nw,Nu,Uv,Uy,Ux,Uw,szV,Bd,Bf,Be,Bg,con_PlainV.eq_def,con_isFunV.eq_def,con_joinedV.eq_def,con_kidsV.eq_def,Zb,Zc,Ze,Zf,Zn,Zo,Zp,Zq,Zr,Zs,Zv,Zx,Zy,Z1,Z2,Z9,Qe,Qf,Qh,Ql,Qn,Qo,Qp,Qq,Qs,Q1,Q2,Q4,Q7,Q8,Ja,Jb,Jc,Jd,Je,Jf,Jg,Jh,Ji,Jj,Jk,Jl,Jw,J3,J4,J5,J6,J8,Xb,Xd,Xe,Xf,Xg,Xh,Xj,Xl,Xm,Xn,Xo,Xr,Xu,Xv,X3,X5,X6,Wa,Wb,We,Wg,Wh,Wi,Wl,Wm,Ws,Wt,Wu,Wv,Ww,Wx,Wy,Wz,W0,W3,W4,W5,W6,W7,W8,W9,Ya,Yd,Yl,Ym,Yn,Yp,Yt,Yv,Yx,Yz,Y0,Y6,Y7,Y8,Y9,Va,Vb,Vc,Vd,Ve,Vf,Vi,Vn,Vr,Vs,Vt,V2,V3,V6,V8,Uc,Ud,Uj,Ul,Um,Uo,K9,Kc,Ke]
     tactic =>
      try simp only [U0] at *
      try simp only [nc2] at *
      try simp (maxSteps := 4000000) only [hx1,ev,hro,hf,hR,hR3,Nw,Nu,Uv,Uy,Ux,Uw,szV,U3]
      repeat' (first | with_reducible assumption | with_reducible refine And.intro ?_ ?_ | intro _ | omega | (rw [Uz]; omega))
      all_goals first
        | omega
        | rfl
        | skip)
  | false =>
    rw [hf, cond_false] at hR2
    obtain ⟨f, hF⟩ : ∃ f : Nat → Rose VNode, f = fun j => plainR (ks.getD j dv) := ⟨_, rfl⟩
    have hall : mixT f ks ks.length = plainRs ks := by rw [mixT_all, hF, map_range, Ns]
    (sym =>
     simp [con1w.eq_def,hx1,ev,hro,hf,hks,hsl,Uv,Uy,Ux,Uw,szV,Bd,Bf,Be,Bg,con_PlainV.eq_def,con_isFunV.eq_def,con_joinedV.eq_def,con_kidsV.eq_def,Zb,Zc,Ze,Zf,Zn,Zo,Z6,Z9,Qe,Qf,Qq,Qs,Q1,Q2,Q4,Q8,Jf,Jh,Ji,Jj,Jl,Jw,J3,J4,J5,J6,J8,J9,Xb,Xc,Xf,Xn,Xo,Xu,Xv,X2,X3,X5,X6,X7,X8,Wb,We,Wg,Wh,Wi,Ws,Wt,Wu,Wv,Ww,Wx,Wy,Wz,W5,W6,W9,Ya,Yx,Y5,Y6,Y7,Va,Vb,Vc,Vd,Ve,Vf,Vi,Vn,Vs,Vt,V3,V6,Uk,Ul,Um,Un,Uo,Kc,Ke,Gl]
     tactic =>
      try simp only [U0] at *
      try simp only [nc2] at *
      try simp (maxSteps := 4000000) only [con1w.eq_def,hx1,ev,hro,hf,hks,hsl,Uv,Uy,Ux,Uw,szV,U3]
      repeat' (first | with_reducible assumption | with_reducible refine And.intro ?_ ?_ | intro _ | omega | (rw [Uz]; omega))
      · exact ⟨x, hx⟩
      refine Kd [4, 5, 19, 20, 21, 22, 23, 24, 25, 26, 27, 28] (fun k : Nat => [(3, .sl 15 ((sls (mixT f ks k)).map (enc : Sl VNode → D)).length), (16, .sl 15 ((sls (mixT f ks k)).map (enc : Sl VNode → D)).length), (18, .d (.int .i64 k))]) (fun k : Nat => [(15, .row 1 ((sls (mixT f ks k)).map enc) 0)]) (fun k : Nat => k ≤ ks.length) (fun k : Nat => ks.length - k) 0 ?_ ?_ ?_
      · omega
      · ((try simp only [U1, killAll, setSlots, updAll, upd, U9, setCs, putC, Nat.reduceDiv, Nat.reduceMod, Nat.reduceMul, Nat.reduceAdd, Nat.reduceEqDiff, List.set_cons_zero, List.set_cons_succ, if_true, if_false, reduceIte]); (first | refine Wk.of_fl ?_ | skip); simp only [Wk, wkK, wkCs, wkT, wk1, AV.kept, keptAll, wkO, lk, wkObj, and_true, true_and, and_self, Nat.reduceEqDiff, Nat.reduceLeDiff, if_true, if_false, reduceIte, reduceCtorEq, Option.isSome, false_implies]; try simp [Wk, wkK, wkT, wk1, AV.kept, keptAll, wkO, lk, wkObj, mixT_zero, hsl])
      rintro k hk
      have hml : (sls (mixT f ks k)).length = ks.length := by rw [Nb, E4 hk]
      rcases Kg k ks.length with ⟨hlt, hlb⟩ | ⟨hlt, hlb⟩
      · have q1 := U8 (⟨[]⟩ : Sl VNode) (show k < (sls (mixT f ks k)).length by omega)
        rw [Bt (by rw [E4 hk]; exact hlt), mixT_at hlt] at q1
        have hset := sls_set (ks := mixT f ks k) (k := k) (y := f k)
        rw [mixT_set hlt] at hset
        have hfk : f k = plainR ks[k] := by rw [hF]; simp [hlt]
        have g1 := hsub hlt
        have g2 := hlen hlt
        have hml2 : (sls (mixT f ks (k + 1))).length = ks.length := by rw [Nb, E4 (by omega)]
        obtain ⟨z, hz⟩ : ∃ z, ks[k] = z := ⟨_, rfl⟩
        rw [hz] at q1 g1 g2 hfk
        have tz := g1.tree
        rw [hfk] at hset
        (sym =>
         simp [con1w.eq_def,hlb,hml,q1,tz,hset,Uv,Uy,Ux,Uw,szV,Bd,Bf,Be,Bg,ctx_PlainV_w,con_PlainV.eq_def,con_isFunV.eq_def,con_joinedV.eq_def,con_kidsV.eq_def,Zb,Zc,Ze,Zf,Zg,Zo,Zp,Zq,Zv,Zw,Zy,Z9,Qb,Qd,Qe,Qf,Qq,Qs,Q1,Q2,Q4,Q8,Jf,Jh,Ji,Jj,Jl,Jy,Jz,J0,J5,J6,J8,J9,Xb,Xc,Xf,Xu,Xv,X2,X3,X5,X6,X7,Wb,We,Wg,Wh,Wi,Ws,Wt,Wu,Wv,Ww,Wy,Wz,W9,Ya,Yc,Yd,Yh,Yl,Y1,Y2,Y6,Y7,Vi,Vn,Vq,Vs,Vt,Vz,V3,Uj,Ul,Um,Un,Uo,U4,Kc,Gl]
         tactic =>
          try simp only [U0] at *
          try simp only [nc2] at *
          try simp (maxSteps := 4000000) only [con1w.eq_def,hlb,hml,q1,tz,hset,Uv,Uy,Ux,Uw,szV,U3]
          repeat' (first | with_reducible assumption | with_reducible refine And.intro ?_ ?_ | intro _ | omega | (rw [Uz]; omega))
          all_goals first
            | (with_reducible refine Kf ?_; kernel_rfl)
            | omega
            | exact ⟨_, g1⟩
            | exact ⟨k + 1, by ((try simp only [U1, killAll, setSlots, updAll, upd, U9, setCs, putC, Nat.reduceDiv, Nat.reduceMod, Nat.reduceMul, Nat.reduceAdd, Nat.reduceEqDiff, List.set_cons_zero, List.set_cons_succ, if_true, if_false, reduceIte]); (first | refine Wk.of_fl ?_ | skip); simp only [Wk, wkK, wkCs, wkT, wk1, AV.kept, keptAll, wkO, lk, wkObj, and_true, true_and, and_self, Nat.reduceEqDiff, Nat.reduceLeDiff, if_true, if_false, reduceIte, reduceCtorEq, Option.isSome, false_implies]; try simp [Wk, wkK, wkT, wk1, AV.kept, keptAll, wkO, lk, wkObj, hml, hml2]), by omega, by omega⟩
            | skip)
      · have hkl2 : k = ks.length := by omega
        subst hkl2
        rw [hall] at *
        have hfl := Fp (plainRs ks)
        have hR3 : nds R = m :: ndss (plainRs ks) := by rw [← hR2, Gj]
        rw [hR3, List.length_cons] at hpl
        have hpl2 : (sls (plainRs ks)).length ≤ 1000000 := by rw [hml]; omega
        (sym =>
         simp [con1w.eq_def,hlb,hml,ev,hx1,hR,hR3,hfl,Uv,Uy,Ux,Uw,szV,Bd,Bf,Be,Bg,con_PlainV.eq_def,con_isFunV.eq_def,con_joinedV.eq_def,con_kidsV.eq_def,Zb,Zc,Ze,Zf,Zg,Zo,Zp,Zq,Zv,Zy,Z9,Qb,Qd,Qe,Qf,Qn,Qo,Qp,Qq,Qs,Q1,Q2,Q4,Q8,Jf,Jh,Ji,Jj,Jk,Jl,Jy,Jz,J0,J5,J6,J7,J8,J9,Xa,Xb,Xc,Xf,Xh,Xp,Xu,Xv,X3,X5,X6,X9,Wa,Wb,We,Wg,Wh,Wi,Ws,Wt,Wu,Wv,Ww,Wy,Wz,W9,Ya,Yc,Yd,Yh,Yl,Yz,Y0,Y6,Y7,Y8,Y9,Vj,Vk,Vr,Vs,Vt,V3,Uk,Ul,Um,Uo,U4,Kc,Ke]
         tactic =>
          try simp only [U0] at *
          try simp only [nc2] at *
          try simp (maxSteps := 4000000) only [con1w.eq_def,hlb,hml,ev,hx1,hR,hR3,hfl,Uv,Uy,Ux,Uw,szV,U3]
          repeat' (first | with_reducible assumption | with_reducible refine And.intro ?_ ?_ | intro _ | omega | (rw [Uz]; omega))
          all_goals first
            | (with_reducible refine Kf ?_; kernel_rfl)
            | omega
            | skip))
theorem Fd : ∀ n, Good Try.prog (39, con_PlainV n)
  | 0 => Mv (U2 Try.func39 (by kernel_rfl) rfl) I7
  | n + 1 => step_PlainV n (Fd n)
end Go.Am.Ty
set_option linter.unusedSimpArgs false
set_option linter.unusedVariables false
set_option maxHeartbeats 4000000
namespace Go.Am.Ty
open Go.Proofs Go.Rose Go.Rose.Rose
open Enc (enc dec)
theorem fun_len {lab : Int} {x y : Rose VNode} {t u : Rose Node} (h : funR lab x t u = some y) : (nds y).length ≤ 2 * (nds x).length := by
  unfold funR at h
  have hp := Gw x
  cases h1 : ((arrR u).root.kind == 5) with
  | false => rw [h1, cond_false] at h; cases h
  | true =>
    rw [h1, cond_true] at h
    cases h2 : same3 (nds (arrR t)) (nds (arrR u)) with
    | true => rw [h2, cond_true] at h; injection h with h; subst h; omega
    | false =>
      rw [h2, cond_false] at h
      injection h with h
      rw [← h, wrapT, Gj, ndss, ndss, List.append_nil, nds_relabT, List.length_cons, O3]
      omega
mutual
theorem cast_len {lab : Int} : ∀ {x y : Rose VNode} {t u : Rose Node}, castR lab x t u = some y → (nds y).length ≤ 2 * (nds x).length
  | mk n ks, y, t, u, h => by
    rw [castR] at h
    have hp := Gw (mk n ks)
    cases h1 : same3 (nds t) (nds u) with
    | true => rw [h1, cond_true] at h; injection h with h; subst h; omega
    | false =>
      rw [h1, cond_false] at h
      cases h2 : isFunB n with
      | true => rw [h2, cond_true] at h; exact fun_len h
      | false =>
        rw [h2, cond_false] at h
        cases h3 : (n.kind == 4 || n.kind == 5) with
        | false =>
          rw [h3, cond_false] at h
          cases h4 : (!(u.root.kind == 0) && !isBaseB n u.root.kind) with
          | true => rw [h4, cond_true] at h; cases h
          | false => rw [h4, cond_false] at h; injection h with h; subst h; omega
        | true =>
          rw [h3, cond_true] at h
          cases ha : partsR n ks t with
          | none => rw [ha] at h; cases h
          | some a =>
            cases hb : partsR n ks u with
            | none => rw [ha, hb] at h; cases h
            | some b =>
              rw [ha, hb] at h
              simp only [Option.map_eq_some_iff] at h
              obtain ⟨ys, g1, rfl⟩ := h
              have := casts_len g1
              rw [Gj, Gj, List.length_cons, List.length_cons]
              omega
theorem casts_len {lab : Int} : ∀ {ks ys : List (Rose VNode)} {a b : List (Rose Node)}, castRs lab ks a b = some ys → (ndss ys).length ≤ 2 * (ndss ks).length
  | [], ys, a, b, h => by
    rw [castRs] at h
    injection h with h
    rw [← h]
    simp [ndss]
  | k :: ks, ys, a, b, h => by
    rw [castRs] at h
    cases hk : castR lab k (a.headD dynT) (b.headD dynT) with
    | none => rw [hk] at h; cases h
    | some y =>
      rw [hk] at h
      simp only [Option.map_eq_some_iff] at h
      obtain ⟨zs, h1, rfl⟩ := h
      have := cast_len hk
      have := casts_len h1
      rw [ndss, ndss, List.length_append, List.length_append]
      omega
end
def optX (o : Option (Rose VNode)) : Sl VNode × Bool := match o with
  | some y => (⟨nds y⟩, true)
  | none => (⟨[]⟩, false)
theorem funL_eq {lab : Int} {x : Rose VNode} {t u : Rose Node} : funL (nds x) (nds t) (nds u) lab = optX (funR lab x t u) := by
  have ha : ∀ t : Rose Node, arrOr (nds t) = nds (arrR t) := fun t => by
    unfold arrOr arrR
    rw [show (nds t).getD 0 n0 = t.root by rw [Gu]; rfl]
    cases t.root.kind == 0 with
    | true => rfl
    | false => rfl
  have hr : ∀ t : Rose Node, (nds t).getD 0 n0 = t.root := fun t => by rw [Gu]; rfl
  unfold funL funR
  rw [ha, ha, hr]
  cases (arrR u).root.kind == 5 with
  | false => rfl
  | true =>
    simp only [cond_true]
    cases same3 (nds (arrR t)) (nds (arrR u)) with
    | true => rfl
    | false =>
      simp only [cond_false, optX]
      have : (nds x).getD 0 v0 = x.root := by rw [Gu]; rfl
      unfold wrapL wrapT
      rw [this, Gj, ndss, ndss, List.append_nil, nds_relabT]
noncomputable def con_CastV (n : Nat) : Con := con4t (fun (v : Sl VNode) (t u : Sl Node) (_ : Int) => v.l.length ≤ 100000 ∧ (∃ x, OneV v.l x) ∧ (∃ y, OneN t.l y) ∧ (∃ z, OneN u.l z) ∧ v.l.length < n) (fun v t u lab => optX (castR lab (treeAt arV v.l 0) (treeAt ar t.l 0) (treeAt ar u.l 0)))
theorem con_CastV_zero : ∀ c, ¬ (con_CastV 0).pre c := by
  intro c h
  unfold con_CastV at h
  obtain ⟨_, _, _, _, _, _, _, _, _, h⟩ := Ah h
  omega
theorem mix_set {ys ks : List (Rose VNode)} {k : Nat} {y : Rose VNode} (h : k < ks.length) (hy : ys.length = k) : (ys ++ ks.drop k).set k y = (ys ++ [y]) ++ ks.drop (k + 1) := by
  rw [List.set_append_right _ _ (by omega), hy, Nat.sub_self, List.drop_eq_getElem_cons h, List.set_cons_zero, List.append_assoc]
  rfl
theorem Sv {ys ks : List (Rose VNode)} {k : Nat} (h : k ≤ ks.length) (hy : ys.length = k) : (ys ++ ks.drop k).length = ks.length := by
  rw [List.length_append, List.length_drop, hy]; omega
theorem mix_at {ys ks : List (Rose VNode)} {k : Nat} (h : k < ks.length) (hy : ys.length = k) : (ys ++ ks.drop k)[k]'(by rw [Sv (by omega) hy]; exact h) = ks[k] := by
  rw [List.getElem_append_right (by omega)]
  simp [hy]
noncomputable def ctx_CastV (n : Nat) : Ctx := ⟨tab, lkC [(59, con_SameT), (66, con_isFunV), (67, con_functionV), (63, con_isBaseV), (64, con_partsV), (65, con_kidsV), (68, con_joinedV), (35, (con_CastV n))], 60, lkB [], [], false⟩
theorem Gd (n : Nat) : (ctx_CastV n).τ = tab := rfl
theorem Gg (n : Nat) : (ctx_CastV n).Γ = lkC [(59, con_SameT), (66, con_isFunV), (67, con_functionV), (63, con_isBaseV), (64, con_partsV), (65, con_kidsV), (68, con_joinedV), (35, (con_CastV n))] := rfl
theorem Ge (n : Nat) : (ctx_CastV n).dp = 60 := rfl
theorem Gi (n : Nat) : (ctx_CastV n).Δ = lkB [] := rfl
theorem Lu (n : Nat) : (ctx_CastV n).wr = false := rfl
set_option maxRecDepth 100000 in
theorem step_CastV (n : Nat) (ih : Good Try.prog (35, con_CastV n)) : Good Try.prog (35, (con_CastV (n + 1))) := by
  refine ⟨U2 Try.func35 (by kernel_rfl) rfl, ?_⟩
  have K : CtxOk Try.prog (ctx_CastV n) := U5 Kh Ka (by
    intro p hp
    simp only [List.mem_cons, List.not_mem_nil, or_false] at hp
    rcases hp with rfl | rfl | rfl | rfl | rfl | rfl | rfl | rfl
    · exact B3
    · exact Ax
    · exact good_functionV
    · exact Fi
    · exact Av
    · exact S2
    · exact S3
    · exact ih) (by simp)
  obtain ⟨c, hc⟩ : ∃ c, Try.f35.body = some c := ⟨_, rfl⟩
  refine U6 K Try.func35 hc [.tmp 8, .tmp 9] rfl 115 rfl (fun cvs hpre => ?_)
  change (con_CastV (n + 1)).pre cvs at hpre
  unfold con_CastV at hpre
  obtain ⟨⟨v⟩, ⟨t⟩, ⟨u⟩, lab, rfl, hv, ⟨x, hx⟩, ⟨y, hy⟩, ⟨w, hw⟩, hn⟩ := Ah hpre
  simp only at hv hx hy hw hn
  have hx1 := hx.tree
  have hy1 := hy.tree
  have hw1 := hw.tree
  have hxl := hx.at.lt
  have hyl := hy.at.lt
  have hwl := hw.at.lt
  have hya := hy.at
  have hwa := hw.at
  have htl : t.length ≤ 1000000 := by rw [hy.1]; exact hy.2.2
  have hul : u.length ≤ 1000000 := by rw [hw.1]; exact hw.2.2
  have htl2 : t.length ≤ 9223372036854775807 := by omega
  have hul2 : u.length ≤ 9223372036854775807 := by omega
  have hVI : VaIn v := ⟨List.ne_nil_of_length_pos hxl, by omega⟩
  have hTI : TyIn t := ⟨List.ne_nil_of_length_pos hyl, htl⟩
  have hUI : TyIn u := ⟨List.ne_nil_of_length_pos hwl, hul⟩
  have ev := U8 v0 hxl
  have eu := U8 n0 hwl
  have hro := hx.at.root v0
  rw [hro] at ev
  rw [hwa.root n0] at eu
  obtain ⟨R, hR⟩ : ∃ R, castR lab x y w = R := ⟨_, rfl⟩
  have hcl : ∀ z, R = some z → (nds z).length ≤ 2 * v.length := fun z hz => by rw [hx.1]; exact cast_len (hR.trans hz)
  have hR2 := hR
  rw [show x = mk x.root x.kids by cases x; rfl, castR] at hR2
  rw [show mk x.root x.kids = x by cases x; rfl] at hR2
  rw [← hy.1, ← hw.1] at hR2
  have hfl : funL v t u lab = optX (funR lab x y w) := by
    have := funL_eq (lab := lab) (x := x) (t := y) (u := w)
    rw [← hx.1, ← hy.1, ← hw.1] at this
    exact this
  have hxs : optX (some x) = (⟨v⟩, true) := by unfold optX; rw [hx.1]
  have hxn : optX none = (⟨[]⟩, false) := rfl
  have hsub := @T0 x hx.2
  have hlen := @Sb x
  have hk1 := kid1 hx.2
  rw [← hx.1] at hlen
  have hkl := P5 x.kids
  have hvl : v.length = 1 + (ndss x.kids).length := by rw [hx.1, Gu, List.length_cons]; omega
  obtain ⟨ks, hks⟩ : ∃ ks, x.kids = ks := ⟨_, rfl⟩
  rw [hks] at hR2 hkl hvl
  simp only [hks] at hsub hlen hk1
  have hsl : (sls ks).length = ks.length := Nb
  obtain ⟨m, hm⟩ : ∃ m, x.root = m := ⟨_, rfl⟩
  rw [hm] at ev hR2 hk1 hro
  obtain ⟨p, hp⟩ : ∃ p, w.root = p := ⟨_, rfl⟩
  rw [hp] at eu hR2
  clear hpre
  simp only [Try.f35, Option.some.injEq] at hc
  subst hc
  refine Kq 7 (of_decide_eq_true (by kernel_rfl)) ?_
  cases hs : same3 t u with
  | true =>
    rw [hs, cond_true] at hR2
    subst hR2
    (sym =>
     simp [con4t.eq_def,hx1,hy1,hw1,hR,hs,hxs,Uv,Uy,Ux,Uw,szV,Ut,Ur,Uu,Uq,szN,Us,Gd,Gg,Ge,Gi,con_CastV.eq_def,con_SameT.eq_def,con_functionV.eq_def,con_isBaseV.eq_def,con_isFunV.eq_def,con_joinedV.eq_def,con_kidsV.eq_def,con_partsV.eq_def,Zb,Zc,Ze,Zf,Zg,Zn,Zo,Z9,Qe,Qf,Qn,Qo,Qp,Qq,Qs,Q1,Q2,Q4,Q8,Jf,Jj,Jk,Jl,Jw,J3,J4,J5,J6,J8,J9,Xb,Xc,Xf,Xn,Xo,Xu,Xv,Xx,X3,X5,X6,X7,Wa,Wb,We,Wg,Wh,Wi,Ws,Wt,Wu,Wv,Ww,Wx,Wy,Wz,W5,W6,W9,Ya,Yw,Yx,Y6,Y7,Va,Vb,Vc,Vd,Ve,Vf,Vg,Vi,Vn,Vs,Vt,V4,V6,Uj,Ul,Um,Un,Kc,Ke]
     tactic =>
      try simp only [U0] at *
      try simp only [nc2] at *
      try simp (maxSteps := 4000000) only [con4t.eq_def,hx1,hy1,hw1,hR,hs,hxs,Uv,Uy,Ux,Uw,szV,Ut,Ur,Uu,Uq,szN,Us,U3]
      repeat' (first | with_reducible assumption | with_reducible refine And.intro ?_ ?_ | intro _ | omega | (rw [Uz]; omega)))
  | false =>
  rw [hs, cond_false] at hR2
  cases hf : isFunB m with
  | true =>
    rw [hf, cond_true] at hR2
    rw [hR2] at hfl
    (sym =>
     simp [con4t.eq_def,hx1,hy1,hw1,hR,hs,hro,hf,hfl,Uv,Uy,Ux,Uw,szV,Ut,Ur,Uu,Uq,szN,Us,Gd,Gg,Ge,Gi,con_CastV.eq_def,con_SameT.eq_def,con_functionV.eq_def,con_isBaseV.eq_def,con_isFunV.eq_def,con_joinedV.eq_def,con_kidsV.eq_def,con_partsV.eq_def,Zb,Zc,Ze,Zf,Zg,Zn,Zo,Z8,Z9,Qe,Qf,Qg,Qn,Qo,Qp,Qq,Qs,Q1,Q2,Q4,Q8,Q9,Ja,Jf,Jj,Jk,Jl,Jw,J3,J4,J5,J6,J8,J9,Xb,Xc,Xf,Xn,Xo,Xu,Xv,Xx,X3,X5,X6,X7,Wa,Wb,We,Wg,Wh,Wi,Ws,Wt,Wu,Wv,Ww,Wx,Wy,Wz,W5,W6,W9,Ya,Yw,Yx,Y6,Y7,Va,Vb,Vc,Vd,Ve,Vf,Vg,Vi,Vl,Vn,Vs,Vt,V4,V6,Uj,Uk,Ul,Um,Un,Kc,Ke]
     tactic =>
      try simp only [U0] at *
      try simp only [nc2] at *
      try simp (maxSteps := 4000000) only [con4t.eq_def,hx1,hy1,hw1,hR,hs,hro,hf,hfl,Uv,Uy,Ux,Uw,szV,Ut,Ur,Uu,Uq,szN,Us,U3]
      repeat' (first | with_reducible assumption | with_reducible refine And.intro ?_ ?_ | intro _ | omega | (rw [Uz]; omega)))
  | false =>
  rw [hf, cond_false] at hR2
  cases k45 : (m.kind == 4 || m.kind == 5) with
  | false =>
    rw [k45, cond_false] at hR2
    rw [Bool.or_eq_false_iff] at k45
    obtain ⟨k4, k5⟩ := k45
    have n4 : (m.kind != 4) = true := by rw [bne, k4]; rfl
    have n5 : (m.kind != 5) = true := by rw [bne, k5]; rfl
    cases p0 : (p.kind == 0) with
    | true =>
      have p0n : (p.kind != 0) = false := by rw [bne, p0]; rfl
      rw [p0] at hR2
      simp only [Bool.not_true, Bool.false_and, cond_false] at hR2
      subst hR2
      (sym =>
       simp [con4t.eq_def,hx1,hy1,hw1,hR,hs,hro,hf,n4,n5,p0n,ev,eu,hxs,Uv,Uy,Ux,Uw,szV,Ut,Ur,Uu,Uq,szN,Us,Gd,Gg,Ge,Gi,con_CastV.eq_def,con_SameT.eq_def,con_functionV.eq_def,con_isBaseV.eq_def,con_isFunV.eq_def,con_joinedV.eq_def,con_kidsV.eq_def,con_partsV.eq_def,Zb,Zc,Zd,Ze,Zf,Zg,Zn,Zo,Zp,Zq,Zs,Zt,Zv,Zx,Zy,Z9,Qb,Qd,Qe,Qf,Qn,Qo,Qp,Qq,Qs,Q1,Q2,Q4,Q8,Jf,Jj,Jk,Jl,Jw,J3,J4,J5,J6,J8,J9,Xb,Xc,Xf,Xn,Xo,Xu,Xv,Xx,X2,X3,X5,X6,X7,Wa,Wb,We,Wg,Wh,Wi,Ws,Wt,Wu,Wv,Ww,Wx,Wy,Wz,W5,W6,W7,W8,W9,Ya,Yd,Yh,Yl,Ys,Yv,Yw,Yx,Yz,Y0,Y6,Y7,Va,Vb,Vc,Vd,Ve,Vf,Vg,Vi,Vn,Vr,Vs,Vt,V3,V4,V6,Uj,Uk,Ul,Um,Un,Uo,U4,U7,Kb,Kc,Ke]
       tactic =>
        try simp only [U0] at *
        try simp only [nc2] at *
        try simp (maxSteps := 4000000) only [con4t.eq_def,hx1,hy1,hw1,hR,hs,hro,hf,n4,n5,p0n,ev,eu,hxs,Uv,Uy,Ux,Uw,szV,Ut,Ur,Uu,Uq,szN,Us,U3]
        repeat' (first | with_reducible assumption | with_reducible refine And.intro ?_ ?_ | intro _ | omega | (rw [Uz]; omega)))
    | false =>
      have p0n : (p.kind != 0) = true := by rw [bne, p0]; rfl
      rw [p0] at hR2
      simp only [Bool.not_false, Bool.true_and] at hR2
      cases hb : isBaseB m p.kind with
      | true =>
        rw [hb] at hR2
        simp only [Bool.not_true, cond_false] at hR2
        subst hR2
        (sym =>
         simp [con4t.eq_def,hx1,hy1,hw1,hR,hs,hro,hf,n4,n5,p0n,hb,ev,eu,hxs,Uv,Uy,Ux,Uw,szV,Ut,Ur,Uu,Uq,szN,Us,Gd,Gg,Ge,Gi,con_CastV.eq_def,con_SameT.eq_def,con_functionV.eq_def,con_isBaseV.eq_def,con_isFunV.eq_def,con_joinedV.eq_def,con_kidsV.eq_def,con_partsV.eq_def,Zb,Zc,Zd,Ze,Zf,Zg,Zn,Zo,Zp,Zq,Zs,Zt,Zv,Zx,Zy,Z9,Qb,Qc,Qd,Qe,Qf,Qn,Qo,Qp,Qq,Qs,Q1,Q2,Q4,Q8,Jf,Jj,Jk,Jl,Jw,J3,J4,J5,J6,J8,J9,Xb,Xc,Xf,Xn,Xo,Xu,Xv,Xx,X2,X3,X5,X6,X7,Wa,Wb,We,Wg,Wh,Wi,Ws,Wt,Wu,Wv,Ww,Wx,Wy,Wz,W5,W6,W7,W8,W9,Ya,Yd,Ye,Yh,Yi,Yl,Ys,Yv,Yw,Yx,Yz,Y0,Y6,Y7,Va,Vb,Vc,Vd,Ve,Vf,Vg,Vi,Vl,Vn,Vo,Vr,Vs,Vt,V3,V4,V6,Uj,Uk,Ul,Um,Un,Uo,U4,Ky,U7,Kb,Kc,Ke]
         tactic =>
          try simp only [U0] at *
          try simp only [nc2] at *
          try simp (maxSteps := 4000000) only [con4t.eq_def,hx1,hy1,hw1,hR,hs,hro,hf,n4,n5,p0n,hb,ev,eu,hxs,Uv,Uy,Ux,Uw,szV,Ut,Ur,Uu,Uq,szN,Us,U3]
          repeat' (first | with_reducible assumption | with_reducible refine And.intro ?_ ?_ | intro _ | omega | (rw [Uz]; omega)))
      | false =>
        rw [hb] at hR2
        simp only [Bool.not_false, cond_true] at hR2
        subst hR2
        (sym =>
         simp [con4t.eq_def,hx1,hy1,hw1,hR,hs,hro,hf,n4,n5,p0n,hb,ev,eu,hxn,Uv,Uy,Ux,Uw,szV,Ut,Ur,Uu,Uq,szN,Us,Gd,Gg,Ge,Gi,con_CastV.eq_def,con_SameT.eq_def,con_functionV.eq_def,con_isBaseV.eq_def,con_isFunV.eq_def,con_joinedV.eq_def,con_kidsV.eq_def,con_partsV.eq_def,Zb,Zc,Zd,Ze,Zf,Zg,Zn,Zo,Zp,Zq,Zs,Zt,Zv,Zx,Zy,Z9,Qb,Qc,Qd,Qe,Qf,Qn,Qo,Qp,Qq,Qs,Q1,Q2,Q4,Q8,Jf,Jj,Jk,Jl,Jw,J3,J4,J5,J6,J8,J9,Xb,Xc,Xf,Xg,Xn,Xo,Xu,Xv,Xx,X3,X5,X6,X7,Wa,Wb,We,Wg,Wh,Wi,Ws,Wt,Wu,Wv,Ww,Wx,Wy,Wz,W5,W6,W7,W8,W9,Ya,Yd,Ye,Yh,Yi,Yl,Ys,Yv,Yw,Yx,Yz,Y0,Y6,Y7,Va,Vb,Vc,Vd,Ve,Vf,Vg,Vi,Vl,Vn,Vp,Vr,Vs,Vt,V3,V4,V6,Uj,Uk,Ul,Um,Un,Uo,U4,Ky,U7,Kb,Kc,Ke]
         tactic =>
          try simp only [U0] at *
          try simp only [nc2] at *
          try simp (maxSteps := 4000000) only [con4t.eq_def,hx1,hy1,hw1,hR,hs,hro,hf,n4,n5,p0n,hb,ev,eu,hxn,Uv,Uy,Ux,Uw,szV,Ut,Ur,Uu,Uq,szN,Us,U3]
          repeat' (first | with_reducible assumption | with_reducible refine And.intro ?_ ?_ | intro _ | omega | (rw [Uz]; omega)))
  | true =>
  rw [k45, cond_true] at hR2
  have h45 : m.kind = 4 ∨ m.kind = 5 := by simpa using k45
  have hex : ∃ x, OneV v x ∧ (x.root.kind = 4 ∨ x.root.kind = 5) := ⟨x, hx, by rw [hm]; exact h45⟩
  have hpx : ∀ z, partsX x z = match partsR m ks z with
      | some l => (⟨slsN l⟩, true)
      | none => (cond (z.root.kind == 7 && m.kind == 5) ⟨[⟨[]⟩]⟩ ⟨[]⟩, false) := fun z => by unfold partsX; (rw [hks, hm]) <;> rfl
  have hpy := hpx y
  have hpw := hpx w
  clear hpx
  obtain ⟨gy, hgy⟩ : ∃ gy : Sl (Sl Node), cond (y.root.kind == 7 && m.kind == 5) ⟨[⟨[]⟩]⟩ ⟨[]⟩ = gy := ⟨_, rfl⟩
  obtain ⟨gw, hgw⟩ : ∃ gw : Sl (Sl Node), cond (w.root.kind == 7 && m.kind == 5) ⟨[⟨[]⟩]⟩ ⟨[]⟩ = gw := ⟨_, rfl⟩
  rw [hgy] at hpy
  rw [hgw] at hpw
  rcases h45 with h | h
  · have n4 : (m.kind != 4) = false := by rw [h]; rfl
    cases hpa : partsR m ks y with
    | none =>
      rw [hpa] at hR2 hpy
      simp only at hR2 hpy
      obtain ⟨Bw, hBw⟩ : ∃ Bw, partsX x w = Bw := ⟨_, rfl⟩
      obtain ⟨b1, b2⟩ := Bw
      clear hpw
      subst hR2
      (sym =>
       simp [con4t.eq_def,hx1,hy1,hw1,hR,hs,hro,hf,n4,ev,hpy,hBw,hxn,Uv,Uy,Ux,Uw,szV,Ut,Ur,Uu,Uq,szN,Us,Gd,Gg,Ge,Gi,con_CastV.eq_def,con_SameT.eq_def,con_functionV.eq_def,con_isBaseV.eq_def,con_isFunV.eq_def,con_joinedV.eq_def,con_kidsV.eq_def,con_partsV.eq_def,Zb,Zc,Zd,Ze,Zf,Zg,Zn,Zo,Zp,Zq,Zs,Zt,Zv,Zx,Zy,Z8,Z9,Qb,Qc,Qd,Qe,Qf,Qg,Qn,Qo,Qp,Qq,Qs,Q1,Q2,Q4,Q8,Q9,Ja,Jf,Jj,Jk,Jl,Jw,J3,J4,J5,J6,J8,J9,Xb,Xc,Xf,Xg,Xn,Xo,Xu,Xv,Xx,X2,X3,X5,X6,X7,Wa,Wb,We,Wg,Wh,Wi,Ws,Wt,Wu,Wv,Ww,Wx,Wy,Wz,W5,W6,W7,W8,W9,Ya,Yd,Ye,Yh,Yi,Yl,Ys,Yv,Yw,Yx,Yz,Y0,Y6,Y7,Va,Vb,Vc,Vd,Ve,Vf,Vg,Vi,Vn,Vp,Vr,Vs,Vt,V3,V4,V6,Uj,Uk,Ul,Um,Un,Uo,U4,Ky,Kc,Ke]
       tactic =>
        try simp only [U0] at *
        try simp only [nc2] at *
        try simp (maxSteps := 4000000) only [con4t.eq_def,hx1,hy1,hw1,hR,hs,hro,hf,n4,ev,hpy,hBw,hxn,Uv,Uy,Ux,Uw,szV,Ut,Ur,Uu,Uq,szN,Us,U3]
        repeat' (first | with_reducible assumption | with_reducible refine And.intro ?_ ?_ | intro _ | omega | (rw [Uz]; omega))
        all_goals first
          | exact hex
          | exact ⟨y, hya⟩
          | exact ⟨w, hwa⟩
          | omega
          | skip)
    | some a =>
      rw [hpa] at hR2 hpy
      simp only at hR2 hpy
      cases hpb : partsR m ks w with
      | none =>
        rw [hpb] at hR2 hpw
        simp only at hR2 hpw
        subst hR2
        (sym =>
         simp [con4t.eq_def,hx1,hy1,hw1,hR,hs,hro,hf,n4,ev,hpy,hpw,hxn,Uv,Uy,Ux,Uw,szV,Ut,Ur,Uu,Uq,szN,Us,Gd,Gg,Ge,Gi,con_CastV.eq_def,con_SameT.eq_def,con_functionV.eq_def,con_isBaseV.eq_def,con_isFunV.eq_def,con_joinedV.eq_def,con_kidsV.eq_def,con_partsV.eq_def,Zb,Zc,Zd,Ze,Zf,Zg,Zn,Zo,Zp,Zq,Zs,Zt,Zv,Zx,Zy,Z8,Z9,Qb,Qc,Qd,Qe,Qf,Qg,Qn,Qo,Qp,Qq,Qs,Q1,Q2,Q4,Q8,Q9,Ja,Jf,Jj,Jk,Jl,Jw,J3,J4,J5,J6,J8,J9,Xb,Xc,Xf,Xg,Xn,Xo,Xu,Xv,Xx,X2,X3,X5,X6,X7,Wa,Wb,We,Wg,Wh,Wi,Ws,Wt,Wu,Wv,Ww,Wx,Wy,Wz,W5,W6,W7,W8,W9,Ya,Yd,Ye,Yh,Yi,Yl,Ys,Yv,Yw,Yx,Yz,Y0,Y6,Y7,Va,Vb,Vc,Vd,Ve,Vf,Vg,Vi,Vn,Vo,Vp,Vr,Vs,Vt,V3,V4,V6,Uj,Uk,Ul,Um,Un,Uo,U4,Ky,Kc,Ke]
         tactic =>
          try simp only [U0] at *
          try simp only [nc2] at *
          try simp (maxSteps := 4000000) only [con4t.eq_def,hx1,hy1,hw1,hR,hs,hro,hf,n4,ev,hpy,hpw,hxn,Uv,Uy,Ux,Uw,szV,Ut,Ur,Uu,Uq,szN,Us,U3]
          repeat' (first | with_reducible assumption | with_reducible refine And.intro ?_ ?_ | intro _ | omega | (rw [Uz]; omega))
          all_goals first
            | exact hex
            | exact ⟨y, hya⟩
            | exact ⟨w, hwa⟩
            | omega
            | skip)
      | some b =>
        rw [hpb] at hR2 hpw
        simp only at hR2 hpw
        rw [castRs_seq] at hR2
        have hal : a.length = ks.length := Bz hpa hk1
        have hbl : b.length = ks.length := Bz hpb hk1
        have hay := L4 hy.2 hpa
        have hby := L4 hw.2 hpb
        have hsa : (slsN a).length = ks.length := by rw [M0, hal]
        have hsb : (slsN b).length = ks.length := by rw [M0, hbl]
        obtain ⟨c, hc⟩ : ∃ c : Nat → Option (Rose VNode), c = fun j => castR lab (ks.getD j dv) (a.getD j dynT) (b.getD j dynT) := ⟨_, rfl⟩
        rw [← hc] at hR2
        (sym =>
         simp [con1w.eq_def,con4t.eq_def,hx1,hy1,hw1,hs,hro,hf,n4,ev,hpy,hpw,hks,hsl,Uv,Uy,Ux,Uw,szV,Ut,Ur,Uu,Uq,szN,Us,Gd,Gg,Ge,Gi,con_CastV.eq_def,con_SameT.eq_def,con_functionV.eq_def,con_isBaseV.eq_def,con_isFunV.eq_def,con_joinedV.eq_def,con_kidsV.eq_def,con_partsV.eq_def,Zb,Zc,Zd,Ze,Zf,Zg,Zn,Zo,Zp,Zq,Zs,Zt,Zv,Zx,Zy,Z6,Z8,Z9,Qb,Qc,Qd,Qe,Qf,Qg,Qq,Qs,Q1,Q2,Q4,Q8,Q9,Ja,Jf,Jh,Ji,Jj,Jl,Jw,J3,J4,J5,J6,J8,J9,Xb,Xc,Xf,Xn,Xo,Xu,Xv,Xx,X2,X3,X5,X6,X7,X8,Wb,We,Wg,Wh,Wi,Ws,Wt,Wu,Wv,Ww,Wx,Wy,Wz,W5,W6,W7,W8,W9,Ya,Yd,Ye,Yh,Yi,Yl,Ys,Yv,Yw,Yx,Yz,Y0,Y5,Y6,Y7,Va,Vb,Vc,Vd,Ve,Vf,Vg,Vi,Vn,Vo,Vr,Vs,Vt,V3,V4,V6,Uk,Ul,Um,Un,Uo,U4,Ky,Kc,Ke,Gl]
         tactic =>
          try simp only [U0] at *
          try simp only [nc2] at *
          try simp (maxSteps := 4000000) only [con1w.eq_def,con4t.eq_def,hx1,hy1,hw1,hs,hro,hf,n4,ev,hpy,hpw,hks,hsl,Uv,Uy,Ux,Uw,szV,Ut,Ur,Uu,Uq,szN,Us,U3]
          repeat' (first | with_reducible assumption | with_reducible refine And.intro ?_ ?_ | intro _ | omega | (rw [Uz]; omega))
          · exact ⟨y, hya⟩
          · exact ⟨w, hwa⟩
          · exact ⟨x, hx⟩
          refine Kd [8, 9, 15, 16, 17, 18, 85, 86, 87, 88, 89, 90, 91, 92, 93, 94, 95, 96, 97, 98, 99, 100, 101, 102, 103, 104, 105, 106, 107, 108, 109] (fun q : Nat × List (Rose VNode) => [(14, .sl 81 ((sls (q.2 ++ ks.drop q.1)).map (enc : Sl VNode → D)).length), (82, .sl 81 ((sls (q.2 ++ ks.drop q.1)).map (enc : Sl VNode → D)).length), (84, .d (.int .i64 q.1))]) (fun q : Nat × List (Rose VNode) => [(81, .row 1 ((sls (q.2 ++ ks.drop q.1)).map enc) 0)]) (fun q : Nat × List (Rose VNode) => q.1 ≤ ks.length ∧ seqO c q.1 = some q.2) (fun q : Nat × List (Rose VNode) => ks.length - q.1) (0, []) ?_ ?_ ?_
          · exact ⟨Nat.zero_le _, rfl⟩
          · ((try simp only [U1, killAll, setSlots, updAll, upd, U9, setCs, putC, Nat.reduceDiv, Nat.reduceMod, Nat.reduceMul, Nat.reduceAdd, Nat.reduceEqDiff, List.set_cons_zero, List.set_cons_succ, if_true, if_false, reduceIte]); (first | refine Wk.of_fl ?_ | skip); simp only [Wk, wkK, wkCs, wkT, wk1, AV.kept, keptAll, wkO, lk, wkObj, and_true, true_and, and_self, Nat.reduceEqDiff, Nat.reduceLeDiff, if_true, if_false, reduceIte, reduceCtorEq, Option.isSome, false_implies]; try simp [Wk, wkK, wkT, wk1, AV.kept, keptAll, wkO, lk, wkObj, hsl])
          rintro ⟨k, ys⟩ ⟨hk, hq⟩
          simp only at hk hq
          have hyl2 := Bu hq
          have hml : (sls (ys ++ ks.drop k)).length = ks.length := by rw [Nb, Sv hk hyl2]
          rcases Kg k ks.length with ⟨hlt, hlb⟩ | ⟨hlt, hlb⟩
          · have q1 := U8 (⟨[]⟩ : Sl VNode) (show k < (sls (ys ++ ks.drop k)).length by omega)
            rw [Bt (by rw [Sv hk hyl2]; exact hlt), mix_at hlt hyl2] at q1
            have q2 := U8 (⟨[]⟩ : Sl Node) (show k < (slsN a).length by omega)
            rw [Cr (show k < a.length by omega)] at q2
            have q3 := U8 (⟨[]⟩ : Sl Node) (show k < (slsN b).length by omega)
            rw [Cr (show k < b.length by omega)] at q3
            have hck : c k = castR lab ks[k] (a[k]'(by omega)) (b[k]'(by omega)) := by rw [hc]; simp [hlt, show k < a.length by omega, show k < b.length by omega]
            have g1 := hsub hlt
            have g2 := hlen hlt
            have g4 := L8 (hay _ (List.getElem_mem (show k < a.length by omega)))
            have g5 := L8 (hby _ (List.getElem_mem (show k < b.length by omega)))
            obtain ⟨z, hz⟩ : ∃ z, ks[k] = z := ⟨_, rfl⟩
            obtain ⟨za, hza⟩ : ∃ za, a[k]'(by omega) = za := ⟨_, rfl⟩
            obtain ⟨zb, hzb⟩ : ∃ zb, b[k]'(by omega) = zb := ⟨_, rfl⟩
            rw [hz] at q1 g1 g2 hck
            rw [hza] at q2 g4 hck
            rw [hzb] at q3 g5 hck
            have tz := g1.tree
            have ta := g4.tree
            have tb := g5.tree
            cases hcc : castR lab z za zb with
            | none =>
              rw [hcc] at hck
              rw [Rr hck hlt] at hR2
              simp only [Option.map_none] at hR2
              subst hR2
              (sym =>
               simp [con1w.eq_def,con4t.eq_def,hlb,hml,q1,q2,q3,hsa,hsb,tz,ta,tb,hcc,hxn,hx1,hy1,hw1,hR,Uv,Uy,Ux,Uw,szV,Ut,Ur,Uu,Uq,szN,Us,Gd,Gg,Ge,Gi,Lu,con_CastV.eq_def,con_SameT.eq_def,con_functionV.eq_def,con_isBaseV.eq_def,con_isFunV.eq_def,con_joinedV.eq_def,con_kidsV.eq_def,con_partsV.eq_def,Zb,Zc,Ze,Zf,Zg,Zh,Zi,Zj,Zk,Zl,Zm,Zn,Zo,Zp,Zq,Zv,Zy,Z8,Z9,Qb,Qc,Qd,Qe,Qf,Qg,Qn,Qo,Qp,Qq,Qr,Qs,Q1,Q2,Q4,Q5,Q6,Q8,Q9,Ja,Jf,Jh,Ji,Jj,Jk,Jl,Jy,Jz,J0,J5,J6,J8,J9,Xb,Xc,Xf,Xg,Xu,Xv,Xx,X2,X3,X4,X5,X6,X7,Wa,Wb,Wc,Wd,We,Wf,Wg,Wh,Wi,Wo,Wp,Wq,Wr,Ws,Wt,Wu,Wv,Ww,Wy,Wz,W3,W4,W5,W6,W9,Ya,Yc,Yd,Ye,Yh,Yi,Yl,Yx,Yz,Y0,Y2,Y5,Y6,Y7,Vb,Vg,Vi,Vl,Vn,Vp,Vq,Vs,Vt,V4,V6,Uj,Uk,Ul,Um,Un,Uo,Up,U4,Ky,U7,Kc,Ke,Gt,Gl]
               tactic =>
                try simp only [U0] at *
                try simp only [nc2] at *
                try simp (maxSteps := 4000000) only [con1w.eq_def,con4t.eq_def,hlb,hml,q1,q2,q3,hsa,hsb,tz,ta,tb,hcc,hxn,hx1,hy1,hw1,hR,Uv,Uy,Ux,Uw,szV,Ut,Ur,Uu,Uq,szN,Us,U3]
                repeat' (first | with_reducible assumption | with_reducible refine And.intro ?_ ?_ | intro _ | omega | (rw [Uz]; omega))
                all_goals first
                  | (with_reducible refine Kf ?_; kernel_rfl)
                  | omega
                  | exact ⟨_, g1⟩
                  | exact ⟨_, g4⟩
                  | exact ⟨_, g5⟩
                  | skip)
            | some yk =>
              rw [hcc] at hck
              have hsn : seqO c (k + 1) = some (ys ++ [yk]) := by rw [seqO, hq, hck]
              have hos : optX (some yk) = (⟨nds yk⟩, true) := rfl
              have hset := sls_set (ks := ys ++ ks.drop k) (k := k) (y := yk)
              rw [mix_set hlt hyl2] at hset
              have hml2 : (sls (ys ++ [yk] ++ ks.drop (k + 1))).length = ks.length := by rw [Nb, Sv (by omega) (Bu hsn)]
              have hml3 : (sls (ys ++ yk :: ks.drop (k + 1))).length = ks.length := by rw [← hml2, List.append_assoc]; rfl
              (sym =>
               simp [con1w.eq_def,con4t.eq_def,hlb,hml,q1,q2,q3,hsa,hsb,tz,ta,tb,hcc,hos,hset,Uv,Uy,Ux,Uw,szV,Ut,Ur,Uu,Uq,szN,Us,Gd,Gg,Ge,Gi,Lu,con_CastV.eq_def,con_SameT.eq_def,con_functionV.eq_def,con_isBaseV.eq_def,con_isFunV.eq_def,con_joinedV.eq_def,con_kidsV.eq_def,con_partsV.eq_def,Zb,Zc,Ze,Zf,Zg,Zh,Zi,Zj,Zk,Zl,Zm,Zo,Zp,Zq,Zv,Zw,Zy,Z8,Z9,Qb,Qc,Qd,Qe,Qf,Qg,Qq,Qr,Qs,Q1,Q2,Q4,Q5,Q6,Q8,Q9,Ja,Jf,Jh,Ji,Jj,Jl,Jy,Jz,J0,J5,J6,J8,J9,Xb,Xc,Xf,Xu,Xv,Xx,X2,X3,X4,X5,X6,X7,Wb,Wc,Wd,We,Wf,Wg,Wh,Wi,Wo,Wp,Wq,Wr,Ws,Wt,Wu,Wv,Ww,Wy,Wz,W3,W4,W5,W6,W9,Ya,Yc,Yd,Ye,Yh,Yi,Yl,Yx,Yz,Y0,Y1,Y2,Y5,Y6,Y7,Vb,Vg,Vi,Vl,Vn,Vo,Vq,Vs,Vt,Vz,V3,Uj,Uk,Ul,Um,Un,Uo,Up,U4,Ky,U7,Kc,Gt,Gl]
               tactic =>
                try simp only [U0] at *
                try simp only [nc2] at *
                try simp (maxSteps := 4000000) only [con1w.eq_def,con4t.eq_def,hlb,hml,q1,q2,q3,hsa,hsb,tz,ta,tb,hcc,hos,hset,Uv,Uy,Ux,Uw,szV,Ut,Ur,Uu,Uq,szN,Us,U3]
                repeat' (first | with_reducible assumption | with_reducible refine And.intro ?_ ?_ | intro _ | omega | (rw [Uz]; omega))
                all_goals first
                  | (with_reducible refine Kf ?_; kernel_rfl)
                  | omega
                  | exact ⟨_, g1⟩
                  | exact ⟨_, g4⟩
                  | exact ⟨_, g5⟩
                  | exact ⟨(k + 1, ys ++ [yk]), by ((try simp only [U1, killAll, setSlots, updAll, upd, U9, setCs, putC, Nat.reduceDiv, Nat.reduceMod, Nat.reduceMul, Nat.reduceAdd, Nat.reduceEqDiff, List.set_cons_zero, List.set_cons_succ, if_true, if_false, reduceIte]); (first | refine Wk.of_fl ?_ | skip); simp only [Wk, wkK, wkCs, wkT, wk1, AV.kept, keptAll, wkO, lk, wkObj, and_true, true_and, and_self, Nat.reduceEqDiff, Nat.reduceLeDiff, if_true, if_false, reduceIte, reduceCtorEq, Option.isSome, false_implies]; try simp [Wk, wkK, wkT, wk1, AV.kept, keptAll, wkO, lk, wkObj, hml, hml2, hml3]), by simp only; omega, hsn, by simp only; omega⟩
                  | skip)
          · have hkl2 : k = ks.length := by omega
            rw [hkl2] at hq
            rw [hq] at hR2
            simp only [Option.map_some] at hR2
            have hcl2 := hcl _ hR2.symm
            rw [Gj, List.length_cons] at hcl2
            have hfl2 := Fp ys
            have hos : optX R = (⟨m :: ndss ys⟩, true) := by rw [← hR2]; simp only [optX, Gj]
            have hdr : ys ++ ks.drop k = ys := by rw [hkl2, List.drop_length, List.append_nil]
            rw [hdr] at hml ⊢
            have hsy : (sls ys).length ≤ 1000000 := by rw [hml]; omega
            (sym =>
             simp [con1w.eq_def,con4t.eq_def,hlb,hml,ev,hfl2,hx1,hy1,hw1,hR,hos,Uv,Uy,Ux,Uw,szV,Ut,Ur,Uu,Uq,szN,Us,Gd,Gg,Ge,Gi,con_CastV.eq_def,con_SameT.eq_def,con_functionV.eq_def,con_isBaseV.eq_def,con_isFunV.eq_def,con_joinedV.eq_def,con_kidsV.eq_def,con_partsV.eq_def,Zb,Zc,Ze,Zf,Zg,Zo,Zp,Zq,Zv,Zy,Z9,Qb,Qd,Qe,Qf,Qn,Qo,Qp,Qq,Qs,Q1,Q2,Q4,Q8,Jf,Jh,Ji,Jj,Jk,Jl,Jy,Jz,J0,J5,J6,J7,J8,J9,Xa,Xb,Xc,Xf,Xh,Xp,Xu,Xv,Xx,X3,X5,X6,X9,Wa,Wb,We,Wg,Wh,Wi,Ws,Wt,Wu,Wv,Ww,Wy,Wz,W9,Ya,Yc,Yd,Yh,Yl,Yz,Y0,Y6,Y7,Y8,Y9,Vj,Vk,Vr,Vs,Vt,V3,V4,Uk,Ul,Um,Un,Uo,U4,Kc,Ke]
             tactic =>
              try simp only [U0] at *
              try simp only [nc2] at *
              try simp (maxSteps := 4000000) only [con1w.eq_def,con4t.eq_def,hlb,hml,ev,hfl2,hx1,hy1,hw1,hR,hos,Uv,Uy,Ux,Uw,szV,Ut,Ur,Uu,Uq,szN,Us,U3]
              repeat' (first | with_reducible assumption | with_reducible refine And.intro ?_ ?_ | intro _ | omega | (rw [Uz]; omega))
              all_goals first
                | (with_reducible refine Kf ?_; kernel_rfl)
                | omega
                | skip))
  · have n4 : (m.kind != 4) = true := by rw [h]; rfl
    have n5 : (m.kind != 5) = false := by rw [h]; rfl
    cases hpa : partsR m ks y with
    | none =>
      rw [hpa] at hR2 hpy
      simp only at hR2 hpy
      obtain ⟨Bw, hBw⟩ : ∃ Bw, partsX x w = Bw := ⟨_, rfl⟩
      obtain ⟨b1, b2⟩ := Bw
      clear hpw
      subst hR2
      (sym =>
       simp [con4t.eq_def,hx1,hy1,hw1,hR,hs,hro,hf,n4,n5,ev,hpy,hBw,hxn,Uv,Uy,Ux,Uw,szV,Ut,Ur,Uu,Uq,szN,Us,Gd,Gg,Ge,Gi,con_CastV.eq_def,con_SameT.eq_def,con_functionV.eq_def,con_isBaseV.eq_def,con_isFunV.eq_def,con_joinedV.eq_def,con_kidsV.eq_def,con_partsV.eq_def,Zb,Zc,Zd,Ze,Zf,Zg,Zn,Zo,Zp,Zq,Zs,Zt,Zv,Zx,Zy,Z8,Z9,Qb,Qc,Qd,Qe,Qf,Qg,Qn,Qo,Qp,Qq,Qs,Q1,Q2,Q4,Q8,Q9,Ja,Jf,Jj,Jk,Jl,Jw,J3,J4,J5,J6,J8,J9,Xb,Xc,Xf,Xg,Xn,Xo,Xu,Xv,Xx,X2,X3,X5,X6,X7,Wa,Wb,We,Wg,Wh,Wi,Ws,Wt,Wu,Wv,Ww,Wx,Wy,Wz,W5,W6,W7,W8,W9,Ya,Yd,Ye,Yh,Yi,Yl,Ys,Yv,Yw,Yx,Yz,Y0,Y6,Y7,Va,Vb,Vc,Vd,Ve,Vf,Vg,Vi,Vn,Vp,Vr,Vs,Vt,V3,V4,V6,Uj,Uk,Ul,Um,Un,Uo,U4,Ky,Kc,Ke]
       tactic =>
        try simp only [U0] at *
        try simp only [nc2] at *
        try simp (maxSteps := 4000000) only [con4t.eq_def,hx1,hy1,hw1,hR,hs,hro,hf,n4,n5,ev,hpy,hBw,hxn,Uv,Uy,Ux,Uw,szV,Ut,Ur,Uu,Uq,szN,Us,U3]
        repeat' (first | with_reducible assumption | with_reducible refine And.intro ?_ ?_ | intro _ | omega | (rw [Uz]; omega))
        all_goals first
          | exact hex
          | exact ⟨y, hya⟩
          | exact ⟨w, hwa⟩
          | omega
          | skip)
    | some a =>
      rw [hpa] at hR2 hpy
      simp only at hR2 hpy
      cases hpb : partsR m ks w with
      | none =>
        rw [hpb] at hR2 hpw
        simp only at hR2 hpw
        subst hR2
        (sym =>
         simp [con4t.eq_def,hx1,hy1,hw1,hR,hs,hro,hf,n4,n5,ev,hpy,hpw,hxn,Uv,Uy,Ux,Uw,szV,Ut,Ur,Uu,Uq,szN,Us,Gd,Gg,Ge,Gi,con_CastV.eq_def,con_SameT.eq_def,con_functionV.eq_def,con_isBaseV.eq_def,con_isFunV.eq_def,con_joinedV.eq_def,con_kidsV.eq_def,con_partsV.eq_def,Zb,Zc,Zd,Ze,Zf,Zg,Zn,Zo,Zp,Zq,Zs,Zt,Zv,Zx,Zy,Z8,Z9,Qb,Qc,Qd,Qe,Qf,Qg,Qn,Qo,Qp,Qq,Qs,Q1,Q2,Q4,Q8,Q9,Ja,Jf,Jj,Jk,Jl,Jw,J3,J4,J5,J6,J8,J9,Xb,Xc,Xf,Xg,Xn,Xo,Xu,Xv,Xx,X2,X3,X5,X6,X7,Wa,Wb,We,Wg,Wh,Wi,Ws,Wt,Wu,Wv,Ww,Wx,Wy,Wz,W5,W6,W7,W8,W9,Ya,Yd,Ye,Yh,Yi,Yl,Ys,Yv,Yw,Yx,Yz,Y0,Y6,Y7,Va,Vb,Vc,Vd,Ve,Vf,Vg,Vi,Vn,Vo,Vp,Vr,Vs,Vt,V3,V4,V6,Uj,Uk,Ul,Um,Un,Uo,U4,Ky,Kc,Ke]
         tactic =>
          try simp only [U0] at *
          try simp only [nc2] at *
          try simp (maxSteps := 4000000) only [con4t.eq_def,hx1,hy1,hw1,hR,hs,hro,hf,n4,n5,ev,hpy,hpw,hxn,Uv,Uy,Ux,Uw,szV,Ut,Ur,Uu,Uq,szN,Us,U3]
          repeat' (first | with_reducible assumption | with_reducible refine And.intro ?_ ?_ | intro _ | omega | (rw [Uz]; omega))
          all_goals first
            | exact hex
            | exact ⟨y, hya⟩
            | exact ⟨w, hwa⟩
            | omega
            | skip)
      | some b =>
        rw [hpb] at hR2 hpw
        simp only at hR2 hpw
        rw [castRs_seq] at hR2
        have hal : a.length = ks.length := Bz hpa hk1
        have hbl : b.length = ks.length := Bz hpb hk1
        have hay := L4 hy.2 hpa
        have hby := L4 hw.2 hpb
        have hsa : (slsN a).length = ks.length := by rw [M0, hal]
        have hsb : (slsN b).length = ks.length := by rw [M0, hbl]
        obtain ⟨c, hc⟩ : ∃ c : Nat → Option (Rose VNode), c = fun j => castR lab (ks.getD j dv) (a.getD j dynT) (b.getD j dynT) := ⟨_, rfl⟩
        rw [← hc] at hR2
        (sym =>
         simp [con1w.eq_def,con4t.eq_def,hx1,hy1,hw1,hs,hro,hf,n4,n5,ev,hpy,hpw,hks,hsl,Uv,Uy,Ux,Uw,szV,Ut,Ur,Uu,Uq,szN,Us,Gd,Gg,Ge,Gi,con_CastV.eq_def,con_SameT.eq_def,con_functionV.eq_def,con_isBaseV.eq_def,con_isFunV.eq_def,con_joinedV.eq_def,con_kidsV.eq_def,con_partsV.eq_def,Zb,Zc,Zd,Ze,Zf,Zg,Zn,Zo,Zp,Zq,Zs,Zt,Zv,Zx,Zy,Z6,Z8,Z9,Qb,Qc,Qd,Qe,Qf,Qg,Qq,Qs,Q1,Q2,Q4,Q8,Q9,Ja,Jf,Jh,Ji,Jj,Jl,Jw,J3,J4,J5,J6,J8,J9,Xb,Xc,Xf,Xn,Xo,Xu,Xv,Xx,X2,X3,X5,X6,X7,X8,Wb,We,Wg,Wh,Wi,Ws,Wt,Wu,Wv,Ww,Wx,Wy,Wz,W5,W6,W7,W8,W9,Ya,Yd,Ye,Yh,Yi,Yl,Ys,Yv,Yw,Yx,Yz,Y0,Y5,Y6,Y7,Va,Vb,Vc,Vd,Ve,Vf,Vg,Vi,Vn,Vo,Vr,Vs,Vt,V3,V4,V6,Uj,Uk,Ul,Um,Un,Uo,U4,Ky,Kc,Ke,Gl]
         tactic =>
          try simp only [U0] at *
          try simp only [nc2] at *
          try simp (maxSteps := 4000000) only [con1w.eq_def,con4t.eq_def,hx1,hy1,hw1,hs,hro,hf,n4,n5,ev,hpy,hpw,hks,hsl,Uv,Uy,Ux,Uw,szV,Ut,Ur,Uu,Uq,szN,Us,U3]
          repeat' (first | with_reducible assumption | with_reducible refine And.intro ?_ ?_ | intro _ | omega | (rw [Uz]; omega))
          · exact ⟨y, hya⟩
          · exact ⟨w, hwa⟩
          · exact ⟨x, hx⟩
          refine Kd [8, 9, 15, 16, 17, 18, 85, 86, 87, 88, 89, 90, 91, 92, 93, 94, 95, 96, 97, 98, 99, 100, 101, 102, 103, 104, 105, 106, 107, 108, 109] (fun q : Nat × List (Rose VNode) => [(14, .sl 81 ((sls (q.2 ++ ks.drop q.1)).map (enc : Sl VNode → D)).length), (82, .sl 81 ((sls (q.2 ++ ks.drop q.1)).map (enc : Sl VNode → D)).length), (84, .d (.int .i64 q.1))]) (fun q : Nat × List (Rose VNode) => [(81, .row 1 ((sls (q.2 ++ ks.drop q.1)).map enc) 0)]) (fun q : Nat × List (Rose VNode) => q.1 ≤ ks.length ∧ seqO c q.1 = some q.2) (fun q : Nat × List (Rose VNode) => ks.length - q.1) (0, []) ?_ ?_ ?_
          · exact ⟨Nat.zero_le _, rfl⟩
          · ((try simp only [U1, killAll, setSlots, updAll, upd, U9, setCs, putC, Nat.reduceDiv, Nat.reduceMod, Nat.reduceMul, Nat.reduceAdd, Nat.reduceEqDiff, List.set_cons_zero, List.set_cons_succ, if_true, if_false, reduceIte]); (first | refine Wk.of_fl ?_ | skip); simp only [Wk, wkK, wkCs, wkT, wk1, AV.kept, keptAll, wkO, lk, wkObj, and_true, true_and, and_self, Nat.reduceEqDiff, Nat.reduceLeDiff, if_true, if_false, reduceIte, reduceCtorEq, Option.isSome, false_implies]; try simp [Wk, wkK, wkT, wk1, AV.kept, keptAll, wkO, lk, wkObj, hsl])
          rintro ⟨k, ys⟩ ⟨hk, hq⟩
          simp only at hk hq
          have hyl2 := Bu hq
          have hml : (sls (ys ++ ks.drop k)).length = ks.length := by rw [Nb, Sv hk hyl2]
          rcases Kg k ks.length with ⟨hlt, hlb⟩ | ⟨hlt, hlb⟩
          · have q1 := U8 (⟨[]⟩ : Sl VNode) (show k < (sls (ys ++ ks.drop k)).length by omega)
            rw [Bt (by rw [Sv hk hyl2]; exact hlt), mix_at hlt hyl2] at q1
            have q2 := U8 (⟨[]⟩ : Sl Node) (show k < (slsN a).length by omega)
            rw [Cr (show k < a.length by omega)] at q2
            have q3 := U8 (⟨[]⟩ : Sl Node) (show k < (slsN b).length by omega)
            rw [Cr (show k < b.length by omega)] at q3
            have hck : c k = castR lab ks[k] (a[k]'(by omega)) (b[k]'(by omega)) := by rw [hc]; simp [hlt, show k < a.length by omega, show k < b.length by omega]
            have g1 := hsub hlt
            have g2 := hlen hlt
            have g4 := L8 (hay _ (List.getElem_mem (show k < a.length by omega)))
            have g5 := L8 (hby _ (List.getElem_mem (show k < b.length by omega)))
            obtain ⟨z, hz⟩ : ∃ z, ks[k] = z := ⟨_, rfl⟩
            obtain ⟨za, hza⟩ : ∃ za, a[k]'(by omega) = za := ⟨_, rfl⟩
            obtain ⟨zb, hzb⟩ : ∃ zb, b[k]'(by omega) = zb := ⟨_, rfl⟩
            rw [hz] at q1 g1 g2 hck
            rw [hza] at q2 g4 hck
            rw [hzb] at q3 g5 hck
            have tz := g1.tree
            have ta := g4.tree
            have tb := g5.tree
            cases hcc : castR lab z za zb with
            | none =>
              rw [hcc] at hck
              rw [Rr hck hlt] at hR2
              simp only [Option.map_none] at hR2
              subst hR2
              (sym =>
               simp [con1w.eq_def,con4t.eq_def,hlb,hml,q1,q2,q3,hsa,hsb,tz,ta,tb,hcc,hxn,hx1,hy1,hw1,hR,Uv,Uy,Ux,Uw,szV,Ut,Ur,Uu,Uq,szN,Us,Gd,Gg,Ge,Gi,Lu,con_CastV.eq_def,con_SameT.eq_def,con_functionV.eq_def,con_isBaseV.eq_def,con_isFunV.eq_def,con_joinedV.eq_def,con_kidsV.eq_def,con_partsV.eq_def,Zb,Zc,Ze,Zf,Zg,Zh,Zi,Zj,Zk,Zl,Zm,Zn,Zo,Zp,Zq,Zv,Zy,Z8,Z9,Qb,Qc,Qd,Qe,Qf,Qg,Qn,Qo,Qp,Qq,Qr,Qs,Q1,Q2,Q4,Q5,Q6,Q8,Q9,Ja,Jf,Jh,Ji,Jj,Jk,Jl,Jy,Jz,J0,J5,J6,J8,J9,Xb,Xc,Xf,Xg,Xu,Xv,Xx,X2,X3,X4,X5,X6,X7,Wa,Wb,Wc,Wd,We,Wf,Wg,Wh,Wi,Wo,Wp,Wq,Wr,Ws,Wt,Wu,Wv,Ww,Wy,Wz,W3,W4,W5,W6,W9,Ya,Yc,Yd,Ye,Yh,Yi,Yl,Yx,Yz,Y0,Y2,Y5,Y6,Y7,Vb,Vg,Vi,Vl,Vn,Vp,Vq,Vs,Vt,V4,V6,Uj,Uk,Ul,Um,Un,Uo,Up,U4,Ky,U7,Kc,Ke,Gt,Gl]
               tactic =>
                try simp only [U0] at *
                try simp only [nc2] at *
                try simp (maxSteps := 4000000) only [con1w.eq_def,con4t.eq_def,hlb,hml,q1,q2,q3,hsa,hsb,tz,ta,tb,hcc,hxn,hx1,hy1,hw1,hR,Uv,Uy,Ux,Uw,szV,Ut,Ur,Uu,Uq,szN,Us,U3]
                repeat' (first | with_reducible assumption | with_reducible refine And.intro ?_ ?_ | intro _ | omega | (rw [Uz]; omega))
                all_goals first
                  | (with_reducible refine Kf ?_; kernel_rfl)
                  | omega
                  | exact ⟨_, g1⟩
                  | exact ⟨_, g4⟩
                  | exact ⟨_, g5⟩
                  | skip)
            | some yk =>
              rw [hcc] at hck
              have hsn : seqO c (k + 1) = some (ys ++ [yk]) := by rw [seqO, hq, hck]
              have hos : optX (some yk) = (⟨nds yk⟩, true) := rfl
              have hset := sls_set (ks := ys ++ ks.drop k) (k := k) (y := yk)
              rw [mix_set hlt hyl2] at hset
              have hml2 : (sls (ys ++ [yk] ++ ks.drop (k + 1))).length = ks.length := by rw [Nb, Sv (by omega) (Bu hsn)]
              have hml3 : (sls (ys ++ yk :: ks.drop (k + 1))).length = ks.length := by rw [← hml2, List.append_assoc]; rfl
              (sym =>
               simp [con1w.eq_def,con4t.eq_def,hlb,hml,q1,q2,q3,hsa,hsb,tz,ta,tb,hcc,hos,hset,Uv,Uy,Ux,Uw,szV,Ut,Ur,Uu,Uq,szN,Us,Gd,Gg,Ge,Gi,Lu,con_CastV.eq_def,con_SameT.eq_def,con_functionV.eq_def,con_isBaseV.eq_def,con_isFunV.eq_def,con_joinedV.eq_def,con_kidsV.eq_def,con_partsV.eq_def,Zb,Zc,Ze,Zf,Zg,Zh,Zi,Zj,Zk,Zl,Zm,Zo,Zp,Zq,Zv,Zw,Zy,Z8,Z9,Qb,Qc,Qd,Qe,Qf,Qg,Qq,Qr,Qs,Q1,Q2,Q4,Q5,Q6,Q8,Q9,Ja,Jf,Jh,Ji,Jj,Jl,Jy,Jz,J0,J5,J6,J8,J9,Xb,Xc,Xf,Xu,Xv,Xx,X2,X3,X4,X5,X6,X7,Wb,Wc,Wd,We,Wf,Wg,Wh,Wi,Wo,Wp,Wq,Wr,Ws,Wt,Wu,Wv,Ww,Wy,Wz,W3,W4,W5,W6,W9,Ya,Yc,Yd,Ye,Yh,Yi,Yl,Yx,Yz,Y0,Y1,Y2,Y5,Y6,Y7,Vb,Vg,Vi,Vl,Vn,Vo,Vq,Vs,Vt,Vz,V3,Uj,Uk,Ul,Um,Un,Uo,Up,U4,Ky,U7,Kc,Gt,Gl]
               tactic =>
                try simp only [U0] at *
                try simp only [nc2] at *
                try simp (maxSteps := 4000000) only [con1w.eq_def,con4t.eq_def,hlb,hml,q1,q2,q3,hsa,hsb,tz,ta,tb,hcc,hos,hset,Uv,Uy,Ux,Uw,szV,Ut,Ur,Uu,Uq,szN,Us,U3]
                repeat' (first | with_reducible assumption | with_reducible refine And.intro ?_ ?_ | intro _ | omega | (rw [Uz]; omega))
                all_goals first
                  | (with_reducible refine Kf ?_; kernel_rfl)
                  | omega
                  | exact ⟨_, g1⟩
                  | exact ⟨_, g4⟩
                  | exact ⟨_, g5⟩
                  | exact ⟨(k + 1, ys ++ [yk]), by ((try simp only [U1, killAll, setSlots, updAll, upd, U9, setCs, putC, Nat.reduceDiv, Nat.reduceMod, Nat.reduceMul, Nat.reduceAdd, Nat.reduceEqDiff, List.set_cons_zero, List.set_cons_succ, if_true, if_false, reduceIte]); (first | refine Wk.of_fl ?_ | skip); simp only [Wk, wkK, wkCs, wkT, wk1, AV.kept, keptAll, wkO, lk, wkObj, and_true, true_and, and_self, Nat.reduceEqDiff, Nat.reduceLeDiff, if_true, if_false, reduceIte, reduceCtorEq, Option.isSome, false_implies]; try simp [Wk, wkK, wkT, wk1, AV.kept, keptAll, wkO, lk, wkObj, hml, hml2, hml3]), by simp only; omega, hsn, by simp only; omega⟩
                  | skip)
          · have hkl2 : k = ks.length := by omega
            rw [hkl2] at hq
            rw [hq] at hR2
            simp only [Option.map_some] at hR2
            have hcl2 := hcl _ hR2.symm
            rw [Gj, List.length_cons] at hcl2
            have hfl2 := Fp ys
            have hos : optX R = (⟨m :: ndss ys⟩, true) := by rw [← hR2]; simp only [optX, Gj]
            have hdr : ys ++ ks.drop k = ys := by rw [hkl2, List.drop_length, List.append_nil]
            rw [hdr] at hml ⊢
            have hsy : (sls ys).length ≤ 1000000 := by rw [hml]; omega
            (sym =>
             simp [con1w.eq_def,con4t.eq_def,hlb,hml,ev,hfl2,hx1,hy1,hw1,hR,hos,Uv,Uy,Ux,Uw,szV,Ut,Ur,Uu,Uq,szN,Us,Gd,Gg,Ge,Gi,con_CastV.eq_def,con_SameT.eq_def,con_functionV.eq_def,con_isBaseV.eq_def,con_isFunV.eq_def,con_joinedV.eq_def,con_kidsV.eq_def,con_partsV.eq_def,Zb,Zc,Ze,Zf,Zg,Zo,Zp,Zq,Zv,Zy,Z9,Qb,Qd,Qe,Qf,Qn,Qo,Qp,Qq,Qs,Q1,Q2,Q4,Q8,Jf,Jh,Ji,Jj,Jk,Jl,Jy,Jz,J0,J5,J6,J7,J8,J9,Xa,Xb,Xc,Xf,Xh,Xp,Xu,Xv,Xx,X3,X5,X6,X9,Wa,Wb,We,Wg,Wh,Wi,Ws,Wt,Wu,Wv,Ww,Wy,Wz,W9,Ya,Yc,Yd,Yh,Yl,Yz,Y0,Y6,Y7,Y8,Y9,Vj,Vk,Vr,Vs,Vt,V3,V4,Uk,Ul,Um,Un,Uo,U4,Kc,Ke]
             tactic =>
              try simp only [U0] at *
              try simp only [nc2] at *
              try simp (maxSteps := 4000000) only [con1w.eq_def,con4t.eq_def,hlb,hml,ev,hfl2,hx1,hy1,hw1,hR,hos,Uv,Uy,Ux,Uw,szV,Ut,Ur,Uu,Uq,szN,Us,U3]
              repeat' (first | with_reducible assumption | with_reducible refine And.intro ?_ ?_ | intro _ | omega | (rw [Uz]; omega))
              all_goals first
                | (with_reducible refine Kf ?_; kernel_rfl)
                | omega
                | skip))
theorem Au : ∀ n, Good Try.prog (35, con_CastV n)
  | 0 => Mv (U2 Try.func35 (by kernel_rfl) rfl) con_CastV_zero
  | n + 1 => step_CastV n (Au n)
end Go.Am.Ty
set_option linter.unusedSimpArgs false
set_option linter.unusedVariables false
set_option maxHeartbeats 2000000
namespace Go.Am.Ty
open Go.Proofs Go.Rose Go.Rose.Rose
open Enc (enc dec)
noncomputable def con_CastVA : Con := con_CastV 100001
theorem good_CastVA : Good Try.prog (35, con_CastVA) := Au _
theorem Rg : con_CastVA = con4t (fun (v : Sl VNode) (t u : Sl Node) (_ : Int) => v.l.length ≤ 100000 ∧ (∃ x, OneV v.l x) ∧ (∃ y, OneN t.l y) ∧ (∃ z, OneN u.l z) ∧ v.l.length < 100001) (fun v t u lab => optX (castR lab (treeAt arV v.l 0) (treeAt ar t.l 0) (treeAt ar u.l 0))) := rfl
noncomputable def con_FitsVA : Con := con_FitsV 1000001
theorem A3 : Good Try.prog (34, con_FitsVA) := As _
theorem Bn : con_FitsVA = con2 (fun (v : Sl VNode) (t : Sl Node) => v.l.length ≤ 1000000 ∧ (∃ x, OneV v.l x) ∧ (∀ m ∈ v.l, Short2 m) ∧ (∃ y, OneN t.l y) ∧ v.l.length < 1000001) (fun v t => fitsR (treeAt arV v.l 0) (treeAt ar t.l 0)) := rfl
noncomputable def con_PlainVA : Con := con_PlainV 1000001
theorem good_PlainVA : Good Try.prog (39, con_PlainVA) := Fd _
theorem Dn : con_PlainVA = con1 (fun (v : Sl VNode) => v.l.length ≤ 1000000 ∧ (∃ x, OneV v.l x) ∧ v.l.length < 1000001) (fun v => Sl.mk (nds (plainR (treeAt arV v.l 0)))) := rfl
def InVal (v : List VNode) : Prop := v.length ≤ 9223372036854775807 ∧ ∀ n ∈ v, (n.label.length ≤ 9223372036854775807 ∧ n.name.length ≤ 9223372036854775807) ∧ In n.t ∧ In n.u
theorem inW_of {v : List VNode} (h : InVal v) : InW v := ⟨h.1, fun n hn => ⟨(h.2 n hn).1, (h.2 n hn).2.1.1, (h.2 n hn).2.2.1⟩⟩
theorem few_of {v : List VNode} (h : fewV v 40 = true) : v.length ≤ 40 ∧ ∀ n ∈ v, longV n = false := by
  unfold fewV at h
  rw [K7] at h
  refine ⟨?_, fun n hn => ?_⟩
  · rcases Nat.lt_or_ge 40 v.length with h1 | h1
    · have := h 40 h1
      simp at this
    · exact h1
  · obtain ⟨j, hj, rfl⟩ := List.getElem_of_mem hn
    have := h j hj
    rw [Bool.not_eq_true', Bool.or_eq_false_iff] at this
    have h2 := this.2
    simpa [hj] using h2
theorem goodN_of {v : List VNode} (h : InVal v) (hf : fewV v 40 = true) : ∀ n ∈ v, GoodN n := by
  intro n hn
  obtain ⟨⟨h1, h2⟩, ⟨h3, h4⟩, h5, h6⟩ := h.2 n hn
  have h7 := (few_of hf).2 n hn
  unfold longV at h7
  simp only [Bool.or_eq_false_iff, Gk] at h7
  exact ⟨⟨by omega, h4⟩, ⟨by omega, h6⟩, h2, h1⟩
theorem short_of {v : List VNode} (h : InVal v) : ∀ n ∈ v, Short2 n := fun n hn => ⟨(h.2 n hn).2.1.1, (h.2 n hn).2.2.1⟩
theorem inV_of {v : List VNode} (h : InVal v) : InV v := ⟨h.1, short_of h⟩
noncomputable def givenB (v : List VNode) (l : List (Sl Node)) : Bool := (l.all fun t => plain7 t.l 30) && (fewV v 40 && right19 v)
noncomputable def con_given19 : Con := con2 (fun (v : Sl VNode) (l : Sl (Sl Node)) => InVal v.l ∧ l.l.length ≤ 9223372036854775807 ∧ ∀ t ∈ l.l, In t.l) (fun v l => givenB v.l l.l)
noncomputable def ctx_given19 : Ctx := ⟨tab, lkC [(24, con_Plain7), (26, con_Few19), (29, con_Right19)], 60, lkB [], [], false⟩
theorem Pi : ctx_given19.τ = tab := rfl
theorem Pk : ctx_given19.Γ = lkC [(24, con_Plain7), (26, con_Few19), (29, con_Right19)] := rfl
theorem Pj : ctx_given19.dp = 60 := rfl
theorem Pm : ctx_given19.Δ = lkB [] := rfl
theorem ctx_given19_w : ctx_given19.wr = false := rfl
set_option maxRecDepth 100000 in
theorem good_given19 : Good Try.prog (32, con_given19) := by
  refine ⟨U2 Try.func32 (by kernel_rfl) rfl, ?_⟩
  have K : CtxOk Try.prog ctx_given19 := U5 Kh Ka (by
    intro p hp
    simp only [List.mem_cons, List.not_mem_nil, or_false] at hp
    rcases hp with rfl | rfl | rfl
    · exact good_Plain7
    · exact good_Few19
    · exact good_Right19) (by simp)
  obtain ⟨c, hc⟩ : ∃ c, Try.f32.body = some c := ⟨_, rfl⟩
  refine U6 K Try.func32 hc [.tmp 4] rfl 24 rfl (fun cvs hpre => ?_)
  change con_given19.pre cvs at hpre
  unfold con_given19 at hpre
  obtain ⟨⟨v⟩, ⟨l⟩, rfl, hV, hl, hN⟩ := Ki hpre
  simp only at hV hl hN
  have hW := inW_of hV
  have ⟨w1, w2⟩ : InW v := inW_of hV
  clear hpre
  simp only [Try.f32, Option.some.injEq] at hc
  subst hc
  (sym =>
   simp [Uv,Uy,Ux,Uw,szV,Ut,Ur,Uu,Uq,szN,Us,con_given19.eq_def,Za,Zb,Zc,Ze,Zf,Qq,Qs,Q1,Q2,Q4,Jw,J3,J4,Xv,X3,X5,X7,X8,Wb,We,Wg,Ws,Wt,Wu,Wv,Wx,Wz,W5,W6,Yx,Y8,Y9,Va,Vb,Vi,Vt,V3,V4,Ul]
   tactic =>
    try simp only [U0] at *
    try simp only [nc2] at *
    try simp (maxSteps := 4000000) only [Uv,Uy,Ux,Uw,szV,Ut,Ur,Uu,Uq,szN,Us,U3]
    refine Kd [4, 6, 7, 8, 9, 10, 11, 12, 13, 14, 15, 16, 17] (fun k : Nat => [(5, .d (.int .i64 k))]) (fun k : Nat => []) (fun k : Nat => k ≤ l.length ∧ ∀ j, j < k → plain7 (l.getD j ⟨[]⟩).l 30 = true) (fun k : Nat => l.length - k) 0 ?_ ?_ ?_
    · simp
    · ((try simp only [U1, killAll, setSlots, updAll, upd, U9, setCs, putC, Nat.reduceDiv, Nat.reduceMod, Nat.reduceMul, Nat.reduceAdd, Nat.reduceEqDiff, List.set_cons_zero, List.set_cons_succ, if_true, if_false, reduceIte]); (first | refine Wk.of_fl ?_ | skip); simp only [Wk, wkK, wkCs, wkT, wk1, AV.kept, keptAll, wkO, lk, wkObj, and_true, true_and, and_self, Nat.reduceEqDiff, Nat.reduceLeDiff, if_true, if_false, reduceIte, reduceCtorEq, Option.isSome, false_implies]; try simp [Wk, wkK, wkT, wk1, AV.kept, keptAll, wkO, lk, wkObj])
    rintro k ⟨hk, hno⟩
    rcases Kg k l.length with ⟨hlt, hlb⟩ | ⟨hlt, hlb⟩
    · obtain ⟨hNk1, hNk2⟩ := hN (l.getD k ⟨[]⟩) (by simp [hlt])
      have q1 := U8 (⟨[]⟩ : Sl Node) hlt
      obtain ⟨⟨t⟩, ht⟩ : ∃ t, l.getD k ⟨[]⟩ = t := ⟨_, rfl⟩
      rw [ht] at q1 hNk1 hNk2
      simp only at hNk1 hNk2
      cases hb : plain7 t 30 with
      | false =>
        have hr : givenB v l = false := by
          unfold givenB
          rw [Rn (p := fun t : Sl Node => plain7 t.l 30) ⟨[]⟩ k hlt (by rw [ht]; exact hb), Bool.false_and]
        (sym =>
         simp [hlb,q1,hb,hr,Uv,Uy,Ux,Uw,szV,Ut,Ur,Uu,Uq,szN,Us,Pi,Pk,Pj,Pm,con_Few19.eq_def,con_Plain7.eq_def,con_Right19.eq_def,Zb,Zc,Ze,Zf,Zg,Zo,Zp,Zq,Zv,Zy,Z6,Z9,Qb,Qc,Qd,Qe,Qf,Qn,Qo,Qp,Qq,Qs,Q1,Q2,Q4,Q8,Jf,Jj,Jk,Jl,Jy,Jz,J0,Xf,Xu,Xv,X2,X3,X5,X6,X7,Wa,Wb,We,Wg,Wh,Wi,Ws,Wt,Ww,Wy,Wz,Yc,Yd,Ye,Yh,Yi,Yl,Yx,Yz,Y0,Y2,Y5,Y6,Y7,Y8,Y9,Vg,Vi,Vl,Vn,Vp,Vq,Vs,Vt,V3,V4,Uj,Ul,Um,Un,Uo,U4,Ky,U7,Gt]
         tactic =>
          try simp only [U0] at *
          try simp only [nc2] at *
          try simp (maxSteps := 4000000) only [hlb,q1,hb,hr,Uv,Uy,Ux,Uw,szV,Ut,Ur,Uu,Uq,szN,Us,U3]
          repeat' (first | with_reducible assumption | with_reducible refine And.intro ?_ ?_ | intro _ | omega | (rw [Uz]; omega)))
      | true =>
        have hst : ∀ j, j < k + 1 → plain7 (l.getD j ⟨[]⟩).l 30 = true := by
          intro j hj
          by_cases hjk : j = k
          · subst hjk; rw [ht]; exact hb
          · exact hno j (by omega)
        (sym =>
         simp [hlb,q1,hb,Uv,Uy,Ux,Uw,szV,Ut,Ur,Uu,Uq,szN,Us,Pi,Pk,Pj,Pm,ctx_given19_w,con_Few19.eq_def,con_Plain7.eq_def,con_Right19.eq_def,Zb,Zc,Ze,Zf,Zg,Zo,Zp,Zq,Zv,Zy,Z6,Z9,Qb,Qc,Qd,Qe,Qf,Qq,Qs,Q1,Q2,Q4,Q8,Jf,Jj,Jl,Jy,Jz,J0,Xf,Xu,Xv,X2,X3,X5,X6,X7,Wb,We,Wg,Wh,Wi,Ws,Wt,Ww,Wy,Wz,Yc,Yd,Ye,Yh,Yi,Yl,Yx,Yz,Y0,Y2,Y5,Y6,Y7,Y8,Y9,Vg,Vi,Vl,Vn,Vo,Vq,Vs,Vt,V3,Uj,Uk,Ul,Um,Un,Uo,U4,Ky,U7,Gt]
         tactic =>
          try simp only [U0] at *
          try simp only [nc2] at *
          try simp (maxSteps := 4000000) only [hlb,q1,hb,Uv,Uy,Ux,Uw,szV,Ut,Ur,Uu,Uq,szN,Us,U3]
          repeat' (first | with_reducible assumption | with_reducible refine And.intro ?_ ?_ | intro _ | omega | (rw [Uz]; omega))
          all_goals exact ⟨k + 1, by ((try simp only [U1, killAll, setSlots, updAll, upd, U9, setCs, putC, Nat.reduceDiv, Nat.reduceMod, Nat.reduceMul, Nat.reduceAdd, Nat.reduceEqDiff, List.set_cons_zero, List.set_cons_succ, if_true, if_false, reduceIte]); (first | refine Wk.of_fl ?_ | skip); simp only [Wk, wkK, wkCs, wkT, wk1, AV.kept, keptAll, wkO, lk, wkObj, and_true, true_and, and_self, Nat.reduceEqDiff, Nat.reduceLeDiff, if_true, if_false, reduceIte, reduceCtorEq, Option.isSome, false_implies]; try simp [Wk, wkK, wkT, wk1, AV.kept, keptAll, wkO, lk, wkObj]), by omega, hst, by omega⟩)
    · have hr : givenB v l = (fewV v 40 && right19 v) := by
        unfold givenB
        rw [Sm (p := fun t : Sl Node => plain7 t.l 30) ⟨[]⟩ fun j hj => hno j (by omega), Bool.true_and]
      cases hf : fewV v 40 with
      | false =>
        rw [hf, Bool.false_and] at hr
        (sym =>
         simp [hlb,hf,hr,Uv,Uy,Ux,Uw,szV,Ut,Ur,Uu,Uq,szN,Us,Pi,Pk,Pj,Pm,con_Few19.eq_def,con_Plain7.eq_def,con_Right19.eq_def,Zb,Zc,Zd,Ze,Zf,Zg,Zo,Zt,Z6,Z9,Qb,Qd,Qe,Qf,Qn,Qo,Qp,Qq,Qs,Q1,Q2,Q4,Q8,Jf,Jj,Jk,Jl,Jy,Jz,J0,Xf,Xu,Xv,X3,X5,X6,X9,Wa,Wb,We,Wg,Wh,Wi,Ws,Wt,Ww,Wy,Wz,W7,W8,Yc,Yd,Yh,Yx,Yz,Y0,Y5,Y6,Y7,Y8,Y9,Vg,Vi,Vl,Vn,Vs,Vt,V3,V4,Uk,Ul,Um,Un,Uo,U4,U7,Gt]
         tactic =>
          try simp only [U0] at *
          try simp only [nc2] at *
          try simp (maxSteps := 4000000) only [hlb,hf,hr,Uv,Uy,Ux,Uw,szV,Ut,Ur,Uu,Uq,szN,Us,U3]
          repeat' (first | with_reducible assumption | with_reducible refine And.intro ?_ ?_ | intro _ | omega | (rw [Uz]; omega))
          all_goals first
            | exact hW
            | exact w2
            | exact w2 _ (by assumption)
            | (have := w2 _ (by assumption); simp_all [Short2]; done)
            | skip)
      | true =>
        rw [hf, Bool.true_and] at hr
        have hG := goodN_of hV hf
        have hle := (few_of hf).1
        (sym =>
         simp [hlb,hf,hr,Uv,Uy,Ux,Uw,szV,Ut,Ur,Uu,Uq,szN,Us,Pi,Pk,Pj,Pm,con_Few19.eq_def,con_Plain7.eq_def,con_Right19.eq_def,Zb,Zc,Zd,Ze,Zf,Zg,Zo,Zt,Z6,Z9,Qb,Qd,Qe,Qf,Qn,Qo,Qp,Qq,Qs,Q1,Q2,Q4,Q8,Jf,Jj,Jk,Jl,Jy,Jz,J0,Xf,Xu,Xv,X3,X5,X6,X9,Wa,Wb,We,Wg,Wh,Wi,Ws,Wt,Ww,Wy,Wz,W7,W8,Yc,Yd,Yh,Yx,Yz,Y0,Y5,Y6,Y7,Y8,Y9,Vg,Vi,Vl,Vn,Vs,Vt,V3,V4,Uj,Uk,Ul,Um,Un,Uo,U4,U7,Gt]
         tactic =>
          try simp only [U0] at *
          try simp only [nc2] at *
          try simp (maxSteps := 4000000) only [hlb,hf,hr,Uv,Uy,Ux,Uw,szV,Ut,Ur,Uu,Uq,szN,Us,U3]
          repeat' (first | with_reducible assumption | with_reducible refine And.intro ?_ ?_ | intro _ | omega | (rw [Uz]; omega))
          all_goals first
            | exact hW
            | exact hG
            | omega
            | skip))
def aX : Rose VNode := mk ⟨4, [], [], 0, 1, [], []⟩ [mk ⟨0, [97], [], 1, 0, [], []⟩ []]
def aT (k : Int) : Rose Node := mk ⟨6, [], 1⟩ [mk ⟨k, [97], 0⟩ []]
theorem aT_nds (k : Int) : nds (aT k) = [⟨6, [], 1⟩, ⟨k, [97], 0⟩] := rfl
theorem aX_one : OneV [⟨4, [], [], 0, 1, [], []⟩, ⟨0, [97], [], 1, 0, [], []⟩] aX := ⟨rfl, ⟨rfl, ⟨rfl, trivial⟩, trivial⟩⟩
theorem aT_one {k : Int} (h : ar ⟨k, [97], 0⟩ = 0) : OneN [⟨6, [], 1⟩, ⟨k, [97], 0⟩] (aT k) := ⟨rfl, ⟨rfl, ⟨h.symm, trivial⟩, trivial⟩, by rw [aT_nds]; simp⟩
theorem aX_ok : okV aX 1 = true := by rfl
theorem aX_right : right19 (nds aX) = true := Tv.2 ⟨aX, rfl, ⟨aX_one.2, by decide, rfl, aX_ok⟩⟩
def con_alive19 : Con := con0 true
noncomputable def ctx_alive19 : Ctx := ⟨tab, lkC [(35, con_CastVA), (30, con_SameV), (28, con_RightV), (34, con_FitsVA)], 60, lkB [], [], false⟩
theorem ctx_alive19_t : ctx_alive19.τ = tab := rfl
theorem ctx_alive19_c : ctx_alive19.Γ = lkC [(35, con_CastVA), (30, con_SameV), (28, con_RightV), (34, con_FitsVA)] := rfl
theorem ctx_alive19_d : ctx_alive19.dp = 60 := rfl
theorem ctx_alive19_b : ctx_alive19.Δ = lkB [] := rfl
set_option maxRecDepth 100000 in
theorem good_alive19 : Good Try.prog (27, con_alive19) := by
  refine ⟨U2 Try.func27 (by kernel_rfl) rfl, ?_⟩
  have K : CtxOk Try.prog ctx_alive19 := U5 Kh Ka (by
    intro p hp
    simp only [List.mem_cons, List.not_mem_nil, or_false] at hp
    rcases hp with rfl | rfl | rfl | rfl
    · exact good_CastVA
    · exact good_SameV
    · exact good_RightV
    · exact A3) (by simp)
  obtain ⟨c, hc⟩ : ∃ c, Try.f27.body = some c := ⟨_, rfl⟩
  refine U6 K Try.func27 hc [.tmp 0] rfl 50 rfl (fun cvs hpre => ?_)
  change con_alive19.pre cvs at hpre
  unfold con_alive19 at hpre
  obtain rfl := Rh hpre
  have x1 := aX_one.tree
  have hex : ∃ x, OneV [⟨4, [], [], 0, 1, [], []⟩, ⟨0, [97], [], 1, 0, [], []⟩] x := ⟨_, aX_one⟩
  have o0 := aT_one (k := 0) rfl
  have o1 := aT_one (k := 1) rfl
  have o2 := aT_one (k := 2) rfl
  have t0 := o0.tree
  have t1 := o1.tree
  have t2 := o2.tree
  have c1 : optX (castR 3 aX (aT 0) (aT 1)) = (⟨[⟨4, [], [], 0, 1, [], []⟩, ⟨0, [97], [], 1, 0, [], []⟩]⟩, true) := by rfl
  have c2 : optX (castR 3 aX (aT 0) (aT 2)) = (⟨[]⟩, false) := by rfl
  have hs : sameV [⟨4, [], [], 0, 1, [], []⟩, ⟨0, [97], [], 1, 0, [], []⟩] [⟨4, [], [], 0, 1, [], []⟩, ⟨0, [97], [], 1, 0, [], []⟩] = true := by unfold sameV; rw [beq_self_eq_true]
  have hr : rightV [⟨4, [], [], 0, 1, [], []⟩, ⟨0, [97], [], 1, 0, [], []⟩] = true := by rw [rightV_same]; exact aX_right
  have hf : fitsR aX (aT 0) = true := by rfl
  have hI : InV [⟨4, [], [], 0, 1, [], []⟩, ⟨0, [97], [], 1, 0, [], []⟩] := ⟨by simp, by intro n hn; simp at hn; rcases hn with rfl | rfl <;> exact ⟨by simp, by simp⟩⟩
  have hG : ∀ m ∈ [(⟨4, [], [], 0, 1, [], []⟩ : VNode), ⟨0, [97], [], 1, 0, [], []⟩], GoodN m := by
    intro n hn
    simp at hn
    rcases hn with rfl | rfl <;> exact ⟨⟨by simp, by intro m hm; simp at hm⟩, ⟨by simp, by intro m hm; simp at hm⟩, by simp, by simp⟩
  have hS : ∀ m ∈ [(⟨4, [], [], 0, 1, [], []⟩ : VNode), ⟨0, [97], [], 1, 0, [], []⟩], Short2 m := fun m hm => Ow (hG m hm)
  simp only [Try.f27, Option.some.injEq] at hc
  subst hc
  refine Kq 3 (of_decide_eq_true (by kernel_rfl)) ?_
  (sym =>
   simp [con4t.eq_def,Rg,Bn,Nw,Nu,x1,t0,t1,t2,c1,c2,hs,hr,hf,Uv,Uy,Ux,Uw,szV,Ut,Ur,Uu,Uq,szN,Us,ctx_alive19_t,ctx_alive19_c,ctx_alive19_d,ctx_alive19_b,con_RightV.eq_def,con_SameV.eq_def,con_alive19.eq_def,Zb,Zc,Zd,Ze,Zf,Zo,Zr,Zt,Z1,Z2,Z8,Z9,Qc,Qd,Qe,Qf,Qg,Qh,Ql,Qn,Qo,Qp,Qq,Qs,Q1,Q2,Q4,Q7,Q8,Q9,Ja,Jb,Jc,Jd,Je,Jf,Jg,Jh,Ji,Jj,Jk,Jl,Jw,J3,J4,J5,J6,J7,J8,J9,Xa,Xb,Xc,Xd,Xe,Xf,Xg,Xh,Xj,Xl,Xm,Xn,Xo,Xr,Xs,Xt,Xu,Xv,X3,X5,Wa,Wb,We,Wg,Wh,Wi,Wl,Wm,Ws,Wt,Wu,Wv,Ww,Wx,Wy,Wz,W0,W3,W4,W5,W6,W7,W8,W9,Ya,Ye,Yi,Ym,Yn,Yp,Yx,Y6,Y7,Y8,Y9,Vb,Vc,Vd,Ve,Vf,Vg,Vi,Vj,Vl,Vn,Vp,Vs,Vt,V2,V3,V4,V5,V7,V8,Uc,Ud,Uj,Ul,Um,Un,Ky,U7,Kb,Kc,Ke]
   tactic =>
    try simp only [U0] at *
    try simp only [nc2] at *
    try simp (maxSteps := 4000000) only [con4t.eq_def,Rg,Bn,Nw,Nu,x1,t0,t1,t2,c1,c2,hs,hr,hf,Uv,Uy,Ux,Uw,szV,Ut,Ur,Uu,Uq,szN,Us,U3]
    repeat' (first | with_reducible assumption | with_reducible refine And.intro ?_ ?_ | intro _ | omega | (rw [Uz]; omega))
    all_goals first
      | exact hex
      | exact ⟨_, o0⟩
      | exact ⟨_, o1⟩
      | exact ⟨_, o2⟩
      | exact hI
      | exact hG
      | exact hS
      | exact hG _ (by simp)
      | exact hS _ (by simp)
      | (with_reducible refine Kf ?_; kernel_rfl)
      | omega
      | skip)
end Go.Am.Ty
set_option linter.unusedSimpArgs false
set_option linter.unusedVariables false
set_option maxHeartbeats 2000000
namespace Go.Am.Ty
open Go.Proofs Go.Rose Go.Rose.Rose
open Enc (enc dec)
def PT (y : Rose Node) : Prop := RT y ∧ plain3 (nds y) = true
theorem PT.ty {y : Rose Node} (h : PT y) : TyT y := ⟨h.1.wf, by have := h.1.len; omega⟩
theorem clrX_depth (x : Rose Node) : depth (clrX x) = depth x := by cases x; rfl
theorem labT_clrX : ∀ x : Rose Node, labT (clrX x) = labT x
  | mk n ks => by
    rw [clrX, labT, labT]
    rfl
theorem labTs_get : ∀ {ks : List (Rose Node)}, labTs ks = true → ∀ j (h : j < ks.length), labT ks[j] = true
  | [], _, j, h => by simp at h
  | x :: xs, hl, j, h => by
    rw [labTs, Bool.and_eq_true] at hl
    cases j with
    | zero => exact hl.1
    | succ j => exact labTs_get hl.2 j (by simpa using h)
theorem depths_at : ∀ {ks : List (Rose Node)} (j) (h : j < ks.length), depth ks[j] ≤ depths ks
  | [], j, h => by simp at h
  | x :: xs, j, h => by
    rw [depths]
    cases j with
    | zero => simp only [List.getElem_cons_zero]; omega
    | succ j => have := depths_at (ks := xs) j (by simpa using h); simp only [List.getElem_cons_succ]; omega
theorem kid_memN {x : Rose Node} {i : Nat} (h : i < x.kids.length) : ∀ m ∈ nds x.kids[i], m ∈ nds x := by
  intro m hm
  rw [Gu]
  refine List.mem_cons_of_mem _ ?_
  generalize x.kids = ks at h hm ⊢
  induction ks generalizing i with
  | nil => simp at h
  | cons y ys ih =>
    rw [ndss, List.mem_append]
    cases i with
    | zero => exact .inl hm
    | succ i => exact .inr (ih (by simpa using h) (by simpa using hm))
theorem pt_kid {t : Rose Node} (h : PT t) {j : Nat} (hj : j < t.kids.length) : PT (clrX t.kids[j]) := by
  obtain ⟨h1, h2⟩ := h
  have hm := kid_memN hj
  have hn : Numb (nds t.kids[j]) := fun n hn => h1.numb n (hm n hn)
  have hp : plain3 (nds t.kids[j]) = true := by
    rw [Ni] at *
    exact fun n hn => h2 n (hm n hn)
  have hw := Rp.1 h1.wf
  have hd := h1.depth
  have hl := h1.lab
  have hlen := h1.len
  have hd2 := depths_at j hj
  have hlen2 := ndsN_get hj
  obtain ⟨n, ks⟩ := t
  simp only [kids, root] at *
  rw [depth] at hd
  rw [labT, Bool.and_eq_true] at hl
  rw [Gj, List.length_cons] at hlen
  have hcn : Numb (nds (clrX ks[j])) := by rw [L9]; exact clr_numb hn
  have hcp : plain3 (nds (clrX ks[j])) = true := by rw [L9]; exact clr_plain hp
  refine ⟨⟨Oc (So hw.2 _ (List.getElem_mem hj)), hcn, by rw [clrX_depth]; omega, by rw [labT_clrX]; exact labTs_get hl.2 j hj, ?_, ?_, by rw [clrX_nlen]; omega⟩, hcp⟩
  · cases ks[j]; rfl
  · exact (Ni.1 hcp _ (Mh _)).2
theorem pt_dyn : PT dynT := ⟨⟨⟨rfl, trivial⟩, by intro n hn; rw [E3, List.mem_singleton] at hn; rw [hn]; rfl, by decide, rfl, rfl, by decide, by rw [E3]; decide⟩, rfl⟩
theorem plain7_pt {t : List Node} {m : Int} (h : plain7 t m = true) : (t.length : Int) ≤ m ∧ ∃ y, t = nds y ∧ PT y := by
  obtain ⟨h1, _, h2, y, rfl, hy⟩ := plain7_rt h
  exact ⟨h1, y, rfl, hy, h2⟩
mutual
def normX : Rose Node → Rose Node
  | mk n ks => mk (norm n) (normXs ks)
def normXs : List (Rose Node) → List (Rose Node)
  | [] => []
  | x :: xs => normX x :: normXs xs
end
theorem D0 : ∀ ks : List (Rose Node), normXs ks = ks.map normX
  | [] => rfl
  | x :: xs => by rw [normXs, D0, List.map_cons]
mutual
theorem nds_normX : ∀ x : Rose Node, nds (normX x) = (nds x).map norm
  | mk n ks => by rw [normX, Gj, Gj, List.map_cons, ndss_normX]
theorem ndss_normX : ∀ ks : List (Rose Node), ndss (normXs ks) = (ndss ks).map norm
  | [] => rfl
  | x :: xs => by rw [normXs, ndss, ndss, List.map_append, nds_normX, ndss_normX]
end
theorem norm_k (n : Node) : (norm n).kind = n.kind := by unfold norm; split <;> rfl
theorem norm_nm (n : Node) : (norm n).name = n.name := by unfold norm; split <;> rfl
theorem norm_n {n : Node} (h : n.kind ≠ 0) : (norm n).n = n.n := by unfold norm; rw [if_neg h]
theorem norm_norm (n : Node) : norm (norm n) = norm n := by
  unfold norm
  by_cases h : n.kind = 0
  · simp [h]
  · simp [h]
theorem norm_ar (n : Node) : ar (norm n) = ar n := by
  by_cases h : n.kind = 0
  · rw [B0 h, B0 (by rw [norm_k]; exact h)]
  · unfold norm; rw [if_neg h]
theorem norm_clr (n : Node) : norm (clrN n) = clrN (norm n) := by
  unfold norm clrN
  by_cases h : n.kind = 0 <;> simp [h]
theorem D1 (x : Rose Node) : (normX x).root = norm x.root := by cases x; rfl
theorem normX_kids (x : Rose Node) : (normX x).kids = x.kids.map normX := by cases x; rw [normX, D0]; rfl
theorem normX_clr : ∀ x : Rose Node, normX (clrX x) = clrX (normX x)
  | mk n ks => by
    rw [clrX, normX, normX, clrX, norm_clr]
mutual
theorem wf_normX : ∀ {x : Rose Node}, wf ar x → wf ar (normX x)
  | mk n ks, h => by
    rw [normX]
    exact ⟨by rw [norm_ar, ← h.1, D0, List.length_map], wfs_normX h.2⟩
theorem wfs_normX : ∀ {ks : List (Rose Node)}, wfs ar ks → wfs ar (normXs ks)
  | [], _ => trivial
  | x :: xs, h => ⟨wf_normX h.1, wfs_normX h.2⟩
end
theorem same3_norm {x y : Rose Node} (hx : wf ar x) (hy : wf ar y) : same3 (nds x) (nds y) = true ↔ normX x = normX y := by
  unfold same3
  rw [beq_iff_eq, ← nds_normX, ← nds_normX]
  constructor
  · intro h
    exact (nds_inj (r := []) (s := []) (wf_normX hx) (wf_normX hy) (by rw [h])).1
  · intro h
    rw [h]
theorem same3_normR (a b : List Node) : same3 a (b.map norm) = same3 a b := by
  unfold same3
  rw [List.map_map]
  congr 2
  funext n
  exact norm_norm n
theorem same3_comm (a b : List Node) : same3 a b = same3 b a := by unfold same3; rw [Bool.beq_comm]
theorem Ox {x y : Rose Node} (h : same3 (nds x) (nds y) = true) : x.root.kind = y.root.kind := by
  unfold same3 at h
  rw [beq_iff_eq, Gu, Gu, List.map_cons, List.map_cons, List.cons.injEq] at h
  have := congrArg Node.kind h.1
  rwa [norm_k, norm_k] at this
theorem findIdx_norm (ks : List (Rose Node)) (s : List UInt8) : (ks.map normX).findIdx? (fun k => k.root.name == s) = ks.findIdx? (fun k => k.root.name == s) := by
  induction ks with
  | nil => rfl
  | cons x xs ih =>
    rw [List.map_cons, List.findIdx?_cons, List.findIdx?_cons, ih, D1, norm_nm]
theorem field_norm (t : Rose Node) (s : List UInt8) : fieldR (normX t) s = (fieldR t s).map normX := by
  unfold fieldR
  rw [normX_kids, findIdx_norm]
  cases h : t.kids.findIdx? (fun k => k.root.name == s) with
  | none => rfl
  | some j =>
    have hj : j < t.kids.length := (List.findIdx?_eq_some_iff_getElem.1 h).1
    simp only [Option.map_some]
    rw [normX_clr]
    simp [hj]
theorem A4 (t : Rose Node) : ∀ ks : List (Rose VNode), fieldsR (normX t) ks = (fieldsR t ks).map (List.map normX)
  | [] => rfl
  | k :: ks => by
    rw [fieldsR, fieldsR, field_norm, A4 t ks]
    cases fieldR t k.root.label with
    | none => rfl
    | some y =>
      simp only [Option.map_some]
      cases fieldsR t ks <;> rfl
theorem parts_norm (n : VNode) (ks : List (Rose VNode)) (t : Rose Node) : partsR n ks (normX t) = (partsR n ks t).map (List.map normX) := by
  unfold partsR
  rw [D1, norm_k]
  cases h0 : (t.root.kind == 0) with
  | true =>
    simp only [cond_true, Option.map_some, List.map_replicate]
    rfl
  | false =>
    simp only [cond_false]
    rw [norm_n (by simpa using h0)]
    cases h1 : (t.root.kind == 7 && n.kind == 5) with
    | true =>
      simp only [cond_true]
      rw [field_norm]
      cases fieldR t n.name <;> rfl
    | false =>
      simp only [cond_false]
      cases h2 : (t.root.kind == 6 && (n.kind == 4 && t.root.n == (ks.length : Int))) with
      | true => simp only [cond_true]; exact A4 t ks
      | false => rfl
mutual
theorem fits_norm : ∀ (x : Rose VNode) (t : Rose Node), fitsR x (normX t) = fitsR x t
  | mk n ks, t => by
    rw [fitsR, fitsR, D1, norm_k, nds_normX, same3_normR, parts_norm]
    cases hp : partsR n ks t with
    | none => rfl
    | some l =>
      simp only [Option.map_some]
      rw [fitss_norm ks l]
theorem fitss_norm : ∀ (ks : List (Rose VNode)) (l : List (Rose Node)), fitsRs ks (l.map normX) = fitsRs ks l
  | [], l => by rw [fitsRs, fitsRs]
  | k :: ks, l => by
    rw [fitsRs, fitsRs, ← List.map_tail, fitss_norm ks l.tail]
    congr 1
    cases l with
    | nil => rfl
    | cons a r => exact fits_norm k a
end
theorem fits_same {x : Rose VNode} {t u : Rose Node} (ht : wf ar t) (hu : wf ar u) (h : same3 (nds t) (nds u) = true) : fitsR x t = fitsR x u := by
  rw [← fits_norm x t, (same3_norm ht hu).1 h, fits_norm]
theorem fieldsR_at {t : Rose Node} : ∀ {ks : List (Rose VNode)} {l : List (Rose Node)}, fieldsR t ks = some l → ∀ j (h : j < ks.length) (h2 : j < l.length), fieldR t ks[j].root.label = some l[j]
  | [], l, _, j, h, _ => by simp at h
  | k :: ks, l, hf, j, h, h2 => by
    rw [fieldsR] at hf
    cases hx : fieldR t k.root.label with
    | none => rw [hx] at hf; cases hf
    | some y =>
      rw [hx] at hf
      simp only [Option.map_eq_some_iff] at hf
      obtain ⟨l', g1, rfl⟩ := hf
      cases j with
      | zero => exact hx
      | succ j => exact fieldsR_at g1 j (by simpa using h) (by simpa using h2)
end Go.Am.Ty
set_option linter.unusedSimpArgs false
set_option linter.unusedVariables false
set_option maxHeartbeats 2000000
namespace Go.Am.Ty
open Go.Proofs Go.Rose Go.Rose.Rose
open Enc (enc dec)
theorem root_mk {α : Type} {n : α} {ks : List (Rose α)} : (mk n ks).root = n := rfl
theorem kids_mk {α : Type} {n : α} {ks : List (Rose α)} : (mk n ks).kids = ks := rfl
theorem O0 {t : Rose Node} (h : arrowB (nds t) = true) : t.root.kind = 5 := by
  have := (Na.1 h).2.2
  rw [Gu] at this
  simpa using this
theorem okV_uses {x : Rose VNode} {d : Nat} (h : okV x d = true) : usesB x.root = true := by
  obtain ⟨n, ks⟩ := x
  rw [okV] at h
  simp only [Bool.and_eq_true] at h
  exact h.2.1
theorem okV_deep {x : Rose VNode} {d : Nat} (h : okV x d = true) : d ≤ 100 := by
  obtain ⟨n, ks⟩ := x
  rw [okV] at h
  simp only [Bool.and_eq_true, decide_eq_true_eq] at h
  exact h.1
theorem uses_wrap {n : VNode} (h : usesB n = true) (h7 : n.kind = 7) : wrapB n = true := by
  unfold usesB at h
  rw [h7] at h
  simp only [show ((7 : Int) == 0) = false from rfl, show ((7 : Int) == 1) = false from rfl, show ((7 : Int) == 2) = false from rfl, show ((7 : Int) == 3) = false from rfl, show ((7 : Int) == 4) = false from rfl, show ((7 : Int) == 5) = false from rfl,
    show ((7 : Int) == 6) = false from rfl, show ((7 : Int) == 7) = true from rfl, cond_true, cond_false, Bool.and_eq_true] at h
  exact h.2.2.2
theorem Om {n : VNode} (h : wrapB n = true) : arrowB n.t = true ∧ arrowB n.u = true := by
  unfold wrapB at h
  simp only [Bool.and_eq_true] at h
  exact ⟨h.1, h.2.1⟩
end Go.Am.Ty
set_option linter.unusedSimpArgs false
set_option linter.unusedVariables false
set_option maxHeartbeats 2000000
namespace Go.Am.Ty
open Go.Proofs Go.Rose Go.Rose.Rose
open Enc (enc dec)
theorem notFun {n : VNode} (h : isFunB n = false) : (n.kind == 6) = false ∧ (n.kind == 7) = false := by
  unfold isFunB at h
  rwa [Bool.or_eq_false_iff] at h
theorem okKids_congr2 {n : VNode} {ks ys : List (Rose VNode)} (h7 : (n.kind == 7) = false) (h : ys.length = ks.length) (hl : ∀ j (h : j < ys.length) (h2 : j < ks.length), ys[j].root.label = ks[j].root.label) : okKids n ys = okKids n ks := by
  unfold okKids
  rw [h, Bool.eq_iff_iff, K7, K7]
  refine forall_congr' fun j => imp_congr_right fun hj => ?_
  have e1 : (kidR ys j).label = (kidR ks j).label := by rw [Sw (by omega), Sw hj]; exact hl j (by omega) hj
  have e2 : (kidR ys (j - 1)).label = (kidR ks (j - 1)).label := by rw [Sw (by omega), Sw (by omega)]; exact hl (j - 1) (by omega) (by omega)
  unfold kidB wrapK
  rw [e1, e2, h7]
  simp
theorem okV_kid {n : VNode} {ks : List (Rose VNode)} {d : Nat} (h : okV (mk n ks) d = true) {j : Nat} (hj : j < ks.length) : okV ks[j] (d + moreV n) = true := by
  rw [okV] at h
  simp only [Bool.and_eq_true] at h
  exact E1.1 h.2.2.2 j hj
theorem pt_getD {l : List (Rose Node)} (h : ∀ y ∈ l, PT y) (j : Nat) : PT (l.getD j dynT) := by
  by_cases hj : j < l.length
  · rw [List.getD_eq_getElem?_getD, List.getElem?_eq_getElem hj]
    exact h _ (List.getElem_mem hj)
  · rw [List.getD_eq_getElem?_getD, List.getElem?_eq_none (by omega)]
    exact pt_dyn
theorem Lp {α : Type} {l : List α} {j : Nat} {d : α} (h : j < l.length) : l.getD j d = l[j] := by simp [h]
theorem kid_lenR {n : VNode} {ks : List (Rose VNode)} {j : Nat} (h : j < ks.length) : (nds ks[j]).length < (nds (mk n ks)).length := Sb (x := mk n ks) h
theorem same_dyn {t : Rose Node} (h0 : t.root.kind = 0) (hw : wf ar t) (hn : t.root.name = []) : same3 (nds dynT) (nds t) = true := by
  obtain ⟨n, ks⟩ := t
  simp only [root_mk] at *
  have : ks = [] := by
    have := hw.1
    rw [B0 h0] at this
    exact List.eq_nil_of_length_eq_zero this
  subst this
  unfold same3
  rw [E3, Gj, ndss]
  simp only [List.map_cons, List.map_nil]
  unfold norm
  obtain ⟨k, s, m⟩ := n
  simp only at h0 hn
  subst h0
  subst hn
  rfl
theorem Ap : ∀ x : Rose VNode, (plainR x).root.label = x.root.label
  | mk n ks => by
    rw [plainR]
    cases isFunB n <;> rfl
theorem plain_ok : ∀ (N : Nat) {x : Rose VNode} {d : Nat}, (nds x).length ≤ N → wf arV x → okV x d = true → wf arV (plainR x) ∧ okV (plainR x) d = true
  | 0, x, d, hN, _, _ => by have := Gw x; omega
  | N + 1, mk n ks, d, hN, hw, hx => by
    have hd := okV_deep hx
    rw [plainR]
    cases hf : isFunB n with
    | true =>
      refine ⟨⟨rfl, trivial⟩, ?_⟩
      rw [cond_true, okV, show decide (d ≤ 100) = true by rw [decide_eq_true_eq]; exact hd]
      rfl
    | false =>
      rw [cond_false, Ns]
      have key : ∀ j (h : j < ks.length), wf arV (plainR ks[j]) ∧ okV (plainR ks[j]) (d + moreV n) = true := fun j h =>
        plain_ok N (by have := kid_lenR (n := n) h; omega) (So hw.2 _ (List.getElem_mem h)) (okV_kid hx h)
      have hlab : ∀ j (h : j < (ks.map plainR).length) (h2 : j < ks.length), (ks.map plainR)[j].root.label = ks[j].root.label := fun j h h2 => by rw [List.getElem_map]; exact Ap _
      refine ⟨⟨by rw [List.length_map]; exact hw.1, ?_⟩, ?_⟩
      · have : ∀ (zs : List (Rose VNode)), (∀ z ∈ zs, wf arV z) → wfs arV zs := by
          intro zs
          induction zs with
          | nil => exact fun _ => trivial
          | cons z zs ih => exact fun h => ⟨h z (by simp), ih fun w hw => h w (by simp [hw])⟩
        refine this _ fun z hz => ?_
        rw [List.mem_map] at hz
        obtain ⟨k, hk, rfl⟩ := hz
        obtain ⟨j, hj, rfl⟩ := List.getElem_of_mem hk
        exact (key j hj).1
      · rw [okV] at hx ⊢
        simp only [Bool.and_eq_true] at hx ⊢
        refine ⟨hx.1, hx.2.1, by rw [okKids_congr2 (notFun hf).2 (by rw [List.length_map]) hlab]; exact hx.2.2.1, E1.2 fun j hj => ?_⟩
        rw [List.getElem_map]
        exact (key j (by simpa using hj)).2
end Go.Am.Ty
set_option linter.unusedSimpArgs false
set_option linter.unusedVariables false
set_option maxHeartbeats 2000000
namespace Go.Am.Ty
open Go.Proofs Go.Rose Go.Rose.Rose
open Enc (enc dec)
def labsV (ks : List (Rose VNode)) : List (List UInt8) := ks.map fun k => k.root.label
theorem Mu {ks : List (Rose VNode)} : (labsV ks).length = ks.length := by unfold labsV; simp
def baseK (n : VNode) : Int := cond (n.kind == 0) 1 (cond (n.kind == 1) 2 (cond (n.kind == 2) 3 (cond (n.kind == 3) 4 0)))
def baseOk (n : VNode) : Bool := n.kind == 0 || (n.kind == 1 || (n.kind == 2 || n.kind == 3))
theorem base_is (n : VNode) (k : Int) : (baseOk n && baseK n == k) = isBaseB n k := by
  unfold baseOk baseK isBaseB
  cases n.kind == 0 <;> cases n.kind == 1 <;> cases n.kind == 2 <;> cases n.kind == 3 <;> simp [Bool.beq_comm]
def tagP (n : VNode) (k : Rose Node) : Bool := n.kind == 5 && n.name == k.root.name
mutual
def fits9 : Rose VNode → Rose Node → Bool
  | mk n ks, t => cond (t.root.kind == 0) (cond (n.kind == 7) (same3 n.u dynL) (fits9s ks (List.replicate ks.length (mk t.root []))))
      (cond (t.root.kind == 5) (n.kind == 6 || (n.kind == 7 && same3 n.u (nds t)))
        (cond (t.root.kind == 6) ((n.kind == 4 && labsV ks == labs t.kids) && fits9s ks (t.kids.map clrX))
          (cond (t.root.kind == 7) (match t.kids.findIdx? (tagP n) with
            | none => false
            | some j => fits9s ks [clrX (t.kids.getD j (mk n0 []))]) (baseOk n && baseK n == t.root.kind))))
def fits9s : List (Rose VNode) → List (Rose Node) → Bool
  | [], _ => true
  | k :: ks, l => fits9 k (l.headD dynT) && fits9s ks l.tail
end
theorem B5 : ∀ {ks : List (Rose VNode)} {l : List (Rose Node)}, fits9s ks l = (List.range ks.length).all fun j => fits9 (ks.getD j dv) (l.getD j dynT)
  | [], l => rfl
  | k :: ks, l => by
    have hd : l.headD dynT = l.getD 0 dynT := by cases l <;> rfl
    have ht : ∀ j, l.tail.getD j dynT = l.getD (j + 1) dynT := fun j => by cases l <;> rfl
    rw [fits9s, B5, List.length_cons, List.range_succ_eq_map, List.all_cons, List.all_map, hd]
    simp only [ht]
    rfl
def Rising (l : List (List UInt8)) : Prop := ∀ i j, i < j → j < l.length → Op.bytesLess (l.getD i []) (l.getD j []) = true
theorem less_trans {a b c : List UInt8} (h1 : Op.bytesLess a b = true) (h2 : Op.bytesLess b c = true) : Op.bytesLess a c = true := by
  rw [bytesLess_eq, decide_eq_true_eq] at *
  exact List.lt_trans h1 h2
theorem Lj (a : List UInt8) : Op.bytesLess a a = false := by
  rw [bytesLess_eq, decide_eq_false_iff_not]
  exact List.lt_irrefl a
theorem rising_of {l : List (List UInt8)} (h : ∀ j, 0 < j → j < l.length → Op.bytesLess (l.getD (j - 1) []) (l.getD j []) = true) : Rising l := by
  intro i j
  induction j with
  | zero => intro h; omega
  | succ j ih =>
    intro hij hj
    have h1 := h (j + 1) (by omega) hj
    rw [Nat.add_sub_cancel] at h1
    by_cases e : i = j
    · subst e; exact h1
    · exact less_trans (ih (by omega) (by omega)) h1
theorem rising_inj {l : List (List UInt8)} (h : Rising l) {i j : Nat} (hi : i < l.length) (hj : j < l.length) (e : l.getD i [] = l.getD j []) : i = j := by
  rcases Nat.lt_trichotomy i j with h1 | h1 | h1
  · have := h i j h1 hj
    rw [e, Lj] at this
    cases this
  · exact h1
  · have := h j i h1 hi
    rw [e, Lj] at this
    cases this
theorem rising_lt {l : List (List UInt8)} (h : Rising l) {i j : Nat} (hi : i < l.length) (hj : j < l.length) (hl : Op.bytesLess (l.getD i []) (l.getD j []) = true) : i < j := by
  rcases Nat.lt_trichotomy i j with h1 | h1 | h1
  · exact h1
  · subst h1; rw [Lj] at hl; cases hl
  · have := less_trans (h j i h1 hi) hl
    rw [Lj] at this
    cases this
theorem rising_same {a b : List (List UInt8)} (ha : Rising a) (hb : Rising b) (hl : a.length = b.length) (h : ∀ i, i < a.length → ∃ j, j < b.length ∧ b.getD j [] = a.getD i []) : a = b := by
  have key : ∀ i, i < a.length → ∀ j, j < b.length → b.getD j [] = a.getD i [] → i ≤ j := by
    intro i
    induction i with
    | zero => intro _ j _ _; omega
    | succ i ih =>
      intro hi j hj e
      obtain ⟨k, hk, e2⟩ := h i (by omega)
      have h1 := ih (by omega) k hk e2
      have h2 := ha i (i + 1) (by omega) hi
      rw [← e, ← e2] at h2
      have := rising_lt hb hk hj h2
      omega
  have key2 : ∀ d i, i + d + 1 = a.length → ∀ j, j < b.length → b.getD j [] = a.getD i [] → j ≤ i := by
    intro d
    induction d with
    | zero => intro i hi j hj _; omega
    | succ d ih =>
      intro i hi j hj e
      obtain ⟨k, hk, e2⟩ := h (i + 1) (by omega)
      have h1 := ih (i + 1) (by omega) k hk e2
      have h2 := ha i (i + 1) (by omega) (by omega)
      rw [← e, ← e2] at h2
      have := rising_lt hb hj hk h2
      omega
  refine List.ext_getElem hl fun i h1 h2 => ?_
  obtain ⟨j, hj, e⟩ := h i h1
  have h3 := key i h1 j hj e
  have h4 := key2 (a.length - i - 1) i (by omega) j hj e
  have : j = i := by omega
  subst this
  rw [Lp hj, Lp h1] at e
  exact e.symm
theorem rising_kids {n : VNode} {ks : List (Rose VNode)} (h : okKids n ks = true) (h4 : n.kind = 4) : Rising (labsV ks) := by
  unfold okKids at h
  rw [K7] at h
  refine rising_of fun j h0 hj => ?_
  rw [Mu] at hj
  have := h j hj
  rw [Bool.and_eq_true] at this
  have h2 := this.1
  unfold kidB at h2
  rw [show (n.kind == 4) = true by simp [h4], cond_true, show (j == 0) = false by rw [beq_eq_false_iff_ne]; omega, Bool.false_or, Bool.and_eq_true, Sw hj, Sw (show j - 1 < ks.length by omega)] at h2
  unfold labsV
  simp only [List.getD_eq_getElem?_getD, List.getElem?_map, List.getElem?_eq_getElem hj, List.getElem?_eq_getElem (show j - 1 < ks.length by omega), Option.map_some, Option.getD_some]
  exact h2.2
theorem rising_type {t : Rose Node} (h : PT t) (hr : t.root.kind = 6 ∨ t.root.kind = 7) : Rising (labs t.kids) := by
  have hz := h.1.lab
  have hp := Ni.1 h.2
  obtain ⟨n, ks⟩ := t
  simp only [root_mk, kids_mk] at *
  rw [labT, Bool.and_eq_true] at hz
  have hz1 := hz.1
  unfold labZ at hz1
  rw [K7] at hz1
  refine rising_of fun j h0 hj => ?_
  rw [G3] at hj
  have := hz1 j hj
  unfold labK at this
  have hm : (ks.getD j (mk n0 [])).root ∈ nds (mk n ks) := by
    rw [Gj]
    exact List.mem_cons_of_mem _ (kid_mem hj)
  rw [show ((ks.getD j (mk n0 [])).root.kind == 9) = false from beq_eq_false_iff_ne.2 (hp _ hm).2, cond_false] at this
  have r3 : isRow3 n = true := by unfold isRow3; rcases hr with hr | hr <;> simp [hr]
  rw [r3, show ltB 0 (j : Int) = true by rw [Ho]; omega] at this
  simp only [Bool.and_eq_true, Bool.not_eq_true', Bool.true_and, Bool.and_eq_false_imp, Bool.not_eq_false'] at this
  have h2 := this.2.2
  unfold labs
  simp only [List.getD_eq_getElem?_getD, List.getElem?_map, List.getElem?_eq_getElem hj, List.getElem?_eq_getElem (show j - 1 < ks.length by omega), Option.map_some, Option.getD_some] at h2 ⊢
  exact h2
theorem findIdx_at {ks : List (Rose Node)} (hr : Rising (labs ks)) {j : Nat} (hj : j < ks.length) : ks.findIdx? (fun k => k.root.name == ks[j].root.name) = some j := by
  rw [List.findIdx?_eq_some_iff_getElem]
  refine ⟨hj, by simp, fun i hi => ?_⟩
  intro e
  have e2 : ks[i].root.name = ks[j].root.name := by simpa using e
  have := rising_inj hr (i := i) (j := j) (by rw [G3]; omega) (by rw [G3]; exact hj) (by unfold labs; simp [hj, show i < ks.length by omega, e2])
  omega
theorem kid_name {ks : List (Rose Node)} {j : Nat} (hj : j < ks.length) : (labs ks).getD j [] = ks[j].root.name := by unfold labs; simp [hj]
theorem R2 {ks : List (Rose VNode)} {j : Nat} (hj : j < ks.length) : (labsV ks).getD j [] = ks[j].root.label := by unfold labsV; simp [hj]
theorem fieldR_at {t : Rose Node} (hr : Rising (labs t.kids)) {j : Nat} (hj : j < t.kids.length) : fieldR t t.kids[j].root.name = some (clrX t.kids[j]) := by
  unfold fieldR
  rw [findIdx_at hr hj]
  simp [hj]
theorem fields_all {t : Rose Node} (hr : Rising (labs t.kids)) {ks : List (Rose VNode)} (h : labsV ks = labs t.kids) : fieldsR t ks = some (t.kids.map clrX) := by
  have hl : ks.length = t.kids.length := by rw [← Mu (ks := ks), h, G3]
  have : ∀ m, m ≤ ks.length → fieldsR t (ks.take m) = some ((t.kids.take m).map clrX) := by
    intro m
    induction m with
    | zero => intro _; rfl
    | succ m ih =>
      intro hm
      have hn : ks[m].root.label = t.kids[m].root.name := by
        rw [← R2 (show m < ks.length by omega), h, kid_name (show m < t.kids.length by omega)]
      rw [List.take_succ_eq_append_getElem (show m < ks.length by omega), S4, ih (by omega), hn, fieldR_at hr (by omega), List.take_succ_eq_append_getElem (show m < t.kids.length by omega), List.map_append]
      rfl
  have h2 := this ks.length (Nat.le_refl _)
  rw [List.take_length, hl, List.take_length] at h2
  exact h2
theorem fields_labs {t : Rose Node} {n : VNode} {ks : List (Rose VNode)} {l : List (Rose Node)} (hr : Rising (labs t.kids)) (hk : Rising (labsV ks)) (hl : ks.length = t.kids.length) (h : fieldsR t ks = some l) : labsV ks = labs t.kids := by
  refine rising_same hk hr (by rw [Mu, G3, hl]) fun i hi => ?_
  rw [Mu] at hi
  have h1 := fieldsR_at h i hi (by rw [T5 h]; exact hi)
  obtain ⟨j, hj, _, h3⟩ := A5 h1
  exact ⟨j, by rw [G3]; exact hj, by rw [kid_name hj, R2 hi, h3]⟩
theorem tagP_idx {n : VNode} {ks : List (Rose Node)} (h5 : n.kind = 5) : ks.findIdx? (tagP n) = ks.findIdx? (fun k => k.root.name == n.name) := by
  congr 1
  funext k
  unfold tagP
  rw [show (n.kind == 5) = true by simp [h5], Bool.true_and, Bool.beq_comm]
theorem tagP_none {n : VNode} {ks : List (Rose Node)} (h5 : n.kind ≠ 5) : ks.findIdx? (tagP n) = none := by
  rw [List.findIdx?_eq_none_iff]
  intro k _
  unfold tagP
  rw [show (n.kind == 5) = false by simp [h5], Bool.false_and]
theorem dyn_eta {t : Rose Node} (h : PT t) (h0 : t.root.kind = 0) : same3 (nds dynT) (nds (mk t.root [])) = true ∧ TyT (mk t.root []) ∧ (mk t.root []).root.kind = 0 := by
  have hw : wf ar (mk t.root []) := ⟨by rw [B0 h0]; rfl, trivial⟩
  exact ⟨same_dyn (t := mk t.root []) h0 hw h.1.name, ⟨hw, by rw [Gj, ndss]; simp⟩, h0⟩
theorem pt_dyn1 {t : Rose Node} (h : PT t) (h0 : t.root.kind = 0) : PT (mk t.root []) := by
  have hw : wf ar (mk t.root []) := ⟨by rw [B0 h0]; rfl, trivial⟩
  have hn : ∀ m ∈ nds (mk t.root []), m = t.root := fun m hm => by rw [Gj, ndss, List.mem_singleton] at hm; exact hm
  refine ⟨⟨hw, fun m hm => by rw [hn m hm]; exact h.1.numb _ (Mh t), ?_, rfl, h.1.name, h.1.kind, by rw [Gj, ndss]; simp⟩, ?_⟩
  · rw [depth, depths]; decide
  · rw [Ni]
    intro m hm
    rw [hn m hm]
    exact Ni.1 h.2 _ (Mh t)
theorem fits9_fits : ∀ (N : Nat) {x : Rose VNode} {t : Rose Node} {d : Nat}, (nds x).length ≤ N → wf arV x → okV x d = true → PT t → fits9 x t = fitsR x t
  | 0, x, t, d, hN, _, _, _ => by have := Gw x; omega
  | N + 1, mk n ks, t, d, hN, hw, hx, ht => by
    have hus := okV_uses hx
    simp only [root_mk] at hus
    have hkids : ∀ (l : List (Rose Node)), (∀ y ∈ l, PT y) → l.length = ks.length → fits9s ks l = fitsRs ks l := by
      intro l hl hll
      rw [B5, B4, Bool.eq_iff_iff, K7, K7]
      refine forall_congr' fun j => imp_congr_right fun hj => ?_
      rw [Lp hj, fits9_fits N (by have := kid_lenR (n := n) hj; omega) (So hw.2 _ (List.getElem_mem hj)) (okV_kid hx hj) (pt_getD hl j)]
    have hknum : t.root.kind = 6 → t.root.n = (t.kids.length : Int) := by
      intro h6
      have h1 := (Rp.1 ht.1.wf).1
      have h2 := Ph (ht.1.numb _ (Mh t))
      rw [h1, ← h2]
      unfold many3
      rw [h6]
      rfl
    rw [fits9, fitsR]
    by_cases t0 : t.root.kind = 0
    · rw [show (t.root.kind == 0) = true by simp [t0], cond_true]
      by_cases n7 : n.kind = 7
      · have hu := (Om (uses_wrap hus n7)).2
        rw [show (n.kind == 7) = true by simp [n7], cond_true, show (n.kind == 6) = false by simp [n7], cond_false, cond_true]
        have hno : same3 n.u (nds t) = false := by
          rw [Bool.eq_false_iff]
          intro h
          obtain ⟨y, hy, hyr⟩ := H3 (Na.1 hu).1
          rw [hy] at hu h
          have := Ox h
          have := O0 hu
          omega
        rw [hno, Bool.true_and, Bool.false_or]
      · rw [show (n.kind == 7) = false by simp [n7], cond_false]
        have hk0 : n.kind ≠ 4 → n.kind ≠ 5 → ks = [] := by
          intro h4 h5
          have := hw.1
          unfold arV at this
          rw [if_neg h4, if_neg (by omega)] at this
          exact List.eq_nil_of_length_eq_zero this
        by_cases n6 : n.kind = 6
        · rw [hk0 (by omega) (by omega), show (n.kind == 6) = true by simp [n6], cond_true, fits9s, Bool.true_or]
        · rw [show (n.kind == 6) = false by simp [n6], cond_false, cond_false]
          cases h45 : (n.kind == 4 || n.kind == 5) with
          | false =>
            rw [Bool.or_eq_false_iff, beq_eq_false_iff_ne, beq_eq_false_iff_ne] at h45
            rw [hk0 h45.1 h45.2, fits9s, cond_false, Bool.true_or]
          | true =>
            rw [cond_true, hkids _ (fun y hy => by rw [List.eq_of_mem_replicate hy]; exact pt_dyn1 ht t0) (by simp)]
            have hp : partsR n ks t = some (List.replicate ks.length dynT) := by unfold partsR; rw [show (t.root.kind == 0) = true by simp [t0], cond_true]
            rw [hp]
            simp only
            rw [B4, B4, Bool.eq_iff_iff, K7, K7]
            refine forall_congr' fun j => imp_congr_right fun hj => ?_
            obtain ⟨d1, d2, d3⟩ := dyn_eta ht t0
            simp only [List.getD_eq_getElem?_getD, List.getElem?_replicate, hj, if_true, Option.getD_some]
            rw [fits_same d2.1 tyT_dyn.1 (by rw [same3_comm]; exact d1)]
    · rw [show (t.root.kind == 0) = false by simp [t0], cond_false]
      simp only [Bool.false_or, Bool.false_and, Bool.or_false]
      by_cases t5 : t.root.kind = 5
      · rw [show (t.root.kind == 5) = true by simp [t5], cond_true]
        have hpn : partsR n ks t = none := by unfold partsR; simp [t5]
        rw [hpn]
        have hbn : isBaseB n t.root.kind = false := by
          unfold isBaseB
          rw [t5]
          cases n.kind == 0 <;> cases n.kind == 1 <;> cases n.kind == 2 <;> cases n.kind == 3 <;> rfl
        rw [hbn]
        cases n.kind == 6 <;> cases n.kind == 7 <;> cases (n.kind == 4 || n.kind == 5) <;> simp
      · rw [show (t.root.kind == 5) = false by simp [t5], cond_false]
        have h7s : n.kind = 7 → same3 n.u (nds t) = false := by
          intro n7
          have hu := (Om (uses_wrap hus n7)).2
          rw [Bool.eq_false_iff]
          intro h
          obtain ⟨y, hy, hyr⟩ := H3 (Na.1 hu).1
          rw [hy] at hu h
          have := Ox h
          have := O0 hu
          omega
        by_cases t6 : t.root.kind = 6
        · rw [show (t.root.kind == 6) = true by simp [t6], cond_true]
          have hrt := rising_type ht (.inl t6)
          by_cases n4 : n.kind = 4
          · rw [show (n.kind == 4) = true by simp [n4], show (n.kind == 6) = false by simp [n4], show (n.kind == 7) = false by simp [n4], Bool.true_and, Bool.true_or]
            simp only [cond_false, cond_true]
            have hok : okKids n ks = true := by rw [okV] at hx; simp only [Bool.and_eq_true] at hx; exact hx.2.2.1
            have hrk := rising_kids hok n4
            have hpe : partsR n ks t = cond (t.root.n == (ks.length : Int)) (fieldsR t ks) none := by
              unfold partsR
              rw [show (t.root.kind == 0) = false by simp [t0], show (t.root.kind == 7) = false by simp [t6], show (t.root.kind == 6) = true by simp [t6], show (n.kind == 4) = true by simp [n4]]
              rfl
            rw [hpe]
            by_cases hl : labsV ks = labs t.kids
            · have hlen : ks.length = t.kids.length := by rw [← Mu (ks := ks), hl, G3]
              rw [show (t.root.n == (ks.length : Int)) = true by rw [beq_iff_eq, hknum t6, hlen], cond_true, fields_all hrt hl, show (labsV ks == labs t.kids) = true by simp [hl], Bool.true_and]
              simp only
              refine hkids _ (fun y hy => ?_) (by rw [List.length_map, hlen])
              rw [List.mem_map] at hy
              obtain ⟨z, hz, rfl⟩ := hy
              obtain ⟨j, hj, rfl⟩ := List.getElem_of_mem hz
              exact pt_kid ht hj
            · rw [show (labsV ks == labs t.kids) = false by simp [hl], Bool.false_and]
              cases hn : (t.root.n == (ks.length : Int)) with
              | false => rfl
              | true =>
                rw [cond_true]
                cases hf : fieldsR t ks with
                | none => rfl
                | some l =>
                  have hlen : ks.length = t.kids.length := by
                    rw [beq_iff_eq, hknum t6] at hn
                    omega
                  exact absurd (fields_labs (n := n) hrt hrk hlen hf) hl
          · rw [show (n.kind == 4) = false by simp [n4], Bool.false_and, Bool.false_and]
            have hpn : partsR n ks t = none := by
              unfold partsR
              rw [show (t.root.kind == 0) = false by simp [t0], show (t.root.kind == 7) = false by simp [t6], show (t.root.kind == 6) = true by simp [t6], show (n.kind == 4) = false by simp [n4]]
              rfl
            rw [hpn]
            have hbn : isBaseB n t.root.kind = false := by
              unfold isBaseB
              rw [t6]
              cases n.kind == 0 <;> cases n.kind == 1 <;> cases n.kind == 2 <;> cases n.kind == 3 <;> rfl
            rw [hbn]
            by_cases n7 : n.kind = 7
            · rw [h7s n7]; simp
            · rw [show (n.kind == 7) = false by simp [n7]]
              cases n.kind == 6 <;> cases (false || n.kind == 5) <;> simp
        · rw [show (t.root.kind == 6) = false by simp [t6], cond_false]
          by_cases t7 : t.root.kind = 7
          · rw [show (t.root.kind == 7) = true by simp [t7], cond_true]
            by_cases n5 : n.kind = 5
            · rw [tagP_idx n5, show (n.kind == 6) = false by simp [n5], show (n.kind == 7) = false by simp [n5], show (n.kind == 4 || n.kind == 5) = true by simp [n5]]
              simp only [cond_false, cond_true]
              have hpe : partsR n ks t = (fieldR t n.name).map fun y => [y] := by
                unfold partsR
                rw [show (t.root.kind == 0) = false by simp [t0], show (t.root.kind == 7) = true by simp [t7], show (n.kind == 5) = true by simp [n5]]
                rfl
              rw [hpe]
              unfold fieldR
              cases hi : t.kids.findIdx? (fun k => k.root.name == n.name) with
              | none => rfl
              | some j =>
                have hj : j < t.kids.length := (List.findIdx?_eq_some_iff_getElem.1 hi).1
                simp only [Option.map_some]
                refine hkids _ (fun y hy => ?_) (kid1 (x := mk n ks) hw n5).symm
                rw [List.mem_singleton] at hy
                rw [hy, Lp hj]
                exact pt_kid ht hj
            · rw [tagP_none n5]
              have hpn : partsR n ks t = none := by
                unfold partsR
                rw [show (t.root.kind == 0) = false by simp [t0], show (t.root.kind == 7) = true by simp [t7], show (n.kind == 5) = false by simp [n5], show (t.root.kind == 6) = false by simp [t6]]
                rfl
              rw [hpn]
              have hbn : isBaseB n t.root.kind = false := by
                unfold isBaseB
                rw [t7]
                cases n.kind == 0 <;> cases n.kind == 1 <;> cases n.kind == 2 <;> cases n.kind == 3 <;> rfl
              rw [hbn]
              by_cases n7 : n.kind = 7
              · rw [h7s n7]; simp
              · rw [show (n.kind == 7) = false by simp [n7]]
                cases n.kind == 6 <;> cases (n.kind == 4 || n.kind == 5) <;> simp
          · rw [show (t.root.kind == 7) = false by simp [t7], cond_false, base_is]
            have hpn : partsR n ks t = none := by
              unfold partsR
              rw [show (t.root.kind == 0) = false by simp [t0], show (t.root.kind == 7) = false by simp [t7], show (t.root.kind == 6) = false by simp [t6]]
              rfl
            rw [hpn]
            by_cases n7 : n.kind = 7
            · rw [h7s n7]
              unfold isBaseB
              simp [n7]
            · rw [show (n.kind == 7) = false by simp [n7]]
              by_cases n6 : n.kind = 6
              · unfold isBaseB
                simp [n6]
              · rw [show (n.kind == 6) = false by simp [n6]]
                try simp only [cond_false]
                cases h45 : (n.kind == 4 || n.kind == 5) with
                | false => rfl
                | true =>
                  rw [Bool.or_eq_true, beq_iff_eq, beq_iff_eq] at h45
                  unfold isBaseB
                  rcases h45 with h | h <;> simp [h]
end Go.Am.Ty
set_option linter.unusedSimpArgs false
set_option linter.unusedVariables false
set_option maxHeartbeats 2000000
namespace Go.Am.Ty
open Go.Proofs Go.Rose Go.Rose.Rose
open Enc (enc dec)
def oneV (a b : List VNode) : Bool := decide (a = b)
theorem oneV_refl (a : List VNode) : oneV a a = true := by unfold oneV; simp
theorem oneV_same {a b : List VNode} (h : sameV a b = false) : oneV a b = false := by
  unfold oneV
  rw [decide_eq_false_iff_not]
  intro e
  subst e
  unfold sameV at h
  simp at h
def con_One19 : Con := con2 (fun (a b : Sl VNode) => InV a.l ∧ InV b.l) (fun a b => oneV a.l b.l)
noncomputable def ctx_One19 : Ctx := ⟨tab, lkC [(31, con_Same19), (22, con_One3)], 60, lkB [], [], false⟩
theorem Mx : ctx_One19.τ = tab := rfl
theorem Pv : ctx_One19.Γ = lkC [(31, con_Same19), (22, con_One3)] := rfl
theorem Pu : ctx_One19.dp = 60 := rfl
theorem Pw : ctx_One19.Δ = lkB [] := rfl
theorem Cf : ctx_One19.wr = false := rfl
set_option maxRecDepth 100000 in
theorem good_One19 : Good Try.prog (37, con_One19) := by
  refine ⟨U2 Try.func37 (by kernel_rfl) rfl, ?_⟩
  have K : CtxOk Try.prog ctx_One19 := U5 Kh Ka (by
    intro p hp
    simp only [List.mem_cons, List.not_mem_nil, or_false] at hp
    rcases hp with rfl | rfl
    · exact good_Same19
    · exact good_One3) (by simp)
  obtain ⟨c, hc⟩ : ∃ c, Try.f37.body = some c := ⟨_, rfl⟩
  refine U6 K Try.func37 hc [.tmp 4] rfl 42 rfl (fun cvs hpre => ?_)
  change con_One19.pre cvs at hpre
  unfold con_One19 at hpre
  obtain ⟨⟨a⟩, ⟨b⟩, rfl, hIa, hIb⟩ := Ki hpre
  have ⟨ha, hA⟩ : InV a := hIa
  have ⟨hb, hB⟩ : InV b := hIb
  have hIa' : InV a := hIa
  have hIb' : InV b := hIb
  clear hpre
  simp only [Try.f37, Option.some.injEq] at hc
  subst hc
  refine Kq 2 (of_decide_eq_true (by kernel_rfl)) ?_
  cases hs : sameV a b with
  | false =>
    have hr := oneV_same hs
    (sym =>
     simp [hs,hr,Uv,Uy,Ux,Uw,szV,Mx,Pv,Pu,Pw,con_One19.eq_def,con_One3.eq_def,con_Same19.eq_def,Zb,Zc,Ze,Zf,Z9,Qc,Qd,Qe,Qf,Qn,Qo,Qp,Qq,Qs,Q1,Q2,Q4,Q8,Jf,Jj,Jk,Jl,Jw,J3,J4,J5,J6,J8,Xb,Xf,Xn,Xo,Xv,X3,X5,X6,Wa,Wb,We,Wg,Wh,Ws,Wt,Wu,Wv,Ww,Wx,Wy,Wz,W5,W6,W9,Ya,Ye,Yi,Yx,Y6,Y7,Va,Vb,Vc,Vd,Ve,Vf,Vi,Vn,Vp,Vs,Vt,V4,Uj,Ul,Um,Un,Ky]
     tactic =>
      try simp only [U0] at *
      try simp only [nc2] at *
      try simp (maxSteps := 4000000) only [hs,hr,Uv,Uy,Ux,Uw,szV,U3]
      repeat' (first | with_reducible assumption | with_reducible refine And.intro ?_ ?_ | intro _ | omega | (rw [Uz]; omega))
      all_goals first
        | exact hIa'
        | exact hIb'
        | skip)
  | true =>
    have hsn : a.map normV = b.map normV := by unfold sameV at hs; rwa [beq_iff_eq] at hs
    have hlen : a.length = b.length := by have := congrArg List.length hsn; simpa using this
    (sym =>
     simp [hs,Uv,Uy,Ux,Uw,szV,Mx,Pv,Pu,Pw,con_One19.eq_def,con_One3.eq_def,con_Same19.eq_def,Zb,Zc,Ze,Zf,Z9,Qc,Qd,Qe,Qf,Qq,Qs,Q1,Q2,Q4,Q8,Jf,Jj,Jl,Jw,J3,J4,J5,J6,J8,Xb,Xf,Xn,Xo,Xv,X2,X3,X5,X6,X7,X8,Wb,We,Wg,Wh,Ws,Wt,Wu,Wv,Ww,Wx,Wy,Wz,W5,W6,W9,Ya,Ye,Yi,Yx,Y6,Y7,Va,Vb,Vc,Vd,Ve,Vf,Vi,Vn,Vo,Vs,Vt,V3,V4,Uk,Ul,Um,Un,Ky]
     tactic =>
      try simp only [U0] at *
      try simp only [nc2] at *
      try simp (maxSteps := 4000000) only [hs,Uv,Uy,Ux,Uw,szV,U3]
      repeat' (first | with_reducible assumption | with_reducible refine And.intro ?_ ?_ | intro _ | omega | (rw [Uz]; omega))
      refine Kd [4, 10, 11, 12, 13, 14, 15, 16, 17, 18, 19, 20, 21, 22, 23, 24, 25, 26, 27, 28, 29, 30, 31, 32, 33, 34, 35, 36, 37, 38, 39, 40, 41] (fun k : Nat => [(5, .d (.int .i64 k))]) (fun k : Nat => []) (fun k : Nat => k ≤ a.length ∧ ∀ j, j < k → (a.getD j v0).t = (b.getD j v0).t ∧ (a.getD j v0).u = (b.getD j v0).u) (fun k : Nat => a.length - k) 0 ?_ ?_ ?_
      · simp
      · ((try simp only [U1, killAll, setSlots, updAll, upd, U9, setCs, putC, Nat.reduceDiv, Nat.reduceMod, Nat.reduceMul, Nat.reduceAdd, Nat.reduceEqDiff, List.set_cons_zero, List.set_cons_succ, if_true, if_false, reduceIte]); (first | refine Wk.of_fl ?_ | skip); simp only [Wk, wkK, wkCs, wkT, wk1, AV.kept, keptAll, wkO, lk, wkObj, and_true, true_and, and_self, Nat.reduceEqDiff, Nat.reduceLeDiff, if_true, if_false, reduceIte, reduceCtorEq, Option.isSome, false_implies]; try simp [Wk, wkK, wkT, wk1, AV.kept, keptAll, wkO, lk, wkObj])
      rintro k ⟨hk, hno⟩
      rcases Kg k a.length with ⟨hlt, hlb⟩ | ⟨hlt, hlb⟩
      · have hlt2 : k < b.length := by omega
        have q1 := U8 v0 hlt
        have q2 := U8 v0 hlt2
        obtain ⟨s1, s2⟩ := hA _ (Mj (d := v0) hlt)
        obtain ⟨s3, s4⟩ := hB _ (Mj (d := v0) hlt2)
        have hbad : ((a.getD k v0).t ≠ (b.getD k v0).t ∨ (a.getD k v0).u ≠ (b.getD k v0).u) → oneV a b = false := by
          intro h
          unfold oneV
          rw [decide_eq_false_iff_not]
          intro e
          subst e
          rcases h with h | h <;> exact h rfl
        have hgood : (a.getD k v0).t = (b.getD k v0).t → (a.getD k v0).u = (b.getD k v0).u → ∀ j, j < k + 1 → (a.getD j v0).t = (b.getD j v0).t ∧ (a.getD j v0).u = (b.getD j v0).u := by
          intro h1 h2 j hj
          by_cases hjk : j = k
          · subst hjk; exact ⟨h1, h2⟩
          · exact hno j (by omega)
        obtain ⟨x, hx⟩ : ∃ x, a.getD k v0 = x := ⟨_, rfl⟩
        obtain ⟨y, hy⟩ : ∃ y, b.getD k v0 = y := ⟨_, rfl⟩
        rw [hx] at q1 s1 s2 hbad hgood
        rw [hy] at q2 s3 s4 hbad hgood
        cases e1 : (x.t == y.t) with
        | false =>
          have hr := hbad (.inl (by simpa using e1))
          (sym =>
           simp [hlb,q1,q2,e1,hr,Uv,Uy,Ux,Uw,szV,Ut,Ur,Uu,Uq,szN,Us,Mx,Pv,Pu,Pw,Cf,con_One3.eq_def,con_Same19.eq_def,Zb,Zc,Zd,Ze,Zf,Zg,Zh,Zi,Zj,Zk,Zl,Zm,Zo,Zp,Zq,Zs,Zt,Zv,Zx,Zy,Z6,Z9,Qb,Qc,Qd,Qe,Qf,Qn,Qo,Qp,Qq,Qr,Qs,Q1,Q2,Q4,Q5,Q6,Q8,Jf,Jj,Jk,Jl,Jy,Jz,J0,J5,J6,J7,J8,J9,Xa,Xb,Xc,Xf,Xv,X2,X3,X4,X5,X6,X7,Wa,Wb,Wc,Wd,We,Wf,Wg,Wh,Wi,Wo,Wp,Wq,Wr,Ws,Wt,Wu,Wv,Ww,Wy,Wz,W3,W4,W7,W8,W9,Ya,Yc,Yd,Ye,Yh,Yi,Yl,Yu,Yv,Yx,Yz,Y0,Y6,Y7,Y8,Y9,Vb,Vj,Vk,Vp,Vq,Vs,Vt,V4,Uj,Uk,Ul,Um,Un,Uo,Up,U4,Ky,U7,Kc,Ke]
           tactic =>
            try simp only [U0] at *
            try simp only [nc2] at *
            try simp (maxSteps := 4000000) only [hlb,q1,q2,e1,hr,Uv,Uy,Ux,Uw,szV,Ut,Ur,Uu,Uq,szN,Us,U3]
            repeat' (first | with_reducible assumption | with_reducible refine And.intro ?_ ?_ | intro _ | omega | (rw [Uz]; omega))
            all_goals first
              | (with_reducible refine Kf ?_; kernel_rfl)
              | omega
              | skip)
        | true =>
          cases e2 : (x.u == y.u) with
          | false =>
            have hr := hbad (.inr (by simpa using e2))
            (sym =>
             simp [hlb,q1,q2,e1,e2,hr,Uv,Uy,Ux,Uw,szV,Ut,Ur,Uu,Uq,szN,Us,Mx,Pv,Pu,Pw,Cf,con_One3.eq_def,con_Same19.eq_def,Zb,Zc,Zd,Ze,Zf,Zg,Zh,Zi,Zj,Zk,Zl,Zm,Zo,Zp,Zq,Zs,Zt,Zv,Zx,Zy,Z6,Z9,Qb,Qc,Qd,Qe,Qf,Qn,Qo,Qp,Qq,Qr,Qs,Q1,Q2,Q4,Q5,Q6,Q8,Jf,Jj,Jk,Jl,Jy,Jz,J0,J5,J6,J7,J8,J9,Xa,Xb,Xc,Xf,Xv,X2,X3,X4,X5,X6,X7,Wa,Wb,Wc,Wd,We,Wf,Wg,Wh,Wi,Wo,Wp,Wq,Wr,Ws,Wt,Wu,Wv,Ww,Wy,Wz,W3,W4,W7,W8,W9,Ya,Yc,Yd,Ye,Yh,Yi,Yl,Yu,Yv,Yx,Yz,Y0,Y6,Y7,Y8,Y9,Vb,Vj,Vk,Vo,Vp,Vq,Vs,Vt,V4,Uj,Uk,Ul,Um,Un,Uo,Up,U4,Ky,U7,Kc,Ke]
             tactic =>
              try simp only [U0] at *
              try simp only [nc2] at *
              try simp (maxSteps := 4000000) only [hlb,q1,q2,e1,e2,hr,Uv,Uy,Ux,Uw,szV,Ut,Ur,Uu,Uq,szN,Us,U3]
              repeat' (first | with_reducible assumption | with_reducible refine And.intro ?_ ?_ | intro _ | omega | (rw [Uz]; omega))
              all_goals first
                | (with_reducible refine Kf ?_; kernel_rfl)
                | omega
                | skip)
          | true =>
            have hst := hgood (by simpa using e1) (by simpa using e2)
            (sym =>
             simp [hlb,q1,q2,e1,e2,Uv,Uy,Ux,Uw,szV,Ut,Ur,Uu,Uq,szN,Us,Mx,Pv,Pw,Cf,con_One3.eq_def,con_Same19.eq_def,Zb,Zc,Zd,Ze,Zf,Zg,Zh,Zi,Zj,Zk,Zl,Zm,Zo,Zp,Zq,Zs,Zt,Zv,Zx,Zy,Z6,Z9,Qb,Qc,Qd,Qe,Qf,Qq,Qr,Qs,Q1,Q2,Q4,Q5,Q6,Q8,Jf,Jj,Jl,Jy,Jz,J0,J5,J6,J7,J8,J9,Xa,Xb,Xc,Xf,Xv,X2,X3,X4,X5,X6,X7,Wb,Wc,Wd,We,Wf,Wg,Wh,Wi,Wo,Wp,Wq,Wr,Ws,Wt,Wu,Wv,Ww,Wy,Wz,W3,W4,W7,W8,W9,Ya,Yc,Yd,Ye,Yh,Yi,Yl,Yu,Yv,Yx,Yz,Y0,Y6,Y7,Y8,Y9,Vb,Vj,Vk,Vo,Vq,Vs,Vt,V3,V4,Uj,Uk,Ul,Um,Un,Uo,Up,U4,Ky,U7,Kc,Ke]
             tactic =>
              try simp only [U0] at *
              try simp only [nc2] at *
              try simp (maxSteps := 4000000) only [hlb,q1,q2,e1,e2,Uv,Uy,Ux,Uw,szV,Ut,Ur,Uu,Uq,szN,Us,U3]
              repeat' (first | with_reducible assumption | with_reducible refine And.intro ?_ ?_ | intro _ | omega | (rw [Uz]; omega))
              all_goals first
                | (with_reducible refine Kf ?_; kernel_rfl)
                | omega
                | exact ⟨k + 1, by ((try simp only [U1, killAll, setSlots, updAll, upd, U9, setCs, putC, Nat.reduceDiv, Nat.reduceMod, Nat.reduceMul, Nat.reduceAdd, Nat.reduceEqDiff, List.set_cons_zero, List.set_cons_succ, if_true, if_false, reduceIte]); (first | refine Wk.of_fl ?_ | skip); simp only [Wk, wkK, wkCs, wkT, wk1, AV.kept, keptAll, wkO, lk, wkObj, and_true, true_and, and_self, Nat.reduceEqDiff, Nat.reduceLeDiff, if_true, if_false, reduceIte, reduceCtorEq, Option.isSome, false_implies]; try simp [Wk, wkK, wkT, wk1, AV.kept, keptAll, wkO, lk, wkObj]), by omega, hst, by omega⟩
                | skip)
      · have hr : oneV a b = true := by
          unfold oneV
          rw [decide_eq_true_eq]
          refine List.ext_getElem hlen fun j h1 h2 => ?_
          obtain ⟨g1, g2⟩ := hno j (by omega)
          have g3 : normV a[j] = normV b[j] := by
            have := congrArg (fun l => l[j]?) hsn
            simpa [h1, h2] using this
          rw [Lp h1, Lp h2] at g1 g2
          revert g1 g2 g3
          generalize a[j] = p
          generalize b[j] = q
          intro g1 g2 g3
          unfold normV at g3
          obtain ⟨p1, p2, p3, p4, p5, p6, p7⟩ := p
          obtain ⟨q1, q2, q3, q4, q5, q6, q7⟩ := q
          simp only [VNode.mk.injEq] at *
          exact ⟨g3.1, g3.2.1, g3.2.2.1, g3.2.2.2.1, g3.2.2.2.2.1, g1, g2⟩
        (sym =>
         simp [hlb,hr,Uv,Uy,Ux,Uw,szV,Mx,Pu,Zb,Zc,Ze,Zf,Zg,Zo,Z6,Qb,Qd,Qn,Qo,Qp,Qq,Qs,Q1,Q2,Q4,Q8,Jk,Jy,Jz,J0,J5,J6,J8,Xa,Xb,Xc,Xf,X3,X5,X6,X9,Wa,Wb,We,Wg,Wh,Wi,Ws,Wt,Wu,Wv,W9,Ya,Yc,Yd,Yh,Yz,Y0,Y6,Y7,Y8,Y9,Vs,Vt,V4,Uk,Ul,Um,Un,Uo,U4,Kc,Ke]))
theorem given_of {v : List VNode} {l : List (Sl Node)} (h : givenB v l = true) : v.length ≤ 40 ∧ fewV v 40 = true ∧ (∃ x, v = nds x ∧ VT x) ∧ ∀ t ∈ l, plain7 t.l 30 = true := by
  unfold givenB at h
  rw [Bool.and_eq_true, Bool.and_eq_true, List.all_eq_true] at h
  exact ⟨(few_of h.2.1).1, h.2.1, Tv.1 h.2.2, h.1⟩
theorem O4 : ∀ (N : Nat) {x : Rose VNode}, (nds x).length ≤ N → (∀ m ∈ nds x, GoodN m) → ∀ m ∈ nds (plainR x), GoodN m
  | 0, x, hN, _ => by have := Gw x; omega
  | N + 1, mk n ks, hN, hx => by
    have hn := hx n (by rw [Gj]; simp)
    intro m hm
    rw [plainR] at hm
    cases hf : isFunB n with
    | true =>
      rw [hf, cond_true, Gj, ndss, List.mem_singleton] at hm
      rw [hm]
      exact ⟨⟨by simp, by intro m hm; simp at hm⟩, ⟨by simp, by intro m hm; simp at hm⟩, by simp, hn.2.2.2⟩
    | false =>
      rw [hf, cond_false, Gj, Ns, List.mem_cons] at hm
      rcases hm with rfl | hm
      · exact hn
      · have : ∀ (zs : List (Rose VNode)), m ∈ ndss zs → ∃ z ∈ zs, m ∈ nds z := by
          intro zs
          induction zs with
          | nil => intro h; simp [ndss] at h
          | cons z zs ih =>
            intro h
            rw [ndss, List.mem_append] at h
            rcases h with h | h
            · exact ⟨z, by simp, h⟩
            · obtain ⟨w, hw, hm⟩ := ih h
              exact ⟨w, by simp [hw], hm⟩
        obtain ⟨z, hz, hm2⟩ := this _ hm
        rw [List.mem_map] at hz
        obtain ⟨k, hk, rfl⟩ := hz
        obtain ⟨j, hj, rfl⟩ := List.getElem_of_mem hk
        exact O4 N (x := ks[j]) (by have := kid_lenR (n := n) hj; omega) (fun m hm => hx m (kid_memV (x := mk n ks) hj m hm)) m hm2
theorem tree7_pt {t : Rose Node} (h : PT t) : Tree7 (nds t) := ⟨h.1.len, h.1.numb, t, rfl, h.1.wf⟩
end Go.Am.Ty
set_option linter.unusedSimpArgs false
set_option linter.unusedVariables false
set_option maxHeartbeats 2000000
namespace Go.Am.Ty
open Go.Proofs Go.Rose Go.Rose.Rose
open Enc (enc dec)
theorem plain_vt {x : Rose VNode} (hv : VT x) : VT (plainR x) := by
  obtain ⟨h1, h2⟩ := plain_ok _ (Nat.le_refl _) hv.wf hv.ok
  exact ⟨h1, Nat.le_trans (L6 x) hv.len, by rw [Ap]; exact hv.name, h2⟩
end Go.Am.Ty
set_option linter.unusedSimpArgs false
set_option linter.unusedVariables false
set_option maxHeartbeats 2000000
namespace Go.Am.Ty
open Go.Proofs Go.Rose Go.Rose.Rose
open Enc (enc dec)
noncomputable def con_types19 : Con := con1t (fun (t : Sl Node) => Tree7 t.l) (fun t => kids7 t.l)
noncomputable def ctx_types19 : Ctx := ⟨tab, lkC [(78, con_Kids3), (91, con_Part3)], 60, lkB [], [], false⟩
theorem Lz : ctx_types19.τ = tab := rfl
theorem Di : ctx_types19.Γ = lkC [(78, con_Kids3), (91, con_Part3)] := rfl
theorem L1 : ctx_types19.dp = 60 := rfl
theorem Dj : ctx_types19.Δ = lkB [] := rfl
theorem ctx_types19_w : ctx_types19.wr = false := rfl
set_option maxRecDepth 100000 in
theorem good_types19 : Good Try.prog (72, con_types19) := by
  refine ⟨U2 Try.func72 (by kernel_rfl) rfl, ?_⟩
  have K : CtxOk Try.prog ctx_types19 := U5 Kh Ka (by
    intro p hp
    simp only [List.mem_cons, List.not_mem_nil, or_false] at hp
    rcases hp with rfl | rfl
    · exact D7
    · exact good_Part3) (by simp)
  obtain ⟨c, hc⟩ : ∃ c, Try.f72.body = some c := ⟨_, rfl⟩
  refine U6 K Try.func72 hc [.tmp 2, .tmp 3] rfl 40 rfl (fun cvs hpre => ?_)
  change con_types19.pre cvs at hpre
  unfold con_types19 at hpre
  obtain ⟨⟨t⟩, rfl, ht, hN, x, hxt, hx⟩ := Ai hpre
  simp only at ht hN hxt
  have hat : At ar t 0 x := by rw [hxt]; exact H1 hx
  have hT : Tame t := Rx hN (by omega)
  have htr : treeAt ar t 0 = x := Kx hat
  have hk3 : kids3 t 0 = kidPos 1 x.kids := kids3_at hN hat
  obtain ⟨hks, hkl⟩ := hat.kids
  have hkt : kids7 t = (⟨parts x.kids⟩, ⟨labs x.kids⟩) := by unfold kids7; rw [htr]
  obtain ⟨ks, hk⟩ : ∃ ks, x.kids = ks := ⟨_, rfl⟩
  rw [hk] at hks hkl hk3 hkt
  replace hks : Ats ar t 1 ks := hks
  have hle := Ak hks (by have := hat.lt; omega)
  obtain ⟨l, hl⟩ : ∃ l, kidPos 1 ks = l := ⟨_, rfl⟩
  have hll : l.length = ks.length := by rw [← hl, Nj]
  have hl1 : kids3 t 0 = l := by rw [hk3, ← hl]
  have hkn : ks.length ≤ 10000 := by
    have : ks.length ≤ (ndss ks).length := by
      clear hks hkl hle hll hl hk hkt hk3 hl1
      induction ks with
      | nil => simp
      | cons y ys ih => simp only [List.length_cons, ndss, List.length_append]; have := Gw y; omega
    omega
  simp only [Try.f72, Option.some.injEq] at hc
  subst hc
  refine Kq 2 (of_decide_eq_true (by kernel_rfl)) ?_
  (sym =>
   simp [con1t.eq_def,hl1,hkt,Ut,Ur,Uu,Uq,szN,Us,Lz,Di,L1,Dj,con_Kids3.eq_def,con_Part3.eq_def,con_types19.eq_def,Zb,Zc,Ze,Zf,Zn,Zo,Zr,Z1,Z9,Qe,Qf,Qq,Qs,Q1,Q2,Q4,Q8,Jb,Jc,Jd,Je,Jf,Jg,Jh,Ji,Jj,Jl,Jw,J3,J4,J5,J6,J8,Xb,Xd,Xf,Xn,Xo,Xv,X3,X5,X7,X8,Wb,We,Wg,Wh,Wi,Wm,Ws,Wt,Wu,Wv,Ww,Wx,Wy,Wz,W0,W4,W5,W6,W9,Ya,Y6,Y7,Va,Vb,Vc,Vd,Ve,Vf,Vg,Vi,Vl,Vn,Vs,Vt,V3,V6,Ul,Um,Un,K9,U7,Gt,Bs]
   tactic =>
    try simp only [U0] at *
    try simp only [nc2] at *
    try simp (maxSteps := 4000000) only [con1t.eq_def,hl1,hkt,Ut,Ur,Uu,Uq,szN,Us,U3]
    repeat' (first | with_reducible assumption | with_reducible refine And.intro ?_ ?_ | intro _ | omega | (rw [Uz]; omega))
    refine Kd [12, 13, 14, 15, 16, 17, 18, 19, 20, 21, 22, 23, 24, 25, 26, 27, 28, 29, 30, 31, 32, 33, 34, 35, 36, 37] (fun j : Nat => [(4, .sl 8 ((parts (ks.take j)).map (enc : Sl Node → D)).length), (5, .sl 9 ((labs (ks.take j)).map (enc : List UInt8 → D)).length), (7, .d (.int .i64 j))]) (fun j : Nat => [(8, .row 1 ((parts (ks.take j)).map enc) 0), (9, .row 1 ((labs (ks.take j)).map enc) 0)]) (fun j : Nat => j ≤ ks.length) (fun j : Nat => ks.length - j) 0 ?_ ?_ ?_
    · omega
    · ((try simp only [U1, killAll, setSlots, updAll, upd, U9, setCs, putC, Nat.reduceDiv, Nat.reduceMod, Nat.reduceMul, Nat.reduceAdd, Nat.reduceEqDiff, List.set_cons_zero, List.set_cons_succ, if_true, if_false, reduceIte]); (first | refine Wk.of_fl ?_ | skip); simp only [Wk, wkK, wkCs, wkT, wk1, AV.kept, keptAll, wkO, lk, wkObj, and_true, true_and, and_self, Nat.reduceEqDiff, Nat.reduceLeDiff, if_true, if_false, reduceIte, reduceCtorEq, Option.isSome, false_implies]; try simp [Wk, wkK, wkT, wk1, AV.kept, keptAll, wkO, lk, wkObj])
      exact ⟨⟨rfl, rfl⟩, rfl, rfl⟩
    rintro j hj
    have hp1 : (parts (ks.take j)).length = j := by rw [Mq, List.length_take]; omega
    have hp2 : (labs (ks.take j)).length = j := by rw [G3, List.length_take]; omega
    rcases Kg j l.length with ⟨hlt, hlb⟩ | ⟨hlt, hlb⟩
    · have hlt' : j < ks.length := by omega
      have hq := Bq 1 ks j hlt'
      rw [hl] at hq
      have ha := Co hks hlt'
      have hal := ha.lt
      have hel := U8 (0 : Int) (by omega : j < l.length)
      have hen := U8 n0 hal
      have hro : t.getD (1 + (ndss (ks.take j)).length) n0 = ks[j].root := ha.root n0
      have htj : treeAt ar t (1 + (ndss (ks.take j)).length) = ks[j] := Kx ha
      have hs1 := O5 hlt'
      have hs2 := labs_snoc hlt'
      (sym =>
       simp [hlb,hp1,hp2,hel,hq,hen,hro,htj,hs1,hs2,Int.toNat_natCast,Ut,Ur,Uu,Uq,szN,Us,Lz,Di,L1,Dj,ctx_types19_w,con_Kids3.eq_def,con_Part3.eq_def,Zb,Zc,Ze,Zf,Zg,Zo,Zp,Zq,Zr,Zs,Zv,Zx,Zy,Z1,Z4,Z5,Z6,Z9,Qb,Qd,Qe,Qf,Qq,Qs,Q1,Q2,Q4,Q8,Jb,Jc,Jd,Je,Jf,Jg,Jh,Ji,Jj,Jl,Jy,Jz,J0,J5,J6,J7,J8,J9,Xa,Xb,Xc,Xd,Xe,Xf,Xv,X2,X3,X5,X6,X7,Wb,We,Wg,Wh,Wi,Wj,Wm,Ws,Wt,Wu,Wv,Ww,Wy,Wz,W0,W3,W4,W5,W6,W7,W8,W9,Ya,Yc,Yd,Yh,Yl,Yn,Ys,Yt,Yv,Yw,Yz,Y0,Y1,Y3,Y6,Y7,Y8,Y9,Vg,Vi,Vl,Vn,Vs,Vt,V2,V3,V8,Uj,Ul,Um,Un,Uo,U4,K9,U7,Kb,Gt,Bs,Hy]
       tactic =>
        try simp only [U0] at *
        try simp only [nc2] at *
        try simp (maxSteps := 4000000) only [hlb,hp1,hp2,hel,hq,hen,hro,htj,hs1,hs2,Int.toNat_natCast,Ut,Ur,Uu,Uq,szN,Us,U3]
        repeat' (first | with_reducible assumption | with_reducible refine And.intro ?_ ?_ | intro _ | omega | (rw [Uz]; omega))
        · exact ⟨_, ha⟩
        · have hq1 : (parts (ks.take (j + 1))).length = j + 1 := by rw [Mq, List.length_take]; omega
          have hq2 : (labs (ks.take (j + 1))).length = j + 1 := by rw [G3, List.length_take]; omega
          refine ⟨j + 1, ?_, by omega, by omega⟩
          ((try simp only [U1, killAll, setSlots, updAll, upd, U9, setCs, putC, Nat.reduceDiv, Nat.reduceMod, Nat.reduceMul, Nat.reduceAdd, Nat.reduceEqDiff, List.set_cons_zero, List.set_cons_succ, if_true, if_false, reduceIte]); (first | refine Wk.of_fl ?_ | skip); simp only [Wk, wkK, wkCs, wkT, wk1, AV.kept, keptAll, wkO, lk, wkObj, and_true, true_and, and_self, Nat.reduceEqDiff, Nat.reduceLeDiff, if_true, if_false, reduceIte, reduceCtorEq, Option.isSome, false_implies]; try simp [Wk, wkK, wkT, wk1, AV.kept, keptAll, wkO, lk, wkObj, hq1, hq2])
          exact hs1)
    · have hjk : j = ks.length := by omega
      (sym =>
       simp [hlb,hp1,hp2,con1t.eq_def,hkt,Ut,Ur,Uu,Uq,szN,Us,Lz,L1,Zb,Zc,Ze,Zf,Zg,Zo,Z6,Qb,Qd,Qn,Qo,Qp,Qq,Qs,Q1,Q2,Q4,Q8,Jh,Ji,Jk,Jy,Jz,J0,J5,J6,J7,J8,J9,Xa,Xb,Xc,Xh,X3,X5,X6,X9,Wa,Wb,We,Wg,Wh,Wi,Ws,Wt,Wu,Wv,W9,Ya,Yc,Yd,Yh,Yz,Y0,Y3,Y6,Y7,Y8,Y9,Vs,Vt,Uk,Ul,Um,Uo,U4,Hy]
       tactic =>
        try simp only [U0] at *
        try simp only [nc2] at *
        try simp (maxSteps := 4000000) only [hlb,hp1,hp2,con1t.eq_def,hkt,Ut,Ur,Uu,Uq,szN,Us,U3]
        repeat' (first | with_reducible assumption | with_reducible refine And.intro ?_ ?_ | intro _ | omega | (rw [Uz]; omega))
        all_goals rw [hjk, List.take_length]))
def con_dynamic19 : Con := con0 (Sl.mk (arrow3 [n0] [n0]))
noncomputable def ctx_dynamic19 : Ctx := ⟨tab, lkC [(23, con_Arrow3)], 60, lkB [], [], false⟩
theorem I2 : ctx_dynamic19.τ = tab := rfl
theorem I4 : ctx_dynamic19.Γ = lkC [(23, con_Arrow3)] := rfl
theorem I3 : ctx_dynamic19.dp = 60 := rfl
theorem I5 : ctx_dynamic19.Δ = lkB [] := rfl
theorem good_dynamic19 : Good Try.prog (71, con_dynamic19) := by
  refine ⟨U2 Try.func71 (by kernel_rfl) rfl, ?_⟩
  have K : CtxOk Try.prog ctx_dynamic19 := U5 Kh Ka (by
    intro p hp
    simp only [List.mem_cons, List.not_mem_nil, or_false] at hp
    rcases hp with rfl
    · exact good_Arrow3) (by simp)
  obtain ⟨c, hc⟩ : ∃ c, Try.f71.body = some c := ⟨_, rfl⟩
  refine U6 K Try.func71 hc [.tmp 0] rfl 6 rfl (fun cvs hpre => ?_)
  change con_dynamic19.pre cvs at hpre
  unfold con_dynamic19 at hpre
  obtain rfl := Rh hpre
  simp only [Try.f71, Option.some.injEq] at hc
  subst hc
  (sym =>
   simp [Ut,Ur,Uu,Uq,szN,Us,I2,I4,I3,I5,con_Arrow3.eq_def,con_dynamic19.eq_def,Za,Zb,Zc,Ze,Zf,Zn,Zo,Zr,Z1,Z2,Z9,Qe,Qf,Qh,Ql,Qn,Qo,Qp,Qq,Qs,Q1,Q2,Q4,Q7,Q8,Ja,Jb,Jc,Jd,Je,Jf,Jg,Jh,Ji,Jj,Jk,Jl,Jw,J3,J4,Xd,Xe,Xf,Xh,Xs,Xt,Xv,X3,X5,Wa,Wb,We,Wg,Wh,Wi,Wl,Wm,Ws,Wt,Wu,Wv,Ww,Wx,Wy,Wz,W0,W3,W4,W5,W6,Yp,Y6,Y7,Y8,Y9,Vb,Vj,Vt,V2,V6,V8,Ul,Um,U7,Kb]
   tactic =>
    try simp only [U0] at *
    try simp only [nc2] at *
    try simp (maxSteps := 4000000) only [Ut,Ur,Uu,Uq,szN,Us,U3]
    repeat' (first | with_reducible assumption | with_reducible refine And.intro ?_ ?_ | intro _ | omega | (rw [Uz]; omega)))
def con_base19 : Con := con1t (fun (_ : VNode) => True) (fun n => (baseK n, baseOk n))
noncomputable def ctx_base19 : Ctx := ⟨tab, lkC [], 60, lkB [], [], false⟩
theorem ctx_base19_t : ctx_base19.τ = tab := rfl
theorem ctx_base19_d : ctx_base19.dp = 60 := rfl
theorem good_base19 : Good Try.prog (69, con_base19) := by
  refine ⟨U2 Try.func69 (by kernel_rfl) rfl, ?_⟩
  have K : CtxOk Try.prog ctx_base19 := U5 Kh Ka (by simp) (by simp)
  obtain ⟨c, hc⟩ : ∃ c, Try.f69.body = some c := ⟨_, rfl⟩
  refine U6 K Try.func69 hc [.tmp 2, .tmp 3] rfl 14 rfl (fun cvs hpre => ?_)
  change con_base19.pre cvs at hpre
  unfold con_base19 at hpre
  obtain ⟨n, rfl, -⟩ := Ai hpre
  simp only [Try.f69, Option.some.injEq] at hc
  subst hc
  (sym =>
   simp [con1t.eq_def,Uv,Uy,Ux,Uw,szV,ctx_base19_t,ctx_base19_d,con_base19.eq_def,Za,Zb,Zc,Ze,Zf,Zg,Zo,Zp,Zq,Zs,Zu,Zv,Zx,Qb,Qd,Ql,Qm,Qn,Qo,Qp,Qq,Qs,Q1,Q2,Q4,Q8,Jh,Ji,Jk,Jw,J3,J4,Xf,Xs,X2,X3,X5,X6,X7,Wa,Wb,We,Wg,Wh,Wi,Ws,Wt,Wu,Wv,Wx,Wz,W3,W4,W5,W6,W7,Yd,Yh,Yp,Yw,Yx,Y6,Y7,Y8,Y9,Va,Vb,V3,V4,Ul,Um,U4,Ke]
   tactic =>
    try simp only [U0] at *
    try simp only [nc2] at *
    try simp (maxSteps := 4000000) only [con1t.eq_def,Uv,Uy,Ux,Uw,szV,U3]
    unfold baseK baseOk
    repeat' (first | with_reducible assumption | with_reducible refine And.intro ?_ ?_ | intro _ | omega | (rw [Uz]; omega))
    all_goals first
      | rfl
      | (simp_all; done)
      | (simp_all [Bool.cond_eq_ite]; done)
      | skip)
noncomputable def con_labels19 : Con := con2 (fun (v : Sl VNode) (l : Sl (List UInt8)) => v.l.length ≤ 1000000 ∧ (∃ x, OneV v.l x) ∧ l.l.length ≤ 9223372036854775807) (fun v l => (rootV v.l).kind == 4 && labsV (treeAt arV v.l 0).kids == l.l)
noncomputable def ctx_labels19 : Ctx := ⟨tab, lkC [(70, con_Kids19)], 60, lkB [], [], false⟩
theorem Nf : ctx_labels19.τ = tab := rfl
theorem Nz : ctx_labels19.Γ = lkC [(70, con_Kids19)] := rfl
theorem Ny : ctx_labels19.dp = 60 := rfl
theorem N0 : ctx_labels19.Δ = lkB [] := rfl
theorem T7 : ctx_labels19.wr = false := rfl
set_option maxRecDepth 100000 in
theorem good_labels19 : Good Try.prog (73, con_labels19) := by
  refine ⟨U2 Try.func73 (by kernel_rfl) rfl, ?_⟩
  have K : CtxOk Try.prog ctx_labels19 := U5 Kh Ka (by
    intro p hp
    simp only [List.mem_cons, List.not_mem_nil, or_false] at hp
    rcases hp with rfl
    · exact Lo) (by simp)
  obtain ⟨c, hc⟩ : ∃ c, Try.f73.body = some c := ⟨_, rfl⟩
  refine U6 K Try.func73 hc [.tmp 4] rfl 39 rfl (fun cvs hpre => ?_)
  change con_labels19.pre cvs at hpre
  unfold con_labels19 at hpre
  obtain ⟨⟨v⟩, ⟨l⟩, rfl, hv, ⟨x, hx⟩, hl⟩ := Ki hpre
  simp only at hv hx hl
  have hx1 := hx.tree
  have hxl := hx.at.lt
  have ev := U8 v0 hxl
  have hro := hx.at.root v0
  have hk9 := Lk hx (by omega)
  have hrv : rootV v = x.root := hro
  rw [hro] at ev
  obtain ⟨ks, hks⟩ : ∃ ks, x.kids = ks := ⟨_, rfl⟩
  rw [hks] at hk9
  have hsl : (sls ks).length = ks.length := Nb
  have hkl := P5 x.kids
  have hvl : v.length = 1 + (ndss x.kids).length := by rw [hx.1, Gu, List.length_cons]; omega
  rw [hks] at hkl hvl
  obtain ⟨m, hm⟩ : ∃ m, x.root = m := ⟨_, rfl⟩
  rw [hm] at ev hrv
  obtain ⟨R, hR⟩ : ∃ R, (m.kind == 4 && labsV ks == l) = R := ⟨_, rfl⟩
  have hR2 := hR
  clear hpre
  simp only [Try.f73, Option.some.injEq] at hc
  subst hc
  refine Kq 2 (of_decide_eq_true (by kernel_rfl)) ?_
  cases k4 : (m.kind == 4) with
  | false =>
    have n4 : (m.kind != 4) = true := by rw [bne, k4]; rfl
    rw [k4, Bool.false_and] at hR2
    (sym =>
     simp [hx1,hk9,hks,hrv,ev,n4,k4,hsl,Uv,Uy,Ux,Uw,szV,Nf,Nz,Ny,N0,con_Kids19.eq_def,con_labels19.eq_def,Zb,Zc,Zd,Ze,Zf,Zo,Zp,Zq,Zs,Zt,Zv,Zx,Zy,Z9,Qb,Qd,Qe,Qf,Qn,Qo,Qp,Qq,Qs,Q1,Q2,Q4,Q8,Jf,Jj,Jk,Jl,Jw,J3,J4,J5,J6,J8,J9,Xb,Xc,Xf,Xn,Xo,Xu,Xv,X3,X5,X6,Wa,Wb,We,Wg,Wh,Wi,Ws,Wt,Wu,Wv,Ww,Wx,Wy,Wz,W5,W6,W7,W8,W9,Ya,Yd,Yh,Yl,Ys,Yv,Yx,Yz,Y0,Y6,Y7,Va,Vb,Vc,Vd,Ve,Vf,Vi,Vn,Vr,Vs,Vt,V3,V4,Ub,Uj,Ul,Um,Un,Uo,U4,Kc,Ke]
     tactic =>
      try simp only [U0] at *
      try simp only [nc2] at *
      try simp (maxSteps := 4000000) only [hx1,hk9,hks,hrv,ev,n4,k4,hsl,Uv,Uy,Ux,Uw,szV,U3]
      repeat' (first | with_reducible assumption | with_reducible refine And.intro ?_ ?_ | intro _ | omega | (rw [Uz]; omega))
      all_goals first
        | omega
        | rfl
        | skip)
  | true =>
  have n4 : (m.kind != 4) = false := by rw [bne, k4]; rfl
  rw [k4, Bool.true_and] at hR2
  by_cases hlen : ks.length = l.length
  case neg =>
    have hne : ((ks.length : Int) != (l.length : Int)) = true := by rw [bne_iff_ne]; omega
    have hf : (labsV ks == l) = false := by
      rw [beq_eq_false_iff_ne]
      intro e
      rw [← e, Mu] at hlen
      exact hlen rfl
    (sym =>
     simp [hx1,hk9,hks,hrv,ev,n4,k4,hsl,hne,hf,Uv,Uy,Ux,Uw,szV,Nf,Nz,Ny,N0,con_Kids19.eq_def,con_labels19.eq_def,Zb,Zc,Zd,Ze,Zf,Zo,Zp,Zq,Zs,Zt,Zv,Zx,Zy,Z6,Z9,Qb,Qd,Qe,Qf,Qn,Qo,Qp,Qq,Qs,Q1,Q2,Q4,Q8,Jf,Jj,Jk,Jl,Jw,J3,J4,J5,J6,J8,J9,Xb,Xc,Xf,Xn,Xo,Xu,Xv,X3,X5,X6,Wa,Wb,We,Wg,Wh,Wi,Ws,Wt,Wu,Wv,Ww,Wx,Wy,Wz,W5,W6,W7,W8,W9,Ya,Yd,Yh,Yl,Ys,Yv,Yx,Yz,Y0,Y4,Y5,Y6,Y7,Va,Vb,Vc,Vd,Ve,Vf,Vi,Vn,Vr,Vs,Vt,V3,V4,Ua,Uj,Uk,Ul,Um,Un,Uo,U4,K9,Kc,Ke,Bs,Gl]
     tactic =>
      try simp only [U0] at *
      try simp only [nc2] at *
      try simp (maxSteps := 4000000) only [hx1,hk9,hks,hrv,ev,n4,k4,hsl,hne,hf,Uv,Uy,Ux,Uw,szV,U3]
      repeat' (first | with_reducible assumption | with_reducible refine And.intro ?_ ?_ | intro _ | omega | (rw [Uz]; omega))
      all_goals first
        | omega
        | rfl
        | skip)
  have hne : ((ks.length : Int) != (l.length : Int)) = false := by rw [hlen, bne_self_eq_false]
  (sym =>
   simp [hx1,hk9,hks,hrv,ev,n4,k4,hsl,hne,Uv,Uy,Ux,Uw,szV,Nf,Nz,Ny,N0,con_Kids19.eq_def,con_labels19.eq_def,Zb,Zc,Zd,Ze,Zf,Zo,Zp,Zq,Zs,Zt,Zv,Zx,Zy,Z6,Z9,Qb,Qd,Qe,Qf,Qq,Qs,Q1,Q2,Q4,Q8,Jf,Jj,Jl,Jw,J3,J4,J5,J6,J8,J9,Xb,Xc,Xf,Xn,Xo,Xu,Xv,X2,X3,X5,X6,X7,X8,Wb,We,Wg,Wh,Wi,Ws,Wt,Wu,Wv,Ww,Wx,Wy,Wz,W5,W6,W7,W8,W9,Ya,Yd,Yh,Yl,Ys,Yv,Yx,Yz,Y0,Y4,Y5,Y6,Y7,Va,Vb,Vc,Vd,Ve,Vf,Vi,Vn,Vr,Vs,Vt,V3,V4,V9,Uk,Ul,Um,Un,Uo,U4,K9,Kc,Ke,Bs,Gl]
   tactic =>
    try simp only [U0] at *
    try simp only [nc2] at *
    try simp (maxSteps := 4000000) only [hx1,hk9,hks,hrv,ev,n4,k4,hsl,hne,Uv,Uy,Ux,Uw,szV,U3]
    repeat' (first | with_reducible assumption | with_reducible refine And.intro ?_ ?_ | intro _ | omega | (rw [Uz]; omega))
    refine Kd [4, 21, 22, 23, 24, 25, 26, 27, 28, 29, 30, 31, 32, 33, 34, 35, 36, 37, 38] (fun k : Nat => [(6, .d (.int .i64 k))]) (fun k : Nat => []) (fun k : Nat => k ≤ l.length ∧ ∀ j, j < k → (labsV ks).getD j [] = l.getD j []) (fun k : Nat => l.length - k) 0 ?_ ?_ ?_
    · simp
    · ((try simp only [U1, killAll, setSlots, updAll, upd, U9, setCs, putC, Nat.reduceDiv, Nat.reduceMod, Nat.reduceMul, Nat.reduceAdd, Nat.reduceEqDiff, List.set_cons_zero, List.set_cons_succ, if_true, if_false, reduceIte]); (first | refine Wk.of_fl ?_ | skip); simp only [Wk, wkK, wkCs, wkT, wk1, AV.kept, keptAll, wkO, lk, wkObj, and_true, true_and, and_self, Nat.reduceEqDiff, Nat.reduceLeDiff, if_true, if_false, reduceIte, reduceCtorEq, Option.isSome, false_implies]; try simp [Wk, wkK, wkT, wk1, AV.kept, keptAll, wkO, lk, wkObj])
    rintro k ⟨hk, hno⟩
    rcases Kg k l.length with ⟨hlt, hlb⟩ | ⟨hlt, hlb⟩
    · have hlk : k < ks.length := by omega
      have q1 := U8 (⟨[]⟩ : Sl VNode) (show k < (sls ks).length by omega)
      rw [Bt hlk] at q1
      have q3 := U8 ([] : List UInt8) hlt
      have hlb2 := R2 hlk
      obtain ⟨z, hz⟩ : ∃ z, ks[k] = z := ⟨_, rfl⟩
      rw [hz] at q1 hlb2
      have q2 := U8 v0 (show 0 < (nds z).length from Gw z)
      have hzr : (nds z).getD 0 v0 = z.root := by rw [Gu]; rfl
      have hzp := Gw z
      rw [hzr] at q2
      obtain ⟨a, ha⟩ : ∃ a, z.root = a := ⟨_, rfl⟩
      rw [ha] at q2 hlb2
      obtain ⟨b, hb⟩ : ∃ b, l.getD k [] = b := ⟨_, rfl⟩
      rw [hb] at q3
      cases hab : (a.label == b) with
      | false =>
        have hf : (labsV ks == l) = false := by
          rw [beq_eq_false_iff_ne]
          intro e
          rw [e, hb] at hlb2
          rw [hlb2, beq_self_eq_true] at hab
          cases hab
        (sym =>
         simp [hlb,q1,q2,q3,hab,hf,hx1,hks,hrv,k4,hsl,Uv,Uy,Ux,Uw,szV,Nf,Nz,Ny,N0,T7,con_Kids19.eq_def,Zb,Zc,Ze,Zf,Zg,Zh,Zi,Zj,Zk,Zl,Zm,Zo,Zp,Zq,Zs,Zv,Zx,Zy,Z6,Qb,Qd,Qn,Qo,Qp,Qq,Qr,Qs,Q1,Q2,Q4,Q5,Q6,Q8,Jk,Jy,Jz,J0,J5,J6,J7,J8,J9,Xa,Xb,Xc,Xf,Xu,X2,X3,X4,X5,X6,X7,Wa,Wb,Wc,Wd,We,Wf,Wg,Wh,Wi,Wo,Ws,Wt,Wu,Wv,W3,W4,W7,W8,W9,Ya,Yc,Yd,Yf,Yh,Yj,Yl,Yt,Yv,Yy,Yz,Y0,Y2,Y4,Y5,Y6,Y7,Y8,Y9,Vp,Vq,Vr,Vs,Vt,V3,V4,Uj,Uk,Ul,Um,Un,Uo,Up,U4,K9,Kc,Ke,Bs,Gl]
         tactic =>
          try simp only [U0] at *
          try simp only [nc2] at *
          try simp (maxSteps := 4000000) only [hlb,q1,q2,q3,hab,hf,hx1,hks,hrv,k4,hsl,Uv,Uy,Ux,Uw,szV,U3]
          repeat' (first | with_reducible assumption | with_reducible refine And.intro ?_ ?_ | intro _ | omega | (rw [Uz]; omega))
          all_goals first
            | (with_reducible refine Kf ?_; kernel_rfl)
            | omega
            | rfl
            | skip)
      | true =>
        have hst : ∀ j, j < k + 1 → (labsV ks).getD j [] = l.getD j [] := by
          intro j hj
          by_cases hjk : j = k
          · subst hjk; rw [hlb2, hb]; simpa using hab
          · exact hno j (by omega)
        (sym =>
         simp [hlb,q1,q2,q3,hab,hsl,Uv,Uy,Ux,Uw,szV,Nf,Nz,N0,T7,con_Kids19.eq_def,Zb,Zc,Ze,Zf,Zg,Zh,Zi,Zj,Zk,Zl,Zm,Zo,Zp,Zq,Zs,Zv,Zx,Zy,Z6,Qb,Qd,Qq,Qr,Qs,Q1,Q2,Q4,Q5,Q6,Jy,Jz,J0,J5,J6,J7,J8,J9,Xa,Xb,Xc,Xu,X2,X3,X4,X5,X6,X7,Wb,Wc,Wd,We,Wf,Wg,Wh,Wi,Wo,Ws,Wt,Wu,Wv,W3,W4,W7,W8,W9,Ya,Yc,Yd,Yf,Yh,Yj,Yl,Yt,Yv,Yy,Yz,Y0,Y2,Y4,Y5,Y6,Y7,Y8,Y9,Vo,Vq,Vr,Vs,Vt,V3,Uj,Uk,Ul,Um,Un,Uo,Up,U4,K9,Kc,Ke,Bs,Gl]
         tactic =>
          try simp only [U0] at *
          try simp only [nc2] at *
          try simp (maxSteps := 4000000) only [hlb,q1,q2,q3,hab,hsl,Uv,Uy,Ux,Uw,szV,U3]
          repeat' (first | with_reducible assumption | with_reducible refine And.intro ?_ ?_ | intro _ | omega | (rw [Uz]; omega))
          all_goals first
            | (with_reducible refine Kf ?_; kernel_rfl)
            | omega
            | exact ⟨k + 1, by ((try simp only [U1, killAll, setSlots, updAll, upd, U9, setCs, putC, Nat.reduceDiv, Nat.reduceMod, Nat.reduceMul, Nat.reduceAdd, Nat.reduceEqDiff, List.set_cons_zero, List.set_cons_succ, if_true, if_false, reduceIte]); (first | refine Wk.of_fl ?_ | skip); simp only [Wk, wkK, wkCs, wkT, wk1, AV.kept, keptAll, wkO, lk, wkObj, and_true, true_and, and_self, Nat.reduceEqDiff, Nat.reduceLeDiff, if_true, if_false, reduceIte, reduceCtorEq, Option.isSome, false_implies]; try simp [Wk, wkK, wkT, wk1, AV.kept, keptAll, wkO, lk, wkObj]), by omega, hst, by omega⟩
            | skip)
    · have hf : (labsV ks == l) = true := by
        rw [beq_iff_eq]
        refine List.ext_getElem (by rw [Mu]; exact hlen) fun j h1 h2 => ?_
        have := hno j (by omega)
        rw [Lp h1, Lp h2] at this
        exact this
      (sym =>
       simp [hlb,hf,hx1,hks,hrv,k4,hsl,Uv,Uy,Ux,Uw,szV,Nf,Ny,Zb,Zc,Ze,Zf,Zg,Zo,Z6,Qb,Qd,Qn,Qo,Qp,Qq,Qs,Q1,Q2,Q4,Q8,Jk,Jy,Jz,J0,J5,J6,J8,J9,Xa,Xb,Xc,Xf,X3,X5,X6,X9,Wa,Wb,We,Wg,Wh,Wi,Ws,Wt,Wu,Wv,W9,Ya,Yc,Yd,Yh,Yz,Y0,Y4,Y6,Y7,Y8,Y9,Vs,Vt,V4,Uk,Ul,Um,Un,Uo,U4,K9,Bs]))
end Go.Am.Ty
set_option linter.unusedSimpArgs false
set_option linter.unusedVariables false
set_option maxHeartbeats 4000000
namespace Go.Am.Ty
open Go.Proofs Go.Rose Go.Rose.Rose
open Enc (enc dec)
noncomputable def con_Fits19 (n : Nat) : Con := con2 (fun (v : Sl VNode) (t : Sl Node) => v.l.length ≤ 1000000 ∧ (∃ x, OneV v.l x) ∧ (∀ m ∈ v.l, Short2 m) ∧ Tree7 t.l ∧ plain3 t.l = true ∧ v.l.length < n) (fun v t => fits9 (treeAt arV v.l 0) (treeAt ar t.l 0))
theorem I8 : ∀ c, ¬ (con_Fits19 0).pre c := by
  intro c h
  unfold con_Fits19 at h
  obtain ⟨_, _, _, _, _, _, _, _, h⟩ := Ki h
  omega
theorem findIdx_hit {α : Type} {p : α → Bool} {l : List α} {k : Nat} (h : k < l.length) (h1 : p l[k] = true) (h2 : ∀ j (h : j < l.length), j < k → p l[j] = false) : l.findIdx? p = some k := by
  rw [List.findIdx?_eq_some_iff_getElem]
  refine ⟨h, h1, fun j hj => ?_⟩
  rw [h2 j (by omega) hj]
  decide
theorem findIdx_miss {α : Type} {p : α → Bool} {l : List α} (h : ∀ j (h : j < l.length), p l[j] = false) : l.findIdx? p = none := by
  rw [List.findIdx?_eq_none_iff]
  intro x hx
  obtain ⟨j, hj, rfl⟩ := List.getElem_of_mem hx
  exact h j hj
noncomputable def ctx_Fits19 (n : Nat) : Ctx := ⟨tab, lkC [(69, con_base19), (70, con_Kids19), (71, con_dynamic19), (17, con_Same3), (72, con_types19), (73, con_labels19), (38, (con_Fits19 n))], 60, lkB [], [], false⟩
theorem K6 (n : Nat) : (ctx_Fits19 n).τ = tab := rfl
theorem Gr (n : Nat) : (ctx_Fits19 n).Γ = lkC [(69, con_base19), (70, con_Kids19), (71, con_dynamic19), (17, con_Same3), (72, con_types19), (73, con_labels19), (38, (con_Fits19 n))] := rfl
theorem Gv (n : Nat) : (ctx_Fits19 n).dp = 60 := rfl
theorem Gs (n : Nat) : (ctx_Fits19 n).Δ = lkB [] := rfl
theorem H8 (n : Nat) : (ctx_Fits19 n).wr = false := rfl
set_option maxRecDepth 100000 in
theorem step_Fits19 (n : Nat) (ih : Good Try.prog (38, con_Fits19 n)) : Good Try.prog (38, (con_Fits19 (n + 1))) := by
  refine ⟨U2 Try.func38 (by kernel_rfl) rfl, ?_⟩
  have K : CtxOk Try.prog (ctx_Fits19 n) := U5 Kh Ka (by
    intro p hp
    simp only [List.mem_cons, List.not_mem_nil, or_false] at hp
    rcases hp with rfl | rfl | rfl | rfl | rfl | rfl | rfl
    · exact good_base19
    · exact Lo
    · exact good_dynamic19
    · exact D6
    · exact good_types19
    · exact good_labels19
    · exact ih) (by simp)
  obtain ⟨c, hc⟩ : ∃ c, Try.f38.body = some c := ⟨_, rfl⟩
  refine U6 K Try.func38 hc [.tmp 4] rfl 138 rfl (fun cvs hpre => ?_)
  change (con_Fits19 (n + 1)).pre cvs at hpre
  unfold con_Fits19 at hpre
  obtain ⟨⟨v⟩, ⟨t⟩, rfl, hv, ⟨x, hx⟩, hS, hT7, hTp, hn⟩ := Ki hpre
  simp only at hv hx hS hT7 hTp hn
  have hT7' : Tree7 t := hT7
  obtain ⟨tl, tN, y, hyt, hyw⟩ : Tree7 t := hT7
  have hya : At ar t 0 y := by rw [hyt]; exact H1 hyw
  have hy1 := Kx hya
  have hx1 := hx.tree
  have hxl := hx.at.lt
  have hyl := hya.lt
  have ev := U8 v0 hxl
  have et := U8 n0 hyl
  rw [hx.at.root v0] at ev
  rw [hya.root n0] at et
  have hk9 := Lk hx (by omega)
  have hro := hx.at.root v0
  have hrv : rootV v = x.root := hro
  have hSx : Short2 x.root := by
    have := hS _ (Mj (d := v0) hxl)
    rw [hro] at this
    exact this
  obtain ⟨hs1, hs2⟩ := hSx
  obtain ⟨R, hR⟩ : ∃ R, fits9 x y = R := ⟨_, rfl⟩
  have hR2 := hR
  rw [show x = mk x.root x.kids by cases x; rfl, fits9] at hR2
  rw [← hyt] at hR2
  have hsub := @T0 x hx.2
  have hmem := @kid_memV x
  have hlen := @Sb x
  have hk1 := kid1 hx.2
  rw [← hx.1] at hmem hlen
  have h7s := @sub7 y hyw (by rw [← hyt]; exact tN) (by rw [← hyt]; exact hTp) (by rw [← hyt]; exact tl)
  have k7 : kids7 t = (⟨parts y.kids⟩, ⟨labs y.kids⟩) := T2 hya
  have lle := Of hya
  rw [G3] at lle
  obtain ⟨ks, hks⟩ : ∃ ks, x.kids = ks := ⟨_, rfl⟩
  rw [hks] at hR2 hk9
  simp only [hks] at hsub hmem hlen hk1
  obtain ⟨qs, hqs⟩ : ∃ qs, y.kids = qs := ⟨_, rfl⟩
  rw [hqs] at hR2 k7 lle
  simp only [hqs] at h7s
  have hsl : (sls ks).length = ks.length := Nb
  have hpl : (parts qs).length = qs.length := Mq
  have hll : (labs qs).length = qs.length := G3
  have hkk : ks.length ≤ v.length := by rw [hx.1, Gu, List.length_cons, hks]; have := P5 ks; omega
  obtain ⟨m, hm⟩ : ∃ m, x.root = m := ⟨_, rfl⟩
  rw [hm] at ev hR2 hs1 hs2 hk1 hrv
  obtain ⟨p, hp⟩ : ∃ p, y.root = p := ⟨_, rfl⟩
  rw [hp] at et hR2
  have htl2 : t.length ≤ 9223372036854775807 := by omega
  obtain ⟨dl, hDl⟩ : ∃ dl, dl = dynL := ⟨_, rfl⟩
  have hdl : dl.length ≤ 9223372036854775807 := by rw [hDl]; decide
  rw [← hDl] at hR2
  have hDl2 : arrow3 [n0] [n0] = dl := by rw [hDl]; rfl
  have ht1 : List.take 1 (t.map (enc : Node → D)) = [p].map enc := by
    rw [hyt, Gu, hp]
    rfl
  have hxo : ∃ x, OneV v x := ⟨x, hx⟩
  clear hpre hDl
  simp only [Try.f38, Option.some.injEq] at hc
  subst hc
  refine Kq 8 (of_decide_eq_true (by kernel_rfl)) ?_
  cases t0 : (p.kind == 0) with
  | true =>
    rw [t0, cond_true] at hR2
    cases k7b : (m.kind == 7) with
    | true =>
      rw [k7b, cond_true] at hR2
      (sym =>
       simp [hx1,hy1,hk9,ev,et,hR,t0,k7b,hDl2,con1t.eq_def,hR2,Uv,Uy,Ux,Uw,szV,Ut,Ur,Uu,Uq,szN,Us,K6,Gr,Gv,Gs,H8,con_Fits19.eq_def,con_Kids19.eq_def,con_Same3.eq_def,con_base19.eq_def,con_dynamic19.eq_def,con_labels19.eq_def,con_types19.eq_def,Zb,Zc,Ze,Zf,Zg,Zh,Zi,Zj,Zk,Zl,Zm,Zo,Zp,Zq,Zs,Zu,Zv,Zw,Zx,Zy,Z8,Z9,Qb,Qd,Qe,Qf,Qg,Qh,Qk,Ql,Qm,Qn,Qo,Qp,Qq,Qr,Qs,Q1,Q2,Q4,Q5,Q6,Q8,Q9,Ja,Jf,Jh,Ji,Jj,Jk,Jl,Jw,J3,J4,J5,J6,J8,J9,Xb,Xc,Xf,Xn,Xo,Xp,Xr,Xs,Xt,Xu,Xv,X3,X4,X5,X6,X7,Wa,Wb,Wc,Wd,We,Wf,Wg,Wh,Wi,Wl,Wo,Wp,Wq,Wr,Ws,Wt,Wu,Wv,Ww,Wx,Wy,Wz,W3,W4,W5,W6,W7,W8,W9,Ya,Yd,Yh,Yl,Yp,Ys,Yv,Yw,Yx,Yz,Y0,Y6,Y7,Va,Vb,Vc,Vd,Ve,Vf,Vi,Vj,Vk,Vn,Vr,Vs,Vt,V3,V4,Uj,Uk,Ul,Um,Un,Uo,Up,U4,U7,Kb,Kc,Ke]
       tactic =>
        try simp only [U0] at *
        try simp only [nc2] at *
        try simp (maxSteps := 4000000) only [hx1,hy1,hk9,ev,et,hR,t0,k7b,hDl2,con1t.eq_def,hR2,Uv,Uy,Ux,Uw,szV,Ut,Ur,Uu,Uq,szN,Us,U3]
        repeat' (first | with_reducible assumption | with_reducible refine And.intro ?_ ?_ | intro _ | omega | (rw [Uz]; omega))
        all_goals first
          | (with_reducible refine Kf ?_; kernel_rfl)
          | omega
          | rfl
          | skip)
    | false =>
      rw [k7b, cond_false, B5] at hR2
      have hp7 : Tree7 [p] := by
        have hw : wf ar (mk p []) := ⟨by rw [B0 (by simpa using t0)]; rfl, trivial⟩
        refine ⟨by simp, ?_, mk p [], rfl, hw⟩
        intro q hq
        rw [List.mem_singleton] at hq
        rw [hq, ← hp]
        exact tN _ (by rw [hyt]; exact Mh y)
      have hpp : plain3 [p] = true := by
        rw [Ni] at *
        intro q hq
        rw [List.mem_singleton] at hq
        rw [hq, ← hp]
        exact hTp _ (by rw [hyt]; exact Mh y)
      have htp : treeAt ar [p] 0 = mk p [] := Kx (at_dyn (by simpa using t0))
      obtain ⟨P, hP⟩ : ∃ P : Nat → Bool, P = fun j => fits9 (ks.getD j dv) ((List.replicate ks.length (mk p [])).getD j dynT) := ⟨_, rfl⟩
      rw [← hP] at hR2
      (sym =>
       simp [hx1,hy1,hk9,ev,et,t0,k7b,con1t.eq_def,Uv,Uy,Ux,Uw,szV,Ut,Ur,Uu,Uq,szN,Us,K6,Gr,Gv,Gs,con_Fits19.eq_def,con_Kids19.eq_def,con_Same3.eq_def,con_base19.eq_def,con_dynamic19.eq_def,con_labels19.eq_def,con_types19.eq_def,Zb,Zc,Ze,Zf,Zo,Zp,Zq,Zs,Zu,Zv,Zw,Zx,Zy,Z8,Z9,Qb,Qd,Qe,Qf,Qg,Qh,Qk,Ql,Qm,Qq,Qs,Q1,Q2,Q4,Q8,Q9,Ja,Jf,Jh,Ji,Jj,Jl,Jw,J3,J4,J5,J6,J8,J9,Xb,Xc,Xf,Xn,Xo,Xp,Xr,Xs,Xt,Xu,Xv,X2,X3,X5,X6,X7,X8,Wb,We,Wg,Wh,Wi,Wl,Ws,Wt,Wu,Wv,Ww,Wx,Wy,Wz,W3,W4,W5,W6,W7,W9,Ya,Yd,Yh,Yl,Yp,Ys,Yv,Yw,Yx,Yz,Y0,Y6,Y7,Va,Vb,Vc,Vd,Ve,Vf,Vi,Vn,Vr,Vs,Vt,V3,V4,Uj,Uk,Ul,Um,Un,Uo,Up,U4,U7,Kb,Kc,Ke]
       tactic =>
        try simp only [U0] at *
        try simp only [nc2] at *
        try simp (maxSteps := 4000000) only [hx1,hy1,hk9,ev,et,t0,k7b,con1t.eq_def,Uv,Uy,Ux,Uw,szV,Ut,Ur,Uu,Uq,szN,Us,U3]
        repeat' (first | with_reducible assumption | with_reducible refine And.intro ?_ ?_ | intro _ | omega | (rw [Uz]; omega))
        refine Kd [4, 39, 40, 41, 42, 43, 44, 45, 46, 47, 48, 49, 50, 51, 52] (fun k : Nat => [(9, .d (.int .i64 k))]) (fun k : Nat => []) (fun k : Nat => k ≤ ks.length ∧ ∀ j, j < k → P j = true) (fun k : Nat => ks.length - k) 0 ?_ ?_ ?_
        · simp
        · ((try simp only [U1, killAll, setSlots, updAll, upd, U9, setCs, putC, Nat.reduceDiv, Nat.reduceMod, Nat.reduceMul, Nat.reduceAdd, Nat.reduceEqDiff, List.set_cons_zero, List.set_cons_succ, if_true, if_false, reduceIte]); (first | refine Wk.of_fl ?_ | skip); simp only [Wk, wkK, wkCs, wkT, wk1, AV.kept, keptAll, wkO, lk, wkObj, and_true, true_and, and_self, Nat.reduceEqDiff, Nat.reduceLeDiff, if_true, if_false, reduceIte, reduceCtorEq, Option.isSome, false_implies]; try simp [Wk, wkK, wkT, wk1, AV.kept, keptAll, wkO, lk, wkObj])
        rintro k ⟨hk, hno⟩
        rcases Kg k ks.length with ⟨hlt, hlb⟩ | ⟨hlt, hlb⟩
        · have q1 := U8 (⟨[]⟩ : Sl VNode) (show k < (sls ks).length by omega)
          rw [Bt hlt] at q1
          have hPk : P k = fits9 ks[k] (mk p []) := by rw [hP]; simp [hlt]
          have g1 := hsub hlt
          have g2 := hlen hlt
          have g3 := fun m hm => hS m (hmem hlt m hm)
          obtain ⟨z, hz⟩ : ∃ z, ks[k] = z := ⟨_, rfl⟩
          rw [hz] at q1 g1 g2 g3 hPk
          have tz := g1.tree
          cases hf : fits9 z (mk p []) with
          | false =>
            rw [hf] at hPk
            rw [Mi k hlt hPk] at hR2
            subst hR2
            (sym =>
             simp [hlb,hsl,q1,ht1,tz,htp,hf,hx1,hy1,hR,Uv,Uy,Ux,Uw,szV,Ut,Ur,Uu,Uq,szN,Us,K6,Gr,Gv,Gs,H8,con_Fits19.eq_def,con_Kids19.eq_def,con_Same3.eq_def,con_base19.eq_def,con_dynamic19.eq_def,con_labels19.eq_def,con_types19.eq_def,Zb,Zc,Ze,Zf,Zg,Zh,Zi,Zj,Zk,Zl,Zm,Zo,Zp,Zq,Zv,Zy,Z0,Z6,Z9,Qb,Qc,Qd,Qe,Qf,Qj,Qn,Qo,Qp,Qq,Qr,Qs,Q1,Q2,Q4,Q5,Q6,Q8,Jf,Jj,Jk,Jl,Jx,Jy,Jz,J0,J5,J6,J8,J9,Xb,Xc,Xf,Xt,Xu,Xv,X2,X3,X4,X5,X6,X7,Wa,Wb,Wc,Wd,We,Wf,Wg,Wh,Wi,Wo,Wp,Wq,Wr,Ws,Wt,Wu,Wv,Ww,Wy,Wz,W3,W4,W9,Ya,Yc,Yd,Ye,Yh,Yi,Yl,Yx,Yz,Y0,Y2,Y5,Y6,Y7,Vb,Vi,Vj,Vn,Vp,Vq,Vs,Vt,Vx,V3,V4,Uj,Uk,Ul,Um,Un,Uo,Up,U4,Ky,U7,Kb,Kc,Gl]
             tactic =>
              try simp only [U0] at *
              try simp only [nc2] at *
              try simp (maxSteps := 4000000) only [hlb,hsl,q1,ht1,tz,htp,hf,hx1,hy1,hR,Uv,Uy,Ux,Uw,szV,Ut,Ur,Uu,Uq,szN,Us,U3]
              repeat' (first | with_reducible assumption | with_reducible refine And.intro ?_ ?_ | intro _ | omega | (rw [Uz]; omega))
              all_goals first
                | (with_reducible refine Kf ?_; kernel_rfl)
                | omega
                | exact ⟨_, g1⟩
                | exact g3
                | exact hp7
                | exact hpp
                | skip)
          | true =>
            rw [hf] at hPk
            have hst : ∀ j, j < k + 1 → P j = true := by
              intro j hj
              by_cases hjk : j = k
              · subst hjk; exact hPk
              · exact hno j (by omega)
            (sym =>
             simp [hlb,hsl,q1,ht1,tz,htp,hf,Uv,Uy,Ux,Uw,szV,Ut,Ur,Uu,Uq,szN,Us,K6,Gr,Gs,H8,con_Fits19.eq_def,con_Kids19.eq_def,con_Same3.eq_def,con_base19.eq_def,con_dynamic19.eq_def,con_labels19.eq_def,con_types19.eq_def,Zb,Zc,Ze,Zf,Zg,Zh,Zi,Zj,Zk,Zl,Zm,Zo,Zp,Zq,Zv,Zy,Z0,Z6,Z9,Qb,Qc,Qd,Qe,Qf,Qj,Qq,Qr,Qs,Q1,Q2,Q4,Q5,Q6,Q8,Jf,Jj,Jl,Jx,Jy,Jz,J0,J5,J6,J8,J9,Xb,Xc,Xf,Xt,Xu,Xv,X2,X3,X4,X5,X6,X7,Wb,Wc,Wd,We,Wf,Wg,Wh,Wi,Wo,Wp,Wq,Wr,Ws,Wt,Wu,Wv,Ww,Wy,Wz,W3,W4,W9,Ya,Yc,Yd,Ye,Yh,Yi,Yl,Yx,Yz,Y0,Y2,Y5,Y6,Y7,Vb,Vi,Vj,Vn,Vo,Vq,Vs,Vt,Vx,V3,Uj,Uk,Ul,Um,Un,Uo,Up,U4,Ky,U7,Kb,Kc,Gl]
             tactic =>
              try simp only [U0] at *
              try simp only [nc2] at *
              try simp (maxSteps := 4000000) only [hlb,hsl,q1,ht1,tz,htp,hf,Uv,Uy,Ux,Uw,szV,Ut,Ur,Uu,Uq,szN,Us,U3]
              repeat' (first | with_reducible assumption | with_reducible refine And.intro ?_ ?_ | intro _ | omega | (rw [Uz]; omega))
              all_goals first
                | (with_reducible refine Kf ?_; kernel_rfl)
                | omega
                | exact ⟨_, g1⟩
                | exact g3
                | exact hp7
                | exact hpp
                | exact ⟨k + 1, by ((try simp only [U1, killAll, setSlots, updAll, upd, U9, setCs, putC, Nat.reduceDiv, Nat.reduceMod, Nat.reduceMul, Nat.reduceAdd, Nat.reduceEqDiff, List.set_cons_zero, List.set_cons_succ, if_true, if_false, reduceIte]); (first | refine Wk.of_fl ?_ | skip); simp only [Wk, wkK, wkCs, wkT, wk1, AV.kept, keptAll, wkO, lk, wkObj, and_true, true_and, and_self, Nat.reduceEqDiff, Nat.reduceLeDiff, if_true, if_false, reduceIte, reduceCtorEq, Option.isSome, false_implies]; try simp [Wk, wkK, wkT, wk1, AV.kept, keptAll, wkO, lk, wkObj]), by omega, hst, by omega⟩
                | skip)
        · rw [N5 fun j hj => hno j (by omega)] at hR2
          subst hR2
          (sym =>
           simp [hlb,hsl,hx1,hy1,hR,Uv,Uy,Ux,Uw,szV,Ut,Ur,Uu,Uq,szN,Us,K6,Gv,Zb,Zc,Ze,Zf,Zg,Zo,Z6,Qb,Qd,Qn,Qo,Qp,Qq,Qs,Q1,Q2,Q4,Q8,Jk,Jy,Jz,J0,J5,J6,J8,J9,Xb,Xc,Xf,X3,X5,X6,X9,Wa,Wb,We,Wg,Wh,Wi,Ws,Wt,Wu,Wv,W9,Ya,Yc,Yd,Yh,Yz,Y0,Y5,Y6,Y7,Vs,Vt,V4,Uk,Ul,Um,Un,Uo,U4,Kc,Gl]))
  | false =>
  rw [t0, cond_false] at hR2
  cases t5 : (p.kind == 5) with
  | true =>
    rw [t5, cond_true] at hR2
    (sym =>
     simp [hx1,hy1,hk9,ev,et,hR,t0,t5,con1t.eq_def,Uv,Uy,Ux,Uw,szV,Ut,Ur,Uu,Uq,szN,Us,K6,Gr,Gv,Gs,con_Fits19.eq_def,con_Kids19.eq_def,con_Same3.eq_def,con_base19.eq_def,con_dynamic19.eq_def,con_labels19.eq_def,con_types19.eq_def,Zb,Zc,Zd,Ze,Zf,Zg,Zo,Zp,Zq,Zs,Zt,Zu,Zv,Zw,Zx,Zy,Z8,Z9,Qb,Qd,Qe,Qf,Qg,Qh,Qk,Ql,Qm,Qn,Qo,Qp,Qq,Qs,Q1,Q2,Q4,Q8,Q9,Ja,Jf,Jh,Ji,Jj,Jk,Jl,Jw,J3,J4,J5,J6,J8,J9,Xb,Xc,Xf,Xn,Xo,Xp,Xr,Xs,Xt,Xu,Xv,X3,X5,X6,X7,Wa,Wb,We,Wg,Wh,Wi,Wl,Ws,Wt,Wu,Wv,Ww,Wx,Wy,Wz,W3,W4,W5,W6,W7,W8,W9,Ya,Yd,Yh,Yl,Yp,Ys,Yv,Yw,Yx,Yz,Y0,Y6,Y7,Va,Vb,Vc,Vd,Ve,Vf,Vi,Vj,Vk,Vn,Vr,Vs,Vt,V3,V4,Uj,Uk,Ul,Um,Un,Uo,Up,U4,U7,Kb,Kc,Ke]
     tactic =>
      try simp only [U0] at *
      try simp only [nc2] at *
      try simp (maxSteps := 4000000) only [hx1,hy1,hk9,ev,et,hR,t0,t5,con1t.eq_def,Uv,Uy,Ux,Uw,szV,Ut,Ur,Uu,Uq,szN,Us,U3]
      repeat' (first | with_reducible assumption | with_reducible refine And.intro ?_ ?_ | intro _ | omega | (rw [Uz]; omega))
      all_goals first
        | (with_reducible refine Kf ?_; kernel_rfl)
        | omega
        | (rw [← hR2]; clear hR2 hR; simp_all; done)
        | skip)
  | false =>
  rw [t5, cond_false] at hR2
  cases t6 : (p.kind == 6) with
  | true =>
    rw [t6, cond_true] at hR2
    cases hlabs : (m.kind == 4 && labsV ks == labs qs) with
    | false =>
      rw [hlabs, Bool.false_and] at hR2
      subst hR2
      (sym =>
       simp [hx1,hy1,hk9,ev,et,hR,t0,t5,t6,k7,hks,hrv,hlabs,con1t.eq_def,Uv,Uy,Ux,Uw,szV,Ut,Ur,Uu,Uq,szN,Us,K6,Gr,Gv,Gs,con_Fits19.eq_def,con_Kids19.eq_def,con_Same3.eq_def,con_base19.eq_def,con_dynamic19.eq_def,con_labels19.eq_def,con_types19.eq_def,Zb,Zc,Ze,Zf,Zg,Zo,Zp,Zq,Zs,Zu,Zv,Zw,Zx,Zy,Z8,Z9,Qb,Qc,Qd,Qe,Qf,Qg,Qh,Qk,Ql,Qn,Qo,Qp,Qq,Qs,Q1,Q2,Q4,Q8,Q9,Ja,Jf,Jh,Ji,Jj,Jk,Jl,Jw,J3,J4,J5,J6,J8,J9,Xb,Xc,Xf,Xn,Xo,Xp,Xr,Xs,Xt,Xu,Xv,X3,X5,X6,X7,Wa,Wb,We,Wg,Wh,Wi,Wl,Ws,Wt,Wu,Wv,Ww,Wx,Wy,Wz,W3,W4,W5,W6,W7,W9,Ya,Yd,Ye,Yh,Yi,Yl,Yp,Ys,Yv,Yw,Yx,Yz,Y0,Y6,Y7,Va,Vb,Vc,Vd,Ve,Vf,Vi,Vn,Vp,Vr,Vs,Vt,V3,V4,Uj,Uk,Ul,Um,Un,Uo,Up,U4,Ky,U7,Kb,Kc,Ke]
       tactic =>
        try simp only [U0] at *
        try simp only [nc2] at *
        try simp (maxSteps := 4000000) only [hx1,hy1,hk9,ev,et,hR,t0,t5,t6,k7,hks,hrv,hlabs,con1t.eq_def,Uv,Uy,Ux,Uw,szV,Ut,Ur,Uu,Uq,szN,Us,U3]
        repeat' (first | with_reducible assumption | with_reducible refine And.intro ?_ ?_ | intro _ | omega | (rw [Uz]; omega))
        all_goals first
          | exact hT7'
          | exact hxo
          | omega
          | skip)
    | true =>
      rw [hlabs, Bool.true_and, B5] at hR2
      have hleq : ks.length = qs.length := by
        rw [Bool.and_eq_true, beq_iff_eq, beq_iff_eq] at hlabs
        rw [← Mu (ks := ks), hlabs.2, G3]
      obtain ⟨P, hP⟩ : ∃ P : Nat → Bool, P = fun j => fits9 (ks.getD j dv) ((qs.map clrX).getD j dynT) := ⟨_, rfl⟩
      rw [← hP] at hR2
      (sym =>
       simp [hx1,hy1,hk9,ev,et,t0,t5,t6,k7,hks,hrv,hlabs,con1t.eq_def,Uv,Uy,Ux,Uw,szV,Ut,Ur,Uu,Uq,szN,Us,K6,Gr,Gv,Gs,con_Fits19.eq_def,con_Kids19.eq_def,con_Same3.eq_def,con_base19.eq_def,con_dynamic19.eq_def,con_labels19.eq_def,con_types19.eq_def,Zb,Zc,Ze,Zf,Zo,Zp,Zq,Zs,Zu,Zv,Zw,Zx,Zy,Z8,Z9,Qb,Qc,Qd,Qe,Qf,Qg,Qh,Qk,Ql,Qq,Qs,Q1,Q2,Q4,Q8,Q9,Ja,Jf,Jh,Ji,Jj,Jl,Jw,J3,J4,J5,J6,J8,J9,Xb,Xc,Xf,Xn,Xo,Xp,Xr,Xs,Xt,Xu,Xv,X2,X3,X5,X6,X7,X8,Wb,We,Wg,Wh,Wi,Wl,Ws,Wt,Wu,Wv,Ww,Wx,Wy,Wz,W3,W4,W5,W6,W7,W9,Ya,Yd,Ye,Yh,Yi,Yl,Yp,Ys,Yv,Yw,Yx,Yz,Y0,Y6,Y7,Va,Vb,Vc,Vd,Ve,Vf,Vi,Vn,Vo,Vr,Vs,Vt,V3,V4,Uj,Uk,Ul,Um,Un,Uo,Up,U4,Ky,U7,Kb,Kc,Ke]
       tactic =>
        try simp only [U0] at *
        try simp only [nc2] at *
        try simp (maxSteps := 4000000) only [hx1,hy1,hk9,ev,et,t0,t5,t6,k7,hks,hrv,hlabs,con1t.eq_def,Uv,Uy,Ux,Uw,szV,Ut,Ur,Uu,Uq,szN,Us,U3]
        repeat' (first | with_reducible assumption | with_reducible refine And.intro ?_ ?_ | intro _ | omega | (rw [Uz]; omega))
        refine Kd [4, 80, 81, 82, 83, 84, 85, 86, 87, 88, 89, 90, 91, 92, 93, 94, 95] (fun k : Nat => [(12, .d (.int .i64 k))]) (fun k : Nat => []) (fun k : Nat => k ≤ ks.length ∧ ∀ j, j < k → P j = true) (fun k : Nat => ks.length - k) 0 ?_ ?_ ?_
        · simp
        · ((try simp only [U1, killAll, setSlots, updAll, upd, U9, setCs, putC, Nat.reduceDiv, Nat.reduceMod, Nat.reduceMul, Nat.reduceAdd, Nat.reduceEqDiff, List.set_cons_zero, List.set_cons_succ, if_true, if_false, reduceIte]); (first | refine Wk.of_fl ?_ | skip); simp only [Wk, wkK, wkCs, wkT, wk1, AV.kept, keptAll, wkO, lk, wkObj, and_true, true_and, and_self, Nat.reduceEqDiff, Nat.reduceLeDiff, if_true, if_false, reduceIte, reduceCtorEq, Option.isSome, false_implies]; try simp [Wk, wkK, wkT, wk1, AV.kept, keptAll, wkO, lk, wkObj])
        rintro k ⟨hk, hno⟩
        rcases Kg k qs.length with ⟨hlt, hlb⟩ | ⟨hlt, hlb⟩
        · have hlk : k < ks.length := by omega
          have q1 := U8 (⟨[]⟩ : Sl VNode) (show k < (sls ks).length by omega)
          rw [Bt hlk] at q1
          have q2 := U8 (⟨[]⟩ : Sl Node) (show k < (parts qs).length by omega)
          rw [Ey hlt] at q2
          have hPk : P k = fits9 ks[k] (clrX (qs.getD k (mk n0 []))) := by rw [hP]; simp [hlk, hlt]
          obtain ⟨u1, u2, u3, u4⟩ := h7s hlt
          have g1 := hsub hlk
          have g2 := hlen hlk
          have g3 := fun m hm => hS m (hmem hlk m hm)
          obtain ⟨z, hz⟩ : ∃ z, ks[k] = z := ⟨_, rfl⟩
          rw [hz] at q1 g1 g2 g3 hPk
          have tz := g1.tree
          cases hf : fits9 z (clrX (qs.getD k (mk n0 []))) with
          | false =>
            rw [hf] at hPk
            rw [Mi k hlk hPk] at hR2
            subst hR2
            (sym =>
             simp [hlb,hsl,hpl,q1,q2,tz,u4,hf,hx1,hy1,hR,Uv,Uy,Ux,Uw,szV,Ut,Ur,Uu,Uq,szN,Us,K6,Gr,Gv,Gs,H8,con_Fits19.eq_def,con_Kids19.eq_def,con_Same3.eq_def,con_base19.eq_def,con_dynamic19.eq_def,con_labels19.eq_def,con_types19.eq_def,Zb,Zc,Ze,Zf,Zg,Zh,Zi,Zj,Zk,Zl,Zm,Zo,Zp,Zq,Zv,Zy,Z6,Z9,Qb,Qc,Qd,Qe,Qf,Qn,Qo,Qp,Qq,Qr,Qs,Q1,Q2,Q4,Q5,Q6,Q8,Jf,Jj,Jk,Jl,Jy,Jz,J0,J5,J6,J8,J9,Xb,Xc,Xf,Xt,Xu,Xv,X2,X3,X4,X5,X6,X7,Wa,Wb,Wc,Wd,We,Wf,Wg,Wh,Wi,Wo,Wp,Wq,Wr,Ws,Wt,Wu,Wv,Ww,Wy,Wz,W3,W4,W9,Ya,Yc,Yd,Ye,Yh,Yi,Yl,Yx,Yz,Y0,Y2,Y5,Y6,Y7,Vb,Vi,Vn,Vp,Vq,Vs,Vt,V4,Uj,Uk,Ul,Um,Un,Uo,Up,U4,Ky,U7,Kc,Gt,Gl]
             tactic =>
              try simp only [U0] at *
              try simp only [nc2] at *
              try simp (maxSteps := 4000000) only [hlb,hsl,hpl,q1,q2,tz,u4,hf,hx1,hy1,hR,Uv,Uy,Ux,Uw,szV,Ut,Ur,Uu,Uq,szN,Us,U3]
              repeat' (first | with_reducible assumption | with_reducible refine And.intro ?_ ?_ | intro _ | omega | (rw [Uz]; omega))
              all_goals first
                | (with_reducible refine Kf ?_; kernel_rfl)
                | omega
                | exact ⟨_, g1⟩
                | exact g3
                | exact u1
                | exact u2
                | skip)
          | true =>
            rw [hf] at hPk
            have hst : ∀ j, j < k + 1 → P j = true := by
              intro j hj
              by_cases hjk : j = k
              · subst hjk; exact hPk
              · exact hno j (by omega)
            (sym =>
             simp [hlb,hsl,hpl,q1,q2,tz,u4,hf,Uv,Uy,Ux,Uw,szV,Ut,Ur,Uu,Uq,szN,Us,K6,Gr,Gs,H8,con_Fits19.eq_def,con_Kids19.eq_def,con_Same3.eq_def,con_base19.eq_def,con_dynamic19.eq_def,con_labels19.eq_def,con_types19.eq_def,Zb,Zc,Ze,Zf,Zg,Zh,Zi,Zj,Zk,Zl,Zm,Zo,Zp,Zq,Zv,Zy,Z6,Z9,Qb,Qc,Qd,Qe,Qf,Qq,Qr,Qs,Q1,Q2,Q4,Q5,Q6,Q8,Jf,Jj,Jl,Jy,Jz,J0,J5,J6,J8,J9,Xb,Xc,Xf,Xt,Xu,Xv,X2,X3,X4,X5,X6,X7,Wb,Wc,Wd,We,Wf,Wg,Wh,Wi,Wo,Wp,Wq,Wr,Ws,Wt,Wu,Wv,Ww,Wy,Wz,W3,W4,W9,Ya,Yc,Yd,Ye,Yh,Yi,Yl,Yx,Yz,Y0,Y2,Y5,Y6,Y7,Vb,Vi,Vn,Vo,Vq,Vs,Vt,V3,Uj,Uk,Ul,Um,Un,Uo,Up,U4,Ky,U7,Kc,Gt,Gl]
             tactic =>
              try simp only [U0] at *
              try simp only [nc2] at *
              try simp (maxSteps := 4000000) only [hlb,hsl,hpl,q1,q2,tz,u4,hf,Uv,Uy,Ux,Uw,szV,Ut,Ur,Uu,Uq,szN,Us,U3]
              repeat' (first | with_reducible assumption | with_reducible refine And.intro ?_ ?_ | intro _ | omega | (rw [Uz]; omega))
              all_goals first
                | (with_reducible refine Kf ?_; kernel_rfl)
                | omega
                | exact ⟨_, g1⟩
                | exact g3
                | exact u1
                | exact u2
                | exact ⟨k + 1, by ((try simp only [U1, killAll, setSlots, updAll, upd, U9, setCs, putC, Nat.reduceDiv, Nat.reduceMod, Nat.reduceMul, Nat.reduceAdd, Nat.reduceEqDiff, List.set_cons_zero, List.set_cons_succ, if_true, if_false, reduceIte]); (first | refine Wk.of_fl ?_ | skip); simp only [Wk, wkK, wkCs, wkT, wk1, AV.kept, keptAll, wkO, lk, wkObj, and_true, true_and, and_self, Nat.reduceEqDiff, Nat.reduceLeDiff, if_true, if_false, reduceIte, reduceCtorEq, Option.isSome, false_implies]; try simp [Wk, wkK, wkT, wk1, AV.kept, keptAll, wkO, lk, wkObj]), by omega, hst, by omega⟩
                | skip)
        · rw [N5 fun j hj => hno j (by omega)] at hR2
          subst hR2
          (sym =>
           simp [hlb,hsl,hpl,hx1,hy1,hR,Uv,Uy,Ux,Uw,szV,Ut,Ur,Uu,Uq,szN,Us,K6,Gv,Zb,Zc,Ze,Zf,Zg,Zo,Z6,Qb,Qd,Qn,Qo,Qp,Qq,Qs,Q1,Q2,Q4,Q8,Jk,Jy,Jz,J0,J5,J6,J8,J9,Xb,Xc,Xf,X3,X5,X6,X9,Wa,Wb,We,Wg,Wh,Wi,Ws,Wt,Wu,Wv,W9,Ya,Yc,Yd,Yh,Yz,Y0,Y5,Y6,Y7,Vs,Vt,V4,Uk,Ul,Um,Un,Uo,U4,U7,Gt]))
  | false =>
  rw [t6, cond_false] at hR2
  cases t7 : (p.kind == 7) with
  | true =>
    rw [t7, cond_true] at hR2
    (sym =>
     simp [hx1,hy1,hk9,ev,et,t0,t5,t6,t7,k7,con1t.eq_def,Uv,Uy,Ux,Uw,szV,Ut,Ur,Uu,Uq,szN,Us,K6,Gr,Gv,Gs,con_Fits19.eq_def,con_Kids19.eq_def,con_Same3.eq_def,con_base19.eq_def,con_dynamic19.eq_def,con_labels19.eq_def,con_types19.eq_def,Zb,Zc,Ze,Zf,Zo,Zp,Zq,Zs,Zu,Zv,Zw,Zx,Zy,Z8,Z9,Qb,Qd,Qe,Qf,Qg,Qh,Qk,Ql,Qq,Qs,Q1,Q2,Q4,Q8,Q9,Ja,Jf,Jh,Ji,Jj,Jl,Jw,J3,J4,J5,J6,J8,J9,Xb,Xc,Xf,Xn,Xo,Xp,Xr,Xs,Xt,Xu,Xv,X3,X5,X6,X7,X8,Wb,We,Wg,Wh,Wi,Wl,Ws,Wt,Wu,Wv,Ww,Wx,Wy,Wz,W3,W4,W5,W6,W7,W9,Ya,Yd,Yh,Yl,Yp,Ys,Yv,Yw,Yx,Yz,Y0,Y6,Y7,Va,Vb,Vc,Vd,Ve,Vf,Vi,Vn,Vr,Vs,Vt,V3,V4,Uj,Uk,Ul,Um,Un,Uo,Up,U4,U7,Kb,Kc,Ke]
     tactic =>
      try simp only [U0] at *
      try simp only [nc2] at *
      try simp (maxSteps := 4000000) only [hx1,hy1,hk9,ev,et,t0,t5,t6,t7,k7,con1t.eq_def,Uv,Uy,Ux,Uw,szV,Ut,Ur,Uu,Uq,szN,Us,U3]
      repeat' (first | with_reducible assumption | with_reducible refine And.intro ?_ ?_ | intro _ | omega | (rw [Uz]; omega))
      refine Kd [4, 103, 104, 105, 106, 107, 108, 109, 110, 111, 112, 113, 114, 115, 116, 117, 118, 119, 120, 121, 122, 123, 124, 125, 126, 127, 128] (fun k : Nat => [(15, .d (.int .i64 k))]) (fun k : Nat => []) (fun k : Nat => k ≤ qs.length ∧ ∀ j (h : j < qs.length), j < k → tagP m qs[j] = false) (fun k : Nat => qs.length - k) 0 ?_ ?_ ?_
      · simp
      · ((try simp only [U1, killAll, setSlots, updAll, upd, U9, setCs, putC, Nat.reduceDiv, Nat.reduceMod, Nat.reduceMul, Nat.reduceAdd, Nat.reduceEqDiff, List.set_cons_zero, List.set_cons_succ, if_true, if_false, reduceIte]); (first | refine Wk.of_fl ?_ | skip); simp only [Wk, wkK, wkCs, wkT, wk1, AV.kept, keptAll, wkO, lk, wkObj, and_true, true_and, and_self, Nat.reduceEqDiff, Nat.reduceLeDiff, if_true, if_false, reduceIte, reduceCtorEq, Option.isSome, false_implies]; try simp [Wk, wkK, wkT, wk1, AV.kept, keptAll, wkO, lk, wkObj])
      rintro k ⟨hk, hno⟩
      rcases Kg k qs.length with ⟨hlt, hlb⟩ | ⟨hlt, hlb⟩
      · have q2 := U8 (⟨[]⟩ : Sl Node) (show k < (parts qs).length by omega)
        rw [Ey hlt] at q2
        have q3 := U8 ([] : List UInt8) (show k < (labs qs).length by omega)
        rw [kid_name hlt] at q3
        have hst : tagP m qs[k] = false → ∀ j (h : j < qs.length), j < k + 1 → tagP m qs[j] = false := by
          intro h j hj1 hj
          by_cases hjk : j = k
          · subst hjk; exact h
          · exact hno j hj1 (by omega)
        have hhit : tagP m qs[k] = true → fits9s ks [clrX (qs.getD k (mk n0 []))] = R := by
          intro h
          rw [findIdx_hit hlt h hno] at hR2
          exact hR2
        obtain ⟨u1, u2, u3, u4⟩ := h7s hlt
        obtain ⟨b, hb⟩ : ∃ b, qs[k] = b := ⟨_, rfl⟩
        rw [hb] at q3 hst hhit
        cases k5 : (m.kind == 5) with
        | false =>
          have hs2 := hst (by unfold tagP; rw [k5]; rfl)
          (sym =>
           simp [hlb,hsl,hpl,hll,q2,q3,k5,Uv,Uy,Ux,Uw,szV,Ut,Ur,Uu,Uq,szN,Us,K6,Gr,Gs,H8,con_Fits19.eq_def,con_Kids19.eq_def,con_Same3.eq_def,con_base19.eq_def,con_dynamic19.eq_def,con_labels19.eq_def,con_types19.eq_def,Zb,Zc,Zd,Ze,Zf,Zg,Zh,Zi,Zj,Zk,Zl,Zm,Zo,Zp,Zq,Zs,Zt,Zv,Zx,Z6,Qb,Qd,Qm,Qq,Qr,Qs,Q1,Q2,Q4,Q5,Q6,Jh,Jy,Jz,J0,J5,J6,J8,J9,Xa,Xb,Xc,Xt,Xu,Xv,X2,X3,X4,X5,X6,X7,Wb,Wc,Wd,We,Wf,Wg,Wh,Wi,Wo,Ws,Wt,Wu,Wv,W3,W4,W5,W6,W7,W8,W9,Ya,Yc,Yd,Yh,Yz,Y0,Y5,Y6,Y7,Y8,Vs,Vt,V3,V4,Uj,Uk,Ul,Um,Un,Uo,Up,U4,U7,Ke,Gt]
           tactic =>
            try simp only [U0] at *
            try simp only [nc2] at *
            try simp (maxSteps := 4000000) only [hlb,hsl,hpl,hll,q2,q3,k5,Uv,Uy,Ux,Uw,szV,Ut,Ur,Uu,Uq,szN,Us,U3]
            repeat' (first | with_reducible assumption | with_reducible refine And.intro ?_ ?_ | intro _ | omega | (rw [Uz]; omega))
            all_goals first
              | (with_reducible refine Kf ?_; kernel_rfl)
              | omega
              | exact ⟨k + 1, by ((try simp only [U1, killAll, setSlots, updAll, upd, U9, setCs, putC, Nat.reduceDiv, Nat.reduceMod, Nat.reduceMul, Nat.reduceAdd, Nat.reduceEqDiff, List.set_cons_zero, List.set_cons_succ, if_true, if_false, reduceIte]); (first | refine Wk.of_fl ?_ | skip); simp only [Wk, wkK, wkCs, wkT, wk1, AV.kept, keptAll, wkO, lk, wkObj, and_true, true_and, and_self, Nat.reduceEqDiff, Nat.reduceLeDiff, if_true, if_false, reduceIte, reduceCtorEq, Option.isSome, false_implies]; try simp [Wk, wkK, wkT, wk1, AV.kept, keptAll, wkO, lk, wkObj]), by omega, hs2, by omega⟩
              | skip)
        | true =>
          cases knm : (m.name == b.root.name) with
          | false =>
            have hs2 := hst (by unfold tagP; rw [k5, knm]; rfl)
            (sym =>
             simp [hlb,hsl,hpl,hll,q2,q3,k5,knm,Uv,Uy,Ux,Uw,szV,Ut,Ur,Uu,Uq,szN,Us,K6,Gr,Gs,H8,con_Fits19.eq_def,con_Kids19.eq_def,con_Same3.eq_def,con_base19.eq_def,con_dynamic19.eq_def,con_labels19.eq_def,con_types19.eq_def,Zb,Zc,Zd,Ze,Zf,Zg,Zh,Zi,Zj,Zk,Zl,Zm,Zo,Zp,Zq,Zs,Zt,Zv,Zx,Zy,Z6,Qb,Qd,Qm,Qq,Qr,Qs,Q1,Q2,Q4,Q5,Q6,Jh,Jy,Jz,J0,J5,J6,J8,J9,Xa,Xb,Xc,Xt,Xu,Xv,X2,X3,X4,X5,X6,X7,Wb,Wc,Wd,We,Wf,Wg,Wh,Wi,Wo,Ws,Wt,Wu,Wv,W3,W4,W5,W6,W7,W8,W9,Ya,Yc,Yd,Yf,Yh,Yj,Yl,Yt,Yy,Yz,Y0,Y4,Y5,Y6,Y7,Y8,Vq,Vs,Vt,V3,V4,Uj,Uk,Ul,Um,Un,Uo,Up,U4,K9,U7,Ke,Gt,Bs]
             tactic =>
              try simp only [U0] at *
              try simp only [nc2] at *
              try simp (maxSteps := 4000000) only [hlb,hsl,hpl,hll,q2,q3,k5,knm,Uv,Uy,Ux,Uw,szV,Ut,Ur,Uu,Uq,szN,Us,U3]
              repeat' (first | with_reducible assumption | with_reducible refine And.intro ?_ ?_ | intro _ | omega | (rw [Uz]; omega))
              all_goals first
                | (with_reducible refine Kf ?_; kernel_rfl)
                | omega
                | exact ⟨k + 1, by ((try simp only [U1, killAll, setSlots, updAll, upd, U9, setCs, putC, Nat.reduceDiv, Nat.reduceMod, Nat.reduceMul, Nat.reduceAdd, Nat.reduceEqDiff, List.set_cons_zero, List.set_cons_succ, if_true, if_false, reduceIte]); (first | refine Wk.of_fl ?_ | skip); simp only [Wk, wkK, wkCs, wkT, wk1, AV.kept, keptAll, wkO, lk, wkObj, and_true, true_and, and_self, Nat.reduceEqDiff, Nat.reduceLeDiff, if_true, if_false, reduceIte, reduceCtorEq, Option.isSome, false_implies]; try simp [Wk, wkK, wkT, wk1, AV.kept, keptAll, wkO, lk, wkObj]), by omega, hs2, by omega⟩
                | skip)
          | true =>
            have hh := hhit (by unfold tagP; rw [k5, knm]; rfl)
            have hk1b := hk1 (by simpa using k5)
            have h0 : 0 < ks.length := by omega
            have q1 := U8 (⟨[]⟩ : Sl VNode) (show 0 < (sls ks).length by omega)
            rw [Bt h0] at q1
            have g1 := hsub h0
            have g2 := hlen h0
            have g3 := fun m hm => hS m (hmem h0 m hm)
            have hh2 : fits9 ks[0] (clrX (qs.getD k (mk n0 []))) = R := by
              rw [← hh, B5, hk1b]
              simp [h0]
            obtain ⟨z, hz⟩ : ∃ z, ks[0] = z := ⟨_, rfl⟩
            rw [hz] at q1 g1 g2 g3 hh2
            have tz := g1.tree
            (sym =>
             simp [hlb,hsl,hpl,hll,q1,q2,q3,k5,knm,tz,u4,hh2,hx1,hy1,hR,Uv,Uy,Ux,Uw,szV,Ut,Ur,Uu,Uq,szN,Us,K6,Gr,Gv,Gs,H8,con_Fits19.eq_def,con_Kids19.eq_def,con_Same3.eq_def,con_base19.eq_def,con_dynamic19.eq_def,con_labels19.eq_def,con_types19.eq_def,Zb,Zc,Zd,Ze,Zf,Zg,Zh,Zi,Zj,Zk,Zl,Zm,Zo,Zp,Zq,Zs,Zt,Zv,Zx,Zy,Z6,Z9,Qb,Qd,Qe,Qf,Qm,Qn,Qo,Qp,Qq,Qr,Qs,Q1,Q2,Q4,Q5,Q6,Q8,Jf,Jh,Jj,Jk,Jl,Jy,Jz,J0,J5,J6,J7,J8,J9,Xa,Xb,Xc,Xf,Xt,Xu,Xv,X2,X3,X4,X5,X6,X7,Wa,Wb,Wc,Wd,We,Wf,Wg,Wh,Wi,Wo,Wp,Wq,Wr,Ws,Wt,Wu,Wv,Ww,Wy,Wz,W3,W4,W5,W6,W7,W8,W9,Ya,Yc,Yd,Yf,Yh,Yj,Yl,Yt,Yx,Yy,Yz,Y0,Y2,Y4,Y5,Y6,Y7,Y8,Vb,Vi,Vn,Vq,Vr,Vs,Vt,V3,V4,Uj,Uk,Ul,Um,Un,Uo,Up,U4,K9,U7,Kc,Ke,Gt,Bs,Gl]
             tactic =>
              try simp only [U0] at *
              try simp only [nc2] at *
              try simp (maxSteps := 4000000) only [hlb,hsl,hpl,hll,q1,q2,q3,k5,knm,tz,u4,hh2,hx1,hy1,hR,Uv,Uy,Ux,Uw,szV,Ut,Ur,Uu,Uq,szN,Us,U3]
              repeat' (first | with_reducible assumption | with_reducible refine And.intro ?_ ?_ | intro _ | omega | (rw [Uz]; omega))
              all_goals first
                | (with_reducible refine Kf ?_; kernel_rfl)
                | omega
                | exact ⟨_, g1⟩
                | exact g3
                | exact u1
                | exact u2
                | skip)
      · rw [findIdx_miss fun j hj => hno j hj (by omega)] at hR2
        subst hR2
        (sym =>
         simp [hlb,hsl,hpl,hll,hx1,hy1,hR,Uv,Uy,Ux,Uw,szV,Ut,Ur,Uu,Uq,szN,Us,K6,Gv,Zb,Zc,Ze,Zf,Zg,Zo,Z6,Qb,Qd,Qn,Qo,Qp,Qq,Qs,Q1,Q2,Q4,Q8,Jk,Jy,Jz,J0,J5,J6,J8,J9,Xa,Xb,Xc,Xf,X3,X5,X6,X9,Wa,Wb,We,Wg,Wh,Wi,Ws,Wt,Wu,Wv,W9,Ya,Yc,Yd,Yh,Yz,Y0,Y5,Y6,Y7,Y8,Vs,Vt,V4,Uk,Ul,Um,Un,Uo,U4,U7,Gt]))
  | false =>
  rw [t7, cond_false] at hR2
  (sym =>
   simp [hx1,hy1,hk9,ev,et,hR,t0,t5,t6,t7,con1t.eq_def,Uv,Uy,Ux,Uw,szV,Ut,Ur,Uu,Uq,szN,Us,K6,Gr,Gv,Gs,con_Fits19.eq_def,con_Kids19.eq_def,con_Same3.eq_def,con_base19.eq_def,con_dynamic19.eq_def,con_labels19.eq_def,con_types19.eq_def,Zb,Zc,Zd,Ze,Zf,Zg,Zo,Zp,Zq,Zs,Zt,Zu,Zv,Zw,Zx,Zy,Z8,Z9,Qb,Qd,Qe,Qf,Qg,Qh,Qk,Ql,Qn,Qo,Qp,Qq,Qs,Q1,Q2,Q4,Q8,Q9,Ja,Jf,Jh,Ji,Jj,Jk,Jl,Jw,J3,J4,J5,J6,J7,J8,J9,Xa,Xb,Xc,Xf,Xn,Xo,Xp,Xr,Xs,Xt,Xu,Xv,X2,X3,X5,X6,X7,Wa,Wb,We,Wg,Wh,Wi,Wl,Ws,Wt,Wu,Wv,Ww,Wx,Wy,Wz,W3,W4,W5,W6,W7,W8,W9,Ya,Yd,Yh,Yl,Yp,Ys,Yv,Yw,Yx,Yz,Y0,Y6,Y7,Y8,Y9,Va,Vb,Vc,Vd,Ve,Vf,Vi,Vn,Vr,Vs,Vt,V3,V4,Uj,Uk,Ul,Um,Un,Uo,Up,U4,U7,Kb,Kc,Ke]
   tactic =>
    try simp only [U0] at *
    try simp only [nc2] at *
    try simp (maxSteps := 4000000) only [hx1,hy1,hk9,ev,et,hR,t0,t5,t6,t7,con1t.eq_def,Uv,Uy,Ux,Uw,szV,Ut,Ur,Uu,Uq,szN,Us,U3]
    repeat' (first | with_reducible assumption | with_reducible refine And.intro ?_ ?_ | intro _ | omega | (rw [Uz]; omega))
    all_goals first
      | omega
      | (rw [← hR2]; clear hR2 hR; simp_all; done)
      | skip)
theorem Fe : ∀ n, Good Try.prog (38, con_Fits19 n)
  | 0 => Mv (U2 Try.func38 (by kernel_rfl) rfl) I8
  | n + 1 => step_Fits19 n (Fe n)
noncomputable def con_Plain19 (n : Nat) : Con := con1 (fun (v : Sl VNode) => v.l.length ≤ 1000000 ∧ (∃ x, OneV v.l x) ∧ v.l.length < n) (fun v => Sl.mk (nds (plainR (treeAt arV v.l 0))))
theorem Ag : ∀ c, ¬ (con_Plain19 0).pre c := by
  intro c h
  unfold con_Plain19 at h
  obtain ⟨_, _, _, _, h⟩ := Kw h
  omega
def preL (m : VNode) (ks : List (Rose VNode)) (k : Nat) : List VNode := m :: ndss (plainRs (ks.take k))
theorem plainRs_app (a b : List (Rose VNode)) : plainRs (a ++ b) = plainRs a ++ plainRs b := by rw [Ns, Ns, Ns, List.map_append]
theorem preL_snoc {m : VNode} {ks : List (Rose VNode)} {k : Nat} (h : k < ks.length) : preL m ks k ++ nds (plainR ks[k]) = preL m ks (k + 1) := by
  unfold preL
  rw [List.take_succ_eq_append_getElem h, plainRs_app, H4, List.cons_append]
  simp [plainRs,ndss]
theorem preL_le {m : VNode} {ks : List (Rose VNode)} (k : Nat) : (preL m ks k).length ≤ 1 + (ndss ks).length := by
  unfold preL
  rw [List.length_cons]
  have h1 : (ndss (plainRs (ks.take k))).length ≤ (ndss (ks.take k)).length := L6.plains_len _
  have h2 : (ndss (ks.take k)).length ≤ (ndss ks).length := by
    conv => rhs; rw [← List.take_append_drop k ks]
    rw [H4, List.length_append]
    omega
  omega
noncomputable def ctx_Plain19 (n : Nat) : Ctx := ⟨tab, lkC [(70, con_Kids19), (40, (con_Plain19 n))], 60, lkB [], [], false⟩
theorem Pp (n : Nat) : (ctx_Plain19 n).τ = tab := rfl
theorem L2 (n : Nat) : (ctx_Plain19 n).Γ = lkC [(70, con_Kids19), (40, (con_Plain19 n))] := rfl
theorem Pq (n : Nat) : (ctx_Plain19 n).dp = 60 := rfl
theorem L3 (n : Nat) : (ctx_Plain19 n).Δ = lkB [] := rfl
theorem ctx_Plain19_w (n : Nat) : (ctx_Plain19 n).wr = false := rfl
set_option maxRecDepth 100000 in
theorem step_Plain19 (n : Nat) (ih : Good Try.prog (40, con_Plain19 n)) : Good Try.prog (40, (con_Plain19 (n + 1))) := by
  refine ⟨U2 Try.func40 (by kernel_rfl) rfl, ?_⟩
  have K : CtxOk Try.prog (ctx_Plain19 n) := U5 Kh Ka (by
    intro p hp
    simp only [List.mem_cons, List.not_mem_nil, or_false] at hp
    rcases hp with rfl | rfl
    · exact Lo
    · exact ih) (by simp)
  obtain ⟨c, hc⟩ : ∃ c, Try.f40.body = some c := ⟨_, rfl⟩
  refine U6 K Try.func40 hc [.tmp 2] rfl 44 rfl (fun cvs hpre => ?_)
  change (con_Plain19 (n + 1)).pre cvs at hpre
  unfold con_Plain19 at hpre
  obtain ⟨⟨v⟩, rfl, hv, ⟨x, hx⟩, hn⟩ := Kw hpre
  simp only at hv hx hn
  have hx1 := hx.tree
  have hxl := hx.at.lt
  have ev := U8 v0 hxl
  have hro := hx.at.root v0
  rw [hro] at ev
  have hk9 := Lk hx (by omega)
  obtain ⟨R, hR⟩ : ∃ R, plainR x = R := ⟨_, rfl⟩
  have hR2 := hR
  rw [show x = mk x.root x.kids by cases x; rfl, plainR] at hR2
  have hsub := @T0 x hx.2
  have hlen := @Sb x
  rw [← hx.1] at hlen
  have hkl := P5 x.kids
  have hvl : v.length = 1 + (ndss x.kids).length := by rw [hx.1, Gu, List.length_cons]; omega
  obtain ⟨ks, hks⟩ : ∃ ks, x.kids = ks := ⟨_, rfl⟩
  rw [hks] at hR2 hkl hvl hk9
  simp only [hks] at hsub hlen
  have hsl : (sls ks).length = ks.length := Nb
  obtain ⟨m, hm⟩ : ∃ m, x.root = m := ⟨_, rfl⟩
  rw [hm] at ev hR2 hro
  clear hpre
  simp only [Try.f40, Option.some.injEq] at hc
  subst hc
  refine Kq 2 (of_decide_eq_true (by kernel_rfl)) ?_
  cases hf : isFunB m with
  | true =>
    rw [hf, cond_true] at hR2
    have hR3 : nds R = [VNode.mk 6 m.label [] 0 0 [] []] := by rw [← hR2]; rfl
    unfold isFunB at hf
    (sym =>
     simp [hx1,ev,hro,hR,hR3,Nw,Nu,Uv,Uy,Ux,Uw,szV,Pp,L2,Pq,L3,con_Kids19.eq_def,con_Plain19.eq_def,Zb,Zc,Zd,Ze,Zf,Zn,Zo,Zp,Zq,Zr,Zs,Zt,Zv,Zx,Zy,Z1,Z2,Z9,Qb,Qd,Qe,Qf,Qh,Ql,Qn,Qo,Qp,Qq,Qs,Q1,Q2,Q4,Q7,Q8,Ja,Jb,Jc,Jd,Je,Jf,Jg,Jh,Ji,Jj,Jk,Jl,Jw,J3,J4,J5,J6,J8,J9,Xb,Xc,Xd,Xe,Xf,Xg,Xh,Xj,Xl,Xm,Xn,Xo,Xp,Xr,Xu,X2,X3,X5,X6,X7,X8,Wa,Wb,We,Wg,Wh,Wi,Wl,Wm,Ws,Wt,Wu,Wv,Ww,Wx,Wy,Wz,W0,W3,W4,W5,W6,W7,W8,W9,Ya,Yd,Yh,Yl,Ym,Yn,Yp,Ys,Yt,Yv,Yz,Y0,Y6,Y7,Y8,Y9,Va,Vb,Vc,Vd,Ve,Vf,Vi,Vn,Vr,Vs,Vt,V2,V3,V4,V6,V8,Uc,Ud,Uj,Uk,Ul,Um,Un,Uo,U4,K9,Kc,Ke]
     tactic =>
      try simp only [U0] at *
      try simp only [nc2] at *
      try simp (maxSteps := 4000000) only [hx1,ev,hro,hR,hR3,Nw,Nu,Uv,Uy,Ux,Uw,szV,U3]
      repeat' (first | with_reducible assumption | with_reducible refine And.intro ?_ ?_ | intro _ | omega | (rw [Uz]; omega))
      all_goals first
        | omega
        | rfl
        | (exfalso; simp_all; done)
        | skip)
  | false =>
    rw [hf, cond_false] at hR2
    have hn67 := notFun hf
    obtain ⟨k6, k7⟩ := hn67
    have hR3 : nds R = preL m ks ks.length := by rw [← hR2, Gj]; unfold preL; rw [List.take_length]
    (sym =>
     simp [hx1,ev,hro,k6,k7,hk9,Uv,Uy,Ux,Uw,szV,Pp,L2,Pq,L3,con_Kids19.eq_def,con_Plain19.eq_def,Zb,Zc,Zd,Ze,Zf,Zn,Zo,Zp,Zq,Zr,Zs,Zt,Zv,Zx,Zy,Z1,Z9,Qb,Qd,Qe,Qf,Qq,Qs,Q1,Q2,Q4,Q8,Jb,Jc,Jd,Je,Jf,Jg,Jh,Ji,Jj,Jl,Jw,J3,J4,J5,J6,J8,J9,Xb,Xc,Xd,Xe,Xf,Xn,Xo,Xp,Xu,X2,X3,X5,X6,X7,X8,Wb,We,Wg,Wh,Wi,Wm,Ws,Wt,Wu,Wv,Ww,Wx,Wy,Wz,W0,W3,W4,W5,W6,W7,W8,W9,Ya,Yd,Yh,Yl,Yp,Ys,Yv,Yz,Y0,Y6,Y7,Y8,Va,Vb,Vc,Vd,Ve,Vf,Vi,Vn,Vr,Vs,Vt,V2,V3,V4,V6,V8,Uk,Ul,Um,Un,Uo,U4,Kc,Ke]
     tactic =>
      try simp only [U0] at *
      try simp only [nc2] at *
      try simp (maxSteps := 4000000) only [hx1,ev,hro,k6,k7,hk9,Uv,Uy,Ux,Uw,szV,U3]
      repeat' (first | with_reducible assumption | with_reducible refine And.intro ?_ ?_ | intro _ | omega | (rw [Uz]; omega))
      refine Kd [30, 31, 32, 33, 34, 35, 36, 37, 38, 39, 40, 41, 42] (fun k : Nat => [(3, .sl 27 ((preL m ks k).map (enc : VNode → D)).length), (5, .d (.int .i64 k))]) (fun k : Nat => [(27, .row 7 ((preL m ks k).map enc) 0)]) (fun k : Nat => k ≤ ks.length) (fun k : Nat => ks.length - k) 0 ?_ ?_ ?_
      · omega
      · ((try simp only [U1, killAll, setSlots, updAll, upd, U9, setCs, putC, Nat.reduceDiv, Nat.reduceMod, Nat.reduceMul, Nat.reduceAdd, Nat.reduceEqDiff, List.set_cons_zero, List.set_cons_succ, if_true, if_false, reduceIte]); (first | refine Wk.of_fl ?_ | skip); simp only [Wk, wkK, wkCs, wkT, wk1, AV.kept, keptAll, wkO, lk, wkObj, and_true, true_and, and_self, Nat.reduceEqDiff, Nat.reduceLeDiff, if_true, if_false, reduceIte, reduceCtorEq, Option.isSome, false_implies]; try simp [Wk, wkK, wkT, wk1, AV.kept, keptAll, wkO, lk, wkObj, preL, plainRs, ndss])
        all_goals rfl
      rintro k hk
      have hml := preL_le (m := m) (ks := ks) k
      have hml2 := preL_le (m := m) (ks := ks) (k + 1)
      rcases Kg k ks.length with ⟨hlt, hlb⟩ | ⟨hlt, hlb⟩
      · have q1 := U8 (⟨[]⟩ : Sl VNode) (show k < (sls ks).length by omega)
        rw [Bt hlt] at q1
        have hsn := preL_snoc (m := m) hlt
        have g1 := hsub hlt
        have g2 := hlen hlt
        obtain ⟨z, hz⟩ : ∃ z, ks[k] = z := ⟨_, rfl⟩
        rw [hz] at q1 g1 g2 hsn
        have tz := g1.tree
        have hsl2 : (preL m ks (k + 1)).length = (preL m ks k).length + (nds (plainR z)).length := by rw [← hsn, List.length_append]
        (sym =>
         simp [hlb,hsl,q1,tz,Uv,Uy,Ux,Uw,szV,Pp,L2,Pq,L3,ctx_Plain19_w,con_Kids19.eq_def,con_Plain19.eq_def,Zb,Zc,Ze,Zf,Zg,Zo,Zp,Zq,Zv,Zy,Z4,Z5,Z6,Z9,Qb,Qd,Qe,Qf,Qq,Qs,Q1,Q2,Q4,Q8,Jf,Jh,Ji,Jj,Jl,Jy,Jz,J0,J5,J6,J7,J8,J9,Xa,Xb,Xc,Xf,Xu,X2,X3,X5,X6,X7,Wb,We,Wg,Wh,Wi,Wj,Ws,Wt,Wu,Wv,Ww,Wy,Wz,W9,Ya,Yc,Yd,Yh,Yl,Yz,Y0,Y2,Y5,Y6,Y7,Y8,Y9,Vi,Vn,Vq,Vs,Vt,V3,Uj,Ul,Um,Un,Uo,U4,Kc,Ke,Gl]
         tactic =>
          try simp only [U0] at *
          try simp only [nc2] at *
          try simp (maxSteps := 4000000) only [hlb,hsl,q1,tz,Uv,Uy,Ux,Uw,szV,U3]
          repeat' (first | with_reducible assumption | with_reducible refine And.intro ?_ ?_ | intro _ | omega | (rw [Uz]; omega))
          all_goals first
            | (with_reducible refine Kf ?_; kernel_rfl)
            | omega
            | exact ⟨_, g1⟩
            | exact ⟨k + 1, by rw [← hsn]; ((try simp only [U1, killAll, setSlots, updAll, upd, U9, setCs, putC, Nat.reduceDiv, Nat.reduceMod, Nat.reduceMul, Nat.reduceAdd, Nat.reduceEqDiff, List.set_cons_zero, List.set_cons_succ, if_true, if_false, reduceIte]); (first | refine Wk.of_fl ?_ | skip); simp only [Wk, wkK, wkCs, wkT, wk1, AV.kept, keptAll, wkO, lk, wkObj, and_true, true_and, and_self, Nat.reduceEqDiff, Nat.reduceLeDiff, if_true, if_false, reduceIte, reduceCtorEq, Option.isSome, false_implies]; try simp [Wk, wkK, wkT, wk1, AV.kept, keptAll, wkO, lk, wkObj, List.map_append, List.length_append]), by omega, by omega⟩
            | skip)
      · have hkl2 : k = ks.length := by omega
        subst hkl2
        (sym =>
         simp [hlb,hsl,hx1,hR,hR3,Uv,Uy,Ux,Uw,szV,Pp,Pq,Zb,Zc,Ze,Zf,Zg,Zo,Z6,Qb,Qd,Qn,Qo,Qp,Qq,Qs,Q1,Q2,Q4,Q8,Jh,Ji,Jk,Jy,Jz,J0,J5,J6,J7,J8,J9,Xa,Xb,Xc,Xh,X3,X5,X6,X9,Wa,Wb,We,Wg,Wh,Wi,Ws,Wt,Wu,Wv,W9,Ya,Yc,Yd,Yh,Yz,Y0,Y5,Y6,Y7,Y8,Y9,Vs,Vt,Uk,Ul,Um,Uo,U4,Kc,Gl]
         tactic =>
          try simp only [U0] at *
          try simp only [nc2] at *
          try simp (maxSteps := 4000000) only [hlb,hsl,hx1,hR,hR3,Uv,Uy,Ux,Uw,szV,U3]
          repeat' (first | with_reducible assumption | with_reducible refine And.intro ?_ ?_ | intro _ | omega | (rw [Uz]; omega))
          all_goals rfl))
theorem Db : ∀ n, Good Try.prog (40, con_Plain19 n)
  | 0 => Mv (U2 Try.func40 (by kernel_rfl) rfl) Ag
  | n + 1 => step_Plain19 n (Db n)
end Go.Am.Ty
set_option linter.unusedSimpArgs false
set_option linter.unusedVariables false
set_option maxHeartbeats 2000000
namespace Go.Am.Ty
open Go.Proofs Go.Rose Go.Rose.Rose
open Enc (enc dec)
noncomputable def con_Fits19A : Con := con_Fits19 1000001
theorem good_Fits19A : Good Try.prog (38, con_Fits19A) := Fe _
theorem Dp : con_Fits19A = con2 (fun (v : Sl VNode) (t : Sl Node) => v.l.length ≤ 1000000 ∧ (∃ x, OneV v.l x) ∧ (∀ m ∈ v.l, Short2 m) ∧ Tree7 t.l ∧ plain3 t.l = true ∧ v.l.length < 1000001) (fun v t => fits9 (treeAt arV v.l 0) (treeAt ar t.l 0)) := rfl
noncomputable def con_Plain19A : Con := con_Plain19 1000001
theorem good_Plain19A : Good Try.prog (40, con_Plain19A) := Db _
theorem Ck : con_Plain19A = con1 (fun (v : Sl VNode) => v.l.length ≤ 1000000 ∧ (∃ x, OneV v.l x) ∧ v.l.length < 1000001) (fun v => Sl.mk (nds (plainR (treeAt arV v.l 0)))) := rfl
theorem in1 {t : List Node} (ht : In t) : ∀ s ∈ [(⟨t⟩ : Sl Node)], In s.l := by
  intro s hs
  simp only [List.mem_cons, List.not_mem_nil, or_false] at hs
  subst hs
  exact ht
def con_ValueFits : Con := con2 (fun (v : Sl VNode) (t : Sl Node) => InVal v.l ∧ In t.l) (fun _ _ => true)
noncomputable def ctx_ValueFits : Ctx := ⟨tab, lkC [(32, con_given19), (34, con_FitsVA), (38, con_Fits19A), (27, con_alive19), (39, con_PlainVA), (40, con_Plain19A), (37, con_One19)], 60, lkB [], [], false⟩
theorem Tp : ctx_ValueFits.τ = tab := rfl
theorem Ts : ctx_ValueFits.Γ = lkC [(32, con_given19), (34, con_FitsVA), (38, con_Fits19A), (27, con_alive19), (39, con_PlainVA), (40, con_Plain19A), (37, con_One19)] := rfl
theorem Tq : ctx_ValueFits.dp = 60 := rfl
theorem Tt : ctx_ValueFits.Δ = lkB [] := rfl
set_option maxRecDepth 100000 in
theorem good_ValueFits : Good Try.prog (11, con_ValueFits) := by
  refine ⟨U2 Try.func11 (by kernel_rfl) rfl, ?_⟩
  have K : CtxOk Try.prog ctx_ValueFits := U5 Kh Ka (by
    intro p hp
    simp only [List.mem_cons, List.not_mem_nil, or_false] at hp
    rcases hp with rfl | rfl | rfl | rfl | rfl | rfl | rfl
    · exact good_given19
    · exact A3
    · exact good_Fits19A
    · exact good_alive19
    · exact good_PlainVA
    · exact good_Plain19A
    · exact good_One19) (by simp)
  obtain ⟨c, hc⟩ : ∃ c, Try.f11.body = some c := ⟨_, rfl⟩
  refine U6 K Try.func11 hc [.tmp 4] rfl 28 rfl (fun cvs hpre => ?_)
  change con_ValueFits.pre cvs at hpre
  unfold con_ValueFits at hpre
  obtain ⟨⟨v⟩, ⟨t⟩, rfl, hV, hT⟩ := Ki hpre
  have hV' : InVal v := hV
  have ⟨t1, t2⟩ : In t := hT
  have hI := in1 hT
  have hT' : In t := hT
  clear hpre
  simp only [Try.f11, Option.some.injEq] at hc
  subst hc
  cases hg : givenB v [⟨t⟩] with
  | false =>
    (sym =>
     simp [hg,Uv,Uy,Ux,Uw,szV,Ut,Ur,Uu,Uq,szN,Us,Tp,Ts,Tq,Tt,con_Fits19A.eq_def,con_FitsVA.eq_def,con_One19.eq_def,con_Plain19A.eq_def,con_PlainVA.eq_def,con_ValueFits.eq_def,con_alive19.eq_def,con_given19.eq_def,Za,Zb,Zc,Ze,Zf,Zo,Zr,Z1,Z9,Qc,Qd,Qe,Qf,Qn,Qo,Qp,Qq,Qs,Q1,Q2,Q4,Q8,Jb,Jc,Jd,Je,Jf,Jg,Jh,Ji,Jj,Jk,Jl,Jw,J3,J4,Xd,Xe,Xf,Xh,Xt,Xv,X3,X5,X6,Wa,Wb,We,Wg,Wh,Wi,Wm,Ws,Wt,Wu,Wv,Ww,Wx,Wy,Wz,W0,W3,W4,W5,W6,Ye,Yi,Yx,Y1,Y6,Y7,Y8,Y9,Va,Vb,Vi,Vj,Vn,Vp,Vt,V2,V4,V8,Uj,Ul,Um,Un,Ky,U7,Gt]
     tactic =>
      try simp only [U0] at *
      try simp only [nc2] at *
      try simp (maxSteps := 4000000) only [hg,Uv,Uy,Ux,Uw,szV,Ut,Ur,Uu,Uq,szN,Us,U3]
      repeat' (first | with_reducible assumption | with_reducible refine And.intro ?_ ?_ | intro _ | omega | (rw [Uz]; omega))
      all_goals first
        | exact hV'
        | exact hI
        | exact hT'
        | omega
        | skip)
  | true =>
  obtain ⟨g1, g2, ⟨x, hx, hvt⟩, g3⟩ := given_of hg
  obtain ⟨lt, y, hy, py⟩ := plain7_pt (g3 ⟨t⟩ (by simp))
  simp only at lt hy
  have ov : OneV v x := ⟨hx, hvt.wf⟩
  have oy : OneN t y := ⟨hy, py.ty⟩
  have tx := ov.tree
  have ty := oy.tree
  have t7 : Tree7 t := by rw [hy]; exact tree7_pt py
  have tp : plain3 t = true := by rw [hy]; exact py.2
  have gn := goodN_of hV' g2
  have sn := short_of hV'
  have iv := inV_of hV'
  have ovx : ∃ x, OneV v x := ⟨_, ov⟩
  have vp := plain_vt hvt
  have gp := O4 _ (Nat.le_refl _) (by rw [← hx]; exact gn)
  have lp := L6 x
  rw [← hx] at lp
  have hff : fits9 x y = fitsR x y := fits9_fits _ (Nat.le_refl _) hvt.wf hvt.ok py
  obtain ⟨P, hP⟩ : ∃ P, plainR x = P := ⟨_, rfl⟩
  rw [hP] at gp lp vp
  have iP : InV (nds P) := ⟨by omega, fun m hm => Ow (gp m hm)⟩
  have ho : oneV (nds P) (nds P) = true := oneV_refl _
  obtain ⟨f, hf⟩ : ∃ f, fitsR x y = f := ⟨_, rfl⟩
  rw [hf] at hff
  have hbb : (f == f) = true := beq_self_eq_true f
  (sym =>
   simp [hg,tx,ty,hP,hf,hff,hbb,ho,Bn,Dp,Dn,Ck,con4t.eq_def,Uv,Uy,Ux,Uw,szV,Ut,Ur,Uu,Uq,szN,Us,Tp,Ts,Tq,Tt,con_One19.eq_def,con_ValueFits.eq_def,con_alive19.eq_def,con_given19.eq_def,Za,Zb,Zc,Zd,Ze,Zf,Zo,Zr,Zt,Z1,Z9,Qb,Qc,Qd,Qe,Qf,Qn,Qo,Qp,Qq,Qs,Q1,Q2,Q4,Q8,Jb,Jc,Jd,Je,Jf,Jg,Jh,Ji,Jj,Jk,Jl,Jw,J3,J4,Xd,Xe,Xf,Xh,Xt,Xu,Xv,X2,X3,X5,X6,Wa,Wb,We,Wg,Wh,Wi,Wm,Ws,Wt,Wu,Wv,Ww,Wx,Wy,Wz,W0,W3,W4,W5,W6,W7,W8,Ye,Yi,Yx,Y1,Y6,Y7,Y8,Y9,Va,Vb,Vi,Vj,Vn,Vo,Vt,V2,V4,V8,Uj,Uk,Ul,Um,Un,Ky,U7,Gt]
   tactic =>
    try simp only [U0] at *
    try simp only [nc2] at *
    try simp (maxSteps := 4000000) only [hg,tx,ty,hP,hf,hff,hbb,ho,Bn,Dp,Dn,Ck,con4t.eq_def,Uv,Uy,Ux,Uw,szV,Ut,Ur,Uu,Uq,szN,Us,U3]
    repeat' (first | with_reducible assumption | with_reducible refine And.intro ?_ ?_ | intro _ | omega | (rw [Uz]; omega))
    all_goals first
      | exact iP
      | exact iv
      | exact ovx
      | exact ⟨_, oy⟩
      | omega
      | skip)
end Go.Am.Ty
set_option linter.unusedSimpArgs false
set_option linter.unusedVariables false
namespace Go.Am.Ty
open Go.Proofs
open Enc (enc dec)
theorem all2_7 {p1 p2 p3 p4 p5 p6 p7 : D → Prop} {ds : List D} (h : All2 [p1, p2, p3, p4, p5, p6, p7] ds) : ∃ a b c d e f g, ds = [a, b, c, d, e, f, g] ∧ p1 a ∧ p2 b ∧ p3 c ∧ p4 d ∧ p5 e ∧ p6 f ∧ p7 g := by
  match ds, h with
  | [a, b, c, d, e, f, g], h => exact ⟨a, b, c, d, e, f, g, rfl, h.1, h.2.1, h.2.2.1, h.2.2.2.1, h.2.2.2.2.1, h.2.2.2.2.2.1, h.2.2.2.2.2.2.1⟩
def InN (n : VNode) : Prop := (n.label.length ≤ maxLen ∧ n.name.length ≤ maxLen) ∧ (n.t.length ≤ maxLen ∧ ∀ y ∈ n.t, y.name.length ≤ maxLen) ∧ n.u.length ≤ maxLen ∧ ∀ y ∈ n.u, y.name.length ≤ maxLen
theorem rdVNode : Rdt Try.prog 52 7 true VNode InN :=
  (rd_struct (ps := [_, _, _, _, _, _, _]) Try.underlying52 (by kernel_rfl) rfl ⟨rfl, by kernel_rfl, Ew Try.underlying3, rfl, by kernel_rfl, rdt_str Try.underlying9, rfl, by kernel_rfl, rdt_str Try.underlying9,
    rfl, by kernel_rfl, Ew Try.underlying2, rfl, by kernel_rfl, Ew Try.underlying3, rfl, by kernel_rfl, rdNodes, rfl, by kernel_rfl, rdNodes, trivial⟩).mono fun x h => by
    obtain ⟨ds, rfl, h⟩ := h
    obtain ⟨a, b, c, d, e, f, g, rfl, ⟨k, rfl, _⟩, ⟨s, rfl, hs⟩, ⟨n, rfl, hn⟩, ⟨i, rfl, _⟩, ⟨m, rfl, _⟩, ⟨⟨t⟩, rfl, ht⟩, ⟨⟨u⟩, rfl, hu⟩⟩ := all2_7 h
    exact ⟨⟨k, s, n, i, m, t, u⟩, rfl, ⟨hs, hn⟩, ht, hu⟩
theorem rdVNodes : Rdt Try.prog 41 1 false (Sl VNode) (fun a => a.l.length ≤ maxLen ∧ ∀ y ∈ a.l, InN y) := rdt_sl Try.underlying41 (by kernel_rfl) rfl (by decide) rdVNode
theorem inVal_of {a : Sl VNode} (h : a.l.length ≤ maxLen ∧ ∀ y ∈ a.l, InN y) : InVal a.l := by
  unfold maxLen InN at h
  refine ⟨by have := h.1; omega, fun n hn => ?_⟩
  obtain ⟨⟨h1, h2⟩, ⟨h3, h4⟩, h5, h6⟩ := h.2 n hn
  unfold maxLen at *
  exact ⟨⟨by omega, by omega⟩, ⟨by omega, fun y hy => by have := h4 y hy; omega⟩, by omega, fun y hy => by have := h6 y hy; omega⟩
theorem in_of {a : Sl Node} (h : a.l.length ≤ maxLen ∧ ∀ y ∈ a.l, y.name.length ≤ maxLen) : In a.l := by
  unfold maxLen at h
  exact ⟨by have := h.1; omega, fun n hn => by have := h.2 n hn; omega⟩
end Go.Am.Ty
