/- Contracts of functions that the law reaches, and plain laws. Conditions: those that each contract states. -/
import Derived.Test.YtecgdmiigdfgdaaK5
set_option linter.unusedSimpArgs false
set_option linter.unusedVariables false
set_option maxHeartbeats 2000000
namespace Go.Am.Ty
open Go.Proofs Go.Rose Go.Rose.Rose
open Enc (enc dec)
theorem noFun_of {v : List VNode} {x : Rose VNode} (hx : v = nds x) (h : ∀ j, j < v.length → ¬ (v.getD j v0).kind = 6 ∧ ¬ (v.getD j v0).kind = 7) : NoFun x := by
  intro m hm
  rw [← hx] at hm
  obtain ⟨j, hj, rfl⟩ := List.getElem_of_mem hm
  have := h j hj
  rw [N1 hj] at this
  exact this
def con_ValueBack : Con := con3 (fun (v : Sl VNode) (t u : Sl Node) => InVal v.l ∧ In t.l ∧ In u.l) (fun _ _ _ => true)
noncomputable def ctx_ValueBack : Ctx := ⟨tab, lkC [(32, con_given19), (33, con_Agree7A), (34, con_FitsVA), (27, con_alive19), (35, con_CastVA), (39, con_PlainVA), (37, con_One19)], 60, lkB [], [], false⟩
theorem Hw : ctx_ValueBack.τ = tab := rfl
theorem Hy : ctx_ValueBack.Γ = lkC [(32, con_given19), (33, con_Agree7A), (34, con_FitsVA), (27, con_alive19), (35, con_CastVA), (39, con_PlainVA), (37, con_One19)] := rfl
theorem Hx : ctx_ValueBack.dp = 60 := rfl
theorem Hz : ctx_ValueBack.Δ = lkB [] := rfl
theorem ctx_ValueBack_w : ctx_ValueBack.wr = false := rfl
set_option maxRecDepth 100000 in
theorem good_ValueBack : Good Try.prog (12, con_ValueBack) := by
  refine ⟨U0 Try.func12 (by kernel_rfl) rfl, ?_⟩
  have K : CtxOk Try.prog ctx_ValueBack := U4 Ki Ka (by
    intro p hp
    simp only [List.mem_cons, List.not_mem_nil, or_false] at hp
    rcases hp with rfl | rfl | rfl | rfl | rfl | rfl | rfl
    · exact Pv
    · exact B9
    · exact Pm
    · exact Mp
    · exact Pn
    · exact R7
    · exact Cf) (by simp)
  obtain ⟨c, hc⟩ : ∃ c, Try.f12.body = some c := ⟨_, rfl⟩
  refine U5 K Try.func12 hc [.tmp 6] rfl 114 rfl (fun cvs hpre => ?_)
  change con_ValueBack.pre cvs at hpre
  unfold con_ValueBack at hpre
  obtain ⟨⟨v⟩, ⟨t⟩, ⟨u⟩, rfl, hV, hT, hU⟩ := P3 hpre
  have hV' : InVal v := hV
  have ⟨t1, t2⟩ : In t := hT
  have ⟨u1, u2⟩ : In u := hU
  have hI := in2 hT hU
  have hT' : In t := hT
  have hU' : In u := hU
  clear hpre
  simp only [Try.f12, Option.some.injEq] at hc
  subst hc
  refine Kl 7 (of_decide_eq_true (by kernel_rfl)) ?_
  cases hg : givenB v [⟨t⟩, ⟨u⟩] with
  | false =>
    (sym =>
     simp [hg,Ut,Uw,Uv,Uu,szV,Ur,Up,Us,Uo,szN,Uq,Hw,Hy,Hx,Hz,con_Agree7A.eq_def,con_CastVA.eq_def,con_FitsVA.eq_def,con_One19.eq_def,con_PlainVA.eq_def,con_ValueBack.eq_def,con_alive19.eq_def,con_given19.eq_def,Zb,Zc,Zd,Ze,Zf,Zo,Zr,Zt,Z1,Z9,Qc,Qd,Qe,Qf,Qn,Qo,Qp,Qq,Qs,Q1,Q2,Q4,Q8,Jb,Jc,Jd,Je,Jf,Jg,Jh,Ji,Jj,Jk,Jl,Jw,J2,J3,J4,J5,J7,J8,Xa,Xb,Xc,Xd,Xe,Xg,Xm,Xn,Xs,Xu,Xv,X2,X4,X5,X9,Wa,Wd,Wf,Wg,Wh,Wl,Wr,Ws,Wt,Wu,Wv,Ww,Wx,Wy,Wz,W0,W3,W4,W5,W6,W7,W8,W9,Yd,Yh,Yw,Y0,Y5,Y6,Y7,Y8,Y9,Va,Vb,Vc,Vd,Ve,Vh,Vi,Vm,Vo,Vr,Vs,V3,V5,V9,Uh,Uj,Uk,Ul,Ku,U3,K7]
     tactic =>
      try simp only [Uy] at *
      try simp only [nc2] at *
      try simp (maxSteps := 4000000) only [hg,Ut,Uw,Uv,Uu,szV,Ur,Up,Us,Uo,szN,Uq,U1]
      repeat' (first | with_reducible assumption | with_reducible refine And.intro ?_ ?_ | intro _ | omega | (rw [Ux]; omega))
      all_goals first
        | exact hV'
        | exact hI
        | exact hT'
        | exact hU'
        | omega
        | skip)
  | true =>
  obtain ⟨g1, g2, ⟨x, hx, hvt⟩, g3⟩ := Dd hg
  obtain ⟨lt, y, hy, py⟩ := Nu (g3 ⟨t⟩ (by simp))
  obtain ⟨lu, w, hw, pw⟩ := Nu (g3 ⟨u⟩ (by simp))
  simp only at lt lu hy hw
  have ov : OneV v x := ⟨hx, hvt.wf⟩
  have oy : OneN t y := ⟨hy, py.ty⟩
  have ow : OneN u w := ⟨hw, pw.ty⟩
  have tx := ov.tree
  have ty := oy.tree
  have tw := ow.tree
  have td := Tg.tree
  have t7 : Tree7 t := by rw [hy]; exact Mb py
  have u7 : Tree7 u := by rw [hw]; exact Mb pw
  have tp : plain3 t = true := by rw [hy]; exact py.2
  have up : plain3 u = true := by rw [hw]; exact pw.2
  have sn := Tc hV'
  have iv := I1 hV'
  have ovx : ∃ x, OneV v x := ⟨_, ov⟩
  cases ha : agX false y w with
  | false =>
    (sym =>
     simp [hg,tx,ty,tw,ha,Kg,U6,U7,Kw,con4t.eq_def,Ut,Uw,Uv,Uu,szV,Ur,Up,Us,Uo,szN,Uq,Hw,Hy,Hx,Hz,con_One19.eq_def,con_ValueBack.eq_def,con_alive19.eq_def,con_given19.eq_def,Zb,Zc,Zd,Ze,Zf,Zo,Zr,Zt,Z1,Z9,Qc,Qd,Qe,Qf,Qn,Qo,Qp,Qq,Qs,Q1,Q2,Q4,Q8,Jb,Jc,Jd,Je,Jf,Jg,Jh,Ji,Jj,Jk,Jl,Jw,J2,J3,J4,J5,J7,J8,Xa,Xb,Xc,Xd,Xe,Xg,Xm,Xn,Xs,Xt,Xu,Xv,X2,X4,X5,X9,Wa,Wd,Wf,Wg,Wh,Wl,Wr,Ws,Wt,Wu,Wv,Ww,Wx,Wy,Wz,W0,W3,W4,W5,W6,W7,W8,W9,Yd,Yh,Yw,Y0,Y5,Y6,Y7,Y8,Y9,Va,Vb,Vc,Vd,Ve,Vh,Vi,Vm,Vn,Vo,Vr,Vs,V3,V5,V9,Uh,Ui,Uj,Uk,Ul,Ku,U3,K7]
     tactic =>
      try simp only [Uy] at *
      try simp only [nc2] at *
      try simp (maxSteps := 4000000) only [hg,tx,ty,tw,ha,Kg,U6,U7,Kw,con4t.eq_def,Ut,Uw,Uv,Uu,szV,Ur,Up,Us,Uo,szN,Uq,U1]
      repeat' (first | with_reducible assumption | with_reducible refine And.intro ?_ ?_ | intro _ | omega | (rw [Ux]; omega))
      all_goals first
        | exact hI
        | omega
        | skip)
  | true =>
  cases hf : fitsR x y with
  | false =>
    (sym =>
     simp [hg,tx,ty,tw,ha,hf,Kg,U6,U7,Kw,con4t.eq_def,Ut,Uw,Uv,Uu,szV,Ur,Up,Us,Uo,szN,Uq,Hw,Hy,Hx,Hz,con_One19.eq_def,con_ValueBack.eq_def,con_alive19.eq_def,con_given19.eq_def,Zb,Zc,Zd,Ze,Zf,Zo,Zr,Zt,Z1,Z9,Qc,Qd,Qe,Qf,Qn,Qo,Qp,Qq,Qs,Q1,Q2,Q4,Q8,Jb,Jc,Jd,Je,Jf,Jg,Jh,Ji,Jj,Jk,Jl,Jw,J2,J3,J4,J5,J7,J8,Xa,Xb,Xc,Xd,Xe,Xg,Xm,Xn,Xs,Xt,Xu,Xv,X2,X4,X5,X9,Wa,Wd,Wf,Wg,Wh,Wl,Wr,Ws,Wt,Wu,Wv,Ww,Wx,Wy,Wz,W0,W3,W4,W5,W6,W7,W8,W9,Yd,Yh,Yw,Y0,Y5,Y6,Y7,Y8,Y9,Va,Vb,Vc,Vd,Ve,Vh,Vi,Vm,Vn,Vo,Vr,Vs,V3,V5,V9,Uh,Ui,Uj,Uk,Ul,Ku,U3,K7]
     tactic =>
      try simp only [Uy] at *
      try simp only [nc2] at *
      try simp (maxSteps := 4000000) only [hg,tx,ty,tw,ha,hf,Kg,U6,U7,Kw,con4t.eq_def,Ut,Uw,Uv,Uu,szV,Ur,Up,Us,Uo,szN,Uq,U1]
      repeat' (first | with_reducible assumption | with_reducible refine And.intro ?_ ?_ | intro _ | omega | (rw [Ux]; omega))
      all_goals first
        | exact hI
        | exact ovx
        | exact ⟨_, oy⟩
        | omega
        | skip)
  | true =>
  (sym =>
   simp [hg,tx,ty,tw,ha,hf,Kg,U6,U7,Kw,con4t.eq_def,Ut,Uw,Uv,Uu,szV,Ur,Up,Us,Uo,szN,Uq,Hw,Hy,Hx,Hz,con_One19.eq_def,con_ValueBack.eq_def,con_alive19.eq_def,con_given19.eq_def,Zb,Zc,Zd,Ze,Zf,Zo,Zr,Zt,Z1,Z9,Qc,Qd,Qe,Qf,Qq,Qs,Q1,Q2,Q4,Q8,Jb,Jc,Jd,Je,Jf,Jg,Jh,Ji,Jj,Jl,Jw,J2,J3,J4,J5,J7,J8,Xa,Xb,Xc,Xd,Xe,Xg,Xm,Xn,Xs,Xt,Xu,Xv,X1,X2,X4,X5,X6,X7,Wa,Wd,Wf,Wg,Wh,Wl,Wr,Ws,Wt,Wu,Wv,Ww,Wx,Wy,Wz,W0,W3,W4,W5,W6,W7,W8,W9,Yd,Yh,Yw,Y0,Y5,Y6,Y7,Y8,Y9,Va,Vb,Vc,Vd,Ve,Vh,Vi,Vm,Vn,Vr,Vs,V3,V4,V5,V9,Ui,Uj,Uk,Ul,Ku,U3,K7]
   tactic =>
    try simp only [Uy] at *
    try simp only [nc2] at *
    try simp (maxSteps := 4000000) only [hg,tx,ty,tw,ha,hf,Kg,U6,U7,Kw,con4t.eq_def,Ut,Uw,Uv,Uu,szV,Ur,Up,Us,Uo,szN,Uq,U1]
    repeat' (first | with_reducible assumption | with_reducible refine And.intro ?_ ?_ | intro _ | omega | (rw [Ux]; omega))
    · exact ⟨_, oy⟩
    refine Ke [6, 33, 34, 35, 36, 37, 38, 39, 40, 41, 42, 43, 44, 45, 46, 47, 48, 49, 50, 51, 52, 53] (fun k : Nat => [(7, .d (.int .i64 k))]) (fun k : Nat => []) (fun k : Nat => k ≤ v.length ∧ ∀ j, j < k → ¬ (v.getD j v0).kind = 6 ∧ ¬ (v.getD j v0).kind = 7) (fun k : Nat => v.length - k) 0 ?_ ?_ ?_
    · simp
    · ((try simp only [Uz, killAll, setSlots, updAll, upd, U9, setCs, putC, Nat.reduceDiv, Nat.reduceMod, Nat.reduceMul, Nat.reduceAdd, Nat.reduceEqDiff, List.set_cons_zero, List.set_cons_succ, if_true, if_false, reduceIte]); (first | refine Wk.of_fl ?_ | skip); simp only [Wk, wkK, wkCs, wkT, wk1, AV.kept, keptAll, wkO, lk, wkObj, and_true, true_and, and_self, Nat.reduceEqDiff, Nat.reduceLeDiff, if_true, if_false, reduceIte, reduceCtorEq, Option.isSome, false_implies]; try simp [Wk, wkK, wkT, wk1, AV.kept, keptAll, wkO, lk, wkObj])
    rintro k ⟨hk, hno⟩
    rcases Kf k v.length with ⟨hlt, hlb⟩ | ⟨hlt, hlb⟩
    · have q1 := U8 v0 hlt
      have hst : ¬ (v.getD k v0).kind = 6 → ¬ (v.getD k v0).kind = 7 → ∀ j, j < k + 1 → ¬ (v.getD j v0).kind = 6 ∧ ¬ (v.getD j v0).kind = 7 := by
        intro h1 h2 j hj
        by_cases hjk : j = k
        · subst hjk; exact ⟨h1, h2⟩
        · exact hno j (by omega)
      obtain ⟨m, hm⟩ : ∃ m, v.getD k v0 = m := ⟨_, rfl⟩
      rw [hm] at q1 hst
      (sym =>
       simp [hlb,q1,Ut,Uw,Uv,Uu,szV,Ur,Up,Us,Uo,szN,Uq,Hw,Hy,Hx,Hz,ctx_ValueBack_w,con_Agree7A.eq_def,con_CastVA.eq_def,con_FitsVA.eq_def,con_One19.eq_def,con_PlainVA.eq_def,con_alive19.eq_def,con_given19.eq_def,Zb,Zc,Zd,Ze,Zf,Zg,Zo,Zp,Zq,Zs,Zt,Zv,Zx,Zy,Z6,Z9,Qb,Qd,Qe,Qf,Qn,Qo,Qp,Qq,Qs,Q1,Q2,Q4,Q8,Jf,Jj,Jk,Jl,Jx,Jy,Jz,J4,J5,J7,J8,Xa,Xb,Xe,Xs,Xu,X1,X2,X4,X5,X6,X9,Wa,Wd,Wf,Wg,Wh,Wr,Ws,Wt,Wu,Wv,Wx,Wy,W6,W7,W8,W9,Yb,Yc,Yg,Yk,Yr,Yu,Yw,Yy,Yz,Y5,Y6,Vp,Vr,Vs,V4,V5,Uh,Ui,Uj,Uk,Ul,Um,U2,Kc,Kd]
       tactic =>
        try simp only [Uy] at *
        try simp only [nc2] at *
        try simp (maxSteps := 4000000) only [hlb,q1,Ut,Uw,Uv,Uu,szV,Ur,Up,Us,Uo,szN,Uq,U1]
        repeat' (first | with_reducible assumption | with_reducible refine And.intro ?_ ?_ | intro _ | omega | (rw [Ux]; omega))
        all_goals first
          | omega
          | exact ⟨k + 1, by ((try simp only [Uz, killAll, setSlots, updAll, upd, U9, setCs, putC, Nat.reduceDiv, Nat.reduceMod, Nat.reduceMul, Nat.reduceAdd, Nat.reduceEqDiff, List.set_cons_zero, List.set_cons_succ, if_true, if_false, reduceIte]); (first | refine Wk.of_fl ?_ | skip); simp only [Wk, wkK, wkCs, wkT, wk1, AV.kept, keptAll, wkO, lk, wkObj, and_true, true_and, and_self, Nat.reduceEqDiff, Nat.reduceLeDiff, if_true, if_false, reduceIte, reduceCtorEq, Option.isSome, false_implies]; try simp [Wk, wkK, wkT, wk1, AV.kept, keptAll, wkO, lk, wkObj]), by omega, hst (by assumption) (by assumption), by omega⟩
          | trivial
          | skip)
    · have hnf : NoFun x := noFun_of hx fun j hj => hno j (by omega)
      have pd : PT dynT := pt_dyn
      have hfd := Fk _ (Nat.le_refl _) hnf hvt.wf py pd ag_dyn2 hf
      have hcd := Lx (lab := 7) _ (Nat.le_refl _) hnf hf hfd
      have hpl := On _ (Nat.le_refl _) hnf
      have hov : oneV v v = true := D2 v
      have hox : optX (some x) = (⟨v⟩, true) := by rw [N6, ← hx]
      have hnx : nds x = v := hx.symm
      cases hc : castR 7 x y w with
      | none =>
        (sym =>
         simp [hlb,tx,ty,tw,td,hcd,hfd,hc,hox,hov,N7,U6,U7,Kw,con4t.eq_def,Ut,Uw,Uv,Uu,szV,Ur,Up,Us,Uo,szN,Uq,Hw,Hy,Hx,Hz,con_Agree7A.eq_def,con_One19.eq_def,con_alive19.eq_def,con_given19.eq_def,Zb,Zc,Zd,Ze,Zf,Zg,Zo,Zr,Zt,Z1,Z2,Z6,Z8,Z9,Qb,Qc,Qd,Qe,Qf,Qg,Qh,Ql,Qn,Qo,Qp,Qq,Qs,Q1,Q2,Q4,Q7,Q8,Q9,Ja,Jb,Jc,Jd,Je,Jf,Jg,Jh,Ji,Jj,Jk,Jl,Jx,Jy,Jz,J4,J5,J7,J8,Xa,Xb,Xc,Xd,Xe,Xg,Xr,Xs,Xt,Xu,X1,X2,X4,X5,X8,X9,Wa,Wd,Wf,Wg,Wh,Wj,Wl,Wr,Ws,Wt,Wu,Wv,Wx,Wy,Wz,W0,W3,W4,W5,W6,W7,W8,W9,Yb,Yc,Yd,Yg,Yh,Yo,Yw,Yy,Yz,Y5,Y6,Y7,Vf,Vh,Vi,Vk,Vm,Vn,Vo,Vr,Vs,V3,V4,V5,V9,Uh,Ui,Uj,Uk,Ul,Um,U2,Ku,U3,Kb,Kc,Kd]
         tactic =>
          try simp only [Uy] at *
          try simp only [nc2] at *
          try simp (maxSteps := 4000000) only [hlb,tx,ty,tw,td,hcd,hfd,hc,hox,hov,N7,U6,U7,Kw,con4t.eq_def,Ut,Uw,Uv,Uu,szV,Ur,Up,Us,Uo,szN,Uq,U1]
          repeat' (first | with_reducible assumption | with_reducible refine And.intro ?_ ?_ | intro _ | omega | (rw [Ux]; omega))
          all_goals first
            | exact ovx
            | exact ⟨_, oy⟩
            | exact ⟨_, ow⟩
            | exact ⟨_, Tg⟩
            | exact iv
            | omega
            | skip)
      | some z =>
        have hzx := Pg _ (Nat.le_refl _) hnf hc
        subst hzx
        have hfw := (Lw (by decide) _ (Nat.le_refl _) hvt.wf hvt.ok py pw ha hf hc).1
        have hcb := Lx (lab := 7) _ (Nat.le_refl _) hnf hfw hf
        (sym =>
         simp [hlb,tx,ty,tw,td,hcd,hfd,hc,hcb,hox,hov,hpl,hnx,U6,U7,Kw,con4t.eq_def,Ut,Uw,Uv,Uu,szV,Ur,Up,Us,Uo,szN,Uq,Hw,Hy,Hx,Hz,con_Agree7A.eq_def,con_One19.eq_def,con_alive19.eq_def,con_given19.eq_def,Zb,Zc,Zd,Ze,Zf,Zg,Zo,Zr,Zt,Z1,Z2,Z6,Z8,Z9,Qb,Qc,Qd,Qe,Qf,Qg,Qh,Ql,Qn,Qo,Qp,Qq,Qs,Q1,Q2,Q4,Q7,Q8,Q9,Ja,Jb,Jc,Jd,Je,Jf,Jg,Jh,Ji,Jj,Jk,Jl,Jx,Jy,Jz,J4,J5,J6,J7,J8,J9,Xa,Xb,Xc,Xd,Xe,Xg,Xr,Xs,Xt,Xu,X1,X2,X4,X5,X8,X9,Wa,Wd,Wf,Wg,Wh,Wj,Wl,Wr,Ws,Wt,Wu,Wv,Wx,Wy,Wz,W0,W3,W4,W5,W6,W7,W8,W9,Yb,Yc,Yd,Yg,Yh,Yo,Yw,Yy,Yz,Y5,Y6,Y7,Y8,Vf,Vh,Vi,Vk,Vm,Vn,Vr,Vs,V3,V4,V5,V9,Uh,Ui,Uj,Uk,Ul,Um,U2,Ku,U3,Kb,Kc,Kd]
         tactic =>
          try simp only [Uy] at *
          try simp only [nc2] at *
          try simp (maxSteps := 4000000) only [hlb,tx,ty,tw,td,hcd,hfd,hc,hcb,hox,hov,hpl,hnx,U6,U7,Kw,con4t.eq_def,Ut,Uw,Uv,Uu,szV,Ur,Up,Us,Uo,szN,Uq,U1]
          repeat' (first | with_reducible assumption | with_reducible refine And.intro ?_ ?_ | intro _ | omega | (rw [Ux]; omega))
          all_goals first
            | exact ovx
            | exact ⟨_, oy⟩
            | exact ⟨_, ow⟩
            | exact ⟨_, Tg⟩
            | exact iv
            | omega
            | skip))
end Go.Am.Ty
set_option linter.unusedSimpArgs false
set_option linter.unusedVariables false
set_option maxHeartbeats 2000000
namespace Go.Am.Ty
open Go.Proofs Go.Rose Go.Rose.Rose
open Enc (enc dec)
structure Three where
  a : Sl Node
  b : Sl Node
  c : Sl Node
instance encThree : Enc Three := ⟨fun p => .agg [.list 3 (p.a.l.map enc), .list 3 (p.b.l.map enc), .list 3 (p.c.l.map enc)], fun x => match x with
  | .agg [a, b, c] => ⟨⟨a.l.map dec⟩, ⟨b.l.map dec⟩, ⟨c.l.map dec⟩⟩
  | _ => ⟨⟨[]⟩, ⟨[]⟩, ⟨[]⟩⟩, fun p => by
    have h : ∀ l : List Node, (l.map (enc : Node → D)).map dec = l := fun l => Hu
    obtain ⟨⟨a⟩, ⟨b⟩, ⟨c⟩⟩ := p
    simp [D.l,h]⟩
theorem Hd {a b c : List Node} : (enc (Three.mk ⟨a⟩ ⟨b⟩ ⟨c⟩) : D) = .agg [.list 3 (a.map enc), .list 3 (b.map enc), .list 3 (c.map enc)] := rfl
theorem in3 {t u s : List Node} (ht : In t) (hu : In u) (hs : In s) : ∀ r ∈ [(⟨t⟩ : Sl Node), ⟨u⟩, ⟨s⟩], In r.l := by
  intro r hr
  simp only [List.mem_cons, List.not_mem_nil, or_false] at hr
  rcases hr with rfl | rfl | rfl
  · exact ht
  · exact hu
  · exact hs
def con_ValueWay : Con := con2 (fun (v : Sl VNode) (t : Three) => InVal v.l ∧ In t.a.l ∧ In t.b.l ∧ In t.c.l) (fun _ _ => true)
noncomputable def ctx_ValueWay : Ctx := ⟨tab, lkC [(32, con_given19), (36, con_Below7A), (34, con_FitsVA), (27, con_alive19), (35, con_CastVA), (37, con_One19)], 60, lkB [], [], false⟩
theorem G9 : ctx_ValueWay.τ = tab := rfl
theorem Hb : ctx_ValueWay.Γ = lkC [(32, con_given19), (36, con_Below7A), (34, con_FitsVA), (27, con_alive19), (35, con_CastVA), (37, con_One19)] := rfl
theorem Ha : ctx_ValueWay.dp = 60 := rfl
theorem Hc : ctx_ValueWay.Δ = lkB [] := rfl
theorem ctx_ValueWay_w : ctx_ValueWay.wr = false := rfl
set_option maxRecDepth 100000 in
theorem good_ValueWay : Good Try.prog (10, con_ValueWay) := by
  refine ⟨U0 Try.func10 (by kernel_rfl) rfl, ?_⟩
  have K : CtxOk Try.prog ctx_ValueWay := U4 Ki Ka (by
    intro p hp
    simp only [List.mem_cons, List.not_mem_nil, or_false] at hp
    rcases hp with rfl | rfl | rfl | rfl | rfl | rfl
    · exact Pv
    · exact Cg
    · exact Pm
    · exact Mp
    · exact Pn
    · exact Cf) (by simp)
  obtain ⟨c, hc⟩ : ∃ c, Try.f10.body = some c := ⟨_, rfl⟩
  refine U5 K Try.func10 hc [.tmp 4] rfl 122 rfl (fun cvs hpre => ?_)
  change con_ValueWay.pre cvs at hpre
  unfold con_ValueWay at hpre
  obtain ⟨⟨v⟩, ⟨⟨a⟩, ⟨b⟩, ⟨s⟩⟩, rfl, hV, hA, hB, hS⟩ := Kj hpre
  have hV' : InVal v := hV
  have ⟨a1, a2⟩ : In a := hA
  have ⟨b1, b2⟩ : In b := hB
  have ⟨s1, s2⟩ : In s := hS
  have hI := in3 hA hB hS
  have hA' : In a := hA
  have hB' : In b := hB
  have hS' : In s := hS
  clear hpre
  simp only [Try.f10, Option.some.injEq] at hc
  subst hc
  refine Kl 7 (of_decide_eq_true (by kernel_rfl)) ?_
  cases hg : givenB v [⟨a⟩, ⟨b⟩, ⟨s⟩] with
  | false =>
    (sym =>
     simp [hg,Hd,Ut,Uw,Uv,Uu,szV,Ur,Up,Us,Uo,szN,Uq,G9,Hb,Ha,Hc,con_Below7A.eq_def,con_CastVA.eq_def,con_FitsVA.eq_def,con_One19.eq_def,con_ValueWay.eq_def,con_alive19.eq_def,con_given19.eq_def,Zb,Zc,Zd,Ze,Zf,Zo,Zp,Zq,Zr,Zt,Zu,Zv,Zy,Z1,Z9,Qc,Qd,Qe,Qf,Ql,Qm,Qn,Qo,Qp,Qq,Qs,Q1,Q2,Q4,Q8,Jb,Jc,Jd,Je,Jf,Jg,Jh,Ji,Jj,Jk,Jl,Jw,J2,J3,J4,J5,J7,J8,Xa,Xb,Xc,Xd,Xe,Xg,Xm,Xn,Xr,Xs,Xu,X2,X4,X5,X9,Wa,Wd,Wf,Wg,Wh,Wl,Wr,Ws,Wt,Wu,Wv,Ww,Wx,Wy,Wz,W0,W3,W4,W5,W6,W7,W8,W9,Yd,Yh,Yn,Yo,Yw,Y5,Y6,Y7,Y8,Y9,Va,Vb,Vc,Vd,Ve,Vh,Vi,Vj,Vm,Vo,Vq,Vr,Vs,Vw,Vx,Vy,V3,V4,V5,V9,Uh,Uj,Uk,Ul,Ku,U3,Og,K7]
     tactic =>
      try simp only [Uy] at *
      try simp only [nc2] at *
      try simp (maxSteps := 4000000) only [hg,Hd,Ut,Uw,Uv,Uu,szV,Ur,Up,Us,Uo,szN,Uq,U1]
      repeat' (first | with_reducible assumption | with_reducible refine And.intro ?_ ?_ | intro _ | omega | (rw [Ux]; omega))
      all_goals first
        | exact hV'
        | exact hI
        | exact hA'
        | exact hB'
        | exact hS'
        | omega
        | skip)
  | true =>
  obtain ⟨g1, g2, ⟨x, hx, hvt⟩, g3⟩ := Dd hg
  obtain ⟨la, y, hy, py⟩ := Nu (g3 ⟨a⟩ (by simp))
  obtain ⟨lb, w, hw, pw⟩ := Nu (g3 ⟨b⟩ (by simp))
  obtain ⟨ls, r, hr, pr⟩ := Nu (g3 ⟨s⟩ (by simp))
  simp only at la lb ls hy hw hr
  have ov : OneV v x := ⟨hx, hvt.wf⟩
  have oy : OneN a y := ⟨hy, py.ty⟩
  have ow : OneN b w := ⟨hw, pw.ty⟩
  have oR : OneN s r := ⟨hr, pr.ty⟩
  have tx := ov.tree
  have ty := oy.tree
  have tw := ow.tree
  have tr := oR.tree
  have a7 : Tree7 a := by rw [hy]; exact Mb py
  have b7 : Tree7 b := by rw [hw]; exact Mb pw
  have s7 : Tree7 s := by rw [hr]; exact Mb pr
  have ap : plain3 a = true := by rw [hy]; exact py.2
  have bp : plain3 b = true := by rw [hw]; exact pw.2
  have sp : plain3 s = true := by rw [hr]; exact pr.2
  have sn := Tc hV'
  have iv := I1 hV'
  have ovx : ∃ x, OneV v x := ⟨_, ov⟩
  cases hb1 : agX true r w with
  | false =>
    (sym =>
     simp [hg,Hd,tx,ty,tw,tr,hb1,Kk,U6,U7,con4t.eq_def,Ut,Uw,Uv,Uu,szV,Ur,Up,Us,Uo,szN,Uq,G9,Hb,Ha,Hc,con_One19.eq_def,con_ValueWay.eq_def,con_alive19.eq_def,con_given19.eq_def,Zb,Zc,Zd,Ze,Zf,Zo,Zp,Zq,Zr,Zt,Zu,Zv,Zy,Z1,Z9,Qc,Qd,Qe,Qf,Ql,Qm,Qn,Qo,Qp,Qq,Qs,Q1,Q2,Q4,Q8,Jb,Jc,Jd,Je,Jf,Jg,Jh,Ji,Jj,Jk,Jl,Jw,J2,J3,J4,J5,J7,J8,Xa,Xb,Xc,Xd,Xe,Xg,Xm,Xn,Xr,Xs,Xu,X2,X4,X5,X9,Wa,Wd,Wf,Wg,Wh,Wl,Wr,Ws,Wt,Wu,Wv,Ww,Wx,Wy,Wz,W0,W3,W4,W5,W6,W7,W8,W9,Yd,Yh,Yn,Yo,Yw,Y5,Y6,Y7,Y8,Y9,Va,Vb,Vc,Vd,Ve,Vh,Vi,Vj,Vm,Vn,Vo,Vq,Vr,Vs,Vw,Vx,Vy,V3,V4,V5,V9,Uh,Ui,Uj,Uk,Ul,Ku,U3,Og,K7]
     tactic =>
      try simp only [Uy] at *
      try simp only [nc2] at *
      try simp (maxSteps := 4000000) only [hg,Hd,tx,ty,tw,tr,hb1,Kk,U6,U7,con4t.eq_def,Ut,Uw,Uv,Uu,szV,Ur,Up,Us,Uo,szN,Uq,U1]
      repeat' (first | with_reducible assumption | with_reducible refine And.intro ?_ ?_ | intro _ | omega | (rw [Ux]; omega))
      all_goals first
        | exact hI
        | omega
        | skip)
  | true =>
  cases hb2 : agX true w y with
  | false =>
    (sym =>
     simp [hg,Hd,tx,ty,tw,tr,hb1,hb2,Kk,U6,U7,con4t.eq_def,Ut,Uw,Uv,Uu,szV,Ur,Up,Us,Uo,szN,Uq,G9,Hb,Ha,Hc,con_One19.eq_def,con_ValueWay.eq_def,con_alive19.eq_def,con_given19.eq_def,Zb,Zc,Zd,Ze,Zf,Zo,Zp,Zq,Zr,Zt,Zu,Zv,Zy,Z1,Z9,Qc,Qd,Qe,Qf,Ql,Qm,Qn,Qo,Qp,Qq,Qs,Q1,Q2,Q4,Q8,Jb,Jc,Jd,Je,Jf,Jg,Jh,Ji,Jj,Jk,Jl,Jw,J2,J3,J4,J5,J7,J8,Xa,Xb,Xc,Xd,Xe,Xg,Xm,Xn,Xr,Xs,Xu,X2,X4,X5,X9,Wa,Wd,Wf,Wg,Wh,Wl,Wr,Ws,Wt,Wu,Wv,Ww,Wx,Wy,Wz,W0,W3,W4,W5,W6,W7,W8,W9,Yd,Yh,Yn,Yo,Yw,Y5,Y6,Y7,Y8,Y9,Va,Vb,Vc,Vd,Ve,Vh,Vi,Vj,Vm,Vn,Vo,Vq,Vr,Vs,Vw,Vx,Vy,V3,V4,V5,V9,Uh,Ui,Uj,Uk,Ul,Ku,U3,Og,K7]
     tactic =>
      try simp only [Uy] at *
      try simp only [nc2] at *
      try simp (maxSteps := 4000000) only [hg,Hd,tx,ty,tw,tr,hb1,hb2,Kk,U6,U7,con4t.eq_def,Ut,Uw,Uv,Uu,szV,Ur,Up,Us,Uo,szN,Uq,U1]
      repeat' (first | with_reducible assumption | with_reducible refine And.intro ?_ ?_ | intro _ | omega | (rw [Ux]; omega))
      all_goals first
        | exact hI
        | omega
        | skip)
  | true =>
  cases hf : fitsR x y with
  | false =>
    (sym =>
     simp [hg,Hd,tx,ty,tw,tr,hb1,hb2,hf,Kk,U6,U7,con4t.eq_def,Ut,Uw,Uv,Uu,szV,Ur,Up,Us,Uo,szN,Uq,G9,Hb,Ha,Hc,con_One19.eq_def,con_ValueWay.eq_def,con_alive19.eq_def,con_given19.eq_def,Zb,Zc,Zd,Ze,Zf,Zo,Zp,Zq,Zr,Zt,Zu,Zv,Zy,Z1,Z9,Qc,Qd,Qe,Qf,Ql,Qm,Qn,Qo,Qp,Qq,Qs,Q1,Q2,Q4,Q8,Jb,Jc,Jd,Je,Jf,Jg,Jh,Ji,Jj,Jk,Jl,Jw,J2,J3,J4,J5,J7,J8,Xa,Xb,Xc,Xd,Xe,Xg,Xm,Xn,Xr,Xs,Xu,X2,X4,X5,X9,Wa,Wd,Wf,Wg,Wh,Wl,Wr,Ws,Wt,Wu,Wv,Ww,Wx,Wy,Wz,W0,W3,W4,W5,W6,W7,W8,W9,Yd,Yh,Yn,Yo,Yw,Y5,Y6,Y7,Y8,Y9,Va,Vb,Vc,Vd,Ve,Vh,Vi,Vj,Vm,Vn,Vo,Vq,Vr,Vs,Vw,Vx,Vy,V3,V4,V5,V9,Uh,Ui,Uj,Uk,Ul,Ku,U3,Og,K7]
     tactic =>
      try simp only [Uy] at *
      try simp only [nc2] at *
      try simp (maxSteps := 4000000) only [hg,Hd,tx,ty,tw,tr,hb1,hb2,hf,Kk,U6,U7,con4t.eq_def,Ut,Uw,Uv,Uu,szV,Ur,Up,Us,Uo,szN,Uq,U1]
      repeat' (first | with_reducible assumption | with_reducible refine And.intro ?_ ?_ | intro _ | omega | (rw [Ux]; omega))
      all_goals first
        | exact hI
        | exact ovx
        | exact ⟨_, oy⟩
        | omega
        | skip)
  | true =>
  (sym =>
   simp [hg,Hd,tx,ty,tw,tr,hb1,hb2,hf,Kk,U6,U7,con4t.eq_def,Ut,Uw,Uv,Uu,szV,Ur,Up,Us,Uo,szN,Uq,G9,Hb,Ha,Hc,con_One19.eq_def,con_ValueWay.eq_def,con_alive19.eq_def,con_given19.eq_def,Zb,Zc,Zd,Ze,Zf,Zo,Zp,Zq,Zr,Zt,Zu,Zv,Zy,Z1,Z9,Qc,Qd,Qe,Qf,Ql,Qm,Qq,Qs,Q1,Q2,Q4,Q8,Jb,Jc,Jd,Je,Jf,Jg,Jh,Ji,Jj,Jl,Jw,J2,J3,J4,J5,J7,J8,Xa,Xb,Xc,Xd,Xe,Xg,Xm,Xn,Xr,Xs,Xu,X1,X2,X4,X5,X6,X7,Wa,Wd,Wf,Wg,Wh,Wl,Wr,Ws,Wt,Wu,Wv,Ww,Wx,Wy,Wz,W0,W3,W4,W5,W6,W7,W8,W9,Yd,Yh,Yn,Yo,Yw,Y5,Y6,Y7,Y8,Y9,Va,Vb,Vc,Vd,Ve,Vh,Vi,Vj,Vm,Vn,Vq,Vr,Vs,Vw,Vx,Vy,V3,V4,V5,V9,Ui,Uj,Uk,Ul,Ku,U3,Og,K7]
   tactic =>
    try simp only [Uy] at *
    try simp only [nc2] at *
    try simp (maxSteps := 4000000) only [hg,Hd,tx,ty,tw,tr,hb1,hb2,hf,Kk,U6,U7,con4t.eq_def,Ut,Uw,Uv,Uu,szV,Ur,Up,Us,Uo,szN,Uq,U1]
    repeat' (first | with_reducible assumption | with_reducible refine And.intro ?_ ?_ | intro _ | omega | (rw [Ux]; omega))
    · exact ⟨_, oy⟩
    refine Ke [4, 46, 47, 48, 49, 50, 51, 52, 53, 54, 55, 56, 57, 58, 59, 60, 61, 62, 63, 64, 65, 66] (fun k : Nat => [(5, .d (.int .i64 k))]) (fun k : Nat => []) (fun k : Nat => k ≤ v.length ∧ ∀ j, j < k → ¬ (v.getD j v0).kind = 6 ∧ ¬ (v.getD j v0).kind = 7) (fun k : Nat => v.length - k) 0 ?_ ?_ ?_
    · simp
    · ((try simp only [Uz, killAll, setSlots, updAll, upd, U9, setCs, putC, Nat.reduceDiv, Nat.reduceMod, Nat.reduceMul, Nat.reduceAdd, Nat.reduceEqDiff, List.set_cons_zero, List.set_cons_succ, if_true, if_false, reduceIte]); (first | refine Wk.of_fl ?_ | skip); simp only [Wk, wkK, wkCs, wkT, wk1, AV.kept, keptAll, wkO, lk, wkObj, and_true, true_and, and_self, Nat.reduceEqDiff, Nat.reduceLeDiff, if_true, if_false, reduceIte, reduceCtorEq, Option.isSome, false_implies]; try simp [Wk, wkK, wkT, wk1, AV.kept, keptAll, wkO, lk, wkObj])
    rintro k ⟨hk, hno⟩
    rcases Kf k v.length with ⟨hlt, hlb⟩ | ⟨hlt, hlb⟩
    · have q1 := U8 v0 hlt
      have hst : ¬ (v.getD k v0).kind = 6 → ¬ (v.getD k v0).kind = 7 → ∀ j, j < k + 1 → ¬ (v.getD j v0).kind = 6 ∧ ¬ (v.getD j v0).kind = 7 := by
        intro h1 h2 j hj
        by_cases hjk : j = k
        · subst hjk; exact ⟨h1, h2⟩
        · exact hno j (by omega)
      obtain ⟨m, hm⟩ : ∃ m, v.getD k v0 = m := ⟨_, rfl⟩
      rw [hm] at q1 hst
      (sym =>
       simp [hlb,q1,Ut,Uw,Uv,Uu,szV,Ur,Up,Us,Uo,szN,Uq,G9,Hb,Ha,Hc,ctx_ValueWay_w,con_Below7A.eq_def,con_CastVA.eq_def,con_FitsVA.eq_def,con_One19.eq_def,con_alive19.eq_def,con_given19.eq_def,Zb,Zc,Zd,Ze,Zf,Zg,Zo,Zp,Zq,Zs,Zt,Zv,Zx,Zy,Z6,Z9,Qb,Qd,Qe,Qf,Qn,Qo,Qp,Qq,Qs,Q1,Q2,Q4,Q8,Jf,Jj,Jk,Jl,Jx,Jy,Jz,J4,J5,J7,J8,Xa,Xb,Xe,Xs,Xu,X1,X2,X4,X5,X6,X9,Wa,Wd,Wf,Wg,Wh,Wr,Ws,Wt,Wu,Wv,Wx,Wy,W6,W7,W8,W9,Yb,Yc,Yg,Yk,Yr,Yu,Yw,Yy,Yz,Y5,Y6,Vp,Vr,Vs,V4,V5,Uh,Ui,Uj,Uk,Ul,Um,U2,Kc,Kd]
       tactic =>
        try simp only [Uy] at *
        try simp only [nc2] at *
        try simp (maxSteps := 4000000) only [hlb,q1,Ut,Uw,Uv,Uu,szV,Ur,Up,Us,Uo,szN,Uq,U1]
        repeat' (first | with_reducible assumption | with_reducible refine And.intro ?_ ?_ | intro _ | omega | (rw [Ux]; omega))
        all_goals first
          | omega
          | exact ⟨k + 1, by ((try simp only [Uz, killAll, setSlots, updAll, upd, U9, setCs, putC, Nat.reduceDiv, Nat.reduceMod, Nat.reduceMul, Nat.reduceAdd, Nat.reduceEqDiff, List.set_cons_zero, List.set_cons_succ, if_true, if_false, reduceIte]); (first | refine Wk.of_fl ?_ | skip); simp only [Wk, wkK, wkCs, wkT, wk1, AV.kept, keptAll, wkO, lk, wkObj, and_true, true_and, and_self, Nat.reduceEqDiff, Nat.reduceLeDiff, if_true, if_false, reduceIte, reduceCtorEq, Option.isSome, false_implies]; try simp [Wk, wkK, wkT, wk1, AV.kept, keptAll, wkO, lk, wkObj]), by omega, hst (by assumption) (by assumption), by omega⟩
          | trivial
          | skip)
    · have hnf : NoFun x := noFun_of hx fun j hj => hno j (by omega)
      have hov : oneV v v = true := D2 v
      have hox : optX (some x) = (⟨v⟩, true) := by rw [N6, ← hx]
      have hryt : agX true r y = true := by
        unfold agX at *
        exact ov_trans hb1 hb2
      have hyr : agX false y r = true := by rw [ag_comm py pr]; exact Ds pr.1.wf py.1.wf hryt
      have hyw : agX false y w = true := by rw [ag_comm py pw]; exact Ds pw.1.wf py.1.wf hb2
      have hwr : agX false w r = true := by rw [ag_comm pw pr]; exact Ds pr.1.wf pw.1.wf hb1
      have hfw : ∀ z, castR 7 x y w = some z → fitsR x w = true := fun z hz => by
        have h1 := Pg _ (Nat.le_refl _) hnf hz
        have h2 := (Lw (by decide) _ (Nat.le_refl _) hvt.wf hvt.ok py pw hyw hf hz).1
        rw [h1] at h2
        exact h2
      have hfr : ∀ z, castR 7 x y r = some z → fitsR x r = true := fun z hz => by
        have h1 := Pg _ (Nat.le_refl _) hnf hz
        have h2 := (Lw (by decide) _ (Nat.le_refl _) hvt.wf hvt.ok py pr hyr hf hz).1
        rw [h1] at h2
        exact h2
      cases hq : castR 7 x y w with
      | none =>
        have hp : castR 7 x y r = none := by
          cases hp : castR 7 x y r with
          | none => rfl
          | some z =>
            have h1 := Fk _ (Nat.le_refl _) hnf hvt.wf pr pw hb1 (hfr z hp)
            rw [Lx _ (Nat.le_refl _) hnf hf h1] at hq
            cases hq
        (sym =>
         simp [hlb,Hd,tx,ty,tw,tr,hq,hp,N7,U6,U7,con4t.eq_def,Ut,Uw,Uv,Uu,szV,Ur,Up,Us,Uo,szN,Uq,G9,Hb,Ha,Hc,con_Below7A.eq_def,con_One19.eq_def,con_alive19.eq_def,con_given19.eq_def,Zb,Zc,Zd,Ze,Zf,Zg,Zo,Zp,Zq,Zt,Zv,Zy,Z6,Z8,Z9,Qb,Qc,Qd,Qe,Qf,Qg,Qm,Qn,Qo,Qp,Qq,Qs,Q1,Q2,Q4,Q8,Q9,Ja,Jf,Jh,Jj,Jk,Jl,Jx,Jy,Jz,J4,J5,J7,J8,Xa,Xb,Xe,Xs,Xu,X1,X2,X4,X5,X8,X9,Wa,Wd,Wf,Wg,Wh,Wr,Ws,Wt,Wu,Wv,Wx,Wy,W4,W5,W6,W7,W8,W9,Yb,Yc,Yd,Yg,Yh,Yw,Yy,Yz,Y5,Y6,Vf,Vh,Vi,Vj,Vk,Vm,Vo,Vq,Vr,Vs,Vw,Vx,Vy,V4,V5,Uh,Ui,Uj,Uk,Ul,Um,U2,Ku,U3,Kc,Og,Kd]
         tactic =>
          try simp only [Uy] at *
          try simp only [nc2] at *
          try simp (maxSteps := 4000000) only [hlb,Hd,tx,ty,tw,tr,hq,hp,N7,U6,U7,con4t.eq_def,Ut,Uw,Uv,Uu,szV,Ur,Up,Us,Uo,szN,Uq,U1]
          repeat' (first | with_reducible assumption | with_reducible refine And.intro ?_ ?_ | intro _ | omega | (rw [Ux]; omega))
          all_goals first
            | exact ovx
            | exact ⟨_, oy⟩
            | exact ⟨_, ow⟩
            | exact ⟨_, oR⟩
            | omega
            | skip)
      | some z =>
        have hzx := Pg _ (Nat.le_refl _) hnf hq
        have h1 := hfw z hq
        rw [hzx] at hq
        cases hp : castR 7 x y r with
        | none =>
          have hrr : castR 7 x w r = none := by
            cases hrr : castR 7 x w r with
            | none => rfl
            | some z2 =>
              have h2 := Pg _ (Nat.le_refl _) hnf hrr
              have h3 := (Lw (by decide) _ (Nat.le_refl _) hvt.wf hvt.ok pw pr hwr h1 hrr).1
              rw [h2] at h3
              rw [Lx _ (Nat.le_refl _) hnf hf h3] at hp
              cases hp
          (sym =>
           simp [hlb,Hd,tx,ty,tw,tr,hq,hp,hrr,hox,N7,U6,U7,con4t.eq_def,Ut,Uw,Uv,Uu,szV,Ur,Up,Us,Uo,szN,Uq,G9,Hb,Ha,Hc,con_Below7A.eq_def,con_One19.eq_def,con_alive19.eq_def,con_given19.eq_def,Zb,Zc,Zd,Ze,Zf,Zg,Zo,Zp,Zq,Zt,Zv,Zy,Z6,Z8,Z9,Qb,Qc,Qd,Qe,Qf,Qg,Qm,Qn,Qo,Qp,Qq,Qs,Q1,Q2,Q4,Q8,Q9,Ja,Jf,Jh,Jj,Jk,Jl,Jx,Jy,Jz,J4,J5,J6,J7,J8,J9,Xa,Xb,Xe,Xs,Xu,X1,X2,X4,X5,X8,X9,Wa,Wd,Wf,Wg,Wh,Wr,Ws,Wt,Wu,Wv,Wx,Wy,W4,W5,W6,W7,W8,W9,Yb,Yc,Yd,Yg,Yh,Yw,Yy,Yz,Y5,Y6,Y7,Y8,Vf,Vh,Vi,Vj,Vk,Vm,Vn,Vo,Vq,Vr,Vs,Vw,Vx,Vy,V4,V5,Uh,Ui,Uj,Uk,Ul,Um,U2,Ku,U3,Kc,Og,Kd]
           tactic =>
            try simp only [Uy] at *
            try simp only [nc2] at *
            try simp (maxSteps := 4000000) only [hlb,Hd,tx,ty,tw,tr,hq,hp,hrr,hox,N7,U6,U7,con4t.eq_def,Ut,Uw,Uv,Uu,szV,Ur,Up,Us,Uo,szN,Uq,U1]
            repeat' (first | with_reducible assumption | with_reducible refine And.intro ?_ ?_ | intro _ | omega | (rw [Ux]; omega))
            all_goals first
              | exact ovx
              | exact ⟨_, oy⟩
              | exact ⟨_, ow⟩
              | exact ⟨_, oR⟩
              | omega
              | skip)
        | some z2 =>
          have h2 := Pg _ (Nat.le_refl _) hnf hp
          have h3 := hfr z2 hp
          rw [h2] at hp
          have hrr := Lx (lab := 7) _ (Nat.le_refl _) hnf h1 h3
          (sym =>
           simp [hlb,Hd,tx,ty,tw,tr,hq,hp,hrr,hox,hov,U6,U7,con4t.eq_def,Ut,Uw,Uv,Uu,szV,Ur,Up,Us,Uo,szN,Uq,G9,Hb,Ha,Hc,con_Below7A.eq_def,con_One19.eq_def,con_alive19.eq_def,con_given19.eq_def,Zb,Zc,Zd,Ze,Zf,Zg,Zo,Zp,Zq,Zt,Zv,Zy,Z6,Z8,Z9,Qb,Qc,Qd,Qe,Qf,Qg,Qm,Qn,Qo,Qp,Qq,Qs,Q1,Q2,Q4,Q8,Q9,Ja,Jf,Jh,Jj,Jk,Jl,Jx,Jy,Jz,J4,J5,J6,J7,J8,J9,Xa,Xb,Xe,Xs,Xu,X1,X2,X4,X5,X8,X9,Wa,Wd,Wf,Wg,Wh,Wr,Ws,Wt,Wu,Wv,Wx,Wy,W4,W5,W6,W7,W8,W9,Yb,Yc,Yd,Yg,Yh,Yw,Yy,Yz,Y5,Y6,Y7,Y8,Vf,Vh,Vi,Vj,Vk,Vm,Vn,Vq,Vr,Vs,Vw,Vx,Vy,V4,V5,Uh,Ui,Uj,Uk,Ul,Um,U2,Ku,U3,Kc,Og,Kd]
           tactic =>
            try simp only [Uy] at *
            try simp only [nc2] at *
            try simp (maxSteps := 4000000) only [hlb,Hd,tx,ty,tw,tr,hq,hp,hrr,hox,hov,U6,U7,con4t.eq_def,Ut,Uw,Uv,Uu,szV,Ur,Up,Us,Uo,szN,Uq,U1]
            repeat' (first | with_reducible assumption | with_reducible refine And.intro ?_ ?_ | intro _ | omega | (rw [Ux]; omega))
            all_goals first
              | exact ovx
              | exact ⟨_, oy⟩
              | exact ⟨_, ow⟩
              | exact ⟨_, oR⟩
              | exact iv
              | omega
              | skip))
end Go.Am.Ty
set_option linter.unusedSimpArgs false
set_option linter.unusedVariables false
set_option maxHeartbeats 2000000
namespace Go.Am.Ty
open Go.Proofs Go.Rose Go.Rose.Rose
open Enc (enc dec)
def bareB (m : VNode) : Bool := m.kind != 7 && (m.kind != 6 || m.num == 0)
theorem bareB_iff {m : VNode} : bareB m = true ↔ bareN m := by
  unfold bareB bareN
  rw [Bool.and_eq_true, Bool.or_eq_true, bne_iff_ne, bne_iff_ne, beq_iff_eq]
  refine and_congr_right fun _ => ?_
  constructor
  · rintro (h | h) h6
    · exact absurd h6 h
    · exact h
  · intro h
    by_cases h6 : m.kind = 6
    · exact .inr (h h6)
    · exact .inl h6
theorem bare_one {v : List VNode} {x : Rose VNode} (hx : v = nds x) (hv : VT x) : (List.range v.length).all (fun j => bareB (v.getD j v0)) = oneV (nds (plainR x)) v := by
  rw [Bool.eq_iff_iff, Gq]
  unfold oneV
  rw [decide_eq_true_eq]
  have hpb := plain_bare _ (Nat.le_refl _) hv.wf hv.ok
  have hpo := plain_ok _ (Nat.le_refl _) hv.wf hv.ok
  constructor
  · intro h
    have : plainR x = x := hpb.2 fun m hm => by
      rw [← hx] at hm
      obtain ⟨j, hj, rfl⟩ := List.getElem_of_mem hm
      have := h j hj
      rw [N1 hj] at this
      exact bareB_iff.1 this
    rw [this, hx]
  · intro h j hj
    rw [hx] at h
    have he : plainR x = x := (nds_inj (r := []) (s := []) hpo.1 hv.wf (by rw [h])).1
    rw [bareB_iff]
    refine hpb.1 he _ ?_
    rw [← hx]
    exact M3 hj
theorem plain_vt {x : Rose VNode} (hv : VT x) : VT (plainR x) := by
  obtain ⟨h1, h2⟩ := plain_ok _ (Nat.le_refl _) hv.wf hv.ok
  exact ⟨h1, Nat.le_trans (D1 x) hv.len, by rw [Oo]; exact hv.name, h2⟩
def con_ValuePlain : Con := con3 (fun (v : Sl VNode) (t u : Sl Node) => InVal v.l ∧ In t.l ∧ In u.l) (fun _ _ _ => true)
noncomputable def ctx_ValuePlain : Ctx := ⟨tab, lkC [(32, con_given19), (29, con_Right19), (33, con_Agree7A), (34, con_FitsVA), (27, con_alive19), (35, con_CastVA), (39, con_PlainVA), (37, con_One19), (17, con_Same3)], 60, lkB [], [], false⟩
theorem Gg : ctx_ValuePlain.τ = tab := rfl
theorem H9 : ctx_ValuePlain.Γ = lkC [(32, con_given19), (29, con_Right19), (33, con_Agree7A), (34, con_FitsVA), (27, con_alive19), (35, con_CastVA), (39, con_PlainVA), (37, con_One19), (17, con_Same3)] := rfl
theorem H8 : ctx_ValuePlain.dp = 60 := rfl
theorem Na : ctx_ValuePlain.Δ = lkB [] := rfl
theorem Nx : ctx_ValuePlain.wr = false := rfl
set_option maxRecDepth 100000 in
theorem good_ValuePlain : Good Try.prog (13, con_ValuePlain) := by
  refine ⟨U0 Try.func13 (by kernel_rfl) rfl, ?_⟩
  have K : CtxOk Try.prog ctx_ValuePlain := U4 Ki Ka (by
    intro p hp
    simp only [List.mem_cons, List.not_mem_nil, or_false] at hp
    rcases hp with rfl | rfl | rfl | rfl | rfl | rfl | rfl | rfl | rfl
    · exact Pv
    · exact Ce
    · exact B9
    · exact Pm
    · exact Mp
    · exact Pn
    · exact R7
    · exact Cf
    · exact Cd) (by simp)
  obtain ⟨c, hc⟩ : ∃ c, Try.f13.body = some c := ⟨_, rfl⟩
  refine U5 K Try.func13 hc [.tmp 6] rfl 131 rfl (fun cvs hpre => ?_)
  change con_ValuePlain.pre cvs at hpre
  unfold con_ValuePlain at hpre
  obtain ⟨⟨v⟩, ⟨t⟩, ⟨u⟩, rfl, hV, hT, hU⟩ := P3 hpre
  have hV' : InVal v := hV
  have ⟨t1, t2⟩ : In t := hT
  have ⟨u1, u2⟩ : In u := hU
  have hI := in2 hT hU
  have hT' : In t := hT
  have hU' : In u := hU
  clear hpre
  simp only [Try.f13, Option.some.injEq] at hc
  subst hc
  refine Kl 8 (of_decide_eq_true (by kernel_rfl)) ?_
  cases hg : givenB v [⟨t⟩, ⟨u⟩] with
  | false =>
    (sym =>
     simp [hg,Ut,Uw,Uv,Uu,szV,Ur,Up,Us,Uo,szN,Uq,Gg,H9,H8,Na,con_Agree7A.eq_def,con_CastVA.eq_def,con_FitsVA.eq_def,con_One19.eq_def,con_PlainVA.eq_def,con_Right19.eq_def,con_Same3.eq_def,con_ValuePlain.eq_def,con_alive19.eq_def,con_given19.eq_def,Zb,Zc,Ze,Zf,Zo,Zr,Z1,Z9,Qc,Qd,Qe,Qf,Qn,Qo,Qp,Qq,Qs,Q1,Q2,Q4,Q8,Jb,Jc,Jd,Je,Jf,Jg,Jh,Ji,Jj,Jk,Jl,Jw,J2,J3,J4,J5,J7,J8,Xa,Xb,Xc,Xd,Xe,Xg,Xm,Xn,Xs,Xt,Xu,Xv,X2,X4,X5,X9,Wa,Wd,Wf,Wg,Wh,Wl,Wr,Ws,Wt,Wu,Wv,Ww,Wx,Wy,Wz,W0,W3,W4,W5,W8,W9,Yd,Yh,Yw,Y0,Y5,Y6,Y7,Y8,Y9,Va,Vb,Vc,Vd,Ve,Vh,Vi,Vm,Vo,Vr,Vs,V3,V5,V9,Uh,Uj,Uk,Ul,Ku,U3,K7]
     tactic =>
      try simp only [Uy] at *
      try simp only [nc2] at *
      try simp (maxSteps := 4000000) only [hg,Ut,Uw,Uv,Uu,szV,Ur,Up,Us,Uo,szN,Uq,U1]
      repeat' (first | with_reducible assumption | with_reducible refine And.intro ?_ ?_ | intro _ | omega | (rw [Ux]; omega))
      all_goals first
        | exact hV'
        | exact hI
        | exact hT'
        | exact hU'
        | omega
        | skip)
  | true =>
  obtain ⟨g1, g2, ⟨x, hx, hvt⟩, g3⟩ := Dd hg
  obtain ⟨lt, y, hy, py⟩ := Nu (g3 ⟨t⟩ (by simp))
  obtain ⟨lu, w, hw, pw⟩ := Nu (g3 ⟨u⟩ (by simp))
  simp only at lt lu hy hw
  have ov : OneV v x := ⟨hx, hvt.wf⟩
  have oy : OneN t y := ⟨hy, py.ty⟩
  have ow : OneN u w := ⟨hw, pw.ty⟩
  have tx := ov.tree
  have ty := oy.tree
  have tw := ow.tree
  have t7 : Tree7 t := by rw [hy]; exact Mb py
  have u7 : Tree7 u := by rw [hw]; exact Mb pw
  have tp : plain3 t = true := by rw [hy]; exact py.2
  have up : plain3 u = true := by rw [hw]; exact pw.2
  have gn := Dc hV' g2
  have sn := Tc hV'
  have iv := I1 hV'
  have ovx : ∃ x, OneV v x := ⟨_, ov⟩
  have vp := plain_vt hvt
  have hbo := bare_one hx hvt
  have hpp := Om _ (Nat.le_refl (nds x).length)
  have gp := plain_good _ (Nat.le_refl _) (by rw [← hx]; exact gn)
  have lp := D1 x
  have lp0 := plain_pos x
  rw [← hx] at lp
  have hpc : ∀ z, castR 7 x y w = some z → plainR z = plainR x := fun z hz => plain_cast _ (Nat.le_refl _) hz
  obtain ⟨P, hP⟩ : ∃ P, plainR x = P := ⟨_, rfl⟩
  rw [hP] at vp hbo hpp gp lp lp0
  have oP : OneV (nds P) P := ⟨rfl, vp.wf⟩
  have tP := oP.tree
  have ovP : ∃ x, OneV (nds P) x := ⟨_, oP⟩
  have rP : right19 (nds P) = true := Bn.2 ⟨P, rfl, vp⟩
  have iP : InV (nds P) := ⟨by omega, fun m hm => Rd (gp m hm)⟩
  have ho : oneV (nds P) (nds P) = true := D2 _
  have e0 : (((nds P).length : Int) == 0) = false := by rw [beq_eq_false_iff_ne]; omega
  have e1 : ltB (v.length : Int) ((nds P).length : Int) = false := by rw [Gn]; omega
  have e2 : ltB 0 ((nds P).length : Int) = true := by rw [G4]; omega
  (sym =>
   simp [hg,tx,hP,tP,rP,hpp,ho,e0,e1,Kg,U6,U7,Kw,con4t.eq_def,Ut,Uw,Uv,Uu,szV,Ur,Up,Us,Uo,szN,Uq,Gg,H9,H8,Na,con_One19.eq_def,con_Right19.eq_def,con_Same3.eq_def,con_ValuePlain.eq_def,con_alive19.eq_def,con_given19.eq_def,Zb,Zc,Zd,Ze,Zf,Zo,Zr,Zt,Z1,Z6,Z9,Qb,Qc,Qd,Qe,Qf,Qq,Qs,Q1,Q2,Q4,Q8,Jb,Jc,Jd,Je,Jf,Jg,Jh,Ji,Jj,Jl,Jw,J2,J3,J4,J5,J7,J8,Xa,Xb,Xc,Xd,Xe,Xg,Xm,Xn,Xs,Xt,Xu,Xv,X1,X2,X4,X5,X6,X7,Wa,Wd,Wf,Wg,Wh,Wl,Wr,Ws,Wt,Wu,Wv,Ww,Wx,Wy,Wz,W0,W3,W4,W5,W6,W7,W8,W9,Yc,Yd,Yg,Yh,Yw,Yy,Yz,Y0,Y5,Y6,Y7,Y8,Y9,Va,Vb,Vc,Vd,Ve,Vh,Vi,Vm,Vn,Vr,Vs,V3,V4,V5,V9,Ui,Uj,Uk,Ul,Um,U2,Ku,U3,Kc,Kd,K7]
   tactic =>
    try simp only [Uy] at *
    try simp only [nc2] at *
    try simp (maxSteps := 4000000) only [hg,tx,hP,tP,rP,hpp,ho,e0,e1,Kg,U6,U7,Kw,con4t.eq_def,Ut,Uw,Uv,Uu,szV,Ur,Up,Us,Uo,szN,Uq,U1]
    repeat' (first | with_reducible assumption | with_reducible refine And.intro ?_ ?_ | intro _ | omega | (rw [Ux]; omega))
    refine Ke [43, 44, 45, 46, 47, 48, 49, 50, 51, 52, 53, 54, 55, 56, 57, 58, 59, 60, 61, 62, 63, 64, 65, 66, 67, 68, 69, 70, 71, 72, 73] (fun q : Nat × Bool => [(8, .d (.bool q.2)), (9, .d (.int .i64 q.1))]) (fun q : Nat × Bool => []) (fun q : Nat × Bool => q.1 ≤ v.length ∧ q.2 = (List.range q.1).all (fun j => bareB (v.getD j v0))) (fun q : Nat × Bool => v.length - q.1) (0, true) ?_ ?_ ?_
    · exact ⟨Nat.zero_le _, rfl⟩
    · ((try simp only [Uz, killAll, setSlots, updAll, upd, U9, setCs, putC, Nat.reduceDiv, Nat.reduceMod, Nat.reduceMul, Nat.reduceAdd, Nat.reduceEqDiff, List.set_cons_zero, List.set_cons_succ, if_true, if_false, reduceIte]); (first | refine Wk.of_fl ?_ | skip); simp only [Wk, wkK, wkCs, wkT, wk1, AV.kept, keptAll, wkO, lk, wkObj, and_true, true_and, and_self, Nat.reduceEqDiff, Nat.reduceLeDiff, if_true, if_false, reduceIte, reduceCtorEq, Option.isSome, false_implies]; try simp [Wk, wkK, wkT, wk1, AV.kept, keptAll, wkO, lk, wkObj])
    rintro ⟨k, b⟩ ⟨hk, hb⟩
    simp only at hk hb
    rcases Kf k v.length with ⟨hlt, hlb⟩ | ⟨hlt, hlb⟩
    · have q1 := U8 v0 hlt
      have g5 := L6 (p := fun j => bareB (v.getD j v0)) (k := k)
      rw [← hb] at g5
      try simp only at g5
      obtain ⟨m, hm⟩ : ∃ m, v.getD k v0 = m := ⟨_, rfl⟩
      rw [hm] at q1 g5
      unfold bareB at g5
      cases b with
      | false =>
        rw [Bool.false_and] at g5
        (sym =>
         simp [hlb,q1,Ut,Uw,Uv,Uu,szV,Ur,Up,Us,Uo,szN,Uq,Gg,Nx,Zb,Zc,Zd,Ze,Zf,Zg,Zo,Zt,Z6,Qb,Qd,Qq,Qs,Q1,Q2,Q4,Jx,Jy,Jz,J4,J5,J7,J8,Xa,Xb,X1,X2,X4,X5,X6,Wa,Wd,Wf,Wg,Wh,Wr,Ws,Wt,Wu,W6,W7,W8,W9,Yb,Yc,Yg,Yy,Yz,Y5,Y6,Vr,Vs,V4,V5,Uh,Ui,Uj,Uk,Ul,Um,U2,Kc,Kd]
         tactic =>
          try simp only [Uy] at *
          try simp only [nc2] at *
          try simp (maxSteps := 4000000) only [hlb,q1,Ut,Uw,Uv,Uu,szV,Ur,Up,Us,Uo,szN,Uq,U1]
          repeat' (first | with_reducible assumption | with_reducible refine And.intro ?_ ?_ | intro _ | omega | (rw [Ux]; omega))
          all_goals first
            | omega
            | exact ⟨(k + 1, false), by ((try simp only [Uz, killAll, setSlots, updAll, upd, U9, setCs, putC, Nat.reduceDiv, Nat.reduceMod, Nat.reduceMul, Nat.reduceAdd, Nat.reduceEqDiff, List.set_cons_zero, List.set_cons_succ, if_true, if_false, reduceIte]); (first | refine Wk.of_fl ?_ | skip); simp only [Wk, wkK, wkCs, wkT, wk1, AV.kept, keptAll, wkO, lk, wkObj, and_true, true_and, and_self, Nat.reduceEqDiff, Nat.reduceLeDiff, if_true, if_false, reduceIte, reduceCtorEq, Option.isSome, false_implies]; try simp [Wk, wkK, wkT, wk1, AV.kept, keptAll, wkO, lk, wkObj]), by simp only; omega, g5.symm, by simp only; omega⟩
            | skip)
      | true =>
        rw [Bool.true_and] at g5
        cases n7 : (m.kind != 7) with
        | false =>
          rw [n7, Bool.false_and] at g5
          (sym =>
           simp [hlb,q1,n7,Ut,Uw,Uv,Uu,szV,Ur,Up,Us,Uo,szN,Uq,Gg,Nx,Zb,Zc,Zd,Ze,Zf,Zg,Zo,Zp,Zq,Zs,Zt,Zv,Zx,Zy,Z6,Qb,Qd,Qq,Qs,Q1,Q2,Q4,Jx,Jy,Jz,J4,J5,J7,J8,Xa,Xb,X1,X2,X4,X5,X6,Wa,Wd,Wf,Wg,Wh,Wr,Ws,Wt,Wu,W6,W7,W8,W9,Yb,Yc,Yg,Yk,Yr,Yu,Yy,Yz,Y5,Y6,Vp,Vr,Vs,V4,V5,Uh,Ui,Uj,Uk,Ul,Um,U2,Kc,Kd]
           tactic =>
            try simp only [Uy] at *
            try simp only [nc2] at *
            try simp (maxSteps := 4000000) only [hlb,q1,n7,Ut,Uw,Uv,Uu,szV,Ur,Up,Us,Uo,szN,Uq,U1]
            repeat' (first | with_reducible assumption | with_reducible refine And.intro ?_ ?_ | intro _ | omega | (rw [Ux]; omega))
            all_goals first
              | omega
              | exact ⟨(k + 1, false), by ((try simp only [Uz, killAll, setSlots, updAll, upd, U9, setCs, putC, Nat.reduceDiv, Nat.reduceMod, Nat.reduceMul, Nat.reduceAdd, Nat.reduceEqDiff, List.set_cons_zero, List.set_cons_succ, if_true, if_false, reduceIte]); (first | refine Wk.of_fl ?_ | skip); simp only [Wk, wkK, wkCs, wkT, wk1, AV.kept, keptAll, wkO, lk, wkObj, and_true, true_and, and_self, Nat.reduceEqDiff, Nat.reduceLeDiff, if_true, if_false, reduceIte, reduceCtorEq, Option.isSome, false_implies]; try simp [Wk, wkK, wkT, wk1, AV.kept, keptAll, wkO, lk, wkObj]), by simp only; omega, g5.symm, by simp only; omega⟩
              | skip)
        | true =>
          rw [n7, Bool.true_and] at g5
          cases n6 : (m.kind != 6) with
          | true =>
            rw [n6, Bool.true_or] at g5
            (sym =>
             simp [hlb,q1,n7,n6,Ut,Uw,Uv,Uu,szV,Ur,Up,Us,Uo,szN,Uq,Gg,Nx,Zb,Zc,Zd,Ze,Zf,Zg,Zo,Zp,Zq,Zs,Zt,Zv,Zx,Zy,Z6,Qb,Qd,Qq,Qs,Q1,Q2,Q4,Jx,Jy,Jz,J4,J5,J7,J8,Xa,Xb,X1,X2,X4,X5,X6,Wa,Wd,Wf,Wg,Wh,Wr,Ws,Wt,Wu,W6,W7,W8,W9,Yb,Yc,Yg,Yk,Yr,Yu,Yy,Yz,Y5,Y6,Vp,Vr,Vs,V4,V5,Uh,Uj,Uk,Ul,Um,U2,Kc,Kd]
             tactic =>
              try simp only [Uy] at *
              try simp only [nc2] at *
              try simp (maxSteps := 4000000) only [hlb,q1,n7,n6,Ut,Uw,Uv,Uu,szV,Ur,Up,Us,Uo,szN,Uq,U1]
              repeat' (first | with_reducible assumption | with_reducible refine And.intro ?_ ?_ | intro _ | omega | (rw [Ux]; omega))
              all_goals first
                | omega
                | exact ⟨(k + 1, true), by ((try simp only [Uz, killAll, setSlots, updAll, upd, U9, setCs, putC, Nat.reduceDiv, Nat.reduceMod, Nat.reduceMul, Nat.reduceAdd, Nat.reduceEqDiff, List.set_cons_zero, List.set_cons_succ, if_true, if_false, reduceIte]); (first | refine Wk.of_fl ?_ | skip); simp only [Wk, wkK, wkCs, wkT, wk1, AV.kept, keptAll, wkO, lk, wkObj, and_true, true_and, and_self, Nat.reduceEqDiff, Nat.reduceLeDiff, if_true, if_false, reduceIte, reduceCtorEq, Option.isSome, false_implies]; try simp [Wk, wkK, wkT, wk1, AV.kept, keptAll, wkO, lk, wkObj]), by simp only; omega, g5.symm, by simp only; omega⟩
                | skip)
          | false =>
            rw [n6, Bool.false_or] at g5
            cases nn : (m.num == 0) with
            | false =>
              rw [nn] at g5
              (sym =>
               simp [hlb,q1,n7,n6,nn,Ut,Uw,Uv,Uu,szV,Ur,Up,Us,Uo,szN,Uq,Gg,Nx,Zb,Zc,Zd,Ze,Zf,Zg,Zo,Zp,Zq,Zs,Zt,Zv,Zx,Zy,Z6,Qb,Qd,Qq,Qs,Q1,Q2,Q4,Jx,Jy,Jz,J4,J5,J7,J8,Xa,Xb,X1,X2,X4,X5,X6,Wa,Wd,Wf,Wg,Wh,Wr,Ws,Wt,Wu,W6,W7,W8,W9,Yb,Yc,Yg,Yk,Yr,Yu,Yy,Yz,Y5,Y6,Vp,Vr,Vs,V4,V5,Uh,Ui,Uj,Uk,Ul,Um,tab2,U2,Kc,Kd]
               tactic =>
                try simp only [Uy] at *
                try simp only [nc2] at *
                try simp (maxSteps := 4000000) only [hlb,q1,n7,n6,nn,Ut,Uw,Uv,Uu,szV,Ur,Up,Us,Uo,szN,Uq,U1]
                repeat' (first | with_reducible assumption | with_reducible refine And.intro ?_ ?_ | intro _ | omega | (rw [Ux]; omega))
                all_goals first
                  | omega
                  | exact ⟨(k + 1, false), by ((try simp only [Uz, killAll, setSlots, updAll, upd, U9, setCs, putC, Nat.reduceDiv, Nat.reduceMod, Nat.reduceMul, Nat.reduceAdd, Nat.reduceEqDiff, List.set_cons_zero, List.set_cons_succ, if_true, if_false, reduceIte]); (first | refine Wk.of_fl ?_ | skip); simp only [Wk, wkK, wkCs, wkT, wk1, AV.kept, keptAll, wkO, lk, wkObj, and_true, true_and, and_self, Nat.reduceEqDiff, Nat.reduceLeDiff, if_true, if_false, reduceIte, reduceCtorEq, Option.isSome, false_implies]; try simp [Wk, wkK, wkT, wk1, AV.kept, keptAll, wkO, lk, wkObj]), by simp only; omega, g5.symm, by simp only; omega⟩
                  | skip)
            | true =>
              rw [nn] at g5
              (sym =>
               simp [hlb,q1,n7,n6,nn,Ut,Uw,Uv,Uu,szV,Ur,Up,Us,Uo,szN,Uq,Gg,Nx,Zb,Zc,Zd,Ze,Zf,Zg,Zo,Zp,Zq,Zs,Zt,Zv,Zx,Zy,Z6,Qb,Qd,Qq,Qs,Q1,Q2,Q4,Jx,Jy,Jz,J4,J5,J7,J8,Xa,Xb,X1,X2,X4,X5,X6,Wa,Wd,Wf,Wg,Wh,Wr,Ws,Wt,Wu,W6,W7,W8,W9,Yb,Yc,Yg,Yk,Yr,Yu,Yy,Yz,Y5,Y6,Vp,Vr,Vs,V4,V5,Uh,Ui,Uj,Uk,Ul,Um,tab2,U2,Kc,Kd]
               tactic =>
                try simp only [Uy] at *
                try simp only [nc2] at *
                try simp (maxSteps := 4000000) only [hlb,q1,n7,n6,nn,Ut,Uw,Uv,Uu,szV,Ur,Up,Us,Uo,szN,Uq,U1]
                repeat' (first | with_reducible assumption | with_reducible refine And.intro ?_ ?_ | intro _ | omega | (rw [Ux]; omega))
                all_goals first
                  | omega
                  | exact ⟨(k + 1, true), by ((try simp only [Uz, killAll, setSlots, updAll, upd, U9, setCs, putC, Nat.reduceDiv, Nat.reduceMod, Nat.reduceMul, Nat.reduceAdd, Nat.reduceEqDiff, List.set_cons_zero, List.set_cons_succ, if_true, if_false, reduceIte]); (first | refine Wk.of_fl ?_ | skip); simp only [Wk, wkK, wkCs, wkT, wk1, AV.kept, keptAll, wkO, lk, wkObj, and_true, true_and, and_self, Nat.reduceEqDiff, Nat.reduceLeDiff, if_true, if_false, reduceIte, reduceCtorEq, Option.isSome, false_implies]; try simp [Wk, wkK, wkT, wk1, AV.kept, keptAll, wkO, lk, wkObj]), by simp only; omega, g5.symm, by simp only; omega⟩
                  | skip)
    · have hkl : k = v.length := by omega
      rw [hkl, hbo] at hb
      obtain ⟨o, hoo⟩ : ∃ o, oneV (nds P) v = o := ⟨_, rfl⟩
      rw [hoo] at hb
      have hno : (!(b == o)) = false := by rw [hb]; simp
      have hyo : (b == o) = true := by rw [hb]; simp
      cases ha : agX false y w with
      | false =>
        (sym =>
         simp [hlb,tx,ty,tw,ha,hoo,hno,hyo,Kg,U6,U7,Kw,con4t.eq_def,Ut,Uw,Uv,Uu,szV,Ur,Up,Us,Uo,szN,Uq,Gg,H9,H8,Na,con_One19.eq_def,con_Right19.eq_def,con_Same3.eq_def,con_alive19.eq_def,con_given19.eq_def,Zb,Zc,Zd,Ze,Zf,Zg,Zo,Zt,Z6,Z9,Qb,Qc,Qd,Qe,Qf,Qn,Qo,Qp,Qq,Qs,Q1,Q2,Q4,Q8,Jf,Jj,Jk,Jl,Jx,Jy,Jz,J4,J5,J7,J8,Xa,Xb,Xe,Xs,Xt,Xu,X2,X4,X5,X8,X9,Wa,Wd,Wf,Wg,Wh,Wr,Ws,Wt,Wu,Wv,Wx,Wy,W6,W7,W8,W9,Yb,Yc,Yd,Yg,Yh,Yw,Yy,Yz,Y5,Y6,Vh,Vm,Vn,Vo,Vr,Vs,V5,Uh,Ui,Uj,Uk,Ul,Um,U2,Ku,Kc,Kd]
         tactic =>
          try simp only [Uy] at *
          try simp only [nc2] at *
          try simp (maxSteps := 4000000) only [hlb,tx,ty,tw,ha,hoo,hno,hyo,Kg,U6,U7,Kw,con4t.eq_def,Ut,Uw,Uv,Uu,szV,Ur,Up,Us,Uo,szN,Uq,U1]
          repeat' (first | with_reducible assumption | with_reducible refine And.intro ?_ ?_ | intro _ | omega | (rw [Ux]; omega))
          all_goals first
            | exact iP
            | exact iv
            | omega
            | skip)
      | true =>
      cases hf : fitsR x y with
      | false =>
        (sym =>
         simp [hlb,tx,ty,tw,ha,hf,hoo,hno,hyo,Kg,U6,U7,Kw,con4t.eq_def,Ut,Uw,Uv,Uu,szV,Ur,Up,Us,Uo,szN,Uq,Gg,H9,H8,Na,con_One19.eq_def,con_Right19.eq_def,con_Same3.eq_def,con_alive19.eq_def,con_given19.eq_def,Zb,Zc,Zd,Ze,Zf,Zg,Zo,Zt,Z6,Z9,Qb,Qc,Qd,Qe,Qf,Qn,Qo,Qp,Qq,Qs,Q1,Q2,Q4,Q8,Jf,Jj,Jk,Jl,Jx,Jy,Jz,J4,J5,J7,J8,Xa,Xb,Xe,Xs,Xt,Xu,X2,X4,X5,X8,X9,Wa,Wd,Wf,Wg,Wh,Wr,Ws,Wt,Wu,Wv,Wx,Wy,W6,W7,W8,W9,Yb,Yc,Yd,Yg,Yh,Yw,Yy,Yz,Y5,Y6,Vh,Vm,Vn,Vo,Vr,Vs,V5,Uh,Ui,Uj,Uk,Ul,Um,U2,Ku,Kc,Kd]
         tactic =>
          try simp only [Uy] at *
          try simp only [nc2] at *
          try simp (maxSteps := 4000000) only [hlb,tx,ty,tw,ha,hf,hoo,hno,hyo,Kg,U6,U7,Kw,con4t.eq_def,Ut,Uw,Uv,Uu,szV,Ur,Up,Us,Uo,szN,Uq,U1]
          repeat' (first | with_reducible assumption | with_reducible refine And.intro ?_ ?_ | intro _ | omega | (rw [Ux]; omega))
          all_goals first
            | exact iP
            | exact iv
            | exact ovx
            | exact ⟨_, oy⟩
            | omega
            | skip)
      | true =>
      cases hc : castR 7 x y w with
      | none =>
        have hs : same3 t u = false := by
          rw [Bool.eq_false_iff]
          intro h
          rw [M1 (by rw [← hy, ← hw]; exact h)] at hc
          cases hc
        (sym =>
         simp [hlb,tx,ty,tw,ha,hf,hc,hs,hoo,hno,hyo,N7,Kg,U6,U7,Kw,con4t.eq_def,Ut,Uw,Uv,Uu,szV,Ur,Up,Us,Uo,szN,Uq,Gg,H9,H8,Na,con_One19.eq_def,con_Right19.eq_def,con_Same3.eq_def,con_alive19.eq_def,con_given19.eq_def,Zb,Zc,Zd,Ze,Zf,Zg,Zo,Zt,Z6,Z8,Z9,Qb,Qc,Qd,Qe,Qf,Qg,Qn,Qo,Qp,Qq,Qs,Q1,Q2,Q4,Q8,Q9,Ja,Jf,Jj,Jk,Jl,Jx,Jy,Jz,J4,J5,J6,J7,J8,J9,Xa,Xb,Xe,Xs,Xt,Xu,X1,X2,X4,X5,X8,X9,Wa,Wd,Wf,Wg,Wh,Wr,Ws,Wt,Wu,Wv,Wx,Wy,W4,W5,W6,W7,W8,W9,Yb,Yc,Yd,Yg,Yh,Yw,Yy,Yz,Y5,Y6,Y7,Y8,Vf,Vh,Vk,Vm,Vn,Vo,Vr,Vs,V4,V5,Uh,Ui,Uj,Uk,Ul,Um,U2,Ku,Kc,Kd]
         tactic =>
          try simp only [Uy] at *
          try simp only [nc2] at *
          try simp (maxSteps := 4000000) only [hlb,tx,ty,tw,ha,hf,hc,hs,hoo,hno,hyo,N7,Kg,U6,U7,Kw,con4t.eq_def,Ut,Uw,Uv,Uu,szV,Ur,Up,Us,Uo,szN,Uq,U1]
          repeat' (first | with_reducible assumption | with_reducible refine And.intro ?_ ?_ | intro _ | omega | (rw [Ux]; omega))
          all_goals first
            | exact iP
            | exact iv
            | exact ovx
            | exact ⟨_, oy⟩
            | exact ⟨_, ow⟩
            | omega
            | skip)
      | some z =>
        obtain ⟨vz, fz⟩ := cast_right (by decide) hvt (by rw [← hx]; exact g1) py pw ha hf hc
        have oz : OneV (nds z) z := ⟨rfl, vz.wf⟩
        have tz := oz.tree
        have ovz : ∃ x, OneV (nds z) x := ⟨_, oz⟩
        have zl := cast_len hc
        rw [← hx] at zl
        have zp := K8 z
        have lz : ltB 0 ((nds z).length : Int) = true := by rw [G4]; omega
        have hzP : plainR z = P := by rw [hpc z hc]; exact hP
        (sym =>
         simp [hlb,tx,ty,tw,tz,ha,hf,hc,hzP,lz,ho,hoo,hno,hyo,N6,Kg,U6,U7,Kw,con4t.eq_def,Ut,Uw,Uv,Uu,szV,Ur,Up,Us,Uo,szN,Uq,Gg,H9,H8,Na,con_One19.eq_def,con_Right19.eq_def,con_Same3.eq_def,con_alive19.eq_def,con_given19.eq_def,Zb,Zc,Zd,Ze,Zf,Zg,Zo,Zt,Z6,Z8,Z9,Qb,Qc,Qd,Qe,Qf,Qg,Qn,Qo,Qp,Qq,Qs,Q1,Q2,Q4,Q8,Q9,Ja,Jf,Jj,Jk,Jl,Jx,Jy,Jz,J4,J5,J6,J7,J8,J9,Xa,Xb,Xe,Xs,Xt,Xu,X1,X2,X4,X5,X8,X9,Wa,Wd,Wf,Wg,Wh,Wr,Ws,Wt,Wu,Wv,Wx,Wy,W4,W5,W6,W7,W8,W9,Yb,Yc,Yd,Yg,Yh,Yw,Yy,Yz,Y5,Y6,Y7,Y8,Vf,Vh,Vk,Vm,Vn,Vr,Vs,V4,V5,Uh,Ui,Uj,Uk,Ul,Um,U2,Ku,Kc,Kd]
         tactic =>
          try simp only [Uy] at *
          try simp only [nc2] at *
          try simp (maxSteps := 4000000) only [hlb,tx,ty,tw,tz,ha,hf,hc,hzP,lz,ho,hoo,hno,hyo,N6,Kg,U6,U7,Kw,con4t.eq_def,Ut,Uw,Uv,Uu,szV,Ur,Up,Us,Uo,szN,Uq,U1]
          repeat' (first | with_reducible assumption | with_reducible refine And.intro ?_ ?_ | intro _ | omega | (rw [Ux]; omega))
          all_goals first
            | exact iP
            | exact iv
            | exact ovx
            | exact ovz
            | exact ⟨_, oy⟩
            | exact ⟨_, ow⟩
            | omega
            | skip))
end Go.Am.Ty
set_option linter.unusedSimpArgs false
set_option linter.unusedVariables false
namespace Go.Am.Ty
open Go.Proofs
open Enc (enc dec)
theorem all2_7 {p1 p2 p3 p4 p5 p6 p7 : D → Prop} {ds : List D} (h : All2 [p1, p2, p3, p4, p5, p6, p7] ds) : ∃ a b c d e f g, ds = [a, b, c, d, e, f, g] ∧ p1 a ∧ p2 b ∧ p3 c ∧ p4 d ∧ p5 e ∧ p6 f ∧ p7 g := by
  match ds, h with
  | [a, b, c, d, e, f, g], h => exact ⟨a, b, c, d, e, f, g, rfl, h.1, h.2.1, h.2.2.1, h.2.2.2.1, h.2.2.2.2.1, h.2.2.2.2.2.1, h.2.2.2.2.2.2.1⟩
def InN (n : VNode) : Prop := (n.label.length ≤ maxLen ∧ n.name.length ≤ maxLen) ∧ (n.t.length ≤ maxLen ∧ ∀ y ∈ n.t, y.name.length ≤ maxLen) ∧ n.u.length ≤ maxLen ∧ ∀ y ∈ n.u, y.name.length ≤ maxLen
theorem rdVNode : Rdt Try.prog 52 7 true VNode InN :=
  (rd_struct (ps := [_, _, _, _, _, _, _]) Try.underlying52 (by kernel_rfl) rfl ⟨rfl, by kernel_rfl, Rh Try.underlying3, rfl, by kernel_rfl, rdt_str Try.underlying9, rfl, by kernel_rfl, rdt_str Try.underlying9,
    rfl, by kernel_rfl, Rh Try.underlying2, rfl, by kernel_rfl, Rh Try.underlying3, rfl, by kernel_rfl, rdNodes, rfl, by kernel_rfl, rdNodes, trivial⟩).mono fun x h => by
    obtain ⟨ds, rfl, h⟩ := h
    obtain ⟨a, b, c, d, e, f, g, rfl, ⟨k, rfl, _⟩, ⟨s, rfl, hs⟩, ⟨n, rfl, hn⟩, ⟨i, rfl, _⟩, ⟨m, rfl, _⟩, ⟨⟨t⟩, rfl, ht⟩, ⟨⟨u⟩, rfl, hu⟩⟩ := all2_7 h
    exact ⟨⟨k, s, n, i, m, t, u⟩, rfl, ⟨hs, hn⟩, ht, hu⟩
theorem rdVNodes : Rdt Try.prog 41 1 false (Sl VNode) (fun a => a.l.length ≤ maxLen ∧ ∀ y ∈ a.l, InN y) := rdt_sl Try.underlying41 (by kernel_rfl) rfl (by decide) rdVNode
theorem inVal_of {a : Sl VNode} (h : a.l.length ≤ maxLen ∧ ∀ y ∈ a.l, InN y) : InVal a.l := by
  unfold maxLen InN at h
  refine ⟨by have := h.1; omega, fun n hn => ?_⟩
  obtain ⟨⟨h1, h2⟩, ⟨h3, h4⟩, h5, h6⟩ := h.2 n hn
  unfold maxLen at *
  exact ⟨⟨by omega, by omega⟩, ⟨by omega, fun y hy => by have := h4 y hy; omega⟩, by omega, fun y hy => by have := h6 y hy; omega⟩
theorem in_of {a : Sl Node} (h : a.l.length ≤ maxLen ∧ ∀ y ∈ a.l, y.name.length ≤ maxLen) : In a.l := by
  unfold maxLen at h
  exact ⟨by have := h.1; omega, fun n hn => by have := h.2 n hn; omega⟩
theorem rdThree : Rdt Try.prog 50 3 true Three (fun p => (p.a.l.length ≤ maxLen ∧ ∀ y ∈ p.a.l, y.name.length ≤ maxLen) ∧ (p.b.l.length ≤ maxLen ∧ ∀ y ∈ p.b.l, y.name.length ≤ maxLen) ∧ p.c.l.length ≤ maxLen ∧ ∀ y ∈ p.c.l, y.name.length ≤ maxLen) :=
  (rd_array Try.underlying50 (by kernel_rfl) (by kernel_rfl) rdNodes).mono fun x h => by
    obtain ⟨ds, rfl, hl, h⟩ := h
    match ds, hl with
    | [a, b, c], _ =>
      obtain ⟨p, rfl, hp⟩ := h a (by simp)
      obtain ⟨q, rfl, hq⟩ := h b (by simp)
      obtain ⟨r, rfl, hr⟩ := h c (by simp)
      exact ⟨⟨p, q, r⟩, rfl, hp, hq, hr⟩
end Go.Am.Ty
