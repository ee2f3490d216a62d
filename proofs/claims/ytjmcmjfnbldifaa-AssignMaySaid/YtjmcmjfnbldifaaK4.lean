/- Contracts of functions that the law reaches, and plain laws. Conditions: those that each contract states. -/
import Derived.Test.YtjmcmjfnbldifaaK3
import Derived.Sort.Walk0
set_option linter.unusedSimpArgs false
set_option linter.unusedVariables false
set_option maxHeartbeats 1000000
namespace Go.Am.Ty
open Go.Proofs Go.Rose Go.Rose.Rose
open Enc (enc dec)
def Sr : BCon := Pi 101
theorem goodb_treeTA : GoodB Try.prog (40, Sr) := goodbn_treeT _
theorem treeTA_post {t : List Node} {i f : Nat} {d : Int} : Sr.post ⟨t, i, f, d⟩ = Bq t (Ln t f i).2 := rfl
theorem treeTA_res {t : List Node} {i f : Nat} {d : Int} : Sr.res ⟨t, i, f, d⟩ = .bool (Ln t f i).1 := rfl
def Ad (t : List Node) : Bool := !Pm t && ((Ln t 100 0).1 && ((Ln t 100 0).2 : Int) == (t.length : Int))
def Pr : Con := Sn (fun (t : Sl Node) => t.l.length ≤ 1000000 ∧ I0 t.l) (fun t => Ad t.l)
noncomputable def Dq : Ctx := ⟨tab, lkC [], 60, lkB [(40, Sr)], [], false⟩
theorem S7 : Dq.τ = tab := rfl
theorem S9 : Dq.Γ = lkC [] := rfl
theorem S8 : Dq.dp = 60 := rfl
theorem Ta : Dq.Δ = lkB [(40, Sr)] := rfl
theorem S6 : Dq.cuts = [] := rfl
theorem S5 : Dq.wr = false := rfl
set_option maxRecDepth 100000 in
theorem good_RightT : M7 Try.prog (23, Pr) := by
  refine ⟨He Try.func23 (by kernel_rfl) rfl, ?_⟩
  have K : Nh Try.prog Dq := Hl Ny Ht (by simp) (by
    intro p hp
    simp only [List.mem_cons, List.not_mem_nil, or_false] at hp
    rcases hp with rfl
    · exact goodb_treeTA)
  obtain ⟨c, hc⟩ : ∃ c, Try.f23.body = some c := ⟨_, rfl⟩
  refine Hm K Try.func23 hc [.tmp 2] rfl 36 rfl (fun cvs hpre => ?_)
  change Pr.pre cvs at hpre
  unfold Pr at hpre
  obtain ⟨⟨t⟩, rfl, ht, hN⟩ := Nw hpre
  simp only at ht hN
  obtain ⟨w, hw⟩ : ∃ w, Ln t 100 0 = w := ⟨_, rfl⟩
  obtain ⟨w1, w2⟩ := w
  have hR : Ad t = (!Pm t && (w1 && (w2 : Int) == (t.length : Int))) := by unfold Ad; rw [hw]
  simp only [Try.f23, Option.some.injEq] at hc
  subst hc
  refine Mn 2 (of_decide_eq_true (by kernel_rfl)) ?_
  by_cases h0 : t.length = 0
  · have hb : Pm t = true := by unfold Pm; simp [h0]
    have hRf : Ad t = false := by rw [hR, hb]; rfl
    have hlb : ((t.length : Int) == 0) = true := by rw [beq_iff_eq]; omega
    (sym =>
     simp [hlb,hRf,Gt,Gv,Gx,Gu,szN,Gw,S7,S9,S8,Ta,S6,S5,Pr.eq_def,Za,Zb,Zc,Zd,Ze,Zf,Zg,Zn,Zo,Zp,Zq,Zr,Zs,Zt,Zu,Zv,Zw,Zx,Zy,Z5,Z8,Z9,Qa,Qb,Qc,Qd,Qe,Qf,Qg,Qh,Qj,Qk,Ql,Qm,Qn,Qo,Qp,Qr,Qs,Qt,Qu,Qv,Qw,Q0,Q1,Q3,Q4,Q8,Q9,Ja,Jf,Jh,Ji,Jj,Jk,Jl,Jm,Jn,Jo,Jp,Jq,Jr,Jt,Jx,Jy,Jz,J5,J6,J7,J8,J9,Xa,Xb,Xc,Xd,Xe,Xf,Xg,Xj,Xk,Xl,Xm,Xn,Xo,Xp,Xq,Xr,Xs,Xt,Xu,Xv,Xw,Xx,Xy,Xz,X1,X2,X3,X4,X5,X6,X7,X8,We,Wf,Wg,Wh,Wi,Wj,Wl,Wn,Wo,Wp,Ws,Wt,Wu,Wv,Ww,Wx,Wy,Wz,W0,W3,W4,W5,W6,W7,W8,W9,Ya,Yb,Yc,Yd,Ye,Yf,Yg,Yh,Yi,Yj,Yk,Yl,Ym,Yn,Yo,Yr,Ys,Yt,Yv,Yw,Yx,Yy,Yz,Y1,Y2,Y3,Y4,Y5,Y6,Y7,Y8,Y9,Va,Vb,Vc,Vd,Ve,Vf,Vg,Vh,Vi,Vj,Vk,Vl,Vm,Vn,Vo,Vp,Vq,Vr,Vs,Vt,Vu,Vv,Vw,Vx,Vy,Vz,V0,V1,V2,V3,V4,V5,V6,V7,V8,V9,Ua,Ub,Uc,Ud,Ue,Uf,Ug,Uh,Ui,Uj,Uk,Ul,Um,Un,Uo,Up,Uq,Ur,Us,Ut,Uu,Uv,Uw,Ux,Uy,Uz,U0,U1,U2,U5,U6,U7,U8,U9,Ka,Kb,Kc,Kd,Ke,Kf,Kg,Kh,Ki,Kj,Kk,Kl,Km,Kn,Ko,Kq,Kr,Ks,Kt,Ku,Kv,Kw,Kx,Ky,Kz,K0,K1,K2,K3,K4,K5,K6,K7,Gg,Gi,Gj,Gk,Gl,Gm,Gn,Gp,Gq,Gr,Hg,H3,Hc,Hb,Sj])
  have hlb : ((t.length : Int) == 0) = false := by rw [beq_eq_false_iff_ne]; omega
  have hl0 : (t.length == 0) = false := by rw [beq_eq_false_iff_ne]; exact h0
  have hpos : 0 < t.length := by omega
  have hel := el_map0 hpos
  rcases ltB_casesI 10000 t.length with ⟨hl, hltb⟩ | ⟨hl, hltb⟩
  · have hb : Pm t = true := by unfold Pm; rw [hltb]; simp
    have hRf : Ad t = false := by rw [hR, hb]; rfl
    (sym =>
     simp [hlb,hltb,hRf,Gt,Gv,Gx,Gu,szN,Gw,S7,S9,S8,Ta,S6,S5,Pr.eq_def,Za,Zb,Zc,Zd,Ze,Zf,Zg,Zn,Zo,Zp,Zq,Zr,Zs,Zt,Zu,Zv,Zw,Zx,Zy,Z5,Z8,Z9,Qa,Qb,Qc,Qd,Qe,Qf,Qg,Qh,Qj,Qk,Ql,Qm,Qn,Qo,Qp,Qr,Qs,Qt,Qu,Qv,Qw,Q0,Q1,Q3,Q4,Q8,Q9,Ja,Jf,Jh,Ji,Jj,Jk,Jl,Jm,Jn,Jo,Jp,Jq,Jr,Jt,Jx,Jy,Jz,J5,J6,J7,J8,J9,Xa,Xb,Xc,Xd,Xe,Xf,Xg,Xj,Xk,Xl,Xm,Xn,Xo,Xp,Xq,Xr,Xs,Xt,Xu,Xv,Xw,Xx,Xy,Xz,X1,X2,X3,X4,X5,X6,X7,X8,We,Wf,Wg,Wh,Wi,Wj,Wl,Wn,Wo,Wp,Ws,Wt,Wu,Wv,Ww,Wx,Wy,Wz,W0,W3,W4,W5,W6,W7,W8,W9,Ya,Yb,Yc,Yd,Ye,Yf,Yg,Yh,Yi,Yj,Yk,Yl,Ym,Yn,Yo,Yr,Ys,Yt,Yv,Yw,Yx,Yy,Yz,Y1,Y2,Y3,Y4,Y5,Y6,Y7,Y8,Y9,Va,Vb,Vc,Vd,Ve,Vf,Vg,Vh,Vi,Vj,Vk,Vl,Vm,Vn,Vo,Vp,Vq,Vr,Vs,Vt,Vu,Vv,Vw,Vx,Vy,Vz,V0,V1,V2,V3,V4,V5,V6,V7,V8,V9,Ua,Ub,Uc,Ud,Ue,Uf,Ug,Uh,Ui,Uj,Uk,Ul,Um,Un,Uo,Up,Uq,Ur,Us,Ut,Uu,Uv,Uw,Ux,Uy,Uz,U0,U1,U2,U5,U6,U7,U8,U9,Ka,Kb,Kc,Kd,Ke,Kf,Kg,Kh,Ki,Kj,Kk,Kl,Km,Kn,Ko,Kq,Kr,Ks,Kt,Ku,Kv,Kw,Kx,Ky,Kz,K0,K1,K2,K3,K4,K5,K6,K7,Gg,Gi,Gj,Gk,Gl,Gm,Gn,Gp,Gq,Gr,Hg,H3,Hc,Hb,Sj])
  cases hnm : ((t.getD 0 n0).name == []) with
  | false =>
    have hb : Pm t = true := by unfold Pm; rw [hnm]; simp
    have hRf : Ad t = false := by rw [hR, hb]; rfl
    (sym =>
     simp [hlb,hltb,hel,hnm,hRf,Gt,Gv,Gx,Gu,szN,Gw,S7,S9,S8,Ta,S6,S5,Pr.eq_def,Za,Zb,Zc,Zd,Ze,Zf,Zg,Zn,Zo,Zp,Zq,Zr,Zs,Zt,Zu,Zv,Zw,Zx,Zy,Z5,Z8,Z9,Qa,Qb,Qc,Qd,Qe,Qf,Qg,Qh,Qj,Qk,Ql,Qm,Qn,Qo,Qp,Qr,Qs,Qt,Qu,Qv,Qw,Q0,Q1,Q3,Q4,Q8,Q9,Ja,Jf,Jh,Ji,Jj,Jk,Jl,Jm,Jn,Jo,Jp,Jq,Jr,Jt,Jx,Jy,Jz,J5,J6,J7,J8,J9,Xa,Xb,Xc,Xd,Xe,Xf,Xg,Xj,Xk,Xl,Xm,Xn,Xo,Xp,Xq,Xr,Xs,Xt,Xu,Xv,Xw,Xx,Xy,Xz,X1,X2,X3,X4,X5,X6,X7,X8,We,Wf,Wg,Wh,Wi,Wj,Wl,Wn,Wo,Wp,Ws,Wt,Wu,Wv,Ww,Wx,Wy,Wz,W0,W3,W4,W5,W6,W7,W8,W9,Ya,Yb,Yc,Yd,Ye,Yf,Yg,Yh,Yi,Yj,Yk,Yl,Ym,Yn,Yo,Yr,Ys,Yt,Yv,Yw,Yx,Yy,Yz,Y1,Y2,Y3,Y4,Y5,Y6,Y7,Y8,Y9,Va,Vb,Vc,Vd,Ve,Vf,Vg,Vh,Vi,Vj,Vk,Vl,Vm,Vn,Vo,Vp,Vq,Vr,Vs,Vt,Vu,Vv,Vw,Vx,Vy,Vz,V0,V1,V2,V3,V4,V5,V6,V7,V8,V9,Ua,Ub,Uc,Ud,Ue,Uf,Ug,Uh,Ui,Uj,Uk,Ul,Um,Un,Uo,Up,Uq,Ur,Us,Ut,Uu,Uv,Uw,Ux,Uy,Uz,U0,U1,U2,U5,U6,U7,U8,U9,Ka,Kb,Kc,Kd,Ke,Kf,Kg,Kh,Ki,Kj,Kk,Kl,Km,Kn,Ko,Kq,Kr,Ks,Kt,Ku,Kv,Kw,Kx,Ky,Kz,K0,K1,K2,K3,K4,K5,K6,K7,Gg,Gi,Gj,Gk,Gl,Gm,Gn,Gp,Gq,Gr,Hg,H3,Hc,Hb,Sj]
     tactic =>
      try simp only [G6] at *
      try simp only [nc2] at *
      try simp (maxSteps := 4000000) only [hlb,hltb,hel,hnm,hRf,Gt,Gv,Gx,Gu,szN,Gw,Hi]
      repeat' (first | with_reducible assumption | with_reducible refine And.intro ?_ ?_ | intro _ | omega | (rw [Gy]; omega)))
  | true =>
    cases h9 : ((t.getD 0 n0).kind == 9) with
    | true =>
      have hb : Pm t = true := by unfold Pm; rw [h9]; simp
      have hRf : Ad t = false := by rw [hR, hb]; rfl
      (sym =>
       simp [hlb,hltb,hel,hnm,h9,hRf,Gt,Gv,Gx,Gu,szN,Gw,S7,S9,S8,Ta,S6,S5,Pr.eq_def,Za,Zb,Zc,Zd,Ze,Zf,Zg,Zn,Zo,Zp,Zq,Zr,Zs,Zt,Zu,Zv,Zw,Zx,Zy,Z5,Z8,Z9,Qa,Qb,Qc,Qd,Qe,Qf,Qg,Qh,Qj,Qk,Ql,Qm,Qn,Qo,Qp,Qr,Qs,Qt,Qu,Qv,Qw,Q0,Q1,Q3,Q4,Q8,Q9,Ja,Jf,Jh,Ji,Jj,Jk,Jl,Jm,Jn,Jo,Jp,Jq,Jr,Jt,Jx,Jy,Jz,J5,J6,J7,J8,J9,Xa,Xb,Xc,Xd,Xe,Xf,Xg,Xj,Xk,Xl,Xm,Xn,Xo,Xp,Xq,Xr,Xs,Xt,Xu,Xv,Xw,Xx,Xy,Xz,X1,X2,X3,X4,X5,X6,X7,X8,We,Wf,Wg,Wh,Wi,Wj,Wl,Wn,Wo,Wp,Ws,Wt,Wu,Wv,Ww,Wx,Wy,Wz,W0,W3,W4,W5,W6,W7,W8,W9,Ya,Yb,Yc,Yd,Ye,Yf,Yg,Yh,Yi,Yj,Yk,Yl,Ym,Yn,Yo,Yr,Ys,Yt,Yv,Yw,Yx,Yy,Yz,Y1,Y2,Y3,Y4,Y5,Y6,Y7,Y8,Y9,Va,Vb,Vc,Vd,Ve,Vf,Vg,Vh,Vi,Vj,Vk,Vl,Vm,Vn,Vo,Vp,Vq,Vr,Vs,Vt,Vu,Vv,Vw,Vx,Vy,Vz,V0,V1,V2,V3,V4,V5,V6,V7,V8,V9,Ua,Ub,Uc,Ud,Ue,Uf,Ug,Uh,Ui,Uj,Uk,Ul,Um,Un,Uo,Up,Uq,Ur,Us,Ut,Uu,Uv,Uw,Ux,Uy,Uz,U0,U1,U2,U5,U6,U7,U8,U9,Ka,Kb,Kc,Kd,Ke,Kf,Kg,Kh,Ki,Kj,Kk,Kl,Km,Kn,Ko,Kq,Kr,Ks,Kt,Ku,Kv,Kw,Kx,Ky,Kz,K0,K1,K2,K3,K4,K5,K6,K7,Gg,Gi,Gj,Gk,Gl,Gm,Gn,Gp,Gq,Gr,Hg,H3,Hc,Hb,Sj]
       tactic =>
        try simp only [G6] at *
        try simp only [nc2] at *
        try simp (maxSteps := 4000000) only [hlb,hltb,hel,hnm,h9,hRf,Gt,Gv,Gx,Gu,szN,Gw,Hi]
        repeat' (first | with_reducible assumption | with_reducible refine And.intro ?_ ?_ | intro _ | omega | (rw [Gy]; omega)))
    | false =>
      have hb : Pm t = false := by unfold Pm; rw [hl0, hltb, hnm, h9]; rfl
      rw [hb, Bool.not_false, Bool.true_and] at hR
      have hp2 : Sr.post ⟨t, 0, 100, 1⟩ = Bq t w2 := by rw [treeTA_post, hw]
      have hp3 : Sr.res ⟨t, 0, 100, 1⟩ = .bool w1 := by rw [treeTA_res, hw]
      (sym =>
       simp [hlb,hltb,hel,hnm,h9,Gt,Gv,Gx,Gu,szN,Gw,S7,S9,S8,Ta,S6,S5,Pr.eq_def,Za,Zb,Zc,Zd,Ze,Zf,Zg,Zn,Zo,Zp,Zq,Zr,Zs,Zt,Zu,Zv,Zw,Zx,Zy,Z5,Z8,Z9,Qa,Qb,Qc,Qd,Qe,Qf,Qg,Qh,Qj,Qk,Ql,Qm,Qn,Qo,Qp,Qr,Qs,Qt,Qu,Qv,Qw,Q0,Q1,Q3,Q4,Q8,Q9,Ja,Jf,Jh,Ji,Jj,Jk,Jl,Jm,Jn,Jo,Jp,Jq,Jr,Jt,Jx,Jy,Jz,J5,J6,J7,J8,J9,Xa,Xb,Xc,Xd,Xe,Xf,Xg,Xj,Xk,Xl,Xm,Xn,Xo,Xp,Xq,Xr,Xs,Xt,Xu,Xv,Xw,Xx,Xy,Xz,X1,X2,X3,X4,X5,X6,X7,X8,We,Wf,Wg,Wh,Wi,Wj,Wl,Wn,Wo,Wp,Ws,Wt,Wu,Wv,Ww,Wx,Wy,Wz,W0,W3,W4,W5,W6,W7,W8,W9,Ya,Yb,Yc,Yd,Ye,Yf,Yg,Yh,Yi,Yj,Yk,Yl,Ym,Yn,Yo,Yr,Ys,Yt,Yv,Yw,Yx,Yy,Yz,Y1,Y2,Y3,Y4,Y5,Y6,Y7,Y8,Y9,Va,Vb,Vc,Vd,Ve,Vf,Vg,Vh,Vi,Vj,Vk,Vl,Vm,Vn,Vo,Vp,Vq,Vr,Vs,Vt,Vu,Vv,Vw,Vx,Vy,Vz,V0,V1,V2,V3,V4,V5,V6,V7,V8,V9,Ua,Ub,Uc,Ud,Ue,Uf,Ug,Uh,Ui,Uj,Uk,Ul,Um,Un,Uo,Up,Uq,Ur,Us,Ut,Uu,Uv,Uw,Ux,Uy,Uz,U0,U1,U2,U5,U6,U7,U8,U9,Ka,Kb,Kc,Kd,Ke,Kf,Kg,Kh,Ki,Kj,Kk,Kl,Km,Kn,Ko,Kq,Kr,Ks,Kt,Ku,Kv,Kw,Kx,Ky,Kz,K0,K1,K2,K3,K4,K5,K6,K7,Gg,Gi,Gj,Gk,Gl,Gm,Gn,Gp,Gq,Gr,Hg,H3,Hc,Hb,Sj]
       tactic =>
        try simp only [G6] at *
        try simp only [nc2] at *
        try simp (maxSteps := 4000000) only [hlb,hltb,hel,hnm,h9,Gt,Gv,Gx,Gu,szN,Gw,Hi]
        repeat' (first | with_reducible assumption | with_reducible refine And.intro ?_ ?_ | intro _ | omega | (rw [Gy]; omega))
        refine aCallB_of (bc := Sr) ⟨t, 0, 100, 1⟩ [3, 1, 4] ⟨ht, hN, by simp only; omega, by simp only; omega, by simp only; omega⟩ rfl (by simp) (by rw [hp2]; rfl) ?_ ?_ ?_
        · show Nx _ _ (Bq t 0) _
          rw [Mx]
          simp [Nx,lk,rnO,rnA,rnAs,rk]
          rfl
        · show Ll (List.drop (Bq t 0).length _) _
          rw [Mx]
          simp [Ll,lk]
        cases w1 with
        | false =>
          have hRf : Ad t = false := by rw [hR]; rfl
          (sym =>
           simp [hp2,hp3,Mx,hRf,Gt,Gv,Gx,Gu,szN,Gw,S7,S9,S8,Ta,S6,S5,Pr.eq_def,Za,Zb,Zc,Zd,Ze,Zf,Zg,Zn,Zo,Zp,Zq,Zr,Zs,Zt,Zu,Zv,Zw,Zx,Zy,Z5,Z8,Z9,Qa,Qb,Qc,Qd,Qe,Qf,Qg,Qh,Qj,Qk,Ql,Qm,Qn,Qo,Qp,Qr,Qs,Qt,Qu,Qv,Qw,Q0,Q1,Q3,Q4,Q8,Q9,Ja,Jf,Jh,Ji,Jj,Jk,Jl,Jm,Jn,Jo,Jp,Jq,Jr,Jt,Jx,Jy,Jz,J5,J6,J7,J8,J9,Xa,Xb,Xc,Xd,Xe,Xf,Xg,Xj,Xk,Xl,Xm,Xn,Xo,Xp,Xq,Xr,Xs,Xt,Xu,Xv,Xw,Xx,Xy,Xz,X1,X2,X3,X4,X5,X6,X7,X8,We,Wf,Wg,Wh,Wi,Wj,Wl,Wn,Wo,Wp,Ws,Wt,Wu,Wv,Ww,Wx,Wy,Wz,W0,W3,W4,W5,W6,W7,W8,W9,Ya,Yb,Yc,Yd,Ye,Yf,Yg,Yh,Yi,Yj,Yk,Yl,Ym,Yn,Yo,Yr,Ys,Yt,Yv,Yw,Yx,Yy,Yz,Y1,Y2,Y3,Y4,Y5,Y6,Y7,Y8,Y9,Va,Vb,Vc,Vd,Ve,Vf,Vg,Vh,Vi,Vj,Vk,Vl,Vm,Vn,Vo,Vp,Vq,Vr,Vs,Vt,Vu,Vv,Vw,Vx,Vy,Vz,V0,V1,V2,V3,V4,V5,V6,V7,V8,V9,Ua,Ub,Uc,Ud,Ue,Uf,Ug,Uh,Ui,Uj,Uk,Ul,Um,Un,Uo,Up,Uq,Ur,Us,Ut,Uu,Uv,Uw,Ux,Uy,Uz,U0,U1,U2,U5,U6,U7,U8,U9,Ka,Kb,Kc,Kd,Ke,Kf,Kg,Kh,Ki,Kj,Kk,Kl,Km,Kn,Ko,Kq,Kr,Ks,Kt,Ku,Kv,Kw,Kx,Ky,Kz,K0,K1,K2,K3,K4,K5,K6,K7,Gg,Gi,Gj,Gk,Gl,Gm,Gn,Gp,Gq,Gr,Hg,H3,Hc,Hb,Sj])
        | true =>
          have hRf : Ad t = ((w2 : Int) == (t.length : Int)) := by rw [hR]; rfl
          (sym =>
           simp [hp2,hp3,Mx,hRf,Gt,Gv,Gx,Gu,szN,Gw,S7,S9,S8,Ta,S6,S5,Pr.eq_def,Za,Zb,Zc,Zd,Ze,Zf,Zg,Zn,Zo,Zp,Zq,Zr,Zs,Zt,Zu,Zv,Zw,Zx,Zy,Z5,Z8,Z9,Qa,Qb,Qc,Qd,Qe,Qf,Qg,Qh,Qj,Qk,Ql,Qm,Qn,Qo,Qp,Qr,Qs,Qt,Qu,Qv,Qw,Q0,Q1,Q3,Q4,Q8,Q9,Ja,Jf,Jh,Ji,Jj,Jk,Jl,Jm,Jn,Jo,Jp,Jq,Jr,Jt,Jx,Jy,Jz,J5,J6,J7,J8,J9,Xa,Xb,Xc,Xd,Xe,Xf,Xg,Xj,Xk,Xl,Xm,Xn,Xo,Xp,Xq,Xr,Xs,Xt,Xu,Xv,Xw,Xx,Xy,Xz,X1,X2,X3,X4,X5,X6,X7,X8,We,Wf,Wg,Wh,Wi,Wj,Wl,Wn,Wo,Wp,Ws,Wt,Wu,Wv,Ww,Wx,Wy,Wz,W0,W3,W4,W5,W6,W7,W8,W9,Ya,Yb,Yc,Yd,Ye,Yf,Yg,Yh,Yi,Yj,Yk,Yl,Ym,Yn,Yo,Yr,Ys,Yt,Yv,Yw,Yx,Yy,Yz,Y1,Y2,Y3,Y4,Y5,Y6,Y7,Y8,Y9,Va,Vb,Vc,Vd,Ve,Vf,Vg,Vh,Vi,Vj,Vk,Vl,Vm,Vn,Vo,Vp,Vq,Vr,Vs,Vt,Vu,Vv,Vw,Vx,Vy,Vz,V0,V1,V2,V3,V4,V5,V6,V7,V8,V9,Ua,Ub,Uc,Ud,Ue,Uf,Ug,Uh,Ui,Uj,Uk,Ul,Um,Un,Uo,Up,Uq,Ur,Us,Ut,Uu,Uv,Uw,Ux,Uy,Uz,U0,U1,U2,U5,U6,U7,U8,U9,Ka,Kb,Kc,Kd,Ke,Kf,Kg,Kh,Ki,Kj,Kk,Kl,Km,Kn,Ko,Kq,Kr,Ks,Kt,Ku,Kv,Kw,Kx,Ky,Kz,K0,K1,K2,K3,K4,K5,K6,K7,Gg,Gi,Gj,Gk,Gl,Gm,Gn,Gp,Gq,Gr,Hg,H3,Hc,Hb,Sj]))
end Go.Am.Ty
set_option linter.unusedSimpArgs false
set_option linter.unusedVariables false
set_option maxHeartbeats 1000000
namespace Go.Am.Ty
open Go.Proofs Go.Rose Go.Rose.Rose
theorem less_not (x y : List UInt8) : (Op.bytesLess x y || x == y) = !Op.bytesLess y x := by
  rw [bytesLess_eq, bytesLess_eq, Bool.eq_iff_iff]
  simp only [Bool.or_eq_true, decide_eq_true_eq, beq_iff_eq, Bool.not_eq_true', decide_eq_false_iff_not, List.not_lt]
  constructor
  · rintro (h | rfl)
    · exact List.le_of_lt h
    · exact List.le_refl _
  · intro h
    rcases List.le_iff_lt_or_eq.1 h with h | h
    · exact .inl h
    · exact .inr h
theorem less_nil (x : List UInt8) : Op.bytesLess x [] = false := by
  rw [bytesLess_eq]
  simp
theorem isRow_eq (p : Node) : isRow3 p = Su p := rfl
theorem lab_bad {p x prev : Node} {k m : Nat} {last : List UInt8} (hn : Tg p = true) (hm : m = ar p) (hk : k < m) (hl0 : k = 0 → last = []) (hl1 : 0 < k → last = prev.name) :
    labK p x prev (ltB 0 (k : Int)) ((k : Int) == (m : Int) - 1) = !R2 p k x last := by
  unfold labK R2
  rw [isRow_eq]
  cases h9 : (x.kind == 9) with
  | true =>
    simp only [cond_true]
    cases hr : Su p with
    | false => rfl
    | true =>
      have hpn := numb_row hn hr
      have hmn : (m : Int) = p.n := by
        have h1 := many_ar hn
        rw [hm, ← h1]
        unfold Py
        unfold Su at hr
        rw [Bool.or_eq_true, beq_iff_eq, beq_iff_eq] at hr
        rw [if_neg (by omega), if_pos hr]
      rcases ltB_casesI (k : Int) (p.n - 1) with ⟨h1, h2⟩ | ⟨h1, h2⟩
      · have : ((k : Int) == (m : Int) - 1) = false := by rw [beq_eq_false_iff_ne]; omega
        rw [h2, this]; rfl
      · have : ((k : Int) == (m : Int) - 1) = true := by rw [beq_iff_eq]; omega
        rw [h2, this]
        simp
  | false =>
    simp only [cond_false]
    have hcore : ∀ q : Bool, (q = true → x.name ≠ []) → (!(!q) && (!(!true && !(x.name == [])) && !(true && (ltB 0 (k : Int) && !Op.bytesLess prev.name x.name)))) = !cond (!q) true (Op.bytesLess x.name last || x.name == last) := by
      intro q hq
      cases q with
      | false => rfl
      | true =>
        rcases Nat.eq_zero_or_pos k with rfl | hk0
        · rw [hl0 rfl, less_nil]
          have : (x.name == []) = false := by rw [beq_eq_false_iff_ne]; exact hq rfl
          rw [this]
          rfl
        · have : ltB 0 (k : Int) = true := by rw [Ba]; omega
          rw [this, hl1 hk0, less_not]
          simp
    by_cases h6 : p.kind = 6
    · have hr : Su p = true := by unfold Su; simp [h6]
      have := hcore (B5 x.name) (fun h e => by rw [e] at h; cases h)
      simp only [labB, h6, hr, cond_true] at this ⊢
      simpa using this
    · by_cases h7 : p.kind = 7
      · have hr : Su p = true := by unfold Su; simp [h7]
        have := hcore (Ox x.name) (fun h e => by rw [e] at h; cases h)
        simp only [labB, h7, hr, cond_true] at this ⊢
        simpa using this
      · have hr : Su p = false := by unfold Su; simp [h6, h7]
        simp only [labB, if_neg h6, if_neg h7, hr, cond_false, beq_eq_false_iff_ne.2 h6, beq_eq_false_iff_ne.2 h7]
        cases (x.name == []) <;> rfl
end Go.Am.Ty
set_option linter.unusedSimpArgs false
set_option linter.unusedVariables false
set_option maxHeartbeats 1000000
namespace Go.Am.Ty
open Go.Proofs Go.Rose Go.Rose.Rose
def kidN (ks : List (Rose Node)) (q : Nat) : Node := (ks.getD q (mk n0 [])).root
def lastN (ks : List (Rose Node)) (last : List UInt8) (q : Nat) : List UInt8 := if q = 0 then last else (kidN ks (q - 1)).name
theorem lastN_succ {x : Rose Node} {xs : List (Rose Node)} {last : List UInt8} {q : Nat} : lastN (x :: xs) last (q + 1) = lastN xs x.root.name q := by
  unfold lastN kidN
  rw [if_neg (by omega)]
  cases q with
  | zero => rfl
  | succ q => rw [if_neg (by omega)]; rfl
theorem labZ_bad {p : Node} {ks : List (Rose Node)} (hn : Tg p = true) (hk : ks.length = ar p) : labZ p ks = true ↔ ∀ q, q < ks.length → R2 p q (kidN ks q) (lastN ks [] q) = false := by
  unfold labZ
  rw [List.all_eq_true]
  constructor
  · intro h q hq
    have := h q (List.mem_range.2 hq)
    rw [lab_bad hn hk hq (last := lastN ks [] q) (fun e => by subst e; rfl) (fun e => by unfold lastN; rw [if_neg (by omega)]; rfl)] at this
    rw [Bool.not_eq_true'] at this
    exact this
  · intro h q hq
    have hq := List.mem_range.1 hq
    rw [lab_bad hn hk hq (last := lastN ks [] q) (fun e => by subst e; rfl) (fun e => by unfold lastN; rw [if_neg (by omega)]; rfl)]
    have := h q hq
    unfold kidN at this
    rw [this]
    rfl
theorem not_le {t : List Node} {i : Nat} (h : i < t.length) : leB (t.length : Int) (i : Int) = false := by rw [Ou]; omega
mutual
theorem treeR_ok {t : List Node} (hN : D3 t) : ∀ {x : Rose Node} {i f : Nat}, At ar t i x → depth x ≤ f → labT x = true → Ln t f i = (true, i + (nds x).length)
  | mk n ks, i, f, h, hd, hl => by
    cases f with
    | zero => rw [depth] at hd; omega
    | succ f =>
      have hlt := h.lt
      have hroot : t.getD i n0 = n := h.root n0
      obtain ⟨hks, hkl⟩ := h.kids
      simp only [kids, root] at hks hkl
      rw [depth] at hd
      rw [labT, Bool.and_eq_true] at hl
      have hnb : Tg n = true := by rw [← hroot]; exact hN _ (by simp [hlt])
      rw [Ln, not_le hlt, cond_false, hroot, hnb, cond_true, ← hkl]
      rw [kidsR_ok hN hks (by omega) hl.2 (fun q hq => by rw [Nat.zero_add]; exact (labZ_bad hnb hkl).1 hl.1 q hq), I5, List.length_cons]
      congr 1
      omega
theorem kidsR_ok {t : List Node} (hN : D3 t) : ∀ {ks : List (Rose Node)} {p : Node} {k : Nat} {last : List UInt8} {j f : Nat}, Ats ar t j ks → depths ks ≤ f → labTs ks = true → (∀ q, q < ks.length → R2 p (k + q) (kidN ks q) (lastN ks last q) = false) →
    Ov t (Ln t f) p ks.length k last j = (true, j + (ndss ks).length)
  | [], p, k, last, j, f, _, _, _, _ => by rw [List.length_nil, Ov]; simp [ndss]
  | x :: xs, p, k, last, j, f, h, hd, hl, hb => by
    obtain ⟨hx, hxs⟩ := h.head
    have hj := hx.lt
    rw [depths] at hd
    rw [labTs, Bool.and_eq_true] at hl
    have hb0 : R2 p k x.root last = false := hb 0 (by simp)
    rw [List.length_cons, Ov, not_le hj, cond_false, hx.root n0, hb0, cond_false, treeR_ok hN hx (by omega) hl.1]
    simp only [cond_true]
    rw [kidsR_ok hN hxs (by omega) hl.2 (fun q hq => by
      have := hb (q + 1) (by simp only [List.length_cons]; omega)
      rw [lastN_succ] at this
      rw [show k + 1 + q = k + (q + 1) by omega]
      exact this), ndss, List.length_append]
    congr 1
    omega
end
theorem ats_cons {t : List Node} {j : Nat} {x : Rose Node} {xs : List (Rose Node)} (hx : At ar t j x) (hxs : Ats ar t (j + (nds x).length) xs) : Ats ar t j (x :: xs) := by
  obtain ⟨h1, r, h2⟩ := hx
  obtain ⟨g1, s, g2⟩ := hxs
  refine ⟨⟨h1, g1⟩, s, ?_⟩
  rw [← List.drop_drop, h2, List.drop_left'] at g2
  · rw [h2, g2, ndss, List.append_assoc]
  · rfl
theorem at_of_ats {t : List Node} {i : Nat} {ks : List (Rose Node)} (hi : i < t.length) (hk : ks.length = ar (t.getD i n0)) (h : Ats ar t (i + 1) ks) : At ar t i (mk (t.getD i n0) ks) := by
  obtain ⟨g1, s, g2⟩ := h
  refine ⟨⟨hk, g1⟩, s, ?_⟩
  rw [List.drop_eq_getElem_cons hi, g2, I5]
  simp [hi]
theorem kidsR_tree {t : List Node} {p : Node} {f : Nat} {tr : Nat → Bool × Nat} (htr : ∀ i j, tr i = (true, j) → ∃ x, At ar t i x ∧ j = i + (nds x).length ∧ depth x ≤ f ∧ labT x = true ∧ D3 (nds x)) : ∀ {m k : Nat} {last : List UInt8} {j e : Nat}, Ov t tr p m k last j = (true, e) → j ≤ t.length →
    ∃ ks : List (Rose Node), ks.length = m ∧ Ats ar t j ks ∧ e = j + (ndss ks).length ∧ depths ks ≤ f ∧ labTs ks = true ∧ D3 (ndss ks) ∧ ∀ q, q < ks.length → R2 p (k + q) (kidN ks q) (lastN ks last q) = false
  | 0, k, last, j, e, h, hj => by
    rw [Ov] at h
    injection h with _ h
    exact ⟨[], rfl, ⟨trivial, t.drop j, by simp [ndss]⟩, by simp [ndss, h], by simp [depths], rfl, fun n hn => by simp [ndss] at hn, fun q hq => by simp at hq⟩
  | m + 1, k, last, j, e, h, hj => by
    rw [Ov] at h
    cases hl : leB (t.length : Int) (j : Int) with
    | true => rw [hl, cond_true] at h; cases h
    | false =>
      rw [hl, cond_false] at h
      cases hb : R2 p k (t.getD j n0) last with
      | true => rw [hb, cond_true] at h; cases h
      | false =>
        rw [hb, cond_false] at h
        obtain ⟨w, hw⟩ : ∃ w, tr j = w := ⟨_, rfl⟩
        obtain ⟨w1, w2⟩ := w
        rw [hw] at h
        simp only at h
        cases w1 with
        | false => rw [cond_false] at h; cases h
        | true =>
          rw [cond_true] at h
          obtain ⟨x, hx, rfl, hd, hla, hn⟩ := htr j w2 hw
          obtain ⟨ks, e1, e2, e3, e4, e5, e6, e7⟩ := kidsR_tree htr h hx.le
          have hro := hx.root n0
          refine ⟨x :: ks, by simp [e1], ats_cons hx e2, ?_, ?_, ?_, ?_, fun q hq => ?_⟩
          · rw [e3, ndss, List.length_append]; omega
          · rw [depths]; omega
          · rw [labTs, hla, e5]; rfl
          · intro n hm
            rw [ndss, List.mem_append] at hm
            rcases hm with hm | hm
            · exact hn n hm
            · exact e6 n hm
          · cases q with
            | zero => rw [hro] at hb; exact hb
            | succ q =>
              rw [lastN_succ, ← hro, show k + (q + 1) = k + 1 + q by omega]
              exact e7 q (by simpa using hq)
theorem treeR_tree {t : List Node} : ∀ {f i j : Nat}, Ln t f i = (true, j) → ∃ x, At ar t i x ∧ j = i + (nds x).length ∧ depth x ≤ f ∧ labT x = true ∧ D3 (nds x)
  | 0, i, j, h => by rw [Ln] at h; cases h
  | f + 1, i, j, h => by
    rw [Ln] at h
    cases hl : leB (t.length : Int) (i : Int) with
    | true => rw [hl, cond_true] at h; cases h
    | false =>
      rw [hl, cond_false] at h
      rw [Ou] at hl
      have hi : i < t.length := by omega
      cases hnb : Tg (t.getD i n0) with
      | false => rw [hnb, cond_false] at h; cases h
      | true =>
        rw [hnb, cond_true] at h
        obtain ⟨ks, e1, e2, e3, e4, e5, e6, e7⟩ := kidsR_tree (f := f) (fun i j h => treeR_tree h) h (by omega)
        refine ⟨mk (t.getD i n0) ks, at_of_ats hi e1 e2, ?_, ?_, ?_, ?_⟩
        · rw [e3, I5, List.length_cons]; omega
        · rw [depth]; omega
        · rw [labT, Bool.and_eq_true]
          exact ⟨(labZ_bad hnb e1).2 fun q hq => by have := e7 q hq; rwa [Nat.zero_add] at this, e5⟩
        · intro n hm
          rw [I5] at hm
          rcases List.mem_cons.1 hm with rfl | hm
          · exact hnb
          · exact e6 n hm
theorem right_same (t : List Node) : Ad t = Bc t := by
  rw [Bool.eq_iff_iff]
  unfold Ad
  constructor
  · intro h
    rw [Bool.and_eq_true, Bool.and_eq_true, beq_iff_eq, Bool.not_eq_true'] at h
    obtain ⟨h1, h2, h3⟩ := h
    obtain ⟨x, hx, e, hd, hl, hn⟩ := treeR_tree (t := t) (f := 100) (i := 0) (j := (Ln t 100 0).2) (by rw [← h2])
    unfold Pm at h1
    simp only [Bool.or_eq_false_iff, beq_eq_false_iff_ne, Bool.not_eq_false', beq_iff_eq, Me] at h1
    obtain ⟨⟨⟨g1, g2⟩, g3⟩, g4⟩ := h1
    have hro := hx.root n0
    have ht : t = nds x := by
      obtain ⟨_, r, h5⟩ := hx
      rw [List.drop_zero] at h5
      have h6 := congrArg List.length h5
      rw [List.length_append] at h6
      have : r = [] := List.length_eq_zero_iff.1 (by omega)
      rw [h5, this, List.append_nil]
    rw [ht]
    exact right3_rt ⟨hx.1, hn, hd, hl, by rw [← hro]; exact g3, by rw [← hro]; exact g4, by rw [← ht]; omega⟩
  · intro h
    obtain ⟨x, rfl, hx⟩ := Ed h
    have ha := at_whole hx.wf
    have hro := ha.root n0
    rw [treeR_ok hx.numb ha hx.depth hx.lab]
    have hh : Pm (nds x) = false := by
      unfold Bc at h
      rw [Bool.and_eq_true, Bool.not_eq_true'] at h
      exact h.1
    rw [hh]
    simp
end Go.Am.Ty
set_option linter.unusedSimpArgs false
set_option linter.unusedVariables false
set_option maxHeartbeats 1000000
namespace Go.Am.Ty
open Go.Proofs
open Enc (enc dec)
structure Part where
  kind : Int
  label : List UInt8
  name : List UInt8
  bind : List UInt8
  many : Int
  num : Int
  t : List Node
  u : List Node
  deriving DecidableEq
instance encPart : Enc Part := ⟨fun a => .agg [.int .i64 a.kind, .str a.label, .str a.name, .str a.bind, .int .i64 a.many, .int .i64 a.num, .list 3 (a.t.map enc), .list 3 (a.u.map enc)], fun x => match x with
  | .agg [a, b, c, d, e, f, g, h] => ⟨a.i, b.s, c.s, d.s, e.i, f.i, g.l.map dec, h.l.map dec⟩
  | _ => ⟨0, [], [], [], 0, 0, [], []⟩, fun a => by
    have h : ∀ l : List Node, (l.map (enc : Node → D)).map dec = l := fun l => Pz
    cases a
    simp [D.l,D.i,D.s,h]⟩
instance szPart : Sz Part := ⟨8⟩
theorem szP : Sz.sz Part = 8 := rfl
theorem Gz {n : Part} : (enc n : D) = .agg [.int .i64 n.kind, .str n.label, .str n.name, .str n.bind, .int .i64 n.many, .int .i64 n.num, .list 3 (n.t.map enc), .list 3 (n.u.map enc)] := rfl
theorem G9 {a : Int} {b c d : List UInt8} {e f : Int} {g h : List Node} : (dec (.agg [.int .i64 a, .str b, .str c, .str d, .int .i64 e, .int .i64 f, .list 3 (g.map enc), .list 3 (h.map enc)]) : Part) = ⟨a, b, c, d, e, f, g, h⟩ := Enc.dec_enc (Part.mk a b c d e f g h)
theorem G8 {a : Int} {b c d : List UInt8} {e f : Int} {g h : List Node} : isE Part (.agg [.int .i64 a, .str b, .str c, .str d, .int .i64 e, .int .i64 f, .list 3 (g.map enc), .list 3 (h.map enc)]) = True := eq_true (B0 (Part.mk a b c d e f g h))
theorem G7 {n : Part} : Part.mk n.kind n.label n.name n.bind n.many n.num n.t n.u = n := rfl
def e0 : Part := ⟨0, [], [], [], 0, 0, [], []⟩
def Fit5 (p : Part) : Prop := (p.t.length ≤ 9223372036854775807 ∧ I0 p.t) ∧ (p.u.length ≤ 9223372036854775807 ∧ I0 p.u) ∧ p.label.length ≤ 9223372036854775807 ∧ p.name.length ≤ 9223372036854775807 ∧ p.bind.length ≤ 9223372036854775807
theorem R9 {p : Nat → Prop} {k : Nat} (h : ∀ j, j < k → p j) (hk : p k) : ∀ j, j < k + 1 → p j := fun j hj => by
  rcases Nat.lt_or_ge j k with h1 | h1
  · exact h j h1
  · have : j = k := by omega
    exact this ▸ hk
def Sq (p : Part) : Int :=
  if p.kind = 2 ∨ p.kind = 8 ∨ p.kind = 11 ∨ p.kind = 12 ∨ p.kind = 13 ∨ p.kind = 14 then 1
  else if p.kind = 3 ∨ p.kind = 4 ∨ p.kind = 5 ∨ p.kind = 9 then 2
  else if p.kind = 6 then 3
  else if p.kind = 7 then maxI p.many 0 + 1
  else if p.kind = 10 then maxI p.many 0
  else 0
def Hr : Con := Sn (fun (p : Part) => p.many ≤ 1000000) (fun p => Sq p)
noncomputable def Fg : Ctx := ⟨tab, lkC [], 60, lkB [], [], false⟩
theorem ctx_Many5_t : Fg.τ = tab := rfl
theorem ctx_Many5_c : Fg.Γ = lkC [] := rfl
theorem ctx_Many5_d : Fg.dp = 60 := rfl
theorem ctx_Many5_b : Fg.Δ = lkB [] := rfl
theorem ctx_Many5_u : Fg.cuts = [] := rfl
theorem ctx_Many5_w : Fg.wr = false := rfl
set_option maxRecDepth 100000 in
theorem good_Many5 : M7 Try.prog (54, Hr) := by
  refine ⟨He Try.func54 (by kernel_rfl) rfl, ?_⟩
  have K : Nh Try.prog Fg := Hl Ny Ht (by simp) (by simp)
  obtain ⟨c, hc⟩ : ∃ c, Try.f54.body = some c := ⟨_, rfl⟩
  refine Hm K Try.func54 hc [.tmp 2] rfl 30 rfl (fun cvs hpre => ?_)
  change Hr.pre cvs at hpre
  unfold Hr at hpre
  obtain ⟨p, rfl, hm⟩ := Nw hpre
  have hmx : maxI p.many 0 = if p.many < 0 then 0 else p.many := rfl
  simp only [Try.f54, Option.some.injEq] at hc
  subst hc
  (sym =>
   simp [Gz,G8,G9,G7,szP,ctx_Many5_t,ctx_Many5_c,ctx_Many5_d,ctx_Many5_b,ctx_Many5_u,ctx_Many5_w,Hr.eq_def,Za,Zb,Zc,Ze,Zf,Zg,Zn,Zo,Zp,Zq,Zr,Zs,Zu,Zv,Zx,Z6,Qa,Qb,Qc,Qg,Qk,Ql,Qm,Qn,Qo,Qp,Qr,Q0,Q1,Q4,Q8,Ja,Jf,Jh,Ji,Jj,Jk,Jl,Jt,Jy,Jz,J5,J6,Xj,Xk,Xl,Xm,Xn,Xo,Xp,Xq,Xr,Xs,Xt,Xu,Xv,Xy,X1,X2,X3,X4,X5,X6,X7,X8,We,Wf,Wg,Wh,Wi,Wj,Wl,Wn,Wo,Wp,Ws,Wt,Wu,Wv,Ww,Wx,Wy,Wz,W0,W3,W4,W5,W6,W7,W8,W9,Ya,Yb,Yc,Yd,Ye,Yf,Yg,Yh,Yi,Yj,Yk,Yl,Ym,Yn,Yo,Yv,Yw,Yx,Yy,Yz,Y1,Y2,Y3,Y4,Y5,Y6,Y7,Y8,Y9,Va,Vb,Vc,Vd,Ve,Vf,Vg,Vh,Vi,Vj,Vk,Vl,Vm,Vn,Vo,Vp,Vq,Vr,Vs,Vt,Vu,Vv,Vw,Vx,Vy,Vz,V0,V1,V2,V3,V4,V5,V6,V7,V8,V9,Ua,Ub,Uc,Ud,Ue,Uf,Ug,Uh,Ui,Uj,Uk,Ul,Um,Un,Uo,Up,Uq,Ur,Us,Ut,Uu,Uv,U1,U2,U5,U6,U7,U8,U9,Ka,Kb,Kc,Kd,Ke,Kf,Kg,Kh,Ki,Kj,Kk,Kl,Km,Kn,Ko,Kq,Kr,Ks,Kt,Ku,Kv,Kw,Kx,Ky,Kz,K0,K1,K2,K3,K4,K5,K6,K7,Gg,Gi,Gj,Gk,Gl,Gm,Gn,Gr,Hg,H2]
   tactic =>
    try simp only [G6] at *
    try simp only [nc2] at *
    try simp (maxSteps := 4000000) only [Gz,G8,G9,G7,szP,Hi]
    repeat' (first | with_reducible assumption | with_reducible refine And.intro ?_ ?_ | intro _ | omega | (rw [Gy]; omega))
    all_goals first
      | (rw [Gy, hmx]; split <;> omega)
      | (unfold Sq; simp_all; done))
def eat5 : List Part → Int → Nat
  | [], _ => 0
  | n :: l, o => if o - 1 + Sq n = 0 then 1 else 1 + eat5 l (o - 1 + Sq n)
def end5 (t : List Part) (i : Int) : Int := if i < 0 ∨ (t.length : Int) ≤ i then -1 else i + eat5 (t.drop i.toNat) 1
def Tame5 (t : List Part) : Prop := t.length ≤ 100000 ∧ ∀ n ∈ t, 0 ≤ Sq n ∧ Sq n ≤ 60 ∧ n.many ≤ 1000000
def Pu : Con := C0 (fun (t : Sl Part) (i : Int) => Tame5 t.l ∧ inR .i64 i) (fun t i => end5 t.l i)
noncomputable def Ax : Ctx := ⟨tab, lkC [(54, Hr)], 60, lkB [], [], false⟩
theorem ctx_End5_t : Ax.τ = tab := rfl
theorem ctx_End5_c : Ax.Γ = lkC [(54, Hr)] := rfl
theorem ctx_End5_d : Ax.dp = 60 := rfl
theorem ctx_End5_b : Ax.Δ = lkB [] := rfl
theorem ctx_End5_u : Ax.cuts = [] := rfl
theorem ctx_End5_w : Ax.wr = false := rfl
set_option maxRecDepth 100000 in
theorem good_End5 : M7 Try.prog (34, Pu) := by
  refine ⟨He Try.func34 (by kernel_rfl) rfl, ?_⟩
  have K : Nh Try.prog Ax := Hl Ny Ht (by
    intro p hp
    simp only [List.mem_cons, List.not_mem_nil, or_false] at hp
    rcases hp with rfl
    · exact good_Many5) (by simp)
  obtain ⟨c, hc⟩ : ∃ c, Try.f34.body = some c := ⟨_, rfl⟩
  refine Hm K Try.func34 hc [.tmp 4] rfl 36 rfl (fun cvs hpre => ?_)
  change Pu.pre cvs at hpre
  unfold Pu at hpre
  obtain ⟨⟨t⟩, i, rfl, ⟨ht, hm⟩, hi⟩ := Mp hpre
  simp only at ht hm
  rw [Gy] at hi
  simp only [Try.f34, Option.some.injEq] at hc
  subst hc
  refine Mn 2 (of_decide_eq_true (by kernel_rfl)) ?_
  (sym =>
   simp [Gz,G8,G9,G7,szP,ctx_End5_t,ctx_End5_c,ctx_End5_d,ctx_End5_b,ctx_End5_u,ctx_End5_w,Pu.eq_def,Hr.eq_def,Za,Zb,Zc,Zd,Ze,Zf,Zg,Zn,Zo,Zp,Zq,Zr,Zs,Zt,Zv,Zy,Z5,Z8,Z9,Qa,Qb,Qc,Qd,Qe,Qf,Qg,Qk,Ql,Qm,Qn,Qo,Qp,Qr,Q0,Q1,Q4,Q8,Q9,Ja,Jf,Jh,Ji,Jj,Jk,Jl,Jt,Jx,Jy,Jz,J0,J1,J2,J5,J6,J7,J8,J9,Xa,Xb,Xc,Xd,Xe,Xf,Xg,Xj,Xk,Xl,Xm,Xn,Xo,Xp,Xq,Xr,Xs,Xt,Xu,Xv,Xw,Xx,Xy,X1,X2,X3,X4,X5,X6,X7,X8,We,Wf,Wg,Wh,Wi,Wj,Wl,Wm,Wn,Wo,Wp,Ws,Wt,Wu,Wv,Ww,Wx,Wy,Wz,W0,W3,W4,W5,W6,W7,W8,W9,Ya,Yb,Yc,Yd,Ye,Yf,Yg,Yh,Yi,Yj,Yk,Yl,Ym,Yn,Yo,Yr,Ys,Yt,Yu,Yv,Yw,Yx,Yy,Yz,Y1,Y2,Y3,Y4,Y5,Y6,Y7,Y8,Y9,Va,Vb,Vc,Vd,Ve,Vf,Vg,Vh,Vi,Vj,Vk,Vl,Vm,Vn,Vo,Vp,Vq,Vr,Vs,Vt,Vu,Vv,Vw,Vx,Vy,Vz,V0,V1,V2,V3,V4,V5,V6,V7,V8,V9,Ua,Ub,Uc,Ud,Ue,Uf,Ug,Uh,Ui,Uj,Uk,Ul,Um,Un,Uo,Up,Uq,Ur,Us,Ut,Uu,Uv,U1,U2,U5,U6,U7,U8,U9,Ka,Kb,Kc,Kd,Ke,Kf,Kg,Kh,Ki,Kj,Kk,Kl,Km,Kn,Ko,Kq,Kr,Ks,Kt,Ku,Kv,Kw,Kx,Ky,Kz,K0,K1,K2,K3,K4,K5,K6,K7,Gg,Gi,Gj,Gk,Gl,Gm,Gn,Gr,Hg,Nc,H2]
   tactic =>
    try simp only [G6] at *
    try simp only [nc2] at *
    try simp (maxSteps := 4000000) only [Gz,G8,G9,G7,szP,Hi]
    repeat' (first | with_reducible assumption | with_reducible refine And.intro ?_ ?_ | intro _ | omega | (rw [Gy]; omega))
    · unfold end5
      rw [if_pos (.inr ‹_›)]
    · obtain ⟨i, rfl⟩ : ∃ n : Nat, i = n := ⟨i.toNat, by omega⟩
      have hil : i < t.length := by omega
      have e00 : end5 t i = i + eat5 (t.drop i) 1 := by
        unfold end5
        rw [if_neg (by omega)]
        rfl
      refine Ho [4, 16, 17, 18, 19, 20, 21, 22, 23, 24, 25, 26, 27, 28, 29, 30, 31, 32, 33] (fun p : Nat × Int => [(5, .d (.int .i64 p.2)), (6, .d (.int .i64 p.1))]) (fun p : Nat × Int => []) (fun p : Nat × Int => i ≤ p.1 ∧ p.1 ≤ t.length ∧ 1 ≤ p.2 ∧ p.2 ≤ 1 + 60 * p.1 ∧ i + eat5 (t.drop i) 1 = p.1 + eat5 (t.drop p.1) p.2) (fun p : Nat × Int => t.length - p.1) (i, 1) ?_ ?_ ?_
      · exact ⟨Nat.le_refl _, by simp only; omega, by simp, by simp only; omega, rfl⟩
      · ((try simp only [G3, Ha, G5, Hf, upd, Hh, Hn, Na, Nat.reduceDiv, Nat.reduceMod, Nat.reduceMul, Nat.reduceAdd, Nat.reduceEqDiff, List.set_cons_zero, List.set_cons_succ, if_true, if_false, reduceIte]); (first | refine Wk.of_fl ?_ | skip); simp only [Wk, wkK, Nd, wkT, wk1, AV.kept, keptAll, wkO, lk, G4, and_true, true_and, and_self, Nat.reduceEqDiff, Nat.reduceLeDiff, if_true, if_false, reduceIte, reduceCtorEq, Option.isSome, false_implies]; try simp [Wk, wkK, wkT, wk1, AV.kept, keptAll, wkO, lk, G4])
      rintro ⟨k, o⟩ ⟨h1, h2, h3, h4, h5⟩
      simp only at h1 h2 h3 h4 h5
      rcases Hq k t.length with ⟨hlt, hlb⟩ | ⟨hlt, hlb⟩
      · have hmk := hm (t.getD k e0) (by simp [hlt])
        have q1 := H7 e0 hlt
        have he : eat5 (t.drop k) o = if o - 1 + Sq (t.getD k e0) = 0 then 1 else 1 + eat5 (t.drop (k + 1)) (o - 1 + Sq (t.getD k e0)) := by
          rw [List.drop_eq_getElem_cons hlt, eat5]
          simp [hlt]
        obtain ⟨x, hx⟩ : ∃ x, t.getD k e0 = x := ⟨_, rfl⟩
        rw [hx] at hmk q1 he
        (sym =>
         simp [hlb,q1,Gz,G8,G9,G7,szP,ctx_End5_t,ctx_End5_c,ctx_End5_d,ctx_End5_b,ctx_End5_u,ctx_End5_w,Pu.eq_def,Hr.eq_def,Za,Zb,Zc,Zd,Ze,Zf,Zg,Zn,Zo,Zp,Zq,Zr,Zs,Zt,Zv,Zy,Z5,Z8,Z9,Qa,Qb,Qc,Qd,Qe,Qf,Qg,Qk,Ql,Qm,Qn,Qo,Qp,Qr,Q0,Q1,Q4,Q8,Q9,Ja,Jf,Jh,Ji,Jj,Jk,Jl,Jt,Jx,Jy,Jz,J0,J1,J2,J5,J6,J7,J8,J9,Xa,Xb,Xc,Xd,Xe,Xf,Xg,Xj,Xk,Xl,Xm,Xn,Xo,Xp,Xq,Xr,Xs,Xt,Xu,Xv,Xw,Xx,Xy,X1,X2,X3,X4,X5,X6,X7,X8,We,Wf,Wg,Wh,Wi,Wj,Wl,Wm,Wn,Wo,Wp,Ws,Wt,Wu,Wv,Ww,Wx,Wy,Wz,W0,W3,W4,W5,W6,W7,W8,W9,Ya,Yb,Yc,Yd,Ye,Yf,Yg,Yh,Yi,Yj,Yk,Yl,Ym,Yn,Yo,Yr,Ys,Yt,Yu,Yv,Yw,Yx,Yy,Yz,Y1,Y2,Y3,Y4,Y5,Y6,Y7,Y8,Y9,Va,Vb,Vc,Vd,Ve,Vf,Vg,Vh,Vi,Vj,Vk,Vl,Vm,Vn,Vo,Vp,Vq,Vr,Vs,Vt,Vu,Vv,Vw,Vx,Vy,Vz,V0,V1,V2,V3,V4,V5,V6,V7,V8,V9,Ua,Ub,Uc,Ud,Ue,Uf,Ug,Uh,Ui,Uj,Uk,Ul,Um,Un,Uo,Up,Uq,Ur,Us,Ut,Uu,Uv,U1,U2,U5,U6,U7,U8,U9,Ka,Kb,Kc,Kd,Ke,Kf,Kg,Kh,Ki,Kj,Kk,Kl,Km,Kn,Ko,Kq,Kr,Ks,Kt,Ku,Kv,Kw,Kx,Ky,Kz,K0,K1,K2,K3,K4,K5,K6,K7,Gg,Gi,Gj,Gk,Gl,Gm,Gn,Gr,Hg,Nc,H2]
         tactic =>
          try simp only [G6] at *
          try simp only [nc2] at *
          try simp (maxSteps := 4000000) only [hlb,q1,Gz,G8,G9,G7,szP,Hi]
          repeat' (first | with_reducible assumption | with_reducible refine And.intro ?_ ?_ | intro _ | omega | (rw [Gy]; omega))
          · rename_i hz
            rw [if_pos hz] at he
            rw [e00]
            omega
          · rename_i hz
            rw [if_neg hz] at he
            exact ⟨(k + 1, o - 1 + Sq x), by ((try simp only [G3, Ha, G5, Hf, upd, Hh, Hn, Na, Nat.reduceDiv, Nat.reduceMod, Nat.reduceMul, Nat.reduceAdd, Nat.reduceEqDiff, List.set_cons_zero, List.set_cons_succ, if_true, if_false, reduceIte]); (first | refine Wk.of_fl ?_ | skip); simp only [Wk, wkK, Nd, wkT, wk1, AV.kept, keptAll, wkO, lk, G4, and_true, true_and, and_self, Nat.reduceEqDiff, Nat.reduceLeDiff, if_true, if_false, reduceIte, reduceCtorEq, Option.isSome, false_implies]; try simp [Wk, wkK, wkT, wk1, AV.kept, keptAll, wkO, lk, G4]), by simp only; omega, by simp only; omega, by simp only; omega, by simp only; omega, by simp only; omega, by simp only; omega⟩)
      · have hd : t.drop k = [] := List.drop_eq_nil_of_le hlt
        rw [hd, eat5] at h5
        (sym =>
         simp [hlb,Gz,G8,G9,G7,szP,ctx_End5_t,ctx_End5_c,ctx_End5_d,ctx_End5_b,ctx_End5_u,ctx_End5_w,Pu.eq_def,Hr.eq_def,Za,Zb,Zc,Zd,Ze,Zf,Zg,Zn,Zo,Zp,Zq,Zr,Zs,Zt,Zv,Zy,Z5,Z8,Z9,Qa,Qb,Qc,Qd,Qe,Qf,Qg,Qk,Ql,Qm,Qn,Qo,Qp,Qr,Q0,Q1,Q4,Q8,Q9,Ja,Jf,Jh,Ji,Jj,Jk,Jl,Jt,Jx,Jy,Jz,J0,J1,J2,J5,J6,J7,J8,J9,Xa,Xb,Xc,Xd,Xe,Xf,Xg,Xj,Xk,Xl,Xm,Xn,Xo,Xp,Xq,Xr,Xs,Xt,Xu,Xv,Xw,Xx,Xy,X1,X2,X3,X4,X5,X6,X7,X8,We,Wf,Wg,Wh,Wi,Wj,Wl,Wm,Wn,Wo,Wp,Ws,Wt,Wu,Wv,Ww,Wx,Wy,Wz,W0,W3,W4,W5,W6,W7,W8,W9,Ya,Yb,Yc,Yd,Ye,Yf,Yg,Yh,Yi,Yj,Yk,Yl,Ym,Yn,Yo,Yr,Ys,Yt,Yu,Yv,Yw,Yx,Yy,Yz,Y1,Y2,Y3,Y4,Y5,Y6,Y7,Y8,Y9,Va,Vb,Vc,Vd,Ve,Vf,Vg,Vh,Vi,Vj,Vk,Vl,Vm,Vn,Vo,Vp,Vq,Vr,Vs,Vt,Vu,Vv,Vw,Vx,Vy,Vz,V0,V1,V2,V3,V4,V5,V6,V7,V8,V9,Ua,Ub,Uc,Ud,Ue,Uf,Ug,Uh,Ui,Uj,Uk,Ul,Um,Un,Uo,Up,Uq,Ur,Us,Ut,Uu,Uv,U1,U2,U5,U6,U7,U8,U9,Ka,Kb,Kc,Kd,Ke,Kf,Kg,Kh,Ki,Kj,Kk,Kl,Km,Kn,Ko,Kq,Kr,Ks,Kt,Ku,Kv,Kw,Kx,Ky,Kz,K0,K1,K2,K3,K4,K5,K6,K7,Gg,Gi,Gj,Gk,Gl,Gm,Gn,Gr,Hg,Nc,H2]
         tactic =>
          try simp only [G6] at *
          try simp only [nc2] at *
          try simp (maxSteps := 4000000) only [hlb,Gz,G8,G9,G7,szP,Hi]
          rw [e00]
          omega)
    · unfold end5
      rw [if_pos (.inl ‹_›)])
theorem eat5_le : ∀ (l : List Part) (o : Int), eat5 l o ≤ l.length
  | [], _ => Nat.le_refl _
  | n :: l, o => by
    have := eat5_le l (o - 1 + Sq n)
    simp only [eat5, List.length_cons]
    split <;> omega
def Bd (t : List Part) : Nat → Nat → List Int
  | 0, _ => []
  | m + 1, at_ => if at_ < t.length then (at_ : Int) :: Bd t m (at_ + eat5 (t.drop at_) 1) else []
def kids5 (t : List Part) (i : Int) : List Int := if i < 0 ∨ (t.length : Int) ≤ i then [] else Bd t (Sq (t.getD i.toNat e0)).toNat (i.toNat + 1)
def Nm : Con := C0 (fun (t : Sl Part) (i : Int) => Tame5 t.l ∧ inR .i64 i) (fun t i => Sl.mk (kids5 t.l i))
noncomputable def Fh : Ctx := ⟨tab, lkC [(34, Pu), (54, Hr)], 60, lkB [], [], false⟩
theorem Io : Fh.τ = tab := rfl
theorem Iq : Fh.Γ = lkC [(34, Pu), (54, Hr)] := rfl
theorem Ip : Fh.dp = 60 := rfl
theorem Ir : Fh.Δ = lkB [] := rfl
theorem Im : Fh.cuts = [] := rfl
theorem Il : Fh.wr = false := rfl
set_option maxRecDepth 100000 in
theorem good_Kids5 : M7 Try.prog (55, Nm) := by
  refine ⟨He Try.func55 (by kernel_rfl) rfl, ?_⟩
  have K : Nh Try.prog Fh := Hl Ny Ht (by
    intro p hp
    simp only [List.mem_cons, List.not_mem_nil, or_false] at hp
    rcases hp with rfl | rfl
    · exact good_End5
    · exact good_Many5) (by simp)
  obtain ⟨c, hc⟩ : ∃ c, Try.f55.body = some c := ⟨_, rfl⟩
  refine Hm K Try.func55 hc [.tmp 4] rfl 43 rfl (fun cvs hpre => ?_)
  change Nm.pre cvs at hpre
  unfold Nm at hpre
  obtain ⟨⟨t⟩, i, rfl, ⟨ht, hm⟩, hi⟩ := Mp hpre
  simp only at ht hm
  rw [Gy] at hi
  simp only [Try.f55, Option.some.injEq] at hc
  subst hc
  refine Mn 2 (of_decide_eq_true (by kernel_rfl)) ?_
  (sym =>
   simp [Gz,G8,G9,G7,szP,Io,Iq,Ip,Ir,Im,Il,Pu.eq_def,Nm.eq_def,Hr.eq_def,Za,Zb,Zc,Zd,Ze,Zf,Zg,Zn,Zo,Zp,Zq,Zr,Zs,Zt,Zv,Zy,Z1,Z3,Z4,Z5,Z8,Z9,Qa,Qb,Qc,Qd,Qe,Qf,Qg,Qk,Ql,Qm,Qn,Qo,Qp,Qr,Q0,Q1,Q4,Q8,Q9,Ja,Jb,Jc,Jd,Je,Jf,Jg,Jh,Ji,Jj,Jk,Jl,Jt,Jx,Jy,Jz,J0,J1,J2,J5,J6,J7,J8,J9,Xa,Xb,Xc,Xd,Xe,Xf,Xg,Xh,Xi,Xj,Xk,Xl,Xm,Xn,Xo,Xp,Xq,Xr,Xs,Xt,Xu,Xv,Xw,Xx,Xy,X1,X2,X3,X4,X5,X6,X7,X8,We,Wf,Wg,Wh,Wi,Wj,Wl,Wm,Wn,Wo,Wp,Ws,Wt,Wu,Wv,Ww,Wx,Wy,Wz,W0,W3,W4,W5,W6,W7,W8,W9,Ya,Yb,Yc,Yd,Ye,Yf,Yg,Yh,Yi,Yj,Yk,Yl,Ym,Yn,Yo,Yr,Ys,Yt,Yu,Yv,Yw,Yx,Yy,Yz,Y1,Y2,Y3,Y4,Y5,Y6,Y7,Y8,Y9,Va,Vb,Vc,Vd,Ve,Vf,Vg,Vh,Vi,Vj,Vk,Vl,Vm,Vn,Vo,Vp,Vq,Vr,Vs,Vt,Vu,Vv,Vw,Vx,Vy,Vz,V0,V1,V2,V3,V4,V5,V6,V7,V8,V9,Ua,Ub,Uc,Ud,Ue,Uf,Ug,Uh,Ui,Uj,Uk,Ul,Um,Un,Uo,Up,Uq,Ur,Us,Ut,Uu,Uv,U1,U2,U3,U4,U5,U6,U7,U8,U9,Ka,Kb,Kc,Kd,Ke,Kf,Kg,Kh,Ki,Kj,Kk,Kl,Km,Kn,Ko,Kq,Kr,Ks,Kt,Ku,Kv,Kw,Kx,Ky,Kz,K0,K1,K2,K3,K4,K5,K6,K7,Gg,Gi,Gj,Gk,Gl,Gm,Gn,Gr,Hg,Nc,H2,Mt]
   tactic =>
    try simp only [G6] at *
    try simp only [nc2] at *
    try simp (maxSteps := 4000000) only [Gz,G8,G9,G7,szP,Hi]
    repeat' (first | with_reducible assumption | with_reducible refine And.intro ?_ ?_ | intro _ | omega | (rw [Gy]; omega))
    · unfold kids5
      rw [if_pos (.inr ‹_›)]
      rfl
    · obtain ⟨i, rfl⟩ : ∃ n : Nat, i = n := ⟨i.toNat, by omega⟩
      have hil : i < t.length := by omega
      have hmi := hm (t.getD i e0) (by simp [hil])
      have q1 := H7 e0 hil
      obtain ⟨M, hM⟩ : ∃ M : Nat, Sq (t.getD i e0) = M := ⟨(Sq (t.getD i e0)).toNat, by omega⟩
      have e00 : kids5 t i = Bd t M (i + 1) := by
        unfold kids5
        rw [if_neg (by omega)]
        simp only [Int.toNat_natCast, hM]
      obtain ⟨x, hx⟩ : ∃ x, t.getD i e0 = x := ⟨_, rfl⟩
      rw [hx] at hmi q1 hM
      refine Ho [20, 21, 22, 23, 24, 25, 26, 27, 28, 29, 30, 31, 32, 33, 34, 35, 36, 37, 38, 39, 40, 41] (fun p : Nat × Nat × List Int => [(5, .sl 8 (p.2.2.map enc).length), (6, .d (.int .i64 p.2.1)), (7, .d (.int .i64 p.1))]) (fun p : Nat × Nat × List Int => [(8, .row 1 (p.2.2.map enc) 0)]) (fun p : Nat × Nat × List Int => p.1 ≤ M ∧ p.2.1 ≤ t.length ∧ p.2.2.length = p.1 ∧ p.2.2 ++ Bd t (M - p.1) p.2.1 = Bd t M (i + 1)) (fun p : Nat × Nat × List Int => M - p.1) (0, i + 1, []) ?_ ?_ ?_
      · exact ⟨Nat.zero_le _, hil, rfl, rfl⟩
      · ((try simp only [G3, Ha, G5, Hf, upd, Hh, Hn, Na, Nat.reduceDiv, Nat.reduceMod, Nat.reduceMul, Nat.reduceAdd, Nat.reduceEqDiff, List.set_cons_zero, List.set_cons_succ, if_true, if_false, reduceIte]); (first | refine Wk.of_fl ?_ | skip); simp only [Wk, wkK, Nd, wkT, wk1, AV.kept, keptAll, wkO, lk, G4, and_true, true_and, and_self, Nat.reduceEqDiff, Nat.reduceLeDiff, if_true, if_false, reduceIte, reduceCtorEq, Option.isSome, false_implies]; try simp [Wk, wkK, wkT, wk1, AV.kept, keptAll, wkO, lk, G4])
      rintro ⟨k, q, out⟩ ⟨h1, h2, h3, h4⟩
      simp only at h1 h2 h3 h4
      rcases Hq k M with ⟨hk, hkb⟩ | ⟨hk, hkb⟩
      · rcases Hq q t.length with ⟨hq, hqb⟩ | ⟨hq, hqb⟩
        · have e1 : M - k = (M - k - 1) + 1 := by omega
          rw [e1, Bd, if_pos hq] at h4
          have hle := eat5_le (t.drop q) 1
          rw [List.length_drop] at hle
          have e2 : end5 t q = ((q + eat5 (t.drop q) 1 : Nat) : Int) := by
            unfold end5
            rw [if_neg (by omega)]
            simp
          have hT : Tame5 t := ⟨ht, hm⟩
          (sym =>
           simp [hkb,hqb,hM,e2,q1,Gz,G8,G9,G7,szP,Io,Iq,Ip,Ir,Im,Il,Pu.eq_def,Nm.eq_def,Hr.eq_def,Za,Zb,Zc,Zd,Ze,Zf,Zg,Zn,Zo,Zp,Zq,Zr,Zs,Zt,Zv,Zy,Z1,Z3,Z4,Z5,Z8,Z9,Qa,Qb,Qc,Qd,Qe,Qf,Qg,Qk,Ql,Qm,Qn,Qo,Qp,Qr,Q0,Q1,Q4,Q8,Q9,Ja,Jb,Jc,Jd,Je,Jf,Jg,Jh,Ji,Jj,Jk,Jl,Jt,Jx,Jy,Jz,J0,J1,J2,J5,J6,J7,J8,J9,Xa,Xb,Xc,Xd,Xe,Xf,Xg,Xh,Xi,Xj,Xk,Xl,Xm,Xn,Xo,Xp,Xq,Xr,Xs,Xt,Xu,Xv,Xw,Xx,Xy,X1,X2,X3,X4,X5,X6,X7,X8,We,Wf,Wg,Wh,Wi,Wj,Wl,Wm,Wn,Wo,Wp,Ws,Wt,Wu,Wv,Ww,Wx,Wy,Wz,W0,W3,W4,W5,W6,W7,W8,W9,Ya,Yb,Yc,Yd,Ye,Yf,Yg,Yh,Yi,Yj,Yk,Yl,Ym,Yn,Yo,Yr,Ys,Yt,Yu,Yv,Yw,Yx,Yy,Yz,Y1,Y2,Y3,Y4,Y5,Y6,Y7,Y8,Y9,Va,Vb,Vc,Vd,Ve,Vf,Vg,Vh,Vi,Vj,Vk,Vl,Vm,Vn,Vo,Vp,Vq,Vr,Vs,Vt,Vu,Vv,Vw,Vx,Vy,Vz,V0,V1,V2,V3,V4,V5,V6,V7,V8,V9,Ua,Ub,Uc,Ud,Ue,Uf,Ug,Uh,Ui,Uj,Uk,Ul,Um,Un,Uo,Up,Uq,Ur,Us,Ut,Uu,Uv,U1,U2,U3,U4,U5,U6,U7,U8,U9,Ka,Kb,Kc,Kd,Ke,Kf,Kg,Kh,Ki,Kj,Kk,Kl,Km,Kn,Ko,Kq,Kr,Ks,Kt,Ku,Kv,Kw,Kx,Ky,Kz,K0,K1,K2,K3,K4,K5,K6,K7,Gg,Gi,Gj,Gk,Gl,Gm,Gn,Gr,Hg,Nc,H2,Mt]
           tactic =>
            try simp only [G6] at *
            try simp only [nc2] at *
            try simp (maxSteps := 4000000) only [hkb,hqb,hM,e2,q1,Gz,G8,G9,G7,szP,Hi]
            repeat' (first | with_reducible assumption | with_reducible refine And.intro ?_ ?_ | intro _ | omega | (rw [Gy]; omega))
            refine ⟨(k + 1, q + eat5 (t.drop q) 1, out ++ [(q : Int)]), by ((try simp only [G3, Ha, G5, Hf, upd, Hh, Hn, Na, Nat.reduceDiv, Nat.reduceMod, Nat.reduceMul, Nat.reduceAdd, Nat.reduceEqDiff, List.set_cons_zero, List.set_cons_succ, if_true, if_false, reduceIte]); (first | refine Wk.of_fl ?_ | skip); simp only [Wk, wkK, Nd, wkT, wk1, AV.kept, keptAll, wkO, lk, G4, and_true, true_and, and_self, Nat.reduceEqDiff, Nat.reduceLeDiff, if_true, if_false, reduceIte, reduceCtorEq, Option.isSome, false_implies]; try simp [Wk, wkK, wkT, wk1, AV.kept, keptAll, wkO, lk, G4]), by simp only; omega, by simp only; omega, by simp [h3], ?_, by simp only; omega⟩
            simp only
            rw [← h4, show M - (k + 1) = M - k - 1 by omega]
            simp)
        · have hz : Bd t (M - k) q = [] := by
            cases hc : M - k with
            | zero => rfl
            | succ c => rw [Bd, if_neg (by omega)]
          rw [hz, List.append_nil] at h4
          (sym =>
           simp [hkb,hqb,hM,q1,Gz,G8,G9,G7,szP,Io,Iq,Ip,Ir,Im,Il,Pu.eq_def,Nm.eq_def,Hr.eq_def,Za,Zb,Zc,Zd,Ze,Zf,Zg,Zn,Zo,Zp,Zq,Zr,Zs,Zt,Zv,Zy,Z1,Z3,Z4,Z5,Z8,Z9,Qa,Qb,Qc,Qd,Qe,Qf,Qg,Qk,Ql,Qm,Qn,Qo,Qp,Qr,Q0,Q1,Q4,Q8,Q9,Ja,Jb,Jc,Jd,Je,Jf,Jg,Jh,Ji,Jj,Jk,Jl,Jt,Jx,Jy,Jz,J0,J1,J2,J5,J6,J7,J8,J9,Xa,Xb,Xc,Xd,Xe,Xf,Xg,Xh,Xi,Xj,Xk,Xl,Xm,Xn,Xo,Xp,Xq,Xr,Xs,Xt,Xu,Xv,Xw,Xx,Xy,X1,X2,X3,X4,X5,X6,X7,X8,We,Wf,Wg,Wh,Wi,Wj,Wl,Wm,Wn,Wo,Wp,Ws,Wt,Wu,Wv,Ww,Wx,Wy,Wz,W0,W3,W4,W5,W6,W7,W8,W9,Ya,Yb,Yc,Yd,Ye,Yf,Yg,Yh,Yi,Yj,Yk,Yl,Ym,Yn,Yo,Yr,Ys,Yt,Yu,Yv,Yw,Yx,Yy,Yz,Y1,Y2,Y3,Y4,Y5,Y6,Y7,Y8,Y9,Va,Vb,Vc,Vd,Ve,Vf,Vg,Vh,Vi,Vj,Vk,Vl,Vm,Vn,Vo,Vp,Vq,Vr,Vs,Vt,Vu,Vv,Vw,Vx,Vy,Vz,V0,V1,V2,V3,V4,V5,V6,V7,V8,V9,Ua,Ub,Uc,Ud,Ue,Uf,Ug,Uh,Ui,Uj,Uk,Ul,Um,Un,Uo,Up,Uq,Ur,Us,Ut,Uu,Uv,U1,U2,U3,U4,U5,U6,U7,U8,U9,Ka,Kb,Kc,Kd,Ke,Kf,Kg,Kh,Ki,Kj,Kk,Kl,Km,Kn,Ko,Kq,Kr,Ks,Kt,Ku,Kv,Kw,Kx,Ky,Kz,K0,K1,K2,K3,K4,K5,K6,K7,Gg,Gi,Gj,Gk,Gl,Gm,Gn,Gr,Hg,Nc,H2,Mt]
           tactic =>
            try simp only [G6] at *
            try simp only [nc2] at *
            try simp (maxSteps := 4000000) only [hkb,hqb,hM,q1,Gz,G8,G9,G7,szP,Hi]
            repeat' (first | with_reducible assumption | with_reducible refine And.intro ?_ ?_ | intro _ | omega | (rw [Gy]; omega))
            rw [e00, h4])
      · have hz : Bd t (M - k) q = [] := by
          rw [show M - k = 0 by omega]
          rfl
        rw [hz, List.append_nil] at h4
        (sym =>
         simp [hkb,hM,q1,Gz,G8,G9,G7,szP,Io,Iq,Ip,Ir,Im,Il,Pu.eq_def,Nm.eq_def,Hr.eq_def,Za,Zb,Zc,Zd,Ze,Zf,Zg,Zn,Zo,Zp,Zq,Zr,Zs,Zt,Zv,Zy,Z1,Z3,Z4,Z5,Z8,Z9,Qa,Qb,Qc,Qd,Qe,Qf,Qg,Qk,Ql,Qm,Qn,Qo,Qp,Qr,Q0,Q1,Q4,Q8,Q9,Ja,Jb,Jc,Jd,Je,Jf,Jg,Jh,Ji,Jj,Jk,Jl,Jt,Jx,Jy,Jz,J0,J1,J2,J5,J6,J7,J8,J9,Xa,Xb,Xc,Xd,Xe,Xf,Xg,Xh,Xi,Xj,Xk,Xl,Xm,Xn,Xo,Xp,Xq,Xr,Xs,Xt,Xu,Xv,Xw,Xx,Xy,X1,X2,X3,X4,X5,X6,X7,X8,We,Wf,Wg,Wh,Wi,Wj,Wl,Wm,Wn,Wo,Wp,Ws,Wt,Wu,Wv,Ww,Wx,Wy,Wz,W0,W3,W4,W5,W6,W7,W8,W9,Ya,Yb,Yc,Yd,Ye,Yf,Yg,Yh,Yi,Yj,Yk,Yl,Ym,Yn,Yo,Yr,Ys,Yt,Yu,Yv,Yw,Yx,Yy,Yz,Y1,Y2,Y3,Y4,Y5,Y6,Y7,Y8,Y9,Va,Vb,Vc,Vd,Ve,Vf,Vg,Vh,Vi,Vj,Vk,Vl,Vm,Vn,Vo,Vp,Vq,Vr,Vs,Vt,Vu,Vv,Vw,Vx,Vy,Vz,V0,V1,V2,V3,V4,V5,V6,V7,V8,V9,Ua,Ub,Uc,Ud,Ue,Uf,Ug,Uh,Ui,Uj,Uk,Ul,Um,Un,Uo,Up,Uq,Ur,Us,Ut,Uu,Uv,U1,U2,U3,U4,U5,U6,U7,U8,U9,Ka,Kb,Kc,Kd,Ke,Kf,Kg,Kh,Ki,Kj,Kk,Kl,Km,Kn,Ko,Kq,Kr,Ks,Kt,Ku,Kv,Kw,Kx,Ky,Kz,K0,K1,K2,K3,K4,K5,K6,K7,Gg,Gi,Gj,Gk,Gl,Gm,Gn,Gr,Hg,Nc,H2,Mt]
         tactic =>
          try simp only [G6] at *
          try simp only [nc2] at *
          try simp (maxSteps := 4000000) only [hkb,hM,q1,Gz,G8,G9,G7,szP,Hi]
          repeat' (first | with_reducible assumption | with_reducible refine And.intro ?_ ?_ | intro _ | omega | (rw [Gy]; omega))
          rw [e00, h4])
    · unfold kids5
      rw [if_pos (.inl ‹_›)]
      rfl)
end Go.Am.Ty
set_option linter.unusedSimpArgs false
set_option linter.unusedVariables false
set_option maxHeartbeats 4000000
namespace Go.Am.Ty
open Go.Proofs
open Enc (enc dec)
def ops5 : List (List UInt8) := [[43], [45], [42], [47], [60], [61, 61], [38, 38], [124, 124], [43, 43]]
def op5 (s : List UInt8) : Bool := ops5.any fun o => o == s
theorem ops_enc : ([.str [43], .str [45], .str [42], .str [47], .str [60], .str [61, 61], .str [38, 38], .str [124, 124], .str [43, 43]] : List D) = ops5.map enc := rfl
theorem allFit_S : ∀ {l : List (List UInt8)}, Oi 1 (l.map enc) = True
  | [] => rfl
  | x :: l => by
    show (D.fits 1 (.str x) ∧ Oi 1 (l.map enc)) = True
    rw [allFit_S, and_true]
    exact eq_true rfl
def Pq : Con := Sn (fun (_ : List UInt8) => True) (fun s => op5 s)
noncomputable def ctx_op5 : Ctx := ⟨tab, lkC [], 60, lkB [], [], false⟩
theorem ctx_op5_t : ctx_op5.τ = tab := rfl
theorem ctx_op5_c : ctx_op5.Γ = lkC [] := rfl
theorem ctx_op5_d : ctx_op5.dp = 60 := rfl
theorem ctx_op5_b : ctx_op5.Δ = lkB [] := rfl
theorem ctx_op5_u : ctx_op5.cuts = [] := rfl
theorem ctx_op5_w : ctx_op5.wr = false := rfl
set_option maxRecDepth 100000 in
theorem good_op5 : M7 Try.prog (53, Pq) := by
  refine ⟨He Try.func53 (by kernel_rfl) rfl, ?_⟩
  have K : Nh Try.prog ctx_op5 := Hl Ny Ht (by simp) (by simp)
  obtain ⟨c, hc⟩ : ∃ c, Try.f53.body = some c := ⟨_, rfl⟩
  refine Hm K Try.func53 hc [.tmp 2] rfl 18 rfl (fun cvs hpre => ?_)
  change Pq.pre cvs at hpre
  unfold Pq at hpre
  obtain ⟨s, rfl, -⟩ := Nw hpre
  obtain ⟨R, hR⟩ : ∃ R, op5 s = R := ⟨_, rfl⟩
  have hR2 := hR
  unfold op5 at hR2
  have hl : ops5.length = 9 := rfl
  have he := ops_enc
  obtain ⟨l, hll⟩ : ∃ l, ops5 = l := ⟨_, rfl⟩
  rw [hll] at hR2 hl he
  have hl3 : (l.length : Int) = 9 := by rw [hl]; rfl
  simp only [Try.f53, Option.some.injEq] at hc
  subst hc
  (sym =>
   simp [he,ctx_op5_t,ctx_op5_c,ctx_op5_d,ctx_op5_b,ctx_op5_u,ctx_op5_w,Pq.eq_def,Za,Zb,Zc,Ze,Zf,Zg,Zn,Zo,Zp,Zq,Zr,Zs,Zv,Zy,Z1,Z5,Qa,Qb,Qc,Qg,Qk,Ql,Qm,Qn,Qo,Qp,Qr,Q0,Q1,Q4,Q8,Ja,Jb,Jc,Jd,Je,Jf,Jg,Jh,Ji,Jj,Jk,Jl,Jt,Jy,Jz,J0,J1,J2,J5,J6,Xh,Xi,Xj,Xk,Xl,Xm,Xn,Xo,Xp,Xq,Xr,Xs,Xt,Xu,Xv,Xy,X1,X2,X3,X4,X5,X6,X7,X8,We,Wf,Wg,Wh,Wi,Wj,Wl,Wm,Wn,Wo,Wp,Ws,Wt,Wu,Wv,Ww,Wx,Wy,Wz,W0,W3,W4,W5,W6,W7,W8,W9,Ya,Yb,Yc,Yd,Ye,Yf,Yg,Yh,Yi,Yj,Yk,Yl,Ym,Yn,Yo,Yu,Yv,Yw,Yx,Yy,Yz,Y1,Y2,Y3,Y4,Y5,Y6,Y7,Y8,Y9,Va,Vb,Vc,Vd,Ve,Vf,Vg,Vh,Vi,Vj,Vk,Vl,Vm,Vn,Vo,Vp,Vq,Vr,Vs,Vt,Vu,Vv,Vw,Vx,Vy,Vz,V0,V1,V2,V3,V4,V5,V6,V7,V8,V9,Ua,Ub,Uc,Ud,Ue,Uf,Ug,Uh,Ui,Uj,Uk,Ul,Um,Un,Uo,Up,Uq,Ur,Us,Ut,Uu,Uv,U1,U2,U3,U4,U5,U6,U7,U8,U9,Ka,Kb,Kc,Kd,Ke,Kf,Kg,Kh,Ki,Kj,Kk,Kl,Km,Kn,Ko,Kq,Kr,Ks,Kt,Ku,Kv,Kw,Kx,Ky,Kz,K0,K1,K2,K3,K4,K5,K6,K7,Gg,Gi,Gj,Gk,Gl,Gm,Gn,Gr,Hg,H3,tab73]
   tactic =>
    try simp only [G6] at *
    try simp only [nc2] at *
    try simp (maxSteps := 4000000) only [he,Hi]
    repeat' (first | with_reducible assumption | with_reducible refine And.intro ?_ ?_ | intro _ | omega | (rw [Gy]; omega))
    · cases l with
      | nil => trivial
      | cons x l => exact ⟨rfl, of_eq_true allFit_S⟩
    refine Ho [2, 6, 7, 8, 9, 10, 11, 12, 13, 14, 15, 16, 17] (fun k : Nat => [(4, .d (.int .i64 k))]) (fun k : Nat => []) (fun k : Nat => k ≤ 9 ∧ ∀ j, j < k → l.getD j [] ≠ s) (fun k : Nat => 9 - k) 0 ?_ ?_ ?_
    · simp
    · ((try simp only [G3, Ha, G5, Hf, upd, Hh, Hn, Na, Nat.reduceDiv, Nat.reduceMod, Nat.reduceMul, Nat.reduceAdd, Nat.reduceEqDiff, List.set_cons_zero, List.set_cons_succ, if_true, if_false, reduceIte]); (first | refine Wk.of_fl ?_ | skip); simp only [Wk, wkK, Nd, wkT, wk1, AV.kept, keptAll, wkO, lk, G4, and_true, true_and, and_self, Nat.reduceEqDiff, Nat.reduceLeDiff, if_true, if_false, reduceIte, reduceCtorEq, Option.isSome, false_implies]; try simp [Wk, wkK, wkT, wk1, AV.kept, keptAll, wkO, lk, G4])
    rintro k ⟨hk, hno⟩
    by_cases hlt : k < 9
    · have hlb : ltB (k : Int) 9 = true := by rw [Ba]; omega
      have q1 := H7 ([] : List UInt8) (show k < l.length by omega)
      have hst : l.getD k [] ≠ s → ∀ j, j < k + 1 → l.getD j [] ≠ s := fun h => R9 hno h
      have hit : (l.getD k [] == s) = true → R = true := fun h => by rw [← hR2]; exact any_at (p := fun o => o == s) [] k (by omega) h
      obtain ⟨y, hy⟩ : ∃ y, l.getD k [] = y := ⟨_, rfl⟩
      rw [hy] at q1 hst hit
      cases hb : (y == s) with
      | true =>
        have hr := hit hb
        subst hr
        (sym =>
         simp [hl3,hlb,q1,hb,hR,ctx_op5_t,ctx_op5_c,ctx_op5_d,ctx_op5_b,ctx_op5_u,ctx_op5_w,Pq.eq_def,Za,Zb,Zc,Ze,Zf,Zg,Zn,Zo,Zp,Zq,Zr,Zs,Zv,Zy,Z1,Z5,Qa,Qb,Qc,Qg,Qk,Ql,Qm,Qn,Qo,Qp,Qr,Q0,Q1,Q4,Q8,Ja,Jb,Jc,Jd,Je,Jf,Jg,Jh,Ji,Jj,Jk,Jl,Jt,Jy,Jz,J0,J1,J2,J5,J6,Xh,Xi,Xj,Xk,Xl,Xm,Xn,Xo,Xp,Xq,Xr,Xs,Xt,Xu,Xv,Xy,X1,X2,X3,X4,X5,X6,X7,X8,We,Wf,Wg,Wh,Wi,Wj,Wl,Wm,Wn,Wo,Wp,Ws,Wt,Wu,Wv,Ww,Wx,Wy,Wz,W0,W3,W4,W5,W6,W7,W8,W9,Ya,Yb,Yc,Yd,Ye,Yf,Yg,Yh,Yi,Yj,Yk,Yl,Ym,Yn,Yo,Yu,Yv,Yw,Yx,Yy,Yz,Y1,Y2,Y3,Y4,Y5,Y6,Y7,Y8,Y9,Va,Vb,Vc,Vd,Ve,Vf,Vg,Vh,Vi,Vj,Vk,Vl,Vm,Vn,Vo,Vp,Vq,Vr,Vs,Vt,Vu,Vv,Vw,Vx,Vy,Vz,V0,V1,V2,V3,V4,V5,V6,V7,V8,V9,Ua,Ub,Uc,Ud,Ue,Uf,Ug,Uh,Ui,Uj,Uk,Ul,Um,Un,Uo,Up,Uq,Ur,Us,Ut,Uu,Uv,U1,U2,U3,U4,U5,U6,U7,U8,U9,Ka,Kb,Kc,Kd,Ke,Kf,Kg,Kh,Ki,Kj,Kk,Kl,Km,Kn,Ko,Kq,Kr,Ks,Kt,Ku,Kv,Kw,Kx,Ky,Kz,K0,K1,K2,K3,K4,K5,K6,K7,Gg,Gi,Gj,Gk,Gl,Gm,Gn,Gr,Hg,H3,tab73]
         tactic =>
          try simp only [G6] at *
          try simp only [nc2] at *
          try simp (maxSteps := 4000000) only [hl3,hlb,q1,hb,hR,Hi]
          repeat' (first | with_reducible assumption | with_reducible refine And.intro ?_ ?_ | intro _ | omega | (rw [Gy]; omega))
          all_goals first
            | (with_reducible refine Hu ?_; kernel_rfl)
            | omega
            | rfl
            | skip)
      | false =>
        have h2 := hst (beq_eq_false_iff_ne.1 hb)
        (sym =>
         simp [hl3,hlb,q1,hb,ctx_op5_t,ctx_op5_c,ctx_op5_d,ctx_op5_b,ctx_op5_u,ctx_op5_w,Pq.eq_def,Za,Zb,Zc,Ze,Zf,Zg,Zn,Zo,Zp,Zq,Zr,Zs,Zv,Zy,Z1,Z5,Qa,Qb,Qc,Qg,Qk,Ql,Qm,Qn,Qo,Qp,Qr,Q0,Q1,Q4,Q8,Ja,Jb,Jc,Jd,Je,Jf,Jg,Jh,Ji,Jj,Jk,Jl,Jt,Jy,Jz,J0,J1,J2,J5,J6,Xh,Xi,Xj,Xk,Xl,Xm,Xn,Xo,Xp,Xq,Xr,Xs,Xt,Xu,Xv,Xy,X1,X2,X3,X4,X5,X6,X7,X8,We,Wf,Wg,Wh,Wi,Wj,Wl,Wm,Wn,Wo,Wp,Ws,Wt,Wu,Wv,Ww,Wx,Wy,Wz,W0,W3,W4,W5,W6,W7,W8,W9,Ya,Yb,Yc,Yd,Ye,Yf,Yg,Yh,Yi,Yj,Yk,Yl,Ym,Yn,Yo,Yu,Yv,Yw,Yx,Yy,Yz,Y1,Y2,Y3,Y4,Y5,Y6,Y7,Y8,Y9,Va,Vb,Vc,Vd,Ve,Vf,Vg,Vh,Vi,Vj,Vk,Vl,Vm,Vn,Vo,Vp,Vq,Vr,Vs,Vt,Vu,Vv,Vw,Vx,Vy,Vz,V0,V1,V2,V3,V4,V5,V6,V7,V8,V9,Ua,Ub,Uc,Ud,Ue,Uf,Ug,Uh,Ui,Uj,Uk,Ul,Um,Un,Uo,Up,Uq,Ur,Us,Ut,Uu,Uv,U1,U2,U3,U4,U5,U6,U7,U8,U9,Ka,Kb,Kc,Kd,Ke,Kf,Kg,Kh,Ki,Kj,Kk,Kl,Km,Kn,Ko,Kq,Kr,Ks,Kt,Ku,Kv,Kw,Kx,Ky,Kz,K0,K1,K2,K3,K4,K5,K6,K7,Gg,Gi,Gj,Gk,Gl,Gm,Gn,Gr,Hg,H3,tab73]
         tactic =>
          try simp only [G6] at *
          try simp only [nc2] at *
          try simp (maxSteps := 4000000) only [hl3,hlb,q1,hb,Hi]
          repeat' (first | with_reducible assumption | with_reducible refine And.intro ?_ ?_ | intro _ | omega | (rw [Gy]; omega))
          all_goals first
            | (with_reducible refine Hu ?_; kernel_rfl)
            | omega
            | exact ⟨k + 1, by ((try simp only [G3, Ha, G5, Hf, upd, Hh, Hn, Na, Nat.reduceDiv, Nat.reduceMod, Nat.reduceMul, Nat.reduceAdd, Nat.reduceEqDiff, List.set_cons_zero, List.set_cons_succ, if_true, if_false, reduceIte]); (first | refine Wk.of_fl ?_ | skip); simp only [Wk, wkK, Nd, wkT, wk1, AV.kept, keptAll, wkO, lk, G4, and_true, true_and, and_self, Nat.reduceEqDiff, Nat.reduceLeDiff, if_true, if_false, reduceIte, reduceCtorEq, Option.isSome, false_implies]; try simp [Wk, wkK, wkT, wk1, AV.kept, keptAll, wkO, lk, G4]), by omega, h2, by omega⟩
            | skip)
    · have hlb : ltB (k : Int) 9 = false := by rw [Me]; omega
      have hr : R = false := by rw [← hR2]; exact any_not (p := fun o => o == s) [] fun j hj => beq_eq_false_iff_ne.2 (hno j (by omega))
      subst hr
      (sym =>
       simp [hl3,hlb,hR,ctx_op5_t,ctx_op5_c,ctx_op5_d,ctx_op5_b,ctx_op5_u,ctx_op5_w,Pq.eq_def,Za,Zb,Zc,Ze,Zf,Zg,Zn,Zo,Zp,Zq,Zr,Zs,Zv,Zy,Z1,Z5,Qa,Qb,Qc,Qg,Qk,Ql,Qm,Qn,Qo,Qp,Qr,Q0,Q1,Q4,Q8,Ja,Jb,Jc,Jd,Je,Jf,Jg,Jh,Ji,Jj,Jk,Jl,Jt,Jy,Jz,J0,J1,J2,J5,J6,Xh,Xi,Xj,Xk,Xl,Xm,Xn,Xo,Xp,Xq,Xr,Xs,Xt,Xu,Xv,Xy,X1,X2,X3,X4,X5,X6,X7,X8,We,Wf,Wg,Wh,Wi,Wj,Wl,Wm,Wn,Wo,Wp,Ws,Wt,Wu,Wv,Ww,Wx,Wy,Wz,W0,W3,W4,W5,W6,W7,W8,W9,Ya,Yb,Yc,Yd,Ye,Yf,Yg,Yh,Yi,Yj,Yk,Yl,Ym,Yn,Yo,Yu,Yv,Yw,Yx,Yy,Yz,Y1,Y2,Y3,Y4,Y5,Y6,Y7,Y8,Y9,Va,Vb,Vc,Vd,Ve,Vf,Vg,Vh,Vi,Vj,Vk,Vl,Vm,Vn,Vo,Vp,Vq,Vr,Vs,Vt,Vu,Vv,Vw,Vx,Vy,Vz,V0,V1,V2,V3,V4,V5,V6,V7,V8,V9,Ua,Ub,Uc,Ud,Ue,Uf,Ug,Uh,Ui,Uj,Uk,Ul,Um,Un,Uo,Up,Uq,Ur,Us,Ut,Uu,Uv,U1,U2,U3,U4,U5,U6,U7,U8,U9,Ka,Kb,Kc,Kd,Ke,Kf,Kg,Kh,Ki,Kj,Kk,Kl,Km,Kn,Ko,Kq,Kr,Ks,Kt,Ku,Kv,Kw,Kx,Ky,Kz,K0,K1,K2,K3,K4,K5,K6,K7,Gg,Gi,Gj,Gk,Gl,Gm,Gn,Gr,Hg,H3,tab73]
       tactic =>
        try simp only [G6] at *
        try simp only [nc2] at *
        try simp (maxSteps := 4000000) only [hl3,hlb,hR,Hi]
        repeat' (first | with_reducible assumption | with_reducible refine And.intro ?_ ?_ | intro _ | omega | (rw [Gy]; omega))))
def cut5 : List UInt8 → Option Nat
  | [] => none
  | c :: s => if c = 33 then some 0 else (cut5 s).map (· + 1)
theorem cut5_at : ∀ {s : List UInt8} {k : Nat}, k < s.length → (∀ j, j < k → s.getD j 0 ≠ 33) → s.getD k 0 = 33 → cut5 s = some k
  | [], k, h, _, _ => by simp at h
  | c :: s, 0, _, _, h => by
    simp only [List.getD_cons_zero] at h
    simp [cut5,h]
  | c :: s, k + 1, h, hno, hk => by
    have h0 := hno 0 (by omega)
    simp only [List.getD_cons_zero] at h0
    rw [cut5, if_neg h0, cut5_at (k := k) (by simpa using h) (fun j hj => by simpa using hno (j + 1) (by omega)) (by simpa using hk)]
    rfl
theorem cut5_none : ∀ {s : List UInt8}, (∀ j, j < s.length → s.getD j 0 ≠ 33) → cut5 s = none
  | [], _ => rfl
  | c :: s, hno => by
    have h0 := hno 0 (by simp)
    simp only [List.getD_cons_zero] at h0
    rw [cut5, if_neg h0, cut5_none fun j hj => by simpa using hno (j + 1) (by simpa using hj)]
    rfl
def name5 (s : List UInt8) : Bool := match cut5 s with
  | some k => B5 (s.take k) && B5 (s.drop (k + 1))
  | none => B5 s
theorem u8_33 {c : UInt8} : ((c.toNat : Int) == 33) = true ↔ c = 33 := by
  rw [beq_iff_eq]
  constructor
  · intro h
    have : c.toNat = 33 := by omega
    exact UInt8.toNat_inj.1 (by rw [this]; rfl)
  · rintro rfl; rfl
def Ms : Con := Sn (fun (s : List UInt8) => s.length ≤ 9223372036854775806) (fun s => name5 s)
noncomputable def E9 : Ctx := ⟨tab, lkC [(47, Hd)], 60, lkB [], [], false⟩
theorem F3 : E9.τ = tab := rfl
theorem F5 : E9.Γ = lkC [(47, Hd)] := rfl
theorem F4 : E9.dp = 60 := rfl
theorem F6 : E9.Δ = lkB [] := rfl
theorem Fz : E9.cuts = [] := rfl
theorem Fy : E9.wr = false := rfl
set_option maxRecDepth 100000 in
theorem good_name5 : M7 Try.prog (52, Ms) := by
  refine ⟨He Try.func52 (by kernel_rfl) rfl, ?_⟩
  have K : Nh Try.prog E9 := Hl Ny Ht (by
    intro p hp
    simp only [List.mem_cons, List.not_mem_nil, or_false] at hp
    rcases hp with rfl
    · exact Rv) (by simp)
  obtain ⟨c, hc⟩ : ∃ c, Try.f52.body = some c := ⟨_, rfl⟩
  refine Hm K Try.func52 hc [.tmp 2] rfl 27 rfl (fun cvs hpre => ?_)
  change Ms.pre cvs at hpre
  unfold Ms at hpre
  obtain ⟨s, rfl, hs⟩ := Nw hpre
  obtain ⟨R, hR⟩ : ∃ R, name5 s = R := ⟨_, rfl⟩
  have hR2 := hR
  unfold name5 at hR2
  simp only [Try.f52, Option.some.injEq] at hc
  subst hc
  (sym =>
   simp [F3,F5,F4,F6,Fz,Fy,Hd.eq_def,Ms.eq_def,Za,Zb,Zc,Zd,Ze,Zf,Zg,Zn,Zo,Zp,Zq,Zr,Zs,Zt,Zv,Zz,Z0,Z5,Z8,Z9,Qa,Qb,Qc,Qd,Qe,Qf,Qg,Qi,Qk,Qm,Qn,Qo,Qp,Qr,Q0,Q1,Q4,Q8,Q9,Ja,Jf,Jh,Ji,Jj,Jk,Jl,Jt,Ju,Jv,Jw,Jy,Jz,J0,J1,J2,J3,J4,J5,J6,Xj,Xk,Xl,Xm,Xn,Xo,Xp,Xq,Xr,Xs,Xt,Xu,Xv,Xy,X1,X2,X3,X4,X5,X6,X7,X8,We,Wf,Wg,Wh,Wi,Wj,Wl,Wm,Wn,Wo,Wp,Ws,Wt,Wu,Wv,Ww,Wx,Wy,Wz,W0,W3,W4,W5,W6,W7,W8,W9,Ya,Yb,Yc,Yd,Ye,Yf,Yg,Yh,Yi,Yj,Yk,Yl,Ym,Yn,Yo,Yp,Yq,Yu,Yv,Yw,Yx,Yy,Yz,Y1,Y2,Y3,Y4,Y5,Y6,Y7,Y8,Y9,Va,Vb,Vc,Vd,Ve,Vf,Vg,Vh,Vi,Vj,Vk,Vl,Vm,Vn,Vo,Vp,Vq,Vr,Vs,Vt,Vu,Vv,Vw,Vx,Vy,Vz,V0,V1,V2,V3,V4,V5,V6,V7,V8,V9,Ua,Ub,Uc,Ud,Ue,Uf,Ug,Uh,Ui,Uj,Uk,Ul,Um,Un,Uo,Up,Uq,Ur,Us,Ut,Uu,Uv,U1,U2,U5,U6,U7,U8,U9,Ka,Kb,Kc,Kd,Ke,Kf,Kg,Kh,Ki,Kj,Kk,Kl,Km,Kn,Ko,Kq,Kr,Ks,Kt,Ku,Kv,Kw,Kx,Ky,Kz,K0,K1,K2,K3,K4,K5,K6,K7,Gg,Gi,Gj,Gk,Gl,Gm,Gn,Gr,Hg,tab5,H3]
   tactic =>
    try simp only [G6] at *
    try simp only [nc2] at *
    try simp (maxSteps := 4000000) only [Hi]
    repeat' (first | with_reducible assumption | with_reducible refine And.intro ?_ ?_ | intro _ | omega | (rw [Gy]; omega))
    refine Ho [2, 4, 5, 6, 7, 8, 9, 10, 11, 12, 13, 14, 15, 16, 17, 18, 19, 20, 21, 22, 23, 24] (fun k : Nat => [(3, .d (.int .i64 k))]) (fun k : Nat => []) (fun k : Nat => k ≤ s.length ∧ ∀ j, j < k → s.getD j 0 ≠ 33) (fun k : Nat => s.length - k) 0 ?_ ?_ ?_
    · simp
    · ((try simp only [G3, Ha, G5, Hf, upd, Hh, Hn, Na, Nat.reduceDiv, Nat.reduceMod, Nat.reduceMul, Nat.reduceAdd, Nat.reduceEqDiff, List.set_cons_zero, List.set_cons_succ, if_true, if_false, reduceIte]); (first | refine Wk.of_fl ?_ | skip); simp only [Wk, wkK, Nd, wkT, wk1, AV.kept, keptAll, wkO, lk, G4, and_true, true_and, and_self, Nat.reduceEqDiff, Nat.reduceLeDiff, if_true, if_false, reduceIte, reduceCtorEq, Option.isSome, false_implies]; try simp [Wk, wkK, wkT, wk1, AV.kept, keptAll, wkO, lk, G4])
    rintro k ⟨hk, hno⟩
    rcases Hq k s.length with ⟨hlt, hlb⟩ | ⟨hlt, hlb⟩
    · have hst : s.getD k 0 ≠ 33 → ∀ j, j < k + 1 → s.getD j 0 ≠ 33 := fun h => R9 hno h
      have hit : s.getD k 0 = 33 → R = (B5 (s.take k) && B5 (s.drop (k + 1))) := fun h => by
        rw [cut5_at hlt hno h] at hR2
        exact hR2.symm
      obtain ⟨y, hy⟩ : ∃ y, s.getD k 0 = y := ⟨_, rfl⟩
      rw [hy] at hst hit
      have hk1 : (k : Int) + 1 = ((k + 1 : Nat) : Int) := rfl
      cases hb : ((y.toNat : Int) == 33) with
      | true =>
        have hr := hit (u8_33.1 hb)
        have l1 : (s.take k).length ≤ 9223372036854775807 := by rw [List.length_take]; omega
        have l2 : (s.drop (k + 1)).length ≤ 9223372036854775807 := by rw [List.length_drop]; omega
        obtain ⟨w1, hw1⟩ : ∃ w, B5 (s.take k) = w := ⟨_, rfl⟩
        obtain ⟨w2, hw2⟩ : ∃ w, B5 (s.drop (k + 1)) = w := ⟨_, rfl⟩
        rw [hw1, hw2] at hr
        cases w1 with
        | true =>
          rw [Bool.true_and] at hr
          subst hr
          (sym =>
           simp [hlb,hy,hb,hw1,hk1,hw2,hR,Ec,Lq,i_U8,Tn,Tp,Ew,F3,F5,F4,F6,Fz,Fy,Hd.eq_def,Ms.eq_def,Za,Zb,Zc,Zd,Ze,Zf,Zg,Zn,Zo,Zp,Zq,Zr,Zs,Zt,Zv,Zz,Z0,Z5,Z8,Z9,Qa,Qb,Qc,Qd,Qe,Qf,Qg,Qi,Qk,Qm,Qn,Qo,Qp,Qr,Q0,Q1,Q4,Q8,Q9,Ja,Jf,Jh,Ji,Jj,Jk,Jl,Jt,Ju,Jv,Jw,Jy,Jz,J0,J1,J2,J3,J4,J5,J6,Xj,Xk,Xl,Xm,Xn,Xo,Xp,Xq,Xr,Xs,Xt,Xu,Xv,Xy,X1,X2,X3,X4,X5,X6,X7,X8,We,Wf,Wg,Wh,Wi,Wj,Wl,Wm,Wn,Wo,Wp,Ws,Wt,Wu,Wv,Ww,Wx,Wy,Wz,W0,W3,W4,W5,W6,W7,W8,W9,Ya,Yb,Yc,Yd,Ye,Yf,Yg,Yh,Yi,Yj,Yk,Yl,Ym,Yn,Yo,Yp,Yq,Yu,Yv,Yw,Yx,Yy,Yz,Y1,Y2,Y3,Y4,Y5,Y6,Y7,Y8,Y9,Va,Vb,Vc,Vd,Ve,Vf,Vg,Vh,Vi,Vj,Vk,Vl,Vm,Vn,Vo,Vp,Vq,Vr,Vs,Vt,Vu,Vv,Vw,Vx,Vy,Vz,V0,V1,V2,V3,V4,V5,V6,V7,V8,V9,Ua,Ub,Uc,Ud,Ue,Uf,Ug,Uh,Ui,Uj,Uk,Ul,Um,Un,Uo,Up,Uq,Ur,Us,Ut,Uu,Uv,U1,U2,U5,U6,U7,U8,U9,Ka,Kb,Kc,Kd,Ke,Kf,Kg,Kh,Ki,Kj,Kk,Kl,Km,Kn,Ko,Kq,Kr,Ks,Kt,Ku,Kv,Kw,Kx,Ky,Kz,K0,K1,K2,K3,K4,K5,K6,K7,Gg,Gi,Gj,Gk,Gl,Gm,Gn,Gr,Hg,tab5,H3]
           tactic =>
            try simp only [G6] at *
            try simp only [nc2] at *
            try simp (maxSteps := 4000000) only [hlb,hy,hb,hw1,hk1,hw2,hR,Ec,Lq,i_U8,Tn,Tp,Ew,Hi]
            repeat' (first | with_reducible assumption | with_reducible refine And.intro ?_ ?_ | intro _ | omega | (rw [Gy]; omega))
            all_goals first
              | (with_reducible refine Hu ?_; kernel_rfl)
              | omega
              | rfl
              | skip)
        | false =>
          rw [Bool.false_and] at hr
          subst hr
          (sym =>
           simp [hlb,hy,hb,hw1,hR,Ec,Lq,i_U8,Tn,Tp,Ew,F3,F5,F4,F6,Fz,Fy,Hd.eq_def,Ms.eq_def,Za,Zb,Zc,Zd,Ze,Zf,Zg,Zn,Zo,Zp,Zq,Zr,Zs,Zt,Zv,Zz,Z0,Z5,Z8,Z9,Qa,Qb,Qc,Qd,Qe,Qf,Qg,Qi,Qk,Qm,Qn,Qo,Qp,Qr,Q0,Q1,Q4,Q8,Q9,Ja,Jf,Jh,Ji,Jj,Jk,Jl,Jt,Ju,Jv,Jw,Jy,Jz,J0,J1,J2,J3,J4,J5,J6,Xj,Xk,Xl,Xm,Xn,Xo,Xp,Xq,Xr,Xs,Xt,Xu,Xv,Xy,X1,X2,X3,X4,X5,X6,X7,X8,We,Wf,Wg,Wh,Wi,Wj,Wl,Wm,Wn,Wo,Wp,Ws,Wt,Wu,Wv,Ww,Wx,Wy,Wz,W0,W3,W4,W5,W6,W7,W8,W9,Ya,Yb,Yc,Yd,Ye,Yf,Yg,Yh,Yi,Yj,Yk,Yl,Ym,Yn,Yo,Yp,Yq,Yu,Yv,Yw,Yx,Yy,Yz,Y1,Y2,Y3,Y4,Y5,Y6,Y7,Y8,Y9,Va,Vb,Vc,Vd,Ve,Vf,Vg,Vh,Vi,Vj,Vk,Vl,Vm,Vn,Vo,Vp,Vq,Vr,Vs,Vt,Vu,Vv,Vw,Vx,Vy,Vz,V0,V1,V2,V3,V4,V5,V6,V7,V8,V9,Ua,Ub,Uc,Ud,Ue,Uf,Ug,Uh,Ui,Uj,Uk,Ul,Um,Un,Uo,Up,Uq,Ur,Us,Ut,Uu,Uv,U1,U2,U5,U6,U7,U8,U9,Ka,Kb,Kc,Kd,Ke,Kf,Kg,Kh,Ki,Kj,Kk,Kl,Km,Kn,Ko,Kq,Kr,Ks,Kt,Ku,Kv,Kw,Kx,Ky,Kz,K0,K1,K2,K3,K4,K5,K6,K7,Gg,Gi,Gj,Gk,Gl,Gm,Gn,Gr,Hg,tab5,H3]
           tactic =>
            try simp only [G6] at *
            try simp only [nc2] at *
            try simp (maxSteps := 4000000) only [hlb,hy,hb,hw1,hR,Ec,Lq,i_U8,Tn,Tp,Ew,Hi]
            repeat' (first | with_reducible assumption | with_reducible refine And.intro ?_ ?_ | intro _ | omega | (rw [Gy]; omega))
            all_goals first
              | (with_reducible refine Hu ?_; kernel_rfl)
              | omega
              | rfl
              | skip)
      | false =>
        have h2 := hst (fun e => by rw [u8_33.2 e] at hb; cases hb)
        (sym =>
         simp [hlb,hy,hb,Ec,Lq,i_U8,Tn,Tp,Ew,F3,F5,F4,F6,Fz,Fy,Hd.eq_def,Ms.eq_def,Za,Zb,Zc,Zd,Ze,Zf,Zg,Zn,Zo,Zp,Zq,Zr,Zs,Zt,Zv,Zz,Z0,Z5,Z8,Z9,Qa,Qb,Qc,Qd,Qe,Qf,Qg,Qi,Qk,Qm,Qn,Qo,Qp,Qr,Q0,Q1,Q4,Q8,Q9,Ja,Jf,Jh,Ji,Jj,Jk,Jl,Jt,Ju,Jv,Jw,Jy,Jz,J0,J1,J2,J3,J4,J5,J6,Xj,Xk,Xl,Xm,Xn,Xo,Xp,Xq,Xr,Xs,Xt,Xu,Xv,Xy,X1,X2,X3,X4,X5,X6,X7,X8,We,Wf,Wg,Wh,Wi,Wj,Wl,Wm,Wn,Wo,Wp,Ws,Wt,Wu,Wv,Ww,Wx,Wy,Wz,W0,W3,W4,W5,W6,W7,W8,W9,Ya,Yb,Yc,Yd,Ye,Yf,Yg,Yh,Yi,Yj,Yk,Yl,Ym,Yn,Yo,Yp,Yq,Yu,Yv,Yw,Yx,Yy,Yz,Y1,Y2,Y3,Y4,Y5,Y6,Y7,Y8,Y9,Va,Vb,Vc,Vd,Ve,Vf,Vg,Vh,Vi,Vj,Vk,Vl,Vm,Vn,Vo,Vp,Vq,Vr,Vs,Vt,Vu,Vv,Vw,Vx,Vy,Vz,V0,V1,V2,V3,V4,V5,V6,V7,V8,V9,Ua,Ub,Uc,Ud,Ue,Uf,Ug,Uh,Ui,Uj,Uk,Ul,Um,Un,Uo,Up,Uq,Ur,Us,Ut,Uu,Uv,U1,U2,U5,U6,U7,U8,U9,Ka,Kb,Kc,Kd,Ke,Kf,Kg,Kh,Ki,Kj,Kk,Kl,Km,Kn,Ko,Kq,Kr,Ks,Kt,Ku,Kv,Kw,Kx,Ky,Kz,K0,K1,K2,K3,K4,K5,K6,K7,Gg,Gi,Gj,Gk,Gl,Gm,Gn,Gr,Hg,tab5,H3]
         tactic =>
          try simp only [G6] at *
          try simp only [nc2] at *
          try simp (maxSteps := 4000000) only [hlb,hy,hb,Ec,Lq,i_U8,Tn,Tp,Ew,Hi]
          repeat' (first | with_reducible assumption | with_reducible refine And.intro ?_ ?_ | intro _ | omega | (rw [Gy]; omega))
          all_goals first
            | (with_reducible refine Hu ?_; kernel_rfl)
            | omega
            | exact ⟨k + 1, by ((try simp only [G3, Ha, G5, Hf, upd, Hh, Hn, Na, Nat.reduceDiv, Nat.reduceMod, Nat.reduceMul, Nat.reduceAdd, Nat.reduceEqDiff, List.set_cons_zero, List.set_cons_succ, if_true, if_false, reduceIte]); (first | refine Wk.of_fl ?_ | skip); simp only [Wk, wkK, Nd, wkT, wk1, AV.kept, keptAll, wkO, lk, G4, and_true, true_and, and_self, Nat.reduceEqDiff, Nat.reduceLeDiff, if_true, if_false, reduceIte, reduceCtorEq, Option.isSome, false_implies]; try simp [Wk, wkK, wkT, wk1, AV.kept, keptAll, wkO, lk, G4]), by omega, h2, by omega⟩
            | skip)
    · have hr : R = B5 s := by
        rw [cut5_none fun j hj => hno j (by omega)] at hR2
        exact hR2.symm
      subst hr
      (sym =>
       simp [hlb,hR,F3,F5,F4,F6,Fz,Fy,Hd.eq_def,Ms.eq_def,Za,Zb,Zc,Zd,Ze,Zf,Zg,Zn,Zo,Zp,Zq,Zr,Zs,Zt,Zv,Zz,Z0,Z5,Z8,Z9,Qa,Qb,Qc,Qd,Qe,Qf,Qg,Qi,Qk,Qm,Qn,Qo,Qp,Qr,Q0,Q1,Q4,Q8,Q9,Ja,Jf,Jh,Ji,Jj,Jk,Jl,Jt,Ju,Jv,Jw,Jy,Jz,J0,J1,J2,J3,J4,J5,J6,Xj,Xk,Xl,Xm,Xn,Xo,Xp,Xq,Xr,Xs,Xt,Xu,Xv,Xy,X1,X2,X3,X4,X5,X6,X7,X8,We,Wf,Wg,Wh,Wi,Wj,Wl,Wm,Wn,Wo,Wp,Ws,Wt,Wu,Wv,Ww,Wx,Wy,Wz,W0,W3,W4,W5,W6,W7,W8,W9,Ya,Yb,Yc,Yd,Ye,Yf,Yg,Yh,Yi,Yj,Yk,Yl,Ym,Yn,Yo,Yp,Yq,Yu,Yv,Yw,Yx,Yy,Yz,Y1,Y2,Y3,Y4,Y5,Y6,Y7,Y8,Y9,Va,Vb,Vc,Vd,Ve,Vf,Vg,Vh,Vi,Vj,Vk,Vl,Vm,Vn,Vo,Vp,Vq,Vr,Vs,Vt,Vu,Vv,Vw,Vx,Vy,Vz,V0,V1,V2,V3,V4,V5,V6,V7,V8,V9,Ua,Ub,Uc,Ud,Ue,Uf,Ug,Uh,Ui,Uj,Uk,Ul,Um,Un,Uo,Up,Uq,Ur,Us,Ut,Uu,Uv,U1,U2,U5,U6,U7,U8,U9,Ka,Kb,Kc,Kd,Ke,Kf,Kg,Kh,Ki,Kj,Kk,Kl,Km,Kn,Ko,Kq,Kr,Ks,Kt,Ku,Kv,Kw,Kx,Ky,Kz,K0,K1,K2,K3,K4,K5,K6,K7,Gg,Gi,Gj,Gk,Gl,Gm,Gn,Gr,Hg,tab5,H3]
       tactic =>
        try simp only [G6] at *
        try simp only [nc2] at *
        try simp (maxSteps := 4000000) only [hlb,hR,Hi]
        repeat' (first | with_reducible assumption | with_reducible refine And.intro ?_ ?_ | intro _ | omega | (rw [Gy]; omega))
        all_goals first
          | (with_reducible refine Hu ?_; kernel_rfl)
          | omega
          | rfl
          | skip))
def plain5 (t : List Node) : Bool := Bc t && Dg t
def Mv : Con := Sn (fun (t : Sl Node) => t.l.length ≤ 9223372036854775807 ∧ I0 t.l) (fun t => plain5 t.l)
noncomputable def Dk : Ctx := ⟨tab, lkC [(10, H5), (26, M5)], 60, lkB [], [], false⟩
theorem ctx_plain5_t : Dk.τ = tab := rfl
theorem ctx_plain5_c : Dk.Γ = lkC [(10, H5), (26, M5)] := rfl
theorem ctx_plain5_d : Dk.dp = 60 := rfl
theorem ctx_plain5_b : Dk.Δ = lkB [] := rfl
theorem ctx_plain5_u : Dk.cuts = [] := rfl
theorem ctx_plain5_w : Dk.wr = false := rfl
set_option maxRecDepth 100000 in
theorem good_plain5 : M7 Try.prog (50, Mv) := by
  refine ⟨He Try.func50 (by kernel_rfl) rfl, ?_⟩
  have K : Nh Try.prog Dk := Hl Ny Ht (by
    intro p hp
    simp only [List.mem_cons, List.not_mem_nil, or_false] at hp
    rcases hp with rfl | rfl
    · exact Ib
    · exact good_Plain3) (by simp)
  obtain ⟨c, hc⟩ : ∃ c, Try.f50.body = some c := ⟨_, rfl⟩
  refine Hm K Try.func50 hc [.tmp 2] rfl 9 rfl (fun cvs hpre => ?_)
  change Mv.pre cvs at hpre
  unfold Mv at hpre
  obtain ⟨⟨t⟩, rfl, ht, hN⟩ := Nw hpre
  simp only at ht hN
  simp only [Try.f50, Option.some.injEq] at hc
  subst hc
  (sym =>
   simp [ctx_plain5_t,ctx_plain5_c,ctx_plain5_d,ctx_plain5_b,ctx_plain5_u,ctx_plain5_w,M5.eq_def,H5.eq_def,Mv.eq_def,Za,Zb,Zc,Zd,Ze,Zf,Zg,Zn,Zo,Zp,Zq,Zr,Zs,Zt,Zv,Z8,Z9,Qa,Qb,Qc,Qd,Qe,Qf,Qg,Qk,Qm,Qn,Qo,Qp,Qr,Q0,Q1,Q4,Q8,Q9,Ja,Jf,Jh,Ji,Jj,Jk,Jl,Jt,Jy,Jz,J5,J6,Xj,Xk,Xl,Xm,Xn,Xo,Xp,Xq,Xr,Xs,Xt,Xu,Xv,Xy,X1,X2,X3,X4,X5,X6,X7,X8,We,Wf,Wg,Wh,Wi,Wj,Wl,Wn,Wo,Wp,Ws,Wt,Wu,Wv,Ww,Wx,Wy,Wz,W0,W3,W4,W5,W6,W7,W8,W9,Ya,Yb,Yc,Yd,Ye,Yf,Yg,Yh,Yi,Yj,Yk,Yl,Ym,Yn,Yo,Yv,Yw,Yx,Yy,Yz,Y1,Y2,Y3,Y4,Y5,Y6,Y7,Y8,Y9,Va,Vb,Vc,Vd,Ve,Vf,Vg,Vh,Vi,Vj,Vk,Vl,Vm,Vn,Vo,Vp,Vq,Vr,Vs,Vt,Vu,Vv,Vw,Vx,Vy,Vz,V0,V1,V2,V3,V4,V5,V6,V7,V8,V9,Ua,Ub,Uc,Ud,Ue,Uf,Ug,Uh,Ui,Uj,Uk,Ul,Um,Un,Uo,Up,Uq,Ur,Us,Ut,Uu,Uv,U1,U2,U5,U6,U7,U8,U9,Ka,Kb,Kc,Kd,Ke,Kf,Kg,Kh,Ki,Kj,Kk,Kl,Km,Kn,Ko,Kq,Kr,Ks,Kt,Ku,Kv,Kw,Kx,Ky,Kz,K0,K1,K2,K3,K4,K5,K6,K7,Gg,Gi,Gj,Gk,Gl,Gm,Gn,Gr,Hc,Hb]
   tactic =>
    try simp only [G6] at *
    try simp only [nc2] at *
    try simp (maxSteps := 4000000) only [Hi]
    repeat' (first | with_reducible assumption | with_reducible refine And.intro ?_ ?_ | intro _ | omega | (rw [Gy]; omega))
    all_goals (unfold plain5; simp_all))
def lit5 (p : Part) (n : Node) : Bool :=
  if p.t.length ≠ 1 ∨ n.name ≠ [] ∨ n.n ≠ 0 ∨ p.num < 0 ∨ 999999999999999999 < p.num then false
  else if n.kind = 1 then p.name == []
  else if n.kind = 2 then p.name == [] && ltB p.num 2
  else if n.kind = 3 then p.num == 0
  else if n.kind = 4 then p.name == [] && p.num == 0
  else false
def literal5 (p : Part) : Bool := lit5 p (p.t.getD 0 n0)
def Nl : Con := Sn (fun (p : Part) => Fit5 p) (fun p => literal5 p)
noncomputable def Sy : Ctx := ⟨tab, lkC [], 60, lkB [], [], false⟩
theorem ctx_literal5_t : Sy.τ = tab := rfl
theorem ctx_literal5_c : Sy.Γ = lkC [] := rfl
theorem ctx_literal5_d : Sy.dp = 60 := rfl
theorem ctx_literal5_b : Sy.Δ = lkB [] := rfl
theorem ctx_literal5_u : Sy.cuts = [] := rfl
theorem ctx_literal5_w : Sy.wr = false := rfl
set_option maxRecDepth 100000 in
theorem good_literal5 : M7 Try.prog (51, Nl) := by
  refine ⟨He Try.func51 (by kernel_rfl) rfl, ?_⟩
  have K : Nh Try.prog Sy := Hl Ny Ht (by simp) (by simp)
  obtain ⟨c, hc⟩ : ∃ c, Try.f51.body = some c := ⟨_, rfl⟩
  refine Hm K Try.func51 hc [.tmp 2] rfl 68 rfl (fun cvs hpre => ?_)
  change Nl.pre cvs at hpre
  unfold Nl at hpre
  obtain ⟨p, rfl, hF⟩ := Nw hpre
  clear hpre
  obtain ⟨R, hR⟩ : ∃ R, literal5 p = R := ⟨_, rfl⟩
  have hR2 := hR
  unfold literal5 at hR2
  simp only [Try.f51, Option.some.injEq] at hc
  subst hc
  refine Mn 4 (of_decide_eq_true (by kernel_rfl)) ?_
  by_cases h1 : p.t.length = 1
  · have hl : ((p.t.length : Int) != 1) = false := by rw [bne_eq_false_iff_eq]; omega
    have q1 := H7 n0 (show 0 < p.t.length by omega)
    obtain ⟨x, hx⟩ : ∃ x, p.t.getD 0 n0 = x := ⟨_, rfl⟩
    rw [hx] at q1 hR2
    clear hx
    (sym =>
     simp [hl,q1,hR,Gz,G8,G9,G7,szP,Gt,Gv,Gx,Gu,szN,Gw,ctx_literal5_t,ctx_literal5_c,ctx_literal5_d,ctx_literal5_b,ctx_literal5_u,ctx_literal5_w,Nl.eq_def,Za,Zb,Zc,Zd,Ze,Zf,Zg,Zn,Zo,Zp,Zq,Zr,Zs,Zt,Zu,Zv,Zx,Zy,Z5,Qa,Qb,Qc,Qg,Qk,Ql,Qm,Qn,Qo,Qp,Qr,Q0,Q1,Q4,Q8,Ja,Jf,Jh,Ji,Jj,Jk,Jl,Jt,Jx,Jy,Jz,J5,J6,J7,J8,J9,Xa,Xb,Xc,Xd,Xe,Xf,Xg,Xj,Xk,Xl,Xm,Xn,Xo,Xp,Xq,Xr,Xs,Xt,Xu,Xv,Xw,Xx,Xy,X1,X2,X3,X4,X5,X6,X7,X8,We,Wf,Wg,Wh,Wi,Wj,Wl,Wn,Wo,Wp,Ws,Wt,Wu,Wv,Ww,Wx,Wy,Wz,W0,W3,W4,W5,W6,W7,W8,W9,Ya,Yb,Yc,Yd,Ye,Yf,Yg,Yh,Yi,Yj,Yk,Yl,Ym,Yn,Yo,Yr,Ys,Yt,Yv,Yw,Yx,Yy,Yz,Y1,Y2,Y3,Y4,Y5,Y6,Y7,Y8,Y9,Va,Vb,Vc,Vd,Ve,Vf,Vg,Vh,Vi,Vj,Vk,Vl,Vm,Vn,Vo,Vp,Vq,Vr,Vs,Vt,Vu,Vv,Vw,Vx,Vy,Vz,V0,V1,V2,V3,V4,V5,V6,V7,V8,V9,Ua,Ub,Uc,Ud,Ue,Uf,Ug,Uh,Ui,Uj,Uk,Ul,Um,Un,Uo,Up,Uq,Ur,Us,Ut,Uu,Uv,U1,U2,U5,U6,U7,U8,U9,Ka,Kb,Kc,Kd,Ke,Kf,Kg,Kh,Ki,Kj,Kk,Kl,Km,Kn,Ko,Kq,Kr,Ks,Kt,Ku,Kv,Kw,Kx,Ky,Kz,K0,K1,K2,K3,K4,K5,K6,K7,Gg,Gi,Gj,Gk,Gl,Gm,Gn,Gr,Az,Hg,H3,Hc,Hb,H2]
     tactic =>
      try simp only [G6] at *
      try simp only [nc2] at *
      try simp (maxSteps := 4000000) only [hl,q1,hR,Gz,G8,G9,G7,szP,Gt,Gv,Gx,Gu,szN,Gw,Hi]
      repeat' (first | with_reducible assumption | with_reducible refine And.intro ?_ ?_ | intro _ | omega | (rw [Gy]; omega))
      all_goals first
        | omega
        | (symm; rw [← hR2]; clear hR2 hR; unfold lit5; simp_all; done)
        | (symm; rw [← hR2]; clear hR2 hR; unfold lit5; simp_all; omega)
        | (symm; rw [← hR2]; clear hR2 hR; unfold lit5; rw [if_neg (by simp_all; omega)]; simp_all [ltB]; done)
        | skip)
  · have hl : ((p.t.length : Int) != 1) = true := by rw [bne_iff_ne]; omega
    unfold lit5 at hR2
    rw [if_pos (.inl h1)] at hR2
    subst hR2
    (sym =>
     simp [hl,hR,Gz,G8,G9,G7,szP,Gt,Gv,Gx,Gu,szN,Gw,ctx_literal5_t,ctx_literal5_c,ctx_literal5_d,ctx_literal5_b,ctx_literal5_u,ctx_literal5_w,Nl.eq_def,Za,Zb,Zc,Zd,Ze,Zf,Zg,Zn,Zo,Zp,Zq,Zr,Zs,Zt,Zu,Zv,Zx,Zy,Z5,Qa,Qb,Qc,Qg,Qk,Ql,Qm,Qn,Qo,Qp,Qr,Q0,Q1,Q4,Q8,Ja,Jf,Jh,Ji,Jj,Jk,Jl,Jt,Jx,Jy,Jz,J5,J6,J7,J8,J9,Xa,Xb,Xc,Xd,Xe,Xf,Xg,Xj,Xk,Xl,Xm,Xn,Xo,Xp,Xq,Xr,Xs,Xt,Xu,Xv,Xw,Xx,Xy,X1,X2,X3,X4,X5,X6,X7,X8,We,Wf,Wg,Wh,Wi,Wj,Wl,Wn,Wo,Wp,Ws,Wt,Wu,Wv,Ww,Wx,Wy,Wz,W0,W3,W4,W5,W6,W7,W8,W9,Ya,Yb,Yc,Yd,Ye,Yf,Yg,Yh,Yi,Yj,Yk,Yl,Ym,Yn,Yo,Yr,Ys,Yt,Yv,Yw,Yx,Yy,Yz,Y1,Y2,Y3,Y4,Y5,Y6,Y7,Y8,Y9,Va,Vb,Vc,Vd,Ve,Vf,Vg,Vh,Vi,Vj,Vk,Vl,Vm,Vn,Vo,Vp,Vq,Vr,Vs,Vt,Vu,Vv,Vw,Vx,Vy,Vz,V0,V1,V2,V3,V4,V5,V6,V7,V8,V9,Ua,Ub,Uc,Ud,Ue,Uf,Ug,Uh,Ui,Uj,Uk,Ul,Um,Un,Uo,Up,Uq,Ur,Us,Ut,Uu,Uv,U1,U2,U5,U6,U7,U8,U9,Ka,Kb,Kc,Kd,Ke,Kf,Kg,Kh,Ki,Kj,Kk,Kl,Km,Kn,Ko,Kq,Kr,Ks,Kt,Ku,Kv,Kw,Kx,Ky,Kz,K0,K1,K2,K3,K4,K5,K6,K7,Gg,Gi,Gj,Gk,Gl,Gm,Gn,Gr,Az,Hg,H3,Hc,Hb,H2])
end Go.Am.Ty
set_option linter.unusedSimpArgs false
set_option linter.unusedVariables false
set_option maxHeartbeats 0
namespace Go.Am.Ty
open Go.Proofs
open Enc (enc dec)
def Pa (p : Part) (w tg b t u li na op : Bool) : Bool :=
  if p.kind ≠ 0 ∧ p.kind ≠ 14 ∧ p.num ≠ 0 then false
  else if p.kind = 0 then ((p.bind == [] && p.many == 0) && ((p.u.length : Int) == 0)) && li
  else if p.kind = 1 then (((p.bind == [] && p.many == 0) && ((p.t.length : Int) == 0)) && ((p.u.length : Int) == 0)) && na
  else if p.kind = 2 ∨ p.kind = 4 then (((p.name == [] && p.many == 0) && b) && t) && ((p.u.length : Int) == 0)
  else if p.kind = 3 ∨ p.kind = 6 then ((p.name == [] && (p.bind == [] && p.many == 0)) && ((p.t.length : Int) == 0)) && ((p.u.length : Int) == 0)
  else if p.kind = 5 then (((w && p.many == 0) && b) && t) && u
  else if p.kind = 7 then ((((p.name == [] && p.bind == []) && leB 1 p.many) && leB p.many 50) && ((p.t.length : Int) == 0)) && ((p.u.length : Int) == 0)
  else if p.kind = 8 then (((p.name == [] && p.many == 0) && b) && ((p.t.length : Int) == 0)) && ((p.u.length : Int) == 0)
  else if p.kind = 9 then ((op && (p.bind == [] && p.many == 0)) && ((p.t.length : Int) == 0)) && ((p.u.length : Int) == 0)
  else if p.kind = 10 then ((((p.name == [] && p.bind == []) && leB 0 p.many) && leB p.many 50) && ((p.t.length : Int) == 0)) && ((p.u.length : Int) == 0)
  else if p.kind = 11 then ((w && (p.bind == [] && p.many == 0)) && ((p.t.length : Int) == 0)) && ((p.u.length : Int) == 0)
  else if p.kind = 12 then ((tg && (p.bind == [] && p.many == 0)) && t) && ((p.u.length : Int) == 0)
  else if p.kind = 13 then ((p.name == [] && (p.bind == [] && p.many == 0)) && t) && ((p.u.length : Int) == 0)
  else if p.kind = 14 then (((p.name == [] && (p.bind == [] && p.many == 0)) && t) && u) && leB 0 p.num
  else false
def uses5 (p : Part) : Bool := Pa p (B5 p.name) (Ox p.name) (B5 p.bind) (plain5 p.t) (plain5 p.u) (literal5 p) (name5 p.name) (op5 p.name)
def Mf : Con := Sn (fun (p : Part) => Fit5 p ∧ p.name.length ≤ 9223372036854775806) (fun p => uses5 p)
noncomputable def E6 : Ctx := ⟨tab, lkC [(47, Hd), (48, Hk), (50, Mv), (51, Nl), (52, Ms), (53, Pq)], 60, lkB [], [], false⟩
theorem Pe : E6.τ = tab := rfl
theorem Pg : E6.Γ = lkC [(47, Hd), (48, Hk), (50, Mv), (51, Nl), (52, Ms), (53, Pq)] := rfl
theorem Pf : E6.dp = 60 := rfl
theorem Ph : E6.Δ = lkB [] := rfl
theorem Pd : E6.cuts = [] := rfl
theorem Pc : E6.wr = false := rfl
set_option maxRecDepth 100000 in
theorem good_uses5 : M7 Try.prog (33, Mf) := by
  refine ⟨He Try.func33 (by kernel_rfl) rfl, ?_⟩
  have K : Nh Try.prog E6 := Hl Ny Ht (by
    intro p hp
    simp only [List.mem_cons, List.not_mem_nil, or_false] at hp
    rcases hp with rfl | rfl | rfl | rfl | rfl | rfl
    · exact Rv
    · exact good_IsTag1
    · exact good_plain5
    · exact good_literal5
    · exact good_name5
    · exact good_op5) (by simp)
  obtain ⟨c, hc⟩ : ∃ c, Try.f33.body = some c := ⟨_, rfl⟩
  refine Hm K Try.func33 hc [.tmp 2] rfl 275 rfl (fun cvs hpre => ?_)
  change Mf.pre cvs at hpre
  unfold Mf at hpre
  obtain ⟨p, rfl, hF, hn⟩ := Nw hpre
  clear hpre
  have hF2 := hF
  obtain ⟨⟨f1, f2⟩, ⟨f3, f4⟩, f5, f6, f7⟩ := hF2
  obtain ⟨R, hR⟩ : ∃ R, uses5 p = R := ⟨_, rfl⟩
  have hR2 := hR
  unfold uses5 at hR2
  obtain ⟨w, hw⟩ : ∃ w, B5 p.name = w := ⟨_, rfl⟩
  obtain ⟨tg, htg⟩ : ∃ w, Ox p.name = w := ⟨_, rfl⟩
  obtain ⟨b, hb⟩ : ∃ w, B5 p.bind = w := ⟨_, rfl⟩
  obtain ⟨t, ht⟩ : ∃ w, plain5 p.t = w := ⟨_, rfl⟩
  obtain ⟨u, hu⟩ : ∃ w, plain5 p.u = w := ⟨_, rfl⟩
  obtain ⟨li, hli⟩ : ∃ w, literal5 p = w := ⟨_, rfl⟩
  obtain ⟨na, hna⟩ : ∃ w, name5 p.name = w := ⟨_, rfl⟩
  obtain ⟨op, hop⟩ : ∃ w, op5 p.name = w := ⟨_, rfl⟩
  rw [hw, htg, hb, ht, hu, hli, hna, hop] at hR2
  simp only [Try.f33, Option.some.injEq] at hc
  subst hc
  refine Mn 17 (of_decide_eq_true (by kernel_rfl)) ?_
  by_cases hc : p.kind = 0
  · have k0 : (p.kind == 0) = true := beq_iff_eq.2 hc
    have k1 : (p.kind == 1) = false := beq_eq_false_iff_ne.2 (by omega)
    have k2 : (p.kind == 2) = false := beq_eq_false_iff_ne.2 (by omega)
    have k3 : (p.kind == 3) = false := beq_eq_false_iff_ne.2 (by omega)
    have k4 : (p.kind == 4) = false := beq_eq_false_iff_ne.2 (by omega)
    have k5 : (p.kind == 5) = false := beq_eq_false_iff_ne.2 (by omega)
    have k6 : (p.kind == 6) = false := beq_eq_false_iff_ne.2 (by omega)
    have k7 : (p.kind == 7) = false := beq_eq_false_iff_ne.2 (by omega)
    have k8 : (p.kind == 8) = false := beq_eq_false_iff_ne.2 (by omega)
    have k9 : (p.kind == 9) = false := beq_eq_false_iff_ne.2 (by omega)
    have k10 : (p.kind == 10) = false := beq_eq_false_iff_ne.2 (by omega)
    have k11 : (p.kind == 11) = false := beq_eq_false_iff_ne.2 (by omega)
    have k12 : (p.kind == 12) = false := beq_eq_false_iff_ne.2 (by omega)
    have k13 : (p.kind == 13) = false := beq_eq_false_iff_ne.2 (by omega)
    have k14 : (p.kind == 14) = false := beq_eq_false_iff_ne.2 (by omega)
    have m0 : (p.kind != 0) = false := by rw [bne, k0]; rfl
    have m14 : (p.kind != 14) = true := by rw [bne, k14]; rfl
    (sym =>
     simp [hw,htg,hb,ht,hu,hli,hna,hop,hR,k0,k1,k2,k3,k4,k5,k6,k7,k8,k9,k10,k11,k12,k13,k14,m0,m14,Gz,G8,G9,G7,szP,szN,Pe,Pg,Pf,Ph,Pd,Pc,Hk.eq_def,Hd.eq_def,Nl.eq_def,Ms.eq_def,Pq.eq_def,Mv.eq_def,Mf.eq_def,Za,Zb,Zc,Zd,Ze,Zf,Zg,Zh,Zi,Zj,Zk,Zl,Zm,Zn,Zo,Zp,Zq,Zr,Zs,Zt,Zu,Zv,Zx,Z5,Z8,Z9,Qa,Qb,Qc,Qd,Qe,Qf,Qg,Qk,Ql,Qm,Qn,Qo,Qp,Qq,Qr,Q0,Q1,Q4,Q5,Q6,Q8,Q9,Ja,Jf,Jh,Ji,Jj,Jk,Jl,Jt,Jx,Jy,Jz,J5,J6,J7,J8,J9,Xa,Xb,Xc,Xd,Xe,Xf,Xg,Xj,Xk,Xl,Xm,Xn,Xo,Xp,Xq,Xr,Xs,Xt,Xu,Xv,Xw,Xx,Xy,X1,X2,X3,X4,X5,X6,X7,X8,We,Wf,Wg,Wh,Wi,Wj,Wl,Wn,Wo,Wp,Wq,Wr,Ws,Wt,Wu,Wv,Ww,Wx,Wy,Wz,W0,W3,W4,W5,W6,W7,W8,W9,Ya,Yb,Yc,Yd,Ye,Yf,Yg,Yh,Yi,Yj,Yk,Yl,Ym,Yn,Yo,Yr,Ys,Yt,Yv,Yw,Yx,Yy,Yz,Y1,Y2,Y3,Y4,Y5,Y6,Y7,Y8,Y9,Va,Vb,Vc,Vd,Ve,Vf,Vg,Vh,Vi,Vj,Vk,Vl,Vm,Vn,Vo,Vp,Vq,Vr,Vs,Vt,Vu,Vv,Vw,Vx,Vy,Vz,V0,V1,V2,V3,V4,V5,V6,V7,V8,V9,Ua,Ub,Uc,Ud,Ue,Uf,Ug,Uh,Ui,Uj,Uk,Ul,Um,Un,Uo,Up,Uq,Ur,Us,Ut,Uu,Uv,U1,U2,U5,U6,U7,U8,U9,Ka,Kb,Kc,Kd,Ke,Kf,Kg,Kh,Ki,Kj,Kk,Kl,Km,Kn,Ko,Kq,Kr,Ks,Kt,Ku,Kv,Kw,Kx,Ky,Kz,K0,K1,K2,K3,K4,K5,K6,K7,Gg,Gi,Gj,Gk,Gl,Gm,Gn,Gr,Gs,Az,Hg,H3,Hc,Hb,H2]
     tactic =>
      try simp only [G6] at *
      try simp only [nc2] at *
      try simp (maxSteps := 4000000) only [hw,htg,hb,ht,hu,hli,hna,hop,hR,k0,k1,k2,k3,k4,k5,k6,k7,k8,k9,k10,k11,k12,k13,k14,m0,m14,Gz,G8,G9,G7,szP,szN,Hi]
      repeat' (first | with_reducible assumption | with_reducible refine And.intro ?_ ?_ | intro _ | omega | (rw [Gy]; omega))
      all_goals first
        | (with_reducible refine Hu ?_; kernel_rfl)
        | omega
        | (symm; rw [← hR2]; clear hR2 hR hF f1 f2 f3 f4 f5 f6 f7 hn K hw htg hb ht hu hli hna hop k0 k1 k2 k3 k4 k5 k6 k7 k8 k9 k10 k11 k12 k13 k14 m0 m14; unfold Pa; simp_all; done)
        | (symm; rw [← hR2]; clear hR2 hR hF f1 f2 f3 f4 f5 f6 f7 hn K hw htg hb ht hu hli hna hop k0 k1 k2 k3 k4 k5 k6 k7 k8 k9 k10 k11 k12 k13 k14 m0 m14; unfold Pa leB; simp_all; done)
        | (symm; rw [← hR2]; clear hR2 hR hF f1 f2 f3 f4 f5 f6 f7 hn K hw htg hb ht hu hli hna hop k0 k1 k2 k3 k4 k5 k6 k7 k8 k9 k10 k11 k12 k13 k14 m0 m14; unfold Pa leB; simp_all; omega)
        | skip)
  have c0 := hc
  clear hc
  by_cases hc : p.kind = 1
  · have k0 : (p.kind == 0) = false := beq_eq_false_iff_ne.2 (by omega)
    have k1 : (p.kind == 1) = true := beq_iff_eq.2 hc
    have k2 : (p.kind == 2) = false := beq_eq_false_iff_ne.2 (by omega)
    have k3 : (p.kind == 3) = false := beq_eq_false_iff_ne.2 (by omega)
    have k4 : (p.kind == 4) = false := beq_eq_false_iff_ne.2 (by omega)
    have k5 : (p.kind == 5) = false := beq_eq_false_iff_ne.2 (by omega)
    have k6 : (p.kind == 6) = false := beq_eq_false_iff_ne.2 (by omega)
    have k7 : (p.kind == 7) = false := beq_eq_false_iff_ne.2 (by omega)
    have k8 : (p.kind == 8) = false := beq_eq_false_iff_ne.2 (by omega)
    have k9 : (p.kind == 9) = false := beq_eq_false_iff_ne.2 (by omega)
    have k10 : (p.kind == 10) = false := beq_eq_false_iff_ne.2 (by omega)
    have k11 : (p.kind == 11) = false := beq_eq_false_iff_ne.2 (by omega)
    have k12 : (p.kind == 12) = false := beq_eq_false_iff_ne.2 (by omega)
    have k13 : (p.kind == 13) = false := beq_eq_false_iff_ne.2 (by omega)
    have k14 : (p.kind == 14) = false := beq_eq_false_iff_ne.2 (by omega)
    have m0 : (p.kind != 0) = true := by rw [bne, k0]; rfl
    have m14 : (p.kind != 14) = true := by rw [bne, k14]; rfl
    (sym =>
     simp [hw,htg,hb,ht,hu,hli,hna,hop,hR,k0,k1,k2,k3,k4,k5,k6,k7,k8,k9,k10,k11,k12,k13,k14,m0,m14,Gz,G8,G9,G7,szP,szN,Pe,Pg,Pf,Ph,Pd,Pc,Hk.eq_def,Hd.eq_def,Nl.eq_def,Ms.eq_def,Pq.eq_def,Mv.eq_def,Mf.eq_def,Za,Zb,Zc,Zd,Ze,Zf,Zg,Zh,Zi,Zj,Zk,Zl,Zm,Zn,Zo,Zp,Zq,Zr,Zs,Zt,Zu,Zv,Zx,Z5,Z8,Z9,Qa,Qb,Qc,Qd,Qe,Qf,Qg,Qk,Ql,Qm,Qn,Qo,Qp,Qq,Qr,Q0,Q1,Q4,Q5,Q6,Q8,Q9,Ja,Jf,Jh,Ji,Jj,Jk,Jl,Jt,Jx,Jy,Jz,J5,J6,J7,J8,J9,Xa,Xb,Xc,Xd,Xe,Xf,Xg,Xj,Xk,Xl,Xm,Xn,Xo,Xp,Xq,Xr,Xs,Xt,Xu,Xv,Xw,Xx,Xy,X1,X2,X3,X4,X5,X6,X7,X8,We,Wf,Wg,Wh,Wi,Wj,Wl,Wn,Wo,Wp,Wq,Wr,Ws,Wt,Wu,Wv,Ww,Wx,Wy,Wz,W0,W3,W4,W5,W6,W7,W8,W9,Ya,Yb,Yc,Yd,Ye,Yf,Yg,Yh,Yi,Yj,Yk,Yl,Ym,Yn,Yo,Yr,Ys,Yt,Yv,Yw,Yx,Yy,Yz,Y1,Y2,Y3,Y4,Y5,Y6,Y7,Y8,Y9,Va,Vb,Vc,Vd,Ve,Vf,Vg,Vh,Vi,Vj,Vk,Vl,Vm,Vn,Vo,Vp,Vq,Vr,Vs,Vt,Vu,Vv,Vw,Vx,Vy,Vz,V0,V1,V2,V3,V4,V5,V6,V7,V8,V9,Ua,Ub,Uc,Ud,Ue,Uf,Ug,Uh,Ui,Uj,Uk,Ul,Um,Un,Uo,Up,Uq,Ur,Us,Ut,Uu,Uv,U1,U2,U5,U6,U7,U8,U9,Ka,Kb,Kc,Kd,Ke,Kf,Kg,Kh,Ki,Kj,Kk,Kl,Km,Kn,Ko,Kq,Kr,Ks,Kt,Ku,Kv,Kw,Kx,Ky,Kz,K0,K1,K2,K3,K4,K5,K6,K7,Gg,Gi,Gj,Gk,Gl,Gm,Gn,Gr,Gs,Az,Hg,H3,Hc,Hb,H2]
     tactic =>
      try simp only [G6] at *
      try simp only [nc2] at *
      try simp (maxSteps := 4000000) only [hw,htg,hb,ht,hu,hli,hna,hop,hR,k0,k1,k2,k3,k4,k5,k6,k7,k8,k9,k10,k11,k12,k13,k14,m0,m14,Gz,G8,G9,G7,szP,szN,Hi]
      repeat' (first | with_reducible assumption | with_reducible refine And.intro ?_ ?_ | intro _ | omega | (rw [Gy]; omega))
      all_goals first
        | (with_reducible refine Hu ?_; kernel_rfl)
        | omega
        | (symm; rw [← hR2]; clear hR2 hR hF f1 f2 f3 f4 f5 f6 f7 hn K hw htg hb ht hu hli hna hop k0 k1 k2 k3 k4 k5 k6 k7 k8 k9 k10 k11 k12 k13 k14 m0 m14; unfold Pa; simp_all; done)
        | (symm; rw [← hR2]; clear hR2 hR hF f1 f2 f3 f4 f5 f6 f7 hn K hw htg hb ht hu hli hna hop k0 k1 k2 k3 k4 k5 k6 k7 k8 k9 k10 k11 k12 k13 k14 m0 m14; unfold Pa leB; simp_all; done)
        | (symm; rw [← hR2]; clear hR2 hR hF f1 f2 f3 f4 f5 f6 f7 hn K hw htg hb ht hu hli hna hop k0 k1 k2 k3 k4 k5 k6 k7 k8 k9 k10 k11 k12 k13 k14 m0 m14; unfold Pa leB; simp_all; omega)
        | skip)
  have c1 := hc
  clear hc
  by_cases hc : p.kind = 2
  · have k0 : (p.kind == 0) = false := beq_eq_false_iff_ne.2 (by omega)
    have k1 : (p.kind == 1) = false := beq_eq_false_iff_ne.2 (by omega)
    have k2 : (p.kind == 2) = true := beq_iff_eq.2 hc
    have k3 : (p.kind == 3) = false := beq_eq_false_iff_ne.2 (by omega)
    have k4 : (p.kind == 4) = false := beq_eq_false_iff_ne.2 (by omega)
    have k5 : (p.kind == 5) = false := beq_eq_false_iff_ne.2 (by omega)
    have k6 : (p.kind == 6) = false := beq_eq_false_iff_ne.2 (by omega)
    have k7 : (p.kind == 7) = false := beq_eq_false_iff_ne.2 (by omega)
    have k8 : (p.kind == 8) = false := beq_eq_false_iff_ne.2 (by omega)
    have k9 : (p.kind == 9) = false := beq_eq_false_iff_ne.2 (by omega)
    have k10 : (p.kind == 10) = false := beq_eq_false_iff_ne.2 (by omega)
    have k11 : (p.kind == 11) = false := beq_eq_false_iff_ne.2 (by omega)
    have k12 : (p.kind == 12) = false := beq_eq_false_iff_ne.2 (by omega)
    have k13 : (p.kind == 13) = false := beq_eq_false_iff_ne.2 (by omega)
    have k14 : (p.kind == 14) = false := beq_eq_false_iff_ne.2 (by omega)
    have m0 : (p.kind != 0) = true := by rw [bne, k0]; rfl
    have m14 : (p.kind != 14) = true := by rw [bne, k14]; rfl
    (sym =>
     simp [hw,htg,hb,ht,hu,hli,hna,hop,hR,k0,k1,k2,k3,k4,k5,k6,k7,k8,k9,k10,k11,k12,k13,k14,m0,m14,Gz,G8,G9,G7,szP,szN,Pe,Pg,Pf,Ph,Pd,Pc,Hk.eq_def,Hd.eq_def,Nl.eq_def,Ms.eq_def,Pq.eq_def,Mv.eq_def,Mf.eq_def,Za,Zb,Zc,Zd,Ze,Zf,Zg,Zh,Zi,Zj,Zk,Zl,Zm,Zn,Zo,Zp,Zq,Zr,Zs,Zt,Zu,Zv,Zx,Z5,Z8,Z9,Qa,Qb,Qc,Qd,Qe,Qf,Qg,Qk,Ql,Qm,Qn,Qo,Qp,Qq,Qr,Q0,Q1,Q4,Q5,Q6,Q8,Q9,Ja,Jf,Jh,Ji,Jj,Jk,Jl,Jt,Jx,Jy,Jz,J5,J6,J7,J8,J9,Xa,Xb,Xc,Xd,Xe,Xf,Xg,Xj,Xk,Xl,Xm,Xn,Xo,Xp,Xq,Xr,Xs,Xt,Xu,Xv,Xw,Xx,Xy,X1,X2,X3,X4,X5,X6,X7,X8,We,Wf,Wg,Wh,Wi,Wj,Wl,Wn,Wo,Wp,Wq,Wr,Ws,Wt,Wu,Wv,Ww,Wx,Wy,Wz,W0,W3,W4,W5,W6,W7,W8,W9,Ya,Yb,Yc,Yd,Ye,Yf,Yg,Yh,Yi,Yj,Yk,Yl,Ym,Yn,Yo,Yr,Ys,Yt,Yv,Yw,Yx,Yy,Yz,Y1,Y2,Y3,Y4,Y5,Y6,Y7,Y8,Y9,Va,Vb,Vc,Vd,Ve,Vf,Vg,Vh,Vi,Vj,Vk,Vl,Vm,Vn,Vo,Vp,Vq,Vr,Vs,Vt,Vu,Vv,Vw,Vx,Vy,Vz,V0,V1,V2,V3,V4,V5,V6,V7,V8,V9,Ua,Ub,Uc,Ud,Ue,Uf,Ug,Uh,Ui,Uj,Uk,Ul,Um,Un,Uo,Up,Uq,Ur,Us,Ut,Uu,Uv,U1,U2,U5,U6,U7,U8,U9,Ka,Kb,Kc,Kd,Ke,Kf,Kg,Kh,Ki,Kj,Kk,Kl,Km,Kn,Ko,Kq,Kr,Ks,Kt,Ku,Kv,Kw,Kx,Ky,Kz,K0,K1,K2,K3,K4,K5,K6,K7,Gg,Gi,Gj,Gk,Gl,Gm,Gn,Gr,Gs,Az,Hg,H3,Hc,Hb,H2]
     tactic =>
      try simp only [G6] at *
      try simp only [nc2] at *
      try simp (maxSteps := 4000000) only [hw,htg,hb,ht,hu,hli,hna,hop,hR,k0,k1,k2,k3,k4,k5,k6,k7,k8,k9,k10,k11,k12,k13,k14,m0,m14,Gz,G8,G9,G7,szP,szN,Hi]
      repeat' (first | with_reducible assumption | with_reducible refine And.intro ?_ ?_ | intro _ | omega | (rw [Gy]; omega))
      all_goals first
        | (with_reducible refine Hu ?_; kernel_rfl)
        | omega
        | (symm; rw [← hR2]; clear hR2 hR hF f1 f2 f3 f4 f5 f6 f7 hn K hw htg hb ht hu hli hna hop k0 k1 k2 k3 k4 k5 k6 k7 k8 k9 k10 k11 k12 k13 k14 m0 m14; unfold Pa; simp_all; done)
        | (symm; rw [← hR2]; clear hR2 hR hF f1 f2 f3 f4 f5 f6 f7 hn K hw htg hb ht hu hli hna hop k0 k1 k2 k3 k4 k5 k6 k7 k8 k9 k10 k11 k12 k13 k14 m0 m14; unfold Pa leB; simp_all; done)
        | (symm; rw [← hR2]; clear hR2 hR hF f1 f2 f3 f4 f5 f6 f7 hn K hw htg hb ht hu hli hna hop k0 k1 k2 k3 k4 k5 k6 k7 k8 k9 k10 k11 k12 k13 k14 m0 m14; unfold Pa leB; simp_all; omega)
        | skip)
  have c2 := hc
  clear hc
  by_cases hc : p.kind = 3
  · have k0 : (p.kind == 0) = false := beq_eq_false_iff_ne.2 (by omega)
    have k1 : (p.kind == 1) = false := beq_eq_false_iff_ne.2 (by omega)
    have k2 : (p.kind == 2) = false := beq_eq_false_iff_ne.2 (by omega)
    have k3 : (p.kind == 3) = true := beq_iff_eq.2 hc
    have k4 : (p.kind == 4) = false := beq_eq_false_iff_ne.2 (by omega)
    have k5 : (p.kind == 5) = false := beq_eq_false_iff_ne.2 (by omega)
    have k6 : (p.kind == 6) = false := beq_eq_false_iff_ne.2 (by omega)
    have k7 : (p.kind == 7) = false := beq_eq_false_iff_ne.2 (by omega)
    have k8 : (p.kind == 8) = false := beq_eq_false_iff_ne.2 (by omega)
    have k9 : (p.kind == 9) = false := beq_eq_false_iff_ne.2 (by omega)
    have k10 : (p.kind == 10) = false := beq_eq_false_iff_ne.2 (by omega)
    have k11 : (p.kind == 11) = false := beq_eq_false_iff_ne.2 (by omega)
    have k12 : (p.kind == 12) = false := beq_eq_false_iff_ne.2 (by omega)
    have k13 : (p.kind == 13) = false := beq_eq_false_iff_ne.2 (by omega)
    have k14 : (p.kind == 14) = false := beq_eq_false_iff_ne.2 (by omega)
    have m0 : (p.kind != 0) = true := by rw [bne, k0]; rfl
    have m14 : (p.kind != 14) = true := by rw [bne, k14]; rfl
    (sym =>
     simp [hw,htg,hb,ht,hu,hli,hna,hop,hR,k0,k1,k2,k3,k4,k5,k6,k7,k8,k9,k10,k11,k12,k13,k14,m0,m14,Gz,G8,G9,G7,szP,szN,Pe,Pg,Pf,Ph,Pd,Pc,Hk.eq_def,Hd.eq_def,Nl.eq_def,Ms.eq_def,Pq.eq_def,Mv.eq_def,Mf.eq_def,Za,Zb,Zc,Zd,Ze,Zf,Zg,Zh,Zi,Zj,Zk,Zl,Zm,Zn,Zo,Zp,Zq,Zr,Zs,Zt,Zu,Zv,Zx,Z5,Z8,Z9,Qa,Qb,Qc,Qd,Qe,Qf,Qg,Qk,Ql,Qm,Qn,Qo,Qp,Qq,Qr,Q0,Q1,Q4,Q5,Q6,Q8,Q9,Ja,Jf,Jh,Ji,Jj,Jk,Jl,Jt,Jx,Jy,Jz,J5,J6,J7,J8,J9,Xa,Xb,Xc,Xd,Xe,Xf,Xg,Xj,Xk,Xl,Xm,Xn,Xo,Xp,Xq,Xr,Xs,Xt,Xu,Xv,Xw,Xx,Xy,X1,X2,X3,X4,X5,X6,X7,X8,We,Wf,Wg,Wh,Wi,Wj,Wl,Wn,Wo,Wp,Wq,Wr,Ws,Wt,Wu,Wv,Ww,Wx,Wy,Wz,W0,W3,W4,W5,W6,W7,W8,W9,Ya,Yb,Yc,Yd,Ye,Yf,Yg,Yh,Yi,Yj,Yk,Yl,Ym,Yn,Yo,Yr,Ys,Yt,Yv,Yw,Yx,Yy,Yz,Y1,Y2,Y3,Y4,Y5,Y6,Y7,Y8,Y9,Va,Vb,Vc,Vd,Ve,Vf,Vg,Vh,Vi,Vj,Vk,Vl,Vm,Vn,Vo,Vp,Vq,Vr,Vs,Vt,Vu,Vv,Vw,Vx,Vy,Vz,V0,V1,V2,V3,V4,V5,V6,V7,V8,V9,Ua,Ub,Uc,Ud,Ue,Uf,Ug,Uh,Ui,Uj,Uk,Ul,Um,Un,Uo,Up,Uq,Ur,Us,Ut,Uu,Uv,U1,U2,U5,U6,U7,U8,U9,Ka,Kb,Kc,Kd,Ke,Kf,Kg,Kh,Ki,Kj,Kk,Kl,Km,Kn,Ko,Kq,Kr,Ks,Kt,Ku,Kv,Kw,Kx,Ky,Kz,K0,K1,K2,K3,K4,K5,K6,K7,Gg,Gi,Gj,Gk,Gl,Gm,Gn,Gr,Gs,Az,Hg,H3,Hc,Hb,H2]
     tactic =>
      try simp only [G6] at *
      try simp only [nc2] at *
      try simp (maxSteps := 4000000) only [hw,htg,hb,ht,hu,hli,hna,hop,hR,k0,k1,k2,k3,k4,k5,k6,k7,k8,k9,k10,k11,k12,k13,k14,m0,m14,Gz,G8,G9,G7,szP,szN,Hi]
      repeat' (first | with_reducible assumption | with_reducible refine And.intro ?_ ?_ | intro _ | omega | (rw [Gy]; omega))
      all_goals first
        | (with_reducible refine Hu ?_; kernel_rfl)
        | omega
        | (symm; rw [← hR2]; clear hR2 hR hF f1 f2 f3 f4 f5 f6 f7 hn K hw htg hb ht hu hli hna hop k0 k1 k2 k3 k4 k5 k6 k7 k8 k9 k10 k11 k12 k13 k14 m0 m14; unfold Pa; simp_all; done)
        | (symm; rw [← hR2]; clear hR2 hR hF f1 f2 f3 f4 f5 f6 f7 hn K hw htg hb ht hu hli hna hop k0 k1 k2 k3 k4 k5 k6 k7 k8 k9 k10 k11 k12 k13 k14 m0 m14; unfold Pa leB; simp_all; done)
        | (symm; rw [← hR2]; clear hR2 hR hF f1 f2 f3 f4 f5 f6 f7 hn K hw htg hb ht hu hli hna hop k0 k1 k2 k3 k4 k5 k6 k7 k8 k9 k10 k11 k12 k13 k14 m0 m14; unfold Pa leB; simp_all; omega)
        | skip)
  have c3 := hc
  clear hc
  by_cases hc : p.kind = 4
  · have k0 : (p.kind == 0) = false := beq_eq_false_iff_ne.2 (by omega)
    have k1 : (p.kind == 1) = false := beq_eq_false_iff_ne.2 (by omega)
    have k2 : (p.kind == 2) = false := beq_eq_false_iff_ne.2 (by omega)
    have k3 : (p.kind == 3) = false := beq_eq_false_iff_ne.2 (by omega)
    have k4 : (p.kind == 4) = true := beq_iff_eq.2 hc
    have k5 : (p.kind == 5) = false := beq_eq_false_iff_ne.2 (by omega)
    have k6 : (p.kind == 6) = false := beq_eq_false_iff_ne.2 (by omega)
    have k7 : (p.kind == 7) = false := beq_eq_false_iff_ne.2 (by omega)
    have k8 : (p.kind == 8) = false := beq_eq_false_iff_ne.2 (by omega)
    have k9 : (p.kind == 9) = false := beq_eq_false_iff_ne.2 (by omega)
    have k10 : (p.kind == 10) = false := beq_eq_false_iff_ne.2 (by omega)
    have k11 : (p.kind == 11) = false := beq_eq_false_iff_ne.2 (by omega)
    have k12 : (p.kind == 12) = false := beq_eq_false_iff_ne.2 (by omega)
    have k13 : (p.kind == 13) = false := beq_eq_false_iff_ne.2 (by omega)
    have k14 : (p.kind == 14) = false := beq_eq_false_iff_ne.2 (by omega)
    have m0 : (p.kind != 0) = true := by rw [bne, k0]; rfl
    have m14 : (p.kind != 14) = true := by rw [bne, k14]; rfl
    (sym =>
     simp [hw,htg,hb,ht,hu,hli,hna,hop,hR,k0,k1,k2,k3,k4,k5,k6,k7,k8,k9,k10,k11,k12,k13,k14,m0,m14,Gz,G8,G9,G7,szP,szN,Pe,Pg,Pf,Ph,Pd,Pc,Hk.eq_def,Hd.eq_def,Nl.eq_def,Ms.eq_def,Pq.eq_def,Mv.eq_def,Mf.eq_def,Za,Zb,Zc,Zd,Ze,Zf,Zg,Zh,Zi,Zj,Zk,Zl,Zm,Zn,Zo,Zp,Zq,Zr,Zs,Zt,Zu,Zv,Zx,Z5,Z8,Z9,Qa,Qb,Qc,Qd,Qe,Qf,Qg,Qk,Ql,Qm,Qn,Qo,Qp,Qq,Qr,Q0,Q1,Q4,Q5,Q6,Q8,Q9,Ja,Jf,Jh,Ji,Jj,Jk,Jl,Jt,Jx,Jy,Jz,J5,J6,J7,J8,J9,Xa,Xb,Xc,Xd,Xe,Xf,Xg,Xj,Xk,Xl,Xm,Xn,Xo,Xp,Xq,Xr,Xs,Xt,Xu,Xv,Xw,Xx,Xy,X1,X2,X3,X4,X5,X6,X7,X8,We,Wf,Wg,Wh,Wi,Wj,Wl,Wn,Wo,Wp,Wq,Wr,Ws,Wt,Wu,Wv,Ww,Wx,Wy,Wz,W0,W3,W4,W5,W6,W7,W8,W9,Ya,Yb,Yc,Yd,Ye,Yf,Yg,Yh,Yi,Yj,Yk,Yl,Ym,Yn,Yo,Yr,Ys,Yt,Yv,Yw,Yx,Yy,Yz,Y1,Y2,Y3,Y4,Y5,Y6,Y7,Y8,Y9,Va,Vb,Vc,Vd,Ve,Vf,Vg,Vh,Vi,Vj,Vk,Vl,Vm,Vn,Vo,Vp,Vq,Vr,Vs,Vt,Vu,Vv,Vw,Vx,Vy,Vz,V0,V1,V2,V3,V4,V5,V6,V7,V8,V9,Ua,Ub,Uc,Ud,Ue,Uf,Ug,Uh,Ui,Uj,Uk,Ul,Um,Un,Uo,Up,Uq,Ur,Us,Ut,Uu,Uv,U1,U2,U5,U6,U7,U8,U9,Ka,Kb,Kc,Kd,Ke,Kf,Kg,Kh,Ki,Kj,Kk,Kl,Km,Kn,Ko,Kq,Kr,Ks,Kt,Ku,Kv,Kw,Kx,Ky,Kz,K0,K1,K2,K3,K4,K5,K6,K7,Gg,Gi,Gj,Gk,Gl,Gm,Gn,Gr,Gs,Az,Hg,H3,Hc,Hb,H2]
     tactic =>
      try simp only [G6] at *
      try simp only [nc2] at *
      try simp (maxSteps := 4000000) only [hw,htg,hb,ht,hu,hli,hna,hop,hR,k0,k1,k2,k3,k4,k5,k6,k7,k8,k9,k10,k11,k12,k13,k14,m0,m14,Gz,G8,G9,G7,szP,szN,Hi]
      repeat' (first | with_reducible assumption | with_reducible refine And.intro ?_ ?_ | intro _ | omega | (rw [Gy]; omega))
      all_goals first
        | (with_reducible refine Hu ?_; kernel_rfl)
        | omega
        | (symm; rw [← hR2]; clear hR2 hR hF f1 f2 f3 f4 f5 f6 f7 hn K hw htg hb ht hu hli hna hop k0 k1 k2 k3 k4 k5 k6 k7 k8 k9 k10 k11 k12 k13 k14 m0 m14; unfold Pa; simp_all; done)
        | (symm; rw [← hR2]; clear hR2 hR hF f1 f2 f3 f4 f5 f6 f7 hn K hw htg hb ht hu hli hna hop k0 k1 k2 k3 k4 k5 k6 k7 k8 k9 k10 k11 k12 k13 k14 m0 m14; unfold Pa leB; simp_all; done)
        | (symm; rw [← hR2]; clear hR2 hR hF f1 f2 f3 f4 f5 f6 f7 hn K hw htg hb ht hu hli hna hop k0 k1 k2 k3 k4 k5 k6 k7 k8 k9 k10 k11 k12 k13 k14 m0 m14; unfold Pa leB; simp_all; omega)
        | skip)
  have c4 := hc
  clear hc
  by_cases hc : p.kind = 5
  · have k0 : (p.kind == 0) = false := beq_eq_false_iff_ne.2 (by omega)
    have k1 : (p.kind == 1) = false := beq_eq_false_iff_ne.2 (by omega)
    have k2 : (p.kind == 2) = false := beq_eq_false_iff_ne.2 (by omega)
    have k3 : (p.kind == 3) = false := beq_eq_false_iff_ne.2 (by omega)
    have k4 : (p.kind == 4) = false := beq_eq_false_iff_ne.2 (by omega)
    have k5 : (p.kind == 5) = true := beq_iff_eq.2 hc
    have k6 : (p.kind == 6) = false := beq_eq_false_iff_ne.2 (by omega)
    have k7 : (p.kind == 7) = false := beq_eq_false_iff_ne.2 (by omega)
    have k8 : (p.kind == 8) = false := beq_eq_false_iff_ne.2 (by omega)
    have k9 : (p.kind == 9) = false := beq_eq_false_iff_ne.2 (by omega)
    have k10 : (p.kind == 10) = false := beq_eq_false_iff_ne.2 (by omega)
    have k11 : (p.kind == 11) = false := beq_eq_false_iff_ne.2 (by omega)
    have k12 : (p.kind == 12) = false := beq_eq_false_iff_ne.2 (by omega)
    have k13 : (p.kind == 13) = false := beq_eq_false_iff_ne.2 (by omega)
    have k14 : (p.kind == 14) = false := beq_eq_false_iff_ne.2 (by omega)
    have m0 : (p.kind != 0) = true := by rw [bne, k0]; rfl
    have m14 : (p.kind != 14) = true := by rw [bne, k14]; rfl
    (sym =>
     simp [hw,htg,hb,ht,hu,hli,hna,hop,hR,k0,k1,k2,k3,k4,k5,k6,k7,k8,k9,k10,k11,k12,k13,k14,m0,m14,Gz,G8,G9,G7,szP,szN,Pe,Pg,Pf,Ph,Pd,Pc,Hk.eq_def,Hd.eq_def,Nl.eq_def,Ms.eq_def,Pq.eq_def,Mv.eq_def,Mf.eq_def,Za,Zb,Zc,Zd,Ze,Zf,Zg,Zh,Zi,Zj,Zk,Zl,Zm,Zn,Zo,Zp,Zq,Zr,Zs,Zt,Zu,Zv,Zx,Z5,Z8,Z9,Qa,Qb,Qc,Qd,Qe,Qf,Qg,Qk,Ql,Qm,Qn,Qo,Qp,Qq,Qr,Q0,Q1,Q4,Q5,Q6,Q8,Q9,Ja,Jf,Jh,Ji,Jj,Jk,Jl,Jt,Jx,Jy,Jz,J5,J6,J7,J8,J9,Xa,Xb,Xc,Xd,Xe,Xf,Xg,Xj,Xk,Xl,Xm,Xn,Xo,Xp,Xq,Xr,Xs,Xt,Xu,Xv,Xw,Xx,Xy,X1,X2,X3,X4,X5,X6,X7,X8,We,Wf,Wg,Wh,Wi,Wj,Wl,Wn,Wo,Wp,Wq,Wr,Ws,Wt,Wu,Wv,Ww,Wx,Wy,Wz,W0,W3,W4,W5,W6,W7,W8,W9,Ya,Yb,Yc,Yd,Ye,Yf,Yg,Yh,Yi,Yj,Yk,Yl,Ym,Yn,Yo,Yr,Ys,Yt,Yv,Yw,Yx,Yy,Yz,Y1,Y2,Y3,Y4,Y5,Y6,Y7,Y8,Y9,Va,Vb,Vc,Vd,Ve,Vf,Vg,Vh,Vi,Vj,Vk,Vl,Vm,Vn,Vo,Vp,Vq,Vr,Vs,Vt,Vu,Vv,Vw,Vx,Vy,Vz,V0,V1,V2,V3,V4,V5,V6,V7,V8,V9,Ua,Ub,Uc,Ud,Ue,Uf,Ug,Uh,Ui,Uj,Uk,Ul,Um,Un,Uo,Up,Uq,Ur,Us,Ut,Uu,Uv,U1,U2,U5,U6,U7,U8,U9,Ka,Kb,Kc,Kd,Ke,Kf,Kg,Kh,Ki,Kj,Kk,Kl,Km,Kn,Ko,Kq,Kr,Ks,Kt,Ku,Kv,Kw,Kx,Ky,Kz,K0,K1,K2,K3,K4,K5,K6,K7,Gg,Gi,Gj,Gk,Gl,Gm,Gn,Gr,Gs,Az,Hg,H3,Hc,Hb,H2]
     tactic =>
      try simp only [G6] at *
      try simp only [nc2] at *
      try simp (maxSteps := 4000000) only [hw,htg,hb,ht,hu,hli,hna,hop,hR,k0,k1,k2,k3,k4,k5,k6,k7,k8,k9,k10,k11,k12,k13,k14,m0,m14,Gz,G8,G9,G7,szP,szN,Hi]
      repeat' (first | with_reducible assumption | with_reducible refine And.intro ?_ ?_ | intro _ | omega | (rw [Gy]; omega))
      all_goals first
        | (with_reducible refine Hu ?_; kernel_rfl)
        | omega
        | (symm; rw [← hR2]; clear hR2 hR hF f1 f2 f3 f4 f5 f6 f7 hn K hw htg hb ht hu hli hna hop k0 k1 k2 k3 k4 k5 k6 k7 k8 k9 k10 k11 k12 k13 k14 m0 m14; unfold Pa; simp_all; done)
        | (symm; rw [← hR2]; clear hR2 hR hF f1 f2 f3 f4 f5 f6 f7 hn K hw htg hb ht hu hli hna hop k0 k1 k2 k3 k4 k5 k6 k7 k8 k9 k10 k11 k12 k13 k14 m0 m14; unfold Pa leB; simp_all; done)
        | (symm; rw [← hR2]; clear hR2 hR hF f1 f2 f3 f4 f5 f6 f7 hn K hw htg hb ht hu hli hna hop k0 k1 k2 k3 k4 k5 k6 k7 k8 k9 k10 k11 k12 k13 k14 m0 m14; unfold Pa leB; simp_all; omega)
        | skip)
  have c5 := hc
  clear hc
  by_cases hc : p.kind = 6
  · have k0 : (p.kind == 0) = false := beq_eq_false_iff_ne.2 (by omega)
    have k1 : (p.kind == 1) = false := beq_eq_false_iff_ne.2 (by omega)
    have k2 : (p.kind == 2) = false := beq_eq_false_iff_ne.2 (by omega)
    have k3 : (p.kind == 3) = false := beq_eq_false_iff_ne.2 (by omega)
    have k4 : (p.kind == 4) = false := beq_eq_false_iff_ne.2 (by omega)
    have k5 : (p.kind == 5) = false := beq_eq_false_iff_ne.2 (by omega)
    have k6 : (p.kind == 6) = true := beq_iff_eq.2 hc
    have k7 : (p.kind == 7) = false := beq_eq_false_iff_ne.2 (by omega)
    have k8 : (p.kind == 8) = false := beq_eq_false_iff_ne.2 (by omega)
    have k9 : (p.kind == 9) = false := beq_eq_false_iff_ne.2 (by omega)
    have k10 : (p.kind == 10) = false := beq_eq_false_iff_ne.2 (by omega)
    have k11 : (p.kind == 11) = false := beq_eq_false_iff_ne.2 (by omega)
    have k12 : (p.kind == 12) = false := beq_eq_false_iff_ne.2 (by omega)
    have k13 : (p.kind == 13) = false := beq_eq_false_iff_ne.2 (by omega)
    have k14 : (p.kind == 14) = false := beq_eq_false_iff_ne.2 (by omega)
    have m0 : (p.kind != 0) = true := by rw [bne, k0]; rfl
    have m14 : (p.kind != 14) = true := by rw [bne, k14]; rfl
    (sym =>
     simp [hw,htg,hb,ht,hu,hli,hna,hop,hR,k0,k1,k2,k3,k4,k5,k6,k7,k8,k9,k10,k11,k12,k13,k14,m0,m14,Gz,G8,G9,G7,szP,szN,Pe,Pg,Pf,Ph,Pd,Pc,Hk.eq_def,Hd.eq_def,Nl.eq_def,Ms.eq_def,Pq.eq_def,Mv.eq_def,Mf.eq_def,Za,Zb,Zc,Zd,Ze,Zf,Zg,Zh,Zi,Zj,Zk,Zl,Zm,Zn,Zo,Zp,Zq,Zr,Zs,Zt,Zu,Zv,Zx,Z5,Z8,Z9,Qa,Qb,Qc,Qd,Qe,Qf,Qg,Qk,Ql,Qm,Qn,Qo,Qp,Qq,Qr,Q0,Q1,Q4,Q5,Q6,Q8,Q9,Ja,Jf,Jh,Ji,Jj,Jk,Jl,Jt,Jx,Jy,Jz,J5,J6,J7,J8,J9,Xa,Xb,Xc,Xd,Xe,Xf,Xg,Xj,Xk,Xl,Xm,Xn,Xo,Xp,Xq,Xr,Xs,Xt,Xu,Xv,Xw,Xx,Xy,X1,X2,X3,X4,X5,X6,X7,X8,We,Wf,Wg,Wh,Wi,Wj,Wl,Wn,Wo,Wp,Wq,Wr,Ws,Wt,Wu,Wv,Ww,Wx,Wy,Wz,W0,W3,W4,W5,W6,W7,W8,W9,Ya,Yb,Yc,Yd,Ye,Yf,Yg,Yh,Yi,Yj,Yk,Yl,Ym,Yn,Yo,Yr,Ys,Yt,Yv,Yw,Yx,Yy,Yz,Y1,Y2,Y3,Y4,Y5,Y6,Y7,Y8,Y9,Va,Vb,Vc,Vd,Ve,Vf,Vg,Vh,Vi,Vj,Vk,Vl,Vm,Vn,Vo,Vp,Vq,Vr,Vs,Vt,Vu,Vv,Vw,Vx,Vy,Vz,V0,V1,V2,V3,V4,V5,V6,V7,V8,V9,Ua,Ub,Uc,Ud,Ue,Uf,Ug,Uh,Ui,Uj,Uk,Ul,Um,Un,Uo,Up,Uq,Ur,Us,Ut,Uu,Uv,U1,U2,U5,U6,U7,U8,U9,Ka,Kb,Kc,Kd,Ke,Kf,Kg,Kh,Ki,Kj,Kk,Kl,Km,Kn,Ko,Kq,Kr,Ks,Kt,Ku,Kv,Kw,Kx,Ky,Kz,K0,K1,K2,K3,K4,K5,K6,K7,Gg,Gi,Gj,Gk,Gl,Gm,Gn,Gr,Gs,Az,Hg,H3,Hc,Hb,H2]
     tactic =>
      try simp only [G6] at *
      try simp only [nc2] at *
      try simp (maxSteps := 4000000) only [hw,htg,hb,ht,hu,hli,hna,hop,hR,k0,k1,k2,k3,k4,k5,k6,k7,k8,k9,k10,k11,k12,k13,k14,m0,m14,Gz,G8,G9,G7,szP,szN,Hi]
      repeat' (first | with_reducible assumption | with_reducible refine And.intro ?_ ?_ | intro _ | omega | (rw [Gy]; omega))
      all_goals first
        | (with_reducible refine Hu ?_; kernel_rfl)
        | omega
        | (symm; rw [← hR2]; clear hR2 hR hF f1 f2 f3 f4 f5 f6 f7 hn K hw htg hb ht hu hli hna hop k0 k1 k2 k3 k4 k5 k6 k7 k8 k9 k10 k11 k12 k13 k14 m0 m14; unfold Pa; simp_all; done)
        | (symm; rw [← hR2]; clear hR2 hR hF f1 f2 f3 f4 f5 f6 f7 hn K hw htg hb ht hu hli hna hop k0 k1 k2 k3 k4 k5 k6 k7 k8 k9 k10 k11 k12 k13 k14 m0 m14; unfold Pa leB; simp_all; done)
        | (symm; rw [← hR2]; clear hR2 hR hF f1 f2 f3 f4 f5 f6 f7 hn K hw htg hb ht hu hli hna hop k0 k1 k2 k3 k4 k5 k6 k7 k8 k9 k10 k11 k12 k13 k14 m0 m14; unfold Pa leB; simp_all; omega)
        | skip)
  have c6 := hc
  clear hc
  by_cases hc : p.kind = 7
  · have k0 : (p.kind == 0) = false := beq_eq_false_iff_ne.2 (by omega)
    have k1 : (p.kind == 1) = false := beq_eq_false_iff_ne.2 (by omega)
    have k2 : (p.kind == 2) = false := beq_eq_false_iff_ne.2 (by omega)
    have k3 : (p.kind == 3) = false := beq_eq_false_iff_ne.2 (by omega)
    have k4 : (p.kind == 4) = false := beq_eq_false_iff_ne.2 (by omega)
    have k5 : (p.kind == 5) = false := beq_eq_false_iff_ne.2 (by omega)
    have k6 : (p.kind == 6) = false := beq_eq_false_iff_ne.2 (by omega)
    have k7 : (p.kind == 7) = true := beq_iff_eq.2 hc
    have k8 : (p.kind == 8) = false := beq_eq_false_iff_ne.2 (by omega)
    have k9 : (p.kind == 9) = false := beq_eq_false_iff_ne.2 (by omega)
    have k10 : (p.kind == 10) = false := beq_eq_false_iff_ne.2 (by omega)
    have k11 : (p.kind == 11) = false := beq_eq_false_iff_ne.2 (by omega)
    have k12 : (p.kind == 12) = false := beq_eq_false_iff_ne.2 (by omega)
    have k13 : (p.kind == 13) = false := beq_eq_false_iff_ne.2 (by omega)
    have k14 : (p.kind == 14) = false := beq_eq_false_iff_ne.2 (by omega)
    have m0 : (p.kind != 0) = true := by rw [bne, k0]; rfl
    have m14 : (p.kind != 14) = true := by rw [bne, k14]; rfl
    (sym =>
     simp [hw,htg,hb,ht,hu,hli,hna,hop,hR,k0,k1,k2,k3,k4,k5,k6,k7,k8,k9,k10,k11,k12,k13,k14,m0,m14,Gz,G8,G9,G7,szP,szN,Pe,Pg,Pf,Ph,Pd,Pc,Hk.eq_def,Hd.eq_def,Nl.eq_def,Ms.eq_def,Pq.eq_def,Mv.eq_def,Mf.eq_def,Za,Zb,Zc,Zd,Ze,Zf,Zg,Zh,Zi,Zj,Zk,Zl,Zm,Zn,Zo,Zp,Zq,Zr,Zs,Zt,Zu,Zv,Zx,Z5,Z8,Z9,Qa,Qb,Qc,Qd,Qe,Qf,Qg,Qk,Ql,Qm,Qn,Qo,Qp,Qq,Qr,Q0,Q1,Q4,Q5,Q6,Q8,Q9,Ja,Jf,Jh,Ji,Jj,Jk,Jl,Jt,Jx,Jy,Jz,J5,J6,J7,J8,J9,Xa,Xb,Xc,Xd,Xe,Xf,Xg,Xj,Xk,Xl,Xm,Xn,Xo,Xp,Xq,Xr,Xs,Xt,Xu,Xv,Xw,Xx,Xy,X1,X2,X3,X4,X5,X6,X7,X8,We,Wf,Wg,Wh,Wi,Wj,Wl,Wn,Wo,Wp,Wq,Wr,Ws,Wt,Wu,Wv,Ww,Wx,Wy,Wz,W0,W3,W4,W5,W6,W7,W8,W9,Ya,Yb,Yc,Yd,Ye,Yf,Yg,Yh,Yi,Yj,Yk,Yl,Ym,Yn,Yo,Yr,Ys,Yt,Yv,Yw,Yx,Yy,Yz,Y1,Y2,Y3,Y4,Y5,Y6,Y7,Y8,Y9,Va,Vb,Vc,Vd,Ve,Vf,Vg,Vh,Vi,Vj,Vk,Vl,Vm,Vn,Vo,Vp,Vq,Vr,Vs,Vt,Vu,Vv,Vw,Vx,Vy,Vz,V0,V1,V2,V3,V4,V5,V6,V7,V8,V9,Ua,Ub,Uc,Ud,Ue,Uf,Ug,Uh,Ui,Uj,Uk,Ul,Um,Un,Uo,Up,Uq,Ur,Us,Ut,Uu,Uv,U1,U2,U5,U6,U7,U8,U9,Ka,Kb,Kc,Kd,Ke,Kf,Kg,Kh,Ki,Kj,Kk,Kl,Km,Kn,Ko,Kq,Kr,Ks,Kt,Ku,Kv,Kw,Kx,Ky,Kz,K0,K1,K2,K3,K4,K5,K6,K7,Gg,Gi,Gj,Gk,Gl,Gm,Gn,Gr,Gs,Az,Hg,H3,Hc,Hb,H2]
     tactic =>
      try simp only [G6] at *
      try simp only [nc2] at *
      try simp (maxSteps := 4000000) only [hw,htg,hb,ht,hu,hli,hna,hop,hR,k0,k1,k2,k3,k4,k5,k6,k7,k8,k9,k10,k11,k12,k13,k14,m0,m14,Gz,G8,G9,G7,szP,szN,Hi]
      repeat' (first | with_reducible assumption | with_reducible refine And.intro ?_ ?_ | intro _ | omega | (rw [Gy]; omega))
      all_goals first
        | (with_reducible refine Hu ?_; kernel_rfl)
        | omega
        | (symm; rw [← hR2]; clear hR2 hR hF f1 f2 f3 f4 f5 f6 f7 hn K hw htg hb ht hu hli hna hop k0 k1 k2 k3 k4 k5 k6 k7 k8 k9 k10 k11 k12 k13 k14 m0 m14; unfold Pa; simp_all; done)
        | (symm; rw [← hR2]; clear hR2 hR hF f1 f2 f3 f4 f5 f6 f7 hn K hw htg hb ht hu hli hna hop k0 k1 k2 k3 k4 k5 k6 k7 k8 k9 k10 k11 k12 k13 k14 m0 m14; unfold Pa leB; simp_all; done)
        | (symm; rw [← hR2]; clear hR2 hR hF f1 f2 f3 f4 f5 f6 f7 hn K hw htg hb ht hu hli hna hop k0 k1 k2 k3 k4 k5 k6 k7 k8 k9 k10 k11 k12 k13 k14 m0 m14; unfold Pa leB; simp_all; omega)
        | skip)
  have c7 := hc
  clear hc
  by_cases hc : p.kind = 8
  · have k0 : (p.kind == 0) = false := beq_eq_false_iff_ne.2 (by omega)
    have k1 : (p.kind == 1) = false := beq_eq_false_iff_ne.2 (by omega)
    have k2 : (p.kind == 2) = false := beq_eq_false_iff_ne.2 (by omega)
    have k3 : (p.kind == 3) = false := beq_eq_false_iff_ne.2 (by omega)
    have k4 : (p.kind == 4) = false := beq_eq_false_iff_ne.2 (by omega)
    have k5 : (p.kind == 5) = false := beq_eq_false_iff_ne.2 (by omega)
    have k6 : (p.kind == 6) = false := beq_eq_false_iff_ne.2 (by omega)
    have k7 : (p.kind == 7) = false := beq_eq_false_iff_ne.2 (by omega)
    have k8 : (p.kind == 8) = true := beq_iff_eq.2 hc
    have k9 : (p.kind == 9) = false := beq_eq_false_iff_ne.2 (by omega)
    have k10 : (p.kind == 10) = false := beq_eq_false_iff_ne.2 (by omega)
    have k11 : (p.kind == 11) = false := beq_eq_false_iff_ne.2 (by omega)
    have k12 : (p.kind == 12) = false := beq_eq_false_iff_ne.2 (by omega)
    have k13 : (p.kind == 13) = false := beq_eq_false_iff_ne.2 (by omega)
    have k14 : (p.kind == 14) = false := beq_eq_false_iff_ne.2 (by omega)
    have m0 : (p.kind != 0) = true := by rw [bne, k0]; rfl
    have m14 : (p.kind != 14) = true := by rw [bne, k14]; rfl
    (sym =>
     simp [hw,htg,hb,ht,hu,hli,hna,hop,hR,k0,k1,k2,k3,k4,k5,k6,k7,k8,k9,k10,k11,k12,k13,k14,m0,m14,Gz,G8,G9,G7,szP,szN,Pe,Pg,Pf,Ph,Pd,Pc,Hk.eq_def,Hd.eq_def,Nl.eq_def,Ms.eq_def,Pq.eq_def,Mv.eq_def,Mf.eq_def,Za,Zb,Zc,Zd,Ze,Zf,Zg,Zh,Zi,Zj,Zk,Zl,Zm,Zn,Zo,Zp,Zq,Zr,Zs,Zt,Zu,Zv,Zx,Z5,Z8,Z9,Qa,Qb,Qc,Qd,Qe,Qf,Qg,Qk,Ql,Qm,Qn,Qo,Qp,Qq,Qr,Q0,Q1,Q4,Q5,Q6,Q8,Q9,Ja,Jf,Jh,Ji,Jj,Jk,Jl,Jt,Jx,Jy,Jz,J5,J6,J7,J8,J9,Xa,Xb,Xc,Xd,Xe,Xf,Xg,Xj,Xk,Xl,Xm,Xn,Xo,Xp,Xq,Xr,Xs,Xt,Xu,Xv,Xw,Xx,Xy,X1,X2,X3,X4,X5,X6,X7,X8,We,Wf,Wg,Wh,Wi,Wj,Wl,Wn,Wo,Wp,Wq,Wr,Ws,Wt,Wu,Wv,Ww,Wx,Wy,Wz,W0,W3,W4,W5,W6,W7,W8,W9,Ya,Yb,Yc,Yd,Ye,Yf,Yg,Yh,Yi,Yj,Yk,Yl,Ym,Yn,Yo,Yr,Ys,Yt,Yv,Yw,Yx,Yy,Yz,Y1,Y2,Y3,Y4,Y5,Y6,Y7,Y8,Y9,Va,Vb,Vc,Vd,Ve,Vf,Vg,Vh,Vi,Vj,Vk,Vl,Vm,Vn,Vo,Vp,Vq,Vr,Vs,Vt,Vu,Vv,Vw,Vx,Vy,Vz,V0,V1,V2,V3,V4,V5,V6,V7,V8,V9,Ua,Ub,Uc,Ud,Ue,Uf,Ug,Uh,Ui,Uj,Uk,Ul,Um,Un,Uo,Up,Uq,Ur,Us,Ut,Uu,Uv,U1,U2,U5,U6,U7,U8,U9,Ka,Kb,Kc,Kd,Ke,Kf,Kg,Kh,Ki,Kj,Kk,Kl,Km,Kn,Ko,Kq,Kr,Ks,Kt,Ku,Kv,Kw,Kx,Ky,Kz,K0,K1,K2,K3,K4,K5,K6,K7,Gg,Gi,Gj,Gk,Gl,Gm,Gn,Gr,Gs,Az,Hg,H3,Hc,Hb,H2]
     tactic =>
      try simp only [G6] at *
      try simp only [nc2] at *
      try simp (maxSteps := 4000000) only [hw,htg,hb,ht,hu,hli,hna,hop,hR,k0,k1,k2,k3,k4,k5,k6,k7,k8,k9,k10,k11,k12,k13,k14,m0,m14,Gz,G8,G9,G7,szP,szN,Hi]
      repeat' (first | with_reducible assumption | with_reducible refine And.intro ?_ ?_ | intro _ | omega | (rw [Gy]; omega))
      all_goals first
        | (with_reducible refine Hu ?_; kernel_rfl)
        | omega
        | (symm; rw [← hR2]; clear hR2 hR hF f1 f2 f3 f4 f5 f6 f7 hn K hw htg hb ht hu hli hna hop k0 k1 k2 k3 k4 k5 k6 k7 k8 k9 k10 k11 k12 k13 k14 m0 m14; unfold Pa; simp_all; done)
        | (symm; rw [← hR2]; clear hR2 hR hF f1 f2 f3 f4 f5 f6 f7 hn K hw htg hb ht hu hli hna hop k0 k1 k2 k3 k4 k5 k6 k7 k8 k9 k10 k11 k12 k13 k14 m0 m14; unfold Pa leB; simp_all; done)
        | (symm; rw [← hR2]; clear hR2 hR hF f1 f2 f3 f4 f5 f6 f7 hn K hw htg hb ht hu hli hna hop k0 k1 k2 k3 k4 k5 k6 k7 k8 k9 k10 k11 k12 k13 k14 m0 m14; unfold Pa leB; simp_all; omega)
        | skip)
  have c8 := hc
  clear hc
  by_cases hc : p.kind = 9
  · have k0 : (p.kind == 0) = false := beq_eq_false_iff_ne.2 (by omega)
    have k1 : (p.kind == 1) = false := beq_eq_false_iff_ne.2 (by omega)
    have k2 : (p.kind == 2) = false := beq_eq_false_iff_ne.2 (by omega)
    have k3 : (p.kind == 3) = false := beq_eq_false_iff_ne.2 (by omega)
    have k4 : (p.kind == 4) = false := beq_eq_false_iff_ne.2 (by omega)
    have k5 : (p.kind == 5) = false := beq_eq_false_iff_ne.2 (by omega)
    have k6 : (p.kind == 6) = false := beq_eq_false_iff_ne.2 (by omega)
    have k7 : (p.kind == 7) = false := beq_eq_false_iff_ne.2 (by omega)
    have k8 : (p.kind == 8) = false := beq_eq_false_iff_ne.2 (by omega)
    have k9 : (p.kind == 9) = true := beq_iff_eq.2 hc
    have k10 : (p.kind == 10) = false := beq_eq_false_iff_ne.2 (by omega)
    have k11 : (p.kind == 11) = false := beq_eq_false_iff_ne.2 (by omega)
    have k12 : (p.kind == 12) = false := beq_eq_false_iff_ne.2 (by omega)
    have k13 : (p.kind == 13) = false := beq_eq_false_iff_ne.2 (by omega)
    have k14 : (p.kind == 14) = false := beq_eq_false_iff_ne.2 (by omega)
    have m0 : (p.kind != 0) = true := by rw [bne, k0]; rfl
    have m14 : (p.kind != 14) = true := by rw [bne, k14]; rfl
    (sym =>
     simp [hw,htg,hb,ht,hu,hli,hna,hop,hR,k0,k1,k2,k3,k4,k5,k6,k7,k8,k9,k10,k11,k12,k13,k14,m0,m14,Gz,G8,G9,G7,szP,szN,Pe,Pg,Pf,Ph,Pd,Pc,Hk.eq_def,Hd.eq_def,Nl.eq_def,Ms.eq_def,Pq.eq_def,Mv.eq_def,Mf.eq_def,Za,Zb,Zc,Zd,Ze,Zf,Zg,Zh,Zi,Zj,Zk,Zl,Zm,Zn,Zo,Zp,Zq,Zr,Zs,Zt,Zu,Zv,Zx,Z5,Z8,Z9,Qa,Qb,Qc,Qd,Qe,Qf,Qg,Qk,Ql,Qm,Qn,Qo,Qp,Qq,Qr,Q0,Q1,Q4,Q5,Q6,Q8,Q9,Ja,Jf,Jh,Ji,Jj,Jk,Jl,Jt,Jx,Jy,Jz,J5,J6,J7,J8,J9,Xa,Xb,Xc,Xd,Xe,Xf,Xg,Xj,Xk,Xl,Xm,Xn,Xo,Xp,Xq,Xr,Xs,Xt,Xu,Xv,Xw,Xx,Xy,X1,X2,X3,X4,X5,X6,X7,X8,We,Wf,Wg,Wh,Wi,Wj,Wl,Wn,Wo,Wp,Wq,Wr,Ws,Wt,Wu,Wv,Ww,Wx,Wy,Wz,W0,W3,W4,W5,W6,W7,W8,W9,Ya,Yb,Yc,Yd,Ye,Yf,Yg,Yh,Yi,Yj,Yk,Yl,Ym,Yn,Yo,Yr,Ys,Yt,Yv,Yw,Yx,Yy,Yz,Y1,Y2,Y3,Y4,Y5,Y6,Y7,Y8,Y9,Va,Vb,Vc,Vd,Ve,Vf,Vg,Vh,Vi,Vj,Vk,Vl,Vm,Vn,Vo,Vp,Vq,Vr,Vs,Vt,Vu,Vv,Vw,Vx,Vy,Vz,V0,V1,V2,V3,V4,V5,V6,V7,V8,V9,Ua,Ub,Uc,Ud,Ue,Uf,Ug,Uh,Ui,Uj,Uk,Ul,Um,Un,Uo,Up,Uq,Ur,Us,Ut,Uu,Uv,U1,U2,U5,U6,U7,U8,U9,Ka,Kb,Kc,Kd,Ke,Kf,Kg,Kh,Ki,Kj,Kk,Kl,Km,Kn,Ko,Kq,Kr,Ks,Kt,Ku,Kv,Kw,Kx,Ky,Kz,K0,K1,K2,K3,K4,K5,K6,K7,Gg,Gi,Gj,Gk,Gl,Gm,Gn,Gr,Gs,Az,Hg,H3,Hc,Hb,H2]
     tactic =>
      try simp only [G6] at *
      try simp only [nc2] at *
      try simp (maxSteps := 4000000) only [hw,htg,hb,ht,hu,hli,hna,hop,hR,k0,k1,k2,k3,k4,k5,k6,k7,k8,k9,k10,k11,k12,k13,k14,m0,m14,Gz,G8,G9,G7,szP,szN,Hi]
      repeat' (first | with_reducible assumption | with_reducible refine And.intro ?_ ?_ | intro _ | omega | (rw [Gy]; omega))
      all_goals first
        | (with_reducible refine Hu ?_; kernel_rfl)
        | omega
        | (symm; rw [← hR2]; clear hR2 hR hF f1 f2 f3 f4 f5 f6 f7 hn K hw htg hb ht hu hli hna hop k0 k1 k2 k3 k4 k5 k6 k7 k8 k9 k10 k11 k12 k13 k14 m0 m14; unfold Pa; simp_all; done)
        | (symm; rw [← hR2]; clear hR2 hR hF f1 f2 f3 f4 f5 f6 f7 hn K hw htg hb ht hu hli hna hop k0 k1 k2 k3 k4 k5 k6 k7 k8 k9 k10 k11 k12 k13 k14 m0 m14; unfold Pa leB; simp_all; done)
        | (symm; rw [← hR2]; clear hR2 hR hF f1 f2 f3 f4 f5 f6 f7 hn K hw htg hb ht hu hli hna hop k0 k1 k2 k3 k4 k5 k6 k7 k8 k9 k10 k11 k12 k13 k14 m0 m14; unfold Pa leB; simp_all; omega)
        | skip)
  have c9 := hc
  clear hc
  by_cases hc : p.kind = 10
  · have k0 : (p.kind == 0) = false := beq_eq_false_iff_ne.2 (by omega)
    have k1 : (p.kind == 1) = false := beq_eq_false_iff_ne.2 (by omega)
    have k2 : (p.kind == 2) = false := beq_eq_false_iff_ne.2 (by omega)
    have k3 : (p.kind == 3) = false := beq_eq_false_iff_ne.2 (by omega)
    have k4 : (p.kind == 4) = false := beq_eq_false_iff_ne.2 (by omega)
    have k5 : (p.kind == 5) = false := beq_eq_false_iff_ne.2 (by omega)
    have k6 : (p.kind == 6) = false := beq_eq_false_iff_ne.2 (by omega)
    have k7 : (p.kind == 7) = false := beq_eq_false_iff_ne.2 (by omega)
    have k8 : (p.kind == 8) = false := beq_eq_false_iff_ne.2 (by omega)
    have k9 : (p.kind == 9) = false := beq_eq_false_iff_ne.2 (by omega)
    have k10 : (p.kind == 10) = true := beq_iff_eq.2 hc
    have k11 : (p.kind == 11) = false := beq_eq_false_iff_ne.2 (by omega)
    have k12 : (p.kind == 12) = false := beq_eq_false_iff_ne.2 (by omega)
    have k13 : (p.kind == 13) = false := beq_eq_false_iff_ne.2 (by omega)
    have k14 : (p.kind == 14) = false := beq_eq_false_iff_ne.2 (by omega)
    have m0 : (p.kind != 0) = true := by rw [bne, k0]; rfl
    have m14 : (p.kind != 14) = true := by rw [bne, k14]; rfl
    (sym =>
     simp [hw,htg,hb,ht,hu,hli,hna,hop,hR,k0,k1,k2,k3,k4,k5,k6,k7,k8,k9,k10,k11,k12,k13,k14,m0,m14,Gz,G8,G9,G7,szP,szN,Pe,Pg,Pf,Ph,Pd,Pc,Hk.eq_def,Hd.eq_def,Nl.eq_def,Ms.eq_def,Pq.eq_def,Mv.eq_def,Mf.eq_def,Za,Zb,Zc,Zd,Ze,Zf,Zg,Zh,Zi,Zj,Zk,Zl,Zm,Zn,Zo,Zp,Zq,Zr,Zs,Zt,Zu,Zv,Zx,Z5,Z8,Z9,Qa,Qb,Qc,Qd,Qe,Qf,Qg,Qk,Ql,Qm,Qn,Qo,Qp,Qq,Qr,Q0,Q1,Q4,Q5,Q6,Q8,Q9,Ja,Jf,Jh,Ji,Jj,Jk,Jl,Jt,Jx,Jy,Jz,J5,J6,J7,J8,J9,Xa,Xb,Xc,Xd,Xe,Xf,Xg,Xj,Xk,Xl,Xm,Xn,Xo,Xp,Xq,Xr,Xs,Xt,Xu,Xv,Xw,Xx,Xy,X1,X2,X3,X4,X5,X6,X7,X8,We,Wf,Wg,Wh,Wi,Wj,Wl,Wn,Wo,Wp,Wq,Wr,Ws,Wt,Wu,Wv,Ww,Wx,Wy,Wz,W0,W3,W4,W5,W6,W7,W8,W9,Ya,Yb,Yc,Yd,Ye,Yf,Yg,Yh,Yi,Yj,Yk,Yl,Ym,Yn,Yo,Yr,Ys,Yt,Yv,Yw,Yx,Yy,Yz,Y1,Y2,Y3,Y4,Y5,Y6,Y7,Y8,Y9,Va,Vb,Vc,Vd,Ve,Vf,Vg,Vh,Vi,Vj,Vk,Vl,Vm,Vn,Vo,Vp,Vq,Vr,Vs,Vt,Vu,Vv,Vw,Vx,Vy,Vz,V0,V1,V2,V3,V4,V5,V6,V7,V8,V9,Ua,Ub,Uc,Ud,Ue,Uf,Ug,Uh,Ui,Uj,Uk,Ul,Um,Un,Uo,Up,Uq,Ur,Us,Ut,Uu,Uv,U1,U2,U5,U6,U7,U8,U9,Ka,Kb,Kc,Kd,Ke,Kf,Kg,Kh,Ki,Kj,Kk,Kl,Km,Kn,Ko,Kq,Kr,Ks,Kt,Ku,Kv,Kw,Kx,Ky,Kz,K0,K1,K2,K3,K4,K5,K6,K7,Gg,Gi,Gj,Gk,Gl,Gm,Gn,Gr,Gs,Az,Hg,H3,Hc,Hb,H2]
     tactic =>
      try simp only [G6] at *
      try simp only [nc2] at *
      try simp (maxSteps := 4000000) only [hw,htg,hb,ht,hu,hli,hna,hop,hR,k0,k1,k2,k3,k4,k5,k6,k7,k8,k9,k10,k11,k12,k13,k14,m0,m14,Gz,G8,G9,G7,szP,szN,Hi]
      repeat' (first | with_reducible assumption | with_reducible refine And.intro ?_ ?_ | intro _ | omega | (rw [Gy]; omega))
      all_goals first
        | (with_reducible refine Hu ?_; kernel_rfl)
        | omega
        | (symm; rw [← hR2]; clear hR2 hR hF f1 f2 f3 f4 f5 f6 f7 hn K hw htg hb ht hu hli hna hop k0 k1 k2 k3 k4 k5 k6 k7 k8 k9 k10 k11 k12 k13 k14 m0 m14; unfold Pa; simp_all; done)
        | (symm; rw [← hR2]; clear hR2 hR hF f1 f2 f3 f4 f5 f6 f7 hn K hw htg hb ht hu hli hna hop k0 k1 k2 k3 k4 k5 k6 k7 k8 k9 k10 k11 k12 k13 k14 m0 m14; unfold Pa leB; simp_all; done)
        | (symm; rw [← hR2]; clear hR2 hR hF f1 f2 f3 f4 f5 f6 f7 hn K hw htg hb ht hu hli hna hop k0 k1 k2 k3 k4 k5 k6 k7 k8 k9 k10 k11 k12 k13 k14 m0 m14; unfold Pa leB; simp_all; omega)
        | skip)
  have c10 := hc
  clear hc
  by_cases hc : p.kind = 11
  · have k0 : (p.kind == 0) = false := beq_eq_false_iff_ne.2 (by omega)
    have k1 : (p.kind == 1) = false := beq_eq_false_iff_ne.2 (by omega)
    have k2 : (p.kind == 2) = false := beq_eq_false_iff_ne.2 (by omega)
    have k3 : (p.kind == 3) = false := beq_eq_false_iff_ne.2 (by omega)
    have k4 : (p.kind == 4) = false := beq_eq_false_iff_ne.2 (by omega)
    have k5 : (p.kind == 5) = false := beq_eq_false_iff_ne.2 (by omega)
    have k6 : (p.kind == 6) = false := beq_eq_false_iff_ne.2 (by omega)
    have k7 : (p.kind == 7) = false := beq_eq_false_iff_ne.2 (by omega)
    have k8 : (p.kind == 8) = false := beq_eq_false_iff_ne.2 (by omega)
    have k9 : (p.kind == 9) = false := beq_eq_false_iff_ne.2 (by omega)
    have k10 : (p.kind == 10) = false := beq_eq_false_iff_ne.2 (by omega)
    have k11 : (p.kind == 11) = true := beq_iff_eq.2 hc
    have k12 : (p.kind == 12) = false := beq_eq_false_iff_ne.2 (by omega)
    have k13 : (p.kind == 13) = false := beq_eq_false_iff_ne.2 (by omega)
    have k14 : (p.kind == 14) = false := beq_eq_false_iff_ne.2 (by omega)
    have m0 : (p.kind != 0) = true := by rw [bne, k0]; rfl
    have m14 : (p.kind != 14) = true := by rw [bne, k14]; rfl
    (sym =>
     simp [hw,htg,hb,ht,hu,hli,hna,hop,hR,k0,k1,k2,k3,k4,k5,k6,k7,k8,k9,k10,k11,k12,k13,k14,m0,m14,Gz,G8,G9,G7,szP,szN,Pe,Pg,Pf,Ph,Pd,Pc,Hk.eq_def,Hd.eq_def,Nl.eq_def,Ms.eq_def,Pq.eq_def,Mv.eq_def,Mf.eq_def,Za,Zb,Zc,Zd,Ze,Zf,Zg,Zh,Zi,Zj,Zk,Zl,Zm,Zn,Zo,Zp,Zq,Zr,Zs,Zt,Zu,Zv,Zx,Z5,Z8,Z9,Qa,Qb,Qc,Qd,Qe,Qf,Qg,Qk,Ql,Qm,Qn,Qo,Qp,Qq,Qr,Q0,Q1,Q4,Q5,Q6,Q8,Q9,Ja,Jf,Jh,Ji,Jj,Jk,Jl,Jt,Jx,Jy,Jz,J5,J6,J7,J8,J9,Xa,Xb,Xc,Xd,Xe,Xf,Xg,Xj,Xk,Xl,Xm,Xn,Xo,Xp,Xq,Xr,Xs,Xt,Xu,Xv,Xw,Xx,Xy,X1,X2,X3,X4,X5,X6,X7,X8,We,Wf,Wg,Wh,Wi,Wj,Wl,Wn,Wo,Wp,Wq,Wr,Ws,Wt,Wu,Wv,Ww,Wx,Wy,Wz,W0,W3,W4,W5,W6,W7,W8,W9,Ya,Yb,Yc,Yd,Ye,Yf,Yg,Yh,Yi,Yj,Yk,Yl,Ym,Yn,Yo,Yr,Ys,Yt,Yv,Yw,Yx,Yy,Yz,Y1,Y2,Y3,Y4,Y5,Y6,Y7,Y8,Y9,Va,Vb,Vc,Vd,Ve,Vf,Vg,Vh,Vi,Vj,Vk,Vl,Vm,Vn,Vo,Vp,Vq,Vr,Vs,Vt,Vu,Vv,Vw,Vx,Vy,Vz,V0,V1,V2,V3,V4,V5,V6,V7,V8,V9,Ua,Ub,Uc,Ud,Ue,Uf,Ug,Uh,Ui,Uj,Uk,Ul,Um,Un,Uo,Up,Uq,Ur,Us,Ut,Uu,Uv,U1,U2,U5,U6,U7,U8,U9,Ka,Kb,Kc,Kd,Ke,Kf,Kg,Kh,Ki,Kj,Kk,Kl,Km,Kn,Ko,Kq,Kr,Ks,Kt,Ku,Kv,Kw,Kx,Ky,Kz,K0,K1,K2,K3,K4,K5,K6,K7,Gg,Gi,Gj,Gk,Gl,Gm,Gn,Gr,Gs,Az,Hg,H3,Hc,Hb,H2]
     tactic =>
      try simp only [G6] at *
      try simp only [nc2] at *
      try simp (maxSteps := 4000000) only [hw,htg,hb,ht,hu,hli,hna,hop,hR,k0,k1,k2,k3,k4,k5,k6,k7,k8,k9,k10,k11,k12,k13,k14,m0,m14,Gz,G8,G9,G7,szP,szN,Hi]
      repeat' (first | with_reducible assumption | with_reducible refine And.intro ?_ ?_ | intro _ | omega | (rw [Gy]; omega))
      all_goals first
        | (with_reducible refine Hu ?_; kernel_rfl)
        | omega
        | (symm; rw [← hR2]; clear hR2 hR hF f1 f2 f3 f4 f5 f6 f7 hn K hw htg hb ht hu hli hna hop k0 k1 k2 k3 k4 k5 k6 k7 k8 k9 k10 k11 k12 k13 k14 m0 m14; unfold Pa; simp_all; done)
        | (symm; rw [← hR2]; clear hR2 hR hF f1 f2 f3 f4 f5 f6 f7 hn K hw htg hb ht hu hli hna hop k0 k1 k2 k3 k4 k5 k6 k7 k8 k9 k10 k11 k12 k13 k14 m0 m14; unfold Pa leB; simp_all; done)
        | (symm; rw [← hR2]; clear hR2 hR hF f1 f2 f3 f4 f5 f6 f7 hn K hw htg hb ht hu hli hna hop k0 k1 k2 k3 k4 k5 k6 k7 k8 k9 k10 k11 k12 k13 k14 m0 m14; unfold Pa leB; simp_all; omega)
        | skip)
  have c11 := hc
  clear hc
  by_cases hc : p.kind = 12
  · have k0 : (p.kind == 0) = false := beq_eq_false_iff_ne.2 (by omega)
    have k1 : (p.kind == 1) = false := beq_eq_false_iff_ne.2 (by omega)
    have k2 : (p.kind == 2) = false := beq_eq_false_iff_ne.2 (by omega)
    have k3 : (p.kind == 3) = false := beq_eq_false_iff_ne.2 (by omega)
    have k4 : (p.kind == 4) = false := beq_eq_false_iff_ne.2 (by omega)
    have k5 : (p.kind == 5) = false := beq_eq_false_iff_ne.2 (by omega)
    have k6 : (p.kind == 6) = false := beq_eq_false_iff_ne.2 (by omega)
    have k7 : (p.kind == 7) = false := beq_eq_false_iff_ne.2 (by omega)
    have k8 : (p.kind == 8) = false := beq_eq_false_iff_ne.2 (by omega)
    have k9 : (p.kind == 9) = false := beq_eq_false_iff_ne.2 (by omega)
    have k10 : (p.kind == 10) = false := beq_eq_false_iff_ne.2 (by omega)
    have k11 : (p.kind == 11) = false := beq_eq_false_iff_ne.2 (by omega)
    have k12 : (p.kind == 12) = true := beq_iff_eq.2 hc
    have k13 : (p.kind == 13) = false := beq_eq_false_iff_ne.2 (by omega)
    have k14 : (p.kind == 14) = false := beq_eq_false_iff_ne.2 (by omega)
    have m0 : (p.kind != 0) = true := by rw [bne, k0]; rfl
    have m14 : (p.kind != 14) = true := by rw [bne, k14]; rfl
    (sym =>
     simp [hw,htg,hb,ht,hu,hli,hna,hop,hR,k0,k1,k2,k3,k4,k5,k6,k7,k8,k9,k10,k11,k12,k13,k14,m0,m14,Gz,G8,G9,G7,szP,szN,Pe,Pg,Pf,Ph,Pd,Pc,Hk.eq_def,Hd.eq_def,Nl.eq_def,Ms.eq_def,Pq.eq_def,Mv.eq_def,Mf.eq_def,Za,Zb,Zc,Zd,Ze,Zf,Zg,Zh,Zi,Zj,Zk,Zl,Zm,Zn,Zo,Zp,Zq,Zr,Zs,Zt,Zu,Zv,Zx,Z5,Z8,Z9,Qa,Qb,Qc,Qd,Qe,Qf,Qg,Qk,Ql,Qm,Qn,Qo,Qp,Qq,Qr,Q0,Q1,Q4,Q5,Q6,Q8,Q9,Ja,Jf,Jh,Ji,Jj,Jk,Jl,Jt,Jx,Jy,Jz,J5,J6,J7,J8,J9,Xa,Xb,Xc,Xd,Xe,Xf,Xg,Xj,Xk,Xl,Xm,Xn,Xo,Xp,Xq,Xr,Xs,Xt,Xu,Xv,Xw,Xx,Xy,X1,X2,X3,X4,X5,X6,X7,X8,We,Wf,Wg,Wh,Wi,Wj,Wl,Wn,Wo,Wp,Wq,Wr,Ws,Wt,Wu,Wv,Ww,Wx,Wy,Wz,W0,W3,W4,W5,W6,W7,W8,W9,Ya,Yb,Yc,Yd,Ye,Yf,Yg,Yh,Yi,Yj,Yk,Yl,Ym,Yn,Yo,Yr,Ys,Yt,Yv,Yw,Yx,Yy,Yz,Y1,Y2,Y3,Y4,Y5,Y6,Y7,Y8,Y9,Va,Vb,Vc,Vd,Ve,Vf,Vg,Vh,Vi,Vj,Vk,Vl,Vm,Vn,Vo,Vp,Vq,Vr,Vs,Vt,Vu,Vv,Vw,Vx,Vy,Vz,V0,V1,V2,V3,V4,V5,V6,V7,V8,V9,Ua,Ub,Uc,Ud,Ue,Uf,Ug,Uh,Ui,Uj,Uk,Ul,Um,Un,Uo,Up,Uq,Ur,Us,Ut,Uu,Uv,U1,U2,U5,U6,U7,U8,U9,Ka,Kb,Kc,Kd,Ke,Kf,Kg,Kh,Ki,Kj,Kk,Kl,Km,Kn,Ko,Kq,Kr,Ks,Kt,Ku,Kv,Kw,Kx,Ky,Kz,K0,K1,K2,K3,K4,K5,K6,K7,Gg,Gi,Gj,Gk,Gl,Gm,Gn,Gr,Gs,Az,Hg,H3,Hc,Hb,H2]
     tactic =>
      try simp only [G6] at *
      try simp only [nc2] at *
      try simp (maxSteps := 4000000) only [hw,htg,hb,ht,hu,hli,hna,hop,hR,k0,k1,k2,k3,k4,k5,k6,k7,k8,k9,k10,k11,k12,k13,k14,m0,m14,Gz,G8,G9,G7,szP,szN,Hi]
      repeat' (first | with_reducible assumption | with_reducible refine And.intro ?_ ?_ | intro _ | omega | (rw [Gy]; omega))
      all_goals first
        | (with_reducible refine Hu ?_; kernel_rfl)
        | omega
        | (symm; rw [← hR2]; clear hR2 hR hF f1 f2 f3 f4 f5 f6 f7 hn K hw htg hb ht hu hli hna hop k0 k1 k2 k3 k4 k5 k6 k7 k8 k9 k10 k11 k12 k13 k14 m0 m14; unfold Pa; simp_all; done)
        | (symm; rw [← hR2]; clear hR2 hR hF f1 f2 f3 f4 f5 f6 f7 hn K hw htg hb ht hu hli hna hop k0 k1 k2 k3 k4 k5 k6 k7 k8 k9 k10 k11 k12 k13 k14 m0 m14; unfold Pa leB; simp_all; done)
        | (symm; rw [← hR2]; clear hR2 hR hF f1 f2 f3 f4 f5 f6 f7 hn K hw htg hb ht hu hli hna hop k0 k1 k2 k3 k4 k5 k6 k7 k8 k9 k10 k11 k12 k13 k14 m0 m14; unfold Pa leB; simp_all; omega)
        | skip)
  have c12 := hc
  clear hc
  by_cases hc : p.kind = 13
  · have k0 : (p.kind == 0) = false := beq_eq_false_iff_ne.2 (by omega)
    have k1 : (p.kind == 1) = false := beq_eq_false_iff_ne.2 (by omega)
    have k2 : (p.kind == 2) = false := beq_eq_false_iff_ne.2 (by omega)
    have k3 : (p.kind == 3) = false := beq_eq_false_iff_ne.2 (by omega)
    have k4 : (p.kind == 4) = false := beq_eq_false_iff_ne.2 (by omega)
    have k5 : (p.kind == 5) = false := beq_eq_false_iff_ne.2 (by omega)
    have k6 : (p.kind == 6) = false := beq_eq_false_iff_ne.2 (by omega)
    have k7 : (p.kind == 7) = false := beq_eq_false_iff_ne.2 (by omega)
    have k8 : (p.kind == 8) = false := beq_eq_false_iff_ne.2 (by omega)
    have k9 : (p.kind == 9) = false := beq_eq_false_iff_ne.2 (by omega)
    have k10 : (p.kind == 10) = false := beq_eq_false_iff_ne.2 (by omega)
    have k11 : (p.kind == 11) = false := beq_eq_false_iff_ne.2 (by omega)
    have k12 : (p.kind == 12) = false := beq_eq_false_iff_ne.2 (by omega)
    have k13 : (p.kind == 13) = true := beq_iff_eq.2 hc
    have k14 : (p.kind == 14) = false := beq_eq_false_iff_ne.2 (by omega)
    have m0 : (p.kind != 0) = true := by rw [bne, k0]; rfl
    have m14 : (p.kind != 14) = true := by rw [bne, k14]; rfl
    (sym =>
     simp [hw,htg,hb,ht,hu,hli,hna,hop,hR,k0,k1,k2,k3,k4,k5,k6,k7,k8,k9,k10,k11,k12,k13,k14,m0,m14,Gz,G8,G9,G7,szP,szN,Pe,Pg,Pf,Ph,Pd,Pc,Hk.eq_def,Hd.eq_def,Nl.eq_def,Ms.eq_def,Pq.eq_def,Mv.eq_def,Mf.eq_def,Za,Zb,Zc,Zd,Ze,Zf,Zg,Zh,Zi,Zj,Zk,Zl,Zm,Zn,Zo,Zp,Zq,Zr,Zs,Zt,Zu,Zv,Zx,Z5,Z8,Z9,Qa,Qb,Qc,Qd,Qe,Qf,Qg,Qk,Ql,Qm,Qn,Qo,Qp,Qq,Qr,Q0,Q1,Q4,Q5,Q6,Q8,Q9,Ja,Jf,Jh,Ji,Jj,Jk,Jl,Jt,Jx,Jy,Jz,J5,J6,J7,J8,J9,Xa,Xb,Xc,Xd,Xe,Xf,Xg,Xj,Xk,Xl,Xm,Xn,Xo,Xp,Xq,Xr,Xs,Xt,Xu,Xv,Xw,Xx,Xy,X1,X2,X3,X4,X5,X6,X7,X8,We,Wf,Wg,Wh,Wi,Wj,Wl,Wn,Wo,Wp,Wq,Wr,Ws,Wt,Wu,Wv,Ww,Wx,Wy,Wz,W0,W3,W4,W5,W6,W7,W8,W9,Ya,Yb,Yc,Yd,Ye,Yf,Yg,Yh,Yi,Yj,Yk,Yl,Ym,Yn,Yo,Yr,Ys,Yt,Yv,Yw,Yx,Yy,Yz,Y1,Y2,Y3,Y4,Y5,Y6,Y7,Y8,Y9,Va,Vb,Vc,Vd,Ve,Vf,Vg,Vh,Vi,Vj,Vk,Vl,Vm,Vn,Vo,Vp,Vq,Vr,Vs,Vt,Vu,Vv,Vw,Vx,Vy,Vz,V0,V1,V2,V3,V4,V5,V6,V7,V8,V9,Ua,Ub,Uc,Ud,Ue,Uf,Ug,Uh,Ui,Uj,Uk,Ul,Um,Un,Uo,Up,Uq,Ur,Us,Ut,Uu,Uv,U1,U2,U5,U6,U7,U8,U9,Ka,Kb,Kc,Kd,Ke,Kf,Kg,Kh,Ki,Kj,Kk,Kl,Km,Kn,Ko,Kq,Kr,Ks,Kt,Ku,Kv,Kw,Kx,Ky,Kz,K0,K1,K2,K3,K4,K5,K6,K7,Gg,Gi,Gj,Gk,Gl,Gm,Gn,Gr,Gs,Az,Hg,H3,Hc,Hb,H2]
     tactic =>
      try simp only [G6] at *
      try simp only [nc2] at *
      try simp (maxSteps := 4000000) only [hw,htg,hb,ht,hu,hli,hna,hop,hR,k0,k1,k2,k3,k4,k5,k6,k7,k8,k9,k10,k11,k12,k13,k14,m0,m14,Gz,G8,G9,G7,szP,szN,Hi]
      repeat' (first | with_reducible assumption | with_reducible refine And.intro ?_ ?_ | intro _ | omega | (rw [Gy]; omega))
      all_goals first
        | (with_reducible refine Hu ?_; kernel_rfl)
        | omega
        | (symm; rw [← hR2]; clear hR2 hR hF f1 f2 f3 f4 f5 f6 f7 hn K hw htg hb ht hu hli hna hop k0 k1 k2 k3 k4 k5 k6 k7 k8 k9 k10 k11 k12 k13 k14 m0 m14; unfold Pa; simp_all; done)
        | (symm; rw [← hR2]; clear hR2 hR hF f1 f2 f3 f4 f5 f6 f7 hn K hw htg hb ht hu hli hna hop k0 k1 k2 k3 k4 k5 k6 k7 k8 k9 k10 k11 k12 k13 k14 m0 m14; unfold Pa leB; simp_all; done)
        | (symm; rw [← hR2]; clear hR2 hR hF f1 f2 f3 f4 f5 f6 f7 hn K hw htg hb ht hu hli hna hop k0 k1 k2 k3 k4 k5 k6 k7 k8 k9 k10 k11 k12 k13 k14 m0 m14; unfold Pa leB; simp_all; omega)
        | skip)
  have c13 := hc
  clear hc
  by_cases hc : p.kind = 14
  · have k0 : (p.kind == 0) = false := beq_eq_false_iff_ne.2 (by omega)
    have k1 : (p.kind == 1) = false := beq_eq_false_iff_ne.2 (by omega)
    have k2 : (p.kind == 2) = false := beq_eq_false_iff_ne.2 (by omega)
    have k3 : (p.kind == 3) = false := beq_eq_false_iff_ne.2 (by omega)
    have k4 : (p.kind == 4) = false := beq_eq_false_iff_ne.2 (by omega)
    have k5 : (p.kind == 5) = false := beq_eq_false_iff_ne.2 (by omega)
    have k6 : (p.kind == 6) = false := beq_eq_false_iff_ne.2 (by omega)
    have k7 : (p.kind == 7) = false := beq_eq_false_iff_ne.2 (by omega)
    have k8 : (p.kind == 8) = false := beq_eq_false_iff_ne.2 (by omega)
    have k9 : (p.kind == 9) = false := beq_eq_false_iff_ne.2 (by omega)
    have k10 : (p.kind == 10) = false := beq_eq_false_iff_ne.2 (by omega)
    have k11 : (p.kind == 11) = false := beq_eq_false_iff_ne.2 (by omega)
    have k12 : (p.kind == 12) = false := beq_eq_false_iff_ne.2 (by omega)
    have k13 : (p.kind == 13) = false := beq_eq_false_iff_ne.2 (by omega)
    have k14 : (p.kind == 14) = true := beq_iff_eq.2 hc
    have m0 : (p.kind != 0) = true := by rw [bne, k0]; rfl
    have m14 : (p.kind != 14) = false := by rw [bne, k14]; rfl
    (sym =>
     simp [hw,htg,hb,ht,hu,hli,hna,hop,hR,k0,k1,k2,k3,k4,k5,k6,k7,k8,k9,k10,k11,k12,k13,k14,m0,m14,Gz,G8,G9,G7,szP,szN,Pe,Pg,Pf,Ph,Pd,Pc,Hk.eq_def,Hd.eq_def,Nl.eq_def,Ms.eq_def,Pq.eq_def,Mv.eq_def,Mf.eq_def,Za,Zb,Zc,Zd,Ze,Zf,Zg,Zh,Zi,Zj,Zk,Zl,Zm,Zn,Zo,Zp,Zq,Zr,Zs,Zt,Zu,Zv,Zx,Z5,Z8,Z9,Qa,Qb,Qc,Qd,Qe,Qf,Qg,Qk,Ql,Qm,Qn,Qo,Qp,Qq,Qr,Q0,Q1,Q4,Q5,Q6,Q8,Q9,Ja,Jf,Jh,Ji,Jj,Jk,Jl,Jt,Jx,Jy,Jz,J5,J6,J7,J8,J9,Xa,Xb,Xc,Xd,Xe,Xf,Xg,Xj,Xk,Xl,Xm,Xn,Xo,Xp,Xq,Xr,Xs,Xt,Xu,Xv,Xw,Xx,Xy,X1,X2,X3,X4,X5,X6,X7,X8,We,Wf,Wg,Wh,Wi,Wj,Wl,Wn,Wo,Wp,Wq,Wr,Ws,Wt,Wu,Wv,Ww,Wx,Wy,Wz,W0,W3,W4,W5,W6,W7,W8,W9,Ya,Yb,Yc,Yd,Ye,Yf,Yg,Yh,Yi,Yj,Yk,Yl,Ym,Yn,Yo,Yr,Ys,Yt,Yv,Yw,Yx,Yy,Yz,Y1,Y2,Y3,Y4,Y5,Y6,Y7,Y8,Y9,Va,Vb,Vc,Vd,Ve,Vf,Vg,Vh,Vi,Vj,Vk,Vl,Vm,Vn,Vo,Vp,Vq,Vr,Vs,Vt,Vu,Vv,Vw,Vx,Vy,Vz,V0,V1,V2,V3,V4,V5,V6,V7,V8,V9,Ua,Ub,Uc,Ud,Ue,Uf,Ug,Uh,Ui,Uj,Uk,Ul,Um,Un,Uo,Up,Uq,Ur,Us,Ut,Uu,Uv,U1,U2,U5,U6,U7,U8,U9,Ka,Kb,Kc,Kd,Ke,Kf,Kg,Kh,Ki,Kj,Kk,Kl,Km,Kn,Ko,Kq,Kr,Ks,Kt,Ku,Kv,Kw,Kx,Ky,Kz,K0,K1,K2,K3,K4,K5,K6,K7,Gg,Gi,Gj,Gk,Gl,Gm,Gn,Gr,Gs,Az,Hg,H3,Hc,Hb,H2]
     tactic =>
      try simp only [G6] at *
      try simp only [nc2] at *
      try simp (maxSteps := 4000000) only [hw,htg,hb,ht,hu,hli,hna,hop,hR,k0,k1,k2,k3,k4,k5,k6,k7,k8,k9,k10,k11,k12,k13,k14,m0,m14,Gz,G8,G9,G7,szP,szN,Hi]
      repeat' (first | with_reducible assumption | with_reducible refine And.intro ?_ ?_ | intro _ | omega | (rw [Gy]; omega))
      all_goals first
        | (with_reducible refine Hu ?_; kernel_rfl)
        | omega
        | (symm; rw [← hR2]; clear hR2 hR hF f1 f2 f3 f4 f5 f6 f7 hn K hw htg hb ht hu hli hna hop k0 k1 k2 k3 k4 k5 k6 k7 k8 k9 k10 k11 k12 k13 k14 m0 m14; unfold Pa; simp_all; done)
        | (symm; rw [← hR2]; clear hR2 hR hF f1 f2 f3 f4 f5 f6 f7 hn K hw htg hb ht hu hli hna hop k0 k1 k2 k3 k4 k5 k6 k7 k8 k9 k10 k11 k12 k13 k14 m0 m14; unfold Pa leB; simp_all; done)
        | (symm; rw [← hR2]; clear hR2 hR hF f1 f2 f3 f4 f5 f6 f7 hn K hw htg hb ht hu hli hna hop k0 k1 k2 k3 k4 k5 k6 k7 k8 k9 k10 k11 k12 k13 k14 m0 m14; unfold Pa leB; simp_all; omega)
        | skip)
  have c14 := hc
  clear hc
  have k0 : (p.kind == 0) = false := beq_eq_false_iff_ne.2 (by omega)
  have k1 : (p.kind == 1) = false := beq_eq_false_iff_ne.2 (by omega)
  have k2 : (p.kind == 2) = false := beq_eq_false_iff_ne.2 (by omega)
  have k3 : (p.kind == 3) = false := beq_eq_false_iff_ne.2 (by omega)
  have k4 : (p.kind == 4) = false := beq_eq_false_iff_ne.2 (by omega)
  have k5 : (p.kind == 5) = false := beq_eq_false_iff_ne.2 (by omega)
  have k6 : (p.kind == 6) = false := beq_eq_false_iff_ne.2 (by omega)
  have k7 : (p.kind == 7) = false := beq_eq_false_iff_ne.2 (by omega)
  have k8 : (p.kind == 8) = false := beq_eq_false_iff_ne.2 (by omega)
  have k9 : (p.kind == 9) = false := beq_eq_false_iff_ne.2 (by omega)
  have k10 : (p.kind == 10) = false := beq_eq_false_iff_ne.2 (by omega)
  have k11 : (p.kind == 11) = false := beq_eq_false_iff_ne.2 (by omega)
  have k12 : (p.kind == 12) = false := beq_eq_false_iff_ne.2 (by omega)
  have k13 : (p.kind == 13) = false := beq_eq_false_iff_ne.2 (by omega)
  have k14 : (p.kind == 14) = false := beq_eq_false_iff_ne.2 (by omega)
  have m0 : (p.kind != 0) = true := by rw [bne, k0]; rfl
  have m14 : (p.kind != 14) = true := by rw [bne, k14]; rfl
  (sym =>
   simp [hw,htg,hb,ht,hu,hli,hna,hop,hR,k0,k1,k2,k3,k4,k5,k6,k7,k8,k9,k10,k11,k12,k13,k14,m0,m14,Gz,G8,G9,G7,szP,szN,Pe,Pg,Pf,Ph,Pd,Pc,Hk.eq_def,Hd.eq_def,Nl.eq_def,Ms.eq_def,Pq.eq_def,Mv.eq_def,Mf.eq_def,Za,Zb,Zc,Zd,Ze,Zf,Zg,Zh,Zi,Zj,Zk,Zl,Zm,Zn,Zo,Zp,Zq,Zr,Zs,Zt,Zu,Zv,Zx,Z5,Z8,Z9,Qa,Qb,Qc,Qd,Qe,Qf,Qg,Qk,Ql,Qm,Qn,Qo,Qp,Qq,Qr,Q0,Q1,Q4,Q5,Q6,Q8,Q9,Ja,Jf,Jh,Ji,Jj,Jk,Jl,Jt,Jx,Jy,Jz,J5,J6,J7,J8,J9,Xa,Xb,Xc,Xd,Xe,Xf,Xg,Xj,Xk,Xl,Xm,Xn,Xo,Xp,Xq,Xr,Xs,Xt,Xu,Xv,Xw,Xx,Xy,X1,X2,X3,X4,X5,X6,X7,X8,We,Wf,Wg,Wh,Wi,Wj,Wl,Wn,Wo,Wp,Wq,Wr,Ws,Wt,Wu,Wv,Ww,Wx,Wy,Wz,W0,W3,W4,W5,W6,W7,W8,W9,Ya,Yb,Yc,Yd,Ye,Yf,Yg,Yh,Yi,Yj,Yk,Yl,Ym,Yn,Yo,Yr,Ys,Yt,Yv,Yw,Yx,Yy,Yz,Y1,Y2,Y3,Y4,Y5,Y6,Y7,Y8,Y9,Va,Vb,Vc,Vd,Ve,Vf,Vg,Vh,Vi,Vj,Vk,Vl,Vm,Vn,Vo,Vp,Vq,Vr,Vs,Vt,Vu,Vv,Vw,Vx,Vy,Vz,V0,V1,V2,V3,V4,V5,V6,V7,V8,V9,Ua,Ub,Uc,Ud,Ue,Uf,Ug,Uh,Ui,Uj,Uk,Ul,Um,Un,Uo,Up,Uq,Ur,Us,Ut,Uu,Uv,U1,U2,U5,U6,U7,U8,U9,Ka,Kb,Kc,Kd,Ke,Kf,Kg,Kh,Ki,Kj,Kk,Kl,Km,Kn,Ko,Kq,Kr,Ks,Kt,Ku,Kv,Kw,Kx,Ky,Kz,K0,K1,K2,K3,K4,K5,K6,K7,Gg,Gi,Gj,Gk,Gl,Gm,Gn,Gr,Gs,Az,Hg,H3,Hc,Hb,H2]
   tactic =>
    try simp only [G6] at *
    try simp only [nc2] at *
    try simp (maxSteps := 4000000) only [hw,htg,hb,ht,hu,hli,hna,hop,hR,k0,k1,k2,k3,k4,k5,k6,k7,k8,k9,k10,k11,k12,k13,k14,m0,m14,Gz,G8,G9,G7,szP,szN,Hi]
    repeat' (first | with_reducible assumption | with_reducible refine And.intro ?_ ?_ | intro _ | omega | (rw [Gy]; omega))
    all_goals first
      | (with_reducible refine Hu ?_; kernel_rfl)
      | omega
      | (symm; rw [← hR2]; clear hR2 hR hF f1 f2 f3 f4 f5 f6 f7 hn K hw htg hb ht hu hli hna hop k0 k1 k2 k3 k4 k5 k6 k7 k8 k9 k10 k11 k12 k13 k14 m0 m14; unfold Pa; simp_all; done)
      | (symm; rw [← hR2]; clear hR2 hR hF f1 f2 f3 f4 f5 f6 f7 hn K hw htg hb ht hu hli hna hop k0 k1 k2 k3 k4 k5 k6 k7 k8 k9 k10 k11 k12 k13 k14 m0 m14; unfold Pa leB; simp_all; done)
      | (symm; rw [← hR2]; clear hR2 hR hF f1 f2 f3 f4 f5 f6 f7 hn K hw htg hb ht hu hli hna hop k0 k1 k2 k3 k4 k5 k6 k7 k8 k9 k10 k11 k12 k13 k14 m0 m14; unfold Pa leB; simp_all; omega)
      | skip)
end Go.Am.Ty
set_option linter.unusedSimpArgs false
set_option linter.unusedVariables false
set_option maxHeartbeats 1000000
namespace Go.Am.Ty
open Go.Proofs
open Enc (enc dec)
def shal5 : List Part → List Int → Bool
  | [], _ => true
  | n :: l, rs => if 100 ≤ rs.length then false else shal5 l (popA (Sq n) rs)
def shallow5 (t : List Part) : Bool := shal5 t []
def OpenOk5 (rs : List Int) : Prop := (∀ x ∈ rs, 0 ≤ x ∧ x ≤ 60) ∧ ∀ x ∈ rs.tail, 1 ≤ x
def Mq : Con := Sn (fun (t : Sl Part) => Tame5 t.l) (fun t => shallow5 t.l)
noncomputable def Sv : Ctx := ⟨tab, lkC [(54, Hr)], 60, lkB [], [39], false⟩
theorem B8 : Sv.τ = tab := rfl
theorem La : Sv.Γ = lkC [(54, Hr)] := rfl
theorem B9 : Sv.dp = 60 := rfl
theorem Lb : Sv.Δ = lkB [] := rfl
theorem B7 : Sv.cuts = [39] := rfl
theorem B6 : Sv.wr = false := rfl
set_option maxRecDepth 100000 in
theorem good_shallow5 : M7 Try.prog (35, Mq) := by
  refine ⟨He Try.func35 (by kernel_rfl) rfl, ?_⟩
  have K : Nh Try.prog Sv := Hl Ny Ht (by
    intro p hp
    simp only [List.mem_cons, List.not_mem_nil, or_false] at hp
    rcases hp with rfl
    · exact good_Many5) (by simp)
  obtain ⟨c, hc⟩ : ∃ c, Try.f35.body = some c := ⟨_, rfl⟩
  refine Hm K Try.func35 hc [.tmp 2] rfl 51 rfl (fun cvs hpre => ?_)
  change Mq.pre cvs at hpre
  unfold Mq at hpre
  obtain ⟨⟨t⟩, rfl, ⟨ht, hm⟩⟩ := Nw hpre
  simp only at ht hm
  simp only [Try.f35, Option.some.injEq] at hc
  subst hc
  refine Mn 3 (of_decide_eq_true (by kernel_rfl)) ?_
  (sym =>
   simp [Gz,G8,G9,G7,szP,B8,La,B9,Lb,B7,B6,Hr.eq_def,Mq.eq_def,Za,Zb,Zc,Zd,Ze,Zf,Zg,Zn,Zo,Zp,Zq,Zr,Zs,Zt,Zv,Zw,Zy,Z0,Z1,Z3,Z4,Z5,Z8,Z9,Qa,Qb,Qc,Qd,Qe,Qf,Qg,Qi,Qj,Qk,Ql,Qm,Qn,Qo,Qp,Qr,Q0,Q1,Q4,Q8,Q9,Ja,Jb,Jc,Jd,Je,Jf,Jg,Jh,Ji,Jj,Jk,Jl,Jt,Ju,Jv,Jw,Jx,Jy,Jz,J0,J1,J2,J3,J4,J5,J6,J7,J8,J9,Xa,Xb,Xc,Xd,Xe,Xf,Xg,Xh,Xi,Xj,Xk,Xl,Xm,Xn,Xo,Xp,Xq,Xr,Xs,Xt,Xu,Xv,Xw,Xx,Xy,Xz,X1,X2,X3,X4,X5,X6,X7,X8,We,Wf,Wg,Wh,Wi,Wj,Wl,Wm,Wn,Wo,Wp,Ws,Wt,Wu,Wv,Ww,Wx,Wy,Wz,W0,W3,W4,W5,W6,W7,W8,W9,Ya,Yb,Yc,Yd,Ye,Yf,Yg,Yh,Yi,Yj,Yk,Yl,Ym,Yn,Yo,Yp,Yq,Yr,Ys,Yt,Yu,Yv,Yw,Yx,Yy,Yz,Y1,Y2,Y3,Y4,Y5,Y6,Y7,Y8,Y9,Va,Vb,Vc,Vd,Ve,Vf,Vg,Vh,Vi,Vj,Vk,Vl,Vm,Vn,Vo,Vp,Vq,Vr,Vs,Vt,Vu,Vv,Vw,Vx,Vy,Vz,V0,V1,V2,V3,V4,V5,V6,V7,V8,V9,Ua,Ub,Uc,Ud,Ue,Uf,Ug,Uh,Ui,Uj,Uk,Ul,Um,Un,Uo,Up,Uq,Ur,Us,Ut,Uu,Uv,Uw,Ux,Uy,Uz,U0,U1,U2,U3,U4,U5,U6,U7,U8,U9,Ka,Kb,Kc,Kd,Ke,Kf,Kg,Kh,Ki,Kj,Kk,Kl,Km,Kn,Ko,Kq,Kr,Ks,Kt,Ku,Kv,Kw,Kx,Ky,Kz,K0,K1,K2,K3,K4,K5,K6,K7,Gg,Gi,Gj,Gk,Gl,Gm,Gn,Gr,Hg,Nc,H2,Mt]
   tactic =>
    try simp only [G6] at *
    try simp only [nc2] at *
    try simp (maxSteps := 4000000) only [Gz,G8,G9,G7,szP,Hi]
    refine Ho [2, 6, 7, 8, 9, 10, 11, 12, 13, 14, 15, 16, 17, 18, 19, 20, 21, 22, 23, 24, 25, 26, 27, 28, 29, 30, 31, 32, 33, 34, 35, 36, 37, 38, 39, 40, 41, 42, 43, 44, 45, 46, 47, 48, 49, 50] (fun p : Nat × List Int => [(3, .sl 5 (p.2.reverse.map enc).length), (4, .d (.int .i64 p.1)), (5, .dead)]) (fun p : Nat × List Int => [(5, .row 1 (p.2.reverse.map enc) 0)]) (fun p : Nat × List Int => p.1 ≤ t.length ∧ p.2.length ≤ 101 ∧ (∀ x ∈ p.2, 1 ≤ x ∧ x ≤ 60) ∧ shal5 (t.drop p.1) p.2 = shallow5 t) (fun p : Nat × List Int => t.length - p.1) (0, []) ?_ ?_ ?_
    · exact ⟨Nat.zero_le _, by simp, by simp, rfl⟩
    · ((try simp only [G3, Ha, G5, Hf, upd, Hh, Hn, Na, Nat.reduceDiv, Nat.reduceMod, Nat.reduceMul, Nat.reduceAdd, Nat.reduceEqDiff, List.set_cons_zero, List.set_cons_succ, if_true, if_false, reduceIte]); (first | refine Wk.of_fl ?_ | skip); simp only [Wk, wkK, Nd, wkT, wk1, AV.kept, keptAll, wkO, lk, G4, and_true, true_and, and_self, Nat.reduceEqDiff, Nat.reduceLeDiff, if_true, if_false, reduceIte, reduceCtorEq, Option.isSome, false_implies]; try simp [Wk, wkK, wkT, wk1, AV.kept, keptAll, wkO, lk, G4])
    rintro ⟨k, rs⟩ ⟨h1, h2, h3, h4⟩
    simp only at h1 h2 h3 h4
    rcases Hq k t.length with ⟨hlt, hlb⟩ | ⟨hlt, hlb⟩
    · have hmk3 := (hm (t.getD k e0) (by simp [hlt])).2.2
      have hmk : 0 ≤ Sq (t.getD k e0) ∧ Sq (t.getD k e0) ≤ 60 := ⟨(hm (t.getD k e0) (by simp [hlt])).1, (hm (t.getD k e0) (by simp [hlt])).2.1⟩
      have e1 : shal5 (t.drop k) rs = if 100 ≤ rs.length then false else shal5 (t.drop (k + 1)) (popA (Sq (t.getD k e0)) rs) := by
        rw [List.drop_eq_getElem_cons hlt, shal5]
        simp [hlt]
      have zz1 := H7 (e0 : Part) hlt
      (sym =>
       simp [hlb,zz1,List.length_reverse,Gz,G8,G9,G7,szP,B8,La,B9,Lb,B7,B6,Hr.eq_def,Mq.eq_def,Za,Zb,Zc,Zd,Ze,Zf,Zg,Zn,Zo,Zp,Zq,Zr,Zs,Zt,Zv,Zw,Zy,Z0,Z1,Z3,Z4,Z5,Z8,Z9,Qa,Qb,Qc,Qd,Qe,Qf,Qg,Qi,Qj,Qk,Ql,Qm,Qn,Qo,Qp,Qr,Q0,Q1,Q4,Q8,Q9,Ja,Jb,Jc,Jd,Je,Jf,Jg,Jh,Ji,Jj,Jk,Jl,Jt,Ju,Jv,Jw,Jx,Jy,Jz,J0,J1,J2,J3,J4,J5,J6,J7,J8,J9,Xa,Xb,Xc,Xd,Xe,Xf,Xg,Xh,Xi,Xj,Xk,Xl,Xm,Xn,Xo,Xp,Xq,Xr,Xs,Xt,Xu,Xv,Xw,Xx,Xy,Xz,X1,X2,X3,X4,X5,X6,X7,X8,We,Wf,Wg,Wh,Wi,Wj,Wl,Wm,Wn,Wo,Wp,Ws,Wt,Wu,Wv,Ww,Wx,Wy,Wz,W0,W3,W4,W5,W6,W7,W8,W9,Ya,Yb,Yc,Yd,Ye,Yf,Yg,Yh,Yi,Yj,Yk,Yl,Ym,Yn,Yo,Yp,Yq,Yr,Ys,Yt,Yu,Yv,Yw,Yx,Yy,Yz,Y1,Y2,Y3,Y4,Y5,Y6,Y7,Y8,Y9,Va,Vb,Vc,Vd,Ve,Vf,Vg,Vh,Vi,Vj,Vk,Vl,Vm,Vn,Vo,Vp,Vq,Vr,Vs,Vt,Vu,Vv,Vw,Vx,Vy,Vz,V0,V1,V2,V3,V4,V5,V6,V7,V8,V9,Ua,Ub,Uc,Ud,Ue,Uf,Ug,Uh,Ui,Uj,Uk,Ul,Um,Un,Uo,Up,Uq,Ur,Us,Ut,Uu,Uv,Uw,Ux,Uy,Uz,U0,U1,U2,U3,U4,U5,U6,U7,U8,U9,Ka,Kb,Kc,Kd,Ke,Kf,Kg,Kh,Ki,Kj,Kk,Kl,Km,Kn,Ko,Kq,Kr,Ks,Kt,Ku,Kv,Kw,Kx,Ky,Kz,K0,K1,K2,K3,K4,K5,K6,K7,Gg,Gi,Gj,Gk,Gl,Gm,Gn,Gr,Hg,Nc,H2,Mt]
       tactic =>
        try simp only [G6] at *
        try simp only [nc2] at *
        try simp (maxSteps := 4000000) only [hlb,zz1,List.length_reverse,Gz,G8,G9,G7,szP,Hi]
        revert e1 hmk
        generalize Sq (t.getD k e0) = M
        intro hmk e1
        repeat' (first | with_reducible assumption | with_reducible refine And.intro ?_ ?_ | intro _ | omega | (rw [Gy]; omega))
        · rw [if_pos (by omega)] at e1
          rw [← h4, e1]
        · rw [if_neg (by omega)] at e1
          have e2 : rs.reverse ++ [M] = (M :: rs).reverse := by simp
          have hS : ∀ (q : List Int), q ≠ [] → ((q.length : Nat) : Int) - 1 = ((q.length - 1 : Nat) : Int) := by
            intro q hq
            have := List.length_pos_iff.2 hq
            omega
          refine Ho [23, 24, 25, 26, 27, 28, 29, 30, 31, 32, 33, 34, 35, 36, 37, 38, 39, 40, 41, 42, 43, 44, 45, 46, 47, 48, 49, 50] (fun q : List Int => [(3, .sl 5 (q.reverse.map enc).length), (5, .dead), (12, .dead), (15, .dead), (22, .dead)]) (fun q : List Int => [(5, .row 1 (q.reverse.map enc) 0)]) (fun q : List Int => OpenOk5 q ∧ q.length ≤ 101 ∧ popL q = popA M rs) (fun q : List Int => q.length) (M :: rs) ?_ ?_ ?_
          · refine ⟨⟨fun x hx => ?_, fun x hx => (h3 x hx).1⟩, by simp only [List.length_cons]; omega, rfl⟩
            rcases List.mem_cons.1 hx with rfl | hx
            · exact hmk
            · have := h3 x hx; omega
          · ((try simp only [G3, Ha, G5, Hf, upd, Hh, Hn, Na, Nat.reduceDiv, Nat.reduceMod, Nat.reduceMul, Nat.reduceAdd, Nat.reduceEqDiff, List.set_cons_zero, List.set_cons_succ, if_true, if_false, reduceIte]); (first | refine Wk.of_fl ?_ | skip); simp only [Wk, wkK, Nd, wkT, wk1, AV.kept, keptAll, wkO, lk, G4, and_true, true_and, and_self, Nat.reduceEqDiff, Nat.reduceLeDiff, if_true, if_false, reduceIte, reduceCtorEq, Option.isSome, false_implies]; try simp [Wk, wkK, wkT, wk1, AV.kept, keptAll, wkO, lk, G4])
          rintro q ⟨⟨g1, g2⟩, g3, g4⟩
          cases q with
          | nil =>
            have hz : ltB 0 ((0 : Nat) : Int) = false := rfl
            (sym =>
             simp [List.length_reverse,List.reverse_nil,hz,Gz,G8,G9,G7,szP,B8,La,B9,Lb,B7,B6,Hr.eq_def,Mq.eq_def,Za,Zb,Zc,Zd,Ze,Zf,Zg,Zn,Zo,Zp,Zq,Zr,Zs,Zt,Zv,Zw,Zy,Z0,Z1,Z3,Z4,Z5,Z8,Z9,Qa,Qb,Qc,Qd,Qe,Qf,Qg,Qi,Qj,Qk,Ql,Qm,Qn,Qo,Qp,Qr,Q0,Q1,Q4,Q8,Q9,Ja,Jb,Jc,Jd,Je,Jf,Jg,Jh,Ji,Jj,Jk,Jl,Jt,Ju,Jv,Jw,Jx,Jy,Jz,J0,J1,J2,J3,J4,J5,J6,J7,J8,J9,Xa,Xb,Xc,Xd,Xe,Xf,Xg,Xh,Xi,Xj,Xk,Xl,Xm,Xn,Xo,Xp,Xq,Xr,Xs,Xt,Xu,Xv,Xw,Xx,Xy,Xz,X1,X2,X3,X4,X5,X6,X7,X8,We,Wf,Wg,Wh,Wi,Wj,Wl,Wm,Wn,Wo,Wp,Ws,Wt,Wu,Wv,Ww,Wx,Wy,Wz,W0,W3,W4,W5,W6,W7,W8,W9,Ya,Yb,Yc,Yd,Ye,Yf,Yg,Yh,Yi,Yj,Yk,Yl,Ym,Yn,Yo,Yp,Yq,Yr,Ys,Yt,Yu,Yv,Yw,Yx,Yy,Yz,Y1,Y2,Y3,Y4,Y5,Y6,Y7,Y8,Y9,Va,Vb,Vc,Vd,Ve,Vf,Vg,Vh,Vi,Vj,Vk,Vl,Vm,Vn,Vo,Vp,Vq,Vr,Vs,Vt,Vu,Vv,Vw,Vx,Vy,Vz,V0,V1,V2,V3,V4,V5,V6,V7,V8,V9,Ua,Ub,Uc,Ud,Ue,Uf,Ug,Uh,Ui,Uj,Uk,Ul,Um,Un,Uo,Up,Uq,Ur,Us,Ut,Uu,Uv,Uw,Ux,Uy,Uz,U0,U1,U2,U3,U4,U5,U6,U7,U8,U9,Ka,Kb,Kc,Kd,Ke,Kf,Kg,Kh,Ki,Kj,Kk,Kl,Km,Kn,Ko,Kq,Kr,Ks,Kt,Ku,Kv,Kw,Kx,Ky,Kz,K0,K1,K2,K3,K4,K5,K6,K7,Gg,Gi,Gj,Gk,Gl,Gm,Gn,Gr,Hg,Nc,H2,Mt]
             tactic =>
              try simp only [G6] at *
              try simp only [nc2] at *
              try simp (maxSteps := 4000000) only [List.length_reverse,List.reverse_nil,hz,Gz,G8,G9,G7,szP,Hi]
              repeat' (first | with_reducible assumption | with_reducible refine And.intro ?_ ?_ | intro _ | omega | (rw [Gy]; omega))
              simp only [popL] at g4
              exact ⟨(k + 1, []), by ((try simp only [G3, Ha, G5, Hf, upd, Hh, Hn, Na, Nat.reduceDiv, Nat.reduceMod, Nat.reduceMul, Nat.reduceAdd, Nat.reduceEqDiff, List.set_cons_zero, List.set_cons_succ, if_true, if_false, reduceIte]); (first | refine Wk.of_fl ?_ | skip); simp only [Wk, wkK, Nd, wkT, wk1, AV.kept, keptAll, wkO, lk, G4, and_true, true_and, and_self, Nat.reduceEqDiff, Nat.reduceLeDiff, if_true, if_false, reduceIte, reduceCtorEq, Option.isSome, false_implies]; try simp [Wk, wkK, wkT, wk1, AV.kept, keptAll, wkO, lk, G4]), by simp only; omega, by simp, by simp, by simp only; rw [← h4, e1, g4], by simp only; omega⟩)
          | cons x r =>
            have hz : ltB 0 ((r.length + 1 : Nat) : Int) = true := by rw [Ba]; omega
            have hy : ((r.length + 1 : Nat) : Int) - 1 = (r.length : Int) := by omega
            have hx1 := g1 x (by simp)
            have hlt' : el (List.map enc (x :: r).reverse) r.length = .int .i64 x := rev_last
            have htk : List.take r.length (List.map (enc : Int → D) (x :: r).reverse) = List.map enc r.reverse := rev_take
            simp only [List.length_cons] at g3
            by_cases hx0 : x = 0
            · subst hx0
              cases r with
              | nil =>
                have hz1 : ltB 0 ((0 : Nat) : Int) = false := rfl
                simp only [List.length_nil] at hz hy hlt' htk
                (sym =>
                 simp [List.length_reverse,hz,hy,hlt',htk,hz1,List.reverse_nil,Gz,G8,G9,G7,szP,B8,La,B9,Lb,B7,B6,Hr.eq_def,Mq.eq_def,Za,Zb,Zc,Zd,Ze,Zf,Zg,Zn,Zo,Zp,Zq,Zr,Zs,Zt,Zv,Zw,Zy,Z0,Z1,Z3,Z4,Z5,Z8,Z9,Qa,Qb,Qc,Qd,Qe,Qf,Qg,Qi,Qj,Qk,Ql,Qm,Qn,Qo,Qp,Qr,Q0,Q1,Q4,Q8,Q9,Ja,Jb,Jc,Jd,Je,Jf,Jg,Jh,Ji,Jj,Jk,Jl,Jt,Ju,Jv,Jw,Jx,Jy,Jz,J0,J1,J2,J3,J4,J5,J6,J7,J8,J9,Xa,Xb,Xc,Xd,Xe,Xf,Xg,Xh,Xi,Xj,Xk,Xl,Xm,Xn,Xo,Xp,Xq,Xr,Xs,Xt,Xu,Xv,Xw,Xx,Xy,Xz,X1,X2,X3,X4,X5,X6,X7,X8,We,Wf,Wg,Wh,Wi,Wj,Wl,Wm,Wn,Wo,Wp,Ws,Wt,Wu,Wv,Ww,Wx,Wy,Wz,W0,W3,W4,W5,W6,W7,W8,W9,Ya,Yb,Yc,Yd,Ye,Yf,Yg,Yh,Yi,Yj,Yk,Yl,Ym,Yn,Yo,Yp,Yq,Yr,Ys,Yt,Yu,Yv,Yw,Yx,Yy,Yz,Y1,Y2,Y3,Y4,Y5,Y6,Y7,Y8,Y9,Va,Vb,Vc,Vd,Ve,Vf,Vg,Vh,Vi,Vj,Vk,Vl,Vm,Vn,Vo,Vp,Vq,Vr,Vs,Vt,Vu,Vv,Vw,Vx,Vy,Vz,V0,V1,V2,V3,V4,V5,V6,V7,V8,V9,Ua,Ub,Uc,Ud,Ue,Uf,Ug,Uh,Ui,Uj,Uk,Ul,Um,Un,Uo,Up,Uq,Ur,Us,Ut,Uu,Uv,Uw,Ux,Uy,Uz,U0,U1,U2,U3,U4,U5,U6,U7,U8,U9,Ka,Kb,Kc,Kd,Ke,Kf,Kg,Kh,Ki,Kj,Kk,Kl,Km,Kn,Ko,Kq,Kr,Ks,Kt,Ku,Kv,Kw,Kx,Ky,Kz,K0,K1,K2,K3,K4,K5,K6,K7,Gg,Gi,Gj,Gk,Gl,Gm,Gn,Gr,Hg,Nc,H2,Mt]
                 tactic =>
                  try simp only [G6] at *
                  try simp only [nc2] at *
                  try simp (maxSteps := 4000000) only [List.length_reverse,hz,hy,hlt',htk,hz1,List.reverse_nil,Gz,G8,G9,G7,szP,Hi]
                  repeat' (first | with_reducible assumption | with_reducible refine And.intro ?_ ?_ | intro _ | omega | (rw [Gy]; omega))
                  exact ⟨[], by ((try simp only [G3, Ha, G5, Hf, upd, Hh, Hn, Na, Nat.reduceDiv, Nat.reduceMod, Nat.reduceMul, Nat.reduceAdd, Nat.reduceEqDiff, List.set_cons_zero, List.set_cons_succ, if_true, if_false, reduceIte]); (first | refine Wk.of_fl ?_ | skip); simp only [Wk, wkK, Nd, wkT, wk1, AV.kept, keptAll, wkO, lk, G4, and_true, true_and, and_self, Nat.reduceEqDiff, Nat.reduceLeDiff, if_true, if_false, reduceIte, reduceCtorEq, Option.isSome, false_implies]; try simp [Wk, wkK, wkT, wk1, AV.kept, keptAll, wkO, lk, G4]), ⟨by simp, by simp⟩, by simp, by rw [← g4]; rfl, by simp⟩)
              | cons y r =>
                have hy1 := g2 y (by simp)
                have hy2 := g1 y (by simp)
                have hz2 : ltB 0 ((r.length + 1 : Nat) : Int) = true := by rw [Ba]; omega
                have hy3 : ((r.length + 1 : Nat) : Int) - 1 = (r.length : Int) := by omega
                have hl2 : el (List.map enc (y :: r).reverse) r.length = .int .i64 y := rev_last
                simp only [List.length_cons] at hz hy hlt' htk g3
                (sym =>
                 simp [List.length_reverse,hz,hy,hlt',htk,hz2,hy3,hl2,rev_set,Gz,G8,G9,G7,szP,B8,La,B9,Lb,B7,B6,Hr.eq_def,Mq.eq_def,Za,Zb,Zc,Zd,Ze,Zf,Zg,Zn,Zo,Zp,Zq,Zr,Zs,Zt,Zv,Zw,Zy,Z0,Z1,Z3,Z4,Z5,Z8,Z9,Qa,Qb,Qc,Qd,Qe,Qf,Qg,Qi,Qj,Qk,Ql,Qm,Qn,Qo,Qp,Qr,Q0,Q1,Q4,Q8,Q9,Ja,Jb,Jc,Jd,Je,Jf,Jg,Jh,Ji,Jj,Jk,Jl,Jt,Ju,Jv,Jw,Jx,Jy,Jz,J0,J1,J2,J3,J4,J5,J6,J7,J8,J9,Xa,Xb,Xc,Xd,Xe,Xf,Xg,Xh,Xi,Xj,Xk,Xl,Xm,Xn,Xo,Xp,Xq,Xr,Xs,Xt,Xu,Xv,Xw,Xx,Xy,Xz,X1,X2,X3,X4,X5,X6,X7,X8,We,Wf,Wg,Wh,Wi,Wj,Wl,Wm,Wn,Wo,Wp,Ws,Wt,Wu,Wv,Ww,Wx,Wy,Wz,W0,W3,W4,W5,W6,W7,W8,W9,Ya,Yb,Yc,Yd,Ye,Yf,Yg,Yh,Yi,Yj,Yk,Yl,Ym,Yn,Yo,Yp,Yq,Yr,Ys,Yt,Yu,Yv,Yw,Yx,Yy,Yz,Y1,Y2,Y3,Y4,Y5,Y6,Y7,Y8,Y9,Va,Vb,Vc,Vd,Ve,Vf,Vg,Vh,Vi,Vj,Vk,Vl,Vm,Vn,Vo,Vp,Vq,Vr,Vs,Vt,Vu,Vv,Vw,Vx,Vy,Vz,V0,V1,V2,V3,V4,V5,V6,V7,V8,V9,Ua,Ub,Uc,Ud,Ue,Uf,Ug,Uh,Ui,Uj,Uk,Ul,Um,Un,Uo,Up,Uq,Ur,Us,Ut,Uu,Uv,Uw,Ux,Uy,Uz,U0,U1,U2,U3,U4,U5,U6,U7,U8,U9,Ka,Kb,Kc,Kd,Ke,Kf,Kg,Kh,Ki,Kj,Kk,Kl,Km,Kn,Ko,Kq,Kr,Ks,Kt,Ku,Kv,Kw,Kx,Ky,Kz,K0,K1,K2,K3,K4,K5,K6,K7,Gg,Gi,Gj,Gk,Gl,Gm,Gn,Gr,Hg,Nc,H2,Mt]
                 tactic =>
                  try simp only [G6] at *
                  try simp only [nc2] at *
                  try simp (maxSteps := 4000000) only [List.length_reverse,hz,hy,hlt',htk,hz2,hy3,hl2,rev_set,Gz,G8,G9,G7,szP,Hi]
                  repeat' (first | with_reducible assumption | with_reducible refine And.intro ?_ ?_ | intro _ | omega | (rw [Gy]; omega))
                  refine ⟨(y - 1) :: r, by ((try simp only [G3, Ha, G5, Hf, upd, Hh, Hn, Na, Nat.reduceDiv, Nat.reduceMod, Nat.reduceMul, Nat.reduceAdd, Nat.reduceEqDiff, List.set_cons_zero, List.set_cons_succ, if_true, if_false, reduceIte]); (first | refine Wk.of_fl ?_ | skip); simp only [Wk, wkK, Nd, wkT, wk1, AV.kept, keptAll, wkO, lk, G4, and_true, true_and, and_self, Nat.reduceEqDiff, Nat.reduceLeDiff, if_true, if_false, reduceIte, reduceCtorEq, Option.isSome, false_implies]; try simp [Wk, wkK, wkT, wk1, AV.kept, keptAll, wkO, lk, G4]), ⟨fun z hz => ?_, fun z hz => g2 z (List.mem_cons_of_mem _ hz)⟩, by simp only [List.length_cons]; omega, by rw [← g4]; simp only [popL, popA, if_true], by simp only [List.length_cons]; omega⟩
                  rcases List.mem_cons.1 hz with rfl | hz
                  · omega
                  · exact g1 z (List.mem_cons_of_mem _ (List.mem_cons_of_mem _ hz)))
            · have hxb : (x == (0 : Int)) = false := by simpa using hx0
              (sym =>
               simp [List.length_reverse,hz,hy,hlt',hxb,Gz,G8,G9,G7,szP,B8,La,B9,Lb,B7,B6,Hr.eq_def,Mq.eq_def,Za,Zb,Zc,Zd,Ze,Zf,Zg,Zn,Zo,Zp,Zq,Zr,Zs,Zt,Zv,Zw,Zy,Z0,Z1,Z3,Z4,Z5,Z8,Z9,Qa,Qb,Qc,Qd,Qe,Qf,Qg,Qi,Qj,Qk,Ql,Qm,Qn,Qo,Qp,Qr,Q0,Q1,Q4,Q8,Q9,Ja,Jb,Jc,Jd,Je,Jf,Jg,Jh,Ji,Jj,Jk,Jl,Jt,Ju,Jv,Jw,Jx,Jy,Jz,J0,J1,J2,J3,J4,J5,J6,J7,J8,J9,Xa,Xb,Xc,Xd,Xe,Xf,Xg,Xh,Xi,Xj,Xk,Xl,Xm,Xn,Xo,Xp,Xq,Xr,Xs,Xt,Xu,Xv,Xw,Xx,Xy,Xz,X1,X2,X3,X4,X5,X6,X7,X8,We,Wf,Wg,Wh,Wi,Wj,Wl,Wm,Wn,Wo,Wp,Ws,Wt,Wu,Wv,Ww,Wx,Wy,Wz,W0,W3,W4,W5,W6,W7,W8,W9,Ya,Yb,Yc,Yd,Ye,Yf,Yg,Yh,Yi,Yj,Yk,Yl,Ym,Yn,Yo,Yp,Yq,Yr,Ys,Yt,Yu,Yv,Yw,Yx,Yy,Yz,Y1,Y2,Y3,Y4,Y5,Y6,Y7,Y8,Y9,Va,Vb,Vc,Vd,Ve,Vf,Vg,Vh,Vi,Vj,Vk,Vl,Vm,Vn,Vo,Vp,Vq,Vr,Vs,Vt,Vu,Vv,Vw,Vx,Vy,Vz,V0,V1,V2,V3,V4,V5,V6,V7,V8,V9,Ua,Ub,Uc,Ud,Ue,Uf,Ug,Uh,Ui,Uj,Uk,Ul,Um,Un,Uo,Up,Uq,Ur,Us,Ut,Uu,Uv,Uw,Ux,Uy,Uz,U0,U1,U2,U3,U4,U5,U6,U7,U8,U9,Ka,Kb,Kc,Kd,Ke,Kf,Kg,Kh,Ki,Kj,Kk,Kl,Km,Kn,Ko,Kq,Kr,Ks,Kt,Ku,Kv,Kw,Kx,Ky,Kz,K0,K1,K2,K3,K4,K5,K6,K7,Gg,Gi,Gj,Gk,Gl,Gm,Gn,Gr,Hg,Nc,H2,Mt]
               tactic =>
                try simp only [G6] at *
                try simp only [nc2] at *
                try simp (maxSteps := 4000000) only [List.length_reverse,hz,hy,hlt',hxb,Gz,G8,G9,G7,szP,Hi]
                repeat' (first | with_reducible assumption | with_reducible refine And.intro ?_ ?_ | intro _ | omega | (rw [Gy]; omega))
                have e3 : popA M rs = x :: r := by rw [← g4]; exact popA_stop hx0
                refine ⟨(k + 1, x :: r), by ((try simp only [G3, Ha, G5, Hf, upd, Hh, Hn, Na, Nat.reduceDiv, Nat.reduceMod, Nat.reduceMul, Nat.reduceAdd, Nat.reduceEqDiff, List.set_cons_zero, List.set_cons_succ, if_true, if_false, reduceIte]); (first | refine Wk.of_fl ?_ | skip); simp only [Wk, wkK, Nd, wkT, wk1, AV.kept, keptAll, wkO, lk, G4, and_true, true_and, and_self, Nat.reduceEqDiff, Nat.reduceLeDiff, if_true, if_false, reduceIte, reduceCtorEq, Option.isSome, false_implies]; try simp [Wk, wkK, wkT, wk1, AV.kept, keptAll, wkO, lk, G4]), by simp only; omega, by simp only [List.length_cons]; omega, fun z hz => ?_, by simp only; rw [← h4, e1, e3], by simp only; omega⟩
                rcases List.mem_cons.1 hz with rfl | hz
                · omega
                · exact ⟨g2 z hz, (g1 z (List.mem_cons_of_mem _ hz)).2⟩))
    · (sym =>
       simp [hlb,Gz,G8,G9,G7,szP,B8,La,B9,Lb,B7,B6,Hr.eq_def,Mq.eq_def,Za,Zb,Zc,Zd,Ze,Zf,Zg,Zn,Zo,Zp,Zq,Zr,Zs,Zt,Zv,Zw,Zy,Z0,Z1,Z3,Z4,Z5,Z8,Z9,Qa,Qb,Qc,Qd,Qe,Qf,Qg,Qi,Qj,Qk,Ql,Qm,Qn,Qo,Qp,Qr,Q0,Q1,Q4,Q8,Q9,Ja,Jb,Jc,Jd,Je,Jf,Jg,Jh,Ji,Jj,Jk,Jl,Jt,Ju,Jv,Jw,Jx,Jy,Jz,J0,J1,J2,J3,J4,J5,J6,J7,J8,J9,Xa,Xb,Xc,Xd,Xe,Xf,Xg,Xh,Xi,Xj,Xk,Xl,Xm,Xn,Xo,Xp,Xq,Xr,Xs,Xt,Xu,Xv,Xw,Xx,Xy,Xz,X1,X2,X3,X4,X5,X6,X7,X8,We,Wf,Wg,Wh,Wi,Wj,Wl,Wm,Wn,Wo,Wp,Ws,Wt,Wu,Wv,Ww,Wx,Wy,Wz,W0,W3,W4,W5,W6,W7,W8,W9,Ya,Yb,Yc,Yd,Ye,Yf,Yg,Yh,Yi,Yj,Yk,Yl,Ym,Yn,Yo,Yp,Yq,Yr,Ys,Yt,Yu,Yv,Yw,Yx,Yy,Yz,Y1,Y2,Y3,Y4,Y5,Y6,Y7,Y8,Y9,Va,Vb,Vc,Vd,Ve,Vf,Vg,Vh,Vi,Vj,Vk,Vl,Vm,Vn,Vo,Vp,Vq,Vr,Vs,Vt,Vu,Vv,Vw,Vx,Vy,Vz,V0,V1,V2,V3,V4,V5,V6,V7,V8,V9,Ua,Ub,Uc,Ud,Ue,Uf,Ug,Uh,Ui,Uj,Uk,Ul,Um,Un,Uo,Up,Uq,Ur,Us,Ut,Uu,Uv,Uw,Ux,Uy,Uz,U0,U1,U2,U3,U4,U5,U6,U7,U8,U9,Ka,Kb,Kc,Kd,Ke,Kf,Kg,Kh,Ki,Kj,Kk,Kl,Km,Kn,Ko,Kq,Kr,Ks,Kt,Ku,Kv,Kw,Kx,Ky,Kz,K0,K1,K2,K3,K4,K5,K6,K7,Gg,Gi,Gj,Gk,Gl,Gm,Gn,Gr,Hg,Nc,H2,Mt]
       tactic =>
        try simp only [G6] at *
        try simp only [nc2] at *
        try simp (maxSteps := 4000000) only [hlb,Gz,G8,G9,G7,szP,Hi]
        rw [← h4, List.drop_eq_nil_of_le hlt]
        rfl))
def Mz (t : List Part) (l : List Int) (k : Nat) : Part := t.getD (l.getD k 0).toNat e0
def dupAt5 (t : List Part) (l : List Int) (x : Part) (k : Nat) : Bool := (List.range k).any fun j => !(x.label == []) && ((Mz t l j).label == x.label)
def labB5 (p x : Part) (br : Bool) : Bool := ((x.kind == 8) == br) && !((br && !Ox x.label) || (((p.kind == 10) && !B5 x.label) || ((!br && !(p.kind == 10)) && !(x.label == []))))
def labAt5 (t : List Part) (p : Part) (l : List Int) (k : Nat) : Bool := labB5 p (Mz t l k) ((p.kind == 7) && ltB 0 k) && !dupAt5 t l (Mz t l k) k
def lab5 (t : List Part) (i : Nat) : Bool := (((kids5 t i).length : Int) == Sq (t.getD i e0)) && (List.range (kids5 t i).length).all fun k => labAt5 t (t.getD i e0) (kids5 t i) k
theorem kidsFrom5_in (t : List Part) : ∀ (m q : Nat), ∀ x ∈ Bd t m q, (q : Int) ≤ x ∧ x < t.length
  | 0, q, x, hx => by simp [Bd] at hx
  | m + 1, q, x, hx => by
    unfold Bd at hx
    split at hx
    · rcases List.mem_cons.1 hx with rfl | hx
      · omega
      · have := kidsFrom5_in t m _ x hx
        omega
    · cases hx
theorem kids5_in {t : List Part} {i : Nat} : ∀ x ∈ kids5 t i, (i : Int) < x ∧ x < t.length := by
  intro x hx
  unfold kids5 at hx
  split at hx
  · cases hx
  · have := kidsFrom5_in t _ _ x hx
    omega
theorem kidsFrom5_len (t : List Part) : ∀ (m q : Nat), (Bd t m q).length ≤ m
  | 0, q => by simp [Bd]
  | m + 1, q => by
    unfold Bd
    split
    · simp only [List.length_cons]
      have := kidsFrom5_len t m (q + eat5 (t.drop q) 1)
      omega
    · simp
def Lab5 (t : List Part) : Prop := ∀ n ∈ t, n.label.length ≤ 9223372036854775807
theorem R6 {p : Nat → Bool} {l : List Nat} (h : ∀ m ∈ l, p m = false) : l.any p = false := by
  rw [List.any_eq_false]
  intro x hx
  rw [h x hx]
  simp
def Hp : Con := C0 (fun (t : Sl Part) (i : Int) => Tame5 t.l ∧ Lab5 t.l ∧ 0 ≤ i ∧ i < t.l.length) (fun t i => lab5 t.l i.toNat)
noncomputable def L8 : Ctx := ⟨tab, lkC [(47, Hd), (48, Hk), (54, Hr), (55, Nm)], 60, lkB [], [], false⟩
theorem Hy : L8.τ = tab := rfl
theorem H0 : L8.Γ = lkC [(47, Hd), (48, Hk), (54, Hr), (55, Nm)] := rfl
theorem Hz : L8.dp = 60 := rfl
theorem H1 : L8.Δ = lkB [] := rfl
theorem Hx : L8.cuts = [] := rfl
theorem Hw : L8.wr = false := rfl
set_option maxRecDepth 100000 in
theorem good_labelled5 : M7 Try.prog (36, Hp) := by
  refine ⟨He Try.func36 (by kernel_rfl) rfl, ?_⟩
  have K : Nh Try.prog L8 := Hl Ny Ht (by
    intro p hp
    simp only [List.mem_cons, List.not_mem_nil, or_false] at hp
    rcases hp with rfl | rfl | rfl | rfl
    · exact Rv
    · exact good_IsTag1
    · exact good_Many5
    · exact good_Kids5) (by simp)
  obtain ⟨c, hc⟩ : ∃ c, Try.f36.body = some c := ⟨_, rfl⟩
  refine Hm K Try.func36 hc [.tmp 4] rfl 106 rfl (fun cvs hpre => ?_)
  change Hp.pre cvs at hpre
  unfold Hp at hpre
  obtain ⟨⟨t⟩, i, rfl, hT, hN, hi0, hi1⟩ := Mp hpre
  simp only at hT hN hi0 hi1
  clear hpre
  obtain ⟨i, rfl⟩ : ∃ n : Nat, i = n := ⟨i.toNat, by omega⟩
  have hil : i < t.length := by omega
  have hlen := hT.1
  obtain ⟨R, hR⟩ : ∃ R, lab5 t i = R := ⟨_, rfl⟩
  have hR2 := hR
  unfold lab5 at hR2
  obtain ⟨l, hl⟩ : ∃ l, kids5 t i = l := ⟨_, rfl⟩
  have hin : ∀ x ∈ l, (i : Int) < x ∧ x < t.length := by rw [← hl]; exact kids5_in
  have q0 := H7 e0 hil
  have hpi := hT.2 (t.getD i e0) (by simp [hil])
  have hll : l.length ≤ 100000 := by
    rw [← hl]
    unfold kids5
    split
    · simp
    · have h1 := kidsFrom5_len t (Sq (t.getD (Int.toNat i) e0)).toNat ((Int.toNat i) + 1)
      have h2 := hpi.2.1
      simp only [Int.toNat_natCast] at h1 ⊢
      omega
  rw [hl] at hR2
  obtain ⟨p, hp⟩ : ∃ p, t.getD i e0 = p := ⟨_, rfl⟩
  rw [hp] at hR2 q0 hpi
  have hpm := hpi.2.2
  cases hmm : ((l.length : Int) == Sq p) with
  | false =>
    rw [hmm, Bool.false_and] at hR2
    subst hR2
    have hmn : ((l.length : Int) != Sq p) = true := by rw [bne, hmm]; rfl
    simp only [Try.f36, Option.some.injEq] at hc
    subst hc
    refine Mn 6 (of_decide_eq_true (by kernel_rfl)) ?_
    (sym =>
     simp [hl,q0,hmn,hR,Int.toNat_natCast,Gz,G8,G9,G7,szP,Hy,H0,Hz,H1,Hx,Hw,Hk.eq_def,Hd.eq_def,Nm.eq_def,Hr.eq_def,Hp.eq_def,Za,Zb,Zc,Zd,Ze,Zf,Zg,Zh,Zi,Zj,Zk,Zl,Zm,Zn,Zo,Zp,Zq,Zr,Zs,Zt,Zu,Zv,Zw,Zx,Zy,Z5,Z8,Z9,Qa,Qb,Qc,Qd,Qe,Qf,Qg,Qj,Qk,Ql,Qm,Qn,Qo,Qp,Qq,Qr,Q0,Q1,Q4,Q5,Q6,Q8,Q9,Ja,Jf,Jh,Ji,Jj,Jk,Jl,Jt,Jx,Jy,Jz,J0,J1,J2,J5,J6,J7,J8,J9,Xa,Xb,Xc,Xd,Xe,Xf,Xg,Xj,Xk,Xl,Xm,Xn,Xo,Xp,Xq,Xr,Xs,Xt,Xu,Xv,Xw,Xx,Xy,Xz,X1,X2,X3,X4,X5,X6,X7,X8,We,Wf,Wg,Wh,Wi,Wj,Wl,Wm,Wn,Wo,Wp,Wq,Wr,Ws,Wt,Wu,Wv,Ww,Wx,Wy,Wz,W0,W3,W4,W5,W6,W7,W8,W9,Ya,Yb,Yc,Yd,Ye,Yf,Yg,Yh,Yi,Yj,Yk,Yl,Ym,Yn,Yo,Yr,Ys,Yt,Yu,Yv,Yw,Yx,Yy,Yz,Y1,Y2,Y3,Y4,Y5,Y6,Y7,Y8,Y9,Va,Vb,Vc,Vd,Ve,Vf,Vg,Vh,Vi,Vj,Vk,Vl,Vm,Vn,Vo,Vp,Vq,Vr,Vs,Vt,Vu,Vv,Vw,Vx,Vy,Vz,V0,V1,V2,V3,V4,V5,V6,V7,V8,V9,Ua,Ub,Uc,Ud,Ue,Uf,Ug,Uh,Ui,Uj,Uk,Ul,Um,Un,Uo,Up,Uq,Ur,Us,Ut,Uu,Uv,Uw,Ux,Uy,Uz,U0,U1,U2,U5,U6,U7,U8,U9,Ka,Kb,Kc,Kd,Ke,Kf,Kg,Kh,Ki,Kj,Kk,Kl,Km,Kn,Ko,Kq,Kr,Ks,Kt,Ku,Kv,Kw,Kx,Ky,Kz,K0,K1,K2,K3,K4,K5,K6,K7,Gg,Gi,Gj,Gk,Gl,Gm,Gn,Gr,Gs,Hg,Nf,H3,Nc,H2,Mt]
     tactic =>
      try simp only [G6] at *
      try simp only [nc2] at *
      try simp (maxSteps := 4000000) only [hl,q0,hmn,hR,Int.toNat_natCast,Gz,G8,G9,G7,szP,Hi]
      repeat' (first | with_reducible assumption | with_reducible refine And.intro ?_ ?_ | intro _ | omega | (rw [Gy]; omega))
      all_goals first
        | assumption
        | omega
        | rfl
        | skip)
  | true =>
  rw [hmm, Bool.true_and] at hR2
  have hmn : ((l.length : Int) != Sq p) = false := by rw [bne, hmm]; rfl
  simp only [Try.f36, Option.some.injEq] at hc
  subst hc
  refine Mn 6 (of_decide_eq_true (by kernel_rfl)) ?_
  (sym =>
   simp [hl,q0,hmn,Gz,G8,G9,G7,szP,Hy,H0,Hz,H1,Hx,Hw,Hk.eq_def,Hd.eq_def,Nm.eq_def,Hr.eq_def,Hp.eq_def,Za,Zb,Zc,Zd,Ze,Zf,Zg,Zh,Zi,Zj,Zk,Zl,Zm,Zn,Zo,Zp,Zq,Zr,Zs,Zt,Zu,Zv,Zw,Zx,Zy,Z5,Z8,Z9,Qa,Qb,Qc,Qd,Qe,Qf,Qg,Qj,Qk,Ql,Qm,Qn,Qo,Qp,Qq,Qr,Q0,Q1,Q4,Q5,Q6,Q8,Q9,Ja,Jf,Jh,Ji,Jj,Jk,Jl,Jt,Jx,Jy,Jz,J0,J1,J2,J5,J6,J7,J8,J9,Xa,Xb,Xc,Xd,Xe,Xf,Xg,Xj,Xk,Xl,Xm,Xn,Xo,Xp,Xq,Xr,Xs,Xt,Xu,Xv,Xw,Xx,Xy,Xz,X1,X2,X3,X4,X5,X6,X7,X8,We,Wf,Wg,Wh,Wi,Wj,Wl,Wm,Wn,Wo,Wp,Wq,Wr,Ws,Wt,Wu,Wv,Ww,Wx,Wy,Wz,W0,W3,W4,W5,W6,W7,W8,W9,Ya,Yb,Yc,Yd,Ye,Yf,Yg,Yh,Yi,Yj,Yk,Yl,Ym,Yn,Yo,Yr,Ys,Yt,Yu,Yv,Yw,Yx,Yy,Yz,Y1,Y2,Y3,Y4,Y5,Y6,Y7,Y8,Y9,Va,Vb,Vc,Vd,Ve,Vf,Vg,Vh,Vi,Vj,Vk,Vl,Vm,Vn,Vo,Vp,Vq,Vr,Vs,Vt,Vu,Vv,Vw,Vx,Vy,Vz,V0,V1,V2,V3,V4,V5,V6,V7,V8,V9,Ua,Ub,Uc,Ud,Ue,Uf,Ug,Uh,Ui,Uj,Uk,Ul,Um,Un,Uo,Up,Uq,Ur,Us,Ut,Uu,Uv,Uw,Ux,Uy,Uz,U0,U1,U2,U5,U6,U7,U8,U9,Ka,Kb,Kc,Kd,Ke,Kf,Kg,Kh,Ki,Kj,Kk,Kl,Km,Kn,Ko,Kq,Kr,Ks,Kt,Ku,Kv,Kw,Kx,Ky,Kz,K0,K1,K2,K3,K4,K5,K6,K7,Gg,Gi,Gj,Gk,Gl,Gm,Gn,Gr,Gs,Hg,Nf,H3,Nc,H2,Mt]
   tactic =>
    try simp only [G6] at *
    try simp only [nc2] at *
    try simp (maxSteps := 4000000) only [hl,q0,hmn,Gz,G8,G9,G7,szP,Hi]
    repeat' (first | with_reducible assumption | with_reducible refine And.intro ?_ ?_ | intro _ | omega | (rw [Gy]; omega))
    all_goals try assumption
    refine Ho [4, 7, 8, 9, 10, 22, 23, 24, 25, 26, 27, 28, 29, 30, 31, 32, 33, 34, 35, 36, 37, 38, 39, 40, 41, 42, 43, 44, 45, 46, 47, 48, 49, 50, 51, 52, 53, 54, 55, 56, 57, 58, 59, 60, 61, 62, 63, 64, 65, 66, 67, 68, 69, 70, 71, 72, 73, 74, 75, 76, 77, 78, 79, 80, 81, 82, 83, 84, 85, 86, 87, 88, 89, 90, 91, 92, 93, 94, 95, 96, 97, 98, 99, 100, 101, 102, 103, 104, 105] (fun k : Nat => [(6, .d (.int .i64 k))]) (fun k : Nat => []) (fun k : Nat => k ≤ l.length ∧ ∀ j, j < k → labAt5 t p l j = true) (fun k : Nat => l.length - k) 0 ?_ ?_ ?_
    · simp
    · ((try simp only [G3, Ha, G5, Hf, upd, Hh, Hn, Na, Nat.reduceDiv, Nat.reduceMod, Nat.reduceMul, Nat.reduceAdd, Nat.reduceEqDiff, List.set_cons_zero, List.set_cons_succ, if_true, if_false, reduceIte]); (first | refine Wk.of_fl ?_ | skip); simp only [Wk, wkK, Nd, wkT, wk1, AV.kept, keptAll, wkO, lk, G4, and_true, true_and, and_self, Nat.reduceEqDiff, Nat.reduceLeDiff, if_true, if_false, reduceIte, reduceCtorEq, Option.isSome, false_implies]; try simp [Wk, wkK, wkT, wk1, AV.kept, keptAll, wkO, lk, G4])
    rintro k ⟨hk, hno⟩
    rcases Hq k l.length with ⟨hlt, hlb⟩ | ⟨hlt, hlb⟩
    · have hki := hin (l.getD k 0) (by simp [hlt])
      have hkt : (l.getD k 0).toNat < t.length := by omega
      have hkn : (Mz t l k).label.length ≤ 9223372036854775807 := hN (Mz t l k) (by
        show t.getD _ e0 ∈ t
        rw [List.getD_eq_getElem?_getD, List.getElem?_eq_getElem hkt]
        exact List.getElem_mem hkt)
      have hyes : labAt5 t p l k = true → ∀ j, j < k + 1 → labAt5 t p l j = true := fun h => R9 hno h
      have hbad : labAt5 t p l k = false → R = false := by
        intro h
        rw [← hR2, Bool.eq_false_iff]
        intro hc
        rw [List.all_eq_true] at hc
        have := hc k (List.mem_range.2 hlt)
        rw [h] at this
        cases this
      obtain ⟨Q, hQ⟩ : ∃ Q, (∀ j, j < k + 1 → labAt5 t p l j = true) = Q := ⟨_, rfl⟩
      rw [hQ] at hyes
      unfold labAt5 at hyes hbad
      have q1 := H7 (0 : Int) hlt
      have q2 := H7 e0 hkt
      change el _ _ = enc (Mz t l k) at q2
      obtain ⟨v, hv⟩ : ∃ v, l.getD k 0 = v := ⟨_, rfl⟩
      rw [hv] at q1 q2 hki hkt
      obtain ⟨v, rfl⟩ : ∃ n : Nat, v = n := ⟨v.toNat, by omega⟩
      rw [Int.toNat_natCast] at q2 hkt
      obtain ⟨x, hx⟩ : ∃ x, Mz t l k = x := ⟨_, rfl⟩
      rw [hx] at hkn hyes hbad q2
      unfold labB5 at hyes hbad
      obtain ⟨kb, hkb⟩ : ∃ b, ltB 0 (k : Int) = b := ⟨_, rfl⟩
      rw [hkb] at hyes hbad
      obtain ⟨a7, h7⟩ : ∃ b, (p.kind == 7) = b := ⟨_, rfl⟩
      obtain ⟨a10, h10⟩ : ∃ b, (p.kind == 10) = b := ⟨_, rfl⟩
      obtain ⟨a8, h8⟩ : ∃ b, (x.kind == 8) = b := ⟨_, rfl⟩
      obtain ⟨tg, htg⟩ : ∃ b, Ox x.label = b := ⟨_, rfl⟩
      obtain ⟨w, hw⟩ : ∃ b, B5 x.label = b := ⟨_, rfl⟩
      obtain ⟨le, hle⟩ : ∃ b, (x.label == []) = b := ⟨_, rfl⟩
      rw [h7, h10, h8, htg, hw, hle] at hyes hbad
      have hE : a7 = true → a10 = false := fun e => by rw [← h7, beq_iff_eq] at e; rw [← h10, e]; rfl
      cases hA : ((a8 == (a7 && kb)) && !(((a7 && kb) && !tg) || ((a10 && !w) || ((!(a7 && kb) && !a10) && !le)))) with
      | false =>
        have hr := hbad (by rw [hA, Bool.false_and])
        subst hr
        clear hbad hyes
        (sym =>
         simp [hlb,hl,q0,q1,q2,hkb,h7,h10,h8,htg,hw,hle,hR,Gz,G8,G9,G7,szP,Hy,H0,Hz,H1,Hx,Hw,Hk.eq_def,Hd.eq_def,Nm.eq_def,Hr.eq_def,Hp.eq_def,Za,Zb,Zc,Zd,Ze,Zf,Zg,Zh,Zi,Zj,Zk,Zl,Zm,Zn,Zo,Zp,Zq,Zr,Zs,Zt,Zu,Zv,Zw,Zx,Zy,Z5,Z8,Z9,Qa,Qb,Qc,Qd,Qe,Qf,Qg,Qj,Qk,Ql,Qm,Qn,Qo,Qp,Qq,Qr,Q0,Q1,Q4,Q5,Q6,Q8,Q9,Ja,Jf,Jh,Ji,Jj,Jk,Jl,Jt,Jx,Jy,Jz,J0,J1,J2,J5,J6,J7,J8,J9,Xa,Xb,Xc,Xd,Xe,Xf,Xg,Xj,Xk,Xl,Xm,Xn,Xo,Xp,Xq,Xr,Xs,Xt,Xu,Xv,Xw,Xx,Xy,Xz,X1,X2,X3,X4,X5,X6,X7,X8,We,Wf,Wg,Wh,Wi,Wj,Wl,Wm,Wn,Wo,Wp,Wq,Wr,Ws,Wt,Wu,Wv,Ww,Wx,Wy,Wz,W0,W3,W4,W5,W6,W7,W8,W9,Ya,Yb,Yc,Yd,Ye,Yf,Yg,Yh,Yi,Yj,Yk,Yl,Ym,Yn,Yo,Yr,Ys,Yt,Yu,Yv,Yw,Yx,Yy,Yz,Y1,Y2,Y3,Y4,Y5,Y6,Y7,Y8,Y9,Va,Vb,Vc,Vd,Ve,Vf,Vg,Vh,Vi,Vj,Vk,Vl,Vm,Vn,Vo,Vp,Vq,Vr,Vs,Vt,Vu,Vv,Vw,Vx,Vy,Vz,V0,V1,V2,V3,V4,V5,V6,V7,V8,V9,Ua,Ub,Uc,Ud,Ue,Uf,Ug,Uh,Ui,Uj,Uk,Ul,Um,Un,Uo,Up,Uq,Ur,Us,Ut,Uu,Uv,Uw,Ux,Uy,Uz,U0,U1,U2,U5,U6,U7,U8,U9,Ka,Kb,Kc,Kd,Ke,Kf,Kg,Kh,Ki,Kj,Kk,Kl,Km,Kn,Ko,Kq,Kr,Ks,Kt,Ku,Kv,Kw,Kx,Ky,Kz,K0,K1,K2,K3,K4,K5,K6,K7,Gg,Gi,Gj,Gk,Gl,Gm,Gn,Gr,Gs,Hg,Nf,H3,Nc,H2,Mt]
         tactic =>
          try simp only [G6] at *
          try simp only [nc2] at *
          try simp (maxSteps := 4000000) only [hlb,hl,q0,q1,q2,hkb,h7,h10,h8,htg,hw,hle,hR,Gz,G8,G9,G7,szP,Hi]
          repeat' (first | with_reducible assumption | with_reducible refine And.intro ?_ ?_ | intro _ | omega | (rw [Gy]; omega))
          all_goals first
            | (with_reducible refine Hu ?_; kernel_rfl)
            | omega
            | assumption
            | trivial
            | rfl
            | (exfalso; clear hE hno hR hR2 hin hT hN q0 q1 q2 K hki hkt; simp_all; done)
            | (exfalso; clear hno hR hR2 hin hT hN q0 q1 q2 K hki hkt; simp_all; done)
            | skip)
      | true =>
        rw [hA, Bool.true_and, Bool.not_eq_true'] at hyes
        rw [hA, Bool.true_and, Bool.not_eq_false'] at hbad
        unfold dupAt5 at hyes hbad
        rw [hle] at hyes hbad
        have hpath : (a7 = true ∧ kb = true ∧ a10 = false ∧ a8 = true ∧ tg = true) ∨ (a7 = false ∧ a10 = true ∧ a8 = false ∧ w = true) ∨ (a7 = false ∧ a10 = false ∧ a8 = false ∧ le = true) ∨ (a7 = true ∧ kb = false ∧ a10 = false ∧ a8 = false ∧ le = true) := by
          clear hbad hyes hno hR hR2 hin hT hN q0 q1 q2 h7 h10 h8 htg hw hle hkb
          revert hA hE
          cases a7 <;> cases kb <;> cases a10 <;> cases a8 <;> cases tg <;> cases w <;> cases le <;> simp
        clear hA hE
        rcases hpath with ⟨rfl, rfl, rfl, rfl, rfl⟩ | ⟨rfl, rfl, rfl, rfl⟩ | ⟨rfl, rfl, rfl, rfl⟩ | ⟨rfl, rfl, rfl, rfl, rfl⟩
        · cases le with
          | true =>
            (sym =>
             simp [hlb,hl,q0,q1,q2,hkb,h7,h10,h8,htg,hw,hle,Gz,G8,G9,G7,szP,Hy,H0,Hz,H1,Hx,Hw,Hk.eq_def,Hd.eq_def,Nm.eq_def,Hr.eq_def,Hp.eq_def,Za,Zb,Zc,Zd,Ze,Zf,Zg,Zh,Zi,Zj,Zk,Zl,Zm,Zn,Zo,Zp,Zq,Zr,Zs,Zt,Zu,Zv,Zw,Zx,Zy,Z5,Z8,Z9,Qa,Qb,Qc,Qd,Qe,Qf,Qg,Qj,Qk,Ql,Qm,Qn,Qo,Qp,Qq,Qr,Q0,Q1,Q4,Q5,Q6,Q8,Q9,Ja,Jf,Jh,Ji,Jj,Jk,Jl,Jt,Jx,Jy,Jz,J0,J1,J2,J5,J6,J7,J8,J9,Xa,Xb,Xc,Xd,Xe,Xf,Xg,Xj,Xk,Xl,Xm,Xn,Xo,Xp,Xq,Xr,Xs,Xt,Xu,Xv,Xw,Xx,Xy,Xz,X1,X2,X3,X4,X5,X6,X7,X8,We,Wf,Wg,Wh,Wi,Wj,Wl,Wm,Wn,Wo,Wp,Wq,Wr,Ws,Wt,Wu,Wv,Ww,Wx,Wy,Wz,W0,W3,W4,W5,W6,W7,W8,W9,Ya,Yb,Yc,Yd,Ye,Yf,Yg,Yh,Yi,Yj,Yk,Yl,Ym,Yn,Yo,Yr,Ys,Yt,Yu,Yv,Yw,Yx,Yy,Yz,Y1,Y2,Y3,Y4,Y5,Y6,Y7,Y8,Y9,Va,Vb,Vc,Vd,Ve,Vf,Vg,Vh,Vi,Vj,Vk,Vl,Vm,Vn,Vo,Vp,Vq,Vr,Vs,Vt,Vu,Vv,Vw,Vx,Vy,Vz,V0,V1,V2,V3,V4,V5,V6,V7,V8,V9,Ua,Ub,Uc,Ud,Ue,Uf,Ug,Uh,Ui,Uj,Uk,Ul,Um,Un,Uo,Up,Uq,Ur,Us,Ut,Uu,Uv,Uw,Ux,Uy,Uz,U0,U1,U2,U5,U6,U7,U8,U9,Ka,Kb,Kc,Kd,Ke,Kf,Kg,Kh,Ki,Kj,Kk,Kl,Km,Kn,Ko,Kq,Kr,Ks,Kt,Ku,Kv,Kw,Kx,Ky,Kz,K0,K1,K2,K3,K4,K5,K6,K7,Gg,Gi,Gj,Gk,Gl,Gm,Gn,Gr,Gs,Hg,Nf,H3,Nc,H2,Mt]
             tactic =>
              try simp only [G6] at *
              try simp only [nc2] at *
              try simp (maxSteps := 4000000) only [hlb,hl,q0,q1,q2,hkb,h7,h10,h8,htg,hw,hle,Gz,G8,G9,G7,szP,Hi]
              repeat' (first | with_reducible assumption | with_reducible refine And.intro ?_ ?_ | intro _ | omega | (rw [Gy]; omega))
              all_goals first
                | (with_reducible refine Hu ?_; kernel_rfl)
                | omega
                | assumption
                | skip
              refine Ho [4, 85, 86, 87, 88, 89, 90, 91, 92, 93, 94, 95, 96, 97, 98, 99, 100, 101, 102, 103, 104, 105] (fun j : Nat => [(10, .d (.int .i64 j))]) (fun j : Nat => []) (fun j : Nat => j ≤ k ∧ ∀ m, m < j → (!true && ((Mz t l m).label == x.label)) = false) (fun j : Nat => k - j) 0 ?_ ?_ ?_
              · simp
              · ((try simp only [G3, Ha, G5, Hf, upd, Hh, Hn, Na, Nat.reduceDiv, Nat.reduceMod, Nat.reduceMul, Nat.reduceAdd, Nat.reduceEqDiff, List.set_cons_zero, List.set_cons_succ, if_true, if_false, reduceIte]); (first | refine Wk.of_fl ?_ | skip); simp only [Wk, wkK, Nd, wkT, wk1, AV.kept, keptAll, wkO, lk, G4, and_true, true_and, and_self, Nat.reduceEqDiff, Nat.reduceLeDiff, if_true, if_false, reduceIte, reduceCtorEq, Option.isSome, false_implies]; try simp [Wk, wkK, wkT, wk1, AV.kept, keptAll, wkO, lk, G4])
              rintro j ⟨hj, hnj⟩
              rcases Hq j k with ⟨hjl, hjb⟩ | ⟨hjl, hjb⟩
              · have hsj : (!true && ((Mz t l j).label == x.label)) = false → ∀ m, m < j + 1 → (!true && ((Mz t l m).label == x.label)) = false := fun h => R9 hnj h
                have hbj : (!true && ((Mz t l j).label == x.label)) = true → R = false := fun h => hbad (by rw [List.any_eq_true]; exact ⟨j, List.mem_range.2 hjl, h⟩)
                have hjlt : j < l.length := by omega
                have hji := hin (l.getD j 0) (by simp [hjlt])
                have hjt : (l.getD j 0).toNat < t.length := by omega
                have r1 := H7 (0 : Int) hjlt
                have r2 := H7 e0 hjt
                change el _ _ = enc (Mz t l j) at r2
                obtain ⟨u, hu⟩ : ∃ v, l.getD j 0 = v := ⟨_, rfl⟩
                rw [hu] at r1 r2 hji hjt
                obtain ⟨u, rfl⟩ : ∃ n : Nat, u = n := ⟨u.toNat, by omega⟩
                rw [Int.toNat_natCast] at r2 hjt
                obtain ⟨y, hy⟩ : ∃ y, Mz t l j = y := ⟨_, rfl⟩
                rw [hy] at r2 hsj hbj
                obtain ⟨ee, hee⟩ : ∃ b, (y.label == x.label) = b := ⟨_, rfl⟩
                rw [hee] at hsj hbj
                (sym =>
                 simp [hjb,hl,r1,r2,hle,hee,Gz,G8,G9,G7,szP,Hy,H0,Hz,H1,Hx,Hw,Hk.eq_def,Hd.eq_def,Nm.eq_def,Hr.eq_def,Hp.eq_def,Za,Zb,Zc,Zd,Ze,Zf,Zg,Zh,Zi,Zj,Zk,Zl,Zm,Zn,Zo,Zp,Zq,Zr,Zs,Zt,Zu,Zv,Zw,Zx,Zy,Z5,Z8,Z9,Qa,Qb,Qc,Qd,Qe,Qf,Qg,Qj,Qk,Ql,Qm,Qn,Qo,Qp,Qq,Qr,Q0,Q1,Q4,Q5,Q6,Q8,Q9,Ja,Jf,Jh,Ji,Jj,Jk,Jl,Jt,Jx,Jy,Jz,J0,J1,J2,J5,J6,J7,J8,J9,Xa,Xb,Xc,Xd,Xe,Xf,Xg,Xj,Xk,Xl,Xm,Xn,Xo,Xp,Xq,Xr,Xs,Xt,Xu,Xv,Xw,Xx,Xy,Xz,X1,X2,X3,X4,X5,X6,X7,X8,We,Wf,Wg,Wh,Wi,Wj,Wl,Wm,Wn,Wo,Wp,Wq,Wr,Ws,Wt,Wu,Wv,Ww,Wx,Wy,Wz,W0,W3,W4,W5,W6,W7,W8,W9,Ya,Yb,Yc,Yd,Ye,Yf,Yg,Yh,Yi,Yj,Yk,Yl,Ym,Yn,Yo,Yr,Ys,Yt,Yu,Yv,Yw,Yx,Yy,Yz,Y1,Y2,Y3,Y4,Y5,Y6,Y7,Y8,Y9,Va,Vb,Vc,Vd,Ve,Vf,Vg,Vh,Vi,Vj,Vk,Vl,Vm,Vn,Vo,Vp,Vq,Vr,Vs,Vt,Vu,Vv,Vw,Vx,Vy,Vz,V0,V1,V2,V3,V4,V5,V6,V7,V8,V9,Ua,Ub,Uc,Ud,Ue,Uf,Ug,Uh,Ui,Uj,Uk,Ul,Um,Un,Uo,Up,Uq,Ur,Us,Ut,Uu,Uv,Uw,Ux,Uy,Uz,U0,U1,U2,U5,U6,U7,U8,U9,Ka,Kb,Kc,Kd,Ke,Kf,Kg,Kh,Ki,Kj,Kk,Kl,Km,Kn,Ko,Kq,Kr,Ks,Kt,Ku,Kv,Kw,Kx,Ky,Kz,K0,K1,K2,K3,K4,K5,K6,K7,Gg,Gi,Gj,Gk,Gl,Gm,Gn,Gr,Gs,Hg,Nf,H3,Nc,H2,Mt]
                 tactic =>
                  try simp only [G6] at *
                  try simp only [nc2] at *
                  try simp (maxSteps := 4000000) only [hjb,hl,r1,r2,hle,hee,Gz,G8,G9,G7,szP,Hi]
                  repeat' (first | with_reducible assumption | with_reducible refine And.intro ?_ ?_ | intro _ | omega | (rw [Gy]; omega))
                  all_goals first
                    | (with_reducible refine Hu ?_; kernel_rfl)
                    | omega
                    | exact ⟨j + 1, by ((try simp only [G3, Ha, G5, Hf, upd, Hh, Hn, Na, Nat.reduceDiv, Nat.reduceMod, Nat.reduceMul, Nat.reduceAdd, Nat.reduceEqDiff, List.set_cons_zero, List.set_cons_succ, if_true, if_false, reduceIte]); (first | refine Wk.of_fl ?_ | skip); simp only [Wk, wkK, Nd, wkT, wk1, AV.kept, keptAll, wkO, lk, G4, and_true, true_and, and_self, Nat.reduceEqDiff, Nat.reduceLeDiff, if_true, if_false, reduceIte, reduceCtorEq, Option.isSome, false_implies]; try simp [Wk, wkK, wkT, wk1, AV.kept, keptAll, wkO, lk, G4]), by omega, by omega⟩
                    | skip)
              · have hs := hyes (R6 fun m hm => hnj m (by have := List.mem_range.1 hm; omega))
                (sym =>
                 simp [hjb,Gz,G8,G9,G7,szP,Hy,H0,Hz,H1,Hx,Hw,Hk.eq_def,Hd.eq_def,Nm.eq_def,Hr.eq_def,Hp.eq_def,Za,Zb,Zc,Zd,Ze,Zf,Zg,Zh,Zi,Zj,Zk,Zl,Zm,Zn,Zo,Zp,Zq,Zr,Zs,Zt,Zu,Zv,Zw,Zx,Zy,Z5,Z8,Z9,Qa,Qb,Qc,Qd,Qe,Qf,Qg,Qj,Qk,Ql,Qm,Qn,Qo,Qp,Qq,Qr,Q0,Q1,Q4,Q5,Q6,Q8,Q9,Ja,Jf,Jh,Ji,Jj,Jk,Jl,Jt,Jx,Jy,Jz,J0,J1,J2,J5,J6,J7,J8,J9,Xa,Xb,Xc,Xd,Xe,Xf,Xg,Xj,Xk,Xl,Xm,Xn,Xo,Xp,Xq,Xr,Xs,Xt,Xu,Xv,Xw,Xx,Xy,Xz,X1,X2,X3,X4,X5,X6,X7,X8,We,Wf,Wg,Wh,Wi,Wj,Wl,Wm,Wn,Wo,Wp,Wq,Wr,Ws,Wt,Wu,Wv,Ww,Wx,Wy,Wz,W0,W3,W4,W5,W6,W7,W8,W9,Ya,Yb,Yc,Yd,Ye,Yf,Yg,Yh,Yi,Yj,Yk,Yl,Ym,Yn,Yo,Yr,Ys,Yt,Yu,Yv,Yw,Yx,Yy,Yz,Y1,Y2,Y3,Y4,Y5,Y6,Y7,Y8,Y9,Va,Vb,Vc,Vd,Ve,Vf,Vg,Vh,Vi,Vj,Vk,Vl,Vm,Vn,Vo,Vp,Vq,Vr,Vs,Vt,Vu,Vv,Vw,Vx,Vy,Vz,V0,V1,V2,V3,V4,V5,V6,V7,V8,V9,Ua,Ub,Uc,Ud,Ue,Uf,Ug,Uh,Ui,Uj,Uk,Ul,Um,Un,Uo,Up,Uq,Ur,Us,Ut,Uu,Uv,Uw,Ux,Uy,Uz,U0,U1,U2,U5,U6,U7,U8,U9,Ka,Kb,Kc,Kd,Ke,Kf,Kg,Kh,Ki,Kj,Kk,Kl,Km,Kn,Ko,Kq,Kr,Ks,Kt,Ku,Kv,Kw,Kx,Ky,Kz,K0,K1,K2,K3,K4,K5,K6,K7,Gg,Gi,Gj,Gk,Gl,Gm,Gn,Gr,Gs,Hg,Nf,H3,Nc,H2,Mt]
                 tactic =>
                  try simp only [G6] at *
                  try simp only [nc2] at *
                  try simp (maxSteps := 4000000) only [hjb,Gz,G8,G9,G7,szP,Hi]
                  repeat' (first | with_reducible assumption | with_reducible refine And.intro ?_ ?_ | intro _ | omega | (rw [Gy]; omega))
                  all_goals first
                    | (with_reducible refine Hu ?_; kernel_rfl)
                    | omega
                    | exact ⟨k + 1, by ((try simp only [G3, Ha, G5, Hf, upd, Hh, Hn, Na, Nat.reduceDiv, Nat.reduceMod, Nat.reduceMul, Nat.reduceAdd, Nat.reduceEqDiff, List.set_cons_zero, List.set_cons_succ, if_true, if_false, reduceIte]); (first | refine Wk.of_fl ?_ | skip); simp only [Wk, wkK, Nd, wkT, wk1, AV.kept, keptAll, wkO, lk, G4, and_true, true_and, and_self, Nat.reduceEqDiff, Nat.reduceLeDiff, if_true, if_false, reduceIte, reduceCtorEq, Option.isSome, false_implies]; try simp [Wk, wkK, wkT, wk1, AV.kept, keptAll, wkO, lk, G4]), by omega, Eq.mpr hQ hs, by omega⟩
                    | skip))
          | false =>
            (sym =>
             simp [hlb,hl,q0,q1,q2,hkb,h7,h10,h8,htg,hw,hle,Gz,G8,G9,G7,szP,Hy,H0,Hz,H1,Hx,Hw,Hk.eq_def,Hd.eq_def,Nm.eq_def,Hr.eq_def,Hp.eq_def,Za,Zb,Zc,Zd,Ze,Zf,Zg,Zh,Zi,Zj,Zk,Zl,Zm,Zn,Zo,Zp,Zq,Zr,Zs,Zt,Zu,Zv,Zw,Zx,Zy,Z5,Z8,Z9,Qa,Qb,Qc,Qd,Qe,Qf,Qg,Qj,Qk,Ql,Qm,Qn,Qo,Qp,Qq,Qr,Q0,Q1,Q4,Q5,Q6,Q8,Q9,Ja,Jf,Jh,Ji,Jj,Jk,Jl,Jt,Jx,Jy,Jz,J0,J1,J2,J5,J6,J7,J8,J9,Xa,Xb,Xc,Xd,Xe,Xf,Xg,Xj,Xk,Xl,Xm,Xn,Xo,Xp,Xq,Xr,Xs,Xt,Xu,Xv,Xw,Xx,Xy,Xz,X1,X2,X3,X4,X5,X6,X7,X8,We,Wf,Wg,Wh,Wi,Wj,Wl,Wm,Wn,Wo,Wp,Wq,Wr,Ws,Wt,Wu,Wv,Ww,Wx,Wy,Wz,W0,W3,W4,W5,W6,W7,W8,W9,Ya,Yb,Yc,Yd,Ye,Yf,Yg,Yh,Yi,Yj,Yk,Yl,Ym,Yn,Yo,Yr,Ys,Yt,Yu,Yv,Yw,Yx,Yy,Yz,Y1,Y2,Y3,Y4,Y5,Y6,Y7,Y8,Y9,Va,Vb,Vc,Vd,Ve,Vf,Vg,Vh,Vi,Vj,Vk,Vl,Vm,Vn,Vo,Vp,Vq,Vr,Vs,Vt,Vu,Vv,Vw,Vx,Vy,Vz,V0,V1,V2,V3,V4,V5,V6,V7,V8,V9,Ua,Ub,Uc,Ud,Ue,Uf,Ug,Uh,Ui,Uj,Uk,Ul,Um,Un,Uo,Up,Uq,Ur,Us,Ut,Uu,Uv,Uw,Ux,Uy,Uz,U0,U1,U2,U5,U6,U7,U8,U9,Ka,Kb,Kc,Kd,Ke,Kf,Kg,Kh,Ki,Kj,Kk,Kl,Km,Kn,Ko,Kq,Kr,Ks,Kt,Ku,Kv,Kw,Kx,Ky,Kz,K0,K1,K2,K3,K4,K5,K6,K7,Gg,Gi,Gj,Gk,Gl,Gm,Gn,Gr,Gs,Hg,Nf,H3,Nc,H2,Mt]
             tactic =>
              try simp only [G6] at *
              try simp only [nc2] at *
              try simp (maxSteps := 4000000) only [hlb,hl,q0,q1,q2,hkb,h7,h10,h8,htg,hw,hle,Gz,G8,G9,G7,szP,Hi]
              repeat' (first | with_reducible assumption | with_reducible refine And.intro ?_ ?_ | intro _ | omega | (rw [Gy]; omega))
              all_goals first
                | (with_reducible refine Hu ?_; kernel_rfl)
                | omega
                | assumption
                | skip
              refine Ho [4, 85, 86, 87, 88, 89, 90, 91, 92, 93, 94, 95, 96, 97, 98, 99, 100, 101, 102, 103, 104, 105] (fun j : Nat => [(10, .d (.int .i64 j))]) (fun j : Nat => []) (fun j : Nat => j ≤ k ∧ ∀ m, m < j → (!false && ((Mz t l m).label == x.label)) = false) (fun j : Nat => k - j) 0 ?_ ?_ ?_
              · simp
              · ((try simp only [G3, Ha, G5, Hf, upd, Hh, Hn, Na, Nat.reduceDiv, Nat.reduceMod, Nat.reduceMul, Nat.reduceAdd, Nat.reduceEqDiff, List.set_cons_zero, List.set_cons_succ, if_true, if_false, reduceIte]); (first | refine Wk.of_fl ?_ | skip); simp only [Wk, wkK, Nd, wkT, wk1, AV.kept, keptAll, wkO, lk, G4, and_true, true_and, and_self, Nat.reduceEqDiff, Nat.reduceLeDiff, if_true, if_false, reduceIte, reduceCtorEq, Option.isSome, false_implies]; try simp [Wk, wkK, wkT, wk1, AV.kept, keptAll, wkO, lk, G4])
              rintro j ⟨hj, hnj⟩
              rcases Hq j k with ⟨hjl, hjb⟩ | ⟨hjl, hjb⟩
              · have hsj : (!false && ((Mz t l j).label == x.label)) = false → ∀ m, m < j + 1 → (!false && ((Mz t l m).label == x.label)) = false := fun h => R9 hnj h
                have hbj : (!false && ((Mz t l j).label == x.label)) = true → R = false := fun h => hbad (by rw [List.any_eq_true]; exact ⟨j, List.mem_range.2 hjl, h⟩)
                have hjlt : j < l.length := by omega
                have hji := hin (l.getD j 0) (by simp [hjlt])
                have hjt : (l.getD j 0).toNat < t.length := by omega
                have r1 := H7 (0 : Int) hjlt
                have r2 := H7 e0 hjt
                change el _ _ = enc (Mz t l j) at r2
                obtain ⟨u, hu⟩ : ∃ v, l.getD j 0 = v := ⟨_, rfl⟩
                rw [hu] at r1 r2 hji hjt
                obtain ⟨u, rfl⟩ : ∃ n : Nat, u = n := ⟨u.toNat, by omega⟩
                rw [Int.toNat_natCast] at r2 hjt
                obtain ⟨y, hy⟩ : ∃ y, Mz t l j = y := ⟨_, rfl⟩
                rw [hy] at r2 hsj hbj
                obtain ⟨ee, hee⟩ : ∃ b, (y.label == x.label) = b := ⟨_, rfl⟩
                rw [hee] at hsj hbj
                cases ee with
                | true =>
                  have hr := hbj rfl
                  subst hr
                  (sym =>
                   simp [hjb,hl,r1,r2,hle,hee,hR,Gz,G8,G9,G7,szP,Hy,H0,Hz,H1,Hx,Hw,Hk.eq_def,Hd.eq_def,Nm.eq_def,Hr.eq_def,Hp.eq_def,Za,Zb,Zc,Zd,Ze,Zf,Zg,Zh,Zi,Zj,Zk,Zl,Zm,Zn,Zo,Zp,Zq,Zr,Zs,Zt,Zu,Zv,Zw,Zx,Zy,Z5,Z8,Z9,Qa,Qb,Qc,Qd,Qe,Qf,Qg,Qj,Qk,Ql,Qm,Qn,Qo,Qp,Qq,Qr,Q0,Q1,Q4,Q5,Q6,Q8,Q9,Ja,Jf,Jh,Ji,Jj,Jk,Jl,Jt,Jx,Jy,Jz,J0,J1,J2,J5,J6,J7,J8,J9,Xa,Xb,Xc,Xd,Xe,Xf,Xg,Xj,Xk,Xl,Xm,Xn,Xo,Xp,Xq,Xr,Xs,Xt,Xu,Xv,Xw,Xx,Xy,Xz,X1,X2,X3,X4,X5,X6,X7,X8,We,Wf,Wg,Wh,Wi,Wj,Wl,Wm,Wn,Wo,Wp,Wq,Wr,Ws,Wt,Wu,Wv,Ww,Wx,Wy,Wz,W0,W3,W4,W5,W6,W7,W8,W9,Ya,Yb,Yc,Yd,Ye,Yf,Yg,Yh,Yi,Yj,Yk,Yl,Ym,Yn,Yo,Yr,Ys,Yt,Yu,Yv,Yw,Yx,Yy,Yz,Y1,Y2,Y3,Y4,Y5,Y6,Y7,Y8,Y9,Va,Vb,Vc,Vd,Ve,Vf,Vg,Vh,Vi,Vj,Vk,Vl,Vm,Vn,Vo,Vp,Vq,Vr,Vs,Vt,Vu,Vv,Vw,Vx,Vy,Vz,V0,V1,V2,V3,V4,V5,V6,V7,V8,V9,Ua,Ub,Uc,Ud,Ue,Uf,Ug,Uh,Ui,Uj,Uk,Ul,Um,Un,Uo,Up,Uq,Ur,Us,Ut,Uu,Uv,Uw,Ux,Uy,Uz,U0,U1,U2,U5,U6,U7,U8,U9,Ka,Kb,Kc,Kd,Ke,Kf,Kg,Kh,Ki,Kj,Kk,Kl,Km,Kn,Ko,Kq,Kr,Ks,Kt,Ku,Kv,Kw,Kx,Ky,Kz,K0,K1,K2,K3,K4,K5,K6,K7,Gg,Gi,Gj,Gk,Gl,Gm,Gn,Gr,Gs,Hg,Nf,H3,Nc,H2,Mt]
                   tactic =>
                    try simp only [G6] at *
                    try simp only [nc2] at *
                    try simp (maxSteps := 4000000) only [hjb,hl,r1,r2,hle,hee,hR,Gz,G8,G9,G7,szP,Hi]
                    repeat' (first | with_reducible assumption | with_reducible refine And.intro ?_ ?_ | intro _ | omega | (rw [Gy]; omega))
                    all_goals first
                      | (with_reducible refine Hu ?_; kernel_rfl)
                      | omega
                      | rfl
                      | skip)
                | false =>
                  have h2 := hsj rfl
                  (sym =>
                   simp [hjb,hl,r1,r2,hle,hee,Gz,G8,G9,G7,szP,Hy,H0,Hz,H1,Hx,Hw,Hk.eq_def,Hd.eq_def,Nm.eq_def,Hr.eq_def,Hp.eq_def,Za,Zb,Zc,Zd,Ze,Zf,Zg,Zh,Zi,Zj,Zk,Zl,Zm,Zn,Zo,Zp,Zq,Zr,Zs,Zt,Zu,Zv,Zw,Zx,Zy,Z5,Z8,Z9,Qa,Qb,Qc,Qd,Qe,Qf,Qg,Qj,Qk,Ql,Qm,Qn,Qo,Qp,Qq,Qr,Q0,Q1,Q4,Q5,Q6,Q8,Q9,Ja,Jf,Jh,Ji,Jj,Jk,Jl,Jt,Jx,Jy,Jz,J0,J1,J2,J5,J6,J7,J8,J9,Xa,Xb,Xc,Xd,Xe,Xf,Xg,Xj,Xk,Xl,Xm,Xn,Xo,Xp,Xq,Xr,Xs,Xt,Xu,Xv,Xw,Xx,Xy,Xz,X1,X2,X3,X4,X5,X6,X7,X8,We,Wf,Wg,Wh,Wi,Wj,Wl,Wm,Wn,Wo,Wp,Wq,Wr,Ws,Wt,Wu,Wv,Ww,Wx,Wy,Wz,W0,W3,W4,W5,W6,W7,W8,W9,Ya,Yb,Yc,Yd,Ye,Yf,Yg,Yh,Yi,Yj,Yk,Yl,Ym,Yn,Yo,Yr,Ys,Yt,Yu,Yv,Yw,Yx,Yy,Yz,Y1,Y2,Y3,Y4,Y5,Y6,Y7,Y8,Y9,Va,Vb,Vc,Vd,Ve,Vf,Vg,Vh,Vi,Vj,Vk,Vl,Vm,Vn,Vo,Vp,Vq,Vr,Vs,Vt,Vu,Vv,Vw,Vx,Vy,Vz,V0,V1,V2,V3,V4,V5,V6,V7,V8,V9,Ua,Ub,Uc,Ud,Ue,Uf,Ug,Uh,Ui,Uj,Uk,Ul,Um,Un,Uo,Up,Uq,Ur,Us,Ut,Uu,Uv,Uw,Ux,Uy,Uz,U0,U1,U2,U5,U6,U7,U8,U9,Ka,Kb,Kc,Kd,Ke,Kf,Kg,Kh,Ki,Kj,Kk,Kl,Km,Kn,Ko,Kq,Kr,Ks,Kt,Ku,Kv,Kw,Kx,Ky,Kz,K0,K1,K2,K3,K4,K5,K6,K7,Gg,Gi,Gj,Gk,Gl,Gm,Gn,Gr,Gs,Hg,Nf,H3,Nc,H2,Mt]
                   tactic =>
                    try simp only [G6] at *
                    try simp only [nc2] at *
                    try simp (maxSteps := 4000000) only [hjb,hl,r1,r2,hle,hee,Gz,G8,G9,G7,szP,Hi]
                    repeat' (first | with_reducible assumption | with_reducible refine And.intro ?_ ?_ | intro _ | omega | (rw [Gy]; omega))
                    all_goals first
                      | (with_reducible refine Hu ?_; kernel_rfl)
                      | omega
                      | exact ⟨j + 1, by ((try simp only [G3, Ha, G5, Hf, upd, Hh, Hn, Na, Nat.reduceDiv, Nat.reduceMod, Nat.reduceMul, Nat.reduceAdd, Nat.reduceEqDiff, List.set_cons_zero, List.set_cons_succ, if_true, if_false, reduceIte]); (first | refine Wk.of_fl ?_ | skip); simp only [Wk, wkK, Nd, wkT, wk1, AV.kept, keptAll, wkO, lk, G4, and_true, true_and, and_self, Nat.reduceEqDiff, Nat.reduceLeDiff, if_true, if_false, reduceIte, reduceCtorEq, Option.isSome, false_implies]; try simp [Wk, wkK, wkT, wk1, AV.kept, keptAll, wkO, lk, G4]), by omega, fun m hm => by simpa using h2 m hm, by omega⟩
                      | skip)
              · have hs := hyes (R6 fun m hm => hnj m (by have := List.mem_range.1 hm; omega))
                (sym =>
                 simp [hjb,Gz,G8,G9,G7,szP,Hy,H0,Hz,H1,Hx,Hw,Hk.eq_def,Hd.eq_def,Nm.eq_def,Hr.eq_def,Hp.eq_def,Za,Zb,Zc,Zd,Ze,Zf,Zg,Zh,Zi,Zj,Zk,Zl,Zm,Zn,Zo,Zp,Zq,Zr,Zs,Zt,Zu,Zv,Zw,Zx,Zy,Z5,Z8,Z9,Qa,Qb,Qc,Qd,Qe,Qf,Qg,Qj,Qk,Ql,Qm,Qn,Qo,Qp,Qq,Qr,Q0,Q1,Q4,Q5,Q6,Q8,Q9,Ja,Jf,Jh,Ji,Jj,Jk,Jl,Jt,Jx,Jy,Jz,J0,J1,J2,J5,J6,J7,J8,J9,Xa,Xb,Xc,Xd,Xe,Xf,Xg,Xj,Xk,Xl,Xm,Xn,Xo,Xp,Xq,Xr,Xs,Xt,Xu,Xv,Xw,Xx,Xy,Xz,X1,X2,X3,X4,X5,X6,X7,X8,We,Wf,Wg,Wh,Wi,Wj,Wl,Wm,Wn,Wo,Wp,Wq,Wr,Ws,Wt,Wu,Wv,Ww,Wx,Wy,Wz,W0,W3,W4,W5,W6,W7,W8,W9,Ya,Yb,Yc,Yd,Ye,Yf,Yg,Yh,Yi,Yj,Yk,Yl,Ym,Yn,Yo,Yr,Ys,Yt,Yu,Yv,Yw,Yx,Yy,Yz,Y1,Y2,Y3,Y4,Y5,Y6,Y7,Y8,Y9,Va,Vb,Vc,Vd,Ve,Vf,Vg,Vh,Vi,Vj,Vk,Vl,Vm,Vn,Vo,Vp,Vq,Vr,Vs,Vt,Vu,Vv,Vw,Vx,Vy,Vz,V0,V1,V2,V3,V4,V5,V6,V7,V8,V9,Ua,Ub,Uc,Ud,Ue,Uf,Ug,Uh,Ui,Uj,Uk,Ul,Um,Un,Uo,Up,Uq,Ur,Us,Ut,Uu,Uv,Uw,Ux,Uy,Uz,U0,U1,U2,U5,U6,U7,U8,U9,Ka,Kb,Kc,Kd,Ke,Kf,Kg,Kh,Ki,Kj,Kk,Kl,Km,Kn,Ko,Kq,Kr,Ks,Kt,Ku,Kv,Kw,Kx,Ky,Kz,K0,K1,K2,K3,K4,K5,K6,K7,Gg,Gi,Gj,Gk,Gl,Gm,Gn,Gr,Gs,Hg,Nf,H3,Nc,H2,Mt]
                 tactic =>
                  try simp only [G6] at *
                  try simp only [nc2] at *
                  try simp (maxSteps := 4000000) only [hjb,Gz,G8,G9,G7,szP,Hi]
                  repeat' (first | with_reducible assumption | with_reducible refine And.intro ?_ ?_ | intro _ | omega | (rw [Gy]; omega))
                  all_goals first
                    | (with_reducible refine Hu ?_; kernel_rfl)
                    | omega
                    | exact ⟨k + 1, by ((try simp only [G3, Ha, G5, Hf, upd, Hh, Hn, Na, Nat.reduceDiv, Nat.reduceMod, Nat.reduceMul, Nat.reduceAdd, Nat.reduceEqDiff, List.set_cons_zero, List.set_cons_succ, if_true, if_false, reduceIte]); (first | refine Wk.of_fl ?_ | skip); simp only [Wk, wkK, Nd, wkT, wk1, AV.kept, keptAll, wkO, lk, G4, and_true, true_and, and_self, Nat.reduceEqDiff, Nat.reduceLeDiff, if_true, if_false, reduceIte, reduceCtorEq, Option.isSome, false_implies]; try simp [Wk, wkK, wkT, wk1, AV.kept, keptAll, wkO, lk, G4]), by omega, Eq.mpr hQ hs, by omega⟩
                    | skip))
        · cases le with
          | true =>
            (sym =>
             simp [hlb,hl,q0,q1,q2,hkb,h7,h10,h8,htg,hw,hle,Gz,G8,G9,G7,szP,Hy,H0,Hz,H1,Hx,Hw,Hk.eq_def,Hd.eq_def,Nm.eq_def,Hr.eq_def,Hp.eq_def,Za,Zb,Zc,Zd,Ze,Zf,Zg,Zh,Zi,Zj,Zk,Zl,Zm,Zn,Zo,Zp,Zq,Zr,Zs,Zt,Zu,Zv,Zw,Zx,Zy,Z5,Z8,Z9,Qa,Qb,Qc,Qd,Qe,Qf,Qg,Qj,Qk,Ql,Qm,Qn,Qo,Qp,Qq,Qr,Q0,Q1,Q4,Q5,Q6,Q8,Q9,Ja,Jf,Jh,Ji,Jj,Jk,Jl,Jt,Jx,Jy,Jz,J0,J1,J2,J5,J6,J7,J8,J9,Xa,Xb,Xc,Xd,Xe,Xf,Xg,Xj,Xk,Xl,Xm,Xn,Xo,Xp,Xq,Xr,Xs,Xt,Xu,Xv,Xw,Xx,Xy,Xz,X1,X2,X3,X4,X5,X6,X7,X8,We,Wf,Wg,Wh,Wi,Wj,Wl,Wm,Wn,Wo,Wp,Wq,Wr,Ws,Wt,Wu,Wv,Ww,Wx,Wy,Wz,W0,W3,W4,W5,W6,W7,W8,W9,Ya,Yb,Yc,Yd,Ye,Yf,Yg,Yh,Yi,Yj,Yk,Yl,Ym,Yn,Yo,Yr,Ys,Yt,Yu,Yv,Yw,Yx,Yy,Yz,Y1,Y2,Y3,Y4,Y5,Y6,Y7,Y8,Y9,Va,Vb,Vc,Vd,Ve,Vf,Vg,Vh,Vi,Vj,Vk,Vl,Vm,Vn,Vo,Vp,Vq,Vr,Vs,Vt,Vu,Vv,Vw,Vx,Vy,Vz,V0,V1,V2,V3,V4,V5,V6,V7,V8,V9,Ua,Ub,Uc,Ud,Ue,Uf,Ug,Uh,Ui,Uj,Uk,Ul,Um,Un,Uo,Up,Uq,Ur,Us,Ut,Uu,Uv,Uw,Ux,Uy,Uz,U0,U1,U2,U5,U6,U7,U8,U9,Ka,Kb,Kc,Kd,Ke,Kf,Kg,Kh,Ki,Kj,Kk,Kl,Km,Kn,Ko,Kq,Kr,Ks,Kt,Ku,Kv,Kw,Kx,Ky,Kz,K0,K1,K2,K3,K4,K5,K6,K7,Gg,Gi,Gj,Gk,Gl,Gm,Gn,Gr,Gs,Hg,Nf,H3,Nc,H2,Mt]
             tactic =>
              try simp only [G6] at *
              try simp only [nc2] at *
              try simp (maxSteps := 4000000) only [hlb,hl,q0,q1,q2,hkb,h7,h10,h8,htg,hw,hle,Gz,G8,G9,G7,szP,Hi]
              repeat' (first | with_reducible assumption | with_reducible refine And.intro ?_ ?_ | intro _ | omega | (rw [Gy]; omega))
              all_goals first
                | (with_reducible refine Hu ?_; kernel_rfl)
                | omega
                | assumption
                | skip
              refine Ho [4, 85, 86, 87, 88, 89, 90, 91, 92, 93, 94, 95, 96, 97, 98, 99, 100, 101, 102, 103, 104, 105] (fun j : Nat => [(10, .d (.int .i64 j))]) (fun j : Nat => []) (fun j : Nat => j ≤ k ∧ ∀ m, m < j → (!true && ((Mz t l m).label == x.label)) = false) (fun j : Nat => k - j) 0 ?_ ?_ ?_
              · simp
              · ((try simp only [G3, Ha, G5, Hf, upd, Hh, Hn, Na, Nat.reduceDiv, Nat.reduceMod, Nat.reduceMul, Nat.reduceAdd, Nat.reduceEqDiff, List.set_cons_zero, List.set_cons_succ, if_true, if_false, reduceIte]); (first | refine Wk.of_fl ?_ | skip); simp only [Wk, wkK, Nd, wkT, wk1, AV.kept, keptAll, wkO, lk, G4, and_true, true_and, and_self, Nat.reduceEqDiff, Nat.reduceLeDiff, if_true, if_false, reduceIte, reduceCtorEq, Option.isSome, false_implies]; try simp [Wk, wkK, wkT, wk1, AV.kept, keptAll, wkO, lk, G4])
              rintro j ⟨hj, hnj⟩
              rcases Hq j k with ⟨hjl, hjb⟩ | ⟨hjl, hjb⟩
              · have hsj : (!true && ((Mz t l j).label == x.label)) = false → ∀ m, m < j + 1 → (!true && ((Mz t l m).label == x.label)) = false := fun h => R9 hnj h
                have hbj : (!true && ((Mz t l j).label == x.label)) = true → R = false := fun h => hbad (by rw [List.any_eq_true]; exact ⟨j, List.mem_range.2 hjl, h⟩)
                have hjlt : j < l.length := by omega
                have hji := hin (l.getD j 0) (by simp [hjlt])
                have hjt : (l.getD j 0).toNat < t.length := by omega
                have r1 := H7 (0 : Int) hjlt
                have r2 := H7 e0 hjt
                change el _ _ = enc (Mz t l j) at r2
                obtain ⟨u, hu⟩ : ∃ v, l.getD j 0 = v := ⟨_, rfl⟩
                rw [hu] at r1 r2 hji hjt
                obtain ⟨u, rfl⟩ : ∃ n : Nat, u = n := ⟨u.toNat, by omega⟩
                rw [Int.toNat_natCast] at r2 hjt
                obtain ⟨y, hy⟩ : ∃ y, Mz t l j = y := ⟨_, rfl⟩
                rw [hy] at r2 hsj hbj
                obtain ⟨ee, hee⟩ : ∃ b, (y.label == x.label) = b := ⟨_, rfl⟩
                rw [hee] at hsj hbj
                (sym =>
                 simp [hjb,hl,r1,r2,hle,hee,Gz,G8,G9,G7,szP,Hy,H0,Hz,H1,Hx,Hw,Hk.eq_def,Hd.eq_def,Nm.eq_def,Hr.eq_def,Hp.eq_def,Za,Zb,Zc,Zd,Ze,Zf,Zg,Zh,Zi,Zj,Zk,Zl,Zm,Zn,Zo,Zp,Zq,Zr,Zs,Zt,Zu,Zv,Zw,Zx,Zy,Z5,Z8,Z9,Qa,Qb,Qc,Qd,Qe,Qf,Qg,Qj,Qk,Ql,Qm,Qn,Qo,Qp,Qq,Qr,Q0,Q1,Q4,Q5,Q6,Q8,Q9,Ja,Jf,Jh,Ji,Jj,Jk,Jl,Jt,Jx,Jy,Jz,J0,J1,J2,J5,J6,J7,J8,J9,Xa,Xb,Xc,Xd,Xe,Xf,Xg,Xj,Xk,Xl,Xm,Xn,Xo,Xp,Xq,Xr,Xs,Xt,Xu,Xv,Xw,Xx,Xy,Xz,X1,X2,X3,X4,X5,X6,X7,X8,We,Wf,Wg,Wh,Wi,Wj,Wl,Wm,Wn,Wo,Wp,Wq,Wr,Ws,Wt,Wu,Wv,Ww,Wx,Wy,Wz,W0,W3,W4,W5,W6,W7,W8,W9,Ya,Yb,Yc,Yd,Ye,Yf,Yg,Yh,Yi,Yj,Yk,Yl,Ym,Yn,Yo,Yr,Ys,Yt,Yu,Yv,Yw,Yx,Yy,Yz,Y1,Y2,Y3,Y4,Y5,Y6,Y7,Y8,Y9,Va,Vb,Vc,Vd,Ve,Vf,Vg,Vh,Vi,Vj,Vk,Vl,Vm,Vn,Vo,Vp,Vq,Vr,Vs,Vt,Vu,Vv,Vw,Vx,Vy,Vz,V0,V1,V2,V3,V4,V5,V6,V7,V8,V9,Ua,Ub,Uc,Ud,Ue,Uf,Ug,Uh,Ui,Uj,Uk,Ul,Um,Un,Uo,Up,Uq,Ur,Us,Ut,Uu,Uv,Uw,Ux,Uy,Uz,U0,U1,U2,U5,U6,U7,U8,U9,Ka,Kb,Kc,Kd,Ke,Kf,Kg,Kh,Ki,Kj,Kk,Kl,Km,Kn,Ko,Kq,Kr,Ks,Kt,Ku,Kv,Kw,Kx,Ky,Kz,K0,K1,K2,K3,K4,K5,K6,K7,Gg,Gi,Gj,Gk,Gl,Gm,Gn,Gr,Gs,Hg,Nf,H3,Nc,H2,Mt]
                 tactic =>
                  try simp only [G6] at *
                  try simp only [nc2] at *
                  try simp (maxSteps := 4000000) only [hjb,hl,r1,r2,hle,hee,Gz,G8,G9,G7,szP,Hi]
                  repeat' (first | with_reducible assumption | with_reducible refine And.intro ?_ ?_ | intro _ | omega | (rw [Gy]; omega))
                  all_goals first
                    | (with_reducible refine Hu ?_; kernel_rfl)
                    | omega
                    | exact ⟨j + 1, by ((try simp only [G3, Ha, G5, Hf, upd, Hh, Hn, Na, Nat.reduceDiv, Nat.reduceMod, Nat.reduceMul, Nat.reduceAdd, Nat.reduceEqDiff, List.set_cons_zero, List.set_cons_succ, if_true, if_false, reduceIte]); (first | refine Wk.of_fl ?_ | skip); simp only [Wk, wkK, Nd, wkT, wk1, AV.kept, keptAll, wkO, lk, G4, and_true, true_and, and_self, Nat.reduceEqDiff, Nat.reduceLeDiff, if_true, if_false, reduceIte, reduceCtorEq, Option.isSome, false_implies]; try simp [Wk, wkK, wkT, wk1, AV.kept, keptAll, wkO, lk, G4]), by omega, by omega⟩
                    | skip)
              · have hs := hyes (R6 fun m hm => hnj m (by have := List.mem_range.1 hm; omega))
                (sym =>
                 simp [hjb,Gz,G8,G9,G7,szP,Hy,H0,Hz,H1,Hx,Hw,Hk.eq_def,Hd.eq_def,Nm.eq_def,Hr.eq_def,Hp.eq_def,Za,Zb,Zc,Zd,Ze,Zf,Zg,Zh,Zi,Zj,Zk,Zl,Zm,Zn,Zo,Zp,Zq,Zr,Zs,Zt,Zu,Zv,Zw,Zx,Zy,Z5,Z8,Z9,Qa,Qb,Qc,Qd,Qe,Qf,Qg,Qj,Qk,Ql,Qm,Qn,Qo,Qp,Qq,Qr,Q0,Q1,Q4,Q5,Q6,Q8,Q9,Ja,Jf,Jh,Ji,Jj,Jk,Jl,Jt,Jx,Jy,Jz,J0,J1,J2,J5,J6,J7,J8,J9,Xa,Xb,Xc,Xd,Xe,Xf,Xg,Xj,Xk,Xl,Xm,Xn,Xo,Xp,Xq,Xr,Xs,Xt,Xu,Xv,Xw,Xx,Xy,Xz,X1,X2,X3,X4,X5,X6,X7,X8,We,Wf,Wg,Wh,Wi,Wj,Wl,Wm,Wn,Wo,Wp,Wq,Wr,Ws,Wt,Wu,Wv,Ww,Wx,Wy,Wz,W0,W3,W4,W5,W6,W7,W8,W9,Ya,Yb,Yc,Yd,Ye,Yf,Yg,Yh,Yi,Yj,Yk,Yl,Ym,Yn,Yo,Yr,Ys,Yt,Yu,Yv,Yw,Yx,Yy,Yz,Y1,Y2,Y3,Y4,Y5,Y6,Y7,Y8,Y9,Va,Vb,Vc,Vd,Ve,Vf,Vg,Vh,Vi,Vj,Vk,Vl,Vm,Vn,Vo,Vp,Vq,Vr,Vs,Vt,Vu,Vv,Vw,Vx,Vy,Vz,V0,V1,V2,V3,V4,V5,V6,V7,V8,V9,Ua,Ub,Uc,Ud,Ue,Uf,Ug,Uh,Ui,Uj,Uk,Ul,Um,Un,Uo,Up,Uq,Ur,Us,Ut,Uu,Uv,Uw,Ux,Uy,Uz,U0,U1,U2,U5,U6,U7,U8,U9,Ka,Kb,Kc,Kd,Ke,Kf,Kg,Kh,Ki,Kj,Kk,Kl,Km,Kn,Ko,Kq,Kr,Ks,Kt,Ku,Kv,Kw,Kx,Ky,Kz,K0,K1,K2,K3,K4,K5,K6,K7,Gg,Gi,Gj,Gk,Gl,Gm,Gn,Gr,Gs,Hg,Nf,H3,Nc,H2,Mt]
                 tactic =>
                  try simp only [G6] at *
                  try simp only [nc2] at *
                  try simp (maxSteps := 4000000) only [hjb,Gz,G8,G9,G7,szP,Hi]
                  repeat' (first | with_reducible assumption | with_reducible refine And.intro ?_ ?_ | intro _ | omega | (rw [Gy]; omega))
                  all_goals first
                    | (with_reducible refine Hu ?_; kernel_rfl)
                    | omega
                    | exact ⟨k + 1, by ((try simp only [G3, Ha, G5, Hf, upd, Hh, Hn, Na, Nat.reduceDiv, Nat.reduceMod, Nat.reduceMul, Nat.reduceAdd, Nat.reduceEqDiff, List.set_cons_zero, List.set_cons_succ, if_true, if_false, reduceIte]); (first | refine Wk.of_fl ?_ | skip); simp only [Wk, wkK, Nd, wkT, wk1, AV.kept, keptAll, wkO, lk, G4, and_true, true_and, and_self, Nat.reduceEqDiff, Nat.reduceLeDiff, if_true, if_false, reduceIte, reduceCtorEq, Option.isSome, false_implies]; try simp [Wk, wkK, wkT, wk1, AV.kept, keptAll, wkO, lk, G4]), by omega, Eq.mpr hQ hs, by omega⟩
                    | skip))
          | false =>
            (sym =>
             simp [hlb,hl,q0,q1,q2,hkb,h7,h10,h8,htg,hw,hle,Gz,G8,G9,G7,szP,Hy,H0,Hz,H1,Hx,Hw,Hk.eq_def,Hd.eq_def,Nm.eq_def,Hr.eq_def,Hp.eq_def,Za,Zb,Zc,Zd,Ze,Zf,Zg,Zh,Zi,Zj,Zk,Zl,Zm,Zn,Zo,Zp,Zq,Zr,Zs,Zt,Zu,Zv,Zw,Zx,Zy,Z5,Z8,Z9,Qa,Qb,Qc,Qd,Qe,Qf,Qg,Qj,Qk,Ql,Qm,Qn,Qo,Qp,Qq,Qr,Q0,Q1,Q4,Q5,Q6,Q8,Q9,Ja,Jf,Jh,Ji,Jj,Jk,Jl,Jt,Jx,Jy,Jz,J0,J1,J2,J5,J6,J7,J8,J9,Xa,Xb,Xc,Xd,Xe,Xf,Xg,Xj,Xk,Xl,Xm,Xn,Xo,Xp,Xq,Xr,Xs,Xt,Xu,Xv,Xw,Xx,Xy,Xz,X1,X2,X3,X4,X5,X6,X7,X8,We,Wf,Wg,Wh,Wi,Wj,Wl,Wm,Wn,Wo,Wp,Wq,Wr,Ws,Wt,Wu,Wv,Ww,Wx,Wy,Wz,W0,W3,W4,W5,W6,W7,W8,W9,Ya,Yb,Yc,Yd,Ye,Yf,Yg,Yh,Yi,Yj,Yk,Yl,Ym,Yn,Yo,Yr,Ys,Yt,Yu,Yv,Yw,Yx,Yy,Yz,Y1,Y2,Y3,Y4,Y5,Y6,Y7,Y8,Y9,Va,Vb,Vc,Vd,Ve,Vf,Vg,Vh,Vi,Vj,Vk,Vl,Vm,Vn,Vo,Vp,Vq,Vr,Vs,Vt,Vu,Vv,Vw,Vx,Vy,Vz,V0,V1,V2,V3,V4,V5,V6,V7,V8,V9,Ua,Ub,Uc,Ud,Ue,Uf,Ug,Uh,Ui,Uj,Uk,Ul,Um,Un,Uo,Up,Uq,Ur,Us,Ut,Uu,Uv,Uw,Ux,Uy,Uz,U0,U1,U2,U5,U6,U7,U8,U9,Ka,Kb,Kc,Kd,Ke,Kf,Kg,Kh,Ki,Kj,Kk,Kl,Km,Kn,Ko,Kq,Kr,Ks,Kt,Ku,Kv,Kw,Kx,Ky,Kz,K0,K1,K2,K3,K4,K5,K6,K7,Gg,Gi,Gj,Gk,Gl,Gm,Gn,Gr,Gs,Hg,Nf,H3,Nc,H2,Mt]
             tactic =>
              try simp only [G6] at *
              try simp only [nc2] at *
              try simp (maxSteps := 4000000) only [hlb,hl,q0,q1,q2,hkb,h7,h10,h8,htg,hw,hle,Gz,G8,G9,G7,szP,Hi]
              repeat' (first | with_reducible assumption | with_reducible refine And.intro ?_ ?_ | intro _ | omega | (rw [Gy]; omega))
              all_goals first
                | (with_reducible refine Hu ?_; kernel_rfl)
                | omega
                | assumption
                | skip
              refine Ho [4, 85, 86, 87, 88, 89, 90, 91, 92, 93, 94, 95, 96, 97, 98, 99, 100, 101, 102, 103, 104, 105] (fun j : Nat => [(10, .d (.int .i64 j))]) (fun j : Nat => []) (fun j : Nat => j ≤ k ∧ ∀ m, m < j → (!false && ((Mz t l m).label == x.label)) = false) (fun j : Nat => k - j) 0 ?_ ?_ ?_
              · simp
              · ((try simp only [G3, Ha, G5, Hf, upd, Hh, Hn, Na, Nat.reduceDiv, Nat.reduceMod, Nat.reduceMul, Nat.reduceAdd, Nat.reduceEqDiff, List.set_cons_zero, List.set_cons_succ, if_true, if_false, reduceIte]); (first | refine Wk.of_fl ?_ | skip); simp only [Wk, wkK, Nd, wkT, wk1, AV.kept, keptAll, wkO, lk, G4, and_true, true_and, and_self, Nat.reduceEqDiff, Nat.reduceLeDiff, if_true, if_false, reduceIte, reduceCtorEq, Option.isSome, false_implies]; try simp [Wk, wkK, wkT, wk1, AV.kept, keptAll, wkO, lk, G4])
              rintro j ⟨hj, hnj⟩
              rcases Hq j k with ⟨hjl, hjb⟩ | ⟨hjl, hjb⟩
              · have hsj : (!false && ((Mz t l j).label == x.label)) = false → ∀ m, m < j + 1 → (!false && ((Mz t l m).label == x.label)) = false := fun h => R9 hnj h
                have hbj : (!false && ((Mz t l j).label == x.label)) = true → R = false := fun h => hbad (by rw [List.any_eq_true]; exact ⟨j, List.mem_range.2 hjl, h⟩)
                have hjlt : j < l.length := by omega
                have hji := hin (l.getD j 0) (by simp [hjlt])
                have hjt : (l.getD j 0).toNat < t.length := by omega
                have r1 := H7 (0 : Int) hjlt
                have r2 := H7 e0 hjt
                change el _ _ = enc (Mz t l j) at r2
                obtain ⟨u, hu⟩ : ∃ v, l.getD j 0 = v := ⟨_, rfl⟩
                rw [hu] at r1 r2 hji hjt
                obtain ⟨u, rfl⟩ : ∃ n : Nat, u = n := ⟨u.toNat, by omega⟩
                rw [Int.toNat_natCast] at r2 hjt
                obtain ⟨y, hy⟩ : ∃ y, Mz t l j = y := ⟨_, rfl⟩
                rw [hy] at r2 hsj hbj
                obtain ⟨ee, hee⟩ : ∃ b, (y.label == x.label) = b := ⟨_, rfl⟩
                rw [hee] at hsj hbj
                cases ee with
                | true =>
                  have hr := hbj rfl
                  subst hr
                  (sym =>
                   simp [hjb,hl,r1,r2,hle,hee,hR,Gz,G8,G9,G7,szP,Hy,H0,Hz,H1,Hx,Hw,Hk.eq_def,Hd.eq_def,Nm.eq_def,Hr.eq_def,Hp.eq_def,Za,Zb,Zc,Zd,Ze,Zf,Zg,Zh,Zi,Zj,Zk,Zl,Zm,Zn,Zo,Zp,Zq,Zr,Zs,Zt,Zu,Zv,Zw,Zx,Zy,Z5,Z8,Z9,Qa,Qb,Qc,Qd,Qe,Qf,Qg,Qj,Qk,Ql,Qm,Qn,Qo,Qp,Qq,Qr,Q0,Q1,Q4,Q5,Q6,Q8,Q9,Ja,Jf,Jh,Ji,Jj,Jk,Jl,Jt,Jx,Jy,Jz,J0,J1,J2,J5,J6,J7,J8,J9,Xa,Xb,Xc,Xd,Xe,Xf,Xg,Xj,Xk,Xl,Xm,Xn,Xo,Xp,Xq,Xr,Xs,Xt,Xu,Xv,Xw,Xx,Xy,Xz,X1,X2,X3,X4,X5,X6,X7,X8,We,Wf,Wg,Wh,Wi,Wj,Wl,Wm,Wn,Wo,Wp,Wq,Wr,Ws,Wt,Wu,Wv,Ww,Wx,Wy,Wz,W0,W3,W4,W5,W6,W7,W8,W9,Ya,Yb,Yc,Yd,Ye,Yf,Yg,Yh,Yi,Yj,Yk,Yl,Ym,Yn,Yo,Yr,Ys,Yt,Yu,Yv,Yw,Yx,Yy,Yz,Y1,Y2,Y3,Y4,Y5,Y6,Y7,Y8,Y9,Va,Vb,Vc,Vd,Ve,Vf,Vg,Vh,Vi,Vj,Vk,Vl,Vm,Vn,Vo,Vp,Vq,Vr,Vs,Vt,Vu,Vv,Vw,Vx,Vy,Vz,V0,V1,V2,V3,V4,V5,V6,V7,V8,V9,Ua,Ub,Uc,Ud,Ue,Uf,Ug,Uh,Ui,Uj,Uk,Ul,Um,Un,Uo,Up,Uq,Ur,Us,Ut,Uu,Uv,Uw,Ux,Uy,Uz,U0,U1,U2,U5,U6,U7,U8,U9,Ka,Kb,Kc,Kd,Ke,Kf,Kg,Kh,Ki,Kj,Kk,Kl,Km,Kn,Ko,Kq,Kr,Ks,Kt,Ku,Kv,Kw,Kx,Ky,Kz,K0,K1,K2,K3,K4,K5,K6,K7,Gg,Gi,Gj,Gk,Gl,Gm,Gn,Gr,Gs,Hg,Nf,H3,Nc,H2,Mt]
                   tactic =>
                    try simp only [G6] at *
                    try simp only [nc2] at *
                    try simp (maxSteps := 4000000) only [hjb,hl,r1,r2,hle,hee,hR,Gz,G8,G9,G7,szP,Hi]
                    repeat' (first | with_reducible assumption | with_reducible refine And.intro ?_ ?_ | intro _ | omega | (rw [Gy]; omega))
                    all_goals first
                      | (with_reducible refine Hu ?_; kernel_rfl)
                      | omega
                      | rfl
                      | skip)
                | false =>
                  have h2 := hsj rfl
                  (sym =>
                   simp [hjb,hl,r1,r2,hle,hee,Gz,G8,G9,G7,szP,Hy,H0,Hz,H1,Hx,Hw,Hk.eq_def,Hd.eq_def,Nm.eq_def,Hr.eq_def,Hp.eq_def,Za,Zb,Zc,Zd,Ze,Zf,Zg,Zh,Zi,Zj,Zk,Zl,Zm,Zn,Zo,Zp,Zq,Zr,Zs,Zt,Zu,Zv,Zw,Zx,Zy,Z5,Z8,Z9,Qa,Qb,Qc,Qd,Qe,Qf,Qg,Qj,Qk,Ql,Qm,Qn,Qo,Qp,Qq,Qr,Q0,Q1,Q4,Q5,Q6,Q8,Q9,Ja,Jf,Jh,Ji,Jj,Jk,Jl,Jt,Jx,Jy,Jz,J0,J1,J2,J5,J6,J7,J8,J9,Xa,Xb,Xc,Xd,Xe,Xf,Xg,Xj,Xk,Xl,Xm,Xn,Xo,Xp,Xq,Xr,Xs,Xt,Xu,Xv,Xw,Xx,Xy,Xz,X1,X2,X3,X4,X5,X6,X7,X8,We,Wf,Wg,Wh,Wi,Wj,Wl,Wm,Wn,Wo,Wp,Wq,Wr,Ws,Wt,Wu,Wv,Ww,Wx,Wy,Wz,W0,W3,W4,W5,W6,W7,W8,W9,Ya,Yb,Yc,Yd,Ye,Yf,Yg,Yh,Yi,Yj,Yk,Yl,Ym,Yn,Yo,Yr,Ys,Yt,Yu,Yv,Yw,Yx,Yy,Yz,Y1,Y2,Y3,Y4,Y5,Y6,Y7,Y8,Y9,Va,Vb,Vc,Vd,Ve,Vf,Vg,Vh,Vi,Vj,Vk,Vl,Vm,Vn,Vo,Vp,Vq,Vr,Vs,Vt,Vu,Vv,Vw,Vx,Vy,Vz,V0,V1,V2,V3,V4,V5,V6,V7,V8,V9,Ua,Ub,Uc,Ud,Ue,Uf,Ug,Uh,Ui,Uj,Uk,Ul,Um,Un,Uo,Up,Uq,Ur,Us,Ut,Uu,Uv,Uw,Ux,Uy,Uz,U0,U1,U2,U5,U6,U7,U8,U9,Ka,Kb,Kc,Kd,Ke,Kf,Kg,Kh,Ki,Kj,Kk,Kl,Km,Kn,Ko,Kq,Kr,Ks,Kt,Ku,Kv,Kw,Kx,Ky,Kz,K0,K1,K2,K3,K4,K5,K6,K7,Gg,Gi,Gj,Gk,Gl,Gm,Gn,Gr,Gs,Hg,Nf,H3,Nc,H2,Mt]
                   tactic =>
                    try simp only [G6] at *
                    try simp only [nc2] at *
                    try simp (maxSteps := 4000000) only [hjb,hl,r1,r2,hle,hee,Gz,G8,G9,G7,szP,Hi]
                    repeat' (first | with_reducible assumption | with_reducible refine And.intro ?_ ?_ | intro _ | omega | (rw [Gy]; omega))
                    all_goals first
                      | (with_reducible refine Hu ?_; kernel_rfl)
                      | omega
                      | exact ⟨j + 1, by ((try simp only [G3, Ha, G5, Hf, upd, Hh, Hn, Na, Nat.reduceDiv, Nat.reduceMod, Nat.reduceMul, Nat.reduceAdd, Nat.reduceEqDiff, List.set_cons_zero, List.set_cons_succ, if_true, if_false, reduceIte]); (first | refine Wk.of_fl ?_ | skip); simp only [Wk, wkK, Nd, wkT, wk1, AV.kept, keptAll, wkO, lk, G4, and_true, true_and, and_self, Nat.reduceEqDiff, Nat.reduceLeDiff, if_true, if_false, reduceIte, reduceCtorEq, Option.isSome, false_implies]; try simp [Wk, wkK, wkT, wk1, AV.kept, keptAll, wkO, lk, G4]), by omega, fun m hm => by simpa using h2 m hm, by omega⟩
                      | skip)
              · have hs := hyes (R6 fun m hm => hnj m (by have := List.mem_range.1 hm; omega))
                (sym =>
                 simp [hjb,Gz,G8,G9,G7,szP,Hy,H0,Hz,H1,Hx,Hw,Hk.eq_def,Hd.eq_def,Nm.eq_def,Hr.eq_def,Hp.eq_def,Za,Zb,Zc,Zd,Ze,Zf,Zg,Zh,Zi,Zj,Zk,Zl,Zm,Zn,Zo,Zp,Zq,Zr,Zs,Zt,Zu,Zv,Zw,Zx,Zy,Z5,Z8,Z9,Qa,Qb,Qc,Qd,Qe,Qf,Qg,Qj,Qk,Ql,Qm,Qn,Qo,Qp,Qq,Qr,Q0,Q1,Q4,Q5,Q6,Q8,Q9,Ja,Jf,Jh,Ji,Jj,Jk,Jl,Jt,Jx,Jy,Jz,J0,J1,J2,J5,J6,J7,J8,J9,Xa,Xb,Xc,Xd,Xe,Xf,Xg,Xj,Xk,Xl,Xm,Xn,Xo,Xp,Xq,Xr,Xs,Xt,Xu,Xv,Xw,Xx,Xy,Xz,X1,X2,X3,X4,X5,X6,X7,X8,We,Wf,Wg,Wh,Wi,Wj,Wl,Wm,Wn,Wo,Wp,Wq,Wr,Ws,Wt,Wu,Wv,Ww,Wx,Wy,Wz,W0,W3,W4,W5,W6,W7,W8,W9,Ya,Yb,Yc,Yd,Ye,Yf,Yg,Yh,Yi,Yj,Yk,Yl,Ym,Yn,Yo,Yr,Ys,Yt,Yu,Yv,Yw,Yx,Yy,Yz,Y1,Y2,Y3,Y4,Y5,Y6,Y7,Y8,Y9,Va,Vb,Vc,Vd,Ve,Vf,Vg,Vh,Vi,Vj,Vk,Vl,Vm,Vn,Vo,Vp,Vq,Vr,Vs,Vt,Vu,Vv,Vw,Vx,Vy,Vz,V0,V1,V2,V3,V4,V5,V6,V7,V8,V9,Ua,Ub,Uc,Ud,Ue,Uf,Ug,Uh,Ui,Uj,Uk,Ul,Um,Un,Uo,Up,Uq,Ur,Us,Ut,Uu,Uv,Uw,Ux,Uy,Uz,U0,U1,U2,U5,U6,U7,U8,U9,Ka,Kb,Kc,Kd,Ke,Kf,Kg,Kh,Ki,Kj,Kk,Kl,Km,Kn,Ko,Kq,Kr,Ks,Kt,Ku,Kv,Kw,Kx,Ky,Kz,K0,K1,K2,K3,K4,K5,K6,K7,Gg,Gi,Gj,Gk,Gl,Gm,Gn,Gr,Gs,Hg,Nf,H3,Nc,H2,Mt]
                 tactic =>
                  try simp only [G6] at *
                  try simp only [nc2] at *
                  try simp (maxSteps := 4000000) only [hjb,Gz,G8,G9,G7,szP,Hi]
                  repeat' (first | with_reducible assumption | with_reducible refine And.intro ?_ ?_ | intro _ | omega | (rw [Gy]; omega))
                  all_goals first
                    | (with_reducible refine Hu ?_; kernel_rfl)
                    | omega
                    | exact ⟨k + 1, by ((try simp only [G3, Ha, G5, Hf, upd, Hh, Hn, Na, Nat.reduceDiv, Nat.reduceMod, Nat.reduceMul, Nat.reduceAdd, Nat.reduceEqDiff, List.set_cons_zero, List.set_cons_succ, if_true, if_false, reduceIte]); (first | refine Wk.of_fl ?_ | skip); simp only [Wk, wkK, Nd, wkT, wk1, AV.kept, keptAll, wkO, lk, G4, and_true, true_and, and_self, Nat.reduceEqDiff, Nat.reduceLeDiff, if_true, if_false, reduceIte, reduceCtorEq, Option.isSome, false_implies]; try simp [Wk, wkK, wkT, wk1, AV.kept, keptAll, wkO, lk, G4]), by omega, Eq.mpr hQ hs, by omega⟩
                    | skip))
        · (sym =>
           simp [hlb,hl,q0,q1,q2,hkb,h7,h10,h8,htg,hw,hle,Gz,G8,G9,G7,szP,Hy,H0,Hz,H1,Hx,Hw,Hk.eq_def,Hd.eq_def,Nm.eq_def,Hr.eq_def,Hp.eq_def,Za,Zb,Zc,Zd,Ze,Zf,Zg,Zh,Zi,Zj,Zk,Zl,Zm,Zn,Zo,Zp,Zq,Zr,Zs,Zt,Zu,Zv,Zw,Zx,Zy,Z5,Z8,Z9,Qa,Qb,Qc,Qd,Qe,Qf,Qg,Qj,Qk,Ql,Qm,Qn,Qo,Qp,Qq,Qr,Q0,Q1,Q4,Q5,Q6,Q8,Q9,Ja,Jf,Jh,Ji,Jj,Jk,Jl,Jt,Jx,Jy,Jz,J0,J1,J2,J5,J6,J7,J8,J9,Xa,Xb,Xc,Xd,Xe,Xf,Xg,Xj,Xk,Xl,Xm,Xn,Xo,Xp,Xq,Xr,Xs,Xt,Xu,Xv,Xw,Xx,Xy,Xz,X1,X2,X3,X4,X5,X6,X7,X8,We,Wf,Wg,Wh,Wi,Wj,Wl,Wm,Wn,Wo,Wp,Wq,Wr,Ws,Wt,Wu,Wv,Ww,Wx,Wy,Wz,W0,W3,W4,W5,W6,W7,W8,W9,Ya,Yb,Yc,Yd,Ye,Yf,Yg,Yh,Yi,Yj,Yk,Yl,Ym,Yn,Yo,Yr,Ys,Yt,Yu,Yv,Yw,Yx,Yy,Yz,Y1,Y2,Y3,Y4,Y5,Y6,Y7,Y8,Y9,Va,Vb,Vc,Vd,Ve,Vf,Vg,Vh,Vi,Vj,Vk,Vl,Vm,Vn,Vo,Vp,Vq,Vr,Vs,Vt,Vu,Vv,Vw,Vx,Vy,Vz,V0,V1,V2,V3,V4,V5,V6,V7,V8,V9,Ua,Ub,Uc,Ud,Ue,Uf,Ug,Uh,Ui,Uj,Uk,Ul,Um,Un,Uo,Up,Uq,Ur,Us,Ut,Uu,Uv,Uw,Ux,Uy,Uz,U0,U1,U2,U5,U6,U7,U8,U9,Ka,Kb,Kc,Kd,Ke,Kf,Kg,Kh,Ki,Kj,Kk,Kl,Km,Kn,Ko,Kq,Kr,Ks,Kt,Ku,Kv,Kw,Kx,Ky,Kz,K0,K1,K2,K3,K4,K5,K6,K7,Gg,Gi,Gj,Gk,Gl,Gm,Gn,Gr,Gs,Hg,Nf,H3,Nc,H2,Mt]
           tactic =>
            try simp only [G6] at *
            try simp only [nc2] at *
            try simp (maxSteps := 4000000) only [hlb,hl,q0,q1,q2,hkb,h7,h10,h8,htg,hw,hle,Gz,G8,G9,G7,szP,Hi]
            repeat' (first | with_reducible assumption | with_reducible refine And.intro ?_ ?_ | intro _ | omega | (rw [Gy]; omega))
            all_goals first
              | (with_reducible refine Hu ?_; kernel_rfl)
              | omega
              | assumption
              | skip
            refine Ho [4, 85, 86, 87, 88, 89, 90, 91, 92, 93, 94, 95, 96, 97, 98, 99, 100, 101, 102, 103, 104, 105] (fun j : Nat => [(10, .d (.int .i64 j))]) (fun j : Nat => []) (fun j : Nat => j ≤ k ∧ ∀ m, m < j → (!true && ((Mz t l m).label == x.label)) = false) (fun j : Nat => k - j) 0 ?_ ?_ ?_
            · simp
            · ((try simp only [G3, Ha, G5, Hf, upd, Hh, Hn, Na, Nat.reduceDiv, Nat.reduceMod, Nat.reduceMul, Nat.reduceAdd, Nat.reduceEqDiff, List.set_cons_zero, List.set_cons_succ, if_true, if_false, reduceIte]); (first | refine Wk.of_fl ?_ | skip); simp only [Wk, wkK, Nd, wkT, wk1, AV.kept, keptAll, wkO, lk, G4, and_true, true_and, and_self, Nat.reduceEqDiff, Nat.reduceLeDiff, if_true, if_false, reduceIte, reduceCtorEq, Option.isSome, false_implies]; try simp [Wk, wkK, wkT, wk1, AV.kept, keptAll, wkO, lk, G4])
            rintro j ⟨hj, hnj⟩
            rcases Hq j k with ⟨hjl, hjb⟩ | ⟨hjl, hjb⟩
            · have hsj : (!true && ((Mz t l j).label == x.label)) = false → ∀ m, m < j + 1 → (!true && ((Mz t l m).label == x.label)) = false := fun h => R9 hnj h
              have hbj : (!true && ((Mz t l j).label == x.label)) = true → R = false := fun h => hbad (by rw [List.any_eq_true]; exact ⟨j, List.mem_range.2 hjl, h⟩)
              have hjlt : j < l.length := by omega
              have hji := hin (l.getD j 0) (by simp [hjlt])
              have hjt : (l.getD j 0).toNat < t.length := by omega
              have r1 := H7 (0 : Int) hjlt
              have r2 := H7 e0 hjt
              change el _ _ = enc (Mz t l j) at r2
              obtain ⟨u, hu⟩ : ∃ v, l.getD j 0 = v := ⟨_, rfl⟩
              rw [hu] at r1 r2 hji hjt
              obtain ⟨u, rfl⟩ : ∃ n : Nat, u = n := ⟨u.toNat, by omega⟩
              rw [Int.toNat_natCast] at r2 hjt
              obtain ⟨y, hy⟩ : ∃ y, Mz t l j = y := ⟨_, rfl⟩
              rw [hy] at r2 hsj hbj
              obtain ⟨ee, hee⟩ : ∃ b, (y.label == x.label) = b := ⟨_, rfl⟩
              rw [hee] at hsj hbj
              (sym =>
               simp [hjb,hl,r1,r2,hle,hee,Gz,G8,G9,G7,szP,Hy,H0,Hz,H1,Hx,Hw,Hk.eq_def,Hd.eq_def,Nm.eq_def,Hr.eq_def,Hp.eq_def,Za,Zb,Zc,Zd,Ze,Zf,Zg,Zh,Zi,Zj,Zk,Zl,Zm,Zn,Zo,Zp,Zq,Zr,Zs,Zt,Zu,Zv,Zw,Zx,Zy,Z5,Z8,Z9,Qa,Qb,Qc,Qd,Qe,Qf,Qg,Qj,Qk,Ql,Qm,Qn,Qo,Qp,Qq,Qr,Q0,Q1,Q4,Q5,Q6,Q8,Q9,Ja,Jf,Jh,Ji,Jj,Jk,Jl,Jt,Jx,Jy,Jz,J0,J1,J2,J5,J6,J7,J8,J9,Xa,Xb,Xc,Xd,Xe,Xf,Xg,Xj,Xk,Xl,Xm,Xn,Xo,Xp,Xq,Xr,Xs,Xt,Xu,Xv,Xw,Xx,Xy,Xz,X1,X2,X3,X4,X5,X6,X7,X8,We,Wf,Wg,Wh,Wi,Wj,Wl,Wm,Wn,Wo,Wp,Wq,Wr,Ws,Wt,Wu,Wv,Ww,Wx,Wy,Wz,W0,W3,W4,W5,W6,W7,W8,W9,Ya,Yb,Yc,Yd,Ye,Yf,Yg,Yh,Yi,Yj,Yk,Yl,Ym,Yn,Yo,Yr,Ys,Yt,Yu,Yv,Yw,Yx,Yy,Yz,Y1,Y2,Y3,Y4,Y5,Y6,Y7,Y8,Y9,Va,Vb,Vc,Vd,Ve,Vf,Vg,Vh,Vi,Vj,Vk,Vl,Vm,Vn,Vo,Vp,Vq,Vr,Vs,Vt,Vu,Vv,Vw,Vx,Vy,Vz,V0,V1,V2,V3,V4,V5,V6,V7,V8,V9,Ua,Ub,Uc,Ud,Ue,Uf,Ug,Uh,Ui,Uj,Uk,Ul,Um,Un,Uo,Up,Uq,Ur,Us,Ut,Uu,Uv,Uw,Ux,Uy,Uz,U0,U1,U2,U5,U6,U7,U8,U9,Ka,Kb,Kc,Kd,Ke,Kf,Kg,Kh,Ki,Kj,Kk,Kl,Km,Kn,Ko,Kq,Kr,Ks,Kt,Ku,Kv,Kw,Kx,Ky,Kz,K0,K1,K2,K3,K4,K5,K6,K7,Gg,Gi,Gj,Gk,Gl,Gm,Gn,Gr,Gs,Hg,Nf,H3,Nc,H2,Mt]
               tactic =>
                try simp only [G6] at *
                try simp only [nc2] at *
                try simp (maxSteps := 4000000) only [hjb,hl,r1,r2,hle,hee,Gz,G8,G9,G7,szP,Hi]
                repeat' (first | with_reducible assumption | with_reducible refine And.intro ?_ ?_ | intro _ | omega | (rw [Gy]; omega))
                all_goals first
                  | (with_reducible refine Hu ?_; kernel_rfl)
                  | omega
                  | exact ⟨j + 1, by ((try simp only [G3, Ha, G5, Hf, upd, Hh, Hn, Na, Nat.reduceDiv, Nat.reduceMod, Nat.reduceMul, Nat.reduceAdd, Nat.reduceEqDiff, List.set_cons_zero, List.set_cons_succ, if_true, if_false, reduceIte]); (first | refine Wk.of_fl ?_ | skip); simp only [Wk, wkK, Nd, wkT, wk1, AV.kept, keptAll, wkO, lk, G4, and_true, true_and, and_self, Nat.reduceEqDiff, Nat.reduceLeDiff, if_true, if_false, reduceIte, reduceCtorEq, Option.isSome, false_implies]; try simp [Wk, wkK, wkT, wk1, AV.kept, keptAll, wkO, lk, G4]), by omega, by omega⟩
                  | skip)
            · have hs := hyes (R6 fun m hm => hnj m (by have := List.mem_range.1 hm; omega))
              (sym =>
               simp [hjb,Gz,G8,G9,G7,szP,Hy,H0,Hz,H1,Hx,Hw,Hk.eq_def,Hd.eq_def,Nm.eq_def,Hr.eq_def,Hp.eq_def,Za,Zb,Zc,Zd,Ze,Zf,Zg,Zh,Zi,Zj,Zk,Zl,Zm,Zn,Zo,Zp,Zq,Zr,Zs,Zt,Zu,Zv,Zw,Zx,Zy,Z5,Z8,Z9,Qa,Qb,Qc,Qd,Qe,Qf,Qg,Qj,Qk,Ql,Qm,Qn,Qo,Qp,Qq,Qr,Q0,Q1,Q4,Q5,Q6,Q8,Q9,Ja,Jf,Jh,Ji,Jj,Jk,Jl,Jt,Jx,Jy,Jz,J0,J1,J2,J5,J6,J7,J8,J9,Xa,Xb,Xc,Xd,Xe,Xf,Xg,Xj,Xk,Xl,Xm,Xn,Xo,Xp,Xq,Xr,Xs,Xt,Xu,Xv,Xw,Xx,Xy,Xz,X1,X2,X3,X4,X5,X6,X7,X8,We,Wf,Wg,Wh,Wi,Wj,Wl,Wm,Wn,Wo,Wp,Wq,Wr,Ws,Wt,Wu,Wv,Ww,Wx,Wy,Wz,W0,W3,W4,W5,W6,W7,W8,W9,Ya,Yb,Yc,Yd,Ye,Yf,Yg,Yh,Yi,Yj,Yk,Yl,Ym,Yn,Yo,Yr,Ys,Yt,Yu,Yv,Yw,Yx,Yy,Yz,Y1,Y2,Y3,Y4,Y5,Y6,Y7,Y8,Y9,Va,Vb,Vc,Vd,Ve,Vf,Vg,Vh,Vi,Vj,Vk,Vl,Vm,Vn,Vo,Vp,Vq,Vr,Vs,Vt,Vu,Vv,Vw,Vx,Vy,Vz,V0,V1,V2,V3,V4,V5,V6,V7,V8,V9,Ua,Ub,Uc,Ud,Ue,Uf,Ug,Uh,Ui,Uj,Uk,Ul,Um,Un,Uo,Up,Uq,Ur,Us,Ut,Uu,Uv,Uw,Ux,Uy,Uz,U0,U1,U2,U5,U6,U7,U8,U9,Ka,Kb,Kc,Kd,Ke,Kf,Kg,Kh,Ki,Kj,Kk,Kl,Km,Kn,Ko,Kq,Kr,Ks,Kt,Ku,Kv,Kw,Kx,Ky,Kz,K0,K1,K2,K3,K4,K5,K6,K7,Gg,Gi,Gj,Gk,Gl,Gm,Gn,Gr,Gs,Hg,Nf,H3,Nc,H2,Mt]
               tactic =>
                try simp only [G6] at *
                try simp only [nc2] at *
                try simp (maxSteps := 4000000) only [hjb,Gz,G8,G9,G7,szP,Hi]
                repeat' (first | with_reducible assumption | with_reducible refine And.intro ?_ ?_ | intro _ | omega | (rw [Gy]; omega))
                all_goals first
                  | (with_reducible refine Hu ?_; kernel_rfl)
                  | omega
                  | exact ⟨k + 1, by ((try simp only [G3, Ha, G5, Hf, upd, Hh, Hn, Na, Nat.reduceDiv, Nat.reduceMod, Nat.reduceMul, Nat.reduceAdd, Nat.reduceEqDiff, List.set_cons_zero, List.set_cons_succ, if_true, if_false, reduceIte]); (first | refine Wk.of_fl ?_ | skip); simp only [Wk, wkK, Nd, wkT, wk1, AV.kept, keptAll, wkO, lk, G4, and_true, true_and, and_self, Nat.reduceEqDiff, Nat.reduceLeDiff, if_true, if_false, reduceIte, reduceCtorEq, Option.isSome, false_implies]; try simp [Wk, wkK, wkT, wk1, AV.kept, keptAll, wkO, lk, G4]), by omega, Eq.mpr hQ hs, by omega⟩
                  | skip))
        · (sym =>
           simp [hlb,hl,q0,q1,q2,hkb,h7,h10,h8,htg,hw,hle,Gz,G8,G9,G7,szP,Hy,H0,Hz,H1,Hx,Hw,Hk.eq_def,Hd.eq_def,Nm.eq_def,Hr.eq_def,Hp.eq_def,Za,Zb,Zc,Zd,Ze,Zf,Zg,Zh,Zi,Zj,Zk,Zl,Zm,Zn,Zo,Zp,Zq,Zr,Zs,Zt,Zu,Zv,Zw,Zx,Zy,Z5,Z8,Z9,Qa,Qb,Qc,Qd,Qe,Qf,Qg,Qj,Qk,Ql,Qm,Qn,Qo,Qp,Qq,Qr,Q0,Q1,Q4,Q5,Q6,Q8,Q9,Ja,Jf,Jh,Ji,Jj,Jk,Jl,Jt,Jx,Jy,Jz,J0,J1,J2,J5,J6,J7,J8,J9,Xa,Xb,Xc,Xd,Xe,Xf,Xg,Xj,Xk,Xl,Xm,Xn,Xo,Xp,Xq,Xr,Xs,Xt,Xu,Xv,Xw,Xx,Xy,Xz,X1,X2,X3,X4,X5,X6,X7,X8,We,Wf,Wg,Wh,Wi,Wj,Wl,Wm,Wn,Wo,Wp,Wq,Wr,Ws,Wt,Wu,Wv,Ww,Wx,Wy,Wz,W0,W3,W4,W5,W6,W7,W8,W9,Ya,Yb,Yc,Yd,Ye,Yf,Yg,Yh,Yi,Yj,Yk,Yl,Ym,Yn,Yo,Yr,Ys,Yt,Yu,Yv,Yw,Yx,Yy,Yz,Y1,Y2,Y3,Y4,Y5,Y6,Y7,Y8,Y9,Va,Vb,Vc,Vd,Ve,Vf,Vg,Vh,Vi,Vj,Vk,Vl,Vm,Vn,Vo,Vp,Vq,Vr,Vs,Vt,Vu,Vv,Vw,Vx,Vy,Vz,V0,V1,V2,V3,V4,V5,V6,V7,V8,V9,Ua,Ub,Uc,Ud,Ue,Uf,Ug,Uh,Ui,Uj,Uk,Ul,Um,Un,Uo,Up,Uq,Ur,Us,Ut,Uu,Uv,Uw,Ux,Uy,Uz,U0,U1,U2,U5,U6,U7,U8,U9,Ka,Kb,Kc,Kd,Ke,Kf,Kg,Kh,Ki,Kj,Kk,Kl,Km,Kn,Ko,Kq,Kr,Ks,Kt,Ku,Kv,Kw,Kx,Ky,Kz,K0,K1,K2,K3,K4,K5,K6,K7,Gg,Gi,Gj,Gk,Gl,Gm,Gn,Gr,Gs,Hg,Nf,H3,Nc,H2,Mt]
           tactic =>
            try simp only [G6] at *
            try simp only [nc2] at *
            try simp (maxSteps := 4000000) only [hlb,hl,q0,q1,q2,hkb,h7,h10,h8,htg,hw,hle,Gz,G8,G9,G7,szP,Hi]
            repeat' (first | with_reducible assumption | with_reducible refine And.intro ?_ ?_ | intro _ | omega | (rw [Gy]; omega))
            all_goals first
              | (with_reducible refine Hu ?_; kernel_rfl)
              | omega
              | assumption
              | skip
            refine Ho [4, 85, 86, 87, 88, 89, 90, 91, 92, 93, 94, 95, 96, 97, 98, 99, 100, 101, 102, 103, 104, 105] (fun j : Nat => [(10, .d (.int .i64 j))]) (fun j : Nat => []) (fun j : Nat => j ≤ k ∧ ∀ m, m < j → (!true && ((Mz t l m).label == x.label)) = false) (fun j : Nat => k - j) 0 ?_ ?_ ?_
            · simp
            · ((try simp only [G3, Ha, G5, Hf, upd, Hh, Hn, Na, Nat.reduceDiv, Nat.reduceMod, Nat.reduceMul, Nat.reduceAdd, Nat.reduceEqDiff, List.set_cons_zero, List.set_cons_succ, if_true, if_false, reduceIte]); (first | refine Wk.of_fl ?_ | skip); simp only [Wk, wkK, Nd, wkT, wk1, AV.kept, keptAll, wkO, lk, G4, and_true, true_and, and_self, Nat.reduceEqDiff, Nat.reduceLeDiff, if_true, if_false, reduceIte, reduceCtorEq, Option.isSome, false_implies]; try simp [Wk, wkK, wkT, wk1, AV.kept, keptAll, wkO, lk, G4])
            rintro j ⟨hj, hnj⟩
            rcases Hq j k with ⟨hjl, hjb⟩ | ⟨hjl, hjb⟩
            · have hsj : (!true && ((Mz t l j).label == x.label)) = false → ∀ m, m < j + 1 → (!true && ((Mz t l m).label == x.label)) = false := fun h => R9 hnj h
              have hbj : (!true && ((Mz t l j).label == x.label)) = true → R = false := fun h => hbad (by rw [List.any_eq_true]; exact ⟨j, List.mem_range.2 hjl, h⟩)
              have hjlt : j < l.length := by omega
              have hji := hin (l.getD j 0) (by simp [hjlt])
              have hjt : (l.getD j 0).toNat < t.length := by omega
              have r1 := H7 (0 : Int) hjlt
              have r2 := H7 e0 hjt
              change el _ _ = enc (Mz t l j) at r2
              obtain ⟨u, hu⟩ : ∃ v, l.getD j 0 = v := ⟨_, rfl⟩
              rw [hu] at r1 r2 hji hjt
              obtain ⟨u, rfl⟩ : ∃ n : Nat, u = n := ⟨u.toNat, by omega⟩
              rw [Int.toNat_natCast] at r2 hjt
              obtain ⟨y, hy⟩ : ∃ y, Mz t l j = y := ⟨_, rfl⟩
              rw [hy] at r2 hsj hbj
              obtain ⟨ee, hee⟩ : ∃ b, (y.label == x.label) = b := ⟨_, rfl⟩
              rw [hee] at hsj hbj
              (sym =>
               simp [hjb,hl,r1,r2,hle,hee,Gz,G8,G9,G7,szP,Hy,H0,Hz,H1,Hx,Hw,Hk.eq_def,Hd.eq_def,Nm.eq_def,Hr.eq_def,Hp.eq_def,Za,Zb,Zc,Zd,Ze,Zf,Zg,Zh,Zi,Zj,Zk,Zl,Zm,Zn,Zo,Zp,Zq,Zr,Zs,Zt,Zu,Zv,Zw,Zx,Zy,Z5,Z8,Z9,Qa,Qb,Qc,Qd,Qe,Qf,Qg,Qj,Qk,Ql,Qm,Qn,Qo,Qp,Qq,Qr,Q0,Q1,Q4,Q5,Q6,Q8,Q9,Ja,Jf,Jh,Ji,Jj,Jk,Jl,Jt,Jx,Jy,Jz,J0,J1,J2,J5,J6,J7,J8,J9,Xa,Xb,Xc,Xd,Xe,Xf,Xg,Xj,Xk,Xl,Xm,Xn,Xo,Xp,Xq,Xr,Xs,Xt,Xu,Xv,Xw,Xx,Xy,Xz,X1,X2,X3,X4,X5,X6,X7,X8,We,Wf,Wg,Wh,Wi,Wj,Wl,Wm,Wn,Wo,Wp,Wq,Wr,Ws,Wt,Wu,Wv,Ww,Wx,Wy,Wz,W0,W3,W4,W5,W6,W7,W8,W9,Ya,Yb,Yc,Yd,Ye,Yf,Yg,Yh,Yi,Yj,Yk,Yl,Ym,Yn,Yo,Yr,Ys,Yt,Yu,Yv,Yw,Yx,Yy,Yz,Y1,Y2,Y3,Y4,Y5,Y6,Y7,Y8,Y9,Va,Vb,Vc,Vd,Ve,Vf,Vg,Vh,Vi,Vj,Vk,Vl,Vm,Vn,Vo,Vp,Vq,Vr,Vs,Vt,Vu,Vv,Vw,Vx,Vy,Vz,V0,V1,V2,V3,V4,V5,V6,V7,V8,V9,Ua,Ub,Uc,Ud,Ue,Uf,Ug,Uh,Ui,Uj,Uk,Ul,Um,Un,Uo,Up,Uq,Ur,Us,Ut,Uu,Uv,Uw,Ux,Uy,Uz,U0,U1,U2,U5,U6,U7,U8,U9,Ka,Kb,Kc,Kd,Ke,Kf,Kg,Kh,Ki,Kj,Kk,Kl,Km,Kn,Ko,Kq,Kr,Ks,Kt,Ku,Kv,Kw,Kx,Ky,Kz,K0,K1,K2,K3,K4,K5,K6,K7,Gg,Gi,Gj,Gk,Gl,Gm,Gn,Gr,Gs,Hg,Nf,H3,Nc,H2,Mt]
               tactic =>
                try simp only [G6] at *
                try simp only [nc2] at *
                try simp (maxSteps := 4000000) only [hjb,hl,r1,r2,hle,hee,Gz,G8,G9,G7,szP,Hi]
                repeat' (first | with_reducible assumption | with_reducible refine And.intro ?_ ?_ | intro _ | omega | (rw [Gy]; omega))
                all_goals first
                  | (with_reducible refine Hu ?_; kernel_rfl)
                  | omega
                  | exact ⟨j + 1, by ((try simp only [G3, Ha, G5, Hf, upd, Hh, Hn, Na, Nat.reduceDiv, Nat.reduceMod, Nat.reduceMul, Nat.reduceAdd, Nat.reduceEqDiff, List.set_cons_zero, List.set_cons_succ, if_true, if_false, reduceIte]); (first | refine Wk.of_fl ?_ | skip); simp only [Wk, wkK, Nd, wkT, wk1, AV.kept, keptAll, wkO, lk, G4, and_true, true_and, and_self, Nat.reduceEqDiff, Nat.reduceLeDiff, if_true, if_false, reduceIte, reduceCtorEq, Option.isSome, false_implies]; try simp [Wk, wkK, wkT, wk1, AV.kept, keptAll, wkO, lk, G4]), by omega, by omega⟩
                  | skip)
            · have hs := hyes (R6 fun m hm => hnj m (by have := List.mem_range.1 hm; omega))
              (sym =>
               simp [hjb,Gz,G8,G9,G7,szP,Hy,H0,Hz,H1,Hx,Hw,Hk.eq_def,Hd.eq_def,Nm.eq_def,Hr.eq_def,Hp.eq_def,Za,Zb,Zc,Zd,Ze,Zf,Zg,Zh,Zi,Zj,Zk,Zl,Zm,Zn,Zo,Zp,Zq,Zr,Zs,Zt,Zu,Zv,Zw,Zx,Zy,Z5,Z8,Z9,Qa,Qb,Qc,Qd,Qe,Qf,Qg,Qj,Qk,Ql,Qm,Qn,Qo,Qp,Qq,Qr,Q0,Q1,Q4,Q5,Q6,Q8,Q9,Ja,Jf,Jh,Ji,Jj,Jk,Jl,Jt,Jx,Jy,Jz,J0,J1,J2,J5,J6,J7,J8,J9,Xa,Xb,Xc,Xd,Xe,Xf,Xg,Xj,Xk,Xl,Xm,Xn,Xo,Xp,Xq,Xr,Xs,Xt,Xu,Xv,Xw,Xx,Xy,Xz,X1,X2,X3,X4,X5,X6,X7,X8,We,Wf,Wg,Wh,Wi,Wj,Wl,Wm,Wn,Wo,Wp,Wq,Wr,Ws,Wt,Wu,Wv,Ww,Wx,Wy,Wz,W0,W3,W4,W5,W6,W7,W8,W9,Ya,Yb,Yc,Yd,Ye,Yf,Yg,Yh,Yi,Yj,Yk,Yl,Ym,Yn,Yo,Yr,Ys,Yt,Yu,Yv,Yw,Yx,Yy,Yz,Y1,Y2,Y3,Y4,Y5,Y6,Y7,Y8,Y9,Va,Vb,Vc,Vd,Ve,Vf,Vg,Vh,Vi,Vj,Vk,Vl,Vm,Vn,Vo,Vp,Vq,Vr,Vs,Vt,Vu,Vv,Vw,Vx,Vy,Vz,V0,V1,V2,V3,V4,V5,V6,V7,V8,V9,Ua,Ub,Uc,Ud,Ue,Uf,Ug,Uh,Ui,Uj,Uk,Ul,Um,Un,Uo,Up,Uq,Ur,Us,Ut,Uu,Uv,Uw,Ux,Uy,Uz,U0,U1,U2,U5,U6,U7,U8,U9,Ka,Kb,Kc,Kd,Ke,Kf,Kg,Kh,Ki,Kj,Kk,Kl,Km,Kn,Ko,Kq,Kr,Ks,Kt,Ku,Kv,Kw,Kx,Ky,Kz,K0,K1,K2,K3,K4,K5,K6,K7,Gg,Gi,Gj,Gk,Gl,Gm,Gn,Gr,Gs,Hg,Nf,H3,Nc,H2,Mt]
               tactic =>
                try simp only [G6] at *
                try simp only [nc2] at *
                try simp (maxSteps := 4000000) only [hjb,Gz,G8,G9,G7,szP,Hi]
                repeat' (first | with_reducible assumption | with_reducible refine And.intro ?_ ?_ | intro _ | omega | (rw [Gy]; omega))
                all_goals first
                  | (with_reducible refine Hu ?_; kernel_rfl)
                  | omega
                  | exact ⟨k + 1, by ((try simp only [G3, Ha, G5, Hf, upd, Hh, Hn, Na, Nat.reduceDiv, Nat.reduceMod, Nat.reduceMul, Nat.reduceAdd, Nat.reduceEqDiff, List.set_cons_zero, List.set_cons_succ, if_true, if_false, reduceIte]); (first | refine Wk.of_fl ?_ | skip); simp only [Wk, wkK, Nd, wkT, wk1, AV.kept, keptAll, wkO, lk, G4, and_true, true_and, and_self, Nat.reduceEqDiff, Nat.reduceLeDiff, if_true, if_false, reduceIte, reduceCtorEq, Option.isSome, false_implies]; try simp [Wk, wkK, wkT, wk1, AV.kept, keptAll, wkO, lk, G4]), by omega, Eq.mpr hQ hs, by omega⟩
                  | skip))
    · have hr : R = true := by
        rw [← hR2, List.all_eq_true]
        intro j hj
        exact hno j (by have := List.mem_range.1 hj; omega)
      subst hr
      (sym =>
       simp [hlb,hR,Hy,H0,Hz,H1,Hx,Hw,Hk.eq_def,Hd.eq_def,Nm.eq_def,Hr.eq_def,Hp.eq_def,Za,Zb,Zc,Zd,Ze,Zf,Zg,Zh,Zi,Zj,Zk,Zl,Zm,Zn,Zo,Zp,Zq,Zr,Zs,Zt,Zu,Zv,Zw,Zx,Zy,Z5,Z8,Z9,Qa,Qb,Qc,Qd,Qe,Qf,Qg,Qj,Qk,Ql,Qm,Qn,Qo,Qp,Qq,Qr,Q0,Q1,Q4,Q5,Q6,Q8,Q9,Ja,Jf,Jh,Ji,Jj,Jk,Jl,Jt,Jx,Jy,Jz,J0,J1,J2,J5,J6,J7,J8,J9,Xa,Xb,Xc,Xd,Xe,Xf,Xg,Xj,Xk,Xl,Xm,Xn,Xo,Xp,Xq,Xr,Xs,Xt,Xu,Xv,Xw,Xx,Xy,Xz,X1,X2,X3,X4,X5,X6,X7,X8,We,Wf,Wg,Wh,Wi,Wj,Wl,Wm,Wn,Wo,Wp,Wq,Wr,Ws,Wt,Wu,Wv,Ww,Wx,Wy,Wz,W0,W3,W4,W5,W6,W7,W8,W9,Ya,Yb,Yc,Yd,Ye,Yf,Yg,Yh,Yi,Yj,Yk,Yl,Ym,Yn,Yo,Yr,Ys,Yt,Yu,Yv,Yw,Yx,Yy,Yz,Y1,Y2,Y3,Y4,Y5,Y6,Y7,Y8,Y9,Va,Vb,Vc,Vd,Ve,Vf,Vg,Vh,Vi,Vj,Vk,Vl,Vm,Vn,Vo,Vp,Vq,Vr,Vs,Vt,Vu,Vv,Vw,Vx,Vy,Vz,V0,V1,V2,V3,V4,V5,V6,V7,V8,V9,Ua,Ub,Uc,Ud,Ue,Uf,Ug,Uh,Ui,Uj,Uk,Ul,Um,Un,Uo,Up,Uq,Ur,Us,Ut,Uu,Uv,Uw,Ux,Uy,Uz,U0,U1,U2,U5,U6,U7,U8,U9,Ka,Kb,Kc,Kd,Ke,Kf,Kg,Kh,Ki,Kj,Kk,Kl,Km,Kn,Ko,Kq,Kr,Ks,Kt,Ku,Kv,Kw,Kx,Ky,Kz,K0,K1,K2,K3,K4,K5,K6,K7,Gg,Gi,Gj,Gk,Gl,Gm,Gn,Gr,Gs,Hg,Nf,H3,Nc,H2,Mt]))
end Go.Am.Ty
set_option linter.unusedSimpArgs false
set_option linter.unusedVariables false
set_option maxHeartbeats 1000000
namespace Go.Am.Ty
open Go.Proofs
open Enc (enc dec)
theorem usesB_many {p : Part} {w tg b t u li na op : Bool} (h : Pa p w tg b t u li na op = true) : p.many ≤ 50 ∧ (p.kind = 7 → 1 ≤ p.many) ∧ (p.kind = 10 → 0 ≤ p.many) := by
  unfold Pa at h
  by_cases h0 : p.kind ≠ 0 ∧ p.kind ≠ 14 ∧ p.num ≠ 0
  · rw [if_pos h0] at h; cases h
  rw [if_neg h0] at h
  by_cases h1 : p.kind = 0
  · rw [if_pos h1] at h; simp only [Bool.and_eq_true, beq_iff_eq] at h; omega
  rw [if_neg h1] at h
  by_cases h2 : p.kind = 1
  · rw [if_pos h2] at h; simp only [Bool.and_eq_true, beq_iff_eq] at h; omega
  rw [if_neg h2] at h
  by_cases h3 : p.kind = 2 ∨ p.kind = 4
  · rw [if_pos h3] at h; simp only [Bool.and_eq_true, beq_iff_eq] at h; omega
  rw [if_neg h3] at h
  by_cases h4 : p.kind = 3 ∨ p.kind = 6
  · rw [if_pos h4] at h; simp only [Bool.and_eq_true, beq_iff_eq] at h; omega
  rw [if_neg h4] at h
  by_cases h5 : p.kind = 5
  · rw [if_pos h5] at h; simp only [Bool.and_eq_true, beq_iff_eq] at h; omega
  rw [if_neg h5] at h
  by_cases h6 : p.kind = 7
  · rw [if_pos h6] at h; simp only [Bool.and_eq_true, beq_iff_eq, Lp] at h; omega
  rw [if_neg h6] at h
  by_cases h7 : p.kind = 8
  · rw [if_pos h7] at h; simp only [Bool.and_eq_true, beq_iff_eq] at h; omega
  rw [if_neg h7] at h
  by_cases h8 : p.kind = 9
  · rw [if_pos h8] at h; simp only [Bool.and_eq_true, beq_iff_eq] at h; omega
  rw [if_neg h8] at h
  by_cases h9 : p.kind = 10
  · rw [if_pos h9] at h; simp only [Bool.and_eq_true, beq_iff_eq, Lp] at h; omega
  rw [if_neg h9] at h
  by_cases ha : p.kind = 11
  · rw [if_pos ha] at h; simp only [Bool.and_eq_true, beq_iff_eq] at h; omega
  rw [if_neg ha] at h
  by_cases hb : p.kind = 12
  · rw [if_pos hb] at h; simp only [Bool.and_eq_true, beq_iff_eq] at h; omega
  rw [if_neg hb] at h
  by_cases hc : p.kind = 13
  · rw [if_pos hc] at h; simp only [Bool.and_eq_true, beq_iff_eq] at h; omega
  rw [if_neg hc] at h
  by_cases hd : p.kind = 14
  · rw [if_pos hd] at h; simp only [Bool.and_eq_true, beq_iff_eq] at h; omega
  rw [if_neg hd] at h
  cases h
theorem uses_many {n : Part} (h : uses5 n = true) : n.many ≤ 50 ∧ (n.kind = 7 → 1 ≤ n.many) ∧ (n.kind = 10 → 0 ≤ n.many) := by
  unfold uses5 at h
  exact usesB_many h
theorem uses_tame {n : Part} (h : uses5 n = true) : 0 ≤ Sq n ∧ Sq n ≤ 60 ∧ n.many ≤ 1000000 := by
  obtain ⟨h1, h2, h3⟩ := uses_many h
  have hm : maxI n.many 0 = if n.many < 0 then 0 else n.many := rfl
  unfold Sq
  rw [hm]
  refine ⟨?_, ?_, by omega⟩
  · repeat' (split; first | omega | skip)
    all_goals omega
  · repeat' (split; first | omega | skip)
    all_goals omega
def Eh (t : List Part) : Bool := t.length == 0 || ltB 10000 t.length || !((t.getD 0 e0).label == []) || (t.getD 0 e0).kind == 8
def E0 (t : List Part) : Bool := !Eh t && (t.all uses5 && ((end5 t 0 == (t.length : Int) && shallow5 t) && (List.range t.length).all fun i => lab5 t i))
def Fit6 (p : Part) : Prop := Fit5 p ∧ p.name.length ≤ 9223372036854775806
def Nj : Con := Sn (fun (t : Sl Part) => t.l.length ≤ 9223372036854775807 ∧ ∀ p ∈ t.l, Fit6 p) (fun t => E0 t.l)
noncomputable def Ds : Ctx := ⟨tab, lkC [(33, Mf), (34, Pu), (35, Mq), (36, Hp)], 60, lkB [], [], false⟩
theorem Co : Ds.τ = tab := rfl
theorem Cq : Ds.Γ = lkC [(33, Mf), (34, Pu), (35, Mq), (36, Hp)] := rfl
theorem Cp : Ds.dp = 60 := rfl
theorem Cr : Ds.Δ = lkB [] := rfl
theorem Cn : Ds.cuts = [] := rfl
theorem Cm : Ds.wr = false := rfl
set_option maxRecDepth 100000 in
theorem good_Right5 : M7 Try.prog (16, Nj) := by
  refine ⟨He Try.func16 (by kernel_rfl) rfl, ?_⟩
  have K : Nh Try.prog Ds := Hl Ny Ht (by
    intro p hp
    simp only [List.mem_cons, List.not_mem_nil, or_false] at hp
    rcases hp with rfl | rfl | rfl | rfl
    · exact good_uses5
    · exact good_End5
    · exact good_shallow5
    · exact good_labelled5) (by simp)
  obtain ⟨c, hc⟩ : ∃ c, Try.f16.body = some c := ⟨_, rfl⟩
  refine Hm K Try.func16 hc [.tmp 2] rfl 59 rfl (fun cvs hpre => ?_)
  change Nj.pre cvs at hpre
  unfold Nj at hpre
  obtain ⟨⟨t⟩, rfl, ht, hN⟩ := Nw hpre
  simp only at ht hN
  simp only [Try.f16, Option.some.injEq] at hc
  subst hc
  refine Mn 3 (of_decide_eq_true (by kernel_rfl)) ?_
  by_cases h0 : t.length = 0
  · have hz : ((t.length : Int) == 0) = true := by simp [h0]
    (sym =>
     simp [hz,Gz,G8,G9,G7,szP,Co,Cq,Cp,Cr,Cn,Cm,Pu.eq_def,Nj.eq_def,Hp.eq_def,Mq.eq_def,Mf.eq_def,Za,Zb,Zc,Zd,Ze,Zf,Zg,Zn,Zo,Zp,Zq,Zr,Zs,Zt,Zv,Zx,Zy,Z5,Z8,Z9,Qa,Qb,Qc,Qd,Qe,Qf,Qg,Qk,Ql,Qm,Qn,Qo,Qp,Qr,Q0,Q1,Q4,Q8,Q9,Ja,Jf,Jh,Ji,Jj,Jk,Jl,Jt,Jx,Jy,Jz,J0,J1,J2,J5,J6,J7,J8,J9,Xa,Xb,Xc,Xd,Xe,Xf,Xg,Xj,Xk,Xl,Xm,Xn,Xo,Xp,Xq,Xr,Xs,Xt,Xu,Xv,Xw,Xx,Xy,X1,X2,X3,X4,X5,X6,X7,X8,We,Wf,Wg,Wh,Wi,Wj,Wl,Wm,Wn,Wo,Wp,Ws,Wt,Wu,Wv,Ww,Wx,Wy,Wz,W0,W3,W4,W5,W6,W7,W8,W9,Ya,Yb,Yc,Yd,Ye,Yf,Yg,Yh,Yi,Yj,Yk,Yl,Ym,Yn,Yo,Yr,Ys,Yt,Yu,Yv,Yw,Yx,Yy,Yz,Y1,Y2,Y3,Y4,Y5,Y6,Y7,Y8,Y9,Va,Vb,Vc,Vd,Ve,Vf,Vg,Vh,Vi,Vj,Vk,Vl,Vm,Vn,Vo,Vp,Vq,Vr,Vs,Vt,Vu,Vv,Vw,Vx,Vy,Vz,V0,V1,V2,V3,V4,V5,V6,V7,V8,V9,Ua,Ub,Uc,Ud,Ue,Uf,Ug,Uh,Ui,Uj,Uk,Ul,Um,Un,Uo,Up,Uq,Ur,Us,Ut,Uu,Uv,U1,U2,U5,U6,U7,U8,U9,Ka,Kb,Kc,Kd,Ke,Kf,Kg,Kh,Ki,Kj,Kk,Kl,Km,Kn,Ko,Kq,Kr,Ks,Kt,Ku,Kv,Kw,Kx,Ky,Kz,K0,K1,K2,K3,K4,K5,K6,K7,Gg,Gi,Gj,Gk,Gl,Gm,Gn,Gr,Hg,Nf,H3,Nc,H2]
     tactic =>
      try simp only [G6] at *
      try simp only [nc2] at *
      try simp (maxSteps := 4000000) only [hz,Gz,G8,G9,G7,szP,Hi]
      unfold E0 Eh
      simp [h0])
  have hz : ((t.length : Int) == 0) = false := by rw [beq_eq_false_iff_ne]; omega
  have hlt0 : 0 < t.length := by omega
  have heb : Eh t = true → false = E0 t := by
    intro h; unfold E0; rw [h]; rfl
  have zz1 := H7 e0 hlt0
  (sym =>
   simp [hz,zz1,Gz,G8,G9,G7,szP,Co,Cq,Cp,Cr,Cn,Cm,Pu.eq_def,Nj.eq_def,Hp.eq_def,Mq.eq_def,Mf.eq_def,Za,Zb,Zc,Zd,Ze,Zf,Zg,Zn,Zo,Zp,Zq,Zr,Zs,Zt,Zv,Zx,Zy,Z5,Z8,Z9,Qa,Qb,Qc,Qd,Qe,Qf,Qg,Qk,Ql,Qm,Qn,Qo,Qp,Qr,Q0,Q1,Q4,Q8,Q9,Ja,Jf,Jh,Ji,Jj,Jk,Jl,Jt,Jx,Jy,Jz,J0,J1,J2,J5,J6,J7,J8,J9,Xa,Xb,Xc,Xd,Xe,Xf,Xg,Xj,Xk,Xl,Xm,Xn,Xo,Xp,Xq,Xr,Xs,Xt,Xu,Xv,Xw,Xx,Xy,X1,X2,X3,X4,X5,X6,X7,X8,We,Wf,Wg,Wh,Wi,Wj,Wl,Wm,Wn,Wo,Wp,Ws,Wt,Wu,Wv,Ww,Wx,Wy,Wz,W0,W3,W4,W5,W6,W7,W8,W9,Ya,Yb,Yc,Yd,Ye,Yf,Yg,Yh,Yi,Yj,Yk,Yl,Ym,Yn,Yo,Yr,Ys,Yt,Yu,Yv,Yw,Yx,Yy,Yz,Y1,Y2,Y3,Y4,Y5,Y6,Y7,Y8,Y9,Va,Vb,Vc,Vd,Ve,Vf,Vg,Vh,Vi,Vj,Vk,Vl,Vm,Vn,Vo,Vp,Vq,Vr,Vs,Vt,Vu,Vv,Vw,Vx,Vy,Vz,V0,V1,V2,V3,V4,V5,V6,V7,V8,V9,Ua,Ub,Uc,Ud,Ue,Uf,Ug,Uh,Ui,Uj,Uk,Ul,Um,Un,Uo,Up,Uq,Ur,Us,Ut,Uu,Uv,U1,U2,U5,U6,U7,U8,U9,Ka,Kb,Kc,Kd,Ke,Kf,Kg,Kh,Ki,Kj,Kk,Kl,Km,Kn,Ko,Kq,Kr,Ks,Kt,Ku,Kv,Kw,Kx,Ky,Kz,K0,K1,K2,K3,K4,K5,K6,K7,Gg,Gi,Gj,Gk,Gl,Gm,Gn,Gr,Hg,Nf,H3,Nc,H2]
   tactic =>
    try simp only [G6] at *
    try simp only [nc2] at *
    try simp (maxSteps := 4000000) only [hz,zz1,Gz,G8,G9,G7,szP,Hi]
    repeat' (first | with_reducible assumption | with_reducible refine And.intro ?_ ?_ | intro _ | omega | (rw [Gy]; omega))
    · rename_i h1 h2 h9
      exact heb (by unfold Eh; rw [show ((t.getD 0 e0).kind == 8) = true by rw [beq_iff_eq]; exact h9]; simp only [Bool.or_true])
    · rename_i h1 h3 h9
      have hle : t.length ≤ 10000 := by omega
      have hnb : Eh t = false := by
        unfold Eh
        simp only [Bool.or_eq_false_iff, Me, beq_eq_false_iff_ne]
        refine ⟨⟨⟨by omega, by omega⟩, ?_⟩, h9⟩
        simpa using h3
      have hr : E0 t = (t.all uses5 && ((end5 t 0 == (t.length : Int) && shallow5 t) && (List.range t.length).all fun i => lab5 t i)) := by
        unfold E0; rw [hnb]; rfl
      refine Ho [2, 27, 28, 29, 30, 31, 32, 33, 34, 35, 36, 37, 38] (fun k : Nat => [(3, .d (.int .i64 k))]) (fun k : Nat => []) (fun k : Nat => k ≤ t.length ∧ ∀ j, j < k → uses5 (t.getD j e0) = true) (fun k : Nat => t.length - k) 0 ?_ ?_ ?_
      · simp
      · ((try simp only [G3, Ha, G5, Hf, upd, Hh, Hn, Na, Nat.reduceDiv, Nat.reduceMod, Nat.reduceMul, Nat.reduceAdd, Nat.reduceEqDiff, List.set_cons_zero, List.set_cons_succ, if_true, if_false, reduceIte]); (first | refine Wk.of_fl ?_ | skip); simp only [Wk, wkK, Nd, wkT, wk1, AV.kept, keptAll, wkO, lk, G4, and_true, true_and, and_self, Nat.reduceEqDiff, Nat.reduceLeDiff, if_true, if_false, reduceIte, reduceCtorEq, Option.isSome, false_implies]; try simp [Wk, wkK, wkT, wk1, AV.kept, keptAll, wkO, lk, G4])
      rintro k ⟨hk, hno⟩
      rcases Hq k t.length with ⟨hlt, hlb⟩ | ⟨hlt, hlb⟩
      · obtain ⟨hf1, hf2⟩ := hN (t.getD k e0) (by simp [hlt])
        have zz2 := H7 e0 hlt
        (sym =>
         simp [hlb,zz2,Gz,G8,G9,G7,szP,Co,Cq,Cp,Cr,Cn,Cm,Pu.eq_def,Nj.eq_def,Hp.eq_def,Mq.eq_def,Mf.eq_def,Za,Zb,Zc,Zd,Ze,Zf,Zg,Zn,Zo,Zp,Zq,Zr,Zs,Zt,Zv,Zx,Zy,Z5,Z8,Z9,Qa,Qb,Qc,Qd,Qe,Qf,Qg,Qk,Ql,Qm,Qn,Qo,Qp,Qr,Q0,Q1,Q4,Q8,Q9,Ja,Jf,Jh,Ji,Jj,Jk,Jl,Jt,Jx,Jy,Jz,J0,J1,J2,J5,J6,J7,J8,J9,Xa,Xb,Xc,Xd,Xe,Xf,Xg,Xj,Xk,Xl,Xm,Xn,Xo,Xp,Xq,Xr,Xs,Xt,Xu,Xv,Xw,Xx,Xy,X1,X2,X3,X4,X5,X6,X7,X8,We,Wf,Wg,Wh,Wi,Wj,Wl,Wm,Wn,Wo,Wp,Ws,Wt,Wu,Wv,Ww,Wx,Wy,Wz,W0,W3,W4,W5,W6,W7,W8,W9,Ya,Yb,Yc,Yd,Ye,Yf,Yg,Yh,Yi,Yj,Yk,Yl,Ym,Yn,Yo,Yr,Ys,Yt,Yu,Yv,Yw,Yx,Yy,Yz,Y1,Y2,Y3,Y4,Y5,Y6,Y7,Y8,Y9,Va,Vb,Vc,Vd,Ve,Vf,Vg,Vh,Vi,Vj,Vk,Vl,Vm,Vn,Vo,Vp,Vq,Vr,Vs,Vt,Vu,Vv,Vw,Vx,Vy,Vz,V0,V1,V2,V3,V4,V5,V6,V7,V8,V9,Ua,Ub,Uc,Ud,Ue,Uf,Ug,Uh,Ui,Uj,Uk,Ul,Um,Un,Uo,Up,Uq,Ur,Us,Ut,Uu,Uv,U1,U2,U5,U6,U7,U8,U9,Ka,Kb,Kc,Kd,Ke,Kf,Kg,Kh,Ki,Kj,Kk,Kl,Km,Kn,Ko,Kq,Kr,Ks,Kt,Ku,Kv,Kw,Kx,Ky,Kz,K0,K1,K2,K3,K4,K5,K6,K7,Gg,Gi,Gj,Gk,Gl,Gm,Gn,Gr,Hg,Nf,H3,Nc,H2]
         tactic =>
          try simp only [G6] at *
          try simp only [nc2] at *
          try simp (maxSteps := 4000000) only [hlb,zz2,Gz,G8,G9,G7,szP,Hi]
          repeat' (first | with_reducible assumption | with_reducible refine And.intro ?_ ?_ | intro _ | omega | (rw [Gy]; omega))
          · rename_i hb
            rw [hr, Iz (p := uses5) e0 k hlt hb]
            rfl
          · rename_i hb
            refine ⟨k + 1, by ((try simp only [G3, Ha, G5, Hf, upd, Hh, Hn, Na, Nat.reduceDiv, Nat.reduceMod, Nat.reduceMul, Nat.reduceAdd, Nat.reduceEqDiff, List.set_cons_zero, List.set_cons_succ, if_true, if_false, reduceIte]); (first | refine Wk.of_fl ?_ | skip); simp only [Wk, wkK, Nd, wkT, wk1, AV.kept, keptAll, wkO, lk, G4, and_true, true_and, and_self, Nat.reduceEqDiff, Nat.reduceLeDiff, if_true, if_false, reduceIte, reduceCtorEq, Option.isSome, false_implies]; try simp [Wk, wkK, wkT, wk1, AV.kept, keptAll, wkO, lk, G4]), by omega, fun j hj => ?_, by omega⟩
            by_cases hjk : j = k
            · subst hjk; exact hb
            · exact hno j (by omega))
      · have hall : t.all uses5 = true := Eb (p := uses5) e0 fun j hj => hno j (by omega)
        have hT : Tame5 t := ⟨by omega, fun n hn => uses_tame (List.all_eq_true.1 hall n hn)⟩
        have hL : Lab5 t := fun n hn => (hN n hn).1.2.2.1
        rw [hall, Bool.true_and] at hr
        (sym =>
         simp [hlb,Gz,G8,G9,G7,szP,Co,Cq,Cp,Cr,Cn,Cm,Pu.eq_def,Nj.eq_def,Hp.eq_def,Mq.eq_def,Mf.eq_def,Za,Zb,Zc,Zd,Ze,Zf,Zg,Zn,Zo,Zp,Zq,Zr,Zs,Zt,Zv,Zx,Zy,Z5,Z8,Z9,Qa,Qb,Qc,Qd,Qe,Qf,Qg,Qk,Ql,Qm,Qn,Qo,Qp,Qr,Q0,Q1,Q4,Q8,Q9,Ja,Jf,Jh,Ji,Jj,Jk,Jl,Jt,Jx,Jy,Jz,J0,J1,J2,J5,J6,J7,J8,J9,Xa,Xb,Xc,Xd,Xe,Xf,Xg,Xj,Xk,Xl,Xm,Xn,Xo,Xp,Xq,Xr,Xs,Xt,Xu,Xv,Xw,Xx,Xy,X1,X2,X3,X4,X5,X6,X7,X8,We,Wf,Wg,Wh,Wi,Wj,Wl,Wm,Wn,Wo,Wp,Ws,Wt,Wu,Wv,Ww,Wx,Wy,Wz,W0,W3,W4,W5,W6,W7,W8,W9,Ya,Yb,Yc,Yd,Ye,Yf,Yg,Yh,Yi,Yj,Yk,Yl,Ym,Yn,Yo,Yr,Ys,Yt,Yu,Yv,Yw,Yx,Yy,Yz,Y1,Y2,Y3,Y4,Y5,Y6,Y7,Y8,Y9,Va,Vb,Vc,Vd,Ve,Vf,Vg,Vh,Vi,Vj,Vk,Vl,Vm,Vn,Vo,Vp,Vq,Vr,Vs,Vt,Vu,Vv,Vw,Vx,Vy,Vz,V0,V1,V2,V3,V4,V5,V6,V7,V8,V9,Ua,Ub,Uc,Ud,Ue,Uf,Ug,Uh,Ui,Uj,Uk,Ul,Um,Un,Uo,Up,Uq,Ur,Us,Ut,Uu,Uv,U1,U2,U5,U6,U7,U8,U9,Ka,Kb,Kc,Kd,Ke,Kf,Kg,Kh,Ki,Kj,Kk,Kl,Km,Kn,Ko,Kq,Kr,Ks,Kt,Ku,Kv,Kw,Kx,Ky,Kz,K0,K1,K2,K3,K4,K5,K6,K7,Gg,Gi,Gj,Gk,Gl,Gm,Gn,Gr,Hg,Nf,H3,Nc,H2]
         tactic =>
          try simp only [G6] at *
          try simp only [nc2] at *
          try simp (maxSteps := 4000000) only [hlb,Gz,G8,G9,G7,szP,Hi]
          repeat' (first | with_reducible assumption | with_reducible refine And.intro ?_ ?_ | intro _ | omega | (rw [Gy]; omega))
          · rename_i he hs
            rw [hr, hs]
            simp
          · rename_i he hs
            have hr2 : E0 t = (List.range t.length).all fun i => lab5 t i := by
              rw [hr, hs, show (end5 t 0 == (t.length : Int)) = true by simpa using he]
              rfl
            refine Ho [2, 49, 50, 51, 52, 53, 54, 55, 56, 57, 58] (fun k : Nat => [(4, .d (.int .i64 k))]) (fun k : Nat => []) (fun k : Nat => k ≤ t.length ∧ ∀ j, j < k → lab5 t j = true) (fun k : Nat => t.length - k) 0 ?_ ?_ ?_
            · simp
            · ((try simp only [G3, Ha, G5, Hf, upd, Hh, Hn, Na, Nat.reduceDiv, Nat.reduceMod, Nat.reduceMul, Nat.reduceAdd, Nat.reduceEqDiff, List.set_cons_zero, List.set_cons_succ, if_true, if_false, reduceIte]); (first | refine Wk.of_fl ?_ | skip); simp only [Wk, wkK, Nd, wkT, wk1, AV.kept, keptAll, wkO, lk, G4, and_true, true_and, and_self, Nat.reduceEqDiff, Nat.reduceLeDiff, if_true, if_false, reduceIte, reduceCtorEq, Option.isSome, false_implies]; try simp [Wk, wkK, wkT, wk1, AV.kept, keptAll, wkO, lk, G4])
            rintro k ⟨hk2, hno2⟩
            rcases Hq k t.length with ⟨hlt2, hlb2⟩ | ⟨hlt2, hlb2⟩
            · (sym =>
               simp [hlb2,Gz,G8,G9,G7,szP,Co,Cq,Cp,Cr,Cn,Cm,Pu.eq_def,Nj.eq_def,Hp.eq_def,Mq.eq_def,Mf.eq_def,Za,Zb,Zc,Zd,Ze,Zf,Zg,Zn,Zo,Zp,Zq,Zr,Zs,Zt,Zv,Zx,Zy,Z5,Z8,Z9,Qa,Qb,Qc,Qd,Qe,Qf,Qg,Qk,Ql,Qm,Qn,Qo,Qp,Qr,Q0,Q1,Q4,Q8,Q9,Ja,Jf,Jh,Ji,Jj,Jk,Jl,Jt,Jx,Jy,Jz,J0,J1,J2,J5,J6,J7,J8,J9,Xa,Xb,Xc,Xd,Xe,Xf,Xg,Xj,Xk,Xl,Xm,Xn,Xo,Xp,Xq,Xr,Xs,Xt,Xu,Xv,Xw,Xx,Xy,X1,X2,X3,X4,X5,X6,X7,X8,We,Wf,Wg,Wh,Wi,Wj,Wl,Wm,Wn,Wo,Wp,Ws,Wt,Wu,Wv,Ww,Wx,Wy,Wz,W0,W3,W4,W5,W6,W7,W8,W9,Ya,Yb,Yc,Yd,Ye,Yf,Yg,Yh,Yi,Yj,Yk,Yl,Ym,Yn,Yo,Yr,Ys,Yt,Yu,Yv,Yw,Yx,Yy,Yz,Y1,Y2,Y3,Y4,Y5,Y6,Y7,Y8,Y9,Va,Vb,Vc,Vd,Ve,Vf,Vg,Vh,Vi,Vj,Vk,Vl,Vm,Vn,Vo,Vp,Vq,Vr,Vs,Vt,Vu,Vv,Vw,Vx,Vy,Vz,V0,V1,V2,V3,V4,V5,V6,V7,V8,V9,Ua,Ub,Uc,Ud,Ue,Uf,Ug,Uh,Ui,Uj,Uk,Ul,Um,Un,Uo,Up,Uq,Ur,Us,Ut,Uu,Uv,U1,U2,U5,U6,U7,U8,U9,Ka,Kb,Kc,Kd,Ke,Kf,Kg,Kh,Ki,Kj,Kk,Kl,Km,Kn,Ko,Kq,Kr,Ks,Kt,Ku,Kv,Kw,Kx,Ky,Kz,K0,K1,K2,K3,K4,K5,K6,K7,Gg,Gi,Gj,Gk,Gl,Gm,Gn,Gr,Hg,Nf,H3,Nc,H2]
               tactic =>
                try simp only [G6] at *
                try simp only [nc2] at *
                try simp (maxSteps := 4000000) only [hlb2,Gz,G8,G9,G7,szP,Hi]
                repeat' (first | with_reducible assumption | with_reducible refine And.intro ?_ ?_ | intro _ | omega | (rw [Gy]; omega))
                · rename_i hb
                  rw [hr2, C3 k hlt2 hb]
                · rename_i hb
                  refine ⟨k + 1, by ((try simp only [G3, Ha, G5, Hf, upd, Hh, Hn, Na, Nat.reduceDiv, Nat.reduceMod, Nat.reduceMul, Nat.reduceAdd, Nat.reduceEqDiff, List.set_cons_zero, List.set_cons_succ, if_true, if_false, reduceIte]); (first | refine Wk.of_fl ?_ | skip); simp only [Wk, wkK, Nd, wkT, wk1, AV.kept, keptAll, wkO, lk, G4, and_true, true_and, and_self, Nat.reduceEqDiff, Nat.reduceLeDiff, if_true, if_false, reduceIte, reduceCtorEq, Option.isSome, false_implies]; try simp [Wk, wkK, wkT, wk1, AV.kept, keptAll, wkO, lk, G4]), by omega, fun j hj => ?_, by omega⟩
                  by_cases hjk : j = k
                  · subst hjk; exact hb
                  · exact hno2 j (by omega))
            · (sym =>
               simp [hlb2,Gz,G8,G9,G7,szP,Co,Cq,Cp,Cr,Cn,Cm,Pu.eq_def,Nj.eq_def,Hp.eq_def,Mq.eq_def,Mf.eq_def,Za,Zb,Zc,Zd,Ze,Zf,Zg,Zn,Zo,Zp,Zq,Zr,Zs,Zt,Zv,Zx,Zy,Z5,Z8,Z9,Qa,Qb,Qc,Qd,Qe,Qf,Qg,Qk,Ql,Qm,Qn,Qo,Qp,Qr,Q0,Q1,Q4,Q8,Q9,Ja,Jf,Jh,Ji,Jj,Jk,Jl,Jt,Jx,Jy,Jz,J0,J1,J2,J5,J6,J7,J8,J9,Xa,Xb,Xc,Xd,Xe,Xf,Xg,Xj,Xk,Xl,Xm,Xn,Xo,Xp,Xq,Xr,Xs,Xt,Xu,Xv,Xw,Xx,Xy,X1,X2,X3,X4,X5,X6,X7,X8,We,Wf,Wg,Wh,Wi,Wj,Wl,Wm,Wn,Wo,Wp,Ws,Wt,Wu,Wv,Ww,Wx,Wy,Wz,W0,W3,W4,W5,W6,W7,W8,W9,Ya,Yb,Yc,Yd,Ye,Yf,Yg,Yh,Yi,Yj,Yk,Yl,Ym,Yn,Yo,Yr,Ys,Yt,Yu,Yv,Yw,Yx,Yy,Yz,Y1,Y2,Y3,Y4,Y5,Y6,Y7,Y8,Y9,Va,Vb,Vc,Vd,Ve,Vf,Vg,Vh,Vi,Vj,Vk,Vl,Vm,Vn,Vo,Vp,Vq,Vr,Vs,Vt,Vu,Vv,Vw,Vx,Vy,Vz,V0,V1,V2,V3,V4,V5,V6,V7,V8,V9,Ua,Ub,Uc,Ud,Ue,Uf,Ug,Uh,Ui,Uj,Uk,Ul,Um,Un,Uo,Up,Uq,Ur,Us,Ut,Uu,Uv,U1,U2,U5,U6,U7,U8,U9,Ka,Kb,Kc,Kd,Ke,Kf,Kg,Kh,Ki,Kj,Kk,Kl,Km,Kn,Ko,Kq,Kr,Ks,Kt,Ku,Kv,Kw,Kx,Ky,Kz,K0,K1,K2,K3,K4,K5,K6,K7,Gg,Gi,Gj,Gk,Gl,Gm,Gn,Gr,Hg,Nf,H3,Nc,H2]
               tactic =>
                try simp only [G6] at *
                try simp only [nc2] at *
                try simp (maxSteps := 4000000) only [hlb2,Gz,G8,G9,G7,szP,Hi]
                rw [hr2, Cg fun j hj => hno2 j (by omega)])
          · rename_i he
            rw [hr, show (end5 t 0 == (t.length : Int)) = false by simpa using he]
            rfl)
    · rename_i h1 h3
      exact heb (by unfold Eh; rw [show ((t.getD 0 e0).label == []) = false by rw [beq_eq_false_iff_ne]; exact h3]; simp only [Bool.not_false, Bool.or_true, Bool.true_or])
    · rename_i h1
      exact heb (by unfold Eh; rw [show ltB 10000 (t.length : Int) = true by rw [Ba]; exact h1]; simp only [Bool.or_true, Bool.true_or]))
end Go.Am.Ty
set_option linter.unusedSimpArgs false
set_option linter.unusedVariables false
set_option maxHeartbeats 2000000
namespace Go.Am.Ty
open Go.Proofs
open Enc (enc dec)
def C2 (n : Part) : Part := ⟨n.kind, n.label, n.name, n.bind, n.many, n.num, n.t.map norm, n.u.map norm⟩
def flat5 (x y : Part) : Bool := (x.kind == y.kind) && ((x.label == y.label) && ((x.name == y.name) && ((x.bind == y.bind) && ((x.many == y.many) && (x.num == y.num)))))
def same5P (x y : Part) : Bool := flat5 x y && (same3 x.t y.t && same3 x.u y.u)
theorem same5P_iff {x y : Part} : same5P x y = true ↔ C2 x = C2 y := by
  cases x
  cases y
  unfold same5P flat5 C2 same3
  simp [and_assoc]
def same5 (a b : List Part) : Bool := a.map C2 == b.map C2
def Two5 (n : Part) : Prop := n.t.length ≤ 9223372036854775807 ∧ n.u.length ≤ 9223372036854775807
def In5 (a : List Part) : Prop := a.length ≤ 9223372036854775807 ∧ ∀ n ∈ a, Two5 n
def B3 : Con := C0 (fun (a b : Sl Part) => In5 a.l ∧ In5 b.l) (fun a b => same5 a.l b.l)
noncomputable def Fe : Ctx := ⟨tab, lkC [(56, Lm)], 60, lkB [], [], false⟩
theorem Ih : Fe.τ = tab := rfl
theorem Ij : Fe.Γ = lkC [(56, Lm)] := rfl
theorem Ii : Fe.dp = 60 := rfl
theorem Ik : Fe.Δ = lkB [] := rfl
theorem Ig : Fe.cuts = [] := rfl
theorem Ie : Fe.wr = false := rfl
set_option maxRecDepth 100000 in
theorem good_Same5 : M7 Try.prog (37, B3) := by
  refine ⟨He Try.func37 (by kernel_rfl) rfl, ?_⟩
  have K : Nh Try.prog Fe := Hl Ny Ht (by
    intro p hp
    simp only [List.mem_cons, List.not_mem_nil, or_false] at hp
    rcases hp with rfl
    · exact good_Same3) (by simp)
  obtain ⟨c, hc⟩ : ∃ c, Try.f37.body = some c := ⟨_, rfl⟩
  refine Hm K Try.func37 hc [.tmp 4] rfl 81 rfl (fun cvs hpre => ?_)
  change B3.pre cvs at hpre
  unfold B3 at hpre
  obtain ⟨⟨a⟩, ⟨b⟩, rfl, hIa, hIb⟩ := Mp hpre
  obtain ⟨ha, hA⟩ : In5 a := hIa
  obtain ⟨hb, hB⟩ : In5 b := hIb
  clear hpre
  obtain ⟨R, hR⟩ : ∃ R, same5 a b = R := ⟨_, rfl⟩
  have hR2 := hR
  unfold same5 at hR2
  by_cases hne : a.length = b.length
  case neg =>
    have hr : R = false := by
      rw [← hR2, beq_eq_false_iff_ne]
      intro h
      have := congrArg List.length h
      rw [List.length_map, List.length_map] at this
      exact hne this
    have hm : ((a.length : Int) != (b.length : Int)) = true := by rw [bne_iff_ne]; omega
    subst hr
    simp only [Try.f37, Option.some.injEq] at hc
    subst hc
    refine Mn 5 (of_decide_eq_true (by kernel_rfl)) ?_
    (sym =>
     simp [hm,hR,szP,Ih,Ij,Ii,Ik,Ig,Ie,Lm.eq_def,B3.eq_def,Za,Zb,Zc,Zd,Ze,Zf,Zg,Zh,Zi,Zj,Zk,Zl,Zm,Zn,Zo,Zp,Zq,Zr,Zs,Zt,Zu,Zv,Zw,Zx,Zy,Z5,Z8,Z9,Qa,Qb,Qc,Qd,Qe,Qf,Qg,Qj,Qk,Ql,Qm,Qn,Qo,Qp,Qq,Qr,Q0,Q1,Q4,Q5,Q6,Q8,Q9,Ja,Jf,Jh,Ji,Jj,Jk,Jl,Jt,Jx,Jy,Jz,J0,J1,J2,J5,J6,J7,J8,J9,Xa,Xb,Xc,Xd,Xe,Xf,Xg,Xj,Xk,Xl,Xm,Xn,Xo,Xp,Xq,Xr,Xs,Xt,Xu,Xv,Xw,Xx,Xy,Xz,X1,X2,X3,X4,X5,X6,X7,X8,We,Wf,Wg,Wh,Wi,Wj,Wl,Wm,Wn,Wo,Wp,Wq,Wr,Ws,Wt,Wu,Wv,Ww,Wx,Wy,Wz,W0,W3,W4,W5,W6,W7,W8,W9,Ya,Yb,Yc,Yd,Ye,Yf,Yg,Yh,Yi,Yj,Yk,Yl,Ym,Yn,Yo,Yr,Ys,Yt,Yu,Yv,Yw,Yx,Yy,Yz,Y1,Y2,Y3,Y4,Y5,Y6,Y7,Y8,Y9,Va,Vb,Vc,Vd,Ve,Vf,Vg,Vh,Vi,Vj,Vk,Vl,Vm,Vn,Vo,Vp,Vq,Vr,Vs,Vt,Vu,Vv,Vw,Vx,Vy,Vz,V0,V1,V2,V3,V4,V5,V6,V7,V8,V9,Ua,Ub,Uc,Ud,Ue,Uf,Ug,Uh,Ui,Uj,Uk,Ul,Um,Un,Uo,Up,Uq,Ur,Us,Ut,Uu,Uv,Uw,Ux,Uy,Uz,U0,U1,U2,U5,U6,U7,U8,U9,Ka,Kb,Kc,Kd,Ke,Kf,Kg,Kh,Ki,Kj,Kk,Kl,Km,Kn,Ko,Kq,Kr,Ks,Kt,Ku,Kv,Kw,Kx,Ky,Kz,K0,K1,K2,K3,K4,K5,K6,K7,Gg,Gi,Gj,Gk,Gl,Gm,Gn,Gr,Gs,Az,Hg,Nf,H3,Hc,Hb,Nc,H2])
  have hm : ((a.length : Int) != (b.length : Int)) = false := by rw [bne_eq_false_iff_eq]; omega
  simp only [Try.f37, Option.some.injEq] at hc
  subst hc
  refine Mn 5 (of_decide_eq_true (by kernel_rfl)) ?_
  (sym =>
   simp [hm,szP,Ih,Ij,Ii,Ik,Ig,Ie,Lm.eq_def,B3.eq_def,Za,Zb,Zc,Zd,Ze,Zf,Zg,Zh,Zi,Zj,Zk,Zl,Zm,Zn,Zo,Zp,Zq,Zr,Zs,Zt,Zu,Zv,Zw,Zx,Zy,Z5,Z8,Z9,Qa,Qb,Qc,Qd,Qe,Qf,Qg,Qj,Qk,Ql,Qm,Qn,Qo,Qp,Qq,Qr,Q0,Q1,Q4,Q5,Q6,Q8,Q9,Ja,Jf,Jh,Ji,Jj,Jk,Jl,Jt,Jx,Jy,Jz,J0,J1,J2,J5,J6,J7,J8,J9,Xa,Xb,Xc,Xd,Xe,Xf,Xg,Xj,Xk,Xl,Xm,Xn,Xo,Xp,Xq,Xr,Xs,Xt,Xu,Xv,Xw,Xx,Xy,Xz,X1,X2,X3,X4,X5,X6,X7,X8,We,Wf,Wg,Wh,Wi,Wj,Wl,Wm,Wn,Wo,Wp,Wq,Wr,Ws,Wt,Wu,Wv,Ww,Wx,Wy,Wz,W0,W3,W4,W5,W6,W7,W8,W9,Ya,Yb,Yc,Yd,Ye,Yf,Yg,Yh,Yi,Yj,Yk,Yl,Ym,Yn,Yo,Yr,Ys,Yt,Yu,Yv,Yw,Yx,Yy,Yz,Y1,Y2,Y3,Y4,Y5,Y6,Y7,Y8,Y9,Va,Vb,Vc,Vd,Ve,Vf,Vg,Vh,Vi,Vj,Vk,Vl,Vm,Vn,Vo,Vp,Vq,Vr,Vs,Vt,Vu,Vv,Vw,Vx,Vy,Vz,V0,V1,V2,V3,V4,V5,V6,V7,V8,V9,Ua,Ub,Uc,Ud,Ue,Uf,Ug,Uh,Ui,Uj,Uk,Ul,Um,Un,Uo,Up,Uq,Ur,Us,Ut,Uu,Uv,Uw,Ux,Uy,Uz,U0,U1,U2,U5,U6,U7,U8,U9,Ka,Kb,Kc,Kd,Ke,Kf,Kg,Kh,Ki,Kj,Kk,Kl,Km,Kn,Ko,Kq,Kr,Ks,Kt,Ku,Kv,Kw,Kx,Ky,Kz,K0,K1,K2,K3,K4,K5,K6,K7,Gg,Gi,Gj,Gk,Gl,Gm,Gn,Gr,Gs,Az,Hg,Nf,H3,Hc,Hb,Nc,H2]
   tactic =>
    try simp only [G6] at *
    try simp only [nc2] at *
    try simp (maxSteps := 4000000) only [hm,szP,Hi]
    repeat' (first | with_reducible assumption | with_reducible refine And.intro ?_ ?_ | intro _ | omega | (rw [Gy]; omega))
    refine Ho [4, 6, 7, 13, 14, 15, 16, 17, 18, 19, 20, 21, 22, 23, 24, 25, 26, 27, 28, 29, 30, 31, 32, 33, 34, 35, 36, 37, 38, 39, 40, 41, 42, 43, 44, 45, 46, 47, 48, 49, 50, 51, 52, 53, 54, 55, 56, 57, 58, 59, 60, 61, 62, 63, 64, 65, 66, 67, 68, 69, 70, 71, 72, 73, 74, 75, 76, 77, 78, 79, 80] (fun k : Nat => [(5, .d (.int .i64 k))]) (fun k : Nat => []) (fun k : Nat => k ≤ a.length ∧ ∀ j, j < k → C2 (a.getD j e0) = C2 (b.getD j e0)) (fun k : Nat => a.length - k) 0 ?_ ?_ ?_
    · simp
    · ((try simp only [G3, Ha, G5, Hf, upd, Hh, Hn, Na, Nat.reduceDiv, Nat.reduceMod, Nat.reduceMul, Nat.reduceAdd, Nat.reduceEqDiff, List.set_cons_zero, List.set_cons_succ, if_true, if_false, reduceIte]); (first | refine Wk.of_fl ?_ | skip); simp only [Wk, wkK, Nd, wkT, wk1, AV.kept, keptAll, wkO, lk, G4, and_true, true_and, and_self, Nat.reduceEqDiff, Nat.reduceLeDiff, if_true, if_false, reduceIte, reduceCtorEq, Option.isSome, false_implies]; try simp [Wk, wkK, wkT, wk1, AV.kept, keptAll, wkO, lk, G4])
    rintro k ⟨hk, hno⟩
    rcases Hq k a.length with ⟨hlt, hlb⟩ | ⟨hlt, hlb⟩
    · have hlt2 : k < b.length := by omega
      have q1 := H7 e0 hlt
      have q2 := H7 e0 hlt2
      obtain ⟨s1, s2⟩ := hA (a.getD k e0) (by simp [hlt])
      obtain ⟨s3, s4⟩ := hB (b.getD k e0) (by simp [hlt2])
      have hbad : same5P (a.getD k e0) (b.getD k e0) = false → R = false := by
        intro h
        rw [← hR2, beq_eq_false_iff_ne]
        intro e
        have h1 : (a.map C2).getD k e0 = (b.map C2).getD k e0 := by rw [e]
        have h2 : C2 (a.getD k e0) = C2 (b.getD k e0) := by simpa [hlt, hlt2] using h1
        rw [same5P_iff.2 h2] at h
        cases h
      have hyes : same5P (a.getD k e0) (b.getD k e0) = true → ∀ j, j < k + 1 → C2 (a.getD j e0) = C2 (b.getD j e0) := fun h => R9 hno (same5P_iff.1 h)
      obtain ⟨Q, hQ⟩ : ∃ Q, (∀ j, j < k + 1 → C2 (a.getD j e0) = C2 (b.getD j e0)) = Q := ⟨_, rfl⟩
      rw [hQ] at hyes
      obtain ⟨x, hx⟩ : ∃ x, a.getD k e0 = x := ⟨_, rfl⟩
      obtain ⟨y, hy⟩ : ∃ y, b.getD k e0 = y := ⟨_, rfl⟩
      rw [hx] at q1 s1 s2 hbad hyes
      rw [hy] at q2 s3 s4 hbad hyes
      unfold same5P flat5 at hbad hyes
      obtain ⟨b1, h1⟩ : ∃ b, (x.kind == y.kind) = b := ⟨_, rfl⟩
      obtain ⟨b5, h5⟩ : ∃ b, (x.many == y.many) = b := ⟨_, rfl⟩
      obtain ⟨b6, h6⟩ : ∃ b, (x.num == y.num) = b := ⟨_, rfl⟩
      obtain ⟨b7, h7⟩ : ∃ b, same3 x.t y.t = b := ⟨_, rfl⟩
      obtain ⟨b8, h8⟩ : ∃ b, same3 x.u y.u = b := ⟨_, rfl⟩
      have n1 : (x.kind != y.kind) = !b1 := by rw [bne, h1]
      have n5 : (x.many != y.many) = !b5 := by rw [bne, h5]
      have n6 : (x.num != y.num) = !b6 := by rw [bne, h6]
      rw [h1, h5, h6, h7, h8] at hbad hyes
      (sym =>
       simp [hlb,q1,q2,n1,n5,n6,h7,h8,hR,Gz,szP,szN,Ih,Ij,Ii,Ik,Ig,Ie,Lm.eq_def,B3.eq_def,Za,Zb,Zc,Zd,Ze,Zf,Zg,Zh,Zi,Zj,Zk,Zl,Zm,Zn,Zo,Zp,Zq,Zr,Zs,Zt,Zu,Zv,Zw,Zx,Zy,Z5,Z8,Z9,Qa,Qb,Qc,Qd,Qe,Qf,Qg,Qj,Qk,Ql,Qm,Qn,Qo,Qp,Qq,Qr,Q0,Q1,Q4,Q5,Q6,Q8,Q9,Ja,Jf,Jh,Ji,Jj,Jk,Jl,Jt,Jx,Jy,Jz,J0,J1,J2,J5,J6,J7,J8,J9,Xa,Xb,Xc,Xd,Xe,Xf,Xg,Xj,Xk,Xl,Xm,Xn,Xo,Xp,Xq,Xr,Xs,Xt,Xu,Xv,Xw,Xx,Xy,Xz,X1,X2,X3,X4,X5,X6,X7,X8,We,Wf,Wg,Wh,Wi,Wj,Wl,Wm,Wn,Wo,Wp,Wq,Wr,Ws,Wt,Wu,Wv,Ww,Wx,Wy,Wz,W0,W3,W4,W5,W6,W7,W8,W9,Ya,Yb,Yc,Yd,Ye,Yf,Yg,Yh,Yi,Yj,Yk,Yl,Ym,Yn,Yo,Yr,Ys,Yt,Yu,Yv,Yw,Yx,Yy,Yz,Y1,Y2,Y3,Y4,Y5,Y6,Y7,Y8,Y9,Va,Vb,Vc,Vd,Ve,Vf,Vg,Vh,Vi,Vj,Vk,Vl,Vm,Vn,Vo,Vp,Vq,Vr,Vs,Vt,Vu,Vv,Vw,Vx,Vy,Vz,V0,V1,V2,V3,V4,V5,V6,V7,V8,V9,Ua,Ub,Uc,Ud,Ue,Uf,Ug,Uh,Ui,Uj,Uk,Ul,Um,Un,Uo,Up,Uq,Ur,Us,Ut,Uu,Uv,Uw,Ux,Uy,Uz,U0,U1,U2,U5,U6,U7,U8,U9,Ka,Kb,Kc,Kd,Ke,Kf,Kg,Kh,Ki,Kj,Kk,Kl,Km,Kn,Ko,Kq,Kr,Ks,Kt,Ku,Kv,Kw,Kx,Ky,Kz,K0,K1,K2,K3,K4,K5,K6,K7,Gg,Gi,Gj,Gk,Gl,Gm,Gn,Gr,Gs,Az,Hg,Nf,H3,Hc,Hb,Nc,H2]
       tactic =>
        try simp only [G6] at *
        try simp only [nc2] at *
        try simp (maxSteps := 4000000) only [hlb,q1,q2,n1,n5,n6,h7,h8,hR,Gz,szP,szN,Hi]
        repeat' (first | with_reducible assumption | with_reducible refine And.intro ?_ ?_ | intro _ | omega | (rw [Gy]; omega))
        all_goals first
          | (with_reducible refine Hu ?_; kernel_rfl)
          | omega
          | assumption
          | (symm; apply hbad; clear hbad hyes hno hR hR2 hQ q1 q2 K hA hB; simp_all; done)
          | (refine ⟨k + 1, by ((try simp only [G3, Ha, G5, Hf, upd, Hh, Hn, Na, Nat.reduceDiv, Nat.reduceMod, Nat.reduceMul, Nat.reduceAdd, Nat.reduceEqDiff, List.set_cons_zero, List.set_cons_succ, if_true, if_false, reduceIte]); (first | refine Wk.of_fl ?_ | skip); simp only [Wk, wkK, Nd, wkT, wk1, AV.kept, keptAll, wkO, lk, G4, and_true, true_and, and_self, Nat.reduceEqDiff, Nat.reduceLeDiff, if_true, if_false, reduceIte, reduceCtorEq, Option.isSome, false_implies]; try simp [Wk, wkK, wkT, wk1, AV.kept, keptAll, wkO, lk, G4]), by omega, Eq.mpr hQ (hyes ?_), by omega⟩; clear hbad hyes hno hR hR2 hQ q1 q2 K hA hB; simp_all; done)
          | skip)
    · have hr : R = true := by
        rw [← hR2, beq_iff_eq]
        refine List.ext_getElem (by simp [hne]) fun j h1 h2 => ?_
        rw [List.length_map] at h1 h2
        have := hno j (by omega)
        simpa [h1, h2] using this
      subst hr
      (sym =>
       simp [hlb,hR,szP,Ih,Ij,Ii,Ik,Ig,Ie,Lm.eq_def,B3.eq_def,Za,Zb,Zc,Zd,Ze,Zf,Zg,Zh,Zi,Zj,Zk,Zl,Zm,Zn,Zo,Zp,Zq,Zr,Zs,Zt,Zu,Zv,Zw,Zx,Zy,Z5,Z8,Z9,Qa,Qb,Qc,Qd,Qe,Qf,Qg,Qj,Qk,Ql,Qm,Qn,Qo,Qp,Qq,Qr,Q0,Q1,Q4,Q5,Q6,Q8,Q9,Ja,Jf,Jh,Ji,Jj,Jk,Jl,Jt,Jx,Jy,Jz,J0,J1,J2,J5,J6,J7,J8,J9,Xa,Xb,Xc,Xd,Xe,Xf,Xg,Xj,Xk,Xl,Xm,Xn,Xo,Xp,Xq,Xr,Xs,Xt,Xu,Xv,Xw,Xx,Xy,Xz,X1,X2,X3,X4,X5,X6,X7,X8,We,Wf,Wg,Wh,Wi,Wj,Wl,Wm,Wn,Wo,Wp,Wq,Wr,Ws,Wt,Wu,Wv,Ww,Wx,Wy,Wz,W0,W3,W4,W5,W6,W7,W8,W9,Ya,Yb,Yc,Yd,Ye,Yf,Yg,Yh,Yi,Yj,Yk,Yl,Ym,Yn,Yo,Yr,Ys,Yt,Yu,Yv,Yw,Yx,Yy,Yz,Y1,Y2,Y3,Y4,Y5,Y6,Y7,Y8,Y9,Va,Vb,Vc,Vd,Ve,Vf,Vg,Vh,Vi,Vj,Vk,Vl,Vm,Vn,Vo,Vp,Vq,Vr,Vs,Vt,Vu,Vv,Vw,Vx,Vy,Vz,V0,V1,V2,V3,V4,V5,V6,V7,V8,V9,Ua,Ub,Uc,Ud,Ue,Uf,Ug,Uh,Ui,Uj,Uk,Ul,Um,Un,Uo,Up,Uq,Ur,Us,Ut,Uu,Uv,Uw,Ux,Uy,Uz,U0,U1,U2,U5,U6,U7,U8,U9,Ka,Kb,Kc,Kd,Ke,Kf,Kg,Kh,Ki,Kj,Kk,Kl,Km,Kn,Ko,Kq,Kr,Ks,Kt,Ku,Kv,Kw,Kx,Ky,Kz,K0,K1,K2,K3,K4,K5,K6,K7,Gg,Gi,Gj,Gk,Gl,Gm,Gn,Gr,Gs,Az,Hg,Nf,H3,Hc,Hb,Nc,H2]))
theorem beq_same {a b : List Part} (h : (a == b) = true) : same5 a b = true := by
  rw [eq_of_beq h]
  unfold same5
  exact beq_self_eq_true _
theorem in5_mk {a : List Part} (h : a.length ≤ 9223372036854775807) (h2 : ∀ n ∈ a, Two5 n) : In5 a := ⟨h, h2⟩
def M0 : Con := C0 (fun (a b : Sl Part) => In5 a.l ∧ In5 b.l) (fun a b => a.l == b.l)
noncomputable def Au : Ctx := ⟨tab, lkC [(17, Ma), (37, B3)], 60, lkB [], [], false⟩
theorem ctx_One5_t : Au.τ = tab := rfl
theorem ctx_One5_c : Au.Γ = lkC [(17, Ma), (37, B3)] := rfl
theorem ctx_One5_d : Au.dp = 60 := rfl
theorem ctx_One5_b : Au.Δ = lkB [] := rfl
theorem ctx_One5_u : Au.cuts = [] := rfl
theorem ctx_One5_w : Au.wr = false := rfl
set_option maxRecDepth 100000 in
theorem good_One5 : M7 Try.prog (19, M0) := by
  refine ⟨He Try.func19 (by kernel_rfl) rfl, ?_⟩
  have K : Nh Try.prog Au := Hl Ny Ht (by
    intro p hp
    simp only [List.mem_cons, List.not_mem_nil, or_false] at hp
    rcases hp with rfl | rfl
    · exact good_One3
    · exact good_Same5) (by simp)
  obtain ⟨c, hc⟩ : ∃ c, Try.f19.body = some c := ⟨_, rfl⟩
  refine Hm K Try.func19 hc [.tmp 4] rfl 42 rfl (fun cvs hpre => ?_)
  change M0.pre cvs at hpre
  unfold M0 at hpre
  obtain ⟨⟨a⟩, ⟨b⟩, rfl, hIa, hIb⟩ := Mp hpre
  obtain ⟨ha, hA⟩ : In5 a := hIa
  obtain ⟨hb, hB⟩ : In5 b := hIb
  clear hpre
  obtain ⟨R, hR⟩ : ∃ R, (a == b) = R := ⟨_, rfl⟩
  cases hs : same5 a b with
  | false =>
    have hr : R = false := by
      rw [← hR, Bool.eq_false_iff]
      intro h
      rw [beq_same h] at hs
      cases hs
    subst hr
    simp only [Try.f19, Option.some.injEq] at hc
    subst hc
    refine Mn 2 (of_decide_eq_true (by kernel_rfl)) ?_
    (sym =>
     simp [hs,hR,szP,ctx_One5_t,ctx_One5_c,ctx_One5_d,ctx_One5_b,ctx_One5_u,ctx_One5_w,Ma.eq_def,M0.eq_def,B3.eq_def,Za,Zb,Zc,Zd,Ze,Zf,Zg,Zh,Zi,Zj,Zk,Zl,Zm,Zn,Zo,Zp,Zq,Zr,Zs,Zt,Zv,Zx,Zy,Z5,Z8,Z9,Qa,Qb,Qc,Qd,Qe,Qf,Qg,Qk,Ql,Qm,Qn,Qo,Qp,Qq,Qr,Q0,Q1,Q4,Q5,Q6,Q8,Q9,Ja,Jf,Jh,Ji,Jj,Jk,Jl,Jt,Jx,Jy,Jz,J0,J1,J2,J5,J6,J7,J8,J9,Xa,Xb,Xc,Xd,Xe,Xf,Xg,Xj,Xk,Xl,Xm,Xn,Xo,Xp,Xq,Xr,Xs,Xt,Xu,Xv,Xw,Xx,Xy,X1,X2,X3,X4,X5,X6,X7,X8,We,Wf,Wg,Wh,Wi,Wj,Wl,Wm,Wn,Wo,Wp,Wq,Wr,Ws,Wt,Wu,Wv,Ww,Wx,Wy,Wz,W0,W3,W4,W5,W6,W7,W8,W9,Ya,Yb,Yc,Yd,Ye,Yf,Yg,Yh,Yi,Yj,Yk,Yl,Ym,Yn,Yo,Yr,Ys,Yt,Yu,Yv,Yw,Yx,Yy,Yz,Y1,Y2,Y3,Y4,Y5,Y6,Y7,Y8,Y9,Va,Vb,Vc,Vd,Ve,Vf,Vg,Vh,Vi,Vj,Vk,Vl,Vm,Vn,Vo,Vp,Vq,Vr,Vs,Vt,Vu,Vv,Vw,Vx,Vy,Vz,V0,V1,V2,V3,V4,V5,V6,V7,V8,V9,Ua,Ub,Uc,Ud,Ue,Uf,Ug,Uh,Ui,Uj,Uk,Ul,Um,Un,Uo,Up,Uq,Ur,Us,Ut,Uu,Uv,U1,U2,U5,U6,U7,U8,U9,Ka,Kb,Kc,Kd,Ke,Kf,Kg,Kh,Ki,Kj,Kk,Kl,Km,Kn,Ko,Kq,Kr,Ks,Kt,Ku,Kv,Kw,Kx,Ky,Kz,K0,K1,K2,K3,K4,K5,K6,K7,Gg,Gi,Gj,Gk,Gl,Gm,Gn,Gr,Gs,Hg,Nf,Hc,Hb,Nc,H2]
     tactic =>
      try simp only [G6] at *
      try simp only [nc2] at *
      try simp (maxSteps := 4000000) only [hs,hR,szP,Hi]
      repeat' (first | with_reducible assumption | with_reducible refine And.intro ?_ ?_ | intro _ | omega | (rw [Gy]; omega))
      all_goals first
        | exact in5_mk ha hA
        | exact in5_mk hb hB
        | skip)
  | true =>
  have hmap : a.map C2 = b.map C2 := by unfold same5 at hs; exact eq_of_beq hs
  have hne : a.length = b.length := by have := congrArg List.length hmap; rwa [List.length_map, List.length_map] at this
  simp only [Try.f19, Option.some.injEq] at hc
  subst hc
  refine Mn 2 (of_decide_eq_true (by kernel_rfl)) ?_
  (sym =>
   simp [hs,szP,ctx_One5_t,ctx_One5_c,ctx_One5_d,ctx_One5_b,ctx_One5_u,ctx_One5_w,Ma.eq_def,M0.eq_def,B3.eq_def,Za,Zb,Zc,Zd,Ze,Zf,Zg,Zh,Zi,Zj,Zk,Zl,Zm,Zn,Zo,Zp,Zq,Zr,Zs,Zt,Zv,Zx,Zy,Z5,Z8,Z9,Qa,Qb,Qc,Qd,Qe,Qf,Qg,Qk,Ql,Qm,Qn,Qo,Qp,Qq,Qr,Q0,Q1,Q4,Q5,Q6,Q8,Q9,Ja,Jf,Jh,Ji,Jj,Jk,Jl,Jt,Jx,Jy,Jz,J0,J1,J2,J5,J6,J7,J8,J9,Xa,Xb,Xc,Xd,Xe,Xf,Xg,Xj,Xk,Xl,Xm,Xn,Xo,Xp,Xq,Xr,Xs,Xt,Xu,Xv,Xw,Xx,Xy,X1,X2,X3,X4,X5,X6,X7,X8,We,Wf,Wg,Wh,Wi,Wj,Wl,Wm,Wn,Wo,Wp,Wq,Wr,Ws,Wt,Wu,Wv,Ww,Wx,Wy,Wz,W0,W3,W4,W5,W6,W7,W8,W9,Ya,Yb,Yc,Yd,Ye,Yf,Yg,Yh,Yi,Yj,Yk,Yl,Ym,Yn,Yo,Yr,Ys,Yt,Yu,Yv,Yw,Yx,Yy,Yz,Y1,Y2,Y3,Y4,Y5,Y6,Y7,Y8,Y9,Va,Vb,Vc,Vd,Ve,Vf,Vg,Vh,Vi,Vj,Vk,Vl,Vm,Vn,Vo,Vp,Vq,Vr,Vs,Vt,Vu,Vv,Vw,Vx,Vy,Vz,V0,V1,V2,V3,V4,V5,V6,V7,V8,V9,Ua,Ub,Uc,Ud,Ue,Uf,Ug,Uh,Ui,Uj,Uk,Ul,Um,Un,Uo,Up,Uq,Ur,Us,Ut,Uu,Uv,U1,U2,U5,U6,U7,U8,U9,Ka,Kb,Kc,Kd,Ke,Kf,Kg,Kh,Ki,Kj,Kk,Kl,Km,Kn,Ko,Kq,Kr,Ks,Kt,Ku,Kv,Kw,Kx,Ky,Kz,K0,K1,K2,K3,K4,K5,K6,K7,Gg,Gi,Gj,Gk,Gl,Gm,Gn,Gr,Gs,Hg,Nf,Hc,Hb,Nc,H2]
   tactic =>
    try simp only [G6] at *
    try simp only [nc2] at *
    try simp (maxSteps := 4000000) only [hs,szP,Hi]
    repeat' (first | with_reducible assumption | with_reducible refine And.intro ?_ ?_ | intro _ | omega | (rw [Gy]; omega))
    all_goals first
      | exact in5_mk ha hA
      | exact in5_mk hb hB
      | skip
    refine Ho [4, 10, 11, 12, 13, 14, 15, 16, 17, 18, 19, 20, 21, 22, 23, 24, 25, 26, 27, 28, 29, 30, 31, 32, 33, 34, 35, 36, 37, 38, 39, 40, 41] (fun k : Nat => [(5, .d (.int .i64 k))]) (fun k : Nat => []) (fun k : Nat => k ≤ a.length ∧ ∀ j, j < k → a.getD j e0 = b.getD j e0) (fun k : Nat => a.length - k) 0 ?_ ?_ ?_
    · simp
    · ((try simp only [G3, Ha, G5, Hf, upd, Hh, Hn, Na, Nat.reduceDiv, Nat.reduceMod, Nat.reduceMul, Nat.reduceAdd, Nat.reduceEqDiff, List.set_cons_zero, List.set_cons_succ, if_true, if_false, reduceIte]); (first | refine Wk.of_fl ?_ | skip); simp only [Wk, wkK, Nd, wkT, wk1, AV.kept, keptAll, wkO, lk, G4, and_true, true_and, and_self, Nat.reduceEqDiff, Nat.reduceLeDiff, if_true, if_false, reduceIte, reduceCtorEq, Option.isSome, false_implies]; try simp [Wk, wkK, wkT, wk1, AV.kept, keptAll, wkO, lk, G4])
    rintro k ⟨hk, hno⟩
    rcases Hq k a.length with ⟨hlt, hlb⟩ | ⟨hlt, hlb⟩
    · have hlt2 : k < b.length := by omega
      have q1 := H7 e0 hlt
      have q2 := H7 e0 hlt2
      obtain ⟨s1, s2⟩ := hA (a.getD k e0) (by simp [hlt])
      obtain ⟨s3, s4⟩ := hB (b.getD k e0) (by simp [hlt2])
      have hnk : C2 (a.getD k e0) = C2 (b.getD k e0) := by
        have h1 : (a.map C2).getD k e0 = (b.map C2).getD k e0 := by rw [hmap]
        simpa [hlt, hlt2] using h1
      have hbad : a.getD k e0 ≠ b.getD k e0 → R = false := by
        intro h
        rw [← hR, beq_eq_false_iff_ne]
        intro e
        exact h (by rw [e])
      have hyes : a.getD k e0 = b.getD k e0 → ∀ j, j < k + 1 → a.getD j e0 = b.getD j e0 := fun h => R9 hno h
      obtain ⟨Q, hQ⟩ : ∃ Q, (∀ j, j < k + 1 → a.getD j e0 = b.getD j e0) = Q := ⟨_, rfl⟩
      rw [hQ] at hyes
      obtain ⟨x, hx⟩ : ∃ x, a.getD k e0 = x := ⟨_, rfl⟩
      obtain ⟨y, hy⟩ : ∃ y, b.getD k e0 = y := ⟨_, rfl⟩
      rw [hx] at q1 s1 s2 hbad hyes hnk
      rw [hy] at q2 s3 s4 hbad hyes hnk
      have hxy : x = y ↔ ((x.t == y.t) && (x.u == y.u)) = true := by
        constructor
        · rintro rfl; simp
        · intro h
          rw [Bool.and_eq_true, beq_iff_eq, beq_iff_eq] at h
          cases x
          cases y
          unfold C2 at hnk
          simp only [Part.mk.injEq] at hnk h ⊢
          exact ⟨hnk.1, hnk.2.1, hnk.2.2.1, hnk.2.2.2.1, hnk.2.2.2.2.1, hnk.2.2.2.2.2.1, h.1, h.2⟩
      obtain ⟨b1, h1⟩ : ∃ b, (x.t == y.t) = b := ⟨_, rfl⟩
      obtain ⟨b2, h2⟩ : ∃ b, (x.u == y.u) = b := ⟨_, rfl⟩
      rw [h1, h2] at hxy
      rw [ne_eq, hxy] at hbad
      rw [hxy] at hyes
      clear hxy
      (sym =>
       simp [hlb,q1,q2,h1,h2,hR,Gz,szP,szN,ctx_One5_t,ctx_One5_c,ctx_One5_d,ctx_One5_b,ctx_One5_u,ctx_One5_w,Ma.eq_def,M0.eq_def,B3.eq_def,Za,Zb,Zc,Zd,Ze,Zf,Zg,Zh,Zi,Zj,Zk,Zl,Zm,Zn,Zo,Zp,Zq,Zr,Zs,Zt,Zv,Zx,Zy,Z5,Z8,Z9,Qa,Qb,Qc,Qd,Qe,Qf,Qg,Qk,Ql,Qm,Qn,Qo,Qp,Qq,Qr,Q0,Q1,Q4,Q5,Q6,Q8,Q9,Ja,Jf,Jh,Ji,Jj,Jk,Jl,Jt,Jx,Jy,Jz,J0,J1,J2,J5,J6,J7,J8,J9,Xa,Xb,Xc,Xd,Xe,Xf,Xg,Xj,Xk,Xl,Xm,Xn,Xo,Xp,Xq,Xr,Xs,Xt,Xu,Xv,Xw,Xx,Xy,X1,X2,X3,X4,X5,X6,X7,X8,We,Wf,Wg,Wh,Wi,Wj,Wl,Wm,Wn,Wo,Wp,Wq,Wr,Ws,Wt,Wu,Wv,Ww,Wx,Wy,Wz,W0,W3,W4,W5,W6,W7,W8,W9,Ya,Yb,Yc,Yd,Ye,Yf,Yg,Yh,Yi,Yj,Yk,Yl,Ym,Yn,Yo,Yr,Ys,Yt,Yu,Yv,Yw,Yx,Yy,Yz,Y1,Y2,Y3,Y4,Y5,Y6,Y7,Y8,Y9,Va,Vb,Vc,Vd,Ve,Vf,Vg,Vh,Vi,Vj,Vk,Vl,Vm,Vn,Vo,Vp,Vq,Vr,Vs,Vt,Vu,Vv,Vw,Vx,Vy,Vz,V0,V1,V2,V3,V4,V5,V6,V7,V8,V9,Ua,Ub,Uc,Ud,Ue,Uf,Ug,Uh,Ui,Uj,Uk,Ul,Um,Un,Uo,Up,Uq,Ur,Us,Ut,Uu,Uv,U1,U2,U5,U6,U7,U8,U9,Ka,Kb,Kc,Kd,Ke,Kf,Kg,Kh,Ki,Kj,Kk,Kl,Km,Kn,Ko,Kq,Kr,Ks,Kt,Ku,Kv,Kw,Kx,Ky,Kz,K0,K1,K2,K3,K4,K5,K6,K7,Gg,Gi,Gj,Gk,Gl,Gm,Gn,Gr,Gs,Hg,Nf,Hc,Hb,Nc,H2]
       tactic =>
        try simp only [G6] at *
        try simp only [nc2] at *
        try simp (maxSteps := 4000000) only [hlb,q1,q2,h1,h2,hR,Gz,szP,szN,Hi]
        repeat' (first | with_reducible assumption | with_reducible refine And.intro ?_ ?_ | intro _ | omega | (rw [Gy]; omega))
        all_goals first
          | (with_reducible refine Hu ?_; kernel_rfl)
          | omega
          | assumption
          | (symm; apply hbad; clear hbad hyes hno hR hQ q1 q2 K hA hB; simp_all; done)
          | (refine ⟨k + 1, by ((try simp only [G3, Ha, G5, Hf, upd, Hh, Hn, Na, Nat.reduceDiv, Nat.reduceMod, Nat.reduceMul, Nat.reduceAdd, Nat.reduceEqDiff, List.set_cons_zero, List.set_cons_succ, if_true, if_false, reduceIte]); (first | refine Wk.of_fl ?_ | skip); simp only [Wk, wkK, Nd, wkT, wk1, AV.kept, keptAll, wkO, lk, G4, and_true, true_and, and_self, Nat.reduceEqDiff, Nat.reduceLeDiff, if_true, if_false, reduceIte, reduceCtorEq, Option.isSome, false_implies]; try simp [Wk, wkK, wkT, wk1, AV.kept, keptAll, wkO, lk, G4]), by omega, Eq.mpr hQ (hyes ?_), by omega⟩; clear hbad hyes hno hR hQ q1 q2 K hA hB; simp_all; done)
          | skip)
    · have hr : R = true := by
        rw [← hR, beq_iff_eq]
        refine List.ext_getElem hne fun j h1 h2 => ?_
        have := hno j (by omega)
        simpa [h1, h2] using this
      subst hr
      (sym =>
       simp [hlb,hR,szP,ctx_One5_t,ctx_One5_c,ctx_One5_d,ctx_One5_b,ctx_One5_u,ctx_One5_w,Ma.eq_def,M0.eq_def,B3.eq_def,Za,Zb,Zc,Zd,Ze,Zf,Zg,Zh,Zi,Zj,Zk,Zl,Zm,Zn,Zo,Zp,Zq,Zr,Zs,Zt,Zv,Zx,Zy,Z5,Z8,Z9,Qa,Qb,Qc,Qd,Qe,Qf,Qg,Qk,Ql,Qm,Qn,Qo,Qp,Qq,Qr,Q0,Q1,Q4,Q5,Q6,Q8,Q9,Ja,Jf,Jh,Ji,Jj,Jk,Jl,Jt,Jx,Jy,Jz,J0,J1,J2,J5,J6,J7,J8,J9,Xa,Xb,Xc,Xd,Xe,Xf,Xg,Xj,Xk,Xl,Xm,Xn,Xo,Xp,Xq,Xr,Xs,Xt,Xu,Xv,Xw,Xx,Xy,X1,X2,X3,X4,X5,X6,X7,X8,We,Wf,Wg,Wh,Wi,Wj,Wl,Wm,Wn,Wo,Wp,Wq,Wr,Ws,Wt,Wu,Wv,Ww,Wx,Wy,Wz,W0,W3,W4,W5,W6,W7,W8,W9,Ya,Yb,Yc,Yd,Ye,Yf,Yg,Yh,Yi,Yj,Yk,Yl,Ym,Yn,Yo,Yr,Ys,Yt,Yu,Yv,Yw,Yx,Yy,Yz,Y1,Y2,Y3,Y4,Y5,Y6,Y7,Y8,Y9,Va,Vb,Vc,Vd,Ve,Vf,Vg,Vh,Vi,Vj,Vk,Vl,Vm,Vn,Vo,Vp,Vq,Vr,Vs,Vt,Vu,Vv,Vw,Vx,Vy,Vz,V0,V1,V2,V3,V4,V5,V6,V7,V8,V9,Ua,Ub,Uc,Ud,Ue,Uf,Ug,Uh,Ui,Uj,Uk,Ul,Um,Un,Uo,Up,Uq,Ur,Us,Ut,Uu,Uv,U1,U2,U5,U6,U7,U8,U9,Ka,Kb,Kc,Kd,Ke,Kf,Kg,Kh,Ki,Kj,Kk,Kl,Km,Kn,Ko,Kq,Kr,Ks,Kt,Ku,Kv,Kw,Kx,Ky,Kz,K0,K1,K2,K3,K4,K5,K6,K7,Gg,Gi,Gj,Gk,Gl,Gm,Gn,Gr,Gs,Hg,Nf,Hc,Hb,Nc,H2]))
def longP (n : Part) : Bool := ltB 100 n.label.length || (ltB 200 n.name.length || (ltB 100 n.bind.length || (ltB 60 n.t.length || ltB 60 n.u.length)))
def shortN (t : List Node) : Bool := t.all fun n => !ltB 100 n.name.length
def fewP (n : Part) : Bool := !longP n && (shortN n.t && shortN n.u)
def few5 (t : List Part) (most : Int) : Bool := (List.range t.length).all fun k => !((k : Int) == most) && fewP (t.getD k e0)
def N0 : Con := C0 (fun (t : Sl Part) (_ : Int) => t.l.length ≤ 9223372036854775807 ∧ ∀ p ∈ t.l, Fit5 p) (fun t m => few5 t.l m)
theorem shortN_at {t : List Node} {k : Nat} (h : k < t.length) (hb : ltB 100 (t.getD k n0).name.length = true) : shortN t = false := by
  unfold shortN
  exact Iz (p := fun n : Node => !ltB 100 n.name.length) n0 k h (by rw [hb]; rfl)
theorem shortN_all {t : List Node} (h : ∀ j, j < t.length → ltB 100 (t.getD j n0).name.length = false) : shortN t = true := by
  unfold shortN
  exact Eb (p := fun n : Node => !ltB 100 n.name.length) n0 fun j hj => by rw [h j hj]; rfl
noncomputable def Aw : Ctx := ⟨tab, lkC [], 60, lkB [], [], false⟩
theorem Se : Aw.τ = tab := rfl
theorem Sg : Aw.Γ = lkC [] := rfl
theorem Sf : Aw.dp = 60 := rfl
theorem Sh : Aw.Δ = lkB [] := rfl
theorem Sd : Aw.cuts = [] := rfl
theorem Sc : Aw.wr = false := rfl
set_option maxRecDepth 100000 in
theorem good_Few5 : M7 Try.prog (15, N0) := by
  refine ⟨He Try.func15 (by kernel_rfl) rfl, ?_⟩
  have K : Nh Try.prog Aw := Hl Ny Ht (by simp) (by simp)
  obtain ⟨c, hc⟩ : ∃ c, Try.f15.body = some c := ⟨_, rfl⟩
  refine Hm K Try.func15 hc [.tmp 4] rfl 104 rfl (fun cvs hpre => ?_)
  change N0.pre cvs at hpre
  unfold N0 at hpre
  obtain ⟨⟨t⟩, m, rfl, ht, hT⟩ := Mp hpre
  simp only at ht hT
  clear hpre
  obtain ⟨R, hR⟩ : ∃ R, few5 t m = R := ⟨_, rfl⟩
  have hR2 := hR
  unfold few5 at hR2
  simp only [Try.f15, Option.some.injEq] at hc
  subst hc
  refine Mn 6 (of_decide_eq_true (by kernel_rfl)) ?_
  (sym =>
   simp [szP,Se,Sg,Sf,Sh,Sd,Sc,N0.eq_def,Za,Zb,Zc,Zd,Ze,Zf,Zg,Zn,Zo,Zp,Zq,Zr,Zs,Zt,Zv,Zx,Zy,Z5,Qa,Qb,Qc,Qg,Qk,Ql,Qm,Qn,Qo,Qp,Qr,Q0,Q1,Q4,Q8,Ja,Jf,Jh,Ji,Jj,Jk,Jl,Jt,Jx,Jy,Jz,J0,J1,J2,J5,J6,J7,J8,J9,Xa,Xb,Xc,Xd,Xe,Xf,Xg,Xj,Xk,Xl,Xm,Xn,Xo,Xp,Xq,Xr,Xs,Xt,Xu,Xv,Xw,Xx,Xy,X1,X2,X3,X4,X5,X6,X7,X8,We,Wf,Wg,Wh,Wi,Wj,Wl,Wm,Wn,Wo,Wp,Ws,Wt,Wu,Wv,Ww,Wx,Wy,Wz,W0,W3,W4,W5,W6,W7,W8,W9,Ya,Yb,Yc,Yd,Ye,Yf,Yg,Yh,Yi,Yj,Yk,Yl,Ym,Yn,Yo,Yr,Ys,Yt,Yu,Yv,Yw,Yx,Yy,Yz,Y1,Y2,Y3,Y4,Y5,Y6,Y7,Y8,Y9,Va,Vb,Vc,Vd,Ve,Vf,Vg,Vh,Vi,Vj,Vk,Vl,Vm,Vn,Vo,Vp,Vq,Vr,Vs,Vt,Vu,Vv,Vw,Vx,Vy,Vz,V0,V1,V2,V3,V4,V5,V6,V7,V8,V9,Ua,Ub,Uc,Ud,Ue,Uf,Ug,Uh,Ui,Uj,Uk,Ul,Um,Un,Uo,Up,Uq,Ur,Us,Ut,Uu,Uv,U1,U2,U5,U6,U7,U8,U9,Ka,Kb,Kc,Kd,Ke,Kf,Kg,Kh,Ki,Kj,Kk,Kl,Km,Kn,Ko,Kq,Kr,Ks,Kt,Ku,Kv,Kw,Kx,Ky,Kz,K0,K1,K2,K3,K4,K5,K6,K7,Gg,Gi,Gj,Gk,Gl,Gm,Gn,Gr,Hg,H3,Hc,Hb,Nc,H2]
   tactic =>
    try simp only [G6] at *
    try simp only [nc2] at *
    try simp (maxSteps := 4000000) only [szP,Hi]
    repeat' (first | with_reducible assumption | with_reducible refine And.intro ?_ ?_ | intro _ | omega | (rw [Gy]; omega))
    refine Ho [4, 6, 7, 8, 9, 10, 11, 12, 13, 14, 15, 16, 17, 18, 19, 20, 21, 22, 23, 24, 25, 26, 27, 28, 29, 30, 31, 32, 33, 34, 35, 36, 37, 38, 39, 40, 41, 42, 43, 44, 45, 46, 47, 48, 49, 50, 51, 52, 53, 54, 55, 56, 57, 58, 59, 60, 61, 62, 63, 64, 65, 66, 67, 68, 69, 70, 71, 72, 73, 74, 75, 76, 77, 78, 79, 80, 81, 82, 83, 84, 85, 86, 87, 88, 89, 90, 91, 92, 93, 94, 95, 96, 97, 98, 99, 100, 101, 102, 103] (fun k : Nat => [(5, .d (.int .i64 k))]) (fun k : Nat => []) (fun k : Nat => k ≤ t.length ∧ ∀ j, j < k → (!((j : Int) == m) && fewP (t.getD j e0)) = true) (fun k : Nat => t.length - k) 0 ?_ ?_ ?_
    · simp
    · ((try simp only [G3, Ha, G5, Hf, upd, Hh, Hn, Na, Nat.reduceDiv, Nat.reduceMod, Nat.reduceMul, Nat.reduceAdd, Nat.reduceEqDiff, List.set_cons_zero, List.set_cons_succ, if_true, if_false, reduceIte]); (first | refine Wk.of_fl ?_ | skip); simp only [Wk, wkK, Nd, wkT, wk1, AV.kept, keptAll, wkO, lk, G4, and_true, true_and, and_self, Nat.reduceEqDiff, Nat.reduceLeDiff, if_true, if_false, reduceIte, reduceCtorEq, Option.isSome, false_implies]; try simp [Wk, wkK, wkT, wk1, AV.kept, keptAll, wkO, lk, G4])
    rintro k ⟨hk, hno⟩
    rcases Hq k t.length with ⟨hlt, hlb⟩ | ⟨hlt, hlb⟩
    · have q1 := H7 e0 hlt
      obtain ⟨⟨f1, f2⟩, ⟨f3, f4⟩, f5, f6, f7⟩ := hT (t.getD k e0) (by simp [hlt])
      have hbad : (!((k : Int) == m) && fewP (t.getD k e0)) = false → R = false := fun h => by
        rw [← hR2]; exact C3 k hlt h
      have hyes : (!((k : Int) == m) && fewP (t.getD k e0)) = true → ∀ j, j < k + 1 → (!((j : Int) == m) && fewP (t.getD j e0)) = true := fun h => R9 hno h
      obtain ⟨Q, hQ⟩ : ∃ Q, (∀ j, j < k + 1 → (!((j : Int) == m) && fewP (t.getD j e0)) = true) = Q := ⟨_, rfl⟩
      rw [hQ] at hyes
      obtain ⟨x, hx⟩ : ∃ x, t.getD k e0 = x := ⟨_, rfl⟩
      rw [hx] at q1 f1 f2 f3 f4 f5 f6 f7 hbad hyes
      unfold fewP longP at hbad hyes
      obtain ⟨b0, h0⟩ : ∃ b, ((k : Int) == m) = b := ⟨_, rfl⟩
      obtain ⟨b1, h1⟩ : ∃ b, ltB 100 x.label.length = b := ⟨_, rfl⟩
      obtain ⟨b2, h2⟩ : ∃ b, ltB 200 x.name.length = b := ⟨_, rfl⟩
      obtain ⟨b3, h3⟩ : ∃ b, ltB 100 x.bind.length = b := ⟨_, rfl⟩
      obtain ⟨b4, h4⟩ : ∃ b, ltB 60 x.t.length = b := ⟨_, rfl⟩
      obtain ⟨b5, h5⟩ : ∃ b, ltB 60 x.u.length = b := ⟨_, rfl⟩
      rw [h0, h1, h2, h3, h4, h5] at hbad hyes
      cases hl : b0 || (b1 || (b2 || (b3 || (b4 || b5)))) with
      | true =>
        have hr := hbad (by clear hbad hyes hno hR hR2 hQ q1; revert hl; cases b0 <;> cases b1 <;> cases b2 <;> cases b3 <;> cases b4 <;> cases b5 <;> simp)
        subst hr
        clear hbad hyes
        (sym =>
         simp [hlb,q1,h0,h1,h2,h3,h4,h5,hR,Gz,szP,szN,Se,Sg,Sf,Sh,Sd,Sc,N0.eq_def,Za,Zb,Zc,Zd,Ze,Zf,Zg,Zn,Zo,Zp,Zq,Zr,Zs,Zt,Zv,Zx,Zy,Z5,Qa,Qb,Qc,Qg,Qk,Ql,Qm,Qn,Qo,Qp,Qr,Q0,Q1,Q4,Q8,Ja,Jf,Jh,Ji,Jj,Jk,Jl,Jt,Jx,Jy,Jz,J0,J1,J2,J5,J6,J7,J8,J9,Xa,Xb,Xc,Xd,Xe,Xf,Xg,Xj,Xk,Xl,Xm,Xn,Xo,Xp,Xq,Xr,Xs,Xt,Xu,Xv,Xw,Xx,Xy,X1,X2,X3,X4,X5,X6,X7,X8,We,Wf,Wg,Wh,Wi,Wj,Wl,Wm,Wn,Wo,Wp,Ws,Wt,Wu,Wv,Ww,Wx,Wy,Wz,W0,W3,W4,W5,W6,W7,W8,W9,Ya,Yb,Yc,Yd,Ye,Yf,Yg,Yh,Yi,Yj,Yk,Yl,Ym,Yn,Yo,Yr,Ys,Yt,Yu,Yv,Yw,Yx,Yy,Yz,Y1,Y2,Y3,Y4,Y5,Y6,Y7,Y8,Y9,Va,Vb,Vc,Vd,Ve,Vf,Vg,Vh,Vi,Vj,Vk,Vl,Vm,Vn,Vo,Vp,Vq,Vr,Vs,Vt,Vu,Vv,Vw,Vx,Vy,Vz,V0,V1,V2,V3,V4,V5,V6,V7,V8,V9,Ua,Ub,Uc,Ud,Ue,Uf,Ug,Uh,Ui,Uj,Uk,Ul,Um,Un,Uo,Up,Uq,Ur,Us,Ut,Uu,Uv,U1,U2,U5,U6,U7,U8,U9,Ka,Kb,Kc,Kd,Ke,Kf,Kg,Kh,Ki,Kj,Kk,Kl,Km,Kn,Ko,Kq,Kr,Ks,Kt,Ku,Kv,Kw,Kx,Ky,Kz,K0,K1,K2,K3,K4,K5,K6,K7,Gg,Gi,Gj,Gk,Gl,Gm,Gn,Gr,Hg,H3,Hc,Hb,Nc,H2]
         tactic =>
          try simp only [G6] at *
          try simp only [nc2] at *
          try simp (maxSteps := 4000000) only [hlb,q1,h0,h1,h2,h3,h4,h5,hR,Gz,szP,szN,Hi]
          repeat' (first | with_reducible assumption | with_reducible refine And.intro ?_ ?_ | intro _ | omega | (rw [Gy]; omega))
          all_goals first
            | (with_reducible refine Hu ?_; kernel_rfl)
            | omega
            | assumption
            | trivial
            | rfl
            | (exfalso; clear hno hR hR2 hQ q1 K hT; simp_all; done)
            | skip)
      | false =>
        simp only [Bool.or_eq_false_iff] at hl
        obtain ⟨rfl, rfl, rfl, rfl, rfl, rfl⟩ := hl
        (sym =>
         simp [hlb,q1,h0,h1,h2,h3,h4,h5,Gz,szP,szN,Se,Sg,Sf,Sh,Sd,Sc,N0.eq_def,Za,Zb,Zc,Zd,Ze,Zf,Zg,Zn,Zo,Zp,Zq,Zr,Zs,Zt,Zv,Zx,Zy,Z5,Qa,Qb,Qc,Qg,Qk,Ql,Qm,Qn,Qo,Qp,Qr,Q0,Q1,Q4,Q8,Ja,Jf,Jh,Ji,Jj,Jk,Jl,Jt,Jx,Jy,Jz,J0,J1,J2,J5,J6,J7,J8,J9,Xa,Xb,Xc,Xd,Xe,Xf,Xg,Xj,Xk,Xl,Xm,Xn,Xo,Xp,Xq,Xr,Xs,Xt,Xu,Xv,Xw,Xx,Xy,X1,X2,X3,X4,X5,X6,X7,X8,We,Wf,Wg,Wh,Wi,Wj,Wl,Wm,Wn,Wo,Wp,Ws,Wt,Wu,Wv,Ww,Wx,Wy,Wz,W0,W3,W4,W5,W6,W7,W8,W9,Ya,Yb,Yc,Yd,Ye,Yf,Yg,Yh,Yi,Yj,Yk,Yl,Ym,Yn,Yo,Yr,Ys,Yt,Yu,Yv,Yw,Yx,Yy,Yz,Y1,Y2,Y3,Y4,Y5,Y6,Y7,Y8,Y9,Va,Vb,Vc,Vd,Ve,Vf,Vg,Vh,Vi,Vj,Vk,Vl,Vm,Vn,Vo,Vp,Vq,Vr,Vs,Vt,Vu,Vv,Vw,Vx,Vy,Vz,V0,V1,V2,V3,V4,V5,V6,V7,V8,V9,Ua,Ub,Uc,Ud,Ue,Uf,Ug,Uh,Ui,Uj,Uk,Ul,Um,Un,Uo,Up,Uq,Ur,Us,Ut,Uu,Uv,U1,U2,U5,U6,U7,U8,U9,Ka,Kb,Kc,Kd,Ke,Kf,Kg,Kh,Ki,Kj,Kk,Kl,Km,Kn,Ko,Kq,Kr,Ks,Kt,Ku,Kv,Kw,Kx,Ky,Kz,K0,K1,K2,K3,K4,K5,K6,K7,Gg,Gi,Gj,Gk,Gl,Gm,Gn,Gr,Hg,H3,Hc,Hb,Nc,H2]
         tactic =>
          try simp only [G6] at *
          try simp only [nc2] at *
          try simp (maxSteps := 4000000) only [hlb,q1,h0,h1,h2,h3,h4,h5,Gz,szP,szN,Hi]
          repeat' (first | with_reducible assumption | with_reducible refine And.intro ?_ ?_ | intro _ | omega | (rw [Gy]; omega))
          refine Ho [4, 62, 63, 64, 65, 66, 67, 68, 69, 70, 71, 72, 73, 74, 75, 76, 77, 78, 79, 80, 81, 82] (fun i : Nat => [(6, .d (.int .i64 i))]) (fun i : Nat => []) (fun i : Nat => i ≤ x.t.length ∧ ∀ j, j < i → ltB 100 (x.t.getD j n0).name.length = false) (fun i : Nat => x.t.length - i) 0 ?_ ?_ ?_
          · simp
          · ((try simp only [G3, Ha, G5, Hf, upd, Hh, Hn, Na, Nat.reduceDiv, Nat.reduceMod, Nat.reduceMul, Nat.reduceAdd, Nat.reduceEqDiff, List.set_cons_zero, List.set_cons_succ, if_true, if_false, reduceIte]); (first | refine Wk.of_fl ?_ | skip); simp only [Wk, wkK, Nd, wkT, wk1, AV.kept, keptAll, wkO, lk, G4, and_true, true_and, and_self, Nat.reduceEqDiff, Nat.reduceLeDiff, if_true, if_false, reduceIte, reduceCtorEq, Option.isSome, false_implies]; try simp [Wk, wkK, wkT, wk1, AV.kept, keptAll, wkO, lk, G4])
          rintro i ⟨hi, hni⟩
          rcases Hq i x.t.length with ⟨hit, hib⟩ | ⟨hit, hib⟩
          · have r1 := H7 n0 hit
            have hbi : ltB 100 (x.t.getD i n0).name.length = true → R = false := fun h => hbad (by rw [shortN_at hit h]; rfl)
            have hsi : ltB 100 (x.t.getD i n0).name.length = false → ∀ j, j < i + 1 → ltB 100 (x.t.getD j n0).name.length = false := fun h => R9 hni h
            have hnm := f2 _ (show x.t.getD i n0 ∈ x.t by simp [hit])
            obtain ⟨y, hy⟩ : ∃ y, x.t.getD i n0 = y := ⟨_, rfl⟩
            rw [hy] at r1 hbi hsi hnm
            obtain ⟨b, hb⟩ : ∃ b, ltB 100 y.name.length = b := ⟨_, rfl⟩
            rw [hb] at hbi hsi
            cases b with
            | true =>
              have hr := hbi rfl
              subst hr
              (sym =>
               simp [hlb,q1,hib,r1,hb,hR,Gz,szP,Gt,Gv,Gx,Gu,szN,Gw,Se,Sg,Sf,Sh,Sd,Sc,N0.eq_def,Za,Zb,Zc,Zd,Ze,Zf,Zg,Zn,Zo,Zp,Zq,Zr,Zs,Zt,Zv,Zx,Zy,Z5,Qa,Qb,Qc,Qg,Qk,Ql,Qm,Qn,Qo,Qp,Qr,Q0,Q1,Q4,Q8,Ja,Jf,Jh,Ji,Jj,Jk,Jl,Jt,Jx,Jy,Jz,J0,J1,J2,J5,J6,J7,J8,J9,Xa,Xb,Xc,Xd,Xe,Xf,Xg,Xj,Xk,Xl,Xm,Xn,Xo,Xp,Xq,Xr,Xs,Xt,Xu,Xv,Xw,Xx,Xy,X1,X2,X3,X4,X5,X6,X7,X8,We,Wf,Wg,Wh,Wi,Wj,Wl,Wm,Wn,Wo,Wp,Ws,Wt,Wu,Wv,Ww,Wx,Wy,Wz,W0,W3,W4,W5,W6,W7,W8,W9,Ya,Yb,Yc,Yd,Ye,Yf,Yg,Yh,Yi,Yj,Yk,Yl,Ym,Yn,Yo,Yr,Ys,Yt,Yu,Yv,Yw,Yx,Yy,Yz,Y1,Y2,Y3,Y4,Y5,Y6,Y7,Y8,Y9,Va,Vb,Vc,Vd,Ve,Vf,Vg,Vh,Vi,Vj,Vk,Vl,Vm,Vn,Vo,Vp,Vq,Vr,Vs,Vt,Vu,Vv,Vw,Vx,Vy,Vz,V0,V1,V2,V3,V4,V5,V6,V7,V8,V9,Ua,Ub,Uc,Ud,Ue,Uf,Ug,Uh,Ui,Uj,Uk,Ul,Um,Un,Uo,Up,Uq,Ur,Us,Ut,Uu,Uv,U1,U2,U5,U6,U7,U8,U9,Ka,Kb,Kc,Kd,Ke,Kf,Kg,Kh,Ki,Kj,Kk,Kl,Km,Kn,Ko,Kq,Kr,Ks,Kt,Ku,Kv,Kw,Kx,Ky,Kz,K0,K1,K2,K3,K4,K5,K6,K7,Gg,Gi,Gj,Gk,Gl,Gm,Gn,Gr,Hg,H3,Hc,Hb,Nc,H2]
               tactic =>
                try simp only [G6] at *
                try simp only [nc2] at *
                try simp (maxSteps := 4000000) only [hlb,q1,hib,r1,hb,hR,Gz,szP,Gt,Gv,Gx,Gu,szN,Gw,Hi]
                repeat' (first | with_reducible assumption | with_reducible refine And.intro ?_ ?_ | intro _ | omega | (rw [Gy]; omega))
                all_goals first
                  | (with_reducible refine Hu ?_; kernel_rfl)
                  | omega
                  | rfl
                  | skip)
            | false =>
              have h2 := hsi rfl
              (sym =>
               simp [hlb,q1,hib,r1,hb,Gz,szP,Gt,Gv,Gx,Gu,szN,Gw,Se,Sg,Sf,Sh,Sd,Sc,N0.eq_def,Za,Zb,Zc,Zd,Ze,Zf,Zg,Zn,Zo,Zp,Zq,Zr,Zs,Zt,Zv,Zx,Zy,Z5,Qa,Qb,Qc,Qg,Qk,Ql,Qm,Qn,Qo,Qp,Qr,Q0,Q1,Q4,Q8,Ja,Jf,Jh,Ji,Jj,Jk,Jl,Jt,Jx,Jy,Jz,J0,J1,J2,J5,J6,J7,J8,J9,Xa,Xb,Xc,Xd,Xe,Xf,Xg,Xj,Xk,Xl,Xm,Xn,Xo,Xp,Xq,Xr,Xs,Xt,Xu,Xv,Xw,Xx,Xy,X1,X2,X3,X4,X5,X6,X7,X8,We,Wf,Wg,Wh,Wi,Wj,Wl,Wm,Wn,Wo,Wp,Ws,Wt,Wu,Wv,Ww,Wx,Wy,Wz,W0,W3,W4,W5,W6,W7,W8,W9,Ya,Yb,Yc,Yd,Ye,Yf,Yg,Yh,Yi,Yj,Yk,Yl,Ym,Yn,Yo,Yr,Ys,Yt,Yu,Yv,Yw,Yx,Yy,Yz,Y1,Y2,Y3,Y4,Y5,Y6,Y7,Y8,Y9,Va,Vb,Vc,Vd,Ve,Vf,Vg,Vh,Vi,Vj,Vk,Vl,Vm,Vn,Vo,Vp,Vq,Vr,Vs,Vt,Vu,Vv,Vw,Vx,Vy,Vz,V0,V1,V2,V3,V4,V5,V6,V7,V8,V9,Ua,Ub,Uc,Ud,Ue,Uf,Ug,Uh,Ui,Uj,Uk,Ul,Um,Un,Uo,Up,Uq,Ur,Us,Ut,Uu,Uv,U1,U2,U5,U6,U7,U8,U9,Ka,Kb,Kc,Kd,Ke,Kf,Kg,Kh,Ki,Kj,Kk,Kl,Km,Kn,Ko,Kq,Kr,Ks,Kt,Ku,Kv,Kw,Kx,Ky,Kz,K0,K1,K2,K3,K4,K5,K6,K7,Gg,Gi,Gj,Gk,Gl,Gm,Gn,Gr,Hg,H3,Hc,Hb,Nc,H2]
               tactic =>
                try simp only [G6] at *
                try simp only [nc2] at *
                try simp (maxSteps := 4000000) only [hlb,q1,hib,r1,hb,Gz,szP,Gt,Gv,Gx,Gu,szN,Gw,Hi]
                repeat' (first | with_reducible assumption | with_reducible refine And.intro ?_ ?_ | intro _ | omega | (rw [Gy]; omega))
                all_goals first
                  | (with_reducible refine Hu ?_; kernel_rfl)
                  | omega
                  | exact ⟨i + 1, by ((try simp only [G3, Ha, G5, Hf, upd, Hh, Hn, Na, Nat.reduceDiv, Nat.reduceMod, Nat.reduceMul, Nat.reduceAdd, Nat.reduceEqDiff, List.set_cons_zero, List.set_cons_succ, if_true, if_false, reduceIte]); (first | refine Wk.of_fl ?_ | skip); simp only [Wk, wkK, Nd, wkT, wk1, AV.kept, keptAll, wkO, lk, G4, and_true, true_and, and_self, Nat.reduceEqDiff, Nat.reduceLeDiff, if_true, if_false, reduceIte, reduceCtorEq, Option.isSome, false_implies]; try simp [Wk, wkK, wkT, wk1, AV.kept, keptAll, wkO, lk, G4]), by omega, fun j hj => by have h3 := h2 j hj; rw [Me] at h3; exact h3, by omega⟩
                  | skip)
          · have hst : shortN x.t = true := shortN_all fun j hj => hni j (by omega)
            rw [hst] at hbad hyes
            (sym =>
             simp [hlb,q1,hib,Gz,szP,Gt,Gv,Gx,Gu,szN,Gw,Se,Sg,Sf,Sh,Sd,Sc,N0.eq_def,Za,Zb,Zc,Zd,Ze,Zf,Zg,Zn,Zo,Zp,Zq,Zr,Zs,Zt,Zv,Zx,Zy,Z5,Qa,Qb,Qc,Qg,Qk,Ql,Qm,Qn,Qo,Qp,Qr,Q0,Q1,Q4,Q8,Ja,Jf,Jh,Ji,Jj,Jk,Jl,Jt,Jx,Jy,Jz,J0,J1,J2,J5,J6,J7,J8,J9,Xa,Xb,Xc,Xd,Xe,Xf,Xg,Xj,Xk,Xl,Xm,Xn,Xo,Xp,Xq,Xr,Xs,Xt,Xu,Xv,Xw,Xx,Xy,X1,X2,X3,X4,X5,X6,X7,X8,We,Wf,Wg,Wh,Wi,Wj,Wl,Wm,Wn,Wo,Wp,Ws,Wt,Wu,Wv,Ww,Wx,Wy,Wz,W0,W3,W4,W5,W6,W7,W8,W9,Ya,Yb,Yc,Yd,Ye,Yf,Yg,Yh,Yi,Yj,Yk,Yl,Ym,Yn,Yo,Yr,Ys,Yt,Yu,Yv,Yw,Yx,Yy,Yz,Y1,Y2,Y3,Y4,Y5,Y6,Y7,Y8,Y9,Va,Vb,Vc,Vd,Ve,Vf,Vg,Vh,Vi,Vj,Vk,Vl,Vm,Vn,Vo,Vp,Vq,Vr,Vs,Vt,Vu,Vv,Vw,Vx,Vy,Vz,V0,V1,V2,V3,V4,V5,V6,V7,V8,V9,Ua,Ub,Uc,Ud,Ue,Uf,Ug,Uh,Ui,Uj,Uk,Ul,Um,Un,Uo,Up,Uq,Ur,Us,Ut,Uu,Uv,U1,U2,U5,U6,U7,U8,U9,Ka,Kb,Kc,Kd,Ke,Kf,Kg,Kh,Ki,Kj,Kk,Kl,Km,Kn,Ko,Kq,Kr,Ks,Kt,Ku,Kv,Kw,Kx,Ky,Kz,K0,K1,K2,K3,K4,K5,K6,K7,Gg,Gi,Gj,Gk,Gl,Gm,Gn,Gr,Hg,H3,Hc,Hb,Nc,H2]
             tactic =>
              try simp only [G6] at *
              try simp only [nc2] at *
              try simp (maxSteps := 4000000) only [hlb,q1,hib,Gz,szP,Gt,Gv,Gx,Gu,szN,Gw,Hi]
              repeat' (first | with_reducible assumption | with_reducible refine And.intro ?_ ?_ | intro _ | omega | (rw [Gy]; omega))
              refine Ho [4, 83, 84, 85, 86, 87, 88, 89, 90, 91, 92, 93, 94, 95, 96, 97, 98, 99, 100, 101, 102, 103] (fun i : Nat => [(7, .d (.int .i64 i))]) (fun i : Nat => []) (fun i : Nat => i ≤ x.u.length ∧ ∀ j, j < i → ltB 100 (x.u.getD j n0).name.length = false) (fun i : Nat => x.u.length - i) 0 ?_ ?_ ?_
              · simp
              · ((try simp only [G3, Ha, G5, Hf, upd, Hh, Hn, Na, Nat.reduceDiv, Nat.reduceMod, Nat.reduceMul, Nat.reduceAdd, Nat.reduceEqDiff, List.set_cons_zero, List.set_cons_succ, if_true, if_false, reduceIte]); (first | refine Wk.of_fl ?_ | skip); simp only [Wk, wkK, Nd, wkT, wk1, AV.kept, keptAll, wkO, lk, G4, and_true, true_and, and_self, Nat.reduceEqDiff, Nat.reduceLeDiff, if_true, if_false, reduceIte, reduceCtorEq, Option.isSome, false_implies]; try simp [Wk, wkK, wkT, wk1, AV.kept, keptAll, wkO, lk, G4])
              rintro i2 ⟨hi2, hni2⟩
              rcases Hq i2 x.u.length with ⟨hit2, hib2⟩ | ⟨hit2, hib2⟩
              · have r1 := H7 n0 hit2
                have hbi : ltB 100 (x.u.getD i2 n0).name.length = true → R = false := fun h => hbad (by rw [shortN_at hit2 h]; rfl)
                have hsi : ltB 100 (x.u.getD i2 n0).name.length = false → ∀ j, j < i2 + 1 → ltB 100 (x.u.getD j n0).name.length = false := fun h => R9 hni2 h
                have hnm := f4 _ (show x.u.getD i2 n0 ∈ x.u by simp [hit2])
                obtain ⟨y, hy⟩ : ∃ y, x.u.getD i2 n0 = y := ⟨_, rfl⟩
                rw [hy] at r1 hbi hsi hnm
                obtain ⟨b, hb⟩ : ∃ b, ltB 100 y.name.length = b := ⟨_, rfl⟩
                rw [hb] at hbi hsi
                cases b with
                | true =>
                  have hr := hbi rfl
                  subst hr
                  (sym =>
                   simp [hlb,q1,hib2,r1,hb,hR,Gz,szP,Gt,Gv,Gx,Gu,szN,Gw,Se,Sg,Sf,Sh,Sd,Sc,N0.eq_def,Za,Zb,Zc,Zd,Ze,Zf,Zg,Zn,Zo,Zp,Zq,Zr,Zs,Zt,Zv,Zx,Zy,Z5,Qa,Qb,Qc,Qg,Qk,Ql,Qm,Qn,Qo,Qp,Qr,Q0,Q1,Q4,Q8,Ja,Jf,Jh,Ji,Jj,Jk,Jl,Jt,Jx,Jy,Jz,J0,J1,J2,J5,J6,J7,J8,J9,Xa,Xb,Xc,Xd,Xe,Xf,Xg,Xj,Xk,Xl,Xm,Xn,Xo,Xp,Xq,Xr,Xs,Xt,Xu,Xv,Xw,Xx,Xy,X1,X2,X3,X4,X5,X6,X7,X8,We,Wf,Wg,Wh,Wi,Wj,Wl,Wm,Wn,Wo,Wp,Ws,Wt,Wu,Wv,Ww,Wx,Wy,Wz,W0,W3,W4,W5,W6,W7,W8,W9,Ya,Yb,Yc,Yd,Ye,Yf,Yg,Yh,Yi,Yj,Yk,Yl,Ym,Yn,Yo,Yr,Ys,Yt,Yu,Yv,Yw,Yx,Yy,Yz,Y1,Y2,Y3,Y4,Y5,Y6,Y7,Y8,Y9,Va,Vb,Vc,Vd,Ve,Vf,Vg,Vh,Vi,Vj,Vk,Vl,Vm,Vn,Vo,Vp,Vq,Vr,Vs,Vt,Vu,Vv,Vw,Vx,Vy,Vz,V0,V1,V2,V3,V4,V5,V6,V7,V8,V9,Ua,Ub,Uc,Ud,Ue,Uf,Ug,Uh,Ui,Uj,Uk,Ul,Um,Un,Uo,Up,Uq,Ur,Us,Ut,Uu,Uv,U1,U2,U5,U6,U7,U8,U9,Ka,Kb,Kc,Kd,Ke,Kf,Kg,Kh,Ki,Kj,Kk,Kl,Km,Kn,Ko,Kq,Kr,Ks,Kt,Ku,Kv,Kw,Kx,Ky,Kz,K0,K1,K2,K3,K4,K5,K6,K7,Gg,Gi,Gj,Gk,Gl,Gm,Gn,Gr,Hg,H3,Hc,Hb,Nc,H2]
                   tactic =>
                    try simp only [G6] at *
                    try simp only [nc2] at *
                    try simp (maxSteps := 4000000) only [hlb,q1,hib2,r1,hb,hR,Gz,szP,Gt,Gv,Gx,Gu,szN,Gw,Hi]
                    repeat' (first | with_reducible assumption | with_reducible refine And.intro ?_ ?_ | intro _ | omega | (rw [Gy]; omega))
                    all_goals first
                      | (with_reducible refine Hu ?_; kernel_rfl)
                      | omega
                      | rfl
                      | skip)
                | false =>
                  have h2 := hsi rfl
                  (sym =>
                   simp [hlb,q1,hib2,r1,hb,Gz,szP,Gt,Gv,Gx,Gu,szN,Gw,Se,Sg,Sf,Sh,Sd,Sc,N0.eq_def,Za,Zb,Zc,Zd,Ze,Zf,Zg,Zn,Zo,Zp,Zq,Zr,Zs,Zt,Zv,Zx,Zy,Z5,Qa,Qb,Qc,Qg,Qk,Ql,Qm,Qn,Qo,Qp,Qr,Q0,Q1,Q4,Q8,Ja,Jf,Jh,Ji,Jj,Jk,Jl,Jt,Jx,Jy,Jz,J0,J1,J2,J5,J6,J7,J8,J9,Xa,Xb,Xc,Xd,Xe,Xf,Xg,Xj,Xk,Xl,Xm,Xn,Xo,Xp,Xq,Xr,Xs,Xt,Xu,Xv,Xw,Xx,Xy,X1,X2,X3,X4,X5,X6,X7,X8,We,Wf,Wg,Wh,Wi,Wj,Wl,Wm,Wn,Wo,Wp,Ws,Wt,Wu,Wv,Ww,Wx,Wy,Wz,W0,W3,W4,W5,W6,W7,W8,W9,Ya,Yb,Yc,Yd,Ye,Yf,Yg,Yh,Yi,Yj,Yk,Yl,Ym,Yn,Yo,Yr,Ys,Yt,Yu,Yv,Yw,Yx,Yy,Yz,Y1,Y2,Y3,Y4,Y5,Y6,Y7,Y8,Y9,Va,Vb,Vc,Vd,Ve,Vf,Vg,Vh,Vi,Vj,Vk,Vl,Vm,Vn,Vo,Vp,Vq,Vr,Vs,Vt,Vu,Vv,Vw,Vx,Vy,Vz,V0,V1,V2,V3,V4,V5,V6,V7,V8,V9,Ua,Ub,Uc,Ud,Ue,Uf,Ug,Uh,Ui,Uj,Uk,Ul,Um,Un,Uo,Up,Uq,Ur,Us,Ut,Uu,Uv,U1,U2,U5,U6,U7,U8,U9,Ka,Kb,Kc,Kd,Ke,Kf,Kg,Kh,Ki,Kj,Kk,Kl,Km,Kn,Ko,Kq,Kr,Ks,Kt,Ku,Kv,Kw,Kx,Ky,Kz,K0,K1,K2,K3,K4,K5,K6,K7,Gg,Gi,Gj,Gk,Gl,Gm,Gn,Gr,Hg,H3,Hc,Hb,Nc,H2]
                   tactic =>
                    try simp only [G6] at *
                    try simp only [nc2] at *
                    try simp (maxSteps := 4000000) only [hlb,q1,hib2,r1,hb,Gz,szP,Gt,Gv,Gx,Gu,szN,Gw,Hi]
                    repeat' (first | with_reducible assumption | with_reducible refine And.intro ?_ ?_ | intro _ | omega | (rw [Gy]; omega))
                    all_goals first
                      | (with_reducible refine Hu ?_; kernel_rfl)
                      | omega
                      | exact ⟨i2 + 1, by ((try simp only [G3, Ha, G5, Hf, upd, Hh, Hn, Na, Nat.reduceDiv, Nat.reduceMod, Nat.reduceMul, Nat.reduceAdd, Nat.reduceEqDiff, List.set_cons_zero, List.set_cons_succ, if_true, if_false, reduceIte]); (first | refine Wk.of_fl ?_ | skip); simp only [Wk, wkK, Nd, wkT, wk1, AV.kept, keptAll, wkO, lk, G4, and_true, true_and, and_self, Nat.reduceEqDiff, Nat.reduceLeDiff, if_true, if_false, reduceIte, reduceCtorEq, Option.isSome, false_implies]; try simp [Wk, wkK, wkT, wk1, AV.kept, keptAll, wkO, lk, G4]), by omega, fun j hj => by have h3 := h2 j hj; rw [Me] at h3; exact h3, by omega⟩
                      | skip)
              · have hsu : shortN x.u = true := shortN_all fun j hj => hni2 j (by omega)
                have hq := hyes (by rw [hsu]; rfl)
                (sym =>
                 simp [hlb,q1,hib2,Gz,szP,Gt,Gv,Gx,Gu,szN,Gw,Se,Sg,Sf,Sh,Sd,Sc,N0.eq_def,Za,Zb,Zc,Zd,Ze,Zf,Zg,Zn,Zo,Zp,Zq,Zr,Zs,Zt,Zv,Zx,Zy,Z5,Qa,Qb,Qc,Qg,Qk,Ql,Qm,Qn,Qo,Qp,Qr,Q0,Q1,Q4,Q8,Ja,Jf,Jh,Ji,Jj,Jk,Jl,Jt,Jx,Jy,Jz,J0,J1,J2,J5,J6,J7,J8,J9,Xa,Xb,Xc,Xd,Xe,Xf,Xg,Xj,Xk,Xl,Xm,Xn,Xo,Xp,Xq,Xr,Xs,Xt,Xu,Xv,Xw,Xx,Xy,X1,X2,X3,X4,X5,X6,X7,X8,We,Wf,Wg,Wh,Wi,Wj,Wl,Wm,Wn,Wo,Wp,Ws,Wt,Wu,Wv,Ww,Wx,Wy,Wz,W0,W3,W4,W5,W6,W7,W8,W9,Ya,Yb,Yc,Yd,Ye,Yf,Yg,Yh,Yi,Yj,Yk,Yl,Ym,Yn,Yo,Yr,Ys,Yt,Yu,Yv,Yw,Yx,Yy,Yz,Y1,Y2,Y3,Y4,Y5,Y6,Y7,Y8,Y9,Va,Vb,Vc,Vd,Ve,Vf,Vg,Vh,Vi,Vj,Vk,Vl,Vm,Vn,Vo,Vp,Vq,Vr,Vs,Vt,Vu,Vv,Vw,Vx,Vy,Vz,V0,V1,V2,V3,V4,V5,V6,V7,V8,V9,Ua,Ub,Uc,Ud,Ue,Uf,Ug,Uh,Ui,Uj,Uk,Ul,Um,Un,Uo,Up,Uq,Ur,Us,Ut,Uu,Uv,U1,U2,U5,U6,U7,U8,U9,Ka,Kb,Kc,Kd,Ke,Kf,Kg,Kh,Ki,Kj,Kk,Kl,Km,Kn,Ko,Kq,Kr,Ks,Kt,Ku,Kv,Kw,Kx,Ky,Kz,K0,K1,K2,K3,K4,K5,K6,K7,Gg,Gi,Gj,Gk,Gl,Gm,Gn,Gr,Hg,H3,Hc,Hb,Nc,H2]
                 tactic =>
                  try simp only [G6] at *
                  try simp only [nc2] at *
                  try simp (maxSteps := 4000000) only [hlb,q1,hib2,Gz,szP,Gt,Gv,Gx,Gu,szN,Gw,Hi]
                  repeat' (first | with_reducible assumption | with_reducible refine And.intro ?_ ?_ | intro _ | omega | (rw [Gy]; omega))
                  all_goals first
                    | (with_reducible refine Hu ?_; kernel_rfl)
                    | omega
                    | exact ⟨k + 1, by ((try simp only [G3, Ha, G5, Hf, upd, Hh, Hn, Na, Nat.reduceDiv, Nat.reduceMod, Nat.reduceMul, Nat.reduceAdd, Nat.reduceEqDiff, List.set_cons_zero, List.set_cons_succ, if_true, if_false, reduceIte]); (first | refine Wk.of_fl ?_ | skip); simp only [Wk, wkK, Nd, wkT, wk1, AV.kept, keptAll, wkO, lk, G4, and_true, true_and, and_self, Nat.reduceEqDiff, Nat.reduceLeDiff, if_true, if_false, reduceIte, reduceCtorEq, Option.isSome, false_implies]; try simp [Wk, wkK, wkT, wk1, AV.kept, keptAll, wkO, lk, G4]), by omega, Eq.mpr hQ hq, by omega⟩
                    | skip)))
    · have hr : R = true := by
        rw [← hR2]
        exact Cg fun j hj => hno j (by omega)
      subst hr
      (sym =>
       simp [hlb,hR,szP,Se,Sg,Sf,Sh,Sd,Sc,N0.eq_def,Za,Zb,Zc,Zd,Ze,Zf,Zg,Zn,Zo,Zp,Zq,Zr,Zs,Zt,Zv,Zx,Zy,Z5,Qa,Qb,Qc,Qg,Qk,Ql,Qm,Qn,Qo,Qp,Qr,Q0,Q1,Q4,Q8,Ja,Jf,Jh,Ji,Jj,Jk,Jl,Jt,Jx,Jy,Jz,J0,J1,J2,J5,J6,J7,J8,J9,Xa,Xb,Xc,Xd,Xe,Xf,Xg,Xj,Xk,Xl,Xm,Xn,Xo,Xp,Xq,Xr,Xs,Xt,Xu,Xv,Xw,Xx,Xy,X1,X2,X3,X4,X5,X6,X7,X8,We,Wf,Wg,Wh,Wi,Wj,Wl,Wm,Wn,Wo,Wp,Ws,Wt,Wu,Wv,Ww,Wx,Wy,Wz,W0,W3,W4,W5,W6,W7,W8,W9,Ya,Yb,Yc,Yd,Ye,Yf,Yg,Yh,Yi,Yj,Yk,Yl,Ym,Yn,Yo,Yr,Ys,Yt,Yu,Yv,Yw,Yx,Yy,Yz,Y1,Y2,Y3,Y4,Y5,Y6,Y7,Y8,Y9,Va,Vb,Vc,Vd,Ve,Vf,Vg,Vh,Vi,Vj,Vk,Vl,Vm,Vn,Vo,Vp,Vq,Vr,Vs,Vt,Vu,Vv,Vw,Vx,Vy,Vz,V0,V1,V2,V3,V4,V5,V6,V7,V8,V9,Ua,Ub,Uc,Ud,Ue,Uf,Ug,Uh,Ui,Uj,Uk,Ul,Um,Un,Uo,Up,Uq,Ur,Us,Ut,Uu,Uv,U1,U2,U5,U6,U7,U8,U9,Ka,Kb,Kc,Kd,Ke,Kf,Kg,Kh,Ki,Kj,Kk,Kl,Km,Kn,Ko,Kq,Kr,Ks,Kt,Ku,Kv,Kw,Kx,Ky,Kz,K0,K1,K2,K3,K4,K5,K6,K7,Gg,Gi,Gj,Gk,Gl,Gm,Gn,Gr,Hg,H3,Hc,Hb,Nc,H2]))
end Go.Am.Ty
