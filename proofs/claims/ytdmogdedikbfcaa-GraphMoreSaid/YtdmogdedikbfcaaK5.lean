/- Contracts of functions that the law reaches, and plain laws. Conditions: those that each contract states. -/
import Derived.Test.YtdmogdedikbfcaaK4
set_option linter.unusedSimpArgs false
set_option linter.unusedVariables false
set_option maxHeartbeats 4000000
namespace Go.Am.Graph
open Go.Proofs
open Enc (enc dec)
theorem filt_snoc {b : List Int} {n : Int} {j : Nat} (h : j < b.length) : (b.take (j + 1)).filter (· != n) = (b.take j).filter (· != n) ++ cond (b.getD j 0 != n) [b.getD j 0] [] := by
  rw [List.take_succ_eq_append_getElem h, List.filter_append]
  have e : b.getD j 0 = b[j] := by simp [h]
  rw [e]
  cases hb : (b[j] != n) <;> simp [hb]
theorem findZ_neg {l : List Mod} {s : List UInt8} (h : leB 0 (Hm l s) = false) : Hr l s = none := by
  rw [P5] at h
  unfold Hm at h
  cases hf : Hr l s with
  | none => rfl
  | some k => rw [hf] at h; simp only at h; omega
def con_GraphMore : Con := con2 (fun (l : Sl Mod) (s : List UInt8) => Lo l.l.length ∧ Lo s.length) (fun _ _ => true)
noncomputable def Bl : Ctx := ⟨tab, lkC [(10, Gn), (11, Gm), (12, Gk), (14, G3), (15, Gu)], 60, lkB [], [], false⟩
theorem Mc : Bl.τ = tab := rfl
theorem Me : Bl.Γ = lkC [(10, Gn), (11, Gm), (12, Gk), (14, G3), (15, Gu)] := rfl
theorem Md : Bl.dp = 60 := rfl
theorem Mf : Bl.Δ = lkB [] := rfl
theorem Mb : Bl.cuts = [] := rfl
theorem Ma : Bl.wr = false := rfl
set_option maxRecDepth 100000 in
theorem good_GraphMore : Ck Try.prog (5, con_GraphMore) := by
  refine ⟨Hh Try.func5 (by kernel_rfl) rfl, ?_⟩
  have K : Mj Try.prog Bl := Nj P8 Ny (by
    intro p hp
    simp only [List.mem_cons, List.not_mem_nil, or_false] at hp
    rcases hp with rfl | rfl | rfl | rfl | rfl
    · exact Cr
    · exact Th
    · exact Tw
    · exact Fh
    · exact Af) (by simp)
  obtain ⟨c, hc⟩ : ∃ c, Try.f5.body = some c := ⟨_, rfl⟩
  refine Mi K Try.func5 hc [.tmp 4] rfl 111 rfl (fun cvs hpre => ?_)
  change con_GraphMore.pre cvs at hpre
  unfold con_GraphMore at hpre
  obtain ⟨⟨l⟩, s, rfl, hl, hsl⟩ := Lw hpre
  simp only at hl hsl
  clear hpre
  cases hf : Ph l with
  | false =>
    simp only [Try.f5, Option.some.injEq] at hc
    subst hc
    refine Nu 6 (of_decide_eq_true (by kernel_rfl)) ?_
    (sym =>
     simp [hf,Mc,Me,Md,Mf,Mb,Ma,Gn.eq_def,con_GraphMore.eq_def,G3.eq_def,Gk.eq_def,Gm.eq_def,Gu.eq_def,Za,Zb,Zc,Zd,Ze,Zf,Zg,Zn,Zo,Zp,Zq,Zr,Zs,Zt,Zv,Zy,Z0,Z1,Z3,Z4,Z5,Z6,Z7,Z8,Z9,Qa,Qb,Qc,Qd,Qe,Qf,Qj,Qk,Ql,Qm,Qn,Qo,Qq,Qw,Qx,Qz,Q2,Q3,Q4,Q5,Q6,Q7,Q8,Q9,Ja,Jb,Jc,Jd,Je,Jf,Jg,Jn,Jr,Js,Jt,Ju,Jv,Jw,Jz,J0,J1,J2,J3,J4,J5,J6,J7,J8,J9,Xa,Xb,Xc,Xd,Xe,Xf,Xg,Xh,Xi,Xj,Xk,Xl,Xm,Xn,Xo,Xp,Xq,Xr,Xs,Xu,Xv,Xw,Xx,Xy,Xz,X0,X1,X2,X3,X4,X5,X6,X7,X8,X9,Wa,Wb,Wc,Wf,Wg,Wh,Wi,Wj,Wl,Wm,Wn,Wo,Wp,Wq,Wr,Ws,Wt,Wu,Wv,Ww,Wx,Wy,Wz,W0,W3,W4,W5,W6,W7,W8,W9,Ya,Yb,Yc,Yf,Yg,Yh,Yi,Yj,Yk,Yl,Ym,Yn,Yo,Yp,Yq,Yr,Ys,Yt,Yu,Yv,Yw,Yx,Yy,Yz,Y0,Y1,Y2,Y3,Y4,Y5,Y6,Y7,Y8,Y9,Va,Vb,Vc,Vd,Ve,Vf,Vg,Vh,Vi,Vj,Vk,Vl,Vm,Vn,Vo,Vp,Vq,Vr,Vs,Vt,Vu,Vv,Vw,Vx,Vy,Vz,V0,V1,V2,V3,V4,V5,V6,V7,V8,V9,Ua,Ub,Uc,Ud,Ue,Uf,Ug,Uh,Ui,Uo,Up,Uq,Ur,Us,Ut,Uu,Uv,Uw,Ux,Uy,Uz,U0,U1,U2,U3,U4,U5,U6,U7,U8,U9,Ka,Kb,Kc,Kd,Ke,Kf,Kg,Kh,Ki,Kj,Kk,Kl,Km,Kn,Ko,Kq,Kr,Ks,Kt,Ku,K1,K2,K3,K4,K5,K6,K7,Ga,Gx,Hd,Hb,Gq,Hi,Nx,Gp]
     tactic =>
      try simp only [Gl] at *
      try simp only [nc2] at *
      try simp (maxSteps := 4000000) only [hf,G4]
      repeat' (first | with_reducible assumption | with_reducible refine And.intro ?_ ?_ | intro _ | omega | (rw [Gb]; omega))
      all_goals first
        | assumption
        | omega
        | rfl
        | skip)
  | true =>
  cases h19 : ltB 19 (l.length : Int) with
  | true =>
    simp only [Try.f5, Option.some.injEq] at hc
    subst hc
    refine Nu 6 (of_decide_eq_true (by kernel_rfl)) ?_
    (sym =>
     simp [hf,h19,szM,Mc,Me,Md,Mf,Mb,Ma,Gn.eq_def,con_GraphMore.eq_def,G3.eq_def,Gk.eq_def,Gm.eq_def,Gu.eq_def,Za,Zb,Zc,Zd,Ze,Zf,Zg,Zn,Zo,Zp,Zq,Zr,Zs,Zt,Zv,Zy,Z0,Z1,Z3,Z4,Z5,Z6,Z7,Z8,Z9,Qa,Qb,Qc,Qd,Qe,Qf,Qj,Qk,Ql,Qm,Qn,Qo,Qq,Qw,Qx,Qz,Q2,Q3,Q4,Q5,Q6,Q7,Q8,Q9,Ja,Jb,Jc,Jd,Je,Jf,Jg,Jn,Jr,Js,Jt,Ju,Jv,Jw,Jz,J0,J1,J2,J3,J4,J5,J6,J7,J8,J9,Xa,Xb,Xc,Xd,Xe,Xf,Xg,Xh,Xi,Xj,Xk,Xl,Xm,Xn,Xo,Xp,Xq,Xr,Xs,Xu,Xv,Xw,Xx,Xy,Xz,X0,X1,X2,X3,X4,X5,X6,X7,X8,X9,Wa,Wb,Wc,Wf,Wg,Wh,Wi,Wj,Wl,Wm,Wn,Wo,Wp,Wq,Wr,Ws,Wt,Wu,Wv,Ww,Wx,Wy,Wz,W0,W3,W4,W5,W6,W7,W8,W9,Ya,Yb,Yc,Yf,Yg,Yh,Yi,Yj,Yk,Yl,Ym,Yn,Yo,Yp,Yq,Yr,Ys,Yt,Yu,Yv,Yw,Yx,Yy,Yz,Y0,Y1,Y2,Y3,Y4,Y5,Y6,Y7,Y8,Y9,Va,Vb,Vc,Vd,Ve,Vf,Vg,Vh,Vi,Vj,Vk,Vl,Vm,Vn,Vo,Vp,Vq,Vr,Vs,Vt,Vu,Vv,Vw,Vx,Vy,Vz,V0,V1,V2,V3,V4,V5,V6,V7,V8,V9,Ua,Ub,Uc,Ud,Ue,Uf,Ug,Uh,Ui,Uo,Up,Uq,Ur,Us,Ut,Uu,Uv,Uw,Ux,Uy,Uz,U0,U1,U2,U3,U4,U5,U6,U7,U8,U9,Ka,Kb,Kc,Kd,Ke,Kf,Kg,Kh,Ki,Kj,Kk,Kl,Km,Kn,Ko,Kq,Kr,Ks,Kt,Ku,K1,K2,K3,K4,K5,K6,K7,Ga,Gx,Hd,Hb,Gq,Hi,Nx,Gp]
     tactic =>
      try simp only [Gl] at *
      try simp only [nc2] at *
      try simp (maxSteps := 4000000) only [hf,h19,szM,G4]
      repeat' (first | with_reducible assumption | with_reducible refine And.intro ?_ ?_ | intro _ | omega | (rw [Gb]; omega))
      all_goals first
        | assumption
        | omega
        | rfl
        | skip)
  | false =>
  cases h100 : ltB 100 (s.length : Int) with
  | true =>
    simp only [Try.f5, Option.some.injEq] at hc
    subst hc
    refine Nu 6 (of_decide_eq_true (by kernel_rfl)) ?_
    (sym =>
     simp [hf,h19,h100,szM,Mc,Me,Md,Mf,Mb,Ma,Gn.eq_def,con_GraphMore.eq_def,G3.eq_def,Gk.eq_def,Gm.eq_def,Gu.eq_def,Za,Zb,Zc,Zd,Ze,Zf,Zg,Zn,Zo,Zp,Zq,Zr,Zs,Zt,Zv,Zy,Z0,Z1,Z3,Z4,Z5,Z6,Z7,Z8,Z9,Qa,Qb,Qc,Qd,Qe,Qf,Qj,Qk,Ql,Qm,Qn,Qo,Qq,Qw,Qx,Qz,Q2,Q3,Q4,Q5,Q6,Q7,Q8,Q9,Ja,Jb,Jc,Jd,Je,Jf,Jg,Jn,Jr,Js,Jt,Ju,Jv,Jw,Jz,J0,J1,J2,J3,J4,J5,J6,J7,J8,J9,Xa,Xb,Xc,Xd,Xe,Xf,Xg,Xh,Xi,Xj,Xk,Xl,Xm,Xn,Xo,Xp,Xq,Xr,Xs,Xu,Xv,Xw,Xx,Xy,Xz,X0,X1,X2,X3,X4,X5,X6,X7,X8,X9,Wa,Wb,Wc,Wf,Wg,Wh,Wi,Wj,Wl,Wm,Wn,Wo,Wp,Wq,Wr,Ws,Wt,Wu,Wv,Ww,Wx,Wy,Wz,W0,W3,W4,W5,W6,W7,W8,W9,Ya,Yb,Yc,Yf,Yg,Yh,Yi,Yj,Yk,Yl,Ym,Yn,Yo,Yp,Yq,Yr,Ys,Yt,Yu,Yv,Yw,Yx,Yy,Yz,Y0,Y1,Y2,Y3,Y4,Y5,Y6,Y7,Y8,Y9,Va,Vb,Vc,Vd,Ve,Vf,Vg,Vh,Vi,Vj,Vk,Vl,Vm,Vn,Vo,Vp,Vq,Vr,Vs,Vt,Vu,Vv,Vw,Vx,Vy,Vz,V0,V1,V2,V3,V4,V5,V6,V7,V8,V9,Ua,Ub,Uc,Ud,Ue,Uf,Ug,Uh,Ui,Uo,Up,Uq,Ur,Us,Ut,Uu,Uv,Uw,Ux,Uy,Uz,U0,U1,U2,U3,U4,U5,U6,U7,U8,U9,Ka,Kb,Kc,Kd,Ke,Kf,Kg,Kh,Ki,Kj,Kk,Kl,Km,Kn,Ko,Kq,Kr,Ks,Kt,Ku,K1,K2,K3,K4,K5,K6,K7,Ga,Gx,Hd,Hb,Gq,Hi,Nx,Gp]
     tactic =>
      try simp only [Gl] at *
      try simp only [nc2] at *
      try simp (maxSteps := 4000000) only [hf,h19,h100,szM,G4]
      repeat' (first | with_reducible assumption | with_reducible refine And.intro ?_ ?_ | intro _ | omega | (rw [Gb]; omega))
      all_goals first
        | assumption
        | omega
        | rfl
        | skip)
  | false =>
  cases hz : leB 0 (Hm l s) with
  | true =>
    simp only [Try.f5, Option.some.injEq] at hc
    subst hc
    refine Nu 6 (of_decide_eq_true (by kernel_rfl)) ?_
    (sym =>
     simp [hf,h19,h100,hz,szM,Mc,Me,Md,Mf,Mb,Ma,Gn.eq_def,con_GraphMore.eq_def,G3.eq_def,Gk.eq_def,Gm.eq_def,Gu.eq_def,Za,Zb,Zc,Zd,Ze,Zf,Zg,Zn,Zo,Zp,Zq,Zr,Zs,Zt,Zv,Zy,Z0,Z1,Z3,Z4,Z5,Z6,Z7,Z8,Z9,Qa,Qb,Qc,Qd,Qe,Qf,Qj,Qk,Ql,Qm,Qn,Qo,Qq,Qw,Qx,Qz,Q2,Q3,Q4,Q5,Q6,Q7,Q8,Q9,Ja,Jb,Jc,Jd,Je,Jf,Jg,Jn,Jr,Js,Jt,Ju,Jv,Jw,Jz,J0,J1,J2,J3,J4,J5,J6,J7,J8,J9,Xa,Xb,Xc,Xd,Xe,Xf,Xg,Xh,Xi,Xj,Xk,Xl,Xm,Xn,Xo,Xp,Xq,Xr,Xs,Xu,Xv,Xw,Xx,Xy,Xz,X0,X1,X2,X3,X4,X5,X6,X7,X8,X9,Wa,Wb,Wc,Wf,Wg,Wh,Wi,Wj,Wl,Wm,Wn,Wo,Wp,Wq,Wr,Ws,Wt,Wu,Wv,Ww,Wx,Wy,Wz,W0,W3,W4,W5,W6,W7,W8,W9,Ya,Yb,Yc,Yf,Yg,Yh,Yi,Yj,Yk,Yl,Ym,Yn,Yo,Yp,Yq,Yr,Ys,Yt,Yu,Yv,Yw,Yx,Yy,Yz,Y0,Y1,Y2,Y3,Y4,Y5,Y6,Y7,Y8,Y9,Va,Vb,Vc,Vd,Ve,Vf,Vg,Vh,Vi,Vj,Vk,Vl,Vm,Vn,Vo,Vp,Vq,Vr,Vs,Vt,Vu,Vv,Vw,Vx,Vy,Vz,V0,V1,V2,V3,V4,V5,V6,V7,V8,V9,Ua,Ub,Uc,Ud,Ue,Uf,Ug,Uh,Ui,Uo,Up,Uq,Ur,Us,Ut,Uu,Uv,Uw,Ux,Uy,Uz,U0,U1,U2,U3,U4,U5,U6,U7,U8,U9,Ka,Kb,Kc,Kd,Ke,Kf,Kg,Kh,Ki,Kj,Kk,Kl,Km,Kn,Ko,Kq,Kr,Ks,Kt,Ku,K1,K2,K3,K4,K5,K6,K7,Ga,Gx,Hd,Hb,Gq,Hi,Nx,Gp]
     tactic =>
      try simp only [Gl] at *
      try simp only [nc2] at *
      try simp (maxSteps := 4000000) only [hf,h19,h100,hz,szM,G4]
      repeat' (first | with_reducible assumption | with_reducible refine And.intro ?_ ?_ | intro _ | omega | (rw [Gb]; omega))
      all_goals first
        | assumption
        | omega
        | rfl
        | skip)
  | false =>
  have g19 := h19
  rw [Hq] at g19
  have g100 := h100
  rw [Hq] at g100
  have hs := findZ_neg hz
  have hM := more_ok hf (s := s) (by omega) (by omega) hs
  have hfm := more_few hf (s := s) (by omega) (by omega)
  have ha20 := Rg hf
  have hb20 := Rg hfm
  obtain ⟨X, hX⟩ : ∃ X, M4 l = X := ⟨_, rfl⟩
  have hmm : (l.map (enc : Mod → D)) ++ [.agg [.str s, .list 1 [], .list 3 [], .list 3 []]] = (l ++ [Bm s]).map enc := by rw [List.map_append]; rfl
  have hml : (l.map (enc : Mod → D)).length = l.length := List.length_map ..
  obtain ⟨r, hr⟩ : ∃ r, l ++ [Bm s] = r := ⟨_, rfl⟩
  rw [hr] at hM hfm hb20 hmm
  obtain ⟨Y, hY⟩ : ∃ Y, M4 r = Y := ⟨_, rfl⟩
  rw [hX] at hM ha20
  rw [hY] at hM hb20
  obtain ⟨⟨a⟩, ia, e⟩ := X
  obtain ⟨⟨b⟩, ib, e2⟩ := Y
  obtain ⟨t1, t2⟩ := hM
  simp only at t1 t2 ha20 hb20
  cases h6 : (e == 6) with
  | true =>
    have h7 : (e2 != 7) = true := by rw [bne_iff_ne]; exact t1 (by rw [beq_iff_eq] at h6; exact h6)
    simp only [Try.f5, Option.some.injEq] at hc
    subst hc
    refine Nu 6 (of_decide_eq_true (by kernel_rfl)) ?_
    (sym =>
     simp [hf,h19,h100,hz,hX,hY,h6,h7,hml,hmm,M3.eq_def,szM,Mc,Me,Md,Mf,Mb,Ma,Gn.eq_def,con_GraphMore.eq_def,G3.eq_def,Gk.eq_def,Gm.eq_def,Gu.eq_def,Za,Zb,Zc,Zd,Ze,Zf,Zg,Zn,Zo,Zp,Zq,Zr,Zs,Zt,Zv,Zy,Z0,Z1,Z3,Z4,Z5,Z6,Z7,Z8,Z9,Qa,Qb,Qc,Qd,Qe,Qf,Qj,Qk,Ql,Qm,Qn,Qo,Qq,Qw,Qx,Qz,Q2,Q3,Q4,Q5,Q6,Q7,Q8,Q9,Ja,Jb,Jc,Jd,Je,Jf,Jg,Jn,Jr,Js,Jt,Ju,Jv,Jw,Jz,J0,J1,J2,J3,J4,J5,J6,J7,J8,J9,Xa,Xb,Xc,Xd,Xe,Xf,Xg,Xh,Xi,Xj,Xk,Xl,Xm,Xn,Xo,Xp,Xq,Xr,Xs,Xu,Xv,Xw,Xx,Xy,Xz,X0,X1,X2,X3,X4,X5,X6,X7,X8,X9,Wa,Wb,Wc,Wf,Wg,Wh,Wi,Wj,Wl,Wm,Wn,Wo,Wp,Wq,Wr,Ws,Wt,Wu,Wv,Ww,Wx,Wy,Wz,W0,W3,W4,W5,W6,W7,W8,W9,Ya,Yb,Yc,Yf,Yg,Yh,Yi,Yj,Yk,Yl,Ym,Yn,Yo,Yp,Yq,Yr,Ys,Yt,Yu,Yv,Yw,Yx,Yy,Yz,Y0,Y1,Y2,Y3,Y4,Y5,Y6,Y7,Y8,Y9,Va,Vb,Vc,Vd,Ve,Vf,Vg,Vh,Vi,Vj,Vk,Vl,Vm,Vn,Vo,Vp,Vq,Vr,Vs,Vt,Vu,Vv,Vw,Vx,Vy,Vz,V0,V1,V2,V3,V4,V5,V6,V7,V8,V9,Ua,Ub,Uc,Ud,Ue,Uf,Ug,Uh,Ui,Uo,Up,Uq,Ur,Us,Ut,Uu,Uv,Uw,Ux,Uy,Uz,U0,U1,U2,U3,U4,U5,U6,U7,U8,U9,Ka,Kb,Kc,Kd,Ke,Kf,Kg,Kh,Ki,Kj,Kk,Kl,Km,Kn,Ko,Kq,Kr,Ks,Kt,Ku,K1,K2,K3,K4,K5,K6,K7,Ga,Gx,Hd,Hb,Gq,Hi,Nx,Gp]
     tactic =>
      try simp only [Gl] at *
      try simp only [nc2] at *
      try simp (maxSteps := 4000000) only [hf,h19,h100,hz,hX,hY,h6,h7,hml,hmm,M3.eq_def,szM,G4]
      repeat' (first | with_reducible assumption | with_reducible refine And.intro ?_ ?_ | intro _ | omega | (rw [Gb]; omega))
      all_goals first
        | assumption
        | omega
        | rfl
        | skip)
  | false =>
  obtain ⟨t3, t4, t5⟩ := t2 (by rw [beq_eq_false_iff_ne] at h6; exact h6)
  subst t3
  have hee : (e != e) = false := bne_self_eq_false e
  cases h0 : (e != 0) with
  | true =>
    have hii := t4 (by rw [bne_iff_ne] at h0; exact h0)
    subst hii
    have hie : (ia != ia) = false := bne_self_eq_false ia
    simp only [Try.f5, Option.some.injEq] at hc
    subst hc
    refine Nu 6 (of_decide_eq_true (by kernel_rfl)) ?_
    (sym =>
     simp [hf,h19,h100,hz,hX,hY,h6,hee,h0,hie,hml,hmm,M3.eq_def,szM,Mc,Me,Md,Mf,Mb,Ma,Gn.eq_def,con_GraphMore.eq_def,G3.eq_def,Gk.eq_def,Gm.eq_def,Gu.eq_def,Za,Zb,Zc,Zd,Ze,Zf,Zg,Zn,Zo,Zp,Zq,Zr,Zs,Zt,Zv,Zy,Z0,Z1,Z3,Z4,Z5,Z6,Z7,Z8,Z9,Qa,Qb,Qc,Qd,Qe,Qf,Qj,Qk,Ql,Qm,Qn,Qo,Qq,Qw,Qx,Qz,Q2,Q3,Q4,Q5,Q6,Q7,Q8,Q9,Ja,Jb,Jc,Jd,Je,Jf,Jg,Jn,Jr,Js,Jt,Ju,Jv,Jw,Jz,J0,J1,J2,J3,J4,J5,J6,J7,J8,J9,Xa,Xb,Xc,Xd,Xe,Xf,Xg,Xh,Xi,Xj,Xk,Xl,Xm,Xn,Xo,Xp,Xq,Xr,Xs,Xu,Xv,Xw,Xx,Xy,Xz,X0,X1,X2,X3,X4,X5,X6,X7,X8,X9,Wa,Wb,Wc,Wf,Wg,Wh,Wi,Wj,Wl,Wm,Wn,Wo,Wp,Wq,Wr,Ws,Wt,Wu,Wv,Ww,Wx,Wy,Wz,W0,W3,W4,W5,W6,W7,W8,W9,Ya,Yb,Yc,Yf,Yg,Yh,Yi,Yj,Yk,Yl,Ym,Yn,Yo,Yp,Yq,Yr,Ys,Yt,Yu,Yv,Yw,Yx,Yy,Yz,Y0,Y1,Y2,Y3,Y4,Y5,Y6,Y7,Y8,Y9,Va,Vb,Vc,Vd,Ve,Vf,Vg,Vh,Vi,Vj,Vk,Vl,Vm,Vn,Vo,Vp,Vq,Vr,Vs,Vt,Vu,Vv,Vw,Vx,Vy,Vz,V0,V1,V2,V3,V4,V5,V6,V7,V8,V9,Ua,Ub,Uc,Ud,Ue,Uf,Ug,Uh,Ui,Uo,Up,Uq,Ur,Us,Ut,Uu,Uv,Uw,Ux,Uy,Uz,U0,U1,U2,U3,U4,U5,U6,U7,U8,U9,Ka,Kb,Kc,Kd,Ke,Kf,Kg,Kh,Ki,Kj,Kk,Kl,Km,Kn,Ko,Kq,Kr,Ks,Kt,Ku,K1,K2,K3,K4,K5,K6,K7,Ga,Gx,Hd,Hb,Gq,Hi,Nx,Gp]
     tactic =>
      try simp only [Gl] at *
      try simp only [nc2] at *
      try simp (maxSteps := 4000000) only [hf,h19,h100,hz,hX,hY,h6,hee,h0,hie,hml,hmm,M3.eq_def,szM,G4]
      repeat' (first | with_reducible assumption | with_reducible refine And.intro ?_ ?_ | intro _ | omega | (rw [Gb]; omega))
      all_goals first
        | assumption
        | omega
        | rfl
        | skip)
  | false =>
  obtain ⟨t6, t7⟩ := t5 (by rw [bne_eq_false_iff_eq] at h0; exact h0)
  simp only [Try.f5, Option.some.injEq] at hc
  subst hc
  refine Nu 6 (of_decide_eq_true (by kernel_rfl)) ?_
  (sym =>
   simp [hf,h19,h100,hz,hX,hY,h6,hee,h0,hml,hmm,M3.eq_def,szM,Mc,Me,Md,Mf,Mb,Ma,Gn.eq_def,con_GraphMore.eq_def,G3.eq_def,Gk.eq_def,Gm.eq_def,Gu.eq_def,Za,Zb,Zc,Zd,Ze,Zf,Zg,Zn,Zo,Zp,Zq,Zr,Zs,Zt,Zv,Zy,Z0,Z1,Z3,Z4,Z5,Z6,Z7,Z8,Z9,Qa,Qb,Qc,Qd,Qe,Qf,Qj,Qk,Ql,Qm,Qn,Qo,Qq,Qw,Qx,Qz,Q2,Q3,Q4,Q5,Q6,Q7,Q8,Q9,Ja,Jb,Jc,Jd,Je,Jf,Jg,Jn,Jr,Js,Jt,Ju,Jv,Jw,Jz,J0,J1,J2,J3,J4,J5,J6,J7,J8,J9,Xa,Xb,Xc,Xd,Xe,Xf,Xg,Xh,Xi,Xj,Xk,Xl,Xm,Xn,Xo,Xp,Xq,Xr,Xs,Xu,Xv,Xw,Xx,Xy,Xz,X0,X1,X2,X3,X4,X5,X6,X7,X8,X9,Wa,Wb,Wc,Wf,Wg,Wh,Wi,Wj,Wl,Wm,Wn,Wo,Wp,Wq,Wr,Ws,Wt,Wu,Wv,Ww,Wx,Wy,Wz,W0,W3,W4,W5,W6,W7,W8,W9,Ya,Yb,Yc,Yf,Yg,Yh,Yi,Yj,Yk,Yl,Ym,Yn,Yo,Yp,Yq,Yr,Ys,Yt,Yu,Yv,Yw,Yx,Yy,Yz,Y0,Y1,Y2,Y3,Y4,Y5,Y6,Y7,Y8,Y9,Va,Vb,Vc,Vd,Ve,Vf,Vg,Vh,Vi,Vj,Vk,Vl,Vm,Vn,Vo,Vp,Vq,Vr,Vs,Vt,Vu,Vv,Vw,Vx,Vy,Vz,V0,V1,V2,V3,V4,V5,V6,V7,V8,V9,Ua,Ub,Uc,Ud,Ue,Uf,Ug,Uh,Ui,Uo,Up,Uq,Ur,Us,Ut,Uu,Uv,Uw,Ux,Uy,Uz,U0,U1,U2,U3,U4,U5,U6,U7,U8,U9,Ka,Kb,Kc,Kd,Ke,Kf,Kg,Kh,Ki,Kj,Kk,Kl,Km,Kn,Ko,Kq,Kr,Ks,Kt,Ku,K1,K2,K3,K4,K5,K6,K7,Ga,Gx,Hd,Hb,Gq,Hi,Nx,Gp]
   tactic =>
    try simp only [Gl] at *
    try simp only [nc2] at *
    try simp (maxSteps := 4000000) only [hf,h19,h100,hz,hX,hY,h6,hee,h0,hml,hmm,M3.eq_def,szM,G4]
    repeat' (first | with_reducible assumption | with_reducible refine And.intro ?_ ?_ | intro _ | omega | (rw [Gb]; omega))
    all_goals try omega
    refine Ha [77, 78, 79, 80, 81, 82, 83, 84, 85, 86, 87, 88, 89, 90, 91, 92, 93, 94, 95, 96] (fun i : Nat => [(12, .sl 76 (((b.take i).filter (· != (l.length : Int))).map (enc : Int → D)).length), (13, .d (.int .i64 i))]) (fun i : Nat => [(76, .row 1 (((b.take i).filter (· != (l.length : Int))).map enc) 0)]) (fun i : Nat => i ≤ b.length) (fun i : Nat => b.length - i) 0 ?_ ?_ ?_
    · omega
    · ((try simp only [Gd, Gj, Gi, Gs, upd, Gt, G5, Hn, Nat.reduceDiv, Nat.reduceMod, Nat.reduceMul, Nat.reduceAdd, Nat.reduceEqDiff, List.set_cons_zero, List.set_cons_succ, if_true, if_false, reduceIte]); (first | refine Wk.of_fl ?_ | skip); simp only [Wk, wkK, Ht, wkT, wk1, AV.kept, keptAll, wkO, lk, Ge, and_true, true_and, and_self, Nat.reduceEqDiff, Nat.reduceLeDiff, if_true, if_false, reduceIte, reduceCtorEq, Option.isSome, false_implies]; try simp [Wk, wkK, wkT, wk1, AV.kept, keptAll, wkO, lk, Ge])
    rintro i hi
    have hfl : ((b.take i).filter (· != (l.length : Int))).length ≤ i := Nat.le_trans (List.length_filter_le _ _) (by rw [List.length_take]; omega)
    rcases Hg i b.length with ⟨hil, hib⟩ | ⟨hil, hib⟩
    · have hS := filt_snoc (n := (l.length : Int)) hil
      have q1 := Hp (0 : Int) hil
      obtain ⟨v, hv⟩ : ∃ v, b.getD i 0 = v := ⟨_, rfl⟩
      rw [hv] at hS q1
      obtain ⟨N, hN⟩ : ∃ N, (b.take i).filter (· != (l.length : Int)) = N := ⟨_, rfl⟩
      rw [hN] at hS hfl
      rw [hN]
      have hNm : (N.map (enc : Int → D)).length ≤ 20 := by rw [List.length_map]; omega
      cases hb : (v != (l.length : Int)) with
      | true =>
        rw [hb, cond_true] at hS
        (sym =>
         simp [hib,q1,hb,szM,Mc,Me,Md,Mf,Mb,Ma,Gn.eq_def,con_GraphMore.eq_def,G3.eq_def,Gk.eq_def,Gm.eq_def,Gu.eq_def,Za,Zb,Zc,Zd,Ze,Zf,Zg,Zn,Zo,Zp,Zq,Zr,Zs,Zt,Zv,Zy,Z0,Z1,Z3,Z4,Z5,Z6,Z7,Z8,Z9,Qa,Qb,Qc,Qd,Qe,Qf,Qj,Qk,Ql,Qm,Qn,Qo,Qq,Qw,Qx,Qz,Q2,Q3,Q4,Q5,Q6,Q7,Q8,Q9,Ja,Jb,Jc,Jd,Je,Jf,Jg,Jn,Jr,Js,Jt,Ju,Jv,Jw,Jz,J0,J1,J2,J3,J4,J5,J6,J7,J8,J9,Xa,Xb,Xc,Xd,Xe,Xf,Xg,Xh,Xi,Xj,Xk,Xl,Xm,Xn,Xo,Xp,Xq,Xr,Xs,Xu,Xv,Xw,Xx,Xy,Xz,X0,X1,X2,X3,X4,X5,X6,X7,X8,X9,Wa,Wb,Wc,Wf,Wg,Wh,Wi,Wj,Wl,Wm,Wn,Wo,Wp,Wq,Wr,Ws,Wt,Wu,Wv,Ww,Wx,Wy,Wz,W0,W3,W4,W5,W6,W7,W8,W9,Ya,Yb,Yc,Yf,Yg,Yh,Yi,Yj,Yk,Yl,Ym,Yn,Yo,Yp,Yq,Yr,Ys,Yt,Yu,Yv,Yw,Yx,Yy,Yz,Y0,Y1,Y2,Y3,Y4,Y5,Y6,Y7,Y8,Y9,Va,Vb,Vc,Vd,Ve,Vf,Vg,Vh,Vi,Vj,Vk,Vl,Vm,Vn,Vo,Vp,Vq,Vr,Vs,Vt,Vu,Vv,Vw,Vx,Vy,Vz,V0,V1,V2,V3,V4,V5,V6,V7,V8,V9,Ua,Ub,Uc,Ud,Ue,Uf,Ug,Uh,Ui,Uo,Up,Uq,Ur,Us,Ut,Uu,Uv,Uw,Ux,Uy,Uz,U0,U1,U2,U3,U4,U5,U6,U7,U8,U9,Ka,Kb,Kc,Kd,Ke,Kf,Kg,Kh,Ki,Kj,Kk,Kl,Km,Kn,Ko,Kq,Kr,Ks,Kt,Ku,K1,K2,K3,K4,K5,K6,K7,Ga,Gx,Hd,Hb,Gq,Hi,Nx,Gp]
         tactic =>
          try simp only [Gl] at *
          try simp only [nc2] at *
          try simp (maxSteps := 4000000) only [hib,q1,hb,szM,G4]
          repeat' (first | with_reducible assumption | with_reducible refine And.intro ?_ ?_ | intro _ | omega | (rw [Gb]; omega))
          all_goals first
            | (with_reducible refine G7 ?_; kernel_rfl)
            | omega
            | exact ⟨i + 1, by simp only [hS]; ((try simp only [Gd, Gj, Gi, Gs, upd, Gt, G5, Hn, Nat.reduceDiv, Nat.reduceMod, Nat.reduceMul, Nat.reduceAdd, Nat.reduceEqDiff, List.set_cons_zero, List.set_cons_succ, if_true, if_false, reduceIte]); (first | refine Wk.of_fl ?_ | skip); simp only [Wk, wkK, Ht, wkT, wk1, AV.kept, keptAll, wkO, lk, Ge, and_true, true_and, and_self, Nat.reduceEqDiff, Nat.reduceLeDiff, if_true, if_false, reduceIte, reduceCtorEq, Option.isSome, false_implies]; try simp [Wk, wkK, wkT, wk1, AV.kept, keptAll, wkO, lk, Ge, List.map_append, List.length_append]), by omega, by omega⟩
            | skip)
      | false =>
        rw [hb, cond_false, List.append_nil] at hS
        (sym =>
         simp [hib,q1,hb,szM,Mc,Me,Md,Mf,Mb,Ma,Gn.eq_def,con_GraphMore.eq_def,G3.eq_def,Gk.eq_def,Gm.eq_def,Gu.eq_def,Za,Zb,Zc,Zd,Ze,Zf,Zg,Zn,Zo,Zp,Zq,Zr,Zs,Zt,Zv,Zy,Z0,Z1,Z3,Z4,Z5,Z6,Z7,Z8,Z9,Qa,Qb,Qc,Qd,Qe,Qf,Qj,Qk,Ql,Qm,Qn,Qo,Qq,Qw,Qx,Qz,Q2,Q3,Q4,Q5,Q6,Q7,Q8,Q9,Ja,Jb,Jc,Jd,Je,Jf,Jg,Jn,Jr,Js,Jt,Ju,Jv,Jw,Jz,J0,J1,J2,J3,J4,J5,J6,J7,J8,J9,Xa,Xb,Xc,Xd,Xe,Xf,Xg,Xh,Xi,Xj,Xk,Xl,Xm,Xn,Xo,Xp,Xq,Xr,Xs,Xu,Xv,Xw,Xx,Xy,Xz,X0,X1,X2,X3,X4,X5,X6,X7,X8,X9,Wa,Wb,Wc,Wf,Wg,Wh,Wi,Wj,Wl,Wm,Wn,Wo,Wp,Wq,Wr,Ws,Wt,Wu,Wv,Ww,Wx,Wy,Wz,W0,W3,W4,W5,W6,W7,W8,W9,Ya,Yb,Yc,Yf,Yg,Yh,Yi,Yj,Yk,Yl,Ym,Yn,Yo,Yp,Yq,Yr,Ys,Yt,Yu,Yv,Yw,Yx,Yy,Yz,Y0,Y1,Y2,Y3,Y4,Y5,Y6,Y7,Y8,Y9,Va,Vb,Vc,Vd,Ve,Vf,Vg,Vh,Vi,Vj,Vk,Vl,Vm,Vn,Vo,Vp,Vq,Vr,Vs,Vt,Vu,Vv,Vw,Vx,Vy,Vz,V0,V1,V2,V3,V4,V5,V6,V7,V8,V9,Ua,Ub,Uc,Ud,Ue,Uf,Ug,Uh,Ui,Uo,Up,Uq,Ur,Us,Ut,Uu,Uv,Uw,Ux,Uy,Uz,U0,U1,U2,U3,U4,U5,U6,U7,U8,U9,Ka,Kb,Kc,Kd,Ke,Kf,Kg,Kh,Ki,Kj,Kk,Kl,Km,Kn,Ko,Kq,Kr,Ks,Kt,Ku,K1,K2,K3,K4,K5,K6,K7,Ga,Gx,Hd,Hb,Gq,Hi,Nx,Gp]
         tactic =>
          try simp only [Gl] at *
          try simp only [nc2] at *
          try simp (maxSteps := 4000000) only [hib,q1,hb,szM,G4]
          repeat' (first | with_reducible assumption | with_reducible refine And.intro ?_ ?_ | intro _ | omega | (rw [Gb]; omega))
          all_goals first
            | (with_reducible refine G7 ?_; kernel_rfl)
            | omega
            | exact ⟨i + 1, by simp only [hS]; ((try simp only [Gd, Gj, Gi, Gs, upd, Gt, G5, Hn, Nat.reduceDiv, Nat.reduceMod, Nat.reduceMul, Nat.reduceAdd, Nat.reduceEqDiff, List.set_cons_zero, List.set_cons_succ, if_true, if_false, reduceIte]); (first | refine Wk.of_fl ?_ | skip); simp only [Wk, wkK, Ht, wkT, wk1, AV.kept, keptAll, wkO, lk, Ge, and_true, true_and, and_self, Nat.reduceEqDiff, Nat.reduceLeDiff, if_true, if_false, reduceIte, reduceCtorEq, Option.isSome, false_implies]; try simp [Wk, wkK, wkT, wk1, AV.kept, keptAll, wkO, lk, Ge]), by omega, by omega⟩
            | skip)
    · have hie : i = b.length := by omega
      rw [hie, List.take_length, t7]
      have haa := Oh a
      have hbl : ((b.length : Int) == (l.length : Int) + 1) = true := by rw [beq_iff_eq]; omega
      rw [hie] at hib
      (sym =>
       simp [hib,haa,hbl,szM,Mc,Me,Md,Mf,Mb,Ma,Gn.eq_def,con_GraphMore.eq_def,G3.eq_def,Gk.eq_def,Gm.eq_def,Gu.eq_def,Za,Zb,Zc,Zd,Ze,Zf,Zg,Zn,Zo,Zp,Zq,Zr,Zs,Zt,Zv,Zy,Z0,Z1,Z3,Z4,Z5,Z6,Z7,Z8,Z9,Qa,Qb,Qc,Qd,Qe,Qf,Qj,Qk,Ql,Qm,Qn,Qo,Qq,Qw,Qx,Qz,Q2,Q3,Q4,Q5,Q6,Q7,Q8,Q9,Ja,Jb,Jc,Jd,Je,Jf,Jg,Jn,Jr,Js,Jt,Ju,Jv,Jw,Jz,J0,J1,J2,J3,J4,J5,J6,J7,J8,J9,Xa,Xb,Xc,Xd,Xe,Xf,Xg,Xh,Xi,Xj,Xk,Xl,Xm,Xn,Xo,Xp,Xq,Xr,Xs,Xu,Xv,Xw,Xx,Xy,Xz,X0,X1,X2,X3,X4,X5,X6,X7,X8,X9,Wa,Wb,Wc,Wf,Wg,Wh,Wi,Wj,Wl,Wm,Wn,Wo,Wp,Wq,Wr,Ws,Wt,Wu,Wv,Ww,Wx,Wy,Wz,W0,W3,W4,W5,W6,W7,W8,W9,Ya,Yb,Yc,Yf,Yg,Yh,Yi,Yj,Yk,Yl,Ym,Yn,Yo,Yp,Yq,Yr,Ys,Yt,Yu,Yv,Yw,Yx,Yy,Yz,Y0,Y1,Y2,Y3,Y4,Y5,Y6,Y7,Y8,Y9,Va,Vb,Vc,Vd,Ve,Vf,Vg,Vh,Vi,Vj,Vk,Vl,Vm,Vn,Vo,Vp,Vq,Vr,Vs,Vt,Vu,Vv,Vw,Vx,Vy,Vz,V0,V1,V2,V3,V4,V5,V6,V7,V8,V9,Ua,Ub,Uc,Ud,Ue,Uf,Ug,Uh,Ui,Uo,Up,Uq,Ur,Us,Ut,Uu,Uv,Uw,Ux,Uy,Uz,U0,U1,U2,U3,U4,U5,U6,U7,U8,U9,Ka,Kb,Kc,Kd,Ke,Kf,Kg,Kh,Ki,Kj,Kk,Kl,Km,Kn,Ko,Kq,Kr,Ks,Kt,Ku,K1,K2,K3,K4,K5,K6,K7,Ga,Gx,Hd,Hb,Gq,Hi,Nx,Gp]
       tactic =>
        try simp only [Gl] at *
        try simp only [nc2] at *
        try simp (maxSteps := 4000000) only [hib,haa,hbl,szM,G4]
        repeat' (first | with_reducible assumption | with_reducible refine And.intro ?_ ?_ | intro _ | omega | (rw [Gb]; omega))
        all_goals first
          | (with_reducible refine G7 ?_; kernel_rfl)
          | omega
          | trivial
          | rfl
          | skip))
end Go.Am.Graph
set_option linter.unusedSimpArgs false
set_option linter.unusedVariables false
namespace Go.Am.Graph
open Go.Proofs
open Enc (enc dec)
theorem all2_4 {p q r s : D → Prop} {ds : List D} (h : All2 [p, q, r, s] ds) : ∃ a b c d, ds = [a, b, c, d] ∧ p a ∧ q b ∧ r c ∧ s d := by
  match ds, h with
  | [a, b, c, d], h => exact ⟨a, b, c, d, rfl, h.1, h.2.1, h.2.2.1, h.2.2.2.1⟩
theorem rdNodeA : RdP Try.prog 128 3 true (fun _ => True) :=
  (Re (ps := [_, _, _]) Try.underlying128 (by kernel_rfl) rfl ⟨rfl, by kernel_rfl, Ie Try.underlying3, rfl, by kernel_rfl, rd_str Try.underlying9, rfl, by kernel_rfl, Ie Try.underlying3, trivial⟩).mono fun _ _ => trivial
theorem rdTypeA : RdP Try.prog 119 1 false (fun _ => True) := (Ic Try.underlying119 (s := 3) (by kernel_rfl) (by decide) rdNodeA).mono fun _ _ => trivial
theorem rdPartA : RdP Try.prog 130 8 true (fun _ => True) :=
  (Re (ps := [_, _, _, _, _, _, _, _]) Try.underlying130 (by kernel_rfl) rfl ⟨rfl, by kernel_rfl, Ie Try.underlying3, rfl, by kernel_rfl, rd_str Try.underlying9, rfl, by kernel_rfl, rd_str Try.underlying9, rfl, by kernel_rfl, rd_str Try.underlying9,
    rfl, by kernel_rfl, Ie Try.underlying3, rfl, by kernel_rfl, Ie Try.underlying2, rfl, by kernel_rfl, rdTypeA, rfl, by kernel_rfl, rdTypeA, trivial⟩).mono fun _ _ => trivial
theorem rdExprA : RdP Try.prog 121 1 false (fun _ => True) := (Ic Try.underlying121 (s := 8) (by kernel_rfl) (by decide) rdPartA).mono fun _ _ => trivial
theorem rdDefA : RdP Try.prog 123 3 true (fun _ => True) :=
  (Re (ps := [_, _, _]) Try.underlying123 (by kernel_rfl) rfl ⟨rfl, by kernel_rfl, rd_str Try.underlying9, rfl, by kernel_rfl, rdTypeA, rfl, by kernel_rfl, rdExprA, trivial⟩).mono fun _ _ => trivial
theorem rdSiteA : RdP Try.prog 125 3 true (fun _ => True) :=
  (Re (ps := [_, _, _]) Try.underlying125 (by kernel_rfl) rfl ⟨rfl, by kernel_rfl, Ie Try.underlying3, rfl, by kernel_rfl, Ie Try.underlying3, rfl, by kernel_rfl, rd_bool Try.underlying4, trivial⟩).mono fun _ _ => trivial
theorem rdDefsA : RdP Try.prog 31 1 false (fun x => ∃ l, x = .list 3 l) := (Ic Try.underlying31 (by kernel_rfl) (by decide) rdDefA).mono fun x h => by
  obtain ⟨l, e, _⟩ := h
  exact ⟨l, e⟩
theorem rdSitesA : RdP Try.prog 32 1 false (fun x => ∃ l, x = .list 3 l) := (Ic Try.underlying32 (by kernel_rfl) (by decide) rdSiteA).mono fun x h => by
  obtain ⟨l, e, _⟩ := h
  exact ⟨l, e⟩
theorem rdStrs : Rdt Try.prog 30 1 false (Sl (List UInt8)) (fun a => a.l.length ≤ maxLen ∧ ∀ y ∈ a.l, y.length ≤ maxLen) := rdt_sl Try.underlying30 (by kernel_rfl) rfl (by decide) (rdt_str Try.underlying9)
theorem rdMod : Rdt Try.prog 34 4 true Mod (fun m => m.name.length ≤ maxLen) :=
  (Re (ps := [_, _, _, _]) Try.underlying34 (by kernel_rfl) rfl ⟨rfl, by kernel_rfl, rdt_str Try.underlying9, rfl, by kernel_rfl, rdStrs, rfl, by kernel_rfl, rdDefsA, rfl, by kernel_rfl, rdSitesA, trivial⟩).mono fun x h => by
    obtain ⟨ds, rfl, h⟩ := h
    obtain ⟨a, b, c, d, rfl, ⟨s, rfl, hs⟩, ⟨⟨i⟩, rfl, _⟩, ⟨l, rfl⟩, ⟨r, rfl⟩⟩ := all2_4 h
    exact ⟨⟨s, i, l, r⟩, rfl, hs⟩
theorem rdMods : Rdt Try.prog 22 1 false (Sl Mod) (fun a => a.l.length ≤ maxLen ∧ ∀ y ∈ a.l, y.name.length ≤ maxLen) := rdt_sl Try.underlying22 (by kernel_rfl) rfl (by decide) rdMod
theorem rdN : Rdt Try.prog 3 1 false Int (fun a => inR .i64 a) := rdt_int Try.underlying3
theorem rdS : Rdt Try.prog 9 1 false (List UInt8) (fun a => a.length ≤ maxLen) := rdt_str Try.underlying9
theorem lo_of {a : Sl Mod} (h : a.l.length ≤ 2 ^ 63 - 1 ∧ ∀ y ∈ a.l, y.name.length ≤ 2 ^ 63 - 1) : Lo a.l.length := by have := h.1; show _ ≤ _; omega
theorem los_of {a : List UInt8} (h : a.length ≤ 2 ^ 63 - 1) : Lo a.length := by show _ ≤ _; omega
end Go.Am.Graph
