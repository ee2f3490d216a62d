/- Contracts of functions that the law reaches, and plain laws. Conditions: those that each contract states. -/
import Derived.Test.YtlcigcilhndjaaaK4
set_option linter.unusedSimpArgs false
set_option linter.unusedVariables false
set_option maxHeartbeats 4000000
namespace Go.Am.Hit
open Go.Proofs
open Enc (enc dec)
theorem at_mem {l : List (Sl Int)} {i : Nat} (h : i < l.length) : (l.getD i ⟨[]⟩).l ∈ unS l := by
  rw [List.getD_eq_getElem?_getD, List.getElem?_eq_getElem h]
  exact List.mem_map_of_mem (List.getElem_mem h)
theorem up_at {l : List (Sl Int)} (h : Up (unS l)) {i j : Nat} (hij : i < j) (hj : j < l.length) : Nb (l.getD i ⟨[]⟩).l (l.getD j ⟨[]⟩).l = true := by
  have := up_getD h hij (by rw [unS_len]; exact hj)
  rwa [unS_at, unS_at] at this
theorem up_ne {l : List (Sl Int)} (h : Up (unS l)) {i j : Nat} (hi : i < l.length) (hj : j < l.length) (e : (l.getD i ⟨[]⟩).l = (l.getD j ⟨[]⟩).l) : i = j := by
  rcases Nat.lt_trichotomy i j with hl | hl | hl
  · have := up_at h hl hj; rw [e, N6] at this; cases this
  · exact hl
  · have := up_at h hl hi; rw [e, N6] at this; cases this
def O4 (A : List (Sl Int)) (s : List Int) (i : Nat) : Bool := (A.take i).any fun t => Sq t.l s
theorem anyP_succ {A : List (Sl Int)} {s : List Int} {i : Nat} (h : i < A.length) : O4 A s (i + 1) = (O4 A s i || Sq (A.getD i ⟨[]⟩).l s) := by
  unfold O4
  rw [List.take_succ_eq_append_getElem h, List.any_append]
  simp [h]
theorem anyP_iff {A : List (Sl Int)} {s : List Int} : O4 A s A.length = true ↔ ∃ t ∈ unS A, ∀ x ∈ t, x ∈ s := by
  unfold O4
  rw [List.take_length, List.any_eq_true]
  constructor
  · rintro ⟨t, ht, h⟩; exact ⟨t.l, List.mem_map_of_mem ht, Sk.1 h⟩
  · rintro ⟨t, ht, h⟩; exact ⟨⟨t⟩, Tt.1 ht, Sk.2 h⟩
def con_HitJust : Con := L3 (fun (l : Sl (Sl Int)) (s : Sl Int) => Rw l.l ∧ Lo s.l.length) (fun _ _ => true)
noncomputable def To : Ctx := ⟨tab, lkC [(10, K1), (11, K3), (15, K7), (12, Gr), (16, K6), (17, Gd), (18, Gm), (19, K0)], 60, lkB [], [], false⟩
theorem Ht : To.τ = tab := rfl
theorem Hv : To.Γ = lkC [(10, K1), (11, K3), (15, K7), (12, Gr), (16, K6), (17, Gd), (18, Gm), (19, K0)] := rfl
theorem Hu : To.dp = 60 := rfl
theorem Hw : To.Δ = lkB [] := rfl
theorem Hs : To.cuts = [] := rfl
theorem Hr : To.wr = false := rfl
set_option maxRecDepth 100000 in
theorem good_HitJust : Me Try.prog (4, con_HitJust) := by
  refine ⟨Gj Try.func4 (by kernel_rfl) rfl, ?_⟩
  have K : Hq Try.prog To := Gq H8 G4 (by
    intro p hp
    simp only [List.mem_cons, List.not_mem_nil, or_false] at hp
    rcases hp with rfl | rfl | rfl | rfl | rfl | rfl | rfl | rfl
    · exact C4
    · exact C3
    · exact Ry
    · exact Ih
    · exact E8
    · exact good_Less16
    · exact good_Without15
    · exact Fm) (by simp)
  obtain ⟨c, hc⟩ : ∃ c, Try.f4.body = some c := ⟨_, rfl⟩
  refine Gu K Try.func4 hc [.tmp 4] rfl 130 rfl (fun cvs hpre => ?_)
  change con_HitJust.pre cvs at hpre
  unfold con_HitJust at hpre
  obtain ⟨⟨l⟩, ⟨s⟩, rfl, hl, hs⟩ := Hx hpre
  simp only at hl hs
  clear hpre
  obtain ⟨hl1, hl2⟩ := id hl
  cases hf : fewB l 10 with
  | false =>
    simp only [Try.f4, Option.some.injEq] at hc
    subst hc
    refine Hy 8 (of_decide_eq_true (by kernel_rfl)) ?_
    (sym =>
     simp [hf,Ht,Hv,Hu,Hw,Hs,Hr,Gr.eq_def,K1.eq_def,con_HitJust.eq_def,K6.eq_def,Gd.eq_def,K0.eq_def,K7.eq_def,Gm.eq_def,K3.eq_def,Za,Zb,Zc,Zd,Ze,Zf,Zg,Zh,Zi,Zj,Zk,Zl,Zm,Zn,Zo,Zp,Zq,Zr,Zs,Zt,Zv,Zx,Z2,Z5,Z6,Z7,Z8,Z9,Qa,Qb,Qc,Qd,Qe,Qi,Qj,Qk,Ql,Qm,Qn,Qo,Qp,Qv,Qw,Qy,Qz,Q0,Q1,Q2,Q3,Q8,Ja,Jb,Jc,Jd,Je,Jl,Jp,Jq,Jr,Js,Jt,Ju,Jx,Jy,Jz,J0,J1,J2,J3,J4,J5,J6,J7,J8,Xb,Xc,Xd,Xe,Xf,Xg,Xh,Xi,Xj,Xk,Xl,Xm,Xn,Xo,Xp,Xq,Xs,Xt,Xu,Xv,Xw,Xx,Xy,Xz,X0,X1,X2,X3,X4,X5,X6,X7,X8,X9,Wa,Wb,Wc,Wd,We,Wf,Wg,Wh,Wi,Wj,Wl,Wm,Wn,Wo,Wp,Wq,Wr,Ws,Wt,Wu,Wv,Ww,Wx,Wy,Wz,W0,W1,W2,W3,W4,W5,W6,W7,W8,Yb,Yc,Yd,Ye,Yf,Yg,Yh,Yi,Yj,Yk,Yl,Ym,Yn,Yo,Yp,Yq,Yr,Ys,Yt,Yu,Yv,Yw,Yx,Yy,Yz,Y0,Y1,Y2,Y3,Y4,Y5,Y6,Y7,Y8,Y9,Va,Vb,Vc,Vd,Ve,Vf,Vg,Vh,Vi,Vj,Vk,Vl,Vm,Vn,Vo,Vp,Vq,Vr,Vs,Vt,Vu,Vv,Vw,Vx,Vy,Vz,V0,V1,V3,V4,V5,V6,V7,V8,V9,Ua,Ub,Uc,Ud,Ue,Uf,Ul,Um,Uq,Ur,Us,Ut,Uu,Uv,Uw,Ux,Uy,Uz,U0,U1,U3,U4,U5,U6,U7,U8,U9,Ka,Kb,Kc,Kd,Ke,Kf,Kg,Kh,Ki,Kj,Kk,Kl,Km,Kn,Ko,Kq,Kr,Ks,Kt,Ga,G5,K8,M0,Kz]
     tactic =>
      try simp only [K2] at *
      try simp only [nc2] at *
      try simp (maxSteps := 4000000) only [hf,Gg]
      repeat' (first | with_reducible assumption | with_reducible refine And.intro ?_ ?_ | intro _ | omega | (rw [Ku]; omega))
      all_goals first
        | assumption
        | omega
        | rfl
        | (with_reducible refine K9 ?_; kernel_rfl)
        | skip)
  | true =>
    rcases S5 20 (s.length : Int) with ⟨hs8, hsb⟩ | ⟨hs8, hsb⟩
    · skip
      simp only [Try.f4, Option.some.injEq] at hc
      subst hc
      refine Hy 8 (of_decide_eq_true (by kernel_rfl)) ?_
      (sym =>
       simp [hf,hsb,Ht,Hv,Hu,Hw,Hs,Hr,Gr.eq_def,K1.eq_def,con_HitJust.eq_def,K6.eq_def,Gd.eq_def,K0.eq_def,K7.eq_def,Gm.eq_def,K3.eq_def,Za,Zb,Zc,Zd,Ze,Zf,Zg,Zh,Zi,Zj,Zk,Zl,Zm,Zn,Zo,Zp,Zq,Zr,Zs,Zt,Zv,Zx,Z2,Z5,Z6,Z7,Z8,Z9,Qa,Qb,Qc,Qd,Qe,Qi,Qj,Qk,Ql,Qm,Qn,Qo,Qp,Qv,Qw,Qy,Qz,Q0,Q1,Q2,Q3,Q8,Ja,Jb,Jc,Jd,Je,Jl,Jp,Jq,Jr,Js,Jt,Ju,Jx,Jy,Jz,J0,J1,J2,J3,J4,J5,J6,J7,J8,Xb,Xc,Xd,Xe,Xf,Xg,Xh,Xi,Xj,Xk,Xl,Xm,Xn,Xo,Xp,Xq,Xs,Xt,Xu,Xv,Xw,Xx,Xy,Xz,X0,X1,X2,X3,X4,X5,X6,X7,X8,X9,Wa,Wb,Wc,Wd,We,Wf,Wg,Wh,Wi,Wj,Wl,Wm,Wn,Wo,Wp,Wq,Wr,Ws,Wt,Wu,Wv,Ww,Wx,Wy,Wz,W0,W1,W2,W3,W4,W5,W6,W7,W8,Yb,Yc,Yd,Ye,Yf,Yg,Yh,Yi,Yj,Yk,Yl,Ym,Yn,Yo,Yp,Yq,Yr,Ys,Yt,Yu,Yv,Yw,Yx,Yy,Yz,Y0,Y1,Y2,Y3,Y4,Y5,Y6,Y7,Y8,Y9,Va,Vb,Vc,Vd,Ve,Vf,Vg,Vh,Vi,Vj,Vk,Vl,Vm,Vn,Vo,Vp,Vq,Vr,Vs,Vt,Vu,Vv,Vw,Vx,Vy,Vz,V0,V1,V3,V4,V5,V6,V7,V8,V9,Ua,Ub,Uc,Ud,Ue,Uf,Ul,Um,Uq,Ur,Us,Ut,Uu,Uv,Uw,Ux,Uy,Uz,U0,U1,U3,U4,U5,U6,U7,U8,U9,Ka,Kb,Kc,Kd,Ke,Kf,Kg,Kh,Ki,Kj,Kk,Kl,Km,Kn,Ko,Kq,Kr,Ks,Kt,Ga,G5,K8,M0,Kz]
       tactic =>
        try simp only [K2] at *
        try simp only [nc2] at *
        try simp (maxSteps := 4000000) only [hf,hsb,Gg]
        repeat' (first | with_reducible assumption | with_reducible refine And.intro ?_ ?_ | intro _ | omega | (rw [Ku]; omega))
        all_goals first
          | assumption
          | omega
          | rfl
          | (with_reducible refine K9 ?_; kernel_rfl)
          | skip)
    cases hset : Ox s with
    | false =>
      simp only [Try.f4, Option.some.injEq] at hc
      subst hc
      refine Hy 8 (of_decide_eq_true (by kernel_rfl)) ?_
      (sym =>
       simp [hf,hsb,hset,Ht,Hv,Hu,Hw,Hs,Hr,Gr.eq_def,K1.eq_def,con_HitJust.eq_def,K6.eq_def,Gd.eq_def,K0.eq_def,K7.eq_def,Gm.eq_def,K3.eq_def,Za,Zb,Zc,Zd,Ze,Zf,Zg,Zh,Zi,Zj,Zk,Zl,Zm,Zn,Zo,Zp,Zq,Zr,Zs,Zt,Zv,Zx,Z2,Z5,Z6,Z7,Z8,Z9,Qa,Qb,Qc,Qd,Qe,Qi,Qj,Qk,Ql,Qm,Qn,Qo,Qp,Qv,Qw,Qy,Qz,Q0,Q1,Q2,Q3,Q8,Ja,Jb,Jc,Jd,Je,Jl,Jp,Jq,Jr,Js,Jt,Ju,Jx,Jy,Jz,J0,J1,J2,J3,J4,J5,J6,J7,J8,Xb,Xc,Xd,Xe,Xf,Xg,Xh,Xi,Xj,Xk,Xl,Xm,Xn,Xo,Xp,Xq,Xs,Xt,Xu,Xv,Xw,Xx,Xy,Xz,X0,X1,X2,X3,X4,X5,X6,X7,X8,X9,Wa,Wb,Wc,Wd,We,Wf,Wg,Wh,Wi,Wj,Wl,Wm,Wn,Wo,Wp,Wq,Wr,Ws,Wt,Wu,Wv,Ww,Wx,Wy,Wz,W0,W1,W2,W3,W4,W5,W6,W7,W8,Yb,Yc,Yd,Ye,Yf,Yg,Yh,Yi,Yj,Yk,Yl,Ym,Yn,Yo,Yp,Yq,Yr,Ys,Yt,Yu,Yv,Yw,Yx,Yy,Yz,Y0,Y1,Y2,Y3,Y4,Y5,Y6,Y7,Y8,Y9,Va,Vb,Vc,Vd,Ve,Vf,Vg,Vh,Vi,Vj,Vk,Vl,Vm,Vn,Vo,Vp,Vq,Vr,Vs,Vt,Vu,Vv,Vw,Vx,Vy,Vz,V0,V1,V3,V4,V5,V6,V7,V8,V9,Ua,Ub,Uc,Ud,Ue,Uf,Ul,Um,Uq,Ur,Us,Ut,Uu,Uv,Uw,Ux,Uy,Uz,U0,U1,U3,U4,U5,U6,U7,U8,U9,Ka,Kb,Kc,Kd,Ke,Kf,Kg,Kh,Ki,Kj,Kk,Kl,Km,Kn,Ko,Kq,Kr,Ks,Kt,Ga,G5,K8,M0,Kz]
       tactic =>
        try simp only [K2] at *
        try simp only [nc2] at *
        try simp (maxSteps := 4000000) only [hf,hsb,hset,Gg]
        repeat' (first | with_reducible assumption | with_reducible refine And.intro ?_ ?_ | intro _ | omega | (rw [Ku]; omega))
        all_goals first
          | assumption
          | omega
          | rfl
          | (with_reducible refine K9 ?_; kernel_rfl)
          | skip)
    | true =>
      obtain ⟨hov, hlen⟩ := ov_few (Int.le_refl _) hf
      have hA := ov_okA hov (by omega)
      have hx := allX_ok hov
      have ho1 := ov_all hov
      have hup := up_allH l
      have hst := Rq.1 hset
      have hfin : O4 (Cn l) s (Cn l).length = Du s l := by
        rw [Bool.eq_iff_iff, anyP_iff, Dt hst hov.1]
        constructor
        · rintro ⟨t, ht, h⟩
          exact hits_mono h ((Sc hov.1).1 ht).2.1
        · intro h
          obtain ⟨X, h1, h2⟩ := tr_ex s.length (Nat.le_refl _) hst h
          exact ⟨X, (Sc hov.1).2 h1, h2⟩
      have hat : ∀ i, i < (Cn l).length → Tr ((Cn l).getD i ⟨[]⟩).l (unS l) := fun i hi => (Sc hov.1).1 (at_mem hi)
      have hle := fun j => (ov_at ho1.1 j).1
      obtain ⟨A, hAe⟩ : ∃ A, Cn l = A := ⟨_, rfl⟩
      rw [hAe] at hx ho1 hup hfin hat hle
      have hAl := ho1.2
      simp only [Try.f4, Option.some.injEq] at hc
      subst hc
      refine Hy 8 (of_decide_eq_true (by kernel_rfl)) ?_
      (sym =>
       simp [hf,hsb,hset,hx,B5.eq_def,Ht,Hv,Hu,Hw,Hs,Hr,Gr.eq_def,K1.eq_def,con_HitJust.eq_def,K6.eq_def,Gd.eq_def,K0.eq_def,K7.eq_def,Gm.eq_def,K3.eq_def,Za,Zb,Zc,Zd,Ze,Zf,Zg,Zh,Zi,Zj,Zk,Zl,Zm,Zn,Zo,Zp,Zq,Zr,Zs,Zt,Zv,Zx,Z2,Z5,Z6,Z7,Z8,Z9,Qa,Qb,Qc,Qd,Qe,Qi,Qj,Qk,Ql,Qm,Qn,Qo,Qp,Qv,Qw,Qy,Qz,Q0,Q1,Q2,Q3,Q8,Ja,Jb,Jc,Jd,Je,Jl,Jp,Jq,Jr,Js,Jt,Ju,Jx,Jy,Jz,J0,J1,J2,J3,J4,J5,J6,J7,J8,Xb,Xc,Xd,Xe,Xf,Xg,Xh,Xi,Xj,Xk,Xl,Xm,Xn,Xo,Xp,Xq,Xs,Xt,Xu,Xv,Xw,Xx,Xy,Xz,X0,X1,X2,X3,X4,X5,X6,X7,X8,X9,Wa,Wb,Wc,Wd,We,Wf,Wg,Wh,Wi,Wj,Wl,Wm,Wn,Wo,Wp,Wq,Wr,Ws,Wt,Wu,Wv,Ww,Wx,Wy,Wz,W0,W1,W2,W3,W4,W5,W6,W7,W8,Yb,Yc,Yd,Ye,Yf,Yg,Yh,Yi,Yj,Yk,Yl,Ym,Yn,Yo,Yp,Yq,Yr,Ys,Yt,Yu,Yv,Yw,Yx,Yy,Yz,Y0,Y1,Y2,Y3,Y4,Y5,Y6,Y7,Y8,Y9,Va,Vb,Vc,Vd,Ve,Vf,Vg,Vh,Vi,Vj,Vk,Vl,Vm,Vn,Vo,Vp,Vq,Vr,Vs,Vt,Vu,Vv,Vw,Vx,Vy,Vz,V0,V1,V3,V4,V5,V6,V7,V8,V9,Ua,Ub,Uc,Ud,Ue,Uf,Ul,Um,Uq,Ur,Us,Ut,Uu,Uv,Uw,Ux,Uy,Uz,U0,U1,U3,U4,U5,U6,U7,U8,U9,Ka,Kb,Kc,Kd,Ke,Kf,Kg,Kh,Ki,Kj,Kk,Kl,Km,Kn,Ko,Kq,Kr,Ks,Kt,Ga,G5,K8,M0,Kz]
       tactic =>
        try simp only [K2] at *
        try simp only [nc2] at *
        try simp (maxSteps := 4000000) only [hf,hsb,hset,hx,B5.eq_def,Gg]
        repeat' (first | with_reducible assumption | with_reducible refine And.intro ?_ ?_ | intro _ | omega | (rw [Ku]; omega))
        all_goals first
          | (with_reducible refine K9 ?_; kernel_rfl)
          | omega
          | skip
        refine Gi [4, 9, 10, 32, 33, 34, 35, 36, 37, 38, 39, 40, 41, 42, 43, 44, 45, 46, 47, 48, 49, 50, 51, 52, 53, 54, 55, 56, 57, 58, 59, 60, 61, 62, 63, 64, 65, 66, 67, 68, 69, 70, 71, 72, 73, 74, 75, 76, 77, 78, 79, 80, 81, 82, 83, 84, 85, 86, 87, 88, 89, 90, 91, 92, 93, 94, 95, 96, 97, 98, 99, 100, 101, 102, 103, 104, 105, 106, 107, 108, 109, 110, 111, 112, 113, 114, 115, 116, 117, 118, 119, 120, 121] (fun i : Nat => [(8, .d (.int .i64 i)), (7, .d (.bool (O4 A s i)))]) (fun i : Nat => []) (fun i : Nat => i ≤ A.length) (fun i : Nat => A.length - i) 0 ?_ ?_ ?_
        · exact Nat.zero_le _
        · ((try simp only [Kv, Ky, Kx, K4, upd, K5, Gb, Gs, Nat.reduceDiv, Nat.reduceMod, Nat.reduceMul, Nat.reduceAdd, Nat.reduceEqDiff, List.set_cons_zero, List.set_cons_succ, if_true, if_false, reduceIte]); (first | refine Wk.of_fl ?_ | skip); simp only [Wk, wkK, Gy, wkT, wk1, AV.kept, keptAll, wkO, lk, Kw, and_true, true_and, and_self, Nat.reduceEqDiff, Nat.reduceLeDiff, if_true, if_false, reduceIte, reduceCtorEq, Option.isSome, false_implies]; try simp [Wk, wkK, wkT, wk1, AV.kept, keptAll, wkO, lk, Kw, O4])
        rintro i hi
        rcases Gl i A.length with ⟨hil, hib⟩ | ⟨hil, hib⟩
        · have q1 := Hd (⟨[]⟩ : Sl Int) hil
          have htr := hat i hil
          have hsucc := anyP_succ (s := s) hil
          have hal := hle i
          have hpart : ∀ k, k < A.length → k ≠ i → Sq (A.getD k ⟨[]⟩).l (A.getD i ⟨[]⟩).l = false := by
            intro k hk hne
            rw [← Bool.not_eq_true, Sk]
            intro hc
            exact hne (up_ne hup hk hil (tr_min htr (hat k hk).1 (hat k hk).2.1 hc))
          have hprev : ∀ j, j < i → Nb (A.getD j ⟨[]⟩).l (A.getD i ⟨[]⟩).l = true := fun j hj => up_at hup hj hil
          obtain ⟨⟨a⟩, ha⟩ : ∃ x, A.getD i ⟨[]⟩ = x := ⟨_, rfl⟩
          rw [ha] at q1 htr hsucc hpart hprev hal
          simp only at htr hsucc hpart hprev hal
          have hsa : Ox a = true := Rq.2 htr.1
          have hha : Du a l = true := (Dt htr.1 hov.1).2 htr.2.1
          have hmin : ∀ x ∈ a, Du (woB a x) l = false := by
            intro x hx
            rw [← Bool.not_eq_true, Dt (Ro htr.1) hov.1]
            exact htr.2.2 x hx
          by_cases hi0 : i = 0
          · have hz : ltB 0 (i : Int) = false := by rw [Hg]; omega
            (sym =>
             simp [hib,q1,hsa,hha,hz,Ht,Hv,Hu,Hw,Hs,Hr,Gr.eq_def,K1.eq_def,con_HitJust.eq_def,K6.eq_def,Gd.eq_def,K0.eq_def,K7.eq_def,Gm.eq_def,K3.eq_def,Za,Zb,Zc,Zd,Ze,Zf,Zg,Zh,Zi,Zj,Zk,Zl,Zm,Zn,Zo,Zp,Zq,Zr,Zs,Zt,Zv,Zx,Z2,Z5,Z6,Z7,Z8,Z9,Qa,Qb,Qc,Qd,Qe,Qi,Qj,Qk,Ql,Qm,Qn,Qo,Qp,Qv,Qw,Qy,Qz,Q0,Q1,Q2,Q3,Q8,Ja,Jb,Jc,Jd,Je,Jl,Jp,Jq,Jr,Js,Jt,Ju,Jx,Jy,Jz,J0,J1,J2,J3,J4,J5,J6,J7,J8,Xb,Xc,Xd,Xe,Xf,Xg,Xh,Xi,Xj,Xk,Xl,Xm,Xn,Xo,Xp,Xq,Xs,Xt,Xu,Xv,Xw,Xx,Xy,Xz,X0,X1,X2,X3,X4,X5,X6,X7,X8,X9,Wa,Wb,Wc,Wd,We,Wf,Wg,Wh,Wi,Wj,Wl,Wm,Wn,Wo,Wp,Wq,Wr,Ws,Wt,Wu,Wv,Ww,Wx,Wy,Wz,W0,W1,W2,W3,W4,W5,W6,W7,W8,Yb,Yc,Yd,Ye,Yf,Yg,Yh,Yi,Yj,Yk,Yl,Ym,Yn,Yo,Yp,Yq,Yr,Ys,Yt,Yu,Yv,Yw,Yx,Yy,Yz,Y0,Y1,Y2,Y3,Y4,Y5,Y6,Y7,Y8,Y9,Va,Vb,Vc,Vd,Ve,Vf,Vg,Vh,Vi,Vj,Vk,Vl,Vm,Vn,Vo,Vp,Vq,Vr,Vs,Vt,Vu,Vv,Vw,Vx,Vy,Vz,V0,V1,V3,V4,V5,V6,V7,V8,V9,Ua,Ub,Uc,Ud,Ue,Uf,Ul,Um,Uq,Ur,Us,Ut,Uu,Uv,Uw,Ux,Uy,Uz,U0,U1,U3,U4,U5,U6,U7,U8,U9,Ka,Kb,Kc,Kd,Ke,Kf,Kg,Kh,Ki,Kj,Kk,Kl,Km,Kn,Ko,Kq,Kr,Ks,Kt,Ga,G5,K8,M0,Kz]
             tactic =>
              try simp only [K2] at *
              try simp only [nc2] at *
              try simp (maxSteps := 4000000) only [hib,q1,hsa,hha,hz,Gg]
              repeat' (first | with_reducible assumption | with_reducible refine And.intro ?_ ?_ | intro _ | omega | (rw [Ku]; omega))
              all_goals first
                | (with_reducible refine K9 ?_; kernel_rfl)
                | assumption
                | omega
                | skip
              refine Gi [4, 70, 71, 72, 73, 74, 75, 76, 77, 78, 79, 80, 81, 82, 83, 84, 85, 86, 87, 88, 89, 90, 91, 92] (fun k : Nat => [(9, .d (.int .i64 k))]) (fun k : Nat => []) (fun k : Nat => k ≤ a.length) (fun k : Nat => a.length - k) 0 ?_ ?_ ?_
              · exact Nat.zero_le _
              · ((try simp only [Kv, Ky, Kx, K4, upd, K5, Gb, Gs, Nat.reduceDiv, Nat.reduceMod, Nat.reduceMul, Nat.reduceAdd, Nat.reduceEqDiff, List.set_cons_zero, List.set_cons_succ, if_true, if_false, reduceIte]); (first | refine Wk.of_fl ?_ | skip); simp only [Wk, wkK, Gy, wkT, wk1, AV.kept, keptAll, wkO, lk, Kw, and_true, true_and, and_self, Nat.reduceEqDiff, Nat.reduceLeDiff, if_true, if_false, reduceIte, reduceCtorEq, Option.isSome, false_implies]; try simp [Wk, wkK, wkT, wk1, AV.kept, keptAll, wkO, lk, Kw])
              rintro k hk
              rcases Gl k a.length with ⟨hkl, hkb⟩ | ⟨hkl, hkb⟩
              · have f1 := Hd (0 : Int) hkl
                have hxm : a.getD k 0 ∈ a := by rw [List.getD_eq_getElem?_getD, List.getElem?_eq_getElem hkl]; exact List.getElem_mem hkl
                have hno := hmin (a.getD k 0) hxm
                have hwl := woB_len a (a.getD k 0)
                obtain ⟨x, hx⟩ : ∃ x, a.getD k 0 = x := ⟨_, rfl⟩
                rw [hx] at f1 hno hwl
                have hwd : (a.filter fun y => y != x) = woB a x := rfl
                obtain ⟨w, hw⟩ : ∃ w, woB a x = w := ⟨_, rfl⟩
                rw [hw] at hno hwl hwd
                (sym =>
                 simp [hib,q1,hkb,f1,hwd,hno,Ht,Hv,Hu,Hw,Hs,Hr,Gr.eq_def,K1.eq_def,con_HitJust.eq_def,K6.eq_def,Gd.eq_def,K0.eq_def,K7.eq_def,Gm.eq_def,K3.eq_def,Za,Zb,Zc,Zd,Ze,Zf,Zg,Zh,Zi,Zj,Zk,Zl,Zm,Zn,Zo,Zp,Zq,Zr,Zs,Zt,Zv,Zx,Z2,Z5,Z6,Z7,Z8,Z9,Qa,Qb,Qc,Qd,Qe,Qi,Qj,Qk,Ql,Qm,Qn,Qo,Qp,Qv,Qw,Qy,Qz,Q0,Q1,Q2,Q3,Q8,Ja,Jb,Jc,Jd,Je,Jl,Jp,Jq,Jr,Js,Jt,Ju,Jx,Jy,Jz,J0,J1,J2,J3,J4,J5,J6,J7,J8,Xb,Xc,Xd,Xe,Xf,Xg,Xh,Xi,Xj,Xk,Xl,Xm,Xn,Xo,Xp,Xq,Xs,Xt,Xu,Xv,Xw,Xx,Xy,Xz,X0,X1,X2,X3,X4,X5,X6,X7,X8,X9,Wa,Wb,Wc,Wd,We,Wf,Wg,Wh,Wi,Wj,Wl,Wm,Wn,Wo,Wp,Wq,Wr,Ws,Wt,Wu,Wv,Ww,Wx,Wy,Wz,W0,W1,W2,W3,W4,W5,W6,W7,W8,Yb,Yc,Yd,Ye,Yf,Yg,Yh,Yi,Yj,Yk,Yl,Ym,Yn,Yo,Yp,Yq,Yr,Ys,Yt,Yu,Yv,Yw,Yx,Yy,Yz,Y0,Y1,Y2,Y3,Y4,Y5,Y6,Y7,Y8,Y9,Va,Vb,Vc,Vd,Ve,Vf,Vg,Vh,Vi,Vj,Vk,Vl,Vm,Vn,Vo,Vp,Vq,Vr,Vs,Vt,Vu,Vv,Vw,Vx,Vy,Vz,V0,V1,V3,V4,V5,V6,V7,V8,V9,Ua,Ub,Uc,Ud,Ue,Uf,Ul,Um,Uq,Ur,Us,Ut,Uu,Uv,Uw,Ux,Uy,Uz,U0,U1,U3,U4,U5,U6,U7,U8,U9,Ka,Kb,Kc,Kd,Ke,Kf,Kg,Kh,Ki,Kj,Kk,Kl,Km,Kn,Ko,Kq,Kr,Ks,Kt,Ga,G5,K8,M0,Kz]
                 tactic =>
                  try simp only [K2] at *
                  try simp only [nc2] at *
                  try simp (maxSteps := 4000000) only [hib,q1,hkb,f1,hwd,hno,Gg]
                  repeat' (first | with_reducible assumption | with_reducible refine And.intro ?_ ?_ | intro _ | omega | (rw [Ku]; omega))
                  all_goals first
                    | (with_reducible refine K9 ?_; kernel_rfl)
                    | assumption
                    | omega
                    | exact ⟨k + 1, by ((try simp only [Kv, Ky, Kx, K4, upd, K5, Gb, Gs, Nat.reduceDiv, Nat.reduceMod, Nat.reduceMul, Nat.reduceAdd, Nat.reduceEqDiff, List.set_cons_zero, List.set_cons_succ, if_true, if_false, reduceIte]); (first | refine Wk.of_fl ?_ | skip); simp only [Wk, wkK, Gy, wkT, wk1, AV.kept, keptAll, wkO, lk, Kw, and_true, true_and, and_self, Nat.reduceEqDiff, Nat.reduceLeDiff, if_true, if_false, reduceIte, reduceCtorEq, Option.isSome, false_implies]; try simp [Wk, wkK, wkT, wk1, AV.kept, keptAll, wkO, lk, Kw]), by omega, by omega⟩
                    | skip)
              · skip
                (sym =>
                 simp [hib,q1,hkb,Ht,Hv,Hu,Hw,Hs,Hr,Gr.eq_def,K1.eq_def,con_HitJust.eq_def,K6.eq_def,Gd.eq_def,K0.eq_def,K7.eq_def,Gm.eq_def,K3.eq_def,Za,Zb,Zc,Zd,Ze,Zf,Zg,Zh,Zi,Zj,Zk,Zl,Zm,Zn,Zo,Zp,Zq,Zr,Zs,Zt,Zv,Zx,Z2,Z5,Z6,Z7,Z8,Z9,Qa,Qb,Qc,Qd,Qe,Qi,Qj,Qk,Ql,Qm,Qn,Qo,Qp,Qv,Qw,Qy,Qz,Q0,Q1,Q2,Q3,Q8,Ja,Jb,Jc,Jd,Je,Jl,Jp,Jq,Jr,Js,Jt,Ju,Jx,Jy,Jz,J0,J1,J2,J3,J4,J5,J6,J7,J8,Xb,Xc,Xd,Xe,Xf,Xg,Xh,Xi,Xj,Xk,Xl,Xm,Xn,Xo,Xp,Xq,Xs,Xt,Xu,Xv,Xw,Xx,Xy,Xz,X0,X1,X2,X3,X4,X5,X6,X7,X8,X9,Wa,Wb,Wc,Wd,We,Wf,Wg,Wh,Wi,Wj,Wl,Wm,Wn,Wo,Wp,Wq,Wr,Ws,Wt,Wu,Wv,Ww,Wx,Wy,Wz,W0,W1,W2,W3,W4,W5,W6,W7,W8,Yb,Yc,Yd,Ye,Yf,Yg,Yh,Yi,Yj,Yk,Yl,Ym,Yn,Yo,Yp,Yq,Yr,Ys,Yt,Yu,Yv,Yw,Yx,Yy,Yz,Y0,Y1,Y2,Y3,Y4,Y5,Y6,Y7,Y8,Y9,Va,Vb,Vc,Vd,Ve,Vf,Vg,Vh,Vi,Vj,Vk,Vl,Vm,Vn,Vo,Vp,Vq,Vr,Vs,Vt,Vu,Vv,Vw,Vx,Vy,Vz,V0,V1,V3,V4,V5,V6,V7,V8,V9,Ua,Ub,Uc,Ud,Ue,Uf,Ul,Um,Uq,Ur,Us,Ut,Uu,Uv,Uw,Ux,Uy,Uz,U0,U1,U3,U4,U5,U6,U7,U8,U9,Ka,Kb,Kc,Kd,Ke,Kf,Kg,Kh,Ki,Kj,Kk,Kl,Km,Kn,Ko,Kq,Kr,Ks,Kt,Ga,G5,K8,M0,Kz]
                 tactic =>
                  try simp only [K2] at *
                  try simp only [nc2] at *
                  try simp (maxSteps := 4000000) only [hib,q1,hkb,Gg]
                  repeat' (first | with_reducible assumption | with_reducible refine And.intro ?_ ?_ | intro _ | omega | (rw [Ku]; omega))
                  all_goals first
                    | (with_reducible refine K9 ?_; kernel_rfl)
                    | omega
                    | skip
                  refine Gi [4, 93, 94, 95, 96, 97, 98, 99, 100, 101, 102, 103, 104, 105, 106, 107, 108, 109, 110, 111, 112] (fun k : Nat => [(10, .d (.int .i64 k))]) (fun k : Nat => []) (fun k : Nat => k ≤ A.length) (fun k : Nat => A.length - k) 0 ?_ ?_ ?_
                  · exact Nat.zero_le _
                  · ((try simp only [Kv, Ky, Kx, K4, upd, K5, Gb, Gs, Nat.reduceDiv, Nat.reduceMod, Nat.reduceMul, Nat.reduceAdd, Nat.reduceEqDiff, List.set_cons_zero, List.set_cons_succ, if_true, if_false, reduceIte]); (first | refine Wk.of_fl ?_ | skip); simp only [Wk, wkK, Gy, wkT, wk1, AV.kept, keptAll, wkO, lk, Kw, and_true, true_and, and_self, Nat.reduceEqDiff, Nat.reduceLeDiff, if_true, if_false, reduceIte, reduceCtorEq, Option.isSome, false_implies]; try simp [Wk, wkK, wkT, wk1, AV.kept, keptAll, wkO, lk, Kw])
                  rintro k hk
                  rcases Gl k A.length with ⟨hkl, hkb⟩ | ⟨hkl, hkb⟩
                  · have f1 := Hd (⟨[]⟩ : Sl Int) hkl
                    have hnp := hpart k hkl
                    have hbl := hle k
                    obtain ⟨⟨b⟩, hb⟩ : ∃ x, A.getD k ⟨[]⟩ = x := ⟨_, rfl⟩
                    rw [hb] at f1 hnp hbl
                    simp only at hnp hbl
                    by_cases hki : k = i
                    · have hne : ((k : Int) != (i : Int)) = false := by rw [hki]; exact bne_self_eq_false _
                      (sym =>
                       simp [hib,q1,hkb,f1,hne,Ht,Hv,Hu,Hw,Hs,Hr,Gr.eq_def,K1.eq_def,con_HitJust.eq_def,K6.eq_def,Gd.eq_def,K0.eq_def,K7.eq_def,Gm.eq_def,K3.eq_def,Za,Zb,Zc,Zd,Ze,Zf,Zg,Zh,Zi,Zj,Zk,Zl,Zm,Zn,Zo,Zp,Zq,Zr,Zs,Zt,Zv,Zx,Z2,Z5,Z6,Z7,Z8,Z9,Qa,Qb,Qc,Qd,Qe,Qi,Qj,Qk,Ql,Qm,Qn,Qo,Qp,Qv,Qw,Qy,Qz,Q0,Q1,Q2,Q3,Q8,Ja,Jb,Jc,Jd,Je,Jl,Jp,Jq,Jr,Js,Jt,Ju,Jx,Jy,Jz,J0,J1,J2,J3,J4,J5,J6,J7,J8,Xb,Xc,Xd,Xe,Xf,Xg,Xh,Xi,Xj,Xk,Xl,Xm,Xn,Xo,Xp,Xq,Xs,Xt,Xu,Xv,Xw,Xx,Xy,Xz,X0,X1,X2,X3,X4,X5,X6,X7,X8,X9,Wa,Wb,Wc,Wd,We,Wf,Wg,Wh,Wi,Wj,Wl,Wm,Wn,Wo,Wp,Wq,Wr,Ws,Wt,Wu,Wv,Ww,Wx,Wy,Wz,W0,W1,W2,W3,W4,W5,W6,W7,W8,Yb,Yc,Yd,Ye,Yf,Yg,Yh,Yi,Yj,Yk,Yl,Ym,Yn,Yo,Yp,Yq,Yr,Ys,Yt,Yu,Yv,Yw,Yx,Yy,Yz,Y0,Y1,Y2,Y3,Y4,Y5,Y6,Y7,Y8,Y9,Va,Vb,Vc,Vd,Ve,Vf,Vg,Vh,Vi,Vj,Vk,Vl,Vm,Vn,Vo,Vp,Vq,Vr,Vs,Vt,Vu,Vv,Vw,Vx,Vy,Vz,V0,V1,V3,V4,V5,V6,V7,V8,V9,Ua,Ub,Uc,Ud,Ue,Uf,Ul,Um,Uq,Ur,Us,Ut,Uu,Uv,Uw,Ux,Uy,Uz,U0,U1,U3,U4,U5,U6,U7,U8,U9,Ka,Kb,Kc,Kd,Ke,Kf,Kg,Kh,Ki,Kj,Kk,Kl,Km,Kn,Ko,Kq,Kr,Ks,Kt,Ga,G5,K8,M0,Kz]
                       tactic =>
                        try simp only [K2] at *
                        try simp only [nc2] at *
                        try simp (maxSteps := 4000000) only [hib,q1,hkb,f1,hne,Gg]
                        repeat' (first | with_reducible assumption | with_reducible refine And.intro ?_ ?_ | intro _ | omega | (rw [Ku]; omega))
                        all_goals first
                          | (with_reducible refine K9 ?_; kernel_rfl)
                          | omega
                          | exact ⟨k + 1, by ((try simp only [Kv, Ky, Kx, K4, upd, K5, Gb, Gs, Nat.reduceDiv, Nat.reduceMod, Nat.reduceMul, Nat.reduceAdd, Nat.reduceEqDiff, List.set_cons_zero, List.set_cons_succ, if_true, if_false, reduceIte]); (first | refine Wk.of_fl ?_ | skip); simp only [Wk, wkK, Gy, wkT, wk1, AV.kept, keptAll, wkO, lk, Kw, and_true, true_and, and_self, Nat.reduceEqDiff, Nat.reduceLeDiff, if_true, if_false, reduceIte, reduceCtorEq, Option.isSome, false_implies]; try simp [Wk, wkK, wkT, wk1, AV.kept, keptAll, wkO, lk, Kw]), by omega, by omega⟩
                          | skip)
                    · have hne : ((k : Int) != (i : Int)) = true := by rw [bne_iff_ne]; omega
                      have hnp' := hnp hki
                      (sym =>
                       simp [hib,q1,hkb,f1,hne,hnp',Ht,Hv,Hu,Hw,Hs,Hr,Gr.eq_def,K1.eq_def,con_HitJust.eq_def,K6.eq_def,Gd.eq_def,K0.eq_def,K7.eq_def,Gm.eq_def,K3.eq_def,Za,Zb,Zc,Zd,Ze,Zf,Zg,Zh,Zi,Zj,Zk,Zl,Zm,Zn,Zo,Zp,Zq,Zr,Zs,Zt,Zv,Zx,Z2,Z5,Z6,Z7,Z8,Z9,Qa,Qb,Qc,Qd,Qe,Qi,Qj,Qk,Ql,Qm,Qn,Qo,Qp,Qv,Qw,Qy,Qz,Q0,Q1,Q2,Q3,Q8,Ja,Jb,Jc,Jd,Je,Jl,Jp,Jq,Jr,Js,Jt,Ju,Jx,Jy,Jz,J0,J1,J2,J3,J4,J5,J6,J7,J8,Xb,Xc,Xd,Xe,Xf,Xg,Xh,Xi,Xj,Xk,Xl,Xm,Xn,Xo,Xp,Xq,Xs,Xt,Xu,Xv,Xw,Xx,Xy,Xz,X0,X1,X2,X3,X4,X5,X6,X7,X8,X9,Wa,Wb,Wc,Wd,We,Wf,Wg,Wh,Wi,Wj,Wl,Wm,Wn,Wo,Wp,Wq,Wr,Ws,Wt,Wu,Wv,Ww,Wx,Wy,Wz,W0,W1,W2,W3,W4,W5,W6,W7,W8,Yb,Yc,Yd,Ye,Yf,Yg,Yh,Yi,Yj,Yk,Yl,Ym,Yn,Yo,Yp,Yq,Yr,Ys,Yt,Yu,Yv,Yw,Yx,Yy,Yz,Y0,Y1,Y2,Y3,Y4,Y5,Y6,Y7,Y8,Y9,Va,Vb,Vc,Vd,Ve,Vf,Vg,Vh,Vi,Vj,Vk,Vl,Vm,Vn,Vo,Vp,Vq,Vr,Vs,Vt,Vu,Vv,Vw,Vx,Vy,Vz,V0,V1,V3,V4,V5,V6,V7,V8,V9,Ua,Ub,Uc,Ud,Ue,Uf,Ul,Um,Uq,Ur,Us,Ut,Uu,Uv,Uw,Ux,Uy,Uz,U0,U1,U3,U4,U5,U6,U7,U8,U9,Ka,Kb,Kc,Kd,Ke,Kf,Kg,Kh,Ki,Kj,Kk,Kl,Km,Kn,Ko,Kq,Kr,Ks,Kt,Ga,G5,K8,M0,Kz]
                       tactic =>
                        try simp only [K2] at *
                        try simp only [nc2] at *
                        try simp (maxSteps := 4000000) only [hib,q1,hkb,f1,hne,hnp',Gg]
                        repeat' (first | with_reducible assumption | with_reducible refine And.intro ?_ ?_ | intro _ | omega | (rw [Ku]; omega))
                        all_goals first
                          | (with_reducible refine K9 ?_; kernel_rfl)
                          | omega
                          | exact ⟨k + 1, by ((try simp only [Kv, Ky, Kx, K4, upd, K5, Gb, Gs, Nat.reduceDiv, Nat.reduceMod, Nat.reduceMul, Nat.reduceAdd, Nat.reduceEqDiff, List.set_cons_zero, List.set_cons_succ, if_true, if_false, reduceIte]); (first | refine Wk.of_fl ?_ | skip); simp only [Wk, wkK, Gy, wkT, wk1, AV.kept, keptAll, wkO, lk, Kw, and_true, true_and, and_self, Nat.reduceEqDiff, Nat.reduceLeDiff, if_true, if_false, reduceIte, reduceCtorEq, Option.isSome, false_implies]; try simp [Wk, wkK, wkT, wk1, AV.kept, keptAll, wkO, lk, Kw]), by omega, by omega⟩
                          | skip)
                  · obtain ⟨v, hv⟩ : ∃ v, O4 A s i = v := ⟨_, rfl⟩
                    rw [hv] at hsucc ⊢
                    cases v with
                    | true =>
                      rw [Bool.true_or] at hsucc
                      (sym =>
                       simp [hib,q1,hkb,Ht,Hv,Hu,Hw,Hs,Hr,Gr.eq_def,K1.eq_def,con_HitJust.eq_def,K6.eq_def,Gd.eq_def,K0.eq_def,K7.eq_def,Gm.eq_def,K3.eq_def,Za,Zb,Zc,Zd,Ze,Zf,Zg,Zh,Zi,Zj,Zk,Zl,Zm,Zn,Zo,Zp,Zq,Zr,Zs,Zt,Zv,Zx,Z2,Z5,Z6,Z7,Z8,Z9,Qa,Qb,Qc,Qd,Qe,Qi,Qj,Qk,Ql,Qm,Qn,Qo,Qp,Qv,Qw,Qy,Qz,Q0,Q1,Q2,Q3,Q8,Ja,Jb,Jc,Jd,Je,Jl,Jp,Jq,Jr,Js,Jt,Ju,Jx,Jy,Jz,J0,J1,J2,J3,J4,J5,J6,J7,J8,Xb,Xc,Xd,Xe,Xf,Xg,Xh,Xi,Xj,Xk,Xl,Xm,Xn,Xo,Xp,Xq,Xs,Xt,Xu,Xv,Xw,Xx,Xy,Xz,X0,X1,X2,X3,X4,X5,X6,X7,X8,X9,Wa,Wb,Wc,Wd,We,Wf,Wg,Wh,Wi,Wj,Wl,Wm,Wn,Wo,Wp,Wq,Wr,Ws,Wt,Wu,Wv,Ww,Wx,Wy,Wz,W0,W1,W2,W3,W4,W5,W6,W7,W8,Yb,Yc,Yd,Ye,Yf,Yg,Yh,Yi,Yj,Yk,Yl,Ym,Yn,Yo,Yp,Yq,Yr,Ys,Yt,Yu,Yv,Yw,Yx,Yy,Yz,Y0,Y1,Y2,Y3,Y4,Y5,Y6,Y7,Y8,Y9,Va,Vb,Vc,Vd,Ve,Vf,Vg,Vh,Vi,Vj,Vk,Vl,Vm,Vn,Vo,Vp,Vq,Vr,Vs,Vt,Vu,Vv,Vw,Vx,Vy,Vz,V0,V1,V3,V4,V5,V6,V7,V8,V9,Ua,Ub,Uc,Ud,Ue,Uf,Ul,Um,Uq,Ur,Us,Ut,Uu,Uv,Uw,Ux,Uy,Uz,U0,U1,U3,U4,U5,U6,U7,U8,U9,Ka,Kb,Kc,Kd,Ke,Kf,Kg,Kh,Ki,Kj,Kk,Kl,Km,Kn,Ko,Kq,Kr,Ks,Kt,Ga,G5,K8,M0,Kz]
                       tactic =>
                        try simp only [K2] at *
                        try simp only [nc2] at *
                        try simp (maxSteps := 4000000) only [hib,q1,hkb,Gg]
                        repeat' (first | with_reducible assumption | with_reducible refine And.intro ?_ ?_ | intro _ | omega | (rw [Ku]; omega))
                        all_goals first
                          | (with_reducible refine K9 ?_; kernel_rfl)
                          | omega
                          | exact ⟨i + 1, by rw [hsucc]; ((try simp only [Kv, Ky, Kx, K4, upd, K5, Gb, Gs, Nat.reduceDiv, Nat.reduceMod, Nat.reduceMul, Nat.reduceAdd, Nat.reduceEqDiff, List.set_cons_zero, List.set_cons_succ, if_true, if_false, reduceIte]); (first | refine Wk.of_fl ?_ | skip); simp only [Wk, wkK, Gy, wkT, wk1, AV.kept, keptAll, wkO, lk, Kw, and_true, true_and, and_self, Nat.reduceEqDiff, Nat.reduceLeDiff, if_true, if_false, reduceIte, reduceCtorEq, Option.isSome, false_implies]; try simp [Wk, wkK, wkT, wk1, AV.kept, keptAll, wkO, lk, Kw]), by omega, by omega⟩
                          | skip)
                    | false =>
                      rw [Bool.false_or] at hsucc
                      obtain ⟨v2, hv2⟩ : ∃ v, Sq a s = v := ⟨_, rfl⟩
                      rw [hv2] at hsucc
                      (sym =>
                       simp [hib,q1,hkb,hv2,Ht,Hv,Hu,Hw,Hs,Hr,Gr.eq_def,K1.eq_def,con_HitJust.eq_def,K6.eq_def,Gd.eq_def,K0.eq_def,K7.eq_def,Gm.eq_def,K3.eq_def,Za,Zb,Zc,Zd,Ze,Zf,Zg,Zh,Zi,Zj,Zk,Zl,Zm,Zn,Zo,Zp,Zq,Zr,Zs,Zt,Zv,Zx,Z2,Z5,Z6,Z7,Z8,Z9,Qa,Qb,Qc,Qd,Qe,Qi,Qj,Qk,Ql,Qm,Qn,Qo,Qp,Qv,Qw,Qy,Qz,Q0,Q1,Q2,Q3,Q8,Ja,Jb,Jc,Jd,Je,Jl,Jp,Jq,Jr,Js,Jt,Ju,Jx,Jy,Jz,J0,J1,J2,J3,J4,J5,J6,J7,J8,Xb,Xc,Xd,Xe,Xf,Xg,Xh,Xi,Xj,Xk,Xl,Xm,Xn,Xo,Xp,Xq,Xs,Xt,Xu,Xv,Xw,Xx,Xy,Xz,X0,X1,X2,X3,X4,X5,X6,X7,X8,X9,Wa,Wb,Wc,Wd,We,Wf,Wg,Wh,Wi,Wj,Wl,Wm,Wn,Wo,Wp,Wq,Wr,Ws,Wt,Wu,Wv,Ww,Wx,Wy,Wz,W0,W1,W2,W3,W4,W5,W6,W7,W8,Yb,Yc,Yd,Ye,Yf,Yg,Yh,Yi,Yj,Yk,Yl,Ym,Yn,Yo,Yp,Yq,Yr,Ys,Yt,Yu,Yv,Yw,Yx,Yy,Yz,Y0,Y1,Y2,Y3,Y4,Y5,Y6,Y7,Y8,Y9,Va,Vb,Vc,Vd,Ve,Vf,Vg,Vh,Vi,Vj,Vk,Vl,Vm,Vn,Vo,Vp,Vq,Vr,Vs,Vt,Vu,Vv,Vw,Vx,Vy,Vz,V0,V1,V3,V4,V5,V6,V7,V8,V9,Ua,Ub,Uc,Ud,Ue,Uf,Ul,Um,Uq,Ur,Us,Ut,Uu,Uv,Uw,Ux,Uy,Uz,U0,U1,U3,U4,U5,U6,U7,U8,U9,Ka,Kb,Kc,Kd,Ke,Kf,Kg,Kh,Ki,Kj,Kk,Kl,Km,Kn,Ko,Kq,Kr,Ks,Kt,Ga,G5,K8,M0,Kz]
                       tactic =>
                        try simp only [K2] at *
                        try simp only [nc2] at *
                        try simp (maxSteps := 4000000) only [hib,q1,hkb,hv2,Gg]
                        repeat' (first | with_reducible assumption | with_reducible refine And.intro ?_ ?_ | intro _ | omega | (rw [Ku]; omega))
                        all_goals first
                          | (with_reducible refine K9 ?_; kernel_rfl)
                          | omega
                          | exact ⟨i + 1, by rw [hsucc]; ((try simp only [Kv, Ky, Kx, K4, upd, K5, Gb, Gs, Nat.reduceDiv, Nat.reduceMod, Nat.reduceMul, Nat.reduceAdd, Nat.reduceEqDiff, List.set_cons_zero, List.set_cons_succ, if_true, if_false, reduceIte]); (first | refine Wk.of_fl ?_ | skip); simp only [Wk, wkK, Gy, wkT, wk1, AV.kept, keptAll, wkO, lk, Kw, and_true, true_and, and_self, Nat.reduceEqDiff, Nat.reduceLeDiff, if_true, if_false, reduceIte, reduceCtorEq, Option.isSome, false_implies]; try simp [Wk, wkK, wkT, wk1, AV.kept, keptAll, wkO, lk, Kw]), by omega, by omega⟩
                          | skip)))
          · have hz : ltB 0 (i : Int) = true := by rw [Nr]; omega
            have e1 : (i : Int) - 1 = ((i - 1 : Nat) : Int) := by omega
            have q2 := Hd (l := A) (⟨[]⟩ : Sl Int) (show i - 1 < A.length by omega)
            have hpl := hprev (i - 1) (by omega)
            have hbl := hle (i - 1)
            obtain ⟨⟨p⟩, hp⟩ : ∃ x, A.getD (i - 1) ⟨[]⟩ = x := ⟨_, rfl⟩
            rw [hp] at q2 hpl hbl
            simp only at hpl hbl
            obtain ⟨j, hj⟩ : ∃ j, i - 1 = j := ⟨_, rfl⟩
            rw [hj] at e1 q2
            (sym =>
             simp [hib,q1,hsa,hha,hz,e1,q2,hpl,Ht,Hv,Hu,Hw,Hs,Hr,Gr.eq_def,K1.eq_def,con_HitJust.eq_def,K6.eq_def,Gd.eq_def,K0.eq_def,K7.eq_def,Gm.eq_def,K3.eq_def,Za,Zb,Zc,Zd,Ze,Zf,Zg,Zh,Zi,Zj,Zk,Zl,Zm,Zn,Zo,Zp,Zq,Zr,Zs,Zt,Zv,Zx,Z2,Z5,Z6,Z7,Z8,Z9,Qa,Qb,Qc,Qd,Qe,Qi,Qj,Qk,Ql,Qm,Qn,Qo,Qp,Qv,Qw,Qy,Qz,Q0,Q1,Q2,Q3,Q8,Ja,Jb,Jc,Jd,Je,Jl,Jp,Jq,Jr,Js,Jt,Ju,Jx,Jy,Jz,J0,J1,J2,J3,J4,J5,J6,J7,J8,Xb,Xc,Xd,Xe,Xf,Xg,Xh,Xi,Xj,Xk,Xl,Xm,Xn,Xo,Xp,Xq,Xs,Xt,Xu,Xv,Xw,Xx,Xy,Xz,X0,X1,X2,X3,X4,X5,X6,X7,X8,X9,Wa,Wb,Wc,Wd,We,Wf,Wg,Wh,Wi,Wj,Wl,Wm,Wn,Wo,Wp,Wq,Wr,Ws,Wt,Wu,Wv,Ww,Wx,Wy,Wz,W0,W1,W2,W3,W4,W5,W6,W7,W8,Yb,Yc,Yd,Ye,Yf,Yg,Yh,Yi,Yj,Yk,Yl,Ym,Yn,Yo,Yp,Yq,Yr,Ys,Yt,Yu,Yv,Yw,Yx,Yy,Yz,Y0,Y1,Y2,Y3,Y4,Y5,Y6,Y7,Y8,Y9,Va,Vb,Vc,Vd,Ve,Vf,Vg,Vh,Vi,Vj,Vk,Vl,Vm,Vn,Vo,Vp,Vq,Vr,Vs,Vt,Vu,Vv,Vw,Vx,Vy,Vz,V0,V1,V3,V4,V5,V6,V7,V8,V9,Ua,Ub,Uc,Ud,Ue,Uf,Ul,Um,Uq,Ur,Us,Ut,Uu,Uv,Uw,Ux,Uy,Uz,U0,U1,U3,U4,U5,U6,U7,U8,U9,Ka,Kb,Kc,Kd,Ke,Kf,Kg,Kh,Ki,Kj,Kk,Kl,Km,Kn,Ko,Kq,Kr,Ks,Kt,Ga,G5,K8,M0,Kz]
             tactic =>
              try simp only [K2] at *
              try simp only [nc2] at *
              try simp (maxSteps := 4000000) only [hib,q1,hsa,hha,hz,e1,q2,hpl,Gg]
              repeat' (first | with_reducible assumption | with_reducible refine And.intro ?_ ?_ | intro _ | omega | (rw [Ku]; omega))
              all_goals first
                | (with_reducible refine K9 ?_; kernel_rfl)
                | assumption
                | omega
                | skip
              refine Gi [4, 70, 71, 72, 73, 74, 75, 76, 77, 78, 79, 80, 81, 82, 83, 84, 85, 86, 87, 88, 89, 90, 91, 92] (fun k : Nat => [(9, .d (.int .i64 k))]) (fun k : Nat => []) (fun k : Nat => k ≤ a.length) (fun k : Nat => a.length - k) 0 ?_ ?_ ?_
              · exact Nat.zero_le _
              · ((try simp only [Kv, Ky, Kx, K4, upd, K5, Gb, Gs, Nat.reduceDiv, Nat.reduceMod, Nat.reduceMul, Nat.reduceAdd, Nat.reduceEqDiff, List.set_cons_zero, List.set_cons_succ, if_true, if_false, reduceIte]); (first | refine Wk.of_fl ?_ | skip); simp only [Wk, wkK, Gy, wkT, wk1, AV.kept, keptAll, wkO, lk, Kw, and_true, true_and, and_self, Nat.reduceEqDiff, Nat.reduceLeDiff, if_true, if_false, reduceIte, reduceCtorEq, Option.isSome, false_implies]; try simp [Wk, wkK, wkT, wk1, AV.kept, keptAll, wkO, lk, Kw])
              rintro k hk
              rcases Gl k a.length with ⟨hkl, hkb⟩ | ⟨hkl, hkb⟩
              · have f1 := Hd (0 : Int) hkl
                have hxm : a.getD k 0 ∈ a := by rw [List.getD_eq_getElem?_getD, List.getElem?_eq_getElem hkl]; exact List.getElem_mem hkl
                have hno := hmin (a.getD k 0) hxm
                have hwl := woB_len a (a.getD k 0)
                obtain ⟨x, hx⟩ : ∃ x, a.getD k 0 = x := ⟨_, rfl⟩
                rw [hx] at f1 hno hwl
                have hwd : (a.filter fun y => y != x) = woB a x := rfl
                obtain ⟨w, hw⟩ : ∃ w, woB a x = w := ⟨_, rfl⟩
                rw [hw] at hno hwl hwd
                (sym =>
                 simp [hib,q1,hkb,f1,hwd,hno,Ht,Hv,Hu,Hw,Hs,Hr,Gr.eq_def,K1.eq_def,con_HitJust.eq_def,K6.eq_def,Gd.eq_def,K0.eq_def,K7.eq_def,Gm.eq_def,K3.eq_def,Za,Zb,Zc,Zd,Ze,Zf,Zg,Zh,Zi,Zj,Zk,Zl,Zm,Zn,Zo,Zp,Zq,Zr,Zs,Zt,Zv,Zx,Z2,Z5,Z6,Z7,Z8,Z9,Qa,Qb,Qc,Qd,Qe,Qi,Qj,Qk,Ql,Qm,Qn,Qo,Qp,Qv,Qw,Qy,Qz,Q0,Q1,Q2,Q3,Q8,Ja,Jb,Jc,Jd,Je,Jl,Jp,Jq,Jr,Js,Jt,Ju,Jx,Jy,Jz,J0,J1,J2,J3,J4,J5,J6,J7,J8,Xb,Xc,Xd,Xe,Xf,Xg,Xh,Xi,Xj,Xk,Xl,Xm,Xn,Xo,Xp,Xq,Xs,Xt,Xu,Xv,Xw,Xx,Xy,Xz,X0,X1,X2,X3,X4,X5,X6,X7,X8,X9,Wa,Wb,Wc,Wd,We,Wf,Wg,Wh,Wi,Wj,Wl,Wm,Wn,Wo,Wp,Wq,Wr,Ws,Wt,Wu,Wv,Ww,Wx,Wy,Wz,W0,W1,W2,W3,W4,W5,W6,W7,W8,Yb,Yc,Yd,Ye,Yf,Yg,Yh,Yi,Yj,Yk,Yl,Ym,Yn,Yo,Yp,Yq,Yr,Ys,Yt,Yu,Yv,Yw,Yx,Yy,Yz,Y0,Y1,Y2,Y3,Y4,Y5,Y6,Y7,Y8,Y9,Va,Vb,Vc,Vd,Ve,Vf,Vg,Vh,Vi,Vj,Vk,Vl,Vm,Vn,Vo,Vp,Vq,Vr,Vs,Vt,Vu,Vv,Vw,Vx,Vy,Vz,V0,V1,V3,V4,V5,V6,V7,V8,V9,Ua,Ub,Uc,Ud,Ue,Uf,Ul,Um,Uq,Ur,Us,Ut,Uu,Uv,Uw,Ux,Uy,Uz,U0,U1,U3,U4,U5,U6,U7,U8,U9,Ka,Kb,Kc,Kd,Ke,Kf,Kg,Kh,Ki,Kj,Kk,Kl,Km,Kn,Ko,Kq,Kr,Ks,Kt,Ga,G5,K8,M0,Kz]
                 tactic =>
                  try simp only [K2] at *
                  try simp only [nc2] at *
                  try simp (maxSteps := 4000000) only [hib,q1,hkb,f1,hwd,hno,Gg]
                  repeat' (first | with_reducible assumption | with_reducible refine And.intro ?_ ?_ | intro _ | omega | (rw [Ku]; omega))
                  all_goals first
                    | (with_reducible refine K9 ?_; kernel_rfl)
                    | assumption
                    | omega
                    | exact ⟨k + 1, by ((try simp only [Kv, Ky, Kx, K4, upd, K5, Gb, Gs, Nat.reduceDiv, Nat.reduceMod, Nat.reduceMul, Nat.reduceAdd, Nat.reduceEqDiff, List.set_cons_zero, List.set_cons_succ, if_true, if_false, reduceIte]); (first | refine Wk.of_fl ?_ | skip); simp only [Wk, wkK, Gy, wkT, wk1, AV.kept, keptAll, wkO, lk, Kw, and_true, true_and, and_self, Nat.reduceEqDiff, Nat.reduceLeDiff, if_true, if_false, reduceIte, reduceCtorEq, Option.isSome, false_implies]; try simp [Wk, wkK, wkT, wk1, AV.kept, keptAll, wkO, lk, Kw]), by omega, by omega⟩
                    | skip)
              · skip
                (sym =>
                 simp [hib,q1,hkb,Ht,Hv,Hu,Hw,Hs,Hr,Gr.eq_def,K1.eq_def,con_HitJust.eq_def,K6.eq_def,Gd.eq_def,K0.eq_def,K7.eq_def,Gm.eq_def,K3.eq_def,Za,Zb,Zc,Zd,Ze,Zf,Zg,Zh,Zi,Zj,Zk,Zl,Zm,Zn,Zo,Zp,Zq,Zr,Zs,Zt,Zv,Zx,Z2,Z5,Z6,Z7,Z8,Z9,Qa,Qb,Qc,Qd,Qe,Qi,Qj,Qk,Ql,Qm,Qn,Qo,Qp,Qv,Qw,Qy,Qz,Q0,Q1,Q2,Q3,Q8,Ja,Jb,Jc,Jd,Je,Jl,Jp,Jq,Jr,Js,Jt,Ju,Jx,Jy,Jz,J0,J1,J2,J3,J4,J5,J6,J7,J8,Xb,Xc,Xd,Xe,Xf,Xg,Xh,Xi,Xj,Xk,Xl,Xm,Xn,Xo,Xp,Xq,Xs,Xt,Xu,Xv,Xw,Xx,Xy,Xz,X0,X1,X2,X3,X4,X5,X6,X7,X8,X9,Wa,Wb,Wc,Wd,We,Wf,Wg,Wh,Wi,Wj,Wl,Wm,Wn,Wo,Wp,Wq,Wr,Ws,Wt,Wu,Wv,Ww,Wx,Wy,Wz,W0,W1,W2,W3,W4,W5,W6,W7,W8,Yb,Yc,Yd,Ye,Yf,Yg,Yh,Yi,Yj,Yk,Yl,Ym,Yn,Yo,Yp,Yq,Yr,Ys,Yt,Yu,Yv,Yw,Yx,Yy,Yz,Y0,Y1,Y2,Y3,Y4,Y5,Y6,Y7,Y8,Y9,Va,Vb,Vc,Vd,Ve,Vf,Vg,Vh,Vi,Vj,Vk,Vl,Vm,Vn,Vo,Vp,Vq,Vr,Vs,Vt,Vu,Vv,Vw,Vx,Vy,Vz,V0,V1,V3,V4,V5,V6,V7,V8,V9,Ua,Ub,Uc,Ud,Ue,Uf,Ul,Um,Uq,Ur,Us,Ut,Uu,Uv,Uw,Ux,Uy,Uz,U0,U1,U3,U4,U5,U6,U7,U8,U9,Ka,Kb,Kc,Kd,Ke,Kf,Kg,Kh,Ki,Kj,Kk,Kl,Km,Kn,Ko,Kq,Kr,Ks,Kt,Ga,G5,K8,M0,Kz]
                 tactic =>
                  try simp only [K2] at *
                  try simp only [nc2] at *
                  try simp (maxSteps := 4000000) only [hib,q1,hkb,Gg]
                  repeat' (first | with_reducible assumption | with_reducible refine And.intro ?_ ?_ | intro _ | omega | (rw [Ku]; omega))
                  all_goals first
                    | (with_reducible refine K9 ?_; kernel_rfl)
                    | omega
                    | skip
                  refine Gi [4, 93, 94, 95, 96, 97, 98, 99, 100, 101, 102, 103, 104, 105, 106, 107, 108, 109, 110, 111, 112] (fun k : Nat => [(10, .d (.int .i64 k))]) (fun k : Nat => []) (fun k : Nat => k ≤ A.length) (fun k : Nat => A.length - k) 0 ?_ ?_ ?_
                  · exact Nat.zero_le _
                  · ((try simp only [Kv, Ky, Kx, K4, upd, K5, Gb, Gs, Nat.reduceDiv, Nat.reduceMod, Nat.reduceMul, Nat.reduceAdd, Nat.reduceEqDiff, List.set_cons_zero, List.set_cons_succ, if_true, if_false, reduceIte]); (first | refine Wk.of_fl ?_ | skip); simp only [Wk, wkK, Gy, wkT, wk1, AV.kept, keptAll, wkO, lk, Kw, and_true, true_and, and_self, Nat.reduceEqDiff, Nat.reduceLeDiff, if_true, if_false, reduceIte, reduceCtorEq, Option.isSome, false_implies]; try simp [Wk, wkK, wkT, wk1, AV.kept, keptAll, wkO, lk, Kw])
                  rintro k hk
                  rcases Gl k A.length with ⟨hkl, hkb⟩ | ⟨hkl, hkb⟩
                  · have f1 := Hd (⟨[]⟩ : Sl Int) hkl
                    have hnp := hpart k hkl
                    have hbl := hle k
                    obtain ⟨⟨b⟩, hb⟩ : ∃ x, A.getD k ⟨[]⟩ = x := ⟨_, rfl⟩
                    rw [hb] at f1 hnp hbl
                    simp only at hnp hbl
                    by_cases hki : k = i
                    · have hne : ((k : Int) != (i : Int)) = false := by rw [hki]; exact bne_self_eq_false _
                      (sym =>
                       simp [hib,q1,hkb,f1,hne,Ht,Hv,Hu,Hw,Hs,Hr,Gr.eq_def,K1.eq_def,con_HitJust.eq_def,K6.eq_def,Gd.eq_def,K0.eq_def,K7.eq_def,Gm.eq_def,K3.eq_def,Za,Zb,Zc,Zd,Ze,Zf,Zg,Zh,Zi,Zj,Zk,Zl,Zm,Zn,Zo,Zp,Zq,Zr,Zs,Zt,Zv,Zx,Z2,Z5,Z6,Z7,Z8,Z9,Qa,Qb,Qc,Qd,Qe,Qi,Qj,Qk,Ql,Qm,Qn,Qo,Qp,Qv,Qw,Qy,Qz,Q0,Q1,Q2,Q3,Q8,Ja,Jb,Jc,Jd,Je,Jl,Jp,Jq,Jr,Js,Jt,Ju,Jx,Jy,Jz,J0,J1,J2,J3,J4,J5,J6,J7,J8,Xb,Xc,Xd,Xe,Xf,Xg,Xh,Xi,Xj,Xk,Xl,Xm,Xn,Xo,Xp,Xq,Xs,Xt,Xu,Xv,Xw,Xx,Xy,Xz,X0,X1,X2,X3,X4,X5,X6,X7,X8,X9,Wa,Wb,Wc,Wd,We,Wf,Wg,Wh,Wi,Wj,Wl,Wm,Wn,Wo,Wp,Wq,Wr,Ws,Wt,Wu,Wv,Ww,Wx,Wy,Wz,W0,W1,W2,W3,W4,W5,W6,W7,W8,Yb,Yc,Yd,Ye,Yf,Yg,Yh,Yi,Yj,Yk,Yl,Ym,Yn,Yo,Yp,Yq,Yr,Ys,Yt,Yu,Yv,Yw,Yx,Yy,Yz,Y0,Y1,Y2,Y3,Y4,Y5,Y6,Y7,Y8,Y9,Va,Vb,Vc,Vd,Ve,Vf,Vg,Vh,Vi,Vj,Vk,Vl,Vm,Vn,Vo,Vp,Vq,Vr,Vs,Vt,Vu,Vv,Vw,Vx,Vy,Vz,V0,V1,V3,V4,V5,V6,V7,V8,V9,Ua,Ub,Uc,Ud,Ue,Uf,Ul,Um,Uq,Ur,Us,Ut,Uu,Uv,Uw,Ux,Uy,Uz,U0,U1,U3,U4,U5,U6,U7,U8,U9,Ka,Kb,Kc,Kd,Ke,Kf,Kg,Kh,Ki,Kj,Kk,Kl,Km,Kn,Ko,Kq,Kr,Ks,Kt,Ga,G5,K8,M0,Kz]
                       tactic =>
                        try simp only [K2] at *
                        try simp only [nc2] at *
                        try simp (maxSteps := 4000000) only [hib,q1,hkb,f1,hne,Gg]
                        repeat' (first | with_reducible assumption | with_reducible refine And.intro ?_ ?_ | intro _ | omega | (rw [Ku]; omega))
                        all_goals first
                          | (with_reducible refine K9 ?_; kernel_rfl)
                          | omega
                          | exact ⟨k + 1, by ((try simp only [Kv, Ky, Kx, K4, upd, K5, Gb, Gs, Nat.reduceDiv, Nat.reduceMod, Nat.reduceMul, Nat.reduceAdd, Nat.reduceEqDiff, List.set_cons_zero, List.set_cons_succ, if_true, if_false, reduceIte]); (first | refine Wk.of_fl ?_ | skip); simp only [Wk, wkK, Gy, wkT, wk1, AV.kept, keptAll, wkO, lk, Kw, and_true, true_and, and_self, Nat.reduceEqDiff, Nat.reduceLeDiff, if_true, if_false, reduceIte, reduceCtorEq, Option.isSome, false_implies]; try simp [Wk, wkK, wkT, wk1, AV.kept, keptAll, wkO, lk, Kw]), by omega, by omega⟩
                          | skip)
                    · have hne : ((k : Int) != (i : Int)) = true := by rw [bne_iff_ne]; omega
                      have hnp' := hnp hki
                      (sym =>
                       simp [hib,q1,hkb,f1,hne,hnp',Ht,Hv,Hu,Hw,Hs,Hr,Gr.eq_def,K1.eq_def,con_HitJust.eq_def,K6.eq_def,Gd.eq_def,K0.eq_def,K7.eq_def,Gm.eq_def,K3.eq_def,Za,Zb,Zc,Zd,Ze,Zf,Zg,Zh,Zi,Zj,Zk,Zl,Zm,Zn,Zo,Zp,Zq,Zr,Zs,Zt,Zv,Zx,Z2,Z5,Z6,Z7,Z8,Z9,Qa,Qb,Qc,Qd,Qe,Qi,Qj,Qk,Ql,Qm,Qn,Qo,Qp,Qv,Qw,Qy,Qz,Q0,Q1,Q2,Q3,Q8,Ja,Jb,Jc,Jd,Je,Jl,Jp,Jq,Jr,Js,Jt,Ju,Jx,Jy,Jz,J0,J1,J2,J3,J4,J5,J6,J7,J8,Xb,Xc,Xd,Xe,Xf,Xg,Xh,Xi,Xj,Xk,Xl,Xm,Xn,Xo,Xp,Xq,Xs,Xt,Xu,Xv,Xw,Xx,Xy,Xz,X0,X1,X2,X3,X4,X5,X6,X7,X8,X9,Wa,Wb,Wc,Wd,We,Wf,Wg,Wh,Wi,Wj,Wl,Wm,Wn,Wo,Wp,Wq,Wr,Ws,Wt,Wu,Wv,Ww,Wx,Wy,Wz,W0,W1,W2,W3,W4,W5,W6,W7,W8,Yb,Yc,Yd,Ye,Yf,Yg,Yh,Yi,Yj,Yk,Yl,Ym,Yn,Yo,Yp,Yq,Yr,Ys,Yt,Yu,Yv,Yw,Yx,Yy,Yz,Y0,Y1,Y2,Y3,Y4,Y5,Y6,Y7,Y8,Y9,Va,Vb,Vc,Vd,Ve,Vf,Vg,Vh,Vi,Vj,Vk,Vl,Vm,Vn,Vo,Vp,Vq,Vr,Vs,Vt,Vu,Vv,Vw,Vx,Vy,Vz,V0,V1,V3,V4,V5,V6,V7,V8,V9,Ua,Ub,Uc,Ud,Ue,Uf,Ul,Um,Uq,Ur,Us,Ut,Uu,Uv,Uw,Ux,Uy,Uz,U0,U1,U3,U4,U5,U6,U7,U8,U9,Ka,Kb,Kc,Kd,Ke,Kf,Kg,Kh,Ki,Kj,Kk,Kl,Km,Kn,Ko,Kq,Kr,Ks,Kt,Ga,G5,K8,M0,Kz]
                       tactic =>
                        try simp only [K2] at *
                        try simp only [nc2] at *
                        try simp (maxSteps := 4000000) only [hib,q1,hkb,f1,hne,hnp',Gg]
                        repeat' (first | with_reducible assumption | with_reducible refine And.intro ?_ ?_ | intro _ | omega | (rw [Ku]; omega))
                        all_goals first
                          | (with_reducible refine K9 ?_; kernel_rfl)
                          | omega
                          | exact ⟨k + 1, by ((try simp only [Kv, Ky, Kx, K4, upd, K5, Gb, Gs, Nat.reduceDiv, Nat.reduceMod, Nat.reduceMul, Nat.reduceAdd, Nat.reduceEqDiff, List.set_cons_zero, List.set_cons_succ, if_true, if_false, reduceIte]); (first | refine Wk.of_fl ?_ | skip); simp only [Wk, wkK, Gy, wkT, wk1, AV.kept, keptAll, wkO, lk, Kw, and_true, true_and, and_self, Nat.reduceEqDiff, Nat.reduceLeDiff, if_true, if_false, reduceIte, reduceCtorEq, Option.isSome, false_implies]; try simp [Wk, wkK, wkT, wk1, AV.kept, keptAll, wkO, lk, Kw]), by omega, by omega⟩
                          | skip)
                  · obtain ⟨v, hv⟩ : ∃ v, O4 A s i = v := ⟨_, rfl⟩
                    rw [hv] at hsucc ⊢
                    cases v with
                    | true =>
                      rw [Bool.true_or] at hsucc
                      (sym =>
                       simp [hib,q1,hkb,Ht,Hv,Hu,Hw,Hs,Hr,Gr.eq_def,K1.eq_def,con_HitJust.eq_def,K6.eq_def,Gd.eq_def,K0.eq_def,K7.eq_def,Gm.eq_def,K3.eq_def,Za,Zb,Zc,Zd,Ze,Zf,Zg,Zh,Zi,Zj,Zk,Zl,Zm,Zn,Zo,Zp,Zq,Zr,Zs,Zt,Zv,Zx,Z2,Z5,Z6,Z7,Z8,Z9,Qa,Qb,Qc,Qd,Qe,Qi,Qj,Qk,Ql,Qm,Qn,Qo,Qp,Qv,Qw,Qy,Qz,Q0,Q1,Q2,Q3,Q8,Ja,Jb,Jc,Jd,Je,Jl,Jp,Jq,Jr,Js,Jt,Ju,Jx,Jy,Jz,J0,J1,J2,J3,J4,J5,J6,J7,J8,Xb,Xc,Xd,Xe,Xf,Xg,Xh,Xi,Xj,Xk,Xl,Xm,Xn,Xo,Xp,Xq,Xs,Xt,Xu,Xv,Xw,Xx,Xy,Xz,X0,X1,X2,X3,X4,X5,X6,X7,X8,X9,Wa,Wb,Wc,Wd,We,Wf,Wg,Wh,Wi,Wj,Wl,Wm,Wn,Wo,Wp,Wq,Wr,Ws,Wt,Wu,Wv,Ww,Wx,Wy,Wz,W0,W1,W2,W3,W4,W5,W6,W7,W8,Yb,Yc,Yd,Ye,Yf,Yg,Yh,Yi,Yj,Yk,Yl,Ym,Yn,Yo,Yp,Yq,Yr,Ys,Yt,Yu,Yv,Yw,Yx,Yy,Yz,Y0,Y1,Y2,Y3,Y4,Y5,Y6,Y7,Y8,Y9,Va,Vb,Vc,Vd,Ve,Vf,Vg,Vh,Vi,Vj,Vk,Vl,Vm,Vn,Vo,Vp,Vq,Vr,Vs,Vt,Vu,Vv,Vw,Vx,Vy,Vz,V0,V1,V3,V4,V5,V6,V7,V8,V9,Ua,Ub,Uc,Ud,Ue,Uf,Ul,Um,Uq,Ur,Us,Ut,Uu,Uv,Uw,Ux,Uy,Uz,U0,U1,U3,U4,U5,U6,U7,U8,U9,Ka,Kb,Kc,Kd,Ke,Kf,Kg,Kh,Ki,Kj,Kk,Kl,Km,Kn,Ko,Kq,Kr,Ks,Kt,Ga,G5,K8,M0,Kz]
                       tactic =>
                        try simp only [K2] at *
                        try simp only [nc2] at *
                        try simp (maxSteps := 4000000) only [hib,q1,hkb,Gg]
                        repeat' (first | with_reducible assumption | with_reducible refine And.intro ?_ ?_ | intro _ | omega | (rw [Ku]; omega))
                        all_goals first
                          | (with_reducible refine K9 ?_; kernel_rfl)
                          | omega
                          | exact ⟨i + 1, by rw [hsucc]; ((try simp only [Kv, Ky, Kx, K4, upd, K5, Gb, Gs, Nat.reduceDiv, Nat.reduceMod, Nat.reduceMul, Nat.reduceAdd, Nat.reduceEqDiff, List.set_cons_zero, List.set_cons_succ, if_true, if_false, reduceIte]); (first | refine Wk.of_fl ?_ | skip); simp only [Wk, wkK, Gy, wkT, wk1, AV.kept, keptAll, wkO, lk, Kw, and_true, true_and, and_self, Nat.reduceEqDiff, Nat.reduceLeDiff, if_true, if_false, reduceIte, reduceCtorEq, Option.isSome, false_implies]; try simp [Wk, wkK, wkT, wk1, AV.kept, keptAll, wkO, lk, Kw]), by omega, by omega⟩
                          | skip)
                    | false =>
                      rw [Bool.false_or] at hsucc
                      obtain ⟨v2, hv2⟩ : ∃ v, Sq a s = v := ⟨_, rfl⟩
                      rw [hv2] at hsucc
                      (sym =>
                       simp [hib,q1,hkb,hv2,Ht,Hv,Hu,Hw,Hs,Hr,Gr.eq_def,K1.eq_def,con_HitJust.eq_def,K6.eq_def,Gd.eq_def,K0.eq_def,K7.eq_def,Gm.eq_def,K3.eq_def,Za,Zb,Zc,Zd,Ze,Zf,Zg,Zh,Zi,Zj,Zk,Zl,Zm,Zn,Zo,Zp,Zq,Zr,Zs,Zt,Zv,Zx,Z2,Z5,Z6,Z7,Z8,Z9,Qa,Qb,Qc,Qd,Qe,Qi,Qj,Qk,Ql,Qm,Qn,Qo,Qp,Qv,Qw,Qy,Qz,Q0,Q1,Q2,Q3,Q8,Ja,Jb,Jc,Jd,Je,Jl,Jp,Jq,Jr,Js,Jt,Ju,Jx,Jy,Jz,J0,J1,J2,J3,J4,J5,J6,J7,J8,Xb,Xc,Xd,Xe,Xf,Xg,Xh,Xi,Xj,Xk,Xl,Xm,Xn,Xo,Xp,Xq,Xs,Xt,Xu,Xv,Xw,Xx,Xy,Xz,X0,X1,X2,X3,X4,X5,X6,X7,X8,X9,Wa,Wb,Wc,Wd,We,Wf,Wg,Wh,Wi,Wj,Wl,Wm,Wn,Wo,Wp,Wq,Wr,Ws,Wt,Wu,Wv,Ww,Wx,Wy,Wz,W0,W1,W2,W3,W4,W5,W6,W7,W8,Yb,Yc,Yd,Ye,Yf,Yg,Yh,Yi,Yj,Yk,Yl,Ym,Yn,Yo,Yp,Yq,Yr,Ys,Yt,Yu,Yv,Yw,Yx,Yy,Yz,Y0,Y1,Y2,Y3,Y4,Y5,Y6,Y7,Y8,Y9,Va,Vb,Vc,Vd,Ve,Vf,Vg,Vh,Vi,Vj,Vk,Vl,Vm,Vn,Vo,Vp,Vq,Vr,Vs,Vt,Vu,Vv,Vw,Vx,Vy,Vz,V0,V1,V3,V4,V5,V6,V7,V8,V9,Ua,Ub,Uc,Ud,Ue,Uf,Ul,Um,Uq,Ur,Us,Ut,Uu,Uv,Uw,Ux,Uy,Uz,U0,U1,U3,U4,U5,U6,U7,U8,U9,Ka,Kb,Kc,Kd,Ke,Kf,Kg,Kh,Ki,Kj,Kk,Kl,Km,Kn,Ko,Kq,Kr,Ks,Kt,Ga,G5,K8,M0,Kz]
                       tactic =>
                        try simp only [K2] at *
                        try simp only [nc2] at *
                        try simp (maxSteps := 4000000) only [hib,q1,hkb,hv2,Gg]
                        repeat' (first | with_reducible assumption | with_reducible refine And.intro ?_ ?_ | intro _ | omega | (rw [Ku]; omega))
                        all_goals first
                          | (with_reducible refine K9 ?_; kernel_rfl)
                          | omega
                          | exact ⟨i + 1, by rw [hsucc]; ((try simp only [Kv, Ky, Kx, K4, upd, K5, Gb, Gs, Nat.reduceDiv, Nat.reduceMod, Nat.reduceMul, Nat.reduceAdd, Nat.reduceEqDiff, List.set_cons_zero, List.set_cons_succ, if_true, if_false, reduceIte]); (first | refine Wk.of_fl ?_ | skip); simp only [Wk, wkK, Gy, wkT, wk1, AV.kept, keptAll, wkO, lk, Kw, and_true, true_and, and_self, Nat.reduceEqDiff, Nat.reduceLeDiff, if_true, if_false, reduceIte, reduceCtorEq, Option.isSome, false_implies]; try simp [Wk, wkK, wkT, wk1, AV.kept, keptAll, wkO, lk, Kw]), by omega, by omega⟩
                          | skip)))
        · have hie : i = A.length := by omega
          rw [hie, hfin]
          have hHH := beqB_self (Du s l)
          obtain ⟨H, hH⟩ : ∃ H, Du s l = H := ⟨_, rfl⟩
          rw [hH] at hHH ⊢
          have hib' : ltB (A.length : Int) (A.length : Int) = false := by rw [Hg]; omega
          (sym =>
           simp [hib',hH,hHH,Ht,Hv,Hu,Hw,Hs,Hr,Gr.eq_def,K1.eq_def,con_HitJust.eq_def,K6.eq_def,Gd.eq_def,K0.eq_def,K7.eq_def,Gm.eq_def,K3.eq_def,Za,Zb,Zc,Zd,Ze,Zf,Zg,Zh,Zi,Zj,Zk,Zl,Zm,Zn,Zo,Zp,Zq,Zr,Zs,Zt,Zv,Zx,Z2,Z5,Z6,Z7,Z8,Z9,Qa,Qb,Qc,Qd,Qe,Qi,Qj,Qk,Ql,Qm,Qn,Qo,Qp,Qv,Qw,Qy,Qz,Q0,Q1,Q2,Q3,Q8,Ja,Jb,Jc,Jd,Je,Jl,Jp,Jq,Jr,Js,Jt,Ju,Jx,Jy,Jz,J0,J1,J2,J3,J4,J5,J6,J7,J8,Xb,Xc,Xd,Xe,Xf,Xg,Xh,Xi,Xj,Xk,Xl,Xm,Xn,Xo,Xp,Xq,Xs,Xt,Xu,Xv,Xw,Xx,Xy,Xz,X0,X1,X2,X3,X4,X5,X6,X7,X8,X9,Wa,Wb,Wc,Wd,We,Wf,Wg,Wh,Wi,Wj,Wl,Wm,Wn,Wo,Wp,Wq,Wr,Ws,Wt,Wu,Wv,Ww,Wx,Wy,Wz,W0,W1,W2,W3,W4,W5,W6,W7,W8,Yb,Yc,Yd,Ye,Yf,Yg,Yh,Yi,Yj,Yk,Yl,Ym,Yn,Yo,Yp,Yq,Yr,Ys,Yt,Yu,Yv,Yw,Yx,Yy,Yz,Y0,Y1,Y2,Y3,Y4,Y5,Y6,Y7,Y8,Y9,Va,Vb,Vc,Vd,Ve,Vf,Vg,Vh,Vi,Vj,Vk,Vl,Vm,Vn,Vo,Vp,Vq,Vr,Vs,Vt,Vu,Vv,Vw,Vx,Vy,Vz,V0,V1,V3,V4,V5,V6,V7,V8,V9,Ua,Ub,Uc,Ud,Ue,Uf,Ul,Um,Uq,Ur,Us,Ut,Uu,Uv,Uw,Ux,Uy,Uz,U0,U1,U3,U4,U5,U6,U7,U8,U9,Ka,Kb,Kc,Kd,Ke,Kf,Kg,Kh,Ki,Kj,Kk,Kl,Km,Kn,Ko,Kq,Kr,Ks,Kt,Ga,G5,K8,M0,Kz]
           tactic =>
            try simp only [K2] at *
            try simp only [nc2] at *
            try simp (maxSteps := 4000000) only [hib',hH,hHH,Gg]
            repeat' (first | with_reducible assumption | with_reducible refine And.intro ?_ ?_ | intro _ | omega | (rw [Ku]; omega))
            all_goals first
              | assumption
              | omega
              | rfl
              | (with_reducible refine K9 ?_; kernel_rfl)
              | skip))
end Go.Am.Hit
set_option linter.unusedSimpArgs false
set_option linter.unusedVariables false
set_option maxHeartbeats 4000000
namespace Go.Am.Hit
open Go.Proofs
open Enc (enc dec)
theorem An {x : List Int} : (D.list 1 [enc (Sl.mk x)]) = enc (Sl.mk [Sl.mk x]) := rfl
theorem enc_all {M : List (Sl Int)} : (D.list 1 (M.map enc)) = enc (Sl.mk M) := rfl
theorem rw_one {x : List Int} (h : x.length ≤ 9223372036854775807) : Rw [⟨x⟩] := ⟨by show 1 ≤ _; omega, fun j => by
  match j with
  | 0 => exact h
  | j + 1 => exact Nat.zero_le _⟩
theorem unS_snoc (l : List (Sl Int)) (s : List Int) : unS (l ++ [⟨s⟩]) = unS l ++ [s] := by unfold unS; simp
theorem drop_one {B : List (Sl Int)} {k : Nat} (h : k < B.length) : List.drop k (List.take (k + 1) (B.map (enc : Sl Int → D))) = [enc (B.getD k ⟨[]⟩)] := by
  rw [← List.map_take, ← List.map_drop, List.take_succ_eq_append_getElem h, List.drop_append_of_le_length (by rw [List.length_take]; omega), List.drop_eq_nil_of_le (by rw [List.length_take]; omega)]
  simp [h]
def anyQ (B : List (Sl Int)) (a : List Int) (k : Nat) : Bool := (B.take k).any fun t => sameB [t] [⟨a⟩]
theorem anyQ_succ {B : List (Sl Int)} {a : List Int} {k : Nat} (h : k < B.length) : anyQ B a (k + 1) = (anyQ B a k || sameB [B.getD k ⟨[]⟩] [⟨a⟩]) := by
  unfold anyQ
  rw [List.take_succ_eq_append_getElem h, List.any_append]
  simp [h]
theorem anyQ_iff {B : List (Sl Int)} {a : List Int} : anyQ B a B.length = true ↔ a ∈ unS B := by
  unfold anyQ
  rw [List.take_length, List.any_eq_true, Tt]
  constructor
  · rintro ⟨⟨t⟩, ht, h⟩
    unfold sameB at h
    simp at h
    rw [← h]
    exact ht
  · intro h
    exact ⟨⟨a⟩, h, B6 _⟩
theorem sets_one {s : List Int} (h : Hf s) : Ab (unS [⟨s⟩]) := fun t ht => by
  have : t = s := by simpa [unS] using ht
  rw [this]; exact h
theorem hits_one {b s : List Int} (hb : Hf b) (hs : Hf s) : Du b [⟨s⟩] = true ↔ ∃ x, x ∈ b ∧ x ∈ s := by
  rw [Dt hb (sets_one hs)]
  unfold Rh unS
  simp
def con_HitMore : Con := L3 (fun (l : Sl (Sl Int)) (s : Sl Int) => l.l.length ≤ 2000000 ∧ Rw l.l ∧ Lo s.l.length) (fun _ _ => true)
noncomputable def Tn : Ctx := ⟨tab, lkC [(10, K1), (11, K3), (12, Gr), (16, K6), (19, K0), (14, Ge)], 60, lkB [], [], false⟩
theorem Nv : Tn.τ = tab := rfl
theorem Nx : Tn.Γ = lkC [(10, K1), (11, K3), (12, Gr), (16, K6), (19, K0), (14, Ge)] := rfl
theorem Nw : Tn.dp = 60 := rfl
theorem Ny : Tn.Δ = lkB [] := rfl
theorem Nu : Tn.cuts = [] := rfl
theorem Nt : Tn.wr = false := rfl
set_option maxRecDepth 100000 in
theorem good_HitMore : Me Try.prog (5, con_HitMore) := by
  refine ⟨Gj Try.func5 (by kernel_rfl) rfl, ?_⟩
  have K : Hq Try.prog Tn := Gq H8 G4 (by
    intro p hp
    simp only [List.mem_cons, List.not_mem_nil, or_false] at hp
    rcases hp with rfl | rfl | rfl | rfl | rfl | rfl
    · exact C4
    · exact C3
    · exact Ih
    · exact E8
    · exact Fm
    · exact Dv) (by simp)
  obtain ⟨c, hc⟩ : ∃ c, Try.f5.body = some c := ⟨_, rfl⟩
  refine Gu K Try.func5 hc [.tmp 4] rfl 115 rfl (fun cvs hpre => ?_)
  change con_HitMore.pre cvs at hpre
  unfold con_HitMore at hpre
  obtain ⟨⟨l⟩, ⟨s⟩, rfl, hll, hl, hs⟩ := Hx hpre
  simp only at hll hl hs
  clear hpre
  obtain ⟨hl1, hl2⟩ := id hl
  obtain ⟨M, hM⟩ : ∃ M, l ++ [Sl.mk s] = M := ⟨_, rfl⟩
  have hMe : l.map enc ++ [enc (Sl.mk s)] = M.map (enc : Sl Int → D) := by rw [← hM, List.map_append]; rfl
  have hMR : Rw M := by
    refine ⟨by rw [← hM, List.length_append, List.length_singleton]; show _ ≤ _; omega, fun j => ?_⟩
    rw [← hM]
    by_cases hj : j < l.length
    · rw [List.getD_eq_getElem?_getD, List.getElem?_append_left hj, ← List.getD_eq_getElem?_getD]; exact hl2 j
    · by_cases e : j = l.length
      · rw [List.getD_eq_getElem?_getD, e]; simp; exact hs
      · rw [List.getD_eq_getElem?_getD, List.getElem?_eq_none (by rw [List.length_append, List.length_singleton]; omega)]
        exact Nat.zero_le _
  cases hf : fewB M 10 with
  | false =>
    simp only [Try.f5, Option.some.injEq] at hc
    subst hc
    refine Hy 7 (of_decide_eq_true (by kernel_rfl)) ?_
    (sym =>
     simp [hMe,enc_all,hf,Nv,Nx,Nw,Ny,Nu,Nt,Gr.eq_def,K1.eq_def,con_HitMore.eq_def,K6.eq_def,K0.eq_def,Ge.eq_def,K3.eq_def,Za,Zb,Zc,Zd,Ze,Zf,Zg,Zh,Zi,Zj,Zk,Zl,Zm,Zn,Zo,Zp,Zq,Zr,Zs,Zt,Zv,Zx,Zy,Zz,Z0,Z1,Z2,Z5,Z6,Z7,Z8,Z9,Qa,Qb,Qc,Qd,Qe,Qg,Qi,Qj,Qk,Ql,Qm,Qn,Qo,Qp,Qv,Qw,Qy,Qz,Q0,Q1,Q2,Q3,Q4,Q5,Q6,Q7,Q8,Q9,Ja,Jb,Jc,Jd,Je,Jl,Jm,Jn,Jo,Jp,Jq,Jr,Js,Jt,Ju,Jv,Jw,Jx,Jy,Jz,J0,J1,J2,J3,J4,J5,J6,J7,J8,J9,Xa,Xb,Xc,Xd,Xe,Xf,Xg,Xh,Xi,Xj,Xk,Xl,Xm,Xn,Xo,Xp,Xq,Xs,Xt,Xu,Xv,Xw,Xx,Xy,Xz,X0,X1,X2,X3,X4,X5,X6,X7,X8,X9,Wa,Wb,Wc,Wd,We,Wf,Wg,Wh,Wi,Wj,Wl,Wm,Wn,Wo,Wp,Wq,Wr,Ws,Wt,Wu,Wv,Ww,Wx,Wy,Wz,W0,W1,W2,W3,W4,W5,W6,W7,W8,W9,Ya,Yb,Yc,Yd,Ye,Yf,Yg,Yh,Yi,Yj,Yk,Yl,Ym,Yn,Yo,Yp,Yq,Yr,Ys,Yt,Yu,Yv,Yw,Yx,Yy,Yz,Y0,Y1,Y2,Y3,Y4,Y5,Y6,Y7,Y8,Y9,Va,Vb,Vc,Vd,Ve,Vf,Vg,Vh,Vi,Vj,Vk,Vl,Vm,Vn,Vo,Vp,Vq,Vr,Vs,Vt,Vu,Vv,Vw,Vx,Vy,Vz,V0,V1,V3,V4,V5,V6,V7,V8,V9,Ua,Ub,Uc,Ud,Ue,Uf,Ul,Um,Un,Uo,Uq,Ur,Us,Ut,Uu,Uv,Uw,Ux,Uy,Uz,U0,U1,U3,U4,U5,U6,U7,U8,U9,Ka,Kb,Kc,Kd,Ke,Kf,Kg,Kh,Ki,Kj,Kk,Kl,Km,Kn,Ko,Kq,Kr,Ks,Kt,Ga,G5,K8,M0,Kz]
     tactic =>
      try simp only [K2] at *
      try simp only [nc2] at *
      try simp (maxSteps := 4000000) only [hMe,enc_all,hf,Gg]
      repeat' (first | with_reducible assumption | with_reducible refine And.intro ?_ ?_ | intro _ | omega | (rw [Ku]; omega))
      all_goals first
        | assumption
        | omega
        | rfl
        | (with_reducible refine K9 ?_; kernel_rfl)
        | skip)
  | true =>
    obtain ⟨hov, hlen⟩ := ov_few (Int.le_refl _) hf
    have huM : unS M = unS l ++ [s] := by rw [← hM, unS_snoc]
    have hovl : Ov l (Bo M) := ov_sub hov fun t ht => by rw [huM]; exact List.mem_append_left _ ht
    have hsM : s ∈ unS M := by rw [huM]; exact List.mem_append_right _ (List.mem_singleton.2 rfl)
    have hss : Hf s := hov.1 s hsM
    have hsl := ov_len hov hsM
    have hlen2 : l.length ≤ 12 := by rw [← hM, List.length_append] at hlen; omega
    have hA := ov_okA hovl (by omega)
    have hB := ov_okA hov (by omega)
    have hxA := allX_ok hovl
    have hxB := allX_ok hov
    have oA := ov_all hovl
    have oB := ov_all hov
    have hrs := rw_one (x := s) (by omega)
    have hb1 : ∀ i, i < (Cn M).length → O4 (Cn l) ((Cn M).getD i ⟨[]⟩).l (Cn l).length = true ∧ Du ((Cn M).getD i ⟨[]⟩).l [⟨s⟩] = true := by
      intro i hi
      have htr := (Sc hov.1).1 (at_mem hi)
      have hh := htr.2.1
      rw [huM, Ds] at hh
      refine ⟨anyP_iff.2 ?_, (hits_one htr.1 hss).2 hh.2⟩
      obtain ⟨X, h1, h2⟩ := tr_ex _ (Nat.le_refl _) htr.1 hh.1
      exact ⟨X, (Sc hovl.1).2 h1, h2⟩
    have ha1 : ∀ i, i < (Cn l).length → anyQ (Cn M) ((Cn l).getD i ⟨[]⟩).l (Cn M).length = Du ((Cn l).getD i ⟨[]⟩).l [⟨s⟩] := by
      intro i hi
      have htr := (Sc hovl.1).1 (at_mem hi)
      rw [Bool.eq_iff_iff, anyQ_iff, hits_one htr.1 hss, Sc hov.1, huM]
      constructor
      · intro h; exact (Ds.1 h.2.1).2
      · intro h
        exact ⟨htr.1, Ds.2 ⟨htr.2.1, h⟩, fun x hx hh => htr.2.2 x hx (Ds.1 hh).1⟩
    have hlA := fun j => (ov_at oA.1 j).1
    have hlB := fun j => (ov_at oB.1 j).1
    obtain ⟨A, hAe⟩ : ∃ A, Cn l = A := ⟨_, rfl⟩
    obtain ⟨B, hBe⟩ : ∃ A, Cn M = A := ⟨_, rfl⟩
    rw [hAe] at hxA oA hb1 ha1 hlA
    rw [hBe] at hxB oB hb1 ha1 hlB
    have hAl := oA.2
    have hBl := oB.2
    simp only [Try.f5, Option.some.injEq] at hc
    subst hc
    refine Hy 7 (of_decide_eq_true (by kernel_rfl)) ?_
    (sym =>
     simp [hMe,enc_all,hf,hxA,hxB,B5.eq_def,Nv,Nx,Nw,Ny,Nu,Nt,Gr.eq_def,K1.eq_def,con_HitMore.eq_def,K6.eq_def,K0.eq_def,Ge.eq_def,K3.eq_def,Za,Zb,Zc,Zd,Ze,Zf,Zg,Zh,Zi,Zj,Zk,Zl,Zm,Zn,Zo,Zp,Zq,Zr,Zs,Zt,Zv,Zx,Zy,Zz,Z0,Z1,Z2,Z5,Z6,Z7,Z8,Z9,Qa,Qb,Qc,Qd,Qe,Qg,Qi,Qj,Qk,Ql,Qm,Qn,Qo,Qp,Qv,Qw,Qy,Qz,Q0,Q1,Q2,Q3,Q4,Q5,Q6,Q7,Q8,Q9,Ja,Jb,Jc,Jd,Je,Jl,Jm,Jn,Jo,Jp,Jq,Jr,Js,Jt,Ju,Jv,Jw,Jx,Jy,Jz,J0,J1,J2,J3,J4,J5,J6,J7,J8,J9,Xa,Xb,Xc,Xd,Xe,Xf,Xg,Xh,Xi,Xj,Xk,Xl,Xm,Xn,Xo,Xp,Xq,Xs,Xt,Xu,Xv,Xw,Xx,Xy,Xz,X0,X1,X2,X3,X4,X5,X6,X7,X8,X9,Wa,Wb,Wc,Wd,We,Wf,Wg,Wh,Wi,Wj,Wl,Wm,Wn,Wo,Wp,Wq,Wr,Ws,Wt,Wu,Wv,Ww,Wx,Wy,Wz,W0,W1,W2,W3,W4,W5,W6,W7,W8,W9,Ya,Yb,Yc,Yd,Ye,Yf,Yg,Yh,Yi,Yj,Yk,Yl,Ym,Yn,Yo,Yp,Yq,Yr,Ys,Yt,Yu,Yv,Yw,Yx,Yy,Yz,Y0,Y1,Y2,Y3,Y4,Y5,Y6,Y7,Y8,Y9,Va,Vb,Vc,Vd,Ve,Vf,Vg,Vh,Vi,Vj,Vk,Vl,Vm,Vn,Vo,Vp,Vq,Vr,Vs,Vt,Vu,Vv,Vw,Vx,Vy,Vz,V0,V1,V3,V4,V5,V6,V7,V8,V9,Ua,Ub,Uc,Ud,Ue,Uf,Ul,Um,Un,Uo,Uq,Ur,Us,Ut,Uu,Uv,Uw,Ux,Uy,Uz,U0,U1,U3,U4,U5,U6,U7,U8,U9,Ka,Kb,Kc,Kd,Ke,Kf,Kg,Kh,Ki,Kj,Kk,Kl,Km,Kn,Ko,Kq,Kr,Ks,Kt,Ga,G5,K8,M0,Kz]
     tactic =>
      try simp only [K2] at *
      try simp only [nc2] at *
      try simp (maxSteps := 4000000) only [hMe,enc_all,hf,hxA,hxB,B5.eq_def,Gg]
      repeat' (first | with_reducible assumption | with_reducible refine And.intro ?_ ?_ | intro _ | omega | (rw [Ku]; omega))
      all_goals first
        | (with_reducible refine K9 ?_; kernel_rfl)
        | assumption
        | omega
        | skip
      refine Gi [4, 11, 12, 43, 44, 45, 46, 47, 48, 49, 50, 51, 52, 53, 54, 55, 56, 57, 58, 59, 60, 61, 62, 63, 64, 65, 66, 67, 68, 69, 70, 71, 72, 73, 74, 75, 76, 77, 78] (fun i : Nat => [(10, .d (.int .i64 i))]) (fun i : Nat => []) (fun i : Nat => i ≤ B.length) (fun i : Nat => B.length - i) 0 ?_ ?_ ?_
      · exact Nat.zero_le _
      · ((try simp only [Kv, Ky, Kx, K4, upd, K5, Gb, Gs, Nat.reduceDiv, Nat.reduceMod, Nat.reduceMul, Nat.reduceAdd, Nat.reduceEqDiff, List.set_cons_zero, List.set_cons_succ, if_true, if_false, reduceIte]); (first | refine Wk.of_fl ?_ | skip); simp only [Wk, wkK, Gy, wkT, wk1, AV.kept, keptAll, wkO, lk, Kw, and_true, true_and, and_self, Nat.reduceEqDiff, Nat.reduceLeDiff, if_true, if_false, reduceIte, reduceCtorEq, Option.isSome, false_implies]; try simp [Wk, wkK, wkT, wk1, AV.kept, keptAll, wkO, lk, Kw])
      rintro i hi
      rcases Gl i B.length with ⟨hil, hib⟩ | ⟨hil, hib⟩
      · have q1 := Hd (⟨[]⟩ : Sl Int) hil
        obtain ⟨c1, c2⟩ := hb1 i hil
        have hbl := hlB i
        obtain ⟨⟨b⟩, hb⟩ : ∃ x, B.getD i ⟨[]⟩ = x := ⟨_, rfl⟩
        rw [hb] at q1 c1 c2 hbl
        simp only at c1 c2 hbl
        (sym =>
         simp [hib,q1,Nv,Nx,Nw,Ny,Nu,Nt,Gr.eq_def,K1.eq_def,con_HitMore.eq_def,K6.eq_def,K0.eq_def,Ge.eq_def,K3.eq_def,Za,Zb,Zc,Zd,Ze,Zf,Zg,Zh,Zi,Zj,Zk,Zl,Zm,Zn,Zo,Zp,Zq,Zr,Zs,Zt,Zv,Zx,Zy,Zz,Z0,Z1,Z2,Z5,Z6,Z7,Z8,Z9,Qa,Qb,Qc,Qd,Qe,Qg,Qi,Qj,Qk,Ql,Qm,Qn,Qo,Qp,Qv,Qw,Qy,Qz,Q0,Q1,Q2,Q3,Q4,Q5,Q6,Q7,Q8,Q9,Ja,Jb,Jc,Jd,Je,Jl,Jm,Jn,Jo,Jp,Jq,Jr,Js,Jt,Ju,Jv,Jw,Jx,Jy,Jz,J0,J1,J2,J3,J4,J5,J6,J7,J8,J9,Xa,Xb,Xc,Xd,Xe,Xf,Xg,Xh,Xi,Xj,Xk,Xl,Xm,Xn,Xo,Xp,Xq,Xs,Xt,Xu,Xv,Xw,Xx,Xy,Xz,X0,X1,X2,X3,X4,X5,X6,X7,X8,X9,Wa,Wb,Wc,Wd,We,Wf,Wg,Wh,Wi,Wj,Wl,Wm,Wn,Wo,Wp,Wq,Wr,Ws,Wt,Wu,Wv,Ww,Wx,Wy,Wz,W0,W1,W2,W3,W4,W5,W6,W7,W8,W9,Ya,Yb,Yc,Yd,Ye,Yf,Yg,Yh,Yi,Yj,Yk,Yl,Ym,Yn,Yo,Yp,Yq,Yr,Ys,Yt,Yu,Yv,Yw,Yx,Yy,Yz,Y0,Y1,Y2,Y3,Y4,Y5,Y6,Y7,Y8,Y9,Va,Vb,Vc,Vd,Ve,Vf,Vg,Vh,Vi,Vj,Vk,Vl,Vm,Vn,Vo,Vp,Vq,Vr,Vs,Vt,Vu,Vv,Vw,Vx,Vy,Vz,V0,V1,V3,V4,V5,V6,V7,V8,V9,Ua,Ub,Uc,Ud,Ue,Uf,Ul,Um,Un,Uo,Uq,Ur,Us,Ut,Uu,Uv,Uw,Ux,Uy,Uz,U0,U1,U3,U4,U5,U6,U7,U8,U9,Ka,Kb,Kc,Kd,Ke,Kf,Kg,Kh,Ki,Kj,Kk,Kl,Km,Kn,Ko,Kq,Kr,Ks,Kt,Ga,G5,K8,M0,Kz]
         tactic =>
          try simp only [K2] at *
          try simp only [nc2] at *
          try simp (maxSteps := 4000000) only [hib,q1,Gg]
          repeat' (first | with_reducible assumption | with_reducible refine And.intro ?_ ?_ | intro _ | omega | (rw [Ku]; omega))
          all_goals first
            | (with_reducible refine K9 ?_; kernel_rfl)
            | assumption
            | omega
            | skip
          refine Gi [49, 50, 51, 52, 53, 54, 55, 56, 57, 58, 59, 60, 61, 62, 63, 64, 65, 66] (fun k : Nat => [(12, .d (.int .i64 k)), (11, .d (.bool (O4 A b k)))]) (fun k : Nat => []) (fun k : Nat => k ≤ A.length) (fun k : Nat => A.length - k) 0 ?_ ?_ ?_
          · exact Nat.zero_le _
          · ((try simp only [Kv, Ky, Kx, K4, upd, K5, Gb, Gs, Nat.reduceDiv, Nat.reduceMod, Nat.reduceMul, Nat.reduceAdd, Nat.reduceEqDiff, List.set_cons_zero, List.set_cons_succ, if_true, if_false, reduceIte]); (first | refine Wk.of_fl ?_ | skip); simp only [Wk, wkK, Gy, wkT, wk1, AV.kept, keptAll, wkO, lk, Kw, and_true, true_and, and_self, Nat.reduceEqDiff, Nat.reduceLeDiff, if_true, if_false, reduceIte, reduceCtorEq, Option.isSome, false_implies]; try simp [Wk, wkK, wkT, wk1, AV.kept, keptAll, wkO, lk, Kw, O4])
          rintro k hk
          rcases Gl k A.length with ⟨hkl, hkb⟩ | ⟨hkl, hkb⟩
          · have f1 := Hd (⟨[]⟩ : Sl Int) hkl
            have hsucc := anyP_succ (s := b) hkl
            have hal := hlA k
            obtain ⟨⟨a⟩, ha⟩ : ∃ x, A.getD k ⟨[]⟩ = x := ⟨_, rfl⟩
            rw [ha] at f1 hsucc hal
            simp only at hsucc hal
            obtain ⟨v, hv⟩ : ∃ v, O4 A b k = v := ⟨_, rfl⟩
            rw [hv] at hsucc ⊢
            cases v with
            | true =>
              rw [Bool.true_or] at hsucc
              (sym =>
               simp [hib,q1,hkb,f1,Nv,Nx,Nw,Ny,Nu,Nt,Gr.eq_def,K1.eq_def,con_HitMore.eq_def,K6.eq_def,K0.eq_def,Ge.eq_def,K3.eq_def,Za,Zb,Zc,Zd,Ze,Zf,Zg,Zh,Zi,Zj,Zk,Zl,Zm,Zn,Zo,Zp,Zq,Zr,Zs,Zt,Zv,Zx,Zy,Zz,Z0,Z1,Z2,Z5,Z6,Z7,Z8,Z9,Qa,Qb,Qc,Qd,Qe,Qg,Qi,Qj,Qk,Ql,Qm,Qn,Qo,Qp,Qv,Qw,Qy,Qz,Q0,Q1,Q2,Q3,Q4,Q5,Q6,Q7,Q8,Q9,Ja,Jb,Jc,Jd,Je,Jl,Jm,Jn,Jo,Jp,Jq,Jr,Js,Jt,Ju,Jv,Jw,Jx,Jy,Jz,J0,J1,J2,J3,J4,J5,J6,J7,J8,J9,Xa,Xb,Xc,Xd,Xe,Xf,Xg,Xh,Xi,Xj,Xk,Xl,Xm,Xn,Xo,Xp,Xq,Xs,Xt,Xu,Xv,Xw,Xx,Xy,Xz,X0,X1,X2,X3,X4,X5,X6,X7,X8,X9,Wa,Wb,Wc,Wd,We,Wf,Wg,Wh,Wi,Wj,Wl,Wm,Wn,Wo,Wp,Wq,Wr,Ws,Wt,Wu,Wv,Ww,Wx,Wy,Wz,W0,W1,W2,W3,W4,W5,W6,W7,W8,W9,Ya,Yb,Yc,Yd,Ye,Yf,Yg,Yh,Yi,Yj,Yk,Yl,Ym,Yn,Yo,Yp,Yq,Yr,Ys,Yt,Yu,Yv,Yw,Yx,Yy,Yz,Y0,Y1,Y2,Y3,Y4,Y5,Y6,Y7,Y8,Y9,Va,Vb,Vc,Vd,Ve,Vf,Vg,Vh,Vi,Vj,Vk,Vl,Vm,Vn,Vo,Vp,Vq,Vr,Vs,Vt,Vu,Vv,Vw,Vx,Vy,Vz,V0,V1,V3,V4,V5,V6,V7,V8,V9,Ua,Ub,Uc,Ud,Ue,Uf,Ul,Um,Un,Uo,Uq,Ur,Us,Ut,Uu,Uv,Uw,Ux,Uy,Uz,U0,U1,U3,U4,U5,U6,U7,U8,U9,Ka,Kb,Kc,Kd,Ke,Kf,Kg,Kh,Ki,Kj,Kk,Kl,Km,Kn,Ko,Kq,Kr,Ks,Kt,Ga,G5,K8,M0,Kz]
               tactic =>
                try simp only [K2] at *
                try simp only [nc2] at *
                try simp (maxSteps := 4000000) only [hib,q1,hkb,f1,Gg]
                repeat' (first | with_reducible assumption | with_reducible refine And.intro ?_ ?_ | intro _ | omega | (rw [Ku]; omega))
                all_goals first
                  | (with_reducible refine K9 ?_; kernel_rfl)
                  | omega
                  | exact ⟨k + 1, by rw [hsucc]; ((try simp only [Kv, Ky, Kx, K4, upd, K5, Gb, Gs, Nat.reduceDiv, Nat.reduceMod, Nat.reduceMul, Nat.reduceAdd, Nat.reduceEqDiff, List.set_cons_zero, List.set_cons_succ, if_true, if_false, reduceIte]); (first | refine Wk.of_fl ?_ | skip); simp only [Wk, wkK, Gy, wkT, wk1, AV.kept, keptAll, wkO, lk, Kw, and_true, true_and, and_self, Nat.reduceEqDiff, Nat.reduceLeDiff, if_true, if_false, reduceIte, reduceCtorEq, Option.isSome, false_implies]; try simp [Wk, wkK, wkT, wk1, AV.kept, keptAll, wkO, lk, Kw]), by omega, by omega⟩
                  | skip)
            | false =>
              rw [Bool.false_or] at hsucc
              obtain ⟨v2, hv2⟩ : ∃ v, Sq a b = v := ⟨_, rfl⟩
              rw [hv2] at hsucc
              (sym =>
               simp [hib,q1,hkb,f1,hv2,Nv,Nx,Nw,Ny,Nu,Nt,Gr.eq_def,K1.eq_def,con_HitMore.eq_def,K6.eq_def,K0.eq_def,Ge.eq_def,K3.eq_def,Za,Zb,Zc,Zd,Ze,Zf,Zg,Zh,Zi,Zj,Zk,Zl,Zm,Zn,Zo,Zp,Zq,Zr,Zs,Zt,Zv,Zx,Zy,Zz,Z0,Z1,Z2,Z5,Z6,Z7,Z8,Z9,Qa,Qb,Qc,Qd,Qe,Qg,Qi,Qj,Qk,Ql,Qm,Qn,Qo,Qp,Qv,Qw,Qy,Qz,Q0,Q1,Q2,Q3,Q4,Q5,Q6,Q7,Q8,Q9,Ja,Jb,Jc,Jd,Je,Jl,Jm,Jn,Jo,Jp,Jq,Jr,Js,Jt,Ju,Jv,Jw,Jx,Jy,Jz,J0,J1,J2,J3,J4,J5,J6,J7,J8,J9,Xa,Xb,Xc,Xd,Xe,Xf,Xg,Xh,Xi,Xj,Xk,Xl,Xm,Xn,Xo,Xp,Xq,Xs,Xt,Xu,Xv,Xw,Xx,Xy,Xz,X0,X1,X2,X3,X4,X5,X6,X7,X8,X9,Wa,Wb,Wc,Wd,We,Wf,Wg,Wh,Wi,Wj,Wl,Wm,Wn,Wo,Wp,Wq,Wr,Ws,Wt,Wu,Wv,Ww,Wx,Wy,Wz,W0,W1,W2,W3,W4,W5,W6,W7,W8,W9,Ya,Yb,Yc,Yd,Ye,Yf,Yg,Yh,Yi,Yj,Yk,Yl,Ym,Yn,Yo,Yp,Yq,Yr,Ys,Yt,Yu,Yv,Yw,Yx,Yy,Yz,Y0,Y1,Y2,Y3,Y4,Y5,Y6,Y7,Y8,Y9,Va,Vb,Vc,Vd,Ve,Vf,Vg,Vh,Vi,Vj,Vk,Vl,Vm,Vn,Vo,Vp,Vq,Vr,Vs,Vt,Vu,Vv,Vw,Vx,Vy,Vz,V0,V1,V3,V4,V5,V6,V7,V8,V9,Ua,Ub,Uc,Ud,Ue,Uf,Ul,Um,Un,Uo,Uq,Ur,Us,Ut,Uu,Uv,Uw,Ux,Uy,Uz,U0,U1,U3,U4,U5,U6,U7,U8,U9,Ka,Kb,Kc,Kd,Ke,Kf,Kg,Kh,Ki,Kj,Kk,Kl,Km,Kn,Ko,Kq,Kr,Ks,Kt,Ga,G5,K8,M0,Kz]
               tactic =>
                try simp only [K2] at *
                try simp only [nc2] at *
                try simp (maxSteps := 4000000) only [hib,q1,hkb,f1,hv2,Gg]
                repeat' (first | with_reducible assumption | with_reducible refine And.intro ?_ ?_ | intro _ | omega | (rw [Ku]; omega))
                all_goals first
                  | (with_reducible refine K9 ?_; kernel_rfl)
                  | omega
                  | exact ⟨k + 1, by rw [hsucc]; ((try simp only [Kv, Ky, Kx, K4, upd, K5, Gb, Gs, Nat.reduceDiv, Nat.reduceMod, Nat.reduceMul, Nat.reduceAdd, Nat.reduceEqDiff, List.set_cons_zero, List.set_cons_succ, if_true, if_false, reduceIte]); (first | refine Wk.of_fl ?_ | skip); simp only [Wk, wkK, Gy, wkT, wk1, AV.kept, keptAll, wkO, lk, Kw, and_true, true_and, and_self, Nat.reduceEqDiff, Nat.reduceLeDiff, if_true, if_false, reduceIte, reduceCtorEq, Option.isSome, false_implies]; try simp [Wk, wkK, wkT, wk1, AV.kept, keptAll, wkO, lk, Kw]), by omega, by omega⟩
                  | skip)
          · have hke : k = A.length := by omega
            rw [hke, c1]
            have hkb' : ltB (A.length : Int) (A.length : Int) = false := by rw [Hg]; omega
            (sym =>
             simp [hib,q1,hkb',An,c2,Nv,Nx,Nw,Ny,Nu,Nt,Gr.eq_def,K1.eq_def,con_HitMore.eq_def,K6.eq_def,K0.eq_def,Ge.eq_def,K3.eq_def,Za,Zb,Zc,Zd,Ze,Zf,Zg,Zh,Zi,Zj,Zk,Zl,Zm,Zn,Zo,Zp,Zq,Zr,Zs,Zt,Zv,Zx,Zy,Zz,Z0,Z1,Z2,Z5,Z6,Z7,Z8,Z9,Qa,Qb,Qc,Qd,Qe,Qg,Qi,Qj,Qk,Ql,Qm,Qn,Qo,Qp,Qv,Qw,Qy,Qz,Q0,Q1,Q2,Q3,Q4,Q5,Q6,Q7,Q8,Q9,Ja,Jb,Jc,Jd,Je,Jl,Jm,Jn,Jo,Jp,Jq,Jr,Js,Jt,Ju,Jv,Jw,Jx,Jy,Jz,J0,J1,J2,J3,J4,J5,J6,J7,J8,J9,Xa,Xb,Xc,Xd,Xe,Xf,Xg,Xh,Xi,Xj,Xk,Xl,Xm,Xn,Xo,Xp,Xq,Xs,Xt,Xu,Xv,Xw,Xx,Xy,Xz,X0,X1,X2,X3,X4,X5,X6,X7,X8,X9,Wa,Wb,Wc,Wd,We,Wf,Wg,Wh,Wi,Wj,Wl,Wm,Wn,Wo,Wp,Wq,Wr,Ws,Wt,Wu,Wv,Ww,Wx,Wy,Wz,W0,W1,W2,W3,W4,W5,W6,W7,W8,W9,Ya,Yb,Yc,Yd,Ye,Yf,Yg,Yh,Yi,Yj,Yk,Yl,Ym,Yn,Yo,Yp,Yq,Yr,Ys,Yt,Yu,Yv,Yw,Yx,Yy,Yz,Y0,Y1,Y2,Y3,Y4,Y5,Y6,Y7,Y8,Y9,Va,Vb,Vc,Vd,Ve,Vf,Vg,Vh,Vi,Vj,Vk,Vl,Vm,Vn,Vo,Vp,Vq,Vr,Vs,Vt,Vu,Vv,Vw,Vx,Vy,Vz,V0,V1,V3,V4,V5,V6,V7,V8,V9,Ua,Ub,Uc,Ud,Ue,Uf,Ul,Um,Un,Uo,Uq,Ur,Us,Ut,Uu,Uv,Uw,Ux,Uy,Uz,U0,U1,U3,U4,U5,U6,U7,U8,U9,Ka,Kb,Kc,Kd,Ke,Kf,Kg,Kh,Ki,Kj,Kk,Kl,Km,Kn,Ko,Kq,Kr,Ks,Kt,Ga,G5,K8,M0,Kz]
             tactic =>
              try simp only [K2] at *
              try simp only [nc2] at *
              try simp (maxSteps := 4000000) only [hib,q1,hkb',An,c2,Gg]
              repeat' (first | with_reducible assumption | with_reducible refine And.intro ?_ ?_ | intro _ | omega | (rw [Ku]; omega))
              all_goals first
                | (with_reducible refine K9 ?_; kernel_rfl)
                | assumption
                | omega
                | exact ⟨i + 1, by ((try simp only [Kv, Ky, Kx, K4, upd, K5, Gb, Gs, Nat.reduceDiv, Nat.reduceMod, Nat.reduceMul, Nat.reduceAdd, Nat.reduceEqDiff, List.set_cons_zero, List.set_cons_succ, if_true, if_false, reduceIte]); (first | refine Wk.of_fl ?_ | skip); simp only [Wk, wkK, Gy, wkT, wk1, AV.kept, keptAll, wkO, lk, Kw, and_true, true_and, and_self, Nat.reduceEqDiff, Nat.reduceLeDiff, if_true, if_false, reduceIte, reduceCtorEq, Option.isSome, false_implies]; try simp [Wk, wkK, wkT, wk1, AV.kept, keptAll, wkO, lk, Kw]), by omega, by omega⟩
                | skip))
      · skip
        (sym =>
         simp [hib,Nv,Nx,Nw,Ny,Nu,Nt,Gr.eq_def,K1.eq_def,con_HitMore.eq_def,K6.eq_def,K0.eq_def,Ge.eq_def,K3.eq_def,Za,Zb,Zc,Zd,Ze,Zf,Zg,Zh,Zi,Zj,Zk,Zl,Zm,Zn,Zo,Zp,Zq,Zr,Zs,Zt,Zv,Zx,Zy,Zz,Z0,Z1,Z2,Z5,Z6,Z7,Z8,Z9,Qa,Qb,Qc,Qd,Qe,Qg,Qi,Qj,Qk,Ql,Qm,Qn,Qo,Qp,Qv,Qw,Qy,Qz,Q0,Q1,Q2,Q3,Q4,Q5,Q6,Q7,Q8,Q9,Ja,Jb,Jc,Jd,Je,Jl,Jm,Jn,Jo,Jp,Jq,Jr,Js,Jt,Ju,Jv,Jw,Jx,Jy,Jz,J0,J1,J2,J3,J4,J5,J6,J7,J8,J9,Xa,Xb,Xc,Xd,Xe,Xf,Xg,Xh,Xi,Xj,Xk,Xl,Xm,Xn,Xo,Xp,Xq,Xs,Xt,Xu,Xv,Xw,Xx,Xy,Xz,X0,X1,X2,X3,X4,X5,X6,X7,X8,X9,Wa,Wb,Wc,Wd,We,Wf,Wg,Wh,Wi,Wj,Wl,Wm,Wn,Wo,Wp,Wq,Wr,Ws,Wt,Wu,Wv,Ww,Wx,Wy,Wz,W0,W1,W2,W3,W4,W5,W6,W7,W8,W9,Ya,Yb,Yc,Yd,Ye,Yf,Yg,Yh,Yi,Yj,Yk,Yl,Ym,Yn,Yo,Yp,Yq,Yr,Ys,Yt,Yu,Yv,Yw,Yx,Yy,Yz,Y0,Y1,Y2,Y3,Y4,Y5,Y6,Y7,Y8,Y9,Va,Vb,Vc,Vd,Ve,Vf,Vg,Vh,Vi,Vj,Vk,Vl,Vm,Vn,Vo,Vp,Vq,Vr,Vs,Vt,Vu,Vv,Vw,Vx,Vy,Vz,V0,V1,V3,V4,V5,V6,V7,V8,V9,Ua,Ub,Uc,Ud,Ue,Uf,Ul,Um,Un,Uo,Uq,Ur,Us,Ut,Uu,Uv,Uw,Ux,Uy,Uz,U0,U1,U3,U4,U5,U6,U7,U8,U9,Ka,Kb,Kc,Kd,Ke,Kf,Kg,Kh,Ki,Kj,Kk,Kl,Km,Kn,Ko,Kq,Kr,Ks,Kt,Ga,G5,K8,M0,Kz]
         tactic =>
          try simp only [K2] at *
          try simp only [nc2] at *
          try simp (maxSteps := 4000000) only [hib,Gg]
          repeat' (first | with_reducible assumption | with_reducible refine And.intro ?_ ?_ | intro _ | omega | (rw [Ku]; omega))
          all_goals first
            | (with_reducible refine K9 ?_; kernel_rfl)
            | assumption
            | omega
            | skip
          refine Gi [4, 14, 15, 79, 80, 81, 82, 83, 84, 85, 86, 87, 88, 89, 90, 91, 92, 93, 94, 95, 96, 97, 98, 99, 100, 101, 102, 103, 104, 105, 106, 107, 108, 109, 110, 111, 112, 113] (fun i : Nat => [(13, .d (.int .i64 i))]) (fun i : Nat => []) (fun i : Nat => i ≤ A.length) (fun i : Nat => A.length - i) 0 ?_ ?_ ?_
          · exact Nat.zero_le _
          · ((try simp only [Kv, Ky, Kx, K4, upd, K5, Gb, Gs, Nat.reduceDiv, Nat.reduceMod, Nat.reduceMul, Nat.reduceAdd, Nat.reduceEqDiff, List.set_cons_zero, List.set_cons_succ, if_true, if_false, reduceIte]); (first | refine Wk.of_fl ?_ | skip); simp only [Wk, wkK, Gy, wkT, wk1, AV.kept, keptAll, wkO, lk, Kw, and_true, true_and, and_self, Nat.reduceEqDiff, Nat.reduceLeDiff, if_true, if_false, reduceIte, reduceCtorEq, Option.isSome, false_implies]; try simp [Wk, wkK, wkT, wk1, AV.kept, keptAll, wkO, lk, Kw])
          rintro i hi
          rcases Gl i A.length with ⟨hil, hib⟩ | ⟨hil, hib⟩
          · have q1 := Hd (⟨[]⟩ : Sl Int) hil
            have d1 := drop_one hil
            have c1 := ha1 i hil
            have hal := hlA i
            obtain ⟨⟨a⟩, ha⟩ : ∃ x, A.getD i ⟨[]⟩ = x := ⟨_, rfl⟩
            rw [ha] at q1 c1 d1 hal
            simp only at c1 hal
            obtain ⟨I, hI⟩ : ∃ I, i + 1 = I := ⟨_, rfl⟩
            have eI : (i : Int) + 1 = (I : Int) := by omega
            rw [hI] at d1
            have ra := rw_one (x := a) (by omega)
            (sym =>
             simp [hib,q1,Nv,Nx,Nw,Ny,Nu,Nt,Gr.eq_def,K1.eq_def,con_HitMore.eq_def,K6.eq_def,K0.eq_def,Ge.eq_def,K3.eq_def,Za,Zb,Zc,Zd,Ze,Zf,Zg,Zh,Zi,Zj,Zk,Zl,Zm,Zn,Zo,Zp,Zq,Zr,Zs,Zt,Zv,Zx,Zy,Zz,Z0,Z1,Z2,Z5,Z6,Z7,Z8,Z9,Qa,Qb,Qc,Qd,Qe,Qg,Qi,Qj,Qk,Ql,Qm,Qn,Qo,Qp,Qv,Qw,Qy,Qz,Q0,Q1,Q2,Q3,Q4,Q5,Q6,Q7,Q8,Q9,Ja,Jb,Jc,Jd,Je,Jl,Jm,Jn,Jo,Jp,Jq,Jr,Js,Jt,Ju,Jv,Jw,Jx,Jy,Jz,J0,J1,J2,J3,J4,J5,J6,J7,J8,J9,Xa,Xb,Xc,Xd,Xe,Xf,Xg,Xh,Xi,Xj,Xk,Xl,Xm,Xn,Xo,Xp,Xq,Xs,Xt,Xu,Xv,Xw,Xx,Xy,Xz,X0,X1,X2,X3,X4,X5,X6,X7,X8,X9,Wa,Wb,Wc,Wd,We,Wf,Wg,Wh,Wi,Wj,Wl,Wm,Wn,Wo,Wp,Wq,Wr,Ws,Wt,Wu,Wv,Ww,Wx,Wy,Wz,W0,W1,W2,W3,W4,W5,W6,W7,W8,W9,Ya,Yb,Yc,Yd,Ye,Yf,Yg,Yh,Yi,Yj,Yk,Yl,Ym,Yn,Yo,Yp,Yq,Yr,Ys,Yt,Yu,Yv,Yw,Yx,Yy,Yz,Y0,Y1,Y2,Y3,Y4,Y5,Y6,Y7,Y8,Y9,Va,Vb,Vc,Vd,Ve,Vf,Vg,Vh,Vi,Vj,Vk,Vl,Vm,Vn,Vo,Vp,Vq,Vr,Vs,Vt,Vu,Vv,Vw,Vx,Vy,Vz,V0,V1,V3,V4,V5,V6,V7,V8,V9,Ua,Ub,Uc,Ud,Ue,Uf,Ul,Um,Un,Uo,Uq,Ur,Us,Ut,Uu,Uv,Uw,Ux,Uy,Uz,U0,U1,U3,U4,U5,U6,U7,U8,U9,Ka,Kb,Kc,Kd,Ke,Kf,Kg,Kh,Ki,Kj,Kk,Kl,Km,Kn,Ko,Kq,Kr,Ks,Kt,Ga,G5,K8,M0,Kz]
             tactic =>
              try simp only [K2] at *
              try simp only [nc2] at *
              try simp (maxSteps := 4000000) only [hib,q1,Gg]
              repeat' (first | with_reducible assumption | with_reducible refine And.intro ?_ ?_ | intro _ | omega | (rw [Ku]; omega))
              all_goals first
                | (with_reducible refine K9 ?_; kernel_rfl)
                | assumption
                | omega
                | skip
              refine Gi [85, 86, 87, 88, 89, 90, 91, 92, 93, 94, 95, 96, 97, 98, 99, 100, 101, 102, 103, 104] (fun k : Nat => [(15, .d (.int .i64 k)), (14, .d (.bool (anyQ B a k)))]) (fun k : Nat => []) (fun k : Nat => k ≤ B.length) (fun k : Nat => B.length - k) 0 ?_ ?_ ?_
              · exact Nat.zero_le _
              · ((try simp only [Kv, Ky, Kx, K4, upd, K5, Gb, Gs, Nat.reduceDiv, Nat.reduceMod, Nat.reduceMul, Nat.reduceAdd, Nat.reduceEqDiff, List.set_cons_zero, List.set_cons_succ, if_true, if_false, reduceIte]); (first | refine Wk.of_fl ?_ | skip); simp only [Wk, wkK, Gy, wkT, wk1, AV.kept, keptAll, wkO, lk, Kw, and_true, true_and, and_self, Nat.reduceEqDiff, Nat.reduceLeDiff, if_true, if_false, reduceIte, reduceCtorEq, Option.isSome, false_implies]; try simp [Wk, wkK, wkT, wk1, AV.kept, keptAll, wkO, lk, Kw, anyQ])
              rintro k hk
              rcases Gl k B.length with ⟨hkl, hkb⟩ | ⟨hkl, hkb⟩
              · have f1 := drop_one hkl
                have hsucc := anyQ_succ (a := a) hkl
                have hbl := hlB k
                obtain ⟨⟨b⟩, hb⟩ : ∃ x, B.getD k ⟨[]⟩ = x := ⟨_, rfl⟩
                rw [hb] at f1 hsucc hbl
                simp only at hbl
                obtain ⟨J, hJ⟩ : ∃ I, k + 1 = I := ⟨_, rfl⟩
                have eJ : (k : Int) + 1 = (J : Int) := by omega
                rw [hJ] at f1 hsucc
                have rb := rw_one (x := b) (by omega)
                obtain ⟨v, hv⟩ : ∃ v, anyQ B a k = v := ⟨_, rfl⟩
                rw [hv] at hsucc ⊢
                cases v with
                | true =>
                  rw [Bool.true_or] at hsucc
                  (sym =>
                   simp [hib,q1,hkb,eI,eJ,Nv,Nx,Nw,Ny,Nu,Nt,Gr.eq_def,K1.eq_def,con_HitMore.eq_def,K6.eq_def,K0.eq_def,Ge.eq_def,K3.eq_def,Za,Zb,Zc,Zd,Ze,Zf,Zg,Zh,Zi,Zj,Zk,Zl,Zm,Zn,Zo,Zp,Zq,Zr,Zs,Zt,Zv,Zx,Zy,Zz,Z0,Z1,Z2,Z5,Z6,Z7,Z8,Z9,Qa,Qb,Qc,Qd,Qe,Qg,Qi,Qj,Qk,Ql,Qm,Qn,Qo,Qp,Qv,Qw,Qy,Qz,Q0,Q1,Q2,Q3,Q4,Q5,Q6,Q7,Q8,Q9,Ja,Jb,Jc,Jd,Je,Jl,Jm,Jn,Jo,Jp,Jq,Jr,Js,Jt,Ju,Jv,Jw,Jx,Jy,Jz,J0,J1,J2,J3,J4,J5,J6,J7,J8,J9,Xa,Xb,Xc,Xd,Xe,Xf,Xg,Xh,Xi,Xj,Xk,Xl,Xm,Xn,Xo,Xp,Xq,Xs,Xt,Xu,Xv,Xw,Xx,Xy,Xz,X0,X1,X2,X3,X4,X5,X6,X7,X8,X9,Wa,Wb,Wc,Wd,We,Wf,Wg,Wh,Wi,Wj,Wl,Wm,Wn,Wo,Wp,Wq,Wr,Ws,Wt,Wu,Wv,Ww,Wx,Wy,Wz,W0,W1,W2,W3,W4,W5,W6,W7,W8,W9,Ya,Yb,Yc,Yd,Ye,Yf,Yg,Yh,Yi,Yj,Yk,Yl,Ym,Yn,Yo,Yp,Yq,Yr,Ys,Yt,Yu,Yv,Yw,Yx,Yy,Yz,Y0,Y1,Y2,Y3,Y4,Y5,Y6,Y7,Y8,Y9,Va,Vb,Vc,Vd,Ve,Vf,Vg,Vh,Vi,Vj,Vk,Vl,Vm,Vn,Vo,Vp,Vq,Vr,Vs,Vt,Vu,Vv,Vw,Vx,Vy,Vz,V0,V1,V3,V4,V5,V6,V7,V8,V9,Ua,Ub,Uc,Ud,Ue,Uf,Ul,Um,Un,Uo,Uq,Ur,Us,Ut,Uu,Uv,Uw,Ux,Uy,Uz,U0,U1,U3,U4,U5,U6,U7,U8,U9,Ka,Kb,Kc,Kd,Ke,Kf,Kg,Kh,Ki,Kj,Kk,Kl,Km,Kn,Ko,Kq,Kr,Ks,Kt,Ga,G5,K8,M0,Kz]
                   tactic =>
                    try simp only [K2] at *
                    try simp only [nc2] at *
                    try simp (maxSteps := 4000000) only [hib,q1,hkb,eI,eJ,Gg]
                    repeat' (first | with_reducible assumption | with_reducible refine And.intro ?_ ?_ | intro _ | omega | (rw [Ku]; omega))
                    all_goals first
                      | (with_reducible refine K9 ?_; kernel_rfl)
                      | assumption
                      | omega
                      | exact ⟨J, by rw [hsucc]; ((try simp only [Kv, Ky, Kx, K4, upd, K5, Gb, Gs, Nat.reduceDiv, Nat.reduceMod, Nat.reduceMul, Nat.reduceAdd, Nat.reduceEqDiff, List.set_cons_zero, List.set_cons_succ, if_true, if_false, reduceIte]); (first | refine Wk.of_fl ?_ | skip); simp only [Wk, wkK, Gy, wkT, wk1, AV.kept, keptAll, wkO, lk, Kw, and_true, true_and, and_self, Nat.reduceEqDiff, Nat.reduceLeDiff, if_true, if_false, reduceIte, reduceCtorEq, Option.isSome, false_implies]; try simp [Wk, wkK, wkT, wk1, AV.kept, keptAll, wkO, lk, Kw]), by omega, by omega⟩
                      | skip)
                | false =>
                  rw [Bool.false_or] at hsucc
                  obtain ⟨v2, hv2⟩ : ∃ v, sameB [⟨b⟩] [⟨a⟩] = v := ⟨_, rfl⟩
                  rw [hv2] at hsucc
                  (sym =>
                   simp [hib,q1,hkb,eI,eJ,f1,d1,An,hv2,Int.toNat_natCast,Nv,Nx,Nw,Ny,Nu,Nt,Gr.eq_def,K1.eq_def,con_HitMore.eq_def,K6.eq_def,K0.eq_def,Ge.eq_def,K3.eq_def,Za,Zb,Zc,Zd,Ze,Zf,Zg,Zh,Zi,Zj,Zk,Zl,Zm,Zn,Zo,Zp,Zq,Zr,Zs,Zt,Zv,Zx,Zy,Zz,Z0,Z1,Z2,Z5,Z6,Z7,Z8,Z9,Qa,Qb,Qc,Qd,Qe,Qg,Qi,Qj,Qk,Ql,Qm,Qn,Qo,Qp,Qv,Qw,Qy,Qz,Q0,Q1,Q2,Q3,Q4,Q5,Q6,Q7,Q8,Q9,Ja,Jb,Jc,Jd,Je,Jl,Jm,Jn,Jo,Jp,Jq,Jr,Js,Jt,Ju,Jv,Jw,Jx,Jy,Jz,J0,J1,J2,J3,J4,J5,J6,J7,J8,J9,Xa,Xb,Xc,Xd,Xe,Xf,Xg,Xh,Xi,Xj,Xk,Xl,Xm,Xn,Xo,Xp,Xq,Xs,Xt,Xu,Xv,Xw,Xx,Xy,Xz,X0,X1,X2,X3,X4,X5,X6,X7,X8,X9,Wa,Wb,Wc,Wd,We,Wf,Wg,Wh,Wi,Wj,Wl,Wm,Wn,Wo,Wp,Wq,Wr,Ws,Wt,Wu,Wv,Ww,Wx,Wy,Wz,W0,W1,W2,W3,W4,W5,W6,W7,W8,W9,Ya,Yb,Yc,Yd,Ye,Yf,Yg,Yh,Yi,Yj,Yk,Yl,Ym,Yn,Yo,Yp,Yq,Yr,Ys,Yt,Yu,Yv,Yw,Yx,Yy,Yz,Y0,Y1,Y2,Y3,Y4,Y5,Y6,Y7,Y8,Y9,Va,Vb,Vc,Vd,Ve,Vf,Vg,Vh,Vi,Vj,Vk,Vl,Vm,Vn,Vo,Vp,Vq,Vr,Vs,Vt,Vu,Vv,Vw,Vx,Vy,Vz,V0,V1,V3,V4,V5,V6,V7,V8,V9,Ua,Ub,Uc,Ud,Ue,Uf,Ul,Um,Un,Uo,Uq,Ur,Us,Ut,Uu,Uv,Uw,Ux,Uy,Uz,U0,U1,U3,U4,U5,U6,U7,U8,U9,Ka,Kb,Kc,Kd,Ke,Kf,Kg,Kh,Ki,Kj,Kk,Kl,Km,Kn,Ko,Kq,Kr,Ks,Kt,Ga,G5,K8,M0,Kz]
                   tactic =>
                    try simp only [K2] at *
                    try simp only [nc2] at *
                    try simp (maxSteps := 4000000) only [hib,q1,hkb,eI,eJ,f1,d1,An,hv2,Int.toNat_natCast,Gg]
                    repeat' (first | with_reducible assumption | with_reducible refine And.intro ?_ ?_ | intro _ | omega | (rw [Ku]; omega))
                    all_goals first
                      | (with_reducible refine K9 ?_; kernel_rfl)
                      | assumption
                      | omega
                      | exact ⟨J, by rw [hsucc]; ((try simp only [Kv, Ky, Kx, K4, upd, K5, Gb, Gs, Nat.reduceDiv, Nat.reduceMod, Nat.reduceMul, Nat.reduceAdd, Nat.reduceEqDiff, List.set_cons_zero, List.set_cons_succ, if_true, if_false, reduceIte]); (first | refine Wk.of_fl ?_ | skip); simp only [Wk, wkK, Gy, wkT, wk1, AV.kept, keptAll, wkO, lk, Kw, and_true, true_and, and_self, Nat.reduceEqDiff, Nat.reduceLeDiff, if_true, if_false, reduceIte, reduceCtorEq, Option.isSome, false_implies]; try simp [Wk, wkK, wkT, wk1, AV.kept, keptAll, wkO, lk, Kw]), by omega, by omega⟩
                      | skip)
              · have hke : k = B.length := by omega
                obtain ⟨v, hv⟩ : ∃ v, Du a [⟨s⟩] = v := ⟨_, rfl⟩
                rw [hv] at c1
                rw [hke, c1]
                have hvv : (v != v) = false := bne_self_eq_false v
                have hkb' : ltB (B.length : Int) (B.length : Int) = false := by rw [Hg]; omega
                (sym =>
                 simp [hib,q1,hkb',An,hv,hvv,eI,Nv,Nx,Nw,Ny,Nu,Nt,Gr.eq_def,K1.eq_def,con_HitMore.eq_def,K6.eq_def,K0.eq_def,Ge.eq_def,K3.eq_def,Za,Zb,Zc,Zd,Ze,Zf,Zg,Zh,Zi,Zj,Zk,Zl,Zm,Zn,Zo,Zp,Zq,Zr,Zs,Zt,Zv,Zx,Zy,Zz,Z0,Z1,Z2,Z5,Z6,Z7,Z8,Z9,Qa,Qb,Qc,Qd,Qe,Qg,Qi,Qj,Qk,Ql,Qm,Qn,Qo,Qp,Qv,Qw,Qy,Qz,Q0,Q1,Q2,Q3,Q4,Q5,Q6,Q7,Q8,Q9,Ja,Jb,Jc,Jd,Je,Jl,Jm,Jn,Jo,Jp,Jq,Jr,Js,Jt,Ju,Jv,Jw,Jx,Jy,Jz,J0,J1,J2,J3,J4,J5,J6,J7,J8,J9,Xa,Xb,Xc,Xd,Xe,Xf,Xg,Xh,Xi,Xj,Xk,Xl,Xm,Xn,Xo,Xp,Xq,Xs,Xt,Xu,Xv,Xw,Xx,Xy,Xz,X0,X1,X2,X3,X4,X5,X6,X7,X8,X9,Wa,Wb,Wc,Wd,We,Wf,Wg,Wh,Wi,Wj,Wl,Wm,Wn,Wo,Wp,Wq,Wr,Ws,Wt,Wu,Wv,Ww,Wx,Wy,Wz,W0,W1,W2,W3,W4,W5,W6,W7,W8,W9,Ya,Yb,Yc,Yd,Ye,Yf,Yg,Yh,Yi,Yj,Yk,Yl,Ym,Yn,Yo,Yp,Yq,Yr,Ys,Yt,Yu,Yv,Yw,Yx,Yy,Yz,Y0,Y1,Y2,Y3,Y4,Y5,Y6,Y7,Y8,Y9,Va,Vb,Vc,Vd,Ve,Vf,Vg,Vh,Vi,Vj,Vk,Vl,Vm,Vn,Vo,Vp,Vq,Vr,Vs,Vt,Vu,Vv,Vw,Vx,Vy,Vz,V0,V1,V3,V4,V5,V6,V7,V8,V9,Ua,Ub,Uc,Ud,Ue,Uf,Ul,Um,Un,Uo,Uq,Ur,Us,Ut,Uu,Uv,Uw,Ux,Uy,Uz,U0,U1,U3,U4,U5,U6,U7,U8,U9,Ka,Kb,Kc,Kd,Ke,Kf,Kg,Kh,Ki,Kj,Kk,Kl,Km,Kn,Ko,Kq,Kr,Ks,Kt,Ga,G5,K8,M0,Kz]
                 tactic =>
                  try simp only [K2] at *
                  try simp only [nc2] at *
                  try simp (maxSteps := 4000000) only [hib,q1,hkb',An,hv,hvv,eI,Gg]
                  repeat' (first | with_reducible assumption | with_reducible refine And.intro ?_ ?_ | intro _ | omega | (rw [Ku]; omega))
                  all_goals first
                    | (with_reducible refine K9 ?_; kernel_rfl)
                    | assumption
                    | omega
                    | exact ⟨I, by ((try simp only [Kv, Ky, Kx, K4, upd, K5, Gb, Gs, Nat.reduceDiv, Nat.reduceMod, Nat.reduceMul, Nat.reduceAdd, Nat.reduceEqDiff, List.set_cons_zero, List.set_cons_succ, if_true, if_false, reduceIte]); (first | refine Wk.of_fl ?_ | skip); simp only [Wk, wkK, Gy, wkT, wk1, AV.kept, keptAll, wkO, lk, Kw, and_true, true_and, and_self, Nat.reduceEqDiff, Nat.reduceLeDiff, if_true, if_false, reduceIte, reduceCtorEq, Option.isSome, false_implies]; try simp [Wk, wkK, wkT, wk1, AV.kept, keptAll, wkO, lk, Kw]), by omega, by omega⟩
                    | skip))
          · skip
            (sym =>
             simp [hib,Nv,Nx,Nw,Ny,Nu,Nt,Gr.eq_def,K1.eq_def,con_HitMore.eq_def,K6.eq_def,K0.eq_def,Ge.eq_def,K3.eq_def,Za,Zb,Zc,Zd,Ze,Zf,Zg,Zh,Zi,Zj,Zk,Zl,Zm,Zn,Zo,Zp,Zq,Zr,Zs,Zt,Zv,Zx,Zy,Zz,Z0,Z1,Z2,Z5,Z6,Z7,Z8,Z9,Qa,Qb,Qc,Qd,Qe,Qg,Qi,Qj,Qk,Ql,Qm,Qn,Qo,Qp,Qv,Qw,Qy,Qz,Q0,Q1,Q2,Q3,Q4,Q5,Q6,Q7,Q8,Q9,Ja,Jb,Jc,Jd,Je,Jl,Jm,Jn,Jo,Jp,Jq,Jr,Js,Jt,Ju,Jv,Jw,Jx,Jy,Jz,J0,J1,J2,J3,J4,J5,J6,J7,J8,J9,Xa,Xb,Xc,Xd,Xe,Xf,Xg,Xh,Xi,Xj,Xk,Xl,Xm,Xn,Xo,Xp,Xq,Xs,Xt,Xu,Xv,Xw,Xx,Xy,Xz,X0,X1,X2,X3,X4,X5,X6,X7,X8,X9,Wa,Wb,Wc,Wd,We,Wf,Wg,Wh,Wi,Wj,Wl,Wm,Wn,Wo,Wp,Wq,Wr,Ws,Wt,Wu,Wv,Ww,Wx,Wy,Wz,W0,W1,W2,W3,W4,W5,W6,W7,W8,W9,Ya,Yb,Yc,Yd,Ye,Yf,Yg,Yh,Yi,Yj,Yk,Yl,Ym,Yn,Yo,Yp,Yq,Yr,Ys,Yt,Yu,Yv,Yw,Yx,Yy,Yz,Y0,Y1,Y2,Y3,Y4,Y5,Y6,Y7,Y8,Y9,Va,Vb,Vc,Vd,Ve,Vf,Vg,Vh,Vi,Vj,Vk,Vl,Vm,Vn,Vo,Vp,Vq,Vr,Vs,Vt,Vu,Vv,Vw,Vx,Vy,Vz,V0,V1,V3,V4,V5,V6,V7,V8,V9,Ua,Ub,Uc,Ud,Ue,Uf,Ul,Um,Un,Uo,Uq,Ur,Us,Ut,Uu,Uv,Uw,Ux,Uy,Uz,U0,U1,U3,U4,U5,U6,U7,U8,U9,Ka,Kb,Kc,Kd,Ke,Kf,Kg,Kh,Ki,Kj,Kk,Kl,Km,Kn,Ko,Kq,Kr,Ks,Kt,Ga,G5,K8,M0,Kz])))
end Go.Am.Hit
set_option linter.unusedSimpArgs false
set_option linter.unusedVariables false
set_option maxHeartbeats 4000000
namespace Go.Am.Hit
open Go.Proofs
open Enc (enc dec)
theorem least_least {l : List (Sl Int)} (hl : Ab (unS l)) : Hc (Hc l) = Hc l := by
  refine unS_inj (up_ext (Dl _) (Dl l) fun T => ?_)
  rw [Nq]
  exact ⟨fun h => h.1, fun h => ⟨h, fun X hX hlt hs => (Nq.1 h).2 X (Nq.1 hX).1 hlt hs⟩⟩
theorem sort_sort (l : List (Sl Int)) : slS (srt (unS (slS (srt (unS l))))) = slS (srt (unS l)) := by
  rw [unS_slS, srt_is (O5 (unS l)) fun z => Iff.rfl]
theorem least_srt_len (l : List (Sl Int)) : (Hc l).length ≤ (slS (srt (unS l))).length := keep_len _ _
def con_HitLeast : Con := L3 (fun (l : Sl (Sl Int)) (s : Sl Int) => Rw l.l ∧ Lo s.l.length) (fun _ _ => true)
noncomputable def Lt : Ctx := ⟨tab, lkC [(10, K1), (11, K3), (15, K7), (20, Gk), (14, Ge), (19, K0), (17, Gd), (21, He), (16, K6)], 60, lkB [], [], false⟩
theorem Hl : Lt.τ = tab := rfl
theorem Hn : Lt.Γ = lkC [(10, K1), (11, K3), (15, K7), (20, Gk), (14, Ge), (19, K0), (17, Gd), (21, He), (16, K6)] := rfl
theorem Hm : Lt.dp = 60 := rfl
theorem Ho : Lt.Δ = lkB [] := rfl
theorem Hk : Lt.cuts = [] := rfl
theorem Hj : Lt.wr = false := rfl
set_option maxRecDepth 100000 in
theorem good_HitLeast : Me Try.prog (6, con_HitLeast) := by
  refine ⟨Gj Try.func6 (by kernel_rfl) rfl, ?_⟩
  have K : Hq Try.prog Lt := Gq H8 G4 (by
    intro p hp
    simp only [List.mem_cons, List.not_mem_nil, or_false] at hp
    rcases hp with rfl | rfl | rfl | rfl | rfl | rfl | rfl | rfl | rfl
    · exact C4
    · exact C3
    · exact Ry
    · exact F3
    · exact Dv
    · exact Fm
    · exact good_Less16
    · exact good_SortH'
    · exact E8) (by simp)
  obtain ⟨c, hc⟩ : ∃ c, Try.f6.body = some c := ⟨_, rfl⟩
  refine Gu K Try.func6 hc [.tmp 4] rfl 156 rfl (fun cvs hpre => ?_)
  change con_HitLeast.pre cvs at hpre
  unfold con_HitLeast at hpre
  obtain ⟨⟨l⟩, ⟨s⟩, rfl, hl, hs⟩ := Hx hpre
  simp only at hl hs
  clear hpre
  obtain ⟨hl1, hl2⟩ := id hl
  cases hf : fewB l 20 with
  | false =>
    simp only [Try.f6, Option.some.injEq] at hc
    subst hc
    refine Hy 9 (of_decide_eq_true (by kernel_rfl)) ?_
    (sym =>
     simp [hf,Hl,Hn,Hm,Ho,Hk,Hj,K1.eq_def,con_HitLeast.eq_def,K6.eq_def,Gk.eq_def,Gd.eq_def,K0.eq_def,Ge.eq_def,K7.eq_def,He.eq_def,K3.eq_def,Za,Zb,Zc,Zd,Ze,Zf,Zg,Zh,Zi,Zj,Zk,Zl,Zm,Zn,Zo,Zp,Zq,Zr,Zs,Zt,Zv,Zx,Zy,Z2,Z6,Z7,Z8,Z9,Qa,Qb,Qc,Qd,Qe,Qg,Qi,Qj,Qk,Ql,Qm,Qn,Qo,Qp,Qv,Qw,Qy,Qz,Q0,Q1,Q2,Q3,Q8,Ja,Jb,Jc,Jd,Je,Jl,Jm,Jn,Jo,Jp,Jq,Jr,Js,Jt,Ju,Jv,Jw,Jx,Jy,Jz,J0,J1,J2,J3,J4,J5,J6,J7,J8,Xb,Xc,Xd,Xe,Xf,Xg,Xh,Xi,Xj,Xk,Xl,Xm,Xn,Xo,Xp,Xq,Xs,Xt,Xu,Xv,Xw,Xx,Xy,Xz,X0,X1,X2,X3,X4,X5,X6,X7,X8,X9,Wa,Wb,Wc,Wd,We,Wf,Wg,Wh,Wi,Wj,Wl,Wm,Wn,Wo,Wp,Wq,Wr,Ws,Wt,Wu,Wv,Ww,Wx,Wy,Wz,W0,W1,W2,W3,W4,W5,W6,W7,W8,W9,Ya,Yb,Yc,Yd,Ye,Yf,Yg,Yh,Yi,Yj,Yk,Yl,Ym,Yn,Yo,Yp,Yq,Yr,Ys,Yt,Yu,Yv,Yw,Yx,Yy,Yz,Y0,Y1,Y2,Y3,Y4,Y5,Y6,Y7,Y8,Y9,Va,Vb,Vc,Vd,Ve,Vf,Vg,Vh,Vi,Vj,Vk,Vl,Vm,Vn,Vo,Vp,Vq,Vr,Vs,Vt,Vu,Vv,Vw,Vx,Vy,Vz,V0,V1,V3,V4,V5,V6,V7,V8,V9,Ua,Ub,Uc,Ud,Ue,Uf,Ul,Um,Uq,Ur,Us,Ut,Uu,Uv,Uw,Ux,Uy,Uz,U0,U1,U3,U4,U5,U6,U7,U8,U9,Ka,Kb,Kc,Kd,Ke,Kf,Kg,Kh,Ki,Kj,Kk,Kl,Km,Kn,Ko,Kq,Kr,Ks,Kt,Ga,G5,K8,Kz]
     tactic =>
      try simp only [K2] at *
      try simp only [nc2] at *
      try simp (maxSteps := 4000000) only [hf,Gg]
      repeat' (first | with_reducible assumption | with_reducible refine And.intro ?_ ?_ | intro _ | omega | (rw [Ku]; omega))
      all_goals first
        | assumption
        | omega
        | rfl
        | (with_reducible refine K9 ?_; kernel_rfl)
        | skip)
  | true =>
    rcases S5 20 (s.length : Int) with ⟨hs8, hsb⟩ | ⟨hs8, hsb⟩
    · skip
      simp only [Try.f6, Option.some.injEq] at hc
      subst hc
      refine Hy 9 (of_decide_eq_true (by kernel_rfl)) ?_
      (sym =>
       simp [hf,hsb,Hl,Hn,Hm,Ho,Hk,Hj,K1.eq_def,con_HitLeast.eq_def,K6.eq_def,Gk.eq_def,Gd.eq_def,K0.eq_def,Ge.eq_def,K7.eq_def,He.eq_def,K3.eq_def,Za,Zb,Zc,Zd,Ze,Zf,Zg,Zh,Zi,Zj,Zk,Zl,Zm,Zn,Zo,Zp,Zq,Zr,Zs,Zt,Zv,Zx,Zy,Z2,Z6,Z7,Z8,Z9,Qa,Qb,Qc,Qd,Qe,Qg,Qi,Qj,Qk,Ql,Qm,Qn,Qo,Qp,Qv,Qw,Qy,Qz,Q0,Q1,Q2,Q3,Q8,Ja,Jb,Jc,Jd,Je,Jl,Jm,Jn,Jo,Jp,Jq,Jr,Js,Jt,Ju,Jv,Jw,Jx,Jy,Jz,J0,J1,J2,J3,J4,J5,J6,J7,J8,Xb,Xc,Xd,Xe,Xf,Xg,Xh,Xi,Xj,Xk,Xl,Xm,Xn,Xo,Xp,Xq,Xs,Xt,Xu,Xv,Xw,Xx,Xy,Xz,X0,X1,X2,X3,X4,X5,X6,X7,X8,X9,Wa,Wb,Wc,Wd,We,Wf,Wg,Wh,Wi,Wj,Wl,Wm,Wn,Wo,Wp,Wq,Wr,Ws,Wt,Wu,Wv,Ww,Wx,Wy,Wz,W0,W1,W2,W3,W4,W5,W6,W7,W8,W9,Ya,Yb,Yc,Yd,Ye,Yf,Yg,Yh,Yi,Yj,Yk,Yl,Ym,Yn,Yo,Yp,Yq,Yr,Ys,Yt,Yu,Yv,Yw,Yx,Yy,Yz,Y0,Y1,Y2,Y3,Y4,Y5,Y6,Y7,Y8,Y9,Va,Vb,Vc,Vd,Ve,Vf,Vg,Vh,Vi,Vj,Vk,Vl,Vm,Vn,Vo,Vp,Vq,Vr,Vs,Vt,Vu,Vv,Vw,Vx,Vy,Vz,V0,V1,V3,V4,V5,V6,V7,V8,V9,Ua,Ub,Uc,Ud,Ue,Uf,Ul,Um,Uq,Ur,Us,Ut,Uu,Uv,Uw,Ux,Uy,Uz,U0,U1,U3,U4,U5,U6,U7,U8,U9,Ka,Kb,Kc,Kd,Ke,Kf,Kg,Kh,Ki,Kj,Kk,Kl,Km,Kn,Ko,Kq,Kr,Ks,Kt,Ga,G5,K8,Kz]
       tactic =>
        try simp only [K2] at *
        try simp only [nc2] at *
        try simp (maxSteps := 4000000) only [hf,hsb,Gg]
        repeat' (first | with_reducible assumption | with_reducible refine And.intro ?_ ?_ | intro _ | omega | (rw [Ku]; omega))
        all_goals first
          | assumption
          | omega
          | rfl
          | (with_reducible refine K9 ?_; kernel_rfl)
          | skip)
    cases hset : Ox s with
    | false =>
      simp only [Try.f6, Option.some.injEq] at hc
      subst hc
      refine Hy 9 (of_decide_eq_true (by kernel_rfl)) ?_
      (sym =>
       simp [hf,hsb,hset,Hl,Hn,Hm,Ho,Hk,Hj,K1.eq_def,con_HitLeast.eq_def,K6.eq_def,Gk.eq_def,Gd.eq_def,K0.eq_def,Ge.eq_def,K7.eq_def,He.eq_def,K3.eq_def,Za,Zb,Zc,Zd,Ze,Zf,Zg,Zh,Zi,Zj,Zk,Zl,Zm,Zn,Zo,Zp,Zq,Zr,Zs,Zt,Zv,Zx,Zy,Z2,Z6,Z7,Z8,Z9,Qa,Qb,Qc,Qd,Qe,Qg,Qi,Qj,Qk,Ql,Qm,Qn,Qo,Qp,Qv,Qw,Qy,Qz,Q0,Q1,Q2,Q3,Q8,Ja,Jb,Jc,Jd,Je,Jl,Jm,Jn,Jo,Jp,Jq,Jr,Js,Jt,Ju,Jv,Jw,Jx,Jy,Jz,J0,J1,J2,J3,J4,J5,J6,J7,J8,Xb,Xc,Xd,Xe,Xf,Xg,Xh,Xi,Xj,Xk,Xl,Xm,Xn,Xo,Xp,Xq,Xs,Xt,Xu,Xv,Xw,Xx,Xy,Xz,X0,X1,X2,X3,X4,X5,X6,X7,X8,X9,Wa,Wb,Wc,Wd,We,Wf,Wg,Wh,Wi,Wj,Wl,Wm,Wn,Wo,Wp,Wq,Wr,Ws,Wt,Wu,Wv,Ww,Wx,Wy,Wz,W0,W1,W2,W3,W4,W5,W6,W7,W8,W9,Ya,Yb,Yc,Yd,Ye,Yf,Yg,Yh,Yi,Yj,Yk,Yl,Ym,Yn,Yo,Yp,Yq,Yr,Ys,Yt,Yu,Yv,Yw,Yx,Yy,Yz,Y0,Y1,Y2,Y3,Y4,Y5,Y6,Y7,Y8,Y9,Va,Vb,Vc,Vd,Ve,Vf,Vg,Vh,Vi,Vj,Vk,Vl,Vm,Vn,Vo,Vp,Vq,Vr,Vs,Vt,Vu,Vv,Vw,Vx,Vy,Vz,V0,V1,V3,V4,V5,V6,V7,V8,V9,Ua,Ub,Uc,Ud,Ue,Uf,Ul,Um,Uq,Ur,Us,Ut,Uu,Uv,Uw,Ux,Uy,Uz,U0,U1,U3,U4,U5,U6,U7,U8,U9,Ka,Kb,Kc,Kd,Ke,Kf,Kg,Kh,Ki,Kj,Kk,Kl,Km,Kn,Ko,Kq,Kr,Ks,Kt,Ga,G5,K8,Kz]
       tactic =>
        try simp only [K2] at *
        try simp only [nc2] at *
        try simp (maxSteps := 4000000) only [hf,hsb,hset,Gg]
        repeat' (first | with_reducible assumption | with_reducible refine And.intro ?_ ?_ | intro _ | omega | (rw [Ku]; omega))
        all_goals first
          | assumption
          | omega
          | rfl
          | (with_reducible refine K9 ?_; kernel_rfl)
          | skip)
    | true =>
      obtain ⟨h6, hlen, hsets⟩ := few_rs6 (by omega) hf
      have hst := Rq.1 hset
      have hup := Dl l
      have hm6 := least_rs6 h6
      have hll := least_least hsets
      have hmem : ∀ i, i < (Hc l).length → ((Hc l).getD i ⟨[]⟩).l ∈ unS (Hc l) := fun i hi => at_mem hi
      have hin : ∀ i, i < (Hc l).length → anyQ l ((Hc l).getD i ⟨[]⟩).l l.length = true := fun i hi => anyQ_iff.2 (Nq.1 (hmem i hi)).1
      have hpart : ∀ i k, i < (Hc l).length → k < (Hc l).length → k ≠ i → Sq ((Hc l).getD k ⟨[]⟩).l ((Hc l).getD i ⟨[]⟩).l = false := by
        intro i k hi hk hne
        rw [← Bool.not_eq_true, Sk]
        intro hc
        exact hne (up_ne hup hk hi (least_min hsets (hmem i hi) (Nq.1 (hmem k hk)).1 hc))
      have hany : ∀ i, i < l.length → O4 (Hc l) (l.getD i ⟨[]⟩).l (Hc l).length = true := by
        intro i hi
        obtain ⟨X, h1, h2⟩ := least_ex _ (Nat.le_refl _) (at_mem hi)
        exact anyP_iff.2 ⟨X, h1, h2⟩
      have hhe : Du s (Hc l) = Du s l := by rw [Bool.eq_iff_iff, Dt hst hsets, Dt hst (Iv hsets), hits_least]
      have hsl := least_srt_len l
      have hss := sort_sort l
      have hs6 := srt_rs6 h6
      obtain ⟨M, hM⟩ : ∃ M, Hc l = M := ⟨_, rfl⟩
      rw [hM] at hup hm6 hll hmem hin hpart hany hhe hsl
      obtain ⟨S, hS⟩ : ∃ M, slS (srt (unS l)) = M := ⟨_, rfl⟩
      rw [hS] at hss hsl hs6
      obtain ⟨H, hH⟩ : ∃ H, Du s l = H := ⟨_, rfl⟩
      rw [hH] at hhe
      have hHH := beqB_self H
      have hMM := B6 M
      have hSS := B6 S
      have hge : leB (M.length : Int) (S.length : Int) = true := by rw [D5]; omega
      have hMr := rs6_rw hm6
      have hSr := rs6_rw hs6
      obtain ⟨hm1, hm2⟩ := id hm6
      obtain ⟨hs1, hs2⟩ := id hs6
      have hl12 := h6.2
      simp only [Try.f6, Option.some.injEq] at hc
      subst hc
      refine Hy 9 (of_decide_eq_true (by kernel_rfl)) ?_
      (sym =>
       simp [hf,hsb,hset,hM,Hl,Hn,Hm,Ho,Hk,Hj,K1.eq_def,con_HitLeast.eq_def,K6.eq_def,Gk.eq_def,Gd.eq_def,K0.eq_def,Ge.eq_def,K7.eq_def,He.eq_def,K3.eq_def,Za,Zb,Zc,Zd,Ze,Zf,Zg,Zh,Zi,Zj,Zk,Zl,Zm,Zn,Zo,Zp,Zq,Zr,Zs,Zt,Zv,Zx,Zy,Z2,Z6,Z7,Z8,Z9,Qa,Qb,Qc,Qd,Qe,Qg,Qi,Qj,Qk,Ql,Qm,Qn,Qo,Qp,Qv,Qw,Qy,Qz,Q0,Q1,Q2,Q3,Q8,Ja,Jb,Jc,Jd,Je,Jl,Jm,Jn,Jo,Jp,Jq,Jr,Js,Jt,Ju,Jv,Jw,Jx,Jy,Jz,J0,J1,J2,J3,J4,J5,J6,J7,J8,Xb,Xc,Xd,Xe,Xf,Xg,Xh,Xi,Xj,Xk,Xl,Xm,Xn,Xo,Xp,Xq,Xs,Xt,Xu,Xv,Xw,Xx,Xy,Xz,X0,X1,X2,X3,X4,X5,X6,X7,X8,X9,Wa,Wb,Wc,Wd,We,Wf,Wg,Wh,Wi,Wj,Wl,Wm,Wn,Wo,Wp,Wq,Wr,Ws,Wt,Wu,Wv,Ww,Wx,Wy,Wz,W0,W1,W2,W3,W4,W5,W6,W7,W8,W9,Ya,Yb,Yc,Yd,Ye,Yf,Yg,Yh,Yi,Yj,Yk,Yl,Ym,Yn,Yo,Yp,Yq,Yr,Ys,Yt,Yu,Yv,Yw,Yx,Yy,Yz,Y0,Y1,Y2,Y3,Y4,Y5,Y6,Y7,Y8,Y9,Va,Vb,Vc,Vd,Ve,Vf,Vg,Vh,Vi,Vj,Vk,Vl,Vm,Vn,Vo,Vp,Vq,Vr,Vs,Vt,Vu,Vv,Vw,Vx,Vy,Vz,V0,V1,V3,V4,V5,V6,V7,V8,V9,Ua,Ub,Uc,Ud,Ue,Uf,Ul,Um,Uq,Ur,Us,Ut,Uu,Uv,Uw,Ux,Uy,Uz,U0,U1,U3,U4,U5,U6,U7,U8,U9,Ka,Kb,Kc,Kd,Ke,Kf,Kg,Kh,Ki,Kj,Kk,Kl,Km,Kn,Ko,Kq,Kr,Ks,Kt,Ga,G5,K8,Kz]
       tactic =>
        try simp only [K2] at *
        try simp only [nc2] at *
        try simp (maxSteps := 4000000) only [hf,hsb,hset,hM,Gg]
        repeat' (first | with_reducible assumption | with_reducible refine And.intro ?_ ?_ | intro _ | omega | (rw [Ku]; omega))
        all_goals first
          | (with_reducible refine K9 ?_; kernel_rfl)
          | assumption
          | omega
          | skip
        refine Gi [4, 7, 8, 9, 30, 31, 32, 33, 34, 35, 36, 37, 38, 39, 40, 41, 42, 43, 44, 45, 46, 47, 48, 49, 50, 51, 52, 53, 54, 55, 56, 57, 58, 59, 60, 61, 62, 63, 64, 65, 66, 67, 68, 69, 70, 71, 72, 73, 74, 75, 76, 77, 78, 79, 80, 81, 82, 83, 84, 85, 86, 87, 88, 89, 90, 91, 92, 93, 94, 95, 96, 97, 98] (fun i : Nat => [(6, .d (.int .i64 i))]) (fun i : Nat => []) (fun i : Nat => i ≤ M.length) (fun i : Nat => M.length - i) 0 ?_ ?_ ?_
        · exact Nat.zero_le _
        · ((try simp only [Kv, Ky, Kx, K4, upd, K5, Gb, Gs, Nat.reduceDiv, Nat.reduceMod, Nat.reduceMul, Nat.reduceAdd, Nat.reduceEqDiff, List.set_cons_zero, List.set_cons_succ, if_true, if_false, reduceIte]); (first | refine Wk.of_fl ?_ | skip); simp only [Wk, wkK, Gy, wkT, wk1, AV.kept, keptAll, wkO, lk, Kw, and_true, true_and, and_self, Nat.reduceEqDiff, Nat.reduceLeDiff, if_true, if_false, reduceIte, reduceCtorEq, Option.isSome, false_implies]; try simp [Wk, wkK, wkT, wk1, AV.kept, keptAll, wkO, lk, Kw])
        rintro i hi
        rcases Gl i M.length with ⟨hil, hib⟩ | ⟨hil, hib⟩
        · have q1 := Hd (⟨[]⟩ : Sl Int) hil
          have d1 := drop_one hil
          have c1 := hin i hil
          have c2 := fun k => hpart i k hil
          have c3 : ∀ j, j < i → Nb (M.getD j ⟨[]⟩).l (M.getD i ⟨[]⟩).l = true := fun j hj => up_at hup hj hil
          have hml := hm2 i
          obtain ⟨⟨m⟩, hm⟩ : ∃ x, M.getD i ⟨[]⟩ = x := ⟨_, rfl⟩
          rw [hm] at q1 d1 c1 c2 c3 hml
          simp only at c1 c2 c3 hml
          obtain ⟨I, hI⟩ : ∃ I, i + 1 = I := ⟨_, rfl⟩
          have eI : (i : Int) + 1 = (I : Int) := by omega
          rw [hI] at d1
          have rm := rw_one (x := m) (by omega)
          (sym =>
           simp [hib,q1,Hl,Hn,Hm,Ho,Hk,Hj,K1.eq_def,con_HitLeast.eq_def,K6.eq_def,Gk.eq_def,Gd.eq_def,K0.eq_def,Ge.eq_def,K7.eq_def,He.eq_def,K3.eq_def,Za,Zb,Zc,Zd,Ze,Zf,Zg,Zh,Zi,Zj,Zk,Zl,Zm,Zn,Zo,Zp,Zq,Zr,Zs,Zt,Zv,Zx,Zy,Z2,Z6,Z7,Z8,Z9,Qa,Qb,Qc,Qd,Qe,Qg,Qi,Qj,Qk,Ql,Qm,Qn,Qo,Qp,Qv,Qw,Qy,Qz,Q0,Q1,Q2,Q3,Q8,Ja,Jb,Jc,Jd,Je,Jl,Jm,Jn,Jo,Jp,Jq,Jr,Js,Jt,Ju,Jv,Jw,Jx,Jy,Jz,J0,J1,J2,J3,J4,J5,J6,J7,J8,Xb,Xc,Xd,Xe,Xf,Xg,Xh,Xi,Xj,Xk,Xl,Xm,Xn,Xo,Xp,Xq,Xs,Xt,Xu,Xv,Xw,Xx,Xy,Xz,X0,X1,X2,X3,X4,X5,X6,X7,X8,X9,Wa,Wb,Wc,Wd,We,Wf,Wg,Wh,Wi,Wj,Wl,Wm,Wn,Wo,Wp,Wq,Wr,Ws,Wt,Wu,Wv,Ww,Wx,Wy,Wz,W0,W1,W2,W3,W4,W5,W6,W7,W8,W9,Ya,Yb,Yc,Yd,Ye,Yf,Yg,Yh,Yi,Yj,Yk,Yl,Ym,Yn,Yo,Yp,Yq,Yr,Ys,Yt,Yu,Yv,Yw,Yx,Yy,Yz,Y0,Y1,Y2,Y3,Y4,Y5,Y6,Y7,Y8,Y9,Va,Vb,Vc,Vd,Ve,Vf,Vg,Vh,Vi,Vj,Vk,Vl,Vm,Vn,Vo,Vp,Vq,Vr,Vs,Vt,Vu,Vv,Vw,Vx,Vy,Vz,V0,V1,V3,V4,V5,V6,V7,V8,V9,Ua,Ub,Uc,Ud,Ue,Uf,Ul,Um,Uq,Ur,Us,Ut,Uu,Uv,Uw,Ux,Uy,Uz,U0,U1,U3,U4,U5,U6,U7,U8,U9,Ka,Kb,Kc,Kd,Ke,Kf,Kg,Kh,Ki,Kj,Kk,Kl,Km,Kn,Ko,Kq,Kr,Ks,Kt,Ga,G5,K8,Kz]
           tactic =>
            try simp only [K2] at *
            try simp only [nc2] at *
            try simp (maxSteps := 4000000) only [hib,q1,Gg]
            repeat' (first | with_reducible assumption | with_reducible refine And.intro ?_ ?_ | intro _ | omega | (rw [Ku]; omega))
            all_goals first
              | (with_reducible refine K9 ?_; kernel_rfl)
              | assumption
              | omega
              | skip
            refine Gi [36, 37, 38, 39, 40, 41, 42, 43, 44, 45, 46, 47, 48, 49, 50, 51, 52, 53, 54, 55] (fun k : Nat => [(8, .d (.int .i64 k)), (7, .d (.bool (anyQ l m k)))]) (fun k : Nat => []) (fun k : Nat => k ≤ l.length) (fun k : Nat => l.length - k) 0 ?_ ?_ ?_
            · exact Nat.zero_le _
            · ((try simp only [Kv, Ky, Kx, K4, upd, K5, Gb, Gs, Nat.reduceDiv, Nat.reduceMod, Nat.reduceMul, Nat.reduceAdd, Nat.reduceEqDiff, List.set_cons_zero, List.set_cons_succ, if_true, if_false, reduceIte]); (first | refine Wk.of_fl ?_ | skip); simp only [Wk, wkK, Gy, wkT, wk1, AV.kept, keptAll, wkO, lk, Kw, and_true, true_and, and_self, Nat.reduceEqDiff, Nat.reduceLeDiff, if_true, if_false, reduceIte, reduceCtorEq, Option.isSome, false_implies]; try simp [Wk, wkK, wkT, wk1, AV.kept, keptAll, wkO, lk, Kw, anyQ])
            rintro k hk
            rcases Gl k l.length with ⟨hkl, hkb⟩ | ⟨hkl, hkb⟩
            · have f1 := drop_one hkl
              have hsucc := anyQ_succ (a := m) hkl
              have hbl := hl12 k
              obtain ⟨⟨b⟩, hb⟩ : ∃ x, l.getD k ⟨[]⟩ = x := ⟨_, rfl⟩
              rw [hb] at f1 hsucc hbl
              simp only at hbl
              obtain ⟨J, hJ⟩ : ∃ I, k + 1 = I := ⟨_, rfl⟩
              have eJ : (k : Int) + 1 = (J : Int) := by omega
              rw [hJ] at f1 hsucc
              have rb := rw_one (x := b) (by omega)
              obtain ⟨v, hv⟩ : ∃ v, anyQ l m k = v := ⟨_, rfl⟩
              rw [hv] at hsucc ⊢
              cases v with
              | true =>
                rw [Bool.true_or] at hsucc
                (sym =>
                 simp [hib,q1,hkb,eI,eJ,Hl,Hn,Hm,Ho,Hk,Hj,K1.eq_def,con_HitLeast.eq_def,K6.eq_def,Gk.eq_def,Gd.eq_def,K0.eq_def,Ge.eq_def,K7.eq_def,He.eq_def,K3.eq_def,Za,Zb,Zc,Zd,Ze,Zf,Zg,Zh,Zi,Zj,Zk,Zl,Zm,Zn,Zo,Zp,Zq,Zr,Zs,Zt,Zv,Zx,Zy,Z2,Z6,Z7,Z8,Z9,Qa,Qb,Qc,Qd,Qe,Qg,Qi,Qj,Qk,Ql,Qm,Qn,Qo,Qp,Qv,Qw,Qy,Qz,Q0,Q1,Q2,Q3,Q8,Ja,Jb,Jc,Jd,Je,Jl,Jm,Jn,Jo,Jp,Jq,Jr,Js,Jt,Ju,Jv,Jw,Jx,Jy,Jz,J0,J1,J2,J3,J4,J5,J6,J7,J8,Xb,Xc,Xd,Xe,Xf,Xg,Xh,Xi,Xj,Xk,Xl,Xm,Xn,Xo,Xp,Xq,Xs,Xt,Xu,Xv,Xw,Xx,Xy,Xz,X0,X1,X2,X3,X4,X5,X6,X7,X8,X9,Wa,Wb,Wc,Wd,We,Wf,Wg,Wh,Wi,Wj,Wl,Wm,Wn,Wo,Wp,Wq,Wr,Ws,Wt,Wu,Wv,Ww,Wx,Wy,Wz,W0,W1,W2,W3,W4,W5,W6,W7,W8,W9,Ya,Yb,Yc,Yd,Ye,Yf,Yg,Yh,Yi,Yj,Yk,Yl,Ym,Yn,Yo,Yp,Yq,Yr,Ys,Yt,Yu,Yv,Yw,Yx,Yy,Yz,Y0,Y1,Y2,Y3,Y4,Y5,Y6,Y7,Y8,Y9,Va,Vb,Vc,Vd,Ve,Vf,Vg,Vh,Vi,Vj,Vk,Vl,Vm,Vn,Vo,Vp,Vq,Vr,Vs,Vt,Vu,Vv,Vw,Vx,Vy,Vz,V0,V1,V3,V4,V5,V6,V7,V8,V9,Ua,Ub,Uc,Ud,Ue,Uf,Ul,Um,Uq,Ur,Us,Ut,Uu,Uv,Uw,Ux,Uy,Uz,U0,U1,U3,U4,U5,U6,U7,U8,U9,Ka,Kb,Kc,Kd,Ke,Kf,Kg,Kh,Ki,Kj,Kk,Kl,Km,Kn,Ko,Kq,Kr,Ks,Kt,Ga,G5,K8,Kz]
                 tactic =>
                  try simp only [K2] at *
                  try simp only [nc2] at *
                  try simp (maxSteps := 4000000) only [hib,q1,hkb,eI,eJ,Gg]
                  repeat' (first | with_reducible assumption | with_reducible refine And.intro ?_ ?_ | intro _ | omega | (rw [Ku]; omega))
                  all_goals first
                    | (with_reducible refine K9 ?_; kernel_rfl)
                    | assumption
                    | omega
                    | exact ⟨J, by rw [hsucc]; ((try simp only [Kv, Ky, Kx, K4, upd, K5, Gb, Gs, Nat.reduceDiv, Nat.reduceMod, Nat.reduceMul, Nat.reduceAdd, Nat.reduceEqDiff, List.set_cons_zero, List.set_cons_succ, if_true, if_false, reduceIte]); (first | refine Wk.of_fl ?_ | skip); simp only [Wk, wkK, Gy, wkT, wk1, AV.kept, keptAll, wkO, lk, Kw, and_true, true_and, and_self, Nat.reduceEqDiff, Nat.reduceLeDiff, if_true, if_false, reduceIte, reduceCtorEq, Option.isSome, false_implies]; try simp [Wk, wkK, wkT, wk1, AV.kept, keptAll, wkO, lk, Kw]), by omega, by omega⟩
                    | skip)
              | false =>
                rw [Bool.false_or] at hsucc
                obtain ⟨v2, hv2⟩ : ∃ v, sameB [⟨b⟩] [⟨m⟩] = v := ⟨_, rfl⟩
                rw [hv2] at hsucc
                (sym =>
                 simp [hib,q1,hkb,eI,eJ,f1,d1,An,hv2,Int.toNat_natCast,Hl,Hn,Hm,Ho,Hk,Hj,K1.eq_def,con_HitLeast.eq_def,K6.eq_def,Gk.eq_def,Gd.eq_def,K0.eq_def,Ge.eq_def,K7.eq_def,He.eq_def,K3.eq_def,Za,Zb,Zc,Zd,Ze,Zf,Zg,Zh,Zi,Zj,Zk,Zl,Zm,Zn,Zo,Zp,Zq,Zr,Zs,Zt,Zv,Zx,Zy,Z2,Z6,Z7,Z8,Z9,Qa,Qb,Qc,Qd,Qe,Qg,Qi,Qj,Qk,Ql,Qm,Qn,Qo,Qp,Qv,Qw,Qy,Qz,Q0,Q1,Q2,Q3,Q8,Ja,Jb,Jc,Jd,Je,Jl,Jm,Jn,Jo,Jp,Jq,Jr,Js,Jt,Ju,Jv,Jw,Jx,Jy,Jz,J0,J1,J2,J3,J4,J5,J6,J7,J8,Xb,Xc,Xd,Xe,Xf,Xg,Xh,Xi,Xj,Xk,Xl,Xm,Xn,Xo,Xp,Xq,Xs,Xt,Xu,Xv,Xw,Xx,Xy,Xz,X0,X1,X2,X3,X4,X5,X6,X7,X8,X9,Wa,Wb,Wc,Wd,We,Wf,Wg,Wh,Wi,Wj,Wl,Wm,Wn,Wo,Wp,Wq,Wr,Ws,Wt,Wu,Wv,Ww,Wx,Wy,Wz,W0,W1,W2,W3,W4,W5,W6,W7,W8,W9,Ya,Yb,Yc,Yd,Ye,Yf,Yg,Yh,Yi,Yj,Yk,Yl,Ym,Yn,Yo,Yp,Yq,Yr,Ys,Yt,Yu,Yv,Yw,Yx,Yy,Yz,Y0,Y1,Y2,Y3,Y4,Y5,Y6,Y7,Y8,Y9,Va,Vb,Vc,Vd,Ve,Vf,Vg,Vh,Vi,Vj,Vk,Vl,Vm,Vn,Vo,Vp,Vq,Vr,Vs,Vt,Vu,Vv,Vw,Vx,Vy,Vz,V0,V1,V3,V4,V5,V6,V7,V8,V9,Ua,Ub,Uc,Ud,Ue,Uf,Ul,Um,Uq,Ur,Us,Ut,Uu,Uv,Uw,Ux,Uy,Uz,U0,U1,U3,U4,U5,U6,U7,U8,U9,Ka,Kb,Kc,Kd,Ke,Kf,Kg,Kh,Ki,Kj,Kk,Kl,Km,Kn,Ko,Kq,Kr,Ks,Kt,Ga,G5,K8,Kz]
                 tactic =>
                  try simp only [K2] at *
                  try simp only [nc2] at *
                  try simp (maxSteps := 4000000) only [hib,q1,hkb,eI,eJ,f1,d1,An,hv2,Int.toNat_natCast,Gg]
                  repeat' (first | with_reducible assumption | with_reducible refine And.intro ?_ ?_ | intro _ | omega | (rw [Ku]; omega))
                  all_goals first
                    | (with_reducible refine K9 ?_; kernel_rfl)
                    | assumption
                    | omega
                    | exact ⟨J, by rw [hsucc]; ((try simp only [Kv, Ky, Kx, K4, upd, K5, Gb, Gs, Nat.reduceDiv, Nat.reduceMod, Nat.reduceMul, Nat.reduceAdd, Nat.reduceEqDiff, List.set_cons_zero, List.set_cons_succ, if_true, if_false, reduceIte]); (first | refine Wk.of_fl ?_ | skip); simp only [Wk, wkK, Gy, wkT, wk1, AV.kept, keptAll, wkO, lk, Kw, and_true, true_and, and_self, Nat.reduceEqDiff, Nat.reduceLeDiff, if_true, if_false, reduceIte, reduceCtorEq, Option.isSome, false_implies]; try simp [Wk, wkK, wkT, wk1, AV.kept, keptAll, wkO, lk, Kw]), by omega, by omega⟩
                    | skip)
            · have hke : k = l.length := by omega
              rw [hke, c1]
              have hkb' : ltB (l.length : Int) (l.length : Int) = false := by rw [Hg]; omega
              (sym =>
               simp [hib,q1,hkb',Hl,Hn,Hm,Ho,Hk,Hj,K1.eq_def,con_HitLeast.eq_def,K6.eq_def,Gk.eq_def,Gd.eq_def,K0.eq_def,Ge.eq_def,K7.eq_def,He.eq_def,K3.eq_def,Za,Zb,Zc,Zd,Ze,Zf,Zg,Zh,Zi,Zj,Zk,Zl,Zm,Zn,Zo,Zp,Zq,Zr,Zs,Zt,Zv,Zx,Zy,Z2,Z6,Z7,Z8,Z9,Qa,Qb,Qc,Qd,Qe,Qg,Qi,Qj,Qk,Ql,Qm,Qn,Qo,Qp,Qv,Qw,Qy,Qz,Q0,Q1,Q2,Q3,Q8,Ja,Jb,Jc,Jd,Je,Jl,Jm,Jn,Jo,Jp,Jq,Jr,Js,Jt,Ju,Jv,Jw,Jx,Jy,Jz,J0,J1,J2,J3,J4,J5,J6,J7,J8,Xb,Xc,Xd,Xe,Xf,Xg,Xh,Xi,Xj,Xk,Xl,Xm,Xn,Xo,Xp,Xq,Xs,Xt,Xu,Xv,Xw,Xx,Xy,Xz,X0,X1,X2,X3,X4,X5,X6,X7,X8,X9,Wa,Wb,Wc,Wd,We,Wf,Wg,Wh,Wi,Wj,Wl,Wm,Wn,Wo,Wp,Wq,Wr,Ws,Wt,Wu,Wv,Ww,Wx,Wy,Wz,W0,W1,W2,W3,W4,W5,W6,W7,W8,W9,Ya,Yb,Yc,Yd,Ye,Yf,Yg,Yh,Yi,Yj,Yk,Yl,Ym,Yn,Yo,Yp,Yq,Yr,Ys,Yt,Yu,Yv,Yw,Yx,Yy,Yz,Y0,Y1,Y2,Y3,Y4,Y5,Y6,Y7,Y8,Y9,Va,Vb,Vc,Vd,Ve,Vf,Vg,Vh,Vi,Vj,Vk,Vl,Vm,Vn,Vo,Vp,Vq,Vr,Vs,Vt,Vu,Vv,Vw,Vx,Vy,Vz,V0,V1,V3,V4,V5,V6,V7,V8,V9,Ua,Ub,Uc,Ud,Ue,Uf,Ul,Um,Uq,Ur,Us,Ut,Uu,Uv,Uw,Ux,Uy,Uz,U0,U1,U3,U4,U5,U6,U7,U8,U9,Ka,Kb,Kc,Kd,Ke,Kf,Kg,Kh,Ki,Kj,Kk,Kl,Km,Kn,Ko,Kq,Kr,Ks,Kt,Ga,G5,K8,Kz]
               tactic =>
                try simp only [K2] at *
                try simp only [nc2] at *
                try simp (maxSteps := 4000000) only [hib,q1,hkb',Gg]
                repeat' (first | with_reducible assumption | with_reducible refine And.intro ?_ ?_ | intro _ | omega | (rw [Ku]; omega))
                all_goals first
                  | (with_reducible refine K9 ?_; kernel_rfl)
                  | assumption
                  | omega
                  | skip
                refine Gi [56, 57, 58, 59, 60, 61, 62, 63, 64, 65, 66, 67, 68, 69, 70, 71, 72, 73, 74, 75, 76, 77, 78, 79] (fun k : Nat => [(9, .d (.int .i64 k)), (7, .d (.bool true))]) (fun k : Nat => []) (fun k : Nat => k ≤ M.length) (fun k : Nat => M.length - k) 0 ?_ ?_ ?_
                · exact Nat.zero_le _
                · ((try simp only [Kv, Ky, Kx, K4, upd, K5, Gb, Gs, Nat.reduceDiv, Nat.reduceMod, Nat.reduceMul, Nat.reduceAdd, Nat.reduceEqDiff, List.set_cons_zero, List.set_cons_succ, if_true, if_false, reduceIte]); (first | refine Wk.of_fl ?_ | skip); simp only [Wk, wkK, Gy, wkT, wk1, AV.kept, keptAll, wkO, lk, Kw, and_true, true_and, and_self, Nat.reduceEqDiff, Nat.reduceLeDiff, if_true, if_false, reduceIte, reduceCtorEq, Option.isSome, false_implies]; try simp [Wk, wkK, wkT, wk1, AV.kept, keptAll, wkO, lk, Kw])
                rintro k hk
                rcases Gl k M.length with ⟨hkl, hkb⟩ | ⟨hkl, hkb⟩
                · have f1 := Hd (⟨[]⟩ : Sl Int) hkl
                  have hnp := c2 k hkl
                  have hbl := hm2 k
                  obtain ⟨⟨b⟩, hb⟩ : ∃ x, M.getD k ⟨[]⟩ = x := ⟨_, rfl⟩
                  rw [hb] at f1 hnp hbl
                  simp only at hnp hbl
                  by_cases hki : k = i
                  · have hne : ((k : Int) == (i : Int)) = true := by rw [hki]; exact beq_self_eq_true _
                    (sym =>
                     simp [hib,q1,hkb,f1,hne,Hl,Hn,Hm,Ho,Hk,Hj,K1.eq_def,con_HitLeast.eq_def,K6.eq_def,Gk.eq_def,Gd.eq_def,K0.eq_def,Ge.eq_def,K7.eq_def,He.eq_def,K3.eq_def,Za,Zb,Zc,Zd,Ze,Zf,Zg,Zh,Zi,Zj,Zk,Zl,Zm,Zn,Zo,Zp,Zq,Zr,Zs,Zt,Zv,Zx,Zy,Z2,Z6,Z7,Z8,Z9,Qa,Qb,Qc,Qd,Qe,Qg,Qi,Qj,Qk,Ql,Qm,Qn,Qo,Qp,Qv,Qw,Qy,Qz,Q0,Q1,Q2,Q3,Q8,Ja,Jb,Jc,Jd,Je,Jl,Jm,Jn,Jo,Jp,Jq,Jr,Js,Jt,Ju,Jv,Jw,Jx,Jy,Jz,J0,J1,J2,J3,J4,J5,J6,J7,J8,Xb,Xc,Xd,Xe,Xf,Xg,Xh,Xi,Xj,Xk,Xl,Xm,Xn,Xo,Xp,Xq,Xs,Xt,Xu,Xv,Xw,Xx,Xy,Xz,X0,X1,X2,X3,X4,X5,X6,X7,X8,X9,Wa,Wb,Wc,Wd,We,Wf,Wg,Wh,Wi,Wj,Wl,Wm,Wn,Wo,Wp,Wq,Wr,Ws,Wt,Wu,Wv,Ww,Wx,Wy,Wz,W0,W1,W2,W3,W4,W5,W6,W7,W8,W9,Ya,Yb,Yc,Yd,Ye,Yf,Yg,Yh,Yi,Yj,Yk,Yl,Ym,Yn,Yo,Yp,Yq,Yr,Ys,Yt,Yu,Yv,Yw,Yx,Yy,Yz,Y0,Y1,Y2,Y3,Y4,Y5,Y6,Y7,Y8,Y9,Va,Vb,Vc,Vd,Ve,Vf,Vg,Vh,Vi,Vj,Vk,Vl,Vm,Vn,Vo,Vp,Vq,Vr,Vs,Vt,Vu,Vv,Vw,Vx,Vy,Vz,V0,V1,V3,V4,V5,V6,V7,V8,V9,Ua,Ub,Uc,Ud,Ue,Uf,Ul,Um,Uq,Ur,Us,Ut,Uu,Uv,Uw,Ux,Uy,Uz,U0,U1,U3,U4,U5,U6,U7,U8,U9,Ka,Kb,Kc,Kd,Ke,Kf,Kg,Kh,Ki,Kj,Kk,Kl,Km,Kn,Ko,Kq,Kr,Ks,Kt,Ga,G5,K8,Kz]
                     tactic =>
                      try simp only [K2] at *
                      try simp only [nc2] at *
                      try simp (maxSteps := 4000000) only [hib,q1,hkb,f1,hne,Gg]
                      repeat' (first | with_reducible assumption | with_reducible refine And.intro ?_ ?_ | intro _ | omega | (rw [Ku]; omega))
                      all_goals first
                        | (with_reducible refine K9 ?_; kernel_rfl)
                        | omega
                        | exact ⟨k + 1, by ((try simp only [Kv, Ky, Kx, K4, upd, K5, Gb, Gs, Nat.reduceDiv, Nat.reduceMod, Nat.reduceMul, Nat.reduceAdd, Nat.reduceEqDiff, List.set_cons_zero, List.set_cons_succ, if_true, if_false, reduceIte]); (first | refine Wk.of_fl ?_ | skip); simp only [Wk, wkK, Gy, wkT, wk1, AV.kept, keptAll, wkO, lk, Kw, and_true, true_and, and_self, Nat.reduceEqDiff, Nat.reduceLeDiff, if_true, if_false, reduceIte, reduceCtorEq, Option.isSome, false_implies]; try simp [Wk, wkK, wkT, wk1, AV.kept, keptAll, wkO, lk, Kw]), by omega, by omega⟩
                        | skip)
                  · have hne : ((k : Int) == (i : Int)) = false := by rw [beq_eq_false_iff_ne]; omega
                    have hnp' := hnp hki
                    (sym =>
                     simp [hib,q1,hkb,f1,hne,hnp',Hl,Hn,Hm,Ho,Hk,Hj,K1.eq_def,con_HitLeast.eq_def,K6.eq_def,Gk.eq_def,Gd.eq_def,K0.eq_def,Ge.eq_def,K7.eq_def,He.eq_def,K3.eq_def,Za,Zb,Zc,Zd,Ze,Zf,Zg,Zh,Zi,Zj,Zk,Zl,Zm,Zn,Zo,Zp,Zq,Zr,Zs,Zt,Zv,Zx,Zy,Z2,Z6,Z7,Z8,Z9,Qa,Qb,Qc,Qd,Qe,Qg,Qi,Qj,Qk,Ql,Qm,Qn,Qo,Qp,Qv,Qw,Qy,Qz,Q0,Q1,Q2,Q3,Q8,Ja,Jb,Jc,Jd,Je,Jl,Jm,Jn,Jo,Jp,Jq,Jr,Js,Jt,Ju,Jv,Jw,Jx,Jy,Jz,J0,J1,J2,J3,J4,J5,J6,J7,J8,Xb,Xc,Xd,Xe,Xf,Xg,Xh,Xi,Xj,Xk,Xl,Xm,Xn,Xo,Xp,Xq,Xs,Xt,Xu,Xv,Xw,Xx,Xy,Xz,X0,X1,X2,X3,X4,X5,X6,X7,X8,X9,Wa,Wb,Wc,Wd,We,Wf,Wg,Wh,Wi,Wj,Wl,Wm,Wn,Wo,Wp,Wq,Wr,Ws,Wt,Wu,Wv,Ww,Wx,Wy,Wz,W0,W1,W2,W3,W4,W5,W6,W7,W8,W9,Ya,Yb,Yc,Yd,Ye,Yf,Yg,Yh,Yi,Yj,Yk,Yl,Ym,Yn,Yo,Yp,Yq,Yr,Ys,Yt,Yu,Yv,Yw,Yx,Yy,Yz,Y0,Y1,Y2,Y3,Y4,Y5,Y6,Y7,Y8,Y9,Va,Vb,Vc,Vd,Ve,Vf,Vg,Vh,Vi,Vj,Vk,Vl,Vm,Vn,Vo,Vp,Vq,Vr,Vs,Vt,Vu,Vv,Vw,Vx,Vy,Vz,V0,V1,V3,V4,V5,V6,V7,V8,V9,Ua,Ub,Uc,Ud,Ue,Uf,Ul,Um,Uq,Ur,Us,Ut,Uu,Uv,Uw,Ux,Uy,Uz,U0,U1,U3,U4,U5,U6,U7,U8,U9,Ka,Kb,Kc,Kd,Ke,Kf,Kg,Kh,Ki,Kj,Kk,Kl,Km,Kn,Ko,Kq,Kr,Ks,Kt,Ga,G5,K8,Kz]
                     tactic =>
                      try simp only [K2] at *
                      try simp only [nc2] at *
                      try simp (maxSteps := 4000000) only [hib,q1,hkb,f1,hne,hnp',Gg]
                      repeat' (first | with_reducible assumption | with_reducible refine And.intro ?_ ?_ | intro _ | omega | (rw [Ku]; omega))
                      all_goals first
                        | (with_reducible refine K9 ?_; kernel_rfl)
                        | omega
                        | exact ⟨k + 1, by ((try simp only [Kv, Ky, Kx, K4, upd, K5, Gb, Gs, Nat.reduceDiv, Nat.reduceMod, Nat.reduceMul, Nat.reduceAdd, Nat.reduceEqDiff, List.set_cons_zero, List.set_cons_succ, if_true, if_false, reduceIte]); (first | refine Wk.of_fl ?_ | skip); simp only [Wk, wkK, Gy, wkT, wk1, AV.kept, keptAll, wkO, lk, Kw, and_true, true_and, and_self, Nat.reduceEqDiff, Nat.reduceLeDiff, if_true, if_false, reduceIte, reduceCtorEq, Option.isSome, false_implies]; try simp [Wk, wkK, wkT, wk1, AV.kept, keptAll, wkO, lk, Kw]), by omega, by omega⟩
                        | skip)
                · by_cases hi0 : i = 0
                  · have hz : ltB 0 (i : Int) = false := by rw [Hg]; omega
                    (sym =>
                     simp [hib,q1,hkb,hz,eI,Hl,Hn,Hm,Ho,Hk,Hj,K1.eq_def,con_HitLeast.eq_def,K6.eq_def,Gk.eq_def,Gd.eq_def,K0.eq_def,Ge.eq_def,K7.eq_def,He.eq_def,K3.eq_def,Za,Zb,Zc,Zd,Ze,Zf,Zg,Zh,Zi,Zj,Zk,Zl,Zm,Zn,Zo,Zp,Zq,Zr,Zs,Zt,Zv,Zx,Zy,Z2,Z6,Z7,Z8,Z9,Qa,Qb,Qc,Qd,Qe,Qg,Qi,Qj,Qk,Ql,Qm,Qn,Qo,Qp,Qv,Qw,Qy,Qz,Q0,Q1,Q2,Q3,Q8,Ja,Jb,Jc,Jd,Je,Jl,Jm,Jn,Jo,Jp,Jq,Jr,Js,Jt,Ju,Jv,Jw,Jx,Jy,Jz,J0,J1,J2,J3,J4,J5,J6,J7,J8,Xb,Xc,Xd,Xe,Xf,Xg,Xh,Xi,Xj,Xk,Xl,Xm,Xn,Xo,Xp,Xq,Xs,Xt,Xu,Xv,Xw,Xx,Xy,Xz,X0,X1,X2,X3,X4,X5,X6,X7,X8,X9,Wa,Wb,Wc,Wd,We,Wf,Wg,Wh,Wi,Wj,Wl,Wm,Wn,Wo,Wp,Wq,Wr,Ws,Wt,Wu,Wv,Ww,Wx,Wy,Wz,W0,W1,W2,W3,W4,W5,W6,W7,W8,W9,Ya,Yb,Yc,Yd,Ye,Yf,Yg,Yh,Yi,Yj,Yk,Yl,Ym,Yn,Yo,Yp,Yq,Yr,Ys,Yt,Yu,Yv,Yw,Yx,Yy,Yz,Y0,Y1,Y2,Y3,Y4,Y5,Y6,Y7,Y8,Y9,Va,Vb,Vc,Vd,Ve,Vf,Vg,Vh,Vi,Vj,Vk,Vl,Vm,Vn,Vo,Vp,Vq,Vr,Vs,Vt,Vu,Vv,Vw,Vx,Vy,Vz,V0,V1,V3,V4,V5,V6,V7,V8,V9,Ua,Ub,Uc,Ud,Ue,Uf,Ul,Um,Uq,Ur,Us,Ut,Uu,Uv,Uw,Ux,Uy,Uz,U0,U1,U3,U4,U5,U6,U7,U8,U9,Ka,Kb,Kc,Kd,Ke,Kf,Kg,Kh,Ki,Kj,Kk,Kl,Km,Kn,Ko,Kq,Kr,Ks,Kt,Ga,G5,K8,Kz]
                     tactic =>
                      try simp only [K2] at *
                      try simp only [nc2] at *
                      try simp (maxSteps := 4000000) only [hib,q1,hkb,hz,eI,Gg]
                      repeat' (first | with_reducible assumption | with_reducible refine And.intro ?_ ?_ | intro _ | omega | (rw [Ku]; omega))
                      all_goals first
                        | (with_reducible refine K9 ?_; kernel_rfl)
                        | assumption
                        | omega
                        | exact ⟨I, by ((try simp only [Kv, Ky, Kx, K4, upd, K5, Gb, Gs, Nat.reduceDiv, Nat.reduceMod, Nat.reduceMul, Nat.reduceAdd, Nat.reduceEqDiff, List.set_cons_zero, List.set_cons_succ, if_true, if_false, reduceIte]); (first | refine Wk.of_fl ?_ | skip); simp only [Wk, wkK, Gy, wkT, wk1, AV.kept, keptAll, wkO, lk, Kw, and_true, true_and, and_self, Nat.reduceEqDiff, Nat.reduceLeDiff, if_true, if_false, reduceIte, reduceCtorEq, Option.isSome, false_implies]; try simp [Wk, wkK, wkT, wk1, AV.kept, keptAll, wkO, lk, Kw]), by omega, by omega⟩
                        | skip)
                  · have hz : ltB 0 (i : Int) = true := by rw [Nr]; omega
                    have e1 : (i : Int) - 1 = ((i - 1 : Nat) : Int) := by omega
                    have q2 := Hd (l := M) (⟨[]⟩ : Sl Int) (show i - 1 < M.length by omega)
                    have hpl := c3 (i - 1) (by omega)
                    have hbl := hm2 (i - 1)
                    obtain ⟨⟨p⟩, hp⟩ : ∃ x, M.getD (i - 1) ⟨[]⟩ = x := ⟨_, rfl⟩
                    rw [hp] at q2 hpl hbl
                    simp only at hpl hbl
                    obtain ⟨j, hj⟩ : ∃ j, i - 1 = j := ⟨_, rfl⟩
                    rw [hj] at e1 q2
                    (sym =>
                     simp [hib,q1,hkb,hz,e1,q2,hpl,eI,Hl,Hn,Hm,Ho,Hk,Hj,K1.eq_def,con_HitLeast.eq_def,K6.eq_def,Gk.eq_def,Gd.eq_def,K0.eq_def,Ge.eq_def,K7.eq_def,He.eq_def,K3.eq_def,Za,Zb,Zc,Zd,Ze,Zf,Zg,Zh,Zi,Zj,Zk,Zl,Zm,Zn,Zo,Zp,Zq,Zr,Zs,Zt,Zv,Zx,Zy,Z2,Z6,Z7,Z8,Z9,Qa,Qb,Qc,Qd,Qe,Qg,Qi,Qj,Qk,Ql,Qm,Qn,Qo,Qp,Qv,Qw,Qy,Qz,Q0,Q1,Q2,Q3,Q8,Ja,Jb,Jc,Jd,Je,Jl,Jm,Jn,Jo,Jp,Jq,Jr,Js,Jt,Ju,Jv,Jw,Jx,Jy,Jz,J0,J1,J2,J3,J4,J5,J6,J7,J8,Xb,Xc,Xd,Xe,Xf,Xg,Xh,Xi,Xj,Xk,Xl,Xm,Xn,Xo,Xp,Xq,Xs,Xt,Xu,Xv,Xw,Xx,Xy,Xz,X0,X1,X2,X3,X4,X5,X6,X7,X8,X9,Wa,Wb,Wc,Wd,We,Wf,Wg,Wh,Wi,Wj,Wl,Wm,Wn,Wo,Wp,Wq,Wr,Ws,Wt,Wu,Wv,Ww,Wx,Wy,Wz,W0,W1,W2,W3,W4,W5,W6,W7,W8,W9,Ya,Yb,Yc,Yd,Ye,Yf,Yg,Yh,Yi,Yj,Yk,Yl,Ym,Yn,Yo,Yp,Yq,Yr,Ys,Yt,Yu,Yv,Yw,Yx,Yy,Yz,Y0,Y1,Y2,Y3,Y4,Y5,Y6,Y7,Y8,Y9,Va,Vb,Vc,Vd,Ve,Vf,Vg,Vh,Vi,Vj,Vk,Vl,Vm,Vn,Vo,Vp,Vq,Vr,Vs,Vt,Vu,Vv,Vw,Vx,Vy,Vz,V0,V1,V3,V4,V5,V6,V7,V8,V9,Ua,Ub,Uc,Ud,Ue,Uf,Ul,Um,Uq,Ur,Us,Ut,Uu,Uv,Uw,Ux,Uy,Uz,U0,U1,U3,U4,U5,U6,U7,U8,U9,Ka,Kb,Kc,Kd,Ke,Kf,Kg,Kh,Ki,Kj,Kk,Kl,Km,Kn,Ko,Kq,Kr,Ks,Kt,Ga,G5,K8,Kz]
                     tactic =>
                      try simp only [K2] at *
                      try simp only [nc2] at *
                      try simp (maxSteps := 4000000) only [hib,q1,hkb,hz,e1,q2,hpl,eI,Gg]
                      repeat' (first | with_reducible assumption | with_reducible refine And.intro ?_ ?_ | intro _ | omega | (rw [Ku]; omega))
                      all_goals first
                        | (with_reducible refine K9 ?_; kernel_rfl)
                        | assumption
                        | omega
                        | exact ⟨I, by ((try simp only [Kv, Ky, Kx, K4, upd, K5, Gb, Gs, Nat.reduceDiv, Nat.reduceMod, Nat.reduceMul, Nat.reduceAdd, Nat.reduceEqDiff, List.set_cons_zero, List.set_cons_succ, if_true, if_false, reduceIte]); (first | refine Wk.of_fl ?_ | skip); simp only [Wk, wkK, Gy, wkT, wk1, AV.kept, keptAll, wkO, lk, Kw, and_true, true_and, and_self, Nat.reduceEqDiff, Nat.reduceLeDiff, if_true, if_false, reduceIte, reduceCtorEq, Option.isSome, false_implies]; try simp [Wk, wkK, wkT, wk1, AV.kept, keptAll, wkO, lk, Kw]), by omega, by omega⟩
                        | skip)))
        · skip
          (sym =>
           simp [hib,Hl,Hn,Hm,Ho,Hk,Hj,K1.eq_def,con_HitLeast.eq_def,K6.eq_def,Gk.eq_def,Gd.eq_def,K0.eq_def,Ge.eq_def,K7.eq_def,He.eq_def,K3.eq_def,Za,Zb,Zc,Zd,Ze,Zf,Zg,Zh,Zi,Zj,Zk,Zl,Zm,Zn,Zo,Zp,Zq,Zr,Zs,Zt,Zv,Zx,Zy,Z2,Z6,Z7,Z8,Z9,Qa,Qb,Qc,Qd,Qe,Qg,Qi,Qj,Qk,Ql,Qm,Qn,Qo,Qp,Qv,Qw,Qy,Qz,Q0,Q1,Q2,Q3,Q8,Ja,Jb,Jc,Jd,Je,Jl,Jm,Jn,Jo,Jp,Jq,Jr,Js,Jt,Ju,Jv,Jw,Jx,Jy,Jz,J0,J1,J2,J3,J4,J5,J6,J7,J8,Xb,Xc,Xd,Xe,Xf,Xg,Xh,Xi,Xj,Xk,Xl,Xm,Xn,Xo,Xp,Xq,Xs,Xt,Xu,Xv,Xw,Xx,Xy,Xz,X0,X1,X2,X3,X4,X5,X6,X7,X8,X9,Wa,Wb,Wc,Wd,We,Wf,Wg,Wh,Wi,Wj,Wl,Wm,Wn,Wo,Wp,Wq,Wr,Ws,Wt,Wu,Wv,Ww,Wx,Wy,Wz,W0,W1,W2,W3,W4,W5,W6,W7,W8,W9,Ya,Yb,Yc,Yd,Ye,Yf,Yg,Yh,Yi,Yj,Yk,Yl,Ym,Yn,Yo,Yp,Yq,Yr,Ys,Yt,Yu,Yv,Yw,Yx,Yy,Yz,Y0,Y1,Y2,Y3,Y4,Y5,Y6,Y7,Y8,Y9,Va,Vb,Vc,Vd,Ve,Vf,Vg,Vh,Vi,Vj,Vk,Vl,Vm,Vn,Vo,Vp,Vq,Vr,Vs,Vt,Vu,Vv,Vw,Vx,Vy,Vz,V0,V1,V3,V4,V5,V6,V7,V8,V9,Ua,Ub,Uc,Ud,Ue,Uf,Ul,Um,Uq,Ur,Us,Ut,Uu,Uv,Uw,Ux,Uy,Uz,U0,U1,U3,U4,U5,U6,U7,U8,U9,Ka,Kb,Kc,Kd,Ke,Kf,Kg,Kh,Ki,Kj,Kk,Kl,Km,Kn,Ko,Kq,Kr,Ks,Kt,Ga,G5,K8,Kz]
           tactic =>
            try simp only [K2] at *
            try simp only [nc2] at *
            try simp (maxSteps := 4000000) only [hib,Gg]
            repeat' (first | with_reducible assumption | with_reducible refine And.intro ?_ ?_ | intro _ | omega | (rw [Ku]; omega))
            all_goals first
              | (with_reducible refine K9 ?_; kernel_rfl)
              | assumption
              | omega
              | skip
            refine Gi [4, 11, 12, 99, 100, 101, 102, 103, 104, 105, 106, 107, 108, 109, 110, 111, 112, 113, 114, 115, 116, 117, 118, 119, 120, 121, 122, 123, 124] (fun i : Nat => [(10, .d (.int .i64 i))]) (fun i : Nat => []) (fun i : Nat => i ≤ l.length) (fun i : Nat => l.length - i) 0 ?_ ?_ ?_
            · exact Nat.zero_le _
            · ((try simp only [Kv, Ky, Kx, K4, upd, K5, Gb, Gs, Nat.reduceDiv, Nat.reduceMod, Nat.reduceMul, Nat.reduceAdd, Nat.reduceEqDiff, List.set_cons_zero, List.set_cons_succ, if_true, if_false, reduceIte]); (first | refine Wk.of_fl ?_ | skip); simp only [Wk, wkK, Gy, wkT, wk1, AV.kept, keptAll, wkO, lk, Kw, and_true, true_and, and_self, Nat.reduceEqDiff, Nat.reduceLeDiff, if_true, if_false, reduceIte, reduceCtorEq, Option.isSome, false_implies]; try simp [Wk, wkK, wkT, wk1, AV.kept, keptAll, wkO, lk, Kw])
            rintro i hi
            rcases Gl i l.length with ⟨hil, hib⟩ | ⟨hil, hib⟩
            · have q1 := Hd (⟨[]⟩ : Sl Int) hil
              have c1 := hany i hil
              have hml := hl12 i
              obtain ⟨⟨m⟩, hm⟩ : ∃ x, l.getD i ⟨[]⟩ = x := ⟨_, rfl⟩
              rw [hm] at q1 c1 hml
              simp only at c1 hml
              (sym =>
               simp [hib,q1,Hl,Hn,Hm,Ho,Hk,Hj,K1.eq_def,con_HitLeast.eq_def,K6.eq_def,Gk.eq_def,Gd.eq_def,K0.eq_def,Ge.eq_def,K7.eq_def,He.eq_def,K3.eq_def,Za,Zb,Zc,Zd,Ze,Zf,Zg,Zh,Zi,Zj,Zk,Zl,Zm,Zn,Zo,Zp,Zq,Zr,Zs,Zt,Zv,Zx,Zy,Z2,Z6,Z7,Z8,Z9,Qa,Qb,Qc,Qd,Qe,Qg,Qi,Qj,Qk,Ql,Qm,Qn,Qo,Qp,Qv,Qw,Qy,Qz,Q0,Q1,Q2,Q3,Q8,Ja,Jb,Jc,Jd,Je,Jl,Jm,Jn,Jo,Jp,Jq,Jr,Js,Jt,Ju,Jv,Jw,Jx,Jy,Jz,J0,J1,J2,J3,J4,J5,J6,J7,J8,Xb,Xc,Xd,Xe,Xf,Xg,Xh,Xi,Xj,Xk,Xl,Xm,Xn,Xo,Xp,Xq,Xs,Xt,Xu,Xv,Xw,Xx,Xy,Xz,X0,X1,X2,X3,X4,X5,X6,X7,X8,X9,Wa,Wb,Wc,Wd,We,Wf,Wg,Wh,Wi,Wj,Wl,Wm,Wn,Wo,Wp,Wq,Wr,Ws,Wt,Wu,Wv,Ww,Wx,Wy,Wz,W0,W1,W2,W3,W4,W5,W6,W7,W8,W9,Ya,Yb,Yc,Yd,Ye,Yf,Yg,Yh,Yi,Yj,Yk,Yl,Ym,Yn,Yo,Yp,Yq,Yr,Ys,Yt,Yu,Yv,Yw,Yx,Yy,Yz,Y0,Y1,Y2,Y3,Y4,Y5,Y6,Y7,Y8,Y9,Va,Vb,Vc,Vd,Ve,Vf,Vg,Vh,Vi,Vj,Vk,Vl,Vm,Vn,Vo,Vp,Vq,Vr,Vs,Vt,Vu,Vv,Vw,Vx,Vy,Vz,V0,V1,V3,V4,V5,V6,V7,V8,V9,Ua,Ub,Uc,Ud,Ue,Uf,Ul,Um,Uq,Ur,Us,Ut,Uu,Uv,Uw,Ux,Uy,Uz,U0,U1,U3,U4,U5,U6,U7,U8,U9,Ka,Kb,Kc,Kd,Ke,Kf,Kg,Kh,Ki,Kj,Kk,Kl,Km,Kn,Ko,Kq,Kr,Ks,Kt,Ga,G5,K8,Kz]
               tactic =>
                try simp only [K2] at *
                try simp only [nc2] at *
                try simp (maxSteps := 4000000) only [hib,q1,Gg]
                repeat' (first | with_reducible assumption | with_reducible refine And.intro ?_ ?_ | intro _ | omega | (rw [Ku]; omega))
                all_goals first
                  | (with_reducible refine K9 ?_; kernel_rfl)
                  | assumption
                  | omega
                  | skip
                refine Gi [105, 106, 107, 108, 109, 110, 111, 112, 113, 114, 115, 116, 117, 118, 119, 120, 121, 122] (fun k : Nat => [(12, .d (.int .i64 k)), (11, .d (.bool (O4 M m k)))]) (fun k : Nat => []) (fun k : Nat => k ≤ M.length) (fun k : Nat => M.length - k) 0 ?_ ?_ ?_
                · exact Nat.zero_le _
                · ((try simp only [Kv, Ky, Kx, K4, upd, K5, Gb, Gs, Nat.reduceDiv, Nat.reduceMod, Nat.reduceMul, Nat.reduceAdd, Nat.reduceEqDiff, List.set_cons_zero, List.set_cons_succ, if_true, if_false, reduceIte]); (first | refine Wk.of_fl ?_ | skip); simp only [Wk, wkK, Gy, wkT, wk1, AV.kept, keptAll, wkO, lk, Kw, and_true, true_and, and_self, Nat.reduceEqDiff, Nat.reduceLeDiff, if_true, if_false, reduceIte, reduceCtorEq, Option.isSome, false_implies]; try simp [Wk, wkK, wkT, wk1, AV.kept, keptAll, wkO, lk, Kw, O4])
                rintro k hk
                rcases Gl k M.length with ⟨hkl, hkb⟩ | ⟨hkl, hkb⟩
                · have f1 := Hd (⟨[]⟩ : Sl Int) hkl
                  have hsucc := anyP_succ (s := m) hkl
                  have hal := hm2 k
                  obtain ⟨⟨a⟩, ha⟩ : ∃ x, M.getD k ⟨[]⟩ = x := ⟨_, rfl⟩
                  rw [ha] at f1 hsucc hal
                  simp only at hsucc hal
                  obtain ⟨v, hv⟩ : ∃ v, O4 M m k = v := ⟨_, rfl⟩
                  rw [hv] at hsucc ⊢
                  cases v with
                  | true =>
                    rw [Bool.true_or] at hsucc
                    (sym =>
                     simp [hib,q1,hkb,f1,Hl,Hn,Hm,Ho,Hk,Hj,K1.eq_def,con_HitLeast.eq_def,K6.eq_def,Gk.eq_def,Gd.eq_def,K0.eq_def,Ge.eq_def,K7.eq_def,He.eq_def,K3.eq_def,Za,Zb,Zc,Zd,Ze,Zf,Zg,Zh,Zi,Zj,Zk,Zl,Zm,Zn,Zo,Zp,Zq,Zr,Zs,Zt,Zv,Zx,Zy,Z2,Z6,Z7,Z8,Z9,Qa,Qb,Qc,Qd,Qe,Qg,Qi,Qj,Qk,Ql,Qm,Qn,Qo,Qp,Qv,Qw,Qy,Qz,Q0,Q1,Q2,Q3,Q8,Ja,Jb,Jc,Jd,Je,Jl,Jm,Jn,Jo,Jp,Jq,Jr,Js,Jt,Ju,Jv,Jw,Jx,Jy,Jz,J0,J1,J2,J3,J4,J5,J6,J7,J8,Xb,Xc,Xd,Xe,Xf,Xg,Xh,Xi,Xj,Xk,Xl,Xm,Xn,Xo,Xp,Xq,Xs,Xt,Xu,Xv,Xw,Xx,Xy,Xz,X0,X1,X2,X3,X4,X5,X6,X7,X8,X9,Wa,Wb,Wc,Wd,We,Wf,Wg,Wh,Wi,Wj,Wl,Wm,Wn,Wo,Wp,Wq,Wr,Ws,Wt,Wu,Wv,Ww,Wx,Wy,Wz,W0,W1,W2,W3,W4,W5,W6,W7,W8,W9,Ya,Yb,Yc,Yd,Ye,Yf,Yg,Yh,Yi,Yj,Yk,Yl,Ym,Yn,Yo,Yp,Yq,Yr,Ys,Yt,Yu,Yv,Yw,Yx,Yy,Yz,Y0,Y1,Y2,Y3,Y4,Y5,Y6,Y7,Y8,Y9,Va,Vb,Vc,Vd,Ve,Vf,Vg,Vh,Vi,Vj,Vk,Vl,Vm,Vn,Vo,Vp,Vq,Vr,Vs,Vt,Vu,Vv,Vw,Vx,Vy,Vz,V0,V1,V3,V4,V5,V6,V7,V8,V9,Ua,Ub,Uc,Ud,Ue,Uf,Ul,Um,Uq,Ur,Us,Ut,Uu,Uv,Uw,Ux,Uy,Uz,U0,U1,U3,U4,U5,U6,U7,U8,U9,Ka,Kb,Kc,Kd,Ke,Kf,Kg,Kh,Ki,Kj,Kk,Kl,Km,Kn,Ko,Kq,Kr,Ks,Kt,Ga,G5,K8,Kz]
                     tactic =>
                      try simp only [K2] at *
                      try simp only [nc2] at *
                      try simp (maxSteps := 4000000) only [hib,q1,hkb,f1,Gg]
                      repeat' (first | with_reducible assumption | with_reducible refine And.intro ?_ ?_ | intro _ | omega | (rw [Ku]; omega))
                      all_goals first
                        | (with_reducible refine K9 ?_; kernel_rfl)
                        | omega
                        | exact ⟨k + 1, by rw [hsucc]; ((try simp only [Kv, Ky, Kx, K4, upd, K5, Gb, Gs, Nat.reduceDiv, Nat.reduceMod, Nat.reduceMul, Nat.reduceAdd, Nat.reduceEqDiff, List.set_cons_zero, List.set_cons_succ, if_true, if_false, reduceIte]); (first | refine Wk.of_fl ?_ | skip); simp only [Wk, wkK, Gy, wkT, wk1, AV.kept, keptAll, wkO, lk, Kw, and_true, true_and, and_self, Nat.reduceEqDiff, Nat.reduceLeDiff, if_true, if_false, reduceIte, reduceCtorEq, Option.isSome, false_implies]; try simp [Wk, wkK, wkT, wk1, AV.kept, keptAll, wkO, lk, Kw]), by omega, by omega⟩
                        | skip)
                  | false =>
                    rw [Bool.false_or] at hsucc
                    obtain ⟨v2, hv2⟩ : ∃ v, Sq a m = v := ⟨_, rfl⟩
                    rw [hv2] at hsucc
                    (sym =>
                     simp [hib,q1,hkb,f1,hv2,Hl,Hn,Hm,Ho,Hk,Hj,K1.eq_def,con_HitLeast.eq_def,K6.eq_def,Gk.eq_def,Gd.eq_def,K0.eq_def,Ge.eq_def,K7.eq_def,He.eq_def,K3.eq_def,Za,Zb,Zc,Zd,Ze,Zf,Zg,Zh,Zi,Zj,Zk,Zl,Zm,Zn,Zo,Zp,Zq,Zr,Zs,Zt,Zv,Zx,Zy,Z2,Z6,Z7,Z8,Z9,Qa,Qb,Qc,Qd,Qe,Qg,Qi,Qj,Qk,Ql,Qm,Qn,Qo,Qp,Qv,Qw,Qy,Qz,Q0,Q1,Q2,Q3,Q8,Ja,Jb,Jc,Jd,Je,Jl,Jm,Jn,Jo,Jp,Jq,Jr,Js,Jt,Ju,Jv,Jw,Jx,Jy,Jz,J0,J1,J2,J3,J4,J5,J6,J7,J8,Xb,Xc,Xd,Xe,Xf,Xg,Xh,Xi,Xj,Xk,Xl,Xm,Xn,Xo,Xp,Xq,Xs,Xt,Xu,Xv,Xw,Xx,Xy,Xz,X0,X1,X2,X3,X4,X5,X6,X7,X8,X9,Wa,Wb,Wc,Wd,We,Wf,Wg,Wh,Wi,Wj,Wl,Wm,Wn,Wo,Wp,Wq,Wr,Ws,Wt,Wu,Wv,Ww,Wx,Wy,Wz,W0,W1,W2,W3,W4,W5,W6,W7,W8,W9,Ya,Yb,Yc,Yd,Ye,Yf,Yg,Yh,Yi,Yj,Yk,Yl,Ym,Yn,Yo,Yp,Yq,Yr,Ys,Yt,Yu,Yv,Yw,Yx,Yy,Yz,Y0,Y1,Y2,Y3,Y4,Y5,Y6,Y7,Y8,Y9,Va,Vb,Vc,Vd,Ve,Vf,Vg,Vh,Vi,Vj,Vk,Vl,Vm,Vn,Vo,Vp,Vq,Vr,Vs,Vt,Vu,Vv,Vw,Vx,Vy,Vz,V0,V1,V3,V4,V5,V6,V7,V8,V9,Ua,Ub,Uc,Ud,Ue,Uf,Ul,Um,Uq,Ur,Us,Ut,Uu,Uv,Uw,Ux,Uy,Uz,U0,U1,U3,U4,U5,U6,U7,U8,U9,Ka,Kb,Kc,Kd,Ke,Kf,Kg,Kh,Ki,Kj,Kk,Kl,Km,Kn,Ko,Kq,Kr,Ks,Kt,Ga,G5,K8,Kz]
                     tactic =>
                      try simp only [K2] at *
                      try simp only [nc2] at *
                      try simp (maxSteps := 4000000) only [hib,q1,hkb,f1,hv2,Gg]
                      repeat' (first | with_reducible assumption | with_reducible refine And.intro ?_ ?_ | intro _ | omega | (rw [Ku]; omega))
                      all_goals first
                        | (with_reducible refine K9 ?_; kernel_rfl)
                        | omega
                        | exact ⟨k + 1, by rw [hsucc]; ((try simp only [Kv, Ky, Kx, K4, upd, K5, Gb, Gs, Nat.reduceDiv, Nat.reduceMod, Nat.reduceMul, Nat.reduceAdd, Nat.reduceEqDiff, List.set_cons_zero, List.set_cons_succ, if_true, if_false, reduceIte]); (first | refine Wk.of_fl ?_ | skip); simp only [Wk, wkK, Gy, wkT, wk1, AV.kept, keptAll, wkO, lk, Kw, and_true, true_and, and_self, Nat.reduceEqDiff, Nat.reduceLeDiff, if_true, if_false, reduceIte, reduceCtorEq, Option.isSome, false_implies]; try simp [Wk, wkK, wkT, wk1, AV.kept, keptAll, wkO, lk, Kw]), by omega, by omega⟩
                        | skip)
                · have hke : k = M.length := by omega
                  rw [hke, c1]
                  have hkb' : ltB (M.length : Int) (M.length : Int) = false := by rw [Hg]; omega
                  (sym =>
                   simp [hib,q1,hkb',Hl,Hn,Hm,Ho,Hk,Hj,K1.eq_def,con_HitLeast.eq_def,K6.eq_def,Gk.eq_def,Gd.eq_def,K0.eq_def,Ge.eq_def,K7.eq_def,He.eq_def,K3.eq_def,Za,Zb,Zc,Zd,Ze,Zf,Zg,Zh,Zi,Zj,Zk,Zl,Zm,Zn,Zo,Zp,Zq,Zr,Zs,Zt,Zv,Zx,Zy,Z2,Z6,Z7,Z8,Z9,Qa,Qb,Qc,Qd,Qe,Qg,Qi,Qj,Qk,Ql,Qm,Qn,Qo,Qp,Qv,Qw,Qy,Qz,Q0,Q1,Q2,Q3,Q8,Ja,Jb,Jc,Jd,Je,Jl,Jm,Jn,Jo,Jp,Jq,Jr,Js,Jt,Ju,Jv,Jw,Jx,Jy,Jz,J0,J1,J2,J3,J4,J5,J6,J7,J8,Xb,Xc,Xd,Xe,Xf,Xg,Xh,Xi,Xj,Xk,Xl,Xm,Xn,Xo,Xp,Xq,Xs,Xt,Xu,Xv,Xw,Xx,Xy,Xz,X0,X1,X2,X3,X4,X5,X6,X7,X8,X9,Wa,Wb,Wc,Wd,We,Wf,Wg,Wh,Wi,Wj,Wl,Wm,Wn,Wo,Wp,Wq,Wr,Ws,Wt,Wu,Wv,Ww,Wx,Wy,Wz,W0,W1,W2,W3,W4,W5,W6,W7,W8,W9,Ya,Yb,Yc,Yd,Ye,Yf,Yg,Yh,Yi,Yj,Yk,Yl,Ym,Yn,Yo,Yp,Yq,Yr,Ys,Yt,Yu,Yv,Yw,Yx,Yy,Yz,Y0,Y1,Y2,Y3,Y4,Y5,Y6,Y7,Y8,Y9,Va,Vb,Vc,Vd,Ve,Vf,Vg,Vh,Vi,Vj,Vk,Vl,Vm,Vn,Vo,Vp,Vq,Vr,Vs,Vt,Vu,Vv,Vw,Vx,Vy,Vz,V0,V1,V3,V4,V5,V6,V7,V8,V9,Ua,Ub,Uc,Ud,Ue,Uf,Ul,Um,Uq,Ur,Us,Ut,Uu,Uv,Uw,Ux,Uy,Uz,U0,U1,U3,U4,U5,U6,U7,U8,U9,Ka,Kb,Kc,Kd,Ke,Kf,Kg,Kh,Ki,Kj,Kk,Kl,Km,Kn,Ko,Kq,Kr,Ks,Kt,Ga,G5,K8,Kz]
                   tactic =>
                    try simp only [K2] at *
                    try simp only [nc2] at *
                    try simp (maxSteps := 4000000) only [hib,q1,hkb',Gg]
                    repeat' (first | with_reducible assumption | with_reducible refine And.intro ?_ ?_ | intro _ | omega | (rw [Ku]; omega))
                    all_goals first
                      | (with_reducible refine K9 ?_; kernel_rfl)
                      | assumption
                      | omega
                      | exact ⟨i + 1, by ((try simp only [Kv, Ky, Kx, K4, upd, K5, Gb, Gs, Nat.reduceDiv, Nat.reduceMod, Nat.reduceMul, Nat.reduceAdd, Nat.reduceEqDiff, List.set_cons_zero, List.set_cons_succ, if_true, if_false, reduceIte]); (first | refine Wk.of_fl ?_ | skip); simp only [Wk, wkK, Gy, wkT, wk1, AV.kept, keptAll, wkO, lk, Kw, and_true, true_and, and_self, Nat.reduceEqDiff, Nat.reduceLeDiff, if_true, if_false, reduceIte, reduceCtorEq, Option.isSome, false_implies]; try simp [Wk, wkK, wkT, wk1, AV.kept, keptAll, wkO, lk, Kw]), by omega, by omega⟩
                      | skip))
            · skip
              (sym =>
               simp [hib,hS,hss,hhe,hH,hHH,hll,hMM,hSS,hge,Hl,Hn,Hm,Ho,Hk,Hj,K1.eq_def,con_HitLeast.eq_def,K6.eq_def,Gk.eq_def,Gd.eq_def,K0.eq_def,Ge.eq_def,K7.eq_def,He.eq_def,K3.eq_def,Za,Zb,Zc,Zd,Ze,Zf,Zg,Zh,Zi,Zj,Zk,Zl,Zm,Zn,Zo,Zp,Zq,Zr,Zs,Zt,Zv,Zx,Zy,Z2,Z6,Z7,Z8,Z9,Qa,Qb,Qc,Qd,Qe,Qg,Qi,Qj,Qk,Ql,Qm,Qn,Qo,Qp,Qv,Qw,Qy,Qz,Q0,Q1,Q2,Q3,Q8,Ja,Jb,Jc,Jd,Je,Jl,Jm,Jn,Jo,Jp,Jq,Jr,Js,Jt,Ju,Jv,Jw,Jx,Jy,Jz,J0,J1,J2,J3,J4,J5,J6,J7,J8,Xb,Xc,Xd,Xe,Xf,Xg,Xh,Xi,Xj,Xk,Xl,Xm,Xn,Xo,Xp,Xq,Xs,Xt,Xu,Xv,Xw,Xx,Xy,Xz,X0,X1,X2,X3,X4,X5,X6,X7,X8,X9,Wa,Wb,Wc,Wd,We,Wf,Wg,Wh,Wi,Wj,Wl,Wm,Wn,Wo,Wp,Wq,Wr,Ws,Wt,Wu,Wv,Ww,Wx,Wy,Wz,W0,W1,W2,W3,W4,W5,W6,W7,W8,W9,Ya,Yb,Yc,Yd,Ye,Yf,Yg,Yh,Yi,Yj,Yk,Yl,Ym,Yn,Yo,Yp,Yq,Yr,Ys,Yt,Yu,Yv,Yw,Yx,Yy,Yz,Y0,Y1,Y2,Y3,Y4,Y5,Y6,Y7,Y8,Y9,Va,Vb,Vc,Vd,Ve,Vf,Vg,Vh,Vi,Vj,Vk,Vl,Vm,Vn,Vo,Vp,Vq,Vr,Vs,Vt,Vu,Vv,Vw,Vx,Vy,Vz,V0,V1,V3,V4,V5,V6,V7,V8,V9,Ua,Ub,Uc,Ud,Ue,Uf,Ul,Um,Uq,Ur,Us,Ut,Uu,Uv,Uw,Ux,Uy,Uz,U0,U1,U3,U4,U5,U6,U7,U8,U9,Ka,Kb,Kc,Kd,Ke,Kf,Kg,Kh,Ki,Kj,Kk,Kl,Km,Kn,Ko,Kq,Kr,Ks,Kt,Ga,G5,K8,Kz]
               tactic =>
                try simp only [K2] at *
                try simp only [nc2] at *
                try simp (maxSteps := 4000000) only [hib,hS,hss,hhe,hH,hHH,hll,hMM,hSS,hge,Gg]
                repeat' (first | with_reducible assumption | with_reducible refine And.intro ?_ ?_ | intro _ | omega | (rw [Ku]; omega))
                all_goals first
                  | (with_reducible refine K9 ?_; kernel_rfl)
                  | assumption
                  | omega
                  | rfl
                  | skip)))
end Go.Am.Hit
set_option linter.unusedSimpArgs false
set_option linter.unusedVariables false
set_option maxHeartbeats 4000000
namespace Go.Am.Hit
open Go.Proofs
open Enc (enc dec)
theorem mem_missU {s : List Int} {x : Int} : ∀ {k : Nat}, x ∈ Cp s k ↔ 1 ≤ x ∧ x ≤ (k : Int) ∧ x ∉ s
  | 0 => by
    rw [Cp]
    constructor
    · intro h; cases h
    · rintro ⟨h1, h2, _⟩; omega
  | k + 1 => by
    have ih := mem_missU (s := s) (x := x) (k := k)
    rw [Cp, List.mem_append, ih]
    constructor
    · rintro (⟨h1, h2, h3⟩ | h)
      · exact ⟨h1, by omega, h3⟩
      · cases hb : inB s ((k + 1 : Nat) : Int) with
        | true => rw [hb, cond_true] at h; cases h
        | false =>
          rw [hb, cond_false, List.mem_singleton] at h
          subst h
          exact ⟨by omega, by omega, inB_not.1 hb⟩
    · rintro ⟨h1, h2, h3⟩
      by_cases e : x = ((k + 1 : Nat) : Int)
      · subst e
        rw [inB_not.2 h3, cond_false]
        exact .inr (List.mem_singleton.2 rfl)
      · exact .inl ⟨h1, by omega, h3⟩
theorem sorted_missU {s : List Int} : ∀ {k : Nat}, Hf (Cp s k)
  | 0 => List.Pairwise.nil
  | k + 1 => by
    have ih := sorted_missU (s := s) (k := k)
    rw [Cp]
    cases inB s ((k + 1 : Nat) : Int) with
    | true => rw [cond_true, List.append_nil]; exact ih
    | false =>
      rw [cond_false]
      unfold Hf at ih ⊢
      rw [List.pairwise_append]
      refine ⟨ih, List.pairwise_singleton .., fun a ha b hb => ?_⟩
      rw [List.mem_singleton] at hb
      obtain ⟨_, h2, _⟩ := mem_missU.1 ha
      omega
theorem mem_missB {s : List Int} {n x : Int} : x ∈ Sr s n ↔ 1 ≤ x ∧ x ≤ n ∧ x ∉ s := by
  unfold Sr
  rw [mem_missU]
  constructor
  · rintro ⟨h1, h2, h3⟩; exact ⟨h1, by omega, h3⟩
  · rintro ⟨h1, h2, h3⟩; exact ⟨h1, by omega, h3⟩
def insP (s : List Int) (n : Int) (i : Nat) : Bool := (s.take i).all fun x => leB 1 x && leB x n
theorem insP_succ {s : List Int} {n : Int} {i : Nat} (h : i < s.length) : insP s n (i + 1) = (insP s n i && (leB 1 (s.getD i 0) && leB (s.getD i 0) n)) := by
  unfold insP
  rw [List.take_succ_eq_append_getElem h, List.all_append]
  simp [h]
theorem insP_iff {s : List Int} {n : Int} : insP s n s.length = true ↔ ∀ x ∈ s, 1 ≤ x ∧ x ≤ n := by
  unfold insP
  rw [List.take_length, List.all_eq_true]
  refine forall_congr' fun x => forall_congr' fun hx => ?_
  rw [Bool.and_eq_true, D5, D5]
theorem miss_miss {t : List Int} {n : Int} (ht : Hf t) (h : ∀ x ∈ t, 1 ≤ x ∧ x ≤ n) : Sr (Sr t n) n = t := by
  refine S1 sorted_missU ht fun x => ?_
  rw [mem_missB, mem_missB]
  constructor
  · rintro ⟨h1, h2, h3⟩
    exact Classical.byContradiction fun hx => h3 ⟨h1, h2, hx⟩
  · intro hx
    obtain ⟨h1, h2⟩ := h x hx
    exact ⟨h1, h2, fun hc => hc.2.2 hx⟩
def hitM (l : List (Sl Int)) (s : List Int) (n : Int) (i : Nat) : Bool := (l.take i).all fun t => !Sq s (Sr t.l n)
theorem hitM_succ {l : List (Sl Int)} {s : List Int} {n : Int} {i : Nat} (h : i < l.length) : hitM l s n (i + 1) = (hitM l s n i && !Sq s (Sr (l.getD i ⟨[]⟩).l n)) := by
  unfold hitM
  rw [List.take_succ_eq_append_getElem h, List.all_append]
  simp [h]
theorem hitM_eq {l : List (Sl Int)} {s : List Int} {n : Int} (hl : Ab (unS l)) (hs : Hf s) (h : ∀ x ∈ s, 1 ≤ x ∧ x ≤ n) : hitM l s n l.length = Du s l := by
  rw [Bool.eq_iff_iff, Dt hs hl]
  unfold hitM
  rw [List.take_length, List.all_eq_true]
  constructor
  · intro hh t ht
    have := hh ⟨t⟩ (Tt.1 ht)
    rw [Bool.not_eq_true', ← Bool.not_eq_true, Sk] at this
    apply Classical.byContradiction
    intro hc
    exact this fun x hx => mem_missB.2 ⟨(h x hx).1, (h x hx).2, fun hxt => hc ⟨x, hx, hxt⟩⟩
  · intro hh t ht
    rw [Bool.not_eq_true', ← Bool.not_eq_true, Sk]
    intro hc
    obtain ⟨x, h1, h2⟩ := hh t.l (List.mem_map_of_mem ht)
    exact (mem_missB.1 (hc x h1)).2.2 h2
theorem missL_at {l : List (Sl Int)} {n : Int} {i : Nat} (h : i < l.length) : (N4 l n).getD i ⟨[]⟩ = ⟨Sr (l.getD i ⟨[]⟩).l n⟩ := by
  unfold N4
  simp [h]
theorem missB_len (s : List Int) {n : Int} (hn : n ≤ 1000000) : (Sr s n).length ≤ 1000000 := by
  have := E6 s n.toNat
  unfold Sr
  omega
def con_HitMissing : Con := con3 (fun (l : Sl (Sl Int)) (s : Sl Int) (_ : Int) => Rw l.l ∧ Lo s.l.length) (fun _ _ _ => true)
noncomputable def P8 : Ctx := ⟨tab, lkC [(10, K1), (11, K3), (15, K7), (16, K6), (19, K0), (25, Gn), (27, Gp)], 60, lkB [], [], false⟩
theorem G8 : P8.τ = tab := rfl
theorem Ha : P8.Γ = lkC [(10, K1), (11, K3), (15, K7), (16, K6), (19, K0), (25, Gn), (27, Gp)] := rfl
theorem G9 : P8.dp = 60 := rfl
theorem Hb : P8.Δ = lkB [] := rfl
theorem G7 : P8.cuts = [] := rfl
theorem G6 : P8.wr = false := rfl
set_option maxRecDepth 100000 in
theorem good_HitMissing : Me Try.prog (9, con_HitMissing) := by
  refine ⟨Gj Try.func9 (by kernel_rfl) rfl, ?_⟩
  have K : Hq Try.prog P8 := Gq H8 G4 (by
    intro p hp
    simp only [List.mem_cons, List.not_mem_nil, or_false] at hp
    rcases hp with rfl | rfl | rfl | rfl | rfl | rfl | rfl
    · exact C4
    · exact C3
    · exact Ry
    · exact E8
    · exact Fm
    · exact A3
    · exact good_Ints03) (by simp)
  obtain ⟨c, hc⟩ : ∃ c, Try.f9.body = some c := ⟨_, rfl⟩
  refine Gu K Try.func9 hc [.tmp 6] rfl 145 rfl (fun cvs hpre => ?_)
  change con_HitMissing.pre cvs at hpre
  unfold con_HitMissing at hpre
  obtain ⟨⟨l⟩, ⟨s⟩, n, rfl, hl, hs⟩ := con3_pre hpre
  simp only at hl hs
  clear hpre
  obtain ⟨hl1, hl2⟩ := id hl
  cases hf : fewB l 20 with
  | false =>
    simp only [Try.f9, Option.some.injEq] at hc
    subst hc
    refine Hy 9 (of_decide_eq_true (by kernel_rfl)) ?_
    (sym =>
     simp [hf,G8,Ha,G9,Hb,G7,G6,K1.eq_def,con_HitMissing.eq_def,K6.eq_def,Gp.eq_def,Gn.eq_def,K0.eq_def,K7.eq_def,K3.eq_def,Za,Zb,Zc,Zd,Ze,Zf,Zg,Zh,Zi,Zj,Zk,Zl,Zm,Zn,Zo,Zp,Zq,Zr,Zs,Zt,Zv,Zx,Z2,Z6,Z7,Z8,Z9,Qa,Qb,Qc,Qd,Qe,Qi,Qj,Qk,Ql,Qm,Qn,Qo,Qp,Qv,Qw,Qy,Qz,Q0,Q1,Q2,Q3,Q8,Ja,Jb,Jc,Jd,Je,Jl,Jp,Jq,Jr,Js,Jt,Ju,Jx,Jy,Jz,J0,J1,J2,J3,J4,J5,J6,J7,J8,Xb,Xc,Xd,Xe,Xf,Xg,Xh,Xi,Xj,Xk,Xl,Xm,Xn,Xo,Xp,Xq,Xs,Xt,Xu,Xv,Xw,Xx,Xy,Xz,X0,X1,X2,X3,X4,X5,X6,X7,X8,X9,Wa,Wb,Wc,Wd,We,Wf,Wg,Wh,Wi,Wj,Wl,Wm,Wn,Wo,Wp,Wq,Wr,Ws,Wt,Wu,Wv,Ww,Wx,Wy,Wz,W0,W1,W2,W3,W4,W5,W6,W7,W8,Yb,Yc,Yd,Ye,Yf,Yg,Yh,Yi,Yj,Yk,Yl,Ym,Yn,Yo,Yp,Yq,Yr,Ys,Yt,Yu,Yv,Yw,Yx,Yy,Yz,Y0,Y1,Y2,Y3,Y4,Y5,Y6,Y7,Y8,Y9,Va,Vb,Vc,Vd,Ve,Vf,Vg,Vh,Vi,Vj,Vk,Vl,Vm,Vn,Vo,Vp,Vq,Vr,Vs,Vt,Vu,Vv,Vw,Vx,Vy,Vz,V0,V1,V3,V4,V5,V6,V7,V8,V9,Ua,Ub,Uc,Ud,Ue,Uf,Ul,Um,Uq,Ur,Us,Ut,Uu,Uv,Uw,Ux,Uy,Uz,U0,U1,U3,U4,U5,U6,U7,U8,U9,Ka,Kb,Kc,Kd,Ke,Kf,Kg,Kh,Ki,Kj,Kk,Kl,Km,Kn,Ko,Kq,Kr,Ks,Kt,Ga,G5,K8,Kz]
     tactic =>
      try simp only [K2] at *
      try simp only [nc2] at *
      try simp (maxSteps := 4000000) only [hf,Gg]
      repeat' (first | with_reducible assumption | with_reducible refine And.intro ?_ ?_ | intro _ | omega | (rw [Ku]; omega))
      all_goals first
        | assumption
        | omega
        | rfl
        | (with_reducible refine K9 ?_; kernel_rfl)
        | skip)
  | true =>
    rcases S5 20 (s.length : Int) with ⟨hs8, hsb⟩ | ⟨hs8, hsb⟩
    · skip
      simp only [Try.f9, Option.some.injEq] at hc
      subst hc
      refine Hy 9 (of_decide_eq_true (by kernel_rfl)) ?_
      (sym =>
       simp [hf,hsb,G8,Ha,G9,Hb,G7,G6,K1.eq_def,con_HitMissing.eq_def,K6.eq_def,Gp.eq_def,Gn.eq_def,K0.eq_def,K7.eq_def,K3.eq_def,Za,Zb,Zc,Zd,Ze,Zf,Zg,Zh,Zi,Zj,Zk,Zl,Zm,Zn,Zo,Zp,Zq,Zr,Zs,Zt,Zv,Zx,Z2,Z6,Z7,Z8,Z9,Qa,Qb,Qc,Qd,Qe,Qi,Qj,Qk,Ql,Qm,Qn,Qo,Qp,Qv,Qw,Qy,Qz,Q0,Q1,Q2,Q3,Q8,Ja,Jb,Jc,Jd,Je,Jl,Jp,Jq,Jr,Js,Jt,Ju,Jx,Jy,Jz,J0,J1,J2,J3,J4,J5,J6,J7,J8,Xb,Xc,Xd,Xe,Xf,Xg,Xh,Xi,Xj,Xk,Xl,Xm,Xn,Xo,Xp,Xq,Xs,Xt,Xu,Xv,Xw,Xx,Xy,Xz,X0,X1,X2,X3,X4,X5,X6,X7,X8,X9,Wa,Wb,Wc,Wd,We,Wf,Wg,Wh,Wi,Wj,Wl,Wm,Wn,Wo,Wp,Wq,Wr,Ws,Wt,Wu,Wv,Ww,Wx,Wy,Wz,W0,W1,W2,W3,W4,W5,W6,W7,W8,Yb,Yc,Yd,Ye,Yf,Yg,Yh,Yi,Yj,Yk,Yl,Ym,Yn,Yo,Yp,Yq,Yr,Ys,Yt,Yu,Yv,Yw,Yx,Yy,Yz,Y0,Y1,Y2,Y3,Y4,Y5,Y6,Y7,Y8,Y9,Va,Vb,Vc,Vd,Ve,Vf,Vg,Vh,Vi,Vj,Vk,Vl,Vm,Vn,Vo,Vp,Vq,Vr,Vs,Vt,Vu,Vv,Vw,Vx,Vy,Vz,V0,V1,V3,V4,V5,V6,V7,V8,V9,Ua,Ub,Uc,Ud,Ue,Uf,Ul,Um,Uq,Ur,Us,Ut,Uu,Uv,Uw,Ux,Uy,Uz,U0,U1,U3,U4,U5,U6,U7,U8,U9,Ka,Kb,Kc,Kd,Ke,Kf,Kg,Kh,Ki,Kj,Kk,Kl,Km,Kn,Ko,Kq,Kr,Ks,Kt,Ga,G5,K8,Kz]
       tactic =>
        try simp only [K2] at *
        try simp only [nc2] at *
        try simp (maxSteps := 4000000) only [hf,hsb,Gg]
        repeat' (first | with_reducible assumption | with_reducible refine And.intro ?_ ?_ | intro _ | omega | (rw [Ku]; omega))
        all_goals first
          | assumption
          | omega
          | rfl
          | (with_reducible refine K9 ?_; kernel_rfl)
          | skip)
    cases hset : Ox s with
    | false =>
      simp only [Try.f9, Option.some.injEq] at hc
      subst hc
      refine Hy 9 (of_decide_eq_true (by kernel_rfl)) ?_
      (sym =>
       simp [hf,hsb,hset,G8,Ha,G9,Hb,G7,G6,K1.eq_def,con_HitMissing.eq_def,K6.eq_def,Gp.eq_def,Gn.eq_def,K0.eq_def,K7.eq_def,K3.eq_def,Za,Zb,Zc,Zd,Ze,Zf,Zg,Zh,Zi,Zj,Zk,Zl,Zm,Zn,Zo,Zp,Zq,Zr,Zs,Zt,Zv,Zx,Z2,Z6,Z7,Z8,Z9,Qa,Qb,Qc,Qd,Qe,Qi,Qj,Qk,Ql,Qm,Qn,Qo,Qp,Qv,Qw,Qy,Qz,Q0,Q1,Q2,Q3,Q8,Ja,Jb,Jc,Jd,Je,Jl,Jp,Jq,Jr,Js,Jt,Ju,Jx,Jy,Jz,J0,J1,J2,J3,J4,J5,J6,J7,J8,Xb,Xc,Xd,Xe,Xf,Xg,Xh,Xi,Xj,Xk,Xl,Xm,Xn,Xo,Xp,Xq,Xs,Xt,Xu,Xv,Xw,Xx,Xy,Xz,X0,X1,X2,X3,X4,X5,X6,X7,X8,X9,Wa,Wb,Wc,Wd,We,Wf,Wg,Wh,Wi,Wj,Wl,Wm,Wn,Wo,Wp,Wq,Wr,Ws,Wt,Wu,Wv,Ww,Wx,Wy,Wz,W0,W1,W2,W3,W4,W5,W6,W7,W8,Yb,Yc,Yd,Ye,Yf,Yg,Yh,Yi,Yj,Yk,Yl,Ym,Yn,Yo,Yp,Yq,Yr,Ys,Yt,Yu,Yv,Yw,Yx,Yy,Yz,Y0,Y1,Y2,Y3,Y4,Y5,Y6,Y7,Y8,Y9,Va,Vb,Vc,Vd,Ve,Vf,Vg,Vh,Vi,Vj,Vk,Vl,Vm,Vn,Vo,Vp,Vq,Vr,Vs,Vt,Vu,Vv,Vw,Vx,Vy,Vz,V0,V1,V3,V4,V5,V6,V7,V8,V9,Ua,Ub,Uc,Ud,Ue,Uf,Ul,Um,Uq,Ur,Us,Ut,Uu,Uv,Uw,Ux,Uy,Uz,U0,U1,U3,U4,U5,U6,U7,U8,U9,Ka,Kb,Kc,Kd,Ke,Kf,Kg,Kh,Ki,Kj,Kk,Kl,Km,Kn,Ko,Kq,Kr,Ks,Kt,Ga,G5,K8,Kz]
       tactic =>
        try simp only [K2] at *
        try simp only [nc2] at *
        try simp (maxSteps := 4000000) only [hf,hsb,hset,Gg]
        repeat' (first | with_reducible assumption | with_reducible refine And.intro ?_ ?_ | intro _ | omega | (rw [Ku]; omega))
        all_goals first
          | assumption
          | omega
          | rfl
          | (with_reducible refine K9 ?_; kernel_rfl)
          | skip)
    | true =>
      rcases S5 50 n with ⟨hn, hnb⟩ | ⟨hn, hnb⟩
      · skip
        simp only [Try.f9, Option.some.injEq] at hc
        subst hc
        refine Hy 9 (of_decide_eq_true (by kernel_rfl)) ?_
        (sym =>
         simp [hf,hsb,hset,hnb,G8,Ha,G9,Hb,G7,G6,K1.eq_def,con_HitMissing.eq_def,K6.eq_def,Gp.eq_def,Gn.eq_def,K0.eq_def,K7.eq_def,K3.eq_def,Za,Zb,Zc,Zd,Ze,Zf,Zg,Zh,Zi,Zj,Zk,Zl,Zm,Zn,Zo,Zp,Zq,Zr,Zs,Zt,Zv,Zx,Z2,Z6,Z7,Z8,Z9,Qa,Qb,Qc,Qd,Qe,Qi,Qj,Qk,Ql,Qm,Qn,Qo,Qp,Qv,Qw,Qy,Qz,Q0,Q1,Q2,Q3,Q8,Ja,Jb,Jc,Jd,Je,Jl,Jp,Jq,Jr,Js,Jt,Ju,Jx,Jy,Jz,J0,J1,J2,J3,J4,J5,J6,J7,J8,Xb,Xc,Xd,Xe,Xf,Xg,Xh,Xi,Xj,Xk,Xl,Xm,Xn,Xo,Xp,Xq,Xs,Xt,Xu,Xv,Xw,Xx,Xy,Xz,X0,X1,X2,X3,X4,X5,X6,X7,X8,X9,Wa,Wb,Wc,Wd,We,Wf,Wg,Wh,Wi,Wj,Wl,Wm,Wn,Wo,Wp,Wq,Wr,Ws,Wt,Wu,Wv,Ww,Wx,Wy,Wz,W0,W1,W2,W3,W4,W5,W6,W7,W8,Yb,Yc,Yd,Ye,Yf,Yg,Yh,Yi,Yj,Yk,Yl,Ym,Yn,Yo,Yp,Yq,Yr,Ys,Yt,Yu,Yv,Yw,Yx,Yy,Yz,Y0,Y1,Y2,Y3,Y4,Y5,Y6,Y7,Y8,Y9,Va,Vb,Vc,Vd,Ve,Vf,Vg,Vh,Vi,Vj,Vk,Vl,Vm,Vn,Vo,Vp,Vq,Vr,Vs,Vt,Vu,Vv,Vw,Vx,Vy,Vz,V0,V1,V3,V4,V5,V6,V7,V8,V9,Ua,Ub,Uc,Ud,Ue,Uf,Ul,Um,Uq,Ur,Us,Ut,Uu,Uv,Uw,Ux,Uy,Uz,U0,U1,U3,U4,U5,U6,U7,U8,U9,Ka,Kb,Kc,Kd,Ke,Kf,Kg,Kh,Ki,Kj,Kk,Kl,Km,Kn,Ko,Kq,Kr,Ks,Kt,Ga,G5,K8,Kz]
         tactic =>
          try simp only [K2] at *
          try simp only [nc2] at *
          try simp (maxSteps := 4000000) only [hf,hsb,hset,hnb,Gg]
          repeat' (first | with_reducible assumption | with_reducible refine And.intro ?_ ?_ | intro _ | omega | (rw [Ku]; omega))
          all_goals first
            | assumption
            | omega
            | rfl
            | (with_reducible refine K9 ?_; kernel_rfl)
            | skip)
      obtain ⟨h6, hlen, hsets⟩ := few_rs6 (by omega) hf
      have hst := Rq.1 hset
      have hm1 := miss_rw (l := l) (n := n) (by omega) (by omega)
      have hml := P3 (l := l) (n := n)
      have hmm : (N4 (N4 l n) n).length = l.length := by rw [P3, P3]
      have hfe := fun h => hitM_eq (n := n) hsets hst h
      have hne : ((l.length : Int) != (l.length : Int)) = false := bne_self_eq_false _
      have hat1 : ∀ i, i < l.length → el ((N4 l n).map (enc : Sl Int → D)) i = enc (Sl.mk (Sr (l.getD i ⟨[]⟩).l n)) := fun i hi => by
        rw [Hd (⟨[]⟩ : Sl Int) (by rw [P3]; exact hi), missL_at hi]
      have hat2 : ∀ i, i < l.length → el ((N4 (N4 l n) n).map (enc : Sl Int → D)) i = enc (Sl.mk (Sr (Sr (l.getD i ⟨[]⟩).l n) n)) := fun i hi => by
        rw [Hd (⟨[]⟩ : Sl Int) (by rw [P3, P3]; exact hi), missL_at (by rw [P3]; exact hi), missL_at hi]
      have hl12 := h6.2
      have hml6 : (N4 l n).length ≤ 1000000 := by omega
      obtain ⟨M, hM⟩ : ∃ M, N4 l n = M := ⟨_, rfl⟩
      rw [hM] at hm1 hml hmm hat1 hat2 hml6
      obtain ⟨B, hB⟩ : ∃ B, N4 M n = B := ⟨_, rfl⟩
      rw [hB] at hmm hat2
      simp only [Try.f9, Option.some.injEq] at hc
      subst hc
      refine Hy 9 (of_decide_eq_true (by kernel_rfl)) ?_
      (sym =>
       simp [hf,hsb,hset,hnb,hM,hB,hml,hmm,hne,G8,Ha,G9,Hb,G7,G6,K1.eq_def,con_HitMissing.eq_def,K6.eq_def,Gp.eq_def,Gn.eq_def,K0.eq_def,K7.eq_def,K3.eq_def,Za,Zb,Zc,Zd,Ze,Zf,Zg,Zh,Zi,Zj,Zk,Zl,Zm,Zn,Zo,Zp,Zq,Zr,Zs,Zt,Zv,Zx,Z2,Z6,Z7,Z8,Z9,Qa,Qb,Qc,Qd,Qe,Qi,Qj,Qk,Ql,Qm,Qn,Qo,Qp,Qv,Qw,Qy,Qz,Q0,Q1,Q2,Q3,Q8,Ja,Jb,Jc,Jd,Je,Jl,Jp,Jq,Jr,Js,Jt,Ju,Jx,Jy,Jz,J0,J1,J2,J3,J4,J5,J6,J7,J8,Xb,Xc,Xd,Xe,Xf,Xg,Xh,Xi,Xj,Xk,Xl,Xm,Xn,Xo,Xp,Xq,Xs,Xt,Xu,Xv,Xw,Xx,Xy,Xz,X0,X1,X2,X3,X4,X5,X6,X7,X8,X9,Wa,Wb,Wc,Wd,We,Wf,Wg,Wh,Wi,Wj,Wl,Wm,Wn,Wo,Wp,Wq,Wr,Ws,Wt,Wu,Wv,Ww,Wx,Wy,Wz,W0,W1,W2,W3,W4,W5,W6,W7,W8,Yb,Yc,Yd,Ye,Yf,Yg,Yh,Yi,Yj,Yk,Yl,Ym,Yn,Yo,Yp,Yq,Yr,Ys,Yt,Yu,Yv,Yw,Yx,Yy,Yz,Y0,Y1,Y2,Y3,Y4,Y5,Y6,Y7,Y8,Y9,Va,Vb,Vc,Vd,Ve,Vf,Vg,Vh,Vi,Vj,Vk,Vl,Vm,Vn,Vo,Vp,Vq,Vr,Vs,Vt,Vu,Vv,Vw,Vx,Vy,Vz,V0,V1,V3,V4,V5,V6,V7,V8,V9,Ua,Ub,Uc,Ud,Ue,Uf,Ul,Um,Uq,Ur,Us,Ut,Uu,Uv,Uw,Ux,Uy,Uz,U0,U1,U3,U4,U5,U6,U7,U8,U9,Ka,Kb,Kc,Kd,Ke,Kf,Kg,Kh,Ki,Kj,Kk,Kl,Km,Kn,Ko,Kq,Kr,Ks,Kt,Ga,G5,K8,Kz]
       tactic =>
        try simp only [K2] at *
        try simp only [nc2] at *
        try simp (maxSteps := 4000000) only [hf,hsb,hset,hnb,hM,hB,hml,hmm,hne,Gg]
        repeat' (first | with_reducible assumption | with_reducible refine And.intro ?_ ?_ | intro _ | omega | (rw [Ku]; omega))
        all_goals first
          | (with_reducible refine K9 ?_; kernel_rfl)
          | assumption
          | omega
          | skip
        refine Gi [51, 52, 53, 54, 55, 56, 57, 58, 59, 60, 61, 62, 63, 64, 65, 66, 67, 68, 69, 70, 71, 72] (fun i : Nat => [(10, .d (.int .i64 i)), (9, .d (.bool (insP s n i)))]) (fun i : Nat => []) (fun i : Nat => i ≤ s.length) (fun i : Nat => s.length - i) 0 ?_ ?_ ?_
        · exact Nat.zero_le _
        · ((try simp only [Kv, Ky, Kx, K4, upd, K5, Gb, Gs, Nat.reduceDiv, Nat.reduceMod, Nat.reduceMul, Nat.reduceAdd, Nat.reduceEqDiff, List.set_cons_zero, List.set_cons_succ, if_true, if_false, reduceIte]); (first | refine Wk.of_fl ?_ | skip); simp only [Wk, wkK, Gy, wkT, wk1, AV.kept, keptAll, wkO, lk, Kw, and_true, true_and, and_self, Nat.reduceEqDiff, Nat.reduceLeDiff, if_true, if_false, reduceIte, reduceCtorEq, Option.isSome, false_implies]; try simp [Wk, wkK, wkT, wk1, AV.kept, keptAll, wkO, lk, Kw, insP])
        rintro i hi
        rcases Gl i s.length with ⟨hil, hib⟩ | ⟨hil, hib⟩
        · have q1 := Hd (0 : Int) hil
          have hsucc := insP_succ (n := n) hil
          obtain ⟨x, hx⟩ : ∃ x, s.getD i 0 = x := ⟨_, rfl⟩
          rw [hx] at q1 hsucc
          obtain ⟨v, hv⟩ : ∃ v, insP s n i = v := ⟨_, rfl⟩
          rw [hv] at hsucc ⊢
          obtain ⟨v1, hv1⟩ : ∃ v, leB 1 x = v := ⟨_, rfl⟩
          obtain ⟨v2, hv2⟩ : ∃ v, leB x n = v := ⟨_, rfl⟩
          rw [hv1, hv2] at hsucc
          cases v with
          | false =>
            rw [Bool.false_and] at hsucc
            (sym =>
             simp [hib,q1,hv1,hv2,G8,Ha,G9,Hb,G7,G6,K1.eq_def,con_HitMissing.eq_def,K6.eq_def,Gp.eq_def,Gn.eq_def,K0.eq_def,K7.eq_def,K3.eq_def,Za,Zb,Zc,Zd,Ze,Zf,Zg,Zh,Zi,Zj,Zk,Zl,Zm,Zn,Zo,Zp,Zq,Zr,Zs,Zt,Zv,Zx,Z2,Z6,Z7,Z8,Z9,Qa,Qb,Qc,Qd,Qe,Qi,Qj,Qk,Ql,Qm,Qn,Qo,Qp,Qv,Qw,Qy,Qz,Q0,Q1,Q2,Q3,Q8,Ja,Jb,Jc,Jd,Je,Jl,Jp,Jq,Jr,Js,Jt,Ju,Jx,Jy,Jz,J0,J1,J2,J3,J4,J5,J6,J7,J8,Xb,Xc,Xd,Xe,Xf,Xg,Xh,Xi,Xj,Xk,Xl,Xm,Xn,Xo,Xp,Xq,Xs,Xt,Xu,Xv,Xw,Xx,Xy,Xz,X0,X1,X2,X3,X4,X5,X6,X7,X8,X9,Wa,Wb,Wc,Wd,We,Wf,Wg,Wh,Wi,Wj,Wl,Wm,Wn,Wo,Wp,Wq,Wr,Ws,Wt,Wu,Wv,Ww,Wx,Wy,Wz,W0,W1,W2,W3,W4,W5,W6,W7,W8,Yb,Yc,Yd,Ye,Yf,Yg,Yh,Yi,Yj,Yk,Yl,Ym,Yn,Yo,Yp,Yq,Yr,Ys,Yt,Yu,Yv,Yw,Yx,Yy,Yz,Y0,Y1,Y2,Y3,Y4,Y5,Y6,Y7,Y8,Y9,Va,Vb,Vc,Vd,Ve,Vf,Vg,Vh,Vi,Vj,Vk,Vl,Vm,Vn,Vo,Vp,Vq,Vr,Vs,Vt,Vu,Vv,Vw,Vx,Vy,Vz,V0,V1,V3,V4,V5,V6,V7,V8,V9,Ua,Ub,Uc,Ud,Ue,Uf,Ul,Um,Uq,Ur,Us,Ut,Uu,Uv,Uw,Ux,Uy,Uz,U0,U1,U3,U4,U5,U6,U7,U8,U9,Ka,Kb,Kc,Kd,Ke,Kf,Kg,Kh,Ki,Kj,Kk,Kl,Km,Kn,Ko,Kq,Kr,Ks,Kt,Ga,G5,K8,Kz]
             tactic =>
              try simp only [K2] at *
              try simp only [nc2] at *
              try simp (maxSteps := 4000000) only [hib,q1,hv1,hv2,Gg]
              repeat' (first | with_reducible assumption | with_reducible refine And.intro ?_ ?_ | intro _ | omega | (rw [Ku]; omega))
              all_goals first
                | omega
                | exact ⟨i + 1, by rw [hsucc]; ((try simp only [Kv, Ky, Kx, K4, upd, K5, Gb, Gs, Nat.reduceDiv, Nat.reduceMod, Nat.reduceMul, Nat.reduceAdd, Nat.reduceEqDiff, List.set_cons_zero, List.set_cons_succ, if_true, if_false, reduceIte]); (first | refine Wk.of_fl ?_ | skip); simp only [Wk, wkK, Gy, wkT, wk1, AV.kept, keptAll, wkO, lk, Kw, and_true, true_and, and_self, Nat.reduceEqDiff, Nat.reduceLeDiff, if_true, if_false, reduceIte, reduceCtorEq, Option.isSome, false_implies]; try simp [Wk, wkK, wkT, wk1, AV.kept, keptAll, wkO, lk, Kw]), by omega, by omega⟩
                | skip)
          | true =>
            rw [Bool.true_and] at hsucc
            cases v1 with
            | false =>
              rw [Bool.false_and] at hsucc
              (sym =>
               simp [hib,q1,hv1,hv2,G8,Ha,G9,Hb,G7,G6,K1.eq_def,con_HitMissing.eq_def,K6.eq_def,Gp.eq_def,Gn.eq_def,K0.eq_def,K7.eq_def,K3.eq_def,Za,Zb,Zc,Zd,Ze,Zf,Zg,Zh,Zi,Zj,Zk,Zl,Zm,Zn,Zo,Zp,Zq,Zr,Zs,Zt,Zv,Zx,Z2,Z6,Z7,Z8,Z9,Qa,Qb,Qc,Qd,Qe,Qi,Qj,Qk,Ql,Qm,Qn,Qo,Qp,Qv,Qw,Qy,Qz,Q0,Q1,Q2,Q3,Q8,Ja,Jb,Jc,Jd,Je,Jl,Jp,Jq,Jr,Js,Jt,Ju,Jx,Jy,Jz,J0,J1,J2,J3,J4,J5,J6,J7,J8,Xb,Xc,Xd,Xe,Xf,Xg,Xh,Xi,Xj,Xk,Xl,Xm,Xn,Xo,Xp,Xq,Xs,Xt,Xu,Xv,Xw,Xx,Xy,Xz,X0,X1,X2,X3,X4,X5,X6,X7,X8,X9,Wa,Wb,Wc,Wd,We,Wf,Wg,Wh,Wi,Wj,Wl,Wm,Wn,Wo,Wp,Wq,Wr,Ws,Wt,Wu,Wv,Ww,Wx,Wy,Wz,W0,W1,W2,W3,W4,W5,W6,W7,W8,Yb,Yc,Yd,Ye,Yf,Yg,Yh,Yi,Yj,Yk,Yl,Ym,Yn,Yo,Yp,Yq,Yr,Ys,Yt,Yu,Yv,Yw,Yx,Yy,Yz,Y0,Y1,Y2,Y3,Y4,Y5,Y6,Y7,Y8,Y9,Va,Vb,Vc,Vd,Ve,Vf,Vg,Vh,Vi,Vj,Vk,Vl,Vm,Vn,Vo,Vp,Vq,Vr,Vs,Vt,Vu,Vv,Vw,Vx,Vy,Vz,V0,V1,V3,V4,V5,V6,V7,V8,V9,Ua,Ub,Uc,Ud,Ue,Uf,Ul,Um,Uq,Ur,Us,Ut,Uu,Uv,Uw,Ux,Uy,Uz,U0,U1,U3,U4,U5,U6,U7,U8,U9,Ka,Kb,Kc,Kd,Ke,Kf,Kg,Kh,Ki,Kj,Kk,Kl,Km,Kn,Ko,Kq,Kr,Ks,Kt,Ga,G5,K8,Kz]
               tactic =>
                try simp only [K2] at *
                try simp only [nc2] at *
                try simp (maxSteps := 4000000) only [hib,q1,hv1,hv2,Gg]
                repeat' (first | with_reducible assumption | with_reducible refine And.intro ?_ ?_ | intro _ | omega | (rw [Ku]; omega))
                all_goals first
                  | omega
                  | exact ⟨i + 1, by rw [hsucc]; ((try simp only [Kv, Ky, Kx, K4, upd, K5, Gb, Gs, Nat.reduceDiv, Nat.reduceMod, Nat.reduceMul, Nat.reduceAdd, Nat.reduceEqDiff, List.set_cons_zero, List.set_cons_succ, if_true, if_false, reduceIte]); (first | refine Wk.of_fl ?_ | skip); simp only [Wk, wkK, Gy, wkT, wk1, AV.kept, keptAll, wkO, lk, Kw, and_true, true_and, and_self, Nat.reduceEqDiff, Nat.reduceLeDiff, if_true, if_false, reduceIte, reduceCtorEq, Option.isSome, false_implies]; try simp [Wk, wkK, wkT, wk1, AV.kept, keptAll, wkO, lk, Kw]), by omega, by omega⟩
                  | skip)
            | true =>
              rw [Bool.true_and] at hsucc
              (sym =>
               simp [hib,q1,hv1,hv2,G8,Ha,G9,Hb,G7,G6,K1.eq_def,con_HitMissing.eq_def,K6.eq_def,Gp.eq_def,Gn.eq_def,K0.eq_def,K7.eq_def,K3.eq_def,Za,Zb,Zc,Zd,Ze,Zf,Zg,Zh,Zi,Zj,Zk,Zl,Zm,Zn,Zo,Zp,Zq,Zr,Zs,Zt,Zv,Zx,Z2,Z6,Z7,Z8,Z9,Qa,Qb,Qc,Qd,Qe,Qi,Qj,Qk,Ql,Qm,Qn,Qo,Qp,Qv,Qw,Qy,Qz,Q0,Q1,Q2,Q3,Q8,Ja,Jb,Jc,Jd,Je,Jl,Jp,Jq,Jr,Js,Jt,Ju,Jx,Jy,Jz,J0,J1,J2,J3,J4,J5,J6,J7,J8,Xb,Xc,Xd,Xe,Xf,Xg,Xh,Xi,Xj,Xk,Xl,Xm,Xn,Xo,Xp,Xq,Xs,Xt,Xu,Xv,Xw,Xx,Xy,Xz,X0,X1,X2,X3,X4,X5,X6,X7,X8,X9,Wa,Wb,Wc,Wd,We,Wf,Wg,Wh,Wi,Wj,Wl,Wm,Wn,Wo,Wp,Wq,Wr,Ws,Wt,Wu,Wv,Ww,Wx,Wy,Wz,W0,W1,W2,W3,W4,W5,W6,W7,W8,Yb,Yc,Yd,Ye,Yf,Yg,Yh,Yi,Yj,Yk,Yl,Ym,Yn,Yo,Yp,Yq,Yr,Ys,Yt,Yu,Yv,Yw,Yx,Yy,Yz,Y0,Y1,Y2,Y3,Y4,Y5,Y6,Y7,Y8,Y9,Va,Vb,Vc,Vd,Ve,Vf,Vg,Vh,Vi,Vj,Vk,Vl,Vm,Vn,Vo,Vp,Vq,Vr,Vs,Vt,Vu,Vv,Vw,Vx,Vy,Vz,V0,V1,V3,V4,V5,V6,V7,V8,V9,Ua,Ub,Uc,Ud,Ue,Uf,Ul,Um,Uq,Ur,Us,Ut,Uu,Uv,Uw,Ux,Uy,Uz,U0,U1,U3,U4,U5,U6,U7,U8,U9,Ka,Kb,Kc,Kd,Ke,Kf,Kg,Kh,Ki,Kj,Kk,Kl,Km,Kn,Ko,Kq,Kr,Ks,Kt,Ga,G5,K8,Kz]
               tactic =>
                try simp only [K2] at *
                try simp only [nc2] at *
                try simp (maxSteps := 4000000) only [hib,q1,hv1,hv2,Gg]
                repeat' (first | with_reducible assumption | with_reducible refine And.intro ?_ ?_ | intro _ | omega | (rw [Ku]; omega))
                all_goals first
                  | omega
                  | exact ⟨i + 1, by rw [hsucc]; ((try simp only [Kv, Ky, Kx, K4, upd, K5, Gb, Gs, Nat.reduceDiv, Nat.reduceMod, Nat.reduceMul, Nat.reduceAdd, Nat.reduceEqDiff, List.set_cons_zero, List.set_cons_succ, if_true, if_false, reduceIte]); (first | refine Wk.of_fl ?_ | skip); simp only [Wk, wkK, Gy, wkT, wk1, AV.kept, keptAll, wkO, lk, Kw, and_true, true_and, and_self, Nat.reduceEqDiff, Nat.reduceLeDiff, if_true, if_false, reduceIte, reduceCtorEq, Option.isSome, false_implies]; try simp [Wk, wkK, wkT, wk1, AV.kept, keptAll, wkO, lk, Kw]), by omega, by omega⟩
                  | skip)
        · have hie : i = s.length := by omega
          rw [hie]
          have hib' : ltB (s.length : Int) (s.length : Int) = false := by rw [Hg]; omega
          obtain ⟨vin, hvin⟩ : ∃ v, insP s n s.length = v := ⟨_, rfl⟩
          rw [hvin]
          (sym =>
           simp [hib',G8,Ha,G9,Hb,G7,G6,K1.eq_def,con_HitMissing.eq_def,K6.eq_def,Gp.eq_def,Gn.eq_def,K0.eq_def,K7.eq_def,K3.eq_def,Za,Zb,Zc,Zd,Ze,Zf,Zg,Zh,Zi,Zj,Zk,Zl,Zm,Zn,Zo,Zp,Zq,Zr,Zs,Zt,Zv,Zx,Z2,Z6,Z7,Z8,Z9,Qa,Qb,Qc,Qd,Qe,Qi,Qj,Qk,Ql,Qm,Qn,Qo,Qp,Qv,Qw,Qy,Qz,Q0,Q1,Q2,Q3,Q8,Ja,Jb,Jc,Jd,Je,Jl,Jp,Jq,Jr,Js,Jt,Ju,Jx,Jy,Jz,J0,J1,J2,J3,J4,J5,J6,J7,J8,Xb,Xc,Xd,Xe,Xf,Xg,Xh,Xi,Xj,Xk,Xl,Xm,Xn,Xo,Xp,Xq,Xs,Xt,Xu,Xv,Xw,Xx,Xy,Xz,X0,X1,X2,X3,X4,X5,X6,X7,X8,X9,Wa,Wb,Wc,Wd,We,Wf,Wg,Wh,Wi,Wj,Wl,Wm,Wn,Wo,Wp,Wq,Wr,Ws,Wt,Wu,Wv,Ww,Wx,Wy,Wz,W0,W1,W2,W3,W4,W5,W6,W7,W8,Yb,Yc,Yd,Ye,Yf,Yg,Yh,Yi,Yj,Yk,Yl,Ym,Yn,Yo,Yp,Yq,Yr,Ys,Yt,Yu,Yv,Yw,Yx,Yy,Yz,Y0,Y1,Y2,Y3,Y4,Y5,Y6,Y7,Y8,Y9,Va,Vb,Vc,Vd,Ve,Vf,Vg,Vh,Vi,Vj,Vk,Vl,Vm,Vn,Vo,Vp,Vq,Vr,Vs,Vt,Vu,Vv,Vw,Vx,Vy,Vz,V0,V1,V3,V4,V5,V6,V7,V8,V9,Ua,Ub,Uc,Ud,Ue,Uf,Ul,Um,Uq,Ur,Us,Ut,Uu,Uv,Uw,Ux,Uy,Uz,U0,U1,U3,U4,U5,U6,U7,U8,U9,Ka,Kb,Kc,Kd,Ke,Kf,Kg,Kh,Ki,Kj,Kk,Kl,Km,Kn,Ko,Kq,Kr,Ks,Kt,Ga,G5,K8,Kz]
           tactic =>
            try simp only [K2] at *
            try simp only [nc2] at *
            try simp (maxSteps := 4000000) only [hib',Gg]
            repeat' (first | with_reducible assumption | with_reducible refine And.intro ?_ ?_ | intro _ | omega | (rw [Ku]; omega))
            all_goals first
              | (with_reducible refine K9 ?_; kernel_rfl)
              | assumption
              | omega
              | skip
            refine Gi [6, 13, 14, 73, 74, 75, 76, 77, 78, 79, 80, 81, 82, 83, 84, 85, 86, 87, 88, 89, 90, 91, 92, 93, 94, 95, 96, 97, 98, 99, 100, 101, 102, 103, 104, 105, 106, 107, 108, 109, 110, 111, 112, 113, 114, 115, 116, 117, 118, 119, 120, 121, 122, 123, 124, 125, 126, 127, 128, 129, 130, 131, 132] (fun i : Nat => [(12, .d (.int .i64 i)), (11, .d (.bool (hitM l s n i)))]) (fun i : Nat => []) (fun i : Nat => i ≤ l.length) (fun i : Nat => l.length - i) 0 ?_ ?_ ?_
            · exact Nat.zero_le _
            · ((try simp only [Kv, Ky, Kx, K4, upd, K5, Gb, Gs, Nat.reduceDiv, Nat.reduceMod, Nat.reduceMul, Nat.reduceAdd, Nat.reduceEqDiff, List.set_cons_zero, List.set_cons_succ, if_true, if_false, reduceIte]); (first | refine Wk.of_fl ?_ | skip); simp only [Wk, wkK, Gy, wkT, wk1, AV.kept, keptAll, wkO, lk, Kw, and_true, true_and, and_self, Nat.reduceEqDiff, Nat.reduceLeDiff, if_true, if_false, reduceIte, reduceCtorEq, Option.isSome, false_implies]; try simp [Wk, wkK, wkT, wk1, AV.kept, keptAll, wkO, lk, Kw, hitM])
            clear hi hil hib hie
            rintro j hj
            rcases Gl j l.length with ⟨hjl, hjb⟩ | ⟨hjl, hjb⟩
            · have q1 := Hd (⟨[]⟩ : Sl Int) hjl
              have q2 := hat1 j hjl
              have q3 := hat2 j hjl
              have hsucc := hitM_succ (s := s) (n := n) hjl
              have htl := hl12 j
              have hts := hsets _ (at_mem hjl)
              obtain ⟨⟨t⟩, ht⟩ : ∃ x, l.getD j ⟨[]⟩ = x := ⟨_, rfl⟩
              rw [ht] at q1 q2 q3 hsucc htl hts
              simp only at q2 q3 hsucc htl hts
              have hbl := missB_len t (n := n) (by omega)
              have hbl2 := missB_len (Sr t n) (n := n) (by omega)
              have hmb := miss_miss (t := t) (n := n) hts
              obtain ⟨b1, hb1⟩ : ∃ b, Sr t n = b := ⟨_, rfl⟩
              rw [hb1] at q2 q3 hsucc hbl hbl2 hmb
              obtain ⟨b2, hb2⟩ : ∃ b, Sr b1 n = b := ⟨_, rfl⟩
              rw [hb2] at q3 hbl2 hmb
              (sym =>
               simp [hjb,q1,G8,Ha,G9,Hb,G7,G6,K1.eq_def,con_HitMissing.eq_def,K6.eq_def,Gp.eq_def,Gn.eq_def,K0.eq_def,K7.eq_def,K3.eq_def,Za,Zb,Zc,Zd,Ze,Zf,Zg,Zh,Zi,Zj,Zk,Zl,Zm,Zn,Zo,Zp,Zq,Zr,Zs,Zt,Zv,Zx,Z2,Z6,Z7,Z8,Z9,Qa,Qb,Qc,Qd,Qe,Qi,Qj,Qk,Ql,Qm,Qn,Qo,Qp,Qv,Qw,Qy,Qz,Q0,Q1,Q2,Q3,Q8,Ja,Jb,Jc,Jd,Je,Jl,Jp,Jq,Jr,Js,Jt,Ju,Jx,Jy,Jz,J0,J1,J2,J3,J4,J5,J6,J7,J8,Xb,Xc,Xd,Xe,Xf,Xg,Xh,Xi,Xj,Xk,Xl,Xm,Xn,Xo,Xp,Xq,Xs,Xt,Xu,Xv,Xw,Xx,Xy,Xz,X0,X1,X2,X3,X4,X5,X6,X7,X8,X9,Wa,Wb,Wc,Wd,We,Wf,Wg,Wh,Wi,Wj,Wl,Wm,Wn,Wo,Wp,Wq,Wr,Ws,Wt,Wu,Wv,Ww,Wx,Wy,Wz,W0,W1,W2,W3,W4,W5,W6,W7,W8,Yb,Yc,Yd,Ye,Yf,Yg,Yh,Yi,Yj,Yk,Yl,Ym,Yn,Yo,Yp,Yq,Yr,Ys,Yt,Yu,Yv,Yw,Yx,Yy,Yz,Y0,Y1,Y2,Y3,Y4,Y5,Y6,Y7,Y8,Y9,Va,Vb,Vc,Vd,Ve,Vf,Vg,Vh,Vi,Vj,Vk,Vl,Vm,Vn,Vo,Vp,Vq,Vr,Vs,Vt,Vu,Vv,Vw,Vx,Vy,Vz,V0,V1,V3,V4,V5,V6,V7,V8,V9,Ua,Ub,Uc,Ud,Ue,Uf,Ul,Um,Uq,Ur,Us,Ut,Uu,Uv,Uw,Ux,Uy,Uz,U0,U1,U3,U4,U5,U6,U7,U8,U9,Ka,Kb,Kc,Kd,Ke,Kf,Kg,Kh,Ki,Kj,Kk,Kl,Km,Kn,Ko,Kq,Kr,Ks,Kt,Ga,G5,K8,Kz]
               tactic =>
                try simp only [K2] at *
                try simp only [nc2] at *
                try simp (maxSteps := 4000000) only [hjb,q1,Gg]
                repeat' (first | with_reducible assumption | with_reducible refine And.intro ?_ ?_ | intro _ | omega | (rw [Ku]; omega))
                all_goals first
                  | (with_reducible refine K9 ?_; kernel_rfl)
                  | assumption
                  | omega
                  | skip
                refine Gi [79, 80, 81, 82, 83, 84, 85, 86, 87, 88, 89, 90, 91, 92, 93, 94, 95, 96, 97, 98, 99, 100, 101, 102, 103, 104, 105, 106, 107, 108, 109] (fun k : Nat => [(14, .d (.int .i64 k)), (13, .d (.bool (insP t n k)))]) (fun k : Nat => []) (fun k : Nat => k ≤ t.length) (fun k : Nat => t.length - k) 0 ?_ ?_ ?_
                · exact Nat.zero_le _
                · ((try simp only [Kv, Ky, Kx, K4, upd, K5, Gb, Gs, Nat.reduceDiv, Nat.reduceMod, Nat.reduceMul, Nat.reduceAdd, Nat.reduceEqDiff, List.set_cons_zero, List.set_cons_succ, if_true, if_false, reduceIte]); (first | refine Wk.of_fl ?_ | skip); simp only [Wk, wkK, Gy, wkT, wk1, AV.kept, keptAll, wkO, lk, Kw, and_true, true_and, and_self, Nat.reduceEqDiff, Nat.reduceLeDiff, if_true, if_false, reduceIte, reduceCtorEq, Option.isSome, false_implies]; try simp [Wk, wkK, wkT, wk1, AV.kept, keptAll, wkO, lk, Kw, insP])
                rintro k hk
                rcases Gl k t.length with ⟨hkl, hkb⟩ | ⟨hkl, hkb⟩
                · have f1 := Hd (0 : Int) hkl
                  have hsu := insP_succ (n := n) hkl
                  obtain ⟨x, hx⟩ : ∃ x, t.getD k 0 = x := ⟨_, rfl⟩
                  rw [hx] at f1 hsu
                  obtain ⟨v, hv⟩ : ∃ v, insP t n k = v := ⟨_, rfl⟩
                  rw [hv] at hsu ⊢
                  obtain ⟨v1, hv1⟩ : ∃ v, leB 1 x = v := ⟨_, rfl⟩
                  obtain ⟨v2, hv2⟩ : ∃ v, leB x n = v := ⟨_, rfl⟩
                  rw [hv1, hv2] at hsu
                  cases v with
                  | false =>
                    rw [Bool.false_and] at hsu
                    (sym =>
                     simp [hjb,q1,hkb,f1,hv1,hv2,G8,Ha,G9,Hb,G7,G6,K1.eq_def,con_HitMissing.eq_def,K6.eq_def,Gp.eq_def,Gn.eq_def,K0.eq_def,K7.eq_def,K3.eq_def,Za,Zb,Zc,Zd,Ze,Zf,Zg,Zh,Zi,Zj,Zk,Zl,Zm,Zn,Zo,Zp,Zq,Zr,Zs,Zt,Zv,Zx,Z2,Z6,Z7,Z8,Z9,Qa,Qb,Qc,Qd,Qe,Qi,Qj,Qk,Ql,Qm,Qn,Qo,Qp,Qv,Qw,Qy,Qz,Q0,Q1,Q2,Q3,Q8,Ja,Jb,Jc,Jd,Je,Jl,Jp,Jq,Jr,Js,Jt,Ju,Jx,Jy,Jz,J0,J1,J2,J3,J4,J5,J6,J7,J8,Xb,Xc,Xd,Xe,Xf,Xg,Xh,Xi,Xj,Xk,Xl,Xm,Xn,Xo,Xp,Xq,Xs,Xt,Xu,Xv,Xw,Xx,Xy,Xz,X0,X1,X2,X3,X4,X5,X6,X7,X8,X9,Wa,Wb,Wc,Wd,We,Wf,Wg,Wh,Wi,Wj,Wl,Wm,Wn,Wo,Wp,Wq,Wr,Ws,Wt,Wu,Wv,Ww,Wx,Wy,Wz,W0,W1,W2,W3,W4,W5,W6,W7,W8,Yb,Yc,Yd,Ye,Yf,Yg,Yh,Yi,Yj,Yk,Yl,Ym,Yn,Yo,Yp,Yq,Yr,Ys,Yt,Yu,Yv,Yw,Yx,Yy,Yz,Y0,Y1,Y2,Y3,Y4,Y5,Y6,Y7,Y8,Y9,Va,Vb,Vc,Vd,Ve,Vf,Vg,Vh,Vi,Vj,Vk,Vl,Vm,Vn,Vo,Vp,Vq,Vr,Vs,Vt,Vu,Vv,Vw,Vx,Vy,Vz,V0,V1,V3,V4,V5,V6,V7,V8,V9,Ua,Ub,Uc,Ud,Ue,Uf,Ul,Um,Uq,Ur,Us,Ut,Uu,Uv,Uw,Ux,Uy,Uz,U0,U1,U3,U4,U5,U6,U7,U8,U9,Ka,Kb,Kc,Kd,Ke,Kf,Kg,Kh,Ki,Kj,Kk,Kl,Km,Kn,Ko,Kq,Kr,Ks,Kt,Ga,G5,K8,Kz]
                     tactic =>
                      try simp only [K2] at *
                      try simp only [nc2] at *
                      try simp (maxSteps := 4000000) only [hjb,q1,hkb,f1,hv1,hv2,Gg]
                      repeat' (first | with_reducible assumption | with_reducible refine And.intro ?_ ?_ | intro _ | omega | (rw [Ku]; omega))
                      all_goals first
                        | omega
                        | exact ⟨k + 1, by rw [hsu]; ((try simp only [Kv, Ky, Kx, K4, upd, K5, Gb, Gs, Nat.reduceDiv, Nat.reduceMod, Nat.reduceMul, Nat.reduceAdd, Nat.reduceEqDiff, List.set_cons_zero, List.set_cons_succ, if_true, if_false, reduceIte]); (first | refine Wk.of_fl ?_ | skip); simp only [Wk, wkK, Gy, wkT, wk1, AV.kept, keptAll, wkO, lk, Kw, and_true, true_and, and_self, Nat.reduceEqDiff, Nat.reduceLeDiff, if_true, if_false, reduceIte, reduceCtorEq, Option.isSome, false_implies]; try simp [Wk, wkK, wkT, wk1, AV.kept, keptAll, wkO, lk, Kw]), by omega, by omega⟩
                        | skip)
                  | true =>
                    rw [Bool.true_and] at hsu
                    cases v1 with
                    | false =>
                      rw [Bool.false_and] at hsu
                      (sym =>
                       simp [hjb,q1,hkb,f1,hv1,hv2,G8,Ha,G9,Hb,G7,G6,K1.eq_def,con_HitMissing.eq_def,K6.eq_def,Gp.eq_def,Gn.eq_def,K0.eq_def,K7.eq_def,K3.eq_def,Za,Zb,Zc,Zd,Ze,Zf,Zg,Zh,Zi,Zj,Zk,Zl,Zm,Zn,Zo,Zp,Zq,Zr,Zs,Zt,Zv,Zx,Z2,Z6,Z7,Z8,Z9,Qa,Qb,Qc,Qd,Qe,Qi,Qj,Qk,Ql,Qm,Qn,Qo,Qp,Qv,Qw,Qy,Qz,Q0,Q1,Q2,Q3,Q8,Ja,Jb,Jc,Jd,Je,Jl,Jp,Jq,Jr,Js,Jt,Ju,Jx,Jy,Jz,J0,J1,J2,J3,J4,J5,J6,J7,J8,Xb,Xc,Xd,Xe,Xf,Xg,Xh,Xi,Xj,Xk,Xl,Xm,Xn,Xo,Xp,Xq,Xs,Xt,Xu,Xv,Xw,Xx,Xy,Xz,X0,X1,X2,X3,X4,X5,X6,X7,X8,X9,Wa,Wb,Wc,Wd,We,Wf,Wg,Wh,Wi,Wj,Wl,Wm,Wn,Wo,Wp,Wq,Wr,Ws,Wt,Wu,Wv,Ww,Wx,Wy,Wz,W0,W1,W2,W3,W4,W5,W6,W7,W8,Yb,Yc,Yd,Ye,Yf,Yg,Yh,Yi,Yj,Yk,Yl,Ym,Yn,Yo,Yp,Yq,Yr,Ys,Yt,Yu,Yv,Yw,Yx,Yy,Yz,Y0,Y1,Y2,Y3,Y4,Y5,Y6,Y7,Y8,Y9,Va,Vb,Vc,Vd,Ve,Vf,Vg,Vh,Vi,Vj,Vk,Vl,Vm,Vn,Vo,Vp,Vq,Vr,Vs,Vt,Vu,Vv,Vw,Vx,Vy,Vz,V0,V1,V3,V4,V5,V6,V7,V8,V9,Ua,Ub,Uc,Ud,Ue,Uf,Ul,Um,Uq,Ur,Us,Ut,Uu,Uv,Uw,Ux,Uy,Uz,U0,U1,U3,U4,U5,U6,U7,U8,U9,Ka,Kb,Kc,Kd,Ke,Kf,Kg,Kh,Ki,Kj,Kk,Kl,Km,Kn,Ko,Kq,Kr,Ks,Kt,Ga,G5,K8,Kz]
                       tactic =>
                        try simp only [K2] at *
                        try simp only [nc2] at *
                        try simp (maxSteps := 4000000) only [hjb,q1,hkb,f1,hv1,hv2,Gg]
                        repeat' (first | with_reducible assumption | with_reducible refine And.intro ?_ ?_ | intro _ | omega | (rw [Ku]; omega))
                        all_goals first
                          | omega
                          | exact ⟨k + 1, by rw [hsu]; ((try simp only [Kv, Ky, Kx, K4, upd, K5, Gb, Gs, Nat.reduceDiv, Nat.reduceMod, Nat.reduceMul, Nat.reduceAdd, Nat.reduceEqDiff, List.set_cons_zero, List.set_cons_succ, if_true, if_false, reduceIte]); (first | refine Wk.of_fl ?_ | skip); simp only [Wk, wkK, Gy, wkT, wk1, AV.kept, keptAll, wkO, lk, Kw, and_true, true_and, and_self, Nat.reduceEqDiff, Nat.reduceLeDiff, if_true, if_false, reduceIte, reduceCtorEq, Option.isSome, false_implies]; try simp [Wk, wkK, wkT, wk1, AV.kept, keptAll, wkO, lk, Kw]), by omega, by omega⟩
                          | skip)
                    | true =>
                      rw [Bool.true_and] at hsu
                      (sym =>
                       simp [hjb,q1,hkb,f1,hv1,hv2,G8,Ha,G9,Hb,G7,G6,K1.eq_def,con_HitMissing.eq_def,K6.eq_def,Gp.eq_def,Gn.eq_def,K0.eq_def,K7.eq_def,K3.eq_def,Za,Zb,Zc,Zd,Ze,Zf,Zg,Zh,Zi,Zj,Zk,Zl,Zm,Zn,Zo,Zp,Zq,Zr,Zs,Zt,Zv,Zx,Z2,Z6,Z7,Z8,Z9,Qa,Qb,Qc,Qd,Qe,Qi,Qj,Qk,Ql,Qm,Qn,Qo,Qp,Qv,Qw,Qy,Qz,Q0,Q1,Q2,Q3,Q8,Ja,Jb,Jc,Jd,Je,Jl,Jp,Jq,Jr,Js,Jt,Ju,Jx,Jy,Jz,J0,J1,J2,J3,J4,J5,J6,J7,J8,Xb,Xc,Xd,Xe,Xf,Xg,Xh,Xi,Xj,Xk,Xl,Xm,Xn,Xo,Xp,Xq,Xs,Xt,Xu,Xv,Xw,Xx,Xy,Xz,X0,X1,X2,X3,X4,X5,X6,X7,X8,X9,Wa,Wb,Wc,Wd,We,Wf,Wg,Wh,Wi,Wj,Wl,Wm,Wn,Wo,Wp,Wq,Wr,Ws,Wt,Wu,Wv,Ww,Wx,Wy,Wz,W0,W1,W2,W3,W4,W5,W6,W7,W8,Yb,Yc,Yd,Ye,Yf,Yg,Yh,Yi,Yj,Yk,Yl,Ym,Yn,Yo,Yp,Yq,Yr,Ys,Yt,Yu,Yv,Yw,Yx,Yy,Yz,Y0,Y1,Y2,Y3,Y4,Y5,Y6,Y7,Y8,Y9,Va,Vb,Vc,Vd,Ve,Vf,Vg,Vh,Vi,Vj,Vk,Vl,Vm,Vn,Vo,Vp,Vq,Vr,Vs,Vt,Vu,Vv,Vw,Vx,Vy,Vz,V0,V1,V3,V4,V5,V6,V7,V8,V9,Ua,Ub,Uc,Ud,Ue,Uf,Ul,Um,Uq,Ur,Us,Ut,Uu,Uv,Uw,Ux,Uy,Uz,U0,U1,U3,U4,U5,U6,U7,U8,U9,Ka,Kb,Kc,Kd,Ke,Kf,Kg,Kh,Ki,Kj,Kk,Kl,Km,Kn,Ko,Kq,Kr,Ks,Kt,Ga,G5,K8,Kz]
                       tactic =>
                        try simp only [K2] at *
                        try simp only [nc2] at *
                        try simp (maxSteps := 4000000) only [hjb,q1,hkb,f1,hv1,hv2,Gg]
                        repeat' (first | with_reducible assumption | with_reducible refine And.intro ?_ ?_ | intro _ | omega | (rw [Ku]; omega))
                        all_goals first
                          | omega
                          | exact ⟨k + 1, by rw [hsu]; ((try simp only [Kv, Ky, Kx, K4, upd, K5, Gb, Gs, Nat.reduceDiv, Nat.reduceMod, Nat.reduceMul, Nat.reduceAdd, Nat.reduceEqDiff, List.set_cons_zero, List.set_cons_succ, if_true, if_false, reduceIte]); (first | refine Wk.of_fl ?_ | skip); simp only [Wk, wkK, Gy, wkT, wk1, AV.kept, keptAll, wkO, lk, Kw, and_true, true_and, and_self, Nat.reduceEqDiff, Nat.reduceLeDiff, if_true, if_false, reduceIte, reduceCtorEq, Option.isSome, false_implies]; try simp [Wk, wkK, wkT, wk1, AV.kept, keptAll, wkO, lk, Kw]), by omega, by omega⟩
                          | skip)
                · have hke : k = t.length := by omega
                  rw [hke]
                  have hkb' : ltB (t.length : Int) (t.length : Int) = false := by rw [Hg]; omega
                  obtain ⟨vw, hvw⟩ : ∃ v, insP t n t.length = v := ⟨_, rfl⟩
                  rw [hvw]
                  obtain ⟨vh, hvh⟩ : ∃ v, hitM l s n j = v := ⟨_, rfl⟩
                  rw [hvh] at hsucc ⊢
                  obtain ⟨vp, hvp⟩ : ∃ v, Sq s b1 = v := ⟨_, rfl⟩
                  rw [hvp] at hsucc
                  have hbe : vw = true → (b2 == t) = true := by
                    intro h
                    subst h
                    rw [beq_iff_eq]
                    exact hmb (insP_iff.1 hvw)
                  cases vw with
                  | true =>
                    have hbe' := hbe rfl
                    cases vh with
                    | true =>
                      rw [Bool.true_and] at hsucc
                      (sym =>
                       simp [hjb,q1,q2,q3,hkb',hbe',hvp,G8,Ha,G9,Hb,G7,G6,K1.eq_def,con_HitMissing.eq_def,K6.eq_def,Gp.eq_def,Gn.eq_def,K0.eq_def,K7.eq_def,K3.eq_def,Za,Zb,Zc,Zd,Ze,Zf,Zg,Zh,Zi,Zj,Zk,Zl,Zm,Zn,Zo,Zp,Zq,Zr,Zs,Zt,Zv,Zx,Z2,Z6,Z7,Z8,Z9,Qa,Qb,Qc,Qd,Qe,Qi,Qj,Qk,Ql,Qm,Qn,Qo,Qp,Qv,Qw,Qy,Qz,Q0,Q1,Q2,Q3,Q8,Ja,Jb,Jc,Jd,Je,Jl,Jp,Jq,Jr,Js,Jt,Ju,Jx,Jy,Jz,J0,J1,J2,J3,J4,J5,J6,J7,J8,Xb,Xc,Xd,Xe,Xf,Xg,Xh,Xi,Xj,Xk,Xl,Xm,Xn,Xo,Xp,Xq,Xs,Xt,Xu,Xv,Xw,Xx,Xy,Xz,X0,X1,X2,X3,X4,X5,X6,X7,X8,X9,Wa,Wb,Wc,Wd,We,Wf,Wg,Wh,Wi,Wj,Wl,Wm,Wn,Wo,Wp,Wq,Wr,Ws,Wt,Wu,Wv,Ww,Wx,Wy,Wz,W0,W1,W2,W3,W4,W5,W6,W7,W8,Yb,Yc,Yd,Ye,Yf,Yg,Yh,Yi,Yj,Yk,Yl,Ym,Yn,Yo,Yp,Yq,Yr,Ys,Yt,Yu,Yv,Yw,Yx,Yy,Yz,Y0,Y1,Y2,Y3,Y4,Y5,Y6,Y7,Y8,Y9,Va,Vb,Vc,Vd,Ve,Vf,Vg,Vh,Vi,Vj,Vk,Vl,Vm,Vn,Vo,Vp,Vq,Vr,Vs,Vt,Vu,Vv,Vw,Vx,Vy,Vz,V0,V1,V3,V4,V5,V6,V7,V8,V9,Ua,Ub,Uc,Ud,Ue,Uf,Ul,Um,Uq,Ur,Us,Ut,Uu,Uv,Uw,Ux,Uy,Uz,U0,U1,U3,U4,U5,U6,U7,U8,U9,Ka,Kb,Kc,Kd,Ke,Kf,Kg,Kh,Ki,Kj,Kk,Kl,Km,Kn,Ko,Kq,Kr,Ks,Kt,Ga,G5,K8,Kz]
                       tactic =>
                        try simp only [K2] at *
                        try simp only [nc2] at *
                        try simp (maxSteps := 4000000) only [hjb,q1,q2,q3,hkb',hbe',hvp,Gg]
                        repeat' (first | with_reducible assumption | with_reducible refine And.intro ?_ ?_ | intro _ | omega | (rw [Ku]; omega))
                        all_goals first
                          | (with_reducible refine K9 ?_; kernel_rfl)
                          | omega
                          | exact ⟨j + 1, by rw [hsucc]; ((try simp only [Kv, Ky, Kx, K4, upd, K5, Gb, Gs, Nat.reduceDiv, Nat.reduceMod, Nat.reduceMul, Nat.reduceAdd, Nat.reduceEqDiff, List.set_cons_zero, List.set_cons_succ, if_true, if_false, reduceIte]); (first | refine Wk.of_fl ?_ | skip); simp only [Wk, wkK, Gy, wkT, wk1, AV.kept, keptAll, wkO, lk, Kw, and_true, true_and, and_self, Nat.reduceEqDiff, Nat.reduceLeDiff, if_true, if_false, reduceIte, reduceCtorEq, Option.isSome, false_implies]; try simp [Wk, wkK, wkT, wk1, AV.kept, keptAll, wkO, lk, Kw]), by omega, by omega⟩
                          | skip)
                    | false =>
                      rw [Bool.false_and] at hsucc
                      (sym =>
                       simp [hjb,q1,q2,q3,hkb',hbe',hvp,G8,Ha,G9,Hb,G7,G6,K1.eq_def,con_HitMissing.eq_def,K6.eq_def,Gp.eq_def,Gn.eq_def,K0.eq_def,K7.eq_def,K3.eq_def,Za,Zb,Zc,Zd,Ze,Zf,Zg,Zh,Zi,Zj,Zk,Zl,Zm,Zn,Zo,Zp,Zq,Zr,Zs,Zt,Zv,Zx,Z2,Z6,Z7,Z8,Z9,Qa,Qb,Qc,Qd,Qe,Qi,Qj,Qk,Ql,Qm,Qn,Qo,Qp,Qv,Qw,Qy,Qz,Q0,Q1,Q2,Q3,Q8,Ja,Jb,Jc,Jd,Je,Jl,Jp,Jq,Jr,Js,Jt,Ju,Jx,Jy,Jz,J0,J1,J2,J3,J4,J5,J6,J7,J8,Xb,Xc,Xd,Xe,Xf,Xg,Xh,Xi,Xj,Xk,Xl,Xm,Xn,Xo,Xp,Xq,Xs,Xt,Xu,Xv,Xw,Xx,Xy,Xz,X0,X1,X2,X3,X4,X5,X6,X7,X8,X9,Wa,Wb,Wc,Wd,We,Wf,Wg,Wh,Wi,Wj,Wl,Wm,Wn,Wo,Wp,Wq,Wr,Ws,Wt,Wu,Wv,Ww,Wx,Wy,Wz,W0,W1,W2,W3,W4,W5,W6,W7,W8,Yb,Yc,Yd,Ye,Yf,Yg,Yh,Yi,Yj,Yk,Yl,Ym,Yn,Yo,Yp,Yq,Yr,Ys,Yt,Yu,Yv,Yw,Yx,Yy,Yz,Y0,Y1,Y2,Y3,Y4,Y5,Y6,Y7,Y8,Y9,Va,Vb,Vc,Vd,Ve,Vf,Vg,Vh,Vi,Vj,Vk,Vl,Vm,Vn,Vo,Vp,Vq,Vr,Vs,Vt,Vu,Vv,Vw,Vx,Vy,Vz,V0,V1,V3,V4,V5,V6,V7,V8,V9,Ua,Ub,Uc,Ud,Ue,Uf,Ul,Um,Uq,Ur,Us,Ut,Uu,Uv,Uw,Ux,Uy,Uz,U0,U1,U3,U4,U5,U6,U7,U8,U9,Ka,Kb,Kc,Kd,Ke,Kf,Kg,Kh,Ki,Kj,Kk,Kl,Km,Kn,Ko,Kq,Kr,Ks,Kt,Ga,G5,K8,Kz]
                       tactic =>
                        try simp only [K2] at *
                        try simp only [nc2] at *
                        try simp (maxSteps := 4000000) only [hjb,q1,q2,q3,hkb',hbe',hvp,Gg]
                        repeat' (first | with_reducible assumption | with_reducible refine And.intro ?_ ?_ | intro _ | omega | (rw [Ku]; omega))
                        all_goals first
                          | (with_reducible refine K9 ?_; kernel_rfl)
                          | omega
                          | exact ⟨j + 1, by rw [hsucc]; ((try simp only [Kv, Ky, Kx, K4, upd, K5, Gb, Gs, Nat.reduceDiv, Nat.reduceMod, Nat.reduceMul, Nat.reduceAdd, Nat.reduceEqDiff, List.set_cons_zero, List.set_cons_succ, if_true, if_false, reduceIte]); (first | refine Wk.of_fl ?_ | skip); simp only [Wk, wkK, Gy, wkT, wk1, AV.kept, keptAll, wkO, lk, Kw, and_true, true_and, and_self, Nat.reduceEqDiff, Nat.reduceLeDiff, if_true, if_false, reduceIte, reduceCtorEq, Option.isSome, false_implies]; try simp [Wk, wkK, wkT, wk1, AV.kept, keptAll, wkO, lk, Kw]), by omega, by omega⟩
                          | skip)
                  | false =>
                    cases vh with
                    | true =>
                      rw [Bool.true_and] at hsucc
                      (sym =>
                       simp [hjb,q1,q2,q3,hkb',hvp,G8,Ha,G9,Hb,G7,G6,K1.eq_def,con_HitMissing.eq_def,K6.eq_def,Gp.eq_def,Gn.eq_def,K0.eq_def,K7.eq_def,K3.eq_def,Za,Zb,Zc,Zd,Ze,Zf,Zg,Zh,Zi,Zj,Zk,Zl,Zm,Zn,Zo,Zp,Zq,Zr,Zs,Zt,Zv,Zx,Z2,Z6,Z7,Z8,Z9,Qa,Qb,Qc,Qd,Qe,Qi,Qj,Qk,Ql,Qm,Qn,Qo,Qp,Qv,Qw,Qy,Qz,Q0,Q1,Q2,Q3,Q8,Ja,Jb,Jc,Jd,Je,Jl,Jp,Jq,Jr,Js,Jt,Ju,Jx,Jy,Jz,J0,J1,J2,J3,J4,J5,J6,J7,J8,Xb,Xc,Xd,Xe,Xf,Xg,Xh,Xi,Xj,Xk,Xl,Xm,Xn,Xo,Xp,Xq,Xs,Xt,Xu,Xv,Xw,Xx,Xy,Xz,X0,X1,X2,X3,X4,X5,X6,X7,X8,X9,Wa,Wb,Wc,Wd,We,Wf,Wg,Wh,Wi,Wj,Wl,Wm,Wn,Wo,Wp,Wq,Wr,Ws,Wt,Wu,Wv,Ww,Wx,Wy,Wz,W0,W1,W2,W3,W4,W5,W6,W7,W8,Yb,Yc,Yd,Ye,Yf,Yg,Yh,Yi,Yj,Yk,Yl,Ym,Yn,Yo,Yp,Yq,Yr,Ys,Yt,Yu,Yv,Yw,Yx,Yy,Yz,Y0,Y1,Y2,Y3,Y4,Y5,Y6,Y7,Y8,Y9,Va,Vb,Vc,Vd,Ve,Vf,Vg,Vh,Vi,Vj,Vk,Vl,Vm,Vn,Vo,Vp,Vq,Vr,Vs,Vt,Vu,Vv,Vw,Vx,Vy,Vz,V0,V1,V3,V4,V5,V6,V7,V8,V9,Ua,Ub,Uc,Ud,Ue,Uf,Ul,Um,Uq,Ur,Us,Ut,Uu,Uv,Uw,Ux,Uy,Uz,U0,U1,U3,U4,U5,U6,U7,U8,U9,Ka,Kb,Kc,Kd,Ke,Kf,Kg,Kh,Ki,Kj,Kk,Kl,Km,Kn,Ko,Kq,Kr,Ks,Kt,Ga,G5,K8,Kz]
                       tactic =>
                        try simp only [K2] at *
                        try simp only [nc2] at *
                        try simp (maxSteps := 4000000) only [hjb,q1,q2,q3,hkb',hvp,Gg]
                        repeat' (first | with_reducible assumption | with_reducible refine And.intro ?_ ?_ | intro _ | omega | (rw [Ku]; omega))
                        all_goals first
                          | (with_reducible refine K9 ?_; kernel_rfl)
                          | omega
                          | exact ⟨j + 1, by rw [hsucc]; ((try simp only [Kv, Ky, Kx, K4, upd, K5, Gb, Gs, Nat.reduceDiv, Nat.reduceMod, Nat.reduceMul, Nat.reduceAdd, Nat.reduceEqDiff, List.set_cons_zero, List.set_cons_succ, if_true, if_false, reduceIte]); (first | refine Wk.of_fl ?_ | skip); simp only [Wk, wkK, Gy, wkT, wk1, AV.kept, keptAll, wkO, lk, Kw, and_true, true_and, and_self, Nat.reduceEqDiff, Nat.reduceLeDiff, if_true, if_false, reduceIte, reduceCtorEq, Option.isSome, false_implies]; try simp [Wk, wkK, wkT, wk1, AV.kept, keptAll, wkO, lk, Kw]), by omega, by omega⟩
                          | skip)
                    | false =>
                      rw [Bool.false_and] at hsucc
                      (sym =>
                       simp [hjb,q1,q2,q3,hkb',hvp,G8,Ha,G9,Hb,G7,G6,K1.eq_def,con_HitMissing.eq_def,K6.eq_def,Gp.eq_def,Gn.eq_def,K0.eq_def,K7.eq_def,K3.eq_def,Za,Zb,Zc,Zd,Ze,Zf,Zg,Zh,Zi,Zj,Zk,Zl,Zm,Zn,Zo,Zp,Zq,Zr,Zs,Zt,Zv,Zx,Z2,Z6,Z7,Z8,Z9,Qa,Qb,Qc,Qd,Qe,Qi,Qj,Qk,Ql,Qm,Qn,Qo,Qp,Qv,Qw,Qy,Qz,Q0,Q1,Q2,Q3,Q8,Ja,Jb,Jc,Jd,Je,Jl,Jp,Jq,Jr,Js,Jt,Ju,Jx,Jy,Jz,J0,J1,J2,J3,J4,J5,J6,J7,J8,Xb,Xc,Xd,Xe,Xf,Xg,Xh,Xi,Xj,Xk,Xl,Xm,Xn,Xo,Xp,Xq,Xs,Xt,Xu,Xv,Xw,Xx,Xy,Xz,X0,X1,X2,X3,X4,X5,X6,X7,X8,X9,Wa,Wb,Wc,Wd,We,Wf,Wg,Wh,Wi,Wj,Wl,Wm,Wn,Wo,Wp,Wq,Wr,Ws,Wt,Wu,Wv,Ww,Wx,Wy,Wz,W0,W1,W2,W3,W4,W5,W6,W7,W8,Yb,Yc,Yd,Ye,Yf,Yg,Yh,Yi,Yj,Yk,Yl,Ym,Yn,Yo,Yp,Yq,Yr,Ys,Yt,Yu,Yv,Yw,Yx,Yy,Yz,Y0,Y1,Y2,Y3,Y4,Y5,Y6,Y7,Y8,Y9,Va,Vb,Vc,Vd,Ve,Vf,Vg,Vh,Vi,Vj,Vk,Vl,Vm,Vn,Vo,Vp,Vq,Vr,Vs,Vt,Vu,Vv,Vw,Vx,Vy,Vz,V0,V1,V3,V4,V5,V6,V7,V8,V9,Ua,Ub,Uc,Ud,Ue,Uf,Ul,Um,Uq,Ur,Us,Ut,Uu,Uv,Uw,Ux,Uy,Uz,U0,U1,U3,U4,U5,U6,U7,U8,U9,Ka,Kb,Kc,Kd,Ke,Kf,Kg,Kh,Ki,Kj,Kk,Kl,Km,Kn,Ko,Kq,Kr,Ks,Kt,Ga,G5,K8,Kz]
                       tactic =>
                        try simp only [K2] at *
                        try simp only [nc2] at *
                        try simp (maxSteps := 4000000) only [hjb,q1,q2,q3,hkb',hvp,Gg]
                        repeat' (first | with_reducible assumption | with_reducible refine And.intro ?_ ?_ | intro _ | omega | (rw [Ku]; omega))
                        all_goals first
                          | (with_reducible refine K9 ?_; kernel_rfl)
                          | omega
                          | exact ⟨j + 1, by rw [hsucc]; ((try simp only [Kv, Ky, Kx, K4, upd, K5, Gb, Gs, Nat.reduceDiv, Nat.reduceMod, Nat.reduceMul, Nat.reduceAdd, Nat.reduceEqDiff, List.set_cons_zero, List.set_cons_succ, if_true, if_false, reduceIte]); (first | refine Wk.of_fl ?_ | skip); simp only [Wk, wkK, Gy, wkT, wk1, AV.kept, keptAll, wkO, lk, Kw, and_true, true_and, and_self, Nat.reduceEqDiff, Nat.reduceLeDiff, if_true, if_false, reduceIte, reduceCtorEq, Option.isSome, false_implies]; try simp [Wk, wkK, wkT, wk1, AV.kept, keptAll, wkO, lk, Kw]), by omega, by omega⟩
                          | skip))
            · have hje : j = l.length := by omega
              rw [hje]
              have hjb' : ltB (l.length : Int) (l.length : Int) = false := by rw [Hg]; omega
              cases vin with
              | false =>
                (sym =>
                 simp [hjb',G8,Ha,G9,Hb,G7,G6,K1.eq_def,con_HitMissing.eq_def,K6.eq_def,Gp.eq_def,Gn.eq_def,K0.eq_def,K7.eq_def,K3.eq_def,Za,Zb,Zc,Zd,Ze,Zf,Zg,Zh,Zi,Zj,Zk,Zl,Zm,Zn,Zo,Zp,Zq,Zr,Zs,Zt,Zv,Zx,Z2,Z6,Z7,Z8,Z9,Qa,Qb,Qc,Qd,Qe,Qi,Qj,Qk,Ql,Qm,Qn,Qo,Qp,Qv,Qw,Qy,Qz,Q0,Q1,Q2,Q3,Q8,Ja,Jb,Jc,Jd,Je,Jl,Jp,Jq,Jr,Js,Jt,Ju,Jx,Jy,Jz,J0,J1,J2,J3,J4,J5,J6,J7,J8,Xb,Xc,Xd,Xe,Xf,Xg,Xh,Xi,Xj,Xk,Xl,Xm,Xn,Xo,Xp,Xq,Xs,Xt,Xu,Xv,Xw,Xx,Xy,Xz,X0,X1,X2,X3,X4,X5,X6,X7,X8,X9,Wa,Wb,Wc,Wd,We,Wf,Wg,Wh,Wi,Wj,Wl,Wm,Wn,Wo,Wp,Wq,Wr,Ws,Wt,Wu,Wv,Ww,Wx,Wy,Wz,W0,W1,W2,W3,W4,W5,W6,W7,W8,Yb,Yc,Yd,Ye,Yf,Yg,Yh,Yi,Yj,Yk,Yl,Ym,Yn,Yo,Yp,Yq,Yr,Ys,Yt,Yu,Yv,Yw,Yx,Yy,Yz,Y0,Y1,Y2,Y3,Y4,Y5,Y6,Y7,Y8,Y9,Va,Vb,Vc,Vd,Ve,Vf,Vg,Vh,Vi,Vj,Vk,Vl,Vm,Vn,Vo,Vp,Vq,Vr,Vs,Vt,Vu,Vv,Vw,Vx,Vy,Vz,V0,V1,V3,V4,V5,V6,V7,V8,V9,Ua,Ub,Uc,Ud,Ue,Uf,Ul,Um,Uq,Ur,Us,Ut,Uu,Uv,Uw,Ux,Uy,Uz,U0,U1,U3,U4,U5,U6,U7,U8,U9,Ka,Kb,Kc,Kd,Ke,Kf,Kg,Kh,Ki,Kj,Kk,Kl,Km,Kn,Ko,Kq,Kr,Ks,Kt,Ga,G5,K8,Kz])
              | true =>
                have hfin := hfe (insP_iff.1 hvin)
                obtain ⟨H, hH⟩ : ∃ H, Du s l = H := ⟨_, rfl⟩
                rw [hH] at hfin
                have hHH := beqB_self H
                rw [hfin]
                (sym =>
                 simp [hjb',hH,hHH,G8,Ha,G9,Hb,G7,G6,K1.eq_def,con_HitMissing.eq_def,K6.eq_def,Gp.eq_def,Gn.eq_def,K0.eq_def,K7.eq_def,K3.eq_def,Za,Zb,Zc,Zd,Ze,Zf,Zg,Zh,Zi,Zj,Zk,Zl,Zm,Zn,Zo,Zp,Zq,Zr,Zs,Zt,Zv,Zx,Z2,Z6,Z7,Z8,Z9,Qa,Qb,Qc,Qd,Qe,Qi,Qj,Qk,Ql,Qm,Qn,Qo,Qp,Qv,Qw,Qy,Qz,Q0,Q1,Q2,Q3,Q8,Ja,Jb,Jc,Jd,Je,Jl,Jp,Jq,Jr,Js,Jt,Ju,Jx,Jy,Jz,J0,J1,J2,J3,J4,J5,J6,J7,J8,Xb,Xc,Xd,Xe,Xf,Xg,Xh,Xi,Xj,Xk,Xl,Xm,Xn,Xo,Xp,Xq,Xs,Xt,Xu,Xv,Xw,Xx,Xy,Xz,X0,X1,X2,X3,X4,X5,X6,X7,X8,X9,Wa,Wb,Wc,Wd,We,Wf,Wg,Wh,Wi,Wj,Wl,Wm,Wn,Wo,Wp,Wq,Wr,Ws,Wt,Wu,Wv,Ww,Wx,Wy,Wz,W0,W1,W2,W3,W4,W5,W6,W7,W8,Yb,Yc,Yd,Ye,Yf,Yg,Yh,Yi,Yj,Yk,Yl,Ym,Yn,Yo,Yp,Yq,Yr,Ys,Yt,Yu,Yv,Yw,Yx,Yy,Yz,Y0,Y1,Y2,Y3,Y4,Y5,Y6,Y7,Y8,Y9,Va,Vb,Vc,Vd,Ve,Vf,Vg,Vh,Vi,Vj,Vk,Vl,Vm,Vn,Vo,Vp,Vq,Vr,Vs,Vt,Vu,Vv,Vw,Vx,Vy,Vz,V0,V1,V3,V4,V5,V6,V7,V8,V9,Ua,Ub,Uc,Ud,Ue,Uf,Ul,Um,Uq,Ur,Us,Ut,Uu,Uv,Uw,Ux,Uy,Uz,U0,U1,U3,U4,U5,U6,U7,U8,U9,Ka,Kb,Kc,Kd,Ke,Kf,Kg,Kh,Ki,Kj,Kk,Kl,Km,Kn,Ko,Kq,Kr,Ks,Kt,Ga,G5,K8,Kz]
                 tactic =>
                  try simp only [K2] at *
                  try simp only [nc2] at *
                  try simp (maxSteps := 4000000) only [hjb',hH,hHH,Gg]
                  repeat' (first | with_reducible assumption | with_reducible refine And.intro ?_ ?_ | intro _ | omega | (rw [Ku]; omega))
                  all_goals first
                    | (with_reducible refine K9 ?_; kernel_rfl)
                    | assumption
                    | omega
                    | rfl
                    | skip)))
end Go.Am.Hit
set_option linter.unusedSimpArgs false
set_option linter.unusedVariables false
namespace Go.Am.Hit
open Go.Proofs
open Enc (enc dec)
theorem rdS : Rdt Try.prog 29 1 false (Sl Int) (fun a => a.l.length ≤ maxLen ∧ ∀ y ∈ a.l, inR .i64 y) := rdt_sl Try.underlying29 (by kernel_rfl) rfl (by decide) (rdt_int Try.underlying3)
theorem rdW : Rdt Try.prog 22 1 false (Sl (Sl Int)) (fun a => a.l.length ≤ maxLen ∧ ∀ y ∈ a.l, y.l.length ≤ maxLen ∧ ∀ z ∈ y.l, inR .i64 z) := rdt_sl Try.underlying22 (by kernel_rfl) rfl (by decide) rdS
theorem rdN : Rdt Try.prog 3 1 false Int (fun a => inR .i64 a) := rdt_int Try.underlying3
theorem lo_of {a : Sl Int} (h : a.l.length ≤ 2 ^ 63 - 1 ∧ ∀ y ∈ a.l, inR .i64 y) : Lo a.l.length := by have := h.1; show _ ≤ _; omega
theorem rw_of {a : Sl (Sl Int)} (h : a.l.length ≤ 2 ^ 63 - 1 ∧ ∀ y ∈ a.l, y.l.length ≤ 2 ^ 63 - 1 ∧ ∀ z ∈ y.l, inR .i64 z) : Rw a.l := by
  refine ⟨by have := h.1; show _ ≤ _; omega, fun j => ?_⟩
  by_cases hj : j < a.l.length
  · rw [List.getD_eq_getElem?_getD, List.getElem?_eq_getElem hj]
    have := (h.2 _ (List.getElem_mem hj)).1
    show (a.l[j]).l.length ≤ _
    omega
  · rw [List.getD_eq_getElem?_getD, List.getElem?_eq_none (by omega)]
    exact Nat.zero_le _
end Go.Am.Hit
