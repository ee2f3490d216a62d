/- Contracts of functions that the law reaches, and plain laws. Conditions: those that each contract states. -/
import Derived.Test.YtlcigcilhndjaaaK2
set_option linter.unusedSimpArgs false
set_option linter.unusedVariables false
set_option maxHeartbeats 1000000
namespace Go.Am.Hit
open Go.Proofs
open Enc (enc dec)
theorem upTo {p : Nat → Prop} {k : Nat} (h : ∀ j, j < k → p j) (hk : p k) : ∀ j, j < k + 1 → p j := fun j hj => by
  by_cases e : j = k
  · subst e; exact hk
  · exact h j (by omega)
def Nb : List Int → List Int → Bool
  | [], b => !b.isEmpty
  | _ :: _, [] => false
  | x :: xs, y :: ys => cond (x == y) (Nb xs ys) (ltB x y)
theorem lessB_drop : ∀ {k : Nat} {a b : List Int}, k ≤ a.length → k ≤ b.length → (∀ j, j < k → a.getD j 0 = b.getD j 0) → Nb a b = Nb (a.drop k) (b.drop k)
  | 0, a, b, _, _, _ => rfl
  | k + 1, [], b, h, _, _ => by simp at h
  | k + 1, x :: a, [], _, h, _ => by simp at h
  | k + 1, x :: a, y :: b, h1, h2, h => by
    have h0 := h 0 (by omega)
    simp only [List.getD_cons_zero] at h0
    subst h0
    rw [Nb, beq_self_eq_true, cond_true, List.drop_succ_cons, List.drop_succ_cons]
    refine lessB_drop (by simpa using h1) (by simpa using h2) fun j hj => ?_
    have := h (j + 1) (by omega)
    simpa using this
theorem lessB_at {a b : List Int} {k : Nat} (h1 : k < a.length) (h2 : k < b.length) (h : ∀ j, j < k → a.getD j 0 = b.getD j 0) (hn : a.getD k 0 ≠ b.getD k 0) : Nb a b = ltB (a.getD k 0) (b.getD k 0) := by
  rw [lessB_drop (by omega) (by omega) h, List.drop_eq_getElem_cons h1, List.drop_eq_getElem_cons h2, Nb]
  have e1 : a.getD k 0 = a[k] := by simp [h1]
  have e2 : b.getD k 0 = b[k] := by simp [h2]
  rw [e1, e2] at hn ⊢
  rw [show (a[k] == b[k]) = false by rw [beq_eq_false_iff_ne]; exact hn, cond_false]
theorem lessB_end {a b : List Int} {k : Nat} (h1 : k ≤ a.length) (h2 : k ≤ b.length) (h : ∀ j, j < k → a.getD j 0 = b.getD j 0) (he : k = a.length ∨ k = b.length) : Nb a b = ltB (a.length : Int) (b.length : Int) := by
  rw [lessB_drop h1 h2 h]
  by_cases ha : k = a.length
  · rw [ha, List.drop_length]
    rcases Gl a.length b.length with ⟨hlt, hlb⟩ | ⟨hlt, hlb⟩
    · rw [hlb, List.drop_eq_getElem_cons hlt]; rfl
    · rw [hlb, List.drop_eq_nil_of_le hlt]; rfl
  · have hb : k = b.length := by omega
    rw [show ltB (a.length : Int) (b.length : Int) = false by rw [Hg]; omega, hb, List.drop_length, List.drop_eq_getElem_cons (show b.length < a.length by omega)]
    rfl
def Gd : Con := L3 (fun (a b : Sl Int) => Lo a.l.length ∧ Lo b.l.length) (fun a b => Nb a.l b.l)
noncomputable def Dh : Ctx := ⟨tab, lkC [], 60, lkB [], [], false⟩
theorem Et : Dh.τ = tab := rfl
theorem Ev : Dh.Γ = lkC [] := rfl
theorem Eu : Dh.dp = 60 := rfl
theorem Ew : Dh.Δ = lkB [] := rfl
theorem Es : Dh.cuts = [] := rfl
theorem Er : Dh.wr = false := rfl
theorem good_Less16 : Me Try.prog (17, Gd) := by
  refine ⟨Gj Try.func17 (by kernel_rfl) rfl, ?_⟩
  have K : Hq Try.prog Dh := Gq H8 G4 (by simp) (by simp)
  obtain ⟨c, hc⟩ : ∃ c, Try.f17.body = some c := ⟨_, rfl⟩
  refine Gu K Try.func17 hc [.tmp 4] rfl 41 rfl (fun cvs hpre => ?_)
  change Gd.pre cvs at hpre
  unfold Gd at hpre
  obtain ⟨⟨a⟩, ⟨b⟩, rfl, ha, hb⟩ := Hx hpre
  simp only at ha hb
  simp only [Try.f17, Option.some.injEq] at hc
  subst hc
  refine Hy 2 (of_decide_eq_true (by kernel_rfl)) ?_
  (sym =>
   simp [Et,Ev,Eu,Ew,Es,Er,Gd.eq_def,Za,Zb,Zc,Zd,Ze,Zf,Zg,Zh,Zi,Zj,Zk,Zl,Zm,Zn,Zo,Zp,Zq,Zr,Zs,Zt,Zv,Zx,Z2,Z8,Z9,Qa,Qe,Qi,Qj,Qk,Ql,Qm,Qn,Qo,Qp,Qv,Qw,Qy,Qz,Q0,Q1,Q3,Q8,Ja,Jb,Jc,Jd,Je,Jl,Jp,Jq,Jr,Js,Jt,Ju,Jx,Jy,Jz,J0,J1,J2,J3,J4,J5,J6,J7,J8,Xb,Xc,Xd,Xe,Xf,Xg,Xh,Xi,Xj,Xk,Xl,Xm,Xn,Xo,Xp,Xq,Xs,Xt,Xu,Xv,Xw,Xx,Xy,Xz,X0,X1,X2,X3,X4,X5,X6,X7,X8,X9,Wa,Wb,Wc,Wd,We,Wf,Wg,Wh,Wi,Wj,Wl,Wm,Wn,Wo,Wp,Wq,Wr,Ws,Wt,Wu,Wv,Ww,Wx,Wy,Wz,W0,W1,W2,W3,W4,W5,W6,W7,W8,Yb,Yc,Yd,Ye,Yf,Yg,Yh,Yi,Yj,Yk,Yl,Ym,Yn,Yo,Yp,Yq,Yr,Ys,Yt,Yu,Yv,Yw,Yx,Yy,Yz,Y0,Y1,Y2,Y3,Y4,Y5,Y6,Y7,Y8,Y9,Va,Vb,Vc,Vd,Ve,Vf,Vg,Vh,Vi,Vj,Vk,Vl,Vm,Vn,Vo,Vp,Vq,Vr,Vs,Vt,Vu,Vv,Vw,Vx,Vy,Vz,V0,V1,V3,V4,V5,V6,V7,V8,V9,Ua,Ub,Uc,Ud,Ue,Uf,Ul,Um,Uq,Ur,Us,Ut,Uu,Uv,Uw,Ux,Uy,Uz,U0,U1,U3,U4,U5,U6,U7,U8,U9,Ka,Kb,Kc,Kd,Ke,Kf,Kg,Kh,Ki,Kj,Kk,Kl,Km,Kn,Ko,Kq,Kr,Ks,Kt,Ga,Kz]
   tactic =>
    try simp only [K2] at *
    try simp only [nc2] at *
    try simp (maxSteps := 4000000) only [Gg]
    repeat' (first | with_reducible assumption | with_reducible refine And.intro ?_ ?_ | intro _ | omega | (rw [Ku]; omega))
    refine Gi [4, 6, 7, 8, 9, 10, 11, 12, 13, 14, 15, 16, 17, 18, 19, 20, 21, 22, 23, 24, 25, 26, 27, 28, 29, 30, 31, 32, 33, 34, 35] (fun k : Nat => [(5, .d (.int .i64 k))]) (fun k : Nat => []) (fun k : Nat => k ≤ a.length ∧ k ≤ b.length ∧ ∀ j, j < k → a.getD j 0 = b.getD j 0) (fun k : Nat => a.length - k) 0 ?_ ?_ ?_
    · simp
    · ((try simp only [Kv, Ky, Kx, K4, upd, K5, Gb, Gs, Nat.reduceDiv, Nat.reduceMod, Nat.reduceMul, Nat.reduceAdd, Nat.reduceEqDiff, List.set_cons_zero, List.set_cons_succ, if_true, if_false, reduceIte]); (first | refine Wk.of_fl ?_ | skip); simp only [Wk, wkK, Gy, wkT, wk1, AV.kept, keptAll, wkO, lk, Kw, and_true, true_and, and_self, Nat.reduceEqDiff, Nat.reduceLeDiff, if_true, if_false, reduceIte, reduceCtorEq, Option.isSome, false_implies]; try simp [Wk, wkK, wkT, wk1, AV.kept, keptAll, wkO, lk, Kw])
    rintro k ⟨hk1, hk2, hno⟩
    rcases Gl k a.length with ⟨hlt, hlb⟩ | ⟨hlt, hlb⟩
    · rcases Gl k b.length with ⟨hlt2, hlb2⟩ | ⟨hlt2, hlb2⟩
      · have q1 := Hd (0 : Int) hlt
        have q2 := Hd (0 : Int) hlt2
        have hst : a.getD k 0 = b.getD k 0 → ∀ j, j < k + 1 → a.getD j 0 = b.getD j 0 := fun h => upTo hno h
        have hbad := lessB_at hlt hlt2 hno
        obtain ⟨x, hx⟩ : ∃ x, a.getD k 0 = x := ⟨_, rfl⟩
        obtain ⟨y, hy⟩ : ∃ x, b.getD k 0 = x := ⟨_, rfl⟩
        rw [hx] at q1 hst hbad
        rw [hy] at q2 hst hbad
        cases hxy : (x != y) with
        | true =>
          have hr := hbad (by simpa using hxy)
          (sym =>
           simp [hlb,hlb2,q1,q2,hxy,hr,Et,Ev,Eu,Ew,Es,Er,Gd.eq_def,Za,Zb,Zc,Zd,Ze,Zf,Zg,Zh,Zi,Zj,Zk,Zl,Zm,Zn,Zo,Zp,Zq,Zr,Zs,Zt,Zv,Zx,Z2,Z8,Z9,Qa,Qe,Qi,Qj,Qk,Ql,Qm,Qn,Qo,Qp,Qv,Qw,Qy,Qz,Q0,Q1,Q3,Q8,Ja,Jb,Jc,Jd,Je,Jl,Jp,Jq,Jr,Js,Jt,Ju,Jx,Jy,Jz,J0,J1,J2,J3,J4,J5,J6,J7,J8,Xb,Xc,Xd,Xe,Xf,Xg,Xh,Xi,Xj,Xk,Xl,Xm,Xn,Xo,Xp,Xq,Xs,Xt,Xu,Xv,Xw,Xx,Xy,Xz,X0,X1,X2,X3,X4,X5,X6,X7,X8,X9,Wa,Wb,Wc,Wd,We,Wf,Wg,Wh,Wi,Wj,Wl,Wm,Wn,Wo,Wp,Wq,Wr,Ws,Wt,Wu,Wv,Ww,Wx,Wy,Wz,W0,W1,W2,W3,W4,W5,W6,W7,W8,Yb,Yc,Yd,Ye,Yf,Yg,Yh,Yi,Yj,Yk,Yl,Ym,Yn,Yo,Yp,Yq,Yr,Ys,Yt,Yu,Yv,Yw,Yx,Yy,Yz,Y0,Y1,Y2,Y3,Y4,Y5,Y6,Y7,Y8,Y9,Va,Vb,Vc,Vd,Ve,Vf,Vg,Vh,Vi,Vj,Vk,Vl,Vm,Vn,Vo,Vp,Vq,Vr,Vs,Vt,Vu,Vv,Vw,Vx,Vy,Vz,V0,V1,V3,V4,V5,V6,V7,V8,V9,Ua,Ub,Uc,Ud,Ue,Uf,Ul,Um,Uq,Ur,Us,Ut,Uu,Uv,Uw,Ux,Uy,Uz,U0,U1,U3,U4,U5,U6,U7,U8,U9,Ka,Kb,Kc,Kd,Ke,Kf,Kg,Kh,Ki,Kj,Kk,Kl,Km,Kn,Ko,Kq,Kr,Ks,Kt,Ga,Kz]
           tactic =>
            try simp only [K2] at *
            try simp only [nc2] at *
            try simp (maxSteps := 4000000) only [hlb,hlb2,q1,q2,hxy,hr,Gg]
            repeat' (first | with_reducible assumption | with_reducible refine And.intro ?_ ?_ | intro _ | omega | (rw [Ku]; omega))
            all_goals first
              | (with_reducible refine K9 ?_; kernel_rfl)
              | omega
              | rfl
              | skip)
        | false =>
          have h2 := hst (by simpa using hxy)
          (sym =>
           simp [hlb,hlb2,q1,q2,hxy,Et,Ev,Eu,Ew,Es,Er,Gd.eq_def,Za,Zb,Zc,Zd,Ze,Zf,Zg,Zh,Zi,Zj,Zk,Zl,Zm,Zn,Zo,Zp,Zq,Zr,Zs,Zt,Zv,Zx,Z2,Z8,Z9,Qa,Qe,Qi,Qj,Qk,Ql,Qm,Qn,Qo,Qp,Qv,Qw,Qy,Qz,Q0,Q1,Q3,Q8,Ja,Jb,Jc,Jd,Je,Jl,Jp,Jq,Jr,Js,Jt,Ju,Jx,Jy,Jz,J0,J1,J2,J3,J4,J5,J6,J7,J8,Xb,Xc,Xd,Xe,Xf,Xg,Xh,Xi,Xj,Xk,Xl,Xm,Xn,Xo,Xp,Xq,Xs,Xt,Xu,Xv,Xw,Xx,Xy,Xz,X0,X1,X2,X3,X4,X5,X6,X7,X8,X9,Wa,Wb,Wc,Wd,We,Wf,Wg,Wh,Wi,Wj,Wl,Wm,Wn,Wo,Wp,Wq,Wr,Ws,Wt,Wu,Wv,Ww,Wx,Wy,Wz,W0,W1,W2,W3,W4,W5,W6,W7,W8,Yb,Yc,Yd,Ye,Yf,Yg,Yh,Yi,Yj,Yk,Yl,Ym,Yn,Yo,Yp,Yq,Yr,Ys,Yt,Yu,Yv,Yw,Yx,Yy,Yz,Y0,Y1,Y2,Y3,Y4,Y5,Y6,Y7,Y8,Y9,Va,Vb,Vc,Vd,Ve,Vf,Vg,Vh,Vi,Vj,Vk,Vl,Vm,Vn,Vo,Vp,Vq,Vr,Vs,Vt,Vu,Vv,Vw,Vx,Vy,Vz,V0,V1,V3,V4,V5,V6,V7,V8,V9,Ua,Ub,Uc,Ud,Ue,Uf,Ul,Um,Uq,Ur,Us,Ut,Uu,Uv,Uw,Ux,Uy,Uz,U0,U1,U3,U4,U5,U6,U7,U8,U9,Ka,Kb,Kc,Kd,Ke,Kf,Kg,Kh,Ki,Kj,Kk,Kl,Km,Kn,Ko,Kq,Kr,Ks,Kt,Ga,Kz]
           tactic =>
            try simp only [K2] at *
            try simp only [nc2] at *
            try simp (maxSteps := 4000000) only [hlb,hlb2,q1,q2,hxy,Gg]
            repeat' (first | with_reducible assumption | with_reducible refine And.intro ?_ ?_ | intro _ | omega | (rw [Ku]; omega))
            all_goals first
              | (with_reducible refine K9 ?_; kernel_rfl)
              | omega
              | exact ⟨k + 1, by ((try simp only [Kv, Ky, Kx, K4, upd, K5, Gb, Gs, Nat.reduceDiv, Nat.reduceMod, Nat.reduceMul, Nat.reduceAdd, Nat.reduceEqDiff, List.set_cons_zero, List.set_cons_succ, if_true, if_false, reduceIte]); (first | refine Wk.of_fl ?_ | skip); simp only [Wk, wkK, Gy, wkT, wk1, AV.kept, keptAll, wkO, lk, Kw, and_true, true_and, and_self, Nat.reduceEqDiff, Nat.reduceLeDiff, if_true, if_false, reduceIte, reduceCtorEq, Option.isSome, false_implies]; try simp [Wk, wkK, wkT, wk1, AV.kept, keptAll, wkO, lk, Kw]), by omega, by omega, h2, by omega⟩
              | skip)
      · have hr := lessB_end hk1 hk2 hno (.inr (by omega))
        (sym =>
         simp [hlb,hlb2,hr,Et,Ev,Eu,Ew,Es,Er,Gd.eq_def,Za,Zb,Zc,Zd,Ze,Zf,Zg,Zh,Zi,Zj,Zk,Zl,Zm,Zn,Zo,Zp,Zq,Zr,Zs,Zt,Zv,Zx,Z2,Z8,Z9,Qa,Qe,Qi,Qj,Qk,Ql,Qm,Qn,Qo,Qp,Qv,Qw,Qy,Qz,Q0,Q1,Q3,Q8,Ja,Jb,Jc,Jd,Je,Jl,Jp,Jq,Jr,Js,Jt,Ju,Jx,Jy,Jz,J0,J1,J2,J3,J4,J5,J6,J7,J8,Xb,Xc,Xd,Xe,Xf,Xg,Xh,Xi,Xj,Xk,Xl,Xm,Xn,Xo,Xp,Xq,Xs,Xt,Xu,Xv,Xw,Xx,Xy,Xz,X0,X1,X2,X3,X4,X5,X6,X7,X8,X9,Wa,Wb,Wc,Wd,We,Wf,Wg,Wh,Wi,Wj,Wl,Wm,Wn,Wo,Wp,Wq,Wr,Ws,Wt,Wu,Wv,Ww,Wx,Wy,Wz,W0,W1,W2,W3,W4,W5,W6,W7,W8,Yb,Yc,Yd,Ye,Yf,Yg,Yh,Yi,Yj,Yk,Yl,Ym,Yn,Yo,Yp,Yq,Yr,Ys,Yt,Yu,Yv,Yw,Yx,Yy,Yz,Y0,Y1,Y2,Y3,Y4,Y5,Y6,Y7,Y8,Y9,Va,Vb,Vc,Vd,Ve,Vf,Vg,Vh,Vi,Vj,Vk,Vl,Vm,Vn,Vo,Vp,Vq,Vr,Vs,Vt,Vu,Vv,Vw,Vx,Vy,Vz,V0,V1,V3,V4,V5,V6,V7,V8,V9,Ua,Ub,Uc,Ud,Ue,Uf,Ul,Um,Uq,Ur,Us,Ut,Uu,Uv,Uw,Ux,Uy,Uz,U0,U1,U3,U4,U5,U6,U7,U8,U9,Ka,Kb,Kc,Kd,Ke,Kf,Kg,Kh,Ki,Kj,Kk,Kl,Km,Kn,Ko,Kq,Kr,Ks,Kt,Ga,Kz])
    · have hr := lessB_end hk1 hk2 hno (.inl (by omega))
      (sym =>
       simp [hlb,hr,Et,Ev,Eu,Ew,Es,Er,Gd.eq_def,Za,Zb,Zc,Zd,Ze,Zf,Zg,Zh,Zi,Zj,Zk,Zl,Zm,Zn,Zo,Zp,Zq,Zr,Zs,Zt,Zv,Zx,Z2,Z8,Z9,Qa,Qe,Qi,Qj,Qk,Ql,Qm,Qn,Qo,Qp,Qv,Qw,Qy,Qz,Q0,Q1,Q3,Q8,Ja,Jb,Jc,Jd,Je,Jl,Jp,Jq,Jr,Js,Jt,Ju,Jx,Jy,Jz,J0,J1,J2,J3,J4,J5,J6,J7,J8,Xb,Xc,Xd,Xe,Xf,Xg,Xh,Xi,Xj,Xk,Xl,Xm,Xn,Xo,Xp,Xq,Xs,Xt,Xu,Xv,Xw,Xx,Xy,Xz,X0,X1,X2,X3,X4,X5,X6,X7,X8,X9,Wa,Wb,Wc,Wd,We,Wf,Wg,Wh,Wi,Wj,Wl,Wm,Wn,Wo,Wp,Wq,Wr,Ws,Wt,Wu,Wv,Ww,Wx,Wy,Wz,W0,W1,W2,W3,W4,W5,W6,W7,W8,Yb,Yc,Yd,Ye,Yf,Yg,Yh,Yi,Yj,Yk,Yl,Ym,Yn,Yo,Yp,Yq,Yr,Ys,Yt,Yu,Yv,Yw,Yx,Yy,Yz,Y0,Y1,Y2,Y3,Y4,Y5,Y6,Y7,Y8,Y9,Va,Vb,Vc,Vd,Ve,Vf,Vg,Vh,Vi,Vj,Vk,Vl,Vm,Vn,Vo,Vp,Vq,Vr,Vs,Vt,Vu,Vv,Vw,Vx,Vy,Vz,V0,V1,V3,V4,V5,V6,V7,V8,V9,Ua,Ub,Uc,Ud,Ue,Uf,Ul,Um,Uq,Ur,Us,Ut,Uu,Uv,Uw,Ux,Uy,Uz,U0,U1,U3,U4,U5,U6,U7,U8,U9,Ka,Kb,Kc,Kd,Ke,Kf,Kg,Kh,Ki,Kj,Kk,Kl,Km,Kn,Ko,Kq,Kr,Ks,Kt,Ga,Kz]))
def Rw (l : List (Sl Int)) : Prop := Lo l.length ∧ ∀ j, Lo (l.getD j ⟨[]⟩).l.length
def sameB (a b : List (Sl Int)) : Bool := a.map Sl.l == b.map Sl.l
def Ge : Con := L3 (fun (a b : Sl (Sl Int)) => Rw a.l ∧ Rw b.l) (fun a b => sameB a.l b.l)
noncomputable def Df : Ctx := ⟨tab, lkC [(27, Gp)], 60, lkB [], [], false⟩
theorem En : Df.τ = tab := rfl
theorem Ep : Df.Γ = lkC [(27, Gp)] := rfl
theorem Eo : Df.dp = 60 := rfl
theorem Eq : Df.Δ = lkB [] := rfl
theorem Em : Df.cuts = [] := rfl
theorem El : Df.wr = false := rfl
theorem Dv : Me Try.prog (14, Ge) := by
  refine ⟨Gj Try.func14 (by kernel_rfl) rfl, ?_⟩
  have K : Hq Try.prog Df := Gq H8 G4 (by
    intro p hp
    simp only [List.mem_cons, List.not_mem_nil, or_false] at hp
    rcases hp with rfl
    · exact good_Ints03) (by simp)
  obtain ⟨c, hc⟩ : ∃ c, Try.f14.body = some c := ⟨_, rfl⟩
  refine Gu K Try.func14 hc [.tmp 4] rfl 27 rfl (fun cvs hpre => ?_)
  change Ge.pre cvs at hpre
  unfold Ge at hpre
  obtain ⟨⟨a⟩, ⟨b⟩, rfl, ⟨ha, ha2⟩, ⟨hb, hb2⟩⟩ := Hx hpre
  simp only at ha hb ha2 hb2
  by_cases hlen : a.length = b.length
  case neg =>
    have hne : ((a.length : Int) != (b.length : Int)) = true := by rw [bne_iff_ne]; omega
    have hr : sameB a b = false := by
      unfold sameB
      rw [beq_eq_false_iff_ne]; intro e
      have := congrArg List.length e
      simp at this
      exact hlen this
    simp only [Try.f14, Option.some.injEq] at hc
    subst hc
    (sym =>
     simp [hne,hr,En,Ep,Eo,Eq,Em,El,Gp.eq_def,Ge.eq_def,Za,Zb,Zc,Ze,Zf,Zg,Zh,Zi,Zj,Zk,Zl,Zm,Zn,Zo,Zp,Zq,Zr,Zs,Zv,Zx,Z2,Z6,Z7,Z8,Z9,Qa,Qb,Qc,Qd,Qe,Qi,Qj,Qk,Ql,Qm,Qn,Qo,Qp,Qv,Qw,Qy,Qz,Q0,Q1,Q2,Q3,Q8,Ja,Jb,Jc,Jd,Je,Jl,Jq,Jr,Js,Jt,Ju,Jx,Jy,Xb,Xc,Xd,Xe,Xf,Xg,Xh,Xi,Xj,Xk,Xl,Xm,Xn,Xq,Xs,Xt,Xu,Xv,Xw,Xx,Xy,Xz,X0,X1,X2,X3,X4,X5,X6,X7,X8,X9,Wa,Wb,Wc,Wd,We,Wf,Wg,Wh,Wi,Wj,Wl,Wm,Wn,Wo,Wp,Wq,Wr,Ws,Wt,Wu,Wv,Ww,Wx,Wy,Wz,W0,W1,W2,W3,W4,W5,W6,W7,W8,Ye,Yf,Yg,Yh,Yi,Yj,Yk,Yl,Ym,Yn,Yo,Yp,Yq,Yr,Ys,Yt,Yu,Yv,Yw,Yx,Yy,Yz,Y0,Y1,Y2,Y3,Y4,Y5,Y6,Y7,Y8,Y9,Va,Vb,Vc,Vd,Ve,Vf,Vg,Vh,Vi,Vj,Vk,Vl,Vm,Vn,Vo,Vp,Vq,Vr,Vs,Vt,Vu,Vv,Vw,Vx,Vy,Vz,V0,V1,V3,V4,V5,V6,V7,V8,V9,Ua,Ub,Uc,Ud,Ue,Uf,Ul,Um,Uq,Ur,Us,Ut,Uu,Uv,Uw,Ux,Uy,Uz,U0,U1,U3,U4,U5,U6,U7,U8,U9,Ka,Kb,Kc,Kd,Ke,Kf,Kg,Kh,Ki,Kj,Kk,Kl,Km,Kn,Ko,Kq,Kr,Ks,Kt,Ga,G5,K8,Kz])
  have hne : ((a.length : Int) != (b.length : Int)) = false := by rw [hlen, bne_self_eq_false]
  simp only [Try.f14, Option.some.injEq] at hc
  subst hc
  (sym =>
   simp [hne,En,Ep,Eo,Eq,Em,El,Gp.eq_def,Ge.eq_def,Za,Zb,Zc,Ze,Zf,Zg,Zh,Zi,Zj,Zk,Zl,Zm,Zn,Zo,Zp,Zq,Zr,Zs,Zv,Zx,Z2,Z6,Z7,Z8,Z9,Qa,Qb,Qc,Qd,Qe,Qi,Qj,Qk,Ql,Qm,Qn,Qo,Qp,Qv,Qw,Qy,Qz,Q0,Q1,Q2,Q3,Q8,Ja,Jb,Jc,Jd,Je,Jl,Jq,Jr,Js,Jt,Ju,Jx,Jy,Xb,Xc,Xd,Xe,Xf,Xg,Xh,Xi,Xj,Xk,Xl,Xm,Xn,Xq,Xs,Xt,Xu,Xv,Xw,Xx,Xy,Xz,X0,X1,X2,X3,X4,X5,X6,X7,X8,X9,Wa,Wb,Wc,Wd,We,Wf,Wg,Wh,Wi,Wj,Wl,Wm,Wn,Wo,Wp,Wq,Wr,Ws,Wt,Wu,Wv,Ww,Wx,Wy,Wz,W0,W1,W2,W3,W4,W5,W6,W7,W8,Ye,Yf,Yg,Yh,Yi,Yj,Yk,Yl,Ym,Yn,Yo,Yp,Yq,Yr,Ys,Yt,Yu,Yv,Yw,Yx,Yy,Yz,Y0,Y1,Y2,Y3,Y4,Y5,Y6,Y7,Y8,Y9,Va,Vb,Vc,Vd,Ve,Vf,Vg,Vh,Vi,Vj,Vk,Vl,Vm,Vn,Vo,Vp,Vq,Vr,Vs,Vt,Vu,Vv,Vw,Vx,Vy,Vz,V0,V1,V3,V4,V5,V6,V7,V8,V9,Ua,Ub,Uc,Ud,Ue,Uf,Ul,Um,Uq,Ur,Us,Ut,Uu,Uv,Uw,Ux,Uy,Uz,U0,U1,U3,U4,U5,U6,U7,U8,U9,Ka,Kb,Kc,Kd,Ke,Kf,Kg,Kh,Ki,Kj,Kk,Kl,Km,Kn,Ko,Kq,Kr,Ks,Kt,Ga,G5,K8,Kz]
   tactic =>
    try simp only [K2] at *
    try simp only [nc2] at *
    try simp (maxSteps := 4000000) only [hne,Gg]
    repeat' (first | with_reducible assumption | with_reducible refine And.intro ?_ ?_ | intro _ | omega | (rw [Ku]; omega))
    refine Gi [4, 11, 12, 13, 14, 15, 16, 17, 18, 19, 20, 21, 22, 23, 24, 25, 26] (fun k : Nat => [(5, .d (.int .i64 k))]) (fun k : Nat => []) (fun k : Nat => k ≤ a.length ∧ ∀ j, j < k → (a.getD j ⟨[]⟩).l = (b.getD j ⟨[]⟩).l) (fun k : Nat => a.length - k) 0 ?_ ?_ ?_
    · simp
    · ((try simp only [Kv, Ky, Kx, K4, upd, K5, Gb, Gs, Nat.reduceDiv, Nat.reduceMod, Nat.reduceMul, Nat.reduceAdd, Nat.reduceEqDiff, List.set_cons_zero, List.set_cons_succ, if_true, if_false, reduceIte]); (first | refine Wk.of_fl ?_ | skip); simp only [Wk, wkK, Gy, wkT, wk1, AV.kept, keptAll, wkO, lk, Kw, and_true, true_and, and_self, Nat.reduceEqDiff, Nat.reduceLeDiff, if_true, if_false, reduceIte, reduceCtorEq, Option.isSome, false_implies]; try simp [Wk, wkK, wkT, wk1, AV.kept, keptAll, wkO, lk, Kw])
    rintro k ⟨hk, hno⟩
    rcases Gl k a.length with ⟨hlt, hlb⟩ | ⟨hlt, hlb⟩
    · have q1 := Hd (⟨[]⟩ : Sl Int) hlt
      have q2 := Hd (⟨[]⟩ : Sl Int) (show k < b.length by omega)
      have hst : (a.getD k ⟨[]⟩).l = (b.getD k ⟨[]⟩).l → ∀ j, j < k + 1 → (a.getD j ⟨[]⟩).l = (b.getD j ⟨[]⟩).l := fun h => upTo hno h
      have hbad : (a.getD k ⟨[]⟩).l ≠ (b.getD k ⟨[]⟩).l → sameB a b = false := by
        intro h
        unfold sameB
        rw [beq_eq_false_iff_ne]
        intro e
        have := congrArg (fun l => l.getD k []) e
        simp only [List.getD_eq_getElem?_getD, List.getElem?_map] at this h
        simp only [List.getElem?_eq_getElem hlt, List.getElem?_eq_getElem (show k < b.length by omega), Option.map_some, Option.getD_some] at this h
        exact h this
      have l1 := ha2 k
      have l2 := hb2 k
      obtain ⟨⟨x⟩, hx⟩ : ∃ x, a.getD k ⟨[]⟩ = x := ⟨_, rfl⟩
      obtain ⟨⟨y⟩, hy⟩ : ∃ x, b.getD k ⟨[]⟩ = x := ⟨_, rfl⟩
      rw [hx] at q1 hst hbad l1
      rw [hy] at q2 hst hbad l2
      simp only at hst hbad l1 l2
      cases hxy : (x == y) with
      | false =>
        have hr := hbad (by simpa using hxy)
        (sym =>
         simp [hlb,q1,q2,hxy,hr,En,Ep,Eo,Eq,Em,El,Gp.eq_def,Ge.eq_def,Za,Zb,Zc,Ze,Zf,Zg,Zh,Zi,Zj,Zk,Zl,Zm,Zn,Zo,Zp,Zq,Zr,Zs,Zv,Zx,Z2,Z6,Z7,Z8,Z9,Qa,Qb,Qc,Qd,Qe,Qi,Qj,Qk,Ql,Qm,Qn,Qo,Qp,Qv,Qw,Qy,Qz,Q0,Q1,Q2,Q3,Q8,Ja,Jb,Jc,Jd,Je,Jl,Jq,Jr,Js,Jt,Ju,Jx,Jy,Xb,Xc,Xd,Xe,Xf,Xg,Xh,Xi,Xj,Xk,Xl,Xm,Xn,Xq,Xs,Xt,Xu,Xv,Xw,Xx,Xy,Xz,X0,X1,X2,X3,X4,X5,X6,X7,X8,X9,Wa,Wb,Wc,Wd,We,Wf,Wg,Wh,Wi,Wj,Wl,Wm,Wn,Wo,Wp,Wq,Wr,Ws,Wt,Wu,Wv,Ww,Wx,Wy,Wz,W0,W1,W2,W3,W4,W5,W6,W7,W8,Ye,Yf,Yg,Yh,Yi,Yj,Yk,Yl,Ym,Yn,Yo,Yp,Yq,Yr,Ys,Yt,Yu,Yv,Yw,Yx,Yy,Yz,Y0,Y1,Y2,Y3,Y4,Y5,Y6,Y7,Y8,Y9,Va,Vb,Vc,Vd,Ve,Vf,Vg,Vh,Vi,Vj,Vk,Vl,Vm,Vn,Vo,Vp,Vq,Vr,Vs,Vt,Vu,Vv,Vw,Vx,Vy,Vz,V0,V1,V3,V4,V5,V6,V7,V8,V9,Ua,Ub,Uc,Ud,Ue,Uf,Ul,Um,Uq,Ur,Us,Ut,Uu,Uv,Uw,Ux,Uy,Uz,U0,U1,U3,U4,U5,U6,U7,U8,U9,Ka,Kb,Kc,Kd,Ke,Kf,Kg,Kh,Ki,Kj,Kk,Kl,Km,Kn,Ko,Kq,Kr,Ks,Kt,Ga,G5,K8,Kz]
         tactic =>
          try simp only [K2] at *
          try simp only [nc2] at *
          try simp (maxSteps := 4000000) only [hlb,q1,q2,hxy,hr,Gg]
          repeat' (first | with_reducible assumption | with_reducible refine And.intro ?_ ?_ | intro _ | omega | (rw [Ku]; omega))
          all_goals first
            | (with_reducible refine K9 ?_; kernel_rfl)
            | omega
            | rfl
            | skip)
      | true =>
        have h2 := hst (by simpa using hxy)
        (sym =>
         simp [hlb,q1,q2,hxy,En,Ep,Eo,Eq,Em,El,Gp.eq_def,Ge.eq_def,Za,Zb,Zc,Ze,Zf,Zg,Zh,Zi,Zj,Zk,Zl,Zm,Zn,Zo,Zp,Zq,Zr,Zs,Zv,Zx,Z2,Z6,Z7,Z8,Z9,Qa,Qb,Qc,Qd,Qe,Qi,Qj,Qk,Ql,Qm,Qn,Qo,Qp,Qv,Qw,Qy,Qz,Q0,Q1,Q2,Q3,Q8,Ja,Jb,Jc,Jd,Je,Jl,Jq,Jr,Js,Jt,Ju,Jx,Jy,Xb,Xc,Xd,Xe,Xf,Xg,Xh,Xi,Xj,Xk,Xl,Xm,Xn,Xq,Xs,Xt,Xu,Xv,Xw,Xx,Xy,Xz,X0,X1,X2,X3,X4,X5,X6,X7,X8,X9,Wa,Wb,Wc,Wd,We,Wf,Wg,Wh,Wi,Wj,Wl,Wm,Wn,Wo,Wp,Wq,Wr,Ws,Wt,Wu,Wv,Ww,Wx,Wy,Wz,W0,W1,W2,W3,W4,W5,W6,W7,W8,Ye,Yf,Yg,Yh,Yi,Yj,Yk,Yl,Ym,Yn,Yo,Yp,Yq,Yr,Ys,Yt,Yu,Yv,Yw,Yx,Yy,Yz,Y0,Y1,Y2,Y3,Y4,Y5,Y6,Y7,Y8,Y9,Va,Vb,Vc,Vd,Ve,Vf,Vg,Vh,Vi,Vj,Vk,Vl,Vm,Vn,Vo,Vp,Vq,Vr,Vs,Vt,Vu,Vv,Vw,Vx,Vy,Vz,V0,V1,V3,V4,V5,V6,V7,V8,V9,Ua,Ub,Uc,Ud,Ue,Uf,Ul,Um,Uq,Ur,Us,Ut,Uu,Uv,Uw,Ux,Uy,Uz,U0,U1,U3,U4,U5,U6,U7,U8,U9,Ka,Kb,Kc,Kd,Ke,Kf,Kg,Kh,Ki,Kj,Kk,Kl,Km,Kn,Ko,Kq,Kr,Ks,Kt,Ga,G5,K8,Kz]
         tactic =>
          try simp only [K2] at *
          try simp only [nc2] at *
          try simp (maxSteps := 4000000) only [hlb,q1,q2,hxy,Gg]
          repeat' (first | with_reducible assumption | with_reducible refine And.intro ?_ ?_ | intro _ | omega | (rw [Ku]; omega))
          all_goals first
            | (with_reducible refine K9 ?_; kernel_rfl)
            | omega
            | exact ⟨k + 1, by ((try simp only [Kv, Ky, Kx, K4, upd, K5, Gb, Gs, Nat.reduceDiv, Nat.reduceMod, Nat.reduceMul, Nat.reduceAdd, Nat.reduceEqDiff, List.set_cons_zero, List.set_cons_succ, if_true, if_false, reduceIte]); (first | refine Wk.of_fl ?_ | skip); simp only [Wk, wkK, Gy, wkT, wk1, AV.kept, keptAll, wkO, lk, Kw, and_true, true_and, and_self, Nat.reduceEqDiff, Nat.reduceLeDiff, if_true, if_false, reduceIte, reduceCtorEq, Option.isSome, false_implies]; try simp [Wk, wkK, wkT, wk1, AV.kept, keptAll, wkO, lk, Kw]), by omega, h2, by omega⟩
            | skip)
    · have hr : sameB a b = true := by
        unfold sameB
        rw [beq_iff_eq]
        refine List.ext_getElem (by simp [hlen]) fun j h1 h2 => ?_
        rw [List.length_map] at h1 h2
        have := hno j (by omega)
        simpa [h1, h2] using this
      (sym =>
       simp [hlb,hr,En,Ep,Eo,Eq,Em,El,Gp.eq_def,Ge.eq_def,Za,Zb,Zc,Ze,Zf,Zg,Zh,Zi,Zj,Zk,Zl,Zm,Zn,Zo,Zp,Zq,Zr,Zs,Zv,Zx,Z2,Z6,Z7,Z8,Z9,Qa,Qb,Qc,Qd,Qe,Qi,Qj,Qk,Ql,Qm,Qn,Qo,Qp,Qv,Qw,Qy,Qz,Q0,Q1,Q2,Q3,Q8,Ja,Jb,Jc,Jd,Je,Jl,Jq,Jr,Js,Jt,Ju,Jx,Jy,Xb,Xc,Xd,Xe,Xf,Xg,Xh,Xi,Xj,Xk,Xl,Xm,Xn,Xq,Xs,Xt,Xu,Xv,Xw,Xx,Xy,Xz,X0,X1,X2,X3,X4,X5,X6,X7,X8,X9,Wa,Wb,Wc,Wd,We,Wf,Wg,Wh,Wi,Wj,Wl,Wm,Wn,Wo,Wp,Wq,Wr,Ws,Wt,Wu,Wv,Ww,Wx,Wy,Wz,W0,W1,W2,W3,W4,W5,W6,W7,W8,Ye,Yf,Yg,Yh,Yi,Yj,Yk,Yl,Ym,Yn,Yo,Yp,Yq,Yr,Ys,Yt,Yu,Yv,Yw,Yx,Yy,Yz,Y0,Y1,Y2,Y3,Y4,Y5,Y6,Y7,Y8,Y9,Va,Vb,Vc,Vd,Ve,Vf,Vg,Vh,Vi,Vj,Vk,Vl,Vm,Vn,Vo,Vp,Vq,Vr,Vs,Vt,Vu,Vv,Vw,Vx,Vy,Vz,V0,V1,V3,V4,V5,V6,V7,V8,V9,Ua,Ub,Uc,Ud,Ue,Uf,Ul,Um,Uq,Ur,Us,Ut,Uu,Uv,Uw,Ux,Uy,Uz,U0,U1,U3,U4,U5,U6,U7,U8,U9,Ka,Kb,Kc,Kd,Ke,Kf,Kg,Kh,Ki,Kj,Kk,Kl,Km,Kn,Ko,Kq,Kr,Ks,Kt,Ga,G5,K8,Kz]))
def Gm : Con := L3 (fun (s : Sl Int) (_ : Int) => s.l.length ≤ 1000000) (fun s n => Sl.mk (s.l.filter fun x => x != n))
noncomputable def Bu : Ctx := ⟨tab, lkC [], 60, lkB [], [], false⟩
theorem Cx : Bu.τ = tab := rfl
theorem Cz : Bu.Γ = lkC [] := rfl
theorem Cy : Bu.dp = 60 := rfl
theorem C0 : Bu.Δ = lkB [] := rfl
theorem Cw : Bu.cuts = [] := rfl
theorem Cv : Bu.wr = false := rfl
theorem good_Without15 : Me Try.prog (18, Gm) := by
  refine ⟨Gj Try.func18 (by kernel_rfl) rfl, ?_⟩
  have K : Hq Try.prog Bu := Gq H8 G4 (by simp) (by simp)
  obtain ⟨c, hc⟩ : ∃ c, Try.f18.body = some c := ⟨_, rfl⟩
  refine Gu K Try.func18 hc [.tmp 4] rfl 28 rfl (fun cvs hpre => ?_)
  change Gm.pre cvs at hpre
  unfold Gm at hpre
  obtain ⟨⟨s⟩, n, rfl, hs⟩ := Hx hpre
  simp only at hs
  simp only [Try.f18, Option.some.injEq] at hc
  subst hc
  (sym =>
   simp [Cx,Cz,Cy,C0,Cw,Cv,Gm.eq_def,Za,Zb,Zc,Ze,Zf,Zg,Zn,Zo,Zp,Zq,Zr,Zs,Zv,Zx,Zz,Z0,Z1,Z2,Z8,Z9,Qa,Qe,Qi,Qj,Qk,Ql,Qm,Qn,Qp,Qv,Qw,Qy,Q1,Q3,Q4,Q5,Q6,Q7,Q8,Q9,Ja,Jb,Jc,Jd,Je,Jl,Jq,Jr,Js,Jt,Ju,Jx,Jy,J9,Xa,Xb,Xc,Xd,Xe,Xf,Xg,Xh,Xi,Xj,Xk,Xl,Xm,Xn,Xq,Xs,Xt,Xu,Xv,Xw,Xx,Xy,Xz,X0,X1,X2,X3,X4,X5,X6,X7,X8,X9,Wa,Wd,We,Wf,Wg,Wh,Wi,Wj,Wl,Wm,Wn,Wo,Wp,Wq,Wr,Ws,Wt,Wu,Wv,Ww,Wx,Wy,Wz,W0,W1,W2,W3,W4,W5,W6,W7,W8,Ye,Yf,Yg,Yh,Yi,Yj,Yk,Yl,Ym,Yn,Yo,Yp,Yq,Yr,Ys,Yt,Yu,Yv,Yw,Yx,Yy,Yz,Y0,Y1,Y2,Y3,Y4,Y5,Y6,Y7,Y8,Y9,Va,Vb,Vc,Vd,Ve,Vf,Vg,Vh,Vi,Vj,Vk,Vl,Vm,Vn,Vo,Vp,Vq,Vr,Vs,Vt,Vu,Vv,Vw,Vx,Vy,Vz,V0,V1,V3,V4,V5,V6,V7,V8,V9,Ua,Ub,Uc,Ud,Ue,Uf,Ul,Um,Un,Uo,Uq,Ur,Us,Ut,Uu,Uv,Uw,Ux,Uy,Uz,U0,U1,U3,U4,U5,U6,U7,U8,U9,Ka,Kb,Kc,Kd,Ke,Kf,Kg,Kh,Ki,Kj,Kk,Kl,Km,Kn,Ko,Kq,Kr,Ks,Kt,Ga,Kz]
   tactic =>
    try simp only [K2] at *
    try simp only [nc2] at *
    try simp (maxSteps := 4000000) only [Gg]
    repeat' (first | with_reducible assumption | with_reducible refine And.intro ?_ ?_ | intro _ | omega | (rw [Ku]; omega))
    refine Gi [8, 9, 10, 11, 12, 13, 14, 15, 16, 17, 18, 19, 20, 21, 22, 23, 24, 25, 26] (fun k : Nat => [(5, .sl 7 (((s.take k).filter fun x => x != n).map (enc : Int → D)).length), (6, .d (.int .i64 k))]) (fun k : Nat => [(7, .row 1 (((s.take k).filter fun x => x != n).map enc) 0)]) (fun k : Nat => k ≤ s.length) (fun k : Nat => s.length - k) 0 ?_ ?_ ?_
    · simp
    · ((try simp only [Kv, Ky, Kx, K4, upd, K5, Gb, Gs, Nat.reduceDiv, Nat.reduceMod, Nat.reduceMul, Nat.reduceAdd, Nat.reduceEqDiff, List.set_cons_zero, List.set_cons_succ, if_true, if_false, reduceIte]); (first | refine Wk.of_fl ?_ | skip); simp only [Wk, wkK, Gy, wkT, wk1, AV.kept, keptAll, wkO, lk, Kw, and_true, true_and, and_self, Nat.reduceEqDiff, Nat.reduceLeDiff, if_true, if_false, reduceIte, reduceCtorEq, Option.isSome, false_implies]; try simp [Wk, wkK, wkT, wk1, AV.kept, keptAll, wkO, lk, Kw])
    rintro k hk
    have hl : ((s.take k).filter fun x => x != n).length ≤ 1000000 := Nat.le_trans (List.length_filter_le _ _) (by rw [List.length_take]; omega)
    rcases Gl k s.length with ⟨hlt, hlb⟩ | ⟨hlt, hlb⟩
    · have q1 := Hd (0 : Int) hlt
      have hsn : (s.take (k + 1)).filter (fun x => x != n) = (s.take k).filter (fun x => x != n) ++ cond (s.getD k 0 != n) [s.getD k 0] [] := by
        rw [List.take_succ_eq_append_getElem hlt, List.filter_append]
        have e : s.getD k 0 = s[k] := by simp [hlt]
        rw [e]
        cases h : (s[k] != n) <;> simp [h]
      obtain ⟨x, hx⟩ : ∃ x, s.getD k 0 = x := ⟨_, rfl⟩
      rw [hx] at q1 hsn
      obtain ⟨L, hL⟩ : ∃ L, (s.take k).filter (fun x => x != n) = L := ⟨_, rfl⟩
      obtain ⟨L2, hL2⟩ : ∃ L, (s.take (k + 1)).filter (fun x => x != n) = L := ⟨_, rfl⟩
      rw [hL, hL2] at hsn
      rw [hL] at hl ⊢
      cases hb : (x != n) with
      | true =>
        rw [hb, cond_true] at hsn
        (sym =>
         simp [hlb,q1,hb,Cx,Cz,Cy,C0,Cw,Cv,Gm.eq_def,Za,Zb,Zc,Ze,Zf,Zg,Zn,Zo,Zp,Zq,Zr,Zs,Zv,Zx,Zz,Z0,Z1,Z2,Z8,Z9,Qa,Qe,Qi,Qj,Qk,Ql,Qm,Qn,Qp,Qv,Qw,Qy,Q1,Q3,Q4,Q5,Q6,Q7,Q8,Q9,Ja,Jb,Jc,Jd,Je,Jl,Jq,Jr,Js,Jt,Ju,Jx,Jy,J9,Xa,Xb,Xc,Xd,Xe,Xf,Xg,Xh,Xi,Xj,Xk,Xl,Xm,Xn,Xq,Xs,Xt,Xu,Xv,Xw,Xx,Xy,Xz,X0,X1,X2,X3,X4,X5,X6,X7,X8,X9,Wa,Wd,We,Wf,Wg,Wh,Wi,Wj,Wl,Wm,Wn,Wo,Wp,Wq,Wr,Ws,Wt,Wu,Wv,Ww,Wx,Wy,Wz,W0,W1,W2,W3,W4,W5,W6,W7,W8,Ye,Yf,Yg,Yh,Yi,Yj,Yk,Yl,Ym,Yn,Yo,Yp,Yq,Yr,Ys,Yt,Yu,Yv,Yw,Yx,Yy,Yz,Y0,Y1,Y2,Y3,Y4,Y5,Y6,Y7,Y8,Y9,Va,Vb,Vc,Vd,Ve,Vf,Vg,Vh,Vi,Vj,Vk,Vl,Vm,Vn,Vo,Vp,Vq,Vr,Vs,Vt,Vu,Vv,Vw,Vx,Vy,Vz,V0,V1,V3,V4,V5,V6,V7,V8,V9,Ua,Ub,Uc,Ud,Ue,Uf,Ul,Um,Un,Uo,Uq,Ur,Us,Ut,Uu,Uv,Uw,Ux,Uy,Uz,U0,U1,U3,U4,U5,U6,U7,U8,U9,Ka,Kb,Kc,Kd,Ke,Kf,Kg,Kh,Ki,Kj,Kk,Kl,Km,Kn,Ko,Kq,Kr,Ks,Kt,Ga,Kz]
         tactic =>
          try simp only [K2] at *
          try simp only [nc2] at *
          try simp (maxSteps := 4000000) only [hlb,q1,hb,Gg]
          repeat' (first | with_reducible assumption | with_reducible refine And.intro ?_ ?_ | intro _ | omega | (rw [Ku]; omega))
          all_goals first
            | (with_reducible refine K9 ?_; kernel_rfl)
            | omega
            | exact ⟨k + 1, by simp only [hL2, hsn]; ((try simp only [Kv, Ky, Kx, K4, upd, K5, Gb, Gs, Nat.reduceDiv, Nat.reduceMod, Nat.reduceMul, Nat.reduceAdd, Nat.reduceEqDiff, List.set_cons_zero, List.set_cons_succ, if_true, if_false, reduceIte]); (first | refine Wk.of_fl ?_ | skip); simp only [Wk, wkK, Gy, wkT, wk1, AV.kept, keptAll, wkO, lk, Kw, and_true, true_and, and_self, Nat.reduceEqDiff, Nat.reduceLeDiff, if_true, if_false, reduceIte, reduceCtorEq, Option.isSome, false_implies]; try simp [Wk, wkK, wkT, wk1, AV.kept, keptAll, wkO, lk, Kw, List.map_append, List.length_append]), by omega, by omega⟩
            | skip)
      | false =>
        rw [hb, cond_false, List.append_nil] at hsn
        (sym =>
         simp [hlb,q1,hb,Cx,Cz,Cy,C0,Cw,Cv,Gm.eq_def,Za,Zb,Zc,Ze,Zf,Zg,Zn,Zo,Zp,Zq,Zr,Zs,Zv,Zx,Zz,Z0,Z1,Z2,Z8,Z9,Qa,Qe,Qi,Qj,Qk,Ql,Qm,Qn,Qp,Qv,Qw,Qy,Q1,Q3,Q4,Q5,Q6,Q7,Q8,Q9,Ja,Jb,Jc,Jd,Je,Jl,Jq,Jr,Js,Jt,Ju,Jx,Jy,J9,Xa,Xb,Xc,Xd,Xe,Xf,Xg,Xh,Xi,Xj,Xk,Xl,Xm,Xn,Xq,Xs,Xt,Xu,Xv,Xw,Xx,Xy,Xz,X0,X1,X2,X3,X4,X5,X6,X7,X8,X9,Wa,Wd,We,Wf,Wg,Wh,Wi,Wj,Wl,Wm,Wn,Wo,Wp,Wq,Wr,Ws,Wt,Wu,Wv,Ww,Wx,Wy,Wz,W0,W1,W2,W3,W4,W5,W6,W7,W8,Ye,Yf,Yg,Yh,Yi,Yj,Yk,Yl,Ym,Yn,Yo,Yp,Yq,Yr,Ys,Yt,Yu,Yv,Yw,Yx,Yy,Yz,Y0,Y1,Y2,Y3,Y4,Y5,Y6,Y7,Y8,Y9,Va,Vb,Vc,Vd,Ve,Vf,Vg,Vh,Vi,Vj,Vk,Vl,Vm,Vn,Vo,Vp,Vq,Vr,Vs,Vt,Vu,Vv,Vw,Vx,Vy,Vz,V0,V1,V3,V4,V5,V6,V7,V8,V9,Ua,Ub,Uc,Ud,Ue,Uf,Ul,Um,Un,Uo,Uq,Ur,Us,Ut,Uu,Uv,Uw,Ux,Uy,Uz,U0,U1,U3,U4,U5,U6,U7,U8,U9,Ka,Kb,Kc,Kd,Ke,Kf,Kg,Kh,Ki,Kj,Kk,Kl,Km,Kn,Ko,Kq,Kr,Ks,Kt,Ga,Kz]
         tactic =>
          try simp only [K2] at *
          try simp only [nc2] at *
          try simp (maxSteps := 4000000) only [hlb,q1,hb,Gg]
          repeat' (first | with_reducible assumption | with_reducible refine And.intro ?_ ?_ | intro _ | omega | (rw [Ku]; omega))
          all_goals first
            | (with_reducible refine K9 ?_; kernel_rfl)
            | omega
            | exact ⟨k + 1, by simp only [hL2, hsn]; ((try simp only [Kv, Ky, Kx, K4, upd, K5, Gb, Gs, Nat.reduceDiv, Nat.reduceMod, Nat.reduceMul, Nat.reduceAdd, Nat.reduceEqDiff, List.set_cons_zero, List.set_cons_succ, if_true, if_false, reduceIte]); (first | refine Wk.of_fl ?_ | skip); simp only [Wk, wkK, Gy, wkT, wk1, AV.kept, keptAll, wkO, lk, Kw, and_true, true_and, and_self, Nat.reduceEqDiff, Nat.reduceLeDiff, if_true, if_false, reduceIte, reduceCtorEq, Option.isSome, false_implies]; try simp [Wk, wkK, wkT, wk1, AV.kept, keptAll, wkO, lk, Kw]), by omega, by omega⟩
            | skip)
    · have hkl : k = s.length := by omega
      rw [hkl, List.take_length]
      (sym =>
       simp [hlb,Cx,Cz,Cy,C0,Cw,Cv,Gm.eq_def,Za,Zb,Zc,Ze,Zf,Zg,Zn,Zo,Zp,Zq,Zr,Zs,Zv,Zx,Zz,Z0,Z1,Z2,Z8,Z9,Qa,Qe,Qi,Qj,Qk,Ql,Qm,Qn,Qp,Qv,Qw,Qy,Q1,Q3,Q4,Q5,Q6,Q7,Q8,Q9,Ja,Jb,Jc,Jd,Je,Jl,Jq,Jr,Js,Jt,Ju,Jx,Jy,J9,Xa,Xb,Xc,Xd,Xe,Xf,Xg,Xh,Xi,Xj,Xk,Xl,Xm,Xn,Xq,Xs,Xt,Xu,Xv,Xw,Xx,Xy,Xz,X0,X1,X2,X3,X4,X5,X6,X7,X8,X9,Wa,Wd,We,Wf,Wg,Wh,Wi,Wj,Wl,Wm,Wn,Wo,Wp,Wq,Wr,Ws,Wt,Wu,Wv,Ww,Wx,Wy,Wz,W0,W1,W2,W3,W4,W5,W6,W7,W8,Ye,Yf,Yg,Yh,Yi,Yj,Yk,Yl,Ym,Yn,Yo,Yp,Yq,Yr,Ys,Yt,Yu,Yv,Yw,Yx,Yy,Yz,Y0,Y1,Y2,Y3,Y4,Y5,Y6,Y7,Y8,Y9,Va,Vb,Vc,Vd,Ve,Vf,Vg,Vh,Vi,Vj,Vk,Vl,Vm,Vn,Vo,Vp,Vq,Vr,Vs,Vt,Vu,Vv,Vw,Vx,Vy,Vz,V0,V1,V3,V4,V5,V6,V7,V8,V9,Ua,Ub,Uc,Ud,Ue,Uf,Ul,Um,Un,Uo,Uq,Ur,Us,Ut,Uu,Uv,Uw,Ux,Uy,Uz,U0,U1,U3,U4,U5,U6,U7,U8,U9,Ka,Kb,Kc,Kd,Ke,Kf,Kg,Kh,Ki,Kj,Kk,Kl,Km,Kn,Ko,Kq,Kr,Ks,Kt,Ga,Kz]
       tactic =>
        try simp only [K2] at *
        try simp only [nc2] at *
        try simp (maxSteps := 4000000) only [hlb,Gg]
        repeat' (first | with_reducible assumption | with_reducible refine And.intro ?_ ?_ | intro _ | omega | (rw [Ku]; omega))
        all_goals first
          | trivial
          | rfl))
end Go.Am.Hit
set_option linter.unusedSimpArgs false
set_option linter.unusedVariables false
set_option maxHeartbeats 1000000
namespace Go.Am.Hit
open Go.Proofs
open Enc (enc dec)
def ins (n : Int) : List Int → List Int
  | [] => [n]
  | x :: xs => cond (ltB n x) (n :: x :: xs) (x :: ins n xs)
def Pe (s : List Int) (n : Int) : List Int := cond (inB s n) s (ins n s)
theorem ins_len {n : Int} : ∀ s : List Int, (ins n s).length = s.length + 1
  | [] => rfl
  | x :: xs => by
    rw [ins]
    cases ltB n x with
    | true => rfl
    | false => rw [cond_false, List.length_cons, ins_len xs]; rfl
theorem withB_len (s : List Int) (n : Int) : (Pe s n).length ≤ s.length + 1 := by
  unfold Pe
  cases inB s n with
  | true => rw [cond_true]; omega
  | false => rw [cond_false, ins_len]; omega
def Az (p : Bool) (n : Int) (s : List Int) : List Int := cond p s (ins n s)
def N2 : Con := L3 (fun (s : Sl Int) (_ : Int) => s.l.length ≤ 1000000) (fun s n => Sl.mk (Pe s.l n))
noncomputable def Dc : Ctx := ⟨tab, lkC [(34, Hh)], 60, lkB [], [], false⟩
theorem Cb : Dc.τ = tab := rfl
theorem Cd : Dc.Γ = lkC [(34, Hh)] := rfl
theorem Cc : Dc.dp = 60 := rfl
theorem Ce : Dc.Δ = lkB [] := rfl
theorem Ca : Dc.cuts = [] := rfl
theorem T9 : Dc.wr = false := rfl
set_option maxRecDepth 100000 in
theorem good_With15 : Me Try.prog (49, N2) := by
  refine ⟨Gj Try.func49 (by kernel_rfl) rfl, ?_⟩
  have K : Hq Try.prog Dc := Gq H8 G4 (by
    intro p hp
    simp only [List.mem_cons, List.not_mem_nil, or_false] at hp
    rcases hp with rfl
    · exact good_In08) (by simp)
  obtain ⟨c, hc⟩ : ∃ c, Try.f49.body = some c := ⟨_, rfl⟩
  refine Gu K Try.func49 hc [.tmp 4] rfl 46 rfl (fun cvs hpre => ?_)
  change N2.pre cvs at hpre
  unfold N2 at hpre
  obtain ⟨⟨s⟩, n, rfl, hs⟩ := Hx hpre
  simp only at hs
  obtain ⟨R, hR⟩ : ∃ R, Pe s n = R := ⟨_, rfl⟩
  obtain ⟨p0, hp0⟩ : ∃ p, inB s n = p := ⟨_, rfl⟩
  have hR2 : Az p0 n s = R := by rw [← hR, ← hp0]; rfl
  have hRl : R.length ≤ 1000001 := by have := withB_len s n; rw [hR] at this; omega
  simp only [Try.f49, Option.some.injEq] at hc
  subst hc
  refine Hy 2 (of_decide_eq_true (by kernel_rfl)) ?_
  (sym =>
   simp [hp0,Cb,Cd,Cc,Ce,Ca,T9,Hh.eq_def,N2.eq_def,Za,Zb,Zc,Zd,Ze,Zf,Zg,Zn,Zo,Zp,Zq,Zr,Zs,Zt,Zv,Zx,Zz,Z0,Z1,Z2,Z6,Z7,Z8,Z9,Qa,Qb,Qc,Qd,Qe,Qi,Qj,Qk,Ql,Qm,Qn,Qp,Qv,Qw,Qy,Q1,Q2,Q3,Q4,Q5,Q6,Q7,Q8,Q9,Ja,Jb,Jc,Jd,Je,Jl,Jp,Jq,Jr,Js,Jt,Ju,Jx,Jy,Jz,J0,J1,J2,J3,J4,J5,J6,J7,J8,J9,Xa,Xb,Xc,Xd,Xe,Xf,Xg,Xh,Xi,Xj,Xk,Xl,Xm,Xn,Xo,Xp,Xq,Xs,Xt,Xu,Xv,Xw,Xx,Xy,Xz,X0,X1,X2,X3,X4,X5,X6,X7,X8,X9,Wa,Wd,We,Wf,Wg,Wh,Wi,Wj,Wl,Wm,Wn,Wo,Wp,Wq,Wr,Ws,Wt,Wu,Wv,Ww,Wx,Wy,Wz,W0,W1,W2,W3,W4,W5,W6,W7,W8,Yb,Yc,Yd,Ye,Yf,Yg,Yh,Yi,Yj,Yk,Yl,Ym,Yn,Yo,Yp,Yq,Yr,Ys,Yt,Yu,Yv,Yw,Yx,Yy,Yz,Y0,Y1,Y2,Y3,Y4,Y5,Y6,Y7,Y8,Y9,Va,Vb,Vc,Vd,Ve,Vf,Vg,Vh,Vi,Vj,Vk,Vl,Vm,Vn,Vo,Vp,Vq,Vr,Vs,Vt,Vu,Vv,Vw,Vx,Vy,Vz,V0,V1,V3,V4,V5,V6,V7,V8,V9,Ua,Ub,Uc,Ud,Ue,Uf,Ul,Um,Un,Uo,Uq,Ur,Us,Ut,Uu,Uv,Uw,Ux,Uy,Uz,U0,U1,U3,U4,U5,U6,U7,U8,U9,Ka,Kb,Kc,Kd,Ke,Kf,Kg,Kh,Ki,Kj,Kk,Kl,Km,Kn,Ko,Kq,Kr,Ks,Kt,Ga,G5,Kz]
   tactic =>
    try simp only [K2] at *
    try simp only [nc2] at *
    try simp (maxSteps := 4000000) only [hp0,Gg]
    repeat' (first | with_reducible assumption | with_reducible refine And.intro ?_ ?_ | intro _ | omega | (rw [Ku]; omega))
    refine Gi [12, 13, 14, 15, 16, 17, 18, 19, 20, 21, 22, 23, 24, 25, 26, 27, 28, 29, 30, 31, 32, 33, 34, 35, 36, 37, 38] (fun q : Nat × Bool × List Int => [(5, .sl 8 (q.2.2.map (enc : Int → D)).length), (6, .d (.bool q.2.1)), (7, .d (.int .i64 q.1))]) (fun q : Nat × Bool × List Int => [(8, .row 1 (q.2.2.map enc) 0)]) (fun q : Nat × Bool × List Int => q.1 ≤ s.length ∧ q.2.2 ++ Az q.2.1 n (s.drop q.1) = R) (fun q : Nat × Bool × List Int => s.length - q.1) (0, p0, []) ?_ ?_ ?_
    · exact ⟨Nat.zero_le _, hR2⟩
    · ((try simp only [Kv, Ky, Kx, K4, upd, K5, Gb, Gs, Nat.reduceDiv, Nat.reduceMod, Nat.reduceMul, Nat.reduceAdd, Nat.reduceEqDiff, List.set_cons_zero, List.set_cons_succ, if_true, if_false, reduceIte]); (first | refine Wk.of_fl ?_ | skip); simp only [Wk, wkK, Gy, wkT, wk1, AV.kept, keptAll, wkO, lk, Kw, and_true, true_and, and_self, Nat.reduceEqDiff, Nat.reduceLeDiff, if_true, if_false, reduceIte, reduceCtorEq, Option.isSome, false_implies]; try simp [Wk, wkK, wkT, wk1, AV.kept, keptAll, wkO, lk, Kw])
    rintro ⟨k, p, o⟩ ⟨hk, ho⟩
    simp only at hk ho
    have hol : o.length ≤ 1000001 := by
      have := congrArg List.length ho
      rw [List.length_append] at this
      omega
    rcases Gl k s.length with ⟨hlt, hlb⟩ | ⟨hlt, hlb⟩
    · have q1 := Hd (0 : Int) hlt
      have hd : s.drop k = s.getD k 0 :: s.drop (k + 1) := by rw [List.drop_eq_getElem_cons hlt]; simp [hlt]
      rw [hd] at ho
      obtain ⟨x, hx⟩ : ∃ x, s.getD k 0 = x := ⟨_, rfl⟩
      rw [hx] at q1 ho
      cases p with
      | true =>
        have h2 : (o ++ [x]) ++ Az true n (s.drop (k + 1)) = R := by rw [← ho]; simp [Az]
        (sym =>
         simp [hlb,q1,Cb,Cd,Cc,Ce,Ca,T9,Hh.eq_def,N2.eq_def,Za,Zb,Zc,Zd,Ze,Zf,Zg,Zn,Zo,Zp,Zq,Zr,Zs,Zt,Zv,Zx,Zz,Z0,Z1,Z2,Z6,Z7,Z8,Z9,Qa,Qb,Qc,Qd,Qe,Qi,Qj,Qk,Ql,Qm,Qn,Qp,Qv,Qw,Qy,Q1,Q2,Q3,Q4,Q5,Q6,Q7,Q8,Q9,Ja,Jb,Jc,Jd,Je,Jl,Jp,Jq,Jr,Js,Jt,Ju,Jx,Jy,Jz,J0,J1,J2,J3,J4,J5,J6,J7,J8,J9,Xa,Xb,Xc,Xd,Xe,Xf,Xg,Xh,Xi,Xj,Xk,Xl,Xm,Xn,Xo,Xp,Xq,Xs,Xt,Xu,Xv,Xw,Xx,Xy,Xz,X0,X1,X2,X3,X4,X5,X6,X7,X8,X9,Wa,Wd,We,Wf,Wg,Wh,Wi,Wj,Wl,Wm,Wn,Wo,Wp,Wq,Wr,Ws,Wt,Wu,Wv,Ww,Wx,Wy,Wz,W0,W1,W2,W3,W4,W5,W6,W7,W8,Yb,Yc,Yd,Ye,Yf,Yg,Yh,Yi,Yj,Yk,Yl,Ym,Yn,Yo,Yp,Yq,Yr,Ys,Yt,Yu,Yv,Yw,Yx,Yy,Yz,Y0,Y1,Y2,Y3,Y4,Y5,Y6,Y7,Y8,Y9,Va,Vb,Vc,Vd,Ve,Vf,Vg,Vh,Vi,Vj,Vk,Vl,Vm,Vn,Vo,Vp,Vq,Vr,Vs,Vt,Vu,Vv,Vw,Vx,Vy,Vz,V0,V1,V3,V4,V5,V6,V7,V8,V9,Ua,Ub,Uc,Ud,Ue,Uf,Ul,Um,Un,Uo,Uq,Ur,Us,Ut,Uu,Uv,Uw,Ux,Uy,Uz,U0,U1,U3,U4,U5,U6,U7,U8,U9,Ka,Kb,Kc,Kd,Ke,Kf,Kg,Kh,Ki,Kj,Kk,Kl,Km,Kn,Ko,Kq,Kr,Ks,Kt,Ga,G5,Kz]
         tactic =>
          try simp only [K2] at *
          try simp only [nc2] at *
          try simp (maxSteps := 4000000) only [hlb,q1,Gg]
          repeat' (first | with_reducible assumption | with_reducible refine And.intro ?_ ?_ | intro _ | omega | (rw [Ku]; omega))
          all_goals first
            | (with_reducible refine K9 ?_; kernel_rfl)
            | omega
            | exact ⟨(k + 1, true, o ++ [x]), by ((try simp only [Kv, Ky, Kx, K4, upd, K5, Gb, Gs, Nat.reduceDiv, Nat.reduceMod, Nat.reduceMul, Nat.reduceAdd, Nat.reduceEqDiff, List.set_cons_zero, List.set_cons_succ, if_true, if_false, reduceIte]); (first | refine Wk.of_fl ?_ | skip); simp only [Wk, wkK, Gy, wkT, wk1, AV.kept, keptAll, wkO, lk, Kw, and_true, true_and, and_self, Nat.reduceEqDiff, Nat.reduceLeDiff, if_true, if_false, reduceIte, reduceCtorEq, Option.isSome, false_implies]; try simp [Wk, wkK, wkT, wk1, AV.kept, keptAll, wkO, lk, Kw, List.map_append, List.length_append]), by simp only; omega, h2, by simp only; omega⟩
            | skip)
      | false =>
        cases hb : ltB n x with
        | true =>
          have h2 : (o ++ [n] ++ [x]) ++ Az true n (s.drop (k + 1)) = R := by rw [← ho]; simp [Az, ins, hb]
          (sym =>
           simp [hlb,q1,hb,Cb,Cd,Cc,Ce,Ca,T9,Hh.eq_def,N2.eq_def,Za,Zb,Zc,Zd,Ze,Zf,Zg,Zn,Zo,Zp,Zq,Zr,Zs,Zt,Zv,Zx,Zz,Z0,Z1,Z2,Z6,Z7,Z8,Z9,Qa,Qb,Qc,Qd,Qe,Qi,Qj,Qk,Ql,Qm,Qn,Qp,Qv,Qw,Qy,Q1,Q2,Q3,Q4,Q5,Q6,Q7,Q8,Q9,Ja,Jb,Jc,Jd,Je,Jl,Jp,Jq,Jr,Js,Jt,Ju,Jx,Jy,Jz,J0,J1,J2,J3,J4,J5,J6,J7,J8,J9,Xa,Xb,Xc,Xd,Xe,Xf,Xg,Xh,Xi,Xj,Xk,Xl,Xm,Xn,Xo,Xp,Xq,Xs,Xt,Xu,Xv,Xw,Xx,Xy,Xz,X0,X1,X2,X3,X4,X5,X6,X7,X8,X9,Wa,Wd,We,Wf,Wg,Wh,Wi,Wj,Wl,Wm,Wn,Wo,Wp,Wq,Wr,Ws,Wt,Wu,Wv,Ww,Wx,Wy,Wz,W0,W1,W2,W3,W4,W5,W6,W7,W8,Yb,Yc,Yd,Ye,Yf,Yg,Yh,Yi,Yj,Yk,Yl,Ym,Yn,Yo,Yp,Yq,Yr,Ys,Yt,Yu,Yv,Yw,Yx,Yy,Yz,Y0,Y1,Y2,Y3,Y4,Y5,Y6,Y7,Y8,Y9,Va,Vb,Vc,Vd,Ve,Vf,Vg,Vh,Vi,Vj,Vk,Vl,Vm,Vn,Vo,Vp,Vq,Vr,Vs,Vt,Vu,Vv,Vw,Vx,Vy,Vz,V0,V1,V3,V4,V5,V6,V7,V8,V9,Ua,Ub,Uc,Ud,Ue,Uf,Ul,Um,Un,Uo,Uq,Ur,Us,Ut,Uu,Uv,Uw,Ux,Uy,Uz,U0,U1,U3,U4,U5,U6,U7,U8,U9,Ka,Kb,Kc,Kd,Ke,Kf,Kg,Kh,Ki,Kj,Kk,Kl,Km,Kn,Ko,Kq,Kr,Ks,Kt,Ga,G5,Kz]
           tactic =>
            try simp only [K2] at *
            try simp only [nc2] at *
            try simp (maxSteps := 4000000) only [hlb,q1,hb,Gg]
            repeat' (first | with_reducible assumption | with_reducible refine And.intro ?_ ?_ | intro _ | omega | (rw [Ku]; omega))
            all_goals first
              | (with_reducible refine K9 ?_; kernel_rfl)
              | omega
              | exact ⟨(k + 1, true, o ++ [n] ++ [x]), by ((try simp only [Kv, Ky, Kx, K4, upd, K5, Gb, Gs, Nat.reduceDiv, Nat.reduceMod, Nat.reduceMul, Nat.reduceAdd, Nat.reduceEqDiff, List.set_cons_zero, List.set_cons_succ, if_true, if_false, reduceIte]); (first | refine Wk.of_fl ?_ | skip); simp only [Wk, wkK, Gy, wkT, wk1, AV.kept, keptAll, wkO, lk, Kw, and_true, true_and, and_self, Nat.reduceEqDiff, Nat.reduceLeDiff, if_true, if_false, reduceIte, reduceCtorEq, Option.isSome, false_implies]; try simp [Wk, wkK, wkT, wk1, AV.kept, keptAll, wkO, lk, Kw, List.map_append, List.length_append]), by simp only; omega, h2, by simp only; omega⟩
              | skip)
        | false =>
          have h2 : (o ++ [x]) ++ Az false n (s.drop (k + 1)) = R := by rw [← ho]; simp [Az, ins, hb]
          (sym =>
           simp [hlb,q1,hb,Cb,Cd,Cc,Ce,Ca,T9,Hh.eq_def,N2.eq_def,Za,Zb,Zc,Zd,Ze,Zf,Zg,Zn,Zo,Zp,Zq,Zr,Zs,Zt,Zv,Zx,Zz,Z0,Z1,Z2,Z6,Z7,Z8,Z9,Qa,Qb,Qc,Qd,Qe,Qi,Qj,Qk,Ql,Qm,Qn,Qp,Qv,Qw,Qy,Q1,Q2,Q3,Q4,Q5,Q6,Q7,Q8,Q9,Ja,Jb,Jc,Jd,Je,Jl,Jp,Jq,Jr,Js,Jt,Ju,Jx,Jy,Jz,J0,J1,J2,J3,J4,J5,J6,J7,J8,J9,Xa,Xb,Xc,Xd,Xe,Xf,Xg,Xh,Xi,Xj,Xk,Xl,Xm,Xn,Xo,Xp,Xq,Xs,Xt,Xu,Xv,Xw,Xx,Xy,Xz,X0,X1,X2,X3,X4,X5,X6,X7,X8,X9,Wa,Wd,We,Wf,Wg,Wh,Wi,Wj,Wl,Wm,Wn,Wo,Wp,Wq,Wr,Ws,Wt,Wu,Wv,Ww,Wx,Wy,Wz,W0,W1,W2,W3,W4,W5,W6,W7,W8,Yb,Yc,Yd,Ye,Yf,Yg,Yh,Yi,Yj,Yk,Yl,Ym,Yn,Yo,Yp,Yq,Yr,Ys,Yt,Yu,Yv,Yw,Yx,Yy,Yz,Y0,Y1,Y2,Y3,Y4,Y5,Y6,Y7,Y8,Y9,Va,Vb,Vc,Vd,Ve,Vf,Vg,Vh,Vi,Vj,Vk,Vl,Vm,Vn,Vo,Vp,Vq,Vr,Vs,Vt,Vu,Vv,Vw,Vx,Vy,Vz,V0,V1,V3,V4,V5,V6,V7,V8,V9,Ua,Ub,Uc,Ud,Ue,Uf,Ul,Um,Un,Uo,Uq,Ur,Us,Ut,Uu,Uv,Uw,Ux,Uy,Uz,U0,U1,U3,U4,U5,U6,U7,U8,U9,Ka,Kb,Kc,Kd,Ke,Kf,Kg,Kh,Ki,Kj,Kk,Kl,Km,Kn,Ko,Kq,Kr,Ks,Kt,Ga,G5,Kz]
           tactic =>
            try simp only [K2] at *
            try simp only [nc2] at *
            try simp (maxSteps := 4000000) only [hlb,q1,hb,Gg]
            repeat' (first | with_reducible assumption | with_reducible refine And.intro ?_ ?_ | intro _ | omega | (rw [Ku]; omega))
            all_goals first
              | (with_reducible refine K9 ?_; kernel_rfl)
              | omega
              | exact ⟨(k + 1, false, o ++ [x]), by ((try simp only [Kv, Ky, Kx, K4, upd, K5, Gb, Gs, Nat.reduceDiv, Nat.reduceMod, Nat.reduceMul, Nat.reduceAdd, Nat.reduceEqDiff, List.set_cons_zero, List.set_cons_succ, if_true, if_false, reduceIte]); (first | refine Wk.of_fl ?_ | skip); simp only [Wk, wkK, Gy, wkT, wk1, AV.kept, keptAll, wkO, lk, Kw, and_true, true_and, and_self, Nat.reduceEqDiff, Nat.reduceLeDiff, if_true, if_false, reduceIte, reduceCtorEq, Option.isSome, false_implies]; try simp [Wk, wkK, wkT, wk1, AV.kept, keptAll, wkO, lk, Kw, List.map_append, List.length_append]), by simp only; omega, h2, by simp only; omega⟩
              | skip)
    · rw [List.drop_eq_nil_of_le hlt] at ho
      cases p with
      | true =>
        have hoR : o = R := by rw [← ho]; simp [Az]
        subst hoR
        (sym =>
         simp [hlb,hR,Cb,Cd,Cc,Ce,Ca,T9,Hh.eq_def,N2.eq_def,Za,Zb,Zc,Zd,Ze,Zf,Zg,Zn,Zo,Zp,Zq,Zr,Zs,Zt,Zv,Zx,Zz,Z0,Z1,Z2,Z6,Z7,Z8,Z9,Qa,Qb,Qc,Qd,Qe,Qi,Qj,Qk,Ql,Qm,Qn,Qp,Qv,Qw,Qy,Q1,Q2,Q3,Q4,Q5,Q6,Q7,Q8,Q9,Ja,Jb,Jc,Jd,Je,Jl,Jp,Jq,Jr,Js,Jt,Ju,Jx,Jy,Jz,J0,J1,J2,J3,J4,J5,J6,J7,J8,J9,Xa,Xb,Xc,Xd,Xe,Xf,Xg,Xh,Xi,Xj,Xk,Xl,Xm,Xn,Xo,Xp,Xq,Xs,Xt,Xu,Xv,Xw,Xx,Xy,Xz,X0,X1,X2,X3,X4,X5,X6,X7,X8,X9,Wa,Wd,We,Wf,Wg,Wh,Wi,Wj,Wl,Wm,Wn,Wo,Wp,Wq,Wr,Ws,Wt,Wu,Wv,Ww,Wx,Wy,Wz,W0,W1,W2,W3,W4,W5,W6,W7,W8,Yb,Yc,Yd,Ye,Yf,Yg,Yh,Yi,Yj,Yk,Yl,Ym,Yn,Yo,Yp,Yq,Yr,Ys,Yt,Yu,Yv,Yw,Yx,Yy,Yz,Y0,Y1,Y2,Y3,Y4,Y5,Y6,Y7,Y8,Y9,Va,Vb,Vc,Vd,Ve,Vf,Vg,Vh,Vi,Vj,Vk,Vl,Vm,Vn,Vo,Vp,Vq,Vr,Vs,Vt,Vu,Vv,Vw,Vx,Vy,Vz,V0,V1,V3,V4,V5,V6,V7,V8,V9,Ua,Ub,Uc,Ud,Ue,Uf,Ul,Um,Un,Uo,Uq,Ur,Us,Ut,Uu,Uv,Uw,Ux,Uy,Uz,U0,U1,U3,U4,U5,U6,U7,U8,U9,Ka,Kb,Kc,Kd,Ke,Kf,Kg,Kh,Ki,Kj,Kk,Kl,Km,Kn,Ko,Kq,Kr,Ks,Kt,Ga,G5,Kz]
         tactic =>
          try simp only [K2] at *
          try simp only [nc2] at *
          try simp (maxSteps := 4000000) only [hlb,hR,Gg]
          repeat' (first | with_reducible assumption | with_reducible refine And.intro ?_ ?_ | intro _ | omega | (rw [Ku]; omega))
          all_goals first
            | (with_reducible refine K9 ?_; kernel_rfl)
            | omega
            | rfl
            | skip)
      | false =>
        have hoR : o ++ [n] = R := by rw [← ho]; simp [Az, ins]
        (sym =>
         simp [hlb,hR,Cb,Cd,Cc,Ce,Ca,T9,Hh.eq_def,N2.eq_def,Za,Zb,Zc,Zd,Ze,Zf,Zg,Zn,Zo,Zp,Zq,Zr,Zs,Zt,Zv,Zx,Zz,Z0,Z1,Z2,Z6,Z7,Z8,Z9,Qa,Qb,Qc,Qd,Qe,Qi,Qj,Qk,Ql,Qm,Qn,Qp,Qv,Qw,Qy,Q1,Q2,Q3,Q4,Q5,Q6,Q7,Q8,Q9,Ja,Jb,Jc,Jd,Je,Jl,Jp,Jq,Jr,Js,Jt,Ju,Jx,Jy,Jz,J0,J1,J2,J3,J4,J5,J6,J7,J8,J9,Xa,Xb,Xc,Xd,Xe,Xf,Xg,Xh,Xi,Xj,Xk,Xl,Xm,Xn,Xo,Xp,Xq,Xs,Xt,Xu,Xv,Xw,Xx,Xy,Xz,X0,X1,X2,X3,X4,X5,X6,X7,X8,X9,Wa,Wd,We,Wf,Wg,Wh,Wi,Wj,Wl,Wm,Wn,Wo,Wp,Wq,Wr,Ws,Wt,Wu,Wv,Ww,Wx,Wy,Wz,W0,W1,W2,W3,W4,W5,W6,W7,W8,Yb,Yc,Yd,Ye,Yf,Yg,Yh,Yi,Yj,Yk,Yl,Ym,Yn,Yo,Yp,Yq,Yr,Ys,Yt,Yu,Yv,Yw,Yx,Yy,Yz,Y0,Y1,Y2,Y3,Y4,Y5,Y6,Y7,Y8,Y9,Va,Vb,Vc,Vd,Ve,Vf,Vg,Vh,Vi,Vj,Vk,Vl,Vm,Vn,Vo,Vp,Vq,Vr,Vs,Vt,Vu,Vv,Vw,Vx,Vy,Vz,V0,V1,V3,V4,V5,V6,V7,V8,V9,Ua,Ub,Uc,Ud,Ue,Uf,Ul,Um,Un,Uo,Uq,Ur,Us,Ut,Uu,Uv,Uw,Ux,Uy,Uz,U0,U1,U3,U4,U5,U6,U7,U8,U9,Ka,Kb,Kc,Kd,Ke,Kf,Kg,Kh,Ki,Kj,Kk,Kl,Km,Kn,Ko,Kq,Kr,Ks,Kt,Ga,G5,Kz]
         tactic =>
          try simp only [K2] at *
          try simp only [nc2] at *
          try simp (maxSteps := 4000000) only [hlb,hR,Gg]
          repeat' (first | with_reducible assumption | with_reducible refine And.intro ?_ ?_ | intro _ | omega | (rw [Ku]; omega))
          all_goals first
            | (with_reducible refine K9 ?_; kernel_rfl)
            | omega
            | rw [hoR]
            | skip))
def D4 (o : List Int) (s : List Int) : List Int := s.foldl Pe o
def Bo (l : List (Sl Int)) : List Int := l.foldl (fun o s => D4 o s.l) []
theorem numsS_len : ∀ (s o : List Int), (D4 o s).length ≤ o.length + s.length
  | [], o => by simp [D4]
  | x :: s, o => by
    have h1 := numsS_len s (Pe o x)
    have h2 := withB_len o x
    show (D4 (Pe o x) s).length ≤ _
    rw [List.length_cons]
    omega
theorem numsS_snoc (o s : List Int) (x : Int) : D4 o (s ++ [x]) = Pe (D4 o s) x := by simp [D4]
def Sm (l : List (Sl Int)) : Prop := l.length ≤ 1000 ∧ ∀ j, (l.getD j ⟨[]⟩).l.length ≤ 500
theorem numsB_len {l : List (Sl Int)} (h : Sm l) : ∀ k, k ≤ l.length → (Bo (l.take k)).length ≤ 500 * k
  | 0, _ => by simp [Bo]
  | k + 1, hk => by
    have ih := numsB_len h k (by omega)
    have h1 := h.2 k
    have hlt : k < l.length := by omega
    rw [List.getD_eq_getElem?_getD, List.getElem?_eq_getElem hlt, Option.getD_some] at h1
    rw [List.take_succ_eq_append_getElem hlt]
    unfold Bo at ih ⊢
    rw [List.foldl_append]
    have h2 := numsS_len l[k].l ((l.take k).foldl (fun o s => D4 o s.l) [])
    show (D4 _ l[k].l).length ≤ _
    omega
def G3 : Con := con1 (fun (l : Sl (Sl Int)) => Sm l.l) (fun l => Sl.mk (Bo l.l))
noncomputable def Bq : Ctx := ⟨tab, lkC [(49, N2)], 60, lkB [], [], false⟩
theorem Sf : Bq.τ = tab := rfl
theorem Sh : Bq.Γ = lkC [(49, N2)] := rfl
theorem Sg : Bq.dp = 60 := rfl
theorem Si : Bq.Δ = lkB [] := rfl
theorem Se : Bq.cuts = [] := rfl
theorem Sd : Bq.wr = false := rfl
set_option maxRecDepth 100000 in
theorem good_numbers16 : Me Try.prog (28, G3) := by
  refine ⟨Gj Try.func28 (by kernel_rfl) rfl, ?_⟩
  have K : Hq Try.prog Bq := Gq H8 G4 (by
    intro p hp
    simp only [List.mem_cons, List.not_mem_nil, or_false] at hp
    rcases hp with rfl
    · exact good_With15) (by simp)
  obtain ⟨c, hc⟩ : ∃ c, Try.f28.body = some c := ⟨_, rfl⟩
  refine Gu K Try.func28 hc [.tmp 2] rfl 32 rfl (fun cvs hpre => ?_)
  change G3.pre cvs at hpre
  unfold G3 at hpre
  obtain ⟨⟨l⟩, rfl, hS⟩ := Ct hpre
  have hS' : Sm l := hS
  obtain ⟨hl, hl2⟩ : Sm l := hS
  have hlo : l.length ≤ 9223372036854775807 := by omega
  clear hpre
  simp only [Try.f28, Option.some.injEq] at hc
  subst hc
  refine Hy 2 (of_decide_eq_true (by kernel_rfl)) ?_
  (sym =>
   simp [Sf,Sh,Sg,Si,Se,Sd,N2.eq_def,G3.eq_def,Za,Zb,Zc,Ze,Zf,Zg,Zn,Zo,Zp,Zq,Zr,Zs,Zv,Zx,Zz,Z2,Z6,Z7,Z8,Z9,Qa,Qb,Qc,Qd,Qe,Qi,Qj,Qk,Ql,Qm,Qn,Qp,Qv,Qw,Qy,Q1,Q2,Q3,Q4,Q5,Q6,Q7,Q8,Q9,Ja,Jb,Jc,Jd,Je,Jl,Jp,Jq,Jr,Js,Jt,Ju,Jx,Jy,Jz,J0,J1,J2,J3,J4,J5,J6,J7,J8,J9,Xa,Xb,Xc,Xd,Xe,Xf,Xg,Xh,Xi,Xj,Xk,Xl,Xm,Xn,Xo,Xp,Xq,Xs,Xt,Xu,Xv,Xw,Xx,Xy,Xz,X0,X1,X2,X3,X4,X5,X6,X7,X8,X9,Wa,Wd,We,Wf,Wg,Wh,Wi,Wj,Wl,Wm,Wn,Wo,Wp,Wq,Wr,Ws,Wt,Wu,Wv,Ww,Wx,Wy,Wz,W0,W1,W2,W3,W4,W5,W6,W7,W8,Yb,Yc,Yd,Ye,Yf,Yg,Yh,Yi,Yj,Yk,Yl,Ym,Yn,Yo,Yp,Yq,Yr,Ys,Yt,Yu,Yv,Yw,Yx,Yy,Yz,Y0,Y1,Y2,Y3,Y4,Y5,Y6,Y7,Y8,Y9,Va,Vb,Vc,Vd,Ve,Vf,Vg,Vh,Vi,Vj,Vk,Vl,Vm,Vn,Vo,Vp,Vq,Vr,Vs,Vt,Vu,Vv,Vw,Vx,Vy,Vz,V0,V1,V3,V4,V5,V6,V7,V8,V9,Ua,Ub,Uc,Ud,Ue,Uf,Ul,Um,Un,Uo,Uq,Ur,Us,Ut,Uu,Uv,Uw,Ux,Uy,Uz,U0,U1,U3,U4,U5,U6,U7,U8,U9,Ka,Kb,Kc,Kd,Ke,Kf,Kg,Kh,Ki,Kj,Kk,Kl,Km,Kn,Ko,Kq,Kr,Ks,Kt,Ga,K8,Kz]
   tactic =>
    try simp only [K2] at *
    try simp only [nc2] at *
    try simp (maxSteps := 4000000) only [Gg]
    repeat' (first | with_reducible assumption | with_reducible refine And.intro ?_ ?_ | intro _ | omega | (rw [Ku]; omega))
    refine aLoop_killP [3] [5, 7, 8, 9, 10, 11, 12, 13, 14, 15, 16, 17, 18, 19, 20, 21, 22, 23, 24, 25, 26, 27, 28, 29, 30] (fun q : Nat × List Int => [(3, .d (enc (Sl.mk q.2))), (4, .d (.int .i64 q.1))]) (fun q : Nat × List Int => []) (fun q : Nat × List Int => q.1 ≤ l.length ∧ q.2 = Bo (l.take q.1)) (fun q : Nat × List Int => l.length - q.1) (0, []) ?_ ?_ ?_
    · exact ⟨Nat.zero_le _, rfl⟩
    · ((simp only [WkP, getD_fl', getC, K5, Gb, Gs, pur, lk, upd, List.getD_cons_zero, List.getD_cons_succ, List.set_cons_zero, List.set_cons_succ, Nat.reduceDiv, Nat.reduceMod, Nat.reduceMul, Nat.reduceAdd, Nat.reduceEqDiff, if_true, if_false, reduceIte]); refine And.intro (by simp) ?_; ((try simp only [Kv, Ky, Kx, K4, upd, K5, Gb, Gs, Nat.reduceDiv, Nat.reduceMod, Nat.reduceMul, Nat.reduceAdd, Nat.reduceEqDiff, List.set_cons_zero, List.set_cons_succ, if_true, if_false, reduceIte]); (first | refine Wk.of_fl ?_ | skip); simp only [Wk, wkK, Gy, wkT, wk1, AV.kept, keptAll, wkO, lk, Kw, and_true, true_and, and_self, Nat.reduceEqDiff, Nat.reduceLeDiff, if_true, if_false, reduceIte, reduceCtorEq, Option.isSome, false_implies]; try simp [Wk, wkK, wkT, wk1, AV.kept, keptAll, wkO, lk, Kw]))
      all_goals rfl
    rintro ⟨k, o⟩ ⟨hk, ho⟩
    simp only at hk ho
    have hol := numsB_len hS' k hk
    rw [← ho] at hol
    rcases Gl k l.length with ⟨hlt, hlb⟩ | ⟨hlt, hlb⟩
    · have q1 := Hd (⟨[]⟩ : Sl Int) hlt
      have h1 := hl2 k
      have hsn : Bo (l.take (k + 1)) = D4 o (l.getD k ⟨[]⟩).l := by
        have e : l.getD k ⟨[]⟩ = l[k] := by simp [hlt]
        rw [List.take_succ_eq_append_getElem hlt, ho, e]
        unfold Bo
        rw [List.foldl_append]
        rfl
      obtain ⟨⟨s⟩, hs⟩ : ∃ s, l.getD k ⟨[]⟩ = s := ⟨_, rfl⟩
      rw [hs] at q1 h1 hsn
      simp only at h1 hsn
      (sym =>
       simp [hlb,q1,Sf,Sh,Sg,Si,Se,Sd,N2.eq_def,G3.eq_def,Za,Zb,Zc,Ze,Zf,Zg,Zn,Zo,Zp,Zq,Zr,Zs,Zv,Zx,Zz,Z2,Z6,Z7,Z8,Z9,Qa,Qb,Qc,Qd,Qe,Qi,Qj,Qk,Ql,Qm,Qn,Qp,Qv,Qw,Qy,Q1,Q2,Q3,Q4,Q5,Q6,Q7,Q8,Q9,Ja,Jb,Jc,Jd,Je,Jl,Jp,Jq,Jr,Js,Jt,Ju,Jx,Jy,Jz,J0,J1,J2,J3,J4,J5,J6,J7,J8,J9,Xa,Xb,Xc,Xd,Xe,Xf,Xg,Xh,Xi,Xj,Xk,Xl,Xm,Xn,Xo,Xp,Xq,Xs,Xt,Xu,Xv,Xw,Xx,Xy,Xz,X0,X1,X2,X3,X4,X5,X6,X7,X8,X9,Wa,Wd,We,Wf,Wg,Wh,Wi,Wj,Wl,Wm,Wn,Wo,Wp,Wq,Wr,Ws,Wt,Wu,Wv,Ww,Wx,Wy,Wz,W0,W1,W2,W3,W4,W5,W6,W7,W8,Yb,Yc,Yd,Ye,Yf,Yg,Yh,Yi,Yj,Yk,Yl,Ym,Yn,Yo,Yp,Yq,Yr,Ys,Yt,Yu,Yv,Yw,Yx,Yy,Yz,Y0,Y1,Y2,Y3,Y4,Y5,Y6,Y7,Y8,Y9,Va,Vb,Vc,Vd,Ve,Vf,Vg,Vh,Vi,Vj,Vk,Vl,Vm,Vn,Vo,Vp,Vq,Vr,Vs,Vt,Vu,Vv,Vw,Vx,Vy,Vz,V0,V1,V3,V4,V5,V6,V7,V8,V9,Ua,Ub,Uc,Ud,Ue,Uf,Ul,Um,Un,Uo,Uq,Ur,Us,Ut,Uu,Uv,Uw,Ux,Uy,Uz,U0,U1,U3,U4,U5,U6,U7,U8,U9,Ka,Kb,Kc,Kd,Ke,Kf,Kg,Kh,Ki,Kj,Kk,Kl,Km,Kn,Ko,Kq,Kr,Ks,Kt,Ga,K8,Kz]
       tactic =>
        try simp only [K2] at *
        try simp only [nc2] at *
        try simp (maxSteps := 4000000) only [hlb,q1,Gg]
        repeat' (first | with_reducible assumption | with_reducible refine And.intro ?_ ?_ | intro _ | omega | (rw [Ku]; omega))
        refine Gi [13, 14, 15, 16, 17, 18, 19, 20, 21, 22, 23, 24, 25, 26, 27, 28, 29, 30] (fun r : Nat × List Int => [(3, .d (enc (Sl.mk r.2))), (5, .d (.int .i64 r.1))]) (fun r : Nat × List Int => []) (fun r : Nat × List Int => r.1 ≤ s.length ∧ r.2 = D4 o (s.take r.1)) (fun r : Nat × List Int => s.length - r.1) (0, o) ?_ ?_ ?_
        · exact ⟨Nat.zero_le _, rfl⟩
        · ((try simp only [Kv, Ky, Kx, K4, upd, K5, Gb, Gs, Nat.reduceDiv, Nat.reduceMod, Nat.reduceMul, Nat.reduceAdd, Nat.reduceEqDiff, List.set_cons_zero, List.set_cons_succ, if_true, if_false, reduceIte]); (first | refine Wk.of_fl ?_ | skip); simp only [Wk, wkK, Gy, wkT, wk1, AV.kept, keptAll, wkO, lk, Kw, and_true, true_and, and_self, Nat.reduceEqDiff, Nat.reduceLeDiff, if_true, if_false, reduceIte, reduceCtorEq, Option.isSome, false_implies]; try simp [Wk, wkK, wkT, wk1, AV.kept, keptAll, wkO, lk, Kw])
        rintro ⟨j, u⟩ ⟨hj, hu⟩
        simp only at hj hu
        have hul : u.length ≤ 1000000 := by
          have := numsS_len (s.take j) o
          rw [← hu, List.length_take] at this
          omega
        rcases Gl j s.length with ⟨hjt, hjb⟩ | ⟨hjt, hjb⟩
        · have q2 := Hd (0 : Int) hjt
          have hun : Pe u (s.getD j 0) = D4 o (s.take (j + 1)) := by
            rw [List.take_succ_eq_append_getElem hjt, numsS_snoc, hu]
            simp [hjt]
          obtain ⟨x, hx⟩ : ∃ x, s.getD j 0 = x := ⟨_, rfl⟩
          rw [hx] at q2 hun
          (sym =>
           simp [hlb,q1,hjb,q2,Sf,Sh,Sg,Si,Se,Sd,N2.eq_def,G3.eq_def,Za,Zb,Zc,Ze,Zf,Zg,Zn,Zo,Zp,Zq,Zr,Zs,Zv,Zx,Zz,Z2,Z6,Z7,Z8,Z9,Qa,Qb,Qc,Qd,Qe,Qi,Qj,Qk,Ql,Qm,Qn,Qp,Qv,Qw,Qy,Q1,Q2,Q3,Q4,Q5,Q6,Q7,Q8,Q9,Ja,Jb,Jc,Jd,Je,Jl,Jp,Jq,Jr,Js,Jt,Ju,Jx,Jy,Jz,J0,J1,J2,J3,J4,J5,J6,J7,J8,J9,Xa,Xb,Xc,Xd,Xe,Xf,Xg,Xh,Xi,Xj,Xk,Xl,Xm,Xn,Xo,Xp,Xq,Xs,Xt,Xu,Xv,Xw,Xx,Xy,Xz,X0,X1,X2,X3,X4,X5,X6,X7,X8,X9,Wa,Wd,We,Wf,Wg,Wh,Wi,Wj,Wl,Wm,Wn,Wo,Wp,Wq,Wr,Ws,Wt,Wu,Wv,Ww,Wx,Wy,Wz,W0,W1,W2,W3,W4,W5,W6,W7,W8,Yb,Yc,Yd,Ye,Yf,Yg,Yh,Yi,Yj,Yk,Yl,Ym,Yn,Yo,Yp,Yq,Yr,Ys,Yt,Yu,Yv,Yw,Yx,Yy,Yz,Y0,Y1,Y2,Y3,Y4,Y5,Y6,Y7,Y8,Y9,Va,Vb,Vc,Vd,Ve,Vf,Vg,Vh,Vi,Vj,Vk,Vl,Vm,Vn,Vo,Vp,Vq,Vr,Vs,Vt,Vu,Vv,Vw,Vx,Vy,Vz,V0,V1,V3,V4,V5,V6,V7,V8,V9,Ua,Ub,Uc,Ud,Ue,Uf,Ul,Um,Un,Uo,Uq,Ur,Us,Ut,Uu,Uv,Uw,Ux,Uy,Uz,U0,U1,U3,U4,U5,U6,U7,U8,U9,Ka,Kb,Kc,Kd,Ke,Kf,Kg,Kh,Ki,Kj,Kk,Kl,Km,Kn,Ko,Kq,Kr,Ks,Kt,Ga,K8,Kz]
           tactic =>
            try simp only [K2] at *
            try simp only [nc2] at *
            try simp (maxSteps := 4000000) only [hlb,q1,hjb,q2,Gg]
            repeat' (first | with_reducible assumption | with_reducible refine And.intro ?_ ?_ | intro _ | omega | (rw [Ku]; omega))
            all_goals first
              | (with_reducible refine K9 ?_; kernel_rfl)
              | omega
              | exact ⟨(j + 1, Pe u x), by ((try simp only [Kv, Ky, Kx, K4, upd, K5, Gb, Gs, Nat.reduceDiv, Nat.reduceMod, Nat.reduceMul, Nat.reduceAdd, Nat.reduceEqDiff, List.set_cons_zero, List.set_cons_succ, if_true, if_false, reduceIte]); (first | refine Wk.of_fl ?_ | skip); simp only [Wk, wkK, Gy, wkT, wk1, AV.kept, keptAll, wkO, lk, Kw, and_true, true_and, and_self, Nat.reduceEqDiff, Nat.reduceLeDiff, if_true, if_false, reduceIte, reduceCtorEq, Option.isSome, false_implies]; try simp [Wk, wkK, wkT, wk1, AV.kept, keptAll, wkO, lk, Kw]), by simp only; omega, hun, by simp only; omega⟩
              | skip)
        · have hjs : j = s.length := by omega
          rw [hjs, List.take_length] at hu
          (sym =>
           simp [hlb,q1,hjb,Sf,Sh,Sg,Si,Se,Sd,N2.eq_def,G3.eq_def,Za,Zb,Zc,Ze,Zf,Zg,Zn,Zo,Zp,Zq,Zr,Zs,Zv,Zx,Zz,Z2,Z6,Z7,Z8,Z9,Qa,Qb,Qc,Qd,Qe,Qi,Qj,Qk,Ql,Qm,Qn,Qp,Qv,Qw,Qy,Q1,Q2,Q3,Q4,Q5,Q6,Q7,Q8,Q9,Ja,Jb,Jc,Jd,Je,Jl,Jp,Jq,Jr,Js,Jt,Ju,Jx,Jy,Jz,J0,J1,J2,J3,J4,J5,J6,J7,J8,J9,Xa,Xb,Xc,Xd,Xe,Xf,Xg,Xh,Xi,Xj,Xk,Xl,Xm,Xn,Xo,Xp,Xq,Xs,Xt,Xu,Xv,Xw,Xx,Xy,Xz,X0,X1,X2,X3,X4,X5,X6,X7,X8,X9,Wa,Wd,We,Wf,Wg,Wh,Wi,Wj,Wl,Wm,Wn,Wo,Wp,Wq,Wr,Ws,Wt,Wu,Wv,Ww,Wx,Wy,Wz,W0,W1,W2,W3,W4,W5,W6,W7,W8,Yb,Yc,Yd,Ye,Yf,Yg,Yh,Yi,Yj,Yk,Yl,Ym,Yn,Yo,Yp,Yq,Yr,Ys,Yt,Yu,Yv,Yw,Yx,Yy,Yz,Y0,Y1,Y2,Y3,Y4,Y5,Y6,Y7,Y8,Y9,Va,Vb,Vc,Vd,Ve,Vf,Vg,Vh,Vi,Vj,Vk,Vl,Vm,Vn,Vo,Vp,Vq,Vr,Vs,Vt,Vu,Vv,Vw,Vx,Vy,Vz,V0,V1,V3,V4,V5,V6,V7,V8,V9,Ua,Ub,Uc,Ud,Ue,Uf,Ul,Um,Un,Uo,Uq,Ur,Us,Ut,Uu,Uv,Uw,Ux,Uy,Uz,U0,U1,U3,U4,U5,U6,U7,U8,U9,Ka,Kb,Kc,Kd,Ke,Kf,Kg,Kh,Ki,Kj,Kk,Kl,Km,Kn,Ko,Kq,Kr,Ks,Kt,Ga,K8,Kz]
           tactic =>
            try simp only [K2] at *
            try simp only [nc2] at *
            try simp (maxSteps := 4000000) only [hlb,q1,hjb,Gg]
            repeat' (first | with_reducible assumption | with_reducible refine And.intro ?_ ?_ | intro _ | omega | (rw [Ku]; omega))
            all_goals first
              | (with_reducible refine K9 ?_; kernel_rfl)
              | omega
              | exact ⟨(k + 1, u), by ((try simp only [Kv, Ky, Kx, K4, upd, K5, Gb, Gs, Nat.reduceDiv, Nat.reduceMod, Nat.reduceMul, Nat.reduceAdd, Nat.reduceEqDiff, List.set_cons_zero, List.set_cons_succ, if_true, if_false, reduceIte]); (first | refine Wk.of_fl ?_ | skip); simp only [Wk, wkK, Gy, wkT, wk1, AV.kept, keptAll, wkO, lk, Kw, and_true, true_and, and_self, Nat.reduceEqDiff, Nat.reduceLeDiff, if_true, if_false, reduceIte, reduceCtorEq, Option.isSome, false_implies]; try simp [Wk, wkK, wkT, wk1, AV.kept, keptAll, wkO, lk, Kw]), by simp only; omega, by rw [hu, hsn], by simp only; omega⟩
              | skip))
    · have hkl : k = l.length := by omega
      rw [hkl, List.take_length] at ho
      subst ho
      (sym =>
       simp [hlb,Sf,Sh,Sg,Si,Se,Sd,N2.eq_def,G3.eq_def,Za,Zb,Zc,Ze,Zf,Zg,Zn,Zo,Zp,Zq,Zr,Zs,Zv,Zx,Zz,Z2,Z6,Z7,Z8,Z9,Qa,Qb,Qc,Qd,Qe,Qi,Qj,Qk,Ql,Qm,Qn,Qp,Qv,Qw,Qy,Q1,Q2,Q3,Q4,Q5,Q6,Q7,Q8,Q9,Ja,Jb,Jc,Jd,Je,Jl,Jp,Jq,Jr,Js,Jt,Ju,Jx,Jy,Jz,J0,J1,J2,J3,J4,J5,J6,J7,J8,J9,Xa,Xb,Xc,Xd,Xe,Xf,Xg,Xh,Xi,Xj,Xk,Xl,Xm,Xn,Xo,Xp,Xq,Xs,Xt,Xu,Xv,Xw,Xx,Xy,Xz,X0,X1,X2,X3,X4,X5,X6,X7,X8,X9,Wa,Wd,We,Wf,Wg,Wh,Wi,Wj,Wl,Wm,Wn,Wo,Wp,Wq,Wr,Ws,Wt,Wu,Wv,Ww,Wx,Wy,Wz,W0,W1,W2,W3,W4,W5,W6,W7,W8,Yb,Yc,Yd,Ye,Yf,Yg,Yh,Yi,Yj,Yk,Yl,Ym,Yn,Yo,Yp,Yq,Yr,Ys,Yt,Yu,Yv,Yw,Yx,Yy,Yz,Y0,Y1,Y2,Y3,Y4,Y5,Y6,Y7,Y8,Y9,Va,Vb,Vc,Vd,Ve,Vf,Vg,Vh,Vi,Vj,Vk,Vl,Vm,Vn,Vo,Vp,Vq,Vr,Vs,Vt,Vu,Vv,Vw,Vx,Vy,Vz,V0,V1,V3,V4,V5,V6,V7,V8,V9,Ua,Ub,Uc,Ud,Ue,Uf,Ul,Um,Un,Uo,Uq,Ur,Us,Ut,Uu,Uv,Uw,Ux,Uy,Uz,U0,U1,U3,U4,U5,U6,U7,U8,U9,Ka,Kb,Kc,Kd,Ke,Kf,Kg,Kh,Ki,Kj,Kk,Kl,Km,Kn,Ko,Kq,Kr,Ks,Kt,Ga,K8,Kz]))
end Go.Am.Hit
set_option linter.unusedSimpArgs false
set_option linter.unusedVariables false
set_option maxHeartbeats 1000000
namespace Go.Am.Hit
open Go.Proofs
open Enc (enc dec)
def anyB (s t : List Int) : Bool := s.any fun x => inB t x
def hitB (s : List Int) (l : List (Sl Int)) : Bool := l.all fun t => anyB s t.l
theorem anyB_snoc {s t : List Int} {x : Int} : anyB (s ++ [x]) t = (anyB s t || inB t x) := by simp [anyB]
theorem anyB_take {s t : List Int} {k : Nat} (h : k < s.length) : anyB (s.take (k + 1)) t = (anyB (s.take k) t || inB t (s.getD k 0)) := by
  rw [List.take_succ_eq_append_getElem h, anyB_snoc]
  simp [h]
def H2 : Con := L3 (fun (s : Sl Int) (l : Sl (Sl Int)) => Lo s.l.length ∧ Rw l.l) (fun s l => hitB s.l l.l)
noncomputable def Dj : Ctx := ⟨tab, lkC [(34, Hh)], 60, lkB [], [], false⟩
theorem Lm : Dj.τ = tab := rfl
theorem Lp : Dj.Γ = lkC [(34, Hh)] := rfl
theorem Ln : Dj.dp = 60 := rfl
theorem Lq : Dj.Δ = lkB [] := rfl
theorem Ll : Dj.cuts = [] := rfl
theorem Lk : Dj.wr = false := rfl
set_option maxRecDepth 100000 in
theorem good_Hits16 : Me Try.prog (22, H2) := by
  refine ⟨Gj Try.func22 (by kernel_rfl) rfl, ?_⟩
  have K : Hq Try.prog Dj := Gq H8 G4 (by
    intro p hp
    simp only [List.mem_cons, List.not_mem_nil, or_false] at hp
    rcases hp with rfl
    · exact good_In08) (by simp)
  obtain ⟨c, hc⟩ : ∃ c, Try.f22.body = some c := ⟨_, rfl⟩
  refine Gu K Try.func22 hc [.tmp 4] rfl 34 rfl (fun cvs hpre => ?_)
  change H2.pre cvs at hpre
  unfold H2 at hpre
  obtain ⟨⟨s⟩, ⟨l⟩, rfl, hs, ⟨hl, hl2⟩⟩ := Hx hpre
  simp only at hs hl hl2
  clear hpre
  simp only [Try.f22, Option.some.injEq] at hc
  subst hc
  refine Hy 2 (of_decide_eq_true (by kernel_rfl)) ?_
  (sym =>
   simp [Lm,Lp,Ln,Lq,Ll,Lk,H2.eq_def,Hh.eq_def,Za,Zb,Zc,Zd,Ze,Zf,Zg,Zh,Zi,Zj,Zk,Zl,Zm,Zn,Zo,Zp,Zq,Zr,Zs,Zt,Zv,Zx,Z2,Z6,Z7,Z8,Z9,Qa,Qb,Qc,Qd,Qe,Qi,Qj,Qk,Ql,Qm,Qn,Qo,Qp,Qv,Qw,Qy,Qz,Q0,Q1,Q2,Q3,Q8,Ja,Jb,Jc,Jd,Je,Jl,Jp,Jq,Jr,Js,Jt,Ju,Jx,Jy,Jz,J0,J1,J2,J3,J4,J5,J6,J7,J8,Xb,Xc,Xd,Xe,Xf,Xg,Xh,Xi,Xj,Xk,Xl,Xm,Xn,Xo,Xp,Xq,Xs,Xt,Xu,Xv,Xw,Xx,Xy,Xz,X0,X1,X2,X3,X4,X5,X6,X7,X8,X9,Wa,Wb,Wc,Wd,We,Wf,Wg,Wh,Wi,Wj,Wl,Wm,Wn,Wo,Wp,Wq,Wr,Ws,Wt,Wu,Wv,Ww,Wx,Wy,Wz,W0,W1,W2,W3,W4,W5,W6,W7,W8,Yb,Yc,Yd,Ye,Yf,Yg,Yh,Yi,Yj,Yk,Yl,Ym,Yn,Yo,Yp,Yq,Yr,Ys,Yt,Yu,Yv,Yw,Yx,Yy,Yz,Y0,Y1,Y2,Y3,Y4,Y5,Y6,Y7,Y8,Y9,Va,Vb,Vc,Vd,Ve,Vf,Vg,Vh,Vi,Vj,Vk,Vl,Vm,Vn,Vo,Vp,Vq,Vr,Vs,Vt,Vu,Vv,Vw,Vx,Vy,Vz,V0,V1,V3,V4,V5,V6,V7,V8,V9,Ua,Ub,Uc,Ud,Ue,Uf,Ul,Um,Uq,Ur,Us,Ut,Uu,Uv,Uw,Ux,Uy,Uz,U0,U1,U3,U4,U5,U6,U7,U8,U9,Ka,Kb,Kc,Kd,Ke,Kf,Kg,Kh,Ki,Kj,Kk,Kl,Km,Kn,Ko,Kq,Kr,Ks,Kt,Ga,G5,K8,Kz]
   tactic =>
    try simp only [K2] at *
    try simp only [nc2] at *
    try simp (maxSteps := 4000000) only [Gg]
    repeat' (first | with_reducible assumption | with_reducible refine And.intro ?_ ?_ | intro _ | omega | (rw [Ku]; omega))
    refine Gi [4, 6, 7, 8, 9, 10, 11, 12, 13, 14, 15, 16, 17, 18, 19, 20, 21, 22, 23, 24, 25, 26, 27, 28, 29, 30, 31, 32, 33] (fun k : Nat => [(5, .d (.int .i64 k))]) (fun k : Nat => []) (fun k : Nat => k ≤ l.length ∧ ∀ j, j < k → anyB s (l.getD j ⟨[]⟩).l = true) (fun k : Nat => l.length - k) 0 ?_ ?_ ?_
    · simp
    · ((try simp only [Kv, Ky, Kx, K4, upd, K5, Gb, Gs, Nat.reduceDiv, Nat.reduceMod, Nat.reduceMul, Nat.reduceAdd, Nat.reduceEqDiff, List.set_cons_zero, List.set_cons_succ, if_true, if_false, reduceIte]); (first | refine Wk.of_fl ?_ | skip); simp only [Wk, wkK, Gy, wkT, wk1, AV.kept, keptAll, wkO, lk, Kw, and_true, true_and, and_self, Nat.reduceEqDiff, Nat.reduceLeDiff, if_true, if_false, reduceIte, reduceCtorEq, Option.isSome, false_implies]; try simp [Wk, wkK, wkT, wk1, AV.kept, keptAll, wkO, lk, Kw])
    rintro k ⟨hk, hno⟩
    rcases Gl k l.length with ⟨hlt, hlb⟩ | ⟨hlt, hlb⟩
    · have q1 := Hd (⟨[]⟩ : Sl Int) hlt
      have h1 := hl2 k
      have hst : anyB s (l.getD k ⟨[]⟩).l = true → ∀ j, j < k + 1 → anyB s (l.getD j ⟨[]⟩).l = true := fun h => upTo hno h
      have hbad : anyB s (l.getD k ⟨[]⟩).l = false → hitB s l = false := fun h => all_not ⟨[]⟩ k hlt h
      obtain ⟨⟨t⟩, ht⟩ : ∃ s, l.getD k ⟨[]⟩ = s := ⟨_, rfl⟩
      rw [ht] at q1 h1 hst hbad
      simp only at h1 hst hbad
      (sym =>
       simp [hlb,Lm,Lp,Ln,Lq,Ll,Lk,H2.eq_def,Hh.eq_def,Za,Zb,Zc,Zd,Ze,Zf,Zg,Zh,Zi,Zj,Zk,Zl,Zm,Zn,Zo,Zp,Zq,Zr,Zs,Zt,Zv,Zx,Z2,Z6,Z7,Z8,Z9,Qa,Qb,Qc,Qd,Qe,Qi,Qj,Qk,Ql,Qm,Qn,Qo,Qp,Qv,Qw,Qy,Qz,Q0,Q1,Q2,Q3,Q8,Ja,Jb,Jc,Jd,Je,Jl,Jp,Jq,Jr,Js,Jt,Ju,Jx,Jy,Jz,J0,J1,J2,J3,J4,J5,J6,J7,J8,Xb,Xc,Xd,Xe,Xf,Xg,Xh,Xi,Xj,Xk,Xl,Xm,Xn,Xo,Xp,Xq,Xs,Xt,Xu,Xv,Xw,Xx,Xy,Xz,X0,X1,X2,X3,X4,X5,X6,X7,X8,X9,Wa,Wb,Wc,Wd,We,Wf,Wg,Wh,Wi,Wj,Wl,Wm,Wn,Wo,Wp,Wq,Wr,Ws,Wt,Wu,Wv,Ww,Wx,Wy,Wz,W0,W1,W2,W3,W4,W5,W6,W7,W8,Yb,Yc,Yd,Ye,Yf,Yg,Yh,Yi,Yj,Yk,Yl,Ym,Yn,Yo,Yp,Yq,Yr,Ys,Yt,Yu,Yv,Yw,Yx,Yy,Yz,Y0,Y1,Y2,Y3,Y4,Y5,Y6,Y7,Y8,Y9,Va,Vb,Vc,Vd,Ve,Vf,Vg,Vh,Vi,Vj,Vk,Vl,Vm,Vn,Vo,Vp,Vq,Vr,Vs,Vt,Vu,Vv,Vw,Vx,Vy,Vz,V0,V1,V3,V4,V5,V6,V7,V8,V9,Ua,Ub,Uc,Ud,Ue,Uf,Ul,Um,Uq,Ur,Us,Ut,Uu,Uv,Uw,Ux,Uy,Uz,U0,U1,U3,U4,U5,U6,U7,U8,U9,Ka,Kb,Kc,Kd,Ke,Kf,Kg,Kh,Ki,Kj,Kk,Kl,Km,Kn,Ko,Kq,Kr,Ks,Kt,Ga,G5,K8,Kz]
       tactic =>
        try simp only [K2] at *
        try simp only [nc2] at *
        try simp (maxSteps := 4000000) only [hlb,Gg]
        repeat' (first | with_reducible assumption | with_reducible refine And.intro ?_ ?_ | intro _ | omega | (rw [Ku]; omega))
        refine Gi [14, 15, 16, 17, 18, 19, 20, 21, 22, 23, 24, 25, 26, 27, 28, 29, 30, 31] (fun q : Nat × Bool => [(6, .d (.bool q.2)), (7, .d (.int .i64 q.1))]) (fun q : Nat × Bool => []) (fun q : Nat × Bool => q.1 ≤ s.length ∧ q.2 = anyB (s.take q.1) t) (fun q : Nat × Bool => s.length - q.1) (0, false) ?_ ?_ ?_
        · exact ⟨Nat.zero_le _, rfl⟩
        · ((try simp only [Kv, Ky, Kx, K4, upd, K5, Gb, Gs, Nat.reduceDiv, Nat.reduceMod, Nat.reduceMul, Nat.reduceAdd, Nat.reduceEqDiff, List.set_cons_zero, List.set_cons_succ, if_true, if_false, reduceIte]); (first | refine Wk.of_fl ?_ | skip); simp only [Wk, wkK, Gy, wkT, wk1, AV.kept, keptAll, wkO, lk, Kw, and_true, true_and, and_self, Nat.reduceEqDiff, Nat.reduceLeDiff, if_true, if_false, reduceIte, reduceCtorEq, Option.isSome, false_implies]; try simp [Wk, wkK, wkT, wk1, AV.kept, keptAll, wkO, lk, Kw])
        rintro ⟨i, b⟩ ⟨hi, hb⟩
        simp only at hi hb
        rcases Gl i s.length with ⟨hit, hib⟩ | ⟨hit, hib⟩
        · have q2 := Hd (0 : Int) hit
          have hsn := anyB_take (t := t) hit
          rw [← hb] at hsn
          obtain ⟨x, hx⟩ : ∃ x, s.getD i 0 = x := ⟨_, rfl⟩
          rw [hx] at q2 hsn
          cases b with
          | true =>
            rw [Bool.true_or] at hsn
            (sym =>
             simp [hlb,hib,Lm,Lp,Ln,Lq,Ll,Lk,H2.eq_def,Hh.eq_def,Za,Zb,Zc,Zd,Ze,Zf,Zg,Zh,Zi,Zj,Zk,Zl,Zm,Zn,Zo,Zp,Zq,Zr,Zs,Zt,Zv,Zx,Z2,Z6,Z7,Z8,Z9,Qa,Qb,Qc,Qd,Qe,Qi,Qj,Qk,Ql,Qm,Qn,Qo,Qp,Qv,Qw,Qy,Qz,Q0,Q1,Q2,Q3,Q8,Ja,Jb,Jc,Jd,Je,Jl,Jp,Jq,Jr,Js,Jt,Ju,Jx,Jy,Jz,J0,J1,J2,J3,J4,J5,J6,J7,J8,Xb,Xc,Xd,Xe,Xf,Xg,Xh,Xi,Xj,Xk,Xl,Xm,Xn,Xo,Xp,Xq,Xs,Xt,Xu,Xv,Xw,Xx,Xy,Xz,X0,X1,X2,X3,X4,X5,X6,X7,X8,X9,Wa,Wb,Wc,Wd,We,Wf,Wg,Wh,Wi,Wj,Wl,Wm,Wn,Wo,Wp,Wq,Wr,Ws,Wt,Wu,Wv,Ww,Wx,Wy,Wz,W0,W1,W2,W3,W4,W5,W6,W7,W8,Yb,Yc,Yd,Ye,Yf,Yg,Yh,Yi,Yj,Yk,Yl,Ym,Yn,Yo,Yp,Yq,Yr,Ys,Yt,Yu,Yv,Yw,Yx,Yy,Yz,Y0,Y1,Y2,Y3,Y4,Y5,Y6,Y7,Y8,Y9,Va,Vb,Vc,Vd,Ve,Vf,Vg,Vh,Vi,Vj,Vk,Vl,Vm,Vn,Vo,Vp,Vq,Vr,Vs,Vt,Vu,Vv,Vw,Vx,Vy,Vz,V0,V1,V3,V4,V5,V6,V7,V8,V9,Ua,Ub,Uc,Ud,Ue,Uf,Ul,Um,Uq,Ur,Us,Ut,Uu,Uv,Uw,Ux,Uy,Uz,U0,U1,U3,U4,U5,U6,U7,U8,U9,Ka,Kb,Kc,Kd,Ke,Kf,Kg,Kh,Ki,Kj,Kk,Kl,Km,Kn,Ko,Kq,Kr,Ks,Kt,Ga,G5,K8,Kz]
             tactic =>
              try simp only [K2] at *
              try simp only [nc2] at *
              try simp (maxSteps := 4000000) only [hlb,hib,Gg]
              repeat' (first | with_reducible assumption | with_reducible refine And.intro ?_ ?_ | intro _ | omega | (rw [Ku]; omega))
              all_goals first
                | (with_reducible refine K9 ?_; kernel_rfl)
                | omega
                | exact ⟨(i + 1, true), by ((try simp only [Kv, Ky, Kx, K4, upd, K5, Gb, Gs, Nat.reduceDiv, Nat.reduceMod, Nat.reduceMul, Nat.reduceAdd, Nat.reduceEqDiff, List.set_cons_zero, List.set_cons_succ, if_true, if_false, reduceIte]); (first | refine Wk.of_fl ?_ | skip); simp only [Wk, wkK, Gy, wkT, wk1, AV.kept, keptAll, wkO, lk, Kw, and_true, true_and, and_self, Nat.reduceEqDiff, Nat.reduceLeDiff, if_true, if_false, reduceIte, reduceCtorEq, Option.isSome, false_implies]; try simp [Wk, wkK, wkT, wk1, AV.kept, keptAll, wkO, lk, Kw]), by simp only; omega, hsn.symm, by simp only; omega⟩
                | skip)
          | false =>
            rw [Bool.false_or] at hsn
            obtain ⟨c1, hc1⟩ : ∃ c, inB t x = c := ⟨_, rfl⟩
            rw [hc1] at hsn
            (sym =>
             simp [hlb,hib,q1,q2,hc1,Lm,Lp,Ln,Lq,Ll,Lk,H2.eq_def,Hh.eq_def,Za,Zb,Zc,Zd,Ze,Zf,Zg,Zh,Zi,Zj,Zk,Zl,Zm,Zn,Zo,Zp,Zq,Zr,Zs,Zt,Zv,Zx,Z2,Z6,Z7,Z8,Z9,Qa,Qb,Qc,Qd,Qe,Qi,Qj,Qk,Ql,Qm,Qn,Qo,Qp,Qv,Qw,Qy,Qz,Q0,Q1,Q2,Q3,Q8,Ja,Jb,Jc,Jd,Je,Jl,Jp,Jq,Jr,Js,Jt,Ju,Jx,Jy,Jz,J0,J1,J2,J3,J4,J5,J6,J7,J8,Xb,Xc,Xd,Xe,Xf,Xg,Xh,Xi,Xj,Xk,Xl,Xm,Xn,Xo,Xp,Xq,Xs,Xt,Xu,Xv,Xw,Xx,Xy,Xz,X0,X1,X2,X3,X4,X5,X6,X7,X8,X9,Wa,Wb,Wc,Wd,We,Wf,Wg,Wh,Wi,Wj,Wl,Wm,Wn,Wo,Wp,Wq,Wr,Ws,Wt,Wu,Wv,Ww,Wx,Wy,Wz,W0,W1,W2,W3,W4,W5,W6,W7,W8,Yb,Yc,Yd,Ye,Yf,Yg,Yh,Yi,Yj,Yk,Yl,Ym,Yn,Yo,Yp,Yq,Yr,Ys,Yt,Yu,Yv,Yw,Yx,Yy,Yz,Y0,Y1,Y2,Y3,Y4,Y5,Y6,Y7,Y8,Y9,Va,Vb,Vc,Vd,Ve,Vf,Vg,Vh,Vi,Vj,Vk,Vl,Vm,Vn,Vo,Vp,Vq,Vr,Vs,Vt,Vu,Vv,Vw,Vx,Vy,Vz,V0,V1,V3,V4,V5,V6,V7,V8,V9,Ua,Ub,Uc,Ud,Ue,Uf,Ul,Um,Uq,Ur,Us,Ut,Uu,Uv,Uw,Ux,Uy,Uz,U0,U1,U3,U4,U5,U6,U7,U8,U9,Ka,Kb,Kc,Kd,Ke,Kf,Kg,Kh,Ki,Kj,Kk,Kl,Km,Kn,Ko,Kq,Kr,Ks,Kt,Ga,G5,K8,Kz]
             tactic =>
              try simp only [K2] at *
              try simp only [nc2] at *
              try simp (maxSteps := 4000000) only [hlb,hib,q1,q2,hc1,Gg]
              repeat' (first | with_reducible assumption | with_reducible refine And.intro ?_ ?_ | intro _ | omega | (rw [Ku]; omega))
              all_goals first
                | (with_reducible refine K9 ?_; kernel_rfl)
                | omega
                | exact ⟨(i + 1, c1), by ((try simp only [Kv, Ky, Kx, K4, upd, K5, Gb, Gs, Nat.reduceDiv, Nat.reduceMod, Nat.reduceMul, Nat.reduceAdd, Nat.reduceEqDiff, List.set_cons_zero, List.set_cons_succ, if_true, if_false, reduceIte]); (first | refine Wk.of_fl ?_ | skip); simp only [Wk, wkK, Gy, wkT, wk1, AV.kept, keptAll, wkO, lk, Kw, and_true, true_and, and_self, Nat.reduceEqDiff, Nat.reduceLeDiff, if_true, if_false, reduceIte, reduceCtorEq, Option.isSome, false_implies]; try simp [Wk, wkK, wkT, wk1, AV.kept, keptAll, wkO, lk, Kw]), by simp only; omega, hsn.symm, by simp only; omega⟩
                | skip)
        · have his : i = s.length := by omega
          rw [his, List.take_length] at hb
          cases b with
          | false =>
            have hr := hbad hb.symm
            (sym =>
             simp [hlb,hib,hr,Lm,Lp,Ln,Lq,Ll,Lk,H2.eq_def,Hh.eq_def,Za,Zb,Zc,Zd,Ze,Zf,Zg,Zh,Zi,Zj,Zk,Zl,Zm,Zn,Zo,Zp,Zq,Zr,Zs,Zt,Zv,Zx,Z2,Z6,Z7,Z8,Z9,Qa,Qb,Qc,Qd,Qe,Qi,Qj,Qk,Ql,Qm,Qn,Qo,Qp,Qv,Qw,Qy,Qz,Q0,Q1,Q2,Q3,Q8,Ja,Jb,Jc,Jd,Je,Jl,Jp,Jq,Jr,Js,Jt,Ju,Jx,Jy,Jz,J0,J1,J2,J3,J4,J5,J6,J7,J8,Xb,Xc,Xd,Xe,Xf,Xg,Xh,Xi,Xj,Xk,Xl,Xm,Xn,Xo,Xp,Xq,Xs,Xt,Xu,Xv,Xw,Xx,Xy,Xz,X0,X1,X2,X3,X4,X5,X6,X7,X8,X9,Wa,Wb,Wc,Wd,We,Wf,Wg,Wh,Wi,Wj,Wl,Wm,Wn,Wo,Wp,Wq,Wr,Ws,Wt,Wu,Wv,Ww,Wx,Wy,Wz,W0,W1,W2,W3,W4,W5,W6,W7,W8,Yb,Yc,Yd,Ye,Yf,Yg,Yh,Yi,Yj,Yk,Yl,Ym,Yn,Yo,Yp,Yq,Yr,Ys,Yt,Yu,Yv,Yw,Yx,Yy,Yz,Y0,Y1,Y2,Y3,Y4,Y5,Y6,Y7,Y8,Y9,Va,Vb,Vc,Vd,Ve,Vf,Vg,Vh,Vi,Vj,Vk,Vl,Vm,Vn,Vo,Vp,Vq,Vr,Vs,Vt,Vu,Vv,Vw,Vx,Vy,Vz,V0,V1,V3,V4,V5,V6,V7,V8,V9,Ua,Ub,Uc,Ud,Ue,Uf,Ul,Um,Uq,Ur,Us,Ut,Uu,Uv,Uw,Ux,Uy,Uz,U0,U1,U3,U4,U5,U6,U7,U8,U9,Ka,Kb,Kc,Kd,Ke,Kf,Kg,Kh,Ki,Kj,Kk,Kl,Km,Kn,Ko,Kq,Kr,Ks,Kt,Ga,G5,K8,Kz])
          | true =>
            have h2 := hst hb.symm
            (sym =>
             simp [hlb,hib,Lm,Lp,Ln,Lq,Ll,Lk,H2.eq_def,Hh.eq_def,Za,Zb,Zc,Zd,Ze,Zf,Zg,Zh,Zi,Zj,Zk,Zl,Zm,Zn,Zo,Zp,Zq,Zr,Zs,Zt,Zv,Zx,Z2,Z6,Z7,Z8,Z9,Qa,Qb,Qc,Qd,Qe,Qi,Qj,Qk,Ql,Qm,Qn,Qo,Qp,Qv,Qw,Qy,Qz,Q0,Q1,Q2,Q3,Q8,Ja,Jb,Jc,Jd,Je,Jl,Jp,Jq,Jr,Js,Jt,Ju,Jx,Jy,Jz,J0,J1,J2,J3,J4,J5,J6,J7,J8,Xb,Xc,Xd,Xe,Xf,Xg,Xh,Xi,Xj,Xk,Xl,Xm,Xn,Xo,Xp,Xq,Xs,Xt,Xu,Xv,Xw,Xx,Xy,Xz,X0,X1,X2,X3,X4,X5,X6,X7,X8,X9,Wa,Wb,Wc,Wd,We,Wf,Wg,Wh,Wi,Wj,Wl,Wm,Wn,Wo,Wp,Wq,Wr,Ws,Wt,Wu,Wv,Ww,Wx,Wy,Wz,W0,W1,W2,W3,W4,W5,W6,W7,W8,Yb,Yc,Yd,Ye,Yf,Yg,Yh,Yi,Yj,Yk,Yl,Ym,Yn,Yo,Yp,Yq,Yr,Ys,Yt,Yu,Yv,Yw,Yx,Yy,Yz,Y0,Y1,Y2,Y3,Y4,Y5,Y6,Y7,Y8,Y9,Va,Vb,Vc,Vd,Ve,Vf,Vg,Vh,Vi,Vj,Vk,Vl,Vm,Vn,Vo,Vp,Vq,Vr,Vs,Vt,Vu,Vv,Vw,Vx,Vy,Vz,V0,V1,V3,V4,V5,V6,V7,V8,V9,Ua,Ub,Uc,Ud,Ue,Uf,Ul,Um,Uq,Ur,Us,Ut,Uu,Uv,Uw,Ux,Uy,Uz,U0,U1,U3,U4,U5,U6,U7,U8,U9,Ka,Kb,Kc,Kd,Ke,Kf,Kg,Kh,Ki,Kj,Kk,Kl,Km,Kn,Ko,Kq,Kr,Ks,Kt,Ga,G5,K8,Kz]
             tactic =>
              try simp only [K2] at *
              try simp only [nc2] at *
              try simp (maxSteps := 4000000) only [hlb,hib,Gg]
              repeat' (first | with_reducible assumption | with_reducible refine And.intro ?_ ?_ | intro _ | omega | (rw [Ku]; omega))
              all_goals first
                | (with_reducible refine K9 ?_; kernel_rfl)
                | omega
                | exact ⟨k + 1, by ((try simp only [Kv, Ky, Kx, K4, upd, K5, Gb, Gs, Nat.reduceDiv, Nat.reduceMod, Nat.reduceMul, Nat.reduceAdd, Nat.reduceEqDiff, List.set_cons_zero, List.set_cons_succ, if_true, if_false, reduceIte]); (first | refine Wk.of_fl ?_ | skip); simp only [Wk, wkK, Gy, wkT, wk1, AV.kept, keptAll, wkO, lk, Kw, and_true, true_and, and_self, Nat.reduceEqDiff, Nat.reduceLeDiff, if_true, if_false, reduceIte, reduceCtorEq, Option.isSome, false_implies]; try simp [Wk, wkK, wkT, wk1, AV.kept, keptAll, wkO, lk, Kw]), by omega, h2, by omega⟩
                | skip))
    · have hr : hitB s l = true := all_of_lt ⟨[]⟩ fun j hj => hno j (by omega)
      (sym =>
       simp [hlb,hr,Lm,Lp,Ln,Lq,Ll,Lk,H2.eq_def,Hh.eq_def,Za,Zb,Zc,Zd,Ze,Zf,Zg,Zh,Zi,Zj,Zk,Zl,Zm,Zn,Zo,Zp,Zq,Zr,Zs,Zt,Zv,Zx,Z2,Z6,Z7,Z8,Z9,Qa,Qb,Qc,Qd,Qe,Qi,Qj,Qk,Ql,Qm,Qn,Qo,Qp,Qv,Qw,Qy,Qz,Q0,Q1,Q2,Q3,Q8,Ja,Jb,Jc,Jd,Je,Jl,Jp,Jq,Jr,Js,Jt,Ju,Jx,Jy,Jz,J0,J1,J2,J3,J4,J5,J6,J7,J8,Xb,Xc,Xd,Xe,Xf,Xg,Xh,Xi,Xj,Xk,Xl,Xm,Xn,Xo,Xp,Xq,Xs,Xt,Xu,Xv,Xw,Xx,Xy,Xz,X0,X1,X2,X3,X4,X5,X6,X7,X8,X9,Wa,Wb,Wc,Wd,We,Wf,Wg,Wh,Wi,Wj,Wl,Wm,Wn,Wo,Wp,Wq,Wr,Ws,Wt,Wu,Wv,Ww,Wx,Wy,Wz,W0,W1,W2,W3,W4,W5,W6,W7,W8,Yb,Yc,Yd,Ye,Yf,Yg,Yh,Yi,Yj,Yk,Yl,Ym,Yn,Yo,Yp,Yq,Yr,Ys,Yt,Yu,Yv,Yw,Yx,Yy,Yz,Y0,Y1,Y2,Y3,Y4,Y5,Y6,Y7,Y8,Y9,Va,Vb,Vc,Vd,Ve,Vf,Vg,Vh,Vi,Vj,Vk,Vl,Vm,Vn,Vo,Vp,Vq,Vr,Vs,Vt,Vu,Vv,Vw,Vx,Vy,Vz,V0,V1,V3,V4,V5,V6,V7,V8,V9,Ua,Ub,Uc,Ud,Ue,Uf,Ul,Um,Uq,Ur,Us,Ut,Uu,Uv,Uw,Ux,Uy,Uz,U0,U1,U3,U4,U5,U6,U7,U8,U9,Ka,Kb,Kc,Kd,Ke,Kf,Kg,Kh,Ki,Kj,Kk,Kl,Km,Kn,Ko,Kq,Kr,Ks,Kt,Ga,G5,K8,Kz]))
def woB (s : List Int) (n : Int) : List Int := s.filter fun x => x != n
theorem woB_len (s : List Int) (n : Int) : (woB s n).length ≤ s.length := List.length_filter_le _ _
def Fk (s : List Int) (l : List (Sl Int)) : Bool := hitB s l && s.all fun x => !hitB (woB s x) l
theorem woB_d {s : List Int} {n : Int} : (s.filter fun x => x != n) = woB s n := rfl
def Nc : Con := L3 (fun (s : Sl Int) (l : Sl (Sl Int)) => s.l.length ≤ 1000000 ∧ Rw l.l) (fun s l => Fk s.l l.l)
noncomputable def C7 : Ctx := ⟨tab, lkC [(22, H2), (18, Gm)], 60, lkB [], [], false⟩
theorem Eb : C7.τ = tab := rfl
theorem Ed : C7.Γ = lkC [(22, H2), (18, Gm)] := rfl
theorem Ec : C7.dp = 60 := rfl
theorem Ee : C7.Δ = lkB [] := rfl
theorem Ea : C7.cuts = [] := rfl
theorem D9 : C7.wr = false := rfl
set_option maxRecDepth 100000 in
theorem good_just16 : Me Try.prog (31, Nc) := by
  refine ⟨Gj Try.func31 (by kernel_rfl) rfl, ?_⟩
  have K : Hq Try.prog C7 := Gq H8 G4 (by
    intro p hp
    simp only [List.mem_cons, List.not_mem_nil, or_false] at hp
    rcases hp with rfl | rfl
    · exact good_Hits16
    · exact good_Without15) (by simp)
  obtain ⟨c, hc⟩ : ∃ c, Try.f31.body = some c := ⟨_, rfl⟩
  refine Gu K Try.func31 hc [.tmp 4] rfl 24 rfl (fun cvs hpre => ?_)
  change Nc.pre cvs at hpre
  unfold Nc at hpre
  obtain ⟨⟨s⟩, ⟨l⟩, rfl, hs, hR⟩ := Hx hpre
  simp only at hs
  have hR' : Rw l := hR
  clear hpre
  have hs9 : s.length ≤ 9223372036854775807 := by omega
  cases hh : hitB s l with
  | false =>
    have hr : Fk s l = false := by unfold Fk; rw [hh]; rfl
    simp only [Try.f31, Option.some.injEq] at hc
    subst hc
    (sym =>
     simp [hh,hr,Eb,Ed,Ec,Ee,Ea,D9,H2.eq_def,Gm.eq_def,Nc.eq_def,Za,Zb,Zc,Ze,Zf,Zg,Zn,Zo,Zp,Zq,Zr,Zs,Zv,Zx,Z2,Z6,Z7,Z8,Z9,Qa,Qb,Qc,Qd,Qe,Qi,Qj,Qk,Ql,Qm,Qn,Qp,Qv,Qw,Qy,Q1,Q2,Q3,Q8,Ja,Jb,Jc,Jd,Je,Jl,Jq,Jr,Js,Jt,Ju,Jx,Jy,Xb,Xc,Xd,Xe,Xf,Xg,Xh,Xi,Xj,Xk,Xl,Xm,Xn,Xq,Xs,Xt,Xu,Xv,Xw,Xx,Xy,Xz,X0,X1,X2,X3,X4,X5,X6,X7,X8,X9,Wa,Wd,We,Wf,Wg,Wh,Wi,Wj,Wl,Wm,Wn,Wo,Wp,Wq,Wr,Ws,Wt,Wu,Wv,Ww,Wx,Wy,Wz,W0,W1,W2,W3,W4,W5,W6,W7,W8,Ye,Yf,Yg,Yh,Yi,Yj,Yk,Yl,Ym,Yn,Yo,Yp,Yq,Yr,Ys,Yt,Yu,Yv,Yw,Yx,Yy,Yz,Y0,Y1,Y2,Y3,Y4,Y5,Y6,Y7,Y8,Y9,Va,Vb,Vc,Vd,Ve,Vf,Vg,Vh,Vi,Vj,Vk,Vl,Vm,Vn,Vo,Vp,Vq,Vr,Vs,Vt,Vu,Vv,Vw,Vx,Vy,Vz,V0,V1,V3,V4,V5,V6,V7,V8,V9,Ua,Ub,Uc,Ud,Ue,Uf,Ul,Um,Uq,Ur,Us,Ut,Uu,Uv,Uw,Ux,Uy,Uz,U0,U1,U3,U4,U5,U6,U7,U8,U9,Ka,Kb,Kc,Kd,Ke,Kf,Kg,Kh,Ki,Kj,Kk,Kl,Km,Kn,Ko,Kq,Kr,Ks,Kt,Ga,G5,K8,Kz]
     tactic =>
      try simp only [K2] at *
      try simp only [nc2] at *
      try simp (maxSteps := 4000000) only [hh,hr,Gg]
      repeat' (first | with_reducible assumption | with_reducible refine And.intro ?_ ?_ | intro _ | omega | (rw [Ku]; omega))
      all_goals first
        | exact hR'
        | rfl
        | skip)
  | true =>
  simp only [Try.f31, Option.some.injEq] at hc
  subst hc
  (sym =>
   simp [hh,Eb,Ed,Ec,Ee,Ea,D9,H2.eq_def,Gm.eq_def,Nc.eq_def,Za,Zb,Zc,Ze,Zf,Zg,Zn,Zo,Zp,Zq,Zr,Zs,Zv,Zx,Z2,Z6,Z7,Z8,Z9,Qa,Qb,Qc,Qd,Qe,Qi,Qj,Qk,Ql,Qm,Qn,Qp,Qv,Qw,Qy,Q1,Q2,Q3,Q8,Ja,Jb,Jc,Jd,Je,Jl,Jq,Jr,Js,Jt,Ju,Jx,Jy,Xb,Xc,Xd,Xe,Xf,Xg,Xh,Xi,Xj,Xk,Xl,Xm,Xn,Xq,Xs,Xt,Xu,Xv,Xw,Xx,Xy,Xz,X0,X1,X2,X3,X4,X5,X6,X7,X8,X9,Wa,Wd,We,Wf,Wg,Wh,Wi,Wj,Wl,Wm,Wn,Wo,Wp,Wq,Wr,Ws,Wt,Wu,Wv,Ww,Wx,Wy,Wz,W0,W1,W2,W3,W4,W5,W6,W7,W8,Ye,Yf,Yg,Yh,Yi,Yj,Yk,Yl,Ym,Yn,Yo,Yp,Yq,Yr,Ys,Yt,Yu,Yv,Yw,Yx,Yy,Yz,Y0,Y1,Y2,Y3,Y4,Y5,Y6,Y7,Y8,Y9,Va,Vb,Vc,Vd,Ve,Vf,Vg,Vh,Vi,Vj,Vk,Vl,Vm,Vn,Vo,Vp,Vq,Vr,Vs,Vt,Vu,Vv,Vw,Vx,Vy,Vz,V0,V1,V3,V4,V5,V6,V7,V8,V9,Ua,Ub,Uc,Ud,Ue,Uf,Ul,Um,Uq,Ur,Us,Ut,Uu,Uv,Uw,Ux,Uy,Uz,U0,U1,U3,U4,U5,U6,U7,U8,U9,Ka,Kb,Kc,Kd,Ke,Kf,Kg,Kh,Ki,Kj,Kk,Kl,Km,Kn,Ko,Kq,Kr,Ks,Kt,Ga,G5,K8,Kz]
   tactic =>
    try simp only [K2] at *
    try simp only [nc2] at *
    try simp (maxSteps := 4000000) only [hh,Gg]
    repeat' (first | with_reducible assumption | with_reducible refine And.intro ?_ ?_ | intro _ | omega | (rw [Ku]; omega))
    refine Gi [4, 10, 11, 12, 13, 14, 15, 16, 17, 18, 19, 20, 21, 22, 23] (fun k : Nat => [(5, .d (.int .i64 k))]) (fun k : Nat => []) (fun k : Nat => k ≤ s.length ∧ ∀ j, j < k → hitB (woB s (s.getD j 0)) l = false) (fun k : Nat => s.length - k) 0 ?_ ?_ ?_
    · simp
    · ((try simp only [Kv, Ky, Kx, K4, upd, K5, Gb, Gs, Nat.reduceDiv, Nat.reduceMod, Nat.reduceMul, Nat.reduceAdd, Nat.reduceEqDiff, List.set_cons_zero, List.set_cons_succ, if_true, if_false, reduceIte]); (first | refine Wk.of_fl ?_ | skip); simp only [Wk, wkK, Gy, wkT, wk1, AV.kept, keptAll, wkO, lk, Kw, and_true, true_and, and_self, Nat.reduceEqDiff, Nat.reduceLeDiff, if_true, if_false, reduceIte, reduceCtorEq, Option.isSome, false_implies]; try simp [Wk, wkK, wkT, wk1, AV.kept, keptAll, wkO, lk, Kw])
    rintro k ⟨hk, hno⟩
    rcases Gl k s.length with ⟨hlt, hlb⟩ | ⟨hlt, hlb⟩
    · have q1 := Hd (0 : Int) hlt
      have hst : hitB (woB s (s.getD k 0)) l = false → ∀ j, j < k + 1 → hitB (woB s (s.getD j 0)) l = false := fun h => upTo hno h
      have hbad : hitB (woB s (s.getD k 0)) l = true → Fk s l = false := fun h => by
        unfold Fk
        rw [all_not (p := fun x => !hitB (woB s x) l) 0 k hlt (by rw [h]; rfl), Bool.and_false]
      obtain ⟨x, hx⟩ : ∃ x, s.getD k 0 = x := ⟨_, rfl⟩
      rw [hx] at q1 hst hbad
      have hw := woB_len s x
      have hw9 : (woB s x).length ≤ 9223372036854775807 := by omega
      cases hb : hitB (woB s x) l with
      | true =>
        have hr := hbad hb
        (sym =>
         simp [hlb,q1,woB_d,hb,hr,Eb,Ed,Ec,Ee,Ea,D9,H2.eq_def,Gm.eq_def,Nc.eq_def,Za,Zb,Zc,Ze,Zf,Zg,Zn,Zo,Zp,Zq,Zr,Zs,Zv,Zx,Z2,Z6,Z7,Z8,Z9,Qa,Qb,Qc,Qd,Qe,Qi,Qj,Qk,Ql,Qm,Qn,Qp,Qv,Qw,Qy,Q1,Q2,Q3,Q8,Ja,Jb,Jc,Jd,Je,Jl,Jq,Jr,Js,Jt,Ju,Jx,Jy,Xb,Xc,Xd,Xe,Xf,Xg,Xh,Xi,Xj,Xk,Xl,Xm,Xn,Xq,Xs,Xt,Xu,Xv,Xw,Xx,Xy,Xz,X0,X1,X2,X3,X4,X5,X6,X7,X8,X9,Wa,Wd,We,Wf,Wg,Wh,Wi,Wj,Wl,Wm,Wn,Wo,Wp,Wq,Wr,Ws,Wt,Wu,Wv,Ww,Wx,Wy,Wz,W0,W1,W2,W3,W4,W5,W6,W7,W8,Ye,Yf,Yg,Yh,Yi,Yj,Yk,Yl,Ym,Yn,Yo,Yp,Yq,Yr,Ys,Yt,Yu,Yv,Yw,Yx,Yy,Yz,Y0,Y1,Y2,Y3,Y4,Y5,Y6,Y7,Y8,Y9,Va,Vb,Vc,Vd,Ve,Vf,Vg,Vh,Vi,Vj,Vk,Vl,Vm,Vn,Vo,Vp,Vq,Vr,Vs,Vt,Vu,Vv,Vw,Vx,Vy,Vz,V0,V1,V3,V4,V5,V6,V7,V8,V9,Ua,Ub,Uc,Ud,Ue,Uf,Ul,Um,Uq,Ur,Us,Ut,Uu,Uv,Uw,Ux,Uy,Uz,U0,U1,U3,U4,U5,U6,U7,U8,U9,Ka,Kb,Kc,Kd,Ke,Kf,Kg,Kh,Ki,Kj,Kk,Kl,Km,Kn,Ko,Kq,Kr,Ks,Kt,Ga,G5,K8,Kz]
         tactic =>
          try simp only [K2] at *
          try simp only [nc2] at *
          try simp (maxSteps := 4000000) only [hlb,q1,woB_d,hb,hr,Gg]
          repeat' (first | with_reducible assumption | with_reducible refine And.intro ?_ ?_ | intro _ | omega | (rw [Ku]; omega))
          all_goals first
            | (with_reducible refine K9 ?_; kernel_rfl)
            | exact hR'
            | omega
            | rfl
            | skip)
      | false =>
        have h2 := hst hb
        (sym =>
         simp [hlb,q1,woB_d,hb,Eb,Ed,Ec,Ee,Ea,D9,H2.eq_def,Gm.eq_def,Nc.eq_def,Za,Zb,Zc,Ze,Zf,Zg,Zn,Zo,Zp,Zq,Zr,Zs,Zv,Zx,Z2,Z6,Z7,Z8,Z9,Qa,Qb,Qc,Qd,Qe,Qi,Qj,Qk,Ql,Qm,Qn,Qp,Qv,Qw,Qy,Q1,Q2,Q3,Q8,Ja,Jb,Jc,Jd,Je,Jl,Jq,Jr,Js,Jt,Ju,Jx,Jy,Xb,Xc,Xd,Xe,Xf,Xg,Xh,Xi,Xj,Xk,Xl,Xm,Xn,Xq,Xs,Xt,Xu,Xv,Xw,Xx,Xy,Xz,X0,X1,X2,X3,X4,X5,X6,X7,X8,X9,Wa,Wd,We,Wf,Wg,Wh,Wi,Wj,Wl,Wm,Wn,Wo,Wp,Wq,Wr,Ws,Wt,Wu,Wv,Ww,Wx,Wy,Wz,W0,W1,W2,W3,W4,W5,W6,W7,W8,Ye,Yf,Yg,Yh,Yi,Yj,Yk,Yl,Ym,Yn,Yo,Yp,Yq,Yr,Ys,Yt,Yu,Yv,Yw,Yx,Yy,Yz,Y0,Y1,Y2,Y3,Y4,Y5,Y6,Y7,Y8,Y9,Va,Vb,Vc,Vd,Ve,Vf,Vg,Vh,Vi,Vj,Vk,Vl,Vm,Vn,Vo,Vp,Vq,Vr,Vs,Vt,Vu,Vv,Vw,Vx,Vy,Vz,V0,V1,V3,V4,V5,V6,V7,V8,V9,Ua,Ub,Uc,Ud,Ue,Uf,Ul,Um,Uq,Ur,Us,Ut,Uu,Uv,Uw,Ux,Uy,Uz,U0,U1,U3,U4,U5,U6,U7,U8,U9,Ka,Kb,Kc,Kd,Ke,Kf,Kg,Kh,Ki,Kj,Kk,Kl,Km,Kn,Ko,Kq,Kr,Ks,Kt,Ga,G5,K8,Kz]
         tactic =>
          try simp only [K2] at *
          try simp only [nc2] at *
          try simp (maxSteps := 4000000) only [hlb,q1,woB_d,hb,Gg]
          repeat' (first | with_reducible assumption | with_reducible refine And.intro ?_ ?_ | intro _ | omega | (rw [Ku]; omega))
          all_goals first
            | (with_reducible refine K9 ?_; kernel_rfl)
            | exact hR'
            | omega
            | exact ⟨k + 1, by ((try simp only [Kv, Ky, Kx, K4, upd, K5, Gb, Gs, Nat.reduceDiv, Nat.reduceMod, Nat.reduceMul, Nat.reduceAdd, Nat.reduceEqDiff, List.set_cons_zero, List.set_cons_succ, if_true, if_false, reduceIte]); (first | refine Wk.of_fl ?_ | skip); simp only [Wk, wkK, Gy, wkT, wk1, AV.kept, keptAll, wkO, lk, Kw, and_true, true_and, and_self, Nat.reduceEqDiff, Nat.reduceLeDiff, if_true, if_false, reduceIte, reduceCtorEq, Option.isSome, false_implies]; try simp [Wk, wkK, wkT, wk1, AV.kept, keptAll, wkO, lk, Kw]), by omega, h2, by omega⟩
            | skip)
    · have hr : Fk s l = true := by
        unfold Fk
        rw [hh, all_of_lt (p := fun x => !hitB (woB s x) l) 0 fun j hj => by rw [hno j (by omega)]; rfl]
        rfl
      (sym =>
       simp [hlb,hr,Eb,Ed,Ec,Ee,Ea,D9,H2.eq_def,Gm.eq_def,Nc.eq_def,Za,Zb,Zc,Ze,Zf,Zg,Zn,Zo,Zp,Zq,Zr,Zs,Zv,Zx,Z2,Z6,Z7,Z8,Z9,Qa,Qb,Qc,Qd,Qe,Qi,Qj,Qk,Ql,Qm,Qn,Qp,Qv,Qw,Qy,Q1,Q2,Q3,Q8,Ja,Jb,Jc,Jd,Je,Jl,Jq,Jr,Js,Jt,Ju,Jx,Jy,Xb,Xc,Xd,Xe,Xf,Xg,Xh,Xi,Xj,Xk,Xl,Xm,Xn,Xq,Xs,Xt,Xu,Xv,Xw,Xx,Xy,Xz,X0,X1,X2,X3,X4,X5,X6,X7,X8,X9,Wa,Wd,We,Wf,Wg,Wh,Wi,Wj,Wl,Wm,Wn,Wo,Wp,Wq,Wr,Ws,Wt,Wu,Wv,Ww,Wx,Wy,Wz,W0,W1,W2,W3,W4,W5,W6,W7,W8,Ye,Yf,Yg,Yh,Yi,Yj,Yk,Yl,Ym,Yn,Yo,Yp,Yq,Yr,Ys,Yt,Yu,Yv,Yw,Yx,Yy,Yz,Y0,Y1,Y2,Y3,Y4,Y5,Y6,Y7,Y8,Y9,Va,Vb,Vc,Vd,Ve,Vf,Vg,Vh,Vi,Vj,Vk,Vl,Vm,Vn,Vo,Vp,Vq,Vr,Vs,Vt,Vu,Vv,Vw,Vx,Vy,Vz,V0,V1,V3,V4,V5,V6,V7,V8,V9,Ua,Ub,Uc,Ud,Ue,Uf,Ul,Um,Uq,Ur,Us,Ut,Uu,Uv,Uw,Ux,Uy,Uz,U0,U1,U3,U4,U5,U6,U7,U8,U9,Ka,Kb,Kc,Kd,Ke,Kf,Kg,Kh,Ki,Kj,Kk,Kl,Km,Kn,Ko,Kq,Kr,Ks,Kt,Ga,G5,K8,Kz]))
def fewB (l : List (Sl Int)) (most : Int) : Bool := !ltB 12 (l.length : Int) && ((l.all fun s => !ltB most (s.l.length : Int) && Ox s.l) && leB ((Bo l).length : Int) most)
def K1 : Con := L3 (fun (l : Sl (Sl Int)) (most : Int) => Rw l.l ∧ most ≤ 500) (fun l most => fewB l.l most)
noncomputable def Fg : Ctx := ⟨tab, lkC [(15, K7), (28, G3)], 60, lkB [], [], false⟩
theorem Dy : Fg.τ = tab := rfl
theorem D0 : Fg.Γ = lkC [(15, K7), (28, G3)] := rfl
theorem Dz : Fg.dp = 60 := rfl
theorem D1 : Fg.Δ = lkB [] := rfl
theorem Dx : Fg.cuts = [] := rfl
theorem Dw : Fg.wr = false := rfl
set_option maxRecDepth 100000 in
theorem C4 : Me Try.prog (10, K1) := by
  refine ⟨Gj Try.func10 (by kernel_rfl) rfl, ?_⟩
  have K : Hq Try.prog Fg := Gq H8 G4 (by
    intro p hp
    simp only [List.mem_cons, List.not_mem_nil, or_false] at hp
    rcases hp with rfl | rfl
    · exact Ry
    · exact good_numbers16) (by simp)
  obtain ⟨c, hc⟩ : ∃ c, Try.f10.body = some c := ⟨_, rfl⟩
  refine Gu K Try.func10 hc [.tmp 4] rfl 35 rfl (fun cvs hpre => ?_)
  change K1.pre cvs at hpre
  unfold K1 at hpre
  obtain ⟨⟨l⟩, most, rfl, ⟨hl, hl2⟩, hm⟩ := Hx hpre
  simp only at hl hl2 hm
  clear hpre
  obtain ⟨R, hR⟩ : ∃ R, fewB l most = R := ⟨_, rfl⟩
  have hR2 := hR
  unfold fewB at hR2
  cases h12 : ltB 12 (l.length : Int) with
  | true =>
    rw [h12] at hR2
    simp only [Bool.not_true, Bool.false_and] at hR2
    subst hR2
    simp only [Try.f10, Option.some.injEq] at hc
    subst hc
    refine Hy 2 (of_decide_eq_true (by kernel_rfl)) ?_
    (sym =>
     simp [h12,hR,Dy,D0,Dz,D1,Dx,Dw,K1.eq_def,K7.eq_def,G3.eq_def,Za,Zb,Zc,Zd,Ze,Zf,Zg,Zn,Zo,Zp,Zq,Zr,Zs,Zt,Zv,Zx,Z2,Z6,Z7,Z8,Z9,Qa,Qb,Qc,Qd,Qe,Qi,Qj,Qk,Ql,Qm,Qn,Qp,Qv,Qw,Qy,Q1,Q2,Q3,Q8,Ja,Jb,Jc,Jd,Je,Jl,Jp,Jq,Jr,Js,Jt,Ju,Jx,Jy,Jz,J0,J1,J2,J3,J4,J5,J6,J7,J8,Xb,Xc,Xd,Xe,Xf,Xg,Xh,Xi,Xj,Xk,Xl,Xm,Xn,Xo,Xp,Xq,Xs,Xt,Xu,Xv,Xw,Xx,Xy,Xz,X0,X1,X2,X3,X4,X5,X6,X7,X8,X9,Wa,Wd,We,Wf,Wg,Wh,Wi,Wj,Wl,Wm,Wn,Wo,Wp,Wq,Wr,Ws,Wt,Wu,Wv,Ww,Wx,Wy,Wz,W0,W1,W2,W3,W4,W5,W6,W7,W8,Yb,Yc,Yd,Ye,Yf,Yg,Yh,Yi,Yj,Yk,Yl,Ym,Yn,Yo,Yp,Yq,Yr,Ys,Yt,Yu,Yv,Yw,Yx,Yy,Yz,Y0,Y1,Y2,Y3,Y4,Y5,Y6,Y7,Y8,Y9,Va,Vb,Vc,Vd,Ve,Vf,Vg,Vh,Vi,Vj,Vk,Vl,Vm,Vn,Vo,Vp,Vq,Vr,Vs,Vt,Vu,Vv,Vw,Vx,Vy,Vz,V0,V1,V3,V4,V5,V6,V7,V8,V9,Ua,Ub,Uc,Ud,Ue,Uf,Ul,Um,Uq,Ur,Us,Ut,Uu,Uv,Uw,Ux,Uy,Uz,U0,U1,U3,U4,U5,U6,U7,U8,U9,Ka,Kb,Kc,Kd,Ke,Kf,Kg,Kh,Ki,Kj,Kk,Kl,Km,Kn,Ko,Kq,Kr,Ks,Kt,Ga,G5,K8,Kz])
  | false =>
  rw [h12] at hR2
  simp only [Bool.not_false, Bool.true_and] at hR2
  have h12' := h12
  rw [Hg] at h12'
  simp only [Try.f10, Option.some.injEq] at hc
  subst hc
  refine Hy 2 (of_decide_eq_true (by kernel_rfl)) ?_
  (sym =>
   simp [h12,Dy,D0,Dz,D1,Dx,Dw,K1.eq_def,K7.eq_def,G3.eq_def,Za,Zb,Zc,Zd,Ze,Zf,Zg,Zn,Zo,Zp,Zq,Zr,Zs,Zt,Zv,Zx,Z2,Z6,Z7,Z8,Z9,Qa,Qb,Qc,Qd,Qe,Qi,Qj,Qk,Ql,Qm,Qn,Qp,Qv,Qw,Qy,Q1,Q2,Q3,Q8,Ja,Jb,Jc,Jd,Je,Jl,Jp,Jq,Jr,Js,Jt,Ju,Jx,Jy,Jz,J0,J1,J2,J3,J4,J5,J6,J7,J8,Xb,Xc,Xd,Xe,Xf,Xg,Xh,Xi,Xj,Xk,Xl,Xm,Xn,Xo,Xp,Xq,Xs,Xt,Xu,Xv,Xw,Xx,Xy,Xz,X0,X1,X2,X3,X4,X5,X6,X7,X8,X9,Wa,Wd,We,Wf,Wg,Wh,Wi,Wj,Wl,Wm,Wn,Wo,Wp,Wq,Wr,Ws,Wt,Wu,Wv,Ww,Wx,Wy,Wz,W0,W1,W2,W3,W4,W5,W6,W7,W8,Yb,Yc,Yd,Ye,Yf,Yg,Yh,Yi,Yj,Yk,Yl,Ym,Yn,Yo,Yp,Yq,Yr,Ys,Yt,Yu,Yv,Yw,Yx,Yy,Yz,Y0,Y1,Y2,Y3,Y4,Y5,Y6,Y7,Y8,Y9,Va,Vb,Vc,Vd,Ve,Vf,Vg,Vh,Vi,Vj,Vk,Vl,Vm,Vn,Vo,Vp,Vq,Vr,Vs,Vt,Vu,Vv,Vw,Vx,Vy,Vz,V0,V1,V3,V4,V5,V6,V7,V8,V9,Ua,Ub,Uc,Ud,Ue,Uf,Ul,Um,Uq,Ur,Us,Ut,Uu,Uv,Uw,Ux,Uy,Uz,U0,U1,U3,U4,U5,U6,U7,U8,U9,Ka,Kb,Kc,Kd,Ke,Kf,Kg,Kh,Ki,Kj,Kk,Kl,Km,Kn,Ko,Kq,Kr,Ks,Kt,Ga,G5,K8,Kz]
   tactic =>
    try simp only [K2] at *
    try simp only [nc2] at *
    try simp (maxSteps := 4000000) only [h12,Gg]
    repeat' (first | with_reducible assumption | with_reducible refine And.intro ?_ ?_ | intro _ | omega | (rw [Ku]; omega))
    refine Gi [4, 9, 10, 11, 12, 13, 14, 15, 16, 17, 18, 19, 20, 21, 22, 23, 24, 25, 26, 27, 28, 29] (fun k : Nat => [(5, .d (.int .i64 k))]) (fun k : Nat => []) (fun k : Nat => k ≤ l.length ∧ ∀ j, j < k → (!ltB most ((l.getD j ⟨[]⟩).l.length : Int) && Ox (l.getD j ⟨[]⟩).l) = true) (fun k : Nat => l.length - k) 0 ?_ ?_ ?_
    · simp
    · ((try simp only [Kv, Ky, Kx, K4, upd, K5, Gb, Gs, Nat.reduceDiv, Nat.reduceMod, Nat.reduceMul, Nat.reduceAdd, Nat.reduceEqDiff, List.set_cons_zero, List.set_cons_succ, if_true, if_false, reduceIte]); (first | refine Wk.of_fl ?_ | skip); simp only [Wk, wkK, Gy, wkT, wk1, AV.kept, keptAll, wkO, lk, Kw, and_true, true_and, and_self, Nat.reduceEqDiff, Nat.reduceLeDiff, if_true, if_false, reduceIte, reduceCtorEq, Option.isSome, false_implies]; try simp [Wk, wkK, wkT, wk1, AV.kept, keptAll, wkO, lk, Kw])
    rintro k ⟨hk, hno⟩
    rcases Gl k l.length with ⟨hlt, hlb⟩ | ⟨hlt, hlb⟩
    · have q1 := Hd (⟨[]⟩ : Sl Int) hlt
      have h1 := hl2 k
      have hst : (!ltB most ((l.getD k ⟨[]⟩).l.length : Int) && Ox (l.getD k ⟨[]⟩).l) = true → ∀ j, j < k + 1 → (!ltB most ((l.getD j ⟨[]⟩).l.length : Int) && Ox (l.getD j ⟨[]⟩).l) = true := fun h => upTo hno h
      have hbad : (!ltB most ((l.getD k ⟨[]⟩).l.length : Int) && Ox (l.getD k ⟨[]⟩).l) = false → R = false := fun h => by
        rw [← hR2, all_not (p := fun s : Sl Int => !ltB most (s.l.length : Int) && Ox s.l) ⟨[]⟩ k hlt h, Bool.false_and]
      obtain ⟨⟨t⟩, ht⟩ : ∃ s, l.getD k ⟨[]⟩ = s := ⟨_, rfl⟩
      rw [ht] at q1 h1 hst hbad
      simp only at h1 hst hbad
      cases ha : ltB most (t.length : Int) with
      | true =>
        rw [ha] at hbad
        have hr := hbad rfl
        subst hr
        (sym =>
         simp [hlb,q1,ha,hR,Dy,D0,Dz,D1,Dx,Dw,K1.eq_def,K7.eq_def,G3.eq_def,Za,Zb,Zc,Zd,Ze,Zf,Zg,Zn,Zo,Zp,Zq,Zr,Zs,Zt,Zv,Zx,Z2,Z6,Z7,Z8,Z9,Qa,Qb,Qc,Qd,Qe,Qi,Qj,Qk,Ql,Qm,Qn,Qp,Qv,Qw,Qy,Q1,Q2,Q3,Q8,Ja,Jb,Jc,Jd,Je,Jl,Jp,Jq,Jr,Js,Jt,Ju,Jx,Jy,Jz,J0,J1,J2,J3,J4,J5,J6,J7,J8,Xb,Xc,Xd,Xe,Xf,Xg,Xh,Xi,Xj,Xk,Xl,Xm,Xn,Xo,Xp,Xq,Xs,Xt,Xu,Xv,Xw,Xx,Xy,Xz,X0,X1,X2,X3,X4,X5,X6,X7,X8,X9,Wa,Wd,We,Wf,Wg,Wh,Wi,Wj,Wl,Wm,Wn,Wo,Wp,Wq,Wr,Ws,Wt,Wu,Wv,Ww,Wx,Wy,Wz,W0,W1,W2,W3,W4,W5,W6,W7,W8,Yb,Yc,Yd,Ye,Yf,Yg,Yh,Yi,Yj,Yk,Yl,Ym,Yn,Yo,Yp,Yq,Yr,Ys,Yt,Yu,Yv,Yw,Yx,Yy,Yz,Y0,Y1,Y2,Y3,Y4,Y5,Y6,Y7,Y8,Y9,Va,Vb,Vc,Vd,Ve,Vf,Vg,Vh,Vi,Vj,Vk,Vl,Vm,Vn,Vo,Vp,Vq,Vr,Vs,Vt,Vu,Vv,Vw,Vx,Vy,Vz,V0,V1,V3,V4,V5,V6,V7,V8,V9,Ua,Ub,Uc,Ud,Ue,Uf,Ul,Um,Uq,Ur,Us,Ut,Uu,Uv,Uw,Ux,Uy,Uz,U0,U1,U3,U4,U5,U6,U7,U8,U9,Ka,Kb,Kc,Kd,Ke,Kf,Kg,Kh,Ki,Kj,Kk,Kl,Km,Kn,Ko,Kq,Kr,Ks,Kt,Ga,G5,K8,Kz]
         tactic =>
          try simp only [K2] at *
          try simp only [nc2] at *
          try simp (maxSteps := 4000000) only [hlb,q1,ha,hR,Gg]
          repeat' (first | with_reducible assumption | with_reducible refine And.intro ?_ ?_ | intro _ | omega | (rw [Ku]; omega))
          all_goals first
            | (with_reducible refine K9 ?_; kernel_rfl)
            | omega
            | rfl
            | skip)
      | false =>
        rw [ha] at hbad hst
        cases hb : Ox t with
        | false =>
          rw [hb] at hbad
          have hr := hbad rfl
          subst hr
          (sym =>
           simp [hlb,q1,ha,hb,hR,Dy,D0,Dz,D1,Dx,Dw,K1.eq_def,K7.eq_def,G3.eq_def,Za,Zb,Zc,Zd,Ze,Zf,Zg,Zn,Zo,Zp,Zq,Zr,Zs,Zt,Zv,Zx,Z2,Z6,Z7,Z8,Z9,Qa,Qb,Qc,Qd,Qe,Qi,Qj,Qk,Ql,Qm,Qn,Qp,Qv,Qw,Qy,Q1,Q2,Q3,Q8,Ja,Jb,Jc,Jd,Je,Jl,Jp,Jq,Jr,Js,Jt,Ju,Jx,Jy,Jz,J0,J1,J2,J3,J4,J5,J6,J7,J8,Xb,Xc,Xd,Xe,Xf,Xg,Xh,Xi,Xj,Xk,Xl,Xm,Xn,Xo,Xp,Xq,Xs,Xt,Xu,Xv,Xw,Xx,Xy,Xz,X0,X1,X2,X3,X4,X5,X6,X7,X8,X9,Wa,Wd,We,Wf,Wg,Wh,Wi,Wj,Wl,Wm,Wn,Wo,Wp,Wq,Wr,Ws,Wt,Wu,Wv,Ww,Wx,Wy,Wz,W0,W1,W2,W3,W4,W5,W6,W7,W8,Yb,Yc,Yd,Ye,Yf,Yg,Yh,Yi,Yj,Yk,Yl,Ym,Yn,Yo,Yp,Yq,Yr,Ys,Yt,Yu,Yv,Yw,Yx,Yy,Yz,Y0,Y1,Y2,Y3,Y4,Y5,Y6,Y7,Y8,Y9,Va,Vb,Vc,Vd,Ve,Vf,Vg,Vh,Vi,Vj,Vk,Vl,Vm,Vn,Vo,Vp,Vq,Vr,Vs,Vt,Vu,Vv,Vw,Vx,Vy,Vz,V0,V1,V3,V4,V5,V6,V7,V8,V9,Ua,Ub,Uc,Ud,Ue,Uf,Ul,Um,Uq,Ur,Us,Ut,Uu,Uv,Uw,Ux,Uy,Uz,U0,U1,U3,U4,U5,U6,U7,U8,U9,Ka,Kb,Kc,Kd,Ke,Kf,Kg,Kh,Ki,Kj,Kk,Kl,Km,Kn,Ko,Kq,Kr,Ks,Kt,Ga,G5,K8,Kz]
           tactic =>
            try simp only [K2] at *
            try simp only [nc2] at *
            try simp (maxSteps := 4000000) only [hlb,q1,ha,hb,hR,Gg]
            repeat' (first | with_reducible assumption | with_reducible refine And.intro ?_ ?_ | intro _ | omega | (rw [Ku]; omega))
            all_goals first
              | (with_reducible refine K9 ?_; kernel_rfl)
              | omega
              | rfl
              | skip)
        | true =>
          rw [hb] at hst
          have h2 := hst rfl
          (sym =>
           simp [hlb,q1,ha,hb,Dy,D0,Dz,D1,Dx,Dw,K1.eq_def,K7.eq_def,G3.eq_def,Za,Zb,Zc,Zd,Ze,Zf,Zg,Zn,Zo,Zp,Zq,Zr,Zs,Zt,Zv,Zx,Z2,Z6,Z7,Z8,Z9,Qa,Qb,Qc,Qd,Qe,Qi,Qj,Qk,Ql,Qm,Qn,Qp,Qv,Qw,Qy,Q1,Q2,Q3,Q8,Ja,Jb,Jc,Jd,Je,Jl,Jp,Jq,Jr,Js,Jt,Ju,Jx,Jy,Jz,J0,J1,J2,J3,J4,J5,J6,J7,J8,Xb,Xc,Xd,Xe,Xf,Xg,Xh,Xi,Xj,Xk,Xl,Xm,Xn,Xo,Xp,Xq,Xs,Xt,Xu,Xv,Xw,Xx,Xy,Xz,X0,X1,X2,X3,X4,X5,X6,X7,X8,X9,Wa,Wd,We,Wf,Wg,Wh,Wi,Wj,Wl,Wm,Wn,Wo,Wp,Wq,Wr,Ws,Wt,Wu,Wv,Ww,Wx,Wy,Wz,W0,W1,W2,W3,W4,W5,W6,W7,W8,Yb,Yc,Yd,Ye,Yf,Yg,Yh,Yi,Yj,Yk,Yl,Ym,Yn,Yo,Yp,Yq,Yr,Ys,Yt,Yu,Yv,Yw,Yx,Yy,Yz,Y0,Y1,Y2,Y3,Y4,Y5,Y6,Y7,Y8,Y9,Va,Vb,Vc,Vd,Ve,Vf,Vg,Vh,Vi,Vj,Vk,Vl,Vm,Vn,Vo,Vp,Vq,Vr,Vs,Vt,Vu,Vv,Vw,Vx,Vy,Vz,V0,V1,V3,V4,V5,V6,V7,V8,V9,Ua,Ub,Uc,Ud,Ue,Uf,Ul,Um,Uq,Ur,Us,Ut,Uu,Uv,Uw,Ux,Uy,Uz,U0,U1,U3,U4,U5,U6,U7,U8,U9,Ka,Kb,Kc,Kd,Ke,Kf,Kg,Kh,Ki,Kj,Kk,Kl,Km,Kn,Ko,Kq,Kr,Ks,Kt,Ga,G5,K8,Kz]
           tactic =>
            try simp only [K2] at *
            try simp only [nc2] at *
            try simp (maxSteps := 4000000) only [hlb,q1,ha,hb,Gg]
            repeat' (first | with_reducible assumption | with_reducible refine And.intro ?_ ?_ | intro _ | omega | (rw [Ku]; omega))
            all_goals first
              | (with_reducible refine K9 ?_; kernel_rfl)
              | omega
              | exact ⟨k + 1, by ((try simp only [Kv, Ky, Kx, K4, upd, K5, Gb, Gs, Nat.reduceDiv, Nat.reduceMod, Nat.reduceMul, Nat.reduceAdd, Nat.reduceEqDiff, List.set_cons_zero, List.set_cons_succ, if_true, if_false, reduceIte]); (first | refine Wk.of_fl ?_ | skip); simp only [Wk, wkK, Gy, wkT, wk1, AV.kept, keptAll, wkO, lk, Kw, and_true, true_and, and_self, Nat.reduceEqDiff, Nat.reduceLeDiff, if_true, if_false, reduceIte, reduceCtorEq, Option.isSome, false_implies]; try simp [Wk, wkK, wkT, wk1, AV.kept, keptAll, wkO, lk, Kw]), by omega, by simpa using h2, by omega⟩
              | skip)
    · have hall := all_of_lt (p := fun s : Sl Int => !ltB most (s.l.length : Int) && Ox s.l) (l := l) ⟨[]⟩ fun j hj => hno j (by omega)
      have hSm : Sm l := ⟨by omega, fun j => by
        by_cases hj : j < l.length
        · have := hno j (by omega)
          rw [Bool.and_eq_true, Bool.not_eq_true', Hg] at this
          omega
        · rw [List.getD_eq_getElem?_getD, List.getElem?_eq_none (by omega)]
          simp⟩
      rw [hall, Bool.true_and] at hR2
      have hnl := numsB_len hSm l.length (Nat.le_refl _)
      rw [List.take_length] at hnl
      (sym =>
       simp [hlb,hR,hR2,Dy,D0,Dz,D1,Dx,Dw,K1.eq_def,K7.eq_def,G3.eq_def,Za,Zb,Zc,Zd,Ze,Zf,Zg,Zn,Zo,Zp,Zq,Zr,Zs,Zt,Zv,Zx,Z2,Z6,Z7,Z8,Z9,Qa,Qb,Qc,Qd,Qe,Qi,Qj,Qk,Ql,Qm,Qn,Qp,Qv,Qw,Qy,Q1,Q2,Q3,Q8,Ja,Jb,Jc,Jd,Je,Jl,Jp,Jq,Jr,Js,Jt,Ju,Jx,Jy,Jz,J0,J1,J2,J3,J4,J5,J6,J7,J8,Xb,Xc,Xd,Xe,Xf,Xg,Xh,Xi,Xj,Xk,Xl,Xm,Xn,Xo,Xp,Xq,Xs,Xt,Xu,Xv,Xw,Xx,Xy,Xz,X0,X1,X2,X3,X4,X5,X6,X7,X8,X9,Wa,Wd,We,Wf,Wg,Wh,Wi,Wj,Wl,Wm,Wn,Wo,Wp,Wq,Wr,Ws,Wt,Wu,Wv,Ww,Wx,Wy,Wz,W0,W1,W2,W3,W4,W5,W6,W7,W8,Yb,Yc,Yd,Ye,Yf,Yg,Yh,Yi,Yj,Yk,Yl,Ym,Yn,Yo,Yp,Yq,Yr,Ys,Yt,Yu,Yv,Yw,Yx,Yy,Yz,Y0,Y1,Y2,Y3,Y4,Y5,Y6,Y7,Y8,Y9,Va,Vb,Vc,Vd,Ve,Vf,Vg,Vh,Vi,Vj,Vk,Vl,Vm,Vn,Vo,Vp,Vq,Vr,Vs,Vt,Vu,Vv,Vw,Vx,Vy,Vz,V0,V1,V3,V4,V5,V6,V7,V8,V9,Ua,Ub,Uc,Ud,Ue,Uf,Ul,Um,Uq,Ur,Us,Ut,Uu,Uv,Uw,Ux,Uy,Uz,U0,U1,U3,U4,U5,U6,U7,U8,U9,Ka,Kb,Kc,Kd,Ke,Kf,Kg,Kh,Ki,Kj,Kk,Kl,Km,Kn,Ko,Kq,Kr,Ks,Kt,Ga,G5,K8,Kz]
       tactic =>
        try simp only [K2] at *
        try simp only [nc2] at *
        try simp (maxSteps := 4000000) only [hlb,hR,hR2,Gg]
        repeat' (first | with_reducible assumption | with_reducible refine And.intro ?_ ?_ | intro _ | omega | (rw [Ku]; omega))
        all_goals first
          | exact hSm
          | omega
          | rfl
          | skip))
end Go.Am.Hit
set_option linter.unusedSimpArgs false
set_option linter.unusedVariables false
set_option maxHeartbeats 1000000
namespace Go.Am.Hit
open Go.Proofs
theorem N6 : ∀ a : List Int, Nb a a = false
  | [] => rfl
  | x :: a => by rw [Nb, beq_self_eq_true, cond_true, N6 a]
theorem S6 : ∀ {a b c : List Int}, Nb a b = true → Nb b c = true → Nb a c = true
  | [], [], _, h, _ => by cases h
  | [], _ :: _, [], _, h => by cases h
  | [], _ :: _, _ :: _, _, _ => rfl
  | _ :: _, [], _, h, _ => by cases h
  | _ :: _, _ :: _, [], _, h => by cases h
  | x :: a, y :: b, z :: c, h1, h2 => by
    rw [Nb] at h1 h2 ⊢
    cases hxy : (x == y) with
    | true =>
      rw [hxy, cond_true] at h1
      rw [beq_iff_eq] at hxy
      subst hxy
      cases hxz : (x == z) with
      | true =>
        rw [hxz, cond_true] at h2
        rw [cond_true]
        exact S6 h1 h2
      | false => rw [hxz, cond_false] at h2; rw [cond_false]; exact h2
    | false =>
      rw [hxy, cond_false, Nr] at h1
      cases hyz : (y == z) with
      | true =>
        rw [beq_iff_eq] at hyz
        subst hyz
        rw [hxy, cond_false, Nr]
        exact h1
      | false =>
        rw [hyz, cond_false, Nr] at h2
        rw [show (x == z) = false by rw [beq_eq_false_iff_ne]; omega, cond_false, Nr]
        omega
theorem Rl : ∀ a b : List Int, Nb a b = true ∨ a = b ∨ Nb b a = true
  | [], [] => .inr (.inl rfl)
  | [], _ :: _ => .inl rfl
  | _ :: _, [] => .inr (.inr rfl)
  | x :: a, y :: b => by
    rcases Int.lt_trichotomy x y with h | h | h
    · refine .inl ?_
      rw [Nb, show (x == y) = false by rw [beq_eq_false_iff_ne]; omega, cond_false, Nr]
      exact h
    · subst h
      rcases Rl a b with h | h | h
      · exact .inl (by rw [Nb, beq_self_eq_true, cond_true]; exact h)
      · exact .inr (.inl (by rw [h]))
      · exact .inr (.inr (by rw [Nb, beq_self_eq_true, cond_true]; exact h))
    · refine .inr (.inr ?_)
      rw [Nb, show (y == x) = false by rw [beq_eq_false_iff_ne]; omega, cond_false, Nr]
      exact h
theorem Ai {a b : List Int} (h : Nb a b = true) : Nb b a = false := by
  rw [Bool.eq_false_iff]
  intro h2
  have := S6 h h2
  rw [N6] at this
  cases this
def Up (l : List (List Int)) : Prop := l.Pairwise fun a b => Nb a b = true
def insS (x : List Int) : List (List Int) → List (List Int)
  | [] => [x]
  | y :: ys => cond (Nb x y) (x :: y :: ys) (cond (x == y) (y :: ys) (y :: insS x ys))
def srt (l : List (List Int)) : List (List Int) := l.foldr insS []
theorem insS_mem {x z : List Int} : ∀ {l : List (List Int)}, z ∈ insS x l ↔ z = x ∨ z ∈ l
  | [] => by simp [insS]
  | y :: ys => by
    rw [insS]
    cases Nb x y with
    | true => rw [cond_true]; simp
    | false =>
      rw [cond_false]
      cases h : (x == y) with
      | true =>
        rw [beq_iff_eq] at h
        subst h
        rw [cond_true]
        simp
      | false =>
        rw [cond_false, List.mem_cons, insS_mem, List.mem_cons]
        constructor
        · rintro (h | h | h)
          · exact .inr (.inl h)
          · exact .inl h
          · exact .inr (.inr h)
        · rintro (h | h | h)
          · exact .inr (.inl h)
          · exact .inl h
          · exact .inr (.inr h)
theorem insS_up {x : List Int} : ∀ {l : List (List Int)}, Up l → Up (insS x l)
  | [], _ => by simp [insS, Up]
  | y :: ys, h => by
    rw [insS]
    have h' := h
    unfold Up at h'
    rw [List.pairwise_cons] at h'
    cases hl : Nb x y with
    | true =>
      rw [cond_true]
      unfold Up
      rw [List.pairwise_cons]
      refine ⟨fun z hz => ?_, h⟩
      rcases List.mem_cons.1 hz with rfl | hz
      · exact hl
      · exact S6 hl (h'.1 z hz)
    | false =>
      rw [cond_false]
      cases he : (x == y) with
      | true => rw [cond_true]; exact h
      | false =>
        rw [cond_false]
        unfold Up
        rw [List.pairwise_cons]
        refine ⟨fun z hz => ?_, insS_up h'.2⟩
        rcases insS_mem.1 hz with rfl | hz
        · rcases Rl z y with g | g | g
          · rw [g] at hl; cases hl
          · rw [g, beq_self_eq_true] at he; cases he
          · exact g
        · exact h'.1 z hz
theorem O5 : ∀ l : List (List Int), Up (srt l)
  | [] => List.Pairwise.nil
  | x :: l => insS_up (O5 l)
theorem Fx {z : List Int} : ∀ {l : List (List Int)}, z ∈ srt l ↔ z ∈ l
  | [] => Iff.rfl
  | x :: l => by
    show z ∈ insS x (srt l) ↔ _
    rw [insS_mem, Fx, List.mem_cons]
theorem up_ext : ∀ {a b : List (List Int)}, Up a → Up b → (∀ z, z ∈ a ↔ z ∈ b) → a = b
  | [], [], _, _, _ => rfl
  | [], y :: b, _, _, h => by have := (h y).2 (by simp); cases this
  | x :: a, [], _, _, h => by have := (h x).1 (by simp); cases this
  | x :: a, y :: b, ha, hb, h => by
    unfold Up at ha hb
    rw [List.pairwise_cons] at ha hb
    have hxy : x = y := by
      rcases List.mem_cons.1 ((h x).1 (by simp)) with e | hx
      · exact e
      rcases List.mem_cons.1 ((h y).2 (by simp)) with e | hy
      · exact e.symm
      have h1 := hb.1 x hx
      have h2 := ha.1 y hy
      rw [Ai h1] at h2
      cases h2
    subst hxy
    rw [up_ext ha.2 hb.2 fun z => ?_]
    constructor
    · intro hz
      rcases List.mem_cons.1 ((h z).1 (List.mem_cons_of_mem _ hz)) with e | hz2
      · subst e
        have := ha.1 z hz
        rw [N6] at this
        cases this
      · exact hz2
    · intro hz
      rcases List.mem_cons.1 ((h z).2 (List.mem_cons_of_mem _ hz)) with e | hz2
      · subst e
        have := hb.1 z hz
        rw [N6] at this
        cases this
      · exact hz2
theorem srt_is {l s : List (List Int)} (h : Up s) (hm : ∀ z, z ∈ s ↔ z ∈ l) : srt l = s := up_ext (O5 l) h fun z => by rw [Fx, hm]
theorem insS_len (x : List Int) : ∀ l : List (List Int), (insS x l).length ≤ l.length + 1
  | [] => by simp [insS]
  | y :: ys => by
    rw [insS]
    cases Nb x y with
    | true => simp
    | false =>
      rw [cond_false]
      cases x == y with
      | true => simp
      | false => rw [cond_false, List.length_cons, List.length_cons]; have := insS_len x ys; omega
theorem srt_len : ∀ l : List (List Int), (srt l).length ≤ l.length
  | [] => by simp [srt]
  | x :: l => by
    have h1 := srt_len l
    have h2 := insS_len x (srt l)
    show (insS x (srt l)).length ≤ _
    rw [List.length_cons]
    omega
theorem up_getD {s : List (List Int)} (h : Up s) {i j : Nat} (hij : i < j) (hj : j < s.length) : Nb (s.getD i []) (s.getD j []) = true := by
  have := List.pairwise_iff_getElem.1 h i j (by omega) hj hij
  simpa [hj, show i < s.length by omega] using this
end Go.Am.Hit
set_option linter.unusedSimpArgs false
set_option linter.unusedVariables false
set_option maxHeartbeats 1000000
namespace Go.Am.Hit
open Go.Proofs
open Enc (enc dec)
def Cp (s : List Int) : Nat → List Int
  | 0 => []
  | k + 1 => Cp s k ++ cond (inB s ((k + 1 : Nat) : Int)) [] [((k + 1 : Nat) : Int)]
def Sr (s : List Int) (n : Int) : List Int := Cp s n.toNat
theorem E6 (s : List Int) : ∀ k, (Cp s k).length ≤ k
  | 0 => by simp [Cp]
  | k + 1 => by
    have := E6 s k
    rw [Cp, List.length_append]
    cases inB s ((k + 1 : Nat) : Int) <;> simp <;> omega
def N4 (l : List (Sl Int)) (n : Int) : List (Sl Int) := l.map fun s => ⟨Sr s.l n⟩
theorem P3 {l : List (Sl Int)} {n : Int} : (N4 l n).length = l.length := by unfold N4; simp
theorem missL_snoc {l : List (Sl Int)} {n : Int} {k : Nat} (h : k < l.length) : N4 (l.take (k + 1)) n = N4 (l.take k) n ++ [⟨Sr (l.getD k ⟨[]⟩).l n⟩] := by
  rw [List.take_succ_eq_append_getElem h]
  unfold N4
  rw [List.map_append]
  simp [h]
def H5 : Con := L3 (fun (l : Sl (Sl Int)) (n : Int) => l.l.length ≤ 1000000 ∧ Rw l.l ∧ n ≤ 1000000) (fun l n => Sl.mk (N4 l.l n))
noncomputable def Bv : Ctx := ⟨tab, lkC [(34, Hh)], 60, lkB [], [], false⟩
theorem Bj : Bv.τ = tab := rfl
theorem Bl : Bv.Γ = lkC [(34, Hh)] := rfl
theorem Bk : Bv.dp = 60 := rfl
theorem Bm : Bv.Δ = lkB [] := rfl
theorem Bi : Bv.cuts = [] := rfl
theorem Bh : Bv.wr = false := rfl
set_option maxRecDepth 100000 in
theorem good_Missing16 : Me Try.prog (26, H5) := by
  refine ⟨Gj Try.func26 (by kernel_rfl) rfl, ?_⟩
  have K : Hq Try.prog Bv := Gq H8 G4 (by
    intro p hp
    simp only [List.mem_cons, List.not_mem_nil, or_false] at hp
    rcases hp with rfl
    · exact good_In08) (by simp)
  obtain ⟨c, hc⟩ : ∃ c, Try.f26.body = some c := ⟨_, rfl⟩
  refine Gu K Try.func26 hc [.tmp 4] rfl 38 rfl (fun cvs hpre => ?_)
  change H5.pre cvs at hpre
  unfold H5 at hpre
  obtain ⟨⟨l⟩, n, rfl, hl6, ⟨hl, hl2⟩, hn⟩ := Hx hpre
  simp only at hl6 hl hl2 hn
  clear hpre
  simp only [Try.f26, Option.some.injEq] at hc
  subst hc
  refine Hy 2 (of_decide_eq_true (by kernel_rfl)) ?_
  (sym =>
   simp [Bj,Bl,Bk,Bm,Bi,Bh,Hh.eq_def,H5.eq_def,Za,Zb,Zc,Ze,Zf,Zg,Zn,Zo,Zp,Zq,Zr,Zs,Zv,Zx,Zz,Z0,Z1,Z2,Z6,Z7,Z8,Z9,Qa,Qb,Qc,Qd,Qe,Qi,Qj,Qk,Ql,Qm,Qn,Qp,Qv,Qw,Qy,Q1,Q2,Q3,Q4,Q5,Q6,Q7,Q8,Q9,Ja,Jb,Jc,Jd,Je,Jl,Jp,Jq,Jr,Js,Jt,Ju,Jx,Jy,Jz,J0,J1,J2,J3,J4,J5,J6,J7,J8,J9,Xa,Xb,Xc,Xd,Xe,Xf,Xg,Xh,Xi,Xj,Xk,Xl,Xm,Xn,Xo,Xp,Xq,Xs,Xt,Xu,Xv,Xw,Xx,Xy,Xz,X0,X1,X2,X3,X4,X5,X6,X7,X8,X9,Wa,Wd,We,Wf,Wg,Wh,Wi,Wj,Wl,Wm,Wn,Wo,Wp,Wq,Wr,Ws,Wt,Wu,Wv,Ww,Wx,Wy,Wz,W0,W1,W2,W3,W4,W5,W6,W7,W8,Yb,Yc,Yd,Ye,Yf,Yg,Yh,Yi,Yj,Yk,Yl,Ym,Yn,Yo,Yp,Yq,Yr,Ys,Yt,Yu,Yv,Yw,Yx,Yy,Yz,Y0,Y1,Y2,Y3,Y4,Y5,Y6,Y7,Y8,Y9,Va,Vb,Vc,Vd,Ve,Vf,Vg,Vh,Vi,Vj,Vk,Vl,Vm,Vn,Vo,Vp,Vq,Vr,Vs,Vt,Vu,Vv,Vw,Vx,Vy,Vz,V0,V1,V3,V4,V5,V6,V7,V8,V9,Ua,Ub,Uc,Ud,Ue,Uf,Ul,Um,Un,Uo,Uq,Ur,Us,Ut,Uu,Uv,Uw,Ux,Uy,Uz,U0,U1,U3,U4,U5,U6,U7,U8,U9,Ka,Kb,Kc,Kd,Ke,Kf,Kg,Kh,Ki,Kj,Kk,Kl,Km,Kn,Ko,Kq,Kr,Ks,Kt,Ga,G5,K8,Kz]
   tactic =>
    try simp only [K2] at *
    try simp only [nc2] at *
    try simp (maxSteps := 4000000) only [Gg]
    repeat' (first | with_reducible assumption | with_reducible refine And.intro ?_ ?_ | intro _ | omega | (rw [Ku]; omega))
    refine Gi [7, 8, 10, 11, 12, 13, 14, 15, 16, 17, 18, 19, 20, 21, 22, 23, 24, 25, 26, 27, 28, 29, 30, 31, 32, 33, 34, 35, 36] (fun k : Nat => [(5, .sl 9 ((N4 (l.take k) n).map (enc : Sl Int → D)).length), (6, .d (.int .i64 k))]) (fun k : Nat => [(9, .row 1 ((N4 (l.take k) n).map enc) 0)]) (fun k : Nat => k ≤ l.length) (fun k : Nat => l.length - k) 0 ?_ ?_ ?_
    · simp
    · ((try simp only [Kv, Ky, Kx, K4, upd, K5, Gb, Gs, Nat.reduceDiv, Nat.reduceMod, Nat.reduceMul, Nat.reduceAdd, Nat.reduceEqDiff, List.set_cons_zero, List.set_cons_succ, if_true, if_false, reduceIte]); (first | refine Wk.of_fl ?_ | skip); simp only [Wk, wkK, Gy, wkT, wk1, AV.kept, keptAll, wkO, lk, Kw, and_true, true_and, and_self, Nat.reduceEqDiff, Nat.reduceLeDiff, if_true, if_false, reduceIte, reduceCtorEq, Option.isSome, false_implies]; try simp [Wk, wkK, wkT, wk1, AV.kept, keptAll, wkO, lk, Kw, N4])
    rintro k hk
    have hml : (N4 (l.take k) n).length = k := by rw [P3, List.length_take]; omega
    rcases Gl k l.length with ⟨hlt, hlb⟩ | ⟨hlt, hlb⟩
    · have q1 := Hd (⟨[]⟩ : Sl Int) hlt
      have h1 := hl2 k
      have hsn := missL_snoc (n := n) hlt
      have hml2 : (N4 (l.take (k + 1)) n).length = k + 1 := by rw [P3, List.length_take]; omega
      obtain ⟨⟨s⟩, hs⟩ : ∃ s, l.getD k ⟨[]⟩ = s := ⟨_, rfl⟩
      rw [hs] at q1 h1 hsn
      simp only at h1 hsn
      obtain ⟨L, hL⟩ : ∃ L, N4 (l.take k) n = L := ⟨_, rfl⟩
      obtain ⟨L2, hL2⟩ : ∃ L, N4 (l.take (k + 1)) n = L := ⟨_, rfl⟩
      rw [hL, hL2] at hsn
      rw [hL] at hml ⊢
      rw [hL2] at hml2
      (sym =>
       simp [hlb,Bj,Bl,Bk,Bm,Bi,Bh,Hh.eq_def,H5.eq_def,Za,Zb,Zc,Ze,Zf,Zg,Zn,Zo,Zp,Zq,Zr,Zs,Zv,Zx,Zz,Z0,Z1,Z2,Z6,Z7,Z8,Z9,Qa,Qb,Qc,Qd,Qe,Qi,Qj,Qk,Ql,Qm,Qn,Qp,Qv,Qw,Qy,Q1,Q2,Q3,Q4,Q5,Q6,Q7,Q8,Q9,Ja,Jb,Jc,Jd,Je,Jl,Jp,Jq,Jr,Js,Jt,Ju,Jx,Jy,Jz,J0,J1,J2,J3,J4,J5,J6,J7,J8,J9,Xa,Xb,Xc,Xd,Xe,Xf,Xg,Xh,Xi,Xj,Xk,Xl,Xm,Xn,Xo,Xp,Xq,Xs,Xt,Xu,Xv,Xw,Xx,Xy,Xz,X0,X1,X2,X3,X4,X5,X6,X7,X8,X9,Wa,Wd,We,Wf,Wg,Wh,Wi,Wj,Wl,Wm,Wn,Wo,Wp,Wq,Wr,Ws,Wt,Wu,Wv,Ww,Wx,Wy,Wz,W0,W1,W2,W3,W4,W5,W6,W7,W8,Yb,Yc,Yd,Ye,Yf,Yg,Yh,Yi,Yj,Yk,Yl,Ym,Yn,Yo,Yp,Yq,Yr,Ys,Yt,Yu,Yv,Yw,Yx,Yy,Yz,Y0,Y1,Y2,Y3,Y4,Y5,Y6,Y7,Y8,Y9,Va,Vb,Vc,Vd,Ve,Vf,Vg,Vh,Vi,Vj,Vk,Vl,Vm,Vn,Vo,Vp,Vq,Vr,Vs,Vt,Vu,Vv,Vw,Vx,Vy,Vz,V0,V1,V3,V4,V5,V6,V7,V8,V9,Ua,Ub,Uc,Ud,Ue,Uf,Ul,Um,Un,Uo,Uq,Ur,Us,Ut,Uu,Uv,Uw,Ux,Uy,Uz,U0,U1,U3,U4,U5,U6,U7,U8,U9,Ka,Kb,Kc,Kd,Ke,Kf,Kg,Kh,Ki,Kj,Kk,Kl,Km,Kn,Ko,Kq,Kr,Ks,Kt,Ga,G5,K8,Kz]
       tactic =>
        try simp only [K2] at *
        try simp only [nc2] at *
        try simp (maxSteps := 4000000) only [hlb,Gg]
        repeat' (first | with_reducible assumption | with_reducible refine And.intro ?_ ?_ | intro _ | omega | (rw [Ku]; omega))
        refine Gi [17, 18, 19, 20, 21, 22, 23, 24, 25, 26, 27, 28, 29, 30, 31, 32] (fun j : Nat => [(7, .sl 16 ((Cp s j).map (enc : Int → D)).length), (8, .d (.int .i64 ((j + 1 : Nat) : Int)))]) (fun j : Nat => [(16, .row 1 ((Cp s j).map enc) 0)]) (fun j : Nat => j ≤ n.toNat) (fun j : Nat => n.toNat - j) 0 ?_ ?_ ?_
        · omega
        · ((try simp only [Kv, Ky, Kx, K4, upd, K5, Gb, Gs, Nat.reduceDiv, Nat.reduceMod, Nat.reduceMul, Nat.reduceAdd, Nat.reduceEqDiff, List.set_cons_zero, List.set_cons_succ, if_true, if_false, reduceIte]); (first | refine Wk.of_fl ?_ | skip); simp only [Wk, wkK, Gy, wkT, wk1, AV.kept, keptAll, wkO, lk, Kw, and_true, true_and, and_self, Nat.reduceEqDiff, Nat.reduceLeDiff, if_true, if_false, reduceIte, reduceCtorEq, Option.isSome, false_implies]; try simp [Wk, wkK, wkT, wk1, AV.kept, keptAll, wkO, lk, Kw, Cp])
        rintro j hj
        have hul := E6 s j
        have hul2 := E6 s (j + 1)
        by_cases hjn : j < n.toNat
        · have hjb : leB ((j + 1 : Nat) : Int) n = true := by rw [D5]; omega
          have hun : Cp s (j + 1) = Cp s j ++ cond (inB s ((j + 1 : Nat) : Int)) [] [((j + 1 : Nat) : Int)] := rfl
          obtain ⟨J, hJ⟩ : ∃ J, j + 1 = J := ⟨_, rfl⟩
          rw [hJ] at hjb hun hul2 ⊢
          cases hb : inB s (J : Int) with
          | true =>
            rw [hb, cond_true, List.append_nil] at hun
            (sym =>
             simp [hlb,hjb,q1,hb,Bj,Bl,Bk,Bm,Bi,Bh,Hh.eq_def,H5.eq_def,Za,Zb,Zc,Ze,Zf,Zg,Zn,Zo,Zp,Zq,Zr,Zs,Zv,Zx,Zz,Z0,Z1,Z2,Z6,Z7,Z8,Z9,Qa,Qb,Qc,Qd,Qe,Qi,Qj,Qk,Ql,Qm,Qn,Qp,Qv,Qw,Qy,Q1,Q2,Q3,Q4,Q5,Q6,Q7,Q8,Q9,Ja,Jb,Jc,Jd,Je,Jl,Jp,Jq,Jr,Js,Jt,Ju,Jx,Jy,Jz,J0,J1,J2,J3,J4,J5,J6,J7,J8,J9,Xa,Xb,Xc,Xd,Xe,Xf,Xg,Xh,Xi,Xj,Xk,Xl,Xm,Xn,Xo,Xp,Xq,Xs,Xt,Xu,Xv,Xw,Xx,Xy,Xz,X0,X1,X2,X3,X4,X5,X6,X7,X8,X9,Wa,Wd,We,Wf,Wg,Wh,Wi,Wj,Wl,Wm,Wn,Wo,Wp,Wq,Wr,Ws,Wt,Wu,Wv,Ww,Wx,Wy,Wz,W0,W1,W2,W3,W4,W5,W6,W7,W8,Yb,Yc,Yd,Ye,Yf,Yg,Yh,Yi,Yj,Yk,Yl,Ym,Yn,Yo,Yp,Yq,Yr,Ys,Yt,Yu,Yv,Yw,Yx,Yy,Yz,Y0,Y1,Y2,Y3,Y4,Y5,Y6,Y7,Y8,Y9,Va,Vb,Vc,Vd,Ve,Vf,Vg,Vh,Vi,Vj,Vk,Vl,Vm,Vn,Vo,Vp,Vq,Vr,Vs,Vt,Vu,Vv,Vw,Vx,Vy,Vz,V0,V1,V3,V4,V5,V6,V7,V8,V9,Ua,Ub,Uc,Ud,Ue,Uf,Ul,Um,Un,Uo,Uq,Ur,Us,Ut,Uu,Uv,Uw,Ux,Uy,Uz,U0,U1,U3,U4,U5,U6,U7,U8,U9,Ka,Kb,Kc,Kd,Ke,Kf,Kg,Kh,Ki,Kj,Kk,Kl,Km,Kn,Ko,Kq,Kr,Ks,Kt,Ga,G5,K8,Kz]
             tactic =>
              try simp only [K2] at *
              try simp only [nc2] at *
              try simp (maxSteps := 4000000) only [hlb,hjb,q1,hb,Gg]
              repeat' (first | with_reducible assumption | with_reducible refine And.intro ?_ ?_ | intro _ | omega | (rw [Ku]; omega))
              all_goals first
                | (with_reducible refine K9 ?_; kernel_rfl)
                | omega
                | exact ⟨J, by rw [hun]; ((try simp only [Kv, Ky, Kx, K4, upd, K5, Gb, Gs, Nat.reduceDiv, Nat.reduceMod, Nat.reduceMul, Nat.reduceAdd, Nat.reduceEqDiff, List.set_cons_zero, List.set_cons_succ, if_true, if_false, reduceIte]); (first | refine Wk.of_fl ?_ | skip); simp only [Wk, wkK, Gy, wkT, wk1, AV.kept, keptAll, wkO, lk, Kw, and_true, true_and, and_self, Nat.reduceEqDiff, Nat.reduceLeDiff, if_true, if_false, reduceIte, reduceCtorEq, Option.isSome, false_implies]; try simp [Wk, wkK, wkT, wk1, AV.kept, keptAll, wkO, lk, Kw]), by omega, by omega⟩
                | skip)
          | false =>
            rw [hb, cond_false] at hun
            (sym =>
             simp [hlb,hjb,q1,hb,Bj,Bl,Bk,Bm,Bi,Bh,Hh.eq_def,H5.eq_def,Za,Zb,Zc,Ze,Zf,Zg,Zn,Zo,Zp,Zq,Zr,Zs,Zv,Zx,Zz,Z0,Z1,Z2,Z6,Z7,Z8,Z9,Qa,Qb,Qc,Qd,Qe,Qi,Qj,Qk,Ql,Qm,Qn,Qp,Qv,Qw,Qy,Q1,Q2,Q3,Q4,Q5,Q6,Q7,Q8,Q9,Ja,Jb,Jc,Jd,Je,Jl,Jp,Jq,Jr,Js,Jt,Ju,Jx,Jy,Jz,J0,J1,J2,J3,J4,J5,J6,J7,J8,J9,Xa,Xb,Xc,Xd,Xe,Xf,Xg,Xh,Xi,Xj,Xk,Xl,Xm,Xn,Xo,Xp,Xq,Xs,Xt,Xu,Xv,Xw,Xx,Xy,Xz,X0,X1,X2,X3,X4,X5,X6,X7,X8,X9,Wa,Wd,We,Wf,Wg,Wh,Wi,Wj,Wl,Wm,Wn,Wo,Wp,Wq,Wr,Ws,Wt,Wu,Wv,Ww,Wx,Wy,Wz,W0,W1,W2,W3,W4,W5,W6,W7,W8,Yb,Yc,Yd,Ye,Yf,Yg,Yh,Yi,Yj,Yk,Yl,Ym,Yn,Yo,Yp,Yq,Yr,Ys,Yt,Yu,Yv,Yw,Yx,Yy,Yz,Y0,Y1,Y2,Y3,Y4,Y5,Y6,Y7,Y8,Y9,Va,Vb,Vc,Vd,Ve,Vf,Vg,Vh,Vi,Vj,Vk,Vl,Vm,Vn,Vo,Vp,Vq,Vr,Vs,Vt,Vu,Vv,Vw,Vx,Vy,Vz,V0,V1,V3,V4,V5,V6,V7,V8,V9,Ua,Ub,Uc,Ud,Ue,Uf,Ul,Um,Un,Uo,Uq,Ur,Us,Ut,Uu,Uv,Uw,Ux,Uy,Uz,U0,U1,U3,U4,U5,U6,U7,U8,U9,Ka,Kb,Kc,Kd,Ke,Kf,Kg,Kh,Ki,Kj,Kk,Kl,Km,Kn,Ko,Kq,Kr,Ks,Kt,Ga,G5,K8,Kz]
             tactic =>
              try simp only [K2] at *
              try simp only [nc2] at *
              try simp (maxSteps := 4000000) only [hlb,hjb,q1,hb,Gg]
              repeat' (first | with_reducible assumption | with_reducible refine And.intro ?_ ?_ | intro _ | omega | (rw [Ku]; omega))
              all_goals first
                | (with_reducible refine K9 ?_; kernel_rfl)
                | omega
                | exact ⟨J, by rw [hun]; ((try simp only [Kv, Ky, Kx, K4, upd, K5, Gb, Gs, Nat.reduceDiv, Nat.reduceMod, Nat.reduceMul, Nat.reduceAdd, Nat.reduceEqDiff, List.set_cons_zero, List.set_cons_succ, if_true, if_false, reduceIte]); (first | refine Wk.of_fl ?_ | skip); simp only [Wk, wkK, Gy, wkT, wk1, AV.kept, keptAll, wkO, lk, Kw, and_true, true_and, and_self, Nat.reduceEqDiff, Nat.reduceLeDiff, if_true, if_false, reduceIte, reduceCtorEq, Option.isSome, false_implies]; try simp [Wk, wkK, wkT, wk1, AV.kept, keptAll, wkO, lk, Kw, List.map_append, List.length_append]), by omega, by omega⟩
                | skip)
        · have hjb : leB ((j + 1 : Nat) : Int) n = false := by rw [Dr]; omega
          have hje : Cp s j = Sr s n := by unfold Sr; congr 1; omega
          rw [hje] at hul ⊢
          (sym =>
           simp [hlb,hjb,Bj,Bl,Bk,Bm,Bi,Bh,Hh.eq_def,H5.eq_def,Za,Zb,Zc,Ze,Zf,Zg,Zn,Zo,Zp,Zq,Zr,Zs,Zv,Zx,Zz,Z0,Z1,Z2,Z6,Z7,Z8,Z9,Qa,Qb,Qc,Qd,Qe,Qi,Qj,Qk,Ql,Qm,Qn,Qp,Qv,Qw,Qy,Q1,Q2,Q3,Q4,Q5,Q6,Q7,Q8,Q9,Ja,Jb,Jc,Jd,Je,Jl,Jp,Jq,Jr,Js,Jt,Ju,Jx,Jy,Jz,J0,J1,J2,J3,J4,J5,J6,J7,J8,J9,Xa,Xb,Xc,Xd,Xe,Xf,Xg,Xh,Xi,Xj,Xk,Xl,Xm,Xn,Xo,Xp,Xq,Xs,Xt,Xu,Xv,Xw,Xx,Xy,Xz,X0,X1,X2,X3,X4,X5,X6,X7,X8,X9,Wa,Wd,We,Wf,Wg,Wh,Wi,Wj,Wl,Wm,Wn,Wo,Wp,Wq,Wr,Ws,Wt,Wu,Wv,Ww,Wx,Wy,Wz,W0,W1,W2,W3,W4,W5,W6,W7,W8,Yb,Yc,Yd,Ye,Yf,Yg,Yh,Yi,Yj,Yk,Yl,Ym,Yn,Yo,Yp,Yq,Yr,Ys,Yt,Yu,Yv,Yw,Yx,Yy,Yz,Y0,Y1,Y2,Y3,Y4,Y5,Y6,Y7,Y8,Y9,Va,Vb,Vc,Vd,Ve,Vf,Vg,Vh,Vi,Vj,Vk,Vl,Vm,Vn,Vo,Vp,Vq,Vr,Vs,Vt,Vu,Vv,Vw,Vx,Vy,Vz,V0,V1,V3,V4,V5,V6,V7,V8,V9,Ua,Ub,Uc,Ud,Ue,Uf,Ul,Um,Un,Uo,Uq,Ur,Us,Ut,Uu,Uv,Uw,Ux,Uy,Uz,U0,U1,U3,U4,U5,U6,U7,U8,U9,Ka,Kb,Kc,Kd,Ke,Kf,Kg,Kh,Ki,Kj,Kk,Kl,Km,Kn,Ko,Kq,Kr,Ks,Kt,Ga,G5,K8,Kz]
           tactic =>
            try simp only [K2] at *
            try simp only [nc2] at *
            try simp (maxSteps := 4000000) only [hlb,hjb,Gg]
            repeat' (first | with_reducible assumption | with_reducible refine And.intro ?_ ?_ | intro _ | omega | (rw [Ku]; omega))
            all_goals first
              | (with_reducible refine K9 ?_; kernel_rfl)
              | omega
              | exact ⟨k + 1, by simp only [hL2, hsn]; ((try simp only [Kv, Ky, Kx, K4, upd, K5, Gb, Gs, Nat.reduceDiv, Nat.reduceMod, Nat.reduceMul, Nat.reduceAdd, Nat.reduceEqDiff, List.set_cons_zero, List.set_cons_succ, if_true, if_false, reduceIte]); (first | refine Wk.of_fl ?_ | skip); simp only [Wk, wkK, Gy, wkT, wk1, AV.kept, keptAll, wkO, lk, Kw, and_true, true_and, and_self, Nat.reduceEqDiff, Nat.reduceLeDiff, if_true, if_false, reduceIte, reduceCtorEq, Option.isSome, false_implies]; try simp [Wk, wkK, wkT, wk1, AV.kept, keptAll, wkO, lk, Kw, List.map_append, List.length_append]); rfl, by omega, by omega⟩
              | skip))
    · have hkl : k = l.length := by omega
      rw [hkl, List.take_length]
      (sym =>
       simp [hlb,Bj,Bl,Bk,Bm,Bi,Bh,Hh.eq_def,H5.eq_def,Za,Zb,Zc,Ze,Zf,Zg,Zn,Zo,Zp,Zq,Zr,Zs,Zv,Zx,Zz,Z0,Z1,Z2,Z6,Z7,Z8,Z9,Qa,Qb,Qc,Qd,Qe,Qi,Qj,Qk,Ql,Qm,Qn,Qp,Qv,Qw,Qy,Q1,Q2,Q3,Q4,Q5,Q6,Q7,Q8,Q9,Ja,Jb,Jc,Jd,Je,Jl,Jp,Jq,Jr,Js,Jt,Ju,Jx,Jy,Jz,J0,J1,J2,J3,J4,J5,J6,J7,J8,J9,Xa,Xb,Xc,Xd,Xe,Xf,Xg,Xh,Xi,Xj,Xk,Xl,Xm,Xn,Xo,Xp,Xq,Xs,Xt,Xu,Xv,Xw,Xx,Xy,Xz,X0,X1,X2,X3,X4,X5,X6,X7,X8,X9,Wa,Wd,We,Wf,Wg,Wh,Wi,Wj,Wl,Wm,Wn,Wo,Wp,Wq,Wr,Ws,Wt,Wu,Wv,Ww,Wx,Wy,Wz,W0,W1,W2,W3,W4,W5,W6,W7,W8,Yb,Yc,Yd,Ye,Yf,Yg,Yh,Yi,Yj,Yk,Yl,Ym,Yn,Yo,Yp,Yq,Yr,Ys,Yt,Yu,Yv,Yw,Yx,Yy,Yz,Y0,Y1,Y2,Y3,Y4,Y5,Y6,Y7,Y8,Y9,Va,Vb,Vc,Vd,Ve,Vf,Vg,Vh,Vi,Vj,Vk,Vl,Vm,Vn,Vo,Vp,Vq,Vr,Vs,Vt,Vu,Vv,Vw,Vx,Vy,Vz,V0,V1,V3,V4,V5,V6,V7,V8,V9,Ua,Ub,Uc,Ud,Ue,Uf,Ul,Um,Un,Uo,Uq,Ur,Us,Ut,Uu,Uv,Uw,Ux,Uy,Uz,U0,U1,U3,U4,U5,U6,U7,U8,U9,Ka,Kb,Kc,Kd,Ke,Kf,Kg,Kh,Ki,Kj,Kk,Kl,Km,Kn,Ko,Kq,Kr,Ks,Kt,Ga,G5,K8,Kz]
       tactic =>
        try simp only [K2] at *
        try simp only [nc2] at *
        try simp (maxSteps := 4000000) only [hlb,Gg]
        repeat' (first | with_reducible assumption | with_reducible refine And.intro ?_ ?_ | intro _ | omega | (rw [Ku]; omega))
        all_goals first
          | trivial
          | rfl))
end Go.Am.Hit
set_option linter.unusedSimpArgs false
set_option linter.unusedVariables false
set_option maxHeartbeats 2000000
namespace Go.Am.Hit
open Go.Proofs
open Enc (enc dec)
def unS (l : List (Sl Int)) : List (List Int) := l.map Sl.l
def slS (l : List (List Int)) : List (Sl Int) := l.map Sl.mk
theorem unS_at {l : List (Sl Int)} (j : Nat) : (unS l).getD j [] = (l.getD j ⟨[]⟩).l := by
  unfold unS
  simp only [List.getD_eq_getElem?_getD, List.getElem?_map]
  cases l[j]? <;> rfl
theorem slS_at {l : List (List Int)} (j : Nat) : (slS l).getD j ⟨[]⟩ = ⟨l.getD j []⟩ := by
  unfold slS
  simp only [List.getD_eq_getElem?_getD, List.getElem?_map]
  cases l[j]? <;> rfl
theorem slS_len {l : List (List Int)} : (slS l).length = l.length := by unfold slS; simp
theorem slS_snoc {l : List (List Int)} {x : List Int} : slS (l ++ [x]) = slS l ++ [⟨x⟩] := by unfold slS; simp
def Iq (S : List (List Int)) (k : Nat) (x : List Int) : Bool := k == 0 || Nb (S.getD (k - 1) []) x
def oI : Option Nat → Int
  | none => -1
  | some b => b
def BestP (S : List (List Int)) (k : Nat) (l : List (List Int)) (i : Nat) : Option Nat → Prop
  | none => ∀ j, j < i → Iq S k (l.getD j []) = false
  | some b => b < i ∧ Iq S k (l.getD b []) = true ∧ ∀ j, j < i → Iq S k (l.getD j []) = true → Nb (l.getD j []) (l.getD b []) = false
theorem mem_getD {α : Type} {l : List α} {x d : α} (h : x ∈ l) : ∃ j, j < l.length ∧ l.getD j d = x := by
  obtain ⟨j, hj, rfl⟩ := List.getElem_of_mem h
  exact ⟨j, hj, by simp [hj]⟩
theorem best_none {l : List (List Int)} {k : Nat} (hk : k ≤ (srt l).length) (h : BestP (srt l) k l l.length none) : k = (srt l).length := by
  refine Nat.le_antisymm hk (Nat.le_of_not_lt fun hlt => ?_)
  have hm : (srt l).getD k [] ∈ l := by
    rw [← Fx]
    simp [hlt]
  obtain ⟨j, hj, he⟩ := mem_getD (d := []) hm
  have := h j hj
  rw [he] at this
  unfold Iq at this
  by_cases k0 : k = 0
  · simp [k0] at this
  · rw [show (k == 0) = false by simp [k0], Bool.false_or, up_getD (O5 l) (by omega) hlt] at this
    cases this
theorem best_some {l : List (List Int)} {k b : Nat} (hk : k ≤ (srt l).length) (h : BestP (srt l) k l l.length (some b)) : k < (srt l).length ∧ l.getD b [] = (srt l).getD k [] := by
  obtain ⟨h1, h2, h3⟩ := h
  have hm : l.getD b [] ∈ srt l := by rw [Fx]; simp [h1]
  obtain ⟨p, hp, he⟩ := mem_getD (d := []) hm
  have hkp : k ≤ p := by
    refine Nat.le_of_not_lt fun hlt => ?_
    unfold Iq at h2
    rw [show (k == 0) = false by rw [beq_eq_false_iff_ne]; omega, Bool.false_or, ← he] at h2
    by_cases e : p = k - 1
    · rw [e, N6] at h2; cases h2
    · rw [Ai (up_getD (O5 l) (i := p) (j := k - 1) (by omega) (by omega))] at h2; cases h2
  refine ⟨by omega, ?_⟩
  by_cases e : p = k
  · rw [← he, e]
  exfalso
  have hm2 : (srt l).getD k [] ∈ l := by rw [← Fx]; simp [show k < (srt l).length by omega]
  obtain ⟨j, hj, hje⟩ := mem_getD (d := []) hm2
  have := h3 j hj (by
    rw [hje]
    unfold Iq
    by_cases k0 : k = 0
    · simp [k0]
    · rw [up_getD (O5 l) (by omega) (by omega), Bool.or_true])
  rw [hje, ← he, up_getD (O5 l) (by omega) hp] at this
  cases this
theorem best_no {S l : List (List Int)} {k i : Nat} {o : Option Nat} (h : BestP S k l i o) (hc : Iq S k (l.getD i []) = false) : BestP S k l (i + 1) o := by
  cases o with
  | none => exact upTo h hc
  | some b =>
    obtain ⟨h1, h2, h3⟩ := h
    exact ⟨by omega, h2, upTo h3 fun h => by rw [hc] at h; cases h⟩
theorem best_first {S l : List (List Int)} {k i : Nat} (h : BestP S k l i none) (hc : Iq S k (l.getD i []) = true) : BestP S k l (i + 1) (some i) :=
  ⟨by omega, hc, fun j hj hcj => by
    by_cases e : j = i
    · rw [e, N6]
    · rw [h j (by omega)] at hcj; cases hcj⟩
theorem best_keep {S l : List (List Int)} {k i b : Nat} (h : BestP S k l i (some b)) (hl : Nb (l.getD i []) (l.getD b []) = false) : BestP S k l (i + 1) (some b) := by
  obtain ⟨h1, h2, h3⟩ := h
  exact ⟨by omega, h2, upTo h3 fun _ => hl⟩
theorem best_new {S l : List (List Int)} {k i b : Nat} (h : BestP S k l i (some b)) (hc : Iq S k (l.getD i []) = true) (hl : Nb (l.getD i []) (l.getD b []) = true) : BestP S k l (i + 1) (some i) := by
  obtain ⟨h1, h2, h3⟩ := h
  refine ⟨by omega, hc, fun j hj hcj => ?_⟩
  by_cases e : j = i
  · rw [e, N6]
  · rw [Bool.eq_false_iff]
    intro hji
    have := h3 j (by omega) hcj
    rw [S6 hji hl] at this
    cases this
end Go.Am.Hit
set_option linter.unusedSimpArgs false
set_option linter.unusedVariables false
set_option maxHeartbeats 2000000
namespace Go.Am.Hit
open Go.Proofs
open Enc (enc dec)
def Rs6 (l : List (Sl Int)) : Prop := l.length ≤ 1000000 ∧ ∀ j, (l.getD j ⟨[]⟩).l.length ≤ 1000000
theorem srt_at_len {l : List (Sl Int)} (h : Rs6 l) (j : Nat) : ((srt (unS l)).getD j []).length ≤ 1000000 := by
  by_cases hj : j < (srt (unS l)).length
  · have hm : (srt (unS l)).getD j [] ∈ unS l := by rw [← Fx]; simp [hj]
    obtain ⟨i, hi, he⟩ := mem_getD (d := []) hm
    rw [← he, unS_at]
    exact h.2 i
  · rw [List.getD_eq_getElem?_getD, List.getElem?_eq_none (by omega)]
    simp
theorem oI_neg {o : Option Nat} : ltB (oI o) 0 = o.isNone := by
  cases o with
  | none => rfl
  | some b => show ltB (b : Int) 0 = false; rw [Hg]; omega
def Gt : Con := con1 (fun (l : Sl (Sl Int)) => Rs6 l.l) (fun l => Sl.mk (slS (srt (unS l.l))))
noncomputable def De : Ctx := ⟨tab, lkC [(17, Gd)], 60, lkB [], [], false⟩
theorem Mo : De.τ = tab := rfl
theorem Mq : De.Γ = lkC [(17, Gd)] := rfl
theorem Mp : De.dp = 60 := rfl
theorem Mr : De.Δ = lkB [] := rfl
theorem Mn : De.cuts = [] := rfl
theorem Mm : De.wr = false := rfl
set_option maxRecDepth 100000 in
theorem good_Sort16 : Me Try.prog (24, Gt) := by
  refine ⟨Gj Try.func24 (by kernel_rfl) rfl, ?_⟩
  have K : Hq Try.prog De := Gq H8 G4 (by
    intro p hp
    simp only [List.mem_cons, List.not_mem_nil, or_false] at hp
    rcases hp with rfl
    · exact good_Less16) (by simp)
  obtain ⟨c, hc⟩ : ∃ c, Try.f24.body = some c := ⟨_, rfl⟩
  refine Gu K Try.func24 hc [.tmp 2] rfl 57 rfl (fun cvs hpre => ?_)
  change Gt.pre cvs at hpre
  unfold Gt at hpre
  obtain ⟨⟨l⟩, rfl, hR⟩ := Ct hpre
  have hR' : Rs6 l := hR
  obtain ⟨hl, hl2⟩ : Rs6 l := hR
  have hl9 : l.length ≤ 9223372036854775807 := by omega
  have hsl := srt_len (unS l)
  have hul : (unS l).length = l.length := by unfold unS; simp
  have hat := srt_at_len hR'
  obtain ⟨S, hS⟩ : ∃ S, srt (unS l) = S := ⟨_, rfl⟩
  rw [hS] at hsl
  simp only [hS] at hat
  clear hpre
  simp only [Try.f24, Option.some.injEq] at hc
  subst hc
  refine Hy 3 (of_decide_eq_true (by kernel_rfl)) ?_
  (sym =>
   simp [Mo,Mq,Mp,Mr,Mn,Mm,Gd.eq_def,Gt.eq_def,Za,Zb,Zc,Zd,Ze,Zf,Zg,Zh,Zi,Zj,Zk,Zl,Zm,Zn,Zo,Zp,Zq,Zr,Zs,Zt,Zv,Zx,Zz,Z0,Z1,Z2,Z6,Z7,Z8,Z9,Qa,Qb,Qc,Qd,Qe,Qi,Qj,Qk,Ql,Qm,Qn,Qo,Qp,Qv,Qw,Qy,Qz,Q0,Q1,Q2,Q3,Q4,Q5,Q6,Q7,Q8,Q9,Ja,Jb,Jc,Jd,Je,Jl,Jp,Jq,Jr,Js,Jt,Ju,Jx,Jy,Jz,J0,J1,J2,J3,J4,J5,J6,J7,J8,J9,Xa,Xb,Xc,Xd,Xe,Xf,Xg,Xh,Xi,Xj,Xk,Xl,Xm,Xn,Xo,Xp,Xq,Xs,Xt,Xu,Xv,Xw,Xx,Xy,Xz,X0,X1,X2,X3,X4,X5,X6,X7,X8,X9,Wa,Wb,Wc,Wd,We,Wf,Wg,Wh,Wi,Wj,Wl,Wm,Wn,Wo,Wp,Wq,Wr,Ws,Wt,Wu,Wv,Ww,Wx,Wy,Wz,W0,W1,W2,W3,W4,W5,W6,W7,W8,Yb,Yc,Yd,Ye,Yf,Yg,Yh,Yi,Yj,Yk,Yl,Ym,Yn,Yo,Yp,Yq,Yr,Ys,Yt,Yu,Yv,Yw,Yx,Yy,Yz,Y0,Y1,Y2,Y3,Y4,Y5,Y6,Y7,Y8,Y9,Va,Vb,Vc,Vd,Ve,Vf,Vg,Vh,Vi,Vj,Vk,Vl,Vm,Vn,Vo,Vp,Vq,Vr,Vs,Vt,Vu,Vv,Vw,Vx,Vy,Vz,V0,V1,V3,V4,V5,V6,V7,V8,V9,Ua,Ub,Uc,Ud,Ue,Uf,Ul,Um,Un,Uo,Uq,Ur,Us,Ut,Uu,Uv,Uw,Ux,Uy,Uz,U0,U1,U3,U4,U5,U6,U7,U8,U9,Ka,Kb,Kc,Kd,Ke,Kf,Kg,Kh,Ki,Kj,Kk,Kl,Km,Kn,Ko,Kq,Kr,Ks,Kt,Ga,K8,Kz]
   tactic =>
    try simp only [K2] at *
    try simp only [nc2] at *
    try simp (maxSteps := 4000000) only [Gg]
    repeat' (first | with_reducible assumption | with_reducible refine And.intro ?_ ?_ | intro _ | omega | (rw [Ku]; omega))
    refine Gi [2, 4, 5, 7, 8, 9, 10, 11, 12, 13, 14, 15, 16, 17, 18, 19, 20, 21, 22, 23, 24, 25, 26, 27, 28, 29, 30, 31, 32, 33, 34, 35, 36, 37, 38, 39, 40, 41, 42, 43, 44, 45, 46, 47, 48, 49, 50, 51, 52, 53, 54, 55, 56] (fun k : Nat => [(3, .sl 6 ((slS (S.take k)).map (enc : Sl Int → D)).length)]) (fun k : Nat => [(6, .row 1 ((slS (S.take k)).map enc) 0)]) (fun k : Nat => k ≤ S.length) (fun k : Nat => S.length - k) 0 ?_ ?_ ?_
    · omega
    · ((try simp only [Kv, Ky, Kx, K4, upd, K5, Gb, Gs, Nat.reduceDiv, Nat.reduceMod, Nat.reduceMul, Nat.reduceAdd, Nat.reduceEqDiff, List.set_cons_zero, List.set_cons_succ, if_true, if_false, reduceIte]); (first | refine Wk.of_fl ?_ | skip); simp only [Wk, wkK, Gy, wkT, wk1, AV.kept, keptAll, wkO, lk, Kw, and_true, true_and, and_self, Nat.reduceEqDiff, Nat.reduceLeDiff, if_true, if_false, reduceIte, reduceCtorEq, Option.isSome, false_implies]; try simp [Wk, wkK, wkT, wk1, AV.kept, keptAll, wkO, lk, Kw, slS])
    rintro k hk
    have hOl : (slS (S.take k)).length = k := by rw [slS_len, List.length_take]; omega
    obtain ⟨O, hO⟩ : ∃ O, slS (S.take k) = O := ⟨_, rfl⟩
    rw [hO] at hOl ⊢
    have hOk : ∀ j, j < k → O.getD j ⟨[]⟩ = ⟨S.getD j []⟩ := fun j hj => by
      rw [← hO, slS_at]
      congr 1
      simp only [List.getD_eq_getElem?_getD, List.getElem?_take, if_pos hj]
    (sym =>
     simp [Mo,Mq,Mp,Mr,Mn,Mm,Gd.eq_def,Gt.eq_def,Za,Zb,Zc,Zd,Ze,Zf,Zg,Zh,Zi,Zj,Zk,Zl,Zm,Zn,Zo,Zp,Zq,Zr,Zs,Zt,Zv,Zx,Zz,Z0,Z1,Z2,Z6,Z7,Z8,Z9,Qa,Qb,Qc,Qd,Qe,Qi,Qj,Qk,Ql,Qm,Qn,Qo,Qp,Qv,Qw,Qy,Qz,Q0,Q1,Q2,Q3,Q4,Q5,Q6,Q7,Q8,Q9,Ja,Jb,Jc,Jd,Je,Jl,Jp,Jq,Jr,Js,Jt,Ju,Jx,Jy,Jz,J0,J1,J2,J3,J4,J5,J6,J7,J8,J9,Xa,Xb,Xc,Xd,Xe,Xf,Xg,Xh,Xi,Xj,Xk,Xl,Xm,Xn,Xo,Xp,Xq,Xs,Xt,Xu,Xv,Xw,Xx,Xy,Xz,X0,X1,X2,X3,X4,X5,X6,X7,X8,X9,Wa,Wb,Wc,Wd,We,Wf,Wg,Wh,Wi,Wj,Wl,Wm,Wn,Wo,Wp,Wq,Wr,Ws,Wt,Wu,Wv,Ww,Wx,Wy,Wz,W0,W1,W2,W3,W4,W5,W6,W7,W8,Yb,Yc,Yd,Ye,Yf,Yg,Yh,Yi,Yj,Yk,Yl,Ym,Yn,Yo,Yp,Yq,Yr,Ys,Yt,Yu,Yv,Yw,Yx,Yy,Yz,Y0,Y1,Y2,Y3,Y4,Y5,Y6,Y7,Y8,Y9,Va,Vb,Vc,Vd,Ve,Vf,Vg,Vh,Vi,Vj,Vk,Vl,Vm,Vn,Vo,Vp,Vq,Vr,Vs,Vt,Vu,Vv,Vw,Vx,Vy,Vz,V0,V1,V3,V4,V5,V6,V7,V8,V9,Ua,Ub,Uc,Ud,Ue,Uf,Ul,Um,Un,Uo,Uq,Ur,Us,Ut,Uu,Uv,Uw,Ux,Uy,Uz,U0,U1,U3,U4,U5,U6,U7,U8,U9,Ka,Kb,Kc,Kd,Ke,Kf,Kg,Kh,Ki,Kj,Kk,Kl,Km,Kn,Ko,Kq,Kr,Ks,Kt,Ga,K8,Kz]
     tactic =>
      try simp only [K2] at *
      try simp only [nc2] at *
      try simp (maxSteps := 4000000) only [Gg]
      repeat' (first | with_reducible assumption | with_reducible refine And.intro ?_ ?_ | intro _ | omega | (rw [Ku]; omega))
      refine Gi [7, 8, 9, 10, 11, 12, 13, 14, 15, 16, 17, 18, 19, 20, 21, 22, 23, 24, 25, 26, 27, 28, 29, 30, 31, 32, 33, 34, 35, 36, 37, 38, 39, 40, 41, 42, 43, 44] (fun q : Nat × Option Nat => [(4, .d (.int .i64 (oI q.2))), (5, .d (.int .i64 q.1))]) (fun q : Nat × Option Nat => []) (fun q : Nat × Option Nat => q.1 ≤ l.length ∧ BestP S k (unS l) q.1 q.2) (fun q : Nat × Option Nat => l.length - q.1) (0, none) ?_ ?_ ?_
      · exact ⟨Nat.zero_le _, fun j hj => absurd hj (by omega)⟩
      · ((try simp only [Kv, Ky, Kx, K4, upd, K5, Gb, Gs, Nat.reduceDiv, Nat.reduceMod, Nat.reduceMul, Nat.reduceAdd, Nat.reduceEqDiff, List.set_cons_zero, List.set_cons_succ, if_true, if_false, reduceIte]); (first | refine Wk.of_fl ?_ | skip); simp only [Wk, wkK, Gy, wkT, wk1, AV.kept, keptAll, wkO, lk, Kw, and_true, true_and, and_self, Nat.reduceEqDiff, Nat.reduceLeDiff, if_true, if_false, reduceIte, reduceCtorEq, Option.isSome, false_implies]; try simp [Wk, wkK, wkT, wk1, AV.kept, keptAll, wkO, lk, Kw, oI])
      rintro ⟨i, o⟩ ⟨hi, hb⟩
      simp only at hi hb
      have hneg := oI_neg (o := o)
      rcases Gl i l.length with ⟨hlt, hlb⟩ | ⟨hlt, hlb⟩
      · have q1 := Hd (⟨[]⟩ : Sl Int) hlt
        have h1 := hl2 i
        have hno := best_no (i := i) hb
        have hf := fun (h : o = none) => best_first (i := i) (h ▸ hb)
        have hkeep := fun b (h : o = some b) => best_keep (i := i) (h ▸ hb)
        have hnew := fun b (h : o = some b) => best_new (i := i) (h ▸ hb)
        rw [unS_at] at hno hf
        simp only [unS_at] at hkeep hnew
        obtain ⟨⟨x⟩, hx⟩ : ∃ s, l.getD i ⟨[]⟩ = s := ⟨_, rfl⟩
        rw [hx] at q1 h1 hno hf
        simp only [hx] at hkeep hnew
        simp only at h1 hno hf
        have h19 : x.length ≤ 9223372036854775807 := by omega
        by_cases k0 : k = 0
        · have z0 : ((k : Int) == 0) = true := by rw [beq_iff_eq]; omega
          have hc : Iq S k x = true := by unfold Iq; simp [k0]
          cases o with
          | none =>
            have h2 := hf rfl hc
            have hneg : ltB (oI none) 0 = true := rfl
            (sym =>
             simp [hlb,hOl,z0,hneg,Mo,Mq,Mp,Mr,Mn,Mm,Gd.eq_def,Gt.eq_def,Za,Zb,Zc,Zd,Ze,Zf,Zg,Zh,Zi,Zj,Zk,Zl,Zm,Zn,Zo,Zp,Zq,Zr,Zs,Zt,Zv,Zx,Zz,Z0,Z1,Z2,Z6,Z7,Z8,Z9,Qa,Qb,Qc,Qd,Qe,Qi,Qj,Qk,Ql,Qm,Qn,Qo,Qp,Qv,Qw,Qy,Qz,Q0,Q1,Q2,Q3,Q4,Q5,Q6,Q7,Q8,Q9,Ja,Jb,Jc,Jd,Je,Jl,Jp,Jq,Jr,Js,Jt,Ju,Jx,Jy,Jz,J0,J1,J2,J3,J4,J5,J6,J7,J8,J9,Xa,Xb,Xc,Xd,Xe,Xf,Xg,Xh,Xi,Xj,Xk,Xl,Xm,Xn,Xo,Xp,Xq,Xs,Xt,Xu,Xv,Xw,Xx,Xy,Xz,X0,X1,X2,X3,X4,X5,X6,X7,X8,X9,Wa,Wb,Wc,Wd,We,Wf,Wg,Wh,Wi,Wj,Wl,Wm,Wn,Wo,Wp,Wq,Wr,Ws,Wt,Wu,Wv,Ww,Wx,Wy,Wz,W0,W1,W2,W3,W4,W5,W6,W7,W8,Yb,Yc,Yd,Ye,Yf,Yg,Yh,Yi,Yj,Yk,Yl,Ym,Yn,Yo,Yp,Yq,Yr,Ys,Yt,Yu,Yv,Yw,Yx,Yy,Yz,Y0,Y1,Y2,Y3,Y4,Y5,Y6,Y7,Y8,Y9,Va,Vb,Vc,Vd,Ve,Vf,Vg,Vh,Vi,Vj,Vk,Vl,Vm,Vn,Vo,Vp,Vq,Vr,Vs,Vt,Vu,Vv,Vw,Vx,Vy,Vz,V0,V1,V3,V4,V5,V6,V7,V8,V9,Ua,Ub,Uc,Ud,Ue,Uf,Ul,Um,Un,Uo,Uq,Ur,Us,Ut,Uu,Uv,Uw,Ux,Uy,Uz,U0,U1,U3,U4,U5,U6,U7,U8,U9,Ka,Kb,Kc,Kd,Ke,Kf,Kg,Kh,Ki,Kj,Kk,Kl,Km,Kn,Ko,Kq,Kr,Ks,Kt,Ga,K8,Kz]
             tactic =>
              try simp only [K2] at *
              try simp only [nc2] at *
              try simp (maxSteps := 4000000) only [hlb,hOl,z0,hneg,Gg]
              repeat' (first | with_reducible assumption | with_reducible refine And.intro ?_ ?_ | intro _ | omega | (rw [Ku]; omega))
              all_goals first
                | (with_reducible refine K9 ?_; kernel_rfl)
                | omega
                | exact ⟨(i + 1, some i), by ((try simp only [Kv, Ky, Kx, K4, upd, K5, Gb, Gs, Nat.reduceDiv, Nat.reduceMod, Nat.reduceMul, Nat.reduceAdd, Nat.reduceEqDiff, List.set_cons_zero, List.set_cons_succ, if_true, if_false, reduceIte]); (first | refine Wk.of_fl ?_ | skip); simp only [Wk, wkK, Gy, wkT, wk1, AV.kept, keptAll, wkO, lk, Kw, and_true, true_and, and_self, Nat.reduceEqDiff, Nat.reduceLeDiff, if_true, if_false, reduceIte, reduceCtorEq, Option.isSome, false_implies]; try simp [Wk, wkK, wkT, wk1, AV.kept, keptAll, wkO, lk, Kw, oI]), by simp only; omega, h2, by simp only; omega⟩
                | skip)
          | some b =>
            have hbl : b < l.length := by have := hb.1; omega
            have hneg : ltB (b : Int) 0 = false := by rw [Hg]; omega
            have hob : oI (some b) = (b : Int) := rfl
            have q4 := Hd (⟨[]⟩ : Sl Int) hbl
            have h4 := hl2 b
            have hkp := hkeep b rfl
            have hnw := hnew b rfl hc
            obtain ⟨⟨y⟩, hy⟩ : ∃ s, l.getD b ⟨[]⟩ = s := ⟨_, rfl⟩
            rw [hy] at q4 h4 hkp hnw
            simp only at h4 hkp hnw
            have h49 : y.length ≤ 9223372036854775807 := by omega
            cases hl3 : Nb x y with
            | true =>
              have h2 := hnw hl3
              (sym =>
               simp [hlb,hOl,z0,hob,hneg,q1,q4,hl3,Int.toNat_natCast,Mo,Mq,Mp,Mr,Mn,Mm,Gd.eq_def,Gt.eq_def,Za,Zb,Zc,Zd,Ze,Zf,Zg,Zh,Zi,Zj,Zk,Zl,Zm,Zn,Zo,Zp,Zq,Zr,Zs,Zt,Zv,Zx,Zz,Z0,Z1,Z2,Z6,Z7,Z8,Z9,Qa,Qb,Qc,Qd,Qe,Qi,Qj,Qk,Ql,Qm,Qn,Qo,Qp,Qv,Qw,Qy,Qz,Q0,Q1,Q2,Q3,Q4,Q5,Q6,Q7,Q8,Q9,Ja,Jb,Jc,Jd,Je,Jl,Jp,Jq,Jr,Js,Jt,Ju,Jx,Jy,Jz,J0,J1,J2,J3,J4,J5,J6,J7,J8,J9,Xa,Xb,Xc,Xd,Xe,Xf,Xg,Xh,Xi,Xj,Xk,Xl,Xm,Xn,Xo,Xp,Xq,Xs,Xt,Xu,Xv,Xw,Xx,Xy,Xz,X0,X1,X2,X3,X4,X5,X6,X7,X8,X9,Wa,Wb,Wc,Wd,We,Wf,Wg,Wh,Wi,Wj,Wl,Wm,Wn,Wo,Wp,Wq,Wr,Ws,Wt,Wu,Wv,Ww,Wx,Wy,Wz,W0,W1,W2,W3,W4,W5,W6,W7,W8,Yb,Yc,Yd,Ye,Yf,Yg,Yh,Yi,Yj,Yk,Yl,Ym,Yn,Yo,Yp,Yq,Yr,Ys,Yt,Yu,Yv,Yw,Yx,Yy,Yz,Y0,Y1,Y2,Y3,Y4,Y5,Y6,Y7,Y8,Y9,Va,Vb,Vc,Vd,Ve,Vf,Vg,Vh,Vi,Vj,Vk,Vl,Vm,Vn,Vo,Vp,Vq,Vr,Vs,Vt,Vu,Vv,Vw,Vx,Vy,Vz,V0,V1,V3,V4,V5,V6,V7,V8,V9,Ua,Ub,Uc,Ud,Ue,Uf,Ul,Um,Un,Uo,Uq,Ur,Us,Ut,Uu,Uv,Uw,Ux,Uy,Uz,U0,U1,U3,U4,U5,U6,U7,U8,U9,Ka,Kb,Kc,Kd,Ke,Kf,Kg,Kh,Ki,Kj,Kk,Kl,Km,Kn,Ko,Kq,Kr,Ks,Kt,Ga,K8,Kz]
               tactic =>
                try simp only [K2] at *
                try simp only [nc2] at *
                try simp (maxSteps := 4000000) only [hlb,hOl,z0,hob,hneg,q1,q4,hl3,Int.toNat_natCast,Gg]
                repeat' (first | with_reducible assumption | with_reducible refine And.intro ?_ ?_ | intro _ | omega | (rw [Ku]; omega))
                all_goals first
                  | (with_reducible refine K9 ?_; kernel_rfl)
                  | omega
                  | exact ⟨(i + 1, some i), by ((try simp only [Kv, Ky, Kx, K4, upd, K5, Gb, Gs, Nat.reduceDiv, Nat.reduceMod, Nat.reduceMul, Nat.reduceAdd, Nat.reduceEqDiff, List.set_cons_zero, List.set_cons_succ, if_true, if_false, reduceIte]); (first | refine Wk.of_fl ?_ | skip); simp only [Wk, wkK, Gy, wkT, wk1, AV.kept, keptAll, wkO, lk, Kw, and_true, true_and, and_self, Nat.reduceEqDiff, Nat.reduceLeDiff, if_true, if_false, reduceIte, reduceCtorEq, Option.isSome, false_implies]; try simp [Wk, wkK, wkT, wk1, AV.kept, keptAll, wkO, lk, Kw, oI]), by simp only; omega, h2, by simp only; omega⟩
                  | skip)
            | false =>
              have h2 := hkp hl3
              (sym =>
               simp [hlb,hOl,z0,hob,hneg,q1,q4,hl3,Int.toNat_natCast,Mo,Mq,Mp,Mr,Mn,Mm,Gd.eq_def,Gt.eq_def,Za,Zb,Zc,Zd,Ze,Zf,Zg,Zh,Zi,Zj,Zk,Zl,Zm,Zn,Zo,Zp,Zq,Zr,Zs,Zt,Zv,Zx,Zz,Z0,Z1,Z2,Z6,Z7,Z8,Z9,Qa,Qb,Qc,Qd,Qe,Qi,Qj,Qk,Ql,Qm,Qn,Qo,Qp,Qv,Qw,Qy,Qz,Q0,Q1,Q2,Q3,Q4,Q5,Q6,Q7,Q8,Q9,Ja,Jb,Jc,Jd,Je,Jl,Jp,Jq,Jr,Js,Jt,Ju,Jx,Jy,Jz,J0,J1,J2,J3,J4,J5,J6,J7,J8,J9,Xa,Xb,Xc,Xd,Xe,Xf,Xg,Xh,Xi,Xj,Xk,Xl,Xm,Xn,Xo,Xp,Xq,Xs,Xt,Xu,Xv,Xw,Xx,Xy,Xz,X0,X1,X2,X3,X4,X5,X6,X7,X8,X9,Wa,Wb,Wc,Wd,We,Wf,Wg,Wh,Wi,Wj,Wl,Wm,Wn,Wo,Wp,Wq,Wr,Ws,Wt,Wu,Wv,Ww,Wx,Wy,Wz,W0,W1,W2,W3,W4,W5,W6,W7,W8,Yb,Yc,Yd,Ye,Yf,Yg,Yh,Yi,Yj,Yk,Yl,Ym,Yn,Yo,Yp,Yq,Yr,Ys,Yt,Yu,Yv,Yw,Yx,Yy,Yz,Y0,Y1,Y2,Y3,Y4,Y5,Y6,Y7,Y8,Y9,Va,Vb,Vc,Vd,Ve,Vf,Vg,Vh,Vi,Vj,Vk,Vl,Vm,Vn,Vo,Vp,Vq,Vr,Vs,Vt,Vu,Vv,Vw,Vx,Vy,Vz,V0,V1,V3,V4,V5,V6,V7,V8,V9,Ua,Ub,Uc,Ud,Ue,Uf,Ul,Um,Un,Uo,Uq,Ur,Us,Ut,Uu,Uv,Uw,Ux,Uy,Uz,U0,U1,U3,U4,U5,U6,U7,U8,U9,Ka,Kb,Kc,Kd,Ke,Kf,Kg,Kh,Ki,Kj,Kk,Kl,Km,Kn,Ko,Kq,Kr,Ks,Kt,Ga,K8,Kz]
               tactic =>
                try simp only [K2] at *
                try simp only [nc2] at *
                try simp (maxSteps := 4000000) only [hlb,hOl,z0,hob,hneg,q1,q4,hl3,Int.toNat_natCast,Gg]
                repeat' (first | with_reducible assumption | with_reducible refine And.intro ?_ ?_ | intro _ | omega | (rw [Ku]; omega))
                all_goals first
                  | (with_reducible refine K9 ?_; kernel_rfl)
                  | omega
                  | exact ⟨(i + 1, some b), by ((try simp only [Kv, Ky, Kx, K4, upd, K5, Gb, Gs, Nat.reduceDiv, Nat.reduceMod, Nat.reduceMul, Nat.reduceAdd, Nat.reduceEqDiff, List.set_cons_zero, List.set_cons_succ, if_true, if_false, reduceIte]); (first | refine Wk.of_fl ?_ | skip); simp only [Wk, wkK, Gy, wkT, wk1, AV.kept, keptAll, wkO, lk, Kw, and_true, true_and, and_self, Nat.reduceEqDiff, Nat.reduceLeDiff, if_true, if_false, reduceIte, reduceCtorEq, Option.isSome, false_implies]; try simp [Wk, wkK, wkT, wk1, AV.kept, keptAll, wkO, lk, Kw, oI]), by simp only; omega, h2, by simp only; omega⟩
                  | skip)
        · have z0 : ((k : Int) == 0) = false := by rw [beq_eq_false_iff_ne]; omega
          have e1 : (k : Int) - 1 = ((k - 1 : Nat) : Int) := by omega
          have q2 := Hd (⟨[]⟩ : Sl Int) (show k - 1 < O.length by omega)
          rw [hOk (k - 1) (by omega)] at q2
          have h3 := hat (k - 1)
          have hcd : Iq S k x = Nb (S.getD (k - 1) []) x := by unfold Iq; rw [show (k == 0) = false by simp [k0], Bool.false_or]
          obtain ⟨u, hu⟩ : ∃ u, S.getD (k - 1) [] = u := ⟨_, rfl⟩
          rw [hu] at q2 h3 hcd
          have h39 : u.length ≤ 9223372036854775807 := by omega
          obtain ⟨k1, hk1⟩ : ∃ k1, k - 1 = k1 := ⟨_, rfl⟩
          rw [hk1] at e1 q2
          cases hux : Nb u x with
          | false =>
            rw [hux] at hcd
            have h2 := hno hcd
            (sym =>
             simp [hlb,hOl,z0,e1,q1,q2,hux,Int.toNat_natCast,Mo,Mq,Mp,Mr,Mn,Mm,Gd.eq_def,Gt.eq_def,Za,Zb,Zc,Zd,Ze,Zf,Zg,Zh,Zi,Zj,Zk,Zl,Zm,Zn,Zo,Zp,Zq,Zr,Zs,Zt,Zv,Zx,Zz,Z0,Z1,Z2,Z6,Z7,Z8,Z9,Qa,Qb,Qc,Qd,Qe,Qi,Qj,Qk,Ql,Qm,Qn,Qo,Qp,Qv,Qw,Qy,Qz,Q0,Q1,Q2,Q3,Q4,Q5,Q6,Q7,Q8,Q9,Ja,Jb,Jc,Jd,Je,Jl,Jp,Jq,Jr,Js,Jt,Ju,Jx,Jy,Jz,J0,J1,J2,J3,J4,J5,J6,J7,J8,J9,Xa,Xb,Xc,Xd,Xe,Xf,Xg,Xh,Xi,Xj,Xk,Xl,Xm,Xn,Xo,Xp,Xq,Xs,Xt,Xu,Xv,Xw,Xx,Xy,Xz,X0,X1,X2,X3,X4,X5,X6,X7,X8,X9,Wa,Wb,Wc,Wd,We,Wf,Wg,Wh,Wi,Wj,Wl,Wm,Wn,Wo,Wp,Wq,Wr,Ws,Wt,Wu,Wv,Ww,Wx,Wy,Wz,W0,W1,W2,W3,W4,W5,W6,W7,W8,Yb,Yc,Yd,Ye,Yf,Yg,Yh,Yi,Yj,Yk,Yl,Ym,Yn,Yo,Yp,Yq,Yr,Ys,Yt,Yu,Yv,Yw,Yx,Yy,Yz,Y0,Y1,Y2,Y3,Y4,Y5,Y6,Y7,Y8,Y9,Va,Vb,Vc,Vd,Ve,Vf,Vg,Vh,Vi,Vj,Vk,Vl,Vm,Vn,Vo,Vp,Vq,Vr,Vs,Vt,Vu,Vv,Vw,Vx,Vy,Vz,V0,V1,V3,V4,V5,V6,V7,V8,V9,Ua,Ub,Uc,Ud,Ue,Uf,Ul,Um,Un,Uo,Uq,Ur,Us,Ut,Uu,Uv,Uw,Ux,Uy,Uz,U0,U1,U3,U4,U5,U6,U7,U8,U9,Ka,Kb,Kc,Kd,Ke,Kf,Kg,Kh,Ki,Kj,Kk,Kl,Km,Kn,Ko,Kq,Kr,Ks,Kt,Ga,K8,Kz]
             tactic =>
              try simp only [K2] at *
              try simp only [nc2] at *
              try simp (maxSteps := 4000000) only [hlb,hOl,z0,e1,q1,q2,hux,Int.toNat_natCast,Gg]
              repeat' (first | with_reducible assumption | with_reducible refine And.intro ?_ ?_ | intro _ | omega | (rw [Ku]; omega))
              all_goals first
                | (with_reducible refine K9 ?_; kernel_rfl)
                | omega
                | exact ⟨(i + 1, o), by ((try simp only [Kv, Ky, Kx, K4, upd, K5, Gb, Gs, Nat.reduceDiv, Nat.reduceMod, Nat.reduceMul, Nat.reduceAdd, Nat.reduceEqDiff, List.set_cons_zero, List.set_cons_succ, if_true, if_false, reduceIte]); (first | refine Wk.of_fl ?_ | skip); simp only [Wk, wkK, Gy, wkT, wk1, AV.kept, keptAll, wkO, lk, Kw, and_true, true_and, and_self, Nat.reduceEqDiff, Nat.reduceLeDiff, if_true, if_false, reduceIte, reduceCtorEq, Option.isSome, false_implies]; try simp [Wk, wkK, wkT, wk1, AV.kept, keptAll, wkO, lk, Kw]), by simp only; omega, h2, by simp only; omega⟩
                | skip)
          | true =>
            rw [hux] at hcd
            have hc := hcd
            cases o with
            | none =>
              have h2 := hf rfl hc
              have hneg : ltB (oI none) 0 = true := rfl
              (sym =>
               simp [hlb,hOl,z0,e1,q1,q2,hux,hneg,Mo,Mq,Mp,Mr,Mn,Mm,Gd.eq_def,Gt.eq_def,Za,Zb,Zc,Zd,Ze,Zf,Zg,Zh,Zi,Zj,Zk,Zl,Zm,Zn,Zo,Zp,Zq,Zr,Zs,Zt,Zv,Zx,Zz,Z0,Z1,Z2,Z6,Z7,Z8,Z9,Qa,Qb,Qc,Qd,Qe,Qi,Qj,Qk,Ql,Qm,Qn,Qo,Qp,Qv,Qw,Qy,Qz,Q0,Q1,Q2,Q3,Q4,Q5,Q6,Q7,Q8,Q9,Ja,Jb,Jc,Jd,Je,Jl,Jp,Jq,Jr,Js,Jt,Ju,Jx,Jy,Jz,J0,J1,J2,J3,J4,J5,J6,J7,J8,J9,Xa,Xb,Xc,Xd,Xe,Xf,Xg,Xh,Xi,Xj,Xk,Xl,Xm,Xn,Xo,Xp,Xq,Xs,Xt,Xu,Xv,Xw,Xx,Xy,Xz,X0,X1,X2,X3,X4,X5,X6,X7,X8,X9,Wa,Wb,Wc,Wd,We,Wf,Wg,Wh,Wi,Wj,Wl,Wm,Wn,Wo,Wp,Wq,Wr,Ws,Wt,Wu,Wv,Ww,Wx,Wy,Wz,W0,W1,W2,W3,W4,W5,W6,W7,W8,Yb,Yc,Yd,Ye,Yf,Yg,Yh,Yi,Yj,Yk,Yl,Ym,Yn,Yo,Yp,Yq,Yr,Ys,Yt,Yu,Yv,Yw,Yx,Yy,Yz,Y0,Y1,Y2,Y3,Y4,Y5,Y6,Y7,Y8,Y9,Va,Vb,Vc,Vd,Ve,Vf,Vg,Vh,Vi,Vj,Vk,Vl,Vm,Vn,Vo,Vp,Vq,Vr,Vs,Vt,Vu,Vv,Vw,Vx,Vy,Vz,V0,V1,V3,V4,V5,V6,V7,V8,V9,Ua,Ub,Uc,Ud,Ue,Uf,Ul,Um,Un,Uo,Uq,Ur,Us,Ut,Uu,Uv,Uw,Ux,Uy,Uz,U0,U1,U3,U4,U5,U6,U7,U8,U9,Ka,Kb,Kc,Kd,Ke,Kf,Kg,Kh,Ki,Kj,Kk,Kl,Km,Kn,Ko,Kq,Kr,Ks,Kt,Ga,K8,Kz]
               tactic =>
                try simp only [K2] at *
                try simp only [nc2] at *
                try simp (maxSteps := 4000000) only [hlb,hOl,z0,e1,q1,q2,hux,hneg,Gg]
                repeat' (first | with_reducible assumption | with_reducible refine And.intro ?_ ?_ | intro _ | omega | (rw [Ku]; omega))
                all_goals first
                  | (with_reducible refine K9 ?_; kernel_rfl)
                  | omega
                  | exact ⟨(i + 1, some i), by ((try simp only [Kv, Ky, Kx, K4, upd, K5, Gb, Gs, Nat.reduceDiv, Nat.reduceMod, Nat.reduceMul, Nat.reduceAdd, Nat.reduceEqDiff, List.set_cons_zero, List.set_cons_succ, if_true, if_false, reduceIte]); (first | refine Wk.of_fl ?_ | skip); simp only [Wk, wkK, Gy, wkT, wk1, AV.kept, keptAll, wkO, lk, Kw, and_true, true_and, and_self, Nat.reduceEqDiff, Nat.reduceLeDiff, if_true, if_false, reduceIte, reduceCtorEq, Option.isSome, false_implies]; try simp [Wk, wkK, wkT, wk1, AV.kept, keptAll, wkO, lk, Kw, oI]), by simp only; omega, h2, by simp only; omega⟩
                  | skip)
            | some b =>
              have hbl : b < l.length := by have := hb.1; omega
              have hneg : ltB (b : Int) 0 = false := by rw [Hg]; omega
              have hob : oI (some b) = (b : Int) := rfl
              have q4 := Hd (⟨[]⟩ : Sl Int) hbl
              have h4 := hl2 b
              have hkp := hkeep b rfl
              have hnw := hnew b rfl hc
              obtain ⟨⟨y⟩, hy⟩ : ∃ s, l.getD b ⟨[]⟩ = s := ⟨_, rfl⟩
              rw [hy] at q4 h4 hkp hnw
              simp only at h4 hkp hnw
              have h49 : y.length ≤ 9223372036854775807 := by omega
              cases hl3 : Nb x y with
              | true =>
                have h2 := hnw hl3
                (sym =>
                 simp [hlb,hOl,z0,e1,q1,q2,hux,hob,hneg,q4,hl3,Int.toNat_natCast,Mo,Mq,Mp,Mr,Mn,Mm,Gd.eq_def,Gt.eq_def,Za,Zb,Zc,Zd,Ze,Zf,Zg,Zh,Zi,Zj,Zk,Zl,Zm,Zn,Zo,Zp,Zq,Zr,Zs,Zt,Zv,Zx,Zz,Z0,Z1,Z2,Z6,Z7,Z8,Z9,Qa,Qb,Qc,Qd,Qe,Qi,Qj,Qk,Ql,Qm,Qn,Qo,Qp,Qv,Qw,Qy,Qz,Q0,Q1,Q2,Q3,Q4,Q5,Q6,Q7,Q8,Q9,Ja,Jb,Jc,Jd,Je,Jl,Jp,Jq,Jr,Js,Jt,Ju,Jx,Jy,Jz,J0,J1,J2,J3,J4,J5,J6,J7,J8,J9,Xa,Xb,Xc,Xd,Xe,Xf,Xg,Xh,Xi,Xj,Xk,Xl,Xm,Xn,Xo,Xp,Xq,Xs,Xt,Xu,Xv,Xw,Xx,Xy,Xz,X0,X1,X2,X3,X4,X5,X6,X7,X8,X9,Wa,Wb,Wc,Wd,We,Wf,Wg,Wh,Wi,Wj,Wl,Wm,Wn,Wo,Wp,Wq,Wr,Ws,Wt,Wu,Wv,Ww,Wx,Wy,Wz,W0,W1,W2,W3,W4,W5,W6,W7,W8,Yb,Yc,Yd,Ye,Yf,Yg,Yh,Yi,Yj,Yk,Yl,Ym,Yn,Yo,Yp,Yq,Yr,Ys,Yt,Yu,Yv,Yw,Yx,Yy,Yz,Y0,Y1,Y2,Y3,Y4,Y5,Y6,Y7,Y8,Y9,Va,Vb,Vc,Vd,Ve,Vf,Vg,Vh,Vi,Vj,Vk,Vl,Vm,Vn,Vo,Vp,Vq,Vr,Vs,Vt,Vu,Vv,Vw,Vx,Vy,Vz,V0,V1,V3,V4,V5,V6,V7,V8,V9,Ua,Ub,Uc,Ud,Ue,Uf,Ul,Um,Un,Uo,Uq,Ur,Us,Ut,Uu,Uv,Uw,Ux,Uy,Uz,U0,U1,U3,U4,U5,U6,U7,U8,U9,Ka,Kb,Kc,Kd,Ke,Kf,Kg,Kh,Ki,Kj,Kk,Kl,Km,Kn,Ko,Kq,Kr,Ks,Kt,Ga,K8,Kz]
                 tactic =>
                  try simp only [K2] at *
                  try simp only [nc2] at *
                  try simp (maxSteps := 4000000) only [hlb,hOl,z0,e1,q1,q2,hux,hob,hneg,q4,hl3,Int.toNat_natCast,Gg]
                  repeat' (first | with_reducible assumption | with_reducible refine And.intro ?_ ?_ | intro _ | omega | (rw [Ku]; omega))
                  all_goals first
                    | (with_reducible refine K9 ?_; kernel_rfl)
                    | omega
                    | exact ⟨(i + 1, some i), by ((try simp only [Kv, Ky, Kx, K4, upd, K5, Gb, Gs, Nat.reduceDiv, Nat.reduceMod, Nat.reduceMul, Nat.reduceAdd, Nat.reduceEqDiff, List.set_cons_zero, List.set_cons_succ, if_true, if_false, reduceIte]); (first | refine Wk.of_fl ?_ | skip); simp only [Wk, wkK, Gy, wkT, wk1, AV.kept, keptAll, wkO, lk, Kw, and_true, true_and, and_self, Nat.reduceEqDiff, Nat.reduceLeDiff, if_true, if_false, reduceIte, reduceCtorEq, Option.isSome, false_implies]; try simp [Wk, wkK, wkT, wk1, AV.kept, keptAll, wkO, lk, Kw, oI]), by simp only; omega, h2, by simp only; omega⟩
                    | skip)
              | false =>
                have h2 := hkp hl3
                (sym =>
                 simp [hlb,hOl,z0,e1,q1,q2,hux,hob,hneg,q4,hl3,Int.toNat_natCast,Mo,Mq,Mp,Mr,Mn,Mm,Gd.eq_def,Gt.eq_def,Za,Zb,Zc,Zd,Ze,Zf,Zg,Zh,Zi,Zj,Zk,Zl,Zm,Zn,Zo,Zp,Zq,Zr,Zs,Zt,Zv,Zx,Zz,Z0,Z1,Z2,Z6,Z7,Z8,Z9,Qa,Qb,Qc,Qd,Qe,Qi,Qj,Qk,Ql,Qm,Qn,Qo,Qp,Qv,Qw,Qy,Qz,Q0,Q1,Q2,Q3,Q4,Q5,Q6,Q7,Q8,Q9,Ja,Jb,Jc,Jd,Je,Jl,Jp,Jq,Jr,Js,Jt,Ju,Jx,Jy,Jz,J0,J1,J2,J3,J4,J5,J6,J7,J8,J9,Xa,Xb,Xc,Xd,Xe,Xf,Xg,Xh,Xi,Xj,Xk,Xl,Xm,Xn,Xo,Xp,Xq,Xs,Xt,Xu,Xv,Xw,Xx,Xy,Xz,X0,X1,X2,X3,X4,X5,X6,X7,X8,X9,Wa,Wb,Wc,Wd,We,Wf,Wg,Wh,Wi,Wj,Wl,Wm,Wn,Wo,Wp,Wq,Wr,Ws,Wt,Wu,Wv,Ww,Wx,Wy,Wz,W0,W1,W2,W3,W4,W5,W6,W7,W8,Yb,Yc,Yd,Ye,Yf,Yg,Yh,Yi,Yj,Yk,Yl,Ym,Yn,Yo,Yp,Yq,Yr,Ys,Yt,Yu,Yv,Yw,Yx,Yy,Yz,Y0,Y1,Y2,Y3,Y4,Y5,Y6,Y7,Y8,Y9,Va,Vb,Vc,Vd,Ve,Vf,Vg,Vh,Vi,Vj,Vk,Vl,Vm,Vn,Vo,Vp,Vq,Vr,Vs,Vt,Vu,Vv,Vw,Vx,Vy,Vz,V0,V1,V3,V4,V5,V6,V7,V8,V9,Ua,Ub,Uc,Ud,Ue,Uf,Ul,Um,Un,Uo,Uq,Ur,Us,Ut,Uu,Uv,Uw,Ux,Uy,Uz,U0,U1,U3,U4,U5,U6,U7,U8,U9,Ka,Kb,Kc,Kd,Ke,Kf,Kg,Kh,Ki,Kj,Kk,Kl,Km,Kn,Ko,Kq,Kr,Ks,Kt,Ga,K8,Kz]
                 tactic =>
                  try simp only [K2] at *
                  try simp only [nc2] at *
                  try simp (maxSteps := 4000000) only [hlb,hOl,z0,e1,q1,q2,hux,hob,hneg,q4,hl3,Int.toNat_natCast,Gg]
                  repeat' (first | with_reducible assumption | with_reducible refine And.intro ?_ ?_ | intro _ | omega | (rw [Ku]; omega))
                  all_goals first
                    | (with_reducible refine K9 ?_; kernel_rfl)
                    | omega
                    | exact ⟨(i + 1, some b), by ((try simp only [Kv, Ky, Kx, K4, upd, K5, Gb, Gs, Nat.reduceDiv, Nat.reduceMod, Nat.reduceMul, Nat.reduceAdd, Nat.reduceEqDiff, List.set_cons_zero, List.set_cons_succ, if_true, if_false, reduceIte]); (first | refine Wk.of_fl ?_ | skip); simp only [Wk, wkK, Gy, wkT, wk1, AV.kept, keptAll, wkO, lk, Kw, and_true, true_and, and_self, Nat.reduceEqDiff, Nat.reduceLeDiff, if_true, if_false, reduceIte, reduceCtorEq, Option.isSome, false_implies]; try simp [Wk, wkK, wkT, wk1, AV.kept, keptAll, wkO, lk, Kw, oI]), by simp only; omega, h2, by simp only; omega⟩
                    | skip)
      · have hil : i = l.length := by omega
        rw [hil, ← hul] at hb
        cases o with
        | none =>
          rw [← hS] at hb
          have hkS := best_none (by rw [hS]; exact hk) hb
          rw [hS] at hkS
          have hneg : ltB (oI none) 0 = true := rfl
          have hOS : O = slS S := by rw [← hO, hkS, List.take_length]
          (sym =>
           simp [hlb,hneg,hS,Mo,Mq,Mp,Mr,Mn,Mm,Gd.eq_def,Gt.eq_def,Za,Zb,Zc,Zd,Ze,Zf,Zg,Zh,Zi,Zj,Zk,Zl,Zm,Zn,Zo,Zp,Zq,Zr,Zs,Zt,Zv,Zx,Zz,Z0,Z1,Z2,Z6,Z7,Z8,Z9,Qa,Qb,Qc,Qd,Qe,Qi,Qj,Qk,Ql,Qm,Qn,Qo,Qp,Qv,Qw,Qy,Qz,Q0,Q1,Q2,Q3,Q4,Q5,Q6,Q7,Q8,Q9,Ja,Jb,Jc,Jd,Je,Jl,Jp,Jq,Jr,Js,Jt,Ju,Jx,Jy,Jz,J0,J1,J2,J3,J4,J5,J6,J7,J8,J9,Xa,Xb,Xc,Xd,Xe,Xf,Xg,Xh,Xi,Xj,Xk,Xl,Xm,Xn,Xo,Xp,Xq,Xs,Xt,Xu,Xv,Xw,Xx,Xy,Xz,X0,X1,X2,X3,X4,X5,X6,X7,X8,X9,Wa,Wb,Wc,Wd,We,Wf,Wg,Wh,Wi,Wj,Wl,Wm,Wn,Wo,Wp,Wq,Wr,Ws,Wt,Wu,Wv,Ww,Wx,Wy,Wz,W0,W1,W2,W3,W4,W5,W6,W7,W8,Yb,Yc,Yd,Ye,Yf,Yg,Yh,Yi,Yj,Yk,Yl,Ym,Yn,Yo,Yp,Yq,Yr,Ys,Yt,Yu,Yv,Yw,Yx,Yy,Yz,Y0,Y1,Y2,Y3,Y4,Y5,Y6,Y7,Y8,Y9,Va,Vb,Vc,Vd,Ve,Vf,Vg,Vh,Vi,Vj,Vk,Vl,Vm,Vn,Vo,Vp,Vq,Vr,Vs,Vt,Vu,Vv,Vw,Vx,Vy,Vz,V0,V1,V3,V4,V5,V6,V7,V8,V9,Ua,Ub,Uc,Ud,Ue,Uf,Ul,Um,Un,Uo,Uq,Ur,Us,Ut,Uu,Uv,Uw,Ux,Uy,Uz,U0,U1,U3,U4,U5,U6,U7,U8,U9,Ka,Kb,Kc,Kd,Ke,Kf,Kg,Kh,Ki,Kj,Kk,Kl,Km,Kn,Ko,Kq,Kr,Ks,Kt,Ga,K8,Kz]
           tactic =>
            try simp only [K2] at *
            try simp only [nc2] at *
            try simp (maxSteps := 4000000) only [hlb,hneg,hS,Gg]
            repeat' (first | with_reducible assumption | with_reducible refine And.intro ?_ ?_ | intro _ | omega | (rw [Ku]; omega))
            all_goals first
              | (with_reducible refine K9 ?_; kernel_rfl)
              | omega
              | (rw [hOS]; rfl)
              | rw [hOS]
              | skip)
        | some b =>
          rw [← hS] at hb
          obtain ⟨hk1, hbk⟩ := best_some (by rw [hS]; exact hk) hb
          rw [hS] at hk1 hbk
          have hbl : b < l.length := by rw [← hul]; exact hb.1
          have q1 := Hd (⟨[]⟩ : Sl Int) hbl
          have h1 := hl2 b
          rw [unS_at] at hbk
          obtain ⟨⟨x⟩, hx⟩ : ∃ s, l.getD b ⟨[]⟩ = s := ⟨_, rfl⟩
          rw [hx] at q1 h1 hbk
          simp only at h1 hbk
          have hsn : slS (S.take (k + 1)) = O ++ [⟨x⟩] := by
            rw [List.take_succ_eq_append_getElem hk1, slS_snoc, hO, hbk]
            simp [hk1]
          have hob : oI (some b) = (b : Int) := rfl
          have hneg : ltB (b : Int) 0 = false := by rw [Hg]; omega
          (sym =>
           simp [hlb,hob,hneg,q1,Int.toNat_natCast,Mo,Mq,Mp,Mr,Mn,Mm,Gd.eq_def,Gt.eq_def,Za,Zb,Zc,Zd,Ze,Zf,Zg,Zh,Zi,Zj,Zk,Zl,Zm,Zn,Zo,Zp,Zq,Zr,Zs,Zt,Zv,Zx,Zz,Z0,Z1,Z2,Z6,Z7,Z8,Z9,Qa,Qb,Qc,Qd,Qe,Qi,Qj,Qk,Ql,Qm,Qn,Qo,Qp,Qv,Qw,Qy,Qz,Q0,Q1,Q2,Q3,Q4,Q5,Q6,Q7,Q8,Q9,Ja,Jb,Jc,Jd,Je,Jl,Jp,Jq,Jr,Js,Jt,Ju,Jx,Jy,Jz,J0,J1,J2,J3,J4,J5,J6,J7,J8,J9,Xa,Xb,Xc,Xd,Xe,Xf,Xg,Xh,Xi,Xj,Xk,Xl,Xm,Xn,Xo,Xp,Xq,Xs,Xt,Xu,Xv,Xw,Xx,Xy,Xz,X0,X1,X2,X3,X4,X5,X6,X7,X8,X9,Wa,Wb,Wc,Wd,We,Wf,Wg,Wh,Wi,Wj,Wl,Wm,Wn,Wo,Wp,Wq,Wr,Ws,Wt,Wu,Wv,Ww,Wx,Wy,Wz,W0,W1,W2,W3,W4,W5,W6,W7,W8,Yb,Yc,Yd,Ye,Yf,Yg,Yh,Yi,Yj,Yk,Yl,Ym,Yn,Yo,Yp,Yq,Yr,Ys,Yt,Yu,Yv,Yw,Yx,Yy,Yz,Y0,Y1,Y2,Y3,Y4,Y5,Y6,Y7,Y8,Y9,Va,Vb,Vc,Vd,Ve,Vf,Vg,Vh,Vi,Vj,Vk,Vl,Vm,Vn,Vo,Vp,Vq,Vr,Vs,Vt,Vu,Vv,Vw,Vx,Vy,Vz,V0,V1,V3,V4,V5,V6,V7,V8,V9,Ua,Ub,Uc,Ud,Ue,Uf,Ul,Um,Un,Uo,Uq,Ur,Us,Ut,Uu,Uv,Uw,Ux,Uy,Uz,U0,U1,U3,U4,U5,U6,U7,U8,U9,Ka,Kb,Kc,Kd,Ke,Kf,Kg,Kh,Ki,Kj,Kk,Kl,Km,Kn,Ko,Kq,Kr,Ks,Kt,Ga,K8,Kz]
           tactic =>
            try simp only [K2] at *
            try simp only [nc2] at *
            try simp (maxSteps := 4000000) only [hlb,hob,hneg,q1,Int.toNat_natCast,Gg]
            repeat' (first | with_reducible assumption | with_reducible refine And.intro ?_ ?_ | intro _ | omega | (rw [Ku]; omega))
            all_goals first
              | (with_reducible refine K9 ?_; kernel_rfl)
              | omega
              | exact ⟨k + 1, by simp only [hsn]; ((try simp only [Kv, Ky, Kx, K4, upd, K5, Gb, Gs, Nat.reduceDiv, Nat.reduceMod, Nat.reduceMul, Nat.reduceAdd, Nat.reduceEqDiff, List.set_cons_zero, List.set_cons_succ, if_true, if_false, reduceIte]); (first | refine Wk.of_fl ?_ | skip); simp only [Wk, wkK, Gy, wkT, wk1, AV.kept, keptAll, wkO, lk, Kw, and_true, true_and, and_self, Nat.reduceEqDiff, Nat.reduceLeDiff, if_true, if_false, reduceIte, reduceCtorEq, Option.isSome, false_implies]; try simp [Wk, wkK, wkT, wk1, AV.kept, keptAll, wkO, lk, Kw, List.map_append, List.length_append]); rfl, by omega, by omega⟩
              | exact ⟨k + 1, by simp only [hsn]; ((try simp only [Kv, Ky, Kx, K4, upd, K5, Gb, Gs, Nat.reduceDiv, Nat.reduceMod, Nat.reduceMul, Nat.reduceAdd, Nat.reduceEqDiff, List.set_cons_zero, List.set_cons_succ, if_true, if_false, reduceIte]); (first | refine Wk.of_fl ?_ | skip); simp only [Wk, wkK, Gy, wkT, wk1, AV.kept, keptAll, wkO, lk, Kw, and_true, true_and, and_self, Nat.reduceEqDiff, Nat.reduceLeDiff, if_true, if_false, reduceIte, reduceCtorEq, Option.isSome, false_implies]; try simp [Wk, wkK, wkT, wk1, AV.kept, keptAll, wkO, lk, Kw, List.map_append, List.length_append]), by omega, by omega⟩
              | skip)))
end Go.Am.Hit
set_option linter.unusedSimpArgs false
set_option linter.unusedVariables false
set_option maxHeartbeats 2000000
namespace Go.Am.Hit
open Go.Proofs
open Enc (enc dec)
def Ad (l : List (Sl Int)) (x : List Int) : Bool := l.any fun s => Sq s.l x && !(s.l == x)
def Iz (l : List (Sl Int)) : List (Sl Int) := l.filter fun s => !Ad l s.l
theorem leastT (l r : List (Sl Int)) {k : Nat} (h : k < r.length) : (r.take (k + 1)).filter (fun s => !Ad l s.l) = (r.take k).filter (fun s => !Ad l s.l) ++ cond (Ad l (r.getD k ⟨[]⟩).l) [] [r.getD k ⟨[]⟩] := by
  rw [List.take_succ_eq_append_getElem h, List.filter_append]
  have e : r.getD k ⟨[]⟩ = r[k] := by simp [h]
  rw [e]
  cases hb : Ad l r[k].l <;> simp [hb]
def leT (l : List (Sl Int)) (k : Nat) : List (Sl Int) := (l.take k).filter fun s => !Ad l s.l
theorem leT_len (l : List (Sl Int)) (k : Nat) : (leT l k).length ≤ k := Nat.le_trans (List.length_filter_le _ _) (by rw [List.length_take]; omega)
theorem over_take {l : List (Sl Int)} {x : List Int} {k : Nat} (h : k < l.length) : Ad (l.take (k + 1)) x = (Ad (l.take k) x || (Sq (l.getD k ⟨[]⟩).l x && !((l.getD k ⟨[]⟩).l == x))) := by
  rw [List.take_succ_eq_append_getElem h]
  unfold Ad
  rw [List.any_append]
  simp [h]
theorem rs6_filter {l : List (Sl Int)} (h : Rs6 l) (p : Sl Int → Bool) : Rs6 (l.filter p) := by
  refine ⟨Nat.le_trans (List.length_filter_le _ _) h.1, fun j => ?_⟩
  by_cases hj : j < (l.filter p).length
  · have hm0 : (l.filter p).getD j ⟨[]⟩ ∈ l.filter p := by
      rw [List.getD_eq_getElem?_getD, List.getElem?_eq_getElem hj]
      exact List.getElem_mem hj
    have hm : (l.filter p).getD j ⟨[]⟩ ∈ l := (List.mem_filter.1 hm0).1
    obtain ⟨i, hi, he⟩ := mem_getD (d := (⟨[]⟩ : Sl Int)) hm
    rw [← he]
    exact h.2 i
  · rw [List.getD_eq_getElem?_getD, List.getElem?_eq_none (by omega)]
    simp
def Na : Con := con1 (fun (l : Sl (Sl Int)) => Rs6 l.l) (fun l => Sl.mk (slS (srt (unS (Iz l.l)))))
noncomputable def Tf : Ctx := ⟨tab, lkC [(19, K0), (27, Gp), (24, Gt)], 60, lkB [], [], false⟩
theorem Ps : Tf.τ = tab := rfl
theorem Pu : Tf.Γ = lkC [(19, K0), (27, Gp), (24, Gt)] := rfl
theorem Pt : Tf.dp = 60 := rfl
theorem Pv : Tf.Δ = lkB [] := rfl
theorem Pr : Tf.cuts = [] := rfl
theorem Pq : Tf.wr = false := rfl
set_option maxRecDepth 100000 in
theorem good_Least16 : Me Try.prog (23, Na) := by
  refine ⟨Gj Try.func23 (by kernel_rfl) rfl, ?_⟩
  have K : Hq Try.prog Tf := Gq H8 G4 (by
    intro p hp
    simp only [List.mem_cons, List.not_mem_nil, or_false] at hp
    rcases hp with rfl | rfl | rfl
    · exact Fm
    · exact good_Ints03
    · exact good_Sort16) (by simp)
  obtain ⟨c, hc⟩ : ∃ c, Try.f23.body = some c := ⟨_, rfl⟩
  refine Gu K Try.func23 hc [.tmp 2] rfl 51 rfl (fun cvs hpre => ?_)
  change Na.pre cvs at hpre
  unfold Na at hpre
  obtain ⟨⟨l⟩, rfl, hR⟩ := Ct hpre
  have hR' : Rs6 l := hR
  obtain ⟨hl, hl2⟩ : Rs6 l := hR
  have hl9 : l.length ≤ 9223372036854775807 := by omega
  clear hpre
  simp only [Try.f23, Option.some.injEq] at hc
  subst hc
  refine Hy 3 (of_decide_eq_true (by kernel_rfl)) ?_
  (sym =>
   simp [Ps,Pu,Pt,Pv,Pr,Pq,Gp.eq_def,Na.eq_def,K0.eq_def,Gt.eq_def,Za,Zb,Zc,Zd,Ze,Zf,Zg,Zh,Zi,Zj,Zk,Zl,Zm,Zn,Zo,Zp,Zq,Zr,Zs,Zt,Zv,Zx,Zz,Z0,Z1,Z2,Z6,Z7,Z8,Z9,Qa,Qb,Qc,Qd,Qe,Qi,Qj,Qk,Ql,Qm,Qn,Qo,Qp,Qv,Qw,Qy,Qz,Q0,Q1,Q2,Q3,Q4,Q5,Q6,Q7,Q8,Q9,Ja,Jb,Jc,Jd,Je,Jl,Jp,Jq,Jr,Js,Jt,Ju,Jx,Jy,Jz,J0,J1,J2,J3,J4,J5,J6,J7,J8,J9,Xa,Xb,Xc,Xd,Xe,Xf,Xg,Xh,Xi,Xj,Xk,Xl,Xm,Xn,Xo,Xp,Xq,Xs,Xt,Xu,Xv,Xw,Xx,Xy,Xz,X0,X1,X2,X3,X4,X5,X6,X7,X8,X9,Wa,Wb,Wc,Wd,We,Wf,Wg,Wh,Wi,Wj,Wl,Wm,Wn,Wo,Wp,Wq,Wr,Ws,Wt,Wu,Wv,Ww,Wx,Wy,Wz,W0,W1,W2,W3,W4,W5,W6,W7,W8,Yb,Yc,Yd,Ye,Yf,Yg,Yh,Yi,Yj,Yk,Yl,Ym,Yn,Yo,Yp,Yq,Yr,Ys,Yt,Yu,Yv,Yw,Yx,Yy,Yz,Y0,Y1,Y2,Y3,Y4,Y5,Y6,Y7,Y8,Y9,Va,Vb,Vc,Vd,Ve,Vf,Vg,Vh,Vi,Vj,Vk,Vl,Vm,Vn,Vo,Vp,Vq,Vr,Vs,Vt,Vu,Vv,Vw,Vx,Vy,Vz,V0,V1,V3,V4,V5,V6,V7,V8,V9,Ua,Ub,Uc,Ud,Ue,Uf,Ul,Um,Un,Uo,Uq,Ur,Us,Ut,Uu,Uv,Uw,Ux,Uy,Uz,U0,U1,U3,U4,U5,U6,U7,U8,U9,Ka,Kb,Kc,Kd,Ke,Kf,Kg,Kh,Ki,Kj,Kk,Kl,Km,Kn,Ko,Kq,Kr,Ks,Kt,Ga,G5,K8,Kz]
   tactic =>
    try simp only [K2] at *
    try simp only [nc2] at *
    try simp (maxSteps := 4000000) only [Gg]
    repeat' (first | with_reducible assumption | with_reducible refine And.intro ?_ ?_ | intro _ | omega | (rw [Ku]; omega))
    refine Gi [5, 6, 8, 9, 10, 11, 12, 13, 14, 15, 16, 17, 18, 19, 20, 21, 22, 23, 24, 25, 26, 27, 28, 29, 30, 31, 32, 33, 34, 35, 36, 37, 38, 39, 40, 41, 42, 43, 44, 45, 46, 47, 48] (fun k : Nat => [(3, .sl 7 ((leT l k).map (enc : Sl Int → D)).length), (4, .d (.int .i64 k))]) (fun k : Nat => [(7, .row 1 ((leT l k).map enc) 0)]) (fun k : Nat => k ≤ l.length) (fun k : Nat => l.length - k) 0 ?_ ?_ ?_
    · omega
    · ((try simp only [Kv, Ky, Kx, K4, upd, K5, Gb, Gs, Nat.reduceDiv, Nat.reduceMod, Nat.reduceMul, Nat.reduceAdd, Nat.reduceEqDiff, List.set_cons_zero, List.set_cons_succ, if_true, if_false, reduceIte]); (first | refine Wk.of_fl ?_ | skip); simp only [Wk, wkK, Gy, wkT, wk1, AV.kept, keptAll, wkO, lk, Kw, and_true, true_and, and_self, Nat.reduceEqDiff, Nat.reduceLeDiff, if_true, if_false, reduceIte, reduceCtorEq, Option.isSome, false_implies]; try simp [Wk, wkK, wkT, wk1, AV.kept, keptAll, wkO, lk, Kw, leT])
    rintro k hk
    have hml := leT_len l k
    rcases Gl k l.length with ⟨hlt, hlb⟩ | ⟨hlt, hlb⟩
    · have q1 := Hd (⟨[]⟩ : Sl Int) hlt
      have h1 := hl2 k
      have hsn : leT l (k + 1) = leT l k ++ cond (Ad l (l.getD k ⟨[]⟩).l) [] [l.getD k ⟨[]⟩] := leastT l l hlt
      have hml2 := leT_len l (k + 1)
      obtain ⟨⟨x⟩, hx⟩ : ∃ s, l.getD k ⟨[]⟩ = s := ⟨_, rfl⟩
      rw [hx] at q1 h1 hsn
      simp only at h1 hsn
      have h19 : x.length ≤ 9223372036854775807 := by omega
      obtain ⟨L, hL⟩ : ∃ L, leT l k = L := ⟨_, rfl⟩
      obtain ⟨L2, hL2⟩ : ∃ L, leT l (k + 1) = L := ⟨_, rfl⟩
      rw [hL, hL2] at hsn
      rw [hL] at hml ⊢
      rw [hL2] at hml2
      (sym =>
       simp [hlb,Ps,Pu,Pt,Pv,Pr,Pq,Gp.eq_def,Na.eq_def,K0.eq_def,Gt.eq_def,Za,Zb,Zc,Zd,Ze,Zf,Zg,Zh,Zi,Zj,Zk,Zl,Zm,Zn,Zo,Zp,Zq,Zr,Zs,Zt,Zv,Zx,Zz,Z0,Z1,Z2,Z6,Z7,Z8,Z9,Qa,Qb,Qc,Qd,Qe,Qi,Qj,Qk,Ql,Qm,Qn,Qo,Qp,Qv,Qw,Qy,Qz,Q0,Q1,Q2,Q3,Q4,Q5,Q6,Q7,Q8,Q9,Ja,Jb,Jc,Jd,Je,Jl,Jp,Jq,Jr,Js,Jt,Ju,Jx,Jy,Jz,J0,J1,J2,J3,J4,J5,J6,J7,J8,J9,Xa,Xb,Xc,Xd,Xe,Xf,Xg,Xh,Xi,Xj,Xk,Xl,Xm,Xn,Xo,Xp,Xq,Xs,Xt,Xu,Xv,Xw,Xx,Xy,Xz,X0,X1,X2,X3,X4,X5,X6,X7,X8,X9,Wa,Wb,Wc,Wd,We,Wf,Wg,Wh,Wi,Wj,Wl,Wm,Wn,Wo,Wp,Wq,Wr,Ws,Wt,Wu,Wv,Ww,Wx,Wy,Wz,W0,W1,W2,W3,W4,W5,W6,W7,W8,Yb,Yc,Yd,Ye,Yf,Yg,Yh,Yi,Yj,Yk,Yl,Ym,Yn,Yo,Yp,Yq,Yr,Ys,Yt,Yu,Yv,Yw,Yx,Yy,Yz,Y0,Y1,Y2,Y3,Y4,Y5,Y6,Y7,Y8,Y9,Va,Vb,Vc,Vd,Ve,Vf,Vg,Vh,Vi,Vj,Vk,Vl,Vm,Vn,Vo,Vp,Vq,Vr,Vs,Vt,Vu,Vv,Vw,Vx,Vy,Vz,V0,V1,V3,V4,V5,V6,V7,V8,V9,Ua,Ub,Uc,Ud,Ue,Uf,Ul,Um,Un,Uo,Uq,Ur,Us,Ut,Uu,Uv,Uw,Ux,Uy,Uz,U0,U1,U3,U4,U5,U6,U7,U8,U9,Ka,Kb,Kc,Kd,Ke,Kf,Kg,Kh,Ki,Kj,Kk,Kl,Km,Kn,Ko,Kq,Kr,Ks,Kt,Ga,G5,K8,Kz]
       tactic =>
        try simp only [K2] at *
        try simp only [nc2] at *
        try simp (maxSteps := 4000000) only [hlb,Gg]
        repeat' (first | with_reducible assumption | with_reducible refine And.intro ?_ ?_ | intro _ | omega | (rw [Ku]; omega))
        refine Gi [14, 15, 16, 17, 18, 19, 20, 21, 22, 23, 24, 25, 26, 27, 28, 29, 30, 31, 32, 33, 34, 35, 36, 37, 38, 39, 40] (fun q : Nat × Bool => [(5, .d (.bool q.2)), (6, .d (.int .i64 q.1))]) (fun q : Nat × Bool => []) (fun q : Nat × Bool => q.1 ≤ l.length ∧ q.2 = !Ad (l.take q.1) x) (fun q : Nat × Bool => l.length - q.1) (0, true) ?_ ?_ ?_
        · exact ⟨Nat.zero_le _, rfl⟩
        · ((try simp only [Kv, Ky, Kx, K4, upd, K5, Gb, Gs, Nat.reduceDiv, Nat.reduceMod, Nat.reduceMul, Nat.reduceAdd, Nat.reduceEqDiff, List.set_cons_zero, List.set_cons_succ, if_true, if_false, reduceIte]); (first | refine Wk.of_fl ?_ | skip); simp only [Wk, wkK, Gy, wkT, wk1, AV.kept, keptAll, wkO, lk, Kw, and_true, true_and, and_self, Nat.reduceEqDiff, Nat.reduceLeDiff, if_true, if_false, reduceIte, reduceCtorEq, Option.isSome, false_implies]; try simp [Wk, wkK, wkT, wk1, AV.kept, keptAll, wkO, lk, Kw])
        rintro ⟨j, b⟩ ⟨hj, hb⟩
        simp only at hj hb
        rcases Gl j l.length with ⟨hjt, hjb⟩ | ⟨hjt, hjb⟩
        · have q2 := Hd (⟨[]⟩ : Sl Int) hjt
          have h2 := hl2 j
          have hon := over_take (x := x) hjt
          obtain ⟨⟨y⟩, hy⟩ : ∃ s, l.getD j ⟨[]⟩ = s := ⟨_, rfl⟩
          rw [hy] at q2 h2 hon
          simp only at h2 hon
          have h29 : y.length ≤ 9223372036854775807 := by omega
          cases hp : Sq y x with
          | false =>
            rw [hp, Bool.false_and, Bool.or_false] at hon
            rw [← hon] at hb
            (sym =>
             simp [hlb,hjb,q1,q2,hp,Ps,Pu,Pt,Pv,Pr,Pq,Gp.eq_def,Na.eq_def,K0.eq_def,Gt.eq_def,Za,Zb,Zc,Zd,Ze,Zf,Zg,Zh,Zi,Zj,Zk,Zl,Zm,Zn,Zo,Zp,Zq,Zr,Zs,Zt,Zv,Zx,Zz,Z0,Z1,Z2,Z6,Z7,Z8,Z9,Qa,Qb,Qc,Qd,Qe,Qi,Qj,Qk,Ql,Qm,Qn,Qo,Qp,Qv,Qw,Qy,Qz,Q0,Q1,Q2,Q3,Q4,Q5,Q6,Q7,Q8,Q9,Ja,Jb,Jc,Jd,Je,Jl,Jp,Jq,Jr,Js,Jt,Ju,Jx,Jy,Jz,J0,J1,J2,J3,J4,J5,J6,J7,J8,J9,Xa,Xb,Xc,Xd,Xe,Xf,Xg,Xh,Xi,Xj,Xk,Xl,Xm,Xn,Xo,Xp,Xq,Xs,Xt,Xu,Xv,Xw,Xx,Xy,Xz,X0,X1,X2,X3,X4,X5,X6,X7,X8,X9,Wa,Wb,Wc,Wd,We,Wf,Wg,Wh,Wi,Wj,Wl,Wm,Wn,Wo,Wp,Wq,Wr,Ws,Wt,Wu,Wv,Ww,Wx,Wy,Wz,W0,W1,W2,W3,W4,W5,W6,W7,W8,Yb,Yc,Yd,Ye,Yf,Yg,Yh,Yi,Yj,Yk,Yl,Ym,Yn,Yo,Yp,Yq,Yr,Ys,Yt,Yu,Yv,Yw,Yx,Yy,Yz,Y0,Y1,Y2,Y3,Y4,Y5,Y6,Y7,Y8,Y9,Va,Vb,Vc,Vd,Ve,Vf,Vg,Vh,Vi,Vj,Vk,Vl,Vm,Vn,Vo,Vp,Vq,Vr,Vs,Vt,Vu,Vv,Vw,Vx,Vy,Vz,V0,V1,V3,V4,V5,V6,V7,V8,V9,Ua,Ub,Uc,Ud,Ue,Uf,Ul,Um,Un,Uo,Uq,Ur,Us,Ut,Uu,Uv,Uw,Ux,Uy,Uz,U0,U1,U3,U4,U5,U6,U7,U8,U9,Ka,Kb,Kc,Kd,Ke,Kf,Kg,Kh,Ki,Kj,Kk,Kl,Km,Kn,Ko,Kq,Kr,Ks,Kt,Ga,G5,K8,Kz]
             tactic =>
              try simp only [K2] at *
              try simp only [nc2] at *
              try simp (maxSteps := 4000000) only [hlb,hjb,q1,q2,hp,Gg]
              repeat' (first | with_reducible assumption | with_reducible refine And.intro ?_ ?_ | intro _ | omega | (rw [Ku]; omega))
              all_goals first
                | (with_reducible refine K9 ?_; kernel_rfl)
                | omega
                | exact ⟨(j + 1, b), by ((try simp only [Kv, Ky, Kx, K4, upd, K5, Gb, Gs, Nat.reduceDiv, Nat.reduceMod, Nat.reduceMul, Nat.reduceAdd, Nat.reduceEqDiff, List.set_cons_zero, List.set_cons_succ, if_true, if_false, reduceIte]); (first | refine Wk.of_fl ?_ | skip); simp only [Wk, wkK, Gy, wkT, wk1, AV.kept, keptAll, wkO, lk, Kw, and_true, true_and, and_self, Nat.reduceEqDiff, Nat.reduceLeDiff, if_true, if_false, reduceIte, reduceCtorEq, Option.isSome, false_implies]; try simp [Wk, wkK, wkT, wk1, AV.kept, keptAll, wkO, lk, Kw]), by simp only; omega, hb, by simp only; omega⟩
                | skip)
          | true =>
            cases he : (y == x) with
            | true =>
              rw [hp, he, Bool.not_true, Bool.and_false, Bool.or_false] at hon
              rw [← hon] at hb
              (sym =>
               simp [hlb,hjb,q1,q2,hp,he,Ps,Pu,Pt,Pv,Pr,Pq,Gp.eq_def,Na.eq_def,K0.eq_def,Gt.eq_def,Za,Zb,Zc,Zd,Ze,Zf,Zg,Zh,Zi,Zj,Zk,Zl,Zm,Zn,Zo,Zp,Zq,Zr,Zs,Zt,Zv,Zx,Zz,Z0,Z1,Z2,Z6,Z7,Z8,Z9,Qa,Qb,Qc,Qd,Qe,Qi,Qj,Qk,Ql,Qm,Qn,Qo,Qp,Qv,Qw,Qy,Qz,Q0,Q1,Q2,Q3,Q4,Q5,Q6,Q7,Q8,Q9,Ja,Jb,Jc,Jd,Je,Jl,Jp,Jq,Jr,Js,Jt,Ju,Jx,Jy,Jz,J0,J1,J2,J3,J4,J5,J6,J7,J8,J9,Xa,Xb,Xc,Xd,Xe,Xf,Xg,Xh,Xi,Xj,Xk,Xl,Xm,Xn,Xo,Xp,Xq,Xs,Xt,Xu,Xv,Xw,Xx,Xy,Xz,X0,X1,X2,X3,X4,X5,X6,X7,X8,X9,Wa,Wb,Wc,Wd,We,Wf,Wg,Wh,Wi,Wj,Wl,Wm,Wn,Wo,Wp,Wq,Wr,Ws,Wt,Wu,Wv,Ww,Wx,Wy,Wz,W0,W1,W2,W3,W4,W5,W6,W7,W8,Yb,Yc,Yd,Ye,Yf,Yg,Yh,Yi,Yj,Yk,Yl,Ym,Yn,Yo,Yp,Yq,Yr,Ys,Yt,Yu,Yv,Yw,Yx,Yy,Yz,Y0,Y1,Y2,Y3,Y4,Y5,Y6,Y7,Y8,Y9,Va,Vb,Vc,Vd,Ve,Vf,Vg,Vh,Vi,Vj,Vk,Vl,Vm,Vn,Vo,Vp,Vq,Vr,Vs,Vt,Vu,Vv,Vw,Vx,Vy,Vz,V0,V1,V3,V4,V5,V6,V7,V8,V9,Ua,Ub,Uc,Ud,Ue,Uf,Ul,Um,Un,Uo,Uq,Ur,Us,Ut,Uu,Uv,Uw,Ux,Uy,Uz,U0,U1,U3,U4,U5,U6,U7,U8,U9,Ka,Kb,Kc,Kd,Ke,Kf,Kg,Kh,Ki,Kj,Kk,Kl,Km,Kn,Ko,Kq,Kr,Ks,Kt,Ga,G5,K8,Kz]
               tactic =>
                try simp only [K2] at *
                try simp only [nc2] at *
                try simp (maxSteps := 4000000) only [hlb,hjb,q1,q2,hp,he,Gg]
                repeat' (first | with_reducible assumption | with_reducible refine And.intro ?_ ?_ | intro _ | omega | (rw [Ku]; omega))
                all_goals first
                  | (with_reducible refine K9 ?_; kernel_rfl)
                  | omega
                  | exact ⟨(j + 1, b), by ((try simp only [Kv, Ky, Kx, K4, upd, K5, Gb, Gs, Nat.reduceDiv, Nat.reduceMod, Nat.reduceMul, Nat.reduceAdd, Nat.reduceEqDiff, List.set_cons_zero, List.set_cons_succ, if_true, if_false, reduceIte]); (first | refine Wk.of_fl ?_ | skip); simp only [Wk, wkK, Gy, wkT, wk1, AV.kept, keptAll, wkO, lk, Kw, and_true, true_and, and_self, Nat.reduceEqDiff, Nat.reduceLeDiff, if_true, if_false, reduceIte, reduceCtorEq, Option.isSome, false_implies]; try simp [Wk, wkK, wkT, wk1, AV.kept, keptAll, wkO, lk, Kw]), by simp only; omega, hb, by simp only; omega⟩
                  | skip)
            | false =>
              rw [hp, he, Bool.not_false, Bool.and_true, Bool.or_true] at hon
              have hb2 : false = !Ad (l.take (j + 1)) x := by rw [hon]; rfl
              (sym =>
               simp [hlb,hjb,q1,q2,hp,he,Ps,Pu,Pt,Pv,Pr,Pq,Gp.eq_def,Na.eq_def,K0.eq_def,Gt.eq_def,Za,Zb,Zc,Zd,Ze,Zf,Zg,Zh,Zi,Zj,Zk,Zl,Zm,Zn,Zo,Zp,Zq,Zr,Zs,Zt,Zv,Zx,Zz,Z0,Z1,Z2,Z6,Z7,Z8,Z9,Qa,Qb,Qc,Qd,Qe,Qi,Qj,Qk,Ql,Qm,Qn,Qo,Qp,Qv,Qw,Qy,Qz,Q0,Q1,Q2,Q3,Q4,Q5,Q6,Q7,Q8,Q9,Ja,Jb,Jc,Jd,Je,Jl,Jp,Jq,Jr,Js,Jt,Ju,Jx,Jy,Jz,J0,J1,J2,J3,J4,J5,J6,J7,J8,J9,Xa,Xb,Xc,Xd,Xe,Xf,Xg,Xh,Xi,Xj,Xk,Xl,Xm,Xn,Xo,Xp,Xq,Xs,Xt,Xu,Xv,Xw,Xx,Xy,Xz,X0,X1,X2,X3,X4,X5,X6,X7,X8,X9,Wa,Wb,Wc,Wd,We,Wf,Wg,Wh,Wi,Wj,Wl,Wm,Wn,Wo,Wp,Wq,Wr,Ws,Wt,Wu,Wv,Ww,Wx,Wy,Wz,W0,W1,W2,W3,W4,W5,W6,W7,W8,Yb,Yc,Yd,Ye,Yf,Yg,Yh,Yi,Yj,Yk,Yl,Ym,Yn,Yo,Yp,Yq,Yr,Ys,Yt,Yu,Yv,Yw,Yx,Yy,Yz,Y0,Y1,Y2,Y3,Y4,Y5,Y6,Y7,Y8,Y9,Va,Vb,Vc,Vd,Ve,Vf,Vg,Vh,Vi,Vj,Vk,Vl,Vm,Vn,Vo,Vp,Vq,Vr,Vs,Vt,Vu,Vv,Vw,Vx,Vy,Vz,V0,V1,V3,V4,V5,V6,V7,V8,V9,Ua,Ub,Uc,Ud,Ue,Uf,Ul,Um,Un,Uo,Uq,Ur,Us,Ut,Uu,Uv,Uw,Ux,Uy,Uz,U0,U1,U3,U4,U5,U6,U7,U8,U9,Ka,Kb,Kc,Kd,Ke,Kf,Kg,Kh,Ki,Kj,Kk,Kl,Km,Kn,Ko,Kq,Kr,Ks,Kt,Ga,G5,K8,Kz]
               tactic =>
                try simp only [K2] at *
                try simp only [nc2] at *
                try simp (maxSteps := 4000000) only [hlb,hjb,q1,q2,hp,he,Gg]
                repeat' (first | with_reducible assumption | with_reducible refine And.intro ?_ ?_ | intro _ | omega | (rw [Ku]; omega))
                all_goals first
                  | (with_reducible refine K9 ?_; kernel_rfl)
                  | omega
                  | exact ⟨(j + 1, false), by ((try simp only [Kv, Ky, Kx, K4, upd, K5, Gb, Gs, Nat.reduceDiv, Nat.reduceMod, Nat.reduceMul, Nat.reduceAdd, Nat.reduceEqDiff, List.set_cons_zero, List.set_cons_succ, if_true, if_false, reduceIte]); (first | refine Wk.of_fl ?_ | skip); simp only [Wk, wkK, Gy, wkT, wk1, AV.kept, keptAll, wkO, lk, Kw, and_true, true_and, and_self, Nat.reduceEqDiff, Nat.reduceLeDiff, if_true, if_false, reduceIte, reduceCtorEq, Option.isSome, false_implies]; try simp [Wk, wkK, wkT, wk1, AV.kept, keptAll, wkO, lk, Kw]), by simp only; omega, hb2, by simp only; omega⟩
                  | skip)
        · have hjl : j = l.length := by omega
          rw [hjl, List.take_length] at hb
          cases ho : Ad l x with
          | true =>
            rw [ho] at hb hsn
            rw [Bool.not_true] at hb
            rw [cond_true, List.append_nil] at hsn
            subst hb
            (sym =>
             simp [hlb,hjb,Ps,Pu,Pt,Pv,Pr,Pq,Gp.eq_def,Na.eq_def,K0.eq_def,Gt.eq_def,Za,Zb,Zc,Zd,Ze,Zf,Zg,Zh,Zi,Zj,Zk,Zl,Zm,Zn,Zo,Zp,Zq,Zr,Zs,Zt,Zv,Zx,Zz,Z0,Z1,Z2,Z6,Z7,Z8,Z9,Qa,Qb,Qc,Qd,Qe,Qi,Qj,Qk,Ql,Qm,Qn,Qo,Qp,Qv,Qw,Qy,Qz,Q0,Q1,Q2,Q3,Q4,Q5,Q6,Q7,Q8,Q9,Ja,Jb,Jc,Jd,Je,Jl,Jp,Jq,Jr,Js,Jt,Ju,Jx,Jy,Jz,J0,J1,J2,J3,J4,J5,J6,J7,J8,J9,Xa,Xb,Xc,Xd,Xe,Xf,Xg,Xh,Xi,Xj,Xk,Xl,Xm,Xn,Xo,Xp,Xq,Xs,Xt,Xu,Xv,Xw,Xx,Xy,Xz,X0,X1,X2,X3,X4,X5,X6,X7,X8,X9,Wa,Wb,Wc,Wd,We,Wf,Wg,Wh,Wi,Wj,Wl,Wm,Wn,Wo,Wp,Wq,Wr,Ws,Wt,Wu,Wv,Ww,Wx,Wy,Wz,W0,W1,W2,W3,W4,W5,W6,W7,W8,Yb,Yc,Yd,Ye,Yf,Yg,Yh,Yi,Yj,Yk,Yl,Ym,Yn,Yo,Yp,Yq,Yr,Ys,Yt,Yu,Yv,Yw,Yx,Yy,Yz,Y0,Y1,Y2,Y3,Y4,Y5,Y6,Y7,Y8,Y9,Va,Vb,Vc,Vd,Ve,Vf,Vg,Vh,Vi,Vj,Vk,Vl,Vm,Vn,Vo,Vp,Vq,Vr,Vs,Vt,Vu,Vv,Vw,Vx,Vy,Vz,V0,V1,V3,V4,V5,V6,V7,V8,V9,Ua,Ub,Uc,Ud,Ue,Uf,Ul,Um,Un,Uo,Uq,Ur,Us,Ut,Uu,Uv,Uw,Ux,Uy,Uz,U0,U1,U3,U4,U5,U6,U7,U8,U9,Ka,Kb,Kc,Kd,Ke,Kf,Kg,Kh,Ki,Kj,Kk,Kl,Km,Kn,Ko,Kq,Kr,Ks,Kt,Ga,G5,K8,Kz]
             tactic =>
              try simp only [K2] at *
              try simp only [nc2] at *
              try simp (maxSteps := 4000000) only [hlb,hjb,Gg]
              repeat' (first | with_reducible assumption | with_reducible refine And.intro ?_ ?_ | intro _ | omega | (rw [Ku]; omega))
              all_goals first
                | (with_reducible refine K9 ?_; kernel_rfl)
                | omega
                | exact ⟨k + 1, by simp only [hL2, hsn]; ((try simp only [Kv, Ky, Kx, K4, upd, K5, Gb, Gs, Nat.reduceDiv, Nat.reduceMod, Nat.reduceMul, Nat.reduceAdd, Nat.reduceEqDiff, List.set_cons_zero, List.set_cons_succ, if_true, if_false, reduceIte]); (first | refine Wk.of_fl ?_ | skip); simp only [Wk, wkK, Gy, wkT, wk1, AV.kept, keptAll, wkO, lk, Kw, and_true, true_and, and_self, Nat.reduceEqDiff, Nat.reduceLeDiff, if_true, if_false, reduceIte, reduceCtorEq, Option.isSome, false_implies]; try simp [Wk, wkK, wkT, wk1, AV.kept, keptAll, wkO, lk, Kw]), by omega, by omega⟩
                | skip)
          | false =>
            rw [ho] at hb hsn
            rw [Bool.not_false] at hb
            rw [cond_false] at hsn
            subst hb
            (sym =>
             simp [hlb,hjb,q1,Ps,Pu,Pt,Pv,Pr,Pq,Gp.eq_def,Na.eq_def,K0.eq_def,Gt.eq_def,Za,Zb,Zc,Zd,Ze,Zf,Zg,Zh,Zi,Zj,Zk,Zl,Zm,Zn,Zo,Zp,Zq,Zr,Zs,Zt,Zv,Zx,Zz,Z0,Z1,Z2,Z6,Z7,Z8,Z9,Qa,Qb,Qc,Qd,Qe,Qi,Qj,Qk,Ql,Qm,Qn,Qo,Qp,Qv,Qw,Qy,Qz,Q0,Q1,Q2,Q3,Q4,Q5,Q6,Q7,Q8,Q9,Ja,Jb,Jc,Jd,Je,Jl,Jp,Jq,Jr,Js,Jt,Ju,Jx,Jy,Jz,J0,J1,J2,J3,J4,J5,J6,J7,J8,J9,Xa,Xb,Xc,Xd,Xe,Xf,Xg,Xh,Xi,Xj,Xk,Xl,Xm,Xn,Xo,Xp,Xq,Xs,Xt,Xu,Xv,Xw,Xx,Xy,Xz,X0,X1,X2,X3,X4,X5,X6,X7,X8,X9,Wa,Wb,Wc,Wd,We,Wf,Wg,Wh,Wi,Wj,Wl,Wm,Wn,Wo,Wp,Wq,Wr,Ws,Wt,Wu,Wv,Ww,Wx,Wy,Wz,W0,W1,W2,W3,W4,W5,W6,W7,W8,Yb,Yc,Yd,Ye,Yf,Yg,Yh,Yi,Yj,Yk,Yl,Ym,Yn,Yo,Yp,Yq,Yr,Ys,Yt,Yu,Yv,Yw,Yx,Yy,Yz,Y0,Y1,Y2,Y3,Y4,Y5,Y6,Y7,Y8,Y9,Va,Vb,Vc,Vd,Ve,Vf,Vg,Vh,Vi,Vj,Vk,Vl,Vm,Vn,Vo,Vp,Vq,Vr,Vs,Vt,Vu,Vv,Vw,Vx,Vy,Vz,V0,V1,V3,V4,V5,V6,V7,V8,V9,Ua,Ub,Uc,Ud,Ue,Uf,Ul,Um,Un,Uo,Uq,Ur,Us,Ut,Uu,Uv,Uw,Ux,Uy,Uz,U0,U1,U3,U4,U5,U6,U7,U8,U9,Ka,Kb,Kc,Kd,Ke,Kf,Kg,Kh,Ki,Kj,Kk,Kl,Km,Kn,Ko,Kq,Kr,Ks,Kt,Ga,G5,K8,Kz]
             tactic =>
              try simp only [K2] at *
              try simp only [nc2] at *
              try simp (maxSteps := 4000000) only [hlb,hjb,q1,Gg]
              repeat' (first | with_reducible assumption | with_reducible refine And.intro ?_ ?_ | intro _ | omega | (rw [Ku]; omega))
              all_goals first
                | (with_reducible refine K9 ?_; kernel_rfl)
                | omega
                | exact ⟨k + 1, by simp only [hL2, hsn]; ((try simp only [Kv, Ky, Kx, K4, upd, K5, Gb, Gs, Nat.reduceDiv, Nat.reduceMod, Nat.reduceMul, Nat.reduceAdd, Nat.reduceEqDiff, List.set_cons_zero, List.set_cons_succ, if_true, if_false, reduceIte]); (first | refine Wk.of_fl ?_ | skip); simp only [Wk, wkK, Gy, wkT, wk1, AV.kept, keptAll, wkO, lk, Kw, and_true, true_and, and_self, Nat.reduceEqDiff, Nat.reduceLeDiff, if_true, if_false, reduceIte, reduceCtorEq, Option.isSome, false_implies]; try simp [Wk, wkK, wkT, wk1, AV.kept, keptAll, wkO, lk, Kw, List.map_append, List.length_append]), by omega, by omega⟩
                | exact ⟨k + 1, by simp only [hL2, hsn]; ((try simp only [Kv, Ky, Kx, K4, upd, K5, Gb, Gs, Nat.reduceDiv, Nat.reduceMod, Nat.reduceMul, Nat.reduceAdd, Nat.reduceEqDiff, List.set_cons_zero, List.set_cons_succ, if_true, if_false, reduceIte]); (first | refine Wk.of_fl ?_ | skip); simp only [Wk, wkK, Gy, wkT, wk1, AV.kept, keptAll, wkO, lk, Kw, and_true, true_and, and_self, Nat.reduceEqDiff, Nat.reduceLeDiff, if_true, if_false, reduceIte, reduceCtorEq, Option.isSome, false_implies]; try simp [Wk, wkK, wkT, wk1, AV.kept, keptAll, wkO, lk, Kw, List.map_append, List.length_append]); rfl, by omega, by omega⟩
                | skip))
    · have hkl : k = l.length := by omega
      have hle : leT l k = Iz l := by rw [hkl]; unfold leT Iz; rw [List.take_length]
      have hRl : Rs6 (Iz l) := rs6_filter hR' _
      rw [hle]
      (sym =>
       simp [hlb,Ps,Pu,Pt,Pv,Pr,Pq,Gp.eq_def,Na.eq_def,K0.eq_def,Gt.eq_def,Za,Zb,Zc,Zd,Ze,Zf,Zg,Zh,Zi,Zj,Zk,Zl,Zm,Zn,Zo,Zp,Zq,Zr,Zs,Zt,Zv,Zx,Zz,Z0,Z1,Z2,Z6,Z7,Z8,Z9,Qa,Qb,Qc,Qd,Qe,Qi,Qj,Qk,Ql,Qm,Qn,Qo,Qp,Qv,Qw,Qy,Qz,Q0,Q1,Q2,Q3,Q4,Q5,Q6,Q7,Q8,Q9,Ja,Jb,Jc,Jd,Je,Jl,Jp,Jq,Jr,Js,Jt,Ju,Jx,Jy,Jz,J0,J1,J2,J3,J4,J5,J6,J7,J8,J9,Xa,Xb,Xc,Xd,Xe,Xf,Xg,Xh,Xi,Xj,Xk,Xl,Xm,Xn,Xo,Xp,Xq,Xs,Xt,Xu,Xv,Xw,Xx,Xy,Xz,X0,X1,X2,X3,X4,X5,X6,X7,X8,X9,Wa,Wb,Wc,Wd,We,Wf,Wg,Wh,Wi,Wj,Wl,Wm,Wn,Wo,Wp,Wq,Wr,Ws,Wt,Wu,Wv,Ww,Wx,Wy,Wz,W0,W1,W2,W3,W4,W5,W6,W7,W8,Yb,Yc,Yd,Ye,Yf,Yg,Yh,Yi,Yj,Yk,Yl,Ym,Yn,Yo,Yp,Yq,Yr,Ys,Yt,Yu,Yv,Yw,Yx,Yy,Yz,Y0,Y1,Y2,Y3,Y4,Y5,Y6,Y7,Y8,Y9,Va,Vb,Vc,Vd,Ve,Vf,Vg,Vh,Vi,Vj,Vk,Vl,Vm,Vn,Vo,Vp,Vq,Vr,Vs,Vt,Vu,Vv,Vw,Vx,Vy,Vz,V0,V1,V3,V4,V5,V6,V7,V8,V9,Ua,Ub,Uc,Ud,Ue,Uf,Ul,Um,Un,Uo,Uq,Ur,Us,Ut,Uu,Uv,Uw,Ux,Uy,Uz,U0,U1,U3,U4,U5,U6,U7,U8,U9,Ka,Kb,Kc,Kd,Ke,Kf,Kg,Kh,Ki,Kj,Kk,Kl,Km,Kn,Ko,Kq,Kr,Ks,Kt,Ga,G5,K8,Kz]
       tactic =>
        try simp only [K2] at *
        try simp only [nc2] at *
        try simp (maxSteps := 4000000) only [hlb,Gg]
        repeat' (first | with_reducible assumption | with_reducible refine And.intro ?_ ?_ | intro _ | omega | (rw [Ku]; omega))
        all_goals first
          | (with_reducible refine K9 ?_; kernel_rfl)
          | exact hRl
          | omega
          | rfl
          | skip))
end Go.Am.Hit
set_option linter.unusedSimpArgs false
set_option linter.unusedVariables false
set_option maxHeartbeats 2000000
namespace Go.Am.Hit
open Go.Proofs
open Enc (enc dec)
def Cr (f : List Int) (n : Nat) : Nat → List Int
  | 0 => []
  | k + 1 => Cr f n k ++ cond (n / 2 ^ k % 2 == 1) [f.getD k 0] []
theorem subU_len (f : List Int) (n : Nat) : ∀ k, (Cr f n k).length ≤ k
  | 0 => by simp [Cr]
  | k + 1 => by
    have := subU_len f n k
    rw [Cr, List.length_append]
    cases n / 2 ^ k % 2 == 1 <;> simp <;> omega
def Bc (f : List Int) (l : List (Sl Int)) : Nat → List (Sl Int)
  | 0 => []
  | n + 1 => Bc f l n ++ cond (Fk (Cr f n f.length) l) [⟨Cr f n f.length⟩] []
theorem justT_len (f : List Int) (l : List (Sl Int)) : ∀ n, (Bc f l n).length ≤ n
  | 0 => by simp [Bc]
  | n + 1 => by
    have := justT_len f l n
    rw [Bc, List.length_append]
    cases Fk (Cr f n f.length) l <;> simp <;> omega
theorem subU_rs (f : List Int) (l : List (Sl Int)) (hf : f.length ≤ 20) : ∀ n, ∀ j, ((Bc f l n).getD j ⟨[]⟩).l.length ≤ 1000000
  | 0, j => by simp [Bc]
  | n + 1, j => by
    have ih := subU_rs f l hf n j
    have h2 := subU_len f n f.length
    rw [Bc]
    cases Fk (Cr f n f.length) l with
    | false => rw [cond_false, List.append_nil]; exact ih
    | true =>
      rw [cond_true]
      by_cases hj : j < (Bc f l n).length
      · rw [List.getD_eq_getElem?_getD, List.getElem?_append_left hj, ← List.getD_eq_getElem?_getD]
        exact ih
      · by_cases e : j = (Bc f l n).length
        · rw [List.getD_eq_getElem?_getD, e]
          simp
          omega
        · rw [List.getD_eq_getElem?_getD, List.getElem?_eq_none (by rw [List.length_append]; simp; omega)]
          simp
def AllX (l : List (Sl Int)) (limit : Int) : Sl (Sl Int) × Int :=
  cond (ltB (maxI limit 0) ((Bc (Bo l) l (2 ^ (Bo l).length)).length : Int)) (⟨[]⟩, 11) (⟨slS (srt (unS (Bc (Bo l) l (2 ^ (Bo l).length))))⟩, 0)
theorem tmod2 (n : Nat) : Int.tmod (n : Int) 2 = ((n % 2 : Nat) : Int) := by
  rw [Int.tmod_eq_emod_of_nonneg (by omega)]
  omega
theorem tdiv2 (n : Nat) : Int.tdiv (n : Int) 2 = ((n / 2 : Nat) : Int) := by
  rw [Int.tdiv_eq_ediv_of_nonneg (by omega)]
  omega
def Mb : Con := B5 (fun (l : Sl (Sl Int)) (_ : Int) => Sm l.l ∧ Rw l.l ∧ (Bo l.l).length ≤ 19) (fun l limit => AllX l.l limit)
noncomputable def Fh : Ctx := ⟨tab, lkC [(28, G3), (31, Nc), (24, Gt)], 60, lkB [], [], false⟩
theorem Py : Fh.τ = tab := rfl
theorem P0 : Fh.Γ = lkC [(28, G3), (31, Nc), (24, Gt)] := rfl
theorem Pz : Fh.dp = 60 := rfl
theorem P1 : Fh.Δ = lkB [] := rfl
theorem Px : Fh.cuts = [] := rfl
theorem Pw : Fh.wr = false := rfl
set_option maxRecDepth 100000 in
theorem good_All16 : Me Try.prog (13, Mb) := by
  refine ⟨Gj Try.func13 (by kernel_rfl) rfl, ?_⟩
  have K : Hq Try.prog Fh := Gq H8 G4 (by
    intro p hp
    simp only [List.mem_cons, List.not_mem_nil, or_false] at hp
    rcases hp with rfl | rfl | rfl
    · exact good_numbers16
    · exact good_just16
    · exact good_Sort16) (by simp)
  obtain ⟨c, hc⟩ : ∃ c, Try.f13.body = some c := ⟨_, rfl⟩
  refine Gu K Try.func13 hc [.tmp 4, .tmp 5] rfl 62 rfl (fun cvs hpre => ?_)
  change Mb.pre cvs at hpre
  unfold Mb at hpre
  obtain ⟨⟨l⟩, limit, rfl, hSm, hRw, hF⟩ := con2t_pre hpre
  have hSm' : Sm l := hSm
  have hRw' : Rw l := hRw
  simp only at hF
  obtain ⟨R, hR⟩ : ∃ R, AllX l limit = R := ⟨_, rfl⟩
  have hR2 := hR
  unfold AllX at hR2
  obtain ⟨F, hFF⟩ : ∃ F, Bo l = F := ⟨_, rfl⟩
  rw [hFF] at hF hR2
  have hP : 2 ^ F.length ≤ 1000000 := Nat.le_trans (Nat.pow_le_pow_right (by omega) hF) (by decide)
  clear hpre
  simp only [Try.f13, Option.some.injEq] at hc
  subst hc
  refine Hy 3 (of_decide_eq_true (by kernel_rfl)) ?_
  (sym =>
   simp [hFF,Py,P0,Pz,P1,Px,Pw,Mb.eq_def,Gt.eq_def,Nc.eq_def,G3.eq_def,Za,Zb,Zc,Ze,Zf,Zg,Zn,Zo,Zp,Zq,Zr,Zs,Zv,Zx,Zz,Z0,Z1,Z2,Z3,Z6,Z7,Z8,Z9,Qa,Qb,Qc,Qd,Qe,Qi,Qj,Qk,Ql,Qm,Qn,Qp,Qv,Qw,Qy,Q1,Q2,Q3,Q4,Q5,Q6,Q7,Q8,Q9,Ja,Jb,Jc,Jd,Je,Jl,Jp,Jq,Jr,Js,Jt,Ju,Jx,Jy,Jz,J0,J1,J2,J3,J4,J5,J6,J7,J8,J9,Xa,Xb,Xc,Xd,Xe,Xf,Xg,Xh,Xi,Xj,Xk,Xl,Xm,Xn,Xo,Xp,Xq,Xs,Xt,Xu,Xv,Xw,Xx,Xy,Xz,X0,X1,X2,X3,X4,X5,X6,X7,X8,X9,Wa,Wd,We,Wf,Wg,Wh,Wi,Wj,Wl,Wm,Wn,Wo,Wp,Wq,Wr,Ws,Wt,Wu,Wv,Ww,Wx,Wy,Wz,W0,W1,W2,W3,W4,W5,W6,W7,W8,Yb,Yc,Yd,Ye,Yf,Yg,Yh,Yi,Yj,Yk,Yl,Ym,Yn,Yo,Yp,Yq,Yr,Ys,Yt,Yu,Yv,Yw,Yx,Yy,Yz,Y0,Y1,Y2,Y3,Y4,Y5,Y6,Y7,Y8,Y9,Va,Vb,Vc,Vd,Ve,Vf,Vg,Vh,Vi,Vj,Vk,Vl,Vm,Vn,Vo,Vp,Vq,Vr,Vs,Vt,Vu,Vv,Vw,Vx,Vy,Vz,V0,V1,V3,V4,V5,V6,V7,V8,V9,Ua,Ub,Uc,Ud,Ue,Uf,Ul,Um,Un,Uo,Uq,Ur,Us,Ut,Uu,Uv,Uw,Ux,Uy,Uz,U0,U1,U3,U4,U5,U6,U7,U8,U9,Ka,Kb,Kc,Kd,Ke,Kf,Kg,Kh,Ki,Kj,Kk,Kl,Km,Kn,Ko,Kq,Kr,Ks,Kt,Ga,K8,Kz]
   tactic =>
    try simp only [K2] at *
    try simp only [nc2] at *
    try simp (maxSteps := 4000000) only [hFF,Gg]
    repeat' (first | with_reducible assumption | with_reducible refine And.intro ?_ ?_ | intro _ | omega | (rw [Ku]; omega))
    refine Gi [18, 19, 20, 21] (fun j : Nat => [(7, .d (.int .i64 ((2 ^ j : Nat) : Int))), (17, .d (.int .i64 j))]) (fun j : Nat => []) (fun j : Nat => j ≤ F.length) (fun j : Nat => F.length - j) 0 ?_ ?_ ?_
    · omega
    · ((try simp only [Kv, Ky, Kx, K4, upd, K5, Gb, Gs, Nat.reduceDiv, Nat.reduceMod, Nat.reduceMul, Nat.reduceAdd, Nat.reduceEqDiff, List.set_cons_zero, List.set_cons_succ, if_true, if_false, reduceIte]); (first | refine Wk.of_fl ?_ | skip); simp only [Wk, wkK, Gy, wkT, wk1, AV.kept, keptAll, wkO, lk, Kw, and_true, true_and, and_self, Nat.reduceEqDiff, Nat.reduceLeDiff, if_true, if_false, reduceIte, reduceCtorEq, Option.isSome, false_implies]; try simp [Wk, wkK, wkT, wk1, AV.kept, keptAll, wkO, lk, Kw])
    rintro j hj
    have hpj : 2 ^ j ≤ 1000000 := Nat.le_trans (Nat.pow_le_pow_right (by omega) hj) hP
    have hp2 : ((2 ^ j : Nat) : Int) * 2 = ((2 ^ (j + 1) : Nat) : Int) := by rw [Nat.pow_succ]; omega
    obtain ⟨p, hp⟩ : ∃ p, 2 ^ j = p := ⟨_, rfl⟩
    obtain ⟨p1, hp1⟩ : ∃ p, 2 ^ (j + 1) = p := ⟨_, rfl⟩
    rw [hp] at hpj hp2 ⊢
    rw [hp1] at hp2
    rcases Gl j F.length with ⟨hlt, hlb⟩ | ⟨hlt, hlb⟩
    · (sym =>
       simp [hlb,hp2,Py,P0,Pz,P1,Px,Pw,Mb.eq_def,Gt.eq_def,Nc.eq_def,G3.eq_def,Za,Zb,Zc,Ze,Zf,Zg,Zn,Zo,Zp,Zq,Zr,Zs,Zv,Zx,Zz,Z0,Z1,Z2,Z3,Z6,Z7,Z8,Z9,Qa,Qb,Qc,Qd,Qe,Qi,Qj,Qk,Ql,Qm,Qn,Qp,Qv,Qw,Qy,Q1,Q2,Q3,Q4,Q5,Q6,Q7,Q8,Q9,Ja,Jb,Jc,Jd,Je,Jl,Jp,Jq,Jr,Js,Jt,Ju,Jx,Jy,Jz,J0,J1,J2,J3,J4,J5,J6,J7,J8,J9,Xa,Xb,Xc,Xd,Xe,Xf,Xg,Xh,Xi,Xj,Xk,Xl,Xm,Xn,Xo,Xp,Xq,Xs,Xt,Xu,Xv,Xw,Xx,Xy,Xz,X0,X1,X2,X3,X4,X5,X6,X7,X8,X9,Wa,Wd,We,Wf,Wg,Wh,Wi,Wj,Wl,Wm,Wn,Wo,Wp,Wq,Wr,Ws,Wt,Wu,Wv,Ww,Wx,Wy,Wz,W0,W1,W2,W3,W4,W5,W6,W7,W8,Yb,Yc,Yd,Ye,Yf,Yg,Yh,Yi,Yj,Yk,Yl,Ym,Yn,Yo,Yp,Yq,Yr,Ys,Yt,Yu,Yv,Yw,Yx,Yy,Yz,Y0,Y1,Y2,Y3,Y4,Y5,Y6,Y7,Y8,Y9,Va,Vb,Vc,Vd,Ve,Vf,Vg,Vh,Vi,Vj,Vk,Vl,Vm,Vn,Vo,Vp,Vq,Vr,Vs,Vt,Vu,Vv,Vw,Vx,Vy,Vz,V0,V1,V3,V4,V5,V6,V7,V8,V9,Ua,Ub,Uc,Ud,Ue,Uf,Ul,Um,Un,Uo,Uq,Ur,Us,Ut,Uu,Uv,Uw,Ux,Uy,Uz,U0,U1,U3,U4,U5,U6,U7,U8,U9,Ka,Kb,Kc,Kd,Ke,Kf,Kg,Kh,Ki,Kj,Kk,Kl,Km,Kn,Ko,Kq,Kr,Ks,Kt,Ga,K8,Kz]
       tactic =>
        try simp only [K2] at *
        try simp only [nc2] at *
        try simp (maxSteps := 4000000) only [hlb,hp2,Gg]
        repeat' (first | with_reducible assumption | with_reducible refine And.intro ?_ ?_ | intro _ | omega | (rw [Ku]; omega))
        all_goals first
          | (with_reducible refine K9 ?_; kernel_rfl)
          | omega
          | exact ⟨j + 1, by simp only [hp1]; ((try simp only [Kv, Ky, Kx, K4, upd, K5, Gb, Gs, Nat.reduceDiv, Nat.reduceMod, Nat.reduceMul, Nat.reduceAdd, Nat.reduceEqDiff, List.set_cons_zero, List.set_cons_succ, if_true, if_false, reduceIte]); (first | refine Wk.of_fl ?_ | skip); simp only [Wk, wkK, Gy, wkT, wk1, AV.kept, keptAll, wkO, lk, Kw, and_true, true_and, and_self, Nat.reduceEqDiff, Nat.reduceLeDiff, if_true, if_false, reduceIte, reduceCtorEq, Option.isSome, false_implies]; try simp [Wk, wkK, wkT, wk1, AV.kept, keptAll, wkO, lk, Kw]), by omega, by omega⟩
          | skip)
    · have hjF : j = F.length := by omega
      rw [← hjF, hp] at hR2
      (sym =>
       simp [hlb,Py,P0,Pz,P1,Px,Pw,Mb.eq_def,Gt.eq_def,Nc.eq_def,G3.eq_def,Za,Zb,Zc,Ze,Zf,Zg,Zn,Zo,Zp,Zq,Zr,Zs,Zv,Zx,Zz,Z0,Z1,Z2,Z3,Z6,Z7,Z8,Z9,Qa,Qb,Qc,Qd,Qe,Qi,Qj,Qk,Ql,Qm,Qn,Qp,Qv,Qw,Qy,Q1,Q2,Q3,Q4,Q5,Q6,Q7,Q8,Q9,Ja,Jb,Jc,Jd,Je,Jl,Jp,Jq,Jr,Js,Jt,Ju,Jx,Jy,Jz,J0,J1,J2,J3,J4,J5,J6,J7,J8,J9,Xa,Xb,Xc,Xd,Xe,Xf,Xg,Xh,Xi,Xj,Xk,Xl,Xm,Xn,Xo,Xp,Xq,Xs,Xt,Xu,Xv,Xw,Xx,Xy,Xz,X0,X1,X2,X3,X4,X5,X6,X7,X8,X9,Wa,Wd,We,Wf,Wg,Wh,Wi,Wj,Wl,Wm,Wn,Wo,Wp,Wq,Wr,Ws,Wt,Wu,Wv,Ww,Wx,Wy,Wz,W0,W1,W2,W3,W4,W5,W6,W7,W8,Yb,Yc,Yd,Ye,Yf,Yg,Yh,Yi,Yj,Yk,Yl,Ym,Yn,Yo,Yp,Yq,Yr,Ys,Yt,Yu,Yv,Yw,Yx,Yy,Yz,Y0,Y1,Y2,Y3,Y4,Y5,Y6,Y7,Y8,Y9,Va,Vb,Vc,Vd,Ve,Vf,Vg,Vh,Vi,Vj,Vk,Vl,Vm,Vn,Vo,Vp,Vq,Vr,Vs,Vt,Vu,Vv,Vw,Vx,Vy,Vz,V0,V1,V3,V4,V5,V6,V7,V8,V9,Ua,Ub,Uc,Ud,Ue,Uf,Ul,Um,Un,Uo,Uq,Ur,Us,Ut,Uu,Uv,Uw,Ux,Uy,Uz,U0,U1,U3,U4,U5,U6,U7,U8,U9,Ka,Kb,Kc,Kd,Ke,Kf,Kg,Kh,Ki,Kj,Kk,Kl,Km,Kn,Ko,Kq,Kr,Ks,Kt,Ga,K8,Kz]
       tactic =>
        try simp only [K2] at *
        try simp only [nc2] at *
        try simp (maxSteps := 4000000) only [hlb,Gg]
        repeat' (first | with_reducible assumption | with_reducible refine And.intro ?_ ?_ | intro _ | omega | (rw [Ku]; omega))
        refine Gi [10, 11, 12, 23, 24, 25, 26, 27, 28, 29, 30, 31, 32, 33, 34, 35, 36, 37, 38, 39, 40, 41, 42, 43, 44, 45, 46, 47, 48, 49, 50, 51, 52, 53, 54] (fun n : Nat => [(8, .sl 22 ((Bc F l n).map (enc : Sl Int → D)).length), (9, .d (.int .i64 n))]) (fun n : Nat => [(22, .row 1 ((Bc F l n).map enc) 0)]) (fun n : Nat => n ≤ p) (fun n : Nat => p - n) 0 ?_ ?_ ?_
        · omega
        · ((try simp only [Kv, Ky, Kx, K4, upd, K5, Gb, Gs, Nat.reduceDiv, Nat.reduceMod, Nat.reduceMul, Nat.reduceAdd, Nat.reduceEqDiff, List.set_cons_zero, List.set_cons_succ, if_true, if_false, reduceIte]); (first | refine Wk.of_fl ?_ | skip); simp only [Wk, wkK, Gy, wkT, wk1, AV.kept, keptAll, wkO, lk, Kw, and_true, true_and, and_self, Nat.reduceEqDiff, Nat.reduceLeDiff, if_true, if_false, reduceIte, reduceCtorEq, Option.isSome, false_implies]; try simp [Wk, wkK, wkT, wk1, AV.kept, keptAll, wkO, lk, Kw, Bc])
        rintro n hn
        have hTl := justT_len F l n
        rcases Gl n p with ⟨hnp, hnb⟩ | ⟨hnp, hnb⟩
        · have hT2 : Bc F l (n + 1) = Bc F l n ++ cond (Fk (Cr F n F.length) l) [⟨Cr F n F.length⟩] [] := rfl
          have hT2l := justT_len F l (n + 1)
          obtain ⟨T, hT⟩ : ∃ T, Bc F l n = T := ⟨_, rfl⟩
          obtain ⟨T2, hT2e⟩ : ∃ T, Bc F l (n + 1) = T := ⟨_, rfl⟩
          rw [hT, hT2e] at hT2
          rw [hT] at hTl ⊢
          rw [hT2e] at hT2l
          (sym =>
           simp [hlb,hnb,Py,P0,Pz,P1,Px,Pw,Mb.eq_def,Gt.eq_def,Nc.eq_def,G3.eq_def,Za,Zb,Zc,Ze,Zf,Zg,Zn,Zo,Zp,Zq,Zr,Zs,Zv,Zx,Zz,Z0,Z1,Z2,Z3,Z6,Z7,Z8,Z9,Qa,Qb,Qc,Qd,Qe,Qi,Qj,Qk,Ql,Qm,Qn,Qp,Qv,Qw,Qy,Q1,Q2,Q3,Q4,Q5,Q6,Q7,Q8,Q9,Ja,Jb,Jc,Jd,Je,Jl,Jp,Jq,Jr,Js,Jt,Ju,Jx,Jy,Jz,J0,J1,J2,J3,J4,J5,J6,J7,J8,J9,Xa,Xb,Xc,Xd,Xe,Xf,Xg,Xh,Xi,Xj,Xk,Xl,Xm,Xn,Xo,Xp,Xq,Xs,Xt,Xu,Xv,Xw,Xx,Xy,Xz,X0,X1,X2,X3,X4,X5,X6,X7,X8,X9,Wa,Wd,We,Wf,Wg,Wh,Wi,Wj,Wl,Wm,Wn,Wo,Wp,Wq,Wr,Ws,Wt,Wu,Wv,Ww,Wx,Wy,Wz,W0,W1,W2,W3,W4,W5,W6,W7,W8,Yb,Yc,Yd,Ye,Yf,Yg,Yh,Yi,Yj,Yk,Yl,Ym,Yn,Yo,Yp,Yq,Yr,Ys,Yt,Yu,Yv,Yw,Yx,Yy,Yz,Y0,Y1,Y2,Y3,Y4,Y5,Y6,Y7,Y8,Y9,Va,Vb,Vc,Vd,Ve,Vf,Vg,Vh,Vi,Vj,Vk,Vl,Vm,Vn,Vo,Vp,Vq,Vr,Vs,Vt,Vu,Vv,Vw,Vx,Vy,Vz,V0,V1,V3,V4,V5,V6,V7,V8,V9,Ua,Ub,Uc,Ud,Ue,Uf,Ul,Um,Un,Uo,Uq,Ur,Us,Ut,Uu,Uv,Uw,Ux,Uy,Uz,U0,U1,U3,U4,U5,U6,U7,U8,U9,Ka,Kb,Kc,Kd,Ke,Kf,Kg,Kh,Ki,Kj,Kk,Kl,Km,Kn,Ko,Kq,Kr,Ks,Kt,Ga,K8,Kz]
           tactic =>
            try simp only [K2] at *
            try simp only [nc2] at *
            try simp (maxSteps := 4000000) only [hlb,hnb,Gg]
            repeat' (first | with_reducible assumption | with_reducible refine And.intro ?_ ?_ | intro _ | omega | (rw [Ku]; omega))
            refine Gi [30, 31, 32, 33, 34, 35, 36, 37, 38, 39, 40, 41, 42, 43, 44, 45, 46, 47] (fun i : Nat => [(10, .sl 28 ((Cr F n i).map (enc : Int → D)).length), (11, .d (.int .i64 ((n / 2 ^ i : Nat) : Int))), (12, .d (.int .i64 i))]) (fun i : Nat => [(28, .row 1 ((Cr F n i).map enc) 0)]) (fun i : Nat => i ≤ F.length) (fun i : Nat => F.length - i) 0 ?_ ?_ ?_
            · omega
            · ((try simp only [Kv, Ky, Kx, K4, upd, K5, Gb, Gs, Nat.reduceDiv, Nat.reduceMod, Nat.reduceMul, Nat.reduceAdd, Nat.reduceEqDiff, List.set_cons_zero, List.set_cons_succ, if_true, if_false, reduceIte]); (first | refine Wk.of_fl ?_ | skip); simp only [Wk, wkK, Gy, wkT, wk1, AV.kept, keptAll, wkO, lk, Kw, and_true, true_and, and_self, Nat.reduceEqDiff, Nat.reduceLeDiff, if_true, if_false, reduceIte, reduceCtorEq, Option.isSome, false_implies]; try simp [Wk, wkK, wkT, wk1, AV.kept, keptAll, wkO, lk, Kw, Cr, Nat.pow_zero, Nat.div_one])
            rintro i hi
            have hUl := subU_len F n i
            have hdn : n / 2 ^ i ≤ 1000000 := Nat.le_trans (Nat.div_le_self _ _) (by omega)
            have hdd : n / 2 ^ i / 2 = n / 2 ^ (i + 1) := by rw [Nat.div_div_eq_div_mul, Nat.pow_succ]
            have hU2 : Cr F n (i + 1) = Cr F n i ++ cond (n / 2 ^ i % 2 == 1) [F.getD i 0] [] := rfl
            have hU2l := subU_len F n (i + 1)
            rcases Gl i F.length with ⟨hit, hib⟩ | ⟨hit, hib⟩
            · have q1 := Hd (0 : Int) hit
              obtain ⟨d, hd⟩ : ∃ d, n / 2 ^ i = d := ⟨_, rfl⟩
              obtain ⟨d2, hd2⟩ : ∃ d, n / 2 ^ (i + 1) = d := ⟨_, rfl⟩
              obtain ⟨x, hx⟩ : ∃ x, F.getD i 0 = x := ⟨_, rfl⟩
              obtain ⟨U, hU⟩ : ∃ T, Cr F n i = T := ⟨_, rfl⟩
              obtain ⟨U2, hU2e⟩ : ∃ T, Cr F n (i + 1) = T := ⟨_, rfl⟩
              rw [hd] at hdn hdd hU2 ⊢
              rw [hd2] at hdd
              rw [hx] at q1 hU2
              rw [hU, hU2e] at hU2
              rw [hU] at hUl ⊢
              rw [hU2e] at hU2l
              have t1 := tmod2 d
              have t2 := tdiv2 d
              rw [hdd] at t2
              have hd2l : d2 ≤ 1000000 := by omega
              cases hb : (d % 2 == 1) with
              | true =>
                rw [hb, cond_true] at hU2
                have hbi : (((d % 2 : Nat) : Int) == 1) = true := by rw [beq_iff_eq] at hb ⊢; omega
                obtain ⟨e, he⟩ : ∃ e, d % 2 = e := ⟨_, rfl⟩
                rw [he] at t1 hbi
                (sym =>
                 simp [hlb,hnb,hib,q1,t1,t2,hbi,Py,P0,Pz,P1,Px,Pw,Mb.eq_def,Gt.eq_def,Nc.eq_def,G3.eq_def,Za,Zb,Zc,Ze,Zf,Zg,Zn,Zo,Zp,Zq,Zr,Zs,Zv,Zx,Zz,Z0,Z1,Z2,Z3,Z6,Z7,Z8,Z9,Qa,Qb,Qc,Qd,Qe,Qi,Qj,Qk,Ql,Qm,Qn,Qp,Qv,Qw,Qy,Q1,Q2,Q3,Q4,Q5,Q6,Q7,Q8,Q9,Ja,Jb,Jc,Jd,Je,Jl,Jp,Jq,Jr,Js,Jt,Ju,Jx,Jy,Jz,J0,J1,J2,J3,J4,J5,J6,J7,J8,J9,Xa,Xb,Xc,Xd,Xe,Xf,Xg,Xh,Xi,Xj,Xk,Xl,Xm,Xn,Xo,Xp,Xq,Xs,Xt,Xu,Xv,Xw,Xx,Xy,Xz,X0,X1,X2,X3,X4,X5,X6,X7,X8,X9,Wa,Wd,We,Wf,Wg,Wh,Wi,Wj,Wl,Wm,Wn,Wo,Wp,Wq,Wr,Ws,Wt,Wu,Wv,Ww,Wx,Wy,Wz,W0,W1,W2,W3,W4,W5,W6,W7,W8,Yb,Yc,Yd,Ye,Yf,Yg,Yh,Yi,Yj,Yk,Yl,Ym,Yn,Yo,Yp,Yq,Yr,Ys,Yt,Yu,Yv,Yw,Yx,Yy,Yz,Y0,Y1,Y2,Y3,Y4,Y5,Y6,Y7,Y8,Y9,Va,Vb,Vc,Vd,Ve,Vf,Vg,Vh,Vi,Vj,Vk,Vl,Vm,Vn,Vo,Vp,Vq,Vr,Vs,Vt,Vu,Vv,Vw,Vx,Vy,Vz,V0,V1,V3,V4,V5,V6,V7,V8,V9,Ua,Ub,Uc,Ud,Ue,Uf,Ul,Um,Un,Uo,Uq,Ur,Us,Ut,Uu,Uv,Uw,Ux,Uy,Uz,U0,U1,U3,U4,U5,U6,U7,U8,U9,Ka,Kb,Kc,Kd,Ke,Kf,Kg,Kh,Ki,Kj,Kk,Kl,Km,Kn,Ko,Kq,Kr,Ks,Kt,Ga,K8,Kz]
                 tactic =>
                  try simp only [K2] at *
                  try simp only [nc2] at *
                  try simp (maxSteps := 4000000) only [hlb,hnb,hib,q1,t1,t2,hbi,Gg]
                  repeat' (first | with_reducible assumption | with_reducible refine And.intro ?_ ?_ | intro _ | omega | (rw [Ku]; omega))
                  all_goals first
                    | (with_reducible refine K9 ?_; kernel_rfl)
                    | contradiction
                    | omega
                    | exact ⟨i + 1, by simp only [hU2e, hd2, hU2]; ((try simp only [Kv, Ky, Kx, K4, upd, K5, Gb, Gs, Nat.reduceDiv, Nat.reduceMod, Nat.reduceMul, Nat.reduceAdd, Nat.reduceEqDiff, List.set_cons_zero, List.set_cons_succ, if_true, if_false, reduceIte]); (first | refine Wk.of_fl ?_ | skip); simp only [Wk, wkK, Gy, wkT, wk1, AV.kept, keptAll, wkO, lk, Kw, and_true, true_and, and_self, Nat.reduceEqDiff, Nat.reduceLeDiff, if_true, if_false, reduceIte, reduceCtorEq, Option.isSome, false_implies]; try simp [Wk, wkK, wkT, wk1, AV.kept, keptAll, wkO, lk, Kw, List.map_append, List.length_append]), by omega, by omega⟩
                    | skip)
              | false =>
                rw [hb, cond_false, List.append_nil] at hU2
                have hbi : (((d % 2 : Nat) : Int) == 1) = false := by rw [beq_eq_false_iff_ne] at hb ⊢; omega
                obtain ⟨e, he⟩ : ∃ e, d % 2 = e := ⟨_, rfl⟩
                rw [he] at t1 hbi
                (sym =>
                 simp [hlb,hnb,hib,q1,t1,t2,hbi,Py,P0,Pz,P1,Px,Pw,Mb.eq_def,Gt.eq_def,Nc.eq_def,G3.eq_def,Za,Zb,Zc,Ze,Zf,Zg,Zn,Zo,Zp,Zq,Zr,Zs,Zv,Zx,Zz,Z0,Z1,Z2,Z3,Z6,Z7,Z8,Z9,Qa,Qb,Qc,Qd,Qe,Qi,Qj,Qk,Ql,Qm,Qn,Qp,Qv,Qw,Qy,Q1,Q2,Q3,Q4,Q5,Q6,Q7,Q8,Q9,Ja,Jb,Jc,Jd,Je,Jl,Jp,Jq,Jr,Js,Jt,Ju,Jx,Jy,Jz,J0,J1,J2,J3,J4,J5,J6,J7,J8,J9,Xa,Xb,Xc,Xd,Xe,Xf,Xg,Xh,Xi,Xj,Xk,Xl,Xm,Xn,Xo,Xp,Xq,Xs,Xt,Xu,Xv,Xw,Xx,Xy,Xz,X0,X1,X2,X3,X4,X5,X6,X7,X8,X9,Wa,Wd,We,Wf,Wg,Wh,Wi,Wj,Wl,Wm,Wn,Wo,Wp,Wq,Wr,Ws,Wt,Wu,Wv,Ww,Wx,Wy,Wz,W0,W1,W2,W3,W4,W5,W6,W7,W8,Yb,Yc,Yd,Ye,Yf,Yg,Yh,Yi,Yj,Yk,Yl,Ym,Yn,Yo,Yp,Yq,Yr,Ys,Yt,Yu,Yv,Yw,Yx,Yy,Yz,Y0,Y1,Y2,Y3,Y4,Y5,Y6,Y7,Y8,Y9,Va,Vb,Vc,Vd,Ve,Vf,Vg,Vh,Vi,Vj,Vk,Vl,Vm,Vn,Vo,Vp,Vq,Vr,Vs,Vt,Vu,Vv,Vw,Vx,Vy,Vz,V0,V1,V3,V4,V5,V6,V7,V8,V9,Ua,Ub,Uc,Ud,Ue,Uf,Ul,Um,Un,Uo,Uq,Ur,Us,Ut,Uu,Uv,Uw,Ux,Uy,Uz,U0,U1,U3,U4,U5,U6,U7,U8,U9,Ka,Kb,Kc,Kd,Ke,Kf,Kg,Kh,Ki,Kj,Kk,Kl,Km,Kn,Ko,Kq,Kr,Ks,Kt,Ga,K8,Kz]
                 tactic =>
                  try simp only [K2] at *
                  try simp only [nc2] at *
                  try simp (maxSteps := 4000000) only [hlb,hnb,hib,q1,t1,t2,hbi,Gg]
                  repeat' (first | with_reducible assumption | with_reducible refine And.intro ?_ ?_ | intro _ | omega | (rw [Ku]; omega))
                  all_goals first
                    | (with_reducible refine K9 ?_; kernel_rfl)
                    | contradiction
                    | omega
                    | exact ⟨i + 1, by simp only [hU2e, hd2, hU2]; ((try simp only [Kv, Ky, Kx, K4, upd, K5, Gb, Gs, Nat.reduceDiv, Nat.reduceMod, Nat.reduceMul, Nat.reduceAdd, Nat.reduceEqDiff, List.set_cons_zero, List.set_cons_succ, if_true, if_false, reduceIte]); (first | refine Wk.of_fl ?_ | skip); simp only [Wk, wkK, Gy, wkT, wk1, AV.kept, keptAll, wkO, lk, Kw, and_true, true_and, and_self, Nat.reduceEqDiff, Nat.reduceLeDiff, if_true, if_false, reduceIte, reduceCtorEq, Option.isSome, false_implies]; try simp [Wk, wkK, wkT, wk1, AV.kept, keptAll, wkO, lk, Kw]), by omega, by omega⟩
                    | skip)
            · have hiF : i = F.length := by omega
              rw [← hiF] at hT2
              obtain ⟨U, hU⟩ : ∃ T, Cr F n i = T := ⟨_, rfl⟩
              rw [hU] at hT2 hUl ⊢
              have hU6 : U.length ≤ 1000000 := by omega
              cases hj2 : Fk U l with
              | true =>
                rw [hj2, cond_true] at hT2
                (sym =>
                 simp [hlb,hnb,hib,hj2,Py,P0,Pz,P1,Px,Pw,Mb.eq_def,Gt.eq_def,Nc.eq_def,G3.eq_def,Za,Zb,Zc,Ze,Zf,Zg,Zn,Zo,Zp,Zq,Zr,Zs,Zv,Zx,Zz,Z0,Z1,Z2,Z3,Z6,Z7,Z8,Z9,Qa,Qb,Qc,Qd,Qe,Qi,Qj,Qk,Ql,Qm,Qn,Qp,Qv,Qw,Qy,Q1,Q2,Q3,Q4,Q5,Q6,Q7,Q8,Q9,Ja,Jb,Jc,Jd,Je,Jl,Jp,Jq,Jr,Js,Jt,Ju,Jx,Jy,Jz,J0,J1,J2,J3,J4,J5,J6,J7,J8,J9,Xa,Xb,Xc,Xd,Xe,Xf,Xg,Xh,Xi,Xj,Xk,Xl,Xm,Xn,Xo,Xp,Xq,Xs,Xt,Xu,Xv,Xw,Xx,Xy,Xz,X0,X1,X2,X3,X4,X5,X6,X7,X8,X9,Wa,Wd,We,Wf,Wg,Wh,Wi,Wj,Wl,Wm,Wn,Wo,Wp,Wq,Wr,Ws,Wt,Wu,Wv,Ww,Wx,Wy,Wz,W0,W1,W2,W3,W4,W5,W6,W7,W8,Yb,Yc,Yd,Ye,Yf,Yg,Yh,Yi,Yj,Yk,Yl,Ym,Yn,Yo,Yp,Yq,Yr,Ys,Yt,Yu,Yv,Yw,Yx,Yy,Yz,Y0,Y1,Y2,Y3,Y4,Y5,Y6,Y7,Y8,Y9,Va,Vb,Vc,Vd,Ve,Vf,Vg,Vh,Vi,Vj,Vk,Vl,Vm,Vn,Vo,Vp,Vq,Vr,Vs,Vt,Vu,Vv,Vw,Vx,Vy,Vz,V0,V1,V3,V4,V5,V6,V7,V8,V9,Ua,Ub,Uc,Ud,Ue,Uf,Ul,Um,Un,Uo,Uq,Ur,Us,Ut,Uu,Uv,Uw,Ux,Uy,Uz,U0,U1,U3,U4,U5,U6,U7,U8,U9,Ka,Kb,Kc,Kd,Ke,Kf,Kg,Kh,Ki,Kj,Kk,Kl,Km,Kn,Ko,Kq,Kr,Ks,Kt,Ga,K8,Kz]
                 tactic =>
                  try simp only [K2] at *
                  try simp only [nc2] at *
                  try simp (maxSteps := 4000000) only [hlb,hnb,hib,hj2,Gg]
                  repeat' (first | with_reducible assumption | with_reducible refine And.intro ?_ ?_ | intro _ | omega | (rw [Ku]; omega))
                  all_goals first
                    | (with_reducible refine K9 ?_; kernel_rfl)
                    | exact hRw'
                    | omega
                    | exact ⟨n + 1, by simp only [hT2e, hT2]; ((try simp only [Kv, Ky, Kx, K4, upd, K5, Gb, Gs, Nat.reduceDiv, Nat.reduceMod, Nat.reduceMul, Nat.reduceAdd, Nat.reduceEqDiff, List.set_cons_zero, List.set_cons_succ, if_true, if_false, reduceIte]); (first | refine Wk.of_fl ?_ | skip); simp only [Wk, wkK, Gy, wkT, wk1, AV.kept, keptAll, wkO, lk, Kw, and_true, true_and, and_self, Nat.reduceEqDiff, Nat.reduceLeDiff, if_true, if_false, reduceIte, reduceCtorEq, Option.isSome, false_implies]; try simp [Wk, wkK, wkT, wk1, AV.kept, keptAll, wkO, lk, Kw, List.map_append, List.length_append]); rfl, by omega, by omega⟩
                    | skip)
              | false =>
                rw [hj2, cond_false, List.append_nil] at hT2
                (sym =>
                 simp [hlb,hnb,hib,hj2,Py,P0,Pz,P1,Px,Pw,Mb.eq_def,Gt.eq_def,Nc.eq_def,G3.eq_def,Za,Zb,Zc,Ze,Zf,Zg,Zn,Zo,Zp,Zq,Zr,Zs,Zv,Zx,Zz,Z0,Z1,Z2,Z3,Z6,Z7,Z8,Z9,Qa,Qb,Qc,Qd,Qe,Qi,Qj,Qk,Ql,Qm,Qn,Qp,Qv,Qw,Qy,Q1,Q2,Q3,Q4,Q5,Q6,Q7,Q8,Q9,Ja,Jb,Jc,Jd,Je,Jl,Jp,Jq,Jr,Js,Jt,Ju,Jx,Jy,Jz,J0,J1,J2,J3,J4,J5,J6,J7,J8,J9,Xa,Xb,Xc,Xd,Xe,Xf,Xg,Xh,Xi,Xj,Xk,Xl,Xm,Xn,Xo,Xp,Xq,Xs,Xt,Xu,Xv,Xw,Xx,Xy,Xz,X0,X1,X2,X3,X4,X5,X6,X7,X8,X9,Wa,Wd,We,Wf,Wg,Wh,Wi,Wj,Wl,Wm,Wn,Wo,Wp,Wq,Wr,Ws,Wt,Wu,Wv,Ww,Wx,Wy,Wz,W0,W1,W2,W3,W4,W5,W6,W7,W8,Yb,Yc,Yd,Ye,Yf,Yg,Yh,Yi,Yj,Yk,Yl,Ym,Yn,Yo,Yp,Yq,Yr,Ys,Yt,Yu,Yv,Yw,Yx,Yy,Yz,Y0,Y1,Y2,Y3,Y4,Y5,Y6,Y7,Y8,Y9,Va,Vb,Vc,Vd,Ve,Vf,Vg,Vh,Vi,Vj,Vk,Vl,Vm,Vn,Vo,Vp,Vq,Vr,Vs,Vt,Vu,Vv,Vw,Vx,Vy,Vz,V0,V1,V3,V4,V5,V6,V7,V8,V9,Ua,Ub,Uc,Ud,Ue,Uf,Ul,Um,Un,Uo,Uq,Ur,Us,Ut,Uu,Uv,Uw,Ux,Uy,Uz,U0,U1,U3,U4,U5,U6,U7,U8,U9,Ka,Kb,Kc,Kd,Ke,Kf,Kg,Kh,Ki,Kj,Kk,Kl,Km,Kn,Ko,Kq,Kr,Ks,Kt,Ga,K8,Kz]
                 tactic =>
                  try simp only [K2] at *
                  try simp only [nc2] at *
                  try simp (maxSteps := 4000000) only [hlb,hnb,hib,hj2,Gg]
                  repeat' (first | with_reducible assumption | with_reducible refine And.intro ?_ ?_ | intro _ | omega | (rw [Ku]; omega))
                  all_goals first
                    | (with_reducible refine K9 ?_; kernel_rfl)
                    | exact hRw'
                    | omega
                    | exact ⟨n + 1, by simp only [hT2e, hT2]; ((try simp only [Kv, Ky, Kx, K4, upd, K5, Gb, Gs, Nat.reduceDiv, Nat.reduceMod, Nat.reduceMul, Nat.reduceAdd, Nat.reduceEqDiff, List.set_cons_zero, List.set_cons_succ, if_true, if_false, reduceIte]); (first | refine Wk.of_fl ?_ | skip); simp only [Wk, wkK, Gy, wkT, wk1, AV.kept, keptAll, wkO, lk, Kw, and_true, true_and, and_self, Nat.reduceEqDiff, Nat.reduceLeDiff, if_true, if_false, reduceIte, reduceCtorEq, Option.isSome, false_implies]; try simp [Wk, wkK, wkT, wk1, AV.kept, keptAll, wkO, lk, Kw]), by omega, by omega⟩
                    | skip))
        · have hnP : n = p := by omega
          subst hnP
          have hRT : Rs6 (Bc F l n) := ⟨by omega, subU_rs F l (by omega) n⟩
          obtain ⟨T, hT⟩ : ∃ T, Bc F l n = T := ⟨_, rfl⟩
          rw [hT] at hRT hR2 hTl ⊢
          cases hm : ltB (maxI limit 0) (T.length : Int) with
          | true =>
            rw [hm, cond_true] at hR2
            subst hR2
            (sym =>
             simp [hlb,hnb,hm,hR,Py,P0,Pz,P1,Px,Pw,Mb.eq_def,Gt.eq_def,Nc.eq_def,G3.eq_def,Za,Zb,Zc,Ze,Zf,Zg,Zn,Zo,Zp,Zq,Zr,Zs,Zv,Zx,Zz,Z0,Z1,Z2,Z3,Z6,Z7,Z8,Z9,Qa,Qb,Qc,Qd,Qe,Qi,Qj,Qk,Ql,Qm,Qn,Qp,Qv,Qw,Qy,Q1,Q2,Q3,Q4,Q5,Q6,Q7,Q8,Q9,Ja,Jb,Jc,Jd,Je,Jl,Jp,Jq,Jr,Js,Jt,Ju,Jx,Jy,Jz,J0,J1,J2,J3,J4,J5,J6,J7,J8,J9,Xa,Xb,Xc,Xd,Xe,Xf,Xg,Xh,Xi,Xj,Xk,Xl,Xm,Xn,Xo,Xp,Xq,Xs,Xt,Xu,Xv,Xw,Xx,Xy,Xz,X0,X1,X2,X3,X4,X5,X6,X7,X8,X9,Wa,Wd,We,Wf,Wg,Wh,Wi,Wj,Wl,Wm,Wn,Wo,Wp,Wq,Wr,Ws,Wt,Wu,Wv,Ww,Wx,Wy,Wz,W0,W1,W2,W3,W4,W5,W6,W7,W8,Yb,Yc,Yd,Ye,Yf,Yg,Yh,Yi,Yj,Yk,Yl,Ym,Yn,Yo,Yp,Yq,Yr,Ys,Yt,Yu,Yv,Yw,Yx,Yy,Yz,Y0,Y1,Y2,Y3,Y4,Y5,Y6,Y7,Y8,Y9,Va,Vb,Vc,Vd,Ve,Vf,Vg,Vh,Vi,Vj,Vk,Vl,Vm,Vn,Vo,Vp,Vq,Vr,Vs,Vt,Vu,Vv,Vw,Vx,Vy,Vz,V0,V1,V3,V4,V5,V6,V7,V8,V9,Ua,Ub,Uc,Ud,Ue,Uf,Ul,Um,Un,Uo,Uq,Ur,Us,Ut,Uu,Uv,Uw,Ux,Uy,Uz,U0,U1,U3,U4,U5,U6,U7,U8,U9,Ka,Kb,Kc,Kd,Ke,Kf,Kg,Kh,Ki,Kj,Kk,Kl,Km,Kn,Ko,Kq,Kr,Ks,Kt,Ga,K8,Kz]
             tactic =>
              try simp only [K2] at *
              try simp only [nc2] at *
              try simp (maxSteps := 4000000) only [hlb,hnb,hm,hR,Gg]
              repeat' (first | with_reducible assumption | with_reducible refine And.intro ?_ ?_ | intro _ | omega | (rw [Ku]; omega))
              all_goals first
                | (with_reducible refine K9 ?_; kernel_rfl)
                | omega
                | rfl
                | skip)
          | false =>
            rw [hm, cond_false] at hR2
            subst hR2
            (sym =>
             simp [hlb,hnb,hm,hR,Py,P0,Pz,P1,Px,Pw,Mb.eq_def,Gt.eq_def,Nc.eq_def,G3.eq_def,Za,Zb,Zc,Ze,Zf,Zg,Zn,Zo,Zp,Zq,Zr,Zs,Zv,Zx,Zz,Z0,Z1,Z2,Z3,Z6,Z7,Z8,Z9,Qa,Qb,Qc,Qd,Qe,Qi,Qj,Qk,Ql,Qm,Qn,Qp,Qv,Qw,Qy,Q1,Q2,Q3,Q4,Q5,Q6,Q7,Q8,Q9,Ja,Jb,Jc,Jd,Je,Jl,Jp,Jq,Jr,Js,Jt,Ju,Jx,Jy,Jz,J0,J1,J2,J3,J4,J5,J6,J7,J8,J9,Xa,Xb,Xc,Xd,Xe,Xf,Xg,Xh,Xi,Xj,Xk,Xl,Xm,Xn,Xo,Xp,Xq,Xs,Xt,Xu,Xv,Xw,Xx,Xy,Xz,X0,X1,X2,X3,X4,X5,X6,X7,X8,X9,Wa,Wd,We,Wf,Wg,Wh,Wi,Wj,Wl,Wm,Wn,Wo,Wp,Wq,Wr,Ws,Wt,Wu,Wv,Ww,Wx,Wy,Wz,W0,W1,W2,W3,W4,W5,W6,W7,W8,Yb,Yc,Yd,Ye,Yf,Yg,Yh,Yi,Yj,Yk,Yl,Ym,Yn,Yo,Yp,Yq,Yr,Ys,Yt,Yu,Yv,Yw,Yx,Yy,Yz,Y0,Y1,Y2,Y3,Y4,Y5,Y6,Y7,Y8,Y9,Va,Vb,Vc,Vd,Ve,Vf,Vg,Vh,Vi,Vj,Vk,Vl,Vm,Vn,Vo,Vp,Vq,Vr,Vs,Vt,Vu,Vv,Vw,Vx,Vy,Vz,V0,V1,V3,V4,V5,V6,V7,V8,V9,Ua,Ub,Uc,Ud,Ue,Uf,Ul,Um,Un,Uo,Uq,Ur,Us,Ut,Uu,Uv,Uw,Ux,Uy,Uz,U0,U1,U3,U4,U5,U6,U7,U8,U9,Ka,Kb,Kc,Kd,Ke,Kf,Kg,Kh,Ki,Kj,Kk,Kl,Km,Kn,Ko,Kq,Kr,Ks,Kt,Ga,K8,Kz]
             tactic =>
              try simp only [K2] at *
              try simp only [nc2] at *
              try simp (maxSteps := 4000000) only [hlb,hnb,hm,hR,Gg]
              repeat' (first | with_reducible assumption | with_reducible refine And.intro ?_ ?_ | intro _ | omega | (rw [Ku]; omega))
              all_goals first
                | (with_reducible refine K9 ?_; kernel_rfl)
                | exact hRT
                | omega
                | rfl
                | skip)))
end Go.Am.Hit
set_option linter.unusedSimpArgs false
set_option linter.unusedVariables false
set_option maxHeartbeats 2000000
namespace Go.Am.Hit
open Go.Proofs
open Enc (enc dec)
def meetF : Nat → List Int → List Int → Bool
  | f + 1, x :: a, y :: b => cond (x == y) true (cond (ltB x y) (meetF f a (y :: b)) (meetF f (x :: a) b))
  | _, _, _ => false
def Cq (a b : List Int) : Bool := meetF (a.length + b.length) a b
theorem meetL_nil (b : List Int) : Cq [] b = false := by unfold Cq; cases [].length + b.length <;> rfl
theorem meetL_nil2 (a : List Int) : Cq a [] = false := by unfold Cq; cases a.length + [].length <;> cases a <;> rfl
theorem meetL_cons (x y : Int) (a b : List Int) : Cq (x :: a) (y :: b) = cond (x == y) true (cond (ltB x y) (Cq a (y :: b)) (Cq (x :: a) b)) := by
  unfold Cq
  rw [show (x :: a).length + (y :: b).length = (a.length + (y :: b).length) + 1 by simp; omega, meetF, show a.length + (y :: b).length = (x :: a).length + b.length by simp; omega]
def H3 : Con := L3 (fun (a b : Sl Int) => Lo a.l.length ∧ Lo b.l.length) (fun a b => Cq a.l b.l)
noncomputable def C5 : Ctx := ⟨tab, lkC [], 60, lkB [], [], false⟩
theorem Ty : C5.τ = tab := rfl
theorem T0 : C5.Γ = lkC [] := rfl
theorem Tz : C5.dp = 60 := rfl
theorem T1 : C5.Δ = lkB [] := rfl
theorem Tx : C5.cuts = [] := rfl
theorem Tw : C5.wr = false := rfl
set_option maxRecDepth 100000 in
theorem good_meetsH : Me Try.prog (29, H3) := by
  refine ⟨Gj Try.func29 (by kernel_rfl) rfl, ?_⟩
  have K : Hq Try.prog C5 := Gq H8 G4 (by simp) (by simp)
  obtain ⟨c, hc⟩ : ∃ c, Try.f29.body = some c := ⟨_, rfl⟩
  refine Gu K Try.func29 hc [.tmp 4] rfl 33 rfl (fun cvs hpre => ?_)
  change H3.pre cvs at hpre
  unfold H3 at hpre
  obtain ⟨⟨a⟩, ⟨b⟩, rfl, ha, hb⟩ := Hx hpre
  simp only at ha hb
  obtain ⟨R, hR⟩ : ∃ R, Cq a b = R := ⟨_, rfl⟩
  clear hpre
  simp only [Try.f29, Option.some.injEq] at hc
  subst hc
  refine Hy 2 (of_decide_eq_true (by kernel_rfl)) ?_
  (sym =>
   simp [hR,Ty,T0,Tz,T1,Tx,Tw,H3.eq_def,Za,Zb,Zc,Zd,Ze,Zf,Zg,Zh,Zi,Zj,Zk,Zl,Zm,Zn,Zo,Zp,Zq,Zr,Zs,Zt,Zv,Zx,Zy,Z2,Z8,Z9,Qa,Qe,Qg,Qi,Qj,Qk,Ql,Qm,Qn,Qo,Qp,Qv,Qw,Qy,Qz,Q0,Q1,Q3,Q8,Ja,Jb,Jc,Jd,Je,Jl,Jm,Jn,Jo,Jp,Jq,Jr,Js,Jt,Ju,Jv,Jw,Jx,Jy,Jz,J0,J1,J2,J3,J4,J5,J6,J7,J8,Xb,Xc,Xd,Xe,Xf,Xg,Xh,Xi,Xj,Xk,Xl,Xm,Xn,Xo,Xp,Xq,Xs,Xt,Xu,Xv,Xw,Xx,Xy,Xz,X0,X1,X2,X3,X4,X5,X6,X7,X8,X9,Wa,Wb,Wc,Wd,We,Wf,Wg,Wh,Wi,Wj,Wl,Wm,Wn,Wo,Wp,Wq,Wr,Ws,Wt,Wu,Wv,Ww,Wx,Wy,Wz,W0,W1,W2,W3,W4,W5,W6,W7,W8,W9,Ya,Yb,Yc,Yd,Ye,Yf,Yg,Yh,Yi,Yj,Yk,Yl,Ym,Yn,Yo,Yp,Yq,Yr,Ys,Yt,Yu,Yv,Yw,Yx,Yy,Yz,Y0,Y1,Y2,Y3,Y4,Y5,Y6,Y7,Y8,Y9,Va,Vb,Vc,Vd,Ve,Vf,Vg,Vh,Vi,Vj,Vk,Vl,Vm,Vn,Vo,Vp,Vq,Vr,Vs,Vt,Vu,Vv,Vw,Vx,Vy,Vz,V0,V1,V3,V4,V5,V6,V7,V8,V9,Ua,Ub,Uc,Ud,Ue,Uf,Ul,Um,Uq,Ur,Us,Ut,Uu,Uv,Uw,Ux,Uy,Uz,U0,U1,U3,U4,U5,U6,U7,U8,U9,Ka,Kb,Kc,Kd,Ke,Kf,Kg,Kh,Ki,Kj,Kk,Kl,Km,Kn,Ko,Kq,Kr,Ks,Kt,Ga,Kz]
   tactic =>
    try simp only [K2] at *
    try simp only [nc2] at *
    try simp (maxSteps := 4000000) only [hR,Gg]
    repeat' (first | with_reducible assumption | with_reducible refine And.intro ?_ ?_ | intro _ | omega | (rw [Ku]; omega))
    refine Gi [4, 5, 6, 7, 8, 9, 10, 11, 12, 13, 14, 15, 16, 17, 18, 19, 20, 21, 22, 23, 24, 25, 26, 27, 28, 29, 30, 31, 32] (fun q : List Int × List Int => [(0, .d (enc (Sl.mk q.1))), (1, .d (enc (Sl.mk q.2)))]) (fun q : List Int × List Int => []) (fun q : List Int × List Int => q.1.length ≤ 9223372036854775807 ∧ q.2.length ≤ 9223372036854775807 ∧ Cq q.1 q.2 = R) (fun q : List Int × List Int => q.1.length + q.2.length) (a, b) ?_ ?_ ?_
    · exact ⟨ha, hb, hR⟩
    · ((try simp only [Kv, Ky, Kx, K4, upd, K5, Gb, Gs, Nat.reduceDiv, Nat.reduceMod, Nat.reduceMul, Nat.reduceAdd, Nat.reduceEqDiff, List.set_cons_zero, List.set_cons_succ, if_true, if_false, reduceIte]); (first | refine Wk.of_fl ?_ | skip); simp only [Wk, wkK, Gy, wkT, wk1, AV.kept, keptAll, wkO, lk, Kw, and_true, true_and, and_self, Nat.reduceEqDiff, Nat.reduceLeDiff, if_true, if_false, reduceIte, reduceCtorEq, Option.isSome, false_implies]; try simp [Wk, wkK, wkT, wk1, AV.kept, keptAll, wkO, lk, Kw])
    rintro ⟨a, b⟩ ⟨ha, hb, hR⟩
    simp only at ha hb hR
    cases a with
    | nil =>
      rw [meetL_nil] at hR
      subst hR
      have z : ltB 0 0 = false := rfl
      (sym =>
       simp [z,Ty,T0,Tz,T1,Tx,Tw,H3.eq_def,Za,Zb,Zc,Zd,Ze,Zf,Zg,Zh,Zi,Zj,Zk,Zl,Zm,Zn,Zo,Zp,Zq,Zr,Zs,Zt,Zv,Zx,Zy,Z2,Z8,Z9,Qa,Qe,Qg,Qi,Qj,Qk,Ql,Qm,Qn,Qo,Qp,Qv,Qw,Qy,Qz,Q0,Q1,Q3,Q8,Ja,Jb,Jc,Jd,Je,Jl,Jm,Jn,Jo,Jp,Jq,Jr,Js,Jt,Ju,Jv,Jw,Jx,Jy,Jz,J0,J1,J2,J3,J4,J5,J6,J7,J8,Xb,Xc,Xd,Xe,Xf,Xg,Xh,Xi,Xj,Xk,Xl,Xm,Xn,Xo,Xp,Xq,Xs,Xt,Xu,Xv,Xw,Xx,Xy,Xz,X0,X1,X2,X3,X4,X5,X6,X7,X8,X9,Wa,Wb,Wc,Wd,We,Wf,Wg,Wh,Wi,Wj,Wl,Wm,Wn,Wo,Wp,Wq,Wr,Ws,Wt,Wu,Wv,Ww,Wx,Wy,Wz,W0,W1,W2,W3,W4,W5,W6,W7,W8,W9,Ya,Yb,Yc,Yd,Ye,Yf,Yg,Yh,Yi,Yj,Yk,Yl,Ym,Yn,Yo,Yp,Yq,Yr,Ys,Yt,Yu,Yv,Yw,Yx,Yy,Yz,Y0,Y1,Y2,Y3,Y4,Y5,Y6,Y7,Y8,Y9,Va,Vb,Vc,Vd,Ve,Vf,Vg,Vh,Vi,Vj,Vk,Vl,Vm,Vn,Vo,Vp,Vq,Vr,Vs,Vt,Vu,Vv,Vw,Vx,Vy,Vz,V0,V1,V3,V4,V5,V6,V7,V8,V9,Ua,Ub,Uc,Ud,Ue,Uf,Ul,Um,Uq,Ur,Us,Ut,Uu,Uv,Uw,Ux,Uy,Uz,U0,U1,U3,U4,U5,U6,U7,U8,U9,Ka,Kb,Kc,Kd,Ke,Kf,Kg,Kh,Ki,Kj,Kk,Kl,Km,Kn,Ko,Kq,Kr,Ks,Kt,Ga,Kz])
    | cons x a =>
      have z : ltB 0 ((a.length + 1 : Nat) : Int) = true := by rw [Nr]; omega
      cases b with
      | nil =>
        rw [meetL_nil2] at hR
        subst hR
        have z2 : ltB 0 0 = false := rfl
        (sym =>
         simp [z,z2,Ty,T0,Tz,T1,Tx,Tw,H3.eq_def,Za,Zb,Zc,Zd,Ze,Zf,Zg,Zh,Zi,Zj,Zk,Zl,Zm,Zn,Zo,Zp,Zq,Zr,Zs,Zt,Zv,Zx,Zy,Z2,Z8,Z9,Qa,Qe,Qg,Qi,Qj,Qk,Ql,Qm,Qn,Qo,Qp,Qv,Qw,Qy,Qz,Q0,Q1,Q3,Q8,Ja,Jb,Jc,Jd,Je,Jl,Jm,Jn,Jo,Jp,Jq,Jr,Js,Jt,Ju,Jv,Jw,Jx,Jy,Jz,J0,J1,J2,J3,J4,J5,J6,J7,J8,Xb,Xc,Xd,Xe,Xf,Xg,Xh,Xi,Xj,Xk,Xl,Xm,Xn,Xo,Xp,Xq,Xs,Xt,Xu,Xv,Xw,Xx,Xy,Xz,X0,X1,X2,X3,X4,X5,X6,X7,X8,X9,Wa,Wb,Wc,Wd,We,Wf,Wg,Wh,Wi,Wj,Wl,Wm,Wn,Wo,Wp,Wq,Wr,Ws,Wt,Wu,Wv,Ww,Wx,Wy,Wz,W0,W1,W2,W3,W4,W5,W6,W7,W8,W9,Ya,Yb,Yc,Yd,Ye,Yf,Yg,Yh,Yi,Yj,Yk,Yl,Ym,Yn,Yo,Yp,Yq,Yr,Ys,Yt,Yu,Yv,Yw,Yx,Yy,Yz,Y0,Y1,Y2,Y3,Y4,Y5,Y6,Y7,Y8,Y9,Va,Vb,Vc,Vd,Ve,Vf,Vg,Vh,Vi,Vj,Vk,Vl,Vm,Vn,Vo,Vp,Vq,Vr,Vs,Vt,Vu,Vv,Vw,Vx,Vy,Vz,V0,V1,V3,V4,V5,V6,V7,V8,V9,Ua,Ub,Uc,Ud,Ue,Uf,Ul,Um,Uq,Ur,Us,Ut,Uu,Uv,Uw,Ux,Uy,Uz,U0,U1,U3,U4,U5,U6,U7,U8,U9,Ka,Kb,Kc,Kd,Ke,Kf,Kg,Kh,Ki,Kj,Kk,Kl,Km,Kn,Ko,Kq,Kr,Ks,Kt,Ga,Kz])
      | cons y b =>
        have z2 : ltB 0 ((b.length + 1 : Nat) : Int) = true := by rw [Nr]; omega
        rw [meetL_cons] at hR
        have q1 : el ((x :: a).map enc) 0 = enc x := rfl
        have q2 : el ((y :: b).map enc) 0 = enc y := rfl
        have d1 : List.drop 1 ((x :: a).map (enc : Int → D)) = a.map enc := rfl
        have d2 : List.drop 1 ((y :: b).map (enc : Int → D)) = b.map enc := rfl
        have l1 : a.length ≤ 9223372036854775807 := by simp at ha; omega
        have l2 : b.length ≤ 9223372036854775807 := by simp at hb; omega
        cases hxy : (x == y) with
        | true =>
          rw [hxy, cond_true] at hR
          subst hR
          (sym =>
           simp [z,z2,q1,q2,hxy,Ty,T0,Tz,T1,Tx,Tw,H3.eq_def,Za,Zb,Zc,Zd,Ze,Zf,Zg,Zh,Zi,Zj,Zk,Zl,Zm,Zn,Zo,Zp,Zq,Zr,Zs,Zt,Zv,Zx,Zy,Z2,Z8,Z9,Qa,Qe,Qg,Qi,Qj,Qk,Ql,Qm,Qn,Qo,Qp,Qv,Qw,Qy,Qz,Q0,Q1,Q3,Q8,Ja,Jb,Jc,Jd,Je,Jl,Jm,Jn,Jo,Jp,Jq,Jr,Js,Jt,Ju,Jv,Jw,Jx,Jy,Jz,J0,J1,J2,J3,J4,J5,J6,J7,J8,Xb,Xc,Xd,Xe,Xf,Xg,Xh,Xi,Xj,Xk,Xl,Xm,Xn,Xo,Xp,Xq,Xs,Xt,Xu,Xv,Xw,Xx,Xy,Xz,X0,X1,X2,X3,X4,X5,X6,X7,X8,X9,Wa,Wb,Wc,Wd,We,Wf,Wg,Wh,Wi,Wj,Wl,Wm,Wn,Wo,Wp,Wq,Wr,Ws,Wt,Wu,Wv,Ww,Wx,Wy,Wz,W0,W1,W2,W3,W4,W5,W6,W7,W8,W9,Ya,Yb,Yc,Yd,Ye,Yf,Yg,Yh,Yi,Yj,Yk,Yl,Ym,Yn,Yo,Yp,Yq,Yr,Ys,Yt,Yu,Yv,Yw,Yx,Yy,Yz,Y0,Y1,Y2,Y3,Y4,Y5,Y6,Y7,Y8,Y9,Va,Vb,Vc,Vd,Ve,Vf,Vg,Vh,Vi,Vj,Vk,Vl,Vm,Vn,Vo,Vp,Vq,Vr,Vs,Vt,Vu,Vv,Vw,Vx,Vy,Vz,V0,V1,V3,V4,V5,V6,V7,V8,V9,Ua,Ub,Uc,Ud,Ue,Uf,Ul,Um,Uq,Ur,Us,Ut,Uu,Uv,Uw,Ux,Uy,Uz,U0,U1,U3,U4,U5,U6,U7,U8,U9,Ka,Kb,Kc,Kd,Ke,Kf,Kg,Kh,Ki,Kj,Kk,Kl,Km,Kn,Ko,Kq,Kr,Ks,Kt,Ga,Kz]
           tactic =>
            try simp only [K2] at *
            try simp only [nc2] at *
            try simp (maxSteps := 4000000) only [z,z2,q1,q2,hxy,Gg]
            repeat' (first | with_reducible assumption | with_reducible refine And.intro ?_ ?_ | intro _ | omega | (rw [Ku]; omega))
            all_goals first
              | (with_reducible refine K9 ?_; kernel_rfl)
              | omega
              | rfl
              | simp
              | skip)
        | false =>
          rw [hxy, cond_false] at hR
          cases hl : ltB x y with
          | true =>
            rw [hl, cond_true] at hR
            (sym =>
             simp [z,z2,q1,q2,hxy,hl,d1,Ty,T0,Tz,T1,Tx,Tw,H3.eq_def,Za,Zb,Zc,Zd,Ze,Zf,Zg,Zh,Zi,Zj,Zk,Zl,Zm,Zn,Zo,Zp,Zq,Zr,Zs,Zt,Zv,Zx,Zy,Z2,Z8,Z9,Qa,Qe,Qg,Qi,Qj,Qk,Ql,Qm,Qn,Qo,Qp,Qv,Qw,Qy,Qz,Q0,Q1,Q3,Q8,Ja,Jb,Jc,Jd,Je,Jl,Jm,Jn,Jo,Jp,Jq,Jr,Js,Jt,Ju,Jv,Jw,Jx,Jy,Jz,J0,J1,J2,J3,J4,J5,J6,J7,J8,Xb,Xc,Xd,Xe,Xf,Xg,Xh,Xi,Xj,Xk,Xl,Xm,Xn,Xo,Xp,Xq,Xs,Xt,Xu,Xv,Xw,Xx,Xy,Xz,X0,X1,X2,X3,X4,X5,X6,X7,X8,X9,Wa,Wb,Wc,Wd,We,Wf,Wg,Wh,Wi,Wj,Wl,Wm,Wn,Wo,Wp,Wq,Wr,Ws,Wt,Wu,Wv,Ww,Wx,Wy,Wz,W0,W1,W2,W3,W4,W5,W6,W7,W8,W9,Ya,Yb,Yc,Yd,Ye,Yf,Yg,Yh,Yi,Yj,Yk,Yl,Ym,Yn,Yo,Yp,Yq,Yr,Ys,Yt,Yu,Yv,Yw,Yx,Yy,Yz,Y0,Y1,Y2,Y3,Y4,Y5,Y6,Y7,Y8,Y9,Va,Vb,Vc,Vd,Ve,Vf,Vg,Vh,Vi,Vj,Vk,Vl,Vm,Vn,Vo,Vp,Vq,Vr,Vs,Vt,Vu,Vv,Vw,Vx,Vy,Vz,V0,V1,V3,V4,V5,V6,V7,V8,V9,Ua,Ub,Uc,Ud,Ue,Uf,Ul,Um,Uq,Ur,Us,Ut,Uu,Uv,Uw,Ux,Uy,Uz,U0,U1,U3,U4,U5,U6,U7,U8,U9,Ka,Kb,Kc,Kd,Ke,Kf,Kg,Kh,Ki,Kj,Kk,Kl,Km,Kn,Ko,Kq,Kr,Ks,Kt,Ga,Kz]
             tactic =>
              try simp only [K2] at *
              try simp only [nc2] at *
              try simp (maxSteps := 4000000) only [z,z2,q1,q2,hxy,hl,d1,Gg]
              repeat' (first | with_reducible assumption | with_reducible refine And.intro ?_ ?_ | intro _ | omega | (rw [Ku]; omega))
              all_goals first
                | (with_reducible refine K9 ?_; kernel_rfl)
                | omega
                | exact ⟨(a, y :: b), by ((try simp only [Kv, Ky, Kx, K4, upd, K5, Gb, Gs, Nat.reduceDiv, Nat.reduceMod, Nat.reduceMul, Nat.reduceAdd, Nat.reduceEqDiff, List.set_cons_zero, List.set_cons_succ, if_true, if_false, reduceIte]); (first | refine Wk.of_fl ?_ | skip); simp only [Wk, wkK, Gy, wkT, wk1, AV.kept, keptAll, wkO, lk, Kw, and_true, true_and, and_self, Nat.reduceEqDiff, Nat.reduceLeDiff, if_true, if_false, reduceIte, reduceCtorEq, Option.isSome, false_implies]; try simp [Wk, wkK, wkT, wk1, AV.kept, keptAll, wkO, lk, Kw]); rfl, l1, hb, hR, by simp⟩
                | simp
                | skip)
          | false =>
            rw [hl, cond_false] at hR
            (sym =>
             simp [z,z2,q1,q2,hxy,hl,d2,Ty,T0,Tz,T1,Tx,Tw,H3.eq_def,Za,Zb,Zc,Zd,Ze,Zf,Zg,Zh,Zi,Zj,Zk,Zl,Zm,Zn,Zo,Zp,Zq,Zr,Zs,Zt,Zv,Zx,Zy,Z2,Z8,Z9,Qa,Qe,Qg,Qi,Qj,Qk,Ql,Qm,Qn,Qo,Qp,Qv,Qw,Qy,Qz,Q0,Q1,Q3,Q8,Ja,Jb,Jc,Jd,Je,Jl,Jm,Jn,Jo,Jp,Jq,Jr,Js,Jt,Ju,Jv,Jw,Jx,Jy,Jz,J0,J1,J2,J3,J4,J5,J6,J7,J8,Xb,Xc,Xd,Xe,Xf,Xg,Xh,Xi,Xj,Xk,Xl,Xm,Xn,Xo,Xp,Xq,Xs,Xt,Xu,Xv,Xw,Xx,Xy,Xz,X0,X1,X2,X3,X4,X5,X6,X7,X8,X9,Wa,Wb,Wc,Wd,We,Wf,Wg,Wh,Wi,Wj,Wl,Wm,Wn,Wo,Wp,Wq,Wr,Ws,Wt,Wu,Wv,Ww,Wx,Wy,Wz,W0,W1,W2,W3,W4,W5,W6,W7,W8,W9,Ya,Yb,Yc,Yd,Ye,Yf,Yg,Yh,Yi,Yj,Yk,Yl,Ym,Yn,Yo,Yp,Yq,Yr,Ys,Yt,Yu,Yv,Yw,Yx,Yy,Yz,Y0,Y1,Y2,Y3,Y4,Y5,Y6,Y7,Y8,Y9,Va,Vb,Vc,Vd,Ve,Vf,Vg,Vh,Vi,Vj,Vk,Vl,Vm,Vn,Vo,Vp,Vq,Vr,Vs,Vt,Vu,Vv,Vw,Vx,Vy,Vz,V0,V1,V3,V4,V5,V6,V7,V8,V9,Ua,Ub,Uc,Ud,Ue,Uf,Ul,Um,Uq,Ur,Us,Ut,Uu,Uv,Uw,Ux,Uy,Uz,U0,U1,U3,U4,U5,U6,U7,U8,U9,Ka,Kb,Kc,Kd,Ke,Kf,Kg,Kh,Ki,Kj,Kk,Kl,Km,Kn,Ko,Kq,Kr,Ks,Kt,Ga,Kz]
             tactic =>
              try simp only [K2] at *
              try simp only [nc2] at *
              try simp (maxSteps := 4000000) only [z,z2,q1,q2,hxy,hl,d2,Gg]
              repeat' (first | with_reducible assumption | with_reducible refine And.intro ?_ ?_ | intro _ | omega | (rw [Ku]; omega))
              all_goals first
                | (with_reducible refine K9 ?_; kernel_rfl)
                | omega
                | exact ⟨(x :: a, b), by ((try simp only [Kv, Ky, Kx, K4, upd, K5, Gb, Gs, Nat.reduceDiv, Nat.reduceMod, Nat.reduceMul, Nat.reduceAdd, Nat.reduceEqDiff, List.set_cons_zero, List.set_cons_succ, if_true, if_false, reduceIte]); (first | refine Wk.of_fl ?_ | skip); simp only [Wk, wkK, Gy, wkT, wk1, AV.kept, keptAll, wkO, lk, Kw, and_true, true_and, and_self, Nat.reduceEqDiff, Nat.reduceLeDiff, if_true, if_false, reduceIte, reduceCtorEq, Option.isSome, false_implies]; try simp [Wk, wkK, wkT, wk1, AV.kept, keptAll, wkO, lk, Kw]); rfl, ha, l2, hR, by simp⟩
                | simp
                | skip))
end Go.Am.Hit
set_option linter.unusedSimpArgs false
set_option linter.unusedVariables false
set_option maxHeartbeats 2000000
namespace Go.Am.Hit
open Go.Proofs
open Enc (enc dec)
def Bx : Con := con1 (fun (_ : Int) => True) (fun _ => false)
noncomputable def Bt : Ctx := ⟨tab, lkC [], 60, lkB [], [], false⟩
theorem ctx_cmpIsNaNI_t : Bt.τ = tab := rfl
theorem ctx_cmpIsNaNI_c : Bt.Γ = lkC [] := rfl
theorem ctx_cmpIsNaNI_d : Bt.dp = 60 := rfl
theorem ctx_cmpIsNaNI_b : Bt.Δ = lkB [] := rfl
theorem ctx_cmpIsNaNI_u : Bt.cuts = [] := rfl
theorem ctx_cmpIsNaNI_w : Bt.wr = false := rfl
theorem good_cmpIsNaNI : Me Try.prog (74, Bx) := by
  refine ⟨Gj Try.func74 (by kernel_rfl) rfl, ?_⟩
  have K : Hq Try.prog Bt := Gq H8 G4 (by simp) (by simp)
  obtain ⟨c, hc⟩ : ∃ c, Try.f74.body = some c := ⟨_, rfl⟩
  refine Gu K Try.func74 hc [.tmp 2] rfl 6 rfl (fun cvs hpre => ?_)
  change Bx.pre cvs at hpre
  unfold Bx at hpre
  obtain ⟨x, rfl, -⟩ := Ct hpre
  have hx : (x != x) = false := bne_self_eq_false x
  simp only [Try.f74, Option.some.injEq] at hc
  subst hc
  (sym =>
   simp [hx,ctx_cmpIsNaNI_t,ctx_cmpIsNaNI_c,ctx_cmpIsNaNI_d,ctx_cmpIsNaNI_b,ctx_cmpIsNaNI_u,ctx_cmpIsNaNI_w,Bx.eq_def,Za,Zb,Zc,Ze,Zf,Zg,Zn,Zo,Zp,Zq,Zr,Zs,Zv,Z8,Z9,Qa,Qe,Qi,Qk,Ql,Qm,Qn,Qp,Qv,Qw,Qy,Q1,Q3,Q8,Ja,Jb,Jc,Jd,Je,Jl,Jq,Jr,Jx,Jy,Xb,Xc,Xd,Xe,Xf,Xg,Xh,Xi,Xj,Xk,Xl,Xm,Xn,Xq,Xs,Xt,Xu,Xv,Xw,Xx,Xy,Xz,X0,X1,X2,X3,X4,X5,X6,X8,X9,Wa,Wd,We,Wf,Wg,Wh,Wi,Wj,Wl,Wm,Wn,Wo,Wp,Wq,Wr,Ws,Wt,Wu,Wv,Ww,Wx,Wy,Wz,W0,W1,W2,W3,W4,W5,W6,W7,W8,Yf,Yg,Yh,Yi,Yj,Yk,Yl,Ym,Yn,Yo,Yp,Yq,Yr,Ys,Yt,Yu,Yv,Yw,Yx,Yy,Yz,Y0,Y1,Y2,Y3,Y4,Y5,Y6,Y7,Y8,Y9,Va,Vb,Vc,Vd,Ve,Vf,Vg,Vh,Vi,Vj,Vk,Vl,Vm,Vn,Vo,Vp,Vq,Vr,Vs,Vt,Vu,Vv,Vw,Vx,Vy,Vz,V0,V1,V3,V4,V5,V6,V7,V8,V9,Ua,Ub,Uc,Ud,Ue,Uf,Ul,Um,Uq,Ur,Us,Ut,Uu,Uv,Uw,Ux,Uy,Uz,U0,U1,U3,U4,U5,U6,U7,U8,U9,Ka,Kb,Kc,Kd,Ke,Kf,Kg,Kh,Ki,Kj,Kk,Kl,Km,Kn,Ko,Kq,Kr,Ks,Kt,Ga])
def Pk : Con := con1 (fun (_ : Int) => True) (fun _ => false)
noncomputable def C8 : Ctx := ⟨tab, lkC [], 60, lkB [], [], false⟩
theorem ctx_isNaNI_t : C8.τ = tab := rfl
theorem ctx_isNaNI_c : C8.Γ = lkC [] := rfl
theorem ctx_isNaNI_d : C8.dp = 60 := rfl
theorem ctx_isNaNI_b : C8.Δ = lkB [] := rfl
theorem ctx_isNaNI_u : C8.cuts = [] := rfl
theorem ctx_isNaNI_w : C8.wr = false := rfl
theorem good_isNaNI : Me Try.prog (60, Pk) := by
  refine ⟨Gj Try.func60 (by kernel_rfl) rfl, ?_⟩
  have K : Hq Try.prog C8 := Gq H8 G4 (by simp) (by simp)
  obtain ⟨c, hc⟩ : ∃ c, Try.f60.body = some c := ⟨_, rfl⟩
  refine Gu K Try.func60 hc [.tmp 2] rfl 6 rfl (fun cvs hpre => ?_)
  change Pk.pre cvs at hpre
  unfold Pk at hpre
  obtain ⟨x, rfl, -⟩ := Ct hpre
  have hx : (x != x) = false := bne_self_eq_false x
  simp only [Try.f60, Option.some.injEq] at hc
  subst hc
  (sym =>
   simp [hx,ctx_isNaNI_t,ctx_isNaNI_c,ctx_isNaNI_d,ctx_isNaNI_b,ctx_isNaNI_u,ctx_isNaNI_w,Pk.eq_def,Za,Zb,Zc,Ze,Zf,Zg,Zn,Zo,Zp,Zq,Zr,Zs,Zv,Z8,Z9,Qa,Qe,Qi,Qk,Ql,Qm,Qn,Qp,Qv,Qw,Qy,Q1,Q3,Q8,Ja,Jb,Jc,Jd,Je,Jl,Jq,Jr,Jx,Jy,Xb,Xc,Xd,Xe,Xf,Xg,Xh,Xi,Xj,Xk,Xl,Xm,Xn,Xq,Xs,Xt,Xu,Xv,Xw,Xx,Xy,Xz,X0,X1,X2,X3,X4,X5,X6,X8,X9,Wa,Wd,We,Wf,Wg,Wh,Wi,Wj,Wl,Wm,Wn,Wo,Wp,Wq,Wr,Ws,Wt,Wu,Wv,Ww,Wx,Wy,Wz,W0,W1,W2,W3,W4,W5,W6,W7,W8,Yf,Yg,Yh,Yi,Yj,Yk,Yl,Ym,Yn,Yo,Yp,Yq,Yr,Ys,Yt,Yu,Yv,Yw,Yx,Yy,Yz,Y0,Y1,Y2,Y3,Y4,Y5,Y6,Y7,Y8,Y9,Va,Vb,Vc,Vd,Ve,Vf,Vg,Vh,Vi,Vj,Vk,Vl,Vm,Vn,Vo,Vp,Vq,Vr,Vs,Vt,Vu,Vv,Vw,Vx,Vy,Vz,V0,V1,V3,V4,V5,V6,V7,V8,V9,Ua,Ub,Uc,Ud,Ue,Uf,Ul,Um,Uq,Ur,Us,Ut,Uu,Uv,Uw,Ux,Uy,Uz,U0,U1,U3,U4,U5,U6,U7,U8,U9,Ka,Kb,Kc,Kd,Ke,Kf,Kg,Kh,Ki,Kj,Kk,Kl,Km,Kn,Ko,Kq,Kr,Ks,Kt,Ga])
def cmpI (x y : Int) : Int := cond (ltB x y) (-1) (cond (ltB y x) 1 0)
def N8 : Con := L3 (fun (_ _ : Int) => True) (fun x y => ltB x y)
noncomputable def Lh : Ctx := ⟨tab, lkC [(74, Bx)], 60, lkB [], [], false⟩
theorem ctx_cmpLessI_t : Lh.τ = tab := rfl
theorem ctx_cmpLessI_c : Lh.Γ = lkC [(74, Bx)] := rfl
theorem ctx_cmpLessI_d : Lh.dp = 60 := rfl
theorem ctx_cmpLessI_b : Lh.Δ = lkB [] := rfl
theorem ctx_cmpLessI_u : Lh.cuts = [] := rfl
theorem ctx_cmpLessI_w : Lh.wr = false := rfl
theorem good_cmpLessI : Me Try.prog (59, N8) := by
  refine ⟨Gj Try.func59 (by kernel_rfl) rfl, ?_⟩
  have K : Hq Try.prog Lh := Gq H8 G4 (by
    intro p hp
    simp only [List.mem_cons, List.not_mem_nil, or_false] at hp
    rcases hp with rfl
    · exact good_cmpIsNaNI) (by simp)
  obtain ⟨c, hc⟩ : ∃ c, Try.f59.body = some c := ⟨_, rfl⟩
  refine Gu K Try.func59 hc [.tmp 4] rfl 17 rfl (fun cvs hpre => ?_)
  change N8.pre cvs at hpre
  unfold N8 at hpre
  obtain ⟨x, y, rfl, -⟩ := Hx hpre
  clear hpre
  obtain ⟨r, hr⟩ : ∃ r, ltB x y = r := ⟨_, rfl⟩
  simp only [Try.f59, Option.some.injEq] at hc
  subst hc
  (sym =>
   simp [hr,ctx_cmpLessI_t,ctx_cmpLessI_c,ctx_cmpLessI_d,ctx_cmpLessI_b,ctx_cmpLessI_u,ctx_cmpLessI_w,Bx.eq_def,N8.eq_def,Za,Zb,Zc,Zd,Ze,Zf,Zg,Zn,Zo,Zp,Zq,Zr,Zs,Zt,Zv,Z6,Z7,Z8,Z9,Qa,Qb,Qc,Qd,Qe,Qi,Qk,Ql,Qm,Qn,Qp,Qv,Qw,Qy,Q1,Q2,Q3,Q8,Ja,Jb,Jc,Jd,Je,Jl,Jq,Jr,Jx,Jy,Xb,Xc,Xd,Xe,Xf,Xg,Xh,Xi,Xj,Xk,Xl,Xm,Xn,Xq,Xs,Xt,Xu,Xv,Xw,Xx,Xy,Xz,X0,X1,X2,X3,X4,X5,X6,X8,X9,Wa,Wd,We,Wf,Wg,Wh,Wi,Wj,Wl,Wm,Wn,Wo,Wp,Wq,Wr,Ws,Wt,Wu,Wv,Ww,Wx,Wy,Wz,W0,W1,W2,W3,W4,W5,W6,W7,W8,Yf,Yg,Yh,Yi,Yj,Yk,Yl,Ym,Yn,Yo,Yp,Yq,Yr,Ys,Yt,Yu,Yv,Yw,Yx,Yy,Yz,Y0,Y1,Y2,Y3,Y4,Y5,Y6,Y7,Y8,Y9,Va,Vb,Vc,Vd,Ve,Vf,Vg,Vh,Vi,Vj,Vk,Vl,Vm,Vn,Vo,Vp,Vq,Vr,Vs,Vt,Vu,Vv,Vw,Vx,Vy,Vz,V0,V1,V3,V4,V5,V6,V7,V8,V9,Ua,Ub,Uc,Ud,Ue,Uf,Ul,Um,Uq,Ur,Us,Ut,Uu,Uv,Uw,Ux,Uy,Uz,U0,U1,U3,U4,U5,U6,U7,U8,U9,Ka,Kb,Kc,Kd,Ke,Kf,Kg,Kh,Ki,Kj,Kk,Kl,Km,Kn,Ko,Kq,Kr,Ks,Kt,Ga,G5])
def idxB (l : List Int) (n : Int) : Int := cond (inB l n) ((l.findIdx fun x => x == n : Nat) : Int) (-1)
def Bw : Con := L3 (fun (l : Sl Int) (_ : Int) => Lo l.l.length) (fun l n => idxB l.l n)
noncomputable def C9 : Ctx := ⟨tab, lkC [], 60, lkB [], [], false⟩
theorem F6 : C9.τ = tab := rfl
theorem F8 : C9.Γ = lkC [] := rfl
theorem F7 : C9.dp = 60 := rfl
theorem F9 : C9.Δ = lkB [] := rfl
theorem F5 : C9.cuts = [] := rfl
theorem F4 : C9.wr = false := rfl
theorem good_indexS : Me Try.prog (58, Bw) := by
  refine ⟨Gj Try.func58 (by kernel_rfl) rfl, ?_⟩
  have K : Hq Try.prog C9 := Gq H8 G4 (by simp) (by simp)
  obtain ⟨c, hc⟩ : ∃ c, Try.f58.body = some c := ⟨_, rfl⟩
  refine Gu K Try.func58 hc [.tmp 4] rfl 19 rfl (fun cvs hpre => ?_)
  change Bw.pre cvs at hpre
  unfold Bw at hpre
  obtain ⟨⟨l⟩, n, rfl, hl⟩ := Hx hpre
  simp only at hl
  clear hpre
  simp only [Try.f58, Option.some.injEq] at hc
  subst hc
  (sym =>
   simp [F6,F8,F7,F9,F5,F4,Bw.eq_def,Za,Zb,Zc,Ze,Zf,Zg,Zn,Zo,Zp,Zq,Zr,Zs,Zv,Zx,Z2,Z8,Z9,Qa,Qe,Qi,Qj,Qk,Ql,Qm,Qn,Qp,Qv,Qw,Qy,Q1,Q3,Q8,Ja,Jb,Jc,Jd,Je,Jl,Jq,Jr,Js,Jt,Ju,Jx,Jy,Xb,Xc,Xd,Xe,Xf,Xg,Xh,Xi,Xj,Xk,Xl,Xm,Xn,Xq,Xs,Xt,Xu,Xv,Xw,Xx,Xy,Xz,X0,X1,X2,X3,X4,X5,X6,X7,X8,X9,Wa,Wd,We,Wf,Wg,Wh,Wi,Wj,Wl,Wm,Wn,Wo,Wp,Wq,Wr,Ws,Wt,Wu,Wv,Ww,Wx,Wy,Wz,W0,W1,W2,W3,W4,W5,W6,W7,W8,Ye,Yf,Yg,Yh,Yi,Yj,Yk,Yl,Ym,Yn,Yo,Yp,Yq,Yr,Ys,Yt,Yu,Yv,Yw,Yx,Yy,Yz,Y0,Y1,Y2,Y3,Y4,Y5,Y6,Y7,Y8,Y9,Va,Vb,Vc,Vd,Ve,Vf,Vg,Vh,Vi,Vj,Vk,Vl,Vm,Vn,Vo,Vp,Vq,Vr,Vs,Vt,Vu,Vv,Vw,Vx,Vy,Vz,V0,V1,V3,V4,V5,V6,V7,V8,V9,Ua,Ub,Uc,Ud,Ue,Uf,Ul,Um,Uq,Ur,Us,Ut,Uu,Uv,Uw,Ux,Uy,Uz,U0,U1,U3,U4,U5,U6,U7,U8,U9,Ka,Kb,Kc,Kd,Ke,Kf,Kg,Kh,Ki,Kj,Kk,Kl,Km,Kn,Ko,Kq,Kr,Ks,Kt,Ga,Kz]
   tactic =>
    try simp only [K2] at *
    try simp only [nc2] at *
    try simp (maxSteps := 4000000) only [Gg]
    repeat' (first | with_reducible assumption | with_reducible refine And.intro ?_ ?_ | intro _ | omega | (rw [Ku]; omega))
    refine Gi [4, 5, 9, 10, 11, 12, 13, 14, 15, 16, 17, 18] (fun k : Nat => [(8, .d (.int .i64 k))]) (fun k : Nat => []) (fun k : Nat => k ≤ l.length ∧ ∀ j, j < k → l.getD j 0 ≠ n) (fun k : Nat => l.length - k) 0 ?_ ?_ ?_
    · simp
    · ((try simp only [Kv, Ky, Kx, K4, upd, K5, Gb, Gs, Nat.reduceDiv, Nat.reduceMod, Nat.reduceMul, Nat.reduceAdd, Nat.reduceEqDiff, List.set_cons_zero, List.set_cons_succ, if_true, if_false, reduceIte]); (first | refine Wk.of_fl ?_ | skip); simp only [Wk, wkK, Gy, wkT, wk1, AV.kept, keptAll, wkO, lk, Kw, and_true, true_and, and_self, Nat.reduceEqDiff, Nat.reduceLeDiff, if_true, if_false, reduceIte, reduceCtorEq, Option.isSome, false_implies]; try simp [Wk, wkK, wkT, wk1, AV.kept, keptAll, wkO, lk, Kw])
    rintro k ⟨hk, hno⟩
    rcases Gl k l.length with ⟨hlt, hlb⟩ | ⟨hlt, hlb⟩
    · have q1 := Hd (0 : Int) hlt
      have hst : l.getD k 0 ≠ n → ∀ j, j < k + 1 → l.getD j 0 ≠ n := fun h => upTo hno h
      have hit : (l.getD k 0 == n) = true → idxB l n = (k : Int) := fun h => by
        unfold idxB
        rw [show inB l n = true from any_at 0 k hlt h, cond_true]
        congr 1
        rw [List.findIdx_eq hlt]
        refine ⟨by simpa [hlt] using h, fun j hj => ?_⟩
        have := hno j hj
        simpa [show j < l.length by omega] using this
      obtain ⟨x, hx⟩ : ∃ x, l.getD k 0 = x := ⟨_, rfl⟩
      rw [hx] at q1 hst hit
      cases hb : (n == x) with
      | true =>
        have hr := hit (by rw [beq_iff_eq] at hb ⊢; omega)
        (sym =>
         simp [hlb,q1,hb,hr,F6,F8,F7,F9,F5,F4,Bw.eq_def,Za,Zb,Zc,Ze,Zf,Zg,Zn,Zo,Zp,Zq,Zr,Zs,Zv,Zx,Z2,Z8,Z9,Qa,Qe,Qi,Qj,Qk,Ql,Qm,Qn,Qp,Qv,Qw,Qy,Q1,Q3,Q8,Ja,Jb,Jc,Jd,Je,Jl,Jq,Jr,Js,Jt,Ju,Jx,Jy,Xb,Xc,Xd,Xe,Xf,Xg,Xh,Xi,Xj,Xk,Xl,Xm,Xn,Xq,Xs,Xt,Xu,Xv,Xw,Xx,Xy,Xz,X0,X1,X2,X3,X4,X5,X6,X7,X8,X9,Wa,Wd,We,Wf,Wg,Wh,Wi,Wj,Wl,Wm,Wn,Wo,Wp,Wq,Wr,Ws,Wt,Wu,Wv,Ww,Wx,Wy,Wz,W0,W1,W2,W3,W4,W5,W6,W7,W8,Ye,Yf,Yg,Yh,Yi,Yj,Yk,Yl,Ym,Yn,Yo,Yp,Yq,Yr,Ys,Yt,Yu,Yv,Yw,Yx,Yy,Yz,Y0,Y1,Y2,Y3,Y4,Y5,Y6,Y7,Y8,Y9,Va,Vb,Vc,Vd,Ve,Vf,Vg,Vh,Vi,Vj,Vk,Vl,Vm,Vn,Vo,Vp,Vq,Vr,Vs,Vt,Vu,Vv,Vw,Vx,Vy,Vz,V0,V1,V3,V4,V5,V6,V7,V8,V9,Ua,Ub,Uc,Ud,Ue,Uf,Ul,Um,Uq,Ur,Us,Ut,Uu,Uv,Uw,Ux,Uy,Uz,U0,U1,U3,U4,U5,U6,U7,U8,U9,Ka,Kb,Kc,Kd,Ke,Kf,Kg,Kh,Ki,Kj,Kk,Kl,Km,Kn,Ko,Kq,Kr,Ks,Kt,Ga,Kz]
         tactic =>
          try simp only [K2] at *
          try simp only [nc2] at *
          try simp (maxSteps := 4000000) only [hlb,q1,hb,hr,Gg]
          repeat' (first | with_reducible assumption | with_reducible refine And.intro ?_ ?_ | intro _ | omega | (rw [Ku]; omega))
          all_goals first
            | (with_reducible refine K9 ?_; kernel_rfl)
            | omega
            | rfl
            | skip)
      | false =>
        have h2 := hst (by rw [beq_eq_false_iff_ne] at hb; omega)
        (sym =>
         simp [hlb,q1,hb,F6,F8,F7,F9,F5,F4,Bw.eq_def,Za,Zb,Zc,Ze,Zf,Zg,Zn,Zo,Zp,Zq,Zr,Zs,Zv,Zx,Z2,Z8,Z9,Qa,Qe,Qi,Qj,Qk,Ql,Qm,Qn,Qp,Qv,Qw,Qy,Q1,Q3,Q8,Ja,Jb,Jc,Jd,Je,Jl,Jq,Jr,Js,Jt,Ju,Jx,Jy,Xb,Xc,Xd,Xe,Xf,Xg,Xh,Xi,Xj,Xk,Xl,Xm,Xn,Xq,Xs,Xt,Xu,Xv,Xw,Xx,Xy,Xz,X0,X1,X2,X3,X4,X5,X6,X7,X8,X9,Wa,Wd,We,Wf,Wg,Wh,Wi,Wj,Wl,Wm,Wn,Wo,Wp,Wq,Wr,Ws,Wt,Wu,Wv,Ww,Wx,Wy,Wz,W0,W1,W2,W3,W4,W5,W6,W7,W8,Ye,Yf,Yg,Yh,Yi,Yj,Yk,Yl,Ym,Yn,Yo,Yp,Yq,Yr,Ys,Yt,Yu,Yv,Yw,Yx,Yy,Yz,Y0,Y1,Y2,Y3,Y4,Y5,Y6,Y7,Y8,Y9,Va,Vb,Vc,Vd,Ve,Vf,Vg,Vh,Vi,Vj,Vk,Vl,Vm,Vn,Vo,Vp,Vq,Vr,Vs,Vt,Vu,Vv,Vw,Vx,Vy,Vz,V0,V1,V3,V4,V5,V6,V7,V8,V9,Ua,Ub,Uc,Ud,Ue,Uf,Ul,Um,Uq,Ur,Us,Ut,Uu,Uv,Uw,Ux,Uy,Uz,U0,U1,U3,U4,U5,U6,U7,U8,U9,Ka,Kb,Kc,Kd,Ke,Kf,Kg,Kh,Ki,Kj,Kk,Kl,Km,Kn,Ko,Kq,Kr,Ks,Kt,Ga,Kz]
         tactic =>
          try simp only [K2] at *
          try simp only [nc2] at *
          try simp (maxSteps := 4000000) only [hlb,q1,hb,Gg]
          repeat' (first | with_reducible assumption | with_reducible refine And.intro ?_ ?_ | intro _ | omega | (rw [Ku]; omega))
          all_goals first
            | (with_reducible refine K9 ?_; kernel_rfl)
            | omega
            | exact ⟨k + 1, by ((try simp only [Kv, Ky, Kx, K4, upd, K5, Gb, Gs, Nat.reduceDiv, Nat.reduceMod, Nat.reduceMul, Nat.reduceAdd, Nat.reduceEqDiff, List.set_cons_zero, List.set_cons_succ, if_true, if_false, reduceIte]); (first | refine Wk.of_fl ?_ | skip); simp only [Wk, wkK, Gy, wkT, wk1, AV.kept, keptAll, wkO, lk, Kw, and_true, true_and, and_self, Nat.reduceEqDiff, Nat.reduceLeDiff, if_true, if_false, reduceIte, reduceCtorEq, Option.isSome, false_implies]; try simp [Wk, wkK, wkT, wk1, AV.kept, keptAll, wkO, lk, Kw]), by omega, h2, by omega⟩
            | skip)
    · have hr : idxB l n = -1 := by
        unfold idxB
        rw [show inB l n = false from any_not 0 fun j hj => beq_eq_false_iff_ne.2 (hno j (by omega))]
        rfl
      (sym =>
       simp [hlb,hr,F6,F8,F7,F9,F5,F4,Bw.eq_def,Za,Zb,Zc,Ze,Zf,Zg,Zn,Zo,Zp,Zq,Zr,Zs,Zv,Zx,Z2,Z8,Z9,Qa,Qe,Qi,Qj,Qk,Ql,Qm,Qn,Qp,Qv,Qw,Qy,Q1,Q3,Q8,Ja,Jb,Jc,Jd,Je,Jl,Jq,Jr,Js,Jt,Ju,Jx,Jy,Xb,Xc,Xd,Xe,Xf,Xg,Xh,Xi,Xj,Xk,Xl,Xm,Xn,Xq,Xs,Xt,Xu,Xv,Xw,Xx,Xy,Xz,X0,X1,X2,X3,X4,X5,X6,X7,X8,X9,Wa,Wd,We,Wf,Wg,Wh,Wi,Wj,Wl,Wm,Wn,Wo,Wp,Wq,Wr,Ws,Wt,Wu,Wv,Ww,Wx,Wy,Wz,W0,W1,W2,W3,W4,W5,W6,W7,W8,Ye,Yf,Yg,Yh,Yi,Yj,Yk,Yl,Ym,Yn,Yo,Yp,Yq,Yr,Ys,Yt,Yu,Yv,Yw,Yx,Yy,Yz,Y0,Y1,Y2,Y3,Y4,Y5,Y6,Y7,Y8,Y9,Va,Vb,Vc,Vd,Ve,Vf,Vg,Vh,Vi,Vj,Vk,Vl,Vm,Vn,Vo,Vp,Vq,Vr,Vs,Vt,Vu,Vv,Vw,Vx,Vy,Vz,V0,V1,V3,V4,V5,V6,V7,V8,V9,Ua,Ub,Uc,Ud,Ue,Uf,Ul,Um,Uq,Ur,Us,Ut,Uu,Uv,Uw,Ux,Uy,Uz,U0,U1,U3,U4,U5,U6,U7,U8,U9,Ka,Kb,Kc,Kd,Ke,Kf,Kg,Kh,Ki,Kj,Kk,Kl,Km,Kn,Ko,Kq,Kr,Ks,Kt,Ga,Kz]))
theorem idxB_leB (l : List Int) (n : Int) : leB 0 (idxB l n) = inB l n := by
  unfold idxB
  cases inB l n with
  | true => rw [cond_true, D5]; omega
  | false => rfl
def Nh : Con := L3 (fun (l : Sl Int) (_ : Int) => Lo l.l.length) (fun l n => inB l.l n)
noncomputable def Bs : Ctx := ⟨tab, lkC [(58, Bw)], 60, lkB [], [], false⟩
theorem ctx_containsS_t : Bs.τ = tab := rfl
theorem ctx_containsS_c : Bs.Γ = lkC [(58, Bw)] := rfl
theorem ctx_containsS_d : Bs.dp = 60 := rfl
theorem ctx_containsS_b : Bs.Δ = lkB [] := rfl
theorem ctx_containsS_u : Bs.cuts = [] := rfl
theorem ctx_containsS_w : Bs.wr = false := rfl
theorem good_containsS : Me Try.prog (48, Nh) := by
  refine ⟨Gj Try.func48 (by kernel_rfl) rfl, ?_⟩
  have K : Hq Try.prog Bs := Gq H8 G4 (by
    intro p hp
    simp only [List.mem_cons, List.not_mem_nil, or_false] at hp
    rcases hp with rfl
    · exact good_indexS) (by simp)
  obtain ⟨c, hc⟩ : ∃ c, Try.f48.body = some c := ⟨_, rfl⟩
  refine Gu K Try.func48 hc [.tmp 4] rfl 9 rfl (fun cvs hpre => ?_)
  change Nh.pre cvs at hpre
  unfold Nh at hpre
  obtain ⟨⟨l⟩, n, rfl, hl⟩ := Hx hpre
  simp only at hl
  clear hpre
  have hi := idxB_leB l n
  simp only [Try.f48, Option.some.injEq] at hc
  subst hc
  (sym =>
   simp [hi,ctx_containsS_t,ctx_containsS_c,ctx_containsS_d,ctx_containsS_b,ctx_containsS_u,ctx_containsS_w,Nh.eq_def,Bw.eq_def,Za,Zb,Zc,Ze,Zf,Zg,Zn,Zo,Zp,Zq,Zr,Zs,Zv,Z6,Z7,Z8,Z9,Qa,Qb,Qc,Qd,Qe,Qi,Qk,Ql,Qm,Qn,Qp,Qv,Qw,Qy,Q1,Q2,Q3,Q8,Ja,Jb,Jc,Jd,Je,Jl,Jq,Jr,Jx,Jy,Xb,Xc,Xd,Xe,Xf,Xg,Xh,Xi,Xj,Xk,Xl,Xm,Xn,Xq,Xs,Xt,Xu,Xv,Xw,Xx,Xy,Xz,X0,X1,X2,X3,X4,X5,X6,X8,X9,Wa,Wd,We,Wf,Wg,Wh,Wi,Wj,Wl,Wm,Wn,Wo,Wp,Wq,Wr,Ws,Wt,Wu,Wv,Ww,Wx,Wy,Wz,W0,W1,W2,W3,W4,W5,W6,W7,W8,Yf,Yg,Yh,Yi,Yj,Yk,Yl,Ym,Yn,Yo,Yp,Yq,Yr,Ys,Yt,Yu,Yv,Yw,Yx,Yy,Yz,Y0,Y1,Y2,Y3,Y4,Y5,Y6,Y7,Y8,Y9,Va,Vb,Vc,Vd,Ve,Vf,Vg,Vh,Vi,Vj,Vk,Vl,Vm,Vn,Vo,Vp,Vq,Vr,Vs,Vt,Vu,Vv,Vw,Vx,Vy,Vz,V0,V1,V3,V4,V5,V6,V7,V8,V9,Ua,Ub,Uc,Ud,Ue,Uf,Ul,Um,Uq,Ur,Us,Ut,Uu,Uv,Uw,Ux,Uy,Uz,U0,U1,U3,U4,U5,U6,U7,U8,U9,Ka,Kb,Kc,Kd,Ke,Kf,Kg,Kh,Ki,Kj,Kk,Kl,Km,Kn,Ko,Kq,Kr,Ks,Kt,Ga,Kz]
   tactic =>
    try simp only [K2] at *
    try simp only [nc2] at *
    try simp (maxSteps := 4000000) only [hi,Gg]
    repeat' (first | with_reducible assumption | with_reducible refine And.intro ?_ ?_ | intro _ | omega | (rw [Ku]; omega))
    all_goals first
      | rfl
      | skip)
end Go.Am.Hit
set_option linter.unusedSimpArgs false
set_option linter.unusedVariables false
set_option maxHeartbeats 2000000
namespace Go.Am.Hit
open Go.Proofs
open Enc (enc dec)
def Np : Con := L3 (fun (a b : Sl Int) => Lo a.l.length ∧ Lo b.l.length) (fun a b => a.l == b.l)
noncomputable def Da : Ctx := ⟨tab, lkC [], 60, lkB [], [], false⟩
theorem Eh : Da.τ = tab := rfl
theorem Ej : Da.Γ = lkC [] := rfl
theorem Ei : Da.dp = 60 := rfl
theorem Ek : Da.Δ = lkB [] := rfl
theorem Eg : Da.cuts = [] := rfl
theorem Ef : Da.wr = false := rfl
theorem good_equalS : Me Try.prog (46, Np) := by
  refine ⟨Gj Try.func46 (by kernel_rfl) rfl, ?_⟩
  have K : Hq Try.prog Da := Gq H8 G4 (by simp) (by simp)
  obtain ⟨c, hc⟩ : ∃ c, Try.f46.body = some c := ⟨_, rfl⟩
  refine Gu K Try.func46 hc [.tmp 4] rfl 26 rfl (fun cvs hpre => ?_)
  change Np.pre cvs at hpre
  unfold Np at hpre
  obtain ⟨⟨a⟩, ⟨b⟩, rfl, ha, hb⟩ := Hx hpre
  simp only at ha hb
  clear hpre
  by_cases hlen : a.length = b.length
  case neg =>
    have hne : ((a.length : Int) != (b.length : Int)) = true := by rw [bne_iff_ne]; omega
    have hr : (a == b) = false := by rw [beq_eq_false_iff_ne]; intro e; exact hlen (by rw [e])
    simp only [Try.f46, Option.some.injEq] at hc
    subst hc
    (sym =>
     simp [hne,hr,Eh,Ej,Ei,Ek,Eg,Ef,Np.eq_def,Za,Zb,Zc,Ze,Zf,Zg,Zh,Zi,Zj,Zk,Zl,Zm,Zn,Zo,Zp,Zq,Zr,Zs,Zv,Zx,Z2,Z8,Z9,Qa,Qe,Qi,Qj,Qk,Ql,Qm,Qn,Qo,Qp,Qv,Qw,Qy,Qz,Q0,Q1,Q3,Q8,Ja,Jb,Jc,Jd,Je,Jl,Jq,Jr,Js,Jt,Ju,Jx,Jy,Xb,Xc,Xd,Xe,Xf,Xg,Xh,Xi,Xj,Xk,Xl,Xm,Xn,Xq,Xs,Xt,Xu,Xv,Xw,Xx,Xy,Xz,X0,X1,X2,X3,X4,X5,X6,X7,X8,X9,Wa,Wb,Wc,Wd,We,Wf,Wg,Wh,Wi,Wj,Wl,Wm,Wn,Wo,Wp,Wq,Wr,Ws,Wt,Wu,Wv,Ww,Wx,Wy,Wz,W0,W1,W2,W3,W4,W5,W6,W7,W8,Ye,Yf,Yg,Yh,Yi,Yj,Yk,Yl,Ym,Yn,Yo,Yp,Yq,Yr,Ys,Yt,Yu,Yv,Yw,Yx,Yy,Yz,Y0,Y1,Y2,Y3,Y4,Y5,Y6,Y7,Y8,Y9,Va,Vb,Vc,Vd,Ve,Vf,Vg,Vh,Vi,Vj,Vk,Vl,Vm,Vn,Vo,Vp,Vq,Vr,Vs,Vt,Vu,Vv,Vw,Vx,Vy,Vz,V0,V1,V3,V4,V5,V6,V7,V8,V9,Ua,Ub,Uc,Ud,Ue,Uf,Ul,Um,Uq,Ur,Us,Ut,Uu,Uv,Uw,Ux,Uy,Uz,U0,U1,U3,U4,U5,U6,U7,U8,U9,Ka,Kb,Kc,Kd,Ke,Kf,Kg,Kh,Ki,Kj,Kk,Kl,Km,Kn,Ko,Kq,Kr,Ks,Kt,Ga,Kz])
  have hne : ((a.length : Int) != (b.length : Int)) = false := by rw [hlen, bne_self_eq_false]
  obtain ⟨R, hR⟩ : ∃ R, (a == b) = R := ⟨_, rfl⟩
  simp only [Try.f46, Option.some.injEq] at hc
  subst hc
  (sym =>
   simp [hne,hR,Eh,Ej,Ei,Ek,Eg,Ef,Np.eq_def,Za,Zb,Zc,Ze,Zf,Zg,Zh,Zi,Zj,Zk,Zl,Zm,Zn,Zo,Zp,Zq,Zr,Zs,Zv,Zx,Z2,Z8,Z9,Qa,Qe,Qi,Qj,Qk,Ql,Qm,Qn,Qo,Qp,Qv,Qw,Qy,Qz,Q0,Q1,Q3,Q8,Ja,Jb,Jc,Jd,Je,Jl,Jq,Jr,Js,Jt,Ju,Jx,Jy,Xb,Xc,Xd,Xe,Xf,Xg,Xh,Xi,Xj,Xk,Xl,Xm,Xn,Xq,Xs,Xt,Xu,Xv,Xw,Xx,Xy,Xz,X0,X1,X2,X3,X4,X5,X6,X7,X8,X9,Wa,Wb,Wc,Wd,We,Wf,Wg,Wh,Wi,Wj,Wl,Wm,Wn,Wo,Wp,Wq,Wr,Ws,Wt,Wu,Wv,Ww,Wx,Wy,Wz,W0,W1,W2,W3,W4,W5,W6,W7,W8,Ye,Yf,Yg,Yh,Yi,Yj,Yk,Yl,Ym,Yn,Yo,Yp,Yq,Yr,Ys,Yt,Yu,Yv,Yw,Yx,Yy,Yz,Y0,Y1,Y2,Y3,Y4,Y5,Y6,Y7,Y8,Y9,Va,Vb,Vc,Vd,Ve,Vf,Vg,Vh,Vi,Vj,Vk,Vl,Vm,Vn,Vo,Vp,Vq,Vr,Vs,Vt,Vu,Vv,Vw,Vx,Vy,Vz,V0,V1,V3,V4,V5,V6,V7,V8,V9,Ua,Ub,Uc,Ud,Ue,Uf,Ul,Um,Uq,Ur,Us,Ut,Uu,Uv,Uw,Ux,Uy,Uz,U0,U1,U3,U4,U5,U6,U7,U8,U9,Ka,Kb,Kc,Kd,Ke,Kf,Kg,Kh,Ki,Kj,Kk,Kl,Km,Kn,Ko,Kq,Kr,Ks,Kt,Ga,Kz]
   tactic =>
    try simp only [K2] at *
    try simp only [nc2] at *
    try simp (maxSteps := 4000000) only [hne,hR,Gg]
    repeat' (first | with_reducible assumption | with_reducible refine And.intro ?_ ?_ | intro _ | omega | (rw [Ku]; omega))
    refine Gi [4, 5, 14, 15, 16, 17, 18, 19, 20, 21, 22, 23, 24, 25] (fun k : Nat => [(13, .d (.int .i64 k))]) (fun k : Nat => []) (fun k : Nat => k ≤ a.length ∧ ∀ j, j < k → a.getD j 0 = b.getD j 0) (fun k : Nat => a.length - k) 0 ?_ ?_ ?_
    · simp
    · ((try simp only [Kv, Ky, Kx, K4, upd, K5, Gb, Gs, Nat.reduceDiv, Nat.reduceMod, Nat.reduceMul, Nat.reduceAdd, Nat.reduceEqDiff, List.set_cons_zero, List.set_cons_succ, if_true, if_false, reduceIte]); (first | refine Wk.of_fl ?_ | skip); simp only [Wk, wkK, Gy, wkT, wk1, AV.kept, keptAll, wkO, lk, Kw, and_true, true_and, and_self, Nat.reduceEqDiff, Nat.reduceLeDiff, if_true, if_false, reduceIte, reduceCtorEq, Option.isSome, false_implies]; try simp [Wk, wkK, wkT, wk1, AV.kept, keptAll, wkO, lk, Kw])
    rintro k ⟨hk, hno⟩
    rcases Gl k a.length with ⟨hlt, hlb⟩ | ⟨hlt, hlb⟩
    · have q1 := Hd (0 : Int) hlt
      have q2 := Hd (0 : Int) (show k < b.length by omega)
      have hst : a.getD k 0 = b.getD k 0 → ∀ j, j < k + 1 → a.getD j 0 = b.getD j 0 := fun h => upTo hno h
      have hbad : a.getD k 0 ≠ b.getD k 0 → R = false := by
        intro h
        rw [← hR, beq_eq_false_iff_ne]
        intro e
        exact h (by rw [e])
      obtain ⟨x, hx⟩ : ∃ x, a.getD k 0 = x := ⟨_, rfl⟩
      obtain ⟨y, hy⟩ : ∃ x, b.getD k 0 = x := ⟨_, rfl⟩
      rw [hx] at q1 hst hbad
      rw [hy] at q2 hst hbad
      cases hxy : (x != y) with
      | true =>
        have hr := hbad (by simpa using hxy)
        subst hr
        (sym =>
         simp [hlb,q1,q2,hxy,Eh,Ej,Ei,Ek,Eg,Ef,Np.eq_def,Za,Zb,Zc,Ze,Zf,Zg,Zh,Zi,Zj,Zk,Zl,Zm,Zn,Zo,Zp,Zq,Zr,Zs,Zv,Zx,Z2,Z8,Z9,Qa,Qe,Qi,Qj,Qk,Ql,Qm,Qn,Qo,Qp,Qv,Qw,Qy,Qz,Q0,Q1,Q3,Q8,Ja,Jb,Jc,Jd,Je,Jl,Jq,Jr,Js,Jt,Ju,Jx,Jy,Xb,Xc,Xd,Xe,Xf,Xg,Xh,Xi,Xj,Xk,Xl,Xm,Xn,Xq,Xs,Xt,Xu,Xv,Xw,Xx,Xy,Xz,X0,X1,X2,X3,X4,X5,X6,X7,X8,X9,Wa,Wb,Wc,Wd,We,Wf,Wg,Wh,Wi,Wj,Wl,Wm,Wn,Wo,Wp,Wq,Wr,Ws,Wt,Wu,Wv,Ww,Wx,Wy,Wz,W0,W1,W2,W3,W4,W5,W6,W7,W8,Ye,Yf,Yg,Yh,Yi,Yj,Yk,Yl,Ym,Yn,Yo,Yp,Yq,Yr,Ys,Yt,Yu,Yv,Yw,Yx,Yy,Yz,Y0,Y1,Y2,Y3,Y4,Y5,Y6,Y7,Y8,Y9,Va,Vb,Vc,Vd,Ve,Vf,Vg,Vh,Vi,Vj,Vk,Vl,Vm,Vn,Vo,Vp,Vq,Vr,Vs,Vt,Vu,Vv,Vw,Vx,Vy,Vz,V0,V1,V3,V4,V5,V6,V7,V8,V9,Ua,Ub,Uc,Ud,Ue,Uf,Ul,Um,Uq,Ur,Us,Ut,Uu,Uv,Uw,Ux,Uy,Uz,U0,U1,U3,U4,U5,U6,U7,U8,U9,Ka,Kb,Kc,Kd,Ke,Kf,Kg,Kh,Ki,Kj,Kk,Kl,Km,Kn,Ko,Kq,Kr,Ks,Kt,Ga,Kz]
         tactic =>
          try simp only [K2] at *
          try simp only [nc2] at *
          try simp (maxSteps := 4000000) only [hlb,q1,q2,hxy,Gg]
          repeat' (first | with_reducible assumption | with_reducible refine And.intro ?_ ?_ | intro _ | omega | (rw [Ku]; omega))
          all_goals first
            | (with_reducible refine K9 ?_; kernel_rfl)
            | omega
            | rfl
            | skip)
      | false =>
        have h2 := hst (by simpa using hxy)
        (sym =>
         simp [hlb,q1,q2,hxy,Eh,Ej,Ei,Ek,Eg,Ef,Np.eq_def,Za,Zb,Zc,Ze,Zf,Zg,Zh,Zi,Zj,Zk,Zl,Zm,Zn,Zo,Zp,Zq,Zr,Zs,Zv,Zx,Z2,Z8,Z9,Qa,Qe,Qi,Qj,Qk,Ql,Qm,Qn,Qo,Qp,Qv,Qw,Qy,Qz,Q0,Q1,Q3,Q8,Ja,Jb,Jc,Jd,Je,Jl,Jq,Jr,Js,Jt,Ju,Jx,Jy,Xb,Xc,Xd,Xe,Xf,Xg,Xh,Xi,Xj,Xk,Xl,Xm,Xn,Xq,Xs,Xt,Xu,Xv,Xw,Xx,Xy,Xz,X0,X1,X2,X3,X4,X5,X6,X7,X8,X9,Wa,Wb,Wc,Wd,We,Wf,Wg,Wh,Wi,Wj,Wl,Wm,Wn,Wo,Wp,Wq,Wr,Ws,Wt,Wu,Wv,Ww,Wx,Wy,Wz,W0,W1,W2,W3,W4,W5,W6,W7,W8,Ye,Yf,Yg,Yh,Yi,Yj,Yk,Yl,Ym,Yn,Yo,Yp,Yq,Yr,Ys,Yt,Yu,Yv,Yw,Yx,Yy,Yz,Y0,Y1,Y2,Y3,Y4,Y5,Y6,Y7,Y8,Y9,Va,Vb,Vc,Vd,Ve,Vf,Vg,Vh,Vi,Vj,Vk,Vl,Vm,Vn,Vo,Vp,Vq,Vr,Vs,Vt,Vu,Vv,Vw,Vx,Vy,Vz,V0,V1,V3,V4,V5,V6,V7,V8,V9,Ua,Ub,Uc,Ud,Ue,Uf,Ul,Um,Uq,Ur,Us,Ut,Uu,Uv,Uw,Ux,Uy,Uz,U0,U1,U3,U4,U5,U6,U7,U8,U9,Ka,Kb,Kc,Kd,Ke,Kf,Kg,Kh,Ki,Kj,Kk,Kl,Km,Kn,Ko,Kq,Kr,Ks,Kt,Ga,Kz]
         tactic =>
          try simp only [K2] at *
          try simp only [nc2] at *
          try simp (maxSteps := 4000000) only [hlb,q1,q2,hxy,Gg]
          repeat' (first | with_reducible assumption | with_reducible refine And.intro ?_ ?_ | intro _ | omega | (rw [Ku]; omega))
          all_goals first
            | (with_reducible refine K9 ?_; kernel_rfl)
            | omega
            | exact ⟨k + 1, by ((try simp only [Kv, Ky, Kx, K4, upd, K5, Gb, Gs, Nat.reduceDiv, Nat.reduceMod, Nat.reduceMul, Nat.reduceAdd, Nat.reduceEqDiff, List.set_cons_zero, List.set_cons_succ, if_true, if_false, reduceIte]); (first | refine Wk.of_fl ?_ | skip); simp only [Wk, wkK, Gy, wkT, wk1, AV.kept, keptAll, wkO, lk, Kw, and_true, true_and, and_self, Nat.reduceEqDiff, Nat.reduceLeDiff, if_true, if_false, reduceIte, reduceCtorEq, Option.isSome, false_implies]; try simp [Wk, wkK, wkT, wk1, AV.kept, keptAll, wkO, lk, Kw]), by omega, h2, by omega⟩
            | skip)
    · have hr : R = true := by
        rw [← hR, beq_iff_eq]
        refine List.ext_getElem hlen fun j h1 h2 => ?_
        have := hno j (by omega)
        simpa [h1, h2] using this
      subst hr
      (sym =>
       simp [hlb,Eh,Ej,Ei,Ek,Eg,Ef,Np.eq_def,Za,Zb,Zc,Ze,Zf,Zg,Zh,Zi,Zj,Zk,Zl,Zm,Zn,Zo,Zp,Zq,Zr,Zs,Zv,Zx,Z2,Z8,Z9,Qa,Qe,Qi,Qj,Qk,Ql,Qm,Qn,Qo,Qp,Qv,Qw,Qy,Qz,Q0,Q1,Q3,Q8,Ja,Jb,Jc,Jd,Je,Jl,Jq,Jr,Js,Jt,Ju,Jx,Jy,Xb,Xc,Xd,Xe,Xf,Xg,Xh,Xi,Xj,Xk,Xl,Xm,Xn,Xq,Xs,Xt,Xu,Xv,Xw,Xx,Xy,Xz,X0,X1,X2,X3,X4,X5,X6,X7,X8,X9,Wa,Wb,Wc,Wd,We,Wf,Wg,Wh,Wi,Wj,Wl,Wm,Wn,Wo,Wp,Wq,Wr,Ws,Wt,Wu,Wv,Ww,Wx,Wy,Wz,W0,W1,W2,W3,W4,W5,W6,W7,W8,Ye,Yf,Yg,Yh,Yi,Yj,Yk,Yl,Ym,Yn,Yo,Yp,Yq,Yr,Ys,Yt,Yu,Yv,Yw,Yx,Yy,Yz,Y0,Y1,Y2,Y3,Y4,Y5,Y6,Y7,Y8,Y9,Va,Vb,Vc,Vd,Ve,Vf,Vg,Vh,Vi,Vj,Vk,Vl,Vm,Vn,Vo,Vp,Vq,Vr,Vs,Vt,Vu,Vv,Vw,Vx,Vy,Vz,V0,V1,V3,V4,V5,V6,V7,V8,V9,Ua,Ub,Uc,Ud,Ue,Uf,Ul,Um,Uq,Ur,Us,Ut,Uu,Uv,Uw,Ux,Uy,Uz,U0,U1,U3,U4,U5,U6,U7,U8,U9,Ka,Kb,Kc,Kd,Ke,Kf,Kg,Kh,Ki,Kj,Kk,Kl,Km,Kn,Ko,Kq,Kr,Ks,Kt,Ga,Kz]))
def Rg : List Int → List Int → Int
  | [], b => cond b.isEmpty 0 (-1)
  | _ :: _, [] => 1
  | x :: xs, y :: ys => cond (x == y) (Rg xs ys) (cmpI x y)
theorem cmpL_drop : ∀ {k : Nat} {a b : List Int}, k ≤ a.length → k ≤ b.length → (∀ j, j < k → a.getD j 0 = b.getD j 0) → Rg a b = Rg (a.drop k) (b.drop k)
  | 0, a, b, _, _, _ => rfl
  | k + 1, [], b, h, _, _ => by simp at h
  | k + 1, x :: a, [], _, h, _ => by simp at h
  | k + 1, x :: a, y :: b, h1, h2, h => by
    have h0 := h 0 (by omega)
    simp only [List.getD_cons_zero] at h0
    subst h0
    rw [Rg, beq_self_eq_true, cond_true, List.drop_succ_cons, List.drop_succ_cons]
    refine cmpL_drop (by simpa using h1) (by simpa using h2) fun j hj => ?_
    have := h (j + 1) (by omega)
    simpa using this
theorem cmpL_at {a b : List Int} {k : Nat} (h1 : k < a.length) (h2 : k < b.length) (h : ∀ j, j < k → a.getD j 0 = b.getD j 0) (hn : a.getD k 0 ≠ b.getD k 0) : Rg a b = cmpI (a.getD k 0) (b.getD k 0) := by
  rw [cmpL_drop (by omega) (by omega) h, List.drop_eq_getElem_cons h1, List.drop_eq_getElem_cons h2, Rg]
  have e1 : a.getD k 0 = a[k] := by simp [h1]
  have e2 : b.getD k 0 = b[k] := by simp [h2]
  rw [e1, e2] at hn ⊢
  rw [show (a[k] == b[k]) = false by rw [beq_eq_false_iff_ne]; exact hn, cond_false]
theorem cmpL_long {a b : List Int} {k : Nat} (h1 : k < a.length) (h2 : k = b.length) (h : ∀ j, j < k → a.getD j 0 = b.getD j 0) : Rg a b = 1 := by
  rw [cmpL_drop (by omega) (by omega) h, h2, List.drop_length, List.drop_eq_getElem_cons (show b.length < a.length by omega)]
  rfl
theorem cmpL_end {a b : List Int} {k : Nat} (h1 : k = a.length) (h2 : k ≤ b.length) (h : ∀ j, j < k → a.getD j 0 = b.getD j 0) : Rg a b = cond (ltB (a.length : Int) (b.length : Int)) (-1) 0 := by
  rw [cmpL_drop (by omega) h2 h, h1, List.drop_length]
  rcases Gl a.length b.length with ⟨hlt, hlb⟩ | ⟨hlt, hlb⟩
  · rw [hlb, List.drop_eq_getElem_cons hlt]; rfl
  · rw [hlb, List.drop_eq_nil_of_le hlt]; rfl
theorem cmpI_ne {x y : Int} (h : x ≠ y) : (cmpI x y != 0) = true := by
  unfold cmpI
  cases h1 : ltB x y with
  | true => rfl
  | false =>
    rw [Hg] at h1
    rw [show ltB y x = true by rw [Nr]; omega]
    rfl
end Go.Am.Hit
set_option linter.unusedSimpArgs false
set_option linter.unusedVariables false
set_option maxHeartbeats 2000000
namespace Go.Am.Hit
open Go.Proofs
open Enc (enc dec)
def I1 {α : Type} (p : α → Bool) (l : List α) : Int := match l.findIdx? p with
  | some i => (i : Int)
  | none => -1
theorem idxP_at {α : Type} {p : α → Bool} {l : List α} {k : Nat} (d : α) (hk : k < l.length) (hno : ∀ j, j < k → p (l.getD j d) = false) (hp : p (l.getD k d) = true) : I1 p l = k := by
  have h : l.findIdx? p = some k := by
    rw [List.findIdx?_eq_some_iff_getElem]
    refine ⟨hk, by simpa [hk] using hp, fun j hj => ?_⟩
    have := hno j hj
    simpa [show j < l.length by omega] using this
  unfold I1
  rw [h]
theorem idxP_none {α : Type} {p : α → Bool} {l : List α} (d : α) (hno : ∀ j, j < l.length → p (l.getD j d) = false) : I1 p l = -1 := by
  have h : l.findIdx? p = none := by
    rw [List.findIdx?_eq_none_iff]
    intro x hx
    obtain ⟨j, hj, rfl⟩ := List.getElem_of_mem hx
    have := hno j hj
    simpa [hj] using this
  unfold I1
  rw [h]
theorem idxP_any {α : Type} {p : α → Bool} {l : List α} : leB 0 (I1 p l) = l.any p := by
  unfold I1
  cases h : l.findIdx? p with
  | none =>
    rw [List.findIdx?_eq_none_iff] at h
    have : l.any p = false := by rw [List.any_eq_false]; intro x hx; rw [h x hx]; simp
    rw [this]
    rfl
  | some i =>
    rw [List.findIdx?_eq_some_iff_getElem] at h
    obtain ⟨hi, hp, _⟩ := h
    have : l.any p = true := by rw [List.any_eq_true]; exact ⟨_, List.getElem_mem hi, hp⟩
    rw [this]
    simp [leB]
structure PS where
  s : List Int
instance encPS : Enc PS := ⟨fun p => .ptr 1 (enc (Sl.mk p.s)), fun x => match x with
  | .ptr _ y => ⟨(dec y : Sl Int).l⟩
  | _ => ⟨[]⟩, fun p => by
    show PS.mk (dec (enc (Sl.mk p.s)) : Sl Int).l = p
    rw [Enc.dec_enc]⟩
theorem enc_PS {l : List Int} : (enc (PS.mk l) : D) = .ptr 1 (enc (Sl.mk l)) := rfl
theorem Oo {l : List Int} : (PS.mk l).s = l := rfl
theorem B9 {l : List Int} : (dec (.ptr 1 (enc (Sl.mk l))) : PS) = ⟨l⟩ := Enc.dec_enc (PS.mk l)
theorem Fr {l : List Int} : isE PS (.ptr 1 (enc (Sl.mk l))) = True := eq_true (N7 (PS.mk l))
structure PW where
  s : List (Sl Int)
instance encPW : Enc PW := ⟨fun p => .ptr 1 (enc (Sl.mk p.s)), fun x => match x with
  | .ptr _ y => ⟨(dec y : Sl (Sl Int)).l⟩
  | _ => ⟨[]⟩, fun p => by
    show PW.mk (dec (enc (Sl.mk p.s)) : Sl (Sl Int)).l = p
    rw [Enc.dec_enc]⟩
theorem enc_PW {l : List (Sl Int)} : (enc (PW.mk l) : D) = .ptr 1 (enc (Sl.mk l)) := rfl
theorem PW_s {l : List (Sl Int)} : (PW.mk l).s = l := rfl
theorem A7 {l : List (Sl Int)} : (dec (.ptr 1 (enc (Sl.mk l))) : PW) = ⟨l⟩ := Enc.dec_enc (PW.mk l)
theorem isE_PW {l : List (Sl Int)} : isE PW (.ptr 1 (enc (Sl.mk l))) = True := eq_true (N7 (PW.mk l))
def Ae (t : List Int) (n : Int) : Bool := !inB t n
theorem notIn_eq (t : List Int) (n : Int) : (!inB t n) = Ae t n := rfl
def Mf : Con := L3 (fun (_ : Int) (p : PS) => Lo p.s.length) (fun n p => Ae p.s n)
noncomputable def Br : Ctx := ⟨tab, lkC [(48, Nh)], 60, lkB [], [], false⟩
theorem ctx_isPart_1H_t : Br.τ = tab := rfl
theorem ctx_isPart_1H_c : Br.Γ = lkC [(48, Nh)] := rfl
theorem ctx_isPart_1H_d : Br.dp = 60 := rfl
theorem ctx_isPart_1H_b : Br.Δ = lkB [] := rfl
theorem ctx_isPart_1H_u : Br.cuts = [] := rfl
theorem ctx_isPart_1H_w : Br.wr = false := rfl
theorem good_isPart_1H : Me Try.prog (54, Mf) := by
  refine ⟨Gj Try.func54 (by kernel_rfl) rfl, ?_⟩
  have K : Hq Try.prog Br := Gq H8 G4 (by
    intro p hp
    simp only [List.mem_cons, List.not_mem_nil, or_false] at hp
    rcases hp with rfl
    · exact good_containsS) (by simp)
  obtain ⟨c, hc⟩ : ∃ c, Try.f54.body = some c := ⟨_, rfl⟩
  refine Gu K Try.func54 hc [.tmp 3] rfl 8 rfl (fun cvs hpre => ?_)
  change Mf.pre cvs at hpre
  unfold Mf at hpre
  obtain ⟨n, ⟨t⟩, rfl, ht⟩ := Hx hpre
  simp only at ht
  clear hpre
  have hf := notIn_eq t n
  simp only [Try.f54, Option.some.injEq] at hc
  subst hc
  (sym =>
   simp [enc_PS,B9,Oo,hf,ctx_isPart_1H_t,ctx_isPart_1H_c,ctx_isPart_1H_d,ctx_isPart_1H_b,ctx_isPart_1H_u,ctx_isPart_1H_w,Nh.eq_def,Mf.eq_def,Za,Zb,Zc,Ze,Zf,Zg,Zn,Zo,Zp,Zq,Zr,Zs,Zv,Z6,Z7,Z8,Z9,Qa,Qb,Qc,Qd,Qe,Qi,Qk,Ql,Qm,Qn,Qp,Qv,Qw,Qy,Q1,Q2,Q3,Q8,Ja,Jb,Jc,Jd,Je,Jl,Jq,Jr,Jx,Jy,Xb,Xc,Xd,Xe,Xf,Xg,Xh,Xi,Xj,Xk,Xl,Xm,Xn,Xq,Xs,Xt,Xu,Xv,Xw,Xx,Xy,Xz,X0,X1,X2,X3,X4,X5,X6,X8,X9,Wa,Wd,We,Wf,Wg,Wh,Wi,Wj,Wl,Wm,Wn,Wo,Wp,Wq,Wr,Ws,Wt,Wu,Wv,Ww,Wx,Wy,Wz,W0,W1,W2,W3,W4,W5,W6,W7,W8,Yf,Yg,Yh,Yi,Yj,Yk,Yl,Ym,Yn,Yo,Yp,Yq,Yr,Ys,Yt,Yu,Yv,Yw,Yx,Yy,Yz,Y0,Y1,Y2,Y3,Y4,Y5,Y6,Y7,Y8,Y9,Va,Vb,Vc,Vd,Ve,Vf,Vg,Vh,Vi,Vj,Vk,Vl,Vm,Vn,Vo,Vp,Vq,Vr,Vs,Vt,Vu,Vv,Vw,Vx,Vy,Vz,V0,V1,V3,V4,V5,V6,V7,V8,V9,Ua,Ub,Uc,Ud,Ue,Uf,Ul,Um,Uq,Ur,Us,Ut,Uu,Uv,Uw,Ux,Uy,Uz,U0,U1,U3,U4,U5,U6,U7,U8,U9,Ka,Kb,Kc,Kd,Ke,Kf,Kg,Kh,Ki,Kj,Kk,Kl,Km,Kn,Ko,Kq,Kr,Ks,Kt,Ga,G5,Kz]
   tactic =>
    try simp only [K2] at *
    try simp only [nc2] at *
    try simp (maxSteps := 4000000) only [enc_PS,B9,Oo,hf,Gg]
    repeat' (first | with_reducible assumption | with_reducible refine And.intro ?_ ?_ | intro _ | omega | (rw [Ku]; omega))
    all_goals first
      | omega
      | rfl
      | skip)
structure NotF where
  s : List Int
instance encNotF : Enc NotF := ⟨fun p => .clo 54 [.ptr 1 (enc (Sl.mk p.s))], fun x => match x with
  | .clo _ [.ptr _ y] => ⟨(dec y : Sl Int).l⟩
  | _ => ⟨[]⟩, fun p => by
    show NotF.mk (dec (enc (Sl.mk p.s)) : Sl Int).l = p
    rw [Enc.dec_enc]⟩
theorem Ta {l : List Int} : (enc (NotF.mk l) : D) = .clo 54 [.ptr 1 (enc (Sl.mk l))] := rfl
theorem NotF_s {l : List Int} : (NotF.mk l).s = l := rfl
theorem R1 {l : List Int} : (dec (.clo 54 [.ptr 1 (enc (Sl.mk l))]) : NotF) = ⟨l⟩ := Enc.dec_enc (NotF.mk l)
theorem isE_NotF {l : List Int} : isE NotF (.clo 54 [.ptr 1 (enc (Sl.mk l))]) = True := eq_true (N7 (NotF.mk l))
def N5 : Con := L3 (fun (l : Sl Int) (f : NotF) => Lo l.l.length ∧ Lo f.s.length) (fun l f => I1 (Ae f.s) l.l)
noncomputable def P5 : Ctx := ⟨tab, lkC [(54, Mf)], 60, lkB [], [], false⟩
theorem T5 : P5.τ = tab := rfl
theorem T7 : P5.Γ = lkC [(54, Mf)] := rfl
theorem T6 : P5.dp = 60 := rfl
theorem T8 : P5.Δ = lkB [] := rfl
theorem T4 : P5.cuts = [] := rfl
theorem T3 : P5.wr = false := rfl
theorem good_indexFuncS : Me Try.prog (63, N5) := by
  refine ⟨Gj Try.func63 (by kernel_rfl) rfl, ?_⟩
  have K : Hq Try.prog P5 := Gq H8 G4 (by
    intro p hp
    simp only [List.mem_cons, List.not_mem_nil, or_false] at hp
    rcases hp with rfl
    · exact good_isPart_1H) (by simp)
  obtain ⟨c, hc⟩ : ∃ c, Try.f63.body = some c := ⟨_, rfl⟩
  refine Gu K Try.func63 hc [.tmp 4] rfl 19 rfl (fun cvs hpre => ?_)
  change N5.pre cvs at hpre
  unfold N5 at hpre
  obtain ⟨⟨l⟩, ⟨v⟩, rfl, hpr⟩ := Hx hpre
  simp only at hpr
  obtain ⟨hl, hv⟩ := hpr
  clear hpre
  simp only [Try.f63, Option.some.injEq] at hc
  subst hc
  (sym =>
   simp [Ta,T5,T7,T6,T8,T4,T3,N5.eq_def,Mf.eq_def,Za,Zb,Zc,Ze,Zf,Zg,Zn,Zo,Zp,Zq,Zr,Zs,Zv,Zx,Z2,Z6,Z7,Z8,Z9,Qa,Qb,Qc,Qd,Qe,Qi,Qj,Qk,Ql,Qm,Qn,Qp,Qv,Qw,Qy,Q1,Q2,Q3,Q8,Ja,Jb,Jc,Jd,Je,Jl,Jq,Jr,Js,Jt,Ju,Jx,Jy,Xb,Xc,Xd,Xe,Xf,Xg,Xh,Xi,Xj,Xk,Xl,Xm,Xn,Xq,Xs,Xt,Xu,Xv,Xw,Xx,Xy,Xz,X0,X1,X2,X3,X4,X5,X6,X7,X8,X9,Wa,Wd,We,Wf,Wg,Wh,Wi,Wj,Wl,Wm,Wn,Wo,Wp,Wq,Wr,Ws,Wt,Wu,Wv,Ww,Wx,Wy,Wz,W0,W1,W2,W3,W4,W5,W6,W7,W8,Ye,Yf,Yg,Yh,Yi,Yj,Yk,Yl,Ym,Yn,Yo,Yp,Yq,Yr,Ys,Yt,Yu,Yv,Yw,Yx,Yy,Yz,Y0,Y1,Y2,Y3,Y4,Y5,Y6,Y7,Y8,Y9,Va,Vb,Vc,Vd,Ve,Vf,Vg,Vh,Vi,Vj,Vk,Vl,Vm,Vn,Vo,Vp,Vq,Vr,Vs,Vt,Vu,Vv,Vw,Vx,Vy,Vz,V0,V1,V3,V4,V5,V6,V7,V8,V9,Ua,Ub,Uc,Ud,Ue,Uf,Ul,Um,Uq,Ur,Us,Ut,Uu,Uv,Uw,Ux,Uy,Uz,U0,U1,U3,U4,U5,U6,U7,U8,U9,Ka,Kb,Kc,Kd,Ke,Kf,Kg,Kh,Ki,Kj,Kk,Kl,Km,Kn,Ko,Kq,Kr,Ks,Kt,Ga,Kz,tab53]
   tactic =>
    try simp only [K2] at *
    try simp only [nc2] at *
    try simp (maxSteps := 4000000) only [Ta,Gg]
    refine Gi [4, 5, 9, 10, 11, 12, 13, 14, 15, 16, 17, 18] (fun k : Nat => [(8, .d (.int .i64 k))]) (fun k : Nat => []) (fun k : Nat => k ≤ l.length ∧ ∀ j, j < k → Ae v (l.getD j 0) = false) (fun k : Nat => l.length - k) 0 ?_ ?_ ?_
    · simp
    · ((try simp only [Kv, Ky, Kx, K4, upd, K5, Gb, Gs, Nat.reduceDiv, Nat.reduceMod, Nat.reduceMul, Nat.reduceAdd, Nat.reduceEqDiff, List.set_cons_zero, List.set_cons_succ, if_true, if_false, reduceIte]); (first | refine Wk.of_fl ?_ | skip); simp only [Wk, wkK, Gy, wkT, wk1, AV.kept, keptAll, wkO, lk, Kw, and_true, true_and, and_self, Nat.reduceEqDiff, Nat.reduceLeDiff, if_true, if_false, reduceIte, reduceCtorEq, Option.isSome, false_implies]; try simp [Wk, wkK, wkT, wk1, AV.kept, keptAll, wkO, lk, Kw])
    rintro k ⟨hk, hno⟩
    rcases Gl k l.length with ⟨hlt, hlb⟩ | ⟨hlt, hlb⟩
    · have q1 := Hd (0 : Int) hlt
      have hst : Ae v (l.getD k 0) = false → ∀ j, j < k + 1 → Ae v (l.getD j 0) = false := fun h => upTo hno h
      have hit : Ae v (l.getD k 0) = true → I1 (Ae v) l = k := fun h => idxP_at 0 hlt hno h
      obtain ⟨x, hx⟩ : ∃ x, l.getD k 0 = x := ⟨_, rfl⟩
      rw [hx] at q1 hst hit
      cases hs : Ae v x with
      | false =>
        have h2 := hst hs
        (sym =>
         simp [hlb,q1,hs,Ta,B9,Fr,Oo,T5,T7,T6,T8,T4,T3,N5.eq_def,Mf.eq_def,Za,Zb,Zc,Ze,Zf,Zg,Zn,Zo,Zp,Zq,Zr,Zs,Zv,Zx,Z2,Z6,Z7,Z8,Z9,Qa,Qb,Qc,Qd,Qe,Qi,Qj,Qk,Ql,Qm,Qn,Qp,Qv,Qw,Qy,Q1,Q2,Q3,Q8,Ja,Jb,Jc,Jd,Je,Jl,Jq,Jr,Js,Jt,Ju,Jx,Jy,Xb,Xc,Xd,Xe,Xf,Xg,Xh,Xi,Xj,Xk,Xl,Xm,Xn,Xq,Xs,Xt,Xu,Xv,Xw,Xx,Xy,Xz,X0,X1,X2,X3,X4,X5,X6,X7,X8,X9,Wa,Wd,We,Wf,Wg,Wh,Wi,Wj,Wl,Wm,Wn,Wo,Wp,Wq,Wr,Ws,Wt,Wu,Wv,Ww,Wx,Wy,Wz,W0,W1,W2,W3,W4,W5,W6,W7,W8,Ye,Yf,Yg,Yh,Yi,Yj,Yk,Yl,Ym,Yn,Yo,Yp,Yq,Yr,Ys,Yt,Yu,Yv,Yw,Yx,Yy,Yz,Y0,Y1,Y2,Y3,Y4,Y5,Y6,Y7,Y8,Y9,Va,Vb,Vc,Vd,Ve,Vf,Vg,Vh,Vi,Vj,Vk,Vl,Vm,Vn,Vo,Vp,Vq,Vr,Vs,Vt,Vu,Vv,Vw,Vx,Vy,Vz,V0,V1,V3,V4,V5,V6,V7,V8,V9,Ua,Ub,Uc,Ud,Ue,Uf,Ul,Um,Uq,Ur,Us,Ut,Uu,Uv,Uw,Ux,Uy,Uz,U0,U1,U3,U4,U5,U6,U7,U8,U9,Ka,Kb,Kc,Kd,Ke,Kf,Kg,Kh,Ki,Kj,Kk,Kl,Km,Kn,Ko,Kq,Kr,Ks,Kt,Ga,Kz,tab53]
         tactic =>
          try simp only [K2] at *
          try simp only [nc2] at *
          try simp (maxSteps := 4000000) only [hlb,q1,hs,Ta,B9,Fr,Oo,Gg]
          repeat' (first | with_reducible assumption | with_reducible refine And.intro ?_ ?_ | intro _ | omega | (rw [Ku]; omega))
          all_goals first
            | omega
            | assumption
            | exact ⟨hl, hl2⟩
            | exact ⟨hv1, hv2⟩
            | exact ⟨k + 1, by ((try simp only [Kv, Ky, Kx, K4, upd, K5, Gb, Gs, Nat.reduceDiv, Nat.reduceMod, Nat.reduceMul, Nat.reduceAdd, Nat.reduceEqDiff, List.set_cons_zero, List.set_cons_succ, if_true, if_false, reduceIte]); (first | refine Wk.of_fl ?_ | skip); simp only [Wk, wkK, Gy, wkT, wk1, AV.kept, keptAll, wkO, lk, Kw, and_true, true_and, and_self, Nat.reduceEqDiff, Nat.reduceLeDiff, if_true, if_false, reduceIte, reduceCtorEq, Option.isSome, false_implies]; try simp [Wk, wkK, wkT, wk1, AV.kept, keptAll, wkO, lk, Kw]), by omega, h2, by omega⟩
            | skip)
      | true =>
        have hr := hit hs
        (sym =>
         simp [hlb,q1,hs,hr,Ta,R1,NotF_s,B9,Fr,Oo,T5,T7,T6,T8,T4,T3,N5.eq_def,Mf.eq_def,Za,Zb,Zc,Ze,Zf,Zg,Zn,Zo,Zp,Zq,Zr,Zs,Zv,Zx,Z2,Z6,Z7,Z8,Z9,Qa,Qb,Qc,Qd,Qe,Qi,Qj,Qk,Ql,Qm,Qn,Qp,Qv,Qw,Qy,Q1,Q2,Q3,Q8,Ja,Jb,Jc,Jd,Je,Jl,Jq,Jr,Js,Jt,Ju,Jx,Jy,Xb,Xc,Xd,Xe,Xf,Xg,Xh,Xi,Xj,Xk,Xl,Xm,Xn,Xq,Xs,Xt,Xu,Xv,Xw,Xx,Xy,Xz,X0,X1,X2,X3,X4,X5,X6,X7,X8,X9,Wa,Wd,We,Wf,Wg,Wh,Wi,Wj,Wl,Wm,Wn,Wo,Wp,Wq,Wr,Ws,Wt,Wu,Wv,Ww,Wx,Wy,Wz,W0,W1,W2,W3,W4,W5,W6,W7,W8,Ye,Yf,Yg,Yh,Yi,Yj,Yk,Yl,Ym,Yn,Yo,Yp,Yq,Yr,Ys,Yt,Yu,Yv,Yw,Yx,Yy,Yz,Y0,Y1,Y2,Y3,Y4,Y5,Y6,Y7,Y8,Y9,Va,Vb,Vc,Vd,Ve,Vf,Vg,Vh,Vi,Vj,Vk,Vl,Vm,Vn,Vo,Vp,Vq,Vr,Vs,Vt,Vu,Vv,Vw,Vx,Vy,Vz,V0,V1,V3,V4,V5,V6,V7,V8,V9,Ua,Ub,Uc,Ud,Ue,Uf,Ul,Um,Uq,Ur,Us,Ut,Uu,Uv,Uw,Ux,Uy,Uz,U0,U1,U3,U4,U5,U6,U7,U8,U9,Ka,Kb,Kc,Kd,Ke,Kf,Kg,Kh,Ki,Kj,Kk,Kl,Km,Kn,Ko,Kq,Kr,Ks,Kt,Ga,Kz,tab53]
         tactic =>
          try simp only [K2] at *
          try simp only [nc2] at *
          try simp (maxSteps := 4000000) only [hlb,q1,hs,hr,Ta,R1,NotF_s,B9,Fr,Oo,Gg]
          repeat' (first | with_reducible assumption | with_reducible refine And.intro ?_ ?_ | intro _ | omega | (rw [Ku]; omega))
          all_goals first
            | omega
            | assumption
            | exact ⟨hl, hl2⟩
            | exact ⟨hv1, hv2⟩
            | rfl
            | skip)
    · have hr := idxP_none (p := Ae v) (l := l) 0 (fun j hj => hno j (by omega))
      (sym =>
       simp [hlb,hr,Ta,R1,NotF_s,T5,T7,T6,T8,T4,T3,N5.eq_def,Mf.eq_def,Za,Zb,Zc,Ze,Zf,Zg,Zn,Zo,Zp,Zq,Zr,Zs,Zv,Zx,Z2,Z6,Z7,Z8,Z9,Qa,Qb,Qc,Qd,Qe,Qi,Qj,Qk,Ql,Qm,Qn,Qp,Qv,Qw,Qy,Q1,Q2,Q3,Q8,Ja,Jb,Jc,Jd,Je,Jl,Jq,Jr,Js,Jt,Ju,Jx,Jy,Xb,Xc,Xd,Xe,Xf,Xg,Xh,Xi,Xj,Xk,Xl,Xm,Xn,Xq,Xs,Xt,Xu,Xv,Xw,Xx,Xy,Xz,X0,X1,X2,X3,X4,X5,X6,X7,X8,X9,Wa,Wd,We,Wf,Wg,Wh,Wi,Wj,Wl,Wm,Wn,Wo,Wp,Wq,Wr,Ws,Wt,Wu,Wv,Ww,Wx,Wy,Wz,W0,W1,W2,W3,W4,W5,W6,W7,W8,Ye,Yf,Yg,Yh,Yi,Yj,Yk,Yl,Ym,Yn,Yo,Yp,Yq,Yr,Ys,Yt,Yu,Yv,Yw,Yx,Yy,Yz,Y0,Y1,Y2,Y3,Y4,Y5,Y6,Y7,Y8,Y9,Va,Vb,Vc,Vd,Ve,Vf,Vg,Vh,Vi,Vj,Vk,Vl,Vm,Vn,Vo,Vp,Vq,Vr,Vs,Vt,Vu,Vv,Vw,Vx,Vy,Vz,V0,V1,V3,V4,V5,V6,V7,V8,V9,Ua,Ub,Uc,Ud,Ue,Uf,Ul,Um,Uq,Ur,Us,Ut,Uu,Uv,Uw,Ux,Uy,Uz,U0,U1,U3,U4,U5,U6,U7,U8,U9,Ka,Kb,Kc,Kd,Ke,Kf,Kg,Kh,Ki,Kj,Kk,Kl,Km,Kn,Ko,Kq,Kr,Ks,Kt,Ga,Kz,tab53]))
def Ms : Con := L3 (fun (l : Sl Int) (f : NotF) => Lo l.l.length ∧ Lo f.s.length) (fun l f => l.l.any (Ae f.s))
noncomputable def Mj : Ctx := ⟨tab, lkC [(63, N5)], 60, lkB [], [], false⟩
theorem ctx_containsFuncS_t : Mj.τ = tab := rfl
theorem ctx_containsFuncS_c : Mj.Γ = lkC [(63, N5)] := rfl
theorem ctx_containsFuncS_d : Mj.dp = 60 := rfl
theorem ctx_containsFuncS_b : Mj.Δ = lkB [] := rfl
theorem ctx_containsFuncS_u : Mj.cuts = [] := rfl
theorem ctx_containsFuncS_w : Mj.wr = false := rfl
theorem good_containsFuncS : Me Try.prog (53, Ms) := by
  refine ⟨Gj Try.func53 (by kernel_rfl) rfl, ?_⟩
  have K : Hq Try.prog Mj := Gq H8 G4 (by
    intro p hp
    simp only [List.mem_cons, List.not_mem_nil, or_false] at hp
    rcases hp with rfl
    · exact good_indexFuncS) (by simp)
  obtain ⟨c, hc⟩ : ∃ c, Try.f53.body = some c := ⟨_, rfl⟩
  refine Gu K Try.func53 hc [.tmp 4] rfl 9 rfl (fun cvs hpre => ?_)
  change Ms.pre cvs at hpre
  unfold Ms at hpre
  obtain ⟨⟨l⟩, ⟨v⟩, rfl, hpr⟩ := Hx hpre
  simp only at hpr
  obtain ⟨hl, hv⟩ := hpr
  clear hpre
  have h := idxP_any (p := Ae v) (l := l)
  simp only [Try.f53, Option.some.injEq] at hc
  subst hc
  (sym =>
   simp [h,Ta,R1,isE_NotF,NotF_s,ctx_containsFuncS_t,ctx_containsFuncS_c,ctx_containsFuncS_d,ctx_containsFuncS_b,ctx_containsFuncS_u,ctx_containsFuncS_w,Ms.eq_def,N5.eq_def,Za,Zb,Zc,Ze,Zf,Zg,Zn,Zo,Zp,Zq,Zr,Zs,Zv,Z6,Z7,Z8,Z9,Qa,Qb,Qc,Qd,Qe,Qi,Qk,Ql,Qm,Qn,Qp,Qv,Qw,Qy,Q1,Q2,Q3,Q8,Ja,Jb,Jc,Jd,Je,Jl,Jq,Jr,Jx,Jy,Xb,Xc,Xd,Xe,Xf,Xg,Xh,Xi,Xj,Xk,Xl,Xm,Xn,Xq,Xs,Xt,Xu,Xv,Xw,Xx,Xy,Xz,X0,X1,X2,X3,X4,X5,X6,X8,X9,Wa,Wd,We,Wf,Wg,Wh,Wi,Wj,Wl,Wm,Wn,Wo,Wp,Wq,Wr,Ws,Wt,Wu,Wv,Ww,Wx,Wy,Wz,W0,W1,W2,W3,W4,W5,W6,W7,W8,Yf,Yg,Yh,Yi,Yj,Yk,Yl,Ym,Yn,Yo,Yp,Yq,Yr,Ys,Yt,Yu,Yv,Yw,Yx,Yy,Yz,Y0,Y1,Y2,Y3,Y4,Y5,Y6,Y7,Y8,Y9,Va,Vb,Vc,Vd,Ve,Vf,Vg,Vh,Vi,Vj,Vk,Vl,Vm,Vn,Vo,Vp,Vq,Vr,Vs,Vt,Vu,Vv,Vw,Vx,Vy,Vz,V0,V1,V3,V4,V5,V6,V7,V8,V9,Ua,Ub,Uc,Ud,Ue,Uf,Ul,Um,Uq,Ur,Us,Ut,Uu,Uv,Uw,Ux,Uy,Uz,U0,U1,U3,U4,U5,U6,U7,U8,U9,Ka,Kb,Kc,Kd,Ke,Kf,Kg,Kh,Ki,Kj,Kk,Kl,Km,Kn,Ko,Kq,Kr,Ks,Kt,Ga,Kz,tab53]
   tactic =>
    try simp only [K2] at *
    try simp only [nc2] at *
    try simp (maxSteps := 4000000) only [h,Ta,R1,isE_NotF,NotF_s,Gg]
    repeat' (first | with_reducible assumption | with_reducible refine And.intro ?_ ?_ | intro _ | omega | (rw [Ku]; omega))
    all_goals first
      | omega
      | assumption
      | exact ⟨hl, hl2⟩
      | rfl
      | skip)
theorem not_any_notIn (s t : List Int) : (!s.any (Ae t)) = Sq s t := by
  unfold Sq
  rw [Bool.eq_iff_iff]
  simp [Ae]
def B4 : Con := L3 (fun (s t : Sl Int) => Lo s.l.length ∧ Lo t.l.length) (fun s t => Sq s.l t.l)
noncomputable def Tc : Ctx := ⟨tab, lkC [(53, Ms)], 60, lkB [], [], false⟩
theorem ctx_isPartH_t : Tc.τ = tab := rfl
theorem ctx_isPartH_c : Tc.Γ = lkC [(53, Ms)] := rfl
theorem ctx_isPartH_d : Tc.dp = 60 := rfl
theorem ctx_isPartH_b : Tc.Δ = lkB [] := rfl
theorem ctx_isPartH_u : Tc.cuts = [] := rfl
theorem ctx_isPartH_w : Tc.wr = false := rfl
theorem good_isPartH : Me Try.prog (39, B4) := by
  refine ⟨Gj Try.func39 (by kernel_rfl) rfl, ?_⟩
  have K : Hq Try.prog Tc := Gq H8 G4 (by
    intro p hp
    simp only [List.mem_cons, List.not_mem_nil, or_false] at hp
    rcases hp with rfl
    · exact good_containsFuncS) (by simp)
  obtain ⟨c, hc⟩ : ∃ c, Try.f39.body = some c := ⟨_, rfl⟩
  refine Gu K Try.func39 hc [.tmp 4] rfl 9 rfl (fun cvs hpre => ?_)
  change B4.pre cvs at hpre
  unfold B4 at hpre
  obtain ⟨⟨s⟩, ⟨t⟩, rfl, hs, ht⟩ := Hx hpre
  simp only at hs ht
  clear hpre
  have h := not_any_notIn s t
  simp only [Try.f39, Option.some.injEq] at hc
  subst hc
  (sym =>
   simp [h,Ta,R1,isE_NotF,NotF_s,ctx_isPartH_t,ctx_isPartH_c,ctx_isPartH_d,ctx_isPartH_b,ctx_isPartH_u,ctx_isPartH_w,Ms.eq_def,B4.eq_def,Za,Zb,Zc,Ze,Zf,Zg,Zn,Zo,Zp,Zq,Zr,Zs,Zu,Zv,Z6,Z7,Z8,Z9,Qa,Qb,Qc,Qd,Qe,Qf,Qi,Qk,Ql,Qm,Qn,Qp,Qv,Qw,Qy,Q1,Q2,Q3,Q8,Ja,Jb,Jc,Jd,Je,Jl,Jq,Jr,Jx,Jy,Xb,Xc,Xd,Xe,Xf,Xg,Xh,Xi,Xj,Xk,Xl,Xm,Xn,Xq,Xs,Xt,Xu,Xv,Xw,Xx,Xy,Xz,X0,X1,X2,X3,X4,X5,X6,X8,X9,Wa,Wd,We,Wf,Wg,Wh,Wi,Wj,Wl,Wm,Wn,Wo,Wp,Wq,Wr,Ws,Wt,Wu,Wv,Ww,Wx,Wy,Wz,W0,W1,W2,W3,W4,W5,W6,W7,W8,Yf,Yg,Yh,Yi,Yj,Yk,Yl,Ym,Yn,Yo,Yp,Yq,Yr,Ys,Yt,Yu,Yv,Yw,Yx,Yy,Yz,Y0,Y1,Y2,Y3,Y4,Y5,Y6,Y7,Y8,Y9,Va,Vb,Vc,Vd,Ve,Vf,Vg,Vh,Vi,Vj,Vk,Vl,Vm,Vn,Vo,Vp,Vq,Vr,Vs,Vt,Vu,Vv,Vw,Vx,Vy,Vz,V0,V1,V3,V4,V5,V6,V7,V8,V9,Ua,Ub,Uc,Ud,Ue,Uf,Ul,Um,Uq,Ur,Us,Ut,Uu,Uv,Uw,Ux,Uy,Uz,U0,U1,U3,U4,U5,U6,U7,U8,U9,Ka,Kb,Kc,Kd,Ke,Kf,Kg,Kh,Ki,Kj,Kk,Kl,Km,Kn,Ko,Kq,Kr,Ks,Kt,Ga,G5,Kz]
   tactic =>
    try simp only [K2] at *
    try simp only [nc2] at *
    try simp (maxSteps := 4000000) only [h,Ta,R1,isE_NotF,NotF_s,Gg]
    repeat' (first | with_reducible assumption | with_reducible refine And.intro ?_ ?_ | intro _ | omega | (rw [Ku]; omega))
    all_goals first
      | omega
      | rfl
      | skip)
def Cs (s : List Int) (t : Sl Int) : Bool := !Cq s t.l
theorem noMeet_eq (s t : List Int) : (!Cq s t) = Cs s ⟨t⟩ := rfl
def P2 : Con := L3 (fun (t : Sl Int) (p : PS) => Lo t.l.length ∧ Lo p.s.length) (fun t p => Cs p.s t)
noncomputable def Tg : Ctx := ⟨tab, lkC [(29, H3)], 60, lkB [], [], false⟩
theorem ctx_Hits_1H_t : Tg.τ = tab := rfl
theorem ctx_Hits_1H_c : Tg.Γ = lkC [(29, H3)] := rfl
theorem ctx_Hits_1H_d : Tg.dp = 60 := rfl
theorem ctx_Hits_1H_b : Tg.Δ = lkB [] := rfl
theorem ctx_Hits_1H_u : Tg.cuts = [] := rfl
theorem ctx_Hits_1H_w : Tg.wr = false := rfl
theorem good_Hits_1H : Me Try.prog (33, P2) := by
  refine ⟨Gj Try.func33 (by kernel_rfl) rfl, ?_⟩
  have K : Hq Try.prog Tg := Gq H8 G4 (by
    intro p hp
    simp only [List.mem_cons, List.not_mem_nil, or_false] at hp
    rcases hp with rfl
    · exact good_meetsH) (by simp)
  obtain ⟨c, hc⟩ : ∃ c, Try.f33.body = some c := ⟨_, rfl⟩
  refine Gu K Try.func33 hc [.tmp 3] rfl 8 rfl (fun cvs hpre => ?_)
  change P2.pre cvs at hpre
  unfold P2 at hpre
  obtain ⟨⟨t⟩, ⟨s⟩, rfl, ht, hs⟩ := Hx hpre
  simp only at ht hs
  clear hpre
  have hf := noMeet_eq s t
  simp only [Try.f33, Option.some.injEq] at hc
  subst hc
  (sym =>
   simp [enc_PS,B9,Oo,hf,ctx_Hits_1H_t,ctx_Hits_1H_c,ctx_Hits_1H_d,ctx_Hits_1H_b,ctx_Hits_1H_u,ctx_Hits_1H_w,P2.eq_def,H3.eq_def,Za,Zb,Zc,Ze,Zf,Zg,Zn,Zo,Zp,Zq,Zr,Zs,Zv,Z6,Z7,Z8,Z9,Qa,Qb,Qc,Qd,Qe,Qi,Qk,Ql,Qm,Qn,Qp,Qv,Qw,Qy,Q1,Q2,Q3,Q8,Ja,Jb,Jc,Jd,Je,Jl,Jq,Jr,Jx,Jy,Xb,Xc,Xd,Xe,Xf,Xg,Xh,Xi,Xj,Xk,Xl,Xm,Xn,Xq,Xs,Xt,Xu,Xv,Xw,Xx,Xy,Xz,X0,X1,X2,X3,X4,X5,X6,X8,X9,Wa,Wd,We,Wf,Wg,Wh,Wi,Wj,Wl,Wm,Wn,Wo,Wp,Wq,Wr,Ws,Wt,Wu,Wv,Ww,Wx,Wy,Wz,W0,W1,W2,W3,W4,W5,W6,W7,W8,Yf,Yg,Yh,Yi,Yj,Yk,Yl,Ym,Yn,Yo,Yp,Yq,Yr,Ys,Yt,Yu,Yv,Yw,Yx,Yy,Yz,Y0,Y1,Y2,Y3,Y4,Y5,Y6,Y7,Y8,Y9,Va,Vb,Vc,Vd,Ve,Vf,Vg,Vh,Vi,Vj,Vk,Vl,Vm,Vn,Vo,Vp,Vq,Vr,Vs,Vt,Vu,Vv,Vw,Vx,Vy,Vz,V0,V1,V3,V4,V5,V6,V7,V8,V9,Ua,Ub,Uc,Ud,Ue,Uf,Ul,Um,Uq,Ur,Us,Ut,Uu,Uv,Uw,Ux,Uy,Uz,U0,U1,U3,U4,U5,U6,U7,U8,U9,Ka,Kb,Kc,Kd,Ke,Kf,Kg,Kh,Ki,Kj,Kk,Kl,Km,Kn,Ko,Kq,Kr,Ks,Kt,Ga,G5,Kz]
   tactic =>
    try simp only [K2] at *
    try simp only [nc2] at *
    try simp (maxSteps := 4000000) only [enc_PS,B9,Oo,hf,Gg]
    repeat' (first | with_reducible assumption | with_reducible refine And.intro ?_ ?_ | intro _ | omega | (rw [Ku]; omega))
    all_goals first
      | omega
      | rfl
      | skip)
structure HitF where
  s : List Int
instance encHitF : Enc HitF := ⟨fun p => .clo 33 [.ptr 1 (enc (Sl.mk p.s))], fun x => match x with
  | .clo _ [.ptr _ y] => ⟨(dec y : Sl Int).l⟩
  | _ => ⟨[]⟩, fun p => by
    show HitF.mk (dec (enc (Sl.mk p.s)) : Sl Int).l = p
    rw [Enc.dec_enc]⟩
theorem Tb {l : List Int} : (enc (HitF.mk l) : D) = .clo 33 [.ptr 1 (enc (Sl.mk l))] := rfl
theorem HitF_s {l : List Int} : (HitF.mk l).s = l := rfl
theorem R2 {l : List Int} : (dec (.clo 33 [.ptr 1 (enc (Sl.mk l))]) : HitF) = ⟨l⟩ := Enc.dec_enc (HitF.mk l)
theorem isE_HitF {l : List Int} : isE HitF (.clo 33 [.ptr 1 (enc (Sl.mk l))]) = True := eq_true (N7 (HitF.mk l))
def Nz : Con := L3 (fun (l : Sl (Sl Int)) (f : HitF) => Rw l.l ∧ Lo f.s.length) (fun l f => I1 (Cs f.s) l.l)
noncomputable def Pj : Ctx := ⟨tab, lkC [(33, P2)], 60, lkB [], [], false⟩
theorem Su : Pj.τ = tab := rfl
theorem Sw : Pj.Γ = lkC [(33, P2)] := rfl
theorem Sv : Pj.dp = 60 := rfl
theorem Sx : Pj.Δ = lkB [] := rfl
theorem St : Pj.cuts = [] := rfl
theorem Ss : Pj.wr = false := rfl
theorem good_indexFuncSS : Me Try.prog (52, Nz) := by
  refine ⟨Gj Try.func52 (by kernel_rfl) rfl, ?_⟩
  have K : Hq Try.prog Pj := Gq H8 G4 (by
    intro p hp
    simp only [List.mem_cons, List.not_mem_nil, or_false] at hp
    rcases hp with rfl
    · exact good_Hits_1H) (by simp)
  obtain ⟨c, hc⟩ : ∃ c, Try.f52.body = some c := ⟨_, rfl⟩
  refine Gu K Try.func52 hc [.tmp 4] rfl 19 rfl (fun cvs hpre => ?_)
  change Nz.pre cvs at hpre
  unfold Nz at hpre
  obtain ⟨⟨l⟩, ⟨v⟩, rfl, hpr⟩ := Hx hpre
  simp only at hpr
  obtain ⟨⟨hl, hl2⟩, hv⟩ := hpr
  clear hpre
  simp only [Try.f52, Option.some.injEq] at hc
  subst hc
  (sym =>
   simp [Tb,Su,Sw,Sv,Sx,St,Ss,P2.eq_def,Nz.eq_def,Za,Zb,Zc,Ze,Zf,Zg,Zn,Zo,Zp,Zq,Zr,Zs,Zv,Zx,Z2,Z6,Z7,Z8,Z9,Qa,Qb,Qc,Qd,Qe,Qi,Qj,Qk,Ql,Qm,Qn,Qp,Qv,Qw,Qy,Q1,Q2,Q3,Q8,Ja,Jb,Jc,Jd,Je,Jl,Jq,Jr,Js,Jt,Ju,Jx,Jy,Xb,Xc,Xd,Xe,Xf,Xg,Xh,Xi,Xj,Xk,Xl,Xm,Xn,Xq,Xs,Xt,Xu,Xv,Xw,Xx,Xy,Xz,X0,X1,X2,X3,X4,X5,X6,X7,X8,X9,Wa,Wd,We,Wf,Wg,Wh,Wi,Wj,Wl,Wm,Wn,Wo,Wp,Wq,Wr,Ws,Wt,Wu,Wv,Ww,Wx,Wy,Wz,W0,W1,W2,W3,W4,W5,W6,W7,W8,Ye,Yf,Yg,Yh,Yi,Yj,Yk,Yl,Ym,Yn,Yo,Yp,Yq,Yr,Ys,Yt,Yu,Yv,Yw,Yx,Yy,Yz,Y0,Y1,Y2,Y3,Y4,Y5,Y6,Y7,Y8,Y9,Va,Vb,Vc,Vd,Ve,Vf,Vg,Vh,Vi,Vj,Vk,Vl,Vm,Vn,Vo,Vp,Vq,Vr,Vs,Vt,Vu,Vv,Vw,Vx,Vy,Vz,V0,V1,V3,V4,V5,V6,V7,V8,V9,Ua,Ub,Uc,Ud,Ue,Uf,Ul,Um,Uq,Ur,Us,Ut,Uu,Uv,Uw,Ux,Uy,Uz,U0,U1,U3,U4,U5,U6,U7,U8,U9,Ka,Kb,Kc,Kd,Ke,Kf,Kg,Kh,Ki,Kj,Kk,Kl,Km,Kn,Ko,Kq,Kr,Ks,Kt,Ga,K8,Kz,Dm]
   tactic =>
    try simp only [K2] at *
    try simp only [nc2] at *
    try simp (maxSteps := 4000000) only [Tb,Gg]
    refine Gi [4, 5, 9, 10, 11, 12, 13, 14, 15, 16, 17, 18] (fun k : Nat => [(8, .d (.int .i64 k))]) (fun k : Nat => []) (fun k : Nat => k ≤ l.length ∧ ∀ j, j < k → Cs v (l.getD j ⟨[]⟩) = false) (fun k : Nat => l.length - k) 0 ?_ ?_ ?_
    · simp
    · ((try simp only [Kv, Ky, Kx, K4, upd, K5, Gb, Gs, Nat.reduceDiv, Nat.reduceMod, Nat.reduceMul, Nat.reduceAdd, Nat.reduceEqDiff, List.set_cons_zero, List.set_cons_succ, if_true, if_false, reduceIte]); (first | refine Wk.of_fl ?_ | skip); simp only [Wk, wkK, Gy, wkT, wk1, AV.kept, keptAll, wkO, lk, Kw, and_true, true_and, and_self, Nat.reduceEqDiff, Nat.reduceLeDiff, if_true, if_false, reduceIte, reduceCtorEq, Option.isSome, false_implies]; try simp [Wk, wkK, wkT, wk1, AV.kept, keptAll, wkO, lk, Kw])
    rintro k ⟨hk, hno⟩
    rcases Gl k l.length with ⟨hlt, hlb⟩ | ⟨hlt, hlb⟩
    · have q1 := Hd (⟨[]⟩ : (Sl Int)) hlt
      have hst : Cs v (l.getD k ⟨[]⟩) = false → ∀ j, j < k + 1 → Cs v (l.getD j ⟨[]⟩) = false := fun h => upTo hno h
      have hit : Cs v (l.getD k ⟨[]⟩) = true → I1 (Cs v) l = k := fun h => idxP_at ⟨[]⟩ hlt hno h
      have lk := hl2 k
      obtain ⟨⟨x⟩, hx⟩ : ∃ x, l.getD k ⟨[]⟩ = x := ⟨_, rfl⟩
      rw [hx] at q1 hst hit lk
      simp only at lk
      cases hs : Cs v ⟨x⟩ with
      | false =>
        have h2 := hst hs
        (sym =>
         simp [hlb,q1,hs,Tb,B9,Fr,Oo,Su,Sw,Sv,Sx,St,Ss,P2.eq_def,Nz.eq_def,Za,Zb,Zc,Ze,Zf,Zg,Zn,Zo,Zp,Zq,Zr,Zs,Zv,Zx,Z2,Z6,Z7,Z8,Z9,Qa,Qb,Qc,Qd,Qe,Qi,Qj,Qk,Ql,Qm,Qn,Qp,Qv,Qw,Qy,Q1,Q2,Q3,Q8,Ja,Jb,Jc,Jd,Je,Jl,Jq,Jr,Js,Jt,Ju,Jx,Jy,Xb,Xc,Xd,Xe,Xf,Xg,Xh,Xi,Xj,Xk,Xl,Xm,Xn,Xq,Xs,Xt,Xu,Xv,Xw,Xx,Xy,Xz,X0,X1,X2,X3,X4,X5,X6,X7,X8,X9,Wa,Wd,We,Wf,Wg,Wh,Wi,Wj,Wl,Wm,Wn,Wo,Wp,Wq,Wr,Ws,Wt,Wu,Wv,Ww,Wx,Wy,Wz,W0,W1,W2,W3,W4,W5,W6,W7,W8,Ye,Yf,Yg,Yh,Yi,Yj,Yk,Yl,Ym,Yn,Yo,Yp,Yq,Yr,Ys,Yt,Yu,Yv,Yw,Yx,Yy,Yz,Y0,Y1,Y2,Y3,Y4,Y5,Y6,Y7,Y8,Y9,Va,Vb,Vc,Vd,Ve,Vf,Vg,Vh,Vi,Vj,Vk,Vl,Vm,Vn,Vo,Vp,Vq,Vr,Vs,Vt,Vu,Vv,Vw,Vx,Vy,Vz,V0,V1,V3,V4,V5,V6,V7,V8,V9,Ua,Ub,Uc,Ud,Ue,Uf,Ul,Um,Uq,Ur,Us,Ut,Uu,Uv,Uw,Ux,Uy,Uz,U0,U1,U3,U4,U5,U6,U7,U8,U9,Ka,Kb,Kc,Kd,Ke,Kf,Kg,Kh,Ki,Kj,Kk,Kl,Km,Kn,Ko,Kq,Kr,Ks,Kt,Ga,K8,Kz,Dm]
         tactic =>
          try simp only [K2] at *
          try simp only [nc2] at *
          try simp (maxSteps := 4000000) only [hlb,q1,hs,Tb,B9,Fr,Oo,Gg]
          repeat' (first | with_reducible assumption | with_reducible refine And.intro ?_ ?_ | intro _ | omega | (rw [Ku]; omega))
          all_goals first
            | omega
            | assumption
            | exact ⟨hl, hl2⟩
            | exact ⟨hv1, hv2⟩
            | exact ⟨k + 1, by ((try simp only [Kv, Ky, Kx, K4, upd, K5, Gb, Gs, Nat.reduceDiv, Nat.reduceMod, Nat.reduceMul, Nat.reduceAdd, Nat.reduceEqDiff, List.set_cons_zero, List.set_cons_succ, if_true, if_false, reduceIte]); (first | refine Wk.of_fl ?_ | skip); simp only [Wk, wkK, Gy, wkT, wk1, AV.kept, keptAll, wkO, lk, Kw, and_true, true_and, and_self, Nat.reduceEqDiff, Nat.reduceLeDiff, if_true, if_false, reduceIte, reduceCtorEq, Option.isSome, false_implies]; try simp [Wk, wkK, wkT, wk1, AV.kept, keptAll, wkO, lk, Kw]), by omega, h2, by omega⟩
            | skip)
      | true =>
        have hr := hit hs
        (sym =>
         simp [hlb,q1,hs,hr,Tb,R2,HitF_s,B9,Fr,Oo,Su,Sw,Sv,Sx,St,Ss,P2.eq_def,Nz.eq_def,Za,Zb,Zc,Ze,Zf,Zg,Zn,Zo,Zp,Zq,Zr,Zs,Zv,Zx,Z2,Z6,Z7,Z8,Z9,Qa,Qb,Qc,Qd,Qe,Qi,Qj,Qk,Ql,Qm,Qn,Qp,Qv,Qw,Qy,Q1,Q2,Q3,Q8,Ja,Jb,Jc,Jd,Je,Jl,Jq,Jr,Js,Jt,Ju,Jx,Jy,Xb,Xc,Xd,Xe,Xf,Xg,Xh,Xi,Xj,Xk,Xl,Xm,Xn,Xq,Xs,Xt,Xu,Xv,Xw,Xx,Xy,Xz,X0,X1,X2,X3,X4,X5,X6,X7,X8,X9,Wa,Wd,We,Wf,Wg,Wh,Wi,Wj,Wl,Wm,Wn,Wo,Wp,Wq,Wr,Ws,Wt,Wu,Wv,Ww,Wx,Wy,Wz,W0,W1,W2,W3,W4,W5,W6,W7,W8,Ye,Yf,Yg,Yh,Yi,Yj,Yk,Yl,Ym,Yn,Yo,Yp,Yq,Yr,Ys,Yt,Yu,Yv,Yw,Yx,Yy,Yz,Y0,Y1,Y2,Y3,Y4,Y5,Y6,Y7,Y8,Y9,Va,Vb,Vc,Vd,Ve,Vf,Vg,Vh,Vi,Vj,Vk,Vl,Vm,Vn,Vo,Vp,Vq,Vr,Vs,Vt,Vu,Vv,Vw,Vx,Vy,Vz,V0,V1,V3,V4,V5,V6,V7,V8,V9,Ua,Ub,Uc,Ud,Ue,Uf,Ul,Um,Uq,Ur,Us,Ut,Uu,Uv,Uw,Ux,Uy,Uz,U0,U1,U3,U4,U5,U6,U7,U8,U9,Ka,Kb,Kc,Kd,Ke,Kf,Kg,Kh,Ki,Kj,Kk,Kl,Km,Kn,Ko,Kq,Kr,Ks,Kt,Ga,K8,Kz,Dm]
         tactic =>
          try simp only [K2] at *
          try simp only [nc2] at *
          try simp (maxSteps := 4000000) only [hlb,q1,hs,hr,Tb,R2,HitF_s,B9,Fr,Oo,Gg]
          repeat' (first | with_reducible assumption | with_reducible refine And.intro ?_ ?_ | intro _ | omega | (rw [Ku]; omega))
          all_goals first
            | omega
            | assumption
            | exact ⟨hl, hl2⟩
            | exact ⟨hv1, hv2⟩
            | rfl
            | skip)
    · have hr := idxP_none (p := Cs v) (l := l) ⟨[]⟩ (fun j hj => hno j (by omega))
      (sym =>
       simp [hlb,hr,Tb,R2,HitF_s,Su,Sw,Sv,Sx,St,Ss,P2.eq_def,Nz.eq_def,Za,Zb,Zc,Ze,Zf,Zg,Zn,Zo,Zp,Zq,Zr,Zs,Zv,Zx,Z2,Z6,Z7,Z8,Z9,Qa,Qb,Qc,Qd,Qe,Qi,Qj,Qk,Ql,Qm,Qn,Qp,Qv,Qw,Qy,Q1,Q2,Q3,Q8,Ja,Jb,Jc,Jd,Je,Jl,Jq,Jr,Js,Jt,Ju,Jx,Jy,Xb,Xc,Xd,Xe,Xf,Xg,Xh,Xi,Xj,Xk,Xl,Xm,Xn,Xq,Xs,Xt,Xu,Xv,Xw,Xx,Xy,Xz,X0,X1,X2,X3,X4,X5,X6,X7,X8,X9,Wa,Wd,We,Wf,Wg,Wh,Wi,Wj,Wl,Wm,Wn,Wo,Wp,Wq,Wr,Ws,Wt,Wu,Wv,Ww,Wx,Wy,Wz,W0,W1,W2,W3,W4,W5,W6,W7,W8,Ye,Yf,Yg,Yh,Yi,Yj,Yk,Yl,Ym,Yn,Yo,Yp,Yq,Yr,Ys,Yt,Yu,Yv,Yw,Yx,Yy,Yz,Y0,Y1,Y2,Y3,Y4,Y5,Y6,Y7,Y8,Y9,Va,Vb,Vc,Vd,Ve,Vf,Vg,Vh,Vi,Vj,Vk,Vl,Vm,Vn,Vo,Vp,Vq,Vr,Vs,Vt,Vu,Vv,Vw,Vx,Vy,Vz,V0,V1,V3,V4,V5,V6,V7,V8,V9,Ua,Ub,Uc,Ud,Ue,Uf,Ul,Um,Uq,Ur,Us,Ut,Uu,Uv,Uw,Ux,Uy,Uz,U0,U1,U3,U4,U5,U6,U7,U8,U9,Ka,Kb,Kc,Kd,Ke,Kf,Kg,Kh,Ki,Kj,Kk,Kl,Km,Kn,Ko,Kq,Kr,Ks,Kt,Ga,K8,Kz,Dm]))
def Ma : Con := L3 (fun (l : Sl (Sl Int)) (f : HitF) => Rw l.l ∧ Lo f.s.length) (fun l f => l.l.any (Cs f.s))
noncomputable def N9 : Ctx := ⟨tab, lkC [(52, Nz)], 60, lkB [], [], false⟩
theorem ctx_containsFuncSS_t : N9.τ = tab := rfl
theorem ctx_containsFuncSS_c : N9.Γ = lkC [(52, Nz)] := rfl
theorem ctx_containsFuncSS_d : N9.dp = 60 := rfl
theorem ctx_containsFuncSS_b : N9.Δ = lkB [] := rfl
theorem ctx_containsFuncSS_u : N9.cuts = [] := rfl
theorem ctx_containsFuncSS_w : N9.wr = false := rfl
theorem good_containsFuncSS : Me Try.prog (32, Ma) := by
  refine ⟨Gj Try.func32 (by kernel_rfl) rfl, ?_⟩
  have K : Hq Try.prog N9 := Gq H8 G4 (by
    intro p hp
    simp only [List.mem_cons, List.not_mem_nil, or_false] at hp
    rcases hp with rfl
    · exact good_indexFuncSS) (by simp)
  obtain ⟨c, hc⟩ : ∃ c, Try.f32.body = some c := ⟨_, rfl⟩
  refine Gu K Try.func32 hc [.tmp 4] rfl 9 rfl (fun cvs hpre => ?_)
  change Ma.pre cvs at hpre
  unfold Ma at hpre
  obtain ⟨⟨l⟩, ⟨v⟩, rfl, hpr⟩ := Hx hpre
  simp only at hpr
  obtain ⟨⟨hl, hl2⟩, hv⟩ := hpr
  clear hpre
  have h := idxP_any (p := Cs v) (l := l)
  simp only [Try.f32, Option.some.injEq] at hc
  subst hc
  (sym =>
   simp [h,Tb,R2,isE_HitF,HitF_s,ctx_containsFuncSS_t,ctx_containsFuncSS_c,ctx_containsFuncSS_d,ctx_containsFuncSS_b,ctx_containsFuncSS_u,ctx_containsFuncSS_w,Ma.eq_def,Nz.eq_def,Za,Zb,Zc,Ze,Zf,Zg,Zn,Zo,Zp,Zq,Zr,Zs,Zv,Z6,Z7,Z8,Z9,Qa,Qb,Qc,Qd,Qe,Qi,Qk,Ql,Qm,Qn,Qp,Qv,Qw,Qy,Q1,Q2,Q3,Q8,Ja,Jb,Jc,Jd,Je,Jl,Jq,Jr,Jx,Jy,Xb,Xc,Xd,Xe,Xf,Xg,Xh,Xi,Xj,Xk,Xl,Xm,Xn,Xq,Xs,Xt,Xu,Xv,Xw,Xx,Xy,Xz,X0,X1,X2,X3,X4,X5,X6,X8,X9,Wa,Wd,We,Wf,Wg,Wh,Wi,Wj,Wl,Wm,Wn,Wo,Wp,Wq,Wr,Ws,Wt,Wu,Wv,Ww,Wx,Wy,Wz,W0,W1,W2,W3,W4,W5,W6,W7,W8,Yf,Yg,Yh,Yi,Yj,Yk,Yl,Ym,Yn,Yo,Yp,Yq,Yr,Ys,Yt,Yu,Yv,Yw,Yx,Yy,Yz,Y0,Y1,Y2,Y3,Y4,Y5,Y6,Y7,Y8,Y9,Va,Vb,Vc,Vd,Ve,Vf,Vg,Vh,Vi,Vj,Vk,Vl,Vm,Vn,Vo,Vp,Vq,Vr,Vs,Vt,Vu,Vv,Vw,Vx,Vy,Vz,V0,V1,V3,V4,V5,V6,V7,V8,V9,Ua,Ub,Uc,Ud,Ue,Uf,Ul,Um,Uq,Ur,Us,Ut,Uu,Uv,Uw,Ux,Uy,Uz,U0,U1,U3,U4,U5,U6,U7,U8,U9,Ka,Kb,Kc,Kd,Ke,Kf,Kg,Kh,Ki,Kj,Kk,Kl,Km,Kn,Ko,Kq,Kr,Ks,Kt,Ga,K8,Kz,Dm]
   tactic =>
    try simp only [K2] at *
    try simp only [nc2] at *
    try simp (maxSteps := 4000000) only [h,Tb,R2,isE_HitF,HitF_s,Gg]
    repeat' (first | with_reducible assumption | with_reducible refine And.intro ?_ ?_ | intro _ | omega | (rw [Ku]; omega))
    all_goals first
      | omega
      | assumption
      | exact ⟨hl, hl2⟩
      | rfl
      | skip)
def Du (s : List Int) (l : List (Sl Int)) : Bool := !l.any (Cs s)
theorem hitsL_eq (s : List Int) (l : List (Sl Int)) : (!l.any (Cs s)) = Du s l := rfl
def K6 : Con := L3 (fun (s : Sl Int) (l : Sl (Sl Int)) => Lo s.l.length ∧ Rw l.l) (fun s l => Du s.l l.l)
noncomputable def Ff : Ctx := ⟨tab, lkC [(32, Ma)], 60, lkB [], [], false⟩
theorem ctx_HitsH_t : Ff.τ = tab := rfl
theorem ctx_HitsH_c : Ff.Γ = lkC [(32, Ma)] := rfl
theorem ctx_HitsH_d : Ff.dp = 60 := rfl
theorem ctx_HitsH_b : Ff.Δ = lkB [] := rfl
theorem ctx_HitsH_u : Ff.cuts = [] := rfl
theorem ctx_HitsH_w : Ff.wr = false := rfl
theorem E8 : Me Try.prog (16, K6) := by
  refine ⟨Gj Try.func16 (by kernel_rfl) rfl, ?_⟩
  have K : Hq Try.prog Ff := Gq H8 G4 (by
    intro p hp
    simp only [List.mem_cons, List.not_mem_nil, or_false] at hp
    rcases hp with rfl
    · exact good_containsFuncSS) (by simp)
  obtain ⟨c, hc⟩ : ∃ c, Try.f16.body = some c := ⟨_, rfl⟩
  refine Gu K Try.func16 hc [.tmp 4] rfl 9 rfl (fun cvs hpre => ?_)
  change K6.pre cvs at hpre
  unfold K6 at hpre
  obtain ⟨⟨s⟩, ⟨l⟩, rfl, hs, hl, hl2⟩ := Hx hpre
  simp only at hs hl hl2
  clear hpre
  have h := hitsL_eq s l
  simp only [Try.f16, Option.some.injEq] at hc
  subst hc
  (sym =>
   simp [h,Tb,R2,isE_HitF,HitF_s,ctx_HitsH_t,ctx_HitsH_c,ctx_HitsH_d,ctx_HitsH_b,ctx_HitsH_u,ctx_HitsH_w,K6.eq_def,Ma.eq_def,Za,Zb,Zc,Ze,Zf,Zg,Zn,Zo,Zp,Zq,Zr,Zs,Zu,Zv,Z6,Z7,Z8,Z9,Qa,Qb,Qc,Qd,Qe,Qf,Qi,Qk,Ql,Qm,Qn,Qp,Qv,Qw,Qy,Q1,Q2,Q3,Q8,Ja,Jb,Jc,Jd,Je,Jl,Jq,Jr,Jx,Jy,Xb,Xc,Xd,Xe,Xf,Xg,Xh,Xi,Xj,Xk,Xl,Xm,Xn,Xq,Xs,Xt,Xu,Xv,Xw,Xx,Xy,Xz,X0,X1,X2,X3,X4,X5,X6,X8,X9,Wa,Wd,We,Wf,Wg,Wh,Wi,Wj,Wl,Wm,Wn,Wo,Wp,Wq,Wr,Ws,Wt,Wu,Wv,Ww,Wx,Wy,Wz,W0,W1,W2,W3,W4,W5,W6,W7,W8,Yf,Yg,Yh,Yi,Yj,Yk,Yl,Ym,Yn,Yo,Yp,Yq,Yr,Ys,Yt,Yu,Yv,Yw,Yx,Yy,Yz,Y0,Y1,Y2,Y3,Y4,Y5,Y6,Y7,Y8,Y9,Va,Vb,Vc,Vd,Ve,Vf,Vg,Vh,Vi,Vj,Vk,Vl,Vm,Vn,Vo,Vp,Vq,Vr,Vs,Vt,Vu,Vv,Vw,Vx,Vy,Vz,V0,V1,V3,V4,V5,V6,V7,V8,V9,Ua,Ub,Uc,Ud,Ue,Uf,Ul,Um,Uq,Ur,Us,Ut,Uu,Uv,Uw,Ux,Uy,Uz,U0,U1,U3,U4,U5,U6,U7,U8,U9,Ka,Kb,Kc,Kd,Ke,Kf,Kg,Kh,Ki,Kj,Kk,Kl,Km,Kn,Ko,Kq,Kr,Ks,Kt,Ga,G5,K8,Kz]
   tactic =>
    try simp only [K2] at *
    try simp only [nc2] at *
    try simp (maxSteps := 4000000) only [h,Tb,R2,isE_HitF,HitF_s,Gg]
    repeat' (first | with_reducible assumption | with_reducible refine And.intro ?_ ?_ | intro _ | omega | (rw [Ku]; omega))
    all_goals first
      | omega
      | assumption
      | exact ⟨hl, hl2⟩
      | rfl
      | skip)
def Mi (s : List Int) (t : Sl Int) : Bool := ltB (t.l.length : Int) (s.length : Int) && Sq t.l s
theorem lessPart_t {s t : List Int} (h : ltB (t.length : Int) (s.length : Int) = true) : Mi s ⟨t⟩ = Sq t s := by unfold Mi; rw [h, Bool.true_and]
theorem lessPart_f {s t : List Int} (h : ltB (t.length : Int) (s.length : Int) = false) : Mi s ⟨t⟩ = false := by unfold Mi; rw [h, Bool.false_and]
def Ns : Con := L3 (fun (t : Sl Int) (p : PS) => Lo t.l.length ∧ Lo p.s.length) (fun t p => Mi p.s t)
noncomputable def P7 : Ctx := ⟨tab, lkC [(39, B4)], 60, lkB [], [], false⟩
theorem Il : P7.τ = tab := rfl
theorem Io : P7.Γ = lkC [(39, B4)] := rfl
theorem Im : P7.dp = 60 := rfl
theorem Ip : P7.Δ = lkB [] := rfl
theorem Ik : P7.cuts = [] := rfl
theorem Ij : P7.wr = false := rfl
theorem good_Least_1_1H : Me Try.prog (38, Ns) := by
  refine ⟨Gj Try.func38 (by kernel_rfl) rfl, ?_⟩
  have K : Hq Try.prog P7 := Gq H8 G4 (by
    intro p hp
    simp only [List.mem_cons, List.not_mem_nil, or_false] at hp
    rcases hp with rfl
    · exact good_isPartH) (by simp)
  obtain ⟨c, hc⟩ : ∃ c, Try.f38.body = some c := ⟨_, rfl⟩
  refine Gu K Try.func38 hc [.tmp 3] rfl 14 rfl (fun cvs hpre => ?_)
  change Ns.pre cvs at hpre
  unfold Ns at hpre
  obtain ⟨⟨t⟩, ⟨s⟩, rfl, ht, hs⟩ := Hx hpre
  simp only at ht hs
  clear hpre
  cases hb : ltB (t.length : Int) (s.length : Int) with
  | true =>
    have hr := lessPart_t hb
    simp only [Try.f38, Option.some.injEq] at hc
    subst hc
    (sym =>
     simp [enc_PS,B9,Oo,hb,hr,Il,Io,Im,Ip,Ik,Ij,Ns.eq_def,B4.eq_def,Za,Zb,Zc,Zd,Ze,Zf,Zg,Zn,Zo,Zp,Zq,Zr,Zs,Zt,Zv,Z2,Z6,Z7,Z8,Z9,Qa,Qb,Qc,Qd,Qe,Qi,Qk,Ql,Qm,Qn,Qp,Qv,Qw,Qy,Q1,Q2,Q3,Q8,Ja,Jb,Jc,Jd,Je,Jl,Jq,Jr,Jx,Jy,Xb,Xc,Xd,Xe,Xf,Xg,Xh,Xi,Xj,Xk,Xl,Xm,Xn,Xq,Xs,Xt,Xu,Xv,Xw,Xx,Xy,Xz,X0,X1,X2,X3,X4,X5,X6,X8,X9,Wa,Wd,We,Wf,Wg,Wh,Wi,Wj,Wl,Wm,Wn,Wo,Wp,Wq,Wr,Ws,Wt,Wu,Wv,Ww,Wx,Wy,Wz,W0,W1,W2,W3,W4,W5,W6,W7,W8,Yf,Yg,Yh,Yi,Yj,Yk,Yl,Ym,Yn,Yo,Yp,Yq,Yr,Ys,Yt,Yu,Yv,Yw,Yx,Yy,Yz,Y0,Y1,Y2,Y3,Y4,Y5,Y6,Y7,Y8,Y9,Va,Vb,Vc,Vd,Ve,Vf,Vg,Vh,Vi,Vj,Vk,Vl,Vm,Vn,Vo,Vp,Vq,Vr,Vs,Vt,Vu,Vv,Vw,Vx,Vy,Vz,V0,V1,V3,V4,V5,V6,V7,V8,V9,Ua,Ub,Uc,Ud,Ue,Uf,Ul,Um,Uq,Ur,Us,Ut,Uu,Uv,Uw,Ux,Uy,Uz,U0,U1,U3,U4,U5,U6,U7,U8,U9,Ka,Kb,Kc,Kd,Ke,Kf,Kg,Kh,Ki,Kj,Kk,Kl,Km,Kn,Ko,Kq,Kr,Ks,Kt,Ga,Kz]
     tactic =>
      try simp only [K2] at *
      try simp only [nc2] at *
      try simp (maxSteps := 4000000) only [enc_PS,B9,Oo,hb,hr,Gg]
      repeat' (first | with_reducible assumption | with_reducible refine And.intro ?_ ?_ | intro _ | omega | (rw [Ku]; omega))
      all_goals first
        | omega
        | rfl
        | skip)
  | false =>
    have hr := lessPart_f hb
    simp only [Try.f38, Option.some.injEq] at hc
    subst hc
    (sym =>
     simp [enc_PS,B9,Oo,hb,hr,Il,Io,Im,Ip,Ik,Ij,Ns.eq_def,B4.eq_def,Za,Zb,Zc,Zd,Ze,Zf,Zg,Zn,Zo,Zp,Zq,Zr,Zs,Zt,Zv,Z2,Z6,Z7,Z8,Z9,Qa,Qb,Qc,Qd,Qe,Qi,Qk,Ql,Qm,Qn,Qp,Qv,Qw,Qy,Q1,Q2,Q3,Q8,Ja,Jb,Jc,Jd,Je,Jl,Jq,Jr,Jx,Jy,Xb,Xc,Xd,Xe,Xf,Xg,Xh,Xi,Xj,Xk,Xl,Xm,Xn,Xq,Xs,Xt,Xu,Xv,Xw,Xx,Xy,Xz,X0,X1,X2,X3,X4,X5,X6,X8,X9,Wa,Wd,We,Wf,Wg,Wh,Wi,Wj,Wl,Wm,Wn,Wo,Wp,Wq,Wr,Ws,Wt,Wu,Wv,Ww,Wx,Wy,Wz,W0,W1,W2,W3,W4,W5,W6,W7,W8,Yf,Yg,Yh,Yi,Yj,Yk,Yl,Ym,Yn,Yo,Yp,Yq,Yr,Ys,Yt,Yu,Yv,Yw,Yx,Yy,Yz,Y0,Y1,Y2,Y3,Y4,Y5,Y6,Y7,Y8,Y9,Va,Vb,Vc,Vd,Ve,Vf,Vg,Vh,Vi,Vj,Vk,Vl,Vm,Vn,Vo,Vp,Vq,Vr,Vs,Vt,Vu,Vv,Vw,Vx,Vy,Vz,V0,V1,V3,V4,V5,V6,V7,V8,V9,Ua,Ub,Uc,Ud,Ue,Uf,Ul,Um,Uq,Ur,Us,Ut,Uu,Uv,Uw,Ux,Uy,Uz,U0,U1,U3,U4,U5,U6,U7,U8,U9,Ka,Kb,Kc,Kd,Ke,Kf,Kg,Kh,Ki,Kj,Kk,Kl,Km,Kn,Ko,Kq,Kr,Ks,Kt,Ga,Kz])
structure LessF where
  s : List Int
instance encLessF : Enc LessF := ⟨fun p => .clo 38 [.ptr 1 (enc (Sl.mk p.s))], fun x => match x with
  | .clo _ [.ptr _ y] => ⟨(dec y : Sl Int).l⟩
  | _ => ⟨[]⟩, fun p => by
    show LessF.mk (dec (enc (Sl.mk p.s)) : Sl Int).l = p
    rw [Enc.dec_enc]⟩
theorem B1 {l : List Int} : (enc (LessF.mk l) : D) = .clo 38 [.ptr 1 (enc (Sl.mk l))] := rfl
theorem Oq {l : List Int} : (LessF.mk l).s = l := rfl
theorem E9 {l : List Int} : (dec (.clo 38 [.ptr 1 (enc (Sl.mk l))]) : LessF) = ⟨l⟩ := Enc.dec_enc (LessF.mk l)
theorem isE_LessF {l : List Int} : isE LessF (.clo 38 [.ptr 1 (enc (Sl.mk l))]) = True := eq_true (N7 (LessF.mk l))
def Ng : Con := L3 (fun (l : Sl (Sl Int)) (f : LessF) => Rw l.l ∧ Lo f.s.length) (fun l f => I1 (Mi f.s) l.l)
noncomputable def M4 : Ctx := ⟨tab, lkC [(38, Ns)], 60, lkB [], [], false⟩
theorem Ld : M4.τ = tab := rfl
theorem Lf : M4.Γ = lkC [(38, Ns)] := rfl
theorem Le : M4.dp = 60 := rfl
theorem Lg : M4.Δ = lkB [] := rfl
theorem Lb : M4.cuts = [] := rfl
theorem La : M4.wr = false := rfl
theorem good_indexFuncSS' : Me Try.prog (52, Ng) := by
  refine ⟨Gj Try.func52 (by kernel_rfl) rfl, ?_⟩
  have K : Hq Try.prog M4 := Gq H8 G4 (by
    intro p hp
    simp only [List.mem_cons, List.not_mem_nil, or_false] at hp
    rcases hp with rfl
    · exact good_Least_1_1H) (by simp)
  obtain ⟨c, hc⟩ : ∃ c, Try.f52.body = some c := ⟨_, rfl⟩
  refine Gu K Try.func52 hc [.tmp 4] rfl 19 rfl (fun cvs hpre => ?_)
  change Ng.pre cvs at hpre
  unfold Ng at hpre
  obtain ⟨⟨l⟩, ⟨v⟩, rfl, hpr⟩ := Hx hpre
  simp only at hpr
  obtain ⟨⟨hl, hl2⟩, hv⟩ := hpr
  clear hpre
  simp only [Try.f52, Option.some.injEq] at hc
  subst hc
  (sym =>
   simp [B1,Ld,Lf,Le,Lg,Lb,La,Ns.eq_def,Ng.eq_def,Za,Zb,Zc,Ze,Zf,Zg,Zn,Zo,Zp,Zq,Zr,Zs,Zv,Zx,Z2,Z6,Z7,Z8,Z9,Qa,Qb,Qc,Qd,Qe,Qi,Qj,Qk,Ql,Qm,Qn,Qp,Qv,Qw,Qy,Q1,Q2,Q3,Q8,Ja,Jb,Jc,Jd,Je,Jl,Jq,Jr,Js,Jt,Ju,Jx,Jy,Xb,Xc,Xd,Xe,Xf,Xg,Xh,Xi,Xj,Xk,Xl,Xm,Xn,Xq,Xs,Xt,Xu,Xv,Xw,Xx,Xy,Xz,X0,X1,X2,X3,X4,X5,X6,X7,X8,X9,Wa,Wd,We,Wf,Wg,Wh,Wi,Wj,Wl,Wm,Wn,Wo,Wp,Wq,Wr,Ws,Wt,Wu,Wv,Ww,Wx,Wy,Wz,W0,W1,W2,W3,W4,W5,W6,W7,W8,Ye,Yf,Yg,Yh,Yi,Yj,Yk,Yl,Ym,Yn,Yo,Yp,Yq,Yr,Ys,Yt,Yu,Yv,Yw,Yx,Yy,Yz,Y0,Y1,Y2,Y3,Y4,Y5,Y6,Y7,Y8,Y9,Va,Vb,Vc,Vd,Ve,Vf,Vg,Vh,Vi,Vj,Vk,Vl,Vm,Vn,Vo,Vp,Vq,Vr,Vs,Vt,Vu,Vv,Vw,Vx,Vy,Vz,V0,V1,V3,V4,V5,V6,V7,V8,V9,Ua,Ub,Uc,Ud,Ue,Uf,Ul,Um,Uq,Ur,Us,Ut,Uu,Uv,Uw,Ux,Uy,Uz,U0,U1,U3,U4,U5,U6,U7,U8,U9,Ka,Kb,Kc,Kd,Ke,Kf,Kg,Kh,Ki,Kj,Kk,Kl,Km,Kn,Ko,Kq,Kr,Ks,Kt,Ga,K8,Kz,Dm]
   tactic =>
    try simp only [K2] at *
    try simp only [nc2] at *
    try simp (maxSteps := 4000000) only [B1,Gg]
    refine Gi [4, 5, 9, 10, 11, 12, 13, 14, 15, 16, 17, 18] (fun k : Nat => [(8, .d (.int .i64 k))]) (fun k : Nat => []) (fun k : Nat => k ≤ l.length ∧ ∀ j, j < k → Mi v (l.getD j ⟨[]⟩) = false) (fun k : Nat => l.length - k) 0 ?_ ?_ ?_
    · simp
    · ((try simp only [Kv, Ky, Kx, K4, upd, K5, Gb, Gs, Nat.reduceDiv, Nat.reduceMod, Nat.reduceMul, Nat.reduceAdd, Nat.reduceEqDiff, List.set_cons_zero, List.set_cons_succ, if_true, if_false, reduceIte]); (first | refine Wk.of_fl ?_ | skip); simp only [Wk, wkK, Gy, wkT, wk1, AV.kept, keptAll, wkO, lk, Kw, and_true, true_and, and_self, Nat.reduceEqDiff, Nat.reduceLeDiff, if_true, if_false, reduceIte, reduceCtorEq, Option.isSome, false_implies]; try simp [Wk, wkK, wkT, wk1, AV.kept, keptAll, wkO, lk, Kw])
    rintro k ⟨hk, hno⟩
    rcases Gl k l.length with ⟨hlt, hlb⟩ | ⟨hlt, hlb⟩
    · have q1 := Hd (⟨[]⟩ : (Sl Int)) hlt
      have hst : Mi v (l.getD k ⟨[]⟩) = false → ∀ j, j < k + 1 → Mi v (l.getD j ⟨[]⟩) = false := fun h => upTo hno h
      have hit : Mi v (l.getD k ⟨[]⟩) = true → I1 (Mi v) l = k := fun h => idxP_at ⟨[]⟩ hlt hno h
      have lk := hl2 k
      obtain ⟨⟨x⟩, hx⟩ : ∃ x, l.getD k ⟨[]⟩ = x := ⟨_, rfl⟩
      rw [hx] at q1 hst hit lk
      simp only at lk
      cases hs : Mi v ⟨x⟩ with
      | false =>
        have h2 := hst hs
        (sym =>
         simp [hlb,q1,hs,B1,B9,Fr,Oo,Ld,Lf,Le,Lg,Lb,La,Ns.eq_def,Ng.eq_def,Za,Zb,Zc,Ze,Zf,Zg,Zn,Zo,Zp,Zq,Zr,Zs,Zv,Zx,Z2,Z6,Z7,Z8,Z9,Qa,Qb,Qc,Qd,Qe,Qi,Qj,Qk,Ql,Qm,Qn,Qp,Qv,Qw,Qy,Q1,Q2,Q3,Q8,Ja,Jb,Jc,Jd,Je,Jl,Jq,Jr,Js,Jt,Ju,Jx,Jy,Xb,Xc,Xd,Xe,Xf,Xg,Xh,Xi,Xj,Xk,Xl,Xm,Xn,Xq,Xs,Xt,Xu,Xv,Xw,Xx,Xy,Xz,X0,X1,X2,X3,X4,X5,X6,X7,X8,X9,Wa,Wd,We,Wf,Wg,Wh,Wi,Wj,Wl,Wm,Wn,Wo,Wp,Wq,Wr,Ws,Wt,Wu,Wv,Ww,Wx,Wy,Wz,W0,W1,W2,W3,W4,W5,W6,W7,W8,Ye,Yf,Yg,Yh,Yi,Yj,Yk,Yl,Ym,Yn,Yo,Yp,Yq,Yr,Ys,Yt,Yu,Yv,Yw,Yx,Yy,Yz,Y0,Y1,Y2,Y3,Y4,Y5,Y6,Y7,Y8,Y9,Va,Vb,Vc,Vd,Ve,Vf,Vg,Vh,Vi,Vj,Vk,Vl,Vm,Vn,Vo,Vp,Vq,Vr,Vs,Vt,Vu,Vv,Vw,Vx,Vy,Vz,V0,V1,V3,V4,V5,V6,V7,V8,V9,Ua,Ub,Uc,Ud,Ue,Uf,Ul,Um,Uq,Ur,Us,Ut,Uu,Uv,Uw,Ux,Uy,Uz,U0,U1,U3,U4,U5,U6,U7,U8,U9,Ka,Kb,Kc,Kd,Ke,Kf,Kg,Kh,Ki,Kj,Kk,Kl,Km,Kn,Ko,Kq,Kr,Ks,Kt,Ga,K8,Kz,Dm]
         tactic =>
          try simp only [K2] at *
          try simp only [nc2] at *
          try simp (maxSteps := 4000000) only [hlb,q1,hs,B1,B9,Fr,Oo,Gg]
          repeat' (first | with_reducible assumption | with_reducible refine And.intro ?_ ?_ | intro _ | omega | (rw [Ku]; omega))
          all_goals first
            | omega
            | assumption
            | exact ⟨hl, hl2⟩
            | exact ⟨hv1, hv2⟩
            | exact ⟨k + 1, by ((try simp only [Kv, Ky, Kx, K4, upd, K5, Gb, Gs, Nat.reduceDiv, Nat.reduceMod, Nat.reduceMul, Nat.reduceAdd, Nat.reduceEqDiff, List.set_cons_zero, List.set_cons_succ, if_true, if_false, reduceIte]); (first | refine Wk.of_fl ?_ | skip); simp only [Wk, wkK, Gy, wkT, wk1, AV.kept, keptAll, wkO, lk, Kw, and_true, true_and, and_self, Nat.reduceEqDiff, Nat.reduceLeDiff, if_true, if_false, reduceIte, reduceCtorEq, Option.isSome, false_implies]; try simp [Wk, wkK, wkT, wk1, AV.kept, keptAll, wkO, lk, Kw]), by omega, h2, by omega⟩
            | skip)
      | true =>
        have hr := hit hs
        (sym =>
         simp [hlb,q1,hs,hr,B1,E9,Oq,B9,Fr,Oo,Ld,Lf,Le,Lg,Lb,La,Ns.eq_def,Ng.eq_def,Za,Zb,Zc,Ze,Zf,Zg,Zn,Zo,Zp,Zq,Zr,Zs,Zv,Zx,Z2,Z6,Z7,Z8,Z9,Qa,Qb,Qc,Qd,Qe,Qi,Qj,Qk,Ql,Qm,Qn,Qp,Qv,Qw,Qy,Q1,Q2,Q3,Q8,Ja,Jb,Jc,Jd,Je,Jl,Jq,Jr,Js,Jt,Ju,Jx,Jy,Xb,Xc,Xd,Xe,Xf,Xg,Xh,Xi,Xj,Xk,Xl,Xm,Xn,Xq,Xs,Xt,Xu,Xv,Xw,Xx,Xy,Xz,X0,X1,X2,X3,X4,X5,X6,X7,X8,X9,Wa,Wd,We,Wf,Wg,Wh,Wi,Wj,Wl,Wm,Wn,Wo,Wp,Wq,Wr,Ws,Wt,Wu,Wv,Ww,Wx,Wy,Wz,W0,W1,W2,W3,W4,W5,W6,W7,W8,Ye,Yf,Yg,Yh,Yi,Yj,Yk,Yl,Ym,Yn,Yo,Yp,Yq,Yr,Ys,Yt,Yu,Yv,Yw,Yx,Yy,Yz,Y0,Y1,Y2,Y3,Y4,Y5,Y6,Y7,Y8,Y9,Va,Vb,Vc,Vd,Ve,Vf,Vg,Vh,Vi,Vj,Vk,Vl,Vm,Vn,Vo,Vp,Vq,Vr,Vs,Vt,Vu,Vv,Vw,Vx,Vy,Vz,V0,V1,V3,V4,V5,V6,V7,V8,V9,Ua,Ub,Uc,Ud,Ue,Uf,Ul,Um,Uq,Ur,Us,Ut,Uu,Uv,Uw,Ux,Uy,Uz,U0,U1,U3,U4,U5,U6,U7,U8,U9,Ka,Kb,Kc,Kd,Ke,Kf,Kg,Kh,Ki,Kj,Kk,Kl,Km,Kn,Ko,Kq,Kr,Ks,Kt,Ga,K8,Kz,Dm]
         tactic =>
          try simp only [K2] at *
          try simp only [nc2] at *
          try simp (maxSteps := 4000000) only [hlb,q1,hs,hr,B1,E9,Oq,B9,Fr,Oo,Gg]
          repeat' (first | with_reducible assumption | with_reducible refine And.intro ?_ ?_ | intro _ | omega | (rw [Ku]; omega))
          all_goals first
            | omega
            | assumption
            | exact ⟨hl, hl2⟩
            | exact ⟨hv1, hv2⟩
            | rfl
            | skip)
    · have hr := idxP_none (p := Mi v) (l := l) ⟨[]⟩ (fun j hj => hno j (by omega))
      (sym =>
       simp [hlb,hr,B1,E9,Oq,Ld,Lf,Le,Lg,Lb,La,Ns.eq_def,Ng.eq_def,Za,Zb,Zc,Ze,Zf,Zg,Zn,Zo,Zp,Zq,Zr,Zs,Zv,Zx,Z2,Z6,Z7,Z8,Z9,Qa,Qb,Qc,Qd,Qe,Qi,Qj,Qk,Ql,Qm,Qn,Qp,Qv,Qw,Qy,Q1,Q2,Q3,Q8,Ja,Jb,Jc,Jd,Je,Jl,Jq,Jr,Js,Jt,Ju,Jx,Jy,Xb,Xc,Xd,Xe,Xf,Xg,Xh,Xi,Xj,Xk,Xl,Xm,Xn,Xq,Xs,Xt,Xu,Xv,Xw,Xx,Xy,Xz,X0,X1,X2,X3,X4,X5,X6,X7,X8,X9,Wa,Wd,We,Wf,Wg,Wh,Wi,Wj,Wl,Wm,Wn,Wo,Wp,Wq,Wr,Ws,Wt,Wu,Wv,Ww,Wx,Wy,Wz,W0,W1,W2,W3,W4,W5,W6,W7,W8,Ye,Yf,Yg,Yh,Yi,Yj,Yk,Yl,Ym,Yn,Yo,Yp,Yq,Yr,Ys,Yt,Yu,Yv,Yw,Yx,Yy,Yz,Y0,Y1,Y2,Y3,Y4,Y5,Y6,Y7,Y8,Y9,Va,Vb,Vc,Vd,Ve,Vf,Vg,Vh,Vi,Vj,Vk,Vl,Vm,Vn,Vo,Vp,Vq,Vr,Vs,Vt,Vu,Vv,Vw,Vx,Vy,Vz,V0,V1,V3,V4,V5,V6,V7,V8,V9,Ua,Ub,Uc,Ud,Ue,Uf,Ul,Um,Uq,Ur,Us,Ut,Uu,Uv,Uw,Ux,Uy,Uz,U0,U1,U3,U4,U5,U6,U7,U8,U9,Ka,Kb,Kc,Kd,Ke,Kf,Kg,Kh,Ki,Kj,Kk,Kl,Km,Kn,Ko,Kq,Kr,Ks,Kt,Ga,K8,Kz,Dm]))
def N1 : Con := L3 (fun (l : Sl (Sl Int)) (f : LessF) => Rw l.l ∧ Lo f.s.length) (fun l f => l.l.any (Mi f.s))
noncomputable def N0 : Ctx := ⟨tab, lkC [(52, Ng)], 60, lkB [], [], false⟩
theorem O0 : N0.τ = tab := rfl
theorem O2 : N0.Γ = lkC [(52, Ng)] := rfl
theorem O1 : N0.dp = 60 := rfl
theorem O3 : N0.Δ = lkB [] := rfl
theorem Oz : N0.cuts = [] := rfl
theorem Oy : N0.wr = false := rfl
theorem good_containsFuncSS' : Me Try.prog (32, N1) := by
  refine ⟨Gj Try.func32 (by kernel_rfl) rfl, ?_⟩
  have K : Hq Try.prog N0 := Gq H8 G4 (by
    intro p hp
    simp only [List.mem_cons, List.not_mem_nil, or_false] at hp
    rcases hp with rfl
    · exact good_indexFuncSS') (by simp)
  obtain ⟨c, hc⟩ : ∃ c, Try.f32.body = some c := ⟨_, rfl⟩
  refine Gu K Try.func32 hc [.tmp 4] rfl 9 rfl (fun cvs hpre => ?_)
  change N1.pre cvs at hpre
  unfold N1 at hpre
  obtain ⟨⟨l⟩, ⟨v⟩, rfl, hpr⟩ := Hx hpre
  simp only at hpr
  obtain ⟨⟨hl, hl2⟩, hv⟩ := hpr
  clear hpre
  have h := idxP_any (p := Mi v) (l := l)
  simp only [Try.f32, Option.some.injEq] at hc
  subst hc
  (sym =>
   simp [h,B1,E9,isE_LessF,Oq,O0,O2,O1,O3,Oz,Oy,N1.eq_def,Ng.eq_def,Za,Zb,Zc,Ze,Zf,Zg,Zn,Zo,Zp,Zq,Zr,Zs,Zv,Z6,Z7,Z8,Z9,Qa,Qb,Qc,Qd,Qe,Qi,Qk,Ql,Qm,Qn,Qp,Qv,Qw,Qy,Q1,Q2,Q3,Q8,Ja,Jb,Jc,Jd,Je,Jl,Jq,Jr,Jx,Jy,Xb,Xc,Xd,Xe,Xf,Xg,Xh,Xi,Xj,Xk,Xl,Xm,Xn,Xq,Xs,Xt,Xu,Xv,Xw,Xx,Xy,Xz,X0,X1,X2,X3,X4,X5,X6,X8,X9,Wa,Wd,We,Wf,Wg,Wh,Wi,Wj,Wl,Wm,Wn,Wo,Wp,Wq,Wr,Ws,Wt,Wu,Wv,Ww,Wx,Wy,Wz,W0,W1,W2,W3,W4,W5,W6,W7,W8,Yf,Yg,Yh,Yi,Yj,Yk,Yl,Ym,Yn,Yo,Yp,Yq,Yr,Ys,Yt,Yu,Yv,Yw,Yx,Yy,Yz,Y0,Y1,Y2,Y3,Y4,Y5,Y6,Y7,Y8,Y9,Va,Vb,Vc,Vd,Ve,Vf,Vg,Vh,Vi,Vj,Vk,Vl,Vm,Vn,Vo,Vp,Vq,Vr,Vs,Vt,Vu,Vv,Vw,Vx,Vy,Vz,V0,V1,V3,V4,V5,V6,V7,V8,V9,Ua,Ub,Uc,Ud,Ue,Uf,Ul,Um,Uq,Ur,Us,Ut,Uu,Uv,Uw,Ux,Uy,Uz,U0,U1,U3,U4,U5,U6,U7,U8,U9,Ka,Kb,Kc,Kd,Ke,Kf,Kg,Kh,Ki,Kj,Kk,Kl,Km,Kn,Ko,Kq,Kr,Ks,Kt,Ga,K8,Kz,Dm]
   tactic =>
    try simp only [K2] at *
    try simp only [nc2] at *
    try simp (maxSteps := 4000000) only [h,B1,E9,isE_LessF,Oq,Gg]
    repeat' (first | with_reducible assumption | with_reducible refine And.intro ?_ ?_ | intro _ | omega | (rw [Ku]; omega))
    all_goals first
      | omega
      | assumption
      | exact ⟨hl, hl2⟩
      | rfl
      | skip)
def Mh (all : List (Sl Int)) (s : Sl Int) : Bool := all.any (Mi s.l)
theorem notLeast_eq (all : List (Sl Int)) (s : List Int) : all.any (Mi s) = Mh all ⟨s⟩ := rfl
def H4 : Con := L3 (fun (s : Sl Int) (p : PW) => Lo s.l.length ∧ Rw p.s) (fun s p => Mh p.s s)
noncomputable def Lj : Ctx := ⟨tab, lkC [(32, N1)], 60, lkB [], [], false⟩
theorem ctx_Least_1H_t : Lj.τ = tab := rfl
theorem ctx_Least_1H_c : Lj.Γ = lkC [(32, N1)] := rfl
theorem ctx_Least_1H_d : Lj.dp = 60 := rfl
theorem ctx_Least_1H_b : Lj.Δ = lkB [] := rfl
theorem ctx_Least_1H_u : Lj.cuts = [] := rfl
theorem ctx_Least_1H_w : Lj.wr = false := rfl
theorem good_Least_1H : Me Try.prog (37, H4) := by
  refine ⟨Gj Try.func37 (by kernel_rfl) rfl, ?_⟩
  have K : Hq Try.prog Lj := Gq H8 G4 (by
    intro p hp
    simp only [List.mem_cons, List.not_mem_nil, or_false] at hp
    rcases hp with rfl
    · exact good_containsFuncSS') (by simp)
  obtain ⟨c, hc⟩ : ∃ c, Try.f37.body = some c := ⟨_, rfl⟩
  refine Gu K Try.func37 hc [.tmp 3] rfl 7 rfl (fun cvs hpre => ?_)
  change H4.pre cvs at hpre
  unfold H4 at hpre
  obtain ⟨⟨s⟩, ⟨l⟩, rfl, hs, hl, hl2⟩ := Hx hpre
  simp only at hs hl hl2
  clear hpre
  have h := notLeast_eq l s
  simp only [Try.f37, Option.some.injEq] at hc
  subst hc
  (sym =>
   simp [h,enc_PW,A7,PW_s,B1,E9,isE_LessF,Oq,ctx_Least_1H_t,ctx_Least_1H_c,ctx_Least_1H_d,ctx_Least_1H_b,ctx_Least_1H_u,ctx_Least_1H_w,H4.eq_def,N1.eq_def,Za,Zb,Zc,Ze,Zf,Zg,Zn,Zo,Zp,Zq,Zr,Zs,Zu,Zv,Z6,Z7,Z8,Z9,Qa,Qb,Qc,Qd,Qe,Qf,Qi,Qk,Ql,Qm,Qn,Qp,Qv,Qw,Qy,Q1,Q2,Q3,Q8,Ja,Jb,Jc,Jd,Je,Jl,Jq,Jr,Jx,Jy,Xb,Xc,Xd,Xe,Xf,Xg,Xh,Xi,Xj,Xk,Xl,Xm,Xn,Xq,Xs,Xt,Xu,Xv,Xw,Xx,Xy,Xz,X0,X1,X2,X3,X4,X5,X6,X8,X9,Wa,Wd,We,Wf,Wg,Wh,Wi,Wj,Wl,Wm,Wn,Wo,Wp,Wq,Wr,Ws,Wt,Wu,Wv,Ww,Wx,Wy,Wz,W0,W1,W2,W3,W4,W5,W6,W7,W8,Yf,Yg,Yh,Yi,Yj,Yk,Yl,Ym,Yn,Yo,Yp,Yq,Yr,Ys,Yt,Yu,Yv,Yw,Yx,Yy,Yz,Y0,Y1,Y2,Y3,Y4,Y5,Y6,Y7,Y8,Y9,Va,Vb,Vc,Vd,Ve,Vf,Vg,Vh,Vi,Vj,Vk,Vl,Vm,Vn,Vo,Vp,Vq,Vr,Vs,Vt,Vu,Vv,Vw,Vx,Vy,Vz,V0,V1,V3,V4,V5,V6,V7,V8,V9,Ua,Ub,Uc,Ud,Ue,Uf,Ul,Um,Uq,Ur,Us,Ut,Uu,Uv,Uw,Ux,Uy,Uz,U0,U1,U3,U4,U5,U6,U7,U8,U9,Ka,Kb,Kc,Kd,Ke,Kf,Kg,Kh,Ki,Kj,Kk,Kl,Km,Kn,Ko,Kq,Kr,Ks,Kt,Ga,K8,Kz]
   tactic =>
    try simp only [K2] at *
    try simp only [nc2] at *
    try simp (maxSteps := 4000000) only [h,enc_PW,A7,PW_s,B1,E9,isE_LessF,Oq,Gg]
    repeat' (first | with_reducible assumption | with_reducible refine And.intro ?_ ?_ | intro _ | omega | (rw [Ku]; omega))
    all_goals first
      | omega
      | assumption
      | exact ⟨hl, hl2⟩
      | rfl
      | skip)
structure LeastF where
  s : List (Sl Int)
instance encLeastF : Enc LeastF := ⟨fun p => .clo 37 [.ptr 1 (enc (Sl.mk p.s))], fun x => match x with
  | .clo _ [.ptr _ y] => ⟨(dec y : Sl (Sl Int)).l⟩
  | _ => ⟨[]⟩, fun p => by
    show LeastF.mk (dec (enc (Sl.mk p.s)) : Sl (Sl Int)).l = p
    rw [Enc.dec_enc]⟩
theorem H9 {l : List (Sl Int)} : (enc (LeastF.mk l) : D) = .clo 37 [.ptr 1 (enc (Sl.mk l))] := rfl
theorem LeastF_s {l : List (Sl Int)} : (LeastF.mk l).s = l := rfl
theorem dec_LeastF {l : List (Sl Int)} : (dec (.clo 37 [.ptr 1 (enc (Sl.mk l))]) : LeastF) = ⟨l⟩ := Enc.dec_enc (LeastF.mk l)
end Go.Am.Hit
