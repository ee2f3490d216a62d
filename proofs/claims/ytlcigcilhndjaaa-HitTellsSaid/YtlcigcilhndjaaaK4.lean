/- Contracts of functions that the law reaches, and plain laws. Conditions: those that each contract states. -/
import Derived.Test.YtlcigcilhndjaaaK3
import Derived.Shelf.Slices.Cells
import Derived.Shelf.Slices.Empties
import Derived.Shelf.Spec.SlicesInsert
import Derived.Shelf.Spec.SlicesInsertGrow
import Derived.WalkKit
import Derived.WalkSmall
import Derived.BigCall
import Derived.Deep.LoopGhost
import Derived.Deep.Draws
import Derived.Shelf.RegionOpenPlain
import Derived.Shelf.SlSortCmp.Whole1
import Derived.Shelf.SlSortCmp.NoneTotal
set_option linter.unusedSimpArgs false
set_option linter.unusedVariables false
set_option maxHeartbeats 2000000
namespace Go.Am.Hit
open Go.Proofs
open Enc (enc dec)
def S0 {A B : Type} [Enc A] [Enc B] [Sz B] (p : A → Prop) (f : A → List B) : Con := ⟨[false], [true], fun c => match c with
  | [.d x] => isE A x ∧ p (dec x)
  | _ => False, fun c => match c with
  | [.d x] => .own (Sz.sz B) ((f (dec x)).map enc)
  | _ => .d .nilp⟩
theorem con1w_pre {A B : Type} [Enc A] [Enc B] [Sz B] {p : A → Prop} {f : A → List B} {c : List CV} (h : (S0 p f).pre c) : ∃ a, c = [.d (enc a)] ∧ p a := by
  unfold S0 at h
  simp only at h
  split at h
  · next x => exact ⟨dec x, by rw [← h.1], h.2⟩
  · exact h.elim
def P9 : Con := S0 (fun (t : Sl Int) => t.l.length ≤ 1000000000) (fun t => t.l)
noncomputable def Db : Ctx := ⟨tab, lkC [], 60, lkB [], [4], false⟩
theorem ctx_cloneS_t : Db.τ = tab := rfl
theorem ctx_cloneS_c : Db.Γ = lkC [] := rfl
theorem ctx_cloneS_d : Db.dp = 60 := rfl
theorem ctx_cloneS_b : Db.Δ = lkB [] := rfl
theorem ctx_cloneS_u : Db.cuts = [4] := rfl
theorem ctx_cloneS_w : Db.wr = false := rfl
theorem good_cloneS : Me Try.prog (42, P9) := by
  refine ⟨Gj Try.func42 (by kernel_rfl) rfl, ?_⟩
  have K : Hq Try.prog Db := Gq H8 G4 (by simp) (by simp)
  obtain ⟨c, hc⟩ : ∃ c, Try.f42.body = some c := ⟨_, rfl⟩
  refine Gu K Try.func42 hc [.tmp 2] rfl 8 rfl (fun cvs hpre => ?_)
  change P9.pre cvs at hpre
  unfold P9 at hpre
  obtain ⟨⟨l⟩, rfl, hl⟩ := con1w_pre hpre
  simp only at hl
  clear hpre
  simp only [Try.f42, Option.some.injEq] at hc
  subst hc
  (sym =>
   simp [S0.eq_def,ctx_cloneS_t,ctx_cloneS_c,ctx_cloneS_d,ctx_cloneS_b,ctx_cloneS_u,ctx_cloneS_w,P9.eq_def,Za,Zb,Zc,Ze,Zf,Zg,Zn,Zo,Zp,Zq,Zr,Zs,Zv,Zz,Z0,Z1,Z8,Z9,Qa,Qe,Qi,Qk,Ql,Qm,Qn,Qp,Qv,Qw,Qy,Q1,Q3,Q4,Q5,Q6,Q7,Q8,Q9,Ja,Jb,Jc,Jd,Je,Jl,Jq,Jr,Jx,Jy,J9,Xa,Xb,Xc,Xd,Xe,Xf,Xg,Xh,Xi,Xj,Xk,Xl,Xm,Xn,Xq,Xs,Xt,Xu,Xv,Xw,Xx,Xy,Xz,X0,X1,X2,X3,X4,X5,X6,X8,X9,Wa,Wd,We,Wf,Wg,Wh,Wi,Wj,Wl,Wm,Wn,Wo,Wp,Wq,Wr,Ws,Wt,Wu,Wv,Ww,Wx,Wy,Wz,W0,W1,W2,W3,W4,W5,W6,W7,W8,Yf,Yg,Yh,Yi,Yj,Yk,Yl,Ym,Yn,Yo,Yp,Yq,Yr,Ys,Yt,Yu,Yv,Yw,Yx,Yy,Yz,Y0,Y1,Y2,Y3,Y4,Y5,Y6,Y7,Y8,Y9,Va,Vb,Vc,Vd,Ve,Vf,Vg,Vh,Vi,Vj,Vk,Vl,Vm,Vn,Vo,Vp,Vq,Vr,Vs,Vt,Vu,Vv,Vw,Vx,Vy,Vz,V0,V1,V3,V4,V5,V6,V7,V8,V9,Ua,Ub,Uc,Ud,Ue,Uf,Ul,Um,Un,Uo,Uq,Ur,Us,Ut,Uu,Uv,Uw,Ux,Uy,Uz,U0,U1,U3,U4,U5,U6,U7,U8,U9,Ka,Kb,Kc,Kd,Ke,Kf,Kg,Kh,Ki,Kj,Kk,Kl,Km,Kn,Ko,Kq,Kr,Ks,Kt,Ga,Kz]
   tactic =>
    try simp only [K2] at *
    try simp only [nc2] at *
    try simp (maxSteps := 4000000) only [S0.eq_def,Gg]
    repeat' (first | with_reducible assumption | with_reducible refine And.intro ?_ ?_ | intro _ | omega | (rw [Ku]; omega))
    all_goals first
      | omega
      | rfl
      | simp_all
      | skip)
end Go.Am.Hit
set_option linter.unusedSimpArgs false
set_option linter.unusedVariables false
set_option maxHeartbeats 2000000
namespace Go.Am.Hit
open Go.Proofs
open Enc (enc dec)
theorem countP_at {l : List Int} {x : Int} {k : Nat} (hk : k ≤ l.length) (h1 : ∀ j, j < k → l.getD j 0 < x) (h2 : ∀ j, k ≤ j → j < l.length → x ≤ l.getD j 0) : l.countP (fun y => decide (y < x)) = k := by
  rw [← List.take_append_drop k l, List.countP_append]
  have e1 : (l.take k).countP (fun y => decide (y < x)) = (l.take k).length := by
    rw [List.countP_eq_length]
    intro a ha
    obtain ⟨j, hj, rfl⟩ := List.getElem_of_mem ha
    have hj' : j < k := by rw [List.length_take] at hj; omega
    have := h1 j hj'
    simpa [show j < l.length by omega] using this
  have e2 : (l.drop k).countP (fun y => decide (y < x)) = 0 := by
    rw [List.countP_eq_zero]
    intro a ha
    obtain ⟨j, hj, rfl⟩ := List.getElem_of_mem ha
    have hj' : k + j < l.length := by rw [List.length_drop] at hj; omega
    have := h2 (k + j) (by omega) hj'
    simpa [hj'] using this
  rw [e1, e2, List.length_take]
  omega
theorem contains_at {l : List Int} {x : Int} {k : Nat} (h1 : ∀ j, j < k → l.getD j 0 < x) (h2 : ∀ j, k ≤ j → j < l.length → x ≤ l.getD j 0) (hs : l.Pairwise (· < ·)) : inB l x = (decide (k < l.length) && l.getD k 0 == x) := by
  by_cases hk : k < l.length
  · by_cases hx : l.getD k 0 = x
    · rw [hx]
      simp only [hk, decide_true, beq_self_eq_true, Bool.and_self]
      exact any_at 0 k hk (by simpa using hx)
    · have : (l.getD k 0 == x) = false := by simpa using hx
      rw [this, Bool.and_false]
      refine any_not 0 fun j hj => ?_
      rw [beq_eq_false_iff_ne]
      intro hjd
      rcases Nat.lt_trichotomy j k with h | h | h
      · have := h1 j h; omega
      · subst h; exact hx hjd
      · have h3 := List.pairwise_iff_getElem.1 hs k j hk hj h
        have h4 := h2 k (Nat.le_refl _) hk
        have : l.getD k 0 < l.getD j 0 := by simpa [hk, hj] using h3
        omega
  · rw [decide_eq_false hk, Bool.false_and]
    refine any_not 0 fun j hj => ?_
    rw [beq_eq_false_iff_ne]
    intro hjd
    have := h1 j (by omega)
    omega
def less (l : List Int) (x : Int) : Nat := l.countP fun y => decide (y < x)
def Hf (l : List Int) : Prop := l.Pairwise (· < ·)
theorem less_le (l : List Int) (x : Int) : less l x ≤ l.length := List.countP_le_length
def H1 : Con := B5 (fun (l : Sl Int) (_ : Int) => l.l.length ≤ 1000000 ∧ Hf l.l) (fun l x => ((less l.l x : Int), inB l.l x))
noncomputable def Ml : Ctx := ⟨tab, lkC [(59, N8), (60, Pk)], 60, lkB [], [], false⟩
theorem Mv : Ml.τ = tab := rfl
theorem Mx : Ml.Γ = lkC [(59, N8), (60, Pk)] := rfl
theorem Mw : Ml.dp = 60 := rfl
theorem My : Ml.Δ = lkB [] := rfl
theorem Mu : Ml.cuts = [] := rfl
theorem Mt : Ml.wr = false := rfl
set_option maxRecDepth 100000 in
theorem good_binarySearchS : Me Try.prog (50, H1) := by
  refine ⟨Gj Try.func50 (by kernel_rfl) rfl, ?_⟩
  have K : Hq Try.prog Ml := Gq H8 G4 (by
    intro p hp
    simp only [List.mem_cons, List.not_mem_nil, or_false] at hp
    rcases hp with rfl | rfl
    · exact good_cmpLessI
    · exact good_isNaNI) (by simp)
  obtain ⟨c, hc⟩ : ∃ c, Try.f50.body = some c := ⟨_, rfl⟩
  refine Gu K Try.func50 hc [.tmp 4, .tmp 5] rfl 54 rfl (fun cvs hpre => ?_)
  change H1.pre cvs at hpre
  unfold H1 at hpre
  obtain ⟨⟨l⟩, x, rfl, hl, hsrt⟩ := con2t_pre hpre
  simp only at hl hsrt
  clear hpre
  simp only [Try.f50, Option.some.injEq] at hc
  subst hc
  refine Hy 3 (of_decide_eq_true (by kernel_rfl)) ?_
  (sym =>
   simp [Mv,Mx,Mw,My,Mu,Mt,H1.eq_def,N8.eq_def,Pk.eq_def,Za,Zb,Zc,Zd,Ze,Zf,Zg,Zn,Zo,Zp,Zq,Zr,Zs,Zt,Zv,Zx,Z2,Z4,Z6,Z7,Z8,Z9,Qa,Qb,Qc,Qd,Qe,Qi,Qj,Qk,Ql,Qm,Qn,Qp,Qv,Qw,Qy,Q1,Q2,Q3,Q8,Ja,Jb,Jc,Jd,Je,Jl,Jp,Jq,Jr,Js,Jt,Ju,Jx,Jy,Jz,J0,J1,J2,J3,J4,J5,J6,J7,J8,Xb,Xc,Xd,Xe,Xf,Xg,Xh,Xi,Xj,Xk,Xl,Xm,Xn,Xo,Xp,Xq,Xs,Xt,Xu,Xv,Xw,Xx,Xy,Xz,X0,X1,X2,X3,X4,X5,X6,X7,X8,X9,Wa,Wd,We,Wf,Wg,Wh,Wi,Wj,Wl,Wm,Wn,Wo,Wp,Wq,Wr,Ws,Wt,Wu,Wv,Ww,Wx,Wy,Wz,W0,W1,W2,W3,W4,W5,W6,W7,W8,Yb,Yc,Yd,Ye,Yf,Yg,Yh,Yi,Yj,Yk,Yl,Ym,Yn,Yo,Yp,Yq,Yr,Ys,Yt,Yu,Yv,Yw,Yx,Yy,Yz,Y0,Y1,Y2,Y3,Y4,Y5,Y6,Y7,Y8,Y9,Va,Vb,Vc,Vd,Ve,Vf,Vg,Vh,Vi,Vj,Vk,Vl,Vm,Vn,Vo,Vp,Vq,Vr,Vs,Vt,Vu,Vv,Vw,Vx,Vy,Vz,V0,V1,V3,V4,V5,V6,V7,V8,V9,Ua,Ub,Uc,Ud,Ue,Uf,Ul,Um,Uq,Ur,Us,Ut,Uu,Uv,Uw,Ux,Uy,Uz,U0,U1,U3,U4,U5,U6,U7,U8,U9,Ka,Kb,Kc,Kd,Ke,Kf,Kg,Kh,Ki,Kj,Kk,Kl,Km,Kn,Ko,Kq,Kr,Ks,Kt,Ga,Kz,tab56]
   tactic =>
    try simp only [K2] at *
    try simp only [nc2] at *
    try simp (maxSteps := 4000000) only [Gg]
    refine Gi [9, 13, 14, 15, 16, 17, 18, 19, 20, 21, 22, 23, 24, 25, 26, 27, 28, 29, 30] (fun p : Nat × Nat => [(7, .d (.int .i64 p.1)), (8, .d (.int .i64 p.2))]) (fun p : Nat × Nat => []) (fun p : Nat × Nat => p.1 ≤ p.2 ∧ p.2 ≤ l.length ∧ (∀ j, j < p.1 → l.getD j 0 < x) ∧ ∀ j, p.2 ≤ j → j < l.length → x ≤ l.getD j 0) (fun p : Nat × Nat => p.2 - p.1) (0, l.length) ?_ ?_ ?_
    · refine ⟨Nat.zero_le _, Nat.le_refl _, fun j hj => by simp at hj, fun j h1 h2 => by simp only at h1; omega⟩
    · ((try simp only [Kv, Ky, Kx, K4, upd, K5, Gb, Gs, Nat.reduceDiv, Nat.reduceMod, Nat.reduceMul, Nat.reduceAdd, Nat.reduceEqDiff, List.set_cons_zero, List.set_cons_succ, if_true, if_false, reduceIte]); (first | refine Wk.of_fl ?_ | skip); simp only [Wk, wkK, Gy, wkT, wk1, AV.kept, keptAll, wkO, lk, Kw, and_true, true_and, and_self, Nat.reduceEqDiff, Nat.reduceLeDiff, if_true, if_false, reduceIte, reduceCtorEq, Option.isSome, false_implies]; try simp [Wk, wkK, wkT, wk1, AV.kept, keptAll, wkO, lk, Kw])
    rintro ⟨lo, hi⟩ ⟨h1, h2, h3, h4⟩
    simp only at h1 h2 h3 h4
    have sle : ∀ i j, i ≤ j → j < l.length → l.getD i 0 ≤ l.getD j 0 := by
      intro i j hij hj
      rcases Nat.lt_or_ge i j with h | h
      · have := List.pairwise_iff_getElem.1 hsrt i j (by omega) hj h
        have h5 : l.getD i 0 < l.getD j 0 := by simpa [hj, show i < l.length by omega] using this
        omega
      · have : i = j := by omega
        subst this
        exact Int.le_refl _
    rcases Gl lo hi with ⟨hlt, hlb⟩ | ⟨hlt, hlb⟩
    · obtain ⟨m, hm⟩ : ∃ m, m = (lo + hi) / 2 := ⟨_, rfl⟩
      have hh : ((lo : Int) + (hi : Int)).fdiv 2 = (m : Int) := by
        rw [Int.fdiv_eq_ediv_of_nonneg _ (by decide)]
        omega
      have hml : m < l.length := by omega
      have q1 := Hd (0 : Int) hml
      cases hx : ltB (l.getD m 0) x with
      | true =>
        (sym =>
         simp [hlb,hh,q1,hx,Mv,Mx,Mw,My,Mu,Mt,H1.eq_def,N8.eq_def,Pk.eq_def,Za,Zb,Zc,Zd,Ze,Zf,Zg,Zn,Zo,Zp,Zq,Zr,Zs,Zt,Zv,Zx,Z2,Z4,Z6,Z7,Z8,Z9,Qa,Qb,Qc,Qd,Qe,Qi,Qj,Qk,Ql,Qm,Qn,Qp,Qv,Qw,Qy,Q1,Q2,Q3,Q8,Ja,Jb,Jc,Jd,Je,Jl,Jp,Jq,Jr,Js,Jt,Ju,Jx,Jy,Jz,J0,J1,J2,J3,J4,J5,J6,J7,J8,Xb,Xc,Xd,Xe,Xf,Xg,Xh,Xi,Xj,Xk,Xl,Xm,Xn,Xo,Xp,Xq,Xs,Xt,Xu,Xv,Xw,Xx,Xy,Xz,X0,X1,X2,X3,X4,X5,X6,X7,X8,X9,Wa,Wd,We,Wf,Wg,Wh,Wi,Wj,Wl,Wm,Wn,Wo,Wp,Wq,Wr,Ws,Wt,Wu,Wv,Ww,Wx,Wy,Wz,W0,W1,W2,W3,W4,W5,W6,W7,W8,Yb,Yc,Yd,Ye,Yf,Yg,Yh,Yi,Yj,Yk,Yl,Ym,Yn,Yo,Yp,Yq,Yr,Ys,Yt,Yu,Yv,Yw,Yx,Yy,Yz,Y0,Y1,Y2,Y3,Y4,Y5,Y6,Y7,Y8,Y9,Va,Vb,Vc,Vd,Ve,Vf,Vg,Vh,Vi,Vj,Vk,Vl,Vm,Vn,Vo,Vp,Vq,Vr,Vs,Vt,Vu,Vv,Vw,Vx,Vy,Vz,V0,V1,V3,V4,V5,V6,V7,V8,V9,Ua,Ub,Uc,Ud,Ue,Uf,Ul,Um,Uq,Ur,Us,Ut,Uu,Uv,Uw,Ux,Uy,Uz,U0,U1,U3,U4,U5,U6,U7,U8,U9,Ka,Kb,Kc,Kd,Ke,Kf,Kg,Kh,Ki,Kj,Kk,Kl,Km,Kn,Ko,Kq,Kr,Ks,Kt,Ga,Kz,tab56]
         tactic =>
          try simp only [K2] at *
          try simp only [nc2] at *
          try simp (maxSteps := 4000000) only [hlb,hh,q1,hx,Gg]
          repeat' (first | with_reducible assumption | with_reducible refine And.intro ?_ ?_ | intro _ | omega | (rw [Ku]; omega))
          all_goals first
            | omega
            | (rw [Ku]; omega)
            | (rw [inR_u64]; omega)
            | decide
            | skip
          refine ⟨(m + 1, hi), by ((try simp only [Kv, Ky, Kx, K4, upd, K5, Gb, Gs, Nat.reduceDiv, Nat.reduceMod, Nat.reduceMul, Nat.reduceAdd, Nat.reduceEqDiff, List.set_cons_zero, List.set_cons_succ, if_true, if_false, reduceIte]); (first | refine Wk.of_fl ?_ | skip); simp only [Wk, wkK, Gy, wkT, wk1, AV.kept, keptAll, wkO, lk, Kw, and_true, true_and, and_self, Nat.reduceEqDiff, Nat.reduceLeDiff, if_true, if_false, reduceIte, reduceCtorEq, Option.isSome, false_implies]; try simp [Wk, wkK, wkT, wk1, AV.kept, keptAll, wkO, lk, Kw]), by simp only; omega, by simp only; omega, fun j hj => ?_, fun j hj1 hj2 => h4 j hj1 hj2, by simp only; omega⟩
          rw [Nr] at hx
          have := sle j m (by simp only at hj; omega) hml
          omega)
      | false =>
        (sym =>
         simp [hlb,hh,q1,hx,Mv,Mx,Mw,My,Mu,Mt,H1.eq_def,N8.eq_def,Pk.eq_def,Za,Zb,Zc,Zd,Ze,Zf,Zg,Zn,Zo,Zp,Zq,Zr,Zs,Zt,Zv,Zx,Z2,Z4,Z6,Z7,Z8,Z9,Qa,Qb,Qc,Qd,Qe,Qi,Qj,Qk,Ql,Qm,Qn,Qp,Qv,Qw,Qy,Q1,Q2,Q3,Q8,Ja,Jb,Jc,Jd,Je,Jl,Jp,Jq,Jr,Js,Jt,Ju,Jx,Jy,Jz,J0,J1,J2,J3,J4,J5,J6,J7,J8,Xb,Xc,Xd,Xe,Xf,Xg,Xh,Xi,Xj,Xk,Xl,Xm,Xn,Xo,Xp,Xq,Xs,Xt,Xu,Xv,Xw,Xx,Xy,Xz,X0,X1,X2,X3,X4,X5,X6,X7,X8,X9,Wa,Wd,We,Wf,Wg,Wh,Wi,Wj,Wl,Wm,Wn,Wo,Wp,Wq,Wr,Ws,Wt,Wu,Wv,Ww,Wx,Wy,Wz,W0,W1,W2,W3,W4,W5,W6,W7,W8,Yb,Yc,Yd,Ye,Yf,Yg,Yh,Yi,Yj,Yk,Yl,Ym,Yn,Yo,Yp,Yq,Yr,Ys,Yt,Yu,Yv,Yw,Yx,Yy,Yz,Y0,Y1,Y2,Y3,Y4,Y5,Y6,Y7,Y8,Y9,Va,Vb,Vc,Vd,Ve,Vf,Vg,Vh,Vi,Vj,Vk,Vl,Vm,Vn,Vo,Vp,Vq,Vr,Vs,Vt,Vu,Vv,Vw,Vx,Vy,Vz,V0,V1,V3,V4,V5,V6,V7,V8,V9,Ua,Ub,Uc,Ud,Ue,Uf,Ul,Um,Uq,Ur,Us,Ut,Uu,Uv,Uw,Ux,Uy,Uz,U0,U1,U3,U4,U5,U6,U7,U8,U9,Ka,Kb,Kc,Kd,Ke,Kf,Kg,Kh,Ki,Kj,Kk,Kl,Km,Kn,Ko,Kq,Kr,Ks,Kt,Ga,Kz,tab56]
         tactic =>
          try simp only [K2] at *
          try simp only [nc2] at *
          try simp (maxSteps := 4000000) only [hlb,hh,q1,hx,Gg]
          repeat' (first | with_reducible assumption | with_reducible refine And.intro ?_ ?_ | intro _ | omega | (rw [Ku]; omega))
          all_goals first
            | omega
            | (rw [Ku]; omega)
            | (rw [inR_u64]; omega)
            | decide
            | skip
          refine ⟨(lo, m), by ((try simp only [Kv, Ky, Kx, K4, upd, K5, Gb, Gs, Nat.reduceDiv, Nat.reduceMod, Nat.reduceMul, Nat.reduceAdd, Nat.reduceEqDiff, List.set_cons_zero, List.set_cons_succ, if_true, if_false, reduceIte]); (first | refine Wk.of_fl ?_ | skip); simp only [Wk, wkK, Gy, wkT, wk1, AV.kept, keptAll, wkO, lk, Kw, and_true, true_and, and_self, Nat.reduceEqDiff, Nat.reduceLeDiff, if_true, if_false, reduceIte, reduceCtorEq, Option.isSome, false_implies]; try simp [Wk, wkK, wkT, wk1, AV.kept, keptAll, wkO, lk, Kw]), by simp only; omega, by simp only; omega, fun j hj => h3 j hj, fun j hj1 hj2 => ?_, by simp only; omega⟩
          rw [Hg] at hx
          have := sle m j (by simp only at hj1; omega) hj2
          omega)
    · have he : lo = hi := by omega
      subst he
      have e1 : less l x = lo := countP_at h2 h3 h4
      have e2 := contains_at h3 h4 hsrt
      rcases Gl lo l.length with ⟨hlo, hlob⟩ | ⟨hlo, hlob⟩
      · have q1 := Hd (0 : Int) hlo
        rw [decide_eq_true hlo, Bool.true_and] at e2
        cases hx : (l.getD lo 0 == x) with
        | true =>
          rw [hx] at e2
          (sym =>
           simp [hlb,hlob,q1,hx,e1,e2,B5.eq_def,Mv,Mx,Mw,My,Mu,Mt,H1.eq_def,N8.eq_def,Pk.eq_def,Za,Zb,Zc,Zd,Ze,Zf,Zg,Zn,Zo,Zp,Zq,Zr,Zs,Zt,Zv,Zx,Z2,Z4,Z6,Z7,Z8,Z9,Qa,Qb,Qc,Qd,Qe,Qi,Qj,Qk,Ql,Qm,Qn,Qp,Qv,Qw,Qy,Q1,Q2,Q3,Q8,Ja,Jb,Jc,Jd,Je,Jl,Jp,Jq,Jr,Js,Jt,Ju,Jx,Jy,Jz,J0,J1,J2,J3,J4,J5,J6,J7,J8,Xb,Xc,Xd,Xe,Xf,Xg,Xh,Xi,Xj,Xk,Xl,Xm,Xn,Xo,Xp,Xq,Xs,Xt,Xu,Xv,Xw,Xx,Xy,Xz,X0,X1,X2,X3,X4,X5,X6,X7,X8,X9,Wa,Wd,We,Wf,Wg,Wh,Wi,Wj,Wl,Wm,Wn,Wo,Wp,Wq,Wr,Ws,Wt,Wu,Wv,Ww,Wx,Wy,Wz,W0,W1,W2,W3,W4,W5,W6,W7,W8,Yb,Yc,Yd,Ye,Yf,Yg,Yh,Yi,Yj,Yk,Yl,Ym,Yn,Yo,Yp,Yq,Yr,Ys,Yt,Yu,Yv,Yw,Yx,Yy,Yz,Y0,Y1,Y2,Y3,Y4,Y5,Y6,Y7,Y8,Y9,Va,Vb,Vc,Vd,Ve,Vf,Vg,Vh,Vi,Vj,Vk,Vl,Vm,Vn,Vo,Vp,Vq,Vr,Vs,Vt,Vu,Vv,Vw,Vx,Vy,Vz,V0,V1,V3,V4,V5,V6,V7,V8,V9,Ua,Ub,Uc,Ud,Ue,Uf,Ul,Um,Uq,Ur,Us,Ut,Uu,Uv,Uw,Ux,Uy,Uz,U0,U1,U3,U4,U5,U6,U7,U8,U9,Ka,Kb,Kc,Kd,Ke,Kf,Kg,Kh,Ki,Kj,Kk,Kl,Km,Kn,Ko,Kq,Kr,Ks,Kt,Ga,Kz,tab56]
           tactic =>
            try simp only [K2] at *
            try simp only [nc2] at *
            try simp (maxSteps := 4000000) only [hlb,hlob,q1,hx,e1,e2,B5.eq_def,Gg]
            repeat' (first | with_reducible assumption | with_reducible refine And.intro ?_ ?_ | intro _ | omega | (rw [Ku]; omega))
            all_goals first
              | omega
              | rfl
              | skip)
        | false =>
          rw [hx] at e2
          (sym =>
           simp [hlb,hlob,q1,hx,e1,e2,B5.eq_def,Mv,Mx,Mw,My,Mu,Mt,H1.eq_def,N8.eq_def,Pk.eq_def,Za,Zb,Zc,Zd,Ze,Zf,Zg,Zn,Zo,Zp,Zq,Zr,Zs,Zt,Zv,Zx,Z2,Z4,Z6,Z7,Z8,Z9,Qa,Qb,Qc,Qd,Qe,Qi,Qj,Qk,Ql,Qm,Qn,Qp,Qv,Qw,Qy,Q1,Q2,Q3,Q8,Ja,Jb,Jc,Jd,Je,Jl,Jp,Jq,Jr,Js,Jt,Ju,Jx,Jy,Jz,J0,J1,J2,J3,J4,J5,J6,J7,J8,Xb,Xc,Xd,Xe,Xf,Xg,Xh,Xi,Xj,Xk,Xl,Xm,Xn,Xo,Xp,Xq,Xs,Xt,Xu,Xv,Xw,Xx,Xy,Xz,X0,X1,X2,X3,X4,X5,X6,X7,X8,X9,Wa,Wd,We,Wf,Wg,Wh,Wi,Wj,Wl,Wm,Wn,Wo,Wp,Wq,Wr,Ws,Wt,Wu,Wv,Ww,Wx,Wy,Wz,W0,W1,W2,W3,W4,W5,W6,W7,W8,Yb,Yc,Yd,Ye,Yf,Yg,Yh,Yi,Yj,Yk,Yl,Ym,Yn,Yo,Yp,Yq,Yr,Ys,Yt,Yu,Yv,Yw,Yx,Yy,Yz,Y0,Y1,Y2,Y3,Y4,Y5,Y6,Y7,Y8,Y9,Va,Vb,Vc,Vd,Ve,Vf,Vg,Vh,Vi,Vj,Vk,Vl,Vm,Vn,Vo,Vp,Vq,Vr,Vs,Vt,Vu,Vv,Vw,Vx,Vy,Vz,V0,V1,V3,V4,V5,V6,V7,V8,V9,Ua,Ub,Uc,Ud,Ue,Uf,Ul,Um,Uq,Ur,Us,Ut,Uu,Uv,Uw,Ux,Uy,Uz,U0,U1,U3,U4,U5,U6,U7,U8,U9,Ka,Kb,Kc,Kd,Ke,Kf,Kg,Kh,Ki,Kj,Kk,Kl,Km,Kn,Ko,Kq,Kr,Ks,Kt,Ga,Kz,tab56]
           tactic =>
            try simp only [K2] at *
            try simp only [nc2] at *
            try simp (maxSteps := 4000000) only [hlb,hlob,q1,hx,e1,e2,B5.eq_def,Gg]
            repeat' (first | with_reducible assumption | with_reducible refine And.intro ?_ ?_ | intro _ | omega | (rw [Ku]; omega))
            all_goals first
              | omega
              | rfl
              | skip)
      · rw [decide_eq_false (by omega), Bool.false_and] at e2
        (sym =>
         simp [hlb,hlob,e1,e2,B5.eq_def,Mv,Mx,Mw,My,Mu,Mt,H1.eq_def,N8.eq_def,Pk.eq_def,Za,Zb,Zc,Zd,Ze,Zf,Zg,Zn,Zo,Zp,Zq,Zr,Zs,Zt,Zv,Zx,Z2,Z4,Z6,Z7,Z8,Z9,Qa,Qb,Qc,Qd,Qe,Qi,Qj,Qk,Ql,Qm,Qn,Qp,Qv,Qw,Qy,Q1,Q2,Q3,Q8,Ja,Jb,Jc,Jd,Je,Jl,Jp,Jq,Jr,Js,Jt,Ju,Jx,Jy,Jz,J0,J1,J2,J3,J4,J5,J6,J7,J8,Xb,Xc,Xd,Xe,Xf,Xg,Xh,Xi,Xj,Xk,Xl,Xm,Xn,Xo,Xp,Xq,Xs,Xt,Xu,Xv,Xw,Xx,Xy,Xz,X0,X1,X2,X3,X4,X5,X6,X7,X8,X9,Wa,Wd,We,Wf,Wg,Wh,Wi,Wj,Wl,Wm,Wn,Wo,Wp,Wq,Wr,Ws,Wt,Wu,Wv,Ww,Wx,Wy,Wz,W0,W1,W2,W3,W4,W5,W6,W7,W8,Yb,Yc,Yd,Ye,Yf,Yg,Yh,Yi,Yj,Yk,Yl,Ym,Yn,Yo,Yp,Yq,Yr,Ys,Yt,Yu,Yv,Yw,Yx,Yy,Yz,Y0,Y1,Y2,Y3,Y4,Y5,Y6,Y7,Y8,Y9,Va,Vb,Vc,Vd,Ve,Vf,Vg,Vh,Vi,Vj,Vk,Vl,Vm,Vn,Vo,Vp,Vq,Vr,Vs,Vt,Vu,Vv,Vw,Vx,Vy,Vz,V0,V1,V3,V4,V5,V6,V7,V8,V9,Ua,Ub,Uc,Ud,Ue,Uf,Ul,Um,Uq,Ur,Us,Ut,Uu,Uv,Uw,Ux,Uy,Uz,U0,U1,U3,U4,U5,U6,U7,U8,U9,Ka,Kb,Kc,Kd,Ke,Kf,Kg,Kh,Ki,Kj,Kk,Kl,Km,Kn,Ko,Kq,Kr,Ks,Kt,Ga,Kz,tab56]))
end Go.Am.Hit
set_option linter.unusedSimpArgs false
set_option linter.unusedVariables false
set_option maxHeartbeats 2000000
namespace Go.Am.Hit
open Go.Proofs Go.Shelf
open Go.RowKit (Below)
open Enc (enc dec)
def rho : Ren := ⟨fun x => if x = 21 then 51 else if x = 27 then 61 else if x = 28 then 62 else if x = 35 then 75 else if x = 39 then 81 else x, fun x => if x = 22 then 29 else x, fun x => x⟩
theorem RE_ints {F : Fix} : ∀ {l : List Int} {vs : List Value}, RE F 1 (l.map enc) vs ↔ vs = l.map (Value.int .i64)
  | [], vs => by simp [RE]
  | x :: l, vs => by
    simp only [List.map_cons, RE, encI_def, R]
    constructor
    · rintro ⟨v, r, rfl, _, _, rfl, h⟩
      have h' : RE F 1 (l.map enc) r := h
      rw [RE_ints.1 h']
      simp [Value.cells]
    · rintro rfl
      refine ⟨.int .i64 x, l.map (Value.int .i64), by simp [Value.cells], by simp [Value.cells], by simp [Value.cells, Value.oneCell'], rfl, ?_⟩
      exact RE_ints.2 rfl
theorem seg_set {α : Type} (l : List α) (o : Nat) (v : α) (vs : List α) (h : o < l.length) : (l.set o v).take (o + 1) ++ vs ++ (l.set o v).drop (o + 1 + vs.length) = l.take o ++ (v :: vs) ++ l.drop (o + (v :: vs).length) := by
  have e1 : (l.set o v).take (o + 1) = l.take o ++ [v] := by
    rw [List.take_succ_eq_append_getElem (by simpa using h)]
    simp [List.take_set_of_le]
  have e2 : (l.set o v).drop (o + 1 + vs.length) = l.drop (o + (v :: vs).length) := by
    rw [List.drop_set_of_lt (by omega)]
    congr 1
    simp
    omega
  rw [e1, e2]
  simp
theorem So {b : Nat} {t : TypeId} : ∀ (vs : List Value) (o : Nat) (w : World) (cs : Array Value), w.heap[b]? = some (.cells cs t (0, 0)) → o + vs.length ≤ cs.size →
    ∃ cs' : Array Value, (w.setCells b o vs).heap[b]? = some (.cells cs' t (0, 0)) ∧ cs'.size = cs.size ∧ cs'.toList = cs.toList.take o ++ vs ++ cs.toList.drop (o + vs.length)
  | [], o, w, cs, h, _ => ⟨cs, h, rfl, by simp⟩
  | v :: vs, o, w, cs, h, hl => by
    simp only [List.length_cons] at hl
    obtain ⟨cs', h1, h2, h3⟩ := So vs (o + 1) (w.setCell ⟨b, o, none⟩ v) (cs.setIfInBounds o v) (heap_setCell_same w b o cs t v h) (by simp; omega)
    refine ⟨cs', h1, by simpa using h2, ?_⟩
    rw [h3, Array.toList_setIfInBounds]
    exact seg_set cs.toList o v vs (by simp; omega)
theorem B0 {b base : Nat} {pass : Nat → Prop} (hb : base ≤ b ∨ pass b) : ∀ (vs : List Value) (o : Nat) (w : World), Frame base pass w (w.setCells b o vs)
  | [], _, w => Frame.refl _ _ _
  | v :: vs, o, w => by
    refine Frame.trans (b := w.setCell ⟨b, o, none⟩ v) ⟨rfl, rfl, rfl, by simp [World.setCell], fun k hk hp => ?_⟩ (B0 hb vs (o + 1) _)
    refine heap_setCell_other w ⟨b, o, none⟩ k v ?_
    rintro rfl
    rcases hb with hb | hb
    · omega
    · exact hp hb
theorem t39 : Try.prog.funcs[51]? = some (Body2.n21 rho) := by rw [Try.func51]; kernel_rfl
theorem t44 : Try.prog.funcs[61]? = some (Body2.n27 rho) := by rw [Try.func61]; kernel_rfl
theorem t45 : Try.prog.funcs[62]? = some (Body2.n28 rho) := by rw [Try.func62]; kernel_rfl
theorem t47 : Try.prog.funcs[75]? = some (Body2.n35 rho) := by rw [Try.func75]; kernel_rfl
theorem t48 : Try.prog.funcs[81]? = some (Body2.n39 rho) := by rw [Try.func81]; kernel_rfl
theorem L21 : Lays2.n21 Try.prog rho := ⟨by kernel_rfl, t39, t44, t45, t47, t48, Try.underlying0, Try.isAgg0, Try.sizeOf0, Try.zeroValue0, Try.underlying3, Try.isAgg3, Try.sizeOf3, Try.zeroValue3, Try.underlying4, Try.isAgg4, Try.sizeOf4, Try.zeroValue4, Try.underlying29, Try.isAgg29, Try.sizeOf29, Try.zeroValue29, by kernel_rfl⟩
theorem list_shift {α : Type} (cs L R : List α) (x : α) (i n : Nat) (h : cs.take n = L) (hL : L.length = n) (hi : i < n) (hn : n + 1 ≤ cs.length) :
    (((cs.take (i + 1) ++ L.drop i ++ R).take i ++ [x] ++ (cs.take (i + 1) ++ L.drop i ++ R).drop (i + 1))).take (n + 1) = L.take i ++ [x] ++ L.drop i := by
  have e1 : (cs.take (i + 1) ++ L.drop i ++ R).take i = L.take i := by
    rw [List.append_assoc, List.take_append_of_le_length (by simp; omega), List.take_take, ← h, List.take_take]
    congr 1
    omega
  have e2 : (cs.take (i + 1) ++ L.drop i ++ R).drop (i + 1) = L.drop i ++ R := by
    have hl : (cs.take (i + 1)).length = i + 1 := by simp; omega
    rw [List.append_assoc]
    generalize cs.take (i + 1) = A at hl ⊢
    rw [← hl, List.drop_left]
  rw [e1, e2, ← List.append_assoc, List.take_append_of_le_length (by simp; omega), List.take_of_length_le (by simp; omega)]
def Tp : Con := ⟨[true, false, true], [true], fun c => ∃ (l : List Int) (i : Nat) (x : Int), c = [.own 1 (l.map enc), .d (.int .i64 i), .own 1 [enc x]] ∧ i ≤ l.length ∧ l.length ≤ 1048576, fun c => match c with
  | [.own s l, .d y, .own _ r] => .own s (l.take y.i.toNat ++ r ++ l.drop y.i.toNat)
  | _ => .d .nilp⟩
theorem good_insertS : Me Try.prog (51, Tp) := by
  refine ⟨Gj Try.func51 (by kernel_rfl) rfl, ?_⟩
  intro m w cvs vs hpre hcv hnd hnew
  obtain ⟨l, i, x, rfl, hi, hl⟩ := hpre
  simp only [Sb, CVR] at hcv
  obtain ⟨v, r, rfl, hv, v1, r1, rfl, h1, v2, r2, rfl, h2, rfl⟩ := hcv
  simp only [R] at h1
  subst h1
  have hfn : Tp.fn [.own 1 (l.map enc), .d (.int .i64 i), .own 1 [enc x]] = .own 1 ((l.take i ++ [x] ++ l.drop i).map enc) := by
    simp [Tp,D.i,List.map_take,List.map_drop]
  rw [hfn]
  rcases h2 with ⟨_, hn⟩ | ⟨vb, vc, vcs, vt, rfl, hvc, hvx, hvg, hvs, hvre, hvm⟩
  · cases hn
  have hvre' : RE ⟨w, m⟩ 1 ([x].map enc) (vcs.toList.take (1 * 1)) := hvre
  rw [RE_ints] at hvre'
  have hvcell : ∀ j u, [Value.int .i64 x][j]? = some u → w.cell? ⟨vb, 0 + j, none⟩ = some u := by
    intro j u hj
    cases j with
    | succ j => simp at hj
    | zero =>
      simp only [List.getElem?_cons_zero, Option.some.injEq] at hj
      subst hj
      have e1 : (vcs.toList.take (1 * 1))[0]? = some (Value.int .i64 x) := by rw [hvre']; rfl
      rw [List.getElem?_take, if_pos (by omega)] at e1
      simp only [World.cell?, hvg]
      simpa using e1
  have fin : ∀ (S : List Nat) (v' : Value) (w' : World) (g cap' : Nat) (cs' : Array Value) (t' : TypeId), v' = .slice (some ⟨g, 0, none⟩) (l.length + 1) cap' → l.length + 1 ≤ cap' → cap' ≤ maxLen → w'.heap[g]? = some (.cells cs' t' (0, 0)) → cs'.size = cap' →
      cs'.toList.take (l.length + 1) = (l.take i ++ [x] ++ l.drop i).map (Value.int .i64) → (w.heap.size ≤ g ∨ (g ∈ S ∧ m g = 0)) → Frame w.heap.size (· ∈ S) w w' →
      ∃ u m', Ending.returned v' = .returned u ∧ Frame w.heap.size (· ∈ S) w w' ∧ (∀ b, b < w.heap.size → b ∉ S → m' b = m b) ∧ (∀ b, w'.heap.size ≤ b → m' b = 0) ∧ Res ⟨w', m'⟩ w.heap.size (· ∈ S) (.own 1 ((l.take i ++ [x] ++ l.drop i).map enc)) u := by
    intro S v' w' g cap' cs' t' hv' hc' hx' hg' hs' ht' hgS hfr
    subst hv'
    refine ⟨_, m, rfl, hfr, fun _ _ _ => rfl, fun b hb => hnew b (Nat.le_trans hfr.size hb), ?_⟩
    have hlen : (l.take i ++ [x] ++ l.drop i).length = l.length + 1 := by simp; omega
    simp only [Res, Sb, CVR]
    refine ⟨⟨_, [], rfl, .inr ⟨g, cap', cs', t', by rw [List.length_map, hlen], by rw [List.length_map, hlen]; exact hc', hx', hg', by omega, ?_, ?_⟩, rfl⟩, fun b hb => ?_⟩
    · rw [RE_ints, List.length_map, hlen, Nat.mul_one]
      exact ht'
    · rcases hgS with h | h
      · exact ⟨hnew g h, Nat.one_pos⟩
      · exact ⟨h.2, Nat.one_pos⟩
    · simp [Gx, Value.ownBlock] at hb
      subst hb
      rcases hgS with h | h
      · exact .inl h
      · exact .inr h.1
  have atEnd : ∀ (base : Option Addr) (c : Nat), (∀ b ∈ Gx [CV.own 1 (l.map enc), .d (.int .i64 i), .own 1 [enc x]] [Value.slice base l.length c, .int .i64 i, .slice (some ⟨vb, 0, none⟩) 1 vc], b < w.heap.size) → i = l.length → l.length ≤ c → c < l.length + 1 → (base = none → l.length = 0) →
      (∀ a, base = some a → ∀ j u, (l.map (Value.int .i64))[j]? = some u → w.cell? (a.add j) = some u) →
      Calls Try.prog 51 #[Value.slice base l.length c, .int .i64 i, .slice (some ⟨vb, 0, none⟩) 1 vc] w fun e w' => ∃ v m', e = .returned v ∧ Frame w.heap.size (· ∈ Gx [CV.own 1 (l.map enc), .d (.int .i64 i), .own 1 [enc x]] [Value.slice base l.length c, .int .i64 i, .slice (some ⟨vb, 0, none⟩) 1 vc]) w w' ∧
        (∀ b, b < w.heap.size → b ∉ Gx [CV.own 1 (l.map enc), .d (.int .i64 i), .own 1 [enc x]] [Value.slice base l.length c, .int .i64 i, .slice (some ⟨vb, 0, none⟩) 1 vc] → m' b = m b) ∧ (∀ b, w'.heap.size ≤ b → m' b = 0) ∧
        Res ⟨w', m'⟩ w.heap.size (· ∈ Gx [CV.own 1 (l.map enc), .d (.int .i64 i), .own 1 [enc x]] [Value.slice base l.length c, .int .i64 i, .slice (some ⟨vb, 0, none⟩) 1 vc]) (.own 1 ((l.take i ++ [x] ++ l.drop i).map enc)) v := by
    intro base c hown hie hc1 hc2 hnil hcell
    subst hie
    show Calls Try.prog (rho.f 21) _ w _
    refine (Any2.slices_Insert_int_end_grow L21 base l.length c vb 0 1 vc (l.map (Value.int .i64)) [.int .i64 x] w (by omega) hc1 hc2 (by omega) (by simp) rfl hnil hcell hvcell (by simp [Value.oneCell'])).mono ?_
    rintro e w' ⟨rfl, rfl⟩
    have hge := grownCap_ge w (l.length + 1) c 3
    refine fin _ _ _ w.heap.size _ _ _ rfl hge (grownCap_le_maxLen w _ _ _ (by unfold maxLen; omega)) (heap_alloc_new w.drew _) ?_ ?_ (.inl (Nat.le_refl _)) ⟨rfl, rfl, rfl, by show w.heap.size ≤ (w.heap.push _).size; simp, fun b hb _ => heap_alloc_old w.drew _ hb⟩
    · rw [Array.size_append, List.size_toArray, Bf]
      change _ = grownCap w (l.length + 1) c 3
      simp only [List.length_append, List.length_map, List.length_singleton, Value.cells]
      have e3 : grownCap w (l.length + 1) c (rho.t 3) = grownCap w (l.length + 1) c 3 := rfl
      rw [e3]
      simp
      omega
    · rw [Array.toList_append, List.toList_toArray, List.take_append_of_le_length (by simp), List.take_of_length_le (by simp), List.take_of_length_le (Nat.le_refl _), List.drop_length]
      simp
  rcases hv with ⟨rfl, hl0⟩ | ⟨b, cap, cs, t, rfl, hc, hx, hg, hs, hre, hm⟩
  · have : l = [] := by simpa using hl0
    subst this
    have hi0 : i = 0 := by simpa using hi
    exact atEnd none 0 (by simp [Gx, Value.ownBlock]; exact (Array.getElem?_eq_some_iff.1 hvg).1) hi0 (Nat.zero_le _) (by simp) (fun _ => rfl) (fun a ha => by cases ha)
  · simp only [List.length_map] at hc hre hnd ⊢
    rw [RE_ints, Nat.mul_one] at hre
    have hsz : cs.size = cap := by omega
    have hcell : ∀ j u, (l.map (Value.int .i64))[j]? = some u → w.cell? ⟨b, 0 + j, none⟩ = some u := by
      intro k u hk
      have hkl : k < l.length := by have := (List.getElem?_eq_some_iff.1 hk).1; simpa using this
      rw [← hre, List.getElem?_take, if_pos hkl] at hk
      simp only [World.cell?, hg]
      simpa using hk
    have hbw : b < w.heap.size := (Array.getElem?_eq_some_iff.1 hg).1
    have hvw : vb < w.heap.size := (Array.getElem?_eq_some_iff.1 hvg).1
    have hbv : vb ≠ b := by
      simp [Gx,Value.ownBlock] at hnd
      exact fun e => hnd e.symm
    have hown : b ∈ Gx [CV.own 1 (l.map enc), .d (.int .i64 i), .own 1 [enc x]] [Value.slice (some ⟨b, 0, none⟩) l.length cap, .int .i64 i, .slice (some ⟨vb, 0, none⟩) 1 vc] := by simp [Gx, Value.ownBlock]
    by_cases hroom : l.length + 1 ≤ cap
    · have hsome : ∀ j, j < l.length + 1 → (w.cell? ⟨b, 0 + j, none⟩).isSome = true := by
        intro j hj
        simp only [World.cell?, hg]
        simp
        omega
      by_cases hie : i = l.length
      · subst hie
        show Calls Try.prog (rho.f 21) _ w _
        refine (Any2.slices_Insert_int_end_room L21 b 0 l.length cap vb 0 1 vc [.int .i64 x] w (by omega) hroom (by unfold maxLen at hx; omega) rfl (fun j hj => ?_) (fun j hj => by simp [World.frozen?, hg]) hvcell (by simp [Value.oneCell'])).mono ?_
        · have := hsome (l.length + j) (by omega)
          rwa [← Nat.add_assoc] at this
        · rintro e w' ⟨rfl, rfl⟩
          obtain ⟨cs', k1, k2, k3⟩ := So [Value.int .i64 x] (0 + l.length) w cs hg (by simp; omega)
          refine fin _ _ _ b cap cs' t rfl hroom hx k1 (by omega) ?_ (.inr ⟨hown, hm.1⟩) (B0 (.inr hown) _ _ _)
          rw [k3]
          simp only [Nat.zero_add, hre]
          rw [List.take_append_of_le_length (by simp), List.take_of_length_le (by simp), List.take_of_length_le (Nat.le_refl _), List.drop_length]
          simp
      · show Calls Try.prog (rho.f 21) _ w _
        refine (Any2.slices_Insert_int_shift L21 b 0 l.length cap i vb 0 1 vc (l.map (Value.int .i64)) [.int .i64 x] w (by omega) (by omega) hroom (by unfold maxLen at hx; omega) hbv (by simp) rfl hcell hsome (fun j hj => by simp [World.frozen?, hg]) hvcell
          (by simp [Value.oneCell']) (by simp [Value.oneCell']) vt t vcs.size cs.size (by simp [World.shape?, hvg]) (by simp [World.shape?, hg]) (by omega) (by simp [World.frozen?, hvg]) (by simp [World.frozen?, hvg])).mono ?_
        rintro e w' ⟨rfl, rfl⟩
        obtain ⟨cs1, k1, k2, k3⟩ := So ((l.map (Value.int .i64)).drop i) (0 + (i + 1)) w.drew cs hg (by simp; omega)
        obtain ⟨cs2, j1, j2, j3⟩ := So [Value.int .i64 x] (0 + i) _ cs1 k1 (by simp; omega)
        have f1 := B0 (base := w.heap.size) (pass := (· ∈ Gx [CV.own 1 (l.map enc), .d (.int .i64 i), .own 1 [enc x]] [Value.slice (some ⟨b, 0, none⟩) l.length cap, .int .i64 i, .slice (some ⟨vb, 0, none⟩) 1 vc])) (.inr hown) ((l.map (Value.int .i64)).drop i) (0 + (i + 1)) w.drew
        have f2 := f1.trans (B0 (.inr hown) [Value.int .i64 x] (0 + i) _)
        refine fin _ _ _ b cap cs2 t rfl hroom hx j1 (by omega) ?_ (.inr ⟨hown, hm.1⟩) ⟨f2.os, f2.tape, f2.output, f2.size, f2.block⟩
        rw [j3, k3]
        simp only [Nat.zero_add, List.length_singleton]
        rw [list_shift cs.toList (l.map (Value.int .i64)) _ _ i l.length hre (by simp) (by omega) (by simp; omega)]
        simp [List.map_take,List.map_drop]
    · by_cases hie : i = l.length
      · refine atEnd (some ⟨b, 0, none⟩) cap ?_ hie hc (by omega) (fun e => by cases e) (fun a ha j u hj => ?_)
        · intro k hk
          simp [Gx,Value.ownBlock] at hk
          rcases hk with rfl | rfl
          · exact hbw
          · exact hvw
        · injection ha with ha
          subst ha
          rw [Addr.add_lit]
          exact hcell j u hj
      · show Calls Try.prog (rho.f 21) _ w _
        refine (Any2.slices_Insert_int_grow L21 b 0 l.length cap i vb 0 1 vc (l.map (Value.int .i64)) [.int .i64 x] w (by omega) (by omega) hc (by omega) (by omega) (by simp) rfl hcell hvcell (by simp [Value.oneCell']) (by simp [Value.oneCell'])).mono ?_
        rintro e w' ⟨rfl, rfl⟩
        have hge := grownCap_ge w (l.length + 1) cap 3
        have e3 : grownCap w (l.length + 1) cap (rho.t 3) = grownCap w (l.length + 1) cap 3 := rfl
        simp only [e3]
        generalize hcs0 : (((l.map (Value.int .i64)).take i).toArray ++ Builtin.zeroCells (Value.int .i64 0).cells (l.length + 1 - i) ++ Builtin.zeroCells (Value.int .i64 0).cells (grownCap w (l.length + 1) cap 3 - (l.length + 1)) : Array Value) = cs0
        have hs0 : cs0.size = grownCap w (l.length + 1) cap 3 := by
          rw [← hcs0, Array.size_append, Array.size_append, List.size_toArray, Bf, Bf]
          simp [Value.cells]
          omega
        have h0 : cs0.toList.take i = (l.map (Value.int .i64)).take i := by
          rw [← hcs0]
          simp only [Array.toList_append, List.append_assoc]
          rw [List.take_append_of_le_length (by simp; omega), List.take_of_length_le (by simp; omega)]
        obtain ⟨cs1, k1, k2, k3⟩ := So [Value.int .i64 x] i (w.alloc (.cells cs0 (rho.t 3))).drew cs0 (heap_alloc_new w _) (by simp; omega)
        obtain ⟨cs2, j1, j2, j3⟩ := So ((l.map (Value.int .i64)).drop i) (i + 1) ((w.alloc (.cells cs0 (rho.t 3))).drew.setCells w.heap.size i [Value.int .i64 x]).drew cs1 k1 (by simp; omega)
        have f0 : Frame w.heap.size (· ∈ Gx [CV.own 1 (l.map enc), .d (.int .i64 i), .own 1 [enc x]] [Value.slice (some ⟨b, 0, none⟩) l.length cap, .int .i64 i, .slice (some ⟨vb, 0, none⟩) 1 vc]) w (w.alloc (.cells cs0 (rho.t 3))).drew :=
          ⟨rfl, rfl, rfl, by show w.heap.size ≤ (w.heap.push _).size; simp, fun b hb _ => heap_alloc_old w _ hb⟩
        have f1 := f0.trans (B0 (.inl (Nat.le_refl _)) [Value.int .i64 x] i _)
        have f1' : Frame w.heap.size (· ∈ Gx [CV.own 1 (l.map enc), .d (.int .i64 i), .own 1 [enc x]] [Value.slice (some ⟨b, 0, none⟩) l.length cap, .int .i64 i, .slice (some ⟨vb, 0, none⟩) 1 vc]) w ((w.alloc (.cells cs0 (rho.t 3))).drew.setCells w.heap.size i [Value.int .i64 x]).drew := ⟨f1.os, f1.tape, f1.output, f1.size, f1.block⟩
        have f2 := f1'.trans (B0 (.inl (Nat.le_refl _)) ((l.map (Value.int .i64)).drop i) (i + 1) _)
        refine fin _ _ _ w.heap.size _ cs2 _ rfl hge (grownCap_le_maxLen w _ _ _ (by unfold maxLen; omega)) j1 (by omega) ?_ (.inl (Nat.le_refl _)) ⟨f2.os, f2.tape, f2.output, f2.size, f2.block⟩
        rw [j3, k3]
        simp only [List.length_singleton]
        rw [List.take_append_of_le_length (by simp; omega), List.take_of_length_le (by simp; omega), h0]
        rw [List.take_append_of_le_length (by simp; omega), List.take_of_length_le (by simp; omega)]
        simp [List.map_take,List.map_drop]
end Go.Am.Hit
set_option linter.unusedSimpArgs false
set_option linter.unusedVariables false
set_option maxHeartbeats 2000000
namespace Go.Am.Hit
open Go.Proofs
open Enc (enc dec)
def withL (s : List Int) (n : Int) : List Int := cond (inB s n) s (s.take (less s n) ++ [n] ++ s.drop (less s n))
theorem ins_at {n : Int} : ∀ {s : List Int}, Hf s → inB s n = false → ins n s = s.take (less s n) ++ [n] ++ s.drop (less s n)
  | [], _, _ => rfl
  | x :: xs, h, hn => by
    unfold Hf at h
    rw [List.pairwise_cons] at h
    have h1 : (x == n) = false ∧ inB xs n = false := by simpa [inB, List.any_cons] using hn
    have hxn : x ≠ n := by simpa using h1.1
    rw [ins]
    rcases Int.lt_or_le n x with hlt | hge
    · have e0 : less (x :: xs) n = 0 := by
        unfold less
        rw [List.countP_eq_zero]
        intro a ha
        rcases List.mem_cons.1 ha with rfl | ha
        · simp; omega
        · have := h.1 a ha
          simp; omega
      rw [show ltB n x = true by rw [Nr]; exact hlt, cond_true, e0]
      rfl
    · have e0 : less (x :: xs) n = less xs n + 1 := by
        unfold less
        rw [List.countP_cons, if_pos (by simp; omega)]
      rw [show ltB n x = false by rw [Hg]; omega, cond_false, e0, ins_at h.2 h1.2]
      rfl
theorem withL_eq {s : List Int} {n : Int} (h : Hf s) : withL s n = Pe s n := by
  unfold withL Pe
  cases hb : inB s n with
  | true => rfl
  | false => rw [cond_false, cond_false, ins_at h hb]
def Mz : Con := L3 (fun (s : Sl Int) (_ : Int) => s.l.length ≤ 1000000 ∧ Hf s.l) (fun s n => Sl.mk (Pe s.l n))
noncomputable def Fa : Ctx := ⟨tab, lkC [(50, H1), (42, P9), (51, Tp)], 60, lkB [], [], false⟩
theorem ctx_withH_t : Fa.τ = tab := rfl
theorem ctx_withH_c : Fa.Γ = lkC [(50, H1), (42, P9), (51, Tp)] := rfl
theorem ctx_withH_d : Fa.dp = 60 := rfl
theorem ctx_withH_b : Fa.Δ = lkB [] := rfl
theorem ctx_withH_u : Fa.cuts = [] := rfl
theorem ctx_withH_w : Fa.wr = false := rfl
set_option maxRecDepth 100000 in
theorem good_withH : Me Try.prog (30, Mz) := by
  refine ⟨Gj Try.func30 (by kernel_rfl) rfl, ?_⟩
  have K : Hq Try.prog Fa := Gq H8 G4 (by
    intro p hp
    simp only [List.mem_cons, List.not_mem_nil, or_false] at hp
    rcases hp with rfl | rfl | rfl
    · exact good_binarySearchS
    · exact good_cloneS
    · exact good_insertS) (by simp)
  obtain ⟨c, hc⟩ : ∃ c, Try.f30.body = some c := ⟨_, rfl⟩
  refine Gu K Try.func30 hc [.tmp 4] rfl 21 rfl (fun cvs hpre => ?_)
  change Mz.pre cvs at hpre
  unfold Mz at hpre
  obtain ⟨⟨s⟩, n, rfl, hs, hss⟩ := Hx hpre
  simp only at hs hss
  clear hpre
  have hw := withL_eq (n := n) hss
  have hle := less_le s n
  unfold withL at hw
  cases hb : inB s n with
  | true =>
    rw [hb, cond_true] at hw
    have hw' : Pe s n = s := hw.symm
    simp only [Try.f30, Option.some.injEq] at hc
    subst hc
    (sym =>
     simp [S0.eq_def,B5.eq_def,hb,hw',ctx_withH_t,ctx_withH_c,ctx_withH_d,ctx_withH_b,ctx_withH_u,ctx_withH_w,H1.eq_def,P9.eq_def,Tp.eq_def,Mz.eq_def,Za,Zb,Zc,Ze,Zf,Zg,Zn,Zo,Zp,Zq,Zr,Zs,Zv,Zz,Z5,Z6,Z7,Z8,Z9,Qa,Qb,Qc,Qd,Qe,Qi,Qk,Ql,Qm,Qn,Qp,Qv,Qw,Qy,Q1,Q2,Q3,Q4,Q5,Q6,Q7,Q8,Q9,Ja,Jb,Jc,Jd,Je,Jl,Jq,Jr,Jx,Jy,J9,Xa,Xb,Xc,Xd,Xe,Xf,Xg,Xh,Xi,Xj,Xk,Xl,Xm,Xn,Xq,Xs,Xt,Xu,Xv,Xw,Xx,Xy,Xz,X0,X1,X2,X3,X4,X5,X6,X8,X9,Wa,Wd,We,Wf,Wg,Wh,Wi,Wj,Wl,Wm,Wn,Wo,Wp,Wq,Wr,Ws,Wt,Wu,Wv,Ww,Wx,Wy,Wz,W0,W1,W2,W3,W4,W5,W6,W7,W8,Yf,Yg,Yh,Yi,Yj,Yk,Yl,Ym,Yn,Yo,Yp,Yq,Yr,Ys,Yt,Yu,Yv,Yw,Yx,Yy,Yz,Y0,Y1,Y2,Y3,Y4,Y5,Y6,Y7,Y8,Y9,Va,Vb,Vc,Vd,Ve,Vf,Vg,Vh,Vi,Vj,Vk,Vl,Vm,Vn,Vo,Vp,Vq,Vr,Vs,Vt,Vu,Vv,Vw,Vx,Vy,Vz,V0,V1,V3,V4,V5,V6,V7,V8,V9,Ua,Ub,Uc,Ud,Ue,Uf,Ul,Um,Un,Uo,Uq,Ur,Us,Ut,Uu,Uv,Uw,Ux,Uy,Uz,U0,U1,U3,U4,U5,U6,U7,U8,U9,Ka,Kb,Kc,Kd,Ke,Kf,Kg,Kh,Ki,Kj,Kk,Kl,Km,Kn,Ko,Kq,Kr,Ks,Kt,Ga,Kz]
     tactic =>
      try simp only [K2] at *
      try simp only [nc2] at *
      try simp (maxSteps := 4000000) only [S0.eq_def,B5.eq_def,hb,hw',Gg]
      repeat' (first | with_reducible assumption | with_reducible refine And.intro ?_ ?_ | intro _ | omega | (rw [Ku]; omega))
      all_goals first
        | omega
        | assumption
        | rfl
        | skip)
  | false =>
    rw [hb, cond_false] at hw
    have hw' : Pe s n = s.take (less s n) ++ [n] ++ s.drop (less s n) := hw.symm
    simp only [Try.f30, Option.some.injEq] at hc
    subst hc
    (sym =>
     simp [S0.eq_def,B5.eq_def,hb,hw',ctx_withH_t,ctx_withH_c,ctx_withH_d,ctx_withH_b,ctx_withH_u,ctx_withH_w,H1.eq_def,P9.eq_def,Tp.eq_def,Mz.eq_def,Za,Zb,Zc,Ze,Zf,Zg,Zn,Zo,Zp,Zq,Zr,Zs,Zv,Zz,Z5,Z6,Z7,Z8,Z9,Qa,Qb,Qc,Qd,Qe,Qi,Qk,Ql,Qm,Qn,Qp,Qv,Qw,Qy,Q1,Q2,Q3,Q4,Q5,Q6,Q7,Q8,Q9,Ja,Jb,Jc,Jd,Je,Jl,Jq,Jr,Jx,Jy,J9,Xa,Xb,Xc,Xd,Xe,Xf,Xg,Xh,Xi,Xj,Xk,Xl,Xm,Xn,Xq,Xs,Xt,Xu,Xv,Xw,Xx,Xy,Xz,X0,X1,X2,X3,X4,X5,X6,X8,X9,Wa,Wd,We,Wf,Wg,Wh,Wi,Wj,Wl,Wm,Wn,Wo,Wp,Wq,Wr,Ws,Wt,Wu,Wv,Ww,Wx,Wy,Wz,W0,W1,W2,W3,W4,W5,W6,W7,W8,Yf,Yg,Yh,Yi,Yj,Yk,Yl,Ym,Yn,Yo,Yp,Yq,Yr,Ys,Yt,Yu,Yv,Yw,Yx,Yy,Yz,Y0,Y1,Y2,Y3,Y4,Y5,Y6,Y7,Y8,Y9,Va,Vb,Vc,Vd,Ve,Vf,Vg,Vh,Vi,Vj,Vk,Vl,Vm,Vn,Vo,Vp,Vq,Vr,Vs,Vt,Vu,Vv,Vw,Vx,Vy,Vz,V0,V1,V3,V4,V5,V6,V7,V8,V9,Ua,Ub,Uc,Ud,Ue,Uf,Ul,Um,Un,Uo,Uq,Ur,Us,Ut,Uu,Uv,Uw,Ux,Uy,Uz,U0,U1,U3,U4,U5,U6,U7,U8,U9,Ka,Kb,Kc,Kd,Ke,Kf,Kg,Kh,Ki,Kj,Kk,Kl,Km,Kn,Ko,Kq,Kr,Ks,Kt,Ga,Kz]
     tactic =>
      try simp only [K2] at *
      try simp only [nc2] at *
      try simp (maxSteps := 4000000) only [S0.eq_def,B5.eq_def,hb,hw',Gg]
      repeat' (first | with_reducible assumption | with_reducible refine And.intro ?_ ?_ | intro _ | omega | (rw [Ku]; omega))
      all_goals first
        | omega
        | assumption
        | exact ⟨s, less s n, n, rfl, rfl, rfl, by omega, by omega⟩
        | (rw [List.map_append, List.map_append, List.map_take, List.map_drop]; rfl)
        | rfl
        | skip)
end Go.Am.Hit
set_option linter.unusedSimpArgs false
set_option linter.unusedVariables false
set_option maxHeartbeats 2000000
namespace Go.Am.Hit
open Go.Proofs
open Enc (enc dec)
def Sy {A B R : Type} [Enc A] [Enc B] [Enc R] [Sz R] (p : A → B → Prop) (f : A → B → List R) : Con := ⟨[false, false], [true], fun c => match c with
  | [.d x, .d y] => isE A x ∧ isE B y ∧ p (dec x) (dec y)
  | _ => False, fun c => match c with
  | [.d x, .d y] => .own (Sz.sz R) ((f (dec x) (dec y)).map enc)
  | _ => .d .nilp⟩
theorem con2w_pre {A B R : Type} [Enc A] [Enc B] [Enc R] [Sz R] {p : A → B → Prop} {f : A → B → List R} {c : List CV} (h : (Sy p f).pre c) : ∃ a b, c = [.d (enc a), .d (enc b)] ∧ p a b := by
  unfold Sy at h
  simp only at h
  split at h
  · next x y => exact ⟨dec x, dec y, by rw [← h.1, ← h.2.1], h.2.2⟩
  · exact h.elim
def Bp : Con := con1 (fun (s : Sl Int) => s.l.length ≤ 1000000) (fun s => s)
noncomputable def Td : Ctx := ⟨tab, lkC [(42, P9)], 60, lkB [], [], false⟩
theorem ctx_Sort_1H_t : Td.τ = tab := rfl
theorem ctx_Sort_1H_c : Td.Γ = lkC [(42, P9)] := rfl
theorem ctx_Sort_1H_d : Td.dp = 60 := rfl
theorem ctx_Sort_1H_b : Td.Δ = lkB [] := rfl
theorem ctx_Sort_1H_u : Td.cuts = [] := rfl
theorem ctx_Sort_1H_w : Td.wr = false := rfl
theorem good_Sort_1H : Me Try.prog (41, Bp) := by
  refine ⟨Gj Try.func41 (by kernel_rfl) rfl, ?_⟩
  have K : Hq Try.prog Td := Gq H8 G4 (by
    intro p hp
    simp only [List.mem_cons, List.not_mem_nil, or_false] at hp
    rcases hp with rfl
    · exact good_cloneS) (by simp)
  obtain ⟨c, hc⟩ : ∃ c, Try.f41.body = some c := ⟨_, rfl⟩
  refine Gu K Try.func41 hc [.tmp 2] rfl 5 rfl (fun cvs hpre => ?_)
  change Bp.pre cvs at hpre
  unfold Bp at hpre
  obtain ⟨⟨s⟩, rfl, hs⟩ := Ct hpre
  simp only at hs
  clear hpre
  simp only [Try.f41, Option.some.injEq] at hc
  subst hc
  (sym =>
   simp [S0.eq_def,ctx_Sort_1H_t,ctx_Sort_1H_c,ctx_Sort_1H_d,ctx_Sort_1H_b,ctx_Sort_1H_u,ctx_Sort_1H_w,Bp.eq_def,P9.eq_def,Za,Zb,Zc,Ze,Zf,Zg,Zn,Zo,Zp,Zq,Zr,Zs,Zv,Z6,Z7,Z8,Z9,Qa,Qb,Qc,Qd,Qe,Qi,Qk,Ql,Qm,Qn,Qp,Qv,Qw,Qy,Q1,Q2,Q3,Q8,Ja,Jb,Jc,Jd,Je,Jl,Jq,Jr,Jx,Jy,Xb,Xc,Xd,Xe,Xf,Xg,Xh,Xi,Xj,Xk,Xl,Xm,Xn,Xq,Xs,Xt,Xu,Xv,Xw,Xx,Xy,Xz,X0,X1,X2,X3,X4,X5,X6,X8,X9,Wa,Wd,We,Wf,Wg,Wh,Wi,Wj,Wl,Wm,Wn,Wo,Wp,Wq,Wr,Ws,Wt,Wu,Wv,Ww,Wx,Wy,Wz,W0,W1,W2,W3,W4,W5,W6,W7,W8,Yf,Yg,Yh,Yi,Yj,Yk,Yl,Ym,Yn,Yo,Yp,Yq,Yr,Ys,Yt,Yu,Yv,Yw,Yx,Yy,Yz,Y0,Y1,Y2,Y3,Y4,Y5,Y6,Y7,Y8,Y9,Va,Vb,Vc,Vd,Ve,Vf,Vg,Vh,Vi,Vj,Vk,Vl,Vm,Vn,Vo,Vp,Vq,Vr,Vs,Vt,Vu,Vv,Vw,Vx,Vy,Vz,V0,V1,V3,V4,V5,V6,V7,V8,V9,Ua,Ub,Uc,Ud,Ue,Uf,Ul,Um,Uq,Ur,Us,Ut,Uu,Uv,Uw,Ux,Uy,Uz,U0,U1,U3,U4,U5,U6,U7,U8,U9,Ka,Kb,Kc,Kd,Ke,Kf,Kg,Kh,Ki,Kj,Kk,Kl,Km,Kn,Ko,Kq,Kr,Ks,Kt,Ga,Kz]
   tactic =>
    try simp only [K2] at *
    try simp only [nc2] at *
    try simp (maxSteps := 4000000) only [S0.eq_def,Gg]
    repeat' (first | with_reducible assumption | with_reducible refine And.intro ?_ ?_ | intro _ | omega | (rw [Ku]; omega))
    all_goals first
      | omega
      | rfl
      | skip)
structure CloF where
  u : Unit
instance encCloF : Enc CloF := ⟨fun p => .clo 41 [], fun x => ⟨()⟩, fun p => rfl⟩
theorem D8 {u : Unit} : (enc (CloF.mk u) : D) = .clo 41 [] := rfl
theorem isE_CloF : isE CloF (.clo 41 []) = True := eq_true (N7 (CloF.mk ()))
def Pi : Con := Sy (fun (l : Sl (Sl Int)) (_ : CloF) => Rs6 l.l) (fun l _ => l.l)
noncomputable def Fb : Ctx := ⟨tab, lkC [(41, Bp)], 60, lkB [], [], false⟩
theorem ctx_madeH_t : Fb.τ = tab := rfl
theorem ctx_madeH_c : Fb.Γ = lkC [(41, Bp)] := rfl
theorem ctx_madeH_d : Fb.dp = 60 := rfl
theorem ctx_madeH_b : Fb.Δ = lkB [] := rfl
theorem ctx_madeH_u : Fb.cuts = [] := rfl
theorem ctx_madeH_w : Fb.wr = false := rfl
set_option maxRecDepth 100000 in
theorem good_madeH : Me Try.prog (40, Pi) := by
  refine ⟨Gj Try.func40 (by kernel_rfl) rfl, ?_⟩
  have K : Hq Try.prog Fb := Gq H8 G4 (by
    intro p hp
    simp only [List.mem_cons, List.not_mem_nil, or_false] at hp
    rcases hp with rfl
    · exact good_Sort_1H) (by simp)
  obtain ⟨c, hc⟩ : ∃ c, Try.f40.body = some c := ⟨_, rfl⟩
  refine Gu K Try.func40 hc [.tmp 4] rfl 22 rfl (fun cvs hpre => ?_)
  change Pi.pre cvs at hpre
  unfold Pi at hpre
  obtain ⟨⟨l⟩, ⟨u⟩, rfl, hl1, hl2⟩ := con2w_pre hpre
  simp only at hl1 hl2
  clear hpre
  simp only [Try.f40, Option.some.injEq] at hc
  subst hc
  (sym =>
   simp [D8,Sy.eq_def,ctx_madeH_t,ctx_madeH_c,ctx_madeH_d,ctx_madeH_b,ctx_madeH_u,ctx_madeH_w,Bp.eq_def,Pi.eq_def,Za,Zb,Zc,Ze,Zf,Zg,Zn,Zo,Zp,Zq,Zr,Zs,Zv,Zx,Zz,Z0,Z1,Z2,Z6,Z7,Z8,Z9,Qa,Qb,Qc,Qd,Qe,Qi,Qj,Qk,Ql,Qm,Qn,Qp,Qv,Qw,Qy,Q1,Q2,Q3,Q4,Q5,Q6,Q7,Q8,Q9,Ja,Jb,Jc,Jd,Je,Jl,Jq,Jr,Js,Jt,Ju,Jx,Jy,J9,Xa,Xb,Xc,Xd,Xe,Xf,Xg,Xh,Xi,Xj,Xk,Xl,Xm,Xn,Xq,Xs,Xt,Xu,Xv,Xw,Xx,Xy,Xz,X0,X1,X2,X3,X4,X5,X6,X7,X8,X9,Wa,Wd,We,Wf,Wg,Wh,Wi,Wj,Wl,Wm,Wn,Wo,Wp,Wq,Wr,Ws,Wt,Wu,Wv,Ww,Wx,Wy,Wz,W0,W1,W2,W3,W4,W5,W6,W7,W8,Ye,Yf,Yg,Yh,Yi,Yj,Yk,Yl,Ym,Yn,Yo,Yp,Yq,Yr,Ys,Yt,Yu,Yv,Yw,Yx,Yy,Yz,Y0,Y1,Y2,Y3,Y4,Y5,Y6,Y7,Y8,Y9,Va,Vb,Vc,Vd,Ve,Vf,Vg,Vh,Vi,Vj,Vk,Vl,Vm,Vn,Vo,Vp,Vq,Vr,Vs,Vt,Vu,Vv,Vw,Vx,Vy,Vz,V0,V1,V3,V4,V5,V6,V7,V8,V9,Ua,Ub,Uc,Ud,Ue,Uf,Ul,Um,Un,Uo,Uq,Ur,Us,Ut,Uu,Uv,Uw,Ux,Uy,Uz,U0,U1,U3,U4,U5,U6,U7,U8,U9,Ka,Kb,Kc,Kd,Ke,Kf,Kg,Kh,Ki,Kj,Kk,Kl,Km,Kn,Ko,Kq,Kr,Ks,Kt,Ga,K8,Kz,tab44]
   tactic =>
    try simp only [K2] at *
    try simp only [nc2] at *
    try simp (maxSteps := 4000000) only [D8,Sy.eq_def,Gg]
    refine Gi [7, 11, 12, 13, 14, 15, 16, 17, 18, 19, 20] (fun k : Nat => [(10, .d (.int .i64 k)), (5, .sl 19 ((l.take k).map (enc : Sl Int → D)).length)]) (fun k : Nat => [(19, .row 1 ((l.take k).map enc) 0)]) (fun k : Nat => k ≤ l.length) (fun k : Nat => l.length - k) 0 ?_ ?_ ?_
    · simp
    · ((try simp only [Kv, Ky, Kx, K4, upd, K5, Gb, Gs, Nat.reduceDiv, Nat.reduceMod, Nat.reduceMul, Nat.reduceAdd, Nat.reduceEqDiff, List.set_cons_zero, List.set_cons_succ, if_true, if_false, reduceIte]); (first | refine Wk.of_fl ?_ | skip); simp only [Wk, wkK, Gy, wkT, wk1, AV.kept, keptAll, wkO, lk, Kw, and_true, true_and, and_self, Nat.reduceEqDiff, Nat.reduceLeDiff, if_true, if_false, reduceIte, reduceCtorEq, Option.isSome, false_implies]; try simp [Wk, wkK, wkT, wk1, AV.kept, keptAll, wkO, lk, Kw])
    rintro k hk
    rcases Gl k l.length with ⟨hlt, hlb⟩ | ⟨hlt, hlb⟩
    · have q1 := Hd (⟨[]⟩ : Sl Int) hlt
      have h2 := hl2 k
      have hsn : l.take (k + 1) = l.take k ++ [l.getD k ⟨[]⟩] := by rw [List.take_succ_eq_append_getElem hlt]; simp [hlt]
      have hl : (l.take k).length ≤ 1000000 := by rw [List.length_take]; omega
      obtain ⟨⟨x⟩, hx⟩ : ∃ x, l.getD k ⟨[]⟩ = x := ⟨_, rfl⟩
      rw [hx] at q1 hsn h2
      simp only at h2
      obtain ⟨L, hL⟩ : ∃ L, l.take k = L := ⟨_, rfl⟩
      obtain ⟨L2, hL2⟩ : ∃ L, l.take (k + 1) = L := ⟨_, rfl⟩
      rw [hL, hL2] at hsn
      rw [hL] at hl ⊢
      (sym =>
       simp [hlb,q1,D8,Sy.eq_def,ctx_madeH_t,ctx_madeH_c,ctx_madeH_d,ctx_madeH_b,ctx_madeH_u,ctx_madeH_w,Bp.eq_def,Pi.eq_def,Za,Zb,Zc,Ze,Zf,Zg,Zn,Zo,Zp,Zq,Zr,Zs,Zv,Zx,Zz,Z0,Z1,Z2,Z6,Z7,Z8,Z9,Qa,Qb,Qc,Qd,Qe,Qi,Qj,Qk,Ql,Qm,Qn,Qp,Qv,Qw,Qy,Q1,Q2,Q3,Q4,Q5,Q6,Q7,Q8,Q9,Ja,Jb,Jc,Jd,Je,Jl,Jq,Jr,Js,Jt,Ju,Jx,Jy,J9,Xa,Xb,Xc,Xd,Xe,Xf,Xg,Xh,Xi,Xj,Xk,Xl,Xm,Xn,Xq,Xs,Xt,Xu,Xv,Xw,Xx,Xy,Xz,X0,X1,X2,X3,X4,X5,X6,X7,X8,X9,Wa,Wd,We,Wf,Wg,Wh,Wi,Wj,Wl,Wm,Wn,Wo,Wp,Wq,Wr,Ws,Wt,Wu,Wv,Ww,Wx,Wy,Wz,W0,W1,W2,W3,W4,W5,W6,W7,W8,Ye,Yf,Yg,Yh,Yi,Yj,Yk,Yl,Ym,Yn,Yo,Yp,Yq,Yr,Ys,Yt,Yu,Yv,Yw,Yx,Yy,Yz,Y0,Y1,Y2,Y3,Y4,Y5,Y6,Y7,Y8,Y9,Va,Vb,Vc,Vd,Ve,Vf,Vg,Vh,Vi,Vj,Vk,Vl,Vm,Vn,Vo,Vp,Vq,Vr,Vs,Vt,Vu,Vv,Vw,Vx,Vy,Vz,V0,V1,V3,V4,V5,V6,V7,V8,V9,Ua,Ub,Uc,Ud,Ue,Uf,Ul,Um,Un,Uo,Uq,Ur,Us,Ut,Uu,Uv,Uw,Ux,Uy,Uz,U0,U1,U3,U4,U5,U6,U7,U8,U9,Ka,Kb,Kc,Kd,Ke,Kf,Kg,Kh,Ki,Kj,Kk,Kl,Km,Kn,Ko,Kq,Kr,Ks,Kt,Ga,K8,Kz,tab44]
       tactic =>
        try simp only [K2] at *
        try simp only [nc2] at *
        try simp (maxSteps := 4000000) only [hlb,q1,D8,Sy.eq_def,Gg]
        repeat' (first | with_reducible assumption | with_reducible refine And.intro ?_ ?_ | intro _ | omega | (rw [Ku]; omega))
        all_goals first
          | (with_reducible refine K9 ?_; kernel_rfl)
          | omega
          | exact ⟨k + 1, by simp only [hL2, hsn]; ((try simp only [Kv, Ky, Kx, K4, upd, K5, Gb, Gs, Nat.reduceDiv, Nat.reduceMod, Nat.reduceMul, Nat.reduceAdd, Nat.reduceEqDiff, List.set_cons_zero, List.set_cons_succ, if_true, if_false, reduceIte]); (first | refine Wk.of_fl ?_ | skip); simp only [Wk, wkK, Gy, wkT, wk1, AV.kept, keptAll, wkO, lk, Kw, and_true, true_and, and_self, Nat.reduceEqDiff, Nat.reduceLeDiff, if_true, if_false, reduceIte, reduceCtorEq, Option.isSome, false_implies]; try simp [Wk, wkK, wkT, wk1, AV.kept, keptAll, wkO, lk, Kw, List.map_append, List.length_append]), by omega, by omega⟩
          | skip)
    · have hkl : l.take k = l := List.take_of_length_le hlt
      rw [hkl]
      (sym =>
       simp [hlb,D8,Sy.eq_def,ctx_madeH_t,ctx_madeH_c,ctx_madeH_d,ctx_madeH_b,ctx_madeH_u,ctx_madeH_w,Bp.eq_def,Pi.eq_def,Za,Zb,Zc,Ze,Zf,Zg,Zn,Zo,Zp,Zq,Zr,Zs,Zv,Zx,Zz,Z0,Z1,Z2,Z6,Z7,Z8,Z9,Qa,Qb,Qc,Qd,Qe,Qi,Qj,Qk,Ql,Qm,Qn,Qp,Qv,Qw,Qy,Q1,Q2,Q3,Q4,Q5,Q6,Q7,Q8,Q9,Ja,Jb,Jc,Jd,Je,Jl,Jq,Jr,Js,Jt,Ju,Jx,Jy,J9,Xa,Xb,Xc,Xd,Xe,Xf,Xg,Xh,Xi,Xj,Xk,Xl,Xm,Xn,Xq,Xs,Xt,Xu,Xv,Xw,Xx,Xy,Xz,X0,X1,X2,X3,X4,X5,X6,X7,X8,X9,Wa,Wd,We,Wf,Wg,Wh,Wi,Wj,Wl,Wm,Wn,Wo,Wp,Wq,Wr,Ws,Wt,Wu,Wv,Ww,Wx,Wy,Wz,W0,W1,W2,W3,W4,W5,W6,W7,W8,Ye,Yf,Yg,Yh,Yi,Yj,Yk,Yl,Ym,Yn,Yo,Yp,Yq,Yr,Ys,Yt,Yu,Yv,Yw,Yx,Yy,Yz,Y0,Y1,Y2,Y3,Y4,Y5,Y6,Y7,Y8,Y9,Va,Vb,Vc,Vd,Ve,Vf,Vg,Vh,Vi,Vj,Vk,Vl,Vm,Vn,Vo,Vp,Vq,Vr,Vs,Vt,Vu,Vv,Vw,Vx,Vy,Vz,V0,V1,V3,V4,V5,V6,V7,V8,V9,Ua,Ub,Uc,Ud,Ue,Uf,Ul,Um,Un,Uo,Uq,Ur,Us,Ut,Uu,Uv,Uw,Ux,Uy,Uz,U0,U1,U3,U4,U5,U6,U7,U8,U9,Ka,Kb,Kc,Kd,Ke,Kf,Kg,Kh,Ki,Kj,Kk,Kl,Km,Kn,Ko,Kq,Kr,Ks,Kt,Ga,K8,Kz,tab44]))
structure PN where
  n : Int
instance encPN : Enc PN := ⟨fun p => .ptr 1 (.int .i64 p.n), fun x => match x with
  | .ptr _ y => ⟨y.i⟩
  | _ => ⟨0⟩, fun p => rfl⟩
theorem enc_PN {n : Int} : (enc (PN.mk n) : D) = .ptr 1 (.int .i64 n) := rfl
theorem PN_n {n : Int} : (PN.mk n).n = n := rfl
theorem A8 {n : Int} : (dec (.ptr 1 (.int .i64 n)) : PN) = ⟨n⟩ := Enc.dec_enc (PN.mk n)
theorem A0 {n : Int} : isE PN (.ptr 1 (.int .i64 n)) = True := eq_true (N7 (PN.mk n))
def Nf : Con := L3 (fun (s : Sl Int) (p : PN) => Lo s.l.length ∧ p.n ≤ 1000000) (fun s p => Sl.mk (Sr s.l p.n))
noncomputable def P6 : Ctx := ⟨tab, lkC [(48, Nh)], 60, lkB [], [], false⟩
theorem Ch : P6.τ = tab := rfl
theorem Cj : P6.Γ = lkC [(48, Nh)] := rfl
theorem Ci : P6.dp = 60 := rfl
theorem Ck : P6.Δ = lkB [] := rfl
theorem Cg : P6.cuts = [] := rfl
theorem Cf : P6.wr = false := rfl
set_option maxRecDepth 100000 in
theorem good_Missing_1H : Me Try.prog (47, Nf) := by
  refine ⟨Gj Try.func47 (by kernel_rfl) rfl, ?_⟩
  have K : Hq Try.prog P6 := Gq H8 G4 (by
    intro p hp
    simp only [List.mem_cons, List.not_mem_nil, or_false] at hp
    rcases hp with rfl
    · exact good_containsS) (by simp)
  obtain ⟨c, hc⟩ : ∃ c, Try.f47.body = some c := ⟨_, rfl⟩
  refine Gu K Try.func47 hc [.tmp 3] rfl 20 rfl (fun cvs hpre => ?_)
  change Nf.pre cvs at hpre
  unfold Nf at hpre
  obtain ⟨⟨s⟩, ⟨n⟩, rfl, hs, hn⟩ := Hx hpre
  simp only at hs hn
  clear hpre
  simp only [Try.f47, Option.some.injEq] at hc
  subst hc
  (sym =>
   simp [enc_PN,A8,A0,PN_n,Ch,Cj,Ci,Ck,Cg,Cf,Nf.eq_def,Nh.eq_def,Za,Zb,Zc,Ze,Zf,Zg,Zn,Zo,Zp,Zq,Zr,Zs,Zv,Zz,Z0,Z1,Z6,Z7,Z8,Z9,Qa,Qb,Qc,Qd,Qe,Qi,Qk,Ql,Qm,Qn,Qp,Qv,Qw,Qy,Q1,Q2,Q3,Q4,Q5,Q6,Q7,Q8,Q9,Ja,Jb,Jc,Jd,Je,Jl,Jq,Jr,Js,Jt,Ju,Jx,Jy,J9,Xa,Xb,Xc,Xd,Xe,Xf,Xg,Xh,Xi,Xj,Xk,Xl,Xm,Xn,Xq,Xs,Xt,Xu,Xv,Xw,Xx,Xy,Xz,X0,X1,X2,X3,X4,X5,X6,X7,X8,X9,Wa,Wd,We,Wf,Wg,Wh,Wi,Wj,Wl,Wm,Wn,Wo,Wp,Wq,Wr,Ws,Wt,Wu,Wv,Ww,Wx,Wy,Wz,W0,W1,W2,W3,W4,W5,W6,W7,W8,Ye,Yf,Yg,Yh,Yi,Yj,Yk,Yl,Ym,Yn,Yo,Yp,Yq,Yr,Ys,Yt,Yu,Yv,Yw,Yx,Yy,Yz,Y0,Y1,Y2,Y3,Y4,Y5,Y6,Y7,Y8,Y9,Va,Vb,Vc,Vd,Ve,Vf,Vg,Vh,Vi,Vj,Vk,Vl,Vm,Vn,Vo,Vp,Vq,Vr,Vs,Vt,Vu,Vv,Vw,Vx,Vy,Vz,V0,V1,V3,V4,V5,V6,V7,V8,V9,Ua,Ub,Uc,Ud,Ue,Uf,Ul,Um,Un,Uo,Uq,Ur,Us,Ut,Uu,Uv,Uw,Ux,Uy,Uz,U0,U1,U3,U4,U5,U6,U7,U8,U9,Ka,Kb,Kc,Kd,Ke,Kf,Kg,Kh,Ki,Kj,Kk,Kl,Km,Kn,Ko,Kq,Kr,Ks,Kt,Ga,G5,Kz]
   tactic =>
    try simp only [K2] at *
    try simp only [nc2] at *
    try simp (maxSteps := 4000000) only [enc_PN,A8,A0,PN_n,Gg]
    refine Gi [6, 7, 8, 9, 10, 11, 12, 13, 14, 15, 16, 17, 18] (fun j : Nat => [(5, .d (.int .i64 ((j + 1 : Nat) : Int))), (4, .sl 18 ((Cp s j).map (enc : Int → D)).length)]) (fun j : Nat => [(18, .row 1 ((Cp s j).map enc) 0)]) (fun j : Nat => j ≤ n.toNat) (fun j : Nat => n.toNat - j) 0 ?_ ?_ ?_
    · omega
    · ((try simp only [Kv, Ky, Kx, K4, upd, K5, Gb, Gs, Nat.reduceDiv, Nat.reduceMod, Nat.reduceMul, Nat.reduceAdd, Nat.reduceEqDiff, List.set_cons_zero, List.set_cons_succ, if_true, if_false, reduceIte]); (first | refine Wk.of_fl ?_ | skip); simp only [Wk, wkK, Gy, wkT, wk1, AV.kept, keptAll, wkO, lk, Kw, and_true, true_and, and_self, Nat.reduceEqDiff, Nat.reduceLeDiff, if_true, if_false, reduceIte, reduceCtorEq, Option.isSome, false_implies]; try simp [Wk, wkK, wkT, wk1, AV.kept, keptAll, wkO, lk, Kw, Cp])
    rintro j hj
    have hul := E6 s j
    have hul2 := E6 s (j + 1)
    by_cases hjn : j < n.toNat
    · have hjb : leB ((j + 1 : Nat) : Int) n = true := by rw [D5]; omega
      have hun : Cp s (j + 1) = Cp s j ++ cond (inB s ((j + 1 : Nat) : Int)) [] [((j + 1 : Nat) : Int)] := rfl
      obtain ⟨J, hJ⟩ : ∃ J, j + 1 = J := ⟨_, rfl⟩
      rw [hJ] at hjb hun hul2 ⊢
      cases hb : inB s (J : Int) with
      | true =>
        rw [hb, cond_true, List.append_nil] at hun
        (sym =>
         simp [hjb,hb,enc_PN,A8,A0,PN_n,Ch,Cj,Ci,Ck,Cg,Cf,Nf.eq_def,Nh.eq_def,Za,Zb,Zc,Ze,Zf,Zg,Zn,Zo,Zp,Zq,Zr,Zs,Zv,Zz,Z0,Z1,Z6,Z7,Z8,Z9,Qa,Qb,Qc,Qd,Qe,Qi,Qk,Ql,Qm,Qn,Qp,Qv,Qw,Qy,Q1,Q2,Q3,Q4,Q5,Q6,Q7,Q8,Q9,Ja,Jb,Jc,Jd,Je,Jl,Jq,Jr,Js,Jt,Ju,Jx,Jy,J9,Xa,Xb,Xc,Xd,Xe,Xf,Xg,Xh,Xi,Xj,Xk,Xl,Xm,Xn,Xq,Xs,Xt,Xu,Xv,Xw,Xx,Xy,Xz,X0,X1,X2,X3,X4,X5,X6,X7,X8,X9,Wa,Wd,We,Wf,Wg,Wh,Wi,Wj,Wl,Wm,Wn,Wo,Wp,Wq,Wr,Ws,Wt,Wu,Wv,Ww,Wx,Wy,Wz,W0,W1,W2,W3,W4,W5,W6,W7,W8,Ye,Yf,Yg,Yh,Yi,Yj,Yk,Yl,Ym,Yn,Yo,Yp,Yq,Yr,Ys,Yt,Yu,Yv,Yw,Yx,Yy,Yz,Y0,Y1,Y2,Y3,Y4,Y5,Y6,Y7,Y8,Y9,Va,Vb,Vc,Vd,Ve,Vf,Vg,Vh,Vi,Vj,Vk,Vl,Vm,Vn,Vo,Vp,Vq,Vr,Vs,Vt,Vu,Vv,Vw,Vx,Vy,Vz,V0,V1,V3,V4,V5,V6,V7,V8,V9,Ua,Ub,Uc,Ud,Ue,Uf,Ul,Um,Un,Uo,Uq,Ur,Us,Ut,Uu,Uv,Uw,Ux,Uy,Uz,U0,U1,U3,U4,U5,U6,U7,U8,U9,Ka,Kb,Kc,Kd,Ke,Kf,Kg,Kh,Ki,Kj,Kk,Kl,Km,Kn,Ko,Kq,Kr,Ks,Kt,Ga,G5,Kz]
         tactic =>
          try simp only [K2] at *
          try simp only [nc2] at *
          try simp (maxSteps := 4000000) only [hjb,hb,enc_PN,A8,A0,PN_n,Gg]
          repeat' (first | with_reducible assumption | with_reducible refine And.intro ?_ ?_ | intro _ | omega | (rw [Ku]; omega))
          all_goals first
            | (with_reducible refine K9 ?_; kernel_rfl)
            | omega
            | exact ⟨J, by rw [hun]; ((try simp only [Kv, Ky, Kx, K4, upd, K5, Gb, Gs, Nat.reduceDiv, Nat.reduceMod, Nat.reduceMul, Nat.reduceAdd, Nat.reduceEqDiff, List.set_cons_zero, List.set_cons_succ, if_true, if_false, reduceIte]); (first | refine Wk.of_fl ?_ | skip); simp only [Wk, wkK, Gy, wkT, wk1, AV.kept, keptAll, wkO, lk, Kw, and_true, true_and, and_self, Nat.reduceEqDiff, Nat.reduceLeDiff, if_true, if_false, reduceIte, reduceCtorEq, Option.isSome, false_implies]; try simp [Wk, wkK, wkT, wk1, AV.kept, keptAll, wkO, lk, Kw]), by omega, by omega⟩
            | skip)
      | false =>
        rw [hb, cond_false] at hun
        (sym =>
         simp [hjb,hb,enc_PN,A8,A0,PN_n,Ch,Cj,Ci,Ck,Cg,Cf,Nf.eq_def,Nh.eq_def,Za,Zb,Zc,Ze,Zf,Zg,Zn,Zo,Zp,Zq,Zr,Zs,Zv,Zz,Z0,Z1,Z6,Z7,Z8,Z9,Qa,Qb,Qc,Qd,Qe,Qi,Qk,Ql,Qm,Qn,Qp,Qv,Qw,Qy,Q1,Q2,Q3,Q4,Q5,Q6,Q7,Q8,Q9,Ja,Jb,Jc,Jd,Je,Jl,Jq,Jr,Js,Jt,Ju,Jx,Jy,J9,Xa,Xb,Xc,Xd,Xe,Xf,Xg,Xh,Xi,Xj,Xk,Xl,Xm,Xn,Xq,Xs,Xt,Xu,Xv,Xw,Xx,Xy,Xz,X0,X1,X2,X3,X4,X5,X6,X7,X8,X9,Wa,Wd,We,Wf,Wg,Wh,Wi,Wj,Wl,Wm,Wn,Wo,Wp,Wq,Wr,Ws,Wt,Wu,Wv,Ww,Wx,Wy,Wz,W0,W1,W2,W3,W4,W5,W6,W7,W8,Ye,Yf,Yg,Yh,Yi,Yj,Yk,Yl,Ym,Yn,Yo,Yp,Yq,Yr,Ys,Yt,Yu,Yv,Yw,Yx,Yy,Yz,Y0,Y1,Y2,Y3,Y4,Y5,Y6,Y7,Y8,Y9,Va,Vb,Vc,Vd,Ve,Vf,Vg,Vh,Vi,Vj,Vk,Vl,Vm,Vn,Vo,Vp,Vq,Vr,Vs,Vt,Vu,Vv,Vw,Vx,Vy,Vz,V0,V1,V3,V4,V5,V6,V7,V8,V9,Ua,Ub,Uc,Ud,Ue,Uf,Ul,Um,Un,Uo,Uq,Ur,Us,Ut,Uu,Uv,Uw,Ux,Uy,Uz,U0,U1,U3,U4,U5,U6,U7,U8,U9,Ka,Kb,Kc,Kd,Ke,Kf,Kg,Kh,Ki,Kj,Kk,Kl,Km,Kn,Ko,Kq,Kr,Ks,Kt,Ga,G5,Kz]
         tactic =>
          try simp only [K2] at *
          try simp only [nc2] at *
          try simp (maxSteps := 4000000) only [hjb,hb,enc_PN,A8,A0,PN_n,Gg]
          repeat' (first | with_reducible assumption | with_reducible refine And.intro ?_ ?_ | intro _ | omega | (rw [Ku]; omega))
          all_goals first
            | (with_reducible refine K9 ?_; kernel_rfl)
            | omega
            | exact ⟨J, by rw [hun]; ((try simp only [Kv, Ky, Kx, K4, upd, K5, Gb, Gs, Nat.reduceDiv, Nat.reduceMod, Nat.reduceMul, Nat.reduceAdd, Nat.reduceEqDiff, List.set_cons_zero, List.set_cons_succ, if_true, if_false, reduceIte]); (first | refine Wk.of_fl ?_ | skip); simp only [Wk, wkK, Gy, wkT, wk1, AV.kept, keptAll, wkO, lk, Kw, and_true, true_and, and_self, Nat.reduceEqDiff, Nat.reduceLeDiff, if_true, if_false, reduceIte, reduceCtorEq, Option.isSome, false_implies]; try simp [Wk, wkK, wkT, wk1, AV.kept, keptAll, wkO, lk, Kw, List.map_append, List.length_append]), by omega, by omega⟩
            | skip)
    · have hjb : leB ((j + 1 : Nat) : Int) n = false := by rw [Dr]; omega
      have hje : Cp s j = Sr s n := by unfold Sr; congr 1; omega
      rw [hje] at hul ⊢
      (sym =>
       simp [hjb,enc_PN,A8,A0,PN_n,Ch,Cj,Ci,Ck,Cg,Cf,Nf.eq_def,Nh.eq_def,Za,Zb,Zc,Ze,Zf,Zg,Zn,Zo,Zp,Zq,Zr,Zs,Zv,Zz,Z0,Z1,Z6,Z7,Z8,Z9,Qa,Qb,Qc,Qd,Qe,Qi,Qk,Ql,Qm,Qn,Qp,Qv,Qw,Qy,Q1,Q2,Q3,Q4,Q5,Q6,Q7,Q8,Q9,Ja,Jb,Jc,Jd,Je,Jl,Jq,Jr,Js,Jt,Ju,Jx,Jy,J9,Xa,Xb,Xc,Xd,Xe,Xf,Xg,Xh,Xi,Xj,Xk,Xl,Xm,Xn,Xq,Xs,Xt,Xu,Xv,Xw,Xx,Xy,Xz,X0,X1,X2,X3,X4,X5,X6,X7,X8,X9,Wa,Wd,We,Wf,Wg,Wh,Wi,Wj,Wl,Wm,Wn,Wo,Wp,Wq,Wr,Ws,Wt,Wu,Wv,Ww,Wx,Wy,Wz,W0,W1,W2,W3,W4,W5,W6,W7,W8,Ye,Yf,Yg,Yh,Yi,Yj,Yk,Yl,Ym,Yn,Yo,Yp,Yq,Yr,Ys,Yt,Yu,Yv,Yw,Yx,Yy,Yz,Y0,Y1,Y2,Y3,Y4,Y5,Y6,Y7,Y8,Y9,Va,Vb,Vc,Vd,Ve,Vf,Vg,Vh,Vi,Vj,Vk,Vl,Vm,Vn,Vo,Vp,Vq,Vr,Vs,Vt,Vu,Vv,Vw,Vx,Vy,Vz,V0,V1,V3,V4,V5,V6,V7,V8,V9,Ua,Ub,Uc,Ud,Ue,Uf,Ul,Um,Un,Uo,Uq,Ur,Us,Ut,Uu,Uv,Uw,Ux,Uy,Uz,U0,U1,U3,U4,U5,U6,U7,U8,U9,Ka,Kb,Kc,Kd,Ke,Kf,Kg,Kh,Ki,Kj,Kk,Kl,Km,Kn,Ko,Kq,Kr,Ks,Kt,Ga,G5,Kz]
       tactic =>
        try simp only [K2] at *
        try simp only [nc2] at *
        try simp (maxSteps := 4000000) only [hjb,enc_PN,A8,A0,PN_n,Gg]
        repeat' (first | with_reducible assumption | with_reducible refine And.intro ?_ ?_ | intro _ | omega | (rw [Ku]; omega))
        all_goals first
          | omega
          | rfl
          | skip))
structure MisF where
  n : Int
instance encMisF : Enc MisF := ⟨fun p => .clo 47 [.ptr 1 (.int .i64 p.n)], fun x => match x with
  | .clo _ [.ptr _ y] => ⟨y.i⟩
  | _ => ⟨0⟩, fun p => rfl⟩
theorem R0 {n : Int} : (enc (MisF.mk n) : D) = .clo 47 [.ptr 1 (.int .i64 n)] := rfl
theorem MisF_n {n : Int} : (MisF.mk n).n = n := rfl
theorem dec_MisF {n : Int} : (dec (.clo 47 [.ptr 1 (.int .i64 n)]) : MisF) = ⟨n⟩ := Enc.dec_enc (MisF.mk n)
theorem isE_MisF {n : Int} : isE MisF (.clo 47 [.ptr 1 (.int .i64 n)]) = True := eq_true (N7 (MisF.mk n))
def L1 : Con := Sy (fun (l : Sl (Sl Int)) (p : MisF) => l.l.length ≤ 1000000 ∧ Rw l.l ∧ p.n ≤ 1000000) (fun l p => N4 l.l p.n)
noncomputable def C6 : Ctx := ⟨tab, lkC [(47, Nf)], 60, lkB [], [], false⟩
theorem Oa : C6.τ = tab := rfl
theorem Oc : C6.Γ = lkC [(47, Nf)] := rfl
theorem Ob : C6.dp = 60 := rfl
theorem Od : C6.Δ = lkB [] := rfl
theorem I9 : C6.cuts = [] := rfl
theorem I8 : C6.wr = false := rfl
set_option maxRecDepth 100000 in
theorem good_madeH' : Me Try.prog (40, L1) := by
  refine ⟨Gj Try.func40 (by kernel_rfl) rfl, ?_⟩
  have K : Hq Try.prog C6 := Gq H8 G4 (by
    intro p hp
    simp only [List.mem_cons, List.not_mem_nil, or_false] at hp
    rcases hp with rfl
    · exact good_Missing_1H) (by simp)
  obtain ⟨c, hc⟩ : ∃ c, Try.f40.body = some c := ⟨_, rfl⟩
  refine Gu K Try.func40 hc [.tmp 4] rfl 22 rfl (fun cvs hpre => ?_)
  change L1.pre cvs at hpre
  unfold L1 at hpre
  obtain ⟨⟨l⟩, ⟨n⟩, rfl, hl1, ⟨hl2, hl3⟩, hn⟩ := con2w_pre hpre
  simp only at hl1 hl2 hl3 hn
  clear hpre
  simp only [Try.f40, Option.some.injEq] at hc
  subst hc
  (sym =>
   simp [R0,Sy.eq_def,Oa,Oc,Ob,Od,I9,I8,Nf.eq_def,L1.eq_def,Za,Zb,Zc,Ze,Zf,Zg,Zn,Zo,Zp,Zq,Zr,Zs,Zv,Zx,Zz,Z0,Z1,Z2,Z6,Z7,Z8,Z9,Qa,Qb,Qc,Qd,Qe,Qi,Qj,Qk,Ql,Qm,Qn,Qp,Qv,Qw,Qy,Q1,Q2,Q3,Q4,Q5,Q6,Q7,Q8,Q9,Ja,Jb,Jc,Jd,Je,Jl,Jq,Jr,Js,Jt,Ju,Jx,Jy,J9,Xa,Xb,Xc,Xd,Xe,Xf,Xg,Xh,Xi,Xj,Xk,Xl,Xm,Xn,Xq,Xs,Xt,Xu,Xv,Xw,Xx,Xy,Xz,X0,X1,X2,X3,X4,X5,X6,X7,X8,X9,Wa,Wd,We,Wf,Wg,Wh,Wi,Wj,Wl,Wm,Wn,Wo,Wp,Wq,Wr,Ws,Wt,Wu,Wv,Ww,Wx,Wy,Wz,W0,W1,W2,W3,W4,W5,W6,W7,W8,Ye,Yf,Yg,Yh,Yi,Yj,Yk,Yl,Ym,Yn,Yo,Yp,Yq,Yr,Ys,Yt,Yu,Yv,Yw,Yx,Yy,Yz,Y0,Y1,Y2,Y3,Y4,Y5,Y6,Y7,Y8,Y9,Va,Vb,Vc,Vd,Ve,Vf,Vg,Vh,Vi,Vj,Vk,Vl,Vm,Vn,Vo,Vp,Vq,Vr,Vs,Vt,Vu,Vv,Vw,Vx,Vy,Vz,V0,V1,V3,V4,V5,V6,V7,V8,V9,Ua,Ub,Uc,Ud,Ue,Uf,Ul,Um,Un,Uo,Uq,Ur,Us,Ut,Uu,Uv,Uw,Ux,Uy,Uz,U0,U1,U3,U4,U5,U6,U7,U8,U9,Ka,Kb,Kc,Kd,Ke,Kf,Kg,Kh,Ki,Kj,Kk,Kl,Km,Kn,Ko,Kq,Kr,Ks,Kt,Ga,K8,Kz,tab44]
   tactic =>
    try simp only [K2] at *
    try simp only [nc2] at *
    try simp (maxSteps := 4000000) only [R0,Sy.eq_def,Gg]
    refine Gi [7, 11, 12, 13, 14, 15, 16, 17, 18, 19, 20] (fun k : Nat => [(10, .d (.int .i64 k)), (5, .sl 19 ((N4 (l.take k) n).map (enc : Sl Int → D)).length)]) (fun k : Nat => [(19, .row 1 ((N4 (l.take k) n).map enc) 0)]) (fun k : Nat => k ≤ l.length) (fun k : Nat => l.length - k) 0 ?_ ?_ ?_
    · simp
    · ((try simp only [Kv, Ky, Kx, K4, upd, K5, Gb, Gs, Nat.reduceDiv, Nat.reduceMod, Nat.reduceMul, Nat.reduceAdd, Nat.reduceEqDiff, List.set_cons_zero, List.set_cons_succ, if_true, if_false, reduceIte]); (first | refine Wk.of_fl ?_ | skip); simp only [Wk, wkK, Gy, wkT, wk1, AV.kept, keptAll, wkO, lk, Kw, and_true, true_and, and_self, Nat.reduceEqDiff, Nat.reduceLeDiff, if_true, if_false, reduceIte, reduceCtorEq, Option.isSome, false_implies]; try simp [Wk, wkK, wkT, wk1, AV.kept, keptAll, wkO, lk, Kw, N4])
    rintro k hk
    have hl : (N4 (l.take k) n).length ≤ 1000000 := by rw [P3, List.length_take]; omega
    rcases Gl k l.length with ⟨hlt, hlb⟩ | ⟨hlt, hlb⟩
    · have q1 := Hd (⟨[]⟩ : Sl Int) hlt
      have h2 := hl3 k
      have hsn := missL_snoc (n := n) hlt
      obtain ⟨⟨x⟩, hx⟩ : ∃ x, l.getD k ⟨[]⟩ = x := ⟨_, rfl⟩
      rw [hx] at q1 hsn h2
      simp only at h2 hsn
      obtain ⟨L, hL⟩ : ∃ L, N4 (l.take k) n = L := ⟨_, rfl⟩
      obtain ⟨L2, hL2⟩ : ∃ L, N4 (l.take (k + 1)) n = L := ⟨_, rfl⟩
      rw [hL, hL2] at hsn
      rw [hL] at hl ⊢
      (sym =>
       simp [hlb,q1,R0,A8,A0,PN_n,Sy.eq_def,Oa,Oc,Ob,Od,I9,I8,Nf.eq_def,L1.eq_def,Za,Zb,Zc,Ze,Zf,Zg,Zn,Zo,Zp,Zq,Zr,Zs,Zv,Zx,Zz,Z0,Z1,Z2,Z6,Z7,Z8,Z9,Qa,Qb,Qc,Qd,Qe,Qi,Qj,Qk,Ql,Qm,Qn,Qp,Qv,Qw,Qy,Q1,Q2,Q3,Q4,Q5,Q6,Q7,Q8,Q9,Ja,Jb,Jc,Jd,Je,Jl,Jq,Jr,Js,Jt,Ju,Jx,Jy,J9,Xa,Xb,Xc,Xd,Xe,Xf,Xg,Xh,Xi,Xj,Xk,Xl,Xm,Xn,Xq,Xs,Xt,Xu,Xv,Xw,Xx,Xy,Xz,X0,X1,X2,X3,X4,X5,X6,X7,X8,X9,Wa,Wd,We,Wf,Wg,Wh,Wi,Wj,Wl,Wm,Wn,Wo,Wp,Wq,Wr,Ws,Wt,Wu,Wv,Ww,Wx,Wy,Wz,W0,W1,W2,W3,W4,W5,W6,W7,W8,Ye,Yf,Yg,Yh,Yi,Yj,Yk,Yl,Ym,Yn,Yo,Yp,Yq,Yr,Ys,Yt,Yu,Yv,Yw,Yx,Yy,Yz,Y0,Y1,Y2,Y3,Y4,Y5,Y6,Y7,Y8,Y9,Va,Vb,Vc,Vd,Ve,Vf,Vg,Vh,Vi,Vj,Vk,Vl,Vm,Vn,Vo,Vp,Vq,Vr,Vs,Vt,Vu,Vv,Vw,Vx,Vy,Vz,V0,V1,V3,V4,V5,V6,V7,V8,V9,Ua,Ub,Uc,Ud,Ue,Uf,Ul,Um,Un,Uo,Uq,Ur,Us,Ut,Uu,Uv,Uw,Ux,Uy,Uz,U0,U1,U3,U4,U5,U6,U7,U8,U9,Ka,Kb,Kc,Kd,Ke,Kf,Kg,Kh,Ki,Kj,Kk,Kl,Km,Kn,Ko,Kq,Kr,Ks,Kt,Ga,K8,Kz,tab44]
       tactic =>
        try simp only [K2] at *
        try simp only [nc2] at *
        try simp (maxSteps := 4000000) only [hlb,q1,R0,A8,A0,PN_n,Sy.eq_def,Gg]
        repeat' (first | with_reducible assumption | with_reducible refine And.intro ?_ ?_ | intro _ | omega | (rw [Ku]; omega))
        all_goals first
          | (with_reducible refine K9 ?_; kernel_rfl)
          | omega
          | exact ⟨k + 1, by simp only [hL2, hsn]; ((try simp only [Kv, Ky, Kx, K4, upd, K5, Gb, Gs, Nat.reduceDiv, Nat.reduceMod, Nat.reduceMul, Nat.reduceAdd, Nat.reduceEqDiff, List.set_cons_zero, List.set_cons_succ, if_true, if_false, reduceIte]); (first | refine Wk.of_fl ?_ | skip); simp only [Wk, wkK, Gy, wkT, wk1, AV.kept, keptAll, wkO, lk, Kw, and_true, true_and, and_self, Nat.reduceEqDiff, Nat.reduceLeDiff, if_true, if_false, reduceIte, reduceCtorEq, Option.isSome, false_implies]; try simp [Wk, wkK, wkT, wk1, AV.kept, keptAll, wkO, lk, Kw, List.map_append, List.length_append]), by omega, by omega⟩
          | skip)
    · have hkl : l.take k = l := List.take_of_length_le hlt
      rw [hkl]
      (sym =>
       simp [hlb,R0,dec_MisF,MisF_n,Sy.eq_def,Oa,Oc,Ob,Od,I9,I8,Nf.eq_def,L1.eq_def,Za,Zb,Zc,Ze,Zf,Zg,Zn,Zo,Zp,Zq,Zr,Zs,Zv,Zx,Zz,Z0,Z1,Z2,Z6,Z7,Z8,Z9,Qa,Qb,Qc,Qd,Qe,Qi,Qj,Qk,Ql,Qm,Qn,Qp,Qv,Qw,Qy,Q1,Q2,Q3,Q4,Q5,Q6,Q7,Q8,Q9,Ja,Jb,Jc,Jd,Je,Jl,Jq,Jr,Js,Jt,Ju,Jx,Jy,J9,Xa,Xb,Xc,Xd,Xe,Xf,Xg,Xh,Xi,Xj,Xk,Xl,Xm,Xn,Xq,Xs,Xt,Xu,Xv,Xw,Xx,Xy,Xz,X0,X1,X2,X3,X4,X5,X6,X7,X8,X9,Wa,Wd,We,Wf,Wg,Wh,Wi,Wj,Wl,Wm,Wn,Wo,Wp,Wq,Wr,Ws,Wt,Wu,Wv,Ww,Wx,Wy,Wz,W0,W1,W2,W3,W4,W5,W6,W7,W8,Ye,Yf,Yg,Yh,Yi,Yj,Yk,Yl,Ym,Yn,Yo,Yp,Yq,Yr,Ys,Yt,Yu,Yv,Yw,Yx,Yy,Yz,Y0,Y1,Y2,Y3,Y4,Y5,Y6,Y7,Y8,Y9,Va,Vb,Vc,Vd,Ve,Vf,Vg,Vh,Vi,Vj,Vk,Vl,Vm,Vn,Vo,Vp,Vq,Vr,Vs,Vt,Vu,Vv,Vw,Vx,Vy,Vz,V0,V1,V3,V4,V5,V6,V7,V8,V9,Ua,Ub,Uc,Ud,Ue,Uf,Ul,Um,Un,Uo,Uq,Ur,Us,Ut,Uu,Uv,Uw,Ux,Uy,Uz,U0,U1,U3,U4,U5,U6,U7,U8,U9,Ka,Kb,Kc,Kd,Ke,Kf,Kg,Kh,Ki,Kj,Kk,Kl,Km,Kn,Ko,Kq,Kr,Ks,Kt,Ga,K8,Kz,tab44]))
def Gn : Con := L3 (fun (l : Sl (Sl Int)) (n : Int) => l.l.length ≤ 1000000 ∧ Rw l.l ∧ n ≤ 1000000) (fun l n => Sl.mk (N4 l.l n))
noncomputable def Li : Ctx := ⟨tab, lkC [(40, L1)], 60, lkB [], [], false⟩
theorem ctx_MissingH_t : Li.τ = tab := rfl
theorem ctx_MissingH_c : Li.Γ = lkC [(40, L1)] := rfl
theorem ctx_MissingH_d : Li.dp = 60 := rfl
theorem ctx_MissingH_b : Li.Δ = lkB [] := rfl
theorem ctx_MissingH_u : Li.cuts = [] := rfl
theorem ctx_MissingH_w : Li.wr = false := rfl
theorem A3 : Me Try.prog (25, Gn) := by
  refine ⟨Gj Try.func25 (by kernel_rfl) rfl, ?_⟩
  have K : Hq Try.prog Li := Gq H8 G4 (by
    intro p hp
    simp only [List.mem_cons, List.not_mem_nil, or_false] at hp
    rcases hp with rfl
    · exact good_madeH') (by simp)
  obtain ⟨c, hc⟩ : ∃ c, Try.f25.body = some c := ⟨_, rfl⟩
  refine Gu K Try.func25 hc [.tmp 4] rfl 8 rfl (fun cvs hpre => ?_)
  change Gn.pre cvs at hpre
  unfold Gn at hpre
  obtain ⟨⟨l⟩, n, rfl, hl1, hl2, hn⟩ := Hx hpre
  simp only at hl1 hl2 hn
  clear hpre
  simp only [Try.f25, Option.some.injEq] at hc
  subst hc
  (sym =>
   simp [R0,dec_MisF,MisF_n,isE_MisF,Sy.eq_def,ctx_MissingH_t,ctx_MissingH_c,ctx_MissingH_d,ctx_MissingH_b,ctx_MissingH_u,ctx_MissingH_w,Gn.eq_def,L1.eq_def,Za,Zb,Zc,Ze,Zf,Zg,Zn,Zo,Zp,Zq,Zr,Zs,Zu,Zv,Z6,Z7,Z8,Z9,Qa,Qb,Qc,Qd,Qe,Qf,Qi,Qk,Ql,Qm,Qn,Qp,Qv,Qw,Qy,Q1,Q2,Q3,Q8,Ja,Jb,Jc,Jd,Je,Jl,Jq,Jr,Jx,Jy,Xb,Xc,Xd,Xe,Xf,Xg,Xh,Xi,Xj,Xk,Xl,Xm,Xn,Xq,Xs,Xt,Xu,Xv,Xw,Xx,Xy,Xz,X0,X1,X2,X3,X4,X5,X6,X8,X9,Wa,Wd,We,Wf,Wg,Wh,Wi,Wj,Wl,Wm,Wn,Wo,Wp,Wq,Wr,Ws,Wt,Wu,Wv,Ww,Wx,Wy,Wz,W0,W1,W2,W3,W4,W5,W6,W7,W8,Yf,Yg,Yh,Yi,Yj,Yk,Yl,Ym,Yn,Yo,Yp,Yq,Yr,Ys,Yt,Yu,Yv,Yw,Yx,Yy,Yz,Y0,Y1,Y2,Y3,Y4,Y5,Y6,Y7,Y8,Y9,Va,Vb,Vc,Vd,Ve,Vf,Vg,Vh,Vi,Vj,Vk,Vl,Vm,Vn,Vo,Vp,Vq,Vr,Vs,Vt,Vu,Vv,Vw,Vx,Vy,Vz,V0,V1,V3,V4,V5,V6,V7,V8,V9,Ua,Ub,Uc,Ud,Ue,Uf,Ul,Um,Uq,Ur,Us,Ut,Uu,Uv,Uw,Ux,Uy,Uz,U0,U1,U3,U4,U5,U6,U7,U8,U9,Ka,Kb,Kc,Kd,Ke,Kf,Kg,Kh,Ki,Kj,Kk,Kl,Km,Kn,Ko,Kq,Kr,Ks,Kt,Ga,K8,Kz]
   tactic =>
    try simp only [K2] at *
    try simp only [nc2] at *
    try simp (maxSteps := 4000000) only [R0,dec_MisF,MisF_n,isE_MisF,Sy.eq_def,Gg]
    repeat' (first | with_reducible assumption | with_reducible refine And.intro ?_ ?_ | intro _ | omega | (rw [Ku]; omega))
    all_goals first
      | omega
      | assumption
      | rfl
      | skip)
end Go.Am.Hit
set_option linter.unusedSimpArgs false
set_option linter.unusedVariables false
set_option maxHeartbeats 2000000
namespace Go.Am.Hit
open Go.Proofs Go.RowKit
theorem calls_isNaN (x : Int) (w : World) : Calls Try.prog 74 #[.int .i64 x] w fun e w' => e = .returned (.bool false) ∧ w' = w := by
  go_enter Try.func74, Try.ntmps74
  go_wp2
  go_ret
  exact ⟨by simp, rfl⟩
theorem cmpI_lt {x y : Int} (h : x < y) : cmpI x y = -1 := by unfold cmpI; rw [show ltB x y = true by rw [Nr]; exact h]; rfl
theorem cmpI_gt {x y : Int} (h : y < x) : cmpI x y = 1 := by unfold cmpI; rw [show ltB x y = false by rw [Hg]; omega, show ltB y x = true by rw [Nr]; exact h]; rfl
theorem cmpI_eq {x y : Int} (h1 : x ≤ y) (h2 : y ≤ x) : cmpI x y = 0 := by unfold cmpI; rw [show ltB x y = false by rw [Hg]; omega, show ltB y x = false by rw [Hg]; omega]; rfl
theorem calls_cmpI (x y : Int) (w : World) : Calls Try.prog 57 #[.int .i64 x, .int .i64 y] w fun e w' => e = .returned (.int .i64 (cmpI x y)) ∧ w' = w := by
  go_enter Try.func57, Try.ntmps57
  go_wp2_with (go_at_call 74; refine (calls_isNaN _ _).mono ?_; rintro e w' ⟨rfl, hw⟩; rw [hw])
  all_goals (go_ret; refine ⟨?_, rfl⟩; first | (rw [cmpI_lt (by omega)]; rfl) | (rw [cmpI_gt (by omega)]; rfl) | (rw [cmpI_eq (by omega) (by omega)]; rfl))
theorem calls_compare (b1 o1 c1 b2 o2 c2 : Nat) (xs ys : List Int) (w : World) (hx : xs.length ≤ 9223372036854775807) (hy : ys.length ≤ 9223372036854775807)
    (h1 : ∀ j, j < xs.length → w.cell? ⟨b1, o1 + j, none⟩ = some (.int .i64 (xs.getD j 0))) (h2 : ∀ j, j < ys.length → w.cell? ⟨b2, o2 + j, none⟩ = some (.int .i64 (ys.getD j 0))) :
    Calls Try.prog 44 #[.slice (some ⟨b1, o1, none⟩) xs.length c1, .slice (some ⟨b2, o2, none⟩) ys.length c2] w fun e w' => e = .returned (.int .i64 (Rg xs ys)) ∧ w' = w := by
  go_enter Try.func44, Try.ntmps44
  go_wp2
  go_loopg [11] xs.length (fun g s11 wr => ∃ k : Nat, k ≤ xs.length ∧ xs.length - k ≤ g ∧ s11 = .int .i64 k ∧ wr = w ∧ k ≤ ys.length ∧ Aside (∀ j, j < k → xs.getD j 0 = ys.getD j 0))
  case atStart => exact ⟨0, Nat.zero_le _, by omega, rfl, rfl, Nat.zero_le _, fun j hj => absurd hj (Nat.not_lt_zero _)⟩
  case round =>
    obtain ⟨k, hk, hg, rfl, rfl, hky, A⟩ := hrel
    by_cases hlt : k < xs.length
    · have g1 := h1 k hlt
      by_cases hlt2 : k < ys.length
      · have g2 := h2 k hlt2
        clear h1 h2
        generalize hxk : xs.getD k 0 = x at g1
        generalize hyk : ys.getD k 0 = y at g2
        have B : Aside (xs.getD k 0 = x ∧ ys.getD k 0 = y) := ⟨hxk, hyk⟩
        clear hxk hyk
        by_cases hxy : x = y
        · subst hxy
          have hcall : ∀ W, Calls Try.prog 57 #[.int .i64 x, .int .i64 x] W fun e w' => e = .returned (.int .i64 0) ∧ w' = W := fun W => by
            have := calls_cmpI x x W
            rwa [cmpI_eq (Int.le_refl _) (Int.le_refl _)] at this
          go_wp2_with (go_at_call 57; refine (hcall _).mono ?_; rintro e w' ⟨rfl, hw⟩; rw [hw])
          go_roundg (xs.length - (k + 1))
          case measure => omega
          case rel =>
            refine ⟨k + 1, by omega, by omega, by go_num, rfl, by omega, (show Aside _ from fun j hj => ?_)⟩
            by_cases e : j = k
            · subst e
              rw [B.out.1, B.out.2]
            · exact A.out j (by omega)
        · have hr : cmpI x y = Rg xs ys := by
            have := cmpL_at hlt hlt2 A.out (by rw [B.out.1, B.out.2]; exact hxy)
            rw [B.out.1, B.out.2] at this
            exact this.symm
          have hc : Rg xs ys ≠ 0 := by rw [← hr]; simpa using cmpI_ne hxy
          have hcall : ∀ W, Calls Try.prog 57 #[.int .i64 x, .int .i64 y] W fun e w' => e = .returned (.int .i64 (Rg xs ys)) ∧ w' = W := fun W => by
            have := calls_cmpI x y W
            rwa [hr] at this
          clear hr hxy B A
          have hc2 : (Rg xs ys == 0) = false := by simpa using hc
          go_wp2_with (go_at_call 57; refine (hcall _).mono ?_; rintro e w' ⟨rfl, hw⟩; rw [hw])
          go_ret
          exact ⟨rfl, rfl⟩
      · have hr := cmpL_long hlt (show k = ys.length by omega) A.out
        clear h1 h2
        go_wp2
        go_ret
        exact ⟨by first | rfl | (rw [hr]; rfl), rfl⟩
    · have hr := cmpL_end (show k = xs.length by omega) hky A.out
      clear h1 h2
      unfold ltB at hr
      by_cases hq : (xs.length : Int) < (ys.length : Int)
      · rw [decide_eq_true hq, cond_true] at hr
        go_wp2
        go_ret
        exact ⟨by first | rfl | (rw [hr]; rfl), rfl⟩
      · rw [decide_eq_false hq, cond_false] at hr
        go_wp2
        go_ret
        exact ⟨by first | rfl | (rw [hr]; rfl), rfl⟩
end Go.Am.Hit
set_option linter.unusedSimpArgs false
set_option linter.unusedVariables false
set_option maxHeartbeats 2000000
namespace Go.Am.Hit
open Go.Proofs Go.Shelf Go.RowKit
def B7 : Ren := ⟨fun x => if x = 6 then 43 else if x = 14 then 55 else if x = 15 then 56 else if x = 20 then 64 else if x = 21 then 65 else if x = 22 then 66 else if x = 23 then 67 else if x = 24 then 68 else if x = 25 then 69 else if x = 26 then 70 else if x = 27 then 71 else if x = 28 then 72 else if x = 29 then 73 else if x = 46 then 76 else if x = 47 then 77 else if x = 48 then 78 else if x = 49 then 79 else if x = 50 then 80 else if x = 57 then 82 else x, fun x => if x = 24 then 29 else if x = 25 then 46 else if x = 39 then 56 else if x = 45 then 63 else if x = 46 then 64 else if x = 50 then 48 else if x = 53 then 70 else if x = 55 then 72 else if x = 66 then 73 else if x = 70 then 77 else if x = 76 then 80 else if x = 77 then 81 else x, fun x => x⟩
theorem bF6 : Bears Try.prog (B7.f 6) (SlBodyF.n6 B7) := ⟨"slices.SortFunc[[][]int,[]int]", by decide, by show Try.prog.funcs[43]? = _; rw [Try.func43]; kernel_rfl⟩
theorem bF14 : Bears Try.prog (B7.f 14) (SlBodyF.n14 B7) := ⟨"slices.pdqsortCmpFunc[[]int]", by decide, by show Try.prog.funcs[55]? = _; rw [Try.func55]; kernel_rfl⟩
theorem bF15 : Try.prog.funcs[B7.f 15]? = some (SlBodyF.n15 B7) := by show Try.prog.funcs[56]? = _; rw [Try.func56]; kernel_rfl
theorem bF20 : Bears Try.prog (B7.f 20) (SlBodyF.n20 B7) := ⟨"slices.insertionSortCmpFunc[[]int]", by decide, by show Try.prog.funcs[64]? = _; rw [Try.func64]; kernel_rfl⟩
theorem bF21 : Bears Try.prog (B7.f 21) (SlBodyF.n21 B7) := ⟨"slices.heapSortCmpFunc[[]int]", by decide, by show Try.prog.funcs[65]? = _; rw [Try.func65]; kernel_rfl⟩
theorem bF22 : Bears Try.prog (B7.f 22) (SlBodyF.n22 B7) := ⟨"slices.breakPatternsCmpFunc[[]int]", by decide, by show Try.prog.funcs[66]? = _; rw [Try.func66]; kernel_rfl⟩
theorem bF23 : Bears Try.prog (B7.f 23) (SlBodyF.n23 B7) := ⟨"slices.choosePivotCmpFunc[[]int]", by decide, by show Try.prog.funcs[67]? = _; rw [Try.func67]; kernel_rfl⟩
theorem bF24 : Bears Try.prog (B7.f 24) (SlBodyF.n24 B7) := ⟨"slices.reverseRangeCmpFunc[[]int]", by decide, by show Try.prog.funcs[68]? = _; rw [Try.func68]; kernel_rfl⟩
theorem bF25 : Bears Try.prog (B7.f 25) (SlBodyF.n25 B7) := ⟨"slices.partialInsertionSortCmpFunc[[]int]", by decide, by show Try.prog.funcs[69]? = _; rw [Try.func69]; kernel_rfl⟩
theorem bF26 : Bears Try.prog (B7.f 26) (SlBodyF.n26 B7) := ⟨"slices.partitionEqualCmpFunc[[]int]", by decide, by show Try.prog.funcs[70]? = _; rw [Try.func70]; kernel_rfl⟩
theorem bF27 : Bears Try.prog (B7.f 27) (SlBodyF.n27 B7) := ⟨"slices.partitionCmpFunc[[]int]", by decide, by show Try.prog.funcs[71]? = _; rw [Try.func71]; kernel_rfl⟩
theorem bF28 : Try.prog.funcs[B7.f 28]? = some (SlBodyF.n28 B7) := by show Try.prog.funcs[72]? = _; rw [Try.func72]; kernel_rfl
theorem bF29 : Try.prog.funcs[B7.f 29]? = some (SlBodyF.n29 B7) := by show Try.prog.funcs[73]? = _; rw [Try.func73]; kernel_rfl
theorem bF46 : Bears Try.prog (B7.f 46) (SlBodyF.n46 B7) := ⟨"slices.siftDownCmpFunc[[]int]", by decide, by show Try.prog.funcs[76]? = _; rw [Try.func76]; kernel_rfl⟩
theorem bF47 : Try.prog.funcs[B7.f 47]? = some (SlBodyF.n47 B7) := by show Try.prog.funcs[77]? = _; rw [Try.func77]; kernel_rfl
theorem bF48 : Try.prog.funcs[B7.f 48]? = some (SlBodyF.n48 B7) := by show Try.prog.funcs[78]? = _; rw [Try.func78]; kernel_rfl
theorem bF49 : Bears Try.prog (B7.f 49) (SlBodyF.n49 B7) := ⟨"slices.medianAdjacentCmpFunc[[]int]", by decide, by show Try.prog.funcs[79]? = _; rw [Try.func79]; kernel_rfl⟩
theorem bF50 : Bears Try.prog (B7.f 50) (SlBodyF.n50 B7) := ⟨"slices.medianCmpFunc[[]int]", by decide, by show Try.prog.funcs[80]? = _; rw [Try.func80]; kernel_rfl⟩
theorem bF57 : Bears Try.prog (B7.f 57) (SlBodyF.n57 B7) := ⟨"slices.order2CmpFunc[[]int]", by decide, by show Try.prog.funcs[82]? = _; rw [Try.func82]; kernel_rfl⟩
theorem LF6 : SlLaysF.n6 Try.prog B7 := ⟨by kernel_rfl, bF6, bF14, bF15, bF20, bF21, bF22, bF23, bF24, bF25, bF26, bF27, bF28, bF29, bF46, bF47, bF48, bF49, bF50, bF57, Try.underlying0, Try.isAgg0, Try.sizeOf0, Try.zeroValue0, Try.underlying3, Try.isAgg3, Try.sizeOf3, Try.zeroValue3, Try.underlying4, Try.isAgg4, Try.sizeOf4, Try.zeroValue4, Try.underlying5, Try.isAgg5, Try.sizeOf5, Try.zeroValue5, Try.underlying9, Try.isAgg9, Try.sizeOf9, Try.zeroValue9, Try.underlying22, Try.isAgg22, Try.sizeOf22, Try.zeroValue22, Try.isAgg29, Try.sizeOf29, Try.underlying46, Try.isAgg46, Try.sizeOf46, Try.zeroValue46, Try.underlying56, Try.isAgg56, Try.sizeOf56, Try.zeroValue56, Try.underlying63, Try.isAgg63, Try.sizeOf63, Try.zeroValue63, Try.underlying64, Try.isAgg64, Try.sizeOf64, Try.zeroValue64, Try.underlying48, Try.isAgg48, Try.sizeOf48, Try.zeroValue48, Try.underlying70, Try.isAgg70, Try.sizeOf70, Try.zeroValue70, Try.underlying72, Try.isAgg72, Try.sizeOf72, Try.zeroValue72, Try.underlying73, Try.isAgg73, Try.sizeOf73, Try.zeroValue73, Try.underlying77, Try.isAgg77, Try.sizeOf77, Try.zeroValue77, Try.underlying80, Try.isAgg80, Try.sizeOf80, Try.zeroValue80, Try.underlying81, Try.isAgg81, Try.sizeOf81, Try.zeroValue81⟩
end Go.Am.Hit
set_option linter.unusedSimpArgs false
set_option linter.unusedVariables false
set_option maxHeartbeats 2000000
namespace Go.Am
open Go.Proofs Go.Shelf Go.Sort Go.Lib
open Go.RowKit (Below)
theorem RE_rs {F : Fix} : ∀ {l : List D} {vs : List Value}, (∀ x ∈ l, (∀ a, x ≠ .agg a) ∧ ∀ a, x ≠ .tup a) → (RE F 1 l vs ↔ Rs F l vs)
  | [], vs, _ => by simp [RE, Rs]
  | x :: l, vs, h => by
    have ih := fun vs => RE_rs (F := F) (l := l) (vs := vs) fun y hy => h y (List.mem_cons_of_mem _ hy)
    obtain ⟨h1, h2⟩ := h x (List.mem_cons_self ..)
    simp only [RE, Rs]
    constructor
    · rintro ⟨v, r, rfl, _, _, hr, hl⟩
      exact ⟨v, r, by rw [Bg (R.oneCell hr h1 h2)]; rfl, hr, (ih r).1 hl⟩
    · rintro ⟨v, r, rfl, hr, hl⟩
      have h0 := R.oneCell hr h1 h2
      exact ⟨v, r, by rw [Bg h0]; rfl, by rw [Bg h0]; rfl, by rw [Bg h0]; simpa using h0, hr, (ih r).2 hl⟩
structure DV (F : Fix) (ok : D → Prop) where
  x : D
  v : Value
  one : v.oneCell' = true
  fit : ok x
  rd : R F x v
theorem dvs_of {F : Fix} {ok : D → Prop} (hno : ∀ x, ok x → (∀ a, x ≠ .agg a) ∧ ∀ a, x ≠ .tup a) : ∀ {l : List D} {vs : List Value}, (∀ x ∈ l, ok x) → Rs F l vs → ∃ ds : List (DV F ok), ds.map DV.x = l ∧ ds.map DV.v = vs
  | [], vs, _, h => by simp only [Rs] at h; subst h; exact ⟨[], rfl, rfl⟩
  | x :: l, vs, hok, h => by
    simp only [Rs] at h
    obtain ⟨v, r, rfl, h1, h2⟩ := h
    have hx := hok x (List.mem_cons_self ..)
    obtain ⟨ds, e1, e2⟩ := dvs_of hno (fun y hy => hok y (List.mem_cons_of_mem _ hy)) h2
    exact ⟨⟨x, v, R.oneCell h1 (hno x hx).1 (hno x hx).2, hx, h1⟩ :: ds, by rw [List.map_cons, e1], by rw [List.map_cons, e2]⟩
theorem dvs_rs {F F' : Fix} {ok : D → Prop} (h : F.le F') : ∀ ds : List (DV F ok), Rs F' (ds.map DV.x) (ds.map DV.v)
  | [] => by simp [Rs]
  | p :: ds => by
    simp only [List.map_cons, Rs]
    exact ⟨_, _, rfl, p.rd.mono h, dvs_rs h ds⟩
theorem heap_sortW {α : Type} [Inhabited α] (enc : α → Value) (w : World) (blk off n : Nat) (d : Array α) (os : Array Go.Obj) (b : Nat) (hb : b < w.heap.size) :
    (sortWorld enc w blk off n d os).heap[b]? = if blk = b then (w.heap[b]?).map (onCells (putCells enc off d)) else w.heap[b]? := by
  unfold sortWorld grow putRow mapBlock Sort.ahead
  simp only
  rw [Array.getElem?_append_left (by simpa using hb), Array.getElem?_modify]
theorem size_sortW {α : Type} [Inhabited α] (enc : α → Value) (w : World) (blk off n : Nat) (d : Array α) (os : Array Go.Obj) : w.heap.size ≤ (sortWorld enc w blk off n d os).heap.size := by
  unfold sortWorld grow putRow mapBlock Sort.ahead
  simp
def Aw (ok : D → Prop) (g : Nat) (srt : List D → List D) : BCon where
  X := List D
  ok := fun l => (∀ x ∈ l, ok x) ∧ l.length ≤ 1000000000
  args := fun l => [.sl 90000 l.length, .d (.clo g [])]
  objs := fun l => [.row 1 l 0]
  res := fun _ => .tup []
  post := fun l => [.row 1 (srt l) 0]
theorem goodb_bsort {P : Program} {ρ : Ren} (L : SlLaysF.n6 P ρ) {f g : Nat} (hf : ρ.f 6 = f) (hE : Ot P f) (eg : Ot P g) {ok : D → Prop} {c : D → D → Int} {srt : List D → List D}
    (hno : ∀ x, ok x → (∀ a, x ≠ .agg a) ∧ ∀ a, x ≠ .tup a)
    (hirr : ∀ x, ok x → ¬ c x x < 0) (htr : ∀ x y z, ok x → ok y → ok z → c x y < 0 → c y z < 0 → c x z < 0) (hntr : ∀ x y z, ok x → ok y → ok z → ¬ c x y < 0 → ¬ c y z < 0 → ¬ c x z < 0)
    (hcmp : ∀ (m : Nat → Nat) (W : World) (x y : D) (v u : Value), ok x → ok y → R ⟨W, m⟩ x v → R ⟨W, m⟩ y u →
      Calls P g #[v, u] W fun e w' => e = .returned (.int .i64 (c x y)) ∧ ∃ q os', w' = grow (W.drewN q) os')
    (hsrt : ∀ l l' : List D, (∀ x ∈ l, ok x) → l'.Perm l → l'.Pairwise (fun a b => ¬ c b a < 0) → l' = srt l) : GoodB P (f, Aw ok g srt) := by
  refine ⟨hE, ?_⟩
  intro (l : List D) (hl : (∀ x ∈ l, ok x) ∧ l.length ≤ 1000000000)
  obtain ⟨hok, hlen⟩ := hl
  have hk90 : lk (Hz [Obj.row 1 l 0]) 90000 = some (.row 1 l 0) := rfl
  refine ⟨by simp [Aw, Tied, Fw, Obj.tied, keptAll, AV.kept, Hz, E5, lk], by simp [Aw, M2], by simp [Aw, Tied, Fw, Obj.tied, keptAll, AV.kept, Hz, E5, lk], by simp [Aw], ?_⟩
  intro m w G vs hs
  change SRg w.heap.size (Ia G [Obj.row 1 l 0]) ⟨⟨w, m⟩, G, lk (Hz [Obj.row 1 l 0])⟩ m G ⟨[.sl 90000 l.length, .d (.clo g [])], Hz [Obj.row 1 l 0]⟩ ⟨vs.toArray, []⟩ w at hs
  have ht := hs.tmps
  change RAs ⟨w, m⟩ G (lk (Hz [Obj.row 1 l 0])) [.sl 90000 l.length, .d (.clo g [])] vs.toArray.toList at ht
  simp only [RAs, RA, R, hk90, Rs] at ht
  obtain ⟨v, r, hvs, ⟨_, _, hv⟩, fv, r2, rfl, ⟨cs0, rfl, rfl⟩, rfl⟩ := ht
  subst hvs
  have hv := hv trivial
  have hs0 : SRg w.heap.size (Ia G [Obj.row 1 l 0]) ⟨⟨w, m⟩, G, lk (Hz [Obj.row 1 l 0])⟩ m G ⟨[], Hz [Obj.row 1 l 0]⟩ ⟨#[], []⟩ w :=
    ⟨rfl, by simp [RAs], hs.objs, hs.apart, hs.mine, hs.frame, hs.old, hs.new, hs.small, hs.lent⟩
  have hob := hs.objs 90000 _ hk90
  simp only [H7] at hob
  have e0 : ∀ x, ([v, Value.func (.func g) #[] (#[] : Array Value)].toArray : Array Value) = x → x = #[v, .func (.func g) #[] #[]] := fun x h => by rw [← h]
  subst hf
  show Calls P (ρ.f 6) #[v, .func (.func g) #[] #[]] w _
  by_cases hl0 : l = []
  · subst hl0
    have hvn : ∃ A cp, v = .slice A 0 cp := by
      rcases hob with ⟨_, h2, _⟩ | ⟨b, cap, cs, t, _, h2, _⟩
      · exact ⟨none, 0, by rw [hv, h2]⟩
      · exact ⟨_, cap, by rw [hv, h2]; rfl⟩
    obtain ⟨A, cp, rfl⟩ := hvn
    refine (AnyF.slices_SortFunc_none (P := P) (ρ := ρ) { L with } A cp _ w).mono ?_
    rintro e w' ⟨rfl, rfl⟩
    have hn : srt [] = [] := (hsrt [] [] (by simp) (List.Perm.refl _) List.Pairwise.nil).symm
    refine ⟨_, m, G, rfl, by simp only [Aw, R, Rs]; exact ⟨[], rfl, rfl⟩, ?_⟩
    show SRg _ _ _ m G ⟨[], Hz [Obj.row 1 (srt []) 0]⟩ ⟨#[], []⟩ _
    rw [hn]
    exact hs0
  · rcases hob with ⟨_, _, h3, _⟩ | ⟨b, cap, cs, t, h1, h2, h3, h4, h5, h6, h7, h8, h9⟩
    · exact absurd h3 hl0
    · rw [h2] at hv
      subst hv
      simp only [Nat.zero_mul, Nat.mul_one] at h6 h7 h8
      have hnoL : ∀ x ∈ l, (∀ a, x ≠ .agg a) ∧ ∀ a, x ≠ .tup a := fun x hx => hno x (hok x hx)
      have hbw : b < w.heap.size := (Array.getElem?_eq_some_iff.1 h5).1
      obtain ⟨ds, e1, e2⟩ := dvs_of (F := ⟨w, m⟩) hno hok ((RE_rs hnoL).1 h7)
      have hdl : ds.length = l.length := by rw [← e1]; simp
      haveI : Inhabited (DV ⟨w, m⟩ ok) := ⟨ds[0]'(by rw [hdl]; exact List.length_pos_iff.2 hl0)⟩
      obtain ⟨d, hd⟩ : ∃ d : Array (DV ⟨w, m⟩ ok), d = ds.toArray := ⟨_, rfl⟩
      have hds : d.size = l.length := by rw [hd]; simpa using hdl
      have hdt : d.toList = ds := by rw [hd]
      have fle : ∀ n (dk : Array (DV ⟨w, m⟩ ok)) os, Fix.le ⟨w, m⟩ ⟨sortWorld DV.v w b 0 n dk os, m⟩ := by
        intro n dk os b'
        refine ⟨Nat.le_refl _, fun off ho => ?_⟩
        simp only at ho ⊢
        have hbb : b ≠ b' := by intro e; subst e; rw [h8] at ho; omega
        have hbs : b' < w.heap.size := by
          rcases Nat.lt_or_ge b' w.heap.size with h | h
          · exact h
          · rw [hs.new b' h] at ho; omega
        refine World.cell?_of_block ?_
        rw [heap_sortW DV.v w b 0 n dk os b' hbs, if_neg hbb]
      have hcells : ∀ j, j < d.size → cs[j]? = some d[j]!.v := by
        intro j hj
        have hjl : j < l.length := by omega
        have hjd : j < ds.length := by omega
        have q1 : (cs.toList.take l.length)[j]? = some (ds[j]).v := by rw [← e2]; simp [hjd]
        rw [List.getElem?_take, if_pos hjl] at q1
        rw [getElem!_pos d j hj]
        have : d[j] = ds[j] := by subst hd; simp
        rw [this]
        simpa using q1
      have hH : Holds DV.v w b 0 d := by
        intro j hj
        refine ⟨?_, by simp [World.frozen?, h5]⟩
        simp only [World.cell?, h5, Nat.zero_add]
        simpa using hcells j hj
      have hC : CmpLays1 P g #[] (DV.v (F := ⟨w, m⟩) (ok := ok)) (fun p q => c p.x q.x) b 0 d.size w := by
        intro n os dk _ p q
        have := hcmp m (sortWorld DV.v w b 0 n dk os) p.x q.x p.v q.v p.fit q.fit (p.rd.mono (fle n dk os)) (q.rd.mono (fle n dk os))
        simpa using this
      have hO : SWO (ltOf fun p q : DV ⟨w, m⟩ ok => c p.x q.x) := by
        constructor
        · intro p
          have := hirr p.x p.fit
          unfold ltOf
          simpa using this
        · intro p q r h1 h2
          unfold ltOf at h1 h2 ⊢
          exact decide_eq_true (htr p.x q.x r.x p.fit q.fit r.fit (of_decide_eq_true h1) (of_decide_eq_true h2))
        · intro p q r h1 h2
          unfold ltOf at h1 h2 ⊢
          exact decide_eq_false (hntr p.x q.x r.x p.fit q.fit r.fit (of_decide_eq_false h1) (of_decide_eq_false h2))
      have hrun := Any.slices_SortFunc (P := P) (ρ := ρ) L (DV.v (F := ⟨w, m⟩) (ok := ok)) (fun p => p.one) (fun p q => c p.x q.x) hO g #[] b 0 cap d w eg hC hH hbw (by omega)
      rw [hds] at hrun
      refine hrun.mono ?_
      rintro e w' ⟨rfl, d', n, os, ⟨hsz, _, hperm⟩, hsorted, rfl⟩
      have hsz' : d'.size = l.length := by omega
      have hperm' : d'.toList.Perm ds := by
        have q1 : d'.extract 0 l.length = d' := by rw [← hsz']; simp
        have q2 : d.extract 0 l.length = d := by rw [← hds]; simp
        rw [q1, q2, hdt] at hperm
        exact hperm
      have hsr : d'.toList.map DV.x = srt l := by
        refine hsrt l _ hok (by rw [← e1]; exact hperm'.map _) ?_
        rw [List.pairwise_map, List.pairwise_iff_getElem]
        intro i j hi hj hij
        have := hsorted i j (Nat.zero_le _) hij (by simpa [hsz'] using hj)
        unfold ltOf at this
        rw [getElem!_pos d' i (by simpa using hi), getElem!_pos d' j (by simpa using hj)] at this
        simpa using this
      have hsl : (srt l).length = l.length := by rw [← hsr]; simp [hsz']
      obtain ⟨new, hnew⟩ : ∃ new, new = putCells DV.v 0 d' cs := ⟨_, rfl⟩
      have hns : new.size = cs.size := by rw [hnew]; simp [putCells]
      have hnt : new.toList.take l.length = d'.toList.map DV.v := by
        apply List.ext_getElem?
        intro j
        rw [List.getElem?_take]
        by_cases hj : j < l.length
        · rw [if_pos hj, hnew]
          simp only [putCells, Array.getElem?_toList, Array.getElem?_mapIdx]
          have hjc : j < cs.size := by omega
          rw [Array.getElem?_eq_getElem hjc, Option.map_some, if_pos ⟨Nat.zero_le _, by omega⟩, Nat.sub_zero, getElem!_pos d' j (by omega)]
          simp [show j < d'.size by omega]
        · rw [if_neg hj]
          simp [show d'.size ≤ j by omega]
      have hw1 := hs0.write (o' := .row 1 (srt l) 0) (cs := new) hk90 rfl h1 h5 (fun off ho => by rw [h8] at ho; omega) (by simp [Obj.isBox]) (fun s' els' k' he => by
        simp only [Obj.row.injEq] at he
        obtain ⟨rfl, rfl, rfl⟩ := he
        exact ⟨l, 0, rfl, hsl.symm⟩) (fun hF hg => by
        simp only [H7]
        refine .inr ⟨b, cap, new, t, h1, by rw [hsl]; exact h2, by rw [hsl]; exact h3, h4, setRow_heap w b cs new t (0, 0) h5, by rw [hns]; omega, ?_, by rw [Nat.zero_mul]; exact h8, Nat.zero_le _⟩
        rw [hsl, Nat.mul_one, hnt, ← hsr]
        refine (RE_rs ?_).2 (dvs_rs hF _)
        intro x hx
        obtain ⟨p, _, rfl⟩ := List.mem_map.1 hx
        exact hno _ p.fit)
      have hBl : Below (w.setRow b new).heap.size (w.setRow b new) (sortWorld DV.v w b 0 n d' os) := by
        refine ⟨rfl, rfl, rfl, by simpa using size_sortW DV.v w b 0 n d' os, fun k hk => ?_⟩
        have hk' : k < w.heap.size := by simpa using hk
        rw [heap_sortW DV.v w b 0 n d' os k hk']
        by_cases hbk : b = k
        · subst hbk
          rw [if_pos rfl, setRow_heap w b cs new t (0, 0) h5, h5, hnew]
          rfl
        · rw [if_neg hbk, setRow_other w b k new (fun e => hbk e.symm)]
      have hsz2 : (w.setRow b new).heap.size = w.heap.size := by simp
      have hbs2 := hBl.size
      have hw2 := (hw1.2.2.grow (m' := m) hBl (fun _ _ => rfl) (fun k hk => hs.new k (by omega))).2
      refine ⟨_, m, G, rfl, by simp only [Aw, R, Rs]; exact ⟨[], rfl, rfl⟩, ?_⟩
      exact hw2
end Go.Am
set_option linter.unusedSimpArgs false
set_option linter.unusedVariables false
set_option maxHeartbeats 2000000
namespace Go.Am.Hit
open Go.Proofs Go.Shelf Go.Sort Go.Lib
open Go.RowKit (Below)
open Enc (enc dec)
theorem cmpL_less : ∀ a b : List Int, (Rg a b < 0) ↔ Nb a b = true
  | [], [] => by simp [Rg, Nb]
  | [], _ :: _ => by simp [Rg, Nb]
  | _ :: _, [] => by simp [Rg, Nb]
  | x :: a, y :: b => by
    rw [Rg, Nb]
    cases hxy : (x == y) with
    | true => rw [cond_true, cond_true]; exact cmpL_less a b
    | false =>
      rw [cond_false, cond_false]
      unfold cmpI
      cases h1 : ltB x y with
      | true => simp
      | false => cases h2 : ltB y x <;> simp
def le6 (a b : List Int) : Bool := !Nb b a
def Ic (l : List (List Int)) : List (List Int) := l.mergeSort le6
theorem lessB_ntrans {a b c : List Int} (h1 : Nb a b = false) (h2 : Nb b c = false) : Nb a c = false := by
  rw [Bool.eq_false_iff]
  intro h
  rcases Rl a b with h3 | h3 | h3
  · rw [h3] at h1; cases h1
  · subst h3; rw [h] at h2; cases h2
  · have := S6 h3 h
    rw [this] at h2
    cases h2
theorem Ib (l : List (List Int)) : (Ic l).Perm l := List.mergeSort_perm l le6
theorem isrt_up (l : List (List Int)) : (Ic l).Pairwise fun a b => Nb b a = false := by
  have := List.pairwise_mergeSort (le := le6) (fun a b c h1 h2 => by
    unfold le6 at h1 h2 ⊢
    simp only [Bool.not_eq_true'] at h1 h2 ⊢
    exact lessB_ntrans h2 h1) (fun a b => by
    unfold le6
    rcases Rl a b with h | h | h
    · simp [Ai h]
    · subst h; simp [N6]
    · simp [Ai h]) l
  refine this.imp ?_
  intro a b h
  unfold le6 at h
  simpa using h
theorem sorted_eq : ∀ {a b : List (List Int)}, a.Perm b → a.Pairwise (fun x y => Nb y x = false) → b.Pairwise (fun x y => Nb y x = false) → a = b
  | [], b, hp, _, _ => (List.nil_perm.1 hp).symm
  | x :: a, b, hp, ha, hb => by
    cases b with
    | nil => exact absurd hp.length_eq (by simp)
    | cons y b =>
      rw [List.pairwise_cons] at ha hb
      have hxy : x = y := by
        have hx : x ∈ y :: b := hp.subset (List.mem_cons_self ..)
        have hy : y ∈ x :: a := hp.symm.subset (List.mem_cons_self ..)
        rcases List.mem_cons.1 hx with h | h
        · exact h
        · rcases List.mem_cons.1 hy with h' | h'
          · exact h'.symm
          · have q1 := hb.1 x h
            have q2 := ha.1 y h'
            rcases Rl x y with h3 | h3 | h3
            · rw [h3] at q1; cases q1
            · exact h3
            · rw [h3] at q2; cases q2
      subst hxy
      rw [sorted_eq (List.Perm.cons_inv hp) ha.2 hb.2]
def okS (x : D) : Prop := ∃ l : List Int, x = enc (Sl.mk l) ∧ l.length ≤ 1000000
def cS (x y : D) : Int := Rg (dec x : Sl Int).l (dec y : Sl Int).l
def srtS (l : List D) : List D := (Ic (l.map fun x => (dec x : Sl Int).l)).map fun s => enc (Sl.mk s)
theorem dec_S (l : List Int) : (dec (enc (Sl.mk l) : D) : Sl Int) = ⟨l⟩ := Enc.dec_enc _
theorem compare_nil1 (A B : Option Addr) (c1 c2 : Nat) (ys : List Int) (w : World) (hy : ys.length ≤ 9223372036854775807) :
    Calls Try.prog 44 #[.slice A 0 c1, .slice B ys.length c2] w fun e w' => e = .returned (.int .i64 (Rg [] ys)) ∧ w' = w := by
  go_enter Try.func44, Try.ntmps44
  go_wp2
  refine wp_loop_rounds 1 ?_
  rw [rounds_succ]
  cases ys with
  | nil =>
    go_wp2
    go_ret
    exact ⟨rfl, rfl⟩
  | cons y ys =>
    have hq : (0 : Int) < ((ys.length + 1 : Nat) : Int) := by omega
    simp only [List.length_cons] at hy ⊢
    go_wp2
    go_ret
    exact ⟨rfl, rfl⟩
theorem compare_nil2 (b1 o1 c1 : Nat) (B : Option Addr) (c2 : Nat) (xs : List Int) (w : World) (hx : xs.length ≤ 9223372036854775807) (h1 : ∀ j, j < xs.length → w.cell? ⟨b1, o1 + j, none⟩ = some (.int .i64 (xs.getD j 0))) :
    Calls Try.prog 44 #[.slice (some ⟨b1, o1, none⟩) xs.length c1, .slice B 0 c2] w fun e w' => e = .returned (.int .i64 (Rg xs [])) ∧ w' = w := by
  go_enter Try.func44, Try.ntmps44
  go_wp2
  go_loopg [11] xs.length (fun g s11 wr => ∃ k : Nat, k ≤ xs.length ∧ xs.length - k ≤ g ∧ s11 = .int .i64 k ∧ wr = w ∧ Aside (k = 0))
  case atStart => exact ⟨0, Nat.zero_le _, by omega, rfl, rfl, rfl⟩
  case round =>
    obtain ⟨k, hk, hg, rfl, rfl, A⟩ := hrel
    by_cases hlt : k < xs.length
    · have hr := cmpL_long (a := xs) (b := []) (k := k) hlt (show k = ([] : List Int).length from A.out) (fun j hj => by have := A.out; omega)
      have g1 := h1 k hlt
      have hz : (0 : Int) ≤ (k : Int) := by omega
      clear h1
      go_wp2
      go_ret
      exact ⟨by first | rfl | (rw [hr]; rfl), rfl⟩
    · have hr := cmpL_end (a := xs) (b := []) (k := 0) (show 0 = xs.length by have := A.out; omega) (Nat.le_refl _) (fun j hj => by omega)
      have h0 : ltB (xs.length : Int) (([] : List Int).length : Int) = false := by rw [Hg]; simp
      rw [h0, cond_false] at hr
      clear h1
      go_wp2
      go_ret
      exact ⟨by first | rfl | (rw [hr]; rfl), rfl⟩
theorem cell_ints {F : Fix} {l : List Int} {v : Value} (h : R F (enc (Sl.mk l)) v) : ∃ A c, v = .slice A l.length c ∧ (l ≠ [] → ∃ b o, A = some ⟨b, o, none⟩ ∧ ∀ j, j < l.length → F.w.cell? ⟨b, o + j, none⟩ = some (.int .i64 (l.getD j 0))) := by
  change R F (.list 1 (l.map enc)) v at h
  simp only [R, List.length_map] at h
  obtain ⟨A, c, rfl, _, _, hm⟩ := h
  refine ⟨A, c, rfl, fun hne => ?_⟩
  obtain ⟨b, o, vs, rfl, h2, h3⟩ := hm (by simpa using hne)
  rw [RE_ints] at h2
  subst h2
  refine ⟨b, o, rfl, fun j hj => h3.2 j _ ?_⟩
  simp [hj]
theorem compare_R (m : Nat → Nat) (W : World) (x y : D) (v u : Value) (hx : okS x) (hy : okS y) (hv : R ⟨W, m⟩ x v) (hu : R ⟨W, m⟩ y u) :
    Calls Try.prog 44 #[v, u] W fun e w' => e = .returned (.int .i64 (cS x y)) ∧ ∃ q os', w' = grow (W.drewN q) os' := by
  obtain ⟨a, rfl, ha⟩ := hx
  obtain ⟨b, rfl, hb⟩ := hy
  have hc : cS (enc (Sl.mk a)) (enc (Sl.mk b)) = Rg a b := by unfold cS; rw [dec_S, dec_S]
  rw [hc]
  obtain ⟨A, c1, rfl, h1⟩ := cell_ints hv
  obtain ⟨B, c2, rfl, h2⟩ := cell_ints hu
  have fin : ∀ (C : Ending → World → Prop), C = (fun e w' => e = .returned (.int .i64 (Rg a b)) ∧ w' = W) → Calls Try.prog 44 #[.slice A a.length c1, .slice B b.length c2] W C →
      Calls Try.prog 44 #[.slice A a.length c1, .slice B b.length c2] W fun e w' => e = .returned (.int .i64 (Rg a b)) ∧ ∃ q os', w' = grow (W.drewN q) os' := fun C hC h => by
    subst hC
    refine h.mono ?_
    rintro e w' ⟨rfl, rfl⟩
    exact ⟨rfl, 0, #[], by rw [grow_empty]; rfl⟩
  by_cases ha0 : a = []
  · subst ha0
    exact fin _ rfl (compare_nil1 A B c1 c2 b W (by omega))
  · obtain ⟨b1, o1, rfl, q1⟩ := h1 ha0
    by_cases hb0 : b = []
    · subst hb0
      exact fin _ rfl (compare_nil2 b1 o1 c1 B c2 a W (by omega) q1)
    · obtain ⟨b2, o2, rfl, q2⟩ := h2 hb0
      exact fin _ rfl (calls_compare b1 o1 c1 b2 o2 c2 a b W (by omega) (by omega) q1 q2)
def Hi : BCon := Aw okS 44 srtS
theorem okS_list {l : List D} (h : ∀ x ∈ l, okS x) : ∃ L : List (List Int), l = L.map (fun s => enc (Sl.mk s)) := by
  induction l with
  | nil => exact ⟨[], rfl⟩
  | cons x l ih =>
    obtain ⟨L, hL⟩ := ih fun y hy => h y (List.mem_cons_of_mem _ hy)
    obtain ⟨a, rfl, _⟩ := h x (List.mem_cons_self ..)
    exact ⟨a :: L, by rw [hL]; rfl⟩
theorem dec_map (L : List (List Int)) : (L.map (fun s => (enc (Sl.mk s) : D))).map (fun x => (dec x : Sl Int).l) = L := by
  rw [List.map_map]
  conv => rhs; rw [← List.map_id L]
  apply List.map_congr_left
  intro a _
  simp only [Function.comp, dec_S, id]
theorem cS_less {x y : D} : cS x y < 0 ↔ Nb (dec x : Sl Int).l (dec y : Sl Int).l = true := cmpL_less _ _
theorem Ig : GoodB Try.prog (43, Hi) := by
  refine goodb_bsort LF6 rfl (Gj Try.func43 (by kernel_rfl) rfl) (Gj Try.func44 (by kernel_rfl) rfl) (c := cS) ?_ ?_ ?_ ?_ compare_R ?_
  · rintro x ⟨l, rfl, _⟩
    refine ⟨fun a => ?_, fun a => ?_⟩
    · intro h
      change D.list 1 (l.map enc) = _ at h
      cases h
    · intro h
      change D.list 1 (l.map enc) = _ at h
      cases h
  · intro x _ h
    rw [cS_less, N6] at h
    cases h
  · intro x y z _ _ _ h1 h2
    rw [cS_less] at h1 h2 ⊢
    exact S6 h1 h2
  · intro x y z _ _ _ h1 h2 h3
    rw [cS_less, Bool.not_eq_true] at h1 h2
    rw [cS_less] at h3
    rw [lessB_ntrans h1 h2] at h3
    cases h3
  · intro l l' hok hp hs
    obtain ⟨L, rfl⟩ := okS_list hok
    obtain ⟨L', rfl⟩ := okS_list (l := l') fun x hx => hok x (hp.subset hx)
    have hp' : L'.Perm L := by
      have := hp.map fun x => (dec x : Sl Int).l
      rwa [dec_map, dec_map] at this
    unfold srtS
    rw [dec_map]
    congr 1
    refine sorted_eq (hp'.trans (Ib L).symm) ?_ (isrt_up L)
    rw [List.pairwise_map] at hs
    refine hs.imp ?_
    intro a b h
    rw [cS_less, Bool.not_eq_true, dec_S, dec_S] at h
    exact h
end Go.Am.Hit
set_option linter.unusedSimpArgs false
set_option linter.unusedVariables false
set_option maxHeartbeats 2000000
namespace Go.Am.Hit
open Go.Proofs
open Enc (enc dec)
def Fu (p : List Int) : List (Sl Int) → List (Sl Int)
  | [] => []
  | y :: l => cond (y.l == p) (Fu y.l l) (y :: Fu y.l l)
def comp : List (Sl Int) → List (Sl Int)
  | [] => []
  | x :: l => x :: Fu x.l l
theorem compG_snoc (y : Sl Int) : ∀ (l : List (Sl Int)) (p : List Int), Fu p (l ++ [y]) = Fu p l ++ cond (y.l == (l.getLastD ⟨p⟩).l) [] [y]
  | [], p => by
    simp only [List.nil_append, Fu, List.getLastD_nil]
  | x :: l, p => by
    have h : (x :: l).getLastD ⟨p⟩ = l.getLastD ⟨x.l⟩ := by
      rw [List.getLastD_cons]
    rw [List.cons_append, Fu, Fu, h]
    cases x.l == p with
    | true => rw [cond_true, cond_true, compG_snoc y l x.l]
    | false => rw [cond_false, cond_false, compG_snoc y l x.l, List.cons_append]
theorem comp_snoc {l : List (Sl Int)} (y : Sl Int) (hne : l ≠ []) : comp (l ++ [y]) = comp l ++ cond (y.l == (l.getD (l.length - 1) ⟨[]⟩).l) [] [y] := by
  cases l with
  | nil => exact absurd rfl hne
  | cons x l =>
    rw [List.cons_append, comp, comp, compG_snoc, List.cons_append]
    congr 3
    have e : ∀ (l : List (Sl Int)) (x : Sl Int), (l.getLastD ⟨x.l⟩).l = ((x :: l).getD ((x :: l).length - 1) ⟨[]⟩).l := by
      intro l x
      cases l with
      | nil => rfl
      | cons z l =>
        rw [List.getLastD_cons]
        have h1 : (z :: l).getLastD z = (z :: l).getD ((z :: l).length - 1) ⟨[]⟩ := by
          rw [List.getLastD_eq_getLast?, List.getLast?_eq_getElem?]
          simp
        simp only [List.length_cons, Nat.add_sub_cancel, List.getD_cons_succ] at h1 ⊢
        rw [← h1, List.getLastD_cons]
    rw [e]
theorem comp_take {l : List (Sl Int)} {i : Nat} (h0 : 0 < i) (hi : i < l.length) : comp (l.take (i + 1)) = comp (l.take i) ++ cond ((l.getD i ⟨[]⟩).l == (l.getD (i - 1) ⟨[]⟩).l) [] [l.getD i ⟨[]⟩] := by
  have e1 : l.getD i ⟨[]⟩ = l[i] := by simp [hi]
  have hl : (l.take i).length = i := by rw [List.length_take]; omega
  have e2 : (l.take i).getD ((l.take i).length - 1) ⟨[]⟩ = l.getD (i - 1) ⟨[]⟩ := by
    rw [hl, List.getD_eq_getElem?_getD, List.getD_eq_getElem?_getD, List.getElem?_take, if_pos (by omega)]
  have hne : l.take i ≠ [] := by
    intro h
    rw [h, List.length_nil] at hl
    omega
  rw [List.take_succ_eq_append_getElem hi, comp_snoc _ hne, e1, e2]
theorem comp_pre {l : List (Sl Int)} : ∀ {k : Nat}, k ≤ l.length → (∀ j, 1 ≤ j → j < k → (l.getD j ⟨[]⟩).l ≠ (l.getD (j - 1) ⟨[]⟩).l) → comp (l.take k) = l.take k
  | 0, _, _ => by simp [comp]
  | 1, hk, _ => by
    cases l with
    | nil => simp [comp]
    | cons x l => simp [comp, Fu]
  | k + 2, hk, h => by
    rw [comp_take (Nat.succ_pos k) (by omega), comp_pre (k := k + 1) (by omega) (fun j h1 h2 => h j h1 (by omega))]
    have := h (k + 1) (by omega) (by omega)
    rw [show ((l.getD (k + 1) ⟨[]⟩).l == (l.getD (k + 1 - 1) ⟨[]⟩).l) = false by rw [beq_eq_false_iff_ne]; exact this, cond_false, List.take_succ_eq_append_getElem (show k + 1 < l.length by omega)]
    congr 2
    simp [show k + 1 < l.length by omega]
def Ac (l : List (Sl Int)) (P M : List (Sl Int)) (i : Nat) : List (Sl Int) := P ++ M ++ l.drop i
theorem rowM_len {l P M : List (Sl Int)} {i : Nat} (h : P.length + M.length = i) (hi : i ≤ l.length) : (Ac l P M i).length = l.length := by unfold Ac; simp; omega
theorem rowM_at {l P M : List (Sl Int)} {i j : Nat} (h : P.length + M.length = i) (hj : i ≤ j) : (Ac l P M i).getD j ⟨[]⟩ = l.getD j ⟨[]⟩ := by
  unfold Ac
  rw [List.getD_eq_getElem?_getD, List.getD_eq_getElem?_getD, List.getElem?_append_right (by simp; omega), List.getElem?_drop]
  congr 2
  simp
  omega
theorem rowM_next {l P M : List (Sl Int)} {i : Nat} (h : P.length + M.length = i) (hi : i < l.length) : Ac l P M i = Ac l P (M ++ [l.getD i ⟨[]⟩]) (i + 1) := by
  unfold Ac
  rw [List.drop_eq_getElem_cons hi]
  simp [hi]
theorem rowM_set {l P M : List (Sl Int)} {i : Nat} {x : Sl Int} (h : P.length + M.length = i) (hi : i < l.length) : (Ac l P M i).set P.length x = Ac l (P ++ [x]) (M ++ [l.getD i ⟨[]⟩]).tail (i + 1) := by
  rw [rowM_next h hi]
  unfold Ac
  generalize l.getD i ⟨[]⟩ = b
  cases M with
  | nil => simp
  | cons m M => simp
theorem tail_len {α : Type} (M : List α) (b : α) : (M ++ [b]).tail.length = M.length := by simp
end Go.Am.Hit
set_option linter.unusedSimpArgs false
set_option linter.unusedVariables false
set_option maxHeartbeats 4000000
namespace Go.Am.Hit
open Go.Proofs
open Enc (enc dec)
def Gw : Con := ⟨[true, false], [true], fun c => ∃ l : List (Sl Int), c = [.own 1 (l.map enc), .d (.clo 46 [])] ∧ Rs6 l, fun c => match c with
  | [.own s l, .d _] => .own s ((comp (l.map dec)).map enc)
  | _ => .d .nilp⟩
theorem compact_fn (l : List (Sl Int)) : Gw.fn [.own 1 (l.map enc), .d (.clo 46 [])] = .own 1 ((comp l).map enc) := by
  show CV.own 1 ((comp ((l.map enc).map dec)).map enc) = _
  rw [Dq]
theorem take_take_rep {α : Type} {l r : List α} {n : Nat} (h : n ≤ l.length) : (l.take n ++ r).take n = l.take n := by
  rw [List.take_append_of_le_length (by rw [List.length_take]; omega), List.take_take, Nat.min_self]
theorem rowM_pre {l P M : List (Sl Int)} {i : Nat} : ((Ac l P M i).map (enc : Sl Int → D)).take P.length = P.map enc := by
  unfold Ac
  rw [List.append_assoc, List.map_append, List.take_append_of_le_length (by simp), List.take_of_length_le (by simp)]
theorem setCell_S {z : List Int} {f : Nat} {y : D} : D.setCell (enc (Sl.mk z)) f y = y := rfl
theorem rowM_start (l : List (Sl Int)) (k : Nat) : Ac l (l.take k) [] (k + 0) = l := by unfold Ac; simp
noncomputable def Mk : Ctx := ⟨tab, lkC [(46, Np)], 60, lkB [], [31, 61, 64], false⟩
theorem Nk : Mk.τ = tab := rfl
theorem Nm : Mk.Γ = lkC [(46, Np)] := rfl
theorem Nl : Mk.dp = 60 := rfl
theorem Nn : Mk.Δ = lkB [] := rfl
theorem Nj : Mk.cuts = [31, 61, 64] := rfl
theorem Ni : Mk.wr = false := rfl
set_option maxRecDepth 100000 in
theorem Rx : Me Try.prog (45, Gw) := by
  refine ⟨Gj Try.func45 (by kernel_rfl) rfl, ?_⟩
  have K : Hq Try.prog Mk := Gq H8 G4 (by
    intro p hp
    simp only [List.mem_cons, List.not_mem_nil, or_false] at hp
    rcases hp with rfl
    · exact good_equalS) (by simp)
  obtain ⟨c, hc⟩ : ∃ c, Try.f45.body = some c := ⟨_, rfl⟩
  refine Gu K Try.func45 hc [.tmp 4] rfl 66 rfl (fun cvs hpre => ?_)
  change Gw.pre cvs at hpre
  unfold Gw at hpre
  obtain ⟨l, rfl, hl1, hl2⟩ := hpre
  rw [compact_fn]
  obtain ⟨R, hR⟩ : ∃ R, comp l = R := ⟨_, rfl⟩
  rw [hR]
  rcases S5 (l.length : Int) 2 with ⟨h2, hb2⟩ | ⟨h2, hb2⟩
  · have hRl : R = l := by
      rw [← hR]
      match l, h2 with
      | [], _ => rfl
      | [x], _ => rfl
      | _ :: _ :: _, h => simp at h; omega
    subst hRl
    simp only [Try.f45, Option.some.injEq] at hc
    subst hc
    refine Hy 4 (of_decide_eq_true (by kernel_rfl)) ?_
    (sym =>
     simp [hb2,Nk,Nm,Nl,Nn,Nj,Ni,Gw.eq_def,Np.eq_def,Za,Zb,Zc,Ze,Zf,Zg,Zh,Zi,Zj,Zk,Zl,Zm,Zn,Zo,Zp,Zq,Zr,Zs,Zv,Zw,Zx,Zy,Z2,Z6,Z7,Z8,Z9,Qa,Qb,Qc,Qd,Qe,Qg,Qh,Qi,Qj,Qk,Ql,Qm,Qn,Qo,Qp,Qv,Qw,Qy,Qz,Q0,Q1,Q2,Q3,Q8,Ja,Jb,Jc,Jd,Je,Jl,Jm,Jn,Jo,Jp,Jq,Jr,Js,Jt,Ju,Jv,Jw,Jx,Jy,Jz,J0,J1,J2,J3,J4,J5,J6,J7,J8,Xb,Xc,Xd,Xe,Xf,Xg,Xh,Xi,Xj,Xk,Xl,Xm,Xn,Xo,Xp,Xq,Xr,Xs,Xt,Xu,Xv,Xw,Xx,Xy,Xz,X0,X1,X2,X3,X4,X5,X6,X7,X8,X9,Wa,Wb,Wc,Wd,We,Wf,Wg,Wh,Wi,Wj,Wl,Wm,Wn,Wo,Wp,Wq,Wr,Ws,Wt,Wu,Wv,Ww,Wx,Wy,Wz,W0,W1,W2,W3,W4,W5,W6,W7,W8,W9,Ya,Yb,Yc,Yd,Ye,Yf,Yg,Yh,Yi,Yj,Yk,Yl,Ym,Yn,Yo,Yp,Yq,Yr,Ys,Yt,Yu,Yv,Yw,Yx,Yy,Yz,Y0,Y1,Y2,Y3,Y4,Y5,Y6,Y7,Y8,Y9,Va,Vb,Vc,Vd,Ve,Vf,Vg,Vh,Vi,Vj,Vk,Vl,Vm,Vn,Vo,Vp,Vq,Vr,Vs,Vt,Vu,Vv,Vw,Vx,Vy,Vz,V0,V1,V3,V4,V5,V6,V7,V8,V9,Ua,Ub,Uc,Ud,Ue,Uf,Ug,Uh,Ui,Uj,Uk,Ul,Um,Uq,Ur,Us,Ut,Uu,Uv,Uw,Ux,Uy,Uz,U0,U1,U3,U4,U5,U6,U7,U8,U9,Ka,Kb,Kc,Kd,Ke,Kf,Kg,Kh,Ki,Kj,Kk,Kl,Km,Kn,Ko,Kq,Kr,Ks,Kt,Ga,G5,K8,Kz,tab32])
  simp only [Try.f45, Option.some.injEq] at hc
  subst hc
  refine Hy 4 (of_decide_eq_true (by kernel_rfl)) ?_
  (sym =>
   simp [hb2,Nk,Nm,Nl,Nn,Nj,Ni,Gw.eq_def,Np.eq_def,Za,Zb,Zc,Ze,Zf,Zg,Zh,Zi,Zj,Zk,Zl,Zm,Zn,Zo,Zp,Zq,Zr,Zs,Zv,Zw,Zx,Zy,Z2,Z6,Z7,Z8,Z9,Qa,Qb,Qc,Qd,Qe,Qg,Qh,Qi,Qj,Qk,Ql,Qm,Qn,Qo,Qp,Qv,Qw,Qy,Qz,Q0,Q1,Q2,Q3,Q8,Ja,Jb,Jc,Jd,Je,Jl,Jm,Jn,Jo,Jp,Jq,Jr,Js,Jt,Ju,Jv,Jw,Jx,Jy,Jz,J0,J1,J2,J3,J4,J5,J6,J7,J8,Xb,Xc,Xd,Xe,Xf,Xg,Xh,Xi,Xj,Xk,Xl,Xm,Xn,Xo,Xp,Xq,Xr,Xs,Xt,Xu,Xv,Xw,Xx,Xy,Xz,X0,X1,X2,X3,X4,X5,X6,X7,X8,X9,Wa,Wb,Wc,Wd,We,Wf,Wg,Wh,Wi,Wj,Wl,Wm,Wn,Wo,Wp,Wq,Wr,Ws,Wt,Wu,Wv,Ww,Wx,Wy,Wz,W0,W1,W2,W3,W4,W5,W6,W7,W8,W9,Ya,Yb,Yc,Yd,Ye,Yf,Yg,Yh,Yi,Yj,Yk,Yl,Ym,Yn,Yo,Yp,Yq,Yr,Ys,Yt,Yu,Yv,Yw,Yx,Yy,Yz,Y0,Y1,Y2,Y3,Y4,Y5,Y6,Y7,Y8,Y9,Va,Vb,Vc,Vd,Ve,Vf,Vg,Vh,Vi,Vj,Vk,Vl,Vm,Vn,Vo,Vp,Vq,Vr,Vs,Vt,Vu,Vv,Vw,Vx,Vy,Vz,V0,V1,V3,V4,V5,V6,V7,V8,V9,Ua,Ub,Uc,Ud,Ue,Uf,Ug,Uh,Ui,Uj,Uk,Ul,Um,Uq,Ur,Us,Ut,Uu,Uv,Uw,Ux,Uy,Uz,U0,U1,U3,U4,U5,U6,U7,U8,U9,Ka,Kb,Kc,Kd,Ke,Kf,Kg,Kh,Ki,Kj,Kk,Kl,Km,Kn,Ko,Kq,Kr,Ks,Kt,Ga,G5,K8,Kz,tab32]
   tactic =>
    try simp only [K2] at *
    try simp only [nc2] at *
    try simp (maxSteps := 4000000) only [hb2,Gg]
    repeat' (first | with_reducible assumption | with_reducible refine And.intro ?_ ?_ | intro _ | omega | (rw [Ku]; omega))
    refine Gi [4, 6, 7, 12, 13, 14, 15, 16, 17, 18, 19, 20, 21, 22, 23, 24, 25, 26, 27, 28, 29, 30, 31, 32, 33, 34, 35, 36, 37, 38, 39, 40, 41, 42, 43, 44, 45, 46, 47, 48, 49, 50, 51, 52, 53, 54, 55, 56, 57, 58, 59, 60, 61, 62, 63, 64] (fun k : Nat => [(5, .d (.int .i64 k))]) (fun k : Nat => []) (fun k : Nat => 1 ≤ k ∧ k ≤ l.length ∧ ∀ j, 1 ≤ j → j < k → (l.getD j ⟨[]⟩).l ≠ (l.getD (j - 1) ⟨[]⟩).l) (fun k : Nat => l.length - k) 1 ?_ ?_ ?_
    · refine ⟨Nat.le_refl _, by omega, fun j h1 h2 => by omega⟩
    · ((try simp only [Kv, Ky, Kx, K4, upd, K5, Gb, Gs, Nat.reduceDiv, Nat.reduceMod, Nat.reduceMul, Nat.reduceAdd, Nat.reduceEqDiff, List.set_cons_zero, List.set_cons_succ, if_true, if_false, reduceIte]); (first | refine Wk.of_fl ?_ | skip); simp only [Wk, wkK, Gy, wkT, wk1, AV.kept, keptAll, wkO, lk, Kw, and_true, true_and, and_self, Nat.reduceEqDiff, Nat.reduceLeDiff, if_true, if_false, reduceIte, reduceCtorEq, Option.isSome, false_implies]; try simp [Wk, wkK, wkT, wk1, AV.kept, keptAll, wkO, lk, Kw])
    rintro k ⟨hk1, hk2, hno⟩
    rcases Gl k l.length with ⟨hlt, hlb⟩ | ⟨hlt, hlb⟩
    · have q1 := Hd (⟨[]⟩ : Sl Int) hlt
      have q2 := Hd (⟨[]⟩ : Sl Int) (show k - 1 < l.length by omega)
      have e1 : (k : Int) - 1 = ((k - 1 : Nat) : Int) := by omega
      have l1 := hl2 k
      have l2 := hl2 (k - 1)
      have hst : (l.getD k ⟨[]⟩).l ≠ (l.getD (k - 1) ⟨[]⟩).l → ∀ j, 1 ≤ j → j < k + 1 → (l.getD j ⟨[]⟩).l ≠ (l.getD (j - 1) ⟨[]⟩).l := by
        intro h j hj1 hj
        by_cases e : j = k
        · subst e; exact h
        · exact hno j hj1 (by omega)
      have hpre := comp_pre hk2 hno
      have hct := comp_take hk1 hlt
      obtain ⟨⟨x⟩, hx⟩ : ∃ x, l.getD k ⟨[]⟩ = x := ⟨_, rfl⟩
      obtain ⟨⟨y⟩, hy⟩ : ∃ x, l.getD (k - 1) ⟨[]⟩ = x := ⟨_, rfl⟩
      rw [hx] at q1 hst l1 hct
      rw [hy] at q2 hst l2 hct
      simp only at hst l1 l2 hct
      obtain ⟨km, hkm⟩ : ∃ p, k - 1 = p := ⟨_, rfl⟩
      rw [hkm] at e1 q2
      cases hxy : (x == y) with
      | false =>
        have hne2 := hst (by simpa using hxy)
        (sym =>
         simp [hlb,e1,q1,q2,hxy,Nk,Nm,Nl,Nn,Nj,Ni,Gw.eq_def,Np.eq_def,Za,Zb,Zc,Ze,Zf,Zg,Zh,Zi,Zj,Zk,Zl,Zm,Zn,Zo,Zp,Zq,Zr,Zs,Zv,Zw,Zx,Zy,Z2,Z6,Z7,Z8,Z9,Qa,Qb,Qc,Qd,Qe,Qg,Qh,Qi,Qj,Qk,Ql,Qm,Qn,Qo,Qp,Qv,Qw,Qy,Qz,Q0,Q1,Q2,Q3,Q8,Ja,Jb,Jc,Jd,Je,Jl,Jm,Jn,Jo,Jp,Jq,Jr,Js,Jt,Ju,Jv,Jw,Jx,Jy,Jz,J0,J1,J2,J3,J4,J5,J6,J7,J8,Xb,Xc,Xd,Xe,Xf,Xg,Xh,Xi,Xj,Xk,Xl,Xm,Xn,Xo,Xp,Xq,Xr,Xs,Xt,Xu,Xv,Xw,Xx,Xy,Xz,X0,X1,X2,X3,X4,X5,X6,X7,X8,X9,Wa,Wb,Wc,Wd,We,Wf,Wg,Wh,Wi,Wj,Wl,Wm,Wn,Wo,Wp,Wq,Wr,Ws,Wt,Wu,Wv,Ww,Wx,Wy,Wz,W0,W1,W2,W3,W4,W5,W6,W7,W8,W9,Ya,Yb,Yc,Yd,Ye,Yf,Yg,Yh,Yi,Yj,Yk,Yl,Ym,Yn,Yo,Yp,Yq,Yr,Ys,Yt,Yu,Yv,Yw,Yx,Yy,Yz,Y0,Y1,Y2,Y3,Y4,Y5,Y6,Y7,Y8,Y9,Va,Vb,Vc,Vd,Ve,Vf,Vg,Vh,Vi,Vj,Vk,Vl,Vm,Vn,Vo,Vp,Vq,Vr,Vs,Vt,Vu,Vv,Vw,Vx,Vy,Vz,V0,V1,V3,V4,V5,V6,V7,V8,V9,Ua,Ub,Uc,Ud,Ue,Uf,Ug,Uh,Ui,Uj,Uk,Ul,Um,Uq,Ur,Us,Ut,Uu,Uv,Uw,Ux,Uy,Uz,U0,U1,U3,U4,U5,U6,U7,U8,U9,Ka,Kb,Kc,Kd,Ke,Kf,Kg,Kh,Ki,Kj,Kk,Kl,Km,Kn,Ko,Kq,Kr,Ks,Kt,Ga,G5,K8,Kz,tab32]
         tactic =>
          try simp only [K2] at *
          try simp only [nc2] at *
          try simp (maxSteps := 4000000) only [hlb,e1,q1,q2,hxy,Gg]
          repeat' (first | with_reducible assumption | with_reducible refine And.intro ?_ ?_ | intro _ | omega | (rw [Ku]; omega))
          all_goals first
            | (with_reducible refine K9 ?_; kernel_rfl)
            | omega
            | exact ⟨k + 1, by ((try simp only [Kv, Ky, Kx, K4, upd, K5, Gb, Gs, Nat.reduceDiv, Nat.reduceMod, Nat.reduceMul, Nat.reduceAdd, Nat.reduceEqDiff, List.set_cons_zero, List.set_cons_succ, if_true, if_false, reduceIte]); (first | refine Wk.of_fl ?_ | skip); simp only [Wk, wkK, Gy, wkT, wk1, AV.kept, keptAll, wkO, lk, Kw, and_true, true_and, and_self, Nat.reduceEqDiff, Nat.reduceLeDiff, if_true, if_false, reduceIte, reduceCtorEq, Option.isSome, false_implies]; try simp [Wk, wkK, wkT, wk1, AV.kept, keptAll, wkO, lk, Kw]), by omega, by omega, hne2, by omega⟩
            | skip)
      | true =>
        rw [hxy, cond_true, List.append_nil, hpre] at hct
        (sym =>
         simp [hlb,e1,q1,q2,hxy,Nk,Nm,Nl,Nn,Nj,Ni,Gw.eq_def,Np.eq_def,Za,Zb,Zc,Ze,Zf,Zg,Zh,Zi,Zj,Zk,Zl,Zm,Zn,Zo,Zp,Zq,Zr,Zs,Zv,Zw,Zx,Zy,Z2,Z6,Z7,Z8,Z9,Qa,Qb,Qc,Qd,Qe,Qg,Qh,Qi,Qj,Qk,Ql,Qm,Qn,Qo,Qp,Qv,Qw,Qy,Qz,Q0,Q1,Q2,Q3,Q8,Ja,Jb,Jc,Jd,Je,Jl,Jm,Jn,Jo,Jp,Jq,Jr,Js,Jt,Ju,Jv,Jw,Jx,Jy,Jz,J0,J1,J2,J3,J4,J5,J6,J7,J8,Xb,Xc,Xd,Xe,Xf,Xg,Xh,Xi,Xj,Xk,Xl,Xm,Xn,Xo,Xp,Xq,Xr,Xs,Xt,Xu,Xv,Xw,Xx,Xy,Xz,X0,X1,X2,X3,X4,X5,X6,X7,X8,X9,Wa,Wb,Wc,Wd,We,Wf,Wg,Wh,Wi,Wj,Wl,Wm,Wn,Wo,Wp,Wq,Wr,Ws,Wt,Wu,Wv,Ww,Wx,Wy,Wz,W0,W1,W2,W3,W4,W5,W6,W7,W8,W9,Ya,Yb,Yc,Yd,Ye,Yf,Yg,Yh,Yi,Yj,Yk,Yl,Ym,Yn,Yo,Yp,Yq,Yr,Ys,Yt,Yu,Yv,Yw,Yx,Yy,Yz,Y0,Y1,Y2,Y3,Y4,Y5,Y6,Y7,Y8,Y9,Va,Vb,Vc,Vd,Ve,Vf,Vg,Vh,Vi,Vj,Vk,Vl,Vm,Vn,Vo,Vp,Vq,Vr,Vs,Vt,Vu,Vv,Vw,Vx,Vy,Vz,V0,V1,V3,V4,V5,V6,V7,V8,V9,Ua,Ub,Uc,Ud,Ue,Uf,Ug,Uh,Ui,Uj,Uk,Ul,Um,Uq,Ur,Us,Ut,Uu,Uv,Uw,Ux,Uy,Uz,U0,U1,U3,U4,U5,U6,U7,U8,U9,Ka,Kb,Kc,Kd,Ke,Kf,Kg,Kh,Ki,Kj,Kk,Kl,Km,Kn,Ko,Kq,Kr,Ks,Kt,Ga,G5,K8,Kz,tab32]
         tactic =>
          try simp only [K2] at *
          try simp only [nc2] at *
          try simp (maxSteps := 4000000) only [hlb,e1,q1,q2,hxy,Gg]
          repeat' (first | with_reducible assumption | with_reducible refine And.intro ?_ ?_ | intro _ | omega | (rw [Ku]; omega))
          all_goals first
            | (with_reducible refine K9 ?_; kernel_rfl)
            | omega
            | skip
          refine Gi [32, 33, 34, 35, 36, 37, 38, 39, 40, 41, 42, 43, 44, 45, 46, 47, 48, 49, 50, 51, 52, 53, 54, 55, 56, 57, 58] (fun q : Nat × List (Sl Int) × List (Sl Int) => [(7, .d (.int .i64 ((q.1 + 1 : Nat) : Int))), (5, .d (.int .i64 q.2.1.length))]) (fun q : Nat × List (Sl Int) × List (Sl Int) => [(80000, .row 1 ((Ac l q.2.1 q.2.2 (k + q.1)).map enc) 0)]) (fun q : Nat × List (Sl Int) × List (Sl Int) => k + q.1 < l.length ∧ q.2.1 = comp (l.take (k + q.1 + 1)) ∧ q.2.1.length + q.2.2.length = k + q.1) (fun q : Nat × List (Sl Int) × List (Sl Int) => l.length - q.1) (0, l.take k, []) ?_ ?_ ?_
          · refine ⟨hlt, ?_, ?_⟩
            · exact hct.symm
            · simp; omega
          · simp only [rowM_start, List.length_take, Nat.min_eq_left hk2]
            ((try simp only [Kv, Ky, Kx, K4, upd, K5, Gb, Gs, Nat.reduceDiv, Nat.reduceMod, Nat.reduceMul, Nat.reduceAdd, Nat.reduceEqDiff, List.set_cons_zero, List.set_cons_succ, if_true, if_false, reduceIte]); (first | refine Wk.of_fl ?_ | skip); simp only [Wk, wkK, Gy, wkT, wk1, AV.kept, keptAll, wkO, lk, Kw, and_true, true_and, and_self, Nat.reduceEqDiff, Nat.reduceLeDiff, if_true, if_false, reduceIte, reduceCtorEq, Option.isSome, false_implies]; try simp [Wk, wkK, wkT, wk1, AV.kept, keptAll, wkO, lk, Kw])
          rintro ⟨p, P, M⟩ ⟨hp, hP, hPM⟩
          simp only at hp hP hPM ⊢
          obtain ⟨W, hW⟩ : ∃ W, Ac l P M (k + p) = W := ⟨_, rfl⟩
          have hWl : W.length = l.length := by rw [← hW]; exact rowM_len hPM (by omega)
          have hPl : P.length ≤ k + p := by omega
          obtain ⟨J, hJ⟩ : ∃ J, p + 1 = J := ⟨_, rfl⟩
          have e3 : (J : Int) - 1 = (p : Int) := by omega
          rw [hW, hJ]
          rcases Gl J (l.length - k) with ⟨hJl, hJb⟩ | ⟨hJl, hJb⟩
          · have g1 := Hd (l := W) (⟨[]⟩ : Sl Int) (show k + J < W.length by omega)
            have g2 := Hd (l := W) (⟨[]⟩ : Sl Int) (show k + p < W.length by omega)
            have a1 : W.getD (k + J) ⟨[]⟩ = l.getD (k + J) ⟨[]⟩ := by rw [← hW]; exact rowM_at hPM (by omega)
            have a2 : W.getD (k + p) ⟨[]⟩ = l.getD (k + p) ⟨[]⟩ := by rw [← hW]; exact rowM_at hPM (by omega)
            rw [a1] at g1
            rw [a2] at g2
            have m1 := hl2 (k + J)
            have m2 := hl2 (k + p)
            have hct2 := comp_take (l := l) (i := k + J) (by omega) (by omega)
            rw [show k + J - 1 = k + p by omega, show comp (l.take (k + J)) = P by rw [hP, ← hJ, Nat.add_assoc]] at hct2
            have hnx := rowM_next hPM (show k + p < l.length by omega)
            have hsx := fun x => rowM_set (x := x) hPM (show k + p < l.length by omega)
            rw [hW] at hnx hsx
            obtain ⟨⟨u⟩, hu⟩ : ∃ x, l.getD (k + J) ⟨[]⟩ = x := ⟨_, rfl⟩
            obtain ⟨⟨v⟩, hv⟩ : ∃ x, l.getD (k + p) ⟨[]⟩ = x := ⟨_, rfl⟩
            rw [hu] at g1 m1 hct2
            rw [hv] at g2 m2 hct2 hnx hsx
            simp only at m1 m2 hct2
            have hset : (W.map (enc : Sl Int → D)).set P.length (enc (Sl.mk u)) = (W.set P.length (Sl.mk u)).map enc := by rw [List.map_set]
            cases huv : (u == v) with
            | true =>
              rw [huv, cond_true, List.append_nil] at hct2
              have hnx' : W = Ac l P (M ++ [Sl.mk v]) (k + J) := by rw [hnx]; congr 1; omega
              (sym =>
               simp [hWl,e3,hJb,g1,g2,huv,Nk,Nm,Nl,Nn,Nj,Ni,Gw.eq_def,Np.eq_def,Za,Zb,Zc,Ze,Zf,Zg,Zh,Zi,Zj,Zk,Zl,Zm,Zn,Zo,Zp,Zq,Zr,Zs,Zv,Zw,Zx,Zy,Z2,Z6,Z7,Z8,Z9,Qa,Qb,Qc,Qd,Qe,Qg,Qh,Qi,Qj,Qk,Ql,Qm,Qn,Qo,Qp,Qv,Qw,Qy,Qz,Q0,Q1,Q2,Q3,Q8,Ja,Jb,Jc,Jd,Je,Jl,Jm,Jn,Jo,Jp,Jq,Jr,Js,Jt,Ju,Jv,Jw,Jx,Jy,Jz,J0,J1,J2,J3,J4,J5,J6,J7,J8,Xb,Xc,Xd,Xe,Xf,Xg,Xh,Xi,Xj,Xk,Xl,Xm,Xn,Xo,Xp,Xq,Xr,Xs,Xt,Xu,Xv,Xw,Xx,Xy,Xz,X0,X1,X2,X3,X4,X5,X6,X7,X8,X9,Wa,Wb,Wc,Wd,We,Wf,Wg,Wh,Wi,Wj,Wl,Wm,Wn,Wo,Wp,Wq,Wr,Ws,Wt,Wu,Wv,Ww,Wx,Wy,Wz,W0,W1,W2,W3,W4,W5,W6,W7,W8,W9,Ya,Yb,Yc,Yd,Ye,Yf,Yg,Yh,Yi,Yj,Yk,Yl,Ym,Yn,Yo,Yp,Yq,Yr,Ys,Yt,Yu,Yv,Yw,Yx,Yy,Yz,Y0,Y1,Y2,Y3,Y4,Y5,Y6,Y7,Y8,Y9,Va,Vb,Vc,Vd,Ve,Vf,Vg,Vh,Vi,Vj,Vk,Vl,Vm,Vn,Vo,Vp,Vq,Vr,Vs,Vt,Vu,Vv,Vw,Vx,Vy,Vz,V0,V1,V3,V4,V5,V6,V7,V8,V9,Ua,Ub,Uc,Ud,Ue,Uf,Ug,Uh,Ui,Uj,Uk,Ul,Um,Uq,Ur,Us,Ut,Uu,Uv,Uw,Ux,Uy,Uz,U0,U1,U3,U4,U5,U6,U7,U8,U9,Ka,Kb,Kc,Kd,Ke,Kf,Kg,Kh,Ki,Kj,Kk,Kl,Km,Kn,Ko,Kq,Kr,Ks,Kt,Ga,G5,K8,Kz,tab32]
               tactic =>
                try simp only [K2] at *
                try simp only [nc2] at *
                try simp (maxSteps := 4000000) only [hWl,e3,hJb,g1,g2,huv,Gg]
                repeat' (first | with_reducible assumption | with_reducible refine And.intro ?_ ?_ | intro _ | omega | (rw [Ku]; omega))
                all_goals first
                  | (with_reducible refine K9 ?_; kernel_rfl)
                  | omega
                  | skip
                exact ⟨(J, P, M ++ [Sl.mk v]), by simp only [← hnx']; ((try simp only [Kv, Ky, Kx, K4, upd, K5, Gb, Gs, Nat.reduceDiv, Nat.reduceMod, Nat.reduceMul, Nat.reduceAdd, Nat.reduceEqDiff, List.set_cons_zero, List.set_cons_succ, if_true, if_false, reduceIte]); (first | refine Wk.of_fl ?_ | skip); simp only [Wk, wkK, Gy, wkT, wk1, AV.kept, keptAll, wkO, lk, Kw, and_true, true_and, and_self, Nat.reduceEqDiff, Nat.reduceLeDiff, if_true, if_false, reduceIte, reduceCtorEq, Option.isSome, false_implies]; try simp [Wk, wkK, wkT, wk1, AV.kept, keptAll, wkO, lk, Kw]), by simp only; omega, hct2.symm, by simp only [List.length_append, List.length_singleton]; omega, by simp only; omega⟩)
            | false =>
              rw [huv, cond_false] at hct2
              have hsx' : W.set P.length (Sl.mk u) = Ac l (P ++ [Sl.mk u]) (M ++ [Sl.mk v]).tail (k + J) := by rw [hsx, show k + p + 1 = k + J by omega]
              have g0 := Hd (l := W) (⟨[]⟩ : Sl Int) (show P.length < W.length by omega)
              obtain ⟨⟨z⟩, hz⟩ : ∃ x, W.getD P.length ⟨[]⟩ = x := ⟨_, rfl⟩
              rw [hz] at g0
              (sym =>
               simp [hWl,e3,hJb,g0,g1,g2,huv,hset,setCell_S,Nk,Nm,Nl,Nn,Nj,Ni,Gw.eq_def,Np.eq_def,Za,Zb,Zc,Ze,Zf,Zg,Zh,Zi,Zj,Zk,Zl,Zm,Zn,Zo,Zp,Zq,Zr,Zs,Zv,Zw,Zx,Zy,Z2,Z6,Z7,Z8,Z9,Qa,Qb,Qc,Qd,Qe,Qg,Qh,Qi,Qj,Qk,Ql,Qm,Qn,Qo,Qp,Qv,Qw,Qy,Qz,Q0,Q1,Q2,Q3,Q8,Ja,Jb,Jc,Jd,Je,Jl,Jm,Jn,Jo,Jp,Jq,Jr,Js,Jt,Ju,Jv,Jw,Jx,Jy,Jz,J0,J1,J2,J3,J4,J5,J6,J7,J8,Xb,Xc,Xd,Xe,Xf,Xg,Xh,Xi,Xj,Xk,Xl,Xm,Xn,Xo,Xp,Xq,Xr,Xs,Xt,Xu,Xv,Xw,Xx,Xy,Xz,X0,X1,X2,X3,X4,X5,X6,X7,X8,X9,Wa,Wb,Wc,Wd,We,Wf,Wg,Wh,Wi,Wj,Wl,Wm,Wn,Wo,Wp,Wq,Wr,Ws,Wt,Wu,Wv,Ww,Wx,Wy,Wz,W0,W1,W2,W3,W4,W5,W6,W7,W8,W9,Ya,Yb,Yc,Yd,Ye,Yf,Yg,Yh,Yi,Yj,Yk,Yl,Ym,Yn,Yo,Yp,Yq,Yr,Ys,Yt,Yu,Yv,Yw,Yx,Yy,Yz,Y0,Y1,Y2,Y3,Y4,Y5,Y6,Y7,Y8,Y9,Va,Vb,Vc,Vd,Ve,Vf,Vg,Vh,Vi,Vj,Vk,Vl,Vm,Vn,Vo,Vp,Vq,Vr,Vs,Vt,Vu,Vv,Vw,Vx,Vy,Vz,V0,V1,V3,V4,V5,V6,V7,V8,V9,Ua,Ub,Uc,Ud,Ue,Uf,Ug,Uh,Ui,Uj,Uk,Ul,Um,Uq,Ur,Us,Ut,Uu,Uv,Uw,Ux,Uy,Uz,U0,U1,U3,U4,U5,U6,U7,U8,U9,Ka,Kb,Kc,Kd,Ke,Kf,Kg,Kh,Ki,Kj,Kk,Kl,Km,Kn,Ko,Kq,Kr,Ks,Kt,Ga,G5,K8,Kz,tab32]
               tactic =>
                try simp only [K2] at *
                try simp only [nc2] at *
                try simp (maxSteps := 4000000) only [hWl,e3,hJb,g0,g1,g2,huv,hset,setCell_S,Gg]
                repeat' (first | with_reducible assumption | with_reducible refine And.intro ?_ ?_ | intro _ | omega | (rw [Ku]; omega))
                all_goals first
                  | (with_reducible refine K9 ?_; kernel_rfl)
                  | omega
                  | skip
                exact ⟨(J, P ++ [Sl.mk u], (M ++ [Sl.mk v]).tail), by simp only [← hsx']; ((try simp only [Kv, Ky, Kx, K4, upd, K5, Gb, Gs, Nat.reduceDiv, Nat.reduceMod, Nat.reduceMul, Nat.reduceAdd, Nat.reduceEqDiff, List.set_cons_zero, List.set_cons_succ, if_true, if_false, reduceIte]); (first | refine Wk.of_fl ?_ | skip); simp only [Wk, wkK, Gy, wkT, wk1, AV.kept, keptAll, wkO, lk, Kw, and_true, true_and, and_self, Nat.reduceEqDiff, Nat.reduceLeDiff, if_true, if_false, reduceIte, reduceCtorEq, Option.isSome, false_implies]; try simp [Wk, wkK, wkT, wk1, AV.kept, keptAll, wkO, lk, Kw, List.length_append]), by simp only; omega, hct2.symm, by simp only [List.length_append, List.length_singleton, tail_len]; omega, by simp only; omega⟩)
          · have hlast : k + J = l.length := by omega
            have hPR : P = R := by rw [← hR, hP, show k + p + 1 = l.length by omega, List.take_length]
            (sym =>
             simp [hWl,e3,hJb,Nk,Nm,Nl,Nn,Nj,Ni,Gw.eq_def,Np.eq_def,Za,Zb,Zc,Ze,Zf,Zg,Zh,Zi,Zj,Zk,Zl,Zm,Zn,Zo,Zp,Zq,Zr,Zs,Zv,Zw,Zx,Zy,Z2,Z6,Z7,Z8,Z9,Qa,Qb,Qc,Qd,Qe,Qg,Qh,Qi,Qj,Qk,Ql,Qm,Qn,Qo,Qp,Qv,Qw,Qy,Qz,Q0,Q1,Q2,Q3,Q8,Ja,Jb,Jc,Jd,Je,Jl,Jm,Jn,Jo,Jp,Jq,Jr,Js,Jt,Ju,Jv,Jw,Jx,Jy,Jz,J0,J1,J2,J3,J4,J5,J6,J7,J8,Xb,Xc,Xd,Xe,Xf,Xg,Xh,Xi,Xj,Xk,Xl,Xm,Xn,Xo,Xp,Xq,Xr,Xs,Xt,Xu,Xv,Xw,Xx,Xy,Xz,X0,X1,X2,X3,X4,X5,X6,X7,X8,X9,Wa,Wb,Wc,Wd,We,Wf,Wg,Wh,Wi,Wj,Wl,Wm,Wn,Wo,Wp,Wq,Wr,Ws,Wt,Wu,Wv,Ww,Wx,Wy,Wz,W0,W1,W2,W3,W4,W5,W6,W7,W8,W9,Ya,Yb,Yc,Yd,Ye,Yf,Yg,Yh,Yi,Yj,Yk,Yl,Ym,Yn,Yo,Yp,Yq,Yr,Ys,Yt,Yu,Yv,Yw,Yx,Yy,Yz,Y0,Y1,Y2,Y3,Y4,Y5,Y6,Y7,Y8,Y9,Va,Vb,Vc,Vd,Ve,Vf,Vg,Vh,Vi,Vj,Vk,Vl,Vm,Vn,Vo,Vp,Vq,Vr,Vs,Vt,Vu,Vv,Vw,Vx,Vy,Vz,V0,V1,V3,V4,V5,V6,V7,V8,V9,Ua,Ub,Uc,Ud,Ue,Uf,Ug,Uh,Ui,Uj,Uk,Ul,Um,Uq,Ur,Us,Ut,Uu,Uv,Uw,Ux,Uy,Uz,U0,U1,U3,U4,U5,U6,U7,U8,U9,Ka,Kb,Kc,Kd,Ke,Kf,Kg,Kh,Ki,Kj,Kk,Kl,Km,Kn,Ko,Kq,Kr,Ks,Kt,Ga,G5,K8,Kz,tab32]
             tactic =>
              try simp only [K2] at *
              try simp only [nc2] at *
              try simp (maxSteps := 4000000) only [hWl,e3,hJb,Gg]
              repeat' (first | with_reducible assumption | with_reducible refine And.intro ?_ ?_ | intro _ | omega | (rw [Ku]; omega))
              all_goals first
                | (with_reducible refine K9 ?_; kernel_rfl)
                | omega
                | skip
              all_goals first
                | (simp [hWl]; done)
                | (simp [hWl]; omega)
                | (rw [take_take_rep (by rw [List.length_map, hWl]; omega), ← hPR, ← hW]; exact rowM_pre)))
    · have hkl : k = l.length := by omega
      have hRl : R = l := by
        rw [← hR]
        have := comp_pre hk2 hno
        rwa [hkl, List.take_length] at this
      subst hRl
      (sym =>
       simp [hlb,hb2,Nk,Nm,Nl,Nn,Nj,Ni,Gw.eq_def,Np.eq_def,Za,Zb,Zc,Ze,Zf,Zg,Zh,Zi,Zj,Zk,Zl,Zm,Zn,Zo,Zp,Zq,Zr,Zs,Zv,Zw,Zx,Zy,Z2,Z6,Z7,Z8,Z9,Qa,Qb,Qc,Qd,Qe,Qg,Qh,Qi,Qj,Qk,Ql,Qm,Qn,Qo,Qp,Qv,Qw,Qy,Qz,Q0,Q1,Q2,Q3,Q8,Ja,Jb,Jc,Jd,Je,Jl,Jm,Jn,Jo,Jp,Jq,Jr,Js,Jt,Ju,Jv,Jw,Jx,Jy,Jz,J0,J1,J2,J3,J4,J5,J6,J7,J8,Xb,Xc,Xd,Xe,Xf,Xg,Xh,Xi,Xj,Xk,Xl,Xm,Xn,Xo,Xp,Xq,Xr,Xs,Xt,Xu,Xv,Xw,Xx,Xy,Xz,X0,X1,X2,X3,X4,X5,X6,X7,X8,X9,Wa,Wb,Wc,Wd,We,Wf,Wg,Wh,Wi,Wj,Wl,Wm,Wn,Wo,Wp,Wq,Wr,Ws,Wt,Wu,Wv,Ww,Wx,Wy,Wz,W0,W1,W2,W3,W4,W5,W6,W7,W8,W9,Ya,Yb,Yc,Yd,Ye,Yf,Yg,Yh,Yi,Yj,Yk,Yl,Ym,Yn,Yo,Yp,Yq,Yr,Ys,Yt,Yu,Yv,Yw,Yx,Yy,Yz,Y0,Y1,Y2,Y3,Y4,Y5,Y6,Y7,Y8,Y9,Va,Vb,Vc,Vd,Ve,Vf,Vg,Vh,Vi,Vj,Vk,Vl,Vm,Vn,Vo,Vp,Vq,Vr,Vs,Vt,Vu,Vv,Vw,Vx,Vy,Vz,V0,V1,V3,V4,V5,V6,V7,V8,V9,Ua,Ub,Uc,Ud,Ue,Uf,Ug,Uh,Ui,Uj,Uk,Ul,Um,Uq,Ur,Us,Ut,Uu,Uv,Uw,Ux,Uy,Uz,U0,U1,U3,U4,U5,U6,U7,U8,U9,Ka,Kb,Kc,Kd,Ke,Kf,Kg,Kh,Ki,Kj,Kk,Kl,Km,Kn,Ko,Kq,Kr,Ks,Kt,Ga,G5,K8,Kz,tab32]))
end Go.Am.Hit
set_option linter.unusedSimpArgs false
set_option linter.unusedVariables false
set_option maxHeartbeats 4000000
namespace Go.Am.Hit
open Go.Proofs
open Enc (enc dec)
theorem canon1 : canon 1 [90000] := fun j hj => by
  have : j = 0 := by omega
  subst this; rfl
def Pp : BCon where
  X := List (Sl Int)
  ok := fun l => l.length ≤ 1000000000
  args := fun l => [.sl 90000 l.length]
  objs := fun l => [.row 1 (l.map enc) 0]
  res := fun l => enc (Sl.mk l)
  post := fun l => [.row 1 (l.map enc) 0]
noncomputable def Sa : Ctx := ⟨tab, lkC [], 60, lkB [], [4], false⟩
theorem bctx_cloneSS_t : Sa.τ = tab := rfl
theorem bctx_cloneSS_c : Sa.Γ = lkC [] := rfl
theorem bctx_cloneSS_d : Sa.dp = 60 := rfl
theorem bctx_cloneSS_b : Sa.Δ = lkB [] := rfl
theorem bctx_cloneSS_u : Sa.cuts = [4] := rfl
theorem bctx_cloneSS_w : Sa.wr = false := rfl
theorem goodb_cloneSS : GoodB Try.prog (35, Pp) := by
  refine ⟨Gj Try.func35 (by kernel_rfl) rfl, ?_⟩
  have K : Hq Try.prog Sa := Gq H8 G4 (by simp) (by simp)
  obtain ⟨c, hc⟩ : ∃ c, Try.f35.body = some c := ⟨_, rfl⟩
  refine fn_soundB K Try.func35 hc [.tmp 2] rfl 8 rfl (fun x hok => ?_)
  obtain ⟨l, hl⟩ : ∃ l : List (Sl Int), x = l := ⟨_, rfl⟩
  subst hl
  change List (Sl Int) at x
  change x.length ≤ 1000000000 at hok
  refine ⟨?_, ?_, ?_, ?_, ?_⟩
  · show Tied [.sl 90000 x.length] [.row 1 (x.map enc) 0]
    simp [Tied,Fw,Obj.tied,M2,keptAll,AV.kept,Hz,E5,lk]
  · show M2 [.row 1 (x.map enc) 0]
    simp [M2]
  · show Tied [] [.row 1 (x.map enc) 0]
    simp [Tied,Fw,Obj.tied,M2,keptAll,AV.kept,Hz,E5,lk]
  · exact Nat.le_refl _
  · show awp _ _ (PostB _ _ [Obj.row 1 (x.map (enc : Sl Int → D)) 0].length (enc (Sl.mk x)) [Obj.row 1 (x.map enc) 0]) ⟨[.sl 90000 x.length] ++ Ii 7, Hz [Obj.row 1 (x.map enc) 0]⟩
    simp only [Try.f35, Option.some.injEq] at hc
    subst hc
    (sym =>
     simp [bctx_cloneSS_t,bctx_cloneSS_c,bctx_cloneSS_d,bctx_cloneSS_b,bctx_cloneSS_u,bctx_cloneSS_w,Za,Zb,Zc,Ze,Zf,Zg,Zn,Zo,Zp,Zq,Zr,Zs,Zv,Zz,Z0,Z1,Z8,Z9,Qa,Qe,Qi,Qk,Ql,Qm,Qn,Qp,Qq,Qr,Qs,Qt,Qu,Qv,Qw,Qx,Qy,Q1,Q3,Q4,Q5,Q6,Q7,Q8,Q9,Ja,Jb,Jc,Jd,Je,Jf,Jg,Jh,Ji,Jj,Jk,Jl,Jq,Jr,Jx,Jy,J9,Xa,Xb,Xc,Xd,Xe,Xf,Xg,Xh,Xi,Xj,Xk,Xl,Xm,Xn,Xq,Xs,Xt,Xu,Xv,Xw,Xx,Xy,Xz,X0,X1,X2,X3,X4,X5,X6,X8,X9,Wa,Wd,We,Wf,Wg,Wh,Wi,Wj,Wl,Wm,Wn,Wo,Wp,Wq,Wr,Ws,Wt,Wu,Wv,Ww,Wx,Wy,Wz,W0,W1,W2,W3,W4,W5,W6,W7,W8,Yf,Yg,Yh,Yi,Yj,Yk,Yl,Ym,Yn,Yo,Yp,Yq,Yr,Ys,Yt,Yu,Yv,Yw,Yx,Yy,Yz,Y0,Y1,Y2,Y3,Y4,Y5,Y6,Y7,Y8,Y9,Va,Vb,Vc,Vd,Ve,Vf,Vg,Vh,Vi,Vj,Vk,Vl,Vm,Vn,Vo,Vp,Vq,Vr,Vs,Vt,Vu,Vv,Vw,Vx,Vy,Vz,V0,V1,V3,V4,V5,V6,V7,V8,V9,Ua,Ub,Uc,Ud,Ue,Uf,Ul,Um,Un,Uo,Uq,Ur,Us,Ut,Uu,Uv,Uw,Ux,Uy,Uz,U0,U1,U3,U4,U5,U6,U7,U8,U9,Ka,Kb,Kc,Kd,Ke,Kf,Kg,Kh,Ki,Kj,Kk,Kl,Km,Kn,Ko,Kq,Kr,Ks,Kt,Ga,K8,Kz]
     tactic =>
      try simp only [K2] at *
      try simp only [nc2] at *
      try simp (maxSteps := 4000000) only [Gg]
      repeat' (first | with_reducible assumption | with_reducible refine And.intro ?_ ?_ | intro _ | omega | (rw [Ku]; omega))
      all_goals first
        | (simp_all; done)
        | exact ⟨[90000], by simp, rfl, canon1, rfl, trivial⟩)
def Mc : BCon where
  X := List (Sl Int) × List (Sl Int)
  ok := fun p => p.1.length ≤ 1000000000 ∧ (∀ j, Lo (p.1.getD j ⟨[]⟩).l.length) ∧ Rw p.2
  args := fun p => [.sl 90000 p.1.length, .d (enc (LeastF.mk p.2))]
  objs := fun p => [.row 1 (p.1.map enc) 0]
  res := fun p => .int .i64 (I1 (Mh p.2) p.1)
  post := fun p => [.row 1 (p.1.map enc) 0]
noncomputable def Pc : Ctx := ⟨tab, lkC [(37, H4)], 60, lkB [], [], false⟩
theorem L6 : Pc.τ = tab := rfl
theorem L8 : Pc.Γ = lkC [(37, H4)] := rfl
theorem L7 : Pc.dp = 60 := rfl
theorem L9 : Pc.Δ = lkB [] := rfl
theorem L5 : Pc.cuts = [] := rfl
theorem L4 : Pc.wr = false := rfl
theorem goodb_indexFuncSS : GoodB Try.prog (52, Mc) := by
  refine ⟨Gj Try.func52 (by kernel_rfl) rfl, ?_⟩
  have K : Hq Try.prog Pc := Gq H8 G4 (by
    intro p hp
    simp only [List.mem_cons, List.not_mem_nil, or_false] at hp
    rcases hp with rfl
    · exact good_Least_1H) (by simp)
  obtain ⟨c, hc⟩ : ∃ c, Try.f52.body = some c := ⟨_, rfl⟩
  refine fn_soundB K Try.func52 hc [.tmp 4] rfl 19 rfl (fun x hok => ?_)
  obtain ⟨l, v⟩ := x
  change l.length ≤ 1000000000 ∧ (∀ j, Lo (l.getD j ⟨[]⟩).l.length) ∧ Rw v at hok
  obtain ⟨hl, hl2, hv1, hv2⟩ := hok
  refine ⟨?_, ?_, ?_, ?_, ?_⟩
  · show Tied [.sl 90000 l.length, .d (enc (LeastF.mk v))] [.row 1 (l.map enc) 0]
    simp [Tied,Fw,Obj.tied,M2,keptAll,AV.kept,Hz,E5,lk]
  · show M2 [.row 1 (l.map enc) 0]
    simp [M2]
  · show Tied [] [.row 1 (l.map enc) 0]
    simp [Tied,Fw,Obj.tied,M2,keptAll,AV.kept,Hz,E5,lk]
  · exact Nat.le_refl _
  · show awp _ _ (PostB _ _ [Obj.row 1 (l.map (enc : Sl Int → D)) 0].length (.int .i64 (I1 (Mh v) l)) [Obj.row 1 (l.map enc) 0]) ⟨[.sl 90000 l.length, .d (enc (LeastF.mk v))] ++ Ii 17, Hz [Obj.row 1 (l.map enc) 0]⟩
    simp only [Try.f52, Option.some.injEq] at hc
    subst hc
    (sym =>
     simp [H9,L6,L8,L7,L9,L5,L4,H4.eq_def,Za,Zb,Zc,Ze,Zf,Zg,Zn,Zo,Zp,Zq,Zr,Zs,Zv,Zx,Z2,Z6,Z7,Z8,Z9,Qa,Qb,Qc,Qd,Qe,Qi,Qj,Qk,Ql,Qm,Qn,Qp,Qq,Qr,Qs,Qt,Qu,Qv,Qw,Qx,Qy,Q1,Q2,Q3,Q8,Ja,Jb,Jc,Jd,Je,Jf,Jg,Jh,Ji,Jj,Jk,Jl,Jq,Jr,Js,Jt,Ju,Jx,Jy,Xb,Xc,Xd,Xe,Xf,Xg,Xh,Xi,Xj,Xk,Xl,Xm,Xn,Xq,Xs,Xt,Xu,Xv,Xw,Xx,Xy,Xz,X0,X1,X2,X3,X4,X5,X6,X7,X8,X9,Wa,Wd,We,Wf,Wg,Wh,Wi,Wj,Wl,Wm,Wn,Wo,Wp,Wq,Wr,Ws,Wt,Wu,Wv,Ww,Wx,Wy,Wz,W0,W1,W2,W3,W4,W5,W6,W7,W8,Ye,Yf,Yg,Yh,Yi,Yj,Yk,Yl,Ym,Yn,Yo,Yp,Yq,Yr,Ys,Yt,Yu,Yv,Yw,Yx,Yy,Yz,Y0,Y1,Y2,Y3,Y4,Y5,Y6,Y7,Y8,Y9,Va,Vb,Vc,Vd,Ve,Vf,Vg,Vh,Vi,Vj,Vk,Vl,Vm,Vn,Vo,Vp,Vq,Vr,Vs,Vt,Vu,Vv,Vw,Vx,Vy,Vz,V0,V1,V3,V4,V5,V6,V7,V8,V9,Ua,Ub,Uc,Ud,Ue,Uf,Ul,Um,Uq,Ur,Us,Ut,Uu,Uv,Uw,Ux,Uy,Uz,U0,U1,U3,U4,U5,U6,U7,U8,U9,Ka,Kb,Kc,Kd,Ke,Kf,Kg,Kh,Ki,Kj,Kk,Kl,Km,Kn,Ko,Kq,Kr,Ks,Kt,Ga,K8,Kz,Dm]
     tactic =>
      try simp only [K2] at *
      try simp only [nc2] at *
      try simp (maxSteps := 4000000) only [H9,Gg]
      repeat' (first | with_reducible assumption | with_reducible refine And.intro ?_ ?_ | intro _ | omega | (rw [Ku]; omega))
      refine Gi [4, 5, 9, 10, 11, 12, 13, 14, 15, 16, 17, 18] (fun k : Nat => [(8, .d (.int .i64 k))]) (fun k : Nat => []) (fun k : Nat => k ≤ l.length ∧ ∀ j, j < k → Mh v (l.getD j ⟨[]⟩) = false) (fun k : Nat => l.length - k) 0 ?_ ?_ ?_
      · simp
      · ((try simp only [Kv, Ky, Kx, K4, upd, K5, Gb, Gs, Nat.reduceDiv, Nat.reduceMod, Nat.reduceMul, Nat.reduceAdd, Nat.reduceEqDiff, List.set_cons_zero, List.set_cons_succ, if_true, if_false, reduceIte]); (first | refine Wk.of_fl ?_ | skip); simp only [Wk, wkK, Gy, wkT, wk1, AV.kept, keptAll, wkO, lk, Kw, and_true, true_and, and_self, Nat.reduceEqDiff, Nat.reduceLeDiff, if_true, if_false, reduceIte, reduceCtorEq, Option.isSome, false_implies]; try simp [Wk, wkK, wkT, wk1, AV.kept, keptAll, wkO, lk, Kw])
      rintro k ⟨hk, hno⟩
      rcases Gl k l.length with ⟨hlt, hlb⟩ | ⟨hlt, hlb⟩
      · have q1 := Hd (⟨[]⟩ : Sl Int) hlt
        have hst : Mh v (l.getD k ⟨[]⟩) = false → ∀ j, j < k + 1 → Mh v (l.getD j ⟨[]⟩) = false := fun h => upTo hno h
        have hit : Mh v (l.getD k ⟨[]⟩) = true → I1 (Mh v) l = k := fun h => idxP_at ⟨[]⟩ hlt hno h
        have hlk := hl2 k
        obtain ⟨⟨x⟩, hx⟩ : ∃ x, l.getD k ⟨[]⟩ = x := ⟨_, rfl⟩
        rw [hx] at q1 hst hit hlk
        simp only at hlk
        cases hs : Mh v ⟨x⟩ with
        | false =>
          have h2 := hst hs
          (sym =>
           simp [hlb,q1,hs,H9,A7,isE_PW,PW_s,L6,L8,L7,L9,L5,L4,H4.eq_def,Za,Zb,Zc,Ze,Zf,Zg,Zn,Zo,Zp,Zq,Zr,Zs,Zv,Zx,Z2,Z6,Z7,Z8,Z9,Qa,Qb,Qc,Qd,Qe,Qi,Qj,Qk,Ql,Qm,Qn,Qp,Qq,Qr,Qs,Qt,Qu,Qv,Qw,Qx,Qy,Q1,Q2,Q3,Q8,Ja,Jb,Jc,Jd,Je,Jf,Jg,Jh,Ji,Jj,Jk,Jl,Jq,Jr,Js,Jt,Ju,Jx,Jy,Xb,Xc,Xd,Xe,Xf,Xg,Xh,Xi,Xj,Xk,Xl,Xm,Xn,Xq,Xs,Xt,Xu,Xv,Xw,Xx,Xy,Xz,X0,X1,X2,X3,X4,X5,X6,X7,X8,X9,Wa,Wd,We,Wf,Wg,Wh,Wi,Wj,Wl,Wm,Wn,Wo,Wp,Wq,Wr,Ws,Wt,Wu,Wv,Ww,Wx,Wy,Wz,W0,W1,W2,W3,W4,W5,W6,W7,W8,Ye,Yf,Yg,Yh,Yi,Yj,Yk,Yl,Ym,Yn,Yo,Yp,Yq,Yr,Ys,Yt,Yu,Yv,Yw,Yx,Yy,Yz,Y0,Y1,Y2,Y3,Y4,Y5,Y6,Y7,Y8,Y9,Va,Vb,Vc,Vd,Ve,Vf,Vg,Vh,Vi,Vj,Vk,Vl,Vm,Vn,Vo,Vp,Vq,Vr,Vs,Vt,Vu,Vv,Vw,Vx,Vy,Vz,V0,V1,V3,V4,V5,V6,V7,V8,V9,Ua,Ub,Uc,Ud,Ue,Uf,Ul,Um,Uq,Ur,Us,Ut,Uu,Uv,Uw,Ux,Uy,Uz,U0,U1,U3,U4,U5,U6,U7,U8,U9,Ka,Kb,Kc,Kd,Ke,Kf,Kg,Kh,Ki,Kj,Kk,Kl,Km,Kn,Ko,Kq,Kr,Ks,Kt,Ga,K8,Kz,Dm]
           tactic =>
            try simp only [K2] at *
            try simp only [nc2] at *
            try simp (maxSteps := 4000000) only [hlb,q1,hs,H9,A7,isE_PW,PW_s,Gg]
            repeat' (first | with_reducible assumption | with_reducible refine And.intro ?_ ?_ | intro _ | omega | (rw [Ku]; omega))
            all_goals first
              | omega
              | assumption
              | exact ⟨hv1, hv2⟩
              | exact ⟨k + 1, by ((try simp only [Kv, Ky, Kx, K4, upd, K5, Gb, Gs, Nat.reduceDiv, Nat.reduceMod, Nat.reduceMul, Nat.reduceAdd, Nat.reduceEqDiff, List.set_cons_zero, List.set_cons_succ, if_true, if_false, reduceIte]); (first | refine Wk.of_fl ?_ | skip); simp only [Wk, wkK, Gy, wkT, wk1, AV.kept, keptAll, wkO, lk, Kw, and_true, true_and, and_self, Nat.reduceEqDiff, Nat.reduceLeDiff, if_true, if_false, reduceIte, reduceCtorEq, Option.isSome, false_implies]; try simp [Wk, wkK, wkT, wk1, AV.kept, keptAll, wkO, lk, Kw]), by omega, h2, by omega⟩
              | skip)
        | true =>
          have hr := hit hs
          (sym =>
           simp [hlb,q1,hs,hr,H9,A7,isE_PW,PW_s,L6,L8,L7,L9,L5,L4,H4.eq_def,Za,Zb,Zc,Ze,Zf,Zg,Zn,Zo,Zp,Zq,Zr,Zs,Zv,Zx,Z2,Z6,Z7,Z8,Z9,Qa,Qb,Qc,Qd,Qe,Qi,Qj,Qk,Ql,Qm,Qn,Qp,Qq,Qr,Qs,Qt,Qu,Qv,Qw,Qx,Qy,Q1,Q2,Q3,Q8,Ja,Jb,Jc,Jd,Je,Jf,Jg,Jh,Ji,Jj,Jk,Jl,Jq,Jr,Js,Jt,Ju,Jx,Jy,Xb,Xc,Xd,Xe,Xf,Xg,Xh,Xi,Xj,Xk,Xl,Xm,Xn,Xq,Xs,Xt,Xu,Xv,Xw,Xx,Xy,Xz,X0,X1,X2,X3,X4,X5,X6,X7,X8,X9,Wa,Wd,We,Wf,Wg,Wh,Wi,Wj,Wl,Wm,Wn,Wo,Wp,Wq,Wr,Ws,Wt,Wu,Wv,Ww,Wx,Wy,Wz,W0,W1,W2,W3,W4,W5,W6,W7,W8,Ye,Yf,Yg,Yh,Yi,Yj,Yk,Yl,Ym,Yn,Yo,Yp,Yq,Yr,Ys,Yt,Yu,Yv,Yw,Yx,Yy,Yz,Y0,Y1,Y2,Y3,Y4,Y5,Y6,Y7,Y8,Y9,Va,Vb,Vc,Vd,Ve,Vf,Vg,Vh,Vi,Vj,Vk,Vl,Vm,Vn,Vo,Vp,Vq,Vr,Vs,Vt,Vu,Vv,Vw,Vx,Vy,Vz,V0,V1,V3,V4,V5,V6,V7,V8,V9,Ua,Ub,Uc,Ud,Ue,Uf,Ul,Um,Uq,Ur,Us,Ut,Uu,Uv,Uw,Ux,Uy,Uz,U0,U1,U3,U4,U5,U6,U7,U8,U9,Ka,Kb,Kc,Kd,Ke,Kf,Kg,Kh,Ki,Kj,Kk,Kl,Km,Kn,Ko,Kq,Kr,Ks,Kt,Ga,K8,Kz,Dm]
           tactic =>
            try simp only [K2] at *
            try simp only [nc2] at *
            try simp (maxSteps := 4000000) only [hlb,q1,hs,hr,H9,A7,isE_PW,PW_s,Gg]
            repeat' (first | with_reducible assumption | with_reducible refine And.intro ?_ ?_ | intro _ | omega | (rw [Ku]; omega))
            all_goals first
              | omega
              | assumption
              | exact ⟨hv1, hv2⟩
              | exact ⟨[90000], by simp, rfl, canon1, rfl, trivial⟩
              | skip)
      · have hr := idxP_none (p := Mh v) (l := l) ⟨[]⟩ (fun j hj => hno j (by omega))
        (sym =>
         simp [hlb,hr,H9,L6,L8,L7,L9,L5,L4,H4.eq_def,Za,Zb,Zc,Ze,Zf,Zg,Zn,Zo,Zp,Zq,Zr,Zs,Zv,Zx,Z2,Z6,Z7,Z8,Z9,Qa,Qb,Qc,Qd,Qe,Qi,Qj,Qk,Ql,Qm,Qn,Qp,Qq,Qr,Qs,Qt,Qu,Qv,Qw,Qx,Qy,Q1,Q2,Q3,Q8,Ja,Jb,Jc,Jd,Je,Jf,Jg,Jh,Ji,Jj,Jk,Jl,Jq,Jr,Js,Jt,Ju,Jx,Jy,Xb,Xc,Xd,Xe,Xf,Xg,Xh,Xi,Xj,Xk,Xl,Xm,Xn,Xq,Xs,Xt,Xu,Xv,Xw,Xx,Xy,Xz,X0,X1,X2,X3,X4,X5,X6,X7,X8,X9,Wa,Wd,We,Wf,Wg,Wh,Wi,Wj,Wl,Wm,Wn,Wo,Wp,Wq,Wr,Ws,Wt,Wu,Wv,Ww,Wx,Wy,Wz,W0,W1,W2,W3,W4,W5,W6,W7,W8,Ye,Yf,Yg,Yh,Yi,Yj,Yk,Yl,Ym,Yn,Yo,Yp,Yq,Yr,Ys,Yt,Yu,Yv,Yw,Yx,Yy,Yz,Y0,Y1,Y2,Y3,Y4,Y5,Y6,Y7,Y8,Y9,Va,Vb,Vc,Vd,Ve,Vf,Vg,Vh,Vi,Vj,Vk,Vl,Vm,Vn,Vo,Vp,Vq,Vr,Vs,Vt,Vu,Vv,Vw,Vx,Vy,Vz,V0,V1,V3,V4,V5,V6,V7,V8,V9,Ua,Ub,Uc,Ud,Ue,Uf,Ul,Um,Uq,Ur,Us,Ut,Uu,Uv,Uw,Ux,Uy,Uz,U0,U1,U3,U4,U5,U6,U7,U8,U9,Ka,Kb,Kc,Kd,Ke,Kf,Kg,Kh,Ki,Kj,Kk,Kl,Km,Kn,Ko,Kq,Kr,Ks,Kt,Ga,K8,Kz,Dm]
         tactic =>
          try simp only [K2] at *
          try simp only [nc2] at *
          try simp (maxSteps := 4000000) only [hlb,hr,H9,Gg]
          repeat' (first | with_reducible assumption | with_reducible refine And.intro ?_ ?_ | intro _ | omega | (rw [Ku]; omega))
          all_goals first
            | omega
            | exact ⟨[90000], by simp, rfl, canon1, rfl, trivial⟩
            | skip))
end Go.Am.Hit
set_option linter.unusedSimpArgs false
set_option linter.unusedVariables false
set_option maxHeartbeats 4000000
namespace Go.Am.Hit
open Go.Proofs
open Enc (enc dec)
def Ru (v : List (Sl Int)) (l : List (Sl Int)) : List (Sl Int) := l.filter fun s => !Mh v s
theorem keep_take {v l : List (Sl Int)} {j : Nat} (h : j < l.length) : Ru v (l.take (j + 1)) = Ru v (l.take j) ++ cond (Mh v (l.getD j ⟨[]⟩)) [] [l.getD j ⟨[]⟩] := by
  rw [List.take_succ_eq_append_getElem h]
  unfold Ru
  rw [List.filter_append]
  have e : l.getD j ⟨[]⟩ = l[j] := by simp [h]
  rw [e]
  cases hn : Mh v l[j] <;> simp [hn]
theorem keep_all {v l : List (Sl Int)} {k : Nat} (hk : k ≤ l.length) (h : ∀ j, j < k → Mh v (l.getD j ⟨[]⟩) = false) : Ru v (l.take k) = l.take k := by
  unfold Ru
  rw [List.filter_eq_self]
  intro a ha
  obtain ⟨j, hj, rfl⟩ := List.getElem_of_mem ha
  have hj' : j < k := by rw [List.length_take] at hj; omega
  have := h j hj'
  simpa [show j < l.length by omega] using this
theorem keep_len (v l : List (Sl Int)) : (Ru v l).length ≤ l.length := List.length_filter_le _ _
theorem idxP_cases {α : Type} (p : α → Bool) (l : List α) (d : α) : (I1 p l = -1 ∧ ∀ j, j < l.length → p (l.getD j d) = false) ∨ ∃ k, k < l.length ∧ I1 p l = (k : Int) ∧ p (l.getD k d) = true ∧ ∀ j, j < k → p (l.getD j d) = false := by
  unfold I1
  cases h : l.findIdx? p with
  | none =>
    rw [List.findIdx?_eq_none_iff] at h
    refine .inl ⟨rfl, fun j hj => ?_⟩
    have := h (l[j]) (List.getElem_mem hj)
    simpa [hj] using this
  | some i =>
    rw [List.findIdx?_eq_some_iff_getElem] at h
    obtain ⟨hi, hp, hno⟩ := h
    refine .inr ⟨i, hi, rfl, by simpa [hi] using hp, fun j hj => ?_⟩
    have := hno j hj
    simpa [show j < l.length by omega] using this
def H0 : Con := ⟨[true, false], [true], fun c => ∃ l v : List (Sl Int), c = [.own 1 (l.map enc), .d (enc (LeastF.mk v))] ∧ Rs6 l ∧ Rw v, fun c => match c with
  | [.own s l, .d x] => .own s ((Ru (dec x : LeastF).s (l.map dec)).map enc)
  | _ => .d .nilp⟩
theorem delete_fn (l v : List (Sl Int)) : H0.fn [.own 1 (l.map enc), .d (enc (LeastF.mk v))] = .own 1 ((Ru v l).map enc) := by
  show CV.own 1 ((Ru (dec (enc (LeastF.mk v)) : LeastF).s ((l.map enc).map dec)).map enc) = _
  rw [Dq, Enc.dec_enc]
theorem rowM_first {l : List (Sl Int)} {k : Nat} (h : k < l.length) : Ac l (l.take k) [l.getD k ⟨[]⟩] (k + 1) = l := by
  have := rowM_next (l := l) (P := l.take k) (M := []) (i := k) (by rw [List.length_take, List.length_nil]; omega) h
  rw [List.nil_append] at this
  rw [← this]
  unfold Ac
  simp
noncomputable def Pb : Ctx := ⟨tab, lkC [(37, H4)], 60, lkB [(52, Mc)], [38, 41], false⟩
theorem M7 : Pb.τ = tab := rfl
theorem M9 : Pb.Γ = lkC [(37, H4)] := rfl
theorem M8 : Pb.dp = 60 := rfl
theorem Pa : Pb.Δ = lkB [(52, Mc)] := rfl
theorem M6 : Pb.cuts = [38, 41] := rfl
theorem M5 : Pb.wr = false := rfl
set_option maxRecDepth 100000 in
theorem good_deleteFuncSS : Me Try.prog (36, H0) := by
  refine ⟨Gj Try.func36 (by kernel_rfl) rfl, ?_⟩
  have K : Hq Try.prog Pb := Gq H8 G4 (by
    intro p hp
    simp only [List.mem_cons, List.not_mem_nil, or_false] at hp
    rcases hp with rfl
    · exact good_Least_1H) (by
    intro p hp
    simp only [List.mem_cons, List.not_mem_nil, or_false] at hp
    rcases hp with rfl
    · exact goodb_indexFuncSS)
  obtain ⟨c, hc⟩ : ∃ c, Try.f36.body = some c := ⟨_, rfl⟩
  refine Gu K Try.func36 hc [.tmp 4] rfl 42 rfl (fun cvs hpre => ?_)
  change H0.pre cvs at hpre
  unfold H0 at hpre
  obtain ⟨l, v, rfl, ⟨hl1, hl2⟩, hv⟩ := hpre
  rw [delete_fn]
  obtain ⟨R, hR⟩ : ∃ R, Ru v l = R := ⟨_, rfl⟩
  rw [hR]
  simp only [Try.f36, Option.some.injEq] at hc
  subst hc
  refine Hy 2 (of_decide_eq_true (by kernel_rfl)) ?_
  (sym =>
   simp [H9,M7,M9,M8,Pa,M6,M5,H4.eq_def,H0.eq_def,Za,Zb,Zc,Ze,Zf,Zg,Zn,Zo,Zp,Zq,Zr,Zs,Zv,Zw,Zx,Zy,Z2,Z6,Z7,Z8,Z9,Qa,Qb,Qc,Qd,Qe,Qg,Qh,Qi,Qj,Qk,Ql,Qm,Qn,Qp,Qq,Qr,Qs,Qt,Qu,Qv,Qw,Qx,Qy,Q1,Q2,Q3,Q8,Ja,Jb,Jc,Jd,Je,Jf,Jg,Jh,Ji,Jj,Jk,Jl,Jm,Jn,Jo,Jp,Jq,Jr,Js,Jt,Ju,Jv,Jw,Jx,Jy,Jz,J0,J1,J2,J3,J4,J5,J6,J7,J8,Xb,Xc,Xd,Xe,Xf,Xg,Xh,Xi,Xj,Xk,Xl,Xm,Xn,Xo,Xp,Xq,Xr,Xs,Xt,Xu,Xv,Xw,Xx,Xy,Xz,X0,X1,X2,X3,X4,X5,X6,X7,X8,X9,Wa,Wd,We,Wf,Wg,Wh,Wi,Wj,Wl,Wm,Wn,Wo,Wp,Wq,Wr,Ws,Wt,Wu,Wv,Ww,Wx,Wy,Wz,W0,W1,W2,W3,W4,W5,W6,W7,W8,W9,Ya,Yb,Yc,Yd,Ye,Yf,Yg,Yh,Yi,Yj,Yk,Yl,Ym,Yn,Yo,Yp,Yq,Yr,Ys,Yt,Yu,Yv,Yw,Yx,Yy,Yz,Y0,Y1,Y2,Y3,Y4,Y5,Y6,Y7,Y8,Y9,Va,Vb,Vc,Vd,Ve,Vf,Vg,Vh,Vi,Vj,Vk,Vl,Vm,Vn,Vo,Vp,Vq,Vr,Vs,Vt,Vu,Vv,Vw,Vx,Vy,Vz,V0,V1,V3,V4,V5,V6,V7,V8,V9,Ua,Ub,Uc,Ud,Ue,Uf,Ug,Uh,Ui,Uj,Uk,Ul,Um,Uq,Ur,Us,Ut,Uu,Uv,Uw,Ux,Uy,Uz,U0,U1,U3,U4,U5,U6,U7,U8,U9,Ka,Kb,Kc,Kd,Ke,Kf,Kg,Kh,Ki,Kj,Kk,Kl,Km,Kn,Ko,Kq,Kr,Ks,Kt,Ga,G5,K8,Kz,Dm]
   tactic =>
    try simp only [K2] at *
    try simp only [nc2] at *
    try simp (maxSteps := 4000000) only [H9,Gg]
    repeat' (first | with_reducible assumption | with_reducible refine And.intro ?_ ?_ | intro _ | omega | (rw [Ku]; omega))
    refine aCallB_of (bc := Mc) (l, v) [80000] ⟨by show l.length ≤ 1000000000; omega, fun j => by have := hl2 j; show (l.getD j ⟨[]⟩).l.length ≤ _; omega, hv⟩ rfl (by simp) rfl ?_ ?_ ?_
    · simp [Mg, lk, rnO, rk, Mc]
    · simp [Sp, lk, Mc]
    have hbr : Mc.res (l, v) = .int .i64 (I1 (Mh v) l) := rfl
    have hbp : Mc.post (l, v) = [.row 1 (l.map enc) 0] := rfl
    rcases idxP_cases (Mh v) l ⟨[]⟩ with ⟨hi, hno⟩ | ⟨i0, hi0, hi, hyes, hno⟩
    · have hRl : R = l := by
        have := keep_all (v := v) (Nat.le_refl l.length) hno
        rw [List.take_length, hR] at this
        exact this
      subst hRl
      (sym =>
       simp [hbr,hbp,hi,H9,M7,M9,M8,Pa,M6,M5,H4.eq_def,H0.eq_def,Za,Zb,Zc,Ze,Zf,Zg,Zn,Zo,Zp,Zq,Zr,Zs,Zv,Zw,Zx,Zy,Z2,Z6,Z7,Z8,Z9,Qa,Qb,Qc,Qd,Qe,Qg,Qh,Qi,Qj,Qk,Ql,Qm,Qn,Qp,Qq,Qr,Qs,Qt,Qu,Qv,Qw,Qx,Qy,Q1,Q2,Q3,Q8,Ja,Jb,Jc,Jd,Je,Jf,Jg,Jh,Ji,Jj,Jk,Jl,Jm,Jn,Jo,Jp,Jq,Jr,Js,Jt,Ju,Jv,Jw,Jx,Jy,Jz,J0,J1,J2,J3,J4,J5,J6,J7,J8,Xb,Xc,Xd,Xe,Xf,Xg,Xh,Xi,Xj,Xk,Xl,Xm,Xn,Xo,Xp,Xq,Xr,Xs,Xt,Xu,Xv,Xw,Xx,Xy,Xz,X0,X1,X2,X3,X4,X5,X6,X7,X8,X9,Wa,Wd,We,Wf,Wg,Wh,Wi,Wj,Wl,Wm,Wn,Wo,Wp,Wq,Wr,Ws,Wt,Wu,Wv,Ww,Wx,Wy,Wz,W0,W1,W2,W3,W4,W5,W6,W7,W8,W9,Ya,Yb,Yc,Yd,Ye,Yf,Yg,Yh,Yi,Yj,Yk,Yl,Ym,Yn,Yo,Yp,Yq,Yr,Ys,Yt,Yu,Yv,Yw,Yx,Yy,Yz,Y0,Y1,Y2,Y3,Y4,Y5,Y6,Y7,Y8,Y9,Va,Vb,Vc,Vd,Ve,Vf,Vg,Vh,Vi,Vj,Vk,Vl,Vm,Vn,Vo,Vp,Vq,Vr,Vs,Vt,Vu,Vv,Vw,Vx,Vy,Vz,V0,V1,V3,V4,V5,V6,V7,V8,V9,Ua,Ub,Uc,Ud,Ue,Uf,Ug,Uh,Ui,Uj,Uk,Ul,Um,Uq,Ur,Us,Ut,Uu,Uv,Uw,Ux,Uy,Uz,U0,U1,U3,U4,U5,U6,U7,U8,U9,Ka,Kb,Kc,Kd,Ke,Kf,Kg,Kh,Ki,Kj,Kk,Kl,Km,Kn,Ko,Kq,Kr,Ks,Kt,Ga,G5,K8,Kz,Dm])
    · have hib : ((i0 : Int) == -1) = false := by rw [beq_eq_false_iff_ne]; omega
      (sym =>
       simp [hbr,hbp,hi,hib,H9,M7,M9,M8,Pa,M6,M5,H4.eq_def,H0.eq_def,Za,Zb,Zc,Ze,Zf,Zg,Zn,Zo,Zp,Zq,Zr,Zs,Zv,Zw,Zx,Zy,Z2,Z6,Z7,Z8,Z9,Qa,Qb,Qc,Qd,Qe,Qg,Qh,Qi,Qj,Qk,Ql,Qm,Qn,Qp,Qq,Qr,Qs,Qt,Qu,Qv,Qw,Qx,Qy,Q1,Q2,Q3,Q8,Ja,Jb,Jc,Jd,Je,Jf,Jg,Jh,Ji,Jj,Jk,Jl,Jm,Jn,Jo,Jp,Jq,Jr,Js,Jt,Ju,Jv,Jw,Jx,Jy,Jz,J0,J1,J2,J3,J4,J5,J6,J7,J8,Xb,Xc,Xd,Xe,Xf,Xg,Xh,Xi,Xj,Xk,Xl,Xm,Xn,Xo,Xp,Xq,Xr,Xs,Xt,Xu,Xv,Xw,Xx,Xy,Xz,X0,X1,X2,X3,X4,X5,X6,X7,X8,X9,Wa,Wd,We,Wf,Wg,Wh,Wi,Wj,Wl,Wm,Wn,Wo,Wp,Wq,Wr,Ws,Wt,Wu,Wv,Ww,Wx,Wy,Wz,W0,W1,W2,W3,W4,W5,W6,W7,W8,W9,Ya,Yb,Yc,Yd,Ye,Yf,Yg,Yh,Yi,Yj,Yk,Yl,Ym,Yn,Yo,Yp,Yq,Yr,Ys,Yt,Yu,Yv,Yw,Yx,Yy,Yz,Y0,Y1,Y2,Y3,Y4,Y5,Y6,Y7,Y8,Y9,Va,Vb,Vc,Vd,Ve,Vf,Vg,Vh,Vi,Vj,Vk,Vl,Vm,Vn,Vo,Vp,Vq,Vr,Vs,Vt,Vu,Vv,Vw,Vx,Vy,Vz,V0,V1,V3,V4,V5,V6,V7,V8,V9,Ua,Ub,Uc,Ud,Ue,Uf,Ug,Uh,Ui,Uj,Uk,Ul,Um,Uq,Ur,Us,Ut,Uu,Uv,Uw,Ux,Uy,Uz,U0,U1,U3,U4,U5,U6,U7,U8,U9,Ka,Kb,Kc,Kd,Ke,Kf,Kg,Kh,Ki,Kj,Kk,Kl,Km,Kn,Ko,Kq,Kr,Ks,Kt,Ga,G5,K8,Kz,Dm]
       tactic =>
        try simp only [K2] at *
        try simp only [nc2] at *
        try simp (maxSteps := 4000000) only [hbr,hbp,hi,hib,H9,Gg]
        repeat' (first | with_reducible assumption | with_reducible refine And.intro ?_ ?_ | intro _ | omega | (rw [Ku]; omega))
        refine Gi [7, 16, 17, 18, 19, 20, 21, 22, 23, 24, 25, 26, 27, 28, 29, 30, 31, 32, 33, 34, 35] (fun q : Nat × List (Sl Int) × List (Sl Int) => [(6, .d (.int .i64 q.1)), (5, .d (.int .i64 q.2.1.length))]) (fun q : Nat × List (Sl Int) × List (Sl Int) => [(80000, .row 1 ((Ac l q.2.1 q.2.2 q.1).map enc) 0)]) (fun q : Nat × List (Sl Int) × List (Sl Int) => q.1 ≤ l.length ∧ q.2.1 = Ru v (l.take q.1) ∧ q.2.1.length + q.2.2.length = q.1 ∧ 1 ≤ q.2.2.length) (fun q : Nat × List (Sl Int) × List (Sl Int) => l.length - q.1) (i0 + 1, l.take i0, [l.getD i0 ⟨[]⟩]) ?_ ?_ ?_
        · refine ⟨by simp only; omega, ?_, by simp; omega, by simp⟩
          simp only
          rw [keep_take hi0, hyes, cond_true, List.append_nil, keep_all (by omega) hno]
        · simp only [rowM_first hi0, List.length_take, Nat.min_eq_left (Nat.le_of_lt hi0)]
          ((try simp only [Kv, Ky, Kx, K4, upd, K5, Gb, Gs, Nat.reduceDiv, Nat.reduceMod, Nat.reduceMul, Nat.reduceAdd, Nat.reduceEqDiff, List.set_cons_zero, List.set_cons_succ, if_true, if_false, reduceIte]); (first | refine Wk.of_fl ?_ | skip); simp only [Wk, wkK, Gy, wkT, wk1, AV.kept, keptAll, wkO, lk, Kw, and_true, true_and, and_self, Nat.reduceEqDiff, Nat.reduceLeDiff, if_true, if_false, reduceIte, reduceCtorEq, Option.isSome, false_implies]; try simp [Wk, wkK, wkT, wk1, AV.kept, keptAll, wkO, lk, Kw])
        rintro ⟨j, P, M⟩ ⟨hj, hP, hPM, hM⟩
        simp only at hj hP hPM hM ⊢
        obtain ⟨W, hW⟩ : ∃ W, Ac l P M j = W := ⟨_, rfl⟩
        have hWl : W.length = l.length := by rw [← hW]; exact rowM_len hPM hj
        have hPl : P.length < j := by omega
        rw [hW]
        rcases Gl j l.length with ⟨hlt, hlb⟩ | ⟨hlt, hlb⟩
        · have g1 := Hd (l := W) (⟨[]⟩ : Sl Int) (show j < W.length by omega)
          have a1 : W.getD j ⟨[]⟩ = l.getD j ⟨[]⟩ := by rw [← hW]; exact rowM_at hPM (Nat.le_refl _)
          rw [a1] at g1
          have m1 := hl2 j
          have hkt := keep_take (v := v) hlt
          have hnx := rowM_next hPM hlt
          have hsx := fun x => rowM_set (x := x) hPM hlt
          rw [hW] at hnx hsx
          obtain ⟨⟨u⟩, hu⟩ : ∃ x, l.getD j ⟨[]⟩ = x := ⟨_, rfl⟩
          rw [hu] at g1 m1 hkt hnx hsx
          simp only at m1
          rw [← hP] at hkt
          cases hn : Mh v ⟨u⟩ with
          | true =>
            rw [hn, cond_true, List.append_nil] at hkt
            (sym =>
             simp [hWl,hlb,g1,hn,H9,A7,isE_PW,PW_s,M7,M9,M8,Pa,M6,M5,H4.eq_def,H0.eq_def,Za,Zb,Zc,Ze,Zf,Zg,Zn,Zo,Zp,Zq,Zr,Zs,Zv,Zw,Zx,Zy,Z2,Z6,Z7,Z8,Z9,Qa,Qb,Qc,Qd,Qe,Qg,Qh,Qi,Qj,Qk,Ql,Qm,Qn,Qp,Qq,Qr,Qs,Qt,Qu,Qv,Qw,Qx,Qy,Q1,Q2,Q3,Q8,Ja,Jb,Jc,Jd,Je,Jf,Jg,Jh,Ji,Jj,Jk,Jl,Jm,Jn,Jo,Jp,Jq,Jr,Js,Jt,Ju,Jv,Jw,Jx,Jy,Jz,J0,J1,J2,J3,J4,J5,J6,J7,J8,Xb,Xc,Xd,Xe,Xf,Xg,Xh,Xi,Xj,Xk,Xl,Xm,Xn,Xo,Xp,Xq,Xr,Xs,Xt,Xu,Xv,Xw,Xx,Xy,Xz,X0,X1,X2,X3,X4,X5,X6,X7,X8,X9,Wa,Wd,We,Wf,Wg,Wh,Wi,Wj,Wl,Wm,Wn,Wo,Wp,Wq,Wr,Ws,Wt,Wu,Wv,Ww,Wx,Wy,Wz,W0,W1,W2,W3,W4,W5,W6,W7,W8,W9,Ya,Yb,Yc,Yd,Ye,Yf,Yg,Yh,Yi,Yj,Yk,Yl,Ym,Yn,Yo,Yp,Yq,Yr,Ys,Yt,Yu,Yv,Yw,Yx,Yy,Yz,Y0,Y1,Y2,Y3,Y4,Y5,Y6,Y7,Y8,Y9,Va,Vb,Vc,Vd,Ve,Vf,Vg,Vh,Vi,Vj,Vk,Vl,Vm,Vn,Vo,Vp,Vq,Vr,Vs,Vt,Vu,Vv,Vw,Vx,Vy,Vz,V0,V1,V3,V4,V5,V6,V7,V8,V9,Ua,Ub,Uc,Ud,Ue,Uf,Ug,Uh,Ui,Uj,Uk,Ul,Um,Uq,Ur,Us,Ut,Uu,Uv,Uw,Ux,Uy,Uz,U0,U1,U3,U4,U5,U6,U7,U8,U9,Ka,Kb,Kc,Kd,Ke,Kf,Kg,Kh,Ki,Kj,Kk,Kl,Km,Kn,Ko,Kq,Kr,Ks,Kt,Ga,G5,K8,Kz,Dm]
             tactic =>
              try simp only [K2] at *
              try simp only [nc2] at *
              try simp (maxSteps := 4000000) only [hWl,hlb,g1,hn,H9,A7,isE_PW,PW_s,Gg]
              repeat' (first | with_reducible assumption | with_reducible refine And.intro ?_ ?_ | intro _ | omega | (rw [Ku]; omega))
              all_goals first
                | omega
                | assumption
                | exact ⟨(j + 1, P, M ++ [Sl.mk u]), by simp only [← hnx]; ((try simp only [Kv, Ky, Kx, K4, upd, K5, Gb, Gs, Nat.reduceDiv, Nat.reduceMod, Nat.reduceMul, Nat.reduceAdd, Nat.reduceEqDiff, List.set_cons_zero, List.set_cons_succ, if_true, if_false, reduceIte]); (first | refine Wk.of_fl ?_ | skip); simp only [Wk, wkK, Gy, wkT, wk1, AV.kept, keptAll, wkO, lk, Kw, and_true, true_and, and_self, Nat.reduceEqDiff, Nat.reduceLeDiff, if_true, if_false, reduceIte, reduceCtorEq, Option.isSome, false_implies]; try simp [Wk, wkK, wkT, wk1, AV.kept, keptAll, wkO, lk, Kw]), by simp only; omega, hkt.symm, by simp only [List.length_append, List.length_singleton]; omega, by simp only [List.length_append, List.length_singleton]; omega, by simp only; omega⟩
                | skip)
          | false =>
            rw [hn, cond_false] at hkt
            have g0 := Hd (l := W) (⟨[]⟩ : Sl Int) (show P.length < W.length by omega)
            obtain ⟨⟨z⟩, hz⟩ : ∃ x, W.getD P.length ⟨[]⟩ = x := ⟨_, rfl⟩
            rw [hz] at g0
            have hset : (W.map (enc : Sl Int → D)).set P.length (enc (Sl.mk u)) = (W.set P.length (Sl.mk u)).map enc := by rw [List.map_set]
            have hsx' := hsx (Sl.mk u)
            (sym =>
             simp [hWl,hlb,g0,g1,hn,hset,setCell_S,H9,A7,isE_PW,PW_s,M7,M9,M8,Pa,M6,M5,H4.eq_def,H0.eq_def,Za,Zb,Zc,Ze,Zf,Zg,Zn,Zo,Zp,Zq,Zr,Zs,Zv,Zw,Zx,Zy,Z2,Z6,Z7,Z8,Z9,Qa,Qb,Qc,Qd,Qe,Qg,Qh,Qi,Qj,Qk,Ql,Qm,Qn,Qp,Qq,Qr,Qs,Qt,Qu,Qv,Qw,Qx,Qy,Q1,Q2,Q3,Q8,Ja,Jb,Jc,Jd,Je,Jf,Jg,Jh,Ji,Jj,Jk,Jl,Jm,Jn,Jo,Jp,Jq,Jr,Js,Jt,Ju,Jv,Jw,Jx,Jy,Jz,J0,J1,J2,J3,J4,J5,J6,J7,J8,Xb,Xc,Xd,Xe,Xf,Xg,Xh,Xi,Xj,Xk,Xl,Xm,Xn,Xo,Xp,Xq,Xr,Xs,Xt,Xu,Xv,Xw,Xx,Xy,Xz,X0,X1,X2,X3,X4,X5,X6,X7,X8,X9,Wa,Wd,We,Wf,Wg,Wh,Wi,Wj,Wl,Wm,Wn,Wo,Wp,Wq,Wr,Ws,Wt,Wu,Wv,Ww,Wx,Wy,Wz,W0,W1,W2,W3,W4,W5,W6,W7,W8,W9,Ya,Yb,Yc,Yd,Ye,Yf,Yg,Yh,Yi,Yj,Yk,Yl,Ym,Yn,Yo,Yp,Yq,Yr,Ys,Yt,Yu,Yv,Yw,Yx,Yy,Yz,Y0,Y1,Y2,Y3,Y4,Y5,Y6,Y7,Y8,Y9,Va,Vb,Vc,Vd,Ve,Vf,Vg,Vh,Vi,Vj,Vk,Vl,Vm,Vn,Vo,Vp,Vq,Vr,Vs,Vt,Vu,Vv,Vw,Vx,Vy,Vz,V0,V1,V3,V4,V5,V6,V7,V8,V9,Ua,Ub,Uc,Ud,Ue,Uf,Ug,Uh,Ui,Uj,Uk,Ul,Um,Uq,Ur,Us,Ut,Uu,Uv,Uw,Ux,Uy,Uz,U0,U1,U3,U4,U5,U6,U7,U8,U9,Ka,Kb,Kc,Kd,Ke,Kf,Kg,Kh,Ki,Kj,Kk,Kl,Km,Kn,Ko,Kq,Kr,Ks,Kt,Ga,G5,K8,Kz,Dm]
             tactic =>
              try simp only [K2] at *
              try simp only [nc2] at *
              try simp (maxSteps := 4000000) only [hWl,hlb,g0,g1,hn,hset,setCell_S,H9,A7,isE_PW,PW_s,Gg]
              repeat' (first | with_reducible assumption | with_reducible refine And.intro ?_ ?_ | intro _ | omega | (rw [Ku]; omega))
              all_goals first
                | omega
                | assumption
                | exact ⟨(j + 1, P ++ [Sl.mk u], (M ++ [Sl.mk u]).tail), by simp only [← hsx']; ((try simp only [Kv, Ky, Kx, K4, upd, K5, Gb, Gs, Nat.reduceDiv, Nat.reduceMod, Nat.reduceMul, Nat.reduceAdd, Nat.reduceEqDiff, List.set_cons_zero, List.set_cons_succ, if_true, if_false, reduceIte]); (first | refine Wk.of_fl ?_ | skip); simp only [Wk, wkK, Gy, wkT, wk1, AV.kept, keptAll, wkO, lk, Kw, and_true, true_and, and_self, Nat.reduceEqDiff, Nat.reduceLeDiff, if_true, if_false, reduceIte, reduceCtorEq, Option.isSome, false_implies]; try simp [Wk, wkK, wkT, wk1, AV.kept, keptAll, wkO, lk, Kw, List.length_append]), by simp only; omega, hkt.symm, by simp only [List.length_append, List.length_singleton, tail_len]; omega, by simp only [tail_len]; omega, by simp only; omega⟩
                | skip)
        · have hjl : j = l.length := by omega
          have hPR : P = R := by rw [← hR, hP, hjl, List.take_length]
          (sym =>
           simp [hWl,hlb,H9,M7,M9,M8,Pa,M6,M5,H4.eq_def,H0.eq_def,Za,Zb,Zc,Ze,Zf,Zg,Zn,Zo,Zp,Zq,Zr,Zs,Zv,Zw,Zx,Zy,Z2,Z6,Z7,Z8,Z9,Qa,Qb,Qc,Qd,Qe,Qg,Qh,Qi,Qj,Qk,Ql,Qm,Qn,Qp,Qq,Qr,Qs,Qt,Qu,Qv,Qw,Qx,Qy,Q1,Q2,Q3,Q8,Ja,Jb,Jc,Jd,Je,Jf,Jg,Jh,Ji,Jj,Jk,Jl,Jm,Jn,Jo,Jp,Jq,Jr,Js,Jt,Ju,Jv,Jw,Jx,Jy,Jz,J0,J1,J2,J3,J4,J5,J6,J7,J8,Xb,Xc,Xd,Xe,Xf,Xg,Xh,Xi,Xj,Xk,Xl,Xm,Xn,Xo,Xp,Xq,Xr,Xs,Xt,Xu,Xv,Xw,Xx,Xy,Xz,X0,X1,X2,X3,X4,X5,X6,X7,X8,X9,Wa,Wd,We,Wf,Wg,Wh,Wi,Wj,Wl,Wm,Wn,Wo,Wp,Wq,Wr,Ws,Wt,Wu,Wv,Ww,Wx,Wy,Wz,W0,W1,W2,W3,W4,W5,W6,W7,W8,W9,Ya,Yb,Yc,Yd,Ye,Yf,Yg,Yh,Yi,Yj,Yk,Yl,Ym,Yn,Yo,Yp,Yq,Yr,Ys,Yt,Yu,Yv,Yw,Yx,Yy,Yz,Y0,Y1,Y2,Y3,Y4,Y5,Y6,Y7,Y8,Y9,Va,Vb,Vc,Vd,Ve,Vf,Vg,Vh,Vi,Vj,Vk,Vl,Vm,Vn,Vo,Vp,Vq,Vr,Vs,Vt,Vu,Vv,Vw,Vx,Vy,Vz,V0,V1,V3,V4,V5,V6,V7,V8,V9,Ua,Ub,Uc,Ud,Ue,Uf,Ug,Uh,Ui,Uj,Uk,Ul,Um,Uq,Ur,Us,Ut,Uu,Uv,Uw,Ux,Uy,Uz,U0,U1,U3,U4,U5,U6,U7,U8,U9,Ka,Kb,Kc,Kd,Ke,Kf,Kg,Kh,Ki,Kj,Kk,Kl,Km,Kn,Ko,Kq,Kr,Ks,Kt,Ga,G5,K8,Kz,Dm]
           tactic =>
            try simp only [K2] at *
            try simp only [nc2] at *
            try simp (maxSteps := 4000000) only [hWl,hlb,H9,Gg]
            repeat' (first | with_reducible assumption | with_reducible refine And.intro ?_ ?_ | intro _ | omega | (rw [Ku]; omega))
            all_goals first
              | omega
              | (simp [hWl]; done)
              | (simp [hWl]; omega)
              | (rw [take_take_rep (by rw [List.length_map, hWl]; omega), ← hPR, ← hW]; exact rowM_pre))))
end Go.Am.Hit
set_option linter.unusedSimpArgs false
set_option linter.unusedVariables false
set_option maxHeartbeats 4000000
namespace Go.Am.Hit
open Go.Proofs
open Enc (enc dec)
theorem compG_mem {z : List Int} : ∀ {l : List (Sl Int)} {p : List Int}, (z ∈ unS (Fu p l) ∨ z = p) ↔ (z ∈ unS l ∨ z = p)
  | [], p => Iff.rfl
  | y :: l, p => by
    have ih := compG_mem (z := z) (l := l) (p := y.l)
    rw [Fu]
    cases hy : (y.l == p) with
    | true =>
      rw [beq_iff_eq] at hy
      rw [cond_true]
      unfold unS at ih ⊢
      rw [List.map_cons, List.mem_cons]
      rw [← hy]
      constructor
      · intro h
        rcases ih.1 h with h | h
        · exact .inl (.inr h)
        · exact .inr h
      · rintro ((h | h) | h)
        · exact .inr h
        · exact ih.2 (.inl h)
        · exact .inr h
    | false =>
      rw [cond_false]
      unfold unS at ih ⊢
      rw [List.map_cons, List.mem_cons, List.map_cons, List.mem_cons]
      constructor
      · rintro ((h | h) | h)
        · exact .inl (.inl h)
        · rcases ih.1 (.inl h) with h | h
          · exact .inl (.inr h)
          · exact .inl (.inl h)
        · exact .inr h
      · rintro ((h | h) | h)
        · exact .inl (.inl h)
        · rcases ih.2 (.inl h) with h | h
          · exact .inl (.inr h)
          · exact .inl (.inl h)
        · exact .inr h
theorem compG_up : ∀ {l : List (Sl Int)} {p : List Int}, (p :: unS l).Pairwise (fun a b => Nb b a = false) → Up (p :: unS (Fu p l))
  | [], p, _ => by unfold Up; simp [Fu, unS]
  | y :: l, p, h => by
    have h' : (p :: y.l :: unS l).Pairwise (fun a b => Nb b a = false) := h
    rw [List.pairwise_cons] at h'
    have ih := compG_up h'.2
    rw [Fu]
    cases hy : (y.l == p) with
    | true =>
      rw [beq_iff_eq] at hy
      rw [cond_true, ← hy]
      exact ih
    | false =>
      rw [cond_false]
      rw [beq_eq_false_iff_ne] at hy
      have hpy : Nb p y.l = true := by
        rcases Rl p y.l with h3 | h3 | h3
        · exact h3
        · exact absurd h3.symm hy
        · rw [h'.1 y.l (List.mem_cons_self ..)] at h3; cases h3
      show Up (p :: y.l :: unS (Fu y.l l))
      unfold Up at ih ⊢
      rw [List.pairwise_cons]
      refine ⟨fun z hz => ?_, ih⟩
      rcases List.mem_cons.1 hz with rfl | hz
      · exact hpy
      · exact S6 hpy ((List.pairwise_cons.1 ih).1 z hz)
theorem unS_slS (l : List (List Int)) : unS (slS l) = l := by
  unfold unS slS
  rw [List.map_map]
  conv => rhs; rw [← List.map_id l]
  rfl
theorem slS_unS (l : List (Sl Int)) : slS (unS l) = l := by
  unfold unS slS
  rw [List.map_map]
  conv => rhs; rw [← List.map_id l]
  rfl
theorem comp_srt (l : List (Sl Int)) : comp (slS (Ic (unS l))) = slS (srt (unS l)) := by
  rw [← slS_unS (comp (slS (Ic (unS l))))]
  congr 1
  have hm : ∀ z, z ∈ Ic (unS l) ↔ z ∈ unS l := fun z => (Ib (unS l)).mem_iff
  have hu := isrt_up (unS l)
  refine (srt_is ?_ ?_).symm
  · generalize Ic (unS l) = s at hu
    cases s with
    | nil => exact List.Pairwise.nil
    | cons x s =>
      have := compG_up (l := slS s) (p := x) (by rw [unS_slS]; exact hu)
      exact this
  · intro z
    rw [← hm z]
    generalize Ic (unS l) = s
    cases s with
    | nil => exact Iff.rfl
    | cons x s =>
      have h1 := compG_mem (z := z) (l := slS s) (p := x)
      rw [unS_slS] at h1
      show z ∈ x :: unS (Fu x (slS s)) ↔ _
      rw [List.mem_cons, List.mem_cons]
      constructor
      · intro h; exact (h1.1 h.symm).symm
      · intro h; exact (h1.2 h.symm).symm
theorem srtS_eq (l : List (Sl Int)) : srtS (l.map enc) = (slS (Ic (unS l))).map enc := by
  unfold srtS
  have e : (l.map (enc : Sl Int → D)).map (fun x => (dec x : Sl Int).l) = unS l := by
    unfold unS
    rw [List.map_map]
    apply List.map_congr_left
    intro a _
    obtain ⟨a⟩ := a
    show (dec (enc (Sl.mk a) : D) : Sl Int).l = a
    rw [dec_S]
  rw [e]
  unfold slS
  rw [List.map_map]
  rfl
theorem isrt_rs6 {l : List (Sl Int)} (h : Rs6 l) : Rs6 (slS (Ic (unS l))) := by
  have hp := Ib (unS l)
  refine ⟨?_, fun j => ?_⟩
  · rw [slS_len, hp.length_eq]
    unfold unS
    rw [List.length_map]
    exact h.1
  · rw [slS_at]
    by_cases hj : j < (Ic (unS l)).length
    · have hm : (Ic (unS l)).getD j [] ∈ unS l := by
        rw [← hp.mem_iff]
        rw [List.getD_eq_getElem?_getD, List.getElem?_eq_getElem hj]
        exact List.getElem_mem hj
      obtain ⟨a, ha, e⟩ := List.mem_map.1 hm
      obtain ⟨i, hi, rfl⟩ := List.getElem_of_mem ha
      have := h.2 i
      rw [List.getD_eq_getElem?_getD, List.getElem?_eq_getElem hi] at this
      show ((Ic (unS l)).getD j []).length ≤ _
      rw [← e]
      exact this
    · show ((Ic (unS l)).getD j []).length ≤ _
      rw [List.getD_eq_getElem?_getD, List.getElem?_eq_none (by omega)]
      simp
theorem srt_rs6 {l : List (Sl Int)} (h : Rs6 l) : Rs6 (slS (srt (unS l))) := by
  refine ⟨?_, fun j => ?_⟩
  · rw [slS_len]
    have := srt_len (unS l)
    unfold unS at this ⊢
    rw [List.length_map] at this
    have := h.1
    omega
  · rw [slS_at]
    exact srt_at_len h j
def Cl : Con := S0 (fun (l : Sl (Sl Int)) => Rs6 l.l) (fun l => slS (srt (unS l.l)))
noncomputable def Fd : Ctx := ⟨tab, lkC [(40, Pi), (45, Gw)], 60, lkB [(43, Hi)], [], false⟩
theorem ctx_SortH_t : Fd.τ = tab := rfl
theorem ctx_SortH_c : Fd.Γ = lkC [(40, Pi), (45, Gw)] := rfl
theorem ctx_SortH_d : Fd.dp = 60 := rfl
theorem ctx_SortH_b : Fd.Δ = lkB [(43, Hi)] := rfl
theorem ctx_SortH_u : Fd.cuts = [] := rfl
theorem ctx_SortH_w : Fd.wr = false := rfl
theorem good_SortH : Me Try.prog (21, Cl) := by
  refine ⟨Gj Try.func21 (by kernel_rfl) rfl, ?_⟩
  have K : Hq Try.prog Fd := Gq H8 G4 (by
    intro p hp
    simp only [List.mem_cons, List.not_mem_nil, or_false] at hp
    rcases hp with rfl | rfl
    · exact good_madeH
    · exact Rx) (by
    intro p hp
    simp only [List.mem_cons, List.not_mem_nil, or_false] at hp
    rcases hp with rfl
    · exact Ig)
  obtain ⟨c, hc⟩ : ∃ c, Try.f21.body = some c := ⟨_, rfl⟩
  refine Gu K Try.func21 hc [.tmp 2] rfl 10 rfl (fun cvs hpre => ?_)
  change Cl.pre cvs at hpre
  unfold Cl at hpre
  obtain ⟨⟨l⟩, rfl, hl⟩ := con1w_pre hpre
  simp only at hl
  clear hpre
  have hok : ∀ x ∈ l.map (enc : Sl Int → D), okS x := by
    intro x hx
    obtain ⟨a, ha, rfl⟩ := List.mem_map.1 hx
    obtain ⟨i, hi, rfl⟩ := List.getElem_of_mem ha
    refine ⟨l[i].l, rfl, ?_⟩
    have := hl.2 i
    rw [List.getD_eq_getElem?_getD, List.getElem?_eq_getElem hi] at this
    exact this
  have hcs := comp_srt l
  have hcf := compact_fn (slS (Ic (unS l)))
  rw [hcs] at hcf
  have hbr : Hi.res (l.map enc) = .tup [] := rfl
  have hbp : Hi.post (l.map enc) = [.row 1 ((slS (Ic (unS l))).map enc) 0] := by
    show [Obj.row 1 (srtS (l.map enc)) 0] = _
    rw [srtS_eq]
  have hlen : (slS (Ic (unS l))).length = l.length := by rw [slS_len, (Ib _).length_eq]; unfold unS; rw [List.length_map]
  have hpr : Gw.pre [.own 1 ((slS (Ic (unS l))).map enc), .d (.clo 46 [])] := ⟨_, rfl, isrt_rs6 hl⟩
  simp only [Try.f21, Option.some.injEq] at hc
  subst hc
  (sym =>
   simp [S0.eq_def,Sy.eq_def,D8,isE_CloF,ctx_SortH_t,ctx_SortH_c,ctx_SortH_d,ctx_SortH_b,ctx_SortH_u,ctx_SortH_w,Cl.eq_def,Gw.eq_def,Pi.eq_def,Za,Zb,Zc,Ze,Zf,Zg,Zn,Zo,Zp,Zq,Zr,Zs,Zv,Z6,Z7,Z8,Z9,Qa,Qb,Qc,Qd,Qe,Qi,Qk,Ql,Qm,Qn,Qp,Qq,Qr,Qs,Qt,Qu,Qv,Qw,Qx,Qy,Q1,Q2,Q3,Q8,Ja,Jb,Jc,Jd,Je,Jf,Jg,Jh,Ji,Jj,Jk,Jl,Jq,Jr,Jx,Jy,Xb,Xc,Xd,Xe,Xf,Xg,Xh,Xi,Xj,Xk,Xl,Xm,Xn,Xq,Xs,Xt,Xu,Xv,Xw,Xx,Xy,Xz,X0,X1,X2,X3,X4,X5,X6,X8,X9,Wa,Wd,We,Wf,Wg,Wh,Wi,Wj,Wl,Wm,Wn,Wo,Wp,Wq,Wr,Ws,Wt,Wu,Wv,Ww,Wx,Wy,Wz,W0,W1,W2,W3,W4,W5,W6,W7,W8,Yf,Yg,Yh,Yi,Yj,Yk,Yl,Ym,Yn,Yo,Yp,Yq,Yr,Ys,Yt,Yu,Yv,Yw,Yx,Yy,Yz,Y0,Y1,Y2,Y3,Y4,Y5,Y6,Y7,Y8,Y9,Va,Vb,Vc,Vd,Ve,Vf,Vg,Vh,Vi,Vj,Vk,Vl,Vm,Vn,Vo,Vp,Vq,Vr,Vs,Vt,Vu,Vv,Vw,Vx,Vy,Vz,V0,V1,V3,V4,V5,V6,V7,V8,V9,Ua,Ub,Uc,Ud,Ue,Uf,Ul,Um,Uq,Ur,Us,Ut,Uu,Uv,Uw,Ux,Uy,Uz,U0,U1,U3,U4,U5,U6,U7,U8,U9,Ka,Kb,Kc,Kd,Ke,Kf,Kg,Kh,Ki,Kj,Kk,Kl,Km,Kn,Ko,Kq,Kr,Ks,Kt,Ga,K8,Kz]
   tactic =>
    try simp only [K2] at *
    try simp only [nc2] at *
    try simp (maxSteps := 4000000) only [S0.eq_def,Sy.eq_def,D8,isE_CloF,Gg]
    repeat' (first | with_reducible assumption | with_reducible refine And.intro ?_ ?_ | intro _ | omega | (rw [Ku]; omega))
    refine aCallB_of (bc := Hi) (l.map enc) [5] ⟨hok, by rw [List.length_map]; have := hl.1; omega⟩ ?_ (by simp) (by rw [hbp]; rfl) ?_ ?_ ?_
    · simp [rnAs, rnA, rk, Hi, Aw]
    · simp [Mg, lk, rnO, rk, Hi, Aw]
    · simp [Sp, lk, Hi, Aw]
    (sym =>
     simp [hbr,hbp,hlen,S0.eq_def,Sy.eq_def,ctx_SortH_t,ctx_SortH_c,ctx_SortH_d,ctx_SortH_b,ctx_SortH_u,ctx_SortH_w,Cl.eq_def,Gw.eq_def,Pi.eq_def,Za,Zb,Zc,Ze,Zf,Zg,Zn,Zo,Zp,Zq,Zr,Zs,Zv,Z6,Z7,Z8,Z9,Qa,Qb,Qc,Qd,Qe,Qi,Qk,Ql,Qm,Qn,Qp,Qq,Qr,Qs,Qt,Qu,Qv,Qw,Qx,Qy,Q1,Q2,Q3,Q8,Ja,Jb,Jc,Jd,Je,Jf,Jg,Jh,Ji,Jj,Jk,Jl,Jq,Jr,Jx,Jy,Xb,Xc,Xd,Xe,Xf,Xg,Xh,Xi,Xj,Xk,Xl,Xm,Xn,Xq,Xs,Xt,Xu,Xv,Xw,Xx,Xy,Xz,X0,X1,X2,X3,X4,X5,X6,X8,X9,Wa,Wd,We,Wf,Wg,Wh,Wi,Wj,Wl,Wm,Wn,Wo,Wp,Wq,Wr,Ws,Wt,Wu,Wv,Ww,Wx,Wy,Wz,W0,W1,W2,W3,W4,W5,W6,W7,W8,Yf,Yg,Yh,Yi,Yj,Yk,Yl,Ym,Yn,Yo,Yp,Yq,Yr,Ys,Yt,Yu,Yv,Yw,Yx,Yy,Yz,Y0,Y1,Y2,Y3,Y4,Y5,Y6,Y7,Y8,Y9,Va,Vb,Vc,Vd,Ve,Vf,Vg,Vh,Vi,Vj,Vk,Vl,Vm,Vn,Vo,Vp,Vq,Vr,Vs,Vt,Vu,Vv,Vw,Vx,Vy,Vz,V0,V1,V3,V4,V5,V6,V7,V8,V9,Ua,Ub,Uc,Ud,Ue,Uf,Ul,Um,Uq,Ur,Us,Ut,Uu,Uv,Uw,Ux,Uy,Uz,U0,U1,U3,U4,U5,U6,U7,U8,U9,Ka,Kb,Kc,Kd,Ke,Kf,Kg,Kh,Ki,Kj,Kk,Kl,Km,Kn,Ko,Kq,Kr,Ks,Kt,Ga,K8,Kz]
     tactic =>
      try simp only [K2] at *
      try simp only [nc2] at *
      try simp (maxSteps := 4000000) only [hbr,hbp,hlen,S0.eq_def,Sy.eq_def,Gg]
      repeat' (first | with_reducible assumption | with_reducible refine And.intro ?_ ?_ | intro _ | omega | (rw [Ku]; omega))
      · exact ⟨_, rfl, isrt_rs6 hl⟩
      · rw [hcs]))
def Hc (l : List (Sl Int)) : List (Sl Int) := Ru (slS (srt (unS l))) (slS (srt (unS l)))
theorem rs6_rw {l : List (Sl Int)} (h : Rs6 l) : Rw l := ⟨by have := h.1; show l.length ≤ _; omega, fun j => by have := h.2 j; show (l.getD j ⟨[]⟩).l.length ≤ _; omega⟩
def Gk : Con := con1 (fun (l : Sl (Sl Int)) => Rs6 l.l) (fun l => Sl.mk (Hc l.l))
noncomputable def Te : Ctx := ⟨tab, lkC [(21, Cl), (36, H0)], 60, lkB [(35, Pp)], [], false⟩
theorem ctx_LeastH'_t : Te.τ = tab := rfl
theorem ctx_LeastH'_c : Te.Γ = lkC [(21, Cl), (36, H0)] := rfl
theorem ctx_LeastH'_d : Te.dp = 60 := rfl
theorem ctx_LeastH'_b : Te.Δ = lkB [(35, Pp)] := rfl
theorem ctx_LeastH'_u : Te.cuts = [] := rfl
theorem ctx_LeastH'_w : Te.wr = false := rfl
theorem F3 : Me Try.prog (20, Gk) := by
  refine ⟨Gj Try.func20 (by kernel_rfl) rfl, ?_⟩
  have K : Hq Try.prog Te := Gq H8 G4 (by
    intro p hp
    simp only [List.mem_cons, List.not_mem_nil, or_false] at hp
    rcases hp with rfl | rfl
    · exact good_SortH
    · exact good_deleteFuncSS) (by
    intro p hp
    simp only [List.mem_cons, List.not_mem_nil, or_false] at hp
    rcases hp with rfl
    · exact goodb_cloneSS)
  obtain ⟨c, hc⟩ : ∃ c, Try.f20.body = some c := ⟨_, rfl⟩
  refine Gu K Try.func20 hc [.tmp 2] rfl 12 rfl (fun cvs hpre => ?_)
  change Gk.pre cvs at hpre
  unfold Gk at hpre
  obtain ⟨⟨l⟩, rfl, hl⟩ := Ct hpre
  simp only at hl
  clear hpre
  have hs6 := srt_rs6 hl
  have hdef : Hc l = Ru (slS (srt (unS l))) (slS (srt (unS l))) := rfl
  obtain ⟨S, hS⟩ : ∃ S, slS (srt (unS l)) = S := ⟨_, rfl⟩
  rw [hS] at hs6 hdef
  have hbr : Pp.res S = enc (Sl.mk S) := rfl
  have hbp : Pp.post S = [.row 1 (S.map enc) 0] := rfl
  simp only [Try.f20, Option.some.injEq] at hc
  subst hc
  (sym =>
   simp [S0.eq_def,hS,hdef,ctx_LeastH'_t,ctx_LeastH'_c,ctx_LeastH'_d,ctx_LeastH'_b,ctx_LeastH'_u,ctx_LeastH'_w,Gk.eq_def,Cl.eq_def,H0.eq_def,Za,Zb,Zc,Ze,Zf,Zg,Zn,Zo,Zp,Zq,Zr,Zs,Zu,Zv,Zw,Z6,Z7,Z8,Z9,Qa,Qb,Qc,Qd,Qe,Qf,Qh,Qi,Qk,Ql,Qm,Qn,Qp,Qq,Qr,Qs,Qt,Qu,Qv,Qw,Qx,Qy,Q1,Q2,Q3,Q8,Ja,Jb,Jc,Jd,Je,Jf,Jg,Jh,Ji,Jj,Jk,Jl,Jq,Jr,Jx,Jy,Xb,Xc,Xd,Xe,Xf,Xg,Xh,Xi,Xj,Xk,Xl,Xm,Xn,Xq,Xr,Xs,Xt,Xu,Xv,Xw,Xx,Xy,Xz,X0,X1,X2,X3,X4,X5,X6,X8,X9,Wa,Wd,We,Wf,Wg,Wh,Wi,Wj,Wl,Wm,Wn,Wo,Wp,Wq,Wr,Ws,Wt,Wu,Wv,Ww,Wx,Wy,Wz,W0,W1,W2,W3,W4,W5,W6,W7,W8,Yf,Yg,Yh,Yi,Yj,Yk,Yl,Ym,Yn,Yo,Yp,Yq,Yr,Ys,Yt,Yu,Yv,Yw,Yx,Yy,Yz,Y0,Y1,Y2,Y3,Y4,Y5,Y6,Y7,Y8,Y9,Va,Vb,Vc,Vd,Ve,Vf,Vg,Vh,Vi,Vj,Vk,Vl,Vm,Vn,Vo,Vp,Vq,Vr,Vs,Vt,Vu,Vv,Vw,Vx,Vy,Vz,V0,V1,V3,V4,V5,V6,V7,V8,V9,Ua,Ub,Uc,Ud,Ue,Uf,Ug,Uh,Ui,Uj,Uk,Ul,Um,Uq,Ur,Us,Ut,Uu,Uv,Uw,Ux,Uy,Uz,U0,U1,U3,U4,U5,U6,U7,U8,U9,Ka,Kb,Kc,Kd,Ke,Kf,Kg,Kh,Ki,Kj,Kk,Kl,Km,Kn,Ko,Kq,Kr,Ks,Kt,Ga,K8,Kz]
   tactic =>
    try simp only [K2] at *
    try simp only [nc2] at *
    try simp (maxSteps := 4000000) only [S0.eq_def,hS,hdef,Gg]
    repeat' (first | with_reducible assumption | with_reducible refine And.intro ?_ ?_ | intro _ | omega | (rw [Ku]; omega))
    refine aCallB_of (bc := Pp) S [6] (by have := hs6.1; show S.length ≤ 1000000000; omega) ?_ (by simp) (by rw [hbp]; rfl) ?_ ?_ ?_
    · simp [rnAs, rnA, rk, Pp]
    · simp [Mg, lk, rnO, rk, Pp]
    · simp [Sp, lk, Pp]
    (sym =>
     simp [hbr,hbp,hdef,H9,dec_LeastF,LeastF_s,S0.eq_def,ctx_LeastH'_t,ctx_LeastH'_c,ctx_LeastH'_d,ctx_LeastH'_b,ctx_LeastH'_u,ctx_LeastH'_w,Gk.eq_def,Cl.eq_def,H0.eq_def,Za,Zb,Zc,Ze,Zf,Zg,Zn,Zo,Zp,Zq,Zr,Zs,Zu,Zv,Zw,Z6,Z7,Z8,Z9,Qa,Qb,Qc,Qd,Qe,Qf,Qh,Qi,Qk,Ql,Qm,Qn,Qp,Qq,Qr,Qs,Qt,Qu,Qv,Qw,Qx,Qy,Q1,Q2,Q3,Q8,Ja,Jb,Jc,Jd,Je,Jf,Jg,Jh,Ji,Jj,Jk,Jl,Jq,Jr,Jx,Jy,Xb,Xc,Xd,Xe,Xf,Xg,Xh,Xi,Xj,Xk,Xl,Xm,Xn,Xq,Xr,Xs,Xt,Xu,Xv,Xw,Xx,Xy,Xz,X0,X1,X2,X3,X4,X5,X6,X8,X9,Wa,Wd,We,Wf,Wg,Wh,Wi,Wj,Wl,Wm,Wn,Wo,Wp,Wq,Wr,Ws,Wt,Wu,Wv,Ww,Wx,Wy,Wz,W0,W1,W2,W3,W4,W5,W6,W7,W8,Yf,Yg,Yh,Yi,Yj,Yk,Yl,Ym,Yn,Yo,Yp,Yq,Yr,Ys,Yt,Yu,Yv,Yw,Yx,Yy,Yz,Y0,Y1,Y2,Y3,Y4,Y5,Y6,Y7,Y8,Y9,Va,Vb,Vc,Vd,Ve,Vf,Vg,Vh,Vi,Vj,Vk,Vl,Vm,Vn,Vo,Vp,Vq,Vr,Vs,Vt,Vu,Vv,Vw,Vx,Vy,Vz,V0,V1,V3,V4,V5,V6,V7,V8,V9,Ua,Ub,Uc,Ud,Ue,Uf,Ug,Uh,Ui,Uj,Uk,Ul,Um,Uq,Ur,Us,Ut,Uu,Uv,Uw,Ux,Uy,Uz,U0,U1,U3,U4,U5,U6,U7,U8,U9,Ka,Kb,Kc,Kd,Ke,Kf,Kg,Kh,Ki,Kj,Kk,Kl,Km,Kn,Ko,Kq,Kr,Ks,Kt,Ga,K8,Kz]
     tactic =>
      try simp only [K2] at *
      try simp only [nc2] at *
      try simp (maxSteps := 4000000) only [hbr,hbp,hdef,H9,dec_LeastF,LeastF_s,S0.eq_def,Gg]
      repeat' (first | with_reducible assumption | with_reducible refine And.intro ?_ ?_ | intro _ | omega | (rw [Ku]; omega))
      all_goals first
        | exact ⟨S, S, rfl, rfl, hs6, rs6_rw hs6⟩
        | rfl
        | skip))
def He : Con := con1 (fun (l : Sl (Sl Int)) => Rs6 l.l) (fun l => Sl.mk (slS (srt (unS l.l))))
noncomputable def Dd : Ctx := ⟨tab, lkC [(40, Pi), (45, Gw)], 60, lkB [(43, Hi)], [], false⟩
theorem ctx_SortH'_t : Dd.τ = tab := rfl
theorem ctx_SortH'_c : Dd.Γ = lkC [(40, Pi), (45, Gw)] := rfl
theorem ctx_SortH'_d : Dd.dp = 60 := rfl
theorem ctx_SortH'_b : Dd.Δ = lkB [(43, Hi)] := rfl
theorem ctx_SortH'_u : Dd.cuts = [] := rfl
theorem ctx_SortH'_w : Dd.wr = false := rfl
theorem good_SortH' : Me Try.prog (21, He) := by
  refine ⟨Gj Try.func21 (by kernel_rfl) rfl, ?_⟩
  have K : Hq Try.prog Dd := Gq H8 G4 (by
    intro p hp
    simp only [List.mem_cons, List.not_mem_nil, or_false] at hp
    rcases hp with rfl | rfl
    · exact good_madeH
    · exact Rx) (by
    intro p hp
    simp only [List.mem_cons, List.not_mem_nil, or_false] at hp
    rcases hp with rfl
    · exact Ig)
  obtain ⟨c, hc⟩ : ∃ c, Try.f21.body = some c := ⟨_, rfl⟩
  refine Gu K Try.func21 hc [.tmp 2] rfl 10 rfl (fun cvs hpre => ?_)
  change He.pre cvs at hpre
  unfold He at hpre
  obtain ⟨⟨l⟩, rfl, hl⟩ := Ct hpre
  simp only at hl
  clear hpre
  have hok : ∀ x ∈ l.map (enc : Sl Int → D), okS x := by
    intro x hx
    obtain ⟨a, ha, rfl⟩ := List.mem_map.1 hx
    obtain ⟨i, hi, rfl⟩ := List.getElem_of_mem ha
    refine ⟨l[i].l, rfl, ?_⟩
    have := hl.2 i
    rw [List.getD_eq_getElem?_getD, List.getElem?_eq_getElem hi] at this
    exact this
  have hcs := comp_srt l
  have hbr : Hi.res (l.map enc) = .tup [] := rfl
  have hbp : Hi.post (l.map enc) = [.row 1 ((slS (Ic (unS l))).map enc) 0] := by
    show [Obj.row 1 (srtS (l.map enc)) 0] = _
    rw [srtS_eq]
  have hlen : (slS (Ic (unS l))).length = l.length := by rw [slS_len, (Ib _).length_eq]; unfold unS; rw [List.length_map]
  simp only [Try.f21, Option.some.injEq] at hc
  subst hc
  (sym =>
   simp [S0.eq_def,Sy.eq_def,D8,isE_CloF,ctx_SortH'_t,ctx_SortH'_c,ctx_SortH'_d,ctx_SortH'_b,ctx_SortH'_u,ctx_SortH'_w,He.eq_def,Gw.eq_def,Pi.eq_def,Za,Zb,Zc,Ze,Zf,Zg,Zn,Zo,Zp,Zq,Zr,Zs,Zv,Z6,Z7,Z8,Z9,Qa,Qb,Qc,Qd,Qe,Qi,Qk,Ql,Qm,Qn,Qp,Qq,Qr,Qs,Qt,Qu,Qv,Qw,Qx,Qy,Q1,Q2,Q3,Q8,Ja,Jb,Jc,Jd,Je,Jf,Jg,Jh,Ji,Jj,Jk,Jl,Jq,Jr,Jx,Jy,Xb,Xc,Xd,Xe,Xf,Xg,Xh,Xi,Xj,Xk,Xl,Xm,Xn,Xq,Xs,Xt,Xu,Xv,Xw,Xx,Xy,Xz,X0,X1,X2,X3,X4,X5,X6,X8,X9,Wa,Wd,We,Wf,Wg,Wh,Wi,Wj,Wl,Wm,Wn,Wo,Wp,Wq,Wr,Ws,Wt,Wu,Wv,Ww,Wx,Wy,Wz,W0,W1,W2,W3,W4,W5,W6,W7,W8,Yf,Yg,Yh,Yi,Yj,Yk,Yl,Ym,Yn,Yo,Yp,Yq,Yr,Ys,Yt,Yu,Yv,Yw,Yx,Yy,Yz,Y0,Y1,Y2,Y3,Y4,Y5,Y6,Y7,Y8,Y9,Va,Vb,Vc,Vd,Ve,Vf,Vg,Vh,Vi,Vj,Vk,Vl,Vm,Vn,Vo,Vp,Vq,Vr,Vs,Vt,Vu,Vv,Vw,Vx,Vy,Vz,V0,V1,V3,V4,V5,V6,V7,V8,V9,Ua,Ub,Uc,Ud,Ue,Uf,Ul,Um,Uq,Ur,Us,Ut,Uu,Uv,Uw,Ux,Uy,Uz,U0,U1,U3,U4,U5,U6,U7,U8,U9,Ka,Kb,Kc,Kd,Ke,Kf,Kg,Kh,Ki,Kj,Kk,Kl,Km,Kn,Ko,Kq,Kr,Ks,Kt,Ga,K8,Kz]
   tactic =>
    try simp only [K2] at *
    try simp only [nc2] at *
    try simp (maxSteps := 4000000) only [S0.eq_def,Sy.eq_def,D8,isE_CloF,Gg]
    repeat' (first | with_reducible assumption | with_reducible refine And.intro ?_ ?_ | intro _ | omega | (rw [Ku]; omega))
    refine aCallB_of (bc := Hi) (l.map enc) [5] ⟨hok, by rw [List.length_map]; have := hl.1; omega⟩ ?_ (by simp) (by rw [hbp]; rfl) ?_ ?_ ?_
    · simp [rnAs, rnA, rk, Hi, Aw]
    · simp [Mg, lk, rnO, rk, Hi, Aw]
    · simp [Sp, lk, Hi, Aw]
    (sym =>
     simp [hbr,hbp,hlen,S0.eq_def,Sy.eq_def,ctx_SortH'_t,ctx_SortH'_c,ctx_SortH'_d,ctx_SortH'_b,ctx_SortH'_u,ctx_SortH'_w,He.eq_def,Gw.eq_def,Pi.eq_def,Za,Zb,Zc,Ze,Zf,Zg,Zn,Zo,Zp,Zq,Zr,Zs,Zv,Z6,Z7,Z8,Z9,Qa,Qb,Qc,Qd,Qe,Qi,Qk,Ql,Qm,Qn,Qp,Qq,Qr,Qs,Qt,Qu,Qv,Qw,Qx,Qy,Q1,Q2,Q3,Q8,Ja,Jb,Jc,Jd,Je,Jf,Jg,Jh,Ji,Jj,Jk,Jl,Jq,Jr,Jx,Jy,Xb,Xc,Xd,Xe,Xf,Xg,Xh,Xi,Xj,Xk,Xl,Xm,Xn,Xq,Xs,Xt,Xu,Xv,Xw,Xx,Xy,Xz,X0,X1,X2,X3,X4,X5,X6,X8,X9,Wa,Wd,We,Wf,Wg,Wh,Wi,Wj,Wl,Wm,Wn,Wo,Wp,Wq,Wr,Ws,Wt,Wu,Wv,Ww,Wx,Wy,Wz,W0,W1,W2,W3,W4,W5,W6,W7,W8,Yf,Yg,Yh,Yi,Yj,Yk,Yl,Ym,Yn,Yo,Yp,Yq,Yr,Ys,Yt,Yu,Yv,Yw,Yx,Yy,Yz,Y0,Y1,Y2,Y3,Y4,Y5,Y6,Y7,Y8,Y9,Va,Vb,Vc,Vd,Ve,Vf,Vg,Vh,Vi,Vj,Vk,Vl,Vm,Vn,Vo,Vp,Vq,Vr,Vs,Vt,Vu,Vv,Vw,Vx,Vy,Vz,V0,V1,V3,V4,V5,V6,V7,V8,V9,Ua,Ub,Uc,Ud,Ue,Uf,Ul,Um,Uq,Ur,Us,Ut,Uu,Uv,Uw,Ux,Uy,Uz,U0,U1,U3,U4,U5,U6,U7,U8,U9,Ka,Kb,Kc,Kd,Ke,Kf,Kg,Kh,Ki,Kj,Kk,Kl,Km,Kn,Ko,Kq,Kr,Ks,Kt,Ga,K8,Kz]
     tactic =>
      try simp only [K2] at *
      try simp only [nc2] at *
      try simp (maxSteps := 4000000) only [hbr,hbp,hlen,S0.eq_def,Sy.eq_def,Gg]
      repeat' (first | with_reducible assumption | with_reducible refine And.intro ?_ ?_ | intro _ | omega | (rw [Ku]; omega))
      all_goals first
        | exact ⟨_, rfl, isrt_rs6 hl⟩
        | rw [hcs]
        | (rw [hcs]; rfl)
        | skip))
end Go.Am.Hit
set_option linter.unusedSimpArgs false
set_option linter.unusedVariables false
set_option maxHeartbeats 4000000
namespace Go.Am.Hit
open Go.Proofs
open Enc (enc dec)
def Rn (s t : List Int) : List (Sl Int) := cond (Cq s t) [⟨t⟩] (s.map fun n => ⟨Pe t n⟩)
def Bb (s : List Int) (o : List (Sl Int)) : List (Sl Int) := o.flatMap fun t => Rn s t.l
def Ft (l : List (Sl Int)) (k : Nat) : List (Sl Int) := ((Hc l).take k).foldl (fun o s => Hc (Bb s.l o)) [⟨[]⟩]
theorem outsL_zero (l : List (Sl Int)) : Ft l 0 = [⟨[]⟩] := rfl
theorem outsL_succ {l : List (Sl Int)} {k : Nat} (h : k < (Hc l).length) : Ft l (k + 1) = Hc (Bb ((Hc l).getD k ⟨[]⟩).l (Ft l k)) := by
  unfold Ft
  rw [List.take_succ_eq_append_getElem h, List.foldl_append]
  simp [h]
theorem nextL_take {s : List Int} {o : List (Sl Int)} {j : Nat} (h : j < o.length) : Bb s (o.take (j + 1)) = Bb s (o.take j) ++ Rn s (o.getD j ⟨[]⟩).l := by
  unfold Bb
  rw [List.take_succ_eq_append_getElem h, List.flatMap_append]
  simp [h]
def OkO (o : List (Sl Int)) : Prop := o.length ≤ 2000 ∧ ∀ j, (o.getD j ⟨[]⟩).l.length ≤ 2000 ∧ Hf (o.getD j ⟨[]⟩).l
def OkA (l : List (Sl Int)) : Prop := Rs6 l ∧ (∀ j, ((Hc l).getD j ⟨[]⟩).l.length ≤ 400) ∧ (Hc l).length ≤ 1000000 ∧ ∀ k, k ≤ (Hc l).length → OkO (Ft l k)
theorem stepT_len {s t : List Int} (hs : s.length ≤ 400) : (Rn s t).length ≤ 400 := by
  unfold Rn
  cases Cq s t with
  | true => simp
  | false => simp; exact hs
theorem nextL_len {s : List Int} (hs : s.length ≤ 400) : ∀ (o : List (Sl Int)), (Bb s o).length ≤ 400 * o.length
  | [] => by simp [Bb]
  | t :: o => by
    have h1 := nextL_len hs o
    have h2 := stepT_len (t := t.l) hs
    have e : Bb s (t :: o) = Rn s t.l ++ Bb s o := by unfold Bb; rw [List.flatMap_cons]
    rw [e, List.length_append, List.length_cons]
    omega
theorem mem_at {α : Type} {l : List α} {x : α} (d : α) (h : x ∈ l) : ∃ j, j < l.length ∧ l.getD j d = x := by
  obtain ⟨j, hj, rfl⟩ := List.getElem_of_mem h
  exact ⟨j, hj, by simp [hj]⟩
theorem nextL_rs6 {s : List Int} {o : List (Sl Int)} (hs : s.length ≤ 400) (ho : OkO o) : Rs6 (Bb s o) := by
  have h1 := nextL_len hs o
  refine ⟨by have := ho.1; omega, fun j => ?_⟩
  by_cases hj : j < (Bb s o).length
  · have hm : (Bb s o).getD j ⟨[]⟩ ∈ Bb s o := by
      rw [List.getD_eq_getElem?_getD, List.getElem?_eq_getElem hj]
      exact List.getElem_mem hj
    unfold Bb at hm
    obtain ⟨t, ht, hx⟩ := List.mem_flatMap.1 hm
    obtain ⟨i, hi, rfl⟩ := mem_at ⟨[]⟩ ht
    have hl := (ho.2 i).1
    have hx' : (Bb s o).getD j ⟨[]⟩ ∈ Rn s (o.getD i ⟨[]⟩).l := hx
    unfold Rn at hx'
    revert hx'
    cases Cq s (o.getD i ⟨[]⟩).l with
    | true =>
      intro hx'
      rw [cond_true, List.mem_singleton] at hx'
      rw [hx']
      show (o.getD i ⟨[]⟩).l.length ≤ _
      omega
    | false =>
      intro hx'
      rw [cond_false] at hx'
      obtain ⟨n, _, e⟩ := List.mem_map.1 hx'
      rw [← e]
      have := withB_len (o.getD i ⟨[]⟩).l n
      show (Pe (o.getD i ⟨[]⟩).l n).length ≤ _
      omega
  · rw [List.getD_eq_getElem?_getD, List.getElem?_eq_none (by omega)]
    simp
def allX (l : List (Sl Int)) (limit : Int) : Sl (Sl Int) × Int := cond (ltB (maxI limit 0) ((Ft l (Hc l).length).length : Int)) (⟨[]⟩, 11) (⟨Ft l (Hc l).length⟩, 0)
def Gr : Con := B5 (fun (l : Sl (Sl Int)) (_ : Int) => OkA l.l) (fun l limit => allX l.l limit)
noncomputable def Aa : Ctx := ⟨tab, lkC [(20, Gk), (29, H3), (30, Mz)], 60, lkB [], [], false⟩
theorem Lw : Aa.τ = tab := rfl
theorem Ly : Aa.Γ = lkC [(20, Gk), (29, H3), (30, Mz)] := rfl
theorem Lx : Aa.dp = 60 := rfl
theorem Lz : Aa.Δ = lkB [] := rfl
theorem Lv : Aa.cuts = [] := rfl
theorem Lu : Aa.wr = false := rfl
set_option maxRecDepth 100000 in
theorem Ih : Me Try.prog (12, Gr) := by
  refine ⟨Gj Try.func12 (by kernel_rfl) rfl, ?_⟩
  have K : Hq Try.prog Aa := Gq H8 G4 (by
    intro p hp
    simp only [List.mem_cons, List.not_mem_nil, or_false] at hp
    rcases hp with rfl | rfl | rfl
    · exact F3
    · exact good_meetsH
    · exact good_withH) (by simp)
  obtain ⟨c, hc⟩ : ∃ c, Try.f12.body = some c := ⟨_, rfl⟩
  refine Gu K Try.func12 hc [.tmp 4, .tmp 5] rfl 58 rfl (fun cvs hpre => ?_)
  change Gr.pre cvs at hpre
  unfold Gr at hpre
  obtain ⟨⟨l⟩, lim, rfl, hl6, hls, hlN, hoO⟩ := con2t_pre hpre
  simp only at hl6 hls hlN hoO
  clear hpre
  obtain ⟨L, hL⟩ : ∃ L, Hc l = L := ⟨_, rfl⟩
  rw [hL] at hls hlN hoO
  have hsu := fun k (h : k < L.length) => outsL_succ (l := l) (k := k) (by rw [hL]; exact h)
  rw [hL] at hsu
  obtain ⟨X, hX⟩ : ∃ X, allX l lim = X := ⟨_, rfl⟩
  simp only [Try.f12, Option.some.injEq] at hc
  subst hc
  refine Hy 3 (of_decide_eq_true (by kernel_rfl)) ?_
  (sym =>
   simp [hL,hX,Lw,Ly,Lx,Lz,Lv,Lu,Gr.eq_def,Gk.eq_def,H3.eq_def,Mz.eq_def,Za,Zb,Zc,Ze,Zf,Zg,Zn,Zo,Zp,Zq,Zr,Zs,Zv,Zx,Zz,Z0,Z1,Z2,Z3,Z6,Z7,Z8,Z9,Qa,Qb,Qc,Qd,Qe,Qi,Qj,Qk,Ql,Qm,Qn,Qp,Qv,Qw,Qy,Q1,Q2,Q3,Q4,Q5,Q6,Q7,Q8,Q9,Ja,Jb,Jc,Jd,Je,Jl,Jp,Jq,Jr,Js,Jt,Ju,Jx,Jy,Jz,J0,J1,J2,J3,J4,J5,J6,J7,J8,J9,Xa,Xb,Xc,Xd,Xe,Xf,Xg,Xh,Xi,Xj,Xk,Xl,Xm,Xn,Xo,Xp,Xq,Xs,Xt,Xu,Xv,Xw,Xx,Xy,Xz,X0,X1,X2,X3,X4,X5,X6,X7,X8,X9,Wa,Wd,We,Wf,Wg,Wh,Wi,Wj,Wl,Wm,Wn,Wo,Wp,Wq,Wr,Ws,Wt,Wu,Wv,Ww,Wx,Wy,Wz,W0,W1,W2,W3,W4,W5,W6,W7,W8,Yb,Yc,Yd,Ye,Yf,Yg,Yh,Yi,Yj,Yk,Yl,Ym,Yn,Yo,Yp,Yq,Yr,Ys,Yt,Yu,Yv,Yw,Yx,Yy,Yz,Y0,Y1,Y2,Y3,Y4,Y5,Y6,Y7,Y8,Y9,Va,Vb,Vc,Vd,Ve,Vf,Vg,Vh,Vi,Vj,Vk,Vl,Vm,Vn,Vo,Vp,Vq,Vr,Vs,Vt,Vu,Vv,Vw,Vx,Vy,Vz,V0,V1,V3,V4,V5,V6,V7,V8,V9,Ua,Ub,Uc,Ud,Ue,Uf,Ul,Um,Un,Uo,Uq,Ur,Us,Ut,Uu,Uv,Uw,Ux,Uy,Uz,U0,U1,U3,U4,U5,U6,U7,U8,U9,Ka,Kb,Kc,Kd,Ke,Kf,Kg,Kh,Ki,Kj,Kk,Kl,Km,Kn,Ko,Kq,Kr,Ks,Kt,Ga,K8,Kz]
   tactic =>
    try simp only [K2] at *
    try simp only [nc2] at *
    try simp (maxSteps := 4000000) only [hL,hX,Gg]
    repeat' (first | with_reducible assumption | with_reducible refine And.intro ?_ ?_ | intro _ | omega | (rw [Ku]; omega))
    refine aLoop_killP [6] [8, 9, 11, 13, 19, 20, 21, 22, 23, 24, 25, 26, 27, 28, 29, 30, 31, 32, 33, 34, 35, 36, 37, 38, 39, 40, 41, 42, 43, 44, 45, 46, 47, 48, 49, 50, 51] (fun q : Nat × List (Sl Int) => [(18, .d (.int .i64 q.1)), (6, .d (enc (Sl.mk q.2)))]) (fun q : Nat × List (Sl Int) => [(14, .row 1 [.list 1 []] 1)]) (fun q : Nat × List (Sl Int) => q.1 ≤ L.length ∧ Ft l q.1 = q.2) (fun q : Nat × List (Sl Int) => L.length - q.1) (0, [⟨[]⟩]) ?_ ?_ ?_
    · exact ⟨Nat.zero_le _, rfl⟩
    · ((simp only [WkP, getD_fl', getC, K5, Gb, Gs, pur, lk, upd, List.getD_cons_zero, List.getD_cons_succ, List.set_cons_zero, List.set_cons_succ, Nat.reduceDiv, Nat.reduceMod, Nat.reduceMul, Nat.reduceAdd, Nat.reduceEqDiff, if_true, if_false, reduceIte]); refine And.intro (by simp) ?_; ((try simp only [Kv, Ky, Kx, K4, upd, K5, Gb, Gs, Nat.reduceDiv, Nat.reduceMod, Nat.reduceMul, Nat.reduceAdd, Nat.reduceEqDiff, List.set_cons_zero, List.set_cons_succ, if_true, if_false, reduceIte]); (first | refine Wk.of_fl ?_ | skip); simp only [Wk, wkK, Gy, wkT, wk1, AV.kept, keptAll, wkO, lk, Kw, and_true, true_and, and_self, Nat.reduceEqDiff, Nat.reduceLeDiff, if_true, if_false, reduceIte, reduceCtorEq, Option.isSome, false_implies]; try simp [Wk, wkK, wkT, wk1, AV.kept, keptAll, wkO, lk, Kw]))
      all_goals rfl
    rintro ⟨k, o⟩ ⟨hk, ho⟩
    simp only at hk ho ⊢
    have hO := hoO k hk
    rw [ho] at hO
    rcases Gl k L.length with ⟨hlt, hlb⟩ | ⟨hlt, hlb⟩
    · have q1 := Hd (⟨[]⟩ : Sl Int) hlt
      have hs4 := hls k
      have hsk := hsu k hlt
      rw [ho] at hsk
      obtain ⟨⟨s⟩, hs⟩ : ∃ x, L.getD k ⟨[]⟩ = x := ⟨_, rfl⟩
      rw [hs] at q1 hs4 hsk
      simp only at hs4 hsk
      have hn6 := nextL_rs6 hs4 hO
      obtain ⟨hO1, hO2⟩ := hO
      (sym =>
       simp [hlb,q1,Lw,Ly,Lx,Lz,Lv,Lu,Gr.eq_def,Gk.eq_def,H3.eq_def,Mz.eq_def,Za,Zb,Zc,Ze,Zf,Zg,Zn,Zo,Zp,Zq,Zr,Zs,Zv,Zx,Zz,Z0,Z1,Z2,Z3,Z6,Z7,Z8,Z9,Qa,Qb,Qc,Qd,Qe,Qi,Qj,Qk,Ql,Qm,Qn,Qp,Qv,Qw,Qy,Q1,Q2,Q3,Q4,Q5,Q6,Q7,Q8,Q9,Ja,Jb,Jc,Jd,Je,Jl,Jp,Jq,Jr,Js,Jt,Ju,Jx,Jy,Jz,J0,J1,J2,J3,J4,J5,J6,J7,J8,J9,Xa,Xb,Xc,Xd,Xe,Xf,Xg,Xh,Xi,Xj,Xk,Xl,Xm,Xn,Xo,Xp,Xq,Xs,Xt,Xu,Xv,Xw,Xx,Xy,Xz,X0,X1,X2,X3,X4,X5,X6,X7,X8,X9,Wa,Wd,We,Wf,Wg,Wh,Wi,Wj,Wl,Wm,Wn,Wo,Wp,Wq,Wr,Ws,Wt,Wu,Wv,Ww,Wx,Wy,Wz,W0,W1,W2,W3,W4,W5,W6,W7,W8,Yb,Yc,Yd,Ye,Yf,Yg,Yh,Yi,Yj,Yk,Yl,Ym,Yn,Yo,Yp,Yq,Yr,Ys,Yt,Yu,Yv,Yw,Yx,Yy,Yz,Y0,Y1,Y2,Y3,Y4,Y5,Y6,Y7,Y8,Y9,Va,Vb,Vc,Vd,Ve,Vf,Vg,Vh,Vi,Vj,Vk,Vl,Vm,Vn,Vo,Vp,Vq,Vr,Vs,Vt,Vu,Vv,Vw,Vx,Vy,Vz,V0,V1,V3,V4,V5,V6,V7,V8,V9,Ua,Ub,Uc,Ud,Ue,Uf,Ul,Um,Un,Uo,Uq,Ur,Us,Ut,Uu,Uv,Uw,Ux,Uy,Uz,U0,U1,U3,U4,U5,U6,U7,U8,U9,Ka,Kb,Kc,Kd,Ke,Kf,Kg,Kh,Ki,Kj,Kk,Kl,Km,Kn,Ko,Kq,Kr,Ks,Kt,Ga,K8,Kz]
       tactic =>
        try simp only [K2] at *
        try simp only [nc2] at *
        try simp (maxSteps := 4000000) only [hlb,q1,Gg]
        repeat' (first | with_reducible assumption | with_reducible refine And.intro ?_ ?_ | intro _ | omega | (rw [Ku]; omega))
        refine Gi [11, 13, 25, 26, 27, 28, 29, 30, 31, 32, 33, 34, 35, 36, 37, 38, 39, 40, 41, 42, 43, 44, 45, 46, 47, 48] (fun j : Nat => [(24, .d (.int .i64 j)), (9, .sl 34 ((Bb s (o.take j)).map (enc : Sl Int → D)).length)]) (fun j : Nat => [(34, .row 1 ((Bb s (o.take j)).map enc) 0)]) (fun j : Nat => j ≤ o.length) (fun j : Nat => o.length - j) 0 ?_ ?_ ?_
        · simp
        · ((try simp only [Kv, Ky, Kx, K4, upd, K5, Gb, Gs, Nat.reduceDiv, Nat.reduceMod, Nat.reduceMul, Nat.reduceAdd, Nat.reduceEqDiff, List.set_cons_zero, List.set_cons_succ, if_true, if_false, reduceIte]); (first | refine Wk.of_fl ?_ | skip); simp only [Wk, wkK, Gy, wkT, wk1, AV.kept, keptAll, wkO, lk, Kw, and_true, true_and, and_self, Nat.reduceEqDiff, Nat.reduceLeDiff, if_true, if_false, reduceIte, reduceCtorEq, Option.isSome, false_implies]; try simp [Wk, wkK, wkT, wk1, AV.kept, keptAll, wkO, lk, Kw, Bb])
        rintro j hj
        have hnl := nextL_len hs4 (o.take j)
        have hnt : (o.take j).length ≤ 2000 := by rw [List.length_take]; omega
        obtain ⟨N, hN⟩ : ∃ N, Bb s (o.take j) = N := ⟨_, rfl⟩
        rcases Gl j o.length with ⟨hjl, hjb⟩ | ⟨hjl, hjb⟩
        · have g1 := Hd (⟨[]⟩ : Sl Int) hjl
          have hnx := nextL_take (s := s) hjl
          obtain ⟨ho3, ho4⟩ := hO2 j
          obtain ⟨⟨t⟩, ht⟩ : ∃ x, o.getD j ⟨[]⟩ = x := ⟨_, rfl⟩
          rw [ht] at g1 hnx ho3 ho4
          simp only at hnx ho3 ho4
          rw [hN] at hnl hnx ⊢
          cases hm : Cq s t with
          | true =>
            have hst : Rn s t = [⟨t⟩] := by unfold Rn; rw [hm]; rfl
            rw [hst] at hnx
            (sym =>
             simp [hlb,hjb,g1,hm,Lw,Ly,Lx,Lz,Lv,Lu,Gr.eq_def,Gk.eq_def,H3.eq_def,Mz.eq_def,Za,Zb,Zc,Ze,Zf,Zg,Zn,Zo,Zp,Zq,Zr,Zs,Zv,Zx,Zz,Z0,Z1,Z2,Z3,Z6,Z7,Z8,Z9,Qa,Qb,Qc,Qd,Qe,Qi,Qj,Qk,Ql,Qm,Qn,Qp,Qv,Qw,Qy,Q1,Q2,Q3,Q4,Q5,Q6,Q7,Q8,Q9,Ja,Jb,Jc,Jd,Je,Jl,Jp,Jq,Jr,Js,Jt,Ju,Jx,Jy,Jz,J0,J1,J2,J3,J4,J5,J6,J7,J8,J9,Xa,Xb,Xc,Xd,Xe,Xf,Xg,Xh,Xi,Xj,Xk,Xl,Xm,Xn,Xo,Xp,Xq,Xs,Xt,Xu,Xv,Xw,Xx,Xy,Xz,X0,X1,X2,X3,X4,X5,X6,X7,X8,X9,Wa,Wd,We,Wf,Wg,Wh,Wi,Wj,Wl,Wm,Wn,Wo,Wp,Wq,Wr,Ws,Wt,Wu,Wv,Ww,Wx,Wy,Wz,W0,W1,W2,W3,W4,W5,W6,W7,W8,Yb,Yc,Yd,Ye,Yf,Yg,Yh,Yi,Yj,Yk,Yl,Ym,Yn,Yo,Yp,Yq,Yr,Ys,Yt,Yu,Yv,Yw,Yx,Yy,Yz,Y0,Y1,Y2,Y3,Y4,Y5,Y6,Y7,Y8,Y9,Va,Vb,Vc,Vd,Ve,Vf,Vg,Vh,Vi,Vj,Vk,Vl,Vm,Vn,Vo,Vp,Vq,Vr,Vs,Vt,Vu,Vv,Vw,Vx,Vy,Vz,V0,V1,V3,V4,V5,V6,V7,V8,V9,Ua,Ub,Uc,Ud,Ue,Uf,Ul,Um,Un,Uo,Uq,Ur,Us,Ut,Uu,Uv,Uw,Ux,Uy,Uz,U0,U1,U3,U4,U5,U6,U7,U8,U9,Ka,Kb,Kc,Kd,Ke,Kf,Kg,Kh,Ki,Kj,Kk,Kl,Km,Kn,Ko,Kq,Kr,Ks,Kt,Ga,K8,Kz]
             tactic =>
              try simp only [K2] at *
              try simp only [nc2] at *
              try simp (maxSteps := 4000000) only [hlb,hjb,g1,hm,Gg]
              repeat' (first | with_reducible assumption | with_reducible refine And.intro ?_ ?_ | intro _ | omega | (rw [Ku]; omega))
              all_goals first
                | omega
                | exact ⟨j + 1, by simp only [hnx]; ((try simp only [Kv, Ky, Kx, K4, upd, K5, Gb, Gs, Nat.reduceDiv, Nat.reduceMod, Nat.reduceMul, Nat.reduceAdd, Nat.reduceEqDiff, List.set_cons_zero, List.set_cons_succ, if_true, if_false, reduceIte]); (first | refine Wk.of_fl ?_ | skip); simp only [Wk, wkK, Gy, wkT, wk1, AV.kept, keptAll, wkO, lk, Kw, and_true, true_and, and_self, Nat.reduceEqDiff, Nat.reduceLeDiff, if_true, if_false, reduceIte, reduceCtorEq, Option.isSome, false_implies]; try simp [Wk, wkK, wkT, wk1, AV.kept, keptAll, wkO, lk, Kw, List.map_append, List.length_append]), by omega, by omega⟩
                | skip)
          | false =>
            have hst : Rn s t = s.map fun n => ⟨Pe t n⟩ := by unfold Rn; rw [hm]; rfl
            rw [hst] at hnx
            (sym =>
             simp [hlb,hjb,g1,hm,Lw,Ly,Lx,Lz,Lv,Lu,Gr.eq_def,Gk.eq_def,H3.eq_def,Mz.eq_def,Za,Zb,Zc,Ze,Zf,Zg,Zn,Zo,Zp,Zq,Zr,Zs,Zv,Zx,Zz,Z0,Z1,Z2,Z3,Z6,Z7,Z8,Z9,Qa,Qb,Qc,Qd,Qe,Qi,Qj,Qk,Ql,Qm,Qn,Qp,Qv,Qw,Qy,Q1,Q2,Q3,Q4,Q5,Q6,Q7,Q8,Q9,Ja,Jb,Jc,Jd,Je,Jl,Jp,Jq,Jr,Js,Jt,Ju,Jx,Jy,Jz,J0,J1,J2,J3,J4,J5,J6,J7,J8,J9,Xa,Xb,Xc,Xd,Xe,Xf,Xg,Xh,Xi,Xj,Xk,Xl,Xm,Xn,Xo,Xp,Xq,Xs,Xt,Xu,Xv,Xw,Xx,Xy,Xz,X0,X1,X2,X3,X4,X5,X6,X7,X8,X9,Wa,Wd,We,Wf,Wg,Wh,Wi,Wj,Wl,Wm,Wn,Wo,Wp,Wq,Wr,Ws,Wt,Wu,Wv,Ww,Wx,Wy,Wz,W0,W1,W2,W3,W4,W5,W6,W7,W8,Yb,Yc,Yd,Ye,Yf,Yg,Yh,Yi,Yj,Yk,Yl,Ym,Yn,Yo,Yp,Yq,Yr,Ys,Yt,Yu,Yv,Yw,Yx,Yy,Yz,Y0,Y1,Y2,Y3,Y4,Y5,Y6,Y7,Y8,Y9,Va,Vb,Vc,Vd,Ve,Vf,Vg,Vh,Vi,Vj,Vk,Vl,Vm,Vn,Vo,Vp,Vq,Vr,Vs,Vt,Vu,Vv,Vw,Vx,Vy,Vz,V0,V1,V3,V4,V5,V6,V7,V8,V9,Ua,Ub,Uc,Ud,Ue,Uf,Ul,Um,Un,Uo,Uq,Ur,Us,Ut,Uu,Uv,Uw,Ux,Uy,Uz,U0,U1,U3,U4,U5,U6,U7,U8,U9,Ka,Kb,Kc,Kd,Ke,Kf,Kg,Kh,Ki,Kj,Kk,Kl,Km,Kn,Ko,Kq,Kr,Ks,Kt,Ga,K8,Kz]
             tactic =>
              try simp only [K2] at *
              try simp only [nc2] at *
              try simp (maxSteps := 4000000) only [hlb,hjb,g1,hm,Gg]
              repeat' (first | with_reducible assumption | with_reducible refine And.intro ?_ ?_ | intro _ | omega | (rw [Ku]; omega))
              refine Gi [13, 38, 39, 40, 41, 42, 43, 44, 45, 46, 47] (fun i : Nat => [(37, .d (.int .i64 i)), (9, .sl 34 ((N ++ (s.take i).map fun n => Sl.mk (Pe t n)).map (enc : Sl Int → D)).length)]) (fun i : Nat => [(34, .row 1 ((N ++ (s.take i).map fun n => Sl.mk (Pe t n)).map enc) 0)]) (fun i : Nat => i ≤ s.length) (fun i : Nat => s.length - i) 0 ?_ ?_ ?_
              · simp
              · ((try simp only [Kv, Ky, Kx, K4, upd, K5, Gb, Gs, Nat.reduceDiv, Nat.reduceMod, Nat.reduceMul, Nat.reduceAdd, Nat.reduceEqDiff, List.set_cons_zero, List.set_cons_succ, if_true, if_false, reduceIte]); (first | refine Wk.of_fl ?_ | skip); simp only [Wk, wkK, Gy, wkT, wk1, AV.kept, keptAll, wkO, lk, Kw, and_true, true_and, and_self, Nat.reduceEqDiff, Nat.reduceLeDiff, if_true, if_false, reduceIte, reduceCtorEq, Option.isSome, false_implies]; try simp [Wk, wkK, wkT, wk1, AV.kept, keptAll, wkO, lk, Kw])
              rintro i hi
              have hsi : ((s.take i).map fun n => Sl.mk (Pe t n)).length ≤ 400 := by rw [List.length_map, List.length_take]; omega
              have hVl : ((s.take i).map fun n => Sl.mk (Pe t n)).length = i := by rw [List.length_map, List.length_take]; omega
              rcases Gl i s.length with ⟨hil, hib⟩ | ⟨hil, hib⟩
              · have f1 := Hd (0 : Int) hil
                have hsn : (s.take (i + 1)).map (fun n => Sl.mk (Pe t n)) = (s.take i).map (fun n => Sl.mk (Pe t n)) ++ [Sl.mk (Pe t (s.getD i 0))] := by
                  rw [List.take_succ_eq_append_getElem hil, List.map_append]
                  simp [hil]
                obtain ⟨n, hn⟩ : ∃ x, s.getD i 0 = x := ⟨_, rfl⟩
                rw [hn] at f1 hsn
                obtain ⟨V, hV⟩ : ∃ V, (s.take i).map (fun n => Sl.mk (Pe t n)) = V := ⟨_, rfl⟩
                obtain ⟨V2, hV2⟩ : ∃ V, (s.take (i + 1)).map (fun n => Sl.mk (Pe t n)) = V := ⟨_, rfl⟩
                rw [hV] at hsi hsn hVl ⊢
                rw [hV2] at hsn
                (sym =>
                 simp [hlb,hjb,g1,hm,hib,f1,Lw,Ly,Lx,Lz,Lv,Lu,Gr.eq_def,Gk.eq_def,H3.eq_def,Mz.eq_def,Za,Zb,Zc,Ze,Zf,Zg,Zn,Zo,Zp,Zq,Zr,Zs,Zv,Zx,Zz,Z0,Z1,Z2,Z3,Z6,Z7,Z8,Z9,Qa,Qb,Qc,Qd,Qe,Qi,Qj,Qk,Ql,Qm,Qn,Qp,Qv,Qw,Qy,Q1,Q2,Q3,Q4,Q5,Q6,Q7,Q8,Q9,Ja,Jb,Jc,Jd,Je,Jl,Jp,Jq,Jr,Js,Jt,Ju,Jx,Jy,Jz,J0,J1,J2,J3,J4,J5,J6,J7,J8,J9,Xa,Xb,Xc,Xd,Xe,Xf,Xg,Xh,Xi,Xj,Xk,Xl,Xm,Xn,Xo,Xp,Xq,Xs,Xt,Xu,Xv,Xw,Xx,Xy,Xz,X0,X1,X2,X3,X4,X5,X6,X7,X8,X9,Wa,Wd,We,Wf,Wg,Wh,Wi,Wj,Wl,Wm,Wn,Wo,Wp,Wq,Wr,Ws,Wt,Wu,Wv,Ww,Wx,Wy,Wz,W0,W1,W2,W3,W4,W5,W6,W7,W8,Yb,Yc,Yd,Ye,Yf,Yg,Yh,Yi,Yj,Yk,Yl,Ym,Yn,Yo,Yp,Yq,Yr,Ys,Yt,Yu,Yv,Yw,Yx,Yy,Yz,Y0,Y1,Y2,Y3,Y4,Y5,Y6,Y7,Y8,Y9,Va,Vb,Vc,Vd,Ve,Vf,Vg,Vh,Vi,Vj,Vk,Vl,Vm,Vn,Vo,Vp,Vq,Vr,Vs,Vt,Vu,Vv,Vw,Vx,Vy,Vz,V0,V1,V3,V4,V5,V6,V7,V8,V9,Ua,Ub,Uc,Ud,Ue,Uf,Ul,Um,Un,Uo,Uq,Ur,Us,Ut,Uu,Uv,Uw,Ux,Uy,Uz,U0,U1,U3,U4,U5,U6,U7,U8,U9,Ka,Kb,Kc,Kd,Ke,Kf,Kg,Kh,Ki,Kj,Kk,Kl,Km,Kn,Ko,Kq,Kr,Ks,Kt,Ga,K8,Kz]
                 tactic =>
                  try simp only [K2] at *
                  try simp only [nc2] at *
                  try simp (maxSteps := 4000000) only [hlb,hjb,g1,hm,hib,f1,Gg]
                  repeat' (first | with_reducible assumption | with_reducible refine And.intro ?_ ?_ | intro _ | omega | (rw [Ku]; omega))
                  all_goals first
                    | omega
                    | assumption
                    | exact ⟨i + 1, by simp only [hV2, hsn]; ((try simp only [Kv, Ky, Kx, K4, upd, K5, Gb, Gs, Nat.reduceDiv, Nat.reduceMod, Nat.reduceMul, Nat.reduceAdd, Nat.reduceEqDiff, List.set_cons_zero, List.set_cons_succ, if_true, if_false, reduceIte]); (first | refine Wk.of_fl ?_ | skip); simp only [Wk, wkK, Gy, wkT, wk1, AV.kept, keptAll, wkO, lk, Kw, and_true, true_and, and_self, Nat.reduceEqDiff, Nat.reduceLeDiff, if_true, if_false, reduceIte, reduceCtorEq, Option.isSome, false_implies]; try simp [Wk, wkK, wkT, wk1, AV.kept, keptAll, wkO, lk, Kw, List.map_append, List.length_append, List.append_assoc, Nat.add_assoc]); omega, by omega, by omega⟩
                    | skip)
              · have hsa : s.take i = s := List.take_of_length_le hil
                rw [hsa] at hsi ⊢
                rw [← hnx] at ⊢
                (sym =>
                 simp [hlb,hjb,g1,hm,hib,Lw,Ly,Lx,Lz,Lv,Lu,Gr.eq_def,Gk.eq_def,H3.eq_def,Mz.eq_def,Za,Zb,Zc,Ze,Zf,Zg,Zn,Zo,Zp,Zq,Zr,Zs,Zv,Zx,Zz,Z0,Z1,Z2,Z3,Z6,Z7,Z8,Z9,Qa,Qb,Qc,Qd,Qe,Qi,Qj,Qk,Ql,Qm,Qn,Qp,Qv,Qw,Qy,Q1,Q2,Q3,Q4,Q5,Q6,Q7,Q8,Q9,Ja,Jb,Jc,Jd,Je,Jl,Jp,Jq,Jr,Js,Jt,Ju,Jx,Jy,Jz,J0,J1,J2,J3,J4,J5,J6,J7,J8,J9,Xa,Xb,Xc,Xd,Xe,Xf,Xg,Xh,Xi,Xj,Xk,Xl,Xm,Xn,Xo,Xp,Xq,Xs,Xt,Xu,Xv,Xw,Xx,Xy,Xz,X0,X1,X2,X3,X4,X5,X6,X7,X8,X9,Wa,Wd,We,Wf,Wg,Wh,Wi,Wj,Wl,Wm,Wn,Wo,Wp,Wq,Wr,Ws,Wt,Wu,Wv,Ww,Wx,Wy,Wz,W0,W1,W2,W3,W4,W5,W6,W7,W8,Yb,Yc,Yd,Ye,Yf,Yg,Yh,Yi,Yj,Yk,Yl,Ym,Yn,Yo,Yp,Yq,Yr,Ys,Yt,Yu,Yv,Yw,Yx,Yy,Yz,Y0,Y1,Y2,Y3,Y4,Y5,Y6,Y7,Y8,Y9,Va,Vb,Vc,Vd,Ve,Vf,Vg,Vh,Vi,Vj,Vk,Vl,Vm,Vn,Vo,Vp,Vq,Vr,Vs,Vt,Vu,Vv,Vw,Vx,Vy,Vz,V0,V1,V3,V4,V5,V6,V7,V8,V9,Ua,Ub,Uc,Ud,Ue,Uf,Ul,Um,Un,Uo,Uq,Ur,Us,Ut,Uu,Uv,Uw,Ux,Uy,Uz,U0,U1,U3,U4,U5,U6,U7,U8,U9,Ka,Kb,Kc,Kd,Ke,Kf,Kg,Kh,Ki,Kj,Kk,Kl,Km,Kn,Ko,Kq,Kr,Ks,Kt,Ga,K8,Kz]
                 tactic =>
                  try simp only [K2] at *
                  try simp only [nc2] at *
                  try simp (maxSteps := 4000000) only [hlb,hjb,g1,hm,hib,Gg]
                  repeat' (first | with_reducible assumption | with_reducible refine And.intro ?_ ?_ | intro _ | omega | (rw [Ku]; omega))
                  all_goals first
                    | omega
                    | exact ⟨j + 1, by ((try simp only [Kv, Ky, Kx, K4, upd, K5, Gb, Gs, Nat.reduceDiv, Nat.reduceMod, Nat.reduceMul, Nat.reduceAdd, Nat.reduceEqDiff, List.set_cons_zero, List.set_cons_succ, if_true, if_false, reduceIte]); (first | refine Wk.of_fl ?_ | skip); simp only [Wk, wkK, Gy, wkT, wk1, AV.kept, keptAll, wkO, lk, Kw, and_true, true_and, and_self, Nat.reduceEqDiff, Nat.reduceLeDiff, if_true, if_false, reduceIte, reduceCtorEq, Option.isSome, false_implies]; try simp [Wk, wkK, wkT, wk1, AV.kept, keptAll, wkO, lk, Kw]), by omega, by omega⟩
                    | skip))
        · have hjo : Bb s (o.take j) = Bb s o := by rw [List.take_of_length_le hjl]
          rw [hjo]
          have hlen : (Bb s o).length ≤ 1000000 := hn6.1
          (sym =>
           simp [hlb,hjb,Lw,Ly,Lx,Lz,Lv,Lu,Gr.eq_def,Gk.eq_def,H3.eq_def,Mz.eq_def,Za,Zb,Zc,Ze,Zf,Zg,Zn,Zo,Zp,Zq,Zr,Zs,Zv,Zx,Zz,Z0,Z1,Z2,Z3,Z6,Z7,Z8,Z9,Qa,Qb,Qc,Qd,Qe,Qi,Qj,Qk,Ql,Qm,Qn,Qp,Qv,Qw,Qy,Q1,Q2,Q3,Q4,Q5,Q6,Q7,Q8,Q9,Ja,Jb,Jc,Jd,Je,Jl,Jp,Jq,Jr,Js,Jt,Ju,Jx,Jy,Jz,J0,J1,J2,J3,J4,J5,J6,J7,J8,J9,Xa,Xb,Xc,Xd,Xe,Xf,Xg,Xh,Xi,Xj,Xk,Xl,Xm,Xn,Xo,Xp,Xq,Xs,Xt,Xu,Xv,Xw,Xx,Xy,Xz,X0,X1,X2,X3,X4,X5,X6,X7,X8,X9,Wa,Wd,We,Wf,Wg,Wh,Wi,Wj,Wl,Wm,Wn,Wo,Wp,Wq,Wr,Ws,Wt,Wu,Wv,Ww,Wx,Wy,Wz,W0,W1,W2,W3,W4,W5,W6,W7,W8,Yb,Yc,Yd,Ye,Yf,Yg,Yh,Yi,Yj,Yk,Yl,Ym,Yn,Yo,Yp,Yq,Yr,Ys,Yt,Yu,Yv,Yw,Yx,Yy,Yz,Y0,Y1,Y2,Y3,Y4,Y5,Y6,Y7,Y8,Y9,Va,Vb,Vc,Vd,Ve,Vf,Vg,Vh,Vi,Vj,Vk,Vl,Vm,Vn,Vo,Vp,Vq,Vr,Vs,Vt,Vu,Vv,Vw,Vx,Vy,Vz,V0,V1,V3,V4,V5,V6,V7,V8,V9,Ua,Ub,Uc,Ud,Ue,Uf,Ul,Um,Un,Uo,Uq,Ur,Us,Ut,Uu,Uv,Uw,Ux,Uy,Uz,U0,U1,U3,U4,U5,U6,U7,U8,U9,Ka,Kb,Kc,Kd,Ke,Kf,Kg,Kh,Ki,Kj,Kk,Kl,Km,Kn,Ko,Kq,Kr,Ks,Kt,Ga,K8,Kz]
           tactic =>
            try simp only [K2] at *
            try simp only [nc2] at *
            try simp (maxSteps := 4000000) only [hlb,hjb,Gg]
            repeat' (first | with_reducible assumption | with_reducible refine And.intro ?_ ?_ | intro _ | omega | (rw [Ku]; omega))
            all_goals first
              | assumption
              | omega
              | exact ⟨(k + 1, Hc (Bb s o)), by ((try simp only [Kv, Ky, Kx, K4, upd, K5, Gb, Gs, Nat.reduceDiv, Nat.reduceMod, Nat.reduceMul, Nat.reduceAdd, Nat.reduceEqDiff, List.set_cons_zero, List.set_cons_succ, if_true, if_false, reduceIte]); (first | refine Wk.of_fl ?_ | skip); simp only [Wk, wkK, Gy, wkT, wk1, AV.kept, keptAll, wkO, lk, Kw, and_true, true_and, and_self, Nat.reduceEqDiff, Nat.reduceLeDiff, if_true, if_false, reduceIte, reduceCtorEq, Option.isSome, false_implies]; try simp [Wk, wkK, wkT, wk1, AV.kept, keptAll, wkO, lk, Kw]), by simp only; omega, hsk, by simp only; omega⟩
              | skip))
    · have hkl : k = L.length := by omega
      rw [hkl] at ho
      have hXe : X = cond (ltB (maxI lim 0) (o.length : Int)) (⟨[]⟩, 11) (⟨o⟩, 0) := by
        rw [← hX]
        unfold allX
        rw [hL, ho]
      cases hz : ltB (maxI lim 0) (o.length : Int) with
      | true =>
        rw [hz, cond_true] at hXe
        subst hXe
        (sym =>
         simp [hlb,hz,Lw,Ly,Lx,Lz,Lv,Lu,Gr.eq_def,Gk.eq_def,H3.eq_def,Mz.eq_def,Za,Zb,Zc,Ze,Zf,Zg,Zn,Zo,Zp,Zq,Zr,Zs,Zv,Zx,Zz,Z0,Z1,Z2,Z3,Z6,Z7,Z8,Z9,Qa,Qb,Qc,Qd,Qe,Qi,Qj,Qk,Ql,Qm,Qn,Qp,Qv,Qw,Qy,Q1,Q2,Q3,Q4,Q5,Q6,Q7,Q8,Q9,Ja,Jb,Jc,Jd,Je,Jl,Jp,Jq,Jr,Js,Jt,Ju,Jx,Jy,Jz,J0,J1,J2,J3,J4,J5,J6,J7,J8,J9,Xa,Xb,Xc,Xd,Xe,Xf,Xg,Xh,Xi,Xj,Xk,Xl,Xm,Xn,Xo,Xp,Xq,Xs,Xt,Xu,Xv,Xw,Xx,Xy,Xz,X0,X1,X2,X3,X4,X5,X6,X7,X8,X9,Wa,Wd,We,Wf,Wg,Wh,Wi,Wj,Wl,Wm,Wn,Wo,Wp,Wq,Wr,Ws,Wt,Wu,Wv,Ww,Wx,Wy,Wz,W0,W1,W2,W3,W4,W5,W6,W7,W8,Yb,Yc,Yd,Ye,Yf,Yg,Yh,Yi,Yj,Yk,Yl,Ym,Yn,Yo,Yp,Yq,Yr,Ys,Yt,Yu,Yv,Yw,Yx,Yy,Yz,Y0,Y1,Y2,Y3,Y4,Y5,Y6,Y7,Y8,Y9,Va,Vb,Vc,Vd,Ve,Vf,Vg,Vh,Vi,Vj,Vk,Vl,Vm,Vn,Vo,Vp,Vq,Vr,Vs,Vt,Vu,Vv,Vw,Vx,Vy,Vz,V0,V1,V3,V4,V5,V6,V7,V8,V9,Ua,Ub,Uc,Ud,Ue,Uf,Ul,Um,Un,Uo,Uq,Ur,Us,Ut,Uu,Uv,Uw,Ux,Uy,Uz,U0,U1,U3,U4,U5,U6,U7,U8,U9,Ka,Kb,Kc,Kd,Ke,Kf,Kg,Kh,Ki,Kj,Kk,Kl,Km,Kn,Ko,Kq,Kr,Ks,Kt,Ga,K8,Kz]
         tactic =>
          try simp only [K2] at *
          try simp only [nc2] at *
          try simp (maxSteps := 4000000) only [hlb,hz,Gg]
          all_goals rfl)
      | false =>
        rw [hz, cond_false] at hXe
        subst hXe
        (sym =>
         simp [hlb,hz,Lw,Ly,Lx,Lz,Lv,Lu,Gr.eq_def,Gk.eq_def,H3.eq_def,Mz.eq_def,Za,Zb,Zc,Ze,Zf,Zg,Zn,Zo,Zp,Zq,Zr,Zs,Zv,Zx,Zz,Z0,Z1,Z2,Z3,Z6,Z7,Z8,Z9,Qa,Qb,Qc,Qd,Qe,Qi,Qj,Qk,Ql,Qm,Qn,Qp,Qv,Qw,Qy,Q1,Q2,Q3,Q4,Q5,Q6,Q7,Q8,Q9,Ja,Jb,Jc,Jd,Je,Jl,Jp,Jq,Jr,Js,Jt,Ju,Jx,Jy,Jz,J0,J1,J2,J3,J4,J5,J6,J7,J8,J9,Xa,Xb,Xc,Xd,Xe,Xf,Xg,Xh,Xi,Xj,Xk,Xl,Xm,Xn,Xo,Xp,Xq,Xs,Xt,Xu,Xv,Xw,Xx,Xy,Xz,X0,X1,X2,X3,X4,X5,X6,X7,X8,X9,Wa,Wd,We,Wf,Wg,Wh,Wi,Wj,Wl,Wm,Wn,Wo,Wp,Wq,Wr,Ws,Wt,Wu,Wv,Ww,Wx,Wy,Wz,W0,W1,W2,W3,W4,W5,W6,W7,W8,Yb,Yc,Yd,Ye,Yf,Yg,Yh,Yi,Yj,Yk,Yl,Ym,Yn,Yo,Yp,Yq,Yr,Ys,Yt,Yu,Yv,Yw,Yx,Yy,Yz,Y0,Y1,Y2,Y3,Y4,Y5,Y6,Y7,Y8,Y9,Va,Vb,Vc,Vd,Ve,Vf,Vg,Vh,Vi,Vj,Vk,Vl,Vm,Vn,Vo,Vp,Vq,Vr,Vs,Vt,Vu,Vv,Vw,Vx,Vy,Vz,V0,V1,V3,V4,V5,V6,V7,V8,V9,Ua,Ub,Uc,Ud,Ue,Uf,Ul,Um,Un,Uo,Uq,Ur,Us,Ut,Uu,Uv,Uw,Ux,Uy,Uz,U0,U1,U3,U4,U5,U6,U7,U8,U9,Ka,Kb,Kc,Kd,Ke,Kf,Kg,Kh,Ki,Kj,Kk,Kl,Km,Kn,Ko,Kq,Kr,Ks,Kt,Ga,K8,Kz]))
end Go.Am.Hit
set_option linter.unusedSimpArgs false
set_option linter.unusedVariables false
set_option maxHeartbeats 1000000
namespace Go.Am.Hit
open Go.Proofs
theorem D6 {l : List Int} {n : Int} : inB l n = true ↔ n ∈ l := by
  unfold inB
  rw [List.any_eq_true]
  constructor
  · rintro ⟨x, hx, h⟩
    rw [beq_iff_eq] at h
    exact h ▸ hx
  · intro h
    exact ⟨n, h, beq_self_eq_true n⟩
theorem inB_not {l : List Int} {n : Int} : inB l n = false ↔ n ∉ l := by rw [← Bool.not_eq_true, D6]
theorem Rq {l : List Int} : Ox l = true ↔ Hf l := by
  unfold Ox Hf
  rw [List.all_eq_true, List.pairwise_iff_getElem]
  constructor
  · intro h
    have step : ∀ j, j + 1 < l.length → l.getD j 0 < l.getD (j + 1) 0 := by
      intro j hj
      have := h (j + 1) (List.mem_range.2 hj)
      rw [Bool.or_eq_true] at this
      rcases this with h1 | h1
      · rw [beq_iff_eq] at h1; omega
      · rw [Bool.not_eq_true', Dr, Nat.add_sub_cancel] at h1; exact h1
    have mono : ∀ d i, i + d + 1 < l.length → l.getD i 0 < l.getD (i + d + 1) 0 := by
      intro d
      induction d with
      | zero => intro i hi; exact step i hi
      | succ d ih =>
        intro i hi
        have h1 := ih i (by omega)
        have h2 := step (i + d + 1) (by omega)
        rw [show i + (d + 1) + 1 = i + d + 1 + 1 by omega]
        omega
    intro i j hi hj hij
    have := mono (j - i - 1) i (by omega)
    rw [show i + (j - i - 1) + 1 = j by omega] at this
    simpa [hi, hj] using this
  · intro h j hj
    rw [List.mem_range] at hj
    rw [Bool.or_eq_true]
    by_cases h0 : j = 0
    · exact .inl (by simp [h0])
    · refine .inr ?_
      rw [Bool.not_eq_true', Dr]
      have := h (j - 1) j (by omega) hj (by omega)
      simpa [hj, show j - 1 < l.length by omega] using this
theorem Sk {s t : List Int} : Sq s t = true ↔ ∀ x ∈ s, x ∈ t := by
  unfold Sq
  rw [List.all_eq_true]
  exact ⟨fun h x hx => D6.1 (h x hx), fun h x hx => D6.2 (h x hx)⟩
theorem Iu {l : List Int} (h : Hf l) : l.Nodup := List.Pairwise.imp (fun h => by omega) h
theorem nodup_le : ∀ {a b : List Int}, a.Nodup → (∀ x ∈ a, x ∈ b) → a.length ≤ b.length
  | [], _, _, _ => Nat.zero_le _
  | x :: a, b, hn, h => by
    rw [List.nodup_cons] at hn
    have hx := h x (List.mem_cons_self ..)
    have := nodup_le (a := a) (b := b.erase x) hn.2 (fun y hy => by
      have hne : y ≠ x := fun e => hn.1 (e ▸ hy)
      exact (List.mem_erase_of_ne hne).2 (h y (List.mem_cons_of_mem _ hy)))
    rw [List.length_erase_of_mem hx] at this
    have hp : 0 < b.length := List.length_pos_of_mem hx
    rw [List.length_cons]
    omega
theorem S1 : ∀ {a b : List Int}, Hf a → Hf b → (∀ x, x ∈ a ↔ x ∈ b) → a = b
  | [], [], _, _, _ => rfl
  | [], y :: b, _, _, h => by have := (h y).2 (List.mem_cons_self ..); cases this
  | x :: a, [], _, _, h => by have := (h x).1 (List.mem_cons_self ..); cases this
  | x :: a, y :: b, ha, hb, h => by
    unfold Hf at ha hb
    rw [List.pairwise_cons] at ha hb
    have hxy : x = y := by
      rcases List.mem_cons.1 ((h x).1 (List.mem_cons_self ..)) with e | e
      · exact e
      · rcases List.mem_cons.1 ((h y).2 (List.mem_cons_self ..)) with e' | e'
        · exact e'.symm
        · have := hb.1 x e
          have := ha.1 y e'
          omega
    subst hxy
    congr 1
    refine S1 ha.2 hb.2 fun z => ⟨fun hz => ?_, fun hz => ?_⟩
    · have hlt := ha.1 z hz
      rcases List.mem_cons.1 ((h z).1 (List.mem_cons_of_mem _ hz)) with e | e
      · omega
      · exact e
    · have hlt := hb.1 z hz
      rcases List.mem_cons.1 ((h z).2 (List.mem_cons_of_mem _ hz)) with e | e
      · omega
      · exact e
theorem sub_eq {a b : List Int} (ha : Hf a) (hb : Hf b) (h : ∀ x ∈ a, x ∈ b) (hl : b.length ≤ a.length) : a = b := by
  refine S1 ha hb fun y => ⟨h y, fun hy => ?_⟩
  apply Classical.byContradiction
  intro hn
  have := nodup_le (a := a) (b := b.erase y) (Iu ha) (fun x hx => by
    have hne : x ≠ y := fun e => hn (by rw [← e]; exact hx)
    exact (List.mem_erase_of_ne hne).2 (h x hx))
  rw [List.length_erase_of_mem hy] at this
  have hp : 0 < b.length := List.length_pos_of_mem hy
  omega
theorem Fy {s : List Int} {n x : Int} : x ∈ woB s n ↔ x ∈ s ∧ x ≠ n := by
  unfold woB
  rw [List.mem_filter, bne_iff_ne]
theorem Ro {s : List Int} {n : Int} (h : Hf s) : Hf (woB s n) := List.Pairwise.filter _ h
theorem woB_lt {s : List Int} {n : Int} (h : Hf s) (hn : n ∈ s) : (woB s n).length < s.length := by
  have := nodup_le (a := n :: woB s n) (b := s) (List.nodup_cons.2 ⟨fun hm => (Fy.1 hm).2 rfl, Iu (Ro h)⟩) (fun x hx => by
    rcases List.mem_cons.1 hx with rfl | hx
    · exact hn
    · exact (Fy.1 hx).1)
  rw [List.length_cons] at this
  omega
theorem mem_ins {n x : Int} : ∀ {s : List Int}, x ∈ ins n s ↔ x = n ∨ x ∈ s
  | [] => by simp [ins]
  | y :: s => by
    rw [ins]
    cases ltB n y with
    | true => rw [cond_true, List.mem_cons]
    | false =>
      rw [cond_false, List.mem_cons, mem_ins (s := s), List.mem_cons]
      constructor
      · rintro (h | h | h)
        · exact .inr (.inl h)
        · exact .inl h
        · exact .inr (.inr h)
      · rintro (h | h | h)
        · exact .inr (.inl h)
        · exact .inl h
        · exact .inr (.inr h)
theorem sorted_ins {n : Int} : ∀ {s : List Int}, Hf s → n ∉ s → Hf (ins n s)
  | [], _, _ => by simp [ins, Hf]
  | y :: s, h, hn => by
    have h0 := h
    unfold Hf at h
    rw [List.pairwise_cons] at h
    rw [ins]
    cases hl : ltB n y with
    | true =>
      rw [Nr] at hl
      rw [cond_true]
      unfold Hf
      rw [List.pairwise_cons]
      refine ⟨fun z hz => ?_, h0⟩
      rcases List.mem_cons.1 hz with rfl | hz
      · exact hl
      · have := h.1 z hz; omega
    | false =>
      rw [Hg] at hl
      rw [cond_false]
      unfold Hf
      rw [List.pairwise_cons]
      refine ⟨fun z hz => ?_, sorted_ins h.2 (fun hm => hn (List.mem_cons_of_mem _ hm))⟩
      rcases mem_ins.1 hz with rfl | hz
      · have : z ≠ y := fun e => hn (e ▸ List.mem_cons_self ..)
        omega
      · exact h.1 z hz
theorem Rj {s : List Int} {n x : Int} : x ∈ Pe s n ↔ x = n ∨ x ∈ s := by
  unfold Pe
  cases h : inB s n with
  | true =>
    rw [D6] at h
    rw [cond_true]
    exact ⟨.inr, fun h' => h'.elim (fun e => e ▸ h) id⟩
  | false => rw [cond_false, mem_ins]
theorem It {s : List Int} {n : Int} (h : Hf s) : Hf (Pe s n) := by
  unfold Pe
  cases hb : inB s n with
  | true => rw [cond_true]; exact h
  | false => rw [cond_false]; exact sorted_ins h (inB_not.1 hb)
theorem Rk : ∀ {a b : List Int}, Hf a → Hf b → (Cq a b = true ↔ ∃ x, x ∈ a ∧ x ∈ b)
  | [], b, _, _ => by rw [meetL_nil]; simp
  | x :: a, [], _, _ => by rw [meetL_nil2]; simp
  | x :: a, y :: b, ha, hb => by
    have ha0 := ha
    have hb0 := hb
    unfold Hf at ha hb
    rw [List.pairwise_cons] at ha hb
    rw [meetL_cons]
    cases hxy : (x == y) with
    | true =>
      rw [beq_iff_eq] at hxy
      subst hxy
      rw [cond_true]
      exact ⟨fun _ => ⟨x, List.mem_cons_self .., List.mem_cons_self ..⟩, fun _ => rfl⟩
    | false =>
      rw [beq_eq_false_iff_ne] at hxy
      rw [cond_false]
      cases hl : ltB x y with
      | true =>
        rw [Nr] at hl
        rw [cond_true, Rk ha.2 hb0]
        constructor
        · rintro ⟨z, h1, h2⟩; exact ⟨z, List.mem_cons_of_mem _ h1, h2⟩
        · rintro ⟨z, h1, h2⟩
          rcases List.mem_cons.1 h1 with rfl | h1
          · rcases List.mem_cons.1 h2 with e | h2
            · omega
            · have := hb.1 z h2; omega
          · exact ⟨z, h1, h2⟩
      | false =>
        rw [Hg] at hl
        rw [cond_false, Rk ha0 hb.2]
        constructor
        · rintro ⟨z, h1, h2⟩; exact ⟨z, h1, List.mem_cons_of_mem _ h2⟩
        · rintro ⟨z, h1, h2⟩
          rcases List.mem_cons.1 h2 with rfl | h2
          · rcases List.mem_cons.1 h1 with e | h1
            · omega
            · have := ha.1 z h1; omega
          · exact ⟨z, h1, h2⟩
termination_by a b => a.length + b.length
def Rh (T : List Int) (L : List (List Int)) : Prop := ∀ t ∈ L, ∃ x, x ∈ T ∧ x ∈ t
def Ab (L : List (List Int)) : Prop := ∀ s ∈ L, Hf s
theorem hitB_iff {s : List Int} {l : List (Sl Int)} : hitB s l = true ↔ Rh s (unS l) := by
  unfold hitB Rh unS
  rw [List.all_eq_true]
  constructor
  · intro h t ht
    obtain ⟨u, hu, rfl⟩ := List.mem_map.1 ht
    have := h u hu
    unfold anyB at this
    rw [List.any_eq_true] at this
    obtain ⟨x, hx, hx2⟩ := this
    exact ⟨x, hx, D6.1 hx2⟩
  · intro h u hu
    obtain ⟨x, h1, h2⟩ := h u.l (List.mem_map_of_mem hu)
    unfold anyB
    rw [List.any_eq_true]
    exact ⟨x, h1, D6.2 h2⟩
theorem Dt {s : List Int} {l : List (Sl Int)} (hs : Hf s) (hl : Ab (unS l)) : Du s l = true ↔ Rh s (unS l) := by
  unfold Du Rh
  rw [Bool.not_eq_true', List.any_eq_false]
  constructor
  · intro h t ht
    have hst := hl t ht
    unfold unS at ht
    obtain ⟨u, hu, rfl⟩ := List.mem_map.1 ht
    have := h u hu
    unfold Cs at this
    simp only [Bool.not_eq_true, Bool.not_eq_false'] at this
    exact (Rk hs hst).1 this
  · intro h u hu
    have hm : u.l ∈ unS l := List.mem_map_of_mem hu
    have := (Rk hs (hl u.l hm)).2 (h u.l hm)
    unfold Cs
    rw [this]
    simp
theorem hitsL_eqB {s : List Int} {l : List (Sl Int)} (hs : Hf s) (hl : Ab (unS l)) : Du s l = hitB s l := by
  rw [Bool.eq_iff_iff, Dt hs hl, hitB_iff]
theorem hits_mono {S T : List Int} {L : List (List Int)} (h : ∀ x ∈ S, x ∈ T) (hs : Rh S L) : Rh T L := fun t ht => by
  obtain ⟨x, h1, h2⟩ := hs t ht
  exact ⟨x, h x h1, h2⟩
def Tr (T : List Int) (L : List (List Int)) : Prop := Hf T ∧ Rh T L ∧ ∀ x ∈ T, ¬ Rh (woB T x) L
theorem justB_iff {s : List Int} {l : List (Sl Int)} (hs : Hf s) : Fk s l = true ↔ Tr s (unS l) := by
  unfold Fk Tr
  rw [Bool.and_eq_true, hitB_iff, List.all_eq_true]
  constructor
  · rintro ⟨h1, h2⟩
    refine ⟨hs, h1, fun x hx hh => ?_⟩
    have := h2 x hx
    rw [hitB_iff.2 hh] at this
    cases this
  · rintro ⟨_, h1, h2⟩
    refine ⟨h1, fun x hx => ?_⟩
    rw [Bool.not_eq_true', ← Bool.not_eq_true, hitB_iff]
    exact h2 x hx
theorem tr_min {T X : List Int} {L : List (List Int)} (h : Tr T L) (hX : Hf X) (hh : Rh X L) (hs : ∀ x ∈ X, x ∈ T) : X = T := by
  refine S1 hX h.1 fun y => ⟨hs y, fun hy => ?_⟩
  apply Classical.byContradiction
  intro hn
  exact h.2.2 y hy (hits_mono (fun x hx => Fy.2 ⟨hs x hx, fun e => hn (e ▸ hx)⟩) hh)
theorem tr_of {T : List Int} {L : List (List Int)} (hT : Hf T) (hh : Rh T L) (hm : ∀ X, Hf X → Rh X L → (∀ x ∈ X, x ∈ T) → X = T) : Tr T L := by
  refine ⟨hT, hh, fun x hx hw => ?_⟩
  have := hm (woB T x) (Ro hT) hw (fun y hy => (Fy.1 hy).1)
  have h2 := woB_lt hT hx
  rw [this] at h2
  omega
theorem tr_ex {L : List (List Int)} : ∀ (n : Nat) {T : List Int}, T.length ≤ n → Hf T → Rh T L → ∃ X, Tr X L ∧ ∀ x ∈ X, x ∈ T
  | n, T, hn, hT, hh => by
    by_cases hm : ∀ x ∈ T, ¬ Rh (woB T x) L
    · exact ⟨T, ⟨hT, hh, hm⟩, fun _ h => h⟩
    · have ⟨x, hx⟩ : ∃ x, x ∈ T ∧ Rh (woB T x) L := by
        apply Classical.byContradiction
        intro hc
        exact hm fun x hx hw => hc ⟨x, hx, hw⟩
      have hlt := woB_lt hT hx.1
      cases n with
      | zero => omega
      | succ n =>
        obtain ⟨X, h1, h2⟩ := tr_ex n (T := woB T x) (by omega) (Ro hT) hx.2
        exact ⟨X, h1, fun y hy => (Fy.1 (h2 y hy)).1⟩
theorem tr_in {T : List Int} {L : List (List Int)} (h : Tr T L) {x : Int} (hx : x ∈ T) : ∃ t ∈ L, x ∈ t := by
  apply Classical.byContradiction
  intro hc
  refine h.2.2 x hx fun t ht => ?_
  obtain ⟨y, h1, h2⟩ := h.2.1 t ht
  exact ⟨y, Fy.2 ⟨h1, fun e => hc ⟨t, ht, e ▸ h2⟩⟩, h2⟩
theorem Tt {x : List Int} {l : List (Sl Int)} : x ∈ unS l ↔ Sl.mk x ∈ l := by
  unfold unS
  rw [List.mem_map]
  constructor
  · rintro ⟨⟨y⟩, h, rfl⟩; exact h
  · intro h; exact ⟨_, h, rfl⟩
theorem mem_slS {x : Sl Int} {l : List (List Int)} : x ∈ slS l ↔ x.l ∈ l := by
  obtain ⟨x⟩ := x
  rw [← Tt, unS_slS]
theorem Nq {l : List (Sl Int)} {T : List Int} : T ∈ unS (Hc l) ↔ T ∈ unS l ∧ ∀ X ∈ unS l, X.length < T.length → ¬ ∀ x ∈ X, x ∈ T := by
  rw [Tt]
  unfold Hc Ru
  rw [List.mem_filter, mem_slS, Fx]
  refine and_congr Iff.rfl ?_
  unfold Mh
  rw [Bool.not_eq_true', List.any_eq_false]
  constructor
  · intro h X hX hlt hsub
    refine h ⟨X⟩ (mem_slS.2 (Fx.2 hX)) ?_
    unfold Mi
    rw [Bool.and_eq_true, Nr, Sk]
    exact ⟨by simpa using hlt, hsub⟩
  · intro h X hX hlp
    rw [mem_slS, Fx] at hX
    unfold Mi at hlp
    rw [Bool.and_eq_true, Nr, Sk] at hlp
    exact h X.l hX (by simpa using hlp.1) hlp.2
theorem least_min {l : List (Sl Int)} (hl : Ab (unS l)) {T X : List Int} (hT : T ∈ unS (Hc l)) (hX : X ∈ unS l) (h : ∀ x ∈ X, x ∈ T) : X = T := by
  obtain ⟨h1, h2⟩ := Nq.1 hT
  refine sub_eq (hl X hX) (hl T h1) h ?_
  rcases Nat.lt_or_ge X.length T.length with hlt | hge
  · exact absurd h (h2 X hX hlt)
  · exact hge
theorem least_of {l : List (Sl Int)} {T : List Int} (hT : T ∈ unS l) (h : ∀ X ∈ unS l, (∀ x ∈ X, x ∈ T) → X = T) : T ∈ unS (Hc l) :=
  Nq.2 ⟨hT, fun X hX hlt hs => by have := h X hX hs; rw [this] at hlt; omega⟩
theorem least_ex {l : List (Sl Int)} : ∀ (n : Nat) {T : List Int}, T.length ≤ n → T ∈ unS l → ∃ X, X ∈ unS (Hc l) ∧ ∀ x ∈ X, x ∈ T
  | n, T, hn, hT => by
    by_cases hm : ∀ X ∈ unS l, X.length < T.length → ¬ ∀ x ∈ X, x ∈ T
    · exact ⟨T, Nq.2 ⟨hT, hm⟩, fun _ h => h⟩
    · have ⟨X, hX, hlt, hs⟩ : ∃ X, X ∈ unS l ∧ X.length < T.length ∧ ∀ x ∈ X, x ∈ T := by
        apply Classical.byContradiction
        intro hc
        exact hm fun X hX hlt hs => hc ⟨X, hX, hlt, hs⟩
      cases n with
      | zero => omega
      | succ n =>
        obtain ⟨Y, h1, h2⟩ := least_ex n (T := X) (by omega) hX
        exact ⟨Y, h1, fun y hy => hs y (h2 y hy)⟩
theorem Iv {l : List (Sl Int)} (hl : Ab (unS l)) : Ab (unS (Hc l)) := fun s hs => hl s (Nq.1 hs).1
theorem hits_least {l : List (Sl Int)} {T : List Int} : Rh T (unS (Hc l)) ↔ Rh T (unS l) := by
  constructor
  · intro h t ht
    obtain ⟨X, h1, h2⟩ := least_ex t.length (Nat.le_refl _) ht
    obtain ⟨x, q1, q2⟩ := h X h1
    exact ⟨x, q1, h2 x q2⟩
  · exact fun h t ht => h t (Nq.1 ht).1
theorem tr_least {l : List (Sl Int)} {T : List Int} : Tr T (unS (Hc l)) ↔ Tr T (unS l) := by
  unfold Tr
  simp only [hits_least]
theorem Dl (l : List (Sl Int)) : Up (unS (Hc l)) := by
  unfold Hc Ru Up
  have := O5 (unS l)
  unfold unS at this ⊢
  rw [List.pairwise_map]
  refine List.Pairwise.filter _ ?_
  unfold slS
  rw [List.pairwise_map]
  exact this
end Go.Am.Hit
set_option linter.unusedSimpArgs false
set_option linter.unusedVariables false
set_option maxHeartbeats 1000000
namespace Go.Am.Hit
open Go.Proofs
theorem mem_nextL {s : List Int} {o : List (Sl Int)} {T : List Int} : T ∈ unS (Bb s o) ↔ ∃ t ∈ unS o, (Cq s t = true ∧ T = t) ∨ (Cq s t = false ∧ ∃ n ∈ s, T = Pe t n) := by
  rw [Tt]
  unfold Bb
  rw [List.mem_flatMap]
  constructor
  · rintro ⟨⟨t⟩, ht, hT⟩
    refine ⟨t, Tt.2 ht, ?_⟩
    change Sl.mk T ∈ Rn s t at hT
    unfold Rn at hT
    cases hm : Cq s t with
    | true =>
      rw [hm, cond_true, List.mem_singleton] at hT
      exact .inl ⟨rfl, by injection hT⟩
    | false =>
      rw [hm, cond_false, List.mem_map] at hT
      obtain ⟨n, hn, e⟩ := hT
      exact .inr ⟨rfl, n, hn, by injection e with e; exact e.symm⟩
  · rintro ⟨t, ht, h⟩
    refine ⟨⟨t⟩, Tt.1 ht, ?_⟩
    show Sl.mk T ∈ Rn s t
    unfold Rn
    rcases h with ⟨hm, rfl⟩ | ⟨hm, n, hn, rfl⟩
    · rw [hm, cond_true, List.mem_singleton]
    · rw [hm, cond_false, List.mem_map]
      exact ⟨n, hn, rfl⟩
theorem Ds {T s : List Int} {L : List (List Int)} : Rh T (L ++ [s]) ↔ Rh T L ∧ ∃ x, x ∈ T ∧ x ∈ s := by
  unfold Rh
  constructor
  · intro h
    exact ⟨fun t ht => h t (List.mem_append_left _ ht), h s (List.mem_append_right _ (List.mem_singleton.2 rfl))⟩
  · rintro ⟨h1, h2⟩ t ht
    rcases List.mem_append.1 ht with ht | ht
    · exact h1 t ht
    · rw [List.mem_singleton.1 ht]; exact h2
theorem step_tr {s : List Int} {o : List (Sl Int)} {L : List (List Int)} (hs : Hf s) (ho : ∀ T, T ∈ unS o ↔ Tr T L) (T : List Int) : T ∈ unS (Hc (Bb s o)) ↔ Tr T (L ++ [s]) := by
  have hso : Ab (unS o) := fun t ht => ((ho t).1 ht).1
  have hsn : Ab (unS (Bb s o)) := by
    intro X hX
    obtain ⟨t, ht, h⟩ := mem_nextL.1 hX
    rcases h with ⟨_, rfl⟩ | ⟨_, n, _, rfl⟩
    · exact hso _ ht
    · exact It (hso _ ht)
  have hhit : ∀ X ∈ unS (Bb s o), Rh X (L ++ [s]) := by
    intro X hX
    obtain ⟨t, ht, h⟩ := mem_nextL.1 hX
    have htr := (ho t).1 ht
    rw [Ds]
    rcases h with ⟨hm, rfl⟩ | ⟨_, n, hn, rfl⟩
    · obtain ⟨x, h1, h2⟩ := (Rk hs (hso _ ht)).1 hm
      exact ⟨htr.2.1, x, h2, h1⟩
    · exact ⟨hits_mono (fun x hx => Rj.2 (.inr hx)) htr.2.1, n, Rj.2 (.inl rfl), hn⟩
  have hall : ∀ X, Tr X (L ++ [s]) → X ∈ unS (Bb s o) := by
    intro X hX
    have h2 := Ds.1 hX.2.1
    obtain ⟨t, ht, hts⟩ := tr_ex X.length (Nat.le_refl _) hX.1 h2.1
    have hto := (ho t).2 ht
    cases hm : Cq s t with
    | true =>
      obtain ⟨x, q1, q2⟩ := (Rk hs ht.1).1 hm
      have := tr_min hX ht.1 (Ds.2 ⟨ht.2.1, x, q2, q1⟩) hts
      rw [← this]
      exact mem_nextL.2 ⟨t, hto, .inl ⟨hm, rfl⟩⟩
    | false =>
      obtain ⟨x, q1, q2⟩ := h2.2
      have := tr_min hX (It (n := x) ht.1) (Ds.2 ⟨hits_mono (fun y hy => Rj.2 (.inr hy)) ht.2.1, x, Rj.2 (.inl rfl), q2⟩) (fun y hy => by
        rcases Rj.1 hy with rfl | hy
        · exact q1
        · exact hts y hy)
      rw [← this]
      exact mem_nextL.2 ⟨t, hto, .inr ⟨hm, x, q2, rfl⟩⟩
  constructor
  · intro hT
    obtain ⟨h1, _⟩ := Nq.1 hT
    refine tr_of (hsn T h1) (hhit T h1) fun X hX hh hsub => ?_
    obtain ⟨Y, hY, hYX⟩ := tr_ex X.length (Nat.le_refl _) hX hh
    have hYT := least_min hsn hT (hall Y hY) (fun x hx => hsub x (hYX x hx))
    refine S1 hX (hsn T h1) fun x => ⟨hsub x, fun hx => hYX x (by rw [hYT]; exact hx)⟩
  · intro hT
    refine least_of (hall T hT) fun X hX hsub => ?_
    exact tr_min hT (hsn X hX) (hhit X hX) hsub
theorem tr_nil {T : List Int} : Tr T [] ↔ T = [] := by
  unfold Tr
  constructor
  · rintro ⟨_, _, h⟩
    cases T with
    | nil => rfl
    | cons x T => exact absurd (fun t ht => by cases ht) (h x (List.mem_cons_self ..))
  · rintro rfl
    exact ⟨List.Pairwise.nil, (fun t ht => by cases ht), (fun x hx => by cases hx)⟩
theorem mem_outsL {l : List (Sl Int)} (hl : Ab (unS l)) : ∀ k, k ≤ (Hc l).length → ∀ T, T ∈ unS (Ft l k) ↔ Tr T ((unS (Hc l)).take k)
  | 0, _, T => by
    rw [outsL_zero, List.take_zero, tr_nil, Tt, List.mem_singleton]
    exact ⟨fun h => by injection h, fun h => by rw [h]⟩
  | k + 1, hk, T => by
    have hlt : k < (Hc l).length := hk
    have hgd : ((Hc l).getD k ⟨[]⟩).l ∈ unS (Hc l) := by
      rw [List.getD_eq_getElem?_getD, List.getElem?_eq_getElem hlt]
      exact List.mem_map_of_mem (List.getElem_mem hlt)
    rw [outsL_succ hlt]
    have hst := step_tr (Iv hl _ hgd) (mem_outsL hl k (by omega)) T
    rw [hst]
    have hu : (unS (Hc l)).take (k + 1) = (unS (Hc l)).take k ++ [((Hc l).getD k ⟨[]⟩).l] := by
      have hlu : k < (unS (Hc l)).length := by unfold unS; rw [List.length_map]; exact hlt
      rw [List.take_succ_eq_append_getElem hlu]
      congr 2
      simp only [unS, List.getElem_map]
      simp [hlt]
    rw [hu]
def Cn (l : List (Sl Int)) : List (Sl Int) := Ft l (Hc l).length
theorem Sc {l : List (Sl Int)} (hl : Ab (unS l)) {T : List Int} : T ∈ unS (Cn l) ↔ Tr T (unS l) := by
  unfold Cn
  rw [mem_outsL hl _ (Nat.le_refl _), List.take_of_length_le (by unfold unS; rw [List.length_map]; exact Nat.le_refl _), tr_least]
theorem sets_outsL {l : List (Sl Int)} (hl : Ab (unS l)) {k : Nat} (hk : k ≤ (Hc l).length) : Ab (unS (Ft l k)) := fun T hT => ((mem_outsL hl k hk T).1 hT).1
theorem up_outsL (l : List (Sl Int)) {k : Nat} (hk : k ≤ (Hc l).length) : Up (unS (Ft l k)) := by
  cases k with
  | zero => rw [outsL_zero]; exact List.pairwise_singleton ..
  | succ k => rw [outsL_succ (by omega)]; exact Dl _
theorem up_allH (l : List (Sl Int)) : Up (unS (Cn l)) := up_outsL l (Nat.le_refl _)
theorem up_nodup {l : List (List Int)} (h : Up l) : l.Nodup := List.Pairwise.imp (fun {a b} h e => by subst e; rw [N6] at h; cases h) h
theorem nodup_len_split {α : Type} (p : α → Bool) (l : List α) : l.length = (l.filter p).length + (l.filter fun x => !p x).length := by
  induction l with
  | nil => rfl
  | cons x l ih =>
    cases h : p x <;> simp [h, ih] <;> omega
theorem count_sets : ∀ (U : List Int) (S : List (List Int)), S.Nodup → (∀ s ∈ S, Hf s ∧ ∀ x ∈ s, x ∈ U) → S.length ≤ 2 ^ U.length
  | [], S, hn, h => by
    have : ∀ s ∈ S, s = [] := fun s hs => List.eq_nil_iff_forall_not_mem.2 fun x hx => by have := (h s hs).2 x hx; cases this
    match S, hn, this with
    | [], _, _ => simp
    | [a], _, _ => simp
    | a :: b :: S, hn, this =>
      rw [List.nodup_cons] at hn
      have h1 := this a (List.mem_cons_self ..)
      have h2 := this b (List.mem_cons_of_mem _ (List.mem_cons_self ..))
      exact absurd (by rw [h1, h2]; exact List.mem_cons_self ..) hn.1
  | u :: U, S, hn, h => by
    have h1 := count_sets U (S.filter fun s => !inB s u) (hn.filter _) (fun s hs => by
      rw [List.mem_filter, Bool.not_eq_true', inB_not] at hs
      refine ⟨(h s hs.1).1, fun x hx => ?_⟩
      rcases List.mem_cons.1 ((h s hs.1).2 x hx) with rfl | hx'
      · exact absurd hx hs.2
      · exact hx')
    have h2 := count_sets U ((S.filter fun s => inB s u).map fun s => woB s u) (by
      refine List.pairwise_map.2 (List.Pairwise.imp_of_mem ?_ (hn.filter _))
      intro a b ha hb hne e
      refine hne ?_
      rw [List.mem_filter, D6] at ha hb
      refine S1 (h a ha.1).1 (h b hb.1).1 fun x => ?_
      by_cases hx : x = u
      · subst hx; exact ⟨fun _ => hb.2, fun _ => ha.2⟩
      · have q : x ∈ woB a u ↔ x ∈ woB b u := by rw [e]
        rw [Fy, Fy] at q
        exact ⟨fun hh => (q.1 ⟨hh, hx⟩).1, fun hh => (q.2 ⟨hh, hx⟩).1⟩) (fun s hs => by
      obtain ⟨a, ha, rfl⟩ := List.mem_map.1 hs
      rw [List.mem_filter, D6] at ha
      refine ⟨Ro (h a ha.1).1, fun x hx => ?_⟩
      rw [Fy] at hx
      rcases List.mem_cons.1 ((h a ha.1).2 x hx.1) with e | hx'
      · exact absurd e hx.2
      · exact hx')
    have h3 := nodup_len_split (fun s => inB s u) S
    rw [List.length_map] at h2
    rw [List.length_cons, Nat.pow_succ]
    omega
end Go.Am.Hit
set_option linter.unusedSimpArgs false
set_option linter.unusedVariables false
set_option maxHeartbeats 1000000
namespace Go.Am.Hit
open Go.Proofs
theorem mem_numsS {x : Int} : ∀ {s o : List Int}, x ∈ D4 o s ↔ x ∈ o ∨ x ∈ s
  | [], o => by simp [D4]
  | y :: s, o => by
    have ih := mem_numsS (x := x) (s := s) (o := Pe o y)
    show x ∈ D4 (Pe o y) s ↔ _
    rw [ih, Rj, List.mem_cons]
    constructor
    · rintro ((h | h) | h)
      · exact .inr (.inl h)
      · exact .inl h
      · exact .inr (.inr h)
    · rintro (h | h | h)
      · exact .inl (.inr h)
      · exact .inl (.inl h)
      · exact .inr h
theorem sorted_numsS : ∀ {s o : List Int}, Hf o → Hf (D4 o s)
  | [], o, h => h
  | y :: s, o, h => sorted_numsS (s := s) (o := Pe o y) (It h)
theorem mem_numsF {x : Int} : ∀ {l : List (Sl Int)} {o : List Int}, x ∈ l.foldl (fun o s => D4 o s.l) o ↔ x ∈ o ∨ ∃ s ∈ unS l, x ∈ s
  | [], o => by simp [unS]
  | t :: l, o => by
    have ih := mem_numsF (x := x) (l := l) (o := D4 o t.l)
    rw [List.foldl_cons, ih, mem_numsS]
    unfold unS
    rw [List.map_cons]
    constructor
    · rintro ((h | h) | ⟨s, hs, h⟩)
      · exact .inl h
      · exact .inr ⟨_, List.mem_cons_self .., h⟩
      · exact .inr ⟨s, List.mem_cons_of_mem _ hs, h⟩
    · rintro (h | ⟨s, hs, h⟩)
      · exact .inl (.inl h)
      · rcases List.mem_cons.1 hs with rfl | hs
        · exact .inl (.inr h)
        · exact .inr ⟨s, hs, h⟩
theorem sorted_numsF : ∀ {l : List (Sl Int)} {o : List Int}, Hf o → Hf (l.foldl (fun o s => D4 o s.l) o)
  | [], o, h => h
  | t :: l, o, h => by rw [List.foldl_cons]; exact sorted_numsF (sorted_numsS h)
theorem mem_numsB {x : Int} {l : List (Sl Int)} : x ∈ Bo l ↔ ∃ s ∈ unS l, x ∈ s := by
  unfold Bo
  rw [mem_numsF]
  simp
theorem sorted_numsB (l : List (Sl Int)) : Hf (Bo l) := sorted_numsF List.Pairwise.nil
theorem few_iff {l : List (Sl Int)} {m : Int} : fewB l m = true ↔ l.length ≤ 12 ∧ (∀ s ∈ unS l, (s.length : Int) ≤ m ∧ Hf s) ∧ ((Bo l).length : Int) ≤ m := by
  unfold fewB
  rw [Bool.and_eq_true, Bool.and_eq_true, Bool.not_eq_true', Hg, List.all_eq_true, D5]
  refine and_congr (by omega) (and_congr ?_ Iff.rfl)
  unfold unS
  constructor
  · intro h s hs
    obtain ⟨u, hu, rfl⟩ := List.mem_map.1 hs
    have := h u hu
    rw [Bool.and_eq_true, Bool.not_eq_true', Hg, Rq] at this
    exact this
  · intro h u hu
    rw [Bool.and_eq_true, Bool.not_eq_true', Hg, Rq]
    exact h u.l (List.mem_map_of_mem hu)
def Ov (l : List (Sl Int)) (U : List Int) : Prop := Ab (unS l) ∧ (∀ s ∈ unS l, ∀ x ∈ s, x ∈ U) ∧ U.length ≤ 10
theorem getD_cases {l : List (Sl Int)} (j : Nat) : (l.getD j ⟨[]⟩).l ∈ unS l ∨ (l.getD j ⟨[]⟩).l = [] := by
  by_cases h : j < l.length
  · refine .inl ?_
    rw [List.getD_eq_getElem?_getD, List.getElem?_eq_getElem h]
    exact List.mem_map_of_mem (List.getElem_mem h)
  · refine .inr ?_
    rw [List.getD_eq_getElem?_getD, List.getElem?_eq_none (by omega)]
    rfl
theorem ov_len {l : List (Sl Int)} {U : List Int} (h : Ov l U) {s : List Int} (hs : s ∈ unS l) : s.length ≤ 10 := Nat.le_trans (nodup_le (Iu (h.1 s hs)) (h.2.1 s hs)) h.2.2
theorem ov_at {l : List (Sl Int)} {U : List Int} (h : Ov l U) (j : Nat) : (l.getD j ⟨[]⟩).l.length ≤ 10 ∧ Hf (l.getD j ⟨[]⟩).l := by
  rcases getD_cases (l := l) j with h1 | h1
  · exact ⟨ov_len h h1, h.1 _ h1⟩
  · rw [h1]; exact ⟨Nat.zero_le _, List.Pairwise.nil⟩
theorem ov_least {l : List (Sl Int)} {U : List Int} (h : Ov l U) : Ov (Hc l) U := ⟨Iv h.1, fun s hs => h.2.1 s (Nq.1 hs).1, h.2.2⟩
theorem ov_outs {l : List (Sl Int)} {U : List Int} (h : Ov l U) {k : Nat} (hk : k ≤ (Hc l).length) : Ov (Ft l k) U := by
  refine ⟨sets_outsL h.1 hk, fun s hs x hx => ?_, h.2.2⟩
  have := (mem_outsL h.1 k hk s).1 hs
  obtain ⟨t, ht, hxt⟩ := tr_in this hx
  exact (ov_least h).2.1 t (List.mem_of_mem_take ht) x hxt
theorem ov_count {l : List (Sl Int)} {U : List Int} (h : Ov l U) (hn : Up (unS l)) : l.length ≤ 1024 := by
  have := count_sets U (unS l) (up_nodup hn) fun s hs => ⟨h.1 s hs, h.2.1 s hs⟩
  have h2 : 2 ^ U.length ≤ 2 ^ 10 := Nat.pow_le_pow_right (by decide) h.2.2
  have h3 : (2 : Nat) ^ 10 = 1024 := rfl
  have h4 : (unS l).length = l.length := by unfold unS; rw [List.length_map]
  omega
theorem ov_okA {l : List (Sl Int)} {U : List Int} (h : Ov l U) (hlen : l.length ≤ 1000000) : OkA l := by
  refine ⟨⟨hlen, fun j => by have := (ov_at h j).1; omega⟩, fun j => by have := (ov_at (ov_least h) j).1; omega, ?_, fun k hk => ⟨?_, fun j => ⟨?_, (ov_at (ov_outs h hk) j).2⟩⟩⟩
  · have := ov_count (ov_least h) (Dl l); omega
  · have := ov_count (ov_outs h hk) (up_outsL l hk); omega
  · have := (ov_at (ov_outs h hk) j).1; omega
theorem ov_few {l : List (Sl Int)} {m : Int} (hm : m ≤ 10) (h : fewB l m = true) : Ov l (Bo l) ∧ l.length ≤ 12 := by
  obtain ⟨h1, h2, h3⟩ := few_iff.1 h
  exact ⟨⟨fun s hs => (h2 s hs).2, fun s hs x hx => mem_numsB.2 ⟨s, hs, hx⟩, by omega⟩, h1⟩
theorem ov_all {l : List (Sl Int)} {U : List Int} (h : Ov l U) : Ov (Cn l) U ∧ (Cn l).length ≤ 1024 := ⟨ov_outs h (Nat.le_refl _), ov_count (ov_outs h (Nat.le_refl _)) (up_allH l)⟩
theorem allX_ok {l : List (Sl Int)} {U : List Int} (h : Ov l U) : allX l 100000 = (⟨Cn l⟩, 0) := by
  have := (ov_all h).2
  unfold allX
  have e : ltB (maxI 100000 0) ((Ft l (Hc l).length).length : Int) = false := by
    rw [Hg]
    have : (Ft l (Hc l).length).length ≤ 1024 := this
    have e2 : maxI 100000 0 = 100000 := rfl
    omega
  rw [e, cond_false]
  rfl
theorem ov_sub {l r : List (Sl Int)} {U : List Int} (h : Ov r U) (hs : ∀ s ∈ unS l, s ∈ unS r) : Ov l U := ⟨fun s q => h.1 s (hs s q), fun s q => h.2.1 s (hs s q), h.2.2⟩
end Go.Am.Hit
set_option linter.unusedSimpArgs false
set_option linter.unusedVariables false
set_option maxHeartbeats 1000000
namespace Go.Am.Hit
open Go.Proofs
theorem bit_eq (n k : Nat) : (n / 2 ^ k % 2 == 1) = n.testBit k := by
  rw [Nat.testBit_eq_decide_div_mod_eq]
  rfl
theorem mem_subU {f : List Int} {n : Nat} {x : Int} : ∀ {k : Nat}, x ∈ Cr f n k ↔ ∃ j, j < k ∧ n.testBit j = true ∧ f.getD j 0 = x
  | 0 => by simp [Cr]
  | k + 1 => by
    rw [Cr, List.mem_append, mem_subU (k := k), bit_eq]
    constructor
    · rintro (⟨j, h1, h2⟩ | h)
      · exact ⟨j, by omega, h2⟩
      · cases hb : n.testBit k with
        | true =>
          rw [hb, cond_true, List.mem_singleton] at h
          exact ⟨k, by omega, hb, h.symm⟩
        | false => rw [hb, cond_false] at h; cases h
    · rintro ⟨j, h1, h2, h3⟩
      by_cases e : j = k
      · subst e
        rw [h2, cond_true]
        exact .inr (List.mem_singleton.2 h3.symm)
      · exact .inl ⟨j, by omega, h2, h3⟩
theorem sorted_lt {f : List Int} (h : Hf f) {i j : Nat} (hij : i < j) (hj : j < f.length) : f.getD i 0 < f.getD j 0 := by
  have := List.pairwise_iff_getElem.1 h i j (by omega) hj hij
  simpa [hj, show i < f.length by omega] using this
theorem O6 {f : List Int} (h : Hf f) {n : Nat} : ∀ {k : Nat}, k ≤ f.length → Hf (Cr f n k)
  | 0, _ => List.Pairwise.nil
  | k + 1, hk => by
    have ih := O6 h (n := n) (k := k) (by omega)
    rw [Cr]
    cases n / 2 ^ k % 2 == 1 with
    | false => rw [cond_false, List.append_nil]; exact ih
    | true =>
      rw [cond_true]
      unfold Hf at ih ⊢
      rw [List.pairwise_append]
      refine ⟨ih, List.pairwise_singleton .., fun a ha b hb => ?_⟩
      rw [List.mem_singleton] at hb
      obtain ⟨j, h1, _, rfl⟩ := mem_subU.1 ha
      rw [hb]
      exact sorted_lt h h1 (by omega)
theorem sorted_inj {f : List Int} (h : Hf f) {i j : Nat} (hi : i < f.length) (hj : j < f.length) (e : f.getD i 0 = f.getD j 0) : i = j := by
  rcases Nat.lt_trichotomy i j with hl | hl | hl
  · have := sorted_lt h hl hj; omega
  · exact hl
  · have := sorted_lt h hl hi; omega
theorem subU_inj {f : List Int} (h : Hf f) {n m : Nat} (hn : n < 2 ^ f.length) (hm : m < 2 ^ f.length) (e : Cr f n f.length = Cr f m f.length) : n = m := by
  refine Nat.eq_of_testBit_eq fun j => ?_
  by_cases hj : j < f.length
  · have key : ∀ a b : Nat, Cr f a f.length = Cr f b f.length → a.testBit j = true → b.testBit j = true := by
      intro a b e ha
      have hx : f.getD j 0 ∈ Cr f b f.length := by rw [← e]; exact mem_subU.2 ⟨j, hj, ha, rfl⟩
      obtain ⟨i, h1, h2, h3⟩ := mem_subU.1 hx
      rw [← sorted_inj h h1 hj h3]
      exact h2
    rw [Bool.eq_iff_iff]
    exact ⟨key n m e, key m n e.symm⟩
  · rw [Nat.testBit_lt_two_pow (Nat.lt_of_lt_of_le hn (Nat.pow_le_pow_right (by decide) (by omega))), Nat.testBit_lt_two_pow (Nat.lt_of_lt_of_le hm (Nat.pow_le_pow_right (by decide) (by omega)))]
theorem bits_of (p : Nat → Bool) : ∀ k : Nat, ∃ n, n < 2 ^ k ∧ ∀ j, j < k → n.testBit j = p j
  | 0 => ⟨0, by simp, fun j hj => by omega⟩
  | k + 1 => by
    obtain ⟨n, hn, h⟩ := bits_of p k
    cases hp : p k with
    | false =>
      refine ⟨n, by rw [Nat.pow_succ]; omega, fun j hj => ?_⟩
      by_cases e : j = k
      · subst e; rw [hp]; exact Nat.testBit_lt_two_pow hn
      · exact h j (by omega)
    | true =>
      refine ⟨2 ^ k + n, by rw [Nat.pow_succ]; omega, fun j hj => ?_⟩
      by_cases e : j = k
      · subst e
        rw [Nat.testBit_two_pow_add_eq, Nat.testBit_lt_two_pow hn, hp]
        rfl
      · rw [Nat.testBit_two_pow_add_gt (by omega)]
        exact h j (by omega)
theorem subU_all {f T : List Int} (hf : Hf f) (hT : Hf T) (h : ∀ x ∈ T, x ∈ f) : ∃ n, n < 2 ^ f.length ∧ Cr f n f.length = T := by
  obtain ⟨n, hn, hb⟩ := bits_of (fun j => inB T (f.getD j 0)) f.length
  refine ⟨n, hn, S1 (O6 hf (Nat.le_refl _)) hT fun x => ?_⟩
  rw [mem_subU]
  constructor
  · rintro ⟨j, h1, h2, h3⟩
    rw [hb j h1, D6] at h2
    rw [← h3]
    exact h2
  · intro hx
    obtain ⟨j, hj, e⟩ := mem_at (0 : Int) (h x hx)
    exact ⟨j, hj, by rw [hb j hj, e, D6]; exact hx, e⟩
theorem mem_justT {f : List Int} {l : List (Sl Int)} {T : List Int} : ∀ {n : Nat}, T ∈ unS (Bc f l n) ↔ ∃ m, m < n ∧ T = Cr f m f.length ∧ Fk T l = true
  | 0 => by simp [Bc, unS]
  | n + 1 => by
    have ih := mem_justT (f := f) (l := l) (T := T) (n := n)
    rw [Bc]
    unfold unS at ih ⊢
    rw [List.map_append, List.mem_append, ih]
    constructor
    · rintro (⟨m, h1, h2⟩ | h)
      · exact ⟨m, by omega, h2⟩
      · cases hb : Fk (Cr f n f.length) l with
        | true =>
          rw [hb, cond_true, List.map_singleton, List.mem_singleton] at h
          exact ⟨n, by omega, h, by rw [h]; exact hb⟩
        | false => rw [hb, cond_false] at h; cases h
    · rintro ⟨m, h1, h2, h3⟩
      by_cases e : m = n
      · subst e
        rw [h2] at h3
        rw [h3, cond_true]
        exact .inr (by rw [h2]; exact List.mem_singleton.2 rfl)
      · exact .inl ⟨m, by omega, h2, h3⟩
theorem nodup_justT {f : List Int} (hf : Hf f) {l : List (Sl Int)} : ∀ {n : Nat}, n ≤ 2 ^ f.length → (unS (Bc f l n)).Nodup
  | 0, _ => by simp [Bc, unS]
  | n + 1, hn => by
    have ih := nodup_justT hf (l := l) (n := n) (by omega)
    rw [Bc]
    cases hb : Fk (Cr f n f.length) l with
    | false => rw [cond_false, List.append_nil]; exact ih
    | true =>
      rw [cond_true]
      have hx : Cr f n f.length ∉ unS (Bc f l n) := by
        intro hm
        obtain ⟨m, h1, h2, _⟩ := mem_justT.1 hm
        have := subU_inj hf (by omega) (by omega) h2
        omega
      unfold unS at ih hx ⊢
      rw [List.map_append]
      refine List.nodup_append.2 ⟨ih, by simp, fun a ha b hb e => ?_⟩
      rw [List.map_singleton, List.mem_singleton] at hb
      rw [e, hb] at ha
      exact hx ha
theorem nodup_le' {α : Type} [DecidableEq α] : ∀ {a b : List α}, a.Nodup → (∀ x ∈ a, x ∈ b) → a.length ≤ b.length
  | [], _, _, _ => Nat.zero_le _
  | x :: a, b, hn, h => by
    rw [List.nodup_cons] at hn
    have hx := h x (List.mem_cons_self ..)
    have := nodup_le' (a := a) (b := b.erase x) hn.2 (fun y hy => by
      have hne : y ≠ x := fun e => hn.1 (e ▸ hy)
      exact (List.mem_erase_of_ne hne).2 (h y (List.mem_cons_of_mem _ hy)))
    rw [List.length_erase_of_mem hx] at this
    have hp : 0 < b.length := List.length_pos_of_mem hx
    rw [List.length_cons]
    omega
theorem unS_len (l : List (Sl Int)) : (unS l).length = l.length := by unfold unS; rw [List.length_map]
theorem allX_eq {l : List (Sl Int)} (hl : Ab (unS l)) (limit : Int) : allX l limit = AllX l limit := by
  have hf := sorted_numsB l
  have hm : ∀ T, T ∈ unS (Bc (Bo l) l (2 ^ (Bo l).length)) ↔ T ∈ unS (Cn l) := by
    intro T
    rw [mem_justT, Sc hl]
    constructor
    · rintro ⟨m, h1, h2, h3⟩
      refine (justB_iff ?_).1 h3
      rw [h2]
      exact O6 hf (Nat.le_refl _)
    · intro h
      obtain ⟨n, hn, e⟩ := subU_all hf h.1 (fun x hx => mem_numsB.2 (tr_in h hx))
      exact ⟨n, hn, e.symm, (justB_iff h.1).2 h⟩
  have hs : srt (unS (Bc (Bo l) l (2 ^ (Bo l).length))) = unS (Cn l) := srt_is (up_allH l) fun z => (hm z).symm
  have hlen : (Bc (Bo l) l (2 ^ (Bo l).length)).length = (Cn l).length := by
    rw [← unS_len, ← unS_len (Cn l)]
    exact Nat.le_antisymm (nodup_le' (nodup_justT hf (Nat.le_refl _)) fun x hx => (hm x).1 hx) (nodup_le' (up_nodup (up_allH l)) fun x hx => (hm x).2 hx)
  unfold allX AllX
  rw [hs, slS_unS, hlen]
  rfl
end Go.Am.Hit
set_option linter.unusedSimpArgs false
set_option linter.unusedVariables false
set_option maxHeartbeats 1000000
namespace Go.Am.Hit
open Go.Proofs
theorem unS_inj {a b : List (Sl Int)} (h : unS a = unS b) : a = b := by rw [← slS_unS a, h, slS_unS]
theorem mem_leastL {l : List (Sl Int)} {T : List Int} : T ∈ unS (Iz l) ↔ T ∈ unS l ∧ ∀ X ∈ unS l, (∀ x ∈ X, x ∈ T) → X = T := by
  rw [Tt]
  unfold Iz
  rw [List.mem_filter, ← Tt]
  refine and_congr Iff.rfl ?_
  unfold Ad
  rw [Bool.not_eq_true', List.any_eq_false]
  constructor
  · intro h X hX hs
    have := h ⟨X⟩ (Tt.1 hX)
    rw [Bool.and_eq_true, Sk] at this
    apply Classical.byContradiction
    intro hne
    exact this ⟨hs, by simpa using hne⟩
  · rintro h ⟨X⟩ hX hc
    rw [Bool.and_eq_true, Sk] at hc
    have := h X (Tt.2 hX) hc.1
    have h2 := hc.2
    simp only at h2
    rw [this] at h2
    simp at h2
theorem least_eq {l : List (Sl Int)} (hl : Ab (unS l)) : Hc l = slS (srt (unS (Iz l))) := by
  have h : srt (unS (Iz l)) = unS (Hc l) := srt_is (Dl l) fun z => by
    rw [mem_leastL]
    exact ⟨fun hz => ⟨(Nq.1 hz).1, fun X hX hs => least_min hl hz hX hs⟩, fun hz => least_of hz.1 hz.2⟩
  rw [h, slS_unS]
theorem has_least {l : List (Sl Int)} (hl : Ab (unS l)) {X : List Int} (h : Rh X (unS (Cn l))) : ∃ s ∈ unS (Hc l), ∀ x ∈ s, x ∈ X := by
  apply Classical.byContradiction
  intro hc
  have hno : ∀ s ∈ unS l, ¬ ∀ x ∈ s, x ∈ X := by
    intro s hs hsub
    obtain ⟨t, h1, h2⟩ := least_ex s.length (Nat.le_refl _) hs
    exact hc ⟨t, h1, fun x hx => hsub x (h2 x hx)⟩
  have hC : Hf ((Bo l).filter fun x => !inB X x) := List.Pairwise.filter _ (sorted_numsB l)
  have hH : Rh ((Bo l).filter fun x => !inB X x) (unS l) := by
    intro s hs
    have ⟨x, hx, hxX⟩ : ∃ x, x ∈ s ∧ x ∉ X := by
      apply Classical.byContradiction
      intro hn
      exact hno s hs fun x hx => Classical.byContradiction fun hq => hn ⟨x, hx, hq⟩
    refine ⟨x, List.mem_filter.2 ⟨mem_numsB.2 ⟨s, hs, hx⟩, ?_⟩, hx⟩
    rw [inB_not.2 hxX]
    rfl
  obtain ⟨Y, hY, hYs⟩ := tr_ex _ (Nat.le_refl _) hC hH
  obtain ⟨y, h1, h2⟩ := h Y ((Sc hl).2 hY)
  have := (List.mem_filter.1 (hYs y h2)).2
  rw [D6.2 h1] at this
  cases this
theorem least_hits {l : List (Sl Int)} (hl : Ab (unS l)) {s : List Int} (hs : s ∈ unS l) : Rh s (unS (Cn l)) := fun X hX => by
  obtain ⟨x, h1, h2⟩ := ((Sc hl).1 hX).2.1 s hs
  exact ⟨x, h2, h1⟩
theorem sets_allH {l : List (Sl Int)} (hl : Ab (unS l)) : Ab (unS (Cn l)) := fun s hs => ((Sc hl).1 hs).1
theorem all_all {l : List (Sl Int)} (hl : Ab (unS l)) : Cn (Cn l) = Hc l := by
  refine unS_inj (up_ext (up_allH _) (Dl l) fun T => ?_)
  rw [Sc (sets_allH hl)]
  constructor
  · intro hT
    obtain ⟨s, hs, hsub⟩ := has_least hl hT.2.1
    have := tr_min hT (Iv hl s hs) (least_hits hl (Nq.1 hs).1) hsub
    rw [← this]
    exact hs
  · intro hT
    have hTl := (Nq.1 hT).1
    refine tr_of (hl T hTl) (least_hits hl hTl) fun X hX hh hsub => ?_
    obtain ⟨s, hs, hsX⟩ := has_least hl hh
    have := least_min hl hT (Nq.1 hs).1 (fun x hx => hsub x (hsX x hx))
    exact S1 hX (hl T hTl) fun x => ⟨hsub x, fun hx => hsX x (by rw [this]; exact hx)⟩
end Go.Am.Hit
set_option linter.unusedSimpArgs false
set_option linter.unusedVariables false
set_option maxHeartbeats 4000000
namespace Go.Am.Hit
open Go.Proofs
open Enc (enc dec)
def litA : List (Sl Int) := [⟨[1, 2]⟩, ⟨[2, 3]⟩]
theorem litA_ok : OkA litA := by
  have h : fewB litA 10 = true := by kernel_rfl
  exact ov_okA (ov_few (Int.le_refl _) h).1 (by show 2 ≤ 1000000; omega)
theorem litA_2 : allX litA 2 = (⟨[⟨[1, 3]⟩, ⟨[2]⟩]⟩, 0) := by kernel_rfl
theorem litA_1 : allX litA 1 = (⟨[]⟩, 11) := by kernel_rfl
theorem litA_enc : (D.list 1 [.list 1 [.int .i64 1, .int .i64 2], .list 1 [.int .i64 2, .int .i64 3]]) = enc (Sl.mk litA) := rfl
theorem litB_enc : (D.list 1 [.list 1 [.int .i64 1, .int .i64 3], .list 1 [.int .i64 2]]) = enc (Sl.mk [Sl.mk [(1 : Int), 3], Sl.mk [2]]) := rfl
theorem litC_enc : (D.list 1 [.list 1 [.int .i64 1, .int .i64 2]]) = enc (Sl.mk [Sl.mk [(1 : Int), 2]]) := rfl
theorem litD_enc : (D.list 1 [.int .i64 2]) = enc (Sl.mk [(2 : Int)]) := rfl
def K3 : Con := con0 true
noncomputable def Fc : Ctx := ⟨tab, lkC [(12, Gr), (14, Ge), (16, K6)], 60, lkB [], [], false⟩
theorem ctx_alive_t : Fc.τ = tab := rfl
theorem ctx_alive_c : Fc.Γ = lkC [(12, Gr), (14, Ge), (16, K6)] := rfl
theorem ctx_alive_d : Fc.dp = 60 := rfl
theorem ctx_alive_b : Fc.Δ = lkB [] := rfl
theorem ctx_alive_u : Fc.cuts = [] := rfl
theorem ctx_alive_w : Fc.wr = false := rfl
set_option maxRecDepth 100000 in
theorem C3 : Me Try.prog (11, K3) := by
  refine ⟨Gj Try.func11 (by kernel_rfl) rfl, ?_⟩
  have K : Hq Try.prog Fc := Gq H8 G4 (by
    intro p hp
    simp only [List.mem_cons, List.not_mem_nil, or_false] at hp
    rcases hp with rfl | rfl | rfl
    · exact Ih
    · exact Dv
    · exact E8) (by simp)
  obtain ⟨c, hc⟩ : ∃ c, Try.f11.body = some c := ⟨_, rfl⟩
  refine Gu K Try.func11 hc [.tmp 0] rfl 38 rfl (fun cvs hpre => ?_)
  change K3.pre cvs at hpre
  unfold K3 at hpre
  obtain rfl := con0_pre hpre
  have hsm : sameB [⟨[1, 3]⟩, ⟨[2]⟩] [⟨[1, 3]⟩, ⟨[2]⟩] = true := rfl
  have hh : Du [2] [⟨[1, 2]⟩] = true := rfl
  have hrw : Rw [⟨[1, 3]⟩, ⟨[2]⟩] := ⟨by show 2 ≤ _; omega, fun j => by
    have : ([(⟨[1, 3]⟩ : Sl Int), ⟨[2]⟩].getD j ⟨[]⟩).l.length ≤ 2 := by
      match j with
      | 0 => exact Nat.le_refl _
      | 1 => exact Nat.le_succ _
      | j + 2 => exact Nat.zero_le _
    show _ ≤ _
    omega⟩
  have hrw2 : Rw [⟨[1, 2]⟩] := ⟨by show 1 ≤ _; omega, fun j => by
    have : ([(⟨[1, 2]⟩ : Sl Int)].getD j ⟨[]⟩).l.length ≤ 2 := by
      match j with
      | 0 => exact Nat.le_refl _
      | j + 1 => exact Nat.zero_le _
    show _ ≤ _
    omega⟩
  have o1 := litA_ok
  simp only [Try.f11, Option.some.injEq] at hc
  subst hc
  refine Hy 2 (of_decide_eq_true (by kernel_rfl)) ?_
  (sym =>
   simp [litA_2,litA_1,litA_enc,litB_enc,litC_enc,litD_enc,hsm,hh,B5.eq_def,ctx_alive_t,ctx_alive_c,ctx_alive_d,ctx_alive_b,ctx_alive_u,ctx_alive_w,Gr.eq_def,K6.eq_def,Ge.eq_def,K3.eq_def,Za,Zb,Zc,Zd,Ze,Zf,Zg,Zn,Zo,Zp,Zq,Zr,Zs,Zt,Zv,Zz,Z5,Z6,Z7,Z8,Z9,Qa,Qb,Qc,Qd,Qe,Qi,Qk,Ql,Qm,Qn,Qp,Qv,Qw,Qy,Q1,Q2,Q3,Q4,Q5,Q6,Q7,Q8,Q9,Ja,Jb,Jc,Jd,Je,Jl,Jp,Jq,Jr,Jx,Jy,Jz,J0,J1,J2,J3,J4,J5,J6,J7,J8,J9,Xa,Xb,Xc,Xd,Xe,Xf,Xg,Xh,Xi,Xj,Xk,Xl,Xm,Xn,Xo,Xp,Xq,Xs,Xt,Xu,Xv,Xw,Xx,Xy,Xz,X0,X1,X2,X3,X4,X5,X6,X8,X9,Wa,Wd,We,Wf,Wg,Wh,Wi,Wj,Wl,Wm,Wn,Wo,Wp,Wq,Wr,Ws,Wt,Wu,Wv,Ww,Wx,Wy,Wz,W0,W1,W2,W3,W4,W5,W6,W7,W8,Yb,Yc,Yd,Yf,Yg,Yh,Yi,Yj,Yk,Yl,Ym,Yn,Yo,Yp,Yq,Yr,Ys,Yt,Yu,Yv,Yw,Yx,Yy,Yz,Y0,Y1,Y2,Y3,Y4,Y5,Y6,Y7,Y8,Y9,Va,Vb,Vc,Vd,Ve,Vf,Vg,Vh,Vi,Vj,Vk,Vl,Vm,Vn,Vo,Vp,Vq,Vr,Vs,Vt,Vu,Vv,Vw,Vx,Vy,Vz,V0,V1,V3,V4,V5,V6,V7,V8,V9,Ua,Ub,Uc,Ud,Ue,Uf,Ul,Um,Un,Uo,Uq,Ur,Us,Ut,Uu,Uv,Uw,Ux,Uy,Uz,U0,U1,U3,U4,U5,U6,U7,U8,U9,Ka,Kb,Kc,Kd,Ke,Kf,Kg,Kh,Ki,Kj,Kk,Kl,Km,Kn,Ko,Kq,Kr,Ks,Kt,Ga,K8,M0,Kz]
   tactic =>
    try simp only [K2] at *
    try simp only [nc2] at *
    try simp (maxSteps := 4000000) only [litA_2,litA_1,litA_enc,litB_enc,litC_enc,litD_enc,hsm,hh,B5.eq_def,Gg]
    repeat' (first | with_reducible assumption | with_reducible refine And.intro ?_ ?_ | intro _ | omega | (rw [Ku]; omega)))
end Go.Am.Hit
set_option linter.unusedSimpArgs false
set_option linter.unusedVariables false
set_option maxHeartbeats 4000000
namespace Go.Am.Hit
open Go.Proofs
open Enc (enc dec)
theorem ov_rw {l : List (Sl Int)} {U : List Int} (h : Ov l U) (hn : l.length ≤ 2000) : Rw l := ⟨by show l.length ≤ _; omega, fun j => by have := (ov_at h j).1; show (l.getD j ⟨[]⟩).l.length ≤ _; omega⟩
theorem ov_rs6 {l : List (Sl Int)} {U : List Int} (h : Ov l U) (hn : l.length ≤ 2000) : Rs6 l := ⟨by omega, fun j => by have := (ov_at h j).1; omega⟩
theorem B6 (l : List (Sl Int)) : sameB l l = true := by unfold sameB; exact beq_self_eq_true _
theorem beqI_self (x : Int) : (x == x) = true := beq_self_eq_true x
theorem allX_rw {l : List (Sl Int)} {U : List Int} (h : Ov l U) (limit : Int) : Rw (allX l limit).1.l := by
  unfold allX
  cases ltB (maxI limit 0) ((Ft l (Hc l).length).length : Int) with
  | true => rw [cond_true]; exact ⟨Nat.zero_le _, fun j => Nat.zero_le _⟩
  | false => rw [cond_false]; exact ov_rw (ov_all h).1 (by have := (ov_all h).2; show (Cn l).length ≤ _; omega)
def con_HitAll : Con := L3 (fun (l : Sl (Sl Int)) (_ : Int) => Rw l.l) (fun _ _ => true)
noncomputable def Dk : Ctx := ⟨tab, lkC [(10, K1), (11, K3), (12, Gr), (13, Mb), (14, Ge)], 60, lkB [], [], false⟩
theorem ctx_HitAll_t : Dk.τ = tab := rfl
theorem ctx_HitAll_c : Dk.Γ = lkC [(10, K1), (11, K3), (12, Gr), (13, Mb), (14, Ge)] := rfl
theorem ctx_HitAll_d : Dk.dp = 60 := rfl
theorem ctx_HitAll_b : Dk.Δ = lkB [] := rfl
theorem ctx_HitAll_u : Dk.cuts = [] := rfl
theorem ctx_HitAll_w : Dk.wr = false := rfl
set_option maxRecDepth 100000 in
theorem good_HitAll : Me Try.prog (3, con_HitAll) := by
  refine ⟨Gj Try.func3 (by kernel_rfl) rfl, ?_⟩
  have K : Hq Try.prog Dk := Gq H8 G4 (by
    intro p hp
    simp only [List.mem_cons, List.not_mem_nil, or_false] at hp
    rcases hp with rfl | rfl | rfl | rfl | rfl
    · exact C4
    · exact C3
    · exact Ih
    · exact good_All16
    · exact Dv) (by simp)
  obtain ⟨c, hc⟩ : ∃ c, Try.f3.body = some c := ⟨_, rfl⟩
  refine Gu K Try.func3 hc [.tmp 4] rfl 36 rfl (fun cvs hpre => ?_)
  change con_HitAll.pre cvs at hpre
  unfold con_HitAll at hpre
  obtain ⟨⟨l⟩, lim, rfl, hl⟩ := Hx hpre
  simp only at hl
  clear hpre
  cases hf : fewB l 10 with
  | false =>
    simp only [Try.f3, Option.some.injEq] at hc
    subst hc
    refine Hy 2 (of_decide_eq_true (by kernel_rfl)) ?_
    (sym =>
     simp [hf,ctx_HitAll_t,ctx_HitAll_c,ctx_HitAll_d,ctx_HitAll_b,ctx_HitAll_u,ctx_HitAll_w,Mb.eq_def,Gr.eq_def,K1.eq_def,con_HitAll.eq_def,Ge.eq_def,K3.eq_def,Za,Zb,Zc,Zd,Ze,Zf,Zg,Zn,Zo,Zp,Zq,Zr,Zs,Zt,Zv,Z5,Z6,Z7,Z8,Z9,Qa,Qb,Qc,Qd,Qe,Qi,Qk,Ql,Qm,Qn,Qp,Qv,Qw,Qy,Q1,Q2,Q3,Q8,Ja,Jb,Jc,Jd,Je,Jl,Jp,Jq,Jr,Jx,Jy,Jz,J0,J1,J2,J3,J4,J5,J6,J7,J8,Xb,Xc,Xd,Xe,Xf,Xg,Xh,Xi,Xj,Xk,Xl,Xm,Xn,Xo,Xp,Xq,Xs,Xt,Xu,Xv,Xw,Xx,Xy,Xz,X0,X1,X2,X3,X4,X5,X6,X8,X9,Wa,Wd,We,Wf,Wg,Wh,Wi,Wj,Wl,Wm,Wn,Wo,Wp,Wq,Wr,Ws,Wt,Wu,Wv,Ww,Wx,Wy,Wz,W0,W1,W2,W3,W4,W5,W6,W7,W8,Yb,Yc,Yd,Yf,Yg,Yh,Yi,Yj,Yk,Yl,Ym,Yn,Yo,Yp,Yq,Yr,Ys,Yt,Yu,Yv,Yw,Yx,Yy,Yz,Y0,Y1,Y2,Y3,Y4,Y5,Y6,Y7,Y8,Y9,Va,Vb,Vc,Vd,Ve,Vf,Vg,Vh,Vi,Vj,Vk,Vl,Vm,Vn,Vo,Vp,Vq,Vr,Vs,Vt,Vu,Vv,Vw,Vx,Vy,Vz,V0,V1,V3,V4,V5,V6,V7,V8,V9,Ua,Ub,Uc,Ud,Ue,Uf,Ul,Um,Uq,Ur,Us,Ut,Uu,Uv,Uw,Ux,Uy,Uz,U0,U1,U3,U4,U5,U6,U7,U8,U9,Ka,Kb,Kc,Kd,Ke,Kf,Kg,Kh,Ki,Kj,Kk,Kl,Km,Kn,Ko,Kq,Kr,Ks,Kt,Ga,G5,K8,M0,Kz]
     tactic =>
      try simp only [K2] at *
      try simp only [nc2] at *
      try simp (maxSteps := 4000000) only [hf,Gg]
      repeat' (first | with_reducible assumption | with_reducible refine And.intro ?_ ?_ | intro _ | omega | (rw [Ku]; omega))
      all_goals first
        | assumption
        | omega
        | rfl
        | skip)
  | true =>
    obtain ⟨hov, hlen⟩ := ov_few (Int.le_refl _) hf
    have hA := ov_okA hov (by omega)
    have hx := allX_eq hov.1 lim
    have hxr := allX_rw hov lim
    have hSm : Sm l := ⟨by omega, fun j => by have := (ov_at hov j).1; omega⟩
    have hN : (Bo l).length ≤ 19 := by have := hov.2.2; omega
    obtain ⟨X, hX⟩ : ∃ X, allX l lim = X := ⟨_, rfl⟩
    rw [hX] at hx hxr
    have hx' : AllX l lim = X := hx.symm
    obtain ⟨⟨a⟩, e⟩ := X
    simp only at hxr
    have hsm := B6 a
    have hee := beqI_self e
    simp only [Try.f3, Option.some.injEq] at hc
    subst hc
    refine Hy 2 (of_decide_eq_true (by kernel_rfl)) ?_
    (sym =>
     simp [hf,hX,hx',hsm,hee,B5.eq_def,ctx_HitAll_t,ctx_HitAll_c,ctx_HitAll_d,ctx_HitAll_b,ctx_HitAll_u,ctx_HitAll_w,Mb.eq_def,Gr.eq_def,K1.eq_def,con_HitAll.eq_def,Ge.eq_def,K3.eq_def,Za,Zb,Zc,Zd,Ze,Zf,Zg,Zn,Zo,Zp,Zq,Zr,Zs,Zt,Zv,Z5,Z6,Z7,Z8,Z9,Qa,Qb,Qc,Qd,Qe,Qi,Qk,Ql,Qm,Qn,Qp,Qv,Qw,Qy,Q1,Q2,Q3,Q8,Ja,Jb,Jc,Jd,Je,Jl,Jp,Jq,Jr,Jx,Jy,Jz,J0,J1,J2,J3,J4,J5,J6,J7,J8,Xb,Xc,Xd,Xe,Xf,Xg,Xh,Xi,Xj,Xk,Xl,Xm,Xn,Xo,Xp,Xq,Xs,Xt,Xu,Xv,Xw,Xx,Xy,Xz,X0,X1,X2,X3,X4,X5,X6,X8,X9,Wa,Wd,We,Wf,Wg,Wh,Wi,Wj,Wl,Wm,Wn,Wo,Wp,Wq,Wr,Ws,Wt,Wu,Wv,Ww,Wx,Wy,Wz,W0,W1,W2,W3,W4,W5,W6,W7,W8,Yb,Yc,Yd,Yf,Yg,Yh,Yi,Yj,Yk,Yl,Ym,Yn,Yo,Yp,Yq,Yr,Ys,Yt,Yu,Yv,Yw,Yx,Yy,Yz,Y0,Y1,Y2,Y3,Y4,Y5,Y6,Y7,Y8,Y9,Va,Vb,Vc,Vd,Ve,Vf,Vg,Vh,Vi,Vj,Vk,Vl,Vm,Vn,Vo,Vp,Vq,Vr,Vs,Vt,Vu,Vv,Vw,Vx,Vy,Vz,V0,V1,V3,V4,V5,V6,V7,V8,V9,Ua,Ub,Uc,Ud,Ue,Uf,Ul,Um,Uq,Ur,Us,Ut,Uu,Uv,Uw,Ux,Uy,Uz,U0,U1,U3,U4,U5,U6,U7,U8,U9,Ka,Kb,Kc,Kd,Ke,Kf,Kg,Kh,Ki,Kj,Kk,Kl,Km,Kn,Ko,Kq,Kr,Ks,Kt,Ga,G5,K8,M0,Kz]
     tactic =>
      try simp only [K2] at *
      try simp only [nc2] at *
      try simp (maxSteps := 4000000) only [hf,hX,hx',hsm,hee,B5.eq_def,Gg]
      repeat' (first | with_reducible assumption | with_reducible refine And.intro ?_ ?_ | intro _ | omega | (rw [Ku]; omega))
      all_goals first
        | assumption
        | omega
        | rfl
        | skip)
theorem miss_zero (l : List (Sl Int)) : N4 (N4 l 0) 0 = N4 l 0 := by
  unfold N4
  rw [List.map_map]
  rfl
def con_HitTwice : Con := con1 (fun (l : Sl (Sl Int)) => Rw l.l) (fun _ => true)
noncomputable def Lr : Ctx := ⟨tab, lkC [(10, K1), (11, K3), (12, Gr), (20, Gk), (14, Ge), (25, Gn)], 60, lkB [], [], false⟩
theorem R6 : Lr.τ = tab := rfl
theorem R8 : Lr.Γ = lkC [(10, K1), (11, K3), (12, Gr), (20, Gk), (14, Ge), (25, Gn)] := rfl
theorem R7 : Lr.dp = 60 := rfl
theorem R9 : Lr.Δ = lkB [] := rfl
theorem R5 : Lr.cuts = [] := rfl
theorem R4 : Lr.wr = false := rfl
set_option maxRecDepth 100000 in
theorem good_HitTwice : Me Try.prog (8, con_HitTwice) := by
  refine ⟨Gj Try.func8 (by kernel_rfl) rfl, ?_⟩
  have K : Hq Try.prog Lr := Gq H8 G4 (by
    intro p hp
    simp only [List.mem_cons, List.not_mem_nil, or_false] at hp
    rcases hp with rfl | rfl | rfl | rfl | rfl | rfl
    · exact C4
    · exact C3
    · exact Ih
    · exact F3
    · exact Dv
    · exact A3) (by simp)
  obtain ⟨c, hc⟩ : ∃ c, Try.f8.body = some c := ⟨_, rfl⟩
  refine Gu K Try.func8 hc [.tmp 2] rfl 47 rfl (fun cvs hpre => ?_)
  change con_HitTwice.pre cvs at hpre
  unfold con_HitTwice at hpre
  obtain ⟨⟨l⟩, rfl, hl⟩ := Ct hpre
  simp only at hl
  clear hpre
  cases hf : fewB l 8 with
  | false =>
    simp only [Try.f8, Option.some.injEq] at hc
    subst hc
    refine Hy 2 (of_decide_eq_true (by kernel_rfl)) ?_
    (sym =>
     simp [hf,R6,R8,R7,R9,R5,R4,Gr.eq_def,K1.eq_def,con_HitTwice.eq_def,Gk.eq_def,Gn.eq_def,Ge.eq_def,K3.eq_def,Za,Zb,Zc,Zd,Ze,Zf,Zg,Zn,Zo,Zp,Zq,Zr,Zs,Zt,Zv,Z2,Z5,Z6,Z7,Z8,Z9,Qa,Qb,Qc,Qd,Qe,Qi,Qk,Ql,Qm,Qn,Qp,Qv,Qw,Qy,Q1,Q2,Q3,Q8,Ja,Jb,Jc,Jd,Je,Jl,Jp,Jq,Jr,Jx,Jy,Jz,J0,J1,J2,J3,J4,J5,J6,J7,J8,Xb,Xc,Xd,Xe,Xf,Xg,Xh,Xi,Xj,Xk,Xl,Xm,Xn,Xo,Xp,Xq,Xs,Xt,Xu,Xv,Xw,Xx,Xy,Xz,X0,X1,X2,X3,X4,X5,X6,X8,X9,Wa,Wd,We,Wf,Wg,Wh,Wi,Wj,Wl,Wm,Wn,Wo,Wp,Wq,Wr,Ws,Wt,Wu,Wv,Ww,Wx,Wy,Wz,W0,W1,W2,W3,W4,W5,W6,W7,W8,Yb,Yc,Yd,Yf,Yg,Yh,Yi,Yj,Yk,Yl,Ym,Yn,Yo,Yp,Yq,Yr,Ys,Yt,Yu,Yv,Yw,Yx,Yy,Yz,Y0,Y1,Y2,Y3,Y4,Y5,Y6,Y7,Y8,Y9,Va,Vb,Vc,Vd,Ve,Vf,Vg,Vh,Vi,Vj,Vk,Vl,Vm,Vn,Vo,Vp,Vq,Vr,Vs,Vt,Vu,Vv,Vw,Vx,Vy,Vz,V0,V1,V3,V4,V5,V6,V7,V8,V9,Ua,Ub,Uc,Ud,Ue,Uf,Ul,Um,Uq,Ur,Us,Ut,Uu,Uv,Uw,Ux,Uy,Uz,U0,U1,U3,U4,U5,U6,U7,U8,U9,Ka,Kb,Kc,Kd,Ke,Kf,Kg,Kh,Ki,Kj,Kk,Kl,Km,Kn,Ko,Kq,Kr,Ks,Kt,Ga,G5,K8,M0,Kz]
     tactic =>
      try simp only [K2] at *
      try simp only [nc2] at *
      try simp (maxSteps := 4000000) only [hf,Gg]
      repeat' (first | with_reducible assumption | with_reducible refine And.intro ?_ ?_ | intro _ | omega | (rw [Ku]; omega))
      all_goals first
        | assumption
        | omega
        | rfl
        | (with_reducible refine K9 ?_; kernel_rfl)
        | skip)
  | true =>
    rcases S5 8 (l.length : Int) with ⟨h8, hb8⟩ | ⟨h8, hb8⟩
    · skip
      simp only [Try.f8, Option.some.injEq] at hc
      subst hc
      refine Hy 2 (of_decide_eq_true (by kernel_rfl)) ?_
      (sym =>
       simp [hf,hb8,R6,R8,R7,R9,R5,R4,Gr.eq_def,K1.eq_def,con_HitTwice.eq_def,Gk.eq_def,Gn.eq_def,Ge.eq_def,K3.eq_def,Za,Zb,Zc,Zd,Ze,Zf,Zg,Zn,Zo,Zp,Zq,Zr,Zs,Zt,Zv,Z2,Z5,Z6,Z7,Z8,Z9,Qa,Qb,Qc,Qd,Qe,Qi,Qk,Ql,Qm,Qn,Qp,Qv,Qw,Qy,Q1,Q2,Q3,Q8,Ja,Jb,Jc,Jd,Je,Jl,Jp,Jq,Jr,Jx,Jy,Jz,J0,J1,J2,J3,J4,J5,J6,J7,J8,Xb,Xc,Xd,Xe,Xf,Xg,Xh,Xi,Xj,Xk,Xl,Xm,Xn,Xo,Xp,Xq,Xs,Xt,Xu,Xv,Xw,Xx,Xy,Xz,X0,X1,X2,X3,X4,X5,X6,X8,X9,Wa,Wd,We,Wf,Wg,Wh,Wi,Wj,Wl,Wm,Wn,Wo,Wp,Wq,Wr,Ws,Wt,Wu,Wv,Ww,Wx,Wy,Wz,W0,W1,W2,W3,W4,W5,W6,W7,W8,Yb,Yc,Yd,Yf,Yg,Yh,Yi,Yj,Yk,Yl,Ym,Yn,Yo,Yp,Yq,Yr,Ys,Yt,Yu,Yv,Yw,Yx,Yy,Yz,Y0,Y1,Y2,Y3,Y4,Y5,Y6,Y7,Y8,Y9,Va,Vb,Vc,Vd,Ve,Vf,Vg,Vh,Vi,Vj,Vk,Vl,Vm,Vn,Vo,Vp,Vq,Vr,Vs,Vt,Vu,Vv,Vw,Vx,Vy,Vz,V0,V1,V3,V4,V5,V6,V7,V8,V9,Ua,Ub,Uc,Ud,Ue,Uf,Ul,Um,Uq,Ur,Us,Ut,Uu,Uv,Uw,Ux,Uy,Uz,U0,U1,U3,U4,U5,U6,U7,U8,U9,Ka,Kb,Kc,Kd,Ke,Kf,Kg,Kh,Ki,Kj,Kk,Kl,Km,Kn,Ko,Kq,Kr,Ks,Kt,Ga,G5,K8,M0,Kz]
       tactic =>
        try simp only [K2] at *
        try simp only [nc2] at *
        try simp (maxSteps := 4000000) only [hf,hb8,Gg]
        repeat' (first | with_reducible assumption | with_reducible refine And.intro ?_ ?_ | intro _ | omega | (rw [Ku]; omega))
        all_goals first
          | assumption
          | omega
          | rfl
          | (with_reducible refine K9 ?_; kernel_rfl)
          | skip)
    obtain ⟨hov, hlen⟩ := ov_few (show (8 : Int) ≤ 10 by omega) hf
    have hA := ov_okA hov (by omega)
    have ho1 := ov_all hov
    have hA2 := ov_okA ho1.1 (by have := ho1.2; omega)
    have hx1 := allX_ok hov
    have hx2 := allX_ok ho1.1
    rw [all_all hov.1] at hx2
    have hl6 := ov_rs6 hov (by omega)
    have hlo := ov_least hov
    have hll := ov_count hlo (Dl l)
    have hlr := ov_rw hlo (by omega)
    obtain ⟨A, hAe⟩ : ∃ A, Cn l = A := ⟨_, rfl⟩
    obtain ⟨B, hBe⟩ : ∃ B, Hc l = B := ⟨_, rfl⟩
    rw [hAe] at hx1 hx2 hA2
    rw [hBe] at hx2 hlr hll
    have hsm := B6 B
    have hmz := miss_zero B
    have hmr : ∀ M : List (Sl Int), M.length ≤ 1024 → Rw (N4 M 0) := fun M hM => ⟨by rw [P3]; show _ ≤ _; omega, fun j => by
      have : ((N4 M 0).getD j ⟨[]⟩).l = [] := by
        unfold N4
        rw [List.getD_eq_getElem?_getD, List.getElem?_map]
        cases M[j]? <;> rfl
      rw [this]; exact Nat.zero_le _⟩
    have hm1 := hmr B hll
    have hm2 := B6 (N4 B 0)
    have hm3 : (N4 B 0).length ≤ 1000000 := by rw [P3]; omega
    simp only [Try.f8, Option.some.injEq] at hc
    subst hc
    refine Hy 2 (of_decide_eq_true (by kernel_rfl)) ?_
    (sym =>
     simp [hf,hb8,hx1,hx2,hBe,hsm,hmz,hm2,B5.eq_def,R6,R8,R7,R9,R5,R4,Gr.eq_def,K1.eq_def,con_HitTwice.eq_def,Gk.eq_def,Gn.eq_def,Ge.eq_def,K3.eq_def,Za,Zb,Zc,Zd,Ze,Zf,Zg,Zn,Zo,Zp,Zq,Zr,Zs,Zt,Zv,Z2,Z5,Z6,Z7,Z8,Z9,Qa,Qb,Qc,Qd,Qe,Qi,Qk,Ql,Qm,Qn,Qp,Qv,Qw,Qy,Q1,Q2,Q3,Q8,Ja,Jb,Jc,Jd,Je,Jl,Jp,Jq,Jr,Jx,Jy,Jz,J0,J1,J2,J3,J4,J5,J6,J7,J8,Xb,Xc,Xd,Xe,Xf,Xg,Xh,Xi,Xj,Xk,Xl,Xm,Xn,Xo,Xp,Xq,Xs,Xt,Xu,Xv,Xw,Xx,Xy,Xz,X0,X1,X2,X3,X4,X5,X6,X8,X9,Wa,Wd,We,Wf,Wg,Wh,Wi,Wj,Wl,Wm,Wn,Wo,Wp,Wq,Wr,Ws,Wt,Wu,Wv,Ww,Wx,Wy,Wz,W0,W1,W2,W3,W4,W5,W6,W7,W8,Yb,Yc,Yd,Yf,Yg,Yh,Yi,Yj,Yk,Yl,Ym,Yn,Yo,Yp,Yq,Yr,Ys,Yt,Yu,Yv,Yw,Yx,Yy,Yz,Y0,Y1,Y2,Y3,Y4,Y5,Y6,Y7,Y8,Y9,Va,Vb,Vc,Vd,Ve,Vf,Vg,Vh,Vi,Vj,Vk,Vl,Vm,Vn,Vo,Vp,Vq,Vr,Vs,Vt,Vu,Vv,Vw,Vx,Vy,Vz,V0,V1,V3,V4,V5,V6,V7,V8,V9,Ua,Ub,Uc,Ud,Ue,Uf,Ul,Um,Uq,Ur,Us,Ut,Uu,Uv,Uw,Ux,Uy,Uz,U0,U1,U3,U4,U5,U6,U7,U8,U9,Ka,Kb,Kc,Kd,Ke,Kf,Kg,Kh,Ki,Kj,Kk,Kl,Km,Kn,Ko,Kq,Kr,Ks,Kt,Ga,G5,K8,M0,Kz]
     tactic =>
      try simp only [K2] at *
      try simp only [nc2] at *
      try simp (maxSteps := 4000000) only [hf,hb8,hx1,hx2,hBe,hsm,hmz,hm2,B5.eq_def,Gg]
      repeat' (first | with_reducible assumption | with_reducible refine And.intro ?_ ?_ | intro _ | omega | (rw [Ku]; omega))
      all_goals first
        | assumption
        | omega
        | rfl
        | (with_reducible refine K9 ?_; kernel_rfl)
        | skip)
end Go.Am.Hit
set_option linter.unusedSimpArgs false
set_option linter.unusedVariables false
set_option maxHeartbeats 4000000
namespace Go.Am.Hit
open Go.Proofs
open Enc (enc dec)
theorem few_rs6 {l : List (Sl Int)} {m : Int} (hm : m ≤ 500) (h : fewB l m = true) : Rs6 l ∧ l.length ≤ 12 ∧ Ab (unS l) := by
  obtain ⟨h1, h2, h3⟩ := few_iff.1 h
  refine ⟨⟨by omega, fun j => ?_⟩, h1, fun s hs => (h2 s hs).2⟩
  rcases getD_cases (l := l) j with q | q
  · have := (h2 _ q).1; omega
  · rw [q]; exact Nat.zero_le _
theorem least_rs6 {l : List (Sl Int)} (h : Rs6 l) : Rs6 (Hc l) := by
  have hs := srt_rs6 h
  refine ⟨Nat.le_trans (keep_len _ _) hs.1, fun j => ?_⟩
  rcases getD_cases (l := Hc l) j with q | q
  · have hm : ((Hc l).getD j ⟨[]⟩).l ∈ unS l := (Nq.1 q).1
    obtain ⟨u, hu, e⟩ := List.mem_map.1 hm
    obtain ⟨i, hi, e2⟩ := mem_at ⟨[]⟩ hu
    rw [← e, ← e2]
    exact h.2 i
  · rw [q]; exact Nat.zero_le _
theorem miss_rw {l : List (Sl Int)} {n : Int} (hl : l.length ≤ 1000000) (hn : n ≤ 1000000) : Rw (N4 l n) := by
  refine ⟨by rw [P3]; show _ ≤ _; omega, fun j => ?_⟩
  unfold N4
  rw [List.getD_eq_getElem?_getD, List.getElem?_map]
  cases l[j]? with
  | none => exact Nat.zero_le _
  | some s =>
    show (Sr s.l n).length ≤ _
    have := E6 s.l n.toNat
    unfold Sr
    omega
theorem beqB_self (x : Bool) : (x == x) = true := beq_self_eq_true x
def con_HitTells : Con := con3 (fun (l : Sl (Sl Int)) (s : Sl Int) (_ : Int) => Rw l.l ∧ Lo s.l.length) (fun _ _ _ => true)
noncomputable def Ls : Ctx := ⟨tab, lkC [(10, K1), (11, K3), (15, K7), (16, K6), (22, H2), (20, Gk), (23, Na), (14, Ge), (21, He), (24, Gt), (25, Gn), (26, H5)], 60, lkB [], [], false⟩
theorem Tj : Ls.τ = tab := rfl
theorem Tl : Ls.Γ = lkC [(10, K1), (11, K3), (15, K7), (16, K6), (22, H2), (20, Gk), (23, Na), (14, Ge), (21, He), (24, Gt), (25, Gn), (26, H5)] := rfl
theorem Tk : Ls.dp = 60 := rfl
theorem Tm : Ls.Δ = lkB [] := rfl
theorem Ti : Ls.cuts = [] := rfl
theorem Th : Ls.wr = false := rfl
set_option maxRecDepth 100000 in
theorem good_HitTells : Me Try.prog (7, con_HitTells) := by
  refine ⟨Gj Try.func7 (by kernel_rfl) rfl, ?_⟩
  have K : Hq Try.prog Ls := Gq H8 G4 (by
    intro p hp
    simp only [List.mem_cons, List.not_mem_nil, or_false] at hp
    rcases hp with rfl | rfl | rfl | rfl | rfl | rfl | rfl | rfl | rfl | rfl | rfl | rfl
    · exact C4
    · exact C3
    · exact Ry
    · exact E8
    · exact good_Hits16
    · exact F3
    · exact good_Least16
    · exact Dv
    · exact good_SortH'
    · exact good_Sort16
    · exact A3
    · exact good_Missing16) (by simp)
  obtain ⟨c, hc⟩ : ∃ c, Try.f7.body = some c := ⟨_, rfl⟩
  refine Gu K Try.func7 hc [.tmp 6] rfl 60 rfl (fun cvs hpre => ?_)
  change con_HitTells.pre cvs at hpre
  unfold con_HitTells at hpre
  obtain ⟨⟨l⟩, ⟨s⟩, n, rfl, hl, hs⟩ := con3_pre hpre
  simp only at hl hs
  clear hpre
  obtain ⟨hl1, hl2⟩ := id hl
  cases hf : fewB l 20 with
  | false =>
    simp only [Try.f7, Option.some.injEq] at hc
    subst hc
    refine Hy 3 (of_decide_eq_true (by kernel_rfl)) ?_
    (sym =>
     simp [hf,Tj,Tl,Tk,Tm,Ti,Th,K1.eq_def,con_HitTells.eq_def,H2.eq_def,K6.eq_def,Na.eq_def,Gk.eq_def,H5.eq_def,Gn.eq_def,Ge.eq_def,K7.eq_def,Gt.eq_def,He.eq_def,K3.eq_def,Za,Zb,Zc,Zd,Ze,Zf,Zg,Zn,Zo,Zp,Zq,Zr,Zs,Zt,Zv,Z2,Z6,Z7,Z8,Z9,Qa,Qb,Qc,Qd,Qe,Qi,Qk,Ql,Qm,Qn,Qp,Qv,Qw,Qy,Q1,Q2,Q3,Q8,Ja,Jb,Jc,Jd,Je,Jl,Jp,Jq,Jr,Jx,Jy,Jz,J0,J1,J2,J3,J4,J5,J6,J7,J8,Xb,Xc,Xd,Xe,Xf,Xg,Xh,Xi,Xj,Xk,Xl,Xm,Xn,Xo,Xp,Xq,Xs,Xt,Xu,Xv,Xw,Xx,Xy,Xz,X0,X1,X2,X3,X4,X5,X6,X8,X9,Wa,Wd,We,Wf,Wg,Wh,Wi,Wj,Wl,Wm,Wn,Wo,Wp,Wq,Wr,Ws,Wt,Wu,Wv,Ww,Wx,Wy,Wz,W0,W1,W2,W3,W4,W5,W6,W7,W8,Yb,Yc,Yd,Yf,Yg,Yh,Yi,Yj,Yk,Yl,Ym,Yn,Yo,Yp,Yq,Yr,Ys,Yt,Yu,Yv,Yw,Yx,Yy,Yz,Y0,Y1,Y2,Y3,Y4,Y5,Y6,Y7,Y8,Y9,Va,Vb,Vc,Vd,Ve,Vf,Vg,Vh,Vi,Vj,Vk,Vl,Vm,Vn,Vo,Vp,Vq,Vr,Vs,Vt,Vu,Vv,Vw,Vx,Vy,Vz,V0,V1,V3,V4,V5,V6,V7,V8,V9,Ua,Ub,Uc,Ud,Ue,Uf,Ul,Um,Uq,Ur,Us,Ut,Uu,Uv,Uw,Ux,Uy,Uz,U0,U1,U3,U4,U5,U6,U7,U8,U9,Ka,Kb,Kc,Kd,Ke,Kf,Kg,Kh,Ki,Kj,Kk,Kl,Km,Kn,Ko,Kq,Kr,Ks,Kt,Ga,G5,K8,Kz]
     tactic =>
      try simp only [K2] at *
      try simp only [nc2] at *
      try simp (maxSteps := 4000000) only [hf,Gg]
      repeat' (first | with_reducible assumption | with_reducible refine And.intro ?_ ?_ | intro _ | omega | (rw [Ku]; omega))
      all_goals first
        | assumption
        | omega
        | rfl
        | (with_reducible refine K9 ?_; kernel_rfl)
        | skip)
  | true =>
    rcases S5 20 (s.length : Int) with ⟨hs8, hsb⟩ | ⟨hs8, hsb⟩
    · skip
      simp only [Try.f7, Option.some.injEq] at hc
      subst hc
      refine Hy 3 (of_decide_eq_true (by kernel_rfl)) ?_
      (sym =>
       simp [hf,hsb,Tj,Tl,Tk,Tm,Ti,Th,K1.eq_def,con_HitTells.eq_def,H2.eq_def,K6.eq_def,Na.eq_def,Gk.eq_def,H5.eq_def,Gn.eq_def,Ge.eq_def,K7.eq_def,Gt.eq_def,He.eq_def,K3.eq_def,Za,Zb,Zc,Zd,Ze,Zf,Zg,Zn,Zo,Zp,Zq,Zr,Zs,Zt,Zv,Z2,Z6,Z7,Z8,Z9,Qa,Qb,Qc,Qd,Qe,Qi,Qk,Ql,Qm,Qn,Qp,Qv,Qw,Qy,Q1,Q2,Q3,Q8,Ja,Jb,Jc,Jd,Je,Jl,Jp,Jq,Jr,Jx,Jy,Jz,J0,J1,J2,J3,J4,J5,J6,J7,J8,Xb,Xc,Xd,Xe,Xf,Xg,Xh,Xi,Xj,Xk,Xl,Xm,Xn,Xo,Xp,Xq,Xs,Xt,Xu,Xv,Xw,Xx,Xy,Xz,X0,X1,X2,X3,X4,X5,X6,X8,X9,Wa,Wd,We,Wf,Wg,Wh,Wi,Wj,Wl,Wm,Wn,Wo,Wp,Wq,Wr,Ws,Wt,Wu,Wv,Ww,Wx,Wy,Wz,W0,W1,W2,W3,W4,W5,W6,W7,W8,Yb,Yc,Yd,Yf,Yg,Yh,Yi,Yj,Yk,Yl,Ym,Yn,Yo,Yp,Yq,Yr,Ys,Yt,Yu,Yv,Yw,Yx,Yy,Yz,Y0,Y1,Y2,Y3,Y4,Y5,Y6,Y7,Y8,Y9,Va,Vb,Vc,Vd,Ve,Vf,Vg,Vh,Vi,Vj,Vk,Vl,Vm,Vn,Vo,Vp,Vq,Vr,Vs,Vt,Vu,Vv,Vw,Vx,Vy,Vz,V0,V1,V3,V4,V5,V6,V7,V8,V9,Ua,Ub,Uc,Ud,Ue,Uf,Ul,Um,Uq,Ur,Us,Ut,Uu,Uv,Uw,Ux,Uy,Uz,U0,U1,U3,U4,U5,U6,U7,U8,U9,Ka,Kb,Kc,Kd,Ke,Kf,Kg,Kh,Ki,Kj,Kk,Kl,Km,Kn,Ko,Kq,Kr,Ks,Kt,Ga,G5,K8,Kz]
       tactic =>
        try simp only [K2] at *
        try simp only [nc2] at *
        try simp (maxSteps := 4000000) only [hf,hsb,Gg]
        repeat' (first | with_reducible assumption | with_reducible refine And.intro ?_ ?_ | intro _ | omega | (rw [Ku]; omega))
        all_goals first
          | assumption
          | omega
          | rfl
          | (with_reducible refine K9 ?_; kernel_rfl)
          | skip)
    cases hset : Ox s with
    | false =>
      simp only [Try.f7, Option.some.injEq] at hc
      subst hc
      refine Hy 3 (of_decide_eq_true (by kernel_rfl)) ?_
      (sym =>
       simp [hf,hsb,hset,Tj,Tl,Tk,Tm,Ti,Th,K1.eq_def,con_HitTells.eq_def,H2.eq_def,K6.eq_def,Na.eq_def,Gk.eq_def,H5.eq_def,Gn.eq_def,Ge.eq_def,K7.eq_def,Gt.eq_def,He.eq_def,K3.eq_def,Za,Zb,Zc,Zd,Ze,Zf,Zg,Zn,Zo,Zp,Zq,Zr,Zs,Zt,Zv,Z2,Z6,Z7,Z8,Z9,Qa,Qb,Qc,Qd,Qe,Qi,Qk,Ql,Qm,Qn,Qp,Qv,Qw,Qy,Q1,Q2,Q3,Q8,Ja,Jb,Jc,Jd,Je,Jl,Jp,Jq,Jr,Jx,Jy,Jz,J0,J1,J2,J3,J4,J5,J6,J7,J8,Xb,Xc,Xd,Xe,Xf,Xg,Xh,Xi,Xj,Xk,Xl,Xm,Xn,Xo,Xp,Xq,Xs,Xt,Xu,Xv,Xw,Xx,Xy,Xz,X0,X1,X2,X3,X4,X5,X6,X8,X9,Wa,Wd,We,Wf,Wg,Wh,Wi,Wj,Wl,Wm,Wn,Wo,Wp,Wq,Wr,Ws,Wt,Wu,Wv,Ww,Wx,Wy,Wz,W0,W1,W2,W3,W4,W5,W6,W7,W8,Yb,Yc,Yd,Yf,Yg,Yh,Yi,Yj,Yk,Yl,Ym,Yn,Yo,Yp,Yq,Yr,Ys,Yt,Yu,Yv,Yw,Yx,Yy,Yz,Y0,Y1,Y2,Y3,Y4,Y5,Y6,Y7,Y8,Y9,Va,Vb,Vc,Vd,Ve,Vf,Vg,Vh,Vi,Vj,Vk,Vl,Vm,Vn,Vo,Vp,Vq,Vr,Vs,Vt,Vu,Vv,Vw,Vx,Vy,Vz,V0,V1,V3,V4,V5,V6,V7,V8,V9,Ua,Ub,Uc,Ud,Ue,Uf,Ul,Um,Uq,Ur,Us,Ut,Uu,Uv,Uw,Ux,Uy,Uz,U0,U1,U3,U4,U5,U6,U7,U8,U9,Ka,Kb,Kc,Kd,Ke,Kf,Kg,Kh,Ki,Kj,Kk,Kl,Km,Kn,Ko,Kq,Kr,Ks,Kt,Ga,G5,K8,Kz]
       tactic =>
        try simp only [K2] at *
        try simp only [nc2] at *
        try simp (maxSteps := 4000000) only [hf,hsb,hset,Gg]
        repeat' (first | with_reducible assumption | with_reducible refine And.intro ?_ ?_ | intro _ | omega | (rw [Ku]; omega))
        all_goals first
          | assumption
          | omega
          | rfl
          | (with_reducible refine K9 ?_; kernel_rfl)
          | skip)
    | true =>
      rcases S5 50 n with ⟨hn, hnb⟩ | ⟨hn, hnb⟩
      · skip
        simp only [Try.f7, Option.some.injEq] at hc
        subst hc
        refine Hy 3 (of_decide_eq_true (by kernel_rfl)) ?_
        (sym =>
         simp [hf,hsb,hset,hnb,Tj,Tl,Tk,Tm,Ti,Th,K1.eq_def,con_HitTells.eq_def,H2.eq_def,K6.eq_def,Na.eq_def,Gk.eq_def,H5.eq_def,Gn.eq_def,Ge.eq_def,K7.eq_def,Gt.eq_def,He.eq_def,K3.eq_def,Za,Zb,Zc,Zd,Ze,Zf,Zg,Zn,Zo,Zp,Zq,Zr,Zs,Zt,Zv,Z2,Z6,Z7,Z8,Z9,Qa,Qb,Qc,Qd,Qe,Qi,Qk,Ql,Qm,Qn,Qp,Qv,Qw,Qy,Q1,Q2,Q3,Q8,Ja,Jb,Jc,Jd,Je,Jl,Jp,Jq,Jr,Jx,Jy,Jz,J0,J1,J2,J3,J4,J5,J6,J7,J8,Xb,Xc,Xd,Xe,Xf,Xg,Xh,Xi,Xj,Xk,Xl,Xm,Xn,Xo,Xp,Xq,Xs,Xt,Xu,Xv,Xw,Xx,Xy,Xz,X0,X1,X2,X3,X4,X5,X6,X8,X9,Wa,Wd,We,Wf,Wg,Wh,Wi,Wj,Wl,Wm,Wn,Wo,Wp,Wq,Wr,Ws,Wt,Wu,Wv,Ww,Wx,Wy,Wz,W0,W1,W2,W3,W4,W5,W6,W7,W8,Yb,Yc,Yd,Yf,Yg,Yh,Yi,Yj,Yk,Yl,Ym,Yn,Yo,Yp,Yq,Yr,Ys,Yt,Yu,Yv,Yw,Yx,Yy,Yz,Y0,Y1,Y2,Y3,Y4,Y5,Y6,Y7,Y8,Y9,Va,Vb,Vc,Vd,Ve,Vf,Vg,Vh,Vi,Vj,Vk,Vl,Vm,Vn,Vo,Vp,Vq,Vr,Vs,Vt,Vu,Vv,Vw,Vx,Vy,Vz,V0,V1,V3,V4,V5,V6,V7,V8,V9,Ua,Ub,Uc,Ud,Ue,Uf,Ul,Um,Uq,Ur,Us,Ut,Uu,Uv,Uw,Ux,Uy,Uz,U0,U1,U3,U4,U5,U6,U7,U8,U9,Ka,Kb,Kc,Kd,Ke,Kf,Kg,Kh,Ki,Kj,Kk,Kl,Km,Kn,Ko,Kq,Kr,Ks,Kt,Ga,G5,K8,Kz]
         tactic =>
          try simp only [K2] at *
          try simp only [nc2] at *
          try simp (maxSteps := 4000000) only [hf,hsb,hset,hnb,Gg]
          repeat' (first | with_reducible assumption | with_reducible refine And.intro ?_ ?_ | intro _ | omega | (rw [Ku]; omega))
          all_goals first
            | assumption
            | omega
            | rfl
            | (with_reducible refine K9 ?_; kernel_rfl)
            | skip)
      obtain ⟨h6, hlen, hsets⟩ := few_rs6 (by omega) hf
      have hhe := hitsL_eqB (Rq.1 hset) hsets
      obtain ⟨H, hH⟩ : ∃ H, hitB s l = H := ⟨_, rfl⟩
      rw [hH] at hhe
      have hHH := beqB_self H
      have hle := least_eq hsets
      have hlr := rs6_rw (least_rs6 h6)
      obtain ⟨B, hB⟩ : ∃ B, Hc l = B := ⟨_, rfl⟩
      rw [hB] at hle hlr
      have hle' : slS (srt (unS (Iz l))) = B := hle.symm
      have hsB := B6 B
      have hsr := rs6_rw (srt_rs6 h6)
      obtain ⟨S, hS⟩ : ∃ S, slS (srt (unS l)) = S := ⟨_, rfl⟩
      rw [hS] at hsr
      have hsS := B6 S
      have hmr := miss_rw (l := l) (n := n) (by omega) (by omega)
      have hsM := B6 (N4 l n)
      simp only [Try.f7, Option.some.injEq] at hc
      subst hc
      refine Hy 3 (of_decide_eq_true (by kernel_rfl)) ?_
      (sym =>
       simp [hf,hsb,hset,hnb,hhe,hH,hHH,hB,hle',hsB,hS,hsS,hsM,Tj,Tl,Tk,Tm,Ti,Th,K1.eq_def,con_HitTells.eq_def,H2.eq_def,K6.eq_def,Na.eq_def,Gk.eq_def,H5.eq_def,Gn.eq_def,Ge.eq_def,K7.eq_def,Gt.eq_def,He.eq_def,K3.eq_def,Za,Zb,Zc,Zd,Ze,Zf,Zg,Zn,Zo,Zp,Zq,Zr,Zs,Zt,Zv,Z2,Z6,Z7,Z8,Z9,Qa,Qb,Qc,Qd,Qe,Qi,Qk,Ql,Qm,Qn,Qp,Qv,Qw,Qy,Q1,Q2,Q3,Q8,Ja,Jb,Jc,Jd,Je,Jl,Jp,Jq,Jr,Jx,Jy,Jz,J0,J1,J2,J3,J4,J5,J6,J7,J8,Xb,Xc,Xd,Xe,Xf,Xg,Xh,Xi,Xj,Xk,Xl,Xm,Xn,Xo,Xp,Xq,Xs,Xt,Xu,Xv,Xw,Xx,Xy,Xz,X0,X1,X2,X3,X4,X5,X6,X8,X9,Wa,Wd,We,Wf,Wg,Wh,Wi,Wj,Wl,Wm,Wn,Wo,Wp,Wq,Wr,Ws,Wt,Wu,Wv,Ww,Wx,Wy,Wz,W0,W1,W2,W3,W4,W5,W6,W7,W8,Yb,Yc,Yd,Yf,Yg,Yh,Yi,Yj,Yk,Yl,Ym,Yn,Yo,Yp,Yq,Yr,Ys,Yt,Yu,Yv,Yw,Yx,Yy,Yz,Y0,Y1,Y2,Y3,Y4,Y5,Y6,Y7,Y8,Y9,Va,Vb,Vc,Vd,Ve,Vf,Vg,Vh,Vi,Vj,Vk,Vl,Vm,Vn,Vo,Vp,Vq,Vr,Vs,Vt,Vu,Vv,Vw,Vx,Vy,Vz,V0,V1,V3,V4,V5,V6,V7,V8,V9,Ua,Ub,Uc,Ud,Ue,Uf,Ul,Um,Uq,Ur,Us,Ut,Uu,Uv,Uw,Ux,Uy,Uz,U0,U1,U3,U4,U5,U6,U7,U8,U9,Ka,Kb,Kc,Kd,Ke,Kf,Kg,Kh,Ki,Kj,Kk,Kl,Km,Kn,Ko,Kq,Kr,Ks,Kt,Ga,G5,K8,Kz]
       tactic =>
        try simp only [K2] at *
        try simp only [nc2] at *
        try simp (maxSteps := 4000000) only [hf,hsb,hset,hnb,hhe,hH,hHH,hB,hle',hsB,hS,hsS,hsM,Gg]
        repeat' (first | with_reducible assumption | with_reducible refine And.intro ?_ ?_ | intro _ | omega | (rw [Ku]; omega))
        all_goals first
          | assumption
          | omega
          | rfl
          | (with_reducible refine K9 ?_; kernel_rfl)
          | skip)
end Go.Am.Hit
