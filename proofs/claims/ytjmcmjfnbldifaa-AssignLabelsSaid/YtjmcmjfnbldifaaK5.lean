/- Contracts of functions that the law reaches, and plain laws. Conditions: those that each contract states. -/
import Derived.Test.YtjmcmjfnbldifaaK4
set_option linter.unusedSimpArgs false
set_option linter.unusedVariables false
set_option maxHeartbeats 1000000
namespace Go.Am.Ty
open Go.Proofs
open Enc (enc dec)
theorem upTo2 {p : Nat → Prop} {k : Nat} (h : ∀ j, j < k → p j) (hk : p k) : ∀ j, j < k + 1 → p j := fun j hj => by
  rcases Nat.lt_or_ge j k with h1 | h1
  · exact h j h1
  · have : j = k := by omega
    exact this ▸ hk
structure Ch where
  site : Int
  t : List Node
  deriving DecidableEq
instance encCh : Enc Ch := ⟨fun a => .agg [.int .i64 a.site, .list 3 (a.t.map enc)], fun x => match x with
  | .agg [a, b] => ⟨a.i, b.l.map dec⟩
  | _ => ⟨0, []⟩, fun a => by
    have h : ∀ l : List Node, (l.map (enc : Node → D)).map dec = l := fun l => Pz
    cases a
    simp [D.l,D.i,h]⟩
instance szCh : Sz Ch := ⟨2⟩
theorem szC : Sz.sz Ch = 2 := rfl
theorem My {n : Ch} : (enc n : D) = .agg [.int .i64 n.site, .list 3 (n.t.map enc)] := rfl
def c0 : Ch := ⟨0, []⟩
abbrev ty (l : List Ch) (k : Nat) : List Node := (l.getD k c0).t
abbrev si (l : List Ch) (k : Nat) : Int := (l.getD k c0).site
def FitC (l : List Ch) : Prop := l.length ≤ 9223372036854775807 ∧ ∀ c ∈ l, c.t.length ≤ 9223372036854775807 ∧ I0 c.t
def Bz (t : List Node) : Bool := t.all fun n => n.kind != 0
def P7 : Con := Sn (fun (t : Sl Node) => t.l.length ≤ 9223372036854775807) (fun t => Bz t.l)
noncomputable def T9 : Ctx := ⟨tab, lkC [], 60, lkB [], [], false⟩
theorem Fp : T9.τ = tab := rfl
theorem Fr : T9.Γ = lkC [] := rfl
theorem Fq : T9.dp = 60 := rfl
theorem Fs : T9.Δ = lkB [] := rfl
theorem Fo : T9.cuts = [] := rfl
theorem Fn : T9.wr = false := rfl
set_option maxRecDepth 100000 in
theorem good_Static3 : M7 Try.prog (27, P7) := by
  refine ⟨He Try.func27 (by kernel_rfl) rfl, ?_⟩
  have K : Nh Try.prog T9 := Hl Ny Ht (by simp) (by simp)
  obtain ⟨c, hc⟩ : ∃ c, Try.f27.body = some c := ⟨_, rfl⟩
  refine Hm K Try.func27 hc [.tmp 2] rfl 16 rfl (fun cvs hpre => ?_)
  change P7.pre cvs at hpre
  unfold P7 at hpre
  obtain ⟨⟨t⟩, rfl, ht⟩ := Nw hpre
  simp only at ht
  simp only [Try.f27, Option.some.injEq] at hc
  subst hc
  (sym =>
   simp [Gt,Gv,Gx,Gu,szN,Gw,Fp,Fr,Fq,Fs,Fo,Fn,P7.eq_def,Za,Zb,Zc,Ze,Zf,Zg,Zn,Zo,Zp,Zq,Zr,Zs,Zv,Zx,Zy,Z5,Qa,Qb,Qc,Qg,Qk,Ql,Qm,Qn,Qo,Qp,Qr,Q0,Q1,Q4,Q8,Ja,Jf,Jh,Ji,Jj,Jk,Jl,Jt,Jy,Jz,J0,J1,J2,J5,J6,Xj,Xk,Xl,Xm,Xn,Xo,Xp,Xq,Xr,Xs,Xt,Xu,Xv,Xy,X1,X2,X3,X4,X5,X6,X7,X8,We,Wf,Wg,Wh,Wi,Wj,Wl,Wm,Wn,Wo,Wp,Ws,Wt,Wu,Wv,Ww,Wx,Wy,Wz,W0,W3,W4,W5,W6,W7,W8,W9,Ya,Yb,Yc,Yd,Ye,Yf,Yg,Yh,Yi,Yj,Yk,Yl,Ym,Yn,Yo,Yu,Yv,Yw,Yx,Yy,Yz,Y1,Y2,Y3,Y4,Y5,Y6,Y7,Y8,Y9,Va,Vb,Vc,Vd,Ve,Vf,Vg,Vh,Vi,Vj,Vk,Vl,Vm,Vn,Vo,Vp,Vq,Vr,Vs,Vt,Vu,Vv,Vw,Vx,Vy,Vz,V0,V1,V2,V3,V4,V5,V6,V7,V8,V9,Ua,Ub,Uc,Ud,Ue,Uf,Ug,Uh,Ui,Uj,Uk,Ul,Um,Un,Uo,Up,Uq,Ur,Us,Ut,Uu,Uv,U1,U2,U5,U6,U7,U8,U9,Ka,Kb,Kc,Kd,Ke,Kf,Kg,Kh,Ki,Kj,Kk,Kl,Km,Kn,Ko,Kq,Kr,Ks,Kt,Ku,Kv,Kw,Kx,Ky,Kz,K0,K1,K2,K3,K4,K5,K6,K7,Gg,Gi,Gj,Gk,Gl,Gm,Gn,Gr,Hg,Hc,Hb]
   tactic =>
    try simp only [G6] at *
    try simp only [nc2] at *
    try simp (maxSteps := 4000000) only [Gt,Gv,Gx,Gu,szN,Gw,Hi]
    refine Ho [2, 4, 5, 6, 7, 8, 9, 10, 11, 12, 13, 14, 15] (fun k : Nat => [(3, .d (.int .i64 k))]) (fun k : Nat => []) (fun k : Nat => k ≤ t.length ∧ ∀ j, j < k → ((t.getD j n0).kind != 0) = true) (fun k : Nat => t.length - k) 0 ?_ ?_ ?_
    · simp
    · ((try simp only [G3, Ha, G5, Hf, upd, Hh, Hn, Na, Nat.reduceDiv, Nat.reduceMod, Nat.reduceMul, Nat.reduceAdd, Nat.reduceEqDiff, List.set_cons_zero, List.set_cons_succ, if_true, if_false, reduceIte]); (first | refine Wk.of_fl ?_ | skip); simp only [Wk, wkK, Nd, wkT, wk1, AV.kept, keptAll, wkO, lk, G4, and_true, true_and, and_self, Nat.reduceEqDiff, Nat.reduceLeDiff, if_true, if_false, reduceIte, reduceCtorEq, Option.isSome, false_implies]; try simp [Wk, wkK, wkT, wk1, AV.kept, keptAll, wkO, lk, G4])
    rintro k ⟨hk, hno⟩
    rcases Hq k t.length with ⟨hlt, hlb⟩ | ⟨hlt, hlb⟩
    · have q1 := H7 n0 hlt
      have hst : ((t.getD k n0).kind != 0) = true → ∀ j, j < k + 1 → ((t.getD j n0).kind != 0) = true := fun h => upTo2 hno h
      have hbad : ((t.getD k n0).kind != 0) = false → false = Bz t := fun h => by
        unfold Bz
        rw [Iz (p := fun n : Node => n.kind != 0) n0 k hlt h]
      obtain ⟨x, hx⟩ : ∃ x, t.getD k n0 = x := ⟨_, rfl⟩
      rw [hx] at q1 hst hbad
      cases hz : (x.kind == 0) with
      | true =>
        have hr := hbad (by rw [bne, hz]; rfl)
        rw [eq_comm] at hr
        (sym =>
         simp [hlb,q1,hz,hr,Gt,Gv,Gx,Gu,szN,Gw,Fp,Fr,Fq,Fs,Fo,Fn,P7.eq_def,Za,Zb,Zc,Ze,Zf,Zg,Zn,Zo,Zp,Zq,Zr,Zs,Zv,Zx,Zy,Z5,Qa,Qb,Qc,Qg,Qk,Ql,Qm,Qn,Qo,Qp,Qr,Q0,Q1,Q4,Q8,Ja,Jf,Jh,Ji,Jj,Jk,Jl,Jt,Jy,Jz,J0,J1,J2,J5,J6,Xj,Xk,Xl,Xm,Xn,Xo,Xp,Xq,Xr,Xs,Xt,Xu,Xv,Xy,X1,X2,X3,X4,X5,X6,X7,X8,We,Wf,Wg,Wh,Wi,Wj,Wl,Wm,Wn,Wo,Wp,Ws,Wt,Wu,Wv,Ww,Wx,Wy,Wz,W0,W3,W4,W5,W6,W7,W8,W9,Ya,Yb,Yc,Yd,Ye,Yf,Yg,Yh,Yi,Yj,Yk,Yl,Ym,Yn,Yo,Yu,Yv,Yw,Yx,Yy,Yz,Y1,Y2,Y3,Y4,Y5,Y6,Y7,Y8,Y9,Va,Vb,Vc,Vd,Ve,Vf,Vg,Vh,Vi,Vj,Vk,Vl,Vm,Vn,Vo,Vp,Vq,Vr,Vs,Vt,Vu,Vv,Vw,Vx,Vy,Vz,V0,V1,V2,V3,V4,V5,V6,V7,V8,V9,Ua,Ub,Uc,Ud,Ue,Uf,Ug,Uh,Ui,Uj,Uk,Ul,Um,Un,Uo,Up,Uq,Ur,Us,Ut,Uu,Uv,U1,U2,U5,U6,U7,U8,U9,Ka,Kb,Kc,Kd,Ke,Kf,Kg,Kh,Ki,Kj,Kk,Kl,Km,Kn,Ko,Kq,Kr,Ks,Kt,Ku,Kv,Kw,Kx,Ky,Kz,K0,K1,K2,K3,K4,K5,K6,K7,Gg,Gi,Gj,Gk,Gl,Gm,Gn,Gr,Hg,Hc,Hb]
         tactic =>
          try simp only [G6] at *
          try simp only [nc2] at *
          try simp (maxSteps := 4000000) only [hlb,q1,hz,hr,Gt,Gv,Gx,Gu,szN,Gw,Hi]
          repeat' (first | with_reducible assumption | with_reducible refine And.intro ?_ ?_ | intro _ | omega | (rw [Gy]; omega))
          all_goals first
            | omega
            | rfl
            | skip)
      | false =>
        have hs := hst (by rw [bne, hz]; rfl)
        simp only [bne_iff_ne, ne_eq] at hs
        (sym =>
         simp [hlb,q1,hz,Gt,Gv,Gx,Gu,szN,Gw,Fp,Fr,Fq,Fs,Fo,Fn,P7.eq_def,Za,Zb,Zc,Ze,Zf,Zg,Zn,Zo,Zp,Zq,Zr,Zs,Zv,Zx,Zy,Z5,Qa,Qb,Qc,Qg,Qk,Ql,Qm,Qn,Qo,Qp,Qr,Q0,Q1,Q4,Q8,Ja,Jf,Jh,Ji,Jj,Jk,Jl,Jt,Jy,Jz,J0,J1,J2,J5,J6,Xj,Xk,Xl,Xm,Xn,Xo,Xp,Xq,Xr,Xs,Xt,Xu,Xv,Xy,X1,X2,X3,X4,X5,X6,X7,X8,We,Wf,Wg,Wh,Wi,Wj,Wl,Wm,Wn,Wo,Wp,Ws,Wt,Wu,Wv,Ww,Wx,Wy,Wz,W0,W3,W4,W5,W6,W7,W8,W9,Ya,Yb,Yc,Yd,Ye,Yf,Yg,Yh,Yi,Yj,Yk,Yl,Ym,Yn,Yo,Yu,Yv,Yw,Yx,Yy,Yz,Y1,Y2,Y3,Y4,Y5,Y6,Y7,Y8,Y9,Va,Vb,Vc,Vd,Ve,Vf,Vg,Vh,Vi,Vj,Vk,Vl,Vm,Vn,Vo,Vp,Vq,Vr,Vs,Vt,Vu,Vv,Vw,Vx,Vy,Vz,V0,V1,V2,V3,V4,V5,V6,V7,V8,V9,Ua,Ub,Uc,Ud,Ue,Uf,Ug,Uh,Ui,Uj,Uk,Ul,Um,Un,Uo,Up,Uq,Ur,Us,Ut,Uu,Uv,U1,U2,U5,U6,U7,U8,U9,Ka,Kb,Kc,Kd,Ke,Kf,Kg,Kh,Ki,Kj,Kk,Kl,Km,Kn,Ko,Kq,Kr,Ks,Kt,Ku,Kv,Kw,Kx,Ky,Kz,K0,K1,K2,K3,K4,K5,K6,K7,Gg,Gi,Gj,Gk,Gl,Gm,Gn,Gr,Hg,Hc,Hb]
         tactic =>
          try simp only [G6] at *
          try simp only [nc2] at *
          try simp (maxSteps := 4000000) only [hlb,q1,hz,Gt,Gv,Gx,Gu,szN,Gw,Hi]
          repeat' (first | with_reducible assumption | with_reducible refine And.intro ?_ ?_ | intro _ | omega | (rw [Gy]; omega))
          exact ⟨k + 1, by ((try simp only [G3, Ha, G5, Hf, upd, Hh, Hn, Na, Nat.reduceDiv, Nat.reduceMod, Nat.reduceMul, Nat.reduceAdd, Nat.reduceEqDiff, List.set_cons_zero, List.set_cons_succ, if_true, if_false, reduceIte]); (first | refine Wk.of_fl ?_ | skip); simp only [Wk, wkK, Nd, wkT, wk1, AV.kept, keptAll, wkO, lk, G4, and_true, true_and, and_self, Nat.reduceEqDiff, Nat.reduceLeDiff, if_true, if_false, reduceIte, reduceCtorEq, Option.isSome, false_implies]; try simp [Wk, wkK, wkT, wk1, AV.kept, keptAll, wkO, lk, G4]), by omega, hs, by omega⟩)
    · have hr : Bz t = true := by
        unfold Bz
        rw [Eb (p := fun n : Node => n.kind != 0) n0 fun j hj => hno j (by omega)]
      (sym =>
       simp [hlb,hr,Gt,Gv,Gx,Gu,szN,Gw,Fp,Fr,Fq,Fs,Fo,Fn,P7.eq_def,Za,Zb,Zc,Ze,Zf,Zg,Zn,Zo,Zp,Zq,Zr,Zs,Zv,Zx,Zy,Z5,Qa,Qb,Qc,Qg,Qk,Ql,Qm,Qn,Qo,Qp,Qr,Q0,Q1,Q4,Q8,Ja,Jf,Jh,Ji,Jj,Jk,Jl,Jt,Jy,Jz,J0,J1,J2,J5,J6,Xj,Xk,Xl,Xm,Xn,Xo,Xp,Xq,Xr,Xs,Xt,Xu,Xv,Xy,X1,X2,X3,X4,X5,X6,X7,X8,We,Wf,Wg,Wh,Wi,Wj,Wl,Wm,Wn,Wo,Wp,Ws,Wt,Wu,Wv,Ww,Wx,Wy,Wz,W0,W3,W4,W5,W6,W7,W8,W9,Ya,Yb,Yc,Yd,Ye,Yf,Yg,Yh,Yi,Yj,Yk,Yl,Ym,Yn,Yo,Yu,Yv,Yw,Yx,Yy,Yz,Y1,Y2,Y3,Y4,Y5,Y6,Y7,Y8,Y9,Va,Vb,Vc,Vd,Ve,Vf,Vg,Vh,Vi,Vj,Vk,Vl,Vm,Vn,Vo,Vp,Vq,Vr,Vs,Vt,Vu,Vv,Vw,Vx,Vy,Vz,V0,V1,V2,V3,V4,V5,V6,V7,V8,V9,Ua,Ub,Uc,Ud,Ue,Uf,Ug,Uh,Ui,Uj,Uk,Ul,Um,Un,Uo,Up,Uq,Ur,Us,Ut,Uu,Uv,U1,U2,U5,U6,U7,U8,U9,Ka,Kb,Kc,Kd,Ke,Kf,Kg,Kh,Ki,Kj,Kk,Kl,Km,Kn,Ko,Kq,Kr,Ks,Kt,Ku,Kv,Kw,Kx,Ky,Kz,K0,K1,K2,K3,K4,K5,K6,K7,Gg,Gi,Gj,Gk,Gl,Gm,Gn,Gr,Hg,Hc,Hb]))
theorem static_none (t : List Node) : (!t.any (E2 [0])) = Bz t := by
  unfold Bz
  rw [List.not_any_eq_all_not]
  congr 1
  funext n
  simp [E2,isI,bne]
def L5 : Con := Sn (fun (t : Sl Node) => t.l.length ≤ 9223372036854775807) (fun t => Bz t.l)
noncomputable def T8 : Ctx := ⟨tab, lkC [(45, Tl)], 60, lkB [], [], false⟩
theorem ctx_StaticT_t : T8.τ = tab := rfl
theorem ctx_StaticT_c : T8.Γ = lkC [(45, Tl)] := rfl
theorem ctx_StaticT_d : T8.dp = 60 := rfl
theorem ctx_StaticT_b : T8.Δ = lkB [] := rfl
theorem ctx_StaticT_u : T8.cuts = [] := rfl
theorem ctx_StaticT_w : T8.wr = false := rfl
set_option maxRecDepth 100000 in
theorem good_StaticT : M7 Try.prog (25, L5) := by
  refine ⟨He Try.func25 (by kernel_rfl) rfl, ?_⟩
  have K : Nh Try.prog T8 := Hl Ny Ht (by
    intro p hp
    simp only [List.mem_cons, List.not_mem_nil, or_false] at hp
    rcases hp with rfl
    · exact good_noneT) (by simp)
  obtain ⟨c, hc⟩ : ∃ c, Try.f25.body = some c := ⟨_, rfl⟩
  refine Hm K Try.func25 hc [.tmp 2] rfl 6 rfl (fun cvs hpre => ?_)
  change L5.pre cvs at hpre
  unfold L5 at hpre
  obtain ⟨⟨t⟩, rfl, ht⟩ := Nw hpre
  simp only at ht
  have h := static_none t
  simp only [Try.f25, Option.some.injEq] at hc
  subst hc
  (sym =>
   simp [h,Gt,Gv,Gx,Gu,szN,Gw,ctx_StaticT_t,ctx_StaticT_c,ctx_StaticT_d,ctx_StaticT_b,ctx_StaticT_u,ctx_StaticT_w,L5.eq_def,Tl.eq_def,Za,Zb,Zc,Ze,Zf,Zg,Zn,Zo,Zp,Zq,Zr,Zs,Zv,Z1,Z8,Z9,Qa,Qb,Qc,Qd,Qe,Qf,Qg,Qk,Qm,Qn,Qo,Qp,Qr,Q0,Q1,Q4,Q8,Q9,Ja,Jb,Jc,Jd,Je,Jf,Jg,Jh,Ji,Jj,Jk,Jl,Jt,Jy,Jz,J5,J6,Xh,Xi,Xj,Xk,Xl,Xm,Xn,Xo,Xp,Xq,Xr,Xs,Xt,Xu,Xv,Xy,X1,X2,X3,X4,X5,X6,X7,X8,We,Wf,Wg,Wh,Wi,Wj,Wl,Wn,Wo,Wp,Ws,Wt,Wu,Wv,Ww,Wx,Wy,Wz,W0,W3,W4,W5,W6,W7,W8,W9,Ya,Yb,Yc,Yd,Ye,Yf,Yg,Yh,Yi,Yj,Yk,Yl,Ym,Yn,Yo,Yv,Yw,Yx,Yy,Yz,Y1,Y2,Y3,Y4,Y5,Y6,Y7,Y8,Y9,Va,Vb,Vc,Vd,Ve,Vf,Vg,Vh,Vi,Vj,Vk,Vl,Vm,Vn,Vo,Vp,Vq,Vr,Vs,Vt,Vu,Vv,Vw,Vx,Vy,Vz,V0,V1,V2,V3,V4,V5,V6,V7,V8,V9,Ua,Ub,Uc,Ud,Ue,Uf,Ug,Uh,Ui,Uj,Uk,Ul,Um,Un,Uo,Up,Uq,Ur,Us,Ut,Uu,Uv,U1,U2,U3,U4,U5,U6,U7,U8,U9,Ka,Kb,Kc,Kd,Ke,Kf,Kg,Kh,Ki,Kj,Kk,Kl,Km,Kn,Ko,Kq,Kr,Ks,Kt,Ku,Kv,Kw,Kx,Ky,Kz,K0,K1,K2,K3,K4,K5,K6,K7,Gg,Gi,Gj,Gk,Gl,Gm,Gn,Gr,Hg,Hc,Hb,Mt]
   tactic =>
    try simp only [G6] at *
    try simp only [nc2] at *
    try simp (maxSteps := 4000000) only [h,Gt,Gv,Gx,Gu,szN,Gw,Hi]
    repeat' (first | with_reducible assumption | with_reducible refine And.intro ?_ ?_ | intro _ | omega | (rw [Gy]; omega)))
def fineT (t : List Node) : Bool := Bc t && (Dg t && Bz t)
def okC (l : List Ch) (k : Nat) : Bool := !(ltB (si l k) 1 || (ltB 0 (k : Int) && leB (si l k) (si l (k - 1)))) && fineT (ty l k)
def right11 (l : List Ch) : Bool := (List.range l.length).all (okC l)
def Nv : Con := Sn (fun (l : Sl Ch) => FitC l.l) (fun l => right11 l.l)
noncomputable def Ca : Ctx := ⟨tab, lkC [(10, H5), (26, M5), (27, P7)], 60, lkB [], [], false⟩
theorem Oe : Ca.τ = tab := rfl
theorem Og : Ca.Γ = lkC [(10, H5), (26, M5), (27, P7)] := rfl
theorem Of : Ca.dp = 60 := rfl
theorem Oh : Ca.Δ = lkB [] := rfl
theorem Od : Ca.cuts = [] := rfl
theorem Oc : Ca.wr = false := rfl
set_option maxRecDepth 100000 in
theorem good_Right11 : M7 Try.prog (9, Nv) := by
  refine ⟨He Try.func9 (by kernel_rfl) rfl, ?_⟩
  have K : Nh Try.prog Ca := Hl Ny Ht (by
    intro p hp
    simp only [List.mem_cons, List.not_mem_nil, or_false] at hp
    rcases hp with rfl | rfl | rfl
    · exact Ib
    · exact good_Plain3
    · exact good_Static3) (by simp)
  obtain ⟨c, hc⟩ : ∃ c, Try.f9.body = some c := ⟨_, rfl⟩
  refine Hm K Try.func9 hc [.tmp 2] rfl 59 rfl (fun cvs hpre => ?_)
  change Nv.pre cvs at hpre
  unfold Nv at hpre
  obtain ⟨⟨l⟩, rfl, hF⟩ := Nw hpre
  obtain ⟨hl, hC⟩ : FitC l := hF
  clear hpre
  obtain ⟨R, hR⟩ : ∃ R, right11 l = R := ⟨_, rfl⟩
  have hR2 := hR
  unfold right11 at hR2
  simp only [Try.f9, Option.some.injEq] at hc
  subst hc
  refine Mn 3 (of_decide_eq_true (by kernel_rfl)) ?_
  (sym =>
   simp [szC,Oe,Og,Of,Oh,Od,Oc,M5.eq_def,Nv.eq_def,H5.eq_def,P7.eq_def,Za,Zb,Zc,Zd,Ze,Zf,Zg,Zh,Zi,Zj,Zk,Zl,Zm,Zn,Zo,Zp,Zq,Zr,Zs,Zt,Zv,Zx,Zy,Z5,Z8,Z9,Qa,Qb,Qc,Qd,Qe,Qf,Qg,Qk,Ql,Qm,Qn,Qo,Qp,Qq,Qr,Q0,Q1,Q4,Q5,Q6,Q8,Q9,Ja,Jf,Jh,Ji,Jj,Jk,Jl,Jt,Jx,Jy,Jz,J0,J1,J2,J5,J6,J7,J8,J9,Xa,Xb,Xc,Xd,Xe,Xf,Xg,Xj,Xk,Xl,Xm,Xn,Xo,Xp,Xq,Xr,Xs,Xt,Xu,Xv,Xw,Xx,Xy,X1,X2,X3,X4,X5,X6,X7,X8,We,Wf,Wg,Wh,Wi,Wj,Wl,Wm,Wn,Wo,Wp,Wq,Wr,Ws,Wt,Wu,Wv,Ww,Wx,Wy,Wz,W0,W3,W4,W5,W6,W7,W8,W9,Ya,Yb,Yc,Yd,Ye,Yf,Yg,Yh,Yi,Yj,Yk,Yl,Ym,Yn,Yo,Yr,Ys,Yt,Yu,Yv,Yw,Yx,Yy,Yz,Y1,Y2,Y3,Y4,Y5,Y6,Y7,Y8,Y9,Va,Vb,Vc,Vd,Ve,Vf,Vg,Vh,Vi,Vj,Vk,Vl,Vm,Vn,Vo,Vp,Vq,Vr,Vs,Vt,Vu,Vv,Vw,Vx,Vy,Vz,V0,V1,V2,V3,V4,V5,V6,V7,V8,V9,Ua,Ub,Uc,Ud,Ue,Uf,Ug,Uh,Ui,Uj,Uk,Ul,Um,Un,Uo,Up,Uq,Ur,Us,Ut,Uu,Uv,U1,U2,U5,U6,U7,U8,U9,Ka,Kb,Kc,Kd,Ke,Kf,Kg,Kh,Ki,Kj,Kk,Kl,Km,Kn,Ko,Kq,Kr,Ks,Kt,Ku,Kv,Kw,Kx,Ky,Kz,K0,K1,K2,K3,K4,K5,K6,K7,Gg,Gi,Gj,Gk,Gl,Gm,Gn,Gr,Gs,Hg,Nf,Md,Hc,Mc,Hb]
   tactic =>
    try simp only [G6] at *
    try simp only [nc2] at *
    try simp (maxSteps := 4000000) only [szC,Hi]
    repeat' (first | with_reducible assumption | with_reducible refine And.intro ?_ ?_ | intro _ | omega | (rw [Gy]; omega))
    refine Ho [2, 4, 5, 6, 7, 8, 9, 10, 11, 12, 13, 14, 15, 16, 17, 18, 19, 20, 21, 22, 23, 24, 25, 26, 27, 28, 29, 30, 31, 32, 33, 34, 35, 36, 37, 38, 39, 40, 41, 42, 43, 44, 45, 46, 47, 48, 49, 50, 51, 52, 53, 54, 55, 56, 57, 58] (fun k : Nat => [(3, .d (.int .i64 k))]) (fun k : Nat => []) (fun k : Nat => k ≤ l.length ∧ ∀ j, j < k → okC l j = true) (fun k : Nat => l.length - k) 0 ?_ ?_ ?_
    · simp
    · ((try simp only [G3, Ha, G5, Hf, upd, Hh, Hn, Na, Nat.reduceDiv, Nat.reduceMod, Nat.reduceMul, Nat.reduceAdd, Nat.reduceEqDiff, List.set_cons_zero, List.set_cons_succ, if_true, if_false, reduceIte]); (first | refine Wk.of_fl ?_ | skip); simp only [Wk, wkK, Nd, wkT, wk1, AV.kept, keptAll, wkO, lk, G4, and_true, true_and, and_self, Nat.reduceEqDiff, Nat.reduceLeDiff, if_true, if_false, reduceIte, reduceCtorEq, Option.isSome, false_implies]; try simp [Wk, wkK, wkT, wk1, AV.kept, keptAll, wkO, lk, G4])
    rintro k ⟨hk, hno⟩
    rcases Hq k l.length with ⟨hlt, hlb⟩ | ⟨hlt, hlb⟩
    · have q1 := H7 c0 hlt
      have hst : okC l k = true → ∀ j, j < k + 1 → okC l j = true := fun h => upTo2 hno h
      have hbad : okC l k = false → R = false := fun h => by rw [← hR2]; exact C3 k hlt h
      obtain ⟨hf1, hf2⟩ := hC (l.getD k c0) (by simp [hlt])
      unfold okC si ty fineT at hst hbad
      have q2 := H7 c0 (show k - 1 < l.length by omega)
      have hk1 : ((k : Int) - 1).toNat = k - 1 := by omega
      obtain ⟨y, hy⟩ : ∃ y, l.getD (k - 1) c0 = y := ⟨_, rfl⟩
      obtain ⟨x, hx⟩ : ∃ x, l.getD k c0 = x := ⟨_, rfl⟩
      rw [hx] at q1 hst hbad hf1 hf2
      rw [hy] at q2 hst hbad
      obtain ⟨b1, h1⟩ : ∃ b, ltB x.site 1 = b := ⟨_, rfl⟩
      obtain ⟨b2, h2⟩ : ∃ b, ltB 0 (k : Int) = b := ⟨_, rfl⟩
      obtain ⟨b3, h3⟩ : ∃ b, leB x.site y.site = b := ⟨_, rfl⟩
      obtain ⟨b4, h4⟩ : ∃ b, Bc x.t = b := ⟨_, rfl⟩
      obtain ⟨b5, h5⟩ : ∃ b, Dg x.t = b := ⟨_, rfl⟩
      obtain ⟨b6, h6⟩ : ∃ b, Bz x.t = b := ⟨_, rfl⟩
      rw [h1, h2, h3, h4, h5, h6] at hst hbad
      have hk0 : b2 = true → 0 ≤ (k : Int) - 1 ∧ (k : Int) - 1 < l.length := fun e => by rw [e, Ba] at h2; omega
      (sym =>
       simp [hlb,q1,q2,hk1,h1,h2,h3,h4,h5,h6,hR,My,szC,szN,Oe,Og,Of,Oh,Od,Oc,M5.eq_def,Nv.eq_def,H5.eq_def,P7.eq_def,Za,Zb,Zc,Zd,Ze,Zf,Zg,Zh,Zi,Zj,Zk,Zl,Zm,Zn,Zo,Zp,Zq,Zr,Zs,Zt,Zv,Zx,Zy,Z5,Z8,Z9,Qa,Qb,Qc,Qd,Qe,Qf,Qg,Qk,Ql,Qm,Qn,Qo,Qp,Qq,Qr,Q0,Q1,Q4,Q5,Q6,Q8,Q9,Ja,Jf,Jh,Ji,Jj,Jk,Jl,Jt,Jx,Jy,Jz,J0,J1,J2,J5,J6,J7,J8,J9,Xa,Xb,Xc,Xd,Xe,Xf,Xg,Xj,Xk,Xl,Xm,Xn,Xo,Xp,Xq,Xr,Xs,Xt,Xu,Xv,Xw,Xx,Xy,X1,X2,X3,X4,X5,X6,X7,X8,We,Wf,Wg,Wh,Wi,Wj,Wl,Wm,Wn,Wo,Wp,Wq,Wr,Ws,Wt,Wu,Wv,Ww,Wx,Wy,Wz,W0,W3,W4,W5,W6,W7,W8,W9,Ya,Yb,Yc,Yd,Ye,Yf,Yg,Yh,Yi,Yj,Yk,Yl,Ym,Yn,Yo,Yr,Ys,Yt,Yu,Yv,Yw,Yx,Yy,Yz,Y1,Y2,Y3,Y4,Y5,Y6,Y7,Y8,Y9,Va,Vb,Vc,Vd,Ve,Vf,Vg,Vh,Vi,Vj,Vk,Vl,Vm,Vn,Vo,Vp,Vq,Vr,Vs,Vt,Vu,Vv,Vw,Vx,Vy,Vz,V0,V1,V2,V3,V4,V5,V6,V7,V8,V9,Ua,Ub,Uc,Ud,Ue,Uf,Ug,Uh,Ui,Uj,Uk,Ul,Um,Un,Uo,Up,Uq,Ur,Us,Ut,Uu,Uv,U1,U2,U5,U6,U7,U8,U9,Ka,Kb,Kc,Kd,Ke,Kf,Kg,Kh,Ki,Kj,Kk,Kl,Km,Kn,Ko,Kq,Kr,Ks,Kt,Ku,Kv,Kw,Kx,Ky,Kz,K0,K1,K2,K3,K4,K5,K6,K7,Gg,Gi,Gj,Gk,Gl,Gm,Gn,Gr,Gs,Hg,Nf,Md,Hc,Mc,Hb]
       tactic =>
        try simp only [G6] at *
        try simp only [nc2] at *
        try simp (maxSteps := 4000000) only [hlb,q1,q2,hk1,h1,h2,h3,h4,h5,h6,hR,My,szC,szN,Hi]
        repeat' (first | with_reducible assumption | with_reducible refine And.intro ?_ ?_ | intro _ | omega | (rw [Gy]; omega))
        all_goals first
          | (with_reducible refine Hu ?_; kernel_rfl)
          | omega
          | assumption
          | (have := hk0 ‹_›; omega)
          | (rw [Gy]; omega)
          | (symm; apply hbad; clear hbad hst hno; simp_all; done)
          | (refine ⟨k + 1, by ((try simp only [G3, Ha, G5, Hf, upd, Hh, Hn, Na, Nat.reduceDiv, Nat.reduceMod, Nat.reduceMul, Nat.reduceAdd, Nat.reduceEqDiff, List.set_cons_zero, List.set_cons_succ, if_true, if_false, reduceIte]); (first | refine Wk.of_fl ?_ | skip); simp only [Wk, wkK, Nd, wkT, wk1, AV.kept, keptAll, wkO, lk, G4, and_true, true_and, and_self, Nat.reduceEqDiff, Nat.reduceLeDiff, if_true, if_false, reduceIte, reduceCtorEq, Option.isSome, false_implies]; try simp [Wk, wkK, wkT, wk1, AV.kept, keptAll, wkO, lk, G4]), by omega, hst ?_, by omega⟩; clear hbad hst hno; simp_all; done)
          | skip)
    · have hr : R = true := by
        rw [← hR2]
        exact Cg fun j hj => hno j (by omega)
      subst hr
      (sym =>
       simp [hlb,hR,szC,Oe,Og,Of,Oh,Od,Oc,M5.eq_def,Nv.eq_def,H5.eq_def,P7.eq_def,Za,Zb,Zc,Zd,Ze,Zf,Zg,Zh,Zi,Zj,Zk,Zl,Zm,Zn,Zo,Zp,Zq,Zr,Zs,Zt,Zv,Zx,Zy,Z5,Z8,Z9,Qa,Qb,Qc,Qd,Qe,Qf,Qg,Qk,Ql,Qm,Qn,Qo,Qp,Qq,Qr,Q0,Q1,Q4,Q5,Q6,Q8,Q9,Ja,Jf,Jh,Ji,Jj,Jk,Jl,Jt,Jx,Jy,Jz,J0,J1,J2,J5,J6,J7,J8,J9,Xa,Xb,Xc,Xd,Xe,Xf,Xg,Xj,Xk,Xl,Xm,Xn,Xo,Xp,Xq,Xr,Xs,Xt,Xu,Xv,Xw,Xx,Xy,X1,X2,X3,X4,X5,X6,X7,X8,We,Wf,Wg,Wh,Wi,Wj,Wl,Wm,Wn,Wo,Wp,Wq,Wr,Ws,Wt,Wu,Wv,Ww,Wx,Wy,Wz,W0,W3,W4,W5,W6,W7,W8,W9,Ya,Yb,Yc,Yd,Ye,Yf,Yg,Yh,Yi,Yj,Yk,Yl,Ym,Yn,Yo,Yr,Ys,Yt,Yu,Yv,Yw,Yx,Yy,Yz,Y1,Y2,Y3,Y4,Y5,Y6,Y7,Y8,Y9,Va,Vb,Vc,Vd,Ve,Vf,Vg,Vh,Vi,Vj,Vk,Vl,Vm,Vn,Vo,Vp,Vq,Vr,Vs,Vt,Vu,Vv,Vw,Vx,Vy,Vz,V0,V1,V2,V3,V4,V5,V6,V7,V8,V9,Ua,Ub,Uc,Ud,Ue,Uf,Ug,Uh,Ui,Uj,Uk,Ul,Um,Un,Uo,Up,Uq,Ur,Us,Ut,Uu,Uv,U1,U2,U5,U6,U7,U8,U9,Ka,Kb,Kc,Kd,Ke,Kf,Kg,Kh,Ki,Kj,Kk,Kl,Km,Kn,Ko,Kq,Kr,Ks,Kt,Ku,Kv,Kw,Kx,Ky,Kz,K0,K1,K2,K3,K4,K5,K6,K7,Gg,Gi,Gj,Gk,Gl,Gm,Gn,Gr,Gs,Hg,Nf,Md,Hc,Mc,Hb]))
def lastC (l : List Ch) : Nat → Int
  | 0 => 0
  | k + 1 => si l k
def okA (l : List Ch) (k : Nat) : Bool := !(leB (si l k) (lastC l k)) && fineT (ty l k)
def rightA (l : List Ch) : Bool := (List.range l.length).all (okA l)
theorem right_A (l : List Ch) : rightA l = right11 l := by
  have h : ∀ n, (∀ j, j < n → okA l j = true) ↔ ∀ j, j < n → okC l j = true := by
    intro n
    induction n with
    | zero => exact ⟨fun _ j hj => by omega, fun _ j hj => by omega⟩
    | succ n ih =>
      have hstep : (∀ j, j < n → okC l j = true) → okA l n = okC l n := by
        intro hno
        unfold okA okC
        congr 2
        cases n with
        | zero =>
          show leB (si l 0) 0 = _
          rw [show ltB 0 ((0 : Nat) : Int) = false from rfl, Bool.false_and, Bool.or_false, Bool.eq_iff_iff, Lp, Ba]
          omega
        | succ m =>
          show leB (si l (m + 1)) (si l m) = _
          rw [show ltB 0 ((m + 1 : Nat) : Int) = true by rw [Ba]; omega, Bool.true_and, Nat.add_sub_cancel]
          have h1 := hno m (by omega)
          unfold okC at h1
          simp only [Bool.and_eq_true, Bool.not_eq_true', Bool.or_eq_false_iff] at h1
          have h2 := h1.1.1
          rw [Me] at h2
          rw [Bool.eq_iff_iff, Bool.or_eq_true, Lp, Ba]
          omega
      constructor
      · intro hA
        have hC := ih.1 fun j hj => hA j (by omega)
        exact upTo2 hC (by rw [← hstep hC]; exact hA n (by omega))
      · intro hC
        have hC2 : ∀ j, j < n → okC l j = true := fun j hj => hC j (by omega)
        exact upTo2 (ih.2 hC2) (by rw [hstep hC2]; exact hC n (by omega))
  unfold rightA right11
  rw [Bool.eq_iff_iff, List.all_eq_true, List.all_eq_true]
  constructor
  · intro hA j hj
    exact (h l.length).1 (fun j hj => hA j (List.mem_range.2 hj)) j (List.mem_range.1 hj)
  · intro hC j hj
    exact (h l.length).2 (fun j hj => hC j (List.mem_range.2 hj)) j (List.mem_range.1 hj)
def ShortC (l : List Ch) : Prop := l.length ≤ 1000000 ∧ ∀ c ∈ l, c.t.length ≤ 1000000 ∧ I0 c.t
def M9 : Con := Sn (fun (l : Sl Ch) => ShortC l.l) (fun l => right11 l.l)
noncomputable def Dr : Ctx := ⟨tab, lkC [(23, Pr), (24, Te), (25, L5)], 60, lkB [], [], false⟩
theorem ctx_RightA_t : Dr.τ = tab := rfl
theorem ctx_RightA_c : Dr.Γ = lkC [(23, Pr), (24, Te), (25, L5)] := rfl
theorem ctx_RightA_d : Dr.dp = 60 := rfl
theorem ctx_RightA_b : Dr.Δ = lkB [] := rfl
theorem ctx_RightA_u : Dr.cuts = [] := rfl
theorem ctx_RightA_w : Dr.wr = false := rfl
set_option maxRecDepth 100000 in
theorem good_RightA : M7 Try.prog (8, M9) := by
  refine ⟨He Try.func8 (by kernel_rfl) rfl, ?_⟩
  have K : Nh Try.prog Dr := Hl Ny Ht (by
    intro p hp
    simp only [List.mem_cons, List.not_mem_nil, or_false] at hp
    rcases hp with rfl | rfl | rfl
    · exact good_RightT
    · exact good_PlainT
    · exact good_StaticT) (by simp)
  obtain ⟨c, hc⟩ : ∃ c, Try.f8.body = some c := ⟨_, rfl⟩
  refine Hm K Try.func8 hc [.tmp 2] rfl 37 rfl (fun cvs hpre => ?_)
  change M9.pre cvs at hpre
  unfold M9 at hpre
  obtain ⟨⟨l⟩, rfl, hF⟩ := Nw hpre
  obtain ⟨hl, hC⟩ : ShortC l := hF
  clear hpre
  have hRA := right_A l
  obtain ⟨R, hR⟩ : ∃ R, right11 l = R := ⟨_, rfl⟩
  rw [hR] at hRA
  unfold rightA at hRA
  simp only [Try.f8, Option.some.injEq] at hc
  subst hc
  refine Mn 2 (of_decide_eq_true (by kernel_rfl)) ?_
  (sym =>
   simp [szC,ctx_RightA_t,ctx_RightA_c,ctx_RightA_d,ctx_RightA_b,ctx_RightA_u,ctx_RightA_w,Te.eq_def,M9.eq_def,Pr.eq_def,L5.eq_def,Za,Zb,Zc,Zd,Ze,Zf,Zg,Zn,Zo,Zp,Zq,Zr,Zs,Zt,Zu,Zv,Zw,Zx,Zy,Z5,Z8,Z9,Qa,Qb,Qc,Qd,Qe,Qf,Qg,Qj,Qk,Ql,Qm,Qn,Qo,Qp,Qr,Q0,Q1,Q4,Q8,Q9,Ja,Jf,Jh,Ji,Jj,Jk,Jl,Jt,Jx,Jy,Jz,J0,J1,J2,J5,J6,J7,J8,J9,Xa,Xb,Xc,Xd,Xe,Xf,Xg,Xj,Xk,Xl,Xm,Xn,Xo,Xp,Xq,Xr,Xs,Xt,Xu,Xv,Xw,Xx,Xy,Xz,X1,X2,X3,X4,X5,X6,X7,X8,We,Wf,Wg,Wh,Wi,Wj,Wl,Wm,Wn,Wo,Wp,Ws,Wt,Wu,Wv,Ww,Wx,Wy,Wz,W0,W3,W4,W5,W6,W7,W8,W9,Ya,Yb,Yc,Yd,Ye,Yf,Yg,Yh,Yi,Yj,Yk,Yl,Ym,Yn,Yo,Yr,Ys,Yt,Yu,Yv,Yw,Yx,Yy,Yz,Y1,Y2,Y3,Y4,Y5,Y6,Y7,Y8,Y9,Va,Vb,Vc,Vd,Ve,Vf,Vg,Vh,Vi,Vj,Vk,Vl,Vm,Vn,Vo,Vp,Vq,Vr,Vs,Vt,Vu,Vv,Vw,Vx,Vy,Vz,V0,V1,V2,V3,V4,V5,V6,V7,V8,V9,Ua,Ub,Uc,Ud,Ue,Uf,Ug,Uh,Ui,Uj,Uk,Ul,Um,Un,Uo,Up,Uq,Ur,Us,Ut,Uu,Uv,Uw,Ux,Uy,Uz,U0,U1,U2,U5,U6,U7,U8,U9,Ka,Kb,Kc,Kd,Ke,Kf,Kg,Kh,Ki,Kj,Kk,Kl,Km,Kn,Ko,Kq,Kr,Ks,Kt,Ku,Kv,Kw,Kx,Ky,Kz,K0,K1,K2,K3,K4,K5,K6,K7,Gg,Gi,Gj,Gk,Gl,Gm,Gn,Gr,Hg,Nf,Md,Hc,Mc,Hb]
   tactic =>
    try simp only [G6] at *
    try simp only [nc2] at *
    try simp (maxSteps := 4000000) only [szC,Hi]
    repeat' (first | with_reducible assumption | with_reducible refine And.intro ?_ ?_ | intro _ | omega | (rw [Gy]; omega))
    refine Ho [2, 5, 9, 10, 11, 12, 13, 14, 15, 16, 17, 18, 19, 20, 21, 22, 23, 24, 25, 26, 27, 28, 29, 30, 31, 32, 33, 34, 35, 36] (fun k : Nat => [(3, .d (.int .i64 (lastC l k))), (8, .d (.int .i64 k))]) (fun k : Nat => []) (fun k : Nat => k ≤ l.length ∧ ∀ j, j < k → okA l j = true) (fun k : Nat => l.length - k) 0 ?_ ?_ ?_
    · simp
    · ((try simp only [G3, Ha, G5, Hf, upd, Hh, Hn, Na, Nat.reduceDiv, Nat.reduceMod, Nat.reduceMul, Nat.reduceAdd, Nat.reduceEqDiff, List.set_cons_zero, List.set_cons_succ, if_true, if_false, reduceIte]); (first | refine Wk.of_fl ?_ | skip); simp only [Wk, wkK, Nd, wkT, wk1, AV.kept, keptAll, wkO, lk, G4, and_true, true_and, and_self, Nat.reduceEqDiff, Nat.reduceLeDiff, if_true, if_false, reduceIte, reduceCtorEq, Option.isSome, false_implies]; try simp [Wk, wkK, wkT, wk1, AV.kept, keptAll, wkO, lk, G4, lastC])
    rintro k ⟨hk, hno⟩
    rcases Hq k l.length with ⟨hlt, hlb⟩ | ⟨hlt, hlb⟩
    · have q1 := H7 c0 hlt
      have hst : okA l k = true → ∀ j, j < k + 1 → okA l j = true := fun h => upTo2 hno h
      have hbad : okA l k = false → R = false := fun h => by rw [← hRA]; exact C3 k hlt h
      obtain ⟨hf1, hf2⟩ := hC (l.getD k c0) (by simp [hlt])
      have hrs := right_same (l.getD k c0).t
      have hlast : lastC l (k + 1) = (l.getD k c0).site := rfl
      unfold okA si ty fineT at hst hbad
      obtain ⟨la, hla⟩ : ∃ z, lastC l k = z := ⟨_, rfl⟩
      obtain ⟨x, hx⟩ : ∃ x, l.getD k c0 = x := ⟨_, rfl⟩
      rw [hx] at q1 hst hbad hf1 hf2 hrs hlast
      rw [hla] at hst hbad
      rw [hla]
      obtain ⟨b1, h1⟩ : ∃ b, leB x.site la = b := ⟨_, rfl⟩
      obtain ⟨b4, h4⟩ : ∃ b, Bc x.t = b := ⟨_, rfl⟩
      obtain ⟨b5, h5⟩ : ∃ b, Dg x.t = b := ⟨_, rfl⟩
      obtain ⟨b6, h6⟩ : ∃ b, Bz x.t = b := ⟨_, rfl⟩
      rw [h4] at hrs
      rw [h1, h4, h5, h6] at hst hbad
      (sym =>
       simp [hlb,q1,h1,hrs,h5,h6,hR,My,szC,szN,ctx_RightA_t,ctx_RightA_c,ctx_RightA_d,ctx_RightA_b,ctx_RightA_u,ctx_RightA_w,Te.eq_def,M9.eq_def,Pr.eq_def,L5.eq_def,Za,Zb,Zc,Zd,Ze,Zf,Zg,Zn,Zo,Zp,Zq,Zr,Zs,Zt,Zu,Zv,Zw,Zx,Zy,Z5,Z8,Z9,Qa,Qb,Qc,Qd,Qe,Qf,Qg,Qj,Qk,Ql,Qm,Qn,Qo,Qp,Qr,Q0,Q1,Q4,Q8,Q9,Ja,Jf,Jh,Ji,Jj,Jk,Jl,Jt,Jx,Jy,Jz,J0,J1,J2,J5,J6,J7,J8,J9,Xa,Xb,Xc,Xd,Xe,Xf,Xg,Xj,Xk,Xl,Xm,Xn,Xo,Xp,Xq,Xr,Xs,Xt,Xu,Xv,Xw,Xx,Xy,Xz,X1,X2,X3,X4,X5,X6,X7,X8,We,Wf,Wg,Wh,Wi,Wj,Wl,Wm,Wn,Wo,Wp,Ws,Wt,Wu,Wv,Ww,Wx,Wy,Wz,W0,W3,W4,W5,W6,W7,W8,W9,Ya,Yb,Yc,Yd,Ye,Yf,Yg,Yh,Yi,Yj,Yk,Yl,Ym,Yn,Yo,Yr,Ys,Yt,Yu,Yv,Yw,Yx,Yy,Yz,Y1,Y2,Y3,Y4,Y5,Y6,Y7,Y8,Y9,Va,Vb,Vc,Vd,Ve,Vf,Vg,Vh,Vi,Vj,Vk,Vl,Vm,Vn,Vo,Vp,Vq,Vr,Vs,Vt,Vu,Vv,Vw,Vx,Vy,Vz,V0,V1,V2,V3,V4,V5,V6,V7,V8,V9,Ua,Ub,Uc,Ud,Ue,Uf,Ug,Uh,Ui,Uj,Uk,Ul,Um,Un,Uo,Up,Uq,Ur,Us,Ut,Uu,Uv,Uw,Ux,Uy,Uz,U0,U1,U2,U5,U6,U7,U8,U9,Ka,Kb,Kc,Kd,Ke,Kf,Kg,Kh,Ki,Kj,Kk,Kl,Km,Kn,Ko,Kq,Kr,Ks,Kt,Ku,Kv,Kw,Kx,Ky,Kz,K0,K1,K2,K3,K4,K5,K6,K7,Gg,Gi,Gj,Gk,Gl,Gm,Gn,Gr,Hg,Nf,Md,Hc,Mc,Hb]
       tactic =>
        try simp only [G6] at *
        try simp only [nc2] at *
        try simp (maxSteps := 4000000) only [hlb,q1,h1,hrs,h5,h6,hR,My,szC,szN,Hi]
        repeat' (first | with_reducible assumption | with_reducible refine And.intro ?_ ?_ | intro _ | omega | (rw [Gy]; omega))
        all_goals first
          | (with_reducible refine Hu ?_; kernel_rfl)
          | omega
          | assumption
          | (symm; apply hbad; clear hbad hst hno; simp_all; done)
          | (refine ⟨k + 1, by rw [hlast]; ((try simp only [G3, Ha, G5, Hf, upd, Hh, Hn, Na, Nat.reduceDiv, Nat.reduceMod, Nat.reduceMul, Nat.reduceAdd, Nat.reduceEqDiff, List.set_cons_zero, List.set_cons_succ, if_true, if_false, reduceIte]); (first | refine Wk.of_fl ?_ | skip); simp only [Wk, wkK, Nd, wkT, wk1, AV.kept, keptAll, wkO, lk, G4, and_true, true_and, and_self, Nat.reduceEqDiff, Nat.reduceLeDiff, if_true, if_false, reduceIte, reduceCtorEq, Option.isSome, false_implies]; try simp [Wk, wkK, wkT, wk1, AV.kept, keptAll, wkO, lk, G4]), by omega, hst ?_, by omega⟩; clear hbad hst hno; simp_all; done)
          | skip)
    · have hr : R = true := by
        rw [← hRA]
        exact Cg fun j hj => hno j (by omega)
      subst hr
      (sym =>
       simp [hlb,hR,szC,ctx_RightA_t,ctx_RightA_c,ctx_RightA_d,ctx_RightA_b,ctx_RightA_u,ctx_RightA_w,Te.eq_def,M9.eq_def,Pr.eq_def,L5.eq_def,Za,Zb,Zc,Zd,Ze,Zf,Zg,Zn,Zo,Zp,Zq,Zr,Zs,Zt,Zu,Zv,Zw,Zx,Zy,Z5,Z8,Z9,Qa,Qb,Qc,Qd,Qe,Qf,Qg,Qj,Qk,Ql,Qm,Qn,Qo,Qp,Qr,Q0,Q1,Q4,Q8,Q9,Ja,Jf,Jh,Ji,Jj,Jk,Jl,Jt,Jx,Jy,Jz,J0,J1,J2,J5,J6,J7,J8,J9,Xa,Xb,Xc,Xd,Xe,Xf,Xg,Xj,Xk,Xl,Xm,Xn,Xo,Xp,Xq,Xr,Xs,Xt,Xu,Xv,Xw,Xx,Xy,Xz,X1,X2,X3,X4,X5,X6,X7,X8,We,Wf,Wg,Wh,Wi,Wj,Wl,Wm,Wn,Wo,Wp,Ws,Wt,Wu,Wv,Ww,Wx,Wy,Wz,W0,W3,W4,W5,W6,W7,W8,W9,Ya,Yb,Yc,Yd,Ye,Yf,Yg,Yh,Yi,Yj,Yk,Yl,Ym,Yn,Yo,Yr,Ys,Yt,Yu,Yv,Yw,Yx,Yy,Yz,Y1,Y2,Y3,Y4,Y5,Y6,Y7,Y8,Y9,Va,Vb,Vc,Vd,Ve,Vf,Vg,Vh,Vi,Vj,Vk,Vl,Vm,Vn,Vo,Vp,Vq,Vr,Vs,Vt,Vu,Vv,Vw,Vx,Vy,Vz,V0,V1,V2,V3,V4,V5,V6,V7,V8,V9,Ua,Ub,Uc,Ud,Ue,Uf,Ug,Uh,Ui,Uj,Uk,Ul,Um,Un,Uo,Up,Uq,Ur,Us,Ut,Uu,Uv,Uw,Ux,Uy,Uz,U0,U1,U2,U5,U6,U7,U8,U9,Ka,Kb,Kc,Kd,Ke,Kf,Kg,Kh,Ki,Kj,Kk,Kl,Km,Kn,Ko,Kq,Kr,Ks,Kt,Ku,Kv,Kw,Kx,Ky,Kz,K0,K1,K2,K3,K4,K5,K6,K7,Gg,Gi,Gj,Gk,Gl,Gm,Gn,Gr,Hg,Nf,Md,Hc,Mc,Hb]))
def O3 (l : List Ch) (most : Int) : Bool := !ltB most (l.length : Int) && (l.all (fun c => Ss c.t 30) && right11 l)
def H4 : Con := C0 (fun (l : Sl Ch) (_ : Int) => FitC l.l) (fun l m => O3 l.l m)
noncomputable def Fj : Ctx := ⟨tab, lkC [(9, Nv), (14, H8)], 60, lkB [], [], false⟩
theorem F9 : Fj.τ = tab := rfl
theorem Rb : Fj.Γ = lkC [(9, Nv), (14, H8)] := rfl
theorem Ra : Fj.dp = 60 := rfl
theorem Rc : Fj.Δ = lkB [] := rfl
theorem F8 : Fj.cuts = [] := rfl
theorem F7 : Fj.wr = false := rfl
set_option maxRecDepth 100000 in
theorem good_Few11 : M7 Try.prog (11, H4) := by
  refine ⟨He Try.func11 (by kernel_rfl) rfl, ?_⟩
  have K : Nh Try.prog Fj := Hl Ny Ht (by
    intro p hp
    simp only [List.mem_cons, List.not_mem_nil, or_false] at hp
    rcases hp with rfl | rfl
    · exact good_Right11
    · exact good_Plain7) (by simp)
  obtain ⟨c, hc⟩ : ∃ c, Try.f11.body = some c := ⟨_, rfl⟩
  refine Hm K Try.func11 hc [.tmp 4] rfl 25 rfl (fun cvs hpre => ?_)
  change H4.pre cvs at hpre
  unfold H4 at hpre
  obtain ⟨⟨l⟩, m, rfl, hF⟩ := Mp hpre
  obtain ⟨hl, hC⟩ : FitC l := hF
  clear hpre
  obtain ⟨R, hR⟩ : ∃ R, O3 l m = R := ⟨_, rfl⟩
  have hR2 := hR
  unfold O3 at hR2
  cases hm : ltB m (l.length : Int) with
  | true =>
    rw [hm, Bool.not_true, Bool.false_and] at hR2
    subst hR2
    simp only [Try.f11, Option.some.injEq] at hc
    subst hc
    (sym =>
     simp [hm,hR,szC,F9,Rb,Ra,Rc,F8,F7,H4.eq_def,H8.eq_def,Nv.eq_def,Za,Zb,Zc,Ze,Zf,Zg,Zn,Zo,Zp,Zq,Zr,Zs,Zv,Zx,Zy,Z5,Z8,Z9,Qa,Qb,Qc,Qd,Qe,Qf,Qg,Qk,Ql,Qm,Qn,Qo,Qp,Qr,Q0,Q1,Q4,Q8,Q9,Ja,Jf,Jh,Ji,Jj,Jk,Jl,Jt,Jy,Jz,J0,J1,J2,J5,J6,Xj,Xk,Xl,Xm,Xn,Xo,Xp,Xq,Xr,Xs,Xt,Xu,Xv,Xy,X1,X2,X3,X4,X5,X6,X7,X8,We,Wf,Wg,Wh,Wi,Wj,Wl,Wm,Wn,Wo,Wp,Ws,Wt,Wu,Wv,Ww,Wx,Wy,Wz,W0,W3,W4,W5,W6,W7,W8,W9,Ya,Yb,Yc,Yd,Ye,Yf,Yg,Yh,Yi,Yj,Yk,Yl,Ym,Yn,Yo,Yu,Yv,Yw,Yx,Yy,Yz,Y1,Y2,Y3,Y4,Y5,Y6,Y7,Y8,Y9,Va,Vb,Vc,Vd,Ve,Vf,Vg,Vh,Vi,Vj,Vk,Vl,Vm,Vn,Vo,Vp,Vq,Vr,Vs,Vt,Vu,Vv,Vw,Vx,Vy,Vz,V0,V1,V2,V3,V4,V5,V6,V7,V8,V9,Ua,Ub,Uc,Ud,Ue,Uf,Ug,Uh,Ui,Uj,Uk,Ul,Um,Un,Uo,Up,Uq,Ur,Us,Ut,Uu,Uv,U1,U2,U5,U6,U7,U8,U9,Ka,Kb,Kc,Kd,Ke,Kf,Kg,Kh,Ki,Kj,Kk,Kl,Km,Kn,Ko,Kq,Kr,Ks,Kt,Ku,Kv,Kw,Kx,Ky,Kz,K0,K1,K2,K3,K4,K5,K6,K7,Gg,Gi,Gj,Gk,Gl,Gm,Gn,Gr,Hg,Nf,Md,Hc,Mc,Hb])
  | false =>
  rw [hm, Bool.not_false, Bool.true_and] at hR2
  simp only [Try.f11, Option.some.injEq] at hc
  subst hc
  (sym =>
   simp [hm,szC,F9,Rb,Ra,Rc,F8,F7,H4.eq_def,H8.eq_def,Nv.eq_def,Za,Zb,Zc,Ze,Zf,Zg,Zn,Zo,Zp,Zq,Zr,Zs,Zv,Zx,Zy,Z5,Z8,Z9,Qa,Qb,Qc,Qd,Qe,Qf,Qg,Qk,Ql,Qm,Qn,Qo,Qp,Qr,Q0,Q1,Q4,Q8,Q9,Ja,Jf,Jh,Ji,Jj,Jk,Jl,Jt,Jy,Jz,J0,J1,J2,J5,J6,Xj,Xk,Xl,Xm,Xn,Xo,Xp,Xq,Xr,Xs,Xt,Xu,Xv,Xy,X1,X2,X3,X4,X5,X6,X7,X8,We,Wf,Wg,Wh,Wi,Wj,Wl,Wm,Wn,Wo,Wp,Ws,Wt,Wu,Wv,Ww,Wx,Wy,Wz,W0,W3,W4,W5,W6,W7,W8,W9,Ya,Yb,Yc,Yd,Ye,Yf,Yg,Yh,Yi,Yj,Yk,Yl,Ym,Yn,Yo,Yu,Yv,Yw,Yx,Yy,Yz,Y1,Y2,Y3,Y4,Y5,Y6,Y7,Y8,Y9,Va,Vb,Vc,Vd,Ve,Vf,Vg,Vh,Vi,Vj,Vk,Vl,Vm,Vn,Vo,Vp,Vq,Vr,Vs,Vt,Vu,Vv,Vw,Vx,Vy,Vz,V0,V1,V2,V3,V4,V5,V6,V7,V8,V9,Ua,Ub,Uc,Ud,Ue,Uf,Ug,Uh,Ui,Uj,Uk,Ul,Um,Un,Uo,Up,Uq,Ur,Us,Ut,Uu,Uv,U1,U2,U5,U6,U7,U8,U9,Ka,Kb,Kc,Kd,Ke,Kf,Kg,Kh,Ki,Kj,Kk,Kl,Km,Kn,Ko,Kq,Kr,Ks,Kt,Ku,Kv,Kw,Kx,Ky,Kz,K0,K1,K2,K3,K4,K5,K6,K7,Gg,Gi,Gj,Gk,Gl,Gm,Gn,Gr,Hg,Nf,Md,Hc,Mc,Hb]
   tactic =>
    try simp only [G6] at *
    try simp only [nc2] at *
    try simp (maxSteps := 4000000) only [hm,szC,Hi]
    repeat' (first | with_reducible assumption | with_reducible refine And.intro ?_ ?_ | intro _ | omega | (rw [Gy]; omega))
    refine Ho [4, 10, 11, 12, 13, 14, 15, 16, 17, 18, 19, 20, 21, 22] (fun k : Nat => [(5, .d (.int .i64 k))]) (fun k : Nat => []) (fun k : Nat => k ≤ l.length ∧ ∀ j, j < k → Ss (ty l j) 30 = true) (fun k : Nat => l.length - k) 0 ?_ ?_ ?_
    · simp
    · ((try simp only [G3, Ha, G5, Hf, upd, Hh, Hn, Na, Nat.reduceDiv, Nat.reduceMod, Nat.reduceMul, Nat.reduceAdd, Nat.reduceEqDiff, List.set_cons_zero, List.set_cons_succ, if_true, if_false, reduceIte]); (first | refine Wk.of_fl ?_ | skip); simp only [Wk, wkK, Nd, wkT, wk1, AV.kept, keptAll, wkO, lk, G4, and_true, true_and, and_self, Nat.reduceEqDiff, Nat.reduceLeDiff, if_true, if_false, reduceIte, reduceCtorEq, Option.isSome, false_implies]; try simp [Wk, wkK, wkT, wk1, AV.kept, keptAll, wkO, lk, G4])
    rintro k ⟨hk, hno⟩
    rcases Hq k l.length with ⟨hlt, hlb⟩ | ⟨hlt, hlb⟩
    · have q1 := H7 c0 hlt
      have hst : Ss (ty l k) 30 = true → ∀ j, j < k + 1 → Ss (ty l j) 30 = true := fun h => upTo2 hno h
      have hbad : Ss (ty l k) 30 = false → R = false := fun h => by rw [← hR2, Iz (p := fun c : Ch => Ss c.t 30) c0 k hlt h, Bool.false_and]
      obtain ⟨hf1, hf2⟩ := hC (l.getD k c0) (by simp [hlt])
      unfold ty at hst hbad
      obtain ⟨x, hx⟩ : ∃ x, l.getD k c0 = x := ⟨_, rfl⟩
      rw [hx] at q1 hst hbad hf1 hf2
      cases hp : Ss x.t 30 with
      | true =>
        have hs := hst hp
        (sym =>
         simp [hlb,q1,hp,My,szC,szN,F9,Rb,Ra,Rc,F8,F7,H4.eq_def,H8.eq_def,Nv.eq_def,Za,Zb,Zc,Ze,Zf,Zg,Zn,Zo,Zp,Zq,Zr,Zs,Zv,Zx,Zy,Z5,Z8,Z9,Qa,Qb,Qc,Qd,Qe,Qf,Qg,Qk,Ql,Qm,Qn,Qo,Qp,Qr,Q0,Q1,Q4,Q8,Q9,Ja,Jf,Jh,Ji,Jj,Jk,Jl,Jt,Jy,Jz,J0,J1,J2,J5,J6,Xj,Xk,Xl,Xm,Xn,Xo,Xp,Xq,Xr,Xs,Xt,Xu,Xv,Xy,X1,X2,X3,X4,X5,X6,X7,X8,We,Wf,Wg,Wh,Wi,Wj,Wl,Wm,Wn,Wo,Wp,Ws,Wt,Wu,Wv,Ww,Wx,Wy,Wz,W0,W3,W4,W5,W6,W7,W8,W9,Ya,Yb,Yc,Yd,Ye,Yf,Yg,Yh,Yi,Yj,Yk,Yl,Ym,Yn,Yo,Yu,Yv,Yw,Yx,Yy,Yz,Y1,Y2,Y3,Y4,Y5,Y6,Y7,Y8,Y9,Va,Vb,Vc,Vd,Ve,Vf,Vg,Vh,Vi,Vj,Vk,Vl,Vm,Vn,Vo,Vp,Vq,Vr,Vs,Vt,Vu,Vv,Vw,Vx,Vy,Vz,V0,V1,V2,V3,V4,V5,V6,V7,V8,V9,Ua,Ub,Uc,Ud,Ue,Uf,Ug,Uh,Ui,Uj,Uk,Ul,Um,Un,Uo,Up,Uq,Ur,Us,Ut,Uu,Uv,U1,U2,U5,U6,U7,U8,U9,Ka,Kb,Kc,Kd,Ke,Kf,Kg,Kh,Ki,Kj,Kk,Kl,Km,Kn,Ko,Kq,Kr,Ks,Kt,Ku,Kv,Kw,Kx,Ky,Kz,K0,K1,K2,K3,K4,K5,K6,K7,Gg,Gi,Gj,Gk,Gl,Gm,Gn,Gr,Hg,Nf,Md,Hc,Mc,Hb]
         tactic =>
          try simp only [G6] at *
          try simp only [nc2] at *
          try simp (maxSteps := 4000000) only [hlb,q1,hp,My,szC,szN,Hi]
          repeat' (first | with_reducible assumption | with_reducible refine And.intro ?_ ?_ | intro _ | omega | (rw [Gy]; omega))
          all_goals first
            | (with_reducible refine Hu ?_; kernel_rfl)
            | omega
            | assumption
            | exact ⟨k + 1, by ((try simp only [G3, Ha, G5, Hf, upd, Hh, Hn, Na, Nat.reduceDiv, Nat.reduceMod, Nat.reduceMul, Nat.reduceAdd, Nat.reduceEqDiff, List.set_cons_zero, List.set_cons_succ, if_true, if_false, reduceIte]); (first | refine Wk.of_fl ?_ | skip); simp only [Wk, wkK, Nd, wkT, wk1, AV.kept, keptAll, wkO, lk, G4, and_true, true_and, and_self, Nat.reduceEqDiff, Nat.reduceLeDiff, if_true, if_false, reduceIte, reduceCtorEq, Option.isSome, false_implies]; try simp [Wk, wkK, wkT, wk1, AV.kept, keptAll, wkO, lk, G4]), by omega, hs, by omega⟩
            | skip)
      | false =>
        have hr := hbad hp
        subst hr
        (sym =>
         simp [hlb,q1,hp,hR,My,szC,szN,F9,Rb,Ra,Rc,F8,F7,H4.eq_def,H8.eq_def,Nv.eq_def,Za,Zb,Zc,Ze,Zf,Zg,Zn,Zo,Zp,Zq,Zr,Zs,Zv,Zx,Zy,Z5,Z8,Z9,Qa,Qb,Qc,Qd,Qe,Qf,Qg,Qk,Ql,Qm,Qn,Qo,Qp,Qr,Q0,Q1,Q4,Q8,Q9,Ja,Jf,Jh,Ji,Jj,Jk,Jl,Jt,Jy,Jz,J0,J1,J2,J5,J6,Xj,Xk,Xl,Xm,Xn,Xo,Xp,Xq,Xr,Xs,Xt,Xu,Xv,Xy,X1,X2,X3,X4,X5,X6,X7,X8,We,Wf,Wg,Wh,Wi,Wj,Wl,Wm,Wn,Wo,Wp,Ws,Wt,Wu,Wv,Ww,Wx,Wy,Wz,W0,W3,W4,W5,W6,W7,W8,W9,Ya,Yb,Yc,Yd,Ye,Yf,Yg,Yh,Yi,Yj,Yk,Yl,Ym,Yn,Yo,Yu,Yv,Yw,Yx,Yy,Yz,Y1,Y2,Y3,Y4,Y5,Y6,Y7,Y8,Y9,Va,Vb,Vc,Vd,Ve,Vf,Vg,Vh,Vi,Vj,Vk,Vl,Vm,Vn,Vo,Vp,Vq,Vr,Vs,Vt,Vu,Vv,Vw,Vx,Vy,Vz,V0,V1,V2,V3,V4,V5,V6,V7,V8,V9,Ua,Ub,Uc,Ud,Ue,Uf,Ug,Uh,Ui,Uj,Uk,Ul,Um,Un,Uo,Up,Uq,Ur,Us,Ut,Uu,Uv,U1,U2,U5,U6,U7,U8,U9,Ka,Kb,Kc,Kd,Ke,Kf,Kg,Kh,Ki,Kj,Kk,Kl,Km,Kn,Ko,Kq,Kr,Ks,Kt,Ku,Kv,Kw,Kx,Ky,Kz,K0,K1,K2,K3,K4,K5,K6,K7,Gg,Gi,Gj,Gk,Gl,Gm,Gn,Gr,Hg,Nf,Md,Hc,Mc,Hb]
         tactic =>
          try simp only [G6] at *
          try simp only [nc2] at *
          try simp (maxSteps := 4000000) only [hlb,q1,hp,hR,My,szC,szN,Hi]
          repeat' (first | with_reducible assumption | with_reducible refine And.intro ?_ ?_ | intro _ | omega | (rw [Gy]; omega))
          all_goals first
            | (with_reducible refine Hu ?_; kernel_rfl)
            | omega
            | assumption
            | rfl
            | skip)
    · rw [Eb (p := fun c : Ch => Ss c.t 30) c0 fun j hj => hno j (by omega), Bool.true_and] at hR2
      have hF2 : FitC l := ⟨hl, hC⟩
      (sym =>
       simp [hlb,hR2,hR,szC,F9,Rb,Ra,Rc,F8,F7,H4.eq_def,H8.eq_def,Nv.eq_def,Za,Zb,Zc,Ze,Zf,Zg,Zn,Zo,Zp,Zq,Zr,Zs,Zv,Zx,Zy,Z5,Z8,Z9,Qa,Qb,Qc,Qd,Qe,Qf,Qg,Qk,Ql,Qm,Qn,Qo,Qp,Qr,Q0,Q1,Q4,Q8,Q9,Ja,Jf,Jh,Ji,Jj,Jk,Jl,Jt,Jy,Jz,J0,J1,J2,J5,J6,Xj,Xk,Xl,Xm,Xn,Xo,Xp,Xq,Xr,Xs,Xt,Xu,Xv,Xy,X1,X2,X3,X4,X5,X6,X7,X8,We,Wf,Wg,Wh,Wi,Wj,Wl,Wm,Wn,Wo,Wp,Ws,Wt,Wu,Wv,Ww,Wx,Wy,Wz,W0,W3,W4,W5,W6,W7,W8,W9,Ya,Yb,Yc,Yd,Ye,Yf,Yg,Yh,Yi,Yj,Yk,Yl,Ym,Yn,Yo,Yu,Yv,Yw,Yx,Yy,Yz,Y1,Y2,Y3,Y4,Y5,Y6,Y7,Y8,Y9,Va,Vb,Vc,Vd,Ve,Vf,Vg,Vh,Vi,Vj,Vk,Vl,Vm,Vn,Vo,Vp,Vq,Vr,Vs,Vt,Vu,Vv,Vw,Vx,Vy,Vz,V0,V1,V2,V3,V4,V5,V6,V7,V8,V9,Ua,Ub,Uc,Ud,Ue,Uf,Ug,Uh,Ui,Uj,Uk,Ul,Um,Un,Uo,Up,Uq,Ur,Us,Ut,Uu,Uv,U1,U2,U5,U6,U7,U8,U9,Ka,Kb,Kc,Kd,Ke,Kf,Kg,Kh,Ki,Kj,Kk,Kl,Km,Kn,Ko,Kq,Kr,Ks,Kt,Ku,Kv,Kw,Kx,Ky,Kz,K0,K1,K2,K3,K4,K5,K6,K7,Gg,Gi,Gj,Gk,Gl,Gm,Gn,Gr,Hg,Nf,Md,Hc,Mc,Hb]
       tactic =>
        try simp only [G6] at *
        try simp only [nc2] at *
        try simp (maxSteps := 4000000) only [hlb,hR2,hR,szC,Hi]
        repeat' (first | with_reducible assumption | with_reducible refine And.intro ?_ ?_ | intro _ | omega | (rw [Gy]; omega))
        all_goals first
          | (with_reducible refine Hu ?_; kernel_rfl)
          | omega
          | assumption
          | rfl
          | skip))
end Go.Am.Ty
set_option linter.unusedSimpArgs false
set_option linter.unusedVariables false
set_option maxHeartbeats 1000000
namespace Go.Am.Ty
open Go.Proofs
open Enc (enc dec)
section
variable {α β : Type} [BEq α]
def A0 (x : α) : List α → Bool
  | [] => false
  | y :: l => (x == y) || A0 x l
def gGet (x : α) (z : β) : List α → List β → β
  | y :: ks, v :: vs => cond (x == y) v (gGet x z ks vs)
  | _, _ => z
def O2 (x : α) (ks : List α) : List α := cond (A0 x ks) ks (ks ++ [x])
def gSetV (x : α) (v : β) : List α → List β → List β
  | y :: ks, u :: vs => cond (x == y) (v :: vs) (u :: gSetV x v ks vs)
  | _, _ => [v]
theorem gHas_snoc {x y : α} : ∀ {l : List α}, A0 x (l ++ [y]) = (A0 x l || (x == y))
  | [] => by simp [A0]
  | z :: l => by simp only [List.cons_append, A0, gHas_snoc (l := l), Bool.or_assoc]
theorem gSetV_len {x : α} {v : β} : ∀ {ks : List α} {vs : List β}, ks.length = vs.length → (gSetV x v ks vs).length = (O2 x ks).length
  | [], [], _ => rfl
  | [], _ :: _, h => by simp at h
  | _ :: _, [], h => by simp at h
  | k :: ks, u :: vs, h => by
    have h' : ks.length = vs.length := by simpa using h
    have ih := gSetV_len (x := x) (v := v) h'
    unfold O2 at ih ⊢
    simp only [gSetV, A0]
    cases hx : (x == k) with
    | true => simp only [cond_true, Bool.true_or, List.length_cons, h']
    | false =>
      simp only [cond_false, Bool.false_or, List.length_cons, ih]
      cases A0 x ks <;> simp
variable [LawfulBEq α]
theorem gHas_set {x y : α} {ks : List α} : A0 x (O2 y ks) = (A0 x ks || (x == y)) := by
  unfold O2
  cases h : A0 y ks with
  | false => rw [cond_false, gHas_snoc]
  | true =>
    rw [cond_true]
    cases hxy : (x == y) with
    | false => rw [Bool.or_false]
    | true => rw [eq_of_beq hxy, h]; rfl
theorem gGet_set {x y : α} {z v : β} : ∀ {ks : List α} {vs : List β}, ks.length = vs.length → gGet x z (O2 y ks) (gSetV y v ks vs) = cond (x == y) v (gGet x z ks vs)
  | [], [], _ => by
    show gGet x z [y] [v] = _
    cases h : x == y <;> simp [gGet, h]
  | [], _ :: _, h => by simp at h
  | _ :: _, [], h => by simp at h
  | k :: ks, u :: vs, h => by
    have h' : ks.length = vs.length := by simpa using h
    have ih := gGet_set (x := x) (y := y) (z := z) (v := v) h'
    unfold O2 at ih ⊢
    simp only [gSetV, A0]
    cases hk : (y == k) with
    | true =>
      have e := eq_of_beq hk
      subst e
      simp only [cond_true, Bool.true_or, gGet]
      cases x == y <;> rfl
    | false =>
      simp only [cond_false, Bool.false_or]
      cases hh : A0 y ks with
      | true =>
        rw [hh] at ih
        simp only [cond_true] at ih ⊢
        simp only [gGet, ih]
        cases hxk : (x == k) with
        | true =>
          have e := eq_of_beq hxk
          subst e
          have : (x == y) = false := by rw [beq_eq_false_iff_ne] at hk ⊢; exact fun e => hk e.symm
          rw [this]; rfl
        | false => rfl
      | false =>
        rw [hh] at ih
        simp only [cond_false] at ih ⊢
        simp only [List.cons_append, gGet, ih]
        cases hxk : (x == k) with
        | true =>
          have e := eq_of_beq hxk
          subst e
          have : (x == y) = false := by rw [beq_eq_false_iff_ne] at hk ⊢; exact fun e => hk e.symm
          rw [this]; rfl
        | false => rfl
end
theorem eqb_I {x y : Int} : D.eqb (.int .i64 x) (.int .i64 y) = (x == y) := by
  show ((IntKind.i64 == IntKind.i64) && (x == y)) = _
  rfl
theorem Cj : ∀ {ks : List Int}, St (.int .i64) (ks.map enc) = True
  | [] => rfl
  | k :: ks => by
    show ((IntKind.i64 = IntKind.i64) ∧ St (.int .i64) (ks.map enc)) = True
    rw [Cj]
    simp
theorem I7 {x : Int} : ∀ {ks : List Int}, Oo (.int .i64 x) (ks.map enc) = A0 x ks
  | [] => rfl
  | k :: ks => by
    show (D.eqb (.int .i64 x) (.int .i64 k) || Oo (.int .i64 x) (ks.map enc)) = _
    rw [I7, eqb_I, A0]
abbrev Ek (t : List Node) : D := .list 3 (t.map enc)
theorem mGet_IT {x : Int} {z : List Node} : ∀ {ks : List Int} {vs : List (List Node)}, mGet (.int .i64 x) (Ek z) (ks.map enc) (vs.map Ek) = Ek (gGet x z ks vs)
  | [], vs => by cases vs <;> rfl
  | k :: ks, [] => rfl
  | k :: ks, v :: vs => by
    show cond (D.eqb (.int .i64 x) (.int .i64 k)) (Ek v) (mGet (.int .i64 x) (Ek z) (ks.map enc) (vs.map Ek)) = _
    rw [mGet_IT, eqb_I, gGet]
    cases x == k <;> rfl
theorem Oq {x : Int} {ks : List Int} {vs : List (List Node)} : mGet (.int .i64 x) (.list 3 []) (ks.map enc) (vs.map Ek) = Ek (gGet x [] ks vs) := mGet_IT (z := [])
theorem mSetK_I {x : Int} {ks : List Int} : mSetK (.int .i64 x) (ks.map enc) = (O2 x ks).map enc := by
  unfold mSetK O2
  rw [I7]
  cases A0 x ks
  · simp only [cond_false, List.map_append, List.map_cons, List.map_nil]; rfl
  · rfl
theorem mSetV_IT {x : Int} {v : List Node} : ∀ {ks : List Int} {vs : List (List Node)}, mSetV (.int .i64 x) (Ek v) (ks.map enc) (vs.map Ek) = (gSetV x v ks vs).map Ek
  | [], vs => by cases vs <;> rfl
  | k :: ks, [] => rfl
  | k :: ks, u :: vs => by
    show cond (D.eqb (.int .i64 x) (.int .i64 k)) (Ek v :: vs.map Ek) (Ek u :: mSetV (.int .i64 x) (Ek v) (ks.map enc) (vs.map Ek)) = _
    rw [mSetV_IT, eqb_I, gSetV]
    cases x == k <;> rfl
theorem mSetV_IT' {x : Int} {v : List Node} {ks : List Int} {vs : List (List Node)} : mSetV (.int .i64 x) (.list 3 (v.map enc)) (ks.map enc) (vs.map Ek) = (gSetV x v ks vs).map Ek := mSetV_IT
structure MT where
  ks : List Int
  vs : List (List Node)
def Ps (l : List Ch) : Nat → MT
  | 0 => ⟨[], []⟩
  | k + 1 => ⟨O2 (si l k) (Ps l k).ks, gSetV (si l k) (ty l k) (Ps l k).ks (Ps l k).vs⟩
structure Fil where
  m : MT
theorem encT_map {l : List (List Node)} : (l.map Ek).map (fun x : D => (x.l.map dec : List Node)) = l := by
  rw [List.map_map]
  have : ((fun x : D => (x.l.map dec : List Node)) ∘ Ek) = id := by
    funext t
    show (t.map (enc : Node → D)).map dec = t
    exact Pz
  rw [this, List.map_id]
instance encFil : Enc Fil := ⟨fun a => .clo 49 [.ptr 1 (.map (a.m.ks.map enc) (a.m.vs.map Ek))], fun x => match x with
  | .clo _ [.ptr _ (.map a b)] => ⟨⟨a.map dec, b.map fun x => x.l.map dec⟩⟩
  | _ => ⟨⟨[], []⟩⟩, fun a => by
    obtain ⟨k, v⟩ := a
    have h1 : (k.map (enc : Int → D)).map dec = k := Pz
    simp only [h1, encT_map]⟩
theorem C7 {a : Fil} : (enc a : D) = .clo 49 [.ptr 1 (.map (a.m.ks.map enc) (a.m.vs.map Ek))] := rfl
theorem isE_Fil {ks : List Int} {vs : List (List Node)} : isE Fil (.clo 49 [.ptr 1 (.map (ks.map enc) (vs.map Ek))]) = True := eq_true (B0 (⟨⟨ks, vs⟩⟩ : Fil))
theorem dec_Fil {ks : List Int} {vs : List (List Node)} : (dec (.clo 49 [.ptr 1 (.map (ks.map enc) (vs.map Ek))]) : Fil) = ⟨⟨ks, vs⟩⟩ := Enc.dec_enc (⟨⟨ks, vs⟩⟩ : Fil)
def Bu : Con := Sn (fun (l : Sl Ch) => l.l.length ≤ 1000000) (fun l => Fil.mk (Ps l.l l.l.length))
noncomputable def Dm : Ctx := ⟨tab, lkC [], 60, lkB [], [], false⟩
theorem ctx_filler_t : Dm.τ = tab := rfl
theorem ctx_filler_c : Dm.Γ = lkC [] := rfl
theorem ctx_filler_d : Dm.dp = 60 := rfl
theorem ctx_filler_b : Dm.Δ = lkB [] := rfl
theorem ctx_filler_u : Dm.cuts = [] := rfl
theorem ctx_filler_w : Dm.wr = false := rfl
set_option maxRecDepth 100000 in
theorem good_filler : M7 Try.prog (31, Bu) := by
  refine ⟨He Try.func31 (by kernel_rfl) rfl, ?_⟩
  have K : Nh Try.prog Dm := Hl Ny Ht (by simp) (by simp)
  obtain ⟨c, hc⟩ : ∃ c, Try.f31.body = some c := ⟨_, rfl⟩
  refine Hm K Try.func31 hc [.tmp 2] rfl 20 rfl (fun cvs hpre => ?_)
  change Bu.pre cvs at hpre
  unfold Bu at hpre
  obtain ⟨⟨l⟩, rfl, hl⟩ := Nw hpre
  simp only at hl
  clear hpre
  simp only [Try.f31, Option.some.injEq] at hc
  subst hc
  (sym =>
   simp [szC,ctx_filler_t,ctx_filler_c,ctx_filler_d,ctx_filler_b,ctx_filler_u,ctx_filler_w,Bu.eq_def,Za,Zb,Zc,Ze,Zf,Zg,Zn,Zo,Zp,Zq,Zr,Zs,Zu,Zv,Zw,Zx,Zy,Z5,Qa,Qb,Qc,Qg,Qh,Qj,Qk,Ql,Qm,Qn,Qo,Qp,Qr,Q0,Q1,Q4,Q8,Ja,Jf,Jh,Ji,Jj,Jk,Jl,Jt,Jy,Jz,J0,J1,J2,J5,J6,Xj,Xk,Xl,Xm,Xn,Xo,Xp,Xq,Xr,Xs,Xt,Xu,Xv,Xy,Xz,X1,X2,X3,X4,X5,X6,X7,X8,We,Wf,Wg,Wh,Wi,Wj,Wl,Wm,Wn,Wo,Wp,Ws,Wt,Wu,Wv,Ww,Wx,Wy,Wz,W0,W3,W4,W5,W6,W7,W8,W9,Ya,Yb,Yc,Yd,Ye,Yf,Yg,Yh,Yi,Yj,Yk,Yl,Ym,Yn,Yo,Yu,Yv,Yw,Yx,Yy,Yz,Y1,Y2,Y3,Y4,Y5,Y6,Y7,Y8,Y9,Va,Vb,Vc,Vd,Ve,Vf,Vg,Vh,Vi,Vj,Vk,Vl,Vm,Vn,Vo,Vp,Vq,Vr,Vs,Vt,Vu,Vv,Vw,Vx,Vy,Vz,V0,V1,V2,V3,V4,V5,V6,V7,V8,V9,Ua,Ub,Uc,Ud,Ue,Uf,Ug,Uh,Ui,Uj,Uk,Ul,Um,Un,Uo,Up,Uq,Ur,Us,Ut,Uu,Uv,Uw,Ux,Uy,Uz,U0,U1,U2,U5,U6,U7,U8,U9,Ka,Kb,Kc,Kd,Ke,Kf,Kg,Kh,Ki,Kj,Kk,Kl,Km,Kn,Ko,Kq,Kr,Ks,Kt,Ku,Kv,Kw,Kx,Ky,Kz,K0,K1,K2,K3,K4,K5,K6,K7,K9,Ga,Gd,Ge,Gg,Gi,Gj,Gk,Gl,Gm,Gn,Gr,Hg,Md,Hc,Mc,Hb,tab64]
   tactic =>
    try simp only [G6] at *
    try simp only [nc2] at *
    try simp (maxSteps := 4000000) only [szC,Hi]
    repeat' (first | with_reducible assumption | with_reducible refine And.intro ?_ ?_ | intro _ | omega | (rw [Gy]; omega))
    refine Ho [5, 10, 11, 12, 13, 14, 15, 16, 17, 18] (fun k : Nat => [(9, .d (.int .i64 k))]) (fun k : Nat => [(6, .mp ((Ps l k).ks.map enc) ((Ps l k).vs.map Ek) false)]) (fun k : Nat => k ≤ l.length) (fun k : Nat => l.length - k) 0 ?_ ?_ ?_
    · omega
    · ((try simp only [G3, Ha, G5, Hf, upd, Hh, Hn, Na, Nat.reduceDiv, Nat.reduceMod, Nat.reduceMul, Nat.reduceAdd, Nat.reduceEqDiff, List.set_cons_zero, List.set_cons_succ, if_true, if_false, reduceIte]); (first | refine Wk.of_fl ?_ | skip); simp only [Wk, wkK, Nd, wkT, wk1, AV.kept, keptAll, wkO, lk, G4, and_true, true_and, and_self, Nat.reduceEqDiff, Nat.reduceLeDiff, if_true, if_false, reduceIte, reduceCtorEq, Option.isSome, false_implies]; try simp [Wk, wkK, wkT, wk1, AV.kept, keptAll, wkO, lk, G4, Ps])
    rintro k hk
    rcases Hq k l.length with ⟨hlt, hlb⟩ | ⟨hlt, hlb⟩
    · have q1 := H7 c0 hlt
      have hS1 : (Ps l (k + 1)).ks = O2 (si l k) (Ps l k).ks := rfl
      have hS2 : (Ps l (k + 1)).vs = gSetV (si l k) (ty l k) (Ps l k).ks (Ps l k).vs := rfl
      unfold si at hS1 hS2
      unfold ty at hS2
      obtain ⟨x, hx⟩ : ∃ x, l.getD k c0 = x := ⟨_, rfl⟩
      rw [hx] at q1 hS1 hS2
      obtain ⟨⟨ks, vs⟩, hm⟩ : ∃ m, Ps l k = m := ⟨_, rfl⟩
      rw [hm] at hS1 hS2
      rw [hm]
      simp only at hS1 hS2
      (sym =>
       simp [hlb,q1,Cj,I7,mSetK_I,mSetV_IT',My,szC,szN,ctx_filler_t,ctx_filler_c,ctx_filler_d,ctx_filler_b,ctx_filler_u,ctx_filler_w,Bu.eq_def,Za,Zb,Zc,Ze,Zf,Zg,Zn,Zo,Zp,Zq,Zr,Zs,Zu,Zv,Zw,Zx,Zy,Z5,Qa,Qb,Qc,Qg,Qh,Qj,Qk,Ql,Qm,Qn,Qo,Qp,Qr,Q0,Q1,Q4,Q8,Ja,Jf,Jh,Ji,Jj,Jk,Jl,Jt,Jy,Jz,J0,J1,J2,J5,J6,Xj,Xk,Xl,Xm,Xn,Xo,Xp,Xq,Xr,Xs,Xt,Xu,Xv,Xy,Xz,X1,X2,X3,X4,X5,X6,X7,X8,We,Wf,Wg,Wh,Wi,Wj,Wl,Wm,Wn,Wo,Wp,Ws,Wt,Wu,Wv,Ww,Wx,Wy,Wz,W0,W3,W4,W5,W6,W7,W8,W9,Ya,Yb,Yc,Yd,Ye,Yf,Yg,Yh,Yi,Yj,Yk,Yl,Ym,Yn,Yo,Yu,Yv,Yw,Yx,Yy,Yz,Y1,Y2,Y3,Y4,Y5,Y6,Y7,Y8,Y9,Va,Vb,Vc,Vd,Ve,Vf,Vg,Vh,Vi,Vj,Vk,Vl,Vm,Vn,Vo,Vp,Vq,Vr,Vs,Vt,Vu,Vv,Vw,Vx,Vy,Vz,V0,V1,V2,V3,V4,V5,V6,V7,V8,V9,Ua,Ub,Uc,Ud,Ue,Uf,Ug,Uh,Ui,Uj,Uk,Ul,Um,Un,Uo,Up,Uq,Ur,Us,Ut,Uu,Uv,Uw,Ux,Uy,Uz,U0,U1,U2,U5,U6,U7,U8,U9,Ka,Kb,Kc,Kd,Ke,Kf,Kg,Kh,Ki,Kj,Kk,Kl,Km,Kn,Ko,Kq,Kr,Ks,Kt,Ku,Kv,Kw,Kx,Ky,Kz,K0,K1,K2,K3,K4,K5,K6,K7,K9,Ga,Gd,Ge,Gg,Gi,Gj,Gk,Gl,Gm,Gn,Gr,Hg,Md,Hc,Mc,Hb,tab64]
       tactic =>
        try simp only [G6] at *
        try simp only [nc2] at *
        try simp (maxSteps := 4000000) only [hlb,q1,Cj,I7,mSetK_I,mSetV_IT',My,szC,szN,Hi]
        repeat' (first | with_reducible assumption | with_reducible refine And.intro ?_ ?_ | intro _ | omega | (rw [Gy]; omega))
        all_goals first
          | (with_reducible refine Hu ?_; kernel_rfl)
          | omega
          | exact ⟨k + 1, by rw [hS1, hS2]; ((try simp only [G3, Ha, G5, Hf, upd, Hh, Hn, Na, Nat.reduceDiv, Nat.reduceMod, Nat.reduceMul, Nat.reduceAdd, Nat.reduceEqDiff, List.set_cons_zero, List.set_cons_succ, if_true, if_false, reduceIte]); (first | refine Wk.of_fl ?_ | skip); simp only [Wk, wkK, Nd, wkT, wk1, AV.kept, keptAll, wkO, lk, G4, and_true, true_and, and_self, Nat.reduceEqDiff, Nat.reduceLeDiff, if_true, if_false, reduceIte, reduceCtorEq, Option.isSome, false_implies]; try simp [Wk, wkK, wkT, wk1, AV.kept, keptAll, wkO, lk, G4]), by omega, by omega⟩
          | skip)
    · have hke : k = l.length := by omega
      rw [hke]
      rw [hke] at hlb
      obtain ⟨⟨ks, vs⟩, hm⟩ : ∃ m, Ps l l.length = m := ⟨_, rfl⟩
      rw [hm]
      (sym =>
       simp [hlb,hm,C7,szC,ctx_filler_t,ctx_filler_c,ctx_filler_d,ctx_filler_b,ctx_filler_u,ctx_filler_w,Bu.eq_def,Za,Zb,Zc,Ze,Zf,Zg,Zn,Zo,Zp,Zq,Zr,Zs,Zu,Zv,Zw,Zx,Zy,Z5,Qa,Qb,Qc,Qg,Qh,Qj,Qk,Ql,Qm,Qn,Qo,Qp,Qr,Q0,Q1,Q4,Q8,Ja,Jf,Jh,Ji,Jj,Jk,Jl,Jt,Jy,Jz,J0,J1,J2,J5,J6,Xj,Xk,Xl,Xm,Xn,Xo,Xp,Xq,Xr,Xs,Xt,Xu,Xv,Xy,Xz,X1,X2,X3,X4,X5,X6,X7,X8,We,Wf,Wg,Wh,Wi,Wj,Wl,Wm,Wn,Wo,Wp,Ws,Wt,Wu,Wv,Ww,Wx,Wy,Wz,W0,W3,W4,W5,W6,W7,W8,W9,Ya,Yb,Yc,Yd,Ye,Yf,Yg,Yh,Yi,Yj,Yk,Yl,Ym,Yn,Yo,Yu,Yv,Yw,Yx,Yy,Yz,Y1,Y2,Y3,Y4,Y5,Y6,Y7,Y8,Y9,Va,Vb,Vc,Vd,Ve,Vf,Vg,Vh,Vi,Vj,Vk,Vl,Vm,Vn,Vo,Vp,Vq,Vr,Vs,Vt,Vu,Vv,Vw,Vx,Vy,Vz,V0,V1,V2,V3,V4,V5,V6,V7,V8,V9,Ua,Ub,Uc,Ud,Ue,Uf,Ug,Uh,Ui,Uj,Uk,Ul,Um,Un,Uo,Up,Uq,Ur,Us,Ut,Uu,Uv,Uw,Ux,Uy,Uz,U0,U1,U2,U5,U6,U7,U8,U9,Ka,Kb,Kc,Kd,Ke,Kf,Kg,Kh,Ki,Kj,Kk,Kl,Km,Kn,Ko,Kq,Kr,Ks,Kt,Ku,Kv,Kw,Kx,Ky,Kz,K0,K1,K2,K3,K4,K5,K6,K7,K9,Ga,Gd,Ge,Gg,Gi,Gj,Gk,Gl,Gm,Gn,Gr,Hg,Md,Hc,Mc,Hb,tab64]
       tactic =>
        try simp only [G6] at *
        try simp only [nc2] at *
        try simp (maxSteps := 4000000) only [hlb,hm,C7,szC,Hi]
        repeat' (first | with_reducible assumption | with_reducible refine And.intro ?_ ?_ | intro _ | omega | (rw [Gy]; omega))
        all_goals first
          | trivial
          | rfl
          | skip))
def Eg (s : List UInt8) : List Node → List Node
  | [] => []
  | n :: r => ⟨n.kind, s, n.n⟩ :: r
theorem D7 {s : List UInt8} {l : List Node} : (Eg s l).length = l.length := by cases l <;> rfl
def fill1 (m : MT) (n : Node) : List Node := cond (n.kind == 0 && A0 n.n m.ks) (Eg n.name (gGet n.n [] m.ks m.vs)) [n]
def N8 (m : MT) (t : List Node) : List Node := t.flatMap (fill1 m)
def I1 (m : MT) : Prop := ∀ s, A0 s m.ks = true → gGet s [] m.ks m.vs ≠ [] ∧ (gGet s [] m.ks m.vs).length ≤ 1000
theorem fillT_snoc {m : MT} {t : List Node} {k : Nat} (h : k < t.length) : N8 m (t.take (k + 1)) = N8 m (t.take k) ++ fill1 m (t.getD k n0) := by
  unfold N8
  rw [Ex n0 h, List.flatMap_append]
  simp
theorem fill1_len {m : MT} (hm : I1 m) (n : Node) : (fill1 m n).length ≤ 1000 := by
  unfold fill1
  cases hc : n.kind == 0 && A0 n.n m.ks with
  | false => exact Nat.le_succ_of_le (by show 1 ≤ 999; omega)
  | true =>
    rw [cond_true, D7]
    rw [Bool.and_eq_true] at hc
    exact (hm _ hc.2).2
theorem fillT_len {m : MT} (hm : I1 m) : ∀ t : List Node, (N8 m t).length ≤ 1000 * t.length
  | [] => Nat.le_refl _
  | n :: t => by
    have ih := fillT_len hm t
    have h1 := fill1_len hm n
    unfold N8 at ih ⊢
    rw [List.flatMap_cons, List.length_append, List.length_cons]
    omega
theorem set_named {P : List Node} {n : Node} {r : List Node} {s : List UInt8} : ((P ++ n :: r).map (enc : Node → D)).set P.length (.agg [.int .i64 n.kind, .str s, .int .i64 n.n]) = (P ++ Eg s (n :: r)).map enc := by
  rw [List.map_append, List.map_append, List.set_append]
  simp [Eg,Gt]
theorem el_named {P : List Node} {n : Node} {r : List Node} : el ((P ++ n :: r).map (enc : Node → D)) P.length = enc n := by
  unfold el
  simp
structure PtrT where
  m : MT
instance encPtrT : Enc PtrT := ⟨fun a => .ptr 1 (.map (a.m.ks.map enc) (a.m.vs.map Ek)), fun x => match x with
  | .ptr _ (.map a b) => ⟨⟨a.map dec, b.map fun x => x.l.map dec⟩⟩
  | _ => ⟨⟨[], []⟩⟩, fun a => by
    obtain ⟨k, v⟩ := a
    have h1 : (k.map (enc : Int → D)).map dec = k := Pz
    simp only [h1, encT_map]⟩
theorem Fw {a : PtrT} : (enc a : D) = .ptr 1 (.map (a.m.ks.map enc) (a.m.vs.map Ek)) := rfl
theorem Oz {ks : List Int} {vs : List (List Node)} : isE PtrT (.ptr 1 (.map (ks.map enc) (vs.map Ek))) = True := eq_true (B0 (⟨⟨ks, vs⟩⟩ : PtrT))
theorem O6 {ks : List Int} {vs : List (List Node)} : (dec (.ptr 1 (.map (ks.map enc) (vs.map Ek))) : PtrT) = ⟨⟨ks, vs⟩⟩ := Enc.dec_enc (⟨⟨ks, vs⟩⟩ : PtrT)
def M4 : Con := C0 (fun (t : Sl Node) (p : PtrT) => t.l.length ≤ 100000 ∧ I1 p.m) (fun t p => Sl.mk (N8 p.m t.l))
noncomputable def S4 : Ctx := ⟨tab, lkC [], 60, lkB [], [], false⟩
theorem T3 : S4.τ = tab := rfl
theorem T5 : S4.Γ = lkC [] := rfl
theorem T4 : S4.dp = 60 := rfl
theorem T6 : S4.Δ = lkB [] := rfl
theorem T2 : S4.cuts = [] := rfl
theorem T1 : S4.wr = false := rfl
set_option maxRecDepth 100000 in
theorem good_filler_1 : M7 Try.prog (49, M4) := by
  refine ⟨He Try.func49 (by kernel_rfl) rfl, ?_⟩
  have K : Nh Try.prog S4 := Hl Ny Ht (by simp) (by simp)
  obtain ⟨c, hc⟩ : ∃ c, Try.f49.body = some c := ⟨_, rfl⟩
  refine Hm K Try.func49 hc [.tmp 3] rfl 47 rfl (fun cvs hpre => ?_)
  change M4.pre cvs at hpre
  unfold M4 at hpre
  obtain ⟨⟨t⟩, ⟨m⟩, rfl, ht, hm⟩ := Mp hpre
  simp only at ht hm
  clear hpre
  obtain ⟨R, hR⟩ : ∃ R, N8 m t = R := ⟨_, rfl⟩
  have hbound : ∀ k, k ≤ t.length → (N8 m (t.take k)).length ≤ 100000000 := fun k hk => by
    have := fillT_len hm (t.take k)
    rw [List.length_take] at this
    omega
  obtain ⟨ks, vs⟩ := m
  simp only [Try.f49, Option.some.injEq] at hc
  subst hc
  refine Mn 2 (of_decide_eq_true (by kernel_rfl)) ?_
  (sym =>
   simp [Fw,Gt,Gv,Gx,Gu,szN,Gw,T3,T5,T4,T6,T2,T1,M4.eq_def,Za,Zb,Zc,Zd,Ze,Zf,Zg,Zn,Zo,Zp,Zq,Zr,Zs,Zt,Zu,Zv,Zw,Zx,Zy,Z1,Z3,Z4,Z5,Z7,Qa,Qb,Qc,Qg,Qj,Qk,Ql,Qm,Qn,Qo,Qp,Qr,Q0,Q1,Q4,Q8,Ja,Jb,Jc,Jd,Je,Jf,Jg,Jh,Ji,Jj,Jk,Jl,Jt,Jx,Jy,Jz,J0,J1,J2,J5,J6,J7,J8,J9,Xa,Xb,Xc,Xd,Xe,Xf,Xg,Xh,Xi,Xj,Xk,Xl,Xm,Xn,Xo,Xp,Xq,Xr,Xs,Xt,Xu,Xv,Xw,Xx,Xy,Xz,X1,X2,X3,X4,X5,X6,X7,X8,We,Wf,Wg,Wh,Wi,Wj,Wl,Wm,Wn,Wo,Wp,Ws,Wt,Wu,Wv,Ww,Wx,Wy,Wz,W0,W3,W4,W5,W6,W7,W8,W9,Ya,Yb,Yc,Yd,Ye,Yf,Yg,Yh,Yi,Yj,Yk,Yl,Ym,Yn,Yo,Yr,Ys,Yt,Yu,Yv,Yw,Yx,Yy,Yz,Y1,Y2,Y3,Y4,Y5,Y6,Y7,Y8,Y9,Va,Vb,Vc,Vd,Ve,Vf,Vg,Vh,Vi,Vj,Vk,Vl,Vm,Vn,Vo,Vp,Vq,Vr,Vs,Vt,Vu,Vv,Vw,Vx,Vy,Vz,V0,V1,V2,V3,V4,V5,V6,V7,V8,V9,Ua,Ub,Uc,Ud,Ue,Uf,Ug,Uh,Ui,Uj,Uk,Ul,Um,Un,Uo,Up,Uq,Ur,Us,Ut,Uu,Uv,Uw,Ux,Uy,Uz,U0,U1,U2,U3,U4,U5,U6,U7,U8,U9,Ka,Kb,Kc,Kd,Ke,Kf,Kg,Kh,Ki,Kj,Kk,Kl,Km,Kn,Ko,Kq,Kr,Ks,Kt,Ku,Kv,Kw,Kx,Ky,Kz,K0,K1,K2,K3,K4,K5,K6,K7,K8,Gb,Gd,Gg,Gi,Gj,Gk,Gl,Gm,Gn,Gr,Hg,Nf,H3,Hc,Hb,tab64]
   tactic =>
    try simp only [G6] at *
    try simp only [nc2] at *
    try simp (maxSteps := 4000000) only [Fw,Gt,Gv,Gx,Gu,szN,Gw,Hi]
    repeat' (first | with_reducible assumption | with_reducible refine And.intro ?_ ?_ | intro _ | omega | (rw [Gy]; omega))
    refine Ho [6, 7, 8, 9, 13, 14, 15, 16, 17, 18, 19, 20, 21, 22, 23, 24, 25, 26, 27, 28, 29, 30, 31, 32, 33, 34, 35, 36, 37, 38, 39, 40, 41, 42, 43, 44, 45] (fun k : Nat => [(4, .sl 33 ((N8 ⟨ks, vs⟩ (t.take k)).map (enc : Node → D)).length), (12, .d (.int .i64 k))]) (fun k : Nat => [(33, .row 3 ((N8 ⟨ks, vs⟩ (t.take k)).map enc) 0)]) (fun k : Nat => k ≤ t.length) (fun k : Nat => t.length - k) 0 ?_ ?_ ?_
    · omega
    · ((try simp only [G3, Ha, G5, Hf, upd, Hh, Hn, Na, Nat.reduceDiv, Nat.reduceMod, Nat.reduceMul, Nat.reduceAdd, Nat.reduceEqDiff, List.set_cons_zero, List.set_cons_succ, if_true, if_false, reduceIte]); (first | refine Wk.of_fl ?_ | skip); simp only [Wk, wkK, Nd, wkT, wk1, AV.kept, keptAll, wkO, lk, G4, and_true, true_and, and_self, Nat.reduceEqDiff, Nat.reduceLeDiff, if_true, if_false, reduceIte, reduceCtorEq, Option.isSome, false_implies]; try simp [Wk, wkK, wkT, wk1, AV.kept, keptAll, wkO, lk, G4, N8])
    rintro k hk
    have hb := hbound k hk
    rcases Hq k t.length with ⟨hlt, hlb⟩ | ⟨hlt, hlb⟩
    · have hS := fillT_snoc (m := ⟨ks, vs⟩) hlt
      have hb2 := hbound (k + 1) (by omega)
      have q1 := H7 n0 hlt
      obtain ⟨x, hx⟩ : ∃ x, t.getD k n0 = x := ⟨_, rfl⟩
      rw [hx] at q1 hS
      have hfull := hm x.n
      unfold fill1 at hS
      simp only at hS hfull
      obtain ⟨P, hP⟩ : ∃ P, N8 ⟨ks, vs⟩ (t.take k) = P := ⟨_, rfl⟩
      obtain ⟨P2, hP2⟩ : ∃ P, N8 ⟨ks, vs⟩ (t.take (k + 1)) = P := ⟨_, rfl⟩
      rw [hP] at hS hb
      rw [hP2] at hS hb2
      rw [hP]
      have hPm : (P.map (enc : Node → D)).length = P.length := List.length_map ..
      cases h0 : (x.kind == 0) with
      | false =>
        rw [h0, Bool.false_and, cond_false] at hS
        have hS2 : P2.map (enc : Node → D) = P.map enc ++ [.agg [.int .i64 x.kind, .str x.name, .int .i64 x.n]] := by rw [hS]; simp [Gt]
        have hS3 : P2.length = P.length + 1 := by rw [hS]; simp
        have h0n : (x.kind != 0) = true := by rw [bne, h0]; rfl
        (sym =>
         simp [hlb,q1,h0n,Cj,I7,Oq,Gt,Gv,Gx,Gu,szN,Gw,T3,T5,T4,T6,T2,T1,M4.eq_def,Za,Zb,Zc,Zd,Ze,Zf,Zg,Zn,Zo,Zp,Zq,Zr,Zs,Zt,Zu,Zv,Zw,Zx,Zy,Z1,Z3,Z4,Z5,Z7,Qa,Qb,Qc,Qg,Qj,Qk,Ql,Qm,Qn,Qo,Qp,Qr,Q0,Q1,Q4,Q8,Ja,Jb,Jc,Jd,Je,Jf,Jg,Jh,Ji,Jj,Jk,Jl,Jt,Jx,Jy,Jz,J0,J1,J2,J5,J6,J7,J8,J9,Xa,Xb,Xc,Xd,Xe,Xf,Xg,Xh,Xi,Xj,Xk,Xl,Xm,Xn,Xo,Xp,Xq,Xr,Xs,Xt,Xu,Xv,Xw,Xx,Xy,Xz,X1,X2,X3,X4,X5,X6,X7,X8,We,Wf,Wg,Wh,Wi,Wj,Wl,Wm,Wn,Wo,Wp,Ws,Wt,Wu,Wv,Ww,Wx,Wy,Wz,W0,W3,W4,W5,W6,W7,W8,W9,Ya,Yb,Yc,Yd,Ye,Yf,Yg,Yh,Yi,Yj,Yk,Yl,Ym,Yn,Yo,Yr,Ys,Yt,Yu,Yv,Yw,Yx,Yy,Yz,Y1,Y2,Y3,Y4,Y5,Y6,Y7,Y8,Y9,Va,Vb,Vc,Vd,Ve,Vf,Vg,Vh,Vi,Vj,Vk,Vl,Vm,Vn,Vo,Vp,Vq,Vr,Vs,Vt,Vu,Vv,Vw,Vx,Vy,Vz,V0,V1,V2,V3,V4,V5,V6,V7,V8,V9,Ua,Ub,Uc,Ud,Ue,Uf,Ug,Uh,Ui,Uj,Uk,Ul,Um,Un,Uo,Up,Uq,Ur,Us,Ut,Uu,Uv,Uw,Ux,Uy,Uz,U0,U1,U2,U3,U4,U5,U6,U7,U8,U9,Ka,Kb,Kc,Kd,Ke,Kf,Kg,Kh,Ki,Kj,Kk,Kl,Km,Kn,Ko,Kq,Kr,Ks,Kt,Ku,Kv,Kw,Kx,Ky,Kz,K0,K1,K2,K3,K4,K5,K6,K7,K8,Gb,Gd,Gg,Gi,Gj,Gk,Gl,Gm,Gn,Gr,Hg,Nf,H3,Hc,Hb,tab64]
         tactic =>
          try simp only [G6] at *
          try simp only [nc2] at *
          try simp (maxSteps := 4000000) only [hlb,q1,h0n,Cj,I7,Oq,Gt,Gv,Gx,Gu,szN,Gw,Hi]
          repeat' (first | with_reducible assumption | with_reducible refine And.intro ?_ ?_ | intro _ | omega | (rw [Gy]; omega))
          all_goals first
            | (with_reducible refine Hu ?_; kernel_rfl)
            | omega
            | exact ⟨k + 1, by rw [hP2, hS2]; ((try simp only [G3, Ha, G5, Hf, upd, Hh, Hn, Na, Nat.reduceDiv, Nat.reduceMod, Nat.reduceMul, Nat.reduceAdd, Nat.reduceEqDiff, List.set_cons_zero, List.set_cons_succ, if_true, if_false, reduceIte]); (first | refine Wk.of_fl ?_ | skip); simp only [Wk, wkK, Nd, wkT, wk1, AV.kept, keptAll, wkO, lk, G4, and_true, true_and, and_self, Nat.reduceEqDiff, Nat.reduceLeDiff, if_true, if_false, reduceIte, reduceCtorEq, Option.isSome, false_implies]; try simp [Wk, wkK, wkT, wk1, AV.kept, keptAll, wkO, lk, G4, hS3]), by omega, by omega⟩
            | skip)
      | true =>
        have h0n : (x.kind != 0) = false := by rw [bne, h0]; rfl
        cases hh : A0 x.n ks with
        | false =>
          rw [h0, hh, Bool.and_false, cond_false] at hS
          have hS2 : P2.map (enc : Node → D) = P.map enc ++ [.agg [.int .i64 x.kind, .str x.name, .int .i64 x.n]] := by rw [hS]; simp [Gt]
          have hS3 : P2.length = P.length + 1 := by rw [hS]; simp
          (sym =>
           simp [hlb,q1,h0n,hh,Cj,I7,Oq,Gt,Gv,Gx,Gu,szN,Gw,T3,T5,T4,T6,T2,T1,M4.eq_def,Za,Zb,Zc,Zd,Ze,Zf,Zg,Zn,Zo,Zp,Zq,Zr,Zs,Zt,Zu,Zv,Zw,Zx,Zy,Z1,Z3,Z4,Z5,Z7,Qa,Qb,Qc,Qg,Qj,Qk,Ql,Qm,Qn,Qo,Qp,Qr,Q0,Q1,Q4,Q8,Ja,Jb,Jc,Jd,Je,Jf,Jg,Jh,Ji,Jj,Jk,Jl,Jt,Jx,Jy,Jz,J0,J1,J2,J5,J6,J7,J8,J9,Xa,Xb,Xc,Xd,Xe,Xf,Xg,Xh,Xi,Xj,Xk,Xl,Xm,Xn,Xo,Xp,Xq,Xr,Xs,Xt,Xu,Xv,Xw,Xx,Xy,Xz,X1,X2,X3,X4,X5,X6,X7,X8,We,Wf,Wg,Wh,Wi,Wj,Wl,Wm,Wn,Wo,Wp,Ws,Wt,Wu,Wv,Ww,Wx,Wy,Wz,W0,W3,W4,W5,W6,W7,W8,W9,Ya,Yb,Yc,Yd,Ye,Yf,Yg,Yh,Yi,Yj,Yk,Yl,Ym,Yn,Yo,Yr,Ys,Yt,Yu,Yv,Yw,Yx,Yy,Yz,Y1,Y2,Y3,Y4,Y5,Y6,Y7,Y8,Y9,Va,Vb,Vc,Vd,Ve,Vf,Vg,Vh,Vi,Vj,Vk,Vl,Vm,Vn,Vo,Vp,Vq,Vr,Vs,Vt,Vu,Vv,Vw,Vx,Vy,Vz,V0,V1,V2,V3,V4,V5,V6,V7,V8,V9,Ua,Ub,Uc,Ud,Ue,Uf,Ug,Uh,Ui,Uj,Uk,Ul,Um,Un,Uo,Up,Uq,Ur,Us,Ut,Uu,Uv,Uw,Ux,Uy,Uz,U0,U1,U2,U3,U4,U5,U6,U7,U8,U9,Ka,Kb,Kc,Kd,Ke,Kf,Kg,Kh,Ki,Kj,Kk,Kl,Km,Kn,Ko,Kq,Kr,Ks,Kt,Ku,Kv,Kw,Kx,Ky,Kz,K0,K1,K2,K3,K4,K5,K6,K7,K8,Gb,Gd,Gg,Gi,Gj,Gk,Gl,Gm,Gn,Gr,Hg,Nf,H3,Hc,Hb,tab64]
           tactic =>
            try simp only [G6] at *
            try simp only [nc2] at *
            try simp (maxSteps := 4000000) only [hlb,q1,h0n,hh,Cj,I7,Oq,Gt,Gv,Gx,Gu,szN,Gw,Hi]
            repeat' (first | with_reducible assumption | with_reducible refine And.intro ?_ ?_ | intro _ | omega | (rw [Gy]; omega))
            all_goals first
              | (with_reducible refine Hu ?_; kernel_rfl)
              | omega
              | exact ⟨k + 1, by rw [hP2, hS2]; ((try simp only [G3, Ha, G5, Hf, upd, Hh, Hn, Na, Nat.reduceDiv, Nat.reduceMod, Nat.reduceMul, Nat.reduceAdd, Nat.reduceEqDiff, List.set_cons_zero, List.set_cons_succ, if_true, if_false, reduceIte]); (first | refine Wk.of_fl ?_ | skip); simp only [Wk, wkK, Nd, wkT, wk1, AV.kept, keptAll, wkO, lk, G4, and_true, true_and, and_self, Nat.reduceEqDiff, Nat.reduceLeDiff, if_true, if_false, reduceIte, reduceCtorEq, Option.isSome, false_implies]; try simp [Wk, wkK, wkT, wk1, AV.kept, keptAll, wkO, lk, G4, hS3]), by omega, by omega⟩
              | skip)
        | true =>
          rw [h0, hh, Bool.and_self, cond_true] at hS
          obtain ⟨hne, hsh⟩ := hfull hh
          obtain ⟨u, hu⟩ : ∃ u, gGet x.n [] ks vs = u := ⟨_, rfl⟩
          rw [hu] at hS hne hsh
          cases u with
          | nil => exact absurd rfl hne
          | cons y r =>
            have hS2 := set_named (P := P) (n := y) (r := r) (s := x.name)
            rw [← hS] at hS2
            have hel := el_named (P := P) (n := y) (r := r)
            have hap : P.map (enc : Node → D) ++ (y :: r).map enc = (P ++ y :: r).map enc := by simp
            have hlen : (P ++ y :: r).length = P.length + r.length + 1 := by simp [Nat.add_assoc]
            have hlen2 : ((P ++ y :: r).map (enc : Node → D)).length = P.length + r.length + 1 := by rw [List.length_map, hlen]
            have hP3 : P2.length = P.length + r.length + 1 := by rw [hS, List.length_append, D7, List.length_cons]; omega
            have hP2l : (P2.map (enc : Node → D)).length = P.length + r.length + 1 := by rw [List.length_map, hS, List.length_append, D7, List.length_cons]; omega
            simp only [List.length_cons] at hsh
            obtain ⟨Q, hQ⟩ : ∃ Q, P ++ y :: r = Q := ⟨_, rfl⟩
            rw [hQ] at hS2 hel hap hlen hlen2
            obtain ⟨yr, hyr⟩ : ∃ q, y :: r = q := ⟨_, rfl⟩
            rw [hyr] at hu hap
            have hyl : yr.length = r.length + 1 := by rw [← hyr]; rfl
            have hyl2 : (yr.map (enc : Node → D)).length = r.length + 1 := by rw [List.length_map, hyl]
            (sym =>
             simp [hlb,q1,h0n,hh,hu,hap,hel,hPm,hlen2,hyl2,hS2,Cj,I7,Oq,Gt,Gv,Gx,Gu,szN,Gw,T3,T5,T4,T6,T2,T1,M4.eq_def,Za,Zb,Zc,Zd,Ze,Zf,Zg,Zn,Zo,Zp,Zq,Zr,Zs,Zt,Zu,Zv,Zw,Zx,Zy,Z1,Z3,Z4,Z5,Z7,Qa,Qb,Qc,Qg,Qj,Qk,Ql,Qm,Qn,Qo,Qp,Qr,Q0,Q1,Q4,Q8,Ja,Jb,Jc,Jd,Je,Jf,Jg,Jh,Ji,Jj,Jk,Jl,Jt,Jx,Jy,Jz,J0,J1,J2,J5,J6,J7,J8,J9,Xa,Xb,Xc,Xd,Xe,Xf,Xg,Xh,Xi,Xj,Xk,Xl,Xm,Xn,Xo,Xp,Xq,Xr,Xs,Xt,Xu,Xv,Xw,Xx,Xy,Xz,X1,X2,X3,X4,X5,X6,X7,X8,We,Wf,Wg,Wh,Wi,Wj,Wl,Wm,Wn,Wo,Wp,Ws,Wt,Wu,Wv,Ww,Wx,Wy,Wz,W0,W3,W4,W5,W6,W7,W8,W9,Ya,Yb,Yc,Yd,Ye,Yf,Yg,Yh,Yi,Yj,Yk,Yl,Ym,Yn,Yo,Yr,Ys,Yt,Yu,Yv,Yw,Yx,Yy,Yz,Y1,Y2,Y3,Y4,Y5,Y6,Y7,Y8,Y9,Va,Vb,Vc,Vd,Ve,Vf,Vg,Vh,Vi,Vj,Vk,Vl,Vm,Vn,Vo,Vp,Vq,Vr,Vs,Vt,Vu,Vv,Vw,Vx,Vy,Vz,V0,V1,V2,V3,V4,V5,V6,V7,V8,V9,Ua,Ub,Uc,Ud,Ue,Uf,Ug,Uh,Ui,Uj,Uk,Ul,Um,Un,Uo,Up,Uq,Ur,Us,Ut,Uu,Uv,Uw,Ux,Uy,Uz,U0,U1,U2,U3,U4,U5,U6,U7,U8,U9,Ka,Kb,Kc,Kd,Ke,Kf,Kg,Kh,Ki,Kj,Kk,Kl,Km,Kn,Ko,Kq,Kr,Ks,Kt,Ku,Kv,Kw,Kx,Ky,Kz,K0,K1,K2,K3,K4,K5,K6,K7,K8,Gb,Gd,Gg,Gi,Gj,Gk,Gl,Gm,Gn,Gr,Hg,Nf,H3,Hc,Hb,tab64]
             tactic =>
              try simp only [G6] at *
              try simp only [nc2] at *
              try simp (maxSteps := 4000000) only [hlb,q1,h0n,hh,hu,hap,hel,hPm,hlen2,hyl2,hS2,Cj,I7,Oq,Gt,Gv,Gx,Gu,szN,Gw,Hi]
              repeat' (first | with_reducible assumption | with_reducible refine And.intro ?_ ?_ | intro _ | omega | (rw [Gy]; omega))
              all_goals first
                | (with_reducible refine Hu ?_; kernel_rfl)
                | omega
                | exact ⟨k + 1, by rw [hP2]; ((try simp only [G3, Ha, G5, Hf, upd, Hh, Hn, Na, Nat.reduceDiv, Nat.reduceMod, Nat.reduceMul, Nat.reduceAdd, Nat.reduceEqDiff, List.set_cons_zero, List.set_cons_succ, if_true, if_false, reduceIte]); (first | refine Wk.of_fl ?_ | skip); simp only [Wk, wkK, Nd, wkT, wk1, AV.kept, keptAll, wkO, lk, G4, and_true, true_and, and_self, Nat.reduceEqDiff, Nat.reduceLeDiff, if_true, if_false, reduceIte, reduceCtorEq, Option.isSome, false_implies]; try simp [Wk, wkK, wkT, wk1, AV.kept, keptAll, wkO, lk, G4, hlen, hP3]), by omega, by omega⟩
                | skip)
    · have hke : k = t.length := by omega
      rw [hke, List.take_length] at hb
      rw [hke, List.take_length]
      rw [hke] at hlb
      obtain ⟨P, hP⟩ : ∃ P, N8 ⟨ks, vs⟩ t = P := ⟨_, rfl⟩
      rw [hP]
      (sym =>
       simp [hlb,hP,O6,Oz,Fw,Gt,Gv,Gx,Gu,szN,Gw,T3,T5,T4,T6,T2,T1,M4.eq_def,Za,Zb,Zc,Zd,Ze,Zf,Zg,Zn,Zo,Zp,Zq,Zr,Zs,Zt,Zu,Zv,Zw,Zx,Zy,Z1,Z3,Z4,Z5,Z7,Qa,Qb,Qc,Qg,Qj,Qk,Ql,Qm,Qn,Qo,Qp,Qr,Q0,Q1,Q4,Q8,Ja,Jb,Jc,Jd,Je,Jf,Jg,Jh,Ji,Jj,Jk,Jl,Jt,Jx,Jy,Jz,J0,J1,J2,J5,J6,J7,J8,J9,Xa,Xb,Xc,Xd,Xe,Xf,Xg,Xh,Xi,Xj,Xk,Xl,Xm,Xn,Xo,Xp,Xq,Xr,Xs,Xt,Xu,Xv,Xw,Xx,Xy,Xz,X1,X2,X3,X4,X5,X6,X7,X8,We,Wf,Wg,Wh,Wi,Wj,Wl,Wm,Wn,Wo,Wp,Ws,Wt,Wu,Wv,Ww,Wx,Wy,Wz,W0,W3,W4,W5,W6,W7,W8,W9,Ya,Yb,Yc,Yd,Ye,Yf,Yg,Yh,Yi,Yj,Yk,Yl,Ym,Yn,Yo,Yr,Ys,Yt,Yu,Yv,Yw,Yx,Yy,Yz,Y1,Y2,Y3,Y4,Y5,Y6,Y7,Y8,Y9,Va,Vb,Vc,Vd,Ve,Vf,Vg,Vh,Vi,Vj,Vk,Vl,Vm,Vn,Vo,Vp,Vq,Vr,Vs,Vt,Vu,Vv,Vw,Vx,Vy,Vz,V0,V1,V2,V3,V4,V5,V6,V7,V8,V9,Ua,Ub,Uc,Ud,Ue,Uf,Ug,Uh,Ui,Uj,Uk,Ul,Um,Un,Uo,Up,Uq,Ur,Us,Ut,Uu,Uv,Uw,Ux,Uy,Uz,U0,U1,U2,U3,U4,U5,U6,U7,U8,U9,Ka,Kb,Kc,Kd,Ke,Kf,Kg,Kh,Ki,Kj,Kk,Kl,Km,Kn,Ko,Kq,Kr,Ks,Kt,Ku,Kv,Kw,Kx,Ky,Kz,K0,K1,K2,K3,K4,K5,K6,K7,K8,Gb,Gd,Gg,Gi,Gj,Gk,Gl,Gm,Gn,Gr,Hg,Nf,H3,Hc,Hb,tab64]
       tactic =>
        try simp only [G6] at *
        try simp only [nc2] at *
        try simp (maxSteps := 4000000) only [hlb,hP,O6,Oz,Fw,Gt,Gv,Gx,Gu,szN,Gw,Hi]
        repeat' (first | with_reducible assumption | with_reducible refine And.intro ?_ ?_ | intro _ | omega | (rw [Gy]; omega))
        all_goals first
          | trivial
          | rfl
          | skip))
def Nk (l : List Ch) : MT := Ps l l.length
def H6 : Con := C0 (fun (t : Sl Node) (l : Sl Ch) => t.l.length ≤ 100000 ∧ l.l.length ≤ 1000000 ∧ I1 (Nk l.l)) (fun t l => Sl.mk (N8 (Nk l.l) t.l))
noncomputable def Fd : Ctx := ⟨tab, lkC [(31, Bu), (49, M4)], 60, lkB [], [], false⟩
theorem ctx_TypeA_t : Fd.τ = tab := rfl
theorem ctx_TypeA_c : Fd.Γ = lkC [(31, Bu), (49, M4)] := rfl
theorem ctx_TypeA_d : Fd.dp = 60 := rfl
theorem ctx_TypeA_b : Fd.Δ = lkB [] := rfl
theorem ctx_TypeA_u : Fd.cuts = [] := rfl
theorem ctx_TypeA_w : Fd.wr = false := rfl
set_option maxRecDepth 100000 in
theorem good_TypeA : M7 Try.prog (12, H6) := by
  refine ⟨He Try.func12 (by kernel_rfl) rfl, ?_⟩
  have K : Nh Try.prog Fd := Hl Ny Ht (by
    intro p hp
    simp only [List.mem_cons, List.not_mem_nil, or_false] at hp
    rcases hp with rfl | rfl
    · exact good_filler
    · exact good_filler_1) (by simp)
  obtain ⟨c, hc⟩ : ∃ c, Try.f12.body = some c := ⟨_, rfl⟩
  refine Hm K Try.func12 hc [.tmp 4] rfl 9 rfl (fun cvs hpre => ?_)
  change H6.pre cvs at hpre
  unfold H6 at hpre
  obtain ⟨⟨t⟩, ⟨l⟩, rfl, ht, hl, hm⟩ := Mp hpre
  simp only at ht hl hm
  clear hpre
  unfold Nk at hm
  have hmo : Nk l = Ps l l.length := rfl
  obtain ⟨⟨ks, vs⟩, hc2⟩ : ∃ m, Ps l l.length = m := ⟨_, rfl⟩
  rw [hc2] at hm hmo
  simp only [Try.f12, Option.some.injEq] at hc
  subst hc
  (sym =>
   simp [hc2,hmo,C7,O6,Oz,Fw,szC,Gt,Gv,Gx,Gu,szN,Gw,ctx_TypeA_t,ctx_TypeA_c,ctx_TypeA_d,ctx_TypeA_b,ctx_TypeA_u,ctx_TypeA_w,H6.eq_def,Bu.eq_def,M4.eq_def,Za,Zb,Zc,Ze,Zf,Zg,Zn,Zo,Zp,Zq,Zr,Zs,Zv,Z8,Z9,Qa,Qb,Qc,Qd,Qe,Qf,Qg,Qk,Qm,Qn,Qo,Qp,Qr,Q0,Q1,Q4,Q8,Q9,Ja,Jf,Jh,Ji,Jj,Jk,Jl,Jt,Jy,Jz,J5,J6,Xj,Xk,Xl,Xm,Xn,Xo,Xp,Xq,Xr,Xs,Xt,Xu,Xv,Xy,X1,X2,X3,X4,X5,X6,X7,X8,We,Wf,Wg,Wh,Wi,Wj,Wl,Wn,Wo,Wp,Ws,Wt,Wu,Wv,Ww,Wx,Wy,Wz,W0,W3,W4,W5,W6,W7,W8,W9,Ya,Yb,Yc,Yd,Ye,Yf,Yg,Yh,Yi,Yj,Yk,Yl,Ym,Yn,Yo,Yv,Yw,Yx,Yy,Yz,Y1,Y2,Y3,Y4,Y5,Y6,Y7,Y8,Y9,Va,Vb,Vc,Vd,Ve,Vf,Vg,Vh,Vi,Vj,Vk,Vl,Vm,Vn,Vo,Vp,Vq,Vr,Vs,Vt,Vu,Vv,Vw,Vx,Vy,Vz,V0,V1,V2,V3,V4,V5,V6,V7,V8,V9,Ua,Ub,Uc,Ud,Ue,Uf,Ug,Uh,Ui,Uj,Uk,Ul,Um,Un,Uo,Up,Uq,Ur,Us,Ut,Uu,Uv,U1,U2,U5,U6,U7,U8,U9,Ka,Kb,Kc,Kd,Ke,Kf,Kg,Kh,Ki,Kj,Kk,Kl,Km,Kn,Ko,Kq,Kr,Ks,Kt,Ku,Kv,Kw,Kx,Ky,Kz,K0,K1,K2,K3,K4,K5,K6,K7,Gg,Gi,Gj,Gk,Gl,Gm,Gn,Gr,Md,Hc,Mc,Hb]
   tactic =>
    try simp only [G6] at *
    try simp only [nc2] at *
    try simp (maxSteps := 4000000) only [hc2,hmo,C7,O6,Oz,Fw,szC,Gt,Gv,Gx,Gu,szN,Gw,Hi]
    repeat' (first | with_reducible assumption | with_reducible refine And.intro ?_ ?_ | intro _ | omega | (rw [Gy]; omega))
    all_goals first
      | omega
      | assumption
      | rfl
      | skip)
end Go.Am.Ty
set_option linter.unusedSimpArgs false
set_option linter.unusedVariables false
set_option maxHeartbeats 2000000
namespace Go.Am.Ty
open Go.Proofs
open Enc (enc dec)
def hit11 (l : List Ch) (n : Node) (k : Nat) : Bool := (n.kind == 0) && (n.n == si l k)
def Ee (l : List Ch) (n : Node) : Nat → List Node
  | 0 => []
  | k + 1 => Ee l n k ++ cond (hit11 l n k) (ty l k) []
def doc1 (l : List Ch) (n : Node) : List Node := Eg n.name (match Ee l n l.length with | [] => [n] | y :: r => y :: r)
def E4 (l : List Ch) (t : List Node) : List Node := t.flatMap (doc1 l)
def FewC (l : List Ch) : Prop := l.length ≤ 100 ∧ ∀ c ∈ l, c.t.length ≤ 1000
theorem fewC_at {l : List Ch} (h : FewC l) {k : Nat} (hk : k < l.length) : (l.getD k c0).t.length ≤ 1000 := h.2 _ (by simp [hk])
theorem put11_len {l : List Ch} (h : FewC l) (n : Node) : ∀ k, k ≤ l.length → (Ee l n k).length ≤ 1000 * k
  | 0, _ => Nat.le_refl _
  | k + 1, hk => by
    have ih := put11_len h n k (by omega)
    have h1 := fewC_at h (k := k) (by omega)
    rw [Ee, List.length_append]
    cases hit11 l n k
    · rw [cond_false, List.length_nil]; omega
    · rw [cond_true]; unfold ty; omega
theorem doc1_len {l : List Ch} (h : FewC l) (n : Node) : (doc1 l n).length ≤ 100001 := by
  have h1 := put11_len h n l.length (Nat.le_refl _)
  have h2 := h.1
  unfold doc1
  rw [D7]
  revert h1
  cases Ee l n l.length with
  | nil => intro _; show 1 ≤ _; omega
  | cons y r => intro h1; show (y :: r).length ≤ _; omega
theorem docT_len {l : List Ch} (h : FewC l) : ∀ t : List Node, (E4 l t).length ≤ 100001 * t.length
  | [] => Nat.le_refl _
  | n :: t => by
    have ih := docT_len h t
    have h1 := doc1_len h n
    unfold E4 at ih ⊢
    rw [List.flatMap_cons, List.length_append, List.length_cons]
    omega
theorem docT_snoc {l : List Ch} {t : List Node} {k : Nat} (h : k < t.length) : E4 l (t.take (k + 1)) = E4 l (t.take k) ++ doc1 l (t.getD k n0) := by
  unfold E4
  rw [Ex n0 h, List.flatMap_append]
  simp
def Mo : Con := C0 (fun (t : Sl Node) (l : Sl Ch) => t.l.length ≤ 1000 ∧ FewC l.l) (fun t l => Sl.mk (E4 l.l t.l))
noncomputable def Dp : Ctx := ⟨tab, lkC [], 60, lkB [], [], false⟩
theorem Lu : Dp.τ = tab := rfl
theorem Lw : Dp.Γ = lkC [] := rfl
theorem Lv : Dp.dp = 60 := rfl
theorem Lx : Dp.Δ = lkB [] := rfl
theorem Lt : Dp.cuts = [] := rfl
theorem Ls : Dp.wr = false := rfl
set_option maxRecDepth 100000 in
theorem good_Type11 : M7 Try.prog (18, Mo) := by
  refine ⟨He Try.func18 (by kernel_rfl) rfl, ?_⟩
  have K : Nh Try.prog Dp := Hl Ny Ht (by simp) (by simp)
  obtain ⟨c, hc⟩ : ∃ c, Try.f18.body = some c := ⟨_, rfl⟩
  refine Hm K Try.func18 hc [.tmp 4] rfl 71 rfl (fun cvs hpre => ?_)
  change Mo.pre cvs at hpre
  unfold Mo at hpre
  obtain ⟨⟨t⟩, ⟨l⟩, rfl, ht, hF⟩ := Mp hpre
  simp only at ht hF
  clear hpre
  have hl := hF.1
  obtain ⟨R, hR⟩ : ∃ R, E4 l t = R := ⟨_, rfl⟩
  have hbound : ∀ k, k ≤ t.length → (E4 l (t.take k)).length ≤ 200000000 := fun k hk => by
    have := docT_len hF (t.take k)
    rw [List.length_take] at this
    omega
  simp only [Try.f18, Option.some.injEq] at hc
  subst hc
  refine Mn 4 (of_decide_eq_true (by kernel_rfl)) ?_
  (sym =>
   simp [Gt,Gv,Gx,Gu,szN,Gw,Lu,Lw,Lv,Lx,Lt,Ls,Mo.eq_def,Za,Zb,Zc,Zd,Ze,Zf,Zg,Zh,Zi,Zj,Zk,Zl,Zm,Zn,Zo,Zp,Zq,Zr,Zs,Zt,Zv,Zw,Zx,Zy,Z1,Z3,Z4,Z5,Qa,Qb,Qc,Qg,Qj,Qk,Ql,Qm,Qn,Qo,Qp,Qq,Qr,Q0,Q1,Q4,Q5,Q6,Q8,Ja,Jb,Jc,Jd,Je,Jf,Jg,Jh,Ji,Jj,Jk,Jl,Jt,Jx,Jy,Jz,J0,J1,J2,J5,J6,J7,J8,J9,Xa,Xb,Xc,Xd,Xe,Xf,Xg,Xh,Xi,Xj,Xk,Xl,Xm,Xn,Xo,Xp,Xq,Xr,Xs,Xt,Xu,Xv,Xw,Xx,Xy,Xz,X1,X2,X3,X4,X5,X6,X7,X8,We,Wf,Wg,Wh,Wi,Wj,Wl,Wm,Wn,Wo,Wp,Wq,Wr,Ws,Wt,Wu,Wv,Ww,Wx,Wy,Wz,W0,W3,W4,W5,W6,W7,W8,W9,Ya,Yb,Yc,Yd,Ye,Yf,Yg,Yh,Yi,Yj,Yk,Yl,Ym,Yn,Yo,Yr,Ys,Yt,Yu,Yv,Yw,Yx,Yy,Yz,Y1,Y2,Y3,Y4,Y5,Y6,Y7,Y8,Y9,Va,Vb,Vc,Vd,Ve,Vf,Vg,Vh,Vi,Vj,Vk,Vl,Vm,Vn,Vo,Vp,Vq,Vr,Vs,Vt,Vu,Vv,Vw,Vx,Vy,Vz,V0,V1,V2,V3,V4,V5,V6,V7,V8,V9,Ua,Ub,Uc,Ud,Ue,Uf,Ug,Uh,Ui,Uj,Uk,Ul,Um,Un,Uo,Up,Uq,Ur,Us,Ut,Uu,Uv,Uw,Ux,Uy,Uz,U0,U1,U2,U3,U4,U5,U6,U7,U8,U9,Ka,Kb,Kc,Kd,Ke,Kf,Kg,Kh,Ki,Kj,Kk,Kl,Km,Kn,Ko,Kq,Kr,Ks,Kt,Ku,Kv,Kw,Kx,Ky,Kz,K0,K1,K2,K3,K4,K5,K6,K7,Gg,Gi,Gj,Gk,Gl,Gm,Gn,Gr,Gs,Hg,H3,Md,Hc,Mc,Hb]
   tactic =>
    try simp only [G6] at *
    try simp only [nc2] at *
    try simp (maxSteps := 4000000) only [Gt,Gv,Gx,Gu,szN,Gw,Hi]
    repeat' (first | with_reducible assumption | with_reducible refine And.intro ?_ ?_ | intro _ | omega | (rw [Gy]; omega))
    refine Ho [7, 8, 10, 11, 12, 13, 14, 15, 16, 17, 18, 19, 20, 21, 22, 23, 24, 25, 26, 27, 28, 29, 30, 31, 32, 33, 34, 35, 36, 37, 38, 39, 40, 41, 42, 43, 44, 45, 46, 47, 48, 49, 50, 51, 52, 53, 54, 55, 56, 57, 58, 59, 60, 61, 62, 63, 64, 65, 66, 67, 68, 69] (fun k : Nat => [(5, .sl 9 ((E4 l (t.take k)).map (enc : Node → D)).length), (6, .d (.int .i64 k))]) (fun k : Nat => [(9, .row 3 ((E4 l (t.take k)).map enc) 0)]) (fun k : Nat => k ≤ t.length) (fun k : Nat => t.length - k) 0 ?_ ?_ ?_
    · omega
    · ((try simp only [G3, Ha, G5, Hf, upd, Hh, Hn, Na, Nat.reduceDiv, Nat.reduceMod, Nat.reduceMul, Nat.reduceAdd, Nat.reduceEqDiff, List.set_cons_zero, List.set_cons_succ, if_true, if_false, reduceIte]); (first | refine Wk.of_fl ?_ | skip); simp only [Wk, wkK, Nd, wkT, wk1, AV.kept, keptAll, wkO, lk, G4, and_true, true_and, and_self, Nat.reduceEqDiff, Nat.reduceLeDiff, if_true, if_false, reduceIte, reduceCtorEq, Option.isSome, false_implies]; try simp [Wk, wkK, wkT, wk1, AV.kept, keptAll, wkO, lk, G4, E4])
    rintro k hk
    have hb := hbound k hk
    rcases Hq k t.length with ⟨hlt, hlb⟩ | ⟨hlt, hlb⟩
    · have hS := docT_snoc (l := l) hlt
      have hb2 := hbound (k + 1) (by omega)
      have q1 := H7 n0 hlt
      obtain ⟨x, hx⟩ : ∃ x, t.getD k n0 = x := ⟨_, rfl⟩
      rw [hx] at q1 hS
      unfold doc1 at hS
      obtain ⟨P, hP⟩ : ∃ P, E4 l (t.take k) = P := ⟨_, rfl⟩
      obtain ⟨P2, hP2⟩ : ∃ P, E4 l (t.take (k + 1)) = P := ⟨_, rfl⟩
      rw [hP] at hS hb
      rw [hP2] at hS hb2
      rw [hP]
      have hPm : (P.map (enc : Node → D)).length = P.length := List.length_map ..
      have hput := put11_len hF x
      (sym =>
       simp [hlb,Gt,Gv,Gx,Gu,szN,Gw,Lu,Lw,Lv,Lx,Lt,Ls,Mo.eq_def,Za,Zb,Zc,Zd,Ze,Zf,Zg,Zh,Zi,Zj,Zk,Zl,Zm,Zn,Zo,Zp,Zq,Zr,Zs,Zt,Zv,Zw,Zx,Zy,Z1,Z3,Z4,Z5,Qa,Qb,Qc,Qg,Qj,Qk,Ql,Qm,Qn,Qo,Qp,Qq,Qr,Q0,Q1,Q4,Q5,Q6,Q8,Ja,Jb,Jc,Jd,Je,Jf,Jg,Jh,Ji,Jj,Jk,Jl,Jt,Jx,Jy,Jz,J0,J1,J2,J5,J6,J7,J8,J9,Xa,Xb,Xc,Xd,Xe,Xf,Xg,Xh,Xi,Xj,Xk,Xl,Xm,Xn,Xo,Xp,Xq,Xr,Xs,Xt,Xu,Xv,Xw,Xx,Xy,Xz,X1,X2,X3,X4,X5,X6,X7,X8,We,Wf,Wg,Wh,Wi,Wj,Wl,Wm,Wn,Wo,Wp,Wq,Wr,Ws,Wt,Wu,Wv,Ww,Wx,Wy,Wz,W0,W3,W4,W5,W6,W7,W8,W9,Ya,Yb,Yc,Yd,Ye,Yf,Yg,Yh,Yi,Yj,Yk,Yl,Ym,Yn,Yo,Yr,Ys,Yt,Yu,Yv,Yw,Yx,Yy,Yz,Y1,Y2,Y3,Y4,Y5,Y6,Y7,Y8,Y9,Va,Vb,Vc,Vd,Ve,Vf,Vg,Vh,Vi,Vj,Vk,Vl,Vm,Vn,Vo,Vp,Vq,Vr,Vs,Vt,Vu,Vv,Vw,Vx,Vy,Vz,V0,V1,V2,V3,V4,V5,V6,V7,V8,V9,Ua,Ub,Uc,Ud,Ue,Uf,Ug,Uh,Ui,Uj,Uk,Ul,Um,Un,Uo,Up,Uq,Ur,Us,Ut,Uu,Uv,Uw,Ux,Uy,Uz,U0,U1,U2,U3,U4,U5,U6,U7,U8,U9,Ka,Kb,Kc,Kd,Ke,Kf,Kg,Kh,Ki,Kj,Kk,Kl,Km,Kn,Ko,Kq,Kr,Ks,Kt,Ku,Kv,Kw,Kx,Ky,Kz,K0,K1,K2,K3,K4,K5,K6,K7,Gg,Gi,Gj,Gk,Gl,Gm,Gn,Gr,Gs,Hg,H3,Md,Hc,Mc,Hb]
       tactic =>
        try simp only [G6] at *
        try simp only [nc2] at *
        try simp (maxSteps := 4000000) only [hlb,Gt,Gv,Gx,Gu,szN,Gw,Hi]
        repeat' (first | with_reducible assumption | with_reducible refine And.intro ?_ ?_ | intro _ | omega | (rw [Gy]; omega))
        refine Ho [18, 19, 20, 21, 22, 23, 24, 25, 26, 27, 28, 29, 30, 31, 32, 33, 34, 35, 36, 37, 38, 39, 40, 41, 42, 43, 44, 45, 46, 47, 48, 49] (fun j : Nat => [(5, .sl 9 ((P ++ Ee l x j).map (enc : Node → D)).length), (8, .d (.int .i64 j))]) (fun j : Nat => [(9, .row 3 ((P ++ Ee l x j).map enc) 0)]) (fun j : Nat => j ≤ l.length) (fun j : Nat => l.length - j) 0 ?_ ?_ ?_
        · omega
        · ((try simp only [G3, Ha, G5, Hf, upd, Hh, Hn, Na, Nat.reduceDiv, Nat.reduceMod, Nat.reduceMul, Nat.reduceAdd, Nat.reduceEqDiff, List.set_cons_zero, List.set_cons_succ, if_true, if_false, reduceIte]); (first | refine Wk.of_fl ?_ | skip); simp only [Wk, wkK, Nd, wkT, wk1, AV.kept, keptAll, wkO, lk, G4, and_true, true_and, and_self, Nat.reduceEqDiff, Nat.reduceLeDiff, if_true, if_false, reduceIte, reduceCtorEq, Option.isSome, false_implies]; try simp [Wk, wkK, wkT, wk1, AV.kept, keptAll, wkO, lk, G4, Ee])
        rintro j hj
        have hpj := hput j hj
        rcases Hq j l.length with ⟨hjt, hjb⟩ | ⟨hjt, hjb⟩
        · have q2 := H7 c0 hjt
          have hl3 := fewC_at hF hjt
          have hPS : P ++ Ee l x (j + 1) = (P ++ Ee l x j) ++ cond (hit11 l x j) (ty l j) [] := by rw [Ee, List.append_assoc]
          unfold hit11 si ty at hPS
          obtain ⟨y, hy⟩ : ∃ y, l.getD j c0 = y := ⟨_, rfl⟩
          rw [hy] at q2 hPS hl3
          have hQl : (P ++ Ee l x j).length = P.length + (Ee l x j).length := List.length_append ..
          obtain ⟨Q, hQ⟩ : ∃ Q, P ++ Ee l x j = Q := ⟨_, rfl⟩
          obtain ⟨Q2, hQ2⟩ : ∃ Q, P ++ Ee l x (j + 1) = Q := ⟨_, rfl⟩
          have hQ2l : P.length + (Ee l x (j + 1)).length = Q2.length := by rw [← hQ2, List.length_append]
          rw [hQ, hQ2] at hPS
          rw [hQ] at hQl
          rw [hQ]
          have hQe : Q.map (enc : Node → D) ++ y.t.map enc = (Q ++ y.t).map enc := by rw [List.map_append]
          cases hz : (x.kind == 0) with
          | false =>
            rw [hz, Bool.false_and, cond_false, List.append_nil] at hPS
            (sym =>
             simp [hlb,hjb,q1,q2,hz,My,szC,Gt,Gv,Gx,Gu,szN,Gw,Lu,Lw,Lv,Lx,Lt,Ls,Mo.eq_def,Za,Zb,Zc,Zd,Ze,Zf,Zg,Zh,Zi,Zj,Zk,Zl,Zm,Zn,Zo,Zp,Zq,Zr,Zs,Zt,Zv,Zw,Zx,Zy,Z1,Z3,Z4,Z5,Qa,Qb,Qc,Qg,Qj,Qk,Ql,Qm,Qn,Qo,Qp,Qq,Qr,Q0,Q1,Q4,Q5,Q6,Q8,Ja,Jb,Jc,Jd,Je,Jf,Jg,Jh,Ji,Jj,Jk,Jl,Jt,Jx,Jy,Jz,J0,J1,J2,J5,J6,J7,J8,J9,Xa,Xb,Xc,Xd,Xe,Xf,Xg,Xh,Xi,Xj,Xk,Xl,Xm,Xn,Xo,Xp,Xq,Xr,Xs,Xt,Xu,Xv,Xw,Xx,Xy,Xz,X1,X2,X3,X4,X5,X6,X7,X8,We,Wf,Wg,Wh,Wi,Wj,Wl,Wm,Wn,Wo,Wp,Wq,Wr,Ws,Wt,Wu,Wv,Ww,Wx,Wy,Wz,W0,W3,W4,W5,W6,W7,W8,W9,Ya,Yb,Yc,Yd,Ye,Yf,Yg,Yh,Yi,Yj,Yk,Yl,Ym,Yn,Yo,Yr,Ys,Yt,Yu,Yv,Yw,Yx,Yy,Yz,Y1,Y2,Y3,Y4,Y5,Y6,Y7,Y8,Y9,Va,Vb,Vc,Vd,Ve,Vf,Vg,Vh,Vi,Vj,Vk,Vl,Vm,Vn,Vo,Vp,Vq,Vr,Vs,Vt,Vu,Vv,Vw,Vx,Vy,Vz,V0,V1,V2,V3,V4,V5,V6,V7,V8,V9,Ua,Ub,Uc,Ud,Ue,Uf,Ug,Uh,Ui,Uj,Uk,Ul,Um,Un,Uo,Up,Uq,Ur,Us,Ut,Uu,Uv,Uw,Ux,Uy,Uz,U0,U1,U2,U3,U4,U5,U6,U7,U8,U9,Ka,Kb,Kc,Kd,Ke,Kf,Kg,Kh,Ki,Kj,Kk,Kl,Km,Kn,Ko,Kq,Kr,Ks,Kt,Ku,Kv,Kw,Kx,Ky,Kz,K0,K1,K2,K3,K4,K5,K6,K7,Gg,Gi,Gj,Gk,Gl,Gm,Gn,Gr,Gs,Hg,H3,Md,Hc,Mc,Hb]
             tactic =>
              try simp only [G6] at *
              try simp only [nc2] at *
              try simp (maxSteps := 4000000) only [hlb,hjb,q1,q2,hz,My,szC,Gt,Gv,Gx,Gu,szN,Gw,Hi]
              repeat' (first | with_reducible assumption | with_reducible refine And.intro ?_ ?_ | intro _ | omega | (rw [Gy]; omega))
              all_goals first
                | (with_reducible refine Hu ?_; kernel_rfl)
                | omega
                | exact ⟨j + 1, by rw [hPS] at hQ2l; (try rw [List.length_append] at hQ2l); rw [hQ2, hQ2l, hPS]; ((try simp only [G3, Ha, G5, Hf, upd, Hh, Hn, Na, Nat.reduceDiv, Nat.reduceMod, Nat.reduceMul, Nat.reduceAdd, Nat.reduceEqDiff, List.set_cons_zero, List.set_cons_succ, if_true, if_false, reduceIte]); (first | refine Wk.of_fl ?_ | skip); simp only [Wk, wkK, Nd, wkT, wk1, AV.kept, keptAll, wkO, lk, G4, and_true, true_and, and_self, Nat.reduceEqDiff, Nat.reduceLeDiff, if_true, if_false, reduceIte, reduceCtorEq, Option.isSome, false_implies]; try simp [Wk, wkK, wkT, wk1, AV.kept, keptAll, wkO, lk, G4]), by omega, by omega⟩
                | skip)
          | true =>
            cases hs : (x.n == y.site) with
            | false =>
              rw [hz, hs, Bool.and_false, cond_false, List.append_nil] at hPS
              (sym =>
               simp [hlb,hjb,q1,q2,hz,hs,My,szC,Gt,Gv,Gx,Gu,szN,Gw,Lu,Lw,Lv,Lx,Lt,Ls,Mo.eq_def,Za,Zb,Zc,Zd,Ze,Zf,Zg,Zh,Zi,Zj,Zk,Zl,Zm,Zn,Zo,Zp,Zq,Zr,Zs,Zt,Zv,Zw,Zx,Zy,Z1,Z3,Z4,Z5,Qa,Qb,Qc,Qg,Qj,Qk,Ql,Qm,Qn,Qo,Qp,Qq,Qr,Q0,Q1,Q4,Q5,Q6,Q8,Ja,Jb,Jc,Jd,Je,Jf,Jg,Jh,Ji,Jj,Jk,Jl,Jt,Jx,Jy,Jz,J0,J1,J2,J5,J6,J7,J8,J9,Xa,Xb,Xc,Xd,Xe,Xf,Xg,Xh,Xi,Xj,Xk,Xl,Xm,Xn,Xo,Xp,Xq,Xr,Xs,Xt,Xu,Xv,Xw,Xx,Xy,Xz,X1,X2,X3,X4,X5,X6,X7,X8,We,Wf,Wg,Wh,Wi,Wj,Wl,Wm,Wn,Wo,Wp,Wq,Wr,Ws,Wt,Wu,Wv,Ww,Wx,Wy,Wz,W0,W3,W4,W5,W6,W7,W8,W9,Ya,Yb,Yc,Yd,Ye,Yf,Yg,Yh,Yi,Yj,Yk,Yl,Ym,Yn,Yo,Yr,Ys,Yt,Yu,Yv,Yw,Yx,Yy,Yz,Y1,Y2,Y3,Y4,Y5,Y6,Y7,Y8,Y9,Va,Vb,Vc,Vd,Ve,Vf,Vg,Vh,Vi,Vj,Vk,Vl,Vm,Vn,Vo,Vp,Vq,Vr,Vs,Vt,Vu,Vv,Vw,Vx,Vy,Vz,V0,V1,V2,V3,V4,V5,V6,V7,V8,V9,Ua,Ub,Uc,Ud,Ue,Uf,Ug,Uh,Ui,Uj,Uk,Ul,Um,Un,Uo,Up,Uq,Ur,Us,Ut,Uu,Uv,Uw,Ux,Uy,Uz,U0,U1,U2,U3,U4,U5,U6,U7,U8,U9,Ka,Kb,Kc,Kd,Ke,Kf,Kg,Kh,Ki,Kj,Kk,Kl,Km,Kn,Ko,Kq,Kr,Ks,Kt,Ku,Kv,Kw,Kx,Ky,Kz,K0,K1,K2,K3,K4,K5,K6,K7,Gg,Gi,Gj,Gk,Gl,Gm,Gn,Gr,Gs,Hg,H3,Md,Hc,Mc,Hb]
               tactic =>
                try simp only [G6] at *
                try simp only [nc2] at *
                try simp (maxSteps := 4000000) only [hlb,hjb,q1,q2,hz,hs,My,szC,Gt,Gv,Gx,Gu,szN,Gw,Hi]
                repeat' (first | with_reducible assumption | with_reducible refine And.intro ?_ ?_ | intro _ | omega | (rw [Gy]; omega))
                all_goals first
                  | (with_reducible refine Hu ?_; kernel_rfl)
                  | omega
                  | exact ⟨j + 1, by rw [hPS] at hQ2l; (try rw [List.length_append] at hQ2l); rw [hQ2, hQ2l, hPS]; ((try simp only [G3, Ha, G5, Hf, upd, Hh, Hn, Na, Nat.reduceDiv, Nat.reduceMod, Nat.reduceMul, Nat.reduceAdd, Nat.reduceEqDiff, List.set_cons_zero, List.set_cons_succ, if_true, if_false, reduceIte]); (first | refine Wk.of_fl ?_ | skip); simp only [Wk, wkK, Nd, wkT, wk1, AV.kept, keptAll, wkO, lk, G4, and_true, true_and, and_self, Nat.reduceEqDiff, Nat.reduceLeDiff, if_true, if_false, reduceIte, reduceCtorEq, Option.isSome, false_implies]; try simp [Wk, wkK, wkT, wk1, AV.kept, keptAll, wkO, lk, G4]), by omega, by omega⟩
                  | skip)
            | true =>
              rw [hz, hs, Bool.and_self, cond_true] at hPS
              (sym =>
               simp [hlb,hjb,q1,q2,hz,hs,hQe,My,szC,Gt,Gv,Gx,Gu,szN,Gw,Lu,Lw,Lv,Lx,Lt,Ls,Mo.eq_def,Za,Zb,Zc,Zd,Ze,Zf,Zg,Zh,Zi,Zj,Zk,Zl,Zm,Zn,Zo,Zp,Zq,Zr,Zs,Zt,Zv,Zw,Zx,Zy,Z1,Z3,Z4,Z5,Qa,Qb,Qc,Qg,Qj,Qk,Ql,Qm,Qn,Qo,Qp,Qq,Qr,Q0,Q1,Q4,Q5,Q6,Q8,Ja,Jb,Jc,Jd,Je,Jf,Jg,Jh,Ji,Jj,Jk,Jl,Jt,Jx,Jy,Jz,J0,J1,J2,J5,J6,J7,J8,J9,Xa,Xb,Xc,Xd,Xe,Xf,Xg,Xh,Xi,Xj,Xk,Xl,Xm,Xn,Xo,Xp,Xq,Xr,Xs,Xt,Xu,Xv,Xw,Xx,Xy,Xz,X1,X2,X3,X4,X5,X6,X7,X8,We,Wf,Wg,Wh,Wi,Wj,Wl,Wm,Wn,Wo,Wp,Wq,Wr,Ws,Wt,Wu,Wv,Ww,Wx,Wy,Wz,W0,W3,W4,W5,W6,W7,W8,W9,Ya,Yb,Yc,Yd,Ye,Yf,Yg,Yh,Yi,Yj,Yk,Yl,Ym,Yn,Yo,Yr,Ys,Yt,Yu,Yv,Yw,Yx,Yy,Yz,Y1,Y2,Y3,Y4,Y5,Y6,Y7,Y8,Y9,Va,Vb,Vc,Vd,Ve,Vf,Vg,Vh,Vi,Vj,Vk,Vl,Vm,Vn,Vo,Vp,Vq,Vr,Vs,Vt,Vu,Vv,Vw,Vx,Vy,Vz,V0,V1,V2,V3,V4,V5,V6,V7,V8,V9,Ua,Ub,Uc,Ud,Ue,Uf,Ug,Uh,Ui,Uj,Uk,Ul,Um,Un,Uo,Up,Uq,Ur,Us,Ut,Uu,Uv,Uw,Ux,Uy,Uz,U0,U1,U2,U3,U4,U5,U6,U7,U8,U9,Ka,Kb,Kc,Kd,Ke,Kf,Kg,Kh,Ki,Kj,Kk,Kl,Km,Kn,Ko,Kq,Kr,Ks,Kt,Ku,Kv,Kw,Kx,Ky,Kz,K0,K1,K2,K3,K4,K5,K6,K7,Gg,Gi,Gj,Gk,Gl,Gm,Gn,Gr,Gs,Hg,H3,Md,Hc,Mc,Hb]
               tactic =>
                try simp only [G6] at *
                try simp only [nc2] at *
                try simp (maxSteps := 4000000) only [hlb,hjb,q1,q2,hz,hs,hQe,My,szC,Gt,Gv,Gx,Gu,szN,Gw,Hi]
                repeat' (first | with_reducible assumption | with_reducible refine And.intro ?_ ?_ | intro _ | omega | (rw [Gy]; omega))
                all_goals first
                  | (with_reducible refine Hu ?_; kernel_rfl)
                  | omega
                  | exact ⟨j + 1, by rw [hPS] at hQ2l; (try rw [List.length_append] at hQ2l); rw [hQ2, hQ2l, hPS]; ((try simp only [G3, Ha, G5, Hf, upd, Hh, Hn, Na, Nat.reduceDiv, Nat.reduceMod, Nat.reduceMul, Nat.reduceAdd, Nat.reduceEqDiff, List.set_cons_zero, List.set_cons_succ, if_true, if_false, reduceIte]); (first | refine Wk.of_fl ?_ | skip); simp only [Wk, wkK, Nd, wkT, wk1, AV.kept, keptAll, wkO, lk, G4, and_true, true_and, and_self, Nat.reduceEqDiff, Nat.reduceLeDiff, if_true, if_false, reduceIte, reduceCtorEq, Option.isSome, false_implies]; try simp [Wk, wkK, wkT, wk1, AV.kept, keptAll, wkO, lk, G4]), by omega, by omega⟩
                  | skip)
        · have hje : j = l.length := by omega
          rw [hje]
          rw [hje] at hjb hpj
          obtain ⟨u, hu⟩ : ∃ u, Ee l x l.length = u := ⟨_, rfl⟩
          rw [hu] at hS hpj
          rw [hu]
          cases u with
          | nil =>
            have hS2 := set_named (P := P) (n := x) (r := []) (s := x.name)
            have hel := el_named (P := P) (n := x) (r := [])
            simp only at hS
            rw [← hS] at hS2
            have hap : P.map (enc : Node → D) ++ [.agg [.int .i64 x.kind, .str x.name, .int .i64 x.n]] = (P ++ [x]).map enc := by rw [List.map_append]; rfl
            have hlen : (P ++ [x]).length = P.length + 1 := by simp
            have hlen2 : ((P ++ [x]).map (enc : Node → D)).length = P.length + 1 := by rw [List.length_map, hlen]
            have hP3 : P2.length = P.length + 1 := by rw [hS, List.length_append, D7]; rfl
            have hPn : P ++ [] = P := List.append_nil P
            obtain ⟨Q, hQ⟩ : ∃ Q, P ++ [x] = Q := ⟨_, rfl⟩
            rw [hQ] at hS2 hel hap hlen hlen2
            (sym =>
             simp [hlb,hjb,q1,hPn,hPm,hap,hel,hlen2,hS2,szC,Gt,Gv,Gx,Gu,szN,Gw,Lu,Lw,Lv,Lx,Lt,Ls,Mo.eq_def,Za,Zb,Zc,Zd,Ze,Zf,Zg,Zh,Zi,Zj,Zk,Zl,Zm,Zn,Zo,Zp,Zq,Zr,Zs,Zt,Zv,Zw,Zx,Zy,Z1,Z3,Z4,Z5,Qa,Qb,Qc,Qg,Qj,Qk,Ql,Qm,Qn,Qo,Qp,Qq,Qr,Q0,Q1,Q4,Q5,Q6,Q8,Ja,Jb,Jc,Jd,Je,Jf,Jg,Jh,Ji,Jj,Jk,Jl,Jt,Jx,Jy,Jz,J0,J1,J2,J5,J6,J7,J8,J9,Xa,Xb,Xc,Xd,Xe,Xf,Xg,Xh,Xi,Xj,Xk,Xl,Xm,Xn,Xo,Xp,Xq,Xr,Xs,Xt,Xu,Xv,Xw,Xx,Xy,Xz,X1,X2,X3,X4,X5,X6,X7,X8,We,Wf,Wg,Wh,Wi,Wj,Wl,Wm,Wn,Wo,Wp,Wq,Wr,Ws,Wt,Wu,Wv,Ww,Wx,Wy,Wz,W0,W3,W4,W5,W6,W7,W8,W9,Ya,Yb,Yc,Yd,Ye,Yf,Yg,Yh,Yi,Yj,Yk,Yl,Ym,Yn,Yo,Yr,Ys,Yt,Yu,Yv,Yw,Yx,Yy,Yz,Y1,Y2,Y3,Y4,Y5,Y6,Y7,Y8,Y9,Va,Vb,Vc,Vd,Ve,Vf,Vg,Vh,Vi,Vj,Vk,Vl,Vm,Vn,Vo,Vp,Vq,Vr,Vs,Vt,Vu,Vv,Vw,Vx,Vy,Vz,V0,V1,V2,V3,V4,V5,V6,V7,V8,V9,Ua,Ub,Uc,Ud,Ue,Uf,Ug,Uh,Ui,Uj,Uk,Ul,Um,Un,Uo,Up,Uq,Ur,Us,Ut,Uu,Uv,Uw,Ux,Uy,Uz,U0,U1,U2,U3,U4,U5,U6,U7,U8,U9,Ka,Kb,Kc,Kd,Ke,Kf,Kg,Kh,Ki,Kj,Kk,Kl,Km,Kn,Ko,Kq,Kr,Ks,Kt,Ku,Kv,Kw,Kx,Ky,Kz,K0,K1,K2,K3,K4,K5,K6,K7,Gg,Gi,Gj,Gk,Gl,Gm,Gn,Gr,Gs,Hg,H3,Md,Hc,Mc,Hb]
             tactic =>
              try simp only [G6] at *
              try simp only [nc2] at *
              try simp (maxSteps := 4000000) only [hlb,hjb,q1,hPn,hPm,hap,hel,hlen2,hS2,szC,Gt,Gv,Gx,Gu,szN,Gw,Hi]
              repeat' (first | with_reducible assumption | with_reducible refine And.intro ?_ ?_ | intro _ | omega | (rw [Gy]; omega))
              all_goals first
                | (with_reducible refine Hu ?_; kernel_rfl)
                | omega
                | exact ⟨k + 1, by rw [hP2]; ((try simp only [G3, Ha, G5, Hf, upd, Hh, Hn, Na, Nat.reduceDiv, Nat.reduceMod, Nat.reduceMul, Nat.reduceAdd, Nat.reduceEqDiff, List.set_cons_zero, List.set_cons_succ, if_true, if_false, reduceIte]); (first | refine Wk.of_fl ?_ | skip); simp only [Wk, wkK, Nd, wkT, wk1, AV.kept, keptAll, wkO, lk, G4, and_true, true_and, and_self, Nat.reduceEqDiff, Nat.reduceLeDiff, if_true, if_false, reduceIte, reduceCtorEq, Option.isSome, false_implies]; try simp [Wk, wkK, wkT, wk1, AV.kept, keptAll, wkO, lk, G4, hlen, hP3]), by omega, by omega⟩
                | skip)
          | cons y r =>
            have hS2 := set_named (P := P) (n := y) (r := r) (s := x.name)
            have hel := el_named (P := P) (n := y) (r := r)
            simp only at hS
            rw [← hS] at hS2
            have hlen : (P ++ y :: r).length = P.length + (r.length + 1) := by simp
            have hlen2 : ((P ++ y :: r).map (enc : Node → D)).length = P.length + (r.length + 1) := by rw [List.length_map, hlen]
            have hP3 : P2.length = P.length + (r.length + 1) := by rw [hS, List.length_append, D7]; rfl
            simp only [List.length_cons] at hpj
            obtain ⟨Q, hQ⟩ : ∃ Q, P ++ y :: r = Q := ⟨_, rfl⟩
            rw [hQ] at hS2 hel hlen hlen2
            rw [hQ]
            have hne : ((P.length : Int) == ((P.length + (r.length + 1) : Nat) : Int)) = false := by rw [beq_eq_false_iff_ne]; omega
            (sym =>
             simp [hlb,hjb,q1,hPm,hne,hel,hlen2,hS2,szC,Gt,Gv,Gx,Gu,szN,Gw,Lu,Lw,Lv,Lx,Lt,Ls,Mo.eq_def,Za,Zb,Zc,Zd,Ze,Zf,Zg,Zh,Zi,Zj,Zk,Zl,Zm,Zn,Zo,Zp,Zq,Zr,Zs,Zt,Zv,Zw,Zx,Zy,Z1,Z3,Z4,Z5,Qa,Qb,Qc,Qg,Qj,Qk,Ql,Qm,Qn,Qo,Qp,Qq,Qr,Q0,Q1,Q4,Q5,Q6,Q8,Ja,Jb,Jc,Jd,Je,Jf,Jg,Jh,Ji,Jj,Jk,Jl,Jt,Jx,Jy,Jz,J0,J1,J2,J5,J6,J7,J8,J9,Xa,Xb,Xc,Xd,Xe,Xf,Xg,Xh,Xi,Xj,Xk,Xl,Xm,Xn,Xo,Xp,Xq,Xr,Xs,Xt,Xu,Xv,Xw,Xx,Xy,Xz,X1,X2,X3,X4,X5,X6,X7,X8,We,Wf,Wg,Wh,Wi,Wj,Wl,Wm,Wn,Wo,Wp,Wq,Wr,Ws,Wt,Wu,Wv,Ww,Wx,Wy,Wz,W0,W3,W4,W5,W6,W7,W8,W9,Ya,Yb,Yc,Yd,Ye,Yf,Yg,Yh,Yi,Yj,Yk,Yl,Ym,Yn,Yo,Yr,Ys,Yt,Yu,Yv,Yw,Yx,Yy,Yz,Y1,Y2,Y3,Y4,Y5,Y6,Y7,Y8,Y9,Va,Vb,Vc,Vd,Ve,Vf,Vg,Vh,Vi,Vj,Vk,Vl,Vm,Vn,Vo,Vp,Vq,Vr,Vs,Vt,Vu,Vv,Vw,Vx,Vy,Vz,V0,V1,V2,V3,V4,V5,V6,V7,V8,V9,Ua,Ub,Uc,Ud,Ue,Uf,Ug,Uh,Ui,Uj,Uk,Ul,Um,Un,Uo,Up,Uq,Ur,Us,Ut,Uu,Uv,Uw,Ux,Uy,Uz,U0,U1,U2,U3,U4,U5,U6,U7,U8,U9,Ka,Kb,Kc,Kd,Ke,Kf,Kg,Kh,Ki,Kj,Kk,Kl,Km,Kn,Ko,Kq,Kr,Ks,Kt,Ku,Kv,Kw,Kx,Ky,Kz,K0,K1,K2,K3,K4,K5,K6,K7,Gg,Gi,Gj,Gk,Gl,Gm,Gn,Gr,Gs,Hg,H3,Md,Hc,Mc,Hb]
             tactic =>
              try simp only [G6] at *
              try simp only [nc2] at *
              try simp (maxSteps := 4000000) only [hlb,hjb,q1,hPm,hne,hel,hlen2,hS2,szC,Gt,Gv,Gx,Gu,szN,Gw,Hi]
              repeat' (first | with_reducible assumption | with_reducible refine And.intro ?_ ?_ | intro _ | omega | (rw [Gy]; omega))
              all_goals first
                | (with_reducible refine Hu ?_; kernel_rfl)
                | omega
                | exact ⟨k + 1, by rw [hP2]; ((try simp only [G3, Ha, G5, Hf, upd, Hh, Hn, Na, Nat.reduceDiv, Nat.reduceMod, Nat.reduceMul, Nat.reduceAdd, Nat.reduceEqDiff, List.set_cons_zero, List.set_cons_succ, if_true, if_false, reduceIte]); (first | refine Wk.of_fl ?_ | skip); simp only [Wk, wkK, Nd, wkT, wk1, AV.kept, keptAll, wkO, lk, G4, and_true, true_and, and_self, Nat.reduceEqDiff, Nat.reduceLeDiff, if_true, if_false, reduceIte, reduceCtorEq, Option.isSome, false_implies]; try simp [Wk, wkK, wkT, wk1, AV.kept, keptAll, wkO, lk, G4, hlen, hP3]), by omega, by omega⟩
                | skip))
    · have hke : k = t.length := by omega
      rw [hke, List.take_length] at hb
      rw [hke, List.take_length]
      rw [hke] at hlb
      obtain ⟨P, hP⟩ : ∃ P, E4 l t = P := ⟨_, rfl⟩
      rw [hP]
      (sym =>
       simp [hlb,hP,Gt,Gv,Gx,Gu,szN,Gw,Lu,Lw,Lv,Lx,Lt,Ls,Mo.eq_def,Za,Zb,Zc,Zd,Ze,Zf,Zg,Zh,Zi,Zj,Zk,Zl,Zm,Zn,Zo,Zp,Zq,Zr,Zs,Zt,Zv,Zw,Zx,Zy,Z1,Z3,Z4,Z5,Qa,Qb,Qc,Qg,Qj,Qk,Ql,Qm,Qn,Qo,Qp,Qq,Qr,Q0,Q1,Q4,Q5,Q6,Q8,Ja,Jb,Jc,Jd,Je,Jf,Jg,Jh,Ji,Jj,Jk,Jl,Jt,Jx,Jy,Jz,J0,J1,J2,J5,J6,J7,J8,J9,Xa,Xb,Xc,Xd,Xe,Xf,Xg,Xh,Xi,Xj,Xk,Xl,Xm,Xn,Xo,Xp,Xq,Xr,Xs,Xt,Xu,Xv,Xw,Xx,Xy,Xz,X1,X2,X3,X4,X5,X6,X7,X8,We,Wf,Wg,Wh,Wi,Wj,Wl,Wm,Wn,Wo,Wp,Wq,Wr,Ws,Wt,Wu,Wv,Ww,Wx,Wy,Wz,W0,W3,W4,W5,W6,W7,W8,W9,Ya,Yb,Yc,Yd,Ye,Yf,Yg,Yh,Yi,Yj,Yk,Yl,Ym,Yn,Yo,Yr,Ys,Yt,Yu,Yv,Yw,Yx,Yy,Yz,Y1,Y2,Y3,Y4,Y5,Y6,Y7,Y8,Y9,Va,Vb,Vc,Vd,Ve,Vf,Vg,Vh,Vi,Vj,Vk,Vl,Vm,Vn,Vo,Vp,Vq,Vr,Vs,Vt,Vu,Vv,Vw,Vx,Vy,Vz,V0,V1,V2,V3,V4,V5,V6,V7,V8,V9,Ua,Ub,Uc,Ud,Ue,Uf,Ug,Uh,Ui,Uj,Uk,Ul,Um,Un,Uo,Up,Uq,Ur,Us,Ut,Uu,Uv,Uw,Ux,Uy,Uz,U0,U1,U2,U3,U4,U5,U6,U7,U8,U9,Ka,Kb,Kc,Kd,Ke,Kf,Kg,Kh,Ki,Kj,Kk,Kl,Km,Kn,Ko,Kq,Kr,Ks,Kt,Ku,Kv,Kw,Kx,Ky,Kz,K0,K1,K2,K3,K4,K5,K6,K7,Gg,Gi,Gj,Gk,Gl,Gm,Gn,Gr,Gs,Hg,H3,Md,Hc,Mc,Hb]
       tactic =>
        try simp only [G6] at *
        try simp only [nc2] at *
        try simp (maxSteps := 4000000) only [hlb,hP,Gt,Gv,Gx,Gu,szN,Gw,Hi]
        repeat' (first | with_reducible assumption | with_reducible refine And.intro ?_ ?_ | intro _ | omega | (rw [Gy]; omega))
        all_goals first
          | trivial
          | rfl
          | skip))
end Go.Am.Ty
set_option linter.unusedSimpArgs false
set_option linter.unusedVariables false
set_option maxHeartbeats 2000000
namespace Go.Am.Ty
open Go.Proofs
open Enc (enc dec)
def Pw (m : MT) (p : Part) : Part := ⟨p.kind, p.label, p.name, p.bind, p.many, p.num, N8 m p.t, N8 m p.u⟩
def I6 (f : Part → Part) (e : List Part) (k : Nat) : List Part := (e.take k).map f ++ e.drop k
theorem midP_len {f : Part → Part} {e : List Part} {k : Nat} (h : k ≤ e.length) : (I6 f e k).length = e.length := by
  unfold I6
  rw [List.length_append, List.length_map, List.length_take, List.length_drop]
  omega
theorem midP_zero {f : Part → Part} {e : List Part} : I6 f e 0 = e := by simp [I6]
theorem midP_all {f : Part → Part} {e : List Part} : I6 f e e.length = e.map f := by simp [I6]
theorem midP_split {f : Part → Part} {e : List Part} {k : Nat} (h : k < e.length) : I6 f e k = (e.take k).map f ++ e.getD k e0 :: e.drop (k + 1) := by
  unfold I6
  rw [List.drop_eq_getElem_cons h]
  simp [h]
theorem midP_at {f : Part → Part} {e : List Part} {k : Nat} (h : k < e.length) : el ((I6 f e k).map (enc : Part → D)) k = enc (e.getD k e0) := by
  rw [midP_split h]
  have hl : ((e.take k).map f).length = k := by rw [List.length_map, List.length_take]; omega
  obtain ⟨P, hP⟩ : ∃ P, (e.take k).map f = P := ⟨_, rfl⟩
  rw [hP] at hl ⊢
  rw [← hl]
  unfold el
  simp
def midQ (f : Part → Part) (e : List Part) (k : Nat) (q : Part) : List Part := (e.take k).map f ++ q :: e.drop (k + 1)
theorem midQ_len {f : Part → Part} {e : List Part} {k : Nat} {q : Part} (h : k < e.length) : (midQ f e k q).length = e.length := by
  unfold midQ
  rw [List.length_append, List.length_map, List.length_take, List.length_cons, List.length_drop]
  omega
theorem midP_set {f : Part → Part} {e : List Part} {k : Nat} (h : k < e.length) (q : Part) : ((I6 f e k).map (enc : Part → D)).set k (enc q) = (midQ f e k q).map enc := by
  rw [midP_split h]
  unfold midQ
  have hl : ((e.take k).map f).length = k := by rw [List.length_map, List.length_take]; omega
  obtain ⟨P, hP⟩ : ∃ P, (e.take k).map f = P := ⟨_, rfl⟩
  rw [hP] at hl ⊢
  rw [← hl, List.map_append, List.map_append, List.set_append]
  simp
theorem midQ_set {f : Part → Part} {e : List Part} {k : Nat} (h : k < e.length) (p q : Part) : ((midQ f e k p).map (enc : Part → D)).set k (enc q) = (midQ f e k q).map enc := by
  unfold midQ
  have hl : ((e.take k).map f).length = k := by rw [List.length_map, List.length_take]; omega
  obtain ⟨P, hP⟩ : ∃ P, (e.take k).map f = P := ⟨_, rfl⟩
  rw [hP] at hl ⊢
  rw [← hl, List.map_append, List.map_append, List.set_append]
  simp
theorem midQ_at {f : Part → Part} {e : List Part} {k : Nat} (h : k < e.length) (q : Part) : el ((midQ f e k q).map (enc : Part → D)) k = enc q := by
  unfold midQ
  have hl : ((e.take k).map f).length = k := by rw [List.length_map, List.length_take]; omega
  obtain ⟨P, hP⟩ : ∃ P, (e.take k).map f = P := ⟨_, rfl⟩
  rw [hP] at hl ⊢
  rw [← hl]
  unfold el
  simp
theorem midQ_next {f : Part → Part} {e : List Part} {k : Nat} (h : k < e.length) : midQ f e k (f (e.getD k e0)) = I6 f e (k + 1) := by
  unfold midQ I6
  rw [Ex e0 h, List.map_append, List.append_assoc]
  rfl
def Pp : Con := con1w (fun (t : Sl Part) => t.l ≠ [] ∧ t.l.length ≤ 1000000000) (fun t => t.l)
theorem O8 : Pp = con1w (fun (t : Sl Part) => t.l ≠ [] ∧ t.l.length ≤ 1000000000) (fun t => t.l) := rfl
noncomputable def Lj : Ctx := ⟨tab, lkC [], 60, lkB [], [], false⟩
theorem ctx_cloneParts_t : Lj.τ = tab := rfl
theorem ctx_cloneParts_c : Lj.Γ = lkC [] := rfl
theorem ctx_cloneParts_d : Lj.dp = 60 := rfl
theorem ctx_cloneParts_b : Lj.Δ = lkB [] := rfl
theorem ctx_cloneParts_u : Lj.cuts = [] := rfl
theorem ctx_cloneParts_w : Lj.wr = false := rfl
set_option maxRecDepth 100000 in
theorem good_cloneParts : M7 Try.prog (57, Pp) := by
  refine ⟨He Try.func57 (by kernel_rfl) rfl, ?_⟩
  have K : Nh Try.prog Lj := Hl Ny Ht (by simp) (by simp)
  obtain ⟨c, hc⟩ : ∃ c, Try.f57.body = some c := ⟨_, rfl⟩
  refine Hm K Try.func57 hc [.tmp 2] rfl 8 rfl (fun cvs hpre => ?_)
  change Pp.pre cvs at hpre
  unfold Pp at hpre
  obtain ⟨⟨t⟩, rfl, hn, ht⟩ := con1w_pre hpre
  simp only at hn ht
  simp only [Try.f57, Option.some.injEq] at hc
  subst hc
  have hm : t.map (enc : Part → D) ≠ [] := by simpa using hn
  (sym =>
   simp [con1w.eq_def,neL_mk,hm,szP,ctx_cloneParts_t,ctx_cloneParts_c,ctx_cloneParts_d,ctx_cloneParts_b,ctx_cloneParts_u,ctx_cloneParts_w,Pp.eq_def,Za,Zb,Zc,Ze,Zf,Zg,Zn,Zo,Zp,Zq,Zr,Zs,Zv,Z1,Z3,Z4,Qa,Qb,Qc,Qg,Qk,Qm,Qn,Qo,Qp,Qr,Q0,Q1,Q4,Q8,Ja,Jb,Jc,Jd,Je,Jf,Jg,Jh,Ji,Jj,Jk,Jl,Jt,Jy,Jz,J5,J6,Xh,Xi,Xj,Xk,Xl,Xm,Xn,Xo,Xp,Xq,Xr,Xs,Xt,Xu,Xv,Xy,X1,X2,X3,X4,X5,X6,X7,X8,We,Wf,Wg,Wh,Wi,Wj,Wl,Wn,Wo,Wp,Ws,Wt,Wu,Wv,Ww,Wx,Wy,Wz,W0,W3,W4,W5,W6,W7,W8,W9,Ya,Yb,Yc,Yd,Ye,Yf,Yg,Yh,Yi,Yj,Yk,Yl,Ym,Yn,Yo,Yv,Yw,Yx,Yy,Yz,Y1,Y2,Y3,Y4,Y5,Y6,Y7,Y8,Y9,Va,Vb,Vc,Vd,Ve,Vf,Vg,Vh,Vi,Vj,Vk,Vl,Vm,Vn,Vo,Vp,Vq,Vr,Vs,Vt,Vu,Vv,Vw,Vx,Vy,Vz,V0,V1,V2,V3,V4,V5,V6,V7,V8,V9,Ua,Ub,Uc,Ud,Ue,Uf,Ug,Uh,Ui,Uj,Uk,Ul,Um,Un,Uo,Up,Uq,Ur,Us,Ut,Uu,Uv,U1,U2,U3,U4,U5,U6,U7,U8,U9,Ka,Kb,Kc,Kd,Ke,Kf,Kg,Kh,Ki,Kj,Kk,Kl,Km,Kn,Ko,Kq,Kr,Ks,Kt,Ku,Kv,Kw,Kx,Ky,Kz,K0,K1,K2,K3,K4,K5,K6,K7,Gg,Gi,Gj,Gk,Gl,Gm,Gn,Gr,Nc,H2]
   tactic =>
    try simp only [G6] at *
    try simp only [nc2] at *
    try simp (maxSteps := 4000000) only [con1w.eq_def,neL_mk,hm,szP,Hi]
    repeat' (first | with_reducible assumption | with_reducible refine And.intro ?_ ?_ | intro _ | omega | (rw [Gy]; omega))
    all_goals simp_all)
def ShortE (e : List Part) : Prop := e ≠ [] ∧ e.length ≤ 1000000 ∧ ∀ p ∈ e, p.t.length ≤ 100000 ∧ p.u.length ≤ 100000
def Cz : Con := C0 (fun (e : Sl Part) (f : Fil) => ShortE e.l ∧ I1 f.m) (fun e f => Sl.mk (e.l.map (Pw f.m)))
noncomputable def Fc : Ctx := ⟨tab, lkC [(57, Pp), (49, M4)], 60, lkB [], [], false⟩
theorem ctx_exprA_t : Fc.τ = tab := rfl
theorem ctx_exprA_c : Fc.Γ = lkC [(57, Pp), (49, M4)] := rfl
theorem ctx_exprA_d : Fc.dp = 60 := rfl
theorem ctx_exprA_b : Fc.Δ = lkB [] := rfl
theorem ctx_exprA_u : Fc.cuts = [] := rfl
theorem ctx_exprA_w : Fc.wr = false := rfl
set_option maxRecDepth 100000 in
theorem good_exprA : M7 Try.prog (38, Cz) := by
  refine ⟨He Try.func38 (by kernel_rfl) rfl, ?_⟩
  have K : Nh Try.prog Fc := Hl Ny Ht (by
    intro p hp
    simp only [List.mem_cons, List.not_mem_nil, or_false] at hp
    rcases hp with rfl | rfl
    · exact good_cloneParts
    · exact good_filler_1) (by simp)
  obtain ⟨c, hc⟩ : ∃ c, Try.f38.body = some c := ⟨_, rfl⟩
  refine Hm K Try.func38 hc [.tmp 4] rfl 35 rfl (fun cvs hpre => ?_)
  change Cz.pre cvs at hpre
  unfold Cz at hpre
  obtain ⟨⟨e⟩, ⟨m⟩, rfl, hE, hm⟩ := Mp hpre
  obtain ⟨he0, hel, heP⟩ : ShortE e := hE
  simp only at hm
  clear hpre
  obtain ⟨ks, vs⟩ := m
  have hall := midP_all (f := Pw ⟨ks, vs⟩) (e := e)
  have hpos : 0 < e.length := List.length_pos_iff.2 he0
  simp only [Try.f38, Option.some.injEq] at hc
  subst hc
  refine Mn 2 (of_decide_eq_true (by kernel_rfl)) ?_
  (sym =>
   simp [O8,con1w.eq_def,C7,szP,ctx_exprA_t,ctx_exprA_c,ctx_exprA_d,ctx_exprA_b,ctx_exprA_u,ctx_exprA_w,Pp.eq_def,Cz.eq_def,M4.eq_def,Za,Zb,Zc,Ze,Zf,Zg,Zh,Zi,Zj,Zk,Zl,Zm,Zn,Zo,Zp,Zq,Zr,Zs,Zu,Zv,Zw,Zx,Zy,Z5,Z8,Z9,Qa,Qb,Qc,Qd,Qe,Qf,Qg,Qj,Qk,Ql,Qm,Qn,Qo,Qp,Qq,Qr,Q0,Q1,Q4,Q5,Q6,Q8,Q9,Ja,Jf,Jh,Ji,Jj,Jk,Jl,Jt,Jx,Jy,Jz,J0,J1,J2,J5,J6,J7,J8,J9,Xa,Xb,Xc,Xd,Xe,Xf,Xg,Xj,Xk,Xl,Xm,Xn,Xo,Xp,Xq,Xr,Xs,Xt,Xu,Xv,Xw,Xx,Xy,Xz,X1,X2,X3,X4,X5,X6,X7,X8,We,Wf,Wg,Wh,Wi,Wj,Wl,Wm,Wn,Wo,Wp,Wq,Wr,Ws,Wt,Wu,Wv,Ww,Wx,Wy,Wz,W0,W3,W4,W5,W6,W7,W8,W9,Ya,Yb,Yc,Yd,Ye,Yf,Yg,Yh,Yi,Yj,Yk,Yl,Ym,Yn,Yo,Yr,Ys,Yt,Yu,Yv,Yw,Yx,Yy,Yz,Y1,Y2,Y3,Y4,Y5,Y6,Y7,Y8,Y9,Va,Vb,Vc,Vd,Ve,Vf,Vg,Vh,Vi,Vj,Vk,Vl,Vm,Vn,Vo,Vp,Vq,Vr,Vs,Vt,Vu,Vv,Vw,Vx,Vy,Vz,V0,V1,V2,V3,V4,V5,V6,V7,V8,V9,Ua,Ub,Uc,Ud,Ue,Uf,Ug,Uh,Ui,Uj,Uk,Ul,Um,Un,Uo,Up,Uq,Ur,Us,Ut,Uu,Uv,Uw,Ux,Uy,Uz,U0,U1,U2,U5,U6,U7,U8,U9,Ka,Kb,Kc,Kd,Ke,Kf,Kg,Kh,Ki,Kj,Kk,Kl,Km,Kn,Ko,Kq,Kr,Ks,Kt,Ku,Kv,Kw,Kx,Ky,Kz,K0,K1,K2,K3,K4,K5,K6,K7,Gg,Gi,Gj,Gk,Gl,Gm,Gn,Gr,Gs,Hg,Hc,Hb,Nc,tab49,H2]
   tactic =>
    try simp only [G6] at *
    try simp only [nc2] at *
    try simp (maxSteps := 4000000) only [O8,con1w.eq_def,C7,szP,Hi]
    repeat' (first | with_reducible assumption | with_reducible refine And.intro ?_ ?_ | intro _ | omega | (rw [Gy]; omega))
    all_goals try assumption
    refine Ho [6, 7, 13, 14, 15, 16, 17, 18, 19, 20, 21, 22, 23, 24, 25, 26, 27, 28, 29, 30, 31, 32, 33] (fun k : Nat => [(5, .sl 9 ((I6 (Pw ⟨ks, vs⟩) e k).map (enc : Part → D)).length), (10, .sl 9 ((I6 (Pw ⟨ks, vs⟩) e k).map (enc : Part → D)).length), (12, .d (.int .i64 k))]) (fun k : Nat => [(9, .row 8 ((I6 (Pw ⟨ks, vs⟩) e k).map enc) 0)]) (fun k : Nat => k ≤ e.length) (fun k : Nat => e.length - k) 0 ?_ ?_ ?_
    · omega
    · ((try simp only [G3, Ha, G5, Hf, upd, Hh, Hn, Na, Nat.reduceDiv, Nat.reduceMod, Nat.reduceMul, Nat.reduceAdd, Nat.reduceEqDiff, List.set_cons_zero, List.set_cons_succ, if_true, if_false, reduceIte]); (first | refine Wk.of_fl ?_ | skip); simp only [Wk, wkK, Nd, wkT, wk1, AV.kept, keptAll, wkO, lk, G4, and_true, true_and, and_self, Nat.reduceEqDiff, Nat.reduceLeDiff, if_true, if_false, reduceIte, reduceCtorEq, Option.isSome, false_implies]; try simp [Wk, wkK, wkT, wk1, AV.kept, keptAll, wkO, lk, G4, midP_zero])
    rintro k hk
    have hML := midP_len (f := Pw ⟨ks, vs⟩) hk
    rcases Hq k e.length with ⟨hlt, hlb⟩ | ⟨hlt, hlb⟩
    · have q1 := midP_at (f := Pw ⟨ks, vs⟩) hlt
      have q2 := midP_set (f := Pw ⟨ks, vs⟩) hlt
      have q3 := midQ_set (f := Pw ⟨ks, vs⟩) hlt
      have q4 := midQ_at (f := Pw ⟨ks, vs⟩) hlt
      have q5 := midQ_next (f := Pw ⟨ks, vs⟩) hlt
      have q6 := fun q => midQ_len (f := Pw ⟨ks, vs⟩) (q := q) hlt
      have hMS := midP_len (f := Pw ⟨ks, vs⟩) (show k + 1 ≤ e.length by omega)
      obtain ⟨s1, s2⟩ := heP (e.getD k e0) (by simp [hlt])
      obtain ⟨x, hx⟩ : ∃ x, e.getD k e0 = x := ⟨_, rfl⟩
      rw [hx] at q1 q5 s1 s2
      obtain ⟨M, hM⟩ : ∃ M, I6 (Pw ⟨ks, vs⟩) e k = M := ⟨_, rfl⟩
      rw [hM] at q1 q2 hML
      rw [hM]
      have hMl : (M.map (enc : Part → D)).length = e.length := by rw [List.length_map, hML]
      have q10 := q6 ⟨x.kind, x.label, x.name, x.bind, x.many, x.num, N8 ⟨ks, vs⟩ x.t, x.u⟩
      have q8 : el ((midQ (Pw ⟨ks, vs⟩) e k ⟨x.kind, x.label, x.name, x.bind, x.many, x.num, N8 ⟨ks, vs⟩ x.t, x.u⟩).map (enc : Part → D)) k = .agg [.int .i64 x.kind, .str x.label, .str x.name, .str x.bind, .int .i64 x.many, .int .i64 x.num, enc (Sl.mk (N8 ⟨ks, vs⟩ x.t)), .list 3 (x.u.map enc)] := q4 _
      obtain ⟨M1, hM1⟩ : ∃ M, midQ (Pw ⟨ks, vs⟩) e k ⟨x.kind, x.label, x.name, x.bind, x.many, x.num, N8 ⟨ks, vs⟩ x.t, x.u⟩ = M := ⟨_, rfl⟩
      obtain ⟨M2, hM2⟩ : ∃ M, I6 (Pw ⟨ks, vs⟩) e (k + 1) = M := ⟨_, rfl⟩
      have q7 : (M.map (enc : Part → D)).set k (.agg [.int .i64 x.kind, .str x.label, .str x.name, .str x.bind, .int .i64 x.many, .int .i64 x.num, enc (Sl.mk (N8 ⟨ks, vs⟩ x.t)), .list 3 (x.u.map enc)]) = M1.map enc := by
        rw [← hM1]
        exact q2 ⟨x.kind, x.label, x.name, x.bind, x.many, x.num, N8 ⟨ks, vs⟩ x.t, x.u⟩
      have q9 : (M1.map (enc : Part → D)).set k (.agg [.int .i64 x.kind, .str x.label, .str x.name, .str x.bind, .int .i64 x.many, .int .i64 x.num, enc (Sl.mk (N8 ⟨ks, vs⟩ x.t)), enc (Sl.mk (N8 ⟨ks, vs⟩ x.u))]) = M2.map enc := by
        rw [← hM1, ← hM2, ← q5]
        exact q3 _ (Pw ⟨ks, vs⟩ x)
      rw [hM1] at q8 q10
      rw [hM2] at hMS
      have hM1l : (M1.map (enc : Part → D)).length = e.length := by rw [List.length_map, q10]
      clear q2 q3 q4 q5 q6
      (sym =>
       simp [hlb,hMl,hM1l,q1,q7,q8,q9,D.setCell.eq_1,O6,Oz,Fw,C7,Gz,szP,Gt,Gv,Gx,Gu,szN,Gw,ctx_exprA_t,ctx_exprA_c,ctx_exprA_d,ctx_exprA_b,ctx_exprA_u,ctx_exprA_w,Pp.eq_def,Cz.eq_def,M4.eq_def,Za,Zb,Zc,Ze,Zf,Zg,Zh,Zi,Zj,Zk,Zl,Zm,Zn,Zo,Zp,Zq,Zr,Zs,Zu,Zv,Zw,Zx,Zy,Z5,Z8,Z9,Qa,Qb,Qc,Qd,Qe,Qf,Qg,Qj,Qk,Ql,Qm,Qn,Qo,Qp,Qq,Qr,Q0,Q1,Q4,Q5,Q6,Q8,Q9,Ja,Jf,Jh,Ji,Jj,Jk,Jl,Jt,Jx,Jy,Jz,J0,J1,J2,J5,J6,J7,J8,J9,Xa,Xb,Xc,Xd,Xe,Xf,Xg,Xj,Xk,Xl,Xm,Xn,Xo,Xp,Xq,Xr,Xs,Xt,Xu,Xv,Xw,Xx,Xy,Xz,X1,X2,X3,X4,X5,X6,X7,X8,We,Wf,Wg,Wh,Wi,Wj,Wl,Wm,Wn,Wo,Wp,Wq,Wr,Ws,Wt,Wu,Wv,Ww,Wx,Wy,Wz,W0,W3,W4,W5,W6,W7,W8,W9,Ya,Yb,Yc,Yd,Ye,Yf,Yg,Yh,Yi,Yj,Yk,Yl,Ym,Yn,Yo,Yr,Ys,Yt,Yu,Yv,Yw,Yx,Yy,Yz,Y1,Y2,Y3,Y4,Y5,Y6,Y7,Y8,Y9,Va,Vb,Vc,Vd,Ve,Vf,Vg,Vh,Vi,Vj,Vk,Vl,Vm,Vn,Vo,Vp,Vq,Vr,Vs,Vt,Vu,Vv,Vw,Vx,Vy,Vz,V0,V1,V2,V3,V4,V5,V6,V7,V8,V9,Ua,Ub,Uc,Ud,Ue,Uf,Ug,Uh,Ui,Uj,Uk,Ul,Um,Un,Uo,Up,Uq,Ur,Us,Ut,Uu,Uv,Uw,Ux,Uy,Uz,U0,U1,U2,U5,U6,U7,U8,U9,Ka,Kb,Kc,Kd,Ke,Kf,Kg,Kh,Ki,Kj,Kk,Kl,Km,Kn,Ko,Kq,Kr,Ks,Kt,Ku,Kv,Kw,Kx,Ky,Kz,K0,K1,K2,K3,K4,K5,K6,K7,Gg,Gi,Gj,Gk,Gl,Gm,Gn,Gr,Gs,Hg,Hc,Hb,Nc,tab49,H2]
       tactic =>
        try simp only [G6] at *
        try simp only [nc2] at *
        try simp (maxSteps := 4000000) only [hlb,hMl,hM1l,q1,q7,q8,q9,D.setCell.eq_1,O6,Oz,Fw,C7,Gz,szP,Gt,Gv,Gx,Gu,szN,Gw,Hi]
        repeat' (first | with_reducible assumption | with_reducible refine And.intro ?_ ?_ | intro _ | omega | (rw [Gy]; omega))
        all_goals first
          | (with_reducible refine Hu ?_; kernel_rfl)
          | omega
          | assumption
          | exact q9
          | exact ⟨k + 1, by rw [hM2]; ((try simp only [G3, Ha, G5, Hf, upd, Hh, Hn, Na, Nat.reduceDiv, Nat.reduceMod, Nat.reduceMul, Nat.reduceAdd, Nat.reduceEqDiff, List.set_cons_zero, List.set_cons_succ, if_true, if_false, reduceIte]); (first | refine Wk.of_fl ?_ | skip); simp only [Wk, wkK, Nd, wkT, wk1, AV.kept, keptAll, wkO, lk, G4, and_true, true_and, and_self, Nat.reduceEqDiff, Nat.reduceLeDiff, if_true, if_false, reduceIte, reduceCtorEq, Option.isSome, false_implies]; try simp [Wk, wkK, wkT, wk1, AV.kept, keptAll, wkO, lk, G4, hML, hMS, q9]), by omega, by omega⟩
          | skip)
    · have hke : k = e.length := by omega
      rw [hke, hall]
      rw [hke] at hlb
      have hL : (e.map (Pw ⟨ks, vs⟩)).length = e.length := List.length_map ..
      have hd : (dec (enc (Fil.mk ⟨ks, vs⟩)) : Fil) = ⟨⟨ks, vs⟩⟩ := Enc.dec_enc _
      (sym =>
       simp [hlb,hL,C7,szP,ctx_exprA_t,ctx_exprA_c,ctx_exprA_d,ctx_exprA_b,ctx_exprA_u,ctx_exprA_w,Pp.eq_def,Cz.eq_def,M4.eq_def,Za,Zb,Zc,Ze,Zf,Zg,Zh,Zi,Zj,Zk,Zl,Zm,Zn,Zo,Zp,Zq,Zr,Zs,Zu,Zv,Zw,Zx,Zy,Z5,Z8,Z9,Qa,Qb,Qc,Qd,Qe,Qf,Qg,Qj,Qk,Ql,Qm,Qn,Qo,Qp,Qq,Qr,Q0,Q1,Q4,Q5,Q6,Q8,Q9,Ja,Jf,Jh,Ji,Jj,Jk,Jl,Jt,Jx,Jy,Jz,J0,J1,J2,J5,J6,J7,J8,J9,Xa,Xb,Xc,Xd,Xe,Xf,Xg,Xj,Xk,Xl,Xm,Xn,Xo,Xp,Xq,Xr,Xs,Xt,Xu,Xv,Xw,Xx,Xy,Xz,X1,X2,X3,X4,X5,X6,X7,X8,We,Wf,Wg,Wh,Wi,Wj,Wl,Wm,Wn,Wo,Wp,Wq,Wr,Ws,Wt,Wu,Wv,Ww,Wx,Wy,Wz,W0,W3,W4,W5,W6,W7,W8,W9,Ya,Yb,Yc,Yd,Ye,Yf,Yg,Yh,Yi,Yj,Yk,Yl,Ym,Yn,Yo,Yr,Ys,Yt,Yu,Yv,Yw,Yx,Yy,Yz,Y1,Y2,Y3,Y4,Y5,Y6,Y7,Y8,Y9,Va,Vb,Vc,Vd,Ve,Vf,Vg,Vh,Vi,Vj,Vk,Vl,Vm,Vn,Vo,Vp,Vq,Vr,Vs,Vt,Vu,Vv,Vw,Vx,Vy,Vz,V0,V1,V2,V3,V4,V5,V6,V7,V8,V9,Ua,Ub,Uc,Ud,Ue,Uf,Ug,Uh,Ui,Uj,Uk,Ul,Um,Un,Uo,Up,Uq,Ur,Us,Ut,Uu,Uv,Uw,Ux,Uy,Uz,U0,U1,U2,U5,U6,U7,U8,U9,Ka,Kb,Kc,Kd,Ke,Kf,Kg,Kh,Ki,Kj,Kk,Kl,Km,Kn,Ko,Kq,Kr,Ks,Kt,Ku,Kv,Kw,Kx,Ky,Kz,K0,K1,K2,K3,K4,K5,K6,K7,Gg,Gi,Gj,Gk,Gl,Gm,Gn,Gr,Gs,Hg,Hc,Hb,Nc,tab49,H2]
       tactic =>
        try simp only [G6] at *
        try simp only [nc2] at *
        try simp (maxSteps := 4000000) only [hlb,hL,C7,szP,Hi]
        repeat' (first | with_reducible assumption | with_reducible refine And.intro ?_ ?_ | intro _ | omega | (rw [Gy]; omega))
        all_goals first
          | trivial
          | exact congrArg (fun f : Fil => List.map (enc : Part → D) (List.map (Pw f.m) e)) hd.symm
          | skip))
def Mw : Con := C0 (fun (e : Sl Part) (l : Sl Ch) => ShortE e.l ∧ l.l.length ≤ 1000000 ∧ I1 (Nk l.l)) (fun e l => Sl.mk (e.l.map (Pw (Nk l.l))))
noncomputable def Fk : Ctx := ⟨tab, lkC [(31, Bu), (38, Cz)], 60, lkB [], [], false⟩
theorem ctx_ExprA_t : Fk.τ = tab := rfl
theorem ctx_ExprA_c : Fk.Γ = lkC [(31, Bu), (38, Cz)] := rfl
theorem ctx_ExprA_d : Fk.dp = 60 := rfl
theorem ctx_ExprA_b : Fk.Δ = lkB [] := rfl
theorem ctx_ExprA_u : Fk.cuts = [] := rfl
theorem ctx_ExprA_w : Fk.wr = false := rfl
set_option maxRecDepth 100000 in
theorem good_ExprA : M7 Try.prog (20, Mw) := by
  refine ⟨He Try.func20 (by kernel_rfl) rfl, ?_⟩
  have K : Nh Try.prog Fk := Hl Ny Ht (by
    intro p hp
    simp only [List.mem_cons, List.not_mem_nil, or_false] at hp
    rcases hp with rfl | rfl
    · exact good_filler
    · exact good_exprA) (by simp)
  obtain ⟨c, hc⟩ : ∃ c, Try.f20.body = some c := ⟨_, rfl⟩
  refine Hm K Try.func20 hc [.tmp 4] rfl 9 rfl (fun cvs hpre => ?_)
  change Mw.pre cvs at hpre
  unfold Mw at hpre
  obtain ⟨⟨e⟩, ⟨l⟩, rfl, he, hl, hm⟩ := Mp hpre
  simp only at he hl hm
  clear hpre
  unfold Nk at hm
  have hmo : Nk l = Ps l l.length := rfl
  obtain ⟨⟨ks, vs⟩, hc2⟩ : ∃ m, Ps l l.length = m := ⟨_, rfl⟩
  rw [hc2] at hm hmo
  simp only [Try.f20, Option.some.injEq] at hc
  subst hc
  (sym =>
   simp [hc2,hmo,C7,isE_Fil,dec_Fil,szC,szP,ctx_ExprA_t,ctx_ExprA_c,ctx_ExprA_d,ctx_ExprA_b,ctx_ExprA_u,ctx_ExprA_w,Mw.eq_def,Cz.eq_def,Bu.eq_def,Za,Zb,Zc,Ze,Zf,Zg,Zn,Zo,Zp,Zq,Zr,Zs,Zv,Z8,Z9,Qa,Qb,Qc,Qd,Qe,Qf,Qg,Qk,Qm,Qn,Qo,Qp,Qr,Q0,Q1,Q4,Q8,Q9,Ja,Jf,Jh,Ji,Jj,Jk,Jl,Jt,Jy,Jz,J5,J6,Xj,Xk,Xl,Xm,Xn,Xo,Xp,Xq,Xr,Xs,Xt,Xu,Xv,Xy,X1,X2,X3,X4,X5,X6,X7,X8,We,Wf,Wg,Wh,Wi,Wj,Wl,Wn,Wo,Wp,Ws,Wt,Wu,Wv,Ww,Wx,Wy,Wz,W0,W3,W4,W5,W6,W7,W8,W9,Ya,Yb,Yc,Yd,Ye,Yf,Yg,Yh,Yi,Yj,Yk,Yl,Ym,Yn,Yo,Yv,Yw,Yx,Yy,Yz,Y1,Y2,Y3,Y4,Y5,Y6,Y7,Y8,Y9,Va,Vb,Vc,Vd,Ve,Vf,Vg,Vh,Vi,Vj,Vk,Vl,Vm,Vn,Vo,Vp,Vq,Vr,Vs,Vt,Vu,Vv,Vw,Vx,Vy,Vz,V0,V1,V2,V3,V4,V5,V6,V7,V8,V9,Ua,Ub,Uc,Ud,Ue,Uf,Ug,Uh,Ui,Uj,Uk,Ul,Um,Un,Uo,Up,Uq,Ur,Us,Ut,Uu,Uv,U1,U2,U5,U6,U7,U8,U9,Ka,Kb,Kc,Kd,Ke,Kf,Kg,Kh,Ki,Kj,Kk,Kl,Km,Kn,Ko,Kq,Kr,Ks,Kt,Ku,Kv,Kw,Kx,Ky,Kz,K0,K1,K2,K3,K4,K5,K6,K7,Gg,Gi,Gj,Gk,Gl,Gm,Gn,Gr,Md,Mc,Nc,H2]
   tactic =>
    try simp only [G6] at *
    try simp only [nc2] at *
    try simp (maxSteps := 4000000) only [hc2,hmo,C7,isE_Fil,dec_Fil,szC,szP,Hi]
    repeat' (first | with_reducible assumption | with_reducible refine And.intro ?_ ?_ | intro _ | omega | (rw [Gy]; omega))
    all_goals first
      | omega
      | assumption
      | rfl
      | skip)
def Ob (l : List Ch) (p : Part) : Part := ⟨p.kind, p.label, p.name, p.bind, p.many, p.num, E4 l p.t, E4 l p.u⟩
def ShortF (e : List Part) : Prop := e.length ≤ 1000000 ∧ ∀ p ∈ e, p.t.length ≤ 1000 ∧ p.u.length ≤ 1000
def Bj : Con := C0 (fun (e : Sl Part) (l : Sl Ch) => ShortF e.l ∧ FewC l.l) (fun e l => Sl.mk (e.l.map (Ob l.l)))
noncomputable def D0 : Ctx := ⟨tab, lkC [(18, Mo)], 60, lkB [], [], false⟩
theorem ctx_Expr11_t : D0.τ = tab := rfl
theorem ctx_Expr11_c : D0.Γ = lkC [(18, Mo)] := rfl
theorem ctx_Expr11_d : D0.dp = 60 := rfl
theorem ctx_Expr11_b : D0.Δ = lkB [] := rfl
theorem ctx_Expr11_u : D0.cuts = [] := rfl
theorem ctx_Expr11_w : D0.wr = false := rfl
set_option maxRecDepth 100000 in
theorem good_Expr11 : M7 Try.prog (21, Bj) := by
  refine ⟨He Try.func21 (by kernel_rfl) rfl, ?_⟩
  have K : Nh Try.prog D0 := Hl Ny Ht (by
    intro p hp
    simp only [List.mem_cons, List.not_mem_nil, or_false] at hp
    rcases hp with rfl
    · exact good_Type11) (by simp)
  obtain ⟨c, hc⟩ : ∃ c, Try.f21.body = some c := ⟨_, rfl⟩
  refine Hm K Try.func21 hc [.tmp 4] rfl 39 rfl (fun cvs hpre => ?_)
  change Bj.pre cvs at hpre
  unfold Bj at hpre
  obtain ⟨⟨e⟩, ⟨l⟩, rfl, hE, hF⟩ := Mp hpre
  obtain ⟨hel, heP⟩ : ShortF e := hE
  simp only at hF
  clear hpre
  have hall := midP_all (f := Ob l) (e := e)
  have hem : (e.map (enc : Part → D)).length = e.length := List.length_map ..
  simp only [Try.f21, Option.some.injEq] at hc
  subst hc
  refine Mn 2 (of_decide_eq_true (by kernel_rfl)) ?_
  (sym =>
   simp [szP,ctx_Expr11_t,ctx_Expr11_c,ctx_Expr11_d,ctx_Expr11_b,ctx_Expr11_u,ctx_Expr11_w,Bj.eq_def,Mo.eq_def,Za,Zb,Zc,Ze,Zf,Zg,Zn,Zo,Zp,Zq,Zr,Zs,Zv,Zw,Zx,Zy,Z1,Z3,Z4,Z5,Z8,Z9,Qa,Qb,Qc,Qd,Qe,Qf,Qg,Qj,Qk,Ql,Qm,Qn,Qo,Qp,Qr,Q0,Q1,Q4,Q8,Q9,Ja,Jb,Jc,Jd,Je,Jf,Jg,Jh,Ji,Jj,Jk,Jl,Jt,Jx,Jy,Jz,J0,J1,J2,J5,J6,J7,J8,J9,Xa,Xb,Xc,Xd,Xe,Xf,Xg,Xh,Xi,Xj,Xk,Xl,Xm,Xn,Xo,Xp,Xq,Xr,Xs,Xt,Xu,Xv,Xw,Xx,Xy,Xz,X1,X2,X3,X4,X5,X6,X7,X8,We,Wf,Wg,Wh,Wi,Wj,Wl,Wm,Wn,Wo,Wp,Ws,Wt,Wu,Wv,Ww,Wx,Wy,Wz,W0,W3,W4,W5,W6,W7,W8,W9,Ya,Yb,Yc,Yd,Ye,Yf,Yg,Yh,Yi,Yj,Yk,Yl,Ym,Yn,Yo,Yr,Ys,Yt,Yu,Yv,Yw,Yx,Yy,Yz,Y1,Y2,Y3,Y4,Y5,Y6,Y7,Y8,Y9,Va,Vb,Vc,Vd,Ve,Vf,Vg,Vh,Vi,Vj,Vk,Vl,Vm,Vn,Vo,Vp,Vq,Vr,Vs,Vt,Vu,Vv,Vw,Vx,Vy,Vz,V0,V1,V2,V3,V4,V5,V6,V7,V8,V9,Ua,Ub,Uc,Ud,Ue,Uf,Ug,Uh,Ui,Uj,Uk,Ul,Um,Un,Uo,Up,Uq,Ur,Us,Ut,Uu,Uv,Uw,Ux,Uy,Uz,U0,U1,U2,U3,U4,U5,U6,U7,U8,U9,Ka,Kb,Kc,Kd,Ke,Kf,Kg,Kh,Ki,Kj,Kk,Kl,Km,Kn,Ko,Kq,Kr,Ks,Kt,Ku,Kv,Kw,Kx,Ky,Kz,K0,K1,K2,K3,K4,K5,K6,K7,Gg,Gi,Gj,Gk,Gl,Gm,Gn,Gr,Hg,Md,Hc,Mc,Hb,Nc,H2]
   tactic =>
    try simp only [G6] at *
    try simp only [nc2] at *
    try simp (maxSteps := 4000000) only [szP,Hi]
    repeat' (first | with_reducible assumption | with_reducible refine And.intro ?_ ?_ | intro _ | omega | (rw [Gy]; omega))
    all_goals try omega
    refine Ho [10, 11, 12, 13, 14, 15, 16, 17, 18, 19, 20, 21, 22, 23, 24, 25, 26, 27, 28, 29, 30, 31, 32, 33, 34, 35, 36, 37] (fun k : Nat => [(5, .sl 7 ((I6 (Ob l) e k).map (enc : Part → D)).length), (6, .d (.int .i64 k))]) (fun k : Nat => [(7, .row 8 ((I6 (Ob l) e k).map enc) 0)]) (fun k : Nat => k ≤ e.length) (fun k : Nat => e.length - k) 0 ?_ ?_ ?_
    · omega
    · ((try simp only [G3, Ha, G5, Hf, upd, Hh, Hn, Na, Nat.reduceDiv, Nat.reduceMod, Nat.reduceMul, Nat.reduceAdd, Nat.reduceEqDiff, List.set_cons_zero, List.set_cons_succ, if_true, if_false, reduceIte]); (first | refine Wk.of_fl ?_ | skip); simp only [Wk, wkK, Nd, wkT, wk1, AV.kept, keptAll, wkO, lk, G4, and_true, true_and, and_self, Nat.reduceEqDiff, Nat.reduceLeDiff, if_true, if_false, reduceIte, reduceCtorEq, Option.isSome, false_implies]; try simp [Wk, wkK, wkT, wk1, AV.kept, keptAll, wkO, lk, G4, midP_zero])
    rintro k hk
    have hML := midP_len (f := Ob l) hk
    rcases Hq k e.length with ⟨hlt, hlb⟩ | ⟨hlt, hlb⟩
    · have q0 := H7 e0 hlt
      have q1 := midP_at (f := Ob l) hlt
      have q2 := midP_set (f := Ob l) hlt
      have q3 := midQ_set (f := Ob l) hlt
      have q4 := midQ_at (f := Ob l) hlt
      have q5 := midQ_next (f := Ob l) hlt
      have q6 := fun q => midQ_len (f := Ob l) (q := q) hlt
      have hMS := midP_len (f := Ob l) (show k + 1 ≤ e.length by omega)
      obtain ⟨s1, s2⟩ := heP (e.getD k e0) (by simp [hlt])
      obtain ⟨x, hx⟩ : ∃ x, e.getD k e0 = x := ⟨_, rfl⟩
      rw [hx] at q0 q1 q5 s1 s2
      obtain ⟨M, hM⟩ : ∃ M, I6 (Ob l) e k = M := ⟨_, rfl⟩
      rw [hM] at q1 q2 hML
      rw [hM]
      have hMl : (M.map (enc : Part → D)).length = e.length := by rw [List.length_map, hML]
      have q10 := q6 ⟨x.kind, x.label, x.name, x.bind, x.many, x.num, E4 l x.t, x.u⟩
      have q8 : el ((midQ (Ob l) e k ⟨x.kind, x.label, x.name, x.bind, x.many, x.num, E4 l x.t, x.u⟩).map (enc : Part → D)) k = .agg [.int .i64 x.kind, .str x.label, .str x.name, .str x.bind, .int .i64 x.many, .int .i64 x.num, enc (Sl.mk (E4 l x.t)), .list 3 (x.u.map enc)] := q4 _
      obtain ⟨M1, hM1⟩ : ∃ M, midQ (Ob l) e k ⟨x.kind, x.label, x.name, x.bind, x.many, x.num, E4 l x.t, x.u⟩ = M := ⟨_, rfl⟩
      obtain ⟨M2, hM2⟩ : ∃ M, I6 (Ob l) e (k + 1) = M := ⟨_, rfl⟩
      have q7 : (M.map (enc : Part → D)).set k (.agg [.int .i64 x.kind, .str x.label, .str x.name, .str x.bind, .int .i64 x.many, .int .i64 x.num, enc (Sl.mk (E4 l x.t)), .list 3 (x.u.map enc)]) = M1.map enc := by
        rw [← hM1]
        exact q2 ⟨x.kind, x.label, x.name, x.bind, x.many, x.num, E4 l x.t, x.u⟩
      have q9 : (M1.map (enc : Part → D)).set k (.agg [.int .i64 x.kind, .str x.label, .str x.name, .str x.bind, .int .i64 x.many, .int .i64 x.num, enc (Sl.mk (E4 l x.t)), enc (Sl.mk (E4 l x.u))]) = M2.map enc := by
        rw [← hM1, ← hM2, ← q5]
        exact q3 _ (Ob l x)
      rw [hM1] at q8 q10
      rw [hM2] at hMS
      have hM1l : (M1.map (enc : Part → D)).length = e.length := by rw [List.length_map, q10]
      clear q2 q3 q4 q5 q6
      (sym =>
       simp [hlb,hMl,hM1l,q0,q1,q7,q8,q9,D.setCell.eq_1,Gz,szP,szC,Gt,Gv,Gx,Gu,szN,Gw,ctx_Expr11_t,ctx_Expr11_c,ctx_Expr11_d,ctx_Expr11_b,ctx_Expr11_u,ctx_Expr11_w,Bj.eq_def,Mo.eq_def,Za,Zb,Zc,Ze,Zf,Zg,Zn,Zo,Zp,Zq,Zr,Zs,Zv,Zw,Zx,Zy,Z1,Z3,Z4,Z5,Z8,Z9,Qa,Qb,Qc,Qd,Qe,Qf,Qg,Qj,Qk,Ql,Qm,Qn,Qo,Qp,Qr,Q0,Q1,Q4,Q8,Q9,Ja,Jb,Jc,Jd,Je,Jf,Jg,Jh,Ji,Jj,Jk,Jl,Jt,Jx,Jy,Jz,J0,J1,J2,J5,J6,J7,J8,J9,Xa,Xb,Xc,Xd,Xe,Xf,Xg,Xh,Xi,Xj,Xk,Xl,Xm,Xn,Xo,Xp,Xq,Xr,Xs,Xt,Xu,Xv,Xw,Xx,Xy,Xz,X1,X2,X3,X4,X5,X6,X7,X8,We,Wf,Wg,Wh,Wi,Wj,Wl,Wm,Wn,Wo,Wp,Ws,Wt,Wu,Wv,Ww,Wx,Wy,Wz,W0,W3,W4,W5,W6,W7,W8,W9,Ya,Yb,Yc,Yd,Ye,Yf,Yg,Yh,Yi,Yj,Yk,Yl,Ym,Yn,Yo,Yr,Ys,Yt,Yu,Yv,Yw,Yx,Yy,Yz,Y1,Y2,Y3,Y4,Y5,Y6,Y7,Y8,Y9,Va,Vb,Vc,Vd,Ve,Vf,Vg,Vh,Vi,Vj,Vk,Vl,Vm,Vn,Vo,Vp,Vq,Vr,Vs,Vt,Vu,Vv,Vw,Vx,Vy,Vz,V0,V1,V2,V3,V4,V5,V6,V7,V8,V9,Ua,Ub,Uc,Ud,Ue,Uf,Ug,Uh,Ui,Uj,Uk,Ul,Um,Un,Uo,Up,Uq,Ur,Us,Ut,Uu,Uv,Uw,Ux,Uy,Uz,U0,U1,U2,U3,U4,U5,U6,U7,U8,U9,Ka,Kb,Kc,Kd,Ke,Kf,Kg,Kh,Ki,Kj,Kk,Kl,Km,Kn,Ko,Kq,Kr,Ks,Kt,Ku,Kv,Kw,Kx,Ky,Kz,K0,K1,K2,K3,K4,K5,K6,K7,Gg,Gi,Gj,Gk,Gl,Gm,Gn,Gr,Hg,Md,Hc,Mc,Hb,Nc,H2]
       tactic =>
        try simp only [G6] at *
        try simp only [nc2] at *
        try simp (maxSteps := 4000000) only [hlb,hMl,hM1l,q0,q1,q7,q8,q9,D.setCell.eq_1,Gz,szP,szC,Gt,Gv,Gx,Gu,szN,Gw,Hi]
        repeat' (first | with_reducible assumption | with_reducible refine And.intro ?_ ?_ | intro _ | omega | (rw [Gy]; omega))
        all_goals first
          | (with_reducible refine Hu ?_; kernel_rfl)
          | omega
          | assumption
          | exact q9
          | exact ⟨k + 1, by rw [hM2]; ((try simp only [G3, Ha, G5, Hf, upd, Hh, Hn, Na, Nat.reduceDiv, Nat.reduceMod, Nat.reduceMul, Nat.reduceAdd, Nat.reduceEqDiff, List.set_cons_zero, List.set_cons_succ, if_true, if_false, reduceIte]); (first | refine Wk.of_fl ?_ | skip); simp only [Wk, wkK, Nd, wkT, wk1, AV.kept, keptAll, wkO, lk, G4, and_true, true_and, and_self, Nat.reduceEqDiff, Nat.reduceLeDiff, if_true, if_false, reduceIte, reduceCtorEq, Option.isSome, false_implies]; try simp [Wk, wkK, wkT, wk1, AV.kept, keptAll, wkO, lk, G4, hML, hMS, q9]), by omega, by omega⟩
          | skip)
    · have hke : k = e.length := by omega
      rw [hke, hall]
      rw [hke] at hlb
      have hL : ((e.map (Ob l)).map (enc : Part → D)).length = e.length := by rw [List.length_map, List.length_map]
      (sym =>
       simp [hlb,hL,szP,szC,ctx_Expr11_t,ctx_Expr11_c,ctx_Expr11_d,ctx_Expr11_b,ctx_Expr11_u,ctx_Expr11_w,Bj.eq_def,Mo.eq_def,Za,Zb,Zc,Ze,Zf,Zg,Zn,Zo,Zp,Zq,Zr,Zs,Zv,Zw,Zx,Zy,Z1,Z3,Z4,Z5,Z8,Z9,Qa,Qb,Qc,Qd,Qe,Qf,Qg,Qj,Qk,Ql,Qm,Qn,Qo,Qp,Qr,Q0,Q1,Q4,Q8,Q9,Ja,Jb,Jc,Jd,Je,Jf,Jg,Jh,Ji,Jj,Jk,Jl,Jt,Jx,Jy,Jz,J0,J1,J2,J5,J6,J7,J8,J9,Xa,Xb,Xc,Xd,Xe,Xf,Xg,Xh,Xi,Xj,Xk,Xl,Xm,Xn,Xo,Xp,Xq,Xr,Xs,Xt,Xu,Xv,Xw,Xx,Xy,Xz,X1,X2,X3,X4,X5,X6,X7,X8,We,Wf,Wg,Wh,Wi,Wj,Wl,Wm,Wn,Wo,Wp,Ws,Wt,Wu,Wv,Ww,Wx,Wy,Wz,W0,W3,W4,W5,W6,W7,W8,W9,Ya,Yb,Yc,Yd,Ye,Yf,Yg,Yh,Yi,Yj,Yk,Yl,Ym,Yn,Yo,Yr,Ys,Yt,Yu,Yv,Yw,Yx,Yy,Yz,Y1,Y2,Y3,Y4,Y5,Y6,Y7,Y8,Y9,Va,Vb,Vc,Vd,Ve,Vf,Vg,Vh,Vi,Vj,Vk,Vl,Vm,Vn,Vo,Vp,Vq,Vr,Vs,Vt,Vu,Vv,Vw,Vx,Vy,Vz,V0,V1,V2,V3,V4,V5,V6,V7,V8,V9,Ua,Ub,Uc,Ud,Ue,Uf,Ug,Uh,Ui,Uj,Uk,Ul,Um,Un,Uo,Up,Uq,Ur,Us,Ut,Uu,Uv,Uw,Ux,Uy,Uz,U0,U1,U2,U3,U4,U5,U6,U7,U8,U9,Ka,Kb,Kc,Kd,Ke,Kf,Kg,Kh,Ki,Kj,Kk,Kl,Km,Kn,Ko,Kq,Kr,Ks,Kt,Ku,Kv,Kw,Kx,Ky,Kz,K0,K1,K2,K3,K4,K5,K6,K7,Gg,Gi,Gj,Gk,Gl,Gm,Gn,Gr,Hg,Md,Hc,Mc,Hb,Nc,H2]
       tactic =>
        try simp only [G6] at *
        try simp only [nc2] at *
        try simp (maxSteps := 4000000) only [hlb,hL,szP,szC,Hi]
        repeat' (first | with_reducible assumption | with_reducible refine And.intro ?_ ?_ | intro _ | omega | (rw [Gy]; omega))
        all_goals first
          | trivial
          | rfl
          | skip))
end Go.Am.Ty
set_option linter.unusedSimpArgs false
set_option linter.unusedVariables false
namespace Go.Am.Ty
def Po : List Ch → Int → Option (List Node)
  | [], _ => none
  | c :: l, s => if c.site = s then some c.t else Po l s
theorem lookC_snoc (s : Int) (c : Ch) : ∀ l : List Ch, Po (l ++ [c]) s = match Po l s with
    | some u => some u
    | none => if c.site = s then some c.t else none
  | [] => by simp [Po]
  | b :: l => by
    simp only [List.cons_append, Po, lookC_snoc s c l]
    split <;> rfl
theorem lookC_none {s : Int} : ∀ {l : List Ch}, (∀ c ∈ l, c.site ≠ s) → Po l s = none
  | [], _ => rfl
  | c :: l, h => by
    rw [Po, if_neg (h c (by simp)), lookC_none fun b hb => h b (List.mem_cons_of_mem _ hb)]
theorem L6 {s : Int} {u : List Node} : ∀ {l : List Ch}, Po l s = some u → ∃ c ∈ l, c.site = s ∧ c.t = u
  | [], h => by cases h
  | c :: l, h => by
    unfold Po at h
    split at h
    · exact ⟨c, by simp, ‹_›, Option.some.inj h⟩
    · obtain ⟨b, hb, h1⟩ := L6 h
      exact ⟨b, List.mem_cons_of_mem _ hb, h1⟩
def Rising (l : List Ch) : Prop := ∀ i j, i < j → j < l.length → si l i < si l j
theorem Ez {l : List Ch} (h : right11 l = true) : Rising l := by
  unfold right11 at h
  rw [List.all_eq_true] at h
  have step : ∀ j, j + 1 < l.length → si l j < si l (j + 1) := by
    intro j hj
    have := h (j + 1) (List.mem_range.2 hj)
    unfold okC at this
    simp only [Bool.and_eq_true, Bool.not_eq_true', Bool.or_eq_false_iff, Bool.and_eq_false_iff, Me] at this
    have h2 := this.1.2
    simp only [Nat.add_sub_cancel] at h2
    rcases h2 with h2 | h2
    · omega
    · rw [← Bool.not_eq_true, Lp] at h2
      omega
  intro i j hij
  induction j with
  | zero => omega
  | succ j ih =>
    intro hj
    have := step j hj
    rcases Nat.lt_or_ge i j with h1 | h1
    · have := ih h1 (by omega)
      omega
    · have : i = j := by omega
      subst this
      exact step i hj
theorem Ic {l : List Ch} (h : right11 l = true) : ∀ c ∈ l, 1 ≤ c.site ∧ Bc c.t = true ∧ Dg c.t = true ∧ Bz c.t = true := by
  unfold right11 at h
  rw [List.all_eq_true] at h
  intro c hc
  obtain ⟨k, hk, rfl⟩ := List.mem_iff_getElem.1 hc
  have := h k (List.mem_range.2 hk)
  unfold okC fineT si ty at this
  have hg : l.getD k c0 = l[k] := by simp [hk]
  rw [hg] at this
  simp only [Bool.and_eq_true, Bool.not_eq_true', Bool.or_eq_false_iff, Me] at this
  exact ⟨this.1.1, this.2.1, this.2.2.1, this.2.2.2⟩
theorem right3_pos {t : List Node} (h : Bc t = true) : 0 < t.length := by
  unfold Bc Pm at h
  cases t with
  | nil => simp at h
  | cons n t => simp
theorem chosen_look {l : List Ch} (hr : Rising l) : ∀ k, k ≤ l.length → (Ps l k).ks.length = (Ps l k).vs.length ∧ ∀ s, A0 s (Ps l k).ks = (Po (l.take k) s).isSome ∧ gGet s [] (Ps l k).ks (Ps l k).vs = (Po (l.take k) s).getD []
  | 0, _ => ⟨rfl, fun s => ⟨rfl, rfl⟩⟩
  | k + 1, hk => by
    obtain ⟨ih1, ih2⟩ := chosen_look hr k (by omega)
    have hnot : Po (l.take k) (si l k) = none := lookC_none fun c hc => by
      obtain ⟨j, hj, rfl⟩ := List.mem_iff_getElem.1 hc
      rw [List.length_take] at hj
      have := hr j k (by omega) (by omega)
      unfold si at this
      rw [List.getElem_take]
      have hg : l.getD j c0 = l[j]'(by omega) := by simp [show j < l.length by omega]
      rw [hg] at this
      exact Int.ne_of_lt this
    refine ⟨?_, fun s => ?_⟩
    · show (O2 (si l k) (Ps l k).ks).length = (gSetV (si l k) (ty l k) (Ps l k).ks (Ps l k).vs).length
      rw [gSetV_len ih1]
    · show A0 s (O2 (si l k) (Ps l k).ks) = _ ∧ gGet s [] (O2 (si l k) (Ps l k).ks) (gSetV (si l k) (ty l k) (Ps l k).ks (Ps l k).vs) = _
      rw [gHas_set, gGet_set ih1, (ih2 s).1, (ih2 s).2, Ex c0 (show k < l.length by omega), lookC_snoc]
      show ((Po (l.take k) s).isSome || (s == si l k)) = _ ∧ cond (s == si l k) (ty l k) ((Po (l.take k) s).getD []) = _
      cases hs : (s == si l k) with
      | true =>
        rw [eq_of_beq hs, hnot]
        have : (l.getD k c0).site = si l k := rfl
        rw [if_pos this]
        exact ⟨rfl, rfl⟩
      | false =>
        rw [beq_eq_false_iff_ne] at hs
        have : ¬ (l.getD k c0).site = s := fun e => hs e.symm
        rw [if_neg this]
        cases Po (l.take k) s <;> exact ⟨rfl, rfl⟩
theorem put11_look {l : List Ch} (hr : Rising l) (n : Node) : ∀ k, k ≤ l.length → Ee l n k = if n.kind = 0 then (Po (l.take k) n.n).getD [] else []
  | 0, _ => by
    show ([] : List Node) = _
    split <;> rfl
  | k + 1, hk => by
    have hnot : Po (l.take k) (si l k) = none := lookC_none fun c hc => by
      obtain ⟨j, hj, rfl⟩ := List.mem_iff_getElem.1 hc
      rw [List.length_take] at hj
      have := hr j k (by omega) (by omega)
      unfold si at this
      rw [List.getElem_take]
      have hg : l.getD j c0 = l[j]'(by omega) := by simp [show j < l.length by omega]
      rw [hg] at this
      exact Int.ne_of_lt this
    rw [Ee, put11_look hr n k (by omega), Ex c0 (show k < l.length by omega), lookC_snoc]
    unfold hit11
    by_cases h0 : n.kind = 0
    · have hb : (n.kind == 0) = true := beq_iff_eq.2 h0
      rw [if_pos h0, if_pos h0, hb, Bool.true_and]
      cases hs : (n.n == si l k) with
      | true =>
        rw [eq_of_beq hs, hnot]
        have : (l.getD k c0).site = si l k := rfl
        rw [if_pos this]
        rfl
      | false =>
        rw [beq_eq_false_iff_ne] at hs
        have : ¬ (l.getD k c0).site = n.n := fun e => hs e.symm
        rw [if_neg this, cond_false, List.append_nil]
        cases Po (l.take k) n.n <;> rfl
    · have hb : (n.kind == 0) = false := beq_eq_false_iff_ne.2 h0
      rw [if_neg h0, if_neg h0, hb]
      rfl
def To (l : List Ch) (n : Node) : List Node := if n.kind = 0 then (match Po l n.n with
  | some u => Eg n.name u
  | none => [n]) else [n]
theorem fill1_look {l : List Ch} (hr : Rising l) (n : Node) : fill1 (Nk l) n = To l n := by
  have h := (chosen_look hr l.length (Nat.le_refl _)).2 n.n
  rw [List.take_length] at h
  unfold fill1 Nk To
  rw [h.1, h.2]
  by_cases h0 : n.kind = 0
  · rw [if_pos h0, beq_iff_eq.2 h0, Bool.true_and]
    cases Po l n.n <;> rfl
  · rw [if_neg h0, beq_eq_false_iff_ne.2 h0]
    rfl
theorem doc1_look {l : List Ch} (hr : Rising l) (hf : ∀ c ∈ l, c.t ≠ []) (n : Node) : doc1 l n = To l n := by
  unfold doc1 To
  rw [put11_look hr n l.length (Nat.le_refl _), List.take_length]
  by_cases h0 : n.kind = 0
  · rw [if_pos h0, if_pos h0]
    cases hl : Po l n.n with
    | none => rfl
    | some u =>
      obtain ⟨c, hc, -, rfl⟩ := L6 hl
      have := hf c hc
      show Eg n.name (match c.t with | [] => [n] | y :: r => y :: r) = Eg n.name c.t
      cases ht : c.t with
      | nil => exact absurd ht this
      | cons y r => rfl
  · rw [if_neg h0, if_neg h0]
    rfl
theorem fill_same {l : List Ch} (h : right11 l = true) : E4 l = N8 (Nk l) := by
  have hr := Ez h
  have hf : ∀ c ∈ l, c.t ≠ [] := fun c hc e => by
    have := right3_pos (Ic h c hc).2.1
    rw [e] at this
    exact absurd this (by simp)
  funext t
  unfold E4 N8
  congr 1
  funext n
  rw [doc1_look hr hf, fill1_look hr]
theorem few11_of {l : List Ch} {m : Int} (h : O3 l m = true) : (l.length : Int) ≤ m ∧ (∀ c ∈ l, c.t.length ≤ 30) ∧ right11 l = true := by
  unfold O3 at h
  simp only [Bool.and_eq_true, Bool.not_eq_true', Me, List.all_eq_true] at h
  refine ⟨h.1, fun c hc => ?_, h.2.2⟩
  have := h.2.1 c hc
  unfold Ss at this
  simp only [Bool.and_eq_true, Bool.not_eq_true', Me] at this
  omega
theorem Ai {l : List Ch} (h : right11 l = true) (hs : ∀ c ∈ l, c.t.length ≤ 1000) : I1 (Nk l) := by
  intro s hh
  have hl := (chosen_look (Ez h) l.length (Nat.le_refl _)).2 s
  rw [List.take_length] at hl
  unfold Nk at hh ⊢
  rw [hl.1] at hh
  rw [hl.2]
  cases hq : Po l s with
  | none => rw [hq] at hh; cases hh
  | some u =>
    obtain ⟨c, hc, -, rfl⟩ := L6 hq
    have := right3_pos (Ic h c hc).2.1
    refine ⟨fun e => ?_, hs c hc⟩
    simp only [Option.getD_some] at e
    rw [e] at this
    simp at this
end Go.Am.Ty
set_option linter.unusedSimpArgs false
set_option linter.unusedVariables false
set_option maxHeartbeats 2000000
namespace Go.Am.Ty
open Go.Proofs
open Enc (enc dec)
theorem dec_ChL {a : Int} {m : Nat} {l : List D} : (dec (.agg [.int .i64 a, .list m l]) : Ch) = ⟨a, l.map dec⟩ := rfl
theorem isE_Ch1 {a x y : Int} {s : List UInt8} : isE Ch (.agg [.int .i64 a, .list 3 [.agg [.int .i64 x, .str s, .int .i64 y]]]) = True := eq_true (B0 (Ch.mk a [⟨x, s, y⟩]))
def Hj : Con := con0 true
noncomputable def T7 : Ctx := ⟨tab, lkC [(12, H6), (22, D1), (8, M9)], 60, lkB [], [], false⟩
theorem ctx_alive11_t : T7.τ = tab := rfl
theorem ctx_alive11_c : T7.Γ = lkC [(12, H6), (22, D1), (8, M9)] := rfl
theorem ctx_alive11_d : T7.dp = 60 := rfl
theorem ctx_alive11_b : T7.Δ = lkB [] := rfl
theorem ctx_alive11_u : T7.cuts = [] := rfl
theorem ctx_alive11_w : T7.wr = false := rfl
set_option maxRecDepth 100000 in
theorem Ru : M7 Try.prog (7, Hj) := by
  refine ⟨He Try.func7 (by kernel_rfl) rfl, ?_⟩
  have K : Nh Try.prog T7 := Hl Ny Ht (by
    intro p hp
    simp only [List.mem_cons, List.not_mem_nil, or_false] at hp
    rcases hp with rfl | rfl | rfl
    · exact good_TypeA
    · exact good_Print3
    · exact good_RightA) (by simp)
  obtain ⟨c, hc⟩ : ∃ c, Try.f7.body = some c := ⟨_, rfl⟩
  refine Hm K Try.func7 hc [.tmp 0] rfl 28 rfl (fun cvs hpre => ?_)
  change Hj.pre cvs at hpre
  unfold Hj at hpre
  obtain rfl := con0_pre hpre
  have r1 : right11 [⟨2, [⟨1, [], 0⟩]⟩] = true := by decide
  have r2 : right11 [⟨1, [⟨0, [], 0⟩]⟩] = false := by decide
  have f1 : N8 (Nk [⟨2, [⟨1, [], 0⟩]⟩]) [⟨5, [], 0⟩, ⟨0, [], 1⟩, ⟨0, [], 2⟩] = [⟨5, [], 0⟩, ⟨0, [], 1⟩, ⟨1, [], 0⟩] := by rfl
  have m1 : I1 (Nk [⟨2, [⟨1, [], 0⟩]⟩]) := Ai r1 (by intro c hc; simp at hc; subst hc; simp)
  have hA : ArrowOf [⟨5, [], 0⟩, ⟨0, [], 1⟩, ⟨1, [], 0⟩] := ⟨_, _, _, rfl, rfl, ⟨by simp, by simp⟩, ⟨by simp, by simp⟩⟩
  have hs : arrowS ⟨0, [], 1⟩ ⟨1, [], 0⟩ = [63, 32, 45, 62, 32, 105, 110, 116] := rfl
  have s1 : ShortC [⟨2, [⟨1, [], 0⟩]⟩] := ⟨by simp, by intro c hc; simp at hc; subst hc; exact ⟨by simp, by intro n hn; simp at hn; subst hn; simp⟩⟩
  have s2 : ShortC [⟨1, [⟨0, [], 0⟩]⟩] := ⟨by simp, by intro c hc; simp at hc; subst hc; exact ⟨by simp, by intro n hn; simp at hn; subst hn; simp⟩⟩
  simp only [Try.f7, Option.some.injEq] at hc
  subst hc
  (sym =>
   simp [dec_ChL,isE_Ch1,r1,r2,f1,hs,szC,Gt,Gv,Gx,Gu,szN,Gw,ctx_alive11_t,ctx_alive11_c,ctx_alive11_d,ctx_alive11_b,ctx_alive11_u,ctx_alive11_w,D1.eq_def,M9.eq_def,H6.eq_def,Hj.eq_def,Za,Zb,Zc,Zd,Ze,Zf,Zg,Zn,Zo,Zp,Zq,Zr,Zs,Zt,Zv,Z1,Z2,Z8,Z9,Qa,Qb,Qc,Qd,Qe,Qf,Qg,Qk,Qm,Qn,Qo,Qp,Qr,Q0,Q1,Q4,Q7,Q8,Q9,Ja,Jb,Jc,Jd,Je,Jf,Jg,Jh,Ji,Jj,Jk,Jl,Jt,Jy,Jz,J5,J6,Xh,Xi,Xj,Xk,Xl,Xm,Xn,Xo,Xp,Xq,Xr,Xs,Xt,Xu,Xv,Xy,X1,X2,X3,X4,X5,X6,X7,X8,We,Wf,Wg,Wh,Wi,Wj,Wl,Wn,Wo,Wp,Ws,Wt,Wu,Wv,Ww,Wx,Wy,Wz,W0,W3,W4,W5,W6,W7,W8,W9,Ya,Yb,Yc,Yd,Ye,Yf,Yg,Yh,Yi,Yj,Yk,Yl,Ym,Yn,Yo,Yv,Yw,Yx,Yy,Yz,Y1,Y2,Y3,Y4,Y5,Y6,Y7,Y8,Y9,Va,Vb,Vc,Vd,Ve,Vf,Vg,Vh,Vi,Vj,Vk,Vl,Vm,Vn,Vo,Vp,Vq,Vr,Vs,Vt,Vu,Vv,Vw,Vx,Vy,Vz,V0,V1,V2,V3,V4,V5,V6,V7,V8,V9,Ua,Ub,Uc,Ud,Ue,Uf,Ug,Uh,Ui,Uj,Uk,Ul,Um,Un,Uo,Up,Uq,Ur,Us,Ut,Uu,Uv,U1,U2,U3,U4,U5,U6,U7,U8,U9,Ka,Kb,Kc,Kd,Ke,Kf,Kg,Kh,Ki,Kj,Kk,Kl,Km,Kn,Ko,Kq,Kr,Ks,Kt,Ku,Kv,Kw,Kx,Ky,Kz,K0,K1,K2,K3,K4,K5,K6,K7,Gg,Gi,Gj,Gk,Gl,Gm,Gn,Gr,Nf,H3,Md,Hc,Mc,Hb]
   tactic =>
    try simp only [G6] at *
    try simp only [nc2] at *
    try simp (maxSteps := 4000000) only [dec_ChL,isE_Ch1,r1,r2,f1,hs,szC,Gt,Gv,Gx,Gu,szN,Gw,Hi]
    repeat' (first | with_reducible assumption | with_reducible refine And.intro ?_ ?_ | intro _ | omega | (rw [Gy]; omega))
    all_goals first
      | exact m1
      | exact hA
      | exact s1
      | exact s2
      | (with_reducible refine Hu ?_; kernel_rfl)
      | omega
      | skip)
def con_AssignMay : Con := Sn (fun (l : Sl Ch) => FitC l.l) (fun _ => true)
noncomputable def Si : Ctx := ⟨tab, lkC [(7, Hj), (8, M9), (9, Nv)], 60, lkB [], [], false⟩
theorem P3 : Si.τ = tab := rfl
theorem P5 : Si.Γ = lkC [(7, Hj), (8, M9), (9, Nv)] := rfl
theorem P4 : Si.dp = 60 := rfl
theorem P6 : Si.Δ = lkB [] := rfl
theorem P1 : Si.cuts = [] := rfl
theorem P0 : Si.wr = false := rfl
set_option maxRecDepth 100000 in
theorem good_AssignMay : M7 Try.prog (3, con_AssignMay) := by
  refine ⟨He Try.func3 (by kernel_rfl) rfl, ?_⟩
  have K : Nh Try.prog Si := Hl Ny Ht (by
    intro p hp
    simp only [List.mem_cons, List.not_mem_nil, or_false] at hp
    rcases hp with rfl | rfl | rfl
    · exact Ru
    · exact good_RightA
    · exact good_Right11) (by simp)
  obtain ⟨c, hc⟩ : ∃ c, Try.f3.body = some c := ⟨_, rfl⟩
  refine Hm K Try.func3 hc [.tmp 2] rfl 53 rfl (fun cvs hpre => ?_)
  change con_AssignMay.pre cvs at hpre
  unfold con_AssignMay at hpre
  obtain ⟨⟨l⟩, rfl, hF⟩ := Nw hpre
  obtain ⟨hl, hC⟩ : FitC l := hF
  clear hpre
  obtain ⟨R, hR⟩ : ∃ R, right11 l = R := ⟨_, rfl⟩
  cases hm : ltB 60 (l.length : Int) with
  | true =>
    simp only [Try.f3, Option.some.injEq] at hc
    subst hc
    refine Mn 3 (of_decide_eq_true (by kernel_rfl)) ?_
    (sym =>
     simp [hm,szC,P3,P5,P4,P6,P1,P0,con_AssignMay.eq_def,Nv.eq_def,M9.eq_def,Hj.eq_def,Za,Zb,Zc,Zd,Ze,Zf,Zg,Zn,Zo,Zp,Zq,Zr,Zs,Zt,Zv,Zx,Zy,Z5,Z8,Z9,Qa,Qb,Qc,Qd,Qe,Qf,Qg,Qk,Ql,Qm,Qn,Qo,Qp,Qr,Q0,Q1,Q4,Q8,Q9,Ja,Jf,Jh,Ji,Jj,Jk,Jl,Jt,Jx,Jy,Jz,J0,J1,J2,J5,J6,J7,J8,J9,Xa,Xb,Xc,Xd,Xe,Xf,Xg,Xj,Xk,Xl,Xm,Xn,Xo,Xp,Xq,Xr,Xs,Xt,Xu,Xv,Xw,Xx,Xy,X1,X2,X3,X4,X5,X6,X7,X8,We,Wf,Wg,Wh,Wi,Wj,Wl,Wm,Wn,Wo,Wp,Ws,Wt,Wu,Wv,Ww,Wx,Wy,Wz,W0,W3,W4,W5,W6,W7,W8,W9,Ya,Yb,Yc,Yd,Ye,Yf,Yg,Yh,Yi,Yj,Yk,Yl,Ym,Yn,Yo,Yr,Ys,Yt,Yu,Yv,Yw,Yx,Yy,Yz,Y1,Y2,Y3,Y4,Y5,Y6,Y7,Y8,Y9,Va,Vb,Vc,Vd,Ve,Vf,Vg,Vh,Vi,Vj,Vk,Vl,Vm,Vn,Vo,Vp,Vq,Vr,Vs,Vt,Vu,Vv,Vw,Vx,Vy,Vz,V0,V1,V2,V3,V4,V5,V6,V7,V8,V9,Ua,Ub,Uc,Ud,Ue,Uf,Ug,Uh,Ui,Uj,Uk,Ul,Um,Un,Uo,Up,Uq,Ur,Us,Ut,Uu,Uv,U1,U2,U5,U6,U7,U8,U9,Ka,Kb,Kc,Kd,Ke,Kf,Kg,Kh,Ki,Kj,Kk,Kl,Km,Kn,Ko,Kq,Kr,Ks,Kt,Ku,Kv,Kw,Kx,Ky,Kz,K0,K1,K2,K3,K4,K5,K6,K7,Gg,Gi,Gj,Gk,Gl,Gm,Gn,Gr,Hg,Nf,H3,Md,Hc,Mc,Hb])
  | false =>
  have hm2 := hm
  rw [Me] at hm2
  simp only [Try.f3, Option.some.injEq] at hc
  subst hc
  refine Mn 3 (of_decide_eq_true (by kernel_rfl)) ?_
  (sym =>
   simp [hm,szC,P3,P5,P4,P6,P1,P0,con_AssignMay.eq_def,Nv.eq_def,M9.eq_def,Hj.eq_def,Za,Zb,Zc,Zd,Ze,Zf,Zg,Zn,Zo,Zp,Zq,Zr,Zs,Zt,Zv,Zx,Zy,Z5,Z8,Z9,Qa,Qb,Qc,Qd,Qe,Qf,Qg,Qk,Ql,Qm,Qn,Qo,Qp,Qr,Q0,Q1,Q4,Q8,Q9,Ja,Jf,Jh,Ji,Jj,Jk,Jl,Jt,Jx,Jy,Jz,J0,J1,J2,J5,J6,J7,J8,J9,Xa,Xb,Xc,Xd,Xe,Xf,Xg,Xj,Xk,Xl,Xm,Xn,Xo,Xp,Xq,Xr,Xs,Xt,Xu,Xv,Xw,Xx,Xy,X1,X2,X3,X4,X5,X6,X7,X8,We,Wf,Wg,Wh,Wi,Wj,Wl,Wm,Wn,Wo,Wp,Ws,Wt,Wu,Wv,Ww,Wx,Wy,Wz,W0,W3,W4,W5,W6,W7,W8,W9,Ya,Yb,Yc,Yd,Ye,Yf,Yg,Yh,Yi,Yj,Yk,Yl,Ym,Yn,Yo,Yr,Ys,Yt,Yu,Yv,Yw,Yx,Yy,Yz,Y1,Y2,Y3,Y4,Y5,Y6,Y7,Y8,Y9,Va,Vb,Vc,Vd,Ve,Vf,Vg,Vh,Vi,Vj,Vk,Vl,Vm,Vn,Vo,Vp,Vq,Vr,Vs,Vt,Vu,Vv,Vw,Vx,Vy,Vz,V0,V1,V2,V3,V4,V5,V6,V7,V8,V9,Ua,Ub,Uc,Ud,Ue,Uf,Ug,Uh,Ui,Uj,Uk,Ul,Um,Un,Uo,Up,Uq,Ur,Us,Ut,Uu,Uv,U1,U2,U5,U6,U7,U8,U9,Ka,Kb,Kc,Kd,Ke,Kf,Kg,Kh,Ki,Kj,Kk,Kl,Km,Kn,Ko,Kq,Kr,Ks,Kt,Ku,Kv,Kw,Kx,Ky,Kz,K0,K1,K2,K3,K4,K5,K6,K7,Gg,Gi,Gj,Gk,Gl,Gm,Gn,Gr,Hg,Nf,H3,Md,Hc,Mc,Hb]
   tactic =>
    try simp only [G6] at *
    try simp only [nc2] at *
    try simp (maxSteps := 4000000) only [hm,szC,Hi]
    repeat' (first | with_reducible assumption | with_reducible refine And.intro ?_ ?_ | intro _ | omega | (rw [Gy]; omega))
    refine Ho [2, 4, 9, 10, 11, 12, 13, 14, 15, 16, 17, 18, 19, 20, 21, 22, 23, 24, 25, 26, 27, 28, 29, 30, 31, 32, 33, 34, 35, 36, 37, 38, 39, 40, 41, 42, 43, 44] (fun k : Nat => [(3, .d (.int .i64 k))]) (fun k : Nat => []) (fun k : Nat => k ≤ l.length ∧ ∀ j, j < k → (l.getD j c0).t.length ≤ 60) (fun k : Nat => l.length - k) 0 ?_ ?_ ?_
    · simp
    · ((try simp only [G3, Ha, G5, Hf, upd, Hh, Hn, Na, Nat.reduceDiv, Nat.reduceMod, Nat.reduceMul, Nat.reduceAdd, Nat.reduceEqDiff, List.set_cons_zero, List.set_cons_succ, if_true, if_false, reduceIte]); (first | refine Wk.of_fl ?_ | skip); simp only [Wk, wkK, Nd, wkT, wk1, AV.kept, keptAll, wkO, lk, G4, and_true, true_and, and_self, Nat.reduceEqDiff, Nat.reduceLeDiff, if_true, if_false, reduceIte, reduceCtorEq, Option.isSome, false_implies]; try simp [Wk, wkK, wkT, wk1, AV.kept, keptAll, wkO, lk, G4])
    rintro k ⟨hk, hno⟩
    rcases Hq k l.length with ⟨hlt, hlb⟩ | ⟨hlt, hlb⟩
    · have q1 := H7 c0 hlt
      obtain ⟨s1, s2⟩ := hC (l.getD k c0) (by simp [hlt])
      have hyes : (l.getD k c0).t.length ≤ 60 → ∀ j, j < k + 1 → (l.getD j c0).t.length ≤ 60 := fun h => R9 hno h
      obtain ⟨Q, hQ⟩ : ∃ Q, (∀ j, j < k + 1 → (l.getD j c0).t.length ≤ 60) = Q := ⟨_, rfl⟩
      rw [hQ] at hyes
      obtain ⟨x, hx⟩ : ∃ x, l.getD k c0 = x := ⟨_, rfl⟩
      rw [hx] at q1 s1 s2 hyes
      cases ht : ltB 60 (x.t.length : Int) with
      | true =>
        (sym =>
         simp [hlb,q1,ht,My,szC,Gt,Gv,Gx,Gu,szN,Gw,P3,P5,P4,P6,P1,P0,con_AssignMay.eq_def,Nv.eq_def,M9.eq_def,Hj.eq_def,Za,Zb,Zc,Zd,Ze,Zf,Zg,Zn,Zo,Zp,Zq,Zr,Zs,Zt,Zv,Zx,Zy,Z5,Z8,Z9,Qa,Qb,Qc,Qd,Qe,Qf,Qg,Qk,Ql,Qm,Qn,Qo,Qp,Qr,Q0,Q1,Q4,Q8,Q9,Ja,Jf,Jh,Ji,Jj,Jk,Jl,Jt,Jx,Jy,Jz,J0,J1,J2,J5,J6,J7,J8,J9,Xa,Xb,Xc,Xd,Xe,Xf,Xg,Xj,Xk,Xl,Xm,Xn,Xo,Xp,Xq,Xr,Xs,Xt,Xu,Xv,Xw,Xx,Xy,X1,X2,X3,X4,X5,X6,X7,X8,We,Wf,Wg,Wh,Wi,Wj,Wl,Wm,Wn,Wo,Wp,Ws,Wt,Wu,Wv,Ww,Wx,Wy,Wz,W0,W3,W4,W5,W6,W7,W8,W9,Ya,Yb,Yc,Yd,Ye,Yf,Yg,Yh,Yi,Yj,Yk,Yl,Ym,Yn,Yo,Yr,Ys,Yt,Yu,Yv,Yw,Yx,Yy,Yz,Y1,Y2,Y3,Y4,Y5,Y6,Y7,Y8,Y9,Va,Vb,Vc,Vd,Ve,Vf,Vg,Vh,Vi,Vj,Vk,Vl,Vm,Vn,Vo,Vp,Vq,Vr,Vs,Vt,Vu,Vv,Vw,Vx,Vy,Vz,V0,V1,V2,V3,V4,V5,V6,V7,V8,V9,Ua,Ub,Uc,Ud,Ue,Uf,Ug,Uh,Ui,Uj,Uk,Ul,Um,Un,Uo,Up,Uq,Ur,Us,Ut,Uu,Uv,U1,U2,U5,U6,U7,U8,U9,Ka,Kb,Kc,Kd,Ke,Kf,Kg,Kh,Ki,Kj,Kk,Kl,Km,Kn,Ko,Kq,Kr,Ks,Kt,Ku,Kv,Kw,Kx,Ky,Kz,K0,K1,K2,K3,K4,K5,K6,K7,Gg,Gi,Gj,Gk,Gl,Gm,Gn,Gr,Hg,Nf,H3,Md,Hc,Mc,Hb]
         tactic =>
          try simp only [G6] at *
          try simp only [nc2] at *
          try simp (maxSteps := 4000000) only [hlb,q1,ht,My,szC,Gt,Gv,Gx,Gu,szN,Gw,Hi]
          repeat' (first | with_reducible assumption | with_reducible refine And.intro ?_ ?_ | intro _ | omega | (rw [Gy]; omega)))
      | false =>
        rw [Me] at ht
        have hq := hyes (by omega)
        rw [← Me] at ht
        (sym =>
         simp [hlb,q1,ht,My,szC,Gt,Gv,Gx,Gu,szN,Gw,P3,P5,P4,P6,P1,P0,con_AssignMay.eq_def,Nv.eq_def,M9.eq_def,Hj.eq_def,Za,Zb,Zc,Zd,Ze,Zf,Zg,Zn,Zo,Zp,Zq,Zr,Zs,Zt,Zv,Zx,Zy,Z5,Z8,Z9,Qa,Qb,Qc,Qd,Qe,Qf,Qg,Qk,Ql,Qm,Qn,Qo,Qp,Qr,Q0,Q1,Q4,Q8,Q9,Ja,Jf,Jh,Ji,Jj,Jk,Jl,Jt,Jx,Jy,Jz,J0,J1,J2,J5,J6,J7,J8,J9,Xa,Xb,Xc,Xd,Xe,Xf,Xg,Xj,Xk,Xl,Xm,Xn,Xo,Xp,Xq,Xr,Xs,Xt,Xu,Xv,Xw,Xx,Xy,X1,X2,X3,X4,X5,X6,X7,X8,We,Wf,Wg,Wh,Wi,Wj,Wl,Wm,Wn,Wo,Wp,Ws,Wt,Wu,Wv,Ww,Wx,Wy,Wz,W0,W3,W4,W5,W6,W7,W8,W9,Ya,Yb,Yc,Yd,Ye,Yf,Yg,Yh,Yi,Yj,Yk,Yl,Ym,Yn,Yo,Yr,Ys,Yt,Yu,Yv,Yw,Yx,Yy,Yz,Y1,Y2,Y3,Y4,Y5,Y6,Y7,Y8,Y9,Va,Vb,Vc,Vd,Ve,Vf,Vg,Vh,Vi,Vj,Vk,Vl,Vm,Vn,Vo,Vp,Vq,Vr,Vs,Vt,Vu,Vv,Vw,Vx,Vy,Vz,V0,V1,V2,V3,V4,V5,V6,V7,V8,V9,Ua,Ub,Uc,Ud,Ue,Uf,Ug,Uh,Ui,Uj,Uk,Ul,Um,Un,Uo,Up,Uq,Ur,Us,Ut,Uu,Uv,U1,U2,U5,U6,U7,U8,U9,Ka,Kb,Kc,Kd,Ke,Kf,Kg,Kh,Ki,Kj,Kk,Kl,Km,Kn,Ko,Kq,Kr,Ks,Kt,Ku,Kv,Kw,Kx,Ky,Kz,K0,K1,K2,K3,K4,K5,K6,K7,Gg,Gi,Gj,Gk,Gl,Gm,Gn,Gr,Hg,Nf,H3,Md,Hc,Mc,Hb]
         tactic =>
          try simp only [G6] at *
          try simp only [nc2] at *
          try simp (maxSteps := 4000000) only [hlb,q1,ht,My,szC,Gt,Gv,Gx,Gu,szN,Gw,Hi]
          repeat' (first | with_reducible assumption | with_reducible refine And.intro ?_ ?_ | intro _ | omega | (rw [Gy]; omega))
          refine Ho [2, 23, 24, 25, 26, 27, 28, 29, 30, 31, 32, 33, 34, 35, 36, 37, 38, 39, 40, 41, 42, 43, 44] (fun i : Nat => [(4, .d (.int .i64 i))]) (fun i : Nat => []) (fun i : Nat => i ≤ x.t.length) (fun i : Nat => x.t.length - i) 0 ?_ ?_ ?_
          · omega
          · ((try simp only [G3, Ha, G5, Hf, upd, Hh, Hn, Na, Nat.reduceDiv, Nat.reduceMod, Nat.reduceMul, Nat.reduceAdd, Nat.reduceEqDiff, List.set_cons_zero, List.set_cons_succ, if_true, if_false, reduceIte]); (first | refine Wk.of_fl ?_ | skip); simp only [Wk, wkK, Nd, wkT, wk1, AV.kept, keptAll, wkO, lk, G4, and_true, true_and, and_self, Nat.reduceEqDiff, Nat.reduceLeDiff, if_true, if_false, reduceIte, reduceCtorEq, Option.isSome, false_implies]; try simp [Wk, wkK, wkT, wk1, AV.kept, keptAll, wkO, lk, G4])
          rintro i hi
          rcases Hq i x.t.length with ⟨hit, hib⟩ | ⟨hit, hib⟩
          · have r1 := H7 n0 hit
            have hnm := s2 _ (show x.t.getD i n0 ∈ x.t by simp [hit])
            obtain ⟨y, hy⟩ : ∃ y, x.t.getD i n0 = y := ⟨_, rfl⟩
            rw [hy] at r1 hnm
            cases hb : ltB 100 (y.name.length : Int) with
            | true =>
              (sym =>
               simp [hlb,q1,hib,r1,hb,My,szC,Gt,Gv,Gx,Gu,szN,Gw,P3,P5,P4,P6,P1,P0,con_AssignMay.eq_def,Nv.eq_def,M9.eq_def,Hj.eq_def,Za,Zb,Zc,Zd,Ze,Zf,Zg,Zn,Zo,Zp,Zq,Zr,Zs,Zt,Zv,Zx,Zy,Z5,Z8,Z9,Qa,Qb,Qc,Qd,Qe,Qf,Qg,Qk,Ql,Qm,Qn,Qo,Qp,Qr,Q0,Q1,Q4,Q8,Q9,Ja,Jf,Jh,Ji,Jj,Jk,Jl,Jt,Jx,Jy,Jz,J0,J1,J2,J5,J6,J7,J8,J9,Xa,Xb,Xc,Xd,Xe,Xf,Xg,Xj,Xk,Xl,Xm,Xn,Xo,Xp,Xq,Xr,Xs,Xt,Xu,Xv,Xw,Xx,Xy,X1,X2,X3,X4,X5,X6,X7,X8,We,Wf,Wg,Wh,Wi,Wj,Wl,Wm,Wn,Wo,Wp,Ws,Wt,Wu,Wv,Ww,Wx,Wy,Wz,W0,W3,W4,W5,W6,W7,W8,W9,Ya,Yb,Yc,Yd,Ye,Yf,Yg,Yh,Yi,Yj,Yk,Yl,Ym,Yn,Yo,Yr,Ys,Yt,Yu,Yv,Yw,Yx,Yy,Yz,Y1,Y2,Y3,Y4,Y5,Y6,Y7,Y8,Y9,Va,Vb,Vc,Vd,Ve,Vf,Vg,Vh,Vi,Vj,Vk,Vl,Vm,Vn,Vo,Vp,Vq,Vr,Vs,Vt,Vu,Vv,Vw,Vx,Vy,Vz,V0,V1,V2,V3,V4,V5,V6,V7,V8,V9,Ua,Ub,Uc,Ud,Ue,Uf,Ug,Uh,Ui,Uj,Uk,Ul,Um,Un,Uo,Up,Uq,Ur,Us,Ut,Uu,Uv,U1,U2,U5,U6,U7,U8,U9,Ka,Kb,Kc,Kd,Ke,Kf,Kg,Kh,Ki,Kj,Kk,Kl,Km,Kn,Ko,Kq,Kr,Ks,Kt,Ku,Kv,Kw,Kx,Ky,Kz,K0,K1,K2,K3,K4,K5,K6,K7,Gg,Gi,Gj,Gk,Gl,Gm,Gn,Gr,Hg,Nf,H3,Md,Hc,Mc,Hb]
               tactic =>
                try simp only [G6] at *
                try simp only [nc2] at *
                try simp (maxSteps := 4000000) only [hlb,q1,hib,r1,hb,My,szC,Gt,Gv,Gx,Gu,szN,Gw,Hi]
                repeat' (first | with_reducible assumption | with_reducible refine And.intro ?_ ?_ | intro _ | omega | (rw [Gy]; omega))
                all_goals first
                  | omega
                  | skip)
            | false =>
              (sym =>
               simp [hlb,q1,hib,r1,hb,My,szC,Gt,Gv,Gx,Gu,szN,Gw,P3,P5,P4,P6,P1,P0,con_AssignMay.eq_def,Nv.eq_def,M9.eq_def,Hj.eq_def,Za,Zb,Zc,Zd,Ze,Zf,Zg,Zn,Zo,Zp,Zq,Zr,Zs,Zt,Zv,Zx,Zy,Z5,Z8,Z9,Qa,Qb,Qc,Qd,Qe,Qf,Qg,Qk,Ql,Qm,Qn,Qo,Qp,Qr,Q0,Q1,Q4,Q8,Q9,Ja,Jf,Jh,Ji,Jj,Jk,Jl,Jt,Jx,Jy,Jz,J0,J1,J2,J5,J6,J7,J8,J9,Xa,Xb,Xc,Xd,Xe,Xf,Xg,Xj,Xk,Xl,Xm,Xn,Xo,Xp,Xq,Xr,Xs,Xt,Xu,Xv,Xw,Xx,Xy,X1,X2,X3,X4,X5,X6,X7,X8,We,Wf,Wg,Wh,Wi,Wj,Wl,Wm,Wn,Wo,Wp,Ws,Wt,Wu,Wv,Ww,Wx,Wy,Wz,W0,W3,W4,W5,W6,W7,W8,W9,Ya,Yb,Yc,Yd,Ye,Yf,Yg,Yh,Yi,Yj,Yk,Yl,Ym,Yn,Yo,Yr,Ys,Yt,Yu,Yv,Yw,Yx,Yy,Yz,Y1,Y2,Y3,Y4,Y5,Y6,Y7,Y8,Y9,Va,Vb,Vc,Vd,Ve,Vf,Vg,Vh,Vi,Vj,Vk,Vl,Vm,Vn,Vo,Vp,Vq,Vr,Vs,Vt,Vu,Vv,Vw,Vx,Vy,Vz,V0,V1,V2,V3,V4,V5,V6,V7,V8,V9,Ua,Ub,Uc,Ud,Ue,Uf,Ug,Uh,Ui,Uj,Uk,Ul,Um,Un,Uo,Up,Uq,Ur,Us,Ut,Uu,Uv,U1,U2,U5,U6,U7,U8,U9,Ka,Kb,Kc,Kd,Ke,Kf,Kg,Kh,Ki,Kj,Kk,Kl,Km,Kn,Ko,Kq,Kr,Ks,Kt,Ku,Kv,Kw,Kx,Ky,Kz,K0,K1,K2,K3,K4,K5,K6,K7,Gg,Gi,Gj,Gk,Gl,Gm,Gn,Gr,Hg,Nf,H3,Md,Hc,Mc,Hb]
               tactic =>
                try simp only [G6] at *
                try simp only [nc2] at *
                try simp (maxSteps := 4000000) only [hlb,q1,hib,r1,hb,My,szC,Gt,Gv,Gx,Gu,szN,Gw,Hi]
                repeat' (first | with_reducible assumption | with_reducible refine And.intro ?_ ?_ | intro _ | omega | (rw [Gy]; omega))
                all_goals first
                  | omega
                  | exact ⟨i + 1, by ((try simp only [G3, Ha, G5, Hf, upd, Hh, Hn, Na, Nat.reduceDiv, Nat.reduceMod, Nat.reduceMul, Nat.reduceAdd, Nat.reduceEqDiff, List.set_cons_zero, List.set_cons_succ, if_true, if_false, reduceIte]); (first | refine Wk.of_fl ?_ | skip); simp only [Wk, wkK, Nd, wkT, wk1, AV.kept, keptAll, wkO, lk, G4, and_true, true_and, and_self, Nat.reduceEqDiff, Nat.reduceLeDiff, if_true, if_false, reduceIte, reduceCtorEq, Option.isSome, false_implies]; try simp [Wk, wkK, wkT, wk1, AV.kept, keptAll, wkO, lk, G4]), by omega, by omega⟩
                  | skip)
          · (sym =>
             simp [hlb,q1,hib,My,szC,Gt,Gv,Gx,Gu,szN,Gw,P3,P5,P4,P6,P1,P0,con_AssignMay.eq_def,Nv.eq_def,M9.eq_def,Hj.eq_def,Za,Zb,Zc,Zd,Ze,Zf,Zg,Zn,Zo,Zp,Zq,Zr,Zs,Zt,Zv,Zx,Zy,Z5,Z8,Z9,Qa,Qb,Qc,Qd,Qe,Qf,Qg,Qk,Ql,Qm,Qn,Qo,Qp,Qr,Q0,Q1,Q4,Q8,Q9,Ja,Jf,Jh,Ji,Jj,Jk,Jl,Jt,Jx,Jy,Jz,J0,J1,J2,J5,J6,J7,J8,J9,Xa,Xb,Xc,Xd,Xe,Xf,Xg,Xj,Xk,Xl,Xm,Xn,Xo,Xp,Xq,Xr,Xs,Xt,Xu,Xv,Xw,Xx,Xy,X1,X2,X3,X4,X5,X6,X7,X8,We,Wf,Wg,Wh,Wi,Wj,Wl,Wm,Wn,Wo,Wp,Ws,Wt,Wu,Wv,Ww,Wx,Wy,Wz,W0,W3,W4,W5,W6,W7,W8,W9,Ya,Yb,Yc,Yd,Ye,Yf,Yg,Yh,Yi,Yj,Yk,Yl,Ym,Yn,Yo,Yr,Ys,Yt,Yu,Yv,Yw,Yx,Yy,Yz,Y1,Y2,Y3,Y4,Y5,Y6,Y7,Y8,Y9,Va,Vb,Vc,Vd,Ve,Vf,Vg,Vh,Vi,Vj,Vk,Vl,Vm,Vn,Vo,Vp,Vq,Vr,Vs,Vt,Vu,Vv,Vw,Vx,Vy,Vz,V0,V1,V2,V3,V4,V5,V6,V7,V8,V9,Ua,Ub,Uc,Ud,Ue,Uf,Ug,Uh,Ui,Uj,Uk,Ul,Um,Un,Uo,Up,Uq,Ur,Us,Ut,Uu,Uv,U1,U2,U5,U6,U7,U8,U9,Ka,Kb,Kc,Kd,Ke,Kf,Kg,Kh,Ki,Kj,Kk,Kl,Km,Kn,Ko,Kq,Kr,Ks,Kt,Ku,Kv,Kw,Kx,Ky,Kz,K0,K1,K2,K3,K4,K5,K6,K7,Gg,Gi,Gj,Gk,Gl,Gm,Gn,Gr,Hg,Nf,H3,Md,Hc,Mc,Hb]
             tactic =>
              try simp only [G6] at *
              try simp only [nc2] at *
              try simp (maxSteps := 4000000) only [hlb,q1,hib,My,szC,Gt,Gv,Gx,Gu,szN,Gw,Hi]
              repeat' (first | with_reducible assumption | with_reducible refine And.intro ?_ ?_ | intro _ | omega | (rw [Gy]; omega))
              all_goals first
                | omega
                | exact ⟨k + 1, by ((try simp only [G3, Ha, G5, Hf, upd, Hh, Hn, Na, Nat.reduceDiv, Nat.reduceMod, Nat.reduceMul, Nat.reduceAdd, Nat.reduceEqDiff, List.set_cons_zero, List.set_cons_succ, if_true, if_false, reduceIte]); (first | refine Wk.of_fl ?_ | skip); simp only [Wk, wkK, Nd, wkT, wk1, AV.kept, keptAll, wkO, lk, G4, and_true, true_and, and_self, Nat.reduceEqDiff, Nat.reduceLeDiff, if_true, if_false, reduceIte, reduceCtorEq, Option.isSome, false_implies]; try simp [Wk, wkK, wkT, wk1, AV.kept, keptAll, wkO, lk, G4]), by omega, Eq.mpr hQ hq, by omega⟩
                | skip))
    · have hS : ShortC l := by
        refine ⟨by omega, fun c hc => ⟨?_, (hC c hc).2⟩⟩
        obtain ⟨j, hj, rfl⟩ := List.mem_iff_getElem.1 hc
        have := hno j (by omega)
        have hg : l.getD j c0 = l[j] := by simp [hj]
        rw [hg] at this
        omega
      have hF : FitC l := ⟨hl, hC⟩
      (sym =>
       simp [hlb,hR,beq_self_eq_true,szC,P3,P5,P4,P6,P1,P0,con_AssignMay.eq_def,Nv.eq_def,M9.eq_def,Hj.eq_def,Za,Zb,Zc,Zd,Ze,Zf,Zg,Zn,Zo,Zp,Zq,Zr,Zs,Zt,Zv,Zx,Zy,Z5,Z8,Z9,Qa,Qb,Qc,Qd,Qe,Qf,Qg,Qk,Ql,Qm,Qn,Qo,Qp,Qr,Q0,Q1,Q4,Q8,Q9,Ja,Jf,Jh,Ji,Jj,Jk,Jl,Jt,Jx,Jy,Jz,J0,J1,J2,J5,J6,J7,J8,J9,Xa,Xb,Xc,Xd,Xe,Xf,Xg,Xj,Xk,Xl,Xm,Xn,Xo,Xp,Xq,Xr,Xs,Xt,Xu,Xv,Xw,Xx,Xy,X1,X2,X3,X4,X5,X6,X7,X8,We,Wf,Wg,Wh,Wi,Wj,Wl,Wm,Wn,Wo,Wp,Ws,Wt,Wu,Wv,Ww,Wx,Wy,Wz,W0,W3,W4,W5,W6,W7,W8,W9,Ya,Yb,Yc,Yd,Ye,Yf,Yg,Yh,Yi,Yj,Yk,Yl,Ym,Yn,Yo,Yr,Ys,Yt,Yu,Yv,Yw,Yx,Yy,Yz,Y1,Y2,Y3,Y4,Y5,Y6,Y7,Y8,Y9,Va,Vb,Vc,Vd,Ve,Vf,Vg,Vh,Vi,Vj,Vk,Vl,Vm,Vn,Vo,Vp,Vq,Vr,Vs,Vt,Vu,Vv,Vw,Vx,Vy,Vz,V0,V1,V2,V3,V4,V5,V6,V7,V8,V9,Ua,Ub,Uc,Ud,Ue,Uf,Ug,Uh,Ui,Uj,Uk,Ul,Um,Un,Uo,Up,Uq,Ur,Us,Ut,Uu,Uv,U1,U2,U5,U6,U7,U8,U9,Ka,Kb,Kc,Kd,Ke,Kf,Kg,Kh,Ki,Kj,Kk,Kl,Km,Kn,Ko,Kq,Kr,Ks,Kt,Ku,Kv,Kw,Kx,Ky,Kz,K0,K1,K2,K3,K4,K5,K6,K7,Gg,Gi,Gj,Gk,Gl,Gm,Gn,Gr,Hg,Nf,H3,Md,Hc,Mc,Hb]
       tactic =>
        try simp only [G6] at *
        try simp only [nc2] at *
        try simp (maxSteps := 4000000) only [hlb,hR,beq_self_eq_true,szC,Hi]
        repeat' (first | with_reducible assumption | with_reducible refine And.intro ?_ ?_ | intro _ | omega | (rw [Gy]; omega))
        all_goals first
          | exact hS
          | exact hF
          | (with_reducible refine Hu ?_; kernel_rfl)
          | rfl
          | skip))
def InE (e : List Part) : Prop := e.length ≤ 9223372036854775807 ∧ ∀ p ∈ e, Fit5 p
theorem few5_of {e : List Part} {m : Nat} (h : few5 e m = true) : e.length ≤ m ∧ ∀ p ∈ e, fewP p = true := by
  unfold few5 at h
  rw [List.all_eq_true] at h
  have h2 : ∀ j, j < e.length → j ≠ m ∧ fewP (e.getD j e0) = true := fun j hj => by
    have := h j (List.mem_range.2 hj)
    rw [Bool.and_eq_true, Bool.not_eq_true', beq_eq_false_iff_ne] at this
    exact ⟨fun e => this.1 (by rw [e]), this.2⟩
  refine ⟨?_, fun p hp => ?_⟩
  · rcases Nat.lt_or_ge m e.length with h3 | h3
    · exact absurd rfl (h2 m h3).1
    · exact h3
  · obtain ⟨j, hj, rfl⟩ := List.mem_iff_getElem.1 hp
    have := (h2 j hj).2
    have hg : e.getD j e0 = e[j] := by simp [hj]
    rwa [hg] at this
theorem fewP_of {p : Part} (h : fewP p = true) : p.t.length ≤ 60 ∧ p.u.length ≤ 60 := by
  unfold fewP longP at h
  simp only [Bool.and_eq_true, Bool.not_eq_true', Bool.or_eq_false_iff, Me] at h
  omega
theorem fit6_of {e : List Part} {m : Nat} (hP : ∀ p ∈ e, Fit5 p) (h : few5 e m = true) : ∀ p ∈ e, Fit6 p := fun p hp => by
  have h2 := (few5_of h).2 p hp
  unfold fewP longP at h2
  simp only [Bool.and_eq_true, Bool.not_eq_true', Bool.or_eq_false_iff, Me] at h2
  exact ⟨hP p hp, by omega⟩
theorem plain7_len {t : List Node} {m : Int} (h : Ss t m = true) : (t.length : Int) ≤ m := by
  unfold Ss at h
  simp only [Bool.and_eq_true, Bool.not_eq_true', Me] at h
  exact h.1
theorem right5_ne {e : List Part} (h : E0 e = true) : e ≠ [] := by
  rintro rfl
  unfold E0 Eh at h
  simp at h
theorem Lr {l : List Ch} (hl : ∀ c ∈ l, c.t.length ≤ 30) (hr : right11 l = true) (t : List Node) : (N8 (Nk l) t).length ≤ 30 * t.length := by
  have h1 : ∀ n, (fill1 (Nk l) n).length ≤ 30 := by
    intro n
    rw [fill1_look (Ez hr)]
    unfold To
    split
    · cases hq : Po l n.n with
      | none => exact (by show 1 ≤ 30; omega)
      | some u =>
        obtain ⟨c, hc, -, rfl⟩ := L6 hq
        show (Eg n.name c.t).length ≤ 30
        rw [D7]
        exact hl c hc
    · exact (by show 1 ≤ 30; omega)
  induction t with
  | nil => exact Nat.le_refl _
  | cons n t ih =>
    have := h1 n
    unfold N8 at ih ⊢
    rw [List.flatMap_cons, List.length_append, List.length_cons]
    omega
def con_AssignTypes : Con := con3 (fun (t : Sl Node) (e : Sl Part) (l : Sl Ch) => (t.l.length ≤ 9223372036854775807 ∧ I0 t.l) ∧ InE e.l ∧ FitC l.l) (fun _ _ _ => true)
noncomputable def Bs : Ctx := ⟨tab, lkC [(7, Hj), (14, H8), (11, H4), (15, N0), (16, Nj), (12, H6), (18, Mo), (17, Ma), (20, Mw), (21, Bj), (19, M0)], 60, lkB [], [], false⟩
theorem L1 : Bs.τ = tab := rfl
theorem L3 : Bs.Γ = lkC [(7, Hj), (14, H8), (11, H4), (15, N0), (16, Nj), (12, H6), (18, Mo), (17, Ma), (20, Mw), (21, Bj), (19, M0)] := rfl
theorem L2 : Bs.dp = 60 := rfl
theorem L4 : Bs.Δ = lkB [] := rfl
theorem Lz : Bs.cuts = [] := rfl
theorem Ly : Bs.wr = false := rfl
set_option maxRecDepth 100000 in
theorem good_AssignTypes : M7 Try.prog (5, con_AssignTypes) := by
  refine ⟨He Try.func5 (by kernel_rfl) rfl, ?_⟩
  have K : Nh Try.prog Bs := Hl Ny Ht (by
    intro p hp
    simp only [List.mem_cons, List.not_mem_nil, or_false] at hp
    rcases hp with rfl | rfl | rfl | rfl | rfl | rfl | rfl | rfl | rfl | rfl | rfl
    · exact Ru
    · exact good_Plain7
    · exact good_Few11
    · exact good_Few5
    · exact good_Right5
    · exact good_TypeA
    · exact good_Type11
    · exact good_One3
    · exact good_ExprA
    · exact good_Expr11
    · exact good_One5) (by simp)
  obtain ⟨c, hc⟩ : ∃ c, Try.f5.body = some c := ⟨_, rfl⟩
  refine Hm K Try.func5 hc [.tmp 6] rfl 65 rfl (fun cvs hpre => ?_)
  change con_AssignTypes.pre cvs at hpre
  unfold con_AssignTypes at hpre
  obtain ⟨⟨t⟩, ⟨e⟩, ⟨l⟩, rfl, ⟨ht, hN⟩, hE, hL⟩ := con3_pre hpre
  simp only at ht hN
  have hFl : FitC l := hL
  obtain ⟨he, hP⟩ : InE e := hE
  clear hpre
  cases hq : (Ss t 60 && O3 l 20) && (few5 e 60 && E0 e) with
  | false =>
    obtain ⟨b1, h1⟩ : ∃ b, Ss t 60 = b := ⟨_, rfl⟩
    obtain ⟨b2, h2⟩ : ∃ b, O3 l 20 = b := ⟨_, rfl⟩
    obtain ⟨b3, h3⟩ : ∃ b, few5 e 60 = b := ⟨_, rfl⟩
    obtain ⟨b4, h4⟩ : ∃ b, E0 e = b := ⟨_, rfl⟩
    rw [h1, h2, h3, h4] at hq
    have hcases : b1 = false ∨ (b1 = true ∧ b2 = false) ∨ (b1 = true ∧ b2 = true ∧ b3 = false) ∨ (b1 = true ∧ b2 = true ∧ b3 = true ∧ b4 = false) := by
      revert hq
      clear h1 h2 h3 h4
      cases b1 <;> cases b2 <;> cases b3 <;> cases b4 <;> simp
    clear hq
    simp only [Try.f5, Option.some.injEq] at hc
    subst hc
    refine Mn 4 (of_decide_eq_true (by kernel_rfl)) ?_
    rcases hcases with rfl | ⟨rfl, rfl⟩ | ⟨rfl, rfl, rfl⟩ | ⟨rfl, rfl, rfl, rfl⟩
    · (sym =>
       simp [h1,szC,szP,Gt,Gv,Gx,Gu,szN,Gw,L1,L3,L2,L4,Lz,Ly,con_AssignTypes.eq_def,Bj.eq_def,Mw.eq_def,H4.eq_def,N0.eq_def,Ma.eq_def,M0.eq_def,H8.eq_def,Nj.eq_def,Mo.eq_def,H6.eq_def,Hj.eq_def,Za,Zb,Zc,Zd,Ze,Zf,Zg,Zn,Zo,Zp,Zq,Zr,Zs,Zt,Zv,Z1,Z3,Z4,Z8,Z9,Qa,Qb,Qc,Qd,Qe,Qf,Qg,Qk,Qm,Qn,Qo,Qp,Qr,Q0,Q1,Q4,Q8,Q9,Ja,Jb,Jc,Jd,Je,Jf,Jg,Jh,Ji,Jj,Jk,Jl,Jt,Jx,Jy,Jz,J5,J6,J7,J8,J9,Xa,Xb,Xc,Xd,Xe,Xf,Xg,Xh,Xi,Xj,Xk,Xl,Xm,Xn,Xo,Xp,Xq,Xr,Xs,Xt,Xu,Xv,Xw,Xx,Xy,X1,X2,X3,X4,X5,X6,X7,X8,We,Wf,Wg,Wh,Wi,Wj,Wl,Wn,Wo,Wp,Ws,Wt,Wu,Wv,Ww,Wx,Wy,Wz,W0,W3,W4,W5,W6,W7,W8,W9,Ya,Yb,Yc,Yd,Ye,Yf,Yg,Yh,Yi,Yj,Yk,Yl,Ym,Yn,Yo,Yr,Ys,Yt,Yv,Yw,Yx,Yy,Yz,Y1,Y2,Y3,Y4,Y5,Y6,Y7,Y8,Y9,Va,Vb,Vc,Vd,Ve,Vf,Vg,Vh,Vi,Vj,Vk,Vl,Vm,Vn,Vo,Vp,Vq,Vr,Vs,Vt,Vu,Vv,Vw,Vx,Vy,Vz,V0,V1,V2,V3,V4,V5,V6,V7,V8,V9,Ua,Ub,Uc,Ud,Ue,Uf,Ug,Uh,Ui,Uj,Uk,Ul,Um,Un,Uo,Up,Uq,Ur,Us,Ut,Uu,Uv,U1,U2,U3,U4,U5,U6,U7,U8,U9,Ka,Kb,Kc,Kd,Ke,Kf,Kg,Kh,Ki,Kj,Kk,Kl,Km,Kn,Ko,Kq,Kr,Ks,Kt,Ku,Kv,Kw,Kx,Ky,Kz,K0,K1,K2,K3,K4,K5,K6,K7,Gg,Gi,Gj,Gk,Gl,Gm,Gn,Gr,Nf,Md,Hc,Mc,Hb,Nc,H2]
       tactic =>
        try simp only [G6] at *
        try simp only [nc2] at *
        try simp (maxSteps := 4000000) only [h1,szC,szP,Gt,Gv,Gx,Gu,szN,Gw,Hi]
        repeat' (first | with_reducible assumption | with_reducible refine And.intro ?_ ?_ | intro _ | omega | (rw [Gy]; omega)))
    · (sym =>
       simp [h1,h2,szC,szP,Gt,Gv,Gx,Gu,szN,Gw,L1,L3,L2,L4,Lz,Ly,con_AssignTypes.eq_def,Bj.eq_def,Mw.eq_def,H4.eq_def,N0.eq_def,Ma.eq_def,M0.eq_def,H8.eq_def,Nj.eq_def,Mo.eq_def,H6.eq_def,Hj.eq_def,Za,Zb,Zc,Zd,Ze,Zf,Zg,Zn,Zo,Zp,Zq,Zr,Zs,Zt,Zv,Z1,Z3,Z4,Z8,Z9,Qa,Qb,Qc,Qd,Qe,Qf,Qg,Qk,Qm,Qn,Qo,Qp,Qr,Q0,Q1,Q4,Q8,Q9,Ja,Jb,Jc,Jd,Je,Jf,Jg,Jh,Ji,Jj,Jk,Jl,Jt,Jx,Jy,Jz,J5,J6,J7,J8,J9,Xa,Xb,Xc,Xd,Xe,Xf,Xg,Xh,Xi,Xj,Xk,Xl,Xm,Xn,Xo,Xp,Xq,Xr,Xs,Xt,Xu,Xv,Xw,Xx,Xy,X1,X2,X3,X4,X5,X6,X7,X8,We,Wf,Wg,Wh,Wi,Wj,Wl,Wn,Wo,Wp,Ws,Wt,Wu,Wv,Ww,Wx,Wy,Wz,W0,W3,W4,W5,W6,W7,W8,W9,Ya,Yb,Yc,Yd,Ye,Yf,Yg,Yh,Yi,Yj,Yk,Yl,Ym,Yn,Yo,Yr,Ys,Yt,Yv,Yw,Yx,Yy,Yz,Y1,Y2,Y3,Y4,Y5,Y6,Y7,Y8,Y9,Va,Vb,Vc,Vd,Ve,Vf,Vg,Vh,Vi,Vj,Vk,Vl,Vm,Vn,Vo,Vp,Vq,Vr,Vs,Vt,Vu,Vv,Vw,Vx,Vy,Vz,V0,V1,V2,V3,V4,V5,V6,V7,V8,V9,Ua,Ub,Uc,Ud,Ue,Uf,Ug,Uh,Ui,Uj,Uk,Ul,Um,Un,Uo,Up,Uq,Ur,Us,Ut,Uu,Uv,U1,U2,U3,U4,U5,U6,U7,U8,U9,Ka,Kb,Kc,Kd,Ke,Kf,Kg,Kh,Ki,Kj,Kk,Kl,Km,Kn,Ko,Kq,Kr,Ks,Kt,Ku,Kv,Kw,Kx,Ky,Kz,K0,K1,K2,K3,K4,K5,K6,K7,Gg,Gi,Gj,Gk,Gl,Gm,Gn,Gr,Nf,Md,Hc,Mc,Hb,Nc,H2]
       tactic =>
        try simp only [G6] at *
        try simp only [nc2] at *
        try simp (maxSteps := 4000000) only [h1,h2,szC,szP,Gt,Gv,Gx,Gu,szN,Gw,Hi]
        repeat' (first | with_reducible assumption | with_reducible refine And.intro ?_ ?_ | intro _ | omega | (rw [Gy]; omega)))
    · (sym =>
       simp [h1,h2,h3,szC,szP,Gt,Gv,Gx,Gu,szN,Gw,L1,L3,L2,L4,Lz,Ly,con_AssignTypes.eq_def,Bj.eq_def,Mw.eq_def,H4.eq_def,N0.eq_def,Ma.eq_def,M0.eq_def,H8.eq_def,Nj.eq_def,Mo.eq_def,H6.eq_def,Hj.eq_def,Za,Zb,Zc,Zd,Ze,Zf,Zg,Zn,Zo,Zp,Zq,Zr,Zs,Zt,Zv,Z1,Z3,Z4,Z8,Z9,Qa,Qb,Qc,Qd,Qe,Qf,Qg,Qk,Qm,Qn,Qo,Qp,Qr,Q0,Q1,Q4,Q8,Q9,Ja,Jb,Jc,Jd,Je,Jf,Jg,Jh,Ji,Jj,Jk,Jl,Jt,Jx,Jy,Jz,J5,J6,J7,J8,J9,Xa,Xb,Xc,Xd,Xe,Xf,Xg,Xh,Xi,Xj,Xk,Xl,Xm,Xn,Xo,Xp,Xq,Xr,Xs,Xt,Xu,Xv,Xw,Xx,Xy,X1,X2,X3,X4,X5,X6,X7,X8,We,Wf,Wg,Wh,Wi,Wj,Wl,Wn,Wo,Wp,Ws,Wt,Wu,Wv,Ww,Wx,Wy,Wz,W0,W3,W4,W5,W6,W7,W8,W9,Ya,Yb,Yc,Yd,Ye,Yf,Yg,Yh,Yi,Yj,Yk,Yl,Ym,Yn,Yo,Yr,Ys,Yt,Yv,Yw,Yx,Yy,Yz,Y1,Y2,Y3,Y4,Y5,Y6,Y7,Y8,Y9,Va,Vb,Vc,Vd,Ve,Vf,Vg,Vh,Vi,Vj,Vk,Vl,Vm,Vn,Vo,Vp,Vq,Vr,Vs,Vt,Vu,Vv,Vw,Vx,Vy,Vz,V0,V1,V2,V3,V4,V5,V6,V7,V8,V9,Ua,Ub,Uc,Ud,Ue,Uf,Ug,Uh,Ui,Uj,Uk,Ul,Um,Un,Uo,Up,Uq,Ur,Us,Ut,Uu,Uv,U1,U2,U3,U4,U5,U6,U7,U8,U9,Ka,Kb,Kc,Kd,Ke,Kf,Kg,Kh,Ki,Kj,Kk,Kl,Km,Kn,Ko,Kq,Kr,Ks,Kt,Ku,Kv,Kw,Kx,Ky,Kz,K0,K1,K2,K3,K4,K5,K6,K7,Gg,Gi,Gj,Gk,Gl,Gm,Gn,Gr,Nf,Md,Hc,Mc,Hb,Nc,H2]
       tactic =>
        try simp only [G6] at *
        try simp only [nc2] at *
        try simp (maxSteps := 4000000) only [h1,h2,h3,szC,szP,Gt,Gv,Gx,Gu,szN,Gw,Hi]
        repeat' (first | with_reducible assumption | with_reducible refine And.intro ?_ ?_ | intro _ | omega | (rw [Gy]; omega)))
    · have hP6 := fit6_of (m := 60) hP h3
      (sym =>
       simp [h1,h2,h3,h4,szC,szP,Gt,Gv,Gx,Gu,szN,Gw,L1,L3,L2,L4,Lz,Ly,con_AssignTypes.eq_def,Bj.eq_def,Mw.eq_def,H4.eq_def,N0.eq_def,Ma.eq_def,M0.eq_def,H8.eq_def,Nj.eq_def,Mo.eq_def,H6.eq_def,Hj.eq_def,Za,Zb,Zc,Zd,Ze,Zf,Zg,Zn,Zo,Zp,Zq,Zr,Zs,Zt,Zv,Z1,Z3,Z4,Z8,Z9,Qa,Qb,Qc,Qd,Qe,Qf,Qg,Qk,Qm,Qn,Qo,Qp,Qr,Q0,Q1,Q4,Q8,Q9,Ja,Jb,Jc,Jd,Je,Jf,Jg,Jh,Ji,Jj,Jk,Jl,Jt,Jx,Jy,Jz,J5,J6,J7,J8,J9,Xa,Xb,Xc,Xd,Xe,Xf,Xg,Xh,Xi,Xj,Xk,Xl,Xm,Xn,Xo,Xp,Xq,Xr,Xs,Xt,Xu,Xv,Xw,Xx,Xy,X1,X2,X3,X4,X5,X6,X7,X8,We,Wf,Wg,Wh,Wi,Wj,Wl,Wn,Wo,Wp,Ws,Wt,Wu,Wv,Ww,Wx,Wy,Wz,W0,W3,W4,W5,W6,W7,W8,W9,Ya,Yb,Yc,Yd,Ye,Yf,Yg,Yh,Yi,Yj,Yk,Yl,Ym,Yn,Yo,Yr,Ys,Yt,Yv,Yw,Yx,Yy,Yz,Y1,Y2,Y3,Y4,Y5,Y6,Y7,Y8,Y9,Va,Vb,Vc,Vd,Ve,Vf,Vg,Vh,Vi,Vj,Vk,Vl,Vm,Vn,Vo,Vp,Vq,Vr,Vs,Vt,Vu,Vv,Vw,Vx,Vy,Vz,V0,V1,V2,V3,V4,V5,V6,V7,V8,V9,Ua,Ub,Uc,Ud,Ue,Uf,Ug,Uh,Ui,Uj,Uk,Ul,Um,Un,Uo,Up,Uq,Ur,Us,Ut,Uu,Uv,U1,U2,U3,U4,U5,U6,U7,U8,U9,Ka,Kb,Kc,Kd,Ke,Kf,Kg,Kh,Ki,Kj,Kk,Kl,Km,Kn,Ko,Kq,Kr,Ks,Kt,Ku,Kv,Kw,Kx,Ky,Kz,K0,K1,K2,K3,K4,K5,K6,K7,Gg,Gi,Gj,Gk,Gl,Gm,Gn,Gr,Nf,Md,Hc,Mc,Hb,Nc,H2]
       tactic =>
        try simp only [G6] at *
        try simp only [nc2] at *
        try simp (maxSteps := 4000000) only [h1,h2,h3,h4,szC,szP,Gt,Gv,Gx,Gu,szN,Gw,Hi]
        repeat' (first | with_reducible assumption | with_reducible refine And.intro ?_ ?_ | intro _ | omega | (rw [Gy]; omega)))
  | true =>
    simp only [Bool.and_eq_true] at hq
    obtain ⟨⟨h1, h2⟩, h3, h4⟩ := hq
    obtain ⟨n1, n2, n3⟩ := few11_of h2
    obtain ⟨n4, n5⟩ := few5_of (m := 60) h3
    have n6 := plain7_len h1
    have hP6 := fit6_of (m := 60) hP h3
    have hne := right5_ne h4
    have hM : I1 (Nk l) := Ai n3 fun c hc => by have := n2 c hc; omega
    have hFC : FewC l := ⟨by omega, fun c hc => by have := n2 c hc; omega⟩
    have hSE : ShortE e := ⟨hne, by omega, fun p hp => by have := fewP_of (n5 p hp); omega⟩
    have hSF : ShortF e := ⟨by omega, fun p hp => by have := fewP_of (n5 p hp); omega⟩
    have hdoc : E4 l t = N8 (Nk l) t := by rw [fill_same n3]
    have hdocP : Ob l = Pw (Nk l) := by funext p; unfold Ob Pw; rw [fill_same n3]
    have hI5 : In5 e := ⟨by omega, fun p hp => by have := fewP_of (n5 p hp); exact ⟨by omega, by omega⟩⟩
    have hlt := Lr n2 n3 t
    have hI5f : In5 (e.map (Pw (Nk l))) := by
      refine ⟨by rw [List.length_map]; omega, fun p hp => ?_⟩
      obtain ⟨q, hq, rfl⟩ := List.mem_map.1 hp
      have h5 := fewP_of (n5 q hq)
      have h6 := Lr n2 n3 q.t
      have h7 := Lr n2 n3 q.u
      exact ⟨by show (N8 (Nk l) q.t).length ≤ _; omega, by show (N8 (Nk l) q.u).length ≤ _; omega⟩
    obtain ⟨X, hX⟩ : ∃ X, N8 (Nk l) t = X := ⟨_, rfl⟩
    obtain ⟨Y, hY⟩ : ∃ Y, e.map (Pw (Nk l)) = Y := ⟨_, rfl⟩
    have hdY : e.map (Ob l) = Y := by rw [hdocP, hY]
    rw [hX] at hdoc hlt
    rw [hY] at hI5f
    simp only [Try.f5, Option.some.injEq] at hc
    subst hc
    refine Mn 4 (of_decide_eq_true (by kernel_rfl)) ?_
    (sym =>
     simp [h1,h2,h3,h4,hdoc,hX,hY,hdY,beq_self_eq_true,szC,szP,Gt,Gv,Gx,Gu,szN,Gw,L1,L3,L2,L4,Lz,Ly,con_AssignTypes.eq_def,Bj.eq_def,Mw.eq_def,H4.eq_def,N0.eq_def,Ma.eq_def,M0.eq_def,H8.eq_def,Nj.eq_def,Mo.eq_def,H6.eq_def,Hj.eq_def,Za,Zb,Zc,Zd,Ze,Zf,Zg,Zn,Zo,Zp,Zq,Zr,Zs,Zt,Zv,Z1,Z3,Z4,Z8,Z9,Qa,Qb,Qc,Qd,Qe,Qf,Qg,Qk,Qm,Qn,Qo,Qp,Qr,Q0,Q1,Q4,Q8,Q9,Ja,Jb,Jc,Jd,Je,Jf,Jg,Jh,Ji,Jj,Jk,Jl,Jt,Jx,Jy,Jz,J5,J6,J7,J8,J9,Xa,Xb,Xc,Xd,Xe,Xf,Xg,Xh,Xi,Xj,Xk,Xl,Xm,Xn,Xo,Xp,Xq,Xr,Xs,Xt,Xu,Xv,Xw,Xx,Xy,X1,X2,X3,X4,X5,X6,X7,X8,We,Wf,Wg,Wh,Wi,Wj,Wl,Wn,Wo,Wp,Ws,Wt,Wu,Wv,Ww,Wx,Wy,Wz,W0,W3,W4,W5,W6,W7,W8,W9,Ya,Yb,Yc,Yd,Ye,Yf,Yg,Yh,Yi,Yj,Yk,Yl,Ym,Yn,Yo,Yr,Ys,Yt,Yv,Yw,Yx,Yy,Yz,Y1,Y2,Y3,Y4,Y5,Y6,Y7,Y8,Y9,Va,Vb,Vc,Vd,Ve,Vf,Vg,Vh,Vi,Vj,Vk,Vl,Vm,Vn,Vo,Vp,Vq,Vr,Vs,Vt,Vu,Vv,Vw,Vx,Vy,Vz,V0,V1,V2,V3,V4,V5,V6,V7,V8,V9,Ua,Ub,Uc,Ud,Ue,Uf,Ug,Uh,Ui,Uj,Uk,Ul,Um,Un,Uo,Up,Uq,Ur,Us,Ut,Uu,Uv,U1,U2,U3,U4,U5,U6,U7,U8,U9,Ka,Kb,Kc,Kd,Ke,Kf,Kg,Kh,Ki,Kj,Kk,Kl,Km,Kn,Ko,Kq,Kr,Ks,Kt,Ku,Kv,Kw,Kx,Ky,Kz,K0,K1,K2,K3,K4,K5,K6,K7,Gg,Gi,Gj,Gk,Gl,Gm,Gn,Gr,Nf,Md,Hc,Mc,Hb,Nc,H2]
     tactic =>
      try simp only [G6] at *
      try simp only [nc2] at *
      try simp (maxSteps := 4000000) only [h1,h2,h3,h4,hdoc,hX,hY,hdY,beq_self_eq_true,szC,szP,Gt,Gv,Gx,Gu,szN,Gw,Hi]
      repeat' (first | with_reducible assumption | with_reducible refine And.intro ?_ ?_ | intro _ | omega | (rw [Gy]; omega))
      all_goals first
        | exact hM
        | exact hFC
        | exact hSE
        | exact hSF
        | exact hI5
        | exact hI5f
        | exact hFl
        | (with_reducible refine Hu ?_; kernel_rfl)
        | omega
        | skip)
end Go.Am.Ty
set_option linter.unusedSimpArgs false
set_option linter.unusedVariables false
namespace Go.Am.Ty
abbrev Ups (l : List Ch) : Prop := l.Pairwise fun a b => a.site < b.site
theorem ups_of {l : List Ch} (h : right11 l = true) : Ups l := by
  have hr := Ez h
  rw [Ups, List.pairwise_iff_getElem]
  intro i j hi hj hij
  have := hr i j hij hj
  unfold si at this
  have e1 : l.getD i c0 = l[i] := by simp [hi]
  have e2 : l.getD j c0 = l[j] := by simp [hj]
  rwa [e1, e2] at this
theorem right11_of {l : List Ch} (hu : Ups l) (hf : ∀ c ∈ l, 1 ≤ c.site ∧ Bc c.t = true ∧ Dg c.t = true ∧ Bz c.t = true) : right11 l = true := by
  unfold right11
  rw [List.all_eq_true]
  intro k hk
  have hk := List.mem_range.1 hk
  have e1 : l.getD k c0 = l[k] := by simp [hk]
  obtain ⟨h1, h2, h3, h4⟩ := hf l[k] (List.getElem_mem hk)
  unfold okC si ty fineT
  rw [e1, h2, h3, h4, Bool.and_true, Bool.and_true, Bool.and_true, Bool.not_eq_true', Bool.or_eq_false_iff, Me]
  refine ⟨h1, ?_⟩
  cases k with
  | zero => rfl
  | succ k =>
    have e2 : l.getD (k + 1 - 1) c0 = l[k] := by simp [show k < l.length by omega]
    rw [e2, Bool.and_eq_false_iff]
    right
    rw [← Bool.not_eq_true, Lp]
    have := (List.pairwise_iff_getElem.1 hu) k (k + 1) (by omega) hk (by omega)
    omega
theorem Ot {c : Ch} : ∀ {l : List Ch}, Ups l → c ∈ l → Po l c.site = some c.t
  | [], _, h => by cases h
  | b :: l, hu, h => by
    rw [Ups, List.pairwise_cons] at hu
    unfold Po
    rcases List.mem_cons.1 h with rfl | h
    · rw [if_pos rfl]
    · have := hu.1 c h
      rw [if_neg (by omega)]
      exact Ot hu.2 h
theorem look_both {l0 l1 B : List Ch} (h0 : Ups l0) (h1 : Ups l1) (hB : Ups B) (hm : ∀ c, c ∈ B ↔ c ∈ l0 ∨ c ∈ l1) (s : Int) : Po B s = match Po l0 s with
    | some u => some u
    | none => Po l1 s := by
  cases h : Po l0 s with
  | some u =>
    obtain ⟨c, hc, rfl, rfl⟩ := L6 h
    exact Ot hB ((hm c).2 (.inl hc))
  | none =>
    show Po B s = Po l1 s
    cases hq : Po l1 s with
    | some u =>
      obtain ⟨c, hc, rfl, rfl⟩ := L6 hq
      exact Ot hB ((hm c).2 (.inr hc))
    | none =>
      cases hz : Po B s with
      | none => rfl
      | some u =>
        obtain ⟨c, hc, rfl, rfl⟩ := L6 hz
        rcases (hm c).1 hc with h2 | h2
        · rw [Ot h0 h2] at h; cases h
        · rw [Ot h1 h2] at hq; cases hq
theorem fill_static {l : List Ch} : ∀ {t : List Node}, Bz t = true → t.flatMap (To l) = t
  | [], _ => rfl
  | n :: t, h => by
    unfold Bz at h
    simp only [List.all_cons, Bool.and_eq_true, bne_iff_ne, ne_eq] at h
    have ih := fill_static (l := l) (t := t) (by unfold Bz; exact h.2)
    rw [List.flatMap_cons, ih]
    unfold To
    rw [if_neg h.1]
    rfl
theorem static_named {s : List UInt8} : ∀ {t : List Node}, Bz t = true → Bz (Eg s t) = true
  | [], _ => rfl
  | n :: t, h => by
    unfold Bz at h ⊢
    simpa [Eg] using h
theorem Aj {l : List Ch} (h : right11 l = true) (t : List Node) : N8 (Nk l) t = t.flatMap (To l) := by
  unfold N8
  congr 1
  funext n
  exact fill1_look (Ez h) n
theorem fill_twice {l0 l1 B : List Ch} (h0 : right11 l0 = true) (h1 : right11 l1 = true) (hB : right11 B = true) (hm : ∀ c, c ∈ B ↔ c ∈ l0 ∨ c ∈ l1) (t : List Node) :
    N8 (Nk l1) (N8 (Nk l0) t) = N8 (Nk B) t := by
  rw [Aj h0, Aj h1, Aj hB, List.flatMap_assoc]
  congr 1
  funext n
  have hb := look_both (ups_of h0) (ups_of h1) (ups_of hB) hm n.n
  have e0 : To l0 n = if n.kind = 0 then (match Po l0 n.n with | some u => Eg n.name u | none => [n]) else [n] := rfl
  have eB : To B n = if n.kind = 0 then (match Po B n.n with | some u => Eg n.name u | none => [n]) else [n] := rfl
  have e1 : To l1 n = if n.kind = 0 then (match Po l1 n.n with | some u => Eg n.name u | none => [n]) else [n] := rfl
  have hone : [n].flatMap (To l1) = To l1 n := by simp
  by_cases hk : n.kind = 0
  · rw [if_pos hk] at e0 eB e1
    rw [hb] at eB
    cases hl : Po l0 n.n with
    | some u =>
      rw [hl] at e0 eB
      obtain ⟨c, hc, -, rfl⟩ := L6 hl
      rw [e0, eB]
      exact fill_static (static_named (Ic h0 c hc).2.2.2)
    | none =>
      rw [hl] at e0 eB
      rw [e0, eB]
      show [n].flatMap (To l1) = _
      rw [hone, e1]
  · rw [if_neg hk] at e0 eB e1
    rw [e0, eB, hone, e1]
theorem fill_none (t : List Node) : N8 (Nk []) t = t := by
  rw [Aj (by rfl)]
  have : ∀ n, To [] n = [n] := by
    intro n
    unfold To Po
    split <;> rfl
  induction t with
  | nil => rfl
  | cons n t ih => rw [List.flatMap_cons, this, ih]; rfl
structure Mrg (l0 l1 : List Ch) (i k : Nat) (B : List Ch) : Prop where
  li : i ≤ l0.length
  lk : k ≤ l1.length
  len : B.length = i + k
  mem : ∀ c, c ∈ B ↔ c ∈ l0.take i ∨ c ∈ l1.take k
  ups : Ups B
  lo0 : ∀ c ∈ B, i < l0.length → c.site < si l0 i
  lo1 : ∀ c ∈ B, k < l1.length → c.site < si l1 k
theorem Mrg.nil {l0 l1 : List Ch} : Mrg l0 l1 0 0 [] := ⟨by omega, by omega, rfl, by simp, List.Pairwise.nil, by simp, by simp⟩
theorem si_next {l : List Ch} (h : right11 l = true) {i : Nat} (hi : i + 1 < l.length) : si l i < si l (i + 1) := Ez h i (i + 1) (by omega) hi
theorem mem_take_snoc {l : List Ch} {i : Nat} (h : i < l.length) (c : Ch) : c ∈ l.take (i + 1) ↔ c ∈ l.take i ∨ c = l.getD i c0 := by
  rw [Ex c0 h, List.mem_append, List.mem_singleton]
theorem ups_snoc {B : List Ch} {c : Ch} (hB : Ups B) (h : ∀ b ∈ B, b.site < c.site) : Ups (B ++ [c]) := by
  rw [Ups, List.pairwise_append]
  exact ⟨hB, List.pairwise_singleton _ _, fun a ha b hb => by rw [List.mem_singleton] at hb; subst hb; exact h a ha⟩
theorem Mrg.left {l0 l1 : List Ch} (h0 : right11 l0 = true) {i k : Nat} {B : List Ch} (h : Mrg l0 l1 i k B) (hi : i < l0.length) (hlt : k < l1.length → si l0 i < si l1 k) : Mrg l0 l1 (i + 1) k (B ++ [l0.getD i c0]) := by
  refine ⟨hi, h.lk, by simp [h.len]; omega, fun c => ?_, ups_snoc h.ups fun b hb => h.lo0 b hb hi, fun c hc hi2 => ?_, fun c hc hk => ?_⟩
  · rw [List.mem_append, List.mem_singleton, h.mem, mem_take_snoc hi]
    constructor
    · rintro ((h | h) | h)
      · exact .inl (.inl h)
      · exact .inr h
      · exact .inl (.inr h)
    · rintro ((h | h) | h)
      · exact .inl (.inl h)
      · exact .inr h
      · exact .inl (.inr h)
  · have hn := si_next h0 hi2
    rcases List.mem_append.1 hc with hc | hc
    · have := h.lo0 c hc hi; omega
    · rw [List.mem_singleton] at hc; subst hc; exact hn
  · rcases List.mem_append.1 hc with hc | hc
    · exact h.lo1 c hc hk
    · rw [List.mem_singleton] at hc; subst hc; exact hlt hk
theorem Mrg.right {l0 l1 : List Ch} (h1 : right11 l1 = true) {i k : Nat} {B : List Ch} (h : Mrg l0 l1 i k B) (hk : k < l1.length) (hlt : i < l0.length → si l1 k < si l0 i) : Mrg l0 l1 i (k + 1) (B ++ [l1.getD k c0]) := by
  refine ⟨h.li, hk, by simp [h.len]; omega, fun c => ?_, ups_snoc h.ups fun b hb => h.lo1 b hb hk, fun c hc hi => ?_, fun c hc hk2 => ?_⟩
  · rw [List.mem_append, List.mem_singleton, h.mem, mem_take_snoc hk, or_assoc]
  · rcases List.mem_append.1 hc with hc | hc
    · exact h.lo0 c hc hi
    · rw [List.mem_singleton] at hc; subst hc; exact hlt hi
  · have hn := si_next h1 hk2
    rcases List.mem_append.1 hc with hc | hc
    · have := h.lo1 c hc hk; omega
    · rw [List.mem_singleton] at hc; subst hc; exact hn
theorem Mrg.whole {l0 l1 B : List Ch} (h : Mrg l0 l1 l0.length l1.length B) (c : Ch) : c ∈ B ↔ c ∈ l0 ∨ c ∈ l1 := by
  have := h.mem c
  rwa [List.take_length, List.take_length] at this
theorem Mrg.right11 {l0 l1 B : List Ch} (h0 : right11 l0 = true) (h1 : Ty.right11 l1 = true) (h : Mrg l0 l1 l0.length l1.length B) : Ty.right11 B = true :=
  right11_of h.ups fun c hc => by
    rcases (h.whole c).1 hc with hc | hc
    · exact Ic h0 c hc
    · exact Ic h1 c hc
end Go.Am.Ty
set_option linter.unusedSimpArgs false
set_option linter.unusedVariables false
set_option maxHeartbeats 2000000
namespace Go.Am.Ty
open Go.Proofs
open Enc (enc dec)
structure TwoC where
  a : Sl Ch
  b : Sl Ch
instance encTwoC : Enc TwoC := ⟨fun p => .agg [.list 2 (p.a.l.map enc), .list 2 (p.b.l.map enc)], fun x => match x with
  | .agg [a, b] => ⟨⟨a.l.map dec⟩, ⟨b.l.map dec⟩⟩
  | _ => ⟨⟨[]⟩, ⟨[]⟩⟩, fun p => by
    have h : ∀ l : List Ch, (l.map (enc : Ch → D)).map dec = l := fun l => Pz
    obtain ⟨⟨a⟩, ⟨b⟩⟩ := p
    simp [D.l,h]⟩
theorem Pj {a b : List Ch} : (enc (TwoC.mk ⟨a⟩ ⟨b⟩) : D) = .agg [.list 2 (a.map enc), .list 2 (b.map enc)] := rfl
theorem fillP_twice {l0 l1 B : List Ch} (h0 : right11 l0 = true) (h1 : right11 l1 = true) (hB : right11 B = true) (hm : ∀ c, c ∈ B ↔ c ∈ l0 ∨ c ∈ l1) (e : List Part) :
    (e.map (Pw (Nk l0))).map (Pw (Nk l1)) = e.map (Pw (Nk B)) := by
  rw [List.map_map]
  congr 1
  funext p
  show Pw (Nk l1) (Pw (Nk l0) p) = _
  unfold Pw
  simp only [fill_twice h0 h1 hB hm]
theorem fillP_none (e : List Part) : e.map (Pw (Nk [])) = e := by
  have : Pw (Nk []) = id := by
    funext p
    unfold Pw
    simp only [fill_none]
    rfl
  rw [this, List.map_id]
theorem fillP_short {l : List Ch} (n2 : ∀ c ∈ l, c.t.length ≤ 30) (n3 : right11 l = true) {e : List Part} {m : Nat} (h : ∀ p ∈ e, p.t.length ≤ m ∧ p.u.length ≤ m) : ∀ p ∈ e.map (Pw (Nk l)), p.t.length ≤ 30 * m ∧ p.u.length ≤ 30 * m := by
  intro p hp
  obtain ⟨q, hq, rfl⟩ := List.mem_map.1 hp
  have h5 := h q hq
  have h6 := Lr n2 n3 q.t
  have h7 := Lr n2 n3 q.u
  exact ⟨by show (N8 (Nk l) q.t).length ≤ _; omega, by show (N8 (Nk l) q.u).length ≤ _; omega⟩
theorem in5_of {e : List Part} {m : Nat} (h1 : e.length ≤ 1000000) (hm : m ≤ 1000000) (h : ∀ p ∈ e, p.t.length ≤ m ∧ p.u.length ≤ m) : In5 e := ⟨by omega, fun p hp => by have := h p hp; exact ⟨by omega, by omega⟩⟩
theorem map_snoc {B : List Ch} {x : Ch} : (B ++ [x]).map (enc : Ch → D) = B.map enc ++ [.agg [.int .i64 x.site, .list 3 (x.t.map enc)]] := by rw [List.map_append]; rfl
def con_AssignTwice : Con := con3 (fun (t : Sl Node) (e : Sl Part) (p : TwoC) => (t.l.length ≤ 9223372036854775807 ∧ I0 t.l) ∧ InE e.l ∧ FitC p.a.l ∧ FitC p.b.l) (fun _ _ _ => true)
noncomputable def Bt : Ctx := ⟨tab, lkC [(7, Hj), (14, H8), (11, H4), (15, N0), (16, Nj), (12, H6), (17, Ma), (20, Mw), (19, M0)], 60, lkB [], [], false⟩
theorem Mj : Bt.τ = tab := rfl
theorem Ml : Bt.Γ = lkC [(7, Hj), (14, H8), (11, H4), (15, N0), (16, Nj), (12, H6), (17, Ma), (20, Mw), (19, M0)] := rfl
theorem Mk : Bt.dp = 60 := rfl
theorem Mm : Bt.Δ = lkB [] := rfl
theorem Mi : Bt.cuts = [] := rfl
theorem Mh : Bt.wr = false := rfl
set_option maxRecDepth 100000 in
theorem good_AssignTwice : M7 Try.prog (6, con_AssignTwice) := by
  refine ⟨He Try.func6 (by kernel_rfl) rfl, ?_⟩
  have K : Nh Try.prog Bt := Hl Ny Ht (by
    intro p hp
    simp only [List.mem_cons, List.not_mem_nil, or_false] at hp
    rcases hp with rfl | rfl | rfl | rfl | rfl | rfl | rfl | rfl | rfl
    · exact Ru
    · exact good_Plain7
    · exact good_Few11
    · exact good_Few5
    · exact good_Right5
    · exact good_TypeA
    · exact good_One3
    · exact good_ExprA
    · exact good_One5) (by simp)
  obtain ⟨c, hc⟩ : ∃ c, Try.f6.body = some c := ⟨_, rfl⟩
  refine Hm K Try.func6 hc [.tmp 6] rfl 167 rfl (fun cvs hpre => ?_)
  change con_AssignTwice.pre cvs at hpre
  unfold con_AssignTwice at hpre
  obtain ⟨⟨t⟩, ⟨e⟩, ⟨⟨l0⟩, ⟨l1⟩⟩, rfl, ⟨ht, hN⟩, hE, hL0, hL1⟩ := con3_pre hpre
  simp only at ht hN
  have hF0 : FitC l0 := hL0
  have hF1 : FitC l1 := hL1
  obtain ⟨he, hP⟩ : InE e := hE
  clear hpre hL0 hL1
  cases hq : ((Ss t 60 && O3 l0 20) && O3 l1 20) && (few5 e 60 && E0 e) with
  | false =>
    obtain ⟨b1, h1⟩ : ∃ b, Ss t 60 = b := ⟨_, rfl⟩
    obtain ⟨b2, h2⟩ : ∃ b, O3 l0 20 = b := ⟨_, rfl⟩
    obtain ⟨b5, h5⟩ : ∃ b, O3 l1 20 = b := ⟨_, rfl⟩
    obtain ⟨b3, h3⟩ : ∃ b, few5 e 60 = b := ⟨_, rfl⟩
    obtain ⟨b4, h4⟩ : ∃ b, E0 e = b := ⟨_, rfl⟩
    rw [h1, h2, h3, h4, h5] at hq
    have hcases : b1 = false ∨ (b1 = true ∧ b2 = false) ∨ (b1 = true ∧ b2 = true ∧ b5 = false) ∨ (b1 = true ∧ b2 = true ∧ b5 = true ∧ b3 = false) ∨ (b1 = true ∧ b2 = true ∧ b5 = true ∧ b3 = true ∧ b4 = false) := by
      revert hq
      clear h1 h2 h3 h4 h5
      cases b1 <;> cases b2 <;> cases b3 <;> cases b4 <;> cases b5 <;> simp
    clear hq
    simp only [Try.f6, Option.some.injEq] at hc
    subst hc
    refine Mn 10 (of_decide_eq_true (by kernel_rfl)) ?_
    rcases hcases with rfl | ⟨rfl, rfl⟩ | ⟨rfl, rfl, rfl⟩ | ⟨rfl, rfl, rfl, rfl⟩ | ⟨rfl, rfl, rfl, rfl, rfl⟩
    · (sym =>
       simp [h1,Pj,szC,szP,Gt,Gv,Gx,Gu,szN,Gw,Mj,Ml,Mk,Mm,Mi,Mh,con_AssignTwice.eq_def,Mw.eq_def,H4.eq_def,N0.eq_def,Ma.eq_def,M0.eq_def,H8.eq_def,Nj.eq_def,H6.eq_def,Hj.eq_def,Za,Zb,Zc,Zd,Ze,Zf,Zg,Zh,Zi,Zj,Zk,Zl,Zm,Zn,Zo,Zp,Zq,Zr,Zs,Zt,Zu,Zv,Zx,Zy,Z1,Z3,Z4,Z5,Z8,Z9,Qa,Qb,Qc,Qd,Qe,Qf,Qg,Qk,Ql,Qm,Qn,Qo,Qp,Qq,Qr,Q0,Q1,Q4,Q5,Q6,Q8,Q9,Ja,Jb,Jc,Jd,Je,Jf,Jg,Jh,Ji,Jj,Jk,Jl,Jt,Jx,Jy,Jz,J0,J1,J2,J5,J6,J7,J8,J9,Xa,Xb,Xc,Xd,Xe,Xf,Xg,Xh,Xi,Xj,Xk,Xl,Xm,Xn,Xo,Xp,Xq,Xr,Xs,Xt,Xu,Xv,Xw,Xx,Xy,X1,X2,X3,X4,X5,X6,X7,X8,We,Wf,Wg,Wh,Wi,Wj,Wl,Wm,Wn,Wo,Wp,Wq,Wr,Ws,Wt,Wu,Wv,Ww,Wx,Wy,Wz,W0,W3,W4,W5,W6,W7,W8,W9,Ya,Yb,Yc,Yd,Ye,Yf,Yg,Yh,Yi,Yj,Yk,Yl,Ym,Yn,Yo,Yr,Ys,Yt,Yu,Yv,Yw,Yx,Yy,Yz,Y1,Y2,Y3,Y4,Y5,Y6,Y7,Y8,Y9,Va,Vb,Vc,Vd,Ve,Vf,Vg,Vh,Vi,Vj,Vk,Vl,Vm,Vn,Vo,Vp,Vq,Vr,Vs,Vt,Vu,Vv,Vw,Vx,Vy,Vz,V0,V1,V2,V3,V4,V5,V6,V7,V8,V9,Ua,Ub,Uc,Ud,Ue,Uf,Ug,Uh,Ui,Uj,Uk,Ul,Um,Un,Uo,Up,Uq,Ur,Us,Ut,Uu,Uv,U1,U2,U3,U4,U5,U6,U7,U8,U9,Ka,Kb,Kc,Kd,Ke,Kf,Kg,Kh,Ki,Kj,Kk,Kl,Km,Kn,Ko,Kq,Kr,Ks,Kt,Ku,Kv,Kw,Kx,Ky,Kz,K0,K1,K2,K3,K4,K5,K6,K7,Gg,Gi,Gj,Gk,Gl,Gm,Gn,Gr,Gs,Hg,Nf,Md,Hc,Mc,Hb,Nc,tab45,H2]
       tactic =>
        try simp only [G6] at *
        try simp only [nc2] at *
        try simp (maxSteps := 4000000) only [h1,Pj,szC,szP,Gt,Gv,Gx,Gu,szN,Gw,Hi]
        repeat' (first | with_reducible assumption | with_reducible refine And.intro ?_ ?_ | intro _ | omega | (rw [Gy]; omega)))
    · (sym =>
       simp [h1,h2,Pj,szC,szP,Gt,Gv,Gx,Gu,szN,Gw,Mj,Ml,Mk,Mm,Mi,Mh,con_AssignTwice.eq_def,Mw.eq_def,H4.eq_def,N0.eq_def,Ma.eq_def,M0.eq_def,H8.eq_def,Nj.eq_def,H6.eq_def,Hj.eq_def,Za,Zb,Zc,Zd,Ze,Zf,Zg,Zh,Zi,Zj,Zk,Zl,Zm,Zn,Zo,Zp,Zq,Zr,Zs,Zt,Zu,Zv,Zx,Zy,Z1,Z3,Z4,Z5,Z8,Z9,Qa,Qb,Qc,Qd,Qe,Qf,Qg,Qk,Ql,Qm,Qn,Qo,Qp,Qq,Qr,Q0,Q1,Q4,Q5,Q6,Q8,Q9,Ja,Jb,Jc,Jd,Je,Jf,Jg,Jh,Ji,Jj,Jk,Jl,Jt,Jx,Jy,Jz,J0,J1,J2,J5,J6,J7,J8,J9,Xa,Xb,Xc,Xd,Xe,Xf,Xg,Xh,Xi,Xj,Xk,Xl,Xm,Xn,Xo,Xp,Xq,Xr,Xs,Xt,Xu,Xv,Xw,Xx,Xy,X1,X2,X3,X4,X5,X6,X7,X8,We,Wf,Wg,Wh,Wi,Wj,Wl,Wm,Wn,Wo,Wp,Wq,Wr,Ws,Wt,Wu,Wv,Ww,Wx,Wy,Wz,W0,W3,W4,W5,W6,W7,W8,W9,Ya,Yb,Yc,Yd,Ye,Yf,Yg,Yh,Yi,Yj,Yk,Yl,Ym,Yn,Yo,Yr,Ys,Yt,Yu,Yv,Yw,Yx,Yy,Yz,Y1,Y2,Y3,Y4,Y5,Y6,Y7,Y8,Y9,Va,Vb,Vc,Vd,Ve,Vf,Vg,Vh,Vi,Vj,Vk,Vl,Vm,Vn,Vo,Vp,Vq,Vr,Vs,Vt,Vu,Vv,Vw,Vx,Vy,Vz,V0,V1,V2,V3,V4,V5,V6,V7,V8,V9,Ua,Ub,Uc,Ud,Ue,Uf,Ug,Uh,Ui,Uj,Uk,Ul,Um,Un,Uo,Up,Uq,Ur,Us,Ut,Uu,Uv,U1,U2,U3,U4,U5,U6,U7,U8,U9,Ka,Kb,Kc,Kd,Ke,Kf,Kg,Kh,Ki,Kj,Kk,Kl,Km,Kn,Ko,Kq,Kr,Ks,Kt,Ku,Kv,Kw,Kx,Ky,Kz,K0,K1,K2,K3,K4,K5,K6,K7,Gg,Gi,Gj,Gk,Gl,Gm,Gn,Gr,Gs,Hg,Nf,Md,Hc,Mc,Hb,Nc,tab45,H2]
       tactic =>
        try simp only [G6] at *
        try simp only [nc2] at *
        try simp (maxSteps := 4000000) only [h1,h2,Pj,szC,szP,Gt,Gv,Gx,Gu,szN,Gw,Hi]
        repeat' (first | with_reducible assumption | with_reducible refine And.intro ?_ ?_ | intro _ | omega | (rw [Gy]; omega)))
    · (sym =>
       simp [h1,h2,h5,Pj,szC,szP,Gt,Gv,Gx,Gu,szN,Gw,Mj,Ml,Mk,Mm,Mi,Mh,con_AssignTwice.eq_def,Mw.eq_def,H4.eq_def,N0.eq_def,Ma.eq_def,M0.eq_def,H8.eq_def,Nj.eq_def,H6.eq_def,Hj.eq_def,Za,Zb,Zc,Zd,Ze,Zf,Zg,Zh,Zi,Zj,Zk,Zl,Zm,Zn,Zo,Zp,Zq,Zr,Zs,Zt,Zu,Zv,Zx,Zy,Z1,Z3,Z4,Z5,Z8,Z9,Qa,Qb,Qc,Qd,Qe,Qf,Qg,Qk,Ql,Qm,Qn,Qo,Qp,Qq,Qr,Q0,Q1,Q4,Q5,Q6,Q8,Q9,Ja,Jb,Jc,Jd,Je,Jf,Jg,Jh,Ji,Jj,Jk,Jl,Jt,Jx,Jy,Jz,J0,J1,J2,J5,J6,J7,J8,J9,Xa,Xb,Xc,Xd,Xe,Xf,Xg,Xh,Xi,Xj,Xk,Xl,Xm,Xn,Xo,Xp,Xq,Xr,Xs,Xt,Xu,Xv,Xw,Xx,Xy,X1,X2,X3,X4,X5,X6,X7,X8,We,Wf,Wg,Wh,Wi,Wj,Wl,Wm,Wn,Wo,Wp,Wq,Wr,Ws,Wt,Wu,Wv,Ww,Wx,Wy,Wz,W0,W3,W4,W5,W6,W7,W8,W9,Ya,Yb,Yc,Yd,Ye,Yf,Yg,Yh,Yi,Yj,Yk,Yl,Ym,Yn,Yo,Yr,Ys,Yt,Yu,Yv,Yw,Yx,Yy,Yz,Y1,Y2,Y3,Y4,Y5,Y6,Y7,Y8,Y9,Va,Vb,Vc,Vd,Ve,Vf,Vg,Vh,Vi,Vj,Vk,Vl,Vm,Vn,Vo,Vp,Vq,Vr,Vs,Vt,Vu,Vv,Vw,Vx,Vy,Vz,V0,V1,V2,V3,V4,V5,V6,V7,V8,V9,Ua,Ub,Uc,Ud,Ue,Uf,Ug,Uh,Ui,Uj,Uk,Ul,Um,Un,Uo,Up,Uq,Ur,Us,Ut,Uu,Uv,U1,U2,U3,U4,U5,U6,U7,U8,U9,Ka,Kb,Kc,Kd,Ke,Kf,Kg,Kh,Ki,Kj,Kk,Kl,Km,Kn,Ko,Kq,Kr,Ks,Kt,Ku,Kv,Kw,Kx,Ky,Kz,K0,K1,K2,K3,K4,K5,K6,K7,Gg,Gi,Gj,Gk,Gl,Gm,Gn,Gr,Gs,Hg,Nf,Md,Hc,Mc,Hb,Nc,tab45,H2]
       tactic =>
        try simp only [G6] at *
        try simp only [nc2] at *
        try simp (maxSteps := 4000000) only [h1,h2,h5,Pj,szC,szP,Gt,Gv,Gx,Gu,szN,Gw,Hi]
        repeat' (first | with_reducible assumption | with_reducible refine And.intro ?_ ?_ | intro _ | omega | (rw [Gy]; omega)))
    · (sym =>
       simp [h1,h2,h5,h3,Pj,szC,szP,Gt,Gv,Gx,Gu,szN,Gw,Mj,Ml,Mk,Mm,Mi,Mh,con_AssignTwice.eq_def,Mw.eq_def,H4.eq_def,N0.eq_def,Ma.eq_def,M0.eq_def,H8.eq_def,Nj.eq_def,H6.eq_def,Hj.eq_def,Za,Zb,Zc,Zd,Ze,Zf,Zg,Zh,Zi,Zj,Zk,Zl,Zm,Zn,Zo,Zp,Zq,Zr,Zs,Zt,Zu,Zv,Zx,Zy,Z1,Z3,Z4,Z5,Z8,Z9,Qa,Qb,Qc,Qd,Qe,Qf,Qg,Qk,Ql,Qm,Qn,Qo,Qp,Qq,Qr,Q0,Q1,Q4,Q5,Q6,Q8,Q9,Ja,Jb,Jc,Jd,Je,Jf,Jg,Jh,Ji,Jj,Jk,Jl,Jt,Jx,Jy,Jz,J0,J1,J2,J5,J6,J7,J8,J9,Xa,Xb,Xc,Xd,Xe,Xf,Xg,Xh,Xi,Xj,Xk,Xl,Xm,Xn,Xo,Xp,Xq,Xr,Xs,Xt,Xu,Xv,Xw,Xx,Xy,X1,X2,X3,X4,X5,X6,X7,X8,We,Wf,Wg,Wh,Wi,Wj,Wl,Wm,Wn,Wo,Wp,Wq,Wr,Ws,Wt,Wu,Wv,Ww,Wx,Wy,Wz,W0,W3,W4,W5,W6,W7,W8,W9,Ya,Yb,Yc,Yd,Ye,Yf,Yg,Yh,Yi,Yj,Yk,Yl,Ym,Yn,Yo,Yr,Ys,Yt,Yu,Yv,Yw,Yx,Yy,Yz,Y1,Y2,Y3,Y4,Y5,Y6,Y7,Y8,Y9,Va,Vb,Vc,Vd,Ve,Vf,Vg,Vh,Vi,Vj,Vk,Vl,Vm,Vn,Vo,Vp,Vq,Vr,Vs,Vt,Vu,Vv,Vw,Vx,Vy,Vz,V0,V1,V2,V3,V4,V5,V6,V7,V8,V9,Ua,Ub,Uc,Ud,Ue,Uf,Ug,Uh,Ui,Uj,Uk,Ul,Um,Un,Uo,Up,Uq,Ur,Us,Ut,Uu,Uv,U1,U2,U3,U4,U5,U6,U7,U8,U9,Ka,Kb,Kc,Kd,Ke,Kf,Kg,Kh,Ki,Kj,Kk,Kl,Km,Kn,Ko,Kq,Kr,Ks,Kt,Ku,Kv,Kw,Kx,Ky,Kz,K0,K1,K2,K3,K4,K5,K6,K7,Gg,Gi,Gj,Gk,Gl,Gm,Gn,Gr,Gs,Hg,Nf,Md,Hc,Mc,Hb,Nc,tab45,H2]
       tactic =>
        try simp only [G6] at *
        try simp only [nc2] at *
        try simp (maxSteps := 4000000) only [h1,h2,h5,h3,Pj,szC,szP,Gt,Gv,Gx,Gu,szN,Gw,Hi]
        repeat' (first | with_reducible assumption | with_reducible refine And.intro ?_ ?_ | intro _ | omega | (rw [Gy]; omega)))
    · have hP6 := fit6_of (m := 60) hP h3
      (sym =>
       simp [h1,h2,h5,h3,h4,Pj,szC,szP,Gt,Gv,Gx,Gu,szN,Gw,Mj,Ml,Mk,Mm,Mi,Mh,con_AssignTwice.eq_def,Mw.eq_def,H4.eq_def,N0.eq_def,Ma.eq_def,M0.eq_def,H8.eq_def,Nj.eq_def,H6.eq_def,Hj.eq_def,Za,Zb,Zc,Zd,Ze,Zf,Zg,Zh,Zi,Zj,Zk,Zl,Zm,Zn,Zo,Zp,Zq,Zr,Zs,Zt,Zu,Zv,Zx,Zy,Z1,Z3,Z4,Z5,Z8,Z9,Qa,Qb,Qc,Qd,Qe,Qf,Qg,Qk,Ql,Qm,Qn,Qo,Qp,Qq,Qr,Q0,Q1,Q4,Q5,Q6,Q8,Q9,Ja,Jb,Jc,Jd,Je,Jf,Jg,Jh,Ji,Jj,Jk,Jl,Jt,Jx,Jy,Jz,J0,J1,J2,J5,J6,J7,J8,J9,Xa,Xb,Xc,Xd,Xe,Xf,Xg,Xh,Xi,Xj,Xk,Xl,Xm,Xn,Xo,Xp,Xq,Xr,Xs,Xt,Xu,Xv,Xw,Xx,Xy,X1,X2,X3,X4,X5,X6,X7,X8,We,Wf,Wg,Wh,Wi,Wj,Wl,Wm,Wn,Wo,Wp,Wq,Wr,Ws,Wt,Wu,Wv,Ww,Wx,Wy,Wz,W0,W3,W4,W5,W6,W7,W8,W9,Ya,Yb,Yc,Yd,Ye,Yf,Yg,Yh,Yi,Yj,Yk,Yl,Ym,Yn,Yo,Yr,Ys,Yt,Yu,Yv,Yw,Yx,Yy,Yz,Y1,Y2,Y3,Y4,Y5,Y6,Y7,Y8,Y9,Va,Vb,Vc,Vd,Ve,Vf,Vg,Vh,Vi,Vj,Vk,Vl,Vm,Vn,Vo,Vp,Vq,Vr,Vs,Vt,Vu,Vv,Vw,Vx,Vy,Vz,V0,V1,V2,V3,V4,V5,V6,V7,V8,V9,Ua,Ub,Uc,Ud,Ue,Uf,Ug,Uh,Ui,Uj,Uk,Ul,Um,Un,Uo,Up,Uq,Ur,Us,Ut,Uu,Uv,U1,U2,U3,U4,U5,U6,U7,U8,U9,Ka,Kb,Kc,Kd,Ke,Kf,Kg,Kh,Ki,Kj,Kk,Kl,Km,Kn,Ko,Kq,Kr,Ks,Kt,Ku,Kv,Kw,Kx,Ky,Kz,K0,K1,K2,K3,K4,K5,K6,K7,Gg,Gi,Gj,Gk,Gl,Gm,Gn,Gr,Gs,Hg,Nf,Md,Hc,Mc,Hb,Nc,tab45,H2]
       tactic =>
        try simp only [G6] at *
        try simp only [nc2] at *
        try simp (maxSteps := 4000000) only [h1,h2,h5,h3,h4,Pj,szC,szP,Gt,Gv,Gx,Gu,szN,Gw,Hi]
        repeat' (first | with_reducible assumption | with_reducible refine And.intro ?_ ?_ | intro _ | omega | (rw [Gy]; omega)))
  | true =>
    simp only [Bool.and_eq_true] at hq
    obtain ⟨⟨⟨h1, h2⟩, h5⟩, h3, h4⟩ := hq
    obtain ⟨n1, n2, n3⟩ := few11_of h2
    obtain ⟨m1, m2, m3⟩ := few11_of h5
    obtain ⟨n4, n5⟩ := few5_of (m := 60) h3
    have n6 := plain7_len h1
    have hP6 := fit6_of (m := 60) hP h3
    have hne := right5_ne h4
    simp only [Try.f6, Option.some.injEq] at hc
    subst hc
    refine Mn 10 (of_decide_eq_true (by kernel_rfl)) ?_
    (sym =>
     simp [h1,h2,h5,h3,h4,Pj,szC,szP,Gt,Gv,Gx,Gu,szN,Gw,Mj,Ml,Mk,Mm,Mi,Mh,con_AssignTwice.eq_def,Mw.eq_def,H4.eq_def,N0.eq_def,Ma.eq_def,M0.eq_def,H8.eq_def,Nj.eq_def,H6.eq_def,Hj.eq_def,Za,Zb,Zc,Zd,Ze,Zf,Zg,Zh,Zi,Zj,Zk,Zl,Zm,Zn,Zo,Zp,Zq,Zr,Zs,Zt,Zu,Zv,Zx,Zy,Z1,Z3,Z4,Z5,Z8,Z9,Qa,Qb,Qc,Qd,Qe,Qf,Qg,Qk,Ql,Qm,Qn,Qo,Qp,Qq,Qr,Q0,Q1,Q4,Q5,Q6,Q8,Q9,Ja,Jb,Jc,Jd,Je,Jf,Jg,Jh,Ji,Jj,Jk,Jl,Jt,Jx,Jy,Jz,J0,J1,J2,J5,J6,J7,J8,J9,Xa,Xb,Xc,Xd,Xe,Xf,Xg,Xh,Xi,Xj,Xk,Xl,Xm,Xn,Xo,Xp,Xq,Xr,Xs,Xt,Xu,Xv,Xw,Xx,Xy,X1,X2,X3,X4,X5,X6,X7,X8,We,Wf,Wg,Wh,Wi,Wj,Wl,Wm,Wn,Wo,Wp,Wq,Wr,Ws,Wt,Wu,Wv,Ww,Wx,Wy,Wz,W0,W3,W4,W5,W6,W7,W8,W9,Ya,Yb,Yc,Yd,Ye,Yf,Yg,Yh,Yi,Yj,Yk,Yl,Ym,Yn,Yo,Yr,Ys,Yt,Yu,Yv,Yw,Yx,Yy,Yz,Y1,Y2,Y3,Y4,Y5,Y6,Y7,Y8,Y9,Va,Vb,Vc,Vd,Ve,Vf,Vg,Vh,Vi,Vj,Vk,Vl,Vm,Vn,Vo,Vp,Vq,Vr,Vs,Vt,Vu,Vv,Vw,Vx,Vy,Vz,V0,V1,V2,V3,V4,V5,V6,V7,V8,V9,Ua,Ub,Uc,Ud,Ue,Uf,Ug,Uh,Ui,Uj,Uk,Ul,Um,Un,Uo,Up,Uq,Ur,Us,Ut,Uu,Uv,U1,U2,U3,U4,U5,U6,U7,U8,U9,Ka,Kb,Kc,Kd,Ke,Kf,Kg,Kh,Ki,Kj,Kk,Kl,Km,Kn,Ko,Kq,Kr,Ks,Kt,Ku,Kv,Kw,Kx,Ky,Kz,K0,K1,K2,K3,K4,K5,K6,K7,Gg,Gi,Gj,Gk,Gl,Gm,Gn,Gr,Gs,Hg,Nf,Md,Hc,Mc,Hb,Nc,tab45,H2]
     tactic =>
      try simp only [G6] at *
      try simp only [nc2] at *
      try simp (maxSteps := 4000000) only [h1,h2,h5,h3,h4,Pj,szC,szP,Gt,Gv,Gx,Gu,szN,Gw,Hi]
      repeat' (first | with_reducible assumption | with_reducible refine And.intro ?_ ?_ | intro _ | omega | (rw [Gy]; omega))
      refine Ho [6, 39, 40, 41, 42, 43, 44, 45, 46, 47, 48, 49, 50, 51, 52, 53, 54, 55, 56, 57, 58, 59, 60, 61, 62, 63, 64, 65, 66, 67, 68, 69, 70, 71, 72, 73, 74, 75, 76, 77, 78, 79, 80, 81, 82, 83, 84, 85, 86, 87, 88, 89, 90, 91, 92, 93, 94, 95, 96, 97, 98, 99, 100, 101, 102, 103, 104, 105, 106, 107, 108, 109, 110, 111, 112, 113, 114, 115, 116, 117, 118, 119, 120, 121, 122, 123, 124, 125] (fun p : Nat × Nat × List Ch => [(7, .sl 38 (p.2.2.map (enc : Ch → D)).length), (8, .d (.int .i64 p.1)), (9, .d (.int .i64 p.2.1))]) (fun p : Nat × Nat × List Ch => [(38, .row 2 (p.2.2.map enc) 0)]) (fun p : Nat × Nat × List Ch => Mrg l0 l1 p.1 p.2.1 p.2.2) (fun p : Nat × Nat × List Ch => (l0.length - p.1) + (l1.length - p.2.1)) (0, 0, []) ?_ ?_ ?_
      · exact Mrg.nil
      · ((try simp only [G3, Ha, G5, Hf, upd, Hh, Hn, Na, Nat.reduceDiv, Nat.reduceMod, Nat.reduceMul, Nat.reduceAdd, Nat.reduceEqDiff, List.set_cons_zero, List.set_cons_succ, if_true, if_false, reduceIte]); (first | refine Wk.of_fl ?_ | skip); simp only [Wk, wkK, Nd, wkT, wk1, AV.kept, keptAll, wkO, lk, G4, and_true, true_and, and_self, Nat.reduceEqDiff, Nat.reduceLeDiff, if_true, if_false, reduceIte, reduceCtorEq, Option.isSome, false_implies]; try simp [Wk, wkK, wkT, wk1, AV.kept, keptAll, wkO, lk, G4])
      rintro ⟨i, k, B⟩ hM
      simp only at hM
      have hMl := hM.len
      have hMi := hM.li
      have hMk := hM.lk
      have hBl : (B.map (enc : Ch → D)).length = B.length := List.length_map ..
      rcases Hq i l0.length with ⟨hi, hib⟩ | ⟨hi, hib⟩
      · have q1 := H7 c0 hi
        have hleft := hM.left n3 hi
        have hs0 : si l0 i = (l0.getD i c0).site := rfl
        rw [hs0] at hleft
        rcases Hq k l1.length with ⟨hk, hkb⟩ | ⟨hk, hkb⟩
        · have q2 := H7 c0 hk
          have hright := hM.right m3 hk
          have hs1 : si l1 k = (l1.getD k c0).site := rfl
          rw [hs1] at hleft hright
          rw [hs0] at hright
          obtain ⟨x, hx⟩ : ∃ x, l0.getD i c0 = x := ⟨_, rfl⟩
          obtain ⟨y, hy⟩ : ∃ y, l1.getD k c0 = y := ⟨_, rfl⟩
          rw [hx] at q1 hleft hright
          rw [hy] at q2 hright hleft
          cases hxy : (x.site == y.site) with
          | true =>
            (sym =>
             simp [hib,hkb,q1,q2,hxy,Pj,My,szC,szP,Gt,Gv,Gx,Gu,szN,Gw,Mj,Ml,Mk,Mm,Mi,Mh,con_AssignTwice.eq_def,Mw.eq_def,H4.eq_def,N0.eq_def,Ma.eq_def,M0.eq_def,H8.eq_def,Nj.eq_def,H6.eq_def,Hj.eq_def,Za,Zb,Zc,Zd,Ze,Zf,Zg,Zh,Zi,Zj,Zk,Zl,Zm,Zn,Zo,Zp,Zq,Zr,Zs,Zt,Zu,Zv,Zx,Zy,Z1,Z3,Z4,Z5,Z8,Z9,Qa,Qb,Qc,Qd,Qe,Qf,Qg,Qk,Ql,Qm,Qn,Qo,Qp,Qq,Qr,Q0,Q1,Q4,Q5,Q6,Q8,Q9,Ja,Jb,Jc,Jd,Je,Jf,Jg,Jh,Ji,Jj,Jk,Jl,Jt,Jx,Jy,Jz,J0,J1,J2,J5,J6,J7,J8,J9,Xa,Xb,Xc,Xd,Xe,Xf,Xg,Xh,Xi,Xj,Xk,Xl,Xm,Xn,Xo,Xp,Xq,Xr,Xs,Xt,Xu,Xv,Xw,Xx,Xy,X1,X2,X3,X4,X5,X6,X7,X8,We,Wf,Wg,Wh,Wi,Wj,Wl,Wm,Wn,Wo,Wp,Wq,Wr,Ws,Wt,Wu,Wv,Ww,Wx,Wy,Wz,W0,W3,W4,W5,W6,W7,W8,W9,Ya,Yb,Yc,Yd,Ye,Yf,Yg,Yh,Yi,Yj,Yk,Yl,Ym,Yn,Yo,Yr,Ys,Yt,Yu,Yv,Yw,Yx,Yy,Yz,Y1,Y2,Y3,Y4,Y5,Y6,Y7,Y8,Y9,Va,Vb,Vc,Vd,Ve,Vf,Vg,Vh,Vi,Vj,Vk,Vl,Vm,Vn,Vo,Vp,Vq,Vr,Vs,Vt,Vu,Vv,Vw,Vx,Vy,Vz,V0,V1,V2,V3,V4,V5,V6,V7,V8,V9,Ua,Ub,Uc,Ud,Ue,Uf,Ug,Uh,Ui,Uj,Uk,Ul,Um,Un,Uo,Up,Uq,Ur,Us,Ut,Uu,Uv,U1,U2,U3,U4,U5,U6,U7,U8,U9,Ka,Kb,Kc,Kd,Ke,Kf,Kg,Kh,Ki,Kj,Kk,Kl,Km,Kn,Ko,Kq,Kr,Ks,Kt,Ku,Kv,Kw,Kx,Ky,Kz,K0,K1,K2,K3,K4,K5,K6,K7,Gg,Gi,Gj,Gk,Gl,Gm,Gn,Gr,Gs,Hg,Nf,Md,Hc,Mc,Hb,Nc,tab45,H2]
             tactic =>
              try simp only [G6] at *
              try simp only [nc2] at *
              try simp (maxSteps := 4000000) only [hib,hkb,q1,q2,hxy,Pj,My,szC,szP,Gt,Gv,Gx,Gu,szN,Gw,Hi]
              repeat' (first | with_reducible assumption | with_reducible refine And.intro ?_ ?_ | intro _ | omega | (rw [Gy]; omega))
              all_goals first
                | (with_reducible refine Hu ?_; kernel_rfl)
                | omega
                | skip)
          | false =>
            rw [beq_eq_false_iff_ne] at hxy
            rcases ltB_casesI x.site y.site with ⟨hl, hlb⟩ | ⟨hl, hlb⟩
            · have hm2 := hleft fun _ => hl
              have hxy2 : (x.site == y.site) = false := beq_eq_false_iff_ne.2 hxy
              have hS := map_snoc (B := B) (x := x)
              have hge : leB (l1.length : Int) (k : Int) = false := by rw [← Bool.not_eq_true, Lp]; omega
              (sym =>
               simp [hib,hkb,hge,q1,q2,hxy2,hlb,Pj,My,szC,szP,Gt,Gv,Gx,Gu,szN,Gw,Mj,Ml,Mk,Mm,Mi,Mh,con_AssignTwice.eq_def,Mw.eq_def,H4.eq_def,N0.eq_def,Ma.eq_def,M0.eq_def,H8.eq_def,Nj.eq_def,H6.eq_def,Hj.eq_def,Za,Zb,Zc,Zd,Ze,Zf,Zg,Zh,Zi,Zj,Zk,Zl,Zm,Zn,Zo,Zp,Zq,Zr,Zs,Zt,Zu,Zv,Zx,Zy,Z1,Z3,Z4,Z5,Z8,Z9,Qa,Qb,Qc,Qd,Qe,Qf,Qg,Qk,Ql,Qm,Qn,Qo,Qp,Qq,Qr,Q0,Q1,Q4,Q5,Q6,Q8,Q9,Ja,Jb,Jc,Jd,Je,Jf,Jg,Jh,Ji,Jj,Jk,Jl,Jt,Jx,Jy,Jz,J0,J1,J2,J5,J6,J7,J8,J9,Xa,Xb,Xc,Xd,Xe,Xf,Xg,Xh,Xi,Xj,Xk,Xl,Xm,Xn,Xo,Xp,Xq,Xr,Xs,Xt,Xu,Xv,Xw,Xx,Xy,X1,X2,X3,X4,X5,X6,X7,X8,We,Wf,Wg,Wh,Wi,Wj,Wl,Wm,Wn,Wo,Wp,Wq,Wr,Ws,Wt,Wu,Wv,Ww,Wx,Wy,Wz,W0,W3,W4,W5,W6,W7,W8,W9,Ya,Yb,Yc,Yd,Ye,Yf,Yg,Yh,Yi,Yj,Yk,Yl,Ym,Yn,Yo,Yr,Ys,Yt,Yu,Yv,Yw,Yx,Yy,Yz,Y1,Y2,Y3,Y4,Y5,Y6,Y7,Y8,Y9,Va,Vb,Vc,Vd,Ve,Vf,Vg,Vh,Vi,Vj,Vk,Vl,Vm,Vn,Vo,Vp,Vq,Vr,Vs,Vt,Vu,Vv,Vw,Vx,Vy,Vz,V0,V1,V2,V3,V4,V5,V6,V7,V8,V9,Ua,Ub,Uc,Ud,Ue,Uf,Ug,Uh,Ui,Uj,Uk,Ul,Um,Un,Uo,Up,Uq,Ur,Us,Ut,Uu,Uv,U1,U2,U3,U4,U5,U6,U7,U8,U9,Ka,Kb,Kc,Kd,Ke,Kf,Kg,Kh,Ki,Kj,Kk,Kl,Km,Kn,Ko,Kq,Kr,Ks,Kt,Ku,Kv,Kw,Kx,Ky,Kz,K0,K1,K2,K3,K4,K5,K6,K7,Gg,Gi,Gj,Gk,Gl,Gm,Gn,Gr,Gs,Hg,Nf,Md,Hc,Mc,Hb,Nc,tab45,H2]
               tactic =>
                try simp only [G6] at *
                try simp only [nc2] at *
                try simp (maxSteps := 4000000) only [hib,hkb,hge,q1,q2,hxy2,hlb,Pj,My,szC,szP,Gt,Gv,Gx,Gu,szN,Gw,Hi]
                repeat' (first | with_reducible assumption | with_reducible refine And.intro ?_ ?_ | intro _ | omega | (rw [Gy]; omega))
                all_goals first
                  | (with_reducible refine Hu ?_; kernel_rfl)
                  | omega
                  | exact ⟨(i + 1, k, B ++ [x]), by rw [hS]; ((try simp only [G3, Ha, G5, Hf, upd, Hh, Hn, Na, Nat.reduceDiv, Nat.reduceMod, Nat.reduceMul, Nat.reduceAdd, Nat.reduceEqDiff, List.set_cons_zero, List.set_cons_succ, if_true, if_false, reduceIte]); (first | refine Wk.of_fl ?_ | skip); simp only [Wk, wkK, Nd, wkT, wk1, AV.kept, keptAll, wkO, lk, G4, and_true, true_and, and_self, Nat.reduceEqDiff, Nat.reduceLeDiff, if_true, if_false, reduceIte, reduceCtorEq, Option.isSome, false_implies]; try simp [Wk, wkK, wkT, wk1, AV.kept, keptAll, wkO, lk, G4]), hm2, by simp only; omega⟩
                  | skip)
            · have hm2 := hright fun _ => by omega
              have hxy2 : (x.site == y.site) = false := beq_eq_false_iff_ne.2 hxy
              have hS := map_snoc (B := B) (x := y)
              have hge : leB (l1.length : Int) (k : Int) = false := by rw [← Bool.not_eq_true, Lp]; omega
              (sym =>
               simp [hib,hkb,hge,q1,q2,hxy2,hlb,Pj,My,szC,szP,Gt,Gv,Gx,Gu,szN,Gw,Mj,Ml,Mk,Mm,Mi,Mh,con_AssignTwice.eq_def,Mw.eq_def,H4.eq_def,N0.eq_def,Ma.eq_def,M0.eq_def,H8.eq_def,Nj.eq_def,H6.eq_def,Hj.eq_def,Za,Zb,Zc,Zd,Ze,Zf,Zg,Zh,Zi,Zj,Zk,Zl,Zm,Zn,Zo,Zp,Zq,Zr,Zs,Zt,Zu,Zv,Zx,Zy,Z1,Z3,Z4,Z5,Z8,Z9,Qa,Qb,Qc,Qd,Qe,Qf,Qg,Qk,Ql,Qm,Qn,Qo,Qp,Qq,Qr,Q0,Q1,Q4,Q5,Q6,Q8,Q9,Ja,Jb,Jc,Jd,Je,Jf,Jg,Jh,Ji,Jj,Jk,Jl,Jt,Jx,Jy,Jz,J0,J1,J2,J5,J6,J7,J8,J9,Xa,Xb,Xc,Xd,Xe,Xf,Xg,Xh,Xi,Xj,Xk,Xl,Xm,Xn,Xo,Xp,Xq,Xr,Xs,Xt,Xu,Xv,Xw,Xx,Xy,X1,X2,X3,X4,X5,X6,X7,X8,We,Wf,Wg,Wh,Wi,Wj,Wl,Wm,Wn,Wo,Wp,Wq,Wr,Ws,Wt,Wu,Wv,Ww,Wx,Wy,Wz,W0,W3,W4,W5,W6,W7,W8,W9,Ya,Yb,Yc,Yd,Ye,Yf,Yg,Yh,Yi,Yj,Yk,Yl,Ym,Yn,Yo,Yr,Ys,Yt,Yu,Yv,Yw,Yx,Yy,Yz,Y1,Y2,Y3,Y4,Y5,Y6,Y7,Y8,Y9,Va,Vb,Vc,Vd,Ve,Vf,Vg,Vh,Vi,Vj,Vk,Vl,Vm,Vn,Vo,Vp,Vq,Vr,Vs,Vt,Vu,Vv,Vw,Vx,Vy,Vz,V0,V1,V2,V3,V4,V5,V6,V7,V8,V9,Ua,Ub,Uc,Ud,Ue,Uf,Ug,Uh,Ui,Uj,Uk,Ul,Um,Un,Uo,Up,Uq,Ur,Us,Ut,Uu,Uv,U1,U2,U3,U4,U5,U6,U7,U8,U9,Ka,Kb,Kc,Kd,Ke,Kf,Kg,Kh,Ki,Kj,Kk,Kl,Km,Kn,Ko,Kq,Kr,Ks,Kt,Ku,Kv,Kw,Kx,Ky,Kz,K0,K1,K2,K3,K4,K5,K6,K7,Gg,Gi,Gj,Gk,Gl,Gm,Gn,Gr,Gs,Hg,Nf,Md,Hc,Mc,Hb,Nc,tab45,H2]
               tactic =>
                try simp only [G6] at *
                try simp only [nc2] at *
                try simp (maxSteps := 4000000) only [hib,hkb,hge,q1,q2,hxy2,hlb,Pj,My,szC,szP,Gt,Gv,Gx,Gu,szN,Gw,Hi]
                repeat' (first | with_reducible assumption | with_reducible refine And.intro ?_ ?_ | intro _ | omega | (rw [Gy]; omega))
                all_goals first
                  | (with_reducible refine Hu ?_; kernel_rfl)
                  | omega
                  | exact ⟨(i, k + 1, B ++ [y]), by rw [hS]; ((try simp only [G3, Ha, G5, Hf, upd, Hh, Hn, Na, Nat.reduceDiv, Nat.reduceMod, Nat.reduceMul, Nat.reduceAdd, Nat.reduceEqDiff, List.set_cons_zero, List.set_cons_succ, if_true, if_false, reduceIte]); (first | refine Wk.of_fl ?_ | skip); simp only [Wk, wkK, Nd, wkT, wk1, AV.kept, keptAll, wkO, lk, G4, and_true, true_and, and_self, Nat.reduceEqDiff, Nat.reduceLeDiff, if_true, if_false, reduceIte, reduceCtorEq, Option.isSome, false_implies]; try simp [Wk, wkK, wkT, wk1, AV.kept, keptAll, wkO, lk, G4]), hm2, by simp only; omega⟩
                  | skip)
        · obtain ⟨x, hx⟩ : ∃ x, l0.getD i c0 = x := ⟨_, rfl⟩
          rw [hx] at q1 hleft
          have hm2 := hleft fun h => absurd h (by omega)
          have hS := map_snoc (B := B) (x := x)
          have hge : leB (l1.length : Int) (k : Int) = true := by rw [Lp]; omega
          (sym =>
           simp [hib,hkb,hge,q1,Pj,My,szC,szP,Gt,Gv,Gx,Gu,szN,Gw,Mj,Ml,Mk,Mm,Mi,Mh,con_AssignTwice.eq_def,Mw.eq_def,H4.eq_def,N0.eq_def,Ma.eq_def,M0.eq_def,H8.eq_def,Nj.eq_def,H6.eq_def,Hj.eq_def,Za,Zb,Zc,Zd,Ze,Zf,Zg,Zh,Zi,Zj,Zk,Zl,Zm,Zn,Zo,Zp,Zq,Zr,Zs,Zt,Zu,Zv,Zx,Zy,Z1,Z3,Z4,Z5,Z8,Z9,Qa,Qb,Qc,Qd,Qe,Qf,Qg,Qk,Ql,Qm,Qn,Qo,Qp,Qq,Qr,Q0,Q1,Q4,Q5,Q6,Q8,Q9,Ja,Jb,Jc,Jd,Je,Jf,Jg,Jh,Ji,Jj,Jk,Jl,Jt,Jx,Jy,Jz,J0,J1,J2,J5,J6,J7,J8,J9,Xa,Xb,Xc,Xd,Xe,Xf,Xg,Xh,Xi,Xj,Xk,Xl,Xm,Xn,Xo,Xp,Xq,Xr,Xs,Xt,Xu,Xv,Xw,Xx,Xy,X1,X2,X3,X4,X5,X6,X7,X8,We,Wf,Wg,Wh,Wi,Wj,Wl,Wm,Wn,Wo,Wp,Wq,Wr,Ws,Wt,Wu,Wv,Ww,Wx,Wy,Wz,W0,W3,W4,W5,W6,W7,W8,W9,Ya,Yb,Yc,Yd,Ye,Yf,Yg,Yh,Yi,Yj,Yk,Yl,Ym,Yn,Yo,Yr,Ys,Yt,Yu,Yv,Yw,Yx,Yy,Yz,Y1,Y2,Y3,Y4,Y5,Y6,Y7,Y8,Y9,Va,Vb,Vc,Vd,Ve,Vf,Vg,Vh,Vi,Vj,Vk,Vl,Vm,Vn,Vo,Vp,Vq,Vr,Vs,Vt,Vu,Vv,Vw,Vx,Vy,Vz,V0,V1,V2,V3,V4,V5,V6,V7,V8,V9,Ua,Ub,Uc,Ud,Ue,Uf,Ug,Uh,Ui,Uj,Uk,Ul,Um,Un,Uo,Up,Uq,Ur,Us,Ut,Uu,Uv,U1,U2,U3,U4,U5,U6,U7,U8,U9,Ka,Kb,Kc,Kd,Ke,Kf,Kg,Kh,Ki,Kj,Kk,Kl,Km,Kn,Ko,Kq,Kr,Ks,Kt,Ku,Kv,Kw,Kx,Ky,Kz,K0,K1,K2,K3,K4,K5,K6,K7,Gg,Gi,Gj,Gk,Gl,Gm,Gn,Gr,Gs,Hg,Nf,Md,Hc,Mc,Hb,Nc,tab45,H2]
           tactic =>
            try simp only [G6] at *
            try simp only [nc2] at *
            try simp (maxSteps := 4000000) only [hib,hkb,hge,q1,Pj,My,szC,szP,Gt,Gv,Gx,Gu,szN,Gw,Hi]
            repeat' (first | with_reducible assumption | with_reducible refine And.intro ?_ ?_ | intro _ | omega | (rw [Gy]; omega))
            all_goals first
              | (with_reducible refine Hu ?_; kernel_rfl)
              | omega
              | exact ⟨(i + 1, k, B ++ [x]), by rw [hS]; ((try simp only [G3, Ha, G5, Hf, upd, Hh, Hn, Na, Nat.reduceDiv, Nat.reduceMod, Nat.reduceMul, Nat.reduceAdd, Nat.reduceEqDiff, List.set_cons_zero, List.set_cons_succ, if_true, if_false, reduceIte]); (first | refine Wk.of_fl ?_ | skip); simp only [Wk, wkK, Nd, wkT, wk1, AV.kept, keptAll, wkO, lk, G4, and_true, true_and, and_self, Nat.reduceEqDiff, Nat.reduceLeDiff, if_true, if_false, reduceIte, reduceCtorEq, Option.isSome, false_implies]; try simp [Wk, wkK, wkT, wk1, AV.kept, keptAll, wkO, lk, G4]), hm2, by simp only; omega⟩
              | skip)
      · rcases Hq k l1.length with ⟨hk, hkb⟩ | ⟨hk, hkb⟩
        · have q2 := H7 c0 hk
          have hright := hM.right m3 hk
          obtain ⟨y, hy⟩ : ∃ y, l1.getD k c0 = y := ⟨_, rfl⟩
          rw [hy] at q2 hright
          have hm2 := hright fun h => absurd h (by omega)
          have hS := map_snoc (B := B) (x := y)
          have hge : leB (l1.length : Int) (k : Int) = false := by rw [← Bool.not_eq_true, Lp]; omega
          (sym =>
           simp [hib,hkb,hge,q2,Pj,My,szC,szP,Gt,Gv,Gx,Gu,szN,Gw,Mj,Ml,Mk,Mm,Mi,Mh,con_AssignTwice.eq_def,Mw.eq_def,H4.eq_def,N0.eq_def,Ma.eq_def,M0.eq_def,H8.eq_def,Nj.eq_def,H6.eq_def,Hj.eq_def,Za,Zb,Zc,Zd,Ze,Zf,Zg,Zh,Zi,Zj,Zk,Zl,Zm,Zn,Zo,Zp,Zq,Zr,Zs,Zt,Zu,Zv,Zx,Zy,Z1,Z3,Z4,Z5,Z8,Z9,Qa,Qb,Qc,Qd,Qe,Qf,Qg,Qk,Ql,Qm,Qn,Qo,Qp,Qq,Qr,Q0,Q1,Q4,Q5,Q6,Q8,Q9,Ja,Jb,Jc,Jd,Je,Jf,Jg,Jh,Ji,Jj,Jk,Jl,Jt,Jx,Jy,Jz,J0,J1,J2,J5,J6,J7,J8,J9,Xa,Xb,Xc,Xd,Xe,Xf,Xg,Xh,Xi,Xj,Xk,Xl,Xm,Xn,Xo,Xp,Xq,Xr,Xs,Xt,Xu,Xv,Xw,Xx,Xy,X1,X2,X3,X4,X5,X6,X7,X8,We,Wf,Wg,Wh,Wi,Wj,Wl,Wm,Wn,Wo,Wp,Wq,Wr,Ws,Wt,Wu,Wv,Ww,Wx,Wy,Wz,W0,W3,W4,W5,W6,W7,W8,W9,Ya,Yb,Yc,Yd,Ye,Yf,Yg,Yh,Yi,Yj,Yk,Yl,Ym,Yn,Yo,Yr,Ys,Yt,Yu,Yv,Yw,Yx,Yy,Yz,Y1,Y2,Y3,Y4,Y5,Y6,Y7,Y8,Y9,Va,Vb,Vc,Vd,Ve,Vf,Vg,Vh,Vi,Vj,Vk,Vl,Vm,Vn,Vo,Vp,Vq,Vr,Vs,Vt,Vu,Vv,Vw,Vx,Vy,Vz,V0,V1,V2,V3,V4,V5,V6,V7,V8,V9,Ua,Ub,Uc,Ud,Ue,Uf,Ug,Uh,Ui,Uj,Uk,Ul,Um,Un,Uo,Up,Uq,Ur,Us,Ut,Uu,Uv,U1,U2,U3,U4,U5,U6,U7,U8,U9,Ka,Kb,Kc,Kd,Ke,Kf,Kg,Kh,Ki,Kj,Kk,Kl,Km,Kn,Ko,Kq,Kr,Ks,Kt,Ku,Kv,Kw,Kx,Ky,Kz,K0,K1,K2,K3,K4,K5,K6,K7,Gg,Gi,Gj,Gk,Gl,Gm,Gn,Gr,Gs,Hg,Nf,Md,Hc,Mc,Hb,Nc,tab45,H2]
           tactic =>
            try simp only [G6] at *
            try simp only [nc2] at *
            try simp (maxSteps := 4000000) only [hib,hkb,hge,q2,Pj,My,szC,szP,Gt,Gv,Gx,Gu,szN,Gw,Hi]
            repeat' (first | with_reducible assumption | with_reducible refine And.intro ?_ ?_ | intro _ | omega | (rw [Gy]; omega))
            all_goals first
              | (with_reducible refine Hu ?_; kernel_rfl)
              | omega
              | exact ⟨(i, k + 1, B ++ [y]), by rw [hS]; ((try simp only [G3, Ha, G5, Hf, upd, Hh, Hn, Na, Nat.reduceDiv, Nat.reduceMod, Nat.reduceMul, Nat.reduceAdd, Nat.reduceEqDiff, List.set_cons_zero, List.set_cons_succ, if_true, if_false, reduceIte]); (first | refine Wk.of_fl ?_ | skip); simp only [Wk, wkK, Nd, wkT, wk1, AV.kept, keptAll, wkO, lk, G4, and_true, true_and, and_self, Nat.reduceEqDiff, Nat.reduceLeDiff, if_true, if_false, reduceIte, reduceCtorEq, Option.isSome, false_implies]; try simp [Wk, wkK, wkT, wk1, AV.kept, keptAll, wkO, lk, G4]), hm2, by simp only; omega⟩
              | skip)
        · have e1 : i = l0.length := by omega
          have e2 : k = l1.length := by omega
          rw [e1, e2] at hM hMl
          rw [e1] at hib
          rw [e2] at hkb
          rw [e1, e2]
          have hm := hM.whole
          have o3 := hM.right11 n3 m3
          have o2 : ∀ c ∈ B, c.t.length ≤ 30 := fun c hc => by
            rcases (hm c).1 hc with h | h
            · exact n2 c h
            · exact m2 c h
          have hM0 : I1 (Nk l0) := Ai n3 fun c hc => by have := n2 c hc; omega
          have hM1 : I1 (Nk l1) := Ai m3 fun c hc => by have := m2 c hc; omega
          have hMB : I1 (Nk B) := Ai o3 fun c hc => by have := o2 c hc; omega
          have hMn : I1 (Nk []) := Ai (by rfl) (by simp)
          have s0 : ∀ p ∈ e, p.t.length ≤ 60 ∧ p.u.length ≤ 60 := fun p hp => fewP_of (n5 p hp)
          have hlt0 := Lr n2 n3 t
          have hlt1 := Lr m2 m3 (N8 (Nk l0) t)
          have s1 := fillP_short n2 n3 s0
          have s2 := fillP_short m2 m3 s1
          have hX := fill_twice n3 m3 o3 hm t
          have hY := fillP_twice n3 m3 o3 hm e
          have hXn := fill_none t
          have hYn := fillP_none e
          have i0 : In5 e := in5_of (by omega) (show 60 ≤ 1000000 by omega) s0
          have k0 : ShortE e := ⟨hne, by omega, fun p hp => by have := s0 p hp; omega⟩
          have k1 : ShortE (e.map (Pw (Nk l0))) := ⟨by simpa using hne, by rw [List.length_map]; omega, fun p hp => by have := s1 p hp; omega⟩
          have i2 : In5 ((e.map (Pw (Nk l0))).map (Pw (Nk l1))) := in5_of (by rw [List.length_map, List.length_map]; omega) (show 30 * (30 * 60) ≤ 1000000 by omega) s2
          obtain ⟨X0, hX0⟩ : ∃ X, N8 (Nk l0) t = X := ⟨_, rfl⟩
          obtain ⟨Y0, hY0⟩ : ∃ Y, e.map (Pw (Nk l0)) = Y := ⟨_, rfl⟩
          rw [hX0] at hX hlt0 hlt1
          rw [hY0] at hY k1 i2
          obtain ⟨X, hX1⟩ : ∃ X, N8 (Nk l1) X0 = X := ⟨_, rfl⟩
          obtain ⟨Y, hY1⟩ : ∃ Y, Y0.map (Pw (Nk l1)) = Y := ⟨_, rfl⟩
          rw [hX1] at hX hlt1
          rw [hY1] at hY i2
          have hXs := hX.symm
          have hYs := hY.symm
          have d0 : B.length ≤ 1000000 := by omega
          clear s0 s1 s2 hX hY
          (sym =>
           simp [hib,hkb,hX0,hX1,hXs,hXn,hY0,hY1,hYs,hYn,beq_self_eq_true,Pj,szC,szP,Gt,Gv,Gx,Gu,szN,Gw,Mj,Ml,Mk,Mm,Mi,Mh,con_AssignTwice.eq_def,Mw.eq_def,H4.eq_def,N0.eq_def,Ma.eq_def,M0.eq_def,H8.eq_def,Nj.eq_def,H6.eq_def,Hj.eq_def,Za,Zb,Zc,Zd,Ze,Zf,Zg,Zh,Zi,Zj,Zk,Zl,Zm,Zn,Zo,Zp,Zq,Zr,Zs,Zt,Zu,Zv,Zx,Zy,Z1,Z3,Z4,Z5,Z8,Z9,Qa,Qb,Qc,Qd,Qe,Qf,Qg,Qk,Ql,Qm,Qn,Qo,Qp,Qq,Qr,Q0,Q1,Q4,Q5,Q6,Q8,Q9,Ja,Jb,Jc,Jd,Je,Jf,Jg,Jh,Ji,Jj,Jk,Jl,Jt,Jx,Jy,Jz,J0,J1,J2,J5,J6,J7,J8,J9,Xa,Xb,Xc,Xd,Xe,Xf,Xg,Xh,Xi,Xj,Xk,Xl,Xm,Xn,Xo,Xp,Xq,Xr,Xs,Xt,Xu,Xv,Xw,Xx,Xy,X1,X2,X3,X4,X5,X6,X7,X8,We,Wf,Wg,Wh,Wi,Wj,Wl,Wm,Wn,Wo,Wp,Wq,Wr,Ws,Wt,Wu,Wv,Ww,Wx,Wy,Wz,W0,W3,W4,W5,W6,W7,W8,W9,Ya,Yb,Yc,Yd,Ye,Yf,Yg,Yh,Yi,Yj,Yk,Yl,Ym,Yn,Yo,Yr,Ys,Yt,Yu,Yv,Yw,Yx,Yy,Yz,Y1,Y2,Y3,Y4,Y5,Y6,Y7,Y8,Y9,Va,Vb,Vc,Vd,Ve,Vf,Vg,Vh,Vi,Vj,Vk,Vl,Vm,Vn,Vo,Vp,Vq,Vr,Vs,Vt,Vu,Vv,Vw,Vx,Vy,Vz,V0,V1,V2,V3,V4,V5,V6,V7,V8,V9,Ua,Ub,Uc,Ud,Ue,Uf,Ug,Uh,Ui,Uj,Uk,Ul,Um,Un,Uo,Up,Uq,Ur,Us,Ut,Uu,Uv,U1,U2,U3,U4,U5,U6,U7,U8,U9,Ka,Kb,Kc,Kd,Ke,Kf,Kg,Kh,Ki,Kj,Kk,Kl,Km,Kn,Ko,Kq,Kr,Ks,Kt,Ku,Kv,Kw,Kx,Ky,Kz,K0,K1,K2,K3,K4,K5,K6,K7,Gg,Gi,Gj,Gk,Gl,Gm,Gn,Gr,Gs,Hg,Nf,Md,Hc,Mc,Hb,Nc,tab45,H2]
           tactic =>
            try simp only [G6] at *
            try simp only [nc2] at *
            try simp (maxSteps := 4000000) only [hib,hkb,hX0,hX1,hXs,hXn,hY0,hY1,hYs,hYn,beq_self_eq_true,Pj,szC,szP,Gt,Gv,Gx,Gu,szN,Gw,Hi]
            repeat' (first | with_reducible assumption | with_reducible refine And.intro ?_ ?_ | intro _ | omega | (rw [Gy]; omega))
            all_goals first
              | exact hM0
              | exact hM1
              | exact hMB
              | exact hMn
              | exact i0
              | exact k0
              | exact k1
              | exact i2
              | (with_reducible refine Hu ?_; kernel_rfl)
              | omega
              | skip))
end Go.Am.Ty
set_option linter.unusedSimpArgs false
set_option linter.unusedVariables false
set_option maxHeartbeats 2000000
namespace Go.Am.Ty
open Go.Proofs Go.Rose Go.Rose.Rose
open Enc (enc dec)
def hitTo (l : List Ch) (n : Node) : Nat → Bool
  | 0 => false
  | k + 1 => hitTo l n k || hit11 l n k
theorem hitTo_look {l : List Ch} {n : Node} : ∀ k, k ≤ l.length → hitTo l n k = ((n.kind == 0) && (Po (l.take k) n.n).isSome)
  | 0, _ => by
    show false = _
    rw [show Po (l.take 0) n.n = none from rfl]
    simp
  | k + 1, hk => by
    rw [hitTo, hitTo_look k (by omega), Ex c0 (show k < l.length by omega), lookC_snoc]
    unfold hit11 si
    cases hq : Po (l.take k) n.n with
    | some u => cases n.kind == 0 <;> simp
    | none =>
      by_cases hs : (l.getD k c0).site = n.n
      · rw [if_pos hs, hs]
        simp
      · have : (n.n == (l.getD k c0).site) = false := beq_eq_false_iff_ne.2 fun e => hs e.symm
        rw [if_neg hs, this]
        simp
def posT (m : MT) (t : List Node) (i : Nat) : Nat := (N8 m (t.take i)).length
theorem fillT_split {m : MT} {t : List Node} {i : Nat} (hi : i < t.length) : N8 m t = N8 m (t.take i) ++ (fill1 m (t.getD i n0) ++ N8 m (t.drop (i + 1))) := by
  have : t = t.take i ++ t.getD i n0 :: t.drop (i + 1) := by
    have h1 : t.drop i = t.getD i n0 :: t.drop (i + 1) := by rw [List.drop_eq_getElem_cons hi]; simp [hi]
    rw [← h1, List.take_append_drop]
  have h2 : ∀ a b : List Node, N8 m (a ++ b) = N8 m a ++ N8 m b := fun a b => by unfold N8; rw [List.flatMap_append]
  have h3 : ∀ (n : Node) (b : List Node), N8 m (n :: b) = fill1 m n ++ N8 m b := fun n b => by unfold N8; rw [List.flatMap_cons]
  conv => lhs; rw [this, h2, h3]
theorem numb_named {s : List UInt8} {t : List Node} (h : D3 t) : D3 (Eg s t) := by
  cases t with
  | nil => exact h
  | cons a t =>
    intro n hn
    rcases List.mem_cons.1 hn with rfl | hn
    · exact h a (by simp)
    · exact h n (by simp [hn])
theorem numb_fillN {l : List Ch} (hr : right11 l = true) {n : Node} (h : Tg n = true) : D3 (To l n) := by
  have h1 : D3 [n] := fun m hm => by rw [List.mem_singleton] at hm; subst hm; exact h
  unfold To
  split
  · cases hq : Po l n.n with
    | none => exact h1
    | some u =>
      obtain ⟨c, hc, -, rfl⟩ := L6 hq
      obtain ⟨x, hx, hR⟩ := Ed (Ic hr c hc).2.1
      exact numb_named (by rw [hx]; exact hR.numb)
  · exact h1
theorem numb_fill {l : List Ch} (hr : right11 l = true) {t : List Node} (h : D3 t) : D3 (N8 (Nk l) t) := by
  rw [Aj hr]
  intro m hm
  obtain ⟨n, hn, hmn⟩ := List.mem_flatMap.1 hm
  exact numb_fillN hr (h n hn) m hmn
theorem named_at {s : List UInt8} {t : List Node} (h : Bc t = true) : ∃ z, Eg s t = nds z ∧ wf ar z := by
  obtain ⟨x, rfl, hR⟩ := Ed h
  obtain ⟨n, ks⟩ := x
  refine ⟨mk ⟨n.kind, s, n.n⟩ ks, by rw [I5, I5]; rfl, ?_⟩
  have := hR.wf
  exact ⟨this.1, this.2⟩
theorem lab_step {l : List Ch} {t : List Node} (h3 : Bc t = true) (hr : right11 l = true) {i : Nat} (hi : i < t.length) :
    posT (Nk l) t i < (N8 (Nk l) t).length ∧ ((N8 (Nk l) t).getD (posT (Nk l) t i) n0).name = (t.getD i n0).name ∧
    (hitTo l (t.getD i n0) l.length = false → (N8 (Nk l) t).getD (posT (Nk l) t i) n0 = t.getD i n0 ∧ posT (Nk l) t (i + 1) = posT (Nk l) t i + 1) ∧
    (hitTo l (t.getD i n0) l.length = true → end3 (N8 (Nk l) t) (posT (Nk l) t i) = (posT (Nk l) t (i + 1) : Int)) := by
  have hs := fillT_split (m := Nk l) hi
  have hn := fillT_snoc (m := Nk l) hi
  have hNt : D3 (N8 (Nk l) t) := numb_fill hr (by obtain ⟨x, rfl, hR⟩ := Ed h3; exact hR.numb)
  unfold posT
  rw [hn, List.length_append]
  rw [fill1_look (Ez hr)] at hs ⊢
  have hh := hitTo_look (l := l) (n := t.getD i n0) l.length (Nat.le_refl _)
  rw [List.take_length] at hh
  rw [hh]
  obtain ⟨x, hx⟩ : ∃ x, t.getD i n0 = x := ⟨_, rfl⟩
  obtain ⟨X, hX⟩ : ∃ X, N8 (Nk l) t = X := ⟨_, rfl⟩
  obtain ⟨P, hP⟩ : ∃ P, N8 (Nk l) (t.take i) = P := ⟨_, rfl⟩
  obtain ⟨S, hS⟩ : ∃ S, N8 (Nk l) (t.drop (i + 1)) = S := ⟨_, rfl⟩
  rw [hX] at hNt
  rw [hX, hP, hS, hx] at hs
  rw [hX, hP, hx]
  clear hh hn hX hP hS hx hi
  by_cases h0 : x.kind = 0
  · cases hq : Po l x.n with
    | none =>
      have e : To l x = [x] := by unfold To; rw [if_pos h0, hq]
      rw [e] at hs ⊢
      subst hs
      refine ⟨by simp, by simp, fun _ => ⟨by simp, rfl⟩, fun h => ?_⟩
      simp at h
    | some u =>
      have e : To l x = Eg x.name u := by unfold To; rw [if_pos h0, hq]
      obtain ⟨c, hc, -, rfl⟩ := L6 hq
      obtain ⟨z, hz, hw⟩ := named_at (s := x.name) (Ic hr c hc).2.1
      have hp := right3_pos (Ic hr c hc).2.1
      have hnm : ∀ v : List Node, 0 < v.length → ((Eg x.name v ++ S).getD 0 n0).name = x.name := by
        intro v hv
        cases v with
        | nil => simp at hv
        | cons a v => rfl
      have hlen : (Eg x.name c.t).length = c.t.length := D7
      have hat : At ar X P.length z := ⟨hw, S, by rw [hs, e, List.drop_left' rfl, hz]⟩
      have hend := end3_at hNt hat
      rw [e]
      refine ⟨by rw [hs, e]; simp only [List.length_append]; omega, ?_, fun h => ?_, fun _ => ?_⟩
      · rw [hs, e]
        have := hnm c.t hp
        rw [List.getD_eq_getElem?_getD, List.getElem?_append_right (Nat.le_refl _), Nat.sub_self, ← List.getD_eq_getElem?_getD]
        exact this
      · rw [beq_iff_eq.2 h0] at h; simp at h
      · rw [hend, hz]
  · have e : To l x = [x] := by unfold To; rw [if_neg h0]
    rw [e] at hs ⊢
    subst hs
    refine ⟨by simp, by simp, fun _ => ⟨by simp, rfl⟩, fun h => ?_⟩
    simp [h0] at h
def con_AssignLabels : Con := C0 (fun (t : Sl Node) (l : Sl Ch) => (t.l.length ≤ 9223372036854775807 ∧ I0 t.l) ∧ FitC l.l) (fun _ _ => true)
noncomputable def Bg : Ctx := ⟨tab, lkC [(7, Hj), (10, H5), (11, H4), (12, H6), (13, N1)], 60, lkB [], [], false⟩
theorem N4 : Bg.τ = tab := rfl
theorem N6 : Bg.Γ = lkC [(7, Hj), (10, H5), (11, H4), (12, H6), (13, N1)] := rfl
theorem N5 : Bg.dp = 60 := rfl
theorem N7 : Bg.Δ = lkB [] := rfl
theorem N3 : Bg.cuts = [] := rfl
theorem N2 : Bg.wr = false := rfl
set_option maxRecDepth 100000 in
theorem good_AssignLabels : M7 Try.prog (4, con_AssignLabels) := by
  refine ⟨He Try.func4 (by kernel_rfl) rfl, ?_⟩
  have K : Nh Try.prog Bg := Hl Ny Ht (by
    intro p hp
    simp only [List.mem_cons, List.not_mem_nil, or_false] at hp
    rcases hp with rfl | rfl | rfl | rfl | rfl
    · exact Ru
    · exact Ib
    · exact good_Few11
    · exact good_TypeA
    · exact good_End3) (by simp)
  obtain ⟨c, hc⟩ : ∃ c, Try.f4.body = some c := ⟨_, rfl⟩
  refine Hm K Try.func4 hc [.tmp 4] rfl 104 rfl (fun cvs hpre => ?_)
  change con_AssignLabels.pre cvs at hpre
  unfold con_AssignLabels at hpre
  obtain ⟨⟨t⟩, ⟨l⟩, rfl, ⟨ht, hN⟩, hL⟩ := Mp hpre
  simp only at ht hN
  have hFl : FitC l := hL
  clear hpre hL
  cases hq : (!ltB 60 (t.length : Int) && Bc t) && O3 l 20 with
  | false =>
    obtain ⟨b1, h1⟩ : ∃ b, ltB 60 (t.length : Int) = b := ⟨_, rfl⟩
    obtain ⟨b2, h2⟩ : ∃ b, Bc t = b := ⟨_, rfl⟩
    obtain ⟨b3, h3⟩ : ∃ b, O3 l 20 = b := ⟨_, rfl⟩
    rw [h1, h2, h3] at hq
    have hcases : b1 = true ∨ (b1 = false ∧ b2 = false) ∨ (b1 = false ∧ b2 = true ∧ b3 = false) := by
      revert hq
      clear h1 h2 h3
      cases b1 <;> cases b2 <;> cases b3 <;> simp
    clear hq
    simp only [Try.f4, Option.some.injEq] at hc
    subst hc
    refine Mn 6 (of_decide_eq_true (by kernel_rfl)) ?_
    rcases hcases with rfl | ⟨rfl, rfl⟩ | ⟨rfl, rfl, rfl⟩
    · (sym =>
       simp [h1,szC,Gt,Gv,Gx,Gu,szN,Gw,N4,N6,N5,N7,N3,N2,con_AssignLabels.eq_def,N1.eq_def,H4.eq_def,H5.eq_def,H6.eq_def,Hj.eq_def,Za,Zb,Zc,Zd,Ze,Zf,Zg,Zh,Zi,Zj,Zk,Zl,Zm,Zn,Zo,Zp,Zq,Zr,Zs,Zt,Zv,Zx,Zy,Z5,Z8,Z9,Qa,Qb,Qc,Qd,Qe,Qf,Qg,Qk,Ql,Qm,Qn,Qo,Qp,Qq,Qr,Qx,Qy,Qz,Q0,Q1,Q4,Q5,Q6,Q8,Q9,Ja,Jf,Jh,Ji,Jj,Jk,Jl,Js,Jt,Jx,Jy,Jz,J0,J1,J2,J5,J6,J7,J8,J9,Xa,Xb,Xc,Xd,Xe,Xf,Xg,Xj,Xk,Xl,Xm,Xn,Xo,Xp,Xq,Xr,Xs,Xt,Xu,Xv,Xw,Xx,Xy,X1,X2,X3,X4,X5,X6,X7,X8,X9,Wa,Wb,Wc,Wd,We,Wf,Wg,Wh,Wi,Wj,Wl,Wm,Wn,Wo,Wp,Wq,Wr,Ws,Wt,Wu,Wv,Ww,Wx,Wy,Wz,W0,W3,W4,W5,W6,W7,W8,W9,Ya,Yb,Yc,Yd,Ye,Yf,Yg,Yh,Yi,Yj,Yk,Yl,Ym,Yn,Yo,Yr,Ys,Yt,Yu,Yv,Yw,Yx,Yy,Yz,Y1,Y2,Y3,Y4,Y5,Y6,Y7,Y8,Y9,Va,Vb,Vc,Vd,Ve,Vf,Vg,Vh,Vi,Vj,Vk,Vl,Vm,Vn,Vo,Vp,Vq,Vr,Vs,Vt,Vu,Vv,Vw,Vx,Vy,Vz,V0,V1,V2,V3,V4,V5,V6,V7,V8,V9,Ua,Ub,Uc,Ud,Ue,Uf,Ug,Uh,Ui,Uj,Uk,Ul,Um,Un,Uo,Up,Uq,Ur,Us,Ut,Uu,Uv,U1,U2,U5,U6,U7,U8,U9,Ka,Kb,Kc,Kd,Ke,Kf,Kg,Kh,Ki,Kj,Kk,Kl,Km,Kn,Ko,Kq,Kr,Ks,Kt,Ku,Kv,Kw,Kx,Ky,Kz,K0,K1,K2,K3,K4,K5,K6,K7,Gg,Gi,Gj,Gk,Gl,Gm,Gn,Gr,Gs,Hg,Nf,H3,Md,Hc,Mc,Hb])
    · (sym =>
       simp [h1,h2,szC,Gt,Gv,Gx,Gu,szN,Gw,N4,N6,N5,N7,N3,N2,con_AssignLabels.eq_def,N1.eq_def,H4.eq_def,H5.eq_def,H6.eq_def,Hj.eq_def,Za,Zb,Zc,Zd,Ze,Zf,Zg,Zh,Zi,Zj,Zk,Zl,Zm,Zn,Zo,Zp,Zq,Zr,Zs,Zt,Zv,Zx,Zy,Z5,Z8,Z9,Qa,Qb,Qc,Qd,Qe,Qf,Qg,Qk,Ql,Qm,Qn,Qo,Qp,Qq,Qr,Qx,Qy,Qz,Q0,Q1,Q4,Q5,Q6,Q8,Q9,Ja,Jf,Jh,Ji,Jj,Jk,Jl,Js,Jt,Jx,Jy,Jz,J0,J1,J2,J5,J6,J7,J8,J9,Xa,Xb,Xc,Xd,Xe,Xf,Xg,Xj,Xk,Xl,Xm,Xn,Xo,Xp,Xq,Xr,Xs,Xt,Xu,Xv,Xw,Xx,Xy,X1,X2,X3,X4,X5,X6,X7,X8,X9,Wa,Wb,Wc,Wd,We,Wf,Wg,Wh,Wi,Wj,Wl,Wm,Wn,Wo,Wp,Wq,Wr,Ws,Wt,Wu,Wv,Ww,Wx,Wy,Wz,W0,W3,W4,W5,W6,W7,W8,W9,Ya,Yb,Yc,Yd,Ye,Yf,Yg,Yh,Yi,Yj,Yk,Yl,Ym,Yn,Yo,Yr,Ys,Yt,Yu,Yv,Yw,Yx,Yy,Yz,Y1,Y2,Y3,Y4,Y5,Y6,Y7,Y8,Y9,Va,Vb,Vc,Vd,Ve,Vf,Vg,Vh,Vi,Vj,Vk,Vl,Vm,Vn,Vo,Vp,Vq,Vr,Vs,Vt,Vu,Vv,Vw,Vx,Vy,Vz,V0,V1,V2,V3,V4,V5,V6,V7,V8,V9,Ua,Ub,Uc,Ud,Ue,Uf,Ug,Uh,Ui,Uj,Uk,Ul,Um,Un,Uo,Up,Uq,Ur,Us,Ut,Uu,Uv,U1,U2,U5,U6,U7,U8,U9,Ka,Kb,Kc,Kd,Ke,Kf,Kg,Kh,Ki,Kj,Kk,Kl,Km,Kn,Ko,Kq,Kr,Ks,Kt,Ku,Kv,Kw,Kx,Ky,Kz,K0,K1,K2,K3,K4,K5,K6,K7,Gg,Gi,Gj,Gk,Gl,Gm,Gn,Gr,Gs,Hg,Nf,H3,Md,Hc,Mc,Hb]
       tactic =>
        try simp only [G6] at *
        try simp only [nc2] at *
        try simp (maxSteps := 4000000) only [h1,h2,szC,Gt,Gv,Gx,Gu,szN,Gw,Hi]
        repeat' (first | with_reducible assumption | with_reducible refine And.intro ?_ ?_ | intro _ | omega | (rw [Gy]; omega)))
    · (sym =>
       simp [h1,h2,h3,szC,Gt,Gv,Gx,Gu,szN,Gw,N4,N6,N5,N7,N3,N2,con_AssignLabels.eq_def,N1.eq_def,H4.eq_def,H5.eq_def,H6.eq_def,Hj.eq_def,Za,Zb,Zc,Zd,Ze,Zf,Zg,Zh,Zi,Zj,Zk,Zl,Zm,Zn,Zo,Zp,Zq,Zr,Zs,Zt,Zv,Zx,Zy,Z5,Z8,Z9,Qa,Qb,Qc,Qd,Qe,Qf,Qg,Qk,Ql,Qm,Qn,Qo,Qp,Qq,Qr,Qx,Qy,Qz,Q0,Q1,Q4,Q5,Q6,Q8,Q9,Ja,Jf,Jh,Ji,Jj,Jk,Jl,Js,Jt,Jx,Jy,Jz,J0,J1,J2,J5,J6,J7,J8,J9,Xa,Xb,Xc,Xd,Xe,Xf,Xg,Xj,Xk,Xl,Xm,Xn,Xo,Xp,Xq,Xr,Xs,Xt,Xu,Xv,Xw,Xx,Xy,X1,X2,X3,X4,X5,X6,X7,X8,X9,Wa,Wb,Wc,Wd,We,Wf,Wg,Wh,Wi,Wj,Wl,Wm,Wn,Wo,Wp,Wq,Wr,Ws,Wt,Wu,Wv,Ww,Wx,Wy,Wz,W0,W3,W4,W5,W6,W7,W8,W9,Ya,Yb,Yc,Yd,Ye,Yf,Yg,Yh,Yi,Yj,Yk,Yl,Ym,Yn,Yo,Yr,Ys,Yt,Yu,Yv,Yw,Yx,Yy,Yz,Y1,Y2,Y3,Y4,Y5,Y6,Y7,Y8,Y9,Va,Vb,Vc,Vd,Ve,Vf,Vg,Vh,Vi,Vj,Vk,Vl,Vm,Vn,Vo,Vp,Vq,Vr,Vs,Vt,Vu,Vv,Vw,Vx,Vy,Vz,V0,V1,V2,V3,V4,V5,V6,V7,V8,V9,Ua,Ub,Uc,Ud,Ue,Uf,Ug,Uh,Ui,Uj,Uk,Ul,Um,Un,Uo,Up,Uq,Ur,Us,Ut,Uu,Uv,U1,U2,U5,U6,U7,U8,U9,Ka,Kb,Kc,Kd,Ke,Kf,Kg,Kh,Ki,Kj,Kk,Kl,Km,Kn,Ko,Kq,Kr,Ks,Kt,Ku,Kv,Kw,Kx,Ky,Kz,K0,K1,K2,K3,K4,K5,K6,K7,Gg,Gi,Gj,Gk,Gl,Gm,Gn,Gr,Gs,Hg,Nf,H3,Md,Hc,Mc,Hb]
       tactic =>
        try simp only [G6] at *
        try simp only [nc2] at *
        try simp (maxSteps := 4000000) only [h1,h2,h3,szC,Gt,Gv,Gx,Gu,szN,Gw,Hi]
        repeat' (first | with_reducible assumption | with_reducible refine And.intro ?_ ?_ | intro _ | omega | (rw [Gy]; omega)))
  | true =>
    simp only [Bool.and_eq_true, Bool.not_eq_true'] at hq
    obtain ⟨⟨h1, h2⟩, h3⟩ := hq
    obtain ⟨n1, n2, n3⟩ := few11_of h3
    have n6 := h1
    rw [Me] at n6
    have hM : I1 (Nk l) := Ai n3 fun c hc => by have := n2 c hc; omega
    have hlt := Lr n2 n3 t
    have hstep := fun {i : Nat} (hi : i < t.length) => lab_step h2 n3 hi
    have hNX : D3 (N8 (Nk l) t) := numb_fill n3 (by obtain ⟨x, rfl, hR⟩ := Ed h2; exact hR.numb)
    have hend : posT (Nk l) t t.length = (N8 (Nk l) t).length := by unfold posT; rw [List.take_length]
    have hp0 : posT (Nk l) t 0 = 0 := rfl
    obtain ⟨X, hX⟩ : ∃ X, N8 (Nk l) t = X := ⟨_, rfl⟩
    rw [hX] at hlt hNX hend
    have hTX : Tame X := numb_tame hNX (by omega)
    have hposb : ∀ i, i ≤ t.length → posT (Nk l) t i ≤ 1000000 := by
      intro i hi
      have := Lr n2 n3 (t.take i)
      rw [List.length_take] at this
      unfold posT
      omega
    simp only [Try.f4, Option.some.injEq] at hc
    subst hc
    refine Mn 6 (of_decide_eq_true (by kernel_rfl)) ?_
    (sym =>
     simp [h1,h2,h3,hX,szC,Gt,Gv,Gx,Gu,szN,Gw,N4,N6,N5,N7,N3,N2,con_AssignLabels.eq_def,N1.eq_def,H4.eq_def,H5.eq_def,H6.eq_def,Hj.eq_def,Za,Zb,Zc,Zd,Ze,Zf,Zg,Zh,Zi,Zj,Zk,Zl,Zm,Zn,Zo,Zp,Zq,Zr,Zs,Zt,Zv,Zx,Zy,Z5,Z8,Z9,Qa,Qb,Qc,Qd,Qe,Qf,Qg,Qk,Ql,Qm,Qn,Qo,Qp,Qq,Qr,Qx,Qy,Qz,Q0,Q1,Q4,Q5,Q6,Q8,Q9,Ja,Jf,Jh,Ji,Jj,Jk,Jl,Js,Jt,Jx,Jy,Jz,J0,J1,J2,J5,J6,J7,J8,J9,Xa,Xb,Xc,Xd,Xe,Xf,Xg,Xj,Xk,Xl,Xm,Xn,Xo,Xp,Xq,Xr,Xs,Xt,Xu,Xv,Xw,Xx,Xy,X1,X2,X3,X4,X5,X6,X7,X8,X9,Wa,Wb,Wc,Wd,We,Wf,Wg,Wh,Wi,Wj,Wl,Wm,Wn,Wo,Wp,Wq,Wr,Ws,Wt,Wu,Wv,Ww,Wx,Wy,Wz,W0,W3,W4,W5,W6,W7,W8,W9,Ya,Yb,Yc,Yd,Ye,Yf,Yg,Yh,Yi,Yj,Yk,Yl,Ym,Yn,Yo,Yr,Ys,Yt,Yu,Yv,Yw,Yx,Yy,Yz,Y1,Y2,Y3,Y4,Y5,Y6,Y7,Y8,Y9,Va,Vb,Vc,Vd,Ve,Vf,Vg,Vh,Vi,Vj,Vk,Vl,Vm,Vn,Vo,Vp,Vq,Vr,Vs,Vt,Vu,Vv,Vw,Vx,Vy,Vz,V0,V1,V2,V3,V4,V5,V6,V7,V8,V9,Ua,Ub,Uc,Ud,Ue,Uf,Ug,Uh,Ui,Uj,Uk,Ul,Um,Un,Uo,Up,Uq,Ur,Us,Ut,Uu,Uv,U1,U2,U5,U6,U7,U8,U9,Ka,Kb,Kc,Kd,Ke,Kf,Kg,Kh,Ki,Kj,Kk,Kl,Km,Kn,Ko,Kq,Kr,Ks,Kt,Ku,Kv,Kw,Kx,Ky,Kz,K0,K1,K2,K3,K4,K5,K6,K7,Gg,Gi,Gj,Gk,Gl,Gm,Gn,Gr,Gs,Hg,Nf,H3,Md,Hc,Mc,Hb]
     tactic =>
      try simp only [G6] at *
      try simp only [nc2] at *
      try simp (maxSteps := 4000000) only [h1,h2,h3,hX,szC,Gt,Gv,Gx,Gu,szN,Gw,Hi]
      repeat' (first | with_reducible assumption | with_reducible refine And.intro ?_ ?_ | intro _ | omega | (rw [Gy]; omega))
      all_goals try exact hM
      all_goals try omega
      refine Ho [4, 8, 9, 27, 28, 29, 30, 31, 32, 33, 34, 35, 36, 37, 38, 39, 40, 41, 42, 43, 44, 45, 46, 47, 48, 49, 50, 51, 52, 53, 54, 55, 56, 57, 58, 59, 60, 61, 62, 63, 64, 65, 66, 67, 68, 69, 70, 71, 72, 73, 74, 75, 76, 77, 78, 79, 80, 81, 82, 83, 84, 85, 86, 87, 88, 89, 90, 91, 92, 93, 94, 95, 96] (fun i : Nat => [(6, .d (.int .i64 (posT (Nk l) t i))), (7, .d (.int .i64 i))]) (fun i : Nat => []) (fun i : Nat => i ≤ t.length) (fun i : Nat => t.length - i) 0 ?_ ?_ ?_
      · omega
      · ((try simp only [G3, Ha, G5, Hf, upd, Hh, Hn, Na, Nat.reduceDiv, Nat.reduceMod, Nat.reduceMul, Nat.reduceAdd, Nat.reduceEqDiff, List.set_cons_zero, List.set_cons_succ, if_true, if_false, reduceIte]); (first | refine Wk.of_fl ?_ | skip); simp only [Wk, wkK, Nd, wkT, wk1, AV.kept, keptAll, wkO, lk, G4, and_true, true_and, and_self, Nat.reduceEqDiff, Nat.reduceLeDiff, if_true, if_false, reduceIte, reduceCtorEq, Option.isSome, false_implies]; try simp [Wk, wkK, wkT, wk1, AV.kept, keptAll, wkO, lk, G4, hp0])
      rintro i hi
      have hpb := hposb i hi
      rcases Hq i t.length with ⟨hit, hib⟩ | ⟨hit, hib⟩
      · have q1 := H7 n0 hit
        have hpb2 := hposb (i + 1) hit
        obtain ⟨g1, g2, g3, g4⟩ := hstep hit
        rw [hX] at g1 g2 g3 g4
        have q2 := H7 n0 g1
        obtain ⟨x, hx⟩ : ∃ x, t.getD i n0 = x := ⟨_, rfl⟩
        rw [hx] at q1 g2 g3 g4
        obtain ⟨p, hp⟩ : ∃ p, posT (Nk l) t i = p := ⟨_, rfl⟩
        obtain ⟨p2, hp2⟩ : ∃ p, posT (Nk l) t (i + 1) = p := ⟨_, rfl⟩
        rw [hp] at g1 g2 g3 g4 q2 hpb
        rw [hp2] at g3 g4 hpb2
        rw [hp]
        obtain ⟨y, hy⟩ : ∃ y, X.getD p n0 = y := ⟨_, rfl⟩
        rw [hy] at g2 g3 q2
        have hge : leB (X.length : Int) (p : Int) = false := by rw [← Bool.not_eq_true, Lp]; omega
        have hne : (y.name != x.name) = false := by rw [bne_eq_false_iff_eq]; exact g2
        (sym =>
         simp [hib,hge,q1,q2,g2,hne,szC,Gt,Gv,Gx,Gu,szN,Gw,N4,N6,N5,N7,N3,N2,con_AssignLabels.eq_def,N1.eq_def,H4.eq_def,H5.eq_def,H6.eq_def,Hj.eq_def,Za,Zb,Zc,Zd,Ze,Zf,Zg,Zh,Zi,Zj,Zk,Zl,Zm,Zn,Zo,Zp,Zq,Zr,Zs,Zt,Zv,Zx,Zy,Z5,Z8,Z9,Qa,Qb,Qc,Qd,Qe,Qf,Qg,Qk,Ql,Qm,Qn,Qo,Qp,Qq,Qr,Qx,Qy,Qz,Q0,Q1,Q4,Q5,Q6,Q8,Q9,Ja,Jf,Jh,Ji,Jj,Jk,Jl,Js,Jt,Jx,Jy,Jz,J0,J1,J2,J5,J6,J7,J8,J9,Xa,Xb,Xc,Xd,Xe,Xf,Xg,Xj,Xk,Xl,Xm,Xn,Xo,Xp,Xq,Xr,Xs,Xt,Xu,Xv,Xw,Xx,Xy,X1,X2,X3,X4,X5,X6,X7,X8,X9,Wa,Wb,Wc,Wd,We,Wf,Wg,Wh,Wi,Wj,Wl,Wm,Wn,Wo,Wp,Wq,Wr,Ws,Wt,Wu,Wv,Ww,Wx,Wy,Wz,W0,W3,W4,W5,W6,W7,W8,W9,Ya,Yb,Yc,Yd,Ye,Yf,Yg,Yh,Yi,Yj,Yk,Yl,Ym,Yn,Yo,Yr,Ys,Yt,Yu,Yv,Yw,Yx,Yy,Yz,Y1,Y2,Y3,Y4,Y5,Y6,Y7,Y8,Y9,Va,Vb,Vc,Vd,Ve,Vf,Vg,Vh,Vi,Vj,Vk,Vl,Vm,Vn,Vo,Vp,Vq,Vr,Vs,Vt,Vu,Vv,Vw,Vx,Vy,Vz,V0,V1,V2,V3,V4,V5,V6,V7,V8,V9,Ua,Ub,Uc,Ud,Ue,Uf,Ug,Uh,Ui,Uj,Uk,Ul,Um,Un,Uo,Up,Uq,Ur,Us,Ut,Uu,Uv,U1,U2,U5,U6,U7,U8,U9,Ka,Kb,Kc,Kd,Ke,Kf,Kg,Kh,Ki,Kj,Kk,Kl,Km,Kn,Ko,Kq,Kr,Ks,Kt,Ku,Kv,Kw,Kx,Ky,Kz,K0,K1,K2,K3,K4,K5,K6,K7,Gg,Gi,Gj,Gk,Gl,Gm,Gn,Gr,Gs,Hg,Nf,H3,Md,Hc,Mc,Hb]
         tactic =>
          try simp only [G6] at *
          try simp only [nc2] at *
          try simp (maxSteps := 4000000) only [hib,hge,q1,q2,g2,hne,szC,Gt,Gv,Gx,Gu,szN,Gw,Hi]
          repeat' (first | with_reducible assumption | with_reducible refine And.intro ?_ ?_ | intro _ | omega | (rw [Gy]; omega))
          all_goals try (with_reducible refine Hu ?_; kernel_rfl)
          refine Ho [50, 51, 52, 53, 54, 55, 56, 57, 58, 59, 60, 61, 62, 63, 64, 65, 66, 67, 68, 69, 70, 71, 72, 73, 74, 75, 76, 77] (fun j : Nat => [(8, .d (.bool (hitTo l x j))), (9, .d (.int .i64 j))]) (fun j : Nat => []) (fun j : Nat => j ≤ l.length) (fun j : Nat => l.length - j) 0 ?_ ?_ ?_
          · omega
          · ((try simp only [G3, Ha, G5, Hf, upd, Hh, Hn, Na, Nat.reduceDiv, Nat.reduceMod, Nat.reduceMul, Nat.reduceAdd, Nat.reduceEqDiff, List.set_cons_zero, List.set_cons_succ, if_true, if_false, reduceIte]); (first | refine Wk.of_fl ?_ | skip); simp only [Wk, wkK, Nd, wkT, wk1, AV.kept, keptAll, wkO, lk, G4, and_true, true_and, and_self, Nat.reduceEqDiff, Nat.reduceLeDiff, if_true, if_false, reduceIte, reduceCtorEq, Option.isSome, false_implies]; try simp [Wk, wkK, wkT, wk1, AV.kept, keptAll, wkO, lk, G4, hitTo])
          rintro j hj
          rcases Hq j l.length with ⟨hjt, hjb⟩ | ⟨hjt, hjb⟩
          · have q3 := H7 c0 hjt
            have hS : hitTo l x (j + 1) = (hitTo l x j || hit11 l x j) := rfl
            unfold hit11 si at hS
            obtain ⟨d, hd⟩ : ∃ d, l.getD j c0 = d := ⟨_, rfl⟩
            rw [hd] at q3 hS
            obtain ⟨bs, hbs⟩ : ∃ b, hitTo l x (j + 1) = b := ⟨_, rfl⟩
            rw [hbs] at hS
            cases hh : hitTo l x j with
            | true =>
              rw [hh, Bool.true_or] at hS
              (sym =>
               simp [hjb,q1,q3,My,szC,Gt,Gv,Gx,Gu,szN,Gw,N4,N6,N5,N7,N3,N2,con_AssignLabels.eq_def,N1.eq_def,H4.eq_def,H5.eq_def,H6.eq_def,Hj.eq_def,Za,Zb,Zc,Zd,Ze,Zf,Zg,Zh,Zi,Zj,Zk,Zl,Zm,Zn,Zo,Zp,Zq,Zr,Zs,Zt,Zv,Zx,Zy,Z5,Z8,Z9,Qa,Qb,Qc,Qd,Qe,Qf,Qg,Qk,Ql,Qm,Qn,Qo,Qp,Qq,Qr,Qx,Qy,Qz,Q0,Q1,Q4,Q5,Q6,Q8,Q9,Ja,Jf,Jh,Ji,Jj,Jk,Jl,Js,Jt,Jx,Jy,Jz,J0,J1,J2,J5,J6,J7,J8,J9,Xa,Xb,Xc,Xd,Xe,Xf,Xg,Xj,Xk,Xl,Xm,Xn,Xo,Xp,Xq,Xr,Xs,Xt,Xu,Xv,Xw,Xx,Xy,X1,X2,X3,X4,X5,X6,X7,X8,X9,Wa,Wb,Wc,Wd,We,Wf,Wg,Wh,Wi,Wj,Wl,Wm,Wn,Wo,Wp,Wq,Wr,Ws,Wt,Wu,Wv,Ww,Wx,Wy,Wz,W0,W3,W4,W5,W6,W7,W8,W9,Ya,Yb,Yc,Yd,Ye,Yf,Yg,Yh,Yi,Yj,Yk,Yl,Ym,Yn,Yo,Yr,Ys,Yt,Yu,Yv,Yw,Yx,Yy,Yz,Y1,Y2,Y3,Y4,Y5,Y6,Y7,Y8,Y9,Va,Vb,Vc,Vd,Ve,Vf,Vg,Vh,Vi,Vj,Vk,Vl,Vm,Vn,Vo,Vp,Vq,Vr,Vs,Vt,Vu,Vv,Vw,Vx,Vy,Vz,V0,V1,V2,V3,V4,V5,V6,V7,V8,V9,Ua,Ub,Uc,Ud,Ue,Uf,Ug,Uh,Ui,Uj,Uk,Ul,Um,Un,Uo,Up,Uq,Ur,Us,Ut,Uu,Uv,U1,U2,U5,U6,U7,U8,U9,Ka,Kb,Kc,Kd,Ke,Kf,Kg,Kh,Ki,Kj,Kk,Kl,Km,Kn,Ko,Kq,Kr,Ks,Kt,Ku,Kv,Kw,Kx,Ky,Kz,K0,K1,K2,K3,K4,K5,K6,K7,Gg,Gi,Gj,Gk,Gl,Gm,Gn,Gr,Gs,Hg,Nf,H3,Md,Hc,Mc,Hb]
               tactic =>
                try simp only [G6] at *
                try simp only [nc2] at *
                try simp (maxSteps := 4000000) only [hjb,q1,q3,My,szC,Gt,Gv,Gx,Gu,szN,Gw,Hi]
                repeat' (first | with_reducible assumption | with_reducible refine And.intro ?_ ?_ | intro _ | omega | (rw [Gy]; omega))
                all_goals first
                  | (with_reducible refine Hu ?_; kernel_rfl)
                  | omega
                  | exact ⟨j + 1, by rw [hbs, hS]; ((try simp only [G3, Ha, G5, Hf, upd, Hh, Hn, Na, Nat.reduceDiv, Nat.reduceMod, Nat.reduceMul, Nat.reduceAdd, Nat.reduceEqDiff, List.set_cons_zero, List.set_cons_succ, if_true, if_false, reduceIte]); (first | refine Wk.of_fl ?_ | skip); simp only [Wk, wkK, Nd, wkT, wk1, AV.kept, keptAll, wkO, lk, G4, and_true, true_and, and_self, Nat.reduceEqDiff, Nat.reduceLeDiff, if_true, if_false, reduceIte, reduceCtorEq, Option.isSome, false_implies]; try simp [Wk, wkK, wkT, wk1, AV.kept, keptAll, wkO, lk, G4]), by omega, by omega⟩
                  | skip)
            | false =>
              rw [hh, Bool.false_or] at hS
              cases hz : (x.kind == 0) with
              | false =>
                rw [hz, Bool.false_and] at hS
                (sym =>
                 simp [hjb,q1,q3,hz,My,szC,Gt,Gv,Gx,Gu,szN,Gw,N4,N6,N5,N7,N3,N2,con_AssignLabels.eq_def,N1.eq_def,H4.eq_def,H5.eq_def,H6.eq_def,Hj.eq_def,Za,Zb,Zc,Zd,Ze,Zf,Zg,Zh,Zi,Zj,Zk,Zl,Zm,Zn,Zo,Zp,Zq,Zr,Zs,Zt,Zv,Zx,Zy,Z5,Z8,Z9,Qa,Qb,Qc,Qd,Qe,Qf,Qg,Qk,Ql,Qm,Qn,Qo,Qp,Qq,Qr,Qx,Qy,Qz,Q0,Q1,Q4,Q5,Q6,Q8,Q9,Ja,Jf,Jh,Ji,Jj,Jk,Jl,Js,Jt,Jx,Jy,Jz,J0,J1,J2,J5,J6,J7,J8,J9,Xa,Xb,Xc,Xd,Xe,Xf,Xg,Xj,Xk,Xl,Xm,Xn,Xo,Xp,Xq,Xr,Xs,Xt,Xu,Xv,Xw,Xx,Xy,X1,X2,X3,X4,X5,X6,X7,X8,X9,Wa,Wb,Wc,Wd,We,Wf,Wg,Wh,Wi,Wj,Wl,Wm,Wn,Wo,Wp,Wq,Wr,Ws,Wt,Wu,Wv,Ww,Wx,Wy,Wz,W0,W3,W4,W5,W6,W7,W8,W9,Ya,Yb,Yc,Yd,Ye,Yf,Yg,Yh,Yi,Yj,Yk,Yl,Ym,Yn,Yo,Yr,Ys,Yt,Yu,Yv,Yw,Yx,Yy,Yz,Y1,Y2,Y3,Y4,Y5,Y6,Y7,Y8,Y9,Va,Vb,Vc,Vd,Ve,Vf,Vg,Vh,Vi,Vj,Vk,Vl,Vm,Vn,Vo,Vp,Vq,Vr,Vs,Vt,Vu,Vv,Vw,Vx,Vy,Vz,V0,V1,V2,V3,V4,V5,V6,V7,V8,V9,Ua,Ub,Uc,Ud,Ue,Uf,Ug,Uh,Ui,Uj,Uk,Ul,Um,Un,Uo,Up,Uq,Ur,Us,Ut,Uu,Uv,U1,U2,U5,U6,U7,U8,U9,Ka,Kb,Kc,Kd,Ke,Kf,Kg,Kh,Ki,Kj,Kk,Kl,Km,Kn,Ko,Kq,Kr,Ks,Kt,Ku,Kv,Kw,Kx,Ky,Kz,K0,K1,K2,K3,K4,K5,K6,K7,Gg,Gi,Gj,Gk,Gl,Gm,Gn,Gr,Gs,Hg,Nf,H3,Md,Hc,Mc,Hb]
                 tactic =>
                  try simp only [G6] at *
                  try simp only [nc2] at *
                  try simp (maxSteps := 4000000) only [hjb,q1,q3,hz,My,szC,Gt,Gv,Gx,Gu,szN,Gw,Hi]
                  repeat' (first | with_reducible assumption | with_reducible refine And.intro ?_ ?_ | intro _ | omega | (rw [Gy]; omega))
                  all_goals first
                    | (with_reducible refine Hu ?_; kernel_rfl)
                    | omega
                    | exact ⟨j + 1, by rw [hbs, hS]; ((try simp only [G3, Ha, G5, Hf, upd, Hh, Hn, Na, Nat.reduceDiv, Nat.reduceMod, Nat.reduceMul, Nat.reduceAdd, Nat.reduceEqDiff, List.set_cons_zero, List.set_cons_succ, if_true, if_false, reduceIte]); (first | refine Wk.of_fl ?_ | skip); simp only [Wk, wkK, Nd, wkT, wk1, AV.kept, keptAll, wkO, lk, G4, and_true, true_and, and_self, Nat.reduceEqDiff, Nat.reduceLeDiff, if_true, if_false, reduceIte, reduceCtorEq, Option.isSome, false_implies]; try simp [Wk, wkK, wkT, wk1, AV.kept, keptAll, wkO, lk, G4]), by omega, by omega⟩
                    | skip)
              | true =>
                rw [hz, Bool.true_and] at hS
                cases hw : (x.n == d.site) with
                | false =>
                  rw [hw] at hS
                  (sym =>
                   simp [hjb,q1,q3,hz,hw,My,szC,Gt,Gv,Gx,Gu,szN,Gw,N4,N6,N5,N7,N3,N2,con_AssignLabels.eq_def,N1.eq_def,H4.eq_def,H5.eq_def,H6.eq_def,Hj.eq_def,Za,Zb,Zc,Zd,Ze,Zf,Zg,Zh,Zi,Zj,Zk,Zl,Zm,Zn,Zo,Zp,Zq,Zr,Zs,Zt,Zv,Zx,Zy,Z5,Z8,Z9,Qa,Qb,Qc,Qd,Qe,Qf,Qg,Qk,Ql,Qm,Qn,Qo,Qp,Qq,Qr,Qx,Qy,Qz,Q0,Q1,Q4,Q5,Q6,Q8,Q9,Ja,Jf,Jh,Ji,Jj,Jk,Jl,Js,Jt,Jx,Jy,Jz,J0,J1,J2,J5,J6,J7,J8,J9,Xa,Xb,Xc,Xd,Xe,Xf,Xg,Xj,Xk,Xl,Xm,Xn,Xo,Xp,Xq,Xr,Xs,Xt,Xu,Xv,Xw,Xx,Xy,X1,X2,X3,X4,X5,X6,X7,X8,X9,Wa,Wb,Wc,Wd,We,Wf,Wg,Wh,Wi,Wj,Wl,Wm,Wn,Wo,Wp,Wq,Wr,Ws,Wt,Wu,Wv,Ww,Wx,Wy,Wz,W0,W3,W4,W5,W6,W7,W8,W9,Ya,Yb,Yc,Yd,Ye,Yf,Yg,Yh,Yi,Yj,Yk,Yl,Ym,Yn,Yo,Yr,Ys,Yt,Yu,Yv,Yw,Yx,Yy,Yz,Y1,Y2,Y3,Y4,Y5,Y6,Y7,Y8,Y9,Va,Vb,Vc,Vd,Ve,Vf,Vg,Vh,Vi,Vj,Vk,Vl,Vm,Vn,Vo,Vp,Vq,Vr,Vs,Vt,Vu,Vv,Vw,Vx,Vy,Vz,V0,V1,V2,V3,V4,V5,V6,V7,V8,V9,Ua,Ub,Uc,Ud,Ue,Uf,Ug,Uh,Ui,Uj,Uk,Ul,Um,Un,Uo,Up,Uq,Ur,Us,Ut,Uu,Uv,U1,U2,U5,U6,U7,U8,U9,Ka,Kb,Kc,Kd,Ke,Kf,Kg,Kh,Ki,Kj,Kk,Kl,Km,Kn,Ko,Kq,Kr,Ks,Kt,Ku,Kv,Kw,Kx,Ky,Kz,K0,K1,K2,K3,K4,K5,K6,K7,Gg,Gi,Gj,Gk,Gl,Gm,Gn,Gr,Gs,Hg,Nf,H3,Md,Hc,Mc,Hb]
                   tactic =>
                    try simp only [G6] at *
                    try simp only [nc2] at *
                    try simp (maxSteps := 4000000) only [hjb,q1,q3,hz,hw,My,szC,Gt,Gv,Gx,Gu,szN,Gw,Hi]
                    repeat' (first | with_reducible assumption | with_reducible refine And.intro ?_ ?_ | intro _ | omega | (rw [Gy]; omega))
                    all_goals first
                      | (with_reducible refine Hu ?_; kernel_rfl)
                      | omega
                      | exact ⟨j + 1, by rw [hbs, hS]; ((try simp only [G3, Ha, G5, Hf, upd, Hh, Hn, Na, Nat.reduceDiv, Nat.reduceMod, Nat.reduceMul, Nat.reduceAdd, Nat.reduceEqDiff, List.set_cons_zero, List.set_cons_succ, if_true, if_false, reduceIte]); (first | refine Wk.of_fl ?_ | skip); simp only [Wk, wkK, Nd, wkT, wk1, AV.kept, keptAll, wkO, lk, G4, and_true, true_and, and_self, Nat.reduceEqDiff, Nat.reduceLeDiff, if_true, if_false, reduceIte, reduceCtorEq, Option.isSome, false_implies]; try simp [Wk, wkK, wkT, wk1, AV.kept, keptAll, wkO, lk, G4]), by omega, by omega⟩
                      | skip)
                | true =>
                  rw [hw] at hS
                  (sym =>
                   simp [hjb,q1,q3,hz,hw,My,szC,Gt,Gv,Gx,Gu,szN,Gw,N4,N6,N5,N7,N3,N2,con_AssignLabels.eq_def,N1.eq_def,H4.eq_def,H5.eq_def,H6.eq_def,Hj.eq_def,Za,Zb,Zc,Zd,Ze,Zf,Zg,Zh,Zi,Zj,Zk,Zl,Zm,Zn,Zo,Zp,Zq,Zr,Zs,Zt,Zv,Zx,Zy,Z5,Z8,Z9,Qa,Qb,Qc,Qd,Qe,Qf,Qg,Qk,Ql,Qm,Qn,Qo,Qp,Qq,Qr,Qx,Qy,Qz,Q0,Q1,Q4,Q5,Q6,Q8,Q9,Ja,Jf,Jh,Ji,Jj,Jk,Jl,Js,Jt,Jx,Jy,Jz,J0,J1,J2,J5,J6,J7,J8,J9,Xa,Xb,Xc,Xd,Xe,Xf,Xg,Xj,Xk,Xl,Xm,Xn,Xo,Xp,Xq,Xr,Xs,Xt,Xu,Xv,Xw,Xx,Xy,X1,X2,X3,X4,X5,X6,X7,X8,X9,Wa,Wb,Wc,Wd,We,Wf,Wg,Wh,Wi,Wj,Wl,Wm,Wn,Wo,Wp,Wq,Wr,Ws,Wt,Wu,Wv,Ww,Wx,Wy,Wz,W0,W3,W4,W5,W6,W7,W8,W9,Ya,Yb,Yc,Yd,Ye,Yf,Yg,Yh,Yi,Yj,Yk,Yl,Ym,Yn,Yo,Yr,Ys,Yt,Yu,Yv,Yw,Yx,Yy,Yz,Y1,Y2,Y3,Y4,Y5,Y6,Y7,Y8,Y9,Va,Vb,Vc,Vd,Ve,Vf,Vg,Vh,Vi,Vj,Vk,Vl,Vm,Vn,Vo,Vp,Vq,Vr,Vs,Vt,Vu,Vv,Vw,Vx,Vy,Vz,V0,V1,V2,V3,V4,V5,V6,V7,V8,V9,Ua,Ub,Uc,Ud,Ue,Uf,Ug,Uh,Ui,Uj,Uk,Ul,Um,Un,Uo,Up,Uq,Ur,Us,Ut,Uu,Uv,U1,U2,U5,U6,U7,U8,U9,Ka,Kb,Kc,Kd,Ke,Kf,Kg,Kh,Ki,Kj,Kk,Kl,Km,Kn,Ko,Kq,Kr,Ks,Kt,Ku,Kv,Kw,Kx,Ky,Kz,K0,K1,K2,K3,K4,K5,K6,K7,Gg,Gi,Gj,Gk,Gl,Gm,Gn,Gr,Gs,Hg,Nf,H3,Md,Hc,Mc,Hb]
                   tactic =>
                    try simp only [G6] at *
                    try simp only [nc2] at *
                    try simp (maxSteps := 4000000) only [hjb,q1,q3,hz,hw,My,szC,Gt,Gv,Gx,Gu,szN,Gw,Hi]
                    repeat' (first | with_reducible assumption | with_reducible refine And.intro ?_ ?_ | intro _ | omega | (rw [Gy]; omega))
                    all_goals first
                      | (with_reducible refine Hu ?_; kernel_rfl)
                      | omega
                      | exact ⟨j + 1, by rw [hbs, hS]; ((try simp only [G3, Ha, G5, Hf, upd, Hh, Hn, Na, Nat.reduceDiv, Nat.reduceMod, Nat.reduceMul, Nat.reduceAdd, Nat.reduceEqDiff, List.set_cons_zero, List.set_cons_succ, if_true, if_false, reduceIte]); (first | refine Wk.of_fl ?_ | skip); simp only [Wk, wkK, Nd, wkT, wk1, AV.kept, keptAll, wkO, lk, G4, and_true, true_and, and_self, Nat.reduceEqDiff, Nat.reduceLeDiff, if_true, if_false, reduceIte, reduceCtorEq, Option.isSome, false_implies]; try simp [Wk, wkK, wkT, wk1, AV.kept, keptAll, wkO, lk, G4]), by omega, by omega⟩
                      | skip)
          · have hje : j = l.length := by omega
            rw [hje]
            rw [hje] at hjb
            cases hh : hitTo l x l.length with
            | false =>
              obtain ⟨r1, r2⟩ := g3 hh
              rw [r1] at q2
              (sym =>
               simp [hjb,q1,q2,hge,bne_self_eq_false,szC,Gt,Gv,Gx,Gu,szN,Gw,N4,N6,N5,N7,N3,N2,con_AssignLabels.eq_def,N1.eq_def,H4.eq_def,H5.eq_def,H6.eq_def,Hj.eq_def,Za,Zb,Zc,Zd,Ze,Zf,Zg,Zh,Zi,Zj,Zk,Zl,Zm,Zn,Zo,Zp,Zq,Zr,Zs,Zt,Zv,Zx,Zy,Z5,Z8,Z9,Qa,Qb,Qc,Qd,Qe,Qf,Qg,Qk,Ql,Qm,Qn,Qo,Qp,Qq,Qr,Qx,Qy,Qz,Q0,Q1,Q4,Q5,Q6,Q8,Q9,Ja,Jf,Jh,Ji,Jj,Jk,Jl,Js,Jt,Jx,Jy,Jz,J0,J1,J2,J5,J6,J7,J8,J9,Xa,Xb,Xc,Xd,Xe,Xf,Xg,Xj,Xk,Xl,Xm,Xn,Xo,Xp,Xq,Xr,Xs,Xt,Xu,Xv,Xw,Xx,Xy,X1,X2,X3,X4,X5,X6,X7,X8,X9,Wa,Wb,Wc,Wd,We,Wf,Wg,Wh,Wi,Wj,Wl,Wm,Wn,Wo,Wp,Wq,Wr,Ws,Wt,Wu,Wv,Ww,Wx,Wy,Wz,W0,W3,W4,W5,W6,W7,W8,W9,Ya,Yb,Yc,Yd,Ye,Yf,Yg,Yh,Yi,Yj,Yk,Yl,Ym,Yn,Yo,Yr,Ys,Yt,Yu,Yv,Yw,Yx,Yy,Yz,Y1,Y2,Y3,Y4,Y5,Y6,Y7,Y8,Y9,Va,Vb,Vc,Vd,Ve,Vf,Vg,Vh,Vi,Vj,Vk,Vl,Vm,Vn,Vo,Vp,Vq,Vr,Vs,Vt,Vu,Vv,Vw,Vx,Vy,Vz,V0,V1,V2,V3,V4,V5,V6,V7,V8,V9,Ua,Ub,Uc,Ud,Ue,Uf,Ug,Uh,Ui,Uj,Uk,Ul,Um,Un,Uo,Up,Uq,Ur,Us,Ut,Uu,Uv,U1,U2,U5,U6,U7,U8,U9,Ka,Kb,Kc,Kd,Ke,Kf,Kg,Kh,Ki,Kj,Kk,Kl,Km,Kn,Ko,Kq,Kr,Ks,Kt,Ku,Kv,Kw,Kx,Ky,Kz,K0,K1,K2,K3,K4,K5,K6,K7,Gg,Gi,Gj,Gk,Gl,Gm,Gn,Gr,Gs,Hg,Nf,H3,Md,Hc,Mc,Hb]
               tactic =>
                try simp only [G6] at *
                try simp only [nc2] at *
                try simp (maxSteps := 4000000) only [hjb,q1,q2,hge,bne_self_eq_false,szC,Gt,Gv,Gx,Gu,szN,Gw,Hi]
                repeat' (first | with_reducible assumption | with_reducible refine And.intro ?_ ?_ | intro _ | omega | (rw [Gy]; omega))
                all_goals first
                  | (with_reducible refine Hu ?_; kernel_rfl)
                  | omega
                  | exact ⟨i + 1, by rw [hp2, r2]; ((try simp only [G3, Ha, G5, Hf, upd, Hh, Hn, Na, Nat.reduceDiv, Nat.reduceMod, Nat.reduceMul, Nat.reduceAdd, Nat.reduceEqDiff, List.set_cons_zero, List.set_cons_succ, if_true, if_false, reduceIte]); (first | refine Wk.of_fl ?_ | skip); simp only [Wk, wkK, Nd, wkT, wk1, AV.kept, keptAll, wkO, lk, G4, and_true, true_and, and_self, Nat.reduceEqDiff, Nat.reduceLeDiff, if_true, if_false, reduceIte, reduceCtorEq, Option.isSome, false_implies]; try simp [Wk, wkK, wkT, wk1, AV.kept, keptAll, wkO, lk, G4]), by omega, by omega⟩
                  | skip)
            | true =>
              have r1 := g4 hh
              (sym =>
               simp [hjb,q1,q2,hge,r1,szC,Gt,Gv,Gx,Gu,szN,Gw,N4,N6,N5,N7,N3,N2,con_AssignLabels.eq_def,N1.eq_def,H4.eq_def,H5.eq_def,H6.eq_def,Hj.eq_def,Za,Zb,Zc,Zd,Ze,Zf,Zg,Zh,Zi,Zj,Zk,Zl,Zm,Zn,Zo,Zp,Zq,Zr,Zs,Zt,Zv,Zx,Zy,Z5,Z8,Z9,Qa,Qb,Qc,Qd,Qe,Qf,Qg,Qk,Ql,Qm,Qn,Qo,Qp,Qq,Qr,Qx,Qy,Qz,Q0,Q1,Q4,Q5,Q6,Q8,Q9,Ja,Jf,Jh,Ji,Jj,Jk,Jl,Js,Jt,Jx,Jy,Jz,J0,J1,J2,J5,J6,J7,J8,J9,Xa,Xb,Xc,Xd,Xe,Xf,Xg,Xj,Xk,Xl,Xm,Xn,Xo,Xp,Xq,Xr,Xs,Xt,Xu,Xv,Xw,Xx,Xy,X1,X2,X3,X4,X5,X6,X7,X8,X9,Wa,Wb,Wc,Wd,We,Wf,Wg,Wh,Wi,Wj,Wl,Wm,Wn,Wo,Wp,Wq,Wr,Ws,Wt,Wu,Wv,Ww,Wx,Wy,Wz,W0,W3,W4,W5,W6,W7,W8,W9,Ya,Yb,Yc,Yd,Ye,Yf,Yg,Yh,Yi,Yj,Yk,Yl,Ym,Yn,Yo,Yr,Ys,Yt,Yu,Yv,Yw,Yx,Yy,Yz,Y1,Y2,Y3,Y4,Y5,Y6,Y7,Y8,Y9,Va,Vb,Vc,Vd,Ve,Vf,Vg,Vh,Vi,Vj,Vk,Vl,Vm,Vn,Vo,Vp,Vq,Vr,Vs,Vt,Vu,Vv,Vw,Vx,Vy,Vz,V0,V1,V2,V3,V4,V5,V6,V7,V8,V9,Ua,Ub,Uc,Ud,Ue,Uf,Ug,Uh,Ui,Uj,Uk,Ul,Um,Un,Uo,Up,Uq,Ur,Us,Ut,Uu,Uv,U1,U2,U5,U6,U7,U8,U9,Ka,Kb,Kc,Kd,Ke,Kf,Kg,Kh,Ki,Kj,Kk,Kl,Km,Kn,Ko,Kq,Kr,Ks,Kt,Ku,Kv,Kw,Kx,Ky,Kz,K0,K1,K2,K3,K4,K5,K6,K7,Gg,Gi,Gj,Gk,Gl,Gm,Gn,Gr,Gs,Hg,Nf,H3,Md,Hc,Mc,Hb]
               tactic =>
                try simp only [G6] at *
                try simp only [nc2] at *
                try simp (maxSteps := 4000000) only [hjb,q1,q2,hge,r1,szC,Gt,Gv,Gx,Gu,szN,Gw,Hi]
                repeat' (first | with_reducible assumption | with_reducible refine And.intro ?_ ?_ | intro _ | omega | (rw [Gy]; omega))
                all_goals first
                  | (with_reducible refine Hu ?_; kernel_rfl)
                  | omega
                  | exact hTX
                  | exact ⟨i + 1, by rw [hp2]; ((try simp only [G3, Ha, G5, Hf, upd, Hh, Hn, Na, Nat.reduceDiv, Nat.reduceMod, Nat.reduceMul, Nat.reduceAdd, Nat.reduceEqDiff, List.set_cons_zero, List.set_cons_succ, if_true, if_false, reduceIte]); (first | refine Wk.of_fl ?_ | skip); simp only [Wk, wkK, Nd, wkT, wk1, AV.kept, keptAll, wkO, lk, G4, and_true, true_and, and_self, Nat.reduceEqDiff, Nat.reduceLeDiff, if_true, if_false, reduceIte, reduceCtorEq, Option.isSome, false_implies]; try simp [Wk, wkK, wkT, wk1, AV.kept, keptAll, wkO, lk, G4]), by omega, by omega⟩
                  | skip))
      · have hie : i = t.length := by omega
        rw [hie, hend]
        rw [hie] at hib
        (sym =>
         simp [hib,beq_self_eq_true,szC,Gt,Gv,Gx,Gu,szN,Gw,N4,N6,N5,N7,N3,N2,con_AssignLabels.eq_def,N1.eq_def,H4.eq_def,H5.eq_def,H6.eq_def,Hj.eq_def,Za,Zb,Zc,Zd,Ze,Zf,Zg,Zh,Zi,Zj,Zk,Zl,Zm,Zn,Zo,Zp,Zq,Zr,Zs,Zt,Zv,Zx,Zy,Z5,Z8,Z9,Qa,Qb,Qc,Qd,Qe,Qf,Qg,Qk,Ql,Qm,Qn,Qo,Qp,Qq,Qr,Qx,Qy,Qz,Q0,Q1,Q4,Q5,Q6,Q8,Q9,Ja,Jf,Jh,Ji,Jj,Jk,Jl,Js,Jt,Jx,Jy,Jz,J0,J1,J2,J5,J6,J7,J8,J9,Xa,Xb,Xc,Xd,Xe,Xf,Xg,Xj,Xk,Xl,Xm,Xn,Xo,Xp,Xq,Xr,Xs,Xt,Xu,Xv,Xw,Xx,Xy,X1,X2,X3,X4,X5,X6,X7,X8,X9,Wa,Wb,Wc,Wd,We,Wf,Wg,Wh,Wi,Wj,Wl,Wm,Wn,Wo,Wp,Wq,Wr,Ws,Wt,Wu,Wv,Ww,Wx,Wy,Wz,W0,W3,W4,W5,W6,W7,W8,W9,Ya,Yb,Yc,Yd,Ye,Yf,Yg,Yh,Yi,Yj,Yk,Yl,Ym,Yn,Yo,Yr,Ys,Yt,Yu,Yv,Yw,Yx,Yy,Yz,Y1,Y2,Y3,Y4,Y5,Y6,Y7,Y8,Y9,Va,Vb,Vc,Vd,Ve,Vf,Vg,Vh,Vi,Vj,Vk,Vl,Vm,Vn,Vo,Vp,Vq,Vr,Vs,Vt,Vu,Vv,Vw,Vx,Vy,Vz,V0,V1,V2,V3,V4,V5,V6,V7,V8,V9,Ua,Ub,Uc,Ud,Ue,Uf,Ug,Uh,Ui,Uj,Uk,Ul,Um,Un,Uo,Up,Uq,Ur,Us,Ut,Uu,Uv,U1,U2,U5,U6,U7,U8,U9,Ka,Kb,Kc,Kd,Ke,Kf,Kg,Kh,Ki,Kj,Kk,Kl,Km,Kn,Ko,Kq,Kr,Ks,Kt,Ku,Kv,Kw,Kx,Ky,Kz,K0,K1,K2,K3,K4,K5,K6,K7,Gg,Gi,Gj,Gk,Gl,Gm,Gn,Gr,Gs,Hg,Nf,H3,Md,Hc,Mc,Hb]))
end Go.Am.Ty
set_option linter.unusedSimpArgs false
set_option linter.unusedVariables false
namespace Go.Am.Ty
open Go.Proofs
open Enc (enc dec)
theorem all2_2 {p q : D → Prop} {ds : List D} (h : All2 [p, q] ds) : ∃ a b, ds = [a, b] ∧ p a ∧ q b := by
  match ds, h with
  | [a, b], h => exact ⟨a, b, rfl, h.1, h.2.1⟩
theorem all2_8 {p1 p2 p3 p4 p5 p6 p7 p8 : D → Prop} {ds : List D} (h : All2 [p1, p2, p3, p4, p5, p6, p7, p8] ds) : ∃ a b c d e f g i, ds = [a, b, c, d, e, f, g, i] ∧ p1 a ∧ p2 b ∧ p3 c ∧ p4 d ∧ p5 e ∧ p6 f ∧ p7 g ∧ p8 i := by
  match ds, h with
  | [a, b, c, d, e, f, g, i], h => exact ⟨a, b, c, d, e, f, g, i, rfl, h.1, h.2.1, h.2.2.1, h.2.2.2.1, h.2.2.2.2.1, h.2.2.2.2.2.1, h.2.2.2.2.2.2.1, h.2.2.2.2.2.2.2.1⟩
def InC (c : Ch) : Prop := c.t.length ≤ maxLen ∧ ∀ y ∈ c.t, y.name.length ≤ maxLen
theorem rdCh : Rdt Try.prog 27 2 true Ch InC :=
  (rd_struct (ps := [_, _]) Try.underlying27 (by kernel_rfl) rfl ⟨rfl, by kernel_rfl, rdt_int Try.underlying3, rfl, by kernel_rfl, rdNodes, trivial⟩).mono fun x h => by
    obtain ⟨ds, rfl, h⟩ := h
    obtain ⟨a, b, rfl, ⟨k, rfl, _⟩, ⟨⟨t⟩, rfl, ht⟩⟩ := all2_2 h
    exact ⟨⟨k, t⟩, rfl, ht⟩
theorem rdChs : Rdt Try.prog 22 1 false (Sl Ch) (fun a => a.l.length ≤ maxLen ∧ ∀ y ∈ a.l, InC y) := rdt_sl Try.underlying22 (by kernel_rfl) rfl (by decide) rdCh
theorem fitC_of {a : Sl Ch} (h : a.l.length ≤ maxLen ∧ ∀ y ∈ a.l, InC y) : FitC a.l := by
  unfold maxLen InC at h
  refine ⟨by have := h.1; omega, fun c hc => ?_⟩
  obtain ⟨h1, h2⟩ := h.2 c hc
  unfold maxLen at *
  exact ⟨by omega, fun n hn => by have := h2 n hn; omega⟩
theorem rdTwoC : Rdt Try.prog 45 2 true TwoC (fun p => (p.a.l.length ≤ maxLen ∧ ∀ y ∈ p.a.l, InC y) ∧ p.b.l.length ≤ maxLen ∧ ∀ y ∈ p.b.l, InC y) :=
  (rd_array Try.underlying45 (by kernel_rfl) (by kernel_rfl) rdChs).mono fun x h => by
    obtain ⟨ds, rfl, hl, h⟩ := h
    match ds, hl with
    | [a, b], _ =>
      obtain ⟨p, rfl, hp⟩ := h a (by simp)
      obtain ⟨q, rfl, hq⟩ := h b (by simp)
      exact ⟨⟨p, q⟩, rfl, hp, hq⟩
def InPt (n : Part) : Prop := (n.label.length ≤ maxLen ∧ n.name.length ≤ maxLen ∧ n.bind.length ≤ maxLen) ∧ (n.t.length ≤ maxLen ∧ ∀ y ∈ n.t, y.name.length ≤ maxLen) ∧ n.u.length ≤ maxLen ∧ ∀ y ∈ n.u, y.name.length ≤ maxLen
theorem rdPart : Rdt Try.prog 53 8 true Part InPt :=
  (rd_struct (ps := [_, _, _, _, _, _, _, _]) Try.underlying53 (by kernel_rfl) rfl ⟨rfl, by kernel_rfl, rdt_int Try.underlying3, rfl, by kernel_rfl, rdt_str Try.underlying9, rfl, by kernel_rfl, rdt_str Try.underlying9, rfl, by kernel_rfl, rdt_str Try.underlying9,
    rfl, by kernel_rfl, rdt_int Try.underlying3, rfl, by kernel_rfl, rdt_int Try.underlying2, rfl, by kernel_rfl, rdNodes, rfl, by kernel_rfl, rdNodes, trivial⟩).mono fun x h => by
    obtain ⟨ds, rfl, h⟩ := h
    obtain ⟨a, b, c, d, e, f, g, i, rfl, ⟨k, rfl, _⟩, ⟨s, rfl, hs⟩, ⟨n, rfl, hn⟩, ⟨o, rfl, ho⟩, ⟨m, rfl, _⟩, ⟨v, rfl, _⟩, ⟨⟨t⟩, rfl, ht⟩, ⟨⟨u⟩, rfl, hu⟩⟩ := all2_8 h
    exact ⟨⟨k, s, n, o, m, v, t, u⟩, rfl, ⟨hs, hn, ho⟩, ht, hu⟩
theorem rdParts : Rdt Try.prog 37 1 false (Sl Part) (fun a => a.l.length ≤ maxLen ∧ ∀ y ∈ a.l, InPt y) := rdt_sl Try.underlying37 (by kernel_rfl) rfl (by decide) rdPart
theorem inE_of {a : Sl Part} (h : a.l.length ≤ maxLen ∧ ∀ y ∈ a.l, InPt y) : InE a.l := by
  unfold maxLen InPt at h
  refine ⟨by have := h.1; omega, fun n hn => ?_⟩
  obtain ⟨⟨h1, h2, h7⟩, ⟨h3, h4⟩, h5, h6⟩ := h.2 n hn
  unfold maxLen at *
  exact ⟨⟨by omega, fun y hy => by have := h4 y hy; omega⟩, ⟨by omega, fun y hy => by have := h6 y hy; omega⟩, by omega, by omega, by omega⟩
theorem inT_of {a : Sl Node} (h : a.l.length ≤ maxLen ∧ ∀ y ∈ a.l, y.name.length ≤ maxLen) : a.l.length ≤ 9223372036854775807 ∧ I0 a.l := by
  unfold maxLen at h
  exact ⟨by have := h.1; omega, fun n hn => by have := h.2 n hn; omega⟩
end Go.Am.Ty
