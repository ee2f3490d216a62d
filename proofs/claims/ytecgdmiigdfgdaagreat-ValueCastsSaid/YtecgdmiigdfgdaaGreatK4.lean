/- Contracts of functions that the law reaches, and plain laws. Conditions: those that each contract states. -/
import Derived.Test.YtecgdmiigdfgdaaGreatK3
import Derived.Shelf.Spec.SlicesGrow
set_option linter.unusedSimpArgs false
set_option linter.unusedVariables false
set_option maxHeartbeats 1000000
namespace Go.Am.Ty
open Go.Proofs Go.Rose Go.Rose.Rose
open Enc (enc dec)
theorem kidPos_in {t : List Node} : ∀ {ks : List (Rose Node)} {q : Nat}, Ats ar t q ks → ∀ x ∈ M8 q ks, 0 ≤ x ∧ x < t.length
  | [], q, _, x, hx => by simp [M8] at hx
  | y :: ys, q, h, x, hx => by
    obtain ⟨h1, h2⟩ := h.head
    have := h1.lt
    rw [M8] at hx
    rcases List.mem_cons.1 hx with rfl | hx
    · omega
    · exact kidPos_in h2 x hx
theorem Ez {t : List Node} {s : List UInt8} : (dec (.clo 80 [.ptr 1 (enc (Sl.mk t)), .ptr 1 (.str s)]) : FieldC) = ⟨t, s⟩ := Enc.dec_enc (FieldC.mk t s)
theorem Et {t : List Node} {s : List UInt8} : isE FieldC (.clo 80 [.ptr 1 (enc (Sl.mk t)), .ptr 1 (.str s)]) = True := eq_true (Lf (FieldC.mk t s))
noncomputable def Ni : Con := con2t (fun (t : Sl Node) (_ : List UInt8) => t.l.length ≤ 1000000 ∧ ∃ x, At ar t.l 0 x) (fun t s => fieldX (K1 ar t.l 0) s)
noncomputable def Fb : Ctx := ⟨tab, lkC [(78, H3), (79, N1), (81, So), (82, Ck)], 60, lkB [], [], false⟩
theorem R7 : Fb.τ = tab := rfl
theorem ctx_FieldP_c : Fb.Γ = lkC [(78, H3), (79, N1), (81, So), (82, Ck)] := rfl
theorem R8 : Fb.dp = 60 := rfl
theorem ctx_FieldP_b : Fb.Δ = lkB [] := rfl
theorem ctx_FieldP_w : Fb.wr = false := rfl
set_option maxRecDepth 100000 in
theorem good_FieldP : Gj Tryz.prog (58, Ni) := by
  refine ⟨U7 Tryz.func58 (by kernel_rfl) rfl, ?_⟩
  have K : Ky Tryz.prog Fb := Kd K6 Ki (by
    intro p hp
    simp only [List.mem_cons, List.not_mem_nil, or_false] at hp
    rcases hp with rfl | rfl | rfl | rfl
    · exact good_KidsT
    · exact good_indexFuncInt
    · exact good_isRowP
    · exact good_PartT) (by simp)
  obtain ⟨c, hc⟩ : ∃ c, Tryz.f58.body = some c := ⟨_, rfl⟩
  refine Ke K Tryz.func58 hc [.tmp 4, .tmp 5] rfl 33 rfl (fun cvs hpre => ?_)
  change Ni.pre cvs at hpre
  unfold Ni at hpre
  obtain ⟨⟨t⟩, s, rfl, ht, x, hx⟩ := con2t_pre hpre
  simp only at ht hx
  have htr : K1 ar t 0 = x := Gq hx
  have hl := hx.lt
  have hel := el_map0 hl
  have hro : t.getD 0 n0 = x.root := hx.root n0
  have hT : Tree t 0 := fun _ _ => ⟨x, by simpa using hx⟩
  obtain ⟨hks, hkl⟩ := hx.kids
  obtain ⟨ks, hk⟩ : ∃ ks, x.kids = ks := ⟨_, rfl⟩
  rw [hk] at hks hkl
  replace hks : Ats ar t 1 ks := hks
  have hkt : kidsT t 0 = M8 1 ks := by
    unfold kidsT
    rw [if_neg (by omega)]
    show M8 1 (K1 ar t 0).kids = _
    rw [htr, hk]
  have hin := kidPos_in hks
  have hidx := kids_idx (s := s) hks
  have hlen := Sf 1 ks
  have hkn : ks.length ≤ t.length := by
    have h1 := ats_le hks (by omega)
    have : ks.length ≤ (ndss ks).length := by
      clear hks hkl hidx hlen hk hkt hin h1
      induction ks with
      | nil => simp
      | cons y ys ih => simp only [List.length_cons, ndss, List.length_append]; have := N8 y; omega
    omega
  have hf : fieldX x s = cond (x.root.kind == 0) ((⟨[nB 0]⟩, 0) : Sl Node × Int) (cond (Ml x.root) ((match ks.findIdx? (fun k => k.root.name == s) with
  | some j => (⟨clr (nds (ks.getD j (mk n0 [])))⟩, 0)
  | none => (⟨[]⟩, 9)) : Sl Node × Int) ((⟨[]⟩, 9) : Sl Node × Int)) := by
    unfold fieldX
    rw [hk] <;> cases ks.findIdx? (fun k => k.root.name == s) <;> rfl
  have hP : idxP (O8 t s) (M8 1 ks) = match ks.findIdx? (fun k => k.root.name == s) with
    | some i => (i : Int)
    | none => -1 := by
    unfold idxP
    rw [hidx] <;> cases ks.findIdx? (fun k => k.root.name == s) <;> rfl
  obtain ⟨L, hL⟩ : ∃ L, M8 1 ks = L := ⟨_, rfl⟩
  rw [hL] at hkt hin hlen hP
  clear hpre hidx
  simp only [Tryz.f58, Option.some.injEq] at hc
  subst hc
  refine Kw 2 (of_decide_eq_true (by kernel_rfl)) ?_
  cases h0 : (x.root.kind == 0) with
  | true =>
    rw [h0, cond_true] at hf
    (sym =>
     simp [hel,hro,h0,htr,hf,G6,G3,Nu,N6,Tz,Nr,Hm,Mu,Mt,Ms,Nl,Nm,G4,G5,Gy,Gz,Uu,Us,Uv,Ur,szN,Ut,R7,R8,Ni.eq_def,Zb,Zc,Ze,Zf,Zn,Zo,Zp,Zq,Zr,Zs,Zu,Zv,Zx,Zy,Z1,Z2,Qb,Qd,Qh,Ql,Qn,Qo,Qp,Qq,Qs,Q1,Q2,Q4,Q7,Q8,Ja,Jb,Jc,Jd,Je,Jg,Jh,Ji,Jk,Jw,J3,J4,J5,J6,J8,Xb,Xd,Xe,Xf,Xh,Xn,Xo,Xs,Xx,X4,X6,X7,Wb,Wc,Wf,Wh,Wi,Wj,Wm,Wn,Wt,Wu,Wv,Ww,Wy,W0,W3,W4,W5,W6,W7,W8,Ya,Yb,Ye,Yi,Ym,Yo,Yq,Yt,Yw,Yx,Yz,Y0,Y1,Y2,Y7,Y8,Y9,Vb,Vc,Vd,Ve,Vf,Vg,Vi,Vj,Vs,Vt,Vu,V3,V4,V7,V9,Ue,Ui,Uk,Um,Un,Up,U8,Ku,Kq,U4,U3,H9]
     tactic =>
      try simp only [U1] at *
      try simp only [nc2] at *
      try simp (maxSteps := 4000000) only [hel,hro,h0,htr,hf,G6,G3,Nu,N6,Tz,Nr,Hm,Mu,Mt,Ms,Nl,Nm,G4,G5,Gy,Gz,Uu,Us,Uv,Ur,szN,Ut,U9]
      repeat' (first | with_reducible assumption | with_reducible refine And.intro ?_ ?_ | intro _ | omega | (rw [U0]; omega)))
  | false =>
    rw [h0, cond_false] at hf
    cases hfi : ks.findIdx? (fun k => k.root.name == s) with
    | none =>
      rw [hfi] at hf hP
      simp only at hP
      have hf2 : fieldX x s = (⟨[]⟩, 9) := by rw [hf]; cases Ml x.root <;> rfl
      (sym =>
       simp [hel,hro,h0,htr,hkt,hP,hf2,Ez,Et,Ei,Ej,G6,G3,Nu,N6,Tz,Nr,Hm,Mu,Mt,Ms,Nl,Nm,G4,G5,Gy,Gz,Uu,Us,Uv,Ur,szN,Ut,R7,ctx_FieldP_c,R8,ctx_FieldP_b,ctx_FieldP_w,Ni.eq_def,H3.eq_def,Ck.eq_def,N1.eq_def,So.eq_def,Zb,Zc,Zd,Ze,Zf,Zh,Zi,Zj,Zk,Zl,Zm,Zn,Zo,Zp,Zq,Zs,Zt,Zu,Zv,Zx,Zy,Z9,Qb,Qc,Qd,Qe,Qf,Qi,Ql,Qn,Qo,Qp,Qq,Qr,Qs,Q1,Q2,Q4,Q5,Q6,Q8,Ja,Jf,Jh,Ji,Jj,Jk,Jl,Jw,J3,J4,J5,J6,J7,J8,J9,Xa,Xb,Xc,Xf,Xg,Xi,Xk,Xl,Xm,Xn,Xo,Xu,Xv,Xx,X3,X4,X5,X6,X7,Wb,Wc,Wd,We,Wf,Wg,Wh,Wi,Wj,Wp,Wq,Wr,Ws,Wt,Wu,Wv,Ww,Wx,Wy,Wz,W0,W3,W4,W5,W6,W7,W8,W9,Ya,Yb,Ye,Yf,Yi,Yj,Ym,Yo,Yt,Yw,Yx,Yy,Yz,Y0,Y1,Y2,Y3,Y4,Y7,Y8,Y9,Vb,Vc,Vd,Ve,Vf,Vg,Vh,Vi,Vj,Vm,Vo,Vs,Vt,Vu,V4,V5,V7,Ue,Ui,Uk,Ul,Um,Un,Uo,Up,Uq,U8,Ku,Kq,U4,U3,H9]
       tactic =>
        try simp only [U1] at *
        try simp only [nc2] at *
        try simp (maxSteps := 4000000) only [hel,hro,h0,htr,hkt,hP,hf2,Ez,Et,Ei,Ej,G6,G3,Nu,N6,Tz,Nr,Hm,Mu,Mt,Ms,Nl,Nm,G4,G5,Gy,Gz,Uu,Us,Uv,Ur,szN,Ut,U9]
        repeat' (first | with_reducible assumption | with_reducible refine And.intro ?_ ?_ | intro _ | omega | (rw [U0]; omega))
        all_goals first
          | exact hT
          | exact hin
          | exact True.intro
          | exact (hin _ (by assumption)).1
          | exact (hin _ (by assumption)).2
          | omega
          | assumption
          | (with_reducible refine Kl ?_; kernel_rfl))
    | some j =>
      rw [hfi] at hf hP
      simp only at hP
      cases hrow : Ml x.root with
      | false =>
        rw [hrow, cond_false] at hf
        (sym =>
         simp [hel,hro,h0,htr,hkt,hP,hf,hrow,Ez,Et,Ei,Ej,G6,G3,Nu,N6,Tz,Nr,Hm,Mu,Mt,Ms,Nl,Nm,G4,G5,Gy,Gz,Uu,Us,Uv,Ur,szN,Ut,R7,ctx_FieldP_c,R8,ctx_FieldP_b,Ni.eq_def,H3.eq_def,Ck.eq_def,N1.eq_def,So.eq_def,Zb,Zc,Zd,Ze,Zf,Zn,Zo,Zp,Zq,Zs,Zt,Zu,Zv,Zx,Zy,Z9,Qb,Qc,Qd,Qe,Qf,Qi,Ql,Qn,Qo,Qp,Qq,Qs,Q1,Q2,Q4,Q8,Ja,Jf,Jh,Ji,Jj,Jk,Jl,Jw,J3,J4,J5,J6,J8,J9,Xb,Xc,Xf,Xg,Xi,Xk,Xl,Xm,Xn,Xo,Xu,Xv,Xx,X3,X4,X6,X7,Wb,Wc,Wf,Wh,Wi,Wj,Wt,Wu,Wv,Ww,Wx,Wy,Wz,W0,W3,W6,W7,W8,W9,Ya,Yb,Ye,Yf,Yi,Yj,Ym,Yo,Yt,Yw,Yx,Yy,Yz,Y0,Y1,Y2,Y3,Y7,Y8,Vb,Vc,Vd,Ve,Vf,Vg,Vh,Vi,Vj,Vm,Vo,Vq,Vs,Vt,Vu,V4,V5,V7,Ue,Ui,Uk,Ul,Um,Un,Uo,Up,U8,Ku,Kq,U4,U3,H9]
         tactic =>
          try simp only [U1] at *
          try simp only [nc2] at *
          try simp (maxSteps := 4000000) only [hel,hro,h0,htr,hkt,hP,hf,hrow,Ez,Et,Ei,Ej,G6,G3,Nu,N6,Tz,Nr,Hm,Mu,Mt,Ms,Nl,Nm,G4,G5,Gy,Gz,Uu,Us,Uv,Ur,szN,Ut,U9]
          repeat' (first | with_reducible assumption | with_reducible refine And.intro ?_ ?_ | intro _ | omega | (rw [U0]; omega))
          all_goals first
            | exact hT
            | exact hin
            | exact True.intro
            | exact (hin _ (by assumption)).1
            | exact (hin _ (by assumption)).2
            | omega
            | assumption
            | (with_reducible refine Kl ?_; kernel_rfl))
      | true =>
        rw [hrow, cond_true] at hf
        have hj : j < ks.length := (List.findIdx?_eq_some_iff_getElem.1 hfi).1
        have hq := Ag 1 ks j hj
        rw [hL] at hq
        have hat := ats_at hks hj
        have hel2 := Kf (0 : Int) (show j < L.length by omega)
        have htj : K1 ar t (1 + (ndss (ks.take j)).length) = ks.getD j (mk n0 []) := by rw [Gq hat]; simp [hj]
        (sym =>
         simp [hel,hro,h0,htr,hkt,hP,hf,hrow,hel2,hq,htj,Int.toNat_natCast,Ez,Et,Ei,Ej,G6,G3,Nu,N6,Tz,Nr,Hm,Mu,Mt,Ms,Nl,Nm,G4,G5,Gy,Gz,Uu,Us,Uv,Ur,szN,Ut,R7,ctx_FieldP_c,R8,ctx_FieldP_b,ctx_FieldP_w,Ni.eq_def,H3.eq_def,Ck.eq_def,N1.eq_def,So.eq_def,Zb,Zc,Zd,Ze,Zf,Zh,Zi,Zj,Zk,Zl,Zm,Zn,Zo,Zp,Zq,Zs,Zt,Zu,Zv,Zx,Zy,Z9,Qb,Qc,Qd,Qe,Qf,Qi,Ql,Qn,Qo,Qp,Qq,Qr,Qs,Q1,Q2,Q4,Q5,Q6,Q8,Ja,Jf,Jh,Ji,Jj,Jk,Jl,Jw,J3,J4,J5,J6,J7,J8,J9,Xa,Xb,Xc,Xf,Xg,Xi,Xk,Xl,Xm,Xn,Xo,Xu,Xv,Xx,X3,X4,X5,X6,X7,Wb,Wc,Wd,We,Wf,Wg,Wh,Wi,Wj,Wp,Wq,Wr,Ws,Wt,Wu,Wv,Ww,Wx,Wy,Wz,W0,W3,W4,W5,W6,W7,W8,W9,Ya,Yb,Ye,Yf,Yi,Yj,Ym,Yo,Yt,Yw,Yx,Yy,Yz,Y0,Y1,Y2,Y3,Y4,Y7,Y8,Y9,Vb,Vc,Vd,Ve,Vf,Vg,Vh,Vi,Vj,Vm,Vo,Vp,Vs,Vt,Vu,V4,V5,V7,Ue,Ui,Uk,Ul,Um,Un,Uo,Up,Uq,U8,Ku,Kq,U4,U3,H9]
         tactic =>
          try simp only [U1] at *
          try simp only [nc2] at *
          try simp (maxSteps := 4000000) only [hel,hro,h0,htr,hkt,hP,hf,hrow,hel2,hq,htj,Int.toNat_natCast,Ez,Et,Ei,Ej,G6,G3,Nu,N6,Tz,Nr,Hm,Mu,Mt,Ms,Nl,Nm,G4,G5,Gy,Gz,Uu,Us,Uv,Ur,szN,Ut,U9]
          repeat' (first | with_reducible assumption | with_reducible refine And.intro ?_ ?_ | intro _ | omega | (rw [U0]; omega))
          all_goals first
            | exact hT
            | exact hin
            | exact True.intro
            | exact (hin _ (by assumption)).1
            | exact (hin _ (by assumption)).2
            | omega
            | exact ⟨_, hat⟩
            | assumption
            | (with_reducible refine Kl ?_; kernel_rfl))
end Go.Am.Ty
set_option linter.unusedSimpArgs false
set_option linter.unusedVariables false
set_option maxHeartbeats 1000000
namespace Go.Am.Ty
open Go.Proofs Go.Rose Go.Rose.Rose
open Enc (enc dec)
def L9 (n : VNode) : VNode := ⟨n.kind, n.label, n.name, n.num, n.many, n.t.map Hx, n.u.map Hx⟩
def S8 (x y : VNode) : Bool := x.kind == y.kind && (x.label == y.label && (x.name == y.name && (x.num == y.num && (x.many == y.many && (Gp x.t y.t && Gp x.u y.u)))))
theorem A5 {x y : VNode} : S8 x y = true ↔ L9 x = L9 y := by
  cases x
  cases y
  unfold S8 L9 Gp
  simp
def L5 (n : VNode) : Prop := n.t.length ≤ 9223372036854775807 ∧ n.u.length ≤ 9223372036854775807
def Tt : Con := Bg (fun (x y : VNode) => L5 x ∧ L5 y) S8
noncomputable def I1 : Ctx := ⟨tab, lkC [(25, Kz)], 60, lkB [], [], false⟩
theorem ctx_SameVN_t : I1.τ = tab := rfl
theorem ctx_SameVN_c : I1.Γ = lkC [(25, Kz)] := rfl
theorem ctx_SameVN_d : I1.dp = 60 := rfl
theorem ctx_SameVN_b : I1.Δ = lkB [] := rfl
set_option maxRecDepth 100000 in
theorem good_SameVN : Gj Tryz.prog (48, Tt) := by
  refine ⟨U7 Tryz.func48 (by kernel_rfl) rfl, ?_⟩
  have K : Ky Tryz.prog I1 := Kd K6 Ki (by
    intro p hp
    simp only [List.mem_cons, List.not_mem_nil, or_false] at hp
    rcases hp with rfl
    · exact Ip) (by simp)
  obtain ⟨c, hc⟩ : ∃ c, Tryz.f48.body = some c := ⟨_, rfl⟩
  refine Ke K Tryz.func48 hc [.tmp 4] rfl 54 rfl (fun cvs hpre => ?_)
  change Tt.pre cvs at hpre
  unfold Tt at hpre
  obtain ⟨x, y, rfl, ⟨h1, h2⟩, h3, h4⟩ := Gi hpre
  simp only [Tryz.f48, Option.some.injEq] at hc
  subst hc
  refine Kw 3 (of_decide_eq_true (by kernel_rfl)) ?_
  (sym =>
   simp [Uw,Uz,Uy,Ux,Uu,Us,Uv,Ur,szN,Ut,ctx_SameVN_t,ctx_SameVN_c,ctx_SameVN_d,ctx_SameVN_b,Kz.eq_def,Tt.eq_def,Zb,Zc,Zd,Ze,Zf,Zo,Zp,Zq,Zs,Zt,Zu,Zv,Zx,Z9,Qb,Qd,Qe,Qf,Ql,Qm,Qn,Qo,Qp,Qq,Qs,Q1,Q2,Q4,Q8,Jf,Jh,Ji,Jj,Jk,Jl,Jw,J3,J4,J5,J6,J7,J8,J9,Xa,Xb,Xc,Xf,Xn,Xo,Xs,Xv,X4,X6,Wb,Wc,Wf,Wh,Wi,Wj,Wt,Wu,Wv,Ww,Wx,Wy,Wz,W0,W4,W5,W6,W7,W8,W9,Ya,Yb,Ye,Yg,Yi,Yk,Yq,Yy,Y7,Y8,Y9,Va,Vb,Vc,Vd,Ve,Vf,Vg,Vk,Vl,Vt,Vu,V5,Uk,Ul,Um,Un,Uo,Nx,U8,Kq,U4,U3,Kb]
   tactic =>
    try simp only [U1] at *
    try simp only [nc2] at *
    try simp (maxSteps := 4000000) only [Uw,Uz,Uy,Ux,Uu,Us,Uv,Ur,szN,Ut,U9]
    unfold S8
    repeat' (first | with_reducible assumption | with_reducible refine And.intro ?_ ?_ | intro _ | omega | (rw [U0]; omega))
    all_goals first
      | (with_reducible refine Kl ?_; kernel_rfl)
      | (simp_all; done)
      | skip)
def Lu (a b : List VNode) : Bool := a.map L9 == b.map L9
abbrev v0 : VNode := ⟨0, [], [], 0, 0, [], []⟩
def InV (a : List VNode) : Prop := a.length ≤ 9223372036854775807 ∧ ∀ n ∈ a, L5 n
def C8 : Con := con3 (fun (a b : Sl VNode) (_ : Fn0 48) => InV a.l ∧ InV b.l) (fun a b _ => Lu a.l b.l)
noncomputable def E3 : Ctx := ⟨tab, lkC [(48, Tt)], 60, lkB [], [], false⟩
theorem Ry : E3.τ = tab := rfl
theorem ctx_equalV_c : E3.Γ = lkC [(48, Tt)] := rfl
theorem Rz : E3.dp = 60 := rfl
theorem ctx_equalV_b : E3.Δ = lkB [] := rfl
theorem ctx_equalV_w : E3.wr = false := rfl
set_option maxRecDepth 100000 in
theorem good_equalV : Gj Tryz.prog (47, C8) := by
  refine ⟨U7 Tryz.func47 (by kernel_rfl) rfl, ?_⟩
  have K : Ky Tryz.prog E3 := Kd K6 Ki (by
    intro p hp
    simp only [List.mem_cons, List.not_mem_nil, or_false] at hp
    rcases hp with rfl
    · exact good_SameVN) (by simp)
  obtain ⟨c, hc⟩ : ∃ c, Tryz.f47.body = some c := ⟨_, rfl⟩
  refine Ke K Tryz.func47 hc [.tmp 6] rfl 32 rfl (fun cvs hpre => ?_)
  change C8.pre cvs at hpre
  unfold C8 at hpre
  obtain ⟨⟨a⟩, ⟨b⟩, f, rfl, hIa, hIb⟩ := con3_pre hpre
  obtain ⟨ha, hA⟩ : InV a := hIa
  obtain ⟨hb, hB⟩ : InV b := hIb
  clear hpre
  simp only [Tryz.f47, Option.some.injEq] at hc
  subst hc
  refine Kw 2 (of_decide_eq_true (by kernel_rfl)) ?_
  (sym =>
   simp [C0,szV,Ry,Rz,C8.eq_def,Zb,Zc,Ze,Zf,Zo,Z6,Qb,Qd,Qn,Qo,Qp,Qq,Qs,Q1,Q2,Q4,Q8,Jk,Jw,J3,J4,J5,J6,J8,Xb,Xc,Xf,Xn,Xo,Xw,X3,X4,X6,X7,X8,X9,Wb,Wc,Wf,Wh,Wi,Wj,Wt,Wu,Wv,Ww,Wy,W0,W6,W7,Ya,Yb,Ye,Yi,Yy,Y0,Y1,Y7,Y8,Vb,Vc,Vd,Ve,Vf,Vg,Vj,Vt,Vu,V4,V5,Um,Un,Up,U8,Ku,Kc,Kb,tab66]
   tactic =>
    try simp only [U1] at *
    try simp only [nc2] at *
    try simp (maxSteps := 4000000) only [C0,szV,U9]
    refine ⟨fun hne => ?_, fun heq => ?_⟩
    · symm
      unfold Lu
      rw [beq_eq_false_iff_ne]
      intro h
      have := congrArg List.length h
      rw [List.length_map, List.length_map] at this
      exact hne (by rw [this])
    have hlen : a.length = b.length := by omega
    refine Km [6, 7, 8, 9, 18, 19, 20, 21, 22, 23, 24, 25, 26, 27, 28, 29, 30, 31] (fun k : Nat => [(17, .d (.int .i64 k))]) (fun k : Nat => []) (fun k : Nat => k ≤ a.length ∧ ∀ j, j < k → L9 (a.getD j v0) = L9 (b.getD j v0)) (fun k : Nat => a.length - k) 0 ?_ ?_ ?_
    · simp
    · ((try simp only [U2, Ka, U6, Kg, upd, Kh, Ko, Gd, Nat.reduceDiv, Nat.reduceMod, Nat.reduceMul, Nat.reduceAdd, Nat.reduceEqDiff, List.set_cons_zero, List.set_cons_succ, if_true, if_false, reduceIte]); (first | refine Wk.of_fl ?_ | skip); simp only [Wk, wkK, Gl, wkT, wk1, AV.kept, keptAll, wkO, lk, U5, and_true, true_and, and_self, Nat.reduceEqDiff, Nat.reduceLeDiff, if_true, if_false, reduceIte, reduceCtorEq, Option.isSome, false_implies]; try simp [Wk, wkK, wkT, wk1, AV.kept, keptAll, wkO, lk, U5])
    rintro k ⟨hk, hno⟩
    rcases Ks k a.length with ⟨hlt, hlb⟩ | ⟨hlt, hlb⟩
    · have q1 := Kf v0 hlt
      have q2 := Kf v0 (show k < b.length by omega)
      have s1 : L5 (a.getD k v0) := hA _ (by simp [hlt])
      have s2 : L5 (b.getD k v0) := hB _ (by simp [show k < b.length by omega])
      obtain ⟨x, hx⟩ : ∃ x, a.getD k v0 = x := ⟨_, rfl⟩
      obtain ⟨y, hy⟩ : ∃ y, b.getD k v0 = y := ⟨_, rfl⟩
      rw [hx] at q1 s1
      rw [hy] at q2 s2
      cases hs : S8 x y with
      | false =>
        have hbad : false = Lu a b := by
          symm
          unfold Lu
          rw [beq_eq_false_iff_ne]
          intro e
          have h1 : (a.map L9).getD k v0 = (b.map L9).getD k v0 := by rw [e]
          have h2 : L9 x = L9 y := by rw [← hx, ← hy]; simpa [hlt, show k < b.length by omega] using h1
          rw [A5.2 h2] at hs
          cases hs
        (sym =>
         simp [hlb,q1,q2,hs,C0,Uw,Uz,Uy,Ux,szV,Uu,Us,Uv,Ur,szN,Ut,Ry,ctx_equalV_c,Rz,ctx_equalV_b,Tt.eq_def,Zb,Zc,Ze,Zf,Zg,Zo,Zp,Zq,Zu,Zv,Zw,Zy,Z9,Qa,Qb,Qc,Qd,Qe,Qf,Qh,Qk,Ql,Qn,Qo,Qp,Qq,Qs,Q1,Q2,Q4,Q8,Ja,Jf,Jh,Ji,Jj,Jk,Jl,Jy,Jz,J0,J5,J6,J8,J9,Xb,Xc,Xf,Xp,Xr,Xs,Xv,X3,X4,X6,X7,X8,Wb,Wc,Wf,Wh,Wi,Wj,Wm,Wt,Wu,Wv,Ww,Wx,Wz,W0,W4,W5,W6,W7,Ya,Yb,Yd,Ye,Yf,Yi,Yj,Ym,Yq,Yy,Y0,Y1,Y7,Y8,Vc,Vd,Ve,Vf,Vg,Vq,Vr,Vt,Vu,V5,Uk,Um,Un,Uo,Up,Uq,U8,Ku,Kc,Kb,tab66]
         tactic =>
          try simp only [U1] at *
          try simp only [nc2] at *
          try simp (maxSteps := 4000000) only [hlb,q1,q2,hs,C0,Uw,Uz,Uy,Ux,szV,Uu,Us,Uv,Ur,szN,Ut,U9]
          repeat' (first | with_reducible assumption | with_reducible refine And.intro ?_ ?_ | intro _ | omega | (rw [U0]; omega))
          all_goals first
            | exact hbad
            | exact s1
            | exact s2
            | exact s1.1
            | exact s1.2
            | exact s2.1
            | exact s2.2
            | (with_reducible refine Kl ?_; kernel_rfl))
      | true =>
        have hyes : ∀ j, j < k + 1 → L9 (a.getD j v0) = L9 (b.getD j v0) := by
          intro j hj
          by_cases hjk : j = k
          · subst hjk; rw [hx, hy]; exact A5.1 hs
          · exact hno j (by omega)
        (sym =>
         simp [hlb,q1,q2,hs,C0,Uw,Uz,Uy,Ux,szV,Uu,Us,Uv,Ur,szN,Ut,Ry,ctx_equalV_c,Rz,ctx_equalV_b,ctx_equalV_w,Tt.eq_def,Zb,Zc,Ze,Zf,Zg,Zo,Zp,Zq,Zu,Zv,Zw,Zy,Z9,Qa,Qb,Qc,Qd,Qe,Qf,Qh,Qk,Ql,Qq,Qs,Q1,Q2,Q4,Q8,Ja,Jf,Jh,Ji,Jj,Jl,Jy,Jz,J0,J5,J6,J8,J9,Xb,Xc,Xf,Xp,Xr,Xs,Xv,X3,X4,X6,X7,X8,Wc,Wf,Wh,Wi,Wj,Wm,Wt,Wu,Wv,Ww,Wx,Wz,W0,W4,W5,W6,W7,Ya,Yb,Yd,Ye,Yf,Yi,Yj,Ym,Yq,Yy,Y0,Y1,Y7,Y8,Vc,Vd,Ve,Vf,Vg,Vp,Vr,Vt,Vu,V4,Uk,Ul,Um,Un,Uo,Up,Uq,U8,Ku,Kc,Kb,tab66]
         tactic =>
          try simp only [U1] at *
          try simp only [nc2] at *
          try simp (maxSteps := 4000000) only [hlb,q1,q2,hs,C0,Uw,Uz,Uy,Ux,szV,Uu,Us,Uv,Ur,szN,Ut,U9]
          repeat' (first | with_reducible assumption | with_reducible refine And.intro ?_ ?_ | intro _ | omega | (rw [U0]; omega))
          all_goals first
            | exact s1
            | exact s2
            | exact s1.1
            | exact s1.2
            | exact s2.1
            | exact s2.2
            | (with_reducible refine Kl ?_; kernel_rfl)
            | exact ⟨k + 1, by ((try simp only [U2, Ka, U6, Kg, upd, Kh, Ko, Gd, Nat.reduceDiv, Nat.reduceMod, Nat.reduceMul, Nat.reduceAdd, Nat.reduceEqDiff, List.set_cons_zero, List.set_cons_succ, if_true, if_false, reduceIte]); (first | refine Wk.of_fl ?_ | skip); simp only [Wk, wkK, Gl, wkT, wk1, AV.kept, keptAll, wkO, lk, U5, and_true, true_and, and_self, Nat.reduceEqDiff, Nat.reduceLeDiff, if_true, if_false, reduceIte, reduceCtorEq, Option.isSome, false_implies]; try simp [Wk, wkK, wkT, wk1, AV.kept, keptAll, wkO, lk, U5]), by omega, hyes, by omega⟩)
    · (sym =>
       simp [hlb,szV,Ry,Rz,Zb,Zc,Ze,Zf,Zg,Qb,Qd,Qn,Qo,Qp,Qq,Qs,Q1,Q2,Q4,Q8,Jk,Jy,Jz,J0,J5,J6,J8,J9,Xb,Xc,Xf,X4,X6,X7,Wa,Wb,Wc,Wf,Wh,Wi,Wt,Wu,Wv,Ww,Ya,Yb,Yd,Ye,Yi,Y7,Y8,Vt,V5,Ul,Um,Un,Uo,U8,Ku,Kc,Kb,tab66]
       tactic =>
        try simp only [U1] at *
        try simp only [nc2] at *
        try simp (maxSteps := 4000000) only [hlb,szV,U9]
        symm
        unfold Lu
        rw [beq_iff_eq]
        refine List.ext_getElem (by simp [hlen]) fun j h1 h2 => ?_
        rw [List.length_map] at h1 h2
        have := hno j (by omega)
        simpa [h1, h2] using this))
def S2 : Con := Bg (fun (a b : Sl VNode) => InV a.l ∧ InV b.l) (fun a b => Lu a.l b.l)
noncomputable def ctx_SameV : Ctx := ⟨tab, lkC [(47, C8)], 60, lkB [], [], false⟩
theorem ctx_SameV_c : ctx_SameV.Γ = lkC [(47, C8)] := rfl
theorem ctx_SameV_d : ctx_SameV.dp = 60 := rfl
theorem ctx_SameV_b : ctx_SameV.Δ = lkB [] := rfl
theorem good_SameV : Gj Tryz.prog (22, S2) := by
  refine ⟨U7 Tryz.func22 (by kernel_rfl) rfl, ?_⟩
  have K : Ky Tryz.prog ctx_SameV := Kd K6 Ki (by
    intro p hp
    simp only [List.mem_cons, List.not_mem_nil, or_false] at hp
    rcases hp with rfl
    · exact good_equalV) (by simp)
  obtain ⟨c, hc⟩ : ∃ c, Tryz.f22.body = some c := ⟨_, rfl⟩
  refine Ke K Tryz.func22 hc [.tmp 4] rfl 8 rfl (fun cvs hpre => ?_)
  change S2.pre cvs at hpre
  unfold S2 at hpre
  obtain ⟨⟨a⟩, ⟨b⟩, rfl, ha, hb⟩ := Gi hpre
  simp only at ha hb
  simp only [Tryz.f22, Option.some.injEq] at hc
  subst hc
  (sym =>
   simp [isE_Fn0,szV,ctx_SameV_c,ctx_SameV_d,ctx_SameV_b,S2.eq_def,C8.eq_def,Za,Zb,Zc,Ze,Zf,Z9,Qe,Qf,Qn,Qo,Qp,Qq,Qs,Q1,Q2,Q4,Q8,Jf,Jj,Jk,Jl,Jw,J3,J4,Xf,Xv,Xw,X4,X6,Wb,Wc,Wf,Wh,Wt,Wu,Wv,Ww,Wx,Wy,Wz,W0,W6,W7,Yy,Y7,Y8,Y9,Va,Vb,Vc,Vj,Vo,Vu,V5,Um,Un,Kc,Kb]
   tactic =>
    try simp only [U1] at *
    try simp only [nc2] at *
    try simp (maxSteps := 4000000) only [isE_Fn0,szV,U9]
    repeat' (first | with_reducible assumption | with_reducible refine And.intro ?_ ?_ | intro _ | omega | (rw [U0]; omega))
    all_goals first
      | exact ha
      | exact hb
      | exact ha.1
      | exact hb.1
      | exact ha.2
      | exact hb.2
      | exact ha.2 _ (by assumption)
      | exact hb.2 _ (by assumption))
end Go.Am.Ty
set_option linter.unusedSimpArgs false
set_option linter.unusedVariables false
set_option maxHeartbeats 1000000
namespace Go.Am.Ty
open Go.Proofs Go.Rose Go.Rose.Rose
open Enc (enc dec)
def longV (n : VNode) : Bool := ltB 100 n.label.length || (ltB 200 n.name.length || (ltB 30 n.t.length || ltB 30 n.u.length))
def fewV (v : List VNode) (most : Int) : Bool := (List.range v.length).all fun k => !((k : Int) == most || longV (v.getD k v0))
def InW (v : List VNode) : Prop := v.length ≤ 9223372036854775807 ∧ ∀ n ∈ v, (n.label.length ≤ 9223372036854775807 ∧ n.name.length ≤ 9223372036854775807) ∧ L5 n
def S3 : Con := Bg (fun (v : Sl VNode) (_ : Int) => InW v.l) (fun v m => fewV v.l m)
noncomputable def ctx_Few19 : Ctx := ⟨tab, lkC [], 60, lkB [], [], false⟩
theorem Tp : ctx_Few19.τ = tab := rfl
theorem Du : ctx_Few19.dp = 60 := rfl
theorem ctx_Few19_w : ctx_Few19.wr = false := rfl
set_option maxRecDepth 100000 in
theorem good_Few19 : Gj Tryz.prog (12, S3) := by
  refine ⟨U7 Tryz.func12 (by kernel_rfl) rfl, ?_⟩
  have K : Ky Tryz.prog ctx_Few19 := Kd K6 Ki (by simp) (by simp)
  obtain ⟨c, hc⟩ : ∃ c, Tryz.f12.body = some c := ⟨_, rfl⟩
  refine Ke K Tryz.func12 hc [.tmp 4] rfl 51 rfl (fun cvs hpre => ?_)
  change S3.pre cvs at hpre
  unfold S3 at hpre
  obtain ⟨⟨v⟩, m, rfl, hI⟩ := Gi hpre
  obtain ⟨hv, hV⟩ : InW v := hI
  clear hpre
  simp only [Tryz.f12, Option.some.injEq] at hc
  subst hc
  refine Kw 3 (of_decide_eq_true (by kernel_rfl)) ?_
  (sym =>
   simp [szV,S3.eq_def,Zb,Zc,Ze,Zf,Qq,Qs,Q1,Q2,Q4,Jw,J3,J4,J5,J6,Xb,Xn,Xo,Xv,X4,X6,X8,X9,Wc,Wf,Wh,Wt,Wu,Wv,Ww,Wy,W0,W6,W7,Yb,Yx,Yy,Vb,Vc,Vd,Ve,Vf,Vg,Vh,Vj,Vt,Vu,V4,V5,Um,U8,Kq,Kc,U4,U3,Kb]
   tactic =>
    try simp only [U1] at *
    try simp only [nc2] at *
    try simp (maxSteps := 4000000) only [szV,U9]
    refine Km [4, 6, 7, 8, 9, 10, 11, 12, 13, 14, 15, 16, 17, 18, 19, 20, 21, 22, 23, 24, 25, 26, 27, 28, 29, 30, 31, 32, 33, 34, 35, 36, 37, 38, 39, 40, 41, 42, 43, 44, 45, 46, 47, 48, 49, 50] (fun k : Nat => [(5, .d (.int .i64 k))]) (fun k : Nat => []) (fun k : Nat => k ≤ v.length ∧ ∀ j, j < k → ((j : Int) == m || longV (v.getD j v0)) = false) (fun k : Nat => v.length - k) 0 ?_ ?_ ?_
    · simp
    · ((try simp only [U2, Ka, U6, Kg, upd, Kh, Ko, Gd, Nat.reduceDiv, Nat.reduceMod, Nat.reduceMul, Nat.reduceAdd, Nat.reduceEqDiff, List.set_cons_zero, List.set_cons_succ, if_true, if_false, reduceIte]); (first | refine Wk.of_fl ?_ | skip); simp only [Wk, wkK, Gl, wkT, wk1, AV.kept, keptAll, wkO, lk, U5, and_true, true_and, and_self, Nat.reduceEqDiff, Nat.reduceLeDiff, if_true, if_false, reduceIte, reduceCtorEq, Option.isSome, false_implies]; try simp [Wk, wkK, wkT, wk1, AV.kept, keptAll, wkO, lk, U5])
    rintro k ⟨hk, hno⟩
    rcases Ks k v.length with ⟨hlt, hlb⟩ | ⟨hlt, hlb⟩
    · have q1 := Kf v0 hlt
      obtain ⟨⟨s1, s2⟩, s3, s4⟩ := hV (v.getD k v0) (by simp [hlt])
      obtain ⟨x, hx⟩ : ∃ x, v.getD k v0 = x := ⟨_, rfl⟩
      rw [hx] at q1 s1 s2 s3 s4
      have hbad : ((k : Int) == m || longV x) = true → false = fewV v m := by
        intro h
        unfold fewV
        rw [Cq k hlt (by rw [hx, h]; rfl)]
      have hyes : ((k : Int) == m || longV x) = false → ∀ j, j < k + 1 → ((j : Int) == m || longV (v.getD j v0)) = false := by
        intro h j hj
        by_cases hjk : j = k
        · subst hjk; rw [hx]; exact h
        · exact hno j (by omega)
      have hf : longV x = (ltB 100 x.label.length || (ltB 200 x.name.length || (ltB 30 x.t.length || ltB 30 x.u.length))) := rfl
      cases b1 : ((k : Int) == m) with
      | true =>
        (sym =>
         simp [hlb,q1,b1,Uw,szV,Tp,Du,Zb,Zc,Zd,Ze,Zf,Zg,Zo,Zt,Z6,Qb,Qd,Qn,Qo,Qp,Qq,Qs,Q1,Q2,Q4,Q8,Jk,Jy,Jz,J0,J5,J6,J7,J8,J9,Xa,Xb,Xc,Xf,X3,X4,X6,X7,X8,Wb,Wc,Wf,Wh,Wi,Wj,Wt,Wu,Wv,Ww,W8,W9,Ya,Yb,Yd,Ye,Yi,Y0,Y1,Y7,Y8,Y9,Va,Vt,Vu,V5,Uk,Um,Un,Uo,Up,U8,Kq,Kc,U4,U3,Kb]
         tactic =>
          try simp only [U1] at *
          try simp only [nc2] at *
          try simp (maxSteps := 4000000) only [hlb,q1,b1,Uw,szV,U9]
          repeat' (first | with_reducible assumption | with_reducible refine And.intro ?_ ?_ | intro _ | omega | (rw [U0]; omega))
          all_goals exact hbad (by rw [b1]; rfl))
      | false =>
        cases b2 : ltB 100 x.label.length with
        | true =>
          (sym =>
           simp [hlb,q1,b1,b2,Uw,szV,Tp,Du,Zb,Zc,Zd,Ze,Zf,Zg,Zo,Zp,Zq,Zs,Zt,Zv,Zx,Zy,Z6,Qb,Qd,Qn,Qo,Qp,Qq,Qs,Q1,Q2,Q4,Q8,Jk,Jy,Jz,J0,J5,J6,J7,J8,J9,Xa,Xb,Xc,Xf,X3,X4,X6,X7,X8,Wb,Wc,Wf,Wh,Wi,Wj,Wt,Wu,Wv,Ww,W8,W9,Ya,Yb,Yd,Ye,Yg,Yi,Yk,Ym,Yu,Yw,Y0,Y1,Y7,Y8,Y9,Va,Vr,Vt,Vu,V4,V5,Uk,Ul,Um,Un,Uo,Up,U8,Kq,Kc,U4,U3,Kb]
           tactic =>
            try simp only [U1] at *
            try simp only [nc2] at *
            try simp (maxSteps := 4000000) only [hlb,q1,b1,b2,Uw,szV,U9]
            repeat' (first | with_reducible assumption | with_reducible refine And.intro ?_ ?_ | intro _ | omega | (rw [U0]; omega))
            all_goals exact hbad (by rw [b1, hf, b2]; rfl))
        | false =>
          cases b3 : ltB 200 x.name.length with
          | true =>
            (sym =>
             simp [hlb,q1,b1,b2,b3,Uw,szV,Tp,Du,Zb,Zc,Zd,Ze,Zf,Zg,Zo,Zp,Zq,Zs,Zt,Zv,Zx,Zy,Z6,Qb,Qd,Qn,Qo,Qp,Qq,Qs,Q1,Q2,Q4,Q8,Jk,Jy,Jz,J0,J5,J6,J7,J8,J9,Xa,Xb,Xc,Xf,X3,X4,X6,X7,X8,Wb,Wc,Wf,Wh,Wi,Wj,Wt,Wu,Wv,Ww,W8,W9,Ya,Yb,Yd,Ye,Yg,Yi,Yk,Ym,Yu,Yw,Y0,Y1,Y7,Y8,Y9,Va,Vr,Vt,Vu,V4,V5,Uk,Ul,Um,Un,Uo,Up,U8,Kq,Kc,U4,U3,Kb]
             tactic =>
              try simp only [U1] at *
              try simp only [nc2] at *
              try simp (maxSteps := 4000000) only [hlb,q1,b1,b2,b3,Uw,szV,U9]
              repeat' (first | with_reducible assumption | with_reducible refine And.intro ?_ ?_ | intro _ | omega | (rw [U0]; omega))
              all_goals exact hbad (by rw [b1, hf, b2, b3]; rfl))
          | false =>
            cases b4 : ltB 30 x.t.length with
            | true =>
              (sym =>
               simp [hlb,q1,b1,b2,b3,b4,Uw,szV,Tp,Du,Zb,Zc,Zd,Ze,Zf,Zg,Zo,Zp,Zq,Zs,Zt,Zv,Zx,Zy,Z6,Qb,Qd,Qn,Qo,Qp,Qq,Qs,Q1,Q2,Q4,Q8,Jk,Jy,Jz,J0,J5,J6,J7,J8,J9,Xa,Xb,Xc,Xf,X3,X4,X6,X7,X8,Wb,Wc,Wf,Wh,Wi,Wj,Wt,Wu,Wv,Ww,W8,W9,Ya,Yb,Yd,Ye,Yg,Yh,Yi,Yk,Yl,Ym,Yu,Yv,Yw,Y0,Y1,Y7,Y8,Y9,Va,Vr,Vt,Vu,V4,V5,Uk,Ul,Um,Un,Uo,Up,U8,Kq,Kc,U4,U3,Kb]
               tactic =>
                try simp only [U1] at *
                try simp only [nc2] at *
                try simp (maxSteps := 4000000) only [hlb,q1,b1,b2,b3,b4,Uw,szV,U9]
                repeat' (first | with_reducible assumption | with_reducible refine And.intro ?_ ?_ | intro _ | omega | (rw [U0]; omega))
                all_goals exact hbad (by rw [b1, hf, b2, b3, b4]; rfl))
            | false =>
              cases b5 : ltB 30 x.u.length with
              | true =>
                (sym =>
                 simp [hlb,q1,b1,b2,b3,b4,b5,Uw,szV,Tp,Du,Zb,Zc,Zd,Ze,Zf,Zg,Zo,Zp,Zq,Zs,Zt,Zv,Zx,Zy,Z6,Qb,Qd,Qn,Qo,Qp,Qq,Qs,Q1,Q2,Q4,Q8,Jk,Jy,Jz,J0,J5,J6,J7,J8,J9,Xa,Xb,Xc,Xf,X3,X4,X6,X7,X8,Wb,Wc,Wf,Wh,Wi,Wj,Wt,Wu,Wv,Ww,W8,W9,Ya,Yb,Yd,Ye,Yg,Yh,Yi,Yk,Yl,Ym,Yu,Yv,Yw,Y0,Y1,Y7,Y8,Y9,Va,Vr,Vt,Vu,V4,V5,Uk,Ul,Um,Un,Uo,Up,U8,Kq,Kc,U4,U3,Kb]
                 tactic =>
                  try simp only [U1] at *
                  try simp only [nc2] at *
                  try simp (maxSteps := 4000000) only [hlb,q1,b1,b2,b3,b4,b5,Uw,szV,U9]
                  repeat' (first | with_reducible assumption | with_reducible refine And.intro ?_ ?_ | intro _ | omega | (rw [U0]; omega))
                  all_goals exact hbad (by rw [b1, hf, b2, b3, b4, b5]; rfl))
              | false =>
                have hno2 := hyes (by rw [b1, hf, b2, b3, b4, b5]; rfl)
                (sym =>
                 simp [hlb,q1,b1,b2,b3,b4,b5,Uw,szV,Tp,ctx_Few19_w,Zb,Zc,Zd,Ze,Zf,Zg,Zo,Zp,Zq,Zs,Zt,Zv,Zx,Zy,Z6,Qb,Qd,Qq,Qs,Q1,Q2,Q4,Jy,Jz,J0,J5,J6,J7,J8,J9,Xa,Xb,Xc,X3,X4,X6,X7,X8,Wc,Wf,Wh,Wi,Wj,Wt,Wu,Wv,Ww,W8,W9,Ya,Yb,Yd,Ye,Yg,Yh,Yi,Yk,Yl,Ym,Yu,Yv,Yw,Y0,Y1,Y7,Y8,Y9,Va,Vr,Vt,Vu,V4,V5,Uk,Ul,Um,Un,Uo,Up,U8,Kq,Kc,U4,U3,Kb]
                 tactic =>
                  try simp only [U1] at *
                  try simp only [nc2] at *
                  try simp (maxSteps := 4000000) only [hlb,q1,b1,b2,b3,b4,b5,Uw,szV,U9]
                  repeat' (first | with_reducible assumption | with_reducible refine And.intro ?_ ?_ | intro _ | omega | (rw [U0]; omega))
                  all_goals exact ⟨k + 1, by ((try simp only [U2, Ka, U6, Kg, upd, Kh, Ko, Gd, Nat.reduceDiv, Nat.reduceMod, Nat.reduceMul, Nat.reduceAdd, Nat.reduceEqDiff, List.set_cons_zero, List.set_cons_succ, if_true, if_false, reduceIte]); (first | refine Wk.of_fl ?_ | skip); simp only [Wk, wkK, Gl, wkT, wk1, AV.kept, keptAll, wkO, lk, U5, and_true, true_and, and_self, Nat.reduceEqDiff, Nat.reduceLeDiff, if_true, if_false, reduceIte, reduceCtorEq, Option.isSome, false_implies]; try simp [Wk, wkK, wkT, wk1, AV.kept, keptAll, wkO, lk, U5]), by omega, hno2, by omega⟩)
    · have hr : fewV v m = true := by
        unfold fewV
        exact T2 fun j hj => by rw [hno j (by omega)]; rfl
      (sym =>
       simp [hlb,hr,szV,Tp,Du,Zb,Zc,Ze,Zf,Zg,Zo,Z6,Qb,Qd,Qn,Qo,Qp,Qq,Qs,Q1,Q2,Q4,Q8,Jk,Jy,Jz,J0,J5,J6,J8,Xa,Xb,Xc,Xf,X4,X6,X7,Wa,Wb,Wc,Wf,Wh,Wi,Wj,Wt,Wu,Wv,Ww,Ya,Yb,Yd,Ye,Yi,Y0,Y1,Y7,Y8,Y9,Va,Vt,Vu,V5,Ul,Um,Un,Uo,Up,U8,Kq,Kc,U4,U3,Kb]))
end Go.Am.Ty
set_option linter.unusedSimpArgs false
set_option linter.unusedVariables false
set_option maxHeartbeats 1000000
namespace Go.Am.Ty
open Go.Proofs Go.Rose Go.Rose.Rose
open Enc (enc dec)
def B2 : Con := Bg (fun (a b : Sl VNode) => InV a.l ∧ InV b.l) (fun a b => Lu a.l b.l)
noncomputable def E6 : Ctx := ⟨tab, lkC [(18, Kj)], 60, lkB [], [], false⟩
theorem Pk : E6.τ = tab := rfl
theorem Li : E6.Γ = lkC [(18, Kj)] := rfl
theorem Pm : E6.dp = 60 := rfl
theorem Lj : E6.Δ = lkB [] := rfl
theorem Lh : E6.wr = false := rfl
set_option maxRecDepth 100000 in
theorem good_Same19 : Gj Tryz.prog (37, B2) := by
  refine ⟨U7 Tryz.func37 (by kernel_rfl) rfl, ?_⟩
  have K : Ky Tryz.prog E6 := Kd K6 Ki (by
    intro p hp
    simp only [List.mem_cons, List.not_mem_nil, or_false] at hp
    rcases hp with rfl
    · exact Ew) (by simp)
  obtain ⟨c, hc⟩ : ∃ c, Tryz.f37.body = some c := ⟨_, rfl⟩
  refine Ke K Tryz.func37 hc [.tmp 4] rfl 74 rfl (fun cvs hpre => ?_)
  change B2.pre cvs at hpre
  unfold B2 at hpre
  obtain ⟨⟨a⟩, ⟨b⟩, rfl, hIa, hIb⟩ := Gi hpre
  obtain ⟨ha, hA⟩ : InV a := hIa
  obtain ⟨hb, hB⟩ : InV b := hIb
  clear hpre
  simp only [Tryz.f37, Option.some.injEq] at hc
  subst hc
  refine Kw 4 (of_decide_eq_true (by kernel_rfl)) ?_
  (sym =>
   simp [szV,Pk,Pm,B2.eq_def,Zb,Zc,Ze,Zf,Zo,Z6,Qb,Qd,Qn,Qo,Qp,Qq,Qs,Q1,Q2,Q4,Q8,Jk,Jw,J3,J4,J5,J6,J8,Xb,Xf,Xn,Xo,Xv,X3,X4,X6,X7,X8,X9,Wb,Wc,Wf,Wh,Wi,Wj,Wt,Wu,Wv,Ww,Wy,W0,W6,W7,Ya,Yb,Ye,Yi,Yy,Y0,Y1,Y7,Y8,Vb,Vc,Vd,Ve,Vf,Vg,Vj,Vt,Vu,V4,V5,Um,Un,Up,Nx,U8,Ku,Kq,Kc,U4,U3,Kb]
   tactic =>
    try simp only [U1] at *
    try simp only [nc2] at *
    try simp (maxSteps := 4000000) only [szV,U9]
    refine ⟨fun hne => ?_, fun heq => ?_⟩
    · symm
      unfold Lu
      rw [beq_eq_false_iff_ne]
      intro h
      have := congrArg List.length h
      rw [List.length_map, List.length_map] at this
      exact hne (by rw [this])
    have hlen : a.length = b.length := by omega
    refine Km [4, 6, 7, 13, 14, 15, 16, 17, 18, 19, 20, 21, 22, 23, 24, 25, 26, 27, 28, 29, 30, 31, 32, 33, 34, 35, 36, 37, 38, 39, 40, 41, 42, 43, 44, 45, 46, 47, 48, 49, 50, 51, 52, 53, 54, 55, 56, 57, 58, 59, 60, 61, 62, 63, 64, 65, 66, 67, 68, 69, 70, 71, 72, 73] (fun k : Nat => [(5, .d (.int .i64 k))]) (fun k : Nat => []) (fun k : Nat => k ≤ a.length ∧ ∀ j, j < k → L9 (a.getD j v0) = L9 (b.getD j v0)) (fun k : Nat => a.length - k) 0 ?_ ?_ ?_
    · simp
    · ((try simp only [U2, Ka, U6, Kg, upd, Kh, Ko, Gd, Nat.reduceDiv, Nat.reduceMod, Nat.reduceMul, Nat.reduceAdd, Nat.reduceEqDiff, List.set_cons_zero, List.set_cons_succ, if_true, if_false, reduceIte]); (first | refine Wk.of_fl ?_ | skip); simp only [Wk, wkK, Gl, wkT, wk1, AV.kept, keptAll, wkO, lk, U5, and_true, true_and, and_self, Nat.reduceEqDiff, Nat.reduceLeDiff, if_true, if_false, reduceIte, reduceCtorEq, Option.isSome, false_implies]; try simp [Wk, wkK, wkT, wk1, AV.kept, keptAll, wkO, lk, U5])
    rintro k ⟨hk, hno⟩
    rcases Ks k a.length with ⟨hlt, hlb⟩ | ⟨hlt, hlb⟩
    · have q1 := Kf v0 hlt
      have q2 := Kf v0 (show k < b.length by omega)
      have s1 : L5 (a.getD k v0) := hA _ (by simp [hlt])
      have s2 : L5 (b.getD k v0) := hB _ (by simp [show k < b.length by omega])
      obtain ⟨x, hx⟩ : ∃ x, a.getD k v0 = x := ⟨_, rfl⟩
      obtain ⟨y, hy⟩ : ∃ y, b.getD k v0 = y := ⟨_, rfl⟩
      rw [hx] at q1 s1
      rw [hy] at q2 s2
      obtain ⟨s1a, s1b⟩ := s1
      obtain ⟨s2a, s2b⟩ := s2
      have hbad : S8 x y = false → false = Lu a b := by
        intro hs
        symm
        unfold Lu
        rw [beq_eq_false_iff_ne]
        intro e
        have h1 : (a.map L9).getD k v0 = (b.map L9).getD k v0 := by rw [e]
        have h2 : L9 x = L9 y := by rw [← hx, ← hy]; simpa [hlt, show k < b.length by omega] using h1
        rw [A5.2 h2] at hs
        cases hs
      have hyes : S8 x y = true → ∀ j, j < k + 1 → L9 (a.getD j v0) = L9 (b.getD j v0) := by
        intro hs j hj
        by_cases hjk : j = k
        · subst hjk; rw [hx, hy]; exact A5.1 hs
        · exact hno j (by omega)
      cases e0 : (x.kind == y.kind) with
      | false =>
        have n0 : (x.kind != y.kind) = true := by rw [bne, e0]; rfl
        (sym =>
         simp [hlb,q1,q2,n0,Uw,szV,szN,Pk,Li,Pm,Lj,Lh,Kj.eq_def,Zb,Zc,Zd,Ze,Zf,Zg,Zh,Zi,Zj,Zk,Zl,Zm,Zo,Zp,Zq,Zs,Zt,Zu,Zv,Zw,Zx,Zy,Z6,Qb,Qd,Qk,Ql,Qm,Qn,Qo,Qp,Qq,Qr,Qs,Q1,Q2,Q4,Q5,Q6,Q8,Jh,Ji,Jk,Jy,Jz,J0,J5,J6,J8,J9,Xa,Xb,Xc,Xf,Xp,Xr,Xs,Xv,X3,X4,X5,X6,X7,X8,Wb,Wc,Wd,We,Wf,Wg,Wh,Wi,Wj,Wm,Wp,Wt,Wu,Wv,Ww,W4,W5,W6,W7,W8,W9,Ya,Yb,Yd,Ye,Yi,Ym,Yq,Y0,Y1,Y7,Y8,Y9,Va,Vc,Ve,Vf,Vg,Vr,Vt,Vu,V5,Uk,Ul,Um,Un,Uo,Up,Uq,Nx,U8,Ku,Kq,Kc,U4,U3,Kb]
         tactic =>
          try simp only [U1] at *
          try simp only [nc2] at *
          try simp (maxSteps := 4000000) only [hlb,q1,q2,n0,Uw,szV,szN,U9]
          repeat' (first | with_reducible assumption | with_reducible refine And.intro ?_ ?_ | intro _ | omega | (rw [U0]; omega))
          all_goals first
            | (with_reducible refine Kl ?_; kernel_rfl)
            | omega
            | assumption
            | exact hbad (by unfold S8; simp only [e0, Bool.true_and, Bool.false_and]))
      | true =>
        have n0 : (x.kind != y.kind) = false := by rw [bne, e0]; rfl
        cases e1 : (x.label == y.label) with
        | false =>
          (sym =>
           simp [hlb,q1,q2,n0,e1,Uw,szV,szN,Pk,Li,Pm,Lj,Lh,Kj.eq_def,Zb,Zc,Zd,Ze,Zf,Zg,Zh,Zi,Zj,Zk,Zl,Zm,Zo,Zp,Zq,Zs,Zt,Zu,Zv,Zw,Zx,Zy,Z6,Qb,Qd,Qk,Ql,Qm,Qn,Qo,Qp,Qq,Qr,Qs,Q1,Q2,Q4,Q5,Q6,Q8,Jh,Ji,Jk,Jy,Jz,J0,J5,J6,J8,J9,Xa,Xb,Xc,Xf,Xp,Xr,Xs,Xv,X3,X4,X5,X6,X7,X8,Wb,Wc,Wd,We,Wf,Wg,Wh,Wi,Wj,Wm,Wp,Wt,Wu,Wv,Ww,W4,W5,W6,W7,W8,W9,Ya,Yb,Yd,Ye,Yg,Yi,Yk,Ym,Yq,Y0,Y1,Y7,Y8,Y9,Va,Vc,Ve,Vf,Vg,Vq,Vr,Vt,Vu,V5,Uk,Ul,Um,Un,Uo,Up,Uq,Nx,U8,Ku,Kq,Kc,U4,U3,Kb]
           tactic =>
            try simp only [U1] at *
            try simp only [nc2] at *
            try simp (maxSteps := 4000000) only [hlb,q1,q2,n0,e1,Uw,szV,szN,U9]
            repeat' (first | with_reducible assumption | with_reducible refine And.intro ?_ ?_ | intro _ | omega | (rw [U0]; omega))
            all_goals first
              | (with_reducible refine Kl ?_; kernel_rfl)
              | omega
              | assumption
              | exact hbad (by unfold S8; simp only [e0, e1, Bool.true_and, Bool.false_and]))
        | true =>
          cases e2 : (x.name == y.name) with
          | false =>
            (sym =>
             simp [hlb,q1,q2,n0,e1,e2,Uw,szV,szN,Pk,Li,Pm,Lj,Lh,Kj.eq_def,Zb,Zc,Zd,Ze,Zf,Zg,Zh,Zi,Zj,Zk,Zl,Zm,Zo,Zp,Zq,Zs,Zt,Zu,Zv,Zw,Zx,Zy,Z6,Qb,Qd,Qk,Ql,Qm,Qn,Qo,Qp,Qq,Qr,Qs,Q1,Q2,Q4,Q5,Q6,Q8,Jh,Ji,Jk,Jy,Jz,J0,J5,J6,J8,J9,Xa,Xb,Xc,Xf,Xp,Xr,Xs,Xv,X3,X4,X5,X6,X7,X8,Wb,Wc,Wd,We,Wf,Wg,Wh,Wi,Wj,Wm,Wp,Wt,Wu,Wv,Ww,W4,W5,W6,W7,W8,W9,Ya,Yb,Yd,Ye,Yg,Yi,Yk,Ym,Yq,Y0,Y1,Y7,Y8,Y9,Va,Vc,Ve,Vf,Vg,Vp,Vq,Vr,Vt,Vu,V5,Uk,Ul,Um,Un,Uo,Up,Uq,Nx,U8,Ku,Kq,Kc,U4,U3,Kb]
             tactic =>
              try simp only [U1] at *
              try simp only [nc2] at *
              try simp (maxSteps := 4000000) only [hlb,q1,q2,n0,e1,e2,Uw,szV,szN,U9]
              repeat' (first | with_reducible assumption | with_reducible refine And.intro ?_ ?_ | intro _ | omega | (rw [U0]; omega))
              all_goals first
                | (with_reducible refine Kl ?_; kernel_rfl)
                | omega
                | assumption
                | exact hbad (by unfold S8; simp only [e0, e1, e2, Bool.true_and, Bool.false_and]))
          | true =>
            cases e3 : (x.num == y.num) with
            | false =>
              have n3 : (x.num != y.num) = true := by rw [bne, e3]; rfl
              (sym =>
               simp [hlb,q1,q2,n0,e1,e2,n3,Uw,szV,szN,Pk,Li,Pm,Lj,Lh,Kj.eq_def,Zb,Zc,Zd,Ze,Zf,Zg,Zh,Zi,Zj,Zk,Zl,Zm,Zo,Zp,Zq,Zs,Zt,Zu,Zv,Zw,Zx,Zy,Z6,Qb,Qd,Qk,Ql,Qm,Qn,Qo,Qp,Qq,Qr,Qs,Q1,Q2,Q4,Q5,Q6,Q8,Jh,Ji,Jk,Jy,Jz,J0,J5,J6,J8,J9,Xa,Xb,Xc,Xf,Xp,Xr,Xs,Xv,X3,X4,X5,X6,X7,X8,Wb,Wc,Wd,We,Wf,Wg,Wh,Wi,Wj,Wm,Wp,Wt,Wu,Wv,Ww,W4,W5,W6,W7,W8,W9,Ya,Yb,Yd,Ye,Yg,Yi,Yk,Ym,Yq,Y0,Y1,Y7,Y8,Y9,Va,Vc,Ve,Vf,Vg,Vp,Vr,Vt,Vu,V5,Uk,Ul,Um,Un,Uo,Up,Uq,Nx,U8,Ku,Kq,Kc,U4,U3,Kb]
               tactic =>
                try simp only [U1] at *
                try simp only [nc2] at *
                try simp (maxSteps := 4000000) only [hlb,q1,q2,n0,e1,e2,n3,Uw,szV,szN,U9]
                repeat' (first | with_reducible assumption | with_reducible refine And.intro ?_ ?_ | intro _ | omega | (rw [U0]; omega))
                all_goals first
                  | (with_reducible refine Kl ?_; kernel_rfl)
                  | omega
                  | assumption
                  | exact hbad (by unfold S8; simp only [e0, e1, e2, e3, Bool.true_and, Bool.false_and]))
            | true =>
              have n3 : (x.num != y.num) = false := by rw [bne, e3]; rfl
              cases e4 : (x.many == y.many) with
              | false =>
                have n4 : (x.many != y.many) = true := by rw [bne, e4]; rfl
                (sym =>
                 simp [hlb,q1,q2,n0,e1,e2,n3,n4,Uw,szV,szN,Pk,Li,Pm,Lj,Lh,Kj.eq_def,Zb,Zc,Zd,Ze,Zf,Zg,Zh,Zi,Zj,Zk,Zl,Zm,Zo,Zp,Zq,Zs,Zt,Zu,Zv,Zw,Zx,Zy,Z6,Qb,Qd,Qk,Ql,Qm,Qn,Qo,Qp,Qq,Qr,Qs,Q1,Q2,Q4,Q5,Q6,Q8,Jh,Ji,Jk,Jy,Jz,J0,J5,J6,J8,J9,Xa,Xb,Xc,Xf,Xp,Xr,Xs,Xv,X3,X4,X5,X6,X7,X8,Wb,Wc,Wd,We,Wf,Wg,Wh,Wi,Wj,Wm,Wp,Wt,Wu,Wv,Ww,W4,W5,W6,W7,W8,W9,Ya,Yb,Yd,Ye,Yg,Yi,Yk,Ym,Yq,Y0,Y1,Y7,Y8,Y9,Va,Vc,Ve,Vf,Vg,Vp,Vr,Vt,Vu,V5,Uk,Ul,Um,Un,Uo,Up,Uq,Nx,U8,Ku,Kq,Kc,U4,U3,Kb]
                 tactic =>
                  try simp only [U1] at *
                  try simp only [nc2] at *
                  try simp (maxSteps := 4000000) only [hlb,q1,q2,n0,e1,e2,n3,n4,Uw,szV,szN,U9]
                  repeat' (first | with_reducible assumption | with_reducible refine And.intro ?_ ?_ | intro _ | omega | (rw [U0]; omega))
                  all_goals first
                    | (with_reducible refine Kl ?_; kernel_rfl)
                    | omega
                    | assumption
                    | exact hbad (by unfold S8; simp only [e0, e1, e2, e3, e4, Bool.true_and, Bool.false_and]))
              | true =>
                have n4 : (x.many != y.many) = false := by rw [bne, e4]; rfl
                cases e5 : Gp x.t y.t with
                | false =>
                  (sym =>
                   simp [hlb,q1,q2,n0,e1,e2,n3,n4,e5,Uw,szV,szN,Pk,Li,Pm,Lj,Lh,Kj.eq_def,Zb,Zc,Zd,Ze,Zf,Zg,Zh,Zi,Zj,Zk,Zl,Zm,Zo,Zp,Zq,Zs,Zt,Zu,Zv,Zw,Zx,Zy,Z6,Z9,Qb,Qc,Qd,Qe,Qf,Qk,Ql,Qm,Qn,Qo,Qp,Qq,Qr,Qs,Q1,Q2,Q4,Q5,Q6,Q8,Jf,Jh,Ji,Jj,Jk,Jl,Jy,Jz,J0,J5,J6,J7,J8,J9,Xa,Xb,Xc,Xf,Xp,Xr,Xs,Xv,X3,X4,X5,X6,X7,X8,Wb,Wc,Wd,We,Wf,Wg,Wh,Wi,Wj,Wm,Wp,Wt,Wu,Wv,Ww,Wx,Wz,W0,W4,W5,W6,W7,W8,W9,Ya,Yb,Yd,Ye,Yf,Yg,Yi,Yj,Yk,Ym,Yq,Yy,Y0,Y1,Y7,Y8,Y9,Va,Vc,Ve,Vf,Vg,Vk,Vl,Vp,Vq,Vr,Vt,Vu,V5,Uk,Ul,Um,Un,Uo,Up,Uq,Nx,U8,Ku,Kq,Kc,U4,U3,Kb]
                   tactic =>
                    try simp only [U1] at *
                    try simp only [nc2] at *
                    try simp (maxSteps := 4000000) only [hlb,q1,q2,n0,e1,e2,n3,n4,e5,Uw,szV,szN,U9]
                    repeat' (first | with_reducible assumption | with_reducible refine And.intro ?_ ?_ | intro _ | omega | (rw [U0]; omega))
                    all_goals first
                      | (with_reducible refine Kl ?_; kernel_rfl)
                      | omega
                      | assumption
                      | exact hbad (by unfold S8; simp only [e0, e1, e2, e3, e4, e5, Bool.true_and, Bool.false_and]))
                | true =>
                  cases e6 : Gp x.u y.u with
                  | false =>
                    (sym =>
                     simp [hlb,q1,q2,n0,e1,e2,n3,n4,e5,e6,Uw,szV,szN,Pk,Li,Pm,Lj,Lh,Kj.eq_def,Zb,Zc,Zd,Ze,Zf,Zg,Zh,Zi,Zj,Zk,Zl,Zm,Zo,Zp,Zq,Zs,Zt,Zu,Zv,Zw,Zx,Zy,Z6,Z9,Qb,Qc,Qd,Qe,Qf,Qk,Ql,Qm,Qn,Qo,Qp,Qq,Qr,Qs,Q1,Q2,Q4,Q5,Q6,Q8,Jf,Jh,Ji,Jj,Jk,Jl,Jy,Jz,J0,J5,J6,J7,J8,J9,Xa,Xb,Xc,Xf,Xp,Xr,Xs,Xv,X3,X4,X5,X6,X7,X8,Wb,Wc,Wd,We,Wf,Wg,Wh,Wi,Wj,Wm,Wp,Wt,Wu,Wv,Ww,Wx,Wz,W0,W4,W5,W6,W7,W8,W9,Ya,Yb,Yd,Ye,Yf,Yg,Yi,Yj,Yk,Ym,Yq,Yy,Y0,Y1,Y7,Y8,Y9,Va,Vc,Ve,Vf,Vg,Vk,Vl,Vp,Vq,Vr,Vt,Vu,V5,Uk,Ul,Um,Un,Uo,Up,Uq,Nx,U8,Ku,Kq,Kc,U4,U3,Kb]
                     tactic =>
                      try simp only [U1] at *
                      try simp only [nc2] at *
                      try simp (maxSteps := 4000000) only [hlb,q1,q2,n0,e1,e2,n3,n4,e5,e6,Uw,szV,szN,U9]
                      repeat' (first | with_reducible assumption | with_reducible refine And.intro ?_ ?_ | intro _ | omega | (rw [U0]; omega))
                      all_goals first
                        | (with_reducible refine Kl ?_; kernel_rfl)
                        | omega
                        | assumption
                        | exact hbad (by unfold S8; simp only [e0, e1, e2, e3, e4, e5, e6, Bool.true_and, Bool.false_and]))
                  | true =>
                    have hno2 := hyes (by unfold S8; simp only [e0, e1, e2, e3, e4, e5, e6, Bool.true_and])
                    (sym =>
                     simp [hlb,q1,q2,n0,e1,e2,n3,n4,e5,e6,Uw,szV,szN,Pk,Li,Pm,Lj,Lh,Kj.eq_def,Zb,Zc,Zd,Ze,Zf,Zg,Zh,Zi,Zj,Zk,Zl,Zm,Zo,Zp,Zq,Zs,Zt,Zu,Zv,Zw,Zx,Zy,Z6,Z9,Qb,Qc,Qd,Qe,Qf,Qk,Ql,Qm,Qq,Qr,Qs,Q1,Q2,Q4,Q5,Q6,Q8,Jf,Jh,Ji,Jj,Jl,Jy,Jz,J0,J5,J6,J7,J8,J9,Xa,Xb,Xc,Xf,Xp,Xr,Xs,Xv,X3,X4,X5,X6,X7,X8,Wc,Wd,We,Wf,Wg,Wh,Wi,Wj,Wm,Wp,Wt,Wu,Wv,Ww,Wx,Wz,W0,W4,W5,W6,W7,W8,W9,Ya,Yb,Yd,Ye,Yf,Yg,Yi,Yj,Yk,Ym,Yq,Yy,Y0,Y1,Y7,Y8,Y9,Va,Vc,Ve,Vf,Vg,Vk,Vl,Vp,Vr,Vt,Vu,V4,V5,Uk,Ul,Um,Un,Uo,Up,Uq,Nx,U8,Ku,Kq,Kc,U4,U3,Kb]
                     tactic =>
                      try simp only [U1] at *
                      try simp only [nc2] at *
                      try simp (maxSteps := 4000000) only [hlb,q1,q2,n0,e1,e2,n3,n4,e5,e6,Uw,szV,szN,U9]
                      repeat' (first | with_reducible assumption | with_reducible refine And.intro ?_ ?_ | intro _ | omega | (rw [U0]; omega))
                      all_goals first
                        | (with_reducible refine Kl ?_; kernel_rfl)
                        | omega
                        | assumption
                        | exact ⟨k + 1, by ((try simp only [U2, Ka, U6, Kg, upd, Kh, Ko, Gd, Nat.reduceDiv, Nat.reduceMod, Nat.reduceMul, Nat.reduceAdd, Nat.reduceEqDiff, List.set_cons_zero, List.set_cons_succ, if_true, if_false, reduceIte]); (first | refine Wk.of_fl ?_ | skip); simp only [Wk, wkK, Gl, wkT, wk1, AV.kept, keptAll, wkO, lk, U5, and_true, true_and, and_self, Nat.reduceEqDiff, Nat.reduceLeDiff, if_true, if_false, reduceIte, reduceCtorEq, Option.isSome, false_implies]; try simp [Wk, wkK, wkT, wk1, AV.kept, keptAll, wkO, lk, U5]), by omega, hno2, by omega⟩)
    · (sym =>
       simp [hlb,szV,Pk,Pm,Zb,Zc,Ze,Zf,Zg,Zo,Z6,Qb,Qd,Qn,Qo,Qp,Qq,Qs,Q1,Q2,Q4,Q8,Jk,Jy,Jz,J0,J5,J6,J8,J9,Xa,Xb,Xc,Xf,X4,X6,X7,Wa,Wb,Wc,Wf,Wh,Wi,Wj,Wt,Wu,Wv,Ww,Ya,Yb,Yd,Ye,Yi,Y0,Y1,Y7,Y8,Y9,Va,Vt,Vu,V5,Ul,Um,Un,Uo,Up,Nx,U8,Ku,Kq,Kc,U4,U3,Kb]
       tactic =>
        try simp only [U1] at *
        try simp only [nc2] at *
        try simp (maxSteps := 4000000) only [hlb,szV,U9]
        symm
        unfold Lu
        rw [beq_iff_eq]
        refine List.ext_getElem (by simp [hlen]) fun j h1 h2 => ?_
        rw [List.length_map] at h1 h2
        have := hno j (by omega)
        simpa [h1, h2] using this))
end Go.Am.Ty
set_option linter.unusedSimpArgs false
set_option linter.unusedVariables false
set_option maxHeartbeats 1000000
namespace Go.Am.Ty
open Go.Proofs Go.Rose Go.Rose.Rose
open Enc (enc dec)
def Mh (t : List Node) : Bool := P8 t && (Nt t && (t.getD 0 n0).kind == 5)
def Bp : Con := Ss (fun (t : Sl Node) => t.l.length ≤ 1000000 ∧ Cz t.l) (fun t => Mh t.l)
noncomputable def D8 : Ctx := ⟨tab, lkC [(89, Pe), (90, Sr)], 60, lkB [], [], false⟩
theorem ctx_isArrowV_t : D8.τ = tab := rfl
theorem Iw : D8.Γ = lkC [(89, Pe), (90, Sr)] := rfl
theorem Iv : D8.dp = 60 := rfl
theorem Ix : D8.Δ = lkB [] := rfl
theorem good_isArrowV : Gj Tryz.prog (71, Bp) := by
  refine ⟨U7 Tryz.func71 (by kernel_rfl) rfl, ?_⟩
  have K : Ky Tryz.prog D8 := Kd K6 Ki (by
    intro p hp
    simp only [List.mem_cons, List.not_mem_nil, or_false] at hp
    rcases hp with rfl | rfl
    · exact good_RightT
    · exact good_PlainT) (by simp)
  obtain ⟨c, hc⟩ : ∃ c, Tryz.f71.body = some c := ⟨_, rfl⟩
  refine Ke K Tryz.func71 hc [.tmp 2] rfl 16 rfl (fun cvs hpre => ?_)
  change Bp.pre cvs at hpre
  unfold Bp at hpre
  obtain ⟨⟨t⟩, rfl, ht, hN⟩ := Ha hpre
  simp only at ht hN
  have hr := right_same t
  have hf : Mh t = (P8 t && (Nt t && (t.getD 0 n0).kind == 5)) := rfl
  simp only [Tryz.f71, Option.some.injEq] at hc
  subst hc
  cases h1 : P8 t with
  | false =>
    rw [h1, Bool.false_and] at hf
    (sym =>
     simp [hr,h1,hf,Uu,Us,Uv,Ur,szN,Ut,Iw,Iv,Ix,Sr.eq_def,Pe.eq_def,Bp.eq_def,Za,Zb,Zc,Zd,Ze,Zf,Zt,Z9,Qe,Qf,Qn,Qo,Qp,Qq,Qs,Q1,Q2,Q4,Q8,Jf,Jj,Jk,Jl,Jw,J3,J4,Xf,Xu,X4,X6,Wb,Wc,Wf,Wh,Wt,Wu,Wv,Ww,Wx,Wy,Wz,W0,W6,W7,W8,W9,Yy,Y7,Y8,Y9,Va,Vb,Vc,Vj,Vo,Vu,V5,Ul,Um,Un,U8,U4,U3]
     tactic =>
      try simp only [U1] at *
      try simp only [nc2] at *
      try simp (maxSteps := 4000000) only [hr,h1,hf,Uu,Us,Uv,Ur,szN,Ut,U9]
      repeat' (first | with_reducible assumption | with_reducible refine And.intro ?_ ?_ | intro _ | omega | (rw [U0]; omega)))
  | true =>
    obtain ⟨x, hx, _⟩ := Bi h1
    have hl : 0 < t.length := by rw [hx]; exact N8 x
    have hel := el_map0 hl
    rw [h1, Bool.true_and] at hf
    cases h2 : Nt t with
    | false =>
      rw [h2, Bool.false_and] at hf
      (sym =>
       simp [hr,h1,h2,hf,Uu,Us,Uv,Ur,szN,Ut,Iw,Iv,Ix,Sr.eq_def,Pe.eq_def,Bp.eq_def,Za,Zb,Zc,Zd,Ze,Zf,Zt,Z9,Qe,Qf,Qn,Qo,Qp,Qq,Qs,Q1,Q2,Q4,Q8,Jf,Jj,Jk,Jl,Jw,J3,J4,Xf,Xu,X4,X6,Wb,Wc,Wf,Wh,Wt,Wu,Wv,Ww,Wx,Wy,Wz,W0,W6,W7,W8,W9,Yy,Y7,Y8,Y9,Va,Vb,Vc,Vj,Vo,Vu,V5,Uk,Ul,Um,Un,Uo,U8,U4,U3]
       tactic =>
        try simp only [U1] at *
        try simp only [nc2] at *
        try simp (maxSteps := 4000000) only [hr,h1,h2,hf,Uu,Us,Uv,Ur,szN,Ut,U9]
        repeat' (first | with_reducible assumption | with_reducible refine And.intro ?_ ?_ | intro _ | omega | (rw [U0]; omega)))
    | true =>
      rw [h2, Bool.true_and] at hf
      (sym =>
       simp [hr,h1,h2,hf,hel,Uu,Us,Uv,Ur,szN,Ut,ctx_isArrowV_t,Iw,Iv,Ix,Sr.eq_def,Pe.eq_def,Bp.eq_def,Za,Zb,Zc,Zd,Ze,Zf,Zo,Zp,Zq,Zs,Zt,Zv,Zx,Zy,Z9,Qb,Qd,Qe,Qf,Qn,Qo,Qp,Qq,Qs,Q1,Q2,Q4,Q8,Jf,Jj,Jk,Jl,Jw,J3,J4,Xf,Xu,X4,X6,Wb,Wc,Wf,Wh,Wi,Wj,Wt,Wu,Wv,Ww,Wx,Wy,Wz,W0,W6,W7,W8,W9,Ye,Yi,Ym,Yt,Yw,Yy,Y0,Y1,Y7,Y8,Y9,Va,Vb,Vc,Vj,Vo,Vs,Vu,V4,V5,Uk,Um,Un,Uo,Up,U8,U4,U3]
       tactic =>
        try simp only [U1] at *
        try simp only [nc2] at *
        try simp (maxSteps := 4000000) only [hr,h1,h2,hf,hel,Uu,Us,Uv,Ur,szN,Ut,U9]
        repeat' (first | with_reducible assumption | with_reducible refine And.intro ?_ ?_ | intro _ | omega | (rw [U0]; omega)))
end Go.Am.Ty
set_option linter.unusedSimpArgs false
set_option linter.unusedVariables false
set_option maxHeartbeats 1000000
namespace Go.Am.Ty
open Go.Proofs Go.Rose Go.Rose.Rose Go.Shelf
open Go.RowKit (Below)
open Enc (enc dec)
def Ff : Con := ⟨[true, false], [true], fun c => match c with
  | [.own s l, .d (.int k n)] => s = 7 ∧ l = [] ∧ k = .i64 ∧ 0 ≤ n ∧ n ≤ 1000000000
  | _ => False, fun c => .own 7 []⟩
def Fg : Con := ⟨[true, false], [true], fun c => match c with
  | [.own s l, .d (.int k n)] => s = 3 ∧ l = [] ∧ k = .i64 ∧ 0 ≤ n ∧ n ≤ 1000000000
  | _ => False, fun c => .own 3 []⟩
def rhoV : Ren := ⟨fun x => if x = 4 then 83 else x, fun x => if x = 22 then 23 else if x = 25 then 44 else x, fun x => x⟩
theorem L8V : Lays8.n4 Tryz.prog rhoV := ⟨by kernel_rfl, ⟨"slices.Grow[leaven/api.Value,leaven/api.VNode]", by decide, by show Tryz.prog.funcs[83]? = _; rw [Tryz.func83]; kernel_rfl⟩,
  Tryz.underlying0, Tryz.isAgg0, Tryz.sizeOf0, Tryz.zeroValue0, Tryz.underlying3, Tryz.isAgg3, Tryz.sizeOf3, Tryz.zeroValue3, Tryz.underlying4, Tryz.isAgg4, Tryz.sizeOf4, Tryz.zeroValue4, Tryz.underlying9, Tryz.isAgg9, Tryz.sizeOf9, Tryz.zeroValue9,
  Tryz.underlying20, Tryz.isAgg20, Tryz.sizeOf20, Tryz.zeroValue20, Tryz.underlying23, Tryz.isAgg23, Tryz.sizeOf23, Tryz.zeroValue23⟩
def rhoN : Ren := ⟨fun x => if x = 4 then 104 else x, fun x => if x = 22 then 25 else if x = 25 then 39 else x, fun x => x⟩
theorem L8N : Lays8.n4 Tryz.prog rhoN := ⟨by kernel_rfl, ⟨"slices.Grow[leaven/api.Type,leaven/api.Node]", by decide, by show Tryz.prog.funcs[104]? = _; rw [Tryz.func104]; kernel_rfl⟩,
  Tryz.underlying0, Tryz.isAgg0, Tryz.sizeOf0, Tryz.zeroValue0, Tryz.underlying3, Tryz.isAgg3, Tryz.sizeOf3, Tryz.zeroValue3, Tryz.underlying4, Tryz.isAgg4, Tryz.sizeOf4, Tryz.zeroValue4, Tryz.underlying9, Tryz.isAgg9, Tryz.sizeOf9, Tryz.zeroValue9,
  Tryz.underlying20, Tryz.isAgg20, Tryz.sizeOf20, Tryz.zeroValue20, Tryz.underlying25, Tryz.isAgg25, Tryz.sizeOf25, Tryz.zeroValue25⟩
theorem cap1 {n g : Nat} (h : n ≤ g) : n + (g - n) = g := by omega
theorem cap2 {c n g : Nat} (h1 : c ≤ n) (h : n ≤ g) : c + (n - c) + (g - n) = g := by omega
theorem grow_good {e s : Nat} {ρ : Ren} (L : Lays8.n4 Tryz.prog ρ) (he : ρ.t 25 = e) (T : TyOk Tryz.prog tab e) (hs : (tab e).size = s) (hb : (tab e).bytes ≤ 140000) {f : Nat} (hf : ρ.f 4 = f) (hE : Ob Tryz.prog f) {con : Con}
    (hpre : ∀ c, con.pre c → ∃ n : Nat, c = [.own s [], .d (.int .i64 n)] ∧ n ≤ 1000000000) (hfn : ∀ c, con.fn c = .own s []) : Gj Tryz.prog (f, con) := by
  refine ⟨hE, ?_⟩
  intro m w cvs vs hp hcv hnd hnew
  obtain ⟨n, rfl, hn⟩ := hpre _ hp
  simp only [Lm, CVR, R] at hcv
  obtain ⟨v, r, rfl, hv, v2, r2, rfl, rfl, rfl⟩ := hcv
  obtain ⟨i0, z, t1, t2, t3, t4, _, _, t7, _⟩ := T.info
  have hs0 : 0 < i0.size := by rw [t2]; exact T.pos
  have hown : K8 [CV.own s [], CV.d (.int .i64 n)] [v, .int .i64 n] = v.ownBlock.toList := by simp [K8]
  have fin : ∀ (v' : Value) (w' : World), Frame w.heap.size (· ∈ K8 [CV.own s [], CV.d (.int .i64 n)] [v, .int .i64 n]) w w' → OwnV ⟨w', m⟩ s [] v' → (∀ b, v'.ownBlock = some b → w.heap.size ≤ b ∨ v.ownBlock = some b) →
      ∃ u m', Ending.returned v' = .returned u ∧ Frame w.heap.size (· ∈ K8 [CV.own s [], CV.d (.int .i64 n)] [v, .int .i64 n]) w w' ∧ (∀ b, b < w.heap.size → b ∉ K8 [CV.own s [], CV.d (.int .i64 n)] [v, .int .i64 n] → m' b = m b) ∧
        (∀ b, w'.heap.size ≤ b → m' b = 0) ∧ Res ⟨w', m'⟩ w.heap.size (· ∈ K8 [CV.own s [], CV.d (.int .i64 n)] [v, .int .i64 n]) (con.fn [CV.own s [], CV.d (.int .i64 n)]) u := by
    intro v' w' hF hO hB
    refine ⟨v', m, rfl, hF, fun _ _ _ => rfl, fun b hb => hnew b (by have := hF.size; omega), ?_⟩
    rw [hfn]
    simp only [Res, Lm, CVR]
    refine ⟨⟨v', [], rfl, hO, rfl⟩, fun b hbb => ?_⟩
    have hb2 : v'.ownBlock = some b := by simpa [K8] using hbb
    rcases hB b hb2 with h | h
    · exact .inl h
    · exact .inr (by rw [hown, h]; simp)
  have hbig : n * i0.bytes ≤ 140737488355328 := by
    rw [t3]
    calc n * (tab e).bytes ≤ 1000000000 * 140000 := Nat.mul_le_mul hn hb
      _ ≤ 140737488355328 := by omega
  have hFa : ∀ x, Frame w.heap.size (· ∈ K8 [CV.own s [], CV.d (.int .i64 n)] [v, .int .i64 n]) w (w.drew.alloc x) := fun x =>
    ⟨rfl, rfl, rfl, by simp, fun b hb _ => Below.heap_alloc w.drew _ b hb⟩
  subst hf
  rcases hv with ⟨rfl, _⟩ | ⟨b, cap, cs, ty, rfl, hc1, hc2, hc3, hc4, hc5, hc6, hc7⟩
  · by_cases h0 : n = 0
    · subst h0
      refine (Any8.slices_Grow_room L none 0 0 0 w (by omega) (by omega) (by omega) (by omega)).mono ?_
      rintro e' w' ⟨rfl, rfl⟩
      exact fin _ _ (Frame.refl _ _ _) (.inl ⟨rfl, rfl⟩) (by simp [Value.ownBlock])
    · refine (Any8.slices_Grow_grow L i0 z (by rw [he]; exact t1) t4 hs0 none 0 0 n [] w (by omega) (by omega) (by rw [Nat.zero_add]; exact hbig) (by omega) (by simp) (fun _ => rfl) (by simp)).mono ?_
      rintro e' w' ⟨rfl, rfl⟩
      refine fin _ _ (hFa _) (.inr ⟨w.heap.size, _, _, _, rfl, Nat.zero_le _, ?_, heap_alloc_new w.drew _, ?_, ?_, hnew _ (Nat.le_refl _), by rw [← hs]; exact T.pos⟩) (by simp [Value.ownBlock])
      · exact grownCap_le_maxLen w _ 0 _ (by unfold maxLen; omega)
      · have := grownCap_ge w (0 + n) 0 (ρ.t 25)
        simp only [Array.size_append, Su, List.size_toArray, List.length_nil, Nat.zero_add, Nat.sub_zero] at this ⊢
        rw [t7, hs, ← Nat.add_mul]
        rw [cap1 this]
      · simp [RE]
  · by_cases h0 : n ≤ cap
    · refine (Any8.slices_Grow_room L _ 0 cap n w (Nat.zero_le _) (by unfold maxLen at hc2; omega) (by omega) (by omega)).mono ?_
      rintro e' w' ⟨rfl, rfl⟩
      exact fin _ _ (Frame.refl _ _ _) (.inr ⟨b, cap, cs, ty, rfl, hc1, hc2, hc3, hc4, hc5, hc6, hc7⟩) (fun _ h => .inr h)
    · refine (Any8.slices_Grow_grow L i0 z (by rw [he]; exact t1) t4 hs0 (some ⟨b, 0, none⟩) 0 cap n cs.toList w (Nat.zero_le _) (by rw [Nat.zero_add]; exact Nat.lt_of_not_le h0) (by rw [Nat.zero_add]; exact hbig) (by rw [Nat.zero_add]; exact Nat.le_trans hn (by decide)) (by simpa [t2, hs] using hc4) (by simp) ?_).mono ?_
      · intro a ha j u hu
        obtain rfl := Option.some.inj ha
        rw [Addr.add_lit, Nat.zero_add, Tw hc3]
        simpa using hu
      rintro e' w' ⟨rfl, rfl⟩
      refine fin _ _ (hFa _) (.inr ⟨w.heap.size, _, _, _, rfl, Nat.zero_le _, ?_, heap_alloc_new w.drew _, ?_, ?_, hnew _ (Nat.le_refl _), hc7⟩) (by simp [Value.ownBlock])
      · exact grownCap_le_maxLen w _ _ _ (by unfold maxLen; omega)
      · have := grownCap_ge w (0 + n) cap (ρ.t 25)
        simp only [Array.size_append, Su, Nat.zero_add] at this ⊢
        rw [t7, hs, hc4, ← Nat.add_mul, ← Nat.add_mul, cap2 (Nat.le_of_not_le h0) this]
      · simp [RE]
theorem good_growV : Gj Tryz.prog (83, Ff) := by
  refine grow_good (s := 7) L8V rfl (K6 44 rfl) rfl (by decide) rfl (U7 Tryz.func83 (by kernel_rfl) rfl) (fun c h => ?_) (fun _ => rfl)
  unfold Ff at h
  simp only at h
  split at h
  · next s l k n =>
    obtain ⟨rfl, rfl, rfl, h1, h2⟩ := h
    exact ⟨n.toNat, by rw [S7 h1], by omega⟩
  · exact h.elim
theorem good_growN : Gj Tryz.prog (104, Fg) := by
  refine grow_good (s := 3) L8N rfl (K6 39 rfl) rfl (by decide) rfl (U7 Tryz.func104 (by kernel_rfl) rfl) (fun c h => ?_) (fun _ => rfl)
  unfold Fg at h
  simp only at h
  split at h
  · next s l k n =>
    obtain ⟨rfl, rfl, rfl, h1, h2⟩ := h
    exact ⟨n.toNat, by rw [S7 h1], by omega⟩
  · exact h.elim
def Lg {α : Type} (l : List (Sl α)) : List α := l.flatMap (·.l)
theorem flat_nil {α : Type} : Lg ([] : List (Sl α)) = [] := rfl
theorem flat_take {α : Type} {l : List (Sl α)} {k : Nat} (h : k < l.length) : Lg (l.take (k + 1)) = Lg (l.take k) ++ (l.getD k ⟨[]⟩).l := by
  unfold Lg
  rw [List.take_succ_eq_append_getElem h, List.flatMap_append]
  simp [h]
theorem D4 {α : Type} : ∀ (l : List (Sl α)) (k : Nat), (Lg (l.take k)).length ≤ (Lg l).length
  | [], k => by simp [Lg]
  | x :: l, 0 => by simp [Lg]
  | x :: l, k + 1 => by
    have := D4 l k
    unfold Lg at *
    simp only [List.take_succ_cons, List.flatMap_cons, List.length_append]
    omega
def Tq : Con := K5 (fun (l : Sl (Sl VNode)) => l.l.length ≤ 1000000000 ∧ (Lg l.l).length ≤ 1000000000) (fun l => Lg l.l)
noncomputable def Dr : Ctx := ⟨tab, lkC [(83, Ff)], 60, lkB [], [], false⟩
theorem Cw : Dr.τ = tab := rfl
theorem ctx_concatV_c : Dr.Γ = lkC [(83, Ff)] := rfl
theorem ctx_concatV_d : Dr.dp = 60 := rfl
theorem ctx_concatV_b : Dr.Δ = lkB [] := rfl
theorem ctx_concatV_w : Dr.wr = false := rfl
set_option maxRecDepth 100000 in
set_option maxRecDepth 100000 in
theorem good_concatV : Gj Tryz.prog (60, Tq) := by
  refine ⟨U7 Tryz.func60 (by kernel_rfl) rfl, ?_⟩
  have K : Ky Tryz.prog Dr := Kd K6 Ki (by
    intro p hp
    simp only [List.mem_cons, List.not_mem_nil, or_false] at hp
    rcases hp with rfl
    · exact good_growV) (by simp)
  obtain ⟨c, hc⟩ : ∃ c, Tryz.f60.body = some c := ⟨_, rfl⟩
  refine Ke K Tryz.func60 hc [.tmp 2] rfl 36 rfl (fun cvs hpre => ?_)
  change Tq.pre cvs at hpre
  unfold Tq at hpre
  obtain ⟨⟨l⟩, rfl, hl, hf⟩ := con1w_pre hpre
  simp only at hl hf
  clear hpre
  simp only [Tryz.f60, Option.some.injEq] at hc
  subst hc
  refine Kw 2 (of_decide_eq_true (by kernel_rfl)) ?_
  (sym =>
   simp [K5.eq_def,szV,Cw,Tq.eq_def,Zb,Zc,Ze,Zf,Zn,Zo,Z6,Qq,Qs,Q1,Q2,Q4,Jw,J3,J4,J5,J6,J8,Xb,Xn,Xo,X4,X6,X8,X9,Wc,Wf,Wh,Wi,Wj,Wt,Wu,Wv,Ww,Wy,W0,W6,W7,Ya,Yb,Y0,Y1,Y6,Y7,Y8,Vb,Vc,Vd,Ve,Vf,Vg,Vj,Vt,Vu,V4,V7,Um,Up,U8,Kq,Kc,Kb,Gg]
   tactic =>
    try simp only [U1] at *
    try simp only [nc2] at *
    try simp (maxSteps := 4000000) only [K5.eq_def,szV,U9]
    refine Km [5, 12, 13, 14, 15, 16, 17, 18, 19, 20, 21, 22] (fun k : Nat => [(3, .d (.int .i64 ((Lg (l.take k)).length : Nat))), (11, .d (.int .i64 k))]) (fun k : Nat => []) (fun k : Nat => k ≤ l.length) (fun k : Nat => l.length - k) 0 ?_ ?_ ?_
    · simp
    · ((try simp only [U2, Ka, U6, Kg, upd, Kh, Ko, Gd, Nat.reduceDiv, Nat.reduceMod, Nat.reduceMul, Nat.reduceAdd, Nat.reduceEqDiff, List.set_cons_zero, List.set_cons_succ, if_true, if_false, reduceIte]); (first | refine Wk.of_fl ?_ | skip); simp only [Wk, wkK, Gl, wkT, wk1, AV.kept, keptAll, wkO, lk, U5, and_true, true_and, and_self, Nat.reduceEqDiff, Nat.reduceLeDiff, if_true, if_false, reduceIte, reduceCtorEq, Option.isSome, false_implies]; try simp [Wk, wkK, wkT, wk1, AV.kept, keptAll, wkO, lk, U5, flat_nil])
    rintro k hk
    rcases Ks k l.length with ⟨hlt, hlb⟩ | ⟨hlt, hlb⟩
    · have q1 := Kf (⟨[]⟩ : Sl VNode) hlt
      have h1 := flat_take hlt
      have h2 := D4 l (k + 1)
      obtain ⟨⟨x⟩, hx⟩ : ∃ x, l.getD k ⟨[]⟩ = x := ⟨_, rfl⟩
      rw [hx] at q1 h1
      have h3 : (Lg (l.take (k + 1))).length = (Lg (l.take k)).length + x.length := by rw [h1, List.length_append]
      have hnn : ltB ((Lg (l.take k)).length + x.length : Int) 0 = false := by rw [Nd]; omega
      (sym =>
       simp [hlb,q1,hnn,K5.eq_def,szV,Cw,ctx_concatV_w,Zb,Zc,Ze,Zf,Zg,Zo,Zp,Zq,Zv,Zy,Z6,Qb,Qd,Qq,Qs,Q1,Q2,Q4,Jy,Jz,J0,J5,J6,J8,J9,Xb,Xc,X3,X4,X6,X7,X8,Wc,Wf,Wh,Wi,Wj,Wt,Wu,Wv,Ww,Ya,Yb,Yd,Ye,Yi,Ym,Y0,Y1,Y3,Y6,Y7,Y8,Vr,Vt,Vu,V4,Uk,Ul,Um,Un,Uo,Up,U8,Kq,Kc,Kb,Gg]
       tactic =>
        try simp only [U1] at *
        try simp only [nc2] at *
        try simp (maxSteps := 4000000) only [hlb,q1,hnn,K5.eq_def,szV,U9]
        repeat' (first | with_reducible assumption | with_reducible refine And.intro ?_ ?_ | intro _ | omega | (rw [U0]; omega))
        all_goals first
          | exact ⟨k + 1, by rw [h3]; ((try simp only [U2, Ka, U6, Kg, upd, Kh, Ko, Gd, Nat.reduceDiv, Nat.reduceMod, Nat.reduceMul, Nat.reduceAdd, Nat.reduceEqDiff, List.set_cons_zero, List.set_cons_succ, if_true, if_false, reduceIte]); (first | refine Wk.of_fl ?_ | skip); simp only [Wk, wkK, Gl, wkT, wk1, AV.kept, keptAll, wkO, lk, U5, and_true, true_and, and_self, Nat.reduceEqDiff, Nat.reduceLeDiff, if_true, if_false, reduceIte, reduceCtorEq, Option.isSome, false_implies]; try simp [Wk, wkK, wkT, wk1, AV.kept, keptAll, wkO, lk, U5]), by omega, by omega⟩
          | omega)
    · have hkl : k = l.length := by omega
      subst hkl
      rw [List.take_length]
      (sym =>
       simp [hlb,Ff.eq_def,K5.eq_def,szV,Cw,ctx_concatV_c,ctx_concatV_d,ctx_concatV_b,Ff.eq_def,Zb,Zc,Ze,Zf,Zg,Zn,Zo,Z6,Z9,Qb,Qd,Qe,Qf,Qq,Qs,Q1,Q2,Q4,Q8,Jf,Jh,Ji,Jj,Jl,Jy,Jz,J0,J5,J6,J8,J9,Xb,Xc,Xf,X4,X6,X7,X8,X9,Wa,Wc,Wf,Wh,Wi,Wj,Wt,Wu,Wv,Ww,Wx,Wz,W0,W7,Ya,Yb,Yd,Ye,Yi,Y0,Y1,Y6,Y7,Y8,Vt,Vu,V4,V7,Ul,Um,Un,Uo,Up,U8,Kq,Kc,Kb,Gg]
       tactic =>
        try simp only [U1] at *
        try simp only [nc2] at *
        try simp (maxSteps := 4000000) only [hlb,Ff.eq_def,K5.eq_def,szV,U9]
        repeat' (first | with_reducible assumption | with_reducible refine And.intro ?_ ?_ | intro _ | omega | (rw [U0]; omega))
        refine Km [8, 28, 29, 30, 31, 32, 33, 34] (fun k : Nat => [(6, .sl 24 ((Lg (l.take k)).map (enc : VNode → D)).length), (27, .d (.int .i64 k))]) (fun k : Nat => [(24, .row 7 ((Lg (l.take k)).map enc) 0)]) (fun k : Nat => k ≤ l.length) (fun k : Nat => l.length - k) 0 ?_ ?_ ?_
        · simp
        · ((try simp only [U2, Ka, U6, Kg, upd, Kh, Ko, Gd, Nat.reduceDiv, Nat.reduceMod, Nat.reduceMul, Nat.reduceAdd, Nat.reduceEqDiff, List.set_cons_zero, List.set_cons_succ, if_true, if_false, reduceIte]); (first | refine Wk.of_fl ?_ | skip); simp only [Wk, wkK, Gl, wkT, wk1, AV.kept, keptAll, wkO, lk, U5, and_true, true_and, and_self, Nat.reduceEqDiff, Nat.reduceLeDiff, if_true, if_false, reduceIte, reduceCtorEq, Option.isSome, false_implies]; try simp [Wk, wkK, wkT, wk1, AV.kept, keptAll, wkO, lk, U5, flat_nil])
        rintro k hk
        rcases Ks k l.length with ⟨hlt, hlb⟩ | ⟨hlt, hlb⟩
        · have q1 := Kf (⟨[]⟩ : Sl VNode) hlt
          have h1 := flat_take hlt
          have h2 := D4 l (k + 1)
          obtain ⟨⟨x⟩, hx⟩ : ∃ x, l.getD k ⟨[]⟩ = x := ⟨_, rfl⟩
          rw [hx] at q1 h1
          have h3 : (Lg (l.take (k + 1))).length = (Lg (l.take k)).length + x.length := by rw [h1, List.length_append]
          (sym =>
           simp [hlb,q1,K5.eq_def,szV,Cw,ctx_concatV_w,Zb,Zc,Ze,Zf,Zg,Zo,Zp,Zq,Zv,Zy,Z4,Z5,Qb,Qd,Qq,Qs,Q1,Q2,Q4,Jh,Ji,Jy,Jz,J0,J5,J6,J7,J8,J9,Xa,Xb,Xc,X3,X4,X6,X7,X8,Wc,Wf,Wh,Wi,Wj,Wl,Wt,Wu,Wv,Ww,Ya,Yb,Yd,Ye,Yi,Ym,Y0,Y1,Y3,Y6,Y7,Y8,Y9,Va,Vr,Vt,Vu,V4,Uk,Um,Un,Uo,Up,U8,Kq,Kc,Kb,Gg]
           tactic =>
            try simp only [U1] at *
            try simp only [nc2] at *
            try simp (maxSteps := 4000000) only [hlb,q1,K5.eq_def,szV,U9]
            repeat' (first | with_reducible assumption | with_reducible refine And.intro ?_ ?_ | intro _ | omega | (rw [U0]; omega))
            all_goals first
              | omega
              | skip
            refine ⟨k + 1, ?_, by omega, by omega⟩
            ((try simp only [U2, Ka, U6, Kg, upd, Kh, Ko, Gd, Nat.reduceDiv, Nat.reduceMod, Nat.reduceMul, Nat.reduceAdd, Nat.reduceEqDiff, List.set_cons_zero, List.set_cons_succ, if_true, if_false, reduceIte]); (first | refine Wk.of_fl ?_ | skip); simp only [Wk, wkK, Gl, wkT, wk1, AV.kept, keptAll, wkO, lk, U5, and_true, true_and, and_self, Nat.reduceEqDiff, Nat.reduceLeDiff, if_true, if_false, reduceIte, reduceCtorEq, Option.isSome, false_implies]; try simp [Wk, wkK, wkT, wk1, AV.kept, keptAll, wkO, lk, U5, h1, List.map_append, List.length_append]))
        · have hkl : k = l.length := by omega
          subst hkl
          rw [List.take_length]
          (sym =>
           simp [hlb,K5.eq_def,szV,Cw,Zb,Zc,Ze,Zf,Zg,Qb,Qd,Qn,Qo,Qp,Qq,Qs,Q1,Q2,Q4,Q8,Jh,Ji,Jk,Jy,Jz,J0,J5,J6,J7,J8,J9,Xa,Xb,Xc,X4,X6,X7,Wa,Wb,Wc,Wf,Wh,Wi,Wt,Wu,Wv,Ww,Ya,Yb,Yd,Ye,Yi,Y7,Y8,Y9,Va,Vt,Ul,Um,Un,Up,U8,Kq,Kc,Kb,Gg])))
end Go.Am.Ty
set_option linter.unusedSimpArgs false
set_option linter.unusedVariables false
set_option maxHeartbeats 1000000
namespace Go.Am.Ty
open Go.Proofs Go.Rose Go.Rose.Rose
open Enc (enc dec)
instance : Inhabited VNode := ⟨v0⟩
section
variable {α : Type} {ar : α → Nat}
theorem eatN_le : ∀ {l : List α} {o k : Nat}, S4 ar l o = some k → o ≤ k ∧ k ≤ l.length
  | l, 0, k, h => by cases l <;> (simp only [S4, Option.some.injEq] at h; omega)
  | [], o + 1, k, h => by simp [S4] at h
  | n :: l, o + 1, k, h => by
    rw [S4, Option.map_eq_some_iff] at h
    obtain ⟨k', h1, rfl⟩ := h
    have := eatN_le h1
    simp only [List.length_cons]; omega
theorem eatN_step {l : List α} {k o r : Nat} (d : α) (h : S4 ar (l.drop k) o = some r) (ho : 0 < o) : k < l.length ∧ ∃ r', r = r' + 1 ∧ S4 ar (l.drop (k + 1)) (o - 1 + ar (l.getD k d)) = some r' := by
  obtain ⟨o, rfl⟩ : ∃ p, o = p + 1 := ⟨o - 1, by omega⟩
  rcases Nat.lt_or_ge k l.length with hk | hk
  · refine ⟨hk, ?_⟩
    rw [List.drop_eq_getElem_cons hk, S4, Option.map_eq_some_iff] at h
    obtain ⟨k', h1, rfl⟩ := h
    refine ⟨k', rfl, ?_⟩
    rw [← h1]
    simp [hk]
  · rw [List.drop_eq_nil_of_le hk] at h
    simp [S4] at h
theorem eatN_zero {l : List α} {r : Nat} (h : S4 ar l 0 = some r) : r = 0 := by
  cases l <;> (simp only [S4, Option.some.injEq] at h; exact h.symm)
end
noncomputable def I7 : Con := Bg (fun (v : Sl VNode) (i : Int) => v.l.length ≤ 1000000000 ∧ 0 ≤ i ∧ ∃ x, At arV v.l i.toNat x) (fun v i => i + ((nds (K1 arV v.l i.toNat)).length : Int))
noncomputable def ctx_endV : Ctx := ⟨tab, lkC [(51, P5)], 60, lkB [], [], false⟩
theorem ctx_endV_t : ctx_endV.τ = tab := rfl
theorem ctx_endV_c : ctx_endV.Γ = lkC [(51, P5)] := rfl
theorem ctx_endV_d : ctx_endV.dp = 60 := rfl
theorem ctx_endV_b : ctx_endV.Δ = lkB [] := rfl
theorem ctx_endV_w : ctx_endV.wr = false := rfl
set_option maxRecDepth 100000 in
theorem good_endV : Gj Tryz.prog (59, I7) := by
  refine ⟨U7 Tryz.func59 (by kernel_rfl) rfl, ?_⟩
  have K : Ky Tryz.prog ctx_endV := Kd K6 Ki (by
    intro p hp
    simp only [List.mem_cons, List.not_mem_nil, or_false] at hp
    rcases hp with rfl
    · exact good_manyV) (by simp)
  obtain ⟨c, hc⟩ : ∃ c, Tryz.f59.body = some c := ⟨_, rfl⟩
  refine Ke K Tryz.func59 hc [.tmp 4] rfl 25 rfl (fun cvs hpre => ?_)
  change I7.pre cvs at hpre
  unfold I7 at hpre
  obtain ⟨⟨v⟩, i, rfl, hv, hi, x, hx⟩ := Gi hpre
  simp only at hv hx
  obtain ⟨i, rfl⟩ : ∃ n : Nat, i = n := ⟨i.toNat, by omega⟩
  simp only [Int.toNat_natCast] at hx
  have hn := at_eatN hx
  have htr : K1 arV v i = x := Gq hx
  clear hpre
  simp only [Tryz.f59, Option.some.injEq] at hc
  subst hc
  (sym =>
   simp [htr,szV,Int.toNat_natCast,I7.eq_def,Za,Zb,Zc,Ze,Zf,Qq,Qs,Q1,Q2,Q4,Jw,J3,J4,Xv,X4,X6,X8,X9,Wc,Wf,Wh,Wt,Wu,Wv,Ww,Wy,W0,W6,W7,Yx,Y9,Va,Vb,Vc,Vh,Vj,Vu,V4,Um,U8,Kc,Kb]
   tactic =>
    try simp only [U1] at *
    try simp only [nc2] at *
    try simp (maxSteps := 4000000) only [htr,szV,Int.toNat_natCast,U9]
    refine Km [6, 7, 8, 9, 10, 11, 12, 13, 14, 15, 16, 17, 18, 19, 20, 21, 22, 23] (fun p : Nat × Nat => [(1, .d (.int .i64 p.1)), (5, .d (.int .i64 p.2))]) (fun p : Nat × Nat => []) (fun p : Nat × Nat => ∃ r, S4 arV (v.drop p.1) p.2 = some r ∧ p.1 + r = i + (nds x).length) (fun p : Nat × Nat => v.length - p.1) (i, 1) ?_ ?_ ?_
    · exact ⟨_, hn, rfl⟩
    · ((try simp only [U2, Ka, U6, Kg, upd, Kh, Ko, Gd, Nat.reduceDiv, Nat.reduceMod, Nat.reduceMul, Nat.reduceAdd, Nat.reduceEqDiff, List.set_cons_zero, List.set_cons_succ, if_true, if_false, reduceIte]); (first | refine Wk.of_fl ?_ | skip); simp only [Wk, wkK, Gl, wkT, wk1, AV.kept, keptAll, wkO, lk, U5, and_true, true_and, and_self, Nat.reduceEqDiff, Nat.reduceLeDiff, if_true, if_false, reduceIte, reduceCtorEq, Option.isSome, false_implies]; try simp [Wk, wkK, wkT, wk1, AV.kept, keptAll, wkO, lk, U5])
    rintro ⟨k, o⟩ ⟨r, hr, hkr⟩
    simp only at hr hkr
    rcases Tc 0 o with ⟨h0, h0b⟩ | ⟨h0, h0b⟩
    · obtain ⟨hlt, r', rfl, hr'⟩ := eatN_step v0 hr (by omega)
      have hlb : ltB (k : Int) (v.length : Int) = true := by rw [Pv]; omega
      have hel := Kf v0 hlt
      have hle := eatN_le hr'
      rw [List.length_drop] at hle
      obtain ⟨y, hy⟩ : ∃ y, v.getD k v0 = y := ⟨_, rfl⟩
      rw [hy] at hel hle hr'
      have hs : (o : Int) + ((arV y : Int) - 1) = ((o - 1 + arV y : Nat) : Int) := by omega
      (sym =>
       simp [h0b,hlb,hel,hs,Uw,Uz,Uy,Ux,szV,ctx_endV_t,ctx_endV_c,ctx_endV_d,ctx_endV_b,ctx_endV_w,P5.eq_def,Zb,Zc,Zd,Ze,Zf,Zg,Zo,Zp,Zq,Zt,Zv,Zy,Z6,Z9,Qb,Qd,Qe,Qf,Qq,Qs,Q1,Q2,Q4,Q8,Jf,Jj,Jl,Jy,Jz,J0,Xf,Xp,Xu,X3,X4,X6,X7,X8,Wc,Wf,Wh,Wi,Wj,Wt,Wu,Wv,Ww,Wx,Wz,W0,W8,W9,Yd,Ye,Yi,Ym,Yx,Y0,Y1,Y7,Y8,Y9,Va,Vr,Vt,Vu,V4,V5,Uk,Um,Un,Uo,Up,U8,Kc,Kb]
       tactic =>
        try simp only [U1] at *
        try simp only [nc2] at *
        try simp (maxSteps := 4000000) only [h0b,hlb,hel,hs,Uw,Uz,Uy,Ux,szV,U9]
        repeat' (first | with_reducible assumption | with_reducible refine And.intro ?_ ?_ | intro _ | omega | (rw [U0]; omega))
        all_goals first
          | omega
          | (with_reducible refine Kl ?_; kernel_rfl)
          | exact ⟨(k + 1, o - 1 + arV y), by ((try simp only [U2, Ka, U6, Kg, upd, Kh, Ko, Gd, Nat.reduceDiv, Nat.reduceMod, Nat.reduceMul, Nat.reduceAdd, Nat.reduceEqDiff, List.set_cons_zero, List.set_cons_succ, if_true, if_false, reduceIte]); (first | refine Wk.of_fl ?_ | skip); simp only [Wk, wkK, Gl, wkT, wk1, AV.kept, keptAll, wkO, lk, U5, and_true, true_and, and_self, Nat.reduceEqDiff, Nat.reduceLeDiff, if_true, if_false, reduceIte, reduceCtorEq, Option.isSome, false_implies]; try simp [Wk, wkK, wkT, wk1, AV.kept, keptAll, wkO, lk, U5]), ⟨r', hr', by simp only; omega⟩, by simp only; omega⟩)
    · have ho : o = 0 := by omega
      have hr0 : r = 0 := by rw [ho] at hr; exact eatN_zero hr
      have hk : (k : Int) = (i : Int) + ((nds x).length : Int) := by omega
      (sym =>
       simp [h0b,hk,szV,ctx_endV_t,ctx_endV_d,Zb,Zc,Zd,Ze,Zf,Zg,Zt,Qb,Qd,Qn,Qo,Qp,Qq,Qs,Q1,Q2,Q4,Q8,Jk,Jy,Jz,J0,Xf,X4,X6,X7,Wa,Wb,Wc,Wf,Wh,Wi,Wt,Wu,Wv,Ww,W8,W9,Yd,Ye,Yi,Y7,Y8,Y9,Va,Vt,V4,V5,Ul,Um,Un,U8,Kc,Kb]))
def Rv : List VNode → Int → Nat → Nat
  | [], _, k => k
  | n :: r, o, k => cond (wrp .i64 (wrp .i64 (o - 1) + (arV n : Int)) == 0) (k + 1) (Rv r (wrp .i64 (wrp .i64 (o - 1) + (arV n : Int))) (k + 1))
theorem wrp_in {n : Int} (h : -9223372036854775808 ≤ n ∧ n ≤ 9223372036854775807) : wrp .i64 n = n := by
  unfold wrp
  apply wrap_in
  rw [U0]
  exact h
theorem endW_le : ∀ (l : List VNode) (o : Int) (k : Nat), k ≤ Rv l o k ∧ Rv l o k ≤ k + l.length ∧ (l ≠ [] → k < Rv l o k)
  | [], o, k => by simp [Rv]
  | n :: r, o, k => by
    have := endW_le r (wrp .i64 (wrp .i64 (o - 1) + (arV n : Int))) (k + 1)
    rw [Rv]
    cases wrp .i64 (wrp .i64 (o - 1) + (arV n : Int)) == 0 with
    | true => simp only [cond_true, List.length_cons]; omega
    | false => simp only [cond_false, List.length_cons]; omega
def Mk : Con := Bg (fun (v : Sl VNode) (i : Int) => v.l.length ≤ 1000000000 ∧ 0 ≤ i ∧ i ≤ v.l.length) (fun v i => (Rv (v.l.drop i.toNat) 1 i.toNat : Int))
noncomputable def Ap : Ctx := ⟨tab, lkC [(44, Hp)], 60, lkB [], [], true⟩
theorem ctx_End19_t : Ap.τ = tab := rfl
theorem ctx_End19_c : Ap.Γ = lkC [(44, Hp)] := rfl
theorem ctx_End19_d : Ap.dp = 60 := rfl
theorem ctx_End19_b : Ap.Δ = lkB [] := rfl
theorem ctx_End19_w : Ap.wr = true := rfl
set_option maxRecDepth 100000 in
theorem good_End19 : Gj Tryz.prog (45, Mk) := by
  refine ⟨U7 Tryz.func45 (by kernel_rfl) rfl, ?_⟩
  have K : Ky Tryz.prog Ap := Kd K6 Ki (by
    intro p hp
    simp only [List.mem_cons, List.not_mem_nil, or_false] at hp
    rcases hp with rfl
    · exact good_many19) (by simp)
  obtain ⟨c, hc⟩ : ∃ c, Tryz.f45.body = some c := ⟨_, rfl⟩
  refine Ke K Tryz.func45 hc [.tmp 4] rfl 28 rfl (fun cvs hpre => ?_)
  change Mk.pre cvs at hpre
  unfold Mk at hpre
  obtain ⟨⟨v⟩, i, rfl, hv, hi, hi2⟩ := Gi hpre
  simp only at hv hi2
  obtain ⟨i, rfl⟩ : ∃ n : Nat, i = n := ⟨i.toNat, by omega⟩
  obtain ⟨E, hE⟩ : ∃ E, Rv (v.drop i) 1 i = E := ⟨_, rfl⟩
  clear hpre
  simp only [Tryz.f45, Option.some.injEq] at hc
  subst hc
  (sym =>
   simp [szV,hE,Int.toNat_natCast,Mk.eq_def,Za,Zb,Zc,Ze,Zf,Qq,Qs,Q1,Q2,Q4,Jw,J3,J4,Xv,X4,X6,X8,X9,Wc,Wf,Wh,Wt,Wu,Wv,Ww,Wy,W0,W6,W7,Yx,Y7,Y8,Y9,Va,Vb,Vc,Vh,Vj,Vu,V4,Um,U8,Kc,Kb]
   tactic =>
    try simp only [U1] at *
    try simp only [nc2] at *
    try simp (maxSteps := 4000000) only [szV,hE,Int.toNat_natCast,U9]
    refine Km [4, 8, 9, 10, 11, 12, 13, 14, 15, 16, 17, 18, 19, 20, 21, 22, 23, 24, 25] (fun p : Nat × Int => [(5, .d (.int .i64 p.2)), (6, .d (.int .i64 p.1))]) (fun p : Nat × Int => []) (fun p : Nat × Int => p.1 ≤ v.length ∧ Rv (v.drop p.1) p.2 p.1 = E) (fun p : Nat × Int => v.length - p.1) (i, 1) ?_ ?_ ?_
    · exact ⟨by simp only; omega, hE⟩
    · ((try simp only [U2, Ka, U6, Kg, upd, Kh, Ko, Gd, Nat.reduceDiv, Nat.reduceMod, Nat.reduceMul, Nat.reduceAdd, Nat.reduceEqDiff, List.set_cons_zero, List.set_cons_succ, if_true, if_false, reduceIte]); (first | refine Wk.of_fl ?_ | skip); simp only [Wk, wkK, Gl, wkT, wk1, AV.kept, keptAll, wkO, lk, U5, and_true, true_and, and_self, Nat.reduceEqDiff, Nat.reduceLeDiff, if_true, if_false, reduceIte, reduceCtorEq, Option.isSome, false_implies]; try simp [Wk, wkK, wkT, wk1, AV.kept, keptAll, wkO, lk, U5])
    rintro ⟨k, o⟩ ⟨hk, hr⟩
    simp only at hk hr
    rcases Ks k v.length with ⟨hlt, hlb⟩ | ⟨hlt, hlb⟩
    · have hel := Kf v0 hlt
      rw [List.drop_eq_getElem_cons hlt, Rv] at hr
      have hg : v[k] = v.getD k v0 := by simp [hlt]
      rw [hg] at hr
      obtain ⟨y, hy⟩ : ∃ y, v.getD k v0 = y := ⟨_, rfl⟩
      rw [hy] at hel hr
      obtain ⟨q, hq⟩ : ∃ q, wrp .i64 (wrp .i64 (o - 1) + (arV y : Int)) = q := ⟨_, rfl⟩
      have hk1 : wrp .i64 ((k : Int) + 1) = ((k + 1 : Nat) : Int) := by rw [wrp_in (by omega)]; omega
      rw [hq] at hr
      cases hqz : (q == 0) with
      | true =>
        rw [hqz, cond_true] at hr
        rw [hr] at hk1
        (sym =>
         simp [hlb,hel,hq,hqz,hk1,Uw,Uz,Uy,Ux,szV,ctx_End19_t,ctx_End19_c,ctx_End19_d,ctx_End19_b,ctx_End19_w,Hp.eq_def,Zb,Zc,Ze,Zf,Zg,Zo,Zp,Zq,Zv,Zy,Z6,Z9,Qb,Qd,Qe,Qf,Qn,Qo,Qp,Qq,Qs,Q1,Q2,Q4,Q8,Jf,Jj,Jk,Jl,Jy,Jz,J0,Xf,Xp,Xu,X3,X4,X6,X7,X8,Wb,Wc,Wf,Wh,Wi,Wj,Wt,Wu,Wv,Ww,Wx,Wz,W0,Yd,Ye,Yi,Ym,Yx,Y0,Y1,Y7,Y8,Y9,Va,Vr,Vt,Vu,V4,Uk,Um,Un,Uo,Up,U8,Kc,Kb]
         tactic =>
          try simp only [U1] at *
          try simp only [nc2] at *
          try simp (maxSteps := 4000000) only [hlb,hel,hq,hqz,hk1,Uw,Uz,Uy,Ux,szV,U9]
          repeat' (first | with_reducible assumption | with_reducible refine And.intro ?_ ?_ | intro _ | omega | (rw [U0]; omega)))
      | false =>
        rw [hqz, cond_false] at hr
        (sym =>
         simp [hlb,hel,hq,hqz,hk1,Uw,Uz,Uy,Ux,szV,ctx_End19_t,ctx_End19_c,ctx_End19_d,ctx_End19_b,ctx_End19_w,Hp.eq_def,Zb,Zc,Ze,Zf,Zg,Zo,Zp,Zq,Zv,Zy,Z6,Z9,Qb,Qd,Qe,Qf,Qq,Qs,Q1,Q2,Q4,Q8,Jf,Jj,Jl,Jy,Jz,J0,Xf,Xp,Xu,X3,X4,X6,X7,X8,Wc,Wf,Wh,Wi,Wj,Wt,Wu,Wv,Ww,Wx,Wz,W0,Yd,Ye,Yi,Ym,Yx,Y0,Y1,Y7,Y8,Y9,Va,Vr,Vt,Vu,V4,Uk,Ul,Um,Un,Uo,Up,U8,Kc,Kb]
         tactic =>
          try simp only [U1] at *
          try simp only [nc2] at *
          try simp (maxSteps := 4000000) only [hlb,hel,hq,hqz,hk1,Uw,Uz,Uy,Ux,szV,U9]
          repeat' (first | with_reducible assumption | with_reducible refine And.intro ?_ ?_ | intro _ | omega | (rw [U0]; omega))
          all_goals first
            | omega
            | exact ⟨(k + 1, q), by ((try simp only [U2, Ka, U6, Kg, upd, Kh, Ko, Gd, Nat.reduceDiv, Nat.reduceMod, Nat.reduceMul, Nat.reduceAdd, Nat.reduceEqDiff, List.set_cons_zero, List.set_cons_succ, if_true, if_false, reduceIte]); (first | refine Wk.of_fl ?_ | skip); simp only [Wk, wkK, Gl, wkT, wk1, AV.kept, keptAll, wkO, lk, U5, and_true, true_and, and_self, Nat.reduceEqDiff, Nat.reduceLeDiff, if_true, if_false, reduceIte, reduceCtorEq, Option.isSome, false_implies]; try simp [Wk, wkK, wkT, wk1, AV.kept, keptAll, wkO, lk, U5]), by simp only; omega, hr, by simp only; omega⟩)
    · have hkl : k = v.length := by omega
      rw [hkl, List.drop_length, Rv] at hr
      subst hr
      (sym =>
       simp [hlb,szV,ctx_End19_t,ctx_End19_d,Zb,Zc,Ze,Zf,Zg,Zo,Z6,Qb,Qd,Qn,Qo,Qp,Qq,Qs,Q1,Q2,Q4,Q8,Jk,Jy,Jz,J0,Xf,X4,X6,X7,Wa,Wb,Wc,Wf,Wh,Wi,Wj,Wt,Wu,Wv,Ww,Yd,Ye,Yi,Y0,Y1,Y7,Y8,Y9,Va,Vt,Vu,Ul,Um,Un,Uo,Up,U8,Kc,Kb]))
end Go.Am.Ty
set_option linter.unusedSimpArgs false
set_option linter.unusedVariables false
set_option maxHeartbeats 1000000
namespace Go.Am.Ty
open Go.Proofs Go.Rose Go.Rose.Rose
open Enc (enc dec)
def sls (ks : List (Rose VNode)) : List (Sl VNode) := ks.map fun k => Sl.mk (nds k)
theorem T0 {ks : List (Rose VNode)} : (sls ks).length = ks.length := by unfold sls; simp
theorem sls_snoc {ks : List (Rose VNode)} {j : Nat} (h : j < ks.length) : (sls (ks.take j)).map (enc : Sl VNode → D) ++ [.list 7 ((nds ks[j]).map enc)] = (sls (ks.take (j + 1))).map enc := by
  rw [List.take_succ_eq_append_getElem h]
  unfold sls
  rw [List.map_append, List.map_append]
  rfl
theorem Oi : ∀ (ks : List (Rose VNode)), ks.length ≤ (ndss ks).length
  | [] => by simp
  | y :: ys => by
    have := Oi ys
    have := N8 y
    simp only [List.length_cons, ndss, List.length_append]
    omega
def Co (v : List VNode) (x : Rose VNode) : Prop := v = nds x ∧ wf arV x
theorem Co.at {v : List VNode} {x : Rose VNode} (h : Co v x) : At arV v 0 x := by rw [h.1]; exact Ns h.2
theorem Co.tree {v : List VNode} {x : Rose VNode} (h : Co v x) : K1 arV v 0 = x := Gq h.at
theorem cutAt {v : List VNode} {i : Nat} {x : Rose VNode} (h : At arV v i x) : List.drop i (List.take (i + (nds x).length) (v.map (enc : VNode → D))) = (nds x).map enc := by
  obtain ⟨_, r, h2⟩ := h
  rw [List.drop_take, Nat.add_sub_cancel_left, ← List.map_drop, h2, List.map_append, List.take_append_of_le_length (by simp), List.take_of_length_le (by simp)]
noncomputable def K9 : Con := K5 (fun (v : Sl VNode) => v.l.length ≤ 1000000000 ∧ ∃ x, Co v.l x) (fun v => sls (K1 arV v.l 0).kids)
theorem ndss_take_len {ks : List (Rose VNode)} {j : Nat} (h : j < ks.length) : (ndss (ks.take (j + 1))).length = (ndss (ks.take j)).length + (nds ks[j]).length := by
  rw [List.take_succ_eq_append_getElem h, Pt, List.length_append]
  simp [ndss]
theorem atsV {v : List VNode} {i : Nat} {ks : List (Rose VNode)} (h : Ats arV v i ks) {j : Nat} (hj : j < ks.length) : At arV v (i + (ndss (ks.take j)).length) ks[j] := by
  induction ks generalizing i j with
  | nil => simp at hj
  | cons x xs ih =>
    obtain ⟨h1, h2⟩ := h.head
    cases j with
    | zero => simpa [ndss] using h1
    | succ j =>
      have := ih h2 (j := j) (by simpa using hj)
      simp only [List.take_succ_cons, ndss, List.length_append, List.getElem_cons_succ]
      rw [← Nat.add_assoc]
      exact this
noncomputable def ctx_kidsV : Ctx := ⟨tab, lkC [(59, I7)], 60, lkB [], [], false⟩
theorem ctx_kidsV_t : ctx_kidsV.τ = tab := rfl
theorem ctx_kidsV_c : ctx_kidsV.Γ = lkC [(59, I7)] := rfl
theorem ctx_kidsV_d : ctx_kidsV.dp = 60 := rfl
theorem ctx_kidsV_b : ctx_kidsV.Δ = lkB [] := rfl
set_option maxRecDepth 100000 in
theorem good_kidsV : Gj Tryz.prog (30, K9) := by
  refine ⟨U7 Tryz.func30 (by kernel_rfl) rfl, ?_⟩
  have K : Ky Tryz.prog ctx_kidsV := Kd K6 Ki (by
    intro p hp
    simp only [List.mem_cons, List.not_mem_nil, or_false] at hp
    rcases hp with rfl
    · exact good_endV) (by simp)
  obtain ⟨c, hc⟩ : ∃ c, Tryz.f30.body = some c := ⟨_, rfl⟩
  refine Ke K Tryz.func30 hc [.tmp 2] rfl 23 rfl (fun cvs hpre => ?_)
  change K9.pre cvs at hpre
  unfold K9 at hpre
  obtain ⟨⟨v⟩, rfl, hv, x, hx⟩ := con1w_pre hpre
  simp only at hv hx
  have htr := hx.tree
  obtain ⟨hks, hkl⟩ := hx.at.kids
  have hlen : v.length = 1 + (ndss x.kids).length := by rw [hx.1, Nc, List.length_cons]; omega
  obtain ⟨ks, hk⟩ : ∃ ks, x.kids = ks := ⟨_, rfl⟩
  rw [hk] at hks hkl hlen
  have hkn := Oi ks
  have hmono : ∀ j, (ndss (ks.take j)).length ≤ (ndss ks).length := by
    intro j
    conv => rhs; rw [← List.take_append_drop j ks]
    rw [Pt, List.length_append]
    omega
  clear hpre
  simp only [Tryz.f30, Option.some.injEq] at hc
  subst hc
  (sym =>
   simp [htr,hk,K5.eq_def,szV,ctx_kidsV_t,K9.eq_def,Za,Zb,Zc,Ze,Zf,Zn,Zo,Qq,Qs,Q1,Q2,Q4,Jw,J3,J4,X4,X6,X8,X9,Wc,Wf,Wh,Wi,Wj,Wt,Wu,Wv,Ww,Wy,W0,W6,W7,Y6,Y9,Va,Vb,Vc,Vj,Vu,V4,V7,Um,U8,Kc,Kb,Gg]
   tactic =>
    try simp only [U1] at *
    try simp only [nc2] at *
    try simp (maxSteps := 4000000) only [htr,hk,K5.eq_def,szV,U9]
    refine Km [5, 6, 7, 8, 9, 10, 11, 12, 13, 14, 15, 16, 17, 18, 19, 20, 21] (fun j : Nat => [(3, .sl 3 ((sls (ks.take j)).map (enc : Sl VNode → D)).length), (4, .d (.int .i64 (1 + (ndss (ks.take j)).length : Nat)))]) (fun j : Nat => [(3, .row 1 ((sls (ks.take j)).map enc) 0)]) (fun j : Nat => j ≤ ks.length) (fun j : Nat => ks.length - j) 0 ?_ ?_ ?_
    · omega
    · ((try simp only [U2, Ka, U6, Kg, upd, Kh, Ko, Gd, Nat.reduceDiv, Nat.reduceMod, Nat.reduceMul, Nat.reduceAdd, Nat.reduceEqDiff, List.set_cons_zero, List.set_cons_succ, if_true, if_false, reduceIte]); (first | refine Wk.of_fl ?_ | skip); simp only [Wk, wkK, Gl, wkT, wk1, AV.kept, keptAll, wkO, lk, U5, and_true, true_and, and_self, Nat.reduceEqDiff, Nat.reduceLeDiff, if_true, if_false, reduceIte, reduceCtorEq, Option.isSome, false_implies]; try simp [Wk, wkK, wkT, wk1, AV.kept, keptAll, wkO, lk, U5, sls, ndss])
    rintro j hj
    have hp1 : (sls (ks.take j)).length = j := by rw [T0, List.length_take]; omega
    rcases Nat.lt_or_ge j ks.length with hlt | hge
    · have ha := atsV hks hlt
      have hal := ha.le
      have hpos := N8 ks[j]
      have hlb : ltB ((1 + (ndss (ks.take j)).length : Nat) : Int) (v.length : Int) = true := by rw [Pv]; omega
      have htj : K1 arV v (1 + (ndss (ks.take j)).length) = ks[j] := Gq ha
      have hcut := cutAt ha
      have hs1 := sls_snoc hlt
      have hsum : ((1 + (ndss (ks.take j)).length : Nat) : Int) + ((nds ks[j]).length : Int) = ((1 + (ndss (ks.take j)).length + (nds ks[j]).length : Nat) : Int) := by omega
      (sym =>
       simp [hlb,hp1,htj,hsum,hcut,hs1,Int.toNat_natCast,szV,ctx_kidsV_t,ctx_kidsV_c,ctx_kidsV_d,ctx_kidsV_b,I7.eq_def,Zb,Zc,Ze,Zf,Zg,Zo,Zr,Z0,Z1,Z4,Z5,Z6,Z9,Qb,Qd,Qe,Qf,Qj,Qq,Qs,Q1,Q2,Q4,Q8,Jb,Jc,Jd,Je,Jf,Jg,Jh,Ji,Jj,Jl,Jy,Jz,J0,Xd,Xe,Xf,Xv,X3,X4,X6,X7,X8,Wc,Wf,Wh,Wi,Wj,Wl,Wn,Wt,Wu,Ww,Wx,Wz,W0,W3,W4,W5,W6,W7,Yd,Ye,Yi,Ym,Yp,Yx,Y0,Y1,Y7,Y8,Y9,Va,Vh,Vj,Vm,Vo,Vt,Vu,V3,V9,Uk,Um,Un,Uo,Up,U8,Kc,Kb,Gg]
       tactic =>
        try simp only [U1] at *
        try simp only [nc2] at *
        try simp (maxSteps := 4000000) only [hlb,hp1,htj,hsum,hcut,hs1,Int.toNat_natCast,szV,U9]
        repeat' (first | with_reducible assumption | with_reducible refine And.intro ?_ ?_ | intro _ | omega | (rw [U0]; omega))
        all_goals first
          | omega
          | exact ⟨_, ha⟩
          | skip
        have hq1 : (sls (ks.take (j + 1))).length = j + 1 := by rw [T0, List.length_take]; omega
        have hq2 := ndss_take_len hlt
        refine ⟨j + 1, ?_, by omega, by omega⟩
        ((try simp only [U2, Ka, U6, Kg, upd, Kh, Ko, Gd, Nat.reduceDiv, Nat.reduceMod, Nat.reduceMul, Nat.reduceAdd, Nat.reduceEqDiff, List.set_cons_zero, List.set_cons_succ, if_true, if_false, reduceIte]); (first | refine Wk.of_fl ?_ | skip); simp only [Wk, wkK, Gl, wkT, wk1, AV.kept, keptAll, wkO, lk, U5, and_true, true_and, and_self, Nat.reduceEqDiff, Nat.reduceLeDiff, if_true, if_false, reduceIte, reduceCtorEq, Option.isSome, false_implies]; try simp [Wk, wkK, wkT, wk1, AV.kept, keptAll, wkO, lk, U5, hq1, hq2, Nat.add_assoc]))
    · have hjk : j = ks.length := by omega
      subst hjk
      rw [List.take_length] at *
      have hlb : ltB ((1 + (ndss ks).length : Nat) : Int) (v.length : Int) = false := by rw [Nd]; omega
      (sym =>
       simp [hlb,htr,hk,K5.eq_def,szV,ctx_kidsV_t,Zb,Zc,Ze,Zf,Zg,Zo,Z6,Qb,Qd,Qn,Qo,Qp,Qq,Qs,Q1,Q2,Q4,Q8,Jh,Ji,Jk,Jy,Jz,J0,X4,X6,X7,Wa,Wb,Wc,Wf,Wh,Wi,Wj,Wt,Wu,Yd,Ye,Yi,Y0,Y1,Y7,Y8,Y9,Va,Vt,Vu,Ul,Um,Un,Up,U8,Kc,Kb,Gg]))
end Go.Am.Ty
set_option linter.unusedSimpArgs false
set_option linter.unusedVariables false
set_option maxHeartbeats 1000000
namespace Go.Am.Ty
open Go.Proofs Go.Rose Go.Rose.Rose
open Enc (enc dec)
theorem goodn_Agree7 : ∀ n, Gj Tryz.prog (5, N7 n)
  | 0 => Ev (U7 Tryz.func5 (by kernel_rfl) rfl) con_Agree7_zero
  | n + 1 => step_Agree7 n (goodn_Agree7 n)
noncomputable def Nv : Con := N7 10001
theorem good_Agree7A : Gj Tryz.prog (5, Nv) := goodn_Agree7 _
theorem Nw : Nv = Bg (fun (a b : Sl Node) => Bh a.l ∧ Bh b.l ∧ Nt a.l = true ∧ Nt b.l = true ∧ a.l.length < 10001) (fun a b => agX false (K1 ar a.l 0) (K1 ar b.l 0)) := rfl
def Rg (n : VNode) : Prop := (n.t.length ≤ 1000000 ∧ Cz n.t) ∧ (n.u.length ≤ 1000000 ∧ Cz n.u) ∧ n.name.length ≤ 9223372036854775807 ∧ n.label.length ≤ 9223372036854775807
noncomputable def Aw (n : VNode) : Bool := Mh n.t && (Mh n.u && (agX false (K1 ar n.t 0) (K1 ar n.u 0) && !Gp n.t n.u))
theorem right3_pos {t : List Node} (h : P8 t = true) : 0 < t.length := by
  unfold P8 Ny at h
  rcases Nat.eq_zero_or_pos t.length with h0 | h0
  · rw [h0] at h; simp at h
  · exact h0
theorem tree7_of {t : List Node} (h : P8 t = true) : Bh t := by
  obtain ⟨x, rfl, hx⟩ := Bi h
  have h2 : (nds x).length ≤ 10000 := by
    unfold P8 Ny at h
    simp only [Bool.and_eq_true, Bool.not_eq_true', Bool.or_eq_false_iff] at h
    have := h.1
    simp [ltB] at this
    omega
  exact ⟨h2, hx.numb, x, rfl, hx.wf⟩
theorem Be {t : List Node} : Mh t = true ↔ P8 t = true ∧ Nt t = true ∧ ((t.getD 0 n0).kind == 5) = true := by
  unfold Mh
  rw [Bool.and_eq_true, Bool.and_eq_true]
noncomputable def C7 : Con := Ss (fun (n : VNode) => Rg n) Aw
noncomputable def E0 : Ctx := ⟨tab, lkC [(39, Hv), (40, H7), (5, Nv), (18, Kj)], 60, lkB [], [], false⟩
theorem Mo : E0.τ = tab := rfl
theorem Pg : E0.Γ = lkC [(39, Hv), (40, H7), (5, Nv), (18, Kj)] := rfl
theorem Mp : E0.dp = 60 := rfl
theorem Ph : E0.Δ = lkB [] := rfl
theorem ctx_wrap19_w : E0.wr = false := rfl
set_option maxRecDepth 100000 in
theorem good_wrap19 : Gj Tryz.prog (85, C7) := by
  refine ⟨U7 Tryz.func85 (by kernel_rfl) rfl, ?_⟩
  have K : Ky Tryz.prog E0 := Kd K6 Ki (by
    intro p hp
    simp only [List.mem_cons, List.not_mem_nil, or_false] at hp
    rcases hp with rfl | rfl | rfl | rfl
    · exact good_Right3
    · exact good_Plain3
    · exact good_Agree7A
    · exact Ew) (by simp)
  obtain ⟨c, hc⟩ : ∃ c, Tryz.f85.body = some c := ⟨_, rfl⟩
  refine Ke K Tryz.func85 hc [.tmp 2] rfl 44 rfl (fun cvs hpre => ?_)
  change C7.pre cvs at hpre
  unfold C7 at hpre
  obtain ⟨n, rfl, ⟨t1, t2⟩, ⟨u1, u2⟩, -⟩ := Ha hpre
  have hbadT : Mh n.t = false → false = Aw n := by intro h; unfold Aw; rw [h]; rfl
  have hbadU : Mh n.u = false → false = Aw n := by intro h; unfold Aw; rw [h, Bool.false_and, Bool.and_false]
  clear hpre
  simp only [Tryz.f85, Option.some.injEq] at hc
  subst hc
  refine Kw 2 (of_decide_eq_true (by kernel_rfl)) ?_
  (sym =>
   simp [Uw,Uz,Uy,Ux,szV,szL,Uu,Us,Uv,Ur,szN,Ut,Mo,Mp,C7.eq_def,Zb,Zc,Ze,Zf,Zo,Zp,Zq,Zr,Zs,Zu,Zv,Zx,Z1,Z6,Ql,Qm,Qq,Qs,Q1,Q2,Q4,Jb,Jc,Jd,Je,Jg,Jh,Ji,Jw,J3,J4,J5,J6,J8,Xb,Xd,Xe,Xf,Xn,Xo,Xs,Xu,X4,X6,X8,X9,Wc,Wf,Wh,Wi,Wj,Wn,Wt,Wu,Wv,Ww,Wy,W0,W3,W4,W5,W6,W7,W8,W9,Ya,Yb,Yp,Yq,Yy,Y7,Y8,Y9,Va,Vb,Vc,Vd,Ve,Vf,Vg,Vt,Vx,V3,V4,V5,V9,Um,Un,U8,Ku,U4,Kr,U3,Kb]
   tactic =>
    try simp only [U1] at *
    try simp only [nc2] at *
    try simp (maxSteps := 4000000) only [Uw,Uz,Uy,Ux,szV,szL,Uu,Us,Uv,Ur,szN,Ut,U9]
    refine Km [2, 4, 12, 13, 14, 15, 16, 17, 18, 19, 20, 21, 22, 23, 24, 25, 26, 27, 28, 29, 30] (fun k : Nat => [(11, .d (.int .i64 k))]) (fun k : Nat => []) (fun k : Nat => k ≤ 2 ∧ (0 < k → Mh n.t = true) ∧ (1 < k → Mh n.u = true)) (fun k : Nat => 2 - k) 0 ?_ ?_ ?_
    · simp
    · ((try simp only [U2, Ka, U6, Kg, upd, Kh, Ko, Gd, Nat.reduceDiv, Nat.reduceMod, Nat.reduceMul, Nat.reduceAdd, Nat.reduceEqDiff, List.set_cons_zero, List.set_cons_succ, if_true, if_false, reduceIte]); (first | refine Wk.of_fl ?_ | skip); simp only [Wk, wkK, Gl, wkT, wk1, AV.kept, keptAll, wkO, lk, U5, and_true, true_and, and_self, Nat.reduceEqDiff, Nat.reduceLeDiff, if_true, if_false, reduceIte, reduceCtorEq, Option.isSome, false_implies]; try simp [Wk, wkK, wkT, wk1, AV.kept, keptAll, wkO, lk, U5])
    rintro k ⟨hk, hT, hU⟩
    have c0 : ltB 0 2 = true := by decide
    have c1 : ltB 1 2 = true := by decide
    have c2 : ltB 2 2 = false := by decide
    rcases (by omega : k = 0 ∨ k = 1 ∨ k = 2) with rfl | rfl | rfl
    · cases b1 : P8 n.t with
      | false =>
        have hw := hbadT (by unfold Mh; rw [b1]; rfl)
        (sym =>
         simp [c0,c1,c2,b1,Uw,Uz,Uy,Ux,szV,szL,Int.toNat_natCast,Uu,Us,Uv,Ur,szN,Ut,Mo,Pg,Mp,Ph,Nv.eq_def,H7.eq_def,Hv.eq_def,Kj.eq_def,Zb,Zc,Zd,Ze,Zf,Zg,Zo,Zp,Zq,Zt,Zv,Zy,Z9,Qb,Qc,Qd,Qe,Qf,Qn,Qo,Qp,Qq,Qs,Q1,Q2,Q4,Q8,Jf,Jh,Jj,Jk,Jl,Jy,Jz,J0,J5,J6,J8,J9,Xb,Xc,Xf,Xu,Xv,X3,X4,X6,X7,X8,Wb,Wc,Wf,Wh,Wi,Wj,Wt,Wu,Wv,Ww,Wx,Wz,W0,W6,W7,W8,W9,Ya,Yb,Yd,Ye,Yf,Yi,Yj,Ym,Yv,Yy,Y7,Y8,Vk,Vl,Vq,Vs,Vt,Vu,Vv,Vx,V1,V5,Uk,Um,Un,Uo,U8,Ku,U4,Kr,U3,Kb]
         tactic =>
          try simp only [U1] at *
          try simp only [nc2] at *
          try simp (maxSteps := 4000000) only [c0,c1,c2,b1,Uw,Uz,Uy,Ux,szV,szL,Int.toNat_natCast,Uu,Us,Uv,Ur,szN,Ut,U9]
          repeat' (first | with_reducible assumption | with_reducible refine And.intro ?_ ?_ | intro _ | omega | (rw [U0]; omega))
          all_goals first
            | (with_reducible refine Kl ?_; kernel_rfl)
            | exact hw
            | exact t2
            | omega)
      | true =>
        have hp := right3_pos b1
        have hel := Kf n0 hp
        cases b2 : Nt n.t with
        | false =>
          have hw := hbadT (by unfold Mh; rw [b1, b2]; rfl)
          (sym =>
           simp [c0,c1,c2,b1,b2,Uw,Uz,Uy,Ux,szV,szL,Int.toNat_natCast,Uu,Us,Uv,Ur,szN,Ut,Mo,Pg,Mp,Ph,Nv.eq_def,H7.eq_def,Hv.eq_def,Kj.eq_def,Zb,Zc,Zd,Ze,Zf,Zg,Zo,Zp,Zq,Zt,Zv,Zy,Z9,Qb,Qc,Qd,Qe,Qf,Qn,Qo,Qp,Qq,Qs,Q1,Q2,Q4,Q8,Jf,Jh,Jj,Jk,Jl,Jy,Jz,J0,J5,J6,J8,J9,Xb,Xc,Xf,Xu,Xv,X3,X4,X6,X7,X8,Wb,Wc,Wf,Wh,Wi,Wj,Wt,Wu,Wv,Ww,Wx,Wz,W0,W6,W7,W8,W9,Ya,Yb,Yd,Ye,Yf,Yi,Yj,Ym,Yv,Yy,Y7,Y8,Vk,Vl,Vp,Vq,Vs,Vt,Vu,Vv,Vx,V1,V5,Uk,Ul,Um,Un,Uo,U8,Ku,U4,Kr,U3,Kb]
           tactic =>
            try simp only [U1] at *
            try simp only [nc2] at *
            try simp (maxSteps := 4000000) only [c0,c1,c2,b1,b2,Uw,Uz,Uy,Ux,szV,szL,Int.toNat_natCast,Uu,Us,Uv,Ur,szN,Ut,U9]
            repeat' (first | with_reducible assumption | with_reducible refine And.intro ?_ ?_ | intro _ | omega | (rw [U0]; omega))
            all_goals first
              | (with_reducible refine Kl ?_; kernel_rfl)
              | exact hw
              | exact t2
              | omega)
        | true =>
          cases b3 : ((n.t.getD 0 n0).kind == 5) with
          | false =>
            have hw := hbadT (by unfold Mh; rw [b1, b2, b3]; rfl)
            have b4 : ((n.t.getD 0 n0).kind != 5) = true := by rw [bne, b3]; rfl
            (sym =>
             simp [c0,c1,c2,b1,b2,b4,hel,Uw,Uz,Uy,Ux,szV,szL,Int.toNat_natCast,Uu,Us,Uv,Ur,szN,Ut,Mo,Pg,Mp,Ph,Nv.eq_def,H7.eq_def,Hv.eq_def,Kj.eq_def,Zb,Zc,Zd,Ze,Zf,Zg,Zo,Zp,Zq,Zs,Zt,Zv,Zx,Zy,Z9,Qb,Qc,Qd,Qe,Qf,Qn,Qo,Qp,Qq,Qs,Q1,Q2,Q4,Q8,Jf,Jh,Jj,Jk,Jl,Jy,Jz,J0,J5,J6,J8,J9,Xb,Xc,Xf,Xu,Xv,X3,X4,X6,X7,X8,Wb,Wc,Wf,Wh,Wi,Wj,Wt,Wu,Wv,Ww,Wx,Wz,W0,W6,W7,W8,W9,Ya,Yb,Yd,Ye,Yf,Yh,Yi,Yj,Yl,Ym,Yt,Yv,Yw,Yy,Y7,Y8,Vk,Vl,Vp,Vs,Vt,Vu,Vv,Vx,V1,V4,V5,Uk,Ul,Um,Un,Uo,Up,U8,Ku,U4,Kr,U3,Kb]
             tactic =>
              try simp only [U1] at *
              try simp only [nc2] at *
              try simp (maxSteps := 4000000) only [c0,c1,c2,b1,b2,b4,hel,Uw,Uz,Uy,Ux,szV,szL,Int.toNat_natCast,Uu,Us,Uv,Ur,szN,Ut,U9]
              repeat' (first | with_reducible assumption | with_reducible refine And.intro ?_ ?_ | intro _ | omega | (rw [U0]; omega))
              all_goals first
                | (with_reducible refine Kl ?_; kernel_rfl)
                | exact hw
                | exact t2
                | omega)
          | true =>
            have b4 : ((n.t.getD 0 n0).kind != 5) = false := by rw [bne, b3]; rfl
            have hok : Mh n.t = true := Be.2 ⟨b1, b2, b3⟩
            (sym =>
             simp [c0,c1,c2,b1,b2,b4,hel,Uw,Uz,Uy,Ux,szV,szL,Int.toNat_natCast,Uu,Us,Uv,Ur,szN,Ut,Mo,Pg,Mp,Ph,ctx_wrap19_w,Nv.eq_def,H7.eq_def,Hv.eq_def,Kj.eq_def,Zb,Zc,Zd,Ze,Zf,Zg,Zo,Zp,Zq,Zs,Zt,Zv,Zx,Zy,Z9,Qb,Qc,Qd,Qe,Qf,Qq,Qs,Q1,Q2,Q4,Q8,Jf,Jh,Jj,Jl,Jy,Jz,J0,J5,J6,J8,J9,Xb,Xc,Xf,Xu,Xv,X3,X4,X6,X7,X8,Wc,Wf,Wh,Wi,Wj,Wt,Wu,Wv,Ww,Wx,Wz,W0,W6,W7,W8,W9,Ya,Yb,Yd,Ye,Yf,Yh,Yi,Yj,Yl,Ym,Yt,Yv,Yw,Yy,Y7,Y8,Vk,Vl,Vp,Vs,Vt,Vu,Vv,Vx,V1,V4,V5,Uk,Ul,Um,Un,Uo,Up,U8,Ku,U4,Kr,U3,Kb]
             tactic =>
              try simp only [U1] at *
              try simp only [nc2] at *
              try simp (maxSteps := 4000000) only [c0,c1,c2,b1,b2,b4,hel,Uw,Uz,Uy,Ux,szV,szL,Int.toNat_natCast,Uu,Us,Uv,Ur,szN,Ut,U9]
              repeat' (first | with_reducible assumption | with_reducible refine And.intro ?_ ?_ | intro _ | omega | (rw [U0]; omega))
              all_goals first
                | (with_reducible refine Kl ?_; kernel_rfl)
                | exact t2
                | omega
                | exact ⟨1, by ((try simp only [U2, Ka, U6, Kg, upd, Kh, Ko, Gd, Nat.reduceDiv, Nat.reduceMod, Nat.reduceMul, Nat.reduceAdd, Nat.reduceEqDiff, List.set_cons_zero, List.set_cons_succ, if_true, if_false, reduceIte]); (first | refine Wk.of_fl ?_ | skip); simp only [Wk, wkK, Gl, wkT, wk1, AV.kept, keptAll, wkO, lk, U5, and_true, true_and, and_self, Nat.reduceEqDiff, Nat.reduceLeDiff, if_true, if_false, reduceIte, reduceCtorEq, Option.isSome, false_implies]; try simp [Wk, wkK, wkT, wk1, AV.kept, keptAll, wkO, lk, U5]), by omega, fun _ => hok, fun h => absurd h (by omega), by omega⟩)
    · have hokT := hT (by omega)
      cases b1 : P8 n.u with
      | false =>
        have hw := hbadU (by unfold Mh; rw [b1]; rfl)
        (sym =>
         simp [c0,c1,c2,b1,Uw,Uz,Uy,Ux,szV,szL,Int.toNat_natCast,Uu,Us,Uv,Ur,szN,Ut,Mo,Pg,Mp,Ph,Nv.eq_def,H7.eq_def,Hv.eq_def,Kj.eq_def,Zb,Zc,Zd,Ze,Zf,Zg,Zo,Zp,Zq,Zt,Zv,Zy,Z9,Qb,Qc,Qd,Qe,Qf,Qn,Qo,Qp,Qq,Qs,Q1,Q2,Q4,Q8,Jf,Jh,Jj,Jk,Jl,Jy,Jz,J0,J5,J6,J8,J9,Xb,Xc,Xf,Xu,Xv,X3,X4,X6,X7,X8,Wb,Wc,Wf,Wh,Wi,Wj,Wt,Wu,Wv,Ww,Wx,Wz,W0,W6,W7,W8,W9,Ya,Yb,Yd,Ye,Yf,Yi,Yj,Ym,Yv,Yy,Y7,Y8,Vk,Vl,Vq,Vt,Vu,Vv,Vw,Vx,Vy,V2,V5,Uk,Um,Un,Uo,U8,Ku,U4,Kr,U3,Kb]
         tactic =>
          try simp only [U1] at *
          try simp only [nc2] at *
          try simp (maxSteps := 4000000) only [c0,c1,c2,b1,Uw,Uz,Uy,Ux,szV,szL,Int.toNat_natCast,Uu,Us,Uv,Ur,szN,Ut,U9]
          repeat' (first | with_reducible assumption | with_reducible refine And.intro ?_ ?_ | intro _ | omega | (rw [U0]; omega))
          all_goals first
            | (with_reducible refine Kl ?_; kernel_rfl)
            | exact hw
            | exact u2
            | omega)
      | true =>
        have hp := right3_pos b1
        have hel := Kf n0 hp
        cases b2 : Nt n.u with
        | false =>
          have hw := hbadU (by unfold Mh; rw [b1, b2]; rfl)
          (sym =>
           simp [c0,c1,c2,b1,b2,Uw,Uz,Uy,Ux,szV,szL,Int.toNat_natCast,Uu,Us,Uv,Ur,szN,Ut,Mo,Pg,Mp,Ph,Nv.eq_def,H7.eq_def,Hv.eq_def,Kj.eq_def,Zb,Zc,Zd,Ze,Zf,Zg,Zo,Zp,Zq,Zt,Zv,Zy,Z9,Qb,Qc,Qd,Qe,Qf,Qn,Qo,Qp,Qq,Qs,Q1,Q2,Q4,Q8,Jf,Jh,Jj,Jk,Jl,Jy,Jz,J0,J5,J6,J8,J9,Xb,Xc,Xf,Xu,Xv,X3,X4,X6,X7,X8,Wb,Wc,Wf,Wh,Wi,Wj,Wt,Wu,Wv,Ww,Wx,Wz,W0,W6,W7,W8,W9,Ya,Yb,Yd,Ye,Yf,Yi,Yj,Ym,Yv,Yy,Y7,Y8,Vk,Vl,Vp,Vq,Vt,Vu,Vv,Vw,Vx,Vy,V2,V5,Uk,Ul,Um,Un,Uo,U8,Ku,U4,Kr,U3,Kb]
           tactic =>
            try simp only [U1] at *
            try simp only [nc2] at *
            try simp (maxSteps := 4000000) only [c0,c1,c2,b1,b2,Uw,Uz,Uy,Ux,szV,szL,Int.toNat_natCast,Uu,Us,Uv,Ur,szN,Ut,U9]
            repeat' (first | with_reducible assumption | with_reducible refine And.intro ?_ ?_ | intro _ | omega | (rw [U0]; omega))
            all_goals first
              | (with_reducible refine Kl ?_; kernel_rfl)
              | exact hw
              | exact u2
              | omega)
        | true =>
          cases b3 : ((n.u.getD 0 n0).kind == 5) with
          | false =>
            have hw := hbadU (by unfold Mh; rw [b1, b2, b3]; rfl)
            have b4 : ((n.u.getD 0 n0).kind != 5) = true := by rw [bne, b3]; rfl
            (sym =>
             simp [c0,c1,c2,b1,b2,b4,hel,Uw,Uz,Uy,Ux,szV,szL,Int.toNat_natCast,Uu,Us,Uv,Ur,szN,Ut,Mo,Pg,Mp,Ph,Nv.eq_def,H7.eq_def,Hv.eq_def,Kj.eq_def,Zb,Zc,Zd,Ze,Zf,Zg,Zo,Zp,Zq,Zs,Zt,Zv,Zx,Zy,Z9,Qb,Qc,Qd,Qe,Qf,Qn,Qo,Qp,Qq,Qs,Q1,Q2,Q4,Q8,Jf,Jh,Jj,Jk,Jl,Jy,Jz,J0,J5,J6,J8,J9,Xb,Xc,Xf,Xu,Xv,X3,X4,X6,X7,X8,Wb,Wc,Wf,Wh,Wi,Wj,Wt,Wu,Wv,Ww,Wx,Wz,W0,W6,W7,W8,W9,Ya,Yb,Yd,Ye,Yf,Yh,Yi,Yj,Yl,Ym,Yt,Yv,Yw,Yy,Y7,Y8,Vk,Vl,Vp,Vs,Vt,Vu,Vv,Vw,Vx,Vy,V2,V4,V5,Uk,Ul,Um,Un,Uo,Up,U8,Ku,U4,Kr,U3,Kb]
             tactic =>
              try simp only [U1] at *
              try simp only [nc2] at *
              try simp (maxSteps := 4000000) only [c0,c1,c2,b1,b2,b4,hel,Uw,Uz,Uy,Ux,szV,szL,Int.toNat_natCast,Uu,Us,Uv,Ur,szN,Ut,U9]
              repeat' (first | with_reducible assumption | with_reducible refine And.intro ?_ ?_ | intro _ | omega | (rw [U0]; omega))
              all_goals first
                | (with_reducible refine Kl ?_; kernel_rfl)
                | exact hw
                | exact u2
                | omega)
          | true =>
            have b4 : ((n.u.getD 0 n0).kind != 5) = false := by rw [bne, b3]; rfl
            have hok : Mh n.u = true := Be.2 ⟨b1, b2, b3⟩
            (sym =>
             simp [c0,c1,c2,b1,b2,b4,hel,Uw,Uz,Uy,Ux,szV,szL,Int.toNat_natCast,Uu,Us,Uv,Ur,szN,Ut,Mo,Pg,Mp,Ph,ctx_wrap19_w,Nv.eq_def,H7.eq_def,Hv.eq_def,Kj.eq_def,Zb,Zc,Zd,Ze,Zf,Zg,Zo,Zp,Zq,Zs,Zt,Zv,Zx,Zy,Z9,Qb,Qc,Qd,Qe,Qf,Qq,Qs,Q1,Q2,Q4,Q8,Jf,Jh,Jj,Jl,Jy,Jz,J0,J5,J6,J8,J9,Xb,Xc,Xf,Xu,Xv,X3,X4,X6,X7,X8,Wc,Wf,Wh,Wi,Wj,Wt,Wu,Wv,Ww,Wx,Wz,W0,W6,W7,W8,W9,Ya,Yb,Yd,Ye,Yf,Yh,Yi,Yj,Yl,Ym,Yt,Yv,Yw,Yy,Y7,Y8,Vk,Vl,Vp,Vs,Vt,Vu,Vv,Vw,Vx,Vy,V2,V4,V5,Uk,Ul,Um,Un,Uo,Up,U8,Ku,U4,Kr,U3,Kb]
             tactic =>
              try simp only [U1] at *
              try simp only [nc2] at *
              try simp (maxSteps := 4000000) only [c0,c1,c2,b1,b2,b4,hel,Uw,Uz,Uy,Ux,szV,szL,Int.toNat_natCast,Uu,Us,Uv,Ur,szN,Ut,U9]
              repeat' (first | with_reducible assumption | with_reducible refine And.intro ?_ ?_ | intro _ | omega | (rw [U0]; omega))
              all_goals first
                | (with_reducible refine Kl ?_; kernel_rfl)
                | exact u2
                | omega
                | exact ⟨2, by ((try simp only [U2, Ka, U6, Kg, upd, Kh, Ko, Gd, Nat.reduceDiv, Nat.reduceMod, Nat.reduceMul, Nat.reduceAdd, Nat.reduceEqDiff, List.set_cons_zero, List.set_cons_succ, if_true, if_false, reduceIte]); (first | refine Wk.of_fl ?_ | skip); simp only [Wk, wkK, Gl, wkT, wk1, AV.kept, keptAll, wkO, lk, U5, and_true, true_and, and_self, Nat.reduceEqDiff, Nat.reduceLeDiff, if_true, if_false, reduceIte, reduceCtorEq, Option.isSome, false_implies]; try simp [Wk, wkK, wkT, wk1, AV.kept, keptAll, wkO, lk, U5]), by omega, fun _ => hokT, fun _ => hok, by omega⟩)
    · have hokT := hT (by omega)
      have hokU := hU (by omega)
      obtain ⟨p1, p2, p3⟩ := Be.1 hokT
      obtain ⟨q1, q2, q3⟩ := Be.1 hokU
      have hTT := tree7_of p1
      have hTU := tree7_of q1
      have hT1 := hTT.1
      have hw : Aw n = (agX false (K1 ar n.t 0) (K1 ar n.u 0) && !Gp n.t n.u) := by unfold Aw; rw [hokT, hokU]; rfl
      cases b1 : agX false (K1 ar n.t 0) (K1 ar n.u 0) with
      | false =>
        rw [b1, Bool.false_and] at hw
        (sym =>
         simp [c0,c1,c2,b1,hw,Nw,Uw,Uz,Uy,Ux,szV,szL,Int.toNat_natCast,Uu,Us,Uv,Ur,szN,Ut,Mo,Pg,Mp,Ph,H7.eq_def,Hv.eq_def,Kj.eq_def,Zb,Zc,Zd,Ze,Zf,Zg,Zp,Zq,Zs,Zt,Zv,Zx,Z9,Qb,Qd,Qe,Qf,Qm,Qn,Qo,Qp,Qq,Qs,Q1,Q2,Q4,Q8,Jf,Jh,Jj,Jk,Jl,Jy,Jz,J0,J5,J6,J7,J8,J9,Xa,Xb,Xc,Xf,Xu,Xv,X4,X6,X7,Wa,Wb,Wc,Wf,Wh,Wi,Wt,Wu,Wv,Ww,Wx,Wz,W0,W6,W7,W8,W9,Ya,Yb,Yd,Ye,Yi,Yy,Y7,Y8,Y9,Va,Vk,Vl,Vt,Vu,Vx,V5,Ul,Um,Un,Uo,U8,Ku,U4,Kr,U3,Kb]
         tactic =>
          try simp only [U1] at *
          try simp only [nc2] at *
          try simp (maxSteps := 4000000) only [c0,c1,c2,b1,hw,Nw,Uw,Uz,Uy,Ux,szV,szL,Int.toNat_natCast,Uu,Us,Uv,Ur,szN,Ut,U9]
          repeat' (first | with_reducible assumption | with_reducible refine And.intro ?_ ?_ | intro _ | omega | (rw [U0]; omega))
          all_goals first
            | (with_reducible refine Kl ?_; kernel_rfl)
            | exact hTT
            | exact hTU
            | omega)
      | true =>
        rw [b1, Bool.true_and] at hw
        (sym =>
         simp [c0,c1,c2,b1,hw,Nw,Uw,Uz,Uy,Ux,szV,szL,Int.toNat_natCast,Uu,Us,Uv,Ur,szN,Ut,Mo,Pg,Mp,Ph,H7.eq_def,Hv.eq_def,Kj.eq_def,Zb,Zc,Zd,Ze,Zf,Zg,Zp,Zq,Zs,Zt,Zv,Zx,Z9,Qb,Qc,Qd,Qe,Qf,Qm,Qn,Qo,Qp,Qq,Qs,Q1,Q2,Q4,Q8,Jf,Jh,Jj,Jk,Jl,Jy,Jz,J0,J5,J6,J7,J8,J9,Xa,Xb,Xc,Xf,Xu,Xv,X4,X6,X7,Wa,Wb,Wc,Wf,Wh,Wi,Wt,Wu,Wv,Ww,Wx,Wz,W0,W6,W7,W8,W9,Ya,Yb,Yd,Ye,Yf,Yi,Yj,Yy,Y7,Y8,Y9,Va,Vk,Vl,Vt,Vu,Vx,V5,Uk,Ul,Um,Un,Uo,U8,Ku,U4,Kr,U3,Kb]
         tactic =>
          try simp only [U1] at *
          try simp only [nc2] at *
          try simp (maxSteps := 4000000) only [c0,c1,c2,b1,hw,Nw,Uw,Uz,Uy,Ux,szV,szL,Int.toNat_natCast,Uu,Us,Uv,Ur,szN,Ut,U9]
          repeat' (first | with_reducible assumption | with_reducible refine And.intro ?_ ?_ | intro _ | omega | (rw [U0]; omega))
          all_goals first
            | (with_reducible refine Kl ?_; kernel_rfl)
            | exact hTT
            | exact hTU
            | omega))
def typV (n : VNode) : Bool := (n.t.length : Int) == 0 && (n.u.length : Int) == 0
noncomputable def usesB (n : VNode) : Bool :=
  cond (n.kind == 0) (typV n && (n.name == [] && n.many == 0))
  (cond (n.kind == 1) (typV n && (n.name == [] && (n.many == 0 && (n.num == 0 || n.num == 1))))
  (cond (n.kind == 2) (typV n && (n.num == 0 && n.many == 0))
  (cond (n.kind == 3) (typV n && (n.name == [] && (n.num == 0 && n.many == 0)))
  (cond (n.kind == 4) (typV n && (n.name == [] && (n.num == 0 && (leB 0 n.many && leB n.many 50))))
  (cond (n.kind == 5) (typV n && (isTag n.name && (n.num == 0 && n.many == 0)))
  (cond (n.kind == 6) (typV n && (n.name == [] && (leB 0 n.num && n.many == 0)))
  (cond (n.kind == 7) (n.name == [] && (leB 0 n.num && (n.many == 0 && Aw n)))
  false)))))))
noncomputable def Ba : Con := Ss (fun (n : VNode) => Rg n) usesB
noncomputable def It : Ctx := ⟨tab, lkC [(84, B4), (85, C7)], 60, lkB [], [], false⟩
theorem ctx_uses19_t : It.τ = tab := rfl
theorem ctx_uses19_c : It.Γ = lkC [(84, B4), (85, C7)] := rfl
theorem ctx_uses19_d : It.dp = 60 := rfl
theorem ctx_uses19_b : It.Δ = lkB [] := rfl
set_option maxRecDepth 100000 in
theorem good_uses19 : Gj Tryz.prog (67, Ba) := by
  refine ⟨U7 Tryz.func67 (by kernel_rfl) rfl, ?_⟩
  have K : Ky Tryz.prog It := Kd K6 Ki (by
    intro p hp
    simp only [List.mem_cons, List.not_mem_nil, or_false] at hp
    rcases hp with rfl | rfl
    · exact good_IsTag1
    · exact good_wrap19) (by simp)
  obtain ⟨c, hc⟩ : ∃ c, Tryz.f67.body = some c := ⟨_, rfl⟩
  refine Ke K Tryz.func67 hc [.tmp 2] rfl 161 rfl (fun cvs hpre => ?_)
  change Ba.pre cvs at hpre
  unfold Ba at hpre
  obtain ⟨n, rfl, hG⟩ := Ha hpre
  have hG' : Rg n := hG
  obtain ⟨⟨t1, t2⟩, ⟨u1, u2⟩, hnm, hlb⟩ := hG
  obtain ⟨r, hr⟩ : ∃ r, usesB n = r := ⟨_, rfl⟩
  have hr2 := hr
  unfold usesB typV at hr2
  clear hpre
  simp only [Tryz.f67, Option.some.injEq] at hc
  subst hc
  refine Kw 10 (of_decide_eq_true (by kernel_rfl)) ?_
  (sym =>
   simp [Uw,Uz,Uy,Ux,hr,Uu,Us,Uv,Ur,szN,Ut,ctx_uses19_t,ctx_uses19_c,ctx_uses19_d,ctx_uses19_b,B4.eq_def,Ba.eq_def,C7.eq_def,Zb,Zc,Zd,Ze,Zf,Zg,Zo,Zp,Zq,Zs,Zt,Zu,Zv,Zx,Z6,Z9,Qb,Qd,Qe,Qf,Qh,Ql,Qm,Qn,Qo,Qp,Qq,Qs,Q1,Q2,Q4,Q8,Ja,Jf,Jh,Ji,Jj,Jk,Jl,Jw,J3,J4,J5,J6,J7,J8,J9,Xa,Xb,Xc,Xf,Xn,Xo,Xs,Xu,X3,X4,X6,X7,X8,Wb,Wc,Wf,Wh,Wi,Wj,Wt,Wu,Wv,Ww,Wx,Wy,Wz,W0,W3,W4,W5,W6,W7,W8,W9,Ya,Yb,Ye,Yg,Yh,Yi,Yk,Yl,Yq,Yy,Y7,Y8,Y9,Vb,Vc,Vd,Ve,Vf,Vg,Vi,Vn,Vt,V4,V5,V6,V8,Uk,Ul,Um,Un,Up,Nx,U8,Kq,U4,U3,Kb]
   tactic =>
    try simp only [U1] at *
    try simp only [nc2] at *
    try simp (maxSteps := 4000000) only [Uw,Uz,Uy,Ux,hr,Uu,Us,Uv,Ur,szN,Ut,U9]
    repeat' (first | with_reducible assumption | with_reducible refine And.intro ?_ ?_ | intro _ | omega | (rw [U0]; omega))
    all_goals first
      | (with_reducible refine Kl ?_; kernel_rfl)
      | exact hG'
      | exact t2
      | exact u2
      | (rw [← hr2]; clear hr2 hr K hG' t1 t2 u1 u2 hnm hlb; simp_all; done)
      | (rw [← hr2]; clear hr2 hr K hG' t1 t2 u1 u2 hnm hlb; simp_all [leB]; done)
      | (rw [← hr2]; clear hr2 hr K hG' t1 t2 u1 u2 hnm hlb; simp_all [leB]; omega)
      | skip)
end Go.Am.Ty
set_option linter.unusedSimpArgs false
set_option linter.unusedVariables false
set_option maxHeartbeats 1000000
namespace Go.Am.Ty
open Go.Proofs Go.Rose Go.Rose.Rose
open Enc (enc dec)
def P3 (v : List VNode) : Nat → Nat → Nat → List (Sl VNode)
  | 0, _, _ => []
  | _, 0, _ => []
  | f + 1, m + 1, i => if i < v.length then ⟨(v.take (Rv (v.drop i) 1 i)).drop i⟩ :: P3 v f m (Rv (v.drop i) 1 i) else []
def Te (v : List VNode) : List (Sl VNode) := P3 v (v.length + 1) (arV (v.getD 0 v0)) 1
theorem endW_drop {v : List VNode} {i : Nat} (h : i < v.length) : i < Rv (v.drop i) 1 i ∧ Rv (v.drop i) 1 i ≤ v.length := by
  have h1 := endW_le (v.drop i) 1 i
  rw [List.length_drop] at h1
  have h2 : v.drop i ≠ [] := by
    intro e
    have := congrArg List.length e
    rw [List.length_drop] at this
    simp at this
    omega
  have := h1.2.2 h2
  omega
theorem kidsG_in {v : List VNode} : ∀ {f m i : Nat}, ∀ p ∈ P3 v f m i, p.l ≠ [] ∧ p.l.length + i ≤ v.length ∧ ∀ n ∈ p.l, n ∈ v
  | 0, m, i, p, hp => by simp [P3] at hp
  | f + 1, 0, i, p, hp => by simp [P3] at hp
  | f + 1, m + 1, i, p, hp => by
    rw [P3] at hp
    split at hp
    · next hlt =>
      obtain ⟨h1, h2⟩ := endW_drop hlt
      rcases List.mem_cons.1 hp with rfl | hp
      · refine ⟨?_, ?_, ?_⟩
        · intro e
          have := congrArg List.length e
          simp only [List.length_drop, List.length_take, List.length_nil] at this
          omega
        · simp only [List.length_drop, List.length_take]
          omega
        · intro n hn
          exact List.mem_of_mem_take (List.mem_of_mem_drop hn)
      · obtain ⟨q1, q2, q3⟩ := kidsG_in p hp
        exact ⟨q1, by omega, q3⟩
    · simp at hp
theorem kids19_in {v : List VNode} {p : Sl VNode} (h : p ∈ Te v) : p.l ≠ [] ∧ p.l.length < v.length ∧ ∀ n ∈ p.l, n ∈ v := by
  obtain ⟨h1, h2, h3⟩ := kidsG_in p h
  exact ⟨h1, by omega, h3⟩
theorem kidsG_len {v : List VNode} : ∀ {f m i : Nat}, (P3 v f m i).length ≤ m ∧ (P3 v f m i).length + i ≤ max i v.length
  | 0, m, i => by simp [P3]; omega
  | f + 1, 0, i => by simp [P3]; omega
  | f + 1, m + 1, i => by
    rw [P3]
    split
    · next hlt =>
      obtain ⟨h1, h2⟩ := endW_drop hlt
      have := kidsG_len (v := v) (f := f) (m := m) (i := Rv (v.drop i) 1 i)
      simp only [List.length_cons]
      omega
    · simp; omega
theorem kidsG_fuel {v : List VNode} : ∀ {f g m i : Nat}, v.length < f + i → v.length < g + i → P3 v f m i = P3 v g m i
  | 0, g, m, i, h1, h2 => by
    cases g with
    | zero => rfl
    | succ g => cases m with
      | zero => simp [P3]
      | succ m => rw [P3, P3, if_neg (by omega)]
  | f + 1, 0, m, i, h1, h2 => by
    cases m with
    | zero => simp [P3]
    | succ m => rw [P3, P3, if_neg (by omega)]
  | f + 1, g + 1, m, i, h1, h2 => by
    cases m with
    | zero => simp [P3]
    | succ m =>
      rw [P3, P3]
      split
      · next hlt =>
        obtain ⟨q1, q2⟩ := endW_drop hlt
        rw [kidsG_fuel (f := f) (g := g) (by omega) (by omega)]
      · rfl
def K3 : Con := Ss (fun (v : Sl VNode) => 0 < v.l.length ∧ v.l.length ≤ 1000000000) (fun v => Sl.mk (Te v.l))
noncomputable def E9 : Ctx := ⟨tab, lkC [(44, Hp), (45, Mk)], 60, lkB [], [], false⟩
theorem R6 : E9.τ = tab := rfl
theorem ctx_Kids19_c : E9.Γ = lkC [(44, Hp), (45, Mk)] := rfl
theorem ctx_Kids19_d : E9.dp = 60 := rfl
theorem ctx_Kids19_b : E9.Δ = lkB [] := rfl
theorem ctx_Kids19_w : E9.wr = false := rfl
set_option maxRecDepth 100000 in
theorem Oo : Gj Tryz.prog (17, K3) := by
  refine ⟨U7 Tryz.func17 (by kernel_rfl) rfl, ?_⟩
  have K : Ky Tryz.prog E9 := Kd K6 Ki (by
    intro p hp
    simp only [List.mem_cons, List.not_mem_nil, or_false] at hp
    rcases hp with rfl | rfl
    · exact good_many19
    · exact good_End19) (by simp)
  obtain ⟨c, hc⟩ : ∃ c, Tryz.f17.body = some c := ⟨_, rfl⟩
  refine Ke K Tryz.func17 hc [.tmp 2] rfl 36 rfl (fun cvs hpre => ?_)
  change K3.pre cvs at hpre
  unfold K3 at hpre
  obtain ⟨⟨v⟩, rfl, h0, hv⟩ := Ha hpre
  simp only at h0 hv
  have hel0 := Kf v0 h0
  obtain ⟨K0, hK⟩ : ∃ K0, Te v = K0 := ⟨_, rfl⟩
  obtain ⟨m, hm⟩ : ∃ m, arV (v.getD 0 v0) = m := ⟨_, rfl⟩
  have hK2 : P3 v (v.length + 1) m 1 = K0 := by rw [← hm]; exact hK
  clear hpre
  simp only [Tryz.f17, Option.some.injEq] at hc
  subst hc
  refine Kw 2 (of_decide_eq_true (by kernel_rfl)) ?_
  (sym =>
   simp [szV,hK,R6,K3.eq_def,Zb,Zc,Ze,Zf,Zn,Zo,Zr,Z1,Qq,Qs,Q1,Q2,Q4,Jb,Jc,Jd,Je,Jg,Jh,Ji,Jw,J3,J4,J5,J6,J8,Xb,Xd,Xn,Xo,Xu,X4,X6,X8,X9,Wc,Wf,Wh,Wi,Wj,Wn,Wt,Wu,Wv,Ww,Wy,W0,W3,W5,W6,W7,Ya,Yb,Y7,Y8,Vb,Vc,Vd,Ve,Vf,Vg,Vj,Vt,Vu,V4,V7,Um,Un,U8,Kc,Kb,Gg]
   tactic =>
    try simp only [U1] at *
    try simp only [nc2] at *
    try simp (maxSteps := 4000000) only [szV,hK,U9]
    refine Km [6, 8, 9, 10, 11, 12, 13, 14, 15, 16, 17, 18, 19, 20, 21, 22, 23, 24, 25, 26, 27, 28, 29, 30, 31, 32, 33, 34] (fun p : Nat × Nat × List (Sl VNode) => [(3, .sl 7 (p.2.2.map (enc : Sl VNode → D)).length), (4, .d (.int .i64 p.2.1)), (5, .d (.int .i64 p.1))]) (fun p : Nat × Nat × List (Sl VNode) => [(7, .row 1 (p.2.2.map enc) 0)]) (fun p : Nat × Nat × List (Sl VNode) => p.1 ≤ m ∧ p.1 < p.2.1 ∧ p.2.1 ≤ max 1 v.length ∧ p.2.2.length = p.1 ∧ p.2.2 ++ P3 v (v.length + 1) (m - p.1) p.2.1 = K0) (fun p : Nat × Nat × List (Sl VNode) => v.length - p.2.1) (0, 1, []) ?_ ?_ ?_
    · exact ⟨Nat.zero_le _, by simp, by simp only; omega, rfl, by simpa using hK2⟩
    · ((try simp only [U2, Ka, U6, Kg, upd, Kh, Ko, Gd, Nat.reduceDiv, Nat.reduceMod, Nat.reduceMul, Nat.reduceAdd, Nat.reduceEqDiff, List.set_cons_zero, List.set_cons_succ, if_true, if_false, reduceIte]); (first | refine Wk.of_fl ?_ | skip); simp only [Wk, wkK, Gl, wkT, wk1, AV.kept, keptAll, wkO, lk, U5, and_true, true_and, and_self, Nat.reduceEqDiff, Nat.reduceLeDiff, if_true, if_false, reduceIte, reduceCtorEq, Option.isSome, false_implies]; try simp [Wk, wkK, wkT, wk1, AV.kept, keptAll, wkO, lk, U5])
      try exact ⟨⟨rfl, rfl⟩, rfl, rfl⟩
    rintro ⟨k, i, out⟩ ⟨h1, h2, h3, h4, h5⟩
    simp only at h1 h2 h3 h4 h5
    rcases Ks k m with ⟨hlt, hlb⟩ | ⟨hlt, hlb⟩
    · rcases Ks i v.length with ⟨hlt2, hlb2⟩ | ⟨hlt2, hlb2⟩
      · obtain ⟨e1, e2⟩ := endW_drop hlt2
        have hmk : m - k = (m - (k + 1)) + 1 := by omega
        rw [hmk, P3, if_pos hlt2, kidsG_fuel (g := v.length + 1) (by omega) (by omega)] at h5
        obtain ⟨e, he⟩ : ∃ e, Rv (v.drop i) 1 i = e := ⟨_, rfl⟩
        rw [he] at e1 e2 h5
        have hcut : List.drop i (List.take e (v.map (enc : VNode → D))) = ((v.take e).drop i).map enc := by rw [← List.map_take, ← List.map_drop]
        have hlen : ((v.take e).drop i).length = e - i := by rw [List.length_drop, List.length_take]; omega
        (sym =>
         simp [hlb,hlb2,hel0,hm,he,hcut,hlen,h4,Int.toNat_natCast,Uw,Uz,Uy,Ux,szV,R6,ctx_Kids19_c,ctx_Kids19_d,ctx_Kids19_b,ctx_Kids19_w,Mk.eq_def,Hp.eq_def,Zb,Zc,Zd,Ze,Zf,Zg,Zo,Zp,Zq,Zr,Zt,Zv,Zy,Z0,Z1,Z4,Z5,Z6,Z9,Qb,Qd,Qe,Qf,Qj,Qq,Qs,Q1,Q2,Q4,Q8,Jb,Jc,Jd,Je,Jf,Jg,Jh,Ji,Jj,Jl,Jy,Jz,J0,J5,J6,J7,J8,J9,Xa,Xb,Xc,Xd,Xe,Xf,Xh,Xp,Xu,Xv,X3,X4,X6,X7,X8,Wc,Wf,Wh,Wi,Wj,Wl,Wn,Wt,Wu,Wv,Ww,Wx,Wz,W0,W3,W4,W5,W6,W7,W8,W9,Ya,Yb,Yd,Ye,Yh,Yi,Yl,Ym,Yp,Yx,Y0,Y1,Y7,Y8,Y9,Va,Vc,Vh,Vj,Vm,Vo,Vs,Vt,Vu,V3,V4,V5,V9,Uk,Um,Un,Uo,Up,U8,Kc,Kb,Gg]
         tactic =>
          try simp only [U1] at *
          try simp only [nc2] at *
          try simp (maxSteps := 4000000) only [hlb,hlb2,hel0,hm,he,hcut,hlen,h4,Int.toNat_natCast,Uw,Uz,Uy,Ux,szV,U9]
          repeat' (first | with_reducible assumption | with_reducible refine And.intro ?_ ?_ | intro _ | omega | (rw [U0]; omega))
          all_goals first
            | omega
            | (rw [hlen]; omega)
            | skip
          refine ⟨(k + 1, e, out ++ [⟨(v.take e).drop i⟩]), ?_, by simp only; omega, by simp only; omega, by simp only; omega, by simp [h4], ?_, by simp only; omega⟩
          · ((try simp only [U2, Ka, U6, Kg, upd, Kh, Ko, Gd, Nat.reduceDiv, Nat.reduceMod, Nat.reduceMul, Nat.reduceAdd, Nat.reduceEqDiff, List.set_cons_zero, List.set_cons_succ, if_true, if_false, reduceIte]); (first | refine Wk.of_fl ?_ | skip); simp only [Wk, wkK, Gl, wkT, wk1, AV.kept, keptAll, wkO, lk, U5, and_true, true_and, and_self, Nat.reduceEqDiff, Nat.reduceLeDiff, if_true, if_false, reduceIte, reduceCtorEq, Option.isSome, false_implies]; try simp [Wk, wkK, wkT, wk1, AV.kept, keptAll, wkO, lk, U5, h4, List.length_append])
            rw [hcut]
            rfl
          · simp only
            rw [List.append_assoc]
            exact h5)
      · rw [show P3 v (v.length + 1) (m - k) i = [] by cases hmk : m - k with
          | zero => rfl
          | succ q => rw [P3, if_neg (by omega)], List.append_nil] at h5
        subst h5
        (sym =>
         simp [hlb,hlb2,hel0,hm,h4,Uw,Uz,Uy,Ux,szV,R6,ctx_Kids19_c,ctx_Kids19_d,ctx_Kids19_b,Mk.eq_def,Hp.eq_def,Zb,Zc,Zd,Ze,Zf,Zg,Zo,Zp,Zq,Zt,Zv,Zy,Z6,Z9,Qb,Qd,Qe,Qf,Qn,Qo,Qp,Qq,Qs,Q1,Q2,Q4,Q8,Jf,Jh,Ji,Jj,Jk,Jl,Jy,Jz,J0,J5,J6,J7,J8,J9,Xa,Xb,Xc,Xf,Xh,Xp,Xu,Xv,X4,X6,X7,Wa,Wb,Wc,Wf,Wh,Wi,Wj,Wt,Wu,Wv,Ww,Wx,Wz,W0,W8,W9,Ya,Yb,Yd,Ye,Yi,Ym,Yx,Y0,Y1,Y7,Y8,Y9,Va,Vs,Vt,Vu,V4,V5,Uk,Ul,Um,Un,Uo,Up,U8,Kc,Kb,Gg]
         tactic =>
          try simp only [U1] at *
          try simp only [nc2] at *
          try simp (maxSteps := 4000000) only [hlb,hlb2,hel0,hm,h4,Uw,Uz,Uy,Ux,szV,U9]
          repeat' (first | with_reducible assumption | with_reducible refine And.intro ?_ ?_ | intro _ | omega | (rw [U0]; omega))
          all_goals first
            | omega
            | rfl)
    · rw [show m - k = 0 by omega, show P3 v (v.length + 1) 0 i = [] from rfl, List.append_nil] at h5
      subst h5
      (sym =>
       simp [hlb,hel0,hm,h4,Uw,Uz,Uy,Ux,szV,R6,ctx_Kids19_c,ctx_Kids19_d,ctx_Kids19_b,Mk.eq_def,Hp.eq_def,Zb,Zc,Zd,Ze,Zf,Zg,Zo,Zp,Zq,Zt,Zv,Zy,Z9,Qb,Qd,Qe,Qf,Qn,Qo,Qp,Qq,Qs,Q1,Q2,Q4,Q8,Jf,Jh,Ji,Jj,Jk,Jl,Jy,Jz,J0,J5,J6,J7,J8,J9,Xa,Xb,Xc,Xf,Xh,Xp,Xu,Xv,X4,X6,X7,Wa,Wb,Wc,Wf,Wh,Wi,Wj,Wt,Wu,Wv,Ww,Wx,Wz,W0,W8,W9,Ya,Yb,Yd,Ye,Yi,Ym,Yx,Y0,Y1,Y7,Y8,Y9,Va,Vs,Vt,Vu,V4,V5,Ul,Um,Un,Uo,Up,U8,Kc,Kb,Gg]
       tactic =>
        try simp only [U1] at *
        try simp only [nc2] at *
        try simp (maxSteps := 4000000) only [hlb,hel0,hm,h4,Uw,Uz,Uy,Ux,szV,U9]
        repeat' (first | with_reducible assumption | with_reducible refine And.intro ?_ ?_ | intro _ | omega | (rw [U0]; omega))
        all_goals first
          | omega
          | rfl))
end Go.Am.Ty
set_option linter.unusedSimpArgs false
set_option linter.unusedVariables false
set_option maxHeartbeats 1000000
namespace Go.Am.Ty
open Go.Proofs Go.Rose Go.Rose.Rose
open Enc (enc dec)
theorem endW_eatN : ∀ {l : List VNode} {o m : Nat} (k : Nat), S4 arV l o = some m → 1 ≤ o → l.length ≤ 1000000000 → o ≤ 1000000001 → Rv l o k = k + m
  | [], 0, m, k, h, h1, _, _ => by omega
  | [], o + 1, m, k, h, _, _, _ => by simp [S4] at h
  | n :: r, 0, m, k, h, h1, _, _ => by omega
  | n :: r, o + 1, m, k, h, _, hl, ho => by
    rw [S4, Option.map_eq_some_iff] at h
    obtain ⟨m', h1, rfl⟩ := h
    have hle := eatN_le h1
    rw [List.length_cons] at hl
    have e : wrp .i64 (wrp .i64 (((o + 1 : Nat) : Int) - 1) + (arV n : Int)) = ((o + arV n : Nat) : Int) := by
      rw [show wrp .i64 (((o + 1 : Nat) : Int) - 1) = (o : Int) by rw [wrp_in (by omega)]; omega, wrp_in (by omega)]
      omega
    rw [Rv, e]
    by_cases hz : o + arV n = 0
    · rw [hz] at h1
      have := eatN_zero h1
      subst this
      rw [hz]
      rfl
    · rw [show ((((o + arV n : Nat) : Int)) == 0) = false by rw [beq_eq_false_iff_ne]; omega, cond_false, endW_eatN (k + 1) h1 (by omega) (by omega) (by omega)]
      omega
theorem endW_at {v : List VNode} {i : Nat} {x : Rose VNode} (h : At arV v i x) (hl : v.length ≤ 1000000000) : Rv (v.drop i) 1 i = i + (nds x).length :=
  endW_eatN (o := 1) i (at_eatN h) (Nat.le_refl _) (by rw [List.length_drop]; omega) (by omega)
theorem cutV {v : List VNode} {i : Nat} {x : Rose VNode} (h : At arV v i x) : (v.take (i + (nds x).length)).drop i = nds x := by
  obtain ⟨_, r, h2⟩ := h
  rw [List.drop_take, Nat.add_sub_cancel_left, h2, List.take_left']
  rfl
theorem kidsG_ats {v : List VNode} (hl : v.length ≤ 1000000000) : ∀ {ks : List (Rose VNode)} {f i : Nat}, Ats arV v i ks → v.length < f + i → P3 v f ks.length i = sls ks
  | [], f, i, _, _ => by cases f <;> rfl
  | x :: xs, 0, i, h, hf => by
    have := h.head.1.lt
    omega
  | x :: xs, f + 1, i, h, hf => by
    obtain ⟨h1, h2⟩ := h.head
    have hp := N8 x
    rw [List.length_cons, P3, if_pos h1.lt, endW_at h1 hl, cutV h1, kidsG_ats hl h2 (by omega)]
    rfl
theorem Oj {v : List VNode} {x : Rose VNode} (h : Co v x) (hl : v.length ≤ 1000000000) : Te v = sls x.kids := by
  obtain ⟨h1, h2⟩ := h.at.kids
  unfold Te
  rw [h.at.root v0, ← h2]
  exact kidsG_ats hl h1 (by omega)
theorem end_tree {v : List VNode} {x : Rose VNode} (h : Co v x) (hl : v.length ≤ 1000000000) : Rv v 1 0 = v.length := by
  have := endW_at h.at hl
  rw [List.drop_zero, Nat.zero_add] at this
  rw [this, h.1]
def kidB (p x : VNode) (last : List UInt8) (first : Bool) : Bool := cond (p.kind == 4) (D2 x.label && (first || Op.bytesLess last x.label)) (x.label == [])
def wrapK (p x : VNode) : Bool := !(p.kind == 7) || (x.kind == 6 || x.kind == 7)
def Lt (p : VNode) : Nat := cond (p.kind == 7) 0 1
def slG (l : List (Sl VNode)) (i : Nat) : List VNode := (l.getD i ⟨[]⟩).l
def L7 (v : List VNode) : VNode := v.getD 0 v0
noncomputable def Ft : Nat → List VNode → Nat → Bool
  | 0, _, _ => false
  | f + 1, v, d => !(v.length == 0) && (decide (d ≤ 100) && (usesB (L7 v) && (Rv v 1 0 == v.length && ((Te v).length == arV (L7 v) && (List.range (Te v).length).all fun i =>
      kidB (L7 v) (L7 (slG (Te v) i)) (L7 (slG (Te v) (i - 1))).label (i == 0) && (wrapK (L7 v) (L7 (slG (Te v) i)) && Ft f (slG (Te v) i) (d + Lt (L7 v)))))))
def Ij (ks : List (Rose VNode)) (i : Nat) : VNode := L7 (slG (sls ks) i)
theorem slG_sls {ks : List (Rose VNode)} {i : Nat} (h : i < ks.length) : slG (sls ks) i = nds ks[i] := by
  unfold slG sls
  simp [h]
theorem Ok {ks : List (Rose VNode)} {i : Nat} (h : i < ks.length) : Ij ks i = ks[i].root := by
  unfold Ij
  rw [slG_sls h, Nc]
  rfl
noncomputable def Eq (n : VNode) (ks : List (Rose VNode)) : Bool := (List.range ks.length).all fun i => kidB n (Ij ks i) (Ij ks (i - 1)).label (i == 0) && wrapK n (Ij ks i)
mutual
noncomputable def okV : Rose VNode → Nat → Bool
  | mk n ks, d => decide (d ≤ 100) && (usesB n && (Eq n ks && okVs ks (d + Lt n)))
noncomputable def okVs : List (Rose VNode) → Nat → Bool
  | [], _ => true
  | x :: xs, d => okV x d && okVs xs d
end
theorem okVs_iff : ∀ {xs : List (Rose VNode)} {d : Nat}, okVs xs d = true ↔ ∀ i (h : i < xs.length), okV xs[i] d = true
  | [], d => by simp [okVs]
  | x :: xs, d => by
    rw [okVs, Bool.and_eq_true, okVs_iff]
    constructor
    · rintro ⟨h1, h2⟩ i hi
      cases i with
      | zero => exact h1
      | succ i => exact h2 i (by simpa using hi)
    · intro h
      exact ⟨h 0 (by simp), fun i hi => h (i + 1) (by simpa using hi)⟩
theorem G7 {p : Nat → Bool} {n : Nat} : (List.range n).all p = true ↔ ∀ j, j < n → p j = true := by
  rw [List.all_eq_true]
  exact ⟨fun h j hj => h j (List.mem_range.2 hj), fun h j hj => h j (List.mem_range.1 hj)⟩
theorem oneV_kid {n : VNode} {ks : List (Rose VNode)} (hw : wf arV (mk n ks)) {i : Nat} (h : i < ks.length) : Co (nds ks[i]) ks[i] := ⟨rfl, Oc hw.2 _ (List.getElem_mem h)⟩
theorem ndss_get {ks : List (Rose VNode)} {i : Nat} (h : i < ks.length) : (nds ks[i]).length ≤ (ndss ks).length := by
  induction ks generalizing i with
  | nil => simp at h
  | cons x xs ih =>
    simp only [ndss, List.length_append]
    cases i with
    | zero => simp
    | succ i => have := ih (i := i) (by simpa using h); simp only [List.getElem_cons_succ]; omega
theorem treeB_tree : ∀ {f : Nat} {v : List VNode} {x : Rose VNode} {d : Nat}, Co v x → v.length < f → v.length ≤ 1000000000 → Ft f v d = okV x d
  | 0, v, x, d, _, h, _ => by omega
  | f + 1, v, mk n ks, d, h, hf, hl => by
    have hk := Oj h hl
    have he := end_tree h hl
    have hr : L7 v = n := h.at.root v0
    have hlen : v.length = 1 + (ndss ks).length := by rw [h.1, Ho, List.length_cons]; omega
    have hw := h.2
    simp only [kids] at hk
    rw [Ft, okV, hk, he, hr, T0]
    rw [show (v.length == 0) = false by rw [beq_eq_false_iff_ne]; omega, hw.1]
    simp only [Bool.not_false, Bool.true_and, beq_self_eq_true]
    congr 2
    rw [Bool.eq_iff_iff, Bool.and_eq_true, G7, okVs_iff, Eq, G7]
    constructor
    · intro h2
      refine ⟨fun i hi => ?_, fun i hi => ?_⟩
      · have := h2 i (by rw [← hw.1]; exact hi)
        simp only [Bool.and_eq_true] at this ⊢
        exact ⟨this.1, this.2.1⟩
      · have := h2 i (by rw [← hw.1]; exact hi)
        simp only [Bool.and_eq_true] at this
        have h3 := this.2.2
        rw [slG_sls hi, treeB_tree (oneV_kid hw hi) (by have := ndss_get hi; omega) (by have := ndss_get hi; omega)] at h3
        exact h3
    · rintro ⟨h2, h3⟩ i hi
      have hi' : i < ks.length := by rw [hw.1]; exact hi
      have := h2 i hi'
      simp only [Bool.and_eq_true] at this ⊢
      refine ⟨this.1, this.2, ?_⟩
      rw [slG_sls hi', treeB_tree (oneV_kid hw hi') (by have := ndss_get hi'; omega) (by have := ndss_get hi'; omega)]
      exact h3 i hi'
theorem ats_of_pieces {v : List VNode} : ∀ {m f i : Nat}, (P3 v f m i).length = m → (∀ p ∈ P3 v f m i, ∃ x, Co p.l x) → ∃ ks : List (Rose VNode), ks.length = m ∧ Ats arV v i ks
  | 0, f, i, _, _ => ⟨[], rfl, trivial, v.drop i, by simp [ndss]⟩
  | m + 1, 0, i, h, _ => by simp [P3] at h
  | m + 1, f + 1, i, h, hp => by
    rw [P3] at h hp
    split at h
    · next hlt =>
      rw [if_pos hlt] at hp
      obtain ⟨h1, h2⟩ := endW_drop hlt
      obtain ⟨e, he⟩ : ∃ e, Rv (v.drop i) 1 i = e := ⟨_, rfl⟩
      rw [he] at h hp h1 h2
      obtain ⟨x, hx⟩ := hp _ List.mem_cons_self
      obtain ⟨ks, k1, k2⟩ := ats_of_pieces (by simpa using h) (fun p hp2 => hp p (List.mem_cons_of_mem _ hp2))
      have hlen : (nds x).length = e - i := by rw [← hx.1, List.length_drop, List.length_take]; omega
      obtain ⟨w, r, hr⟩ := k2
      refine ⟨x :: ks, by simp [k1], ⟨hx.2, w⟩, r, ?_⟩
      rw [ndss, List.append_assoc, ← hr, ← hx.1, ← List.drop_append_of_le_length (by rw [List.length_take]; omega), List.take_append_drop]
    · simp at h
theorem tree_of_treeB : ∀ {f : Nat} {v : List VNode} {d : Nat}, v.length ≤ 1000000000 → Ft f v d = true → ∃ x, Co v x
  | 0, v, d, _, h => by simp [Ft] at h
  | f + 1, v, d, hl, h => by
    rw [Ft] at h
    simp only [Bool.and_eq_true, beq_iff_eq, G7, Bool.not_eq_true', beq_eq_false_iff_ne] at h
    obtain ⟨h1, h2, h3, h4, h5, h6⟩ := h
    unfold Te L7 at h5
    obtain ⟨ks, k1, k2⟩ := ats_of_pieces h5 (fun p hp => by
      have hp' : p ∈ Te v := hp
      obtain ⟨j, hj, hjp⟩ := List.getElem_of_mem hp'
      have := (h6 j hj).2.2
      have hs : slG (Te v) j = p.l := by unfold slG; simp [hj, hjp]
      rw [hs] at this
      have hin := kids19_in hp'
      exact tree_of_treeB (by omega) this)
    have hpos : 0 < v.length := by omega
    obtain ⟨w, r, hr⟩ := k2
    have hat : At arV v 0 (mk (v.getD 0 v0) ks) := by
      refine ⟨⟨k1, w⟩, r, ?_⟩
      rw [Ho, List.cons_append, ← hr, List.drop_zero]
      cases v with
      | nil => simp at hpos
      | cons a b => rfl
    have he := endW_at hat hl
    rw [List.drop_zero, Nat.zero_add, h4] at he
    refine ⟨_, ?_, hat.1⟩
    obtain ⟨_, r2, hr2⟩ := hat
    rw [List.drop_zero] at hr2
    have := congrArg List.length hr2
    rw [List.length_append] at this
    have hn : r2 = [] := List.eq_nil_of_length_eq_zero (by omega)
    rw [hn, List.append_nil] at hr2
    exact hr2
noncomputable def Fj (v : List VNode) : Bool := !(v.length == 0) && (decide (v.length ≤ 10000) && ((L7 v).label == [] && Ft (v.length + 1) v 1))
structure VT (x : Rose VNode) : Prop where
  wf : wf arV x
  len : (nds x).length ≤ 10000
  name : x.root.label = []
  ok : okV x 1 = true
theorem right19_iff {v : List VNode} : Fj v = true ↔ ∃ x, v = nds x ∧ VT x := by
  constructor
  · intro h
    unfold Fj at h
    simp only [Bool.and_eq_true, decide_eq_true_eq, beq_iff_eq] at h
    obtain ⟨h1, h2, h3, h4⟩ := h
    obtain ⟨x, hx⟩ := tree_of_treeB (by omega) h4
    rw [treeB_tree hx (by omega) (by omega)] at h4
    exact ⟨x, hx.1, hx.2, by rw [← hx.1]; exact h2, by rw [← hx.at.root v0]; exact h3, h4⟩
  · rintro ⟨x, rfl, hx⟩
    have h1 := N8 x
    have h2 := hx.len
    have ho : Co (nds x) x := ⟨rfl, hx.wf⟩
    unfold Fj
    rw [treeB_tree ho (by omega) (by omega), hx.ok]
    have h3 : (L7 (nds x)).label = [] := by rw [show L7 (nds x) = x.root from ho.at.root v0]; exact hx.name
    rw [h3, show ((nds x).length == 0) = false by rw [beq_eq_false_iff_ne]; omega]
    simp [h2]
end Go.Am.Ty
set_option linter.unusedSimpArgs false
set_option linter.unusedVariables false
set_option maxHeartbeats 2000000
namespace Go.Am.Ty
open Go.Proofs Go.Rose Go.Rose.Rose
open Enc (enc dec)
noncomputable def Nh (n : Nat) : Con := Bg (fun (v : Sl VNode) (d : Int) => v.l.length ≤ 1000000000 ∧ (∀ m ∈ v.l, Rg m) ∧ 0 ≤ d ∧ d ≤ 1000 ∧ v.l.length < n) (fun v d => Ft n v.l d.toNat)
theorem con_tree19_zero : ∀ c, ¬ (Nh 0).pre c := by
  intro c h
  unfold Nh at h
  obtain ⟨_, _, _, _, _, _, _, h⟩ := Gi h
  omega
theorem Cs {α : Type} {l : List α} {i : Nat} {d : α} (h : i < l.length) : l.getD i d ∈ l := by simp [h]
noncomputable def E1 (n : Nat) : Ctx := ⟨tab, lkC [(67, Ba), (45, Mk), (17, K3), (44, Hp), (68, Ng), (41, (Nh n))], 60, lkB [], [], false⟩
theorem Bk (n : Nat) : (E1 n).τ = tab := rfl
theorem T6 (n : Nat) : (E1 n).Γ = lkC [(67, Ba), (45, Mk), (17, K3), (44, Hp), (68, Ng), (41, (Nh n))] := rfl
theorem Bl (n : Nat) : (E1 n).dp = 60 := rfl
theorem T7 (n : Nat) : (E1 n).Δ = lkB [] := rfl
theorem ctx_tree19_w (n : Nat) : (E1 n).wr = false := rfl
set_option maxRecDepth 100000 in
theorem step_tree19 (n : Nat) (ih : Gj Tryz.prog (41, Nh n)) : Gj Tryz.prog (41, (Nh (n + 1))) := by
  refine ⟨U7 Tryz.func41 (by kernel_rfl) rfl, ?_⟩
  have K : Ky Tryz.prog (E1 n) := Kd K6 Ki (by
    intro p hp
    simp only [List.mem_cons, List.not_mem_nil, or_false] at hp
    rcases hp with rfl | rfl | rfl | rfl | rfl | rfl
    · exact good_uses19
    · exact good_End19
    · exact Oo
    · exact good_many19
    · exact good_IsWord1
    · exact ih) (by simp)
  obtain ⟨c, hc⟩ : ∃ c, Tryz.f41.body = some c := ⟨_, rfl⟩
  refine Ke K Tryz.func41 hc [.tmp 4] rfl 102 rfl (fun cvs hpre => ?_)
  change (Nh (n + 1)).pre cvs at hpre
  unfold Nh at hpre
  obtain ⟨⟨v⟩, d, rfl, hv, hG, hd0, hd1, hn⟩ := Gi hpre
  simp only at hv hG hd0 hd1 hn
  obtain ⟨d, rfl⟩ : ∃ m : Nat, d = m := ⟨d.toNat, by omega⟩
  obtain ⟨r, hr⟩ : ∃ r, Ft (n + 1) v d = r := ⟨_, rfl⟩
  have hr2 := hr
  rw [Ft] at hr2
  clear hpre
  simp only [Tryz.f41, Option.some.injEq] at hc
  subst hc
  refine Kw 6 (of_decide_eq_true (by kernel_rfl)) ?_
  by_cases h0 : v.length = 0
  · have hb : ((v.length : Int) == 0) = true := by rw [beq_iff_eq]; omega
    have hrf : r = false := by rw [← hr2, h0]; rfl
    (sym =>
     simp [hb,hr,hrf,Int.toNat_natCast,Uw,Uz,Uy,Ux,szV,Bk,Bl,Nh.eq_def,Zb,Zc,Zd,Ze,Zf,Zo,Zt,Z6,Qb,Qd,Qn,Qo,Qp,Qq,Qs,Q1,Q2,Q4,Q8,Jk,Jw,J3,J4,J5,J6,J8,J9,Xb,Xc,Xf,Xn,Xo,Xv,X4,X6,X7,Wb,Wc,Wf,Wh,Wi,Wj,Wt,Wu,Wv,Ww,Wy,W0,W6,W7,W8,W9,Ya,Yb,Ye,Yi,Yx,Yy,Y0,Y1,Y7,Y8,Vb,Vc,Vd,Ve,Vf,Vg,Vh,Vj,Vt,Vu,V4,V5,Uk,Um,Un,Up,U8,Ku,Kq,Kc,Kb,Gg])
  have hb : ((v.length : Int) == 0) = false := by rw [beq_eq_false_iff_ne]; omega
  have hpos : 0 < v.length := by omega
  rw [show (v.length == 0) = false by rw [beq_eq_false_iff_ne]; exact h0, Bool.not_false, Bool.true_and] at hr2
  rcases Tc 100 d with ⟨h1, h1b⟩ | ⟨h1, h1b⟩
  · have hrf : r = false := by rw [← hr2, show decide (d ≤ 100) = false by rw [decide_eq_false_iff_not]; omega]; rfl
    (sym =>
     simp [hb,h1b,hr,hrf,Int.toNat_natCast,Uw,Uz,Uy,Ux,szV,Bk,Bl,Nh.eq_def,Zb,Zc,Zd,Ze,Zf,Zo,Zt,Z6,Qb,Qd,Qn,Qo,Qp,Qq,Qs,Q1,Q2,Q4,Q8,Jk,Jw,J3,J4,J5,J6,J8,J9,Xb,Xc,Xf,Xn,Xo,Xv,X4,X6,X7,Wb,Wc,Wf,Wh,Wi,Wj,Wt,Wu,Wv,Ww,Wy,W0,W6,W7,W8,W9,Ya,Yb,Ye,Yi,Yx,Yy,Y0,Y1,Y7,Y8,Vb,Vc,Vd,Ve,Vf,Vg,Vh,Vj,Vt,Vu,V4,V5,Uk,Ul,Um,Un,Up,U8,Ku,Kq,Kc,Kb,Gg])
  rw [show decide (d ≤ 100) = true by rw [decide_eq_true_eq]; omega, Bool.true_and] at hr2
  have hel0 := Kf v0 hpos
  have hGp := hG _ (Cs (d := v0) hpos)
  obtain ⟨p, hp⟩ : ∃ p, v.getD 0 v0 = p := ⟨_, rfl⟩
  have hrp : L7 v = p := hp
  rw [hp] at hel0 hGp
  rw [hrp] at hr2
  cases b2 : usesB p with
  | false =>
    have hrf : r = false := by rw [← hr2, b2]; rfl
    (sym =>
     simp [hb,h1b,hel0,b2,hr,hrf,Int.toNat_natCast,Uw,Uz,Uy,Ux,szV,Bk,T6,Bl,T7,Mk.eq_def,Ng.eq_def,K3.eq_def,Hp.eq_def,Nh.eq_def,Ba.eq_def,Zb,Zc,Zd,Ze,Zf,Zo,Zp,Zq,Zt,Zv,Zy,Z6,Z9,Qb,Qc,Qd,Qe,Qf,Qn,Qo,Qp,Qq,Qs,Q1,Q2,Q4,Q8,Jf,Jj,Jk,Jl,Jw,J3,J4,J5,J6,J8,J9,Xb,Xc,Xf,Xn,Xo,Xp,Xu,Xv,X4,X6,X7,Wb,Wc,Wf,Wh,Wi,Wj,Wt,Wu,Wv,Ww,Wx,Wy,Wz,W0,W6,W7,W8,W9,Ya,Yb,Ye,Yf,Yi,Yj,Ym,Yx,Yy,Y0,Y1,Y7,Y8,Vb,Vc,Vd,Ve,Vf,Vg,Vh,Vj,Vq,Vs,Vt,Vu,V4,V5,Uk,Ul,Um,Un,Up,U8,Ku,Kq,Kc,Kb,Gg]
     tactic =>
      try simp only [U1] at *
      try simp only [nc2] at *
      try simp (maxSteps := 4000000) only [hb,h1b,hel0,b2,hr,hrf,Int.toNat_natCast,Uw,Uz,Uy,Ux,szV,U9]
      repeat' (first | with_reducible assumption | with_reducible refine And.intro ?_ ?_ | intro _ | omega | (rw [U0]; omega))
      all_goals exact hGp)
  | true =>
  rw [b2, Bool.true_and] at hr2
  obtain ⟨e, he⟩ : ∃ e, Rv v 1 0 = e := ⟨_, rfl⟩
  rw [he] at hr2
  by_cases h3 : e = v.length
  case neg =>
    have b3 : ((e : Int) != (v.length : Int)) = true := by rw [bne_iff_ne]; omega
    have hrf : r = false := by rw [← hr2, show (e == v.length) = false by rw [beq_eq_false_iff_ne]; exact h3]; rfl
    (sym =>
     simp [hb,h1b,hel0,b2,b3,he,hr,hrf,Int.toNat_natCast,Uw,Uz,Uy,Ux,szV,Bk,T6,Bl,T7,Mk.eq_def,Ng.eq_def,K3.eq_def,Hp.eq_def,Nh.eq_def,Ba.eq_def,Zb,Zc,Zd,Ze,Zf,Zo,Zp,Zq,Zt,Zv,Zy,Z6,Z9,Qb,Qc,Qd,Qe,Qf,Qn,Qo,Qp,Qq,Qs,Q1,Q2,Q4,Q8,Jf,Jj,Jk,Jl,Jw,J3,J4,J5,J6,J8,J9,Xb,Xc,Xf,Xn,Xo,Xp,Xu,Xv,X4,X6,X7,Wb,Wc,Wf,Wh,Wi,Wj,Wt,Wu,Wv,Ww,Wx,Wy,Wz,W0,W6,W7,W8,W9,Ya,Yb,Ye,Yf,Yi,Yj,Ym,Yx,Yy,Y0,Y1,Y7,Y8,Vb,Vc,Vd,Ve,Vf,Vg,Vh,Vj,Vm,Vo,Vp,Vs,Vt,Vu,V4,V5,Uk,Ul,Um,Un,Uo,Up,U8,Ku,Kq,Kc,Kb,Gg]
     tactic =>
      try simp only [U1] at *
      try simp only [nc2] at *
      try simp (maxSteps := 4000000) only [hb,h1b,hel0,b2,b3,he,hr,hrf,Int.toNat_natCast,Uw,Uz,Uy,Ux,szV,U9]
      repeat' (first | with_reducible assumption | with_reducible refine And.intro ?_ ?_ | intro _ | omega | (rw [U0]; omega))
      all_goals first
        | exact hGp
        | omega)
  subst h3
  have b3 : ((v.length : Int) != (v.length : Int)) = false := by rw [bne_self_eq_false]
  rw [beq_self_eq_true, Bool.true_and] at hr2
  obtain ⟨L, hL⟩ : ∃ L, Te v = L := ⟨_, rfl⟩
  rw [hL] at hr2
  have hin : ∀ q ∈ L, q.l ≠ [] ∧ q.l.length < v.length ∧ ∀ m ∈ q.l, m ∈ v := fun q hq => kids19_in (by rw [hL]; exact hq)
  by_cases h4 : L.length = arV p
  case neg =>
    have b4 : ((L.length : Int) != (arV p : Int)) = true := by rw [bne_iff_ne]; omega
    have hrf : r = false := by rw [← hr2, show (L.length == arV p) = false by rw [beq_eq_false_iff_ne]; exact h4]; rfl
    (sym =>
     simp [hb,h1b,hel0,b2,b3,b4,he,hL,hr,hrf,Int.toNat_natCast,Uw,Uz,Uy,Ux,szV,Bk,T6,Bl,T7,Mk.eq_def,Ng.eq_def,K3.eq_def,Hp.eq_def,Nh.eq_def,Ba.eq_def,Zb,Zc,Zd,Ze,Zf,Zo,Zp,Zq,Zt,Zv,Zy,Z6,Z9,Qb,Qc,Qd,Qe,Qf,Qn,Qo,Qp,Qq,Qs,Q1,Q2,Q4,Q8,Jf,Jj,Jk,Jl,Jw,J3,J4,J5,J6,J8,J9,Xb,Xc,Xf,Xn,Xo,Xp,Xu,Xv,X3,X4,X6,X7,Wb,Wc,Wf,Wh,Wi,Wj,Wt,Wu,Wv,Ww,Wx,Wy,Wz,W0,W6,W7,W8,W9,Ya,Yb,Ye,Yf,Yi,Yj,Ym,Yx,Yy,Y0,Y1,Y6,Y7,Y8,Vb,Vc,Vd,Ve,Vf,Vg,Vh,Vj,Vm,Vo,Vp,Vs,Vt,Vu,V4,V5,Uk,Ul,Um,Un,Uo,Up,U8,Ku,Kq,Kc,Kb,Gg]
     tactic =>
      try simp only [U1] at *
      try simp only [nc2] at *
      try simp (maxSteps := 4000000) only [hb,h1b,hel0,b2,b3,b4,he,hL,hr,hrf,Int.toNat_natCast,Uw,Uz,Uy,Ux,szV,U9]
      repeat' (first | with_reducible assumption | with_reducible refine And.intro ?_ ?_ | intro _ | omega | (rw [U0]; omega))
      all_goals first
        | exact hGp
        | omega)
  have b4 : ((L.length : Int) != (arV p : Int)) = false := by rw [h4, bne_self_eq_false]
  rw [show (L.length == arV p) = true by rw [beq_iff_eq]; exact h4, Bool.true_and] at hr2
  have hLl : L.length ≤ v.length := by
    have := (kidsG_len (v := v) (f := v.length + 1) (m := arV (v.getD 0 v0)) (i := 1)).2
    rw [← hL]
    unfold Te
    omega
  obtain ⟨ok, hok⟩ : ∃ ok : Nat → Bool, ok = fun i => kidB p (L7 (slG L i)) (L7 (slG L (i - 1))).label (i == 0) && (wrapK p (L7 (slG L i)) && Ft n (slG L i) (d + Lt p)) := ⟨_, rfl⟩
  have hr3 : (List.range L.length).all ok = r := by rw [hok]; exact hr2
  have hfail : ∀ k, k < L.length → ok k = false → false = r := fun k hk h => by rw [← hr3, Cq k hk h]
  have hall : (∀ k, k < L.length → ok k = true) → r = true := fun h => by rw [← hr3]; exact T2 h
  clear hr2 hr3
  (sym =>
   simp [hb,h1b,hel0,b2,b3,b4,he,hL,hr,Int.toNat_natCast,Uw,Uz,Uy,Ux,szV,Bk,T6,Bl,T7,Mk.eq_def,Ng.eq_def,K3.eq_def,Hp.eq_def,Nh.eq_def,Ba.eq_def,Zb,Zc,Zd,Ze,Zf,Zo,Zp,Zq,Zt,Zv,Zy,Z6,Z9,Qb,Qc,Qd,Qe,Qf,Qq,Qs,Q1,Q2,Q4,Q8,Jf,Jj,Jl,Jw,J3,J4,J5,J6,J8,J9,Xb,Xc,Xf,Xn,Xo,Xp,Xu,Xv,X3,X4,X6,X7,X8,X9,Wc,Wf,Wh,Wi,Wj,Wt,Wu,Wv,Ww,Wx,Wy,Wz,W0,W6,W7,W8,W9,Ya,Yb,Ye,Yf,Yi,Yj,Ym,Yx,Yy,Y0,Y1,Y6,Y7,Y8,Vb,Vc,Vd,Ve,Vf,Vg,Vh,Vj,Vm,Vo,Vp,Vs,Vt,Vu,V4,V5,Ul,Um,Un,Uo,Up,U8,Ku,Kq,Kc,Kb,Gg]
   tactic =>
    try simp only [U1] at *
    try simp only [nc2] at *
    try simp (maxSteps := 4000000) only [hb,h1b,hel0,b2,b3,b4,he,hL,hr,Int.toNat_natCast,Uw,Uz,Uy,Ux,szV,U9]
    repeat' (first | with_reducible assumption | with_reducible refine And.intro ?_ ?_ | intro _ | omega | (rw [U0]; omega))
    refine Km [4, 7, 8, 39, 40, 41, 42, 43, 44, 45, 46, 47, 48, 49, 50, 51, 52, 53, 54, 55, 56, 57, 58, 59, 60, 61, 62, 63, 64, 65, 66, 67, 68, 69, 70, 71, 72, 73, 74, 75, 76, 77, 78, 79, 80, 81, 82, 83, 84, 85, 86, 87, 88, 89, 90, 91, 92, 93, 94, 95, 96, 97, 98, 99, 100, 101] (fun k : Nat => [(6, .d (.int .i64 k))]) (fun k : Nat => []) (fun k : Nat => k ≤ L.length ∧ ∀ j, j < k → ok j = true) (fun k : Nat => L.length - k) 0 ?_ ?_ ?_
    · simp
    · ((try simp only [U2, Ka, U6, Kg, upd, Kh, Ko, Gd, Nat.reduceDiv, Nat.reduceMod, Nat.reduceMul, Nat.reduceAdd, Nat.reduceEqDiff, List.set_cons_zero, List.set_cons_succ, if_true, if_false, reduceIte]); (first | refine Wk.of_fl ?_ | skip); simp only [Wk, wkK, Gl, wkT, wk1, AV.kept, keptAll, wkO, lk, U5, and_true, true_and, and_self, Nat.reduceEqDiff, Nat.reduceLeDiff, if_true, if_false, reduceIte, reduceCtorEq, Option.isSome, false_implies]; try simp [Wk, wkK, wkT, wk1, AV.kept, keptAll, wkO, lk, U5])
    rintro k ⟨hk, hno⟩
    rcases Ks k L.length with ⟨hlt, hlb⟩ | ⟨hlt, hlb⟩
    · have q1 := Kf (⟨[]⟩ : Sl VNode) hlt
      obtain ⟨g1, g2, g3⟩ := hin _ (Cs (d := ⟨[]⟩) hlt)
      obtain ⟨⟨q⟩, hq⟩ : ∃ q, L.getD k ⟨[]⟩ = q := ⟨_, rfl⟩
      have hsl : slG L k = q := by unfold slG; rw [hq]
      rw [hq] at q1 g1 g2 g3
      simp only at g1 g2 g3
      have hqp : 0 < q.length := List.length_pos_iff.2 g1
      have q2 := Kf v0 hqp
      have hGx := hG _ (g3 _ (Cs (d := v0) hqp))
      obtain ⟨x, hx⟩ : ∃ x, q.getD 0 v0 = x := ⟨_, rfl⟩
      rw [hx] at q2 hGx
      have hrx : L7 (slG L k) = x := by rw [hsl]; exact hx
      have hGq : ∀ m ∈ q, Rg m := fun m hm => hG m (g3 m hm)
      have hlab : x.label.length ≤ 9223372036854775807 := hGx.2.2.2
      have hm1 : (d : Int) + 1 = ((d + 1 : Nat) : Int) := by omega
      have hm0 : (d : Int) + 0 = ((d + 0 : Nat) : Int) := by omega
      have hstep : ok k = true → ∀ j, j < k + 1 → ok j = true := by
        intro h j hj
        by_cases hjk : j = k
        · subst hjk; exact h
        · exact hno j (by omega)
      have hokk : ok k = (kidB p x (L7 (slG L (k - 1))).label (k == 0) && (wrapK p x && Ft n q (d + Lt p))) := by rw [hok]; simp only; rw [hrx, hsl]
      have hF := hfail k hlt
      rw [hokk] at hstep hF
      clear hokk hfail hall hok hno
      rcases Tc 0 k with ⟨hk0, hk0b⟩ | ⟨hk0, hk0b⟩
      · have hk1 : (k : Int) - 1 = ((k - 1 : Nat) : Int) := by omega
        have q3 := Kf (⟨[]⟩ : Sl VNode) (show k - 1 < L.length by omega)
        obtain ⟨f1, f2, f3⟩ := hin _ (Cs (d := ⟨[]⟩) (show k - 1 < L.length by omega))
        obtain ⟨⟨u⟩, hu⟩ : ∃ u, L.getD (k - 1) ⟨[]⟩ = u := ⟨_, rfl⟩
        have hsu : slG L (k - 1) = u := by unfold slG; rw [hu]
        rw [hu] at q3 f1
        simp only at f1
        have hup : 0 < u.length := List.length_pos_iff.2 f1
        have q4 := Kf v0 hup
        obtain ⟨y, hy⟩ : ∃ y, u.getD 0 v0 = y := ⟨_, rfl⟩
        have hry : L7 (slG L (k - 1)) = y := by rw [hsu]; exact hy
        rw [hy] at q4
        rw [hry, show (k == 0) = false by rw [beq_eq_false_iff_ne]; omega] at hstep hF
        unfold kidB wrapK Lt at hstep hF
        (sym =>
         simp [hlb,q1,q2,q3,q4,hk0b,hk1,hm0,hm1,hel0,Uw,Int.toNat_natCast,Uw,Uz,Uy,Ux,szV,Bk,T6,Bl,T7,ctx_tree19_w,Mk.eq_def,Ng.eq_def,K3.eq_def,Hp.eq_def,Nh.eq_def,Ba.eq_def,Zb,Zc,Zd,Ze,Zf,Zg,Zh,Zi,Zj,Zk,Zl,Zm,Zo,Zp,Zq,Zs,Zt,Zu,Zv,Zw,Zx,Zy,Z6,Z9,Qb,Qc,Qd,Qe,Qf,Qk,Ql,Qm,Qn,Qo,Qp,Qq,Qr,Qs,Q1,Q2,Q4,Q5,Q6,Q8,Jf,Jh,Ji,Jj,Jk,Jl,Jy,Jz,J0,J5,J6,J7,J8,J9,Xa,Xb,Xc,Xf,Xp,Xr,Xs,Xu,Xv,X3,X4,X5,X6,X7,X8,Wb,Wc,Wd,We,Wf,Wg,Wh,Wi,Wj,Wm,Wp,Wq,Wr,Ws,Wt,Wu,Wv,Ww,Wx,Wz,W0,W3,W4,W5,W6,W7,W8,W9,Ya,Yb,Yd,Ye,Yf,Yg,Yi,Yj,Yk,Ym,Yq,Yt,Yu,Yw,Yy,Y0,Y1,Y3,Y6,Y7,Y8,Y9,Va,Vc,Ve,Vf,Vg,Vh,Vi,Vj,Vm,Vn,Vo,Vs,Vt,Vu,V4,V5,V6,V8,Uk,Ul,Um,Un,Uo,Up,Uq,U8,Ku,Kq,Kc,Kb,Gg]
         tactic =>
          try simp only [U1] at *
          try simp only [nc2] at *
          try simp (maxSteps := 4000000) only [hlb,q1,q2,q3,q4,hk0b,hk1,hm0,hm1,hel0,Uw,Int.toNat_natCast,Uw,Uz,Uy,Ux,szV,U9]
          repeat' (first | with_reducible assumption | with_reducible refine And.intro ?_ ?_ | intro _ | omega | (rw [U0]; omega))
          all_goals first
            | (with_reducible refine Kl ?_; kernel_rfl)
            | omega
            | exact hGq
            | exact hlab
            | (refine hF ?_; clear hF hstep hG hin ih K hGq hGx hGp g3 q1 q2 hq hsl hrx hel0 hp hrp hr he hL; simp_all [Bool.cond_eq_ite]; done)
            | (refine ⟨k + 1, by ((try simp only [U2, Ka, U6, Kg, upd, Kh, Ko, Gd, Nat.reduceDiv, Nat.reduceMod, Nat.reduceMul, Nat.reduceAdd, Nat.reduceEqDiff, List.set_cons_zero, List.set_cons_succ, if_true, if_false, reduceIte]); (first | refine Wk.of_fl ?_ | skip); simp only [Wk, wkK, Gl, wkT, wk1, AV.kept, keptAll, wkO, lk, U5, and_true, true_and, and_self, Nat.reduceEqDiff, Nat.reduceLeDiff, if_true, if_false, reduceIte, reduceCtorEq, Option.isSome, false_implies]; try simp [Wk, wkK, wkT, wk1, AV.kept, keptAll, wkO, lk, U5]), by omega, hstep ?_, by omega⟩; clear hF hstep hG hin ih K hGq hGx hGp g3 q1 q2 hq hsl hrx hel0 hp hrp hr he hL; simp_all [Bool.cond_eq_ite]; done)
            | skip)
      · rw [show (k == 0) = true by rw [beq_iff_eq]; omega] at hstep hF
        unfold kidB wrapK Lt at hstep hF
        (sym =>
         simp [hlb,q1,q2,hk0b,hm0,hm1,hel0,Uw,Int.toNat_natCast,Uw,Uz,Uy,Ux,szV,Bk,T6,Bl,T7,ctx_tree19_w,Mk.eq_def,Ng.eq_def,K3.eq_def,Hp.eq_def,Nh.eq_def,Ba.eq_def,Zb,Zc,Zd,Ze,Zf,Zg,Zh,Zi,Zj,Zk,Zl,Zm,Zo,Zp,Zq,Zs,Zt,Zu,Zv,Zw,Zx,Zy,Z6,Z9,Qb,Qc,Qd,Qe,Qf,Qk,Ql,Qm,Qn,Qo,Qp,Qq,Qr,Qs,Q1,Q2,Q4,Q5,Q6,Q8,Jf,Jh,Ji,Jj,Jk,Jl,Jy,Jz,J0,J5,J6,J7,J8,J9,Xa,Xb,Xc,Xf,Xp,Xr,Xs,Xu,Xv,X3,X4,X5,X6,X7,X8,Wb,Wc,Wd,We,Wf,Wg,Wh,Wi,Wj,Wm,Wp,Wq,Wr,Ws,Wt,Wu,Wv,Ww,Wx,Wz,W0,W3,W4,W5,W6,W7,W8,W9,Ya,Yb,Yd,Ye,Yf,Yg,Yi,Yj,Yk,Ym,Yq,Yt,Yw,Yy,Y0,Y1,Y3,Y6,Y7,Y8,Y9,Va,Vc,Ve,Vf,Vg,Vh,Vi,Vj,Vm,Vn,Vo,Vs,Vt,Vu,V4,V5,V6,V8,Uk,Ul,Um,Un,Uo,Up,Uq,U8,Ku,Kq,Kc,Kb,Gg]
         tactic =>
          try simp only [U1] at *
          try simp only [nc2] at *
          try simp (maxSteps := 4000000) only [hlb,q1,q2,hk0b,hm0,hm1,hel0,Uw,Int.toNat_natCast,Uw,Uz,Uy,Ux,szV,U9]
          repeat' (first | with_reducible assumption | with_reducible refine And.intro ?_ ?_ | intro _ | omega | (rw [U0]; omega))
          all_goals first
            | (with_reducible refine Kl ?_; kernel_rfl)
            | omega
            | exact hGq
            | exact hlab
            | (refine hF ?_; clear hF hstep hG hin ih K hGq hGx hGp g3 q1 q2 hq hsl hrx hel0 hp hrp hr he hL; simp_all [Bool.cond_eq_ite]; done)
            | (refine ⟨k + 1, by ((try simp only [U2, Ka, U6, Kg, upd, Kh, Ko, Gd, Nat.reduceDiv, Nat.reduceMod, Nat.reduceMul, Nat.reduceAdd, Nat.reduceEqDiff, List.set_cons_zero, List.set_cons_succ, if_true, if_false, reduceIte]); (first | refine Wk.of_fl ?_ | skip); simp only [Wk, wkK, Gl, wkT, wk1, AV.kept, keptAll, wkO, lk, U5, and_true, true_and, and_self, Nat.reduceEqDiff, Nat.reduceLeDiff, if_true, if_false, reduceIte, reduceCtorEq, Option.isSome, false_implies]; try simp [Wk, wkK, wkT, wk1, AV.kept, keptAll, wkO, lk, U5]), by omega, hstep ?_, by omega⟩; clear hF hstep hG hin ih K hGq hGx hGp g3 q1 q2 hq hsl hrx hel0 hp hrp hr he hL; simp_all [Bool.cond_eq_ite]; done)
            | skip)
    · have hrt := hall fun j hj => hno j (by omega)
      (sym =>
       simp [hlb,hr,hrt,Int.toNat_natCast,Uw,Uz,Uy,Ux,szV,Bk,Bl,Zb,Zc,Ze,Zf,Zg,Zo,Z6,Qb,Qd,Qn,Qo,Qp,Qq,Qs,Q1,Q2,Q4,Q8,Jk,Jy,Jz,J0,J5,J6,J8,J9,Xa,Xb,Xc,Xf,X4,X6,X7,Wa,Wb,Wc,Wf,Wh,Wi,Wj,Wt,Wu,Wv,Ww,Ya,Yb,Yd,Ye,Yi,Y0,Y1,Y6,Y7,Y8,Y9,Va,Vt,Vu,V5,Ul,Um,Un,Uo,Up,U8,Ku,Kq,Kc,Kb,Gg]))
theorem goodn_tree19 : ∀ n, Gj Tryz.prog (41, Nh n)
  | 0 => Ev (U7 Tryz.func41 (by kernel_rfl) rfl) con_tree19_zero
  | n + 1 => step_tree19 n (goodn_tree19 n)
noncomputable def O2 : Con := Nh 1000000001
theorem good_tree19A : Gj Tryz.prog (41, O2) := goodn_tree19 _
end Go.Am.Ty
set_option linter.unusedSimpArgs false
set_option linter.unusedVariables false
set_option maxHeartbeats 2000000
namespace Go.Am.Ty
open Go.Proofs Go.Rose Go.Rose.Rose
open Enc (enc dec)
theorem con_tree19A_d : O2 = Bg (fun (v : Sl VNode) (d : Int) => v.l.length ≤ 1000000000 ∧ (∀ m ∈ v.l, Rg m) ∧ 0 ≤ d ∧ d ≤ 1000 ∧ v.l.length < 1000000001) (fun v d => Ft 1000000001 v.l d.toNat) := rfl
theorem okKids_congr {f g : Nat} : ∀ {v : List VNode} {d : Nat}, v.length < f → v.length < g → Ft f v d = Ft g v d := by
  induction f generalizing g with
  | zero => intro v d h; omega
  | succ f ih =>
    intro v d h1 h2
    cases g with
    | zero => omega
    | succ g =>
      rw [Ft, Ft]
      congr 5
      rw [Bool.eq_iff_iff, G7, G7]
      refine forall_congr' fun j => imp_congr_right fun hj => ?_
      have hin := kids19_in (Cs (d := (⟨[]⟩ : Sl VNode)) hj)
      have : (slG (Te v) j).length < v.length := hin.2.1
      rw [ih (g := g) (by omega) (by omega)]
noncomputable def Mj : Con := Ss (fun (v : Sl VNode) => v.l.length ≤ 1000000000 ∧ ∀ m ∈ v.l, Rg m) (fun v => Fj v.l)
noncomputable def F5 : Ctx := ⟨tab, lkC [(41, O2)], 60, lkB [], [], false⟩
theorem Fp : F5.τ = tab := rfl
theorem ctx_Right19_c : F5.Γ = lkC [(41, O2)] := rfl
theorem Fq : F5.dp = 60 := rfl
theorem ctx_Right19_b : F5.Δ = lkB [] := rfl
set_option maxRecDepth 100000 in
theorem good_Right19 : Gj Tryz.prog (13, Mj) := by
  refine ⟨U7 Tryz.func13 (by kernel_rfl) rfl, ?_⟩
  have K : Ky Tryz.prog F5 := Kd K6 Ki (by
    intro p hp
    simp only [List.mem_cons, List.not_mem_nil, or_false] at hp
    rcases hp with rfl
    · exact good_tree19A) (by simp)
  obtain ⟨c, hc⟩ : ∃ c, Tryz.f13.body = some c := ⟨_, rfl⟩
  refine Ke K Tryz.func13 hc [.tmp 2] rfl 22 rfl (fun cvs hpre => ?_)
  change Mj.pre cvs at hpre
  unfold Mj at hpre
  obtain ⟨⟨v⟩, rfl, hv, hG⟩ := Ha hpre
  simp only at hv hG
  obtain ⟨r, hr⟩ : ∃ r, Fj v = r := ⟨_, rfl⟩
  have hr2 := hr
  unfold Fj at hr2
  clear hpre
  simp only [Tryz.f13, Option.some.injEq] at hc
  subst hc
  by_cases h0 : v.length = 0
  · have hb : ltB 0 (v.length : Int) = false := by rw [Nd]; omega
    have hrf : r = false := by rw [← hr2, h0]; rfl
    (sym =>
     simp [hb,hr,hrf,szV,Fp,Fq,Mj.eq_def,Za,Zb,Zc,Zd,Ze,Zf,Zo,Zt,Z6,Qb,Qd,Qn,Qo,Qp,Qq,Qs,Q1,Q2,Q4,Q8,Jk,Jw,J3,J4,Xf,Xu,X4,X6,Wb,Wc,Wf,Wh,Wi,Wj,Wt,Wu,Wv,Ww,Wy,W0,W6,W7,W8,W9,Ye,Yi,Yy,Y0,Y1,Y7,Y8,Y9,Va,Vb,Vc,Vj,Vu,V4,V5,Ul,Un,Up,U8,Kq,Kc,Kb])
  have hb : ltB 0 (v.length : Int) = true := by rw [Pv]; omega
  have hpos : 0 < v.length := by omega
  rw [show (v.length == 0) = false by rw [beq_eq_false_iff_ne]; exact h0, Bool.not_false, Bool.true_and] at hr2
  rcases Es v.length 10000 with ⟨h1, h1b⟩ | ⟨h1, h1b⟩
  case inr =>
    have hrf : r = false := by rw [← hr2, show decide (v.length ≤ 10000) = false by rw [decide_eq_false_iff_not]; omega]; rfl
    (sym =>
     simp [hb,h1b,hr,hrf,szV,Fp,Fq,Mj.eq_def,Za,Zb,Zc,Zd,Ze,Zf,Zo,Zt,Z6,Qb,Qd,Qn,Qo,Qp,Qq,Qs,Q1,Q2,Q4,Q8,Jk,Jw,J3,J4,Xf,Xu,X4,X6,Wb,Wc,Wf,Wh,Wi,Wj,Wt,Wu,Wv,Ww,Wy,W0,W6,W7,W8,W9,Ye,Yi,Yy,Y0,Y1,Y7,Y8,Y9,Va,Vb,Vc,Vj,Vu,V4,V5,Uk,Ul,Un,Up,U8,Kq,Kc,Kb])
  rw [show decide (v.length ≤ 10000) = true by rw [decide_eq_true_eq]; omega, Bool.true_and] at hr2
  have hel0 := Kf v0 hpos
  obtain ⟨p, hp⟩ : ∃ p, v.getD 0 v0 = p := ⟨_, rfl⟩
  have hrp : L7 v = p := hp
  rw [hp] at hel0
  rw [hrp, okKids_congr (g := 1000000001) (by omega) (by omega)] at hr2
  cases b1 : (p.label == []) with
  | false =>
    rw [b1, Bool.false_and] at hr2
    subst hr2
    (sym =>
     simp [hb,h1b,hel0,b1,hr,Uw,Uz,Uy,Ux,szV,Fp,Fq,Mj.eq_def,Za,Zb,Zc,Zd,Ze,Zf,Zo,Zp,Zq,Zs,Zt,Zv,Zx,Zy,Z6,Qb,Qd,Qn,Qo,Qp,Qq,Qs,Q1,Q2,Q4,Q8,Jk,Jw,J3,J4,Xf,Xu,X4,X6,Wb,Wc,Wf,Wh,Wi,Wj,Wt,Wu,Wv,Ww,Wy,W0,W3,W6,W7,W8,W9,Ye,Yg,Yi,Yk,Ym,Yu,Yw,Yy,Y0,Y1,Y7,Y8,Y9,Va,Vb,Vc,Vj,Vs,Vu,V4,V5,V6,V8,Uk,Ul,Um,Un,Up,U8,Kq,Kc,Kb]
     tactic =>
      try simp only [U1] at *
      try simp only [nc2] at *
      try simp (maxSteps := 4000000) only [hb,h1b,hel0,b1,hr,Uw,Uz,Uy,Ux,szV,U9]
      repeat' (first | with_reducible assumption | with_reducible refine And.intro ?_ ?_ | intro _ | omega | (rw [U0]; omega)))
  | true =>
    rw [b1, Bool.true_and] at hr2
    (sym =>
     simp [hb,h1b,hel0,b1,hr,hr2,con_tree19A_d,Int.toNat_natCast,Uw,Uz,Uy,Ux,szV,Fp,ctx_Right19_c,Fq,ctx_Right19_b,Mj.eq_def,Za,Zb,Zc,Zd,Ze,Zf,Zo,Zp,Zq,Zs,Zt,Zv,Zx,Zy,Z6,Z9,Qb,Qd,Qe,Qf,Qn,Qo,Qp,Qq,Qs,Q1,Q2,Q4,Q8,Jf,Jj,Jk,Jl,Jw,J3,J4,Xf,Xu,Xv,X4,X6,Wb,Wc,Wf,Wh,Wi,Wj,Wt,Wu,Wv,Ww,Wx,Wy,Wz,W0,W3,W6,W7,W8,W9,Ye,Yg,Yi,Yk,Ym,Yu,Yw,Yy,Y0,Y1,Y7,Y8,Y9,Va,Vb,Vc,Vh,Vj,Vm,Vo,Vs,Vu,Vy,V4,V5,V6,V8,Uk,Um,Un,Up,U8,Kq,Kc,Kb]
     tactic =>
      try simp only [U1] at *
      try simp only [nc2] at *
      try simp (maxSteps := 4000000) only [hb,h1b,hel0,b1,hr,hr2,con_tree19A_d,Int.toNat_natCast,Uw,Uz,Uy,Ux,szV,U9]
      repeat' (first | with_reducible assumption | with_reducible refine And.intro ?_ ?_ | intro _ | omega | (rw [U0]; omega)))
theorem dec_VNodeN {a : Int} {b c : List UInt8} {d e : Int} : (dec (.agg [.int .i64 a, .str b, .str c, .int .i64 d, .int .i64 e, .list 3 [], .list 3 []]) : VNode) = ⟨a, b, c, d, e, [], []⟩ := Enc.dec_enc (VNode.mk a b c d e [] [])
theorem isE_VNodeN {a : Int} {b c : List UInt8} {d e : Int} : isE VNode (.agg [.int .i64 a, .str b, .str c, .int .i64 d, .int .i64 e, .list 3 [], .list 3 []]) = True := eq_true (Lf (VNode.mk a b c d e [] []))
theorem short_VN {x : VNode} (h : Rg x) : L5 x := ⟨by have := h.1.1; omega, by have := h.2.1.1; omega⟩
theorem inV1 {x : VNode} (h : L5 x) : InV [x] := ⟨by simp, by intro n hn; rw [List.mem_singleton] at hn; rw [hn]; exact h⟩
noncomputable def nodeB (n : VNode) : Bool :=
  cond (n.kind == 0) (Lu [⟨n.kind, n.label, [], n.num, 0, [], []⟩] [n])
  (cond (n.kind == 1) ((n.num == 0 || n.num == 1) && Lu [⟨n.kind, n.label, [], n.num, 0, [], []⟩] [n])
  (cond (n.kind == 2) (Lu [⟨n.kind, n.label, n.name, 0, 0, [], []⟩] [n])
  (cond (n.kind == 3) (Lu [⟨n.kind, n.label, [], 0, 0, [], []⟩] [n])
  (cond (n.kind == 4) ((leB 0 n.many && leB n.many 50) && Lu [⟨n.kind, n.label, [], 0, n.many, [], []⟩] [n])
  (cond (n.kind == 5) (isTag n.name && Lu [⟨n.kind, n.label, n.name, 0, 0, [], []⟩] [n])
  (cond (n.kind == 6) (leB 0 n.num && Lu [⟨n.kind, n.label, [], n.num, 0, [], []⟩] [n])
  (cond (n.kind == 7) ((leB 0 n.num && (Mh n.t && (Mh n.u && (agreeT n.t n.u && !Gp n.t n.u)))) && Lu [⟨n.kind, n.label, [], n.num, 0, n.t, n.u⟩] [n])
  false)))))))
theorem one_arrow {t : List Node} (h : Mh t = true) : One t := by
  obtain ⟨h1, _, _⟩ := Be.1 h
  obtain ⟨_, _, x, hx, hw⟩ := tree7_of h1
  exact ⟨x, by rw [hx]; exact Ns hw⟩
end Go.Am.Ty
set_option linter.unusedSimpArgs false
set_option linter.unusedVariables false
set_option maxHeartbeats 2000000
namespace Go.Am.Ty
open Go.Proofs Go.Rose Go.Rose.Rose
open Enc (enc dec)
noncomputable def Pw : Con := Ss (fun (n : VNode) => Rg n) nodeB
noncomputable def Dp : Ctx := ⟨tab, lkC [(70, Ls), (71, Bp), (72, Df), (25, Kz), (22, S2)], 60, lkB [], [], false⟩
theorem ctx_isNodeV_t : Dp.τ = tab := rfl
theorem ctx_isNodeV_c : Dp.Γ = lkC [(70, Ls), (71, Bp), (72, Df), (25, Kz), (22, S2)] := rfl
theorem ctx_isNodeV_d : Dp.dp = 60 := rfl
theorem ctx_isNodeV_b : Dp.Δ = lkB [] := rfl
theorem ctx_isNodeV_w : Dp.wr = false := rfl
set_option maxRecDepth 100000 in
theorem good_isNodeV : Gj Tryz.prog (50, Pw) := by
  refine ⟨U7 Tryz.func50 (by kernel_rfl) rfl, ?_⟩
  have K : Ky Tryz.prog Dp := Kd K6 Ki (by
    intro p hp
    simp only [List.mem_cons, List.not_mem_nil, or_false] at hp
    rcases hp with rfl | rfl | rfl | rfl | rfl
    · exact good_IsTagG
    · exact good_isArrowV
    · exact good_AgreeP
    · exact Ip
    · exact good_SameV) (by simp)
  obtain ⟨c, hc⟩ : ∃ c, Tryz.f50.body = some c := ⟨_, rfl⟩
  refine Ke K Tryz.func50 hc [.tmp 2] rfl 113 rfl (fun cvs hpre => ?_)
  change Pw.pre cvs at hpre
  unfold Pw at hpre
  obtain ⟨n, rfl, hG⟩ := Ha hpre
  have hS : L5 n := short_VN hG
  have hI := inV1 hS
  obtain ⟨⟨t1, t2⟩, ⟨u1, u2⟩, hnm, hlb⟩ := hG
  have hI0 : ∀ a b c d e, InV [⟨a, b, c, d, e, [], []⟩] := fun a b c d e => inV1 ⟨by simp, by simp⟩
  have hI7 : ∀ a b c d e, InV [⟨a, b, c, d, e, n.t, n.u⟩] := fun a b c d e => inV1 ⟨hS.1, hS.2⟩
  obtain ⟨r, hr⟩ : ∃ r, nodeB n = r := ⟨_, rfl⟩
  have hr2 := hr
  unfold nodeB at hr2
  clear hpre
  simp only [Tryz.f50, Option.some.injEq] at hc
  subst hc
  refine Kw 7 (of_decide_eq_true (by kernel_rfl)) ?_
  (sym =>
   simp [Uw,Uz,Uy,Ux,szV,dec_VNodeN,isE_VNodeN,hr,Uu,Us,Uv,Ur,szN,Ut,ctx_isNodeV_t,ctx_isNodeV_c,ctx_isNodeV_d,ctx_isNodeV_b,ctx_isNodeV_w,Df.eq_def,Ls.eq_def,Kz.eq_def,S2.eq_def,Bp.eq_def,Pw.eq_def,Zb,Zc,Zd,Ze,Zf,Zg,Zh,Zi,Zj,Zk,Zl,Zm,Zo,Zp,Zq,Zr,Zs,Zt,Zu,Zv,Zw,Zx,Z1,Z2,Z9,Qb,Qc,Qd,Qe,Qf,Qh,Qk,Ql,Qm,Qn,Qo,Qp,Qq,Qr,Qs,Q1,Q2,Q4,Q5,Q6,Q7,Q8,Ja,Jb,Jc,Jd,Je,Jf,Jg,Jh,Ji,Jj,Jk,Jl,Jw,J3,J4,J5,J6,J7,J8,J9,Xa,Xb,Xc,Xd,Xe,Xf,Xg,Xh,Xj,Xl,Xm,Xn,Xo,Xr,Xs,Xu,Xv,X3,X4,X5,X6,X7,X8,Wb,Wc,Wd,We,Wf,Wg,Wh,Wi,Wj,Wm,Wn,Wp,Wq,Wr,Ws,Wt,Wu,Wv,Ww,Wx,Wy,Wz,W0,W3,W4,W5,W6,W7,W8,W9,Ya,Yb,Ye,Yf,Yi,Yj,Yn,Yo,Yp,Yq,Yy,Y7,Y8,Y9,Va,Vb,Vc,Vd,Ve,Vf,Vg,Vi,Vk,Vl,Vn,Vt,Vu,V3,V4,V5,V9,Ud,Ue,Ug,Uk,Ul,Um,Un,Uo,Uq,Nx,U8,Ku,Kq,Kc,U4,U3,Kb]
   tactic =>
    try simp only [U1] at *
    try simp only [nc2] at *
    try simp (maxSteps := 4000000) only [Uw,Uz,Uy,Ux,szV,dec_VNodeN,isE_VNodeN,hr,Uu,Us,Uv,Ur,szN,Ut,U9]
    repeat' (first | with_reducible assumption | with_reducible refine And.intro ?_ ?_ | intro _ | omega | (rw [U0]; omega))
    all_goals first
      | (with_reducible refine Kl ?_; kernel_rfl)
      | exact hI
      | exact hI0 _ _ _ _ _
      | exact hI7 _ _ _ _ _
      | exact t2
      | exact u2
      | omega
      | (apply one_arrow; assumption)
      | (rw [← hr2]; clear hr2 hr K hS hI t1 t2 u1 u2 hnm hlb hI0 hI7; simp_all; done)
      | (rw [← hr2]; clear hr2 hr K hS hI t1 t2 u1 u2 hnm hlb hI0 hI7; simp_all [leB]; done)
      | (rw [← hr2]; clear hr2 hr K hS hI t1 t2 u1 u2 hnm hlb hI0 hI7; simp_all [leB]; omega)
      | skip)
end Go.Am.Ty
set_option linter.unusedSimpArgs false
set_option linter.unusedVariables false
set_option maxHeartbeats 2000000
namespace Go.Am.Ty
open Go.Proofs Go.Rose Go.Rose.Rose
open Enc (enc dec)
def Ab (p x : VNode) (last : List UInt8) : Bool :=
  cond (p.kind == 4) (cond (!D2 x.label) true (Op.bytesLess x.label last || x.label == last))
    (cond (!(x.label == [])) true (cond (p.kind == 7) (cond (x.kind == 6) false (!(x.kind == 7))) false))
def lastV (p x : VNode) (last : List UInt8) : List UInt8 := cond (p.kind == 4) x.label last
def Ih (v : List VNode) (tr : Nat → Nat → Bool × Nat) (p : VNode) (d : Nat) : Nat → List UInt8 → Nat → Bool × Nat
  | 0, _, i => (true, i)
  | m + 1, last, i => cond (leB (v.length : Int) i) (false, i)
      (cond (Ab p (v.getD i v0) last) (false, i)
        (cond (tr i (d + Lt p)).1 (Ih v tr p d m (lastV p (v.getD i v0) last) (tr i (d + Lt p)).2) (false, (tr i (d + Lt p)).2)))
noncomputable def Bf (v : List VNode) : Nat → Nat → Nat → Bool × Nat
  | 0, i, _ => (false, i)
  | f + 1, i, d => cond (leB (v.length : Int) i) (false, i)
      (cond (ltB 100 (d : Int)) (false, i) (cond (nodeB (v.getD i v0)) (Ih v (Bf v f) (v.getD i v0) d (arV (v.getD i v0)) [] (i + 1)) (false, i)))
theorem kidsP_mono {v : List VNode} {tr : Nat → Nat → Bool × Nat} {p : VNode} {d : Nat} (h : ∀ i d, i ≤ (tr i d).2) : ∀ {m : Nat} {last : List UInt8} {i : Nat}, i ≤ (Ih v tr p d m last i).2
  | 0, last, i => Nat.le_refl _
  | m + 1, last, i => by
    rw [Ih]
    cases leB (v.length : Int) i with
    | true => exact Nat.le_refl _
    | false =>
      cases Ab p (v.getD i v0) last with
      | true => exact Nat.le_refl _
      | false =>
        simp only [cond_false]
        have h1 := h i (d + Lt p)
        cases (tr i (d + Lt p)).1 with
        | true => exact Nat.le_trans h1 (kidsP_mono h)
        | false => exact h1
theorem Ay {v : List VNode} : ∀ {f i d : Nat}, i ≤ (Bf v f i d).2
  | 0, i, d => Nat.le_refl _
  | f + 1, i, d => by
    rw [Bf]
    cases leB (v.length : Int) i with
    | true => exact Nat.le_refl _
    | false =>
      cases ltB 100 (d : Int) with
      | true => exact Nat.le_refl _
      | false =>
        cases nodeB (v.getD i v0) with
        | false => exact Nat.le_refl _
        | true =>
          simp only [cond_false, cond_true]
          exact Nat.le_trans (Nat.le_succ i) (kidsP_mono fun i d => Ay)
theorem nodeB_ar {n : VNode} (h : nodeB n = true) : arV n ≤ 50 := by
  unfold nodeB at h
  unfold arV
  by_cases h4 : n.kind = 4
  · rw [if_pos h4]
    rw [h4] at h
    have h5 : (leB 0 n.many && leB n.many 50) = true := by
      cases hb : (leB 0 n.many && leB n.many 50) with
      | true => rfl
      | false => rw [hb] at h; simp at h
    simp [leB] at h5
    omega
  · rw [if_neg h4]
    split <;> omega
structure VX where
  v : List VNode
  i : Nat
  f : Nat
  d : Nat
def M1 (v : List VNode) (i : Nat) : List Obj := [.box false [.d (.int .i64 i)], .box false [.d (.list 7 (v.map enc))], .box false [.clo 49 [.ref 90000 0, .ref 90001 0, .ref 90002 0]]]
theorem Gx {v : List VNode} {i : Nat} : M1 v i = [.box false [.d (.int .i64 i)], .box false [.d (.list 7 (v.map enc))], .box false [.clo 49 [.ref 90000 0, .ref 90001 0, .ref 90002 0]]] := rfl
noncomputable def Hq (n : Nat) : BCon where
  X := VX
  ok x := x.v.length ≤ 1000000 ∧ (∀ m ∈ x.v, Rg m) ∧ x.v.length ≤ x.i + x.f ∧ x.d ≤ 1000 ∧ x.f < n
  args x := [.d (.int .i64 x.d), .ref 90000 0, .ref 90001 0, .ref 90002 0]
  objs x := M1 x.v x.i
  res x := .bool (Bf x.v x.f x.i x.d).1
  post x := M1 x.v (Bf x.v x.f x.i x.d).2
theorem bcon_treeV_zero : ∀ x, ¬ (Hq 0).ok x := by
  rintro x ⟨_, _, _, _, h⟩
  omega
theorem treeV_post {n : Nat} {v : List VNode} {i f d : Nat} : (Hq n).post ⟨v, i, f, d⟩ = M1 v (Bf v f i d).2 := rfl
theorem treeV_res {n : Nat} {v : List VNode} {i f d : Nat} : (Hq n).res ⟨v, i, f, d⟩ = .bool (Bf v f i d).1 := rfl
noncomputable def Dg (n : Nat) : Ctx := ⟨tab, lkC [(51, P5), (50, Pw), (52, Ma)], 60, lkB [(49, (Hq n))], [], false⟩
theorem Gt (n : Nat) : (Dg n).τ = tab := rfl
theorem Eg (n : Nat) : (Dg n).Γ = lkC [(51, P5), (50, Pw), (52, Ma)] := rfl
theorem Hu (n : Nat) : (Dg n).dp = 60 := rfl
theorem Ll (n : Nat) : (Dg n).Δ = lkB [(49, (Hq n))] := rfl
theorem Bq (n : Nat) : (Dg n).wr = false := rfl
set_option maxRecDepth 100000 in
theorem stepb_treeV (n : Nat) (ih : GoodB Tryz.prog (49, Hq n)) : GoodB Tryz.prog (49, (Hq (n + 1))) := by
  refine ⟨U7 Tryz.func49 (by kernel_rfl) rfl, ?_⟩
  have K : Ky Tryz.prog (Dg n) := Kd K6 Ki (by
    intro p hp
    simp only [List.mem_cons, List.not_mem_nil, or_false] at hp
    rcases hp with rfl | rfl | rfl
    · exact good_manyV
    · exact good_isNodeV
    · exact good_IsWordG) (by
    intro p hp
    simp only [List.mem_cons, List.not_mem_nil, or_false] at hp
    rcases hp with rfl
    · exact ih)
  obtain ⟨c, hc⟩ : ∃ c, Tryz.f49.body = some c := ⟨_, rfl⟩
  refine fn_soundB K Tryz.func49 hc [.tmp 5] rfl 83 rfl (fun x hok => ?_)
  obtain ⟨v, i, f, d⟩ := x
  obtain ⟨hv, hG, hf, hd, hn⟩ := hok
  simp only at hv hG hf hd hn
  refine ⟨?_, ?_, ?_, ?_, ?_⟩
  · show Tied [.d (.int .i64 d), .ref 90000 0, .ref 90001 0, .ref 90002 0] (M1 v i)
    rw [Gx]
    simp [Tied,tiedAll,Obj.tied,P1,keptAll,AV.kept,Hs,Ie,lk]
  · show P1 (M1 v i)
    rw [Gx]
    simp [P1]
  · show Tied [] (M1 v (Bf v f i d).2)
    rw [Gx]
    simp [Tied,tiedAll,Obj.tied,P1,keptAll,AV.kept,Hs,Ie,lk]
  · show (M1 v i).length ≤ (M1 v (Bf v f i d).2).length
    rw [Gx, Gx]
    simp
  show awp (Dg n) c (PostB _ _ (M1 v i).length (.bool (Bf v f i d).1) (M1 v (Bf v f i d).2)) ⟨[.d (.int .i64 d), .ref 90000 0, .ref 90001 0, .ref 90002 0] ++ deads 79, Hs (M1 v i)⟩
  rw [Gx, Gx]
  simp only [Tryz.f49, Option.some.injEq] at hc
  subst hc
  refine Kw 5 (of_decide_eq_true (by kernel_rfl)) ?_
  have hm1 : (d : Int) + 1 = ((d + 1 : Nat) : Int) := by omega
  have hm0 : (d : Int) + 0 = ((d + 0 : Nat) : Int) := by omega
  cases f with
  | zero =>
    have h0 : Bf v 0 i d = (false, i) := rfl
    rw [h0]
    have hleb : leB (v.length : Int) i = true := by rw [Ig]; omega
    (sym =>
     simp [hleb,Uw,Uz,Uy,Ux,szV,Gt,Hu,Zb,Zc,Zd,Ze,Zf,Zo,Zp,Zq,Zt,Zv,Z6,Qb,Qd,Qo,Qq,Qs,Qv,Qw,Qx,Q1,Q2,Q3,Q4,Jh,Jk,Jm,Jp,J3,J4,J5,J6,J8,J9,Xb,Xc,Xf,Xl,Xm,Xn,Xo,X4,X6,X7,Wb,Wc,Wf,Wh,Wi,Wj,Wt,Wu,Wv,Ww,W6,W7,W8,W9,Ya,Yb,Ye,Yh,Yi,Yl,Y7,Y8,Vb,Vc,Vd,Ve,Vf,Vg,Vt,V5,Uk,Um,Un,Up,U8,Ku,Kq,Kc,Kb,Hi]
     tactic =>
      try simp only [U1] at *
      try simp only [nc2] at *
      try simp (maxSteps := 4000000) only [hleb,Uw,Uz,Uy,Ux,szV,U9]
      repeat' (first | with_reducible assumption | with_reducible refine And.intro ?_ ?_ | intro _ | omega | (rw [U0]; omega))
      refine ⟨[90000, 90001, 90002], by simp, rfl, M3, ?_⟩
      simp [K2,lk,rnO,rnA,rnAs,rk])
  | succ f =>
    have hfold : Bf v (f + 1) i d = cond (leB (v.length : Int) i) (false, i)
      (cond (ltB 100 (d : Int)) (false, i) (cond (nodeB (v.getD i v0)) (Ih v (Bf v f) (v.getD i v0) d (arV (v.getD i v0)) [] (i + 1)) (false, i))) := rfl
    rcases Es v.length i with ⟨hle, hleb⟩ | ⟨hle, hleb⟩
    · rw [hleb, cond_true] at hfold
      rw [hfold]
      (sym =>
       simp [hleb,Uw,Uz,Uy,Ux,szV,Gt,Hu,Zb,Zc,Zd,Ze,Zf,Zo,Zp,Zq,Zt,Zv,Z6,Qb,Qd,Qo,Qq,Qs,Qv,Qw,Qx,Q1,Q2,Q3,Q4,Jh,Jk,Jm,Jp,J3,J4,J5,J6,J8,J9,Xb,Xc,Xf,Xl,Xm,Xn,Xo,X4,X6,X7,Wb,Wc,Wf,Wh,Wi,Wj,Wt,Wu,Wv,Ww,W6,W7,W8,W9,Ya,Yb,Ye,Yh,Yi,Yl,Y7,Y8,Vb,Vc,Vd,Ve,Vf,Vg,Vt,V5,Uk,Um,Un,Up,U8,Ku,Kq,Kc,Kb,Hi]
       tactic =>
        try simp only [U1] at *
        try simp only [nc2] at *
        try simp (maxSteps := 4000000) only [hleb,Uw,Uz,Uy,Ux,szV,U9]
        repeat' (first | with_reducible assumption | with_reducible refine And.intro ?_ ?_ | intro _ | omega | (rw [U0]; omega))
        refine ⟨[90000, 90001, 90002], by simp, rfl, M3, ?_⟩
        simp [K2,lk,rnO,rnA,rnAs,rk])
    rw [hleb, cond_false] at hfold
    rcases Tc 100 d with ⟨hd1, hdb⟩ | ⟨hd1, hdb⟩
    · rw [hdb, cond_true] at hfold
      rw [hfold]
      (sym =>
       simp [hleb,hdb,Uw,Uz,Uy,Ux,szV,Gt,Hu,Zb,Zc,Zd,Ze,Zf,Zo,Zp,Zq,Zt,Zv,Z6,Qb,Qd,Qo,Qq,Qs,Qv,Qw,Qx,Q1,Q2,Q3,Q4,Jh,Jk,Jm,Jp,J3,J4,J5,J6,J8,J9,Xb,Xc,Xf,Xl,Xm,Xn,Xo,X4,X6,X7,Wb,Wc,Wf,Wh,Wi,Wj,Wt,Wu,Wv,Ww,W6,W7,W8,W9,Ya,Yb,Ye,Yh,Yi,Yl,Y7,Y8,Vb,Vc,Vd,Ve,Vf,Vg,Vt,V4,V5,Uk,Ul,Um,Un,Up,U8,Ku,Kq,Kc,Kb,Hi]
       tactic =>
        try simp only [U1] at *
        try simp only [nc2] at *
        try simp (maxSteps := 4000000) only [hleb,hdb,Uw,Uz,Uy,Ux,szV,U9]
        repeat' (first | with_reducible assumption | with_reducible refine And.intro ?_ ?_ | intro _ | omega | (rw [U0]; omega))
        refine ⟨[90000, 90001, 90002], by simp, rfl, M3, ?_⟩
        simp [K2,lk,rnO,rnA,rnAs,rk])
    rw [hdb, cond_false] at hfold
    have hil : i < v.length := by omega
    have hel := Kf v0 hil
    have hGp := hG _ (Cs (d := v0) hil)
    obtain ⟨p, hp⟩ : ∃ p, v.getD i v0 = p := ⟨_, rfl⟩
    rw [hp] at hel hfold hGp
    cases hnb : nodeB p with
    | false =>
      rw [hnb, cond_false] at hfold
      rw [hfold]
      (sym =>
       simp [hleb,hdb,hel,hnb,Uw,Uz,Uy,Ux,szV,Gt,Eg,Hu,Ll,Ma.eq_def,Pw.eq_def,P5.eq_def,Zb,Zc,Zd,Ze,Zf,Zo,Zp,Zq,Zt,Zv,Zy,Z6,Z9,Qb,Qc,Qd,Qe,Qf,Qo,Qq,Qs,Qv,Qw,Qx,Q1,Q2,Q3,Q4,Q8,Jf,Jh,Jj,Jk,Jl,Jm,Jp,J3,J4,J5,J6,J8,J9,Xb,Xc,Xf,Xl,Xm,Xn,Xo,Xp,Xu,X4,X6,X7,Wb,Wc,Wf,Wh,Wi,Wj,Wt,Wu,Wv,Ww,Wx,Wz,W0,W6,W7,W8,W9,Ya,Yb,Ye,Yf,Yh,Yi,Yj,Yl,Ym,Yy,Y7,Y8,Vb,Vc,Vd,Ve,Vf,Vg,Vq,Vr,Vt,V4,V5,Uk,Ul,Um,Un,Uo,Up,U8,Ku,Kq,Kc,Kb,Hi]
       tactic =>
        try simp only [U1] at *
        try simp only [nc2] at *
        try simp (maxSteps := 4000000) only [hleb,hdb,hel,hnb,Uw,Uz,Uy,Ux,szV,U9]
        repeat' (first | with_reducible assumption | with_reducible refine And.intro ?_ ?_ | intro _ | omega | (rw [U0]; omega))
        all_goals first
          | exact hGp
          | skip
        refine ⟨[90000, 90001, 90002], by simp, rfl, M3, ?_⟩
        simp [K2,lk,rnO,rnA,rnAs,rk])
    | true =>
      have har := nodeB_ar hnb
      rw [hnb, cond_true] at hfold
      rw [hfold]
      obtain ⟨r, hr⟩ : ∃ r, Ih v (Bf v f) p d (arV p) [] (i + 1) = r := ⟨_, rfl⟩
      rw [hr]
      obtain ⟨r1, r2⟩ := r
      simp only
      (sym =>
       simp [hleb,hdb,hel,hnb,Uw,Uz,Uy,Ux,szV,Gt,Eg,Hu,Ll,Bq,Ma.eq_def,Pw.eq_def,P5.eq_def,Zb,Zc,Zd,Ze,Zf,Zo,Zp,Zq,Zt,Zu,Zv,Zw,Zy,Z6,Z9,Qb,Qc,Qd,Qe,Qf,Qh,Qk,Ql,Qq,Qs,Q1,Q2,Q3,Q4,Q8,Ja,Jf,Jh,Ji,Jj,Jl,Jm,J3,J4,J5,J6,J8,J9,Xb,Xc,Xf,Xn,Xo,Xp,Xr,Xs,Xu,X3,X4,X6,X7,X8,X9,Wc,Wf,Wh,Wi,Wj,Wm,Wt,Wu,Wv,Ww,Wx,Wz,W0,W3,W4,W5,W6,W7,W8,W9,Ya,Yb,Ye,Yf,Yh,Yi,Yj,Yl,Ym,Yn,Yq,Yx,Yy,Y7,Y8,Vb,Vc,Vd,Ve,Vf,Vg,Vp,Vr,Vt,V4,V5,V6,V8,Ud,Ul,Um,Un,Uo,Up,Uq,U8,Ku,Kq,Kc,Kb,Hi]
       tactic =>
        try simp only [U1] at *
        try simp only [nc2] at *
        try simp (maxSteps := 4000000) only [hleb,hdb,hel,hnb,Uw,Uz,Uy,Ux,szV,U9]
        repeat' (first | with_reducible assumption | with_reducible refine And.intro ?_ ?_ | intro _ | omega | (rw [U0]; omega))
        refine Km [5, 8, 9, 35, 36, 37, 38, 39, 40, 41, 42, 43, 44, 45, 46, 47, 48, 49, 50, 51, 52, 53, 54, 55, 56, 57, 58, 59, 60, 61, 62, 63, 64, 65, 66, 67, 68, 69, 70, 71, 72, 73, 74, 75, 76, 77, 78, 79, 80, 81, 82] (fun q : Nat × List UInt8 × Nat => [(7, .d (.str q.2.1)), (34, .d (.int .i64 q.1))]) (fun q : Nat × List UInt8 × Nat => [(90000, .box false [.d (.int .i64 q.2.2)])]) (fun q : Nat × List UInt8 × Nat => q.1 ≤ arV p ∧ i + 1 ≤ q.2.2 ∧ Ih v (Bf v f) p d (arV p - q.1) q.2.1 q.2.2 = (r1, r2)) (fun q : Nat × List UInt8 × Nat => arV p - q.1) (0, [], i + 1) ?_ ?_ ?_
        · exact ⟨Nat.zero_le _, Nat.le_refl _, hr⟩
        · ((try simp only [U2, Ka, U6, Kg, upd, Kh, Ko, Gd, Nat.reduceDiv, Nat.reduceMod, Nat.reduceMul, Nat.reduceAdd, Nat.reduceEqDiff, List.set_cons_zero, List.set_cons_succ, if_true, if_false, reduceIte]); (first | refine Wk.of_fl ?_ | skip); simp only [Wk, wkK, Gl, wkT, wk1, AV.kept, keptAll, wkO, lk, U5, and_true, true_and, and_self, Nat.reduceEqDiff, Nat.reduceLeDiff, if_true, if_false, reduceIte, reduceCtorEq, Option.isSome, false_implies]; try simp [Wk, wkK, wkT, wk1, AV.kept, keptAll, wkO, lk, U5])
        rintro ⟨k, last, j⟩ ⟨hk, hij, hR⟩
        simp only at hk hij hR
        rcases Ks k (arV p) with ⟨hlt, hltb⟩ | ⟨hlt, hltb⟩
        · obtain ⟨m, hm⟩ : ∃ m, arV p - k = m + 1 := ⟨arV p - k - 1, by omega⟩
          rw [hm, Ih] at hR
          rcases Es v.length j with ⟨hle2, hleb2⟩ | ⟨hle2, hleb2⟩
          · rw [hleb2, cond_true] at hR
            injection hR with hr1 hr2
            subst hr1
            subst hr2
            (sym =>
             simp [hltb,hleb2,Uw,Uz,Uy,Ux,szV,Gt,Hu,Zb,Zc,Ze,Zf,Zg,Zo,Zp,Zq,Zv,Z6,Qb,Qd,Qo,Qq,Qs,Qv,Qw,Qx,Q1,Q2,Q4,Jh,Ji,Jk,Jp,Jy,Jz,J0,J5,J6,J8,J9,Xa,Xb,Xc,Xf,Xl,Xm,X3,X4,X6,X7,X8,Wb,Wc,Wf,Wh,Wi,Wj,Wt,Wu,Wv,Ww,W6,W7,Ya,Yb,Yd,Ye,Yh,Yi,Yl,Y7,Y8,Y9,Va,Vt,V5,Uk,Um,Un,Uo,Up,U8,Ku,Kq,Kc,Kb,Hi]
             tactic =>
              try simp only [U1] at *
              try simp only [nc2] at *
              try simp (maxSteps := 4000000) only [hltb,hleb2,Uw,Uz,Uy,Ux,szV,U9]
              repeat' (first | with_reducible assumption | with_reducible refine And.intro ?_ ?_ | intro _ | omega | (rw [U0]; omega))
              refine ⟨[90000, 90001, 90002], by simp, rfl, M3, ?_⟩
              simp [K2,lk,rnO,rnA,rnAs,rk])
          rw [hleb2, cond_false] at hR
          have hjl : j < v.length := by omega
          have hel2 := Kf v0 hjl
          obtain ⟨x, hx⟩ : ∃ x, v.getD j v0 = x := ⟨_, rfl⟩
          rw [hx] at hel2 hR
          cases h4 : (p.kind == 4) with
          | true =>
            have h7 : (p.kind == 7) = false := by rw [beq_iff_eq] at h4; rw [h4]; rfl
            cases hwd : D2 x.label with
            | false =>
              have hb : Ab p x last = true := by simp only [Ab, h4, hwd, cond_true, cond_false, Bool.not_true, Bool.not_false, Bool.or_false, Bool.or_true, Bool.true_or, Bool.false_or]
              rw [hb, cond_true] at hR
              injection hR with hr1 hr2
              subst hr1
              subst hr2
              (sym =>
               simp [hltb,hleb2,hel2,h4,hwd,hm0,hm1,Uw,Uz,Uy,Ux,szV,Gt,Eg,Hu,Ll,Ma.eq_def,Pw.eq_def,P5.eq_def,Zb,Zc,Zd,Ze,Zf,Zg,Zo,Zp,Zq,Zs,Zt,Zu,Zv,Zw,Zx,Zy,Z6,Z9,Qb,Qc,Qd,Qe,Qf,Qk,Ql,Qm,Qo,Qq,Qs,Qv,Qw,Qx,Q1,Q2,Q4,Q8,Jf,Jh,Ji,Jj,Jk,Jl,Jp,Jy,Jz,J0,J5,J6,J8,J9,Xa,Xb,Xc,Xf,Xl,Xm,Xp,Xr,Xs,Xu,X3,X4,X6,X7,X8,Wb,Wc,Wf,Wh,Wi,Wj,Wm,Wt,Wu,Wv,Ww,Wx,Wz,W0,W4,W5,W6,W7,W8,W9,Ya,Yb,Yd,Ye,Yf,Yh,Yi,Yj,Yl,Ym,Yq,Yy,Y7,Y8,Y9,Va,Vc,Ve,Vf,Vg,Vi,Vn,Vq,Vr,Vt,V4,V5,Uk,Ul,Um,Un,Uo,Up,Uq,U8,Ku,Kq,Kc,Kb,Hi]
               tactic =>
                try simp only [U1] at *
                try simp only [nc2] at *
                try simp (maxSteps := 4000000) only [hltb,hleb2,hel2,h4,hwd,hm0,hm1,Uw,Uz,Uy,Ux,szV,U9]
                repeat' (first | with_reducible assumption | with_reducible refine And.intro ?_ ?_ | intro _ | omega | (rw [U0]; omega))
                refine ⟨[90000, 90001, 90002], by simp, rfl, M3, ?_⟩
                simp [K2,lk,rnO,rnA,rnAs,rk])
            | true =>
              cases hlq : (Op.bytesLess x.label last || x.label == last) with
              | true =>
                have hb : Ab p x last = true := by simp only [Ab, h4, hwd, hlq, cond_true, cond_false, Bool.not_true, Bool.not_false, Bool.or_false, Bool.or_true, Bool.true_or, Bool.false_or]
                rw [hb, cond_true] at hR
                injection hR with hr1 hr2
                subst hr1
                subst hr2
                (sym =>
                 simp [hltb,hleb2,hel2,h4,hwd,hlq,hm0,hm1,Uw,Uz,Uy,Ux,szV,Gt,Eg,Hu,Ll,Ma.eq_def,Pw.eq_def,P5.eq_def,Zb,Zc,Zd,Ze,Zf,Zg,Zo,Zp,Zq,Zs,Zt,Zu,Zv,Zw,Zx,Zy,Z6,Z9,Qb,Qc,Qd,Qe,Qf,Qk,Ql,Qm,Qo,Qq,Qs,Qv,Qw,Qx,Q1,Q2,Q4,Q8,Jf,Jh,Ji,Jj,Jk,Jl,Jp,Jy,Jz,J0,J5,J6,J8,J9,Xa,Xb,Xc,Xf,Xl,Xm,Xp,Xr,Xs,Xu,X3,X4,X6,X7,X8,Wb,Wc,Wf,Wh,Wi,Wj,Wm,Wt,Wu,Wv,Ww,Wx,Wz,W0,W4,W5,W6,W7,W8,W9,Ya,Yb,Yd,Ye,Yf,Yg,Yh,Yi,Yj,Yk,Yl,Ym,Yq,Yy,Y7,Y8,Y9,Va,Vc,Ve,Vf,Vg,Vi,Vn,Vp,Vr,Vt,V4,V5,Uk,Ul,Um,Un,Uo,Up,Uq,U8,Ku,Kq,Kc,Kb,Hi]
                 tactic =>
                  try simp only [U1] at *
                  try simp only [nc2] at *
                  try simp (maxSteps := 4000000) only [hltb,hleb2,hel2,h4,hwd,hlq,hm0,hm1,Uw,Uz,Uy,Ux,szV,U9]
                  repeat' (first | with_reducible assumption | with_reducible refine And.intro ?_ ?_ | intro _ | omega | (rw [U0]; omega))
                  refine ⟨[90000, 90001, 90002], by simp, rfl, M3, ?_⟩
                  simp [K2,lk,rnO,rnA,rnAs,rk])
              | false =>
                have hb : Ab p x last = false := by simp only [Ab, h4, hwd, hlq, cond_true, cond_false, Bool.not_true, Bool.not_false, Bool.or_false, Bool.or_true, Bool.true_or, Bool.false_or]
                have hmo : Lt p = 1 := by simp only [Lt, h7, cond_true, cond_false]
                have hla : lastV p x last = x.label := by simp only [lastV, h4, cond_true, cond_false]
                rw [hb, cond_false, hmo, hla] at hR
                have hmj := Ay (v := v) (f := f) (i := j) (d := d + 1)
                obtain ⟨w, hw⟩ : ∃ w, Bf v f j (d + 1) = w := ⟨_, rfl⟩
                rw [hw] at hR hmj
                obtain ⟨w1, w2⟩ := w
                simp only at hR hmj
                have hp2 : (Hq n).post ⟨v, j, f, d + 1⟩ = M1 v w2 := by rw [treeV_post, hw]
                have hp3 : (Hq n).res ⟨v, j, f, d + 1⟩ = .bool w1 := by rw [treeV_res, hw]
                (sym =>
                 simp [hltb,hleb2,hel2,h4,h7,hwd,hlq,hm0,hm1,Uw,Uz,Uy,Ux,szV,Gt,Eg,Hu,Ll,Bq,Ma.eq_def,Pw.eq_def,P5.eq_def,Zb,Zc,Zd,Ze,Zf,Zg,Zo,Zp,Zq,Zs,Zt,Zu,Zv,Zw,Zx,Zy,Z6,Z9,Qb,Qc,Qd,Qe,Qf,Qk,Ql,Qm,Qq,Qs,Q1,Q2,Q4,Q8,Jf,Jh,Ji,Jj,Jl,Jy,Jz,J0,J5,J6,J8,J9,Xa,Xb,Xc,Xf,Xp,Xr,Xs,Xu,X3,X4,X6,X7,X8,Wc,Wf,Wh,Wi,Wj,Wm,Wt,Wu,Wv,Ww,Wx,Wz,W0,W4,W5,W6,W7,W8,W9,Ya,Yb,Yd,Ye,Yf,Yg,Yh,Yi,Yj,Yk,Yl,Ym,Yq,Yy,Y7,Y8,Y9,Va,Vb,Vc,Ve,Vf,Vg,Vi,Vn,Vp,Vr,Vt,V4,V5,Uk,Ul,Um,Un,Uo,Up,Uq,U8,Ku,Kq,Kc,Kb,Hi]
                 tactic =>
                  try simp only [U1] at *
                  try simp only [nc2] at *
                  try simp (maxSteps := 4000000) only [hltb,hleb2,hel2,h4,h7,hwd,hlq,hm0,hm1,Uw,Uz,Uy,Ux,szV,U9]
                  repeat' (first | with_reducible assumption | with_reducible refine And.intro ?_ ?_ | intro _ | omega | (rw [U0]; omega))
                  refine Cl (bc := Hq n) ⟨v, j, f, d + 1⟩ [90000, 90001, 90002] ⟨hv, hG, by simp only; omega, by simp only; omega, by simp only; omega⟩ rfl (by simp) (by rw [hp2]; rfl) ?_ ?_ ?_
                  · show K2 _ _ (M1 v j) _
                    rw [Gx]
                    simp [K2,lk,rnO,rnA,rnAs,rk]
                  · show Mm (List.drop (M1 v j).length _) _
                    rw [Gx]
                    simp [Mm,lk]
                  cases w1 with
                  | false =>
                    rw [cond_false] at hR
                    injection hR with hr1 hr2
                    subst hr1
                    subst hr2
                    (sym =>
                     simp [hp2,hp3,Gx,Uw,Uz,Uy,Ux,szV,Gt,Hu,Zb,Zc,Ze,Zf,Zg,Qc,Qd,Qo,Qq,Qs,Qt,Qu,Qv,Qw,Qx,Q1,Q2,Q4,Ji,Jk,Jn,Jo,Jp,Jq,J5,J6,J7,J8,J9,Xa,Xb,Xc,Xf,Xl,Xm,X4,X6,X7,Wb,Wc,Wf,Wh,Wi,Wt,Wu,Wv,Ww,W6,W7,Ya,Yb,Yf,Yj,Y7,Y8,Y9,Va,Vq,Vt,V5,Uk,Um,Un,U8,Ku,Kq,Kc,Kb,Hi]
                     tactic =>
                      try simp only [U1] at *
                      try simp only [nc2] at *
                      try simp (maxSteps := 4000000) only [hp2,hp3,Gx,Uw,Uz,Uy,Ux,szV,U9]
                      repeat' (first | with_reducible assumption | with_reducible refine And.intro ?_ ?_ | intro _ | omega | (rw [U0]; omega))
                      refine ⟨[90000, 90001, 90002], by simp, rfl, M3, ?_⟩
                      simp [K2,lk,rnO,rnA,rnAs,rk])
                  | true =>
                    rw [cond_true] at hR
                    (sym =>
                     simp [hp2,hp3,Gx,Uw,Uz,Uy,Ux,szV,Gt,Bq,Zb,Zc,Ze,Zf,Zg,Qb,Qc,Qd,Qq,Qs,Qt,Qu,Q1,Q2,Q4,Ji,Jn,Jo,Jq,J5,J6,J7,J8,J9,Xa,Xb,Xc,X3,X4,X7,Wc,Wf,Wh,Wi,Wt,Wu,Wv,Ww,Ya,Yb,Ye,Yf,Yi,Yj,Y7,Y8,Y9,Va,Vp,Vt,V4,Ul,Um,U8,Ku,Kq,Kc,Kb,Hi]
                     tactic =>
                      try simp only [U1] at *
                      try simp only [nc2] at *
                      try simp (maxSteps := 4000000) only [hp2,hp3,Gx,Uw,Uz,Uy,Ux,szV,U9]
                      repeat' (first | with_reducible assumption | with_reducible refine And.intro ?_ ?_ | intro _ | omega | (rw [U0]; omega))
                      refine ⟨(k + 1, x.label, w2), by ((try simp only [U2, Ka, U6, Kg, upd, Kh, Ko, Gd, Nat.reduceDiv, Nat.reduceMod, Nat.reduceMul, Nat.reduceAdd, Nat.reduceEqDiff, List.set_cons_zero, List.set_cons_succ, if_true, if_false, reduceIte]); (first | refine Wk.of_fl ?_ | skip); simp only [Wk, wkK, Gl, wkT, wk1, AV.kept, keptAll, wkO, lk, U5, and_true, true_and, and_self, Nat.reduceEqDiff, Nat.reduceLeDiff, if_true, if_false, reduceIte, reduceCtorEq, Option.isSome, false_implies]; try simp [Wk, wkK, wkT, wk1, AV.kept, keptAll, wkO, lk, U5]), by simp only; omega, by simp only; omega, ?_, by simp only; omega⟩
                      simp only
                      rw [show arV p - (k + 1) = m by omega]
                      exact hR))
          | false =>
            cases hlb : (x.label == []) with
            | false =>
              have hb : Ab p x last = true := by simp only [Ab, h4, hlb, cond_true, cond_false, Bool.not_true, Bool.not_false, Bool.or_false, Bool.or_true, Bool.true_or, Bool.false_or]
              rw [hb, cond_true] at hR
              injection hR with hr1 hr2
              subst hr1
              subst hr2
              (sym =>
               simp [hltb,hleb2,hel2,h4,hlb,hm0,hm1,Uw,Uz,Uy,Ux,szV,Gt,Hu,Zb,Zc,Ze,Zf,Zg,Zo,Zp,Zq,Zs,Zu,Zv,Zw,Zx,Zy,Z6,Qb,Qd,Qk,Ql,Qm,Qo,Qq,Qs,Qv,Qw,Qx,Q1,Q2,Q4,Jh,Ji,Jk,Jp,Jy,Jz,J0,J5,J6,J8,J9,Xa,Xb,Xc,Xf,Xl,Xm,Xp,Xr,Xs,X3,X4,X6,X7,X8,Wb,Wc,Wf,Wh,Wi,Wj,Wm,Wt,Wu,Wv,Ww,W3,W4,W5,W6,W7,W8,W9,Ya,Yb,Yd,Ye,Yg,Yh,Yi,Yk,Yl,Ym,Yq,Y7,Y8,Y9,Va,Vc,Ve,Vf,Vg,Vq,Vr,Vt,V4,V5,V6,V8,Uk,Ul,Um,Un,Uo,Up,Uq,U8,Ku,Kq,Kc,Kb,Hi]
               tactic =>
                try simp only [U1] at *
                try simp only [nc2] at *
                try simp (maxSteps := 4000000) only [hltb,hleb2,hel2,h4,hlb,hm0,hm1,Uw,Uz,Uy,Ux,szV,U9]
                repeat' (first | with_reducible assumption | with_reducible refine And.intro ?_ ?_ | intro _ | omega | (rw [U0]; omega))
                refine ⟨[90000, 90001, 90002], by simp, rfl, M3, ?_⟩
                simp [K2,lk,rnO,rnA,rnAs,rk])
            | true =>
              cases h7 : (p.kind == 7) with
              | false =>
                have hb : Ab p x last = false := by simp only [Ab, h4, hlb, h7, cond_true, cond_false, Bool.not_true, Bool.not_false, Bool.or_false, Bool.or_true, Bool.true_or, Bool.false_or]
                have hmo : Lt p = 1 := by simp only [Lt, h7, cond_true, cond_false]
                have hla : lastV p x last = last := by simp only [lastV, h4, cond_true, cond_false]
                rw [hb, cond_false, hmo, hla] at hR
                have hmj := Ay (v := v) (f := f) (i := j) (d := d + 1)
                obtain ⟨w, hw⟩ : ∃ w, Bf v f j (d + 1) = w := ⟨_, rfl⟩
                rw [hw] at hR hmj
                obtain ⟨w1, w2⟩ := w
                simp only at hR hmj
                have hp2 : (Hq n).post ⟨v, j, f, d + 1⟩ = M1 v w2 := by rw [treeV_post, hw]
                have hp3 : (Hq n).res ⟨v, j, f, d + 1⟩ = .bool w1 := by rw [treeV_res, hw]
                (sym =>
                 simp [hltb,hleb2,hel2,h4,h7,hlb,hm0,hm1,Uw,Uz,Uy,Ux,szV,Gt,Ll,Bq,Zb,Zc,Ze,Zf,Zg,Zo,Zp,Zq,Zs,Zu,Zv,Zw,Zx,Zy,Z6,Qb,Qd,Qk,Ql,Qm,Qq,Qs,Q1,Q2,Q4,Jf,Jh,Ji,Jl,Jy,Jz,J0,J5,J6,J8,J9,Xa,Xb,Xc,Xp,Xr,Xs,X3,X4,X6,X7,X8,Wc,Wf,Wh,Wi,Wj,Wm,Wt,Wu,Wv,Ww,W3,W4,W5,W6,W7,W8,W9,Ya,Yb,Yd,Ye,Yg,Yh,Yi,Yk,Yl,Ym,Yq,Y7,Y8,Y9,Va,Vb,Vc,Ve,Vf,Vg,Vp,Vr,Vt,V4,V6,V8,Uk,Ul,Um,Un,Uo,Up,Uq,U8,Ku,Kq,Kc,Kb,Hi]
                 tactic =>
                  try simp only [U1] at *
                  try simp only [nc2] at *
                  try simp (maxSteps := 4000000) only [hltb,hleb2,hel2,h4,h7,hlb,hm0,hm1,Uw,Uz,Uy,Ux,szV,U9]
                  repeat' (first | with_reducible assumption | with_reducible refine And.intro ?_ ?_ | intro _ | omega | (rw [U0]; omega))
                  refine Cl (bc := Hq n) ⟨v, j, f, d + 1⟩ [90000, 90001, 90002] ⟨hv, hG, by simp only; omega, by simp only; omega, by simp only; omega⟩ rfl (by simp) (by rw [hp2]; rfl) ?_ ?_ ?_
                  · show K2 _ _ (M1 v j) _
                    rw [Gx]
                    simp [K2,lk,rnO,rnA,rnAs,rk]
                  · show Mm (List.drop (M1 v j).length _) _
                    rw [Gx]
                    simp [Mm,lk]
                  cases w1 with
                  | false =>
                    rw [cond_false] at hR
                    injection hR with hr1 hr2
                    subst hr1
                    subst hr2
                    (sym =>
                     simp [hp2,hp3,Gx,Uw,Uz,Uy,Ux,szV,Gt,Hu,Zb,Zc,Ze,Zf,Zg,Qc,Qd,Qo,Qq,Qs,Qt,Qu,Qv,Qw,Qx,Q1,Q2,Q4,Ji,Jk,Jn,Jo,Jp,Jq,J5,J6,J7,J8,J9,Xa,Xb,Xc,Xf,Xl,Xm,X4,X6,X7,Wb,Wc,Wf,Wh,Wi,Wt,Wu,Wv,Ww,W6,W7,Ya,Yb,Yf,Yj,Y7,Y8,Y9,Va,Vq,Vt,V5,Uk,Um,Un,U8,Ku,Kq,Kc,Kb,Hi]
                     tactic =>
                      try simp only [U1] at *
                      try simp only [nc2] at *
                      try simp (maxSteps := 4000000) only [hp2,hp3,Gx,Uw,Uz,Uy,Ux,szV,U9]
                      repeat' (first | with_reducible assumption | with_reducible refine And.intro ?_ ?_ | intro _ | omega | (rw [U0]; omega))
                      refine ⟨[90000, 90001, 90002], by simp, rfl, M3, ?_⟩
                      simp [K2,lk,rnO,rnA,rnAs,rk])
                  | true =>
                    rw [cond_true] at hR
                    (sym =>
                     simp [hp2,hp3,Gx,Uw,Uz,Uy,Ux,szV,Gt,Bq,Zb,Zc,Ze,Zf,Zg,Qb,Qc,Qd,Qq,Qs,Qt,Qu,Q1,Q2,Q4,Ji,Jn,Jo,Jq,J5,J6,J7,J8,J9,Xa,Xb,Xc,X3,X4,X7,Wc,Wf,Wh,Wi,Wt,Wu,Wv,Ww,Ya,Yb,Ye,Yf,Yi,Yj,Y7,Y8,Y9,Va,Vp,Vt,V4,Ul,Um,U8,Ku,Kq,Kc,Kb,Hi]
                     tactic =>
                      try simp only [U1] at *
                      try simp only [nc2] at *
                      try simp (maxSteps := 4000000) only [hp2,hp3,Gx,Uw,Uz,Uy,Ux,szV,U9]
                      repeat' (first | with_reducible assumption | with_reducible refine And.intro ?_ ?_ | intro _ | omega | (rw [U0]; omega))
                      refine ⟨(k + 1, last, w2), by ((try simp only [U2, Ka, U6, Kg, upd, Kh, Ko, Gd, Nat.reduceDiv, Nat.reduceMod, Nat.reduceMul, Nat.reduceAdd, Nat.reduceEqDiff, List.set_cons_zero, List.set_cons_succ, if_true, if_false, reduceIte]); (first | refine Wk.of_fl ?_ | skip); simp only [Wk, wkK, Gl, wkT, wk1, AV.kept, keptAll, wkO, lk, U5, and_true, true_and, and_self, Nat.reduceEqDiff, Nat.reduceLeDiff, if_true, if_false, reduceIte, reduceCtorEq, Option.isSome, false_implies]; try simp [Wk, wkK, wkT, wk1, AV.kept, keptAll, wkO, lk, U5]), by simp only; omega, by simp only; omega, ?_, by simp only; omega⟩
                      simp only
                      rw [show arV p - (k + 1) = m by omega]
                      exact hR))
              | true =>
                cases k6 : (x.kind == 6) with
                | true =>
                  have n6 : (x.kind != 6) = false := by rw [bne, k6]; rfl
                  have hb : Ab p x last = false := by simp only [Ab, h4, hlb, h7, k6, cond_true, cond_false, Bool.not_true, Bool.not_false, Bool.or_false, Bool.or_true, Bool.true_or, Bool.false_or]
                  have hmo : Lt p = 0 := by simp only [Lt, h7, cond_true, cond_false]
                  have hla : lastV p x last = last := by simp only [lastV, h4, cond_true, cond_false]
                  rw [hb, cond_false, hmo, hla] at hR
                  have hmj := Ay (v := v) (f := f) (i := j) (d := d + 0)
                  obtain ⟨w, hw⟩ : ∃ w, Bf v f j (d + 0) = w := ⟨_, rfl⟩
                  rw [hw] at hR hmj
                  obtain ⟨w1, w2⟩ := w
                  simp only at hR hmj
                  have hp2 : (Hq n).post ⟨v, j, f, d + 0⟩ = M1 v w2 := by rw [treeV_post, hw]
                  have hp3 : (Hq n).res ⟨v, j, f, d + 0⟩ = .bool w1 := by rw [treeV_res, hw]
                  (sym =>
                   simp [hltb,hleb2,hel2,h4,h7,hlb,n6,hm0,hm1,Uw,Uz,Uy,Ux,szV,Gt,Ll,Bq,Zb,Zc,Zd,Ze,Zf,Zg,Zo,Zp,Zq,Zs,Zt,Zu,Zv,Zw,Zx,Zy,Z6,Qb,Qd,Qk,Ql,Qm,Qq,Qs,Q1,Q2,Q4,Jf,Jh,Ji,Jl,Jy,Jz,J0,J5,J6,J8,J9,Xa,Xb,Xc,Xp,Xr,Xs,X3,X4,X6,X7,X8,Wc,Wf,Wh,Wi,Wj,Wm,Wt,Wu,Wv,Ww,W3,W4,W5,W6,W7,W8,W9,Ya,Yb,Yd,Ye,Yg,Yh,Yi,Yk,Yl,Ym,Yq,Y7,Y8,Y9,Va,Vb,Vc,Ve,Vf,Vg,Vp,Vr,Vt,V4,V5,V6,V8,Uk,Ul,Um,Un,Uo,Up,Uq,U8,Ku,Kq,Kc,Kb,Hi]
                   tactic =>
                    try simp only [U1] at *
                    try simp only [nc2] at *
                    try simp (maxSteps := 4000000) only [hltb,hleb2,hel2,h4,h7,hlb,n6,hm0,hm1,Uw,Uz,Uy,Ux,szV,U9]
                    repeat' (first | with_reducible assumption | with_reducible refine And.intro ?_ ?_ | intro _ | omega | (rw [U0]; omega))
                    refine Cl (bc := Hq n) ⟨v, j, f, d + 0⟩ [90000, 90001, 90002] ⟨hv, hG, by simp only; omega, by simp only; omega, by simp only; omega⟩ rfl (by simp) (by rw [hp2]; rfl) ?_ ?_ ?_
                    · show K2 _ _ (M1 v j) _
                      rw [Gx]
                      simp [K2,lk,rnO,rnA,rnAs,rk]
                    · show Mm (List.drop (M1 v j).length _) _
                      rw [Gx]
                      simp [Mm,lk]
                    cases w1 with
                    | false =>
                      rw [cond_false] at hR
                      injection hR with hr1 hr2
                      subst hr1
                      subst hr2
                      (sym =>
                       simp [hp2,hp3,Gx,Uw,Uz,Uy,Ux,szV,Gt,Hu,Zb,Zc,Ze,Zf,Zg,Qc,Qd,Qo,Qq,Qs,Qt,Qu,Qv,Qw,Qx,Q1,Q2,Q4,Ji,Jk,Jn,Jo,Jp,Jq,J5,J6,J7,J8,J9,Xa,Xb,Xc,Xf,Xl,Xm,X4,X6,X7,Wb,Wc,Wf,Wh,Wi,Wt,Wu,Wv,Ww,W6,W7,Ya,Yb,Yf,Yj,Y7,Y8,Y9,Va,Vq,Vt,V5,Uk,Um,Un,U8,Ku,Kq,Kc,Kb,Hi]
                       tactic =>
                        try simp only [U1] at *
                        try simp only [nc2] at *
                        try simp (maxSteps := 4000000) only [hp2,hp3,Gx,Uw,Uz,Uy,Ux,szV,U9]
                        repeat' (first | with_reducible assumption | with_reducible refine And.intro ?_ ?_ | intro _ | omega | (rw [U0]; omega))
                        refine ⟨[90000, 90001, 90002], by simp, rfl, M3, ?_⟩
                        simp [K2,lk,rnO,rnA,rnAs,rk])
                    | true =>
                      rw [cond_true] at hR
                      (sym =>
                       simp [hp2,hp3,Gx,Uw,Uz,Uy,Ux,szV,Gt,Bq,Zb,Zc,Ze,Zf,Zg,Qb,Qc,Qd,Qq,Qs,Qt,Qu,Q1,Q2,Q4,Ji,Jn,Jo,Jq,J5,J6,J7,J8,J9,Xa,Xb,Xc,X3,X4,X7,Wc,Wf,Wh,Wi,Wt,Wu,Wv,Ww,Ya,Yb,Ye,Yf,Yi,Yj,Y7,Y8,Y9,Va,Vp,Vt,V4,Ul,Um,U8,Ku,Kq,Kc,Kb,Hi]
                       tactic =>
                        try simp only [U1] at *
                        try simp only [nc2] at *
                        try simp (maxSteps := 4000000) only [hp2,hp3,Gx,Uw,Uz,Uy,Ux,szV,U9]
                        repeat' (first | with_reducible assumption | with_reducible refine And.intro ?_ ?_ | intro _ | omega | (rw [U0]; omega))
                        refine ⟨(k + 1, last, w2), by ((try simp only [U2, Ka, U6, Kg, upd, Kh, Ko, Gd, Nat.reduceDiv, Nat.reduceMod, Nat.reduceMul, Nat.reduceAdd, Nat.reduceEqDiff, List.set_cons_zero, List.set_cons_succ, if_true, if_false, reduceIte]); (first | refine Wk.of_fl ?_ | skip); simp only [Wk, wkK, Gl, wkT, wk1, AV.kept, keptAll, wkO, lk, U5, and_true, true_and, and_self, Nat.reduceEqDiff, Nat.reduceLeDiff, if_true, if_false, reduceIte, reduceCtorEq, Option.isSome, false_implies]; try simp [Wk, wkK, wkT, wk1, AV.kept, keptAll, wkO, lk, U5]), by simp only; omega, by simp only; omega, ?_, by simp only; omega⟩
                        simp only
                        rw [show arV p - (k + 1) = m by omega]
                        exact hR))
                | false =>
                  have n6 : (x.kind != 6) = true := by rw [bne, k6]; rfl
                  cases k7 : (x.kind == 7) with
                  | true =>
                    have n7 : (x.kind != 7) = false := by rw [bne, k7]; rfl
                    have hb : Ab p x last = false := by simp only [Ab, h4, hlb, h7, k6, k7, cond_true, cond_false, Bool.not_true, Bool.not_false, Bool.or_false, Bool.or_true, Bool.true_or, Bool.false_or]
                    have hmo : Lt p = 0 := by simp only [Lt, h7, cond_true, cond_false]
                    have hla : lastV p x last = last := by simp only [lastV, h4, cond_true, cond_false]
                    rw [hb, cond_false, hmo, hla] at hR
                    have hmj := Ay (v := v) (f := f) (i := j) (d := d + 0)
                    obtain ⟨w, hw⟩ : ∃ w, Bf v f j (d + 0) = w := ⟨_, rfl⟩
                    rw [hw] at hR hmj
                    obtain ⟨w1, w2⟩ := w
                    simp only at hR hmj
                    have hp2 : (Hq n).post ⟨v, j, f, d + 0⟩ = M1 v w2 := by rw [treeV_post, hw]
                    have hp3 : (Hq n).res ⟨v, j, f, d + 0⟩ = .bool w1 := by rw [treeV_res, hw]
                    (sym =>
                     simp [hltb,hleb2,hel2,h4,h7,hlb,n6,n7,hm0,hm1,Uw,Uz,Uy,Ux,szV,Gt,Ll,Bq,Zb,Zc,Zd,Ze,Zf,Zg,Zo,Zp,Zq,Zs,Zt,Zu,Zv,Zw,Zx,Zy,Z6,Qb,Qd,Qk,Ql,Qm,Qq,Qs,Q1,Q2,Q4,Jf,Jh,Ji,Jl,Jy,Jz,J0,J5,J6,J8,J9,Xa,Xb,Xc,Xp,Xr,Xs,X3,X4,X6,X7,X8,Wc,Wf,Wh,Wi,Wj,Wm,Wt,Wu,Wv,Ww,W3,W4,W5,W6,W7,W8,W9,Ya,Yb,Yd,Ye,Yg,Yh,Yi,Yk,Yl,Ym,Yq,Y7,Y8,Y9,Va,Vb,Vc,Ve,Vf,Vg,Vp,Vr,Vt,V4,V5,V6,V8,Uk,Ul,Um,Un,Uo,Up,Uq,U8,Ku,Kq,Kc,Kb,Hi]
                     tactic =>
                      try simp only [U1] at *
                      try simp only [nc2] at *
                      try simp (maxSteps := 4000000) only [hltb,hleb2,hel2,h4,h7,hlb,n6,n7,hm0,hm1,Uw,Uz,Uy,Ux,szV,U9]
                      repeat' (first | with_reducible assumption | with_reducible refine And.intro ?_ ?_ | intro _ | omega | (rw [U0]; omega))
                      refine Cl (bc := Hq n) ⟨v, j, f, d + 0⟩ [90000, 90001, 90002] ⟨hv, hG, by simp only; omega, by simp only; omega, by simp only; omega⟩ rfl (by simp) (by rw [hp2]; rfl) ?_ ?_ ?_
                      · show K2 _ _ (M1 v j) _
                        rw [Gx]
                        simp [K2,lk,rnO,rnA,rnAs,rk]
                      · show Mm (List.drop (M1 v j).length _) _
                        rw [Gx]
                        simp [Mm,lk]
                      cases w1 with
                      | false =>
                        rw [cond_false] at hR
                        injection hR with hr1 hr2
                        subst hr1
                        subst hr2
                        (sym =>
                         simp [hp2,hp3,Gx,Uw,Uz,Uy,Ux,szV,Gt,Hu,Zb,Zc,Ze,Zf,Zg,Qc,Qd,Qo,Qq,Qs,Qt,Qu,Qv,Qw,Qx,Q1,Q2,Q4,Ji,Jk,Jn,Jo,Jp,Jq,J5,J6,J7,J8,J9,Xa,Xb,Xc,Xf,Xl,Xm,X4,X6,X7,Wb,Wc,Wf,Wh,Wi,Wt,Wu,Wv,Ww,W6,W7,Ya,Yb,Yf,Yj,Y7,Y8,Y9,Va,Vq,Vt,V5,Uk,Um,Un,U8,Ku,Kq,Kc,Kb,Hi]
                         tactic =>
                          try simp only [U1] at *
                          try simp only [nc2] at *
                          try simp (maxSteps := 4000000) only [hp2,hp3,Gx,Uw,Uz,Uy,Ux,szV,U9]
                          repeat' (first | with_reducible assumption | with_reducible refine And.intro ?_ ?_ | intro _ | omega | (rw [U0]; omega))
                          refine ⟨[90000, 90001, 90002], by simp, rfl, M3, ?_⟩
                          simp [K2,lk,rnO,rnA,rnAs,rk])
                      | true =>
                        rw [cond_true] at hR
                        (sym =>
                         simp [hp2,hp3,Gx,Uw,Uz,Uy,Ux,szV,Gt,Bq,Zb,Zc,Ze,Zf,Zg,Qb,Qc,Qd,Qq,Qs,Qt,Qu,Q1,Q2,Q4,Ji,Jn,Jo,Jq,J5,J6,J7,J8,J9,Xa,Xb,Xc,X3,X4,X7,Wc,Wf,Wh,Wi,Wt,Wu,Wv,Ww,Ya,Yb,Ye,Yf,Yi,Yj,Y7,Y8,Y9,Va,Vp,Vt,V4,Ul,Um,U8,Ku,Kq,Kc,Kb,Hi]
                         tactic =>
                          try simp only [U1] at *
                          try simp only [nc2] at *
                          try simp (maxSteps := 4000000) only [hp2,hp3,Gx,Uw,Uz,Uy,Ux,szV,U9]
                          repeat' (first | with_reducible assumption | with_reducible refine And.intro ?_ ?_ | intro _ | omega | (rw [U0]; omega))
                          refine ⟨(k + 1, last, w2), by ((try simp only [U2, Ka, U6, Kg, upd, Kh, Ko, Gd, Nat.reduceDiv, Nat.reduceMod, Nat.reduceMul, Nat.reduceAdd, Nat.reduceEqDiff, List.set_cons_zero, List.set_cons_succ, if_true, if_false, reduceIte]); (first | refine Wk.of_fl ?_ | skip); simp only [Wk, wkK, Gl, wkT, wk1, AV.kept, keptAll, wkO, lk, U5, and_true, true_and, and_self, Nat.reduceEqDiff, Nat.reduceLeDiff, if_true, if_false, reduceIte, reduceCtorEq, Option.isSome, false_implies]; try simp [Wk, wkK, wkT, wk1, AV.kept, keptAll, wkO, lk, U5]), by simp only; omega, by simp only; omega, ?_, by simp only; omega⟩
                          simp only
                          rw [show arV p - (k + 1) = m by omega]
                          exact hR))
                  | false =>
                    have n7 : (x.kind != 7) = true := by rw [bne, k7]; rfl
                    have hb : Ab p x last = true := by simp only [Ab, h4, hlb, h7, k6, k7, cond_true, cond_false, Bool.not_true, Bool.not_false, Bool.or_false, Bool.or_true, Bool.true_or, Bool.false_or]
                    rw [hb, cond_true] at hR
                    injection hR with hr1 hr2
                    subst hr1
                    subst hr2
                    (sym =>
                     simp [hltb,hleb2,hel2,h4,h7,hlb,n6,n7,hm0,hm1,Uw,Uz,Uy,Ux,szV,Gt,Hu,Zb,Zc,Zd,Ze,Zf,Zg,Zo,Zp,Zq,Zs,Zt,Zu,Zv,Zw,Zx,Zy,Z6,Qb,Qd,Qk,Ql,Qm,Qo,Qq,Qs,Qv,Qw,Qx,Q1,Q2,Q4,Jh,Ji,Jk,Jp,Jy,Jz,J0,J5,J6,J8,J9,Xa,Xb,Xc,Xf,Xl,Xm,Xp,Xr,Xs,X3,X4,X6,X7,X8,Wb,Wc,Wf,Wh,Wi,Wj,Wm,Wt,Wu,Wv,Ww,W3,W4,W5,W6,W7,W8,W9,Ya,Yb,Yd,Ye,Yg,Yh,Yi,Yk,Yl,Ym,Yq,Y7,Y8,Y9,Va,Vc,Ve,Vf,Vg,Vp,Vr,Vt,V4,V5,V6,V8,Uk,Ul,Um,Un,Uo,Up,Uq,U8,Ku,Kq,Kc,Kb,Hi]
                     tactic =>
                      try simp only [U1] at *
                      try simp only [nc2] at *
                      try simp (maxSteps := 4000000) only [hltb,hleb2,hel2,h4,h7,hlb,n6,n7,hm0,hm1,Uw,Uz,Uy,Ux,szV,U9]
                      repeat' (first | with_reducible assumption | with_reducible refine And.intro ?_ ?_ | intro _ | omega | (rw [U0]; omega))
                      refine ⟨[90000, 90001, 90002], by simp, rfl, M3, ?_⟩
                      simp [K2,lk,rnO,rnA,rnAs,rk])
        · have hz : arV p - k = 0 := by omega
          rw [hz, Ih] at hR
          injection hR with hr1 hr2
          subst hr1
          subst hr2
          (sym =>
           simp [hltb,Uw,Uz,Uy,Ux,szV,Gt,Hu,Zb,Zc,Ze,Zf,Zg,Qb,Qd,Qo,Qq,Qs,Qv,Qw,Qx,Q1,Q2,Q4,Ji,Jk,Jp,Jy,Jz,J0,J5,J6,J8,J9,Xa,Xb,Xc,Xf,Xl,Xm,X4,X6,X7,Wa,Wb,Wc,Wf,Wh,Wi,Wt,Wu,Wv,Ww,W6,W7,Ya,Yb,Yd,Ye,Yi,Y7,Y8,Y9,Va,Vt,V5,Ul,Um,Un,Uo,U8,Ku,Kq,Kc,Kb,Hi]
           tactic =>
            try simp only [U1] at *
            try simp only [nc2] at *
            try simp (maxSteps := 4000000) only [hltb,Uw,Uz,Uy,Ux,szV,U9]
            repeat' (first | with_reducible assumption | with_reducible refine And.intro ?_ ?_ | intro _ | omega | (rw [U0]; omega))
            refine ⟨[90000, 90001, 90002], by simp, rfl, M3, ?_⟩
            simp [K2,lk,rnO,rnA,rnAs,rk]))
theorem goodbn_treeV : ∀ n, GoodB Tryz.prog (49, Hq n)
  | 0 => goodb_void (U7 Tryz.func49 (by kernel_rfl) rfl) bcon_treeV_zero
  | n + 1 => stepb_treeV n (goodbn_treeV n)
end Go.Am.Ty
set_option linter.unusedSimpArgs false
set_option linter.unusedVariables false
set_option maxHeartbeats 2000000
namespace Go.Am.Ty
open Go.Proofs Go.Rose Go.Rose.Rose
open Enc (enc dec)
noncomputable def Sc : BCon := Hq 1000002
theorem goodb_treeVA : GoodB Tryz.prog (49, Sc) := goodbn_treeV _
theorem treeVA_post {v : List VNode} {i f d : Nat} : Sc.post ⟨v, i, f, d⟩ = M1 v (Bf v f i d).2 := rfl
theorem treeVA_res {v : List VNode} {i f d : Nat} : Sc.res ⟨v, i, f, d⟩ = .bool (Bf v f i d).1 := rfl
noncomputable def rightV (v : List VNode) : Bool := ltB 0 (v.length : Int) && (leB (v.length : Int) 10000 && ((v.getD 0 v0).label == [] && ((Bf v v.length 0 1).1 && ((Bf v v.length 0 1).2 : Int) == (v.length : Int))))
noncomputable def Lr : Con := Ss (fun (v : Sl VNode) => v.l.length ≤ 1000000 ∧ ∀ m ∈ v.l, Rg m) (fun v => rightV v.l)
noncomputable def ctx_RightV : Ctx := ⟨tab, lkC [], 60, lkB [(49, Sc)], [], false⟩
theorem Ed : ctx_RightV.τ = tab := rfl
theorem Ee : ctx_RightV.dp = 60 := rfl
theorem ctx_RightV_b : ctx_RightV.Δ = lkB [(49, Sc)] := rfl
set_option maxRecDepth 100000 in
theorem good_RightV : Gj Tryz.prog (23, Lr) := by
  refine ⟨U7 Tryz.func23 (by kernel_rfl) rfl, ?_⟩
  have K : Ky Tryz.prog ctx_RightV := Kd K6 Ki (by simp) (by
    intro p hp
    simp only [List.mem_cons, List.not_mem_nil, or_false] at hp
    rcases hp with rfl
    · exact goodb_treeVA)
  obtain ⟨c, hc⟩ : ∃ c, Tryz.f23.body = some c := ⟨_, rfl⟩
  refine Ke K Tryz.func23 hc [.tmp 2] rfl 31 rfl (fun cvs hpre => ?_)
  change Lr.pre cvs at hpre
  unfold Lr at hpre
  obtain ⟨⟨v⟩, rfl, hv, hG⟩ := Ha hpre
  simp only at hv hG
  obtain ⟨w, hw⟩ : ∃ w, Bf v v.length 0 1 = w := ⟨_, rfl⟩
  obtain ⟨w1, w2⟩ := w
  have hR : rightV v = (ltB 0 (v.length : Int) && (leB (v.length : Int) 10000 && ((v.getD 0 v0).label == [] && (w1 && (w2 : Int) == (v.length : Int))))) := by unfold rightV; rw [hw]
  simp only [Tryz.f23, Option.some.injEq] at hc
  subst hc
  rcases Tc 0 v.length with ⟨h0, h0b⟩ | ⟨h0, h0b⟩
  case inr =>
    rw [h0b, Bool.false_and] at hR
    (sym =>
     simp [h0b,hR,Uw,Uz,Uy,Ux,szV,Ed,Ee,Lr.eq_def,Za,Zb,Zc,Zd,Ze,Zf,Zo,Zp,Zq,Zt,Zu,Zv,Zw,Z6,Qb,Qd,Qi,Qk,Ql,Qn,Qo,Qp,Qq,Qs,Q1,Q2,Q4,Q8,Ja,Jf,Jh,Ji,Jk,Jw,J3,J4,Xf,Xu,X4,X6,Wb,Wc,Wf,Wh,Wi,Wj,Wm,Wt,Wu,Wv,Ww,Wy,W0,W3,W6,W7,W8,W9,Ye,Yi,Yn,Ys,Yy,Y0,Y1,Y2,Y7,Y8,Y9,Va,Vb,Vc,Ve,Vf,Vg,Vj,Vu,V4,V5,Ud,Uf,Ui,Uj,Ul,Un,Up,Uq,U8,Kq,Kc,Kb,Hi])
  rw [h0b, Bool.true_and] at hR
  have hpos : 0 < v.length := by omega
  have hel := Kf v0 hpos
  rcases Es v.length 10000 with ⟨h1, h1b⟩ | ⟨h1, h1b⟩
  case inr =>
    rw [h1b, Bool.false_and] at hR
    (sym =>
     simp [h0b,h1b,hR,Uw,Uz,Uy,Ux,szV,Ed,Ee,Lr.eq_def,Za,Zb,Zc,Zd,Ze,Zf,Zo,Zp,Zq,Zt,Zu,Zv,Zw,Z6,Qb,Qd,Qi,Qk,Ql,Qn,Qo,Qp,Qq,Qs,Q1,Q2,Q4,Q8,Ja,Jf,Jh,Ji,Jk,Jw,J3,J4,Xf,Xu,X4,X6,Wb,Wc,Wf,Wh,Wi,Wj,Wm,Wt,Wu,Wv,Ww,Wy,W0,W3,W6,W7,W8,W9,Ye,Yi,Yn,Ys,Yy,Y0,Y1,Y2,Y7,Y8,Y9,Va,Vb,Vc,Ve,Vf,Vg,Vj,Vu,V4,V5,Ud,Uf,Ui,Uj,Uk,Ul,Un,Up,Uq,U8,Kq,Kc,Kb,Hi])
  rw [h1b, Bool.true_and] at hR
  obtain ⟨p, hp⟩ : ∃ p, v.getD 0 v0 = p := ⟨_, rfl⟩
  rw [hp] at hel hR
  cases hnm : (p.label == []) with
  | false =>
    rw [hnm, Bool.false_and] at hR
    (sym =>
     simp [h0b,h1b,hel,hnm,hR,Uw,Uz,Uy,Ux,szV,Ed,Ee,Lr.eq_def,Za,Zb,Zc,Zd,Ze,Zf,Zo,Zp,Zq,Zs,Zt,Zu,Zv,Zw,Zx,Zy,Z6,Qb,Qd,Qi,Qk,Ql,Qn,Qo,Qp,Qq,Qs,Q1,Q2,Q4,Q8,Ja,Jf,Jh,Ji,Jk,Jw,J3,J4,Xf,Xu,X4,X6,Wb,Wc,Wf,Wh,Wi,Wj,Wm,Wt,Wu,Wv,Ww,Wy,W0,W3,W6,W7,W8,W9,Ye,Yg,Yi,Yk,Ym,Yn,Ys,Yu,Yw,Yy,Y0,Y1,Y2,Y7,Y8,Y9,Va,Vb,Vc,Ve,Vf,Vg,Vj,Vs,Vu,V4,V5,V6,V8,Ud,Uf,Ui,Uj,Uk,Ul,Um,Un,Up,Uq,U8,Kq,Kc,Kb,Hi]
     tactic =>
      try simp only [U1] at *
      try simp only [nc2] at *
      try simp (maxSteps := 4000000) only [h0b,h1b,hel,hnm,hR,Uw,Uz,Uy,Ux,szV,U9]
      repeat' (first | with_reducible assumption | with_reducible refine And.intro ?_ ?_ | intro _ | omega | (rw [U0]; omega)))
  | true =>
    rw [hnm, Bool.true_and] at hR
    have hp2 : Sc.post ⟨v, 0, v.length, 1⟩ = M1 v w2 := by rw [treeVA_post, hw]
    have hp3 : Sc.res ⟨v, 0, v.length, 1⟩ = .bool w1 := by rw [treeVA_res, hw]
    (sym =>
     simp [h0b,h1b,hel,hnm,Uw,Uz,Uy,Ux,szV,Ed,ctx_RightV_b,Lr.eq_def,Za,Zb,Zc,Zd,Ze,Zf,Zo,Zp,Zq,Zs,Zt,Zu,Zv,Zw,Zx,Zy,Z6,Qb,Qd,Qi,Qk,Ql,Qq,Qs,Q1,Q2,Q4,Ja,Jf,Jh,Ji,Jl,Jw,J3,J4,Xu,X4,X6,Wc,Wf,Wh,Wi,Wj,Wm,Wt,Wu,Wv,Ww,Wy,W0,W3,W6,W7,W8,W9,Ye,Yg,Yi,Yk,Ym,Yn,Ys,Yu,Yw,Yy,Y0,Y1,Y2,Y7,Y8,Y9,Va,Vb,Vc,Ve,Vf,Vg,Vj,Vs,Vu,V4,V5,V6,V8,Ud,Uf,Ui,Uj,Uk,Um,Un,Up,Uq,U8,Kq,Kc,Kb,Hi]
     tactic =>
      try simp only [U1] at *
      try simp only [nc2] at *
      try simp (maxSteps := 4000000) only [h0b,h1b,hel,hnm,Uw,Uz,Uy,Ux,szV,U9]
      repeat' (first | with_reducible assumption | with_reducible refine And.intro ?_ ?_ | intro _ | omega | (rw [U0]; omega))
      refine Cl (bc := Sc) ⟨v, 0, v.length, 1⟩ [3, 1, 4] ⟨hv, hG, by simp only; omega, by simp only; omega, by simp only; omega⟩ rfl (by simp) (by rw [hp2]; rfl) ?_ ?_ ?_
      · show K2 _ _ (M1 v 0) _
        rw [Gx]
        simp [K2,lk,rnO,rnA,rnAs,rk]
        rfl
      · show Mm (List.drop (M1 v 0).length _) _
        rw [Gx]
        simp [Mm,lk]
      cases w1 with
      | false =>
        have hRf : rightV v = false := by rw [hR]; rfl
        (sym =>
         simp [hp2,hp3,Gx,hRf,Uw,Uz,Uy,Ux,szV,Ee,Zb,Zc,Zd,Ze,Zf,Zt,Qn,Qo,Qp,Qq,Qs,Qt,Qu,Q1,Q2,Q4,Q8,Ji,Jk,Jn,Jo,Jq,Xf,Wb,Wc,Wf,Wh,Wt,Wu,W8,W9,Y7,Y8,Y9,Va,Vt,V5,Ul,Un,U8,Kq,Kc,Kb,Hi])
      | true =>
        have hRf : rightV v = ((w2 : Int) == (v.length : Int)) := by rw [hR]; rfl
        (sym =>
         simp [hp2,hp3,Gx,hRf,Uw,Uz,Uy,Ux,szV,Ed,Ee,Zb,Zc,Zd,Ze,Zf,Zo,Zp,Zq,Zt,Zv,Z6,Qb,Qd,Qn,Qo,Qp,Qq,Qs,Qt,Qu,Q1,Q2,Q4,Q8,Jh,Ji,Jk,Jn,Jo,Jq,Xf,Wb,Wc,Wf,Wh,Wi,Wj,Wt,Wu,W6,W7,W8,W9,Ye,Yh,Yi,Yl,Y7,Y8,Y9,Va,Vt,V5,Uk,Un,Up,U8,Kq,Kc,Kb,Hi]))
end Go.Am.Ty
set_option linter.unusedSimpArgs false
set_option linter.unusedVariables false
set_option maxHeartbeats 2000000
namespace Go.Am.Ty
open Go.Proofs Go.Rose Go.Rose.Rose
open Enc (enc dec)
theorem sameV1 (x y : VNode) : Lu [x] [y] = S8 x y := by
  rw [Bool.eq_iff_iff, A5]
  unfold Lu
  simp
theorem same3_nil (t : List Node) : Gp [] t = ((t.length : Int) == 0) := by
  unfold Gp
  cases t with
  | nil => rfl
  | cons a b =>
    rw [show ((((a :: b).length : Nat) : Int) == 0) = false by rw [beq_eq_false_iff_ne, List.length_cons]; omega]
    rfl
theorem agree_arrow {t u : List Node} (ht : Mh t = true) (hu : Mh u = true) : agreeT t u = agX false (K1 ar t 0) (K1 ar u 0) := by
  obtain ⟨x, rfl, hx⟩ := Bi (Be.1 ht).1
  obtain ⟨y, rfl, hy⟩ := Bi (Be.1 hu).1
  unfold agreeT
  rw [tree_of_rt hx, tree_of_rt hy, agX_ov (by rw [hx.name, hy.name])]
theorem uses_node (n : VNode) : nodeB n = usesB n := by
  unfold nodeB usesB typV
  simp only [sameV1, S8, same3_nil, A3, beq_self_eq_true, Bool.true_and, Bool.and_true]
  rw [show (([] : List UInt8) == n.name) = (n.name == []) by rw [Bool.beq_comm], show ((0 : Int) == n.many) = (n.many == 0) by rw [Bool.beq_comm], show ((0 : Int) == n.num) = (n.num == 0) by rw [Bool.beq_comm]]
  have hw : (Mh n.t && (Mh n.u && (agreeT n.t n.u && !Gp n.t n.u))) = Aw n := by
    unfold Aw
    cases ht : Mh n.t with
    | false => rfl
    | true =>
      cases hu : Mh n.u with
      | false => rfl
      | true => rw [agree_arrow ht hu]
  rw [hw]
  ac_rfl
def lastQ (n : VNode) (ks : List (Rose VNode)) (last : List UInt8) (q : Nat) : List UInt8 := cond (n.kind == 4) (if q = 0 then last else (Ij ks (q - 1)).label) last
theorem kidR_cons {x : Rose VNode} {xs : List (Rose VNode)} {q : Nat} : Ij (x :: xs) (q + 1) = Ij xs q := by
  unfold Ij slG sls
  simp
theorem kidR_zero {x : Rose VNode} {xs : List (Rose VNode)} : Ij (x :: xs) 0 = x.root := Ok (by simp)
theorem lastQ_succ {n : VNode} {x : Rose VNode} {xs : List (Rose VNode)} {last : List UInt8} {q : Nat} : lastQ n (x :: xs) last (q + 1) = lastQ n xs (lastV n x.root last) q := by
  unfold lastQ lastV
  cases n.kind == 4 with
  | false => rfl
  | true =>
    simp only [cond_true]
    rw [if_neg (by omega)]
    cases q with
    | zero => rw [if_pos rfl, Nat.zero_add, Nat.sub_self, kidR_zero]
    | succ q => rw [if_neg (by omega), Nat.add_sub_cancel, kidR_cons, Nat.add_sub_cancel]
theorem word_less {s : List UInt8} (h : D2 s = true) : Op.bytesLess [] s = true := by
  have hn : s ≠ [] := by intro e; subst e; cases h
  have h1 := less_not s []
  rw [less_nil, Bool.false_or] at h1
  cases hb : Op.bytesLess [] s with
  | true => rfl
  | false => rw [hb] at h1; rw [show (s == []) = false by rw [beq_eq_false_iff_ne]; exact hn] at h1; cases h1
theorem okKids_bad {n : VNode} {ks : List (Rose VNode)} : Eq n ks = true ↔ ∀ q, q < ks.length → Ab n (Ij ks q) (lastQ n ks [] q) = false := by
  unfold Eq
  rw [G7]
  refine forall_congr' fun q => imp_congr_right fun hq => ?_
  unfold kidB wrapK Ab lastQ
  cases h4 : (n.kind == 4) with
  | true =>
    have h7 : (n.kind == 7) = false := by rw [beq_iff_eq] at h4; rw [h4]; rfl
    rw [h7]
    simp only [cond_true, Bool.not_false, Bool.true_or, Bool.and_true]
    cases hw : D2 (Ij ks q).label with
    | false => simp
    | true =>
      rw [less_not]
      by_cases h0 : q = 0
      · rw [if_pos h0, word_less hw]; simp [h0]
      · rw [if_neg h0, show (q == 0) = false by rw [beq_eq_false_iff_ne]; exact h0]
        cases Op.bytesLess (Ij ks (q - 1)).label (Ij ks q).label <;> simp
  | false =>
    simp only [cond_false]
    cases (Ij ks q).label == [] <;> cases n.kind == 7 <;> cases (Ij ks q).kind == 6 <;> cases (Ij ks q).kind == 7 <;> simp
theorem not_leV {v : List VNode} {i : Nat} (h : i < v.length) : leB (v.length : Int) (i : Int) = false := by rw [Dk]; omega
mutual
theorem treeP_ok {v : List VNode} : ∀ {x : Rose VNode} {i f d : Nat}, At arV v i x → (nds x).length ≤ f → okV x d = true → Bf v f i d = (true, i + (nds x).length)
  | mk n ks, i, f, d, h, hd, hl => by
    rw [Ho, List.length_cons] at hd
    cases f with
    | zero => omega
    | succ f =>
      have hlt := h.lt
      have hroot : v.getD i v0 = n := h.root v0
      obtain ⟨hks, hkl⟩ := h.kids
      simp only [kids, root] at hks hkl
      rw [okV] at hl
      simp only [Bool.and_eq_true, decide_eq_true_eq] at hl
      obtain ⟨h1, h2, h3, h4⟩ := hl
      have hnb : nodeB n = true := by rw [uses_node]; exact h2
      have hdb : ltB 100 (d : Int) = false := by rw [Nd]; omega
      rw [Bf, not_leV hlt, cond_false, hdb, cond_false, hroot, hnb, cond_true, ← hkl]
      rw [kidsP_ok hks (by omega) h4 (okKids_bad.1 h3), Ho, List.length_cons]
      congr 1
      omega
theorem kidsP_ok {v : List VNode} : ∀ {ks : List (Rose VNode)} {p : VNode} {last : List UInt8} {j f d : Nat}, Ats arV v j ks → (ndss ks).length ≤ f → okVs ks (d + Lt p) = true → (∀ q, q < ks.length → Ab p (Ij ks q) (lastQ p ks last q) = false) →
    Ih v (Bf v f) p d ks.length last j = (true, j + (ndss ks).length)
  | [], p, last, j, f, d, _, _, _, _ => by rw [List.length_nil, Ih]; simp [ndss]
  | x :: xs, p, last, j, f, d, h, hd, hl, hb => by
    obtain ⟨hx, hxs⟩ := h.head
    have hj := hx.lt
    rw [ndss, List.length_append] at hd
    rw [okVs, Bool.and_eq_true] at hl
    have hb0 : Ab p x.root last = false := by
      have := hb 0 (by simp)
      rw [kidR_zero] at this
      rw [show lastQ p (x :: xs) last 0 = last by unfold lastQ; cases p.kind == 4 <;> rfl] at this
      exact this
    rw [List.length_cons, Ih, not_leV hj, cond_false, hx.root v0, hb0, cond_false, treeP_ok hx (by omega) hl.1]
    simp only [cond_true]
    rw [kidsP_ok hxs (by omega) hl.2 (fun q hq => by
      have := hb (q + 1) (by simp only [List.length_cons]; omega)
      rw [lastQ_succ, kidR_cons] at this
      exact this), ndss, List.length_append]
    congr 1
    omega
end
theorem ats_consV {v : List VNode} {j : Nat} {x : Rose VNode} {xs : List (Rose VNode)} (hx : At arV v j x) (hxs : Ats arV v (j + (nds x).length) xs) : Ats arV v j (x :: xs) := by
  obtain ⟨h1, r, h2⟩ := hx
  obtain ⟨g1, s, g2⟩ := hxs
  refine ⟨⟨h1, g1⟩, s, ?_⟩
  rw [← List.drop_drop, h2, List.drop_left'] at g2
  · rw [h2, g2, ndss, List.append_assoc]
  · rfl
theorem at_of_atsV {v : List VNode} {i : Nat} {ks : List (Rose VNode)} (hi : i < v.length) (hk : ks.length = arV (v.getD i v0)) (h : Ats arV v (i + 1) ks) : At arV v i (mk (v.getD i v0) ks) := by
  obtain ⟨g1, s, g2⟩ := h
  refine ⟨⟨hk, g1⟩, s, ?_⟩
  rw [List.drop_eq_getElem_cons hi, g2, Ho]
  simp [hi]
theorem kidsP_tree {v : List VNode} {p : VNode} {d : Nat} {tr : Nat → Nat → Bool × Nat} (htr : ∀ i j d, tr i d = (true, j) → ∃ x, At arV v i x ∧ j = i + (nds x).length ∧ okV x d = true) : ∀ {m : Nat} {last : List UInt8} {j e : Nat}, Ih v tr p d m last j = (true, e) → j ≤ v.length →
    ∃ ks : List (Rose VNode), ks.length = m ∧ Ats arV v j ks ∧ e = j + (ndss ks).length ∧ okVs ks (d + Lt p) = true ∧ ∀ q, q < ks.length → Ab p (Ij ks q) (lastQ p ks last q) = false
  | 0, last, j, e, h, hj => by
    rw [Ih] at h
    injection h with _ h
    exact ⟨[], rfl, ⟨trivial, v.drop j, by simp [ndss]⟩, by simp [ndss, h], rfl, fun q hq => by simp at hq⟩
  | m + 1, last, j, e, h, hj => by
    rw [Ih] at h
    cases hl : leB (v.length : Int) (j : Int) with
    | true => rw [hl, cond_true] at h; cases h
    | false =>
      rw [hl, cond_false] at h
      cases hb : Ab p (v.getD j v0) last with
      | true => rw [hb, cond_true] at h; cases h
      | false =>
        rw [hb, cond_false] at h
        obtain ⟨w, hw⟩ : ∃ w, tr j (d + Lt p) = w := ⟨_, rfl⟩
        obtain ⟨w1, w2⟩ := w
        rw [hw] at h
        simp only at h
        cases w1 with
        | false => rw [cond_false] at h; cases h
        | true =>
          rw [cond_true] at h
          obtain ⟨x, hx, rfl, hok⟩ := htr j w2 _ hw
          obtain ⟨ks, e1, e2, e3, e4, e5⟩ := kidsP_tree htr h hx.le
          have hro := hx.root v0
          refine ⟨x :: ks, by simp [e1], ats_consV hx e2, ?_, ?_, fun q hq => ?_⟩
          · rw [e3, ndss, List.length_append]; omega
          · rw [okVs, hok, e4]; rfl
          · cases q with
            | zero =>
              rw [hro] at hb
              rw [kidR_zero, show lastQ p (x :: ks) last 0 = last by unfold lastQ; cases p.kind == 4 <;> rfl]
              exact hb
            | succ q =>
              rw [lastQ_succ, kidR_cons, ← hro]
              exact e5 q (by simpa using hq)
theorem treeP_tree {v : List VNode} : ∀ {f i j d : Nat}, Bf v f i d = (true, j) → ∃ x, At arV v i x ∧ j = i + (nds x).length ∧ okV x d = true
  | 0, i, j, d, h => by rw [Bf] at h; cases h
  | f + 1, i, j, d, h => by
    rw [Bf] at h
    cases hl : leB (v.length : Int) (i : Int) with
    | true => rw [hl, cond_true] at h; cases h
    | false =>
      rw [hl, cond_false] at h
      rw [Dk] at hl
      have hi : i < v.length := by omega
      cases hdb : ltB 100 (d : Int) with
      | true => rw [hdb, cond_true] at h; cases h
      | false =>
        rw [hdb, cond_false] at h
        rw [Nd] at hdb
        cases hnb : nodeB (v.getD i v0) with
        | false => rw [hnb, cond_false] at h; cases h
        | true =>
          rw [hnb, cond_true] at h
          obtain ⟨ks, e1, e2, e3, e4, e5⟩ := kidsP_tree (tr := Bf v f) (fun i j d h => treeP_tree h) h (by omega)
          refine ⟨mk (v.getD i v0) ks, at_of_atsV hi e1 e2, ?_, ?_⟩
          · rw [e3, Ho, List.length_cons]; omega
          · rw [okV, ← uses_node, hnb, okKids_bad.2 e5, e4, show decide (d ≤ 100) = true by rw [decide_eq_true_eq]; omega]
            rfl
theorem rightV_same (v : List VNode) : rightV v = Fj v := by
  rw [Bool.eq_iff_iff, right19_iff]
  unfold rightV
  constructor
  · intro h
    simp only [Bool.and_eq_true, beq_iff_eq, Ig, Pv] at h
    obtain ⟨h1, h2, h3, h4, h5⟩ := h
    obtain ⟨x, hx, e, hok⟩ := treeP_tree (v := v) (f := v.length) (i := 0) (j := (Bf v v.length 0 1).2) (d := 1) (by rw [← h4])
    have hro := hx.root v0
    have hv : v = nds x := by
      obtain ⟨_, r, h6⟩ := hx
      rw [List.drop_zero] at h6
      have h7 := congrArg List.length h6
      rw [List.length_append] at h7
      have : r = [] := List.length_eq_zero_iff.1 (by omega)
      rw [h6, this, List.append_nil]
    exact ⟨x, hv, hx.1, by rw [← hv]; omega, by rw [← hro]; exact h3, hok⟩
  · rintro ⟨x, rfl, hx⟩
    have ha : At arV (nds x) 0 x := Ns hx.wf
    have hp := N8 x
    have h2 := hx.len
    rw [treeP_ok ha (Nat.le_refl _) hx.ok, ha.root v0, hx.name]
    simp [leB,ltB]
    omega
end Go.Am.Ty
set_option linter.unusedSimpArgs false
set_option linter.unusedVariables false
set_option maxHeartbeats 2000000
namespace Go.Am.Ty
open Go.Proofs Go.Rose Go.Rose.Rose
open Enc (enc dec)
def L6 {A B C E R : Type} [Enc A] [Enc B] [Enc C] [Enc E] [Enc R] (p : A → B → C → E → Prop) (f : A → B → C → E → R) : Con := ⟨[false, false, false, false], [false], fun c => match c with
  | [.d x, .d y, .d z, .d w] => isE A x ∧ isE B y ∧ isE C z ∧ isE E w ∧ p (dec x) (dec y) (dec z) (dec w)
  | _ => False, fun c => match c with
  | [.d x, .d y, .d z, .d w] => .d (enc (f (dec x) (dec y) (dec z) (dec w)))
  | _ => .d .nilp⟩
def K7 {A B C E R S : Type} [Enc A] [Enc B] [Enc C] [Enc E] [Enc R] [Enc S] (p : A → B → C → E → Prop) (f : A → B → C → E → R × S) : Con := ⟨[false, false, false, false], [false, false], fun c => match c with
  | [.d x, .d y, .d z, .d w] => isE A x ∧ isE B y ∧ isE C z ∧ isE E w ∧ p (dec x) (dec y) (dec z) (dec w)
  | _ => False, fun c => match c with
  | [.d x, .d y, .d z, .d w] => .tup [.d (enc (f (dec x) (dec y) (dec z) (dec w)).1), .d (enc (f (dec x) (dec y) (dec z) (dec w)).2)]
  | _ => .d .nilp⟩
section
variable {A B C E R S : Type} [Enc A] [Enc B] [Enc C] [Enc E] [Enc R] [Enc S]
theorem con4_pre {p : A → B → C → E → Prop} {f : A → B → C → E → R} {c : List CV} (h : (L6 p f).pre c) : ∃ a b d e, c = [.d (enc a), .d (enc b), .d (enc d), .d (enc e)] ∧ p a b d e := by
  unfold L6 at h
  simp only at h
  split at h
  · next x y z w => exact ⟨dec x, dec y, dec z, dec w, by rw [← h.1, ← h.2.1, ← h.2.2.1, ← h.2.2.2.1], h.2.2.2.2⟩
  · exact h.elim
theorem Ar {p : A → B → C → E → Prop} {f : A → B → C → E → R × S} {c : List CV} (h : (K7 p f).pre c) : ∃ a b d e, c = [.d (enc a), .d (enc b), .d (enc d), .d (enc e)] ∧ p a b d e := by
  unfold K7 at h
  simp only at h
  split at h
  · next x y z w => exact ⟨dec x, dec y, dec z, dec w, by rw [← h.1, ← h.2.1, ← h.2.2.1, ← h.2.2.2.1], h.2.2.2.2⟩
  · exact h.elim
end
def Ts : Con := K5 (fun (l : Sl (Sl Node)) => l.l.length ≤ 1000000000 ∧ (Lg l.l).length ≤ 1000000000) (fun l => Lg l.l)
noncomputable def Ds : Ctx := ⟨tab, lkC [(104, Fg)], 60, lkB [], [], false⟩
theorem Cx : Ds.τ = tab := rfl
theorem ctx_concatN_c : Ds.Γ = lkC [(104, Fg)] := rfl
theorem ctx_concatN_d : Ds.dp = 60 := rfl
theorem ctx_concatN_b : Ds.Δ = lkB [] := rfl
theorem ctx_concatN_w : Ds.wr = false := rfl
set_option maxRecDepth 100000 in
theorem good_concatN : Gj Tryz.prog (94, Ts) := by
  refine ⟨U7 Tryz.func94 (by kernel_rfl) rfl, ?_⟩
  have K : Ky Tryz.prog Ds := Kd K6 Ki (by
    intro p hp
    simp only [List.mem_cons, List.not_mem_nil, or_false] at hp
    rcases hp with rfl
    · exact good_growN) (by simp)
  obtain ⟨c, hc⟩ : ∃ c, Tryz.f94.body = some c := ⟨_, rfl⟩
  refine Ke K Tryz.func94 hc [.tmp 2] rfl 36 rfl (fun cvs hpre => ?_)
  change Ts.pre cvs at hpre
  unfold Ts at hpre
  obtain ⟨⟨l⟩, rfl, hl, hf⟩ := con1w_pre hpre
  simp only at hl hf
  clear hpre
  simp only [Tryz.f94, Option.some.injEq] at hc
  subst hc
  refine Kw 2 (of_decide_eq_true (by kernel_rfl)) ?_
  (sym =>
   simp [K5.eq_def,szN,Cx,Ts.eq_def,Zb,Zc,Ze,Zf,Zn,Zo,Z6,Qq,Qs,Q1,Q2,Q4,Jw,J3,J4,J5,J6,J8,Xb,Xn,Xo,X4,X6,X8,X9,Wc,Wf,Wh,Wi,Wj,Wt,Wu,Wv,Ww,Wy,W0,W6,W7,Ya,Yb,Y0,Y1,Y6,Y7,Y8,Vb,Vc,Vd,Ve,Vf,Vg,Vj,Vt,Vu,V4,V7,Um,Up,U8,Kq,U4,Kr,U3]
   tactic =>
    try simp only [U1] at *
    try simp only [nc2] at *
    try simp (maxSteps := 4000000) only [K5.eq_def,szN,U9]
    refine Km [5, 12, 13, 14, 15, 16, 17, 18, 19, 20, 21, 22] (fun k : Nat => [(3, .d (.int .i64 ((Lg (l.take k)).length : Nat))), (11, .d (.int .i64 k))]) (fun k : Nat => []) (fun k : Nat => k ≤ l.length) (fun k : Nat => l.length - k) 0 ?_ ?_ ?_
    · simp
    · ((try simp only [U2, Ka, U6, Kg, upd, Kh, Ko, Gd, Nat.reduceDiv, Nat.reduceMod, Nat.reduceMul, Nat.reduceAdd, Nat.reduceEqDiff, List.set_cons_zero, List.set_cons_succ, if_true, if_false, reduceIte]); (first | refine Wk.of_fl ?_ | skip); simp only [Wk, wkK, Gl, wkT, wk1, AV.kept, keptAll, wkO, lk, U5, and_true, true_and, and_self, Nat.reduceEqDiff, Nat.reduceLeDiff, if_true, if_false, reduceIte, reduceCtorEq, Option.isSome, false_implies]; try simp [Wk, wkK, wkT, wk1, AV.kept, keptAll, wkO, lk, U5, flat_nil])
    rintro k hk
    rcases Ks k l.length with ⟨hlt, hlb⟩ | ⟨hlt, hlb⟩
    · have q1 := Kf (⟨[]⟩ : Sl Node) hlt
      have h1 := flat_take hlt
      have h2 := D4 l (k + 1)
      obtain ⟨⟨x⟩, hx⟩ : ∃ x, l.getD k ⟨[]⟩ = x := ⟨_, rfl⟩
      rw [hx] at q1 h1
      have h3 : (Lg (l.take (k + 1))).length = (Lg (l.take k)).length + x.length := by rw [h1, List.length_append]
      have hnn : ltB ((Lg (l.take k)).length + x.length : Int) 0 = false := by rw [Nd]; omega
      (sym =>
       simp [hlb,q1,hnn,K5.eq_def,szN,Cx,ctx_concatN_w,Zb,Zc,Ze,Zf,Zg,Zo,Zp,Zq,Zv,Zy,Z6,Qb,Qd,Qq,Qs,Q1,Q2,Q4,Jy,Jz,J0,J5,J6,J8,J9,Xb,Xc,X3,X4,X6,X7,X8,Wc,Wf,Wh,Wi,Wj,Wt,Wu,Wv,Ww,Ya,Yb,Yd,Ye,Yi,Ym,Y0,Y1,Y3,Y6,Y7,Y8,Vr,Vt,Vu,V4,Uk,Ul,Um,Un,Uo,Up,U8,Kq,U4,Kr,U3]
       tactic =>
        try simp only [U1] at *
        try simp only [nc2] at *
        try simp (maxSteps := 4000000) only [hlb,q1,hnn,K5.eq_def,szN,U9]
        repeat' (first | with_reducible assumption | with_reducible refine And.intro ?_ ?_ | intro _ | omega | (rw [U0]; omega))
        all_goals first
          | exact ⟨k + 1, by rw [h3]; ((try simp only [U2, Ka, U6, Kg, upd, Kh, Ko, Gd, Nat.reduceDiv, Nat.reduceMod, Nat.reduceMul, Nat.reduceAdd, Nat.reduceEqDiff, List.set_cons_zero, List.set_cons_succ, if_true, if_false, reduceIte]); (first | refine Wk.of_fl ?_ | skip); simp only [Wk, wkK, Gl, wkT, wk1, AV.kept, keptAll, wkO, lk, U5, and_true, true_and, and_self, Nat.reduceEqDiff, Nat.reduceLeDiff, if_true, if_false, reduceIte, reduceCtorEq, Option.isSome, false_implies]; try simp [Wk, wkK, wkT, wk1, AV.kept, keptAll, wkO, lk, U5]), by omega, by omega⟩
          | omega)
    · have hkl : k = l.length := by omega
      subst hkl
      rw [List.take_length]
      (sym =>
       simp [hlb,Fg.eq_def,K5.eq_def,szN,Cx,ctx_concatN_c,ctx_concatN_d,ctx_concatN_b,Fg.eq_def,Zb,Zc,Ze,Zf,Zg,Zn,Zo,Z6,Z9,Qb,Qd,Qe,Qf,Qq,Qs,Q1,Q2,Q4,Q8,Jf,Jh,Ji,Jj,Jl,Jy,Jz,J0,J5,J6,J8,J9,Xb,Xc,Xf,X4,X6,X7,X8,X9,Wa,Wc,Wf,Wh,Wi,Wj,Wt,Wu,Wv,Ww,Wx,Wz,W0,W7,Ya,Yb,Yd,Ye,Yi,Y0,Y1,Y6,Y7,Y8,Vt,Vu,V4,V7,Ul,Um,Un,Uo,Up,U8,Kq,U4,Kr,U3]
       tactic =>
        try simp only [U1] at *
        try simp only [nc2] at *
        try simp (maxSteps := 4000000) only [hlb,Fg.eq_def,K5.eq_def,szN,U9]
        repeat' (first | with_reducible assumption | with_reducible refine And.intro ?_ ?_ | intro _ | omega | (rw [U0]; omega))
        refine Km [8, 28, 29, 30, 31, 32, 33, 34] (fun k : Nat => [(6, .sl 24 ((Lg (l.take k)).map (enc : Node → D)).length), (27, .d (.int .i64 k))]) (fun k : Nat => [(24, .row 3 ((Lg (l.take k)).map enc) 0)]) (fun k : Nat => k ≤ l.length) (fun k : Nat => l.length - k) 0 ?_ ?_ ?_
        · simp
        · ((try simp only [U2, Ka, U6, Kg, upd, Kh, Ko, Gd, Nat.reduceDiv, Nat.reduceMod, Nat.reduceMul, Nat.reduceAdd, Nat.reduceEqDiff, List.set_cons_zero, List.set_cons_succ, if_true, if_false, reduceIte]); (first | refine Wk.of_fl ?_ | skip); simp only [Wk, wkK, Gl, wkT, wk1, AV.kept, keptAll, wkO, lk, U5, and_true, true_and, and_self, Nat.reduceEqDiff, Nat.reduceLeDiff, if_true, if_false, reduceIte, reduceCtorEq, Option.isSome, false_implies]; try simp [Wk, wkK, wkT, wk1, AV.kept, keptAll, wkO, lk, U5, flat_nil])
        rintro k hk
        rcases Ks k l.length with ⟨hlt, hlb⟩ | ⟨hlt, hlb⟩
        · have q1 := Kf (⟨[]⟩ : Sl Node) hlt
          have h1 := flat_take hlt
          have h2 := D4 l (k + 1)
          obtain ⟨⟨x⟩, hx⟩ : ∃ x, l.getD k ⟨[]⟩ = x := ⟨_, rfl⟩
          rw [hx] at q1 h1
          have h3 : (Lg (l.take (k + 1))).length = (Lg (l.take k)).length + x.length := by rw [h1, List.length_append]
          (sym =>
           simp [hlb,q1,K5.eq_def,szN,Cx,ctx_concatN_w,Zb,Zc,Ze,Zf,Zg,Zo,Zp,Zq,Zv,Zy,Z4,Z5,Qb,Qd,Qq,Qs,Q1,Q2,Q4,Jh,Ji,Jy,Jz,J0,J5,J6,J7,J8,J9,Xa,Xb,Xc,X3,X4,X6,X7,X8,Wc,Wf,Wh,Wi,Wj,Wl,Wt,Wu,Wv,Ww,Ya,Yb,Yd,Ye,Yi,Ym,Y0,Y1,Y3,Y6,Y7,Y8,Y9,Va,Vr,Vt,Vu,V4,Uk,Um,Un,Uo,Up,U8,Kq,U4,Kr,U3]
           tactic =>
            try simp only [U1] at *
            try simp only [nc2] at *
            try simp (maxSteps := 4000000) only [hlb,q1,K5.eq_def,szN,U9]
            repeat' (first | with_reducible assumption | with_reducible refine And.intro ?_ ?_ | intro _ | omega | (rw [U0]; omega))
            all_goals first
              | omega
              | skip
            refine ⟨k + 1, ?_, by omega, by omega⟩
            ((try simp only [U2, Ka, U6, Kg, upd, Kh, Ko, Gd, Nat.reduceDiv, Nat.reduceMod, Nat.reduceMul, Nat.reduceAdd, Nat.reduceEqDiff, List.set_cons_zero, List.set_cons_succ, if_true, if_false, reduceIte]); (first | refine Wk.of_fl ?_ | skip); simp only [Wk, wkK, Gl, wkT, wk1, AV.kept, keptAll, wkO, lk, U5, and_true, true_and, and_self, Nat.reduceEqDiff, Nat.reduceLeDiff, if_true, if_false, reduceIte, reduceCtorEq, Option.isSome, false_implies]; try simp [Wk, wkK, wkT, wk1, AV.kept, keptAll, wkO, lk, U5, h1, List.map_append, List.length_append]))
        · have hkl : k = l.length := by omega
          subst hkl
          rw [List.take_length]
          (sym =>
           simp [hlb,K5.eq_def,szN,Cx,Zb,Zc,Ze,Zf,Zg,Qb,Qd,Qn,Qo,Qp,Qq,Qs,Q1,Q2,Q4,Q8,Jh,Ji,Jk,Jy,Jz,J0,J5,J6,J7,J8,J9,Xa,Xb,Xc,X4,X6,X7,Wa,Wb,Wc,Wf,Wh,Wi,Wt,Wu,Wv,Ww,Ya,Yb,Yd,Ye,Yi,Y7,Y8,Y9,Va,Vt,Ul,Um,Un,Up,U8,Kq,U4,Kr,U3])))
theorem flat3 {α : Type} (a b d : List α) : Lg [⟨a⟩, ⟨b⟩, ⟨d⟩] = a ++ (b ++ d) := by simp [Lg]
def Dd : Con := Bg (fun (a b : Sl Node) => a.l.length ≤ 1000000 ∧ b.l.length ≤ 1000000) (fun a b => Sl.mk (Eh a.l b.l))
noncomputable def I5 : Ctx := ⟨tab, lkC [(94, Ts)], 60, lkB [], [], false⟩
theorem ctx_ArrowT_t : I5.τ = tab := rfl
theorem ctx_ArrowT_c : I5.Γ = lkC [(94, Ts)] := rfl
theorem ctx_ArrowT_d : I5.dp = 60 := rfl
theorem ctx_ArrowT_b : I5.Δ = lkB [] := rfl
set_option maxRecDepth 100000 in
theorem good_ArrowT : Gj Tryz.prog (75, Dd) := by
  refine ⟨U7 Tryz.func75 (by kernel_rfl) rfl, ?_⟩
  have K : Ky Tryz.prog I5 := Kd K6 Ki (by
    intro p hp
    simp only [List.mem_cons, List.not_mem_nil, or_false] at hp
    rcases hp with rfl
    · exact good_concatN) (by simp)
  obtain ⟨c, hc⟩ : ∃ c, Tryz.f75.body = some c := ⟨_, rfl⟩
  refine Ke K Tryz.func75 hc [.tmp 4] rfl 11 rfl (fun cvs hpre => ?_)
  change Dd.pre cvs at hpre
  unfold Dd at hpre
  obtain ⟨⟨a⟩, ⟨b⟩, rfl, ha, hb⟩ := Gi hpre
  simp only at ha hb
  have h3 : Lg [(⟨[⟨5, [], 0⟩]⟩ : Sl Node), ⟨a⟩, ⟨b⟩] = Eh a b := by rw [flat3]; rfl
  have hl : (Eh a b).length ≤ 1000000000 := by rw [arrow3_len]; omega
  simp only [Tryz.f75, Option.some.injEq] at hc
  subst hc
  (sym =>
   simp [K5.eq_def,h3,Uu,Us,Uv,Ur,szN,Ut,ctx_ArrowT_t,ctx_ArrowT_c,ctx_ArrowT_d,ctx_ArrowT_b,Dd.eq_def,Ts.eq_def,Za,Zb,Zc,Ze,Zf,Zn,Zo,Zr,Z1,Z2,Z9,Qe,Qf,Qh,Ql,Qn,Qo,Qp,Qq,Qs,Q1,Q2,Q4,Q7,Q8,Ja,Jb,Jc,Jd,Je,Jf,Jg,Jh,Ji,Jj,Jk,Jl,Jw,J3,J4,Xd,Xe,Xf,Xh,Xs,Xv,X4,X6,Wb,Wc,Wf,Wh,Wi,Wj,Wm,Wn,Wt,Wu,Wv,Ww,Wx,Wy,Wz,W0,W3,W4,W5,W6,W7,W8,Yn,Yp,Yq,Y2,Y7,Y8,Y9,Va,Vb,Vc,Vj,Vk,Vu,V3,V4,V7,V9,Ud,Um,Un,Uo,Up,U4,Kr,U3]
   tactic =>
    try simp only [U1] at *
    try simp only [nc2] at *
    try simp (maxSteps := 4000000) only [K5.eq_def,h3,Uu,Us,Uv,Ur,szN,Ut,U9]
    repeat' (first | with_reducible assumption | with_reducible refine And.intro ?_ ?_ | intro _ | omega | (rw [U0]; omega)))
def M5 : Con := con0 (Sl.mk [n0])
noncomputable def ctx_dynV : Ctx := ⟨tab, lkC [], 60, lkB [], [], false⟩
theorem ctx_dynV_t : ctx_dynV.τ = tab := rfl
theorem ctx_dynV_d : ctx_dynV.dp = 60 := rfl
theorem good_dynV : Gj Tryz.prog (57, M5) := by
  refine ⟨U7 Tryz.func57 (by kernel_rfl) rfl, ?_⟩
  have K : Ky Tryz.prog ctx_dynV := Kd K6 Ki (by simp) (by simp)
  obtain ⟨c, hc⟩ : ∃ c, Tryz.f57.body = some c := ⟨_, rfl⟩
  refine Ke K Tryz.func57 hc [.tmp 0] rfl 3 rfl (fun cvs hpre => ?_)
  change M5.pre cvs at hpre
  unfold M5 at hpre
  obtain rfl := con0_pre hpre
  simp only [Tryz.f57, Option.some.injEq] at hc
  subst hc
  (sym =>
   simp [Uu,Us,Uv,Ur,szN,Ut,ctx_dynV_t,ctx_dynV_d,M5.eq_def,Za,Zb,Zc,Ze,Zf,Zn,Zo,Zr,Z1,Z2,Qh,Ql,Qn,Qo,Qp,Qq,Qs,Q1,Q2,Q4,Q7,Q8,Ja,Jb,Jc,Jd,Je,Jg,Jh,Ji,Jk,Jw,J3,J4,Xd,Xe,Xf,Xh,Xs,Xt,X4,X6,Wb,Wc,Wf,Wh,Wi,Wj,Wm,Wn,Wt,Wu,Wv,Ww,Wy,W0,W3,W4,W5,W6,W7,Yq,Y7,Y8,Y9,Va,Vc,V3,V7,V9,Um,Un,U4,U3]
   tactic =>
    try simp only [U1] at *
    try simp only [nc2] at *
    try simp (maxSteps := 4000000) only [Uu,Us,Uv,Ur,szN,Ut,U9]
    repeat' (first | with_reducible assumption | with_reducible refine And.intro ?_ ?_ | intro _ | omega | (rw [U0]; omega)))
def Gr : Con := con0 (Sl.mk (Eh [n0] [n0]))
noncomputable def Ea : Ctx := ⟨tab, lkC [(57, M5), (75, Dd)], 60, lkB [], [], false⟩
theorem ctx_dynamicV_t : Ea.τ = tab := rfl
theorem ctx_dynamicV_c : Ea.Γ = lkC [(57, M5), (75, Dd)] := rfl
theorem ctx_dynamicV_d : Ea.dp = 60 := rfl
theorem ctx_dynamicV_b : Ea.Δ = lkB [] := rfl
theorem good_dynamicV : Gj Tryz.prog (53, Gr) := by
  refine ⟨U7 Tryz.func53 (by kernel_rfl) rfl, ?_⟩
  have K : Ky Tryz.prog Ea := Kd K6 Ki (by
    intro p hp
    simp only [List.mem_cons, List.not_mem_nil, or_false] at hp
    rcases hp with rfl | rfl
    · exact good_dynV
    · exact good_ArrowT) (by simp)
  obtain ⟨c, hc⟩ : ∃ c, Tryz.f53.body = some c := ⟨_, rfl⟩
  refine Ke K Tryz.func53 hc [.tmp 0] rfl 4 rfl (fun cvs hpre => ?_)
  change Gr.pre cvs at hpre
  unfold Gr at hpre
  obtain rfl := con0_pre hpre
  simp only [Tryz.f53, Option.some.injEq] at hc
  subst hc
  (sym =>
   simp [Uu,Us,Uv,Ur,szN,Ut,ctx_dynamicV_t,ctx_dynamicV_c,ctx_dynamicV_d,ctx_dynamicV_b,Dd.eq_def,M5.eq_def,Gr.eq_def,Za,Zb,Zc,Ze,Zf,Zn,Z9,Qe,Qf,Qn,Qo,Qp,Qq,Qs,Q1,Q2,Q4,Q8,Jf,Jj,Jk,Jl,Jw,J3,J4,Xf,Xt,Xv,X4,X6,Wb,Wc,Wf,Wh,Wt,Wu,Wv,Ww,Wx,Wy,Wz,W0,W6,W7,Y7,Y8,Y9,Va,Vc,Vj,Vo,Vu,V7,Un])
def H4 (n : VNode) : Bool := n.kind == 6 || n.kind == 7
def Hf : Con := Ss (fun (v : Sl VNode) => 0 < v.l.length) (fun v => H4 (v.l.getD 0 v0))
noncomputable def ctx_isFunV : Ctx := ⟨tab, lkC [], 60, lkB [], [], false⟩
theorem ctx_isFunV_t : ctx_isFunV.τ = tab := rfl
theorem ctx_isFunV_d : ctx_isFunV.dp = 60 := rfl
theorem good_isFunV : Gj Tryz.prog (26, Hf) := by
  refine ⟨U7 Tryz.func26 (by kernel_rfl) rfl, ?_⟩
  have K : Ky Tryz.prog ctx_isFunV := Kd K6 Ki (by simp) (by simp)
  obtain ⟨c, hc⟩ : ∃ c, Tryz.f26.body = some c := ⟨_, rfl⟩
  refine Ke K Tryz.func26 hc [.tmp 2] rfl 15 rfl (fun cvs hpre => ?_)
  change Hf.pre cvs at hpre
  unfold Hf at hpre
  obtain ⟨⟨v⟩, rfl, hv⟩ := Ha hpre
  simp only at hv
  have hel := Kf v0 hv
  obtain ⟨p, hp⟩ : ∃ p, v.getD 0 v0 = p := ⟨_, rfl⟩
  rw [hp] at hel
  simp only [Tryz.f26, Option.some.injEq] at hc
  subst hc
  (sym =>
   simp [hel,hp,Uw,Uz,Uy,Ux,szV,ctx_isFunV_t,ctx_isFunV_d,Hf.eq_def,Za,Zb,Zc,Zd,Ze,Zf,Zo,Zp,Zq,Zs,Zt,Zv,Zx,Zy,Qb,Qd,Qn,Qo,Qp,Qq,Qs,Q1,Q2,Q4,Q8,Jk,Jw,J3,J4,Xf,Xu,X4,X6,Wb,Wc,Wf,Wh,Wi,Wj,Wt,Wu,Wv,Ww,Wy,W0,W6,W7,W8,W9,Ye,Yi,Ym,Yt,Yw,Yy,Y0,Y1,Y7,Y8,Y9,Va,Vb,Vc,Vj,Vs,Vu,V4,V5,Uk,Ul,Um,Un,Up,U8,Kc,Kb]
   tactic =>
    try simp only [U1] at *
    try simp only [nc2] at *
    try simp (maxSteps := 4000000) only [hel,hp,Uw,Uz,Uy,Ux,szV,U9]
    unfold H4
    repeat' (first | with_reducible assumption | with_reducible refine And.intro ?_ ?_ | intro _ | omega | (rw [U0]; omega))
    all_goals simp_all)
def N9 (n : VNode) (k : Int) : Bool := cond (n.kind == 0) (k == 1) (cond (n.kind == 1) (k == 2) (cond (n.kind == 2) (k == 3) (cond (n.kind == 3) (k == 4) false)))
def Ga : Con := Bg (fun (v : Sl VNode) (_ : Int) => 0 < v.l.length) (fun v k => N9 (v.l.getD 0 v0) k)
noncomputable def ctx_isBaseV : Ctx := ⟨tab, lkC [], 60, lkB [], [], false⟩
theorem ctx_isBaseV_t : ctx_isBaseV.τ = tab := rfl
theorem ctx_isBaseV_d : ctx_isBaseV.dp = 60 := rfl
theorem good_isBaseV : Gj Tryz.prog (28, Ga) := by
  refine ⟨U7 Tryz.func28 (by kernel_rfl) rfl, ?_⟩
  have K : Ky Tryz.prog ctx_isBaseV := Kd K6 Ki (by simp) (by simp)
  obtain ⟨c, hc⟩ : ∃ c, Tryz.f28.body = some c := ⟨_, rfl⟩
  refine Ke K Tryz.func28 hc [.tmp 4] rfl 25 rfl (fun cvs hpre => ?_)
  change Ga.pre cvs at hpre
  unfold Ga at hpre
  obtain ⟨⟨v⟩, k, rfl, hv⟩ := Gi hpre
  simp only at hv
  have hel := Kf v0 hv
  obtain ⟨p, hp⟩ : ∃ p, v.getD 0 v0 = p := ⟨_, rfl⟩
  rw [hp] at hel
  simp only [Tryz.f28, Option.some.injEq] at hc
  subst hc
  (sym =>
   simp [hel,hp,Uw,Uz,Uy,Ux,szV,ctx_isBaseV_t,ctx_isBaseV_d,Ga.eq_def,Za,Zb,Zc,Ze,Zf,Zg,Zo,Zp,Zq,Zs,Zv,Zx,Zy,Qb,Qd,Qn,Qo,Qp,Qq,Qs,Q1,Q2,Q4,Q8,Jk,Jw,J3,J4,Xf,Xv,X3,X4,X6,X7,X8,Wb,Wc,Wf,Wh,Wi,Wj,Wt,Wu,Wv,Ww,Wy,W0,W6,W7,W8,Ye,Yi,Ym,Yt,Yw,Yx,Yy,Y0,Y1,Y7,Y8,Y9,Va,Vb,Vc,Vh,Vj,Vs,Vu,V4,V5,Um,Un,Up,U8,Kc,Kb]
   tactic =>
    try simp only [U1] at *
    try simp only [nc2] at *
    try simp (maxSteps := 4000000) only [hel,hp,Uw,Uz,Uy,Ux,szV,U9]
    unfold N9
    repeat' (first | with_reducible assumption | with_reducible refine And.intro ?_ ?_ | intro _ | omega | (rw [U0]; omega))
    all_goals simp_all)
end Go.Am.Ty
set_option linter.unusedSimpArgs false
set_option linter.unusedVariables false
set_option maxHeartbeats 2000000
namespace Go.Am.Ty
open Go.Proofs Go.Rose Go.Rose.Rose
open Enc (enc dec)
def C9 : Con := K5 (fun (v : Sl VNode) => v.l ≠ [] ∧ v.l.length ≤ 1000000000) (fun v => v.l)
noncomputable def ctx_cloneV : Ctx := ⟨tab, lkC [], 60, lkB [], [], false⟩
theorem ctx_cloneV_t : ctx_cloneV.τ = tab := rfl
set_option maxRecDepth 100000 in
theorem good_cloneV : Gj Tryz.prog (76, C9) := by
  refine ⟨U7 Tryz.func76 (by kernel_rfl) rfl, ?_⟩
  have K : Ky Tryz.prog ctx_cloneV := Kd K6 Ki (by simp) (by simp)
  obtain ⟨c, hc⟩ : ∃ c, Tryz.f76.body = some c := ⟨_, rfl⟩
  refine Ke K Tryz.func76 hc [.tmp 2] rfl 8 rfl (fun cvs hpre => ?_)
  change C9.pre cvs at hpre
  unfold C9 at hpre
  obtain ⟨⟨t⟩, rfl, hn, ht⟩ := con1w_pre hpre
  simp only at hn ht
  simp only [Tryz.f76, Option.some.injEq] at hc
  subst hc
  have hm : t.map (enc : VNode → D) ≠ [] := by simpa using hn
  (sym =>
   simp [K5.eq_def,neL_mk,hm,szV,ctx_cloneV_t,C9.eq_def,Za,Zb,Zc,Ze,Zf,Zn,Zo,Zr,Z1,Z4,Z5,Qb,Qd,Qn,Qo,Qp,Qq,Qs,Q1,Q2,Q4,Q8,Jb,Jc,Jd,Je,Jg,Jh,Ji,Jk,Jw,J3,J4,Xd,X3,X4,X6,X7,Wb,Wc,Wf,Wh,Wi,Wj,Wl,Wn,Wt,Wu,Wv,Ww,Wy,W0,W3,W5,W6,W7,Y0,Y1,Y7,Y8,Y9,Va,Vb,Vc,Vj,Vu,V7,Ul,Um,Un,Up,Kc,Kb]
   tactic =>
    try simp only [U1] at *
    try simp only [nc2] at *
    try simp (maxSteps := 4000000) only [K5.eq_def,neL_mk,hm,szV,U9]
    repeat' (first | with_reducible assumption | with_reducible refine And.intro ?_ ?_ | intro _ | omega | (rw [U0]; omega))
    all_goals simp_all)
def P6 (t : List Node) (k : Nat) : List Node := (t.take k).map Hx ++ t.drop k
theorem bareR_len {t : List Node} {k : Nat} : (P6 t k).length = t.length := by unfold P6; simp; omega
theorem bareR_at {t : List Node} {k : Nat} (h : k < t.length) : (P6 t k).getD k n0 = t.getD k n0 := by
  unfold P6
  rw [List.getD_eq_getElem?_getD, List.getElem?_append_right (by simp; omega), List.length_map, List.length_take, show k - min k t.length = 0 by omega]
  simp [h]
theorem bareR_set {t : List Node} {k : Nat} (h : k < t.length) : (P6 t k).set k (Hx (t.getD k n0)) = P6 t (k + 1) := by
  unfold P6
  rw [List.set_append_right _ _ (by simp; omega), List.length_map, List.length_take, show k - min k t.length = 0 by omega, List.drop_eq_getElem_cons h, List.set_cons_zero, List.take_succ_eq_append_getElem h, List.map_append, List.append_assoc]
  simp [h]
theorem norm_not {n : Node} (h : (n.kind == 0) = false) : Hx n = n := by
  unfold Hx
  rw [if_neg (by simpa using h)]
theorem norm_dyn0 {n : Node} (h : (n.kind == 0) = true) : Hx n = ⟨n.kind, n.name, 0⟩ := by
  unfold Hx
  rw [if_pos (by simpa using h)]
def Fh : Con := Ss (fun (t : Sl Node) => t.l ≠ [] ∧ t.l.length ≤ 1000000) (fun t => Sl.mk (t.l.map Hx))
noncomputable def Ai : Ctx := ⟨tab, lkC [(95, Me)], 60, lkB [], [], false⟩
theorem Ow : Ai.τ = tab := rfl
theorem ctx_bareV_c : Ai.Γ = lkC [(95, Me)] := rfl
theorem ctx_bareV_d : Ai.dp = 60 := rfl
theorem ctx_bareV_b : Ai.Δ = lkB [] := rfl
theorem ctx_bareV_w : Ai.wr = false := rfl
set_option maxRecDepth 100000 in
theorem good_bareV : Gj Tryz.prog (77, Fh) := by
  refine ⟨U7 Tryz.func77 (by kernel_rfl) rfl, ?_⟩
  have K : Ky Tryz.prog Ai := Kd K6 Ki (by
    intro p hp
    simp only [List.mem_cons, List.not_mem_nil, or_false] at hp
    rcases hp with rfl
    · exact good_cloneNodes) (by simp)
  obtain ⟨c, hc⟩ : ∃ c, Tryz.f77.body = some c := ⟨_, rfl⟩
  refine Ke K Tryz.func77 hc [.tmp 2] rfl 24 rfl (fun cvs hpre => ?_)
  change Fh.pre cvs at hpre
  unfold Fh at hpre
  obtain ⟨⟨t⟩, rfl, hn, ht⟩ := Ha hpre
  simp only at hn ht
  simp only [Tryz.f77, Option.some.injEq] at hc
  subst hc
  (sym =>
   simp [K5.eq_def,Uu,Us,Uv,Ur,szN,Ut,Ow,ctx_bareV_c,ctx_bareV_d,ctx_bareV_b,Fh.eq_def,Me.eq_def,Za,Zb,Zc,Ze,Zf,Zn,Zo,Z6,Z9,Qe,Qf,Qq,Qs,Q1,Q2,Q4,Q8,Jf,Jh,Ji,Jj,Jl,Jw,J3,J4,Xf,Xu,X4,X6,X8,X9,Wc,Wf,Wh,Wi,Wj,Wt,Wu,Wv,Ww,Wx,Wy,Wz,W0,W6,W7,Y7,Y8,Y9,Va,Vb,Vc,Vj,Vo,Vu,V4,V7,Um,Un,Uo,Up,U8,U4,U3]
   tactic =>
    try simp only [U1] at *
    try simp only [nc2] at *
    try simp (maxSteps := 4000000) only [K5.eq_def,Uu,Us,Uv,Ur,szN,Ut,U9]
    repeat' (first | with_reducible assumption | with_reducible refine And.intro ?_ ?_ | intro _ | omega | (rw [U0]; omega))
    refine Km [4, 5, 11, 12, 13, 14, 15, 16, 17, 18, 19, 20, 21, 22] (fun k : Nat => [(3, .sl 7 ((P6 t k).map (enc : Node → D)).length), (8, .sl 7 ((P6 t k).map (enc : Node → D)).length), (10, .d (.int .i64 k))]) (fun k : Nat => [(7, .row 3 ((P6 t k).map enc) 0)]) (fun k : Nat => k ≤ t.length) (fun k : Nat => t.length - k) 0 ?_ ?_ ?_
    · omega
    · ((try simp only [U2, Ka, U6, Kg, upd, Kh, Ko, Gd, Nat.reduceDiv, Nat.reduceMod, Nat.reduceMul, Nat.reduceAdd, Nat.reduceEqDiff, List.set_cons_zero, List.set_cons_succ, if_true, if_false, reduceIte]); (first | refine Wk.of_fl ?_ | skip); simp only [Wk, wkK, Gl, wkT, wk1, AV.kept, keptAll, wkO, lk, U5, and_true, true_and, and_self, Nat.reduceEqDiff, Nat.reduceLeDiff, if_true, if_false, reduceIte, reduceCtorEq, Option.isSome, false_implies]; try simp [Wk, wkK, wkT, wk1, AV.kept, keptAll, wkO, lk, U5, P6])
    rintro k hk
    have hlen : (P6 t k).length = t.length := bareR_len
    have hlen2 : (P6 t (k + 1)).length = t.length := bareR_len
    rcases Ks k t.length with ⟨hlt, hlb⟩ | ⟨hlt, hlb⟩
    · have q1 := Kf n0 (show k < (P6 t k).length by omega)
      have hset := bareR_set hlt
      rw [bareR_at hlt] at q1
      obtain ⟨n, hn2⟩ : ∃ n, t.getD k n0 = n := ⟨_, rfl⟩
      rw [hn2] at q1 hset
      cases h0 : (n.kind == 0) with
      | true =>
        rw [norm_dyn0 h0] at hset
        have hset2 : ((P6 t k).map (enc : Node → D)).set k (.agg [.int .i64 n.kind, .str n.name, .int .i64 0]) = (P6 t (k + 1)).map enc := by
          rw [← hset, List.map_set]
          rfl
        (sym =>
         simp [hlb,hlen,q1,h0,hset2,K5.eq_def,Uu,Us,Uv,Ur,szN,Ut,Ow,ctx_bareV_d,ctx_bareV_w,Zb,Zc,Ze,Zf,Zg,Zo,Zp,Zq,Zs,Zu,Zv,Zw,Zx,Zy,Qb,Qd,Qk,Ql,Qm,Qq,Qs,Q1,Q2,Q4,Jh,Ji,Jy,Jz,J0,Xf,Xp,Xq,Xs,X3,X4,X6,X7,X8,Wc,Wf,Wh,Wi,Wj,Wm,Wt,Wu,W4,W5,W6,W7,W8,W9,Yd,Ye,Yi,Ym,Yn,Yq,Yt,Y7,Y8,Y9,Va,Vc,Ve,Vf,Vg,Vr,Vt,V4,Uk,Um,Un,Uo,Up,Uq,U8,U4,U3]
         tactic =>
          try simp only [U1] at *
          try simp only [nc2] at *
          try simp (maxSteps := 4000000) only [hlb,hlen,q1,h0,hset2,K5.eq_def,Uu,Us,Uv,Ur,szN,Ut,U9]
          repeat' (first | with_reducible assumption | with_reducible refine And.intro ?_ ?_ | intro _ | omega | (rw [U0]; omega))
          all_goals first
            | omega
            | exact ⟨k + 1, by ((try simp only [U2, Ka, U6, Kg, upd, Kh, Ko, Gd, Nat.reduceDiv, Nat.reduceMod, Nat.reduceMul, Nat.reduceAdd, Nat.reduceEqDiff, List.set_cons_zero, List.set_cons_succ, if_true, if_false, reduceIte]); (first | refine Wk.of_fl ?_ | skip); simp only [Wk, wkK, Gl, wkT, wk1, AV.kept, keptAll, wkO, lk, U5, and_true, true_and, and_self, Nat.reduceEqDiff, Nat.reduceLeDiff, if_true, if_false, reduceIte, reduceCtorEq, Option.isSome, false_implies]; try simp [Wk, wkK, wkT, wk1, AV.kept, keptAll, wkO, lk, U5, hlen, hlen2]), by omega, by omega⟩)
      | false =>
        have hset2 : P6 t (k + 1) = P6 t k := by
          rw [← hset, norm_not h0]
          have : (P6 t k).getD k n0 = n := by rw [bareR_at hlt, hn2]
          rw [← this]
          refine List.ext_getElem (by simp) fun j h1 h2 => ?_
          rw [List.getElem_set]
          split
          · next e => subst e; simp [h2]
          · rfl
        (sym =>
         simp [hlb,hlen,q1,h0,K5.eq_def,Uu,Us,Uv,Ur,szN,Ut,Ow,ctx_bareV_w,Zb,Zc,Ze,Zf,Zg,Zo,Zp,Zq,Zs,Zu,Zv,Zw,Zx,Zy,Qb,Qd,Qk,Ql,Qm,Qq,Qs,Q1,Q2,Q4,Jh,Ji,Jy,Jz,J0,Xp,Xs,X3,X4,X6,X7,X8,Wc,Wf,Wh,Wi,Wj,Wm,Wt,Wu,W4,W5,W6,W7,W8,Yd,Ye,Yi,Ym,Yq,Y7,Y8,Y9,Va,Vc,Ve,Vf,Vg,Vr,Vt,V4,Uk,Ul,Um,Un,Uo,Up,Uq,U8,U4,U3]
         tactic =>
          try simp only [U1] at *
          try simp only [nc2] at *
          try simp (maxSteps := 4000000) only [hlb,hlen,q1,h0,K5.eq_def,Uu,Us,Uv,Ur,szN,Ut,U9]
          repeat' (first | with_reducible assumption | with_reducible refine And.intro ?_ ?_ | intro _ | omega | (rw [U0]; omega))
          all_goals first
            | omega
            | exact ⟨k + 1, by rw [hset2]; ((try simp only [U2, Ka, U6, Kg, upd, Kh, Ko, Gd, Nat.reduceDiv, Nat.reduceMod, Nat.reduceMul, Nat.reduceAdd, Nat.reduceEqDiff, List.set_cons_zero, List.set_cons_succ, if_true, if_false, reduceIte]); (first | refine Wk.of_fl ?_ | skip); simp only [Wk, wkK, Gl, wkT, wk1, AV.kept, keptAll, wkO, lk, U5, and_true, true_and, and_self, Nat.reduceEqDiff, Nat.reduceLeDiff, if_true, if_false, reduceIte, reduceCtorEq, Option.isSome, false_implies]; try simp [Wk, wkK, wkT, wk1, AV.kept, keptAll, wkO, lk, U5, hlen, hlen2]), by omega, by omega⟩)
    · have hkl : k = t.length := by omega
      subst hkl
      have hend : P6 t t.length = t.map Hx := by unfold P6; simp
      rw [hend] at *
      (sym =>
       simp [hlb,hlen,K5.eq_def,Uu,Us,Uv,Ur,szN,Ut,Ow,ctx_bareV_d,Zb,Zc,Ze,Zf,Zg,Qb,Qd,Qn,Qo,Qp,Qq,Qs,Q1,Q2,Q4,Q8,Jh,Ji,Jk,Jy,Jz,J0,Xh,X4,X6,X7,Wa,Wb,Wc,Wf,Wh,Wi,Wt,Wu,Yd,Ye,Yi,Y7,Y8,Y9,Va,Vt,Ul,Um,Un,Up,U8,U4,U3]
       tactic =>
        try simp only [U1] at *
        try simp only [nc2] at *
        try simp (maxSteps := 4000000) only [hlb,hlen,K5.eq_def,Uu,Us,Uv,Ur,szN,Ut,U9]
        all_goals rfl))
theorem flat1 {α : Type} (a : List α) : Lg [⟨a⟩] = a := by simp [Lg]
theorem flat2 {α : Type} (a b : List α) : Lg [⟨a⟩, ⟨b⟩] = a ++ b := by simp [Lg]
def Gs : Con := Bg (fun (_ : VNode) (l : Sl (Sl VNode)) => l.l.length ≤ 1000000 ∧ (Lg l.l).length ≤ 1000000) (fun n l => Sl.mk (n :: Lg l.l))
noncomputable def Dn : Ctx := ⟨tab, lkC [(60, Tq)], 60, lkB [], [], false⟩
theorem ctx_joinedV_t : Dn.τ = tab := rfl
theorem ctx_joinedV_c : Dn.Γ = lkC [(60, Tq)] := rfl
theorem ctx_joinedV_d : Dn.dp = 60 := rfl
theorem ctx_joinedV_b : Dn.Δ = lkB [] := rfl
theorem ctx_joinedV_w : Dn.wr = false := rfl
set_option maxRecDepth 100000 in
theorem good_joinedV : Gj Tryz.prog (31, Gs) := by
  refine ⟨U7 Tryz.func31 (by kernel_rfl) rfl, ?_⟩
  have K : Ky Tryz.prog Dn := Kd K6 Ki (by
    intro p hp
    simp only [List.mem_cons, List.not_mem_nil, or_false] at hp
    rcases hp with rfl
    · exact good_concatV) (by simp)
  obtain ⟨c, hc⟩ : ∃ c, Tryz.f31.body = some c := ⟨_, rfl⟩
  refine Ke K Tryz.func31 hc [.tmp 4] rfl 11 rfl (fun cvs hpre => ?_)
  change Gs.pre cvs at hpre
  unfold Gs at hpre
  obtain ⟨n, ⟨l⟩, rfl, h1, h2⟩ := Gi hpre
  simp only at h1 h2
  have h3 : Lg [(⟨[n]⟩ : Sl VNode), ⟨Lg l⟩] = n :: Lg l := by rw [flat2]; rfl
  simp only [Tryz.f31, Option.some.injEq] at hc
  subst hc
  (sym =>
   simp [K5.eq_def,h3,Uw,Uz,Uy,Ux,szV,ctx_joinedV_t,ctx_joinedV_c,ctx_joinedV_d,ctx_joinedV_b,ctx_joinedV_w,Tq.eq_def,Gs.eq_def,Za,Zb,Zc,Ze,Zf,Zh,Zi,Zj,Zk,Zl,Zm,Zn,Zo,Zp,Zq,Zr,Zu,Zv,Z1,Z9,Qe,Qf,Qh,Ql,Qn,Qo,Qp,Qq,Qr,Qs,Q1,Q2,Q4,Q5,Q6,Q8,Ja,Jb,Jc,Jd,Je,Jf,Jg,Jh,Ji,Jj,Jk,Jl,Jw,J3,J4,Xd,Xe,Xf,Xh,Xs,Xv,X4,X5,X6,Wb,Wc,Wd,We,Wf,Wg,Wh,Wi,Wj,Wn,Wp,Wq,Wr,Ws,Wt,Wu,Wv,Ww,Wx,Wy,Wz,W0,W3,W4,W5,W6,W7,Yp,Yq,Y7,Y8,Y9,Va,Vb,Vc,Vd,Ve,Vg,Vj,Vk,Vl,Vo,Vu,V3,V7,V9,Ul,Um,Un,Uo,Up,Uq,Kc,Kb,Gg]
   tactic =>
    try simp only [U1] at *
    try simp only [nc2] at *
    try simp (maxSteps := 4000000) only [K5.eq_def,h3,Uw,Uz,Uy,Ux,szV,U9]
    repeat' (first | with_reducible assumption | with_reducible refine And.intro ?_ ?_ | intro _ | omega | (rw [U0]; omega))
    all_goals first
      | (with_reducible refine Kl ?_; kernel_rfl)
      | omega
      | skip)
end Go.Am.Ty
set_option linter.unusedSimpArgs false
set_option linter.unusedVariables false
set_option maxHeartbeats 2000000
namespace Go.Am.Ty
open Go.Proofs Go.Rose Go.Rose.Rose
open Enc (enc dec)
def relab (n : VNode) : VNode := ⟨n.kind, [], n.name, n.num, n.many, n.t, n.u⟩
def relabL : List VNode → List VNode
  | [] => []
  | n :: r => relab n :: r
theorem relabL_len {v : List VNode} : (relabL v).length = v.length := by cases v <;> rfl
theorem relabL_set {v : List VNode} {n : VNode} (h : 0 < v.length) (hn : v.getD 0 v0 = n) : (v.map (enc : VNode → D)).set 0 (.agg [.int .i64 n.kind, .str [], .str n.name, .int .i64 n.num, .int .i64 n.many, .list 3 (n.t.map enc), .list 3 (n.u.map enc)]) = (relabL v).map enc := by
  cases v with
  | nil => simp at h
  | cons a r =>
    simp only [List.getD_cons_zero] at hn
    subst hn
    rfl
def wrapL (v : List VNode) (t u : List Node) (lab : Int) : List VNode := ⟨7, (v.getD 0 v0).label, [], lab, 0, t.map Hx, u.map Hx⟩ :: relabL v
def Oa (t : List Node) : Prop := t ≠ [] ∧ t.length ≤ 1000000
def VaIn (v : List VNode) : Prop := v ≠ [] ∧ v.length ≤ 1000000
theorem dec_VNodeT {a : Int} {b : List UInt8} {d : Int} {f g : List Node} : (dec (.agg [.int .i64 a, .str b, .str [], .int .i64 d, .int .i64 0, enc (Sl.mk f), enc (Sl.mk g)]) : VNode) = ⟨a, b, [], d, 0, f, g⟩ := Enc.dec_enc (VNode.mk a b [] d 0 f g)
theorem isE_VNodeT {a : Int} {b : List UInt8} {d : Int} {f g : List Node} : isE VNode (.agg [.int .i64 a, .str b, .str [], .int .i64 d, .int .i64 0, enc (Sl.mk f), enc (Sl.mk g)]) = True := eq_true (Lf (VNode.mk a b [] d 0 f g))
def Nq : Con := L6 (fun (v : Sl VNode) (t u : Sl Node) (_ : Int) => VaIn v.l ∧ Oa t.l ∧ Oa u.l) (fun v t u l => Sl.mk (wrapL v.l t.l u.l l))
noncomputable def T5 : Ctx := ⟨tab, lkC [(76, C9), (77, Fh), (31, Gs)], 60, lkB [], [], false⟩
theorem ctx_wrappedV_t : T5.τ = tab := rfl
theorem ctx_wrappedV_c : T5.Γ = lkC [(76, C9), (77, Fh), (31, Gs)] := rfl
theorem ctx_wrappedV_d : T5.dp = 60 := rfl
theorem ctx_wrappedV_b : T5.Δ = lkB [] := rfl
theorem ctx_wrappedV_w : T5.wr = false := rfl
set_option maxRecDepth 100000 in
theorem good_wrappedV : Gj Tryz.prog (56, Nq) := by
  refine ⟨U7 Tryz.func56 (by kernel_rfl) rfl, ?_⟩
  have K : Ky Tryz.prog T5 := Kd K6 Ki (by
    intro p hp
    simp only [List.mem_cons, List.not_mem_nil, or_false] at hp
    rcases hp with rfl | rfl | rfl
    · exact good_cloneV
    · exact good_bareV
    · exact good_joinedV) (by simp)
  obtain ⟨c, hc⟩ : ∃ c, Tryz.f56.body = some c := ⟨_, rfl⟩
  refine Ke K Tryz.func56 hc [.tmp 8] rfl 28 rfl (fun cvs hpre => ?_)
  change Nq.pre cvs at hpre
  unfold Nq at hpre
  obtain ⟨⟨v⟩, ⟨t⟩, ⟨u⟩, lab, rfl, hV, hT, hU⟩ := con4_pre hpre
  obtain ⟨v1, v2⟩ : VaIn v := hV
  obtain ⟨t1, t2⟩ : Oa t := hT
  obtain ⟨u1, u2⟩ : Oa u := hU
  have hpos : 0 < v.length := List.length_pos_iff.2 v1
  have hel := Kf v0 hpos
  obtain ⟨n, hn⟩ : ∃ n, v.getD 0 v0 = n := ⟨_, rfl⟩
  rw [hn] at hel
  have hset := relabL_set hpos hn
  have hl := relabL_len (v := v)
  have hf1 : Lg [(⟨relabL v⟩ : Sl VNode)] = relabL v := flat1 _
  have hw : wrapL v t u lab = ⟨7, n.label, [], lab, 0, t.map Hx, u.map Hx⟩ :: relabL v := by unfold wrapL; rw [hn]
  clear hpre
  simp only [Tryz.f56, Option.some.injEq] at hc
  subst hc
  (sym =>
   simp [K5.eq_def,L6.eq_def,hel,hset,hl,hf1,hw,dec_VNodeT,isE_VNodeT,Uw,Uz,Uy,Ux,szV,Uu,Us,Uv,Ur,szN,Ut,ctx_wrappedV_t,ctx_wrappedV_c,ctx_wrappedV_d,ctx_wrappedV_b,ctx_wrappedV_w,Fh.eq_def,C9.eq_def,Gs.eq_def,Nq.eq_def,Za,Zb,Zc,Ze,Zf,Zh,Zi,Zj,Zk,Zl,Zm,Zn,Zo,Zp,Zq,Zr,Zs,Zv,Zw,Zx,Zy,Z1,Z2,Z9,Qe,Qf,Qh,Ql,Qn,Qo,Qp,Qq,Qr,Qs,Q1,Q2,Q4,Q5,Q6,Q7,Q8,Ja,Jb,Jc,Jd,Je,Jf,Jg,Jh,Ji,Jj,Jk,Jl,Jw,J3,J4,Xd,Xe,Xf,Xh,Xq,Xr,Xu,Xv,X4,X5,X6,Wb,Wc,Wd,We,Wf,Wg,Wh,Wi,Wj,Wm,Wn,Wp,Wq,Wr,Ws,Wt,Wu,Wv,Ww,Wx,Wy,Wz,W0,W3,W4,W5,W6,W7,W8,W9,Ye,Ym,Yn,Yo,Yp,Yu,Yw,Yx,Y0,Y1,Y2,Y7,Y8,Y9,Va,Vb,Vc,Vh,Vj,Vk,Vl,Vo,Vs,Vu,V3,V4,V6,V7,V8,V9,Ud,Ue,Ui,Ul,Um,Un,Uo,Up,Uq,Nx,Kq,Kc,U4,U3,Kb,Gg]
   tactic =>
    try simp only [U1] at *
    try simp only [nc2] at *
    try simp (maxSteps := 4000000) only [K5.eq_def,L6.eq_def,hel,hset,hl,hf1,hw,dec_VNodeT,isE_VNodeT,Uw,Uz,Uy,Ux,szV,Uu,Us,Uv,Ur,szN,Ut,U9]
    repeat' (first | with_reducible assumption | with_reducible refine And.intro ?_ ?_ | intro _ | omega | (rw [U0]; omega))
    all_goals first
      | (with_reducible refine Kl ?_; kernel_rfl)
      | omega
      | skip)
def Fx : List Node := Eh [n0] [n0]
def arrOr (t : List Node) : List Node := cond ((t.getD 0 n0).kind == 0) Fx t
def funL (v : List VNode) (t u : List Node) (lab : Int) : Sl VNode × Bool :=
  cond (((arrOr u).getD 0 n0).kind == 5) (cond (Gp (arrOr t) (arrOr u)) (⟨v⟩, true) (⟨wrapL v (arrOr t) (arrOr u) lab⟩, true)) (⟨[]⟩, false)
theorem dynL_d : (Eh [n0] [n0]) = Fx := rfl
def Kx : Con := K7 (fun (v : Sl VNode) (t u : Sl Node) (_ : Int) => VaIn v.l ∧ Oa t.l ∧ Oa u.l) (fun v t u l => funL v.l t.l u.l l)
noncomputable def Cu : Ctx := ⟨tab, lkC [(53, Gr), (25, Kz), (56, Nq)], 60, lkB [], [], false⟩
theorem Mf : Cu.τ = tab := rfl
theorem Mz : Cu.Γ = lkC [(53, Gr), (25, Kz), (56, Nq)] := rfl
theorem Mg : Cu.dp = 60 := rfl
theorem M0 : Cu.Δ = lkB [] := rfl
set_option maxRecDepth 100000 in
theorem good_functionV : Gj Tryz.prog (27, Kx) := by
  refine ⟨U7 Tryz.func27 (by kernel_rfl) rfl, ?_⟩
  have K : Ky Tryz.prog Cu := Kd K6 Ki (by
    intro p hp
    simp only [List.mem_cons, List.not_mem_nil, or_false] at hp
    rcases hp with rfl | rfl | rfl
    · exact good_dynamicV
    · exact Ip
    · exact good_wrappedV) (by simp)
  obtain ⟨c, hc⟩ : ∃ c, Tryz.f27.body = some c := ⟨_, rfl⟩
  refine Ke K Tryz.func27 hc [.tmp 8, .tmp 9] rfl 38 rfl (fun cvs hpre => ?_)
  change Kx.pre cvs at hpre
  unfold Kx at hpre
  obtain ⟨⟨v⟩, ⟨t⟩, ⟨u⟩, lab, rfl, hV, hT, hU⟩ := Ar hpre
  have hV' : VaIn v := hV
  obtain ⟨t1, t2⟩ : Oa t := hT
  obtain ⟨u1, u2⟩ : Oa u := hU
  have hD : Oa Fx := ⟨by decide, by decide⟩
  have hT' : Oa t := ⟨t1, t2⟩
  have hU' : Oa u := ⟨u1, u2⟩
  have tp : 0 < t.length := List.length_pos_iff.2 t1
  have up : 0 < u.length := List.length_pos_iff.2 u1
  have e1 := Kf n0 tp
  have e2 := Kf n0 up
  have e3 := Kf n0 (show 0 < Fx.length by decide)
  have hd5 : ((Fx.getD 0 n0).kind == 5) = true := rfl
  have hd5n : ((Fx.getD 0 n0).kind != 5) = false := rfl
  obtain ⟨r, hr⟩ : ∃ r, funL v t u lab = r := ⟨_, rfl⟩
  have hr2 := hr
  unfold funL arrOr at hr2
  generalize hdl : Fx = dl at *
  have hDl := dynL_d
  rw [hdl] at hDl
  have hdlen : dl.length = 3 := by rw [← hdl]; rfl
  cases ht0 : ((t.getD 0 n0).kind == 0) with
  | true =>
    rw [ht0] at hr2
    cases hu0 : ((u.getD 0 n0).kind == 0) with
    | true =>
      rw [hu0] at hr2
      simp only [cond_true] at hr2
      rw [hd5] at hr2
      simp only [cond_true, A3] at hr2
      simp only [Tryz.f27, Option.some.injEq] at hc
      subst hc
      refine Kw 2 (of_decide_eq_true (by kernel_rfl)) ?_
      (sym =>
       simp [L6.eq_def,K7.eq_def,e1,e2,e3,ht0,hu0,hDl,hd5n,A3,hr,Uu,Us,Uv,Ur,szN,Ut,Mf,Mz,Mg,M0,Kz.eq_def,Gr.eq_def,Kx.eq_def,Nq.eq_def,Zb,Zc,Ze,Zf,Zg,Zn,Zo,Zp,Zq,Zs,Zv,Zx,Zy,Z9,Qb,Qd,Qe,Qf,Qn,Qo,Qp,Qq,Qs,Q1,Q2,Q4,Q8,Jf,Jj,Jk,Jl,Jw,J3,J4,J5,J6,J7,J8,J9,Xa,Xb,Xc,Xf,Xn,Xo,Xt,Xv,X4,X6,X7,X8,Wb,Wc,Wf,Wh,Wi,Wj,Wt,Wu,Wv,Ww,Wx,Wy,Wz,W0,W6,W7,W8,Ya,Yb,Ye,Yi,Ym,Yt,Yw,Yx,Yy,Y0,Y1,Y7,Y8,Y9,Vb,Vc,Vd,Ve,Vf,Vg,Vh,Vj,Vo,Vs,Vt,Vu,V4,V5,V7,Uk,Ul,Um,Un,Uo,Up,Nx,U8,Kc,U4,U3,Kb]
       tactic =>
        try simp only [U1] at *
        try simp only [nc2] at *
        try simp (maxSteps := 4000000) only [L6.eq_def,K7.eq_def,e1,e2,e3,ht0,hu0,hDl,hd5n,A3,hr,Uu,Us,Uv,Ur,szN,Ut,U9]
        repeat' (first | with_reducible assumption | with_reducible refine And.intro ?_ ?_ | intro _ | omega | (rw [U0]; omega))
        all_goals first
          | omega
          | rfl
          | (rw [← hr2]; done)
          | (rw [← hr2]; rfl)
          | skip)
    | false =>
      rw [hu0] at hr2
      simp only [cond_true, cond_false] at hr2
      cases hu5 : ((u.getD 0 n0).kind == 5) with
      | false =>
        have hu5n : ((u.getD 0 n0).kind != 5) = true := by rw [bne, hu5]; rfl
        rw [hu5, cond_false] at hr2
        simp only [Tryz.f27, Option.some.injEq] at hc
        subst hc
        refine Kw 2 (of_decide_eq_true (by kernel_rfl)) ?_
        (sym =>
         simp [L6.eq_def,K7.eq_def,e1,e2,e3,ht0,hu0,hDl,hu5n,hr,Uu,Us,Uv,Ur,szN,Ut,Mf,Mz,Mg,M0,Kz.eq_def,Gr.eq_def,Kx.eq_def,Nq.eq_def,Zb,Zc,Ze,Zf,Zg,Zn,Zo,Zp,Zq,Zs,Zv,Zx,Zy,Z9,Qb,Qd,Qe,Qf,Qn,Qo,Qp,Qq,Qs,Q1,Q2,Q4,Q8,Jf,Jj,Jk,Jl,Jw,J3,J4,J5,J6,J8,J9,Xb,Xc,Xf,Xg,Xn,Xo,Xt,Xv,X3,X4,X6,X7,X8,Wb,Wc,Wf,Wh,Wi,Wj,Wt,Wu,Wv,Ww,Wx,Wy,Wz,W0,W6,W7,W8,Ya,Yb,Ye,Yi,Ym,Yt,Yw,Yx,Yy,Y0,Y1,Y7,Y8,Vb,Vc,Vd,Ve,Vf,Vg,Vh,Vj,Vs,Vt,Vu,V4,V5,V7,Uk,Ul,Um,Un,Up,Nx,U8,Kc,U4,U3,Kb]
         tactic =>
          try simp only [U1] at *
          try simp only [nc2] at *
          try simp (maxSteps := 4000000) only [L6.eq_def,K7.eq_def,e1,e2,e3,ht0,hu0,hDl,hu5n,hr,Uu,Us,Uv,Ur,szN,Ut,U9]
          repeat' (first | with_reducible assumption | with_reducible refine And.intro ?_ ?_ | intro _ | omega | (rw [U0]; omega))
          all_goals first
            | omega
            | rfl
            | (rw [← hr2]; done)
            | (rw [← hr2]; rfl)
            | skip)
      | true =>
        have hu5n : ((u.getD 0 n0).kind != 5) = false := by rw [bne, hu5]; rfl
        rw [hu5, cond_true] at hr2
        cases hs : Gp dl u with
        | true =>
          rw [hs, cond_true] at hr2
          simp only [Tryz.f27, Option.some.injEq] at hc
          subst hc
          refine Kw 2 (of_decide_eq_true (by kernel_rfl)) ?_
          (sym =>
           simp [L6.eq_def,K7.eq_def,e1,e2,e3,ht0,hu0,hDl,hu5n,hs,hr,Uu,Us,Uv,Ur,szN,Ut,Mf,Mz,Mg,M0,Kz.eq_def,Gr.eq_def,Kx.eq_def,Nq.eq_def,Zb,Zc,Ze,Zf,Zg,Zn,Zo,Zp,Zq,Zs,Zv,Zx,Zy,Z9,Qb,Qd,Qe,Qf,Qn,Qo,Qp,Qq,Qs,Q1,Q2,Q4,Q8,Jf,Jj,Jk,Jl,Jw,J3,J4,J5,J6,J7,J8,J9,Xa,Xb,Xc,Xf,Xn,Xo,Xt,Xv,X3,X4,X6,X7,X8,Wb,Wc,Wf,Wh,Wi,Wj,Wt,Wu,Wv,Ww,Wx,Wy,Wz,W0,W6,W7,W8,Ya,Yb,Ye,Yi,Ym,Yt,Yw,Yx,Yy,Y0,Y1,Y7,Y8,Y9,Vb,Vc,Vd,Ve,Vf,Vg,Vh,Vj,Vo,Vs,Vt,Vu,V4,V5,V7,Uk,Ul,Um,Un,Uo,Up,Nx,U8,Kc,U4,U3,Kb]
           tactic =>
            try simp only [U1] at *
            try simp only [nc2] at *
            try simp (maxSteps := 4000000) only [L6.eq_def,K7.eq_def,e1,e2,e3,ht0,hu0,hDl,hu5n,hs,hr,Uu,Us,Uv,Ur,szN,Ut,U9]
            repeat' (first | with_reducible assumption | with_reducible refine And.intro ?_ ?_ | intro _ | omega | (rw [U0]; omega))
            all_goals first
              | omega
              | rfl
              | (rw [← hr2]; done)
              | (rw [← hr2]; rfl)
              | skip)
        | false =>
          rw [hs, cond_false] at hr2
          simp only [Tryz.f27, Option.some.injEq] at hc
          subst hc
          refine Kw 2 (of_decide_eq_true (by kernel_rfl)) ?_
          (sym =>
           simp [L6.eq_def,K7.eq_def,e1,e2,e3,ht0,hu0,hDl,hu5n,hs,hr,Uu,Us,Uv,Ur,szN,Ut,Mf,Mz,Mg,M0,Kz.eq_def,Gr.eq_def,Kx.eq_def,Nq.eq_def,Zb,Zc,Ze,Zf,Zg,Zn,Zo,Zp,Zq,Zs,Zv,Zx,Zy,Z9,Qb,Qd,Qe,Qf,Qn,Qo,Qp,Qq,Qs,Q1,Q2,Q4,Q8,Jf,Jj,Jk,Jl,Jw,J3,J4,J5,J6,J7,J8,J9,Xa,Xb,Xc,Xf,Xn,Xo,Xt,Xv,X3,X4,X6,X7,X8,Wb,Wc,Wf,Wh,Wi,Wj,Wt,Wu,Wv,Ww,Wx,Wy,Wz,W0,W6,W7,W8,Ya,Yb,Ye,Yi,Ym,Yt,Yw,Yx,Yy,Y0,Y1,Y7,Y8,Y9,Va,Vb,Vc,Vd,Ve,Vf,Vg,Vh,Vj,Vm,Vo,Vs,Vt,Vu,V4,V5,V7,Uk,Ul,Um,Un,Uo,Up,Nx,U8,Kc,U4,U3,Kb]
           tactic =>
            try simp only [U1] at *
            try simp only [nc2] at *
            try simp (maxSteps := 4000000) only [L6.eq_def,K7.eq_def,e1,e2,e3,ht0,hu0,hDl,hu5n,hs,hr,Uu,Us,Uv,Ur,szN,Ut,U9]
            repeat' (first | with_reducible assumption | with_reducible refine And.intro ?_ ?_ | intro _ | omega | (rw [U0]; omega))
            all_goals first
              | omega
              | rfl
              | (rw [← hr2]; done)
              | (rw [← hr2]; rfl)
              | skip)
  | false =>
    rw [ht0] at hr2
    cases hu0 : ((u.getD 0 n0).kind == 0) with
    | true =>
      rw [hu0] at hr2
      simp only [cond_true, cond_false] at hr2
      rw [hd5] at hr2
      simp only [cond_true] at hr2
      cases hs : Gp t dl with
      | true =>
        rw [hs, cond_true] at hr2
        simp only [Tryz.f27, Option.some.injEq] at hc
        subst hc
        refine Kw 2 (of_decide_eq_true (by kernel_rfl)) ?_
        (sym =>
         simp [L6.eq_def,K7.eq_def,e1,e2,e3,ht0,hu0,hDl,hd5n,hs,hr,Uu,Us,Uv,Ur,szN,Ut,Mf,Mz,Mg,M0,Kz.eq_def,Gr.eq_def,Kx.eq_def,Nq.eq_def,Zb,Zc,Ze,Zf,Zg,Zn,Zo,Zp,Zq,Zs,Zv,Zx,Zy,Z9,Qb,Qd,Qe,Qf,Qn,Qo,Qp,Qq,Qs,Q1,Q2,Q4,Q8,Jf,Jj,Jk,Jl,Jw,J3,J4,J5,J6,J7,J8,J9,Xa,Xb,Xc,Xf,Xn,Xo,Xt,Xv,X3,X4,X6,X7,X8,Wb,Wc,Wf,Wh,Wi,Wj,Wt,Wu,Wv,Ww,Wx,Wy,Wz,W0,W6,W7,W8,Ya,Yb,Ye,Yi,Ym,Yt,Yw,Yx,Yy,Y0,Y1,Y7,Y8,Y9,Vb,Vc,Vd,Ve,Vf,Vg,Vh,Vj,Vo,Vs,Vt,Vu,V4,V5,V7,Uk,Ul,Um,Un,Uo,Up,Nx,U8,Kc,U4,U3,Kb]
         tactic =>
          try simp only [U1] at *
          try simp only [nc2] at *
          try simp (maxSteps := 4000000) only [L6.eq_def,K7.eq_def,e1,e2,e3,ht0,hu0,hDl,hd5n,hs,hr,Uu,Us,Uv,Ur,szN,Ut,U9]
          repeat' (first | with_reducible assumption | with_reducible refine And.intro ?_ ?_ | intro _ | omega | (rw [U0]; omega))
          all_goals first
            | omega
            | rfl
            | (rw [← hr2]; done)
            | (rw [← hr2]; rfl)
            | skip)
      | false =>
        rw [hs, cond_false] at hr2
        simp only [Tryz.f27, Option.some.injEq] at hc
        subst hc
        refine Kw 2 (of_decide_eq_true (by kernel_rfl)) ?_
        (sym =>
         simp [L6.eq_def,K7.eq_def,e1,e2,e3,ht0,hu0,hDl,hd5n,hs,hr,Uu,Us,Uv,Ur,szN,Ut,Mf,Mz,Mg,M0,Kz.eq_def,Gr.eq_def,Kx.eq_def,Nq.eq_def,Zb,Zc,Ze,Zf,Zg,Zn,Zo,Zp,Zq,Zs,Zv,Zx,Zy,Z9,Qb,Qd,Qe,Qf,Qn,Qo,Qp,Qq,Qs,Q1,Q2,Q4,Q8,Jf,Jj,Jk,Jl,Jw,J3,J4,J5,J6,J7,J8,J9,Xa,Xb,Xc,Xf,Xn,Xo,Xt,Xv,X3,X4,X6,X7,X8,Wb,Wc,Wf,Wh,Wi,Wj,Wt,Wu,Wv,Ww,Wx,Wy,Wz,W0,W6,W7,W8,Ya,Yb,Ye,Yi,Ym,Yt,Yw,Yx,Yy,Y0,Y1,Y7,Y8,Y9,Va,Vb,Vc,Vd,Ve,Vf,Vg,Vh,Vj,Vm,Vo,Vs,Vt,Vu,V4,V5,V7,Uk,Ul,Um,Un,Uo,Up,Nx,U8,Kc,U4,U3,Kb]
         tactic =>
          try simp only [U1] at *
          try simp only [nc2] at *
          try simp (maxSteps := 4000000) only [L6.eq_def,K7.eq_def,e1,e2,e3,ht0,hu0,hDl,hd5n,hs,hr,Uu,Us,Uv,Ur,szN,Ut,U9]
          repeat' (first | with_reducible assumption | with_reducible refine And.intro ?_ ?_ | intro _ | omega | (rw [U0]; omega))
          all_goals first
            | omega
            | rfl
            | (rw [← hr2]; done)
            | (rw [← hr2]; rfl)
            | skip)
    | false =>
      rw [hu0] at hr2
      simp only [cond_false] at hr2
      cases hu5 : ((u.getD 0 n0).kind == 5) with
      | false =>
        have hu5n : ((u.getD 0 n0).kind != 5) = true := by rw [bne, hu5]; rfl
        rw [hu5, cond_false] at hr2
        simp only [Tryz.f27, Option.some.injEq] at hc
        subst hc
        refine Kw 2 (of_decide_eq_true (by kernel_rfl)) ?_
        (sym =>
         simp [L6.eq_def,K7.eq_def,e1,e2,e3,ht0,hu0,hDl,hu5n,hr,Uu,Us,Uv,Ur,szN,Ut,Mf,Mg,Kx.eq_def,Zb,Zc,Ze,Zf,Zg,Zn,Zo,Zp,Zq,Zs,Zv,Zx,Zy,Qb,Qd,Qn,Qo,Qp,Qq,Qs,Q1,Q2,Q4,Q8,Jk,Jw,J3,J4,J5,J6,J8,J9,Xb,Xc,Xf,Xg,Xn,Xo,X3,X4,X6,X7,X8,Wb,Wc,Wf,Wh,Wi,Wj,Wt,Wu,Wv,Ww,Wy,W0,W6,W7,W8,Ya,Yb,Ye,Yi,Ym,Yt,Yw,Yx,Yy,Y0,Y1,Y7,Y8,Vb,Vc,Vd,Ve,Vf,Vg,Vh,Vj,Vs,Vt,Vu,V4,V5,V7,Uk,Ul,Um,Un,Up,Nx,U8,Kc,U4,U3,Kb]
         tactic =>
          try simp only [U1] at *
          try simp only [nc2] at *
          try simp (maxSteps := 4000000) only [L6.eq_def,K7.eq_def,e1,e2,e3,ht0,hu0,hDl,hu5n,hr,Uu,Us,Uv,Ur,szN,Ut,U9]
          repeat' (first | with_reducible assumption | with_reducible refine And.intro ?_ ?_ | intro _ | omega | (rw [U0]; omega))
          all_goals first
            | omega
            | rfl
            | (rw [← hr2]; done)
            | (rw [← hr2]; rfl)
            | skip)
      | true =>
        have hu5n : ((u.getD 0 n0).kind != 5) = false := by rw [bne, hu5]; rfl
        rw [hu5, cond_true] at hr2
        cases hs : Gp t u with
        | true =>
          rw [hs, cond_true] at hr2
          simp only [Tryz.f27, Option.some.injEq] at hc
          subst hc
          refine Kw 2 (of_decide_eq_true (by kernel_rfl)) ?_
          (sym =>
           simp [L6.eq_def,K7.eq_def,e1,e2,e3,ht0,hu0,hDl,hu5n,hs,hr,Uu,Us,Uv,Ur,szN,Ut,Mf,Mz,Mg,M0,Kz.eq_def,Gr.eq_def,Kx.eq_def,Nq.eq_def,Zb,Zc,Ze,Zf,Zg,Zn,Zo,Zp,Zq,Zs,Zv,Zx,Zy,Z9,Qb,Qd,Qe,Qf,Qn,Qo,Qp,Qq,Qs,Q1,Q2,Q4,Q8,Jf,Jj,Jk,Jl,Jw,J3,J4,J5,J6,J7,J8,J9,Xa,Xb,Xc,Xf,Xn,Xo,Xt,Xv,X3,X4,X6,X7,X8,Wb,Wc,Wf,Wh,Wi,Wj,Wt,Wu,Wv,Ww,Wx,Wy,Wz,W0,W6,W7,W8,Ya,Yb,Ye,Yi,Ym,Yt,Yw,Yx,Yy,Y0,Y1,Y7,Y8,Y9,Vb,Vc,Vd,Ve,Vf,Vg,Vh,Vj,Vo,Vs,Vt,Vu,V4,V5,V7,Uk,Ul,Um,Un,Uo,Up,Nx,U8,Kc,U4,U3,Kb]
           tactic =>
            try simp only [U1] at *
            try simp only [nc2] at *
            try simp (maxSteps := 4000000) only [L6.eq_def,K7.eq_def,e1,e2,e3,ht0,hu0,hDl,hu5n,hs,hr,Uu,Us,Uv,Ur,szN,Ut,U9]
            repeat' (first | with_reducible assumption | with_reducible refine And.intro ?_ ?_ | intro _ | omega | (rw [U0]; omega))
            all_goals first
              | omega
              | rfl
              | (rw [← hr2]; done)
              | (rw [← hr2]; rfl)
              | skip)
        | false =>
          rw [hs, cond_false] at hr2
          simp only [Tryz.f27, Option.some.injEq] at hc
          subst hc
          refine Kw 2 (of_decide_eq_true (by kernel_rfl)) ?_
          (sym =>
           simp [L6.eq_def,K7.eq_def,e1,e2,e3,ht0,hu0,hDl,hu5n,hs,hr,Uu,Us,Uv,Ur,szN,Ut,Mf,Mz,Mg,M0,Kz.eq_def,Gr.eq_def,Kx.eq_def,Nq.eq_def,Zb,Zc,Ze,Zf,Zg,Zn,Zo,Zp,Zq,Zs,Zv,Zx,Zy,Z9,Qb,Qd,Qe,Qf,Qn,Qo,Qp,Qq,Qs,Q1,Q2,Q4,Q8,Jf,Jj,Jk,Jl,Jw,J3,J4,J5,J6,J7,J8,J9,Xa,Xb,Xc,Xf,Xn,Xo,Xt,Xv,X3,X4,X6,X7,X8,Wb,Wc,Wf,Wh,Wi,Wj,Wt,Wu,Wv,Ww,Wx,Wy,Wz,W0,W6,W7,W8,Ya,Yb,Ye,Yi,Ym,Yt,Yw,Yx,Yy,Y0,Y1,Y7,Y8,Y9,Va,Vb,Vc,Vd,Ve,Vf,Vg,Vh,Vj,Vm,Vo,Vs,Vt,Vu,V4,V5,V7,Ul,Um,Un,Uo,Up,Nx,U8,Kc,U4,U3,Kb]
           tactic =>
            try simp only [U1] at *
            try simp only [nc2] at *
            try simp (maxSteps := 4000000) only [L6.eq_def,K7.eq_def,e1,e2,e3,ht0,hu0,hDl,hu5n,hs,hr,Uu,Us,Uv,Ur,szN,Ut,U9]
            repeat' (first | with_reducible assumption | with_reducible refine And.intro ?_ ?_ | intro _ | omega | (rw [U0]; omega))
            all_goals first
              | omega
              | rfl
              | (rw [← hr2]; done)
              | (rw [← hr2]; rfl)
              | skip)
end Go.Am.Ty
set_option linter.unusedSimpArgs false
set_option linter.unusedVariables false
set_option maxHeartbeats 2000000
namespace Go.Am.Ty
open Go.Proofs Go.Rose Go.Rose.Rose
open Enc (enc dec)
def Gu : Rose Node := mk n0 []
theorem nds_dynT : nds Gu = [n0] := rfl
def Hb (t : Rose Node) (s : List UInt8) : Option (Rose Node) := (t.kids.findIdx? (fun k => k.root.name == s)).map fun j => M2 (t.kids.getD j (mk n0 []))
theorem fieldX_row {t : Rose Node} {s : List UInt8} (h : Ml t.root = true) (h0 : t.root.kind ≠ 0) : fieldX t s = match Hb t s with
    | some y => (⟨nds y⟩, 0)
    | none => (⟨[]⟩, 9) := by
  unfold fieldX Hb
  rw [show (t.root.kind == 0) = false by rw [beq_eq_false_iff_ne]; exact h0, cond_false, h, cond_true]
  cases t.kids.findIdx? (fun k => k.root.name == s) with
  | none => rfl
  | some j => simp only [Option.map_some]; rw [Fu]
def Hl (t : Rose Node) : List (Rose VNode) → Option (List (Rose Node))
  | [] => some []
  | k :: ks => match Hb t k.root.label with
    | none => none
    | some y => (Hl t ks).map (y :: ·)
theorem fieldsR_snoc {t : Rose Node} {k : Rose VNode} : ∀ {ks : List (Rose VNode)}, Hl t (ks ++ [k]) = match Hl t ks, Hb t k.root.label with
    | some l, some y => some (l ++ [y])
    | _, _ => none
  | [] => by
    rw [List.nil_append, Hl, Hl]
    cases Hb t k.root.label <;> rfl
  | x :: xs => by
    rw [List.cons_append, Hl, Hl, fieldsR_snoc]
    cases Hb t x.root.label with
    | none => rfl
    | some y =>
      simp only
      cases Hl t xs with
      | none => rfl
      | some l =>
        cases Hb t k.root.label <;> rfl
theorem fieldsR_none {t : Rose Node} : ∀ {ks : List (Rose VNode)} {k : Nat} (h : k < ks.length), Hb t ks[k].root.label = none → Hl t ks = none
  | [], k, h, _ => by simp at h
  | x :: xs, k, h, hn => by
    rw [Hl]
    cases k with
    | zero => simp only [List.getElem_cons_zero] at hn; rw [hn]
    | succ k =>
      rw [fieldsR_none (k := k) (by simpa using h) hn]
      cases Hb t x.root.label <;> rfl
theorem fieldsR_len {t : Rose Node} : ∀ {ks : List (Rose VNode)} {l : List (Rose Node)}, Hl t ks = some l → l.length = ks.length
  | [], l, h => by rw [Hl] at h; injection h with h; rw [← h]; rfl
  | x :: xs, l, h => by
    rw [Hl] at h
    cases hx : Hb t x.root.label with
    | none => rw [hx] at h; cases h
    | some y =>
      rw [hx] at h
      simp only [Option.map_eq_some_iff] at h
      obtain ⟨l', h1, rfl⟩ := h
      rw [List.length_cons, List.length_cons, fieldsR_len h1]
def Gk (n : VNode) (ks : List (Rose VNode)) (t : Rose Node) : Option (List (Rose Node)) :=
  cond (t.root.kind == 0) (some (List.replicate ks.length Gu))
    (cond (t.root.kind == 7 && n.kind == 5) ((Hb t n.name).map fun y => [y])
      (cond (t.root.kind == 6 && (n.kind == 4 && t.root.n == (ks.length : Int))) (Hl t ks) none))
def Mc (l : List (Rose Node)) : List (Sl Node) := l.map fun y => Sl.mk (nds y)
theorem Lb {l : List (Rose Node)} : (Mc l).length = l.length := by unfold Mc; simp
theorem slsN_snoc {l : List (Rose Node)} {y : Rose Node} : (Mc l).map (enc : Sl Node → D) ++ [.list 3 ((nds y).map enc)] = (Mc (l ++ [y])).map enc := by
  unfold Mc
  rw [List.map_append, List.map_append]
  rfl
noncomputable def A8 (x : Rose VNode) (t : Rose Node) : Sl (Sl Node) × Bool := match Gk x.root x.kids t with
  | some l => (⟨Mc l⟩, true)
  | none => (cond (t.root.kind == 7 && x.root.kind == 5) ⟨[⟨[]⟩]⟩ ⟨[]⟩, false)
noncomputable def Gb : Con := con2t (fun (v : Sl VNode) (t : Sl Node) => v.l.length ≤ 1000000 ∧ (∃ x, Co v.l x ∧ (x.root.kind = 4 ∨ x.root.kind = 5)) ∧ t.l.length ≤ 1000000 ∧ ∃ y, At ar t.l 0 y) (fun v t => A8 (K1 arV v.l 0) (K1 ar t.l 0))
theorem O6 {ks : List (Rose VNode)} {k : Nat} (h : k < ks.length) : (sls ks).getD k ⟨[]⟩ = ⟨nds ks[k]⟩ := by
  unfold sls
  simp [h]
noncomputable def E2 : Ctx := ⟨tab, lkC [(30, K9), (57, M5), (58, Ni)], 60, lkB [], [], false⟩
theorem Pi : E2.τ = tab := rfl
theorem Bm : E2.Γ = lkC [(30, K9), (57, M5), (58, Ni)] := rfl
theorem Pj : E2.dp = 60 := rfl
theorem Bn : E2.Δ = lkB [] := rfl
theorem Rw : E2.wr = false := rfl
set_option maxRecDepth 100000 in
theorem good_partsV : Gj Tryz.prog (29, Gb) := by
  refine ⟨U7 Tryz.func29 (by kernel_rfl) rfl, ?_⟩
  have K : Ky Tryz.prog E2 := Kd K6 Ki (by
    intro p hp
    simp only [List.mem_cons, List.not_mem_nil, or_false] at hp
    rcases hp with rfl | rfl | rfl
    · exact good_kidsV
    · exact good_dynV
    · exact good_FieldP) (by simp)
  obtain ⟨c, hc⟩ : ∃ c, Tryz.f29.body = some c := ⟨_, rfl⟩
  refine Ke K Tryz.func29 hc [.tmp 4, .tmp 5] rfl 117 rfl (fun cvs hpre => ?_)
  change Gb.pre cvs at hpre
  unfold Gb at hpre
  obtain ⟨⟨v⟩, ⟨t⟩, rfl, hv, ⟨x, hx, hk45⟩, ht, y, hy⟩ := con2t_pre hpre
  simp only at hv hx ht hy
  have hx1 := hx.tree
  have hy1 := Gq hy
  have hxl := hx.at.lt
  have hyl := hy.lt
  have ev := Kf v0 hxl
  have et := Kf n0 hyl
  rw [hx.at.root v0] at ev
  rw [hy.root n0] at et
  have hkl := Oi x.kids
  have hvl : v.length = 1 + (ndss x.kids).length := by rw [hx.1, Nc, List.length_cons]; omega
  obtain ⟨ks, hks⟩ : ∃ ks, x.kids = ks := ⟨_, rfl⟩
  rw [hks] at hkl hvl
  have hsl : (sls ks).length = ks.length := T0
  obtain ⟨R, hR⟩ : ∃ R, A8 x y = R := ⟨_, rfl⟩
  have hR2 := hR
  unfold A8 Gk at hR2
  rw [hks] at hR2
  obtain ⟨n, hn⟩ : ∃ n, x.root = n := ⟨_, rfl⟩
  rw [hn] at ev hk45 hR2
  obtain ⟨p, hp⟩ : ∃ p, y.root = p := ⟨_, rfl⟩
  rw [hp] at et hR2
  clear hpre
  cases h0 : (p.kind == 0) with
  | true =>
    rw [h0] at hR2
    simp only [cond_true] at hR2
    have hrow : (n.kind == 4 || n.kind == 5) = true := by rcases hk45 with h | h <;> simp [h]
    simp only [Tryz.f29, Option.some.injEq] at hc
    subst hc
    refine Kw 7 (of_decide_eq_true (by kernel_rfl)) ?_
    (sym =>
     simp [K5.eq_def,hx1,hy1,hks,hsl,ev,et,h0,hR,Uw,Uz,Uy,Ux,szV,Uu,Us,Uv,Ur,szN,Ut,Pi,Bm,Pj,Bn,Ni.eq_def,M5.eq_def,K9.eq_def,Gb.eq_def,Zb,Zc,Ze,Zf,Zn,Zo,Zp,Zq,Zs,Zv,Zx,Zy,Z6,Z9,Qb,Qd,Qe,Qf,Qq,Qs,Q1,Q2,Q4,Q8,Jf,Jh,Ji,Jj,Jl,Jw,J3,J4,J5,J6,J8,J9,Xb,Xc,Xf,Xn,Xo,Xt,Xx,X4,X6,X7,X8,X9,Wc,Wf,Wh,Wi,Wj,Wt,Wu,Wv,Ww,Wx,Wy,Wz,W0,W6,W7,W8,Ya,Yb,Ye,Yi,Ym,Yt,Yw,Yy,Y0,Y1,Y6,Y7,Y8,Vb,Vc,Vd,Ve,Vf,Vg,Vj,Vo,Vs,Vt,Vu,V4,V5,V7,Uk,Um,Un,Uo,Up,U8,Kq,Kc,U4,Kr,U3,Kb,Gg,tab72]
     tactic =>
      try simp only [U1] at *
      try simp only [nc2] at *
      try simp (maxSteps := 4000000) only [K5.eq_def,hx1,hy1,hks,hsl,ev,et,h0,hR,Uw,Uz,Uy,Ux,szV,Uu,Us,Uv,Ur,szN,Ut,U9]
      repeat' (first | with_reducible assumption | with_reducible refine And.intro ?_ ?_ | intro _ | omega | (rw [U0]; omega))
      · exact ⟨x, hx⟩
      refine Km [25, 26, 27, 28, 29, 30] (fun k : Nat => [(6, .sl 6 ((Mc (List.replicate k Gu)).map (enc : Sl Node → D)).length), (24, .d (.int .i64 k))]) (fun k : Nat => [(6, .row 1 ((Mc (List.replicate k Gu)).map enc) 0)]) (fun k : Nat => k ≤ ks.length) (fun k : Nat => ks.length - k) 0 ?_ ?_ ?_
      · simp
      · ((try simp only [U2, Ka, U6, Kg, upd, Kh, Ko, Gd, Nat.reduceDiv, Nat.reduceMod, Nat.reduceMul, Nat.reduceAdd, Nat.reduceEqDiff, List.set_cons_zero, List.set_cons_succ, if_true, if_false, reduceIte]); (first | refine Wk.of_fl ?_ | skip); simp only [Wk, wkK, Gl, wkT, wk1, AV.kept, keptAll, wkO, lk, U5, and_true, true_and, and_self, Nat.reduceEqDiff, Nat.reduceLeDiff, if_true, if_false, reduceIte, reduceCtorEq, Option.isSome, false_implies]; try simp [Wk, wkK, wkT, wk1, AV.kept, keptAll, wkO, lk, U5, Mc])
      rintro k hk
      have hrl : (Mc (List.replicate k Gu)).length = k := by rw [Lb, List.length_replicate]
      have hrl2 : (Mc (List.replicate (k + 1) Gu)).length = k + 1 := by rw [Lb, List.length_replicate]
      have hsn : (Mc (List.replicate k Gu)).map (enc : Sl Node → D) ++ [.list 3 [.agg [.int .i64 0, .str [], .int .i64 0]]] = (Mc (List.replicate (k + 1) Gu)).map enc := by
        rw [List.replicate_succ', ← slsN_snoc]
        rfl
      rcases Ks k ks.length with ⟨hlt, hlb⟩ | ⟨hlt, hlb⟩
      · (sym =>
         simp [K5.eq_def,hlb,hrl,hsn,Uw,Uz,Uy,Ux,szV,Uu,Us,Uv,Ur,szN,Ut,Pi,Bm,Pj,Bn,Rw,Ni.eq_def,M5.eq_def,K9.eq_def,Zb,Zc,Ze,Zf,Zg,Zo,Zr,Z1,Z4,Z5,Z9,Qb,Qd,Qe,Qf,Qq,Qs,Q1,Q2,Q4,Q8,Jb,Jc,Jd,Je,Jf,Jg,Jh,Ji,Jj,Jl,Jy,Jz,J0,J5,J6,J8,J9,Xb,Xc,Xd,Xe,Xf,Xt,Xx,X3,X4,X6,X7,X8,Wc,Wf,Wh,Wi,Wj,Wl,Wn,Wt,Wu,Wv,Ww,Wx,Wz,W0,W3,W4,W5,W6,W7,Ya,Yb,Yd,Ye,Yi,Y2,Y7,Y8,Y9,Vt,V3,V4,V9,Uk,Um,Un,Uo,Up,U8,Kq,Kc,U4,Kr,U3,Kb,Gg,tab72]
         tactic =>
          try simp only [U1] at *
          try simp only [nc2] at *
          try simp (maxSteps := 4000000) only [K5.eq_def,hlb,hrl,hsn,Uw,Uz,Uy,Ux,szV,Uu,Us,Uv,Ur,szN,Ut,U9]
          repeat' (first | with_reducible assumption | with_reducible refine And.intro ?_ ?_ | intro _ | omega | (rw [U0]; omega))
          all_goals first
            | omega
            | (refine ⟨k + 1, ?_, by omega, by omega⟩; ((try simp only [U2, Ka, U6, Kg, upd, Kh, Ko, Gd, Nat.reduceDiv, Nat.reduceMod, Nat.reduceMul, Nat.reduceAdd, Nat.reduceEqDiff, List.set_cons_zero, List.set_cons_succ, if_true, if_false, reduceIte]); (first | refine Wk.of_fl ?_ | skip); simp only [Wk, wkK, Gl, wkT, wk1, AV.kept, keptAll, wkO, lk, U5, and_true, true_and, and_self, Nat.reduceEqDiff, Nat.reduceLeDiff, if_true, if_false, reduceIte, reduceCtorEq, Option.isSome, false_implies]; try simp [Wk, wkK, wkT, wk1, AV.kept, keptAll, wkO, lk, U5, hrl, hrl2, hsn]); done)
            | (refine ⟨k + 1, ?_, by omega, by omega⟩; ((try simp only [U2, Ka, U6, Kg, upd, Kh, Ko, Gd, Nat.reduceDiv, Nat.reduceMod, Nat.reduceMul, Nat.reduceAdd, Nat.reduceEqDiff, List.set_cons_zero, List.set_cons_succ, if_true, if_false, reduceIte]); (first | refine Wk.of_fl ?_ | skip); simp only [Wk, wkK, Gl, wkT, wk1, AV.kept, keptAll, wkO, lk, U5, and_true, true_and, and_self, Nat.reduceEqDiff, Nat.reduceLeDiff, if_true, if_false, reduceIte, reduceCtorEq, Option.isSome, false_implies]; try simp [Wk, wkK, wkT, wk1, AV.kept, keptAll, wkO, lk, U5, hrl, hrl2, hsn]); exact hsn)
            | skip)
      · have hkl2 : k = ks.length := by omega
        subst hkl2
        (sym =>
         simp [K5.eq_def,hlb,hrl,hx1,hy1,hks,hsl,ev,et,hR,Uw,Uz,Uy,Ux,szV,Uu,Us,Uv,Ur,szN,Ut,Pi,Bm,Pj,Bn,Rw,Ni.eq_def,M5.eq_def,K9.eq_def,Zb,Zc,Zd,Ze,Zf,Zg,Zh,Zi,Zj,Zk,Zl,Zm,Zo,Zp,Zq,Zs,Zt,Zv,Zx,Zy,Qb,Qd,Qn,Qo,Qp,Qq,Qr,Qs,Q1,Q2,Q4,Q5,Q6,Q8,Jh,Ji,Jk,Jy,Jz,J0,J5,J6,J8,J9,Xb,Xc,Xf,Xh,Xt,Xx,X4,X5,X6,X7,Wa,Wb,Wc,Wd,We,Wf,Wg,Wh,Wi,Wj,Wp,Wt,Wu,Wv,Ww,W4,W5,W8,W9,Ya,Yb,Yd,Ye,Yi,Ym,Yt,Yw,Y0,Y1,Y7,Y8,Vs,Vt,Vu,V4,V5,Uk,Ul,Um,Un,Up,Uq,U8,Kq,Kc,U4,Kr,U3,Kb,Gg,tab72]
         tactic =>
          try simp only [U1] at *
          try simp only [nc2] at *
          try simp (maxSteps := 4000000) only [K5.eq_def,hlb,hrl,hx1,hy1,hks,hsl,ev,et,hR,Uw,Uz,Uy,Ux,szV,Uu,Us,Uv,Ur,szN,Ut,U9]
          repeat' (first | with_reducible assumption | with_reducible refine And.intro ?_ ?_ | intro _ | omega | (rw [U0]; omega))
          all_goals first
            | (with_reducible refine Kl ?_; kernel_rfl)
            | omega
            | (rw [← hR2]; done)
            | (rw [← hR2]; rfl)
            | (rw [← hR2]; simp_all; done)
            | skip))
  | false =>
    rw [h0] at hR2
    simp only [cond_false] at hR2
    cases h75 : (p.kind == 7 && n.kind == 5) with
    | true =>
      rw [h75] at hR2
      simp only [cond_true] at hR2
      rw [Bool.and_eq_true] at h75
      obtain ⟨h7, h5⟩ := h75
      have hrow : Ml y.root = true := by rw [hp]; unfold Ml; rw [h7, Bool.or_true]
      have hfx := fieldX_row (s := n.name) hrow (by rw [hp]; simpa using h0)
      obtain ⟨f, hf⟩ : ∃ f, Hb y n.name = f := ⟨_, rfl⟩
      rw [hf] at hfx hR2
      cases f with
      | none =>
        simp only [Option.map_none] at hR2 hfx
        simp only [Tryz.f29, Option.some.injEq] at hc
        subst hc
        refine Kw 7 (of_decide_eq_true (by kernel_rfl)) ?_
        (sym =>
         simp [K5.eq_def,hx1,hy1,hks,hsl,ev,et,h0,h7,h5,hfx,hR,Uw,Uz,Uy,Ux,szV,Uu,Us,Uv,Ur,szN,Ut,Pi,Bm,Pj,Bn,Ni.eq_def,M5.eq_def,K9.eq_def,Gb.eq_def,Zb,Zc,Zd,Ze,Zf,Zg,Zn,Zo,Zp,Zq,Zr,Zs,Zt,Zv,Zx,Zy,Z1,Z4,Z5,Z8,Z9,Qb,Qd,Qe,Qf,Qg,Qn,Qo,Qp,Qq,Qs,Q1,Q2,Q4,Q8,Q9,Ja,Jb,Jc,Jd,Je,Jf,Jg,Jh,Ji,Jj,Jk,Jl,Jw,J3,J4,J5,J6,J8,J9,Xb,Xc,Xd,Xe,Xf,Xh,Xn,Xo,Xt,Xx,X4,X6,X7,X8,Wb,Wc,Wf,Wh,Wi,Wj,Wl,Wn,Wt,Wu,Wv,Ww,Wx,Wy,Wz,W0,W3,W4,W5,W6,W7,W8,W9,Ya,Yb,Ye,Yi,Ym,Yt,Yu,Yw,Yx,Yy,Y0,Y1,Y2,Y6,Y7,Y8,Y9,Vb,Vc,Vd,Ve,Vf,Vg,Vi,Vj,Vn,Vo,Vs,Vt,Vu,V3,V4,V5,V7,V9,Uk,Ul,Um,Un,Uo,Up,U8,Kq,Kc,U4,Kr,U3,Kb,Gg,tab72]
         tactic =>
          try simp only [U1] at *
          try simp only [nc2] at *
          try simp (maxSteps := 4000000) only [K5.eq_def,hx1,hy1,hks,hsl,ev,et,h0,h7,h5,hfx,hR,Uw,Uz,Uy,Ux,szV,Uu,Us,Uv,Ur,szN,Ut,U9]
          repeat' (first | with_reducible assumption | with_reducible refine And.intro ?_ ?_ | intro _ | omega | (rw [U0]; omega))
          all_goals first
            | exact ⟨x, hx⟩
            | exact ⟨y, hy⟩
            | (with_reducible refine Kl ?_; kernel_rfl)
            | omega
            | (rw [← hR2]; done)
            | (rw [← hR2]; rfl)
            | skip)
      | some z =>
        simp only [Option.map_some] at hR2 hfx
        simp only [Tryz.f29, Option.some.injEq] at hc
        subst hc
        refine Kw 7 (of_decide_eq_true (by kernel_rfl)) ?_
        (sym =>
         simp [K5.eq_def,hx1,hy1,hks,hsl,ev,et,h0,h7,h5,hfx,hR,Uw,Uz,Uy,Ux,szV,Uu,Us,Uv,Ur,szN,Ut,Pi,Bm,Pj,Bn,Ni.eq_def,M5.eq_def,K9.eq_def,Gb.eq_def,Zb,Zc,Zd,Ze,Zf,Zg,Zn,Zo,Zp,Zq,Zr,Zs,Zt,Zv,Zx,Zy,Z1,Z4,Z5,Z8,Z9,Qb,Qd,Qe,Qf,Qg,Qn,Qo,Qp,Qq,Qs,Q1,Q2,Q4,Q8,Q9,Ja,Jb,Jc,Jd,Je,Jf,Jg,Jh,Ji,Jj,Jk,Jl,Jw,J3,J4,J5,J6,J8,J9,Xb,Xc,Xd,Xe,Xf,Xh,Xn,Xo,Xt,Xx,X4,X6,X7,X8,Wb,Wc,Wf,Wh,Wi,Wj,Wl,Wn,Wt,Wu,Wv,Ww,Wx,Wy,Wz,W0,W3,W4,W5,W6,W7,W8,W9,Ya,Yb,Ye,Yi,Ym,Yt,Yu,Yw,Yx,Yy,Y0,Y1,Y2,Y6,Y7,Y8,Y9,Vb,Vc,Vd,Ve,Vf,Vg,Vi,Vj,Vn,Vo,Vs,Vt,Vu,V3,V4,V5,V7,V9,Uk,Ul,Um,Un,Uo,Up,U8,Kq,Kc,U4,Kr,U3,Kb,Gg,tab72]
         tactic =>
          try simp only [U1] at *
          try simp only [nc2] at *
          try simp (maxSteps := 4000000) only [K5.eq_def,hx1,hy1,hks,hsl,ev,et,h0,h7,h5,hfx,hR,Uw,Uz,Uy,Ux,szV,Uu,Us,Uv,Ur,szN,Ut,U9]
          repeat' (first | with_reducible assumption | with_reducible refine And.intro ?_ ?_ | intro _ | omega | (rw [U0]; omega))
          all_goals first
            | exact ⟨x, hx⟩
            | exact ⟨y, hy⟩
            | (with_reducible refine Kl ?_; kernel_rfl)
            | omega
            | (rw [← hR2]; done)
            | (rw [← hR2]; rfl)
            | skip)
    | false =>
      rw [h75] at hR2
      simp only [cond_false] at hR2
      cases h64 : (p.kind == 6 && (n.kind == 4 && p.n == (ks.length : Int))) with
      | false =>
        rw [h64] at hR2
        simp only [cond_false] at hR2
        simp only [Tryz.f29, Option.some.injEq] at hc
        subst hc
        refine Kw 7 (of_decide_eq_true (by kernel_rfl)) ?_
        (sym =>
         simp [K5.eq_def,hx1,hy1,hks,hsl,ev,et,h0,hR,Uw,Uz,Uy,Ux,szV,Uu,Us,Uv,Ur,szN,Ut,Pi,Bm,Pj,Bn,Ni.eq_def,M5.eq_def,K9.eq_def,Gb.eq_def,Zb,Zc,Zd,Ze,Zf,Zg,Zn,Zo,Zp,Zq,Zr,Zs,Zt,Zv,Zx,Zy,Z1,Z4,Z5,Z6,Z8,Z9,Qb,Qd,Qe,Qf,Qg,Qn,Qo,Qp,Qq,Qs,Q1,Q2,Q4,Q8,Q9,Ja,Jb,Jc,Jd,Je,Jf,Jg,Jh,Ji,Jj,Jk,Jl,Jw,J3,J4,J5,J6,J8,J9,Xb,Xc,Xd,Xe,Xf,Xg,Xh,Xn,Xo,Xt,Xx,X3,X4,X6,X7,X8,X9,Wb,Wc,Wf,Wh,Wi,Wj,Wl,Wn,Wt,Wu,Wv,Ww,Wx,Wy,Wz,W0,W3,W4,W5,W6,W7,W8,W9,Ya,Yb,Ye,Yi,Ym,Yt,Yu,Yw,Yx,Yy,Y0,Y1,Y2,Y6,Y7,Y8,Y9,Vb,Vc,Vd,Ve,Vf,Vg,Vi,Vj,Vn,Vo,Vs,Vt,Vu,V3,V4,V5,V7,V9,Uk,Ul,Um,Un,Uo,Up,U8,Kq,Kc,U4,Kr,U3,Kb,Gg,tab72]
         tactic =>
          try simp only [U1] at *
          try simp only [nc2] at *
          try simp (maxSteps := 4000000) only [K5.eq_def,hx1,hy1,hks,hsl,ev,et,h0,hR,Uw,Uz,Uy,Ux,szV,Uu,Us,Uv,Ur,szN,Ut,U9]
          repeat' (first | with_reducible assumption | with_reducible refine And.intro ?_ ?_ | intro _ | omega | (rw [U0]; omega))
          all_goals first
            | exact ⟨x, hx⟩
            | exact ⟨y, hy⟩
            | (with_reducible refine Kl ?_; kernel_rfl)
            | omega
            | (rw [← hR2]; done)
            | (rw [← hR2]; rfl)
            | (exfalso; simp_all; done)
            | skip)
      | true =>
        rw [h64] at hR2
        simp only [cond_true] at hR2
        rw [Bool.and_eq_true, Bool.and_eq_true] at h64
        obtain ⟨h6, h4, hnn⟩ := h64
        have h7 : (p.kind == 7) = false := by rw [beq_iff_eq] at h6; rw [h6]; rfl
        have n6 : (p.kind != 6) = false := by rw [bne, h6]; rfl
        have n4 : (n.kind != 4) = false := by rw [bne, h4]; rfl
        have nn : (p.n != (ks.length : Int)) = false := by rw [bne, hnn]; rfl
        have hrow : Ml y.root = true := by rw [hp]; unfold Ml; rw [h6, Bool.true_or]
        have hfx := fun s => fieldX_row (s := s) hrow (by rw [hp]; simpa using h0)
        simp only [Tryz.f29, Option.some.injEq] at hc
        subst hc
        refine Kw 7 (of_decide_eq_true (by kernel_rfl)) ?_
        (sym =>
         simp [K5.eq_def,hx1,hy1,hks,hsl,ev,et,h0,h7,n6,n4,nn,hR,Uw,Uz,Uy,Ux,szV,Uu,Us,Uv,Ur,szN,Ut,Pi,Bm,Pj,Bn,Ni.eq_def,M5.eq_def,K9.eq_def,Gb.eq_def,Zb,Zc,Zd,Ze,Zf,Zg,Zn,Zo,Zp,Zq,Zs,Zt,Zv,Zx,Zy,Z6,Z9,Qb,Qd,Qe,Qf,Qq,Qs,Q1,Q2,Q4,Q8,Jf,Jh,Ji,Jj,Jl,Jw,J3,J4,J5,J6,J8,J9,Xb,Xc,Xf,Xn,Xo,Xt,Xx,X3,X4,X6,X7,X8,X9,Wc,Wf,Wh,Wi,Wj,Wt,Wu,Wv,Ww,Wx,Wy,Wz,W0,W6,W7,W8,W9,Ya,Yb,Ye,Yi,Ym,Yt,Yw,Yy,Y0,Y1,Y6,Y7,Y8,Vb,Vc,Vd,Ve,Vf,Vg,Vj,Vo,Vs,Vt,Vu,V4,V5,V7,Ul,Um,Un,Uo,Up,U8,Kq,Kc,U4,Kr,U3,Kb,Gg,tab72]
         tactic =>
          try simp only [U1] at *
          try simp only [nc2] at *
          try simp (maxSteps := 4000000) only [K5.eq_def,hx1,hy1,hks,hsl,ev,et,h0,h7,n6,n4,nn,hR,Uw,Uz,Uy,Ux,szV,Uu,Us,Uv,Ur,szN,Ut,U9]
          repeat' (first | with_reducible assumption | with_reducible refine And.intro ?_ ?_ | intro _ | omega | (rw [U0]; omega))
          · exact ⟨x, hx⟩
          refine Km [4, 5, 11, 12, 13, 97, 98, 99, 100, 101, 102, 103, 104, 105, 106, 107, 108, 109, 110, 111, 112, 113, 114, 115] (fun q : Nat × List (Rose Node) => [(6, .sl 6 ((Mc q.2).map (enc : Sl Node → D)).length), (96, .d (.int .i64 q.1))]) (fun q : Nat × List (Rose Node) => [(6, .row 1 ((Mc q.2).map enc) 0)]) (fun q : Nat × List (Rose Node) => q.1 ≤ ks.length ∧ q.2.length = q.1 ∧ Hl y (ks.take q.1) = some q.2) (fun q : Nat × List (Rose Node) => ks.length - q.1) (0, []) ?_ ?_ ?_
          · exact ⟨Nat.zero_le _, rfl, rfl⟩
          · ((try simp only [U2, Ka, U6, Kg, upd, Kh, Ko, Gd, Nat.reduceDiv, Nat.reduceMod, Nat.reduceMul, Nat.reduceAdd, Nat.reduceEqDiff, List.set_cons_zero, List.set_cons_succ, if_true, if_false, reduceIte]); (first | refine Wk.of_fl ?_ | skip); simp only [Wk, wkK, Gl, wkT, wk1, AV.kept, keptAll, wkO, lk, U5, and_true, true_and, and_self, Nat.reduceEqDiff, Nat.reduceLeDiff, if_true, if_false, reduceIte, reduceCtorEq, Option.isSome, false_implies]; try simp [Wk, wkK, wkT, wk1, AV.kept, keptAll, wkO, lk, U5, Mc])
          rintro ⟨k, l⟩ ⟨hk, hll, hF⟩
          simp only at hk hll hF
          have hrl : (Mc l).length = k := by rw [Lb, hll]
          rcases Ks k ks.length with ⟨hlt, hlb⟩ | ⟨hlt, hlb⟩
          · have q1 := Kf (⟨[]⟩ : Sl VNode) (show k < (sls ks).length by omega)
            rw [O6 hlt] at q1
            obtain ⟨z, hz⟩ : ∃ z, ks[k] = z := ⟨_, rfl⟩
            have hsnoc := fieldsR_snoc (t := y) (k := z) (ks := ks.take k)
            rw [← hz, ← List.take_succ_eq_append_getElem hlt, hF, hz] at hsnoc
            have hnone := fieldsR_none (t := y) hlt
            rw [hz] at q1 hnone
            have q2 := Kf v0 (show 0 < (nds z).length from N8 z)
            have hzr : (nds z).getD 0 v0 = z.root := by rw [Nc]; rfl
            rw [hzr] at q2
            have hzp := N8 z
            obtain ⟨m, hm⟩ : ∃ m, z.root = m := ⟨_, rfl⟩
            rw [hm] at q2 hsnoc hnone
            have hfm := hfx m.label
            cases hf : Hb y m.label with
            | none =>
              rw [hf] at hfm
              rw [hnone hf] at hR2
              (sym =>
               simp [K5.eq_def,hlb,q1,q2,hfm,hx1,hy1,hR,Uw,Uz,Uy,Ux,szV,Uu,Us,Uv,Ur,szN,Ut,Pi,Bm,Pj,Bn,Rw,Ni.eq_def,M5.eq_def,K9.eq_def,Zb,Zc,Ze,Zf,Zg,Zn,Zo,Zp,Zq,Zr,Zs,Zv,Zx,Zy,Z1,Z4,Z5,Z8,Z9,Qb,Qd,Qe,Qf,Qg,Qn,Qo,Qp,Qq,Qs,Q1,Q2,Q4,Q8,Q9,Ja,Jb,Jc,Jd,Je,Jf,Jg,Jh,Ji,Jj,Jk,Jl,Jy,Jz,J0,J5,J6,J7,J8,J9,Xa,Xb,Xc,Xd,Xe,Xf,Xg,Xt,Xx,X3,X4,X6,X7,X8,Wb,Wc,Wf,Wh,Wi,Wj,Wl,Wn,Wt,Wu,Wv,Ww,Wx,Wz,W0,W3,W4,W5,W6,W7,W8,W9,Ya,Yb,Yd,Ye,Yi,Ym,Yu,Yw,Yx,Y0,Y1,Y2,Y3,Y7,Y8,Y9,Va,Vi,Vj,Vn,Vo,Vr,Vs,Vt,Vu,V3,V4,V5,V7,V9,Uk,Um,Un,Uo,Up,U8,Kq,Kc,U4,Kr,U3,Kb,Gg,tab72]
               tactic =>
                try simp only [U1] at *
                try simp only [nc2] at *
                try simp (maxSteps := 4000000) only [K5.eq_def,hlb,q1,q2,hfm,hx1,hy1,hR,Uw,Uz,Uy,Ux,szV,Uu,Us,Uv,Ur,szN,Ut,U9]
                repeat' (first | with_reducible assumption | with_reducible refine And.intro ?_ ?_ | intro _ | omega | (rw [U0]; omega))
                all_goals first
                  | exact ⟨y, hy⟩
                  | (with_reducible refine Kl ?_; kernel_rfl)
                  | omega
                  | (rw [← hR2]; done)
                  | (rw [← hR2]; rfl)
                  | skip)
            | some w =>
              rw [hf] at hfm
              rw [hf] at hsnoc
              simp only at hsnoc
              have hsn := slsN_snoc (l := l) (y := w)
              have hrl2 : (Mc (l ++ [w])).length = k + 1 := by rw [Lb, List.length_append, hll]; rfl
              (sym =>
               simp [K5.eq_def,hlb,q1,q2,hfm,hx1,hy1,hrl,hsn,Uw,Uz,Uy,Ux,szV,Uu,Us,Uv,Ur,szN,Ut,Pi,Bm,Pj,Bn,Rw,Ni.eq_def,M5.eq_def,K9.eq_def,Zb,Zc,Ze,Zf,Zg,Zn,Zo,Zp,Zq,Zr,Zs,Zv,Zx,Zy,Z1,Z4,Z5,Z8,Z9,Qb,Qd,Qe,Qf,Qg,Qn,Qo,Qp,Qq,Qs,Q1,Q2,Q4,Q8,Q9,Ja,Jb,Jc,Jd,Je,Jf,Jg,Jh,Ji,Jj,Jk,Jl,Jy,Jz,J0,J5,J6,J7,J8,J9,Xa,Xb,Xc,Xd,Xe,Xf,Xg,Xt,Xx,X3,X4,X6,X7,X8,Wb,Wc,Wf,Wh,Wi,Wj,Wl,Wn,Wt,Wu,Wv,Ww,Wx,Wz,W0,W3,W4,W5,W6,W7,W8,W9,Ya,Yb,Yd,Ye,Yi,Ym,Yu,Yw,Yx,Y0,Y1,Y2,Y3,Y7,Y8,Y9,Va,Vi,Vj,Vn,Vo,Vr,Vs,Vt,Vu,V3,V4,V5,V7,V9,Uk,Um,Un,Uo,Up,U8,Kq,Kc,U4,Kr,U3,Kb,Gg,tab72]
               tactic =>
                try simp only [U1] at *
                try simp only [nc2] at *
                try simp (maxSteps := 4000000) only [K5.eq_def,hlb,q1,q2,hfm,hx1,hy1,hrl,hsn,Uw,Uz,Uy,Ux,szV,Uu,Us,Uv,Ur,szN,Ut,U9]
                repeat' (first | with_reducible assumption | with_reducible refine And.intro ?_ ?_ | intro _ | omega | (rw [U0]; omega))
                all_goals first
                  | exact ⟨y, hy⟩
                  | (with_reducible refine Kl ?_; kernel_rfl)
                  | omega
                  | (refine ⟨(k + 1, l ++ [w]), ?_, by simp only; omega, by simp [hll], hsnoc, by simp only; omega⟩; ((try simp only [U2, Ka, U6, Kg, upd, Kh, Ko, Gd, Nat.reduceDiv, Nat.reduceMod, Nat.reduceMul, Nat.reduceAdd, Nat.reduceEqDiff, List.set_cons_zero, List.set_cons_succ, if_true, if_false, reduceIte]); (first | refine Wk.of_fl ?_ | skip); simp only [Wk, wkK, Gl, wkT, wk1, AV.kept, keptAll, wkO, lk, U5, and_true, true_and, and_self, Nat.reduceEqDiff, Nat.reduceLeDiff, if_true, if_false, reduceIte, reduceCtorEq, Option.isSome, false_implies]; try simp [Wk, wkK, wkT, wk1, AV.kept, keptAll, wkO, lk, U5, hrl, hrl2, hsn]); done)
                  | (refine ⟨(k + 1, l ++ [w]), ?_, by simp only; omega, by simp [hll], hsnoc, by simp only; omega⟩; ((try simp only [U2, Ka, U6, Kg, upd, Kh, Ko, Gd, Nat.reduceDiv, Nat.reduceMod, Nat.reduceMul, Nat.reduceAdd, Nat.reduceEqDiff, List.set_cons_zero, List.set_cons_succ, if_true, if_false, reduceIte]); (first | refine Wk.of_fl ?_ | skip); simp only [Wk, wkK, Gl, wkT, wk1, AV.kept, keptAll, wkO, lk, U5, and_true, true_and, and_self, Nat.reduceEqDiff, Nat.reduceLeDiff, if_true, if_false, reduceIte, reduceCtorEq, Option.isSome, false_implies]; try simp [Wk, wkK, wkT, wk1, AV.kept, keptAll, wkO, lk, U5, hrl, hrl2, hsn]); exact hsn)
                  | skip)
          · have hkl2 : k = ks.length := by omega
            rw [hkl2, List.take_length] at hF
            rw [hF] at hR2
            simp only at hR2
            (sym =>
             simp [K5.eq_def,hlb,hrl,hx1,hy1,hR,Uw,Uz,Uy,Ux,szV,Uu,Us,Uv,Ur,szN,Ut,Pi,Pj,Zb,Zc,Ze,Zf,Zg,Qb,Qd,Qn,Qo,Qp,Qq,Qs,Q1,Q2,Q4,Q8,Jh,Ji,Jk,Jy,Jz,J0,J5,J6,J7,J8,J9,Xa,Xb,Xc,Xf,Xh,X4,X6,X7,Wa,Wb,Wc,Wf,Wh,Wi,Wt,Wu,Wv,Ww,Ya,Yb,Yd,Ye,Yi,Y7,Y8,Y9,Va,Vt,V5,Ul,Um,Un,Uo,Up,U8,Kq,Kc,U4,Kr,U3,Kb,Gg,tab72]
             tactic =>
              try simp only [U1] at *
              try simp only [nc2] at *
              try simp (maxSteps := 4000000) only [K5.eq_def,hlb,hrl,hx1,hy1,hR,Uw,Uz,Uy,Ux,szV,Uu,Us,Uv,Ur,szN,Ut,U9]
              repeat' (first | with_reducible assumption | with_reducible refine And.intro ?_ ?_ | intro _ | omega | (rw [U0]; omega))
              all_goals first
                | (with_reducible refine Kl ?_; kernel_rfl)
                | omega
                | (rw [← hR2]; done)
                | (rw [← hR2]; rfl)
                | skip))
end Go.Am.Ty
