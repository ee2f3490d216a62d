/- Contracts of functions that the law reaches, and plain laws. Conditions: those that each contract states. -/
import Derived.Test.YtecgdmiigdfgdaaGreatK5
set_option linter.unusedSimpArgs false
set_option linter.unusedVariables false
set_option maxHeartbeats 4000000
namespace Go.Am.Ty
open Go.Proofs Go.Rose Go.Rose.Rose
open Enc (enc dec)
theorem wrap_nds {lab : Int} {x : Rose VNode} {t u : Rose Node} : nds (Av lab x t u) = wrapL (nds x) (nds t) (nds u) lab := by
  unfold wrapL Av
  rw [Ho, ndss, ndss, List.append_nil, nds_relabT, Nc x, List.getD_cons_zero]
def OutIn (n : Nat) (v : List VNode) (t : List Node) : Prop := v.length ≤ 1000000 ∧ v.length ≤ n ∧ ∃ x y, v = nds x ∧ t = nds y ∧ CP x y Gu ∧ y.root.kind ≠ 0
noncomputable def Mv (n : Nat) : Con := con3t (fun (v : Sl VNode) (t : Sl Node) (_ : Int) => OutIn n v.l t.l) (fun v t lab => Cn (castR lab (K1 arV v.l 0) (K1 ar t.l 0) Gu))
def InIn (n : Nat) (v : List VNode) (u : List Node) : Prop := v.length ≤ 1000000 ∧ v.length ≤ n ∧ ∃ x w, v = nds x ∧ u = nds w ∧ CP x Gu w ∧ w.root.kind ≠ 0
noncomputable def Nb (n : Nat) : Con := con3t (fun (v : Sl VNode) (u : Sl Node) (_ : Int) => InIn n v.l u.l) (fun v u lab => Cn (castR lab (K1 arV v.l 0) Gu (K1 ar u.l 0)))
theorem k7_sls {t : List Node} {y : Rose Node} (h : At ar t 0 y) : kids7 t = (⟨Mc (y.kids.map M2)⟩, ⟨N3 y.kids⟩) := by rw [Ii h, parts_sls]
theorem atX_some {t z : Rose Node} {s : List UInt8} (h : Hb t s = some z) : atX t s = (⟨Mc [z]⟩, true) := by unfold atX; rw [h]
theorem atX_none {t : Rose Node} {s : List UInt8} (h : Hb t s = none) : atX t s = (⟨[]⟩, false) := by unfold atX; rw [h]
theorem rep_one : List.replicate 1 Gu = [Gu] := rfl
theorem each_is {n : Nat} {lab : Int} {v : List VNode} {x : Rose VNode} {m : VNode} {ks : List (Rose VNode)} {a b : List (Rose Node)} {R : Option (Rose VNode)} (hv : v.length ≤ 1000000) (hn : v.length ≤ n) (hx : Co v x) (hm : x = mk m ks) (ha : a.length = ks.length) (hb : b.length = ks.length)
    (h : ∀ j, j < ks.length → CP (ks.getD j dv) (a.getD j Gu) (b.getD j Gu)) (hR : R = (castRs lab ks a b).map (mk m)) :
    EachIn n v (Mc a) (Mc b) ∧ eachX lab x (trees (Mc a)) (trees (Mc b)) = Cn R := by
  have ta : trees (Mc a) = a := trees_sls fun j hj => by have := (h j (by omega)).py.1.wf; rw [M4 hj] at this; exact this
  have tb : trees (Mc b) = b := trees_sls fun j hj => by have := (h j (by omega)).pw.1.wf; rw [M4 hj] at this; exact this
  subst hm
  refine ⟨⟨hv, hn, mk m ks, a, b, hx.1, hx.2, rfl, rfl, ha, hb, h⟩, ?_⟩
  rw [ta, tb, hR]
  rfl
noncomputable def ctx_out19 (n : Nat) : Ctx := ⟨tab, lkC [(18, Kj), (19, Kn), (34, Kv), (20, Kk), (61, G8), (36, G9), (35, (Gm n))], 60, lkB [], [], false⟩
theorem Fz (n : Nat) : (ctx_out19 n).τ = tab := rfl
theorem Ou (n : Nat) : (ctx_out19 n).Γ = lkC [(18, Kj), (19, Kn), (34, Kv), (20, Kk), (61, G8), (36, G9), (35, (Gm n))] := rfl
theorem F3 (n : Nat) : (ctx_out19 n).dp = 60 := rfl
theorem Ov (n : Nat) : (ctx_out19 n).Δ = lkB [] := rfl
set_option maxRecDepth 100000 in
theorem stepm_out19 (n : Nat) (ih : Gj Tryz.prog (9, Hj n)) : Gj Tryz.prog (32, (Mv n)) := by
  refine ⟨U7 Tryz.func32 (by kernel_rfl) rfl, ?_⟩
  have K : Ky Tryz.prog (ctx_out19 n) := Kd K6 Ki (by
    intro p hp
    simp only [List.mem_cons, List.not_mem_nil, or_false] at hp
    rcases hp with rfl | rfl | rfl | rfl | rfl | rfl | rfl
    · exact Ew
    · exact Io
    · exact Im
    · exact D3
    · exact good_dyns19
    · exact good_at19
    · exact (stepm_each19 n ih)) (by simp)
  obtain ⟨c, hc⟩ : ∃ c, Tryz.f32.body = some c := ⟨_, rfl⟩
  refine Ke K Tryz.func32 hc [.tmp 6, .tmp 7] rfl 62 rfl (fun cvs hpre => ?_)
  change (Mv n).pre cvs at hpre
  unfold Mv at hpre
  obtain ⟨⟨v⟩, ⟨t⟩, lab, rfl, hE⟩ := con3t_pre hpre
  obtain ⟨hv, hn, x, y, hvx, hty, hcp, hy0⟩ : OutIn n v t := hE
  have hx : Co v x := ⟨hvx, hcp.wf⟩
  have hT7 : Bh t := by rw [hty]; exact tree7_pt hcp.py
  have hya : At ar t 0 y := by rw [hty]; exact Ns hcp.py.1.wf
  have hy1 := Gq hya
  have hx1 := hx.tree
  have hxl := hx.at.lt
  have hyl := hya.lt
  have ev := Kf v0 hxl
  have et := Kf n0 hyl
  rw [hx.at.root v0] at ev
  rw [hya.root n0] at et
  have k7 := k7_sls hya
  have hyt := hcp.py.1.len
  have hkl : y.kids.length ≤ 10000 := by
    have h1 := labs_le hya
    rw [Hd, hty] at h1
    omega
  have hvi : VaIn v := ⟨List.length_pos_iff.1 hxl, hv⟩
  have hti : Oa t := ⟨List.length_pos_iff.1 hyl, by rw [hty]; omega⟩
  have hdi : Oa Fx := ⟨by decide, by decide⟩
  obtain ⟨R, hR⟩ : ∃ R, castR lab x y Gu = R := ⟨_, rfl⟩
  obtain ⟨m, ks⟩ := x
  simp only [T1] at ev
  have hwr : R = some (Av lab (mk m ks) y dynFT) → Cn R = (⟨wrapL v t Fx lab⟩, true) := fun h => by rw [h, optX_s, wrap_nds, ← hvx, ← hty, Er]
  have hid : R = some (mk m ks) → Cn R = (⟨v⟩, true) := fun h => by rw [h, optX_s, ← hvx]
  have o5 := out_5 (lab := lab) hcp (w := Gu)
  have o6 := out_6 (lab := lab) hcp (w := Gu)
  have o7 := out_7 (lab := lab) hcp (w := Gu)
  have ob := out_b (lab := lab) hcp (w := Gu)
  rw [hR] at o5 o6 o7 ob
  have hdl : Fx.length ≤ 9223372036854775807 := by decide
  have hDl2 : Eh [n0] [n0] = Fx := rfl
  have htl2 : t.length ≤ 9223372036854775807 := by rw [hty]; omega
  have n1 : (1 : Int).toNat = 1 := rfl
  rw [← hty] at o5
  generalize Fx = dl at *
  clear hpre
  cases t5 : (y.root.kind == 5) with
  | true =>
    have h5 := o5 (by simpa using t5) rfl
    cases hs : Gp t dl with
    | true =>
      rw [hs, cond_true] at h5
      have hr := hid h5
      simp only [Tryz.f32, Option.some.injEq] at hc
      subst hc
      refine Kw 3 (of_decide_eq_true (by kernel_rfl)) ?_
      (sym =>
       simp [L6.eq_def,hx1,hy1,et,t5,hDl2,hs,hR,hr,Uw,Uz,Uy,Ux,szV,Uu,Us,Uv,Ur,szN,Ut,Fz,Ou,F3,Ov,Kj.eq_def,G9.eq_def,Kn.eq_def,G8.eq_def,Gm.eq_def,Mv.eq_def,Kk.eq_def,Kv.eq_def,Zb,Zc,Ze,Zf,Zg,Zn,Zo,Zp,Zq,Zs,Zv,Zx,Zy,Z9,Qb,Qd,Qe,Qf,Qn,Qo,Qp,Qq,Qs,Q1,Q2,Q4,Q8,Jf,Jj,Jk,Jl,Jw,J3,J4,J5,J6,J8,J9,Xb,Xc,Xf,Xn,Xo,Xt,Xu,Xv,Xx,Xy,X4,X6,X7,X8,Wb,Wc,Wf,Wh,Wi,Wj,Wt,Wu,Wv,Ww,Wx,Wy,Wz,W0,W6,W7,W8,Ya,Yb,Ye,Yi,Ym,Yt,Yw,Yx,Yy,Y0,Y1,Y7,Y8,Vb,Vc,Vd,Ve,Vf,Vg,Vh,Vj,Vo,Vs,Vt,Vu,V4,V5,V7,Uk,Um,Un,Uo,Up,Nx,U8,Kq,Kc,U4,Kr,U3,Kb]
       tactic =>
        try simp only [U1] at *
        try simp only [nc2] at *
        try simp (maxSteps := 4000000) only [L6.eq_def,hx1,hy1,et,t5,hDl2,hs,hR,hr,Uw,Uz,Uy,Ux,szV,Uu,Us,Uv,Ur,szN,Ut,U9]
        repeat' (first | with_reducible assumption | with_reducible refine And.intro ?_ ?_ | intro _ | omega | (rw [U0]; omega))
        all_goals first
          | omega
          | skip)
    | false =>
      rw [hs, cond_false] at h5
      have hr := hwr h5
      simp only [Tryz.f32, Option.some.injEq] at hc
      subst hc
      refine Kw 3 (of_decide_eq_true (by kernel_rfl)) ?_
      (sym =>
       simp [L6.eq_def,hx1,hy1,et,t5,hDl2,hs,hR,hr,Uw,Uz,Uy,Ux,szV,Uu,Us,Uv,Ur,szN,Ut,Fz,Ou,F3,Ov,Kj.eq_def,G9.eq_def,Kn.eq_def,G8.eq_def,Gm.eq_def,Mv.eq_def,Kk.eq_def,Kv.eq_def,Zb,Zc,Ze,Zf,Zg,Zn,Zo,Zp,Zq,Zs,Zv,Zx,Zy,Z9,Qb,Qd,Qe,Qf,Qn,Qo,Qp,Qq,Qs,Q1,Q2,Q4,Q8,Jf,Jj,Jk,Jl,Jw,J3,J4,J5,J6,J8,J9,Xb,Xc,Xf,Xn,Xo,Xt,Xu,Xv,Xx,Xy,X3,X4,X6,X7,X8,Wb,Wc,Wf,Wh,Wi,Wj,Wt,Wu,Wv,Ww,Wx,Wy,Wz,W0,W6,W7,W8,Ya,Yb,Ye,Yi,Ym,Yt,Yw,Yx,Yy,Y0,Y1,Y7,Y8,Vb,Vc,Vd,Ve,Vf,Vg,Vh,Vj,Vm,Vo,Vs,Vt,Vu,V4,V5,V7,Uk,Ul,Um,Un,Uo,Up,Nx,U8,Kq,Kc,U4,Kr,U3,Kb]
       tactic =>
        try simp only [U1] at *
        try simp only [nc2] at *
        try simp (maxSteps := 4000000) only [L6.eq_def,hx1,hy1,et,t5,hDl2,hs,hR,hr,Uw,Uz,Uy,Ux,szV,Uu,Us,Uv,Ur,szN,Ut,U9]
        repeat' (first | with_reducible assumption | with_reducible refine And.intro ?_ ?_ | intro _ | omega | (rw [U0]; omega))
        all_goals first
          | (with_reducible refine Kl ?_; kernel_rfl)
          | exact hvi
          | exact hti
          | exact hdi
          | omega
          | skip)
  | false =>
  cases t6 : (y.root.kind == 6) with
  | true =>
    obtain ⟨h1, h2, h3⟩ := o6 (by simpa using t6) rfl
    obtain ⟨e1, e2⟩ := each_is (lab := lab) hv hn hx rfl (by simp [h2]) (by simp [h2]) h3 h1
    have hq : (Mc (y.kids.map M2)).length = y.kids.length := by rw [Lb, List.length_map]
    simp only [Tryz.f32, Option.some.injEq] at hc
    subst hc
    refine Kw 3 (of_decide_eq_true (by kernel_rfl)) ?_
    (sym =>
     simp [Hh.eq_def,K7.eq_def,hx1,hy1,et,t5,t6,k7,hq,e2,hR,Int.toNat_natCast,Uw,Uz,Uy,Ux,szV,Uu,Us,Uv,Ur,szN,Ut,Fz,Ou,F3,Ov,Kj.eq_def,G9.eq_def,Kn.eq_def,G8.eq_def,Gm.eq_def,Mv.eq_def,Kk.eq_def,Kv.eq_def,Zb,Zc,Ze,Zf,Zg,Zn,Zo,Zp,Zq,Zs,Zv,Zx,Zy,Z6,Z8,Z9,Qb,Qd,Qe,Qf,Qg,Qn,Qo,Qp,Qq,Qs,Q1,Q2,Q4,Q8,Q9,Ja,Jf,Jj,Jk,Jl,Jw,J3,J4,J5,J6,J8,J9,Xb,Xc,Xf,Xn,Xo,Xt,Xu,Xv,Xx,Xy,X4,X6,X7,X8,Wb,Wc,Wf,Wh,Wi,Wj,Wt,Wu,Wv,Ww,Wx,Wy,Wz,W0,W6,W7,W8,Ya,Yb,Ye,Yi,Ym,Yt,Yw,Yx,Yy,Y0,Y1,Y6,Y7,Y8,Vb,Vc,Vd,Ve,Vf,Vg,Vh,Vj,Vm,Vo,Vs,Vt,Vu,V4,V5,V7,Uk,Ul,Um,Un,Uo,Up,Nx,U8,Kq,Kc,U4,Kr,U3,Kb]
     tactic =>
      try simp only [U1] at *
      try simp only [nc2] at *
      try simp (maxSteps := 4000000) only [Hh.eq_def,K7.eq_def,hx1,hy1,et,t5,t6,k7,hq,e2,hR,Int.toNat_natCast,Uw,Uz,Uy,Ux,szV,Uu,Us,Uv,Ur,szN,Ut,U9]
      repeat' (first | with_reducible assumption | with_reducible refine And.intro ?_ ?_ | intro _ | omega | (rw [U0]; omega))
      all_goals first
        | (with_reducible refine Kl ?_; kernel_rfl)
        | exact e1
        | exact hT7
        | omega
        | skip)
  | false =>
  cases t7 : (y.root.kind == 7) with
  | true =>
    obtain ⟨z, hz, h1, h2, h3⟩ := o7 (by simpa using t7) rfl
    obtain ⟨e1, e2⟩ := each_is (lab := lab) hv hn hx rfl (a := [z]) (b := [Gu]) (by simp [h2]) (by simp [h2]) h3 h1
    have hat := atX_some hz
    simp only [Tryz.f32, Option.some.injEq] at hc
    subst hc
    refine Kw 3 (of_decide_eq_true (by kernel_rfl)) ?_
    (sym =>
     simp [K7.eq_def,hx1,hy1,ev,et,t5,t6,t7,hat,n1,rep_one,e2,hR,Uw,Uz,Uy,Ux,szV,Uu,Us,Uv,Ur,szN,Ut,Fz,Ou,F3,Ov,Kj.eq_def,G9.eq_def,Kn.eq_def,G8.eq_def,Gm.eq_def,Mv.eq_def,Kk.eq_def,Kv.eq_def,Zb,Zc,Ze,Zf,Zg,Zn,Zo,Zp,Zq,Zs,Zv,Zx,Zy,Z8,Z9,Qb,Qd,Qe,Qf,Qg,Qn,Qo,Qp,Qq,Qs,Q1,Q2,Q4,Q8,Q9,Ja,Jf,Jj,Jk,Jl,Jw,J3,J4,J5,J6,J7,J8,J9,Xa,Xb,Xc,Xf,Xn,Xo,Xt,Xu,Xv,Xx,Xy,X4,X6,X7,X8,Wb,Wc,Wf,Wh,Wi,Wj,Wt,Wu,Wv,Ww,Wx,Wy,Wz,W0,W6,W7,W8,W9,Ya,Yb,Ye,Yi,Ym,Yt,Yu,Yw,Yx,Yy,Y0,Y1,Y7,Y8,Y9,Va,Vb,Vc,Vd,Ve,Vf,Vg,Vh,Vi,Vj,Vm,Vn,Vo,Vs,Vt,Vu,V4,V5,V7,Uk,Ul,Um,Un,Up,Nx,U8,Kq,Kc,U4,Kr,U3,Kb]
     tactic =>
      try simp only [U1] at *
      try simp only [nc2] at *
      try simp (maxSteps := 4000000) only [K7.eq_def,hx1,hy1,ev,et,t5,t6,t7,hat,n1,rep_one,e2,hR,Uw,Uz,Uy,Ux,szV,Uu,Us,Uv,Ur,szN,Ut,U9]
      repeat' (first | with_reducible assumption | with_reducible refine And.intro ?_ ?_ | intro _ | omega | (rw [U0]; omega))
      all_goals first
        | (with_reducible refine Kl ?_; kernel_rfl)
        | exact e1
        | exact hT7
        | omega
        | skip)
  | false =>
    have hr := hid (ob hy0 (by simpa using t5) (by simpa using t6) (by simpa using t7) rfl)
    simp only [Tryz.f32, Option.some.injEq] at hc
    subst hc
    refine Kw 3 (of_decide_eq_true (by kernel_rfl)) ?_
    (sym =>
     simp [hx1,hy1,et,t5,t6,t7,hR,hr,Uw,Uz,Uy,Ux,szV,Uu,Us,Uv,Ur,szN,Ut,Fz,F3,Mv.eq_def,Zb,Zc,Ze,Zf,Zg,Zn,Zo,Zp,Zq,Zs,Zv,Zx,Zy,Qb,Qd,Qn,Qo,Qp,Qq,Qs,Q1,Q2,Q4,Q8,Jk,Jw,J3,J4,J5,J6,J7,J8,J9,Xa,Xb,Xc,Xf,Xn,Xo,Xy,X3,X4,X6,X7,X8,Wb,Wc,Wf,Wh,Wi,Wj,Wt,Wu,Wv,Ww,Wy,W0,W6,W7,W8,Ya,Yb,Ye,Yi,Ym,Yt,Yw,Yx,Yy,Y0,Y1,Y7,Y8,Y9,Va,Vb,Vc,Vd,Ve,Vf,Vg,Vh,Vj,Vs,Vt,Vu,V4,V5,V7,Ul,Um,Un,Up,Nx,U8,Kq,Kc,U4,Kr,U3,Kb]
     tactic =>
      try simp only [U1] at *
      try simp only [nc2] at *
      try simp (maxSteps := 4000000) only [hx1,hy1,et,t5,t6,t7,hR,hr,Uw,Uz,Uy,Ux,szV,Uu,Us,Uv,Ur,szN,Ut,U9]
      repeat' (first | with_reducible assumption | with_reducible refine And.intro ?_ ?_ | intro _ | omega | (rw [U0]; omega))
      all_goals first
        | omega
        | skip)
end Go.Am.Ty
set_option linter.unusedSimpArgs false
set_option linter.unusedVariables false
set_option maxHeartbeats 4000000
namespace Go.Am.Ty
open Go.Proofs Go.Rose Go.Rose.Rose
open Enc (enc dec)
noncomputable def ctx_in19 (n : Nat) : Ctx := ⟨tab, lkC [(18, Kj), (19, Kn), (34, Kv), (20, Kk), (21, Kt), (61, G8), (36, G9), (16, Ge), (35, (Gm n))], 60, lkB [], [], false⟩
theorem Mq (n : Nat) : (ctx_in19 n).τ = tab := rfl
theorem Pa (n : Nat) : (ctx_in19 n).Γ = lkC [(18, Kj), (19, Kn), (34, Kv), (20, Kk), (21, Kt), (61, G8), (36, G9), (16, Ge), (35, (Gm n))] := rfl
theorem Mr (n : Nat) : (ctx_in19 n).dp = 60 := rfl
theorem Pb (n : Nat) : (ctx_in19 n).Δ = lkB [] := rfl
set_option maxRecDepth 100000 in
theorem stepm_in19 (n : Nat) (ih : Gj Tryz.prog (9, Hj n)) : Gj Tryz.prog (33, (Nb n)) := by
  refine ⟨U7 Tryz.func33 (by kernel_rfl) rfl, ?_⟩
  have K : Ky Tryz.prog (ctx_in19 n) := Kd K6 Ki (by
    intro p hp
    simp only [List.mem_cons, List.not_mem_nil, or_false] at hp
    rcases hp with rfl | rfl | rfl | rfl | rfl | rfl | rfl | rfl | rfl
    · exact Ew
    · exact Io
    · exact Im
    · exact D3
    · exact good_labels19
    · exact good_dyns19
    · exact good_at19
    · exact good_base19
    · exact (stepm_each19 n ih)) (by simp)
  obtain ⟨c, hc⟩ : ∃ c, Tryz.f33.body = some c := ⟨_, rfl⟩
  refine Ke K Tryz.func33 hc [.tmp 6, .tmp 7] rfl 106 rfl (fun cvs hpre => ?_)
  change (Nb n).pre cvs at hpre
  unfold Nb at hpre
  obtain ⟨⟨v⟩, ⟨t⟩, lab, rfl, hE⟩ := con3t_pre hpre
  obtain ⟨hv, hn, x, y, hvx, hty, hcp, hy0⟩ : InIn n v t := hE
  have hx : Co v x := ⟨hvx, hcp.wf⟩
  have hT7 : Bh t := by rw [hty]; exact tree7_pt hcp.pw
  have hya : At ar t 0 y := by rw [hty]; exact Ns hcp.pw.1.wf
  have hy1 := Gq hya
  have hx1 := hx.tree
  have hxl := hx.at.lt
  have hyl := hya.lt
  have ev := Kf v0 hxl
  have et := Kf n0 hyl
  rw [hx.at.root v0] at ev
  rw [hya.root n0] at et
  have k7 := k7_sls hya
  have hyt := hcp.pw.1.len
  have hkl : y.kids.length ≤ 10000 := by
    have h1 := labs_le hya
    rw [Hd, hty] at h1
    omega
  have hvi : VaIn v := ⟨List.length_pos_iff.1 hxl, hv⟩
  have hti : Oa t := ⟨List.length_pos_iff.1 hyl, by rw [hty]; omega⟩
  have hdi : Oa Fx := ⟨by decide, by decide⟩
  have hxo : ∃ x, Co v x := ⟨_, hx⟩
  obtain ⟨R, hR⟩ : ∃ R, castR lab x Gu y = R := ⟨_, rfl⟩
  obtain ⟨m, ks⟩ := x
  simp only [T1] at ev
  have hrv : L7 v = m := hx.at.root v0
  have hwr : R = some (Av lab (mk m ks) dynFT y) → Cn R = (⟨wrapL v Fx t lab⟩, true) := fun h => by rw [h, optX_s, wrap_nds, ← hvx, ← hty, Er]
  have hid : R = some (mk m ks) → Cn R = (⟨v⟩, true) := fun h => by rw [h, optX_s, ← hvx]
  have hno : R = none → Cn R = (⟨[]⟩, false) := fun h => by rw [h, optX_n]
  have o5 := in_5 (lab := lab) hcp
  have o6 := in_6 (lab := lab) hcp
  have o7n := in_7n (lab := lab) hcp
  have o7 := @in_7 lab m ks Gu y
  have ob := in_b (lab := lab) hcp
  rw [hR] at o5 o6 o7n ob
  simp only [hR] at o7
  have hdl : Fx.length ≤ 9223372036854775807 := by decide
  have hDl2 : Eh [n0] [n0] = Fx := rfl
  have htl2 : t.length ≤ 9223372036854775807 := by rw [hty]; omega
  have n1 : (1 : Int).toNat = 1 := rfl
  rw [← hty] at o5
  generalize Fx = dl at *
  clear hpre
  cases t5 : (y.root.kind == 5) with
  | true =>
    have h5 := o5 (by simpa using t5) rfl
    cases hf : H4 m with
    | false =>
      rw [hf, cond_false] at h5
      have hr := hno h5
      obtain ⟨f6, f7⟩ := notFun hf
      have g6 : (m.kind != 6) = true := by rw [bne, f6]; rfl
      have g7 : (m.kind != 7) = true := by rw [bne, f7]; rfl
      simp only [Tryz.f33, Option.some.injEq] at hc
      subst hc
      refine Kw 6 (of_decide_eq_true (by kernel_rfl)) ?_
      (sym =>
       simp [hx1,hy1,ev,et,t5,g6,g7,hR,hr,Uw,Uz,Uy,Ux,szV,Uu,Us,Uv,Ur,szN,Ut,Mq,Mr,Nb.eq_def,Zb,Zc,Zd,Ze,Zf,Zg,Zn,Zo,Zp,Zq,Zs,Zt,Zv,Zx,Zy,Qb,Qd,Qn,Qo,Qp,Qq,Qs,Q1,Q2,Q4,Q8,Jk,Jw,J3,J4,J5,J6,J8,J9,Xb,Xc,Xf,Xg,Xn,Xo,Xy,X4,X6,X7,X8,Wb,Wc,Wf,Wh,Wi,Wj,Wt,Wu,Wv,Ww,Wy,W0,W6,W7,W8,W9,Ya,Yb,Ye,Yi,Ym,Yt,Yw,Yx,Yy,Y0,Y1,Y7,Y8,Vb,Vc,Vd,Ve,Vf,Vg,Vh,Vj,Vs,Vt,Vu,V4,V5,V7,Uk,Um,Un,Up,Nx,U8,Ku,Kq,Kc,U4,Kr,U3,Kb]
       tactic =>
        try simp only [U1] at *
        try simp only [nc2] at *
        try simp (maxSteps := 4000000) only [hx1,hy1,ev,et,t5,g6,g7,hR,hr,Uw,Uz,Uy,Ux,szV,Uu,Us,Uv,Ur,szN,Ut,U9]
        repeat' (first | with_reducible assumption | with_reducible refine And.intro ?_ ?_ | intro _ | omega | (rw [U0]; omega))
        all_goals first
          | (with_reducible refine Kl ?_; kernel_rfl)
          | omega
          | skip)
    | true =>
      rw [hf, cond_true] at h5
      have gg : ((m.kind != 6) = false) ∨ ((m.kind != 6) = true ∧ (m.kind != 7) = false) := by
        rcases fun_kind hf with h | h
        · exact .inl (by simp [h])
        · exact .inr ⟨by simp [h], by simp [h]⟩
      cases hs : Gp t dl with
      | true =>
        rw [hs, cond_true] at h5
        have hr := hid h5
        simp only [Tryz.f33, Option.some.injEq] at hc
        subst hc
        refine Kw 6 (of_decide_eq_true (by kernel_rfl)) ?_
        rcases gg with g6 | ⟨g6, g7⟩
        · (sym =>
           simp [L6.eq_def,hx1,hy1,ev,et,t5,g6,hDl2,hs,hR,hr,Uw,Uz,Uy,Ux,szV,Uu,Us,Uv,Ur,szN,Ut,Mq,Pa,Mr,Pb,Kj.eq_def,G9.eq_def,Ge.eq_def,Kn.eq_def,G8.eq_def,Gm.eq_def,Nb.eq_def,Kt.eq_def,Kk.eq_def,Kv.eq_def,Zb,Zc,Zd,Ze,Zf,Zg,Zn,Zo,Zp,Zq,Zs,Zt,Zv,Zx,Zy,Z9,Qb,Qd,Qe,Qf,Qn,Qo,Qp,Qq,Qs,Q1,Q2,Q4,Q8,Jf,Jj,Jk,Jl,Jw,J3,J4,J5,J6,J8,J9,Xb,Xc,Xf,Xn,Xo,Xt,Xu,Xv,Xx,Xy,X3,X4,X6,X7,X8,Wb,Wc,Wf,Wh,Wi,Wj,Wt,Wu,Wv,Ww,Wx,Wy,Wz,W0,W6,W7,W8,W9,Ya,Yb,Ye,Yi,Ym,Yt,Yw,Yx,Yy,Y0,Y1,Y7,Y8,Vb,Vc,Vd,Ve,Vf,Vg,Vh,Vj,Vo,Vs,Vt,Vu,V4,V5,V7,Uk,Ul,Um,Un,Uo,Up,Nx,U8,Ku,Kq,Kc,U4,Kr,U3,Kb]
           tactic =>
            try simp only [U1] at *
            try simp only [nc2] at *
            try simp (maxSteps := 4000000) only [L6.eq_def,hx1,hy1,ev,et,t5,g6,hDl2,hs,hR,hr,Uw,Uz,Uy,Ux,szV,Uu,Us,Uv,Ur,szN,Ut,U9]
            repeat' (first | with_reducible assumption | with_reducible refine And.intro ?_ ?_ | intro _ | omega | (rw [U0]; omega))
            all_goals first
              | (with_reducible refine Kl ?_; kernel_rfl)
              | omega
              | skip)
        · (sym =>
           simp [L6.eq_def,hx1,hy1,ev,et,t5,g6,g7,hDl2,hs,hR,hr,Uw,Uz,Uy,Ux,szV,Uu,Us,Uv,Ur,szN,Ut,Mq,Pa,Mr,Pb,Kj.eq_def,G9.eq_def,Ge.eq_def,Kn.eq_def,G8.eq_def,Gm.eq_def,Nb.eq_def,Kt.eq_def,Kk.eq_def,Kv.eq_def,Zb,Zc,Zd,Ze,Zf,Zg,Zn,Zo,Zp,Zq,Zs,Zt,Zv,Zx,Zy,Z9,Qb,Qd,Qe,Qf,Qn,Qo,Qp,Qq,Qs,Q1,Q2,Q4,Q8,Jf,Jj,Jk,Jl,Jw,J3,J4,J5,J6,J8,J9,Xb,Xc,Xf,Xn,Xo,Xt,Xu,Xv,Xx,Xy,X3,X4,X6,X7,X8,Wb,Wc,Wf,Wh,Wi,Wj,Wt,Wu,Wv,Ww,Wx,Wy,Wz,W0,W6,W7,W8,W9,Ya,Yb,Ye,Yi,Ym,Yt,Yw,Yx,Yy,Y0,Y1,Y7,Y8,Vb,Vc,Vd,Ve,Vf,Vg,Vh,Vj,Vo,Vs,Vt,Vu,V4,V5,V7,Uk,Ul,Um,Un,Uo,Up,Nx,U8,Ku,Kq,Kc,U4,Kr,U3,Kb]
           tactic =>
            try simp only [U1] at *
            try simp only [nc2] at *
            try simp (maxSteps := 4000000) only [L6.eq_def,hx1,hy1,ev,et,t5,g6,g7,hDl2,hs,hR,hr,Uw,Uz,Uy,Ux,szV,Uu,Us,Uv,Ur,szN,Ut,U9]
            repeat' (first | with_reducible assumption | with_reducible refine And.intro ?_ ?_ | intro _ | omega | (rw [U0]; omega))
            all_goals first
              | (with_reducible refine Kl ?_; kernel_rfl)
              | omega
              | skip)
      | false =>
        rw [hs, cond_false] at h5
        have hr := hwr h5
        simp only [Tryz.f33, Option.some.injEq] at hc
        subst hc
        refine Kw 6 (of_decide_eq_true (by kernel_rfl)) ?_
        rcases gg with g6 | ⟨g6, g7⟩
        · (sym =>
           simp [L6.eq_def,hx1,hy1,ev,et,t5,g6,hDl2,hs,hR,hr,Uw,Uz,Uy,Ux,szV,Uu,Us,Uv,Ur,szN,Ut,Mq,Pa,Mr,Pb,Kj.eq_def,G9.eq_def,Ge.eq_def,Kn.eq_def,G8.eq_def,Gm.eq_def,Nb.eq_def,Kt.eq_def,Kk.eq_def,Kv.eq_def,Zb,Zc,Zd,Ze,Zf,Zg,Zn,Zo,Zp,Zq,Zs,Zt,Zv,Zx,Zy,Z9,Qb,Qd,Qe,Qf,Qn,Qo,Qp,Qq,Qs,Q1,Q2,Q4,Q8,Jf,Jj,Jk,Jl,Jw,J3,J4,J5,J6,J8,J9,Xb,Xc,Xf,Xn,Xo,Xt,Xu,Xv,Xx,Xy,X3,X4,X6,X7,X8,Wb,Wc,Wf,Wh,Wi,Wj,Wt,Wu,Wv,Ww,Wx,Wy,Wz,W0,W6,W7,W8,W9,Ya,Yb,Ye,Yi,Ym,Yt,Yw,Yx,Yy,Y0,Y1,Y7,Y8,Vb,Vc,Vd,Ve,Vf,Vg,Vh,Vj,Vm,Vo,Vs,Vt,Vu,V4,V5,V7,Uk,Ul,Um,Un,Uo,Up,Nx,U8,Ku,Kq,Kc,U4,Kr,U3,Kb]
           tactic =>
            try simp only [U1] at *
            try simp only [nc2] at *
            try simp (maxSteps := 4000000) only [L6.eq_def,hx1,hy1,ev,et,t5,g6,hDl2,hs,hR,hr,Uw,Uz,Uy,Ux,szV,Uu,Us,Uv,Ur,szN,Ut,U9]
            repeat' (first | with_reducible assumption | with_reducible refine And.intro ?_ ?_ | intro _ | omega | (rw [U0]; omega))
            all_goals first
              | (with_reducible refine Kl ?_; kernel_rfl)
              | exact hvi
              | exact hti
              | exact hdi
              | omega
              | skip)
        · (sym =>
           simp [L6.eq_def,hx1,hy1,ev,et,t5,g6,g7,hDl2,hs,hR,hr,Uw,Uz,Uy,Ux,szV,Uu,Us,Uv,Ur,szN,Ut,Mq,Pa,Mr,Pb,Kj.eq_def,G9.eq_def,Ge.eq_def,Kn.eq_def,G8.eq_def,Gm.eq_def,Nb.eq_def,Kt.eq_def,Kk.eq_def,Kv.eq_def,Zb,Zc,Zd,Ze,Zf,Zg,Zn,Zo,Zp,Zq,Zs,Zt,Zv,Zx,Zy,Z9,Qb,Qd,Qe,Qf,Qn,Qo,Qp,Qq,Qs,Q1,Q2,Q4,Q8,Jf,Jj,Jk,Jl,Jw,J3,J4,J5,J6,J8,J9,Xb,Xc,Xf,Xn,Xo,Xt,Xu,Xv,Xx,Xy,X3,X4,X6,X7,X8,Wb,Wc,Wf,Wh,Wi,Wj,Wt,Wu,Wv,Ww,Wx,Wy,Wz,W0,W6,W7,W8,W9,Ya,Yb,Ye,Yi,Ym,Yt,Yw,Yx,Yy,Y0,Y1,Y7,Y8,Vb,Vc,Vd,Ve,Vf,Vg,Vh,Vj,Vm,Vo,Vs,Vt,Vu,V4,V5,V7,Uk,Ul,Um,Un,Uo,Up,Nx,U8,Ku,Kq,Kc,U4,Kr,U3,Kb]
           tactic =>
            try simp only [U1] at *
            try simp only [nc2] at *
            try simp (maxSteps := 4000000) only [L6.eq_def,hx1,hy1,ev,et,t5,g6,g7,hDl2,hs,hR,hr,Uw,Uz,Uy,Ux,szV,Uu,Us,Uv,Ur,szN,Ut,U9]
            repeat' (first | with_reducible assumption | with_reducible refine And.intro ?_ ?_ | intro _ | omega | (rw [U0]; omega))
            all_goals first
              | (with_reducible refine Kl ?_; kernel_rfl)
              | exact hvi
              | exact hti
              | exact hdi
              | omega
              | skip)
  | false =>
  cases t6 : (y.root.kind == 6) with
  | true =>
    obtain ⟨p1, p2⟩ := o6 (by simpa using t6) rfl
    have hq : (Mc (y.kids.map M2)).length = y.kids.length := by rw [Lb, List.length_map]
    have hlen : (N3 y.kids).length ≤ 9223372036854775807 := by rw [Hd]; omega
    cases hl : (m.kind == 4 && Le ks == N3 y.kids) with
    | false =>
      have hr := hno (p1 hl)
      simp only [Tryz.f33, Option.some.injEq] at hc
      subst hc
      refine Kw 6 (of_decide_eq_true (by kernel_rfl)) ?_
      (sym =>
       simp [Hh.eq_def,K7.eq_def,hx1,hy1,et,t5,t6,k7,hrv,Rr,hl,hR,hr,Uw,Uz,Uy,Ux,szV,Uu,Us,Uv,Ur,szN,Ut,Mq,Pa,Mr,Pb,Kj.eq_def,G9.eq_def,Ge.eq_def,Kn.eq_def,G8.eq_def,Gm.eq_def,Nb.eq_def,Kt.eq_def,Kk.eq_def,Kv.eq_def,Zb,Zc,Ze,Zf,Zg,Zn,Zo,Zp,Zq,Zs,Zv,Zx,Zy,Z8,Z9,Qb,Qc,Qd,Qe,Qf,Qg,Qn,Qo,Qp,Qq,Qs,Q1,Q2,Q4,Q8,Q9,Ja,Jf,Jj,Jk,Jl,Jw,J3,J4,J5,J6,J8,J9,Xb,Xc,Xf,Xg,Xn,Xo,Xt,Xu,Xv,Xx,Xy,X4,X6,X7,X8,Wb,Wc,Wf,Wh,Wi,Wj,Wt,Wu,Wv,Ww,Wx,Wy,Wz,W0,W6,W7,W8,Ya,Yb,Ye,Yf,Yi,Yj,Ym,Yt,Yw,Yx,Yy,Y0,Y1,Y7,Y8,Vb,Vc,Vd,Ve,Vf,Vg,Vh,Vj,Vo,Vq,Vs,Vt,Vu,V4,V5,V7,Uk,Ul,Um,Un,Uo,Up,Nx,U8,Ku,Kq,Kc,U4,Kr,U3,Kb]
       tactic =>
        try simp only [U1] at *
        try simp only [nc2] at *
        try simp (maxSteps := 4000000) only [Hh.eq_def,K7.eq_def,hx1,hy1,et,t5,t6,k7,hrv,Rr,hl,hR,hr,Uw,Uz,Uy,Ux,szV,Uu,Us,Uv,Ur,szN,Ut,U9]
        repeat' (first | with_reducible assumption | with_reducible refine And.intro ?_ ?_ | intro _ | omega | (rw [U0]; omega))
        all_goals first
          | (with_reducible refine Kl ?_; kernel_rfl)
          | exact hT7
          | exact hxo
          | omega
          | skip)
    | true =>
      obtain ⟨h1, h2, h3⟩ := p2 hl
      obtain ⟨e1, e2⟩ := each_is (lab := lab) hv hn hx rfl (by simp [h2]) (by simp [h2]) h3 h1
      simp only [Tryz.f33, Option.some.injEq] at hc
      subst hc
      refine Kw 6 (of_decide_eq_true (by kernel_rfl)) ?_
      (sym =>
       simp [Hh.eq_def,K7.eq_def,hx1,hy1,et,t5,t6,k7,hq,hrv,Rr,hl,e2,hR,Int.toNat_natCast,Uw,Uz,Uy,Ux,szV,Uu,Us,Uv,Ur,szN,Ut,Mq,Pa,Mr,Pb,Kj.eq_def,G9.eq_def,Ge.eq_def,Kn.eq_def,G8.eq_def,Gm.eq_def,Nb.eq_def,Kt.eq_def,Kk.eq_def,Kv.eq_def,Zb,Zc,Ze,Zf,Zg,Zn,Zo,Zp,Zq,Zs,Zv,Zx,Zy,Z6,Z8,Z9,Qb,Qc,Qd,Qe,Qf,Qg,Qn,Qo,Qp,Qq,Qs,Q1,Q2,Q4,Q8,Q9,Ja,Jf,Jj,Jk,Jl,Jw,J3,J4,J5,J6,J8,J9,Xb,Xc,Xf,Xn,Xo,Xt,Xu,Xv,Xx,Xy,X3,X4,X6,X7,X8,Wb,Wc,Wf,Wh,Wi,Wj,Wt,Wu,Wv,Ww,Wx,Wy,Wz,W0,W6,W7,W8,Ya,Yb,Ye,Yf,Yi,Yj,Ym,Yt,Yw,Yx,Yy,Y0,Y1,Y6,Y7,Y8,Vb,Vc,Vd,Ve,Vf,Vg,Vh,Vj,Vm,Vo,Vp,Vs,Vt,Vu,V4,V5,V7,Uk,Ul,Um,Un,Uo,Up,Nx,U8,Ku,Kq,Kc,U4,Kr,U3,Kb]
       tactic =>
        try simp only [U1] at *
        try simp only [nc2] at *
        try simp (maxSteps := 4000000) only [Hh.eq_def,K7.eq_def,hx1,hy1,et,t5,t6,k7,hq,hrv,Rr,hl,e2,hR,Int.toNat_natCast,Uw,Uz,Uy,Ux,szV,Uu,Us,Uv,Ur,szN,Ut,U9]
        repeat' (first | with_reducible assumption | with_reducible refine And.intro ?_ ?_ | intro _ | omega | (rw [U0]; omega))
        all_goals first
          | (with_reducible refine Kl ?_; kernel_rfl)
          | exact e1
          | exact hT7
          | exact hxo
          | omega
          | skip)
  | false =>
  cases t7 : (y.root.kind == 7) with
  | true =>
    have t7' : y.root.kind = 7 := by simpa using t7
    cases hz : Hb y m.name with
    | none =>
      have hat := atX_none hz
      have hr := hno (o7n t7' rfl fun _ => hz)
      cases g5 : (m.kind != 5) with
      | true =>
        simp only [Tryz.f33, Option.some.injEq] at hc
        subst hc
        refine Kw 6 (of_decide_eq_true (by kernel_rfl)) ?_
        (sym =>
         simp [K7.eq_def,hx1,hy1,ev,et,t5,t6,t7,hat,g5,hR,hr,Uw,Uz,Uy,Ux,szV,Uu,Us,Uv,Ur,szN,Ut,Mq,Pa,Mr,Pb,Kj.eq_def,G9.eq_def,Ge.eq_def,Kn.eq_def,G8.eq_def,Gm.eq_def,Nb.eq_def,Kt.eq_def,Kk.eq_def,Kv.eq_def,Zb,Zc,Zd,Ze,Zf,Zg,Zn,Zo,Zp,Zq,Zs,Zt,Zv,Zx,Zy,Z8,Z9,Qb,Qd,Qe,Qf,Qg,Qn,Qo,Qp,Qq,Qs,Q1,Q2,Q4,Q8,Q9,Ja,Jf,Jj,Jk,Jl,Jw,J3,J4,J5,J6,J8,J9,Xb,Xc,Xf,Xg,Xn,Xo,Xt,Xu,Xv,Xx,Xy,X4,X6,X7,X8,Wb,Wc,Wf,Wh,Wi,Wj,Wt,Wu,Wv,Ww,Wx,Wy,Wz,W0,W6,W7,W8,W9,Ya,Yb,Ye,Yi,Ym,Yt,Yu,Yw,Yx,Yy,Y0,Y1,Y7,Y8,Vb,Vc,Vd,Ve,Vf,Vg,Vh,Vi,Vj,Vn,Vo,Vs,Vt,Vu,V4,V5,V7,Uk,Ul,Um,Un,Up,Nx,U8,Ku,Kq,Kc,U4,Kr,U3,Kb]
         tactic =>
          try simp only [U1] at *
          try simp only [nc2] at *
          try simp (maxSteps := 4000000) only [K7.eq_def,hx1,hy1,ev,et,t5,t6,t7,hat,g5,hR,hr,Uw,Uz,Uy,Ux,szV,Uu,Us,Uv,Ur,szN,Ut,U9]
          repeat' (first | with_reducible assumption | with_reducible refine And.intro ?_ ?_ | intro _ | omega | (rw [U0]; omega))
          all_goals first
            | (with_reducible refine Kl ?_; kernel_rfl)
            | exact hT7
            | omega
            | skip)
      | false =>
        simp only [Tryz.f33, Option.some.injEq] at hc
        subst hc
        refine Kw 6 (of_decide_eq_true (by kernel_rfl)) ?_
        (sym =>
         simp [K7.eq_def,hx1,hy1,ev,et,t5,t6,t7,hat,g5,hR,hr,Uw,Uz,Uy,Ux,szV,Uu,Us,Uv,Ur,szN,Ut,Mq,Pa,Mr,Pb,Kj.eq_def,G9.eq_def,Ge.eq_def,Kn.eq_def,G8.eq_def,Gm.eq_def,Nb.eq_def,Kt.eq_def,Kk.eq_def,Kv.eq_def,Zb,Zc,Zd,Ze,Zf,Zg,Zn,Zo,Zp,Zq,Zs,Zt,Zv,Zx,Zy,Z8,Z9,Qb,Qc,Qd,Qe,Qf,Qg,Qn,Qo,Qp,Qq,Qs,Q1,Q2,Q4,Q8,Q9,Ja,Jf,Jj,Jk,Jl,Jw,J3,J4,J5,J6,J8,J9,Xb,Xc,Xf,Xg,Xn,Xo,Xt,Xu,Xv,Xx,Xy,X4,X6,X7,X8,Wb,Wc,Wf,Wh,Wi,Wj,Wt,Wu,Wv,Ww,Wx,Wy,Wz,W0,W6,W7,W8,W9,Ya,Yb,Ye,Yf,Yi,Yj,Ym,Yt,Yu,Yw,Yx,Yy,Y0,Y1,Y7,Y8,Vb,Vc,Vd,Ve,Vf,Vg,Vh,Vi,Vj,Vn,Vo,Vq,Vs,Vt,Vu,V4,V5,V7,Uk,Ul,Um,Un,Up,Nx,U8,Ku,Kq,Kc,U4,Kr,U3,Kb]
         tactic =>
          try simp only [U1] at *
          try simp only [nc2] at *
          try simp (maxSteps := 4000000) only [K7.eq_def,hx1,hy1,ev,et,t5,t6,t7,hat,g5,hR,hr,Uw,Uz,Uy,Ux,szV,Uu,Us,Uv,Ur,szN,Ut,U9]
          repeat' (first | with_reducible assumption | with_reducible refine And.intro ?_ ?_ | intro _ | omega | (rw [U0]; omega))
          all_goals first
            | (with_reducible refine Kl ?_; kernel_rfl)
            | exact hT7
            | omega
            | skip)
    | some z =>
      have hat := atX_some hz
      cases g5 : (m.kind != 5) with
      | true =>
        have hr := hno (o7n t7' rfl fun h => by rw [h] at g5; cases g5)
        simp only [Tryz.f33, Option.some.injEq] at hc
        subst hc
        refine Kw 6 (of_decide_eq_true (by kernel_rfl)) ?_
        (sym =>
         simp [K7.eq_def,hx1,hy1,ev,et,t5,t6,t7,hat,g5,hR,hr,Uw,Uz,Uy,Ux,szV,Uu,Us,Uv,Ur,szN,Ut,Mq,Pa,Mr,Pb,Kj.eq_def,G9.eq_def,Ge.eq_def,Kn.eq_def,G8.eq_def,Gm.eq_def,Nb.eq_def,Kt.eq_def,Kk.eq_def,Kv.eq_def,Zb,Zc,Zd,Ze,Zf,Zg,Zn,Zo,Zp,Zq,Zs,Zt,Zv,Zx,Zy,Z8,Z9,Qb,Qd,Qe,Qf,Qg,Qn,Qo,Qp,Qq,Qs,Q1,Q2,Q4,Q8,Q9,Ja,Jf,Jj,Jk,Jl,Jw,J3,J4,J5,J6,J8,J9,Xb,Xc,Xf,Xg,Xn,Xo,Xt,Xu,Xv,Xx,Xy,X4,X6,X7,X8,Wb,Wc,Wf,Wh,Wi,Wj,Wt,Wu,Wv,Ww,Wx,Wy,Wz,W0,W6,W7,W8,W9,Ya,Yb,Ye,Yi,Ym,Yt,Yu,Yw,Yx,Yy,Y0,Y1,Y7,Y8,Vb,Vc,Vd,Ve,Vf,Vg,Vh,Vi,Vj,Vn,Vo,Vs,Vt,Vu,V4,V5,V7,Uk,Ul,Um,Un,Up,Nx,U8,Ku,Kq,Kc,U4,Kr,U3,Kb]
         tactic =>
          try simp only [U1] at *
          try simp only [nc2] at *
          try simp (maxSteps := 4000000) only [K7.eq_def,hx1,hy1,ev,et,t5,t6,t7,hat,g5,hR,hr,Uw,Uz,Uy,Ux,szV,Uu,Us,Uv,Ur,szN,Ut,U9]
          repeat' (first | with_reducible assumption | with_reducible refine And.intro ?_ ?_ | intro _ | omega | (rw [U0]; omega))
          all_goals first
            | (with_reducible refine Kl ?_; kernel_rfl)
            | exact hT7
            | omega
            | skip)
      | false =>
        obtain ⟨h1, h2, h3⟩ := o7 hcp t7' rfl (by simpa using g5) hz
        obtain ⟨e1, e2⟩ := each_is (lab := lab) hv hn hx rfl (a := [Gu]) (b := [z]) (by simp [h2]) (by simp [h2]) h3 h1
        simp only [Tryz.f33, Option.some.injEq] at hc
        subst hc
        refine Kw 6 (of_decide_eq_true (by kernel_rfl)) ?_
        (sym =>
         simp [K7.eq_def,hx1,hy1,ev,et,t5,t6,t7,hat,g5,n1,rep_one,e2,hR,Uw,Uz,Uy,Ux,szV,Uu,Us,Uv,Ur,szN,Ut,Mq,Pa,Mr,Pb,Kj.eq_def,G9.eq_def,Ge.eq_def,Kn.eq_def,G8.eq_def,Gm.eq_def,Nb.eq_def,Kt.eq_def,Kk.eq_def,Kv.eq_def,Zb,Zc,Zd,Ze,Zf,Zg,Zn,Zo,Zp,Zq,Zs,Zt,Zv,Zx,Zy,Z8,Z9,Qb,Qc,Qd,Qe,Qf,Qg,Qn,Qo,Qp,Qq,Qs,Q1,Q2,Q4,Q8,Q9,Ja,Jf,Jj,Jk,Jl,Jw,J3,J4,J5,J6,J8,J9,Xb,Xc,Xf,Xn,Xo,Xt,Xu,Xv,Xx,Xy,X3,X4,X6,X7,X8,Wb,Wc,Wf,Wh,Wi,Wj,Wt,Wu,Wv,Ww,Wx,Wy,Wz,W0,W6,W7,W8,W9,Ya,Yb,Ye,Yf,Yi,Yj,Ym,Yt,Yu,Yw,Yx,Yy,Y0,Y1,Y7,Y8,Vb,Vc,Vd,Ve,Vf,Vg,Vh,Vi,Vj,Vm,Vn,Vo,Vp,Vs,Vt,Vu,V4,V5,V7,Uk,Ul,Um,Un,Up,Nx,U8,Ku,Kq,Kc,U4,Kr,U3,Kb]
         tactic =>
          try simp only [U1] at *
          try simp only [nc2] at *
          try simp (maxSteps := 4000000) only [K7.eq_def,hx1,hy1,ev,et,t5,t6,t7,hat,g5,n1,rep_one,e2,hR,Uw,Uz,Uy,Ux,szV,Uu,Us,Uv,Ur,szN,Ut,U9]
          repeat' (first | with_reducible assumption | with_reducible refine And.intro ?_ ?_ | intro _ | omega | (rw [U0]; omega))
          all_goals first
            | (with_reducible refine Kl ?_; kernel_rfl)
            | exact e1
            | exact hT7
            | omega
            | skip)
  | false =>
    have hb := ob hy0 (by simpa using t5) (by simpa using t6) (by simpa using t7) rfl
    cases bo : baseOk m with
    | false =>
      rw [bo, Bool.false_and, cond_false] at hb
      have hr := hno hb
      simp only [Tryz.f33, Option.some.injEq] at hc
      subst hc
      refine Kw 6 (of_decide_eq_true (by kernel_rfl)) ?_
      (sym =>
       simp [Hh.eq_def,hx1,hy1,ev,et,t5,t6,t7,bo,hR,hr,Uw,Uz,Uy,Ux,szV,Uu,Us,Uv,Ur,szN,Ut,Mq,Pa,Mr,Pb,Kj.eq_def,G9.eq_def,Ge.eq_def,Kn.eq_def,G8.eq_def,Gm.eq_def,Nb.eq_def,Kt.eq_def,Kk.eq_def,Kv.eq_def,Zb,Zc,Zd,Ze,Zf,Zg,Zn,Zo,Zp,Zq,Zs,Zt,Zv,Zx,Zy,Z8,Z9,Qb,Qc,Qd,Qe,Qf,Qg,Qn,Qo,Qp,Qq,Qs,Q1,Q2,Q4,Q8,Q9,Ja,Jf,Jj,Jk,Jl,Jw,J3,J4,J5,J6,J7,J8,J9,Xa,Xb,Xc,Xf,Xg,Xn,Xo,Xp,Xt,Xu,Xv,Xx,Xy,X3,X4,X6,X7,X8,Wb,Wc,Wf,Wh,Wi,Wj,Wt,Wu,Wv,Ww,Wx,Wy,Wz,W0,W6,W7,W8,W9,Ya,Yb,Ye,Yf,Yi,Yj,Ym,Yt,Yw,Yx,Yy,Y0,Y1,Y7,Y8,Y9,Va,Vb,Vc,Vd,Ve,Vf,Vg,Vh,Vj,Vq,Vs,Vt,Vu,V4,V5,V7,Uk,Ul,Um,Un,Up,Nx,U8,Ku,Kq,Kc,U4,Kr,U3,Kb]
       tactic =>
        try simp only [U1] at *
        try simp only [nc2] at *
        try simp (maxSteps := 4000000) only [Hh.eq_def,hx1,hy1,ev,et,t5,t6,t7,bo,hR,hr,Uw,Uz,Uy,Ux,szV,Uu,Us,Uv,Ur,szN,Ut,U9]
        repeat' (first | with_reducible assumption | with_reducible refine And.intro ?_ ?_ | intro _ | omega | (rw [U0]; omega))
        all_goals first
          | (with_reducible refine Kl ?_; kernel_rfl)
          | omega
          | skip)
    | true =>
      rw [bo, Bool.true_and] at hb
      cases bk : (baseK m == y.root.kind) with
      | false =>
        rw [bk, cond_false] at hb
        have hr := hno hb
        have bn : (baseK m != y.root.kind) = true := by rw [bne, bk]; rfl
        simp only [Tryz.f33, Option.some.injEq] at hc
        subst hc
        refine Kw 6 (of_decide_eq_true (by kernel_rfl)) ?_
        (sym =>
         simp [Hh.eq_def,hx1,hy1,ev,et,t5,t6,t7,bo,bn,hR,hr,Uw,Uz,Uy,Ux,szV,Uu,Us,Uv,Ur,szN,Ut,Mq,Pa,Mr,Pb,Kj.eq_def,G9.eq_def,Ge.eq_def,Kn.eq_def,G8.eq_def,Gm.eq_def,Nb.eq_def,Kt.eq_def,Kk.eq_def,Kv.eq_def,Zb,Zc,Zd,Ze,Zf,Zg,Zn,Zo,Zp,Zq,Zs,Zt,Zv,Zx,Zy,Z8,Z9,Qb,Qc,Qd,Qe,Qf,Qg,Qn,Qo,Qp,Qq,Qs,Q1,Q2,Q4,Q8,Q9,Ja,Jf,Jj,Jk,Jl,Jw,J3,J4,J5,J6,J7,J8,J9,Xa,Xb,Xc,Xf,Xg,Xn,Xo,Xp,Xt,Xu,Xv,Xx,Xy,X3,X4,X6,X7,X8,Wb,Wc,Wf,Wh,Wi,Wj,Wt,Wu,Wv,Ww,Wx,Wy,Wz,W0,W6,W7,W8,W9,Ya,Yb,Ye,Yf,Yi,Yj,Ym,Yt,Yw,Yx,Yy,Y0,Y1,Y7,Y8,Y9,Va,Vb,Vc,Vd,Ve,Vf,Vg,Vh,Vj,Vp,Vs,Vt,Vu,V4,V5,V7,Uk,Ul,Um,Un,Up,Nx,U8,Ku,Kq,Kc,U4,Kr,U3,Kb]
         tactic =>
          try simp only [U1] at *
          try simp only [nc2] at *
          try simp (maxSteps := 4000000) only [Hh.eq_def,hx1,hy1,ev,et,t5,t6,t7,bo,bn,hR,hr,Uw,Uz,Uy,Ux,szV,Uu,Us,Uv,Ur,szN,Ut,U9]
          repeat' (first | with_reducible assumption | with_reducible refine And.intro ?_ ?_ | intro _ | omega | (rw [U0]; omega))
          all_goals first
            | (with_reducible refine Kl ?_; kernel_rfl)
            | omega
            | skip)
      | true =>
        rw [bk, cond_true] at hb
        have hr := hid hb
        have bn : (baseK m != y.root.kind) = false := by rw [bne, bk]; rfl
        simp only [Tryz.f33, Option.some.injEq] at hc
        subst hc
        refine Kw 6 (of_decide_eq_true (by kernel_rfl)) ?_
        (sym =>
         simp [Hh.eq_def,hx1,hy1,ev,et,t5,t6,t7,bo,bn,hR,hr,Uw,Uz,Uy,Ux,szV,Uu,Us,Uv,Ur,szN,Ut,Mq,Pa,Mr,Pb,Kj.eq_def,G9.eq_def,Ge.eq_def,Kn.eq_def,G8.eq_def,Gm.eq_def,Nb.eq_def,Kt.eq_def,Kk.eq_def,Kv.eq_def,Zb,Zc,Zd,Ze,Zf,Zg,Zn,Zo,Zp,Zq,Zs,Zt,Zv,Zx,Zy,Z8,Z9,Qb,Qc,Qd,Qe,Qf,Qg,Qn,Qo,Qp,Qq,Qs,Q1,Q2,Q4,Q8,Q9,Ja,Jf,Jj,Jk,Jl,Jw,J3,J4,J5,J6,J7,J8,J9,Xa,Xb,Xc,Xf,Xn,Xo,Xp,Xt,Xu,Xv,Xx,Xy,X3,X4,X6,X7,X8,Wb,Wc,Wf,Wh,Wi,Wj,Wt,Wu,Wv,Ww,Wx,Wy,Wz,W0,W6,W7,W8,W9,Ya,Yb,Ye,Yf,Yi,Yj,Ym,Yt,Yw,Yx,Yy,Y0,Y1,Y7,Y8,Y9,Va,Vb,Vc,Vd,Ve,Vf,Vg,Vh,Vj,Vp,Vs,Vt,Vu,V4,V5,V7,Ul,Um,Un,Up,Nx,U8,Ku,Kq,Kc,U4,Kr,U3,Kb]
         tactic =>
          try simp only [U1] at *
          try simp only [nc2] at *
          try simp (maxSteps := 4000000) only [Hh.eq_def,hx1,hy1,ev,et,t5,t6,t7,bo,bn,hR,hr,Uw,Uz,Uy,Ux,szV,Uu,Us,Uv,Ur,szN,Ut,U9]
          repeat' (first | with_reducible assumption | with_reducible refine And.intro ?_ ?_ | intro _ | omega | (rw [U0]; omega))
          all_goals first
            | (with_reducible refine Kl ?_; kernel_rfl)
            | omega
            | skip)
end Go.Am.Ty
set_option linter.unusedSimpArgs false
set_option linter.unusedVariables false
set_option maxHeartbeats 4000000
namespace Go.Am.Ty
open Go.Proofs Go.Rose Go.Rose.Rose
open Enc (enc dec)
theorem dyn_both {y w : Rose Node} (py : PT y) (pw : PT w) (h0 : y.root.kind = 0) (h1 : w.root.kind = 0) : Gp (nds y) (nds w) = true :=
  same3_trans (by rw [same3_comm]; exact same_dyn h0 py.1.wf py.1.name) (same_dyn h1 pw.1.wf pw.1.name)
theorem cp_out {x : Rose VNode} {y w : Rose Node} (h : CP x y w) : CP x y Gu := ⟨h.wf, h.ok, h.py, pt_dyn, ag_dyn2, h.fit⟩
theorem cp_in {x : Rose VNode} {y w : Rose Node} (h : CP x y w) (h0 : y.root.kind = 0) : CP x Gu w :=
  ⟨h.wf, h.ok, pt_dyn, h.pw, ag_dyn1, by rw [fits_same pt_dyn.1.wf h.py.1.wf (same_dyn h0 h.py.1.wf h.py.1.name)]; exact h.fit⟩
theorem cast_toDyn {lab : Int} {x : Rose VNode} {y w : Rose Node} (h : CP x y w) (h0 : y.root.kind ≠ 0) (hw : w.root.kind = 0) : castR lab x y w = castR lab x y Gu := by
  have g := cp_out h
  obtain ⟨n, ks⟩ := x
  by_cases h5 : y.root.kind = 5
  · rw [out_5 h h5 hw, out_5 g h5 rfl]
  by_cases h6 : y.root.kind = 6
  · rw [(out_6 h h6 hw).1, (out_6 g h6 rfl).1]
  by_cases h7 : y.root.kind = 7
  · obtain ⟨z, hz, e1, _⟩ := out_7 (lab := lab) h h7 hw
    obtain ⟨q, hq, e2, _⟩ := out_7 (lab := lab) g h7 rfl
    rw [hz] at hq
    injection hq with hq
    rw [e1, e2, hq]
  · rw [out_b h h0 h5 h6 h7 hw, out_b g h0 h5 h6 h7 rfl]
theorem cast_ofDyn {lab : Int} {x : Rose VNode} {y w : Rose Node} (h : CP x y w) (h0 : w.root.kind ≠ 0) (hy : y.root.kind = 0) : castR lab x y w = castR lab x Gu w := by
  have g := cp_in h hy
  obtain ⟨n, ks⟩ := x
  by_cases h5 : w.root.kind = 5
  · rw [in_5 h h5 hy, in_5 g h5 rfl]
  by_cases h6 : w.root.kind = 6
  · cases hl : (n.kind == 4 && Le ks == N3 w.kids) with
    | false => rw [(in_6 h h6 hy).1 hl, (in_6 g h6 rfl).1 hl]
    | true => rw [((in_6 h h6 hy).2 hl).1, ((in_6 g h6 rfl).2 hl).1]
  by_cases h7 : w.root.kind = 7
  · by_cases hn : n.kind = 5
    · cases hz : Hb w n.name with
      | none => rw [in_7n h h7 hy fun _ => hz, in_7n g h7 rfl fun _ => hz]
      | some z => rw [(in_7 h h7 hy hn hz).1, (in_7 g h7 rfl hn hz).1]
    · rw [in_7n h h7 hy fun e => absurd e hn, in_7n g h7 rfl fun e => absurd e hn]
  · rw [in_b h h0 h5 h6 h7 hy, in_b g h0 h5 h6 h7 rfl]
noncomputable def I4 (n : Nat) : Ctx := ⟨tab, lkC [(18, Kj), (32, (Mv n)), (33, (Nb n)), (34, Kv), (20, Kk), (36, G9), (35, (Gm n))], 60, lkB [], [], false⟩
theorem Cf (n : Nat) : (I4 n).τ = tab := rfl
theorem Ch (n : Nat) : (I4 n).Γ = lkC [(18, Kj), (32, (Mv n)), (33, (Nb n)), (34, Kv), (20, Kk), (36, G9), (35, (Gm n))] := rfl
theorem Cg (n : Nat) : (I4 n).dp = 60 := rfl
theorem Ci (n : Nat) : (I4 n).Δ = lkB [] := rfl
set_option maxRecDepth 100000 in
theorem step_Cast19 (n : Nat) (ih : Gj Tryz.prog (9, Hj n)) : Gj Tryz.prog (9, (Hj (n + 1))) := by
  refine ⟨U7 Tryz.func9 (by kernel_rfl) rfl, ?_⟩
  have K : Ky Tryz.prog (I4 n) := Kd K6 Ki (by
    intro p hp
    simp only [List.mem_cons, List.not_mem_nil, or_false] at hp
    rcases hp with rfl | rfl | rfl | rfl | rfl | rfl | rfl
    · exact Ew
    · exact (stepm_out19 n ih)
    · exact (stepm_in19 n ih)
    · exact Im
    · exact D3
    · exact good_at19
    · exact (stepm_each19 n ih)) (by simp)
  obtain ⟨c, hc⟩ : ∃ c, Tryz.f9.body = some c := ⟨_, rfl⟩
  refine Ke K Tryz.func9 hc [.tmp 8, .tmp 9] rfl 99 rfl (fun cvs hpre => ?_)
  change (Hj (n + 1)).pre cvs at hpre
  unfold Hj at hpre
  obtain ⟨⟨v⟩, ⟨t⟩, ⟨u⟩, lab, rfl, hE⟩ := Ar hpre
  obtain ⟨hv, hn', x, y, w, hvx, hty, huw, hcp⟩ : CastIn (n + 1) v t u := hE
  have hn : v.length ≤ n := by omega
  have hx : Co v x := ⟨hvx, hcp.wf⟩
  have hT7 : Bh t := by rw [hty]; exact tree7_pt hcp.py
  have hU7 : Bh u := by rw [huw]; exact tree7_pt hcp.pw
  have hya : At ar t 0 y := by rw [hty]; exact Ns hcp.py.1.wf
  have hwa : At ar u 0 w := by rw [huw]; exact Ns hcp.pw.1.wf
  have hy1 := Gq hya
  have hw1 := Gq hwa
  have hx1 := hx.tree
  have hxl := hx.at.lt
  have hyl := hya.lt
  have hwl := hwa.lt
  have ev := Kf v0 hxl
  have et := Kf n0 hyl
  have eu := Kf n0 hwl
  rw [hx.at.root v0] at ev
  rw [hya.root n0] at et
  rw [hwa.root n0] at eu
  have k7 := k7_sls hya
  have k8 := k7_sls hwa
  have hyt := hcp.py.1.len
  have hwt := hcp.pw.1.len
  have hvi : VaIn v := ⟨List.length_pos_iff.1 hxl, hv⟩
  have hti : Oa t := ⟨List.length_pos_iff.1 hyl, by rw [hty]; omega⟩
  have hui : Oa u := ⟨List.length_pos_iff.1 hwl, by rw [huw]; omega⟩
  have htl2 : t.length ≤ 9223372036854775807 := by rw [hty]; omega
  have hul2 : u.length ≤ 9223372036854775807 := by rw [huw]; omega
  obtain ⟨R, hR⟩ : ∃ R, castR lab x y w = R := ⟨_, rfl⟩
  have hsm : Gp t u = Gp (nds y) (nds w) := by rw [hty, huw]
  have hout := fun (h0 : y.root.kind ≠ 0) (h1 : w.root.kind = 0) => (cast_toDyn (lab := lab) hcp h0 h1).symm.trans hR
  have hin := fun (h0 : w.root.kind ≠ 0) (h1 : y.root.kind = 0) => (cast_ofDyn (lab := lab) hcp h0 h1).symm.trans hR
  have hoi : y.root.kind ≠ 0 → OutIn n v t := fun h => ⟨hv, hn, x, y, hvx, hty, cp_out hcp, h⟩
  have hii : w.root.kind ≠ 0 → y.root.kind = 0 → InIn n v u := fun h h0 => ⟨hv, hn, x, w, hvx, huw, cp_in hcp h0, h⟩
  clear hpre
  simp only [Tryz.f9, Option.some.injEq] at hc
  subst hc
  refine Kw 6 (of_decide_eq_true (by kernel_rfl)) ?_
  cases hs : Gp t u with
  | true =>
    rw [hsm] at hs
    have hr : Cn R = (⟨v⟩, true) := by rw [← hR, cast_same hs, optX_s, ← hvx]
    rw [← hsm] at hs
    (sym =>
     simp [K7.eq_def,hs,hx1,hy1,hw1,hR,hr,Uw,Uz,Uy,Ux,szV,Uu,Us,Uv,Ur,szN,Ut,Cf,Ch,Cg,Ci,Hj.eq_def,Kj.eq_def,G9.eq_def,Gm.eq_def,Nb.eq_def,Mv.eq_def,Kk.eq_def,Kv.eq_def,Zb,Zc,Ze,Zf,Zn,Zo,Z9,Qe,Qf,Qn,Qo,Qp,Qq,Qs,Q1,Q2,Q4,Q8,Jf,Jj,Jk,Jl,Jw,J3,J4,J5,J6,J8,J9,Xb,Xc,Xf,Xn,Xo,Xv,Xx,Xy,X4,X6,X7,Wb,Wc,Wf,Wh,Wi,Wj,Wt,Wu,Wv,Ww,Wx,Wy,Wz,W0,W6,W7,Ya,Yb,Yx,Yy,Y7,Y8,Vb,Vc,Vd,Ve,Vf,Vg,Vh,Vj,Vo,Vt,Vu,V5,V7,Uk,Um,Un,Uo,Nx,U8,Kq,Kc,U4,U3,Kb]
     tactic =>
      try simp only [U1] at *
      try simp only [nc2] at *
      try simp (maxSteps := 4000000) only [K7.eq_def,hs,hx1,hy1,hw1,hR,hr,Uw,Uz,Uy,Ux,szV,Uu,Us,Uv,Ur,szN,Ut,U9]
      repeat' (first | with_reducible assumption | with_reducible refine And.intro ?_ ?_ | intro _ | omega | (rw [U0]; omega))
      all_goals first
        | omega
        | skip)
  | false =>
  rw [hsm] at hs
  have hs' := hs
  rw [← hsm] at hs
  cases u0 : (w.root.kind == 0) with
  | true =>
    have hw0 : w.root.kind = 0 := by simpa using u0
    have hy0 : y.root.kind ≠ 0 := fun h => by rw [dyn_both hcp.py hcp.pw h hw0] at hs'; cases hs'
    have ho := hout hy0 hw0
    have hi := hoi hy0
    (sym =>
     simp [con3t.eq_def,K7.eq_def,hs,hx1,hy1,hw1,eu,u0,ho,hR,Uw,Uz,Uy,Ux,szV,Uu,Us,Uv,Ur,szN,Ut,Cf,Ch,Cg,Ci,Hj.eq_def,Kj.eq_def,G9.eq_def,Gm.eq_def,Nb.eq_def,Mv.eq_def,Kk.eq_def,Kv.eq_def,Zb,Zc,Ze,Zf,Zn,Zo,Zp,Zq,Zs,Zv,Zx,Zy,Z8,Z9,Qb,Qd,Qe,Qf,Qg,Qn,Qo,Qp,Qq,Qs,Q1,Q2,Q4,Q8,Q9,Ja,Jf,Jj,Jk,Jl,Jw,J3,J4,J5,J6,J8,J9,Xb,Xc,Xf,Xn,Xo,Xv,Xx,X3,X4,X6,X7,Wb,Wc,Wf,Wh,Wi,Wj,Wt,Wu,Wv,Ww,Wx,Wy,Wz,W0,W6,W7,W8,Ya,Yb,Ye,Yi,Ym,Yt,Yw,Yx,Yy,Y0,Y1,Y7,Y8,Vb,Vc,Vd,Ve,Vf,Vg,Vh,Vj,Vm,Vo,Vs,Vt,Vu,V4,V5,V7,Uk,Ul,Um,Un,Uo,Up,Nx,U8,Kq,Kc,U4,U3,Kb]
     tactic =>
      try simp only [U1] at *
      try simp only [nc2] at *
      try simp (maxSteps := 4000000) only [con3t.eq_def,K7.eq_def,hs,hx1,hy1,hw1,eu,u0,ho,hR,Uw,Uz,Uy,Ux,szV,Uu,Us,Uv,Ur,szN,Ut,U9]
      repeat' (first | with_reducible assumption | with_reducible refine And.intro ?_ ?_ | intro _ | omega | (rw [U0]; omega))
      all_goals first
        | (with_reducible refine Kl ?_; kernel_rfl)
        | exact hi
        | omega
        | skip)
  | false =>
  have hw0 : w.root.kind ≠ 0 := by simpa using u0
  cases t0 : (y.root.kind == 0) with
  | true =>
    have hy0 : y.root.kind = 0 := by simpa using t0
    have ho := hin hw0 hy0
    have hi := hii hw0 hy0
    (sym =>
     simp [con3t.eq_def,K7.eq_def,hs,hx1,hy1,hw1,et,eu,u0,t0,ho,hR,Uw,Uz,Uy,Ux,szV,Uu,Us,Uv,Ur,szN,Ut,Cf,Ch,Cg,Ci,Hj.eq_def,Kj.eq_def,G9.eq_def,Gm.eq_def,Nb.eq_def,Mv.eq_def,Kk.eq_def,Kv.eq_def,Zb,Zc,Ze,Zf,Zn,Zo,Zp,Zq,Zs,Zv,Zx,Zy,Z8,Z9,Qb,Qd,Qe,Qf,Qg,Qn,Qo,Qp,Qq,Qs,Q1,Q2,Q4,Q8,Q9,Ja,Jf,Jj,Jk,Jl,Jw,J3,J4,J5,J6,J8,J9,Xb,Xc,Xf,Xn,Xo,Xv,Xx,X3,X4,X6,X7,Wb,Wc,Wf,Wh,Wi,Wj,Wt,Wu,Wv,Ww,Wx,Wy,Wz,W0,W6,W7,W8,Ya,Yb,Ye,Yi,Ym,Yt,Yw,Yx,Yy,Y0,Y1,Y7,Y8,Vb,Vc,Vd,Ve,Vf,Vg,Vh,Vj,Vm,Vo,Vs,Vt,Vu,V4,V5,V7,Uk,Ul,Um,Un,Uo,Up,Nx,U8,Kq,Kc,U4,U3,Kb]
     tactic =>
      try simp only [U1] at *
      try simp only [nc2] at *
      try simp (maxSteps := 4000000) only [con3t.eq_def,K7.eq_def,hs,hx1,hy1,hw1,et,eu,u0,t0,ho,hR,Uw,Uz,Uy,Ux,szV,Uu,Us,Uv,Ur,szN,Ut,U9]
      repeat' (first | with_reducible assumption | with_reducible refine And.intro ?_ ?_ | intro _ | omega | (rw [U0]; omega))
      all_goals first
        | (with_reducible refine Kl ?_; kernel_rfl)
        | exact hi
        | omega
        | skip)
  | false =>
  have hy0 : y.root.kind ≠ 0 := by simpa using t0
  obtain ⟨m, ks⟩ := x
  simp only [T1] at ev
  cases t5 : (y.root.kind == 5) with
  | true =>
    have h5 := both_5 (lab := lab) hcp hs' (by simpa using t5) hw0
    rw [hR] at h5
    have hr : Cn R = (⟨wrapL v t u lab⟩, true) := by rw [h5, optX_s, wrap_nds, ← hvx, ← hty, ← huw]
    (sym =>
     simp [L6.eq_def,K7.eq_def,hs,hx1,hy1,hw1,et,eu,u0,t0,t5,hr,hR,Uw,Uz,Uy,Ux,szV,Uu,Us,Uv,Ur,szN,Ut,Cf,Ch,Cg,Ci,Hj.eq_def,Kj.eq_def,G9.eq_def,Gm.eq_def,Nb.eq_def,Mv.eq_def,Kk.eq_def,Kv.eq_def,Zb,Zc,Ze,Zf,Zg,Zn,Zo,Zp,Zq,Zs,Zv,Zx,Zy,Z9,Qb,Qd,Qe,Qf,Qn,Qo,Qp,Qq,Qs,Q1,Q2,Q4,Q8,Jf,Jj,Jk,Jl,Jw,J3,J4,J5,J6,J8,J9,Xb,Xc,Xf,Xn,Xo,Xv,Xx,Xy,X3,X4,X6,X7,X8,Wb,Wc,Wf,Wh,Wi,Wj,Wt,Wu,Wv,Ww,Wx,Wy,Wz,W0,W6,W7,W8,Ya,Yb,Ye,Yi,Ym,Yt,Yw,Yx,Yy,Y0,Y1,Y7,Y8,Vb,Vc,Vd,Ve,Vf,Vg,Vh,Vj,Vm,Vo,Vs,Vt,Vu,V4,V5,V7,Uk,Ul,Um,Un,Uo,Up,Nx,U8,Kq,Kc,U4,U3,Kb]
     tactic =>
      try simp only [U1] at *
      try simp only [nc2] at *
      try simp (maxSteps := 4000000) only [L6.eq_def,K7.eq_def,hs,hx1,hy1,hw1,et,eu,u0,t0,t5,hr,hR,Uw,Uz,Uy,Ux,szV,Uu,Us,Uv,Ur,szN,Ut,U9]
      repeat' (first | with_reducible assumption | with_reducible refine And.intro ?_ ?_ | intro _ | omega | (rw [U0]; omega))
      all_goals first
        | (with_reducible refine Kl ?_; kernel_rfl)
        | exact hvi
        | exact hti
        | exact hui
        | omega
        | skip)
  | false =>
  cases t6 : (y.root.kind == 6) with
  | true =>
    obtain ⟨h1, h2, h3, h4⟩ := both_6 (lab := lab) hcp hs' (by simpa using t6) hw0
    rw [hR] at h1
    obtain ⟨e1, e2⟩ := each_is (lab := lab) hv hn hx rfl (by simp [h2]) (by simp [h3]) h4 h1
    (sym =>
     simp [Hh.eq_def,K7.eq_def,hs,hx1,hy1,hw1,et,eu,u0,t0,t5,t6,k7,k8,e2,hR,Uw,Uz,Uy,Ux,szV,Uu,Us,Uv,Ur,szN,Ut,Cf,Ch,Cg,Ci,Hj.eq_def,Kj.eq_def,G9.eq_def,Gm.eq_def,Nb.eq_def,Mv.eq_def,Kk.eq_def,Kv.eq_def,Zb,Zc,Ze,Zf,Zg,Zn,Zo,Zp,Zq,Zs,Zv,Zx,Zy,Z8,Z9,Qb,Qd,Qe,Qf,Qg,Qn,Qo,Qp,Qq,Qs,Q1,Q2,Q4,Q8,Q9,Ja,Jf,Jj,Jk,Jl,Jw,J3,J4,J5,J6,J8,J9,Xb,Xc,Xf,Xn,Xo,Xv,Xx,Xy,X3,X4,X6,X7,X8,Wb,Wc,Wf,Wh,Wi,Wj,Wt,Wu,Wv,Ww,Wx,Wy,Wz,W0,W6,W7,W8,Ya,Yb,Ye,Yi,Ym,Yt,Yw,Yx,Yy,Y0,Y1,Y7,Y8,Vb,Vc,Vd,Ve,Vf,Vg,Vh,Vj,Vm,Vo,Vs,Vt,Vu,V4,V5,V7,Uk,Ul,Um,Un,Uo,Up,Nx,U8,Kq,Kc,U4,U3,Kb]
     tactic =>
      try simp only [U1] at *
      try simp only [nc2] at *
      try simp (maxSteps := 4000000) only [Hh.eq_def,K7.eq_def,hs,hx1,hy1,hw1,et,eu,u0,t0,t5,t6,k7,k8,e2,hR,Uw,Uz,Uy,Ux,szV,Uu,Us,Uv,Ur,szN,Ut,U9]
      repeat' (first | with_reducible assumption | with_reducible refine And.intro ?_ ?_ | intro _ | omega | (rw [U0]; omega))
      all_goals first
        | (with_reducible refine Kl ?_; kernel_rfl)
        | exact e1
        | exact hT7
        | exact hU7
        | omega
        | skip)
  | false =>
  by_cases t7 : y.root.kind = 7
  · obtain ⟨z, q, hz, hq, h1, h2, h3⟩ := both_7 (lab := lab) hcp hs' t7 hw0
    rw [hR] at h1
    obtain ⟨e1, e2⟩ := each_is (lab := lab) hv hn hx rfl (a := [z]) (b := [q]) (by simp [h2]) (by simp [h2]) h3 h1
    have hat := atX_some hz
    have hau := atX_some hq
    (sym =>
     simp [K7.eq_def,hs,hx1,hy1,hw1,ev,et,eu,u0,t0,t5,t6,hat,hau,e2,hR,Uw,Uz,Uy,Ux,szV,Uu,Us,Uv,Ur,szN,Ut,Cf,Ch,Cg,Ci,Hj.eq_def,Kj.eq_def,G9.eq_def,Gm.eq_def,Nb.eq_def,Mv.eq_def,Kk.eq_def,Kv.eq_def,Zb,Zc,Ze,Zf,Zg,Zn,Zo,Zp,Zq,Zs,Zv,Zx,Zy,Z8,Z9,Qb,Qd,Qe,Qf,Qg,Qn,Qo,Qp,Qq,Qs,Q1,Q2,Q4,Q8,Q9,Ja,Jf,Jj,Jk,Jl,Jw,J3,J4,J5,J6,J7,J8,J9,Xa,Xb,Xc,Xf,Xn,Xo,Xv,Xx,Xy,X3,X4,X6,X7,X8,Wb,Wc,Wf,Wh,Wi,Wj,Wt,Wu,Wv,Ww,Wx,Wy,Wz,W0,W6,W7,W8,W9,Ya,Yb,Ye,Yi,Ym,Yt,Yu,Yw,Yx,Yy,Y0,Y1,Y7,Y8,Y9,Va,Vb,Vc,Vd,Ve,Vf,Vg,Vh,Vi,Vj,Vm,Vn,Vo,Vs,Vt,Vu,V4,V5,V7,Ul,Um,Un,Uo,Up,Nx,U8,Kq,Kc,U4,U3,Kb]
     tactic =>
      try simp only [U1] at *
      try simp only [nc2] at *
      try simp (maxSteps := 4000000) only [K7.eq_def,hs,hx1,hy1,hw1,ev,et,eu,u0,t0,t5,t6,hat,hau,e2,hR,Uw,Uz,Uy,Ux,szV,Uu,Us,Uv,Ur,szN,Ut,U9]
      repeat' (first | with_reducible assumption | with_reducible refine And.intro ?_ ?_ | intro _ | omega | (rw [U0]; omega))
      all_goals first
        | (with_reducible refine Kl ?_; kernel_rfl)
        | exact e1
        | exact hT7
        | exact hU7
        | omega
        | skip)
  · exfalso
    rw [base_same hcp.py hcp.pw hcp.ag hy0 hw0 (by simpa using t5) (by simpa using t6) t7] at hs'
    cases hs'
theorem goodn_Cast19 : ∀ n, Gj Tryz.prog (9, Hj n)
  | 0 => Ev (U7 Tryz.func9 (by kernel_rfl) rfl) con_Cast19_zero
  | n + 1 => step_Cast19 n (goodn_Cast19 n)
noncomputable def Rd : Con := Hj 1000001
theorem good_Cast19A : Gj Tryz.prog (9, Rd) := goodn_Cast19 _
theorem Bu : Rd = K7 (fun (v : Sl VNode) (t u : Sl Node) (_ : Int) => CastIn 1000001 v.l t.l u.l) (fun v t u lab => Cn (castR lab (K1 arV v.l 0) (K1 ar t.l 0) (K1 ar u.l 0))) := rfl
def con_ValueCasts : Con := con3 (fun (v : Sl VNode) (t u : Sl Node) => InVal v.l ∧ In t.l ∧ In u.l) (fun _ _ _ => true)
noncomputable def Tn : Ctx := ⟨tab, lkC [(4, Px), (5, Nv), (6, Rc), (7, Py), (8, Dc), (9, Rd), (10, B9)], 60, lkB [], [], false⟩
theorem Lz : Tn.τ = tab := rfl
theorem L2 : Tn.Γ = lkC [(4, Px), (5, Nv), (6, Rc), (7, Py), (8, Dc), (9, Rd), (10, B9)] := rfl
theorem L1 : Tn.dp = 60 := rfl
theorem L3 : Tn.Δ = lkB [] := rfl
set_option maxRecDepth 100000 in
theorem good_ValueCasts : Gj Tryz.prog (3, con_ValueCasts) := by
  refine ⟨U7 Tryz.func3 (by kernel_rfl) rfl, ?_⟩
  have K : Ky Tryz.prog Tn := Kd K6 Ki (by
    intro p hp
    simp only [List.mem_cons, List.not_mem_nil, or_false] at hp
    rcases hp with rfl | rfl | rfl | rfl | rfl | rfl | rfl
    · exact good_given19
    · exact good_Agree7A
    · exact good_Fits19A
    · exact good_alive19
    · exact good_CastVA
    · exact good_Cast19A
    · exact good_One19) (by simp)
  obtain ⟨c, hc⟩ : ∃ c, Tryz.f3.body = some c := ⟨_, rfl⟩
  refine Ke K Tryz.func3 hc [.tmp 6] rfl 64 rfl (fun cvs hpre => ?_)
  change con_ValueCasts.pre cvs at hpre
  unfold con_ValueCasts at hpre
  obtain ⟨⟨v⟩, ⟨t⟩, ⟨u⟩, rfl, hV, hT, hU⟩ := con3_pre hpre
  have hV' : InVal v := hV
  have ⟨t1, t2⟩ : In t := hT
  have ⟨u1, u2⟩ : In u := hU
  have hI := in2 hT hU
  have hT' : In t := hT
  have hU' : In u := hU
  clear hpre
  simp only [Tryz.f3, Option.some.injEq] at hc
  subst hc
  refine Kw 4 (of_decide_eq_true (by kernel_rfl)) ?_
  cases hg : givenB v [⟨t⟩, ⟨u⟩] with
  | false =>
    (sym =>
     simp [hg,Uw,Uz,Uy,Ux,szV,Uu,Us,Uv,Ur,szN,Ut,Lz,L2,L1,L3,Nv.eq_def,Rd.eq_def,Dc.eq_def,Rc.eq_def,B9.eq_def,con_ValueCasts.eq_def,Py.eq_def,Px.eq_def,Zb,Zc,Zd,Ze,Zf,Zo,Zr,Zt,Z1,Z9,Qc,Qd,Qe,Qf,Qn,Qo,Qp,Qq,Qs,Q1,Q2,Q4,Q8,Jb,Jc,Jd,Je,Jf,Jg,Jh,Ji,Jj,Jk,Jl,Jw,J3,J4,J5,J6,J8,J9,Xb,Xc,Xd,Xe,Xf,Xh,Xn,Xo,Xt,Xv,Xw,X4,X6,X7,Wb,Wc,Wf,Wh,Wi,Wj,Wn,Wt,Wu,Wv,Ww,Wx,Wy,Wz,W0,W3,W4,W5,W6,W7,W8,W9,Ya,Yb,Yf,Yj,Yy,Y2,Y7,Y8,Y9,Va,Vb,Vc,Vd,Ve,Vf,Vg,Vj,Vk,Vo,Vq,Vt,Vu,V3,V5,V9,Uk,Um,Un,Uo,Ku,Kc,U4,Kr,U3,Kb]
     tactic =>
      try simp only [U1] at *
      try simp only [nc2] at *
      try simp (maxSteps := 4000000) only [hg,Uw,Uz,Uy,Ux,szV,Uu,Us,Uv,Ur,szN,Ut,U9]
      repeat' (first | with_reducible assumption | with_reducible refine And.intro ?_ ?_ | intro _ | omega | (rw [U0]; omega))
      all_goals first
        | exact hV'
        | exact hI
        | exact hT'
        | exact hU'
        | omega
        | skip)
  | true =>
  obtain ⟨g1, g2, ⟨x, hx, hvt⟩, g3⟩ := given_of hg
  obtain ⟨lt, y, hy, py⟩ := plain7_pt (g3 ⟨t⟩ (by simp))
  obtain ⟨lu, w, hw, pw⟩ := plain7_pt (g3 ⟨u⟩ (by simp))
  simp only at lt lu hy hw
  have ov : Co v x := ⟨hx, hvt.wf⟩
  have oy : OneN t y := ⟨hy, py.ty⟩
  have ow : OneN u w := ⟨hw, pw.ty⟩
  have tx := ov.tree
  have ty := oy.tree
  have tw := ow.tree
  have t7 : Bh t := by rw [hy]; exact tree7_pt py
  have u7 : Bh u := by rw [hw]; exact tree7_pt pw
  have tp : Nt t = true := by rw [hy]; exact py.2
  have up : Nt u = true := by rw [hw]; exact pw.2
  have gn := goodN_of hV' g2
  have sn := short_of hV'
  have iv := inV_of hV'
  have hff : fits9 x y = fitsR x y := fits9_fits _ (Nat.le_refl _) hvt.wf hvt.ok py
  have hov := oneV_refl v
  cases ha : agX false y w with
  | false =>
    (sym =>
     simp [hg,tx,ty,tw,ha,Nw,Bt,Pp,Bu,K7.eq_def,Uw,Uz,Uy,Ux,szV,Uu,Us,Uv,Ur,szN,Ut,Lz,L2,L1,L3,B9.eq_def,con_ValueCasts.eq_def,Py.eq_def,Px.eq_def,Zb,Zc,Zd,Ze,Zf,Zo,Zr,Zt,Z1,Z9,Qc,Qd,Qe,Qf,Qn,Qo,Qp,Qq,Qs,Q1,Q2,Q4,Q8,Jb,Jc,Jd,Je,Jf,Jg,Jh,Ji,Jj,Jk,Jl,Jw,J3,J4,J5,J6,J8,J9,Xb,Xc,Xd,Xe,Xf,Xh,Xn,Xo,Xt,Xv,Xw,X4,X6,X7,Wb,Wc,Wf,Wh,Wi,Wj,Wn,Wt,Wu,Wv,Ww,Wx,Wy,Wz,W0,W3,W4,W5,W6,W7,W8,W9,Ya,Yb,Yf,Yj,Yy,Y2,Y7,Y8,Y9,Va,Vb,Vc,Vd,Ve,Vf,Vg,Vj,Vk,Vo,Vp,Vq,Vt,Vu,V3,V5,V9,Uk,Ul,Um,Un,Uo,Ku,Kc,U4,Kr,U3,Kb]
     tactic =>
      try simp only [U1] at *
      try simp only [nc2] at *
      try simp (maxSteps := 4000000) only [hg,tx,ty,tw,ha,Nw,Bt,Pp,Bu,K7.eq_def,Uw,Uz,Uy,Ux,szV,Uu,Us,Uv,Ur,szN,Ut,U9]
      repeat' (first | with_reducible assumption | with_reducible refine And.intro ?_ ?_ | intro _ | omega | (rw [U0]; omega))
      all_goals first
        | exact hI
        | omega
        | skip)
  | true =>
  cases hf : fitsR x y with
  | false =>
    rw [hf] at hff
    (sym =>
     simp [hg,tx,ty,tw,ha,hff,Nw,Bt,Pp,Bu,K7.eq_def,Uw,Uz,Uy,Ux,szV,Uu,Us,Uv,Ur,szN,Ut,Lz,L2,L1,L3,B9.eq_def,con_ValueCasts.eq_def,Py.eq_def,Px.eq_def,Zb,Zc,Zd,Ze,Zf,Zo,Zr,Zt,Z1,Z9,Qc,Qd,Qe,Qf,Qn,Qo,Qp,Qq,Qs,Q1,Q2,Q4,Q8,Jb,Jc,Jd,Je,Jf,Jg,Jh,Ji,Jj,Jk,Jl,Jw,J3,J4,J5,J6,J8,J9,Xb,Xc,Xd,Xe,Xf,Xh,Xn,Xo,Xt,Xv,Xw,X4,X6,X7,Wb,Wc,Wf,Wh,Wi,Wj,Wn,Wt,Wu,Wv,Ww,Wx,Wy,Wz,W0,W3,W4,W5,W6,W7,W8,W9,Ya,Yb,Yf,Yj,Yy,Y2,Y7,Y8,Y9,Va,Vb,Vc,Vd,Ve,Vf,Vg,Vj,Vk,Vo,Vp,Vq,Vt,Vu,V3,V5,V9,Uk,Ul,Um,Un,Uo,Ku,Kc,U4,Kr,U3,Kb]
     tactic =>
      try simp only [U1] at *
      try simp only [nc2] at *
      try simp (maxSteps := 4000000) only [hg,tx,ty,tw,ha,hff,Nw,Bt,Pp,Bu,K7.eq_def,Uw,Uz,Uy,Ux,szV,Uu,Us,Uv,Ur,szN,Ut,U9]
      repeat' (first | with_reducible assumption | with_reducible refine And.intro ?_ ?_ | intro _ | omega | (rw [U0]; omega))
      all_goals first
        | exact hI
        | exact ⟨_, ov⟩
        | exact ⟨_, oy⟩
        | omega
        | skip)
  | true =>
  rw [hf] at hff
  have hci : CastIn 1000001 v t u := ⟨by omega, by omega, x, y, w, hx, hy, hw, ⟨hvt.wf, ⟨_, hvt.ok⟩, py, pw, ha, hf⟩⟩
  cases hcc : castR 7 x y w with
  | none =>
    have i0 : InV ([] : List VNode) := ⟨by simp, by simp⟩
    have o0 := oneV_refl []
    (sym =>
     simp [hg,tx,ty,tw,ha,hff,hcc,optX_none,o0,hov,Nw,Bt,Pp,Bu,K7.eq_def,Uw,Uz,Uy,Ux,szV,Uu,Us,Uv,Ur,szN,Ut,Lz,L2,L1,L3,B9.eq_def,con_ValueCasts.eq_def,Py.eq_def,Px.eq_def,Zb,Zc,Zd,Ze,Zf,Zo,Zr,Zt,Z1,Z4,Z5,Z8,Z9,Qb,Qc,Qd,Qe,Qf,Qg,Qn,Qo,Qp,Qq,Qs,Q1,Q2,Q4,Q8,Q9,Ja,Jb,Jc,Jd,Je,Jf,Jg,Jh,Ji,Jj,Jk,Jl,Jw,J3,J4,J5,J6,J8,J9,Xb,Xc,Xd,Xe,Xf,Xh,Xn,Xo,Xt,Xv,Xw,X3,X4,X6,X7,Wb,Wc,Wf,Wh,Wi,Wj,Wl,Wn,Wt,Wu,Wv,Ww,Wx,Wy,Wz,W0,W3,W4,W5,W6,W7,W8,W9,Ya,Yb,Yf,Yj,Yy,Y0,Y1,Y2,Y7,Y8,Y9,Va,Vb,Vc,Vd,Ve,Vf,Vg,Vh,Vj,Vk,Vl,Vm,Vo,Vp,Vt,Vu,V3,V4,V5,V9,Uk,Ul,Um,Un,Uo,Up,Ku,Kc,U4,Kr,U3,Kb]
     tactic =>
      try simp only [U1] at *
      try simp only [nc2] at *
      try simp (maxSteps := 4000000) only [hg,tx,ty,tw,ha,hff,hcc,optX_none,o0,hov,Nw,Bt,Pp,Bu,K7.eq_def,Uw,Uz,Uy,Ux,szV,Uu,Us,Uv,Ur,szN,Ut,U9]
      repeat' (first | with_reducible assumption | with_reducible refine And.intro ?_ ?_ | intro _ | omega | (rw [U0]; omega))
      all_goals first
        | (with_reducible refine Kl ?_; kernel_rfl)
        | exact hI
        | exact ⟨_, ov⟩
        | exact ⟨_, oy⟩
        | exact ⟨_, ow⟩
        | exact hci
        | exact i0
        | exact iv
        | omega
        | skip)
  | some z =>
    obtain ⟨vz, fz⟩ := cast_right (by decide) hvt (by rw [← hx]; exact g1) py pw ha hf hcc
    have zl := cast_len hcc
    rw [← hx] at zl
    have gz := cast_good _ (Nat.le_refl _) (by rw [← hx]; exact gn) ⟨py.ty, by rw [← hy]; exact t2⟩ ⟨pw.ty, by rw [← hw]; exact u2⟩ hcc
    have sz := fun m hm => short_VN (gz m hm)
    have iz : InV (nds z) := ⟨by omega, sz⟩
    have oz := oneV_refl (nds z)
    (sym =>
     simp [hg,tx,ty,tw,ha,hff,hcc,optX_some,oz,hov,Nw,Bt,Pp,Bu,K7.eq_def,Uw,Uz,Uy,Ux,szV,Uu,Us,Uv,Ur,szN,Ut,Lz,L2,L1,L3,B9.eq_def,con_ValueCasts.eq_def,Py.eq_def,Px.eq_def,Zb,Zc,Zd,Ze,Zf,Zo,Zr,Zt,Z1,Z4,Z5,Z8,Z9,Qb,Qc,Qd,Qe,Qf,Qg,Qn,Qo,Qp,Qq,Qs,Q1,Q2,Q4,Q8,Q9,Ja,Jb,Jc,Jd,Je,Jf,Jg,Jh,Ji,Jj,Jk,Jl,Jw,J3,J4,J5,J6,J8,J9,Xb,Xc,Xd,Xe,Xf,Xh,Xn,Xo,Xt,Xv,Xw,X3,X4,X6,X7,Wb,Wc,Wf,Wh,Wi,Wj,Wl,Wn,Wt,Wu,Wv,Ww,Wx,Wy,Wz,W0,W3,W4,W5,W6,W7,W8,W9,Ya,Yb,Yf,Yj,Yy,Y0,Y1,Y2,Y7,Y8,Y9,Va,Vb,Vc,Vd,Ve,Vf,Vg,Vh,Vj,Vk,Vl,Vm,Vo,Vp,Vt,Vu,V3,V4,V5,V9,Uk,Ul,Um,Un,Uo,Up,Ku,Kc,U4,Kr,U3,Kb]
     tactic =>
      try simp only [U1] at *
      try simp only [nc2] at *
      try simp (maxSteps := 4000000) only [hg,tx,ty,tw,ha,hff,hcc,optX_some,oz,hov,Nw,Bt,Pp,Bu,K7.eq_def,Uw,Uz,Uy,Ux,szV,Uu,Us,Uv,Ur,szN,Ut,U9]
      repeat' (first | with_reducible assumption | with_reducible refine And.intro ?_ ?_ | intro _ | omega | (rw [U0]; omega))
      all_goals first
        | (with_reducible refine Kl ?_; kernel_rfl)
        | exact hI
        | exact ⟨_, ov⟩
        | exact ⟨_, oy⟩
        | exact ⟨_, ow⟩
        | exact hci
        | exact iz
        | exact iv
        | omega
        | skip)
end Go.Am.Ty
