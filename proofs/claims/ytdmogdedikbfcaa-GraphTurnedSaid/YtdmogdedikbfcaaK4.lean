/- Contracts of functions that the law reaches, and plain laws. Conditions: those that each contract states. -/
import Derived.Test.YtdmogdedikbfcaaK3
import Derived.Sort.Walk0
set_option linter.unusedSimpArgs false
set_option linter.unusedVariables false
set_option maxHeartbeats 1000000
namespace Go.Am.Graph
open Go.Proofs
open Enc (enc dec)
section
variable {α β : Type} [BEq α]
theorem gHas_snoc {x y : α} : ∀ {l : List α}, N6 x (l ++ [y]) = (N6 x l || (x == y))
  | [] => by simp [N6]
  | z :: l => by simp only [List.cons_append, N6, gHas_snoc (l := l), Bool.or_assoc]
theorem gSetV_len {x : α} {v : β} : ∀ {ks : List α} {vs : List β}, ks.length = vs.length → (T6 x v ks vs).length = (Li x ks).length
  | [], [], _ => rfl
  | [], _ :: _, h => by simp at h
  | _ :: _, [], h => by simp at h
  | k :: ks, u :: vs, h => by
    have h' : ks.length = vs.length := by simpa using h
    have ih := gSetV_len (x := x) (v := v) h'
    unfold Li at ih ⊢
    simp only [T6, N6]
    cases hx : (x == k) with
    | true => simp only [cond_true, Bool.true_or, List.length_cons, h']
    | false =>
      simp only [cond_false, Bool.false_or, List.length_cons, ih]
      cases N6 x ks <;> simp
variable [LawfulBEq α]
theorem gHas_set {x y : α} {ks : List α} : N6 x (Li y ks) = (N6 x ks || (x == y)) := by
  unfold Li
  cases h : N6 y ks with
  | false => rw [cond_false, gHas_snoc]
  | true =>
    rw [cond_true]
    cases hxy : (x == y) with
    | false => rw [Bool.or_false]
    | true => rw [eq_of_beq hxy, h]; rfl
theorem gGet_set {x y : α} {z v : β} : ∀ {ks : List α} {vs : List β}, ks.length = vs.length → Lv x z (Li y ks) (T6 y v ks vs) = cond (x == y) v (Lv x z ks vs)
  | [], [], _ => by
    show Lv x z [y] [v] = _
    cases h : x == y <;> simp [Lv, h]
  | [], _ :: _, h => by simp at h
  | _ :: _, [], h => by simp at h
  | k :: ks, u :: vs, h => by
    have h' : ks.length = vs.length := by simpa using h
    have ih := gGet_set (x := x) (y := y) (z := z) (v := v) h'
    unfold Li at ih ⊢
    simp only [T6, N6]
    cases hk : (y == k) with
    | true =>
      have e := eq_of_beq hk
      subst e
      simp only [cond_true, Bool.true_or, Lv]
      cases x == y <;> rfl
    | false =>
      simp only [cond_false, Bool.false_or]
      cases hh : N6 y ks with
      | true =>
        rw [hh] at ih
        simp only [cond_true] at ih ⊢
        simp only [Lv, ih]
        cases hxk : (x == k) with
        | true =>
          have e := eq_of_beq hxk
          subst e
          have : (x == y) = false := by rw [beq_eq_false_iff_ne] at hk ⊢; exact fun e => hk e.symm
          rw [this]; rfl
        | false => rfl
      | false =>
        rw [hh] at ih
        simp only [cond_false] at ih ⊢
        simp only [List.cons_append, Lv, ih]
        cases hxk : (x == k) with
        | true =>
          have e := eq_of_beq hxk
          subst e
          have : (x == y) = false := by rw [beq_eq_false_iff_ne] at hk ⊢; exact fun e => hk e.symm
          rw [this]; rfl
        | false => rfl
theorem Im {x : α} {ks : List α} (h : ks.Nodup) : (Li x ks).Nodup := by
  unfold Li
  cases hh : N6 x ks with
  | true => exact h
  | false =>
    rw [cond_false]
    refine List.nodup_append.2 ⟨h, by simp, fun a ha b hb e => ?_⟩
    rw [List.mem_singleton] at hb
    subst hb; subst e
    exact gHas_no.1 hh ha
end
theorem Cs {m : Mod} {s : List UInt8} : ∀ {l : List Mod}, Hr (l ++ [m]) s = match Hr l s with
    | some j => some j
    | none => if m.name = s then some l.length else none
  | [] => by
    show (if m.name = s then some 0 else (none : Option Nat).map _) = if m.name = s then some 0 else none
    split <;> rfl
  | x :: l => by
    rw [List.cons_append, Hr, Hr]
    by_cases h : x.name = s
    · rw [if_pos h, if_pos h]
    · rw [if_neg h, if_neg h, Cs (l := l)]
      cases Hr l s with
      | some j => rfl
      | none => by_cases hm : m.name = s <;> simp [hm]
theorem pl_all (l : List Mod) : ∀ k, k ≤ l.length → (plK l k).length = (plV l k).length ∧ (plK l k).Nodup ∧
    ∀ s, N6 s (plK l k) = (Hr (l.take k) s).isSome ∧ Lv s 0 (plK l k) (plV l k) = ((Hr (l.take k) s).getD 0 : Nat)
  | 0, _ => ⟨rfl, List.nodup_nil, fun s => ⟨rfl, rfl⟩⟩
  | k + 1, hk => by
    obtain ⟨h1, h2, h3⟩ := pl_all l k (by omega)
    have hlt : k < l.length := by omega
    have hnm : l[k].name = nm l k := by simp [nm, hlt]
    have htk : l.take (k + 1) = l.take k ++ [l[k]] := List.take_succ_eq_append_getElem hlt
    obtain ⟨g1, g2⟩ := h3 (nm l k)
    cases hh : N6 (nm l k) (plK l k) with
    | true =>
      simp only [plK, plV, hh, cond_true]
      refine ⟨h1, h2, fun s => ?_⟩
      rw [htk, Cs]
      obtain ⟨q1, q2⟩ := h3 s
      cases hf : Hr (l.take k) s with
      | some j => rw [hf] at q1 q2; exact ⟨q1, q2⟩
      | none =>
        rw [hf] at q1 q2
        have : ¬ l[k].name = s := by
          rw [hnm]
          rintro rfl
          rw [hh] at q1
          cases q1
        simp only [if_neg this]
        exact ⟨q1, q2⟩
    | false =>
      simp only [plK, plV, hh, cond_false]
      refine ⟨(gSetV_len h1).symm, Im h2, fun s => ?_⟩
      rw [htk, Cs, gHas_set, gGet_set h1]
      obtain ⟨q1, q2⟩ := h3 s
      rw [q1, q2]
      cases hf : Hr (l.take k) s with
      | some j =>
        have : (s == nm l k) = false := by
          rw [beq_eq_false_iff_ne]
          rintro rfl
          rw [hf] at g1
          rw [hh] at g1
          cases g1
        rw [this]
        exact ⟨rfl, rfl⟩
      | none =>
        rw [hnm]
        cases hs : (s == nm l k) with
        | true =>
          rw [if_pos (eq_of_beq hs).symm]
          simp
          omega
        | false =>
          rw [beq_eq_false_iff_ne] at hs
          rw [if_neg (fun e => hs e.symm)]
          exact ⟨rfl, rfl⟩
theorem Ep (l : List Mod) (s : List UInt8) : N6 s (Gw l).ks = (Hr l s).isSome := by
  have := ((pl_all l l.length (Nat.le_refl _)).2.2 s).1
  rwa [List.take_length] at this
theorem R0 (l : List Mod) (s : List UInt8) : Lv s 0 (Gw l).ks (Gw l).vs = ((Hr l s).getD 0 : Nat) := by
  have := ((pl_all l l.length (Nat.le_refl _)).2.2 s).2
  rwa [List.take_length] at this
theorem Iy (l : List Mod) : Places l (Gw l) := by
  intro s h
  rw [Ep] at h
  rw [R0]
  obtain ⟨k, hk⟩ := Option.isSome_iff_exists.1 h
  rw [hk]
  have := Mr hk
  simp only [Option.getD_some]
  omega
theorem gSetV_truesK {x : Int} : ∀ {S : List Int}, T6 x true S (Tq S) = Tq (Li x S)
  | [] => rfl
  | y :: S => by
    show cond (x == y) (true :: Tq S) (true :: T6 x true S (Tq S)) = _
    rw [gSetV_truesK]
    unfold Li
    simp only [N6]
    cases hx : (x == y) with
    | true => rfl
    | false =>
      simp only [cond_false, Bool.false_or]
      cases N6 x S <;> rfl
def Bw (l : List Mod) (i : Int) : List Int := cond (ltB i 0 || leB (l.length : Int) i) [] (A7 (Li i (Om l (Gw l) i.toNat)))
def Gv : Con := con2 (fun (l : Sl Mod) (_ : Int) => Ph l.l = true) (fun l i => Sl.mk (Bw l.l i))
noncomputable def Tn : Ctx := ⟨tab, lkC [(19, H0), (33, Cx), (32, Bi)], 60, lkB [(27, L3)], [], false⟩
theorem Eb : Tn.τ = tab := rfl
theorem Ed : Tn.Γ = lkC [(19, H0), (33, Cx), (32, Bi)] := rfl
theorem Ec : Tn.dp = 60 := rfl
theorem Ee : Tn.Δ = lkB [(27, L3)] := rfl
theorem Ea : Tn.cuts = [] := rfl
theorem D9 : Tn.wr = false := rfl
set_option maxRecDepth 100000 in
theorem Fg : Ck Try.prog (16, Gv) := by
  refine ⟨Hh Try.func16 (by kernel_rfl) rfl, ?_⟩
  have K : Mj Try.prog Tn := Nj P8 Ny (by
    intro p hp
    simp only [List.mem_cons, List.not_mem_nil, or_false] at hp
    rcases hp with rfl | rfl | rfl
    · exact good_places
    · exact good_KeysI
    · exact good_SortedI) (by
    intro p hp
    simp only [List.mem_cons, List.not_mem_nil, or_false] at hp
    rcases hp with rfl
    · exact goodb_led)
  obtain ⟨c, hc⟩ : ∃ c, Try.f16.body = some c := ⟨_, rfl⟩
  refine Mi K Try.func16 hc [.tmp 4] rfl 24 rfl (fun cvs hpre => ?_)
  change Gv.pre cvs at hpre
  unfold Gv at hpre
  obtain ⟨⟨l⟩, i, rfl, hf⟩ := Lw hpre
  simp only at hf
  clear hpre
  have hl20 := Px hf
  obtain ⟨R, hR⟩ : ∃ R, Bw l i = R := ⟨_, rfl⟩
  have hR2 := hR
  unfold Bw at hR2
  cases h1 : ltB i 0 with
  | true =>
    rw [h1, Bool.true_or, cond_true] at hR2
    subst hR2
    simp only [Try.f16, Option.some.injEq] at hc
    subst hc
    (sym =>
     simp [h1,hR,szM,Eb,Ed,Ec,Ee,Ea,D9,Cx.eq_def,Gv.eq_def,Bi.eq_def,H0.eq_def,Za,Zb,Zc,Zd,Ze,Zf,Zg,Zn,Zo,Zp,Zq,Zr,Zs,Zt,Zv,Z5,Z7,Z8,Z9,Qa,Qb,Qc,Qd,Qe,Qf,Qj,Ql,Qm,Qn,Qo,Qq,Qr,Qs,Qt,Qu,Qv,Qw,Qx,Qy,Qz,Q3,Q4,Q5,Ja,Jc,Jd,Je,Jf,Jg,Jh,Ji,Jj,Jk,Jl,Jm,Jn,Js,Jt,Jz,J0,Xd,Xe,Xf,Xg,Xh,Xi,Xj,Xk,Xl,Xm,Xn,Xo,Xp,Xs,Xu,Xv,Xw,Xx,Xy,Xz,X0,X1,X2,X3,X4,X5,X6,X7,X8,Wa,Wb,Wc,Wf,Wg,Wh,Wi,Wj,Wl,Wm,Wn,Wo,Wp,Wq,Wr,Ws,Wt,Wu,Wv,Ww,Wx,Wy,Wz,W0,W3,W4,W5,W6,W7,W8,W9,Ya,Yb,Yc,Yj,Yk,Yl,Ym,Yn,Yo,Yp,Yq,Yr,Ys,Yt,Yu,Yv,Yw,Yx,Yy,Yz,Y0,Y1,Y2,Y3,Y4,Y5,Y6,Y7,Y8,Y9,Va,Vb,Vc,Vd,Ve,Vf,Vg,Vh,Vi,Vj,Vk,Vl,Vm,Vn,Vo,Vp,Vq,Vr,Vs,Vt,Vu,Vv,Vw,Vx,Vy,Vz,V0,V1,V2,V3,V4,V5,V6,V7,V8,V9,Ua,Ub,Uc,Ud,Ue,Uf,Ug,Uh,Ui,Uo,Up,Us,Ut,Uu,Uv,Uw,Ux,Uy,Uz,U0,U1,U2,U3,U4,U5,U6,U7,U8,U9,Ka,Kb,Kc,Kd,Ke,Kf,Kg,Kh,Ki,Kj,Kk,Kl,Km,Kn,Ko,Kq,Kr,Ks,Kt,Ku,Kw,Kz,K0,K1,K2,K3,K4,K5,K6,K7,K8,K9,Ga,Gx,Hd,Gq,Gp,Sn]
     tactic =>
      try simp only [Gl] at *
      try simp only [nc2] at *
      try simp (maxSteps := 4000000) only [h1,hR,szM,G4]
      repeat' (first | with_reducible assumption | with_reducible refine And.intro ?_ ?_ | intro _ | omega | (rw [Gb]; omega))
      all_goals first
        | (with_reducible refine G7 ?_; kernel_rfl)
        | omega
        | rfl
        | skip)
  | false =>
  cases h2 : leB (l.length : Int) i with
  | true =>
    rw [h1, h2, Bool.false_or, cond_true] at hR2
    subst hR2
    simp only [Try.f16, Option.some.injEq] at hc
    subst hc
    (sym =>
     simp [h1,h2,hR,szM,Eb,Ed,Ec,Ee,Ea,D9,Cx.eq_def,Gv.eq_def,Bi.eq_def,H0.eq_def,Za,Zb,Zc,Zd,Ze,Zf,Zg,Zn,Zo,Zp,Zq,Zr,Zs,Zt,Zv,Z5,Z7,Z8,Z9,Qa,Qb,Qc,Qd,Qe,Qf,Qj,Ql,Qm,Qn,Qo,Qq,Qr,Qs,Qt,Qu,Qv,Qw,Qx,Qy,Qz,Q3,Q4,Q5,Ja,Jc,Jd,Je,Jf,Jg,Jh,Ji,Jj,Jk,Jl,Jm,Jn,Js,Jt,Jz,J0,Xd,Xe,Xf,Xg,Xh,Xi,Xj,Xk,Xl,Xm,Xn,Xo,Xp,Xs,Xu,Xv,Xw,Xx,Xy,Xz,X0,X1,X2,X3,X4,X5,X6,X7,X8,Wa,Wb,Wc,Wf,Wg,Wh,Wi,Wj,Wl,Wm,Wn,Wo,Wp,Wq,Wr,Ws,Wt,Wu,Wv,Ww,Wx,Wy,Wz,W0,W3,W4,W5,W6,W7,W8,W9,Ya,Yb,Yc,Yj,Yk,Yl,Ym,Yn,Yo,Yp,Yq,Yr,Ys,Yt,Yu,Yv,Yw,Yx,Yy,Yz,Y0,Y1,Y2,Y3,Y4,Y5,Y6,Y7,Y8,Y9,Va,Vb,Vc,Vd,Ve,Vf,Vg,Vh,Vi,Vj,Vk,Vl,Vm,Vn,Vo,Vp,Vq,Vr,Vs,Vt,Vu,Vv,Vw,Vx,Vy,Vz,V0,V1,V2,V3,V4,V5,V6,V7,V8,V9,Ua,Ub,Uc,Ud,Ue,Uf,Ug,Uh,Ui,Uo,Up,Us,Ut,Uu,Uv,Uw,Ux,Uy,Uz,U0,U1,U2,U3,U4,U5,U6,U7,U8,U9,Ka,Kb,Kc,Kd,Ke,Kf,Kg,Kh,Ki,Kj,Kk,Kl,Km,Kn,Ko,Kq,Kr,Ks,Kt,Ku,Kw,Kz,K0,K1,K2,K3,K4,K5,K6,K7,K8,K9,Ga,Gx,Hd,Gq,Gp,Sn]
     tactic =>
      try simp only [Gl] at *
      try simp only [nc2] at *
      try simp (maxSteps := 4000000) only [h1,h2,hR,szM,G4]
      repeat' (first | with_reducible assumption | with_reducible refine And.intro ?_ ?_ | intro _ | omega | (rw [Gb]; omega))
      all_goals first
        | (with_reducible refine G7 ?_; kernel_rfl)
        | omega
        | rfl
        | skip)
  | false =>
  rw [h1, h2, Bool.false_or, cond_false] at hR2
  have hi0 := h1
  rw [Hq] at hi0
  have hil := h2
  rw [P5] at hil
  obtain ⟨p, rfl⟩ : ∃ p : Nat, i = p := ⟨i.toNat, by omega⟩
  rw [Int.toNat_natCast] at hR2
  have hP := Iy l
  obtain ⟨m, hm⟩ : ∃ m, Gw l = m := ⟨_, rfl⟩
  rw [hm] at hP hR2
  obtain ⟨ks, vs⟩ := m
  have hd := (dfs_inn hP 21 p (S := []) ⟨List.nodup_nil, fun x hx => by cases hx⟩).1
  change Inn l.length (Om l ⟨ks, vs⟩ p) at hd
  have hp2 : L3.post ⟨l, ⟨ks, vs⟩, p⟩ = [.mp ((Om l ⟨ks, vs⟩ p).map enc) ((Tq (Om l ⟨ks, vs⟩ p)).map enc) false] := rfl
  obtain ⟨S, hS⟩ : ∃ S, Om l ⟨ks, vs⟩ p = S := ⟨_, rfl⟩
  rw [hS] at hd hR2 hp2
  have hk1 : Ox (.int .i64 (p : Int)) (S.map enc) = (Li (p : Int) S).map enc := mSetK_I
  have hv1 : Dn (.int .i64 (p : Int)) (.bool true) (S.map enc) ((Tq S).map enc) = (Tq (Li (p : Int) S)).map enc := by rw [mSetV_IB, gSetV_truesK]
  have hset : Inn l.length (Li (p : Int) S) := by
    refine ⟨Im hd.1, fun x hx => ?_⟩
    rw [← Lj, gHas_set, Bool.or_eq_true, Lj, beq_iff_eq] at hx
    rcases hx with hx | rfl
    · exact hd.2 x hx
    · omega
  have hsl := inn_len hset
  obtain ⟨U, hU⟩ : ∃ U, Li (p : Int) S = U := ⟨_, rfl⟩
  rw [hU] at hk1 hv1 hR2 hset hsl
  simp only [Try.f16, Option.some.injEq] at hc
  subst hc
  (sym =>
   simp [h1,h2,hm,Br,szM,Eb,Ed,Ec,Ee,Ea,D9,Cx.eq_def,Gv.eq_def,Bi.eq_def,H0.eq_def,Za,Zb,Zc,Zd,Ze,Zf,Zg,Zn,Zo,Zp,Zq,Zr,Zs,Zt,Zv,Z5,Z7,Z8,Z9,Qa,Qb,Qc,Qd,Qe,Qf,Qj,Ql,Qm,Qn,Qo,Qq,Qr,Qs,Qt,Qu,Qv,Qw,Qx,Qy,Qz,Q3,Q4,Q5,Ja,Jc,Jd,Je,Jf,Jg,Jh,Ji,Jj,Jk,Jl,Jm,Jn,Js,Jt,Jz,J0,Xd,Xe,Xf,Xg,Xh,Xi,Xj,Xk,Xl,Xm,Xn,Xo,Xp,Xs,Xu,Xv,Xw,Xx,Xy,Xz,X0,X1,X2,X3,X4,X5,X6,X7,X8,Wa,Wb,Wc,Wf,Wg,Wh,Wi,Wj,Wl,Wm,Wn,Wo,Wp,Wq,Wr,Ws,Wt,Wu,Wv,Ww,Wx,Wy,Wz,W0,W3,W4,W5,W6,W7,W8,W9,Ya,Yb,Yc,Yj,Yk,Yl,Ym,Yn,Yo,Yp,Yq,Yr,Ys,Yt,Yu,Yv,Yw,Yx,Yy,Yz,Y0,Y1,Y2,Y3,Y4,Y5,Y6,Y7,Y8,Y9,Va,Vb,Vc,Vd,Ve,Vf,Vg,Vh,Vi,Vj,Vk,Vl,Vm,Vn,Vo,Vp,Vq,Vr,Vs,Vt,Vu,Vv,Vw,Vx,Vy,Vz,V0,V1,V2,V3,V4,V5,V6,V7,V8,V9,Ua,Ub,Uc,Ud,Ue,Uf,Ug,Uh,Ui,Uo,Up,Us,Ut,Uu,Uv,Uw,Ux,Uy,Uz,U0,U1,U2,U3,U4,U5,U6,U7,U8,U9,Ka,Kb,Kc,Kd,Ke,Kf,Kg,Kh,Ki,Kj,Kk,Kl,Km,Kn,Ko,Kq,Kr,Ks,Kt,Ku,Kw,Kz,K0,K1,K2,K3,K4,K5,K6,K7,K8,K9,Ga,Gx,Hd,Gq,Gp,Sn]
   tactic =>
    try simp only [Gl] at *
    try simp only [nc2] at *
    try simp (maxSteps := 4000000) only [h1,h2,hm,Br,szM,G4]
    repeat' (first | with_reducible assumption | with_reducible refine And.intro ?_ ?_ | intro _ | omega | (rw [Gb]; omega))
    refine aCallB_ofm (bc := L3) ⟨l, ⟨ks, vs⟩, p⟩ [18] 0 ⟨hf, hP, by show p < l.length; omega⟩ rfl (by simp) (by rw [hp2]; rfl) ?_ ?_ rfl ?_
    · show Hj _ _ [] _
      simp [Hj]
    · show N8 (List.drop 0 _) _
      simp [N8,lk]
    (sym =>
     simp [hp2,hk1,hv1,hR,hR2,Bq,enc_ItI,isE_MB,dec_MB,isE_ItI,dec_ItI,szM,Eb,Ed,Ec,Ee,Ea,D9,Cx.eq_def,Gv.eq_def,Bi.eq_def,H0.eq_def,Za,Zb,Zc,Zd,Ze,Zf,Zg,Zn,Zo,Zp,Zq,Zr,Zs,Zt,Zv,Z5,Z7,Z8,Z9,Qa,Qb,Qc,Qd,Qe,Qf,Qj,Ql,Qm,Qn,Qo,Qq,Qr,Qs,Qt,Qu,Qv,Qw,Qx,Qy,Qz,Q3,Q4,Q5,Ja,Jc,Jd,Je,Jf,Jg,Jh,Ji,Jj,Jk,Jl,Jm,Jn,Js,Jt,Jz,J0,Xd,Xe,Xf,Xg,Xh,Xi,Xj,Xk,Xl,Xm,Xn,Xo,Xp,Xs,Xu,Xv,Xw,Xx,Xy,Xz,X0,X1,X2,X3,X4,X5,X6,X7,X8,Wa,Wb,Wc,Wf,Wg,Wh,Wi,Wj,Wl,Wm,Wn,Wo,Wp,Wq,Wr,Ws,Wt,Wu,Wv,Ww,Wx,Wy,Wz,W0,W3,W4,W5,W6,W7,W8,W9,Ya,Yb,Yc,Yj,Yk,Yl,Ym,Yn,Yo,Yp,Yq,Yr,Ys,Yt,Yu,Yv,Yw,Yx,Yy,Yz,Y0,Y1,Y2,Y3,Y4,Y5,Y6,Y7,Y8,Y9,Va,Vb,Vc,Vd,Ve,Vf,Vg,Vh,Vi,Vj,Vk,Vl,Vm,Vn,Vo,Vp,Vq,Vr,Vs,Vt,Vu,Vv,Vw,Vx,Vy,Vz,V0,V1,V2,V3,V4,V5,V6,V7,V8,V9,Ua,Ub,Uc,Ud,Ue,Uf,Ug,Uh,Ui,Uo,Up,Us,Ut,Uu,Uv,Uw,Ux,Uy,Uz,U0,U1,U2,U3,U4,U5,U6,U7,U8,U9,Ka,Kb,Kc,Kd,Ke,Kf,Kg,Kh,Ki,Kj,Kk,Kl,Km,Kn,Ko,Kq,Kr,Ks,Kt,Ku,Kw,Kz,K0,K1,K2,K3,K4,K5,K6,K7,K8,K9,Ga,Gx,Hd,Gq,Gp,Sn]
     tactic =>
      try simp only [Gl] at *
      try simp only [nc2] at *
      try simp (maxSteps := 4000000) only [hp2,hk1,hv1,hR,hR2,Bq,enc_ItI,isE_MB,dec_MB,isE_ItI,dec_ItI,szM,G4]
      repeat' (first | with_reducible assumption | with_reducible refine And.intro ?_ ?_ | intro _ | omega | (rw [Gb]; omega))
      all_goals first
        | (with_reducible refine G7 ?_; kernel_rfl)
        | omega
        | (have := hset.2 _ ‹_›; omega)
        | skip))
end Go.Am.Graph
set_option linter.unusedSimpArgs false
set_option linter.unusedVariables false
set_option maxHeartbeats 1000000
namespace Go.Am.Graph
open Go.Proofs
open Enc (enc dec)
def Bk {α : Type} (p : α → Bool) (l : List α) : Int := match l.findIdx? p with
  | some i => (i : Int)
  | none => -1
theorem idxP_at {α : Type} {p : α → Bool} {l : List α} {k : Nat} (d : α) (hk : k < l.length) (hno : ∀ j, j < k → p (l.getD j d) = false) (hp : p (l.getD k d) = true) : Bk p l = k := by
  have h : l.findIdx? p = some k := by
    rw [List.findIdx?_eq_some_iff_getElem]
    refine ⟨hk, by simpa [hk] using hp, fun j hj => ?_⟩
    have := hno j hj
    simpa [show j < l.length by omega] using this
  unfold Bk
  rw [h]
theorem idxP_none {α : Type} {p : α → Bool} {l : List α} (d : α) (hno : ∀ j, j < l.length → p (l.getD j d) = false) : Bk p l = -1 := by
  have h : l.findIdx? p = none := by
    rw [List.findIdx?_eq_none_iff]
    intro x hx
    obtain ⟨j, hj, rfl⟩ := List.getElem_of_mem hx
    have := hno j hj
    simpa [hj] using this
  unfold Bk
  rw [h]
theorem idxP_any {α : Type} {p : α → Bool} {l : List α} : leB 0 (Bk p l) = l.any p := by
  unfold Bk
  cases h : l.findIdx? p with
  | none =>
    rw [List.findIdx?_eq_none_iff] at h
    have : l.any p = false := by rw [List.any_eq_false]; intro x hx; rw [h x hx]; simp
    rw [this]
    rfl
  | some i =>
    rw [List.findIdx?_eq_some_iff_getElem] at h
    obtain ⟨hi, hp, _⟩ := h
    have : l.any p = true := by rw [List.any_eq_true]; exact ⟨_, List.getElem_mem hi, hp⟩
    rw [this]
    show leB 0 (i : Int) = true
    rw [Ss]
    omega
def Cn (C : List (List UInt8)) : List Bool := C.map fun _ => true
theorem Io {x : List UInt8} : ∀ {C : List (List UInt8)}, Lv x false C (Cn C) = N6 x C
  | [] => rfl
  | y :: C => by
    show cond (x == y) true (Lv x false C (Cn C)) = ((x == y) || N6 x C)
    rw [Io]
    cases x == y <;> rfl
theorem gSetV_truesS {x : List UInt8} : ∀ {C : List (List UInt8)}, N6 x C = false → T6 x true C (Cn C) = Cn (C ++ [x])
  | [], _ => rfl
  | y :: C, h => by
    simp only [N6, Bool.or_eq_false_iff] at h
    show cond (x == y) (true :: Cn C) (true :: T6 x true C (Cn C)) = true :: Cn (C ++ [x])
    rw [h.1, gSetV_truesS h.2]
    rfl
theorem gSetK_noS {x : List UInt8} {C : List (List UInt8)} (h : N6 x C = false) : Li x C = C ++ [x] := by
  unfold Li
  rw [h]
  rfl
def Dj (C : List (List UInt8)) (s : List UInt8) : Bool := !N6 s C
def M9 (C : List (List UInt8)) : List Obj := [.box false [.mpr 90001], .mp (C.map enc) ((Cn C).map enc) false]
theorem Nt {C : List (List UInt8)} : M9 C = [.box false [.mpr 90001], .mp (C.map enc) ((Cn C).map enc) false] := rfl
theorem canon2 : canon 2 [90000, 90001] := by
  intro j hj
  match j, hj with
  | 0, _ => rfl
  | 1, _ => rfl
def M1 : BCon where
  X := List UInt8 × List (List UInt8)
  ok _ := True
  args x := [.d (.str x.1), .ref 90000 0]
  objs x := M9 x.2
  res x := .bool (Dj x.2 x.1)
  post x := M9 x.2
theorem C4 {s : List UInt8} {C : List (List UInt8)} : M1.res (s, C) = .bool (Dj C s) := rfl
theorem Lm {s : List UInt8} {C : List (List UInt8)} : M1.post (s, C) = M9 C := rfl
noncomputable def P1 : Ctx := ⟨tab, lkC [], 60, lkB [], [], false⟩
theorem bctx_Order_1_1_t : P1.τ = tab := rfl
theorem bctx_Order_1_1_c : P1.Γ = lkC [] := rfl
theorem bctx_Order_1_1_d : P1.dp = 60 := rfl
theorem bctx_Order_1_1_b : P1.Δ = lkB [] := rfl
theorem bctx_Order_1_1_u : P1.cuts = [] := rfl
theorem bctx_Order_1_1_w : P1.wr = false := rfl
theorem A0 : A3 Try.prog (25, M1) := by
  refine ⟨Hh Try.func25 (by kernel_rfl) rfl, ?_⟩
  have K : Mj Try.prog P1 := Nj P8 Ny (by simp) (by simp)
  obtain ⟨c, hc⟩ : ∃ c, Try.f25.body = some c := ⟨_, rfl⟩
  refine Ek K Try.func25 hc [.tmp 3] rfl 8 rfl (fun x hok => ?_)
  obtain ⟨s, C⟩ := x
  refine ⟨?_, ?_, ?_, ?_, ?_⟩
  · show Sq [.d (.str s), .ref 90000 0] (M9 C)
    rw [Nt]
    simp [Sq,P7,Obj.tied,Hf,keptAll,AV.kept,Hc,Bj,lk]
  · show Hf (M9 C)
    rw [Nt]
    simp [Hf]
  · show Sq [] (M9 C)
    rw [Nt]
    simp [Sq,P7,Obj.tied,Hf,keptAll,AV.kept,Hc,Bj,lk]
  · exact Nat.le_refl _
  show awp _ c (PostB _ _ (M9 C).length (.bool (Dj C s)) (M9 C)) ⟨[.d (.str s), .ref 90000 0] ++ Tx 6, Hc (M9 C)⟩
  rw [Nt]
  simp only [Try.f25, Option.some.injEq] at hc
  subst hc
  (sym =>
   simp [H5,mGet_SB,Io,Dj.eq_1,bctx_Order_1_1_t,bctx_Order_1_1_c,bctx_Order_1_1_d,bctx_Order_1_1_b,bctx_Order_1_1_u,bctx_Order_1_1_w,Za,Zb,Zc,Ze,Zf,Zg,Zn,Zo,Zp,Zq,Zr,Zs,Zv,Z9,Qa,Qb,Qf,Qj,Ql,Qm,Qn,Qo,Qq,Qr,Qs,Qt,Qu,Qv,Qw,Qx,Qy,Qz,Q3,Q5,Ja,Jc,Jd,Je,Jf,Jg,Jh,Ji,Jj,Jk,Jl,Jm,Jn,Js,Jt,Jz,J0,Xd,Xe,Xf,Xg,Xh,Xi,Xj,Xk,Xl,Xm,Xn,Xo,Xp,Xs,Xu,Xv,Xw,Xx,Xy,Xz,X0,X1,X2,X3,X4,X5,X6,X7,X8,Wa,Wb,Wc,Wf,Wg,Wh,Wi,Wj,Wl,Wm,Wn,Wo,Wp,Wq,Wr,Ws,Wt,Wu,Wv,Ww,Wx,Wy,Wz,W0,W3,W4,W5,W6,W7,W8,W9,Ya,Yb,Yc,Yj,Yk,Yl,Ym,Yn,Yo,Yp,Yq,Yr,Ys,Yt,Yu,Yv,Yw,Yx,Yy,Yz,Y0,Y1,Y2,Y3,Y4,Y5,Y6,Y7,Y8,Y9,Va,Vb,Vc,Vd,Ve,Vf,Vg,Vh,Vi,Vj,Vk,Vl,Vm,Vn,Vo,Vp,Vq,Vr,Vs,Vt,Vu,Vv,Vw,Vx,Vy,Vz,V0,V1,V2,V3,V4,V5,V6,V7,V8,V9,Ua,Ub,Uc,Ud,Ue,Uf,Ug,Uh,Ui,Uo,Up,Us,Ut,Uu,Uv,Uw,Ux,Uy,Uz,U0,U1,U2,U3,U4,U5,U6,U7,U8,U9,Ka,Kb,Kc,Kd,Ke,Kf,Kg,Kh,Ki,Kj,Kk,Kl,Km,Kn,Ko,Kq,Kr,Ks,Kt,Ku,Kv,Ky,Kz,K1,K2,K3,K4,K5,K6,K7,K8,K9,Ga,Hd,Hb,A5]
   tactic =>
    try simp only [Gl] at *
    try simp only [nc2] at *
    try simp (maxSteps := 4000000) only [H5,mGet_SB,Io,Dj.eq_1,G4]
    repeat' (first | with_reducible assumption | with_reducible refine And.intro ?_ ?_ | intro _ | omega | (rw [Gb]; omega))
    refine ⟨[90000, 90001], by simp, rfl, canon2, ?_⟩
    simp [Hj,lk,rnO,rnA,rnAs,rk])
def Tz : BCon where
  X := List (List UInt8) × List (List UInt8)
  ok x := x.1.length ≤ 1000000
  args x := [.d (.list 1 (x.1.map enc)), .clo 25 [.ref 90000 0]]
  objs x := M9 x.2
  res x := .int .i64 (Bk (Dj x.2) x.1)
  post x := M9 x.2
theorem indexA_res {l C : List (List UInt8)} : Tz.res (l, C) = .int .i64 (Bk (Dj C) l) := rfl
theorem Il {l C : List (List UInt8)} : Tz.post (l, C) = M9 C := rfl
noncomputable def L1 : Ctx := ⟨tab, lkC [], 60, lkB [(25, M1)], [], false⟩
theorem S5 : L1.τ = tab := rfl
theorem S7 : L1.Γ = lkC [] := rfl
theorem S6 : L1.dp = 60 := rfl
theorem S8 : L1.Δ = lkB [(25, M1)] := rfl
theorem S4 : L1.cuts = [] := rfl
theorem S3 : L1.wr = false := rfl
theorem goodb_IndexA : A3 Try.prog (23, Tz) := by
  refine ⟨Hh Try.func23 (by kernel_rfl) rfl, ?_⟩
  have K : Mj Try.prog L1 := Nj P8 Ny (by simp) (by
    intro p hp
    simp only [List.mem_cons, List.not_mem_nil, or_false] at hp
    rcases hp with rfl
    · exact A0)
  obtain ⟨c, hc⟩ : ∃ c, Try.f23.body = some c := ⟨_, rfl⟩
  refine Ek K Try.func23 hc [.tmp 4] rfl 19 rfl (fun x hok => ?_)
  obtain ⟨l, C⟩ := x
  change l.length ≤ 1000000 at hok
  refine ⟨?_, ?_, ?_, ?_, ?_⟩
  · show Sq [.d (.list 1 (l.map enc)), .clo 25 [.ref 90000 0]] (M9 C)
    rw [Nt]
    simp [Sq,P7,Obj.tied,Hf,keptAll,AV.kept,Hc,Bj,lk]
  · show Hf (M9 C)
    rw [Nt]
    simp [Hf]
  · show Sq [] (M9 C)
    rw [Nt]
    simp [Sq,P7,Obj.tied,Hf,keptAll,AV.kept,Hc,Bj,lk]
  · exact Nat.le_refl _
  show awp _ c (PostB _ _ (M9 C).length (.int .i64 (Bk (Dj C) l)) (M9 C)) ⟨[.d (.list 1 (l.map enc)), .clo 25 [.ref 90000 0]] ++ Tx 17, Hc (M9 C)⟩
  rw [Nt]
  simp only [Try.f23, Option.some.injEq] at hc
  subst hc
  (sym =>
   simp [S5,S7,S6,S8,S4,S3,Za,Zb,Zc,Ze,Zf,Zg,Zn,Zo,Zp,Zq,Zr,Zs,Zv,Zy,Z5,Z7,Z8,Z9,Qa,Qb,Qc,Qd,Qe,Qf,Qj,Qk,Ql,Qm,Qn,Qo,Qq,Qr,Qs,Qt,Qu,Qv,Qw,Qx,Qy,Qz,Q3,Q4,Q5,Ja,Jc,Jd,Je,Jf,Jg,Jh,Ji,Jj,Jk,Jl,Jm,Jn,Js,Jt,Ju,Jv,Jw,Jz,J0,Xd,Xe,Xf,Xg,Xh,Xi,Xj,Xk,Xl,Xm,Xn,Xo,Xp,Xs,Xu,Xv,Xw,Xx,Xy,Xz,X0,X1,X2,X3,X4,X5,X6,X7,X8,X9,Wa,Wb,Wc,Wf,Wg,Wh,Wi,Wj,Wl,Wm,Wn,Wo,Wp,Wq,Wr,Ws,Wt,Wu,Wv,Ww,Wx,Wy,Wz,W0,W3,W4,W5,W6,W7,W8,W9,Ya,Yb,Yc,Yi,Yj,Yk,Yl,Ym,Yn,Yo,Yp,Yq,Yr,Ys,Yt,Yu,Yv,Yw,Yx,Yy,Yz,Y0,Y1,Y2,Y3,Y4,Y5,Y6,Y7,Y8,Y9,Va,Vb,Vc,Vd,Ve,Vf,Vg,Vh,Vi,Vj,Vk,Vl,Vm,Vn,Vo,Vp,Vq,Vr,Vs,Vt,Vu,Vv,Vw,Vx,Vy,Vz,V0,V1,V2,V3,V4,V5,V6,V7,V8,V9,Ua,Ub,Uc,Ud,Ue,Uf,Ug,Uh,Ui,Uo,Up,Us,Ut,Uu,Uv,Uw,Ux,Uy,Uz,U0,U1,U2,U3,U4,U5,U6,U7,U8,U9,Ka,Kb,Kc,Kd,Ke,Kf,Kg,Kh,Ki,Kj,Kk,Kl,Km,Kn,Ko,Kq,Kr,Ks,Kt,Ku,K1,K2,K3,K4,K5,K6,K7,K8,K9,Ga,Gx,Hb,Gy,Ax]
   tactic =>
    try simp only [Gl] at *
    try simp only [nc2] at *
    try simp (maxSteps := 4000000) only [G4]
    repeat' (first | with_reducible assumption | with_reducible refine And.intro ?_ ?_ | intro _ | omega | (rw [Gb]; omega))
    refine Ha [4, 5, 9, 10, 11, 12, 13, 14, 15, 16, 17, 18] (fun k : Nat => [(8, .d (.int .i64 k))]) (fun k : Nat => []) (fun k : Nat => k ≤ l.length ∧ ∀ j, j < k → Dj C (l.getD j []) = false) (fun k : Nat => l.length - k) 0 ?_ ?_ ?_
    · simp
    · ((try simp only [Gd, Gj, Gi, Gs, upd, Gt, G5, Hn, Nat.reduceDiv, Nat.reduceMod, Nat.reduceMul, Nat.reduceAdd, Nat.reduceEqDiff, List.set_cons_zero, List.set_cons_succ, if_true, if_false, reduceIte]); (first | refine Wk.of_fl ?_ | skip); simp only [Wk, wkK, Ht, wkT, wk1, AV.kept, keptAll, wkO, lk, Ge, and_true, true_and, and_self, Nat.reduceEqDiff, Nat.reduceLeDiff, if_true, if_false, reduceIte, reduceCtorEq, Option.isSome, false_implies]; try simp [Wk, wkK, wkT, wk1, AV.kept, keptAll, wkO, lk, Ge])
    rintro k ⟨hk, hno⟩
    rcases Hg k l.length with ⟨hlt, hlb⟩ | ⟨hlt, hlb⟩
    · have q1 := Hp ([] : List UInt8) hlt
      have hst : Dj C (l.getD k []) = false → ∀ j, j < k + 1 → Dj C (l.getD j []) = false := fun h => Ok hno h
      have hit : Dj C (l.getD k []) = true → Bk (Dj C) l = k := fun h => idxP_at [] hlt hno h
      obtain ⟨y, hy⟩ : ∃ y, l.getD k [] = y := ⟨_, rfl⟩
      rw [hy] at q1 hst hit
      (sym =>
       simp [hlb,q1,S5,S7,S6,S8,S4,S3,Za,Zb,Zc,Ze,Zf,Zg,Zn,Zo,Zp,Zq,Zr,Zs,Zv,Zy,Z5,Z7,Z8,Z9,Qa,Qb,Qc,Qd,Qe,Qf,Qj,Qk,Ql,Qm,Qn,Qo,Qq,Qr,Qs,Qt,Qu,Qv,Qw,Qx,Qy,Qz,Q3,Q4,Q5,Ja,Jc,Jd,Je,Jf,Jg,Jh,Ji,Jj,Jk,Jl,Jm,Jn,Js,Jt,Ju,Jv,Jw,Jz,J0,Xd,Xe,Xf,Xg,Xh,Xi,Xj,Xk,Xl,Xm,Xn,Xo,Xp,Xs,Xu,Xv,Xw,Xx,Xy,Xz,X0,X1,X2,X3,X4,X5,X6,X7,X8,X9,Wa,Wb,Wc,Wf,Wg,Wh,Wi,Wj,Wl,Wm,Wn,Wo,Wp,Wq,Wr,Ws,Wt,Wu,Wv,Ww,Wx,Wy,Wz,W0,W3,W4,W5,W6,W7,W8,W9,Ya,Yb,Yc,Yi,Yj,Yk,Yl,Ym,Yn,Yo,Yp,Yq,Yr,Ys,Yt,Yu,Yv,Yw,Yx,Yy,Yz,Y0,Y1,Y2,Y3,Y4,Y5,Y6,Y7,Y8,Y9,Va,Vb,Vc,Vd,Ve,Vf,Vg,Vh,Vi,Vj,Vk,Vl,Vm,Vn,Vo,Vp,Vq,Vr,Vs,Vt,Vu,Vv,Vw,Vx,Vy,Vz,V0,V1,V2,V3,V4,V5,V6,V7,V8,V9,Ua,Ub,Uc,Ud,Ue,Uf,Ug,Uh,Ui,Uo,Up,Us,Ut,Uu,Uv,Uw,Ux,Uy,Uz,U0,U1,U2,U3,U4,U5,U6,U7,U8,U9,Ka,Kb,Kc,Kd,Ke,Kf,Kg,Kh,Ki,Kj,Kk,Kl,Km,Kn,Ko,Kq,Kr,Ks,Kt,Ku,K1,K2,K3,K4,K5,K6,K7,K8,K9,Ga,Gx,Hb,Gy,Ax]
       tactic =>
        try simp only [Gl] at *
        try simp only [nc2] at *
        try simp (maxSteps := 4000000) only [hlb,q1,G4]
        repeat' (first | with_reducible assumption | with_reducible refine And.intro ?_ ?_ | intro _ | omega | (rw [Gb]; omega))
        refine T0 (bc := M1) (y, C) [90000, 90001] trivial rfl (by simp) (by rw [Lm]; rfl) ?_ ?_ ?_
        · show Hj _ _ (M9 C) _
          rw [Nt]
          simp [Hj,lk,rnO,rnA,rnAs,rk]
        · show N8 (List.drop (M9 C).length _) _
          rw [Nt]
          simp [N8,lk]
        cases hs : Dj C y with
        | false =>
          have h2 := hst hs
          (sym =>
           simp [C4,Lm,hs,Nt,S5,S7,S6,S8,S4,S3,Za,Zb,Zc,Ze,Zf,Zg,Zn,Zo,Zp,Zq,Zr,Zs,Zv,Zy,Z5,Z7,Z8,Z9,Qa,Qb,Qc,Qd,Qe,Qf,Qj,Qk,Ql,Qm,Qn,Qo,Qq,Qr,Qs,Qt,Qu,Qv,Qw,Qx,Qy,Qz,Q3,Q4,Q5,Ja,Jc,Jd,Je,Jf,Jg,Jh,Ji,Jj,Jk,Jl,Jm,Jn,Js,Jt,Ju,Jv,Jw,Jz,J0,Xd,Xe,Xf,Xg,Xh,Xi,Xj,Xk,Xl,Xm,Xn,Xo,Xp,Xs,Xu,Xv,Xw,Xx,Xy,Xz,X0,X1,X2,X3,X4,X5,X6,X7,X8,X9,Wa,Wb,Wc,Wf,Wg,Wh,Wi,Wj,Wl,Wm,Wn,Wo,Wp,Wq,Wr,Ws,Wt,Wu,Wv,Ww,Wx,Wy,Wz,W0,W3,W4,W5,W6,W7,W8,W9,Ya,Yb,Yc,Yi,Yj,Yk,Yl,Ym,Yn,Yo,Yp,Yq,Yr,Ys,Yt,Yu,Yv,Yw,Yx,Yy,Yz,Y0,Y1,Y2,Y3,Y4,Y5,Y6,Y7,Y8,Y9,Va,Vb,Vc,Vd,Ve,Vf,Vg,Vh,Vi,Vj,Vk,Vl,Vm,Vn,Vo,Vp,Vq,Vr,Vs,Vt,Vu,Vv,Vw,Vx,Vy,Vz,V0,V1,V2,V3,V4,V5,V6,V7,V8,V9,Ua,Ub,Uc,Ud,Ue,Uf,Ug,Uh,Ui,Uo,Up,Us,Ut,Uu,Uv,Uw,Ux,Uy,Uz,U0,U1,U2,U3,U4,U5,U6,U7,U8,U9,Ka,Kb,Kc,Kd,Ke,Kf,Kg,Kh,Ki,Kj,Kk,Kl,Km,Kn,Ko,Kq,Kr,Ks,Kt,Ku,K1,K2,K3,K4,K5,K6,K7,K8,K9,Ga,Gx,Hb,Gy,Ax]
           tactic =>
            try simp only [Gl] at *
            try simp only [nc2] at *
            try simp (maxSteps := 4000000) only [C4,Lm,hs,Nt,G4]
            repeat' (first | with_reducible assumption | with_reducible refine And.intro ?_ ?_ | intro _ | omega | (rw [Gb]; omega))
            all_goals first
              | omega
              | exact ⟨k + 1, by ((try simp only [Gd, Gj, Gi, Gs, upd, Gt, G5, Hn, Nat.reduceDiv, Nat.reduceMod, Nat.reduceMul, Nat.reduceAdd, Nat.reduceEqDiff, List.set_cons_zero, List.set_cons_succ, if_true, if_false, reduceIte]); (first | refine Wk.of_fl ?_ | skip); simp only [Wk, wkK, Ht, wkT, wk1, AV.kept, keptAll, wkO, lk, Ge, and_true, true_and, and_self, Nat.reduceEqDiff, Nat.reduceLeDiff, if_true, if_false, reduceIte, reduceCtorEq, Option.isSome, false_implies]; try simp [Wk, wkK, wkT, wk1, AV.kept, keptAll, wkO, lk, Ge]), by omega, h2, by omega⟩
              | skip)
        | true =>
          have hr := hit hs
          (sym =>
           simp [C4,Lm,hs,hr,Nt,S5,S7,S6,S8,S4,S3,Za,Zb,Zc,Ze,Zf,Zg,Zn,Zo,Zp,Zq,Zr,Zs,Zv,Zy,Z5,Z7,Z8,Z9,Qa,Qb,Qc,Qd,Qe,Qf,Qj,Qk,Ql,Qm,Qn,Qo,Qq,Qr,Qs,Qt,Qu,Qv,Qw,Qx,Qy,Qz,Q3,Q4,Q5,Ja,Jc,Jd,Je,Jf,Jg,Jh,Ji,Jj,Jk,Jl,Jm,Jn,Js,Jt,Ju,Jv,Jw,Jz,J0,Xd,Xe,Xf,Xg,Xh,Xi,Xj,Xk,Xl,Xm,Xn,Xo,Xp,Xs,Xu,Xv,Xw,Xx,Xy,Xz,X0,X1,X2,X3,X4,X5,X6,X7,X8,X9,Wa,Wb,Wc,Wf,Wg,Wh,Wi,Wj,Wl,Wm,Wn,Wo,Wp,Wq,Wr,Ws,Wt,Wu,Wv,Ww,Wx,Wy,Wz,W0,W3,W4,W5,W6,W7,W8,W9,Ya,Yb,Yc,Yi,Yj,Yk,Yl,Ym,Yn,Yo,Yp,Yq,Yr,Ys,Yt,Yu,Yv,Yw,Yx,Yy,Yz,Y0,Y1,Y2,Y3,Y4,Y5,Y6,Y7,Y8,Y9,Va,Vb,Vc,Vd,Ve,Vf,Vg,Vh,Vi,Vj,Vk,Vl,Vm,Vn,Vo,Vp,Vq,Vr,Vs,Vt,Vu,Vv,Vw,Vx,Vy,Vz,V0,V1,V2,V3,V4,V5,V6,V7,V8,V9,Ua,Ub,Uc,Ud,Ue,Uf,Ug,Uh,Ui,Uo,Up,Us,Ut,Uu,Uv,Uw,Ux,Uy,Uz,U0,U1,U2,U3,U4,U5,U6,U7,U8,U9,Ka,Kb,Kc,Kd,Ke,Kf,Kg,Kh,Ki,Kj,Kk,Kl,Km,Kn,Ko,Kq,Kr,Ks,Kt,Ku,K1,K2,K3,K4,K5,K6,K7,K8,K9,Ga,Gx,Hb,Gy,Ax]
           tactic =>
            try simp only [Gl] at *
            try simp only [nc2] at *
            try simp (maxSteps := 4000000) only [C4,Lm,hs,hr,Nt,G4]
            repeat' (first | with_reducible assumption | with_reducible refine And.intro ?_ ?_ | intro _ | omega | (rw [Gb]; omega))
            all_goals first
              | omega
              | (refine ⟨[90000, 90001], by simp, rfl, canon2, ?_⟩; simp [Hj, lk, rnO, rnA, rnAs, rk]; done)
              | skip))
    · have hr := idxP_none (p := Dj C) (l := l) [] (fun j hj => hno j (by omega))
      (sym =>
       simp [hlb,hr,S5,S7,S6,S8,S4,S3,Za,Zb,Zc,Ze,Zf,Zg,Zn,Zo,Zp,Zq,Zr,Zs,Zv,Zy,Z5,Z7,Z8,Z9,Qa,Qb,Qc,Qd,Qe,Qf,Qj,Qk,Ql,Qm,Qn,Qo,Qq,Qr,Qs,Qt,Qu,Qv,Qw,Qx,Qy,Qz,Q3,Q4,Q5,Ja,Jc,Jd,Je,Jf,Jg,Jh,Ji,Jj,Jk,Jl,Jm,Jn,Js,Jt,Ju,Jv,Jw,Jz,J0,Xd,Xe,Xf,Xg,Xh,Xi,Xj,Xk,Xl,Xm,Xn,Xo,Xp,Xs,Xu,Xv,Xw,Xx,Xy,Xz,X0,X1,X2,X3,X4,X5,X6,X7,X8,X9,Wa,Wb,Wc,Wf,Wg,Wh,Wi,Wj,Wl,Wm,Wn,Wo,Wp,Wq,Wr,Ws,Wt,Wu,Wv,Ww,Wx,Wy,Wz,W0,W3,W4,W5,W6,W7,W8,W9,Ya,Yb,Yc,Yi,Yj,Yk,Yl,Ym,Yn,Yo,Yp,Yq,Yr,Ys,Yt,Yu,Yv,Yw,Yx,Yy,Yz,Y0,Y1,Y2,Y3,Y4,Y5,Y6,Y7,Y8,Y9,Va,Vb,Vc,Vd,Ve,Vf,Vg,Vh,Vi,Vj,Vk,Vl,Vm,Vn,Vo,Vp,Vq,Vr,Vs,Vt,Vu,Vv,Vw,Vx,Vy,Vz,V0,V1,V2,V3,V4,V5,V6,V7,V8,V9,Ua,Ub,Uc,Ud,Ue,Uf,Ug,Uh,Ui,Uo,Up,Us,Ut,Uu,Uv,Uw,Ux,Uy,Uz,U0,U1,U2,U3,U4,U5,U6,U7,U8,U9,Ka,Kb,Kc,Kd,Ke,Kf,Kg,Kh,Ki,Kj,Kk,Kl,Km,Kn,Ko,Kq,Kr,Ks,Kt,Ku,K1,K2,K3,K4,K5,K6,K7,K8,K9,Ga,Gx,Hb,Gy,Ax]
       tactic =>
        try simp only [Gl] at *
        try simp only [nc2] at *
        try simp (maxSteps := 4000000) only [hlb,hr,G4]
        repeat' (first | with_reducible assumption | with_reducible refine And.intro ?_ ?_ | intro _ | omega | (rw [Gb]; omega))
        refine ⟨[90000, 90001], by simp, rfl, canon2, ?_⟩
        simp [Hj,lk,rnO,rnA,rnAs,rk]))
def M8 : BCon where
  X := List (List UInt8) × List (List UInt8)
  ok x := x.1.length ≤ 1000000
  args x := [.d (.list 1 (x.1.map enc)), .clo 25 [.ref 90000 0]]
  objs x := M9 x.2
  res x := .bool (x.1.any (Dj x.2))
  post x := M9 x.2
theorem O1 {l C : List (List UInt8)} : M8.res (l, C) = .bool (l.any (Dj C)) := rfl
theorem Ez {l C : List (List UInt8)} : M8.post (l, C) = M9 C := rfl
noncomputable def Mp : Ctx := ⟨tab, lkC [], 60, lkB [(23, Tz)], [], false⟩
theorem Db : Mp.τ = tab := rfl
theorem Dd : Mp.Γ = lkC [] := rfl
theorem Dc : Mp.dp = 60 := rfl
theorem De : Mp.Δ = lkB [(23, Tz)] := rfl
theorem Da : Mp.cuts = [] := rfl
theorem C9 : Mp.wr = false := rfl
theorem On : A3 Try.prog (26, M8) := by
  refine ⟨Hh Try.func26 (by kernel_rfl) rfl, ?_⟩
  have K : Mj Try.prog Mp := Nj P8 Ny (by simp) (by
    intro p hp
    simp only [List.mem_cons, List.not_mem_nil, or_false] at hp
    rcases hp with rfl
    · exact goodb_IndexA)
  obtain ⟨c, hc⟩ : ∃ c, Try.f26.body = some c := ⟨_, rfl⟩
  refine Ek K Try.func26 hc [.tmp 4] rfl 9 rfl (fun x hok => ?_)
  obtain ⟨l, C⟩ := x
  change l.length ≤ 1000000 at hok
  refine ⟨?_, ?_, ?_, ?_, ?_⟩
  · show Sq [.d (.list 1 (l.map enc)), .clo 25 [.ref 90000 0]] (M9 C)
    rw [Nt]
    simp [Sq,P7,Obj.tied,Hf,keptAll,AV.kept,Hc,Bj,lk]
  · show Hf (M9 C)
    rw [Nt]
    simp [Hf]
  · show Sq [] (M9 C)
    rw [Nt]
    simp [Sq,P7,Obj.tied,Hf,keptAll,AV.kept,Hc,Bj,lk]
  · exact Nat.le_refl _
  show awp _ c (PostB _ _ (M9 C).length (.bool (l.any (Dj C))) (M9 C)) ⟨[.d (.list 1 (l.map enc)), .clo 25 [.ref 90000 0]] ++ Tx 7, Hc (M9 C)⟩
  rw [Nt, ← idxP_any]
  obtain ⟨z, hz⟩ : ∃ z, Bk (Dj C) l = z := ⟨_, rfl⟩
  rw [hz]
  simp only [Try.f26, Option.some.injEq] at hc
  subst hc
  (sym =>
   simp [Db,Dd,Dc,De,Da,C9,Za,Zb,Zc,Ze,Zf,Zg,Zn,Zo,Zp,Zq,Zr,Zs,Zv,Z7,Z8,Z9,Qa,Qb,Qc,Qd,Qe,Qf,Qj,Ql,Qm,Qn,Qo,Qq,Qr,Qs,Qt,Qu,Qv,Qw,Qx,Qy,Qz,Q3,Q4,Q5,Ja,Jc,Jd,Je,Jf,Jg,Jh,Ji,Jj,Jk,Jl,Jm,Jn,Js,Jt,Jz,J0,Xd,Xe,Xf,Xg,Xh,Xi,Xj,Xk,Xl,Xm,Xn,Xo,Xp,Xs,Xu,Xv,Xw,Xx,Xy,Xz,X0,X1,X2,X3,X4,X5,X6,X7,X8,Wa,Wb,Wc,Wf,Wg,Wh,Wi,Wj,Wl,Wm,Wn,Wo,Wp,Wq,Wr,Ws,Wt,Wu,Wv,Ww,Wx,Wy,Wz,W0,W3,W4,W5,W6,W7,W8,W9,Ya,Yb,Yc,Yj,Yk,Yl,Ym,Yn,Yo,Yp,Yq,Yr,Ys,Yt,Yu,Yv,Yw,Yx,Yy,Yz,Y0,Y1,Y2,Y3,Y4,Y5,Y6,Y7,Y8,Y9,Va,Vb,Vc,Vd,Ve,Vf,Vg,Vh,Vi,Vj,Vk,Vl,Vm,Vn,Vo,Vp,Vq,Vr,Vs,Vt,Vu,Vv,Vw,Vx,Vy,Vz,V0,V1,V2,V3,V4,V5,V6,V7,V8,V9,Ua,Ub,Uc,Ud,Ue,Uf,Ug,Uh,Ui,Uo,Up,Us,Ut,Uu,Uv,Uw,Ux,Uy,Uz,U0,U1,U2,U3,U4,U5,U6,U7,U8,U9,Ka,Kb,Kc,Kd,Ke,Kf,Kg,Kh,Ki,Kj,Kk,Kl,Km,Kn,Ko,Kq,Kr,Ks,Kt,Ku,K1,K2,K3,K4,K5,K6,K7,K8,K9,Ga,Gx,Hb,Gy,Ax]
   tactic =>
    try simp only [Gl] at *
    try simp only [nc2] at *
    try simp (maxSteps := 4000000) only [G4]
    repeat' (first | with_reducible assumption | with_reducible refine And.intro ?_ ?_ | intro _ | omega | (rw [Gb]; omega))
    refine T0 (bc := Tz) (l, C) [90000, 90001] hok rfl (by simp) (by rw [Il]; rfl) ?_ ?_ ?_
    · show Hj _ _ (M9 C) _
      rw [Nt]
      simp [Hj,lk,rnO,rnA,rnAs,rk]
    · show N8 (List.drop (M9 C).length _) _
      rw [Nt]
      simp [N8,lk]
    (sym =>
     simp [indexA_res,Il,hz,Nt,Db,Dd,Dc,De,Da,C9,Za,Zb,Zc,Ze,Zf,Zg,Zn,Zo,Zp,Zq,Zr,Zs,Zv,Z7,Z8,Z9,Qa,Qb,Qc,Qd,Qe,Qf,Qj,Ql,Qm,Qn,Qo,Qq,Qr,Qs,Qt,Qu,Qv,Qw,Qx,Qy,Qz,Q3,Q4,Q5,Ja,Jc,Jd,Je,Jf,Jg,Jh,Ji,Jj,Jk,Jl,Jm,Jn,Js,Jt,Jz,J0,Xd,Xe,Xf,Xg,Xh,Xi,Xj,Xk,Xl,Xm,Xn,Xo,Xp,Xs,Xu,Xv,Xw,Xx,Xy,Xz,X0,X1,X2,X3,X4,X5,X6,X7,X8,Wa,Wb,Wc,Wf,Wg,Wh,Wi,Wj,Wl,Wm,Wn,Wo,Wp,Wq,Wr,Ws,Wt,Wu,Wv,Ww,Wx,Wy,Wz,W0,W3,W4,W5,W6,W7,W8,W9,Ya,Yb,Yc,Yj,Yk,Yl,Ym,Yn,Yo,Yp,Yq,Yr,Ys,Yt,Yu,Yv,Yw,Yx,Yy,Yz,Y0,Y1,Y2,Y3,Y4,Y5,Y6,Y7,Y8,Y9,Va,Vb,Vc,Vd,Ve,Vf,Vg,Vh,Vi,Vj,Vk,Vl,Vm,Vn,Vo,Vp,Vq,Vr,Vs,Vt,Vu,Vv,Vw,Vx,Vy,Vz,V0,V1,V2,V3,V4,V5,V6,V7,V8,V9,Ua,Ub,Uc,Ud,Ue,Uf,Ug,Uh,Ui,Uo,Up,Us,Ut,Uu,Uv,Uw,Ux,Uy,Uz,U0,U1,U2,U3,U4,U5,U6,U7,U8,U9,Ka,Kb,Kc,Kd,Ke,Kf,Kg,Kh,Ki,Kj,Kk,Kl,Km,Kn,Ko,Kq,Kr,Ks,Kt,Ku,K1,K2,K3,K4,K5,K6,K7,K8,K9,Ga,Gx,Hb,Gy,Ax]
     tactic =>
      try simp only [Gl] at *
      try simp only [nc2] at *
      try simp (maxSteps := 4000000) only [indexA_res,Il,hz,Nt,G4]
      repeat' (first | with_reducible assumption | with_reducible refine And.intro ?_ ?_ | intro _ | omega | (rw [Gb]; omega))
      refine ⟨[90000, 90001], by simp, rfl, canon2, ?_⟩
      simp [Hj,lk,rnO,rnA,rnAs,rk]))
def Pv (l : List Mod) (m : MS) (C : List (List UInt8)) (s : List UInt8) : Bool := Dj C s && !((imp l (Lv s 0 m.ks m.vs).toNat).any (Dj C))
structure OX where
  l : List Mod
  m : MS
  C : List (List UInt8)
def Lq (x : OX) : List Obj := [.box false [.mpr 90003], .box false [.d (.list 4 (x.l.map enc))], .box false [.d (.map (x.m.ks.map enc) (x.m.vs.map enc))], .mp (x.C.map enc) ((Cn x.C).map enc) false]
theorem Pj {l : List Mod} {m : MS} {C : List (List UInt8)} : Lq ⟨l, m, C⟩ = [.box false [.mpr 90003], .box false [.d (.list 4 (l.map enc))], .box false [.d (.map (m.ks.map enc) (m.vs.map enc))], .mp (C.map enc) ((Cn C).map enc) false] := rfl
theorem canon4 : canon 4 [90000, 90001, 90002, 90003] := by
  intro j hj
  match j, hj with
  | 0, _ => rfl
  | 1, _ => rfl
  | 2, _ => rfl
  | 3, _ => rfl
def Sj : BCon where
  X := List UInt8 × OX
  ok x := Ph x.2.l = true ∧ Places x.2.l x.2.m ∧ N6 x.1 x.2.m.ks = true
  args x := [.d (.str x.1), .ref 90000 0, .ref 90001 0, .ref 90002 0]
  objs x := Lq x.2
  res x := .bool (Pv x.2.l x.2.m x.2.C x.1)
  post x := Lq x.2
theorem R4 {s : List UInt8} {l : List Mod} {m : MS} {C : List (List UInt8)} : Sj.res (s, ⟨l, m, C⟩) = .bool (Pv l m C s) := rfl
theorem C3 {s : List UInt8} {l : List Mod} {m : MS} {C : List (List UInt8)} : Sj.post (s, ⟨l, m, C⟩) = Lq ⟨l, m, C⟩ := rfl
noncomputable def Lg : Ctx := ⟨tab, lkC [], 60, lkB [(25, M1), (26, M8)], [], false⟩
theorem Cf : Lg.τ = tab := rfl
theorem Ch : Lg.Γ = lkC [] := rfl
theorem Cg : Lg.dp = 60 := rfl
theorem Ci : Lg.Δ = lkB [(25, M1), (26, M8)] := rfl
theorem Ce : Lg.cuts = [] := rfl
theorem Cd : Lg.wr = false := rfl
set_option maxRecDepth 100000 in
theorem goodb_Order_1 : A3 Try.prog (24, Sj) := by
  refine ⟨Hh Try.func24 (by kernel_rfl) rfl, ?_⟩
  have K : Mj Try.prog Lg := Nj P8 Ny (by simp) (by
    intro p hp
    simp only [List.mem_cons, List.not_mem_nil, or_false] at hp
    rcases hp with rfl | rfl
    · exact A0
    · exact On)
  obtain ⟨c, hc⟩ : ∃ c, Try.f24.body = some c := ⟨_, rfl⟩
  refine Ek K Try.func24 hc [.tmp 5] rfl 23 rfl (fun x hok => ?_)
  obtain ⟨s, l, m, C⟩ := x
  obtain ⟨hf, hP, hs⟩ := hok
  simp only at hf hP hs
  refine ⟨?_, ?_, ?_, ?_, ?_⟩
  · show Sq [.d (.str s), .ref 90000 0, .ref 90001 0, .ref 90002 0] (Lq ⟨l, m, C⟩)
    rw [Pj]
    simp [Sq,P7,Obj.tied,Hf,keptAll,AV.kept,Hc,Bj,lk]
  · show Hf (Lq ⟨l, m, C⟩)
    rw [Pj]
    simp [Hf]
  · show Sq [] (Lq ⟨l, m, C⟩)
    rw [Pj]
    simp [Sq,P7,Obj.tied,Hf,keptAll,AV.kept,Hc,Bj,lk]
  · exact Nat.le_refl _
  show awp _ c (PostB _ _ (Lq ⟨l, m, C⟩).length (.bool (Pv l m C s)) (Lq ⟨l, m, C⟩)) ⟨[.d (.str s), .ref 90000 0, .ref 90001 0, .ref 90002 0] ++ Tx 19, Hc (Lq ⟨l, m, C⟩)⟩
  rw [Pj]
  obtain ⟨ks, vs⟩ := m
  simp only at hs
  obtain ⟨p1, p2⟩ := hP s hs
  simp only at p1 p2
  obtain ⟨R, hR⟩ : ∃ R, Pv l ⟨ks, vs⟩ C s = R := ⟨_, rfl⟩
  rw [hR]
  unfold Pv at hR
  simp only at hR
  obtain ⟨v, hv⟩ : ∃ v, Lv s 0 ks vs = v := ⟨_, rfl⟩
  rw [hv] at p1 p2 hR
  obtain ⟨p, rfl⟩ : ∃ p : Nat, v = p := ⟨v.toNat, by omega⟩
  rw [Int.toNat_natCast] at hR
  have hi20 := Dv hf p
  unfold imp at hi20 hR
  have q1 := Hp m0 (show p < l.length by omega)
  obtain ⟨x, hx⟩ : ∃ x, l.getD p m0 = x := ⟨_, rfl⟩
  rw [hx] at q1 hi20 hR
  simp only [Try.f24, Option.some.injEq] at hc
  subst hc
  (sym =>
   simp [Cf,Ch,Cg,Ci,Ce,Cd,Za,Zb,Zc,Zd,Ze,Zf,Zg,Zn,Zo,Zp,Zq,Zr,Zs,Zt,Zv,Zx,Zy,Z7,Z8,Z9,Qa,Qb,Qc,Qd,Qe,Qf,Qg,Qj,Qk,Ql,Qm,Qn,Qo,Qq,Qr,Qs,Qt,Qu,Qv,Qw,Qx,Qy,Qz,Q3,Q4,Q5,Ja,Jc,Jd,Je,Jf,Jg,Jh,Ji,Jj,Jk,Jl,Jm,Jn,Js,Jt,Jz,J0,Xd,Xe,Xf,Xg,Xh,Xi,Xj,Xk,Xl,Xm,Xn,Xo,Xp,Xs,Xu,Xv,Xw,Xx,Xy,Xz,X0,X1,X2,X3,X4,X5,X6,X7,X8,Wa,Wb,Wc,Wf,Wg,Wh,Wi,Wj,Wl,Wm,Wn,Wo,Wp,Wq,Wr,Ws,Wt,Wu,Wv,Ww,Wx,Wy,Wz,W0,W3,W4,W5,W6,W7,W8,W9,Ya,Yb,Yc,Yj,Yk,Yl,Ym,Yn,Yo,Yp,Yq,Yr,Ys,Yt,Yu,Yv,Yw,Yx,Yy,Yz,Y0,Y1,Y2,Y3,Y4,Y5,Y6,Y7,Y8,Y9,Va,Vb,Vc,Vd,Ve,Vf,Vg,Vh,Vi,Vj,Vk,Vl,Vm,Vn,Vo,Vp,Vq,Vr,Vs,Vt,Vu,Vv,Vw,Vx,Vy,Vz,V0,V1,V2,V3,V4,V5,V6,V7,V8,V9,Ua,Ub,Uc,Ud,Ue,Uf,Ug,Uh,Ui,Uo,Up,Us,Ut,Uu,Uv,Uw,Ux,Uy,Uz,U0,U1,U2,U3,U4,U5,U6,U7,U8,U9,Ka,Kb,Kc,Kd,Ke,Kf,Kg,Kh,Ki,Kj,Kk,Kl,Km,Kn,Ko,Kq,Kr,Ks,Kt,Ku,Kv,Ky,Kz,K1,K2,K3,K4,K5,K6,K7,K8,K9,Ga,Gx,Hd,Hb,Gq,Gy,Gp,Pg]
   tactic =>
    try simp only [Gl] at *
    try simp only [nc2] at *
    try simp (maxSteps := 4000000) only [G4]
    repeat' (first | with_reducible assumption | with_reducible refine And.intro ?_ ?_ | intro _ | omega | (rw [Gb]; omega))
    refine T0 (bc := M1) (s, C) [90000, 90003] trivial rfl (by simp) (by rw [Lm]; rfl) ?_ ?_ ?_
    · show Hj _ _ (M9 C) _
      rw [Nt]
      simp [Hj,lk,rnO,rnA,rnAs,rk]
    · show N8 (List.drop (M9 C).length _) _
      rw [Nt]
      simp [N8,lk]
    cases hl : Dj C s with
    | false =>
      rw [hl, Bool.false_and] at hR
      subst hR
      (sym =>
       simp [C4,Lm,hl,Nt,Cf,Ch,Cg,Ci,Ce,Cd,Za,Zb,Zc,Zd,Ze,Zf,Zg,Zn,Zo,Zp,Zq,Zr,Zs,Zt,Zv,Zx,Zy,Z7,Z8,Z9,Qa,Qb,Qc,Qd,Qe,Qf,Qg,Qj,Qk,Ql,Qm,Qn,Qo,Qq,Qr,Qs,Qt,Qu,Qv,Qw,Qx,Qy,Qz,Q3,Q4,Q5,Ja,Jc,Jd,Je,Jf,Jg,Jh,Ji,Jj,Jk,Jl,Jm,Jn,Js,Jt,Jz,J0,Xd,Xe,Xf,Xg,Xh,Xi,Xj,Xk,Xl,Xm,Xn,Xo,Xp,Xs,Xu,Xv,Xw,Xx,Xy,Xz,X0,X1,X2,X3,X4,X5,X6,X7,X8,Wa,Wb,Wc,Wf,Wg,Wh,Wi,Wj,Wl,Wm,Wn,Wo,Wp,Wq,Wr,Ws,Wt,Wu,Wv,Ww,Wx,Wy,Wz,W0,W3,W4,W5,W6,W7,W8,W9,Ya,Yb,Yc,Yj,Yk,Yl,Ym,Yn,Yo,Yp,Yq,Yr,Ys,Yt,Yu,Yv,Yw,Yx,Yy,Yz,Y0,Y1,Y2,Y3,Y4,Y5,Y6,Y7,Y8,Y9,Va,Vb,Vc,Vd,Ve,Vf,Vg,Vh,Vi,Vj,Vk,Vl,Vm,Vn,Vo,Vp,Vq,Vr,Vs,Vt,Vu,Vv,Vw,Vx,Vy,Vz,V0,V1,V2,V3,V4,V5,V6,V7,V8,V9,Ua,Ub,Uc,Ud,Ue,Uf,Ug,Uh,Ui,Uo,Up,Us,Ut,Uu,Uv,Uw,Ux,Uy,Uz,U0,U1,U2,U3,U4,U5,U6,U7,U8,U9,Ka,Kb,Kc,Kd,Ke,Kf,Kg,Kh,Ki,Kj,Kk,Kl,Km,Kn,Ko,Kq,Kr,Ks,Kt,Ku,Kv,Ky,Kz,K1,K2,K3,K4,K5,K6,K7,K8,K9,Ga,Gx,Hd,Hb,Gq,Gy,Gp,Pg]
       tactic =>
        try simp only [Gl] at *
        try simp only [nc2] at *
        try simp (maxSteps := 4000000) only [C4,Lm,hl,Nt,G4]
        repeat' (first | with_reducible assumption | with_reducible refine And.intro ?_ ?_ | intro _ | omega | (rw [Gb]; omega))
        refine ⟨[90000, 90001, 90002, 90003], by simp, rfl, canon4, ?_⟩
        simp [Hj,lk,rnO,rnA,rnAs,rk])
    | true =>
      rw [hl, Bool.true_and] at hR
      obtain ⟨z, hz⟩ : ∃ z, x.imps.any (Dj C) = z := ⟨_, rfl⟩
      rw [hz] at hR
      subst hR
      (sym =>
       simp [C4,Lm,hl,Nt,H5,Mn,hv,q1,Gg,szM,Cf,Ch,Cg,Ci,Ce,Cd,Za,Zb,Zc,Zd,Ze,Zf,Zg,Zn,Zo,Zp,Zq,Zr,Zs,Zt,Zv,Zx,Zy,Z7,Z8,Z9,Qa,Qb,Qc,Qd,Qe,Qf,Qg,Qj,Qk,Ql,Qm,Qn,Qo,Qq,Qr,Qs,Qt,Qu,Qv,Qw,Qx,Qy,Qz,Q3,Q4,Q5,Ja,Jc,Jd,Je,Jf,Jg,Jh,Ji,Jj,Jk,Jl,Jm,Jn,Js,Jt,Jz,J0,Xd,Xe,Xf,Xg,Xh,Xi,Xj,Xk,Xl,Xm,Xn,Xo,Xp,Xs,Xu,Xv,Xw,Xx,Xy,Xz,X0,X1,X2,X3,X4,X5,X6,X7,X8,Wa,Wb,Wc,Wf,Wg,Wh,Wi,Wj,Wl,Wm,Wn,Wo,Wp,Wq,Wr,Ws,Wt,Wu,Wv,Ww,Wx,Wy,Wz,W0,W3,W4,W5,W6,W7,W8,W9,Ya,Yb,Yc,Yj,Yk,Yl,Ym,Yn,Yo,Yp,Yq,Yr,Ys,Yt,Yu,Yv,Yw,Yx,Yy,Yz,Y0,Y1,Y2,Y3,Y4,Y5,Y6,Y7,Y8,Y9,Va,Vb,Vc,Vd,Ve,Vf,Vg,Vh,Vi,Vj,Vk,Vl,Vm,Vn,Vo,Vp,Vq,Vr,Vs,Vt,Vu,Vv,Vw,Vx,Vy,Vz,V0,V1,V2,V3,V4,V5,V6,V7,V8,V9,Ua,Ub,Uc,Ud,Ue,Uf,Ug,Uh,Ui,Uo,Up,Us,Ut,Uu,Uv,Uw,Ux,Uy,Uz,U0,U1,U2,U3,U4,U5,U6,U7,U8,U9,Ka,Kb,Kc,Kd,Ke,Kf,Kg,Kh,Ki,Kj,Kk,Kl,Km,Kn,Ko,Kq,Kr,Ks,Kt,Ku,Kv,Ky,Kz,K1,K2,K3,K4,K5,K6,K7,K8,K9,Ga,Gx,Hd,Hb,Gq,Gy,Gp,Pg]
       tactic =>
        try simp only [Gl] at *
        try simp only [nc2] at *
        try simp (maxSteps := 4000000) only [C4,Lm,hl,Nt,H5,Mn,hv,q1,Gg,szM,G4]
        repeat' (first | with_reducible assumption | with_reducible refine And.intro ?_ ?_ | intro _ | omega | (rw [Gb]; omega))
        refine T0 (bc := M8) (x.imps, C) [90000, 90003] (by show x.imps.length ≤ 1000000; omega) rfl (by simp) (by rw [Ez]; rfl) ?_ ?_ ?_
        · show Hj _ _ (M9 C) _
          rw [Nt]
          simp [Hj,lk,rnO,rnA,rnAs,rk,M2,upd]
        · show N8 (List.drop (M9 C).length _) _
          rw [Nt]
          simp [N8,lk]
        (sym =>
         simp [O1,Ez,hz,Nt,Gg,szM,Cf,Ch,Cg,Ci,Ce,Cd,Za,Zb,Zc,Zd,Ze,Zf,Zg,Zn,Zo,Zp,Zq,Zr,Zs,Zt,Zv,Zx,Zy,Z7,Z8,Z9,Qa,Qb,Qc,Qd,Qe,Qf,Qg,Qj,Qk,Ql,Qm,Qn,Qo,Qq,Qr,Qs,Qt,Qu,Qv,Qw,Qx,Qy,Qz,Q3,Q4,Q5,Ja,Jc,Jd,Je,Jf,Jg,Jh,Ji,Jj,Jk,Jl,Jm,Jn,Js,Jt,Jz,J0,Xd,Xe,Xf,Xg,Xh,Xi,Xj,Xk,Xl,Xm,Xn,Xo,Xp,Xs,Xu,Xv,Xw,Xx,Xy,Xz,X0,X1,X2,X3,X4,X5,X6,X7,X8,Wa,Wb,Wc,Wf,Wg,Wh,Wi,Wj,Wl,Wm,Wn,Wo,Wp,Wq,Wr,Ws,Wt,Wu,Wv,Ww,Wx,Wy,Wz,W0,W3,W4,W5,W6,W7,W8,W9,Ya,Yb,Yc,Yj,Yk,Yl,Ym,Yn,Yo,Yp,Yq,Yr,Ys,Yt,Yu,Yv,Yw,Yx,Yy,Yz,Y0,Y1,Y2,Y3,Y4,Y5,Y6,Y7,Y8,Y9,Va,Vb,Vc,Vd,Ve,Vf,Vg,Vh,Vi,Vj,Vk,Vl,Vm,Vn,Vo,Vp,Vq,Vr,Vs,Vt,Vu,Vv,Vw,Vx,Vy,Vz,V0,V1,V2,V3,V4,V5,V6,V7,V8,V9,Ua,Ub,Uc,Ud,Ue,Uf,Ug,Uh,Ui,Uo,Up,Us,Ut,Uu,Uv,Uw,Ux,Uy,Uz,U0,U1,U2,U3,U4,U5,U6,U7,U8,U9,Ka,Kb,Kc,Kd,Ke,Kf,Kg,Kh,Ki,Kj,Kk,Kl,Km,Kn,Ko,Kq,Kr,Ks,Kt,Ku,Kv,Ky,Kz,K1,K2,K3,K4,K5,K6,K7,K8,K9,Ga,Gx,Hd,Hb,Gq,Gy,Gp,Pg]
         tactic =>
          try simp only [Gl] at *
          try simp only [nc2] at *
          try simp (maxSteps := 4000000) only [O1,Ez,hz,Nt,Gg,szM,G4]
          repeat' (first | with_reducible assumption | with_reducible refine And.intro ?_ ?_ | intro _ | omega | (rw [Gb]; omega))
          refine ⟨[90000, 90001, 90002, 90003], by simp, rfl, canon4, ?_⟩
          simp [Hj,lk,rnO,rnA,rnAs,rk])))
def Ty : BCon where
  X := List (List UInt8) × OX
  ok x := x.1.length ≤ 1000000 ∧ Ph x.2.l = true ∧ Places x.2.l x.2.m ∧ ∀ s ∈ x.1, N6 s x.2.m.ks = true
  args x := [.d (.list 1 (x.1.map enc)), .clo 24 [.ref 90000 0, .ref 90001 0, .ref 90002 0]]
  objs x := Lq x.2
  res x := .int .i64 (Bk (Pv x.2.l x.2.m x.2.C) x.1)
  post x := Lq x.2
theorem Aa {ns : List (List UInt8)} {l : List Mod} {m : MS} {C : List (List UInt8)} : Ty.res (ns, ⟨l, m, C⟩) = .int .i64 (Bk (Pv l m C) ns) := rfl
theorem C6 {ns : List (List UInt8)} {l : List Mod} {m : MS} {C : List (List UInt8)} : Ty.post (ns, ⟨l, m, C⟩) = Lq ⟨l, m, C⟩ := rfl
noncomputable def Lz : Ctx := ⟨tab, lkC [], 60, lkB [(24, Sj)], [], false⟩
theorem Sy : Lz.τ = tab := rfl
theorem S1 : Lz.Γ = lkC [] := rfl
theorem S0 : Lz.dp = 60 := rfl
theorem S2 : Lz.Δ = lkB [(24, Sj)] := rfl
theorem Sx : Lz.cuts = [] := rfl
theorem Sw : Lz.wr = false := rfl
set_option maxRecDepth 100000 in
theorem goodb_IndexB : A3 Try.prog (23, Ty) := by
  refine ⟨Hh Try.func23 (by kernel_rfl) rfl, ?_⟩
  have K : Mj Try.prog Lz := Nj P8 Ny (by simp) (by
    intro p hp
    simp only [List.mem_cons, List.not_mem_nil, or_false] at hp
    rcases hp with rfl
    · exact goodb_Order_1)
  obtain ⟨c, hc⟩ : ∃ c, Try.f23.body = some c := ⟨_, rfl⟩
  refine Ek K Try.func23 hc [.tmp 4] rfl 19 rfl (fun x hok => ?_)
  obtain ⟨ns, l, m, C⟩ := x
  obtain ⟨hnl, hf, hP, hns⟩ := hok
  simp only at hnl hf hP hns
  refine ⟨?_, ?_, ?_, ?_, ?_⟩
  · show Sq [.d (.list 1 (ns.map enc)), .clo 24 [.ref 90000 0, .ref 90001 0, .ref 90002 0]] (Lq ⟨l, m, C⟩)
    rw [Pj]
    simp [Sq,P7,Obj.tied,Hf,keptAll,AV.kept,Hc,Bj,lk]
  · show Hf (Lq ⟨l, m, C⟩)
    rw [Pj]
    simp [Hf]
  · show Sq [] (Lq ⟨l, m, C⟩)
    rw [Pj]
    simp [Sq,P7,Obj.tied,Hf,keptAll,AV.kept,Hc,Bj,lk]
  · exact Nat.le_refl _
  show awp _ c (PostB _ _ (Lq ⟨l, m, C⟩).length (.int .i64 (Bk (Pv l m C) ns)) (Lq ⟨l, m, C⟩)) ⟨[.d (.list 1 (ns.map enc)), .clo 24 [.ref 90000 0, .ref 90001 0, .ref 90002 0]] ++ Tx 17, Hc (Lq ⟨l, m, C⟩)⟩
  rw [Pj]
  simp only [Try.f23, Option.some.injEq] at hc
  subst hc
  (sym =>
   simp [Sy,S1,S0,S2,Sx,Sw,Za,Zb,Zc,Ze,Zf,Zg,Zn,Zo,Zp,Zq,Zr,Zs,Zv,Zy,Z5,Z7,Z8,Z9,Qa,Qb,Qc,Qd,Qe,Qf,Qj,Qk,Ql,Qm,Qn,Qo,Qq,Qr,Qs,Qt,Qu,Qv,Qw,Qx,Qy,Qz,Q3,Q4,Q5,Ja,Jc,Jd,Je,Jf,Jg,Jh,Ji,Jj,Jk,Jl,Jm,Jn,Js,Jt,Ju,Jv,Jw,Jz,J0,Xd,Xe,Xf,Xg,Xh,Xi,Xj,Xk,Xl,Xm,Xn,Xo,Xp,Xs,Xu,Xv,Xw,Xx,Xy,Xz,X0,X1,X2,X3,X4,X5,X6,X7,X8,X9,Wa,Wb,Wc,Wf,Wg,Wh,Wi,Wj,Wl,Wm,Wn,Wo,Wp,Wq,Wr,Ws,Wt,Wu,Wv,Ww,Wx,Wy,Wz,W0,W3,W4,W5,W6,W7,W8,W9,Ya,Yb,Yc,Yi,Yj,Yk,Yl,Ym,Yn,Yo,Yp,Yq,Yr,Ys,Yt,Yu,Yv,Yw,Yx,Yy,Yz,Y0,Y1,Y2,Y3,Y4,Y5,Y6,Y7,Y8,Y9,Va,Vb,Vc,Vd,Ve,Vf,Vg,Vh,Vi,Vj,Vk,Vl,Vm,Vn,Vo,Vp,Vq,Vr,Vs,Vt,Vu,Vv,Vw,Vx,Vy,Vz,V0,V1,V2,V3,V4,V5,V6,V7,V8,V9,Ua,Ub,Uc,Ud,Ue,Uf,Ug,Uh,Ui,Uo,Up,Us,Ut,Uu,Uv,Uw,Ux,Uy,Uz,U0,U1,U2,U3,U4,U5,U6,U7,U8,U9,Ka,Kb,Kc,Kd,Ke,Kf,Kg,Kh,Ki,Kj,Kk,Kl,Km,Kn,Ko,Kq,Kr,Ks,Kt,Ku,K1,K2,K3,K4,K5,K6,K7,K8,K9,Ga,Gx,Hb,Gy,Ax]
   tactic =>
    try simp only [Gl] at *
    try simp only [nc2] at *
    try simp (maxSteps := 4000000) only [G4]
    repeat' (first | with_reducible assumption | with_reducible refine And.intro ?_ ?_ | intro _ | omega | (rw [Gb]; omega))
    refine Ha [4, 5, 9, 10, 11, 12, 13, 14, 15, 16, 17, 18] (fun k : Nat => [(8, .d (.int .i64 k))]) (fun k : Nat => []) (fun k : Nat => k ≤ ns.length ∧ ∀ j, j < k → Pv l m C (ns.getD j []) = false) (fun k : Nat => ns.length - k) 0 ?_ ?_ ?_
    · simp
    · ((try simp only [Gd, Gj, Gi, Gs, upd, Gt, G5, Hn, Nat.reduceDiv, Nat.reduceMod, Nat.reduceMul, Nat.reduceAdd, Nat.reduceEqDiff, List.set_cons_zero, List.set_cons_succ, if_true, if_false, reduceIte]); (first | refine Wk.of_fl ?_ | skip); simp only [Wk, wkK, Ht, wkT, wk1, AV.kept, keptAll, wkO, lk, Ge, and_true, true_and, and_self, Nat.reduceEqDiff, Nat.reduceLeDiff, if_true, if_false, reduceIte, reduceCtorEq, Option.isSome, false_implies]; try simp [Wk, wkK, wkT, wk1, AV.kept, keptAll, wkO, lk, Ge])
    rintro k ⟨hk, hno⟩
    rcases Hg k ns.length with ⟨hlt, hlb⟩ | ⟨hlt, hlb⟩
    · have q1 := Hp ([] : List UInt8) hlt
      have hst : Pv l m C (ns.getD k []) = false → ∀ j, j < k + 1 → Pv l m C (ns.getD j []) = false := fun h => Ok hno h
      have hit : Pv l m C (ns.getD k []) = true → Bk (Pv l m C) ns = k := fun h => idxP_at [] hlt hno h
      have hin : N6 (ns.getD k []) m.ks = true := hns _ (by simp [hlt])
      obtain ⟨y, hy⟩ : ∃ y, ns.getD k [] = y := ⟨_, rfl⟩
      rw [hy] at q1 hst hit hin
      (sym =>
       simp [hlb,q1,Sy,S1,S0,S2,Sx,Sw,Za,Zb,Zc,Ze,Zf,Zg,Zn,Zo,Zp,Zq,Zr,Zs,Zv,Zy,Z5,Z7,Z8,Z9,Qa,Qb,Qc,Qd,Qe,Qf,Qj,Qk,Ql,Qm,Qn,Qo,Qq,Qr,Qs,Qt,Qu,Qv,Qw,Qx,Qy,Qz,Q3,Q4,Q5,Ja,Jc,Jd,Je,Jf,Jg,Jh,Ji,Jj,Jk,Jl,Jm,Jn,Js,Jt,Ju,Jv,Jw,Jz,J0,Xd,Xe,Xf,Xg,Xh,Xi,Xj,Xk,Xl,Xm,Xn,Xo,Xp,Xs,Xu,Xv,Xw,Xx,Xy,Xz,X0,X1,X2,X3,X4,X5,X6,X7,X8,X9,Wa,Wb,Wc,Wf,Wg,Wh,Wi,Wj,Wl,Wm,Wn,Wo,Wp,Wq,Wr,Ws,Wt,Wu,Wv,Ww,Wx,Wy,Wz,W0,W3,W4,W5,W6,W7,W8,W9,Ya,Yb,Yc,Yi,Yj,Yk,Yl,Ym,Yn,Yo,Yp,Yq,Yr,Ys,Yt,Yu,Yv,Yw,Yx,Yy,Yz,Y0,Y1,Y2,Y3,Y4,Y5,Y6,Y7,Y8,Y9,Va,Vb,Vc,Vd,Ve,Vf,Vg,Vh,Vi,Vj,Vk,Vl,Vm,Vn,Vo,Vp,Vq,Vr,Vs,Vt,Vu,Vv,Vw,Vx,Vy,Vz,V0,V1,V2,V3,V4,V5,V6,V7,V8,V9,Ua,Ub,Uc,Ud,Ue,Uf,Ug,Uh,Ui,Uo,Up,Us,Ut,Uu,Uv,Uw,Ux,Uy,Uz,U0,U1,U2,U3,U4,U5,U6,U7,U8,U9,Ka,Kb,Kc,Kd,Ke,Kf,Kg,Kh,Ki,Kj,Kk,Kl,Km,Kn,Ko,Kq,Kr,Ks,Kt,Ku,K1,K2,K3,K4,K5,K6,K7,K8,K9,Ga,Gx,Hb,Gy,Ax]
       tactic =>
        try simp only [Gl] at *
        try simp only [nc2] at *
        try simp (maxSteps := 4000000) only [hlb,q1,G4]
        repeat' (first | with_reducible assumption | with_reducible refine And.intro ?_ ?_ | intro _ | omega | (rw [Gb]; omega))
        refine T0 (bc := Sj) (y, ⟨l, m, C⟩) [90000, 90001, 90002, 90003] ⟨hf, hP, hin⟩ rfl (by simp) (by rw [C3]; rfl) ?_ ?_ ?_
        · show Hj _ _ (Lq ⟨l, m, C⟩) _
          rw [Pj]
          simp [Hj,lk,rnO,rnA,rnAs,rk]
        · show N8 (List.drop (Lq ⟨l, m, C⟩).length _) _
          rw [Pj]
          simp [N8,lk]
        cases hs : Pv l m C y with
        | false =>
          have h2 := hst hs
          (sym =>
           simp [R4,C3,hs,Pj,Sy,S1,S0,S2,Sx,Sw,Za,Zb,Zc,Ze,Zf,Zg,Zn,Zo,Zp,Zq,Zr,Zs,Zv,Zy,Z5,Z7,Z8,Z9,Qa,Qb,Qc,Qd,Qe,Qf,Qj,Qk,Ql,Qm,Qn,Qo,Qq,Qr,Qs,Qt,Qu,Qv,Qw,Qx,Qy,Qz,Q3,Q4,Q5,Ja,Jc,Jd,Je,Jf,Jg,Jh,Ji,Jj,Jk,Jl,Jm,Jn,Js,Jt,Ju,Jv,Jw,Jz,J0,Xd,Xe,Xf,Xg,Xh,Xi,Xj,Xk,Xl,Xm,Xn,Xo,Xp,Xs,Xu,Xv,Xw,Xx,Xy,Xz,X0,X1,X2,X3,X4,X5,X6,X7,X8,X9,Wa,Wb,Wc,Wf,Wg,Wh,Wi,Wj,Wl,Wm,Wn,Wo,Wp,Wq,Wr,Ws,Wt,Wu,Wv,Ww,Wx,Wy,Wz,W0,W3,W4,W5,W6,W7,W8,W9,Ya,Yb,Yc,Yi,Yj,Yk,Yl,Ym,Yn,Yo,Yp,Yq,Yr,Ys,Yt,Yu,Yv,Yw,Yx,Yy,Yz,Y0,Y1,Y2,Y3,Y4,Y5,Y6,Y7,Y8,Y9,Va,Vb,Vc,Vd,Ve,Vf,Vg,Vh,Vi,Vj,Vk,Vl,Vm,Vn,Vo,Vp,Vq,Vr,Vs,Vt,Vu,Vv,Vw,Vx,Vy,Vz,V0,V1,V2,V3,V4,V5,V6,V7,V8,V9,Ua,Ub,Uc,Ud,Ue,Uf,Ug,Uh,Ui,Uo,Up,Us,Ut,Uu,Uv,Uw,Ux,Uy,Uz,U0,U1,U2,U3,U4,U5,U6,U7,U8,U9,Ka,Kb,Kc,Kd,Ke,Kf,Kg,Kh,Ki,Kj,Kk,Kl,Km,Kn,Ko,Kq,Kr,Ks,Kt,Ku,K1,K2,K3,K4,K5,K6,K7,K8,K9,Ga,Gx,Hb,Gy,Ax]
           tactic =>
            try simp only [Gl] at *
            try simp only [nc2] at *
            try simp (maxSteps := 4000000) only [R4,C3,hs,Pj,G4]
            repeat' (first | with_reducible assumption | with_reducible refine And.intro ?_ ?_ | intro _ | omega | (rw [Gb]; omega))
            all_goals first
              | omega
              | exact ⟨k + 1, by ((try simp only [Gd, Gj, Gi, Gs, upd, Gt, G5, Hn, Nat.reduceDiv, Nat.reduceMod, Nat.reduceMul, Nat.reduceAdd, Nat.reduceEqDiff, List.set_cons_zero, List.set_cons_succ, if_true, if_false, reduceIte]); (first | refine Wk.of_fl ?_ | skip); simp only [Wk, wkK, Ht, wkT, wk1, AV.kept, keptAll, wkO, lk, Ge, and_true, true_and, and_self, Nat.reduceEqDiff, Nat.reduceLeDiff, if_true, if_false, reduceIte, reduceCtorEq, Option.isSome, false_implies]; try simp [Wk, wkK, wkT, wk1, AV.kept, keptAll, wkO, lk, Ge]), by omega, h2, by omega⟩
              | skip)
        | true =>
          have hr := hit hs
          (sym =>
           simp [R4,C3,hs,hr,Pj,Sy,S1,S0,S2,Sx,Sw,Za,Zb,Zc,Ze,Zf,Zg,Zn,Zo,Zp,Zq,Zr,Zs,Zv,Zy,Z5,Z7,Z8,Z9,Qa,Qb,Qc,Qd,Qe,Qf,Qj,Qk,Ql,Qm,Qn,Qo,Qq,Qr,Qs,Qt,Qu,Qv,Qw,Qx,Qy,Qz,Q3,Q4,Q5,Ja,Jc,Jd,Je,Jf,Jg,Jh,Ji,Jj,Jk,Jl,Jm,Jn,Js,Jt,Ju,Jv,Jw,Jz,J0,Xd,Xe,Xf,Xg,Xh,Xi,Xj,Xk,Xl,Xm,Xn,Xo,Xp,Xs,Xu,Xv,Xw,Xx,Xy,Xz,X0,X1,X2,X3,X4,X5,X6,X7,X8,X9,Wa,Wb,Wc,Wf,Wg,Wh,Wi,Wj,Wl,Wm,Wn,Wo,Wp,Wq,Wr,Ws,Wt,Wu,Wv,Ww,Wx,Wy,Wz,W0,W3,W4,W5,W6,W7,W8,W9,Ya,Yb,Yc,Yi,Yj,Yk,Yl,Ym,Yn,Yo,Yp,Yq,Yr,Ys,Yt,Yu,Yv,Yw,Yx,Yy,Yz,Y0,Y1,Y2,Y3,Y4,Y5,Y6,Y7,Y8,Y9,Va,Vb,Vc,Vd,Ve,Vf,Vg,Vh,Vi,Vj,Vk,Vl,Vm,Vn,Vo,Vp,Vq,Vr,Vs,Vt,Vu,Vv,Vw,Vx,Vy,Vz,V0,V1,V2,V3,V4,V5,V6,V7,V8,V9,Ua,Ub,Uc,Ud,Ue,Uf,Ug,Uh,Ui,Uo,Up,Us,Ut,Uu,Uv,Uw,Ux,Uy,Uz,U0,U1,U2,U3,U4,U5,U6,U7,U8,U9,Ka,Kb,Kc,Kd,Ke,Kf,Kg,Kh,Ki,Kj,Kk,Kl,Km,Kn,Ko,Kq,Kr,Ks,Kt,Ku,K1,K2,K3,K4,K5,K6,K7,K8,K9,Ga,Gx,Hb,Gy,Ax]
           tactic =>
            try simp only [Gl] at *
            try simp only [nc2] at *
            try simp (maxSteps := 4000000) only [R4,C3,hs,hr,Pj,G4]
            repeat' (first | with_reducible assumption | with_reducible refine And.intro ?_ ?_ | intro _ | omega | (rw [Gb]; omega))
            all_goals first
              | omega
              | (refine ⟨[90000, 90001, 90002, 90003], by simp, rfl, canon4, ?_⟩; simp [Hj, lk, rnO, rnA, rnAs, rk]; done)
              | skip))
    · have hr := idxP_none (p := Pv l m C) (l := ns) [] (fun j hj => hno j (by omega))
      (sym =>
       simp [hlb,hr,Sy,S1,S0,S2,Sx,Sw,Za,Zb,Zc,Ze,Zf,Zg,Zn,Zo,Zp,Zq,Zr,Zs,Zv,Zy,Z5,Z7,Z8,Z9,Qa,Qb,Qc,Qd,Qe,Qf,Qj,Qk,Ql,Qm,Qn,Qo,Qq,Qr,Qs,Qt,Qu,Qv,Qw,Qx,Qy,Qz,Q3,Q4,Q5,Ja,Jc,Jd,Je,Jf,Jg,Jh,Ji,Jj,Jk,Jl,Jm,Jn,Js,Jt,Ju,Jv,Jw,Jz,J0,Xd,Xe,Xf,Xg,Xh,Xi,Xj,Xk,Xl,Xm,Xn,Xo,Xp,Xs,Xu,Xv,Xw,Xx,Xy,Xz,X0,X1,X2,X3,X4,X5,X6,X7,X8,X9,Wa,Wb,Wc,Wf,Wg,Wh,Wi,Wj,Wl,Wm,Wn,Wo,Wp,Wq,Wr,Ws,Wt,Wu,Wv,Ww,Wx,Wy,Wz,W0,W3,W4,W5,W6,W7,W8,W9,Ya,Yb,Yc,Yi,Yj,Yk,Yl,Ym,Yn,Yo,Yp,Yq,Yr,Ys,Yt,Yu,Yv,Yw,Yx,Yy,Yz,Y0,Y1,Y2,Y3,Y4,Y5,Y6,Y7,Y8,Y9,Va,Vb,Vc,Vd,Ve,Vf,Vg,Vh,Vi,Vj,Vk,Vl,Vm,Vn,Vo,Vp,Vq,Vr,Vs,Vt,Vu,Vv,Vw,Vx,Vy,Vz,V0,V1,V2,V3,V4,V5,V6,V7,V8,V9,Ua,Ub,Uc,Ud,Ue,Uf,Ug,Uh,Ui,Uo,Up,Us,Ut,Uu,Uv,Uw,Ux,Uy,Uz,U0,U1,U2,U3,U4,U5,U6,U7,U8,U9,Ka,Kb,Kc,Kd,Ke,Kf,Kg,Kh,Ki,Kj,Kk,Kl,Km,Kn,Ko,Kq,Kr,Ks,Kt,Ku,K1,K2,K3,K4,K5,K6,K7,K8,K9,Ga,Gx,Hb,Gy,Ax]
       tactic =>
        try simp only [Gl] at *
        try simp only [nc2] at *
        try simp (maxSteps := 4000000) only [hlb,hr,G4]
        repeat' (first | with_reducible assumption | with_reducible refine And.intro ?_ ?_ | intro _ | omega | (rw [Gb]; omega))
        refine ⟨[90000, 90001, 90002, 90003], by simp, rfl, canon4, ?_⟩
        simp [Hj,lk,rnO,rnA,rnAs,rk]))
end Go.Am.Graph
set_option linter.unusedSimpArgs false
set_option linter.unusedVariables false
set_option maxHeartbeats 1000000
namespace Go.Am.Graph
open Go.Proofs
open Enc (enc dec)
theorem idxP_cases {α : Type} (p : α → Bool) (l : List α) (d : α) : (Bk p l = -1 ∧ ∀ j, j < l.length → p (l.getD j d) = false) ∨ ∃ k, k < l.length ∧ Bk p l = (k : Int) ∧ p (l.getD k d) = true ∧ ∀ j, j < k → p (l.getD j d) = false := by
  unfold Bk
  cases h : l.findIdx? p with
  | none =>
    rw [List.findIdx?_eq_none_iff] at h
    refine .inl ⟨rfl, fun j hj => ?_⟩
    have := h (l[j]) (List.getElem_mem hj)
    simpa [hj] using this
  | some i =>
    rw [List.findIdx?_eq_some_iff_getElem] at h
    obtain ⟨hi, hp, hno⟩ := h
    refine .inr ⟨i, hi, rfl, by simpa [hi] using hp, fun j hj => ?_⟩
    have := hno j hj
    simpa [show j < l.length by omega] using this
theorem plK_mem (l : List Mod) : ∀ k, k ≤ l.length → (plK l k).length ≤ k ∧ ∀ s ∈ plK l k, ∃ j, j < k ∧ nm l j = s
  | 0, _ => ⟨Nat.le_refl _, fun s hs => by cases hs⟩
  | k + 1, hk => by
    obtain ⟨h1, h2⟩ := plK_mem l k (by omega)
    simp only [plK]
    cases hh : N6 (nm l k) (plK l k) with
    | true =>
      rw [cond_true]
      exact ⟨by omega, fun s hs => by obtain ⟨j, hj, e⟩ := h2 s hs; exact ⟨j, by omega, e⟩⟩
    | false =>
      rw [cond_false, gSetK_noS hh]
      refine ⟨by rw [List.length_append]; simp; omega, fun s hs => ?_⟩
      rcases List.mem_append.1 hs with hs | hs
      · obtain ⟨j, hj, e⟩ := h2 s hs
        exact ⟨j, by omega, e⟩
      · rw [List.mem_singleton] at hs
        exact ⟨k, by omega, hs.symm⟩
theorem few_name {l : List Mod} (h : Ph l = true) (k : Nat) : (nm l k).length ≤ 100 := by
  have := few_at h k
  unfold okM Tc at this
  simp only [Bool.and_eq_true, Bool.not_eq_true'] at this
  have := this.1
  rw [Hq] at this
  show (l.getD k m0).name.length ≤ 100
  omega
theorem places_few {l : List Mod} (h : Ph l = true) : (Gw l).ks.length ≤ 20 ∧ ∀ s ∈ (Gw l).ks, s.length ≤ 100 := by
  obtain ⟨h1, h2⟩ := plK_mem l l.length (Nat.le_refl _)
  have := Px h
  refine ⟨by show (plK l l.length).length ≤ 20; omega, fun s hs => ?_⟩
  obtain ⟨j, _, rfl⟩ := h2 s hs
  exact few_name h j
theorem O5 (l : List (List UInt8)) : (Ou l).Perm l := List.mergeSort_perm _ _
theorem sortI_perm (l : List Int) : (A7 l).Perm l := List.mergeSort_perm _ _
def atM (m : MS) (s : List UInt8) : Int := Lv s 0 m.ks m.vs
def Bs (l : List Mod) (m : MS) (ns : List (List UInt8)) : Nat → List (List UInt8)
  | 0 => []
  | r + 1 => cond (ltB (Bk (Pv l m (Bs l m ns r)) ns) 0) (Bs l m ns r) (Bs l m ns r ++ [ns.getD (Bk (Pv l m (Bs l m ns r)) ns).toNat []])
theorem come_stuck {l : List Mod} {m : MS} {ns : List (List UInt8)} {r : Nat} (h : ltB (Bk (Pv l m (Bs l m ns r)) ns) 0 = true) : ∀ k, Bs l m ns (r + k) = Bs l m ns r
  | 0 => rfl
  | k + 1 => by
    have ih := come_stuck h k
    show Bs l m ns ((r + k) + 1) = _
    rw [Bs, ih, h, cond_true]
def Az (l : List Mod) (m : MS) (s : List UInt8) : Bool := N6 (atM m s) (Om l m (atM m s).toNat)
def orderM (l : List Mod) (m : MS) (ns : List (List UInt8)) : Sl Int × Int × Int :=
  cond ((Rw l m).2 != 0) (⟨[]⟩, (Rw l m).1, (Rw l m).2)
    (cond (((Bs l m ns l.length).length : Int) == (l.length : Int)) (⟨(Bs l m ns l.length).map (atM m)⟩, 0, 0)
      (⟨[]⟩, (match ns.find? (Az l m) with | some s => atM m s | none => 0), 8))
def M4 (l : List Mod) : Sl Int × Int × Int := orderM l (Gw l) (Ou (Gw l).ks)
theorem find_at {α : Type} {p : α → Bool} {l : List α} {k : Nat} (d : α) (hk : k < l.length) (hno : ∀ j, j < k → p (l.getD j d) = false) (hp : p (l.getD k d) = true) : l.find? p = some (l.getD k d) := by
  rw [List.find?_eq_some_iff_getElem]
  refine ⟨hp, k, hk, by simp [hk], fun j hj => ?_⟩
  have := hno j hj
  simpa [show j < l.length by omega] using this
theorem find_no {α : Type} {p : α → Bool} {l : List α} (d : α) (hno : ∀ j, j < l.length → p (l.getD j d) = false) : l.find? p = none := by
  rw [List.find?_eq_none]
  intro x hx
  obtain ⟨j, hj, rfl⟩ := List.getElem_of_mem hx
  have := hno j hj
  simpa [hj] using this
def Gk : Con := M3 (fun (l : Sl Mod) => Ph l.l = true) (fun l => M4 l.l)
noncomputable def Tl : Ctx := ⟨tab, lkC [(19, H0), (20, Nk), (22, Py), (21, N9)], 60, lkB [(23, Ty), (27, L3)], [], false⟩
theorem Pc : Tl.τ = tab := rfl
theorem Pe : Tl.Γ = lkC [(19, H0), (20, Nk), (22, Py), (21, N9)] := rfl
theorem Pd : Tl.dp = 60 := rfl
theorem Pf : Tl.Δ = lkB [(23, Ty), (27, L3)] := rfl
theorem Pb : Tl.cuts = [] := rfl
theorem Pa : Tl.wr = false := rfl
set_option maxRecDepth 100000 in
theorem Tw : Ck Try.prog (12, Gk) := by
  refine ⟨Hh Try.func12 (by kernel_rfl) rfl, ?_⟩
  have K : Mj Try.prog Tl := Nj P8 Ny (by
    intro p hp
    simp only [List.mem_cons, List.not_mem_nil, or_false] at hp
    rcases hp with rfl | rfl | rfl | rfl
    · exact good_places
    · exact good_wrong
    · exact good_KeysS
    · exact good_SortedS) (by
    intro p hp
    simp only [List.mem_cons, List.not_mem_nil, or_false] at hp
    rcases hp with rfl | rfl
    · exact goodb_IndexB
    · exact goodb_led)
  obtain ⟨c, hc⟩ : ∃ c, Try.f12.body = some c := ⟨_, rfl⟩
  refine Mi K Try.func12 hc [.tmp 2, .tmp 3, .tmp 4] rfl 78 rfl (fun cvs hpre => ?_)
  change Gk.pre cvs at hpre
  unfold Gk at hpre
  obtain ⟨⟨l⟩, rfl, hf⟩ := con1q_pre hpre
  simp only at hf
  clear hpre
  have hl20 := Px hf
  obtain ⟨R1, R2, R3, hR⟩ : ∃ a b d, M4 l = (a, b, d) := ⟨_, _, _, rfl⟩
  have hR2 := hR
  unfold M4 at hR2
  have hP := Iy l
  obtain ⟨hk20, hs100⟩ := places_few hf
  have hperm := O5 (Gw l).ks
  obtain ⟨m, hm⟩ : ∃ m, Gw l = m := ⟨_, rfl⟩
  rw [hm] at hP hR2 hk20 hs100 hperm
  obtain ⟨ks, vs⟩ := m
  simp only at hk20 hs100 hR2 hperm
  obtain ⟨ns, hns⟩ : ∃ ns, Ou ks = ns := ⟨_, rfl⟩
  rw [hns] at hR2 hperm
  have hnl : ns.length ≤ 20 := by rw [hperm.length_eq]; exact hk20
  have hnin : ∀ s ∈ ns, N6 s ks = true := fun s hs => Lj.2 (hperm.mem_iff.1 hs)
  unfold orderM at hR2
  obtain ⟨W1, W2, hW⟩ : ∃ a b, Rw l ⟨ks, vs⟩ = (a, b) := ⟨_, _, rfl⟩
  rw [hW] at hR2
  simp only at hR2
  cases hw2 : (W2 != 0) with
  | true =>
    rw [hw2, cond_true] at hR2
    injection hR2 with e1 e2
    injection e2 with e2 e3
    subst e1 e2 e3
    simp only [Try.f12, Option.some.injEq] at hc
    subst hc
    refine Nu 4 (of_decide_eq_true (by kernel_rfl)) ?_
    (sym =>
     simp [hm,hW,hw2,hR,M3.eq_def,Br,R9,Ak,szM,Pc,Pe,Pd,Pf,Pb,Pa,Py.eq_def,Gk.eq_def,N9.eq_def,H0.eq_def,Nk.eq_def,Za,Zb,Zc,Ze,Zf,Zg,Zh,Zi,Zj,Zk,Zl,Zm,Zn,Zo,Zp,Zq,Zr,Zs,Zu,Zv,Zw,Zy,Z0,Z3,Z4,Z5,Z6,Z7,Z8,Z9,Qa,Qb,Qc,Qd,Qe,Qf,Qg,Qi,Qj,Qk,Ql,Qm,Qn,Qo,Qp,Qq,Qr,Qs,Qt,Qu,Qv,Qw,Qx,Qy,Qz,Q0,Q1,Q3,Q4,Q5,Q6,Q7,Q8,Q9,Ja,Jb,Jc,Jd,Je,Jf,Jg,Jh,Ji,Jj,Jk,Jl,Jm,Jn,Jr,Js,Jt,Ju,Jv,Jw,Jz,J0,J1,J2,J3,J4,J5,J6,J7,J8,J9,Xa,Xb,Xc,Xd,Xe,Xf,Xg,Xh,Xi,Xj,Xk,Xl,Xm,Xn,Xo,Xp,Xq,Xr,Xs,Xt,Xu,Xv,Xw,Xx,Xy,Xz,X0,X1,X2,X3,X4,X5,X6,X7,X8,X9,Wa,Wb,Wc,Wd,We,Wf,Wg,Wh,Wi,Wj,Wl,Wm,Wn,Wo,Wp,Wq,Wr,Ws,Wt,Wu,Wv,Ww,Wx,Wy,Wz,W0,W3,W4,W5,W6,W7,W8,W9,Ya,Yb,Yc,Yf,Yg,Yh,Yi,Yj,Yk,Yl,Ym,Yn,Yo,Yp,Yq,Yr,Ys,Yt,Yu,Yv,Yw,Yx,Yy,Yz,Y0,Y1,Y2,Y3,Y4,Y5,Y6,Y7,Y8,Y9,Va,Vb,Vc,Vd,Ve,Vf,Vg,Vh,Vi,Vj,Vk,Vl,Vm,Vn,Vo,Vp,Vq,Vr,Vs,Vt,Vu,Vv,Vw,Vx,Vy,Vz,V0,V1,V2,V3,V4,V5,V6,V7,V8,V9,Ua,Ub,Uc,Ud,Ue,Uf,Ug,Uh,Ui,Uj,Uk,Ul,Um,Un,Uo,Up,Uq,Ur,Us,Ut,Uu,Uv,Uw,Ux,Uy,Uz,U0,U1,U2,U3,U4,U5,U6,U7,U8,U9,Ka,Kb,Kc,Kd,Ke,Kf,Kg,Kh,Ki,Kj,Kk,Kl,Km,Kn,Ko,Kq,Kr,Ks,Kt,Ku,Kv,Kw,Kx,Ky,Kz,K0,K1,K2,K3,K4,K5,K6,K7,K8,K9,Ga,Gx,Hd,Hb,Gq,Hi,Nx,Gy,Gp,Pg,A5,Sn]
     tactic =>
      try simp only [Gl] at *
      try simp only [nc2] at *
      try simp (maxSteps := 4000000) only [hm,hW,hw2,hR,M3.eq_def,Br,R9,Ak,szM,G4]
      repeat' (first | with_reducible assumption | with_reducible refine And.intro ?_ ?_ | intro _ | omega | (rw [Gb]; omega))
      all_goals first
        | (with_reducible refine G7 ?_; kernel_rfl)
        | omega
        | trivial
        | rfl
        | skip)
  | false =>
  rw [hw2, cond_false] at hR2
  simp only [Try.f12, Option.some.injEq] at hc
  subst hc
  refine Nu 4 (of_decide_eq_true (by kernel_rfl)) ?_
  (sym =>
   simp [hm,hW,hw2,hns,Br,R9,Ak,enc_ItS,isE_ItS,dec_ItS,szM,Pc,Pe,Pd,Pf,Pb,Pa,Py.eq_def,Gk.eq_def,N9.eq_def,H0.eq_def,Nk.eq_def,Za,Zb,Zc,Ze,Zf,Zg,Zh,Zi,Zj,Zk,Zl,Zm,Zn,Zo,Zp,Zq,Zr,Zs,Zu,Zv,Zw,Zy,Z0,Z3,Z4,Z5,Z6,Z7,Z8,Z9,Qa,Qb,Qc,Qd,Qe,Qf,Qg,Qi,Qj,Qk,Ql,Qm,Qn,Qo,Qp,Qq,Qr,Qs,Qt,Qu,Qv,Qw,Qx,Qy,Qz,Q0,Q1,Q3,Q4,Q5,Q6,Q7,Q8,Q9,Ja,Jb,Jc,Jd,Je,Jf,Jg,Jh,Ji,Jj,Jk,Jl,Jm,Jn,Jr,Js,Jt,Ju,Jv,Jw,Jz,J0,J1,J2,J3,J4,J5,J6,J7,J8,J9,Xa,Xb,Xc,Xd,Xe,Xf,Xg,Xh,Xi,Xj,Xk,Xl,Xm,Xn,Xo,Xp,Xq,Xr,Xs,Xt,Xu,Xv,Xw,Xx,Xy,Xz,X0,X1,X2,X3,X4,X5,X6,X7,X8,X9,Wa,Wb,Wc,Wd,We,Wf,Wg,Wh,Wi,Wj,Wl,Wm,Wn,Wo,Wp,Wq,Wr,Ws,Wt,Wu,Wv,Ww,Wx,Wy,Wz,W0,W3,W4,W5,W6,W7,W8,W9,Ya,Yb,Yc,Yf,Yg,Yh,Yi,Yj,Yk,Yl,Ym,Yn,Yo,Yp,Yq,Yr,Ys,Yt,Yu,Yv,Yw,Yx,Yy,Yz,Y0,Y1,Y2,Y3,Y4,Y5,Y6,Y7,Y8,Y9,Va,Vb,Vc,Vd,Ve,Vf,Vg,Vh,Vi,Vj,Vk,Vl,Vm,Vn,Vo,Vp,Vq,Vr,Vs,Vt,Vu,Vv,Vw,Vx,Vy,Vz,V0,V1,V2,V3,V4,V5,V6,V7,V8,V9,Ua,Ub,Uc,Ud,Ue,Uf,Ug,Uh,Ui,Uj,Uk,Ul,Um,Un,Uo,Up,Uq,Ur,Us,Ut,Uu,Uv,Uw,Ux,Uy,Uz,U0,U1,U2,U3,U4,U5,U6,U7,U8,U9,Ka,Kb,Kc,Kd,Ke,Kf,Kg,Kh,Ki,Kj,Kk,Kl,Km,Kn,Ko,Kq,Kr,Ks,Kt,Ku,Kv,Kw,Kx,Ky,Kz,K0,K1,K2,K3,K4,K5,K6,K7,K8,K9,Ga,Gx,Hd,Hb,Gq,Hi,Nx,Gy,Gp,Pg,A5,Sn]
   tactic =>
    try simp only [Gl] at *
    try simp only [nc2] at *
    try simp (maxSteps := 4000000) only [hm,hW,hw2,hns,Br,R9,Ak,enc_ItS,isE_ItS,dec_ItS,szM,G4]
    repeat' (first | with_reducible assumption | with_reducible refine And.intro ?_ ?_ | intro _ | omega | (rw [Gb]; omega))
    all_goals try omega
    · exact Nat.le_trans (hs100 _ ‹_›) (by omega)
    refine Ha [11, 31, 32, 33, 34, 35, 36, 37, 38, 39, 40, 41, 42, 43, 44, 45, 46, 47, 48, 49, 50, 51, 52, 53, 54] (fun r : Nat => [(10, .sl 54 (((Bs l ⟨ks, vs⟩ ns r).map (atM ⟨ks, vs⟩)).map (enc : Int → D)).length)]) (fun r : Nat => [(30, .mp ((Bs l ⟨ks, vs⟩ ns r).map enc) ((Cn (Bs l ⟨ks, vs⟩ ns r)).map enc) false), (54, .row 1 (((Bs l ⟨ks, vs⟩ ns r).map (atM ⟨ks, vs⟩)).map enc) 0)]) (fun r : Nat => r ≤ l.length ∧ (Bs l ⟨ks, vs⟩ ns r).length = r) (fun r : Nat => l.length - r) 0 ?_ ?_ ?_
    · exact ⟨Nat.zero_le _, rfl⟩
    · ((try simp only [Gd, Gj, Gi, Gs, upd, Gt, G5, Hn, Nat.reduceDiv, Nat.reduceMod, Nat.reduceMul, Nat.reduceAdd, Nat.reduceEqDiff, List.set_cons_zero, List.set_cons_succ, if_true, if_false, reduceIte]); (first | refine Wk.of_fl ?_ | skip); simp only [Wk, wkK, Ht, wkT, wk1, AV.kept, keptAll, wkO, lk, Ge, and_true, true_and, and_self, Nat.reduceEqDiff, Nat.reduceLeDiff, if_true, if_false, reduceIte, reduceCtorEq, Option.isSome, false_implies]; try simp [Wk, wkK, wkT, wk1, AV.kept, keptAll, wkO, lk, Ge, Bs, Cn])
    rintro r ⟨hr, hrl⟩
    have hS : Bs l ⟨ks, vs⟩ ns (r + 1) = cond (ltB (Bk (Pv l ⟨ks, vs⟩ (Bs l ⟨ks, vs⟩ ns r)) ns) 0) (Bs l ⟨ks, vs⟩ ns r) (Bs l ⟨ks, vs⟩ ns r ++ [ns.getD (Bk (Pv l ⟨ks, vs⟩ (Bs l ⟨ks, vs⟩ ns r)) ns).toNat []]) := rfl
    have hst := fun h => come_stuck (l := l) (m := ⟨ks, vs⟩) (ns := ns) (r := r) h (l.length - r)
    rw [show r + (l.length - r) = l.length by omega] at hst
    rcases Hg r l.length with ⟨hlt, hlb⟩ | ⟨hlt, hlb⟩
    · obtain ⟨C, hC⟩ : ∃ C, Bs l ⟨ks, vs⟩ ns r = C := ⟨_, rfl⟩
      obtain ⟨C2, hC2⟩ : ∃ C, Bs l ⟨ks, vs⟩ ns (r + 1) = C := ⟨_, rfl⟩
      obtain ⟨CE, hCE⟩ : ∃ C, Bs l ⟨ks, vs⟩ ns l.length = C := ⟨_, rfl⟩
      rw [hC] at hrl hS hst
      rw [hC2] at hS
      rw [hCE] at hst hR2
      rw [hC]
      have hlC : (((C.map (atM ⟨ks, vs⟩)).map (enc : Int → D)).length : Int) = (r : Int) := by rw [List.length_map, List.length_map, hrl]
      (sym =>
       simp [hlb,hlC,szM,Pc,Pe,Pd,Pf,Pb,Pa,Py.eq_def,Gk.eq_def,N9.eq_def,H0.eq_def,Nk.eq_def,Za,Zb,Zc,Ze,Zf,Zg,Zh,Zi,Zj,Zk,Zl,Zm,Zn,Zo,Zp,Zq,Zr,Zs,Zu,Zv,Zw,Zy,Z0,Z3,Z4,Z5,Z6,Z7,Z8,Z9,Qa,Qb,Qc,Qd,Qe,Qf,Qg,Qi,Qj,Qk,Ql,Qm,Qn,Qo,Qp,Qq,Qr,Qs,Qt,Qu,Qv,Qw,Qx,Qy,Qz,Q0,Q1,Q3,Q4,Q5,Q6,Q7,Q8,Q9,Ja,Jb,Jc,Jd,Je,Jf,Jg,Jh,Ji,Jj,Jk,Jl,Jm,Jn,Jr,Js,Jt,Ju,Jv,Jw,Jz,J0,J1,J2,J3,J4,J5,J6,J7,J8,J9,Xa,Xb,Xc,Xd,Xe,Xf,Xg,Xh,Xi,Xj,Xk,Xl,Xm,Xn,Xo,Xp,Xq,Xr,Xs,Xt,Xu,Xv,Xw,Xx,Xy,Xz,X0,X1,X2,X3,X4,X5,X6,X7,X8,X9,Wa,Wb,Wc,Wd,We,Wf,Wg,Wh,Wi,Wj,Wl,Wm,Wn,Wo,Wp,Wq,Wr,Ws,Wt,Wu,Wv,Ww,Wx,Wy,Wz,W0,W3,W4,W5,W6,W7,W8,W9,Ya,Yb,Yc,Yf,Yg,Yh,Yi,Yj,Yk,Yl,Ym,Yn,Yo,Yp,Yq,Yr,Ys,Yt,Yu,Yv,Yw,Yx,Yy,Yz,Y0,Y1,Y2,Y3,Y4,Y5,Y6,Y7,Y8,Y9,Va,Vb,Vc,Vd,Ve,Vf,Vg,Vh,Vi,Vj,Vk,Vl,Vm,Vn,Vo,Vp,Vq,Vr,Vs,Vt,Vu,Vv,Vw,Vx,Vy,Vz,V0,V1,V2,V3,V4,V5,V6,V7,V8,V9,Ua,Ub,Uc,Ud,Ue,Uf,Ug,Uh,Ui,Uj,Uk,Ul,Um,Un,Uo,Up,Uq,Ur,Us,Ut,Uu,Uv,Uw,Ux,Uy,Uz,U0,U1,U2,U3,U4,U5,U6,U7,U8,U9,Ka,Kb,Kc,Kd,Ke,Kf,Kg,Kh,Ki,Kj,Kk,Kl,Km,Kn,Ko,Kq,Kr,Ks,Kt,Ku,Kv,Kw,Kx,Ky,Kz,K0,K1,K2,K3,K4,K5,K6,K7,K8,K9,Ga,Gx,Hd,Hb,Gq,Hi,Nx,Gy,Gp,Pg,A5,Sn]
       tactic =>
        try simp only [Gl] at *
        try simp only [nc2] at *
        try simp (maxSteps := 4000000) only [hlb,hlC,szM,G4]
        repeat' (first | with_reducible assumption | with_reducible refine And.intro ?_ ?_ | intro _ | omega | (rw [Gb]; omega))
        refine T0 (bc := Ty) (ns, ⟨l, ⟨ks, vs⟩, C⟩) [9, 1, 5, 30] ⟨by show ns.length ≤ 1000000; omega, hf, hP, hnin⟩ rfl (by simp) (by rw [C6]; rfl) ?_ ?_ ?_
        · show Hj _ _ (Lq ⟨l, ⟨ks, vs⟩, C⟩) _
          rw [Pj]
          simp [Hj,lk,rnO,rnA,rnAs,rk]
          rfl
        · show N8 (List.drop (Lq ⟨l, ⟨ks, vs⟩, C⟩).length _) _
          rw [Pj]
          simp [N8,lk]
        rcases idxP_cases (Pv l ⟨ks, vs⟩ C) ns [] with ⟨hi, hno⟩ | ⟨i0, hi0, hi, hyes, hno⟩
        · have hCeq := hst (by rw [hi]; rfl)
          subst hCeq
          have hne : ((r : Int) == (l.length : Int)) = false := by rw [beq_eq_false_iff_ne]; omega
          rw [hrl, hne, cond_false] at hR2
          injection hR2 with e1 e2
          injection e2 with e2 e3
          subst e1 e3
          (sym =>
           simp [Aa,C6,hi,hlC,hne,Pj,szM,Pc,Pe,Pd,Pf,Pb,Pa,Py.eq_def,Gk.eq_def,N9.eq_def,H0.eq_def,Nk.eq_def,Za,Zb,Zc,Ze,Zf,Zg,Zh,Zi,Zj,Zk,Zl,Zm,Zn,Zo,Zp,Zq,Zr,Zs,Zu,Zv,Zw,Zy,Z0,Z3,Z4,Z5,Z6,Z7,Z8,Z9,Qa,Qb,Qc,Qd,Qe,Qf,Qg,Qi,Qj,Qk,Ql,Qm,Qn,Qo,Qp,Qq,Qr,Qs,Qt,Qu,Qv,Qw,Qx,Qy,Qz,Q0,Q1,Q3,Q4,Q5,Q6,Q7,Q8,Q9,Ja,Jb,Jc,Jd,Je,Jf,Jg,Jh,Ji,Jj,Jk,Jl,Jm,Jn,Jr,Js,Jt,Ju,Jv,Jw,Jz,J0,J1,J2,J3,J4,J5,J6,J7,J8,J9,Xa,Xb,Xc,Xd,Xe,Xf,Xg,Xh,Xi,Xj,Xk,Xl,Xm,Xn,Xo,Xp,Xq,Xr,Xs,Xt,Xu,Xv,Xw,Xx,Xy,Xz,X0,X1,X2,X3,X4,X5,X6,X7,X8,X9,Wa,Wb,Wc,Wd,We,Wf,Wg,Wh,Wi,Wj,Wl,Wm,Wn,Wo,Wp,Wq,Wr,Ws,Wt,Wu,Wv,Ww,Wx,Wy,Wz,W0,W3,W4,W5,W6,W7,W8,W9,Ya,Yb,Yc,Yf,Yg,Yh,Yi,Yj,Yk,Yl,Ym,Yn,Yo,Yp,Yq,Yr,Ys,Yt,Yu,Yv,Yw,Yx,Yy,Yz,Y0,Y1,Y2,Y3,Y4,Y5,Y6,Y7,Y8,Y9,Va,Vb,Vc,Vd,Ve,Vf,Vg,Vh,Vi,Vj,Vk,Vl,Vm,Vn,Vo,Vp,Vq,Vr,Vs,Vt,Vu,Vv,Vw,Vx,Vy,Vz,V0,V1,V2,V3,V4,V5,V6,V7,V8,V9,Ua,Ub,Uc,Ud,Ue,Uf,Ug,Uh,Ui,Uj,Uk,Ul,Um,Un,Uo,Up,Uq,Ur,Us,Ut,Uu,Uv,Uw,Ux,Uy,Uz,U0,U1,U2,U3,U4,U5,U6,U7,U8,U9,Ka,Kb,Kc,Kd,Ke,Kf,Kg,Kh,Ki,Kj,Kk,Kl,Km,Kn,Ko,Kq,Kr,Ks,Kt,Ku,Kv,Kw,Kx,Ky,Kz,K0,K1,K2,K3,K4,K5,K6,K7,K8,K9,Ga,Gx,Hd,Hb,Gq,Hi,Nx,Gy,Gp,Pg,A5,Sn]
           tactic =>
            try simp only [Gl] at *
            try simp only [nc2] at *
            try simp (maxSteps := 4000000) only [Aa,C6,hi,hlC,hne,Pj,szM,G4]
            repeat' (first | with_reducible assumption | with_reducible refine And.intro ?_ ?_ | intro _ | omega | (rw [Gb]; omega))
            refine Ha [2, 3, 4, 13, 14, 64, 65, 66, 67, 68, 69, 70, 71, 72, 73, 74, 75, 76, 77] (fun k : Nat => [(63, .d (.int .i64 k))]) (fun k : Nat => []) (fun k : Nat => k ≤ ns.length ∧ ∀ j, j < k → Az l ⟨ks, vs⟩ (ns.getD j []) = false) (fun k : Nat => ns.length - k) 0 ?_ ?_ ?_
            · simp
            · ((try simp only [Gd, Gj, Gi, Gs, upd, Gt, G5, Hn, Nat.reduceDiv, Nat.reduceMod, Nat.reduceMul, Nat.reduceAdd, Nat.reduceEqDiff, List.set_cons_zero, List.set_cons_succ, if_true, if_false, reduceIte]); (first | refine Wk.of_fl ?_ | skip); simp only [Wk, wkK, Ht, wkT, wk1, AV.kept, keptAll, wkO, lk, Ge, and_true, true_and, and_self, Nat.reduceEqDiff, Nat.reduceLeDiff, if_true, if_false, reduceIte, reduceCtorEq, Option.isSome, false_implies]; try simp [Wk, wkK, wkT, wk1, AV.kept, keptAll, wkO, lk, Ge])
            rintro k ⟨hk, hnk⟩
            rcases Hg k ns.length with ⟨hklt, hkb⟩ | ⟨hklt, hkb⟩
            · have q1 := Hp ([] : List UInt8) hklt
              have hst2 : Az l ⟨ks, vs⟩ (ns.getD k []) = false → ∀ j, j < k + 1 → Az l ⟨ks, vs⟩ (ns.getD j []) = false := fun h => Ok hnk h
              have hit : Az l ⟨ks, vs⟩ (ns.getD k []) = true → R2 = atM ⟨ks, vs⟩ (ns.getD k []) := fun h => by
                rw [find_at [] hklt hnk h] at e2
                exact e2.symm
              have hin := hnin (ns.getD k []) (by simp [hklt])
              obtain ⟨y, hy⟩ : ∃ y, ns.getD k [] = y := ⟨_, rfl⟩
              rw [hy] at q1 hst2 hit hin
              obtain ⟨p1, p2⟩ := hP y hin
              simp only at p1 p2
              unfold Az atM at hst2 hit
              simp only at hst2 hit
              obtain ⟨v, hv⟩ : ∃ v, Lv y 0 ks vs = v := ⟨_, rfl⟩
              rw [hv] at p1 p2 hst2 hit
              obtain ⟨p, rfl⟩ : ∃ p : Nat, v = p := ⟨v.toNat, by omega⟩
              rw [Int.toNat_natCast] at hst2 hit
              have hp2 : L3.post ⟨l, ⟨ks, vs⟩, p⟩ = [.mp ((Om l ⟨ks, vs⟩ p).map enc) ((Tq (Om l ⟨ks, vs⟩ p)).map enc) false] := rfl
              obtain ⟨S, hSS⟩ : ∃ S, Om l ⟨ks, vs⟩ p = S := ⟨_, rfl⟩
              rw [hSS] at hp2 hst2 hit
              (sym =>
               simp [hkb,q1,H5,Mn,hv,szM,Pc,Pe,Pd,Pf,Pb,Pa,Py.eq_def,Gk.eq_def,N9.eq_def,H0.eq_def,Nk.eq_def,Za,Zb,Zc,Ze,Zf,Zg,Zh,Zi,Zj,Zk,Zl,Zm,Zn,Zo,Zp,Zq,Zr,Zs,Zu,Zv,Zw,Zy,Z0,Z3,Z4,Z5,Z6,Z7,Z8,Z9,Qa,Qb,Qc,Qd,Qe,Qf,Qg,Qi,Qj,Qk,Ql,Qm,Qn,Qo,Qp,Qq,Qr,Qs,Qt,Qu,Qv,Qw,Qx,Qy,Qz,Q0,Q1,Q3,Q4,Q5,Q6,Q7,Q8,Q9,Ja,Jb,Jc,Jd,Je,Jf,Jg,Jh,Ji,Jj,Jk,Jl,Jm,Jn,Jr,Js,Jt,Ju,Jv,Jw,Jz,J0,J1,J2,J3,J4,J5,J6,J7,J8,J9,Xa,Xb,Xc,Xd,Xe,Xf,Xg,Xh,Xi,Xj,Xk,Xl,Xm,Xn,Xo,Xp,Xq,Xr,Xs,Xt,Xu,Xv,Xw,Xx,Xy,Xz,X0,X1,X2,X3,X4,X5,X6,X7,X8,X9,Wa,Wb,Wc,Wd,We,Wf,Wg,Wh,Wi,Wj,Wl,Wm,Wn,Wo,Wp,Wq,Wr,Ws,Wt,Wu,Wv,Ww,Wx,Wy,Wz,W0,W3,W4,W5,W6,W7,W8,W9,Ya,Yb,Yc,Yf,Yg,Yh,Yi,Yj,Yk,Yl,Ym,Yn,Yo,Yp,Yq,Yr,Ys,Yt,Yu,Yv,Yw,Yx,Yy,Yz,Y0,Y1,Y2,Y3,Y4,Y5,Y6,Y7,Y8,Y9,Va,Vb,Vc,Vd,Ve,Vf,Vg,Vh,Vi,Vj,Vk,Vl,Vm,Vn,Vo,Vp,Vq,Vr,Vs,Vt,Vu,Vv,Vw,Vx,Vy,Vz,V0,V1,V2,V3,V4,V5,V6,V7,V8,V9,Ua,Ub,Uc,Ud,Ue,Uf,Ug,Uh,Ui,Uj,Uk,Ul,Um,Un,Uo,Up,Uq,Ur,Us,Ut,Uu,Uv,Uw,Ux,Uy,Uz,U0,U1,U2,U3,U4,U5,U6,U7,U8,U9,Ka,Kb,Kc,Kd,Ke,Kf,Kg,Kh,Ki,Kj,Kk,Kl,Km,Kn,Ko,Kq,Kr,Ks,Kt,Ku,Kv,Kw,Kx,Ky,Kz,K0,K1,K2,K3,K4,K5,K6,K7,K8,K9,Ga,Gx,Hd,Hb,Gq,Hi,Nx,Gy,Gp,Pg,A5,Sn]
               tactic =>
                try simp only [Gl] at *
                try simp only [nc2] at *
                try simp (maxSteps := 4000000) only [hkb,q1,H5,Mn,hv,szM,G4]
                repeat' (first | with_reducible assumption | with_reducible refine And.intro ?_ ?_ | intro _ | omega | (rw [Gb]; omega))
                refine aCallB_ofm (bc := L3) ⟨l, ⟨ks, vs⟩, p⟩ [73] 0 ⟨hf, hP, by show p < l.length; omega⟩ rfl (by simp) (by rw [hp2]; rfl) ?_ ?_ rfl ?_
                · show Hj _ _ [] _
                  simp [Hj]
                · show N8 (List.drop 0 _) _
                  simp [N8,lk]
                cases hb : N6 (p : Int) S with
                | true =>
                  have hr2 := hit hb
                  subst hr2
                  (sym =>
                   simp [hp2,hb,Bq,Dt,B0,hR,M3.eq_def,szM,Pc,Pe,Pd,Pf,Pb,Pa,Py.eq_def,Gk.eq_def,N9.eq_def,H0.eq_def,Nk.eq_def,Za,Zb,Zc,Ze,Zf,Zg,Zh,Zi,Zj,Zk,Zl,Zm,Zn,Zo,Zp,Zq,Zr,Zs,Zu,Zv,Zw,Zy,Z0,Z3,Z4,Z5,Z6,Z7,Z8,Z9,Qa,Qb,Qc,Qd,Qe,Qf,Qg,Qi,Qj,Qk,Ql,Qm,Qn,Qo,Qp,Qq,Qr,Qs,Qt,Qu,Qv,Qw,Qx,Qy,Qz,Q0,Q1,Q3,Q4,Q5,Q6,Q7,Q8,Q9,Ja,Jb,Jc,Jd,Je,Jf,Jg,Jh,Ji,Jj,Jk,Jl,Jm,Jn,Jr,Js,Jt,Ju,Jv,Jw,Jz,J0,J1,J2,J3,J4,J5,J6,J7,J8,J9,Xa,Xb,Xc,Xd,Xe,Xf,Xg,Xh,Xi,Xj,Xk,Xl,Xm,Xn,Xo,Xp,Xq,Xr,Xs,Xt,Xu,Xv,Xw,Xx,Xy,Xz,X0,X1,X2,X3,X4,X5,X6,X7,X8,X9,Wa,Wb,Wc,Wd,We,Wf,Wg,Wh,Wi,Wj,Wl,Wm,Wn,Wo,Wp,Wq,Wr,Ws,Wt,Wu,Wv,Ww,Wx,Wy,Wz,W0,W3,W4,W5,W6,W7,W8,W9,Ya,Yb,Yc,Yf,Yg,Yh,Yi,Yj,Yk,Yl,Ym,Yn,Yo,Yp,Yq,Yr,Ys,Yt,Yu,Yv,Yw,Yx,Yy,Yz,Y0,Y1,Y2,Y3,Y4,Y5,Y6,Y7,Y8,Y9,Va,Vb,Vc,Vd,Ve,Vf,Vg,Vh,Vi,Vj,Vk,Vl,Vm,Vn,Vo,Vp,Vq,Vr,Vs,Vt,Vu,Vv,Vw,Vx,Vy,Vz,V0,V1,V2,V3,V4,V5,V6,V7,V8,V9,Ua,Ub,Uc,Ud,Ue,Uf,Ug,Uh,Ui,Uj,Uk,Ul,Um,Un,Uo,Up,Uq,Ur,Us,Ut,Uu,Uv,Uw,Ux,Uy,Uz,U0,U1,U2,U3,U4,U5,U6,U7,U8,U9,Ka,Kb,Kc,Kd,Ke,Kf,Kg,Kh,Ki,Kj,Kk,Kl,Km,Kn,Ko,Kq,Kr,Ks,Kt,Ku,Kv,Kw,Kx,Ky,Kz,K0,K1,K2,K3,K4,K5,K6,K7,K8,K9,Ga,Gx,Hd,Hb,Gq,Hi,Nx,Gy,Gp,Pg,A5,Sn]
                   tactic =>
                    try simp only [Gl] at *
                    try simp only [nc2] at *
                    try simp (maxSteps := 4000000) only [hp2,hb,Bq,Dt,B0,hR,M3.eq_def,szM,G4]
                    repeat' (first | with_reducible assumption | with_reducible refine And.intro ?_ ?_ | intro _ | omega | (rw [Gb]; omega))
                    all_goals first
                      | (with_reducible refine G7 ?_; kernel_rfl)
                      | omega
                      | trivial
                      | rfl
                      | skip)
                | false =>
                  have hs := hst2 hb
                  (sym =>
                   simp [hp2,hb,Bq,Dt,B0,szM,Pc,Pe,Pd,Pf,Pb,Pa,Py.eq_def,Gk.eq_def,N9.eq_def,H0.eq_def,Nk.eq_def,Za,Zb,Zc,Ze,Zf,Zg,Zh,Zi,Zj,Zk,Zl,Zm,Zn,Zo,Zp,Zq,Zr,Zs,Zu,Zv,Zw,Zy,Z0,Z3,Z4,Z5,Z6,Z7,Z8,Z9,Qa,Qb,Qc,Qd,Qe,Qf,Qg,Qi,Qj,Qk,Ql,Qm,Qn,Qo,Qp,Qq,Qr,Qs,Qt,Qu,Qv,Qw,Qx,Qy,Qz,Q0,Q1,Q3,Q4,Q5,Q6,Q7,Q8,Q9,Ja,Jb,Jc,Jd,Je,Jf,Jg,Jh,Ji,Jj,Jk,Jl,Jm,Jn,Jr,Js,Jt,Ju,Jv,Jw,Jz,J0,J1,J2,J3,J4,J5,J6,J7,J8,J9,Xa,Xb,Xc,Xd,Xe,Xf,Xg,Xh,Xi,Xj,Xk,Xl,Xm,Xn,Xo,Xp,Xq,Xr,Xs,Xt,Xu,Xv,Xw,Xx,Xy,Xz,X0,X1,X2,X3,X4,X5,X6,X7,X8,X9,Wa,Wb,Wc,Wd,We,Wf,Wg,Wh,Wi,Wj,Wl,Wm,Wn,Wo,Wp,Wq,Wr,Ws,Wt,Wu,Wv,Ww,Wx,Wy,Wz,W0,W3,W4,W5,W6,W7,W8,W9,Ya,Yb,Yc,Yf,Yg,Yh,Yi,Yj,Yk,Yl,Ym,Yn,Yo,Yp,Yq,Yr,Ys,Yt,Yu,Yv,Yw,Yx,Yy,Yz,Y0,Y1,Y2,Y3,Y4,Y5,Y6,Y7,Y8,Y9,Va,Vb,Vc,Vd,Ve,Vf,Vg,Vh,Vi,Vj,Vk,Vl,Vm,Vn,Vo,Vp,Vq,Vr,Vs,Vt,Vu,Vv,Vw,Vx,Vy,Vz,V0,V1,V2,V3,V4,V5,V6,V7,V8,V9,Ua,Ub,Uc,Ud,Ue,Uf,Ug,Uh,Ui,Uj,Uk,Ul,Um,Un,Uo,Up,Uq,Ur,Us,Ut,Uu,Uv,Uw,Ux,Uy,Uz,U0,U1,U2,U3,U4,U5,U6,U7,U8,U9,Ka,Kb,Kc,Kd,Ke,Kf,Kg,Kh,Ki,Kj,Kk,Kl,Km,Kn,Ko,Kq,Kr,Ks,Kt,Ku,Kv,Kw,Kx,Ky,Kz,K0,K1,K2,K3,K4,K5,K6,K7,K8,K9,Ga,Gx,Hd,Hb,Gq,Hi,Nx,Gy,Gp,Pg,A5,Sn]
                   tactic =>
                    try simp only [Gl] at *
                    try simp only [nc2] at *
                    try simp (maxSteps := 4000000) only [hp2,hb,Bq,Dt,B0,szM,G4]
                    repeat' (first | with_reducible assumption | with_reducible refine And.intro ?_ ?_ | intro _ | omega | (rw [Gb]; omega))
                    all_goals first
                      | (with_reducible refine G7 ?_; kernel_rfl)
                      | omega
                      | exact ⟨k + 1, by ((try simp only [Gd, Gj, Gi, Gs, upd, Gt, G5, Hn, Nat.reduceDiv, Nat.reduceMod, Nat.reduceMul, Nat.reduceAdd, Nat.reduceEqDiff, List.set_cons_zero, List.set_cons_succ, if_true, if_false, reduceIte]); (first | refine Wk.of_fl ?_ | skip); simp only [Wk, wkK, Ht, wkT, wk1, AV.kept, keptAll, wkO, lk, Ge, and_true, true_and, and_self, Nat.reduceEqDiff, Nat.reduceLeDiff, if_true, if_false, reduceIte, reduceCtorEq, Option.isSome, false_implies]; try simp [Wk, wkK, wkT, wk1, AV.kept, keptAll, wkO, lk, Ge]), by omega, hs, by omega⟩
                      | skip))
            · rw [find_no [] (fun j hj => hnk j (by omega))] at e2
              simp only at e2
              subst e2
              (sym =>
               simp [hkb,hR,M3.eq_def,szM,Pc,Pe,Pd,Pf,Pb,Pa,Py.eq_def,Gk.eq_def,N9.eq_def,H0.eq_def,Nk.eq_def,Za,Zb,Zc,Ze,Zf,Zg,Zh,Zi,Zj,Zk,Zl,Zm,Zn,Zo,Zp,Zq,Zr,Zs,Zu,Zv,Zw,Zy,Z0,Z3,Z4,Z5,Z6,Z7,Z8,Z9,Qa,Qb,Qc,Qd,Qe,Qf,Qg,Qi,Qj,Qk,Ql,Qm,Qn,Qo,Qp,Qq,Qr,Qs,Qt,Qu,Qv,Qw,Qx,Qy,Qz,Q0,Q1,Q3,Q4,Q5,Q6,Q7,Q8,Q9,Ja,Jb,Jc,Jd,Je,Jf,Jg,Jh,Ji,Jj,Jk,Jl,Jm,Jn,Jr,Js,Jt,Ju,Jv,Jw,Jz,J0,J1,J2,J3,J4,J5,J6,J7,J8,J9,Xa,Xb,Xc,Xd,Xe,Xf,Xg,Xh,Xi,Xj,Xk,Xl,Xm,Xn,Xo,Xp,Xq,Xr,Xs,Xt,Xu,Xv,Xw,Xx,Xy,Xz,X0,X1,X2,X3,X4,X5,X6,X7,X8,X9,Wa,Wb,Wc,Wd,We,Wf,Wg,Wh,Wi,Wj,Wl,Wm,Wn,Wo,Wp,Wq,Wr,Ws,Wt,Wu,Wv,Ww,Wx,Wy,Wz,W0,W3,W4,W5,W6,W7,W8,W9,Ya,Yb,Yc,Yf,Yg,Yh,Yi,Yj,Yk,Yl,Ym,Yn,Yo,Yp,Yq,Yr,Ys,Yt,Yu,Yv,Yw,Yx,Yy,Yz,Y0,Y1,Y2,Y3,Y4,Y5,Y6,Y7,Y8,Y9,Va,Vb,Vc,Vd,Ve,Vf,Vg,Vh,Vi,Vj,Vk,Vl,Vm,Vn,Vo,Vp,Vq,Vr,Vs,Vt,Vu,Vv,Vw,Vx,Vy,Vz,V0,V1,V2,V3,V4,V5,V6,V7,V8,V9,Ua,Ub,Uc,Ud,Ue,Uf,Ug,Uh,Ui,Uj,Uk,Ul,Um,Un,Uo,Up,Uq,Ur,Us,Ut,Uu,Uv,Uw,Ux,Uy,Uz,U0,U1,U2,U3,U4,U5,U6,U7,U8,U9,Ka,Kb,Kc,Kd,Ke,Kf,Kg,Kh,Ki,Kj,Kk,Kl,Km,Kn,Ko,Kq,Kr,Ks,Kt,Ku,Kv,Kw,Kx,Ky,Kz,K0,K1,K2,K3,K4,K5,K6,K7,K8,K9,Ga,Gx,Hd,Hb,Gq,Hi,Nx,Gy,Gp,Pg,A5,Sn]
               tactic =>
                try simp only [Gl] at *
                try simp only [nc2] at *
                try simp (maxSteps := 4000000) only [hkb,hR,M3.eq_def,szM,G4]
                repeat' (first | with_reducible assumption | with_reducible refine And.intro ?_ ?_ | intro _ | omega | (rw [Gb]; omega))
                all_goals first
                  | trivial
                  | rfl
                  | skip))
        · have hi0b : ltB (i0 : Int) 0 = false := by rw [Hq]; omega
          rw [hi, hi0b, cond_false, Int.toNat_natCast] at hS
          have q1 := Hp ([] : List UInt8) hi0
          have hin := hnin (ns.getD i0 []) (by simp [hi0])
          obtain ⟨y, hy⟩ : ∃ y, ns.getD i0 [] = y := ⟨_, rfl⟩
          rw [hy] at q1 hS hyes hin
          have hlate : N6 y C = false := by
            unfold Pv Dj at hyes
            rw [Bool.and_eq_true] at hyes
            simpa using hyes.1
          have hk1 := gSetK_noS hlate
          have hv1 := gSetV_truesS hlate
          obtain ⟨v, hv⟩ : ∃ v, Lv y 0 ks vs = v := ⟨_, rfl⟩
          have hav : atM ⟨ks, vs⟩ y = v := hv
          rw [← hS] at hk1 hv1
          have hC2l : C2.length = r + 1 := by rw [hS, List.length_append, hrl]; rfl
          have hmap : (C.map (atM ⟨ks, vs⟩)).map (enc : Int → D) ++ [.int .i64 v] = (C2.map (atM ⟨ks, vs⟩)).map enc := by
            rw [hS]
            simp [hav]
          (sym =>
           simp [Aa,C6,hi,hi0b,q1,hv,hk1,hv1,Pj,hmap,H5,Mn,mSetK_S,mSetV_SB,szM,Pc,Pe,Pd,Pf,Pb,Pa,Py.eq_def,Gk.eq_def,N9.eq_def,H0.eq_def,Nk.eq_def,Za,Zb,Zc,Ze,Zf,Zg,Zh,Zi,Zj,Zk,Zl,Zm,Zn,Zo,Zp,Zq,Zr,Zs,Zu,Zv,Zw,Zy,Z0,Z3,Z4,Z5,Z6,Z7,Z8,Z9,Qa,Qb,Qc,Qd,Qe,Qf,Qg,Qi,Qj,Qk,Ql,Qm,Qn,Qo,Qp,Qq,Qr,Qs,Qt,Qu,Qv,Qw,Qx,Qy,Qz,Q0,Q1,Q3,Q4,Q5,Q6,Q7,Q8,Q9,Ja,Jb,Jc,Jd,Je,Jf,Jg,Jh,Ji,Jj,Jk,Jl,Jm,Jn,Jr,Js,Jt,Ju,Jv,Jw,Jz,J0,J1,J2,J3,J4,J5,J6,J7,J8,J9,Xa,Xb,Xc,Xd,Xe,Xf,Xg,Xh,Xi,Xj,Xk,Xl,Xm,Xn,Xo,Xp,Xq,Xr,Xs,Xt,Xu,Xv,Xw,Xx,Xy,Xz,X0,X1,X2,X3,X4,X5,X6,X7,X8,X9,Wa,Wb,Wc,Wd,We,Wf,Wg,Wh,Wi,Wj,Wl,Wm,Wn,Wo,Wp,Wq,Wr,Ws,Wt,Wu,Wv,Ww,Wx,Wy,Wz,W0,W3,W4,W5,W6,W7,W8,W9,Ya,Yb,Yc,Yf,Yg,Yh,Yi,Yj,Yk,Yl,Ym,Yn,Yo,Yp,Yq,Yr,Ys,Yt,Yu,Yv,Yw,Yx,Yy,Yz,Y0,Y1,Y2,Y3,Y4,Y5,Y6,Y7,Y8,Y9,Va,Vb,Vc,Vd,Ve,Vf,Vg,Vh,Vi,Vj,Vk,Vl,Vm,Vn,Vo,Vp,Vq,Vr,Vs,Vt,Vu,Vv,Vw,Vx,Vy,Vz,V0,V1,V2,V3,V4,V5,V6,V7,V8,V9,Ua,Ub,Uc,Ud,Ue,Uf,Ug,Uh,Ui,Uj,Uk,Ul,Um,Un,Uo,Up,Uq,Ur,Us,Ut,Uu,Uv,Uw,Ux,Uy,Uz,U0,U1,U2,U3,U4,U5,U6,U7,U8,U9,Ka,Kb,Kc,Kd,Ke,Kf,Kg,Kh,Ki,Kj,Kk,Kl,Km,Kn,Ko,Kq,Kr,Ks,Kt,Ku,Kv,Kw,Kx,Ky,Kz,K0,K1,K2,K3,K4,K5,K6,K7,K8,K9,Ga,Gx,Hd,Hb,Gq,Hi,Nx,Gy,Gp,Pg,A5,Sn]
           tactic =>
            try simp only [Gl] at *
            try simp only [nc2] at *
            try simp (maxSteps := 4000000) only [Aa,C6,hi,hi0b,q1,hv,hk1,hv1,Pj,hmap,H5,Mn,mSetK_S,mSetV_SB,szM,G4]
            repeat' (first | with_reducible assumption | with_reducible refine And.intro ?_ ?_ | intro _ | omega | (rw [Gb]; omega))
            all_goals first
              | (with_reducible refine G7 ?_; kernel_rfl)
              | omega
              | (rw [List.length_map, List.length_map]; omega)
              | exact ⟨r + 1, by rw [hC2]; ((try simp only [Gd, Gj, Gi, Gs, upd, Gt, G5, Hn, Nat.reduceDiv, Nat.reduceMod, Nat.reduceMul, Nat.reduceAdd, Nat.reduceEqDiff, List.set_cons_zero, List.set_cons_succ, if_true, if_false, reduceIte]); (first | refine Wk.of_fl ?_ | skip); simp only [Wk, wkK, Ht, wkT, wk1, AV.kept, keptAll, wkO, lk, Ge, and_true, true_and, and_self, Nat.reduceEqDiff, Nat.reduceLeDiff, if_true, if_false, reduceIte, reduceCtorEq, Option.isSome, false_implies]; try simp [Wk, wkK, wkT, wk1, AV.kept, keptAll, wkO, lk, Ge, hmap]); rfl, by omega, by rw [hC2]; exact hC2l, by omega⟩
              | skip))
    · have hrl2 : r = l.length := by omega
      rw [hrl2] at hrl
      rw [hrl2]
      obtain ⟨C, hC⟩ : ∃ C, Bs l ⟨ks, vs⟩ ns l.length = C := ⟨_, rfl⟩
      rw [hC] at hrl hR2
      rw [hC]
      have hlC : (((C.map (atM ⟨ks, vs⟩)).map (enc : Int → D)).length : Int) = (l.length : Int) := by rw [List.length_map, List.length_map, hrl]
      have hlb2 : ltB (l.length : Int) (l.length : Int) = false := by rw [Hq]; omega
      have hee : ((l.length : Int) == (l.length : Int)) = true := by rw [beq_iff_eq]
      rw [hrl, hee, cond_true] at hR2
      injection hR2 with e1 e2
      injection e2 with e2 e3
      subst e1 e2 e3
      (sym =>
       simp [hlb2,hlC,hee,hR,M3.eq_def,szM,Pc,Pe,Pd,Pf,Pb,Pa,Py.eq_def,Gk.eq_def,N9.eq_def,H0.eq_def,Nk.eq_def,Za,Zb,Zc,Ze,Zf,Zg,Zh,Zi,Zj,Zk,Zl,Zm,Zn,Zo,Zp,Zq,Zr,Zs,Zu,Zv,Zw,Zy,Z0,Z3,Z4,Z5,Z6,Z7,Z8,Z9,Qa,Qb,Qc,Qd,Qe,Qf,Qg,Qi,Qj,Qk,Ql,Qm,Qn,Qo,Qp,Qq,Qr,Qs,Qt,Qu,Qv,Qw,Qx,Qy,Qz,Q0,Q1,Q3,Q4,Q5,Q6,Q7,Q8,Q9,Ja,Jb,Jc,Jd,Je,Jf,Jg,Jh,Ji,Jj,Jk,Jl,Jm,Jn,Jr,Js,Jt,Ju,Jv,Jw,Jz,J0,J1,J2,J3,J4,J5,J6,J7,J8,J9,Xa,Xb,Xc,Xd,Xe,Xf,Xg,Xh,Xi,Xj,Xk,Xl,Xm,Xn,Xo,Xp,Xq,Xr,Xs,Xt,Xu,Xv,Xw,Xx,Xy,Xz,X0,X1,X2,X3,X4,X5,X6,X7,X8,X9,Wa,Wb,Wc,Wd,We,Wf,Wg,Wh,Wi,Wj,Wl,Wm,Wn,Wo,Wp,Wq,Wr,Ws,Wt,Wu,Wv,Ww,Wx,Wy,Wz,W0,W3,W4,W5,W6,W7,W8,W9,Ya,Yb,Yc,Yf,Yg,Yh,Yi,Yj,Yk,Yl,Ym,Yn,Yo,Yp,Yq,Yr,Ys,Yt,Yu,Yv,Yw,Yx,Yy,Yz,Y0,Y1,Y2,Y3,Y4,Y5,Y6,Y7,Y8,Y9,Va,Vb,Vc,Vd,Ve,Vf,Vg,Vh,Vi,Vj,Vk,Vl,Vm,Vn,Vo,Vp,Vq,Vr,Vs,Vt,Vu,Vv,Vw,Vx,Vy,Vz,V0,V1,V2,V3,V4,V5,V6,V7,V8,V9,Ua,Ub,Uc,Ud,Ue,Uf,Ug,Uh,Ui,Uj,Uk,Ul,Um,Un,Uo,Up,Uq,Ur,Us,Ut,Uu,Uv,Uw,Ux,Uy,Uz,U0,U1,U2,U3,U4,U5,U6,U7,U8,U9,Ka,Kb,Kc,Kd,Ke,Kf,Kg,Kh,Ki,Kj,Kk,Kl,Km,Kn,Ko,Kq,Kr,Ks,Kt,Ku,Kv,Kw,Kx,Ky,Kz,K0,K1,K2,K3,K4,K5,K6,K7,K8,K9,Ga,Gx,Hd,Hb,Gq,Hi,Nx,Gy,Gp,Pg,A5,Sn]
       tactic =>
        try simp only [Gl] at *
        try simp only [nc2] at *
        try simp (maxSteps := 4000000) only [hlb2,hlC,hee,hR,M3.eq_def,szM,G4]
        repeat' (first | with_reducible assumption | with_reducible refine And.intro ?_ ?_ | intro _ | omega | (rw [Gb]; omega))
        all_goals first
          | trivial
          | rfl
          | skip))
end Go.Am.Graph
set_option linter.unusedSimpArgs false
set_option linter.unusedVariables false
set_option maxHeartbeats 1000000
namespace Go.Am.Graph
open Go.Proofs
def A4 (l : List Mod) (k j : Nat) : Prop := ∃ s ∈ imp l k, Hr l s = some j
inductive Path (l : List Mod) : Nat → Nat → Prop
  | one {k j : Nat} : A4 l k j → Path l k j
  | more {k j n : Nat} : A4 l k j → Path l j n → Path l k n
theorem C0 {l : List Mod} {k j : Nat} (h : A4 l k j) : k < l.length ∧ j < l.length := by
  obtain ⟨s, hs, hj⟩ := h
  refine ⟨?_, Mr hj⟩
  rcases Nat.lt_or_ge k l.length with h | h
  · exact h
  · unfold imp at hs
    rw [List.getD_eq_getElem?_getD, List.getElem?_eq_none h] at hs
    cases hs
theorem T1 {l : List Mod} {k j : Nat} (h : Path l k j) : k < l.length ∧ j < l.length := by
  induction h with
  | one h => exact C0 h
  | more h _ ih => exact ⟨(C0 h).1, ih.2⟩
theorem Path.trans {l : List Mod} {a b c : Nat} (h : Path l a b) (k : Path l b c) : Path l a c := by
  induction h with
  | one h => exact .more h k
  | more h _ ih => exact .more h (ih k)
theorem Path.snoc {l : List Mod} {a b c : Nat} (h : Path l a b) (k : A4 l b c) : Path l a c := h.trans (.one k)
theorem E5 {l : List Mod} {M : Nat → Prop} (hM : ∀ k j, M k → A4 l k j → M j) {i k : Nat} (h : Path l i k) (h1 : ∀ j, A4 l i j → M j) : M k := by
  induction h with
  | one h => exact h1 _ h
  | more h _ ih => exact ih fun j hj => hM _ _ (h1 _ h) hj
theorem getD_set {b : List Bool} {n k : Nat} (hn : n < b.length) : (b.set n true).getD k false = (b.getD k false || (n == k)) := by
  rw [List.getD_eq_getElem?_getD, List.getElem?_set, List.getD_eq_getElem?_getD]
  by_cases h : n = k
  · subst h
    simp [hn]
  · rw [if_neg h]
    have : (n == k) = false := by rw [beq_eq_false_iff_ne]; exact h
    rw [this, Bool.or_false]
theorem mk1_at {l : List Mod} {b : List Bool} (hb : b.length = l.length) (s : List UInt8) (k : Nat) : (mk1 l b s).getD k false = true ↔ b.getD k false = true ∨ Hr l s = some k := by
  unfold mk1
  cases h : Hr l s with
  | none => simp
  | some n =>
    have := Mr h
    simp only
    rw [getD_set (by omega), Bool.or_eq_true, beq_iff_eq]
    simp
theorem marks_at {l : List Mod} : ∀ {ss : List (List UInt8)} {b : List Bool} (_ : b.length = l.length) (k : Nat), (Dm l b ss).getD k false = true ↔ b.getD k false = true ∨ ∃ s ∈ ss, Hr l s = some k
  | [], b, hb, k => by simp [Dm]
  | s :: ss, b, hb, k => by
    show (Dm l (mk1 l b s) ss).getD k false = true ↔ _
    rw [marks_at (by rw [mk1_len, hb]) k, mk1_at hb]
    simp only [List.mem_cons, exists_eq_or_imp, or_assoc]
theorem sweep1_at {l : List Mod} {i : Nat} {b : List Bool} (hb : b.length = l.length) (k j : Nat) :
    (sweep1 l i b k).getD j false = true ↔ b.getD j false = true ∨ ((k = i ∨ b.getD k false = true) ∧ A4 l k j) := by
  unfold sweep1
  cases hc : (((k : Int) != (i : Int)) && !b.getD k false) with
  | true =>
    rw [cond_true]
    rw [Bool.and_eq_true, Bool.not_eq_true', bne_iff_ne] at hc
    constructor
    · exact .inl
    · rintro (h | ⟨h | h, _⟩)
      · exact h
      · exact absurd (by rw [h]) hc.1
      · rw [hc.2] at h; cases h
  | false =>
    rw [cond_false, marks_at hb]
    rw [Bool.and_eq_false_iff, bne_eq_false_iff_eq, Bool.not_eq_false'] at hc
    have h1 : k = i ∨ b.getD k false = true := by
      rcases hc with h | h
      · exact .inl (by omega)
      · exact .inr h
    constructor
    · rintro (h | h)
      · exact .inl h
      · exact .inr ⟨h1, h⟩
    · rintro (h | ⟨_, h⟩)
      · exact .inl h
      · exact .inr h
theorem A6 {l : List Mod} {i : Nat} {b : List Bool} (hb : b.length = l.length) : ∀ n j, b.getD j false = true → (Bv l i b n).getD j false = true
  | 0, _, h => h
  | n + 1, j, h => by
    rw [Bv, sweep1_at (by rw [Co, hb])]
    exact .inl (A6 hb n j h)
theorem sweepN_succ {l : List Mod} {i : Nat} {b : List Bool} (hb : b.length = l.length) : ∀ n k j, k < n → (k = i ∨ b.getD k false = true) → A4 l k j → (Bv l i b n).getD j false = true
  | 0, _, _, h, _, _ => by omega
  | n + 1, k, j, h, hk, hs => by
    rw [Bv, sweep1_at (by rw [Co, hb])]
    by_cases e : k = n
    · subst e
      refine .inr ⟨?_, hs⟩
      rcases hk with h | h
      · exact .inl h
      · exact .inr (A6 hb k k h)
    · exact .inl (sweepN_succ hb n k j (by omega) hk hs)
theorem Rx {l : List Mod} {i : Nat} {b : List Bool} (hb : b.length = l.length) (h0 : ∀ k, b.getD k false = true → Path l i k) : ∀ n k, (Bv l i b n).getD k false = true → Path l i k
  | 0, k, h => h0 k h
  | n + 1, j, h => by
    rw [Bv, sweep1_at (by rw [Co, hb])] at h
    rcases h with h | ⟨h | h, hs⟩
    · exact Rx hb h0 n j h
    · subst h; exact .one hs
    · exact (Rx hb h0 n n h).snoc hs
theorem rounds_sound {l : List Mod} {i : Nat} : ∀ r k, (Mg l i r).getD k false = true → Path l i k
  | 0, k, h => by
    have : (List.replicate l.length false).getD k false = false := by
      rw [List.getD_eq_getElem?_getD, List.getElem?_replicate]
      split <;> rfl
    change (List.replicate l.length false).getD k false = true at h
    rw [this] at h
    cases h
  | r + 1, k, h => Rx (Mq r) (fun k => rounds_sound r k) l.length k h
theorem cnt_lt : ∀ {b c : List Bool}, b.length = c.length → (∀ k, b.getD k false = true → c.getD k false = true) → b = c ∨ b.countP id < c.countP id
  | [], [], _, _ => .inl rfl
  | [], _ :: _, h, _ => by simp at h
  | _ :: _, [], h, _ => by simp at h
  | x :: b, y :: c, h, hm => by
    have h0 := hm 0
    simp only [List.getD_cons_zero] at h0
    have ih := cnt_lt (b := b) (c := c) (by simpa using h) (fun k => by simpa using hm (k + 1))
    rcases ih with e | e
    · subst e
      cases x with
      | true => rw [h0 rfl]; exact .inl rfl
      | false =>
        cases y with
        | false => exact .inl rfl
        | true => right; simp
    · right
      cases x with
      | true => rw [h0 rfl]; simpa using e
      | false => cases y <;> simp <;> omega
theorem rounds_step {l : List Mod} {i : Nat} (r : Nat) : Mg l i r = Mg l i (r + 1) ∨ (Mg l i r).countP id < (Mg l i (r + 1)).countP id :=
  cnt_lt (by rw [Mq, Mq]) fun k h => A6 (Mq r) _ k h
theorem Ia {l : List Mod} {i : Nat} {r : Nat} (h : Mg l i r = Mg l i (r + 1)) : ∀ k, Mg l i (r + k) = Mg l i r
  | 0 => rfl
  | k + 1 => by
    show Mg l i ((r + k) + 1) = _
    rw [Mg, Ia h k]
    exact h.symm
theorem rounds_still {l : List Mod} {i : Nat} : ∀ r, (∃ q, q < r ∧ Mg l i q = Mg l i (q + 1)) ∨ r ≤ (Mg l i r).countP id
  | 0 => .inr (Nat.zero_le _)
  | r + 1 => by
    rcases rounds_still r with ⟨q, h1, h2⟩ | h
    · exact .inl ⟨q, by omega, h2⟩
    · rcases rounds_step (l := l) (i := i) r with e | e
      · exact .inl ⟨r, by omega, e⟩
      · exact .inr (by omega)
theorem Ib {l : List Mod} {i : Nat} : ∀ k j, (k = i ∨ (H2 l i).getD k false = true) → A4 l k j → (H2 l i).getD j false = true := by
  have hst : H2 l i = Mg l i (l.length + 1 + 1) := by
    rcases rounds_still (l := l) (i := i) (l.length + 1) with ⟨q, h1, h2⟩ | h
    · have e1 := Ia h2 (l.length + 1 - q)
      have e2 := Ia h2 (l.length + 1 + 1 - q)
      rw [show q + (l.length + 1 - q) = l.length + 1 by omega] at e1
      rw [show q + (l.length + 1 + 1 - q) = l.length + 1 + 1 by omega] at e2
      unfold H2
      rw [e1, e2]
    · have h3 := List.countP_le_length (p := id) (l := Mg l i (l.length + 1))
      have h4 := Mq (l := l) (i := i) (l.length + 1)
      omega
  intro k j hk hs
  rw [hst]
  exact sweepN_succ (Mq _) l.length k j (C0 hs).1 hk hs
theorem Nv {l : List Mod} {i k : Nat} : (H2 l i).getD k false = true ↔ Path l i k :=
  ⟨fun h => rounds_sound _ k h, fun h => E5 (M := fun k => (H2 l i).getD k false = true) (fun k j hk hs => Ib k j (.inr hk) hs) h fun j hj => Ib i j (.inl rfl) hj⟩
end Go.Am.Graph
set_option linter.unusedSimpArgs false
set_option linter.unusedVariables false
set_option maxHeartbeats 1000000
namespace Go.Am.Graph
open Go.Proofs
theorem stepL_none {l : List Mod} {tr : Nat → List Int → List Int} {s : List UInt8} {S : List Int} (h : Hr l s = none) : En (Gw l) tr s S = S := by
  unfold En
  rw [Ep, h]
  rfl
theorem stepL_some {l : List Mod} {tr : Nat → List Int → List Int} {s : List UInt8} {S : List Int} {j : Nat} (h : Hr l s = some j) : En (Gw l) tr s S = cond (N6 (j : Int) S) S (tr j (S ++ [(j : Int)])) := by
  unfold En
  rw [Ep, R0, h]
  show cond true _ _ = _
  rw [cond_true, Option.getD_some, Int.toNat_natCast]
theorem dfs_sound {l : List Mod} : ∀ (n i : Nat) {S : List Int} {x : Int}, x ∈ dfs l (Gw l) n i S → x ∈ S ∨ ∃ k : Nat, x = k ∧ Path l i k
  | 0, _, _, _, h => .inl h
  | n + 1, i, S, x, h => by
    have go : ∀ (ss : List (List UInt8)), (∀ s ∈ ss, s ∈ imp l i) → ∀ {S : List Int}, x ∈ dfsL (Gw l) (dfs l (Gw l) n) ss S → x ∈ S ∨ ∃ k : Nat, x = k ∧ Path l i k := by
      intro ss
      induction ss with
      | nil => intro _ S h; exact .inl h
      | cons s ss ih =>
        intro hss S h
        rw [dfsL] at h
        rcases ih (fun s hs => hss s (List.mem_cons_of_mem _ hs)) h with h | h
        · cases hf : Hr l s with
          | none => rw [stepL_none hf] at h; exact .inl h
          | some j =>
            have hsj : A4 l i j := ⟨s, hss s (List.mem_cons_self ..), hf⟩
            rw [stepL_some hf] at h
            cases hg : N6 (j : Int) S with
            | true => rw [hg, cond_true] at h; exact .inl h
            | false =>
              rw [hg, cond_false] at h
              rcases dfs_sound n j h with h | ⟨k, e, h⟩
              · rcases List.mem_append.1 h with h | h
                · exact .inl h
                · rw [List.mem_singleton] at h
                  exact .inr ⟨j, h, .one hsj⟩
              · exact .inr ⟨k, e, .more hsj h⟩
        · exact .inr h
    exact go (imp l i) (fun s hs => hs) h
def Has (l : List Mod) (T : List Int) (k : Nat) : Prop := ∀ j, A4 l k j → (j : Int) ∈ T
theorem dfs_full {l : List Mod} : ∀ (n i : Nat) {S : List Int}, Inn l.length S → l.length < n + S.length →
    (∀ x ∈ S, x ∈ dfs l (Gw l) n i S) ∧ Has l (dfs l (Gw l) n i S) i ∧ ∀ k : Nat, (k : Int) ∈ dfs l (Gw l) n i S → (k : Int) ∈ S ∨ Has l (dfs l (Gw l) n i S) k
  | 0, _, S, h, hn => by have := inn_len h; omega
  | n + 1, i, S, h, hn => by
    have go : ∀ (ss : List (List UInt8)) {S : List Int}, Inn l.length S → l.length < n + 1 + S.length →
        (∀ x ∈ S, x ∈ dfsL (Gw l) (dfs l (Gw l) n) ss S) ∧ (∀ s ∈ ss, ∀ j, Hr l s = some j → (j : Int) ∈ dfsL (Gw l) (dfs l (Gw l) n) ss S) ∧
          ∀ k : Nat, (k : Int) ∈ dfsL (Gw l) (dfs l (Gw l) n) ss S → (k : Int) ∈ S ∨ Has l (dfsL (Gw l) (dfs l (Gw l) n) ss S) k := by
      intro ss
      induction ss with
      | nil => intro S _ _; exact ⟨fun x h => h, fun s hs => (by cases hs), fun k h => .inl h⟩
      | cons s ss ih =>
        intro S h hn
        have h1 : Inn l.length (En (Gw l) (dfs l (Gw l) n) s S) ∧ S.length ≤ (En (Gw l) (dfs l (Gw l) n) s S).length ∧ (∀ x ∈ S, x ∈ En (Gw l) (dfs l (Gw l) n) s S) ∧
            (∀ j, Hr l s = some j → (j : Int) ∈ En (Gw l) (dfs l (Gw l) n) s S) ∧ ∀ k : Nat, (k : Int) ∈ En (Gw l) (dfs l (Gw l) n) s S → (k : Int) ∈ S ∨ Has l (En (Gw l) (dfs l (Gw l) n) s S) k := by
          cases hf : Hr l s with
          | none => rw [stepL_none hf]; exact ⟨h, Nat.le_refl _, fun x h => h, fun j hj => (by cases hj), fun k h => .inl h⟩
          | some j =>
            rw [stepL_some hf]
            cases hg : N6 (j : Int) S with
            | true =>
              rw [cond_true]
              exact ⟨h, Nat.le_refl _, fun x h => h, fun j' hj' => (by injection hj' with e; subst e; exact Lj.1 hg), fun k h => .inl h⟩
            | false =>
              rw [cond_false]
              have hjl := Mr hf
              have h2 := inn_snoc h (x := (j : Int)) (by omega) (by omega) hg
              have hl2 : (S ++ [(j : Int)]).length = S.length + 1 := by simp
              obtain ⟨a1, a2⟩ := dfs_inn (Iy l) n j h2
              obtain ⟨b1, b2, b3⟩ := dfs_full n j h2 (by omega)
              refine ⟨a1, by omega, fun x hx => b1 x (List.mem_append_left _ hx), fun j' hj' => ?_, fun k hk => ?_⟩
              · injection hj' with e
                subst e
                exact b1 _ (List.mem_append_right _ (List.mem_singleton.2 rfl))
              · rcases b3 k hk with hk | hk
                · rcases List.mem_append.1 hk with hk | hk
                  · exact .inl hk
                  · rw [List.mem_singleton] at hk
                    have : k = j := by omega
                    subst this
                    exact .inr b2
                · exact .inr hk
        obtain ⟨c0, c1, c2, c3, c4⟩ := h1
        obtain ⟨d1, d2, d3⟩ := ih c0 (by omega)
        rw [dfsL]
        refine ⟨fun x hx => d1 x (c2 x hx), fun s' hs' j hj => ?_, fun k hk => ?_⟩
        · rcases List.mem_cons.1 hs' with rfl | hs'
          · exact d1 _ (c3 j hj)
          · exact d2 s' hs' j hj
        · rcases d3 k hk with hk | hk
          · rcases c4 k hk with hk | hk
            · exact .inl hk
            · exact .inr fun j hj => d1 _ (hk j hj)
          · exact .inr hk
    obtain ⟨a1, a2, a3⟩ := go (imp l i) h hn
    exact ⟨a1, fun j ⟨s, hs, hj⟩ => a2 s hs j hj, a3⟩
theorem led_iff {l : List Mod} (hl : l.length ≤ 20) {i : Nat} {x : Int} : x ∈ Om l (Gw l) i ↔ ∃ k : Nat, x = k ∧ Path l i k := by
  constructor
  · intro h
    rcases dfs_sound 21 i h with h | h
    · cases h
    · exact h
  · rintro ⟨k, rfl, h⟩
    obtain ⟨_, h2, h3⟩ := dfs_full (l := l) 21 i (S := []) ⟨List.nodup_nil, fun x hx => by cases hx⟩ (by simp; omega)
    exact E5 (M := fun k => (k : Int) ∈ Om l (Gw l) i) (fun k j hk hs => by
      rcases h3 k hk with hk | hk
      · cases hk
      · exact hk j hs) h h2
def Rise (l : List Int) : Prop := l.Pairwise fun a b => a < b
theorem rise_ext : ∀ {a b : List Int}, Rise a → Rise b → (∀ x, x ∈ a ↔ x ∈ b) → a = b
  | [], [], _, _, _ => rfl
  | [], y :: b, _, _, h => by have := (h y).2 (List.mem_cons_self ..); cases this
  | x :: a, [], _, _, h => by have := (h x).1 (List.mem_cons_self ..); cases this
  | x :: a, y :: b, ha, hb, h => by
    unfold Rise at ha hb
    rw [List.pairwise_cons] at ha hb
    have hxy : x = y := by
      rcases List.mem_cons.1 ((h x).1 (List.mem_cons_self ..)) with e | e
      · exact e
      · rcases List.mem_cons.1 ((h y).2 (List.mem_cons_self ..)) with e' | e'
        · exact e'.symm
        · have := hb.1 x e
          have := ha.1 y e'
          omega
    subst hxy
    congr 1
    refine rise_ext ha.2 hb.2 fun z => ⟨fun hz => ?_, fun hz => ?_⟩
    · have hlt := ha.1 z hz
      rcases List.mem_cons.1 ((h z).1 (List.mem_cons_of_mem _ hz)) with e | e
      · omega
      · exact e
    · have hlt := hb.1 z hz
      rcases List.mem_cons.1 ((h z).2 (List.mem_cons_of_mem _ hz)) with e | e
      · omega
      · exact e
theorem sortI_rise {l : List Int} (h : l.Nodup) : Rise (A7 l) := by
  have h1 : (A7 l).Pairwise (fun a b => decide (a ≤ b) = true) := List.pairwise_mergeSort (fun a b c h1 h2 => by
    simp only [decide_eq_true_eq] at *
    omega) (fun a b => by
    simp only [Bool.or_eq_true, decide_eq_true_eq]
    omega) l
  have h2 : (A7 l).Pairwise (fun a b => a ≠ b) := (sortI_perm l).nodup_iff.2 h
  unfold Rise
  exact (h1.and h2).imp fun {a b} h => by
    obtain ⟨h1, h2⟩ := h
    rw [decide_eq_true_eq] at h1
    omega
theorem mem_sortI {l : List Int} {x : Int} : x ∈ A7 l ↔ x ∈ l := (sortI_perm l).mem_iff
theorem Iz {i : Int} {b : List Bool} : ∀ {n : Nat} {x : Int}, x ∈ Dl i b n ↔ ∃ k : Nat, x = k ∧ k < n ∧ (b.getD k false = true ∨ (k : Int) = i)
  | 0, x => by simp [Dl]
  | n + 1, x => by
    rw [Dl, List.mem_append, Iz]
    constructor
    · rintro (⟨k, h1, h2, h3⟩ | h)
      · exact ⟨k, h1, by omega, h3⟩
      · cases hc : (b.getD n false || ((n : Int) == i)) with
        | false => rw [hc] at h; cases h
        | true =>
          rw [hc, cond_true, List.mem_singleton] at h
          rw [Bool.or_eq_true, beq_iff_eq] at hc
          exact ⟨n, h, by omega, hc⟩
    · rintro ⟨k, h1, h2, h3⟩
      by_cases e : k = n
      · subst e
        right
        have hc : (b.getD k false || ((k : Int) == i)) = true := by rw [Bool.or_eq_true, beq_iff_eq]; exact h3
        rw [hc, cond_true, List.mem_singleton]
        exact h1
      · exact .inl ⟨k, h1, by omega, h3⟩
theorem needN_rise {i : Int} {b : List Bool} : ∀ n, Rise (Dl i b n)
  | 0 => List.Pairwise.nil
  | n + 1 => by
    unfold Rise
    rw [Dl, List.pairwise_append]
    refine ⟨needN_rise n, ?_, fun x hx y hy => ?_⟩
    · cases b.getD n false || ((n : Int) == i) <;> simp
    · obtain ⟨k, rfl, hk, _⟩ := Iz.1 hx
      cases hc : (b.getD n false || ((n : Int) == i)) with
      | false => rw [hc] at hy; cases hy
      | true =>
        rw [hc, cond_true, List.mem_singleton] at hy
        omega
theorem needs_eq {l : List Mod} (hf : Ph l = true) (i : Int) : Bw l i = F8 l i := by
  have hl := Px hf
  unfold Bw F8
  cases h1 : ltB i 0 with
  | true => rfl
  | false =>
    cases h2 : leB (l.length : Int) i with
    | true => rfl
    | false =>
      simp only [Bool.or_self, cond_false]
      rw [Hq] at h1
      rw [P5] at h2
      obtain ⟨p, rfl⟩ : ∃ p : Nat, i = p := ⟨i.toNat, by omega⟩
      rw [Int.toNat_natCast]
      have hd := (dfs_inn (Iy l) 21 p (S := []) ⟨List.nodup_nil, fun x hx => by cases hx⟩).1
      refine rise_ext (sortI_rise (Im hd.1)) (needN_rise _) fun x => ?_
      rw [mem_sortI, ← Lj, gHas_set, Bool.or_eq_true, Lj, beq_iff_eq, led_iff hl, Iz]
      constructor
      · rintro (⟨k, rfl, h⟩ | rfl)
        · exact ⟨k, rfl, (T1 h).2, .inl (Nv.2 h)⟩
        · exact ⟨p, rfl, by omega, .inr rfl⟩
      · rintro ⟨k, rfl, _, h | h⟩
        · exact .inl ⟨k, rfl, Nv.1 h⟩
        · exact .inr h
theorem Eh {l : List Mod} (hf : Ph l = true) {p : Nat} (hp : p < l.length) {x : Int} : x ∈ Bw l p ↔ ∃ k : Nat, x = k ∧ (Path l p k ∨ k = p) := by
  rw [needs_eq hf]
  unfold F8
  rw [show ltB (p : Int) 0 = false by rw [Hq]; omega, show leB (l.length : Int) (p : Int) = false by rw [P5]; omega, Bool.or_self, cond_false, Iz]
  constructor
  · rintro ⟨k, rfl, _, h | h⟩
    · exact ⟨k, rfl, .inl (Nv.1 h)⟩
    · exact ⟨k, rfl, .inr (by omega)⟩
  · rintro ⟨k, rfl, h | h⟩
    · exact ⟨k, rfl, (T1 h).2, .inl (Nv.2 h)⟩
    · exact ⟨k, rfl, by omega, .inr (by omega)⟩
theorem needs_rise {l : List Mod} (hf : Ph l = true) (i : Int) : Rise (Bw l i) := by
  rw [needs_eq hf]
  unfold F8
  cases ltB i 0 || leB (l.length : Int) i
  · exact needN_rise _
  · exact List.Pairwise.nil
end Go.Am.Graph
set_option linter.unusedSimpArgs false
set_option linter.unusedVariables false
set_option maxHeartbeats 1000000
namespace Go.Am.Graph
open Go.Proofs Go.Sort
theorem less_iff {x y : List UInt8} : Op.bytesLess x y = true ↔ x < y := by rw [bytesLess_eq, decide_eq_true_eq]
theorem less_not {x y : List UInt8} : Op.bytesLess x y = false ↔ y ≤ x := by
  rw [bytesLess_eq, decide_eq_false_iff_not, List.not_lt]
theorem Pz : ∀ {l : List Mod} {s : List UInt8} {k : Nat}, Hr l s = some k → nm l k = s
  | [], s, k, h => by simp [Hr] at h
  | m :: l, s, k, h => by
    rw [Hr] at h
    by_cases hm : m.name = s
    · rw [if_pos hm] at h
      injection h with h
      subst h
      exact hm
    · rw [if_neg hm] at h
      cases hf : Hr l s with
      | none => rw [hf] at h; cases h
      | some j =>
        rw [hf] at h
        simp only [Option.map_some, Option.some.injEq] at h
        subst h
        have := Pz hf
        simpa [nm] using this
theorem Rl : ∀ {l : List Mod} {k : Nat}, k < l.length → ∃ j, Hr l (nm l k) = some j ∧ j ≤ k
  | [], k, h => by simp at h
  | m :: l, 0, _ => ⟨0, by simp [Hr, nm], Nat.le_refl _⟩
  | m :: l, k + 1, h => by
    by_cases hm : m.name = nm (m :: l) (k + 1)
    · exact ⟨0, by rw [Hr, if_pos hm], Nat.zero_le _⟩
    · obtain ⟨j, h1, h2⟩ := Rl (l := l) (k := k) (by simpa using h)
      have e : nm (m :: l) (k + 1) = nm l k := by simp [nm]
      rw [e] at hm ⊢
      exact ⟨j + 1, by rw [Hr, if_neg hm, h1]; rfl, by omega⟩
def Lk (l : List Mod) : Prop := ∀ k, k < l.length → Hr l (nm l k) = some k
def E3 (l : List Mod) : Prop := ∀ k, k < l.length → ∀ s ∈ imp l k, ∃ j, Hr l s = some j
theorem Rd {l : List Mod} (h : Lk l) {a b : Nat} (ha : a < l.length) (hb : b < l.length) (e : nm l a = nm l b) : a = b := by
  have h1 := h a ha
  rw [e, h b hb] at h1
  injection h1 with h1
  exact h1.symm
theorem Ag {α : Type} {p q : α → Bool} : ∀ {l : List α}, (∀ x ∈ l, p x = q x) → l.find? p = l.find? q
  | [], _ => rfl
  | x :: l, h => by
    rw [List.find?_cons, List.find?_cons, h x (List.mem_cons_self ..), Ag fun y hy => h y (List.mem_cons_of_mem _ hy)]
theorem any_congr' {α : Type} {p q : α → Bool} {l : List α} (h : ∀ x ∈ l, p x = q x) : l.any p = l.any q := by
  induction l with
  | nil => rfl
  | cons x l ih => rw [List.any_cons, List.any_cons, h x (List.mem_cons_self ..), ih fun y hy => h y (List.mem_cons_of_mem _ hy)]
theorem dup_eq {l : List Mod} {k : Nat} (h : k < l.length) : dup2 l (Gw l) k = Dw l k := by
  obtain ⟨j, h1, h2⟩ := Rl h
  unfold dup2 Dw Hm
  rw [R0, h1]
  simp only [Option.getD_some]
  rw [Bool.eq_iff_iff, bne_iff_ne, Et]
  omega
theorem lack_eq {l : List Mod} {k : Nat} : Oy l (Gw l) k = C5 l k := by
  unfold Oy C5
  refine any_congr' fun s _ => ?_
  rw [Ep]
  unfold Hm
  cases Hr l s with
  | none => rfl
  | some j =>
    show false = ltB (j : Int) 0
    symm
    rw [Hq]
    omega
theorem wrong_eq (l : List Mod) : Rw l (Gw l) = match (List.range l.length).find? (Dw l) with
  | some i => ((i : Int), 7)
  | none => match (List.range l.length).find? (C5 l) with
    | some i => ((i : Int), 6)
    | none => (0, 0) := by
  unfold Rw
  (rw [Ag (p := dup2 l (Gw l)) (q := Dw l) fun x hx => dup_eq (List.mem_range.1 hx), Ag (p := Oy l (Gw l)) (q := C5 l) fun x _ => lack_eq]) <;> rfl
theorem uniq_iff {l : List Mod} : (List.range l.length).find? (Dw l) = none ↔ Lk l := by
  rw [List.find?_eq_none]
  constructor
  · intro h k hk
    obtain ⟨j, h1, h2⟩ := Rl hk
    have := h k (List.mem_range.2 hk)
    rw [Bool.not_eq_true] at this
    unfold Dw Hm at this
    rw [h1] at this
    simp only at this
    rw [Hq] at this
    rw [h1, show j = k by omega]
  · intro h k hk
    rw [List.mem_range] at hk
    unfold Dw Hm
    rw [h k hk]
    simp only
    rw [Et]
    omega
theorem full_iff {l : List Mod} : (List.range l.length).find? (C5 l) = none ↔ E3 l := by
  rw [List.find?_eq_none]
  constructor
  · intro h k hk s hs
    have := h k (List.mem_range.2 hk)
    rw [Bool.not_eq_true] at this
    unfold C5 at this
    rw [List.any_eq_false] at this
    have := this s hs
    rw [Bool.not_eq_true] at this
    unfold Hm at this
    cases hf : Hr l s with
    | none => rw [hf] at this; cases this
    | some j => exact ⟨j, rfl⟩
  · intro h k hk
    rw [List.mem_range] at hk
    rw [Bool.not_eq_true]
    unfold C5
    rw [List.any_eq_false]
    intro s hs
    obtain ⟨j, hj⟩ := h k hk s hs
    unfold Hm
    rw [hj]
    simp only
    rw [Et]
    omega
def Hl (l : List Mod) : List (List UInt8) := Ou (Gw l).ks
theorem Pn {l : List Mod} {s : List UInt8} : s ∈ Hl l ↔ ∃ k, Hr l s = some k := by
  unfold Hl
  rw [(O5 _).mem_iff, ← Lj, Ep, Option.isSome_iff_exists]
theorem E6 (l : List Mod) : (Hl l).Nodup := by
  unfold Hl
  rw [(O5 _).nodup_iff]
  exact (pl_all l l.length (Nat.le_refl _)).2.1
theorem R6 (l : List Mod) : (Hl l).Pairwise (fun a b => a ≤ b) := by
  have h1 : (Ou (Gw l).ks).Pairwise (fun a b => decide (a ≤ b) = true) := List.pairwise_mergeSort (fun a b c h1 h2 => by
    simp only [decide_eq_true_eq] at *
    exact List.le_trans h1 h2) (fun a b => by
    simp only [Bool.or_eq_true, decide_eq_true_eq]
    exact List.le_total a b) _
  exact h1.imp fun h => by rwa [decide_eq_true_eq] at h
theorem O3 {l : List Mod} (hU : Lk l) {k : Nat} (hk : k < l.length) : atM (Gw l) (nm l k) = k := by
  unfold atM
  rw [R0, hU k hk]
  rfl
theorem first_least {l : List Mod} {p : List UInt8 → Bool} : (Bk p (Hl l) = -1 ∧ ∀ s ∈ Hl l, p s = false) ∨
    ∃ i : Nat, Bk p (Hl l) = i ∧ (Hl l).getD i [] ∈ Hl l ∧ p ((Hl l).getD i []) = true ∧ ∀ s ∈ Hl l, p s = true → (Hl l).getD i [] ≤ s := by
  rcases idxP_cases p (Hl l) [] with ⟨h, hno⟩ | ⟨i, hi, h, hp, hno⟩
  · refine .inl ⟨h, fun s hs => ?_⟩
    obtain ⟨j, hj, rfl⟩ := List.getElem_of_mem hs
    simpa [hj] using hno j hj
  · refine .inr ⟨i, h, by simp [hi], hp, fun s hs hps => ?_⟩
    obtain ⟨j, hj, rfl⟩ := List.getElem_of_mem hs
    rcases Nat.lt_trichotomy j i with hlt | rfl | hgt
    · have := hno j hlt
      rw [show (Hl l).getD j [] = (Hl l)[j] by simp [hj], hps] at this
      cases this
    · simp [hj]
    · have := List.pairwise_iff_getElem.1 (R6 l) i j hi hj hgt
      simpa [hi] using this
theorem Ru {l : List Mod} {is : List Bool} : ∀ n, (Mt l is n = -1 ∧ ∀ j, j < n → is.getD j false = false) ∨
    ∃ k : Nat, Mt l is n = k ∧ k < n ∧ is.getD k false = true ∧ ∀ j, j < n → is.getD j false = true → nm l k ≤ nm l j
  | 0 => .inl ⟨rfl, fun j hj => by omega⟩
  | n + 1 => by
    rw [Mt]
    rcases Ru (l := l) (is := is) n with ⟨h, hno⟩ | ⟨k, h, hk, his, hle⟩
    · rw [h]
      cases hn : is.getD n false with
      | false =>
        rw [Bool.false_and, cond_false]
        exact .inl ⟨rfl, Ok hno hn⟩
      | true =>
        right
        refine ⟨n, rfl, by omega, hn, fun j hj hj2 => ?_⟩
        by_cases e : j = n
        · subst e; exact List.le_refl _
        · rw [hno j (by omega)] at hj2; cases hj2
    · rw [h, Int.toNat_natCast, show ltB (k : Int) 0 = false by rw [Hq]; omega, Bool.false_or]
      cases hn : is.getD n false with
      | false =>
        rw [Bool.false_and, cond_false]
        refine .inr ⟨k, rfl, by omega, his, fun j hj hj2 => ?_⟩
        by_cases e : j = n
        · subst e; rw [hn] at hj2; cases hj2
        · exact hle j (by omega) hj2
      | true =>
        rw [Bool.true_and]
        cases hb : Op.bytesLess (nm l n) (nm l k) with
        | true =>
          rw [cond_true]
          rw [less_iff] at hb
          refine .inr ⟨n, rfl, by omega, hn, fun j hj hj2 => ?_⟩
          by_cases e : j = n
          · subst e; exact List.le_refl _
          · exact List.le_trans (List.le_of_lt hb) (hle j (by omega) hj2)
        | false =>
          rw [cond_false]
          rw [less_not] at hb
          refine .inr ⟨k, rfl, by omega, his, fun j hj hj2 => ?_⟩
          by_cases e : j = n
          · subst e; exact hb
          · exact hle j (by omega) hj2
theorem least_eq {l : List Mod} (hU : Lk l) {is : List Bool} {p : List UInt8 → Bool} (h : ∀ k, k < l.length → is.getD k false = p (nm l k)) :
    Mt l is l.length = cond (ltB (Bk p (Hl l)) 0) (-1) (atM (Gw l) ((Hl l).getD (Bk p (Hl l)).toNat [])) := by
  rcases first_least (l := l) (p := p) with ⟨h1, hno⟩ | ⟨i, h1, hin, hp, hle⟩
  · rw [h1, show ltB (-1) 0 = true from rfl, cond_true]
    rcases Ru (l := l) (is := is) l.length with ⟨h2, _⟩ | ⟨k, h2, hk, his, _⟩
    · exact h2
    · rw [h k hk, hno (nm l k) (Pn.2 ⟨k, hU k hk⟩)] at his
      cases his
  · rw [h1, show ltB (i : Int) 0 = false by rw [Hq]; omega, cond_false, Int.toNat_natCast]
    obtain ⟨j, hj⟩ := Pn.1 hin
    have hjl := Mr hj
    have hjn := Pz hj
    rw [← hjn, O3 hU hjl]
    rw [← hjn] at hp hle
    rcases Ru (l := l) (is := is) l.length with ⟨h2, hno⟩ | ⟨k, h2, hk, his, hle2⟩
    · have := hno j hjl
      rw [h j hjl, hp] at this
      cases this
    · rw [h2]
      have e1 := hle2 j hjl (by rw [h j hjl, hp])
      have e2 := hle (nm l k) (Pn.2 ⟨k, hU k hk⟩) (by rw [← h k hk]; exact his)
      rw [Rd hU hk hjl (List.le_antisymm e1 e2)]
end Go.Am.Graph
set_option linter.unusedSimpArgs false
set_option linter.unusedVariables false
set_option maxHeartbeats 1000000
namespace Go.Am.Graph
open Go.Proofs Go.Sort
def Cyc (l : List Mod) : Prop := ∃ k, Path l k k
def N7 (l : List Mod) (r : Nat) : List (List UInt8) := Bs l (Gw l) (Hl l) r
def Er (l : List Mod) (C : List (List UInt8)) (s : List UInt8) : Bool := Pv l (Gw l) C s
theorem Cz (l : List Mod) (r : Nat) : (N7 l (r + 1) = N7 l r ∧ ltB (Bk (Er l (N7 l r)) (Hl l)) 0 = true ∧ ∀ s ∈ Hl l, Er l (N7 l r) s = false) ∨
    ∃ y, N7 l (r + 1) = N7 l r ++ [y] ∧ y ∈ Hl l ∧ Er l (N7 l r) y = true ∧ (∀ s ∈ Hl l, Er l (N7 l r) s = true → y ≤ s) ∧ ltB (Bk (Er l (N7 l r)) (Hl l)) 0 = false ∧ y = (Hl l).getD (Bk (Er l (N7 l r)) (Hl l)).toNat [] := by
  have e : N7 l (r + 1) = cond (ltB (Bk (Er l (N7 l r)) (Hl l)) 0) (N7 l r) (N7 l r ++ [(Hl l).getD (Bk (Er l (N7 l r)) (Hl l)).toNat []]) := rfl
  rcases first_least (l := l) (p := Er l (N7 l r)) with ⟨h, hno⟩ | ⟨i, h, hin, hp, hle⟩
  · left
    rw [e, h]
    exact ⟨rfl, rfl, hno⟩
  · right
    have hb : ltB (i : Int) 0 = false := by rw [Hq]; omega
    rw [h, hb, cond_false, Int.toNat_natCast] at e
    exact ⟨_, e, hin, hp, hle, by rw [h]; exact hb, by rw [h, Int.toNat_natCast]⟩
theorem Ds {l : List Mod} (hU : Lk l) {C : List (List UInt8)} {k : Nat} (hk : k < l.length) : Er l C (nm l k) = true ↔ nm l k ∉ C ∧ ∀ s ∈ imp l k, s ∈ C := by
  unfold Er Pv
  have := O3 hU hk
  unfold atM at this
  rw [this, Int.toNat_natCast, Bool.and_eq_true, Bool.not_eq_true', List.any_eq_false]
  unfold Dj
  rw [Bool.not_eq_true', gHas_no]
  constructor
  · rintro ⟨h1, h2⟩
    refine ⟨h1, fun s hs => ?_⟩
    have := h2 s hs
    rw [Bool.not_eq_true, Bool.not_eq_false'] at this
    exact Lj.1 this
  · rintro ⟨h1, h2⟩
    refine ⟨h1, fun s hs => ?_⟩
    rw [Bool.not_eq_true, Bool.not_eq_false']
    exact Lj.2 (h2 s hs)
theorem in_names {l : List Mod} (hU : Lk l) {k : Nat} (hk : k < l.length) : nm l k ∈ Hl l := Pn.2 ⟨k, hU k hk⟩
theorem T2 {l : List Mod} {s : List UInt8} (h : s ∈ Hl l) : ∃ k, k < l.length ∧ nm l k = s := by
  obtain ⟨k, hk⟩ := Pn.1 h
  exact ⟨k, Mr hk, Pz hk⟩
theorem names_len {l : List Mod} (hU : Lk l) : (Hl l).length = l.length := by
  have h1 : (Hl l).length ≤ ((List.range l.length).map (nm l)).length := Cq (E6 l) fun s hs => by
    obtain ⟨k, hk, e⟩ := T2 hs
    exact List.mem_map.2 ⟨k, List.mem_range.2 hk, e⟩
  have h2 : ((List.range l.length).map (nm l)).length ≤ (Hl l).length := Cq (by
    unfold List.Nodup
    rw [List.pairwise_map, List.pairwise_iff_getElem]
    intro i j hi hj hij e
    simp only [List.getElem_range] at e
    simp only [List.length_range] at hi hj
    have := Rd hU hi hj e
    omega) fun s hs => by
    obtain ⟨k, hk, rfl⟩ := List.mem_map.1 hs
    exact in_names hU (List.mem_range.1 hk)
  rw [List.length_map, List.length_range] at h1 h2
  omega
theorem Sv {l : List Mod} (hU : Lk l) : ∀ r, (N7 l r).Nodup ∧ (∀ s ∈ N7 l r, s ∈ Hl l) ∧ (N7 l r).length ≤ r ∧ (∀ k, k < l.length → nm l k ∈ N7 l r → (∀ s ∈ imp l k, s ∈ N7 l r) ∧ ¬ Path l k k)
  | 0 => ⟨List.nodup_nil, fun s hs => (by cases hs), Nat.le_refl _, fun k _ hk => (by cases hk)⟩
  | r + 1 => by
    obtain ⟨h1, h2, h3, h4⟩ := Sv hU r
    rcases Cz l r with ⟨e, _, _⟩ | ⟨y, e, hy, hm, _, _, _⟩
    · rw [e]; exact ⟨h1, h2, by omega, h4⟩
    · obtain ⟨k0, hk0, rfl⟩ := T2 hy
      rw [Ds hU hk0] at hm
      rw [e]
      have clo : ∀ k j, nm l k ∈ N7 l r → Path l k j → nm l j ∈ N7 l r := by
        intro k j hk hp
        refine E5 (M := fun k => nm l k ∈ N7 l r) (fun k j hk hs => ?_) hp (fun j hs => ?_)
        · obtain ⟨s, hs, hj⟩ := hs
          have hkl := (C0 ⟨s, hs, hj⟩ : k < l.length ∧ j < l.length).1
          have := (h4 k hkl hk).1 s hs
          rwa [Pz hj]
        · obtain ⟨s, hs, hj⟩ := hs
          have hkl := (C0 ⟨s, hs, hj⟩ : k < l.length ∧ j < l.length).1
          have := (h4 k hkl hk).1 s hs
          rwa [Pz hj]
      refine ⟨List.nodup_append.2 ⟨h1, by simp, fun a ha b hb e => ?_⟩, fun s hs => ?_, by rw [List.length_append]; simp; omega, fun k hkl hk => ?_⟩
      · rw [List.mem_singleton] at hb
        rw [e, hb] at ha
        exact hm.1 ha
      · rcases List.mem_append.1 hs with hs | hs
        · exact h2 s hs
        · rw [List.mem_singleton] at hs; rw [hs]; exact hy
      · rcases List.mem_append.1 hk with hk | hk
        · obtain ⟨g1, g2⟩ := h4 k hkl hk
          exact ⟨fun s hs => List.mem_append_left _ (g1 s hs), g2⟩
        · rw [List.mem_singleton] at hk
          have := Rd hU hkl hk0 hk
          subst this
          refine ⟨fun s hs => List.mem_append_left _ (hm.2 s hs), fun hp => ?_⟩
          cases hp with
          | one h =>
            obtain ⟨s, hs, hj⟩ := h
            have := hm.2 s hs
            rw [← Pz hj] at this
            exact hm.1 this
          | more h hp =>
            obtain ⟨s, hs, hj⟩ := h
            have := hm.2 s hs
            rw [← Pz hj] at this
            exact hm.1 (clo _ _ this hp)
theorem progress {l : List Mod} (hU : Lk l) (hF : E3 l) (hA : ¬ Cyc l) {C : List (List UInt8)} : ∀ n k, k < l.length → (H2 l k).countP id ≤ n → nm l k ∉ C → ∃ j, j < l.length ∧ Er l C (nm l j) = true := by
  intro n
  induction n with
  | zero =>
    intro k hk hn hC
    by_cases h : ∀ s ∈ imp l k, s ∈ C
    · exact ⟨k, hk, (Ds hU hk).2 ⟨hC, h⟩⟩
    · obtain ⟨s, h2⟩ := Classical.not_forall.1 h
      obtain ⟨hs, hsC⟩ := Classical.not_imp.1 h2
      obtain ⟨j, hj⟩ := hF k hk s hs
      have h1 : (H2 l k).getD j false = true := Nv.2 (.one ⟨s, hs, hj⟩)
      have h0 : (H2 l k).countP id = 0 := by omega
      rw [List.countP_eq_zero] at h0
      have hjl : j < (H2 l k).length := by have : (H2 l k).length = l.length := Mq _; rw [this]; exact Mr hj
      have := h0 _ (List.getElem_mem hjl)
      rw [List.getD_eq_getElem?_getD, List.getElem?_eq_getElem hjl] at h1
      exact absurd h1 this
  | succ n ih =>
    intro k hk hn hC
    by_cases h : ∀ s ∈ imp l k, s ∈ C
    · exact ⟨k, hk, (Ds hU hk).2 ⟨hC, h⟩⟩
    · obtain ⟨s, h2⟩ := Classical.not_forall.1 h
      obtain ⟨hs, hsC⟩ := Classical.not_imp.1 h2
      obtain ⟨j, hj⟩ := hF k hk s hs
      have hkj : A4 l k j := ⟨s, hs, hj⟩
      have hjl := Mr hj
      refine ih j hjl ?_ (by rw [Pz hj]; exact hsC)
      have l1 : (H2 l j).length = l.length := Mq _
      have l2 : (H2 l k).length = l.length := Mq _
      rcases cnt_lt (b := H2 l j) (c := H2 l k) (by rw [l1, l2]) (fun x hx => Nv.2 (.more hkj (Nv.1 hx))) with e | e
      · have h1 : (H2 l k).getD j false = true := Nv.2 (.one hkj)
        rw [← e, Nv] at h1
        exact absurd ⟨j, h1⟩ hA
      · omega
theorem P6 {l : List Mod} (hU : Lk l) (hF : E3 l) (hA : ¬ Cyc l) : ∀ r, r ≤ l.length → (N7 l r).length = r
  | 0, _ => rfl
  | r + 1, h => by
    have ih := P6 hU hF hA r (by omega)
    obtain ⟨h1, h2, _, _⟩ := Sv hU r
    rcases Cz l r with ⟨e, _, hno⟩ | ⟨y, e, _⟩
    · have : ∃ k, k < l.length ∧ nm l k ∉ N7 l r := by
        apply Classical.byContradiction
        intro hn
        have hall : ∀ s ∈ Hl l, s ∈ N7 l r := fun s hs => by
          obtain ⟨k, hk, rfl⟩ := T2 hs
          apply Classical.byContradiction
          intro hk2
          exact hn ⟨k, hk, hk2⟩
        have := Cq (E6 l) hall
        rw [names_len hU] at this
        omega
      obtain ⟨k, hk, hkC⟩ := this
      obtain ⟨j, hj, hm⟩ := progress hU hF hA _ k hk (Nat.le_refl _) hkC
      rw [hno _ (in_names hU hj)] at hm
      cases hm
    · rw [e, List.length_append, ih]; rfl
theorem came_cyc {l : List Mod} (hU : Lk l) (h : Cyc l) : (N7 l l.length).length < l.length := by
  obtain ⟨h1, h2, h3, h4⟩ := Sv hU l.length
  rcases Nat.lt_or_ge (N7 l l.length).length l.length with hlt | hge
  · exact hlt
  · obtain ⟨k, hk⟩ := h
    have hkl := (T1 hk).1
    have hin : nm l k ∈ N7 l l.length := by
      apply Classical.byContradiction
      intro hn
      have := Cq (a := nm l k :: N7 l l.length) (List.nodup_cons.2 ⟨hn, h1⟩) (fun s hs => by
        rcases List.mem_cons.1 hs with rfl | hs
        · exact in_names hU hkl
        · exact h2 s hs)
      rw [names_len hU, List.length_cons] at this
      omega
    exact absurd hk (h4 k hkl hin).2
theorem Fd {l : List Int} {n : Int} : inB l n = true ↔ n ∈ l := by
  unfold inB
  rw [List.any_eq_true]
  exact ⟨fun ⟨x, h1, h2⟩ => by rw [beq_iff_eq] at h2; exact h2 ▸ h1, fun h => ⟨n, h, by simp⟩⟩
theorem Ej {l : List Mod} (hU : Lk l) {C : List (List UInt8)} (hC : ∀ s ∈ C, s ∈ Hl l) {k : Nat} (hk : k < l.length) : (k : Int) ∈ C.map (atM (Gw l)) ↔ nm l k ∈ C := by
  rw [List.mem_map]
  constructor
  · rintro ⟨s, hs, e⟩
    obtain ⟨j, hj, rfl⟩ := T2 (hC s hs)
    rw [O3 hU hj] at e
    rw [show k = j by omega]
    exact hs
  · intro h
    exact ⟨_, h, O3 hU hk⟩
theorem may_eq {l : List Mod} (hU : Lk l) (hF : E3 l) {C : List (List UInt8)} (hC : ∀ s ∈ C, s ∈ Hl l) {k : Nat} (hk : k < l.length) : mayB l (C.map (atM (Gw l))) k = Er l C (nm l k) := by
  rw [Bool.eq_iff_iff, Ds hU hk]
  unfold mayB O9
  rw [Bool.and_eq_true, Bool.not_eq_true', ← Bool.not_eq_true, Fd, Ej hU hC hk, Int.toNat_natCast, List.all_eq_true]
  refine and_congr_right fun _ => forall_congr' fun s => ?_
  constructor
  · intro h hs
    have := h hs
    rw [Fd] at this
    obtain ⟨j, hj⟩ := hF k hk s hs
    unfold Hm at this
    rw [hj] at this
    simp only at this
    rw [Ej hU hC (Mr hj), Pz hj] at this
    exact this
  · intro h hs
    have := h hs
    rw [Fd]
    obtain ⟨j, hj⟩ := hF k hk s hs
    unfold Hm
    rw [hj]
    simp only
    rw [Ej hU hC (Mr hj), Pz hj]
    exact this
theorem T4 {f : Nat → Bool} {n k : Nat} (h : k < n) : ((List.range n).map f).getD k false = f k := by
  rw [List.getD_eq_getElem?_getD]
  simp [h]
theorem out_eq {l : List Mod} (hU : Lk l) (hF : E3 l) (hA : ¬ Cyc l) : ∀ r, r ≤ l.length → Ol l r = (N7 l r).map (atM (Gw l))
  | 0, _ => rfl
  | r + 1, h => by
    have ih := out_eq hU hF hA r (by omega)
    obtain ⟨_, h2, _, _⟩ := Sv hU r
    have hl1 := P6 hU hF hA r (by omega)
    have hl2 := P6 hU hF hA (r + 1) h
    rw [Ol, ih, least_eq hU (p := Er l (N7 l r)) fun k hk => by rw [T4 hk, may_eq hU hF h2 hk]]
    rcases Cz l r with ⟨e, _, _⟩ | ⟨y, e, _, _, _, hb, hy⟩
    · rw [e, hl1] at hl2; omega
    · rw [hb, cond_false, ← hy, e, List.map_append]
      rfl
theorem cyc_at {l : List Mod} (hl : l.length ≤ 20) (hU : Lk l) {k : Nat} (hk : k < l.length) : ((List.range l.length).map (E2 l)).getD k false = Az l (Gw l) (nm l k) := by
  rw [T4 hk]
  unfold Az
  rw [O3 hU hk, Int.toNat_natCast, Bool.eq_iff_iff, Lj, led_iff hl]
  show (H2 l k).getD k false = true ↔ _
  rw [Nv]
  constructor
  · intro h
    exact ⟨k, rfl, h⟩
  · rintro ⟨j, e, h⟩
    have : k = j := by omega
    subst this
    exact h
theorem find_idx {p : List UInt8 → Bool} {ns : List (List UInt8)} {g : List UInt8 → Int} (h : ltB (Bk p ns) 0 = false) : (match ns.find? p with | some s => g s | none => 0) = g (ns.getD (Bk p ns).toNat []) := by
  rcases idxP_cases p ns [] with ⟨e, _⟩ | ⟨i, hi, e, hp, hno⟩
  · rw [e] at h; cases h
  · rw [find_at [] hi hno hp, e, Int.toNat_natCast]
theorem best_cyc {l : List Mod} (hl : l.length ≤ 20) : leB 0 (Mt l ((List.range l.length).map (E2 l)) l.length) = true ↔ Cyc l := by
  rw [Ss]
  rcases Ru (l := l) (is := (List.range l.length).map (E2 l)) l.length with ⟨h, hno⟩ | ⟨k, h, hk, his, _⟩
  · rw [h]
    refine ⟨fun h => by omega, fun ⟨k, hk⟩ => ?_⟩
    have hkl := (T1 hk).1
    have := hno k hkl
    rw [T4 hkl] at this
    have h2 : (H2 l k).getD k false = true := Nv.2 hk
    change (H2 l k).getD k false = false at this
    rw [h2] at this
    cases this
  · rw [h]
    refine ⟨fun _ => ⟨k, ?_⟩, fun _ => by omega⟩
    rw [T4 hk] at his
    exact Nv.1 his
theorem Ih {l : List Mod} (hf : Ph l = true) : M4 l = Ii l := by
  have hl := Px hf
  unfold M4 orderM Ii
  rw [wrong_eq]
  cases hd : (List.range l.length).find? (Dw l) with
  | some i => rfl
  | none =>
    simp only
    cases hk : (List.range l.length).find? (C5 l) with
    | some i => rfl
    | none =>
      simp only
      have hU := uniq_iff.1 hd
      have hF := full_iff.1 hk
      show cond false _ _ = _
      rw [cond_false]
      change cond (((N7 l l.length).length : Int) == (l.length : Int)) (Sl.mk ((N7 l l.length).map (atM (Gw l))), (0 : Int), (0 : Int)) (Sl.mk [], (match (Hl l).find? (Az l (Gw l)) with | some s => atM (Gw l) s | none => 0), 8) = _
      by_cases hc : Cyc l
      · have h1 := came_cyc hU hc
        have h2 := (best_cyc hl).2 hc
        rw [show (((N7 l l.length).length : Int) == (l.length : Int)) = false by rw [beq_eq_false_iff_ne]; omega, cond_false, h2, cond_true]
        have h3 := least_eq hU (is := (List.range l.length).map (E2 l)) (p := Az l (Gw l)) fun k hk => cyc_at hl hU hk
        have h4 : ltB (Bk (Az l (Gw l)) (Hl l)) 0 = false := by
          cases hb : ltB (Bk (Az l (Gw l)) (Hl l)) 0 with
          | false => rfl
          | true =>
            rw [hb, cond_true] at h3
            rw [h3] at h2
            cases h2
        rw [h4, cond_false] at h3
        rw [find_idx h4, h3]
      · have h2 : leB 0 (Mt l ((List.range l.length).map (E2 l)) l.length) = false := by
          rw [← Bool.not_eq_true, best_cyc hl]
          exact hc
        rw [h2, cond_false]
        have h3 := P6 hU hF hc l.length (Nat.le_refl _)
        rw [show (((N7 l l.length).length : Int) == (l.length : Int)) = true by rw [beq_iff_eq]; omega, cond_true, out_eq hU hF hc l.length (Nat.le_refl _)]
end Go.Am.Graph
set_option linter.unusedSimpArgs false
set_option linter.unusedVariables false
set_option maxHeartbeats 4000000
namespace Go.Am.Graph
open Go.Proofs
open Enc (enc dec)
def litA : List Mod := [⟨[98], [[97]], [], []⟩, ⟨[97], [], [], []⟩]
def litB : List Mod := [⟨[99], [[100]], [], []⟩, ⟨[100], [[99]], [], []⟩]
theorem litA_few : Ph litA = true := by kernel_rfl
theorem litB_few : Ph litB = true := by kernel_rfl
theorem litA_order : M4 litA = (⟨[1, 0]⟩, 0, 0) := by
  rw [Ih litA_few]
  kernel_rfl
theorem litB_order : M4 litB = (⟨[]⟩, 0, 8) := by
  rw [Ih litB_few]
  kernel_rfl
theorem litA_enc : (D.list 4 [.agg [.str [98], .list 1 [.str [97]], .list 3 [], .list 3 []], .agg [.str [97], .list 1 [], .list 3 [], .list 3 []]]) = enc (Sl.mk litA) := rfl
theorem litB_enc : (D.list 4 [.agg [.str [99], .list 1 [.str [100]], .list 3 [], .list 3 []], .agg [.str [100], .list 1 [.str [99]], .list 3 [], .list 3 []]]) = enc (Sl.mk litB) := rfl
theorem litO_enc : (enc (Sl.mk [(1 : Int), 0]) : D) = .list 1 [.int .i64 1, .int .i64 0] := rfl
def Gm : Con := con0 true
noncomputable def Cw : Ctx := ⟨tab, lkC [(12, Gk)], 60, lkB [], [], false⟩
theorem ctx_alive_t : Cw.τ = tab := rfl
theorem ctx_alive_c : Cw.Γ = lkC [(12, Gk)] := rfl
theorem ctx_alive_d : Cw.dp = 60 := rfl
theorem ctx_alive_b : Cw.Δ = lkB [] := rfl
theorem ctx_alive_u : Cw.cuts = [] := rfl
theorem ctx_alive_w : Cw.wr = false := rfl
set_option maxRecDepth 100000 in
theorem Th : Ck Try.prog (11, Gm) := by
  refine ⟨Hh Try.func11 (by kernel_rfl) rfl, ?_⟩
  have K : Mj Try.prog Cw := Nj P8 Ny (by
    intro p hp
    simp only [List.mem_cons, List.not_mem_nil, or_false] at hp
    rcases hp with rfl
    · exact Tw) (by simp)
  obtain ⟨c, hc⟩ : ∃ c, Try.f11.body = some c := ⟨_, rfl⟩
  refine Mi K Try.func11 hc [.tmp 0] rfl 47 rfl (fun cvs hpre => ?_)
  change Gm.pre cvs at hpre
  unfold Gm at hpre
  obtain rfl := con0_pre hpre
  have o1 := litA_few
  have o2 := litB_few
  simp only [Try.f11, Option.some.injEq] at hc
  subst hc
  refine Nu 2 (of_decide_eq_true (by kernel_rfl)) ?_
  (sym =>
   simp [litA_enc,litB_enc,litA_order,litB_order,litO_enc,M3.eq_def,Gg,szM,ctx_alive_t,ctx_alive_c,ctx_alive_d,ctx_alive_b,ctx_alive_u,ctx_alive_w,Gk.eq_def,Gm.eq_def,Za,Zb,Zc,Zd,Ze,Zf,Zg,Zn,Zo,Zp,Zq,Zr,Zs,Zt,Zv,Zy,Z0,Z1,Z5,Z6,Z7,Z8,Z9,Qa,Qb,Qc,Qd,Qe,Qf,Qj,Qk,Ql,Qm,Qn,Qo,Qq,Qw,Qx,Qz,Q2,Q3,Q4,Q5,Q6,Q7,Q8,Q9,Ja,Jb,Jc,Jd,Je,Jf,Jg,Jn,Jr,Js,Jt,Jz,J0,J1,J2,J3,J4,J5,J6,J7,J8,J9,Xa,Xb,Xc,Xd,Xe,Xf,Xg,Xh,Xi,Xj,Xk,Xl,Xm,Xn,Xo,Xp,Xq,Xr,Xs,Xu,Xv,Xw,Xx,Xy,Xz,X0,X1,X2,X3,X4,X5,X6,X7,X8,Wa,Wb,Wc,Wf,Wg,Wh,Wi,Wj,Wl,Wm,Wn,Wo,Wp,Wq,Wr,Ws,Wt,Wu,Wv,Ww,Wx,Wy,Wz,W0,W3,W4,W5,W6,W7,W8,W9,Ya,Yb,Yc,Yf,Yg,Yh,Yj,Yk,Yl,Ym,Yn,Yo,Yp,Yq,Yr,Ys,Yt,Yu,Yv,Yw,Yx,Yy,Yz,Y0,Y1,Y2,Y3,Y4,Y5,Y6,Y7,Y8,Y9,Va,Vb,Vc,Vd,Ve,Vf,Vg,Vh,Vi,Vj,Vk,Vl,Vm,Vn,Vo,Vp,Vq,Vr,Vs,Vt,Vu,Vv,Vw,Vx,Vy,Vz,V0,V1,V2,V3,V4,V5,V6,V7,V8,V9,Ua,Ub,Uc,Ud,Ue,Uf,Ug,Uh,Ui,Uo,Up,Uq,Ur,Us,Ut,Uu,Uv,Uw,Ux,Uy,Uz,U0,U1,U2,U3,U4,U5,U6,U7,U8,U9,Ka,Kb,Kc,Kd,Ke,Kf,Kg,Kh,Ki,Kj,Kk,Kl,Km,Kn,Ko,Kq,Kr,Ks,Kt,Ku,K1,K2,K3,K4,K5,K6,K7,Ga,Gx,Hb,Gq,Hi,Nx,Gy,Gp]
   tactic =>
    try simp only [Gl] at *
    try simp only [nc2] at *
    try simp (maxSteps := 4000000) only [litA_enc,litB_enc,litA_order,litB_order,litO_enc,M3.eq_def,Gg,szM,G4]
    repeat' (first | with_reducible assumption | with_reducible refine And.intro ?_ ?_ | intro _ | omega | (rw [Gb]; omega))
    all_goals first
      | assumption
      | omega
      | rfl
      | skip)
theorem beqI_self (x : Int) : (x == x) = true := beq_self_eq_true x
theorem Oh (x : List Int) : (x == x) = true := beq_self_eq_true x
theorem Rg {l : List Mod} (hf : Ph l = true) : (M4 l).1.l.length ≤ 20 := by
  rw [Ih hf]
  have hl := Px hf
  unfold Ii
  split
  · exact Nat.zero_le _
  · split
    · exact Nat.zero_le _
    · cases leB 0 (Mt l ((List.range l.length).map (E2 l)) l.length)
      · rw [cond_false]
        show (Ol l l.length).length ≤ 20
        rw [outN_len]
        exact hl
      · exact Nat.zero_le _
def con_GraphOrders : Con := Oo (fun (l : Sl Mod) => Lo l.l.length) (fun _ => true)
noncomputable def Pp : Ctx := ⟨tab, lkC [(10, Gn), (11, Gm), (12, Gk), (13, H3), (14, G3)], 60, lkB [], [], false⟩
theorem Fx : Pp.τ = tab := rfl
theorem Fz : Pp.Γ = lkC [(10, Gn), (11, Gm), (12, Gk), (13, H3), (14, G3)] := rfl
theorem Fy : Pp.dp = 60 := rfl
theorem F3 : Pp.Δ = lkB [] := rfl
theorem Fw : Pp.cuts = [] := rfl
theorem Fv : Pp.wr = false := rfl
set_option maxRecDepth 100000 in
theorem good_GraphOrders : Ck Try.prog (3, con_GraphOrders) := by
  refine ⟨Hh Try.func3 (by kernel_rfl) rfl, ?_⟩
  have K : Mj Try.prog Pp := Nj P8 Ny (by
    intro p hp
    simp only [List.mem_cons, List.not_mem_nil, or_false] at hp
    rcases hp with rfl | rfl | rfl | rfl | rfl
    · exact Cr
    · exact Th
    · exact Tw
    · exact good_Order8
    · exact Fh) (by simp)
  obtain ⟨c, hc⟩ : ∃ c, Try.f3.body = some c := ⟨_, rfl⟩
  refine Mi K Try.func3 hc [.tmp 2] rfl 41 rfl (fun cvs hpre => ?_)
  change con_GraphOrders.pre cvs at hpre
  unfold con_GraphOrders at hpre
  obtain ⟨⟨l⟩, rfl, hl⟩ := St hpre
  simp only at hl
  clear hpre
  cases hf : Ph l with
  | false =>
    simp only [Try.f3, Option.some.injEq] at hc
    subst hc
    refine Nu 2 (of_decide_eq_true (by kernel_rfl)) ?_
    (sym =>
     simp [hf,Fx,Fz,Fy,F3,Fw,Fv,Gn.eq_def,con_GraphOrders.eq_def,G3.eq_def,H3.eq_def,Gk.eq_def,Gm.eq_def,Za,Zb,Zc,Zd,Ze,Zf,Zg,Zn,Zo,Zp,Zq,Zr,Zs,Zt,Zv,Z6,Z7,Z8,Z9,Qa,Qb,Qc,Qd,Qe,Qf,Qj,Ql,Qm,Qn,Qo,Qq,Qw,Qx,Qz,Q3,Q4,Q5,Ja,Jc,Jd,Je,Jf,Jg,Jn,Jr,Js,Jt,Jz,J0,J1,J2,J3,J4,J5,J6,J7,J8,J9,Xa,Xd,Xe,Xf,Xg,Xh,Xi,Xj,Xk,Xl,Xm,Xn,Xo,Xp,Xq,Xr,Xs,Xu,Xv,Xw,Xx,Xy,Xz,X0,X1,X2,X3,X4,X5,X6,X7,X8,Wa,Wb,Wc,Wf,Wg,Wh,Wi,Wj,Wl,Wm,Wn,Wo,Wp,Wq,Wr,Ws,Wt,Wu,Wv,Ww,Wx,Wy,Wz,W0,W3,W4,W5,W6,W7,W8,W9,Ya,Yb,Yc,Yf,Yg,Yh,Yj,Yk,Yl,Ym,Yn,Yo,Yp,Yq,Yr,Ys,Yt,Yu,Yv,Yw,Yx,Yy,Yz,Y0,Y1,Y2,Y3,Y4,Y5,Y6,Y7,Y8,Y9,Va,Vb,Vc,Vd,Ve,Vf,Vg,Vh,Vi,Vj,Vk,Vl,Vm,Vn,Vo,Vp,Vq,Vr,Vs,Vt,Vu,Vv,Vw,Vx,Vy,Vz,V0,V1,V2,V3,V4,V5,V6,V7,V8,V9,Ua,Ub,Uc,Ud,Ue,Uf,Ug,Uh,Ui,Uo,Up,Us,Ut,Uu,Uv,Uw,Ux,Uy,Uz,U0,U1,U2,U3,U4,U5,U6,U7,U8,U9,Ka,Kb,Kc,Kd,Ke,Kf,Kg,Kh,Ki,Kj,Kk,Kl,Km,Kn,Ko,Kq,Kr,Ks,Kt,Ku,K1,K2,K3,K4,K5,K6,K7,Ga,Gx,Hd,Gq,Nx,Gp]
     tactic =>
      try simp only [Gl] at *
      try simp only [nc2] at *
      try simp (maxSteps := 4000000) only [hf,G4]
      repeat' (first | with_reducible assumption | with_reducible refine And.intro ?_ ?_ | intro _ | omega | (rw [Gb]; omega))
      all_goals first
        | assumption
        | omega
        | rfl
        | skip)
  | true =>
    have he := Ih hf
    have hlen := Rg hf
    obtain ⟨X, hX⟩ : ∃ X, Ii l = X := ⟨_, rfl⟩
    rw [hX] at he
    rw [he] at hlen
    obtain ⟨⟨a⟩, i, e⟩ := X
    simp only at hlen
    have h1 := Oh a
    have h2 := beqI_self i
    have h3 := beqI_self e
    simp only [Try.f3, Option.some.injEq] at hc
    subst hc
    refine Nu 2 (of_decide_eq_true (by kernel_rfl)) ?_
    (sym =>
     simp [hf,hX,he,h1,h2,h3,M3.eq_def,Fx,Fz,Fy,F3,Fw,Fv,Gn.eq_def,con_GraphOrders.eq_def,G3.eq_def,H3.eq_def,Gk.eq_def,Gm.eq_def,Za,Zb,Zc,Zd,Ze,Zf,Zg,Zn,Zo,Zp,Zq,Zr,Zs,Zt,Zv,Z6,Z7,Z8,Z9,Qa,Qb,Qc,Qd,Qe,Qf,Qj,Ql,Qm,Qn,Qo,Qq,Qw,Qx,Qz,Q3,Q4,Q5,Ja,Jc,Jd,Je,Jf,Jg,Jn,Jr,Js,Jt,Jz,J0,J1,J2,J3,J4,J5,J6,J7,J8,J9,Xa,Xd,Xe,Xf,Xg,Xh,Xi,Xj,Xk,Xl,Xm,Xn,Xo,Xp,Xq,Xr,Xs,Xu,Xv,Xw,Xx,Xy,Xz,X0,X1,X2,X3,X4,X5,X6,X7,X8,Wa,Wb,Wc,Wf,Wg,Wh,Wi,Wj,Wl,Wm,Wn,Wo,Wp,Wq,Wr,Ws,Wt,Wu,Wv,Ww,Wx,Wy,Wz,W0,W3,W4,W5,W6,W7,W8,W9,Ya,Yb,Yc,Yf,Yg,Yh,Yj,Yk,Yl,Ym,Yn,Yo,Yp,Yq,Yr,Ys,Yt,Yu,Yv,Yw,Yx,Yy,Yz,Y0,Y1,Y2,Y3,Y4,Y5,Y6,Y7,Y8,Y9,Va,Vb,Vc,Vd,Ve,Vf,Vg,Vh,Vi,Vj,Vk,Vl,Vm,Vn,Vo,Vp,Vq,Vr,Vs,Vt,Vu,Vv,Vw,Vx,Vy,Vz,V0,V1,V2,V3,V4,V5,V6,V7,V8,V9,Ua,Ub,Uc,Ud,Ue,Uf,Ug,Uh,Ui,Uo,Up,Us,Ut,Uu,Uv,Uw,Ux,Uy,Uz,U0,U1,U2,U3,U4,U5,U6,U7,U8,U9,Ka,Kb,Kc,Kd,Ke,Kf,Kg,Kh,Ki,Kj,Kk,Kl,Km,Kn,Ko,Kq,Kr,Ks,Kt,Ku,K1,K2,K3,K4,K5,K6,K7,Ga,Gx,Hd,Gq,Nx,Gp]
     tactic =>
      try simp only [Gl] at *
      try simp only [nc2] at *
      try simp (maxSteps := 4000000) only [hf,hX,he,h1,h2,h3,M3.eq_def,G4]
      repeat' (first | with_reducible assumption | with_reducible refine And.intro ?_ ?_ | intro _ | omega | (rw [Gb]; omega))
      all_goals first
        | assumption
        | omega
        | rfl
        | skip)
theorem needN_len' (l : List Mod) (i : Int) : (F8 l i).length ≤ l.length := by
  unfold F8
  cases ltB i 0 || leB (l.length : Int) i
  · rw [cond_false]; exact needN_len _ _ _
  · exact Nat.zero_le _
def con_GraphNeeds : Con := con2 (fun (l : Sl Mod) (_ : Int) => Lo l.l.length) (fun _ _ => true)
noncomputable def P0 : Ctx := ⟨tab, lkC [(10, Gn), (11, Gm), (14, G3), (16, Gv), (17, M0)], 60, lkB [], [], false⟩
theorem Rp : P0.τ = tab := rfl
theorem Rr : P0.Γ = lkC [(10, Gn), (11, Gm), (14, G3), (16, Gv), (17, M0)] := rfl
theorem Rq : P0.dp = 60 := rfl
theorem Rt : P0.Δ = lkB [] := rfl
theorem Ro : P0.cuts = [] := rfl
theorem Rn : P0.wr = false := rfl
set_option maxRecDepth 100000 in
theorem good_GraphNeeds : Ck Try.prog (6, con_GraphNeeds) := by
  refine ⟨Hh Try.func6 (by kernel_rfl) rfl, ?_⟩
  have K : Mj Try.prog P0 := Nj P8 Ny (by
    intro p hp
    simp only [List.mem_cons, List.not_mem_nil, or_false] at hp
    rcases hp with rfl | rfl | rfl | rfl | rfl
    · exact Cr
    · exact Th
    · exact Fh
    · exact Fg
    · exact good_Needs8) (by simp)
  obtain ⟨c, hc⟩ : ∃ c, Try.f6.body = some c := ⟨_, rfl⟩
  refine Mi K Try.func6 hc [.tmp 4] rfl 19 rfl (fun cvs hpre => ?_)
  change con_GraphNeeds.pre cvs at hpre
  unfold con_GraphNeeds at hpre
  obtain ⟨⟨l⟩, i, rfl, hl⟩ := Lw hpre
  simp only at hl
  clear hpre
  cases hf : Ph l with
  | false =>
    simp only [Try.f6, Option.some.injEq] at hc
    subst hc
    (sym =>
     simp [hf,Rp,Rr,Rq,Rt,Ro,Rn,Gn.eq_def,con_GraphNeeds.eq_def,G3.eq_def,M0.eq_def,Gv.eq_def,Gm.eq_def,Za,Zb,Zc,Zd,Ze,Zf,Zg,Zn,Zo,Zp,Zq,Zr,Zs,Zt,Zv,Z7,Z8,Z9,Qa,Qb,Qc,Qd,Qe,Qf,Qj,Ql,Qm,Qn,Qo,Qq,Qw,Qx,Qz,Q3,Q4,Q5,Ja,Jc,Jd,Je,Jf,Jg,Jn,Js,Jt,Jz,J0,Xd,Xe,Xf,Xg,Xh,Xi,Xj,Xk,Xl,Xm,Xn,Xo,Xp,Xs,Xu,Xv,Xw,Xx,Xy,Xz,X0,X1,X2,X3,X4,X5,X6,X7,X8,Wa,Wb,Wc,Wf,Wg,Wh,Wi,Wj,Wl,Wm,Wn,Wo,Wp,Wq,Wr,Ws,Wt,Wu,Wv,Ww,Wx,Wy,Wz,W0,W3,W4,W5,W6,W7,W8,W9,Ya,Yb,Yc,Yj,Yk,Yl,Ym,Yn,Yo,Yp,Yq,Yr,Ys,Yt,Yu,Yv,Yw,Yx,Yy,Yz,Y0,Y1,Y2,Y3,Y4,Y5,Y6,Y7,Y8,Y9,Va,Vb,Vc,Vd,Ve,Vf,Vg,Vh,Vi,Vj,Vk,Vl,Vm,Vn,Vo,Vp,Vq,Vr,Vs,Vt,Vu,Vv,Vw,Vx,Vy,Vz,V0,V1,V2,V3,V4,V5,V6,V7,V8,V9,Ua,Ub,Uc,Ud,Ue,Uf,Ug,Uh,Ui,Uo,Up,Us,Ut,Uu,Uv,Uw,Ux,Uy,Uz,U0,U1,U2,U3,U4,U5,U6,U7,U8,U9,Ka,Kb,Kc,Kd,Ke,Kf,Kg,Kh,Ki,Kj,Kk,Kl,Km,Kn,Ko,Kq,Kr,Ks,Kt,Ku,K1,K2,K3,K4,K5,K6,K7,Ga,Gx,Hd,Gq,Gp]
     tactic =>
      try simp only [Gl] at *
      try simp only [nc2] at *
      try simp (maxSteps := 4000000) only [hf,G4]
      repeat' (first | with_reducible assumption | with_reducible refine And.intro ?_ ?_ | intro _ | omega | (rw [Gb]; omega))
      all_goals first
        | assumption
        | omega
        | rfl
        | skip)
  | true =>
    have he := needs_eq hf i
    have hlen := needN_len' l i
    have hl20 := Px hf
    obtain ⟨a, hX⟩ : ∃ X, F8 l i = X := ⟨_, rfl⟩
    rw [hX] at he hlen
    have h1 := Oh a
    simp only [Try.f6, Option.some.injEq] at hc
    subst hc
    (sym =>
     simp [hf,hX,he,h1,Rp,Rr,Rq,Rt,Ro,Rn,Gn.eq_def,con_GraphNeeds.eq_def,G3.eq_def,M0.eq_def,Gv.eq_def,Gm.eq_def,Za,Zb,Zc,Zd,Ze,Zf,Zg,Zn,Zo,Zp,Zq,Zr,Zs,Zt,Zv,Z7,Z8,Z9,Qa,Qb,Qc,Qd,Qe,Qf,Qj,Ql,Qm,Qn,Qo,Qq,Qw,Qx,Qz,Q3,Q4,Q5,Ja,Jc,Jd,Je,Jf,Jg,Jn,Js,Jt,Jz,J0,Xd,Xe,Xf,Xg,Xh,Xi,Xj,Xk,Xl,Xm,Xn,Xo,Xp,Xs,Xu,Xv,Xw,Xx,Xy,Xz,X0,X1,X2,X3,X4,X5,X6,X7,X8,Wa,Wb,Wc,Wf,Wg,Wh,Wi,Wj,Wl,Wm,Wn,Wo,Wp,Wq,Wr,Ws,Wt,Wu,Wv,Ww,Wx,Wy,Wz,W0,W3,W4,W5,W6,W7,W8,W9,Ya,Yb,Yc,Yj,Yk,Yl,Ym,Yn,Yo,Yp,Yq,Yr,Ys,Yt,Yu,Yv,Yw,Yx,Yy,Yz,Y0,Y1,Y2,Y3,Y4,Y5,Y6,Y7,Y8,Y9,Va,Vb,Vc,Vd,Ve,Vf,Vg,Vh,Vi,Vj,Vk,Vl,Vm,Vn,Vo,Vp,Vq,Vr,Vs,Vt,Vu,Vv,Vw,Vx,Vy,Vz,V0,V1,V2,V3,V4,V5,V6,V7,V8,V9,Ua,Ub,Uc,Ud,Ue,Uf,Ug,Uh,Ui,Uo,Up,Us,Ut,Uu,Uv,Uw,Ux,Uy,Uz,U0,U1,U2,U3,U4,U5,U6,U7,U8,U9,Ka,Kb,Kc,Kd,Ke,Kf,Kg,Kh,Ki,Kj,Kk,Kl,Km,Kn,Ko,Kq,Kr,Ks,Kt,Ku,K1,K2,K3,K4,K5,K6,K7,Ga,Gx,Hd,Gq,Gp]
     tactic =>
      try simp only [Gl] at *
      try simp only [nc2] at *
      try simp (maxSteps := 4000000) only [hf,hX,he,h1,G4]
      repeat' (first | with_reducible assumption | with_reducible refine And.intro ?_ ?_ | intro _ | omega | (rw [Gb]; omega))
      all_goals first
        | assumption
        | omega
        | rfl
        | skip)
end Go.Am.Graph
set_option linter.unusedSimpArgs false
set_option linter.unusedVariables false
set_option maxHeartbeats 1000000
namespace Go.Am.Graph
open Go.Proofs Go.Sort
inductive Ends (l : List Mod) : Sl Int × Int × Int → Prop
  | dup (i : Nat) : (List.range l.length).find? (Dw l) = some i → ¬ Lk l → Ends l (⟨[]⟩, (i : Int), 7)
  | lack (i : Nat) : (List.range l.length).find? (C5 l) = some i → Lk l → ¬ E3 l → Ends l (⟨[]⟩, (i : Int), 6)
  | cyc (k : Nat) : Lk l → E3 l → Cyc l → k < l.length → Mt l ((List.range l.length).map (E2 l)) l.length = k → Ends l (⟨[]⟩, (k : Int), 8)
  | fine : Lk l → E3 l → ¬ Cyc l → Ends l (⟨(N7 l l.length).map (atM (Gw l))⟩, 0, 0)
theorem Ah {l : List Mod} (hf : Ph l = true) : Ends l (M4 l) := by
  have hl := Px hf
  rw [Ih hf]
  unfold Ii
  cases hd : (List.range l.length).find? (Dw l) with
  | some i => exact .dup i hd fun h => by rw [uniq_iff.2 h] at hd; cases hd
  | none =>
    simp only
    have hU := uniq_iff.1 hd
    cases hk : (List.range l.length).find? (C5 l) with
    | some i => exact .lack i hk hU fun h => by rw [full_iff.2 h] at hk; cases hk
    | none =>
      simp only
      have hF := full_iff.1 hk
      by_cases hc : Cyc l
      · have h2 := (best_cyc hl).2 hc
        rw [h2, cond_true]
        rw [Ss] at h2
        rcases bestN_lt l ((List.range l.length).map (E2 l)) l.length with h | ⟨h3, h4⟩
        · omega
        · obtain ⟨k, hk⟩ : ∃ k : Nat, Mt l ((List.range l.length).map (E2 l)) l.length = k := ⟨_, (Int.toNat_of_nonneg h3).symm⟩
          rw [hk]
          exact .cyc k hU hF hc (by omega) hk
      · have h2 : leB 0 (Mt l ((List.range l.length).map (E2 l)) l.length) = false := by
          rw [← Bool.not_eq_true, best_cyc hl]
          exact hc
        rw [h2, cond_false, out_eq hU hF hc l.length (Nat.le_refl _)]
        exact .fine hU hF hc
theorem ends_fine {l : List Mod} (hf : Ph l = true) : (M4 l).2.2 = 0 ↔ Lk l ∧ E3 l ∧ ¬ Cyc l := by
  have h := Ah hf
  generalize M4 l = X at h
  cases h with
  | dup i h1 h2 => exact ⟨fun h => (by cases h), fun h => absurd h.1 h2⟩
  | lack i h1 h2 h3 => exact ⟨fun h => (by cases h), fun h => absurd h.2.1 h3⟩
  | cyc k h1 h2 h3 => exact ⟨fun h => (by cases h), fun h => absurd h3 h.2.2⟩
  | fine h1 h2 h3 => exact ⟨fun _ => ⟨h1, h2, h3⟩, fun _ => rfl⟩
theorem came_take {l : List Mod} (hU : Lk l) (hF : E3 l) (hA : ¬ Cyc l) {i : Nat} : ∀ n, i + n ≤ l.length → (N7 l (i + n)).take i = N7 l i
  | 0, h => by
    have := P6 hU hF hA i (by omega)
    exact List.take_of_length_le (by rw [Nat.add_zero, this]; exact Nat.le_refl _)
  | n + 1, h => by
    have ih := came_take hU hF hA (i := i) n (by omega)
    have h1 := P6 hU hF hA (i + n) (by omega)
    have h2 := P6 hU hF hA (i + n + 1) (by omega)
    rcases Cz l (i + n) with ⟨e, _, _⟩ | ⟨y, e, _⟩
    · rw [e] at h2; omega
    · show (N7 l (i + n + 1)).take i = _
      rw [e, List.take_append_of_le_length (by omega), ih]
def BehindOk (l : List Mod) (a : List Int) : Prop := a.length = l.length ∧ ∀ i, i < a.length → ∃ p : Nat, a.getD i 0 = p ∧ p < l.length ∧ inB (a.take i) p = false ∧ (∀ s ∈ imp l p, inB (a.take i) (Hm l s) = true) ∧ ∀ x ∈ Bw l p, inB (a.take (i + 1)) x = true
theorem behind_ok {l : List Mod} (hf : Ph l = true) (hU : Lk l) (hF : E3 l) (hA : ¬ Cyc l) : BehindOk l ((N7 l l.length).map (atM (Gw l))) := by
  have hfull := P6 hU hF hA
  refine ⟨by rw [List.length_map]; exact hfull _ (Nat.le_refl _), fun i hi => ?_⟩
  rw [List.length_map, hfull _ (Nat.le_refl _)] at hi
  have t1 := came_take hU hF hA (i := i) (l.length - i) (by omega)
  have t2 := came_take hU hF hA (i := i + 1) (l.length - (i + 1)) (by omega)
  rw [show i + (l.length - i) = l.length by omega] at t1
  rw [show i + 1 + (l.length - (i + 1)) = l.length by omega] at t2
  have h1 := hfull i (by omega)
  have h2 := hfull (i + 1) (by omega)
  obtain ⟨_, n1, _, n4⟩ := Sv hU i
  obtain ⟨_, m1, _, m4⟩ := Sv hU (i + 1)
  rcases Cz l i with ⟨e, _, _⟩ | ⟨y, e, hy, hm, _⟩
  · rw [e] at h2; omega
  · obtain ⟨p, hp, rfl⟩ := T2 hy
    rw [Ds hU hp] at hm
    have hg : ((N7 l l.length).map (atM (Gw l))).getD i 0 = p := by
      have e1 : ((N7 l l.length).take (i + 1))[i]? = (N7 l l.length)[i]? := by rw [List.getElem?_take, if_pos (by omega)]
      rw [t2, e, List.getElem?_append_right (by omega), h1, Nat.sub_self] at e1
      rw [List.getD_eq_getElem?_getD, List.getElem?_map, ← e1]
      simp [O3 hU hp]
    refine ⟨p, hg, hp, ?_, fun s hs => ?_, fun x hx => ?_⟩
    · rw [← List.map_take, t1, ← Bool.not_eq_true, Fd, Ej hU n1 hp]
      exact hm.1
    · obtain ⟨j, hj⟩ := hF p hp s hs
      rw [← List.map_take, t1, Fd]
      unfold Hm
      rw [hj]
      simp only
      rw [Ej hU n1 (Mr hj), Pz hj]
      exact hm.2 s hs
    · obtain ⟨k, rfl, hk⟩ := (Eh hf hp).1 hx
      have hkl : k < l.length := by
        rcases hk with hk | rfl
        · exact (T1 hk).2
        · exact hp
      rw [← List.map_take, t2, Fd, Ej hU m1 hkl]
      rcases hk with hk | rfl
      · have hpin : nm l p ∈ N7 l (i + 1) := by rw [e]; exact List.mem_append_right _ (List.mem_singleton.2 rfl)
        have clo : ∀ k j, nm l k ∈ N7 l (i + 1) → A4 l k j → nm l j ∈ N7 l (i + 1) := by
          rintro k j hk ⟨s, hs, hj⟩
          have hkl := (C0 ⟨s, hs, hj⟩ : k < l.length ∧ j < l.length).1
          have := (m4 k hkl hk).1 s hs
          rwa [Pz hj]
        exact E5 (M := fun k => nm l k ∈ N7 l (i + 1)) clo hk (fun j hj => clo p j hpin hj)
      · rw [e]; exact List.mem_append_right _ (List.mem_singleton.2 rfl)
def fineS (l : List Mod) (i : Nat) (f : Bool) (s : List UInt8) : Bool := cond (f && leB 0 (Hm l s)) (!inB (Bw l (Hm l s)) (i : Int)) false
def Ev (l : List Mod) (i : Nat) (f : Bool) (ss : List (List UInt8)) : Bool := ss.foldl (fineS l i) f
def fine0 (l : List Mod) (i : Nat) (f : Bool) : Bool := f && (Hm l (nm l i) == (i : Int))
def Ip (l : List Mod) : Nat → Bool
  | 0 => true
  | k + 1 => Ev l k (fine0 l k (Ip l k)) (imp l k)
theorem fineL_iff {l : List Mod} {i : Nat} : ∀ {ss : List (List UInt8)} {f : Bool}, Ev l i f ss = true ↔ f = true ∧ ∀ s ∈ ss, 0 ≤ Hm l s ∧ inB (Bw l (Hm l s)) (i : Int) = false
  | [], f => by simp [Ev]
  | s :: ss, f => by
    show Ev l i (fineS l i f s) ss = true ↔ _
    rw [fineL_iff]
    unfold fineS
    cases f with
    | false => simp
    | true =>
      rw [Bool.true_and]
      cases hb : leB 0 (Hm l s) with
      | false =>
        rw [P5] at hb
        simp
        intro h
        omega
      | true =>
        rw [Ss] at hb
        simp [hb]
theorem fineN_iff {l : List Mod} : ∀ {n : Nat}, Ip l n = true ↔ ∀ k, k < n → Hm l (nm l k) = k ∧ ∀ s ∈ imp l k, 0 ≤ Hm l s ∧ inB (Bw l (Hm l s)) (k : Int) = false
  | 0 => by simp [Ip]
  | n + 1 => by
    rw [Ip, fineL_iff]
    unfold fine0
    rw [Bool.and_eq_true, fineN_iff (n := n), beq_iff_eq]
    constructor
    · rintro ⟨⟨h1, h2⟩, h3⟩
      exact Ok h1 ⟨h2, h3⟩
    · intro h
      exact ⟨⟨fun k hk => h k (by omega), (h n (by omega)).1⟩, (h n (by omega)).2⟩
theorem fine_eq {l : List Mod} (hf : Ph l = true) : Ip l l.length = ((M4 l).2.2 == 0) := by
  rw [Bool.eq_iff_iff, beq_iff_eq, ends_fine hf, fineN_iff]
  constructor
  · intro h
    have hU : Lk l := fun k hk => by
      have h1 := (h k hk).1
      unfold Hm at h1
      cases hj : Hr l (nm l k) with
      | none => rw [hj] at h1; simp only at h1; omega
      | some j => rw [hj] at h1; simp only at h1; rw [show j = k by omega]
    have hF : E3 l := fun k hk s hs => by
      have h1 := ((h k hk).2 s hs).1
      unfold Hm at h1
      cases hj : Hr l s with
      | none => rw [hj] at h1; simp only at h1; omega
      | some j => exact ⟨j, rfl⟩
    refine ⟨hU, hF, fun ⟨k, hk⟩ => ?_⟩
    have hkl := (T1 hk).1
    have no : ∀ j, A4 l k j → ¬ (Path l j k ∨ k = j) := by
      rintro j ⟨s, hs, hj⟩ hp
      have h1 := ((h k hkl).2 s hs).2
      unfold Hm at h1
      rw [hj] at h1
      simp only at h1
      rw [← Bool.not_eq_true, Fd, Eh hf (Mr hj)] at h1
      exact h1 ⟨k, rfl, hp⟩
    cases hk with
    | one h => exact no _ h (.inr rfl)
    | more h hp => exact no _ h (.inl hp)
  · rintro ⟨hU, hF, hA⟩ k hk
    refine ⟨by unfold Hm; rw [hU k hk], fun s hs => ?_⟩
    obtain ⟨j, hj⟩ := hF k hk s hs
    unfold Hm
    rw [hj]
    simp only
    refine ⟨by omega, ?_⟩
    rw [← Bool.not_eq_true, Fd, Eh hf (Mr hj)]
    rintro ⟨k', e, hp⟩
    have : k = k' := by omega
    subst this
    rcases hp with hp | rfl
    · exact hA ⟨k, .more ⟨s, hs, hj⟩ hp⟩
    · exact hA ⟨k, .one ⟨s, hs, hj⟩⟩
def setL (b : List Bool) (xs : List Int) : List Bool := xs.foldl (fun b x => b.set x.toNat true) b
def inS (l : List Mod) (b : List Bool) (s : List UInt8) : List Bool := cond (ltB (Hm l s) 0) b (setL b (Bw l (Hm l s)))
def inL (l : List Mod) (b : List Bool) (ss : List (List UInt8)) : List Bool := ss.foldl (inS l) b
def reachL (l : List Mod) (i : Nat) : List Bool := inL l ((List.replicate l.length false).set i true) (imp l i)
def So (b : List Bool) : Nat → List Int
  | 0 => []
  | k + 1 => So b k ++ cond (b.getD k false) [(k : Int)] []
theorem should_len (b : List Bool) : ∀ k, (So b k).length ≤ k
  | 0 => Nat.le_refl _
  | k + 1 => by
    have := should_len b k
    rw [So, List.length_append]
    cases b.getD k false <;> simp <;> omega
theorem setL_len : ∀ {xs : List Int} {b : List Bool}, (setL b xs).length = b.length
  | [], b => rfl
  | x :: xs, b => by
    show (setL (b.set x.toNat true) xs).length = _
    rw [setL_len, List.length_set]
theorem inS_len {l : List Mod} {b : List Bool} {s : List UInt8} : (inS l b s).length = b.length := by
  unfold inS
  cases ltB (Hm l s) 0
  · rw [cond_false, setL_len]
  · rfl
theorem inL_len {l : List Mod} : ∀ {ss : List (List UInt8)} {b : List Bool}, (inL l b ss).length = b.length
  | [], b => rfl
  | s :: ss, b => by
    show (inL l (inS l b s) ss).length = _
    rw [inL_len, inS_len]
theorem setL_at {N : Nat} : ∀ {xs : List Int} {b : List Bool} (_ : b.length = N) (_ : ∀ x ∈ xs, 0 ≤ x ∧ x < N) (k : Nat), (setL b xs).getD k false = true ↔ b.getD k false = true ∨ (k : Int) ∈ xs
  | [], b, _, _, k => by simp [setL]
  | x :: xs, b, hb, hx, k => by
    show (setL (b.set x.toNat true) xs).getD k false = true ↔ _
    have h0 := hx x (List.mem_cons_self ..)
    rw [setL_at (by rw [List.length_set, hb]) (fun y hy => hx y (List.mem_cons_of_mem _ hy)) k, getD_set (by omega), Bool.or_eq_true, beq_iff_eq, List.mem_cons, or_assoc]
    have : x.toNat = k ↔ (k : Int) = x := by omega
    rw [this]
theorem needs_in {l : List Mod} (hf : Ph l = true) {p : Nat} (hp : p < l.length) : ∀ x ∈ Bw l p, 0 ≤ x ∧ x < l.length := fun x hx => by
  obtain ⟨k, rfl, hk⟩ := (Eh hf hp).1 hx
  rcases hk with hk | rfl
  · have := (T1 hk).2; omega
  · omega
theorem inL_at {l : List Mod} (hf : Ph l = true) : ∀ {ss : List (List UInt8)} {b : List Bool} (_ : b.length = l.length) (k : Nat), (inL l b ss).getD k false = true ↔ b.getD k false = true ∨ ∃ s ∈ ss, ∃ j, Hr l s = some j ∧ (Path l j k ∨ k = j)
  | [], b, _, k => by simp [inL]
  | s :: ss, b, hb, k => by
    show (inL l (inS l b s) ss).getD k false = true ↔ _
    rw [inL_at hf (by rw [inS_len, hb]) k]
    unfold inS Hm
    cases hj : Hr l s with
    | none =>
      rw [show ltB (-1) 0 = true from rfl, cond_true]
      simp [hj]
    | some j =>
      have hjl := Mr hj
      simp only
      rw [show ltB (j : Int) 0 = false by rw [Hq]; omega, cond_false, setL_at hb (needs_in hf hjl), Eh hf hjl]
      simp only [List.mem_cons, exists_eq_or_imp, or_assoc, hj, Option.some.injEq, exists_eq_left']
      refine or_congr_right ?_
      rw [← or_assoc]
      refine or_congr_left ?_
      exact ⟨fun ⟨k', e, h⟩ => by have : k = k' := by omega
                                  exact this ▸ h, fun h => ⟨k, rfl, h⟩⟩
theorem O6 {b : List Bool} : ∀ {n : Nat} {x : Int}, x ∈ So b n ↔ ∃ k : Nat, x = k ∧ k < n ∧ b.getD k false = true
  | 0, x => by simp [So]
  | n + 1, x => by
    rw [So, List.mem_append, O6]
    constructor
    · rintro (⟨k, h1, h2, h3⟩ | h)
      · exact ⟨k, h1, by omega, h3⟩
      · cases hc : b.getD n false with
        | false => rw [hc] at h; cases h
        | true =>
          rw [hc, cond_true, List.mem_singleton] at h
          exact ⟨n, h, by omega, hc⟩
    · rintro ⟨k, h1, h2, h3⟩
      by_cases e : k = n
      · subst e
        right
        rw [h3, cond_true, List.mem_singleton]
        exact h1
      · exact .inl ⟨k, h1, by omega, h3⟩
theorem should_rise {b : List Bool} : ∀ n, Rise (So b n)
  | 0 => List.Pairwise.nil
  | n + 1 => by
    unfold Rise
    rw [So, List.pairwise_append]
    refine ⟨should_rise n, ?_, fun x hx y hy => ?_⟩
    · cases b.getD n false <;> simp
    · obtain ⟨k, rfl, hk, _⟩ := O6.1 hx
      cases hc : b.getD n false with
      | false => rw [hc] at hy; cases hy
      | true =>
        rw [hc, cond_true, List.mem_singleton] at hy
        omega
theorem reach_eq {l : List Mod} (hf : Ph l = true) {i : Nat} (hi : i < l.length) : Bw l i = So (reachL l i) l.length := by
  refine rise_ext (needs_rise hf _) (should_rise _) fun x => ?_
  rw [Eh hf hi, O6]
  have h0 : ((List.replicate l.length false).set i true).length = l.length := by simp
  have hat : ∀ k, (reachL l i).getD k false = true ↔ i = k ∨ ∃ s ∈ imp l i, ∃ j, Hr l s = some j ∧ (Path l j k ∨ k = j) := fun k => by
    unfold reachL
    rw [inL_at hf h0 k, getD_set (by simpa using hi)]
    have : (List.replicate l.length false).getD k false = false := by
      rw [List.getD_eq_getElem?_getD, List.getElem?_replicate]
      split <;> rfl
    rw [this, Bool.false_or, beq_iff_eq]
  constructor
  · rintro ⟨k, rfl, h | rfl⟩
    · refine ⟨k, rfl, (T1 h).2, (hat k).2 (.inr ?_)⟩
      cases h with
      | one h => obtain ⟨s, hs, hj⟩ := h; exact ⟨s, hs, k, hj, .inr rfl⟩
      | more h hp => obtain ⟨s, hs, hj⟩ := h; exact ⟨s, hs, _, hj, .inl hp⟩
    · exact ⟨k, rfl, hi, (hat k).2 (.inl rfl)⟩
  · rintro ⟨k, rfl, _, h⟩
    refine ⟨k, rfl, ?_⟩
    rcases (hat k).1 h with rfl | ⟨s, hs, j, hj, hp | rfl⟩
    · exact .inr rfl
    · exact .inl (.more ⟨s, hs, hj⟩ hp)
    · exact .inl (.one ⟨s, hs, hj⟩)
end Go.Am.Graph
set_option linter.unusedSimpArgs false
set_option linter.unusedVariables false
set_option maxHeartbeats 4000000
namespace Go.Am.Graph
open Go.Proofs
open Enc (enc dec)
theorem fineL_snoc {l : List Mod} {i : Nat} {f : Bool} {ss : List (List UInt8)} {j : Nat} (h : j < ss.length) : Ev l i f (ss.take (j + 1)) = fineS l i (Ev l i f (ss.take j)) (ss.getD j []) := by
  unfold Ev
  rw [List.take_succ_eq_append_getElem h, List.foldl_append]
  simp [h]
theorem inL_snoc {l : List Mod} {b : List Bool} {ss : List (List UInt8)} {j : Nat} (h : j < ss.length) : inL l b (ss.take (j + 1)) = inS l (inL l b (ss.take j)) (ss.getD j []) := by
  unfold inL
  rw [List.take_succ_eq_append_getElem h, List.foldl_append]
  simp [h]
theorem setL_snoc {b : List Bool} {xs : List Int} {j : Nat} (h : j < xs.length) : setL b (xs.take (j + 1)) = (setL b (xs.take j)).set (xs.getD j 0).toNat true := by
  unfold setL
  rw [List.take_succ_eq_append_getElem h, List.foldl_append]
  simp [h]
theorem R5 {l : List Mod} (hf : Ph l = true) (i : Int) : (Bw l i).length ≤ 20 := by
  rw [needs_eq hf]
  have := needN_len' l i
  have := Px hf
  omega
def con_GraphCycles : Con := Oo (fun (l : Sl Mod) => Lo l.l.length) (fun _ => true)
noncomputable def Pq : Ctx := ⟨tab, lkC [(10, Gn), (11, Gm), (12, Gk), (15, Gu), (16, Gv), (18, G6)], 60, lkB [], [], false⟩
theorem Nf : Pq.τ = tab := rfl
theorem Nh : Pq.Γ = lkC [(10, Gn), (11, Gm), (12, Gk), (15, Gu), (16, Gv), (18, G6)] := rfl
theorem Ng : Pq.dp = 60 := rfl
theorem Ni : Pq.Δ = lkB [] := rfl
theorem Nd : Pq.cuts = [] := rfl
theorem Nc : Pq.wr = false := rfl
set_option maxRecDepth 100000 in
theorem good_GraphCycles : Ck Try.prog (8, con_GraphCycles) := by
  refine ⟨Hh Try.func8 (by kernel_rfl) rfl, ?_⟩
  have K : Mj Try.prog Pq := Nj P8 Ny (by
    intro p hp
    simp only [List.mem_cons, List.not_mem_nil, or_false] at hp
    rcases hp with rfl | rfl | rfl | rfl | rfl | rfl
    · exact Cr
    · exact Th
    · exact Tw
    · exact Af
    · exact Fg
    · exact I5) (by simp)
  obtain ⟨c, hc⟩ : ∃ c, Try.f8.body = some c := ⟨_, rfl⟩
  refine Mi K Try.func8 hc [.tmp 2] rfl 77 rfl (fun cvs hpre => ?_)
  change con_GraphCycles.pre cvs at hpre
  unfold con_GraphCycles at hpre
  obtain ⟨⟨l⟩, rfl, hl⟩ := St hpre
  simp only at hl
  clear hpre
  cases hf : Ph l with
  | false =>
    simp only [Try.f8, Option.some.injEq] at hc
    subst hc
    refine Nu 4 (of_decide_eq_true (by kernel_rfl)) ?_
    (sym =>
     simp [hf,Nf,Nh,Ng,Ni,Nd,Nc,Gn.eq_def,con_GraphCycles.eq_def,G6.eq_def,Gv.eq_def,Gk.eq_def,Gm.eq_def,Gu.eq_def,Za,Zb,Zc,Zd,Ze,Zf,Zg,Zn,Zo,Zp,Zq,Zr,Zs,Zt,Zv,Zx,Zy,Z5,Z6,Z7,Z8,Z9,Qa,Qb,Qc,Qd,Qe,Qf,Qj,Qk,Ql,Qm,Qn,Qo,Qq,Qw,Qx,Qz,Q3,Q4,Q5,Ja,Jc,Jd,Je,Jf,Jg,Jn,Jr,Js,Jt,Ju,Jv,Jw,Jz,J0,J1,J2,J3,J4,J5,J6,J7,J8,J9,Xa,Xd,Xe,Xf,Xg,Xh,Xi,Xj,Xk,Xl,Xm,Xn,Xo,Xp,Xq,Xr,Xs,Xu,Xv,Xw,Xx,Xy,Xz,X0,X1,X2,X3,X4,X5,X6,X7,X8,X9,Wa,Wb,Wc,Wf,Wg,Wh,Wi,Wj,Wl,Wm,Wn,Wo,Wp,Wq,Wr,Ws,Wt,Wu,Wv,Ww,Wx,Wy,Wz,W0,W3,W4,W5,W6,W7,W8,W9,Ya,Yb,Yc,Yf,Yg,Yh,Yi,Yj,Yk,Yl,Ym,Yn,Yo,Yp,Yq,Yr,Ys,Yt,Yu,Yv,Yw,Yx,Yy,Yz,Y0,Y1,Y2,Y3,Y4,Y5,Y6,Y7,Y8,Y9,Va,Vb,Vc,Vd,Ve,Vf,Vg,Vh,Vi,Vj,Vk,Vl,Vm,Vn,Vo,Vp,Vq,Vr,Vs,Vt,Vu,Vv,Vw,Vx,Vy,Vz,V0,V1,V2,V3,V4,V5,V6,V7,V8,V9,Ua,Ub,Uc,Ud,Ue,Uf,Ug,Uh,Ui,Uo,Up,Us,Ut,Uu,Uv,Uw,Ux,Uy,Uz,U0,U1,U2,U3,U4,U5,U6,U7,U8,U9,Ka,Kb,Kc,Kd,Ke,Kf,Kg,Kh,Ki,Kj,Kk,Kl,Km,Kn,Ko,Kq,Kr,Ks,Kt,Ku,K1,K2,K3,K4,K5,K6,K7,Ga,Gx,Hd,Hb,Gq,Nx,Gy,Gp]
     tactic =>
      try simp only [Gl] at *
      try simp only [nc2] at *
      try simp (maxSteps := 4000000) only [hf,G4]
      repeat' (first | with_reducible assumption | with_reducible refine And.intro ?_ ?_ | intro _ | omega | (rw [Gb]; omega))
      all_goals first
        | assumption
        | omega
        | rfl
        | skip)
  | true =>
  have he := fine_eq hf
  obtain ⟨X, hX⟩ : ∃ X, M4 l = X := ⟨_, rfl⟩
  rw [hX] at he
  obtain ⟨⟨a⟩, ia, e⟩ := X
  simp only at he
  have hl20 := Px hf
  simp only [Try.f8, Option.some.injEq] at hc
  subst hc
  refine Nu 4 (of_decide_eq_true (by kernel_rfl)) ?_
  (sym =>
   simp [hf,szM,Nf,Nh,Ng,Ni,Nd,Nc,Gn.eq_def,con_GraphCycles.eq_def,G6.eq_def,Gv.eq_def,Gk.eq_def,Gm.eq_def,Gu.eq_def,Za,Zb,Zc,Zd,Ze,Zf,Zg,Zn,Zo,Zp,Zq,Zr,Zs,Zt,Zv,Zx,Zy,Z5,Z6,Z7,Z8,Z9,Qa,Qb,Qc,Qd,Qe,Qf,Qj,Qk,Ql,Qm,Qn,Qo,Qq,Qw,Qx,Qz,Q3,Q4,Q5,Ja,Jc,Jd,Je,Jf,Jg,Jn,Jr,Js,Jt,Ju,Jv,Jw,Jz,J0,J1,J2,J3,J4,J5,J6,J7,J8,J9,Xa,Xd,Xe,Xf,Xg,Xh,Xi,Xj,Xk,Xl,Xm,Xn,Xo,Xp,Xq,Xr,Xs,Xu,Xv,Xw,Xx,Xy,Xz,X0,X1,X2,X3,X4,X5,X6,X7,X8,X9,Wa,Wb,Wc,Wf,Wg,Wh,Wi,Wj,Wl,Wm,Wn,Wo,Wp,Wq,Wr,Ws,Wt,Wu,Wv,Ww,Wx,Wy,Wz,W0,W3,W4,W5,W6,W7,W8,W9,Ya,Yb,Yc,Yf,Yg,Yh,Yi,Yj,Yk,Yl,Ym,Yn,Yo,Yp,Yq,Yr,Ys,Yt,Yu,Yv,Yw,Yx,Yy,Yz,Y0,Y1,Y2,Y3,Y4,Y5,Y6,Y7,Y8,Y9,Va,Vb,Vc,Vd,Ve,Vf,Vg,Vh,Vi,Vj,Vk,Vl,Vm,Vn,Vo,Vp,Vq,Vr,Vs,Vt,Vu,Vv,Vw,Vx,Vy,Vz,V0,V1,V2,V3,V4,V5,V6,V7,V8,V9,Ua,Ub,Uc,Ud,Ue,Uf,Ug,Uh,Ui,Uo,Up,Us,Ut,Uu,Uv,Uw,Ux,Uy,Uz,U0,U1,U2,U3,U4,U5,U6,U7,U8,U9,Ka,Kb,Kc,Kd,Ke,Kf,Kg,Kh,Ki,Kj,Kk,Kl,Km,Kn,Ko,Kq,Kr,Ks,Kt,Ku,K1,K2,K3,K4,K5,K6,K7,Ga,Gx,Hd,Hb,Gq,Nx,Gy,Gp]
   tactic =>
    try simp only [Gl] at *
    try simp only [nc2] at *
    try simp (maxSteps := 4000000) only [hf,szM,G4]
    repeat' (first | with_reducible assumption | with_reducible refine And.intro ?_ ?_ | intro _ | omega | (rw [Gb]; omega))
    refine Ha [5, 6, 14, 15, 16, 17, 18, 19, 20, 21, 22, 23, 24, 25, 26, 27, 28, 29, 30, 31, 32, 33, 34, 35, 36, 37, 38, 39, 40, 41, 42, 43, 44, 45, 46, 47, 48, 49, 50, 51, 52, 53, 54, 55, 56, 57, 58, 59, 60, 61, 62, 63] (fun k : Nat => [(3, .d (.bool (Ip l k))), (4, .d (.int .i64 k))]) (fun k : Nat => []) (fun k : Nat => k ≤ l.length) (fun k : Nat => l.length - k) 0 ?_ ?_ ?_
    · omega
    · ((try simp only [Gd, Gj, Gi, Gs, upd, Gt, G5, Hn, Nat.reduceDiv, Nat.reduceMod, Nat.reduceMul, Nat.reduceAdd, Nat.reduceEqDiff, List.set_cons_zero, List.set_cons_succ, if_true, if_false, reduceIte]); (first | refine Wk.of_fl ?_ | skip); simp only [Wk, wkK, Ht, wkT, wk1, AV.kept, keptAll, wkO, lk, Ge, and_true, true_and, and_self, Nat.reduceEqDiff, Nat.reduceLeDiff, if_true, if_false, reduceIte, reduceCtorEq, Option.isSome, false_implies]; try simp [Wk, wkK, wkT, wk1, AV.kept, keptAll, wkO, lk, Ge, Ip])
    rintro k hk
    rcases Hg k l.length with ⟨hlt, hlb⟩ | ⟨hlt, hlb⟩
    · have hS : Ip l (k + 1) = Ev l k (Ip l k && (Hm l (nm l k) == (k : Int))) (imp l k) := rfl
      have q1 := Hp m0 hlt
      have hi20 := Dv hf k
      unfold nm imp at hS
      unfold imp at hi20
      obtain ⟨x, hx⟩ : ∃ x, l.getD k m0 = x := ⟨_, rfl⟩
      rw [hx] at q1 hS hi20
      obtain ⟨f, hff⟩ : ∃ f, Ip l k = f := ⟨_, rfl⟩
      obtain ⟨z, hz⟩ : ∃ z, (Hm l x.name == (k : Int)) = z := ⟨_, rfl⟩
      rw [hff, hz] at hS
      rw [hff]
      have inner : ∀ g : Bool, g = (f && z) → True := fun _ _ => trivial
      cases f with
      | false =>
        rw [Bool.false_and] at hS
        (sym =>
         simp [hlb,q1,Gg,szM,Nf,Nh,Ng,Ni,Nd,Nc,Gn.eq_def,con_GraphCycles.eq_def,G6.eq_def,Gv.eq_def,Gk.eq_def,Gm.eq_def,Gu.eq_def,Za,Zb,Zc,Zd,Ze,Zf,Zg,Zn,Zo,Zp,Zq,Zr,Zs,Zt,Zv,Zx,Zy,Z5,Z6,Z7,Z8,Z9,Qa,Qb,Qc,Qd,Qe,Qf,Qj,Qk,Ql,Qm,Qn,Qo,Qq,Qw,Qx,Qz,Q3,Q4,Q5,Ja,Jc,Jd,Je,Jf,Jg,Jn,Jr,Js,Jt,Ju,Jv,Jw,Jz,J0,J1,J2,J3,J4,J5,J6,J7,J8,J9,Xa,Xd,Xe,Xf,Xg,Xh,Xi,Xj,Xk,Xl,Xm,Xn,Xo,Xp,Xq,Xr,Xs,Xu,Xv,Xw,Xx,Xy,Xz,X0,X1,X2,X3,X4,X5,X6,X7,X8,X9,Wa,Wb,Wc,Wf,Wg,Wh,Wi,Wj,Wl,Wm,Wn,Wo,Wp,Wq,Wr,Ws,Wt,Wu,Wv,Ww,Wx,Wy,Wz,W0,W3,W4,W5,W6,W7,W8,W9,Ya,Yb,Yc,Yf,Yg,Yh,Yi,Yj,Yk,Yl,Ym,Yn,Yo,Yp,Yq,Yr,Ys,Yt,Yu,Yv,Yw,Yx,Yy,Yz,Y0,Y1,Y2,Y3,Y4,Y5,Y6,Y7,Y8,Y9,Va,Vb,Vc,Vd,Ve,Vf,Vg,Vh,Vi,Vj,Vk,Vl,Vm,Vn,Vo,Vp,Vq,Vr,Vs,Vt,Vu,Vv,Vw,Vx,Vy,Vz,V0,V1,V2,V3,V4,V5,V6,V7,V8,V9,Ua,Ub,Uc,Ud,Ue,Uf,Ug,Uh,Ui,Uo,Up,Us,Ut,Uu,Uv,Uw,Ux,Uy,Uz,U0,U1,U2,U3,U4,U5,U6,U7,U8,U9,Ka,Kb,Kc,Kd,Ke,Kf,Kg,Kh,Ki,Kj,Kk,Kl,Km,Kn,Ko,Kq,Kr,Ks,Kt,Ku,K1,K2,K3,K4,K5,K6,K7,Ga,Gx,Hd,Hb,Gq,Nx,Gy,Gp]
         tactic =>
          try simp only [Gl] at *
          try simp only [nc2] at *
          try simp (maxSteps := 4000000) only [hlb,q1,Gg,szM,G4]
          repeat' (first | with_reducible assumption | with_reducible refine And.intro ?_ ?_ | intro _ | omega | (rw [Gb]; omega))
          refine Ha [6, 32, 33, 34, 35, 36, 37, 38, 39, 40, 41, 42, 43, 44, 45, 46, 47, 48, 49, 50, 51, 52, 53, 54, 55, 56, 57, 58, 59, 60, 61, 62, 63] (fun j : Nat => [(3, .d (.bool (Ev l k false (x.imps.take j)))), (5, .d (.int .i64 j))]) (fun j : Nat => []) (fun j : Nat => j ≤ x.imps.length) (fun j : Nat => x.imps.length - j) 0 ?_ ?_ ?_
          · omega
          · ((try simp only [Gd, Gj, Gi, Gs, upd, Gt, G5, Hn, Nat.reduceDiv, Nat.reduceMod, Nat.reduceMul, Nat.reduceAdd, Nat.reduceEqDiff, List.set_cons_zero, List.set_cons_succ, if_true, if_false, reduceIte]); (first | refine Wk.of_fl ?_ | skip); simp only [Wk, wkK, Ht, wkT, wk1, AV.kept, keptAll, wkO, lk, Ge, and_true, true_and, and_self, Nat.reduceEqDiff, Nat.reduceLeDiff, if_true, if_false, reduceIte, reduceCtorEq, Option.isSome, false_implies]; try simp [Wk, wkK, wkT, wk1, AV.kept, keptAll, wkO, lk, Ge, Ev])
          rintro j hj
          rcases Hg j x.imps.length with ⟨hjl, hjb⟩ | ⟨hjl, hjb⟩
          · have hsn := fineL_snoc (l := l) (i := k) (f := false) hjl
            have q2 := Hp ([] : List UInt8) hjl
            obtain ⟨y, hy⟩ : ∃ y, x.imps.getD j [] = y := ⟨_, rfl⟩
            rw [hy] at q2 hsn
            have hg : Ev l k false (x.imps.take j) = false := by
              rw [← Bool.not_eq_true, fineL_iff]
              simp
            rw [hg] at hsn
            have hsn2 : Ev l k false (x.imps.take (j + 1)) = false := hsn
            rw [hg]
            (sym =>
             simp [hlb,hjb,q1,q2,Gg,szM,Nf,Nh,Ng,Ni,Nd,Nc,Gn.eq_def,con_GraphCycles.eq_def,G6.eq_def,Gv.eq_def,Gk.eq_def,Gm.eq_def,Gu.eq_def,Za,Zb,Zc,Zd,Ze,Zf,Zg,Zn,Zo,Zp,Zq,Zr,Zs,Zt,Zv,Zx,Zy,Z5,Z6,Z7,Z8,Z9,Qa,Qb,Qc,Qd,Qe,Qf,Qj,Qk,Ql,Qm,Qn,Qo,Qq,Qw,Qx,Qz,Q3,Q4,Q5,Ja,Jc,Jd,Je,Jf,Jg,Jn,Jr,Js,Jt,Ju,Jv,Jw,Jz,J0,J1,J2,J3,J4,J5,J6,J7,J8,J9,Xa,Xd,Xe,Xf,Xg,Xh,Xi,Xj,Xk,Xl,Xm,Xn,Xo,Xp,Xq,Xr,Xs,Xu,Xv,Xw,Xx,Xy,Xz,X0,X1,X2,X3,X4,X5,X6,X7,X8,X9,Wa,Wb,Wc,Wf,Wg,Wh,Wi,Wj,Wl,Wm,Wn,Wo,Wp,Wq,Wr,Ws,Wt,Wu,Wv,Ww,Wx,Wy,Wz,W0,W3,W4,W5,W6,W7,W8,W9,Ya,Yb,Yc,Yf,Yg,Yh,Yi,Yj,Yk,Yl,Ym,Yn,Yo,Yp,Yq,Yr,Ys,Yt,Yu,Yv,Yw,Yx,Yy,Yz,Y0,Y1,Y2,Y3,Y4,Y5,Y6,Y7,Y8,Y9,Va,Vb,Vc,Vd,Ve,Vf,Vg,Vh,Vi,Vj,Vk,Vl,Vm,Vn,Vo,Vp,Vq,Vr,Vs,Vt,Vu,Vv,Vw,Vx,Vy,Vz,V0,V1,V2,V3,V4,V5,V6,V7,V8,V9,Ua,Ub,Uc,Ud,Ue,Uf,Ug,Uh,Ui,Uo,Up,Us,Ut,Uu,Uv,Uw,Ux,Uy,Uz,U0,U1,U2,U3,U4,U5,U6,U7,U8,U9,Ka,Kb,Kc,Kd,Ke,Kf,Kg,Kh,Ki,Kj,Kk,Kl,Km,Kn,Ko,Kq,Kr,Ks,Kt,Ku,K1,K2,K3,K4,K5,K6,K7,Ga,Gx,Hd,Hb,Gq,Nx,Gy,Gp]
             tactic =>
              try simp only [Gl] at *
              try simp only [nc2] at *
              try simp (maxSteps := 4000000) only [hlb,hjb,q1,q2,Gg,szM,G4]
              repeat' (first | with_reducible assumption | with_reducible refine And.intro ?_ ?_ | intro _ | omega | (rw [Gb]; omega))
              all_goals first
                | (with_reducible refine G7 ?_; kernel_rfl)
                | omega
                | exact ⟨j + 1, by rw [hsn2]; ((try simp only [Gd, Gj, Gi, Gs, upd, Gt, G5, Hn, Nat.reduceDiv, Nat.reduceMod, Nat.reduceMul, Nat.reduceAdd, Nat.reduceEqDiff, List.set_cons_zero, List.set_cons_succ, if_true, if_false, reduceIte]); (first | refine Wk.of_fl ?_ | skip); simp only [Wk, wkK, Ht, wkT, wk1, AV.kept, keptAll, wkO, lk, Ge, and_true, true_and, and_self, Nat.reduceEqDiff, Nat.reduceLeDiff, if_true, if_false, reduceIte, reduceCtorEq, Option.isSome, false_implies]; try simp [Wk, wkK, wkT, wk1, AV.kept, keptAll, wkO, lk, Ge]), by omega, by omega⟩
                | skip)
          · have hje : j = x.imps.length := by omega
            rw [hje, List.take_length, ← hS]
            rw [hje] at hjb
            (sym =>
             simp [hlb,hjb,q1,Gg,szM,Nf,Nh,Ng,Ni,Nd,Nc,Gn.eq_def,con_GraphCycles.eq_def,G6.eq_def,Gv.eq_def,Gk.eq_def,Gm.eq_def,Gu.eq_def,Za,Zb,Zc,Zd,Ze,Zf,Zg,Zn,Zo,Zp,Zq,Zr,Zs,Zt,Zv,Zx,Zy,Z5,Z6,Z7,Z8,Z9,Qa,Qb,Qc,Qd,Qe,Qf,Qj,Qk,Ql,Qm,Qn,Qo,Qq,Qw,Qx,Qz,Q3,Q4,Q5,Ja,Jc,Jd,Je,Jf,Jg,Jn,Jr,Js,Jt,Ju,Jv,Jw,Jz,J0,J1,J2,J3,J4,J5,J6,J7,J8,J9,Xa,Xd,Xe,Xf,Xg,Xh,Xi,Xj,Xk,Xl,Xm,Xn,Xo,Xp,Xq,Xr,Xs,Xu,Xv,Xw,Xx,Xy,Xz,X0,X1,X2,X3,X4,X5,X6,X7,X8,X9,Wa,Wb,Wc,Wf,Wg,Wh,Wi,Wj,Wl,Wm,Wn,Wo,Wp,Wq,Wr,Ws,Wt,Wu,Wv,Ww,Wx,Wy,Wz,W0,W3,W4,W5,W6,W7,W8,W9,Ya,Yb,Yc,Yf,Yg,Yh,Yi,Yj,Yk,Yl,Ym,Yn,Yo,Yp,Yq,Yr,Ys,Yt,Yu,Yv,Yw,Yx,Yy,Yz,Y0,Y1,Y2,Y3,Y4,Y5,Y6,Y7,Y8,Y9,Va,Vb,Vc,Vd,Ve,Vf,Vg,Vh,Vi,Vj,Vk,Vl,Vm,Vn,Vo,Vp,Vq,Vr,Vs,Vt,Vu,Vv,Vw,Vx,Vy,Vz,V0,V1,V2,V3,V4,V5,V6,V7,V8,V9,Ua,Ub,Uc,Ud,Ue,Uf,Ug,Uh,Ui,Uo,Up,Us,Ut,Uu,Uv,Uw,Ux,Uy,Uz,U0,U1,U2,U3,U4,U5,U6,U7,U8,U9,Ka,Kb,Kc,Kd,Ke,Kf,Kg,Kh,Ki,Kj,Kk,Kl,Km,Kn,Ko,Kq,Kr,Ks,Kt,Ku,K1,K2,K3,K4,K5,K6,K7,Ga,Gx,Hd,Hb,Gq,Nx,Gy,Gp]
             tactic =>
              try simp only [Gl] at *
              try simp only [nc2] at *
              try simp (maxSteps := 4000000) only [hlb,hjb,q1,Gg,szM,G4]
              repeat' (first | with_reducible assumption | with_reducible refine And.intro ?_ ?_ | intro _ | omega | (rw [Gb]; omega))
              all_goals first
                | (with_reducible refine G7 ?_; kernel_rfl)
                | omega
                | exact ⟨k + 1, by ((try simp only [Gd, Gj, Gi, Gs, upd, Gt, G5, Hn, Nat.reduceDiv, Nat.reduceMod, Nat.reduceMul, Nat.reduceAdd, Nat.reduceEqDiff, List.set_cons_zero, List.set_cons_succ, if_true, if_false, reduceIte]); (first | refine Wk.of_fl ?_ | skip); simp only [Wk, wkK, Ht, wkT, wk1, AV.kept, keptAll, wkO, lk, Ge, and_true, true_and, and_self, Nat.reduceEqDiff, Nat.reduceLeDiff, if_true, if_false, reduceIte, reduceCtorEq, Option.isSome, false_implies]; try simp [Wk, wkK, wkT, wk1, AV.kept, keptAll, wkO, lk, Ge]), by omega, by omega⟩
                | skip))
      | true =>
        rw [Bool.true_and] at hS
        (sym =>
         simp [hlb,q1,hz,Gg,szM,Nf,Nh,Ng,Ni,Nd,Nc,Gn.eq_def,con_GraphCycles.eq_def,G6.eq_def,Gv.eq_def,Gk.eq_def,Gm.eq_def,Gu.eq_def,Za,Zb,Zc,Zd,Ze,Zf,Zg,Zn,Zo,Zp,Zq,Zr,Zs,Zt,Zv,Zx,Zy,Z5,Z6,Z7,Z8,Z9,Qa,Qb,Qc,Qd,Qe,Qf,Qj,Qk,Ql,Qm,Qn,Qo,Qq,Qw,Qx,Qz,Q3,Q4,Q5,Ja,Jc,Jd,Je,Jf,Jg,Jn,Jr,Js,Jt,Ju,Jv,Jw,Jz,J0,J1,J2,J3,J4,J5,J6,J7,J8,J9,Xa,Xd,Xe,Xf,Xg,Xh,Xi,Xj,Xk,Xl,Xm,Xn,Xo,Xp,Xq,Xr,Xs,Xu,Xv,Xw,Xx,Xy,Xz,X0,X1,X2,X3,X4,X5,X6,X7,X8,X9,Wa,Wb,Wc,Wf,Wg,Wh,Wi,Wj,Wl,Wm,Wn,Wo,Wp,Wq,Wr,Ws,Wt,Wu,Wv,Ww,Wx,Wy,Wz,W0,W3,W4,W5,W6,W7,W8,W9,Ya,Yb,Yc,Yf,Yg,Yh,Yi,Yj,Yk,Yl,Ym,Yn,Yo,Yp,Yq,Yr,Ys,Yt,Yu,Yv,Yw,Yx,Yy,Yz,Y0,Y1,Y2,Y3,Y4,Y5,Y6,Y7,Y8,Y9,Va,Vb,Vc,Vd,Ve,Vf,Vg,Vh,Vi,Vj,Vk,Vl,Vm,Vn,Vo,Vp,Vq,Vr,Vs,Vt,Vu,Vv,Vw,Vx,Vy,Vz,V0,V1,V2,V3,V4,V5,V6,V7,V8,V9,Ua,Ub,Uc,Ud,Ue,Uf,Ug,Uh,Ui,Uo,Up,Us,Ut,Uu,Uv,Uw,Ux,Uy,Uz,U0,U1,U2,U3,U4,U5,U6,U7,U8,U9,Ka,Kb,Kc,Kd,Ke,Kf,Kg,Kh,Ki,Kj,Kk,Kl,Km,Kn,Ko,Kq,Kr,Ks,Kt,Ku,K1,K2,K3,K4,K5,K6,K7,Ga,Gx,Hd,Hb,Gq,Nx,Gy,Gp]
         tactic =>
          try simp only [Gl] at *
          try simp only [nc2] at *
          try simp (maxSteps := 4000000) only [hlb,q1,hz,Gg,szM,G4]
          repeat' (first | with_reducible assumption | with_reducible refine And.intro ?_ ?_ | intro _ | omega | (rw [Gb]; omega))
          refine Ha [6, 32, 33, 34, 35, 36, 37, 38, 39, 40, 41, 42, 43, 44, 45, 46, 47, 48, 49, 50, 51, 52, 53, 54, 55, 56, 57, 58, 59, 60, 61, 62, 63] (fun j : Nat => [(3, .d (.bool (Ev l k z (x.imps.take j)))), (5, .d (.int .i64 j))]) (fun j : Nat => []) (fun j : Nat => j ≤ x.imps.length) (fun j : Nat => x.imps.length - j) 0 ?_ ?_ ?_
          · omega
          · ((try simp only [Gd, Gj, Gi, Gs, upd, Gt, G5, Hn, Nat.reduceDiv, Nat.reduceMod, Nat.reduceMul, Nat.reduceAdd, Nat.reduceEqDiff, List.set_cons_zero, List.set_cons_succ, if_true, if_false, reduceIte]); (first | refine Wk.of_fl ?_ | skip); simp only [Wk, wkK, Ht, wkT, wk1, AV.kept, keptAll, wkO, lk, Ge, and_true, true_and, and_self, Nat.reduceEqDiff, Nat.reduceLeDiff, if_true, if_false, reduceIte, reduceCtorEq, Option.isSome, false_implies]; try simp [Wk, wkK, wkT, wk1, AV.kept, keptAll, wkO, lk, Ge, Ev])
          rintro j hj
          rcases Hg j x.imps.length with ⟨hjl, hjb⟩ | ⟨hjl, hjb⟩
          · have hsn := fineL_snoc (l := l) (i := k) (f := z) hjl
            have q2 := Hp ([] : List UInt8) hjl
            obtain ⟨y, hy⟩ : ∃ y, x.imps.getD j [] = y := ⟨_, rfl⟩
            rw [hy] at q2 hsn
            obtain ⟨g, hg⟩ : ∃ g, Ev l k z (x.imps.take j) = g := ⟨_, rfl⟩
            rw [hg] at hsn
            rw [hg]
            unfold fineS at hsn
            obtain ⟨n, hn⟩ : ∃ n, Hm l y = n := ⟨_, rfl⟩
            rw [hn] at hsn
            cases g with
            | false =>
              rw [Bool.false_and, cond_false] at hsn
              (sym =>
               simp [hlb,hjb,q1,q2,hn,Gg,szM,Nf,Nh,Ng,Ni,Nd,Nc,Gn.eq_def,con_GraphCycles.eq_def,G6.eq_def,Gv.eq_def,Gk.eq_def,Gm.eq_def,Gu.eq_def,Za,Zb,Zc,Zd,Ze,Zf,Zg,Zn,Zo,Zp,Zq,Zr,Zs,Zt,Zv,Zx,Zy,Z5,Z6,Z7,Z8,Z9,Qa,Qb,Qc,Qd,Qe,Qf,Qj,Qk,Ql,Qm,Qn,Qo,Qq,Qw,Qx,Qz,Q3,Q4,Q5,Ja,Jc,Jd,Je,Jf,Jg,Jn,Jr,Js,Jt,Ju,Jv,Jw,Jz,J0,J1,J2,J3,J4,J5,J6,J7,J8,J9,Xa,Xd,Xe,Xf,Xg,Xh,Xi,Xj,Xk,Xl,Xm,Xn,Xo,Xp,Xq,Xr,Xs,Xu,Xv,Xw,Xx,Xy,Xz,X0,X1,X2,X3,X4,X5,X6,X7,X8,X9,Wa,Wb,Wc,Wf,Wg,Wh,Wi,Wj,Wl,Wm,Wn,Wo,Wp,Wq,Wr,Ws,Wt,Wu,Wv,Ww,Wx,Wy,Wz,W0,W3,W4,W5,W6,W7,W8,W9,Ya,Yb,Yc,Yf,Yg,Yh,Yi,Yj,Yk,Yl,Ym,Yn,Yo,Yp,Yq,Yr,Ys,Yt,Yu,Yv,Yw,Yx,Yy,Yz,Y0,Y1,Y2,Y3,Y4,Y5,Y6,Y7,Y8,Y9,Va,Vb,Vc,Vd,Ve,Vf,Vg,Vh,Vi,Vj,Vk,Vl,Vm,Vn,Vo,Vp,Vq,Vr,Vs,Vt,Vu,Vv,Vw,Vx,Vy,Vz,V0,V1,V2,V3,V4,V5,V6,V7,V8,V9,Ua,Ub,Uc,Ud,Ue,Uf,Ug,Uh,Ui,Uo,Up,Us,Ut,Uu,Uv,Uw,Ux,Uy,Uz,U0,U1,U2,U3,U4,U5,U6,U7,U8,U9,Ka,Kb,Kc,Kd,Ke,Kf,Kg,Kh,Ki,Kj,Kk,Kl,Km,Kn,Ko,Kq,Kr,Ks,Kt,Ku,K1,K2,K3,K4,K5,K6,K7,Ga,Gx,Hd,Hb,Gq,Nx,Gy,Gp]
               tactic =>
                try simp only [Gl] at *
                try simp only [nc2] at *
                try simp (maxSteps := 4000000) only [hlb,hjb,q1,q2,hn,Gg,szM,G4]
                repeat' (first | with_reducible assumption | with_reducible refine And.intro ?_ ?_ | intro _ | omega | (rw [Gb]; omega))
                all_goals first
                  | (with_reducible refine G7 ?_; kernel_rfl)
                  | omega
                  | exact ⟨j + 1, by rw [hsn]; ((try simp only [Gd, Gj, Gi, Gs, upd, Gt, G5, Hn, Nat.reduceDiv, Nat.reduceMod, Nat.reduceMul, Nat.reduceAdd, Nat.reduceEqDiff, List.set_cons_zero, List.set_cons_succ, if_true, if_false, reduceIte]); (first | refine Wk.of_fl ?_ | skip); simp only [Wk, wkK, Ht, wkT, wk1, AV.kept, keptAll, wkO, lk, Ge, and_true, true_and, and_self, Nat.reduceEqDiff, Nat.reduceLeDiff, if_true, if_false, reduceIte, reduceCtorEq, Option.isSome, false_implies]; try simp [Wk, wkK, wkT, wk1, AV.kept, keptAll, wkO, lk, Ge]), by omega, by omega⟩
                  | skip)
            | true =>
              rw [Bool.true_and] at hsn
              cases hb : leB 0 n with
              | false =>
                rw [hb, cond_false] at hsn
                (sym =>
                 simp [hlb,hjb,q1,q2,hn,hb,Gg,szM,Nf,Nh,Ng,Ni,Nd,Nc,Gn.eq_def,con_GraphCycles.eq_def,G6.eq_def,Gv.eq_def,Gk.eq_def,Gm.eq_def,Gu.eq_def,Za,Zb,Zc,Zd,Ze,Zf,Zg,Zn,Zo,Zp,Zq,Zr,Zs,Zt,Zv,Zx,Zy,Z5,Z6,Z7,Z8,Z9,Qa,Qb,Qc,Qd,Qe,Qf,Qj,Qk,Ql,Qm,Qn,Qo,Qq,Qw,Qx,Qz,Q3,Q4,Q5,Ja,Jc,Jd,Je,Jf,Jg,Jn,Jr,Js,Jt,Ju,Jv,Jw,Jz,J0,J1,J2,J3,J4,J5,J6,J7,J8,J9,Xa,Xd,Xe,Xf,Xg,Xh,Xi,Xj,Xk,Xl,Xm,Xn,Xo,Xp,Xq,Xr,Xs,Xu,Xv,Xw,Xx,Xy,Xz,X0,X1,X2,X3,X4,X5,X6,X7,X8,X9,Wa,Wb,Wc,Wf,Wg,Wh,Wi,Wj,Wl,Wm,Wn,Wo,Wp,Wq,Wr,Ws,Wt,Wu,Wv,Ww,Wx,Wy,Wz,W0,W3,W4,W5,W6,W7,W8,W9,Ya,Yb,Yc,Yf,Yg,Yh,Yi,Yj,Yk,Yl,Ym,Yn,Yo,Yp,Yq,Yr,Ys,Yt,Yu,Yv,Yw,Yx,Yy,Yz,Y0,Y1,Y2,Y3,Y4,Y5,Y6,Y7,Y8,Y9,Va,Vb,Vc,Vd,Ve,Vf,Vg,Vh,Vi,Vj,Vk,Vl,Vm,Vn,Vo,Vp,Vq,Vr,Vs,Vt,Vu,Vv,Vw,Vx,Vy,Vz,V0,V1,V2,V3,V4,V5,V6,V7,V8,V9,Ua,Ub,Uc,Ud,Ue,Uf,Ug,Uh,Ui,Uo,Up,Us,Ut,Uu,Uv,Uw,Ux,Uy,Uz,U0,U1,U2,U3,U4,U5,U6,U7,U8,U9,Ka,Kb,Kc,Kd,Ke,Kf,Kg,Kh,Ki,Kj,Kk,Kl,Km,Kn,Ko,Kq,Kr,Ks,Kt,Ku,K1,K2,K3,K4,K5,K6,K7,Ga,Gx,Hd,Hb,Gq,Nx,Gy,Gp]
                 tactic =>
                  try simp only [Gl] at *
                  try simp only [nc2] at *
                  try simp (maxSteps := 4000000) only [hlb,hjb,q1,q2,hn,hb,Gg,szM,G4]
                  repeat' (first | with_reducible assumption | with_reducible refine And.intro ?_ ?_ | intro _ | omega | (rw [Gb]; omega))
                  all_goals first
                    | (with_reducible refine G7 ?_; kernel_rfl)
                    | omega
                    | exact ⟨j + 1, by rw [hsn]; ((try simp only [Gd, Gj, Gi, Gs, upd, Gt, G5, Hn, Nat.reduceDiv, Nat.reduceMod, Nat.reduceMul, Nat.reduceAdd, Nat.reduceEqDiff, List.set_cons_zero, List.set_cons_succ, if_true, if_false, reduceIte]); (first | refine Wk.of_fl ?_ | skip); simp only [Wk, wkK, Ht, wkT, wk1, AV.kept, keptAll, wkO, lk, Ge, and_true, true_and, and_self, Nat.reduceEqDiff, Nat.reduceLeDiff, if_true, if_false, reduceIte, reduceCtorEq, Option.isSome, false_implies]; try simp [Wk, wkK, wkT, wk1, AV.kept, keptAll, wkO, lk, Ge]), by omega, by omega⟩
                    | skip)
              | true =>
                rw [hb, cond_true] at hsn
                have hnl := R5 hf n
                obtain ⟨N, hN⟩ : ∃ N, Bw l n = N := ⟨_, rfl⟩
                rw [hN] at hsn hnl
                (sym =>
                 simp [hlb,hjb,q1,q2,hn,hb,hN,Gg,szM,Nf,Nh,Ng,Ni,Nd,Nc,Gn.eq_def,con_GraphCycles.eq_def,G6.eq_def,Gv.eq_def,Gk.eq_def,Gm.eq_def,Gu.eq_def,Za,Zb,Zc,Zd,Ze,Zf,Zg,Zn,Zo,Zp,Zq,Zr,Zs,Zt,Zv,Zx,Zy,Z5,Z6,Z7,Z8,Z9,Qa,Qb,Qc,Qd,Qe,Qf,Qj,Qk,Ql,Qm,Qn,Qo,Qq,Qw,Qx,Qz,Q3,Q4,Q5,Ja,Jc,Jd,Je,Jf,Jg,Jn,Jr,Js,Jt,Ju,Jv,Jw,Jz,J0,J1,J2,J3,J4,J5,J6,J7,J8,J9,Xa,Xd,Xe,Xf,Xg,Xh,Xi,Xj,Xk,Xl,Xm,Xn,Xo,Xp,Xq,Xr,Xs,Xu,Xv,Xw,Xx,Xy,Xz,X0,X1,X2,X3,X4,X5,X6,X7,X8,X9,Wa,Wb,Wc,Wf,Wg,Wh,Wi,Wj,Wl,Wm,Wn,Wo,Wp,Wq,Wr,Ws,Wt,Wu,Wv,Ww,Wx,Wy,Wz,W0,W3,W4,W5,W6,W7,W8,W9,Ya,Yb,Yc,Yf,Yg,Yh,Yi,Yj,Yk,Yl,Ym,Yn,Yo,Yp,Yq,Yr,Ys,Yt,Yu,Yv,Yw,Yx,Yy,Yz,Y0,Y1,Y2,Y3,Y4,Y5,Y6,Y7,Y8,Y9,Va,Vb,Vc,Vd,Ve,Vf,Vg,Vh,Vi,Vj,Vk,Vl,Vm,Vn,Vo,Vp,Vq,Vr,Vs,Vt,Vu,Vv,Vw,Vx,Vy,Vz,V0,V1,V2,V3,V4,V5,V6,V7,V8,V9,Ua,Ub,Uc,Ud,Ue,Uf,Ug,Uh,Ui,Uo,Up,Us,Ut,Uu,Uv,Uw,Ux,Uy,Uz,U0,U1,U2,U3,U4,U5,U6,U7,U8,U9,Ka,Kb,Kc,Kd,Ke,Kf,Kg,Kh,Ki,Kj,Kk,Kl,Km,Kn,Ko,Kq,Kr,Ks,Kt,Ku,K1,K2,K3,K4,K5,K6,K7,Ga,Gx,Hd,Hb,Gq,Nx,Gy,Gp]
                 tactic =>
                  try simp only [Gl] at *
                  try simp only [nc2] at *
                  try simp (maxSteps := 4000000) only [hlb,hjb,q1,q2,hn,hb,hN,Gg,szM,G4]
                  repeat' (first | with_reducible assumption | with_reducible refine And.intro ?_ ?_ | intro _ | omega | (rw [Gb]; omega))
                  all_goals first
                    | (with_reducible refine G7 ?_; kernel_rfl)
                    | omega
                    | exact ⟨j + 1, by rw [hsn]; ((try simp only [Gd, Gj, Gi, Gs, upd, Gt, G5, Hn, Nat.reduceDiv, Nat.reduceMod, Nat.reduceMul, Nat.reduceAdd, Nat.reduceEqDiff, List.set_cons_zero, List.set_cons_succ, if_true, if_false, reduceIte]); (first | refine Wk.of_fl ?_ | skip); simp only [Wk, wkK, Ht, wkT, wk1, AV.kept, keptAll, wkO, lk, Ge, and_true, true_and, and_self, Nat.reduceEqDiff, Nat.reduceLeDiff, if_true, if_false, reduceIte, reduceCtorEq, Option.isSome, false_implies]; try simp [Wk, wkK, wkT, wk1, AV.kept, keptAll, wkO, lk, Ge]), by omega, by omega⟩
                    | skip)
          · have hje : j = x.imps.length := by omega
            rw [hje, List.take_length, ← hS]
            rw [hje] at hjb
            (sym =>
             simp [hlb,hjb,q1,Gg,szM,Nf,Nh,Ng,Ni,Nd,Nc,Gn.eq_def,con_GraphCycles.eq_def,G6.eq_def,Gv.eq_def,Gk.eq_def,Gm.eq_def,Gu.eq_def,Za,Zb,Zc,Zd,Ze,Zf,Zg,Zn,Zo,Zp,Zq,Zr,Zs,Zt,Zv,Zx,Zy,Z5,Z6,Z7,Z8,Z9,Qa,Qb,Qc,Qd,Qe,Qf,Qj,Qk,Ql,Qm,Qn,Qo,Qq,Qw,Qx,Qz,Q3,Q4,Q5,Ja,Jc,Jd,Je,Jf,Jg,Jn,Jr,Js,Jt,Ju,Jv,Jw,Jz,J0,J1,J2,J3,J4,J5,J6,J7,J8,J9,Xa,Xd,Xe,Xf,Xg,Xh,Xi,Xj,Xk,Xl,Xm,Xn,Xo,Xp,Xq,Xr,Xs,Xu,Xv,Xw,Xx,Xy,Xz,X0,X1,X2,X3,X4,X5,X6,X7,X8,X9,Wa,Wb,Wc,Wf,Wg,Wh,Wi,Wj,Wl,Wm,Wn,Wo,Wp,Wq,Wr,Ws,Wt,Wu,Wv,Ww,Wx,Wy,Wz,W0,W3,W4,W5,W6,W7,W8,W9,Ya,Yb,Yc,Yf,Yg,Yh,Yi,Yj,Yk,Yl,Ym,Yn,Yo,Yp,Yq,Yr,Ys,Yt,Yu,Yv,Yw,Yx,Yy,Yz,Y0,Y1,Y2,Y3,Y4,Y5,Y6,Y7,Y8,Y9,Va,Vb,Vc,Vd,Ve,Vf,Vg,Vh,Vi,Vj,Vk,Vl,Vm,Vn,Vo,Vp,Vq,Vr,Vs,Vt,Vu,Vv,Vw,Vx,Vy,Vz,V0,V1,V2,V3,V4,V5,V6,V7,V8,V9,Ua,Ub,Uc,Ud,Ue,Uf,Ug,Uh,Ui,Uo,Up,Us,Ut,Uu,Uv,Uw,Ux,Uy,Uz,U0,U1,U2,U3,U4,U5,U6,U7,U8,U9,Ka,Kb,Kc,Kd,Ke,Kf,Kg,Kh,Ki,Kj,Kk,Kl,Km,Kn,Ko,Kq,Kr,Ks,Kt,Ku,K1,K2,K3,K4,K5,K6,K7,Ga,Gx,Hd,Hb,Gq,Nx,Gy,Gp]
             tactic =>
              try simp only [Gl] at *
              try simp only [nc2] at *
              try simp (maxSteps := 4000000) only [hlb,hjb,q1,Gg,szM,G4]
              repeat' (first | with_reducible assumption | with_reducible refine And.intro ?_ ?_ | intro _ | omega | (rw [Gb]; omega))
              all_goals first
                | (with_reducible refine G7 ?_; kernel_rfl)
                | omega
                | exact ⟨k + 1, by ((try simp only [Gd, Gj, Gi, Gs, upd, Gt, G5, Hn, Nat.reduceDiv, Nat.reduceMod, Nat.reduceMul, Nat.reduceAdd, Nat.reduceEqDiff, List.set_cons_zero, List.set_cons_succ, if_true, if_false, reduceIte]); (first | refine Wk.of_fl ?_ | skip); simp only [Wk, wkK, Ht, wkT, wk1, AV.kept, keptAll, wkO, lk, Ge, and_true, true_and, and_self, Nat.reduceEqDiff, Nat.reduceLeDiff, if_true, if_false, reduceIte, reduceCtorEq, Option.isSome, false_implies]; try simp [Wk, wkK, wkT, wk1, AV.kept, keptAll, wkO, lk, Ge]), by omega, by omega⟩
                | skip))
    · have hke : k = l.length := by omega
      rw [hke]
      rw [hke] at hlb
      obtain ⟨f, hff⟩ : ∃ f, Ip l l.length = f := ⟨_, rfl⟩
      rw [hff] at he
      rw [hff]
      have hbb : (f == (e == 0)) = true := by rw [he]; exact beq_self_eq_true _
      (sym =>
       simp [hlb,hX,hbb,M3.eq_def,szM,Nf,Nh,Ng,Ni,Nd,Nc,Gn.eq_def,con_GraphCycles.eq_def,G6.eq_def,Gv.eq_def,Gk.eq_def,Gm.eq_def,Gu.eq_def,Za,Zb,Zc,Zd,Ze,Zf,Zg,Zn,Zo,Zp,Zq,Zr,Zs,Zt,Zv,Zx,Zy,Z5,Z6,Z7,Z8,Z9,Qa,Qb,Qc,Qd,Qe,Qf,Qj,Qk,Ql,Qm,Qn,Qo,Qq,Qw,Qx,Qz,Q3,Q4,Q5,Ja,Jc,Jd,Je,Jf,Jg,Jn,Jr,Js,Jt,Ju,Jv,Jw,Jz,J0,J1,J2,J3,J4,J5,J6,J7,J8,J9,Xa,Xd,Xe,Xf,Xg,Xh,Xi,Xj,Xk,Xl,Xm,Xn,Xo,Xp,Xq,Xr,Xs,Xu,Xv,Xw,Xx,Xy,Xz,X0,X1,X2,X3,X4,X5,X6,X7,X8,X9,Wa,Wb,Wc,Wf,Wg,Wh,Wi,Wj,Wl,Wm,Wn,Wo,Wp,Wq,Wr,Ws,Wt,Wu,Wv,Ww,Wx,Wy,Wz,W0,W3,W4,W5,W6,W7,W8,W9,Ya,Yb,Yc,Yf,Yg,Yh,Yi,Yj,Yk,Yl,Ym,Yn,Yo,Yp,Yq,Yr,Ys,Yt,Yu,Yv,Yw,Yx,Yy,Yz,Y0,Y1,Y2,Y3,Y4,Y5,Y6,Y7,Y8,Y9,Va,Vb,Vc,Vd,Ve,Vf,Vg,Vh,Vi,Vj,Vk,Vl,Vm,Vn,Vo,Vp,Vq,Vr,Vs,Vt,Vu,Vv,Vw,Vx,Vy,Vz,V0,V1,V2,V3,V4,V5,V6,V7,V8,V9,Ua,Ub,Uc,Ud,Ue,Uf,Ug,Uh,Ui,Uo,Up,Us,Ut,Uu,Uv,Uw,Ux,Uy,Uz,U0,U1,U2,U3,U4,U5,U6,U7,U8,U9,Ka,Kb,Kc,Kd,Ke,Kf,Kg,Kh,Ki,Kj,Kk,Kl,Km,Kn,Ko,Kq,Kr,Ks,Kt,Ku,K1,K2,K3,K4,K5,K6,K7,Ga,Gx,Hd,Hb,Gq,Nx,Gy,Gp]
       tactic =>
        try simp only [Gl] at *
        try simp only [nc2] at *
        try simp (maxSteps := 4000000) only [hlb,hX,hbb,M3.eq_def,szM,G4]
        repeat' (first | with_reducible assumption | with_reducible refine And.intro ?_ ?_ | intro _ | omega | (rw [Gb]; omega))
        all_goals first
          | (with_reducible refine G7 ?_; kernel_rfl)
          | omega
          | trivial
          | rfl
          | skip))
def con_GraphReached : Con := con2 (fun (l : Sl Mod) (_ : Int) => Lo l.l.length) (fun _ _ => true)
noncomputable def M7 : Ctx := ⟨tab, lkC [(10, Gn), (11, Gm), (14, G3), (15, Gu), (16, Gv)], 60, lkB [], [], false⟩
theorem Hw : M7.τ = tab := rfl
theorem Hy : M7.Γ = lkC [(10, Gn), (11, Gm), (14, G3), (15, Gu), (16, Gv)] := rfl
theorem Hx : M7.dp = 60 := rfl
theorem Hz : M7.Δ = lkB [] := rfl
theorem Hv : M7.cuts = [] := rfl
theorem Hu : M7.wr = false := rfl
set_option maxRecDepth 100000 in
theorem good_GraphReached : Ck Try.prog (9, con_GraphReached) := by
  refine ⟨Hh Try.func9 (by kernel_rfl) rfl, ?_⟩
  have K : Mj Try.prog M7 := Nj P8 Ny (by
    intro p hp
    simp only [List.mem_cons, List.not_mem_nil, or_false] at hp
    rcases hp with rfl | rfl | rfl | rfl | rfl
    · exact Cr
    · exact Th
    · exact Fh
    · exact Af
    · exact Fg) (by simp)
  obtain ⟨c, hc⟩ : ∃ c, Try.f9.body = some c := ⟨_, rfl⟩
  refine Mi K Try.func9 hc [.tmp 4] rfl 108 rfl (fun cvs hpre => ?_)
  change con_GraphReached.pre cvs at hpre
  unfold con_GraphReached at hpre
  obtain ⟨⟨l⟩, i, rfl, hl⟩ := Lw hpre
  simp only at hl
  clear hpre
  cases hf : Ph l with
  | false =>
    simp only [Try.f9, Option.some.injEq] at hc
    subst hc
    refine Nu 6 (of_decide_eq_true (by kernel_rfl)) ?_
    (sym =>
     simp [hf,Hw,Hy,Hx,Hz,Hv,Hu,Gn.eq_def,con_GraphReached.eq_def,G3.eq_def,Gv.eq_def,Gm.eq_def,Gu.eq_def,Za,Zb,Zc,Zd,Ze,Zf,Zg,Zn,Zo,Zp,Zq,Zr,Zs,Zt,Zv,Zw,Zx,Zy,Z0,Z2,Z3,Z4,Z5,Z7,Z8,Z9,Qa,Qb,Qc,Qd,Qe,Qf,Qi,Qj,Qk,Ql,Qm,Qn,Qo,Qq,Qw,Qx,Qz,Q3,Q4,Q5,Q6,Q7,Q8,Q9,Ja,Jb,Jc,Jd,Je,Jf,Jg,Jn,Jr,Js,Jt,Ju,Jv,Jw,Jz,J0,J1,J2,J3,J4,J5,J6,J7,J8,J9,Xa,Xb,Xc,Xd,Xe,Xf,Xg,Xh,Xi,Xj,Xk,Xl,Xm,Xn,Xo,Xp,Xq,Xr,Xs,Xt,Xu,Xv,Xw,Xx,Xy,Xz,X0,X1,X2,X3,X4,X5,X6,X7,X8,X9,Wa,Wb,Wc,Wf,Wg,Wh,Wi,Wj,Wl,Wm,Wn,Wo,Wp,Wq,Wr,Ws,Wt,Wu,Wv,Ww,Wx,Wy,Wz,W0,W3,W4,W5,W6,W7,W8,W9,Ya,Yb,Yc,Yf,Yg,Yh,Yi,Yj,Yk,Yl,Ym,Yn,Yo,Yp,Yq,Yr,Ys,Yt,Yu,Yv,Yw,Yx,Yy,Yz,Y0,Y1,Y2,Y3,Y4,Y5,Y6,Y7,Y8,Y9,Va,Vb,Vc,Vd,Ve,Vf,Vg,Vh,Vi,Vj,Vk,Vl,Vm,Vn,Vo,Vp,Vq,Vr,Vs,Vt,Vu,Vv,Vw,Vx,Vy,Vz,V0,V1,V2,V3,V4,V5,V6,V7,V8,V9,Ua,Ub,Uc,Ud,Ue,Uf,Ug,Uh,Ui,Uj,Uk,Ul,Um,Un,Uo,Up,Uq,Ur,Us,Ut,Uu,Uv,Uw,Ux,Uy,Uz,U0,U1,U2,U3,U4,U5,U6,U7,U8,U9,Ka,Kb,Kc,Kd,Ke,Kf,Kg,Kh,Ki,Kj,Kk,Kl,Km,Kn,Ko,Kq,Kr,Ks,Kt,Ku,K1,K2,K3,K4,K5,K6,K7,Ga,Gx,Hd,Hb,Gq,Hi,Gy,Gp,Nl]
     tactic =>
      try simp only [Gl] at *
      try simp only [nc2] at *
      try simp (maxSteps := 4000000) only [hf,G4]
      repeat' (first | with_reducible assumption | with_reducible refine And.intro ?_ ?_ | intro _ | omega | (rw [Gb]; omega))
      all_goals first
        | assumption
        | omega
        | rfl
        | skip)
  | true =>
  have hl20 := Px hf
  cases h1 : ltB i 0 with
  | true =>
    simp only [Try.f9, Option.some.injEq] at hc
    subst hc
    refine Nu 6 (of_decide_eq_true (by kernel_rfl)) ?_
    (sym =>
     simp [hf,h1,Hw,Hy,Hx,Hz,Hv,Hu,Gn.eq_def,con_GraphReached.eq_def,G3.eq_def,Gv.eq_def,Gm.eq_def,Gu.eq_def,Za,Zb,Zc,Zd,Ze,Zf,Zg,Zn,Zo,Zp,Zq,Zr,Zs,Zt,Zv,Zw,Zx,Zy,Z0,Z2,Z3,Z4,Z5,Z7,Z8,Z9,Qa,Qb,Qc,Qd,Qe,Qf,Qi,Qj,Qk,Ql,Qm,Qn,Qo,Qq,Qw,Qx,Qz,Q3,Q4,Q5,Q6,Q7,Q8,Q9,Ja,Jb,Jc,Jd,Je,Jf,Jg,Jn,Jr,Js,Jt,Ju,Jv,Jw,Jz,J0,J1,J2,J3,J4,J5,J6,J7,J8,J9,Xa,Xb,Xc,Xd,Xe,Xf,Xg,Xh,Xi,Xj,Xk,Xl,Xm,Xn,Xo,Xp,Xq,Xr,Xs,Xt,Xu,Xv,Xw,Xx,Xy,Xz,X0,X1,X2,X3,X4,X5,X6,X7,X8,X9,Wa,Wb,Wc,Wf,Wg,Wh,Wi,Wj,Wl,Wm,Wn,Wo,Wp,Wq,Wr,Ws,Wt,Wu,Wv,Ww,Wx,Wy,Wz,W0,W3,W4,W5,W6,W7,W8,W9,Ya,Yb,Yc,Yf,Yg,Yh,Yi,Yj,Yk,Yl,Ym,Yn,Yo,Yp,Yq,Yr,Ys,Yt,Yu,Yv,Yw,Yx,Yy,Yz,Y0,Y1,Y2,Y3,Y4,Y5,Y6,Y7,Y8,Y9,Va,Vb,Vc,Vd,Ve,Vf,Vg,Vh,Vi,Vj,Vk,Vl,Vm,Vn,Vo,Vp,Vq,Vr,Vs,Vt,Vu,Vv,Vw,Vx,Vy,Vz,V0,V1,V2,V3,V4,V5,V6,V7,V8,V9,Ua,Ub,Uc,Ud,Ue,Uf,Ug,Uh,Ui,Uj,Uk,Ul,Um,Un,Uo,Up,Uq,Ur,Us,Ut,Uu,Uv,Uw,Ux,Uy,Uz,U0,U1,U2,U3,U4,U5,U6,U7,U8,U9,Ka,Kb,Kc,Kd,Ke,Kf,Kg,Kh,Ki,Kj,Kk,Kl,Km,Kn,Ko,Kq,Kr,Ks,Kt,Ku,K1,K2,K3,K4,K5,K6,K7,Ga,Gx,Hd,Hb,Gq,Hi,Gy,Gp,Nl]
     tactic =>
      try simp only [Gl] at *
      try simp only [nc2] at *
      try simp (maxSteps := 4000000) only [hf,h1,G4]
      repeat' (first | with_reducible assumption | with_reducible refine And.intro ?_ ?_ | intro _ | omega | (rw [Gb]; omega))
      all_goals first
        | assumption
        | omega
        | rfl
        | skip)
  | false =>
  cases h2 : leB (l.length : Int) i with
  | true =>
    simp only [Try.f9, Option.some.injEq] at hc
    subst hc
    refine Nu 6 (of_decide_eq_true (by kernel_rfl)) ?_
    (sym =>
     simp [hf,h1,h2,szM,Hw,Hy,Hx,Hz,Hv,Hu,Gn.eq_def,con_GraphReached.eq_def,G3.eq_def,Gv.eq_def,Gm.eq_def,Gu.eq_def,Za,Zb,Zc,Zd,Ze,Zf,Zg,Zn,Zo,Zp,Zq,Zr,Zs,Zt,Zv,Zw,Zx,Zy,Z0,Z2,Z3,Z4,Z5,Z7,Z8,Z9,Qa,Qb,Qc,Qd,Qe,Qf,Qi,Qj,Qk,Ql,Qm,Qn,Qo,Qq,Qw,Qx,Qz,Q3,Q4,Q5,Q6,Q7,Q8,Q9,Ja,Jb,Jc,Jd,Je,Jf,Jg,Jn,Jr,Js,Jt,Ju,Jv,Jw,Jz,J0,J1,J2,J3,J4,J5,J6,J7,J8,J9,Xa,Xb,Xc,Xd,Xe,Xf,Xg,Xh,Xi,Xj,Xk,Xl,Xm,Xn,Xo,Xp,Xq,Xr,Xs,Xt,Xu,Xv,Xw,Xx,Xy,Xz,X0,X1,X2,X3,X4,X5,X6,X7,X8,X9,Wa,Wb,Wc,Wf,Wg,Wh,Wi,Wj,Wl,Wm,Wn,Wo,Wp,Wq,Wr,Ws,Wt,Wu,Wv,Ww,Wx,Wy,Wz,W0,W3,W4,W5,W6,W7,W8,W9,Ya,Yb,Yc,Yf,Yg,Yh,Yi,Yj,Yk,Yl,Ym,Yn,Yo,Yp,Yq,Yr,Ys,Yt,Yu,Yv,Yw,Yx,Yy,Yz,Y0,Y1,Y2,Y3,Y4,Y5,Y6,Y7,Y8,Y9,Va,Vb,Vc,Vd,Ve,Vf,Vg,Vh,Vi,Vj,Vk,Vl,Vm,Vn,Vo,Vp,Vq,Vr,Vs,Vt,Vu,Vv,Vw,Vx,Vy,Vz,V0,V1,V2,V3,V4,V5,V6,V7,V8,V9,Ua,Ub,Uc,Ud,Ue,Uf,Ug,Uh,Ui,Uj,Uk,Ul,Um,Un,Uo,Up,Uq,Ur,Us,Ut,Uu,Uv,Uw,Ux,Uy,Uz,U0,U1,U2,U3,U4,U5,U6,U7,U8,U9,Ka,Kb,Kc,Kd,Ke,Kf,Kg,Kh,Ki,Kj,Kk,Kl,Km,Kn,Ko,Kq,Kr,Ks,Kt,Ku,K1,K2,K3,K4,K5,K6,K7,Ga,Gx,Hd,Hb,Gq,Hi,Gy,Gp,Nl]
     tactic =>
      try simp only [Gl] at *
      try simp only [nc2] at *
      try simp (maxSteps := 4000000) only [hf,h1,h2,szM,G4]
      repeat' (first | with_reducible assumption | with_reducible refine And.intro ?_ ?_ | intro _ | omega | (rw [Gb]; omega))
      all_goals first
        | assumption
        | omega
        | rfl
        | skip)
  | false =>
  have hi0 := h1
  rw [Hq] at hi0
  have hil := h2
  rw [P5] at hil
  obtain ⟨p, rfl⟩ : ∃ p : Nat, i = p := ⟨i.toNat, by omega⟩
  have hpl : p < l.length := by omega
  have heq := reach_eq hf hpl
  unfold reachL at heq
  have hal := R5 hf p
  obtain ⟨a, ha⟩ : ∃ a, Bw l p = a := ⟨_, rfl⟩
  rw [ha] at heq hal
  have q1 := Hp m0 hpl
  have hi20 := Dv hf p
  unfold imp at heq hi20
  obtain ⟨x, hx⟩ : ∃ x, l.getD p m0 = x := ⟨_, rfl⟩
  rw [hx] at q1 heq hi20
  have h00 : (List.replicate l.length false).getD p false = false := by
    rw [List.getD_eq_getElem?_getD, List.getElem?_replicate]
    split <;> rfl
  have hr0 : (List.replicate l.length (D.bool false)).set p (.bool true) = ((List.replicate l.length false).set p true).map enc := by
    rw [List.map_set, List.map_replicate]
    rfl
  have hr1 : (List.replicate l.length (D.bool false)).length = l.length := by simp
  have hb0 : ((List.replicate l.length false).set p true).length = l.length := by simp
  have hel0 : el (List.replicate l.length (D.bool false)) p = .bool false := by
    unfold el
    rw [List.getD_eq_getElem?_getD, List.getElem?_replicate, if_pos hpl]
    rfl
  obtain ⟨b0, hbb0⟩ : ∃ b, (List.replicate l.length false).set p true = b := ⟨_, rfl⟩
  rw [hbb0] at heq hb0 hr0
  simp only [Try.f9, Option.some.injEq] at hc
  subst hc
  refine Nu 6 (of_decide_eq_true (by kernel_rfl)) ?_
  (sym =>
   simp [hf,h1,h2,ha,hel0,hr0,hr1,szM,Hw,Hy,Hx,Hz,Hv,Hu,Gn.eq_def,con_GraphReached.eq_def,G3.eq_def,Gv.eq_def,Gm.eq_def,Gu.eq_def,Za,Zb,Zc,Zd,Ze,Zf,Zg,Zn,Zo,Zp,Zq,Zr,Zs,Zt,Zv,Zw,Zx,Zy,Z0,Z2,Z3,Z4,Z5,Z7,Z8,Z9,Qa,Qb,Qc,Qd,Qe,Qf,Qi,Qj,Qk,Ql,Qm,Qn,Qo,Qq,Qw,Qx,Qz,Q3,Q4,Q5,Q6,Q7,Q8,Q9,Ja,Jb,Jc,Jd,Je,Jf,Jg,Jn,Jr,Js,Jt,Ju,Jv,Jw,Jz,J0,J1,J2,J3,J4,J5,J6,J7,J8,J9,Xa,Xb,Xc,Xd,Xe,Xf,Xg,Xh,Xi,Xj,Xk,Xl,Xm,Xn,Xo,Xp,Xq,Xr,Xs,Xt,Xu,Xv,Xw,Xx,Xy,Xz,X0,X1,X2,X3,X4,X5,X6,X7,X8,X9,Wa,Wb,Wc,Wf,Wg,Wh,Wi,Wj,Wl,Wm,Wn,Wo,Wp,Wq,Wr,Ws,Wt,Wu,Wv,Ww,Wx,Wy,Wz,W0,W3,W4,W5,W6,W7,W8,W9,Ya,Yb,Yc,Yf,Yg,Yh,Yi,Yj,Yk,Yl,Ym,Yn,Yo,Yp,Yq,Yr,Ys,Yt,Yu,Yv,Yw,Yx,Yy,Yz,Y0,Y1,Y2,Y3,Y4,Y5,Y6,Y7,Y8,Y9,Va,Vb,Vc,Vd,Ve,Vf,Vg,Vh,Vi,Vj,Vk,Vl,Vm,Vn,Vo,Vp,Vq,Vr,Vs,Vt,Vu,Vv,Vw,Vx,Vy,Vz,V0,V1,V2,V3,V4,V5,V6,V7,V8,V9,Ua,Ub,Uc,Ud,Ue,Uf,Ug,Uh,Ui,Uj,Uk,Ul,Um,Un,Uo,Up,Uq,Ur,Us,Ut,Uu,Uv,Uw,Ux,Uy,Uz,U0,U1,U2,U3,U4,U5,U6,U7,U8,U9,Ka,Kb,Kc,Kd,Ke,Kf,Kg,Kh,Ki,Kj,Kk,Kl,Km,Kn,Ko,Kq,Kr,Ks,Kt,Ku,K1,K2,K3,K4,K5,K6,K7,Ga,Gx,Hd,Hb,Gq,Hi,Gy,Gp,Nl]
   tactic =>
    try simp only [Gl] at *
    try simp only [nc2] at *
    try simp (maxSteps := 4000000) only [hf,h1,h2,ha,hel0,hr0,hr1,szM,G4]
    repeat' (first | with_reducible assumption | with_reducible refine And.intro ?_ ?_ | intro _ | omega | (rw [Gb]; omega))
    all_goals try omega
    refine Ha [4, 8, 9, 10, 36, 37, 38, 39, 40, 41, 42, 43, 44, 45, 46, 47, 48, 49, 50, 51, 52, 53, 54, 55, 56, 57, 58, 59, 60, 61, 62, 63, 64, 65, 66, 67, 68, 69, 70, 71, 72, 73, 74, 75, 76, 77, 78, 79, 80, 81, 82, 83, 84, 85, 86] (fun k : Nat => [(7, .d (.int .i64 k))]) (fun k : Nat => [(32, .row 1 ((inL l b0 (x.imps.take k)).map enc) 0)]) (fun k : Nat => k ≤ x.imps.length) (fun k : Nat => x.imps.length - k) 0 ?_ ?_ ?_
    · omega
    · ((try simp only [Gd, Gj, Gi, Gs, upd, Gt, G5, Hn, Nat.reduceDiv, Nat.reduceMod, Nat.reduceMul, Nat.reduceAdd, Nat.reduceEqDiff, List.set_cons_zero, List.set_cons_succ, if_true, if_false, reduceIte]); (first | refine Wk.of_fl ?_ | skip); simp only [Wk, wkK, Ht, wkT, wk1, AV.kept, keptAll, wkO, lk, Ge, and_true, true_and, and_self, Nat.reduceEqDiff, Nat.reduceLeDiff, if_true, if_false, reduceIte, reduceCtorEq, Option.isSome, false_implies]; try simp [Wk, wkK, wkT, wk1, AV.kept, keptAll, wkO, lk, Ge, inL])
    rintro k hk
    have hbl := inL_len (l := l) (b := b0) (ss := x.imps.take k)
    rcases Hg k x.imps.length with ⟨hlt, hlb⟩ | ⟨hlt, hlb⟩
    · have hsn := inL_snoc (l := l) (b := b0) hlt
      have q2 := Hp ([] : List UInt8) hlt
      obtain ⟨y, hy⟩ : ∃ y, x.imps.getD k [] = y := ⟨_, rfl⟩
      rw [hy] at q2 hsn
      obtain ⟨b1, hb1⟩ : ∃ b, inL l b0 (x.imps.take k) = b := ⟨_, rfl⟩
      obtain ⟨b2, hb2⟩ : ∃ b, inL l b0 (x.imps.take (k + 1)) = b := ⟨_, rfl⟩
      rw [hb1] at hsn hbl
      rw [hb2] at hsn
      rw [hb1]
      unfold inS Hm at hsn
      cases hj : Hr l y with
      | none =>
        have hz : Hm l y = -1 := by unfold Hm; rw [hj]
        rw [hj] at hsn
        simp only at hsn
        rw [show ltB (-1) 0 = true from rfl, cond_true] at hsn
        (sym =>
         simp [hlb,q1,q2,hz,Gg,szM,Hw,Hy,Hx,Hz,Hv,Hu,Gn.eq_def,con_GraphReached.eq_def,G3.eq_def,Gv.eq_def,Gm.eq_def,Gu.eq_def,Za,Zb,Zc,Zd,Ze,Zf,Zg,Zn,Zo,Zp,Zq,Zr,Zs,Zt,Zv,Zw,Zx,Zy,Z0,Z2,Z3,Z4,Z5,Z7,Z8,Z9,Qa,Qb,Qc,Qd,Qe,Qf,Qi,Qj,Qk,Ql,Qm,Qn,Qo,Qq,Qw,Qx,Qz,Q3,Q4,Q5,Q6,Q7,Q8,Q9,Ja,Jb,Jc,Jd,Je,Jf,Jg,Jn,Jr,Js,Jt,Ju,Jv,Jw,Jz,J0,J1,J2,J3,J4,J5,J6,J7,J8,J9,Xa,Xb,Xc,Xd,Xe,Xf,Xg,Xh,Xi,Xj,Xk,Xl,Xm,Xn,Xo,Xp,Xq,Xr,Xs,Xt,Xu,Xv,Xw,Xx,Xy,Xz,X0,X1,X2,X3,X4,X5,X6,X7,X8,X9,Wa,Wb,Wc,Wf,Wg,Wh,Wi,Wj,Wl,Wm,Wn,Wo,Wp,Wq,Wr,Ws,Wt,Wu,Wv,Ww,Wx,Wy,Wz,W0,W3,W4,W5,W6,W7,W8,W9,Ya,Yb,Yc,Yf,Yg,Yh,Yi,Yj,Yk,Yl,Ym,Yn,Yo,Yp,Yq,Yr,Ys,Yt,Yu,Yv,Yw,Yx,Yy,Yz,Y0,Y1,Y2,Y3,Y4,Y5,Y6,Y7,Y8,Y9,Va,Vb,Vc,Vd,Ve,Vf,Vg,Vh,Vi,Vj,Vk,Vl,Vm,Vn,Vo,Vp,Vq,Vr,Vs,Vt,Vu,Vv,Vw,Vx,Vy,Vz,V0,V1,V2,V3,V4,V5,V6,V7,V8,V9,Ua,Ub,Uc,Ud,Ue,Uf,Ug,Uh,Ui,Uj,Uk,Ul,Um,Un,Uo,Up,Uq,Ur,Us,Ut,Uu,Uv,Uw,Ux,Uy,Uz,U0,U1,U2,U3,U4,U5,U6,U7,U8,U9,Ka,Kb,Kc,Kd,Ke,Kf,Kg,Kh,Ki,Kj,Kk,Kl,Km,Kn,Ko,Kq,Kr,Ks,Kt,Ku,K1,K2,K3,K4,K5,K6,K7,Ga,Gx,Hd,Hb,Gq,Hi,Gy,Gp,Nl]
         tactic =>
          try simp only [Gl] at *
          try simp only [nc2] at *
          try simp (maxSteps := 4000000) only [hlb,q1,q2,hz,Gg,szM,G4]
          repeat' (first | with_reducible assumption | with_reducible refine And.intro ?_ ?_ | intro _ | omega | (rw [Gb]; omega))
          all_goals first
            | (with_reducible refine G7 ?_; kernel_rfl)
            | omega
            | exact ⟨k + 1, by rw [hb2, hsn]; ((try simp only [Gd, Gj, Gi, Gs, upd, Gt, G5, Hn, Nat.reduceDiv, Nat.reduceMod, Nat.reduceMul, Nat.reduceAdd, Nat.reduceEqDiff, List.set_cons_zero, List.set_cons_succ, if_true, if_false, reduceIte]); (first | refine Wk.of_fl ?_ | skip); simp only [Wk, wkK, Ht, wkT, wk1, AV.kept, keptAll, wkO, lk, Ge, and_true, true_and, and_self, Nat.reduceEqDiff, Nat.reduceLeDiff, if_true, if_false, reduceIte, reduceCtorEq, Option.isSome, false_implies]; try simp [Wk, wkK, wkT, wk1, AV.kept, keptAll, wkO, lk, Ge]), by omega, by omega⟩
            | skip)
      | some n =>
        have hz : Hm l y = n := by unfold Hm; rw [hj]
        have hnl := Mr hj
        have hnb : ltB (n : Int) 0 = false := by rw [Hq]; omega
        rw [hj] at hsn
        simp only at hsn
        rw [hnb, cond_false] at hsn
        have hN20 := R5 hf n
        have hin := needs_in hf hnl
        obtain ⟨N, hN⟩ : ∃ N, Bw l n = N := ⟨_, rfl⟩
        rw [hN] at hsn hN20 hin
        (sym =>
         simp [hlb,q1,q2,hz,hnb,hN,Gg,szM,Hw,Hy,Hx,Hz,Hv,Hu,Gn.eq_def,con_GraphReached.eq_def,G3.eq_def,Gv.eq_def,Gm.eq_def,Gu.eq_def,Za,Zb,Zc,Zd,Ze,Zf,Zg,Zn,Zo,Zp,Zq,Zr,Zs,Zt,Zv,Zw,Zx,Zy,Z0,Z2,Z3,Z4,Z5,Z7,Z8,Z9,Qa,Qb,Qc,Qd,Qe,Qf,Qi,Qj,Qk,Ql,Qm,Qn,Qo,Qq,Qw,Qx,Qz,Q3,Q4,Q5,Q6,Q7,Q8,Q9,Ja,Jb,Jc,Jd,Je,Jf,Jg,Jn,Jr,Js,Jt,Ju,Jv,Jw,Jz,J0,J1,J2,J3,J4,J5,J6,J7,J8,J9,Xa,Xb,Xc,Xd,Xe,Xf,Xg,Xh,Xi,Xj,Xk,Xl,Xm,Xn,Xo,Xp,Xq,Xr,Xs,Xt,Xu,Xv,Xw,Xx,Xy,Xz,X0,X1,X2,X3,X4,X5,X6,X7,X8,X9,Wa,Wb,Wc,Wf,Wg,Wh,Wi,Wj,Wl,Wm,Wn,Wo,Wp,Wq,Wr,Ws,Wt,Wu,Wv,Ww,Wx,Wy,Wz,W0,W3,W4,W5,W6,W7,W8,W9,Ya,Yb,Yc,Yf,Yg,Yh,Yi,Yj,Yk,Yl,Ym,Yn,Yo,Yp,Yq,Yr,Ys,Yt,Yu,Yv,Yw,Yx,Yy,Yz,Y0,Y1,Y2,Y3,Y4,Y5,Y6,Y7,Y8,Y9,Va,Vb,Vc,Vd,Ve,Vf,Vg,Vh,Vi,Vj,Vk,Vl,Vm,Vn,Vo,Vp,Vq,Vr,Vs,Vt,Vu,Vv,Vw,Vx,Vy,Vz,V0,V1,V2,V3,V4,V5,V6,V7,V8,V9,Ua,Ub,Uc,Ud,Ue,Uf,Ug,Uh,Ui,Uj,Uk,Ul,Um,Un,Uo,Up,Uq,Ur,Us,Ut,Uu,Uv,Uw,Ux,Uy,Uz,U0,U1,U2,U3,U4,U5,U6,U7,U8,U9,Ka,Kb,Kc,Kd,Ke,Kf,Kg,Kh,Ki,Kj,Kk,Kl,Km,Kn,Ko,Kq,Kr,Ks,Kt,Ku,K1,K2,K3,K4,K5,K6,K7,Ga,Gx,Hd,Hb,Gq,Hi,Gy,Gp,Nl]
         tactic =>
          try simp only [Gl] at *
          try simp only [nc2] at *
          try simp (maxSteps := 4000000) only [hlb,q1,q2,hz,hnb,hN,Gg,szM,G4]
          repeat' (first | with_reducible assumption | with_reducible refine And.intro ?_ ?_ | intro _ | omega | (rw [Gb]; omega))
          refine Ha [4, 61, 62, 63, 64, 65, 66, 67, 68, 69, 70, 71, 72, 73, 74, 75, 76, 77, 78, 79, 80, 81, 82, 83, 84, 85, 86] (fun j : Nat => [(10, .d (.int .i64 j))]) (fun j : Nat => [(32, .row 1 ((setL b1 (N.take j)).map enc) 0)]) (fun j : Nat => j ≤ N.length) (fun j : Nat => N.length - j) 0 ?_ ?_ ?_
          · omega
          · ((try simp only [Gd, Gj, Gi, Gs, upd, Gt, G5, Hn, Nat.reduceDiv, Nat.reduceMod, Nat.reduceMul, Nat.reduceAdd, Nat.reduceEqDiff, List.set_cons_zero, List.set_cons_succ, if_true, if_false, reduceIte]); (first | refine Wk.of_fl ?_ | skip); simp only [Wk, wkK, Ht, wkT, wk1, AV.kept, keptAll, wkO, lk, Ge, and_true, true_and, and_self, Nat.reduceEqDiff, Nat.reduceLeDiff, if_true, if_false, reduceIte, reduceCtorEq, Option.isSome, false_implies]; try simp [Wk, wkK, wkT, wk1, AV.kept, keptAll, wkO, lk, Ge, setL])
          rintro j hj2
          have hcl := setL_len (b := b1) (xs := N.take j)
          rcases Hg j N.length with ⟨hjl, hjb⟩ | ⟨hjl, hjb⟩
          · have hs2 := setL_snoc (b := b1) hjl
            have q3 := Hp (0 : Int) hjl
            have hv := hin (N.getD j 0) (by simp [hjl])
            obtain ⟨v, hvv⟩ : ∃ v, N.getD j 0 = v := ⟨_, rfl⟩
            rw [hvv] at q3 hs2 hv
            obtain ⟨w, rfl⟩ : ∃ w : Nat, v = w := ⟨v.toNat, by omega⟩
            rw [Int.toNat_natCast] at hs2
            obtain ⟨c1, hc1⟩ : ∃ b, setL b1 (N.take j) = b := ⟨_, rfl⟩
            rw [hc1] at hs2 hcl
            rw [hc1]
            have hms := map_setB (b := c1) (n := w)
            have hw0 : ltB (w : Int) 0 = false := by rw [Hq]; omega
            have hw1 : leB (l.length : Int) (w : Int) = false := by rw [P5]; omega
            have q4 := Hp false (show w < c1.length by omega)
            obtain ⟨bv, hbv⟩ : ∃ v, c1.getD w false = v := ⟨_, rfl⟩
            rw [hbv] at q4
            (sym =>
             simp [hjb,q3,q4,hw0,hw1,hms,szM,Hw,Hy,Hx,Hz,Hv,Hu,Gn.eq_def,con_GraphReached.eq_def,G3.eq_def,Gv.eq_def,Gm.eq_def,Gu.eq_def,Za,Zb,Zc,Zd,Ze,Zf,Zg,Zn,Zo,Zp,Zq,Zr,Zs,Zt,Zv,Zw,Zx,Zy,Z0,Z2,Z3,Z4,Z5,Z7,Z8,Z9,Qa,Qb,Qc,Qd,Qe,Qf,Qi,Qj,Qk,Ql,Qm,Qn,Qo,Qq,Qw,Qx,Qz,Q3,Q4,Q5,Q6,Q7,Q8,Q9,Ja,Jb,Jc,Jd,Je,Jf,Jg,Jn,Jr,Js,Jt,Ju,Jv,Jw,Jz,J0,J1,J2,J3,J4,J5,J6,J7,J8,J9,Xa,Xb,Xc,Xd,Xe,Xf,Xg,Xh,Xi,Xj,Xk,Xl,Xm,Xn,Xo,Xp,Xq,Xr,Xs,Xt,Xu,Xv,Xw,Xx,Xy,Xz,X0,X1,X2,X3,X4,X5,X6,X7,X8,X9,Wa,Wb,Wc,Wf,Wg,Wh,Wi,Wj,Wl,Wm,Wn,Wo,Wp,Wq,Wr,Ws,Wt,Wu,Wv,Ww,Wx,Wy,Wz,W0,W3,W4,W5,W6,W7,W8,W9,Ya,Yb,Yc,Yf,Yg,Yh,Yi,Yj,Yk,Yl,Ym,Yn,Yo,Yp,Yq,Yr,Ys,Yt,Yu,Yv,Yw,Yx,Yy,Yz,Y0,Y1,Y2,Y3,Y4,Y5,Y6,Y7,Y8,Y9,Va,Vb,Vc,Vd,Ve,Vf,Vg,Vh,Vi,Vj,Vk,Vl,Vm,Vn,Vo,Vp,Vq,Vr,Vs,Vt,Vu,Vv,Vw,Vx,Vy,Vz,V0,V1,V2,V3,V4,V5,V6,V7,V8,V9,Ua,Ub,Uc,Ud,Ue,Uf,Ug,Uh,Ui,Uj,Uk,Ul,Um,Un,Uo,Up,Uq,Ur,Us,Ut,Uu,Uv,Uw,Ux,Uy,Uz,U0,U1,U2,U3,U4,U5,U6,U7,U8,U9,Ka,Kb,Kc,Kd,Ke,Kf,Kg,Kh,Ki,Kj,Kk,Kl,Km,Kn,Ko,Kq,Kr,Ks,Kt,Ku,K1,K2,K3,K4,K5,K6,K7,Ga,Gx,Hd,Hb,Gq,Hi,Gy,Gp,Nl]
             tactic =>
              try simp only [Gl] at *
              try simp only [nc2] at *
              try simp (maxSteps := 4000000) only [hjb,q3,q4,hw0,hw1,hms,szM,G4]
              repeat' (first | with_reducible assumption | with_reducible refine And.intro ?_ ?_ | intro _ | omega | (rw [Gb]; omega))
              all_goals first
                | (with_reducible refine G7 ?_; kernel_rfl)
                | omega
                | (rw [List.length_map]; omega)
                | exact ⟨j + 1, by rw [hs2, ← hms]; ((try simp only [Gd, Gj, Gi, Gs, upd, Gt, G5, Hn, Nat.reduceDiv, Nat.reduceMod, Nat.reduceMul, Nat.reduceAdd, Nat.reduceEqDiff, List.set_cons_zero, List.set_cons_succ, if_true, if_false, reduceIte]); (first | refine Wk.of_fl ?_ | skip); simp only [Wk, wkK, Ht, wkT, wk1, AV.kept, keptAll, wkO, lk, Ge, and_true, true_and, and_self, Nat.reduceEqDiff, Nat.reduceLeDiff, if_true, if_false, reduceIte, reduceCtorEq, Option.isSome, false_implies]; try simp [Wk, wkK, wkT, wk1, AV.kept, keptAll, wkO, lk, Ge]), by omega, by omega⟩
                | exact ⟨j + 1, by rw [hs2]; ((try simp only [Gd, Gj, Gi, Gs, upd, Gt, G5, Hn, Nat.reduceDiv, Nat.reduceMod, Nat.reduceMul, Nat.reduceAdd, Nat.reduceEqDiff, List.set_cons_zero, List.set_cons_succ, if_true, if_false, reduceIte]); (first | refine Wk.of_fl ?_ | skip); simp only [Wk, wkK, Ht, wkT, wk1, AV.kept, keptAll, wkO, lk, Ge, and_true, true_and, and_self, Nat.reduceEqDiff, Nat.reduceLeDiff, if_true, if_false, reduceIte, reduceCtorEq, Option.isSome, false_implies]; try simp [Wk, wkK, wkT, wk1, AV.kept, keptAll, wkO, lk, Ge]), by omega, by omega⟩
                | skip)
          · have hje : j = N.length := by omega
            rw [hje, List.take_length, ← hsn]
            rw [hje] at hjb
            (sym =>
             simp [hlb,hjb,szM,Hw,Hy,Hx,Hz,Hv,Hu,Gn.eq_def,con_GraphReached.eq_def,G3.eq_def,Gv.eq_def,Gm.eq_def,Gu.eq_def,Za,Zb,Zc,Zd,Ze,Zf,Zg,Zn,Zo,Zp,Zq,Zr,Zs,Zt,Zv,Zw,Zx,Zy,Z0,Z2,Z3,Z4,Z5,Z7,Z8,Z9,Qa,Qb,Qc,Qd,Qe,Qf,Qi,Qj,Qk,Ql,Qm,Qn,Qo,Qq,Qw,Qx,Qz,Q3,Q4,Q5,Q6,Q7,Q8,Q9,Ja,Jb,Jc,Jd,Je,Jf,Jg,Jn,Jr,Js,Jt,Ju,Jv,Jw,Jz,J0,J1,J2,J3,J4,J5,J6,J7,J8,J9,Xa,Xb,Xc,Xd,Xe,Xf,Xg,Xh,Xi,Xj,Xk,Xl,Xm,Xn,Xo,Xp,Xq,Xr,Xs,Xt,Xu,Xv,Xw,Xx,Xy,Xz,X0,X1,X2,X3,X4,X5,X6,X7,X8,X9,Wa,Wb,Wc,Wf,Wg,Wh,Wi,Wj,Wl,Wm,Wn,Wo,Wp,Wq,Wr,Ws,Wt,Wu,Wv,Ww,Wx,Wy,Wz,W0,W3,W4,W5,W6,W7,W8,W9,Ya,Yb,Yc,Yf,Yg,Yh,Yi,Yj,Yk,Yl,Ym,Yn,Yo,Yp,Yq,Yr,Ys,Yt,Yu,Yv,Yw,Yx,Yy,Yz,Y0,Y1,Y2,Y3,Y4,Y5,Y6,Y7,Y8,Y9,Va,Vb,Vc,Vd,Ve,Vf,Vg,Vh,Vi,Vj,Vk,Vl,Vm,Vn,Vo,Vp,Vq,Vr,Vs,Vt,Vu,Vv,Vw,Vx,Vy,Vz,V0,V1,V2,V3,V4,V5,V6,V7,V8,V9,Ua,Ub,Uc,Ud,Ue,Uf,Ug,Uh,Ui,Uj,Uk,Ul,Um,Un,Uo,Up,Uq,Ur,Us,Ut,Uu,Uv,Uw,Ux,Uy,Uz,U0,U1,U2,U3,U4,U5,U6,U7,U8,U9,Ka,Kb,Kc,Kd,Ke,Kf,Kg,Kh,Ki,Kj,Kk,Kl,Km,Kn,Ko,Kq,Kr,Ks,Kt,Ku,K1,K2,K3,K4,K5,K6,K7,Ga,Gx,Hd,Hb,Gq,Hi,Gy,Gp,Nl]
             tactic =>
              try simp only [Gl] at *
              try simp only [nc2] at *
              try simp (maxSteps := 4000000) only [hlb,hjb,szM,G4]
              repeat' (first | with_reducible assumption | with_reducible refine And.intro ?_ ?_ | intro _ | omega | (rw [Gb]; omega))
              all_goals first
                | (with_reducible refine G7 ?_; kernel_rfl)
                | omega
                | exact ⟨k + 1, by rw [hb2]; ((try simp only [Gd, Gj, Gi, Gs, upd, Gt, G5, Hn, Nat.reduceDiv, Nat.reduceMod, Nat.reduceMul, Nat.reduceAdd, Nat.reduceEqDiff, List.set_cons_zero, List.set_cons_succ, if_true, if_false, reduceIte]); (first | refine Wk.of_fl ?_ | skip); simp only [Wk, wkK, Ht, wkT, wk1, AV.kept, keptAll, wkO, lk, Ge, and_true, true_and, and_self, Nat.reduceEqDiff, Nat.reduceLeDiff, if_true, if_false, reduceIte, reduceCtorEq, Option.isSome, false_implies]; try simp [Wk, wkK, wkT, wk1, AV.kept, keptAll, wkO, lk, Ge]), by omega, by omega⟩
                | skip))
    · have hke : k = x.imps.length := by omega
      rw [hke, List.take_length] at hbl
      rw [hke, List.take_length]
      rw [hke] at hlb
      obtain ⟨b, hb⟩ : ∃ b, inL l b0 x.imps = b := ⟨_, rfl⟩
      rw [hb] at heq hbl
      rw [hb]
      (sym =>
       simp [hlb,q1,Gg,szM,Hw,Hy,Hx,Hz,Hv,Hu,Gn.eq_def,con_GraphReached.eq_def,G3.eq_def,Gv.eq_def,Gm.eq_def,Gu.eq_def,Za,Zb,Zc,Zd,Ze,Zf,Zg,Zn,Zo,Zp,Zq,Zr,Zs,Zt,Zv,Zw,Zx,Zy,Z0,Z2,Z3,Z4,Z5,Z7,Z8,Z9,Qa,Qb,Qc,Qd,Qe,Qf,Qi,Qj,Qk,Ql,Qm,Qn,Qo,Qq,Qw,Qx,Qz,Q3,Q4,Q5,Q6,Q7,Q8,Q9,Ja,Jb,Jc,Jd,Je,Jf,Jg,Jn,Jr,Js,Jt,Ju,Jv,Jw,Jz,J0,J1,J2,J3,J4,J5,J6,J7,J8,J9,Xa,Xb,Xc,Xd,Xe,Xf,Xg,Xh,Xi,Xj,Xk,Xl,Xm,Xn,Xo,Xp,Xq,Xr,Xs,Xt,Xu,Xv,Xw,Xx,Xy,Xz,X0,X1,X2,X3,X4,X5,X6,X7,X8,X9,Wa,Wb,Wc,Wf,Wg,Wh,Wi,Wj,Wl,Wm,Wn,Wo,Wp,Wq,Wr,Ws,Wt,Wu,Wv,Ww,Wx,Wy,Wz,W0,W3,W4,W5,W6,W7,W8,W9,Ya,Yb,Yc,Yf,Yg,Yh,Yi,Yj,Yk,Yl,Ym,Yn,Yo,Yp,Yq,Yr,Ys,Yt,Yu,Yv,Yw,Yx,Yy,Yz,Y0,Y1,Y2,Y3,Y4,Y5,Y6,Y7,Y8,Y9,Va,Vb,Vc,Vd,Ve,Vf,Vg,Vh,Vi,Vj,Vk,Vl,Vm,Vn,Vo,Vp,Vq,Vr,Vs,Vt,Vu,Vv,Vw,Vx,Vy,Vz,V0,V1,V2,V3,V4,V5,V6,V7,V8,V9,Ua,Ub,Uc,Ud,Ue,Uf,Ug,Uh,Ui,Uj,Uk,Ul,Um,Un,Uo,Up,Uq,Ur,Us,Ut,Uu,Uv,Uw,Ux,Uy,Uz,U0,U1,U2,U3,U4,U5,U6,U7,U8,U9,Ka,Kb,Kc,Kd,Ke,Kf,Kg,Kh,Ki,Kj,Kk,Kl,Km,Kn,Ko,Kq,Kr,Ks,Kt,Ku,K1,K2,K3,K4,K5,K6,K7,Ga,Gx,Hd,Hb,Gq,Hi,Gy,Gp,Nl]
       tactic =>
        try simp only [Gl] at *
        try simp only [nc2] at *
        try simp (maxSteps := 4000000) only [hlb,q1,Gg,szM,G4]
        repeat' (first | with_reducible assumption | with_reducible refine And.intro ?_ ?_ | intro _ | omega | (rw [Gb]; omega))
        refine Ha [88, 89, 90, 91, 92, 93, 94, 95, 96, 97, 98, 99, 100, 101] (fun r : Nat => [(11, .sl 87 ((So b r).map (enc : Int → D)).length), (12, .d (.int .i64 r))]) (fun r : Nat => [(87, .row 1 ((So b r).map enc) 0)]) (fun r : Nat => r ≤ l.length) (fun r : Nat => l.length - r) 0 ?_ ?_ ?_
        · omega
        · ((try simp only [Gd, Gj, Gi, Gs, upd, Gt, G5, Hn, Nat.reduceDiv, Nat.reduceMod, Nat.reduceMul, Nat.reduceAdd, Nat.reduceEqDiff, List.set_cons_zero, List.set_cons_succ, if_true, if_false, reduceIte]); (first | refine Wk.of_fl ?_ | skip); simp only [Wk, wkK, Ht, wkT, wk1, AV.kept, keptAll, wkO, lk, Ge, and_true, true_and, and_self, Nat.reduceEqDiff, Nat.reduceLeDiff, if_true, if_false, reduceIte, reduceCtorEq, Option.isSome, false_implies]; try simp [Wk, wkK, wkT, wk1, AV.kept, keptAll, wkO, lk, Ge, So])
        rintro r hr
        have hnl := should_len b r
        have hS : So b (r + 1) = So b r ++ cond (b.getD r false) [(r : Int)] [] := rfl
        obtain ⟨N, hN⟩ : ∃ N, So b r = N := ⟨_, rfl⟩
        obtain ⟨N2, hN2⟩ : ∃ N, So b (r + 1) = N := ⟨_, rfl⟩
        rw [hN] at hnl
        rw [hN, hN2] at hS
        have hbl2 : (b.map (enc : Bool → D)).length = l.length := by rw [List.length_map]; omega
        rcases Hg r l.length with ⟨hrl, hrb⟩ | ⟨hrl, hrb⟩
        · rw [hN]
          have q2 := Hp false (show r < b.length by omega)
          obtain ⟨c1, hcc⟩ : ∃ c1, b.getD r false = c1 := ⟨_, rfl⟩
          rw [hcc] at q2 hS
          cases c1 with
          | true =>
            rw [cond_true] at hS
            (sym =>
             simp [hrb,hbl2,q2,szM,Hw,Hy,Hx,Hz,Hv,Hu,Gn.eq_def,con_GraphReached.eq_def,G3.eq_def,Gv.eq_def,Gm.eq_def,Gu.eq_def,Za,Zb,Zc,Zd,Ze,Zf,Zg,Zn,Zo,Zp,Zq,Zr,Zs,Zt,Zv,Zw,Zx,Zy,Z0,Z2,Z3,Z4,Z5,Z7,Z8,Z9,Qa,Qb,Qc,Qd,Qe,Qf,Qi,Qj,Qk,Ql,Qm,Qn,Qo,Qq,Qw,Qx,Qz,Q3,Q4,Q5,Q6,Q7,Q8,Q9,Ja,Jb,Jc,Jd,Je,Jf,Jg,Jn,Jr,Js,Jt,Ju,Jv,Jw,Jz,J0,J1,J2,J3,J4,J5,J6,J7,J8,J9,Xa,Xb,Xc,Xd,Xe,Xf,Xg,Xh,Xi,Xj,Xk,Xl,Xm,Xn,Xo,Xp,Xq,Xr,Xs,Xt,Xu,Xv,Xw,Xx,Xy,Xz,X0,X1,X2,X3,X4,X5,X6,X7,X8,X9,Wa,Wb,Wc,Wf,Wg,Wh,Wi,Wj,Wl,Wm,Wn,Wo,Wp,Wq,Wr,Ws,Wt,Wu,Wv,Ww,Wx,Wy,Wz,W0,W3,W4,W5,W6,W7,W8,W9,Ya,Yb,Yc,Yf,Yg,Yh,Yi,Yj,Yk,Yl,Ym,Yn,Yo,Yp,Yq,Yr,Ys,Yt,Yu,Yv,Yw,Yx,Yy,Yz,Y0,Y1,Y2,Y3,Y4,Y5,Y6,Y7,Y8,Y9,Va,Vb,Vc,Vd,Ve,Vf,Vg,Vh,Vi,Vj,Vk,Vl,Vm,Vn,Vo,Vp,Vq,Vr,Vs,Vt,Vu,Vv,Vw,Vx,Vy,Vz,V0,V1,V2,V3,V4,V5,V6,V7,V8,V9,Ua,Ub,Uc,Ud,Ue,Uf,Ug,Uh,Ui,Uj,Uk,Ul,Um,Un,Uo,Up,Uq,Ur,Us,Ut,Uu,Uv,Uw,Ux,Uy,Uz,U0,U1,U2,U3,U4,U5,U6,U7,U8,U9,Ka,Kb,Kc,Kd,Ke,Kf,Kg,Kh,Ki,Kj,Kk,Kl,Km,Kn,Ko,Kq,Kr,Ks,Kt,Ku,K1,K2,K3,K4,K5,K6,K7,Ga,Gx,Hd,Hb,Gq,Hi,Gy,Gp,Nl]
             tactic =>
              try simp only [Gl] at *
              try simp only [nc2] at *
              try simp (maxSteps := 4000000) only [hrb,hbl2,q2,szM,G4]
              repeat' (first | with_reducible assumption | with_reducible refine And.intro ?_ ?_ | intro _ | omega | (rw [Gb]; omega))
              all_goals first
                | (with_reducible refine G7 ?_; kernel_rfl)
                | omega
                | (rw [List.length_map]; omega)
                | exact ⟨r + 1, by simp only [hN2, hS]; ((try simp only [Gd, Gj, Gi, Gs, upd, Gt, G5, Hn, Nat.reduceDiv, Nat.reduceMod, Nat.reduceMul, Nat.reduceAdd, Nat.reduceEqDiff, List.set_cons_zero, List.set_cons_succ, if_true, if_false, reduceIte]); (first | refine Wk.of_fl ?_ | skip); simp only [Wk, wkK, Ht, wkT, wk1, AV.kept, keptAll, wkO, lk, Ge, and_true, true_and, and_self, Nat.reduceEqDiff, Nat.reduceLeDiff, if_true, if_false, reduceIte, reduceCtorEq, Option.isSome, false_implies]; try simp [Wk, wkK, wkT, wk1, AV.kept, keptAll, wkO, lk, Ge, List.map_append, List.length_append]), by omega, by omega⟩
                | skip)
          | false =>
            rw [cond_false, List.append_nil] at hS
            (sym =>
             simp [hrb,hbl2,q2,szM,Hw,Hy,Hx,Hz,Hv,Hu,Gn.eq_def,con_GraphReached.eq_def,G3.eq_def,Gv.eq_def,Gm.eq_def,Gu.eq_def,Za,Zb,Zc,Zd,Ze,Zf,Zg,Zn,Zo,Zp,Zq,Zr,Zs,Zt,Zv,Zw,Zx,Zy,Z0,Z2,Z3,Z4,Z5,Z7,Z8,Z9,Qa,Qb,Qc,Qd,Qe,Qf,Qi,Qj,Qk,Ql,Qm,Qn,Qo,Qq,Qw,Qx,Qz,Q3,Q4,Q5,Q6,Q7,Q8,Q9,Ja,Jb,Jc,Jd,Je,Jf,Jg,Jn,Jr,Js,Jt,Ju,Jv,Jw,Jz,J0,J1,J2,J3,J4,J5,J6,J7,J8,J9,Xa,Xb,Xc,Xd,Xe,Xf,Xg,Xh,Xi,Xj,Xk,Xl,Xm,Xn,Xo,Xp,Xq,Xr,Xs,Xt,Xu,Xv,Xw,Xx,Xy,Xz,X0,X1,X2,X3,X4,X5,X6,X7,X8,X9,Wa,Wb,Wc,Wf,Wg,Wh,Wi,Wj,Wl,Wm,Wn,Wo,Wp,Wq,Wr,Ws,Wt,Wu,Wv,Ww,Wx,Wy,Wz,W0,W3,W4,W5,W6,W7,W8,W9,Ya,Yb,Yc,Yf,Yg,Yh,Yi,Yj,Yk,Yl,Ym,Yn,Yo,Yp,Yq,Yr,Ys,Yt,Yu,Yv,Yw,Yx,Yy,Yz,Y0,Y1,Y2,Y3,Y4,Y5,Y6,Y7,Y8,Y9,Va,Vb,Vc,Vd,Ve,Vf,Vg,Vh,Vi,Vj,Vk,Vl,Vm,Vn,Vo,Vp,Vq,Vr,Vs,Vt,Vu,Vv,Vw,Vx,Vy,Vz,V0,V1,V2,V3,V4,V5,V6,V7,V8,V9,Ua,Ub,Uc,Ud,Ue,Uf,Ug,Uh,Ui,Uj,Uk,Ul,Um,Un,Uo,Up,Uq,Ur,Us,Ut,Uu,Uv,Uw,Ux,Uy,Uz,U0,U1,U2,U3,U4,U5,U6,U7,U8,U9,Ka,Kb,Kc,Kd,Ke,Kf,Kg,Kh,Ki,Kj,Kk,Kl,Km,Kn,Ko,Kq,Kr,Ks,Kt,Ku,K1,K2,K3,K4,K5,K6,K7,Ga,Gx,Hd,Hb,Gq,Hi,Gy,Gp,Nl]
             tactic =>
              try simp only [Gl] at *
              try simp only [nc2] at *
              try simp (maxSteps := 4000000) only [hrb,hbl2,q2,szM,G4]
              repeat' (first | with_reducible assumption | with_reducible refine And.intro ?_ ?_ | intro _ | omega | (rw [Gb]; omega))
              all_goals first
                | (with_reducible refine G7 ?_; kernel_rfl)
                | omega
                | exact ⟨r + 1, by simp only [hN2, hS]; ((try simp only [Gd, Gj, Gi, Gs, upd, Gt, G5, Hn, Nat.reduceDiv, Nat.reduceMod, Nat.reduceMul, Nat.reduceAdd, Nat.reduceEqDiff, List.set_cons_zero, List.set_cons_succ, if_true, if_false, reduceIte]); (first | refine Wk.of_fl ?_ | skip); simp only [Wk, wkK, Ht, wkT, wk1, AV.kept, keptAll, wkO, lk, Ge, and_true, true_and, and_self, Nat.reduceEqDiff, Nat.reduceLeDiff, if_true, if_false, reduceIte, reduceCtorEq, Option.isSome, false_implies]; try simp [Wk, wkK, wkT, wk1, AV.kept, keptAll, wkO, lk, Ge]), by omega, by omega⟩
                | skip)
        · have hre : r = l.length := by omega
          rw [hre] at hN hnl hrb
          rw [hN] at heq
          rw [hre, hN]
          have hab : (a == N) = true := by rw [heq]; exact Oh N
          have hNl : N.length ≤ 20 := by omega
          (sym =>
           simp [hrb,hbl2,hab,szM,Hw,Hy,Hx,Hz,Hv,Hu,Gn.eq_def,con_GraphReached.eq_def,G3.eq_def,Gv.eq_def,Gm.eq_def,Gu.eq_def,Za,Zb,Zc,Zd,Ze,Zf,Zg,Zn,Zo,Zp,Zq,Zr,Zs,Zt,Zv,Zw,Zx,Zy,Z0,Z2,Z3,Z4,Z5,Z7,Z8,Z9,Qa,Qb,Qc,Qd,Qe,Qf,Qi,Qj,Qk,Ql,Qm,Qn,Qo,Qq,Qw,Qx,Qz,Q3,Q4,Q5,Q6,Q7,Q8,Q9,Ja,Jb,Jc,Jd,Je,Jf,Jg,Jn,Jr,Js,Jt,Ju,Jv,Jw,Jz,J0,J1,J2,J3,J4,J5,J6,J7,J8,J9,Xa,Xb,Xc,Xd,Xe,Xf,Xg,Xh,Xi,Xj,Xk,Xl,Xm,Xn,Xo,Xp,Xq,Xr,Xs,Xt,Xu,Xv,Xw,Xx,Xy,Xz,X0,X1,X2,X3,X4,X5,X6,X7,X8,X9,Wa,Wb,Wc,Wf,Wg,Wh,Wi,Wj,Wl,Wm,Wn,Wo,Wp,Wq,Wr,Ws,Wt,Wu,Wv,Ww,Wx,Wy,Wz,W0,W3,W4,W5,W6,W7,W8,W9,Ya,Yb,Yc,Yf,Yg,Yh,Yi,Yj,Yk,Yl,Ym,Yn,Yo,Yp,Yq,Yr,Ys,Yt,Yu,Yv,Yw,Yx,Yy,Yz,Y0,Y1,Y2,Y3,Y4,Y5,Y6,Y7,Y8,Y9,Va,Vb,Vc,Vd,Ve,Vf,Vg,Vh,Vi,Vj,Vk,Vl,Vm,Vn,Vo,Vp,Vq,Vr,Vs,Vt,Vu,Vv,Vw,Vx,Vy,Vz,V0,V1,V2,V3,V4,V5,V6,V7,V8,V9,Ua,Ub,Uc,Ud,Ue,Uf,Ug,Uh,Ui,Uj,Uk,Ul,Um,Un,Uo,Up,Uq,Ur,Us,Ut,Uu,Uv,Uw,Ux,Uy,Uz,U0,U1,U2,U3,U4,U5,U6,U7,U8,U9,Ka,Kb,Kc,Kd,Ke,Kf,Kg,Kh,Ki,Kj,Kk,Kl,Km,Kn,Ko,Kq,Kr,Ks,Kt,Ku,K1,K2,K3,K4,K5,K6,K7,Ga,Gx,Hd,Hb,Gq,Hi,Gy,Gp,Nl]
           tactic =>
            try simp only [Gl] at *
            try simp only [nc2] at *
            try simp (maxSteps := 4000000) only [hrb,hbl2,hab,szM,G4]
            repeat' (first | with_reducible assumption | with_reducible refine And.intro ?_ ?_ | intro _ | omega | (rw [Gb]; omega))
            all_goals first
              | (with_reducible refine G7 ?_; kernel_rfl)
              | omega
              | trivial
              | rfl
              | skip)))
end Go.Am.Graph
set_option linter.unusedSimpArgs false
set_option linter.unusedVariables false
set_option maxHeartbeats 4000000
namespace Go.Am.Graph
open Go.Proofs
open Enc (enc dec)
theorem ends_err {l : List Mod} (hf : Ph l = true) {a : List Int} {i e : Int} (h : M4 l = (⟨a⟩, i, e)) (he : (e != 0) = true) : a = [] := by
  have hE := Ah hf
  rw [h] at hE
  rw [bne_iff_ne] at he
  cases hE with
  | dup => rfl
  | lack => rfl
  | cyc => rfl
  | fine => exact absurd rfl he
theorem ends_ok {l : List Mod} (hf : Ph l = true) {a : List Int} {i e : Int} (h : M4 l = (⟨a⟩, i, e)) (he : (e != 0) = false) : BehindOk l a := by
  have hE := Ah hf
  rw [h] at hE
  rw [bne_eq_false_iff_eq] at he
  subst he
  cases hE with
  | fine h1 h2 h3 => exact behind_ok hf h1 h2 h3
def con_GraphBehind : Con := Oo (fun (l : Sl Mod) => Lo l.l.length) (fun _ => true)
noncomputable def Pr : Ctx := ⟨tab, lkC [(10, Gn), (11, Gm), (12, Gk), (15, Gu), (16, Gv), (18, G6)], 60, lkB [], [], false⟩
theorem N1 : Pr.τ = tab := rfl
theorem N4 : Pr.Γ = lkC [(10, Gn), (11, Gm), (12, Gk), (15, Gu), (16, Gv), (18, G6)] := rfl
theorem N3 : Pr.dp = 60 := rfl
theorem N5 : Pr.Δ = lkB [] := rfl
theorem N0 : Pr.cuts = [] := rfl
theorem Nz : Pr.wr = false := rfl
set_option maxRecDepth 100000 in
theorem good_GraphBehind : Ck Try.prog (7, con_GraphBehind) := by
  refine ⟨Hh Try.func7 (by kernel_rfl) rfl, ?_⟩
  have K : Mj Try.prog Pr := Nj P8 Ny (by
    intro p hp
    simp only [List.mem_cons, List.not_mem_nil, or_false] at hp
    rcases hp with rfl | rfl | rfl | rfl | rfl | rfl
    · exact Cr
    · exact Th
    · exact Tw
    · exact Af
    · exact Fg
    · exact I5) (by simp)
  obtain ⟨c, hc⟩ : ∃ c, Try.f7.body = some c := ⟨_, rfl⟩
  refine Mi K Try.func7 hc [.tmp 2] rfl 113 rfl (fun cvs hpre => ?_)
  change con_GraphBehind.pre cvs at hpre
  unfold con_GraphBehind at hpre
  obtain ⟨⟨l⟩, rfl, hl⟩ := St hpre
  simp only at hl
  clear hpre
  cases hf : Ph l with
  | false =>
    simp only [Try.f7, Option.some.injEq] at hc
    subst hc
    refine Nu 7 (of_decide_eq_true (by kernel_rfl)) ?_
    (sym =>
     simp [hf,N1,N4,N3,N5,N0,Nz,Gn.eq_def,con_GraphBehind.eq_def,G6.eq_def,Gv.eq_def,Gk.eq_def,Gm.eq_def,Gu.eq_def,Za,Zb,Zc,Zd,Ze,Zf,Zg,Zh,Zi,Zj,Zk,Zl,Zm,Zn,Zo,Zp,Zq,Zr,Zs,Zt,Zu,Zv,Zw,Zx,Zy,Zz,Z5,Z6,Z7,Z8,Z9,Qa,Qb,Qc,Qd,Qe,Qf,Qh,Qi,Qj,Qk,Ql,Qm,Qn,Qo,Qp,Qq,Qw,Qx,Qz,Q0,Q1,Q3,Q4,Q5,Ja,Jc,Jd,Je,Jf,Jg,Jn,Jo,Jp,Jq,Jr,Js,Jt,Ju,Jv,Jw,Jx,Jy,Jz,J0,J1,J2,J3,J4,J5,J6,J7,J8,J9,Xa,Xd,Xe,Xf,Xg,Xh,Xi,Xj,Xk,Xl,Xm,Xn,Xo,Xp,Xq,Xr,Xs,Xt,Xu,Xv,Xw,Xx,Xy,Xz,X0,X1,X2,X3,X4,X5,X6,X7,X8,X9,Wa,Wb,Wc,Wd,We,Wf,Wg,Wh,Wi,Wj,Wl,Wm,Wn,Wo,Wp,Wq,Wr,Ws,Wt,Wu,Wv,Ww,Wx,Wy,Wz,W0,W3,W4,W5,W6,W7,W8,W9,Ya,Yb,Yc,Yd,Ye,Yf,Yg,Yh,Yi,Yj,Yk,Yl,Ym,Yn,Yo,Yp,Yq,Yr,Ys,Yt,Yu,Yv,Yw,Yx,Yy,Yz,Y0,Y1,Y2,Y3,Y4,Y5,Y6,Y7,Y8,Y9,Va,Vb,Vc,Vd,Ve,Vf,Vg,Vh,Vi,Vj,Vk,Vl,Vm,Vn,Vo,Vp,Vq,Vr,Vs,Vt,Vu,Vv,Vw,Vx,Vy,Vz,V0,V1,V2,V3,V4,V5,V6,V7,V8,V9,Ua,Ub,Uc,Ud,Ue,Uf,Ug,Uh,Ui,Uj,Uk,Ul,Um,Un,Uo,Up,Us,Ut,Uu,Uv,Uw,Ux,Uy,Uz,U0,U1,U2,U3,U4,U5,U6,U7,U8,U9,Ka,Kb,Kc,Kd,Ke,Kf,Kg,Kh,Ki,Kj,Kk,Kl,Km,Kn,Ko,Kq,Kr,Ks,Kt,Ku,K1,K2,K3,K4,K5,K6,K7,Ga,Gx,Hd,Hb,Gq,Hi,Nx,Gy,Gp]
     tactic =>
      try simp only [Gl] at *
      try simp only [nc2] at *
      try simp (maxSteps := 4000000) only [hf,G4]
      repeat' (first | with_reducible assumption | with_reducible refine And.intro ?_ ?_ | intro _ | omega | (rw [Gb]; omega))
      all_goals first
        | assumption
        | omega
        | rfl
        | skip)
  | true =>
  have hl20 := Px hf
  obtain ⟨X, hX⟩ : ∃ X, M4 l = X := ⟨_, rfl⟩
  obtain ⟨⟨a⟩, ia, e⟩ := X
  cases he : (e != 0) with
  | true =>
    have ha := ends_err hf hX he
    subst ha
    simp only [Try.f7, Option.some.injEq] at hc
    subst hc
    refine Nu 7 (of_decide_eq_true (by kernel_rfl)) ?_
    (sym =>
     simp [hf,hX,he,M3.eq_def,N1,N4,N3,N5,N0,Nz,Gn.eq_def,con_GraphBehind.eq_def,G6.eq_def,Gv.eq_def,Gk.eq_def,Gm.eq_def,Gu.eq_def,Za,Zb,Zc,Zd,Ze,Zf,Zg,Zh,Zi,Zj,Zk,Zl,Zm,Zn,Zo,Zp,Zq,Zr,Zs,Zt,Zu,Zv,Zw,Zx,Zy,Zz,Z5,Z6,Z7,Z8,Z9,Qa,Qb,Qc,Qd,Qe,Qf,Qh,Qi,Qj,Qk,Ql,Qm,Qn,Qo,Qp,Qq,Qw,Qx,Qz,Q0,Q1,Q3,Q4,Q5,Ja,Jc,Jd,Je,Jf,Jg,Jn,Jo,Jp,Jq,Jr,Js,Jt,Ju,Jv,Jw,Jx,Jy,Jz,J0,J1,J2,J3,J4,J5,J6,J7,J8,J9,Xa,Xd,Xe,Xf,Xg,Xh,Xi,Xj,Xk,Xl,Xm,Xn,Xo,Xp,Xq,Xr,Xs,Xt,Xu,Xv,Xw,Xx,Xy,Xz,X0,X1,X2,X3,X4,X5,X6,X7,X8,X9,Wa,Wb,Wc,Wd,We,Wf,Wg,Wh,Wi,Wj,Wl,Wm,Wn,Wo,Wp,Wq,Wr,Ws,Wt,Wu,Wv,Ww,Wx,Wy,Wz,W0,W3,W4,W5,W6,W7,W8,W9,Ya,Yb,Yc,Yd,Ye,Yf,Yg,Yh,Yi,Yj,Yk,Yl,Ym,Yn,Yo,Yp,Yq,Yr,Ys,Yt,Yu,Yv,Yw,Yx,Yy,Yz,Y0,Y1,Y2,Y3,Y4,Y5,Y6,Y7,Y8,Y9,Va,Vb,Vc,Vd,Ve,Vf,Vg,Vh,Vi,Vj,Vk,Vl,Vm,Vn,Vo,Vp,Vq,Vr,Vs,Vt,Vu,Vv,Vw,Vx,Vy,Vz,V0,V1,V2,V3,V4,V5,V6,V7,V8,V9,Ua,Ub,Uc,Ud,Ue,Uf,Ug,Uh,Ui,Uj,Uk,Ul,Um,Un,Uo,Up,Us,Ut,Uu,Uv,Uw,Ux,Uy,Uz,U0,U1,U2,U3,U4,U5,U6,U7,U8,U9,Ka,Kb,Kc,Kd,Ke,Kf,Kg,Kh,Ki,Kj,Kk,Kl,Km,Kn,Ko,Kq,Kr,Ks,Kt,Ku,K1,K2,K3,K4,K5,K6,K7,Ga,Gx,Hd,Hb,Gq,Hi,Nx,Gy,Gp]
     tactic =>
      try simp only [Gl] at *
      try simp only [nc2] at *
      try simp (maxSteps := 4000000) only [hf,hX,he,M3.eq_def,G4]
      repeat' (first | with_reducible assumption | with_reducible refine And.intro ?_ ?_ | intro _ | omega | (rw [Gb]; omega))
      all_goals first
        | assumption
        | omega
        | rfl
        | skip)
  | false =>
  obtain ⟨hal, hB⟩ := ends_ok hf hX he
  have hne : ((a.length : Int) != (l.length : Int)) = false := by rw [bne_eq_false_iff_eq]; omega
  simp only [Try.f7, Option.some.injEq] at hc
  subst hc
  refine Nu 7 (of_decide_eq_true (by kernel_rfl)) ?_
  (sym =>
   simp [hf,hX,he,hne,M3.eq_def,szM,N1,N4,N3,N5,N0,Nz,Gn.eq_def,con_GraphBehind.eq_def,G6.eq_def,Gv.eq_def,Gk.eq_def,Gm.eq_def,Gu.eq_def,Za,Zb,Zc,Zd,Ze,Zf,Zg,Zh,Zi,Zj,Zk,Zl,Zm,Zn,Zo,Zp,Zq,Zr,Zs,Zt,Zu,Zv,Zw,Zx,Zy,Zz,Z5,Z6,Z7,Z8,Z9,Qa,Qb,Qc,Qd,Qe,Qf,Qh,Qi,Qj,Qk,Ql,Qm,Qn,Qo,Qp,Qq,Qw,Qx,Qz,Q0,Q1,Q3,Q4,Q5,Ja,Jc,Jd,Je,Jf,Jg,Jn,Jo,Jp,Jq,Jr,Js,Jt,Ju,Jv,Jw,Jx,Jy,Jz,J0,J1,J2,J3,J4,J5,J6,J7,J8,J9,Xa,Xd,Xe,Xf,Xg,Xh,Xi,Xj,Xk,Xl,Xm,Xn,Xo,Xp,Xq,Xr,Xs,Xt,Xu,Xv,Xw,Xx,Xy,Xz,X0,X1,X2,X3,X4,X5,X6,X7,X8,X9,Wa,Wb,Wc,Wd,We,Wf,Wg,Wh,Wi,Wj,Wl,Wm,Wn,Wo,Wp,Wq,Wr,Ws,Wt,Wu,Wv,Ww,Wx,Wy,Wz,W0,W3,W4,W5,W6,W7,W8,W9,Ya,Yb,Yc,Yd,Ye,Yf,Yg,Yh,Yi,Yj,Yk,Yl,Ym,Yn,Yo,Yp,Yq,Yr,Ys,Yt,Yu,Yv,Yw,Yx,Yy,Yz,Y0,Y1,Y2,Y3,Y4,Y5,Y6,Y7,Y8,Y9,Va,Vb,Vc,Vd,Ve,Vf,Vg,Vh,Vi,Vj,Vk,Vl,Vm,Vn,Vo,Vp,Vq,Vr,Vs,Vt,Vu,Vv,Vw,Vx,Vy,Vz,V0,V1,V2,V3,V4,V5,V6,V7,V8,V9,Ua,Ub,Uc,Ud,Ue,Uf,Ug,Uh,Ui,Uj,Uk,Ul,Um,Un,Uo,Up,Us,Ut,Uu,Uv,Uw,Ux,Uy,Uz,U0,U1,U2,U3,U4,U5,U6,U7,U8,U9,Ka,Kb,Kc,Kd,Ke,Kf,Kg,Kh,Ki,Kj,Kk,Kl,Km,Kn,Ko,Kq,Kr,Ks,Kt,Ku,K1,K2,K3,K4,K5,K6,K7,Ga,Gx,Hd,Hb,Gq,Hi,Nx,Gy,Gp]
   tactic =>
    try simp only [Gl] at *
    try simp only [nc2] at *
    try simp (maxSteps := 4000000) only [hf,hX,he,hne,M3.eq_def,szM,G4]
    repeat' (first | with_reducible assumption | with_reducible refine And.intro ?_ ?_ | intro _ | omega | (rw [Gb]; omega))
    refine Ha [2, 7, 8, 9, 10, 34, 35, 36, 37, 38, 39, 40, 41, 42, 43, 44, 45, 46, 47, 48, 49, 50, 51, 52, 53, 54, 55, 56, 57, 58, 59, 60, 61, 62, 63, 64, 65, 66, 67, 68, 69, 70, 71, 72, 73, 74, 75, 76, 77, 78, 79, 80, 81, 82, 83, 84, 85, 86, 87, 88, 89, 90, 91, 92, 93, 94, 95, 96, 97, 98, 99, 100, 101, 102, 103, 104, 105, 106, 107, 108, 109, 110, 111] (fun i : Nat => [(6, .d (.int .i64 i))]) (fun i : Nat => []) (fun i : Nat => i ≤ a.length) (fun i : Nat => a.length - i) 0 ?_ ?_ ?_
    · omega
    · ((try simp only [Gd, Gj, Gi, Gs, upd, Gt, G5, Hn, Nat.reduceDiv, Nat.reduceMod, Nat.reduceMul, Nat.reduceAdd, Nat.reduceEqDiff, List.set_cons_zero, List.set_cons_succ, if_true, if_false, reduceIte]); (first | refine Wk.of_fl ?_ | skip); simp only [Wk, wkK, Ht, wkT, wk1, AV.kept, keptAll, wkO, lk, Ge, and_true, true_and, and_self, Nat.reduceEqDiff, Nat.reduceLeDiff, if_true, if_false, reduceIte, reduceCtorEq, Option.isSome, false_implies]; try simp [Wk, wkK, wkT, wk1, AV.kept, keptAll, wkO, lk, Ge])
    rintro i hi
    rcases Hg i a.length with ⟨hlt, hlb⟩ | ⟨hlt, hlb⟩
    · obtain ⟨p, hp, hpl, hno, himp, hneed⟩ := hB i hlt
      have q1 := Hp (0 : Int) hlt
      rw [hp] at q1
      have ht1 : (a.map (enc : Int → D)).take i = (a.take i).map enc := by rw [List.map_take]
      have ht2 : (a.map (enc : Int → D)).take (i + 1) = (a.take (i + 1)).map enc := by rw [List.map_take]
      have hc1 : (i : Int) + 1 = ((i + 1 : Nat) : Int) := rfl
      have hl1 : (a.take i).length ≤ 20 := by rw [List.length_take]; omega
      have hl2 : (a.take (i + 1)).length ≤ 20 := by rw [List.length_take]; omega
      obtain ⟨A1, hA1⟩ : ∃ A, a.take i = A := ⟨_, rfl⟩
      obtain ⟨A2, hA2⟩ : ∃ A, a.take (i + 1) = A := ⟨_, rfl⟩
      rw [hA1] at hno himp ht1 hl1
      rw [hA2] at hneed ht2 hl2
      have hp0 : ltB (p : Int) 0 = false := by rw [Hq]; omega
      have hp1 : leB (l.length : Int) (p : Int) = false := by rw [P5]; omega
      have q2 := Hp m0 hpl
      have hi20 := Dv hf p
      unfold imp at hi20
      obtain ⟨x, hx⟩ : ∃ x, l.getD p m0 = x := ⟨_, rfl⟩
      rw [hx] at q2 himp hi20
      have hN20 := R5 hf p
      obtain ⟨N, hN⟩ : ∃ N, Bw l p = N := ⟨_, rfl⟩
      rw [hN] at hneed hN20
      (sym =>
       simp [hlb,q1,q2,hp0,hp1,ht1,hno,Gg,szM,N1,N4,N3,N5,N0,Nz,Gn.eq_def,con_GraphBehind.eq_def,G6.eq_def,Gv.eq_def,Gk.eq_def,Gm.eq_def,Gu.eq_def,Za,Zb,Zc,Zd,Ze,Zf,Zg,Zh,Zi,Zj,Zk,Zl,Zm,Zn,Zo,Zp,Zq,Zr,Zs,Zt,Zu,Zv,Zw,Zx,Zy,Zz,Z5,Z6,Z7,Z8,Z9,Qa,Qb,Qc,Qd,Qe,Qf,Qh,Qi,Qj,Qk,Ql,Qm,Qn,Qo,Qp,Qq,Qw,Qx,Qz,Q0,Q1,Q3,Q4,Q5,Ja,Jc,Jd,Je,Jf,Jg,Jn,Jo,Jp,Jq,Jr,Js,Jt,Ju,Jv,Jw,Jx,Jy,Jz,J0,J1,J2,J3,J4,J5,J6,J7,J8,J9,Xa,Xd,Xe,Xf,Xg,Xh,Xi,Xj,Xk,Xl,Xm,Xn,Xo,Xp,Xq,Xr,Xs,Xt,Xu,Xv,Xw,Xx,Xy,Xz,X0,X1,X2,X3,X4,X5,X6,X7,X8,X9,Wa,Wb,Wc,Wd,We,Wf,Wg,Wh,Wi,Wj,Wl,Wm,Wn,Wo,Wp,Wq,Wr,Ws,Wt,Wu,Wv,Ww,Wx,Wy,Wz,W0,W3,W4,W5,W6,W7,W8,W9,Ya,Yb,Yc,Yd,Ye,Yf,Yg,Yh,Yi,Yj,Yk,Yl,Ym,Yn,Yo,Yp,Yq,Yr,Ys,Yt,Yu,Yv,Yw,Yx,Yy,Yz,Y0,Y1,Y2,Y3,Y4,Y5,Y6,Y7,Y8,Y9,Va,Vb,Vc,Vd,Ve,Vf,Vg,Vh,Vi,Vj,Vk,Vl,Vm,Vn,Vo,Vp,Vq,Vr,Vs,Vt,Vu,Vv,Vw,Vx,Vy,Vz,V0,V1,V2,V3,V4,V5,V6,V7,V8,V9,Ua,Ub,Uc,Ud,Ue,Uf,Ug,Uh,Ui,Uj,Uk,Ul,Um,Un,Uo,Up,Us,Ut,Uu,Uv,Uw,Ux,Uy,Uz,U0,U1,U2,U3,U4,U5,U6,U7,U8,U9,Ka,Kb,Kc,Kd,Ke,Kf,Kg,Kh,Ki,Kj,Kk,Kl,Km,Kn,Ko,Kq,Kr,Ks,Kt,Ku,K1,K2,K3,K4,K5,K6,K7,Ga,Gx,Hd,Hb,Gq,Hi,Nx,Gy,Gp]
       tactic =>
        try simp only [Gl] at *
        try simp only [nc2] at *
        try simp (maxSteps := 4000000) only [hlb,q1,q2,hp0,hp1,ht1,hno,Gg,szM,G4]
        repeat' (first | with_reducible assumption | with_reducible refine And.intro ?_ ?_ | intro _ | omega | (rw [Gb]; omega))
        all_goals first
          | (with_reducible refine G7 ?_; kernel_rfl)
          | omega
          | skip
        refine Ha [2, 71, 72, 73, 74, 75, 76, 77, 78, 79, 80, 81, 82, 83, 84, 85, 86, 87, 88, 89] (fun k : Nat => [(8, .d (.int .i64 k))]) (fun k : Nat => []) (fun k : Nat => k ≤ x.imps.length) (fun k : Nat => x.imps.length - k) 0 ?_ ?_ ?_
        · omega
        · ((try simp only [Gd, Gj, Gi, Gs, upd, Gt, G5, Hn, Nat.reduceDiv, Nat.reduceMod, Nat.reduceMul, Nat.reduceAdd, Nat.reduceEqDiff, List.set_cons_zero, List.set_cons_succ, if_true, if_false, reduceIte]); (first | refine Wk.of_fl ?_ | skip); simp only [Wk, wkK, Ht, wkT, wk1, AV.kept, keptAll, wkO, lk, Ge, and_true, true_and, and_self, Nat.reduceEqDiff, Nat.reduceLeDiff, if_true, if_false, reduceIte, reduceCtorEq, Option.isSome, false_implies]; try simp [Wk, wkK, wkT, wk1, AV.kept, keptAll, wkO, lk, Ge])
        rintro k hk
        rcases Hg k x.imps.length with ⟨hkl, hkb⟩ | ⟨hkl, hkb⟩
        · have q3 := Hp ([] : List UInt8) hkl
          have hin := himp (x.imps.getD k []) (by simp [hkl])
          obtain ⟨y, hy⟩ : ∃ y, x.imps.getD k [] = y := ⟨_, rfl⟩
          rw [hy] at q3 hin
          obtain ⟨z, hz⟩ : ∃ z, Hm l y = z := ⟨_, rfl⟩
          rw [hz] at hin
          (sym =>
           simp [hkb,q1,q2,q3,ht1,hz,hin,Gg,szM,N1,N4,N3,N5,N0,Nz,Gn.eq_def,con_GraphBehind.eq_def,G6.eq_def,Gv.eq_def,Gk.eq_def,Gm.eq_def,Gu.eq_def,Za,Zb,Zc,Zd,Ze,Zf,Zg,Zh,Zi,Zj,Zk,Zl,Zm,Zn,Zo,Zp,Zq,Zr,Zs,Zt,Zu,Zv,Zw,Zx,Zy,Zz,Z5,Z6,Z7,Z8,Z9,Qa,Qb,Qc,Qd,Qe,Qf,Qh,Qi,Qj,Qk,Ql,Qm,Qn,Qo,Qp,Qq,Qw,Qx,Qz,Q0,Q1,Q3,Q4,Q5,Ja,Jc,Jd,Je,Jf,Jg,Jn,Jo,Jp,Jq,Jr,Js,Jt,Ju,Jv,Jw,Jx,Jy,Jz,J0,J1,J2,J3,J4,J5,J6,J7,J8,J9,Xa,Xd,Xe,Xf,Xg,Xh,Xi,Xj,Xk,Xl,Xm,Xn,Xo,Xp,Xq,Xr,Xs,Xt,Xu,Xv,Xw,Xx,Xy,Xz,X0,X1,X2,X3,X4,X5,X6,X7,X8,X9,Wa,Wb,Wc,Wd,We,Wf,Wg,Wh,Wi,Wj,Wl,Wm,Wn,Wo,Wp,Wq,Wr,Ws,Wt,Wu,Wv,Ww,Wx,Wy,Wz,W0,W3,W4,W5,W6,W7,W8,W9,Ya,Yb,Yc,Yd,Ye,Yf,Yg,Yh,Yi,Yj,Yk,Yl,Ym,Yn,Yo,Yp,Yq,Yr,Ys,Yt,Yu,Yv,Yw,Yx,Yy,Yz,Y0,Y1,Y2,Y3,Y4,Y5,Y6,Y7,Y8,Y9,Va,Vb,Vc,Vd,Ve,Vf,Vg,Vh,Vi,Vj,Vk,Vl,Vm,Vn,Vo,Vp,Vq,Vr,Vs,Vt,Vu,Vv,Vw,Vx,Vy,Vz,V0,V1,V2,V3,V4,V5,V6,V7,V8,V9,Ua,Ub,Uc,Ud,Ue,Uf,Ug,Uh,Ui,Uj,Uk,Ul,Um,Un,Uo,Up,Us,Ut,Uu,Uv,Uw,Ux,Uy,Uz,U0,U1,U2,U3,U4,U5,U6,U7,U8,U9,Ka,Kb,Kc,Kd,Ke,Kf,Kg,Kh,Ki,Kj,Kk,Kl,Km,Kn,Ko,Kq,Kr,Ks,Kt,Ku,K1,K2,K3,K4,K5,K6,K7,Ga,Gx,Hd,Hb,Gq,Hi,Nx,Gy,Gp]
           tactic =>
            try simp only [Gl] at *
            try simp only [nc2] at *
            try simp (maxSteps := 4000000) only [hkb,q1,q2,q3,ht1,hz,hin,Gg,szM,G4]
            repeat' (first | with_reducible assumption | with_reducible refine And.intro ?_ ?_ | intro _ | omega | (rw [Gb]; omega))
            all_goals first
              | (with_reducible refine G7 ?_; kernel_rfl)
              | omega
              | exact ⟨k + 1, by ((try simp only [Gd, Gj, Gi, Gs, upd, Gt, G5, Hn, Nat.reduceDiv, Nat.reduceMod, Nat.reduceMul, Nat.reduceAdd, Nat.reduceEqDiff, List.set_cons_zero, List.set_cons_succ, if_true, if_false, reduceIte]); (first | refine Wk.of_fl ?_ | skip); simp only [Wk, wkK, Ht, wkT, wk1, AV.kept, keptAll, wkO, lk, Ge, and_true, true_and, and_self, Nat.reduceEqDiff, Nat.reduceLeDiff, if_true, if_false, reduceIte, reduceCtorEq, Option.isSome, false_implies]; try simp [Wk, wkK, wkT, wk1, AV.kept, keptAll, wkO, lk, Ge]), by omega, by omega⟩
              | skip)
        · have hke : k = x.imps.length := by omega
          (sym =>
           simp [hkb,q1,q2,hN,Gg,szM,N1,N4,N3,N5,N0,Nz,Gn.eq_def,con_GraphBehind.eq_def,G6.eq_def,Gv.eq_def,Gk.eq_def,Gm.eq_def,Gu.eq_def,Za,Zb,Zc,Zd,Ze,Zf,Zg,Zh,Zi,Zj,Zk,Zl,Zm,Zn,Zo,Zp,Zq,Zr,Zs,Zt,Zu,Zv,Zw,Zx,Zy,Zz,Z5,Z6,Z7,Z8,Z9,Qa,Qb,Qc,Qd,Qe,Qf,Qh,Qi,Qj,Qk,Ql,Qm,Qn,Qo,Qp,Qq,Qw,Qx,Qz,Q0,Q1,Q3,Q4,Q5,Ja,Jc,Jd,Je,Jf,Jg,Jn,Jo,Jp,Jq,Jr,Js,Jt,Ju,Jv,Jw,Jx,Jy,Jz,J0,J1,J2,J3,J4,J5,J6,J7,J8,J9,Xa,Xd,Xe,Xf,Xg,Xh,Xi,Xj,Xk,Xl,Xm,Xn,Xo,Xp,Xq,Xr,Xs,Xt,Xu,Xv,Xw,Xx,Xy,Xz,X0,X1,X2,X3,X4,X5,X6,X7,X8,X9,Wa,Wb,Wc,Wd,We,Wf,Wg,Wh,Wi,Wj,Wl,Wm,Wn,Wo,Wp,Wq,Wr,Ws,Wt,Wu,Wv,Ww,Wx,Wy,Wz,W0,W3,W4,W5,W6,W7,W8,W9,Ya,Yb,Yc,Yd,Ye,Yf,Yg,Yh,Yi,Yj,Yk,Yl,Ym,Yn,Yo,Yp,Yq,Yr,Ys,Yt,Yu,Yv,Yw,Yx,Yy,Yz,Y0,Y1,Y2,Y3,Y4,Y5,Y6,Y7,Y8,Y9,Va,Vb,Vc,Vd,Ve,Vf,Vg,Vh,Vi,Vj,Vk,Vl,Vm,Vn,Vo,Vp,Vq,Vr,Vs,Vt,Vu,Vv,Vw,Vx,Vy,Vz,V0,V1,V2,V3,V4,V5,V6,V7,V8,V9,Ua,Ub,Uc,Ud,Ue,Uf,Ug,Uh,Ui,Uj,Uk,Ul,Um,Un,Uo,Up,Us,Ut,Uu,Uv,Uw,Ux,Uy,Uz,U0,U1,U2,U3,U4,U5,U6,U7,U8,U9,Ka,Kb,Kc,Kd,Ke,Kf,Kg,Kh,Ki,Kj,Kk,Kl,Km,Kn,Ko,Kq,Kr,Ks,Kt,Ku,K1,K2,K3,K4,K5,K6,K7,Ga,Gx,Hd,Hb,Gq,Hi,Nx,Gy,Gp]
           tactic =>
            try simp only [Gl] at *
            try simp only [nc2] at *
            try simp (maxSteps := 4000000) only [hkb,q1,q2,hN,Gg,szM,G4]
            repeat' (first | with_reducible assumption | with_reducible refine And.intro ?_ ?_ | intro _ | omega | (rw [Gb]; omega))
            all_goals try omega
            refine Ha [2, 96, 97, 98, 99, 100, 101, 102, 103, 104, 105, 106, 107, 108, 109, 110, 111] (fun j : Nat => [(10, .d (.int .i64 j))]) (fun j : Nat => []) (fun j : Nat => j ≤ N.length) (fun j : Nat => N.length - j) 0 ?_ ?_ ?_
            · omega
            · ((try simp only [Gd, Gj, Gi, Gs, upd, Gt, G5, Hn, Nat.reduceDiv, Nat.reduceMod, Nat.reduceMul, Nat.reduceAdd, Nat.reduceEqDiff, List.set_cons_zero, List.set_cons_succ, if_true, if_false, reduceIte]); (first | refine Wk.of_fl ?_ | skip); simp only [Wk, wkK, Ht, wkT, wk1, AV.kept, keptAll, wkO, lk, Ge, and_true, true_and, and_self, Nat.reduceEqDiff, Nat.reduceLeDiff, if_true, if_false, reduceIte, reduceCtorEq, Option.isSome, false_implies]; try simp [Wk, wkK, wkT, wk1, AV.kept, keptAll, wkO, lk, Ge])
            rintro j hj
            rcases Hg j N.length with ⟨hjl, hjb⟩ | ⟨hjl, hjb⟩
            · have q4 := Hp (0 : Int) hjl
              have hin := hneed (N.getD j 0) (by simp [hjl])
              obtain ⟨v, hv⟩ : ∃ v, N.getD j 0 = v := ⟨_, rfl⟩
              rw [hv] at q4 hin
              (sym =>
               simp [hjb,q4,hc1,ht2,hin,N1,N4,N3,N5,N0,Nz,Gn.eq_def,con_GraphBehind.eq_def,G6.eq_def,Gv.eq_def,Gk.eq_def,Gm.eq_def,Gu.eq_def,Za,Zb,Zc,Zd,Ze,Zf,Zg,Zh,Zi,Zj,Zk,Zl,Zm,Zn,Zo,Zp,Zq,Zr,Zs,Zt,Zu,Zv,Zw,Zx,Zy,Zz,Z5,Z6,Z7,Z8,Z9,Qa,Qb,Qc,Qd,Qe,Qf,Qh,Qi,Qj,Qk,Ql,Qm,Qn,Qo,Qp,Qq,Qw,Qx,Qz,Q0,Q1,Q3,Q4,Q5,Ja,Jc,Jd,Je,Jf,Jg,Jn,Jo,Jp,Jq,Jr,Js,Jt,Ju,Jv,Jw,Jx,Jy,Jz,J0,J1,J2,J3,J4,J5,J6,J7,J8,J9,Xa,Xd,Xe,Xf,Xg,Xh,Xi,Xj,Xk,Xl,Xm,Xn,Xo,Xp,Xq,Xr,Xs,Xt,Xu,Xv,Xw,Xx,Xy,Xz,X0,X1,X2,X3,X4,X5,X6,X7,X8,X9,Wa,Wb,Wc,Wd,We,Wf,Wg,Wh,Wi,Wj,Wl,Wm,Wn,Wo,Wp,Wq,Wr,Ws,Wt,Wu,Wv,Ww,Wx,Wy,Wz,W0,W3,W4,W5,W6,W7,W8,W9,Ya,Yb,Yc,Yd,Ye,Yf,Yg,Yh,Yi,Yj,Yk,Yl,Ym,Yn,Yo,Yp,Yq,Yr,Ys,Yt,Yu,Yv,Yw,Yx,Yy,Yz,Y0,Y1,Y2,Y3,Y4,Y5,Y6,Y7,Y8,Y9,Va,Vb,Vc,Vd,Ve,Vf,Vg,Vh,Vi,Vj,Vk,Vl,Vm,Vn,Vo,Vp,Vq,Vr,Vs,Vt,Vu,Vv,Vw,Vx,Vy,Vz,V0,V1,V2,V3,V4,V5,V6,V7,V8,V9,Ua,Ub,Uc,Ud,Ue,Uf,Ug,Uh,Ui,Uj,Uk,Ul,Um,Un,Uo,Up,Us,Ut,Uu,Uv,Uw,Ux,Uy,Uz,U0,U1,U2,U3,U4,U5,U6,U7,U8,U9,Ka,Kb,Kc,Kd,Ke,Kf,Kg,Kh,Ki,Kj,Kk,Kl,Km,Kn,Ko,Kq,Kr,Ks,Kt,Ku,K1,K2,K3,K4,K5,K6,K7,Ga,Gx,Hd,Hb,Gq,Hi,Nx,Gy,Gp]
               tactic =>
                try simp only [Gl] at *
                try simp only [nc2] at *
                try simp (maxSteps := 4000000) only [hjb,q4,hc1,ht2,hin,G4]
                repeat' (first | with_reducible assumption | with_reducible refine And.intro ?_ ?_ | intro _ | omega | (rw [Gb]; omega))
                all_goals first
                  | (with_reducible refine G7 ?_; kernel_rfl)
                  | omega
                  | exact ⟨j + 1, by ((try simp only [Gd, Gj, Gi, Gs, upd, Gt, G5, Hn, Nat.reduceDiv, Nat.reduceMod, Nat.reduceMul, Nat.reduceAdd, Nat.reduceEqDiff, List.set_cons_zero, List.set_cons_succ, if_true, if_false, reduceIte]); (first | refine Wk.of_fl ?_ | skip); simp only [Wk, wkK, Ht, wkT, wk1, AV.kept, keptAll, wkO, lk, Ge, and_true, true_and, and_self, Nat.reduceEqDiff, Nat.reduceLeDiff, if_true, if_false, reduceIte, reduceCtorEq, Option.isSome, false_implies]; try simp [Wk, wkK, wkT, wk1, AV.kept, keptAll, wkO, lk, Ge]), by omega, by omega⟩
                  | skip)
            · (sym =>
               simp [hjb,N1,N4,N3,N5,N0,Nz,Gn.eq_def,con_GraphBehind.eq_def,G6.eq_def,Gv.eq_def,Gk.eq_def,Gm.eq_def,Gu.eq_def,Za,Zb,Zc,Zd,Ze,Zf,Zg,Zh,Zi,Zj,Zk,Zl,Zm,Zn,Zo,Zp,Zq,Zr,Zs,Zt,Zu,Zv,Zw,Zx,Zy,Zz,Z5,Z6,Z7,Z8,Z9,Qa,Qb,Qc,Qd,Qe,Qf,Qh,Qi,Qj,Qk,Ql,Qm,Qn,Qo,Qp,Qq,Qw,Qx,Qz,Q0,Q1,Q3,Q4,Q5,Ja,Jc,Jd,Je,Jf,Jg,Jn,Jo,Jp,Jq,Jr,Js,Jt,Ju,Jv,Jw,Jx,Jy,Jz,J0,J1,J2,J3,J4,J5,J6,J7,J8,J9,Xa,Xd,Xe,Xf,Xg,Xh,Xi,Xj,Xk,Xl,Xm,Xn,Xo,Xp,Xq,Xr,Xs,Xt,Xu,Xv,Xw,Xx,Xy,Xz,X0,X1,X2,X3,X4,X5,X6,X7,X8,X9,Wa,Wb,Wc,Wd,We,Wf,Wg,Wh,Wi,Wj,Wl,Wm,Wn,Wo,Wp,Wq,Wr,Ws,Wt,Wu,Wv,Ww,Wx,Wy,Wz,W0,W3,W4,W5,W6,W7,W8,W9,Ya,Yb,Yc,Yd,Ye,Yf,Yg,Yh,Yi,Yj,Yk,Yl,Ym,Yn,Yo,Yp,Yq,Yr,Ys,Yt,Yu,Yv,Yw,Yx,Yy,Yz,Y0,Y1,Y2,Y3,Y4,Y5,Y6,Y7,Y8,Y9,Va,Vb,Vc,Vd,Ve,Vf,Vg,Vh,Vi,Vj,Vk,Vl,Vm,Vn,Vo,Vp,Vq,Vr,Vs,Vt,Vu,Vv,Vw,Vx,Vy,Vz,V0,V1,V2,V3,V4,V5,V6,V7,V8,V9,Ua,Ub,Uc,Ud,Ue,Uf,Ug,Uh,Ui,Uj,Uk,Ul,Um,Un,Uo,Up,Us,Ut,Uu,Uv,Uw,Ux,Uy,Uz,U0,U1,U2,U3,U4,U5,U6,U7,U8,U9,Ka,Kb,Kc,Kd,Ke,Kf,Kg,Kh,Ki,Kj,Kk,Kl,Km,Kn,Ko,Kq,Kr,Ks,Kt,Ku,K1,K2,K3,K4,K5,K6,K7,Ga,Gx,Hd,Hb,Gq,Hi,Nx,Gy,Gp]
               tactic =>
                try simp only [Gl] at *
                try simp only [nc2] at *
                try simp (maxSteps := 4000000) only [hjb,G4]
                repeat' (first | with_reducible assumption | with_reducible refine And.intro ?_ ?_ | intro _ | omega | (rw [Gb]; omega))
                all_goals first
                  | (with_reducible refine G7 ?_; kernel_rfl)
                  | omega
                  | exact ⟨i + 1, by ((try simp only [Gd, Gj, Gi, Gs, upd, Gt, G5, Hn, Nat.reduceDiv, Nat.reduceMod, Nat.reduceMul, Nat.reduceAdd, Nat.reduceEqDiff, List.set_cons_zero, List.set_cons_succ, if_true, if_false, reduceIte]); (first | refine Wk.of_fl ?_ | skip); simp only [Wk, wkK, Ht, wkT, wk1, AV.kept, keptAll, wkO, lk, Ge, and_true, true_and, and_self, Nat.reduceEqDiff, Nat.reduceLeDiff, if_true, if_false, reduceIte, reduceCtorEq, Option.isSome, false_implies]; try simp [Wk, wkK, wkT, wk1, AV.kept, keptAll, wkO, lk, Ge]), by omega, by omega⟩
                  | skip)))
    · (sym =>
       simp [hlb,N1,N4,N3,N5,N0,Nz,Gn.eq_def,con_GraphBehind.eq_def,G6.eq_def,Gv.eq_def,Gk.eq_def,Gm.eq_def,Gu.eq_def,Za,Zb,Zc,Zd,Ze,Zf,Zg,Zh,Zi,Zj,Zk,Zl,Zm,Zn,Zo,Zp,Zq,Zr,Zs,Zt,Zu,Zv,Zw,Zx,Zy,Zz,Z5,Z6,Z7,Z8,Z9,Qa,Qb,Qc,Qd,Qe,Qf,Qh,Qi,Qj,Qk,Ql,Qm,Qn,Qo,Qp,Qq,Qw,Qx,Qz,Q0,Q1,Q3,Q4,Q5,Ja,Jc,Jd,Je,Jf,Jg,Jn,Jo,Jp,Jq,Jr,Js,Jt,Ju,Jv,Jw,Jx,Jy,Jz,J0,J1,J2,J3,J4,J5,J6,J7,J8,J9,Xa,Xd,Xe,Xf,Xg,Xh,Xi,Xj,Xk,Xl,Xm,Xn,Xo,Xp,Xq,Xr,Xs,Xt,Xu,Xv,Xw,Xx,Xy,Xz,X0,X1,X2,X3,X4,X5,X6,X7,X8,X9,Wa,Wb,Wc,Wd,We,Wf,Wg,Wh,Wi,Wj,Wl,Wm,Wn,Wo,Wp,Wq,Wr,Ws,Wt,Wu,Wv,Ww,Wx,Wy,Wz,W0,W3,W4,W5,W6,W7,W8,W9,Ya,Yb,Yc,Yd,Ye,Yf,Yg,Yh,Yi,Yj,Yk,Yl,Ym,Yn,Yo,Yp,Yq,Yr,Ys,Yt,Yu,Yv,Yw,Yx,Yy,Yz,Y0,Y1,Y2,Y3,Y4,Y5,Y6,Y7,Y8,Y9,Va,Vb,Vc,Vd,Ve,Vf,Vg,Vh,Vi,Vj,Vk,Vl,Vm,Vn,Vo,Vp,Vq,Vr,Vs,Vt,Vu,Vv,Vw,Vx,Vy,Vz,V0,V1,V2,V3,V4,V5,V6,V7,V8,V9,Ua,Ub,Uc,Ud,Ue,Uf,Ug,Uh,Ui,Uj,Uk,Ul,Um,Un,Uo,Up,Us,Ut,Uu,Uv,Uw,Ux,Uy,Uz,U0,U1,U2,U3,U4,U5,U6,U7,U8,U9,Ka,Kb,Kc,Kd,Ke,Kf,Kg,Kh,Ki,Kj,Kk,Kl,Km,Kn,Ko,Kq,Kr,Ks,Kt,Ku,K1,K2,K3,K4,K5,K6,K7,Ga,Gx,Hd,Hb,Gq,Hi,Nx,Gy,Gp]))
end Go.Am.Graph
set_option linter.unusedSimpArgs false
set_option linter.unusedVariables false
set_option maxHeartbeats 1000000
namespace Go.Am.Graph
open Go.Proofs Go.Sort
theorem findR_ex {l : List Mod} {s : List UInt8} : (∃ j, Hr l s = some j) ↔ ∃ k, k < l.length ∧ nm l k = s :=
  ⟨fun ⟨j, h⟩ => ⟨j, Mr h, Pz h⟩, fun ⟨k, h, e⟩ => by subst e; obtain ⟨j, h1, _⟩ := Rl h; exact ⟨j, h1⟩⟩
theorem uniq_of {l : List Mod} (h : ∀ a b, a < l.length → b < l.length → nm l a = nm l b → a = b) : Lk l := fun k hk => by
  obtain ⟨j, h1, h2⟩ := Rl hk
  rw [h1, h j k (Mr h1) hk (Pz h1)]
structure Alike8 (l r : List Mod) : Prop where
  ul : Lk l
  ur : Lk r
  lr : ∀ k, k < l.length → ∃ j, j < r.length ∧ nm r j = nm l k ∧ imp r j = imp l k
  rl : ∀ j, j < r.length → ∃ k, k < l.length ∧ nm l k = nm r j ∧ imp l k = imp r j
theorem Alike8.symm {l r : List Mod} (h : Alike8 l r) : Alike8 r l := ⟨h.ur, h.ul, h.rl, h.lr⟩
theorem Alike8.mem {l r : List Mod} (h : Alike8 l r) (s : List UInt8) : s ∈ Hl l ↔ s ∈ Hl r := by
  rw [Pn, Pn, findR_ex, findR_ex]
  exact ⟨fun ⟨k, hk, e⟩ => by obtain ⟨j, hj, e2, _⟩ := h.lr k hk; exact ⟨j, hj, e2.trans e⟩, fun ⟨k, hk, e⟩ => by obtain ⟨j, hj, e2, _⟩ := h.rl k hk; exact ⟨j, hj, e2.trans e⟩⟩
theorem Alike8.names {l r : List Mod} (h : Alike8 l r) : Hl l = Hl r :=
  List.Perm.eq_of_pairwise (le := fun a b => a ≤ b) (fun a b _ _ h1 h2 => List.le_antisymm h1 h2) (R6 l) (R6 r) ((List.perm_ext_iff_of_nodup (E6 l) (E6 r)).2 h.mem)
theorem Alike8.may {l r : List Mod} (h : Alike8 l r) {C : List (List UInt8)} {s : List UInt8} (hs : s ∈ Hl l) : Er l C s = Er r C s := by
  obtain ⟨k, hk, rfl⟩ := T2 hs
  obtain ⟨j, hj, e1, e2⟩ := h.lr k hk
  rw [Bool.eq_iff_iff, Ds h.ul hk, ← e1, Ds h.ur hj, e2]
theorem idxP_congr {α : Type} {p q : α → Bool} {l : List α} (h : ∀ x ∈ l, p x = q x) : Bk p l = Bk q l := by
  unfold Bk
  have : l.findIdx? p = l.findIdx? q := by
    induction l with
    | nil => rfl
    | cons x l ih => rw [List.findIdx?_cons, List.findIdx?_cons, h x (List.mem_cons_self ..), ih fun y hy => h y (List.mem_cons_of_mem _ hy)]
  rw [this]
theorem Alike8.cameS {l r : List Mod} (h : Alike8 l r) : ∀ n, N7 l n = N7 r n
  | 0 => rfl
  | n + 1 => by
    have ih := h.cameS n
    have e1 : N7 l (n + 1) = cond (ltB (Bk (Er l (N7 l n)) (Hl l)) 0) (N7 l n) (N7 l n ++ [(Hl l).getD (Bk (Er l (N7 l n)) (Hl l)).toNat []]) := rfl
    have e2 : N7 r (n + 1) = cond (ltB (Bk (Er r (N7 r n)) (Hl r)) 0) (N7 r n) (N7 r n ++ [(Hl r).getD (Bk (Er r (N7 r n)) (Hl r)).toNat []]) := rfl
    rw [e1, e2, ih, idxP_congr (q := Er r (N7 r n)) (l := Hl l) fun x hx => h.may hx, h.names]
theorem Alike8.succ {l r : List Mod} (h : Alike8 l r) {k j k' j' : Nat} (hs : A4 l k j) (hk : k' < r.length) (ek : nm r k' = nm l k) (hj : j' < r.length) (ej : nm r j' = nm l j) : A4 r k' j' := by
  obtain ⟨s, hs, hf⟩ := hs
  have hkl := (C0 ⟨s, hs, hf⟩ : k < l.length ∧ j < l.length).1
  obtain ⟨k2, hk2, e1, e2⟩ := h.lr k hkl
  have : k' = k2 := Rd h.ur hk hk2 (ek.trans e1.symm)
  subst this
  refine ⟨s, by rw [e2]; exact hs, ?_⟩
  rw [← Pz hf, ← ej]
  exact h.ur j' hj
theorem Alike8.path {l r : List Mod} (h : Alike8 l r) {k j : Nat} (hp : Path l k j) : ∀ {k' j' : Nat}, k' < r.length → nm r k' = nm l k → j' < r.length → nm r j' = nm l j → Path r k' j' := by
  induction hp with
  | one hs => intro k' j' hk ek hj ej; exact .one (h.succ hs hk ek hj ej)
  | more hs hp ih =>
    intro k' j' hk ek hj ej
    obtain ⟨i', hi, ei, _⟩ := h.lr _ (C0 hs).2
    exact .more (h.succ hs hk ek hi ei) (ih hi ei hj ej)
theorem Alike8.cyc {l r : List Mod} (h : Alike8 l r) : Cyc l → Cyc r := fun ⟨k, hk⟩ => by
  obtain ⟨j, hj, e, _⟩ := h.lr k (T1 hk).1
  exact ⟨j, h.path hk hj e hj e⟩
theorem Alike8.full {l r : List Mod} (h : Alike8 l r) (hF : E3 l) : E3 r := fun j hj s hs => by
  obtain ⟨k, hk, e1, e2⟩ := h.rl j hj
  obtain ⟨i, hi⟩ := hF k hk s (by rw [e2]; exact hs)
  have : s ∈ Hl l := Pn.2 ⟨i, hi⟩
  exact Pn.1 ((h.mem s).1 this)
theorem O8 {l : List Mod} {k : Nat} (hk : k < l.length) : l.reverse.getD k m0 = l.getD (l.length - 1 - k) m0 := by
  rw [List.getD_eq_getElem?_getD, List.getD_eq_getElem?_getD, List.getElem?_reverse hk]
theorem rev_uniq {l : List Mod} (h : Lk l) : Lk l.reverse := uniq_of fun a b ha hb e => by
  rw [List.length_reverse] at ha hb
  unfold nm at e
  rw [O8 ha, O8 hb] at e
  have := Rd h (a := l.length - 1 - a) (b := l.length - 1 - b) (by omega) (by omega) e
  omega
theorem rev_alike {l : List Mod} (h : Lk l) : Alike8 l l.reverse := by
  refine ⟨h, rev_uniq h, fun k hk => ⟨l.length - 1 - k, by rw [List.length_reverse]; omega, ?_, ?_⟩, fun j hj => ?_⟩
  · unfold nm
    rw [O8 (by omega), show l.length - 1 - (l.length - 1 - k) = k by omega]
  · unfold imp
    rw [O8 (by omega), show l.length - 1 - (l.length - 1 - k) = k by omega]
  · rw [List.length_reverse] at hj
    refine ⟨l.length - 1 - j, by omega, ?_, ?_⟩
    · unfold nm; rw [O8 hj]
    · unfold imp; rw [O8 hj]
theorem rev_few {l : List Mod} (h : Ph l = true) : Ph l.reverse = true := by
  unfold Ph at h ⊢
  rw [List.length_reverse, List.all_reverse]
  exact h
def TurnOk (l : List Mod) (A B : Sl Int × Int × Int) : Prop := A.2.2 = B.2.2 ∧ A.1.l.length = B.1.l.length ∧
  (∀ i, i < A.1.l.length → ∃ p q : Nat, A.1.l.getD i 0 = p ∧ B.1.l.getD i 0 = q ∧ p < l.length ∧ q < l.length ∧ nm l p = nm l.reverse q) ∧
  (A.2.2 = 8 → ∃ p q : Nat, A.2.1 = p ∧ B.2.1 = q ∧ p < l.length ∧ q < l.length ∧ nm l p = nm l.reverse q)
theorem cyc_best {l : List Mod} {k : Nat} (hk : k < l.length) (h : Mt l ((List.range l.length).map (E2 l)) l.length = k) : Path l k k ∧ ∀ j, Path l j j → nm l k ≤ nm l j := by
  rcases Ru (l := l) (is := (List.range l.length).map (E2 l)) l.length with ⟨h2, _⟩ | ⟨k', h2, hk', his, hle⟩
  · rw [h] at h2; omega
  · rw [h] at h2
    have : k = k' := by omega
    subst this
    rw [T4 hk] at his
    refine ⟨Nv.1 his, fun j hj => ?_⟩
    have hjl := (T1 hj).1
    exact hle j hjl (by rw [T4 hjl]; exact Nv.2 hj)
theorem turn_ok {l : List Mod} (hf : Ph l = true) : TurnOk l (M4 l) (M4 l.reverse) := by
  have h1 := Ah hf
  have h2 := Ah (rev_few hf)
  generalize M4 l = A at h1
  generalize M4 l.reverse = B at h2
  have hUU : Lk l.reverse → Lk l := fun h => by have := rev_uniq h; rwa [List.reverse_reverse] at this
  have nope : ∀ {P : Nat → Prop}, ∀ i, i < ([] : List Int).length → P i := fun i h => absurd h (Nat.not_lt_zero _)
  cases h1 with
  | dup i _ nu =>
    cases h2 with
    | dup => exact ⟨rfl, rfl, nope, fun h => (by cases h)⟩
    | lack _ _ u => exact absurd (hUU u) nu
    | cyc _ u => exact absurd (hUU u) nu
    | fine u => exact absurd (hUU u) nu
  | lack i _ u nf =>
    have al := rev_alike u
    cases h2 with
    | dup _ _ nu => exact absurd al.ur nu
    | lack => exact ⟨rfl, rfl, nope, fun h => (by cases h)⟩
    | cyc _ _ f => exact absurd (al.symm.full f) nf
    | fine _ f => exact absurd (al.symm.full f) nf
  | cyc k u f c hk hb =>
    have al := rev_alike u
    cases h2 with
    | dup _ _ nu => exact absurd al.ur nu
    | lack _ _ _ nf => exact absurd (al.full f) nf
    | cyc k' _ _ _ hk' hb' =>
      have hk2 := hk'
      rw [List.length_reverse] at hk2
      refine ⟨rfl, rfl, nope, fun _ => ⟨k, k', rfl, rfl, hk, hk2, ?_⟩⟩
      obtain ⟨a1, a2⟩ := cyc_best hk hb
      obtain ⟨b1, b2⟩ := cyc_best hk' hb'
      obtain ⟨j, hj, e, _⟩ := al.lr k hk
      obtain ⟨j', hj', e', _⟩ := al.rl k' hk'
      have c1 := b2 j (al.path a1 hj e hj e)
      have c2 := a2 j' (al.symm.path b1 hj' e' hj' e')
      rw [e] at c1
      rw [e'] at c2
      exact List.le_antisymm c2 c1
    | fine _ _ a => exact absurd (al.cyc c) a
  | fine u f a =>
    have al := rev_alike u
    cases h2 with
    | dup _ _ nu => exact absurd al.ur nu
    | lack _ _ _ nf => exact absurd (al.full f) nf
    | cyc _ _ _ c => exact absurd (al.symm.cyc c) a
    | fine _ _ _ =>
      have hc := al.cameS l.length
      rw [List.length_reverse, ← hc]
      refine ⟨rfl, by simp, fun i hi => ?_, fun h => (by cases h)⟩
      simp only [List.length_map] at hi
      obtain ⟨_, n1, _, _⟩ := Sv u l.length
      have hin : (N7 l l.length)[i] ∈ Hl l := n1 _ (List.getElem_mem hi)
      obtain ⟨p, hp, ep⟩ := T2 hin
      obtain ⟨q, hq, eq, _⟩ := al.lr p hp
      have hq2 := hq
      rw [List.length_reverse] at hq2
      refine ⟨p, q, ?_, ?_, hp, hq2, eq.symm⟩
      · simp [hi, ← ep, O3 u hp]
      · simp [hi, ← ep, ← eq, O3 al.ur hq]
def Bm (s : List UInt8) : Mod := ⟨s, [], [], []⟩
section
variable {l : List Mod} {s : List UInt8}
theorem more_at {k : Nat} (hk : k < l.length) : (l ++ [Bm s]).getD k m0 = l.getD k m0 := by
  rw [List.getD_eq_getElem?_getD, List.getD_eq_getElem?_getD, List.getElem?_append_left hk]
theorem more_end : (l ++ [Bm s]).getD l.length m0 = Bm s := by
  rw [List.getD_eq_getElem?_getD, List.getElem?_append_right (Nat.le_refl _)]
  simp
theorem Pt : (l ++ [Bm s]).length = l.length + 1 := by simp
theorem Ei {t : List UInt8} {j : Nat} (h : Hr l t = some j) : Hr (l ++ [Bm s]) t = some j := by rw [Cs, h]
theorem more_none {t : List UInt8} (h : Hr l t = none) (ht : t ≠ s) : Hr (l ++ [Bm s]) t = none := by
  (rw [Cs, h])
  exact if_neg (fun e => ht e.symm)
theorem more_new (h : Hr l s = none) : Hr (l ++ [Bm s]) s = some l.length := by
  (rw [Cs, h])
  exact if_pos rfl
theorem Dr {k : Nat} (hk : k < l.length) : nm (l ++ [Bm s]) k = nm l k := by unfold nm; rw [more_at hk]
theorem more_imp {k : Nat} (hk : k < l.length) : imp (l ++ [Bm s]) k = imp l k := by unfold imp; rw [more_at hk]
theorem Ij : nm (l ++ [Bm s]) l.length = s := by unfold nm; rw [more_end]; rfl
theorem more_imp_end : imp (l ++ [Bm s]) l.length = [] := by unfold imp; rw [more_end]; rfl
theorem Rh (hs : Hr l s = none) (h : Lk l) : Lk (l ++ [Bm s]) := fun k hk => by
  rw [Pt] at hk
  by_cases e : k = l.length
  · subst e
    rw [Ij, more_new hs]
  · have hk2 : k < l.length := by omega
    rw [Dr hk2]
    exact Ei (h k hk2)
theorem more_uniq' (h : Lk (l ++ [Bm s])) : Lk l := uniq_of fun a b ha hb e => Rd h (by rw [Pt]; omega) (by rw [Pt]; omega) (by rw [Dr ha, Dr hb, e])
theorem more_full (h : E3 l) : E3 (l ++ [Bm s]) := fun k hk t ht => by
  rw [Pt] at hk
  by_cases e : k = l.length
  · subst e
    rw [more_imp_end] at ht
    cases ht
  · have hk2 : k < l.length := by omega
    rw [more_imp hk2] at ht
    obtain ⟨j, hj⟩ := h k hk2 t ht
    exact ⟨j, Ei hj⟩
theorem I0 (hF : E3 l) {k j : Nat} : A4 (l ++ [Bm s]) k j ↔ A4 l k j := by
  constructor
  · rintro ⟨t, ht, hj⟩
    have hk := (C0 ⟨t, ht, hj⟩ : k < _ ∧ j < _).1
    rw [Pt] at hk
    by_cases e : k = l.length
    · subst e
      rw [more_imp_end] at ht
      cases ht
    · have hk2 : k < l.length := by omega
      rw [more_imp hk2] at ht
      obtain ⟨j', hj'⟩ := hF k hk2 t ht
      rw [Ei hj'] at hj
      injection hj with hj
      subst hj
      exact ⟨t, ht, hj'⟩
  · rintro ⟨t, ht, hj⟩
    have hk := (C0 ⟨t, ht, hj⟩ : k < l.length ∧ j < l.length).1
    exact ⟨t, by rw [more_imp hk]; exact ht, Ei hj⟩
theorem I1 (hF : E3 l) {k j : Nat} : Path (l ++ [Bm s]) k j ↔ Path l k j := by
  constructor
  · intro h
    induction h with
    | one h => exact .one ((I0 hF).1 h)
    | more h _ ih => exact .more ((I0 hF).1 h) ih
  · intro h
    induction h with
    | one h => exact .one ((I0 hF).2 h)
    | more h _ ih => exact .more ((I0 hF).2 h) ih
theorem more_cyc (hF : E3 l) : Cyc (l ++ [Bm s]) ↔ Cyc l := ⟨fun ⟨k, h⟩ => ⟨k, (I1 hF).1 h⟩, fun ⟨k, h⟩ => ⟨k, (I1 hF).2 h⟩⟩
theorem more_names (hs : Hr l s = none) {t : List UInt8} : t ∈ Hl (l ++ [Bm s]) ↔ t ∈ Hl l ∨ t = s := by
  rw [Pn, Pn]
  cases hf : Hr l t with
  | some j => exact ⟨fun _ => .inl ⟨j, rfl⟩, fun _ => ⟨j, Ei hf⟩⟩
  | none =>
    by_cases e : t = s
    · subst e
      exact ⟨fun _ => .inr rfl, fun _ => ⟨_, more_new hs⟩⟩
    · rw [more_none hf e]
      exact ⟨fun ⟨k, hk⟩ => (by cases hk), fun h => by
        rcases h with ⟨k, hk⟩ | h
        · cases hk
        · exact absurd h e⟩
theorem more_may (hs : Hr l s = none) (hU : Lk l) (hF : E3 l) {C : List (List UInt8)} {t : List UInt8} (ht : t ∈ Hl l) : Er (l ++ [Bm s]) C t = Er l (C.filter (· != s)) t := by
  obtain ⟨k, hk, rfl⟩ := T2 ht
  have hne : ∀ {t : List UInt8}, (∃ j, Hr l t = some j) → t ≠ s := by
    rintro t ⟨j, hj⟩ rfl
    rw [hs] at hj
    cases hj
  have hk2 : nm l k ≠ s := hne ⟨k, hU k hk⟩
  rw [Bool.eq_iff_iff, Ds hU hk, ← Dr (s := s) hk, Ds (Rh hs hU) (by rw [Pt]; omega), more_imp hk, Dr hk]
  refine and_congr (not_congr ?_) (forall_congr' fun t => forall_congr' fun ht => ?_)
  · rw [List.mem_filter, bne_iff_ne]
    exact ⟨fun h => ⟨h, hk2⟩, fun h => h.1⟩
  · rw [List.mem_filter, bne_iff_ne]
    exact ⟨fun h => ⟨h, hne (hF k hk t ht)⟩, fun h => h.1⟩
theorem came_more (hs : Hr l s = none) (hU : Lk l) (hF : E3 l) (hA : ¬ Cyc l) : ∀ r, ∃ q, q ≤ l.length ∧ (N7 (l ++ [Bm s]) r).filter (· != s) = N7 l q
  | 0 => ⟨0, Nat.zero_le _, rfl⟩
  | r + 1 => by
    obtain ⟨q, hq, h⟩ := came_more hs hU hF hA r
    rcases Cz (l ++ [Bm s]) r with ⟨e, _, _⟩ | ⟨y, e, hy, hm, hle, _, _⟩
    · exact ⟨q, hq, by rw [e, h]⟩
    · rcases (more_names hs).1 hy with hyl | rfl
      · have hys : y ≠ s := by
          rintro rfl
          obtain ⟨j, hj⟩ := Pn.1 hyl
          rw [hs] at hj
          cases hj
        have hf : (N7 (l ++ [Bm s]) (r + 1)).filter (· != s) = N7 l q ++ [y] := by
          rw [e, List.filter_append, h]
          congr 1
          simp [hys]
        rw [more_may hs hU hF hyl, h] at hm
        rcases Cz l q with ⟨_, _, hno⟩ | ⟨y', e', hy', hm', hle', _, _⟩
        · rw [hno y hyl] at hm
          cases hm
        · have h1 := hle' y hyl hm
          have h2 := hle y' ((more_names hs).2 (.inl hy')) (by rw [more_may hs hU hF hy', h]; exact hm')
          have : y = y' := List.le_antisymm h2 h1
          subst this
          refine ⟨q + 1, ?_, by rw [hf, e']⟩
          obtain ⟨n1, n2, _, _⟩ := Sv hU (q + 1)
          have h3 := Cq n1 n2
          rw [names_len hU, e', List.length_append, P6 hU hF hA q hq] at h3
          simpa using h3
      · exact ⟨q, hq, by rw [e, List.filter_append, h]; simp⟩
theorem same_one {α : Type} {x : α} : ∀ {l : List α}, l.Nodup → (∀ y ∈ l, y = x) → l.length ≤ 1
  | [], _, _ => Nat.zero_le _
  | [_], _, _ => Nat.le_refl _
  | a :: b :: l, hn, h => by
    have h1 := h a (List.mem_cons_self ..)
    have h2 := h b (List.mem_cons_of_mem _ (List.mem_cons_self ..))
    rw [List.nodup_cons] at hn
    exact absurd (by rw [h1, ← h2]; exact List.mem_cons_self ..) hn.1
theorem filter_split {α : Type} (p : α → Bool) : ∀ l : List α, l.length = (l.filter p).length + (l.filter fun x => !p x).length
  | [] => rfl
  | x :: l => by
    have := filter_split p l
    cases h : p x <;> simp [h] <;> omega
theorem came_more_all (hs : Hr l s = none) (hU : Lk l) (hF : E3 l) (hA : ¬ Cyc l) : (N7 (l ++ [Bm s]) (l.length + 1)).filter (· != s) = N7 l l.length := by
  obtain ⟨q, hq, h⟩ := came_more hs hU hF hA (l.length + 1)
  have hU2 := Rh hs hU
  have h1 := P6 hU2 (more_full hF) (fun h => hA ((more_cyc hF).1 h)) (l.length + 1) (by rw [Pt]; exact Nat.le_refl _)
  obtain ⟨n1, _, _, _⟩ := Sv hU2 (l.length + 1)
  have h2 := filter_split (· != s) (N7 (l ++ [Bm s]) (l.length + 1))
  have h3 : ((N7 (l ++ [Bm s]) (l.length + 1)).filter fun x => !(x != s)).length ≤ 1 := same_one (x := s) (n1.filter _) fun y hy => by
    have := (List.mem_filter.1 hy).2
    simpa using this
  have h4 := P6 hU hF hA q hq
  rw [h] at h2
  have : q = l.length := by omega
  rw [h, this]
theorem more_few (hf : Ph l = true) (h1 : l.length ≤ 19) (h2 : s.length ≤ 100) : Ph (l ++ [Bm s]) = true := by
  unfold Ph at hf ⊢
  rw [Bool.and_eq_true] at hf ⊢
  refine ⟨?_, ?_⟩
  · rw [Pt, Bool.not_eq_true', Hq]
    omega
  · rw [List.all_append, hf.2]
    have : Tc s = true := by unfold Tc; rw [Bool.not_eq_true', Hq]; omega
    simp [okM,Bm,this]
    decide
theorem best_more (is is2 : List Bool) (h : ∀ k, k < l.length → is2.getD k false = is.getD k false) : ∀ n, n ≤ l.length → Mt (l ++ [Bm s]) is2 n = Mt l is n
  | 0, _ => rfl
  | n + 1, hn => by
    rw [Mt, Mt, best_more is is2 h n (by omega), h n (by omega), Dr (by omega)]
    rcases bestN_lt l is n with h1 | ⟨h1, h2⟩
    · rw [h1]
      rfl
    · rw [Dr (by omega)]
def MoreOk (l : List Mod) (A B : Sl Int × Int × Int) : Prop := (A.2.2 = 6 → B.2.2 ≠ 7) ∧ (A.2.2 ≠ 6 → A.2.2 = B.2.2 ∧ (A.2.2 ≠ 0 → A.2.1 = B.2.1) ∧
  (A.2.2 = 0 → B.1.l.length = l.length + 1 ∧ B.1.l.filter (· != (l.length : Int)) = A.1.l))
theorem more_ok (hf : Ph l = true) (h19 : l.length ≤ 19) (h100 : s.length ≤ 100) (hs : Hr l s = none) : MoreOk l (M4 l) (M4 (l ++ [Bm s])) := by
  have h1 := Ah hf
  have h2 := Ah (more_few hf h19 h100)
  generalize M4 l = A at h1
  generalize M4 (l ++ [Bm s]) = B at h2
  have hdup : (List.range (l ++ [Bm s]).length).find? (Dw (l ++ [Bm s])) = (List.range l.length).find? (Dw l) := by
    rw [Pt, List.range_succ, List.find?_append, Ag (p := Dw (l ++ [Bm s])) (q := Dw l) fun k hk => ?_]
    · have : Dw (l ++ [Bm s]) l.length = false := by
        unfold Dw Hm
        rw [Ij, more_new hs]
        simp only
        rw [Hq]
        omega
      simp [this]
    · rw [List.mem_range] at hk
      unfold Dw Hm
      rw [Dr hk]
      obtain ⟨j, hj, _⟩ := Rl hk
      rw [hj, Ei hj]
  cases h1 with
  | dup i hi nu =>
    cases h2 with
    | dup i' hi' _ =>
      rw [hdup, hi] at hi'
      injection hi' with hi'
      subst hi'
      exact ⟨fun h => (by cases h), fun _ => ⟨rfl, fun _ => rfl, fun h => (by cases h)⟩⟩
    | lack _ _ u => exact absurd (more_uniq' u) nu
    | cyc _ u => exact absurd (more_uniq' u) nu
    | fine u => exact absurd (more_uniq' u) nu
  | lack i _ u nf =>
    refine ⟨fun _ => ?_, fun h => absurd rfl h⟩
    cases h2 with
    | dup _ _ nu => exact absurd (Rh hs u) nu
    | lack => exact fun h => (by cases h)
    | cyc => exact fun h => (by cases h)
    | fine => exact fun h => (by cases h)
  | cyc k u f c hk hb =>
    refine ⟨fun h => (by cases h), fun _ => ?_⟩
    cases h2 with
    | dup _ _ nu => exact absurd (Rh hs u) nu
    | lack _ _ _ nf => exact absurd (more_full f) nf
    | cyc k' _ _ _ hk' hb' =>
      refine ⟨rfl, fun _ => ?_, fun h => (by cases h)⟩
      have hno : ((List.range (l ++ [Bm s]).length).map (E2 (l ++ [Bm s]))).getD l.length false = false := by
        rw [T4 (by rw [Pt]; omega), ← Bool.not_eq_true]
        intro h
        have h3 : Path (l ++ [Bm s]) l.length l.length := Nv.1 h
        have := (T1 ((I1 f).1 h3)).1
        omega
      have hb2 := hb'
      rw [Pt] at hno
      rw [Pt, Mt, hno, Bool.false_and, cond_false, best_more ((List.range l.length).map (E2 l)) _ (fun k hk => by
        rw [T4 hk, T4 (by omega), Bool.eq_iff_iff]
        show (H2 _ _).getD _ _ = true ↔ (H2 _ _).getD _ _ = true
        rw [Nv, Nv, I1 f]) l.length (Nat.le_refl _), hb] at hb2
      exact hb2
    | fine _ _ a => exact absurd ((more_cyc f).2 c) a
  | fine u f a =>
    refine ⟨fun h => (by cases h), fun _ => ?_⟩
    cases h2 with
    | dup _ _ nu => exact absurd (Rh hs u) nu
    | lack _ _ _ nf => exact absurd (more_full f) nf
    | cyc _ _ _ c => exact absurd ((more_cyc f).1 c) a
    | fine u2 f2 a2 =>
      refine ⟨rfl, fun h => absurd rfl h, fun _ => ⟨?_, ?_⟩⟩
      · simp only [List.length_map]
        rw [P6 u2 f2 a2 _ (Nat.le_refl _), Pt]
      · simp only
        rw [Pt, List.filter_map, ← came_more_all hs u f a]
        obtain ⟨_, n2, _, _⟩ := Sv u2 (l.length + 1)
        have hat : ∀ t ∈ N7 (l ++ [Bm s]) (l.length + 1), (((· != (l.length : Int)) ∘ atM (Gw (l ++ [Bm s]))) t) = (t != s) ∧ (t ≠ s → atM (Gw (l ++ [Bm s])) t = atM (Gw l) t) := fun t ht => by
          obtain ⟨k, hk, e⟩ := T2 (n2 t ht)
          subst e
          rw [Pt] at hk
          have h1 := O3 u2 (k := k) (by rw [Pt]; omega)
          show (_ != _) = _ ∧ _
          rw [h1]
          by_cases e : k = l.length
          · subst e
            rw [Ij]
            refine ⟨by simp, fun h => absurd rfl h⟩
          · have hk2 : k < l.length := by omega
            rw [Dr hk2, O3 u hk2]
            refine ⟨?_, fun _ => rfl⟩
            have h3 : nm l k ≠ s := by
              intro h4
              have := u k hk2
              rw [h4, hs] at this
              cases this
            rw [bne_iff_ne.2 h3, bne_iff_ne]
            omega
        rw [List.filter_congr fun t ht => (hat t ht).1]
        refine List.map_congr_left fun t ht => ?_
        rw [List.mem_filter, bne_iff_ne] at ht
        exact (hat t ht.1).2 ht.2
end
end Go.Am.Graph
set_option linter.unusedSimpArgs false
set_option linter.unusedVariables false
set_option maxHeartbeats 4000000
namespace Go.Am.Graph
open Go.Proofs
open Enc (enc dec)
theorem rev_take {l : List Mod} {k n : Nat} (h : k < l.length) (hn : (l.length : Int) - 1 - k = n) : l.reverse.take (k + 1) = l.reverse.take k ++ [l.getD n m0] := by
  have hk : k < l.reverse.length := by rw [List.length_reverse]; exact h
  rw [List.take_succ_eq_append_getElem hk]
  have h1 := O8 h
  rw [show l.length - 1 - k = n by omega] at h1
  rw [← h1]
  simp [h]
def con_GraphTurned : Con := Oo (fun (l : Sl Mod) => Lo l.l.length) (fun _ => true)
noncomputable def Po : Ctx := ⟨tab, lkC [(10, Gn), (11, Gm), (12, Gk)], 60, lkB [], [], false⟩
theorem Mw : Po.τ = tab := rfl
theorem My : Po.Γ = lkC [(10, Gn), (11, Gm), (12, Gk)] := rfl
theorem Mx : Po.dp = 60 := rfl
theorem Mz : Po.Δ = lkB [] := rfl
theorem Mv : Po.cuts = [] := rfl
theorem Mu : Po.wr = false := rfl
set_option maxRecDepth 100000 in
theorem good_GraphTurned : Ck Try.prog (4, con_GraphTurned) := by
  refine ⟨Hh Try.func4 (by kernel_rfl) rfl, ?_⟩
  have K : Mj Try.prog Po := Nj P8 Ny (by
    intro p hp
    simp only [List.mem_cons, List.not_mem_nil, or_false] at hp
    rcases hp with rfl | rfl | rfl
    · exact Cr
    · exact Th
    · exact Tw) (by simp)
  obtain ⟨c, hc⟩ : ∃ c, Try.f4.body = some c := ⟨_, rfl⟩
  refine Mi K Try.func4 hc [.tmp 2] rfl 94 rfl (fun cvs hpre => ?_)
  change con_GraphTurned.pre cvs at hpre
  unfold con_GraphTurned at hpre
  obtain ⟨⟨l⟩, rfl, hl⟩ := St hpre
  simp only at hl
  clear hpre
  cases hf : Ph l with
  | false =>
    simp only [Try.f4, Option.some.injEq] at hc
    subst hc
    refine Nu 5 (of_decide_eq_true (by kernel_rfl)) ?_
    (sym =>
     simp [hf,Mw,My,Mx,Mz,Mv,Mu,Gn.eq_def,con_GraphTurned.eq_def,Gk.eq_def,Gm.eq_def,Za,Zb,Zc,Zd,Ze,Zf,Zg,Zh,Zi,Zj,Zk,Zl,Zm,Zn,Zo,Zp,Zq,Zr,Zs,Zt,Zv,Zx,Zy,Z0,Z3,Z4,Z5,Z6,Z7,Z8,Z9,Qa,Qb,Qc,Qd,Qe,Qf,Qj,Qk,Ql,Qm,Qn,Qo,Qp,Qq,Qw,Qx,Qz,Q0,Q1,Q3,Q4,Q5,Q6,Q7,Q8,Q9,Ja,Jb,Jc,Jd,Je,Jf,Jg,Jn,Jr,Js,Jt,Ju,Jv,Jw,Jz,J0,J1,J2,J3,J4,J5,J6,J7,J8,J9,Xa,Xb,Xc,Xd,Xe,Xf,Xg,Xh,Xi,Xj,Xk,Xl,Xm,Xn,Xo,Xp,Xq,Xr,Xs,Xu,Xv,Xw,Xx,Xy,Xz,X0,X1,X2,X3,X4,X5,X6,X7,X8,X9,Wa,Wb,Wc,Wd,We,Wf,Wg,Wh,Wi,Wj,Wl,Wm,Wn,Wo,Wp,Wq,Wr,Ws,Wt,Wu,Wv,Ww,Wx,Wy,Wz,W0,W3,W4,W5,W6,W7,W8,W9,Ya,Yb,Yc,Yf,Yg,Yh,Yi,Yj,Yk,Yl,Ym,Yn,Yo,Yp,Yq,Yr,Ys,Yt,Yu,Yv,Yw,Yx,Yy,Yz,Y0,Y1,Y2,Y3,Y4,Y5,Y6,Y7,Y8,Y9,Va,Vb,Vc,Vd,Ve,Vf,Vg,Vh,Vi,Vj,Vk,Vl,Vm,Vn,Vo,Vp,Vq,Vr,Vs,Vt,Vu,Vv,Vw,Vx,Vy,Vz,V0,V1,V2,V3,V4,V5,V6,V7,V8,V9,Ua,Ub,Uc,Ud,Ue,Uf,Ug,Uh,Ui,Uo,Up,Uq,Ur,Us,Ut,Uu,Uv,Uw,Ux,Uy,Uz,U0,U1,U2,U3,U4,U5,U6,U7,U8,U9,Ka,Kb,Kc,Kd,Ke,Kf,Kg,Kh,Ki,Kj,Kk,Kl,Km,Kn,Ko,Kq,Kr,Ks,Kt,Ku,K1,K2,K3,K4,K5,K6,K7,Ga,Gx,Hd,Hb,Gq,Hi,Nx,Gp]
     tactic =>
      try simp only [Gl] at *
      try simp only [nc2] at *
      try simp (maxSteps := 4000000) only [hf,G4]
      repeat' (first | with_reducible assumption | with_reducible refine And.intro ?_ ?_ | intro _ | omega | (rw [Gb]; omega))
      all_goals first
        | assumption
        | omega
        | rfl
        | skip)
  | true =>
  have hl20 := Px hf
  have hfr := rev_few hf
  have hT := turn_ok hf
  have ha20 := Rg hf
  have hb20 := Rg hfr
  obtain ⟨X, hX⟩ : ∃ X, M4 l = X := ⟨_, rfl⟩
  obtain ⟨Y, hY⟩ : ∃ Y, M4 l.reverse = Y := ⟨_, rfl⟩
  rw [hX] at hT ha20
  rw [hY] at hT hb20
  obtain ⟨⟨a⟩, ia, e⟩ := X
  obtain ⟨⟨b⟩, ib, e2⟩ := Y
  obtain ⟨t1, t2, t3, t4⟩ := hT
  simp only at t1 t2 t3 t4 ha20 hb20
  subst t1
  have hee : (e != e) = false := bne_self_eq_false e
  have hab : ((a.length : Int) != (b.length : Int)) = false := by rw [bne_eq_false_iff_eq]; omega
  have hrl : l.reverse.length = l.length := List.length_reverse
  obtain ⟨r, hr⟩ : ∃ r, l.reverse = r := ⟨_, rfl⟩
  simp only [Try.f4, Option.some.injEq] at hc
  subst hc
  refine Nu 5 (of_decide_eq_true (by kernel_rfl)) ?_
  (sym =>
   simp [hf,szM,Mw,My,Mx,Mz,Mv,Mu,Gn.eq_def,con_GraphTurned.eq_def,Gk.eq_def,Gm.eq_def,Za,Zb,Zc,Zd,Ze,Zf,Zg,Zh,Zi,Zj,Zk,Zl,Zm,Zn,Zo,Zp,Zq,Zr,Zs,Zt,Zv,Zx,Zy,Z0,Z3,Z4,Z5,Z6,Z7,Z8,Z9,Qa,Qb,Qc,Qd,Qe,Qf,Qj,Qk,Ql,Qm,Qn,Qo,Qp,Qq,Qw,Qx,Qz,Q0,Q1,Q3,Q4,Q5,Q6,Q7,Q8,Q9,Ja,Jb,Jc,Jd,Je,Jf,Jg,Jn,Jr,Js,Jt,Ju,Jv,Jw,Jz,J0,J1,J2,J3,J4,J5,J6,J7,J8,J9,Xa,Xb,Xc,Xd,Xe,Xf,Xg,Xh,Xi,Xj,Xk,Xl,Xm,Xn,Xo,Xp,Xq,Xr,Xs,Xu,Xv,Xw,Xx,Xy,Xz,X0,X1,X2,X3,X4,X5,X6,X7,X8,X9,Wa,Wb,Wc,Wd,We,Wf,Wg,Wh,Wi,Wj,Wl,Wm,Wn,Wo,Wp,Wq,Wr,Ws,Wt,Wu,Wv,Ww,Wx,Wy,Wz,W0,W3,W4,W5,W6,W7,W8,W9,Ya,Yb,Yc,Yf,Yg,Yh,Yi,Yj,Yk,Yl,Ym,Yn,Yo,Yp,Yq,Yr,Ys,Yt,Yu,Yv,Yw,Yx,Yy,Yz,Y0,Y1,Y2,Y3,Y4,Y5,Y6,Y7,Y8,Y9,Va,Vb,Vc,Vd,Ve,Vf,Vg,Vh,Vi,Vj,Vk,Vl,Vm,Vn,Vo,Vp,Vq,Vr,Vs,Vt,Vu,Vv,Vw,Vx,Vy,Vz,V0,V1,V2,V3,V4,V5,V6,V7,V8,V9,Ua,Ub,Uc,Ud,Ue,Uf,Ug,Uh,Ui,Uo,Up,Uq,Ur,Us,Ut,Uu,Uv,Uw,Ux,Uy,Uz,U0,U1,U2,U3,U4,U5,U6,U7,U8,U9,Ka,Kb,Kc,Kd,Ke,Kf,Kg,Kh,Ki,Kj,Kk,Kl,Km,Kn,Ko,Kq,Kr,Ks,Kt,Ku,K1,K2,K3,K4,K5,K6,K7,Ga,Gx,Hd,Hb,Gq,Hi,Nx,Gp]
   tactic =>
    try simp only [Gl] at *
    try simp only [nc2] at *
    try simp (maxSteps := 4000000) only [hf,szM,G4]
    repeat' (first | with_reducible assumption | with_reducible refine And.intro ?_ ?_ | intro _ | omega | (rw [Gb]; omega))
    all_goals try omega
    refine Ha [20, 21, 22, 23, 24, 25, 26, 27, 28, 29, 30] (fun k : Nat => [(3, .sl 16 ((r.take k).map (enc : Mod → D)).length), (4, .d (.int .i64 ((l.length : Int) - 1 - k)))]) (fun k : Nat => [(16, .row 4 ((r.take k).map enc) 0)]) (fun k : Nat => k ≤ l.length) (fun k : Nat => l.length - k) 0 ?_ ?_ ?_
    · omega
    · ((try simp only [Gd, Gj, Gi, Gs, upd, Gt, G5, Hn, Nat.reduceDiv, Nat.reduceMod, Nat.reduceMul, Nat.reduceAdd, Nat.reduceEqDiff, List.set_cons_zero, List.set_cons_succ, if_true, if_false, reduceIte]); (first | refine Wk.of_fl ?_ | skip); simp only [Wk, wkK, Ht, wkT, wk1, AV.kept, keptAll, wkO, lk, Ge, and_true, true_and, and_self, Nat.reduceEqDiff, Nat.reduceLeDiff, if_true, if_false, reduceIte, reduceCtorEq, Option.isSome, false_implies]; try simp [Wk, wkK, wkT, wk1, AV.kept, keptAll, wkO, lk, Ge])
    rintro k hk
    rw [hr] at hY hrl t3 t4
    have hkl : (r.take k).length ≤ 20 := by rw [List.length_take]; omega
    by_cases hlt : k < l.length
    · obtain ⟨n, hn⟩ : ∃ n : Nat, (l.length : Int) - 1 - k = n := ⟨l.length - 1 - k, by omega⟩
      have hnb : leB 0 (n : Int) = true := by rw [Ss]; omega
      have hS := rev_take hlt hn
      rw [hr] at hS
      have q1 := Hp m0 (show n < l.length by omega)
      obtain ⟨x, hx⟩ : ∃ x, l.getD n m0 = x := ⟨_, rfl⟩
      rw [hx] at q1 hS
      have hnx : (n : Int) - 1 = (l.length : Int) - 1 - ((k + 1 : Nat) : Int) := by omega
      obtain ⟨R1, hR1⟩ : ∃ R, r.take k = R := ⟨_, rfl⟩
      rw [hR1] at hkl hS
      have hS2 : (r.take (k + 1)).map (enc : Mod → D) = R1.map enc ++ [enc x] := by rw [hS]; simp
      rw [hR1, hn]
      have hR1l : R1.length = k := by rw [← hR1, List.length_take]; omega
      have hml : (R1.map (enc : Mod → D)).length ≤ 20 := by rw [List.length_map]; exact hkl
      (sym =>
       simp [hnb,q1,Gg,szM,Mw,My,Mx,Mz,Mv,Mu,Gn.eq_def,con_GraphTurned.eq_def,Gk.eq_def,Gm.eq_def,Za,Zb,Zc,Zd,Ze,Zf,Zg,Zh,Zi,Zj,Zk,Zl,Zm,Zn,Zo,Zp,Zq,Zr,Zs,Zt,Zv,Zx,Zy,Z0,Z3,Z4,Z5,Z6,Z7,Z8,Z9,Qa,Qb,Qc,Qd,Qe,Qf,Qj,Qk,Ql,Qm,Qn,Qo,Qp,Qq,Qw,Qx,Qz,Q0,Q1,Q3,Q4,Q5,Q6,Q7,Q8,Q9,Ja,Jb,Jc,Jd,Je,Jf,Jg,Jn,Jr,Js,Jt,Ju,Jv,Jw,Jz,J0,J1,J2,J3,J4,J5,J6,J7,J8,J9,Xa,Xb,Xc,Xd,Xe,Xf,Xg,Xh,Xi,Xj,Xk,Xl,Xm,Xn,Xo,Xp,Xq,Xr,Xs,Xu,Xv,Xw,Xx,Xy,Xz,X0,X1,X2,X3,X4,X5,X6,X7,X8,X9,Wa,Wb,Wc,Wd,We,Wf,Wg,Wh,Wi,Wj,Wl,Wm,Wn,Wo,Wp,Wq,Wr,Ws,Wt,Wu,Wv,Ww,Wx,Wy,Wz,W0,W3,W4,W5,W6,W7,W8,W9,Ya,Yb,Yc,Yf,Yg,Yh,Yi,Yj,Yk,Yl,Ym,Yn,Yo,Yp,Yq,Yr,Ys,Yt,Yu,Yv,Yw,Yx,Yy,Yz,Y0,Y1,Y2,Y3,Y4,Y5,Y6,Y7,Y8,Y9,Va,Vb,Vc,Vd,Ve,Vf,Vg,Vh,Vi,Vj,Vk,Vl,Vm,Vn,Vo,Vp,Vq,Vr,Vs,Vt,Vu,Vv,Vw,Vx,Vy,Vz,V0,V1,V2,V3,V4,V5,V6,V7,V8,V9,Ua,Ub,Uc,Ud,Ue,Uf,Ug,Uh,Ui,Uo,Up,Uq,Ur,Us,Ut,Uu,Uv,Uw,Ux,Uy,Uz,U0,U1,U2,U3,U4,U5,U6,U7,U8,U9,Ka,Kb,Kc,Kd,Ke,Kf,Kg,Kh,Ki,Kj,Kk,Kl,Km,Kn,Ko,Kq,Kr,Ks,Kt,Ku,K1,K2,K3,K4,K5,K6,K7,Ga,Gx,Hd,Hb,Gq,Hi,Nx,Gp]
       tactic =>
        try simp only [Gl] at *
        try simp only [nc2] at *
        try simp (maxSteps := 4000000) only [hnb,q1,Gg,szM,G4]
        repeat' (first | with_reducible assumption | with_reducible refine And.intro ?_ ?_ | intro _ | omega | (rw [Gb]; omega))
        all_goals first
          | (with_reducible refine G7 ?_; kernel_rfl)
          | omega
          | exact ⟨k + 1, by rw [hS2, ← hnx, Gg]; ((try simp only [Gd, Gj, Gi, Gs, upd, Gt, G5, Hn, Nat.reduceDiv, Nat.reduceMod, Nat.reduceMul, Nat.reduceAdd, Nat.reduceEqDiff, List.set_cons_zero, List.set_cons_succ, if_true, if_false, reduceIte]); (first | refine Wk.of_fl ?_ | skip); simp only [Wk, wkK, Ht, wkT, wk1, AV.kept, keptAll, wkO, lk, Ge, and_true, true_and, and_self, Nat.reduceEqDiff, Nat.reduceLeDiff, if_true, if_false, reduceIte, reduceCtorEq, Option.isSome, false_implies]; try simp [Wk, wkK, wkT, wk1, AV.kept, keptAll, wkO, lk, Ge]); omega, by omega, by omega⟩
          | skip)
    · have hke : k = l.length := by omega
      have htr : r.take k = r := List.take_of_length_le (by omega)
      have hnb : leB 0 ((l.length : Int) - 1 - k) = false := by rw [P5]; omega
      obtain ⟨z, hz⟩ : ∃ z, (l.length : Int) - 1 - k = z := ⟨_, rfl⟩
      rw [hz] at hnb
      rw [htr, hz]
      have hrm : (r.map (enc : Mod → D)).length = r.length := List.length_map ..
      have hff := hfr
      rw [hr] at hff
      (sym =>
       simp [hnb,hX,hY,hee,hab,hrm,M3.eq_def,szM,Mw,My,Mx,Mz,Mv,Mu,Gn.eq_def,con_GraphTurned.eq_def,Gk.eq_def,Gm.eq_def,Za,Zb,Zc,Zd,Ze,Zf,Zg,Zh,Zi,Zj,Zk,Zl,Zm,Zn,Zo,Zp,Zq,Zr,Zs,Zt,Zv,Zx,Zy,Z0,Z3,Z4,Z5,Z6,Z7,Z8,Z9,Qa,Qb,Qc,Qd,Qe,Qf,Qj,Qk,Ql,Qm,Qn,Qo,Qp,Qq,Qw,Qx,Qz,Q0,Q1,Q3,Q4,Q5,Q6,Q7,Q8,Q9,Ja,Jb,Jc,Jd,Je,Jf,Jg,Jn,Jr,Js,Jt,Ju,Jv,Jw,Jz,J0,J1,J2,J3,J4,J5,J6,J7,J8,J9,Xa,Xb,Xc,Xd,Xe,Xf,Xg,Xh,Xi,Xj,Xk,Xl,Xm,Xn,Xo,Xp,Xq,Xr,Xs,Xu,Xv,Xw,Xx,Xy,Xz,X0,X1,X2,X3,X4,X5,X6,X7,X8,X9,Wa,Wb,Wc,Wd,We,Wf,Wg,Wh,Wi,Wj,Wl,Wm,Wn,Wo,Wp,Wq,Wr,Ws,Wt,Wu,Wv,Ww,Wx,Wy,Wz,W0,W3,W4,W5,W6,W7,W8,W9,Ya,Yb,Yc,Yf,Yg,Yh,Yi,Yj,Yk,Yl,Ym,Yn,Yo,Yp,Yq,Yr,Ys,Yt,Yu,Yv,Yw,Yx,Yy,Yz,Y0,Y1,Y2,Y3,Y4,Y5,Y6,Y7,Y8,Y9,Va,Vb,Vc,Vd,Ve,Vf,Vg,Vh,Vi,Vj,Vk,Vl,Vm,Vn,Vo,Vp,Vq,Vr,Vs,Vt,Vu,Vv,Vw,Vx,Vy,Vz,V0,V1,V2,V3,V4,V5,V6,V7,V8,V9,Ua,Ub,Uc,Ud,Ue,Uf,Ug,Uh,Ui,Uo,Up,Uq,Ur,Us,Ut,Uu,Uv,Uw,Ux,Uy,Uz,U0,U1,U2,U3,U4,U5,U6,U7,U8,U9,Ka,Kb,Kc,Kd,Ke,Kf,Kg,Kh,Ki,Kj,Kk,Kl,Km,Kn,Ko,Kq,Kr,Ks,Kt,Ku,K1,K2,K3,K4,K5,K6,K7,Ga,Gx,Hd,Hb,Gq,Hi,Nx,Gp]
       tactic =>
        try simp only [Gl] at *
        try simp only [nc2] at *
        try simp (maxSteps := 4000000) only [hnb,hX,hY,hee,hab,hrm,M3.eq_def,szM,G4]
        repeat' (first | with_reducible assumption | with_reducible refine And.intro ?_ ?_ | intro _ | omega | (rw [Gb]; omega))
        all_goals try omega
        refine Ha [2, 53, 54, 55, 56, 57, 58, 59, 60, 61, 62, 63, 64, 65, 66, 67, 68, 69, 70, 71, 72, 73, 74, 75] (fun i : Nat => [(11, .d (.int .i64 i))]) (fun i : Nat => []) (fun i : Nat => i ≤ a.length) (fun i : Nat => a.length - i) 0 ?_ ?_ ?_
        · omega
        · ((try simp only [Gd, Gj, Gi, Gs, upd, Gt, G5, Hn, Nat.reduceDiv, Nat.reduceMod, Nat.reduceMul, Nat.reduceAdd, Nat.reduceEqDiff, List.set_cons_zero, List.set_cons_succ, if_true, if_false, reduceIte]); (first | refine Wk.of_fl ?_ | skip); simp only [Wk, wkK, Ht, wkT, wk1, AV.kept, keptAll, wkO, lk, Ge, and_true, true_and, and_self, Nat.reduceEqDiff, Nat.reduceLeDiff, if_true, if_false, reduceIte, reduceCtorEq, Option.isSome, false_implies]; try simp [Wk, wkK, wkT, wk1, AV.kept, keptAll, wkO, lk, Ge, hrm])
        rintro i hi
        rcases Hg i a.length with ⟨hil, hib⟩ | ⟨hil, hib⟩
        · obtain ⟨p, q, hp, hq, hpl, hql, hpq⟩ := t3 i hil
          have q1 := Hp (0 : Int) hil
          have q2 := Hp (0 : Int) (show i < b.length by omega)
          have q3 := Hp m0 hpl
          have q4 := Hp m0 (show q < r.length by omega)
          rw [hp] at q1
          rw [hq] at q2
          obtain ⟨x, hx⟩ : ∃ x, l.getD p m0 = x := ⟨_, rfl⟩
          obtain ⟨y, hy⟩ : ∃ y, r.getD q m0 = y := ⟨_, rfl⟩
          rw [hx] at q3 hpq
          rw [hy] at q4 hpq
          have hnn : (x.name == y.name) = true := by rw [beq_iff_eq]; exact hpq
          (sym =>
           simp [hib,q1,q2,q3,q4,hnn,hrm,Gg,szM,Mw,My,Mx,Mz,Mv,Mu,Gn.eq_def,con_GraphTurned.eq_def,Gk.eq_def,Gm.eq_def,Za,Zb,Zc,Zd,Ze,Zf,Zg,Zh,Zi,Zj,Zk,Zl,Zm,Zn,Zo,Zp,Zq,Zr,Zs,Zt,Zv,Zx,Zy,Z0,Z3,Z4,Z5,Z6,Z7,Z8,Z9,Qa,Qb,Qc,Qd,Qe,Qf,Qj,Qk,Ql,Qm,Qn,Qo,Qp,Qq,Qw,Qx,Qz,Q0,Q1,Q3,Q4,Q5,Q6,Q7,Q8,Q9,Ja,Jb,Jc,Jd,Je,Jf,Jg,Jn,Jr,Js,Jt,Ju,Jv,Jw,Jz,J0,J1,J2,J3,J4,J5,J6,J7,J8,J9,Xa,Xb,Xc,Xd,Xe,Xf,Xg,Xh,Xi,Xj,Xk,Xl,Xm,Xn,Xo,Xp,Xq,Xr,Xs,Xu,Xv,Xw,Xx,Xy,Xz,X0,X1,X2,X3,X4,X5,X6,X7,X8,X9,Wa,Wb,Wc,Wd,We,Wf,Wg,Wh,Wi,Wj,Wl,Wm,Wn,Wo,Wp,Wq,Wr,Ws,Wt,Wu,Wv,Ww,Wx,Wy,Wz,W0,W3,W4,W5,W6,W7,W8,W9,Ya,Yb,Yc,Yf,Yg,Yh,Yi,Yj,Yk,Yl,Ym,Yn,Yo,Yp,Yq,Yr,Ys,Yt,Yu,Yv,Yw,Yx,Yy,Yz,Y0,Y1,Y2,Y3,Y4,Y5,Y6,Y7,Y8,Y9,Va,Vb,Vc,Vd,Ve,Vf,Vg,Vh,Vi,Vj,Vk,Vl,Vm,Vn,Vo,Vp,Vq,Vr,Vs,Vt,Vu,Vv,Vw,Vx,Vy,Vz,V0,V1,V2,V3,V4,V5,V6,V7,V8,V9,Ua,Ub,Uc,Ud,Ue,Uf,Ug,Uh,Ui,Uo,Up,Uq,Ur,Us,Ut,Uu,Uv,Uw,Ux,Uy,Uz,U0,U1,U2,U3,U4,U5,U6,U7,U8,U9,Ka,Kb,Kc,Kd,Ke,Kf,Kg,Kh,Ki,Kj,Kk,Kl,Km,Kn,Ko,Kq,Kr,Ks,Kt,Ku,K1,K2,K3,K4,K5,K6,K7,Ga,Gx,Hd,Hb,Gq,Hi,Nx,Gp]
           tactic =>
            try simp only [Gl] at *
            try simp only [nc2] at *
            try simp (maxSteps := 4000000) only [hib,q1,q2,q3,q4,hnn,hrm,Gg,szM,G4]
            repeat' (first | with_reducible assumption | with_reducible refine And.intro ?_ ?_ | intro _ | omega | (rw [Gb]; omega))
            all_goals first
              | (with_reducible refine G7 ?_; kernel_rfl)
              | omega
              | exact ⟨i + 1, by ((try simp only [Gd, Gj, Gi, Gs, upd, Gt, G5, Hn, Nat.reduceDiv, Nat.reduceMod, Nat.reduceMul, Nat.reduceAdd, Nat.reduceEqDiff, List.set_cons_zero, List.set_cons_succ, if_true, if_false, reduceIte]); (first | refine Wk.of_fl ?_ | skip); simp only [Wk, wkK, Ht, wkT, wk1, AV.kept, keptAll, wkO, lk, Ge, and_true, true_and, and_self, Nat.reduceEqDiff, Nat.reduceLeDiff, if_true, if_false, reduceIte, reduceCtorEq, Option.isSome, false_implies]; try simp [Wk, wkK, wkT, wk1, AV.kept, keptAll, wkO, lk, Ge]), by omega, by omega⟩
              | skip)
        · cases h8 : (e != 8) with
          | true =>
            (sym =>
             simp [hib,h8,hrm,szM,Mw,My,Mx,Mz,Mv,Mu,Gn.eq_def,con_GraphTurned.eq_def,Gk.eq_def,Gm.eq_def,Za,Zb,Zc,Zd,Ze,Zf,Zg,Zh,Zi,Zj,Zk,Zl,Zm,Zn,Zo,Zp,Zq,Zr,Zs,Zt,Zv,Zx,Zy,Z0,Z3,Z4,Z5,Z6,Z7,Z8,Z9,Qa,Qb,Qc,Qd,Qe,Qf,Qj,Qk,Ql,Qm,Qn,Qo,Qp,Qq,Qw,Qx,Qz,Q0,Q1,Q3,Q4,Q5,Q6,Q7,Q8,Q9,Ja,Jb,Jc,Jd,Je,Jf,Jg,Jn,Jr,Js,Jt,Ju,Jv,Jw,Jz,J0,J1,J2,J3,J4,J5,J6,J7,J8,J9,Xa,Xb,Xc,Xd,Xe,Xf,Xg,Xh,Xi,Xj,Xk,Xl,Xm,Xn,Xo,Xp,Xq,Xr,Xs,Xu,Xv,Xw,Xx,Xy,Xz,X0,X1,X2,X3,X4,X5,X6,X7,X8,X9,Wa,Wb,Wc,Wd,We,Wf,Wg,Wh,Wi,Wj,Wl,Wm,Wn,Wo,Wp,Wq,Wr,Ws,Wt,Wu,Wv,Ww,Wx,Wy,Wz,W0,W3,W4,W5,W6,W7,W8,W9,Ya,Yb,Yc,Yf,Yg,Yh,Yi,Yj,Yk,Yl,Ym,Yn,Yo,Yp,Yq,Yr,Ys,Yt,Yu,Yv,Yw,Yx,Yy,Yz,Y0,Y1,Y2,Y3,Y4,Y5,Y6,Y7,Y8,Y9,Va,Vb,Vc,Vd,Ve,Vf,Vg,Vh,Vi,Vj,Vk,Vl,Vm,Vn,Vo,Vp,Vq,Vr,Vs,Vt,Vu,Vv,Vw,Vx,Vy,Vz,V0,V1,V2,V3,V4,V5,V6,V7,V8,V9,Ua,Ub,Uc,Ud,Ue,Uf,Ug,Uh,Ui,Uo,Up,Uq,Ur,Us,Ut,Uu,Uv,Uw,Ux,Uy,Uz,U0,U1,U2,U3,U4,U5,U6,U7,U8,U9,Ka,Kb,Kc,Kd,Ke,Kf,Kg,Kh,Ki,Kj,Kk,Kl,Km,Kn,Ko,Kq,Kr,Ks,Kt,Ku,K1,K2,K3,K4,K5,K6,K7,Ga,Gx,Hd,Hb,Gq,Hi,Nx,Gp]
             tactic =>
              try simp only [Gl] at *
              try simp only [nc2] at *
              try simp (maxSteps := 4000000) only [hib,h8,hrm,szM,G4]
              repeat' (first | with_reducible assumption | with_reducible refine And.intro ?_ ?_ | intro _ | omega | (rw [Gb]; omega))
              all_goals first
                | (with_reducible refine G7 ?_; kernel_rfl)
                | omega
                | trivial
                | rfl
                | skip)
          | false =>
            obtain ⟨p, q, hp, hq, hpl, hql, hpq⟩ := t4 (by rw [bne_eq_false_iff_eq] at h8; exact h8)
            subst hp hq
            have q3 := Hp m0 hpl
            have q4 := Hp m0 (show q < r.length by omega)
            obtain ⟨x, hx⟩ : ∃ x, l.getD p m0 = x := ⟨_, rfl⟩
            obtain ⟨y, hy⟩ : ∃ y, r.getD q m0 = y := ⟨_, rfl⟩
            rw [hx] at q3 hpq
            rw [hy] at q4 hpq
            have hnn : (x.name == y.name) = true := by rw [beq_iff_eq]; exact hpq
            (sym =>
             simp [hib,h8,q3,q4,hnn,hrm,Gg,szM,Mw,My,Mx,Mz,Mv,Mu,Gn.eq_def,con_GraphTurned.eq_def,Gk.eq_def,Gm.eq_def,Za,Zb,Zc,Zd,Ze,Zf,Zg,Zh,Zi,Zj,Zk,Zl,Zm,Zn,Zo,Zp,Zq,Zr,Zs,Zt,Zv,Zx,Zy,Z0,Z3,Z4,Z5,Z6,Z7,Z8,Z9,Qa,Qb,Qc,Qd,Qe,Qf,Qj,Qk,Ql,Qm,Qn,Qo,Qp,Qq,Qw,Qx,Qz,Q0,Q1,Q3,Q4,Q5,Q6,Q7,Q8,Q9,Ja,Jb,Jc,Jd,Je,Jf,Jg,Jn,Jr,Js,Jt,Ju,Jv,Jw,Jz,J0,J1,J2,J3,J4,J5,J6,J7,J8,J9,Xa,Xb,Xc,Xd,Xe,Xf,Xg,Xh,Xi,Xj,Xk,Xl,Xm,Xn,Xo,Xp,Xq,Xr,Xs,Xu,Xv,Xw,Xx,Xy,Xz,X0,X1,X2,X3,X4,X5,X6,X7,X8,X9,Wa,Wb,Wc,Wd,We,Wf,Wg,Wh,Wi,Wj,Wl,Wm,Wn,Wo,Wp,Wq,Wr,Ws,Wt,Wu,Wv,Ww,Wx,Wy,Wz,W0,W3,W4,W5,W6,W7,W8,W9,Ya,Yb,Yc,Yf,Yg,Yh,Yi,Yj,Yk,Yl,Ym,Yn,Yo,Yp,Yq,Yr,Ys,Yt,Yu,Yv,Yw,Yx,Yy,Yz,Y0,Y1,Y2,Y3,Y4,Y5,Y6,Y7,Y8,Y9,Va,Vb,Vc,Vd,Ve,Vf,Vg,Vh,Vi,Vj,Vk,Vl,Vm,Vn,Vo,Vp,Vq,Vr,Vs,Vt,Vu,Vv,Vw,Vx,Vy,Vz,V0,V1,V2,V3,V4,V5,V6,V7,V8,V9,Ua,Ub,Uc,Ud,Ue,Uf,Ug,Uh,Ui,Uo,Up,Uq,Ur,Us,Ut,Uu,Uv,Uw,Ux,Uy,Uz,U0,U1,U2,U3,U4,U5,U6,U7,U8,U9,Ka,Kb,Kc,Kd,Ke,Kf,Kg,Kh,Ki,Kj,Kk,Kl,Km,Kn,Ko,Kq,Kr,Ks,Kt,Ku,K1,K2,K3,K4,K5,K6,K7,Ga,Gx,Hd,Hb,Gq,Hi,Nx,Gp]
             tactic =>
              try simp only [Gl] at *
              try simp only [nc2] at *
              try simp (maxSteps := 4000000) only [hib,h8,q3,q4,hnn,hrm,Gg,szM,G4]
              repeat' (first | with_reducible assumption | with_reducible refine And.intro ?_ ?_ | intro _ | omega | (rw [Gb]; omega))
              all_goals first
                | (with_reducible refine G7 ?_; kernel_rfl)
                | omega
                | trivial
                | rfl
                | skip)))
end Go.Am.Graph
