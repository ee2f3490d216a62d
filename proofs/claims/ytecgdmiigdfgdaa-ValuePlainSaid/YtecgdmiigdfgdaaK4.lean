/- Contracts of functions that the law reaches, and plain laws. Conditions: those that each contract states. -/
import Derived.Test.YtecgdmiigdfgdaaK3
import Derived.Sort.Walk0
import Derived.Shelf.Spec.SlicesGrow
set_option linter.unusedSimpArgs false
set_option linter.unusedVariables false
set_option maxHeartbeats 1000000
namespace Go.Am.Ty
open Go.Proofs Go.Rose Go.Rose.Rose
open Enc (enc dec)
def badK (p : Node) (k : Nat) (x : Node) (last : List UInt8) : Bool :=
  cond (x.kind == 9) (cond (!isRowT p) true (cond (ltB (k : Int) (p.n - 1)) true (!(x.name == []))))
    (cond (!labB p.kind x.name) true (cond (isRowT p) (Op.bytesLess x.name last || x.name == last) false))
def kidsR (t : List Node) (tr : Nat → Bool × Nat) (p : Node) : Nat → Nat → List UInt8 → Nat → Bool × Nat
  | 0, _, _, at_ => (true, at_)
  | m + 1, k, last, at_ => cond (leB (t.length : Int) at_) (false, at_)
      (cond (badK p k (t.getD at_ n0) last) (false, at_)
        (cond (tr at_).1 (kidsR t tr p m (k + 1) (t.getD at_ n0).name (tr at_).2) (false, (tr at_).2)))
def treeR (t : List Node) : Nat → Nat → Bool × Nat
  | 0, at_ => (false, at_)
  | f + 1, at_ => cond (leB (t.length : Int) at_) (false, at_)
      (cond (numb3 (t.getD at_ n0)) (kidsR t (treeR t f) (t.getD at_ n0) (ar (t.getD at_ n0)) 0 [] (at_ + 1)) (false, at_))
structure TX where
  t : List Node
  i : Nat
  f : Nat
  d : Int
def tboxed (t : List Node) (i : Nat) : List Obj := [.box false [.d (.int .i64 i)], .box false [.d (.list 3 (t.map enc))], .box false [.clo 116 [.ref 90000 0, .ref 90001 0, .ref 90002 0]]]
theorem Gb {t : List Node} {i : Nat} : tboxed t i = [.box false [.d (.int .i64 i)], .box false [.d (.list 3 (t.map enc))], .box false [.clo 116 [.ref 90000 0, .ref 90001 0, .ref 90002 0]]] := rfl
def bcon_treeT (n : Nat) : BCon where
  X := TX
  ok x := x.t.length ≤ 1000000 ∧ Named x.t ∧ x.f ≤ 100 ∧ x.d = 101 - x.f ∧ x.f < n
  args x := [.d (.int .i64 x.d), .ref 90000 0, .ref 90001 0, .ref 90002 0]
  objs x := tboxed x.t x.i
  res x := .bool (treeR x.t x.f x.i).1
  post x := tboxed x.t (treeR x.t x.f x.i).2
theorem bcon_treeT_zero : ∀ x, ¬ (bcon_treeT 0).ok x := by
  rintro x ⟨_, _, _, _, h⟩
  omega
theorem E7 {n : Nat} {t : List Node} {i f : Nat} {d : Int} : (bcon_treeT n).post ⟨t, i, f, d⟩ = tboxed t (treeR t f i).2 := rfl
theorem Ii {n : Nat} {t : List Node} {i f : Nat} {d : Int} : (bcon_treeT n).res ⟨t, i, f, d⟩ = .bool (treeR t f i).1 := rfl
theorem numb_row {p : Node} (h : numb3 p = true) (hr : isRowT p = true) : 0 ≤ p.n ∧ p.n ≤ 50 := by
  unfold isRowT at hr
  rw [Bool.or_eq_true, beq_iff_eq, beq_iff_eq] at hr
  unfold numb3 at h
  rw [if_neg (by omega), if_neg (by omega)] at h
  split at h
  · simp only [Bool.and_eq_true, decide_eq_true_eq] at h
    exact h
  · rw [if_pos (by omega)] at h
    simp only [Bool.and_eq_true, decide_eq_true_eq] at h
    omega
theorem Hh : canon 3 [90000, 90001, 90002] := by
  intro j hj
  match j, hj with
  | 0, _ => rfl
  | 1, _ => rfl
  | 2, _ => rfl
noncomputable def bctx_treeT (n : Nat) : Ctx := ⟨tab, lkC [(76, con_manyT), (99, con_isRowT), (117, con_isNodeT), (118, con_isLabelT)], 60, lkB [(116, (bcon_treeT n))], [], false⟩
theorem Ky (n : Nat) : (bctx_treeT n).τ = tab := rfl
theorem Hs (n : Nat) : (bctx_treeT n).Γ = lkC [(76, con_manyT), (99, con_isRowT), (117, con_isNodeT), (118, con_isLabelT)] := rfl
theorem K5 (n : Nat) : (bctx_treeT n).dp = 60 := rfl
theorem Ht (n : Nat) : (bctx_treeT n).Δ = lkB [(116, (bcon_treeT n))] := rfl
theorem H6 (n : Nat) : (bctx_treeT n).wr = false := rfl
set_option maxRecDepth 100000 in
theorem stepb_treeT (n : Nat) (ih : GoodB Try.prog (116, bcon_treeT n)) : GoodB Try.prog (116, (bcon_treeT (n + 1))) := by
  refine ⟨U0 Try.func116 (by kernel_rfl) rfl, ?_⟩
  have K : CtxOk Try.prog (bctx_treeT n) := U4 Ki Ka (by
    intro p hp
    simp only [List.mem_cons, List.not_mem_nil, or_false] at hp
    rcases hp with rfl | rfl | rfl | rfl
    · exact Fh
    · exact Oz
    · exact good_isNodeT
    · exact good_isLabelT) (by
    intro p hp
    simp only [List.mem_cons, List.not_mem_nil, or_false] at hp
    rcases hp with rfl
    · exact ih)
  obtain ⟨c, hc⟩ : ∃ c, Try.f116.body = some c := ⟨_, rfl⟩
  refine fn_soundB K Try.func116 hc [.tmp 5] rfl 89 rfl (fun x hok => ?_)
  obtain ⟨t, i, f, d⟩ := x
  obtain ⟨ht, hN, hf, hd, hn⟩ := hok
  simp only at ht hN hf hd hn
  refine ⟨?_, ?_, ?_, ?_, ?_⟩
  · show Tied [.d (.int .i64 d), .ref 90000 0, .ref 90001 0, .ref 90002 0] (tboxed t i)
    rw [Gb]
    simp [Tied,tiedAll,Obj.tied,noneFixed,keptAll,AV.kept,mkObjs,mkFrom,lk]
  · show noneFixed (tboxed t i)
    rw [Gb]
    simp [noneFixed]
  · show Tied [] (tboxed t (treeR t f i).2)
    rw [Gb]
    simp [Tied,tiedAll,Obj.tied,noneFixed,keptAll,AV.kept,mkObjs,mkFrom,lk]
  · show (tboxed t i).length ≤ (tboxed t (treeR t f i).2).length
    rw [Gb, Gb]
    simp
  show awp (bctx_treeT n) c (PostB _ _ (tboxed t i).length (.bool (treeR t f i).1) (tboxed t (treeR t f i).2)) ⟨[.d (.int .i64 d), .ref 90000 0, .ref 90001 0, .ref 90002 0] ++ deads 85, mkObjs (tboxed t i)⟩
  rw [Gb, Gb]
  simp only [Try.f116, Option.some.injEq] at hc
  subst hc
  refine Kl 5 (of_decide_eq_true (by kernel_rfl)) ?_
  cases f with
  | zero =>
    have h0 : treeR t 0 i = (false, i) := rfl
    rw [h0]
    have hdb : ltB 100 d = true := by rw [G4]; omega
    rcases Ba t.length i with ⟨hle, hleb⟩ | ⟨hle, hleb⟩
    · (sym =>
       simp [hleb,Ur,Up,Us,Uo,szN,Uq,Ky,K5,Zb,Zc,Zd,Ze,Zf,Zo,Zp,Zq,Zt,Zv,Z6,Qb,Qd,Qo,Qq,Qs,Qv,Qw,Qx,Q1,Q2,Q3,Q4,Jh,Jk,Jm,Jp,J2,J3,J4,J5,J7,J8,Xa,Xb,Xe,Xk,Xl,Xm,Xn,X2,X4,X5,X9,Wa,Wd,Wf,Wg,Wh,Wr,Ws,Wt,Wu,W4,W5,W6,W7,W8,W9,Yc,Yf,Yg,Yj,Y5,Y6,Y9,Va,Vb,Vc,Vd,Ve,Vr,V5,Uh,Uj,Uk,Um,U2,U3,Kb]
       tactic =>
        try simp only [Uy] at *
        try simp only [nc2] at *
        try simp (maxSteps := 4000000) only [hleb,Ur,Up,Us,Uo,szN,Uq,U1]
        repeat' (first | with_reducible assumption | with_reducible refine And.intro ?_ ?_ | intro _ | omega | (rw [Ux]; omega))
        refine ⟨[90000, 90001, 90002], by simp, rfl, Hh, ?_⟩
        simp [standAt,lk,rnO,rnA,rnAs,rk])
    · (sym =>
       simp [hleb,hdb,Ur,Up,Us,Uo,szN,Uq,Ky,K5,Zb,Zc,Zd,Ze,Zf,Zo,Zp,Zq,Zt,Zv,Z6,Qb,Qd,Qo,Qq,Qs,Qv,Qw,Qx,Q1,Q2,Q3,Q4,Jh,Jk,Jm,Jp,J2,J3,J4,J5,J7,J8,Xa,Xb,Xe,Xk,Xl,Xm,Xn,X2,X4,X5,X9,Wa,Wd,Wf,Wg,Wh,Wr,Ws,Wt,Wu,W4,W5,W6,W7,W8,W9,Yc,Yf,Yg,Yj,Y5,Y6,Y9,Va,Vb,Vc,Vd,Ve,Vr,V4,V5,Uh,Ui,Uj,Uk,Um,U2,U3,Kb]
       tactic =>
        try simp only [Uy] at *
        try simp only [nc2] at *
        try simp (maxSteps := 4000000) only [hleb,hdb,Ur,Up,Us,Uo,szN,Uq,U1]
        repeat' (first | with_reducible assumption | with_reducible refine And.intro ?_ ?_ | intro _ | omega | (rw [Ux]; omega))
        refine ⟨[90000, 90001, 90002], by simp, rfl, Hh, ?_⟩
        simp [standAt,lk,rnO,rnA,rnAs,rk])
  | succ f =>
    have hdb : ltB 100 d = false := by rw [Gn]; omega
    have hfold : treeR t (f + 1) i = cond (leB (t.length : Int) i) (false, i)
      (cond (numb3 (t.getD i n0)) (kidsR t (treeR t f) (t.getD i n0) (ar (t.getD i n0)) 0 [] (i + 1)) (false, i)) := rfl
    rcases Ba t.length i with ⟨hle, hleb⟩ | ⟨hle, hleb⟩
    · rw [hleb, cond_true] at hfold
      rw [hfold]
      (sym =>
       simp [hleb,Ur,Up,Us,Uo,szN,Uq,Ky,K5,Zb,Zc,Zd,Ze,Zf,Zo,Zp,Zq,Zt,Zv,Z6,Qb,Qd,Qo,Qq,Qs,Qv,Qw,Qx,Q1,Q2,Q3,Q4,Jh,Jk,Jm,Jp,J2,J3,J4,J5,J7,J8,Xa,Xb,Xe,Xk,Xl,Xm,Xn,X2,X4,X5,X9,Wa,Wd,Wf,Wg,Wh,Wr,Ws,Wt,Wu,W4,W5,W6,W7,W8,W9,Yc,Yf,Yg,Yj,Y5,Y6,Y9,Va,Vb,Vc,Vd,Ve,Vr,V5,Uh,Uj,Uk,Um,U2,U3,Kb]
       tactic =>
        try simp only [Uy] at *
        try simp only [nc2] at *
        try simp (maxSteps := 4000000) only [hleb,Ur,Up,Us,Uo,szN,Uq,U1]
        repeat' (first | with_reducible assumption | with_reducible refine And.intro ?_ ?_ | intro _ | omega | (rw [Ux]; omega))
        refine ⟨[90000, 90001, 90002], by simp, rfl, Hh, ?_⟩
        simp [standAt,lk,rnO,rnA,rnAs,rk])
    rw [hleb, cond_false] at hfold
    have hil : i < t.length := by omega
    have hel := U8 n0 hil
    obtain ⟨p, hp⟩ : ∃ p, t.getD i n0 = p := ⟨_, rfl⟩
    rw [hp] at hel hfold
    cases hnb : numb3 p with
    | false =>
      rw [hnb, cond_false] at hfold
      rw [hfold]
      (sym =>
       simp [hleb,hdb,hel,hnb,Ur,Up,Us,Uo,szN,Uq,Ky,Hs,K5,Ht,con_isLabelT.eq_def,con_isNodeT.eq_def,con_isRowT.eq_def,con_manyT.eq_def,Zb,Zc,Zd,Ze,Zf,Zo,Zp,Zq,Zt,Zv,Zy,Z6,Z9,Qb,Qc,Qd,Qe,Qf,Qo,Qq,Qs,Qv,Qw,Qx,Q1,Q2,Q3,Q4,Q8,Jf,Jh,Jj,Jk,Jl,Jm,Jp,J2,J3,J4,J5,J7,J8,Xa,Xb,Xe,Xk,Xl,Xm,Xn,Xo,Xt,Xu,X2,X4,X5,X9,Wa,Wd,Wf,Wg,Wh,Wr,Ws,Wt,Wu,Wv,Wx,Wy,W4,W5,W6,W7,W8,W9,Yc,Yd,Yf,Yg,Yh,Yj,Yk,Yw,Y5,Y6,Y9,Va,Vb,Vc,Vd,Ve,Vo,Vp,Vr,V4,V5,Uh,Ui,Uj,Uk,Ul,Um,U2,Ku,U3,Kb]
       tactic =>
        try simp only [Uy] at *
        try simp only [nc2] at *
        try simp (maxSteps := 4000000) only [hleb,hdb,hel,hnb,Ur,Up,Us,Uo,szN,Uq,U1]
        repeat' (first | with_reducible assumption | with_reducible refine And.intro ?_ ?_ | intro _ | omega | (rw [Ux]; omega))
        refine ⟨[90000, 90001, 90002], by simp, rfl, Hh, ?_⟩
        simp [standAt,lk,rnO,rnA,rnAs,rk])
    | true =>
      have har : ar p ≤ 50 := by have := (T4 hnb).2; rw [B7 hnb] at this; omega
      rw [hnb, cond_true] at hfold
      rw [hfold]
      obtain ⟨r, hr⟩ : ∃ r, kidsR t (treeR t f) p (ar p) 0 [] (i + 1) = r := ⟨_, rfl⟩
      rw [hr]
      obtain ⟨r1, r2⟩ := r
      simp only
      (sym =>
       simp [hleb,hdb,hel,hnb,Ur,Up,Us,Uo,szN,Uq,Ky,Hs,K5,Ht,H6,con_isLabelT.eq_def,con_isNodeT.eq_def,con_isRowT.eq_def,con_manyT.eq_def,Zb,Zc,Zd,Ze,Zf,Zo,Zp,Zq,Zt,Zu,Zv,Zw,Zy,Z6,Z9,Qb,Qc,Qd,Qe,Qf,Qh,Qk,Ql,Qq,Qs,Q1,Q2,Q3,Q4,Q8,Ja,Jf,Jh,Ji,Jj,Jl,Jm,J2,J3,J4,J5,J7,J8,Xa,Xb,Xe,Xm,Xn,Xo,Xr,Xt,Xu,X1,X2,X4,X5,X6,X7,Wa,Wd,Wf,Wg,Wh,Wj,Wr,Ws,Wt,Wu,Wv,Wx,Wy,Wz,W0,W3,W4,W5,W6,W7,W8,W9,Yc,Yd,Yf,Yg,Yh,Yj,Yk,Yl,Yo,Yv,Yw,Y5,Y6,Y9,Va,Vb,Vc,Vd,Ve,Vn,Vp,Vr,V4,V5,V6,V8,Ua,Ui,Uj,Uk,Ul,Um,Un,U2,Ku,U3,Kb]
       tactic =>
        try simp only [Uy] at *
        try simp only [nc2] at *
        try simp (maxSteps := 4000000) only [hleb,hdb,hel,hnb,Ur,Up,Us,Uo,szN,Uq,U1]
        repeat' (first | with_reducible assumption | with_reducible refine And.intro ?_ ?_ | intro _ | omega | (rw [Ux]; omega))
        refine Ke [5, 8, 9, 35, 36, 37, 38, 39, 40, 41, 42, 43, 44, 45, 46, 47, 48, 49, 50, 51, 52, 53, 54, 55, 56, 57, 58, 59, 60, 61, 62, 63, 64, 65, 66, 67, 68, 69, 70, 71, 72, 73, 74, 75, 76, 77, 78, 79, 80, 81, 82, 83, 84, 85, 86, 87, 88] (fun q : Nat × List UInt8 × Nat => [(7, .d (.str q.2.1)), (34, .d (.int .i64 q.1))]) (fun q : Nat × List UInt8 × Nat => [(90000, .box false [.d (.int .i64 q.2.2)])]) (fun q : Nat × List UInt8 × Nat => q.1 ≤ ar p ∧ kidsR t (treeR t f) p (ar p - q.1) q.1 q.2.1 q.2.2 = (r1, r2)) (fun q : Nat × List UInt8 × Nat => ar p - q.1) (0, [], i + 1) ?_ ?_ ?_
        · exact ⟨Nat.zero_le _, hr⟩
        · ((try simp only [Uz, killAll, setSlots, updAll, upd, U9, setCs, putC, Nat.reduceDiv, Nat.reduceMod, Nat.reduceMul, Nat.reduceAdd, Nat.reduceEqDiff, List.set_cons_zero, List.set_cons_succ, if_true, if_false, reduceIte]); (first | refine Wk.of_fl ?_ | skip); simp only [Wk, wkK, wkCs, wkT, wk1, AV.kept, keptAll, wkO, lk, wkObj, and_true, true_and, and_self, Nat.reduceEqDiff, Nat.reduceLeDiff, if_true, if_false, reduceIte, reduceCtorEq, Option.isSome, false_implies]; try simp [Wk, wkK, wkT, wk1, AV.kept, keptAll, wkO, lk, wkObj])
        rintro ⟨k, last, j⟩ ⟨hk, hR⟩
        simp only at hk hR
        rcases Kf k (ar p) with ⟨hlt, hltb⟩ | ⟨hlt, hltb⟩
        · obtain ⟨m, hm⟩ : ∃ m, ar p - k = m + 1 := ⟨ar p - k - 1, by omega⟩
          rw [hm, kidsR] at hR
          rcases Ba t.length j with ⟨hle2, hleb2⟩ | ⟨hle2, hleb2⟩
          · rw [hleb2, cond_true] at hR
            injection hR with hr1 hr2
            subst hr1
            subst hr2
            (sym =>
             simp [hltb,hleb2,Ur,Up,Us,Uo,szN,Uq,Ky,K5,Zb,Zc,Ze,Zf,Zg,Zo,Zp,Zq,Zv,Z6,Qb,Qd,Qo,Qq,Qs,Qv,Qw,Qx,Q1,Q2,Q4,Jh,Ji,Jk,Jp,Jx,Jy,Jz,J4,J5,J7,J8,J9,Xa,Xb,Xe,Xk,Xl,X1,X2,X4,X5,X6,X9,Wa,Wd,Wf,Wg,Wh,Wr,Ws,Wt,Wu,W4,W5,W8,W9,Yb,Yc,Yf,Yg,Yj,Y5,Y6,Y7,Y8,Vr,V5,Uh,Uj,Uk,Ul,Um,U2,U3,Kb]
             tactic =>
              try simp only [Uy] at *
              try simp only [nc2] at *
              try simp (maxSteps := 4000000) only [hltb,hleb2,Ur,Up,Us,Uo,szN,Uq,U1]
              repeat' (first | with_reducible assumption | with_reducible refine And.intro ?_ ?_ | intro _ | omega | (rw [Ux]; omega))
              refine ⟨[90000, 90001, 90002], by simp, rfl, Hh, ?_⟩
              simp [standAt,lk,rnO,rnA,rnAs,rk])
          rw [hleb2, cond_false] at hR
          have hjl : j < t.length := by omega
          have hel2 := U8 n0 hjl
          obtain ⟨x, hx⟩ : ∃ x, t.getD j n0 = x := ⟨_, rfl⟩
          rw [hx] at hel2 hR
          cases h9 : (x.kind == 9) with
          | true =>
            cases hrow : isRowT p with
            | false =>
              have hb : badK p k x last = true := by simp only [badK, h9, hrow, cond_true, cond_false, Bool.not_true, Bool.not_false]
              rw [hb, cond_true] at hR
              injection hR with hr1 hr2
              subst hr1
              subst hr2
              (sym =>
               simp [hltb,hleb2,hel2,h9,hrow,Ur,Up,Us,Uo,szN,Uq,Ky,Hs,K5,Ht,con_isLabelT.eq_def,con_isNodeT.eq_def,con_isRowT.eq_def,con_manyT.eq_def,Zb,Zc,Zd,Ze,Zf,Zg,Zo,Zp,Zq,Zs,Zt,Zu,Zv,Zw,Zx,Zy,Z6,Z9,Qb,Qc,Qd,Qe,Qf,Qh,Qk,Ql,Qm,Qo,Qq,Qs,Qv,Qw,Qx,Q1,Q2,Q4,Q8,Ja,Jf,Jh,Ji,Jj,Jk,Jl,Jp,Jx,Jy,Jz,J4,J5,J7,J8,J9,Xa,Xb,Xe,Xk,Xl,Xo,Xr,Xt,Xu,X1,X2,X4,X5,X6,X9,Wa,Wd,Wf,Wg,Wh,Wj,Wr,Ws,Wt,Wu,Wv,Wx,Wy,W0,W3,W4,W5,W6,W7,W8,W9,Yb,Yc,Yd,Yf,Yg,Yh,Yj,Yk,Yo,Yw,Y5,Y6,Y7,Y8,Va,Vb,Vc,Vd,Ve,Vo,Vp,Vr,V4,V5,Uh,Ui,Uj,Uk,Ul,Um,Un,U2,Ku,U3,Kb]
               tactic =>
                try simp only [Uy] at *
                try simp only [nc2] at *
                try simp (maxSteps := 4000000) only [hltb,hleb2,hel2,h9,hrow,Ur,Up,Us,Uo,szN,Uq,U1]
                repeat' (first | with_reducible assumption | with_reducible refine And.intro ?_ ?_ | intro _ | omega | (rw [Ux]; omega))
                refine ⟨[90000, 90001, 90002], by simp, rfl, Hh, ?_⟩
                simp [standAt,lk,rnO,rnA,rnAs,rk])
            | true =>
              have hpn := numb_row hnb hrow
              cases hlk : ltB (k : Int) (p.n - 1) with
              | true =>
                have hb : badK p k x last = true := by simp only [badK, h9, hrow, hlk, cond_true, cond_false, Bool.not_true, Bool.not_false]
                rw [hb, cond_true] at hR
                injection hR with hr1 hr2
                subst hr1
                subst hr2
                (sym =>
                 simp [hltb,hleb2,hel2,h9,hrow,hlk,Ur,Up,Us,Uo,szN,Uq,Ky,Hs,K5,Ht,H6,con_isLabelT.eq_def,con_isNodeT.eq_def,con_isRowT.eq_def,con_manyT.eq_def,Zb,Zc,Zd,Ze,Zf,Zg,Zo,Zp,Zq,Zs,Zt,Zu,Zv,Zw,Zx,Zy,Z6,Z9,Qb,Qc,Qd,Qe,Qf,Qh,Qk,Ql,Qm,Qo,Qq,Qs,Qv,Qw,Qx,Q1,Q2,Q4,Q8,Ja,Jf,Jh,Ji,Jj,Jk,Jl,Jp,Jx,Jy,Jz,J4,J5,J7,J8,J9,Xa,Xb,Xe,Xk,Xl,Xo,Xr,Xt,Xu,X1,X2,X4,X5,X6,X9,Wa,Wd,Wf,Wg,Wh,Wj,Wr,Ws,Wt,Wu,Wv,Wx,Wy,W0,W3,W4,W5,W6,W7,W8,W9,Yb,Yc,Yd,Yf,Yg,Yh,Yj,Yk,Yo,Yw,Y5,Y6,Y7,Y8,Va,Vb,Vc,Vd,Ve,Vn,Vp,Vr,V4,V5,Uh,Ui,Uj,Uk,Ul,Um,Un,U2,Ku,U3,Kb]
                 tactic =>
                  try simp only [Uy] at *
                  try simp only [nc2] at *
                  try simp (maxSteps := 4000000) only [hltb,hleb2,hel2,h9,hrow,hlk,Ur,Up,Us,Uo,szN,Uq,U1]
                  repeat' (first | with_reducible assumption | with_reducible refine And.intro ?_ ?_ | intro _ | omega | (rw [Ux]; omega))
                  refine ⟨[90000, 90001, 90002], by simp, rfl, Hh, ?_⟩
                  simp [standAt,lk,rnO,rnA,rnAs,rk])
              | false =>
                cases hnm : (x.name == []) with
                | false =>
                  have hb : badK p k x last = true := by simp only [badK, h9, hrow, hlk, hnm, cond_true, cond_false, Bool.not_true, Bool.not_false]
                  rw [hb, cond_true] at hR
                  injection hR with hr1 hr2
                  subst hr1
                  subst hr2
                  (sym =>
                   simp [hltb,hleb2,hel2,h9,hrow,hlk,hnm,Ur,Up,Us,Uo,szN,Uq,Ky,Hs,K5,Ht,H6,con_isLabelT.eq_def,con_isNodeT.eq_def,con_isRowT.eq_def,con_manyT.eq_def,Zb,Zc,Zd,Ze,Zf,Zg,Zo,Zp,Zq,Zs,Zt,Zu,Zv,Zw,Zx,Zy,Z6,Z9,Qb,Qc,Qd,Qe,Qf,Qh,Qk,Ql,Qm,Qo,Qq,Qs,Qv,Qw,Qx,Q1,Q2,Q4,Q8,Ja,Jf,Jh,Ji,Jj,Jk,Jl,Jp,Jx,Jy,Jz,J4,J5,J7,J8,J9,Xa,Xb,Xe,Xk,Xl,Xo,Xr,Xt,Xu,X1,X2,X4,X5,X6,X9,Wa,Wd,Wf,Wg,Wh,Wj,Wr,Ws,Wt,Wu,Wv,Wx,Wy,Wz,W0,W3,W4,W5,W6,W7,W8,W9,Yb,Yc,Yd,Ye,Yf,Yg,Yh,Yi,Yj,Yk,Yo,Yw,Y5,Y6,Y7,Y8,Va,Vb,Vc,Vd,Ve,Vn,Vo,Vp,Vr,V4,V5,V6,V8,Uh,Ui,Uj,Uk,Ul,Um,Un,U2,Ku,Gr,U3,Kb]
                   tactic =>
                    try simp only [Uy] at *
                    try simp only [nc2] at *
                    try simp (maxSteps := 4000000) only [hltb,hleb2,hel2,h9,hrow,hlk,hnm,Ur,Up,Us,Uo,szN,Uq,U1]
                    repeat' (first | with_reducible assumption | with_reducible refine And.intro ?_ ?_ | intro _ | omega | (rw [Ux]; omega))
                    refine ⟨[90000, 90001, 90002], by simp, rfl, Hh, ?_⟩
                    simp [standAt,lk,rnO,rnA,rnAs,rk])
                | true =>
                  have hb : badK p k x last = false := by simp only [badK, h9, hrow, hlk, hnm, cond_true, cond_false, Bool.not_true, Bool.not_false]
                  rw [hb, cond_false] at hR
                  obtain ⟨w, hw⟩ : ∃ w, treeR t f j = w := ⟨_, rfl⟩
                  rw [hw] at hR
                  obtain ⟨w1, w2⟩ := w
                  simp only at hR
                  have hp2 : (bcon_treeT n).post ⟨t, j, f, d + 1⟩ = tboxed t w2 := by rw [E7, hw]
                  have hp3 : (bcon_treeT n).res ⟨t, j, f, d + 1⟩ = .bool w1 := by rw [Ii, hw]
                  (sym =>
                   simp [hltb,hleb2,hel2,h9,hrow,hlk,hnm,Ur,Up,Us,Uo,szN,Uq,Ky,Hs,K5,Ht,H6,con_isLabelT.eq_def,con_isNodeT.eq_def,con_isRowT.eq_def,con_manyT.eq_def,Zb,Zc,Zd,Ze,Zf,Zg,Zo,Zp,Zq,Zs,Zt,Zu,Zv,Zw,Zx,Zy,Z6,Z9,Qb,Qc,Qd,Qe,Qf,Qh,Qk,Ql,Qm,Qq,Qs,Q1,Q2,Q4,Q8,Ja,Jf,Jh,Ji,Jj,Jl,Jx,Jy,Jz,J4,J5,J6,J7,J8,J9,Xa,Xb,Xe,Xo,Xr,Xt,Xu,X1,X2,X4,X5,X6,Wa,Wd,Wf,Wg,Wh,Wj,Wr,Ws,Wt,Wu,Wv,Wx,Wy,Wz,W0,W3,W4,W5,W6,W7,W8,W9,Yb,Yc,Yd,Ye,Yf,Yg,Yh,Yi,Yj,Yk,Yo,Yw,Y5,Y6,Y7,Y8,Y9,Va,Vb,Vc,Vd,Ve,Vn,Vp,Vr,V4,V5,V6,V8,Uh,Ui,Uj,Uk,Ul,Um,Un,U2,Ku,Gr,U3,Kb,B3]
                   tactic =>
                    try simp only [Uy] at *
                    try simp only [nc2] at *
                    try simp (maxSteps := 4000000) only [hltb,hleb2,hel2,h9,hrow,hlk,hnm,Ur,Up,Us,Uo,szN,Uq,U1]
                    repeat' (first | with_reducible assumption | with_reducible refine And.intro ?_ ?_ | intro _ | omega | (rw [Ux]; omega))
                    refine M2 (bc := bcon_treeT n) ⟨t, j, f, d + 1⟩ [90000, 90001, 90002] ⟨ht, hN, by simp only; omega, by simp only; omega, by simp only; omega⟩ rfl (by simp) (by rw [hp2]; rfl) ?_ ?_ ?_
                    · show standAt _ _ (tboxed t j) _
                      rw [Gb]
                      simp [standAt,lk,rnO,rnA,rnAs,rk]
                    · show freeAt (List.drop (tboxed t j).length _) _
                      rw [Gb]
                      simp [freeAt,lk]
                    cases w1 with
                    | false =>
                      rw [cond_false] at hR
                      injection hR with hr1 hr2
                      subst hr1
                      subst hr2
                      (sym =>
                       simp [hp2,hp3,Gb,Ur,Up,Us,Uo,szN,Uq,Ky,K5,Zb,Zc,Ze,Zf,Zg,Qc,Qd,Qo,Qq,Qs,Qt,Qu,Qv,Qw,Qx,Q1,Q2,Q4,Ji,Jk,Jn,Jo,Jp,Jq,J4,J5,J6,J7,J8,J9,Xa,Xb,Xe,Xk,Xl,X2,X4,X5,X9,Wa,Wd,Wf,Wg,Wr,Ws,Wt,Wu,W4,W5,W8,W9,Yd,Yh,Y5,Y6,Y7,Y8,Vo,Vr,V5,Uh,Uj,Uk,Ku]
                       tactic =>
                        try simp only [Uy] at *
                        try simp only [nc2] at *
                        try simp (maxSteps := 4000000) only [hp2,hp3,Gb,Ur,Up,Us,Uo,szN,Uq,U1]
                        repeat' (first | with_reducible assumption | with_reducible refine And.intro ?_ ?_ | intro _ | omega | (rw [Ux]; omega))
                        refine ⟨[90000, 90001, 90002], by simp, rfl, Hh, ?_⟩
                        simp [standAt,lk,rnO,rnA,rnAs,rk])
                    | true =>
                      rw [cond_true] at hR
                      (sym =>
                       simp [hp2,hp3,Gb,Ur,Up,Us,Uo,szN,Uq,Ky,H6,Zb,Zc,Ze,Zf,Zg,Qb,Qc,Qd,Qq,Qs,Qt,Qu,Q1,Q2,Q4,Ji,Jn,Jo,Jq,J4,J5,J6,J7,J8,J9,Xa,Xb,X1,X2,X5,Wa,Wd,Wf,Wg,Wr,Ws,Wt,Wu,W8,W9,Yc,Yd,Yg,Yh,Y5,Y6,Y7,Y8,Vn,Vr,V4,Ui,Uj,U2,Ku]
                       tactic =>
                        try simp only [Uy] at *
                        try simp only [nc2] at *
                        try simp (maxSteps := 4000000) only [hp2,hp3,Gb,Ur,Up,Us,Uo,szN,Uq,U1]
                        repeat' (first | with_reducible assumption | with_reducible refine And.intro ?_ ?_ | intro _ | omega | (rw [Ux]; omega))
                        refine ⟨(k + 1, x.name, w2), by ((try simp only [Uz, killAll, setSlots, updAll, upd, U9, setCs, putC, Nat.reduceDiv, Nat.reduceMod, Nat.reduceMul, Nat.reduceAdd, Nat.reduceEqDiff, List.set_cons_zero, List.set_cons_succ, if_true, if_false, reduceIte]); (first | refine Wk.of_fl ?_ | skip); simp only [Wk, wkK, wkCs, wkT, wk1, AV.kept, keptAll, wkO, lk, wkObj, and_true, true_and, and_self, Nat.reduceEqDiff, Nat.reduceLeDiff, if_true, if_false, reduceIte, reduceCtorEq, Option.isSome, false_implies]; try simp [Wk, wkK, wkT, wk1, AV.kept, keptAll, wkO, lk, wkObj]), by simp only; omega, ?_, by simp only; omega⟩
                        simp only
                        rw [show ar p - (k + 1) = m by omega]
                        exact hR))
          | false =>
            cases hla : labB p.kind x.name with
            | false =>
              have hb : badK p k x last = true := by simp only [badK, h9, hla, cond_true, cond_false, Bool.not_true, Bool.not_false]
              rw [hb, cond_true] at hR
              injection hR with hr1 hr2
              subst hr1
              subst hr2
              (sym =>
               simp [hltb,hleb2,hel2,h9,hla,Ur,Up,Us,Uo,szN,Uq,Ky,Hs,K5,Ht,con_isLabelT.eq_def,con_isNodeT.eq_def,con_isRowT.eq_def,con_manyT.eq_def,Zb,Zc,Zd,Ze,Zf,Zg,Zo,Zp,Zq,Zs,Zt,Zu,Zv,Zw,Zx,Zy,Z6,Z9,Qb,Qc,Qd,Qe,Qf,Qk,Ql,Qm,Qo,Qq,Qs,Qv,Qw,Qx,Q1,Q2,Q4,Q8,Jf,Jh,Ji,Jj,Jk,Jl,Jp,Jx,Jy,Jz,J4,J5,J6,J7,J8,J9,Xa,Xb,Xe,Xk,Xl,Xo,Xr,Xt,Xu,X1,X2,X4,X5,X6,X9,Wa,Wd,Wf,Wg,Wh,Wj,Wr,Ws,Wt,Wu,Wv,Wx,Wy,W0,W3,W4,W5,W6,W7,W8,W9,Yb,Yc,Yd,Yf,Yg,Yh,Yj,Yk,Yo,Yw,Y5,Y6,Y7,Y8,Va,Vc,Vd,Ve,Vf,Vg,Vk,Vl,Vo,Vp,Vr,V4,V5,Uh,Ui,Uj,Uk,Ul,Um,Un,U2,Ku,Gr,U3,Kb]
               tactic =>
                try simp only [Uy] at *
                try simp only [nc2] at *
                try simp (maxSteps := 4000000) only [hltb,hleb2,hel2,h9,hla,Ur,Up,Us,Uo,szN,Uq,U1]
                repeat' (first | with_reducible assumption | with_reducible refine And.intro ?_ ?_ | intro _ | omega | (rw [Ux]; omega))
                refine ⟨[90000, 90001, 90002], by simp, rfl, Hh, ?_⟩
                simp [standAt,lk,rnO,rnA,rnAs,rk])
            | true =>
              cases hrow : isRowT p with
              | false =>
                have hb : badK p k x last = false := by simp only [badK, h9, hla, hrow, cond_true, cond_false, Bool.not_true, Bool.not_false]
                rw [hb, cond_false] at hR
                obtain ⟨w, hw⟩ : ∃ w, treeR t f j = w := ⟨_, rfl⟩
                rw [hw] at hR
                obtain ⟨w1, w2⟩ := w
                simp only at hR
                have hp2 : (bcon_treeT n).post ⟨t, j, f, d + 1⟩ = tboxed t w2 := by rw [E7, hw]
                have hp3 : (bcon_treeT n).res ⟨t, j, f, d + 1⟩ = .bool w1 := by rw [Ii, hw]
                (sym =>
                 simp [hltb,hleb2,hel2,h9,hla,hrow,Ur,Up,Us,Uo,szN,Uq,Ky,Hs,K5,Ht,H6,con_isLabelT.eq_def,con_isNodeT.eq_def,con_isRowT.eq_def,con_manyT.eq_def,Zb,Zc,Zd,Ze,Zf,Zg,Zo,Zp,Zq,Zs,Zt,Zu,Zv,Zw,Zx,Zy,Z6,Z9,Qb,Qc,Qd,Qe,Qf,Qh,Qk,Ql,Qm,Qq,Qs,Q1,Q2,Q4,Q8,Ja,Jf,Jh,Ji,Jj,Jl,Jx,Jy,Jz,J4,J5,J6,J7,J8,J9,Xa,Xb,Xe,Xo,Xr,Xt,Xu,X1,X2,X4,X5,X6,Wa,Wd,Wf,Wg,Wh,Wj,Wr,Ws,Wt,Wu,Wv,Wx,Wy,W0,W3,W4,W5,W6,W7,W8,W9,Yb,Yc,Yd,Yf,Yg,Yh,Yj,Yk,Yo,Yw,Y5,Y6,Y7,Y8,Y9,Va,Vb,Vc,Vd,Ve,Vf,Vg,Vk,Vl,Vn,Vp,Vr,V4,V5,Uh,Ui,Uj,Uk,Ul,Um,Un,U2,Ku,Gr,U3,Kb,B3]
                 tactic =>
                  try simp only [Uy] at *
                  try simp only [nc2] at *
                  try simp (maxSteps := 4000000) only [hltb,hleb2,hel2,h9,hla,hrow,Ur,Up,Us,Uo,szN,Uq,U1]
                  repeat' (first | with_reducible assumption | with_reducible refine And.intro ?_ ?_ | intro _ | omega | (rw [Ux]; omega))
                  refine M2 (bc := bcon_treeT n) ⟨t, j, f, d + 1⟩ [90000, 90001, 90002] ⟨ht, hN, by simp only; omega, by simp only; omega, by simp only; omega⟩ rfl (by simp) (by rw [hp2]; rfl) ?_ ?_ ?_
                  · show standAt _ _ (tboxed t j) _
                    rw [Gb]
                    simp [standAt,lk,rnO,rnA,rnAs,rk]
                  · show freeAt (List.drop (tboxed t j).length _) _
                    rw [Gb]
                    simp [freeAt,lk]
                  cases w1 with
                  | false =>
                    rw [cond_false] at hR
                    injection hR with hr1 hr2
                    subst hr1
                    subst hr2
                    (sym =>
                     simp [hp2,hp3,Gb,Ur,Up,Us,Uo,szN,Uq,Ky,K5,Zb,Zc,Ze,Zf,Zg,Qc,Qd,Qo,Qq,Qs,Qt,Qu,Qv,Qw,Qx,Q1,Q2,Q4,Ji,Jk,Jn,Jo,Jp,Jq,J4,J5,J6,J7,J8,J9,Xa,Xb,Xe,Xk,Xl,X2,X4,X5,X9,Wa,Wd,Wf,Wg,Wr,Ws,Wt,Wu,W4,W5,W8,W9,Yd,Yh,Y5,Y6,Y7,Y8,Vo,Vr,V5,Uh,Uj,Uk,Ku]
                     tactic =>
                      try simp only [Uy] at *
                      try simp only [nc2] at *
                      try simp (maxSteps := 4000000) only [hp2,hp3,Gb,Ur,Up,Us,Uo,szN,Uq,U1]
                      repeat' (first | with_reducible assumption | with_reducible refine And.intro ?_ ?_ | intro _ | omega | (rw [Ux]; omega))
                      refine ⟨[90000, 90001, 90002], by simp, rfl, Hh, ?_⟩
                      simp [standAt,lk,rnO,rnA,rnAs,rk])
                  | true =>
                    rw [cond_true] at hR
                    (sym =>
                     simp [hp2,hp3,Gb,Ur,Up,Us,Uo,szN,Uq,Ky,H6,Zb,Zc,Ze,Zf,Zg,Qb,Qc,Qd,Qq,Qs,Qt,Qu,Q1,Q2,Q4,Ji,Jn,Jo,Jq,J4,J5,J6,J7,J8,J9,Xa,Xb,X1,X2,X5,Wa,Wd,Wf,Wg,Wr,Ws,Wt,Wu,W8,W9,Yc,Yd,Yg,Yh,Y5,Y6,Y7,Y8,Vn,Vr,V4,Ui,Uj,U2,Ku]
                     tactic =>
                      try simp only [Uy] at *
                      try simp only [nc2] at *
                      try simp (maxSteps := 4000000) only [hp2,hp3,Gb,Ur,Up,Us,Uo,szN,Uq,U1]
                      repeat' (first | with_reducible assumption | with_reducible refine And.intro ?_ ?_ | intro _ | omega | (rw [Ux]; omega))
                      refine ⟨(k + 1, x.name, w2), by ((try simp only [Uz, killAll, setSlots, updAll, upd, U9, setCs, putC, Nat.reduceDiv, Nat.reduceMod, Nat.reduceMul, Nat.reduceAdd, Nat.reduceEqDiff, List.set_cons_zero, List.set_cons_succ, if_true, if_false, reduceIte]); (first | refine Wk.of_fl ?_ | skip); simp only [Wk, wkK, wkCs, wkT, wk1, AV.kept, keptAll, wkO, lk, wkObj, and_true, true_and, and_self, Nat.reduceEqDiff, Nat.reduceLeDiff, if_true, if_false, reduceIte, reduceCtorEq, Option.isSome, false_implies]; try simp [Wk, wkK, wkT, wk1, AV.kept, keptAll, wkO, lk, wkObj]), by simp only; omega, ?_, by simp only; omega⟩
                      simp only
                      rw [show ar p - (k + 1) = m by omega]
                      exact hR))
              | true =>
                cases hlq : (Op.bytesLess x.name last || x.name == last) with
                | true =>
                  have hb : badK p k x last = true := by simp only [badK, h9, hla, hrow, hlq, cond_true, cond_false, Bool.not_true, Bool.not_false]
                  rw [hb, cond_true] at hR
                  injection hR with hr1 hr2
                  subst hr1
                  subst hr2
                  (sym =>
                   simp [hltb,hleb2,hel2,h9,hla,hrow,hlq,Ur,Up,Us,Uo,szN,Uq,Ky,Hs,K5,Ht,con_isLabelT.eq_def,con_isNodeT.eq_def,con_isRowT.eq_def,con_manyT.eq_def,Zb,Zc,Zd,Ze,Zf,Zg,Zo,Zp,Zq,Zs,Zt,Zu,Zv,Zw,Zx,Zy,Z6,Z9,Qb,Qc,Qd,Qe,Qf,Qh,Qk,Ql,Qm,Qo,Qq,Qs,Qv,Qw,Qx,Q1,Q2,Q4,Q8,Ja,Jf,Jh,Ji,Jj,Jk,Jl,Jp,Jx,Jy,Jz,J4,J5,J6,J7,J8,J9,Xa,Xb,Xe,Xk,Xl,Xo,Xr,Xt,Xu,X1,X2,X4,X5,X6,X9,Wa,Wd,Wf,Wg,Wh,Wj,Wr,Ws,Wt,Wu,Wv,Wx,Wy,W0,W3,W4,W5,W6,W7,W8,W9,Yb,Yc,Yd,Ye,Yf,Yg,Yh,Yi,Yj,Yk,Yo,Yw,Y5,Y6,Y7,Y8,Va,Vb,Vc,Vd,Ve,Vf,Vg,Vk,Vl,Vn,Vp,Vr,V4,V5,Uh,Ui,Uj,Uk,Ul,Um,Un,U2,Ku,Gr,U3,Kb]
                   tactic =>
                    try simp only [Uy] at *
                    try simp only [nc2] at *
                    try simp (maxSteps := 4000000) only [hltb,hleb2,hel2,h9,hla,hrow,hlq,Ur,Up,Us,Uo,szN,Uq,U1]
                    repeat' (first | with_reducible assumption | with_reducible refine And.intro ?_ ?_ | intro _ | omega | (rw [Ux]; omega))
                    refine ⟨[90000, 90001, 90002], by simp, rfl, Hh, ?_⟩
                    simp [standAt,lk,rnO,rnA,rnAs,rk])
                | false =>
                  have hb : badK p k x last = false := by simp only [badK, h9, hla, hrow, hlq, cond_true, cond_false, Bool.not_true, Bool.not_false]
                  rw [hb, cond_false] at hR
                  obtain ⟨w, hw⟩ : ∃ w, treeR t f j = w := ⟨_, rfl⟩
                  rw [hw] at hR
                  obtain ⟨w1, w2⟩ := w
                  simp only at hR
                  have hp2 : (bcon_treeT n).post ⟨t, j, f, d + 1⟩ = tboxed t w2 := by rw [E7, hw]
                  have hp3 : (bcon_treeT n).res ⟨t, j, f, d + 1⟩ = .bool w1 := by rw [Ii, hw]
                  (sym =>
                   simp [hltb,hleb2,hel2,h9,hla,hrow,hlq,Ur,Up,Us,Uo,szN,Uq,Ky,Hs,K5,Ht,H6,con_isLabelT.eq_def,con_isNodeT.eq_def,con_isRowT.eq_def,con_manyT.eq_def,Zb,Zc,Zd,Ze,Zf,Zg,Zo,Zp,Zq,Zs,Zt,Zu,Zv,Zw,Zx,Zy,Z6,Z9,Qb,Qc,Qd,Qe,Qf,Qh,Qk,Ql,Qm,Qq,Qs,Q1,Q2,Q4,Q8,Ja,Jf,Jh,Ji,Jj,Jl,Jx,Jy,Jz,J4,J5,J6,J7,J8,J9,Xa,Xb,Xe,Xo,Xr,Xt,Xu,X1,X2,X4,X5,X6,Wa,Wd,Wf,Wg,Wh,Wj,Wr,Ws,Wt,Wu,Wv,Wx,Wy,W0,W3,W4,W5,W6,W7,W8,W9,Yb,Yc,Yd,Ye,Yf,Yg,Yh,Yi,Yj,Yk,Yo,Yw,Y5,Y6,Y7,Y8,Y9,Va,Vb,Vc,Vd,Ve,Vf,Vg,Vk,Vl,Vn,Vp,Vr,V4,V5,Uh,Ui,Uj,Uk,Ul,Um,Un,U2,Ku,Gr,U3,Kb,B3]
                   tactic =>
                    try simp only [Uy] at *
                    try simp only [nc2] at *
                    try simp (maxSteps := 4000000) only [hltb,hleb2,hel2,h9,hla,hrow,hlq,Ur,Up,Us,Uo,szN,Uq,U1]
                    repeat' (first | with_reducible assumption | with_reducible refine And.intro ?_ ?_ | intro _ | omega | (rw [Ux]; omega))
                    refine M2 (bc := bcon_treeT n) ⟨t, j, f, d + 1⟩ [90000, 90001, 90002] ⟨ht, hN, by simp only; omega, by simp only; omega, by simp only; omega⟩ rfl (by simp) (by rw [hp2]; rfl) ?_ ?_ ?_
                    · show standAt _ _ (tboxed t j) _
                      rw [Gb]
                      simp [standAt,lk,rnO,rnA,rnAs,rk]
                    · show freeAt (List.drop (tboxed t j).length _) _
                      rw [Gb]
                      simp [freeAt,lk]
                    cases w1 with
                    | false =>
                      rw [cond_false] at hR
                      injection hR with hr1 hr2
                      subst hr1
                      subst hr2
                      (sym =>
                       simp [hp2,hp3,Gb,Ur,Up,Us,Uo,szN,Uq,Ky,K5,Zb,Zc,Ze,Zf,Zg,Qc,Qd,Qo,Qq,Qs,Qt,Qu,Qv,Qw,Qx,Q1,Q2,Q4,Ji,Jk,Jn,Jo,Jp,Jq,J4,J5,J6,J7,J8,J9,Xa,Xb,Xe,Xk,Xl,X2,X4,X5,X9,Wa,Wd,Wf,Wg,Wr,Ws,Wt,Wu,W4,W5,W8,W9,Yd,Yh,Y5,Y6,Y7,Y8,Vo,Vr,V5,Uh,Uj,Uk,Ku]
                       tactic =>
                        try simp only [Uy] at *
                        try simp only [nc2] at *
                        try simp (maxSteps := 4000000) only [hp2,hp3,Gb,Ur,Up,Us,Uo,szN,Uq,U1]
                        repeat' (first | with_reducible assumption | with_reducible refine And.intro ?_ ?_ | intro _ | omega | (rw [Ux]; omega))
                        refine ⟨[90000, 90001, 90002], by simp, rfl, Hh, ?_⟩
                        simp [standAt,lk,rnO,rnA,rnAs,rk])
                    | true =>
                      rw [cond_true] at hR
                      (sym =>
                       simp [hp2,hp3,Gb,Ur,Up,Us,Uo,szN,Uq,Ky,H6,Zb,Zc,Ze,Zf,Zg,Qb,Qc,Qd,Qq,Qs,Qt,Qu,Q1,Q2,Q4,Ji,Jn,Jo,Jq,J4,J5,J6,J7,J8,J9,Xa,Xb,X1,X2,X5,Wa,Wd,Wf,Wg,Wr,Ws,Wt,Wu,W8,W9,Yc,Yd,Yg,Yh,Y5,Y6,Y7,Y8,Vn,Vr,V4,Ui,Uj,U2,Ku]
                       tactic =>
                        try simp only [Uy] at *
                        try simp only [nc2] at *
                        try simp (maxSteps := 4000000) only [hp2,hp3,Gb,Ur,Up,Us,Uo,szN,Uq,U1]
                        repeat' (first | with_reducible assumption | with_reducible refine And.intro ?_ ?_ | intro _ | omega | (rw [Ux]; omega))
                        refine ⟨(k + 1, x.name, w2), by ((try simp only [Uz, killAll, setSlots, updAll, upd, U9, setCs, putC, Nat.reduceDiv, Nat.reduceMod, Nat.reduceMul, Nat.reduceAdd, Nat.reduceEqDiff, List.set_cons_zero, List.set_cons_succ, if_true, if_false, reduceIte]); (first | refine Wk.of_fl ?_ | skip); simp only [Wk, wkK, wkCs, wkT, wk1, AV.kept, keptAll, wkO, lk, wkObj, and_true, true_and, and_self, Nat.reduceEqDiff, Nat.reduceLeDiff, if_true, if_false, reduceIte, reduceCtorEq, Option.isSome, false_implies]; try simp [Wk, wkK, wkT, wk1, AV.kept, keptAll, wkO, lk, wkObj]), by simp only; omega, ?_, by simp only; omega⟩
                        simp only
                        rw [show ar p - (k + 1) = m by omega]
                        exact hR))
        · have hz : ar p - k = 0 := by omega
          rw [hz, kidsR] at hR
          injection hR with hr1 hr2
          subst hr1
          subst hr2
          (sym =>
           simp [hltb,Ur,Up,Us,Uo,szN,Uq,Ky,K5,Zb,Zc,Ze,Zf,Zg,Qb,Qd,Qo,Qq,Qs,Qv,Qw,Qx,Q1,Q2,Q4,Ji,Jk,Jp,Jx,Jy,Jz,J4,J5,J7,J8,J9,Xa,Xb,Xe,Xk,Xl,X2,X4,X5,X8,X9,Wa,Wd,Wf,Wg,Wr,Ws,Wt,Wu,W4,W5,W8,W9,Yb,Yc,Yg,Y5,Y6,Y7,Y8,Vr,V5,Ui,Uj,Uk,Ul,U2]
           tactic =>
            try simp only [Uy] at *
            try simp only [nc2] at *
            try simp (maxSteps := 4000000) only [hltb,Ur,Up,Us,Uo,szN,Uq,U1]
            repeat' (first | with_reducible assumption | with_reducible refine And.intro ?_ ?_ | intro _ | omega | (rw [Ux]; omega))
            refine ⟨[90000, 90001, 90002], by simp, rfl, Hh, ?_⟩
            simp [standAt,lk,rnO,rnA,rnAs,rk]))
theorem R3 : ∀ n, GoodB Try.prog (116, bcon_treeT n)
  | 0 => goodb_void (U0 Try.func116 (by kernel_rfl) rfl) bcon_treeT_zero
  | n + 1 => stepb_treeT n (R3 n)
end Go.Am.Ty
set_option linter.unusedSimpArgs false
set_option linter.unusedVariables false
set_option maxHeartbeats 1000000
namespace Go.Am.Ty
open Go.Proofs Go.Rose Go.Rose.Rose
open Enc (enc dec)
def bcon_treeTA : BCon := bcon_treeT 101
theorem goodb_treeTA : GoodB Try.prog (116, bcon_treeTA) := R3 _
theorem treeTA_post {t : List Node} {i f : Nat} {d : Int} : bcon_treeTA.post ⟨t, i, f, d⟩ = tboxed t (treeR t f i).2 := rfl
theorem treeTA_res {t : List Node} {i f : Nat} {d : Int} : bcon_treeTA.res ⟨t, i, f, d⟩ = .bool (treeR t f i).1 := rfl
def rightT (t : List Node) : Bool := !headBad t && ((treeR t 100 0).1 && ((treeR t 100 0).2 : Int) == (t.length : Int))
def con_RightT : Con := con1 (fun (t : Sl Node) => t.l.length ≤ 1000000 ∧ Named t.l) (fun t => rightT t.l)
noncomputable def ctx_RightT : Ctx := ⟨tab, lkC [], 60, lkB [(116, bcon_treeTA)], [], false⟩
theorem Mv : ctx_RightT.τ = tab := rfl
theorem Mw : ctx_RightT.dp = 60 := rfl
theorem ctx_RightT_b : ctx_RightT.Δ = lkB [(116, bcon_treeTA)] := rfl
set_option maxRecDepth 100000 in
theorem good_RightT : Good Try.prog (103, con_RightT) := by
  refine ⟨U0 Try.func103 (by kernel_rfl) rfl, ?_⟩
  have K : CtxOk Try.prog ctx_RightT := U4 Ki Ka (by simp) (by
    intro p hp
    simp only [List.mem_cons, List.not_mem_nil, or_false] at hp
    rcases hp with rfl
    · exact goodb_treeTA)
  obtain ⟨c, hc⟩ : ∃ c, Try.f103.body = some c := ⟨_, rfl⟩
  refine U5 K Try.func103 hc [.tmp 2] rfl 36 rfl (fun cvs hpre => ?_)
  change con_RightT.pre cvs at hpre
  unfold con_RightT at hpre
  obtain ⟨⟨t⟩, rfl, ht, hN⟩ := K1 hpre
  simp only at ht hN
  obtain ⟨w, hw⟩ : ∃ w, treeR t 100 0 = w := ⟨_, rfl⟩
  obtain ⟨w1, w2⟩ := w
  have hR : rightT t = (!headBad t && (w1 && (w2 : Int) == (t.length : Int))) := by unfold rightT; rw [hw]
  simp only [Try.f103, Option.some.injEq] at hc
  subst hc
  refine Kl 2 (of_decide_eq_true (by kernel_rfl)) ?_
  by_cases h0 : t.length = 0
  · have hb : headBad t = true := by unfold headBad; simp [h0]
    have hRf : rightT t = false := by rw [hR, hb]; rfl
    have hlb : ((t.length : Int) == 0) = true := by rw [beq_iff_eq]; omega
    (sym =>
     simp [hlb,hRf,Ur,Up,Us,Uo,szN,Uq,Mv,Mw,con_RightT.eq_def,Zb,Zc,Zd,Ze,Zf,Zo,Zp,Zq,Zt,Zu,Zv,Zw,Z6,Qb,Qd,Qi,Qk,Ql,Qn,Qo,Qp,Qq,Qs,Q1,Q2,Q4,Q8,Ja,Jf,Jh,Ji,Jk,Jw,J2,J3,J4,J5,J7,J8,Xa,Xb,Xe,Xm,Xn,Xt,X2,X4,X5,X9,Wa,Wd,Wf,Wg,Wh,Wj,Wr,Ws,Wt,Wu,Ww,Wy,Wz,W4,W5,W6,W7,W8,W9,Yc,Yg,Yl,Yq,Yw,Yy,Yz,Y0,Y5,Y6,Y9,Va,Vb,Vc,Vd,Ve,Vh,Vr,Vs,V4,V5,Ua,Uc,Uf,Ug,Uh,Uj,Uk,Um,Un,U2,U3,Kb,B3])
  have hlb : ((t.length : Int) == 0) = false := by rw [beq_eq_false_iff_ne]; omega
  have hl0 : (t.length == 0) = false := by rw [beq_eq_false_iff_ne]; exact h0
  have hpos : 0 < t.length := by omega
  have hel := el_map0 hpos
  rcases Mf 10000 t.length with ⟨hl, hltb⟩ | ⟨hl, hltb⟩
  · have hb : headBad t = true := by unfold headBad; rw [hltb]; simp
    have hRf : rightT t = false := by rw [hR, hb]; rfl
    (sym =>
     simp [hlb,hltb,hRf,Ur,Up,Us,Uo,szN,Uq,Mv,Mw,con_RightT.eq_def,Zb,Zc,Zd,Ze,Zf,Zo,Zp,Zq,Zt,Zu,Zv,Zw,Z6,Qb,Qd,Qi,Qk,Ql,Qn,Qo,Qp,Qq,Qs,Q1,Q2,Q4,Q8,Ja,Jf,Jh,Ji,Jk,Jw,J2,J3,J4,J5,J7,J8,Xa,Xb,Xe,Xm,Xn,Xt,X2,X4,X5,X9,Wa,Wd,Wf,Wg,Wh,Wj,Wr,Ws,Wt,Wu,Ww,Wy,Wz,W4,W5,W6,W7,W8,W9,Yc,Yg,Yl,Yq,Yw,Yy,Yz,Y0,Y5,Y6,Y9,Va,Vb,Vc,Vd,Ve,Vh,Vr,Vs,V4,V5,Ua,Uc,Uf,Ug,Uh,Ui,Uj,Uk,Um,Un,U2,U3,Kb,B3])
  cases hnm : ((t.getD 0 n0).name == []) with
  | false =>
    have hb : headBad t = true := by unfold headBad; rw [hnm]; simp
    have hRf : rightT t = false := by rw [hR, hb]; rfl
    (sym =>
     simp [hlb,hltb,hel,hnm,hRf,Ur,Up,Us,Uo,szN,Uq,Mv,Mw,con_RightT.eq_def,Zb,Zc,Zd,Ze,Zf,Zo,Zp,Zq,Zs,Zt,Zu,Zv,Zw,Zx,Zy,Z6,Qb,Qd,Qi,Qk,Ql,Qn,Qo,Qp,Qq,Qs,Q1,Q2,Q4,Q8,Ja,Jf,Jh,Ji,Jk,Jw,J2,J3,J4,J5,J7,J8,Xa,Xb,Xe,Xm,Xn,Xt,X2,X4,X5,X9,Wa,Wd,Wf,Wg,Wh,Wj,Wr,Ws,Wt,Wu,Ww,Wy,Wz,W4,W5,W6,W7,W8,W9,Yc,Ye,Yg,Yi,Yk,Yl,Yq,Ys,Yu,Yw,Yy,Yz,Y0,Y5,Y6,Y9,Va,Vb,Vc,Vd,Ve,Vh,Vo,Vq,Vr,Vs,V4,V5,V6,V8,Ua,Uc,Uf,Ug,Uh,Ui,Uj,Uk,Um,Un,U2,Gr,U3,Kb,B3]
     tactic =>
      try simp only [Uy] at *
      try simp only [nc2] at *
      try simp (maxSteps := 4000000) only [hlb,hltb,hel,hnm,hRf,Ur,Up,Us,Uo,szN,Uq,U1]
      repeat' (first | with_reducible assumption | with_reducible refine And.intro ?_ ?_ | intro _ | omega | (rw [Ux]; omega)))
  | true =>
    cases h9 : ((t.getD 0 n0).kind == 9) with
    | true =>
      have hb : headBad t = true := by unfold headBad; rw [h9]; simp
      have hRf : rightT t = false := by rw [hR, hb]; rfl
      (sym =>
       simp [hlb,hltb,hel,hnm,h9,hRf,Ur,Up,Us,Uo,szN,Uq,Mv,Mw,con_RightT.eq_def,Zb,Zc,Zd,Ze,Zf,Zo,Zp,Zq,Zs,Zt,Zu,Zv,Zw,Zx,Zy,Z6,Qb,Qd,Qi,Qk,Ql,Qn,Qo,Qp,Qq,Qs,Q1,Q2,Q4,Q8,Ja,Jf,Jh,Ji,Jk,Jw,J2,J3,J4,J5,J7,J8,Xa,Xb,Xe,Xm,Xn,Xt,X2,X4,X5,X9,Wa,Wd,Wf,Wg,Wh,Wj,Wr,Ws,Wt,Wu,Ww,Wy,Wz,W4,W5,W6,W7,W8,W9,Yc,Ye,Yg,Yi,Yk,Yl,Yq,Yr,Ys,Yu,Yw,Yy,Yz,Y0,Y5,Y6,Y9,Va,Vb,Vc,Vd,Ve,Vh,Vn,Vq,Vr,Vs,V4,V5,V6,V8,Ua,Uc,Uf,Ug,Uh,Ui,Uj,Uk,Um,Un,U2,Gr,U3,Kb,B3]
       tactic =>
        try simp only [Uy] at *
        try simp only [nc2] at *
        try simp (maxSteps := 4000000) only [hlb,hltb,hel,hnm,h9,hRf,Ur,Up,Us,Uo,szN,Uq,U1]
        repeat' (first | with_reducible assumption | with_reducible refine And.intro ?_ ?_ | intro _ | omega | (rw [Ux]; omega)))
    | false =>
      have hb : headBad t = false := by unfold headBad; rw [hl0, hltb, hnm, h9]; rfl
      rw [hb, Bool.not_false, Bool.true_and] at hR
      have hp2 : bcon_treeTA.post ⟨t, 0, 100, 1⟩ = tboxed t w2 := by rw [treeTA_post, hw]
      have hp3 : bcon_treeTA.res ⟨t, 0, 100, 1⟩ = .bool w1 := by rw [treeTA_res, hw]
      (sym =>
       simp [hlb,hltb,hel,hnm,h9,Ur,Up,Us,Uo,szN,Uq,Mv,ctx_RightT_b,con_RightT.eq_def,Zb,Zc,Zd,Ze,Zf,Zo,Zp,Zq,Zs,Zt,Zu,Zv,Zw,Zx,Zy,Z6,Qb,Qd,Qi,Qk,Ql,Qq,Qs,Q1,Q2,Q4,Ja,Jf,Jh,Ji,Jl,Jw,J2,J3,J4,J5,J7,J8,Xa,Xb,Xm,Xn,Xt,X1,X2,X4,X5,Wa,Wd,Wf,Wg,Wh,Wj,Wr,Ws,Wt,Wu,Ww,Wy,Wz,W4,W5,W6,W7,W8,W9,Yc,Ye,Yg,Yi,Yk,Yl,Yq,Yr,Ys,Yu,Yw,Yy,Yz,Y0,Y5,Y6,Y9,Va,Vb,Vc,Vd,Ve,Vh,Vn,Vq,Vr,Vs,V4,V5,V6,V8,Ua,Uc,Uf,Ug,Ui,Uj,Uk,Um,Un,U2,Gr,U3,Kb,B3]
       tactic =>
        try simp only [Uy] at *
        try simp only [nc2] at *
        try simp (maxSteps := 4000000) only [hlb,hltb,hel,hnm,h9,Ur,Up,Us,Uo,szN,Uq,U1]
        repeat' (first | with_reducible assumption | with_reducible refine And.intro ?_ ?_ | intro _ | omega | (rw [Ux]; omega))
        refine M2 (bc := bcon_treeTA) ⟨t, 0, 100, 1⟩ [3, 1, 4] ⟨ht, hN, by simp only; omega, by simp only; omega, by simp only; omega⟩ rfl (by simp) (by rw [hp2]; rfl) ?_ ?_ ?_
        · show standAt _ _ (tboxed t 0) _
          rw [Gb]
          simp [standAt,lk,rnO,rnA,rnAs,rk]
          rfl
        · show freeAt (List.drop (tboxed t 0).length _) _
          rw [Gb]
          simp [freeAt,lk]
        cases w1 with
        | false =>
          have hRf : rightT t = false := by rw [hR]; rfl
          (sym =>
           simp [hp2,hp3,Gb,hRf,Ur,Up,Us,Uo,szN,Uq,Mw,Zb,Zc,Zd,Ze,Zf,Zt,Qn,Qo,Qp,Qq,Qs,Qt,Qu,Q1,Q2,Q4,Q8,Ji,Jk,Jn,Jo,Jq,J4,J5,J6,J7,J8,J9,Xa,Xb,Xe,X9,Wa,Wd,Wf,Wr,Ws,Wt,Wu,W6,W7,W8,W9,Y5,Y6,Y7,Y8,Vr,V5,Ui,Uk])
        | true =>
          have hRf : rightT t = ((w2 : Int) == (t.length : Int)) := by rw [hR]; rfl
          (sym =>
           simp [hp2,hp3,Gb,hRf,Ur,Up,Us,Uo,szN,Uq,Mv,Mw,Zb,Zc,Zd,Ze,Zf,Zo,Zp,Zq,Zt,Zv,Z6,Qb,Qd,Qn,Qo,Qp,Qq,Qs,Qt,Qu,Q1,Q2,Q4,Q8,Jh,Ji,Jk,Jn,Jo,Jq,J4,J5,J6,J7,J8,J9,Xa,Xb,Xe,X9,Wa,Wd,Wf,Wg,Wh,Wr,Ws,Wt,Wu,W4,W5,W6,W7,W8,W9,Yc,Yf,Yg,Yj,Y5,Y6,Y7,Y8,Vr,V5,Uh,Uk,Um,U2,U3,Kb]))
end Go.Am.Ty
set_option linter.unusedSimpArgs false
set_option linter.unusedVariables false
set_option maxHeartbeats 1000000
namespace Go.Am.Ty
open Go.Proofs Go.Rose Go.Rose.Rose
theorem less_not (x y : List UInt8) : (Op.bytesLess x y || x == y) = !Op.bytesLess y x := by
  rw [bytesLess_eq, bytesLess_eq, Bool.eq_iff_iff]
  simp only [Bool.or_eq_true, decide_eq_true_eq, beq_iff_eq, Bool.not_eq_true', decide_eq_false_iff_not, List.not_lt]
  constructor
  · rintro (h | rfl)
    · exact List.le_of_lt h
    · exact List.le_refl _
  · intro h
    rcases List.le_iff_lt_or_eq.1 h with h | h
    · exact .inl h
    · exact .inr h
theorem less_nil (x : List UInt8) : Op.bytesLess x [] = false := by
  rw [bytesLess_eq]
  simp
theorem isRow_eq (p : Node) : isRow3 p = isRowT p := rfl
theorem lab_bad {p x prev : Node} {k m : Nat} {last : List UInt8} (hn : numb3 p = true) (hm : m = ar p) (hk : k < m) (hl0 : k = 0 → last = []) (hl1 : 0 < k → last = prev.name) :
    labK p x prev (ltB 0 (k : Int)) ((k : Int) == (m : Int) - 1) = !badK p k x last := by
  unfold labK badK
  rw [isRow_eq]
  cases h9 : (x.kind == 9) with
  | true =>
    simp only [cond_true]
    cases hr : isRowT p with
    | false => rfl
    | true =>
      have hpn := numb_row hn hr
      have hmn : (m : Int) = p.n := by
        have h1 := B7 hn
        rw [hm, ← h1]
        unfold many3
        unfold isRowT at hr
        rw [Bool.or_eq_true, beq_iff_eq, beq_iff_eq] at hr
        rw [if_neg (by omega), if_pos hr]
      rcases Mf (k : Int) (p.n - 1) with ⟨h1, h2⟩ | ⟨h1, h2⟩
      · have : ((k : Int) == (m : Int) - 1) = false := by rw [beq_eq_false_iff_ne]; omega
        rw [h2, this]; rfl
      · have : ((k : Int) == (m : Int) - 1) = true := by rw [beq_iff_eq]; omega
        rw [h2, this]
        simp
  | false =>
    simp only [cond_false]
    have hcore : ∀ q : Bool, (q = true → x.name ≠ []) → (!(!q) && (!(!true && !(x.name == [])) && !(true && (ltB 0 (k : Int) && !Op.bytesLess prev.name x.name)))) = !cond (!q) true (Op.bytesLess x.name last || x.name == last) := by
      intro q hq
      cases q with
      | false => rfl
      | true =>
        rcases Nat.eq_zero_or_pos k with rfl | hk0
        · rw [hl0 rfl, less_nil]
          have : (x.name == []) = false := by rw [beq_eq_false_iff_ne]; exact hq rfl
          rw [this]
          rfl
        · have : ltB 0 (k : Int) = true := by rw [G4]; omega
          rw [this, hl1 hk0, less_not]
          simp
    by_cases h6 : p.kind = 6
    · have hr : isRowT p = true := by unfold isRowT; simp [h6]
      have := hcore (isWord x.name) (fun h e => by rw [e] at h; cases h)
      simp only [labB, h6, hr, cond_true] at this ⊢
      simpa using this
    · by_cases h7 : p.kind = 7
      · have hr : isRowT p = true := by unfold isRowT; simp [h7]
        have := hcore (isTag x.name) (fun h e => by rw [e] at h; cases h)
        simp only [labB, h7, hr, cond_true] at this ⊢
        simpa using this
      · have hr : isRowT p = false := by unfold isRowT; simp [h6, h7]
        simp only [labB, if_neg h6, if_neg h7, hr, cond_false, beq_eq_false_iff_ne.2 h6, beq_eq_false_iff_ne.2 h7]
        cases (x.name == []) <;> rfl
end Go.Am.Ty
set_option linter.unusedSimpArgs false
set_option linter.unusedVariables false
set_option maxHeartbeats 1000000
namespace Go.Am.Ty
open Go.Proofs Go.Rose Go.Rose.Rose
def kidN (ks : List (Rose Node)) (q : Nat) : Node := (ks.getD q (mk n0 [])).root
def lastN (ks : List (Rose Node)) (last : List UInt8) (q : Nat) : List UInt8 := if q = 0 then last else (kidN ks (q - 1)).name
theorem lastN_succ {x : Rose Node} {xs : List (Rose Node)} {last : List UInt8} {q : Nat} : lastN (x :: xs) last (q + 1) = lastN xs x.root.name q := by
  unfold lastN kidN
  rw [if_neg (by omega)]
  cases q with
  | zero => rfl
  | succ q => rw [if_neg (by omega)]; rfl
theorem labZ_bad {p : Node} {ks : List (Rose Node)} (hn : numb3 p = true) (hk : ks.length = ar p) : labZ p ks = true ↔ ∀ q, q < ks.length → badK p q (kidN ks q) (lastN ks [] q) = false := by
  unfold labZ
  rw [List.all_eq_true]
  constructor
  · intro h q hq
    have := h q (List.mem_range.2 hq)
    rw [lab_bad hn hk hq (last := lastN ks [] q) (fun e => by subst e; rfl) (fun e => by unfold lastN; rw [if_neg (by omega)]; rfl)] at this
    rw [Bool.not_eq_true'] at this
    exact this
  · intro h q hq
    have hq := List.mem_range.1 hq
    rw [lab_bad hn hk hq (last := lastN ks [] q) (fun e => by subst e; rfl) (fun e => by unfold lastN; rw [if_neg (by omega)]; rfl)]
    have := h q hq
    unfold kidN at this
    rw [this]
    rfl
theorem not_le {t : List Node} {i : Nat} (h : i < t.length) : leB (t.length : Int) (i : Int) = false := by rw [Pk]; omega
mutual
theorem treeR_ok {t : List Node} (hN : Numb t) : ∀ {x : Rose Node} {i f : Nat}, At ar t i x → depth x ≤ f → labT x = true → treeR t f i = (true, i + (nds x).length)
  | mk n ks, i, f, h, hd, hl => by
    cases f with
    | zero => rw [depth] at hd; omega
    | succ f =>
      have hlt := h.lt
      have hroot : t.getD i n0 = n := h.root n0
      obtain ⟨hks, hkl⟩ := h.kids
      simp only [kids, root] at hks hkl
      rw [depth] at hd
      rw [labT, Bool.and_eq_true] at hl
      have hnb : numb3 n = true := by rw [← hroot]; exact hN _ (by simp [hlt])
      rw [treeR, not_le hlt, cond_false, hroot, hnb, cond_true, ← hkl]
      rw [kidsR_ok hN hks (by omega) hl.2 (fun q hq => by rw [Nat.zero_add]; exact (labZ_bad hnb hkl).1 hl.1 q hq), K6, List.length_cons]
      congr 1
      omega
theorem kidsR_ok {t : List Node} (hN : Numb t) : ∀ {ks : List (Rose Node)} {p : Node} {k : Nat} {last : List UInt8} {j f : Nat}, Ats ar t j ks → depths ks ≤ f → labTs ks = true → (∀ q, q < ks.length → badK p (k + q) (kidN ks q) (lastN ks last q) = false) →
    kidsR t (treeR t f) p ks.length k last j = (true, j + (ndss ks).length)
  | [], p, k, last, j, f, _, _, _, _ => by rw [List.length_nil, kidsR]; simp [ndss]
  | x :: xs, p, k, last, j, f, h, hd, hl, hb => by
    obtain ⟨hx, hxs⟩ := h.head
    have hj := hx.lt
    rw [depths] at hd
    rw [labTs, Bool.and_eq_true] at hl
    have hb0 : badK p k x.root last = false := hb 0 (by simp)
    rw [List.length_cons, kidsR, not_le hj, cond_false, hx.root n0, hb0, cond_false, treeR_ok hN hx (by omega) hl.1]
    simp only [cond_true]
    rw [kidsR_ok hN hxs (by omega) hl.2 (fun q hq => by
      have := hb (q + 1) (by simp only [List.length_cons]; omega)
      rw [lastN_succ] at this
      rw [show k + 1 + q = k + (q + 1) by omega]
      exact this), ndss, List.length_append]
    congr 1
    omega
end
theorem ats_cons {t : List Node} {j : Nat} {x : Rose Node} {xs : List (Rose Node)} (hx : At ar t j x) (hxs : Ats ar t (j + (nds x).length) xs) : Ats ar t j (x :: xs) := by
  obtain ⟨h1, r, h2⟩ := hx
  obtain ⟨g1, s, g2⟩ := hxs
  refine ⟨⟨h1, g1⟩, s, ?_⟩
  rw [← List.drop_drop, h2, List.drop_left'] at g2
  · rw [h2, g2, ndss, List.append_assoc]
  · rfl
theorem at_of_ats {t : List Node} {i : Nat} {ks : List (Rose Node)} (hi : i < t.length) (hk : ks.length = ar (t.getD i n0)) (h : Ats ar t (i + 1) ks) : At ar t i (mk (t.getD i n0) ks) := by
  obtain ⟨g1, s, g2⟩ := h
  refine ⟨⟨hk, g1⟩, s, ?_⟩
  rw [List.drop_eq_getElem_cons hi, g2, K6]
  simp [hi]
theorem kidsR_tree {t : List Node} {p : Node} {f : Nat} {tr : Nat → Bool × Nat} (htr : ∀ i j, tr i = (true, j) → ∃ x, At ar t i x ∧ j = i + (nds x).length ∧ depth x ≤ f ∧ labT x = true ∧ Numb (nds x)) : ∀ {m k : Nat} {last : List UInt8} {j e : Nat}, kidsR t tr p m k last j = (true, e) → j ≤ t.length →
    ∃ ks : List (Rose Node), ks.length = m ∧ Ats ar t j ks ∧ e = j + (ndss ks).length ∧ depths ks ≤ f ∧ labTs ks = true ∧ Numb (ndss ks) ∧ ∀ q, q < ks.length → badK p (k + q) (kidN ks q) (lastN ks last q) = false
  | 0, k, last, j, e, h, hj => by
    rw [kidsR] at h
    injection h with _ h
    exact ⟨[], rfl, ⟨trivial, t.drop j, by simp [ndss]⟩, by simp [ndss, h], by simp [depths], rfl, fun n hn => by simp [ndss] at hn, fun q hq => by simp at hq⟩
  | m + 1, k, last, j, e, h, hj => by
    rw [kidsR] at h
    cases hl : leB (t.length : Int) (j : Int) with
    | true => rw [hl, cond_true] at h; cases h
    | false =>
      rw [hl, cond_false] at h
      cases hb : badK p k (t.getD j n0) last with
      | true => rw [hb, cond_true] at h; cases h
      | false =>
        rw [hb, cond_false] at h
        obtain ⟨w, hw⟩ : ∃ w, tr j = w := ⟨_, rfl⟩
        obtain ⟨w1, w2⟩ := w
        rw [hw] at h
        simp only at h
        cases w1 with
        | false => rw [cond_false] at h; cases h
        | true =>
          rw [cond_true] at h
          obtain ⟨x, hx, rfl, hd, hla, hn⟩ := htr j w2 hw
          obtain ⟨ks, e1, e2, e3, e4, e5, e6, e7⟩ := kidsR_tree htr h hx.le
          have hro := hx.root n0
          refine ⟨x :: ks, by simp [e1], ats_cons hx e2, ?_, ?_, ?_, ?_, fun q hq => ?_⟩
          · rw [e3, ndss, List.length_append]; omega
          · rw [depths]; omega
          · rw [labTs, hla, e5]; rfl
          · intro n hm
            rw [ndss, List.mem_append] at hm
            rcases hm with hm | hm
            · exact hn n hm
            · exact e6 n hm
          · cases q with
            | zero => rw [hro] at hb; exact hb
            | succ q =>
              rw [lastN_succ, ← hro, show k + (q + 1) = k + 1 + q by omega]
              exact e7 q (by simpa using hq)
theorem treeR_tree {t : List Node} : ∀ {f i j : Nat}, treeR t f i = (true, j) → ∃ x, At ar t i x ∧ j = i + (nds x).length ∧ depth x ≤ f ∧ labT x = true ∧ Numb (nds x)
  | 0, i, j, h => by rw [treeR] at h; cases h
  | f + 1, i, j, h => by
    rw [treeR] at h
    cases hl : leB (t.length : Int) (i : Int) with
    | true => rw [hl, cond_true] at h; cases h
    | false =>
      rw [hl, cond_false] at h
      rw [Pk] at hl
      have hi : i < t.length := by omega
      cases hnb : numb3 (t.getD i n0) with
      | false => rw [hnb, cond_false] at h; cases h
      | true =>
        rw [hnb, cond_true] at h
        obtain ⟨ks, e1, e2, e3, e4, e5, e6, e7⟩ := kidsR_tree (f := f) (fun i j h => treeR_tree h) h (by omega)
        refine ⟨mk (t.getD i n0) ks, at_of_ats hi e1 e2, ?_, ?_, ?_, ?_⟩
        · rw [e3, K6, List.length_cons]; omega
        · rw [depth]; omega
        · rw [labT, Bool.and_eq_true]
          exact ⟨(labZ_bad hnb e1).2 fun q hq => by have := e7 q hq; rwa [Nat.zero_add] at this, e5⟩
        · intro n hm
          rw [K6] at hm
          rcases List.mem_cons.1 hm with rfl | hm
          · exact hnb
          · exact e6 n hm
theorem right_same (t : List Node) : rightT t = right3 t := by
  rw [Bool.eq_iff_iff]
  unfold rightT
  constructor
  · intro h
    rw [Bool.and_eq_true, Bool.and_eq_true, beq_iff_eq, Bool.not_eq_true'] at h
    obtain ⟨h1, h2, h3⟩ := h
    obtain ⟨x, hx, e, hd, hl, hn⟩ := treeR_tree (t := t) (f := 100) (i := 0) (j := (treeR t 100 0).2) (by rw [← h2])
    unfold headBad at h1
    simp only [Bool.or_eq_false_iff, beq_eq_false_iff_ne, Bool.not_eq_false', beq_iff_eq, Gn] at h1
    obtain ⟨⟨⟨g1, g2⟩, g3⟩, g4⟩ := h1
    have hro := hx.root n0
    have ht : t = nds x := by
      obtain ⟨_, r, h5⟩ := hx
      rw [List.drop_zero] at h5
      have h6 := congrArg List.length h5
      rw [List.length_append] at h6
      have : r = [] := List.length_eq_zero_iff.1 (by omega)
      rw [h5, this, List.append_nil]
    rw [ht]
    exact right3_rt ⟨hx.1, hn, hd, hl, by rw [← hro]; exact g3, by rw [← hro]; exact g4, by rw [← ht]; omega⟩
  · intro h
    obtain ⟨x, rfl, hx⟩ := N0 h
    have ha := Ni hx.wf
    have hro := ha.root n0
    rw [treeR_ok hx.numb ha hx.depth hx.lab]
    have hh : headBad (nds x) = false := by
      unfold right3 at h
      rw [Bool.and_eq_true, Bool.not_eq_true'] at h
      exact h.1
    rw [hh]
    simp
end Go.Am.Ty
set_option linter.unusedSimpArgs false
set_option linter.unusedVariables false
set_option maxHeartbeats 1000000
namespace Go.Am.Ty
open Go.Proofs Go.Rose Go.Rose.Rose
open Enc (enc dec)
structure VNode where
  kind : Int
  label : List UInt8
  name : List UInt8
  num : Int
  many : Int
  t : List Node
  u : List Node
  deriving DecidableEq
instance encVNode : Enc VNode := ⟨fun a => .agg [.int .i64 a.kind, .str a.label, .str a.name, .int .i64 a.num, .int .i64 a.many, .list 3 (a.t.map enc), .list 3 (a.u.map enc)], fun x => match x with
  | .agg [a, b, c, d, e, f, g] => ⟨a.i, b.s, c.s, d.i, e.i, f.l.map dec, g.l.map dec⟩
  | _ => ⟨0, [], [], 0, 0, [], []⟩, fun a => by
    have h : ∀ l : List Node, (l.map (enc : Node → D)).map dec = l := fun l => Hu
    cases a
    simp [D.l,D.i,D.s,h]⟩
instance szVNode : Sz VNode := ⟨7⟩
theorem szV : Sz.sz VNode = 7 := rfl
theorem Ut {n : VNode} : (enc n : D) = .agg [.int .i64 n.kind, .str n.label, .str n.name, .int .i64 n.num, .int .i64 n.many, .list 3 (n.t.map enc), .list 3 (n.u.map enc)] := rfl
theorem Uw {a : Int} {b c : List UInt8} {d e : Int} {f g : List Node} : (dec (.agg [.int .i64 a, .str b, .str c, .int .i64 d, .int .i64 e, .list 3 (f.map enc), .list 3 (g.map enc)]) : VNode) = ⟨a, b, c, d, e, f, g⟩ := Enc.dec_enc (VNode.mk a b c d e f g)
theorem Uv {a : Int} {b c : List UInt8} {d e : Int} {f g : List Node} : isE VNode (.agg [.int .i64 a, .str b, .str c, .int .i64 d, .int .i64 e, .list 3 (f.map enc), .list 3 (g.map enc)]) = True := eq_true (Gp (VNode.mk a b c d e f g))
theorem Uu {n : VNode} : VNode.mk n.kind n.label n.name n.num n.many n.t n.u = n := rfl
def arV (n : VNode) : Nat := if n.kind = 4 then n.many.toNat else if n.kind = 5 ∨ n.kind = 7 then 1 else 0
def con_manyV : Con := con1 (fun (_ : VNode) => True) (fun n => (arV n : Int))
noncomputable def ctx_manyV : Ctx := ⟨tab, lkC [], 60, lkB [], [], false⟩
theorem ctx_manyV_t : ctx_manyV.τ = tab := rfl
theorem ctx_manyV_d : ctx_manyV.dp = 60 := rfl
theorem good_manyV : Good Try.prog (54, con_manyV) := by
  refine ⟨U0 Try.func54 (by kernel_rfl) rfl, ?_⟩
  have K : CtxOk Try.prog ctx_manyV := U4 Ki Ka (by simp) (by simp)
  obtain ⟨c, hc⟩ : ∃ c, Try.f54.body = some c := ⟨_, rfl⟩
  refine U5 K Try.func54 hc [.tmp 2] rfl 13 rfl (fun cvs hpre => ?_)
  change con_manyV.pre cvs at hpre
  unfold con_manyV at hpre
  obtain ⟨n, rfl, -⟩ := K1 hpre
  simp only [Try.f54, Option.some.injEq] at hc
  subst hc
  (sym =>
   simp [Ut,Uw,Uv,Uu,ctx_manyV_t,ctx_manyV_d,con_manyV.eq_def,Za,Zb,Zc,Ze,Zf,Zg,Zo,Zp,Zq,Zs,Zu,Zv,Zx,Z7,Qb,Qd,Ql,Qm,Qn,Qo,Qp,Qq,Qs,Q1,Q2,Q4,Q8,Jh,Ji,Jk,Jw,J2,J3,Xe,Xr,Xt,X1,X2,X4,X5,X6,X9,Wa,Wd,Wf,Wg,Wh,Wr,Ws,Wt,Wu,Ww,Wy,W0,W3,W4,W5,W6,W7,Yc,Yg,Yo,Yv,Y5,Y6,Y7,Y8,Y9,Va,V4,Uh,Uj,Uk,U2,Kd]
   tactic =>
    try simp only [Uy] at *
    try simp only [nc2] at *
    try simp (maxSteps := 4000000) only [Ut,Uw,Uv,Uu,U1]
    unfold arV
    repeat' (first | with_reducible assumption | with_reducible refine And.intro ?_ ?_ | intro _ | omega | (rw [Ux]; omega))
    all_goals first
      | (rename_i h4; rw [if_pos h4]; unfold maxI; split <;> omega)
      | (rename_i h4 h5; rw [if_neg h4, if_pos (.inl h5)]; rfl)
      | (rename_i h4 h5 h7; rw [if_neg h4, if_pos (.inr h7)]; rfl)
      | (rename_i h4 h5 h7; rw [if_neg h4, if_neg (by omega)]; rfl))
def con_many19 : Con := con1 (fun (_ : VNode) => True) (fun n => (arV n : Int))
noncomputable def ctx_many19 : Ctx := ⟨tab, lkC [], 60, lkB [], [], false⟩
theorem ctx_many19_t : ctx_many19.τ = tab := rfl
theorem ctx_many19_d : ctx_many19.dp = 60 := rfl
theorem Da : Good Try.prog (88, con_many19) := by
  refine ⟨U0 Try.func88 (by kernel_rfl) rfl, ?_⟩
  have K : CtxOk Try.prog ctx_many19 := U4 Ki Ka (by simp) (by simp)
  obtain ⟨c, hc⟩ : ∃ c, Try.f88.body = some c := ⟨_, rfl⟩
  refine U5 K Try.func88 hc [.tmp 2] rfl 13 rfl (fun cvs hpre => ?_)
  change con_many19.pre cvs at hpre
  unfold con_many19 at hpre
  obtain ⟨n, rfl, -⟩ := K1 hpre
  simp only [Try.f88, Option.some.injEq] at hc
  subst hc
  (sym =>
   simp [Ut,Uw,Uv,Uu,ctx_many19_t,ctx_many19_d,con_many19.eq_def,Za,Zb,Zc,Ze,Zf,Zg,Zo,Zp,Zq,Zs,Zu,Zv,Zx,Z7,Qb,Qd,Ql,Qm,Qn,Qo,Qp,Qq,Qs,Q1,Q2,Q4,Q8,Jh,Ji,Jk,Jw,J2,J3,Xe,Xr,Xt,X1,X2,X4,X5,X6,X9,Wa,Wd,Wf,Wg,Wh,Wr,Ws,Wt,Wu,Ww,Wy,W0,W3,W4,W5,W6,W7,Yc,Yg,Yo,Yv,Y5,Y6,Y7,Y8,Y9,Va,V4,Uh,Uj,Uk,U2,Kd]
   tactic =>
    try simp only [Uy] at *
    try simp only [nc2] at *
    try simp (maxSteps := 4000000) only [Ut,Uw,Uv,Uu,U1]
    unfold arV
    repeat' (first | with_reducible assumption | with_reducible refine And.intro ?_ ?_ | intro _ | omega | (rw [Ux]; omega))
    all_goals first
      | (rename_i h4; rw [if_pos h4]; unfold maxI; split <;> omega)
      | (rename_i h4 h5; rw [if_neg h4, if_pos (.inl h5)]; rfl)
      | (rename_i h4 h5 h7; rw [if_neg h4, if_pos (.inr h7)]; rfl)
      | (rename_i h4 h5 h7; rw [if_neg h4, if_neg (by omega)]; rfl))
end Go.Am.Ty
set_option linter.unusedSimpArgs false
set_option linter.unusedVariables false
set_option maxHeartbeats 1000000
namespace Go.Am.Ty
open Go.Proofs Go.Rose Go.Rose.Rose
open Enc (enc dec)
structure PS where
  s : List UInt8
instance encPS : Enc PS := ⟨fun p => .ptr 1 (.str p.s), fun x => match x with
  | .ptr _ y => ⟨y.s⟩
  | _ => ⟨[]⟩, fun p => rfl⟩
theorem enc_PS {s : List UInt8} : (enc (PS.mk s) : D) = .ptr 1 (.str s) := rfl
theorem PS_s {s : List UInt8} : (PS.mk s).s = s := rfl
theorem I9 {s : List UInt8} : (dec (.ptr 1 (.str s)) : PS) = ⟨s⟩ := rfl
theorem isE_PS {s : List UInt8} : isE PS (.ptr 1 (.str s)) = True := eq_true rfl
def nameAt (t : List Node) (s : List UInt8) (i : Int) : Bool := (t.getD i.toNat n0).name == s
def con_FieldF : Con := con3 (fun (i : Int) (p : PL) (_ : PS) => 0 ≤ i ∧ i < p.l.length) (fun i p s => nameAt p.l s.s i)
noncomputable def ctx_FieldF : Ctx := ⟨tab, lkC [], 60, lkB [], [], false⟩
theorem ctx_FieldF_t : ctx_FieldF.τ = tab := rfl
theorem ctx_FieldF_c : ctx_FieldF.Γ = lkC [] := rfl
theorem ctx_FieldF_d : ctx_FieldF.dp = 60 := rfl
theorem ctx_FieldF_b : ctx_FieldF.Δ = lkB [] := rfl
theorem ctx_FieldF_w : ctx_FieldF.wr = false := rfl
theorem good_FieldF : Good Try.prog (109, con_FieldF) := by
  refine ⟨U0 Try.func109 (by kernel_rfl) rfl, ?_⟩
  have K : CtxOk Try.prog ctx_FieldF := U4 Ki Ka (by simp) (by simp)
  obtain ⟨c, hc⟩ : ∃ c, Try.f109.body = some c := ⟨_, rfl⟩
  refine U5 K Try.func109 hc [.tmp 4] rfl 12 rfl (fun cvs hpre => ?_)
  change con_FieldF.pre cvs at hpre
  unfold con_FieldF at hpre
  obtain ⟨i, ⟨t⟩, ⟨s⟩, rfl, h0, h1⟩ := P3 hpre
  simp only at h0 h1
  obtain ⟨i, rfl⟩ : ∃ n : Nat, i = n := ⟨i.toNat, by omega⟩
  have hil : i < t.length := by omega
  have hel := U8 n0 hil
  have hf : nameAt t s i = ((t.getD i n0).name == s) := rfl
  simp only [Try.f109, Option.some.injEq] at hc
  subst hc
  (sym =>
   simp [enc_PL,enc_PS,K9,I9,Nk,PS_s,hel,hf,Int.toNat_natCast,Ur,Up,Us,Uo,szN,Uq,ctx_FieldF_t,ctx_FieldF_c,ctx_FieldF_d,ctx_FieldF_b,ctx_FieldF_w,con_FieldF.eq_def,Za,Zb,Zc,Ze,Zf,Zh,Zi,Zj,Zk,Zl,Zm,Zo,Zp,Zq,Zs,Zv,Zx,Zy,Qb,Qd,Qn,Qo,Qp,Qq,Qr,Qs,Q1,Q2,Q4,Q5,Q6,Q8,Jk,Jw,J2,J3,Xe,Xv,X2,X3,X4,X9,Wa,Wb,Wc,Wd,We,Wf,Wg,Wh,Wn,Wr,Ws,Wt,Wu,Ww,Wy,W0,W3,W4,W5,W6,W7,Yc,Ye,Yf,Yi,Yj,Yk,Ys,Yt,Yu,Yv,Yw,Y5,Y6,Y7,Y8,Y9,Va,Vf,V5,Ui,Uj,Uk,Ul,Um,Un,Gr,U3,Kb]
   tactic =>
    try simp only [Uy] at *
    try simp only [nc2] at *
    try simp (maxSteps := 4000000) only [enc_PL,enc_PS,K9,I9,Nk,PS_s,hel,hf,Int.toNat_natCast,Ur,Up,Us,Uo,szN,Uq,U1]
    repeat' (first | with_reducible assumption | with_reducible refine And.intro ?_ ?_ | intro _ | omega | (rw [Ux]; omega))
    all_goals first
      | (with_reducible refine Kh ?_; kernel_rfl)
      | omega
      | rfl)
structure FieldC where
  t : List Node
  s : List UInt8
instance encFieldC : Enc FieldC := ⟨fun p => .clo 109 [.ptr 1 (.list 3 (p.t.map enc)), .ptr 1 (.str p.s)], fun x => match x with
  | .clo _ [.ptr _ y, .ptr _ z] => ⟨y.l.map dec, z.s⟩
  | _ => ⟨[], []⟩, fun p => by
    have h : ∀ l : List Node, (l.map (enc : Node → D)).map dec = l := fun l => Hu
    obtain ⟨l, s⟩ := p
    simp [D.l,D.s,h]⟩
theorem Be {t : List Node} {s : List UInt8} : (enc (FieldC.mk t s) : D) = .clo 109 [.ptr 1 (.list 3 (t.map enc)), .ptr 1 (.str s)] := rfl
theorem Fo {t : List Node} {s : List UInt8} : (dec (.clo 109 [.ptr 1 (.list 3 (t.map enc)), .ptr 1 (.str s)]) : FieldC) = ⟨t, s⟩ := Enc.dec_enc (FieldC.mk t s)
theorem P6 {t : List Node} {s : List UInt8} : (FieldC.mk t s).t = t := rfl
theorem P7 {t : List Node} {s : List UInt8} : (FieldC.mk t s).s = s := rfl
def con_indexFuncInt : Con := con2 (fun (l : Sl Int) (f : FieldC) => l.l.length ≤ 9223372036854775807 ∧ ∀ x ∈ l.l, 0 ≤ x ∧ x < f.t.length) (fun l f => idxP (nameAt f.t f.s) l.l)
noncomputable def ctx_indexFuncInt : Ctx := ⟨tab, lkC [(109, con_FieldF)], 60, lkB [], [], false⟩
theorem N2 : ctx_indexFuncInt.τ = tab := rfl
theorem Sj : ctx_indexFuncInt.Γ = lkC [(109, con_FieldF)] := rfl
theorem Pf : ctx_indexFuncInt.dp = 60 := rfl
theorem Sk : ctx_indexFuncInt.Δ = lkB [] := rfl
theorem Fp : ctx_indexFuncInt.wr = false := rfl
set_option maxRecDepth 100000 in
theorem R5 : Good Try.prog (108, con_indexFuncInt) := by
  refine ⟨U0 Try.func108 (by kernel_rfl) rfl, ?_⟩
  have K : CtxOk Try.prog ctx_indexFuncInt := U4 Ki Ka (by
    intro p hp
    simp only [List.mem_cons, List.not_mem_nil, or_false] at hp
    rcases hp with rfl
    · exact good_FieldF) (by simp)
  obtain ⟨c, hc⟩ : ∃ c, Try.f108.body = some c := ⟨_, rfl⟩
  refine U5 K Try.func108 hc [.tmp 4] rfl 19 rfl (fun cvs hpre => ?_)
  change con_indexFuncInt.pre cvs at hpre
  unfold con_indexFuncInt at hpre
  obtain ⟨⟨l⟩, ⟨t, s⟩, rfl, hl, hin⟩ := Kj hpre
  simp only at hl hin
  clear hpre
  simp only [Try.f108, Option.some.injEq] at hc
  subst hc
  (sym =>
   simp [Be,Ur,Up,Us,Uo,szN,Uq,N2,con_indexFuncInt.eq_def,Za,Zb,Zc,Ze,Zf,Zo,Z6,Qq,Qs,Q1,Q2,Q4,Jw,J2,J3,Xu,X2,X4,X6,X7,Wa,Wd,Wf,Wg,Wh,Wr,Ws,Wt,Wu,Ww,Wy,W4,W5,Yv,Yy,Yz,Y2,Y5,Y6,Y7,Y8,Y9,Va,Vh,Vs,V4,Uj,Um,U2,Nl]
   tactic =>
    try simp only [Uy] at *
    try simp only [nc2] at *
    try simp (maxSteps := 4000000) only [Be,Ur,Up,Us,Uo,szN,Uq,U1]
    refine Ke [4, 5, 9, 10, 11, 12, 13, 14, 15, 16, 17, 18] (fun k : Nat => [(8, .d (.int .i64 k))]) (fun k : Nat => []) (fun k : Nat => k ≤ l.length ∧ ∀ j, j < k → nameAt t s (l.getD j 0) = false) (fun k : Nat => l.length - k) 0 ?_ ?_ ?_
    · simp
    · ((try simp only [Uz, killAll, setSlots, updAll, upd, U9, setCs, putC, Nat.reduceDiv, Nat.reduceMod, Nat.reduceMul, Nat.reduceAdd, Nat.reduceEqDiff, List.set_cons_zero, List.set_cons_succ, if_true, if_false, reduceIte]); (first | refine Wk.of_fl ?_ | skip); simp only [Wk, wkK, wkCs, wkT, wk1, AV.kept, keptAll, wkO, lk, wkObj, and_true, true_and, and_self, Nat.reduceEqDiff, Nat.reduceLeDiff, if_true, if_false, reduceIte, reduceCtorEq, Option.isSome, false_implies]; try simp [Wk, wkK, wkT, wk1, AV.kept, keptAll, wkO, lk, wkObj])
    rintro k ⟨hk, hno⟩
    rcases Kf k l.length with ⟨hlt, hlb⟩ | ⟨hlt, hlb⟩
    · have q1 := U8 (0 : Int) hlt
      have hx := hin (l.getD k 0) (by simp [hlt])
      obtain ⟨v, hv⟩ : ∃ v, l.getD k 0 = v := ⟨_, rfl⟩
      rw [hv] at q1 hx
      cases hs : nameAt t s v with
      | false =>
        (sym =>
         simp [hlb,q1,hs,Be,K9,Gd,Nk,I9,isE_PS,PS_s,Ur,Up,Us,Uo,szN,Uq,N2,Sj,Pf,Sk,Fp,con_FieldF.eq_def,Zb,Zc,Ze,Zf,Zg,Zo,Zp,Zq,Zv,Zy,Z9,Qa,Qb,Qd,Qe,Qf,Qq,Qs,Q1,Q2,Q4,Q8,Jf,Jj,Jl,Jx,Jy,Jz,Xe,Xv,X1,X2,X4,X5,X6,Wa,Wd,Wf,Wg,Wh,Wr,Ws,Wv,Wx,Wy,W0,W3,Yb,Yc,Yg,Yk,Yr,Yv,Yw,Yy,Yz,Y2,Y5,Y6,Y7,Y8,Y9,Va,Vf,Vk,Vp,Vr,Vs,V4,Uh,Ui,Uj,Uk,Ul,Um,U2,Nl]
         tactic =>
          try simp only [Uy] at *
          try simp only [nc2] at *
          try simp (maxSteps := 4000000) only [hlb,q1,hs,Be,K9,Gd,Nk,I9,isE_PS,PS_s,Ur,Up,Us,Uo,szN,Uq,U1]
          repeat' (first | with_reducible assumption | with_reducible refine And.intro ?_ ?_ | intro _ | omega | (rw [Ux]; omega))
          refine ⟨k + 1, by ((try simp only [Uz, killAll, setSlots, updAll, upd, U9, setCs, putC, Nat.reduceDiv, Nat.reduceMod, Nat.reduceMul, Nat.reduceAdd, Nat.reduceEqDiff, List.set_cons_zero, List.set_cons_succ, if_true, if_false, reduceIte]); (first | refine Wk.of_fl ?_ | skip); simp only [Wk, wkK, wkCs, wkT, wk1, AV.kept, keptAll, wkO, lk, wkObj, and_true, true_and, and_self, Nat.reduceEqDiff, Nat.reduceLeDiff, if_true, if_false, reduceIte, reduceCtorEq, Option.isSome, false_implies]; try simp [Wk, wkK, wkT, wk1, AV.kept, keptAll, wkO, lk, wkObj]), by omega, fun j hj => ?_, by omega⟩
          by_cases hjk : j = k
          · subst hjk; rw [hv]; exact hs
          · exact hno j (by omega))
      | true =>
        have hr := idxP_at 0 hlt hno (by rw [hv]; exact hs)
        (sym =>
         simp [hlb,q1,hs,hr,Be,Fo,K9,Gd,Nk,I9,isE_PS,PS_s,P6,P7,Ur,Up,Us,Uo,szN,Uq,N2,Sj,Pf,Sk,con_FieldF.eq_def,Zb,Zc,Ze,Zf,Zg,Zo,Zp,Zq,Zv,Zy,Z9,Qa,Qb,Qd,Qe,Qf,Qn,Qo,Qp,Qq,Qs,Q1,Q2,Q4,Q8,Jf,Jj,Jk,Jl,Jx,Jy,Jz,Xe,Xv,X1,X2,X4,X5,X6,X9,Wa,Wd,Wf,Wg,Wh,Wr,Ws,Wv,Wx,Wy,W0,W3,Yb,Yc,Yg,Yk,Yr,Yv,Yw,Yy,Yz,Y2,Y5,Y6,Y7,Y8,Y9,Va,Vf,Vk,Vp,Vr,Vs,Uh,Uj,Uk,Ul,Um,U2,Nl]
         tactic =>
          try simp only [Uy] at *
          try simp only [nc2] at *
          try simp (maxSteps := 4000000) only [hlb,q1,hs,hr,Be,Fo,K9,Gd,Nk,I9,isE_PS,PS_s,P6,P7,Ur,Up,Us,Uo,szN,Uq,U1]
          repeat' (first | with_reducible assumption | with_reducible refine And.intro ?_ ?_ | intro _ | omega | (rw [Ux]; omega)))
    · have hr := I2 (p := nameAt t s) (l := l) 0 (fun j hj => hno j (by omega))
      (sym =>
       simp [hlb,hr,Fo,P6,P7,Ur,Up,Us,Uo,szN,Uq,N2,Pf,Zb,Zc,Ze,Zf,Zg,Qb,Qd,Qn,Qo,Qp,Qq,Qs,Q1,Q2,Q4,Q8,Jk,Jx,Jy,Jz,Xe,X2,X4,X5,X8,X9,Wa,Wd,Wf,Wg,Wr,Ws,Yb,Yc,Yg,Y5,Y6,Y7,Y8,Vr,V4,Ui,Uj,Uk,Ul,U2]))
noncomputable def fieldX (x : Rose Node) (s : List UInt8) : Sl Node × Int := cond (x.root.kind == 0) (⟨[nB 0]⟩, 0) (cond (isRowT x.root) (match x.kids.findIdx? (fun k => k.root.name == s) with
  | some j => (⟨clr (nds (x.kids.getD j (mk n0 [])))⟩, 0)
  | none => (⟨[]⟩, 9)) (⟨[]⟩, 9))
theorem kids_idx {t : List Node} {s : List UInt8} : ∀ {ks : List (Rose Node)} {q : Nat}, Ats ar t q ks → (kidPos q ks).findIdx? (nameAt t s) = ks.findIdx? (fun k => k.root.name == s)
  | [], q, _ => rfl
  | x :: xs, q, h => by
    obtain ⟨h1, h2⟩ := h.head
    rw [kidPos, List.findIdx?_cons, List.findIdx?_cons, kids_idx h2]
    have : nameAt t s (q : Int) = (x.root.name == s) := by unfold nameAt; rw [Int.toNat_natCast, h1.root n0]
    rw [this]
def con_isRowP : Con := con1 (fun (t : Sl Node) => 0 < t.l.length ∧ t.l.length ≤ 9223372036854775807) (fun t => isRowT (t.l.getD 0 n0))
noncomputable def ctx_isRowP : Ctx := ⟨tab, lkC [], 60, lkB [], [], false⟩
theorem ctx_isRowP_t : ctx_isRowP.τ = tab := rfl
theorem ctx_isRowP_d : ctx_isRowP.dp = 60 := rfl
theorem good_isRowP : Good Try.prog (110, con_isRowP) := by
  refine ⟨U0 Try.func110 (by kernel_rfl) rfl, ?_⟩
  have K : CtxOk Try.prog ctx_isRowP := U4 Ki Ka (by simp) (by simp)
  obtain ⟨c, hc⟩ : ∃ c, Try.f110.body = some c := ⟨_, rfl⟩
  refine U5 K Try.func110 hc [.tmp 2] rfl 15 rfl (fun cvs hpre => ?_)
  change con_isRowP.pre cvs at hpre
  unfold con_isRowP at hpre
  obtain ⟨⟨t⟩, rfl, h0, h1⟩ := K1 hpre
  simp only at h0 h1
  have hel := el_map0 h0
  have hf : isRowT (t.getD 0 n0) = ((t.getD 0 n0).kind == 6 || (t.getD 0 n0).kind == 7) := rfl
  simp only [Try.f110, Option.some.injEq] at hc
  subst hc
  (sym =>
   simp [hel,hf,Ur,Up,Us,Uo,szN,Uq,ctx_isRowP_t,ctx_isRowP_d,con_isRowP.eq_def,Za,Zb,Zc,Zd,Ze,Zf,Zo,Zp,Zq,Zs,Zt,Zv,Zx,Zy,Qb,Qd,Qn,Qo,Qp,Qq,Qs,Q1,Q2,Q4,Q8,Jk,Jw,J2,J3,Xe,Xt,X2,X4,X9,Wa,Wd,Wf,Wg,Wh,Wr,Ws,Wt,Wu,Ww,Wy,W4,W5,W6,W7,Yc,Yg,Yk,Yr,Yu,Yw,Yy,Yz,Y5,Y6,Y7,Y8,Y9,Va,Vh,Vq,Vs,V4,V5,Uh,Ui,Uj,Uk,Um,U2,U3,Kb]
   tactic =>
    try simp only [Uy] at *
    try simp only [nc2] at *
    try simp (maxSteps := 4000000) only [hel,hf,Ur,Up,Us,Uo,szN,Uq,U1]
    repeat' (first | with_reducible assumption | with_reducible refine And.intro ?_ ?_ | intro _ | omega | (rw [Ux]; omega))
    all_goals simp_all)
end Go.Am.Ty
set_option linter.unusedSimpArgs false
set_option linter.unusedVariables false
set_option maxHeartbeats 1000000
namespace Go.Am.Ty
open Go.Proofs Go.Rose Go.Rose.Rose
open Enc (enc dec)
theorem kidPos_in {t : List Node} : ∀ {ks : List (Rose Node)} {q : Nat}, Ats ar t q ks → ∀ x ∈ kidPos q ks, 0 ≤ x ∧ x < t.length
  | [], q, _, x, hx => by simp [kidPos] at hx
  | y :: ys, q, h, x, hx => by
    obtain ⟨h1, h2⟩ := h.head
    have := h1.lt
    rw [kidPos] at hx
    rcases List.mem_cons.1 hx with rfl | hx
    · omega
    · exact kidPos_in h2 x hx
theorem Bg {t : List Node} {s : List UInt8} : (dec (.clo 109 [.ptr 1 (enc (Sl.mk t)), .ptr 1 (.str s)]) : FieldC) = ⟨t, s⟩ := Enc.dec_enc (FieldC.mk t s)
theorem Bc {t : List Node} {s : List UInt8} : isE FieldC (.clo 109 [.ptr 1 (enc (Sl.mk t)), .ptr 1 (.str s)]) = True := eq_true (Gp (FieldC.mk t s))
noncomputable def con_FieldP : Con := con2t (fun (t : Sl Node) (_ : List UInt8) => t.l.length ≤ 1000000 ∧ ∃ x, At ar t.l 0 x) (fun t s => fieldX (treeAt ar t.l 0) s)
noncomputable def ctx_FieldP : Ctx := ⟨tab, lkC [(75, con_KidsT), (108, con_indexFuncInt), (110, con_isRowP), (51, con_PartT)], 60, lkB [], [], false⟩
theorem Lo : ctx_FieldP.τ = tab := rfl
theorem Cp : ctx_FieldP.Γ = lkC [(75, con_KidsT), (108, con_indexFuncInt), (110, con_isRowP), (51, con_PartT)] := rfl
theorem Lp : ctx_FieldP.dp = 60 := rfl
theorem Cq : ctx_FieldP.Δ = lkB [] := rfl
theorem A4 : ctx_FieldP.wr = false := rfl
set_option maxRecDepth 100000 in
theorem good_FieldP : Good Try.prog (94, con_FieldP) := by
  refine ⟨U0 Try.func94 (by kernel_rfl) rfl, ?_⟩
  have K : CtxOk Try.prog ctx_FieldP := U4 Ki Ka (by
    intro p hp
    simp only [List.mem_cons, List.not_mem_nil, or_false] at hp
    rcases hp with rfl | rfl | rfl | rfl
    · exact good_KidsT
    · exact R5
    · exact good_isRowP
    · exact good_PartT) (by simp)
  obtain ⟨c, hc⟩ : ∃ c, Try.f94.body = some c := ⟨_, rfl⟩
  refine U5 K Try.func94 hc [.tmp 4, .tmp 5] rfl 33 rfl (fun cvs hpre => ?_)
  change con_FieldP.pre cvs at hpre
  unfold con_FieldP at hpre
  obtain ⟨⟨t⟩, s, rfl, ht, x, hx⟩ := con2t_pre hpre
  simp only at ht hx
  have htr : treeAt ar t 0 = x := Ga hx
  have hl := hx.lt
  have hel := el_map0 hl
  have hro : t.getD 0 n0 = x.root := hx.root n0
  have hT : Tree t 0 := fun _ _ => ⟨x, by simpa using hx⟩
  obtain ⟨hks, hkl⟩ := hx.kids
  obtain ⟨ks, hk⟩ : ∃ ks, x.kids = ks := ⟨_, rfl⟩
  rw [hk] at hks hkl
  replace hks : Ats ar t 1 ks := hks
  have hkt : kidsT t 0 = kidPos 1 ks := by
    unfold kidsT
    rw [if_neg (by omega)]
    show kidPos 1 (treeAt ar t 0).kids = _
    rw [htr, hk]
  have hin := kidPos_in hks
  have hidx := kids_idx (s := s) hks
  have hlen := Mg 1 ks
  have hkn : ks.length ≤ t.length := by
    have h1 := ats_le hks (by omega)
    have : ks.length ≤ (ndss ks).length := by
      clear hks hkl hidx hlen hk hkt hin h1
      induction ks with
      | nil => simp
      | cons y ys ih => simp only [List.length_cons, ndss, List.length_append]; have := K8 y; omega
    omega
  have hf : fieldX x s = cond (x.root.kind == 0) ((⟨[nB 0]⟩, 0) : Sl Node × Int) (cond (isRowT x.root) ((match ks.findIdx? (fun k => k.root.name == s) with
  | some j => (⟨clr (nds (ks.getD j (mk n0 [])))⟩, 0)
  | none => (⟨[]⟩, 9)) : Sl Node × Int) ((⟨[]⟩, 9) : Sl Node × Int)) := by
    unfold fieldX
    rw [hk] <;> cases ks.findIdx? (fun k => k.root.name == s) <;> rfl
  have hP : idxP (nameAt t s) (kidPos 1 ks) = match ks.findIdx? (fun k => k.root.name == s) with
    | some i => (i : Int)
    | none => -1 := by
    unfold idxP
    rw [hidx] <;> cases ks.findIdx? (fun k => k.root.name == s) <;> rfl
  obtain ⟨L, hL⟩ : ∃ L, kidPos 1 ks = L := ⟨_, rfl⟩
  rw [hL] at hkt hin hlen hP
  clear hpre hidx
  simp only [Try.f94, Option.some.injEq] at hc
  subst hc
  refine Kl 2 (of_decide_eq_true (by kernel_rfl)) ?_
  cases h0 : (x.root.kind == 0) with
  | true =>
    rw [h0, cond_true] at hf
    (sym =>
     simp [hel,hro,h0,htr,hf,Ks,Ko,K9,Gd,Nk,K4,Kx,Gu,Gt,Gs,K2,K3,Kq,Kr,Km,Kn,Ur,Up,Us,Uo,szN,Uq,Lo,Lp,con_FieldP.eq_def,Zb,Zc,Ze,Zf,Zn,Zo,Zp,Zq,Zr,Zs,Zu,Zv,Zx,Zy,Z1,Z2,Qb,Qd,Qh,Ql,Qn,Qo,Qp,Qq,Qs,Q1,Q2,Q4,Q7,Q8,Ja,Jb,Jc,Jd,Je,Jg,Jh,Ji,Jk,Jw,J2,J3,J4,J5,J7,Xa,Xc,Xd,Xe,Xg,Xm,Xn,Xr,Xw,X2,X4,X5,X9,Wa,Wd,Wf,Wg,Wh,Wj,Wl,Wr,Ws,Wt,Wu,Ww,Wy,Wz,W0,W3,W4,W5,W6,W8,W9,Yc,Yg,Yk,Ym,Yo,Yr,Yu,Yv,Yx,Yy,Yz,Y0,Y5,Y6,Y7,Y9,Va,Vb,Vc,Vd,Ve,Vg,Vh,Vq,Vr,Vs,V3,V4,V7,V9,Ub,Uf,Uh,Uj,Uk,Um,U2,Gr,U3,Kb]
     tactic =>
      try simp only [Uy] at *
      try simp only [nc2] at *
      try simp (maxSteps := 4000000) only [hel,hro,h0,htr,hf,Ks,Ko,K9,Gd,Nk,K4,Kx,Gu,Gt,Gs,K2,K3,Kq,Kr,Km,Kn,Ur,Up,Us,Uo,szN,Uq,U1]
      repeat' (first | with_reducible assumption | with_reducible refine And.intro ?_ ?_ | intro _ | omega | (rw [Ux]; omega)))
  | false =>
    rw [h0, cond_false] at hf
    cases hfi : ks.findIdx? (fun k => k.root.name == s) with
    | none =>
      rw [hfi] at hf hP
      simp only at hP
      have hf2 : fieldX x s = (⟨[]⟩, 9) := by rw [hf]; cases isRowT x.root <;> rfl
      (sym =>
       simp [hel,hro,h0,htr,hkt,hP,hf2,Bg,Bc,P6,P7,Ks,Ko,K9,Gd,Nk,K4,Kx,Gu,Gt,Gs,K2,K3,Kq,Kr,Km,Kn,Ur,Up,Us,Uo,szN,Uq,Lo,Cp,Lp,Cq,A4,con_FieldP.eq_def,con_KidsT.eq_def,con_PartT.eq_def,con_indexFuncInt.eq_def,con_isRowP.eq_def,Zb,Zc,Zd,Ze,Zf,Zh,Zi,Zj,Zk,Zl,Zm,Zn,Zo,Zp,Zq,Zs,Zt,Zu,Zv,Zx,Zy,Z9,Qb,Qc,Qd,Qe,Qf,Qi,Ql,Qn,Qo,Qp,Qq,Qr,Qs,Q1,Q2,Q4,Q5,Q6,Q8,Ja,Jf,Jh,Ji,Jj,Jk,Jl,Jw,J2,J3,J4,J5,J6,J7,J8,J9,Xa,Xb,Xe,Xf,Xh,Xj,Xk,Xl,Xm,Xn,Xt,Xu,Xw,X1,X2,X3,X4,X5,X9,Wa,Wb,Wc,Wd,We,Wf,Wg,Wh,Wn,Wo,Wp,Wq,Wr,Ws,Wt,Wu,Wv,Ww,Wx,Wy,Wz,W0,W3,W4,W5,W6,W7,W8,W9,Yc,Yd,Yg,Yh,Yk,Ym,Yr,Yu,Yv,Yw,Yx,Yy,Yz,Y0,Y1,Y2,Y5,Y6,Y7,Y9,Va,Vb,Vc,Vd,Ve,Vf,Vg,Vh,Vk,Vm,Vq,Vr,Vs,V4,V5,V7,Ub,Uf,Uh,Ui,Uj,Uk,Ul,Um,Un,U2,Ku,Gr,U3,Kb,Nl]
       tactic =>
        try simp only [Uy] at *
        try simp only [nc2] at *
        try simp (maxSteps := 4000000) only [hel,hro,h0,htr,hkt,hP,hf2,Bg,Bc,P6,P7,Ks,Ko,K9,Gd,Nk,K4,Kx,Gu,Gt,Gs,K2,K3,Kq,Kr,Km,Kn,Ur,Up,Us,Uo,szN,Uq,U1]
        repeat' (first | with_reducible assumption | with_reducible refine And.intro ?_ ?_ | intro _ | omega | (rw [Ux]; omega))
        all_goals first
          | exact hT
          | exact hin
          | exact True.intro
          | exact (hin _ (by assumption)).1
          | exact (hin _ (by assumption)).2
          | omega
          | assumption
          | (with_reducible refine Kh ?_; kernel_rfl))
    | some j =>
      rw [hfi] at hf hP
      simp only at hP
      cases hrow : isRowT x.root with
      | false =>
        rw [hrow, cond_false] at hf
        (sym =>
         simp [hel,hro,h0,htr,hkt,hP,hf,hrow,Bg,Bc,P6,P7,Ks,Ko,K9,Gd,Nk,K4,Kx,Gu,Gt,Gs,K2,K3,Kq,Kr,Km,Kn,Ur,Up,Us,Uo,szN,Uq,Lo,Cp,Lp,Cq,con_FieldP.eq_def,con_KidsT.eq_def,con_PartT.eq_def,con_indexFuncInt.eq_def,con_isRowP.eq_def,Zb,Zc,Zd,Ze,Zf,Zn,Zo,Zp,Zq,Zs,Zt,Zu,Zv,Zx,Zy,Z9,Qb,Qc,Qd,Qe,Qf,Qi,Ql,Qn,Qo,Qp,Qq,Qs,Q1,Q2,Q4,Q8,Ja,Jf,Jh,Ji,Jj,Jk,Jl,Jw,J2,J3,J4,J5,J7,J8,Xa,Xb,Xe,Xf,Xh,Xj,Xk,Xl,Xm,Xn,Xt,Xu,Xw,X1,X2,X4,X5,X9,Wa,Wd,Wf,Wg,Wh,Wr,Ws,Wt,Wu,Wv,Ww,Wx,Wy,Wz,W4,W5,W6,W7,W8,W9,Yc,Yd,Yg,Yh,Yk,Ym,Yr,Yu,Yv,Yw,Yx,Yy,Yz,Y0,Y1,Y5,Y6,Y9,Va,Vb,Vc,Vd,Ve,Vf,Vg,Vh,Vk,Vm,Vo,Vq,Vr,Vs,V4,V5,V7,Ub,Uf,Uh,Ui,Uj,Uk,Ul,Um,U2,Ku,Gr,U3,Kb]
         tactic =>
          try simp only [Uy] at *
          try simp only [nc2] at *
          try simp (maxSteps := 4000000) only [hel,hro,h0,htr,hkt,hP,hf,hrow,Bg,Bc,P6,P7,Ks,Ko,K9,Gd,Nk,K4,Kx,Gu,Gt,Gs,K2,K3,Kq,Kr,Km,Kn,Ur,Up,Us,Uo,szN,Uq,U1]
          repeat' (first | with_reducible assumption | with_reducible refine And.intro ?_ ?_ | intro _ | omega | (rw [Ux]; omega))
          all_goals first
            | exact hT
            | exact hin
            | exact True.intro
            | exact (hin _ (by assumption)).1
            | exact (hin _ (by assumption)).2
            | omega
            | assumption
            | (with_reducible refine Kh ?_; kernel_rfl))
      | true =>
        rw [hrow, cond_true] at hf
        have hj : j < ks.length := (List.findIdx?_eq_some_iff_getElem.1 hfi).1
        have hq := Tj 1 ks j hj
        rw [hL] at hq
        have hat := F6 hks hj
        have hel2 := U8 (0 : Int) (show j < L.length by omega)
        have htj : treeAt ar t (1 + (ndss (ks.take j)).length) = ks.getD j (mk n0 []) := by rw [Ga hat]; simp [hj]
        (sym =>
         simp [hel,hro,h0,htr,hkt,hP,hf,hrow,hel2,hq,htj,Int.toNat_natCast,Bg,Bc,P6,P7,Ks,Ko,K9,Gd,Nk,K4,Kx,Gu,Gt,Gs,K2,K3,Kq,Kr,Km,Kn,Ur,Up,Us,Uo,szN,Uq,Lo,Cp,Lp,Cq,A4,con_FieldP.eq_def,con_KidsT.eq_def,con_PartT.eq_def,con_indexFuncInt.eq_def,con_isRowP.eq_def,Zb,Zc,Zd,Ze,Zf,Zh,Zi,Zj,Zk,Zl,Zm,Zn,Zo,Zp,Zq,Zs,Zt,Zu,Zv,Zx,Zy,Z9,Qb,Qc,Qd,Qe,Qf,Qi,Ql,Qn,Qo,Qp,Qq,Qr,Qs,Q1,Q2,Q4,Q5,Q6,Q8,Ja,Jf,Jh,Ji,Jj,Jk,Jl,Jw,J2,J3,J4,J5,J6,J7,J8,J9,Xa,Xb,Xe,Xf,Xh,Xj,Xk,Xl,Xm,Xn,Xt,Xu,Xw,X1,X2,X3,X4,X5,X9,Wa,Wb,Wc,Wd,We,Wf,Wg,Wh,Wn,Wo,Wp,Wq,Wr,Ws,Wt,Wu,Wv,Ww,Wx,Wy,Wz,W0,W3,W4,W5,W6,W7,W8,W9,Yc,Yd,Yg,Yh,Yk,Ym,Yr,Yu,Yv,Yw,Yx,Yy,Yz,Y0,Y1,Y2,Y5,Y6,Y7,Y9,Va,Vb,Vc,Vd,Ve,Vf,Vg,Vh,Vk,Vm,Vn,Vq,Vr,Vs,V4,V5,V7,Ub,Uf,Uh,Ui,Uj,Uk,Ul,Um,Un,U2,Ku,Gr,U3,Kb,Nl]
         tactic =>
          try simp only [Uy] at *
          try simp only [nc2] at *
          try simp (maxSteps := 4000000) only [hel,hro,h0,htr,hkt,hP,hf,hrow,hel2,hq,htj,Int.toNat_natCast,Bg,Bc,P6,P7,Ks,Ko,K9,Gd,Nk,K4,Kx,Gu,Gt,Gs,K2,K3,Kq,Kr,Km,Kn,Ur,Up,Us,Uo,szN,Uq,U1]
          repeat' (first | with_reducible assumption | with_reducible refine And.intro ?_ ?_ | intro _ | omega | (rw [Ux]; omega))
          all_goals first
            | exact hT
            | exact hin
            | exact True.intro
            | exact (hin _ (by assumption)).1
            | exact (hin _ (by assumption)).2
            | omega
            | exact ⟨_, hat⟩
            | assumption
            | (with_reducible refine Kh ?_; kernel_rfl))
end Go.Am.Ty
set_option linter.unusedSimpArgs false
set_option linter.unusedVariables false
set_option maxHeartbeats 1000000
namespace Go.Am.Ty
open Go.Proofs Go.Rose Go.Rose.Rose
open Enc (enc dec)
def normV (n : VNode) : VNode := ⟨n.kind, n.label, n.name, n.num, n.many, n.t.map norm, n.u.map norm⟩
def same1V (x y : VNode) : Bool := x.kind == y.kind && (x.label == y.label && (x.name == y.name && (x.num == y.num && (x.many == y.many && (same3 x.t y.t && same3 x.u y.u)))))
theorem L3 {x y : VNode} : same1V x y = true ↔ normV x = normV y := by
  cases x
  cases y
  unfold same1V normV same3
  simp
def Short2 (n : VNode) : Prop := n.t.length ≤ 9223372036854775807 ∧ n.u.length ≤ 9223372036854775807
def con_SameVN : Con := con2 (fun (x y : VNode) => Short2 x ∧ Short2 y) same1V
noncomputable def ctx_SameVN : Ctx := ⟨tab, lkC [(59, con_SameT)], 60, lkB [], [], false⟩
theorem ctx_SameVN_t : ctx_SameVN.τ = tab := rfl
theorem ctx_SameVN_c : ctx_SameVN.Γ = lkC [(59, con_SameT)] := rfl
theorem ctx_SameVN_d : ctx_SameVN.dp = 60 := rfl
theorem ctx_SameVN_b : ctx_SameVN.Δ = lkB [] := rfl
set_option maxRecDepth 100000 in
theorem good_SameVN : Good Try.prog (58, con_SameVN) := by
  refine ⟨U0 Try.func58 (by kernel_rfl) rfl, ?_⟩
  have K : CtxOk Try.prog ctx_SameVN := U4 Ki Ka (by
    intro p hp
    simp only [List.mem_cons, List.not_mem_nil, or_false] at hp
    rcases hp with rfl
    · exact Sc) (by simp)
  obtain ⟨c, hc⟩ : ∃ c, Try.f58.body = some c := ⟨_, rfl⟩
  refine U5 K Try.func58 hc [.tmp 4] rfl 54 rfl (fun cvs hpre => ?_)
  change con_SameVN.pre cvs at hpre
  unfold con_SameVN at hpre
  obtain ⟨x, y, rfl, ⟨h1, h2⟩, h3, h4⟩ := Kj hpre
  simp only [Try.f58, Option.some.injEq] at hc
  subst hc
  refine Kl 3 (of_decide_eq_true (by kernel_rfl)) ?_
  (sym =>
   simp [Ut,Uw,Uv,Uu,Ur,Up,Us,Uo,szN,Uq,ctx_SameVN_t,ctx_SameVN_c,ctx_SameVN_d,ctx_SameVN_b,con_SameT.eq_def,con_SameVN.eq_def,Zb,Zc,Zd,Ze,Zf,Zo,Zp,Zq,Zs,Zt,Zu,Zv,Zx,Z9,Qb,Qd,Qe,Qf,Ql,Qm,Qn,Qo,Qp,Qq,Qs,Q1,Q2,Q4,Q8,Jf,Jh,Ji,Jj,Jk,Jl,Jw,J2,J3,J4,J5,J6,J7,J8,J9,Xa,Xb,Xe,Xm,Xn,Xr,Xu,X2,X4,X9,Wa,Wd,Wf,Wg,Wh,Wr,Ws,Wt,Wu,Wv,Ww,Wx,Wy,W0,W3,W4,W5,W6,W7,W8,W9,Yc,Ye,Yg,Yi,Yo,Yw,Y5,Y6,Y7,Y8,Y9,Va,Vb,Vc,Vd,Ve,Vi,Vj,Vr,Vs,V5,Uh,Ui,Uj,Uk,Ul,tab2,U2,Gr,U3,Kd]
   tactic =>
    try simp only [Uy] at *
    try simp only [nc2] at *
    try simp (maxSteps := 4000000) only [Ut,Uw,Uv,Uu,Ur,Up,Us,Uo,szN,Uq,U1]
    unfold same1V
    repeat' (first | with_reducible assumption | with_reducible refine And.intro ?_ ?_ | intro _ | omega | (rw [Ux]; omega))
    all_goals first
      | (with_reducible refine Kh ?_; kernel_rfl)
      | (simp_all; done)
      | skip)
def sameV (a b : List VNode) : Bool := a.map normV == b.map normV
abbrev v0 : VNode := ⟨0, [], [], 0, 0, [], []⟩
def InV (a : List VNode) : Prop := a.length ≤ 9223372036854775807 ∧ ∀ n ∈ a, Short2 n
def con_equalV : Con := con3 (fun (a b : Sl VNode) (_ : Fn0 58) => InV a.l ∧ InV b.l) (fun a b _ => sameV a.l b.l)
noncomputable def ctx_equalV : Ctx := ⟨tab, lkC [(58, con_SameVN)], 60, lkB [], [], false⟩
theorem Ld : ctx_equalV.τ = tab := rfl
theorem Au : ctx_equalV.Γ = lkC [(58, con_SameVN)] := rfl
theorem Le : ctx_equalV.dp = 60 := rfl
theorem Av : ctx_equalV.Δ = lkB [] := rfl
theorem ctx_equalV_w : ctx_equalV.wr = false := rfl
set_option maxRecDepth 100000 in
theorem good_equalV : Good Try.prog (57, con_equalV) := by
  refine ⟨U0 Try.func57 (by kernel_rfl) rfl, ?_⟩
  have K : CtxOk Try.prog ctx_equalV := U4 Ki Ka (by
    intro p hp
    simp only [List.mem_cons, List.not_mem_nil, or_false] at hp
    rcases hp with rfl
    · exact good_SameVN) (by simp)
  obtain ⟨c, hc⟩ : ∃ c, Try.f57.body = some c := ⟨_, rfl⟩
  refine U5 K Try.func57 hc [.tmp 6] rfl 32 rfl (fun cvs hpre => ?_)
  change con_equalV.pre cvs at hpre
  unfold con_equalV at hpre
  obtain ⟨⟨a⟩, ⟨b⟩, f, rfl, hIa, hIb⟩ := P3 hpre
  obtain ⟨ha, hA⟩ : InV a := hIa
  obtain ⟨hb, hB⟩ : InV b := hIb
  clear hpre
  simp only [Try.f57, Option.some.injEq] at hc
  subst hc
  refine Kl 2 (of_decide_eq_true (by kernel_rfl)) ?_
  (sym =>
   simp [M6,szV,Ld,Le,con_equalV.eq_def,Zb,Zc,Ze,Zf,Zo,Z6,Qb,Qd,Qn,Qo,Qp,Qq,Qs,Q1,Q2,Q4,Q8,Jk,Jw,J2,J3,J4,J5,J7,Xa,Xb,Xe,Xm,Xn,Xv,X1,X2,X4,X5,X6,X7,X9,Wa,Wd,Wf,Wg,Wh,Wr,Ws,Wt,Wu,Ww,Wy,W4,W5,W8,W9,Yc,Yg,Yw,Yy,Yz,Y5,Y6,Y9,Va,Vb,Vc,Vd,Ve,Vh,Vr,Vs,V4,V5,Uj,Uk,Um,U2,Kc,Kd]
   tactic =>
    try simp only [Uy] at *
    try simp only [nc2] at *
    try simp (maxSteps := 4000000) only [M6,szV,U1]
    refine ⟨fun hne => ?_, fun heq => ?_⟩
    · symm
      unfold sameV
      rw [beq_eq_false_iff_ne]
      intro h
      have := congrArg List.length h
      rw [List.length_map, List.length_map] at this
      exact hne (by rw [this])
    have hlen : a.length = b.length := by omega
    refine Ke [6, 7, 8, 9, 18, 19, 20, 21, 22, 23, 24, 25, 26, 27, 28, 29, 30, 31] (fun k : Nat => [(17, .d (.int .i64 k))]) (fun k : Nat => []) (fun k : Nat => k ≤ a.length ∧ ∀ j, j < k → normV (a.getD j v0) = normV (b.getD j v0)) (fun k : Nat => a.length - k) 0 ?_ ?_ ?_
    · simp
    · ((try simp only [Uz, killAll, setSlots, updAll, upd, U9, setCs, putC, Nat.reduceDiv, Nat.reduceMod, Nat.reduceMul, Nat.reduceAdd, Nat.reduceEqDiff, List.set_cons_zero, List.set_cons_succ, if_true, if_false, reduceIte]); (first | refine Wk.of_fl ?_ | skip); simp only [Wk, wkK, wkCs, wkT, wk1, AV.kept, keptAll, wkO, lk, wkObj, and_true, true_and, and_self, Nat.reduceEqDiff, Nat.reduceLeDiff, if_true, if_false, reduceIte, reduceCtorEq, Option.isSome, false_implies]; try simp [Wk, wkK, wkT, wk1, AV.kept, keptAll, wkO, lk, wkObj])
    rintro k ⟨hk, hno⟩
    rcases Kf k a.length with ⟨hlt, hlb⟩ | ⟨hlt, hlb⟩
    · have q1 := U8 v0 hlt
      have q2 := U8 v0 (show k < b.length by omega)
      have s1 : Short2 (a.getD k v0) := hA _ (by simp [hlt])
      have s2 : Short2 (b.getD k v0) := hB _ (by simp [show k < b.length by omega])
      obtain ⟨x, hx⟩ : ∃ x, a.getD k v0 = x := ⟨_, rfl⟩
      obtain ⟨y, hy⟩ : ∃ y, b.getD k v0 = y := ⟨_, rfl⟩
      rw [hx] at q1 s1
      rw [hy] at q2 s2
      cases hs : same1V x y with
      | false =>
        have hbad : false = sameV a b := by
          symm
          unfold sameV
          rw [beq_eq_false_iff_ne]
          intro e
          have h1 : (a.map normV).getD k v0 = (b.map normV).getD k v0 := by rw [e]
          have h2 : normV x = normV y := by rw [← hx, ← hy]; simpa [hlt, show k < b.length by omega] using h1
          rw [L3.2 h2] at hs
          cases hs
        (sym =>
         simp [hlb,q1,q2,hs,M6,Ut,Uw,Uv,Uu,szV,Ur,Up,Us,Uo,szN,Uq,Ld,Au,Le,Av,con_SameVN.eq_def,Zb,Zc,Ze,Zf,Zg,Zo,Zp,Zq,Zu,Zv,Zw,Zy,Z9,Qa,Qb,Qc,Qd,Qe,Qf,Qh,Qk,Ql,Qn,Qo,Qp,Qq,Qs,Q1,Q2,Q4,Q8,Ja,Jf,Jh,Ji,Jj,Jk,Jl,Jx,Jy,Jz,J4,J5,J7,J8,Xa,Xb,Xe,Xo,Xq,Xr,Xu,X1,X2,X4,X5,X6,X9,Wa,Wd,Wf,Wg,Wh,Wj,Wr,Ws,Wt,Wu,Wv,Wx,Wy,W0,W3,W4,W5,W8,W9,Yb,Yc,Yd,Yg,Yh,Yk,Yo,Yw,Yy,Yz,Y5,Y6,Va,Vb,Vc,Vd,Ve,Vo,Vp,Vr,Vs,V5,Uh,Uj,Uk,Ul,Um,Un,U2,Ku,Kc,Kd]
         tactic =>
          try simp only [Uy] at *
          try simp only [nc2] at *
          try simp (maxSteps := 4000000) only [hlb,q1,q2,hs,M6,Ut,Uw,Uv,Uu,szV,Ur,Up,Us,Uo,szN,Uq,U1]
          repeat' (first | with_reducible assumption | with_reducible refine And.intro ?_ ?_ | intro _ | omega | (rw [Ux]; omega))
          all_goals first
            | exact hbad
            | exact s1
            | exact s2
            | exact s1.1
            | exact s1.2
            | exact s2.1
            | exact s2.2
            | (with_reducible refine Kh ?_; kernel_rfl))
      | true =>
        have hyes : ∀ j, j < k + 1 → normV (a.getD j v0) = normV (b.getD j v0) := by
          intro j hj
          by_cases hjk : j = k
          · subst hjk; rw [hx, hy]; exact L3.1 hs
          · exact hno j (by omega)
        (sym =>
         simp [hlb,q1,q2,hs,M6,Ut,Uw,Uv,Uu,szV,Ur,Up,Us,Uo,szN,Uq,Ld,Au,Le,Av,ctx_equalV_w,con_SameVN.eq_def,Zb,Zc,Ze,Zf,Zg,Zo,Zp,Zq,Zu,Zv,Zw,Zy,Z9,Qa,Qb,Qc,Qd,Qe,Qf,Qh,Qk,Ql,Qq,Qs,Q1,Q2,Q4,Q8,Ja,Jf,Jh,Ji,Jj,Jl,Jx,Jy,Jz,J4,J5,J7,J8,Xa,Xb,Xe,Xo,Xq,Xr,Xu,X1,X2,X4,X5,X6,Wa,Wd,Wf,Wg,Wh,Wj,Wr,Ws,Wt,Wu,Wv,Wx,Wy,W0,W3,W4,W5,W8,W9,Yb,Yc,Yd,Yg,Yh,Yk,Yo,Yw,Yy,Yz,Y5,Y6,Va,Vb,Vc,Vd,Ve,Vn,Vp,Vr,Vs,V4,Uh,Ui,Uj,Uk,Ul,Um,Un,U2,Ku,Kc,Kd]
         tactic =>
          try simp only [Uy] at *
          try simp only [nc2] at *
          try simp (maxSteps := 4000000) only [hlb,q1,q2,hs,M6,Ut,Uw,Uv,Uu,szV,Ur,Up,Us,Uo,szN,Uq,U1]
          repeat' (first | with_reducible assumption | with_reducible refine And.intro ?_ ?_ | intro _ | omega | (rw [Ux]; omega))
          all_goals first
            | exact s1
            | exact s2
            | exact s1.1
            | exact s1.2
            | exact s2.1
            | exact s2.2
            | (with_reducible refine Kh ?_; kernel_rfl)
            | exact ⟨k + 1, by ((try simp only [Uz, killAll, setSlots, updAll, upd, U9, setCs, putC, Nat.reduceDiv, Nat.reduceMod, Nat.reduceMul, Nat.reduceAdd, Nat.reduceEqDiff, List.set_cons_zero, List.set_cons_succ, if_true, if_false, reduceIte]); (first | refine Wk.of_fl ?_ | skip); simp only [Wk, wkK, wkCs, wkT, wk1, AV.kept, keptAll, wkO, lk, wkObj, and_true, true_and, and_self, Nat.reduceEqDiff, Nat.reduceLeDiff, if_true, if_false, reduceIte, reduceCtorEq, Option.isSome, false_implies]; try simp [Wk, wkK, wkT, wk1, AV.kept, keptAll, wkO, lk, wkObj]), by omega, hyes, by omega⟩)
    · (sym =>
       simp [hlb,szV,Ld,Le,Zb,Zc,Ze,Zf,Zg,Qb,Qd,Qn,Qo,Qp,Qq,Qs,Q1,Q2,Q4,Q8,Jk,Jx,Jy,Jz,J4,J5,J7,J8,Xa,Xb,Xe,X2,X4,X5,X8,X9,Wa,Wd,Wf,Wg,Wr,Ws,Wt,Wu,W8,W9,Yb,Yc,Yg,Y5,Y6,Vr,V5,Ui,Uj,Uk,Ul,U2]
       tactic =>
        try simp only [Uy] at *
        try simp only [nc2] at *
        try simp (maxSteps := 4000000) only [hlb,szV,U1]
        symm
        unfold sameV
        rw [beq_iff_eq]
        refine List.ext_getElem (by simp [hlen]) fun j h1 h2 => ?_
        rw [List.length_map] at h1 h2
        have := hno j (by omega)
        simpa [h1, h2] using this))
def con_SameV : Con := con2 (fun (a b : Sl VNode) => InV a.l ∧ InV b.l) (fun a b => sameV a.l b.l)
noncomputable def ctx_SameV : Ctx := ⟨tab, lkC [(57, con_equalV)], 60, lkB [], [], false⟩
theorem ctx_SameV_c : ctx_SameV.Γ = lkC [(57, con_equalV)] := rfl
theorem ctx_SameV_d : ctx_SameV.dp = 60 := rfl
theorem ctx_SameV_b : ctx_SameV.Δ = lkB [] := rfl
theorem Fj : Good Try.prog (30, con_SameV) := by
  refine ⟨U0 Try.func30 (by kernel_rfl) rfl, ?_⟩
  have K : CtxOk Try.prog ctx_SameV := U4 Ki Ka (by
    intro p hp
    simp only [List.mem_cons, List.not_mem_nil, or_false] at hp
    rcases hp with rfl
    · exact good_equalV) (by simp)
  obtain ⟨c, hc⟩ : ∃ c, Try.f30.body = some c := ⟨_, rfl⟩
  refine U5 K Try.func30 hc [.tmp 4] rfl 8 rfl (fun cvs hpre => ?_)
  change con_SameV.pre cvs at hpre
  unfold con_SameV at hpre
  obtain ⟨⟨a⟩, ⟨b⟩, rfl, ha, hb⟩ := Kj hpre
  simp only at ha hb
  simp only [Try.f30, Option.some.injEq] at hc
  subst hc
  (sym =>
   simp [D8,szV,ctx_SameV_c,ctx_SameV_d,ctx_SameV_b,con_SameV.eq_def,con_equalV.eq_def,Za,Zb,Zc,Ze,Zf,Z9,Qe,Qf,Qn,Qo,Qp,Qq,Qs,Q1,Q2,Q4,Q8,Jf,Jj,Jk,Jl,Jw,J2,J3,Xe,Xu,Xv,X2,X4,X9,Wa,Wd,Wf,Wr,Ws,Wt,Wu,Wv,Ww,Wx,Wy,W4,W5,Yw,Y5,Y6,Y7,Y8,Y9,Va,Vh,Vm,Vs,V5,Uj,Uk]
   tactic =>
    try simp only [Uy] at *
    try simp only [nc2] at *
    try simp (maxSteps := 4000000) only [D8,szV,U1]
    repeat' (first | with_reducible assumption | with_reducible refine And.intro ?_ ?_ | intro _ | omega | (rw [Ux]; omega))
    all_goals first
      | exact ha
      | exact hb
      | exact ha.1
      | exact hb.1
      | exact ha.2
      | exact hb.2
      | exact ha.2 _ (by assumption)
      | exact hb.2 _ (by assumption))
end Go.Am.Ty
set_option linter.unusedSimpArgs false
set_option linter.unusedVariables false
set_option maxHeartbeats 1000000
namespace Go.Am.Ty
open Go.Proofs Go.Rose Go.Rose.Rose
open Enc (enc dec)
def longV (n : VNode) : Bool := ltB 100 n.label.length || (ltB 200 n.name.length || (ltB 30 n.t.length || ltB 30 n.u.length))
def fewV (v : List VNode) (most : Int) : Bool := (List.range v.length).all fun k => !((k : Int) == most || longV (v.getD k v0))
def InW (v : List VNode) : Prop := v.length ≤ 9223372036854775807 ∧ ∀ n ∈ v, (n.label.length ≤ 9223372036854775807 ∧ n.name.length ≤ 9223372036854775807) ∧ Short2 n
def con_Few19 : Con := con2 (fun (v : Sl VNode) (_ : Int) => InW v.l) (fun v m => fewV v.l m)
noncomputable def ctx_Few19 : Ctx := ⟨tab, lkC [], 60, lkB [], [], false⟩
theorem Mk : ctx_Few19.τ = tab := rfl
theorem Pq : ctx_Few19.dp = 60 := rfl
theorem ctx_Few19_w : ctx_Few19.wr = false := rfl
set_option maxRecDepth 100000 in
theorem good_Few19 : Good Try.prog (26, con_Few19) := by
  refine ⟨U0 Try.func26 (by kernel_rfl) rfl, ?_⟩
  have K : CtxOk Try.prog ctx_Few19 := U4 Ki Ka (by simp) (by simp)
  obtain ⟨c, hc⟩ : ∃ c, Try.f26.body = some c := ⟨_, rfl⟩
  refine U5 K Try.func26 hc [.tmp 4] rfl 51 rfl (fun cvs hpre => ?_)
  change con_Few19.pre cvs at hpre
  unfold con_Few19 at hpre
  obtain ⟨⟨v⟩, m, rfl, hI⟩ := Kj hpre
  obtain ⟨hv, hV⟩ : InW v := hI
  clear hpre
  simp only [Try.f26, Option.some.injEq] at hc
  subst hc
  refine Kl 3 (of_decide_eq_true (by kernel_rfl)) ?_
  (sym =>
   simp [szV,con_Few19.eq_def,Zb,Zc,Ze,Zf,Qq,Qs,Q1,Q2,Q4,Jw,J2,J3,J4,J5,Xa,Xm,Xn,Xu,X2,X4,X6,X7,Wa,Wd,Wf,Wr,Ws,Wt,Wu,Ww,Wy,W4,W5,W9,Yv,Yw,Y9,Va,Vb,Vc,Vd,Ve,Vf,Vh,Vr,Vs,V4,V5,Uj]
   tactic =>
    try simp only [Uy] at *
    try simp only [nc2] at *
    try simp (maxSteps := 4000000) only [szV,U1]
    refine Ke [4, 6, 7, 8, 9, 10, 11, 12, 13, 14, 15, 16, 17, 18, 19, 20, 21, 22, 23, 24, 25, 26, 27, 28, 29, 30, 31, 32, 33, 34, 35, 36, 37, 38, 39, 40, 41, 42, 43, 44, 45, 46, 47, 48, 49, 50] (fun k : Nat => [(5, .d (.int .i64 k))]) (fun k : Nat => []) (fun k : Nat => k ≤ v.length ∧ ∀ j, j < k → ((j : Int) == m || longV (v.getD j v0)) = false) (fun k : Nat => v.length - k) 0 ?_ ?_ ?_
    · simp
    · ((try simp only [Uz, killAll, setSlots, updAll, upd, U9, setCs, putC, Nat.reduceDiv, Nat.reduceMod, Nat.reduceMul, Nat.reduceAdd, Nat.reduceEqDiff, List.set_cons_zero, List.set_cons_succ, if_true, if_false, reduceIte]); (first | refine Wk.of_fl ?_ | skip); simp only [Wk, wkK, wkCs, wkT, wk1, AV.kept, keptAll, wkO, lk, wkObj, and_true, true_and, and_self, Nat.reduceEqDiff, Nat.reduceLeDiff, if_true, if_false, reduceIte, reduceCtorEq, Option.isSome, false_implies]; try simp [Wk, wkK, wkT, wk1, AV.kept, keptAll, wkO, lk, wkObj])
    rintro k ⟨hk, hno⟩
    rcases Kf k v.length with ⟨hlt, hlb⟩ | ⟨hlt, hlb⟩
    · have q1 := U8 v0 hlt
      obtain ⟨⟨s1, s2⟩, s3, s4⟩ := hV (v.getD k v0) (by simp [hlt])
      obtain ⟨x, hx⟩ : ∃ x, v.getD k v0 = x := ⟨_, rfl⟩
      rw [hx] at q1 s1 s2 s3 s4
      have hbad : ((k : Int) == m || longV x) = true → false = fewV v m := by
        intro h
        unfold fewV
        rw [S9 k hlt (by rw [hx, h]; rfl)]
      have hyes : ((k : Int) == m || longV x) = false → ∀ j, j < k + 1 → ((j : Int) == m || longV (v.getD j v0)) = false := by
        intro h j hj
        by_cases hjk : j = k
        · subst hjk; rw [hx]; exact h
        · exact hno j (by omega)
      have hf : longV x = (ltB 100 x.label.length || (ltB 200 x.name.length || (ltB 30 x.t.length || ltB 30 x.u.length))) := rfl
      cases b1 : ((k : Int) == m) with
      | true =>
        (sym =>
         simp [hlb,q1,b1,Ut,szV,Mk,Pq,Zb,Zc,Zd,Ze,Zf,Zg,Zo,Zt,Z6,Qb,Qd,Qn,Qo,Qp,Qq,Qs,Q1,Q2,Q4,Q8,Jk,Jx,Jy,Jz,J4,J5,J6,J7,J8,J9,Xa,Xb,Xe,X1,X2,X4,X5,X6,X9,Wa,Wd,Wf,Wg,Wh,Wr,Ws,Wt,Wu,W6,W7,W8,W9,Yb,Yc,Yg,Yy,Yz,Y5,Y6,Y7,Y8,Vr,Vs,V5,Uh,Uj,Uk,Ul,Um,U2,Kc,Kd]
         tactic =>
          try simp only [Uy] at *
          try simp only [nc2] at *
          try simp (maxSteps := 4000000) only [hlb,q1,b1,Ut,szV,U1]
          repeat' (first | with_reducible assumption | with_reducible refine And.intro ?_ ?_ | intro _ | omega | (rw [Ux]; omega))
          all_goals exact hbad (by rw [b1]; rfl))
      | false =>
        cases b2 : ltB 100 x.label.length with
        | true =>
          (sym =>
           simp [hlb,q1,b1,b2,Ut,szV,Mk,Pq,Zb,Zc,Zd,Ze,Zf,Zg,Zo,Zp,Zq,Zs,Zt,Zv,Zx,Zy,Z6,Qb,Qd,Qn,Qo,Qp,Qq,Qs,Q1,Q2,Q4,Q8,Jk,Jx,Jy,Jz,J4,J5,J6,J7,J8,J9,Xa,Xb,Xe,X1,X2,X4,X5,X6,X9,Wa,Wd,Wf,Wg,Wh,Wr,Ws,Wt,Wu,W6,W7,W8,W9,Yb,Yc,Ye,Yg,Yi,Yk,Ys,Yu,Yy,Yz,Y5,Y6,Y7,Y8,Vp,Vr,Vs,V4,V5,Uh,Ui,Uj,Uk,Ul,Um,U2,Gr,Kc,Kd]
           tactic =>
            try simp only [Uy] at *
            try simp only [nc2] at *
            try simp (maxSteps := 4000000) only [hlb,q1,b1,b2,Ut,szV,U1]
            repeat' (first | with_reducible assumption | with_reducible refine And.intro ?_ ?_ | intro _ | omega | (rw [Ux]; omega))
            all_goals exact hbad (by rw [b1, hf, b2]; rfl))
        | false =>
          cases b3 : ltB 200 x.name.length with
          | true =>
            (sym =>
             simp [hlb,q1,b1,b2,b3,Ut,szV,Mk,Pq,Zb,Zc,Zd,Ze,Zf,Zg,Zo,Zp,Zq,Zs,Zt,Zv,Zx,Zy,Z6,Qb,Qd,Qn,Qo,Qp,Qq,Qs,Q1,Q2,Q4,Q8,Jk,Jx,Jy,Jz,J4,J5,J6,J7,J8,J9,Xa,Xb,Xe,X1,X2,X4,X5,X6,X9,Wa,Wd,Wf,Wg,Wh,Wr,Ws,Wt,Wu,W6,W7,W8,W9,Yb,Yc,Ye,Yg,Yi,Yk,Ys,Yu,Yy,Yz,Y5,Y6,Y7,Y8,Vp,Vr,Vs,V4,V5,Uh,Ui,Uj,Uk,Ul,Um,U2,Gr,Kc,Kd]
             tactic =>
              try simp only [Uy] at *
              try simp only [nc2] at *
              try simp (maxSteps := 4000000) only [hlb,q1,b1,b2,b3,Ut,szV,U1]
              repeat' (first | with_reducible assumption | with_reducible refine And.intro ?_ ?_ | intro _ | omega | (rw [Ux]; omega))
              all_goals exact hbad (by rw [b1, hf, b2, b3]; rfl))
          | false =>
            cases b4 : ltB 30 x.t.length with
            | true =>
              (sym =>
               simp [hlb,q1,b1,b2,b3,b4,Ut,szV,Mk,Pq,Zb,Zc,Zd,Ze,Zf,Zg,Zo,Zp,Zq,Zs,Zt,Zv,Zx,Zy,Z6,Qb,Qd,Qn,Qo,Qp,Qq,Qs,Q1,Q2,Q4,Q8,Jk,Jx,Jy,Jz,J4,J5,J6,J7,J8,J9,Xa,Xb,Xe,X1,X2,X4,X5,X6,X9,Wa,Wd,Wf,Wg,Wh,Wr,Ws,Wt,Wu,W6,W7,W8,W9,Yb,Yc,Ye,Yf,Yg,Yi,Yj,Yk,Ys,Yt,Yu,Yy,Yz,Y5,Y6,Y7,Y8,Vp,Vr,Vs,V4,V5,Uh,Ui,Uj,Uk,Ul,Um,U2,Gr,U3,Kb,Kc,Kd]
               tactic =>
                try simp only [Uy] at *
                try simp only [nc2] at *
                try simp (maxSteps := 4000000) only [hlb,q1,b1,b2,b3,b4,Ut,szV,U1]
                repeat' (first | with_reducible assumption | with_reducible refine And.intro ?_ ?_ | intro _ | omega | (rw [Ux]; omega))
                all_goals exact hbad (by rw [b1, hf, b2, b3, b4]; rfl))
            | false =>
              cases b5 : ltB 30 x.u.length with
              | true =>
                (sym =>
                 simp [hlb,q1,b1,b2,b3,b4,b5,Ut,szV,Mk,Pq,Zb,Zc,Zd,Ze,Zf,Zg,Zo,Zp,Zq,Zs,Zt,Zv,Zx,Zy,Z6,Qb,Qd,Qn,Qo,Qp,Qq,Qs,Q1,Q2,Q4,Q8,Jk,Jx,Jy,Jz,J4,J5,J6,J7,J8,J9,Xa,Xb,Xe,X1,X2,X4,X5,X6,X9,Wa,Wd,Wf,Wg,Wh,Wr,Ws,Wt,Wu,W6,W7,W8,W9,Yb,Yc,Ye,Yf,Yg,Yi,Yj,Yk,Ys,Yt,Yu,Yy,Yz,Y5,Y6,Y7,Y8,Vp,Vr,Vs,V4,V5,Uh,Ui,Uj,Uk,Ul,Um,U2,Gr,U3,Kb,Kc,Kd]
                 tactic =>
                  try simp only [Uy] at *
                  try simp only [nc2] at *
                  try simp (maxSteps := 4000000) only [hlb,q1,b1,b2,b3,b4,b5,Ut,szV,U1]
                  repeat' (first | with_reducible assumption | with_reducible refine And.intro ?_ ?_ | intro _ | omega | (rw [Ux]; omega))
                  all_goals exact hbad (by rw [b1, hf, b2, b3, b4, b5]; rfl))
              | false =>
                have hno2 := hyes (by rw [b1, hf, b2, b3, b4, b5]; rfl)
                (sym =>
                 simp [hlb,q1,b1,b2,b3,b4,b5,Ut,szV,Mk,ctx_Few19_w,Zb,Zc,Zd,Ze,Zf,Zg,Zo,Zp,Zq,Zs,Zt,Zv,Zx,Zy,Z6,Qb,Qd,Qq,Qs,Q1,Q2,Q4,Jx,Jy,Jz,J4,J5,J6,J7,J8,J9,Xa,Xb,X1,X2,X4,X5,X6,Wa,Wd,Wf,Wg,Wh,Wr,Ws,Wt,Wu,W6,W7,W8,W9,Yb,Yc,Ye,Yf,Yg,Yi,Yj,Yk,Ys,Yt,Yu,Yy,Yz,Y5,Y6,Y7,Y8,Vp,Vr,Vs,V4,V5,Uh,Ui,Uj,Uk,Ul,Um,U2,Gr,U3,Kb,Kc,Kd]
                 tactic =>
                  try simp only [Uy] at *
                  try simp only [nc2] at *
                  try simp (maxSteps := 4000000) only [hlb,q1,b1,b2,b3,b4,b5,Ut,szV,U1]
                  repeat' (first | with_reducible assumption | with_reducible refine And.intro ?_ ?_ | intro _ | omega | (rw [Ux]; omega))
                  all_goals exact ⟨k + 1, by ((try simp only [Uz, killAll, setSlots, updAll, upd, U9, setCs, putC, Nat.reduceDiv, Nat.reduceMod, Nat.reduceMul, Nat.reduceAdd, Nat.reduceEqDiff, List.set_cons_zero, List.set_cons_succ, if_true, if_false, reduceIte]); (first | refine Wk.of_fl ?_ | skip); simp only [Wk, wkK, wkCs, wkT, wk1, AV.kept, keptAll, wkO, lk, wkObj, and_true, true_and, and_self, Nat.reduceEqDiff, Nat.reduceLeDiff, if_true, if_false, reduceIte, reduceCtorEq, Option.isSome, false_implies]; try simp [Wk, wkK, wkT, wk1, AV.kept, keptAll, wkO, lk, wkObj]), by omega, hno2, by omega⟩)
    · have hr : fewV v m = true := by
        unfold fewV
        exact B5 fun j hj => by rw [hno j (by omega)]; rfl
      (sym =>
       simp [hlb,hr,szV,Mk,Pq,Zb,Zc,Ze,Zf,Zg,Zo,Z6,Qb,Qd,Qn,Qo,Qp,Qq,Qs,Q1,Q2,Q4,Q8,Jk,Jx,Jy,Jz,J4,J5,J7,J9,Xa,Xb,Xe,X2,X4,X5,X8,X9,Wa,Wd,Wf,Wg,Wh,Wr,Ws,Wt,Wu,W8,W9,Yb,Yc,Yg,Yy,Yz,Y5,Y6,Y7,Y8,Vr,Vs,V5,Ui,Uj,Uk,Ul,Um,U2,Kc,Kd]))
end Go.Am.Ty
set_option linter.unusedSimpArgs false
set_option linter.unusedVariables false
set_option maxHeartbeats 1000000
namespace Go.Am.Ty
open Go.Proofs Go.Rose Go.Rose.Rose
open Enc (enc dec)
def con_Same19 : Con := con2 (fun (a b : Sl VNode) => InV a.l ∧ InV b.l) (fun a b => sameV a.l b.l)
noncomputable def ctx_Same19 : Ctx := ⟨tab, lkC [(17, con_Same3)], 60, lkB [], [], false⟩
theorem Hq : ctx_Same19.τ = tab := rfl
theorem Nn : ctx_Same19.Γ = lkC [(17, con_Same3)] := rfl
theorem Hr : ctx_Same19.dp = 60 := rfl
theorem Np : ctx_Same19.Δ = lkB [] := rfl
theorem Nm : ctx_Same19.wr = false := rfl
set_option maxRecDepth 100000 in
theorem O2 : Good Try.prog (31, con_Same19) := by
  refine ⟨U0 Try.func31 (by kernel_rfl) rfl, ?_⟩
  have K : CtxOk Try.prog ctx_Same19 := U4 Ki Ka (by
    intro p hp
    simp only [List.mem_cons, List.not_mem_nil, or_false] at hp
    rcases hp with rfl
    · exact Cd) (by simp)
  obtain ⟨c, hc⟩ : ∃ c, Try.f31.body = some c := ⟨_, rfl⟩
  refine U5 K Try.func31 hc [.tmp 4] rfl 74 rfl (fun cvs hpre => ?_)
  change con_Same19.pre cvs at hpre
  unfold con_Same19 at hpre
  obtain ⟨⟨a⟩, ⟨b⟩, rfl, hIa, hIb⟩ := Kj hpre
  obtain ⟨ha, hA⟩ : InV a := hIa
  obtain ⟨hb, hB⟩ : InV b := hIb
  clear hpre
  simp only [Try.f31, Option.some.injEq] at hc
  subst hc
  refine Kl 4 (of_decide_eq_true (by kernel_rfl)) ?_
  (sym =>
   simp [szV,Hq,Hr,con_Same19.eq_def,Zb,Zc,Ze,Zf,Zo,Z6,Qb,Qd,Qn,Qo,Qp,Qq,Qs,Q1,Q2,Q4,Q8,Jk,Jw,J2,J3,J4,J5,J7,Xa,Xe,Xm,Xn,Xu,X1,X2,X4,X5,X6,X7,X9,Wa,Wd,Wf,Wg,Wh,Wr,Ws,Wt,Wu,Ww,Wy,W4,W5,W8,W9,Yc,Yg,Yw,Yy,Yz,Y5,Y6,Y9,Va,Vb,Vc,Vd,Ve,Vh,Vr,Vs,V4,V5,Uj,Uk,Um,U2,Kc,Kd]
   tactic =>
    try simp only [Uy] at *
    try simp only [nc2] at *
    try simp (maxSteps := 4000000) only [szV,U1]
    refine ⟨fun hne => ?_, fun heq => ?_⟩
    · symm
      unfold sameV
      rw [beq_eq_false_iff_ne]
      intro h
      have := congrArg List.length h
      rw [List.length_map, List.length_map] at this
      exact hne (by rw [this])
    have hlen : a.length = b.length := by omega
    refine Ke [4, 6, 7, 13, 14, 15, 16, 17, 18, 19, 20, 21, 22, 23, 24, 25, 26, 27, 28, 29, 30, 31, 32, 33, 34, 35, 36, 37, 38, 39, 40, 41, 42, 43, 44, 45, 46, 47, 48, 49, 50, 51, 52, 53, 54, 55, 56, 57, 58, 59, 60, 61, 62, 63, 64, 65, 66, 67, 68, 69, 70, 71, 72, 73] (fun k : Nat => [(5, .d (.int .i64 k))]) (fun k : Nat => []) (fun k : Nat => k ≤ a.length ∧ ∀ j, j < k → normV (a.getD j v0) = normV (b.getD j v0)) (fun k : Nat => a.length - k) 0 ?_ ?_ ?_
    · simp
    · ((try simp only [Uz, killAll, setSlots, updAll, upd, U9, setCs, putC, Nat.reduceDiv, Nat.reduceMod, Nat.reduceMul, Nat.reduceAdd, Nat.reduceEqDiff, List.set_cons_zero, List.set_cons_succ, if_true, if_false, reduceIte]); (first | refine Wk.of_fl ?_ | skip); simp only [Wk, wkK, wkCs, wkT, wk1, AV.kept, keptAll, wkO, lk, wkObj, and_true, true_and, and_self, Nat.reduceEqDiff, Nat.reduceLeDiff, if_true, if_false, reduceIte, reduceCtorEq, Option.isSome, false_implies]; try simp [Wk, wkK, wkT, wk1, AV.kept, keptAll, wkO, lk, wkObj])
    rintro k ⟨hk, hno⟩
    rcases Kf k a.length with ⟨hlt, hlb⟩ | ⟨hlt, hlb⟩
    · have q1 := U8 v0 hlt
      have q2 := U8 v0 (show k < b.length by omega)
      have s1 : Short2 (a.getD k v0) := hA _ (by simp [hlt])
      have s2 : Short2 (b.getD k v0) := hB _ (by simp [show k < b.length by omega])
      obtain ⟨x, hx⟩ : ∃ x, a.getD k v0 = x := ⟨_, rfl⟩
      obtain ⟨y, hy⟩ : ∃ y, b.getD k v0 = y := ⟨_, rfl⟩
      rw [hx] at q1 s1
      rw [hy] at q2 s2
      obtain ⟨s1a, s1b⟩ := s1
      obtain ⟨s2a, s2b⟩ := s2
      have hbad : same1V x y = false → false = sameV a b := by
        intro hs
        symm
        unfold sameV
        rw [beq_eq_false_iff_ne]
        intro e
        have h1 : (a.map normV).getD k v0 = (b.map normV).getD k v0 := by rw [e]
        have h2 : normV x = normV y := by rw [← hx, ← hy]; simpa [hlt, show k < b.length by omega] using h1
        rw [L3.2 h2] at hs
        cases hs
      have hyes : same1V x y = true → ∀ j, j < k + 1 → normV (a.getD j v0) = normV (b.getD j v0) := by
        intro hs j hj
        by_cases hjk : j = k
        · subst hjk; rw [hx, hy]; exact L3.1 hs
        · exact hno j (by omega)
      cases e0 : (x.kind == y.kind) with
      | false =>
        have n0 : (x.kind != y.kind) = true := by rw [bne, e0]; rfl
        (sym =>
         simp [hlb,q1,q2,n0,Ut,szV,szN,Hq,Nn,Hr,Np,Nm,con_Same3.eq_def,Zb,Zc,Zd,Ze,Zf,Zg,Zh,Zi,Zj,Zk,Zl,Zm,Zo,Zp,Zq,Zs,Zt,Zu,Zv,Zw,Zx,Zy,Z6,Qb,Qd,Qk,Ql,Qm,Qn,Qo,Qp,Qq,Qr,Qs,Q1,Q2,Q4,Q5,Q6,Q8,Jh,Ji,Jk,Jx,Jy,Jz,J4,J5,J7,J8,J9,Xa,Xb,Xe,Xo,Xq,Xr,Xu,X1,X2,X3,X4,X5,X6,X9,Wa,Wb,Wc,Wd,We,Wf,Wg,Wh,Wj,Wn,Wr,Ws,Wt,Wu,W0,W3,W4,W5,W6,W7,W8,W9,Yb,Yc,Yg,Yk,Yo,Yy,Yz,Y5,Y6,Y7,Y8,Va,Vc,Vd,Ve,Vp,Vr,Vs,V5,Uh,Ui,Uj,Uk,Ul,Um,Un,U2,Kc,Kd]
         tactic =>
          try simp only [Uy] at *
          try simp only [nc2] at *
          try simp (maxSteps := 4000000) only [hlb,q1,q2,n0,Ut,szV,szN,U1]
          repeat' (first | with_reducible assumption | with_reducible refine And.intro ?_ ?_ | intro _ | omega | (rw [Ux]; omega))
          all_goals first
            | (with_reducible refine Kh ?_; kernel_rfl)
            | omega
            | assumption
            | exact hbad (by unfold same1V; simp only [e0, Bool.true_and, Bool.false_and]))
      | true =>
        have n0 : (x.kind != y.kind) = false := by rw [bne, e0]; rfl
        cases e1 : (x.label == y.label) with
        | false =>
          (sym =>
           simp [hlb,q1,q2,n0,e1,Ut,szV,szN,Hq,Nn,Hr,Np,Nm,con_Same3.eq_def,Zb,Zc,Zd,Ze,Zf,Zg,Zh,Zi,Zj,Zk,Zl,Zm,Zo,Zp,Zq,Zs,Zt,Zu,Zv,Zw,Zx,Zy,Z6,Qb,Qd,Qk,Ql,Qm,Qn,Qo,Qp,Qq,Qr,Qs,Q1,Q2,Q4,Q5,Q6,Q8,Jh,Ji,Jk,Jx,Jy,Jz,J4,J5,J7,J8,J9,Xa,Xb,Xe,Xo,Xq,Xr,Xu,X1,X2,X3,X4,X5,X6,X9,Wa,Wb,Wc,Wd,We,Wf,Wg,Wh,Wj,Wn,Wr,Ws,Wt,Wu,W0,W3,W4,W5,W6,W7,W8,W9,Yb,Yc,Ye,Yg,Yi,Yk,Yo,Yy,Yz,Y5,Y6,Y7,Y8,Va,Vc,Vd,Ve,Vo,Vp,Vr,Vs,V5,Uh,Ui,Uj,Uk,Ul,Um,Un,U2,Gr,Kc,Kd]
           tactic =>
            try simp only [Uy] at *
            try simp only [nc2] at *
            try simp (maxSteps := 4000000) only [hlb,q1,q2,n0,e1,Ut,szV,szN,U1]
            repeat' (first | with_reducible assumption | with_reducible refine And.intro ?_ ?_ | intro _ | omega | (rw [Ux]; omega))
            all_goals first
              | (with_reducible refine Kh ?_; kernel_rfl)
              | omega
              | assumption
              | exact hbad (by unfold same1V; simp only [e0, e1, Bool.true_and, Bool.false_and]))
        | true =>
          cases e2 : (x.name == y.name) with
          | false =>
            (sym =>
             simp [hlb,q1,q2,n0,e1,e2,Ut,szV,szN,Hq,Nn,Hr,Np,Nm,con_Same3.eq_def,Zb,Zc,Zd,Ze,Zf,Zg,Zh,Zi,Zj,Zk,Zl,Zm,Zo,Zp,Zq,Zs,Zt,Zu,Zv,Zw,Zx,Zy,Z6,Qb,Qd,Qk,Ql,Qm,Qn,Qo,Qp,Qq,Qr,Qs,Q1,Q2,Q4,Q5,Q6,Q8,Jh,Ji,Jk,Jx,Jy,Jz,J4,J5,J7,J8,J9,Xa,Xb,Xe,Xo,Xq,Xr,Xu,X1,X2,X3,X4,X5,X6,X9,Wa,Wb,Wc,Wd,We,Wf,Wg,Wh,Wj,Wn,Wr,Ws,Wt,Wu,W0,W3,W4,W5,W6,W7,W8,W9,Yb,Yc,Ye,Yg,Yi,Yk,Yo,Yy,Yz,Y5,Y6,Y7,Y8,Va,Vc,Vd,Ve,Vn,Vo,Vp,Vr,Vs,V5,Uh,Ui,Uj,Uk,Ul,Um,Un,U2,Gr,Kc,Kd]
             tactic =>
              try simp only [Uy] at *
              try simp only [nc2] at *
              try simp (maxSteps := 4000000) only [hlb,q1,q2,n0,e1,e2,Ut,szV,szN,U1]
              repeat' (first | with_reducible assumption | with_reducible refine And.intro ?_ ?_ | intro _ | omega | (rw [Ux]; omega))
              all_goals first
                | (with_reducible refine Kh ?_; kernel_rfl)
                | omega
                | assumption
                | exact hbad (by unfold same1V; simp only [e0, e1, e2, Bool.true_and, Bool.false_and]))
          | true =>
            cases e3 : (x.num == y.num) with
            | false =>
              have n3 : (x.num != y.num) = true := by rw [bne, e3]; rfl
              (sym =>
               simp [hlb,q1,q2,n0,e1,e2,n3,Ut,szV,szN,Hq,Nn,Hr,Np,Nm,con_Same3.eq_def,Zb,Zc,Zd,Ze,Zf,Zg,Zh,Zi,Zj,Zk,Zl,Zm,Zo,Zp,Zq,Zs,Zt,Zu,Zv,Zw,Zx,Zy,Z6,Qb,Qd,Qk,Ql,Qm,Qn,Qo,Qp,Qq,Qr,Qs,Q1,Q2,Q4,Q5,Q6,Q8,Jh,Ji,Jk,Jx,Jy,Jz,J4,J5,J7,J8,J9,Xa,Xb,Xe,Xo,Xq,Xr,Xu,X1,X2,X3,X4,X5,X6,X9,Wa,Wb,Wc,Wd,We,Wf,Wg,Wh,Wj,Wn,Wr,Ws,Wt,Wu,W0,W3,W4,W5,W6,W7,W8,W9,Yb,Yc,Ye,Yg,Yi,Yk,Yo,Yy,Yz,Y5,Y6,Y7,Y8,Va,Vc,Vd,Ve,Vn,Vp,Vr,Vs,V5,Uh,Ui,Uj,Uk,Ul,Um,Un,tab2,U2,Gr,Kc,Kd]
               tactic =>
                try simp only [Uy] at *
                try simp only [nc2] at *
                try simp (maxSteps := 4000000) only [hlb,q1,q2,n0,e1,e2,n3,Ut,szV,szN,U1]
                repeat' (first | with_reducible assumption | with_reducible refine And.intro ?_ ?_ | intro _ | omega | (rw [Ux]; omega))
                all_goals first
                  | (with_reducible refine Kh ?_; kernel_rfl)
                  | omega
                  | assumption
                  | exact hbad (by unfold same1V; simp only [e0, e1, e2, e3, Bool.true_and, Bool.false_and]))
            | true =>
              have n3 : (x.num != y.num) = false := by rw [bne, e3]; rfl
              cases e4 : (x.many == y.many) with
              | false =>
                have n4 : (x.many != y.many) = true := by rw [bne, e4]; rfl
                (sym =>
                 simp [hlb,q1,q2,n0,e1,e2,n3,n4,Ut,szV,szN,Hq,Nn,Hr,Np,Nm,con_Same3.eq_def,Zb,Zc,Zd,Ze,Zf,Zg,Zh,Zi,Zj,Zk,Zl,Zm,Zo,Zp,Zq,Zs,Zt,Zu,Zv,Zw,Zx,Zy,Z6,Qb,Qd,Qk,Ql,Qm,Qn,Qo,Qp,Qq,Qr,Qs,Q1,Q2,Q4,Q5,Q6,Q8,Jh,Ji,Jk,Jx,Jy,Jz,J4,J5,J7,J8,J9,Xa,Xb,Xe,Xo,Xq,Xr,Xu,X1,X2,X3,X4,X5,X6,X9,Wa,Wb,Wc,Wd,We,Wf,Wg,Wh,Wj,Wn,Wr,Ws,Wt,Wu,W0,W3,W4,W5,W6,W7,W8,W9,Yb,Yc,Ye,Yg,Yi,Yk,Yo,Yy,Yz,Y5,Y6,Y7,Y8,Va,Vc,Vd,Ve,Vn,Vp,Vr,Vs,V5,Uh,Ui,Uj,Uk,Ul,Um,Un,tab2,U2,Gr,Kc,Kd]
                 tactic =>
                  try simp only [Uy] at *
                  try simp only [nc2] at *
                  try simp (maxSteps := 4000000) only [hlb,q1,q2,n0,e1,e2,n3,n4,Ut,szV,szN,U1]
                  repeat' (first | with_reducible assumption | with_reducible refine And.intro ?_ ?_ | intro _ | omega | (rw [Ux]; omega))
                  all_goals first
                    | (with_reducible refine Kh ?_; kernel_rfl)
                    | omega
                    | assumption
                    | exact hbad (by unfold same1V; simp only [e0, e1, e2, e3, e4, Bool.true_and, Bool.false_and]))
              | true =>
                have n4 : (x.many != y.many) = false := by rw [bne, e4]; rfl
                cases e5 : same3 x.t y.t with
                | false =>
                  (sym =>
                   simp [hlb,q1,q2,n0,e1,e2,n3,n4,e5,Ut,szV,szN,Hq,Nn,Hr,Np,Nm,con_Same3.eq_def,Zb,Zc,Zd,Ze,Zf,Zg,Zh,Zi,Zj,Zk,Zl,Zm,Zo,Zp,Zq,Zs,Zt,Zu,Zv,Zw,Zx,Zy,Z6,Z9,Qb,Qc,Qd,Qe,Qf,Qk,Ql,Qm,Qn,Qo,Qp,Qq,Qr,Qs,Q1,Q2,Q4,Q5,Q6,Q8,Jf,Jh,Ji,Jj,Jk,Jl,Jx,Jy,Jz,J4,J5,J6,J7,J8,J9,Xa,Xb,Xe,Xo,Xq,Xr,Xu,X1,X2,X3,X4,X5,X6,X9,Wa,Wb,Wc,Wd,We,Wf,Wg,Wh,Wj,Wn,Wr,Ws,Wt,Wu,Wv,Wx,Wy,W0,W3,W4,W5,W6,W7,W8,W9,Yb,Yc,Yd,Ye,Yg,Yh,Yi,Yk,Yo,Yw,Yy,Yz,Y5,Y6,Y7,Y8,Va,Vc,Vd,Ve,Vi,Vj,Vn,Vo,Vp,Vr,Vs,V5,Uh,Ui,Uj,Uk,Ul,Um,Un,tab2,U2,Ku,Gr,U3,Kc,Kd]
                   tactic =>
                    try simp only [Uy] at *
                    try simp only [nc2] at *
                    try simp (maxSteps := 4000000) only [hlb,q1,q2,n0,e1,e2,n3,n4,e5,Ut,szV,szN,U1]
                    repeat' (first | with_reducible assumption | with_reducible refine And.intro ?_ ?_ | intro _ | omega | (rw [Ux]; omega))
                    all_goals first
                      | (with_reducible refine Kh ?_; kernel_rfl)
                      | omega
                      | assumption
                      | exact hbad (by unfold same1V; simp only [e0, e1, e2, e3, e4, e5, Bool.true_and, Bool.false_and]))
                | true =>
                  cases e6 : same3 x.u y.u with
                  | false =>
                    (sym =>
                     simp [hlb,q1,q2,n0,e1,e2,n3,n4,e5,e6,Ut,szV,szN,Hq,Nn,Hr,Np,Nm,con_Same3.eq_def,Zb,Zc,Zd,Ze,Zf,Zg,Zh,Zi,Zj,Zk,Zl,Zm,Zo,Zp,Zq,Zs,Zt,Zu,Zv,Zw,Zx,Zy,Z6,Z9,Qb,Qc,Qd,Qe,Qf,Qk,Ql,Qm,Qn,Qo,Qp,Qq,Qr,Qs,Q1,Q2,Q4,Q5,Q6,Q8,Jf,Jh,Ji,Jj,Jk,Jl,Jx,Jy,Jz,J4,J5,J6,J7,J8,J9,Xa,Xb,Xe,Xo,Xq,Xr,Xu,X1,X2,X3,X4,X5,X6,X9,Wa,Wb,Wc,Wd,We,Wf,Wg,Wh,Wj,Wn,Wr,Ws,Wt,Wu,Wv,Wx,Wy,W0,W3,W4,W5,W6,W7,W8,W9,Yb,Yc,Yd,Ye,Yg,Yh,Yi,Yk,Yo,Yw,Yy,Yz,Y5,Y6,Y7,Y8,Va,Vc,Vd,Ve,Vi,Vj,Vn,Vo,Vp,Vr,Vs,V5,Uh,Ui,Uj,Uk,Ul,Um,Un,tab2,U2,Ku,Gr,U3,Kc,Kd]
                     tactic =>
                      try simp only [Uy] at *
                      try simp only [nc2] at *
                      try simp (maxSteps := 4000000) only [hlb,q1,q2,n0,e1,e2,n3,n4,e5,e6,Ut,szV,szN,U1]
                      repeat' (first | with_reducible assumption | with_reducible refine And.intro ?_ ?_ | intro _ | omega | (rw [Ux]; omega))
                      all_goals first
                        | (with_reducible refine Kh ?_; kernel_rfl)
                        | omega
                        | assumption
                        | exact hbad (by unfold same1V; simp only [e0, e1, e2, e3, e4, e5, e6, Bool.true_and, Bool.false_and]))
                  | true =>
                    have hno2 := hyes (by unfold same1V; simp only [e0, e1, e2, e3, e4, e5, e6, Bool.true_and])
                    (sym =>
                     simp [hlb,q1,q2,n0,e1,e2,n3,n4,e5,e6,Ut,szV,szN,Hq,Nn,Hr,Np,Nm,con_Same3.eq_def,Zb,Zc,Zd,Ze,Zf,Zg,Zh,Zi,Zj,Zk,Zl,Zm,Zo,Zp,Zq,Zs,Zt,Zu,Zv,Zw,Zx,Zy,Z6,Z9,Qb,Qc,Qd,Qe,Qf,Qk,Ql,Qm,Qq,Qr,Qs,Q1,Q2,Q4,Q5,Q6,Q8,Jf,Jh,Ji,Jj,Jl,Jx,Jy,Jz,J4,J5,J6,J7,J8,J9,Xa,Xb,Xe,Xo,Xq,Xr,Xu,X1,X2,X3,X4,X5,X6,Wa,Wb,Wc,Wd,We,Wf,Wg,Wh,Wj,Wn,Wr,Ws,Wt,Wu,Wv,Wx,Wy,W0,W3,W4,W5,W6,W7,W8,W9,Yb,Yc,Yd,Ye,Yg,Yh,Yi,Yk,Yo,Yw,Yy,Yz,Y5,Y6,Y7,Y8,Va,Vc,Vd,Ve,Vi,Vj,Vn,Vp,Vr,Vs,V4,V5,Uh,Ui,Uj,Uk,Ul,Um,Un,tab2,U2,Ku,Gr,U3,Kc,Kd]
                     tactic =>
                      try simp only [Uy] at *
                      try simp only [nc2] at *
                      try simp (maxSteps := 4000000) only [hlb,q1,q2,n0,e1,e2,n3,n4,e5,e6,Ut,szV,szN,U1]
                      repeat' (first | with_reducible assumption | with_reducible refine And.intro ?_ ?_ | intro _ | omega | (rw [Ux]; omega))
                      all_goals first
                        | (with_reducible refine Kh ?_; kernel_rfl)
                        | omega
                        | assumption
                        | exact ⟨k + 1, by ((try simp only [Uz, killAll, setSlots, updAll, upd, U9, setCs, putC, Nat.reduceDiv, Nat.reduceMod, Nat.reduceMul, Nat.reduceAdd, Nat.reduceEqDiff, List.set_cons_zero, List.set_cons_succ, if_true, if_false, reduceIte]); (first | refine Wk.of_fl ?_ | skip); simp only [Wk, wkK, wkCs, wkT, wk1, AV.kept, keptAll, wkO, lk, wkObj, and_true, true_and, and_self, Nat.reduceEqDiff, Nat.reduceLeDiff, if_true, if_false, reduceIte, reduceCtorEq, Option.isSome, false_implies]; try simp [Wk, wkK, wkT, wk1, AV.kept, keptAll, wkO, lk, wkObj]), by omega, hno2, by omega⟩)
    · (sym =>
       simp [hlb,szV,Hq,Hr,Zb,Zc,Ze,Zf,Zg,Zo,Z6,Qb,Qd,Qn,Qo,Qp,Qq,Qs,Q1,Q2,Q4,Q8,Jk,Jx,Jy,Jz,J4,J5,J7,J8,J9,Xa,Xb,Xe,X2,X4,X5,X8,X9,Wa,Wd,Wf,Wg,Wh,Wr,Ws,Wt,Wu,W8,W9,Yb,Yc,Yg,Yy,Yz,Y5,Y6,Y7,Y8,Vr,Vs,V5,Ui,Uj,Uk,Ul,Um,U2,Kc,Kd]
       tactic =>
        try simp only [Uy] at *
        try simp only [nc2] at *
        try simp (maxSteps := 4000000) only [hlb,szV,U1]
        symm
        unfold sameV
        rw [beq_iff_eq]
        refine List.ext_getElem (by simp [hlen]) fun j h1 h2 => ?_
        rw [List.length_map] at h1 h2
        have := hno j (by omega)
        simpa [h1, h2] using this))
end Go.Am.Ty
set_option linter.unusedSimpArgs false
set_option linter.unusedVariables false
set_option maxHeartbeats 1000000
namespace Go.Am.Ty
open Go.Proofs Go.Rose Go.Rose.Rose
open Enc (enc dec)
def arrowB (t : List Node) : Bool := right3 t && (plain3 t && (t.getD 0 n0).kind == 5)
def con_isArrowV : Con := con1 (fun (t : Sl Node) => t.l.length ≤ 1000000 ∧ Named t.l) (fun t => arrowB t.l)
noncomputable def ctx_isArrowV : Ctx := ⟨tab, lkC [(103, con_RightT), (104, con_PlainT)], 60, lkB [], [], false⟩
theorem ctx_isArrowV_t : ctx_isArrowV.τ = tab := rfl
theorem Sh : ctx_isArrowV.Γ = lkC [(103, con_RightT), (104, con_PlainT)] := rfl
theorem Sg : ctx_isArrowV.dp = 60 := rfl
theorem Si : ctx_isArrowV.Δ = lkB [] := rfl
theorem good_isArrowV : Good Try.prog (83, con_isArrowV) := by
  refine ⟨U0 Try.func83 (by kernel_rfl) rfl, ?_⟩
  have K : CtxOk Try.prog ctx_isArrowV := U4 Ki Ka (by
    intro p hp
    simp only [List.mem_cons, List.not_mem_nil, or_false] at hp
    rcases hp with rfl | rfl
    · exact good_RightT
    · exact good_PlainT) (by simp)
  obtain ⟨c, hc⟩ : ∃ c, Try.f83.body = some c := ⟨_, rfl⟩
  refine U5 K Try.func83 hc [.tmp 2] rfl 16 rfl (fun cvs hpre => ?_)
  change con_isArrowV.pre cvs at hpre
  unfold con_isArrowV at hpre
  obtain ⟨⟨t⟩, rfl, ht, hN⟩ := K1 hpre
  simp only at ht hN
  have hr := right_same t
  have hf : arrowB t = (right3 t && (plain3 t && (t.getD 0 n0).kind == 5)) := rfl
  simp only [Try.f83, Option.some.injEq] at hc
  subst hc
  cases h1 : right3 t with
  | false =>
    rw [h1, Bool.false_and] at hf
    (sym =>
     simp [hr,h1,hf,Ur,Up,Us,Uo,szN,Uq,Sh,Sg,Si,con_PlainT.eq_def,con_RightT.eq_def,con_isArrowV.eq_def,Za,Zb,Zc,Zd,Ze,Zf,Zt,Z9,Qe,Qf,Qn,Qo,Qp,Qq,Qs,Q1,Q2,Q4,Q8,Jf,Jj,Jk,Jl,Jw,J2,J3,Xe,Xt,X2,X4,X9,Wa,Wd,Wf,Wr,Ws,Wt,Wu,Wv,Ww,Wx,Wy,W4,W5,W6,W7,Yw,Y5,Y6,Y7,Y8,Y9,Va,Vh,Vm,Vs,V5,Ui,Uj,Uk]
     tactic =>
      try simp only [Uy] at *
      try simp only [nc2] at *
      try simp (maxSteps := 4000000) only [hr,h1,hf,Ur,Up,Us,Uo,szN,Uq,U1]
      repeat' (first | with_reducible assumption | with_reducible refine And.intro ?_ ?_ | intro _ | omega | (rw [Ux]; omega)))
  | true =>
    obtain ⟨x, hx, _⟩ := N0 h1
    have hl : 0 < t.length := by rw [hx]; exact K8 x
    have hel := el_map0 hl
    rw [h1, Bool.true_and] at hf
    cases h2 : plain3 t with
    | false =>
      rw [h2, Bool.false_and] at hf
      (sym =>
       simp [hr,h1,h2,hf,Ur,Up,Us,Uo,szN,Uq,Sh,Sg,Si,con_PlainT.eq_def,con_RightT.eq_def,con_isArrowV.eq_def,Za,Zb,Zc,Zd,Ze,Zf,Zt,Z9,Qe,Qf,Qn,Qo,Qp,Qq,Qs,Q1,Q2,Q4,Q8,Jf,Jj,Jk,Jl,Jw,J2,J3,Xe,Xt,X2,X4,X9,Wa,Wd,Wf,Wr,Ws,Wt,Wu,Wv,Ww,Wx,Wy,W4,W5,W6,W7,Yw,Y5,Y6,Y7,Y8,Y9,Va,Vh,Vm,Vs,V5,Uh,Ui,Uj,Uk,Ul]
       tactic =>
        try simp only [Uy] at *
        try simp only [nc2] at *
        try simp (maxSteps := 4000000) only [hr,h1,h2,hf,Ur,Up,Us,Uo,szN,Uq,U1]
        repeat' (first | with_reducible assumption | with_reducible refine And.intro ?_ ?_ | intro _ | omega | (rw [Ux]; omega)))
    | true =>
      rw [h2, Bool.true_and] at hf
      (sym =>
       simp [hr,h1,h2,hf,hel,Ur,Up,Us,Uo,szN,Uq,ctx_isArrowV_t,Sh,Sg,Si,con_PlainT.eq_def,con_RightT.eq_def,con_isArrowV.eq_def,Za,Zb,Zc,Zd,Ze,Zf,Zo,Zp,Zq,Zs,Zt,Zv,Zx,Zy,Z9,Qb,Qd,Qe,Qf,Qn,Qo,Qp,Qq,Qs,Q1,Q2,Q4,Q8,Jf,Jj,Jk,Jl,Jw,J2,J3,Xe,Xt,X2,X4,X9,Wa,Wd,Wf,Wg,Wh,Wr,Ws,Wt,Wu,Wv,Ww,Wx,Wy,W4,W5,W6,W7,Yc,Yg,Yk,Yr,Yu,Yw,Yy,Yz,Y5,Y6,Y7,Y8,Y9,Va,Vh,Vm,Vq,Vs,V4,V5,Uh,Uj,Uk,Ul,Um,U2,U3,Kb]
       tactic =>
        try simp only [Uy] at *
        try simp only [nc2] at *
        try simp (maxSteps := 4000000) only [hr,h1,h2,hf,hel,Ur,Up,Us,Uo,szN,Uq,U1]
        repeat' (first | with_reducible assumption | with_reducible refine And.intro ?_ ?_ | intro _ | omega | (rw [Ux]; omega)))
end Go.Am.Ty
set_option linter.unusedSimpArgs false
set_option linter.unusedVariables false
set_option maxHeartbeats 1000000
namespace Go.Am.Ty
open Go.Proofs Go.Rose Go.Rose.Rose Go.Shelf
open Go.RowKit (Below)
open Enc (enc dec)
def con_growV : Con := ⟨[true, false], [true], fun c => match c with
  | [.own s l, .d (.int k n)] => s = 7 ∧ l = [] ∧ k = .i64 ∧ 0 ≤ n ∧ n ≤ 1000000000
  | _ => False, fun c => .own 7 []⟩
def con_growN : Con := ⟨[true, false], [true], fun c => match c with
  | [.own s l, .d (.int k n)] => s = 3 ∧ l = [] ∧ k = .i64 ∧ 0 ≤ n ∧ n ≤ 1000000000
  | _ => False, fun c => .own 3 []⟩
def rhoV : Ren := ⟨fun x => if x = 4 then 113 else x, fun x => if x = 22 then 41 else if x = 25 then 52 else x, fun x => x⟩
theorem L8V : Lays8.n4 Try.prog rhoV := ⟨by kernel_rfl, ⟨"slices.Grow[leaven/api.Value,leaven/api.VNode]", by decide, by show Try.prog.funcs[113]? = _; rw [Try.func113]; kernel_rfl⟩,
  Try.underlying0, Try.isAgg0, Try.sizeOf0, Try.zeroValue0, Try.underlying3, Try.isAgg3, Try.sizeOf3, Try.zeroValue3, Try.underlying4, Try.isAgg4, Try.sizeOf4, Try.zeroValue4, Try.underlying9, Try.isAgg9, Try.sizeOf9, Try.zeroValue9,
  Try.underlying20, Try.isAgg20, Try.sizeOf20, Try.zeroValue20, Try.underlying41, Try.isAgg41, Try.sizeOf41, Try.zeroValue41⟩
def rhoN : Ren := ⟨fun x => if x = 4 then 120 else x, fun x => if x = 22 then 23 else if x = 25 then 28 else x, fun x => x⟩
theorem L8N : Lays8.n4 Try.prog rhoN := ⟨by kernel_rfl, ⟨"slices.Grow[leaven/api.Type,leaven/api.Node]", by decide, by show Try.prog.funcs[120]? = _; rw [Try.func120]; kernel_rfl⟩,
  Try.underlying0, Try.isAgg0, Try.sizeOf0, Try.zeroValue0, Try.underlying3, Try.isAgg3, Try.sizeOf3, Try.zeroValue3, Try.underlying4, Try.isAgg4, Try.sizeOf4, Try.zeroValue4, Try.underlying9, Try.isAgg9, Try.sizeOf9, Try.zeroValue9,
  Try.underlying20, Try.isAgg20, Try.sizeOf20, Try.zeroValue20, Try.underlying23, Try.isAgg23, Try.sizeOf23, Try.zeroValue23⟩
theorem cap1 {n g : Nat} (h : n ≤ g) : n + (g - n) = g := by omega
theorem cap2 {c n g : Nat} (h1 : c ≤ n) (h : n ≤ g) : c + (n - c) + (g - n) = g := by omega
theorem grow_good {e s : Nat} {ρ : Ren} (L : Lays8.n4 Try.prog ρ) (he : ρ.t 25 = e) (T : TyOk Try.prog tab e) (hs : (tab e).size = s) (hb : (tab e).bytes ≤ 140000) {f : Nat} (hf : ρ.f 4 = f) (hE : Enters Try.prog f) {con : Con}
    (hpre : ∀ c, con.pre c → ∃ n : Nat, c = [.own s [], .d (.int .i64 n)] ∧ n ≤ 1000000000) (hfn : ∀ c, con.fn c = .own s []) : Good Try.prog (f, con) := by
  refine ⟨hE, ?_⟩
  intro m w cvs vs hp hcv hnd hnew
  obtain ⟨n, rfl, hn⟩ := hpre _ hp
  simp only [CVRs, CVR, R] at hcv
  obtain ⟨v, r, rfl, hv, v2, r2, rfl, rfl, rfl⟩ := hcv
  obtain ⟨i0, z, t1, t2, t3, t4, _, _, t7, _⟩ := T.info
  have hs0 : 0 < i0.size := by rw [t2]; exact T.pos
  have hown : ownsOf [CV.own s [], CV.d (.int .i64 n)] [v, .int .i64 n] = v.ownBlock.toList := by simp [ownsOf]
  have fin : ∀ (v' : Value) (w' : World), Frame w.heap.size (· ∈ ownsOf [CV.own s [], CV.d (.int .i64 n)] [v, .int .i64 n]) w w' → OwnV ⟨w', m⟩ s [] v' → (∀ b, v'.ownBlock = some b → w.heap.size ≤ b ∨ v.ownBlock = some b) →
      ∃ u m', Ending.returned v' = .returned u ∧ Frame w.heap.size (· ∈ ownsOf [CV.own s [], CV.d (.int .i64 n)] [v, .int .i64 n]) w w' ∧ (∀ b, b < w.heap.size → b ∉ ownsOf [CV.own s [], CV.d (.int .i64 n)] [v, .int .i64 n] → m' b = m b) ∧
        (∀ b, w'.heap.size ≤ b → m' b = 0) ∧ Res ⟨w', m'⟩ w.heap.size (· ∈ ownsOf [CV.own s [], CV.d (.int .i64 n)] [v, .int .i64 n]) (con.fn [CV.own s [], CV.d (.int .i64 n)]) u := by
    intro v' w' hF hO hB
    refine ⟨v', m, rfl, hF, fun _ _ _ => rfl, fun b hb => hnew b (by have := hF.size; omega), ?_⟩
    rw [hfn]
    simp only [Res, CVRs, CVR]
    refine ⟨⟨v', [], rfl, hO, rfl⟩, fun b hbb => ?_⟩
    have hb2 : v'.ownBlock = some b := by simpa [ownsOf] using hbb
    rcases hB b hb2 with h | h
    · exact .inl h
    · exact .inr (by rw [hown, h]; simp)
  have hbig : n * i0.bytes ≤ 140737488355328 := by
    rw [t3]
    calc n * (tab e).bytes ≤ 1000000000 * 140000 := Nat.mul_le_mul hn hb
      _ ≤ 140737488355328 := by omega
  have hFa : ∀ x, Frame w.heap.size (· ∈ ownsOf [CV.own s [], CV.d (.int .i64 n)] [v, .int .i64 n]) w (w.drew.alloc x) := fun x =>
    ⟨rfl, rfl, rfl, by simp, fun b hb _ => Below.heap_alloc w.drew _ b hb⟩
  subst hf
  rcases hv with ⟨rfl, _⟩ | ⟨b, cap, cs, ty, rfl, hc1, hc2, hc3, hc4, hc5, hc6, hc7⟩
  · by_cases h0 : n = 0
    · subst h0
      refine (Any8.slices_Grow_room L none 0 0 0 w (by omega) (by omega) (by omega) (by omega)).mono ?_
      rintro e' w' ⟨rfl, rfl⟩
      exact fin _ _ (Frame.refl _ _ _) (.inl ⟨rfl, rfl⟩) (by simp [Value.ownBlock])
    · refine (Any8.slices_Grow_grow L i0 z (by rw [he]; exact t1) t4 hs0 none 0 0 n [] w (by omega) (by omega) (by rw [Nat.zero_add]; exact hbig) (by omega) (by simp) (fun _ => rfl) (by simp)).mono ?_
      rintro e' w' ⟨rfl, rfl⟩
      refine fin _ _ (hFa _) (.inr ⟨w.heap.size, _, _, _, rfl, Nat.zero_le _, ?_, heap_alloc_new w.drew _, ?_, ?_, hnew _ (Nat.le_refl _), by rw [← hs]; exact T.pos⟩) (by simp [Value.ownBlock])
      · exact grownCap_le_maxLen w _ 0 _ (by unfold maxLen; omega)
      · have := grownCap_ge w (0 + n) 0 (ρ.t 25)
        simp only [Array.size_append, N5, List.size_toArray, List.length_nil, Nat.zero_add, Nat.sub_zero] at this ⊢
        rw [t7, hs, ← Nat.add_mul]
        rw [cap1 this]
      · simp [RE]
  · by_cases h0 : n ≤ cap
    · refine (Any8.slices_Grow_room L _ 0 cap n w (Nat.zero_le _) (by unfold maxLen at hc2; omega) (by omega) (by omega)).mono ?_
      rintro e' w' ⟨rfl, rfl⟩
      exact fin _ _ (Frame.refl _ _ _) (.inr ⟨b, cap, cs, ty, rfl, hc1, hc2, hc3, hc4, hc5, hc6, hc7⟩) (fun _ h => .inr h)
    · refine (Any8.slices_Grow_grow L i0 z (by rw [he]; exact t1) t4 hs0 (some ⟨b, 0, none⟩) 0 cap n cs.toList w (Nat.zero_le _) (by rw [Nat.zero_add]; exact Nat.lt_of_not_le h0) (by rw [Nat.zero_add]; exact hbig) (by rw [Nat.zero_add]; exact Nat.le_trans hn (by decide)) (by simpa [t2, hs] using hc4) (by simp) ?_).mono ?_
      · intro a ha j u hu
        obtain rfl := Option.some.inj ha
        rw [Addr.add_lit, Nat.zero_add, Ml hc3]
        simpa using hu
      rintro e' w' ⟨rfl, rfl⟩
      refine fin _ _ (hFa _) (.inr ⟨w.heap.size, _, _, _, rfl, Nat.zero_le _, ?_, heap_alloc_new w.drew _, ?_, ?_, hnew _ (Nat.le_refl _), hc7⟩) (by simp [Value.ownBlock])
      · exact grownCap_le_maxLen w _ _ _ (by unfold maxLen; omega)
      · have := grownCap_ge w (0 + n) cap (ρ.t 25)
        simp only [Array.size_append, N5, Nat.zero_add] at this ⊢
        rw [t7, hs, hc4, ← Nat.add_mul, ← Nat.add_mul, cap2 (Nat.le_of_not_le h0) this]
      · simp [RE]
theorem good_growV : Good Try.prog (113, con_growV) := by
  refine grow_good (s := 7) L8V rfl (Ki 52 rfl) rfl (by decide) rfl (U0 Try.func113 (by kernel_rfl) rfl) (fun c h => ?_) (fun _ => rfl)
  unfold con_growV at h
  simp only at h
  split at h
  · next s l k n =>
    obtain ⟨rfl, rfl, rfl, h1, h2⟩ := h
    exact ⟨n.toNat, by rw [Ma h1], by omega⟩
  · exact h.elim
theorem good_growN : Good Try.prog (120, con_growN) := by
  refine grow_good (s := 3) L8N rfl (Ki 28 rfl) rfl (by decide) rfl (U0 Try.func120 (by kernel_rfl) rfl) (fun c h => ?_) (fun _ => rfl)
  unfold con_growN at h
  simp only at h
  split at h
  · next s l k n =>
    obtain ⟨rfl, rfl, rfl, h1, h2⟩ := h
    exact ⟨n.toNat, by rw [Ma h1], by omega⟩
  · exact h.elim
def flat {α : Type} (l : List (Sl α)) : List α := l.flatMap (·.l)
theorem Ae {α : Type} : flat ([] : List (Sl α)) = [] := rfl
theorem D9 {α : Type} {l : List (Sl α)} {k : Nat} (h : k < l.length) : flat (l.take (k + 1)) = flat (l.take k) ++ (l.getD k ⟨[]⟩).l := by
  unfold flat
  rw [List.take_succ_eq_append_getElem h, List.flatMap_append]
  simp [h]
theorem Pw {α : Type} : ∀ (l : List (Sl α)) (k : Nat), (flat (l.take k)).length ≤ (flat l).length
  | [], k => by simp [flat]
  | x :: l, 0 => by simp [flat]
  | x :: l, k + 1 => by
    have := Pw l k
    unfold flat at *
    simp only [List.take_succ_cons, List.flatMap_cons, List.length_append]
    omega
def con_concatV : Con := con1w (fun (l : Sl (Sl VNode)) => l.l.length ≤ 1000000000 ∧ (flat l.l).length ≤ 1000000000) (fun l => flat l.l)
noncomputable def ctx_concatV : Ctx := ⟨tab, lkC [(113, con_growV)], 60, lkB [], [], false⟩
theorem M4 : ctx_concatV.τ = tab := rfl
theorem ctx_concatV_c : ctx_concatV.Γ = lkC [(113, con_growV)] := rfl
theorem ctx_concatV_d : ctx_concatV.dp = 60 := rfl
theorem ctx_concatV_b : ctx_concatV.Δ = lkB [] := rfl
theorem Ex : ctx_concatV.wr = false := rfl
set_option maxRecDepth 100000 in
set_option maxRecDepth 100000 in
theorem good_concatV : Good Try.prog (97, con_concatV) := by
  refine ⟨U0 Try.func97 (by kernel_rfl) rfl, ?_⟩
  have K : CtxOk Try.prog ctx_concatV := U4 Ki Ka (by
    intro p hp
    simp only [List.mem_cons, List.not_mem_nil, or_false] at hp
    rcases hp with rfl
    · exact good_growV) (by simp)
  obtain ⟨c, hc⟩ : ∃ c, Try.f97.body = some c := ⟨_, rfl⟩
  refine U5 K Try.func97 hc [.tmp 2] rfl 36 rfl (fun cvs hpre => ?_)
  change con_concatV.pre cvs at hpre
  unfold con_concatV at hpre
  obtain ⟨⟨l⟩, rfl, hl, hf⟩ := Ts hpre
  simp only at hl hf
  clear hpre
  simp only [Try.f97, Option.some.injEq] at hc
  subst hc
  refine Kl 2 (of_decide_eq_true (by kernel_rfl)) ?_
  (sym =>
   simp [con1w.eq_def,szV,M4,con_concatV.eq_def,Zb,Zc,Ze,Zf,Zn,Zo,Z6,Qq,Qs,Q1,Q2,Q4,Jw,J2,J3,J4,J5,J7,Xa,Xm,Xn,X2,X4,X6,X7,Wa,Wd,Wf,Wg,Wh,Wr,Ws,Wt,Wu,Ww,Wy,W4,W5,W8,W9,Yy,Yz,Y4,Y5,Y6,Y9,Va,Vb,Vc,Vd,Ve,Vh,Vr,Vs,V4,V7,Uj,Um,Kc,Kd,He]
   tactic =>
    try simp only [Uy] at *
    try simp only [nc2] at *
    try simp (maxSteps := 4000000) only [con1w.eq_def,szV,U1]
    refine Ke [5, 12, 13, 14, 15, 16, 17, 18, 19, 20, 21, 22] (fun k : Nat => [(3, .d (.int .i64 ((flat (l.take k)).length : Nat))), (11, .d (.int .i64 k))]) (fun k : Nat => []) (fun k : Nat => k ≤ l.length) (fun k : Nat => l.length - k) 0 ?_ ?_ ?_
    · simp
    · ((try simp only [Uz, killAll, setSlots, updAll, upd, U9, setCs, putC, Nat.reduceDiv, Nat.reduceMod, Nat.reduceMul, Nat.reduceAdd, Nat.reduceEqDiff, List.set_cons_zero, List.set_cons_succ, if_true, if_false, reduceIte]); (first | refine Wk.of_fl ?_ | skip); simp only [Wk, wkK, wkCs, wkT, wk1, AV.kept, keptAll, wkO, lk, wkObj, and_true, true_and, and_self, Nat.reduceEqDiff, Nat.reduceLeDiff, if_true, if_false, reduceIte, reduceCtorEq, Option.isSome, false_implies]; try simp [Wk, wkK, wkT, wk1, AV.kept, keptAll, wkO, lk, wkObj, Ae])
    rintro k hk
    rcases Kf k l.length with ⟨hlt, hlb⟩ | ⟨hlt, hlb⟩
    · have q1 := U8 (⟨[]⟩ : Sl VNode) hlt
      have h1 := D9 hlt
      have h2 := Pw l (k + 1)
      obtain ⟨⟨x⟩, hx⟩ : ∃ x, l.getD k ⟨[]⟩ = x := ⟨_, rfl⟩
      rw [hx] at q1 h1
      have h3 : (flat (l.take (k + 1))).length = (flat (l.take k)).length + x.length := by rw [h1, List.length_append]
      have hnn : ltB ((flat (l.take k)).length + x.length : Int) 0 = false := by rw [Gn]; omega
      (sym =>
       simp [hlb,q1,hnn,con1w.eq_def,szV,M4,Ex,Zb,Zc,Ze,Zf,Zg,Zo,Zp,Zq,Zv,Zy,Z6,Qb,Qd,Qq,Qs,Q1,Q2,Q4,Jx,Jy,Jz,J4,J5,J7,J8,Xa,Xb,X1,X2,X4,X5,X6,Wa,Wd,Wf,Wg,Wh,Wr,Ws,Wt,Wu,W8,W9,Yb,Yc,Yg,Yk,Yy,Yz,Y1,Y4,Y5,Y6,Vp,Vr,Vs,V4,Uh,Ui,Uj,Uk,Ul,Um,U2,Kc,Kd,He]
       tactic =>
        try simp only [Uy] at *
        try simp only [nc2] at *
        try simp (maxSteps := 4000000) only [hlb,q1,hnn,con1w.eq_def,szV,U1]
        repeat' (first | with_reducible assumption | with_reducible refine And.intro ?_ ?_ | intro _ | omega | (rw [Ux]; omega))
        all_goals first
          | exact ⟨k + 1, by rw [h3]; ((try simp only [Uz, killAll, setSlots, updAll, upd, U9, setCs, putC, Nat.reduceDiv, Nat.reduceMod, Nat.reduceMul, Nat.reduceAdd, Nat.reduceEqDiff, List.set_cons_zero, List.set_cons_succ, if_true, if_false, reduceIte]); (first | refine Wk.of_fl ?_ | skip); simp only [Wk, wkK, wkCs, wkT, wk1, AV.kept, keptAll, wkO, lk, wkObj, and_true, true_and, and_self, Nat.reduceEqDiff, Nat.reduceLeDiff, if_true, if_false, reduceIte, reduceCtorEq, Option.isSome, false_implies]; try simp [Wk, wkK, wkT, wk1, AV.kept, keptAll, wkO, lk, wkObj]), by omega, by omega⟩
          | omega)
    · have hkl : k = l.length := by omega
      subst hkl
      rw [List.take_length]
      (sym =>
       simp [hlb,con_growV.eq_def,con1w.eq_def,szV,M4,ctx_concatV_c,ctx_concatV_d,ctx_concatV_b,con_growV.eq_def,Zb,Zc,Ze,Zf,Zg,Zn,Zo,Z6,Z9,Qb,Qd,Qe,Qf,Qq,Qs,Q1,Q2,Q4,Q8,Jf,Jh,Ji,Jj,Jl,Jx,Jy,Jz,J4,J5,J7,J8,Xa,Xb,Xe,X2,X4,X5,X6,X7,X8,Wa,Wd,Wf,Wg,Wh,Wr,Ws,Wt,Wu,Wv,Wx,Wy,W5,W8,W9,Yb,Yc,Yg,Yy,Yz,Y4,Y5,Y6,Vr,Vs,V4,V7,Ui,Uj,Uk,Ul,Um,U2,Kc,Kd,He]
       tactic =>
        try simp only [Uy] at *
        try simp only [nc2] at *
        try simp (maxSteps := 4000000) only [hlb,con_growV.eq_def,con1w.eq_def,szV,U1]
        repeat' (first | with_reducible assumption | with_reducible refine And.intro ?_ ?_ | intro _ | omega | (rw [Ux]; omega))
        refine Ke [8, 28, 29, 30, 31, 32, 33, 34] (fun k : Nat => [(6, .sl 24 ((flat (l.take k)).map (enc : VNode → D)).length), (27, .d (.int .i64 k))]) (fun k : Nat => [(24, .row 7 ((flat (l.take k)).map enc) 0)]) (fun k : Nat => k ≤ l.length) (fun k : Nat => l.length - k) 0 ?_ ?_ ?_
        · simp
        · ((try simp only [Uz, killAll, setSlots, updAll, upd, U9, setCs, putC, Nat.reduceDiv, Nat.reduceMod, Nat.reduceMul, Nat.reduceAdd, Nat.reduceEqDiff, List.set_cons_zero, List.set_cons_succ, if_true, if_false, reduceIte]); (first | refine Wk.of_fl ?_ | skip); simp only [Wk, wkK, wkCs, wkT, wk1, AV.kept, keptAll, wkO, lk, wkObj, and_true, true_and, and_self, Nat.reduceEqDiff, Nat.reduceLeDiff, if_true, if_false, reduceIte, reduceCtorEq, Option.isSome, false_implies]; try simp [Wk, wkK, wkT, wk1, AV.kept, keptAll, wkO, lk, wkObj, Ae])
        rintro k hk
        rcases Kf k l.length with ⟨hlt, hlb⟩ | ⟨hlt, hlb⟩
        · have q1 := U8 (⟨[]⟩ : Sl VNode) hlt
          have h1 := D9 hlt
          have h2 := Pw l (k + 1)
          obtain ⟨⟨x⟩, hx⟩ : ∃ x, l.getD k ⟨[]⟩ = x := ⟨_, rfl⟩
          rw [hx] at q1 h1
          have h3 : (flat (l.take (k + 1))).length = (flat (l.take k)).length + x.length := by rw [h1, List.length_append]
          (sym =>
           simp [hlb,q1,con1w.eq_def,szV,M4,Ex,Zb,Zc,Ze,Zf,Zg,Zo,Zp,Zq,Zv,Zy,Z4,Z5,Qb,Qd,Qq,Qs,Q1,Q2,Q4,Jh,Ji,Jx,Jy,Jz,J4,J5,J6,J7,J8,J9,Xa,Xb,X1,X2,X4,X5,X6,Wa,Wd,Wf,Wg,Wh,Wi,Wr,Ws,Wt,Wu,W8,W9,Yb,Yc,Yg,Yk,Yy,Yz,Y1,Y4,Y5,Y6,Y7,Y8,Vp,Vr,Vs,V4,Uh,Uj,Uk,Ul,Um,U2,Kc,Kd,He]
           tactic =>
            try simp only [Uy] at *
            try simp only [nc2] at *
            try simp (maxSteps := 4000000) only [hlb,q1,con1w.eq_def,szV,U1]
            repeat' (first | with_reducible assumption | with_reducible refine And.intro ?_ ?_ | intro _ | omega | (rw [Ux]; omega))
            all_goals first
              | omega
              | skip
            refine ⟨k + 1, ?_, by omega, by omega⟩
            ((try simp only [Uz, killAll, setSlots, updAll, upd, U9, setCs, putC, Nat.reduceDiv, Nat.reduceMod, Nat.reduceMul, Nat.reduceAdd, Nat.reduceEqDiff, List.set_cons_zero, List.set_cons_succ, if_true, if_false, reduceIte]); (first | refine Wk.of_fl ?_ | skip); simp only [Wk, wkK, wkCs, wkT, wk1, AV.kept, keptAll, wkO, lk, wkObj, and_true, true_and, and_self, Nat.reduceEqDiff, Nat.reduceLeDiff, if_true, if_false, reduceIte, reduceCtorEq, Option.isSome, false_implies]; try simp [Wk, wkK, wkT, wk1, AV.kept, keptAll, wkO, lk, wkObj, h1, List.map_append, List.length_append]))
        · have hkl : k = l.length := by omega
          subst hkl
          rw [List.take_length]
          (sym =>
           simp [hlb,con1w.eq_def,szV,M4,Zb,Zc,Ze,Zf,Zg,Qb,Qd,Qn,Qo,Qp,Qq,Qs,Q1,Q2,Q4,Q8,Jh,Ji,Jk,Jx,Jy,Jz,J4,J5,J6,J7,J8,J9,Xa,Xb,X2,X4,X5,X8,X9,Wa,Wd,Wf,Wg,Wr,Ws,Wt,Wu,W8,W9,Yb,Yc,Yg,Y5,Y6,Y7,Y8,Vr,Ui,Uj,Uk,Um,U2])))
end Go.Am.Ty
set_option linter.unusedSimpArgs false
set_option linter.unusedVariables false
set_option maxHeartbeats 1000000
namespace Go.Am.Ty
open Go.Proofs Go.Rose Go.Rose.Rose
open Enc (enc dec)
instance : Inhabited VNode := ⟨v0⟩
section
variable {α : Type} {ar : α → Nat}
theorem eatN_le : ∀ {l : List α} {o k : Nat}, eatN ar l o = some k → o ≤ k ∧ k ≤ l.length
  | l, 0, k, h => by cases l <;> (simp only [eatN, Option.some.injEq] at h; omega)
  | [], o + 1, k, h => by simp [eatN] at h
  | n :: l, o + 1, k, h => by
    rw [eatN, Option.map_eq_some_iff] at h
    obtain ⟨k', h1, rfl⟩ := h
    have := eatN_le h1
    simp only [List.length_cons]; omega
theorem eatN_step {l : List α} {k o r : Nat} (d : α) (h : eatN ar (l.drop k) o = some r) (ho : 0 < o) : k < l.length ∧ ∃ r', r = r' + 1 ∧ eatN ar (l.drop (k + 1)) (o - 1 + ar (l.getD k d)) = some r' := by
  obtain ⟨o, rfl⟩ : ∃ p, o = p + 1 := ⟨o - 1, by omega⟩
  rcases Nat.lt_or_ge k l.length with hk | hk
  · refine ⟨hk, ?_⟩
    rw [List.drop_eq_getElem_cons hk, eatN, Option.map_eq_some_iff] at h
    obtain ⟨k', h1, rfl⟩ := h
    refine ⟨k', rfl, ?_⟩
    rw [← h1]
    simp [hk]
  · rw [List.drop_eq_nil_of_le hk] at h
    simp [eatN] at h
theorem eatN_zero {l : List α} {r : Nat} (h : eatN ar l 0 = some r) : r = 0 := by
  cases l <;> (simp only [eatN, Option.some.injEq] at h; exact h.symm)
end
noncomputable def con_endV : Con := con2 (fun (v : Sl VNode) (i : Int) => v.l.length ≤ 1000000000 ∧ 0 ≤ i ∧ ∃ x, At arV v.l i.toNat x) (fun v i => i + ((nds (treeAt arV v.l i.toNat)).length : Int))
noncomputable def ctx_endV : Ctx := ⟨tab, lkC [(54, con_manyV)], 60, lkB [], [], false⟩
theorem ctx_endV_t : ctx_endV.τ = tab := rfl
theorem ctx_endV_c : ctx_endV.Γ = lkC [(54, con_manyV)] := rfl
theorem ctx_endV_d : ctx_endV.dp = 60 := rfl
theorem ctx_endV_b : ctx_endV.Δ = lkB [] := rfl
theorem ctx_endV_w : ctx_endV.wr = false := rfl
set_option maxRecDepth 100000 in
theorem good_endV : Good Try.prog (95, con_endV) := by
  refine ⟨U0 Try.func95 (by kernel_rfl) rfl, ?_⟩
  have K : CtxOk Try.prog ctx_endV := U4 Ki Ka (by
    intro p hp
    simp only [List.mem_cons, List.not_mem_nil, or_false] at hp
    rcases hp with rfl
    · exact good_manyV) (by simp)
  obtain ⟨c, hc⟩ : ∃ c, Try.f95.body = some c := ⟨_, rfl⟩
  refine U5 K Try.func95 hc [.tmp 4] rfl 25 rfl (fun cvs hpre => ?_)
  change con_endV.pre cvs at hpre
  unfold con_endV at hpre
  obtain ⟨⟨v⟩, i, rfl, hv, hi, x, hx⟩ := Kj hpre
  simp only at hv hx
  obtain ⟨i, rfl⟩ : ∃ n : Nat, i = n := ⟨i.toNat, by omega⟩
  simp only [Int.toNat_natCast] at hx
  have hn := Ic hx
  have htr : treeAt arV v i = x := Ga hx
  clear hpre
  simp only [Try.f95, Option.some.injEq] at hc
  subst hc
  (sym =>
   simp [htr,szV,Int.toNat_natCast,con_endV.eq_def,Za,Zb,Zc,Ze,Zf,Qq,Qs,Q1,Q2,Q4,Jw,J2,J3,Xu,X2,X4,X6,X7,Wa,Wd,Wf,Wr,Ws,Wt,Wu,Ww,Wy,W4,W5,Yv,Y7,Y8,Y9,Va,Vf,Vh,Vs,V4,Uj]
   tactic =>
    try simp only [Uy] at *
    try simp only [nc2] at *
    try simp (maxSteps := 4000000) only [htr,szV,Int.toNat_natCast,U1]
    refine Ke [6, 7, 8, 9, 10, 11, 12, 13, 14, 15, 16, 17, 18, 19, 20, 21, 22, 23] (fun p : Nat × Nat => [(1, .d (.int .i64 p.1)), (5, .d (.int .i64 p.2))]) (fun p : Nat × Nat => []) (fun p : Nat × Nat => ∃ r, eatN arV (v.drop p.1) p.2 = some r ∧ p.1 + r = i + (nds x).length) (fun p : Nat × Nat => v.length - p.1) (i, 1) ?_ ?_ ?_
    · exact ⟨_, hn, rfl⟩
    · ((try simp only [Uz, killAll, setSlots, updAll, upd, U9, setCs, putC, Nat.reduceDiv, Nat.reduceMod, Nat.reduceMul, Nat.reduceAdd, Nat.reduceEqDiff, List.set_cons_zero, List.set_cons_succ, if_true, if_false, reduceIte]); (first | refine Wk.of_fl ?_ | skip); simp only [Wk, wkK, wkCs, wkT, wk1, AV.kept, keptAll, wkO, lk, wkObj, and_true, true_and, and_self, Nat.reduceEqDiff, Nat.reduceLeDiff, if_true, if_false, reduceIte, reduceCtorEq, Option.isSome, false_implies]; try simp [Wk, wkK, wkT, wk1, AV.kept, keptAll, wkO, lk, wkObj])
    rintro ⟨k, o⟩ ⟨r, hr, hkr⟩
    simp only at hr hkr
    rcases Mf 0 o with ⟨h0, h0b⟩ | ⟨h0, h0b⟩
    · obtain ⟨hlt, r', rfl, hr'⟩ := eatN_step v0 hr (by omega)
      have hlb : ltB (k : Int) (v.length : Int) = true := by rw [G4]; omega
      have hel := U8 v0 hlt
      have hle := eatN_le hr'
      rw [List.length_drop] at hle
      obtain ⟨y, hy⟩ : ∃ y, v.getD k v0 = y := ⟨_, rfl⟩
      rw [hy] at hel hle hr'
      have hs : (o : Int) + ((arV y : Int) - 1) = ((o - 1 + arV y : Nat) : Int) := by omega
      (sym =>
       simp [h0b,hlb,hel,hs,Ut,Uw,Uv,Uu,szV,ctx_endV_t,ctx_endV_c,ctx_endV_d,ctx_endV_b,ctx_endV_w,con_manyV.eq_def,Zb,Zc,Zd,Ze,Zf,Zg,Zo,Zp,Zq,Zt,Zv,Zy,Z6,Z9,Qb,Qd,Qe,Qf,Qq,Qs,Q1,Q2,Q4,Q8,Jf,Jj,Jl,Jx,Jy,Jz,Xe,Xo,Xt,X1,X2,X4,X5,X6,Wa,Wd,Wf,Wg,Wh,Wr,Ws,Wt,Wu,Wv,Wx,Wy,W6,W7,Yb,Yc,Yg,Yk,Yv,Yy,Yz,Y5,Y6,Y7,Y8,Vp,Vr,Vs,V4,V5,Uh,Uj,Uk,Ul,Um,U2,Kc,Kd]
       tactic =>
        try simp only [Uy] at *
        try simp only [nc2] at *
        try simp (maxSteps := 4000000) only [h0b,hlb,hel,hs,Ut,Uw,Uv,Uu,szV,U1]
        repeat' (first | with_reducible assumption | with_reducible refine And.intro ?_ ?_ | intro _ | omega | (rw [Ux]; omega))
        all_goals first
          | omega
          | (with_reducible refine Kh ?_; kernel_rfl)
          | exact ⟨(k + 1, o - 1 + arV y), by ((try simp only [Uz, killAll, setSlots, updAll, upd, U9, setCs, putC, Nat.reduceDiv, Nat.reduceMod, Nat.reduceMul, Nat.reduceAdd, Nat.reduceEqDiff, List.set_cons_zero, List.set_cons_succ, if_true, if_false, reduceIte]); (first | refine Wk.of_fl ?_ | skip); simp only [Wk, wkK, wkCs, wkT, wk1, AV.kept, keptAll, wkO, lk, wkObj, and_true, true_and, and_self, Nat.reduceEqDiff, Nat.reduceLeDiff, if_true, if_false, reduceIte, reduceCtorEq, Option.isSome, false_implies]; try simp [Wk, wkK, wkT, wk1, AV.kept, keptAll, wkO, lk, wkObj]), ⟨r', hr', by simp only; omega⟩, by simp only; omega⟩)
    · have ho : o = 0 := by omega
      have hr0 : r = 0 := by rw [ho] at hr; exact eatN_zero hr
      have hk : (k : Int) = (i : Int) + ((nds x).length : Int) := by omega
      (sym =>
       simp [h0b,hk,szV,ctx_endV_t,ctx_endV_d,Zb,Zc,Zd,Ze,Zf,Zg,Zt,Qb,Qd,Qn,Qo,Qp,Qq,Qs,Q1,Q2,Q4,Q8,Jk,Jx,Jy,Jz,Xe,X2,X4,X5,X8,X9,Wa,Wd,Wf,Wg,Wr,Ws,Wt,Wu,W6,W7,Yb,Yc,Yg,Y5,Y6,Y7,Y8,Vr,V4,V5,Ui,Uj,Uk,U2]))
def endW : List VNode → Int → Nat → Nat
  | [], _, k => k
  | n :: r, o, k => cond (wrp .i64 (wrp .i64 (o - 1) + (arV n : Int)) == 0) (k + 1) (endW r (wrp .i64 (wrp .i64 (o - 1) + (arV n : Int))) (k + 1))
theorem wrp_in {n : Int} (h : -9223372036854775808 ≤ n ∧ n ≤ 9223372036854775807) : wrp .i64 n = n := by
  unfold wrp
  apply Tz
  rw [Ux]
  exact h
theorem endW_le : ∀ (l : List VNode) (o : Int) (k : Nat), k ≤ endW l o k ∧ endW l o k ≤ k + l.length ∧ (l ≠ [] → k < endW l o k)
  | [], o, k => by simp [endW]
  | n :: r, o, k => by
    have := endW_le r (wrp .i64 (wrp .i64 (o - 1) + (arV n : Int))) (k + 1)
    rw [endW]
    cases wrp .i64 (wrp .i64 (o - 1) + (arV n : Int)) == 0 with
    | true => simp only [cond_true, List.length_cons]; omega
    | false => simp only [cond_false, List.length_cons]; omega
def con_End19 : Con := con2 (fun (v : Sl VNode) (i : Int) => v.l.length ≤ 1000000000 ∧ 0 ≤ i ∧ i ≤ v.l.length) (fun v i => (endW (v.l.drop i.toNat) 1 i.toNat : Int))
noncomputable def ctx_End19 : Ctx := ⟨tab, lkC [(88, con_many19)], 60, lkB [], [], true⟩
theorem Dq : ctx_End19.τ = tab := rfl
theorem ctx_End19_c : ctx_End19.Γ = lkC [(88, con_many19)] := rfl
theorem Dr : ctx_End19.dp = 60 := rfl
theorem ctx_End19_b : ctx_End19.Δ = lkB [] := rfl
theorem ctx_End19_w : ctx_End19.wr = true := rfl
set_option maxRecDepth 100000 in
theorem good_End19 : Good Try.prog (87, con_End19) := by
  refine ⟨U0 Try.func87 (by kernel_rfl) rfl, ?_⟩
  have K : CtxOk Try.prog ctx_End19 := U4 Ki Ka (by
    intro p hp
    simp only [List.mem_cons, List.not_mem_nil, or_false] at hp
    rcases hp with rfl
    · exact Da) (by simp)
  obtain ⟨c, hc⟩ : ∃ c, Try.f87.body = some c := ⟨_, rfl⟩
  refine U5 K Try.func87 hc [.tmp 4] rfl 28 rfl (fun cvs hpre => ?_)
  change con_End19.pre cvs at hpre
  unfold con_End19 at hpre
  obtain ⟨⟨v⟩, i, rfl, hv, hi, hi2⟩ := Kj hpre
  simp only at hv hi2
  obtain ⟨i, rfl⟩ : ∃ n : Nat, i = n := ⟨i.toNat, by omega⟩
  obtain ⟨E, hE⟩ : ∃ E, endW (v.drop i) 1 i = E := ⟨_, rfl⟩
  clear hpre
  simp only [Try.f87, Option.some.injEq] at hc
  subst hc
  (sym =>
   simp [szV,hE,Int.toNat_natCast,con_End19.eq_def,Za,Zb,Zc,Ze,Zf,Qq,Qs,Q1,Q2,Q4,Jw,J2,J3,Xu,X2,X4,X6,X7,Wa,Wd,Wf,Wr,Ws,Wt,Wu,Ww,Wy,W4,W5,Yv,Y5,Y6,Y7,Y8,Y9,Va,Vf,Vh,Vs,V4,Uj]
   tactic =>
    try simp only [Uy] at *
    try simp only [nc2] at *
    try simp (maxSteps := 4000000) only [szV,hE,Int.toNat_natCast,U1]
    refine Ke [4, 8, 9, 10, 11, 12, 13, 14, 15, 16, 17, 18, 19, 20, 21, 22, 23, 24, 25] (fun p : Nat × Int => [(5, .d (.int .i64 p.2)), (6, .d (.int .i64 p.1))]) (fun p : Nat × Int => []) (fun p : Nat × Int => p.1 ≤ v.length ∧ endW (v.drop p.1) p.2 p.1 = E) (fun p : Nat × Int => v.length - p.1) (i, 1) ?_ ?_ ?_
    · exact ⟨by simp only; omega, hE⟩
    · ((try simp only [Uz, killAll, setSlots, updAll, upd, U9, setCs, putC, Nat.reduceDiv, Nat.reduceMod, Nat.reduceMul, Nat.reduceAdd, Nat.reduceEqDiff, List.set_cons_zero, List.set_cons_succ, if_true, if_false, reduceIte]); (first | refine Wk.of_fl ?_ | skip); simp only [Wk, wkK, wkCs, wkT, wk1, AV.kept, keptAll, wkO, lk, wkObj, and_true, true_and, and_self, Nat.reduceEqDiff, Nat.reduceLeDiff, if_true, if_false, reduceIte, reduceCtorEq, Option.isSome, false_implies]; try simp [Wk, wkK, wkT, wk1, AV.kept, keptAll, wkO, lk, wkObj])
    rintro ⟨k, o⟩ ⟨hk, hr⟩
    simp only at hk hr
    rcases Kf k v.length with ⟨hlt, hlb⟩ | ⟨hlt, hlb⟩
    · have hel := U8 v0 hlt
      rw [List.drop_eq_getElem_cons hlt, endW] at hr
      have hg : v[k] = v.getD k v0 := by simp [hlt]
      rw [hg] at hr
      obtain ⟨y, hy⟩ : ∃ y, v.getD k v0 = y := ⟨_, rfl⟩
      rw [hy] at hel hr
      obtain ⟨q, hq⟩ : ∃ q, wrp .i64 (wrp .i64 (o - 1) + (arV y : Int)) = q := ⟨_, rfl⟩
      have hk1 : wrp .i64 ((k : Int) + 1) = ((k + 1 : Nat) : Int) := by rw [wrp_in (by omega)]; omega
      rw [hq] at hr
      cases hqz : (q == 0) with
      | true =>
        rw [hqz, cond_true] at hr
        rw [hr] at hk1
        (sym =>
         simp [hlb,hel,hq,hqz,hk1,Ut,Uw,Uv,Uu,szV,Dq,ctx_End19_c,Dr,ctx_End19_b,ctx_End19_w,con_many19.eq_def,Zb,Zc,Ze,Zf,Zg,Zo,Zp,Zq,Zv,Zy,Z6,Z9,Qb,Qd,Qe,Qf,Qn,Qo,Qp,Qq,Qs,Q1,Q2,Q4,Q8,Jf,Jj,Jk,Jl,Jx,Jy,Jz,Xe,Xo,Xt,X1,X2,X4,X5,X6,X9,Wa,Wd,Wf,Wg,Wh,Wr,Ws,Wt,Wu,Wv,Wx,Wy,Yb,Yc,Yg,Yk,Yv,Yy,Yz,Y5,Y6,Y7,Y8,Vp,Vr,Vs,V4,Uh,Uj,Uk,Ul,Um,U2,Kc,Kd]
         tactic =>
          try simp only [Uy] at *
          try simp only [nc2] at *
          try simp (maxSteps := 4000000) only [hlb,hel,hq,hqz,hk1,Ut,Uw,Uv,Uu,szV,U1]
          repeat' (first | with_reducible assumption | with_reducible refine And.intro ?_ ?_ | intro _ | omega | (rw [Ux]; omega)))
      | false =>
        rw [hqz, cond_false] at hr
        (sym =>
         simp [hlb,hel,hq,hqz,hk1,Ut,Uw,Uv,Uu,szV,Dq,ctx_End19_c,Dr,ctx_End19_b,ctx_End19_w,con_many19.eq_def,Zb,Zc,Ze,Zf,Zg,Zo,Zp,Zq,Zv,Zy,Z6,Z9,Qb,Qd,Qe,Qf,Qq,Qs,Q1,Q2,Q4,Q8,Jf,Jj,Jl,Jx,Jy,Jz,Xe,Xo,Xt,X1,X2,X4,X5,X6,Wa,Wd,Wf,Wg,Wh,Wr,Ws,Wt,Wu,Wv,Wx,Wy,Yb,Yc,Yg,Yk,Yv,Yy,Yz,Y5,Y6,Y7,Y8,Vp,Vr,Vs,V4,Uh,Ui,Uj,Uk,Ul,Um,U2,Kc,Kd]
         tactic =>
          try simp only [Uy] at *
          try simp only [nc2] at *
          try simp (maxSteps := 4000000) only [hlb,hel,hq,hqz,hk1,Ut,Uw,Uv,Uu,szV,U1]
          repeat' (first | with_reducible assumption | with_reducible refine And.intro ?_ ?_ | intro _ | omega | (rw [Ux]; omega))
          all_goals first
            | omega
            | exact ⟨(k + 1, q), by ((try simp only [Uz, killAll, setSlots, updAll, upd, U9, setCs, putC, Nat.reduceDiv, Nat.reduceMod, Nat.reduceMul, Nat.reduceAdd, Nat.reduceEqDiff, List.set_cons_zero, List.set_cons_succ, if_true, if_false, reduceIte]); (first | refine Wk.of_fl ?_ | skip); simp only [Wk, wkK, wkCs, wkT, wk1, AV.kept, keptAll, wkO, lk, wkObj, and_true, true_and, and_self, Nat.reduceEqDiff, Nat.reduceLeDiff, if_true, if_false, reduceIte, reduceCtorEq, Option.isSome, false_implies]; try simp [Wk, wkK, wkT, wk1, AV.kept, keptAll, wkO, lk, wkObj]), by simp only; omega, hr, by simp only; omega⟩)
    · have hkl : k = v.length := by omega
      rw [hkl, List.drop_length, endW] at hr
      subst hr
      (sym =>
       simp [hlb,szV,Dq,Dr,Zb,Zc,Ze,Zf,Zg,Zo,Z6,Qb,Qd,Qn,Qo,Qp,Qq,Qs,Q1,Q2,Q4,Q8,Jk,Jx,Jy,Jz,Xe,X2,X4,X5,X8,X9,Wa,Wd,Wf,Wg,Wh,Wr,Ws,Wt,Wu,Yb,Yc,Yg,Yy,Yz,Y5,Y6,Y7,Y8,Vr,Vs,Ui,Uj,Uk,Ul,Um,U2,Kc,Kd]))
end Go.Am.Ty
set_option linter.unusedSimpArgs false
set_option linter.unusedVariables false
set_option maxHeartbeats 1000000
namespace Go.Am.Ty
open Go.Proofs Go.Rose Go.Rose.Rose
open Enc (enc dec)
def sls (ks : List (Rose VNode)) : List (Sl VNode) := ks.map fun k => Sl.mk (nds k)
theorem Mn {ks : List (Rose VNode)} : (sls ks).length = ks.length := by unfold sls; simp
theorem sls_snoc {ks : List (Rose VNode)} {j : Nat} (h : j < ks.length) : (sls (ks.take j)).map (enc : Sl VNode → D) ++ [.list 7 ((nds ks[j]).map enc)] = (sls (ks.take (j + 1))).map enc := by
  rw [List.take_succ_eq_append_getElem h]
  unfold sls
  rw [List.map_append, List.map_append]
  rfl
theorem D4 : ∀ (ks : List (Rose VNode)), ks.length ≤ (ndss ks).length
  | [] => by simp
  | y :: ys => by
    have := D4 ys
    have := K8 y
    simp only [List.length_cons, ndss, List.length_append]
    omega
def OneV (v : List VNode) (x : Rose VNode) : Prop := v = nds x ∧ wf arV x
theorem OneV.at {v : List VNode} {x : Rose VNode} (h : OneV v x) : At arV v 0 x := by rw [h.1]; exact Ni h.2
theorem OneV.tree {v : List VNode} {x : Rose VNode} (h : OneV v x) : treeAt arV v 0 = x := Ga h.at
theorem cutAt {v : List VNode} {i : Nat} {x : Rose VNode} (h : At arV v i x) : List.drop i (List.take (i + (nds x).length) (v.map (enc : VNode → D))) = (nds x).map enc := by
  obtain ⟨_, r, h2⟩ := h
  rw [List.drop_take, Nat.add_sub_cancel_left, ← List.map_drop, h2, List.map_append, List.take_append_of_le_length (by simp), List.take_of_length_le (by simp)]
noncomputable def con_kidsV : Con := con1w (fun (v : Sl VNode) => v.l.length ≤ 1000000000 ∧ ∃ x, OneV v.l x) (fun v => sls (treeAt arV v.l 0).kids)
theorem ndss_take_len {ks : List (Rose VNode)} {j : Nat} (h : j < ks.length) : (ndss (ks.take (j + 1))).length = (ndss (ks.take j)).length + (nds ks[j]).length := by
  rw [List.take_succ_eq_append_getElem h, Me, List.length_append]
  simp [ndss]
theorem atsV {v : List VNode} {i : Nat} {ks : List (Rose VNode)} (h : Ats arV v i ks) {j : Nat} (hj : j < ks.length) : At arV v (i + (ndss (ks.take j)).length) ks[j] := by
  induction ks generalizing i j with
  | nil => simp at hj
  | cons x xs ih =>
    obtain ⟨h1, h2⟩ := h.head
    cases j with
    | zero => simpa [ndss] using h1
    | succ j =>
      have := ih h2 (j := j) (by simpa using hj)
      simp only [List.take_succ_cons, ndss, List.length_append, List.getElem_cons_succ]
      rw [← Nat.add_assoc]
      exact this
noncomputable def ctx_kidsV : Ctx := ⟨tab, lkC [(95, con_endV)], 60, lkB [], [], false⟩
theorem Df : ctx_kidsV.τ = tab := rfl
theorem ctx_kidsV_c : ctx_kidsV.Γ = lkC [(95, con_endV)] := rfl
theorem ctx_kidsV_d : ctx_kidsV.dp = 60 := rfl
theorem ctx_kidsV_b : ctx_kidsV.Δ = lkB [] := rfl
set_option maxRecDepth 100000 in
theorem Cb : Good Try.prog (65, con_kidsV) := by
  refine ⟨U0 Try.func65 (by kernel_rfl) rfl, ?_⟩
  have K : CtxOk Try.prog ctx_kidsV := U4 Ki Ka (by
    intro p hp
    simp only [List.mem_cons, List.not_mem_nil, or_false] at hp
    rcases hp with rfl
    · exact good_endV) (by simp)
  obtain ⟨c, hc⟩ : ∃ c, Try.f65.body = some c := ⟨_, rfl⟩
  refine U5 K Try.func65 hc [.tmp 2] rfl 23 rfl (fun cvs hpre => ?_)
  change con_kidsV.pre cvs at hpre
  unfold con_kidsV at hpre
  obtain ⟨⟨v⟩, rfl, hv, x, hx⟩ := Ts hpre
  simp only at hv hx
  have htr := hx.tree
  obtain ⟨hks, hkl⟩ := hx.at.kids
  have hlen : v.length = 1 + (ndss x.kids).length := by rw [hx.1, Gx, List.length_cons]; omega
  obtain ⟨ks, hk⟩ : ∃ ks, x.kids = ks := ⟨_, rfl⟩
  rw [hk] at hks hkl hlen
  have hkn := D4 ks
  have hmono : ∀ j, (ndss (ks.take j)).length ≤ (ndss ks).length := by
    intro j
    conv => rhs; rw [← List.take_append_drop j ks]
    rw [Me, List.length_append]
    omega
  clear hpre
  simp only [Try.f65, Option.some.injEq] at hc
  subst hc
  (sym =>
   simp [htr,hk,con1w.eq_def,szV,Df,con_kidsV.eq_def,Za,Zb,Zc,Ze,Zf,Zn,Zo,Qq,Qs,Q1,Q2,Q4,Jw,J2,J3,X2,X4,X6,X7,Wa,Wd,Wf,Wg,Wh,Wr,Ws,Wt,Wu,Ww,Wy,W4,W5,Y4,Y7,Y8,Y9,Va,Vh,Vs,V4,V7,Uj,Kc,He]
   tactic =>
    try simp only [Uy] at *
    try simp only [nc2] at *
    try simp (maxSteps := 4000000) only [htr,hk,con1w.eq_def,szV,U1]
    refine Ke [5, 6, 7, 8, 9, 10, 11, 12, 13, 14, 15, 16, 17, 18, 19, 20, 21] (fun j : Nat => [(3, .sl 3 ((sls (ks.take j)).map (enc : Sl VNode → D)).length), (4, .d (.int .i64 (1 + (ndss (ks.take j)).length : Nat)))]) (fun j : Nat => [(3, .row 1 ((sls (ks.take j)).map enc) 0)]) (fun j : Nat => j ≤ ks.length) (fun j : Nat => ks.length - j) 0 ?_ ?_ ?_
    · omega
    · ((try simp only [Uz, killAll, setSlots, updAll, upd, U9, setCs, putC, Nat.reduceDiv, Nat.reduceMod, Nat.reduceMul, Nat.reduceAdd, Nat.reduceEqDiff, List.set_cons_zero, List.set_cons_succ, if_true, if_false, reduceIte]); (first | refine Wk.of_fl ?_ | skip); simp only [Wk, wkK, wkCs, wkT, wk1, AV.kept, keptAll, wkO, lk, wkObj, and_true, true_and, and_self, Nat.reduceEqDiff, Nat.reduceLeDiff, if_true, if_false, reduceIte, reduceCtorEq, Option.isSome, false_implies]; try simp [Wk, wkK, wkT, wk1, AV.kept, keptAll, wkO, lk, wkObj, sls, ndss])
    rintro j hj
    have hp1 : (sls (ks.take j)).length = j := by rw [Mn, List.length_take]; omega
    rcases Nat.lt_or_ge j ks.length with hlt | hge
    · have ha := atsV hks hlt
      have hal := ha.le
      have hpos := K8 ks[j]
      have hlb : ltB ((1 + (ndss (ks.take j)).length : Nat) : Int) (v.length : Int) = true := by rw [G4]; omega
      have htj : treeAt arV v (1 + (ndss (ks.take j)).length) = ks[j] := Ga ha
      have hcut := cutAt ha
      have hs1 := sls_snoc hlt
      have hsum : ((1 + (ndss (ks.take j)).length : Nat) : Int) + ((nds ks[j]).length : Int) = ((1 + (ndss (ks.take j)).length + (nds ks[j]).length : Nat) : Int) := by omega
      (sym =>
       simp [hlb,hp1,htj,hsum,hcut,hs1,Int.toNat_natCast,szV,Df,ctx_kidsV_c,ctx_kidsV_d,ctx_kidsV_b,con_endV.eq_def,Zb,Zc,Ze,Zf,Zg,Zo,Zr,Z0,Z1,Z4,Z5,Z6,Z9,Qb,Qd,Qe,Qf,Qj,Qq,Qs,Q1,Q2,Q4,Q8,Jb,Jc,Jd,Je,Jf,Jg,Jh,Ji,Jj,Jl,Jx,Jy,Jz,Xc,Xd,Xe,Xu,X1,X2,X4,X5,X6,Wa,Wd,Wf,Wg,Wh,Wi,Wl,Wr,Ws,Wu,Wv,Wx,Wy,Wz,W0,W3,W4,W5,Yb,Yc,Yg,Yk,Yn,Yv,Yy,Yz,Y5,Y6,Y7,Y8,Vf,Vh,Vk,Vm,Vr,Vs,V3,V9,Uh,Uj,Uk,Ul,Um,U2,Kc,Kd,He]
       tactic =>
        try simp only [Uy] at *
        try simp only [nc2] at *
        try simp (maxSteps := 4000000) only [hlb,hp1,htj,hsum,hcut,hs1,Int.toNat_natCast,szV,U1]
        repeat' (first | with_reducible assumption | with_reducible refine And.intro ?_ ?_ | intro _ | omega | (rw [Ux]; omega))
        all_goals first
          | omega
          | exact ⟨_, ha⟩
          | skip
        have hq1 : (sls (ks.take (j + 1))).length = j + 1 := by rw [Mn, List.length_take]; omega
        have hq2 := ndss_take_len hlt
        refine ⟨j + 1, ?_, by omega, by omega⟩
        ((try simp only [Uz, killAll, setSlots, updAll, upd, U9, setCs, putC, Nat.reduceDiv, Nat.reduceMod, Nat.reduceMul, Nat.reduceAdd, Nat.reduceEqDiff, List.set_cons_zero, List.set_cons_succ, if_true, if_false, reduceIte]); (first | refine Wk.of_fl ?_ | skip); simp only [Wk, wkK, wkCs, wkT, wk1, AV.kept, keptAll, wkO, lk, wkObj, and_true, true_and, and_self, Nat.reduceEqDiff, Nat.reduceLeDiff, if_true, if_false, reduceIte, reduceCtorEq, Option.isSome, false_implies]; try simp [Wk, wkK, wkT, wk1, AV.kept, keptAll, wkO, lk, wkObj, hq1, hq2, Nat.add_assoc]))
    · have hjk : j = ks.length := by omega
      subst hjk
      rw [List.take_length] at *
      have hlb : ltB ((1 + (ndss ks).length : Nat) : Int) (v.length : Int) = false := by rw [Gn]; omega
      (sym =>
       simp [hlb,htr,hk,con1w.eq_def,szV,Df,Zb,Zc,Ze,Zf,Zg,Zo,Z6,Qb,Qd,Qn,Qo,Qp,Qq,Qs,Q1,Q2,Q4,Q8,Jh,Ji,Jk,Jx,Jy,Jz,X2,X4,X5,X8,X9,Wa,Wd,Wf,Wg,Wh,Wr,Ws,Yb,Yc,Yg,Yy,Yz,Y5,Y6,Y7,Y8,Vr,Vs,Ui,Uj,Uk,Um,U2,Kc,Kd]))
end Go.Am.Ty
set_option linter.unusedSimpArgs false
set_option linter.unusedVariables false
set_option maxHeartbeats 1000000
namespace Go.Am.Ty
open Go.Proofs Go.Rose Go.Rose.Rose
open Enc (enc dec)
theorem R1 : ∀ n, Good Try.prog (33, con_Agree7 n)
  | 0 => Bd (U0 Try.func33 (by kernel_rfl) rfl) con_Agree7_zero
  | n + 1 => step_Agree7 n (R1 n)
theorem R0 : ∀ n, Good Try.prog (36, con_Below7 n)
  | 0 => Bd (U0 Try.func36 (by kernel_rfl) rfl) con_Below7_zero
  | n + 1 => step_Below7 n (R0 n)
noncomputable def con_Agree7A : Con := con_Agree7 10001
theorem B9 : Good Try.prog (33, con_Agree7A) := R1 _
noncomputable def con_Below7A : Con := con_Below7 10001
theorem Cg : Good Try.prog (36, con_Below7A) := R0 _
theorem Kg : con_Agree7A = con2 (fun (a b : Sl Node) => Tree7 a.l ∧ Tree7 b.l ∧ plain3 a.l = true ∧ plain3 b.l = true ∧ a.l.length < 10001) (fun a b => agX false (treeAt ar a.l 0) (treeAt ar b.l 0)) := rfl
theorem Kk : con_Below7A = con2 (fun (a b : Sl Node) => Tree7 a.l ∧ Tree7 b.l ∧ plain3 a.l = true ∧ plain3 b.l = true ∧ a.l.length < 10001) (fun a b => agX true (treeAt ar a.l 0) (treeAt ar b.l 0)) := rfl
def GoodN (n : VNode) : Prop := (n.t.length ≤ 1000000 ∧ Named n.t) ∧ (n.u.length ≤ 1000000 ∧ Named n.u) ∧ n.name.length ≤ 9223372036854775807 ∧ n.label.length ≤ 9223372036854775807
noncomputable def wrapB (n : VNode) : Bool := arrowB n.t && (arrowB n.u && (agX false (treeAt ar n.t 0) (treeAt ar n.u 0) && !same3 n.t n.u))
theorem right3_pos {t : List Node} (h : right3 t = true) : 0 < t.length := by
  unfold right3 headBad at h
  rcases Nat.eq_zero_or_pos t.length with h0 | h0
  · rw [h0] at h; simp at h
  · exact h0
theorem tree7_of {t : List Node} (h : right3 t = true) : Tree7 t := by
  obtain ⟨x, rfl, hx⟩ := N0 h
  have h2 : (nds x).length ≤ 10000 := by
    unfold right3 headBad at h
    simp only [Bool.and_eq_true, Bool.not_eq_true', Bool.or_eq_false_iff] at h
    have := h.1
    simp [ltB] at this
    omega
  exact ⟨h2, hx.numb, x, rfl, hx.wf⟩
theorem Ns {t : List Node} : arrowB t = true ↔ right3 t = true ∧ plain3 t = true ∧ ((t.getD 0 n0).kind == 5) = true := by
  unfold arrowB
  rw [Bool.and_eq_true, Bool.and_eq_true]
noncomputable def con_wrap19 : Con := con1 (fun (n : VNode) => GoodN n) wrapB
noncomputable def ctx_wrap19 : Ctx := ⟨tab, lkC [(20, con_Right3), (21, con_Plain3), (33, con_Agree7A), (17, con_Same3)], 60, lkB [], [], false⟩
theorem G5 : ctx_wrap19.τ = tab := rfl
theorem Hm : ctx_wrap19.Γ = lkC [(20, con_Right3), (21, con_Plain3), (33, con_Agree7A), (17, con_Same3)] := rfl
theorem G6 : ctx_wrap19.dp = 60 := rfl
theorem Hn : ctx_wrap19.Δ = lkB [] := rfl
theorem Ar : ctx_wrap19.wr = false := rfl
set_option maxRecDepth 100000 in
theorem good_wrap19 : Good Try.prog (106, con_wrap19) := by
  refine ⟨U0 Try.func106 (by kernel_rfl) rfl, ?_⟩
  have K : CtxOk Try.prog ctx_wrap19 := U4 Ki Ka (by
    intro p hp
    simp only [List.mem_cons, List.not_mem_nil, or_false] at hp
    rcases hp with rfl | rfl | rfl | rfl
    · exact O3
    · exact O4
    · exact B9
    · exact Cd) (by simp)
  obtain ⟨c, hc⟩ : ∃ c, Try.f106.body = some c := ⟨_, rfl⟩
  refine U5 K Try.func106 hc [.tmp 2] rfl 44 rfl (fun cvs hpre => ?_)
  change con_wrap19.pre cvs at hpre
  unfold con_wrap19 at hpre
  obtain ⟨n, rfl, ⟨t1, t2⟩, ⟨u1, u2⟩, -⟩ := K1 hpre
  have hbadT : arrowB n.t = false → false = wrapB n := by intro h; unfold wrapB; rw [h]; rfl
  have hbadU : arrowB n.u = false → false = wrapB n := by intro h; unfold wrapB; rw [h, Bool.false_and, Bool.and_false]
  clear hpre
  simp only [Try.f106, Option.some.injEq] at hc
  subst hc
  refine Kl 2 (of_decide_eq_true (by kernel_rfl)) ?_
  (sym =>
   simp [Ut,Uw,Uv,Uu,szV,szL,Ur,Up,Us,Uo,szN,Uq,G5,G6,con_wrap19.eq_def,Zb,Zc,Ze,Zf,Zo,Zp,Zq,Zr,Zs,Zu,Zv,Zx,Z1,Z6,Ql,Qm,Qq,Qs,Q1,Q2,Q4,Jb,Jc,Jd,Je,Jg,Jh,Ji,Jw,J2,J3,J4,J5,J7,Xa,Xc,Xd,Xe,Xm,Xn,Xr,Xt,X2,X4,X6,X7,Wa,Wd,Wf,Wg,Wh,Wl,Wr,Ws,Wt,Wu,Ww,Wy,Wz,W0,W3,W4,W5,W6,W7,W8,W9,Yn,Yo,Yw,Y5,Y6,Y7,Y8,Y9,Va,Vb,Vc,Vd,Ve,Vr,Vv,V3,V4,V5,V9,Uj,Uk,U3,Kd,K7]
   tactic =>
    try simp only [Uy] at *
    try simp only [nc2] at *
    try simp (maxSteps := 4000000) only [Ut,Uw,Uv,Uu,szV,szL,Ur,Up,Us,Uo,szN,Uq,U1]
    refine Ke [2, 4, 12, 13, 14, 15, 16, 17, 18, 19, 20, 21, 22, 23, 24, 25, 26, 27, 28, 29, 30] (fun k : Nat => [(11, .d (.int .i64 k))]) (fun k : Nat => []) (fun k : Nat => k ≤ 2 ∧ (0 < k → arrowB n.t = true) ∧ (1 < k → arrowB n.u = true)) (fun k : Nat => 2 - k) 0 ?_ ?_ ?_
    · simp
    · ((try simp only [Uz, killAll, setSlots, updAll, upd, U9, setCs, putC, Nat.reduceDiv, Nat.reduceMod, Nat.reduceMul, Nat.reduceAdd, Nat.reduceEqDiff, List.set_cons_zero, List.set_cons_succ, if_true, if_false, reduceIte]); (first | refine Wk.of_fl ?_ | skip); simp only [Wk, wkK, wkCs, wkT, wk1, AV.kept, keptAll, wkO, lk, wkObj, and_true, true_and, and_self, Nat.reduceEqDiff, Nat.reduceLeDiff, if_true, if_false, reduceIte, reduceCtorEq, Option.isSome, false_implies]; try simp [Wk, wkK, wkT, wk1, AV.kept, keptAll, wkO, lk, wkObj])
    rintro k ⟨hk, hT, hU⟩
    have c0 : ltB 0 2 = true := by decide
    have c1 : ltB 1 2 = true := by decide
    have c2 : ltB 2 2 = false := by decide
    rcases (by omega : k = 0 ∨ k = 1 ∨ k = 2) with rfl | rfl | rfl
    · cases b1 : right3 n.t with
      | false =>
        have hw := hbadT (by unfold arrowB; rw [b1]; rfl)
        (sym =>
         simp [c0,c1,c2,b1,Ut,Uw,Uv,Uu,szV,szL,Int.toNat_natCast,Ur,Up,Us,Uo,szN,Uq,G5,Hm,G6,Hn,con_Agree7A.eq_def,con_Plain3.eq_def,con_Right3.eq_def,con_Same3.eq_def,Zb,Zc,Zd,Ze,Zf,Zg,Zo,Zp,Zq,Zt,Zv,Zy,Z9,Qb,Qc,Qd,Qe,Qf,Qn,Qo,Qp,Qq,Qs,Q1,Q2,Q4,Q8,Jf,Jh,Jj,Jk,Jl,Jx,Jy,Jz,J4,J5,J7,J8,Xa,Xb,Xe,Xt,Xu,X1,X2,X4,X5,X6,X9,Wa,Wd,Wf,Wg,Wh,Wr,Ws,Wt,Wu,Wv,Wx,Wy,W4,W5,W6,W7,W8,W9,Yb,Yc,Yd,Yg,Yh,Yk,Yt,Yw,Y5,Y6,Vi,Vj,Vo,Vq,Vr,Vs,Vt,Vv,V1,V5,Uh,Uj,Uk,Ul,U2,Ku,U3,K7]
         tactic =>
          try simp only [Uy] at *
          try simp only [nc2] at *
          try simp (maxSteps := 4000000) only [c0,c1,c2,b1,Ut,Uw,Uv,Uu,szV,szL,Int.toNat_natCast,Ur,Up,Us,Uo,szN,Uq,U1]
          repeat' (first | with_reducible assumption | with_reducible refine And.intro ?_ ?_ | intro _ | omega | (rw [Ux]; omega))
          all_goals first
            | (with_reducible refine Kh ?_; kernel_rfl)
            | exact hw
            | exact t2
            | omega)
      | true =>
        have hp := right3_pos b1
        have hel := U8 n0 hp
        cases b2 : plain3 n.t with
        | false =>
          have hw := hbadT (by unfold arrowB; rw [b1, b2]; rfl)
          (sym =>
           simp [c0,c1,c2,b1,b2,Ut,Uw,Uv,Uu,szV,szL,Int.toNat_natCast,Ur,Up,Us,Uo,szN,Uq,G5,Hm,G6,Hn,con_Agree7A.eq_def,con_Plain3.eq_def,con_Right3.eq_def,con_Same3.eq_def,Zb,Zc,Zd,Ze,Zf,Zg,Zo,Zp,Zq,Zt,Zv,Zy,Z9,Qb,Qc,Qd,Qe,Qf,Qn,Qo,Qp,Qq,Qs,Q1,Q2,Q4,Q8,Jf,Jh,Jj,Jk,Jl,Jx,Jy,Jz,J4,J5,J7,J8,Xa,Xb,Xe,Xt,Xu,X1,X2,X4,X5,X6,X9,Wa,Wd,Wf,Wg,Wh,Wr,Ws,Wt,Wu,Wv,Wx,Wy,W4,W5,W6,W7,W8,W9,Yb,Yc,Yd,Yg,Yh,Yk,Yt,Yw,Y5,Y6,Vi,Vj,Vn,Vo,Vq,Vr,Vs,Vt,Vv,V1,V5,Uh,Ui,Uj,Uk,Ul,U2,Ku,U3,K7]
           tactic =>
            try simp only [Uy] at *
            try simp only [nc2] at *
            try simp (maxSteps := 4000000) only [c0,c1,c2,b1,b2,Ut,Uw,Uv,Uu,szV,szL,Int.toNat_natCast,Ur,Up,Us,Uo,szN,Uq,U1]
            repeat' (first | with_reducible assumption | with_reducible refine And.intro ?_ ?_ | intro _ | omega | (rw [Ux]; omega))
            all_goals first
              | (with_reducible refine Kh ?_; kernel_rfl)
              | exact hw
              | exact t2
              | omega)
        | true =>
          cases b3 : ((n.t.getD 0 n0).kind == 5) with
          | false =>
            have hw := hbadT (by unfold arrowB; rw [b1, b2, b3]; rfl)
            have b4 : ((n.t.getD 0 n0).kind != 5) = true := by rw [bne, b3]; rfl
            (sym =>
             simp [c0,c1,c2,b1,b2,b4,hel,Ut,Uw,Uv,Uu,szV,szL,Int.toNat_natCast,Ur,Up,Us,Uo,szN,Uq,G5,Hm,G6,Hn,con_Agree7A.eq_def,con_Plain3.eq_def,con_Right3.eq_def,con_Same3.eq_def,Zb,Zc,Zd,Ze,Zf,Zg,Zo,Zp,Zq,Zs,Zt,Zv,Zx,Zy,Z9,Qb,Qc,Qd,Qe,Qf,Qn,Qo,Qp,Qq,Qs,Q1,Q2,Q4,Q8,Jf,Jh,Jj,Jk,Jl,Jx,Jy,Jz,J4,J5,J7,J8,Xa,Xb,Xe,Xt,Xu,X1,X2,X4,X5,X6,X9,Wa,Wd,Wf,Wg,Wh,Wr,Ws,Wt,Wu,Wv,Wx,Wy,W4,W5,W6,W7,W8,W9,Yb,Yc,Yd,Yf,Yg,Yh,Yj,Yk,Yr,Yt,Yu,Yw,Y5,Y6,Vi,Vj,Vn,Vq,Vr,Vs,Vt,Vv,V1,V4,V5,Uh,Ui,Uj,Uk,Ul,Um,U2,Ku,U3,Kb,K7]
             tactic =>
              try simp only [Uy] at *
              try simp only [nc2] at *
              try simp (maxSteps := 4000000) only [c0,c1,c2,b1,b2,b4,hel,Ut,Uw,Uv,Uu,szV,szL,Int.toNat_natCast,Ur,Up,Us,Uo,szN,Uq,U1]
              repeat' (first | with_reducible assumption | with_reducible refine And.intro ?_ ?_ | intro _ | omega | (rw [Ux]; omega))
              all_goals first
                | (with_reducible refine Kh ?_; kernel_rfl)
                | exact hw
                | exact t2
                | omega)
          | true =>
            have b4 : ((n.t.getD 0 n0).kind != 5) = false := by rw [bne, b3]; rfl
            have hok : arrowB n.t = true := Ns.2 ⟨b1, b2, b3⟩
            (sym =>
             simp [c0,c1,c2,b1,b2,b4,hel,Ut,Uw,Uv,Uu,szV,szL,Int.toNat_natCast,Ur,Up,Us,Uo,szN,Uq,G5,Hm,G6,Hn,Ar,con_Agree7A.eq_def,con_Plain3.eq_def,con_Right3.eq_def,con_Same3.eq_def,Zb,Zc,Zd,Ze,Zf,Zg,Zo,Zp,Zq,Zs,Zt,Zv,Zx,Zy,Z9,Qb,Qc,Qd,Qe,Qf,Qq,Qs,Q1,Q2,Q4,Q8,Jf,Jh,Jj,Jl,Jx,Jy,Jz,J4,J5,J7,J8,Xa,Xb,Xe,Xt,Xu,X1,X2,X4,X5,X6,Wa,Wd,Wf,Wg,Wh,Wr,Ws,Wt,Wu,Wv,Wx,Wy,W4,W5,W6,W7,W8,W9,Yb,Yc,Yd,Yf,Yg,Yh,Yj,Yk,Yr,Yt,Yu,Yw,Y5,Y6,Vi,Vj,Vn,Vq,Vr,Vs,Vt,Vv,V1,V4,V5,Uh,Ui,Uj,Uk,Ul,Um,U2,Ku,U3,Kb,K7]
             tactic =>
              try simp only [Uy] at *
              try simp only [nc2] at *
              try simp (maxSteps := 4000000) only [c0,c1,c2,b1,b2,b4,hel,Ut,Uw,Uv,Uu,szV,szL,Int.toNat_natCast,Ur,Up,Us,Uo,szN,Uq,U1]
              repeat' (first | with_reducible assumption | with_reducible refine And.intro ?_ ?_ | intro _ | omega | (rw [Ux]; omega))
              all_goals first
                | (with_reducible refine Kh ?_; kernel_rfl)
                | exact t2
                | omega
                | exact ⟨1, by ((try simp only [Uz, killAll, setSlots, updAll, upd, U9, setCs, putC, Nat.reduceDiv, Nat.reduceMod, Nat.reduceMul, Nat.reduceAdd, Nat.reduceEqDiff, List.set_cons_zero, List.set_cons_succ, if_true, if_false, reduceIte]); (first | refine Wk.of_fl ?_ | skip); simp only [Wk, wkK, wkCs, wkT, wk1, AV.kept, keptAll, wkO, lk, wkObj, and_true, true_and, and_self, Nat.reduceEqDiff, Nat.reduceLeDiff, if_true, if_false, reduceIte, reduceCtorEq, Option.isSome, false_implies]; try simp [Wk, wkK, wkT, wk1, AV.kept, keptAll, wkO, lk, wkObj]), by omega, fun _ => hok, fun h => absurd h (by omega), by omega⟩)
    · have hokT := hT (by omega)
      cases b1 : right3 n.u with
      | false =>
        have hw := hbadU (by unfold arrowB; rw [b1]; rfl)
        (sym =>
         simp [c0,c1,c2,b1,Ut,Uw,Uv,Uu,szV,szL,Int.toNat_natCast,Ur,Up,Us,Uo,szN,Uq,G5,Hm,G6,Hn,con_Agree7A.eq_def,con_Plain3.eq_def,con_Right3.eq_def,con_Same3.eq_def,Zb,Zc,Zd,Ze,Zf,Zg,Zo,Zp,Zq,Zt,Zv,Zy,Z9,Qb,Qc,Qd,Qe,Qf,Qn,Qo,Qp,Qq,Qs,Q1,Q2,Q4,Q8,Jf,Jh,Jj,Jk,Jl,Jx,Jy,Jz,J4,J5,J7,J8,Xa,Xb,Xe,Xt,Xu,X1,X2,X4,X5,X6,X9,Wa,Wd,Wf,Wg,Wh,Wr,Ws,Wt,Wu,Wv,Wx,Wy,W4,W5,W6,W7,W8,W9,Yb,Yc,Yd,Yg,Yh,Yk,Yt,Yw,Y5,Y6,Vi,Vj,Vo,Vr,Vs,Vt,Vu,Vv,Vx,V2,V5,Uh,Uj,Uk,Ul,U2,Ku,U3,K7]
         tactic =>
          try simp only [Uy] at *
          try simp only [nc2] at *
          try simp (maxSteps := 4000000) only [c0,c1,c2,b1,Ut,Uw,Uv,Uu,szV,szL,Int.toNat_natCast,Ur,Up,Us,Uo,szN,Uq,U1]
          repeat' (first | with_reducible assumption | with_reducible refine And.intro ?_ ?_ | intro _ | omega | (rw [Ux]; omega))
          all_goals first
            | (with_reducible refine Kh ?_; kernel_rfl)
            | exact hw
            | exact u2
            | omega)
      | true =>
        have hp := right3_pos b1
        have hel := U8 n0 hp
        cases b2 : plain3 n.u with
        | false =>
          have hw := hbadU (by unfold arrowB; rw [b1, b2]; rfl)
          (sym =>
           simp [c0,c1,c2,b1,b2,Ut,Uw,Uv,Uu,szV,szL,Int.toNat_natCast,Ur,Up,Us,Uo,szN,Uq,G5,Hm,G6,Hn,con_Agree7A.eq_def,con_Plain3.eq_def,con_Right3.eq_def,con_Same3.eq_def,Zb,Zc,Zd,Ze,Zf,Zg,Zo,Zp,Zq,Zt,Zv,Zy,Z9,Qb,Qc,Qd,Qe,Qf,Qn,Qo,Qp,Qq,Qs,Q1,Q2,Q4,Q8,Jf,Jh,Jj,Jk,Jl,Jx,Jy,Jz,J4,J5,J7,J8,Xa,Xb,Xe,Xt,Xu,X1,X2,X4,X5,X6,X9,Wa,Wd,Wf,Wg,Wh,Wr,Ws,Wt,Wu,Wv,Wx,Wy,W4,W5,W6,W7,W8,W9,Yb,Yc,Yd,Yg,Yh,Yk,Yt,Yw,Y5,Y6,Vi,Vj,Vn,Vo,Vr,Vs,Vt,Vu,Vv,Vx,V2,V5,Uh,Ui,Uj,Uk,Ul,U2,Ku,U3,K7]
           tactic =>
            try simp only [Uy] at *
            try simp only [nc2] at *
            try simp (maxSteps := 4000000) only [c0,c1,c2,b1,b2,Ut,Uw,Uv,Uu,szV,szL,Int.toNat_natCast,Ur,Up,Us,Uo,szN,Uq,U1]
            repeat' (first | with_reducible assumption | with_reducible refine And.intro ?_ ?_ | intro _ | omega | (rw [Ux]; omega))
            all_goals first
              | (with_reducible refine Kh ?_; kernel_rfl)
              | exact hw
              | exact u2
              | omega)
        | true =>
          cases b3 : ((n.u.getD 0 n0).kind == 5) with
          | false =>
            have hw := hbadU (by unfold arrowB; rw [b1, b2, b3]; rfl)
            have b4 : ((n.u.getD 0 n0).kind != 5) = true := by rw [bne, b3]; rfl
            (sym =>
             simp [c0,c1,c2,b1,b2,b4,hel,Ut,Uw,Uv,Uu,szV,szL,Int.toNat_natCast,Ur,Up,Us,Uo,szN,Uq,G5,Hm,G6,Hn,con_Agree7A.eq_def,con_Plain3.eq_def,con_Right3.eq_def,con_Same3.eq_def,Zb,Zc,Zd,Ze,Zf,Zg,Zo,Zp,Zq,Zs,Zt,Zv,Zx,Zy,Z9,Qb,Qc,Qd,Qe,Qf,Qn,Qo,Qp,Qq,Qs,Q1,Q2,Q4,Q8,Jf,Jh,Jj,Jk,Jl,Jx,Jy,Jz,J4,J5,J7,J8,Xa,Xb,Xe,Xt,Xu,X1,X2,X4,X5,X6,X9,Wa,Wd,Wf,Wg,Wh,Wr,Ws,Wt,Wu,Wv,Wx,Wy,W4,W5,W6,W7,W8,W9,Yb,Yc,Yd,Yf,Yg,Yh,Yj,Yk,Yr,Yt,Yu,Yw,Y5,Y6,Vi,Vj,Vn,Vq,Vr,Vs,Vt,Vu,Vv,Vx,V2,V4,V5,Uh,Ui,Uj,Uk,Ul,Um,U2,Ku,U3,Kb,K7]
             tactic =>
              try simp only [Uy] at *
              try simp only [nc2] at *
              try simp (maxSteps := 4000000) only [c0,c1,c2,b1,b2,b4,hel,Ut,Uw,Uv,Uu,szV,szL,Int.toNat_natCast,Ur,Up,Us,Uo,szN,Uq,U1]
              repeat' (first | with_reducible assumption | with_reducible refine And.intro ?_ ?_ | intro _ | omega | (rw [Ux]; omega))
              all_goals first
                | (with_reducible refine Kh ?_; kernel_rfl)
                | exact hw
                | exact u2
                | omega)
          | true =>
            have b4 : ((n.u.getD 0 n0).kind != 5) = false := by rw [bne, b3]; rfl
            have hok : arrowB n.u = true := Ns.2 ⟨b1, b2, b3⟩
            (sym =>
             simp [c0,c1,c2,b1,b2,b4,hel,Ut,Uw,Uv,Uu,szV,szL,Int.toNat_natCast,Ur,Up,Us,Uo,szN,Uq,G5,Hm,G6,Hn,Ar,con_Agree7A.eq_def,con_Plain3.eq_def,con_Right3.eq_def,con_Same3.eq_def,Zb,Zc,Zd,Ze,Zf,Zg,Zo,Zp,Zq,Zs,Zt,Zv,Zx,Zy,Z9,Qb,Qc,Qd,Qe,Qf,Qq,Qs,Q1,Q2,Q4,Q8,Jf,Jh,Jj,Jl,Jx,Jy,Jz,J4,J5,J7,J8,Xa,Xb,Xe,Xt,Xu,X1,X2,X4,X5,X6,Wa,Wd,Wf,Wg,Wh,Wr,Ws,Wt,Wu,Wv,Wx,Wy,W4,W5,W6,W7,W8,W9,Yb,Yc,Yd,Yf,Yg,Yh,Yj,Yk,Yr,Yt,Yu,Yw,Y5,Y6,Vi,Vj,Vn,Vq,Vr,Vs,Vt,Vu,Vv,Vx,V2,V4,V5,Uh,Ui,Uj,Uk,Ul,Um,U2,Ku,U3,Kb,K7]
             tactic =>
              try simp only [Uy] at *
              try simp only [nc2] at *
              try simp (maxSteps := 4000000) only [c0,c1,c2,b1,b2,b4,hel,Ut,Uw,Uv,Uu,szV,szL,Int.toNat_natCast,Ur,Up,Us,Uo,szN,Uq,U1]
              repeat' (first | with_reducible assumption | with_reducible refine And.intro ?_ ?_ | intro _ | omega | (rw [Ux]; omega))
              all_goals first
                | (with_reducible refine Kh ?_; kernel_rfl)
                | exact u2
                | omega
                | exact ⟨2, by ((try simp only [Uz, killAll, setSlots, updAll, upd, U9, setCs, putC, Nat.reduceDiv, Nat.reduceMod, Nat.reduceMul, Nat.reduceAdd, Nat.reduceEqDiff, List.set_cons_zero, List.set_cons_succ, if_true, if_false, reduceIte]); (first | refine Wk.of_fl ?_ | skip); simp only [Wk, wkK, wkCs, wkT, wk1, AV.kept, keptAll, wkO, lk, wkObj, and_true, true_and, and_self, Nat.reduceEqDiff, Nat.reduceLeDiff, if_true, if_false, reduceIte, reduceCtorEq, Option.isSome, false_implies]; try simp [Wk, wkK, wkT, wk1, AV.kept, keptAll, wkO, lk, wkObj]), by omega, fun _ => hokT, fun _ => hok, by omega⟩)
    · have hokT := hT (by omega)
      have hokU := hU (by omega)
      obtain ⟨p1, p2, p3⟩ := Ns.1 hokT
      obtain ⟨q1, q2, q3⟩ := Ns.1 hokU
      have hTT := tree7_of p1
      have hTU := tree7_of q1
      have hT1 := hTT.1
      have hw : wrapB n = (agX false (treeAt ar n.t 0) (treeAt ar n.u 0) && !same3 n.t n.u) := by unfold wrapB; rw [hokT, hokU]; rfl
      cases b1 : agX false (treeAt ar n.t 0) (treeAt ar n.u 0) with
      | false =>
        rw [b1, Bool.false_and] at hw
        (sym =>
         simp [c0,c1,c2,b1,hw,Kg,Ut,Uw,Uv,Uu,szV,szL,Int.toNat_natCast,Ur,Up,Us,Uo,szN,Uq,G5,Hm,G6,Hn,con_Plain3.eq_def,con_Right3.eq_def,con_Same3.eq_def,Zb,Zc,Zd,Ze,Zf,Zg,Zp,Zq,Zs,Zt,Zv,Zx,Z9,Qb,Qd,Qe,Qf,Qm,Qn,Qo,Qp,Qq,Qs,Q1,Q2,Q4,Q8,Jf,Jh,Jj,Jk,Jl,Jx,Jy,Jz,J4,J5,J6,J7,J8,J9,Xa,Xb,Xe,Xt,Xu,X2,X4,X5,X8,X9,Wa,Wd,Wf,Wg,Wr,Ws,Wt,Wu,Wv,Wx,Wy,W4,W5,W6,W7,W8,W9,Yb,Yc,Yg,Yw,Y5,Y6,Y7,Y8,Vi,Vj,Vr,Vs,Vv,V5,Ui,Uj,Uk,Ul,U2,U3,Kd]
         tactic =>
          try simp only [Uy] at *
          try simp only [nc2] at *
          try simp (maxSteps := 4000000) only [c0,c1,c2,b1,hw,Kg,Ut,Uw,Uv,Uu,szV,szL,Int.toNat_natCast,Ur,Up,Us,Uo,szN,Uq,U1]
          repeat' (first | with_reducible assumption | with_reducible refine And.intro ?_ ?_ | intro _ | omega | (rw [Ux]; omega))
          all_goals first
            | (with_reducible refine Kh ?_; kernel_rfl)
            | exact hTT
            | exact hTU
            | omega)
      | true =>
        rw [b1, Bool.true_and] at hw
        (sym =>
         simp [c0,c1,c2,b1,hw,Kg,Ut,Uw,Uv,Uu,szV,szL,Int.toNat_natCast,Ur,Up,Us,Uo,szN,Uq,G5,Hm,G6,Hn,con_Plain3.eq_def,con_Right3.eq_def,con_Same3.eq_def,Zb,Zc,Zd,Ze,Zf,Zg,Zp,Zq,Zs,Zt,Zv,Zx,Z9,Qb,Qc,Qd,Qe,Qf,Qm,Qn,Qo,Qp,Qq,Qs,Q1,Q2,Q4,Q8,Jf,Jh,Jj,Jk,Jl,Jx,Jy,Jz,J4,J5,J6,J7,J8,J9,Xa,Xb,Xe,Xt,Xu,X2,X4,X5,X8,X9,Wa,Wd,Wf,Wg,Wr,Ws,Wt,Wu,Wv,Wx,Wy,W4,W5,W6,W7,W8,W9,Yb,Yc,Yd,Yg,Yh,Yw,Y5,Y6,Y7,Y8,Vi,Vj,Vr,Vs,Vv,V5,Uh,Ui,Uj,Uk,Ul,U2,Ku,U3,Kd]
         tactic =>
          try simp only [Uy] at *
          try simp only [nc2] at *
          try simp (maxSteps := 4000000) only [c0,c1,c2,b1,hw,Kg,Ut,Uw,Uv,Uu,szV,szL,Int.toNat_natCast,Ur,Up,Us,Uo,szN,Uq,U1]
          repeat' (first | with_reducible assumption | with_reducible refine And.intro ?_ ?_ | intro _ | omega | (rw [Ux]; omega))
          all_goals first
            | (with_reducible refine Kh ?_; kernel_rfl)
            | exact hTT
            | exact hTU
            | omega))
def typV (n : VNode) : Bool := (n.t.length : Int) == 0 && (n.u.length : Int) == 0
noncomputable def usesB (n : VNode) : Bool :=
  cond (n.kind == 0) (typV n && (n.name == [] && n.many == 0))
  (cond (n.kind == 1) (typV n && (n.name == [] && (n.many == 0 && (n.num == 0 || n.num == 1))))
  (cond (n.kind == 2) (typV n && (n.num == 0 && n.many == 0))
  (cond (n.kind == 3) (typV n && (n.name == [] && (n.num == 0 && n.many == 0)))
  (cond (n.kind == 4) (typV n && (n.name == [] && (n.num == 0 && (leB 0 n.many && leB n.many 50))))
  (cond (n.kind == 5) (typV n && (isTag n.name && (n.num == 0 && n.many == 0)))
  (cond (n.kind == 6) (typV n && (n.name == [] && (leB 0 n.num && n.many == 0)))
  (cond (n.kind == 7) (n.name == [] && (leB 0 n.num && (n.many == 0 && wrapB n)))
  false)))))))
noncomputable def con_uses19 : Con := con1 (fun (n : VNode) => GoodN n) usesB
noncomputable def ctx_uses19 : Ctx := ⟨tab, lkC [(80, con_IsTag1), (106, con_wrap19)], 60, lkB [], [], false⟩
theorem ctx_uses19_t : ctx_uses19.τ = tab := rfl
theorem ctx_uses19_c : ctx_uses19.Γ = lkC [(80, con_IsTag1), (106, con_wrap19)] := rfl
theorem ctx_uses19_d : ctx_uses19.dp = 60 := rfl
theorem ctx_uses19_b : ctx_uses19.Δ = lkB [] := rfl
set_option maxRecDepth 100000 in
theorem good_uses19 : Good Try.prog (86, con_uses19) := by
  refine ⟨U0 Try.func86 (by kernel_rfl) rfl, ?_⟩
  have K : CtxOk Try.prog ctx_uses19 := U4 Ki Ka (by
    intro p hp
    simp only [List.mem_cons, List.not_mem_nil, or_false] at hp
    rcases hp with rfl | rfl
    · exact O6
    · exact good_wrap19) (by simp)
  obtain ⟨c, hc⟩ : ∃ c, Try.f86.body = some c := ⟨_, rfl⟩
  refine U5 K Try.func86 hc [.tmp 2] rfl 161 rfl (fun cvs hpre => ?_)
  change con_uses19.pre cvs at hpre
  unfold con_uses19 at hpre
  obtain ⟨n, rfl, hG⟩ := K1 hpre
  have hG' : GoodN n := hG
  obtain ⟨⟨t1, t2⟩, ⟨u1, u2⟩, hnm, hlb⟩ := hG
  obtain ⟨r, hr⟩ : ∃ r, usesB n = r := ⟨_, rfl⟩
  have hr2 := hr
  unfold usesB typV at hr2
  clear hpre
  simp only [Try.f86, Option.some.injEq] at hc
  subst hc
  refine Kl 10 (of_decide_eq_true (by kernel_rfl)) ?_
  (sym =>
   simp [Ut,Uw,Uv,Uu,hr,Ur,Up,Us,Uo,szN,Uq,ctx_uses19_t,ctx_uses19_c,ctx_uses19_d,ctx_uses19_b,con_IsTag1.eq_def,con_uses19.eq_def,con_wrap19.eq_def,Zb,Zc,Zd,Ze,Zf,Zg,Zo,Zp,Zq,Zs,Zt,Zu,Zv,Zx,Z6,Z9,Qb,Qd,Qe,Qf,Qh,Ql,Qm,Qn,Qo,Qp,Qq,Qs,Q1,Q2,Q4,Q8,Ja,Jf,Jh,Ji,Jj,Jk,Jl,Jw,J2,J3,J4,J5,J6,J7,J8,J9,Xa,Xb,Xe,Xm,Xn,Xr,Xt,X1,X2,X4,X5,X6,X9,Wa,Wd,Wf,Wg,Wh,Wr,Ws,Wt,Wu,Wv,Ww,Wx,Wy,Wz,W0,W3,W4,W5,W6,W7,W8,W9,Yc,Ye,Yf,Yg,Yi,Yj,Yo,Yw,Y5,Y6,Y7,Y9,Va,Vb,Vc,Vd,Ve,Vg,Vl,Vr,V4,V5,V6,V8,Uh,Ui,Uj,Uk,Um,tab2,U2,Gr,U3,Kb,Kd]
   tactic =>
    try simp only [Uy] at *
    try simp only [nc2] at *
    try simp (maxSteps := 4000000) only [Ut,Uw,Uv,Uu,hr,Ur,Up,Us,Uo,szN,Uq,U1]
    repeat' (first | with_reducible assumption | with_reducible refine And.intro ?_ ?_ | intro _ | omega | (rw [Ux]; omega))
    all_goals first
      | (with_reducible refine Kh ?_; kernel_rfl)
      | exact hG'
      | exact t2
      | exact u2
      | (rw [← hr2]; clear hr2 hr K hG' t1 t2 u1 u2 hnm hlb; simp_all; done)
      | (rw [← hr2]; clear hr2 hr K hG' t1 t2 u1 u2 hnm hlb; simp_all [leB]; done)
      | (rw [← hr2]; clear hr2 hr K hG' t1 t2 u1 u2 hnm hlb; simp_all [leB]; omega)
      | skip)
end Go.Am.Ty
set_option linter.unusedSimpArgs false
set_option linter.unusedVariables false
set_option maxHeartbeats 1000000
namespace Go.Am.Ty
open Go.Proofs Go.Rose Go.Rose.Rose
open Enc (enc dec)
def kidsG (v : List VNode) : Nat → Nat → Nat → List (Sl VNode)
  | 0, _, _ => []
  | _, 0, _ => []
  | f + 1, m + 1, i => if i < v.length then ⟨(v.take (endW (v.drop i) 1 i)).drop i⟩ :: kidsG v f m (endW (v.drop i) 1 i) else []
def kids19 (v : List VNode) : List (Sl VNode) := kidsG v (v.length + 1) (arV (v.getD 0 v0)) 1
theorem Tl {v : List VNode} {i : Nat} (h : i < v.length) : i < endW (v.drop i) 1 i ∧ endW (v.drop i) 1 i ≤ v.length := by
  have h1 := endW_le (v.drop i) 1 i
  rw [List.length_drop] at h1
  have h2 : v.drop i ≠ [] := by
    intro e
    have := congrArg List.length e
    rw [List.length_drop] at this
    simp at this
    omega
  have := h1.2.2 h2
  omega
theorem kidsG_in {v : List VNode} : ∀ {f m i : Nat}, ∀ p ∈ kidsG v f m i, p.l ≠ [] ∧ p.l.length + i ≤ v.length ∧ ∀ n ∈ p.l, n ∈ v
  | 0, m, i, p, hp => by simp [kidsG] at hp
  | f + 1, 0, i, p, hp => by simp [kidsG] at hp
  | f + 1, m + 1, i, p, hp => by
    rw [kidsG] at hp
    split at hp
    · next hlt =>
      obtain ⟨h1, h2⟩ := Tl hlt
      rcases List.mem_cons.1 hp with rfl | hp
      · refine ⟨?_, ?_, ?_⟩
        · intro e
          have := congrArg List.length e
          simp only [List.length_drop, List.length_take, List.length_nil] at this
          omega
        · simp only [List.length_drop, List.length_take]
          omega
        · intro n hn
          exact List.mem_of_mem_take (List.mem_of_mem_drop hn)
      · obtain ⟨q1, q2, q3⟩ := kidsG_in p hp
        exact ⟨q1, by omega, q3⟩
    · simp at hp
theorem Iy {v : List VNode} {p : Sl VNode} (h : p ∈ kids19 v) : p.l ≠ [] ∧ p.l.length < v.length ∧ ∀ n ∈ p.l, n ∈ v := by
  obtain ⟨h1, h2, h3⟩ := kidsG_in p h
  exact ⟨h1, by omega, h3⟩
theorem kidsG_len {v : List VNode} : ∀ {f m i : Nat}, (kidsG v f m i).length ≤ m ∧ (kidsG v f m i).length + i ≤ max i v.length
  | 0, m, i => by simp [kidsG]; omega
  | f + 1, 0, i => by simp [kidsG]; omega
  | f + 1, m + 1, i => by
    rw [kidsG]
    split
    · next hlt =>
      obtain ⟨h1, h2⟩ := Tl hlt
      have := kidsG_len (v := v) (f := f) (m := m) (i := endW (v.drop i) 1 i)
      simp only [List.length_cons]
      omega
    · simp; omega
theorem kidsG_fuel {v : List VNode} : ∀ {f g m i : Nat}, v.length < f + i → v.length < g + i → kidsG v f m i = kidsG v g m i
  | 0, g, m, i, h1, h2 => by
    cases g with
    | zero => rfl
    | succ g => cases m with
      | zero => simp [kidsG]
      | succ m => rw [kidsG, kidsG, if_neg (by omega)]
  | f + 1, 0, m, i, h1, h2 => by
    cases m with
    | zero => simp [kidsG]
    | succ m => rw [kidsG, kidsG, if_neg (by omega)]
  | f + 1, g + 1, m, i, h1, h2 => by
    cases m with
    | zero => simp [kidsG]
    | succ m =>
      rw [kidsG, kidsG]
      split
      · next hlt =>
        obtain ⟨q1, q2⟩ := Tl hlt
        rw [kidsG_fuel (f := f) (g := g) (by omega) (by omega)]
      · rfl
def con_Kids19 : Con := con1 (fun (v : Sl VNode) => 0 < v.l.length ∧ v.l.length ≤ 1000000000) (fun v => Sl.mk (kids19 v.l))
noncomputable def ctx_Kids19 : Ctx := ⟨tab, lkC [(88, con_many19), (87, con_End19)], 60, lkB [], [], false⟩
theorem Ln : ctx_Kids19.τ = tab := rfl
theorem Cn : ctx_Kids19.Γ = lkC [(88, con_many19), (87, con_End19)] := rfl
theorem Cm : ctx_Kids19.dp = 60 := rfl
theorem Co : ctx_Kids19.Δ = lkB [] := rfl
theorem ctx_Kids19_w : ctx_Kids19.wr = false := rfl
set_option maxRecDepth 100000 in
theorem good_Kids19 : Good Try.prog (70, con_Kids19) := by
  refine ⟨U0 Try.func70 (by kernel_rfl) rfl, ?_⟩
  have K : CtxOk Try.prog ctx_Kids19 := U4 Ki Ka (by
    intro p hp
    simp only [List.mem_cons, List.not_mem_nil, or_false] at hp
    rcases hp with rfl | rfl
    · exact Da
    · exact good_End19) (by simp)
  obtain ⟨c, hc⟩ : ∃ c, Try.f70.body = some c := ⟨_, rfl⟩
  refine U5 K Try.func70 hc [.tmp 2] rfl 36 rfl (fun cvs hpre => ?_)
  change con_Kids19.pre cvs at hpre
  unfold con_Kids19 at hpre
  obtain ⟨⟨v⟩, rfl, h0, hv⟩ := K1 hpre
  simp only at h0 hv
  have hel0 := U8 v0 h0
  obtain ⟨K0, hK⟩ : ∃ K0, kids19 v = K0 := ⟨_, rfl⟩
  obtain ⟨m, hm⟩ : ∃ m, arV (v.getD 0 v0) = m := ⟨_, rfl⟩
  have hK2 : kidsG v (v.length + 1) m 1 = K0 := by rw [← hm]; exact hK
  clear hpre
  simp only [Try.f70, Option.some.injEq] at hc
  subst hc
  refine Kl 2 (of_decide_eq_true (by kernel_rfl)) ?_
  (sym =>
   simp [szV,hK,Ln,con_Kids19.eq_def,Zb,Zc,Ze,Zf,Zn,Zo,Zr,Z1,Qq,Qs,Q1,Q2,Q4,Jb,Jc,Jd,Je,Jg,Jh,Ji,Jw,J2,J3,J4,J5,J7,Xa,Xc,Xm,Xn,Xt,X2,X4,X6,X7,Wa,Wd,Wf,Wg,Wh,Wl,Wr,Ws,Wt,Wu,Ww,Wy,Wz,W3,W4,W5,W8,W9,Y5,Y6,Y9,Va,Vb,Vc,Vd,Ve,Vh,Vr,Vs,V4,V7,Uj,Uk,Kc,He]
   tactic =>
    try simp only [Uy] at *
    try simp only [nc2] at *
    try simp (maxSteps := 4000000) only [szV,hK,U1]
    refine Ke [6, 8, 9, 10, 11, 12, 13, 14, 15, 16, 17, 18, 19, 20, 21, 22, 23, 24, 25, 26, 27, 28, 29, 30, 31, 32, 33, 34] (fun p : Nat × Nat × List (Sl VNode) => [(3, .sl 7 (p.2.2.map (enc : Sl VNode → D)).length), (4, .d (.int .i64 p.2.1)), (5, .d (.int .i64 p.1))]) (fun p : Nat × Nat × List (Sl VNode) => [(7, .row 1 (p.2.2.map enc) 0)]) (fun p : Nat × Nat × List (Sl VNode) => p.1 ≤ m ∧ p.1 < p.2.1 ∧ p.2.1 ≤ max 1 v.length ∧ p.2.2.length = p.1 ∧ p.2.2 ++ kidsG v (v.length + 1) (m - p.1) p.2.1 = K0) (fun p : Nat × Nat × List (Sl VNode) => v.length - p.2.1) (0, 1, []) ?_ ?_ ?_
    · exact ⟨Nat.zero_le _, by simp, by simp only; omega, rfl, by simpa using hK2⟩
    · ((try simp only [Uz, killAll, setSlots, updAll, upd, U9, setCs, putC, Nat.reduceDiv, Nat.reduceMod, Nat.reduceMul, Nat.reduceAdd, Nat.reduceEqDiff, List.set_cons_zero, List.set_cons_succ, if_true, if_false, reduceIte]); (first | refine Wk.of_fl ?_ | skip); simp only [Wk, wkK, wkCs, wkT, wk1, AV.kept, keptAll, wkO, lk, wkObj, and_true, true_and, and_self, Nat.reduceEqDiff, Nat.reduceLeDiff, if_true, if_false, reduceIte, reduceCtorEq, Option.isSome, false_implies]; try simp [Wk, wkK, wkT, wk1, AV.kept, keptAll, wkO, lk, wkObj])
      try exact ⟨⟨rfl, rfl⟩, rfl, rfl⟩
    rintro ⟨k, i, out⟩ ⟨h1, h2, h3, h4, h5⟩
    simp only at h1 h2 h3 h4 h5
    rcases Kf k m with ⟨hlt, hlb⟩ | ⟨hlt, hlb⟩
    · rcases Kf i v.length with ⟨hlt2, hlb2⟩ | ⟨hlt2, hlb2⟩
      · obtain ⟨e1, e2⟩ := Tl hlt2
        have hmk : m - k = (m - (k + 1)) + 1 := by omega
        rw [hmk, kidsG, if_pos hlt2, kidsG_fuel (g := v.length + 1) (by omega) (by omega)] at h5
        obtain ⟨e, he⟩ : ∃ e, endW (v.drop i) 1 i = e := ⟨_, rfl⟩
        rw [he] at e1 e2 h5
        have hcut : List.drop i (List.take e (v.map (enc : VNode → D))) = ((v.take e).drop i).map enc := by rw [← List.map_take, ← List.map_drop]
        have hlen : ((v.take e).drop i).length = e - i := by rw [List.length_drop, List.length_take]; omega
        (sym =>
         simp [hlb,hlb2,hel0,hm,he,hcut,hlen,h4,Int.toNat_natCast,Ut,Uw,Uv,Uu,szV,Ln,Cn,Cm,Co,ctx_Kids19_w,con_End19.eq_def,con_many19.eq_def,Zb,Zc,Zd,Ze,Zf,Zg,Zo,Zp,Zq,Zr,Zt,Zv,Zy,Z0,Z1,Z4,Z5,Z6,Z9,Qb,Qd,Qe,Qf,Qj,Qq,Qs,Q1,Q2,Q4,Q8,Jb,Jc,Jd,Je,Jf,Jg,Jh,Ji,Jj,Jl,Jx,Jy,Jz,J4,J5,J6,J7,J8,J9,Xa,Xb,Xc,Xd,Xe,Xg,Xo,Xt,Xu,X1,X2,X4,X5,X6,Wa,Wd,Wf,Wg,Wh,Wi,Wl,Wr,Ws,Wt,Wu,Wv,Wx,Wy,Wz,W0,W3,W4,W5,W6,W7,W8,W9,Yb,Yc,Yf,Yg,Yj,Yk,Yn,Yv,Yy,Yz,Y5,Y6,Y7,Y8,Va,Vf,Vh,Vk,Vm,Vq,Vr,Vs,V3,V4,V5,V9,Uh,Uj,Uk,Ul,Um,U2,Kc,Kd,He]
         tactic =>
          try simp only [Uy] at *
          try simp only [nc2] at *
          try simp (maxSteps := 4000000) only [hlb,hlb2,hel0,hm,he,hcut,hlen,h4,Int.toNat_natCast,Ut,Uw,Uv,Uu,szV,U1]
          repeat' (first | with_reducible assumption | with_reducible refine And.intro ?_ ?_ | intro _ | omega | (rw [Ux]; omega))
          all_goals first
            | omega
            | (rw [hlen]; omega)
            | skip
          refine ⟨(k + 1, e, out ++ [⟨(v.take e).drop i⟩]), ?_, by simp only; omega, by simp only; omega, by simp only; omega, by simp [h4], ?_, by simp only; omega⟩
          · ((try simp only [Uz, killAll, setSlots, updAll, upd, U9, setCs, putC, Nat.reduceDiv, Nat.reduceMod, Nat.reduceMul, Nat.reduceAdd, Nat.reduceEqDiff, List.set_cons_zero, List.set_cons_succ, if_true, if_false, reduceIte]); (first | refine Wk.of_fl ?_ | skip); simp only [Wk, wkK, wkCs, wkT, wk1, AV.kept, keptAll, wkO, lk, wkObj, and_true, true_and, and_self, Nat.reduceEqDiff, Nat.reduceLeDiff, if_true, if_false, reduceIte, reduceCtorEq, Option.isSome, false_implies]; try simp [Wk, wkK, wkT, wk1, AV.kept, keptAll, wkO, lk, wkObj, h4, List.length_append])
            rw [hcut]
            rfl
          · simp only
            rw [List.append_assoc]
            exact h5)
      · rw [show kidsG v (v.length + 1) (m - k) i = [] by cases hmk : m - k with
          | zero => rfl
          | succ q => rw [kidsG, if_neg (by omega)], List.append_nil] at h5
        subst h5
        (sym =>
         simp [hlb,hlb2,hel0,hm,h4,Ut,Uw,Uv,Uu,szV,Ln,Cn,Cm,Co,con_End19.eq_def,con_many19.eq_def,Zb,Zc,Zd,Ze,Zf,Zg,Zo,Zp,Zq,Zt,Zv,Zy,Z6,Z9,Qb,Qd,Qe,Qf,Qn,Qo,Qp,Qq,Qs,Q1,Q2,Q4,Q8,Jf,Jh,Ji,Jj,Jk,Jl,Jx,Jy,Jz,J4,J5,J6,J7,J8,J9,Xa,Xb,Xe,Xg,Xo,Xt,Xu,X2,X4,X5,X8,X9,Wa,Wd,Wf,Wg,Wh,Wr,Ws,Wt,Wu,Wv,Wx,Wy,W6,W7,W8,W9,Yb,Yc,Yg,Yk,Yv,Yy,Yz,Y5,Y6,Y7,Y8,Vq,Vr,Vs,V4,V5,Uh,Ui,Uj,Uk,Ul,Um,U2,Kc,Kd]
         tactic =>
          try simp only [Uy] at *
          try simp only [nc2] at *
          try simp (maxSteps := 4000000) only [hlb,hlb2,hel0,hm,h4,Ut,Uw,Uv,Uu,szV,U1]
          repeat' (first | with_reducible assumption | with_reducible refine And.intro ?_ ?_ | intro _ | omega | (rw [Ux]; omega))
          all_goals first
            | omega
            | rfl)
    · rw [show m - k = 0 by omega, show kidsG v (v.length + 1) 0 i = [] from rfl, List.append_nil] at h5
      subst h5
      (sym =>
       simp [hlb,hel0,hm,h4,Ut,Uw,Uv,Uu,szV,Ln,Cn,Cm,Co,con_End19.eq_def,con_many19.eq_def,Zb,Zc,Zd,Ze,Zf,Zg,Zo,Zp,Zq,Zt,Zv,Zy,Z9,Qb,Qd,Qe,Qf,Qn,Qo,Qp,Qq,Qs,Q1,Q2,Q4,Q8,Jf,Jh,Ji,Jj,Jk,Jl,Jx,Jy,Jz,J4,J5,J6,J7,J8,J9,Xa,Xb,Xe,Xg,Xo,Xt,Xu,X2,X4,X5,X8,X9,Wa,Wd,Wf,Wg,Wh,Wr,Ws,Wt,Wu,Wv,Wx,Wy,W6,W7,W8,W9,Yb,Yc,Yg,Yk,Yv,Yy,Yz,Y5,Y6,Y7,Y8,Vq,Vr,Vs,V4,V5,Ui,Uj,Uk,Ul,Um,U2,Kc,Kd]
       tactic =>
        try simp only [Uy] at *
        try simp only [nc2] at *
        try simp (maxSteps := 4000000) only [hlb,hel0,hm,h4,Ut,Uw,Uv,Uu,szV,U1]
        repeat' (first | with_reducible assumption | with_reducible refine And.intro ?_ ?_ | intro _ | omega | (rw [Ux]; omega))
        all_goals first
          | omega
          | rfl))
end Go.Am.Ty
set_option linter.unusedSimpArgs false
set_option linter.unusedVariables false
set_option maxHeartbeats 1000000
namespace Go.Am.Ty
open Go.Proofs Go.Rose Go.Rose.Rose
open Enc (enc dec)
theorem endW_eatN : ∀ {l : List VNode} {o m : Nat} (k : Nat), eatN arV l o = some m → 1 ≤ o → l.length ≤ 1000000000 → o ≤ 1000000001 → endW l o k = k + m
  | [], 0, m, k, h, h1, _, _ => by omega
  | [], o + 1, m, k, h, _, _, _ => by simp [eatN] at h
  | n :: r, 0, m, k, h, h1, _, _ => by omega
  | n :: r, o + 1, m, k, h, _, hl, ho => by
    rw [eatN, Option.map_eq_some_iff] at h
    obtain ⟨m', h1, rfl⟩ := h
    have hle := eatN_le h1
    rw [List.length_cons] at hl
    have e : wrp .i64 (wrp .i64 (((o + 1 : Nat) : Int) - 1) + (arV n : Int)) = ((o + arV n : Nat) : Int) := by
      rw [show wrp .i64 (((o + 1 : Nat) : Int) - 1) = (o : Int) by rw [wrp_in (by omega)]; omega, wrp_in (by omega)]
      omega
    rw [endW, e]
    by_cases hz : o + arV n = 0
    · rw [hz] at h1
      have := eatN_zero h1
      subst this
      rw [hz]
      rfl
    · rw [show ((((o + arV n : Nat) : Int)) == 0) = false by rw [beq_eq_false_iff_ne]; omega, cond_false, endW_eatN (k + 1) h1 (by omega) (by omega) (by omega)]
      omega
theorem endW_at {v : List VNode} {i : Nat} {x : Rose VNode} (h : At arV v i x) (hl : v.length ≤ 1000000000) : endW (v.drop i) 1 i = i + (nds x).length :=
  endW_eatN (o := 1) i (Ic h) (Nat.le_refl _) (by rw [List.length_drop]; omega) (by omega)
theorem cutV {v : List VNode} {i : Nat} {x : Rose VNode} (h : At arV v i x) : (v.take (i + (nds x).length)).drop i = nds x := by
  obtain ⟨_, r, h2⟩ := h
  rw [List.drop_take, Nat.add_sub_cancel_left, h2, List.take_left']
  rfl
theorem kidsG_ats {v : List VNode} (hl : v.length ≤ 1000000000) : ∀ {ks : List (Rose VNode)} {f i : Nat}, Ats arV v i ks → v.length < f + i → kidsG v f ks.length i = sls ks
  | [], f, i, _, _ => by cases f <;> rfl
  | x :: xs, 0, i, h, hf => by
    have := h.head.1.lt
    omega
  | x :: xs, f + 1, i, h, hf => by
    obtain ⟨h1, h2⟩ := h.head
    have hp := K8 x
    rw [List.length_cons, kidsG, if_pos h1.lt, endW_at h1 hl, cutV h1, kidsG_ats hl h2 (by omega)]
    rfl
theorem kids19_tree {v : List VNode} {x : Rose VNode} (h : OneV v x) (hl : v.length ≤ 1000000000) : kids19 v = sls x.kids := by
  obtain ⟨h1, h2⟩ := h.at.kids
  unfold kids19
  rw [h.at.root v0, ← h2]
  exact kidsG_ats hl h1 (by omega)
theorem end_tree {v : List VNode} {x : Rose VNode} (h : OneV v x) (hl : v.length ≤ 1000000000) : endW v 1 0 = v.length := by
  have := endW_at h.at hl
  rw [List.drop_zero, Nat.zero_add] at this
  rw [this, h.1]
def kidB (p x : VNode) (last : List UInt8) (first : Bool) : Bool := cond (p.kind == 4) (isWord x.label && (first || Op.bytesLess last x.label)) (x.label == [])
def wrapK (p x : VNode) : Bool := !(p.kind == 7) || (x.kind == 6 || x.kind == 7)
def moreV (p : VNode) : Nat := cond (p.kind == 7) 0 1
def slG (l : List (Sl VNode)) (i : Nat) : List VNode := (l.getD i ⟨[]⟩).l
def rootV (v : List VNode) : VNode := v.getD 0 v0
noncomputable def treeB : Nat → List VNode → Nat → Bool
  | 0, _, _ => false
  | f + 1, v, d => !(v.length == 0) && (decide (d ≤ 100) && (usesB (rootV v) && (endW v 1 0 == v.length && ((kids19 v).length == arV (rootV v) && (List.range (kids19 v).length).all fun i =>
      kidB (rootV v) (rootV (slG (kids19 v) i)) (rootV (slG (kids19 v) (i - 1))).label (i == 0) && (wrapK (rootV v) (rootV (slG (kids19 v) i)) && treeB f (slG (kids19 v) i) (d + moreV (rootV v)))))))
def kidR (ks : List (Rose VNode)) (i : Nat) : VNode := rootV (slG (sls ks) i)
theorem slG_sls {ks : List (Rose VNode)} {i : Nat} (h : i < ks.length) : slG (sls ks) i = nds ks[i] := by
  unfold slG sls
  simp [h]
theorem D5 {ks : List (Rose VNode)} {i : Nat} (h : i < ks.length) : kidR ks i = ks[i].root := by
  unfold kidR
  rw [slG_sls h, Gx]
  rfl
noncomputable def okKids (n : VNode) (ks : List (Rose VNode)) : Bool := (List.range ks.length).all fun i => kidB n (kidR ks i) (kidR ks (i - 1)).label (i == 0) && wrapK n (kidR ks i)
mutual
noncomputable def okV : Rose VNode → Nat → Bool
  | mk n ks, d => decide (d ≤ 100) && (usesB n && (okKids n ks && okVs ks (d + moreV n)))
noncomputable def okVs : List (Rose VNode) → Nat → Bool
  | [], _ => true
  | x :: xs, d => okV x d && okVs xs d
end
theorem C6 : ∀ {xs : List (Rose VNode)} {d : Nat}, okVs xs d = true ↔ ∀ i (h : i < xs.length), okV xs[i] d = true
  | [], d => by simp [okVs]
  | x :: xs, d => by
    rw [okVs, Bool.and_eq_true, C6]
    constructor
    · rintro ⟨h1, h2⟩ i hi
      cases i with
      | zero => exact h1
      | succ i => exact h2 i (by simpa using hi)
    · intro h
      exact ⟨h 0 (by simp), fun i hi => h (i + 1) (by simpa using hi)⟩
theorem Gq {p : Nat → Bool} {n : Nat} : (List.range n).all p = true ↔ ∀ j, j < n → p j = true := by
  rw [List.all_eq_true]
  exact ⟨fun h j hj => h j (List.mem_range.2 hj), fun h j hj => h j (List.mem_range.1 hj)⟩
theorem oneV_kid {n : VNode} {ks : List (Rose VNode)} (hw : wf arV (mk n ks)) {i : Nat} (h : i < ks.length) : OneV (nds ks[i]) ks[i] := ⟨rfl, Pt hw.2 _ (List.getElem_mem h)⟩
theorem C7 {ks : List (Rose VNode)} {i : Nat} (h : i < ks.length) : (nds ks[i]).length ≤ (ndss ks).length := by
  induction ks generalizing i with
  | nil => simp at h
  | cons x xs ih =>
    simp only [ndss, List.length_append]
    cases i with
    | zero => simp
    | succ i => have := ih (i := i) (by simpa using h); simp only [List.getElem_cons_succ]; omega
theorem T1 : ∀ {f : Nat} {v : List VNode} {x : Rose VNode} {d : Nat}, OneV v x → v.length < f → v.length ≤ 1000000000 → treeB f v d = okV x d
  | 0, v, x, d, _, h, _ => by omega
  | f + 1, v, mk n ks, d, h, hf, hl => by
    have hk := kids19_tree h hl
    have he := end_tree h hl
    have hr : rootV v = n := h.at.root v0
    have hlen : v.length = 1 + (ndss ks).length := by rw [h.1, K6, List.length_cons]; omega
    have hw := h.2
    simp only [kids] at hk
    rw [treeB, okV, hk, he, hr, Mn]
    rw [show (v.length == 0) = false by rw [beq_eq_false_iff_ne]; omega, hw.1]
    simp only [Bool.not_false, Bool.true_and, beq_self_eq_true]
    congr 2
    rw [Bool.eq_iff_iff, Bool.and_eq_true, Gq, C6, okKids, Gq]
    constructor
    · intro h2
      refine ⟨fun i hi => ?_, fun i hi => ?_⟩
      · have := h2 i (by rw [← hw.1]; exact hi)
        simp only [Bool.and_eq_true] at this ⊢
        exact ⟨this.1, this.2.1⟩
      · have := h2 i (by rw [← hw.1]; exact hi)
        simp only [Bool.and_eq_true] at this
        have h3 := this.2.2
        rw [slG_sls hi, T1 (oneV_kid hw hi) (by have := C7 hi; omega) (by have := C7 hi; omega)] at h3
        exact h3
    · rintro ⟨h2, h3⟩ i hi
      have hi' : i < ks.length := by rw [hw.1]; exact hi
      have := h2 i hi'
      simp only [Bool.and_eq_true] at this ⊢
      refine ⟨this.1, this.2, ?_⟩
      rw [slG_sls hi', T1 (oneV_kid hw hi') (by have := C7 hi'; omega) (by have := C7 hi'; omega)]
      exact h3 i hi'
theorem E3 {v : List VNode} : ∀ {m f i : Nat}, (kidsG v f m i).length = m → (∀ p ∈ kidsG v f m i, ∃ x, OneV p.l x) → ∃ ks : List (Rose VNode), ks.length = m ∧ Ats arV v i ks
  | 0, f, i, _, _ => ⟨[], rfl, trivial, v.drop i, by simp [ndss]⟩
  | m + 1, 0, i, h, _ => by simp [kidsG] at h
  | m + 1, f + 1, i, h, hp => by
    rw [kidsG] at h hp
    split at h
    · next hlt =>
      rw [if_pos hlt] at hp
      obtain ⟨h1, h2⟩ := Tl hlt
      obtain ⟨e, he⟩ : ∃ e, endW (v.drop i) 1 i = e := ⟨_, rfl⟩
      rw [he] at h hp h1 h2
      obtain ⟨x, hx⟩ := hp _ List.mem_cons_self
      obtain ⟨ks, k1, k2⟩ := E3 (by simpa using h) (fun p hp2 => hp p (List.mem_cons_of_mem _ hp2))
      have hlen : (nds x).length = e - i := by rw [← hx.1, List.length_drop, List.length_take]; omega
      obtain ⟨w, r, hr⟩ := k2
      refine ⟨x :: ks, by simp [k1], ⟨hx.2, w⟩, r, ?_⟩
      rw [ndss, List.append_assoc, ← hr, ← hx.1, ← List.drop_append_of_le_length (by rw [List.length_take]; omega), List.take_append_drop]
    · simp at h
theorem Ek : ∀ {f : Nat} {v : List VNode} {d : Nat}, v.length ≤ 1000000000 → treeB f v d = true → ∃ x, OneV v x
  | 0, v, d, _, h => by simp [treeB] at h
  | f + 1, v, d, hl, h => by
    rw [treeB] at h
    simp only [Bool.and_eq_true, beq_iff_eq, Gq, Bool.not_eq_true', beq_eq_false_iff_ne] at h
    obtain ⟨h1, h2, h3, h4, h5, h6⟩ := h
    unfold kids19 rootV at h5
    obtain ⟨ks, k1, k2⟩ := E3 h5 (fun p hp => by
      have hp' : p ∈ kids19 v := hp
      obtain ⟨j, hj, hjp⟩ := List.getElem_of_mem hp'
      have := (h6 j hj).2.2
      have hs : slG (kids19 v) j = p.l := by unfold slG; simp [hj, hjp]
      rw [hs] at this
      have hin := Iy hp'
      exact Ek (by omega) this)
    have hpos : 0 < v.length := by omega
    obtain ⟨w, r, hr⟩ := k2
    have hat : At arV v 0 (mk (v.getD 0 v0) ks) := by
      refine ⟨⟨k1, w⟩, r, ?_⟩
      rw [K6, List.cons_append, ← hr, List.drop_zero]
      cases v with
      | nil => simp at hpos
      | cons a b => rfl
    have he := endW_at hat hl
    rw [List.drop_zero, Nat.zero_add, h4] at he
    refine ⟨_, ?_, hat.1⟩
    obtain ⟨_, r2, hr2⟩ := hat
    rw [List.drop_zero] at hr2
    have := congrArg List.length hr2
    rw [List.length_append] at this
    have hn : r2 = [] := List.eq_nil_of_length_eq_zero (by omega)
    rw [hn, List.append_nil] at hr2
    exact hr2
noncomputable def right19 (v : List VNode) : Bool := !(v.length == 0) && (decide (v.length ≤ 10000) && ((rootV v).label == [] && treeB (v.length + 1) v 1))
structure VT (x : Rose VNode) : Prop where
  wf : wf arV x
  len : (nds x).length ≤ 10000
  name : x.root.label = []
  ok : okV x 1 = true
theorem Bn {v : List VNode} : right19 v = true ↔ ∃ x, v = nds x ∧ VT x := by
  constructor
  · intro h
    unfold right19 at h
    simp only [Bool.and_eq_true, decide_eq_true_eq, beq_iff_eq] at h
    obtain ⟨h1, h2, h3, h4⟩ := h
    obtain ⟨x, hx⟩ := Ek (by omega) h4
    rw [T1 hx (by omega) (by omega)] at h4
    exact ⟨x, hx.1, hx.2, by rw [← hx.1]; exact h2, by rw [← hx.at.root v0]; exact h3, h4⟩
  · rintro ⟨x, rfl, hx⟩
    have h1 := K8 x
    have h2 := hx.len
    have ho : OneV (nds x) x := ⟨rfl, hx.wf⟩
    unfold right19
    rw [T1 ho (by omega) (by omega), hx.ok]
    have h3 : (rootV (nds x)).label = [] := by rw [show rootV (nds x) = x.root from ho.at.root v0]; exact hx.name
    rw [h3, show ((nds x).length == 0) = false by rw [beq_eq_false_iff_ne]; omega]
    simp [h2]
end Go.Am.Ty
set_option linter.unusedSimpArgs false
set_option linter.unusedVariables false
set_option maxHeartbeats 2000000
namespace Go.Am.Ty
open Go.Proofs Go.Rose Go.Rose.Rose
open Enc (enc dec)
noncomputable def con_tree19 (n : Nat) : Con := con2 (fun (v : Sl VNode) (d : Int) => v.l.length ≤ 1000000000 ∧ (∀ m ∈ v.l, GoodN m) ∧ 0 ≤ d ∧ d ≤ 1000 ∧ v.l.length < n) (fun v d => treeB n v.l d.toNat)
theorem con_tree19_zero : ∀ c, ¬ (con_tree19 0).pre c := by
  intro c h
  unfold con_tree19 at h
  obtain ⟨_, _, _, _, _, _, _, h⟩ := Kj h
  omega
theorem M3 {α : Type} {l : List α} {i : Nat} {d : α} (h : i < l.length) : l.getD i d ∈ l := by simp [h]
noncomputable def ctx_tree19 (n : Nat) : Ctx := ⟨tab, lkC [(86, con_uses19), (87, con_End19), (70, con_Kids19), (88, con_many19), (79, con_IsWord1), (56, (con_tree19 n))], 60, lkB [], [], false⟩
theorem H1 (n : Nat) : (ctx_tree19 n).τ = tab := rfl
theorem Mr (n : Nat) : (ctx_tree19 n).Γ = lkC [(86, con_uses19), (87, con_End19), (70, con_Kids19), (88, con_many19), (79, con_IsWord1), (56, (con_tree19 n))] := rfl
theorem H2 (n : Nat) : (ctx_tree19 n).dp = 60 := rfl
theorem Ms (n : Nat) : (ctx_tree19 n).Δ = lkB [] := rfl
theorem As (n : Nat) : (ctx_tree19 n).wr = false := rfl
set_option maxRecDepth 100000 in
theorem step_tree19 (n : Nat) (ih : Good Try.prog (56, con_tree19 n)) : Good Try.prog (56, (con_tree19 (n + 1))) := by
  refine ⟨U0 Try.func56 (by kernel_rfl) rfl, ?_⟩
  have K : CtxOk Try.prog (ctx_tree19 n) := U4 Ki Ka (by
    intro p hp
    simp only [List.mem_cons, List.not_mem_nil, or_false] at hp
    rcases hp with rfl | rfl | rfl | rfl | rfl | rfl
    · exact good_uses19
    · exact good_End19
    · exact good_Kids19
    · exact Da
    · exact R9
    · exact ih) (by simp)
  obtain ⟨c, hc⟩ : ∃ c, Try.f56.body = some c := ⟨_, rfl⟩
  refine U5 K Try.func56 hc [.tmp 4] rfl 102 rfl (fun cvs hpre => ?_)
  change (con_tree19 (n + 1)).pre cvs at hpre
  unfold con_tree19 at hpre
  obtain ⟨⟨v⟩, d, rfl, hv, hG, hd0, hd1, hn⟩ := Kj hpre
  simp only at hv hG hd0 hd1 hn
  obtain ⟨d, rfl⟩ : ∃ m : Nat, d = m := ⟨d.toNat, by omega⟩
  obtain ⟨r, hr⟩ : ∃ r, treeB (n + 1) v d = r := ⟨_, rfl⟩
  have hr2 := hr
  rw [treeB] at hr2
  clear hpre
  simp only [Try.f56, Option.some.injEq] at hc
  subst hc
  refine Kl 6 (of_decide_eq_true (by kernel_rfl)) ?_
  by_cases h0 : v.length = 0
  · have hb : ((v.length : Int) == 0) = true := by rw [beq_iff_eq]; omega
    have hrf : r = false := by rw [← hr2, h0]; rfl
    (sym =>
     simp [hb,hr,hrf,Int.toNat_natCast,Ut,Uw,Uv,Uu,szV,H1,H2,con_tree19.eq_def,Zb,Zc,Zd,Ze,Zf,Zo,Zt,Z6,Qb,Qd,Qn,Qo,Qp,Qq,Qs,Q1,Q2,Q4,Q8,Jk,Jw,J2,J3,J4,J5,J7,J8,Xa,Xb,Xe,Xm,Xn,Xu,X2,X4,X5,X9,Wa,Wd,Wf,Wg,Wh,Wr,Ws,Wt,Wu,Ww,Wy,W4,W5,W6,W7,W8,W9,Yc,Yg,Yv,Yw,Yy,Yz,Y5,Y6,Y9,Va,Vb,Vc,Vd,Ve,Vf,Vh,Vr,Vs,V4,V5,Uh,Uj,Uk,Um,U2,Kc,Kd])
  have hb : ((v.length : Int) == 0) = false := by rw [beq_eq_false_iff_ne]; omega
  have hpos : 0 < v.length := by omega
  rw [show (v.length == 0) = false by rw [beq_eq_false_iff_ne]; exact h0, Bool.not_false, Bool.true_and] at hr2
  rcases Mf 100 d with ⟨h1, h1b⟩ | ⟨h1, h1b⟩
  · have hrf : r = false := by rw [← hr2, show decide (d ≤ 100) = false by rw [decide_eq_false_iff_not]; omega]; rfl
    (sym =>
     simp [hb,h1b,hr,hrf,Int.toNat_natCast,Ut,Uw,Uv,Uu,szV,H1,H2,con_tree19.eq_def,Zb,Zc,Zd,Ze,Zf,Zo,Zt,Z6,Qb,Qd,Qn,Qo,Qp,Qq,Qs,Q1,Q2,Q4,Q8,Jk,Jw,J2,J3,J4,J5,J7,J8,Xa,Xb,Xe,Xm,Xn,Xu,X2,X4,X5,X9,Wa,Wd,Wf,Wg,Wh,Wr,Ws,Wt,Wu,Ww,Wy,W4,W5,W6,W7,W8,W9,Yc,Yg,Yv,Yw,Yy,Yz,Y5,Y6,Y9,Va,Vb,Vc,Vd,Ve,Vf,Vh,Vr,Vs,V4,V5,Uh,Ui,Uj,Uk,Um,U2,Kc,Kd])
  rw [show decide (d ≤ 100) = true by rw [decide_eq_true_eq]; omega, Bool.true_and] at hr2
  have hel0 := U8 v0 hpos
  have hGp := hG _ (M3 (d := v0) hpos)
  obtain ⟨p, hp⟩ : ∃ p, v.getD 0 v0 = p := ⟨_, rfl⟩
  have hrp : rootV v = p := hp
  rw [hp] at hel0 hGp
  rw [hrp] at hr2
  cases b2 : usesB p with
  | false =>
    have hrf : r = false := by rw [← hr2, b2]; rfl
    (sym =>
     simp [hb,h1b,hel0,b2,hr,hrf,Int.toNat_natCast,Ut,Uw,Uv,Uu,szV,H1,Mr,H2,Ms,con_End19.eq_def,con_IsWord1.eq_def,con_Kids19.eq_def,con_many19.eq_def,con_tree19.eq_def,con_uses19.eq_def,Zb,Zc,Zd,Ze,Zf,Zo,Zp,Zq,Zt,Zv,Zy,Z6,Z9,Qb,Qc,Qd,Qe,Qf,Qn,Qo,Qp,Qq,Qs,Q1,Q2,Q4,Q8,Jf,Jj,Jk,Jl,Jw,J2,J3,J4,J5,J7,J8,Xa,Xb,Xe,Xm,Xn,Xo,Xt,Xu,X2,X4,X5,X9,Wa,Wd,Wf,Wg,Wh,Wr,Ws,Wt,Wu,Wv,Ww,Wx,Wy,W4,W5,W6,W7,W8,W9,Yc,Yd,Yg,Yh,Yk,Yv,Yw,Yy,Yz,Y5,Y6,Y9,Va,Vb,Vc,Vd,Ve,Vf,Vh,Vo,Vq,Vr,Vs,V4,V5,Uh,Ui,Uj,Uk,Um,U2,Ku,Kc,Kd]
     tactic =>
      try simp only [Uy] at *
      try simp only [nc2] at *
      try simp (maxSteps := 4000000) only [hb,h1b,hel0,b2,hr,hrf,Int.toNat_natCast,Ut,Uw,Uv,Uu,szV,U1]
      repeat' (first | with_reducible assumption | with_reducible refine And.intro ?_ ?_ | intro _ | omega | (rw [Ux]; omega))
      all_goals exact hGp)
  | true =>
  rw [b2, Bool.true_and] at hr2
  obtain ⟨e, he⟩ : ∃ e, endW v 1 0 = e := ⟨_, rfl⟩
  rw [he] at hr2
  by_cases h3 : e = v.length
  case neg =>
    have b3 : ((e : Int) != (v.length : Int)) = true := by rw [bne_iff_ne]; omega
    have hrf : r = false := by rw [← hr2, show (e == v.length) = false by rw [beq_eq_false_iff_ne]; exact h3]; rfl
    (sym =>
     simp [hb,h1b,hel0,b2,b3,he,hr,hrf,Int.toNat_natCast,Ut,Uw,Uv,Uu,szV,H1,Mr,H2,Ms,con_End19.eq_def,con_IsWord1.eq_def,con_Kids19.eq_def,con_many19.eq_def,con_tree19.eq_def,con_uses19.eq_def,Zb,Zc,Zd,Ze,Zf,Zo,Zp,Zq,Zt,Zv,Zy,Z6,Z9,Qb,Qc,Qd,Qe,Qf,Qn,Qo,Qp,Qq,Qs,Q1,Q2,Q4,Q8,Jf,Jj,Jk,Jl,Jw,J2,J3,J4,J5,J7,J8,Xa,Xb,Xe,Xm,Xn,Xo,Xt,Xu,X2,X4,X5,X9,Wa,Wd,Wf,Wg,Wh,Wr,Ws,Wt,Wu,Wv,Ww,Wx,Wy,W4,W5,W6,W7,W8,W9,Yc,Yd,Yg,Yh,Yk,Yv,Yw,Yy,Yz,Y5,Y6,Y9,Va,Vb,Vc,Vd,Ve,Vf,Vh,Vk,Vm,Vn,Vq,Vr,Vs,V4,V5,Uh,Ui,Uj,Uk,Ul,Um,U2,Ku,Kc,Kd]
     tactic =>
      try simp only [Uy] at *
      try simp only [nc2] at *
      try simp (maxSteps := 4000000) only [hb,h1b,hel0,b2,b3,he,hr,hrf,Int.toNat_natCast,Ut,Uw,Uv,Uu,szV,U1]
      repeat' (first | with_reducible assumption | with_reducible refine And.intro ?_ ?_ | intro _ | omega | (rw [Ux]; omega))
      all_goals first
        | exact hGp
        | omega)
  subst h3
  have b3 : ((v.length : Int) != (v.length : Int)) = false := by rw [bne_self_eq_false]
  rw [beq_self_eq_true, Bool.true_and] at hr2
  obtain ⟨L, hL⟩ : ∃ L, kids19 v = L := ⟨_, rfl⟩
  rw [hL] at hr2
  have hin : ∀ q ∈ L, q.l ≠ [] ∧ q.l.length < v.length ∧ ∀ m ∈ q.l, m ∈ v := fun q hq => Iy (by rw [hL]; exact hq)
  by_cases h4 : L.length = arV p
  case neg =>
    have b4 : ((L.length : Int) != (arV p : Int)) = true := by rw [bne_iff_ne]; omega
    have hrf : r = false := by rw [← hr2, show (L.length == arV p) = false by rw [beq_eq_false_iff_ne]; exact h4]; rfl
    (sym =>
     simp [hb,h1b,hel0,b2,b3,b4,he,hL,hr,hrf,Int.toNat_natCast,Ut,Uw,Uv,Uu,szV,H1,Mr,H2,Ms,con_End19.eq_def,con_IsWord1.eq_def,con_Kids19.eq_def,con_many19.eq_def,con_tree19.eq_def,con_uses19.eq_def,Zb,Zc,Zd,Ze,Zf,Zo,Zp,Zq,Zt,Zv,Zy,Z6,Z9,Qb,Qc,Qd,Qe,Qf,Qn,Qo,Qp,Qq,Qs,Q1,Q2,Q4,Q8,Jf,Jj,Jk,Jl,Jw,J2,J3,J4,J5,J7,J8,Xa,Xb,Xe,Xm,Xn,Xo,Xt,Xu,X1,X2,X4,X5,X9,Wa,Wd,Wf,Wg,Wh,Wr,Ws,Wt,Wu,Wv,Ww,Wx,Wy,W4,W5,W6,W7,W8,W9,Yc,Yd,Yg,Yh,Yk,Yv,Yw,Yy,Yz,Y4,Y5,Y6,Y9,Va,Vb,Vc,Vd,Ve,Vf,Vh,Vk,Vm,Vn,Vq,Vr,Vs,V4,V5,Uh,Ui,Uj,Uk,Ul,Um,U2,Ku,Kc,Kd,He]
     tactic =>
      try simp only [Uy] at *
      try simp only [nc2] at *
      try simp (maxSteps := 4000000) only [hb,h1b,hel0,b2,b3,b4,he,hL,hr,hrf,Int.toNat_natCast,Ut,Uw,Uv,Uu,szV,U1]
      repeat' (first | with_reducible assumption | with_reducible refine And.intro ?_ ?_ | intro _ | omega | (rw [Ux]; omega))
      all_goals first
        | exact hGp
        | omega)
  have b4 : ((L.length : Int) != (arV p : Int)) = false := by rw [h4, bne_self_eq_false]
  rw [show (L.length == arV p) = true by rw [beq_iff_eq]; exact h4, Bool.true_and] at hr2
  have hLl : L.length ≤ v.length := by
    have := (kidsG_len (v := v) (f := v.length + 1) (m := arV (v.getD 0 v0)) (i := 1)).2
    rw [← hL]
    unfold kids19
    omega
  obtain ⟨ok, hok⟩ : ∃ ok : Nat → Bool, ok = fun i => kidB p (rootV (slG L i)) (rootV (slG L (i - 1))).label (i == 0) && (wrapK p (rootV (slG L i)) && treeB n (slG L i) (d + moreV p)) := ⟨_, rfl⟩
  have hr3 : (List.range L.length).all ok = r := by rw [hok]; exact hr2
  have hfail : ∀ k, k < L.length → ok k = false → false = r := fun k hk h => by rw [← hr3, S9 k hk h]
  have hall : (∀ k, k < L.length → ok k = true) → r = true := fun h => by rw [← hr3]; exact B5 h
  clear hr2 hr3
  (sym =>
   simp [hb,h1b,hel0,b2,b3,b4,he,hL,hr,Int.toNat_natCast,Ut,Uw,Uv,Uu,szV,H1,Mr,H2,Ms,con_End19.eq_def,con_IsWord1.eq_def,con_Kids19.eq_def,con_many19.eq_def,con_tree19.eq_def,con_uses19.eq_def,Zb,Zc,Zd,Ze,Zf,Zo,Zp,Zq,Zt,Zv,Zy,Z6,Z9,Qb,Qc,Qd,Qe,Qf,Qq,Qs,Q1,Q2,Q4,Q8,Jf,Jj,Jl,Jw,J2,J3,J4,J5,J7,J8,Xa,Xb,Xe,Xm,Xn,Xo,Xt,Xu,X1,X2,X4,X5,X6,X7,Wa,Wd,Wf,Wg,Wh,Wr,Ws,Wt,Wu,Wv,Ww,Wx,Wy,W4,W5,W6,W7,W8,W9,Yc,Yd,Yg,Yh,Yk,Yv,Yw,Yy,Yz,Y4,Y5,Y6,Y9,Va,Vb,Vc,Vd,Ve,Vf,Vh,Vk,Vm,Vn,Vq,Vr,Vs,V4,V5,Ui,Uj,Uk,Ul,Um,U2,Ku,Kc,Kd,He]
   tactic =>
    try simp only [Uy] at *
    try simp only [nc2] at *
    try simp (maxSteps := 4000000) only [hb,h1b,hel0,b2,b3,b4,he,hL,hr,Int.toNat_natCast,Ut,Uw,Uv,Uu,szV,U1]
    repeat' (first | with_reducible assumption | with_reducible refine And.intro ?_ ?_ | intro _ | omega | (rw [Ux]; omega))
    refine Ke [4, 7, 8, 39, 40, 41, 42, 43, 44, 45, 46, 47, 48, 49, 50, 51, 52, 53, 54, 55, 56, 57, 58, 59, 60, 61, 62, 63, 64, 65, 66, 67, 68, 69, 70, 71, 72, 73, 74, 75, 76, 77, 78, 79, 80, 81, 82, 83, 84, 85, 86, 87, 88, 89, 90, 91, 92, 93, 94, 95, 96, 97, 98, 99, 100, 101] (fun k : Nat => [(6, .d (.int .i64 k))]) (fun k : Nat => []) (fun k : Nat => k ≤ L.length ∧ ∀ j, j < k → ok j = true) (fun k : Nat => L.length - k) 0 ?_ ?_ ?_
    · simp
    · ((try simp only [Uz, killAll, setSlots, updAll, upd, U9, setCs, putC, Nat.reduceDiv, Nat.reduceMod, Nat.reduceMul, Nat.reduceAdd, Nat.reduceEqDiff, List.set_cons_zero, List.set_cons_succ, if_true, if_false, reduceIte]); (first | refine Wk.of_fl ?_ | skip); simp only [Wk, wkK, wkCs, wkT, wk1, AV.kept, keptAll, wkO, lk, wkObj, and_true, true_and, and_self, Nat.reduceEqDiff, Nat.reduceLeDiff, if_true, if_false, reduceIte, reduceCtorEq, Option.isSome, false_implies]; try simp [Wk, wkK, wkT, wk1, AV.kept, keptAll, wkO, lk, wkObj])
    rintro k ⟨hk, hno⟩
    rcases Kf k L.length with ⟨hlt, hlb⟩ | ⟨hlt, hlb⟩
    · have q1 := U8 (⟨[]⟩ : Sl VNode) hlt
      obtain ⟨g1, g2, g3⟩ := hin _ (M3 (d := ⟨[]⟩) hlt)
      obtain ⟨⟨q⟩, hq⟩ : ∃ q, L.getD k ⟨[]⟩ = q := ⟨_, rfl⟩
      have hsl : slG L k = q := by unfold slG; rw [hq]
      rw [hq] at q1 g1 g2 g3
      simp only at g1 g2 g3
      have hqp : 0 < q.length := List.length_pos_iff.2 g1
      have q2 := U8 v0 hqp
      have hGx := hG _ (g3 _ (M3 (d := v0) hqp))
      obtain ⟨x, hx⟩ : ∃ x, q.getD 0 v0 = x := ⟨_, rfl⟩
      rw [hx] at q2 hGx
      have hrx : rootV (slG L k) = x := by rw [hsl]; exact hx
      have hGq : ∀ m ∈ q, GoodN m := fun m hm => hG m (g3 m hm)
      have hlab : x.label.length ≤ 9223372036854775807 := hGx.2.2.2
      have hm1 : (d : Int) + 1 = ((d + 1 : Nat) : Int) := by omega
      have hm0 : (d : Int) + 0 = ((d + 0 : Nat) : Int) := by omega
      have hstep : ok k = true → ∀ j, j < k + 1 → ok j = true := by
        intro h j hj
        by_cases hjk : j = k
        · subst hjk; exact h
        · exact hno j (by omega)
      have hokk : ok k = (kidB p x (rootV (slG L (k - 1))).label (k == 0) && (wrapK p x && treeB n q (d + moreV p))) := by rw [hok]; simp only; rw [hrx, hsl]
      have hF := hfail k hlt
      rw [hokk] at hstep hF
      clear hokk hfail hall hok hno
      rcases Mf 0 k with ⟨hk0, hk0b⟩ | ⟨hk0, hk0b⟩
      · have hk1 : (k : Int) - 1 = ((k - 1 : Nat) : Int) := by omega
        have q3 := U8 (⟨[]⟩ : Sl VNode) (show k - 1 < L.length by omega)
        obtain ⟨f1, f2, f3⟩ := hin _ (M3 (d := ⟨[]⟩) (show k - 1 < L.length by omega))
        obtain ⟨⟨u⟩, hu⟩ : ∃ u, L.getD (k - 1) ⟨[]⟩ = u := ⟨_, rfl⟩
        have hsu : slG L (k - 1) = u := by unfold slG; rw [hu]
        rw [hu] at q3 f1
        simp only at f1
        have hup : 0 < u.length := List.length_pos_iff.2 f1
        have q4 := U8 v0 hup
        obtain ⟨y, hy⟩ : ∃ y, u.getD 0 v0 = y := ⟨_, rfl⟩
        have hry : rootV (slG L (k - 1)) = y := by rw [hsu]; exact hy
        rw [hy] at q4
        rw [hry, show (k == 0) = false by rw [beq_eq_false_iff_ne]; omega] at hstep hF
        unfold kidB wrapK moreV at hstep hF
        (sym =>
         simp [hlb,q1,q2,q3,q4,hk0b,hk1,hm0,hm1,hel0,Ut,Int.toNat_natCast,Ut,Uw,Uv,Uu,szV,H1,Mr,H2,Ms,As,con_End19.eq_def,con_IsWord1.eq_def,con_Kids19.eq_def,con_many19.eq_def,con_tree19.eq_def,con_uses19.eq_def,Zb,Zc,Zd,Ze,Zf,Zg,Zh,Zi,Zj,Zk,Zl,Zm,Zo,Zp,Zq,Zs,Zt,Zu,Zv,Zw,Zx,Zy,Z6,Z9,Qb,Qc,Qd,Qe,Qf,Qk,Ql,Qm,Qn,Qo,Qp,Qq,Qr,Qs,Q1,Q2,Q4,Q5,Q6,Q8,Jf,Jh,Ji,Jj,Jk,Jl,Jx,Jy,Jz,J4,J5,J6,J7,J8,J9,Xa,Xb,Xe,Xo,Xq,Xr,Xt,Xu,X1,X2,X3,X4,X5,X6,X9,Wa,Wb,Wc,Wd,We,Wf,Wg,Wh,Wj,Wn,Wo,Wp,Wq,Wr,Ws,Wt,Wu,Wv,Wx,Wy,Wz,W0,W3,W4,W5,W6,W7,W8,W9,Yb,Yc,Yd,Ye,Yg,Yh,Yi,Yk,Yo,Yr,Ys,Yu,Yw,Yy,Yz,Y1,Y4,Y5,Y6,Y7,Y8,Va,Vc,Vd,Ve,Vf,Vg,Vh,Vk,Vl,Vm,Vq,Vr,Vs,V4,V5,V6,V8,Uh,Ui,Uj,Uk,Ul,Um,Un,U2,Ku,Gr,Kc,Kd,He]
         tactic =>
          try simp only [Uy] at *
          try simp only [nc2] at *
          try simp (maxSteps := 4000000) only [hlb,q1,q2,q3,q4,hk0b,hk1,hm0,hm1,hel0,Ut,Int.toNat_natCast,Ut,Uw,Uv,Uu,szV,U1]
          repeat' (first | with_reducible assumption | with_reducible refine And.intro ?_ ?_ | intro _ | omega | (rw [Ux]; omega))
          all_goals first
            | (with_reducible refine Kh ?_; kernel_rfl)
            | omega
            | exact hGq
            | exact hlab
            | (refine hF ?_; clear hF hstep hG hin ih K hGq hGx hGp g3 q1 q2 hq hsl hrx hel0 hp hrp hr he hL; simp_all [Bool.cond_eq_ite]; done)
            | (refine ⟨k + 1, by ((try simp only [Uz, killAll, setSlots, updAll, upd, U9, setCs, putC, Nat.reduceDiv, Nat.reduceMod, Nat.reduceMul, Nat.reduceAdd, Nat.reduceEqDiff, List.set_cons_zero, List.set_cons_succ, if_true, if_false, reduceIte]); (first | refine Wk.of_fl ?_ | skip); simp only [Wk, wkK, wkCs, wkT, wk1, AV.kept, keptAll, wkO, lk, wkObj, and_true, true_and, and_self, Nat.reduceEqDiff, Nat.reduceLeDiff, if_true, if_false, reduceIte, reduceCtorEq, Option.isSome, false_implies]; try simp [Wk, wkK, wkT, wk1, AV.kept, keptAll, wkO, lk, wkObj]), by omega, hstep ?_, by omega⟩; clear hF hstep hG hin ih K hGq hGx hGp g3 q1 q2 hq hsl hrx hel0 hp hrp hr he hL; simp_all [Bool.cond_eq_ite]; done)
            | skip)
      · rw [show (k == 0) = true by rw [beq_iff_eq]; omega] at hstep hF
        unfold kidB wrapK moreV at hstep hF
        (sym =>
         simp [hlb,q1,q2,hk0b,hm0,hm1,hel0,Ut,Int.toNat_natCast,Ut,Uw,Uv,Uu,szV,H1,Mr,H2,Ms,As,con_End19.eq_def,con_IsWord1.eq_def,con_Kids19.eq_def,con_many19.eq_def,con_tree19.eq_def,con_uses19.eq_def,Zb,Zc,Zd,Ze,Zf,Zg,Zh,Zi,Zj,Zk,Zl,Zm,Zo,Zp,Zq,Zs,Zt,Zu,Zv,Zw,Zx,Zy,Z6,Z9,Qb,Qc,Qd,Qe,Qf,Qk,Ql,Qm,Qn,Qo,Qp,Qq,Qr,Qs,Q1,Q2,Q4,Q5,Q6,Q8,Jf,Jh,Ji,Jj,Jk,Jl,Jx,Jy,Jz,J4,J5,J6,J7,J8,J9,Xa,Xb,Xe,Xo,Xq,Xr,Xt,Xu,X1,X2,X3,X4,X5,X6,X9,Wa,Wb,Wc,Wd,We,Wf,Wg,Wh,Wj,Wn,Wo,Wp,Wq,Wr,Ws,Wt,Wu,Wv,Wx,Wy,Wz,W0,W3,W4,W5,W6,W7,W8,W9,Yb,Yc,Yd,Ye,Yg,Yh,Yi,Yk,Yo,Yr,Yu,Yw,Yy,Yz,Y1,Y4,Y5,Y6,Y7,Y8,Va,Vc,Vd,Ve,Vf,Vg,Vh,Vk,Vl,Vm,Vq,Vr,Vs,V4,V5,V6,V8,Uh,Ui,Uj,Uk,Ul,Um,Un,U2,Ku,Gr,Kc,Kd,He]
         tactic =>
          try simp only [Uy] at *
          try simp only [nc2] at *
          try simp (maxSteps := 4000000) only [hlb,q1,q2,hk0b,hm0,hm1,hel0,Ut,Int.toNat_natCast,Ut,Uw,Uv,Uu,szV,U1]
          repeat' (first | with_reducible assumption | with_reducible refine And.intro ?_ ?_ | intro _ | omega | (rw [Ux]; omega))
          all_goals first
            | (with_reducible refine Kh ?_; kernel_rfl)
            | omega
            | exact hGq
            | exact hlab
            | (refine hF ?_; clear hF hstep hG hin ih K hGq hGx hGp g3 q1 q2 hq hsl hrx hel0 hp hrp hr he hL; simp_all [Bool.cond_eq_ite]; done)
            | (refine ⟨k + 1, by ((try simp only [Uz, killAll, setSlots, updAll, upd, U9, setCs, putC, Nat.reduceDiv, Nat.reduceMod, Nat.reduceMul, Nat.reduceAdd, Nat.reduceEqDiff, List.set_cons_zero, List.set_cons_succ, if_true, if_false, reduceIte]); (first | refine Wk.of_fl ?_ | skip); simp only [Wk, wkK, wkCs, wkT, wk1, AV.kept, keptAll, wkO, lk, wkObj, and_true, true_and, and_self, Nat.reduceEqDiff, Nat.reduceLeDiff, if_true, if_false, reduceIte, reduceCtorEq, Option.isSome, false_implies]; try simp [Wk, wkK, wkT, wk1, AV.kept, keptAll, wkO, lk, wkObj]), by omega, hstep ?_, by omega⟩; clear hF hstep hG hin ih K hGq hGx hGp g3 q1 q2 hq hsl hrx hel0 hp hrp hr he hL; simp_all [Bool.cond_eq_ite]; done)
            | skip)
    · have hrt := hall fun j hj => hno j (by omega)
      (sym =>
       simp [hlb,hr,hrt,Int.toNat_natCast,Ut,Uw,Uv,Uu,szV,H1,H2,Zb,Zc,Ze,Zf,Zg,Zo,Z6,Qb,Qd,Qn,Qo,Qp,Qq,Qs,Q1,Q2,Q4,Q8,Jk,Jx,Jy,Jz,J4,J5,J7,J8,J9,Xa,Xb,Xe,X2,X4,X5,X8,X9,Wa,Wd,Wf,Wg,Wh,Wr,Ws,Wt,Wu,W8,W9,Yb,Yc,Yg,Yy,Yz,Y4,Y5,Y6,Y7,Y8,Vr,Vs,V5,Ui,Uj,Uk,Ul,Um,U2,Kc,He]))
theorem Ry : ∀ n, Good Try.prog (56, con_tree19 n)
  | 0 => Bd (U0 Try.func56 (by kernel_rfl) rfl) con_tree19_zero
  | n + 1 => step_tree19 n (Ry n)
noncomputable def con_tree19A : Con := con_tree19 1000000001
theorem good_tree19A : Good Try.prog (56, con_tree19A) := Ry _
end Go.Am.Ty
set_option linter.unusedSimpArgs false
set_option linter.unusedVariables false
set_option maxHeartbeats 2000000
namespace Go.Am.Ty
open Go.Proofs Go.Rose Go.Rose.Rose
open Enc (enc dec)
theorem Ez : con_tree19A = con2 (fun (v : Sl VNode) (d : Int) => v.l.length ≤ 1000000000 ∧ (∀ m ∈ v.l, GoodN m) ∧ 0 ≤ d ∧ d ≤ 1000 ∧ v.l.length < 1000000001) (fun v d => treeB 1000000001 v.l d.toNat) := rfl
theorem okKids_congr {f g : Nat} : ∀ {v : List VNode} {d : Nat}, v.length < f → v.length < g → treeB f v d = treeB g v d := by
  induction f generalizing g with
  | zero => intro v d h; omega
  | succ f ih =>
    intro v d h1 h2
    cases g with
    | zero => omega
    | succ g =>
      rw [treeB, treeB]
      congr 5
      rw [Bool.eq_iff_iff, Gq, Gq]
      refine forall_congr' fun j => imp_congr_right fun hj => ?_
      have hin := Iy (M3 (d := (⟨[]⟩ : Sl VNode)) hj)
      have : (slG (kids19 v) j).length < v.length := hin.2.1
      rw [ih (g := g) (by omega) (by omega)]
noncomputable def con_Right19 : Con := con1 (fun (v : Sl VNode) => v.l.length ≤ 1000000000 ∧ ∀ m ∈ v.l, GoodN m) (fun v => right19 v.l)
noncomputable def ctx_Right19 : Ctx := ⟨tab, lkC [(56, con_tree19A)], 60, lkB [], [], false⟩
theorem Bl : ctx_Right19.τ = tab := rfl
theorem ctx_Right19_c : ctx_Right19.Γ = lkC [(56, con_tree19A)] := rfl
theorem Bm : ctx_Right19.dp = 60 := rfl
theorem ctx_Right19_b : ctx_Right19.Δ = lkB [] := rfl
set_option maxRecDepth 100000 in
theorem Ce : Good Try.prog (29, con_Right19) := by
  refine ⟨U0 Try.func29 (by kernel_rfl) rfl, ?_⟩
  have K : CtxOk Try.prog ctx_Right19 := U4 Ki Ka (by
    intro p hp
    simp only [List.mem_cons, List.not_mem_nil, or_false] at hp
    rcases hp with rfl
    · exact good_tree19A) (by simp)
  obtain ⟨c, hc⟩ : ∃ c, Try.f29.body = some c := ⟨_, rfl⟩
  refine U5 K Try.func29 hc [.tmp 2] rfl 22 rfl (fun cvs hpre => ?_)
  change con_Right19.pre cvs at hpre
  unfold con_Right19 at hpre
  obtain ⟨⟨v⟩, rfl, hv, hG⟩ := K1 hpre
  simp only at hv hG
  obtain ⟨r, hr⟩ : ∃ r, right19 v = r := ⟨_, rfl⟩
  have hr2 := hr
  unfold right19 at hr2
  clear hpre
  simp only [Try.f29, Option.some.injEq] at hc
  subst hc
  by_cases h0 : v.length = 0
  · have hb : ltB 0 (v.length : Int) = false := by rw [Gn]; omega
    have hrf : r = false := by rw [← hr2, h0]; rfl
    (sym =>
     simp [hb,hr,hrf,szV,Bl,Bm,con_Right19.eq_def,Za,Zb,Zc,Zd,Ze,Zf,Zo,Zt,Z6,Qb,Qd,Qn,Qo,Qp,Qq,Qs,Q1,Q2,Q4,Q8,Jk,Jw,J2,J3,Xe,Xt,X2,X4,X9,Wa,Wd,Wf,Wg,Wh,Wr,Ws,Wt,Wu,Ww,Wy,W4,W5,W6,W7,Yc,Yg,Yw,Yy,Yz,Y5,Y6,Y7,Y8,Y9,Va,Vh,Vs,V4,V5,Ui,Uk,Um,U2,Kc,Kd])
  have hb : ltB 0 (v.length : Int) = true := by rw [G4]; omega
  have hpos : 0 < v.length := by omega
  rw [show (v.length == 0) = false by rw [beq_eq_false_iff_ne]; exact h0, Bool.not_false, Bool.true_and] at hr2
  rcases Ba v.length 10000 with ⟨h1, h1b⟩ | ⟨h1, h1b⟩
  case inr =>
    have hrf : r = false := by rw [← hr2, show decide (v.length ≤ 10000) = false by rw [decide_eq_false_iff_not]; omega]; rfl
    (sym =>
     simp [hb,h1b,hr,hrf,szV,Bl,Bm,con_Right19.eq_def,Za,Zb,Zc,Zd,Ze,Zf,Zo,Zt,Z6,Qb,Qd,Qn,Qo,Qp,Qq,Qs,Q1,Q2,Q4,Q8,Jk,Jw,J2,J3,Xe,Xt,X2,X4,X9,Wa,Wd,Wf,Wg,Wh,Wr,Ws,Wt,Wu,Ww,Wy,W4,W5,W6,W7,Yc,Yg,Yw,Yy,Yz,Y5,Y6,Y7,Y8,Y9,Va,Vh,Vs,V4,V5,Uh,Ui,Uk,Um,U2,Kc,Kd])
  rw [show decide (v.length ≤ 10000) = true by rw [decide_eq_true_eq]; omega, Bool.true_and] at hr2
  have hel0 := U8 v0 hpos
  obtain ⟨p, hp⟩ : ∃ p, v.getD 0 v0 = p := ⟨_, rfl⟩
  have hrp : rootV v = p := hp
  rw [hp] at hel0
  rw [hrp, okKids_congr (g := 1000000001) (by omega) (by omega)] at hr2
  cases b1 : (p.label == []) with
  | false =>
    rw [b1, Bool.false_and] at hr2
    subst hr2
    (sym =>
     simp [hb,h1b,hel0,b1,hr,Ut,Uw,Uv,Uu,szV,Bl,Bm,con_Right19.eq_def,Za,Zb,Zc,Zd,Ze,Zf,Zo,Zp,Zq,Zs,Zt,Zv,Zx,Zy,Z6,Qb,Qd,Qn,Qo,Qp,Qq,Qs,Q1,Q2,Q4,Q8,Jk,Jw,J2,J3,Xe,Xt,X2,X4,X9,Wa,Wd,Wf,Wg,Wh,Wr,Ws,Wt,Wu,Ww,Wy,Wz,W4,W5,W6,W7,Yc,Ye,Yg,Yi,Yk,Ys,Yu,Yw,Yy,Yz,Y5,Y6,Y7,Y8,Y9,Va,Vh,Vq,Vs,V4,V5,V6,V8,Uh,Ui,Uj,Uk,Um,U2,Gr,Kc,Kd]
     tactic =>
      try simp only [Uy] at *
      try simp only [nc2] at *
      try simp (maxSteps := 4000000) only [hb,h1b,hel0,b1,hr,Ut,Uw,Uv,Uu,szV,U1]
      repeat' (first | with_reducible assumption | with_reducible refine And.intro ?_ ?_ | intro _ | omega | (rw [Ux]; omega)))
  | true =>
    rw [b1, Bool.true_and] at hr2
    (sym =>
     simp [hb,h1b,hel0,b1,hr,hr2,Ez,Int.toNat_natCast,Ut,Uw,Uv,Uu,szV,Bl,ctx_Right19_c,Bm,ctx_Right19_b,con_Right19.eq_def,Za,Zb,Zc,Zd,Ze,Zf,Zo,Zp,Zq,Zs,Zt,Zv,Zx,Zy,Z6,Z9,Qb,Qd,Qe,Qf,Qn,Qo,Qp,Qq,Qs,Q1,Q2,Q4,Q8,Jf,Jj,Jk,Jl,Jw,J2,J3,Xe,Xt,Xu,X2,X4,X9,Wa,Wd,Wf,Wg,Wh,Wr,Ws,Wt,Wu,Wv,Ww,Wx,Wy,Wz,W4,W5,W6,W7,Yc,Ye,Yg,Yi,Yk,Ys,Yu,Yw,Yy,Yz,Y5,Y6,Y7,Y8,Y9,Va,Vf,Vh,Vk,Vm,Vq,Vs,Vx,V4,V5,V6,V8,Uh,Uj,Uk,Um,U2,Gr,Kc,Kd]
     tactic =>
      try simp only [Uy] at *
      try simp only [nc2] at *
      try simp (maxSteps := 4000000) only [hb,h1b,hel0,b1,hr,hr2,Ez,Int.toNat_natCast,Ut,Uw,Uv,Uu,szV,U1]
      repeat' (first | with_reducible assumption | with_reducible refine And.intro ?_ ?_ | intro _ | omega | (rw [Ux]; omega)))
theorem Bf {a : Int} {b c : List UInt8} {d e : Int} : (dec (.agg [.int .i64 a, .str b, .str c, .int .i64 d, .int .i64 e, .list 3 [], .list 3 []]) : VNode) = ⟨a, b, c, d, e, [], []⟩ := Enc.dec_enc (VNode.mk a b c d e [] [])
theorem Bb {a : Int} {b c : List UInt8} {d e : Int} : isE VNode (.agg [.int .i64 a, .str b, .str c, .int .i64 d, .int .i64 e, .list 3 [], .list 3 []]) = True := eq_true (Gp (VNode.mk a b c d e [] []))
theorem Rd {x : VNode} (h : GoodN x) : Short2 x := ⟨by have := h.1.1; omega, by have := h.2.1.1; omega⟩
theorem inV1 {x : VNode} (h : Short2 x) : InV [x] := ⟨by simp, by intro n hn; rw [List.mem_singleton] at hn; rw [hn]; exact h⟩
noncomputable def nodeB (n : VNode) : Bool :=
  cond (n.kind == 0) (sameV [⟨n.kind, n.label, [], n.num, 0, [], []⟩] [n])
  (cond (n.kind == 1) ((n.num == 0 || n.num == 1) && sameV [⟨n.kind, n.label, [], n.num, 0, [], []⟩] [n])
  (cond (n.kind == 2) (sameV [⟨n.kind, n.label, n.name, 0, 0, [], []⟩] [n])
  (cond (n.kind == 3) (sameV [⟨n.kind, n.label, [], 0, 0, [], []⟩] [n])
  (cond (n.kind == 4) ((leB 0 n.many && leB n.many 50) && sameV [⟨n.kind, n.label, [], 0, n.many, [], []⟩] [n])
  (cond (n.kind == 5) (isTag n.name && sameV [⟨n.kind, n.label, n.name, 0, 0, [], []⟩] [n])
  (cond (n.kind == 6) (leB 0 n.num && sameV [⟨n.kind, n.label, [], n.num, 0, [], []⟩] [n])
  (cond (n.kind == 7) ((leB 0 n.num && (arrowB n.t && (arrowB n.u && (agreeT n.t n.u && !same3 n.t n.u)))) && sameV [⟨n.kind, n.label, [], n.num, 0, n.t, n.u⟩] [n])
  false)))))))
theorem one_arrow {t : List Node} (h : arrowB t = true) : One t := by
  obtain ⟨h1, _, _⟩ := Ns.1 h
  obtain ⟨_, _, x, hx, hw⟩ := tree7_of h1
  exact ⟨x, by rw [hx]; exact Ni hw⟩
end Go.Am.Ty
set_option linter.unusedSimpArgs false
set_option linter.unusedVariables false
set_option maxHeartbeats 2000000
namespace Go.Am.Ty
open Go.Proofs Go.Rose Go.Rose.Rose
open Enc (enc dec)
noncomputable def con_isNodeV : Con := con1 (fun (n : VNode) => GoodN n) nodeB
noncomputable def ctx_isNodeV : Ctx := ⟨tab, lkC [(82, con_IsTagG), (83, con_isArrowV), (19, con_AgreeP), (59, con_SameT), (30, con_SameV)], 60, lkB [], [], false⟩
theorem ctx_isNodeV_t : ctx_isNodeV.τ = tab := rfl
theorem ctx_isNodeV_c : ctx_isNodeV.Γ = lkC [(82, con_IsTagG), (83, con_isArrowV), (19, con_AgreeP), (59, con_SameT), (30, con_SameV)] := rfl
theorem ctx_isNodeV_d : ctx_isNodeV.dp = 60 := rfl
theorem ctx_isNodeV_b : ctx_isNodeV.Δ = lkB [] := rfl
theorem ctx_isNodeV_w : ctx_isNodeV.wr = false := rfl
set_option maxRecDepth 100000 in
theorem good_isNodeV : Good Try.prog (53, con_isNodeV) := by
  refine ⟨U0 Try.func53 (by kernel_rfl) rfl, ?_⟩
  have K : CtxOk Try.prog ctx_isNodeV := U4 Ki Ka (by
    intro p hp
    simp only [List.mem_cons, List.not_mem_nil, or_false] at hp
    rcases hp with rfl | rfl | rfl | rfl | rfl
    · exact O5
    · exact good_isArrowV
    · exact good_AgreeP
    · exact Sc
    · exact Fj) (by simp)
  obtain ⟨c, hc⟩ : ∃ c, Try.f53.body = some c := ⟨_, rfl⟩
  refine U5 K Try.func53 hc [.tmp 2] rfl 113 rfl (fun cvs hpre => ?_)
  change con_isNodeV.pre cvs at hpre
  unfold con_isNodeV at hpre
  obtain ⟨n, rfl, hG⟩ := K1 hpre
  have hS : Short2 n := Rd hG
  have hI := inV1 hS
  obtain ⟨⟨t1, t2⟩, ⟨u1, u2⟩, hnm, hlb⟩ := hG
  have hI0 : ∀ a b c d e, InV [⟨a, b, c, d, e, [], []⟩] := fun a b c d e => inV1 ⟨by simp, by simp⟩
  have hI7 : ∀ a b c d e, InV [⟨a, b, c, d, e, n.t, n.u⟩] := fun a b c d e => inV1 ⟨hS.1, hS.2⟩
  obtain ⟨r, hr⟩ : ∃ r, nodeB n = r := ⟨_, rfl⟩
  have hr2 := hr
  unfold nodeB at hr2
  clear hpre
  simp only [Try.f53, Option.some.injEq] at hc
  subst hc
  refine Kl 7 (of_decide_eq_true (by kernel_rfl)) ?_
  (sym =>
   simp [Ut,Uw,Uv,Uu,szV,Bf,Bb,hr,Ur,Up,Us,Uo,szN,Uq,ctx_isNodeV_t,ctx_isNodeV_c,ctx_isNodeV_d,ctx_isNodeV_b,ctx_isNodeV_w,con_AgreeP.eq_def,con_IsTagG.eq_def,con_SameT.eq_def,con_SameV.eq_def,con_isArrowV.eq_def,con_isNodeV.eq_def,Zb,Zc,Zd,Ze,Zf,Zg,Zh,Zi,Zj,Zk,Zl,Zm,Zo,Zp,Zq,Zr,Zs,Zt,Zu,Zv,Zw,Zx,Z1,Z2,Z9,Qb,Qc,Qd,Qe,Qf,Qh,Qk,Ql,Qm,Qn,Qo,Qp,Qq,Qr,Qs,Q1,Q2,Q4,Q5,Q6,Q7,Q8,Ja,Jb,Jc,Jd,Je,Jf,Jg,Jh,Ji,Jj,Jk,Jl,Jw,J2,J3,J4,J5,J6,J7,J8,J9,Xa,Xb,Xc,Xd,Xe,Xf,Xg,Xi,Xk,Xl,Xm,Xn,Xq,Xr,Xt,Xu,X1,X2,X3,X4,X5,X6,X9,Wa,Wb,Wc,Wd,We,Wf,Wg,Wh,Wj,Wl,Wn,Wo,Wp,Wq,Wr,Ws,Wt,Wu,Wv,Ww,Wx,Wy,Wz,W0,W3,W4,W5,W6,W7,W8,W9,Yc,Yd,Yg,Yh,Yl,Ym,Yn,Yo,Yw,Y5,Y6,Y7,Y8,Y9,Va,Vb,Vc,Vd,Ve,Vg,Vi,Vj,Vl,Vr,Vs,V3,V4,V5,V9,Ua,Ub,Ud,Uh,Ui,Uj,Uk,Ul,Un,tab2,U2,Ku,Gr,U3,Kc,Kd]
   tactic =>
    try simp only [Uy] at *
    try simp only [nc2] at *
    try simp (maxSteps := 4000000) only [Ut,Uw,Uv,Uu,szV,Bf,Bb,hr,Ur,Up,Us,Uo,szN,Uq,U1]
    repeat' (first | with_reducible assumption | with_reducible refine And.intro ?_ ?_ | intro _ | omega | (rw [Ux]; omega))
    all_goals first
      | (with_reducible refine Kh ?_; kernel_rfl)
      | exact hI
      | exact hI0 _ _ _ _ _
      | exact hI7 _ _ _ _ _
      | exact t2
      | exact u2
      | omega
      | (apply one_arrow; assumption)
      | (rw [← hr2]; clear hr2 hr K hS hI t1 t2 u1 u2 hnm hlb hI0 hI7; simp_all; done)
      | (rw [← hr2]; clear hr2 hr K hS hI t1 t2 u1 u2 hnm hlb hI0 hI7; simp_all [leB]; done)
      | (rw [← hr2]; clear hr2 hr K hS hI t1 t2 u1 u2 hnm hlb hI0 hI7; simp_all [leB]; omega)
      | skip)
end Go.Am.Ty
set_option linter.unusedSimpArgs false
set_option linter.unusedVariables false
set_option maxHeartbeats 2000000
namespace Go.Am.Ty
open Go.Proofs Go.Rose Go.Rose.Rose
open Enc (enc dec)
def badV (p x : VNode) (last : List UInt8) : Bool :=
  cond (p.kind == 4) (cond (!isWord x.label) true (Op.bytesLess x.label last || x.label == last))
    (cond (!(x.label == [])) true (cond (p.kind == 7) (cond (x.kind == 6) false (!(x.kind == 7))) false))
def lastV (p x : VNode) (last : List UInt8) : List UInt8 := cond (p.kind == 4) x.label last
def kidsP (v : List VNode) (tr : Nat → Nat → Bool × Nat) (p : VNode) (d : Nat) : Nat → List UInt8 → Nat → Bool × Nat
  | 0, _, i => (true, i)
  | m + 1, last, i => cond (leB (v.length : Int) i) (false, i)
      (cond (badV p (v.getD i v0) last) (false, i)
        (cond (tr i (d + moreV p)).1 (kidsP v tr p d m (lastV p (v.getD i v0) last) (tr i (d + moreV p)).2) (false, (tr i (d + moreV p)).2)))
noncomputable def treeP (v : List VNode) : Nat → Nat → Nat → Bool × Nat
  | 0, i, _ => (false, i)
  | f + 1, i, d => cond (leB (v.length : Int) i) (false, i)
      (cond (ltB 100 (d : Int)) (false, i) (cond (nodeB (v.getD i v0)) (kidsP v (treeP v f) (v.getD i v0) d (arV (v.getD i v0)) [] (i + 1)) (false, i)))
theorem kidsP_mono {v : List VNode} {tr : Nat → Nat → Bool × Nat} {p : VNode} {d : Nat} (h : ∀ i d, i ≤ (tr i d).2) : ∀ {m : Nat} {last : List UInt8} {i : Nat}, i ≤ (kidsP v tr p d m last i).2
  | 0, last, i => Nat.le_refl _
  | m + 1, last, i => by
    rw [kidsP]
    cases leB (v.length : Int) i with
    | true => exact Nat.le_refl _
    | false =>
      cases badV p (v.getD i v0) last with
      | true => exact Nat.le_refl _
      | false =>
        simp only [cond_false]
        have h1 := h i (d + moreV p)
        cases (tr i (d + moreV p)).1 with
        | true => exact Nat.le_trans h1 (kidsP_mono h)
        | false => exact h1
theorem Lz {v : List VNode} : ∀ {f i d : Nat}, i ≤ (treeP v f i d).2
  | 0, i, d => Nat.le_refl _
  | f + 1, i, d => by
    rw [treeP]
    cases leB (v.length : Int) i with
    | true => exact Nat.le_refl _
    | false =>
      cases ltB 100 (d : Int) with
      | true => exact Nat.le_refl _
      | false =>
        cases nodeB (v.getD i v0) with
        | false => exact Nat.le_refl _
        | true =>
          simp only [cond_false, cond_true]
          exact Nat.le_trans (Nat.le_succ i) (kidsP_mono fun i d => Lz)
theorem nodeB_ar {n : VNode} (h : nodeB n = true) : arV n ≤ 50 := by
  unfold nodeB at h
  unfold arV
  by_cases h4 : n.kind = 4
  · rw [if_pos h4]
    rw [h4] at h
    have h5 : (leB 0 n.many && leB n.many 50) = true := by
      cases hb : (leB 0 n.many && leB n.many 50) with
      | true => rfl
      | false => rw [hb] at h; simp at h
    simp [leB] at h5
    omega
  · rw [if_neg h4]
    split <;> omega
structure VX where
  v : List VNode
  i : Nat
  f : Nat
  d : Nat
def vboxed (v : List VNode) (i : Nat) : List Obj := [.box false [.d (.int .i64 i)], .box false [.d (.list 7 (v.map enc))], .box false [.clo 52 [.ref 90000 0, .ref 90001 0, .ref 90002 0]]]
theorem Kz {v : List VNode} {i : Nat} : vboxed v i = [.box false [.d (.int .i64 i)], .box false [.d (.list 7 (v.map enc))], .box false [.clo 52 [.ref 90000 0, .ref 90001 0, .ref 90002 0]]] := rfl
noncomputable def bcon_treeV (n : Nat) : BCon where
  X := VX
  ok x := x.v.length ≤ 1000000 ∧ (∀ m ∈ x.v, GoodN m) ∧ x.v.length ≤ x.i + x.f ∧ x.d ≤ 1000 ∧ x.f < n
  args x := [.d (.int .i64 x.d), .ref 90000 0, .ref 90001 0, .ref 90002 0]
  objs x := vboxed x.v x.i
  res x := .bool (treeP x.v x.f x.i x.d).1
  post x := vboxed x.v (treeP x.v x.f x.i x.d).2
theorem bcon_treeV_zero : ∀ x, ¬ (bcon_treeV 0).ok x := by
  rintro x ⟨_, _, _, _, h⟩
  omega
theorem T0 {n : Nat} {v : List VNode} {i f d : Nat} : (bcon_treeV n).post ⟨v, i, f, d⟩ = vboxed v (treeP v f i d).2 := rfl
theorem Dw {n : Nat} {v : List VNode} {i f d : Nat} : (bcon_treeV n).res ⟨v, i, f, d⟩ = .bool (treeP v f i d).1 := rfl
noncomputable def bctx_treeV (n : Nat) : Ctx := ⟨tab, lkC [(54, con_manyV), (53, con_isNodeV), (55, con_IsWordG)], 60, lkB [(52, (bcon_treeV n))], [], false⟩
theorem Kv (n : Nat) : (bctx_treeV n).τ = tab := rfl
theorem P5 (n : Nat) : (bctx_treeV n).Γ = lkC [(54, con_manyV), (53, con_isNodeV), (55, con_IsWordG)] := rfl
theorem Ge (n : Nat) : (bctx_treeV n).dp = 60 := rfl
theorem Nq (n : Nat) : (bctx_treeV n).Δ = lkB [(52, (bcon_treeV n))] := rfl
theorem H5 (n : Nat) : (bctx_treeV n).wr = false := rfl
set_option maxRecDepth 100000 in
theorem stepb_treeV (n : Nat) (ih : GoodB Try.prog (52, bcon_treeV n)) : GoodB Try.prog (52, (bcon_treeV (n + 1))) := by
  refine ⟨U0 Try.func52 (by kernel_rfl) rfl, ?_⟩
  have K : CtxOk Try.prog (bctx_treeV n) := U4 Ki Ka (by
    intro p hp
    simp only [List.mem_cons, List.not_mem_nil, or_false] at hp
    rcases hp with rfl | rfl | rfl
    · exact good_manyV
    · exact good_isNodeV
    · exact R8) (by
    intro p hp
    simp only [List.mem_cons, List.not_mem_nil, or_false] at hp
    rcases hp with rfl
    · exact ih)
  obtain ⟨c, hc⟩ : ∃ c, Try.f52.body = some c := ⟨_, rfl⟩
  refine fn_soundB K Try.func52 hc [.tmp 5] rfl 83 rfl (fun x hok => ?_)
  obtain ⟨v, i, f, d⟩ := x
  obtain ⟨hv, hG, hf, hd, hn⟩ := hok
  simp only at hv hG hf hd hn
  refine ⟨?_, ?_, ?_, ?_, ?_⟩
  · show Tied [.d (.int .i64 d), .ref 90000 0, .ref 90001 0, .ref 90002 0] (vboxed v i)
    rw [Kz]
    simp [Tied,tiedAll,Obj.tied,noneFixed,keptAll,AV.kept,mkObjs,mkFrom,lk]
  · show noneFixed (vboxed v i)
    rw [Kz]
    simp [noneFixed]
  · show Tied [] (vboxed v (treeP v f i d).2)
    rw [Kz]
    simp [Tied,tiedAll,Obj.tied,noneFixed,keptAll,AV.kept,mkObjs,mkFrom,lk]
  · show (vboxed v i).length ≤ (vboxed v (treeP v f i d).2).length
    rw [Kz, Kz]
    simp
  show awp (bctx_treeV n) c (PostB _ _ (vboxed v i).length (.bool (treeP v f i d).1) (vboxed v (treeP v f i d).2)) ⟨[.d (.int .i64 d), .ref 90000 0, .ref 90001 0, .ref 90002 0] ++ deads 79, mkObjs (vboxed v i)⟩
  rw [Kz, Kz]
  simp only [Try.f52, Option.some.injEq] at hc
  subst hc
  refine Kl 5 (of_decide_eq_true (by kernel_rfl)) ?_
  have hm1 : (d : Int) + 1 = ((d + 1 : Nat) : Int) := by omega
  have hm0 : (d : Int) + 0 = ((d + 0 : Nat) : Int) := by omega
  cases f with
  | zero =>
    have h0 : treeP v 0 i d = (false, i) := rfl
    rw [h0]
    have hleb : leB (v.length : Int) i = true := by rw [Sa]; omega
    (sym =>
     simp [hleb,Ut,Uw,Uv,Uu,szV,Kv,Ge,Zb,Zc,Zd,Ze,Zf,Zo,Zp,Zq,Zt,Zv,Z6,Qb,Qd,Qo,Qq,Qs,Qv,Qw,Qx,Q1,Q2,Q3,Q4,Jh,Jk,Jm,Jp,J2,J3,J4,J5,J7,J8,Xa,Xb,Xe,Xk,Xl,Xm,Xn,X2,X4,X5,X9,Wa,Wd,Wf,Wg,Wh,Wr,Ws,Wt,Wu,W4,W5,W6,W7,W8,W9,Yc,Yf,Yg,Yj,Y5,Y6,Y9,Va,Vb,Vc,Vd,Ve,Vr,V5,Uh,Uj,Uk,Um,U2,Kc,Kd]
     tactic =>
      try simp only [Uy] at *
      try simp only [nc2] at *
      try simp (maxSteps := 4000000) only [hleb,Ut,Uw,Uv,Uu,szV,U1]
      repeat' (first | with_reducible assumption | with_reducible refine And.intro ?_ ?_ | intro _ | omega | (rw [Ux]; omega))
      refine ⟨[90000, 90001, 90002], by simp, rfl, Hh, ?_⟩
      simp [standAt,lk,rnO,rnA,rnAs,rk])
  | succ f =>
    have hfold : treeP v (f + 1) i d = cond (leB (v.length : Int) i) (false, i)
      (cond (ltB 100 (d : Int)) (false, i) (cond (nodeB (v.getD i v0)) (kidsP v (treeP v f) (v.getD i v0) d (arV (v.getD i v0)) [] (i + 1)) (false, i))) := rfl
    rcases Ba v.length i with ⟨hle, hleb⟩ | ⟨hle, hleb⟩
    · rw [hleb, cond_true] at hfold
      rw [hfold]
      (sym =>
       simp [hleb,Ut,Uw,Uv,Uu,szV,Kv,Ge,Zb,Zc,Zd,Ze,Zf,Zo,Zp,Zq,Zt,Zv,Z6,Qb,Qd,Qo,Qq,Qs,Qv,Qw,Qx,Q1,Q2,Q3,Q4,Jh,Jk,Jm,Jp,J2,J3,J4,J5,J7,J8,Xa,Xb,Xe,Xk,Xl,Xm,Xn,X2,X4,X5,X9,Wa,Wd,Wf,Wg,Wh,Wr,Ws,Wt,Wu,W4,W5,W6,W7,W8,W9,Yc,Yf,Yg,Yj,Y5,Y6,Y9,Va,Vb,Vc,Vd,Ve,Vr,V5,Uh,Uj,Uk,Um,U2,Kc,Kd]
       tactic =>
        try simp only [Uy] at *
        try simp only [nc2] at *
        try simp (maxSteps := 4000000) only [hleb,Ut,Uw,Uv,Uu,szV,U1]
        repeat' (first | with_reducible assumption | with_reducible refine And.intro ?_ ?_ | intro _ | omega | (rw [Ux]; omega))
        refine ⟨[90000, 90001, 90002], by simp, rfl, Hh, ?_⟩
        simp [standAt,lk,rnO,rnA,rnAs,rk])
    rw [hleb, cond_false] at hfold
    rcases Mf 100 d with ⟨hd1, hdb⟩ | ⟨hd1, hdb⟩
    · rw [hdb, cond_true] at hfold
      rw [hfold]
      (sym =>
       simp [hleb,hdb,Ut,Uw,Uv,Uu,szV,Kv,Ge,Zb,Zc,Zd,Ze,Zf,Zo,Zp,Zq,Zt,Zv,Z6,Qb,Qd,Qo,Qq,Qs,Qv,Qw,Qx,Q1,Q2,Q3,Q4,Jh,Jk,Jm,Jp,J2,J3,J4,J5,J7,J8,Xa,Xb,Xe,Xk,Xl,Xm,Xn,X2,X4,X5,X9,Wa,Wd,Wf,Wg,Wh,Wr,Ws,Wt,Wu,W4,W5,W6,W7,W8,W9,Yc,Yf,Yg,Yj,Y5,Y6,Y9,Va,Vb,Vc,Vd,Ve,Vr,V4,V5,Uh,Ui,Uj,Uk,Um,U2,Kc,Kd]
       tactic =>
        try simp only [Uy] at *
        try simp only [nc2] at *
        try simp (maxSteps := 4000000) only [hleb,hdb,Ut,Uw,Uv,Uu,szV,U1]
        repeat' (first | with_reducible assumption | with_reducible refine And.intro ?_ ?_ | intro _ | omega | (rw [Ux]; omega))
        refine ⟨[90000, 90001, 90002], by simp, rfl, Hh, ?_⟩
        simp [standAt,lk,rnO,rnA,rnAs,rk])
    rw [hdb, cond_false] at hfold
    have hil : i < v.length := by omega
    have hel := U8 v0 hil
    have hGp := hG _ (M3 (d := v0) hil)
    obtain ⟨p, hp⟩ : ∃ p, v.getD i v0 = p := ⟨_, rfl⟩
    rw [hp] at hel hfold hGp
    cases hnb : nodeB p with
    | false =>
      rw [hnb, cond_false] at hfold
      rw [hfold]
      (sym =>
       simp [hleb,hdb,hel,hnb,Ut,Uw,Uv,Uu,szV,Kv,P5,Ge,Nq,con_IsWordG.eq_def,con_isNodeV.eq_def,con_manyV.eq_def,Zb,Zc,Zd,Ze,Zf,Zo,Zp,Zq,Zt,Zv,Zy,Z6,Z9,Qb,Qc,Qd,Qe,Qf,Qo,Qq,Qs,Qv,Qw,Qx,Q1,Q2,Q3,Q4,Q8,Jf,Jh,Jj,Jk,Jl,Jm,Jp,J2,J3,J4,J5,J7,J8,Xa,Xb,Xe,Xk,Xl,Xm,Xn,Xo,Xt,X2,X4,X5,X9,Wa,Wd,Wf,Wg,Wh,Wr,Ws,Wt,Wu,Wv,Wx,Wy,W4,W5,W6,W7,W8,W9,Yc,Yd,Yf,Yg,Yh,Yj,Yk,Yw,Y5,Y6,Y9,Va,Vb,Vc,Vd,Ve,Vo,Vp,Vr,V4,V5,Uh,Ui,Uj,Uk,Ul,Um,U2,Ku,Kc,Kd]
       tactic =>
        try simp only [Uy] at *
        try simp only [nc2] at *
        try simp (maxSteps := 4000000) only [hleb,hdb,hel,hnb,Ut,Uw,Uv,Uu,szV,U1]
        repeat' (first | with_reducible assumption | with_reducible refine And.intro ?_ ?_ | intro _ | omega | (rw [Ux]; omega))
        all_goals first
          | exact hGp
          | skip
        refine ⟨[90000, 90001, 90002], by simp, rfl, Hh, ?_⟩
        simp [standAt,lk,rnO,rnA,rnAs,rk])
    | true =>
      have har := nodeB_ar hnb
      rw [hnb, cond_true] at hfold
      rw [hfold]
      obtain ⟨r, hr⟩ : ∃ r, kidsP v (treeP v f) p d (arV p) [] (i + 1) = r := ⟨_, rfl⟩
      rw [hr]
      obtain ⟨r1, r2⟩ := r
      simp only
      (sym =>
       simp [hleb,hdb,hel,hnb,Ut,Uw,Uv,Uu,szV,Kv,P5,Ge,Nq,H5,con_IsWordG.eq_def,con_isNodeV.eq_def,con_manyV.eq_def,Zb,Zc,Zd,Ze,Zf,Zo,Zp,Zq,Zt,Zu,Zv,Zw,Zy,Z6,Z9,Qb,Qc,Qd,Qe,Qf,Qh,Qk,Ql,Qq,Qs,Q1,Q2,Q3,Q4,Q8,Ja,Jf,Jh,Ji,Jj,Jl,Jm,J2,J3,J4,J5,J7,J8,Xa,Xb,Xe,Xm,Xn,Xo,Xq,Xr,Xt,X1,X2,X4,X5,X6,X7,Wa,Wd,Wf,Wg,Wh,Wj,Wr,Ws,Wt,Wu,Wv,Wx,Wy,Wz,W0,W3,W4,W5,W6,W7,W8,W9,Yc,Yd,Yf,Yg,Yh,Yj,Yk,Yl,Yo,Yv,Yw,Y5,Y6,Y9,Va,Vb,Vc,Vd,Ve,Vn,Vp,Vr,V4,V5,V6,V8,Ua,Ui,Uj,Uk,Ul,Um,Un,U2,Ku,Kc,Kd]
       tactic =>
        try simp only [Uy] at *
        try simp only [nc2] at *
        try simp (maxSteps := 4000000) only [hleb,hdb,hel,hnb,Ut,Uw,Uv,Uu,szV,U1]
        repeat' (first | with_reducible assumption | with_reducible refine And.intro ?_ ?_ | intro _ | omega | (rw [Ux]; omega))
        refine Ke [5, 8, 9, 35, 36, 37, 38, 39, 40, 41, 42, 43, 44, 45, 46, 47, 48, 49, 50, 51, 52, 53, 54, 55, 56, 57, 58, 59, 60, 61, 62, 63, 64, 65, 66, 67, 68, 69, 70, 71, 72, 73, 74, 75, 76, 77, 78, 79, 80, 81, 82] (fun q : Nat × List UInt8 × Nat => [(7, .d (.str q.2.1)), (34, .d (.int .i64 q.1))]) (fun q : Nat × List UInt8 × Nat => [(90000, .box false [.d (.int .i64 q.2.2)])]) (fun q : Nat × List UInt8 × Nat => q.1 ≤ arV p ∧ i + 1 ≤ q.2.2 ∧ kidsP v (treeP v f) p d (arV p - q.1) q.2.1 q.2.2 = (r1, r2)) (fun q : Nat × List UInt8 × Nat => arV p - q.1) (0, [], i + 1) ?_ ?_ ?_
        · exact ⟨Nat.zero_le _, Nat.le_refl _, hr⟩
        · ((try simp only [Uz, killAll, setSlots, updAll, upd, U9, setCs, putC, Nat.reduceDiv, Nat.reduceMod, Nat.reduceMul, Nat.reduceAdd, Nat.reduceEqDiff, List.set_cons_zero, List.set_cons_succ, if_true, if_false, reduceIte]); (first | refine Wk.of_fl ?_ | skip); simp only [Wk, wkK, wkCs, wkT, wk1, AV.kept, keptAll, wkO, lk, wkObj, and_true, true_and, and_self, Nat.reduceEqDiff, Nat.reduceLeDiff, if_true, if_false, reduceIte, reduceCtorEq, Option.isSome, false_implies]; try simp [Wk, wkK, wkT, wk1, AV.kept, keptAll, wkO, lk, wkObj])
        rintro ⟨k, last, j⟩ ⟨hk, hij, hR⟩
        simp only at hk hij hR
        rcases Kf k (arV p) with ⟨hlt, hltb⟩ | ⟨hlt, hltb⟩
        · obtain ⟨m, hm⟩ : ∃ m, arV p - k = m + 1 := ⟨arV p - k - 1, by omega⟩
          rw [hm, kidsP] at hR
          rcases Ba v.length j with ⟨hle2, hleb2⟩ | ⟨hle2, hleb2⟩
          · rw [hleb2, cond_true] at hR
            injection hR with hr1 hr2
            subst hr1
            subst hr2
            (sym =>
             simp [hltb,hleb2,Ut,Uw,Uv,Uu,szV,Kv,Ge,Zb,Zc,Ze,Zf,Zg,Zo,Zp,Zq,Zv,Z6,Qb,Qd,Qo,Qq,Qs,Qv,Qw,Qx,Q1,Q2,Q4,Jh,Ji,Jk,Jp,Jx,Jy,Jz,J4,J5,J7,J8,J9,Xa,Xb,Xe,Xk,Xl,X1,X2,X4,X5,X6,X9,Wa,Wd,Wf,Wg,Wh,Wr,Ws,Wt,Wu,W4,W5,W8,W9,Yb,Yc,Yf,Yg,Yj,Y5,Y6,Y7,Y8,Vr,V5,Uh,Uj,Uk,Ul,Um,U2,Kc,Kd]
             tactic =>
              try simp only [Uy] at *
              try simp only [nc2] at *
              try simp (maxSteps := 4000000) only [hltb,hleb2,Ut,Uw,Uv,Uu,szV,U1]
              repeat' (first | with_reducible assumption | with_reducible refine And.intro ?_ ?_ | intro _ | omega | (rw [Ux]; omega))
              refine ⟨[90000, 90001, 90002], by simp, rfl, Hh, ?_⟩
              simp [standAt,lk,rnO,rnA,rnAs,rk])
          rw [hleb2, cond_false] at hR
          have hjl : j < v.length := by omega
          have hel2 := U8 v0 hjl
          obtain ⟨x, hx⟩ : ∃ x, v.getD j v0 = x := ⟨_, rfl⟩
          rw [hx] at hel2 hR
          cases h4 : (p.kind == 4) with
          | true =>
            have h7 : (p.kind == 7) = false := by rw [beq_iff_eq] at h4; rw [h4]; rfl
            cases hwd : isWord x.label with
            | false =>
              have hb : badV p x last = true := by simp only [badV, h4, hwd, cond_true, cond_false, Bool.not_true, Bool.not_false, Bool.or_false, Bool.or_true, Bool.true_or, Bool.false_or]
              rw [hb, cond_true] at hR
              injection hR with hr1 hr2
              subst hr1
              subst hr2
              (sym =>
               simp [hltb,hleb2,hel2,h4,hwd,hm0,hm1,Ut,Uw,Uv,Uu,szV,Kv,P5,Ge,Nq,con_IsWordG.eq_def,con_isNodeV.eq_def,con_manyV.eq_def,Zb,Zc,Zd,Ze,Zf,Zg,Zo,Zp,Zq,Zs,Zt,Zu,Zv,Zw,Zx,Zy,Z6,Z9,Qb,Qc,Qd,Qe,Qf,Qk,Ql,Qm,Qo,Qq,Qs,Qv,Qw,Qx,Q1,Q2,Q4,Q8,Jf,Jh,Ji,Jj,Jk,Jl,Jp,Jx,Jy,Jz,J4,J5,J7,J8,J9,Xa,Xb,Xe,Xk,Xl,Xo,Xq,Xr,Xt,X1,X2,X4,X5,X6,X9,Wa,Wd,Wf,Wg,Wh,Wj,Wr,Ws,Wt,Wu,Wv,Wx,Wy,W0,W3,W4,W5,W6,W7,W8,W9,Yb,Yc,Yd,Yf,Yg,Yh,Yj,Yk,Yo,Yw,Y5,Y6,Y7,Y8,Va,Vc,Vd,Ve,Vg,Vl,Vo,Vp,Vr,V4,V5,Uh,Ui,Uj,Uk,Ul,Um,Un,U2,Ku,Gr,Kc,Kd]
               tactic =>
                try simp only [Uy] at *
                try simp only [nc2] at *
                try simp (maxSteps := 4000000) only [hltb,hleb2,hel2,h4,hwd,hm0,hm1,Ut,Uw,Uv,Uu,szV,U1]
                repeat' (first | with_reducible assumption | with_reducible refine And.intro ?_ ?_ | intro _ | omega | (rw [Ux]; omega))
                refine ⟨[90000, 90001, 90002], by simp, rfl, Hh, ?_⟩
                simp [standAt,lk,rnO,rnA,rnAs,rk])
            | true =>
              cases hlq : (Op.bytesLess x.label last || x.label == last) with
              | true =>
                have hb : badV p x last = true := by simp only [badV, h4, hwd, hlq, cond_true, cond_false, Bool.not_true, Bool.not_false, Bool.or_false, Bool.or_true, Bool.true_or, Bool.false_or]
                rw [hb, cond_true] at hR
                injection hR with hr1 hr2
                subst hr1
                subst hr2
                (sym =>
                 simp [hltb,hleb2,hel2,h4,hwd,hlq,hm0,hm1,Ut,Uw,Uv,Uu,szV,Kv,P5,Ge,Nq,con_IsWordG.eq_def,con_isNodeV.eq_def,con_manyV.eq_def,Zb,Zc,Zd,Ze,Zf,Zg,Zo,Zp,Zq,Zs,Zt,Zu,Zv,Zw,Zx,Zy,Z6,Z9,Qb,Qc,Qd,Qe,Qf,Qk,Ql,Qm,Qo,Qq,Qs,Qv,Qw,Qx,Q1,Q2,Q4,Q8,Jf,Jh,Ji,Jj,Jk,Jl,Jp,Jx,Jy,Jz,J4,J5,J7,J8,J9,Xa,Xb,Xe,Xk,Xl,Xo,Xq,Xr,Xt,X1,X2,X4,X5,X6,X9,Wa,Wd,Wf,Wg,Wh,Wj,Wr,Ws,Wt,Wu,Wv,Wx,Wy,W0,W3,W4,W5,W6,W7,W8,W9,Yb,Yc,Yd,Ye,Yf,Yg,Yh,Yi,Yj,Yk,Yo,Yw,Y5,Y6,Y7,Y8,Va,Vc,Vd,Ve,Vg,Vl,Vn,Vp,Vr,V4,V5,Uh,Ui,Uj,Uk,Ul,Um,Un,U2,Ku,Gr,Kc,Kd]
                 tactic =>
                  try simp only [Uy] at *
                  try simp only [nc2] at *
                  try simp (maxSteps := 4000000) only [hltb,hleb2,hel2,h4,hwd,hlq,hm0,hm1,Ut,Uw,Uv,Uu,szV,U1]
                  repeat' (first | with_reducible assumption | with_reducible refine And.intro ?_ ?_ | intro _ | omega | (rw [Ux]; omega))
                  refine ⟨[90000, 90001, 90002], by simp, rfl, Hh, ?_⟩
                  simp [standAt,lk,rnO,rnA,rnAs,rk])
              | false =>
                have hb : badV p x last = false := by simp only [badV, h4, hwd, hlq, cond_true, cond_false, Bool.not_true, Bool.not_false, Bool.or_false, Bool.or_true, Bool.true_or, Bool.false_or]
                have hmo : moreV p = 1 := by simp only [moreV, h7, cond_true, cond_false]
                have hla : lastV p x last = x.label := by simp only [lastV, h4, cond_true, cond_false]
                rw [hb, cond_false, hmo, hla] at hR
                have hmj := Lz (v := v) (f := f) (i := j) (d := d + 1)
                obtain ⟨w, hw⟩ : ∃ w, treeP v f j (d + 1) = w := ⟨_, rfl⟩
                rw [hw] at hR hmj
                obtain ⟨w1, w2⟩ := w
                simp only at hR hmj
                have hp2 : (bcon_treeV n).post ⟨v, j, f, d + 1⟩ = vboxed v w2 := by rw [T0, hw]
                have hp3 : (bcon_treeV n).res ⟨v, j, f, d + 1⟩ = .bool w1 := by rw [Dw, hw]
                (sym =>
                 simp [hltb,hleb2,hel2,h4,h7,hwd,hlq,hm0,hm1,Ut,Uw,Uv,Uu,szV,Kv,P5,Ge,Nq,H5,con_IsWordG.eq_def,con_isNodeV.eq_def,con_manyV.eq_def,Zb,Zc,Zd,Ze,Zf,Zg,Zo,Zp,Zq,Zs,Zt,Zu,Zv,Zw,Zx,Zy,Z6,Z9,Qb,Qc,Qd,Qe,Qf,Qk,Ql,Qm,Qq,Qs,Q1,Q2,Q4,Q8,Jf,Jh,Ji,Jj,Jl,Jx,Jy,Jz,J4,J5,J7,J8,J9,Xa,Xb,Xe,Xo,Xq,Xr,Xt,X1,X2,X4,X5,X6,Wa,Wd,Wf,Wg,Wh,Wj,Wr,Ws,Wt,Wu,Wv,Wx,Wy,W0,W3,W4,W5,W6,W7,W8,W9,Yb,Yc,Yd,Ye,Yf,Yg,Yh,Yi,Yj,Yk,Yo,Yw,Y5,Y6,Y7,Y8,Y9,Va,Vc,Vd,Ve,Vg,Vl,Vn,Vp,Vr,V4,V5,Uh,Ui,Uj,Uk,Ul,Um,Un,U2,Ku,Gr,Kc,Kd,B3]
                 tactic =>
                  try simp only [Uy] at *
                  try simp only [nc2] at *
                  try simp (maxSteps := 4000000) only [hltb,hleb2,hel2,h4,h7,hwd,hlq,hm0,hm1,Ut,Uw,Uv,Uu,szV,U1]
                  repeat' (first | with_reducible assumption | with_reducible refine And.intro ?_ ?_ | intro _ | omega | (rw [Ux]; omega))
                  refine M2 (bc := bcon_treeV n) ⟨v, j, f, d + 1⟩ [90000, 90001, 90002] ⟨hv, hG, by simp only; omega, by simp only; omega, by simp only; omega⟩ rfl (by simp) (by rw [hp2]; rfl) ?_ ?_ ?_
                  · show standAt _ _ (vboxed v j) _
                    rw [Kz]
                    simp [standAt,lk,rnO,rnA,rnAs,rk]
                  · show freeAt (List.drop (vboxed v j).length _) _
                    rw [Kz]
                    simp [freeAt,lk]
                  cases w1 with
                  | false =>
                    rw [cond_false] at hR
                    injection hR with hr1 hr2
                    subst hr1
                    subst hr2
                    (sym =>
                     simp [hp2,hp3,Kz,Ut,Uw,Uv,Uu,szV,Kv,Ge,Zb,Zc,Ze,Zf,Zg,Qc,Qd,Qo,Qq,Qs,Qt,Qu,Qv,Qw,Qx,Q1,Q2,Q4,Ji,Jk,Jn,Jo,Jp,Jq,J4,J5,J6,J7,J8,J9,Xa,Xb,Xe,Xk,Xl,X2,X4,X5,X9,Wa,Wd,Wf,Wg,Wr,Ws,Wt,Wu,W4,W5,W8,W9,Yd,Yh,Y5,Y6,Y7,Y8,Vo,Vr,V5,Uh,Uj,Uk,Ku]
                     tactic =>
                      try simp only [Uy] at *
                      try simp only [nc2] at *
                      try simp (maxSteps := 4000000) only [hp2,hp3,Kz,Ut,Uw,Uv,Uu,szV,U1]
                      repeat' (first | with_reducible assumption | with_reducible refine And.intro ?_ ?_ | intro _ | omega | (rw [Ux]; omega))
                      refine ⟨[90000, 90001, 90002], by simp, rfl, Hh, ?_⟩
                      simp [standAt,lk,rnO,rnA,rnAs,rk])
                  | true =>
                    rw [cond_true] at hR
                    (sym =>
                     simp [hp2,hp3,Kz,Ut,Uw,Uv,Uu,szV,Kv,H5,Zb,Zc,Ze,Zf,Zg,Qb,Qc,Qd,Qq,Qs,Qt,Qu,Q1,Q2,Q4,Ji,Jn,Jo,Jq,J4,J5,J6,J7,J8,J9,Xa,Xb,X1,X2,X5,Wa,Wd,Wf,Wg,Wr,Ws,Wt,Wu,W8,W9,Yc,Yd,Yg,Yh,Y5,Y6,Y7,Y8,Vn,Vr,V4,Ui,Uj,U2,Ku]
                     tactic =>
                      try simp only [Uy] at *
                      try simp only [nc2] at *
                      try simp (maxSteps := 4000000) only [hp2,hp3,Kz,Ut,Uw,Uv,Uu,szV,U1]
                      repeat' (first | with_reducible assumption | with_reducible refine And.intro ?_ ?_ | intro _ | omega | (rw [Ux]; omega))
                      refine ⟨(k + 1, x.label, w2), by ((try simp only [Uz, killAll, setSlots, updAll, upd, U9, setCs, putC, Nat.reduceDiv, Nat.reduceMod, Nat.reduceMul, Nat.reduceAdd, Nat.reduceEqDiff, List.set_cons_zero, List.set_cons_succ, if_true, if_false, reduceIte]); (first | refine Wk.of_fl ?_ | skip); simp only [Wk, wkK, wkCs, wkT, wk1, AV.kept, keptAll, wkO, lk, wkObj, and_true, true_and, and_self, Nat.reduceEqDiff, Nat.reduceLeDiff, if_true, if_false, reduceIte, reduceCtorEq, Option.isSome, false_implies]; try simp [Wk, wkK, wkT, wk1, AV.kept, keptAll, wkO, lk, wkObj]), by simp only; omega, by simp only; omega, ?_, by simp only; omega⟩
                      simp only
                      rw [show arV p - (k + 1) = m by omega]
                      exact hR))
          | false =>
            cases hlb : (x.label == []) with
            | false =>
              have hb : badV p x last = true := by simp only [badV, h4, hlb, cond_true, cond_false, Bool.not_true, Bool.not_false, Bool.or_false, Bool.or_true, Bool.true_or, Bool.false_or]
              rw [hb, cond_true] at hR
              injection hR with hr1 hr2
              subst hr1
              subst hr2
              (sym =>
               simp [hltb,hleb2,hel2,h4,hlb,hm0,hm1,Ut,Uw,Uv,Uu,szV,Kv,Ge,Zb,Zc,Ze,Zf,Zg,Zo,Zp,Zq,Zs,Zu,Zv,Zw,Zx,Zy,Z6,Qb,Qd,Qk,Ql,Qm,Qo,Qq,Qs,Qv,Qw,Qx,Q1,Q2,Q4,Jh,Ji,Jk,Jp,Jx,Jy,Jz,J4,J5,J7,J8,J9,Xa,Xb,Xe,Xk,Xl,Xo,Xq,Xr,X1,X2,X4,X5,X6,X9,Wa,Wd,Wf,Wg,Wh,Wj,Wr,Ws,Wt,Wu,Wz,W0,W3,W4,W5,W6,W7,W8,W9,Yb,Yc,Ye,Yf,Yg,Yi,Yj,Yk,Yo,Y5,Y6,Y7,Y8,Va,Vc,Vd,Ve,Vo,Vp,Vr,V4,V5,V6,V8,Uh,Ui,Uj,Uk,Ul,Um,Un,U2,Gr,Kc,Kd]
               tactic =>
                try simp only [Uy] at *
                try simp only [nc2] at *
                try simp (maxSteps := 4000000) only [hltb,hleb2,hel2,h4,hlb,hm0,hm1,Ut,Uw,Uv,Uu,szV,U1]
                repeat' (first | with_reducible assumption | with_reducible refine And.intro ?_ ?_ | intro _ | omega | (rw [Ux]; omega))
                refine ⟨[90000, 90001, 90002], by simp, rfl, Hh, ?_⟩
                simp [standAt,lk,rnO,rnA,rnAs,rk])
            | true =>
              cases h7 : (p.kind == 7) with
              | false =>
                have hb : badV p x last = false := by simp only [badV, h4, hlb, h7, cond_true, cond_false, Bool.not_true, Bool.not_false, Bool.or_false, Bool.or_true, Bool.true_or, Bool.false_or]
                have hmo : moreV p = 1 := by simp only [moreV, h7, cond_true, cond_false]
                have hla : lastV p x last = last := by simp only [lastV, h4, cond_true, cond_false]
                rw [hb, cond_false, hmo, hla] at hR
                have hmj := Lz (v := v) (f := f) (i := j) (d := d + 1)
                obtain ⟨w, hw⟩ : ∃ w, treeP v f j (d + 1) = w := ⟨_, rfl⟩
                rw [hw] at hR hmj
                obtain ⟨w1, w2⟩ := w
                simp only at hR hmj
                have hp2 : (bcon_treeV n).post ⟨v, j, f, d + 1⟩ = vboxed v w2 := by rw [T0, hw]
                have hp3 : (bcon_treeV n).res ⟨v, j, f, d + 1⟩ = .bool w1 := by rw [Dw, hw]
                (sym =>
                 simp [hltb,hleb2,hel2,h4,h7,hlb,hm0,hm1,Ut,Uw,Uv,Uu,szV,Kv,Nq,H5,Zb,Zc,Ze,Zf,Zg,Zo,Zp,Zq,Zs,Zu,Zv,Zw,Zx,Zy,Z6,Qb,Qd,Qk,Ql,Qm,Qq,Qs,Q1,Q2,Q4,Jf,Jh,Ji,Jl,Jx,Jy,Jz,J4,J5,J7,J8,J9,Xa,Xb,Xo,Xq,Xr,X1,X2,X4,X5,X6,Wa,Wd,Wf,Wg,Wh,Wj,Wr,Ws,Wt,Wu,Wz,W0,W3,W4,W5,W6,W7,W8,W9,Yb,Yc,Ye,Yf,Yg,Yi,Yj,Yk,Yo,Y5,Y6,Y7,Y8,Y9,Va,Vc,Vd,Ve,Vn,Vp,Vr,V4,V6,V8,Uh,Ui,Uj,Uk,Ul,Um,Un,U2,Gr,Kc,Kd,B3]
                 tactic =>
                  try simp only [Uy] at *
                  try simp only [nc2] at *
                  try simp (maxSteps := 4000000) only [hltb,hleb2,hel2,h4,h7,hlb,hm0,hm1,Ut,Uw,Uv,Uu,szV,U1]
                  repeat' (first | with_reducible assumption | with_reducible refine And.intro ?_ ?_ | intro _ | omega | (rw [Ux]; omega))
                  refine M2 (bc := bcon_treeV n) ⟨v, j, f, d + 1⟩ [90000, 90001, 90002] ⟨hv, hG, by simp only; omega, by simp only; omega, by simp only; omega⟩ rfl (by simp) (by rw [hp2]; rfl) ?_ ?_ ?_
                  · show standAt _ _ (vboxed v j) _
                    rw [Kz]
                    simp [standAt,lk,rnO,rnA,rnAs,rk]
                  · show freeAt (List.drop (vboxed v j).length _) _
                    rw [Kz]
                    simp [freeAt,lk]
                  cases w1 with
                  | false =>
                    rw [cond_false] at hR
                    injection hR with hr1 hr2
                    subst hr1
                    subst hr2
                    (sym =>
                     simp [hp2,hp3,Kz,Ut,Uw,Uv,Uu,szV,Kv,Ge,Zb,Zc,Ze,Zf,Zg,Qc,Qd,Qo,Qq,Qs,Qt,Qu,Qv,Qw,Qx,Q1,Q2,Q4,Ji,Jk,Jn,Jo,Jp,Jq,J4,J5,J6,J7,J8,J9,Xa,Xb,Xe,Xk,Xl,X2,X4,X5,X9,Wa,Wd,Wf,Wg,Wr,Ws,Wt,Wu,W4,W5,W8,W9,Yd,Yh,Y5,Y6,Y7,Y8,Vo,Vr,V5,Uh,Uj,Uk,Ku]
                     tactic =>
                      try simp only [Uy] at *
                      try simp only [nc2] at *
                      try simp (maxSteps := 4000000) only [hp2,hp3,Kz,Ut,Uw,Uv,Uu,szV,U1]
                      repeat' (first | with_reducible assumption | with_reducible refine And.intro ?_ ?_ | intro _ | omega | (rw [Ux]; omega))
                      refine ⟨[90000, 90001, 90002], by simp, rfl, Hh, ?_⟩
                      simp [standAt,lk,rnO,rnA,rnAs,rk])
                  | true =>
                    rw [cond_true] at hR
                    (sym =>
                     simp [hp2,hp3,Kz,Ut,Uw,Uv,Uu,szV,Kv,H5,Zb,Zc,Ze,Zf,Zg,Qb,Qc,Qd,Qq,Qs,Qt,Qu,Q1,Q2,Q4,Ji,Jn,Jo,Jq,J4,J5,J6,J7,J8,J9,Xa,Xb,X1,X2,X5,Wa,Wd,Wf,Wg,Wr,Ws,Wt,Wu,W8,W9,Yc,Yd,Yg,Yh,Y5,Y6,Y7,Y8,Vn,Vr,V4,Ui,Uj,U2,Ku]
                     tactic =>
                      try simp only [Uy] at *
                      try simp only [nc2] at *
                      try simp (maxSteps := 4000000) only [hp2,hp3,Kz,Ut,Uw,Uv,Uu,szV,U1]
                      repeat' (first | with_reducible assumption | with_reducible refine And.intro ?_ ?_ | intro _ | omega | (rw [Ux]; omega))
                      refine ⟨(k + 1, last, w2), by ((try simp only [Uz, killAll, setSlots, updAll, upd, U9, setCs, putC, Nat.reduceDiv, Nat.reduceMod, Nat.reduceMul, Nat.reduceAdd, Nat.reduceEqDiff, List.set_cons_zero, List.set_cons_succ, if_true, if_false, reduceIte]); (first | refine Wk.of_fl ?_ | skip); simp only [Wk, wkK, wkCs, wkT, wk1, AV.kept, keptAll, wkO, lk, wkObj, and_true, true_and, and_self, Nat.reduceEqDiff, Nat.reduceLeDiff, if_true, if_false, reduceIte, reduceCtorEq, Option.isSome, false_implies]; try simp [Wk, wkK, wkT, wk1, AV.kept, keptAll, wkO, lk, wkObj]), by simp only; omega, by simp only; omega, ?_, by simp only; omega⟩
                      simp only
                      rw [show arV p - (k + 1) = m by omega]
                      exact hR))
              | true =>
                cases k6 : (x.kind == 6) with
                | true =>
                  have n6 : (x.kind != 6) = false := by rw [bne, k6]; rfl
                  have hb : badV p x last = false := by simp only [badV, h4, hlb, h7, k6, cond_true, cond_false, Bool.not_true, Bool.not_false, Bool.or_false, Bool.or_true, Bool.true_or, Bool.false_or]
                  have hmo : moreV p = 0 := by simp only [moreV, h7, cond_true, cond_false]
                  have hla : lastV p x last = last := by simp only [lastV, h4, cond_true, cond_false]
                  rw [hb, cond_false, hmo, hla] at hR
                  have hmj := Lz (v := v) (f := f) (i := j) (d := d + 0)
                  obtain ⟨w, hw⟩ : ∃ w, treeP v f j (d + 0) = w := ⟨_, rfl⟩
                  rw [hw] at hR hmj
                  obtain ⟨w1, w2⟩ := w
                  simp only at hR hmj
                  have hp2 : (bcon_treeV n).post ⟨v, j, f, d + 0⟩ = vboxed v w2 := by rw [T0, hw]
                  have hp3 : (bcon_treeV n).res ⟨v, j, f, d + 0⟩ = .bool w1 := by rw [Dw, hw]
                  (sym =>
                   simp [hltb,hleb2,hel2,h4,h7,hlb,n6,hm0,hm1,Ut,Uw,Uv,Uu,szV,Kv,Nq,H5,Zb,Zc,Zd,Ze,Zf,Zg,Zo,Zp,Zq,Zs,Zt,Zu,Zv,Zw,Zx,Zy,Z6,Qb,Qd,Qk,Ql,Qm,Qq,Qs,Q1,Q2,Q4,Jf,Jh,Ji,Jl,Jx,Jy,Jz,J4,J5,J7,J8,J9,Xa,Xb,Xo,Xq,Xr,X1,X2,X4,X5,X6,Wa,Wd,Wf,Wg,Wh,Wj,Wr,Ws,Wt,Wu,Wz,W0,W3,W4,W5,W6,W7,W8,W9,Yb,Yc,Ye,Yf,Yg,Yi,Yj,Yk,Yo,Y5,Y6,Y7,Y8,Y9,Va,Vc,Vd,Ve,Vn,Vp,Vr,V4,V5,V6,V8,Uh,Ui,Uj,Uk,Ul,Um,Un,U2,Gr,Kc,Kd,B3]
                   tactic =>
                    try simp only [Uy] at *
                    try simp only [nc2] at *
                    try simp (maxSteps := 4000000) only [hltb,hleb2,hel2,h4,h7,hlb,n6,hm0,hm1,Ut,Uw,Uv,Uu,szV,U1]
                    repeat' (first | with_reducible assumption | with_reducible refine And.intro ?_ ?_ | intro _ | omega | (rw [Ux]; omega))
                    refine M2 (bc := bcon_treeV n) ⟨v, j, f, d + 0⟩ [90000, 90001, 90002] ⟨hv, hG, by simp only; omega, by simp only; omega, by simp only; omega⟩ rfl (by simp) (by rw [hp2]; rfl) ?_ ?_ ?_
                    · show standAt _ _ (vboxed v j) _
                      rw [Kz]
                      simp [standAt,lk,rnO,rnA,rnAs,rk]
                    · show freeAt (List.drop (vboxed v j).length _) _
                      rw [Kz]
                      simp [freeAt,lk]
                    cases w1 with
                    | false =>
                      rw [cond_false] at hR
                      injection hR with hr1 hr2
                      subst hr1
                      subst hr2
                      (sym =>
                       simp [hp2,hp3,Kz,Ut,Uw,Uv,Uu,szV,Kv,Ge,Zb,Zc,Ze,Zf,Zg,Qc,Qd,Qo,Qq,Qs,Qt,Qu,Qv,Qw,Qx,Q1,Q2,Q4,Ji,Jk,Jn,Jo,Jp,Jq,J4,J5,J6,J7,J8,J9,Xa,Xb,Xe,Xk,Xl,X2,X4,X5,X9,Wa,Wd,Wf,Wg,Wr,Ws,Wt,Wu,W4,W5,W8,W9,Yd,Yh,Y5,Y6,Y7,Y8,Vo,Vr,V5,Uh,Uj,Uk,Ku]
                       tactic =>
                        try simp only [Uy] at *
                        try simp only [nc2] at *
                        try simp (maxSteps := 4000000) only [hp2,hp3,Kz,Ut,Uw,Uv,Uu,szV,U1]
                        repeat' (first | with_reducible assumption | with_reducible refine And.intro ?_ ?_ | intro _ | omega | (rw [Ux]; omega))
                        refine ⟨[90000, 90001, 90002], by simp, rfl, Hh, ?_⟩
                        simp [standAt,lk,rnO,rnA,rnAs,rk])
                    | true =>
                      rw [cond_true] at hR
                      (sym =>
                       simp [hp2,hp3,Kz,Ut,Uw,Uv,Uu,szV,Kv,H5,Zb,Zc,Ze,Zf,Zg,Qb,Qc,Qd,Qq,Qs,Qt,Qu,Q1,Q2,Q4,Ji,Jn,Jo,Jq,J4,J5,J6,J7,J8,J9,Xa,Xb,X1,X2,X5,Wa,Wd,Wf,Wg,Wr,Ws,Wt,Wu,W8,W9,Yc,Yd,Yg,Yh,Y5,Y6,Y7,Y8,Vn,Vr,V4,Ui,Uj,U2,Ku]
                       tactic =>
                        try simp only [Uy] at *
                        try simp only [nc2] at *
                        try simp (maxSteps := 4000000) only [hp2,hp3,Kz,Ut,Uw,Uv,Uu,szV,U1]
                        repeat' (first | with_reducible assumption | with_reducible refine And.intro ?_ ?_ | intro _ | omega | (rw [Ux]; omega))
                        refine ⟨(k + 1, last, w2), by ((try simp only [Uz, killAll, setSlots, updAll, upd, U9, setCs, putC, Nat.reduceDiv, Nat.reduceMod, Nat.reduceMul, Nat.reduceAdd, Nat.reduceEqDiff, List.set_cons_zero, List.set_cons_succ, if_true, if_false, reduceIte]); (first | refine Wk.of_fl ?_ | skip); simp only [Wk, wkK, wkCs, wkT, wk1, AV.kept, keptAll, wkO, lk, wkObj, and_true, true_and, and_self, Nat.reduceEqDiff, Nat.reduceLeDiff, if_true, if_false, reduceIte, reduceCtorEq, Option.isSome, false_implies]; try simp [Wk, wkK, wkT, wk1, AV.kept, keptAll, wkO, lk, wkObj]), by simp only; omega, by simp only; omega, ?_, by simp only; omega⟩
                        simp only
                        rw [show arV p - (k + 1) = m by omega]
                        exact hR))
                | false =>
                  have n6 : (x.kind != 6) = true := by rw [bne, k6]; rfl
                  cases k7 : (x.kind == 7) with
                  | true =>
                    have n7 : (x.kind != 7) = false := by rw [bne, k7]; rfl
                    have hb : badV p x last = false := by simp only [badV, h4, hlb, h7, k6, k7, cond_true, cond_false, Bool.not_true, Bool.not_false, Bool.or_false, Bool.or_true, Bool.true_or, Bool.false_or]
                    have hmo : moreV p = 0 := by simp only [moreV, h7, cond_true, cond_false]
                    have hla : lastV p x last = last := by simp only [lastV, h4, cond_true, cond_false]
                    rw [hb, cond_false, hmo, hla] at hR
                    have hmj := Lz (v := v) (f := f) (i := j) (d := d + 0)
                    obtain ⟨w, hw⟩ : ∃ w, treeP v f j (d + 0) = w := ⟨_, rfl⟩
                    rw [hw] at hR hmj
                    obtain ⟨w1, w2⟩ := w
                    simp only at hR hmj
                    have hp2 : (bcon_treeV n).post ⟨v, j, f, d + 0⟩ = vboxed v w2 := by rw [T0, hw]
                    have hp3 : (bcon_treeV n).res ⟨v, j, f, d + 0⟩ = .bool w1 := by rw [Dw, hw]
                    (sym =>
                     simp [hltb,hleb2,hel2,h4,h7,hlb,n6,n7,hm0,hm1,Ut,Uw,Uv,Uu,szV,Kv,Nq,H5,Zb,Zc,Zd,Ze,Zf,Zg,Zo,Zp,Zq,Zs,Zt,Zu,Zv,Zw,Zx,Zy,Z6,Qb,Qd,Qk,Ql,Qm,Qq,Qs,Q1,Q2,Q4,Jf,Jh,Ji,Jl,Jx,Jy,Jz,J4,J5,J7,J8,J9,Xa,Xb,Xo,Xq,Xr,X1,X2,X4,X5,X6,Wa,Wd,Wf,Wg,Wh,Wj,Wr,Ws,Wt,Wu,Wz,W0,W3,W4,W5,W6,W7,W8,W9,Yb,Yc,Ye,Yf,Yg,Yi,Yj,Yk,Yo,Y5,Y6,Y7,Y8,Y9,Va,Vc,Vd,Ve,Vn,Vp,Vr,V4,V5,V6,V8,Uh,Ui,Uj,Uk,Ul,Um,Un,U2,Gr,Kc,Kd,B3]
                     tactic =>
                      try simp only [Uy] at *
                      try simp only [nc2] at *
                      try simp (maxSteps := 4000000) only [hltb,hleb2,hel2,h4,h7,hlb,n6,n7,hm0,hm1,Ut,Uw,Uv,Uu,szV,U1]
                      repeat' (first | with_reducible assumption | with_reducible refine And.intro ?_ ?_ | intro _ | omega | (rw [Ux]; omega))
                      refine M2 (bc := bcon_treeV n) ⟨v, j, f, d + 0⟩ [90000, 90001, 90002] ⟨hv, hG, by simp only; omega, by simp only; omega, by simp only; omega⟩ rfl (by simp) (by rw [hp2]; rfl) ?_ ?_ ?_
                      · show standAt _ _ (vboxed v j) _
                        rw [Kz]
                        simp [standAt,lk,rnO,rnA,rnAs,rk]
                      · show freeAt (List.drop (vboxed v j).length _) _
                        rw [Kz]
                        simp [freeAt,lk]
                      cases w1 with
                      | false =>
                        rw [cond_false] at hR
                        injection hR with hr1 hr2
                        subst hr1
                        subst hr2
                        (sym =>
                         simp [hp2,hp3,Kz,Ut,Uw,Uv,Uu,szV,Kv,Ge,Zb,Zc,Ze,Zf,Zg,Qc,Qd,Qo,Qq,Qs,Qt,Qu,Qv,Qw,Qx,Q1,Q2,Q4,Ji,Jk,Jn,Jo,Jp,Jq,J4,J5,J6,J7,J8,J9,Xa,Xb,Xe,Xk,Xl,X2,X4,X5,X9,Wa,Wd,Wf,Wg,Wr,Ws,Wt,Wu,W4,W5,W8,W9,Yd,Yh,Y5,Y6,Y7,Y8,Vo,Vr,V5,Uh,Uj,Uk,Ku]
                         tactic =>
                          try simp only [Uy] at *
                          try simp only [nc2] at *
                          try simp (maxSteps := 4000000) only [hp2,hp3,Kz,Ut,Uw,Uv,Uu,szV,U1]
                          repeat' (first | with_reducible assumption | with_reducible refine And.intro ?_ ?_ | intro _ | omega | (rw [Ux]; omega))
                          refine ⟨[90000, 90001, 90002], by simp, rfl, Hh, ?_⟩
                          simp [standAt,lk,rnO,rnA,rnAs,rk])
                      | true =>
                        rw [cond_true] at hR
                        (sym =>
                         simp [hp2,hp3,Kz,Ut,Uw,Uv,Uu,szV,Kv,H5,Zb,Zc,Ze,Zf,Zg,Qb,Qc,Qd,Qq,Qs,Qt,Qu,Q1,Q2,Q4,Ji,Jn,Jo,Jq,J4,J5,J6,J7,J8,J9,Xa,Xb,X1,X2,X5,Wa,Wd,Wf,Wg,Wr,Ws,Wt,Wu,W8,W9,Yc,Yd,Yg,Yh,Y5,Y6,Y7,Y8,Vn,Vr,V4,Ui,Uj,U2,Ku]
                         tactic =>
                          try simp only [Uy] at *
                          try simp only [nc2] at *
                          try simp (maxSteps := 4000000) only [hp2,hp3,Kz,Ut,Uw,Uv,Uu,szV,U1]
                          repeat' (first | with_reducible assumption | with_reducible refine And.intro ?_ ?_ | intro _ | omega | (rw [Ux]; omega))
                          refine ⟨(k + 1, last, w2), by ((try simp only [Uz, killAll, setSlots, updAll, upd, U9, setCs, putC, Nat.reduceDiv, Nat.reduceMod, Nat.reduceMul, Nat.reduceAdd, Nat.reduceEqDiff, List.set_cons_zero, List.set_cons_succ, if_true, if_false, reduceIte]); (first | refine Wk.of_fl ?_ | skip); simp only [Wk, wkK, wkCs, wkT, wk1, AV.kept, keptAll, wkO, lk, wkObj, and_true, true_and, and_self, Nat.reduceEqDiff, Nat.reduceLeDiff, if_true, if_false, reduceIte, reduceCtorEq, Option.isSome, false_implies]; try simp [Wk, wkK, wkT, wk1, AV.kept, keptAll, wkO, lk, wkObj]), by simp only; omega, by simp only; omega, ?_, by simp only; omega⟩
                          simp only
                          rw [show arV p - (k + 1) = m by omega]
                          exact hR))
                  | false =>
                    have n7 : (x.kind != 7) = true := by rw [bne, k7]; rfl
                    have hb : badV p x last = true := by simp only [badV, h4, hlb, h7, k6, k7, cond_true, cond_false, Bool.not_true, Bool.not_false, Bool.or_false, Bool.or_true, Bool.true_or, Bool.false_or]
                    rw [hb, cond_true] at hR
                    injection hR with hr1 hr2
                    subst hr1
                    subst hr2
                    (sym =>
                     simp [hltb,hleb2,hel2,h4,h7,hlb,n6,n7,hm0,hm1,Ut,Uw,Uv,Uu,szV,Kv,Ge,Zb,Zc,Zd,Ze,Zf,Zg,Zo,Zp,Zq,Zs,Zt,Zu,Zv,Zw,Zx,Zy,Z6,Qb,Qd,Qk,Ql,Qm,Qo,Qq,Qs,Qv,Qw,Qx,Q1,Q2,Q4,Jh,Ji,Jk,Jp,Jx,Jy,Jz,J4,J5,J7,J8,J9,Xa,Xb,Xe,Xk,Xl,Xo,Xq,Xr,X1,X2,X4,X5,X6,X9,Wa,Wd,Wf,Wg,Wh,Wj,Wr,Ws,Wt,Wu,Wz,W0,W3,W4,W5,W6,W7,W8,W9,Yb,Yc,Ye,Yf,Yg,Yi,Yj,Yk,Yo,Y5,Y6,Y7,Y8,Va,Vc,Vd,Ve,Vn,Vp,Vr,V4,V5,V6,V8,Uh,Ui,Uj,Uk,Ul,Um,Un,U2,Gr,Kc,Kd]
                     tactic =>
                      try simp only [Uy] at *
                      try simp only [nc2] at *
                      try simp (maxSteps := 4000000) only [hltb,hleb2,hel2,h4,h7,hlb,n6,n7,hm0,hm1,Ut,Uw,Uv,Uu,szV,U1]
                      repeat' (first | with_reducible assumption | with_reducible refine And.intro ?_ ?_ | intro _ | omega | (rw [Ux]; omega))
                      refine ⟨[90000, 90001, 90002], by simp, rfl, Hh, ?_⟩
                      simp [standAt,lk,rnO,rnA,rnAs,rk])
        · have hz : arV p - k = 0 := by omega
          rw [hz, kidsP] at hR
          injection hR with hr1 hr2
          subst hr1
          subst hr2
          (sym =>
           simp [hltb,Ut,Uw,Uv,Uu,szV,Kv,Ge,Zb,Zc,Ze,Zf,Zg,Qb,Qd,Qo,Qq,Qs,Qv,Qw,Qx,Q1,Q2,Q4,Ji,Jk,Jp,Jx,Jy,Jz,J4,J5,J7,J8,J9,Xa,Xb,Xe,Xk,Xl,X2,X4,X5,X8,X9,Wa,Wd,Wf,Wg,Wr,Ws,Wt,Wu,W4,W5,W8,W9,Yb,Yc,Yg,Y5,Y6,Y7,Y8,Vr,V5,Ui,Uj,Uk,Ul,U2]
           tactic =>
            try simp only [Uy] at *
            try simp only [nc2] at *
            try simp (maxSteps := 4000000) only [hltb,Ut,Uw,Uv,Uu,szV,U1]
            repeat' (first | with_reducible assumption | with_reducible refine And.intro ?_ ?_ | intro _ | omega | (rw [Ux]; omega))
            refine ⟨[90000, 90001, 90002], by simp, rfl, Hh, ?_⟩
            simp [standAt,lk,rnO,rnA,rnAs,rk]))
theorem R2 : ∀ n, GoodB Try.prog (52, bcon_treeV n)
  | 0 => goodb_void (U0 Try.func52 (by kernel_rfl) rfl) bcon_treeV_zero
  | n + 1 => stepb_treeV n (R2 n)
end Go.Am.Ty
set_option linter.unusedSimpArgs false
set_option linter.unusedVariables false
set_option maxHeartbeats 2000000
namespace Go.Am.Ty
open Go.Proofs Go.Rose Go.Rose.Rose
open Enc (enc dec)
noncomputable def bcon_treeVA : BCon := bcon_treeV 1000002
theorem goodb_treeVA : GoodB Try.prog (52, bcon_treeVA) := R2 _
theorem treeVA_post {v : List VNode} {i f d : Nat} : bcon_treeVA.post ⟨v, i, f, d⟩ = vboxed v (treeP v f i d).2 := rfl
theorem treeVA_res {v : List VNode} {i f d : Nat} : bcon_treeVA.res ⟨v, i, f, d⟩ = .bool (treeP v f i d).1 := rfl
noncomputable def rightV (v : List VNode) : Bool := ltB 0 (v.length : Int) && (leB (v.length : Int) 10000 && ((v.getD 0 v0).label == [] && ((treeP v v.length 0 1).1 && ((treeP v v.length 0 1).2 : Int) == (v.length : Int))))
noncomputable def con_RightV : Con := con1 (fun (v : Sl VNode) => v.l.length ≤ 1000000 ∧ ∀ m ∈ v.l, GoodN m) (fun v => rightV v.l)
noncomputable def ctx_RightV : Ctx := ⟨tab, lkC [], 60, lkB [(52, bcon_treeVA)], [], false⟩
theorem P1 : ctx_RightV.τ = tab := rfl
theorem P2 : ctx_RightV.dp = 60 := rfl
theorem ctx_RightV_b : ctx_RightV.Δ = lkB [(52, bcon_treeVA)] := rfl
set_option maxRecDepth 100000 in
theorem Db : Good Try.prog (28, con_RightV) := by
  refine ⟨U0 Try.func28 (by kernel_rfl) rfl, ?_⟩
  have K : CtxOk Try.prog ctx_RightV := U4 Ki Ka (by simp) (by
    intro p hp
    simp only [List.mem_cons, List.not_mem_nil, or_false] at hp
    rcases hp with rfl
    · exact goodb_treeVA)
  obtain ⟨c, hc⟩ : ∃ c, Try.f28.body = some c := ⟨_, rfl⟩
  refine U5 K Try.func28 hc [.tmp 2] rfl 31 rfl (fun cvs hpre => ?_)
  change con_RightV.pre cvs at hpre
  unfold con_RightV at hpre
  obtain ⟨⟨v⟩, rfl, hv, hG⟩ := K1 hpre
  simp only at hv hG
  obtain ⟨w, hw⟩ : ∃ w, treeP v v.length 0 1 = w := ⟨_, rfl⟩
  obtain ⟨w1, w2⟩ := w
  have hR : rightV v = (ltB 0 (v.length : Int) && (leB (v.length : Int) 10000 && ((v.getD 0 v0).label == [] && (w1 && (w2 : Int) == (v.length : Int))))) := by unfold rightV; rw [hw]
  simp only [Try.f28, Option.some.injEq] at hc
  subst hc
  rcases Mf 0 v.length with ⟨h0, h0b⟩ | ⟨h0, h0b⟩
  case inr =>
    rw [h0b, Bool.false_and] at hR
    (sym =>
     simp [h0b,hR,Ut,Uw,Uv,Uu,szV,P1,P2,con_RightV.eq_def,Za,Zb,Zc,Zd,Ze,Zf,Zo,Zp,Zq,Zt,Zu,Zv,Zw,Z6,Qb,Qd,Qi,Qk,Ql,Qn,Qo,Qp,Qq,Qs,Q1,Q2,Q4,Q8,Ja,Jf,Jh,Ji,Jk,Jw,J2,J3,Xe,Xt,X2,X4,X9,Wa,Wd,Wf,Wg,Wh,Wj,Wr,Ws,Wt,Wu,Ww,Wy,Wz,W4,W5,W6,W7,Yc,Yg,Yl,Yq,Yw,Yy,Yz,Y0,Y5,Y6,Y7,Y8,Y9,Va,Vc,Vd,Ve,Vh,Vs,V4,V5,Ua,Uc,Uf,Ug,Ui,Uk,Um,Un,U2,Kc,Kd,B3])
  rw [h0b, Bool.true_and] at hR
  have hpos : 0 < v.length := by omega
  have hel := U8 v0 hpos
  rcases Ba v.length 10000 with ⟨h1, h1b⟩ | ⟨h1, h1b⟩
  case inr =>
    rw [h1b, Bool.false_and] at hR
    (sym =>
     simp [h0b,h1b,hR,Ut,Uw,Uv,Uu,szV,P1,P2,con_RightV.eq_def,Za,Zb,Zc,Zd,Ze,Zf,Zo,Zp,Zq,Zt,Zu,Zv,Zw,Z6,Qb,Qd,Qi,Qk,Ql,Qn,Qo,Qp,Qq,Qs,Q1,Q2,Q4,Q8,Ja,Jf,Jh,Ji,Jk,Jw,J2,J3,Xe,Xt,X2,X4,X9,Wa,Wd,Wf,Wg,Wh,Wj,Wr,Ws,Wt,Wu,Ww,Wy,Wz,W4,W5,W6,W7,Yc,Yg,Yl,Yq,Yw,Yy,Yz,Y0,Y5,Y6,Y7,Y8,Y9,Va,Vc,Vd,Ve,Vh,Vs,V4,V5,Ua,Uc,Uf,Ug,Uh,Ui,Uk,Um,Un,U2,Kc,Kd,B3])
  rw [h1b, Bool.true_and] at hR
  obtain ⟨p, hp⟩ : ∃ p, v.getD 0 v0 = p := ⟨_, rfl⟩
  rw [hp] at hel hR
  cases hnm : (p.label == []) with
  | false =>
    rw [hnm, Bool.false_and] at hR
    (sym =>
     simp [h0b,h1b,hel,hnm,hR,Ut,Uw,Uv,Uu,szV,P1,P2,con_RightV.eq_def,Za,Zb,Zc,Zd,Ze,Zf,Zo,Zp,Zq,Zs,Zt,Zu,Zv,Zw,Zx,Zy,Z6,Qb,Qd,Qi,Qk,Ql,Qn,Qo,Qp,Qq,Qs,Q1,Q2,Q4,Q8,Ja,Jf,Jh,Ji,Jk,Jw,J2,J3,Xe,Xt,X2,X4,X9,Wa,Wd,Wf,Wg,Wh,Wj,Wr,Ws,Wt,Wu,Ww,Wy,Wz,W4,W5,W6,W7,Yc,Ye,Yg,Yi,Yk,Yl,Yq,Ys,Yu,Yw,Yy,Yz,Y0,Y5,Y6,Y7,Y8,Y9,Va,Vc,Vd,Ve,Vh,Vq,Vs,V4,V5,V6,V8,Ua,Uc,Uf,Ug,Uh,Ui,Uj,Uk,Um,Un,U2,Gr,Kc,Kd,B3]
     tactic =>
      try simp only [Uy] at *
      try simp only [nc2] at *
      try simp (maxSteps := 4000000) only [h0b,h1b,hel,hnm,hR,Ut,Uw,Uv,Uu,szV,U1]
      repeat' (first | with_reducible assumption | with_reducible refine And.intro ?_ ?_ | intro _ | omega | (rw [Ux]; omega)))
  | true =>
    rw [hnm, Bool.true_and] at hR
    have hp2 : bcon_treeVA.post ⟨v, 0, v.length, 1⟩ = vboxed v w2 := by rw [treeVA_post, hw]
    have hp3 : bcon_treeVA.res ⟨v, 0, v.length, 1⟩ = .bool w1 := by rw [treeVA_res, hw]
    (sym =>
     simp [h0b,h1b,hel,hnm,Ut,Uw,Uv,Uu,szV,P1,ctx_RightV_b,con_RightV.eq_def,Za,Zb,Zc,Zd,Ze,Zf,Zo,Zp,Zq,Zs,Zt,Zu,Zv,Zw,Zx,Zy,Z6,Qb,Qd,Qi,Qk,Ql,Qq,Qs,Q1,Q2,Q4,Ja,Jf,Jh,Ji,Jl,Jw,J2,J3,Xt,X2,X4,Wa,Wd,Wf,Wg,Wh,Wj,Wr,Ws,Wt,Wu,Ww,Wy,Wz,W4,W5,W6,W7,Yc,Ye,Yg,Yi,Yk,Yl,Yq,Ys,Yu,Yw,Yy,Yz,Y0,Y5,Y6,Y7,Y8,Y9,Va,Vc,Vd,Ve,Vh,Vq,Vs,V4,V5,V6,V8,Ua,Uc,Uf,Ug,Uh,Uj,Uk,Um,Un,U2,Gr,Kc,Kd,B3]
     tactic =>
      try simp only [Uy] at *
      try simp only [nc2] at *
      try simp (maxSteps := 4000000) only [h0b,h1b,hel,hnm,Ut,Uw,Uv,Uu,szV,U1]
      repeat' (first | with_reducible assumption | with_reducible refine And.intro ?_ ?_ | intro _ | omega | (rw [Ux]; omega))
      refine M2 (bc := bcon_treeVA) ⟨v, 0, v.length, 1⟩ [3, 1, 4] ⟨hv, hG, by simp only; omega, by simp only; omega, by simp only; omega⟩ rfl (by simp) (by rw [hp2]; rfl) ?_ ?_ ?_
      · show standAt _ _ (vboxed v 0) _
        rw [Kz]
        simp [standAt,lk,rnO,rnA,rnAs,rk]
        rfl
      · show freeAt (List.drop (vboxed v 0).length _) _
        rw [Kz]
        simp [freeAt,lk]
      cases w1 with
      | false =>
        have hRf : rightV v = false := by rw [hR]; rfl
        (sym =>
         simp [hp2,hp3,Kz,hRf,Ut,Uw,Uv,Uu,szV,P2,Zb,Zc,Zd,Ze,Zf,Zt,Qn,Qo,Qp,Qq,Qs,Qt,Qu,Q1,Q2,Q4,Q8,Ji,Jk,Jn,Jo,Jq,Xe,X9,Wa,Wd,Wf,Wr,Ws,W6,W7,Y5,Y6,Y7,Y8,Vr,V5,Ui,Uk])
      | true =>
        have hRf : rightV v = ((w2 : Int) == (v.length : Int)) := by rw [hR]; rfl
        (sym =>
         simp [hp2,hp3,Kz,hRf,Ut,Uw,Uv,Uu,szV,P1,P2,Zb,Zc,Zd,Ze,Zf,Zo,Zp,Zq,Zt,Zv,Z6,Qb,Qd,Qn,Qo,Qp,Qq,Qs,Qt,Qu,Q1,Q2,Q4,Q8,Jh,Ji,Jk,Jn,Jo,Jq,Xe,X9,Wa,Wd,Wf,Wg,Wh,Wr,Ws,W4,W5,W6,W7,Yc,Yf,Yg,Yj,Y5,Y6,Y7,Y8,Vr,V5,Uh,Uk,Um,U2,Kc,Kd]))
end Go.Am.Ty
set_option linter.unusedSimpArgs false
set_option linter.unusedVariables false
set_option maxHeartbeats 2000000
namespace Go.Am.Ty
open Go.Proofs Go.Rose Go.Rose.Rose
open Enc (enc dec)
theorem sameV1 (x y : VNode) : sameV [x] [y] = same1V x y := by
  rw [Bool.eq_iff_iff, L3]
  unfold sameV
  simp
theorem same3_nil (t : List Node) : same3 [] t = ((t.length : Int) == 0) := by
  unfold same3
  cases t with
  | nil => rfl
  | cons a b =>
    rw [show ((((a :: b).length : Nat) : Int) == 0) = false by rw [beq_eq_false_iff_ne, List.length_cons]; omega]
    rfl
theorem agree_arrow {t u : List Node} (ht : arrowB t = true) (hu : arrowB u = true) : agreeT t u = agX false (treeAt ar t 0) (treeAt ar u 0) := by
  obtain ⟨x, rfl, hx⟩ := N0 (Ns.1 ht).1
  obtain ⟨y, rfl, hy⟩ := N0 (Ns.1 hu).1
  unfold agreeT
  rw [E6 hx, E6 hy, agX_ov (by rw [hx.name, hy.name])]
theorem uses_node (n : VNode) : nodeB n = usesB n := by
  unfold nodeB usesB typV
  simp only [sameV1, same1V, same3_nil, L2, beq_self_eq_true, Bool.true_and, Bool.and_true]
  rw [show (([] : List UInt8) == n.name) = (n.name == []) by rw [Bool.beq_comm], show ((0 : Int) == n.many) = (n.many == 0) by rw [Bool.beq_comm], show ((0 : Int) == n.num) = (n.num == 0) by rw [Bool.beq_comm]]
  have hw : (arrowB n.t && (arrowB n.u && (agreeT n.t n.u && !same3 n.t n.u))) = wrapB n := by
    unfold wrapB
    cases ht : arrowB n.t with
    | false => rfl
    | true =>
      cases hu : arrowB n.u with
      | false => rfl
      | true => rw [agree_arrow ht hu]
  rw [hw]
  ac_rfl
def lastQ (n : VNode) (ks : List (Rose VNode)) (last : List UInt8) (q : Nat) : List UInt8 := cond (n.kind == 4) (if q = 0 then last else (kidR ks (q - 1)).label) last
theorem I0 {x : Rose VNode} {xs : List (Rose VNode)} {q : Nat} : kidR (x :: xs) (q + 1) = kidR xs q := by
  unfold kidR slG sls
  simp
theorem Iz {x : Rose VNode} {xs : List (Rose VNode)} : kidR (x :: xs) 0 = x.root := D5 (by simp)
theorem lastQ_succ {n : VNode} {x : Rose VNode} {xs : List (Rose VNode)} {last : List UInt8} {q : Nat} : lastQ n (x :: xs) last (q + 1) = lastQ n xs (lastV n x.root last) q := by
  unfold lastQ lastV
  cases n.kind == 4 with
  | false => rfl
  | true =>
    simp only [cond_true]
    rw [if_neg (by omega)]
    cases q with
    | zero => rw [if_pos rfl, Nat.zero_add, Nat.sub_self, Iz]
    | succ q => rw [if_neg (by omega), Nat.add_sub_cancel, I0, Nat.add_sub_cancel]
theorem word_less {s : List UInt8} (h : isWord s = true) : Op.bytesLess [] s = true := by
  have hn : s ≠ [] := by intro e; subst e; cases h
  have h1 := less_not s []
  rw [less_nil, Bool.false_or] at h1
  cases hb : Op.bytesLess [] s with
  | true => rfl
  | false => rw [hb] at h1; rw [show (s == []) = false by rw [beq_eq_false_iff_ne]; exact hn] at h1; cases h1
theorem okKids_bad {n : VNode} {ks : List (Rose VNode)} : okKids n ks = true ↔ ∀ q, q < ks.length → badV n (kidR ks q) (lastQ n ks [] q) = false := by
  unfold okKids
  rw [Gq]
  refine forall_congr' fun q => imp_congr_right fun hq => ?_
  unfold kidB wrapK badV lastQ
  cases h4 : (n.kind == 4) with
  | true =>
    have h7 : (n.kind == 7) = false := by rw [beq_iff_eq] at h4; rw [h4]; rfl
    rw [h7]
    simp only [cond_true, Bool.not_false, Bool.true_or, Bool.and_true]
    cases hw : isWord (kidR ks q).label with
    | false => simp
    | true =>
      rw [less_not]
      by_cases h0 : q = 0
      · rw [if_pos h0, word_less hw]; simp [h0]
      · rw [if_neg h0, show (q == 0) = false by rw [beq_eq_false_iff_ne]; exact h0]
        cases Op.bytesLess (kidR ks (q - 1)).label (kidR ks q).label <;> simp
  | false =>
    simp only [cond_false]
    cases (kidR ks q).label == [] <;> cases n.kind == 7 <;> cases (kidR ks q).kind == 6 <;> cases (kidR ks q).kind == 7 <;> simp
theorem not_leV {v : List VNode} {i : Nat} (h : i < v.length) : leB (v.length : Int) (i : Int) = false := by rw [Pk]; omega
mutual
theorem treeP_ok {v : List VNode} : ∀ {x : Rose VNode} {i f d : Nat}, At arV v i x → (nds x).length ≤ f → okV x d = true → treeP v f i d = (true, i + (nds x).length)
  | mk n ks, i, f, d, h, hd, hl => by
    rw [K6, List.length_cons] at hd
    cases f with
    | zero => omega
    | succ f =>
      have hlt := h.lt
      have hroot : v.getD i v0 = n := h.root v0
      obtain ⟨hks, hkl⟩ := h.kids
      simp only [kids, root] at hks hkl
      rw [okV] at hl
      simp only [Bool.and_eq_true, decide_eq_true_eq] at hl
      obtain ⟨h1, h2, h3, h4⟩ := hl
      have hnb : nodeB n = true := by rw [uses_node]; exact h2
      have hdb : ltB 100 (d : Int) = false := by rw [Gn]; omega
      rw [treeP, not_leV hlt, cond_false, hdb, cond_false, hroot, hnb, cond_true, ← hkl]
      rw [kidsP_ok hks (by omega) h4 (okKids_bad.1 h3), K6, List.length_cons]
      congr 1
      omega
theorem kidsP_ok {v : List VNode} : ∀ {ks : List (Rose VNode)} {p : VNode} {last : List UInt8} {j f d : Nat}, Ats arV v j ks → (ndss ks).length ≤ f → okVs ks (d + moreV p) = true → (∀ q, q < ks.length → badV p (kidR ks q) (lastQ p ks last q) = false) →
    kidsP v (treeP v f) p d ks.length last j = (true, j + (ndss ks).length)
  | [], p, last, j, f, d, _, _, _, _ => by rw [List.length_nil, kidsP]; simp [ndss]
  | x :: xs, p, last, j, f, d, h, hd, hl, hb => by
    obtain ⟨hx, hxs⟩ := h.head
    have hj := hx.lt
    rw [ndss, List.length_append] at hd
    rw [okVs, Bool.and_eq_true] at hl
    have hb0 : badV p x.root last = false := by
      have := hb 0 (by simp)
      rw [Iz] at this
      rw [show lastQ p (x :: xs) last 0 = last by unfold lastQ; cases p.kind == 4 <;> rfl] at this
      exact this
    rw [List.length_cons, kidsP, not_leV hj, cond_false, hx.root v0, hb0, cond_false, treeP_ok hx (by omega) hl.1]
    simp only [cond_true]
    rw [kidsP_ok hxs (by omega) hl.2 (fun q hq => by
      have := hb (q + 1) (by simp only [List.length_cons]; omega)
      rw [lastQ_succ, I0] at this
      exact this), ndss, List.length_append]
    congr 1
    omega
end
theorem ats_consV {v : List VNode} {j : Nat} {x : Rose VNode} {xs : List (Rose VNode)} (hx : At arV v j x) (hxs : Ats arV v (j + (nds x).length) xs) : Ats arV v j (x :: xs) := by
  obtain ⟨h1, r, h2⟩ := hx
  obtain ⟨g1, s, g2⟩ := hxs
  refine ⟨⟨h1, g1⟩, s, ?_⟩
  rw [← List.drop_drop, h2, List.drop_left'] at g2
  · rw [h2, g2, ndss, List.append_assoc]
  · rfl
theorem at_of_atsV {v : List VNode} {i : Nat} {ks : List (Rose VNode)} (hi : i < v.length) (hk : ks.length = arV (v.getD i v0)) (h : Ats arV v (i + 1) ks) : At arV v i (mk (v.getD i v0) ks) := by
  obtain ⟨g1, s, g2⟩ := h
  refine ⟨⟨hk, g1⟩, s, ?_⟩
  rw [List.drop_eq_getElem_cons hi, g2, K6]
  simp [hi]
theorem kidsP_tree {v : List VNode} {p : VNode} {d : Nat} {tr : Nat → Nat → Bool × Nat} (htr : ∀ i j d, tr i d = (true, j) → ∃ x, At arV v i x ∧ j = i + (nds x).length ∧ okV x d = true) : ∀ {m : Nat} {last : List UInt8} {j e : Nat}, kidsP v tr p d m last j = (true, e) → j ≤ v.length →
    ∃ ks : List (Rose VNode), ks.length = m ∧ Ats arV v j ks ∧ e = j + (ndss ks).length ∧ okVs ks (d + moreV p) = true ∧ ∀ q, q < ks.length → badV p (kidR ks q) (lastQ p ks last q) = false
  | 0, last, j, e, h, hj => by
    rw [kidsP] at h
    injection h with _ h
    exact ⟨[], rfl, ⟨trivial, v.drop j, by simp [ndss]⟩, by simp [ndss, h], rfl, fun q hq => by simp at hq⟩
  | m + 1, last, j, e, h, hj => by
    rw [kidsP] at h
    cases hl : leB (v.length : Int) (j : Int) with
    | true => rw [hl, cond_true] at h; cases h
    | false =>
      rw [hl, cond_false] at h
      cases hb : badV p (v.getD j v0) last with
      | true => rw [hb, cond_true] at h; cases h
      | false =>
        rw [hb, cond_false] at h
        obtain ⟨w, hw⟩ : ∃ w, tr j (d + moreV p) = w := ⟨_, rfl⟩
        obtain ⟨w1, w2⟩ := w
        rw [hw] at h
        simp only at h
        cases w1 with
        | false => rw [cond_false] at h; cases h
        | true =>
          rw [cond_true] at h
          obtain ⟨x, hx, rfl, hok⟩ := htr j w2 _ hw
          obtain ⟨ks, e1, e2, e3, e4, e5⟩ := kidsP_tree htr h hx.le
          have hro := hx.root v0
          refine ⟨x :: ks, by simp [e1], ats_consV hx e2, ?_, ?_, fun q hq => ?_⟩
          · rw [e3, ndss, List.length_append]; omega
          · rw [okVs, hok, e4]; rfl
          · cases q with
            | zero =>
              rw [hro] at hb
              rw [Iz, show lastQ p (x :: ks) last 0 = last by unfold lastQ; cases p.kind == 4 <;> rfl]
              exact hb
            | succ q =>
              rw [lastQ_succ, I0, ← hro]
              exact e5 q (by simpa using hq)
theorem treeP_tree {v : List VNode} : ∀ {f i j d : Nat}, treeP v f i d = (true, j) → ∃ x, At arV v i x ∧ j = i + (nds x).length ∧ okV x d = true
  | 0, i, j, d, h => by rw [treeP] at h; cases h
  | f + 1, i, j, d, h => by
    rw [treeP] at h
    cases hl : leB (v.length : Int) (i : Int) with
    | true => rw [hl, cond_true] at h; cases h
    | false =>
      rw [hl, cond_false] at h
      rw [Pk] at hl
      have hi : i < v.length := by omega
      cases hdb : ltB 100 (d : Int) with
      | true => rw [hdb, cond_true] at h; cases h
      | false =>
        rw [hdb, cond_false] at h
        rw [Gn] at hdb
        cases hnb : nodeB (v.getD i v0) with
        | false => rw [hnb, cond_false] at h; cases h
        | true =>
          rw [hnb, cond_true] at h
          obtain ⟨ks, e1, e2, e3, e4, e5⟩ := kidsP_tree (tr := treeP v f) (fun i j d h => treeP_tree h) h (by omega)
          refine ⟨mk (v.getD i v0) ks, at_of_atsV hi e1 e2, ?_, ?_⟩
          · rw [e3, K6, List.length_cons]; omega
          · rw [okV, ← uses_node, hnb, okKids_bad.2 e5, e4, show decide (d ≤ 100) = true by rw [decide_eq_true_eq]; omega]
            rfl
theorem C3 (v : List VNode) : rightV v = right19 v := by
  rw [Bool.eq_iff_iff, Bn]
  unfold rightV
  constructor
  · intro h
    simp only [Bool.and_eq_true, beq_iff_eq, Sa, G4] at h
    obtain ⟨h1, h2, h3, h4, h5⟩ := h
    obtain ⟨x, hx, e, hok⟩ := treeP_tree (v := v) (f := v.length) (i := 0) (j := (treeP v v.length 0 1).2) (d := 1) (by rw [← h4])
    have hro := hx.root v0
    have hv : v = nds x := by
      obtain ⟨_, r, h6⟩ := hx
      rw [List.drop_zero] at h6
      have h7 := congrArg List.length h6
      rw [List.length_append] at h7
      have : r = [] := List.length_eq_zero_iff.1 (by omega)
      rw [h6, this, List.append_nil]
    exact ⟨x, hv, hx.1, by rw [← hv]; omega, by rw [← hro]; exact h3, hok⟩
  · rintro ⟨x, rfl, hx⟩
    have ha : At arV (nds x) 0 x := Ni hx.wf
    have hp := K8 x
    have h2 := hx.len
    rw [treeP_ok ha (Nat.le_refl _) hx.ok, ha.root v0, hx.name]
    simp [leB,ltB]
    omega
end Go.Am.Ty
