/- Contracts of functions that the law reaches, and plain laws. Conditions: those that each contract states. -/
import Derived.Test.YtecgdmiigdfgdaaK2
import Derived.Lib.OthersKept
import Derived.WalkKit
import Derived.WalkSmall
import Derived.BigCall
set_option linter.unusedSimpArgs false
set_option linter.unusedVariables false
set_option maxHeartbeats 1000000
namespace Go.Am.Ty
open Go.Proofs
open Enc (enc dec)
def popA : Int → List Int → List Int
  | x, [] => if x = 0 then [] else [x]
  | x, y :: r => if x = 0 then popA (y - 1) r else x :: y :: r
def popL : List Int → List Int
  | [] => []
  | x :: r => popA x r
def shal : List Node → List Int → Bool
  | [], _ => true
  | n :: l, rs => if 100 ≤ rs.length then false else shal l (popA (many3 n) rs)
def shallow3 (t : List Node) : Bool := shal t []
def OpenOk (rs : List Int) : Prop := (∀ x ∈ rs, 0 ≤ x ∧ x ≤ 50) ∧ ∀ x ∈ rs.tail, 1 ≤ x
theorem rev_last {x : Int} {r : List Int} : el ((x :: r).reverse.map enc) r.length = .int .i64 x := by
  simp [el]
theorem rev_take {x : Int} {r : List Int} : ((x :: r).reverse.map (enc : Int → D)).take r.length = r.reverse.map enc := by
  rw [List.reverse_cons, List.map_append, List.take_left' (by simp)]
theorem rev_set {x y : Int} {r : List Int} : ((x :: r).reverse.map (enc : Int → D)).set r.length (.int .i64 y) = (y :: r).reverse.map enc := by
  rw [List.reverse_cons, List.map_append, List.set_append]
  simp
theorem Ip {x : Int} {r : List Int} (h : x ≠ 0) : popA x r = x :: r := by
  cases r <;> simp [popA, h]
def con_shallow3 : Con := con1 (fun (t : Sl Node) => Tame t.l) (fun t => shallow3 t.l)
noncomputable def ctx_shallow3 : Ctx := ⟨tab, lkC [(77, con_many3)], 60, lkB [], [39], false⟩
theorem Nh : ctx_shallow3.τ = tab := rfl
theorem ctx_shallow3_c : ctx_shallow3.Γ = lkC [(77, con_many3)] := rfl
theorem Mi : ctx_shallow3.dp = 60 := rfl
theorem ctx_shallow3_b : ctx_shallow3.Δ = lkB [] := rfl
theorem Sf : ctx_shallow3.cuts = [39] := rfl
theorem Px : ctx_shallow3.wr = false := rfl
set_option maxRecDepth 100000 in
theorem good_shallow3 : Good Try.prog (49, con_shallow3) := by
  refine ⟨U0 Try.func49 (by kernel_rfl) rfl, ?_⟩
  have K : CtxOk Try.prog ctx_shallow3 := U4 Ki Ka (by
    intro p hp
    simp only [List.mem_cons, List.not_mem_nil, or_false] at hp
    rcases hp with rfl
    · exact Ca) (by simp)
  obtain ⟨c, hc⟩ : ∃ c, Try.f49.body = some c := ⟨_, rfl⟩
  refine U5 K Try.func49 hc [.tmp 2] rfl 51 rfl (fun cvs hpre => ?_)
  change con_shallow3.pre cvs at hpre
  unfold con_shallow3 at hpre
  obtain ⟨⟨t⟩, rfl, ⟨ht, hm⟩⟩ := K1 hpre
  simp only at ht hm
  simp only [Try.f49, Option.some.injEq] at hc
  subst hc
  refine Kl 3 (of_decide_eq_true (by kernel_rfl)) ?_
  (sym =>
   simp [Ur,Up,Us,Uo,szN,Uq,Nh,con_shallow3.eq_def,Zb,Zc,Ze,Zf,Zo,Zr,Z1,Qq,Qs,Q1,Q2,Q4,Jb,Jc,Jd,Je,Jg,Jh,Ji,Jw,J2,J3,J4,J5,J7,Xa,Xc,Xm,Xn,Xt,X2,X4,X6,X7,Wa,Wd,Wf,Wg,Wh,Wl,Wr,Ws,Wt,Wu,Ww,Wy,Wz,W3,W4,W5,W8,W9,Yw,Y5,Y6,Y9,Va,Vb,Vc,Vd,Ve,Vh,Vr,Vs,V4,V5,Uj,Uk,U2,Nl]
   tactic =>
    try simp only [Uy] at *
    try simp only [nc2] at *
    try simp (maxSteps := 4000000) only [Ur,Up,Us,Uo,szN,Uq,U1]
    refine Ke [2, 6, 7, 8, 9, 10, 11, 12, 13, 14, 15, 16, 17, 18, 19, 20, 21, 22, 23, 24, 25, 26, 27, 28, 29, 30, 31, 32, 33, 34, 35, 36, 37, 38, 39, 40, 41, 42, 43, 44, 45, 46, 47, 48, 49, 50] (fun p : Nat × List Int => [(3, .sl 5 (p.2.reverse.map enc).length), (4, .d (.int .i64 p.1)), (5, .dead)]) (fun p : Nat × List Int => [(5, .row 1 (p.2.reverse.map enc) 0)]) (fun p : Nat × List Int => p.1 ≤ t.length ∧ p.2.length ≤ 101 ∧ (∀ x ∈ p.2, 1 ≤ x ∧ x ≤ 50) ∧ shal (t.drop p.1) p.2 = shallow3 t) (fun p : Nat × List Int => t.length - p.1) (0, []) ?_ ?_ ?_
    · exact ⟨Nat.zero_le _, by simp, by simp, rfl⟩
    · ((try simp only [Uz, killAll, setSlots, updAll, upd, U9, setCs, putC, Nat.reduceDiv, Nat.reduceMod, Nat.reduceMul, Nat.reduceAdd, Nat.reduceEqDiff, List.set_cons_zero, List.set_cons_succ, if_true, if_false, reduceIte]); (first | refine Wk.of_fl ?_ | skip); simp only [Wk, wkK, wkCs, wkT, wk1, AV.kept, keptAll, wkO, lk, wkObj, and_true, true_and, and_self, Nat.reduceEqDiff, Nat.reduceLeDiff, if_true, if_false, reduceIte, reduceCtorEq, Option.isSome, false_implies]; try simp [Wk, wkK, wkT, wk1, AV.kept, keptAll, wkO, lk, wkObj])
    rintro ⟨k, rs⟩ ⟨h1, h2, h3, h4⟩
    simp only at h1 h2 h3 h4
    rcases Kf k t.length with ⟨hlt, hlb⟩ | ⟨hlt, hlb⟩
    · have hmk := hm (t.getD k ⟨0, [], 0⟩) (by simp [hlt])
      have e1 : shal (t.drop k) rs = if 100 ≤ rs.length then false else shal (t.drop (k + 1)) (popA (many3 (t.getD k ⟨0, [], 0⟩)) rs) := by
        rw [List.drop_eq_getElem_cons hlt, shal]
        simp [hlt]
      have zz1 := U8 (⟨0, [], 0⟩ : Node) hlt
      (sym =>
       simp [hlb,zz1,List.length_reverse,Ur,Up,Us,Uo,szN,Uq,Nh,ctx_shallow3_c,Mi,ctx_shallow3_b,con_many3.eq_def,Zb,Zc,Ze,Zf,Zg,Zo,Zp,Zq,Zr,Zv,Zy,Z1,Z4,Z5,Z6,Z9,Qb,Qd,Qe,Qf,Qn,Qo,Qp,Qq,Qs,Q1,Q2,Q4,Q8,Jb,Jc,Jd,Je,Jf,Jg,Jh,Ji,Jj,Jk,Jl,Jx,Jy,Jz,J4,J5,J7,J8,J9,Xa,Xb,Xc,Xd,Xe,Xo,Xt,X1,X2,X4,X5,X6,X7,X9,Wa,Wd,Wf,Wg,Wh,Wi,Wl,Wr,Ws,Wt,Wu,Wv,Wx,Wy,Wz,W0,W3,W4,W5,W8,W9,Yb,Yc,Yg,Yk,Yl,Yv,Yy,Yz,Y5,Y6,Y7,Y8,Vp,Vr,Vs,V3,V4,V5,V9,Uh,Uj,Uk,Ul,Um,U2,U3,Kb,Nl]
       tactic =>
        try simp only [Uy] at *
        try simp only [nc2] at *
        try simp (maxSteps := 4000000) only [hlb,zz1,List.length_reverse,Ur,Up,Us,Uo,szN,Uq,U1]
        revert e1 hmk
        generalize many3 (t.getD k ⟨0, [], 0⟩) = M
        intro hmk e1
        repeat' (first | with_reducible assumption | with_reducible refine And.intro ?_ ?_ | intro _ | omega | (rw [Ux]; omega))
        · rw [if_pos (by omega)] at e1
          rw [← h4, e1]
        · rw [if_neg (by omega)] at e1
          have e2 : rs.reverse ++ [M] = (M :: rs).reverse := by simp
          have hS : ∀ (q : List Int), q ≠ [] → ((q.length : Nat) : Int) - 1 = ((q.length - 1 : Nat) : Int) := by
            intro q hq
            have := List.length_pos_iff.2 hq
            omega
          refine Ke [23, 24, 25, 26, 27, 28, 29, 30, 31, 32, 33, 34, 35, 36, 37, 38, 39, 40, 41, 42, 43, 44, 45, 46, 47, 48, 49, 50] (fun q : List Int => [(3, .sl 5 (q.reverse.map enc).length), (5, .dead), (12, .dead), (15, .dead), (22, .dead)]) (fun q : List Int => [(5, .row 1 (q.reverse.map enc) 0)]) (fun q : List Int => OpenOk q ∧ q.length ≤ 101 ∧ popL q = popA M rs) (fun q : List Int => q.length) (M :: rs) ?_ ?_ ?_
          · refine ⟨⟨fun x hx => ?_, fun x hx => (h3 x hx).1⟩, by simp only [List.length_cons]; omega, rfl⟩
            rcases List.mem_cons.1 hx with rfl | hx
            · exact hmk
            · have := h3 x hx; omega
          · ((try simp only [Uz, killAll, setSlots, updAll, upd, U9, setCs, putC, Nat.reduceDiv, Nat.reduceMod, Nat.reduceMul, Nat.reduceAdd, Nat.reduceEqDiff, List.set_cons_zero, List.set_cons_succ, if_true, if_false, reduceIte]); (first | refine Wk.of_fl ?_ | skip); simp only [Wk, wkK, wkCs, wkT, wk1, AV.kept, keptAll, wkO, lk, wkObj, and_true, true_and, and_self, Nat.reduceEqDiff, Nat.reduceLeDiff, if_true, if_false, reduceIte, reduceCtorEq, Option.isSome, false_implies]; try simp [Wk, wkK, wkT, wk1, AV.kept, keptAll, wkO, lk, wkObj])
          rintro q ⟨⟨g1, g2⟩, g3, g4⟩
          cases q with
          | nil =>
            have hz : ltB 0 ((0 : Nat) : Int) = false := rfl
            (sym =>
             simp [List.length_reverse,List.reverse_nil,hz,Ur,Up,Us,Uo,szN,Uq,Nh,Mi,Sf,Px,Zb,Zc,Zd,Ze,Zf,Zg,Zo,Zp,Zq,Zt,Zv,Zw,Zy,Z6,Qb,Qd,Qq,Qs,Q1,Q2,Q4,Jh,Ji,Js,Jt,Ju,Jv,Jx,Jy,Jz,J0,J1,J4,J5,J6,J7,J8,J9,Xa,Xb,Xe,X1,X2,X4,X5,X6,X8,Wa,Wd,Wf,Wg,Wh,Wr,Ws,Wt,Wu,W3,W5,W6,W7,W8,W9,Ya,Yb,Yc,Yg,Yk,Yl,Yr,Y5,Y6,Y7,Y8,Vr,V1,V4,V5,Uh,Ui,Uj,Uk,Ul,Um,U2,Nl]
             tactic =>
              try simp only [Uy] at *
              try simp only [nc2] at *
              try simp (maxSteps := 4000000) only [List.length_reverse,List.reverse_nil,hz,Ur,Up,Us,Uo,szN,Uq,U1]
              repeat' (first | with_reducible assumption | with_reducible refine And.intro ?_ ?_ | intro _ | omega | (rw [Ux]; omega))
              simp only [popL] at g4
              exact ⟨(k + 1, []), by ((try simp only [Uz, killAll, setSlots, updAll, upd, U9, setCs, putC, Nat.reduceDiv, Nat.reduceMod, Nat.reduceMul, Nat.reduceAdd, Nat.reduceEqDiff, List.set_cons_zero, List.set_cons_succ, if_true, if_false, reduceIte]); (first | refine Wk.of_fl ?_ | skip); simp only [Wk, wkK, wkCs, wkT, wk1, AV.kept, keptAll, wkO, lk, wkObj, and_true, true_and, and_self, Nat.reduceEqDiff, Nat.reduceLeDiff, if_true, if_false, reduceIte, reduceCtorEq, Option.isSome, false_implies]; try simp [Wk, wkK, wkT, wk1, AV.kept, keptAll, wkO, lk, wkObj]), by simp only; omega, by simp, by simp, by simp only; rw [← h4, e1, g4], by simp only; omega⟩)
          | cons x r =>
            have hz : ltB 0 ((r.length + 1 : Nat) : Int) = true := by rw [G4]; omega
            have hy : ((r.length + 1 : Nat) : Int) - 1 = (r.length : Int) := by omega
            have hx1 := g1 x (by simp)
            have hlt' : el (List.map enc (x :: r).reverse) r.length = .int .i64 x := rev_last
            have htk : List.take r.length (List.map (enc : Int → D) (x :: r).reverse) = List.map enc r.reverse := rev_take
            simp only [List.length_cons] at g3
            by_cases hx0 : x = 0
            · subst hx0
              cases r with
              | nil =>
                have hz1 : ltB 0 ((0 : Nat) : Int) = false := rfl
                simp only [List.length_nil] at hz hy hlt' htk
                (sym =>
                 simp [List.length_reverse,hz,hy,hlt',htk,hz1,List.reverse_nil,Ur,Up,Us,Uo,szN,Uq,Nh,Mi,Sf,Px,Zb,Zc,Zd,Ze,Zf,Zg,Zo,Zp,Zq,Zt,Zv,Zw,Zy,Z6,Qb,Qd,Qq,Qs,Q1,Q2,Q4,Jh,Ji,Js,Jt,Ju,Jv,Jx,Jy,Jz,J0,J1,J4,J5,J6,J7,J8,J9,Xa,Xb,Xe,X1,X2,X4,X5,X6,X8,Wa,Wd,Wf,Wg,Wh,Wr,Ws,Wt,Wu,W4,W5,W6,W7,W8,W9,Ya,Yb,Yc,Yg,Yk,Yl,Yr,Y5,Y6,Y7,Y8,Vc,Vq,Vr,V1,V2,V4,V5,Uh,Ui,Uj,Uk,Ul,Um,U2,Nl]
                 tactic =>
                  try simp only [Uy] at *
                  try simp only [nc2] at *
                  try simp (maxSteps := 4000000) only [List.length_reverse,hz,hy,hlt',htk,hz1,List.reverse_nil,Ur,Up,Us,Uo,szN,Uq,U1]
                  repeat' (first | with_reducible assumption | with_reducible refine And.intro ?_ ?_ | intro _ | omega | (rw [Ux]; omega))
                  exact ⟨[], by ((try simp only [Uz, killAll, setSlots, updAll, upd, U9, setCs, putC, Nat.reduceDiv, Nat.reduceMod, Nat.reduceMul, Nat.reduceAdd, Nat.reduceEqDiff, List.set_cons_zero, List.set_cons_succ, if_true, if_false, reduceIte]); (first | refine Wk.of_fl ?_ | skip); simp only [Wk, wkK, wkCs, wkT, wk1, AV.kept, keptAll, wkO, lk, wkObj, and_true, true_and, and_self, Nat.reduceEqDiff, Nat.reduceLeDiff, if_true, if_false, reduceIte, reduceCtorEq, Option.isSome, false_implies]; try simp [Wk, wkK, wkT, wk1, AV.kept, keptAll, wkO, lk, wkObj]), ⟨by simp, by simp⟩, by simp, by rw [← g4]; rfl, by simp⟩)
              | cons y r =>
                have hy1 := g2 y (by simp)
                have hy2 := g1 y (by simp)
                have hz2 : ltB 0 ((r.length + 1 : Nat) : Int) = true := by rw [G4]; omega
                have hy3 : ((r.length + 1 : Nat) : Int) - 1 = (r.length : Int) := by omega
                have hl2 : el (List.map enc (y :: r).reverse) r.length = .int .i64 y := rev_last
                simp only [List.length_cons] at hz hy hlt' htk g3
                (sym =>
                 simp [List.length_reverse,hz,hy,hlt',htk,hz2,hy3,hl2,rev_set,Ur,Up,Us,Uo,szN,Uq,Nh,Mi,Sf,Px,Zb,Zc,Zd,Ze,Zf,Zg,Zo,Zp,Zq,Zt,Zv,Zw,Zy,Z6,Qb,Qd,Qq,Qs,Q1,Q2,Q4,Jh,Ji,Js,Jt,Ju,Jv,Jx,Jy,Jz,J0,J1,J4,J5,J6,J7,J8,J9,Xa,Xb,Xe,X1,X2,X4,X5,X6,Wa,Wd,Wf,Wg,Wh,Wr,Ws,Wt,Wu,W4,W6,W7,W8,W9,Ya,Yb,Yc,Yg,Yk,Yl,Yr,Y5,Y6,Y7,Y8,Vp,Vr,Vz,V1,V4,V5,Uh,Uj,Uk,Ul,Um,U2,Nl]
                 tactic =>
                  try simp only [Uy] at *
                  try simp only [nc2] at *
                  try simp (maxSteps := 4000000) only [List.length_reverse,hz,hy,hlt',htk,hz2,hy3,hl2,rev_set,Ur,Up,Us,Uo,szN,Uq,U1]
                  repeat' (first | with_reducible assumption | with_reducible refine And.intro ?_ ?_ | intro _ | omega | (rw [Ux]; omega))
                  refine ⟨(y - 1) :: r, by ((try simp only [Uz, killAll, setSlots, updAll, upd, U9, setCs, putC, Nat.reduceDiv, Nat.reduceMod, Nat.reduceMul, Nat.reduceAdd, Nat.reduceEqDiff, List.set_cons_zero, List.set_cons_succ, if_true, if_false, reduceIte]); (first | refine Wk.of_fl ?_ | skip); simp only [Wk, wkK, wkCs, wkT, wk1, AV.kept, keptAll, wkO, lk, wkObj, and_true, true_and, and_self, Nat.reduceEqDiff, Nat.reduceLeDiff, if_true, if_false, reduceIte, reduceCtorEq, Option.isSome, false_implies]; try simp [Wk, wkK, wkT, wk1, AV.kept, keptAll, wkO, lk, wkObj]), ⟨fun z hz => ?_, fun z hz => g2 z (List.mem_cons_of_mem _ hz)⟩, by simp only [List.length_cons]; omega, by rw [← g4]; simp only [popL, popA, if_true], by simp only [List.length_cons]; omega⟩
                  rcases List.mem_cons.1 hz with rfl | hz
                  · omega
                  · exact g1 z (List.mem_cons_of_mem _ (List.mem_cons_of_mem _ hz)))
            · have hxb : (x == (0 : Int)) = false := by simpa using hx0
              (sym =>
               simp [List.length_reverse,hz,hy,hlt',hxb,Ur,Up,Us,Uo,szN,Uq,Nh,Px,Zb,Zc,Zd,Ze,Zf,Zg,Zo,Zp,Zq,Zt,Zv,Zy,Z6,Qb,Qd,Qq,Qs,Q1,Q2,Q4,Jh,Ji,Jx,Jy,Jz,J4,J5,J7,J8,J9,Xa,Xb,X2,X4,X5,X8,Wa,Wd,Wf,Wg,Wh,Wr,Ws,Wt,Wu,W4,W6,W7,W8,W9,Yb,Yc,Yg,Yk,Yr,Y5,Y6,Y7,Y8,Vp,Vr,V4,V5,Uh,Ui,Uj,Uk,Ul,Um,U2,Nl]
               tactic =>
                try simp only [Uy] at *
                try simp only [nc2] at *
                try simp (maxSteps := 4000000) only [List.length_reverse,hz,hy,hlt',hxb,Ur,Up,Us,Uo,szN,Uq,U1]
                repeat' (first | with_reducible assumption | with_reducible refine And.intro ?_ ?_ | intro _ | omega | (rw [Ux]; omega))
                have e3 : popA M rs = x :: r := by rw [← g4]; exact Ip hx0
                refine ⟨(k + 1, x :: r), by ((try simp only [Uz, killAll, setSlots, updAll, upd, U9, setCs, putC, Nat.reduceDiv, Nat.reduceMod, Nat.reduceMul, Nat.reduceAdd, Nat.reduceEqDiff, List.set_cons_zero, List.set_cons_succ, if_true, if_false, reduceIte]); (first | refine Wk.of_fl ?_ | skip); simp only [Wk, wkK, wkCs, wkT, wk1, AV.kept, keptAll, wkO, lk, wkObj, and_true, true_and, and_self, Nat.reduceEqDiff, Nat.reduceLeDiff, if_true, if_false, reduceIte, reduceCtorEq, Option.isSome, false_implies]; try simp [Wk, wkK, wkT, wk1, AV.kept, keptAll, wkO, lk, wkObj]), by simp only; omega, by simp only [List.length_cons]; omega, fun z hz => ?_, by simp only; rw [← h4, e1, e3], by simp only; omega⟩
                rcases List.mem_cons.1 hz with rfl | hz
                · omega
                · exact ⟨g2 z hz, (g1 z (List.mem_cons_of_mem _ hz)).2⟩))
    · (sym =>
       simp [hlb,Ur,Up,Us,Uo,szN,Uq,Nh,Mi,Zb,Zc,Ze,Zf,Zg,Zo,Z6,Qb,Qd,Qn,Qo,Qp,Qq,Qs,Q1,Q2,Q4,Q8,Ji,Jk,Jx,Jy,Jz,J4,J5,J7,J9,Xa,Xb,Xe,X2,X4,X5,X8,X9,Wa,Wd,Wf,Wg,Wh,Wr,Ws,Wt,Wu,W8,W9,Yb,Yc,Yg,Yy,Yz,Y5,Y6,Y7,Y8,Vr,Vs,V5,Ui,Uj,Uk,Ul,Um,U2,U3,Kb]
       tactic =>
        try simp only [Uy] at *
        try simp only [nc2] at *
        try simp (maxSteps := 4000000) only [hlb,Ur,Up,Us,Uo,szN,Uq,U1]
        rw [← h4, List.drop_eq_nil_of_le hlt]
        rfl))
end Go.Am.Ty
set_option linter.unusedSimpArgs false
set_option linter.unusedVariables false
set_option maxHeartbeats 0
namespace Go.Am.Ty
open Go.Proofs
open Enc (enc dec)
abbrev n0 : Node := ⟨0, [], 0⟩
def isRow3 (n : Node) : Bool := n.kind == 6 || n.kind == 7
def labK (p x prev : Node) (pos last : Bool) : Bool :=
  cond (x.kind == 9) (isRow3 p && (last && x.name == []))
    (!((p.kind == 6 && !isWord x.name) || (p.kind == 7 && !isTag x.name)) && (!(!isRow3 p && !(x.name == [])) && !(isRow3 p && (pos && !Op.bytesLess prev.name x.name))))
def kidAt (t : List Node) (l : List Int) (k : Nat) : Node := t.getD (l.getD k 0).toNat n0
def labAt (t : List Node) (i : Nat) (l : List Int) (k : Nat) : Bool := labK (t.getD i n0) (kidAt t l k) (kidAt t l (k - 1)) (ltB 0 k) ((k : Int) == (l.length : Int) - 1)
def lab3 (t : List Node) (i : Nat) : Bool := (((kids3 t i).length : Int) == many3 (t.getD i n0)) && (List.range (kids3 t i).length).all fun k => labAt t i (kids3 t i) k
def Named (t : List Node) : Prop := ∀ n ∈ t, n.name.length ≤ 9223372036854775807
theorem Ov (t : List Node) : ∀ (m q : Nat), ∀ x ∈ kidsFrom t m q, (q : Int) ≤ x ∧ x < t.length
  | 0, q, x, hx => by simp [kidsFrom] at hx
  | m + 1, q, x, hx => by
    unfold kidsFrom at hx
    split at hx
    · rcases List.mem_cons.1 hx with rfl | hx
      · omega
      · have := Ov t m _ x hx
        omega
    · cases hx
theorem kids3_in {t : List Node} {i : Nat} : ∀ x ∈ kids3 t i, (i : Int) < x ∧ x < t.length := by
  intro x hx
  unfold kids3 at hx
  split at hx
  · cases hx
  · have := Ov t _ _ x hx
    omega
theorem Rr (t : List Node) : ∀ (m q : Nat), (kidsFrom t m q).length ≤ m
  | 0, q => by simp [kidsFrom]
  | m + 1, q => by
    unfold kidsFrom
    split
    · simp only [List.length_cons]
      have := Rr t m (q + eat (t.drop q) 1)
      omega
    · simp
def con_labelled3 : Con := con2 (fun (t : Sl Node) (i : Int) => Tame t.l ∧ Named t.l ∧ 0 ≤ i ∧ i < t.l.length) (fun t i => lab3 t.l i.toNat)
noncomputable def ctx_labelled3 : Ctx := ⟨tab, lkC [(77, con_many3), (78, con_Kids3), (79, con_IsWord1), (80, con_IsTag1)], 60, lkB [], [], false⟩
theorem B0 : ctx_labelled3.τ = tab := rfl
theorem Cx : ctx_labelled3.Γ = lkC [(77, con_many3), (78, con_Kids3), (79, con_IsWord1), (80, con_IsTag1)] := rfl
theorem B1 : ctx_labelled3.dp = 60 := rfl
theorem Cy : ctx_labelled3.Δ = lkB [] := rfl
theorem ctx_labelled3_w : ctx_labelled3.wr = false := rfl
set_option maxRecDepth 100000 in
theorem good_labelled3 : Good Try.prog (50, con_labelled3) := by
  refine ⟨U0 Try.func50 (by kernel_rfl) rfl, ?_⟩
  have K : CtxOk Try.prog ctx_labelled3 := U4 Ki Ka (by
    intro p hp
    simp only [List.mem_cons, List.not_mem_nil, or_false] at hp
    rcases hp with rfl | rfl | rfl | rfl
    · exact Ca
    · exact good_Kids3
    · exact R9
    · exact O6) (by simp)
  obtain ⟨c, hc⟩ : ∃ c, Try.f50.body = some c := ⟨_, rfl⟩
  refine U5 K Try.func50 hc [.tmp 4] rfl 123 rfl (fun cvs hpre => ?_)
  change con_labelled3.pre cvs at hpre
  unfold con_labelled3 at hpre
  obtain ⟨⟨t⟩, i, rfl, hT, hN, hi0, hi1⟩ := Kj hpre
  simp only at hT hN hi0 hi1
  obtain ⟨i, rfl⟩ : ∃ n : Nat, i = n := ⟨i.toNat, by omega⟩
  have hil : i < t.length := by omega
  have hlen := hT.1
  obtain ⟨l, hl⟩ : ∃ l, kids3 t i = l := ⟨_, rfl⟩
  have hin : ∀ x ∈ l, (i : Int) < x ∧ x < t.length := by rw [← hl]; exact kids3_in
  have hll : l.length ≤ 100000 := by
    rw [← hl]
    unfold kids3
    split
    · simp
    · have h1 := Rr t (many3 (t.getD (Int.toNat i) ⟨0, [], 0⟩)).toNat ((Int.toNat i) + 1)
      have h2 := (hT.2 (t.getD i ⟨0, [], 0⟩) (by simp [hil])).2
      simp only [Int.toNat_natCast] at h1 ⊢
      omega
  have hlab : lab3 t i = (((l.length : Int) == many3 (t.getD i n0)) && (List.range l.length).all fun k => labAt t i l k) := by
    unfold lab3
    rw [hl]
  simp only [Try.f50, Option.some.injEq] at hc
  subst hc
  refine Kl 7 (of_decide_eq_true (by kernel_rfl)) ?_
  have zz1 := U8 n0 hil
  (sym =>
   simp [hl,zz1,Int.toNat_natCast,Ur,Up,Us,Uo,szN,Uq,B0,Cx,B1,Cy,con_IsTag1.eq_def,con_IsWord1.eq_def,con_Kids3.eq_def,con_labelled3.eq_def,con_many3.eq_def,Zb,Zc,Ze,Zf,Zo,Zp,Zq,Zv,Zy,Z6,Z9,Qb,Qd,Qe,Qf,Qn,Qo,Qp,Qq,Qs,Q1,Q2,Q4,Q8,Jf,Jj,Jk,Jl,Jw,J2,J3,J4,J5,J7,J8,Xa,Xb,Xe,Xm,Xn,Xo,Xt,Xu,X1,X2,X4,X5,X6,X7,X9,Wa,Wd,Wf,Wg,Wh,Wr,Ws,Wt,Wu,Wv,Ww,Wx,Wy,W4,W5,W8,W9,Yc,Yg,Yk,Yv,Yw,Yy,Yz,Y2,Y5,Y6,Y9,Va,Vb,Vc,Vd,Ve,Vf,Vh,Vk,Vm,Vr,Vs,V4,V5,Uj,Uk,Ul,Um,U2,U3,Kb,Nl]
   tactic =>
    try simp only [Uy] at *
    try simp only [nc2] at *
    try simp (maxSteps := 4000000) only [hl,zz1,Int.toNat_natCast,Ur,Up,Us,Uo,szN,Uq,U1]
    repeat' (first | with_reducible assumption | with_reducible refine And.intro ?_ ?_ | intro _ | omega | (rw [Ux]; omega))
    · rename_i hne
      rw [hlab]
      rw [show ((l.length : Int) == many3 (t.getD i n0)) = false by simpa using hne]
      rfl
    · rename_i heq
      have hlab' : lab3 t i = (List.range l.length).all fun k => labAt t i l k := by
        rw [hlab, show ((l.length : Int) == many3 (t.getD i n0)) = true by simpa using heq]
        rfl
      refine Ke [4, 7, 8, 9, 21, 22, 23, 24, 25, 26, 27, 28, 29, 30, 31, 32, 33, 34, 35, 36, 37, 38, 39, 40, 41, 42, 43, 44, 45, 46, 47, 48, 49, 50, 51, 52, 53, 54, 55, 56, 57, 58, 59, 60, 61, 62, 63, 64, 65, 66, 67, 68, 69, 70, 71, 72, 73, 74, 75, 76, 77, 78, 79, 80, 81, 82, 83, 84, 85, 86, 87, 88, 89, 90, 91, 92, 93, 94, 95, 96, 97, 98, 99, 100, 101, 102, 103, 104, 105, 106, 107, 108, 109, 110, 111, 112, 113, 114, 115, 116, 117, 118, 119, 120, 121, 122] (fun k : Nat => [(6, .d (.int .i64 k))]) (fun k : Nat => []) (fun k : Nat => k ≤ l.length ∧ ∀ j, j < k → labAt t i l j = true) (fun k : Nat => l.length - k) 0 ?_ ?_ ?_
      · simp
      · ((try simp only [Uz, killAll, setSlots, updAll, upd, U9, setCs, putC, Nat.reduceDiv, Nat.reduceMod, Nat.reduceMul, Nat.reduceAdd, Nat.reduceEqDiff, List.set_cons_zero, List.set_cons_succ, if_true, if_false, reduceIte]); (first | refine Wk.of_fl ?_ | skip); simp only [Wk, wkK, wkCs, wkT, wk1, AV.kept, keptAll, wkO, lk, wkObj, and_true, true_and, and_self, Nat.reduceEqDiff, Nat.reduceLeDiff, if_true, if_false, reduceIte, reduceCtorEq, Option.isSome, false_implies]; try simp [Wk, wkK, wkT, wk1, AV.kept, keptAll, wkO, lk, wkObj])
      rintro k ⟨hk, hno⟩
      rcases Kf k l.length with ⟨hlt, hlb⟩ | ⟨hlt, hlb⟩
      · have hki := hin (l.getD k 0) (by simp [hlt])
        have hkt : (l.getD k 0).toNat < t.length := by omega
        have hkn := hN (kidAt t l k) (by
          show t.getD _ n0 ∈ t
          rw [List.getD_eq_getElem?_getD, List.getElem?_eq_getElem hkt]
          exact List.getElem_mem hkt)
        have hyes : labAt t i l k = true → ∀ j, j < k + 1 → labAt t i l j = true := by
          intro h j hj
          by_cases hjk : j = k
          · subst hjk; exact h
          · exact hno j (by omega)
        have hbad : labAt t i l k = false → false = lab3 t i := by
          intro h
          rw [hlab', eq_comm, Bool.eq_false_iff]
          intro hc
          rw [List.all_eq_true] at hc
          have := hc k (List.mem_range.2 hlt)
          rw [h] at this
          cases this
        have ek : t.getD (l.getD k 0).toNat ⟨0, [], 0⟩ = kidAt t l k := rfl
        have hyes : labK (t.getD i n0) (kidAt t l k) (kidAt t l (k - 1)) (ltB 0 k) ((k : Int) == (l.length : Int) - 1) = true → ∀ j, j < k + 1 → labAt t i l j = true := hyes
        have hbad : labK (t.getD i n0) (kidAt t l k) (kidAt t l (k - 1)) (ltB 0 k) ((k : Int) == (l.length : Int) - 1) = false → false = lab3 t i := hbad
        have hprev : t.getD (l.getD (k - 1) 0).toNat ⟨0, [], 0⟩ = kidAt t l (k - 1) := rfl
        obtain ⟨x, hx⟩ : ∃ x, kidAt t l k = x := ⟨_, rfl⟩
        obtain ⟨prev, hp0⟩ : ∃ x, kidAt t l (k - 1) = x := ⟨_, rfl⟩
        obtain ⟨p, hp⟩ : ∃ x, t.getD i n0 = x := ⟨_, rfl⟩
        rw [hx, hp0, hp] at hyes hbad
        rw [hx] at hkn ek
        rw [hp0] at hprev
        have eip : t.getD i ⟨0, [], 0⟩ = p := hp
        have hk1 : k - 1 < l.length := by omega
        have hpi := hin (l.getD (k - 1) 0) (by simp [hk1])
        have hpt : (l.getD (k - 1) 0).toNat < t.length := by omega
        have em : ((k : Int) - 1).toNat = k - 1 := by omega
        have hc : ((p.kind == 6) = true ∧ (p.kind == 7) = false) ∨ ((p.kind == 6) = false ∧ (p.kind == 7) = true) ∨ ((p.kind == 6) = false ∧ (p.kind == 7) = false) := by
          simp only [beq_iff_eq, beq_eq_false_iff_ne, ne_eq]
          omega
        rcases hc with ⟨h6, h7⟩ | ⟨h6, h7⟩ | ⟨h6, h7⟩
        all_goals
          have zz2 := U8 (0 : Int) hlt
          have zz3 := U8 n0 hkt
          have zz4 := U8 n0 hil
          have zz5 := U8 (0 : Int) hk1
          have zz6 := U8 n0 hpt
          (sym =>
           simp [hlb,eip,h6,h7,zz2,zz3,zz4,ek,em,zz5,zz6,hprev,Ur,Up,Us,Uo,szN,Uq,B0,Cx,B1,Cy,ctx_labelled3_w,con_IsTag1.eq_def,con_IsWord1.eq_def,con_Kids3.eq_def,con_many3.eq_def,Zb,Zc,Zd,Ze,Zf,Zg,Zh,Zi,Zj,Zk,Zl,Zm,Zo,Zp,Zq,Zs,Zt,Zu,Zv,Zw,Zx,Zy,Z6,Z9,Qb,Qc,Qd,Qe,Qf,Qk,Ql,Qm,Qn,Qo,Qp,Qq,Qr,Qs,Q1,Q2,Q4,Q5,Q6,Q8,Jf,Jh,Ji,Jj,Jk,Jl,Jx,Jy,Jz,J4,J5,J6,J7,J8,J9,Xa,Xb,Xe,Xo,Xr,Xt,Xu,X1,X2,X3,X4,X5,X6,X9,Wa,Wb,Wc,Wd,We,Wf,Wg,Wh,Wj,Wn,Wr,Ws,Wt,Wu,Wv,Wx,Wy,Wz,W0,W3,W4,W5,W6,W7,W8,W9,Yb,Yc,Yd,Ye,Yg,Yh,Yi,Yk,Yo,Yr,Ys,Yu,Yv,Yw,Yy,Yz,Y2,Y5,Y6,Y7,Y8,Va,Vc,Vd,Ve,Vg,Vl,Vn,Vo,Vp,Vr,Vs,V4,V5,V6,V8,Uh,Ui,Uj,Uk,Ul,Um,Un,U2,Ku,Gr,U3,Kb,Nl]
           tactic =>
            try simp only [Uy] at *
            try simp only [nc2] at *
            try simp (maxSteps := 4000000) only [hlb,eip,h6,h7,zz2,zz3,zz4,ek,em,zz5,zz6,hprev,Ur,Up,Us,Uo,szN,Uq,U1]
            repeat' (first | with_reducible assumption | with_reducible refine And.intro ?_ ?_ | intro _ | omega | (rw [Ux]; omega))
            all_goals first
              | (with_reducible refine Kh ?_; kernel_rfl)
              | exact hbad (by clear hyes hbad heq hlab hlab' hno; simp_all [labK, isRow3, ltB])
              | exact ⟨k + 1, by ((try simp only [Uz, killAll, setSlots, updAll, upd, U9, setCs, putC, Nat.reduceDiv, Nat.reduceMod, Nat.reduceMul, Nat.reduceAdd, Nat.reduceEqDiff, List.set_cons_zero, List.set_cons_succ, if_true, if_false, reduceIte]); (first | refine Wk.of_fl ?_ | skip); simp only [Wk, wkK, wkCs, wkT, wk1, AV.kept, keptAll, wkO, lk, wkObj, and_true, true_and, and_self, Nat.reduceEqDiff, Nat.reduceLeDiff, if_true, if_false, reduceIte, reduceCtorEq, Option.isSome, false_implies]; try simp [Wk, wkK, wkT, wk1, AV.kept, keptAll, wkO, lk, wkObj]), by omega, hyes (by clear hyes hbad heq hlab hlab' hno; simp_all [labK, isRow3, ltB]), by omega⟩)
      · (sym =>
         simp [hlb,Ur,Up,Us,Uo,szN,Uq,B0,B1,Zb,Zc,Ze,Zf,Zg,Zo,Z6,Qb,Qd,Qn,Qo,Qp,Qq,Qs,Q1,Q2,Q4,Q8,Jk,Jx,Jy,Jz,J4,J5,J7,J8,J9,Xa,Xb,Xe,X2,X4,X5,X8,X9,Wa,Wd,Wf,Wg,Wh,Wr,Ws,Wt,Wu,W8,W9,Yb,Yc,Yg,Yy,Yz,Y2,Y5,Y6,Y7,Y8,Vr,Vs,V5,Ui,Uj,Uk,Ul,Um,U2,Nl]
         tactic =>
          try simp only [Uy] at *
          try simp only [nc2] at *
          try simp (maxSteps := 4000000) only [hlb,Ur,Up,Us,Uo,szN,Uq,U1]
          rw [hlab', eq_comm, List.all_eq_true]
          intro j hj
          exact hno j (by have := List.mem_range.1 hj; omega)))
end Go.Am.Ty
set_option linter.unusedSimpArgs false
set_option linter.unusedVariables false
namespace Go.Rose
inductive Rose (α : Type) where
  | mk (n : α) (ks : List (Rose α))
namespace Rose
variable {α : Type}
def root : Rose α → α
  | mk n _ => n
def kids : Rose α → List (Rose α)
  | mk _ ks => ks
mutual
def nds : Rose α → List α
  | mk n ks => n :: ndss ks
def ndss : List (Rose α) → List α
  | [] => []
  | x :: xs => nds x ++ ndss xs
end
mutual
def wf (ar : α → Nat) : Rose α → Prop
  | mk n ks => ks.length = ar n ∧ wfs ar ks
def wfs (ar : α → Nat) : List (Rose α) → Prop
  | [] => True
  | x :: xs => wf ar x ∧ wfs ar xs
end
mutual
def depth : Rose α → Nat
  | mk _ ks => 1 + depths ks
def depths : List (Rose α) → Nat
  | [] => 0
  | x :: xs => max (depth x) (depths xs)
end
end Rose
open Rose
variable {α : Type} {ar : α → Nat}
theorem Me : ∀ (a b : List (Rose α)), ndss (a ++ b) = ndss a ++ ndss b
  | [], b => by simp [ndss]
  | x :: a, b => by simp [ndss, Me a b]
theorem E5 : ∀ {a b : List (Rose α)}, wfs ar (a ++ b) ↔ wfs ar a ∧ wfs ar b
  | [], b => by simp [wfs]
  | x :: a, b => by simp only [List.cons_append, wfs, E5 (a := a), and_assoc]
theorem Pt : ∀ {a : List (Rose α)}, wfs ar a → ∀ x ∈ a, wf ar x
  | [], _, x, hx => by cases hx
  | y :: a, h, x, hx => by
    rcases List.mem_cons.1 hx with rfl | hx
    · exact h.1
    · exact Pt h.2 x hx
theorem K6 (n : α) (ks : List (Rose α)) : nds (mk n ks) = n :: ndss ks := by simp [nds]
theorem K8 (x : Rose α) : 1 ≤ (nds x).length := by cases x; simp [nds]
theorem Gx (x : Rose α) : nds x = x.root :: ndss x.kids := by cases x; simp [nds, root, kids]
theorem C1 {x : Rose α} : wf ar x ↔ x.kids.length = ar x.root ∧ wfs ar x.kids := by cases x; simp [wf, root, kids]
def eatN (ar : α → Nat) : List α → Nat → Option Nat
  | _, 0 => some 0
  | [], _ + 1 => none
  | n :: l, o + 1 => (eatN ar l (o + ar n)).map (· + 1)
theorem I7 (ar : α → Nat) : ∀ (m : Nat) (ts : List (Rose α)) (r : List α), (ndss ts).length ≤ m → wfs ar ts → ∀ o, eatN ar (ndss ts ++ r) (ts.length + o) = (eatN ar r o).map (· + (ndss ts).length)
  | m, [], r, _, _, o => by simp [ndss, eatN]
  | 0, mk n ks :: ts, r, hm, _, o => by simp [ndss, nds] at hm
  | m + 1, mk n ks :: ts, r, hm, hw, o => by
    obtain ⟨⟨h1, h2⟩, h3⟩ := hw
    simp only [ndss, nds, List.cons_append, List.length_cons, List.length_append] at hm ⊢
    rw [show ts.length + 1 + o = (ts.length + o) + 1 by omega, eatN, List.append_assoc]
    rw [show ts.length + o + ar n = ks.length + (ts.length + o) by omega, I7 ar m ks (ndss ts ++ r) (by omega) h2 (ts.length + o), I7 ar m ts r (by omega) h3 o]
    cases eatN ar r o with
    | none => rfl
    | some k => simp only [Option.map_some]; congr 1; omega
theorem eatN_nds {x : Rose α} (h : wf ar x) (r : List α) : eatN ar (nds x ++ r) 1 = some (nds x).length := by
  have := I7 ar _ [x] r (Nat.le_refl _) ⟨h, trivial⟩ 0
  simpa [ndss, eatN] using this
theorem ndss_inj : ∀ (m : Nat) {ts us : List (Rose α)} {r s : List α}, (ndss ts).length ≤ m → wfs ar ts → wfs ar us → ts.length = us.length → ndss ts ++ r = ndss us ++ s → ts = us ∧ r = s
  | m, [], us, r, s, _, _, _, hl, h => by
    have : us = [] := List.length_eq_zero_iff.1 hl.symm
    subst this
    exact ⟨rfl, by simpa [ndss] using h⟩
  | m, _ :: _, [], _, _, _, _, _, hl, _ => by simp at hl
  | 0, mk n ks :: ts, _, _, _, hm, _, _, _, _ => by simp [ndss, nds] at hm
  | m + 1, mk n ks :: ts, mk p qs :: us, r, s, hm, ht, hu, hl, h => by
    obtain ⟨⟨h1, h2⟩, h3⟩ := ht
    obtain ⟨⟨g1, g2⟩, g3⟩ := hu
    simp only [ndss, nds, List.cons_append, List.cons.injEq, List.length_cons, List.length_append] at h hm hl
    obtain ⟨rfl, h⟩ := h
    rw [← Me, ← Me] at h
    obtain ⟨e1, e2⟩ := ndss_inj m (ts := ks ++ ts) (us := qs ++ us) (by rw [Me, List.length_append]; omega) (E5.2 ⟨h2, h3⟩) (E5.2 ⟨g2, g3⟩) (by simp only [List.length_append]; omega) h
    obtain ⟨e3, e4⟩ := List.append_inj e1 (by rw [h1, g1])
    exact ⟨by rw [e3, e4], e2⟩
theorem nds_inj {x y : Rose α} {r s : List α} (hx : wf ar x) (hy : wf ar y) (h : nds x ++ r = nds y ++ s) : x = y ∧ r = s := by
  obtain ⟨h1, h2⟩ := ndss_inj (ar := ar) _ (ts := [x]) (us := [y]) (Nat.le_refl _) ⟨hx, trivial⟩ ⟨hy, trivial⟩ rfl (by simpa [ndss] using h)
  injection h1 with h1
  exact ⟨h1, h2⟩
def At (ar : α → Nat) (l : List α) (i : Nat) (x : Rose α) : Prop := wf ar x ∧ ∃ r, l.drop i = nds x ++ r
theorem At.inj {l : List α} {i : Nat} {x y : Rose α} (hx : At ar l i x) (hy : At ar l i y) : x = y := by
  obtain ⟨h1, r, h2⟩ := hx
  obtain ⟨g1, s, g2⟩ := hy
  exact (nds_inj h1 g1 (h2.symm.trans g2)).1
theorem At.le {l : List α} {i : Nat} {x : Rose α} (h : At ar l i x) : i + (nds x).length ≤ l.length := by
  obtain ⟨_, r, h2⟩ := h
  have h3 := congrArg List.length h2
  rw [List.length_drop, List.length_append] at h3
  have := K8 x
  omega
theorem At.lt {l : List α} {i : Nat} {x : Rose α} (h : At ar l i x) : i < l.length := by
  have := h.le
  have := K8 x
  omega
theorem At.root {l : List α} {i : Nat} {x : Rose α} (h : At ar l i x) (d : α) : l.getD i d = x.root := by
  obtain ⟨_, r, h2⟩ := h
  have h3 : (l.drop i).getD 0 d = x.root := by rw [h2, Gx]; rfl
  simpa [List.getD_eq_getElem?_getD] using h3
def Ats (ar : α → Nat) (l : List α) (i : Nat) (xs : List (Rose α)) : Prop := wfs ar xs ∧ ∃ r, l.drop i = ndss xs ++ r
theorem At.kids {l : List α} {i : Nat} {x : Rose α} (h : At ar l i x) : Ats ar l (i + 1) x.kids ∧ x.kids.length = ar x.root := by
  obtain ⟨h1, r, h2⟩ := h
  rw [C1] at h1
  refine ⟨⟨h1.2, r, ?_⟩, h1.1⟩
  rw [Gx] at h2
  have h3 : (l.drop i).drop 1 = (ndss x.kids ++ r) := by rw [h2]; rfl
  rwa [List.drop_drop] at h3
theorem Ats.head {l : List α} {i : Nat} {x : Rose α} {xs : List (Rose α)} (h : Ats ar l i (x :: xs)) : At ar l i x ∧ Ats ar l (i + (nds x).length) xs := by
  obtain ⟨⟨h1, h2⟩, r, h3⟩ := h
  refine ⟨⟨h1, ndss xs ++ r, by rw [h3]; simp [ndss]⟩, h2, r, ?_⟩
  rw [← List.drop_drop, h3]
  simp [ndss]
theorem Ni {x : Rose α} (h : wf ar x) : At ar (nds x) 0 x := ⟨h, [], by simp⟩
theorem Ic {l : List α} {i : Nat} {x : Rose α} (h : At ar l i x) : eatN ar (l.drop i) 1 = some (nds x).length := by
  obtain ⟨h1, r, h2⟩ := h
  rw [h2]
  exact eatN_nds h1 r
open Classical in
noncomputable def treeAt [Inhabited α] (ar : α → Nat) (l : List α) (i : Nat) : Rose α := if h : ∃ x, At ar l i x then Classical.choose h else mk default []
theorem Ga [Inhabited α] {l : List α} {i : Nat} {x : Rose α} (h : At ar l i x) : treeAt ar l i = x := by
  unfold treeAt
  rw [dif_pos ⟨x, h⟩]
  exact At.inj (Classical.choose_spec (⟨x, h⟩ : ∃ x, At ar l i x)) h
end Go.Rose
set_option linter.unusedSimpArgs false
set_option linter.unusedVariables false
set_option maxHeartbeats 1000000
namespace Go.Am.Ty
open Go.Proofs
open Enc (enc dec)
theorem T4 {n : Node} (h : numb3 n = true) : 0 ≤ many3 n ∧ many3 n ≤ 50 := by
  unfold numb3 at h
  unfold many3
  by_cases h5 : n.kind = 5
  · rw [if_pos h5]; omega
  · rw [if_neg h5]
    by_cases h67 : n.kind = 6 ∨ n.kind = 7
    · rw [if_pos h67]
      rw [if_neg (by omega), if_neg (by omega)] at h
      by_cases h6 : n.kind = 6
      · rw [if_pos h6] at h
        simpa using h
      · rw [if_neg h6, if_pos (by omega)] at h
        simp only [Bool.and_eq_true, decide_eq_true_eq] at h
        omega
    · rw [if_neg h67]; omega
def headBad (t : List Node) : Bool := t.length == 0 || ltB 10000 t.length || !((t.getD 0 n0).name == []) || (t.getD 0 n0).kind == 9
def right3 (t : List Node) : Bool := !headBad t && (t.all numb3 && ((end3 t 0 == (t.length : Int) && shallow3 t) && (List.range t.length).all fun i => lab3 t i))
theorem B5 {p : Nat → Bool} {n : Nat} (h : ∀ j, j < n → p j = true) : (List.range n).all p = true := by
  rw [List.all_eq_true]
  intro j hj
  exact h j (List.mem_range.1 hj)
theorem S9 {p : Nat → Bool} {n : Nat} (j : Nat) (hj : j < n) (h : p j = false) : (List.range n).all p = false := by
  rw [Bool.eq_false_iff]
  intro hc
  rw [List.all_eq_true] at hc
  have := hc j (List.mem_range.2 hj)
  rw [h] at this
  cases this
def con_Right3 : Con := con1 (fun (t : Sl Node) => t.l.length ≤ 9223372036854775807 ∧ Named t.l) (fun t => right3 t.l)
noncomputable def ctx_Right3 : Ctx := ⟨tab, lkC [(47, con_numbered3), (48, con_End3), (49, con_shallow3), (50, con_labelled3)], 60, lkB [], [], false⟩
theorem Mx : ctx_Right3.τ = tab := rfl
theorem Cj : ctx_Right3.Γ = lkC [(47, con_numbered3), (48, con_End3), (49, con_shallow3), (50, con_labelled3)] := rfl
theorem My : ctx_Right3.dp = 60 := rfl
theorem Ck : ctx_Right3.Δ = lkB [] := rfl
theorem A0 : ctx_Right3.wr = false := rfl
set_option maxRecDepth 100000 in
theorem O3 : Good Try.prog (20, con_Right3) := by
  refine ⟨U0 Try.func20 (by kernel_rfl) rfl, ?_⟩
  have K : CtxOk Try.prog ctx_Right3 := U4 Ki Ka (by
    intro p hp
    simp only [List.mem_cons, List.not_mem_nil, or_false] at hp
    rcases hp with rfl | rfl | rfl | rfl
    · exact good_numbered3
    · exact I5
    · exact good_shallow3
    · exact good_labelled3) (by simp)
  obtain ⟨c, hc⟩ : ∃ c, Try.f20.body = some c := ⟨_, rfl⟩
  refine U5 K Try.func20 hc [.tmp 2] rfl 59 rfl (fun cvs hpre => ?_)
  change con_Right3.pre cvs at hpre
  unfold con_Right3 at hpre
  obtain ⟨⟨t⟩, rfl, ht, hN⟩ := K1 hpre
  simp only at ht hN
  simp only [Try.f20, Option.some.injEq] at hc
  subst hc
  refine Kl 3 (of_decide_eq_true (by kernel_rfl)) ?_
  by_cases h0 : t.length = 0
  · have hz : ((t.length : Int) == 0) = true := by simp [h0]
    (sym =>
     simp [hz,Ur,Up,Us,Uo,szN,Uq,Mx,My,con_Right3.eq_def,Zb,Zc,Zd,Ze,Zf,Zo,Zt,Z6,Qb,Qd,Qn,Qo,Qp,Qq,Qs,Q1,Q2,Q4,Q8,Jk,Jw,J2,J3,J4,J5,J7,J8,Xa,Xb,Xe,Xm,Xn,Xt,X2,X4,X5,X9,Wa,Wd,Wf,Wg,Wh,Wr,Ws,Wt,Wu,Ww,Wy,W4,W5,W6,W7,W8,W9,Yc,Yg,Yw,Yy,Yz,Y5,Y6,Y9,Va,Vb,Vc,Vd,Ve,Vh,Vr,Vs,V4,V5,Uh,Uj,Uk,Um,U2,U3,Kb]
     tactic =>
      try simp only [Uy] at *
      try simp only [nc2] at *
      try simp (maxSteps := 4000000) only [hz,Ur,Up,Us,Uo,szN,Uq,U1]
      unfold right3 headBad
      simp [h0])
  have hz : ((t.length : Int) == 0) = false := by rw [beq_eq_false_iff_ne]; omega
  have hlt0 : 0 < t.length := by omega
  have heb : headBad t = true → false = right3 t := by
    intro h; unfold right3; rw [h]; rfl
  have zz1 := U8 n0 hlt0
  (sym =>
   simp [hz,zz1,Ur,Up,Us,Uo,szN,Uq,Mx,My,con_Right3.eq_def,Zb,Zc,Zd,Ze,Zf,Zo,Zp,Zq,Zs,Zt,Zv,Zx,Zy,Z6,Qb,Qd,Qn,Qo,Qp,Qq,Qs,Q1,Q2,Q4,Q8,Jk,Jw,J2,J3,J4,J5,J7,J8,Xa,Xb,Xe,Xm,Xn,Xt,X1,X2,X4,X5,X6,X7,X9,Wa,Wd,Wf,Wg,Wh,Wr,Ws,Wt,Wu,Ww,Wy,Wz,W4,W5,W6,W7,W8,W9,Yc,Ye,Yg,Yi,Yk,Yr,Ys,Yu,Yw,Yy,Yz,Y5,Y6,Y9,Va,Vb,Vc,Vd,Ve,Vh,Vq,Vr,Vs,V4,V5,V6,V8,Uh,Ui,Uj,Uk,Um,U2,Gr,U3,Kb]
   tactic =>
    try simp only [Uy] at *
    try simp only [nc2] at *
    try simp (maxSteps := 4000000) only [hz,zz1,Ur,Up,Us,Uo,szN,Uq,U1]
    repeat' (first | with_reducible assumption | with_reducible refine And.intro ?_ ?_ | intro _ | omega | (rw [Ux]; omega))
    · rename_i h1 h2 h9
      exact heb (by unfold headBad; rw [show ((t.getD 0 n0).kind == 9) = true by rw [beq_iff_eq]; exact h9]; simp only [Bool.or_true])
    · rename_i h1 h3 h9
      have hle : t.length ≤ 10000 := by omega
      have hnb : headBad t = false := by
        unfold headBad
        simp only [Bool.or_eq_false_iff, Gn, beq_eq_false_iff_ne]
        refine ⟨⟨⟨by omega, by omega⟩, ?_⟩, h9⟩
        simpa using h3
      have hr : right3 t = (t.all numb3 && ((end3 t 0 == (t.length : Int) && shallow3 t) && (List.range t.length).all fun i => lab3 t i)) := by
        unfold right3; rw [hnb]; rfl
      refine Ke [2, 27, 28, 29, 30, 31, 32, 33, 34, 35, 36, 37, 38] (fun k : Nat => [(3, .d (.int .i64 k))]) (fun k : Nat => []) (fun k : Nat => k ≤ t.length ∧ ∀ j, j < k → numb3 (t.getD j n0) = true) (fun k : Nat => t.length - k) 0 ?_ ?_ ?_
      · simp
      · ((try simp only [Uz, killAll, setSlots, updAll, upd, U9, setCs, putC, Nat.reduceDiv, Nat.reduceMod, Nat.reduceMul, Nat.reduceAdd, Nat.reduceEqDiff, List.set_cons_zero, List.set_cons_succ, if_true, if_false, reduceIte]); (first | refine Wk.of_fl ?_ | skip); simp only [Wk, wkK, wkCs, wkT, wk1, AV.kept, keptAll, wkO, lk, wkObj, and_true, true_and, and_self, Nat.reduceEqDiff, Nat.reduceLeDiff, if_true, if_false, reduceIte, reduceCtorEq, Option.isSome, false_implies]; try simp [Wk, wkK, wkT, wk1, AV.kept, keptAll, wkO, lk, wkObj])
      rintro k ⟨hk, hno⟩
      rcases Kf k t.length with ⟨hlt, hlb⟩ | ⟨hlt, hlb⟩
      · have zz2 := U8 n0 hlt
        (sym =>
         simp [hlb,zz2,Ur,Up,Us,Uo,szN,Uq,Mx,Cj,My,Ck,A0,con_End3.eq_def,con_labelled3.eq_def,con_numbered3.eq_def,con_shallow3.eq_def,Zb,Zc,Ze,Zf,Zg,Zo,Zp,Zq,Zv,Zy,Z6,Z9,Qb,Qc,Qd,Qe,Qf,Qn,Qo,Qp,Qq,Qs,Q1,Q2,Q4,Q8,Jf,Jj,Jk,Jl,Jx,Jy,Jz,J4,J5,J7,J8,Xa,Xb,Xe,Xo,Xt,Xu,X1,X2,X4,X5,X6,X9,Wa,Wd,Wf,Wg,Wh,Wr,Ws,Wt,Wu,Wv,Wx,Wy,W8,W9,Yb,Yc,Yd,Yg,Yh,Yk,Yw,Yy,Yz,Y5,Y6,Vp,Vr,Vs,V4,V5,Uh,Uj,Uk,Ul,Um,U2,Ku,U3,Kb]
         tactic =>
          try simp only [Uy] at *
          try simp only [nc2] at *
          try simp (maxSteps := 4000000) only [hlb,zz2,Ur,Up,Us,Uo,szN,Uq,U1]
          repeat' (first | with_reducible assumption | with_reducible refine And.intro ?_ ?_ | intro _ | omega | (rw [Ux]; omega))
          · rename_i hb
            rw [hr, Ie (p := numb3) n0 k hlt hb]
            rfl
          · rename_i hb
            refine ⟨k + 1, by ((try simp only [Uz, killAll, setSlots, updAll, upd, U9, setCs, putC, Nat.reduceDiv, Nat.reduceMod, Nat.reduceMul, Nat.reduceAdd, Nat.reduceEqDiff, List.set_cons_zero, List.set_cons_succ, if_true, if_false, reduceIte]); (first | refine Wk.of_fl ?_ | skip); simp only [Wk, wkK, wkCs, wkT, wk1, AV.kept, keptAll, wkO, lk, wkObj, and_true, true_and, and_self, Nat.reduceEqDiff, Nat.reduceLeDiff, if_true, if_false, reduceIte, reduceCtorEq, Option.isSome, false_implies]; try simp [Wk, wkK, wkT, wk1, AV.kept, keptAll, wkO, lk, wkObj]), by omega, fun j hj => ?_, by omega⟩
            by_cases hjk : j = k
            · subst hjk; exact hb
            · exact hno j (by omega))
      · have hall : t.all numb3 = true := Tw (p := numb3) n0 fun j hj => hno j (by omega)
        have hT : Tame t := ⟨by omega, fun n hn => T4 (List.all_eq_true.1 hall n hn)⟩
        rw [hall, Bool.true_and] at hr
        have hT2 : Tame t ∧ inR .i64 0 := ⟨hT, by rw [Ux]; omega⟩
        (sym =>
         simp [hlb,hT,Ur,Up,Us,Uo,szN,Uq,Mx,Cj,My,Ck,con_End3.eq_def,con_labelled3.eq_def,con_numbered3.eq_def,con_shallow3.eq_def,Zb,Zc,Zd,Ze,Zf,Zg,Zo,Zt,Z6,Z9,Qb,Qc,Qd,Qe,Qf,Qn,Qo,Qp,Qq,Qs,Q1,Q2,Q4,Q8,Jf,Jj,Jk,Jl,Jx,Jy,Jz,J4,J5,J6,J7,J8,J9,Xa,Xb,Xe,Xt,Xu,X1,X2,X4,X5,X6,X7,X8,X9,Wa,Wd,Wf,Wg,Wh,Wr,Ws,Wt,Wu,Wv,Wx,Wy,W6,W7,W8,W9,Yb,Yc,Yd,Yg,Yh,Yv,Yw,Yy,Yz,Y5,Y6,Y7,Vf,Vh,Vk,Vm,Vr,Vs,V4,V5,Uh,Ui,Uj,Uk,Ul,Um,U2,Ku,U3,Kb]
         tactic =>
          try simp only [Uy] at *
          try simp only [nc2] at *
          try simp (maxSteps := 4000000) only [hlb,hT,Ur,Up,Us,Uo,szN,Uq,U1]
          repeat' (first | with_reducible assumption | with_reducible refine And.intro ?_ ?_ | intro _ | omega | (rw [Ux]; omega))
          · rename_i he hs
            rw [hr, hs]
            simp
          · rename_i he hs
            have hr2 : right3 t = (List.range t.length).all fun i => lab3 t i := by
              rw [hr, hs, show (end3 t 0 == (t.length : Int)) = true by simpa using he]
              rfl
            refine Ke [2, 49, 50, 51, 52, 53, 54, 55, 56, 57, 58] (fun k : Nat => [(4, .d (.int .i64 k))]) (fun k : Nat => []) (fun k : Nat => k ≤ t.length ∧ ∀ j, j < k → lab3 t j = true) (fun k : Nat => t.length - k) 0 ?_ ?_ ?_
            · simp
            · ((try simp only [Uz, killAll, setSlots, updAll, upd, U9, setCs, putC, Nat.reduceDiv, Nat.reduceMod, Nat.reduceMul, Nat.reduceAdd, Nat.reduceEqDiff, List.set_cons_zero, List.set_cons_succ, if_true, if_false, reduceIte]); (first | refine Wk.of_fl ?_ | skip); simp only [Wk, wkK, wkCs, wkT, wk1, AV.kept, keptAll, wkO, lk, wkObj, and_true, true_and, and_self, Nat.reduceEqDiff, Nat.reduceLeDiff, if_true, if_false, reduceIte, reduceCtorEq, Option.isSome, false_implies]; try simp [Wk, wkK, wkT, wk1, AV.kept, keptAll, wkO, lk, wkObj])
            rintro k ⟨hk2, hno2⟩
            rcases Kf k t.length with ⟨hlt2, hlb2⟩ | ⟨hlt2, hlb2⟩
            · (sym =>
               simp [hlb2,Ur,Up,Us,Uo,szN,Uq,Mx,Cj,My,Ck,A0,con_End3.eq_def,con_labelled3.eq_def,con_numbered3.eq_def,con_shallow3.eq_def,Zb,Zc,Ze,Zf,Zg,Zo,Z6,Z9,Qb,Qc,Qd,Qe,Qf,Qn,Qo,Qp,Qq,Qs,Q1,Q2,Q4,Q8,Jf,Jj,Jk,Jl,Jx,Jy,Jz,J4,J5,J6,J7,J8,J9,Xa,Xb,Xe,Xt,Xu,X1,X2,X4,X5,X6,X9,Wa,Wd,Wf,Wg,Wh,Wr,Ws,Wt,Wu,Wv,Wx,Wy,W8,W9,Yb,Yc,Yd,Yg,Yh,Yw,Yy,Yz,Y5,Y6,Y7,Y8,Vf,Vh,Vk,Vm,Vp,Vr,Vs,V4,V5,Uh,Uj,Uk,Ul,Um,U2,Ku,U3,Kb]
               tactic =>
                try simp only [Uy] at *
                try simp only [nc2] at *
                try simp (maxSteps := 4000000) only [hlb2,Ur,Up,Us,Uo,szN,Uq,U1]
                repeat' (first | with_reducible assumption | with_reducible refine And.intro ?_ ?_ | intro _ | omega | (rw [Ux]; omega))
                · rename_i hb
                  rw [hr2, S9 k hlt2 hb]
                · rename_i hb
                  refine ⟨k + 1, by ((try simp only [Uz, killAll, setSlots, updAll, upd, U9, setCs, putC, Nat.reduceDiv, Nat.reduceMod, Nat.reduceMul, Nat.reduceAdd, Nat.reduceEqDiff, List.set_cons_zero, List.set_cons_succ, if_true, if_false, reduceIte]); (first | refine Wk.of_fl ?_ | skip); simp only [Wk, wkK, wkCs, wkT, wk1, AV.kept, keptAll, wkO, lk, wkObj, and_true, true_and, and_self, Nat.reduceEqDiff, Nat.reduceLeDiff, if_true, if_false, reduceIte, reduceCtorEq, Option.isSome, false_implies]; try simp [Wk, wkK, wkT, wk1, AV.kept, keptAll, wkO, lk, wkObj]), by omega, fun j hj => ?_, by omega⟩
                  by_cases hjk : j = k
                  · subst hjk; exact hb
                  · exact hno2 j (by omega))
            · (sym =>
               simp [hlb2,Ur,Up,Us,Uo,szN,Uq,Mx,My,Zb,Zc,Ze,Zf,Zg,Zo,Z6,Qb,Qd,Qn,Qo,Qp,Qq,Qs,Q1,Q2,Q4,Q8,Jk,Jx,Jy,Jz,J4,J5,J6,J7,J8,J9,Xa,Xb,Xe,X2,X4,X5,X8,X9,Wa,Wd,Wf,Wg,Wh,Wr,Ws,Wt,Wu,W8,W9,Yb,Yc,Yg,Yy,Yz,Y5,Y6,Y7,Y8,Vr,Vs,V5,Ui,Uj,Uk,Ul,Um,U2,U3,Kb]
               tactic =>
                try simp only [Uy] at *
                try simp only [nc2] at *
                try simp (maxSteps := 4000000) only [hlb2,Ur,Up,Us,Uo,szN,Uq,U1]
                rw [hr2, B5 fun j hj => hno2 j (by omega)])
          · rename_i he
            rw [hr, show (end3 t 0 == (t.length : Int)) = false by simpa using he]
            rfl)
    · rename_i h1 h3
      exact heb (by unfold headBad; rw [show ((t.getD 0 n0).name == []) = false by rw [beq_eq_false_iff_ne]; exact h3]; simp only [Bool.not_false, Bool.or_true, Bool.true_or])
    · rename_i h1
      exact heb (by unfold headBad; rw [show ltB 10000 (t.length : Int) = true by rw [G4]; exact h1]; simp only [Bool.or_true, Bool.true_or]))
end Go.Am.Ty
set_option linter.unusedSimpArgs false
set_option linter.unusedVariables false
set_option maxHeartbeats 1000000
namespace Go.Am.Ty
open Go.Proofs Go.Rose Go.Rose.Rose
open Enc (enc dec)
def plain7 (t : List Node) (most : Int) : Bool := !ltB most t.length && (t.all (fun n => !ltB 100 n.name.length) && (right3 t && plain3 t))
def con_Plain7 : Con := con2 (fun (t : Sl Node) (_ : Int) => t.l.length ≤ 9223372036854775807 ∧ Named t.l) (fun t m => plain7 t.l m)
noncomputable def ctx_Plain7 : Ctx := ⟨tab, lkC [(20, con_Right3), (21, con_Plain3)], 60, lkB [], [], false⟩
theorem Lm : ctx_Plain7.τ = tab := rfl
theorem ctx_Plain7_c : ctx_Plain7.Γ = lkC [(20, con_Right3), (21, con_Plain3)] := rfl
theorem Cl : ctx_Plain7.dp = 60 := rfl
theorem ctx_Plain7_b : ctx_Plain7.Δ = lkB [] := rfl
theorem ctx_Plain7_w : ctx_Plain7.wr = false := rfl
set_option maxRecDepth 100000 in
theorem good_Plain7 : Good Try.prog (24, con_Plain7) := by
  refine ⟨U0 Try.func24 (by kernel_rfl) rfl, ?_⟩
  have K : CtxOk Try.prog ctx_Plain7 := U4 Ki Ka (by
    intro p hp
    simp only [List.mem_cons, List.not_mem_nil, or_false] at hp
    rcases hp with rfl | rfl
    · exact O3
    · exact O4) (by simp)
  obtain ⟨c, hc⟩ : ∃ c, Try.f24.body = some c := ⟨_, rfl⟩
  refine U5 K Try.func24 hc [.tmp 4] rfl 29 rfl (fun cvs hpre => ?_)
  change con_Plain7.pre cvs at hpre
  unfold con_Plain7 at hpre
  obtain ⟨⟨t⟩, m, rfl, ht, hN⟩ := Kj hpre
  simp only at ht hN
  simp only [Try.f24, Option.some.injEq] at hc
  subst hc
  rcases Mf m t.length with ⟨hm, hmb⟩ | ⟨hm, hmb⟩
  · (sym =>
     simp [hmb,Ur,Up,Us,Uo,szN,Uq,Lm,Cl,con_Plain7.eq_def,Za,Zb,Zc,Ze,Zf,Zo,Z6,Qb,Qd,Qn,Qo,Qp,Qq,Qs,Q1,Q2,Q4,Q8,Jk,Jw,J2,J3,Xe,Xu,X2,X4,X5,X9,Wa,Wd,Wf,Wg,Wh,Wr,Ws,Wt,Wu,Ww,Wy,W4,W5,Yc,Yg,Yv,Yw,Yy,Yz,Y5,Y6,Y7,Y8,Y9,Va,Vf,Vh,Vs,V5,Uh,Uj,Uk,Um,U2,U3,Kb]
     tactic =>
      try simp only [Uy] at *
      try simp only [nc2] at *
      try simp (maxSteps := 4000000) only [hmb,Ur,Up,Us,Uo,szN,Uq,U1]
      unfold plain7
      rw [hmb]
      rfl)
  · have hp : plain7 t m = (t.all (fun n => !ltB 100 n.name.length) && (right3 t && plain3 t)) := by
      unfold plain7; rw [hmb]; rfl
    (sym =>
     simp [hmb,Ur,Up,Us,Uo,szN,Uq,Lm,con_Plain7.eq_def,Za,Zb,Zc,Ze,Zf,Zo,Z6,Qb,Qd,Qq,Qs,Q1,Q2,Q4,Jw,J2,J3,Xu,X1,X2,X4,X5,X6,X7,Wa,Wd,Wf,Wg,Wh,Wr,Ws,Wt,Wu,Ww,Wy,W4,W5,Yc,Yg,Yv,Yw,Yy,Yz,Y5,Y6,Y7,Y8,Y9,Va,Vf,Vh,Vs,V4,V5,Ui,Uj,Uk,Um,U2,U3,Kb]
     tactic =>
      try simp only [Uy] at *
      try simp only [nc2] at *
      try simp (maxSteps := 4000000) only [hmb,Ur,Up,Us,Uo,szN,Uq,U1]
      refine Ke [4, 10, 11, 12, 13, 14, 15, 16, 17, 18, 19, 20, 21, 22] (fun k : Nat => [(5, .d (.int .i64 k))]) (fun k : Nat => []) (fun k : Nat => k ≤ t.length ∧ ∀ j, j < k → (!ltB 100 (t.getD j n0).name.length) = true) (fun k : Nat => t.length - k) 0 ?_ ?_ ?_
      · simp
      · ((try simp only [Uz, killAll, setSlots, updAll, upd, U9, setCs, putC, Nat.reduceDiv, Nat.reduceMod, Nat.reduceMul, Nat.reduceAdd, Nat.reduceEqDiff, List.set_cons_zero, List.set_cons_succ, if_true, if_false, reduceIte]); (first | refine Wk.of_fl ?_ | skip); simp only [Wk, wkK, wkCs, wkT, wk1, AV.kept, keptAll, wkO, lk, wkObj, and_true, true_and, and_self, Nat.reduceEqDiff, Nat.reduceLeDiff, if_true, if_false, reduceIte, reduceCtorEq, Option.isSome, false_implies]; try simp [Wk, wkK, wkT, wk1, AV.kept, keptAll, wkO, lk, wkObj])
      rintro k ⟨hk, hno⟩
      rcases Kf k t.length with ⟨hlt, hlb⟩ | ⟨hlt, hlb⟩
      · have zz1 := U8 n0 hlt
        (sym =>
         simp [hlb,zz1,Ur,Up,Us,Uo,szN,Uq,Lm,Cl,ctx_Plain7_w,Zb,Zc,Ze,Zf,Zg,Zo,Zp,Zq,Zs,Zv,Zx,Zy,Z6,Qb,Qd,Qn,Qo,Qp,Qq,Qs,Q1,Q2,Q4,Q8,Jk,Jx,Jy,Jz,Xe,X1,X2,X4,X5,X6,X9,Wa,Wd,Wf,Wg,Wh,Wr,Ws,W6,W7,Yb,Yc,Ye,Yg,Yi,Yk,Ys,Yu,Yy,Yz,Y5,Y6,Y7,Y8,Vp,Vr,Vs,V4,V5,Uh,Uj,Uk,Ul,Um,U2,Gr,U3,Kb]
         tactic =>
          try simp only [Uy] at *
          try simp only [nc2] at *
          try simp (maxSteps := 4000000) only [hlb,zz1,Ur,Up,Us,Uo,szN,Uq,U1]
          repeat' (first | with_reducible assumption | with_reducible refine And.intro ?_ ?_ | intro _ | omega | (rw [Ux]; omega))
          · rename_i hb
            rw [hp, Ie (p := fun n : Node => !ltB 100 n.name.length) n0 k hlt (by rw [show ltB 100 ((t.getD k n0).name.length : Int) = true by rw [G4]; exact hb]; rfl)]
            rfl
          · rename_i hb
            refine ⟨k + 1, by ((try simp only [Uz, killAll, setSlots, updAll, upd, U9, setCs, putC, Nat.reduceDiv, Nat.reduceMod, Nat.reduceMul, Nat.reduceAdd, Nat.reduceEqDiff, List.set_cons_zero, List.set_cons_succ, if_true, if_false, reduceIte]); (first | refine Wk.of_fl ?_ | skip); simp only [Wk, wkK, wkCs, wkT, wk1, AV.kept, keptAll, wkO, lk, wkObj, and_true, true_and, and_self, Nat.reduceEqDiff, Nat.reduceLeDiff, if_true, if_false, reduceIte, reduceCtorEq, Option.isSome, false_implies]; try simp [Wk, wkK, wkT, wk1, AV.kept, keptAll, wkO, lk, wkObj]), by omega, fun j hj => ?_, by omega⟩
            by_cases hjk : j = k
            · subst hjk; exact hb
            · have := hno j (by omega)
              rw [Bool.not_eq_true', Gn] at this
              exact this)
      · have hall : t.all (fun n => !ltB 100 n.name.length) = true := Tw (p := fun n : Node => !ltB 100 n.name.length) n0 fun j hj => hno j (by omega)
        rw [hall, Bool.true_and] at hp
        (sym =>
         simp [hlb,hp,Ur,Up,Us,Uo,szN,Uq,Lm,ctx_Plain7_c,Cl,ctx_Plain7_b,con_Plain3.eq_def,con_Right3.eq_def,Zb,Zc,Zd,Ze,Zf,Zg,Zo,Zt,Z6,Z9,Qb,Qd,Qe,Qf,Qn,Qo,Qp,Qq,Qs,Q1,Q2,Q4,Q8,Jf,Jj,Jk,Jl,Jx,Jy,Jz,Xe,Xt,X2,X4,X5,X8,X9,Wa,Wd,Wf,Wg,Wh,Wr,Ws,Wv,Wx,Wy,W6,W7,Yb,Yc,Yg,Yw,Yy,Yz,Y5,Y6,Y7,Y8,Vh,Vm,Vr,Vs,V5,Uh,Ui,Uj,Uk,Ul,Um,U2,U3,Kb]
         tactic =>
          try simp only [Uy] at *
          try simp only [nc2] at *
          try simp (maxSteps := 4000000) only [hlb,hp,Ur,Up,Us,Uo,szN,Uq,U1]
          repeat' (first | with_reducible assumption | with_reducible refine And.intro ?_ ?_ | intro _ | omega | (rw [Ux]; omega))
          all_goals rename_i hr
          all_goals rw [hr]
          all_goals rfl))
instance inhSl {α : Type} : Inhabited (Sl α) := ⟨⟨[]⟩⟩
instance inhNode : Inhabited Node := ⟨n0⟩
def isRowT (n : Node) : Bool := n.kind == 6 || n.kind == 7
def con_isRowT : Con := con1 (fun (_ : Node) => True) (fun n => isRowT n)
noncomputable def ctx_isRowT : Ctx := ⟨tab, lkC [], 60, lkB [], [], false⟩
theorem ctx_isRowT_t : ctx_isRowT.τ = tab := rfl
theorem ctx_isRowT_d : ctx_isRowT.dp = 60 := rfl
theorem Oz : Good Try.prog (99, con_isRowT) := by
  refine ⟨U0 Try.func99 (by kernel_rfl) rfl, ?_⟩
  have K : CtxOk Try.prog ctx_isRowT := U4 Ki Ka (by simp) (by simp)
  obtain ⟨c, hc⟩ : ∃ c, Try.f99.body = some c := ⟨_, rfl⟩
  refine U5 K Try.func99 hc [.tmp 2] rfl 11 rfl (fun cvs hpre => ?_)
  change con_isRowT.pre cvs at hpre
  unfold con_isRowT at hpre
  obtain ⟨n, rfl, -⟩ := K1 hpre
  simp only [Try.f99, Option.some.injEq] at hc
  subst hc
  (sym =>
   simp [Ur,Up,Us,Uo,szN,Uq,ctx_isRowT_t,ctx_isRowT_d,con_isRowT.eq_def,Za,Zb,Zc,Zd,Ze,Zf,Zo,Zp,Zq,Zs,Zt,Zu,Zv,Zx,Qb,Qd,Ql,Qm,Qn,Qo,Qp,Qq,Qs,Q1,Q2,Q4,Q8,Jh,Ji,Jk,Jw,J2,J3,Xe,Xr,Xt,X2,X4,X9,Wa,Wd,Wf,Wg,Wh,Wr,Ws,Wt,Wu,Ww,Wy,W0,W3,W4,W5,W6,W7,Yc,Yg,Yo,Yw,Y5,Y6,Y7,Y8,Y9,Va,V4,V5,Uh,Ui,Uj,Uk,U2,Kb]
   tactic =>
    try simp only [Uy] at *
    try simp only [nc2] at *
    try simp (maxSteps := 4000000) only [Ur,Up,Us,Uo,szN,Uq,U1]
    unfold isRowT
    repeat' (first | with_reducible assumption | with_reducible refine And.intro ?_ ?_ | intro _ | omega | (rw [Ux]; omega))
    all_goals simp_all)
def ar (n : Node) : Nat := if n.kind = 5 then 2 else if n.kind = 6 ∨ n.kind = 7 then n.n.toNat else 0
def con_manyT : Con := con1 (fun (_ : Node) => True) (fun n => (ar n : Int))
noncomputable def ctx_manyT : Ctx := ⟨tab, lkC [(99, con_isRowT)], 60, lkB [], [], false⟩
theorem ctx_manyT_t : ctx_manyT.τ = tab := rfl
theorem ctx_manyT_c : ctx_manyT.Γ = lkC [(99, con_isRowT)] := rfl
theorem ctx_manyT_d : ctx_manyT.dp = 60 := rfl
theorem ctx_manyT_b : ctx_manyT.Δ = lkB [] := rfl
theorem Fh : Good Try.prog (76, con_manyT) := by
  refine ⟨U0 Try.func76 (by kernel_rfl) rfl, ?_⟩
  have K : CtxOk Try.prog ctx_manyT := U4 Ki Ka (by
    intro p hp
    simp only [List.mem_cons, List.not_mem_nil, or_false] at hp
    rcases hp with rfl
    · exact Oz) (by simp)
  obtain ⟨c, hc⟩ : ∃ c, Try.f76.body = some c := ⟨_, rfl⟩
  refine U5 K Try.func76 hc [.tmp 2] rfl 13 rfl (fun cvs hpre => ?_)
  change con_manyT.pre cvs at hpre
  unfold con_manyT at hpre
  obtain ⟨n, rfl, -⟩ := K1 hpre
  simp only [Try.f76, Option.some.injEq] at hc
  subst hc
  (sym =>
   simp [Ur,Up,Us,Uo,szN,Uq,ctx_manyT_t,ctx_manyT_c,ctx_manyT_d,ctx_manyT_b,con_isRowT.eq_def,con_manyT.eq_def,Za,Zb,Zc,Ze,Zf,Zg,Zo,Zp,Zq,Zs,Zu,Zv,Zx,Z7,Z9,Qb,Qd,Qe,Qf,Qh,Ql,Qm,Qn,Qo,Qp,Qq,Qs,Q1,Q2,Q4,Q8,Ja,Jf,Jh,Ji,Jj,Jk,Jl,Jw,J2,J3,Xe,Xr,Xt,X1,X2,X4,X5,X6,X9,Wa,Wd,Wf,Wg,Wh,Wr,Ws,Wt,Wu,Wv,Ww,Wx,Wy,W0,W3,W4,W5,W6,W7,Yc,Yg,Yo,Yv,Yw,Y5,Y6,Y7,Y8,Y9,Va,Vb,Vc,Ve,V4,Uj,Uk,U2,Kb]
   tactic =>
    try simp only [Uy] at *
    try simp only [nc2] at *
    try simp (maxSteps := 4000000) only [Ur,Up,Us,Uo,szN,Uq,U1]
    unfold ar
    repeat' (first | with_reducible assumption | with_reducible refine And.intro ?_ ?_ | intro _ | omega | (rw [Ux]; omega))
    · rename_i h5
      rw [if_pos h5]; rfl
    · rename_i h5 h6
      rw [if_neg h5, if_pos (by simpa [isRowT] using h6)]
      unfold maxI
      split <;> omega
    · rename_i h5 h6
      rw [if_neg h5, if_neg (by simpa [isRowT] using h6)]; rfl)
theorem ar_many3 {n : Node} (h : 0 ≤ many3 n) : (ar n : Int) = many3 n := by
  unfold ar many3 at *
  split
  · rfl
  · rename_i h5
    rw [if_neg h5] at h
    split
    · rename_i h6
      rw [if_pos h6] at h
      omega
    · rfl
def endT (t : List Node) (i : Int) : Int := if i < 0 ∨ (t.length : Int) ≤ i then -1 else i + ((eatN ar (t.drop i.toNat) 1).getD 0 : Nat)
def Whole (t : List Node) (i : Int) : Prop := 0 ≤ i → i < t.length → (eatN ar (t.drop i.toNat) 1).isSome = true
theorem eatN_ge : ∀ {l : List Node} {o k : Nat}, eatN ar l o = some k → o ≤ k ∧ k ≤ l.length
  | l, 0, k, h => by
    cases l <;> (simp only [eatN, Option.some.injEq] at h; omega)
  | [], o + 1, k, h => by simp [eatN] at h
  | n :: l, o + 1, k, h => by
    rw [eatN, Option.map_eq_some_iff] at h
    obtain ⟨k', h1, rfl⟩ := h
    have := eatN_ge h1
    simp only [List.length_cons]
    omega
def con_EndT : Con := con2 (fun (t : Sl Node) (i : Int) => t.l.length ≤ 1000000000 ∧ inR .i64 i ∧ Whole t.l i) (fun t i => endT t.l i)
noncomputable def ctx_EndT : Ctx := ⟨tab, lkC [(76, con_manyT)], 60, lkB [], [], false⟩
theorem Fw : ctx_EndT.τ = tab := rfl
theorem ctx_EndT_c : ctx_EndT.Γ = lkC [(76, con_manyT)] := rfl
theorem Fx : ctx_EndT.dp = 60 := rfl
theorem ctx_EndT_b : ctx_EndT.Δ = lkB [] := rfl
theorem ctx_EndT_w : ctx_EndT.wr = false := rfl
set_option maxRecDepth 100000 in
theorem I4 : Good Try.prog (45, con_EndT) := by
  refine ⟨U0 Try.func45 (by kernel_rfl) rfl, ?_⟩
  have K : CtxOk Try.prog ctx_EndT := U4 Ki Ka (by
    intro p hp
    simp only [List.mem_cons, List.not_mem_nil, or_false] at hp
    rcases hp with rfl
    · exact Fh) (by simp)
  obtain ⟨c, hc⟩ : ∃ c, Try.f45.body = some c := ⟨_, rfl⟩
  refine U5 K Try.func45 hc [.tmp 4] rfl 27 rfl (fun cvs hpre => ?_)
  change con_EndT.pre cvs at hpre
  unfold con_EndT at hpre
  obtain ⟨⟨t⟩, i, rfl, ht, hi, hw⟩ := Kj hpre
  simp only at ht hw
  rw [Ux] at hi
  simp only [Try.f45, Option.some.injEq] at hc
  subst hc
  (sym =>
   simp [Ur,Up,Us,Uo,szN,Uq,Fw,Fx,con_EndT.eq_def,Za,Zb,Zc,Zd,Ze,Zf,Zo,Zt,Z6,Qb,Qd,Qn,Qo,Qp,Qq,Qs,Q1,Q2,Q4,Q8,Jk,Jw,J2,J3,Xe,Xu,X1,X2,X4,X5,X6,X7,X9,Wa,Wd,Wf,Wg,Wh,Wr,Ws,Wt,Wu,Ww,Wy,W4,W5,W6,W7,Yc,Yg,Yv,Yy,Yz,Y5,Y6,Y7,Y8,Y9,Va,Vf,Vh,Vs,V4,V5,Uh,Ui,Uj,Uk,Um,U2,U3,Kb]
   tactic =>
    try simp only [Uy] at *
    try simp only [nc2] at *
    try simp (maxSteps := 4000000) only [Ur,Up,Us,Uo,szN,Uq,U1]
    repeat' (first | with_reducible assumption | with_reducible refine And.intro ?_ ?_ | intro _ | omega | (rw [Ux]; omega))
    · rename_i h1 h2
      unfold endT
      rw [if_pos (.inr h2)]
    · rename_i h1 h2
      obtain ⟨i, rfl⟩ : ∃ n : Nat, i = n := ⟨i.toNat, by omega⟩
      obtain ⟨m, hm⟩ := Option.isSome_iff_exists.1 (hw h1 h2)
      simp only [Int.toNat_natCast] at hm
      have e0 : endT t i = i + (m : Int) := by
        unfold endT
        rw [if_neg (by omega), Int.toNat_natCast, hm]
        rfl
      refine Ke [14, 15, 16, 17, 18, 19, 20, 21, 22, 23, 24, 25] (fun p : Nat × Nat => [(1, .d (.int .i64 p.1)), (5, .d (.int .i64 p.2))]) (fun p : Nat × Nat => []) (fun p : Nat × Nat => p.1 ≤ t.length ∧ ∃ r, eatN ar (t.drop p.1) p.2 = some r ∧ p.1 + r = i + m) (fun p : Nat × Nat => t.length - p.1) (i, 1) ?_ ?_ ?_
      · exact ⟨by simp only; omega, m, hm, rfl⟩
      · ((try simp only [Uz, killAll, setSlots, updAll, upd, U9, setCs, putC, Nat.reduceDiv, Nat.reduceMod, Nat.reduceMul, Nat.reduceAdd, Nat.reduceEqDiff, List.set_cons_zero, List.set_cons_succ, if_true, if_false, reduceIte]); (first | refine Wk.of_fl ?_ | skip); simp only [Wk, wkK, wkCs, wkT, wk1, AV.kept, keptAll, wkO, lk, wkObj, and_true, true_and, and_self, Nat.reduceEqDiff, Nat.reduceLeDiff, if_true, if_false, reduceIte, reduceCtorEq, Option.isSome, false_implies]; try simp [Wk, wkK, wkT, wk1, AV.kept, keptAll, wkO, lk, wkObj])
      rintro ⟨k, o⟩ ⟨g1, r, g2, g3⟩
      simp only at g1 g2 g3
      cases o with
      | zero =>
        have hz : ltB 0 ((0 : Nat) : Int) = false := rfl
        (sym =>
         simp [hz,Ur,Up,Us,Uo,szN,Uq,Fw,ctx_EndT_c,Fx,ctx_EndT_b,ctx_EndT_w,con_manyT.eq_def,Zb,Zc,Ze,Zf,Zg,Zo,Zp,Zq,Zv,Zy,Z9,Qb,Qd,Qe,Qf,Qn,Qo,Qp,Qq,Qs,Q1,Q2,Q4,Q8,Jf,Jj,Jk,Jl,Jx,Jy,Jz,Xe,Xt,X1,X2,X4,X5,X6,X8,X9,Wa,Wd,Wf,Wg,Wh,Wr,Ws,Wt,Wu,Wv,Wx,Wy,Yb,Yc,Yg,Yk,Yv,Yy,Yz,Y5,Y6,Y7,Y8,Vp,Vr,Vs,V1,V4,Uj,Uk,Ul,Um,U2,U3,Kb]
         tactic =>
          try simp only [Uy] at *
          try simp only [nc2] at *
          try simp (maxSteps := 4000000) only [hz,Ur,Up,Us,Uo,szN,Uq,U1]
          rw [e0]
          cases hd : t.drop k <;> (rw [hd] at g2; simp only [eatN, Option.some.injEq] at g2; omega))
      | succ o =>
        have hz : ltB 0 ((o + 1 : Nat) : Int) = true := by rw [G4]; omega
        have hlt : k < t.length := by
          rcases Nat.lt_or_ge k t.length with h | h
          · exact h
          · rw [List.drop_eq_nil_of_le h] at g2; simp [eatN] at g2
        rw [List.drop_eq_getElem_cons hlt, eatN, Option.map_eq_some_iff] at g2
        obtain ⟨r', g4, rfl⟩ := g2
        have hnk : t.getD k n0 = t[k] := by simp [hlt]
        rw [← hnk] at g4
        have hge := eatN_ge g4
        rw [List.length_drop] at hge
        have ee : ((o + 1 : Nat) : Int) + ((ar (t.getD k n0) : Int) - 1) = ((o + ar (t.getD k n0) : Nat) : Int) := by omega
        have zz3 := U8 n0 hlt
        (sym =>
         simp [hz,ee,zz3,Ur,Up,Us,Uo,szN,Uq,Fw,ctx_EndT_c,Fx,ctx_EndT_b,ctx_EndT_w,con_manyT.eq_def,Zb,Zc,Ze,Zf,Zg,Zo,Zp,Zq,Zv,Zy,Z9,Qb,Qd,Qe,Qf,Qq,Qs,Q1,Q2,Q4,Q8,Jf,Jj,Jl,Jx,Jy,Jz,Xe,Xo,Xt,X1,X2,X4,X5,X6,Wa,Wd,Wf,Wg,Wh,Wr,Ws,Wt,Wu,Wv,Wx,Wy,Yb,Yc,Yg,Yk,Yv,Yy,Yz,Y5,Y6,Y7,Y8,Vp,Vr,Vs,V4,Uh,Uj,Uk,Ul,Um,U2,U3,Kb]
         tactic =>
          try simp only [Uy] at *
          try simp only [nc2] at *
          try simp (maxSteps := 4000000) only [hz,ee,zz3,Ur,Up,Us,Uo,szN,Uq,U1]
          repeat' (first | with_reducible assumption | with_reducible refine And.intro ?_ ?_ | intro _ | omega | (rw [Ux]; omega))
          refine ⟨(k + 1, o + ar (t.getD k n0)), by ((try simp only [Uz, killAll, setSlots, updAll, upd, U9, setCs, putC, Nat.reduceDiv, Nat.reduceMod, Nat.reduceMul, Nat.reduceAdd, Nat.reduceEqDiff, List.set_cons_zero, List.set_cons_succ, if_true, if_false, reduceIte]); (first | refine Wk.of_fl ?_ | skip); simp only [Wk, wkK, wkCs, wkT, wk1, AV.kept, keptAll, wkO, lk, wkObj, and_true, true_and, and_self, Nat.reduceEqDiff, Nat.reduceLeDiff, if_true, if_false, reduceIte, reduceCtorEq, Option.isSome, false_implies]; try simp [Wk, wkK, wkT, wk1, AV.kept, keptAll, wkO, lk, wkObj]), by simp only; omega, ⟨r', g4, by simp only; omega⟩, by simp only; omega⟩)
    · rename_i h1
      unfold endT
      rw [if_pos (.inl h1)])
end Go.Am.Ty
set_option linter.unusedSimpArgs false
set_option linter.unusedVariables false
set_option maxHeartbeats 1000000
namespace Go.Am.Ty
open Go.Proofs Go.Rose Go.Rose.Rose
open Enc (enc dec)
def kidPos : Nat → List (Rose Node) → List Int
  | _, [] => []
  | q, x :: xs => (q : Int) :: kidPos (q + (nds x).length) xs
theorem Mg : ∀ (q : Nat) (xs : List (Rose Node)), (kidPos q xs).length = xs.length
  | _, [] => rfl
  | q, x :: xs => by simp [kidPos, Mg _ xs]
theorem Tj : ∀ (q : Nat) (xs : List (Rose Node)) (j : Nat), j < xs.length → (kidPos q xs).getD j 0 = ((q + (ndss (xs.take j)).length : Nat) : Int)
  | _, [], j, h => by simp at h
  | q, x :: xs, 0, _ => by simp [kidPos, ndss]
  | q, x :: xs, j + 1, h => by
    simp only [kidPos, List.getD_cons_succ, List.take_succ_cons, ndss, List.length_append]
    rw [Tj _ xs j (by simpa using h)]
    congr 1
    omega
theorem F6 {t : List Node} : ∀ {xs : List (Rose Node)} {i j : Nat}, Ats ar t i xs → ∀ h : j < xs.length, At ar t (i + (ndss (xs.take j)).length) xs[j]
  | [], _, _, _, h => by simp at h
  | x :: xs, i, 0, ha, _ => by simpa [ndss] using ha.head.1
  | x :: xs, i, j + 1, ha, h => by
    have := F6 ha.head.2 (j := j) (by simpa using h)
    simpa [ndss, Nat.add_assoc] using this
theorem L8 {xs : List (Rose Node)} {j : Nat} (h : j < xs.length) : (ndss (xs.take (j + 1))).length = (ndss (xs.take j)).length + (nds xs[j]).length := by
  rw [List.take_succ_eq_append_getElem h, Me, List.length_append]
  simp [ndss]
theorem ats_le {t : List Node} {i : Nat} {xs : List (Rose Node)} (h : Ats ar t i xs) (hi : i ≤ t.length) : i + (ndss xs).length ≤ t.length := by
  obtain ⟨_, r, h2⟩ := h
  have := congrArg List.length h2
  rw [List.length_drop, List.length_append] at this
  omega
theorem at_whl {t : List Node} {i : Nat} {x : Rose Node} (h : At ar t i x) : Whole t i := fun _ _ => by
  simp only [Int.toNat_natCast]
  rw [Ic h]
  rfl
theorem endT_at {t : List Node} {i : Nat} {x : Rose Node} (h : At ar t i x) : endT t i = ((i + (nds x).length : Nat) : Int) := by
  unfold endT
  have := h.lt
  rw [if_neg (by omega), Int.toNat_natCast, Ic h]
  simp
def rowK (l : List Int) (j : Nat) : List Int := l.take j ++ List.replicate (l.length - j) 0
theorem Rg {l : List Int} {j : Nat} (h : j ≤ l.length) : (rowK l j).length = l.length := by
  unfold rowK
  rw [List.length_append, List.length_take, List.length_replicate]
  omega
theorem rowK_set {l : List Int} {j : Nat} {q : Int} (h : j < l.length) (hq : l.getD j 0 = q) : ((rowK l j).map (enc : Int → D)).set j (.int .i64 q) = (rowK l (j + 1)).map enc := by
  have e : (enc q : D) = .int .i64 q := rfl
  rw [← e, ← List.map_set]
  congr 1
  unfold rowK
  rw [List.set_append_right _ _ (by rw [List.length_take]; omega), List.length_take, show l.length - j = (l.length - (j + 1)) + 1 by omega, List.replicate_succ,
    show j - min j l.length = 0 by omega, List.set_cons_zero, List.take_succ_eq_append_getElem h]
  simp only [List.append_assoc, List.singleton_append]
  congr 2
  rw [← hq]
  simp [h]
theorem rowK_el {l : List Int} {j : Nat} (h : j < l.length) : el ((rowK l j).map (enc : Int → D)) j = .int .i64 0 := by
  rw [U8 (0 : Int) (by rw [Rg (by omega)]; exact h)]
  unfold rowK
  rw [List.getD_eq_getElem?_getD, List.getElem?_append_right (by rw [List.length_take]; omega), List.length_take, show j - min j l.length = 0 by omega, show l.length - j = (l.length - (j + 1)) + 1 by omega, List.replicate_succ]
  rfl
theorem rowK_zero {l : List Int} {n : Nat} (h : l.length = n) : List.replicate n (D.int .i64 0) = (rowK l 0).map enc := by
  unfold rowK
  simp [h]
theorem rowK_all {l : List Int} : rowK l l.length = l := by
  unfold rowK
  simp
noncomputable def kidsT (t : List Node) (i : Int) : List Int := if i < 0 ∨ (t.length : Int) ≤ i then [] else kidPos (i.toNat + 1) (treeAt ar t i.toNat).kids
def Tree (t : List Node) (i : Int) : Prop := 0 ≤ i → i < t.length → ∃ x, At ar t i.toNat x
noncomputable def con_KidsT : Con := con2 (fun (t : Sl Node) (i : Int) => t.l.length ≤ 1000000000 ∧ inR .i64 i ∧ Tree t.l i) (fun t i => Sl.mk (kidsT t.l i))
noncomputable def ctx_KidsT : Ctx := ⟨tab, lkC [(45, con_EndT), (76, con_manyT)], 60, lkB [], [], false⟩
theorem Bu : ctx_KidsT.τ = tab := rfl
theorem ctx_KidsT_c : ctx_KidsT.Γ = lkC [(45, con_EndT), (76, con_manyT)] := rfl
theorem Bv : ctx_KidsT.dp = 60 := rfl
theorem ctx_KidsT_b : ctx_KidsT.Δ = lkB [] := rfl
theorem ctx_KidsT_w : ctx_KidsT.wr = false := rfl
set_option maxRecDepth 100000 in
theorem good_KidsT : Good Try.prog (75, con_KidsT) := by
  refine ⟨U0 Try.func75 (by kernel_rfl) rfl, ?_⟩
  have K : CtxOk Try.prog ctx_KidsT := U4 Ki Ka (by
    intro p hp
    simp only [List.mem_cons, List.not_mem_nil, or_false] at hp
    rcases hp with rfl | rfl
    · exact I4
    · exact Fh) (by simp)
  obtain ⟨c, hc⟩ : ∃ c, Try.f75.body = some c := ⟨_, rfl⟩
  refine U5 K Try.func75 hc [.tmp 4] rfl 38 rfl (fun cvs hpre => ?_)
  change con_KidsT.pre cvs at hpre
  unfold con_KidsT at hpre
  obtain ⟨⟨t⟩, i, rfl, ht, hi, hw⟩ := Kj hpre
  simp only at ht hw
  rw [Ux] at hi
  simp only [Try.f75, Option.some.injEq] at hc
  subst hc
  refine Kl 2 (of_decide_eq_true (by kernel_rfl)) ?_
  rcases (by omega : i < 0 ∨ (t.length : Int) ≤ i ∨ (0 ≤ i ∧ i < t.length)) with h | h | ⟨h1, h2⟩
  · have hb : ltB i 0 = true := by rw [G4]; exact h
    (sym =>
     simp [hb,Ur,Up,Us,Uo,szN,Uq,Bu,Bv,con_KidsT.eq_def,Zb,Zc,Zd,Ze,Zf,Zn,Zo,Zt,Qb,Qd,Qn,Qo,Qp,Qq,Qs,Q1,Q2,Q4,Q8,Jk,Jw,J2,J3,J4,J5,J7,Xa,Xf,Xm,Xn,Xu,X2,X4,X5,X9,Wa,Wd,Wf,Wg,Wh,Wr,Ws,Wt,Wu,Ww,Wy,W4,W5,W6,W7,W8,W9,Yc,Yg,Yv,Y5,Y6,Y9,Va,Vb,Vc,Vd,Ve,Vf,Vh,Vr,Vs,V4,V5,V7,Uh,Uj,Uk,U2,Nl]
     tactic =>
      try simp only [Uy] at *
      try simp only [nc2] at *
      try simp (maxSteps := 4000000) only [hb,Ur,Up,Us,Uo,szN,Uq,U1]
      unfold kidsT
      rw [if_pos (.inl h)]
      rfl)
  · have hb : ltB i 0 = false := by rw [Gn]; omega
    have hb2 : leB (t.length : Int) i = true := by rw [Sa]; omega
    (sym =>
     simp [hb,hb2,Ur,Up,Us,Uo,szN,Uq,Bu,Bv,con_KidsT.eq_def,Zb,Zc,Zd,Ze,Zf,Zn,Zo,Zt,Z6,Qb,Qd,Qn,Qo,Qp,Qq,Qs,Q1,Q2,Q4,Q8,Jk,Jw,J2,J3,J4,J5,J7,Xa,Xf,Xm,Xn,Xu,X2,X4,X5,X9,Wa,Wd,Wf,Wg,Wh,Wr,Ws,Wt,Wu,Ww,Wy,W4,W5,W6,W7,W8,W9,Yc,Yg,Yv,Yy,Yz,Y5,Y6,Y9,Va,Vb,Vc,Vd,Ve,Vf,Vh,Vr,Vs,V4,V5,V7,Uh,Ui,Uj,Uk,Um,U2,U3,Kb,Nl]
     tactic =>
      try simp only [Uy] at *
      try simp only [nc2] at *
      try simp (maxSteps := 4000000) only [hb,hb2,Ur,Up,Us,Uo,szN,Uq,U1]
      unfold kidsT
      rw [if_pos (.inr h)]
      rfl)
  · obtain ⟨x, hx⟩ := hw h1 h2
    obtain ⟨i, rfl⟩ : ∃ n : Nat, i = n := ⟨i.toNat, by omega⟩
    simp only [Int.toNat_natCast] at hx
    have hil : i < t.length := by omega
    have hb : ltB (i : Int) 0 = false := by rw [Gn]; omega
    have hb2 : leB (t.length : Int) (i : Int) = false := by rw [Pk]; omega
    have hroot : t.getD i n0 = x.root := hx.root n0
    obtain ⟨hks, hkl⟩ := hx.kids
    obtain ⟨ks, hk⟩ : ∃ ks, x.kids = ks := ⟨_, rfl⟩
    rw [hk] at hks hkl
    have hle := ats_le hks (by omega)
    have har : ar (t.getD i n0) = ks.length := by rw [hroot, hkl]
    obtain ⟨l, hl⟩ : ∃ l, kidPos (i + 1) ks = l := ⟨_, rfl⟩
    have hll : l.length = ks.length := by rw [← hl, Mg]
    have hkn : ks.length ≤ (ndss ks).length := by
      clear hks hkl hle har hl hll hk
      induction ks with
      | nil => simp
      | cons y ys ih => simp only [List.length_cons, ndss, List.length_append]; have := K8 y; omega
    have e0 : kidsT t i = l := by
      unfold kidsT
      rw [if_neg (by omega)]
      simp only [Int.toNat_natCast]
      rw [Ga hx, hk, hl]
    have zz1 := U8 n0 hil
    (sym =>
     simp [hb,hb2,zz1,har,Ur,Up,Us,Uo,szN,Uq,Bu,ctx_KidsT_c,Bv,ctx_KidsT_b,ctx_KidsT_w,con_EndT.eq_def,con_KidsT.eq_def,con_manyT.eq_def,Zb,Zc,Zd,Ze,Zf,Zn,Zo,Zp,Zq,Zt,Zv,Zy,Z3,Z6,Z9,Qb,Qd,Qe,Qf,Qq,Qs,Q1,Q2,Q4,Q8,Jf,Jh,Ji,Jj,Jl,Jw,J2,J3,J4,J5,J7,J8,Xa,Xb,Xe,Xm,Xn,Xo,Xt,Xu,X1,X2,X4,X5,X6,X7,Wa,Wd,Wf,Wg,Wh,Wi,Wl,Wr,Ws,Wt,Wu,Wv,Ww,Wx,Wy,W4,W5,W6,W7,W8,W9,Yc,Yg,Yk,Yv,Yy,Yz,Y5,Y6,Y9,Va,Vb,Vc,Vd,Ve,Vf,Vh,Vp,Vr,Vs,V4,V5,V7,Ui,Uj,Uk,Ul,Um,U2,U3,Kb,Nl]
     tactic =>
      try simp only [Uy] at *
      try simp only [nc2] at *
      try simp (maxSteps := 4000000) only [hb,hb2,zz1,har,Ur,Up,Us,Uo,szN,Uq,U1]
      repeat' (first | with_reducible assumption | with_reducible refine And.intro ?_ ?_ | intro _ | omega | (rw [Ux]; omega))
      refine Ke [7, 27, 28, 29, 30, 31, 32, 33, 34, 35, 36] (fun j : Nat => [(5, .sl 21 ((rowK l j).map (enc : Int → D)).length), (6, .d (.int .i64 (i + 1 + (ndss (ks.take j)).length : Nat))), (21, .dead), (26, .d (.int .i64 j))]) (fun j : Nat => [(21, .row 1 ((rowK l j).map enc) 0)]) (fun j : Nat => j ≤ ks.length) (fun j : Nat => ks.length - j) 0 ?_ ?_ ?_
      · omega
      · ((try simp only [Uz, killAll, setSlots, updAll, upd, U9, setCs, putC, Nat.reduceDiv, Nat.reduceMod, Nat.reduceMul, Nat.reduceAdd, Nat.reduceEqDiff, List.set_cons_zero, List.set_cons_succ, if_true, if_false, reduceIte]); (first | refine Wk.of_fl ?_ | skip); simp only [Wk, wkK, wkCs, wkT, wk1, AV.kept, keptAll, wkO, lk, wkObj, and_true, true_and, and_self, Nat.reduceEqDiff, Nat.reduceLeDiff, if_true, if_false, reduceIte, reduceCtorEq, Option.isSome, false_implies]; try simp [Wk, wkK, wkT, wk1, AV.kept, keptAll, wkO, lk, wkObj, rowK_zero hll, ndss, hll, Rg])
      rintro j hj
      have hrl : (rowK l j).length = ks.length := by rw [Rg (by omega), hll]
      rcases Kf j ks.length with ⟨hlt, hlb⟩ | ⟨hlt, hlb⟩
      · have hat := F6 hks hlt
        have hq : l.getD j 0 = ((i + 1 + (ndss (ks.take j)).length : Nat) : Int) := by rw [← hl]; exact Tj _ _ j hlt
        have hset := rowK_set (by omega) hq
        have hel := rowK_el (l := l) (j := j) (by omega)
        have hrl2 : (rowK l (j + 1)).length = ks.length := by rw [Rg (by omega), hll]
        have hend := endT_at hat
        have hwh := at_whl hat
        have hlt2 := hat.le
        have hsz := L8 hlt
        (sym =>
         simp [hlb,hrl,hel,hset,hend,Ur,Up,Us,Uo,szN,Uq,Bu,ctx_KidsT_c,Bv,ctx_KidsT_b,ctx_KidsT_w,con_EndT.eq_def,con_manyT.eq_def,Zb,Zc,Ze,Zf,Zg,Zo,Zp,Zq,Zw,Zy,Z9,Qb,Qd,Qe,Qf,Qq,Qs,Q1,Q2,Q4,Q8,Jf,Jh,Ji,Jj,Jl,Jx,Jy,Jz,J4,J5,J6,J7,J8,J9,Xa,Xb,Xe,Xt,Xu,X1,X2,X4,X5,X6,Wa,Wd,Wf,Wg,Wh,Wr,Ws,Wt,Wu,Wv,Wx,Wy,W8,W9,Yb,Yc,Yg,Yk,Yl,Yr,Yv,Y5,Y6,Y7,Y8,Vf,Vh,Vk,Vm,Vp,Vr,Vs,Vz,V4,Uh,Uj,Uk,Ul,Um,U2,Nl]
         tactic =>
          try simp only [Uy] at *
          try simp only [nc2] at *
          try simp (maxSteps := 4000000) only [hlb,hrl,hel,hset,hend,Ur,Up,Us,Uo,szN,Uq,U1]
          repeat' (first | with_reducible assumption | with_reducible refine And.intro ?_ ?_ | intro _ | omega | (rw [Ux]; omega))
          refine ⟨j + 1, by ((try simp only [Uz, killAll, setSlots, updAll, upd, U9, setCs, putC, Nat.reduceDiv, Nat.reduceMod, Nat.reduceMul, Nat.reduceAdd, Nat.reduceEqDiff, List.set_cons_zero, List.set_cons_succ, if_true, if_false, reduceIte]); (first | refine Wk.of_fl ?_ | skip); simp only [Wk, wkK, wkCs, wkT, wk1, AV.kept, keptAll, wkO, lk, wkObj, and_true, true_and, and_self, Nat.reduceEqDiff, Nat.reduceLeDiff, if_true, if_false, reduceIte, reduceCtorEq, Option.isSome, false_implies]; try simp [Wk, wkK, wkT, wk1, AV.kept, keptAll, wkO, lk, wkObj, hrl2, hsz, Int.add_assoc]), by omega, by omega⟩)
      · have hjk : j = l.length := by omega
        (sym =>
         simp [hlb,hrl,Ur,Up,Us,Uo,szN,Uq,Bu,Bv,Zb,Zc,Ze,Zf,Zg,Qb,Qd,Qn,Qo,Qp,Qq,Qs,Q1,Q2,Q4,Q8,Jh,Ji,Jk,Jx,Jy,Jz,J4,J5,J6,J7,J8,J9,Xa,Xb,Xg,X2,X4,X5,X8,X9,Wa,Wd,Wf,Wg,Wr,Ws,Wt,Wu,W8,W9,Yb,Yc,Yg,Y5,Y6,Y7,Y8,Vr,Ui,Uj,Uk,Um,U2]
         tactic =>
          try simp only [Uy] at *
          try simp only [nc2] at *
          try simp (maxSteps := 4000000) only [hlb,hrl,Ur,Up,Us,Uo,szN,Uq,U1]
          repeat' (first | with_reducible assumption | with_reducible refine And.intro ?_ ?_ | intro _ | omega | (rw [Ux]; omega))
          rw [e0, hjk, rowK_all]))
end Go.Am.Ty
set_option linter.unusedSimpArgs false
set_option linter.unusedVariables false
set_option maxHeartbeats 1000000
namespace Go.Am.Ty
open Go.Proofs Go.Rose Go.Rose.Rose
open Enc (enc dec)
structure Pair where
  a : List Node
  b : List Node
  bel : Bool
def dynOf (b : List Node) : Bool → D
  | true => .clo 42 [.ptr 1 (.list 3 (b.map enc))]
  | false => .clo 46 []
def isBel : D → Bool
  | .clo f _ => f == 42
  | _ => false
instance encPair : Enc Pair := ⟨fun p => .agg [.list 3 (p.a.map enc), .list 3 (p.b.map enc), dynOf p.b p.bel], fun x => match x with
  | .agg [a, b, c] => ⟨a.l.map dec, b.l.map dec, isBel c⟩
  | _ => ⟨[], [], false⟩, fun p => by
    have h : ∀ l : List Node, (l.map (enc : Node → D)).map dec = l := fun l => Hu
    cases p with
    | mk a b bel => cases bel <;> simp [D.l, h, dynOf, isBel]⟩
theorem Kx {a b : List Node} {bel : Bool} : (enc (Pair.mk a b bel) : D) = .agg [.list 3 (a.map enc), .list 3 (b.map enc), dynOf b bel] := rfl
theorem K2 {b : List Node} : dynOf b true = .clo 42 [.ptr 1 (.list 3 (b.map enc))] := rfl
theorem K3 {b : List Node} : dynOf b false = .clo 46 [] := rfl
theorem Kq {a b : List Node} : (dec (.agg [.list 3 (a.map enc), .list 3 (b.map enc), .clo 42 [.ptr 1 (.list 3 (b.map enc))]]) : Pair) = ⟨a, b, true⟩ := Enc.dec_enc (Pair.mk a b true)
theorem Kr {a b : List Node} : (dec (.agg [.list 3 (a.map enc), .list 3 (b.map enc), .clo 46 []]) : Pair) = ⟨a, b, false⟩ := Enc.dec_enc (Pair.mk a b false)
theorem Km {a b : List Node} : isE Pair (.agg [.list 3 (a.map enc), .list 3 (b.map enc), .clo 42 [.ptr 1 (.list 3 (b.map enc))]]) = True := eq_true (Gp (Pair.mk a b true))
theorem Kn {a b : List Node} : isE Pair (.agg [.list 3 (a.map enc), .list 3 (b.map enc), .clo 46 []]) = True := eq_true (Gp (Pair.mk a b false))
theorem Ks {a b : List Node} {bel : Bool} : (dec (.agg [.list 3 (a.map enc), .list 3 (b.map enc), dynOf b bel]) : Pair) = ⟨a, b, bel⟩ := Enc.dec_enc (Pair.mk a b bel)
theorem Ko {a b : List Node} {bel : Bool} : isE Pair (.agg [.list 3 (a.map enc), .list 3 (b.map enc), dynOf b bel]) = True := eq_true (Gp (Pair.mk a b bel))
section
variable {a b : List Node} {c : Bool}
theorem Gu : (Pair.mk a b c).a = a := rfl
theorem Gt : (Pair.mk a b c).b = b := rfl
theorem Gs : (Pair.mk a b c).bel = c := rfl
end
def askB (bel : Bool) (m : Node) : Bool := !bel || m.kind == 0
mutual
def ov (bel : Bool) : Rose Node → Rose Node → Bool
  | mk n ks, y => cond (n.kind == 0 || y.root.kind == 0) (askB bel y.root) ((n.kind == y.root.kind && (n.name == y.root.name && n.n == y.root.n)) && ovs bel ks y.kids)
def ovs (bel : Bool) : List (Rose Node) → List (Rose Node) → Bool
  | [], _ => true
  | _ :: _, [] => false
  | x :: xs, y :: ys => x.root.name == y.root.name && (ov bel x y && ovs bel xs ys)
end
def con3q {A B C R S T : Type} [Enc A] [Enc B] [Enc C] [Enc R] [Enc S] [Enc T] (p : A → B → C → Prop) (f : A → B → C → R × S × T) : Con := ⟨[false, false, false], [false, false, false], fun c => match c with
  | [.d x, .d y, .d z] => isE A x ∧ isE B y ∧ isE C z ∧ p (dec x) (dec y) (dec z)
  | _ => False, fun c => match c with
  | [.d x, .d y, .d z] => .tup [.d (enc (f (dec x) (dec y) (dec z)).1), .d (enc (f (dec x) (dec y) (dec z)).2.1), .d (enc (f (dec x) (dec y) (dec z)).2.2)]
  | _ => .d .nilp⟩
theorem con3q_pre {A B C R S T : Type} [Enc A] [Enc B] [Enc C] [Enc R] [Enc S] [Enc T] {p : A → B → C → Prop} {f : A → B → C → R × S × T} {c : List CV} (h : (con3q p f).pre c) : ∃ a b d, c = [.d (enc a), .d (enc b), .d (enc d)] ∧ p a b d := by
  unfold con3q at h
  simp only at h
  split at h
  · next x y z => exact ⟨dec x, dec y, dec z, by rw [← h.1, ← h.2.1, ← h.2.2.1], h.2.2.2⟩
  · exact h.elim
def overR (bel : Bool) (x y : Rose Node) (i k : Int) : Int × Int × Bool :=
  cond (x.root.kind == 0 || y.root.kind == 0) (i + (nds x).length, k + (nds y).length, askB bel y.root)
    (cond (ov bel x y) (i + (nds x).length, k + (nds y).length, true) (0, 0, false))
noncomputable def con_over (n : Nat) : Con := con3q (fun (p : Pair) (i k : Int) => p.a.length ≤ 1000000000 ∧ p.b.length ≤ 1000000000 ∧ 0 ≤ i ∧ 0 ≤ k ∧ ∃ x y, At ar p.a i.toNat x ∧ At ar p.b k.toNat y ∧ (nds x).length < n)
  (fun p i k => overR p.bel (treeAt ar p.a i.toNat) (treeAt ar p.b k.toNat) i k)
theorem con_over_zero : ∀ c, ¬ (con_over 0).pre c := by
  intro c h
  unfold con_over at h
  obtain ⟨_, _, _, _, _, _, _, _, _, _, _, _, h⟩ := con3q_pre h
  omega
def con_AgreeDyn : Con := con2 (fun (_ _ : Int) => True) (fun _ _ => true)
noncomputable def ctx_AgreeDyn : Ctx := ⟨tab, lkC [], 60, lkB [], [], false⟩
theorem ctx_AgreeDyn_d : ctx_AgreeDyn.dp = 60 := rfl
theorem good_AgreeDyn : Good Try.prog (46, con_AgreeDyn) := by
  refine ⟨U0 Try.func46 (by kernel_rfl) rfl, ?_⟩
  have K : CtxOk Try.prog ctx_AgreeDyn := U4 Ki Ka (by simp) (by simp)
  obtain ⟨c, hc⟩ : ∃ c, Try.f46.body = some c := ⟨_, rfl⟩
  refine U5 K Try.func46 hc [.tmp 4] rfl 5 rfl (fun cvs hpre => ?_)
  change con_AgreeDyn.pre cvs at hpre
  unfold con_AgreeDyn at hpre
  obtain ⟨i, k, rfl, -⟩ := Kj hpre
  simp only [Try.f46, Option.some.injEq] at hc
  subst hc
  (sym =>
   simp [ctx_AgreeDyn_d,con_AgreeDyn.eq_def,Za,Zb,Zc,Ze,Zf,Qn,Qo,Qp,Qq,Qs,Q1,Q2,Q4,Q8,Jk,Jw,J2,J3,Xe,Xu,X2,X4,X9,Wa,Wd,Wf,Wr,Ws,Wt,Wu,Ww,Wy,W4,W5,Yv,Yw,Y5,Y6,Y7,Y8,Y9,Va,V5,Uk])
structure PL where
  l : List Node
instance encPL : Enc PL := ⟨fun p => .ptr 1 (.list 3 (p.l.map enc)), fun x => match x with
  | .ptr _ z => ⟨z.l.map dec⟩
  | _ => ⟨[]⟩, fun p => by
    have h : ∀ l : List Node, (l.map (enc : Node → D)).map dec = l := fun l => Hu
    cases p
    simp [D.l,h]⟩
theorem enc_PL {l : List Node} : (enc (PL.mk l) : D) = .ptr 1 (.list 3 (l.map enc)) := rfl
theorem K9 {l : List Node} : (dec (.ptr 1 (.list 3 (l.map enc))) : PL) = ⟨l⟩ := Enc.dec_enc (PL.mk l)
theorem Gd {l : List Node} : isE PL (.ptr 1 (.list 3 (l.map enc))) = True := eq_true (Gp (PL.mk l))
theorem Nk {l : List Node} : (PL.mk l).l = l := rfl
def con_BelowDyn : Con := con3 (fun (_ k : Int) (p : PL) => 0 ≤ k ∧ k < p.l.length) (fun _ k p => (p.l.getD k.toNat n0).kind == 0)
noncomputable def ctx_BelowDyn : Ctx := ⟨tab, lkC [], 60, lkB [], [], false⟩
theorem ctx_BelowDyn_t : ctx_BelowDyn.τ = tab := rfl
theorem ctx_BelowDyn_d : ctx_BelowDyn.dp = 60 := rfl
theorem good_BelowDyn : Good Try.prog (42, con_BelowDyn) := by
  refine ⟨U0 Try.func42 (by kernel_rfl) rfl, ?_⟩
  have K : CtxOk Try.prog ctx_BelowDyn := U4 Ki Ka (by simp) (by simp)
  obtain ⟨c, hc⟩ : ∃ c, Try.f42.body = some c := ⟨_, rfl⟩
  refine U5 K Try.func42 hc [.tmp 5] rfl 12 rfl (fun cvs hpre => ?_)
  change con_BelowDyn.pre cvs at hpre
  unfold con_BelowDyn at hpre
  obtain ⟨i, k, ⟨l⟩, rfl, h1, h2⟩ := P3 hpre
  simp only at h1 h2
  obtain ⟨k, rfl⟩ : ∃ n : Nat, k = n := ⟨k.toNat, by omega⟩
  have hlt : k < l.length := by omega
  simp only [Try.f42, Option.some.injEq] at hc
  subst hc
  have zz1 := U8 n0 hlt
  (sym =>
   simp [zz1,enc_PL,K9,Gd,Nk,Ur,Up,Us,Uo,szN,Uq,ctx_BelowDyn_t,ctx_BelowDyn_d,con_BelowDyn.eq_def,Za,Zb,Zc,Ze,Zf,Zo,Zp,Zq,Zs,Zv,Zx,Zy,Qb,Qd,Qn,Qo,Qp,Qq,Qs,Q1,Q2,Q4,Q8,Jk,Jw,J2,J3,Xe,Xv,X2,X4,X9,Wa,Wd,Wf,Wg,Wh,Wr,Ws,Wt,Wu,Ww,Wy,W4,W5,W6,Yc,Yf,Yg,Yj,Yk,Yr,Yt,Yu,Yv,Yw,Y5,Y6,Y7,Y8,Y9,Va,Vf,Vp,V4,V5,Uj,Uk,Um,U2,U3,Kb]
   tactic =>
    try simp only [Uy] at *
    try simp only [nc2] at *
    try simp (maxSteps := 4000000) only [zz1,enc_PL,K9,Gd,Nk,Ur,Up,Us,Uo,szN,Uq,U1]
    repeat' (first | with_reducible assumption | with_reducible refine And.intro ?_ ?_ | intro _ | omega | (rw [Ux]; omega)))
theorem K4 {A B C R S T : Type} [Enc A] [Enc B] [Enc C] [Enc R] [Enc S] [Enc T] (p : A → B → C → Prop) (f : A → B → C → R × S × T) : con3q p f = ⟨[false, false, false], [false, false, false], fun c => match c with
  | [.d x, .d y, .d z] => isE A x ∧ isE B y ∧ isE C z ∧ p (dec x) (dec y) (dec z)
  | _ => False, fun c => match c with
  | [.d x, .d y, .d z] => .tup [.d (enc (f (dec x) (dec y) (dec z)).1), .d (enc (f (dec x) (dec y) (dec z)).2.1), .d (enc (f (dec x) (dec y) (dec z)).2.2)]
  | _ => .d .nilp⟩ := rfl
theorem ov_kids {bel : Bool} : ∀ {xs ys : List (Rose Node)}, xs.length = ys.length → (ovs bel xs ys = true ↔ ∀ j, j < xs.length → ∀ (h : j < xs.length) (g : j < ys.length), xs[j].root.name = ys[j].root.name ∧ ov bel xs[j] ys[j] = true)
  | [], [], _ => by simp [ovs]
  | [], _ :: _, h => by simp at h
  | _ :: _, [], h => by simp at h
  | x :: xs, y :: ys, h => by
    simp only [ovs, Bool.and_eq_true, beq_iff_eq]
    rw [ov_kids (by simpa using h)]
    constructor
    · rintro ⟨h1, h2, h3⟩ j hj
      cases j with
      | zero => exact fun _ _ => ⟨h1, h2⟩
      | succ j => exact fun g1 g2 => h3 j (by simpa using g1) (by simpa using g1) (by simpa using g2)
    · intro h4
      have h5 := h4 0 (by simp) (by simp) (by simp)
      exact ⟨h5.1, h5.2, fun j hj g1 g2 => h4 (j + 1) (by simpa using hj) (by simpa using g1) (by simpa using g2)⟩
theorem overR_ok {bel : Bool} {x y : Rose Node} {i k : Int} : (overR bel x y i k).2.2 = ov bel x y := by
  obtain ⟨n, ks⟩ := x
  unfold overR
  cases hd : ((mk n ks).root.kind == 0 || y.root.kind == 0) with
  | true =>
    simp only [cond_true]
    rw [ov]
    rw [show (mk n ks).root = n from rfl] at hd
    rw [hd]
    rfl
  | false =>
    cases ho : ov bel (mk n ks) y <;> simp
theorem overR_t {bel : Bool} {x y : Rose Node} {i k : Nat} (h : ov bel x y = true) : overR bel x y i k = (((i + (nds x).length : Nat) : Int), ((k + (nds y).length : Nat) : Int), true) := by
  have h2 := overR_ok (bel := bel) (x := x) (y := y) (i := i) (k := k)
  rw [h] at h2
  unfold overR at h2 ⊢
  cases hd : (x.root.kind == 0 || y.root.kind == 0) with
  | true =>
    rw [hd] at h2
    simp only [cond_true] at h2 ⊢
    rw [h2]
    simp
  | false => rw [h]; simp
theorem ar_eq {m n : Node} (h1 : m.kind = n.kind) (h2 : m.n = n.n) : ar m = ar n := by unfold ar; rw [h1, h2]
theorem nds_at_lt {xs : List (Rose Node)} {j : Nat} (h : j < xs.length) : (nds xs[j]).length ≤ (ndss xs).length := by
  induction xs generalizing j with
  | nil => simp at h
  | cons x xs ih =>
    simp only [ndss, List.length_append]
    cases j with
    | zero => simp
    | succ j => have := ih (j := j) (by simpa using h); simp only [List.getElem_cons_succ]; omega
noncomputable def ctx_over (n : Nat) : Ctx := ⟨tab, lkC [(45, con_EndT), (75, con_KidsT), (46, con_AgreeDyn), (42, con_BelowDyn), (43, (con_over n))], 60, lkB [], [], false⟩
theorem G7 (n : Nat) : (ctx_over n).τ = tab := rfl
theorem Hk (n : Nat) : (ctx_over n).Γ = lkC [(45, con_EndT), (75, con_KidsT), (46, con_AgreeDyn), (42, con_BelowDyn), (43, (con_over n))] := rfl
theorem G8 (n : Nat) : (ctx_over n).dp = 60 := rfl
theorem Hl (n : Nat) : (ctx_over n).Δ = lkB [] := rfl
theorem Hj (n : Nat) : (ctx_over n).wr = false := rfl
set_option maxRecDepth 100000 in
theorem step_over (n : Nat) (ih : Good Try.prog (43, con_over n)) : Good Try.prog (43, (con_over (n + 1))) := by
  refine ⟨U0 Try.func43 (by kernel_rfl) rfl, ?_⟩
  have K : CtxOk Try.prog (ctx_over n) := U4 Ki Ka (by
    intro p hp
    simp only [List.mem_cons, List.not_mem_nil, or_false] at hp
    rcases hp with rfl | rfl | rfl | rfl | rfl
    · exact I4
    · exact good_KidsT
    · exact good_AgreeDyn
    · exact good_BelowDyn
    · exact ih) (by simp)
  obtain ⟨c, hc⟩ : ∃ c, Try.f43.body = some c := ⟨_, rfl⟩
  refine U5 K Try.func43 hc [.tmp 6, .tmp 7, .tmp 8] rfl 101 rfl (fun cvs hpre => ?_)
  change (con_over (n + 1)).pre cvs at hpre
  unfold con_over at hpre
  obtain ⟨⟨a, b, bel⟩, i, k, rfl, ha, hb, hi0, hk0, x, y, hx, hy, hn⟩ := con3q_pre hpre
  obtain ⟨i, rfl⟩ : ∃ n : Nat, i = n := ⟨i.toNat, by omega⟩
  obtain ⟨k, rfl⟩ : ∃ n : Nat, k = n := ⟨k.toNat, by omega⟩
  simp only [Int.toNat_natCast] at hx hy ha hb
  have hil := hx.lt
  have hkl := hy.lt
  have hix := hx.le
  have hky := hy.le
  have hrx : a.getD i n0 = x.root := hx.root n0
  have hry : b.getD k n0 = y.root := hy.root n0
  have htx : treeAt ar a i = x := Ga hx
  have hty : treeAt ar b k = y := Ga hy
  have hex : endT a i = ((i + (nds x).length : Nat) : Int) := endT_at hx
  have hey : endT b k = ((k + (nds y).length : Nat) : Int) := endT_at hy
  have hwx := at_whl hx
  have hwy := at_whl hy
  simp only [Try.f43, Option.some.injEq] at hc
  subst hc
  refine Kl 6 (of_decide_eq_true (by kernel_rfl)) ?_
  have hdc : ((x.root.kind == 0) = true ∧ (x.root.kind == 0 || y.root.kind == 0) = true) ∨ ((x.root.kind == 0) = false ∧ (y.root.kind == 0) = true ∧ (x.root.kind == 0 || y.root.kind == 0) = true) ∨ ((x.root.kind == 0) = false ∧ (y.root.kind == 0) = false ∧ (x.root.kind == 0 || y.root.kind == 0) = false) := by
    cases x.root.kind == 0 <;> cases y.root.kind == 0 <;> simp
  have hR : (x.root.kind == 0 || y.root.kind == 0) = true → overR bel x y i k = (((i + (nds x).length : Nat) : Int), ((k + (nds y).length : Nat) : Int), askB bel y.root) := by
    intro hd
    unfold overR; rw [hd]; simp
  rcases hdc with ⟨hd1, hd⟩ | ⟨hd1, hd2, hd⟩ | ⟨hd1, hd2, hd⟩
  · have hRd := hR hd
    cases bel with
    | true =>
      have zz2 := U8 n0 hil
      have zz3 := U8 n0 hkl
      (sym =>
       simp [zz2,zz3,hrx,hry,htx,hty,hex,hey,hd1,hRd,Ks,Ko,K9,Gd,Nk,K4,Kx,Gu,Gt,Gs,K2,K3,Kq,Kr,Km,Kn,Ur,Up,Us,Uo,szN,Uq,G7,Hk,G8,Hl,Hj,con_AgreeDyn.eq_def,con_BelowDyn.eq_def,con_EndT.eq_def,con_KidsT.eq_def,con_over.eq_def,Zb,Zc,Zd,Ze,Zf,Zh,Zi,Zj,Zk,Zl,Zm,Zo,Zp,Zq,Zs,Zt,Zu,Zv,Zw,Zx,Zy,Z9,Qa,Qb,Qd,Qe,Qf,Qk,Ql,Qm,Qn,Qo,Qp,Qq,Qr,Qs,Q1,Q2,Q4,Q5,Q6,Q8,Jf,Jh,Ji,Jj,Jk,Jl,Jw,J2,J3,J4,J5,J7,J8,Xa,Xb,Xe,Xm,Xn,Xo,Xr,Xu,Xv,X2,X3,X4,X5,X9,Wa,Wb,Wc,Wd,We,Wf,Wg,Wh,Wj,Wn,Wo,Wp,Wq,Wr,Ws,Wt,Wu,Wv,Ww,Wx,Wy,W0,W3,W4,W5,W6,W7,W8,W9,Yc,Yf,Yg,Yj,Yk,Yo,Yv,Yw,Y5,Y6,Y9,Va,Vb,Vc,Vd,Ve,Vf,Vi,Vj,Vk,Vp,Vr,Vs,V4,V5,Uh,Ui,Uj,Uk,Ul,Um,Un,U2,U3,Kb,tab57,Ss]
       tactic =>
        try simp only [Uy] at *
        try simp only [nc2] at *
        try simp (maxSteps := 4000000) only [zz2,zz3,hrx,hry,htx,hty,hex,hey,hd1,hRd,Ks,Ko,K9,Gd,Nk,K4,Kx,Gu,Gt,Gs,K2,K3,Kq,Kr,Km,Kn,Ur,Up,Us,Uo,szN,Uq,U1]
        repeat' (first | with_reducible assumption | with_reducible refine And.intro ?_ ?_ | intro _ | omega | (rw [Ux]; omega))
        all_goals first
          | (with_reducible refine Kh ?_; kernel_rfl)
          | rfl)
    | false =>
      have zz4 := U8 n0 hil
      have zz5 := U8 n0 hkl
      (sym =>
       simp [zz4,zz5,hrx,hry,htx,hty,hex,hey,hd1,hRd,Ks,Ko,K9,Gd,Nk,K4,Kx,Gu,Gt,Gs,K2,K3,Kq,Kr,Km,Kn,Ur,Up,Us,Uo,szN,Uq,G7,Hk,G8,Hl,Hj,con_AgreeDyn.eq_def,con_BelowDyn.eq_def,con_EndT.eq_def,con_KidsT.eq_def,con_over.eq_def,Zb,Zc,Zd,Ze,Zf,Zh,Zi,Zj,Zk,Zl,Zm,Zo,Zp,Zq,Zs,Zt,Zu,Zv,Zw,Zx,Zy,Z9,Qa,Qb,Qd,Qe,Qf,Qk,Ql,Qm,Qn,Qo,Qp,Qq,Qr,Qs,Q1,Q2,Q4,Q5,Q6,Q8,Jf,Jh,Ji,Jj,Jk,Jl,Jw,J2,J3,J4,J5,J7,J8,Xa,Xb,Xe,Xm,Xn,Xo,Xr,Xu,Xv,X2,X3,X4,X5,X9,Wa,Wb,Wc,Wd,We,Wf,Wg,Wh,Wj,Wn,Wo,Wp,Wq,Wr,Ws,Wt,Wu,Wv,Ww,Wx,Wy,W0,W3,W4,W5,W6,W7,W8,W9,Yc,Yf,Yg,Yj,Yk,Yo,Yv,Yw,Y5,Y6,Y9,Va,Vb,Vc,Vd,Ve,Vf,Vi,Vj,Vk,Vp,Vr,Vs,V4,V5,Uh,Ui,Uj,Uk,Ul,Um,Un,U2,U3,Kb,tab57,Ss]
       tactic =>
        try simp only [Uy] at *
        try simp only [nc2] at *
        try simp (maxSteps := 4000000) only [zz4,zz5,hrx,hry,htx,hty,hex,hey,hd1,hRd,Ks,Ko,K9,Gd,Nk,K4,Kx,Gu,Gt,Gs,K2,K3,Kq,Kr,Km,Kn,Ur,Up,Us,Uo,szN,Uq,U1]
        repeat' (first | with_reducible assumption | with_reducible refine And.intro ?_ ?_ | intro _ | omega | (rw [Ux]; omega))
        all_goals first
          | (with_reducible refine Kh ?_; kernel_rfl)
          | rfl)
  · have hRd := hR hd
    cases bel with
    | true =>
      have zz6 := U8 n0 hil
      have zz7 := U8 n0 hkl
      (sym =>
       simp [zz6,zz7,hrx,hry,htx,hty,hex,hey,hd1,hd2,hRd,Ks,Ko,K9,Gd,Nk,K4,Kx,Gu,Gt,Gs,K2,K3,Kq,Kr,Km,Kn,Ur,Up,Us,Uo,szN,Uq,G7,Hk,G8,Hl,Hj,con_AgreeDyn.eq_def,con_BelowDyn.eq_def,con_EndT.eq_def,con_KidsT.eq_def,con_over.eq_def,Zb,Zc,Zd,Ze,Zf,Zh,Zi,Zj,Zk,Zl,Zm,Zo,Zp,Zq,Zs,Zt,Zu,Zv,Zw,Zx,Zy,Z9,Qa,Qb,Qd,Qe,Qf,Qk,Ql,Qm,Qn,Qo,Qp,Qq,Qr,Qs,Q1,Q2,Q4,Q5,Q6,Q8,Jf,Jh,Ji,Jj,Jk,Jl,Jw,J2,J3,J4,J5,J7,J8,Xa,Xb,Xe,Xm,Xn,Xo,Xr,Xu,Xv,X2,X3,X4,X5,X9,Wa,Wb,Wc,Wd,We,Wf,Wg,Wh,Wj,Wn,Wo,Wp,Wq,Wr,Ws,Wt,Wu,Wv,Ww,Wx,Wy,W0,W3,W4,W5,W6,W7,W8,W9,Yc,Yf,Yg,Yj,Yk,Yo,Yv,Yw,Y5,Y6,Y9,Va,Vb,Vc,Vd,Ve,Vf,Vi,Vj,Vk,Vp,Vr,Vs,V4,V5,Uh,Ui,Uj,Uk,Ul,Um,Un,U2,U3,Kb,tab57,Ss]
       tactic =>
        try simp only [Uy] at *
        try simp only [nc2] at *
        try simp (maxSteps := 4000000) only [zz6,zz7,hrx,hry,htx,hty,hex,hey,hd1,hd2,hRd,Ks,Ko,K9,Gd,Nk,K4,Kx,Gu,Gt,Gs,K2,K3,Kq,Kr,Km,Kn,Ur,Up,Us,Uo,szN,Uq,U1]
        repeat' (first | with_reducible assumption | with_reducible refine And.intro ?_ ?_ | intro _ | omega | (rw [Ux]; omega))
        all_goals first
          | (with_reducible refine Kh ?_; kernel_rfl)
          | (unfold askB; simp_all))
    | false =>
      have zz8 := U8 n0 hil
      have zz9 := U8 n0 hkl
      (sym =>
       simp [zz8,zz9,hrx,hry,htx,hty,hex,hey,hd1,hd2,hRd,Ks,Ko,K9,Gd,Nk,K4,Kx,Gu,Gt,Gs,K2,K3,Kq,Kr,Km,Kn,Ur,Up,Us,Uo,szN,Uq,G7,Hk,G8,Hl,Hj,con_AgreeDyn.eq_def,con_BelowDyn.eq_def,con_EndT.eq_def,con_KidsT.eq_def,con_over.eq_def,Zb,Zc,Zd,Ze,Zf,Zh,Zi,Zj,Zk,Zl,Zm,Zo,Zp,Zq,Zs,Zt,Zu,Zv,Zw,Zx,Zy,Z9,Qa,Qb,Qd,Qe,Qf,Qk,Ql,Qm,Qn,Qo,Qp,Qq,Qr,Qs,Q1,Q2,Q4,Q5,Q6,Q8,Jf,Jh,Ji,Jj,Jk,Jl,Jw,J2,J3,J4,J5,J7,J8,Xa,Xb,Xe,Xm,Xn,Xo,Xr,Xu,Xv,X2,X3,X4,X5,X9,Wa,Wb,Wc,Wd,We,Wf,Wg,Wh,Wj,Wn,Wo,Wp,Wq,Wr,Ws,Wt,Wu,Wv,Ww,Wx,Wy,W0,W3,W4,W5,W6,W7,W8,W9,Yc,Yf,Yg,Yj,Yk,Yo,Yv,Yw,Y5,Y6,Y9,Va,Vb,Vc,Vd,Ve,Vf,Vi,Vj,Vk,Vp,Vr,Vs,V4,V5,Uh,Ui,Uj,Uk,Ul,Um,Un,U2,U3,Kb,tab57,Ss]
       tactic =>
        try simp only [Uy] at *
        try simp only [nc2] at *
        try simp (maxSteps := 4000000) only [zz8,zz9,hrx,hry,htx,hty,hex,hey,hd1,hd2,hRd,Ks,Ko,K9,Gd,Nk,K4,Kx,Gu,Gt,Gs,K2,K3,Kq,Kr,Km,Kn,Ur,Up,Us,Uo,szN,Uq,U1]
        repeat' (first | with_reducible assumption | with_reducible refine And.intro ?_ ?_ | intro _ | omega | (rw [Ux]; omega))
        all_goals first
          | (with_reducible refine Kh ?_; kernel_rfl)
          | rfl)
  · obtain ⟨hks, hkn⟩ := hx.kids
    obtain ⟨hqs, hqn⟩ := hy.kids
    obtain ⟨xs, hxs⟩ : ∃ xs, x.kids = xs := ⟨_, rfl⟩
    obtain ⟨ys, hys⟩ : ∃ ys, y.kids = ys := ⟨_, rfl⟩
    have hov : ov bel x y = ((x.root.kind == y.root.kind && (x.root.name == y.root.name && x.root.n == y.root.n)) && ovs bel xs ys) := by
      obtain ⟨m, zs⟩ := x
      rw [ov]
      rw [show (mk m zs).root = m from rfl] at hd
      rw [hd, hys, show zs = xs from hxs]
      rfl
    have hRo : overR bel x y i k = cond (ov bel x y) (((i + (nds x).length : Nat) : Int), ((k + (nds y).length : Nat) : Int), true) (0, 0, false) := by
      unfold overR; rw [hd]; simp
    have hkids : kidsT a i = kidPos (i + 1) xs := by
      unfold kidsT
      rw [if_neg (by omega)]
      simp only [Int.toNat_natCast]
      rw [htx, hxs]
    have hklen : (kidsT a i).length = xs.length := by rw [hkids, Mg]
    have htree : Tree a i := fun _ _ => ⟨x, by simpa using hx⟩
    have hbadR : ov bel x y = false → overR bel x y i k = (0, 0, false) := by
      intro h; rw [hRo, h]; rfl
    have hsame : (x.root.kind == y.root.kind && (x.root.name == y.root.name && x.root.n == y.root.n)) = true → xs.length = ys.length := by
      intro h
      simp only [Bool.and_eq_true, beq_iff_eq] at h
      rw [hxs] at hkn
      rw [hys] at hqn
      rw [hkn, hqn, ar_eq h.1 h.2.2]
    rw [hxs] at hks
    rw [hys] at hqs
    have hle := ats_le hks (by omega)
    have hnx : (nds x).length = 1 + (ndss xs).length := by rw [Gx, hxs, List.length_cons]; omega
    have hny : (nds y).length = 1 + (ndss ys).length := by rw [Gx, hys, List.length_cons]; omega
    have hxl : xs.length ≤ 1000000000 := by
      have := Mg (i + 1) xs
      have h2 : xs.length ≤ (ndss xs).length := by
        clear hks hle hov hkids hklen hbadR hRo hsame hxs hnx this
        induction xs with
        | nil => simp
        | cons z zs ih => simp only [List.length_cons, ndss, List.length_append]; have := K8 z; omega
      omega
    by_cases hk1 : x.root.kind = y.root.kind ∧ x.root.name = y.root.name ∧ x.root.n = y.root.n
    · obtain ⟨e1, e2, e3⟩ := hk1
      have b1 : (x.root.kind != y.root.kind) = false := by simp [e1]
      have b2 : (x.root.name == y.root.name) = true := by simp [e2]
      have b3 : (x.root.n != y.root.n) = false := by simp [e3]
      have c1 : (x.root.kind == y.root.kind) = true := by simp [e1]
      have c3 : (x.root.n == y.root.n) = true := by simp [e3]
      have hlen : xs.length = ys.length := hsame (by simp [e1, e2, e3])
      rw [c1, b2, c3, Bool.true_and, Bool.true_and, Bool.true_and] at hov
      have zz10 := U8 n0 hil
      have zz11 := U8 n0 hkl
      (sym =>
       simp [zz10,zz11,hrx,hry,htx,hty,hd1,hd2,b1,b2,b3,hklen,Ks,Ko,K9,Gd,Nk,K4,Kx,Gu,Gt,Gs,K2,K3,Kq,Kr,Km,Kn,Ur,Up,Us,Uo,szN,Uq,G7,Hk,G8,Hl,Hj,con_AgreeDyn.eq_def,con_BelowDyn.eq_def,con_EndT.eq_def,con_KidsT.eq_def,con_over.eq_def,Zb,Zc,Zd,Ze,Zf,Zh,Zi,Zj,Zk,Zl,Zm,Zo,Zp,Zq,Zs,Zt,Zu,Zv,Zw,Zx,Zy,Z6,Z9,Qb,Qd,Qe,Qf,Qk,Ql,Qm,Qq,Qr,Qs,Q1,Q2,Q4,Q5,Q6,Q8,Jf,Jh,Ji,Jj,Jl,Jw,J2,J3,J4,J5,J7,J8,Xa,Xb,Xe,Xm,Xn,Xo,Xr,Xu,Xv,X1,X2,X3,X4,X5,X6,X7,Wa,Wb,Wc,Wd,We,Wf,Wg,Wh,Wj,Wn,Wr,Ws,Wt,Wu,Wv,Ww,Wx,Wy,W0,W3,W4,W5,W6,W7,W8,W9,Yc,Ye,Yf,Yg,Yi,Yj,Yk,Yo,Yv,Yw,Yy,Yz,Y2,Y5,Y6,Y9,Va,Vb,Vc,Vd,Ve,Vf,Vi,Vj,Vk,Vn,Vp,Vr,Vs,V4,V5,Ui,Uj,Uk,Ul,Um,Un,U2,Gr,U3,Kb,Ss,Nl]
       tactic =>
        try simp only [Uy] at *
        try simp only [nc2] at *
        try simp (maxSteps := 4000000) only [zz10,zz11,hrx,hry,htx,hty,hd1,hd2,b1,b2,b3,hklen,Ks,Ko,K9,Gd,Nk,K4,Kx,Gu,Gt,Gs,K2,K3,Kq,Kr,Km,Kn,Ur,Up,Us,Uo,szN,Uq,U1]
        repeat' (first | with_reducible assumption | with_reducible refine And.intro ?_ ?_ | intro _ | omega | (rw [Ux]; omega))
        all_goals first
          | (with_reducible refine Kh ?_; kernel_rfl)
          | skip
        refine Ke [6, 7, 8, 12, 74, 75, 76, 77, 78, 79, 80, 81, 82, 83, 84, 85, 86, 87, 88, 89, 90, 91, 92, 93, 94, 95, 96, 97, 98] (fun j : Nat => [(1, .d (.int .i64 (i + 1 + (ndss (xs.take j)).length : Nat))), (2, .d (.int .i64 (k + 1 + (ndss (ys.take j)).length : Nat))), (73, .d (.int .i64 j))]) (fun j : Nat => []) (fun j : Nat => j ≤ xs.length ∧ ∀ p, p < j → ∀ (h : p < xs.length) (g : p < ys.length), xs[p].root.name = ys[p].root.name ∧ ov bel xs[p] ys[p] = true) (fun j : Nat => xs.length - j) 0 ?_ ?_ ?_
        · exact ⟨Nat.zero_le _, fun p hp => absurd hp (by omega)⟩
        · ((try simp only [Uz, killAll, setSlots, updAll, upd, U9, setCs, putC, Nat.reduceDiv, Nat.reduceMod, Nat.reduceMul, Nat.reduceAdd, Nat.reduceEqDiff, List.set_cons_zero, List.set_cons_succ, if_true, if_false, reduceIte]); (first | refine Wk.of_fl ?_ | skip); simp only [Wk, wkK, wkCs, wkT, wk1, AV.kept, keptAll, wkO, lk, wkObj, and_true, true_and, and_self, Nat.reduceEqDiff, Nat.reduceLeDiff, if_true, if_false, reduceIte, reduceCtorEq, Option.isSome, false_implies]; try simp [Wk, wkK, wkT, wk1, AV.kept, keptAll, wkO, lk, wkObj, ndss])
        rintro j ⟨hj, hno⟩
        rcases Kf j xs.length with ⟨hlt, hlb⟩ | ⟨hlt, hlb⟩
        · have hlt' : j < ys.length := by omega
          have hax := F6 hks hlt
          have hay := F6 hqs hlt'
          have hnr : (nds xs[j]).length < n := by have := nds_at_lt hlt; omega
          obtain ⟨xj, hxj⟩ : ∃ z, xs[j] = z := ⟨_, rfl⟩
          obtain ⟨yj, hyj⟩ : ∃ z, ys[j] = z := ⟨_, rfl⟩
          have hsx := L8 hlt
          have hsy := L8 hlt'
          rw [hxj] at hax hnr hsx
          rw [hyj] at hay hsy
          have hgo : xj.root.name = yj.root.name → ov bel xj yj = true → ∀ p, p < j + 1 → ∀ (h : p < xs.length) (g : p < ys.length), xs[p].root.name = ys[p].root.name ∧ ov bel xs[p] ys[p] = true := by
            intro g1 g2 p hp h g
            by_cases hpj : p = j
            · subst hpj; rw [hxj, hyj]; exact ⟨g1, g2⟩
            · exact hno p (by omega) h g
          have hst : ¬ (xj.root.name = yj.root.name ∧ ov bel xj yj = true) → ov bel x y = false := by
            intro h
            rw [hov, Bool.eq_false_iff]
            intro hc
            have := (ov_kids hlen).1 hc j hlt hlt hlt'
            rw [hxj, hyj] at this
            exact h this
          obtain ⟨I, hI⟩ : ∃ I, i + 1 + (ndss (xs.take j)).length = I := ⟨_, rfl⟩
          obtain ⟨J, hJ⟩ : ∃ I, k + 1 + (ndss (ys.take j)).length = I := ⟨_, rfl⟩
          rw [hI] at hax
          rw [hJ] at hay
          have hIl := hax.lt
          have hJl := hay.lt
          have hrx2 : a.getD I n0 = xj.root := hax.root n0
          have hry2 : b.getD J n0 = yj.root := hay.root n0
          have htx2 : treeAt ar a I = xj := Ga hax
          have hty2 : treeAt ar b J = yj := Ga hay
          have hrec : ∃ x y, At ar a I x ∧ At ar b J y ∧ (nds x).length < n := ⟨xj, yj, hax, hay, hnr⟩
          cases hnm : (xj.root.name == yj.root.name) with
          | false =>
            have hz := hbadR (hst fun h => by rw [beq_eq_false_iff_ne] at hnm; exact hnm h.1)
            have zz12 := U8 n0 hIl
            have zz13 := U8 n0 hJl
            (sym =>
             simp [hlb,hI,hJ,zz12,zz13,hrx2,hry2,hnm,htx,hty,hz,Ks,Ko,K9,Gd,Nk,K4,Kx,Gu,Gt,Gs,K2,K3,Kq,Kr,Km,Kn,Ur,Up,Us,Uo,szN,Uq,G7,Hk,G8,Hl,Hj,con_AgreeDyn.eq_def,con_BelowDyn.eq_def,con_EndT.eq_def,con_KidsT.eq_def,con_over.eq_def,Zb,Zc,Ze,Zf,Zg,Zh,Zi,Zj,Zk,Zl,Zm,Zo,Zp,Zq,Zs,Zv,Zx,Zy,Qb,Qd,Qm,Qn,Qo,Qp,Qq,Qr,Qs,Q1,Q2,Q4,Q5,Q6,Q8,Jh,Jk,Jx,Jy,Jz,J4,J5,J7,J8,J9,Xa,Xb,Xe,Xu,Xv,X1,X2,X3,X4,X5,X6,X9,Wa,Wb,Wc,Wd,We,Wf,Wg,Wh,Wn,Wr,Ws,Wt,Wu,W0,W3,W4,W5,W6,W7,W8,W9,Yb,Yc,Ye,Yf,Yg,Yi,Yj,Yk,Ys,Yu,Y5,Y6,Y7,Y8,Vo,Vp,Vr,V4,V5,Uh,Ui,Uj,Uk,Ul,Um,Un,U2,Gr,U3,Kb,Ss]
             tactic =>
              try simp only [Uy] at *
              try simp only [nc2] at *
              try simp (maxSteps := 4000000) only [hlb,hI,hJ,zz12,zz13,hrx2,hry2,hnm,htx,hty,hz,Ks,Ko,K9,Gd,Nk,K4,Kx,Gu,Gt,Gs,K2,K3,Kq,Kr,Km,Kn,Ur,Up,Us,Uo,szN,Uq,U1]
              repeat' (first | with_reducible assumption | with_reducible refine And.intro ?_ ?_ | intro _ | omega | (rw [Ux]; omega))
              all_goals (with_reducible refine Kh ?_; kernel_rfl))
          | true =>
            have hnm' := hnm
            rw [beq_iff_eq] at hnm'
            cases ho : ov bel xj yj with
            | false =>
              have hz := hbadR (hst fun h => by rw [ho] at h; cases h.2)
              have h22 : (overR bel xj yj (I : Int) (J : Int)).2.2 = false := by rw [overR_ok, ho]
              cases bel with
              | true =>
                have zz14 := U8 n0 hIl
                have zz15 := U8 n0 hJl
                (sym =>
                 simp [hlb,hI,hJ,zz14,zz15,hrx2,hry2,htx2,hty2,hnm,htx,hty,h22,hz,Ks,Ko,K9,Gd,Nk,K4,Kx,Gu,Gt,Gs,K2,K3,Kq,Kr,Km,Kn,Ur,Up,Us,Uo,szN,Uq,G7,Hk,G8,Hl,Hj,con_AgreeDyn.eq_def,con_BelowDyn.eq_def,con_EndT.eq_def,con_KidsT.eq_def,con_over.eq_def,Zb,Zc,Ze,Zf,Zg,Zh,Zi,Zj,Zk,Zl,Zm,Zo,Zp,Zq,Zs,Zv,Zx,Zy,Z8,Z9,Qb,Qc,Qd,Qe,Qf,Qg,Qh,Qm,Qn,Qo,Qp,Qq,Qr,Qs,Q1,Q2,Q4,Q5,Q6,Q8,Q9,Ja,Jf,Jh,Jj,Jk,Jl,Jx,Jy,Jz,J4,J5,J6,J7,J8,J9,Xa,Xb,Xe,Xu,Xv,X1,X2,X3,X4,X5,X6,X9,Wa,Wb,Wc,Wd,We,Wf,Wg,Wh,Wn,Wr,Ws,Wt,Wu,Wv,Wx,Wy,W0,W3,W4,W5,W6,W7,W8,W9,Yb,Yc,Yd,Ye,Yf,Yg,Yh,Yi,Yj,Yk,Ys,Yu,Yv,Yw,Y5,Y6,Y7,Y8,Vb,Vc,Ve,Vf,Vk,Vn,Vo,Vp,Vr,V4,V5,Uh,Ui,Uj,Uk,Ul,Um,Un,U2,Ku,Gr,U3,Kb,Ss]
                 tactic =>
                  try simp only [Uy] at *
                  try simp only [nc2] at *
                  try simp (maxSteps := 4000000) only [hlb,hI,hJ,zz14,zz15,hrx2,hry2,htx2,hty2,hnm,htx,hty,h22,hz,Ks,Ko,K9,Gd,Nk,K4,Kx,Gu,Gt,Gs,K2,K3,Kq,Kr,Km,Kn,Ur,Up,Us,Uo,szN,Uq,U1]
                  repeat' (first | with_reducible assumption | with_reducible refine And.intro ?_ ?_ | intro _ | omega | (rw [Ux]; omega))
                  all_goals (with_reducible refine Kh ?_; kernel_rfl))
              | false =>
                have zz16 := U8 n0 hIl
                have zz17 := U8 n0 hJl
                (sym =>
                 simp [hlb,hI,hJ,zz16,zz17,hrx2,hry2,htx2,hty2,hnm,htx,hty,h22,hz,Ks,Ko,K9,Gd,Nk,K4,Kx,Gu,Gt,Gs,K2,K3,Kq,Kr,Km,Kn,Ur,Up,Us,Uo,szN,Uq,G7,Hk,G8,Hl,Hj,con_AgreeDyn.eq_def,con_BelowDyn.eq_def,con_EndT.eq_def,con_KidsT.eq_def,con_over.eq_def,Zb,Zc,Ze,Zf,Zg,Zh,Zi,Zj,Zk,Zl,Zm,Zo,Zp,Zq,Zs,Zv,Zx,Zy,Z8,Z9,Qb,Qc,Qd,Qe,Qf,Qg,Qh,Qm,Qn,Qo,Qp,Qq,Qr,Qs,Q1,Q2,Q4,Q5,Q6,Q8,Q9,Ja,Jf,Jh,Jj,Jk,Jl,Jx,Jy,Jz,J4,J5,J6,J7,J8,J9,Xa,Xb,Xe,Xu,Xv,X1,X2,X3,X4,X5,X6,X9,Wa,Wb,Wc,Wd,We,Wf,Wg,Wh,Wn,Wr,Ws,Wt,Wu,Wv,Wx,Wy,W0,W3,W4,W5,W6,W7,W8,W9,Yb,Yc,Yd,Ye,Yf,Yg,Yh,Yi,Yj,Yk,Ys,Yu,Yv,Yw,Y5,Y6,Y7,Y8,Vb,Vc,Ve,Vf,Vk,Vn,Vo,Vp,Vr,V4,V5,Uh,Ui,Uj,Uk,Ul,Um,Un,U2,Ku,Gr,U3,Kb,Ss]
                 tactic =>
                  try simp only [Uy] at *
                  try simp only [nc2] at *
                  try simp (maxSteps := 4000000) only [hlb,hI,hJ,zz16,zz17,hrx2,hry2,htx2,hty2,hnm,htx,hty,h22,hz,Ks,Ko,K9,Gd,Nk,K4,Kx,Gu,Gt,Gs,K2,K3,Kq,Kr,Km,Kn,Ur,Up,Us,Uo,szN,Uq,U1]
                  repeat' (first | with_reducible assumption | with_reducible refine And.intro ?_ ?_ | intro _ | omega | (rw [Ux]; omega))
                  all_goals (with_reducible refine Kh ?_; kernel_rfl))
            | true =>
              have h22 := overR_t (bel := bel) (x := xj) (y := yj) (i := I) (k := J) ho
              have hI2 : I + (nds xj).length = i + 1 + (ndss (xs.take (j + 1))).length := by omega
              have hJ2 : J + (nds yj).length = k + 1 + (ndss (ys.take (j + 1))).length := by omega
              cases bel with
              | true =>
                have zz18 := U8 n0 hIl
                have zz19 := U8 n0 hJl
                (sym =>
                 simp [hlb,hI,hJ,zz18,zz19,hrx2,hry2,htx2,hty2,hnm,htx,hty,h22,hI2,hJ2,Ks,Ko,K9,Gd,Nk,K4,Kx,Gu,Gt,Gs,K2,K3,Kq,Kr,Km,Kn,Ur,Up,Us,Uo,szN,Uq,G7,Hk,G8,Hl,Hj,con_AgreeDyn.eq_def,con_BelowDyn.eq_def,con_EndT.eq_def,con_KidsT.eq_def,con_over.eq_def,Zb,Zc,Ze,Zf,Zg,Zh,Zi,Zj,Zk,Zl,Zm,Zo,Zp,Zq,Zs,Zv,Zx,Zy,Z8,Z9,Qb,Qc,Qd,Qe,Qf,Qg,Qh,Qm,Qq,Qr,Qs,Q1,Q2,Q4,Q5,Q6,Q8,Q9,Ja,Jf,Jh,Jj,Jl,Jx,Jy,Jz,J4,J5,J6,J7,J8,J9,Xa,Xb,Xe,Xu,Xv,X1,X2,X3,X4,X5,X6,Wa,Wb,Wc,Wd,We,Wf,Wg,Wh,Wn,Wr,Ws,Wt,Wu,Wv,Wx,Wy,W0,W3,W4,W5,W6,W7,W8,W9,Yb,Yc,Yd,Ye,Yf,Yg,Yh,Yi,Yj,Yk,Ys,Yu,Yv,Yw,Y5,Y6,Y7,Y8,Vb,Vc,Ve,Vf,Vk,Vn,Vp,Vr,V4,V5,Uh,Ui,Uj,Uk,Ul,Um,Un,U2,Ku,Gr,U3,Kb,Ss]
                 tactic =>
                  try simp only [Uy] at *
                  try simp only [nc2] at *
                  try simp (maxSteps := 4000000) only [hlb,hI,hJ,zz18,zz19,hrx2,hry2,htx2,hty2,hnm,htx,hty,h22,hI2,hJ2,Ks,Ko,K9,Gd,Nk,K4,Kx,Gu,Gt,Gs,K2,K3,Kq,Kr,Km,Kn,Ur,Up,Us,Uo,szN,Uq,U1]
                  repeat' (first | with_reducible assumption | with_reducible refine And.intro ?_ ?_ | intro _ | omega | (rw [Ux]; omega))
                  all_goals first
                    | (with_reducible refine Kh ?_; kernel_rfl)
                    | exact ⟨j + 1, by ((try simp only [Uz, killAll, setSlots, updAll, upd, U9, setCs, putC, Nat.reduceDiv, Nat.reduceMod, Nat.reduceMul, Nat.reduceAdd, Nat.reduceEqDiff, List.set_cons_zero, List.set_cons_succ, if_true, if_false, reduceIte]); (first | refine Wk.of_fl ?_ | skip); simp only [Wk, wkK, wkCs, wkT, wk1, AV.kept, keptAll, wkO, lk, wkObj, and_true, true_and, and_self, Nat.reduceEqDiff, Nat.reduceLeDiff, if_true, if_false, reduceIte, reduceCtorEq, Option.isSome, false_implies]; try simp [Wk, wkK, wkT, wk1, AV.kept, keptAll, wkO, lk, wkObj]), by omega, hgo hnm' ho, by omega⟩)
              | false =>
                have zz20 := U8 n0 hIl
                have zz21 := U8 n0 hJl
                (sym =>
                 simp [hlb,hI,hJ,zz20,zz21,hrx2,hry2,htx2,hty2,hnm,htx,hty,h22,hI2,hJ2,Ks,Ko,K9,Gd,Nk,K4,Kx,Gu,Gt,Gs,K2,K3,Kq,Kr,Km,Kn,Ur,Up,Us,Uo,szN,Uq,G7,Hk,G8,Hl,Hj,con_AgreeDyn.eq_def,con_BelowDyn.eq_def,con_EndT.eq_def,con_KidsT.eq_def,con_over.eq_def,Zb,Zc,Ze,Zf,Zg,Zh,Zi,Zj,Zk,Zl,Zm,Zo,Zp,Zq,Zs,Zv,Zx,Zy,Z8,Z9,Qb,Qc,Qd,Qe,Qf,Qg,Qh,Qm,Qq,Qr,Qs,Q1,Q2,Q4,Q5,Q6,Q8,Q9,Ja,Jf,Jh,Jj,Jl,Jx,Jy,Jz,J4,J5,J6,J7,J8,J9,Xa,Xb,Xe,Xu,Xv,X1,X2,X3,X4,X5,X6,Wa,Wb,Wc,Wd,We,Wf,Wg,Wh,Wn,Wr,Ws,Wt,Wu,Wv,Wx,Wy,W0,W3,W4,W5,W6,W7,W8,W9,Yb,Yc,Yd,Ye,Yf,Yg,Yh,Yi,Yj,Yk,Ys,Yu,Yv,Yw,Y5,Y6,Y7,Y8,Vb,Vc,Ve,Vf,Vk,Vn,Vp,Vr,V4,V5,Uh,Ui,Uj,Uk,Ul,Um,Un,U2,Ku,Gr,U3,Kb,Ss]
                 tactic =>
                  try simp only [Uy] at *
                  try simp only [nc2] at *
                  try simp (maxSteps := 4000000) only [hlb,hI,hJ,zz20,zz21,hrx2,hry2,htx2,hty2,hnm,htx,hty,h22,hI2,hJ2,Ks,Ko,K9,Gd,Nk,K4,Kx,Gu,Gt,Gs,K2,K3,Kq,Kr,Km,Kn,Ur,Up,Us,Uo,szN,Uq,U1]
                  repeat' (first | with_reducible assumption | with_reducible refine And.intro ?_ ?_ | intro _ | omega | (rw [Ux]; omega))
                  all_goals first
                    | (with_reducible refine Kh ?_; kernel_rfl)
                    | exact ⟨j + 1, by ((try simp only [Uz, killAll, setSlots, updAll, upd, U9, setCs, putC, Nat.reduceDiv, Nat.reduceMod, Nat.reduceMul, Nat.reduceAdd, Nat.reduceEqDiff, List.set_cons_zero, List.set_cons_succ, if_true, if_false, reduceIte]); (first | refine Wk.of_fl ?_ | skip); simp only [Wk, wkK, wkCs, wkT, wk1, AV.kept, keptAll, wkO, lk, wkObj, and_true, true_and, and_self, Nat.reduceEqDiff, Nat.reduceLeDiff, if_true, if_false, reduceIte, reduceCtorEq, Option.isSome, false_implies]; try simp [Wk, wkK, wkT, wk1, AV.kept, keptAll, wkO, lk, wkObj]), by omega, hgo hnm' ho, by omega⟩)
        · have hjk : j = xs.length := by omega
          subst hjk
          have ho : ov bel x y = true := by
            rw [hov]
            exact (ov_kids hlen).2 fun p _ h g => hno p h h g
          have h22 := overR_t (bel := bel) (x := x) (y := y) (i := i) (k := k) ho
          have hI2 : i + 1 + (ndss (xs.take xs.length)).length = i + (nds x).length := by rw [List.take_length]; omega
          have hJ2 : k + 1 + (ndss (ys.take xs.length)).length = k + (nds y).length := by rw [hlen, List.take_length]; omega
          (sym =>
           simp [hlb,htx,hty,h22,hI2,hJ2,Ks,Ko,K9,Gd,Nk,K4,Kx,Gu,Gt,Gs,K2,K3,Kq,Kr,Km,Kn,Ur,Up,Us,Uo,szN,Uq,G7,G8,Zb,Zc,Ze,Zf,Zg,Qb,Qd,Qn,Qo,Qp,Qq,Qs,Q1,Q2,Q4,Q8,Jk,Jx,Jy,Jz,J4,J5,J6,J7,J8,J9,Xa,Xb,Xe,X2,X4,X5,X8,X9,Wa,Wd,Wf,Wg,Wr,Ws,Wt,Wu,W8,W9,Yb,Yc,Yg,Y5,Y6,Y7,Y8,Vr,V5,Ui,Uj,Uk,Ul,U2]))
    · have hz := hbadR (by
        rw [hov, Bool.eq_false_iff]
        intro hc
        simp only [Bool.and_eq_true, beq_iff_eq] at hc
        exact hk1 ⟨hc.1.1, hc.1.2.1, hc.1.2.2⟩)
      have hcs : (x.root.kind != y.root.kind) = true ∨ ((x.root.kind != y.root.kind) = false ∧ (x.root.name == y.root.name) = false) ∨ ((x.root.kind != y.root.kind) = false ∧ (x.root.name == y.root.name) = true ∧ (x.root.n != y.root.n) = true) := by
        simp only [bne_iff_ne, ne_eq, bne_eq_false_iff_eq, beq_eq_false_iff_ne, beq_iff_eq]
        by_cases h1 : x.root.kind = y.root.kind
        · by_cases h2 : x.root.name = y.root.name
          · exact .inr (.inr ⟨h1, h2, fun h3 => hk1 ⟨h1, h2, h3⟩⟩)
          · exact .inr (.inl ⟨h1, h2⟩)
        · exact .inl h1
      rcases hcs with g1 | ⟨g1, g2⟩ | ⟨g1, g2, g3⟩
      · have zz22 := U8 n0 hil
        have zz23 := U8 n0 hkl
        (sym =>
         simp [zz22,zz23,hrx,hry,htx,hty,hd1,hd2,g1,hz,Ks,Ko,K9,Gd,Nk,K4,Kx,Gu,Gt,Gs,K2,K3,Kq,Kr,Km,Kn,Ur,Up,Us,Uo,szN,Uq,G7,Hk,G8,Hl,Hj,con_AgreeDyn.eq_def,con_BelowDyn.eq_def,con_EndT.eq_def,con_KidsT.eq_def,con_over.eq_def,Zb,Zc,Zd,Ze,Zf,Zh,Zi,Zj,Zk,Zl,Zm,Zo,Zp,Zq,Zs,Zt,Zu,Zv,Zw,Zx,Zy,Z9,Qb,Qd,Qe,Qf,Qk,Ql,Qm,Qn,Qo,Qp,Qq,Qr,Qs,Q1,Q2,Q4,Q5,Q6,Q8,Jf,Jh,Ji,Jj,Jk,Jl,Jw,J2,J3,J4,J5,J7,J8,Xa,Xb,Xe,Xm,Xn,Xo,Xr,Xu,Xv,X1,X2,X3,X4,X5,X9,Wa,Wb,Wc,Wd,We,Wf,Wg,Wh,Wj,Wn,Wr,Ws,Wt,Wu,Wv,Ww,Wx,Wy,W0,W3,W4,W5,W6,W7,W8,W9,Yc,Yf,Yg,Yj,Yk,Yo,Yv,Yw,Y5,Y6,Y9,Va,Vb,Vc,Vd,Ve,Vf,Vi,Vj,Vk,Vp,Vr,Vs,V4,V5,Uh,Ui,Uj,Uk,Ul,Um,Un,U2,U3,Kb,Ss]
         tactic =>
          try simp only [Uy] at *
          try simp only [nc2] at *
          try simp (maxSteps := 4000000) only [zz22,zz23,hrx,hry,htx,hty,hd1,hd2,g1,hz,Ks,Ko,K9,Gd,Nk,K4,Kx,Gu,Gt,Gs,K2,K3,Kq,Kr,Km,Kn,Ur,Up,Us,Uo,szN,Uq,U1]
          repeat' (first | with_reducible assumption | with_reducible refine And.intro ?_ ?_ | intro _ | omega | (rw [Ux]; omega))
          all_goals (with_reducible refine Kh ?_; kernel_rfl))
      · have zz24 := U8 n0 hil
        have zz25 := U8 n0 hkl
        (sym =>
         simp [zz24,zz25,hrx,hry,htx,hty,hd1,hd2,g1,g2,hz,Ks,Ko,K9,Gd,Nk,K4,Kx,Gu,Gt,Gs,K2,K3,Kq,Kr,Km,Kn,Ur,Up,Us,Uo,szN,Uq,G7,Hk,G8,Hl,Hj,con_AgreeDyn.eq_def,con_BelowDyn.eq_def,con_EndT.eq_def,con_KidsT.eq_def,con_over.eq_def,Zb,Zc,Zd,Ze,Zf,Zh,Zi,Zj,Zk,Zl,Zm,Zo,Zp,Zq,Zs,Zt,Zu,Zv,Zw,Zx,Zy,Z9,Qb,Qd,Qe,Qf,Qk,Ql,Qm,Qn,Qo,Qp,Qq,Qr,Qs,Q1,Q2,Q4,Q5,Q6,Q8,Jf,Jh,Ji,Jj,Jk,Jl,Jw,J2,J3,J4,J5,J7,J8,Xa,Xb,Xe,Xm,Xn,Xo,Xr,Xu,Xv,X1,X2,X3,X4,X5,X9,Wa,Wb,Wc,Wd,We,Wf,Wg,Wh,Wj,Wn,Wr,Ws,Wt,Wu,Wv,Ww,Wx,Wy,W0,W3,W4,W5,W6,W7,W8,W9,Yc,Ye,Yf,Yg,Yi,Yj,Yk,Yo,Yv,Yw,Y5,Y6,Y9,Va,Vb,Vc,Vd,Ve,Vf,Vi,Vj,Vk,Vo,Vp,Vr,Vs,V4,V5,Uh,Ui,Uj,Uk,Ul,Um,Un,U2,Gr,U3,Kb,Ss]
         tactic =>
          try simp only [Uy] at *
          try simp only [nc2] at *
          try simp (maxSteps := 4000000) only [zz24,zz25,hrx,hry,htx,hty,hd1,hd2,g1,g2,hz,Ks,Ko,K9,Gd,Nk,K4,Kx,Gu,Gt,Gs,K2,K3,Kq,Kr,Km,Kn,Ur,Up,Us,Uo,szN,Uq,U1]
          repeat' (first | with_reducible assumption | with_reducible refine And.intro ?_ ?_ | intro _ | omega | (rw [Ux]; omega))
          all_goals (with_reducible refine Kh ?_; kernel_rfl))
      · have zz26 := U8 n0 hil
        have zz27 := U8 n0 hkl
        (sym =>
         simp [zz26,zz27,hrx,hry,htx,hty,hd1,hd2,g1,g2,g3,hz,Ks,Ko,K9,Gd,Nk,K4,Kx,Gu,Gt,Gs,K2,K3,Kq,Kr,Km,Kn,Ur,Up,Us,Uo,szN,Uq,G7,Hk,G8,Hl,Hj,con_AgreeDyn.eq_def,con_BelowDyn.eq_def,con_EndT.eq_def,con_KidsT.eq_def,con_over.eq_def,Zb,Zc,Zd,Ze,Zf,Zh,Zi,Zj,Zk,Zl,Zm,Zo,Zp,Zq,Zs,Zt,Zu,Zv,Zw,Zx,Zy,Z9,Qb,Qd,Qe,Qf,Qk,Ql,Qm,Qn,Qo,Qp,Qq,Qr,Qs,Q1,Q2,Q4,Q5,Q6,Q8,Jf,Jh,Ji,Jj,Jk,Jl,Jw,J2,J3,J4,J5,J7,J8,Xa,Xb,Xe,Xm,Xn,Xo,Xr,Xu,Xv,X1,X2,X3,X4,X5,X9,Wa,Wb,Wc,Wd,We,Wf,Wg,Wh,Wj,Wn,Wr,Ws,Wt,Wu,Wv,Ww,Wx,Wy,W0,W3,W4,W5,W6,W7,W8,W9,Yc,Ye,Yf,Yg,Yi,Yj,Yk,Yo,Yv,Yw,Y5,Y6,Y9,Va,Vb,Vc,Vd,Ve,Vf,Vi,Vj,Vk,Vn,Vp,Vr,Vs,V4,V5,Uh,Ui,Uj,Uk,Ul,Um,Un,U2,Gr,U3,Kb,Ss]
         tactic =>
          try simp only [Uy] at *
          try simp only [nc2] at *
          try simp (maxSteps := 4000000) only [zz26,zz27,hrx,hry,htx,hty,hd1,hd2,g1,g2,g3,hz,Ks,Ko,K9,Gd,Nk,K4,Kx,Gu,Gt,Gs,K2,K3,Kq,Kr,Km,Kn,Ur,Up,Us,Uo,szN,Uq,U1]
          repeat' (first | with_reducible assumption | with_reducible refine And.intro ?_ ?_ | intro _ | omega | (rw [Ux]; omega))
          all_goals (with_reducible refine Kh ?_; kernel_rfl))
theorem goodn_over : ∀ n, Good Try.prog (43, con_over n)
  | 0 => Bd (U0 Try.func43 (by kernel_rfl) rfl) con_over_zero
  | n + 1 => step_over n (goodn_over n)
noncomputable def con_overA : Con := con_over 1000000001
theorem good_overA : Good Try.prog (43, con_overA) := goodn_over _
theorem con_overA_d : con_overA = con_over 1000000001 := rfl
theorem overR_res {bel : Bool} {x y : Rose Node} {i k : Int} : (overR bel x y i k).2.2 = ov bel x y := overR_ok
def One (t : List Node) : Prop := ∃ x, At ar t 0 x
noncomputable def agreeT (a b : List Node) : Bool := ov false (treeAt ar a 0) (treeAt ar b 0)
noncomputable def con_AgreeP : Con := con2 (fun (a b : Sl Node) => a.l.length ≤ 1000000000 ∧ b.l.length ≤ 1000000000 ∧ One a.l ∧ One b.l) (fun a b => agreeT a.l b.l)
theorem enc_SlN {l : List Node} : (enc (Sl.mk l) : D) = .list 3 (l.map enc) := rfl
noncomputable def ctx_AgreeP : Ctx := ⟨tab, lkC [(43, con_overA)], 60, lkB [], [], false⟩
theorem ctx_AgreeP_t : ctx_AgreeP.τ = tab := rfl
theorem ctx_AgreeP_c : ctx_AgreeP.Γ = lkC [(43, con_overA)] := rfl
theorem ctx_AgreeP_d : ctx_AgreeP.dp = 60 := rfl
theorem ctx_AgreeP_b : ctx_AgreeP.Δ = lkB [] := rfl
theorem good_AgreeP : Good Try.prog (19, con_AgreeP) := by
  refine ⟨U0 Try.func19 (by kernel_rfl) rfl, ?_⟩
  have K : CtxOk Try.prog ctx_AgreeP := U4 Ki Ka (by
    intro p hp
    simp only [List.mem_cons, List.not_mem_nil, or_false] at hp
    rcases hp with rfl
    · exact good_overA) (by simp)
  obtain ⟨c, hc⟩ : ∃ c, Try.f19.body = some c := ⟨_, rfl⟩
  refine U5 K Try.func19 hc [.tmp 4] rfl 19 rfl (fun cvs hpre => ?_)
  change con_AgreeP.pre cvs at hpre
  unfold con_AgreeP at hpre
  obtain ⟨⟨a⟩, ⟨b⟩, rfl, ha, hb, ⟨x, hx⟩, ⟨y, hy⟩⟩ := Kj hpre
  simp only at ha hb hx hy
  have hrec : ∃ x y, At ar a 0 x ∧ At ar b 0 y ∧ (nds x).length < 1000000001 := ⟨x, y, hx, hy, by have := hx.le; omega⟩
  simp only [Try.f19, Option.some.injEq] at hc
  subst hc
  (sym =>
   simp [con_overA_d,con_over.eq_def,enc_SlN,overR_res,Ks,Ko,K9,Gd,Nk,K4,Kx,Gu,Gt,Gs,K2,K3,Kq,Kr,Km,Kn,Ur,Up,Us,Uo,szN,Uq,ctx_AgreeP_t,ctx_AgreeP_c,ctx_AgreeP_d,ctx_AgreeP_b,con_AgreeP.eq_def,Za,Zb,Zc,Ze,Zf,Zo,Zp,Zq,Zu,Zv,Zw,Z2,Z8,Z9,Qe,Qf,Qg,Qh,Qk,Ql,Qn,Qo,Qp,Qq,Qs,Q1,Q2,Q4,Q7,Q8,Q9,Ja,Jf,Jg,Jh,Ji,Jj,Jk,Jl,Jw,J2,J3,Xe,Xq,Xr,Xu,X2,X4,X9,Wa,Wd,Wf,Wg,Wh,Wj,Wr,Ws,Wt,Wu,Wv,Ww,Wx,Wy,Wz,W0,W3,W4,W5,W6,W7,Yn,Yo,Yp,Yv,Yw,Y5,Y6,Y7,Y8,Y9,Va,Vb,Vc,Vd,Ve,Vf,Vi,Vj,Vk,Vq,Vs,V4,V5,Ud,Ue,Uj,Uk,Ul,Un,Ss]
   tactic =>
    try simp only [Uy] at *
    try simp only [nc2] at *
    try simp (maxSteps := 4000000) only [con_overA_d,con_over.eq_def,enc_SlN,overR_res,Ks,Ko,K9,Gd,Nk,K4,Kx,Gu,Gt,Gs,K2,K3,Kq,Kr,Km,Kn,Ur,Up,Us,Uo,szN,Uq,U1]
    repeat' (first | with_reducible assumption | with_reducible refine And.intro ?_ ?_ | intro _ | omega | (rw [Ux]; omega))
    all_goals rfl)
end Go.Am.Ty
set_option linter.unusedSimpArgs false
set_option linter.unusedVariables false
set_option maxHeartbeats 1000000
namespace Go.Am.Ty
open Go.Proofs Go.Rose Go.Rose.Rose
open Enc (enc dec)
structure MS where
  out : Option (List Node)
  done : Nat
end Go.Am.Ty
set_option linter.unusedSimpArgs false
set_option linter.unusedVariables false
set_option maxHeartbeats 1000000
namespace Go.Am.Ty
open Go.Proofs Go.Rose Go.Rose.Rose
open Enc (enc dec)
abbrev nB (k : Int) : Node := ⟨k, [], 0⟩
end Go.Am.Ty
set_option linter.unusedSimpArgs false
set_option linter.unusedVariables false
set_option maxHeartbeats 1000000
namespace Go.Am.Ty
open Go.Proofs Go.Rose Go.Rose.Rose
def Numb (l : List Node) : Prop := ∀ n ∈ l, numb3 n = true
theorem B7 {n : Node} (h : numb3 n = true) : many3 n = (ar n : Int) := (ar_many3 (T4 h).1).symm
theorem eat_eatN : ∀ {l : List Node} {o k : Nat}, Numb l → 1 ≤ o → eatN ar l o = some k → eat l o = k
  | [], o + 1, k, _, _, h => by simp [eatN] at h
  | n :: l, o + 1, k, hn, _, h => by
    rw [eatN, Option.map_eq_some_iff] at h
    obtain ⟨k', h1, rfl⟩ := h
    have hm := B7 (hn n (by simp))
    have e : ((o + 1 : Nat) : Int) - 1 + many3 n = ((o + ar n : Nat) : Int) := by rw [hm]; omega
    rw [eat, e]
    by_cases hz : o + ar n = 0
    · rw [if_pos (by omega)]
      rw [hz] at h1
      cases l <;> (simp only [eatN, Option.some.injEq] at h1; omega)
    · rw [if_neg (by omega), eat_eatN (fun m hm => hn m (List.mem_cons_of_mem _ hm)) (by omega) h1]
      omega
theorem numb_drop {l : List Node} {i : Nat} (h : Numb l) : Numb (l.drop i) := fun n hn => h n (List.mem_of_mem_drop hn)
theorem eat_at {t : List Node} {i : Nat} {x : Rose Node} (hn : Numb t) (h : At ar t i x) : eat (t.drop i) 1 = (nds x).length := eat_eatN (o := 1) (numb_drop hn) (Nat.le_refl _) (Ic h)
theorem end3_at {t : List Node} {i : Nat} {x : Rose Node} (hn : Numb t) (h : At ar t i x) : end3 t i = ((i + (nds x).length : Nat) : Int) := by
  unfold end3
  have := h.lt
  rw [if_neg (by omega), Int.toNat_natCast, eat_at hn h]
  simp
theorem Rt {t : List Node} (hn : Numb t) : ∀ {ks : List (Rose Node)} {q : Nat}, Ats ar t q ks → kidsFrom t ks.length q = kidPos q ks
  | [], _, _ => rfl
  | x :: ks, q, h => by
    have hx := h.head
    rw [List.length_cons, kidsFrom, if_pos hx.1.lt, eat_at hn hx.1, kidPos, Rt hn hx.2]
theorem kids3_at {t : List Node} {i : Nat} {x : Rose Node} (hn : Numb t) (h : At ar t i x) : kids3 t i = kidPos (i + 1) x.kids := by
  unfold kids3
  have hl := h.lt
  have hk := h.kids
  have hm := B7 (hn (t.getD i n0) (by simp [hl]))
  rw [if_neg (by omega)]
  simp only [Int.toNat_natCast]
  rw [show (⟨0, [], 0⟩ : Node) = n0 from rfl, hm, h.root n0, Int.toNat_natCast, ← hk.2, Rt hn hk.1]
theorem ats_of_kids {t : List Node} (hn : Numb t) : ∀ {m q : Nat}, (kidsFrom t m q).length = m → (∀ j, q ≤ j → j < t.length → ∃ z, At ar t j z) → q ≤ t.length → ∃ ks : List (Rose Node), ks.length = m ∧ Ats ar t q ks
  | 0, q, _, _, hq => ⟨[], rfl, trivial, t.drop q, by simp [ndss]⟩
  | m + 1, q, h, hz, hq => by
    rw [kidsFrom] at h
    by_cases hlt : q < t.length
    · rw [if_pos hlt] at h
      obtain ⟨x, hx⟩ := hz q (Nat.le_refl _) hlt
      rw [eat_at hn hx] at h
      obtain ⟨ks, h1, h2, r, h3⟩ := ats_of_kids hn (m := m) (q := q + (nds x).length) (by simpa using h) (fun j hj => hz j (by omega)) hx.le
      obtain ⟨h4, r', h5⟩ := hx
      refine ⟨x :: ks, by simp [h1], ⟨h4, h2⟩, r, ?_⟩
      rw [← List.drop_drop, h5, List.drop_left'] at h3
      · rw [h5, h3, ndss, List.append_assoc]
      · rfl
    · rw [if_neg hlt] at h
      simp at h
theorem Ej {t : List Node} (hn : Numb t) (h : ∀ i, i < t.length → ((kids3 t i).length : Int) = many3 (t.getD i n0)) : ∀ (m i : Nat), t.length - i ≤ m → i < t.length → ∃ z, At ar t i z
  | 0, i, hm, hi => by omega
  | m + 1, i, hm, hi => by
    have h1 := h i hi
    have hmn := B7 (hn (t.getD i n0) (by simp [hi]))
    unfold kids3 at h1
    rw [if_neg (by omega)] at h1
    simp only [Int.toNat_natCast] at h1
    rw [show (⟨0, [], 0⟩ : Node) = n0 from rfl, hmn, Int.toNat_natCast] at h1
    obtain ⟨ks, k1, k2, r, k3⟩ := ats_of_kids hn (m := ar (t.getD i n0)) (q := i + 1) (by omega) (fun j hj hjl => Ej hn h m j (by omega) hjl) (by omega)
    refine ⟨mk (t.getD i n0) ks, ⟨k1, k2⟩, r, ?_⟩
    rw [List.drop_eq_getElem_cons hi, k3, K6]
    simp [hi]
def deepOk (r d : Nat) : Bool := decide (r + d ≤ 100)
theorem deep_t {r d : Nat} (h : r + d ≤ 100) : deepOk r d = true := decide_eq_true h
theorem I8 {r d : Nat} (h : ¬ r + d ≤ 100) : deepOk r d = false := decide_eq_false h
theorem deep_eq {r d r' d' : Nat} (h : r + d = r' + d') : deepOk r d = deepOk r' d' := by unfold deepOk; rw [h]
mutual
theorem shal_tree : ∀ (x : Rose Node) (l : List Node) (rs : List Int), wf ar x → Numb (nds x) → shal (nds x ++ l) rs = (deepOk rs.length (depth x) && shal l (popA 0 rs))
  | mk n ks, l, rs, hw, hn => by
    have hm := B7 (hn n (by simp [nds]))
    rw [K6, List.cons_append, shal, hm, ← hw.1]
    cases ks with
    | nil =>
      have hd : depth (mk n []) = 1 := by simp [depth, depths]
      rw [hd]
      simp only [ndss, List.nil_append, List.length_nil]
      by_cases h : 100 ≤ rs.length
      · rw [if_pos h, I8 (by omega)]; rfl
      · rw [if_neg h, deep_t (by omega)]; rfl
    | cons y ys =>
      have hd : depth (mk n (y :: ys)) = 1 + depths (y :: ys) := by rw [depth]
      rw [hd, Ip (by simp only [List.length_cons]; omega), shal_forest (y :: ys) l rs (by simp) hw.2 (fun m hm => hn m (by rw [K6]; exact List.mem_cons_of_mem _ hm))]
      by_cases h : 100 ≤ rs.length
      · rw [if_pos h, I8 (by omega)]; rfl
      · rw [if_neg h]
theorem shal_forest : ∀ (xs : List (Rose Node)) (l : List Node) (rs : List Int), xs ≠ [] → wfs ar xs → Numb (ndss xs) → shal (ndss xs ++ l) ((xs.length : Int) :: rs) = (deepOk rs.length (1 + depths xs) && shal l (popA 0 rs))
  | [], _, _, h, _, _ => absurd rfl h
  | x :: ts, l, rs, _, hw, hn => by
    have h0 := shal_tree x
    cases ts with
    | nil =>
      simp only [ndss, List.append_nil] at hn ⊢
      have hd : depths [x] = depth x := by simp [depths]
      rw [h0 l _ hw.1 hn, hd]
      simp only [List.length_cons, List.length_nil]
      rw [deep_eq (r := rs.length + 1) (d := depth x) (r' := rs.length) (d' := 1 + depth x) (by omega)]
      rfl
    | cons y ts =>
      have h2 := shal_forest (y :: ts) l rs (by simp) hw.2 (fun m hm => hn m (by rw [ndss]; exact List.mem_append_right _ hm))
      rw [ndss, List.append_assoc, h0 _ _ hw.1 (fun m hm => hn m (by rw [ndss]; exact List.mem_append_left _ hm))]
      have e : popA 0 ((((x :: y :: ts).length : Nat) : Int) :: rs) = (((y :: ts).length : Nat) : Int) :: rs := by
        rw [popA, if_pos rfl, show (((x :: y :: ts).length : Nat) : Int) - 1 = (((y :: ts).length : Nat) : Int) by simp only [List.length_cons]; omega, Ip (by simp only [List.length_cons]; omega)]
      have hd : depths (x :: y :: ts) = max (depth x) (depths (y :: ts)) := by rw [depths]
      rw [e, h2, hd]
      simp only [List.length_cons]
      by_cases h1 : rs.length + 1 + depth x ≤ 100
      · rw [deep_t h1, Bool.true_and]
        by_cases h2 : rs.length + (1 + depths (y :: ts)) ≤ 100
        · rw [deep_t h2, deep_t (r := rs.length) (d := 1 + max (depth x) (depths (y :: ts))) (by omega)]
        · rw [I8 h2, I8 (r := rs.length) (d := 1 + max (depth x) (depths (y :: ts))) (by omega)]
      · rw [I8 h1, I8 (r := rs.length) (d := 1 + max (depth x) (depths (y :: ts))) (by omega)]
        rfl
end
theorem Em {x : Rose Node} (hw : wf ar x) (hn : Numb (nds x)) : shallow3 (nds x) = deepOk 0 (depth x) := by
  have := shal_tree x [] [] hw hn
  simp only [List.append_nil, List.length_nil] at this
  unfold shallow3
  rw [this, shal]
  simp
def labZ (n : Node) (ks : List (Rose Node)) : Bool := (List.range ks.length).all fun k => labK n (ks.getD k (mk n0 [])).root (ks.getD (k - 1) (mk n0 [])).root (ltB 0 k) ((k : Int) == (ks.length : Int) - 1)
mutual
def labT : Rose Node → Bool
  | mk n ks => labZ n ks && labTs ks
def labTs : List (Rose Node) → Bool
  | [] => true
  | x :: xs => labT x && labTs xs
end
theorem lab3_at {t : List Node} {i : Nat} {x : Rose Node} (hn : Numb t) (h : At ar t i x) : lab3 t i = labZ x.root x.kids := by
  have hk := h.kids
  have hl := h.lt
  have hm := B7 (hn (t.getD i n0) (by simp [hl]))
  have hr := h.root n0
  unfold lab3
  rw [kids3_at hn h, Mg, hr]
  rw [hr] at hm
  rw [hm, hk.2]
  rw [show ((ar x.root : Int) == (ar x.root : Int)) = true by simp, Bool.true_and]
  unfold labZ
  rw [hk.2]
  apply Bool.eq_iff_iff.2
  simp only [List.all_eq_true, List.mem_range]
  have key : ∀ k, k < x.kids.length → kidAt t (kidPos (i + 1) x.kids) k = (x.kids.getD k (mk n0 [])).root := by
    intro k hk'
    unfold kidAt
    rw [Tj _ _ k hk', Int.toNat_natCast]
    have := (F6 hk.1 hk').root n0
    rw [this]
    simp [hk']
  have e : ∀ k, k < ar x.root → labAt t i (kidPos (i + 1) x.kids) k = labK x.root (x.kids.getD k (mk n0 [])).root (x.kids.getD (k - 1) (mk n0 [])).root (ltB 0 k) ((k : Int) == (ar x.root : Int) - 1) := by
    intro k hk'
    unfold labAt
    rw [hr, key k (by omega), key (k - 1) (by omega), Mg, hk.2]
  constructor
  · intro g k hk'
    rw [← e k hk']; exact g k hk'
  · intro g k hk'
    rw [e k hk']; exact g k hk'
mutual
theorem labT_at {t : List Node} (hn : Numb t) : ∀ {x : Rose Node} {i : Nat}, At ar t i x → (labT x = true ↔ ∀ j, i ≤ j → j < i + (nds x).length → lab3 t j = true)
  | mk n ks, i, h => by
    have h1 := lab3_at hn h
    have hk : Ats ar t (i + 1) ks := h.kids.1
    rw [labT, Bool.and_eq_true, labTs_at hn hk, K6, List.length_cons]
    simp only [root, kids] at h1 ⊢
    constructor
    · rintro ⟨g1, g2⟩ j hj1 hj2
      by_cases hji : j = i
      · subst hji; rw [h1]; exact g1
      · exact g2 j (by omega) (by omega)
    · intro g
      exact ⟨by rw [← h1]; exact g i (Nat.le_refl _) (by omega), fun j hj1 hj2 => g j (by omega) (by omega)⟩
theorem labTs_at {t : List Node} (hn : Numb t) : ∀ {xs : List (Rose Node)} {i : Nat}, Ats ar t i xs → (labTs xs = true ↔ ∀ j, i ≤ j → j < i + (ndss xs).length → lab3 t j = true)
  | [], i, _ => by simp only [labTs, ndss, List.length_nil, true_iff]; intro j h1 h2; omega
  | x :: xs, i, h => by
    rw [labTs, Bool.and_eq_true, labT_at hn h.head.1, labTs_at hn h.head.2]
    simp only [ndss, List.length_append]
    constructor
    · rintro ⟨g1, g2⟩ j hj1 hj2
      rcases Nat.lt_or_ge j (i + (nds x).length) with hlt | hge
      · exact g1 j hj1 hlt
      · exact g2 j hge (by omega)
    · intro g
      exact ⟨fun j hj1 hj2 => g j hj1 (by omega), fun j hj1 hj2 => g j (by omega) (by omega)⟩
end
structure RT (x : Rose Node) : Prop where
  wf : wf ar x
  numb : Numb (nds x)
  depth : depth x ≤ 100
  lab : labT x = true
  name : x.root.name = []
  kind : x.root.kind ≠ 9
  len : (nds x).length ≤ 10000
theorem right3_rt {x : Rose Node} (h : RT x) : right3 (nds x) = true := by
  have ha := Ni h.wf
  have hp := K8 x
  have hr := ha.root n0
  unfold right3
  have h1 : headBad (nds x) = false := by
    unfold headBad
    rw [hr, h.name]
    have e1 : ((nds x).length == 0) = false := by rw [beq_eq_false_iff_ne]; omega
    have e2 : ltB 10000 ((nds x).length : Int) = false := by rw [Gn]; have := h.len; omega
    have e3 : (x.root.kind == 9) = false := by rw [beq_eq_false_iff_ne]; exact h.kind
    rw [e1, e2, e3]
    rfl
  have h2 : (nds x).all numb3 = true := List.all_eq_true.2 h.numb
  have h3 : end3 (nds x) 0 = ((nds x).length : Int) := by have := end3_at h.numb ha; simpa using this
  have h4 : shallow3 (nds x) = true := by rw [Em h.wf h.numb]; exact deep_t (by have := h.depth; omega)
  have h5 : ((List.range (nds x).length).all fun i => lab3 (nds x) i) = true := B5 fun j hj => (labT_at h.numb ha).1 h.lab j (Nat.zero_le _) (by omega)
  rw [h1, h2, h3, h4, h5]
  simp
theorem N0 {t : List Node} (h : right3 t = true) : ∃ x, t = nds x ∧ RT x := by
  unfold right3 at h
  simp only [Bool.and_eq_true, Bool.not_eq_true', beq_iff_eq] at h
  obtain ⟨h1, h2, ⟨h3, h4⟩, h5⟩ := h
  unfold headBad at h1
  simp only [Bool.or_eq_false_iff, beq_eq_false_iff_ne, Bool.not_eq_false', beq_iff_eq, Gn] at h1
  obtain ⟨⟨⟨g1, g2⟩, g3⟩, g4⟩ := h1
  have hn : Numb t := List.all_eq_true.1 h2
  have hl : ∀ i, i < t.length → lab3 t i = true := fun i hi => List.all_eq_true.1 h5 i (List.mem_range.2 hi)
  have hk : ∀ i, i < t.length → ((kids3 t i).length : Int) = many3 (t.getD i n0) := by
    intro i hi
    have := hl i hi
    unfold lab3 at this
    rw [Bool.and_eq_true, beq_iff_eq] at this
    exact this.1
  obtain ⟨x, hx⟩ := Ej hn hk t.length 0 (by omega) (by omega)
  have he := end3_at hn hx
  have he' : end3 t 0 = ((0 + (nds x).length : Nat) : Int) := he
  rw [h3] at he'
  obtain ⟨hw, r, hr⟩ := id hx
  have htx : t = nds x := by
    rw [List.drop_zero] at hr
    have := congrArg List.length hr
    rw [List.length_append] at this
    have hr0 : r = [] := List.length_eq_zero_iff.1 (by omega)
    rw [hr, hr0, List.append_nil]
  have hroot := hx.root n0
  subst htx
  refine ⟨x, rfl, ⟨hw, hn, ?_, (labT_at hn hx).2 fun j _ hj => hl j (by omega), by rw [← hroot]; exact g3, by rw [← hroot]; exact g4, by omega⟩⟩
  rw [Em hw hn] at h4
  have := of_decide_eq_true h4
  omega
end Go.Am.Ty
set_option linter.unusedSimpArgs false
set_option linter.unusedVariables false
set_option maxHeartbeats 1000000
namespace Go.Am.Ty
open Go.Proofs Go.Rose Go.Rose.Rose
def sameN (m n : Node) : Bool := m.kind == n.kind && (m.name == n.name && m.n == n.n)
theorem Ep {b : Bool} {n : Node} {ks : List (Rose Node)} {y : Rose Node} : ov b (mk n ks) y = cond (n.kind == 0 || y.root.kind == 0) (askB b y.root) (sameN n y.root && ovs b ks y.kids) := by rw [ov]; rfl
mutual
theorem ov_refl (b : Bool) : ∀ x : Rose Node, ov b x x = true
  | mk n ks => by
    rw [Ep]
    simp only [root, kids]
    cases h : (n.kind == 0) with
    | true => simp [askB, h]
    | false => simp [sameN, ovs_refl b ks]
theorem ovs_refl (b : Bool) : ∀ xs : List (Rose Node), ovs b xs xs = true
  | [] => by rw [ovs]
  | x :: xs => by rw [ovs]; simp [ov_refl b x, ovs_refl b xs]
end
theorem Il {m n : Node} : sameN m n = true ↔ m = n := by
  unfold sameN
  cases m; cases n
  simp
mutual
theorem ov_trans : ∀ {x y z : Rose Node}, ov true x y = true → ov true y z = true → ov true x z = true
  | mk n ks, mk m qs, mk p rs, h1, h2 => by
    rw [Ep] at h1 h2 ⊢
    simp only [root, kids] at h1 h2 ⊢
    by_cases hp : p.kind = 0
    · simp [hp, askB]
    · by_cases hm : m.kind = 0
      · rw [hm] at h2; simp [askB, hp] at h2
      · by_cases hn : n.kind = 0
        · rw [hn] at h1; simp [askB, hm] at h1
        · simp only [beq_eq_false_iff_ne.2 hp, beq_eq_false_iff_ne.2 hm, beq_eq_false_iff_ne.2 hn, Bool.or_self, cond_false, Bool.and_eq_true, Il] at h1 h2 ⊢
          exact ⟨h1.1.trans h2.1, ovs_trans h1.2 h2.2⟩
theorem ovs_trans : ∀ {xs ys zs : List (Rose Node)}, ovs true xs ys = true → ovs true ys zs = true → ovs true xs zs = true
  | [], _, _, _, _ => by rw [ovs]
  | x :: xs, [], _, h1, _ => by rw [ovs] at h1; cases h1
  | x :: xs, y :: ys, [], _, h2 => by rw [ovs] at h2; cases h2
  | x :: xs, y :: ys, z :: zs, h1, h2 => by
    rw [ovs] at h1 h2 ⊢
    simp only [Bool.and_eq_true, beq_iff_eq] at h1 h2 ⊢
    exact ⟨h1.1.trans h2.1, ov_trans h1.2.1 h2.2.1, ovs_trans h1.2.2 h2.2.2⟩
end
theorem numb_ar0 {n : Node} (h : n.kind = 0) : ar n = 0 := by unfold ar; rw [if_neg (by omega), if_neg (by omega)]
theorem plain7_rt {t : List Node} {m : Int} (h : plain7 t m = true) : (t.length : Int) ≤ m ∧ (∀ n ∈ t, n.name.length ≤ 100) ∧ plain3 t = true ∧ ∃ x, t = nds x ∧ RT x := by
  unfold plain7 at h
  simp only [Bool.and_eq_true, Bool.not_eq_true', Gn] at h
  obtain ⟨h1, h2, h3, h4⟩ := h
  refine ⟨h1, fun n hn => ?_, h4, N0 h3⟩
  have := List.all_eq_true.1 h2 n hn
  rw [Bool.not_eq_true', Gn] at this
  omega
theorem E6 {x : Rose Node} (h : RT x) : treeAt ar (nds x) 0 = x := Ga (Ni h.wf)
end Go.Am.Ty
set_option linter.unusedSimpArgs false
set_option linter.unusedVariables false
set_option maxHeartbeats 1000000
namespace Go.Am.Ty
open Go.Proofs Go.Rose Go.Rose.Rose
open Enc (enc dec)
def In (t : List Node) : Prop := t.length ≤ 9223372036854775807 ∧ Named t
theorem el_map0 {l : List Node} (h : 0 < l.length) : el (l.map (enc : Node → D)) 0 = enc (l.getD 0 n0) := U8 n0 h
end Go.Am.Ty
set_option linter.unusedSimpArgs false
set_option linter.unusedVariables false
namespace Go.Am.Ty
open Go.Proofs
open Enc (enc dec)
theorem all2_3 {p q r : D → Prop} {ds : List D} (h : All2 [p, q, r] ds) : ∃ a b c, ds = [a, b, c] ∧ p a ∧ q b ∧ r c := by
  match ds, h with
  | [a, b, c], h => exact ⟨a, b, c, rfl, h.1, h.2.1, h.2.2.1⟩
theorem rdNode : Rdt Try.prog 28 3 true Node (fun n => n.name.length ≤ maxLen) :=
  (rd_struct (ps := [_, _, _]) Try.underlying28 (by kernel_rfl) rfl ⟨rfl, by kernel_rfl, Rh Try.underlying3, rfl, by kernel_rfl, rdt_str Try.underlying9, rfl, by kernel_rfl, Rh Try.underlying3, trivial⟩).mono fun x h => by
    obtain ⟨ds, rfl, h⟩ := h
    obtain ⟨a, b, c, rfl, ⟨k, rfl, _⟩, ⟨s, rfl, hl⟩, ⟨n, rfl, _⟩⟩ := all2_3 h
    exact ⟨⟨k, s, n⟩, rfl, hl⟩
theorem rdNodes : Rdt Try.prog 23 1 false (Sl Node) (fun a => a.l.length ≤ maxLen ∧ ∀ y ∈ a.l, y.name.length ≤ maxLen) := rdt_sl Try.underlying23 (by kernel_rfl) rfl (by decide) rdNode
end Go.Am.Ty
set_option linter.unusedSimpArgs false
set_option linter.unusedVariables false
set_option maxHeartbeats 1000000
namespace Go.Am.Ty
open Go.Proofs Go.Rose Go.Rose.Rose
def cur (a : List Node) (s : MS) (i : Nat) : List Node := s.out.getD [] ++ (a.take i).drop s.done
theorem Ra {a : List Node} {i : Nat} {x : Rose Node} (h : At ar a i x) : (a.take (i + (nds x).length)).drop i = nds x := by
  obtain ⟨_, r, h2⟩ := h
  rw [List.drop_take, Nat.add_sub_cancel_left, h2, List.take_left']
  rfl
mutual
theorem ov_symm : ∀ {x y : Rose Node}, wf ar x → wf ar y → ov false x y = true → ov false y x = true
  | mk n ks, mk m qs, hx, hy, h => by
    rw [Ep] at h ⊢
    simp only [root, kids] at h ⊢
    by_cases hd : n.kind = 0 ∨ m.kind = 0
    · rw [show (m.kind == 0 || n.kind == 0) = true by simpa [or_comm] using hd]
      rfl
    · rw [show (n.kind == 0 || m.kind == 0) = false by simpa using hd] at h
      rw [show (m.kind == 0 || n.kind == 0) = false by simpa [and_comm] using hd]
      simp only [cond_false, Bool.and_eq_true, Il] at h ⊢
      obtain ⟨rfl, h⟩ := h
      exact ⟨rfl, ovs_symm hx.2 hy.2 (by rw [hx.1, hy.1]) h⟩
theorem ovs_symm : ∀ {xs ys : List (Rose Node)}, wfs ar xs → wfs ar ys → xs.length = ys.length → ovs false xs ys = true → ovs false ys xs = true
  | [], [], _, _, _, _ => by rw [ovs]
  | [], _ :: _, _, _, hl, _ => by simp at hl
  | _ :: _, [], _, _, hl, _ => by simp at hl
  | x :: xs, y :: ys, hx, hy, hl, h => by
    rw [ovs] at h ⊢
    simp only [Bool.and_eq_true, beq_iff_eq] at h ⊢
    exact ⟨h.1.symm, ov_symm hx.1 hy.1 h.2.1, ovs_symm hx.2 hy.2 (by simpa using hl) h.2.2⟩
end
theorem ov_comm {x y : Rose Node} (hx : wf ar x) (hy : wf ar y) : ov false x y = ov false y x := by
  rw [Bool.eq_iff_iff]
  exact ⟨ov_symm hx hy, ov_symm hy hx⟩
mutual
theorem under_agree : ∀ {z x y : Rose Node}, wf ar z → wf ar x → wf ar y → ov true z x = true → ov true z y = true → ov false x y = true
  | mk p rs, mk n ks, mk m qs, hz, hx, hy, h1, h2 => by
    rw [Ep] at h1 h2 ⊢
    simp only [root, kids] at h1 h2 ⊢
    by_cases hd : n.kind = 0 ∨ m.kind = 0
    · rw [show (n.kind == 0 || m.kind == 0) = true by simpa using hd]
      rfl
    · obtain ⟨hn, hm⟩ : ¬ n.kind = 0 ∧ ¬ m.kind = 0 := ⟨fun h => hd (.inl h), fun h => hd (.inr h)⟩
      by_cases hp : p.kind = 0
      · rw [hp] at h1; simp [askB, hn] at h1
      · simp only [beq_eq_false_iff_ne.2 hn, beq_eq_false_iff_ne.2 hm, beq_eq_false_iff_ne.2 hp, Bool.or_self, cond_false, Bool.and_eq_true, Il] at h1 h2 ⊢
        obtain ⟨rfl, h1⟩ := h1
        obtain ⟨rfl, h2⟩ := h2
        exact ⟨rfl, unders_agree hz.2 hx.2 hy.2 (by rw [hz.1, hx.1]) (by rw [hz.1, hy.1]) h1 h2⟩
theorem unders_agree : ∀ {zs xs ys : List (Rose Node)}, wfs ar zs → wfs ar xs → wfs ar ys → zs.length = xs.length → zs.length = ys.length → ovs true zs xs = true → ovs true zs ys = true → ovs false xs ys = true
  | [], [], _, _, _, _, _, _, _, _ => by rw [ovs]
  | [], _ :: _, _, _, _, _, hl, _, _, _ => by simp at hl
  | _ :: _, [], _, _, _, _, hl, _, _, _ => by simp at hl
  | _ :: _, _ :: _, [], _, _, _, _, hl, _, _ => by simp at hl
  | z :: zs, x :: xs, y :: ys, hz, hx, hy, l1, l2, h1, h2 => by
    rw [ovs] at h1 h2 ⊢
    simp only [Bool.and_eq_true, beq_iff_eq] at h1 h2 ⊢
    exact ⟨h1.1.symm.trans h2.1, under_agree hz.1 hx.1 hy.1 h1.2.1 h2.2.1, unders_agree hz.2 hx.2 hy.2 (by simpa using l1) (by simpa using l2) h1.2.2 h2.2.2⟩
end
end Go.Am.Ty
set_option linter.unusedSimpArgs false
set_option linter.unusedVariables false
set_option maxHeartbeats 1000000
namespace Go.Am.Ty
open Go.Proofs Go.Rose Go.Rose.Rose
theorem L4 (x : Rose Node) : x.root ∈ nds x := by rw [Gx]; simp
theorem Md {t : List Node} : plain3 t = true ↔ ∀ n ∈ t, n.kind ≠ 8 ∧ n.kind ≠ 9 := by
  unfold plain3
  simp [List.all_eq_true]
end Go.Am.Ty
set_option linter.unusedSimpArgs false
set_option linter.unusedVariables false
set_option maxHeartbeats 1000000
namespace Go.Am.Ty
open Go.Proofs Go.Rose Go.Rose.Rose
open Enc (enc dec)
theorem L2 (l : List Node) : same3 l l = true := by unfold same3; exact beq_self_eq_true _
end Go.Am.Ty
set_option linter.unusedSimpArgs false
set_option linter.unusedVariables false
set_option maxHeartbeats 1000000
namespace Go.Am.Ty
open Go.Proofs Go.Rose Go.Rose.Rose
open Enc (enc dec)
def con1w {A B : Type} [Enc A] [Enc B] [Sz B] (p : A → Prop) (f : A → List B) : Con := ⟨[false], [true], fun c => match c with
  | [.d x] => isE A x ∧ p (dec x)
  | _ => False, fun c => match c with
  | [.d x] => .own (Sz.sz B) ((f (dec x)).map enc)
  | _ => .d .nilp⟩
theorem Ts {A B : Type} [Enc A] [Enc B] [Sz B] {p : A → Prop} {f : A → List B} {c : List CV} (h : (con1w p f).pre c) : ∃ a, c = [.d (enc a)] ∧ p a := by
  unfold con1w at h
  simp only at h
  split at h
  · next x => exact ⟨dec x, by rw [← h.1], h.2⟩
  · exact h.elim
theorem Iu {s : Nat} {l : List D} : neL (.list s l) = (l ≠ []) := rfl
def con_cloneNodes : Con := con1w (fun (t : Sl Node) => t.l ≠ [] ∧ t.l.length ≤ 1000000000) (fun t => t.l)
noncomputable def ctx_cloneNodes : Ctx := ⟨tab, lkC [], 60, lkB [], [], false⟩
theorem Oc : ctx_cloneNodes.τ = tab := rfl
set_option maxRecDepth 100000 in
theorem Cw : Good Try.prog (81, con_cloneNodes) := by
  refine ⟨U0 Try.func81 (by kernel_rfl) rfl, ?_⟩
  have K : CtxOk Try.prog ctx_cloneNodes := U4 Ki Ka (by simp) (by simp)
  obtain ⟨c, hc⟩ : ∃ c, Try.f81.body = some c := ⟨_, rfl⟩
  refine U5 K Try.func81 hc [.tmp 2] rfl 8 rfl (fun cvs hpre => ?_)
  change con_cloneNodes.pre cvs at hpre
  unfold con_cloneNodes at hpre
  obtain ⟨⟨t⟩, rfl, hn, ht⟩ := Ts hpre
  simp only at hn ht
  simp only [Try.f81, Option.some.injEq] at hc
  subst hc
  have hm : t.map (enc : Node → D) ≠ [] := by simpa using hn
  (sym =>
   simp [con1w.eq_def,Iu,hm,Ur,Up,Us,Uo,szN,Uq,Oc,con_cloneNodes.eq_def,Za,Zb,Zc,Ze,Zf,Zn,Zo,Zr,Z1,Z4,Z5,Qb,Qd,Qn,Qo,Qp,Qq,Qs,Q1,Q2,Q4,Q8,Jb,Jc,Jd,Je,Jg,Jh,Ji,Jk,Jw,J2,J3,Xc,X1,X2,X4,X5,X9,Wa,Wd,Wf,Wg,Wh,Wi,Wl,Wr,Ws,Wt,Wu,Ww,Wy,Wz,W3,W4,W5,Yy,Yz,Y5,Y6,Y7,Y8,Y9,Va,Vh,Vs,V7,Ui,Uj,Uk,Um,U3,Kb]
   tactic =>
    try simp only [Uy] at *
    try simp only [nc2] at *
    try simp (maxSteps := 4000000) only [con1w.eq_def,Iu,hm,Ur,Up,Us,Uo,szN,Uq,U1]
    repeat' (first | with_reducible assumption | with_reducible refine And.intro ?_ ?_ | intro _ | omega | (rw [Ux]; omega))
    all_goals simp_all)
def clr : List Node → List Node
  | [] => []
  | n :: r => ⟨n.kind, [], n.n⟩ :: r
noncomputable def con_PartT : Con := con2 (fun (t : Sl Node) (i : Int) => t.l.length ≤ 1000000000 ∧ 0 ≤ i ∧ ∃ x, At ar t.l i.toNat x) (fun t i => Sl.mk (clr (nds (treeAt ar t.l i.toNat))))
noncomputable def ctx_PartT : Ctx := ⟨tab, lkC [(45, con_EndT), (81, con_cloneNodes)], 60, lkB [], [], false⟩
theorem ctx_PartT_t : ctx_PartT.τ = tab := rfl
theorem ctx_PartT_c : ctx_PartT.Γ = lkC [(45, con_EndT), (81, con_cloneNodes)] := rfl
theorem ctx_PartT_d : ctx_PartT.dp = 60 := rfl
theorem ctx_PartT_b : ctx_PartT.Δ = lkB [] := rfl
set_option maxRecDepth 100000 in
theorem good_PartT : Good Try.prog (51, con_PartT) := by
  refine ⟨U0 Try.func51 (by kernel_rfl) rfl, ?_⟩
  have K : CtxOk Try.prog ctx_PartT := U4 Ki Ka (by
    intro p hp
    simp only [List.mem_cons, List.not_mem_nil, or_false] at hp
    rcases hp with rfl | rfl
    · exact I4
    · exact Cw) (by simp)
  obtain ⟨c, hc⟩ : ∃ c, Try.f51.body = some c := ⟨_, rfl⟩
  refine U5 K Try.func51 hc [.tmp 4] rfl 25 rfl (fun cvs hpre => ?_)
  change con_PartT.pre cvs at hpre
  unfold con_PartT at hpre
  obtain ⟨⟨t⟩, i, rfl, ht, hi, x, hx⟩ := Kj hpre
  simp only at ht hx
  obtain ⟨i, rfl⟩ : ∃ n : Nat, i = n := ⟨i.toNat, by omega⟩
  simp only [Int.toNat_natCast] at hx
  have hw : Whole t i := at_whl hx
  have he := endT_at hx
  have hle := hx.le
  have hp := K8 x
  have hcut := Ra hx
  have htr : treeAt ar t i = x := Ga hx
  have hmc : List.drop i (List.take (i + (nds x).length) (t.map (enc : Node → D))) = (nds x).map enc := by rw [← List.map_take, ← List.map_drop, hcut]
  simp only [Try.f51, Option.some.injEq] at hc
  subst hc
  (sym =>
   simp [con1w.eq_def,Iu,he,htr,hmc,Int.toNat_natCast,Ur,Up,Us,Uo,szN,Uq,ctx_PartT_t,ctx_PartT_c,ctx_PartT_d,ctx_PartT_b,con_EndT.eq_def,con_PartT.eq_def,con_cloneNodes.eq_def,Za,Zb,Zc,Zd,Ze,Zf,Zn,Zo,Zp,Zq,Zs,Zt,Zw,Zx,Zy,Z0,Z6,Z9,Qb,Qd,Qe,Qf,Qj,Qn,Qo,Qp,Qq,Qs,Q1,Q2,Q4,Q8,Jf,Jh,Ji,Jj,Jk,Jl,Jw,J2,J3,Xe,Xf,Xg,Xu,X1,X2,X4,X5,X9,Wa,Wd,Wf,Wg,Wh,Wr,Ws,Wt,Wu,Wv,Ww,Wx,Wy,Wz,W4,W5,W6,W7,Yc,Yg,Yk,Ym,Ys,Yv,Yy,Yz,Y5,Y6,Y7,Y8,Y9,Va,Vf,Vh,Vi,Vj,Vk,Vm,Vq,Vs,V4,V5,V6,V7,V8,Uh,Ui,Uj,Uk,Ul,Um,U2,Gr,U3,Kb]
   tactic =>
    try simp only [Uy] at *
    try simp only [nc2] at *
    try simp (maxSteps := 4000000) only [con1w.eq_def,Iu,he,htr,hmc,Int.toNat_natCast,Ur,Up,Us,Uo,szN,Uq,U1]
    repeat' (first | with_reducible assumption | with_reducible refine And.intro ?_ ?_ | intro _ | omega | (rw [Ux]; omega))
    · have hne : nds x ≠ [] := by intro h; rw [h] at hp; simp at hp
      contradiction
    · rw [List.length_set, List.length_map]
    · revert hp
      cases nds x with
      | nil => intro hp; simp at hp
      | cons n r => intro _; rfl)
def n5 : Node := ⟨5, [], 0⟩
end Go.Am.Ty
set_option linter.unusedSimpArgs false
set_option linter.unusedVariables false
set_option maxHeartbeats 1000000
namespace Go.Am.Ty
open Go.Proofs Go.Rose Go.Rose.Rose
open Enc (enc dec)
theorem arrow3_len {a b : List Node} : (arrow3 a b).length = a.length + b.length + 1 := by unfold arrow3; simp
end Go.Am.Ty
set_option linter.unusedSimpArgs false
set_option linter.unusedVariables false
set_option maxHeartbeats 1000000
namespace Go.Am.Ty
open Go.Proofs Go.Rose Go.Rose.Rose
open Enc (enc dec)
theorem numb_tame {t : List Node} (h : Numb t) (hl : t.length ≤ 100000) : Tame t := ⟨hl, fun n hn => T4 (h n hn)⟩
noncomputable def con_Part3 : Con := con2 (fun (t : Sl Node) (i : Int) => t.l.length ≤ 10000 ∧ Numb t.l ∧ 0 ≤ i ∧ ∃ x, At ar t.l i.toNat x) (fun t i => Sl.mk (clr (nds (treeAt ar t.l i.toNat))))
noncomputable def ctx_Part3 : Ctx := ⟨tab, lkC [(48, con_End3)], 60, lkB [], [], false⟩
theorem ctx_Part3_t : ctx_Part3.τ = tab := rfl
theorem ctx_Part3_c : ctx_Part3.Γ = lkC [(48, con_End3)] := rfl
theorem ctx_Part3_d : ctx_Part3.dp = 60 := rfl
theorem ctx_Part3_b : ctx_Part3.Δ = lkB [] := rfl
set_option maxRecDepth 100000 in
theorem good_Part3 : Good Try.prog (91, con_Part3) := by
  refine ⟨U0 Try.func91 (by kernel_rfl) rfl, ?_⟩
  have K : CtxOk Try.prog ctx_Part3 := U4 Ki Ka (by
    intro p hp
    simp only [List.mem_cons, List.not_mem_nil, or_false] at hp
    rcases hp with rfl
    · exact I5) (by simp)
  obtain ⟨c, hc⟩ : ∃ c, Try.f91.body = some c := ⟨_, rfl⟩
  refine U5 K Try.func91 hc [.tmp 4] rfl 26 rfl (fun cvs hpre => ?_)
  change con_Part3.pre cvs at hpre
  unfold con_Part3 at hpre
  obtain ⟨⟨t⟩, i, rfl, ht, hN, hi, x, hx⟩ := Kj hpre
  simp only at ht hx hN
  obtain ⟨i, rfl⟩ : ∃ n : Nat, i = n := ⟨i.toNat, by omega⟩
  simp only [Int.toNat_natCast] at hx
  have hT : Tame t := numb_tame hN (by omega)
  have he := end3_at hN hx
  have hle := hx.le
  have hp := K8 x
  have hcut := Ra hx
  have htr : treeAt ar t i = x := Ga hx
  have hmc : List.drop i (List.take (i + (nds x).length) (t.map (enc : Node → D))) = (nds x).map enc := by rw [← List.map_take, ← List.map_drop, hcut]
  simp only [Try.f91, Option.some.injEq] at hc
  subst hc
  (sym =>
   simp [he,htr,hmc,Int.toNat_natCast,Ur,Up,Us,Uo,szN,Uq,ctx_Part3_t,ctx_Part3_c,ctx_Part3_d,ctx_Part3_b,con_End3.eq_def,con_Part3.eq_def,Za,Zb,Zc,Zd,Ze,Zf,Zn,Zo,Zp,Zq,Zr,Zs,Zt,Zw,Zx,Zy,Z0,Z1,Z4,Z5,Z6,Z9,Qb,Qd,Qe,Qf,Qj,Qn,Qo,Qp,Qq,Qs,Q1,Q2,Q4,Q8,Jb,Jc,Jd,Je,Jf,Jg,Jh,Ji,Jj,Jk,Jl,Jw,J2,J3,Xc,Xe,Xf,Xg,Xu,X1,X2,X4,X5,X9,Wa,Wd,Wf,Wg,Wh,Wi,Wl,Wr,Ws,Wt,Wu,Wv,Ww,Wx,Wy,Wz,W3,W4,W5,W6,W7,Yc,Yf,Yg,Yj,Yk,Ym,Ys,Yv,Yy,Yz,Y5,Y6,Y7,Y8,Y9,Va,Vf,Vh,Vk,Vm,Vq,Vs,V4,V5,V6,V7,V8,Uh,Ui,Uj,Uk,Ul,Um,U2,Gr,U3,Kb]
   tactic =>
    try simp only [Uy] at *
    try simp only [nc2] at *
    try simp (maxSteps := 4000000) only [he,htr,hmc,Int.toNat_natCast,Ur,Up,Us,Uo,szN,Uq,U1]
    repeat' (first | with_reducible assumption | with_reducible refine And.intro ?_ ?_ | intro _ | omega | (rw [Ux]; omega))
    all_goals first
      | exact hT
      | rw [List.length_set, List.length_map]
      | (revert hp
         cases nds x with
         | nil => intro hp; simp at hp
         | cons n r => intro _; rfl))
def con1t {A R S : Type} [Enc A] [Enc R] [Enc S] (p : A → Prop) (f : A → R × S) : Con := ⟨[false], [false, false], fun c => match c with
  | [.d x] => isE A x ∧ p (dec x)
  | _ => False, fun c => match c with
  | [.d x] => .tup [.d (enc (f (dec x)).1), .d (enc (f (dec x)).2)]
  | _ => .d .nilp⟩
theorem con1t_pre {A R S : Type} [Enc A] [Enc R] [Enc S] {p : A → Prop} {f : A → R × S} {c : List CV} (h : (con1t p f).pre c) : ∃ a, c = [.d (enc a)] ∧ p a := by
  unfold con1t at h
  simp only at h
  split at h
  · next x => exact ⟨dec x, by rw [← h.1], h.2⟩
  · exact h.elim
def Tree7 (t : List Node) : Prop := t.length ≤ 10000 ∧ Numb t ∧ ∃ x, t = nds x ∧ wf ar x
def parts (ks : List (Rose Node)) : List (Sl Node) := ks.map fun k => Sl.mk (clr (nds k))
def labs (ks : List (Rose Node)) : List (List UInt8) := ks.map fun k => k.root.name
theorem parts_snoc {ks : List (Rose Node)} {j : Nat} (h : j < ks.length) : (parts (ks.take j)).map (enc : Sl Node → D) ++ [.list 3 ((clr (nds ks[j])).map enc)] = (parts (ks.take (j + 1))).map enc := by
  rw [List.take_succ_eq_append_getElem h]
  unfold parts
  rw [List.map_append, List.map_append]
  rfl
theorem labs_snoc {ks : List (Rose Node)} {j : Nat} (h : j < ks.length) : (labs (ks.take j)).map (enc : List UInt8 → D) ++ [.str ks[j].root.name] = (labs (ks.take (j + 1))).map enc := by
  rw [List.take_succ_eq_append_getElem h]
  unfold labs
  rw [List.map_append, List.map_append]
  rfl
theorem Ph {ks : List (Rose Node)} : (parts ks).length = ks.length := by unfold parts; simp
theorem Nv {ks : List (Rose Node)} : (labs ks).length = ks.length := by unfold labs; simp
noncomputable def kids7 (t : List Node) : Sl (Sl Node) × Sl (List UInt8) := (⟨parts (treeAt ar t 0).kids⟩, ⟨labs (treeAt ar t 0).kids⟩)
noncomputable def con_kids7 : Con := con1t (fun (t : Sl Node) => Tree7 t.l) (fun t => kids7 t.l)
noncomputable def ctx_kids7 : Ctx := ⟨tab, lkC [(78, con_Kids3), (91, con_Part3)], 60, lkB [], [], false⟩
theorem Dg : ctx_kids7.τ = tab := rfl
theorem ctx_kids7_c : ctx_kids7.Γ = lkC [(78, con_Kids3), (91, con_Part3)] := rfl
theorem Dh : ctx_kids7.dp = 60 := rfl
theorem ctx_kids7_b : ctx_kids7.Δ = lkB [] := rfl
theorem ctx_kids7_w : ctx_kids7.wr = false := rfl
set_option maxRecDepth 100000 in
theorem Fi : Good Try.prog (61, con_kids7) := by
  refine ⟨U0 Try.func61 (by kernel_rfl) rfl, ?_⟩
  have K : CtxOk Try.prog ctx_kids7 := U4 Ki Ka (by
    intro p hp
    simp only [List.mem_cons, List.not_mem_nil, or_false] at hp
    rcases hp with rfl | rfl
    · exact good_Kids3
    · exact good_Part3) (by simp)
  obtain ⟨c, hc⟩ : ∃ c, Try.f61.body = some c := ⟨_, rfl⟩
  refine U5 K Try.func61 hc [.tmp 2, .tmp 3] rfl 40 rfl (fun cvs hpre => ?_)
  change con_kids7.pre cvs at hpre
  unfold con_kids7 at hpre
  obtain ⟨⟨t⟩, rfl, ht, hN, x, hxt, hx⟩ := con1t_pre hpre
  simp only at ht hN hxt
  have hat : At ar t 0 x := by rw [hxt]; exact Ni hx
  have hT : Tame t := numb_tame hN (by omega)
  have htr : treeAt ar t 0 = x := Ga hat
  have hk3 : kids3 t 0 = kidPos 1 x.kids := kids3_at hN hat
  obtain ⟨hks, hkl⟩ := hat.kids
  have hkt : kids7 t = (⟨parts x.kids⟩, ⟨labs x.kids⟩) := by unfold kids7; rw [htr]
  obtain ⟨ks, hk⟩ : ∃ ks, x.kids = ks := ⟨_, rfl⟩
  rw [hk] at hks hkl hk3 hkt
  replace hks : Ats ar t 1 ks := hks
  have hle := ats_le hks (by have := hat.lt; omega)
  obtain ⟨l, hl⟩ : ∃ l, kidPos 1 ks = l := ⟨_, rfl⟩
  have hll : l.length = ks.length := by rw [← hl, Mg]
  have hl1 : kids3 t 0 = l := by rw [hk3, ← hl]
  have hkn : ks.length ≤ 10000 := by
    have : ks.length ≤ (ndss ks).length := by
      clear hks hkl hle hll hl hk hkt hk3 hl1
      induction ks with
      | nil => simp
      | cons y ys ih => simp only [List.length_cons, ndss, List.length_append]; have := K8 y; omega
    omega
  simp only [Try.f61, Option.some.injEq] at hc
  subst hc
  refine Kl 2 (of_decide_eq_true (by kernel_rfl)) ?_
  (sym =>
   simp [con1t.eq_def,hl1,hkt,Ur,Up,Us,Uo,szN,Uq,Dg,ctx_kids7_c,Dh,ctx_kids7_b,con_Kids3.eq_def,con_Part3.eq_def,con_kids7.eq_def,Zb,Zc,Ze,Zf,Zn,Zo,Zr,Z1,Z9,Qe,Qf,Qq,Qs,Q1,Q2,Q4,Q8,Jb,Jc,Jd,Je,Jf,Jg,Jh,Ji,Jj,Jl,Jw,J2,J3,J4,J5,J7,Xa,Xc,Xe,Xm,Xn,Xu,X2,X4,X6,X7,Wa,Wd,Wf,Wg,Wh,Wl,Wr,Ws,Wt,Wu,Wv,Ww,Wx,Wy,Wz,W3,W4,W5,W8,W9,Y5,Y6,Y9,Va,Vb,Vc,Vd,Ve,Vf,Vh,Vk,Vm,Vr,Vs,V4,V7,Uj,Uk,Ul,Gr,U3,K7,tab71]
   tactic =>
    try simp only [Uy] at *
    try simp only [nc2] at *
    try simp (maxSteps := 4000000) only [con1t.eq_def,hl1,hkt,Ur,Up,Us,Uo,szN,Uq,U1]
    repeat' (first | with_reducible assumption | with_reducible refine And.intro ?_ ?_ | intro _ | omega | (rw [Ux]; omega))
    refine Ke [12, 13, 14, 15, 16, 17, 18, 19, 20, 21, 22, 23, 24, 25, 26, 27, 28, 29, 30, 31, 32, 33, 34, 35, 36, 37] (fun j : Nat => [(4, .sl 8 ((parts (ks.take j)).map (enc : Sl Node → D)).length), (5, .sl 9 ((labs (ks.take j)).map (enc : List UInt8 → D)).length), (7, .d (.int .i64 j))]) (fun j : Nat => [(8, .row 1 ((parts (ks.take j)).map enc) 0), (9, .row 1 ((labs (ks.take j)).map enc) 0)]) (fun j : Nat => j ≤ ks.length) (fun j : Nat => ks.length - j) 0 ?_ ?_ ?_
    · omega
    · ((try simp only [Uz, killAll, setSlots, updAll, upd, U9, setCs, putC, Nat.reduceDiv, Nat.reduceMod, Nat.reduceMul, Nat.reduceAdd, Nat.reduceEqDiff, List.set_cons_zero, List.set_cons_succ, if_true, if_false, reduceIte]); (first | refine Wk.of_fl ?_ | skip); simp only [Wk, wkK, wkCs, wkT, wk1, AV.kept, keptAll, wkO, lk, wkObj, and_true, true_and, and_self, Nat.reduceEqDiff, Nat.reduceLeDiff, if_true, if_false, reduceIte, reduceCtorEq, Option.isSome, false_implies]; try simp [Wk, wkK, wkT, wk1, AV.kept, keptAll, wkO, lk, wkObj])
      exact ⟨⟨rfl, rfl⟩, rfl, rfl⟩
    rintro j hj
    have hp1 : (parts (ks.take j)).length = j := by rw [Ph, List.length_take]; omega
    have hp2 : (labs (ks.take j)).length = j := by rw [Nv, List.length_take]; omega
    rcases Kf j l.length with ⟨hlt, hlb⟩ | ⟨hlt, hlb⟩
    · have hlt' : j < ks.length := by omega
      have hq := Tj 1 ks j hlt'
      rw [hl] at hq
      have ha := F6 hks hlt'
      have hal := ha.lt
      have hel := U8 (0 : Int) (by omega : j < l.length)
      have hen := U8 n0 hal
      have hro : t.getD (1 + (ndss (ks.take j)).length) n0 = ks[j].root := ha.root n0
      have htj : treeAt ar t (1 + (ndss (ks.take j)).length) = ks[j] := Ga ha
      have hs1 := parts_snoc hlt'
      have hs2 := labs_snoc hlt'
      (sym =>
       simp [hlb,hp1,hp2,hel,hq,hen,hro,htj,hs1,hs2,Int.toNat_natCast,Ur,Up,Us,Uo,szN,Uq,Dg,ctx_kids7_c,Dh,ctx_kids7_b,ctx_kids7_w,con_Kids3.eq_def,con_Part3.eq_def,Zb,Zc,Ze,Zf,Zg,Zo,Zp,Zq,Zr,Zs,Zv,Zx,Zy,Z1,Z4,Z5,Z6,Z9,Qb,Qd,Qe,Qf,Qq,Qs,Q1,Q2,Q4,Q8,Jb,Jc,Jd,Je,Jf,Jg,Jh,Ji,Jj,Jl,Jx,Jy,Jz,J4,J5,J6,J7,J8,J9,Xa,Xb,Xc,Xd,Xe,Xu,X1,X2,X4,X5,X6,Wa,Wd,Wf,Wg,Wh,Wi,Wl,Wr,Ws,Wt,Wu,Wv,Wx,Wy,Wz,W0,W3,W4,W5,W6,W7,W8,W9,Yb,Yc,Yg,Yk,Ym,Yr,Ys,Yu,Yv,Yy,Yz,Y0,Y2,Y5,Y6,Y7,Y8,Vf,Vh,Vk,Vm,Vr,Vs,V3,V4,V9,Uh,Uj,Uk,Ul,Um,U2,Gr,U3,Kb,K7,tab71,Nl]
       tactic =>
        try simp only [Uy] at *
        try simp only [nc2] at *
        try simp (maxSteps := 4000000) only [hlb,hp1,hp2,hel,hq,hen,hro,htj,hs1,hs2,Int.toNat_natCast,Ur,Up,Us,Uo,szN,Uq,U1]
        repeat' (first | with_reducible assumption | with_reducible refine And.intro ?_ ?_ | intro _ | omega | (rw [Ux]; omega))
        · exact ⟨_, ha⟩
        · have hq1 : (parts (ks.take (j + 1))).length = j + 1 := by rw [Ph, List.length_take]; omega
          have hq2 : (labs (ks.take (j + 1))).length = j + 1 := by rw [Nv, List.length_take]; omega
          refine ⟨j + 1, ?_, by omega, by omega⟩
          ((try simp only [Uz, killAll, setSlots, updAll, upd, U9, setCs, putC, Nat.reduceDiv, Nat.reduceMod, Nat.reduceMul, Nat.reduceAdd, Nat.reduceEqDiff, List.set_cons_zero, List.set_cons_succ, if_true, if_false, reduceIte]); (first | refine Wk.of_fl ?_ | skip); simp only [Wk, wkK, wkCs, wkT, wk1, AV.kept, keptAll, wkO, lk, wkObj, and_true, true_and, and_self, Nat.reduceEqDiff, Nat.reduceLeDiff, if_true, if_false, reduceIte, reduceCtorEq, Option.isSome, false_implies]; try simp [Wk, wkK, wkT, wk1, AV.kept, keptAll, wkO, lk, wkObj, hq1, hq2])
          exact hs1)
    · have hjk : j = ks.length := by omega
      (sym =>
       simp [hlb,hp1,hp2,con1t.eq_def,hkt,Ur,Up,Us,Uo,szN,Uq,Dg,Dh,Zb,Zc,Ze,Zf,Zg,Zo,Z6,Qb,Qd,Qn,Qo,Qp,Qq,Qs,Q1,Q2,Q4,Q8,Jh,Ji,Jk,Jx,Jy,Jz,J4,J5,J6,J7,J8,J9,Xa,Xb,Xg,X2,X4,X5,X8,X9,Wa,Wd,Wf,Wg,Wh,Wr,Ws,Wt,Wu,W8,W9,Yb,Yc,Yg,Yy,Yz,Y2,Y5,Y6,Y7,Y8,Vr,Vs,Ui,Uj,Uk,Um,U2,Nl]
       tactic =>
        try simp only [Uy] at *
        try simp only [nc2] at *
        try simp (maxSteps := 4000000) only [hlb,hp1,hp2,con1t.eq_def,hkt,Ur,Up,Us,Uo,szN,Uq,U1]
        repeat' (first | with_reducible assumption | with_reducible refine And.intro ?_ ?_ | intro _ | omega | (rw [Ux]; omega))
        all_goals rw [hjk, List.take_length]))
end Go.Am.Ty
set_option linter.unusedSimpArgs false
set_option linter.unusedVariables false
set_option maxHeartbeats 1000000
namespace Go.Am.Ty
open Go.Proofs Go.Rose Go.Rose.Rose
open Enc (enc dec)
def alikeX (x y : Rose Node) : Bool := x.root.kind == y.root.kind && labs x.kids == labs y.kids
theorem Ti {t : List Node} {x : Rose Node} (h : At ar t 0 x) : kids7 t = (⟨parts x.kids⟩, ⟨labs x.kids⟩) := by unfold kids7; rw [Ga h]
noncomputable def con_alike7 : Con := con2 (fun (a b : Sl Node) => Tree7 a.l ∧ Tree7 b.l) (fun a b => alikeX (treeAt ar a.l 0) (treeAt ar b.l 0))
theorem labs_le {t : List Node} {x : Rose Node} (h : At ar t 0 x) : (labs x.kids).length ≤ t.length := by
  rw [Nv]
  have hle := ats_le h.kids.1 (by have := h.lt; omega)
  have : ∀ ks : List (Rose Node), ks.length ≤ (ndss ks).length := by
    intro ks
    induction ks with
    | nil => simp
    | cons y ys ih => simp only [List.length_cons, ndss, List.length_append]; have := K8 y; omega
  have := this x.kids
  omega
noncomputable def ctx_alike7 : Ctx := ⟨tab, lkC [(61, con_kids7)], 60, lkB [], [], false⟩
theorem Pz : ctx_alike7.τ = tab := rfl
theorem Lg : ctx_alike7.Γ = lkC [(61, con_kids7)] := rfl
theorem P0 : ctx_alike7.dp = 60 := rfl
theorem Lh : ctx_alike7.Δ = lkB [] := rfl
theorem Lf : ctx_alike7.wr = false := rfl
set_option maxRecDepth 100000 in
theorem O1 : Good Try.prog (60, con_alike7) := by
  refine ⟨U0 Try.func60 (by kernel_rfl) rfl, ?_⟩
  have K : CtxOk Try.prog ctx_alike7 := U4 Ki Ka (by
    intro p hp
    simp only [List.mem_cons, List.not_mem_nil, or_false] at hp
    rcases hp with rfl
    · exact Fi) (by simp)
  obtain ⟨c, hc⟩ : ∃ c, Try.f60.body = some c := ⟨_, rfl⟩
  refine U5 K Try.func60 hc [.tmp 4] rfl 49 rfl (fun cvs hpre => ?_)
  change con_alike7.pre cvs at hpre
  unfold con_alike7 at hpre
  obtain ⟨⟨a⟩, ⟨b⟩, rfl, hTa, hTb⟩ := Kj hpre
  obtain ⟨ha, hNa, x, hxt, hx⟩ : Tree7 a := hTa
  obtain ⟨hb, hNb, y, hyt, hy⟩ : Tree7 b := hTb
  have aa : At ar a 0 x := by rw [hxt]; exact Ni hx
  have ab : At ar b 0 y := by rw [hyt]; exact Ni hy
  have tx : treeAt ar a 0 = x := Ga aa
  have ty : treeAt ar b 0 = y := Ga ab
  have la := aa.lt
  have lb := ab.lt
  have ka := Ti aa
  have kb := Ti ab
  have ea := U8 n0 la
  have eb := U8 n0 lb
  have ra : a.getD 0 n0 = x.root := aa.root n0
  have rb : b.getD 0 n0 = y.root := ab.root n0
  have pa : Tree7 a := ⟨ha, hNa, x, hxt, hx⟩
  have pb : Tree7 b := ⟨hb, hNb, y, hyt, hy⟩
  have lla := labs_le aa
  have llb := labs_le ab
  obtain ⟨X, hX⟩ : ∃ X, labs x.kids = X := ⟨_, rfl⟩
  obtain ⟨Y, hY⟩ : ∃ Y, labs y.kids = Y := ⟨_, rfl⟩
  have hf : alikeX x y = (x.root.kind == y.root.kind && X == Y) := by unfold alikeX; rw [hX, hY]
  rw [hX] at ka lla
  rw [hY] at kb llb
  clear hxt hyt hpre
  simp only [Try.f60, Option.some.injEq] at hc
  subst hc
  refine Kl 3 (of_decide_eq_true (by kernel_rfl)) ?_
  by_cases hk : x.root.kind = y.root.kind
  · have hkb : (x.root.kind != y.root.kind) = false := by simp [hk]
    have hke : (x.root.kind == y.root.kind) = true := by simp [hk]
    rw [hke, Bool.true_and] at hf
    by_cases hlen : X.length = Y.length
    · have hlb : ((X.length : Int) != (Y.length : Int)) = false := by simp [hlen]
      (sym =>
       simp [tx,ty,ka,kb,ea,eb,ra,rb,hkb,hlb,hf,con1t.eq_def,Ur,Up,Us,Uo,szN,Uq,Pz,Lg,P0,Lh,Lf,con_alike7.eq_def,con_kids7.eq_def,Zb,Zc,Ze,Zf,Zh,Zi,Zj,Zk,Zl,Zm,Zo,Zp,Zq,Zs,Zv,Zx,Zy,Z6,Z8,Z9,Qb,Qd,Qe,Qf,Qg,Qq,Qr,Qs,Q1,Q2,Q4,Q5,Q6,Q8,Q9,Ja,Jf,Jj,Jl,Jw,J2,J3,J4,J5,J7,J8,Xa,Xb,Xe,Xm,Xn,Xu,X1,X2,X3,X4,X5,X6,X7,Wa,Wb,Wc,Wd,We,Wf,Wg,Wh,Wn,Wr,Ws,Wt,Wu,Wv,Ww,Wx,Wy,W0,W3,W4,W5,W6,W8,W9,Yc,Yg,Yk,Yr,Yu,Yw,Yy,Yz,Y3,Y5,Y6,Y9,Va,Vb,Vc,Vd,Ve,Vh,Vm,Vq,Vr,Vs,V4,V5,Ui,Uj,Uk,Um,Un,U2,Gr,U3,Kb,tab71]
       tactic =>
        try simp only [Uy] at *
        try simp only [nc2] at *
        try simp (maxSteps := 4000000) only [tx,ty,ka,kb,ea,eb,ra,rb,hkb,hlb,hf,con1t.eq_def,Ur,Up,Us,Uo,szN,Uq,U1]
        repeat' (first | with_reducible assumption | with_reducible refine And.intro ?_ ?_ | intro _ | omega | (rw [Ux]; omega))
        · (with_reducible refine Kh ?_; kernel_rfl)
        refine Ke [4, 34, 35, 36, 37, 38, 39, 40, 41, 42, 43, 44, 45, 46, 47, 48] (fun k : Nat => [(9, .d (.int .i64 k))]) (fun k : Nat => []) (fun k : Nat => k ≤ X.length ∧ ∀ j, j < k → X.getD j [] = Y.getD j []) (fun k : Nat => X.length - k) 0 ?_ ?_ ?_
        · simp
        · ((try simp only [Uz, killAll, setSlots, updAll, upd, U9, setCs, putC, Nat.reduceDiv, Nat.reduceMod, Nat.reduceMul, Nat.reduceAdd, Nat.reduceEqDiff, List.set_cons_zero, List.set_cons_succ, if_true, if_false, reduceIte]); (first | refine Wk.of_fl ?_ | skip); simp only [Wk, wkK, wkCs, wkT, wk1, AV.kept, keptAll, wkO, lk, wkObj, and_true, true_and, and_self, Nat.reduceEqDiff, Nat.reduceLeDiff, if_true, if_false, reduceIte, reduceCtorEq, Option.isSome, false_implies]; try simp [Wk, wkK, wkT, wk1, AV.kept, keptAll, wkO, lk, wkObj])
        rintro k ⟨hkk, hno⟩
        rcases Kf k X.length with ⟨hlt, hltb⟩ | ⟨hlt, hltb⟩
        · have zz1 := U8 ([] : List UInt8) hlt
          have zz2 := U8 ([] : List UInt8) (show k < Y.length by omega)
          (sym =>
           simp [hltb,hf,zz1,zz2,Ur,Up,Us,Uo,szN,Uq,Pz,Lg,P0,Lh,Lf,con_kids7.eq_def,Zb,Zc,Ze,Zf,Zg,Zh,Zi,Zj,Zk,Zl,Zm,Zo,Zp,Zq,Zv,Zy,Z6,Qb,Qd,Qn,Qo,Qp,Qq,Qr,Qs,Q1,Q2,Q4,Q5,Q6,Q8,Jk,Jx,Jy,Jz,J4,J5,J6,J7,J8,J9,Xa,Xb,Xe,X1,X2,X3,X4,X5,X6,X9,Wa,Wb,Wc,Wd,We,Wf,Wg,Wh,Wn,Wr,Ws,Wt,Wu,W0,W3,W8,W9,Yb,Yc,Ye,Yg,Yi,Yk,Ys,Yx,Yy,Yz,Y3,Y5,Y6,Y7,Vp,Vr,Vs,V4,V5,Uh,Ui,Uj,Uk,Ul,Um,Un,U2,Gr,tab71]
           tactic =>
            try simp only [Uy] at *
            try simp only [nc2] at *
            try simp (maxSteps := 4000000) only [hltb,hf,zz1,zz2,Ur,Up,Us,Uo,szN,Uq,U1]
            repeat' (first | with_reducible assumption | with_reducible refine And.intro ?_ ?_ | intro _ | omega | (rw [Ux]; omega))
            · (with_reducible refine Kh ?_; kernel_rfl)
            · rename_i h
              symm
              rw [beq_eq_false_iff_ne]
              intro e
              exact h (by rw [e])
            · rename_i h
              refine ⟨k + 1, by ((try simp only [Uz, killAll, setSlots, updAll, upd, U9, setCs, putC, Nat.reduceDiv, Nat.reduceMod, Nat.reduceMul, Nat.reduceAdd, Nat.reduceEqDiff, List.set_cons_zero, List.set_cons_succ, if_true, if_false, reduceIte]); (first | refine Wk.of_fl ?_ | skip); simp only [Wk, wkK, wkCs, wkT, wk1, AV.kept, keptAll, wkO, lk, wkObj, and_true, true_and, and_self, Nat.reduceEqDiff, Nat.reduceLeDiff, if_true, if_false, reduceIte, reduceCtorEq, Option.isSome, false_implies]; try simp [Wk, wkK, wkT, wk1, AV.kept, keptAll, wkO, lk, wkObj]), by omega, fun j hj => ?_, by omega⟩
              by_cases hjk : j = k
              · subst hjk; exact h
              · exact hno j (by omega))
        · (sym =>
           simp [hltb,hf,Ur,Up,Us,Uo,szN,Uq,Pz,P0,Zb,Zc,Ze,Zf,Zg,Zo,Z6,Qb,Qd,Qn,Qo,Qp,Qq,Qs,Q1,Q2,Q4,Q8,Jk,Jx,Jy,Jz,J4,J5,J7,J8,J9,Xa,Xb,Xe,X2,X4,X5,X8,X9,Wa,Wd,Wf,Wg,Wh,Wr,Ws,Wt,Wu,W8,W9,Yb,Yc,Yg,Yy,Yz,Y3,Y5,Y6,Y7,Vr,Vs,V5,Ui,Uj,Uk,Ul,Um,U2,Gr,tab71]
           tactic =>
            try simp only [Uy] at *
            try simp only [nc2] at *
            try simp (maxSteps := 4000000) only [hltb,hf,Ur,Up,Us,Uo,szN,Uq,U1]
            symm
            rw [beq_iff_eq]
            refine List.ext_getElem hlen fun j h1 h2 => ?_
            have := hno j (by omega)
            simpa [h1, h2] using this))
    · have hlb : ((X.length : Int) != (Y.length : Int)) = true := by
        rw [bne_iff_ne]
        omega
      have hxy : (X == Y) = false := by
        rw [beq_eq_false_iff_ne]
        intro e
        exact hlen (by rw [e])
      rw [hxy] at hf
      (sym =>
       simp [tx,ty,ka,kb,ea,eb,ra,rb,hkb,hlb,hf,con1t.eq_def,Ur,Up,Us,Uo,szN,Uq,Pz,Lg,P0,Lh,Lf,con_alike7.eq_def,con_kids7.eq_def,Zb,Zc,Ze,Zf,Zh,Zi,Zj,Zk,Zl,Zm,Zo,Zp,Zq,Zs,Zv,Zx,Zy,Z6,Z8,Z9,Qb,Qd,Qe,Qf,Qg,Qn,Qo,Qp,Qq,Qr,Qs,Q1,Q2,Q4,Q5,Q6,Q8,Q9,Ja,Jf,Jj,Jk,Jl,Jw,J2,J3,J4,J5,J7,J8,Xa,Xb,Xe,Xm,Xn,Xu,X1,X2,X3,X4,X5,X9,Wa,Wb,Wc,Wd,We,Wf,Wg,Wh,Wn,Wr,Ws,Wt,Wu,Wv,Ww,Wx,Wy,W0,W3,W4,W5,W6,W8,W9,Yc,Yg,Yk,Yr,Yu,Yw,Yy,Yz,Y3,Y5,Y6,Y9,Va,Vb,Vc,Vd,Ve,Vh,Vm,Vq,Vr,Vs,V4,V5,Uh,Ui,Uj,Uk,Um,Un,U2,Gr,U3,Kb,tab71]
       tactic =>
        try simp only [Uy] at *
        try simp only [nc2] at *
        try simp (maxSteps := 4000000) only [tx,ty,ka,kb,ea,eb,ra,rb,hkb,hlb,hf,con1t.eq_def,Ur,Up,Us,Uo,szN,Uq,U1]
        repeat' (first | with_reducible assumption | with_reducible refine And.intro ?_ ?_ | intro _ | omega | (rw [Ux]; omega))
        all_goals (with_reducible refine Kh ?_; kernel_rfl))
  · have hkb : (x.root.kind != y.root.kind) = true := by simp [hk]
    have hke : (x.root.kind == y.root.kind) = false := by simp [hk]
    rw [hke, Bool.false_and] at hf
    (sym =>
     simp [tx,ty,ea,eb,ra,rb,hkb,hf,Ur,Up,Us,Uo,szN,Uq,Pz,Lg,P0,Lh,Lf,con_alike7.eq_def,con_kids7.eq_def,Zb,Zc,Ze,Zf,Zh,Zi,Zj,Zk,Zl,Zm,Zo,Zp,Zq,Zs,Zv,Zx,Zy,Qb,Qd,Qn,Qo,Qp,Qq,Qr,Qs,Q1,Q2,Q4,Q5,Q6,Q8,Jk,Jw,J2,J3,J4,J5,J7,J8,Xa,Xb,Xe,Xm,Xn,Xu,X2,X3,X4,X5,X9,Wa,Wb,Wc,Wd,We,Wf,Wg,Wh,Wn,Wr,Ws,Wt,Wu,Ww,Wy,W0,W3,W4,W5,W6,W8,W9,Yc,Yg,Yk,Yr,Yu,Yw,Yy,Yz,Y5,Y6,Y9,Va,Vb,Vc,Vd,Ve,Vh,Vq,Vr,Vs,V4,V5,Uh,Ui,Uj,Uk,Um,Un,U2,U3,Kb]
     tactic =>
      try simp only [Uy] at *
      try simp only [nc2] at *
      try simp (maxSteps := 4000000) only [tx,ty,ea,eb,ra,rb,hkb,hf,Ur,Up,Us,Uo,szN,Uq,U1]
      repeat' (first | with_reducible assumption | with_reducible refine And.intro ?_ ?_ | intro _ | omega | (rw [Ux]; omega))
      all_goals (with_reducible refine Kh ?_; kernel_rfl))
end Go.Am.Ty
set_option linter.unusedSimpArgs false
set_option linter.unusedVariables false
set_option maxHeartbeats 1000000
namespace Go.Am.Ty
open Go.Proofs Go.Rose Go.Rose.Rose
def clrN (n : Node) : Node := ⟨n.kind, [], n.n⟩
def clrX : Rose Node → Rose Node
  | mk n ks => mk (clrN n) ks
theorem L9 : ∀ x : Rose Node, nds (clrX x) = clr (nds x)
  | mk n ks => by rw [clrX, K6, K6]; rfl
theorem B4 : ∀ {x : Rose Node}, wf ar x → wf ar (clrX x)
  | mk n ks, h => ⟨h.1, h.2⟩
theorem clrX_clrX : ∀ x : Rose Node, clrX (clrX x) = clrX x
  | mk n ks => rfl
def agX (f : Bool) (x y : Rose Node) : Bool := ov f (clrX x) (clrX y)
theorem agX_clr {f : Bool} {x y : Rose Node} : agX f (clrX x) (clrX y) = agX f x y := by unfold agX; rw [clrX_clrX, clrX_clrX]
theorem agX_ov {f : Bool} : ∀ {x y : Rose Node}, x.root.name = y.root.name → agX f x y = ov f x y
  | mk n ks, mk m qs, h => by
    simp only [root] at h
    unfold agX
    rw [clrX, clrX, Ep, Ep]
    simp only [root, kids, sameN, clrN, h, beq_self_eq_true, Bool.true_and]
    rfl
theorem ovs_iff {f : Bool} : ∀ {ks qs : List (Rose Node)}, ks.length = qs.length → (ovs f ks qs = true ↔ labs ks = labs qs ∧ ∀ j, j < ks.length → agX f (ks.getD j (mk n0 [])) (qs.getD j (mk n0 [])) = true)
  | [], [], _ => by rw [ovs]; simp [labs]
  | [], _ :: _, h => by simp at h
  | _ :: _, [], h => by simp at h
  | x :: xs, y :: ys, h => by
    rw [ovs, Bool.and_eq_true, Bool.and_eq_true, ovs_iff (by simpa using h), beq_iff_eq]
    constructor
    · rintro ⟨h1, h2, h3, h4⟩
      refine ⟨by unfold labs at *; simp [h1, h3], fun j hj => ?_⟩
      cases j with
      | zero => simpa [agX_ov h1] using h2
      | succ j => exact h4 j (by simpa using hj)
    · rintro ⟨h1, h2⟩
      unfold labs at h1
      rw [List.map_cons, List.map_cons, List.cons.injEq] at h1
      have h0 := h2 0 (by simp)
      simp only [List.getD_cons_zero] at h0
      rw [agX_ov h1.1] at h0
      exact ⟨h1.1, h0, h1.2, fun j hj => h2 (j + 1) (by simpa using hj)⟩
theorem num_eq {n m : Node} (hk : n.kind = m.kind) (ha : ar n = ar m) (h0 : n.kind ≠ 0) (n1 : numb3 n = true) (n2 : numb3 m = true) (p1 : n.kind ≠ 8 ∧ n.kind ≠ 9) : n.n = m.n := by
  have t1 := B7 n1
  have t2 := B7 n2
  rw [ha, ← t2] at t1
  unfold many3 at t1
  rw [hk] at t1
  unfold numb3 at n1 n2
  rw [if_neg (by omega)] at n1
  rw [if_neg (by omega)] at n2
  by_cases h5 : 1 ≤ n.kind ∧ n.kind ≤ 5
  · rw [if_pos h5] at n1
    rw [if_pos (by omega)] at n2
    have := of_decide_eq_true n1
    have := of_decide_eq_true n2
    omega
  · rw [if_neg h5] at n1
    by_cases h6 : m.kind = 6 ∨ m.kind = 7
    · rw [if_neg (by omega), if_pos h6, if_neg (by omega), if_pos h6] at t1
      exact t1
    · rw [if_neg (by omega), if_neg (by omega)] at n1
      cases n1
theorem ag_iff {f : Bool} {x y : Rose Node} (hx : wf ar x) (hy : wf ar y) (nx : Numb (nds x)) (ny : Numb (nds y)) (px : plain3 (nds x) = true) (h0 : x.root.kind ≠ 0) (h1 : y.root.kind ≠ 0) :
    agX f x y = true ↔ alikeX x y = true ∧ ∀ j, j < x.kids.length → agX f (x.kids.getD j (mk n0 [])) (y.kids.getD j (mk n0 [])) = true := by
  have k1 := nx _ (L4 x)
  have k2 := ny _ (L4 y)
  have k3 := Md.1 px _ (L4 x)
  obtain ⟨n, ks⟩ := x
  obtain ⟨m, qs⟩ := y
  simp only [root, kids] at *
  unfold agX alikeX
  rw [clrX, clrX, Ep]
  simp only [root, kids, clrN, beq_eq_false_iff_ne.2 h0, beq_eq_false_iff_ne.2 h1, Bool.or_self, cond_false, Bool.and_eq_true, beq_iff_eq, sameN, true_and]
  constructor
  · rintro ⟨⟨g1, g2⟩, g3⟩
    have hl : ks.length = qs.length := by
      rw [hx.1, hy.1]
      unfold ar
      rw [g1, g2]
    obtain ⟨e1, e2⟩ := (ovs_iff hl).1 g3
    exact ⟨⟨g1, e1⟩, e2⟩
  · rintro ⟨⟨g1, g2⟩, g3⟩
    have hl : ks.length = qs.length := by rw [← Nv (ks := ks), g2, Nv]
    exact ⟨⟨g1, num_eq g1 (by rw [← hx.1, ← hy.1, hl]) h0 k1 k2 k3⟩, (ovs_iff hl).2 ⟨g2, g3⟩⟩
end Go.Am.Ty
set_option linter.unusedSimpArgs false
set_option linter.unusedVariables false
set_option maxHeartbeats 1000000
namespace Go.Am.Ty
open Go.Proofs Go.Rose Go.Rose.Rose
open Enc (enc dec)
theorem Ig {f : Bool} : ∀ {x y : Rose Node}, x.root.kind = 0 ∨ y.root.kind = 0 → agX f x y = askB f y.root
  | mk n ks, mk m qs, h => by
    unfold agX
    rw [clrX, clrX, Ep]
    simp only [root, clrN] at h ⊢
    have : (n.kind == 0 || m.kind == 0) = true := by rw [Bool.or_eq_true, beq_iff_eq, beq_iff_eq]; exact h
    rw [this]
    rfl
theorem clr_len (t : List Node) : (clr t).length = t.length := by cases t <;> rfl
theorem Rj {ks : List (Rose Node)} {j : Nat} (h : j < ks.length) : (parts ks).getD j ⟨[]⟩ = Sl.mk (clr (nds (ks.getD j (mk n0 [])))) := by
  unfold parts
  simp [h]
theorem clr_numb {t : List Node} (h : Numb t) : Numb (clr t) := by
  cases t with
  | nil => exact h
  | cons n r =>
    intro m hm
    rcases List.mem_cons.1 hm with rfl | hm
    · have := h n (by simp)
      exact this
    · exact h m (by simp [hm])
theorem clr_plain {t : List Node} (h : plain3 t = true) : plain3 (clr t) = true := by
  cases t with
  | nil => exact h
  | cons n r =>
    rw [Md] at *
    intro m hm
    rcases List.mem_cons.1 hm with rfl | hm
    · exact h n (by simp)
    · exact h m (by simp [hm])
theorem wfs_at {ks : List (Rose Node)} (h : wfs ar ks) {j : Nat} (hj : j < ks.length) : wf ar (ks.getD j (mk n0 [])) := by
  induction ks generalizing j with
  | nil => simp at hj
  | cons x xs ih =>
    cases j with
    | zero => exact h.1
    | succ j => exact ih h.2 (by simpa using hj)
theorem mem_kid {ks : List (Rose Node)} {j : Nat} (hj : j < ks.length) {n : Node} (hn : n ∈ nds (ks.getD j (mk n0 []))) : n ∈ ndss ks := by
  induction ks generalizing j with
  | nil => simp at hj
  | cons x xs ih =>
    rw [ndss, List.mem_append]
    cases j with
    | zero => exact .inl hn
    | succ j => exact .inr (ih (by simpa using hj) hn)
theorem kid_len {ks : List (Rose Node)} {j : Nat} (hj : j < ks.length) : (nds (ks.getD j (mk n0 []))).length ≤ (ndss ks).length := by
  induction ks generalizing j with
  | nil => simp at hj
  | cons x xs ih =>
    rw [ndss, List.length_append]
    cases j with
    | zero => simp
    | succ j => have := ih (j := j) (by simpa using hj); simp only [List.getD_cons_succ]; omega
theorem sub7 {x : Rose Node} (hx : wf ar x) (hN : Numb (nds x)) (hp : plain3 (nds x) = true) (hl : (nds x).length ≤ 10000) {j : Nat} (hj : j < x.kids.length) :
    Tree7 (clr (nds (x.kids.getD j (mk n0 [])))) ∧ plain3 (clr (nds (x.kids.getD j (mk n0 [])))) = true ∧ (clr (nds (x.kids.getD j (mk n0 [])))).length < (nds x).length ∧ treeAt ar (clr (nds (x.kids.getD j (mk n0 [])))) 0 = clrX (x.kids.getD j (mk n0 [])) := by
  obtain ⟨n, ks⟩ := x
  simp only [kids] at *
  rw [K6] at *
  have hlen := kid_len hj
  have hw := wfs_at hx.2 hj
  have hlt : (clr (nds (ks.getD j (mk n0 [])))).length < (n :: ndss ks).length := by rw [clr_len, List.length_cons]; omega
  have hn : Numb (nds (ks.getD j (mk n0 []))) := fun m hm => hN m (List.mem_cons_of_mem _ (mem_kid hj hm))
  have hpp : plain3 (nds (ks.getD j (mk n0 []))) = true := by
    rw [Md] at *
    exact fun m hm => hp m (List.mem_cons_of_mem _ (mem_kid hj hm))
  refine ⟨⟨by omega, clr_numb hn, clrX _, (L9 _).symm, B4 hw⟩, clr_plain hpp, hlt, ?_⟩
  rw [← L9]
  exact Ga (Ni (B4 hw))
noncomputable def con_Agree7 (n : Nat) : Con := con2 (fun (a b : Sl Node) => Tree7 a.l ∧ Tree7 b.l ∧ plain3 a.l = true ∧ plain3 b.l = true ∧ a.l.length < n) (fun a b => agX false (treeAt ar a.l 0) (treeAt ar b.l 0))
theorem con_Agree7_zero : ∀ c, ¬ (con_Agree7 0).pre c := by
  intro c h
  unfold con_Agree7 at h
  obtain ⟨_, _, _, _, _, _, _, h⟩ := Kj h
  omega
noncomputable def ctx_Agree7 (n : Nat) : Ctx := ⟨tab, lkC [(60, con_alike7), (61, con_kids7), (33, (con_Agree7 n))], 60, lkB [], [], false⟩
theorem N4 (n : Nat) : (ctx_Agree7 n).τ = tab := rfl
theorem Ls (n : Nat) : (ctx_Agree7 n).Γ = lkC [(60, con_alike7), (61, con_kids7), (33, (con_Agree7 n))] := rfl
theorem M0 (n : Nat) : (ctx_Agree7 n).dp = 60 := rfl
theorem Lt (n : Nat) : (ctx_Agree7 n).Δ = lkB [] := rfl
theorem A6 (n : Nat) : (ctx_Agree7 n).wr = false := rfl
set_option maxRecDepth 100000 in
theorem step_Agree7 (n : Nat) (ih : Good Try.prog (33, con_Agree7 n)) : Good Try.prog (33, (con_Agree7 (n + 1))) := by
  refine ⟨U0 Try.func33 (by kernel_rfl) rfl, ?_⟩
  have K : CtxOk Try.prog (ctx_Agree7 n) := U4 Ki Ka (by
    intro p hp
    simp only [List.mem_cons, List.not_mem_nil, or_false] at hp
    rcases hp with rfl | rfl | rfl
    · exact O1
    · exact Fi
    · exact ih) (by simp)
  obtain ⟨c, hc⟩ : ∃ c, Try.f33.body = some c := ⟨_, rfl⟩
  refine U5 K Try.func33 hc [.tmp 4] rfl 52 rfl (fun cvs hpre => ?_)
  change (con_Agree7 (n + 1)).pre cvs at hpre
  unfold con_Agree7 at hpre
  obtain ⟨⟨a⟩, ⟨b⟩, rfl, hTa, hTb, hpa, hpb, hn⟩ := Kj hpre
  have pa : Tree7 a := hTa
  have pb : Tree7 b := hTb
  obtain ⟨ha, hNa, x, hxt, hx⟩ : Tree7 a := hTa
  obtain ⟨hb, hNb, y, hyt, hy⟩ : Tree7 b := hTb
  simp only at hpa hpb hn
  have aa : At ar a 0 x := by rw [hxt]; exact Ni hx
  have ab : At ar b 0 y := by rw [hyt]; exact Ni hy
  have tx : treeAt ar a 0 = x := Ga aa
  have ty : treeAt ar b 0 = y := Ga ab
  have la := aa.lt
  have lb := ab.lt
  have ka := Ti aa
  have kb := Ti ab
  have ea := U8 n0 la
  have eb := U8 n0 lb
  have ra : a.getD 0 n0 = x.root := aa.root n0
  have rb : b.getD 0 n0 = y.root := ab.root n0
  have lla := labs_le aa
  rw [Nv] at lla
  have hdyn := Ig (f := false) (x := x) (y := y)
  have hsa := @sub7 x hx (by rw [← hxt]; exact hNa) (by rw [← hxt]; exact hpa) (by rw [← hxt]; exact ha)
  have hsb := @sub7 y hy (by rw [← hyt]; exact hNb) (by rw [← hyt]; exact hpb) (by rw [← hyt]; exact hb)
  have hiff := ag_iff (f := false) hx hy (by rw [← hxt]; exact hNa) (by rw [← hyt]; exact hNb) (by rw [← hxt]; exact hpa)
  rw [← hxt] at hsa
  rw [← hyt] at hsb
  obtain ⟨v, hv⟩ : ∃ v, agX false x y = v := ⟨_, rfl⟩
  rw [hv] at hdyn hiff
  clear hxt hyt hpre
  simp only [Try.f33, Option.some.injEq] at hc
  subst hc
  refine Kl 3 (of_decide_eq_true (by kernel_rfl)) ?_
  by_cases hx0 : x.root.kind = 0
  · have hxb : (x.root.kind == 0) = true := by simp [hx0]
    have hv1 : v = true := hdyn (.inl hx0)
    (sym =>
     simp [hxb,hv1,tx,ty,hv,ka,kb,ea,eb,ra,rb,con1t.eq_def,Ur,Up,Us,Uo,szN,Uq,N4,M0,con_Agree7.eq_def,Zb,Zc,Zd,Ze,Zf,Zo,Zp,Zq,Zs,Zt,Zv,Zx,Zy,Qb,Qd,Qn,Qo,Qp,Qq,Qs,Q1,Q2,Q4,Q8,Jk,Jw,J2,J3,J4,J5,J7,J8,Xa,Xb,Xe,Xm,Xn,Xu,X2,X4,X5,X9,Wa,Wd,Wf,Wg,Wh,Wr,Ws,Wt,Wu,Ww,Wy,W4,W5,W6,W7,W8,W9,Yc,Yg,Yk,Yr,Yu,Yw,Yy,Yz,Y5,Y6,Y9,Va,Vb,Vc,Vd,Ve,Vh,Vq,Vr,Vs,V4,V5,Uh,Uj,Uk,Um,U2,U3,Kb]
     tactic =>
      try simp only [Uy] at *
      try simp only [nc2] at *
      try simp (maxSteps := 4000000) only [hxb,hv1,tx,ty,hv,ka,kb,ea,eb,ra,rb,con1t.eq_def,Ur,Up,Us,Uo,szN,Uq,U1]
      repeat' (first | with_reducible assumption | with_reducible refine And.intro ?_ ?_ | intro _ | omega | (rw [Ux]; omega)))
  have hxb : (x.root.kind == 0) = false := by simp [hx0]
  by_cases hy0 : y.root.kind = 0
  · have hyb : (y.root.kind == 0) = true := by simp [hy0]
    have hv1 : v = true := hdyn (.inr hy0)
    (sym =>
     simp [hxb,hyb,hv1,tx,ty,hv,ka,kb,ea,eb,ra,rb,con1t.eq_def,Ur,Up,Us,Uo,szN,Uq,N4,M0,con_Agree7.eq_def,Zb,Zc,Zd,Ze,Zf,Zo,Zp,Zq,Zs,Zt,Zv,Zx,Zy,Qb,Qd,Qn,Qo,Qp,Qq,Qs,Q1,Q2,Q4,Q8,Jk,Jw,J2,J3,J4,J5,J7,J8,Xa,Xb,Xe,Xm,Xn,Xu,X2,X4,X5,X9,Wa,Wd,Wf,Wg,Wh,Wr,Ws,Wt,Wu,Ww,Wy,W4,W5,W6,W7,W8,W9,Yc,Yg,Yk,Yr,Yu,Yw,Yy,Yz,Y5,Y6,Y9,Va,Vb,Vc,Vd,Ve,Vh,Vq,Vr,Vs,V4,V5,Uh,Ui,Uj,Uk,Um,U2,U3,Kb]
     tactic =>
      try simp only [Uy] at *
      try simp only [nc2] at *
      try simp (maxSteps := 4000000) only [hxb,hyb,hv1,tx,ty,hv,ka,kb,ea,eb,ra,rb,con1t.eq_def,Ur,Up,Us,Uo,szN,Uq,U1]
      repeat' (first | with_reducible assumption | with_reducible refine And.intro ?_ ?_ | intro _ | omega | (rw [Ux]; omega)))
  have hyb : (y.root.kind == 0) = false := by simp [hy0]
  specialize hiff hx0 hy0
  cases hal : alikeX x y with
  | false =>
    have hv1 : v = false := by
      rw [← Bool.not_eq_true]
      intro e
      have := (hiff.1 e).1
      rw [hal] at this
      cases this
    (sym =>
     simp [hxb,hyb,hal,hv1,tx,ty,hv,ka,kb,ea,eb,ra,rb,con1t.eq_def,Ur,Up,Us,Uo,szN,Uq,N4,Ls,M0,Lt,con_Agree7.eq_def,con_alike7.eq_def,con_kids7.eq_def,Zb,Zc,Zd,Ze,Zf,Zo,Zp,Zq,Zs,Zt,Zv,Zx,Zy,Z9,Qb,Qc,Qd,Qe,Qf,Qn,Qo,Qp,Qq,Qs,Q1,Q2,Q4,Q8,Jf,Jj,Jk,Jl,Jw,J2,J3,J4,J5,J7,J8,Xa,Xb,Xe,Xm,Xn,Xu,X1,X2,X4,X5,X9,Wa,Wd,Wf,Wg,Wh,Wr,Ws,Wt,Wu,Wv,Ww,Wx,Wy,W4,W5,W6,W7,W8,W9,Yc,Yd,Yg,Yh,Yk,Yr,Yu,Yw,Yy,Yz,Y5,Y6,Y9,Va,Vb,Vc,Vd,Ve,Vh,Vm,Vo,Vq,Vr,Vs,V4,V5,Uh,Ui,Uj,Uk,Ul,Um,U2,Ku,U3,Kb]
     tactic =>
      try simp only [Uy] at *
      try simp only [nc2] at *
      try simp (maxSteps := 4000000) only [hxb,hyb,hal,hv1,tx,ty,hv,ka,kb,ea,eb,ra,rb,con1t.eq_def,Ur,Up,Us,Uo,szN,Uq,U1]
      repeat' (first | with_reducible assumption | with_reducible refine And.intro ?_ ?_ | intro _ | omega | (rw [Ux]; omega)))
  | true =>
    have hll : x.kids.length = y.kids.length := by
      unfold alikeX at hal
      rw [Bool.and_eq_true, beq_iff_eq, beq_iff_eq] at hal
      have := congrArg List.length hal.2
      rw [Nv, Nv] at this
      exact this
    have pl : (parts x.kids).length = x.kids.length := Ph
    (sym =>
     simp [hxb,hyb,hal,tx,ty,hv,ka,kb,ea,eb,ra,rb,con1t.eq_def,Ur,Up,Us,Uo,szN,Uq,N4,Ls,M0,Lt,con_Agree7.eq_def,con_alike7.eq_def,con_kids7.eq_def,Zb,Zc,Zd,Ze,Zf,Zo,Zp,Zq,Zs,Zt,Zv,Zx,Zy,Z8,Z9,Qb,Qc,Qd,Qe,Qf,Qg,Qq,Qs,Q1,Q2,Q4,Q8,Q9,Ja,Jf,Jj,Jl,Jw,J2,J3,J4,J5,J7,J8,Xa,Xb,Xe,Xm,Xn,Xu,X1,X2,X4,X5,X6,X7,Wa,Wd,Wf,Wg,Wh,Wr,Ws,Wt,Wu,Wv,Ww,Wx,Wy,W4,W5,W6,W7,W8,W9,Yc,Yd,Yg,Yh,Yk,Yr,Yu,Yw,Yy,Yz,Y5,Y6,Y9,Va,Vb,Vc,Vd,Ve,Vh,Vm,Vn,Vq,Vr,Vs,V4,V5,Ui,Uj,Uk,Ul,Um,U2,Ku,U3,Kb]
     tactic =>
      try simp only [Uy] at *
      try simp only [nc2] at *
      try simp (maxSteps := 4000000) only [hxb,hyb,hal,tx,ty,hv,ka,kb,ea,eb,ra,rb,con1t.eq_def,Ur,Up,Us,Uo,szN,Uq,U1]
      repeat' (first | with_reducible assumption | with_reducible refine And.intro ?_ ?_ | intro _ | omega | (rw [Ux]; omega))
      refine Ke [4, 36, 37, 38, 39, 40, 41, 42, 43, 44, 45, 46, 47, 48, 49, 50, 51] (fun k : Nat => [(9, .d (.int .i64 k))]) (fun k : Nat => []) (fun k : Nat => k ≤ x.kids.length ∧ ∀ j, j < k → agX false (x.kids.getD j (mk n0 [])) (y.kids.getD j (mk n0 [])) = true) (fun k : Nat => x.kids.length - k) 0 ?_ ?_ ?_
      · simp
      · ((try simp only [Uz, killAll, setSlots, updAll, upd, U9, setCs, putC, Nat.reduceDiv, Nat.reduceMod, Nat.reduceMul, Nat.reduceAdd, Nat.reduceEqDiff, List.set_cons_zero, List.set_cons_succ, if_true, if_false, reduceIte]); (first | refine Wk.of_fl ?_ | skip); simp only [Wk, wkK, wkCs, wkT, wk1, AV.kept, keptAll, wkO, lk, wkObj, and_true, true_and, and_self, Nat.reduceEqDiff, Nat.reduceLeDiff, if_true, if_false, reduceIte, reduceCtorEq, Option.isSome, false_implies]; try simp [Wk, wkK, wkT, wk1, AV.kept, keptAll, wkO, lk, wkObj])
      rintro k ⟨hkk, hno⟩
      rcases Kf k x.kids.length with ⟨hlt, hltb⟩ | ⟨hlt, hltb⟩
      · obtain ⟨u1, u2, u3, u4⟩ := hsa hlt
        obtain ⟨w1, w2, w3, w4⟩ := hsb (show k < y.kids.length by omega)
        have q1 := U8 (⟨[]⟩ : Sl Node) (show k < (parts x.kids).length by omega)
        have q2 := U8 (⟨[]⟩ : Sl Node) (show k < (parts y.kids).length by rw [Ph]; omega)
        rw [Rj hlt] at q1
        rw [Rj (show k < y.kids.length by omega)] at q2
        have hag := agX_clr (f := false) (x := x.kids.getD k (mk n0 [])) (y := y.kids.getD k (mk n0 []))
        have pl2 : (parts y.kids).length = y.kids.length := Ph
        cases hr : agX false (x.kids.getD k (mk n0 [])) (y.kids.getD k (mk n0 [])) with
        | false =>
          have hv1 : v = false := by
            rw [← Bool.not_eq_true]
            intro e
            have := (hiff.1 e).2 k hlt
            rw [hr] at this
            cases this
          rw [hr] at hag
          (sym =>
           simp [hltb,pl,pl2,q1,q2,u4,w4,hag,hv1,tx,ty,hv,ka,kb,ea,eb,ra,rb,con1t.eq_def,Ur,Up,Us,Uo,szN,Uq,N4,Ls,M0,Lt,A6,con_Agree7.eq_def,con_alike7.eq_def,con_kids7.eq_def,Zb,Zc,Ze,Zf,Zg,Zh,Zi,Zj,Zk,Zl,Zm,Zo,Zp,Zq,Zv,Zy,Z6,Z9,Qb,Qc,Qd,Qe,Qf,Qn,Qo,Qp,Qq,Qr,Qs,Q1,Q2,Q4,Q5,Q6,Q8,Jf,Jj,Jk,Jl,Jx,Jy,Jz,J4,J5,J6,J7,J8,J9,Xa,Xb,Xe,Xu,X1,X2,X3,X4,X5,X6,X9,Wa,Wb,Wc,Wd,We,Wf,Wg,Wh,Wn,Wo,Wp,Wq,Wr,Ws,Wt,Wu,Wv,Wx,Wy,W0,W3,W8,W9,Yb,Yc,Yd,Yg,Yh,Yk,Yw,Yy,Yz,Y1,Y4,Y5,Y6,Y7,Y8,Va,Vh,Vm,Vo,Vp,Vr,Vs,V5,Uh,Ui,Uj,Uk,Ul,Um,Un,U2,Ku,U3,K7]
           tactic =>
            try simp only [Uy] at *
            try simp only [nc2] at *
            try simp (maxSteps := 4000000) only [hltb,pl,pl2,q1,q2,u4,w4,hag,hv1,tx,ty,hv,ka,kb,ea,eb,ra,rb,con1t.eq_def,Ur,Up,Us,Uo,szN,Uq,U1]
            repeat' (first | with_reducible assumption | with_reducible refine And.intro ?_ ?_ | intro _ | omega | (rw [Ux]; omega))
            all_goals first
              | assumption
              | (with_reducible refine Kh ?_; kernel_rfl)
              | omega)
        | true =>
          rw [hr] at hag
          (sym =>
           simp [hltb,pl,pl2,q1,q2,u4,w4,hag,tx,ty,hv,ka,kb,ea,eb,ra,rb,con1t.eq_def,Ur,Up,Us,Uo,szN,Uq,N4,Ls,Lt,A6,con_Agree7.eq_def,con_alike7.eq_def,con_kids7.eq_def,Zb,Zc,Ze,Zf,Zg,Zh,Zi,Zj,Zk,Zl,Zm,Zo,Zp,Zq,Zv,Zy,Z6,Z9,Qb,Qc,Qd,Qe,Qf,Qq,Qr,Qs,Q1,Q2,Q4,Q5,Q6,Q8,Jf,Jj,Jl,Jx,Jy,Jz,J4,J5,J6,J7,J8,J9,Xa,Xb,Xe,Xu,X1,X2,X3,X4,X5,X6,Wa,Wb,Wc,Wd,We,Wf,Wg,Wh,Wn,Wo,Wp,Wq,Wr,Ws,Wt,Wu,Wv,Wx,Wy,W0,W3,W8,W9,Yb,Yc,Yd,Yg,Yh,Yk,Yw,Yy,Yz,Y1,Y4,Y5,Y6,Y7,Y8,Va,Vh,Vm,Vn,Vp,Vr,Vs,V4,Uh,Ui,Uj,Uk,Ul,Um,Un,U2,Ku,U3,K7]
           tactic =>
            try simp only [Uy] at *
            try simp only [nc2] at *
            try simp (maxSteps := 4000000) only [hltb,pl,pl2,q1,q2,u4,w4,hag,tx,ty,hv,ka,kb,ea,eb,ra,rb,con1t.eq_def,Ur,Up,Us,Uo,szN,Uq,U1]
            repeat' (first | with_reducible assumption | with_reducible refine And.intro ?_ ?_ | intro _ | omega | (rw [Ux]; omega))
            all_goals first
              | assumption
              | (with_reducible refine Kh ?_; kernel_rfl)
              | omega
              | (refine ⟨k + 1, by ((try simp only [Uz, killAll, setSlots, updAll, upd, U9, setCs, putC, Nat.reduceDiv, Nat.reduceMod, Nat.reduceMul, Nat.reduceAdd, Nat.reduceEqDiff, List.set_cons_zero, List.set_cons_succ, if_true, if_false, reduceIte]); (first | refine Wk.of_fl ?_ | skip); simp only [Wk, wkK, wkCs, wkT, wk1, AV.kept, keptAll, wkO, lk, wkObj, and_true, true_and, and_self, Nat.reduceEqDiff, Nat.reduceLeDiff, if_true, if_false, reduceIte, reduceCtorEq, Option.isSome, false_implies]; try simp [Wk, wkK, wkT, wk1, AV.kept, keptAll, wkO, lk, wkObj]), by omega, fun j hj => ?_, by omega⟩
                 by_cases hjk : j = k
                 · subst hjk; exact hr
                 · exact hno j (by omega)))
      · have hv1 : v = true := hiff.2 ⟨hal, fun j hj => hno j (by omega)⟩
        (sym =>
         simp [hltb,pl,hv1,tx,ty,hv,ka,kb,ea,eb,ra,rb,con1t.eq_def,Ur,Up,Us,Uo,szN,Uq,N4,M0,Zb,Zc,Ze,Zf,Zg,Zo,Z6,Qb,Qd,Qn,Qo,Qp,Qq,Qs,Q1,Q2,Q4,Q8,Jk,Jx,Jy,Jz,J4,J5,J7,J8,J9,Xa,Xb,Xe,X2,X4,X5,X8,X9,Wa,Wd,Wf,Wg,Wh,Wr,Ws,Wt,Wu,W8,W9,Yb,Yc,Yg,Yy,Yz,Y4,Y5,Y6,Y7,Y8,Vr,Vs,V5,Ui,Uj,Uk,Ul,Um,U2,U3,K7]))
end Go.Am.Ty
set_option linter.unusedSimpArgs false
set_option linter.unusedVariables false
set_option maxHeartbeats 1000000
namespace Go.Am.Ty
open Go.Proofs Go.Rose Go.Rose.Rose
open Enc (enc dec)
noncomputable def con_Below7 (n : Nat) : Con := con2 (fun (a b : Sl Node) => Tree7 a.l ∧ Tree7 b.l ∧ plain3 a.l = true ∧ plain3 b.l = true ∧ a.l.length < n) (fun a b => agX true (treeAt ar a.l 0) (treeAt ar b.l 0))
theorem con_Below7_zero : ∀ c, ¬ (con_Below7 0).pre c := by
  intro c h
  unfold con_Below7 at h
  obtain ⟨_, _, _, _, _, _, _, h⟩ := Kj h
  omega
noncomputable def ctx_Below7 (n : Nat) : Ctx := ⟨tab, lkC [(60, con_alike7), (61, con_kids7), (36, (con_Below7 n))], 60, lkB [], [], false⟩
theorem N3 (n : Nat) : (ctx_Below7 n).τ = tab := rfl
theorem Lq (n : Nat) : (ctx_Below7 n).Γ = lkC [(60, con_alike7), (61, con_kids7), (36, (con_Below7 n))] := rfl
theorem Mz (n : Nat) : (ctx_Below7 n).dp = 60 := rfl
theorem Lr (n : Nat) : (ctx_Below7 n).Δ = lkB [] := rfl
theorem A5 (n : Nat) : (ctx_Below7 n).wr = false := rfl
set_option maxRecDepth 100000 in
theorem step_Below7 (n : Nat) (ih : Good Try.prog (36, con_Below7 n)) : Good Try.prog (36, (con_Below7 (n + 1))) := by
  refine ⟨U0 Try.func36 (by kernel_rfl) rfl, ?_⟩
  have K : CtxOk Try.prog (ctx_Below7 n) := U4 Ki Ka (by
    intro p hp
    simp only [List.mem_cons, List.not_mem_nil, or_false] at hp
    rcases hp with rfl | rfl | rfl
    · exact O1
    · exact Fi
    · exact ih) (by simp)
  obtain ⟨c, hc⟩ : ∃ c, Try.f36.body = some c := ⟨_, rfl⟩
  refine U5 K Try.func36 hc [.tmp 4] rfl 52 rfl (fun cvs hpre => ?_)
  change (con_Below7 (n + 1)).pre cvs at hpre
  unfold con_Below7 at hpre
  obtain ⟨⟨a⟩, ⟨b⟩, rfl, hTa, hTb, hpa, hpb, hn⟩ := Kj hpre
  have pa : Tree7 a := hTa
  have pb : Tree7 b := hTb
  obtain ⟨ha, hNa, x, hxt, hx⟩ : Tree7 a := hTa
  obtain ⟨hb, hNb, y, hyt, hy⟩ : Tree7 b := hTb
  simp only at hpa hpb hn
  have aa : At ar a 0 x := by rw [hxt]; exact Ni hx
  have ab : At ar b 0 y := by rw [hyt]; exact Ni hy
  have tx : treeAt ar a 0 = x := Ga aa
  have ty : treeAt ar b 0 = y := Ga ab
  have la := aa.lt
  have lb := ab.lt
  have ka := Ti aa
  have kb := Ti ab
  have ea := U8 n0 la
  have eb := U8 n0 lb
  have ra : a.getD 0 n0 = x.root := aa.root n0
  have rb : b.getD 0 n0 = y.root := ab.root n0
  have lla := labs_le aa
  rw [Nv] at lla
  have hdyn := Ig (f := true) (x := x) (y := y)
  have hsa := @sub7 x hx (by rw [← hxt]; exact hNa) (by rw [← hxt]; exact hpa) (by rw [← hxt]; exact ha)
  have hsb := @sub7 y hy (by rw [← hyt]; exact hNb) (by rw [← hyt]; exact hpb) (by rw [← hyt]; exact hb)
  have hiff := ag_iff (f := true) hx hy (by rw [← hxt]; exact hNa) (by rw [← hyt]; exact hNb) (by rw [← hxt]; exact hpa)
  rw [← hxt] at hsa
  rw [← hyt] at hsb
  obtain ⟨v, hv⟩ : ∃ v, agX true x y = v := ⟨_, rfl⟩
  rw [hv] at hdyn hiff
  clear hxt hyt hpre
  simp only [Try.f36, Option.some.injEq] at hc
  subst hc
  refine Kl 3 (of_decide_eq_true (by kernel_rfl)) ?_
  by_cases hy0 : y.root.kind = 0
  · have hyb : (y.root.kind == 0) = true := by simp [hy0]
    have hv1 : v = true := by rw [hdyn (.inr hy0)]; simp [askB, hy0]
    (sym =>
     simp [hyb,hv1,tx,ty,hv,ka,kb,ea,eb,ra,rb,con1t.eq_def,Ur,Up,Us,Uo,szN,Uq,N3,Mz,con_Below7.eq_def,Zb,Zc,Ze,Zf,Zo,Zp,Zq,Zs,Zv,Zx,Zy,Qb,Qd,Qn,Qo,Qp,Qq,Qs,Q1,Q2,Q4,Q8,Jk,Jw,J2,J3,J4,J5,J7,Xa,Xe,Xm,Xn,Xu,X2,X4,X5,X9,Wa,Wd,Wf,Wg,Wh,Wr,Ws,Wt,Wu,Ww,Wy,W4,W5,W6,W8,W9,Yc,Yg,Yk,Yr,Yu,Yw,Yy,Yz,Y5,Y6,Y9,Va,Vb,Vc,Vd,Ve,Vh,Vq,Vr,Vs,V4,V5,Uh,Uj,Uk,Um,U2,U3,Kb]
     tactic =>
      try simp only [Uy] at *
      try simp only [nc2] at *
      try simp (maxSteps := 4000000) only [hyb,hv1,tx,ty,hv,ka,kb,ea,eb,ra,rb,con1t.eq_def,Ur,Up,Us,Uo,szN,Uq,U1]
      repeat' (first | with_reducible assumption | with_reducible refine And.intro ?_ ?_ | intro _ | omega | (rw [Ux]; omega)))
  have hyb : (y.root.kind == 0) = false := by simp [hy0]
  by_cases hx0 : x.root.kind = 0
  · have hxb : (x.root.kind == 0) = true := by simp [hx0]
    have hv1 : v = false := by rw [hdyn (.inl hx0)]; simp [askB, hy0]
    (sym =>
     simp [hxb,hyb,hv1,tx,ty,hv,ka,kb,ea,eb,ra,rb,con1t.eq_def,Ur,Up,Us,Uo,szN,Uq,N3,Mz,con_Below7.eq_def,Zb,Zc,Zd,Ze,Zf,Zo,Zp,Zq,Zs,Zt,Zv,Zx,Zy,Qb,Qd,Qn,Qo,Qp,Qq,Qs,Q1,Q2,Q4,Q8,Jk,Jw,J2,J3,J4,J5,J7,J8,Xa,Xb,Xe,Xm,Xn,Xu,X1,X2,X4,X5,X9,Wa,Wd,Wf,Wg,Wh,Wr,Ws,Wt,Wu,Ww,Wy,W4,W5,W6,W7,W8,W9,Yc,Yg,Yk,Yr,Yu,Yw,Yy,Yz,Y5,Y6,Y9,Va,Vb,Vc,Vd,Ve,Vh,Vq,Vr,Vs,V4,V5,Uh,Ui,Uj,Uk,Um,U2,U3,Kb]
     tactic =>
      try simp only [Uy] at *
      try simp only [nc2] at *
      try simp (maxSteps := 4000000) only [hxb,hyb,hv1,tx,ty,hv,ka,kb,ea,eb,ra,rb,con1t.eq_def,Ur,Up,Us,Uo,szN,Uq,U1]
      repeat' (first | with_reducible assumption | with_reducible refine And.intro ?_ ?_ | intro _ | omega | (rw [Ux]; omega)))
  have hxb : (x.root.kind == 0) = false := by simp [hx0]
  have hyb : (y.root.kind == 0) = false := by simp [hy0]
  specialize hiff hx0 hy0
  cases hal : alikeX x y with
  | false =>
    have hv1 : v = false := by
      rw [← Bool.not_eq_true]
      intro e
      have := (hiff.1 e).1
      rw [hal] at this
      cases this
    (sym =>
     simp [hxb,hyb,hal,hv1,tx,ty,hv,ka,kb,ea,eb,ra,rb,con1t.eq_def,Ur,Up,Us,Uo,szN,Uq,N3,Lq,Mz,Lr,con_Below7.eq_def,con_alike7.eq_def,con_kids7.eq_def,Zb,Zc,Zd,Ze,Zf,Zo,Zp,Zq,Zs,Zt,Zv,Zx,Zy,Z9,Qb,Qc,Qd,Qe,Qf,Qn,Qo,Qp,Qq,Qs,Q1,Q2,Q4,Q8,Jf,Jj,Jk,Jl,Jw,J2,J3,J4,J5,J7,J8,Xa,Xb,Xe,Xm,Xn,Xu,X1,X2,X4,X5,X9,Wa,Wd,Wf,Wg,Wh,Wr,Ws,Wt,Wu,Wv,Ww,Wx,Wy,W4,W5,W6,W7,W8,W9,Yc,Yd,Yg,Yh,Yk,Yr,Yu,Yw,Yy,Yz,Y5,Y6,Y9,Va,Vb,Vc,Vd,Ve,Vh,Vm,Vo,Vq,Vr,Vs,V4,V5,Uh,Ui,Uj,Uk,Ul,Um,U2,Ku,U3,Kb]
     tactic =>
      try simp only [Uy] at *
      try simp only [nc2] at *
      try simp (maxSteps := 4000000) only [hxb,hyb,hal,hv1,tx,ty,hv,ka,kb,ea,eb,ra,rb,con1t.eq_def,Ur,Up,Us,Uo,szN,Uq,U1]
      repeat' (first | with_reducible assumption | with_reducible refine And.intro ?_ ?_ | intro _ | omega | (rw [Ux]; omega)))
  | true =>
    have hll : x.kids.length = y.kids.length := by
      unfold alikeX at hal
      rw [Bool.and_eq_true, beq_iff_eq, beq_iff_eq] at hal
      have := congrArg List.length hal.2
      rw [Nv, Nv] at this
      exact this
    have pl : (parts x.kids).length = x.kids.length := Ph
    (sym =>
     simp [hxb,hyb,hal,tx,ty,hv,ka,kb,ea,eb,ra,rb,con1t.eq_def,Ur,Up,Us,Uo,szN,Uq,N3,Lq,Mz,Lr,con_Below7.eq_def,con_alike7.eq_def,con_kids7.eq_def,Zb,Zc,Zd,Ze,Zf,Zo,Zp,Zq,Zs,Zt,Zv,Zx,Zy,Z8,Z9,Qb,Qc,Qd,Qe,Qf,Qg,Qq,Qs,Q1,Q2,Q4,Q8,Q9,Ja,Jf,Jj,Jl,Jw,J2,J3,J4,J5,J7,J8,Xa,Xb,Xe,Xm,Xn,Xu,X1,X2,X4,X5,X6,X7,Wa,Wd,Wf,Wg,Wh,Wr,Ws,Wt,Wu,Wv,Ww,Wx,Wy,W4,W5,W6,W7,W8,W9,Yc,Yd,Yg,Yh,Yk,Yr,Yu,Yw,Yy,Yz,Y5,Y6,Y9,Va,Vb,Vc,Vd,Ve,Vh,Vm,Vn,Vq,Vr,Vs,V4,V5,Ui,Uj,Uk,Ul,Um,U2,Ku,U3,Kb]
     tactic =>
      try simp only [Uy] at *
      try simp only [nc2] at *
      try simp (maxSteps := 4000000) only [hxb,hyb,hal,tx,ty,hv,ka,kb,ea,eb,ra,rb,con1t.eq_def,Ur,Up,Us,Uo,szN,Uq,U1]
      repeat' (first | with_reducible assumption | with_reducible refine And.intro ?_ ?_ | intro _ | omega | (rw [Ux]; omega))
      refine Ke [4, 36, 37, 38, 39, 40, 41, 42, 43, 44, 45, 46, 47, 48, 49, 50, 51] (fun k : Nat => [(9, .d (.int .i64 k))]) (fun k : Nat => []) (fun k : Nat => k ≤ x.kids.length ∧ ∀ j, j < k → agX true (x.kids.getD j (mk n0 [])) (y.kids.getD j (mk n0 [])) = true) (fun k : Nat => x.kids.length - k) 0 ?_ ?_ ?_
      · simp
      · ((try simp only [Uz, killAll, setSlots, updAll, upd, U9, setCs, putC, Nat.reduceDiv, Nat.reduceMod, Nat.reduceMul, Nat.reduceAdd, Nat.reduceEqDiff, List.set_cons_zero, List.set_cons_succ, if_true, if_false, reduceIte]); (first | refine Wk.of_fl ?_ | skip); simp only [Wk, wkK, wkCs, wkT, wk1, AV.kept, keptAll, wkO, lk, wkObj, and_true, true_and, and_self, Nat.reduceEqDiff, Nat.reduceLeDiff, if_true, if_false, reduceIte, reduceCtorEq, Option.isSome, false_implies]; try simp [Wk, wkK, wkT, wk1, AV.kept, keptAll, wkO, lk, wkObj])
      rintro k ⟨hkk, hno⟩
      rcases Kf k x.kids.length with ⟨hlt, hltb⟩ | ⟨hlt, hltb⟩
      · obtain ⟨u1, u2, u3, u4⟩ := hsa hlt
        obtain ⟨w1, w2, w3, w4⟩ := hsb (show k < y.kids.length by omega)
        have q1 := U8 (⟨[]⟩ : Sl Node) (show k < (parts x.kids).length by omega)
        have q2 := U8 (⟨[]⟩ : Sl Node) (show k < (parts y.kids).length by rw [Ph]; omega)
        rw [Rj hlt] at q1
        rw [Rj (show k < y.kids.length by omega)] at q2
        have hag := agX_clr (f := true) (x := x.kids.getD k (mk n0 [])) (y := y.kids.getD k (mk n0 []))
        have pl2 : (parts y.kids).length = y.kids.length := Ph
        cases hr : agX true (x.kids.getD k (mk n0 [])) (y.kids.getD k (mk n0 [])) with
        | false =>
          have hv1 : v = false := by
            rw [← Bool.not_eq_true]
            intro e
            have := (hiff.1 e).2 k hlt
            rw [hr] at this
            cases this
          rw [hr] at hag
          (sym =>
           simp [hltb,pl,pl2,q1,q2,u4,w4,hag,hv1,tx,ty,hv,ka,kb,ea,eb,ra,rb,con1t.eq_def,Ur,Up,Us,Uo,szN,Uq,N3,Lq,Mz,Lr,A5,con_Below7.eq_def,con_alike7.eq_def,con_kids7.eq_def,Zb,Zc,Ze,Zf,Zg,Zh,Zi,Zj,Zk,Zl,Zm,Zo,Zp,Zq,Zv,Zy,Z6,Z9,Qb,Qc,Qd,Qe,Qf,Qn,Qo,Qp,Qq,Qr,Qs,Q1,Q2,Q4,Q5,Q6,Q8,Jf,Jj,Jk,Jl,Jx,Jy,Jz,J4,J5,J6,J7,J8,J9,Xa,Xb,Xe,Xu,X1,X2,X3,X4,X5,X6,X9,Wa,Wb,Wc,Wd,We,Wf,Wg,Wh,Wn,Wo,Wp,Wq,Wr,Ws,Wt,Wu,Wv,Wx,Wy,W0,W3,W8,W9,Yb,Yc,Yd,Yg,Yh,Yk,Yw,Yy,Yz,Y1,Y4,Y5,Y6,Y7,Y8,Va,Vh,Vm,Vo,Vp,Vr,Vs,V5,Uh,Ui,Uj,Uk,Ul,Um,Un,U2,Ku,U3,K7]
           tactic =>
            try simp only [Uy] at *
            try simp only [nc2] at *
            try simp (maxSteps := 4000000) only [hltb,pl,pl2,q1,q2,u4,w4,hag,hv1,tx,ty,hv,ka,kb,ea,eb,ra,rb,con1t.eq_def,Ur,Up,Us,Uo,szN,Uq,U1]
            repeat' (first | with_reducible assumption | with_reducible refine And.intro ?_ ?_ | intro _ | omega | (rw [Ux]; omega))
            all_goals first
              | assumption
              | (with_reducible refine Kh ?_; kernel_rfl)
              | omega)
        | true =>
          rw [hr] at hag
          (sym =>
           simp [hltb,pl,pl2,q1,q2,u4,w4,hag,tx,ty,hv,ka,kb,ea,eb,ra,rb,con1t.eq_def,Ur,Up,Us,Uo,szN,Uq,N3,Lq,Lr,A5,con_Below7.eq_def,con_alike7.eq_def,con_kids7.eq_def,Zb,Zc,Ze,Zf,Zg,Zh,Zi,Zj,Zk,Zl,Zm,Zo,Zp,Zq,Zv,Zy,Z6,Z9,Qb,Qc,Qd,Qe,Qf,Qq,Qr,Qs,Q1,Q2,Q4,Q5,Q6,Q8,Jf,Jj,Jl,Jx,Jy,Jz,J4,J5,J6,J7,J8,J9,Xa,Xb,Xe,Xu,X1,X2,X3,X4,X5,X6,Wa,Wb,Wc,Wd,We,Wf,Wg,Wh,Wn,Wo,Wp,Wq,Wr,Ws,Wt,Wu,Wv,Wx,Wy,W0,W3,W8,W9,Yb,Yc,Yd,Yg,Yh,Yk,Yw,Yy,Yz,Y1,Y4,Y5,Y6,Y7,Y8,Va,Vh,Vm,Vn,Vp,Vr,Vs,V4,Uh,Ui,Uj,Uk,Ul,Um,Un,U2,Ku,U3,K7]
           tactic =>
            try simp only [Uy] at *
            try simp only [nc2] at *
            try simp (maxSteps := 4000000) only [hltb,pl,pl2,q1,q2,u4,w4,hag,tx,ty,hv,ka,kb,ea,eb,ra,rb,con1t.eq_def,Ur,Up,Us,Uo,szN,Uq,U1]
            repeat' (first | with_reducible assumption | with_reducible refine And.intro ?_ ?_ | intro _ | omega | (rw [Ux]; omega))
            all_goals first
              | assumption
              | (with_reducible refine Kh ?_; kernel_rfl)
              | omega
              | (refine ⟨k + 1, by ((try simp only [Uz, killAll, setSlots, updAll, upd, U9, setCs, putC, Nat.reduceDiv, Nat.reduceMod, Nat.reduceMul, Nat.reduceAdd, Nat.reduceEqDiff, List.set_cons_zero, List.set_cons_succ, if_true, if_false, reduceIte]); (first | refine Wk.of_fl ?_ | skip); simp only [Wk, wkK, wkCs, wkT, wk1, AV.kept, keptAll, wkO, lk, wkObj, and_true, true_and, and_self, Nat.reduceEqDiff, Nat.reduceLeDiff, if_true, if_false, reduceIte, reduceCtorEq, Option.isSome, false_implies]; try simp [Wk, wkK, wkT, wk1, AV.kept, keptAll, wkO, lk, wkObj]), by omega, fun j hj => ?_, by omega⟩
                 by_cases hjk : j = k
                 · subst hjk; exact hr
                 · exact hno j (by omega)))
      · have hv1 : v = true := hiff.2 ⟨hal, fun j hj => hno j (by omega)⟩
        (sym =>
         simp [hltb,pl,hv1,tx,ty,hv,ka,kb,ea,eb,ra,rb,con1t.eq_def,Ur,Up,Us,Uo,szN,Uq,N3,Mz,Zb,Zc,Ze,Zf,Zg,Zo,Z6,Qb,Qd,Qn,Qo,Qp,Qq,Qs,Q1,Q2,Q4,Q8,Jk,Jx,Jy,Jz,J4,J5,J7,J8,J9,Xa,Xb,Xe,X2,X4,X5,X8,X9,Wa,Wd,Wf,Wg,Wh,Wr,Ws,Wt,Wu,W8,W9,Yb,Yc,Yg,Yy,Yz,Y4,Y5,Y6,Y7,Y8,Vr,Vs,V5,Ui,Uj,Uk,Ul,Um,U2,U3,K7]))
end Go.Am.Ty
set_option linter.unusedSimpArgs false
set_option linter.unusedVariables false
set_option maxHeartbeats 1000000
namespace Go.Am.Ty
open Go.Proofs Go.Rose Go.Rose.Rose
open Enc (enc dec)
structure Fn0 (f : Nat) where
instance encFn0 (f : Nat) : Enc (Fn0 f) := ⟨fun _ => .clo f [], fun _ => ⟨⟩, fun _ => rfl⟩
theorem M6 {f : Nat} {a : Fn0 f} : (enc a : D) = .clo f [] := rfl
theorem D8 {f : Nat} : isE (Fn0 f) (.clo f []) = True := eq_true rfl
def same1 (x y : Node) : Bool := norm x == norm y
def con_SameN : Con := con2 (fun (_ _ : Node) => True) same1
noncomputable def ctx_SameN : Ctx := ⟨tab, lkC [], 60, lkB [], [], false⟩
theorem ctx_SameN_t : ctx_SameN.τ = tab := rfl
theorem ctx_SameN_d : ctx_SameN.dp = 60 := rfl
theorem good_SameN : Good Try.prog (90, con_SameN) := by
  refine ⟨U0 Try.func90 (by kernel_rfl) rfl, ?_⟩
  have K : CtxOk Try.prog ctx_SameN := U4 Ki Ka (by simp) (by simp)
  obtain ⟨c, hc⟩ : ∃ c, Try.f90.body = some c := ⟨_, rfl⟩
  refine U5 K Try.func90 hc [.tmp 4] rfl 21 rfl (fun cvs hpre => ?_)
  change con_SameN.pre cvs at hpre
  unfold con_SameN at hpre
  obtain ⟨x, y, rfl, -⟩ := Kj hpre
  simp only [Try.f90, Option.some.injEq] at hc
  subst hc
  (sym =>
   simp [Ur,Up,Us,Uo,szN,Uq,ctx_SameN_t,ctx_SameN_d,con_SameN.eq_def,Za,Zb,Zc,Zd,Ze,Zf,Zo,Zp,Zq,Zs,Zt,Zu,Zv,Zx,Qb,Qd,Qh,Ql,Qm,Qn,Qo,Qp,Qq,Qs,Qy,Qz,Q0,Q1,Q2,Q4,Q8,Ja,Jh,Ji,Jk,Jr,Jw,J2,J3,Xe,Xr,Xu,Xx,Xy,Xz,X0,X1,X2,X4,X5,X9,Wa,Wd,Wf,Wg,Wh,Wm,Wr,Ws,Wt,Wu,Ww,Wy,W0,W3,W4,W5,W6,W7,Yc,Ye,Yg,Yi,Yo,Yw,Y5,Y6,Y7,Y8,Y9,Va,Vb,Vc,Ve,V4,V5,V9,Uh,Ui,Uj,Uk,U2,Gr,Kb]
   tactic =>
    try simp only [Uy] at *
    try simp only [nc2] at *
    try simp (maxSteps := 4000000) only [Ur,Up,Us,Uo,szN,Uq,U1]
    repeat' (first | with_reducible assumption | with_reducible refine And.intro ?_ ?_ | intro _ | omega | (rw [Ux]; omega))
    all_goals
      unfold same1
      rw [Bool.eq_iff_iff]
      simp only [beq_iff_eq]
      unfold norm
      obtain ⟨xk, xn, xm⟩ := x
      obtain ⟨yk, yn, ym⟩ := y
      simp only at *
      repeat' split
      all_goals
        first
          | (simp only [Node.mk.injEq]; done)
          | (simp only [Node.mk.injEq]; constructor <;> (intro h; simp_all)))
def con_equalNodes : Con := con3 (fun (a b : Sl Node) (_ : Fn0 90) => a.l.length ≤ 9223372036854775807 ∧ b.l.length ≤ 9223372036854775807) (fun a b _ => same3 a.l b.l)
noncomputable def ctx_equalNodes : Ctx := ⟨tab, lkC [(90, con_SameN)], 60, lkB [], [], false⟩
theorem Mt : ctx_equalNodes.τ = tab := rfl
theorem Tp : ctx_equalNodes.Γ = lkC [(90, con_SameN)] := rfl
theorem Mu : ctx_equalNodes.dp = 60 := rfl
theorem Tq : ctx_equalNodes.Δ = lkB [] := rfl
theorem Ob : ctx_equalNodes.wr = false := rfl
set_option maxRecDepth 100000 in
theorem good_equalNodes : Good Try.prog (89, con_equalNodes) := by
  refine ⟨U0 Try.func89 (by kernel_rfl) rfl, ?_⟩
  have K : CtxOk Try.prog ctx_equalNodes := U4 Ki Ka (by
    intro p hp
    simp only [List.mem_cons, List.not_mem_nil, or_false] at hp
    rcases hp with rfl
    · exact good_SameN) (by simp)
  obtain ⟨c, hc⟩ : ∃ c, Try.f89.body = some c := ⟨_, rfl⟩
  refine U5 K Try.func89 hc [.tmp 6] rfl 32 rfl (fun cvs hpre => ?_)
  change con_equalNodes.pre cvs at hpre
  unfold con_equalNodes at hpre
  obtain ⟨⟨a⟩, ⟨b⟩, f, rfl, ha, hb⟩ := P3 hpre
  simp only at ha hb
  simp only [Try.f89, Option.some.injEq] at hc
  subst hc
  refine Kl 2 (of_decide_eq_true (by kernel_rfl)) ?_
  (sym =>
   simp [M6,Ur,Up,Us,Uo,szN,Uq,Mt,Mu,con_equalNodes.eq_def,Zb,Zc,Ze,Zf,Zo,Z6,Qb,Qd,Qn,Qo,Qp,Qq,Qs,Q1,Q2,Q4,Q8,Jk,Jw,J2,J3,J4,J5,J7,Xa,Xb,Xe,Xm,Xn,Xv,X1,X2,X4,X5,X6,X7,X9,Wa,Wd,Wf,Wg,Wh,Wr,Ws,Wt,Wu,Ww,Wy,W4,W5,W8,W9,Yc,Yg,Yw,Yy,Yz,Y5,Y6,Y9,Va,Vb,Vc,Vd,Ve,Vh,Vr,Vs,V4,V5,Uj,Uk,Um,U2,U3,Kb]
   tactic =>
    try simp only [Uy] at *
    try simp only [nc2] at *
    try simp (maxSteps := 4000000) only [M6,Ur,Up,Us,Uo,szN,Uq,U1]
    refine ⟨fun hne => ?_, fun heq => ?_⟩
    · symm
      unfold same3
      rw [beq_eq_false_iff_ne]
      intro h
      have := congrArg List.length h
      rw [List.length_map, List.length_map] at this
      exact hne (by rw [this])
    have hlen : a.length = b.length := by omega
    refine Ke [6, 7, 8, 9, 18, 19, 20, 21, 22, 23, 24, 25, 26, 27, 28, 29, 30, 31] (fun k : Nat => [(17, .d (.int .i64 k))]) (fun k : Nat => []) (fun k : Nat => k ≤ a.length ∧ ∀ j, j < k → norm (a.getD j ⟨0, [], 0⟩) = norm (b.getD j ⟨0, [], 0⟩)) (fun k : Nat => a.length - k) 0 ?_ ?_ ?_
    · simp
    · ((try simp only [Uz, killAll, setSlots, updAll, upd, U9, setCs, putC, Nat.reduceDiv, Nat.reduceMod, Nat.reduceMul, Nat.reduceAdd, Nat.reduceEqDiff, List.set_cons_zero, List.set_cons_succ, if_true, if_false, reduceIte]); (first | refine Wk.of_fl ?_ | skip); simp only [Wk, wkK, wkCs, wkT, wk1, AV.kept, keptAll, wkO, lk, wkObj, and_true, true_and, and_self, Nat.reduceEqDiff, Nat.reduceLeDiff, if_true, if_false, reduceIte, reduceCtorEq, Option.isSome, false_implies]; try simp [Wk, wkK, wkT, wk1, AV.kept, keptAll, wkO, lk, wkObj])
    rintro k ⟨hk, hno⟩
    rcases Kf k a.length with ⟨hlt, hlb⟩ | ⟨hlt, hlb⟩
    · have q1 := U8 (⟨0, [], 0⟩ : Node) hlt
      have q2 := U8 (⟨0, [], 0⟩ : Node) (show k < b.length by omega)
      cases hs : same1 (a.getD k ⟨0, [], 0⟩) (b.getD k ⟨0, [], 0⟩) with
      | false =>
        have hbad : false = same3 a b := by
          symm
          unfold same3
          rw [beq_eq_false_iff_ne]
          intro e
          unfold same1 at hs
          rw [beq_eq_false_iff_ne] at hs
          apply hs
          have h1 : (a.map norm).getD k ⟨0, [], 0⟩ = (b.map norm).getD k ⟨0, [], 0⟩ := by rw [e]
          simpa [hlt, show k < b.length by omega] using h1
        (sym =>
         simp [hlb,q1,q2,hs,M6,Ur,Up,Us,Uo,szN,Uq,Mt,Tp,Mu,Tq,con_SameN.eq_def,Zb,Zc,Ze,Zf,Zg,Zo,Zp,Zq,Zu,Zv,Zw,Zy,Z9,Qa,Qb,Qc,Qd,Qe,Qf,Qh,Qk,Ql,Qn,Qo,Qp,Qq,Qs,Q1,Q2,Q4,Q8,Ja,Jf,Jh,Ji,Jj,Jk,Jl,Jx,Jy,Jz,J4,J5,J7,J8,Xa,Xb,Xe,Xo,Xr,Xu,X1,X2,X4,X5,X6,X9,Wa,Wd,Wf,Wg,Wh,Wj,Wr,Ws,Wt,Wu,Wv,Wx,Wy,W0,W3,W4,W5,W8,W9,Yb,Yc,Yd,Yg,Yh,Yk,Yo,Yw,Yy,Yz,Y5,Y6,Va,Vb,Vc,Vd,Ve,Vo,Vp,Vr,Vs,V5,Uh,Uj,Uk,Ul,Um,Un,U2,Ku,U3,Kb]
         tactic =>
          try simp only [Uy] at *
          try simp only [nc2] at *
          try simp (maxSteps := 4000000) only [hlb,q1,q2,hs,M6,Ur,Up,Us,Uo,szN,Uq,U1]
          repeat' (first | with_reducible assumption | with_reducible refine And.intro ?_ ?_ | intro _ | omega | (rw [Ux]; omega))
          all_goals first
            | exact hbad
            | (with_reducible refine Kh ?_; kernel_rfl))
      | true =>
        have hyes : ∀ j, j < k + 1 → norm (a.getD j ⟨0, [], 0⟩) = norm (b.getD j ⟨0, [], 0⟩) := by
          intro j hj
          unfold same1 at hs
          rw [beq_iff_eq] at hs
          by_cases hjk : j = k
          · subst hjk; exact hs
          · exact hno j (by omega)
        (sym =>
         simp [hlb,q1,q2,hs,M6,Ur,Up,Us,Uo,szN,Uq,Mt,Tp,Mu,Tq,Ob,con_SameN.eq_def,Zb,Zc,Ze,Zf,Zg,Zo,Zp,Zq,Zu,Zv,Zw,Zy,Z9,Qa,Qb,Qc,Qd,Qe,Qf,Qh,Qk,Ql,Qq,Qs,Q1,Q2,Q4,Q8,Ja,Jf,Jh,Ji,Jj,Jl,Jx,Jy,Jz,J4,J5,J7,J8,Xa,Xb,Xe,Xo,Xr,Xu,X1,X2,X4,X5,X6,Wa,Wd,Wf,Wg,Wh,Wj,Wr,Ws,Wt,Wu,Wv,Wx,Wy,W0,W3,W4,W5,W8,W9,Yb,Yc,Yd,Yg,Yh,Yk,Yo,Yw,Yy,Yz,Y5,Y6,Va,Vb,Vc,Vd,Ve,Vn,Vp,Vr,Vs,V4,Uh,Ui,Uj,Uk,Ul,Um,Un,U2,Ku,U3,Kb]
         tactic =>
          try simp only [Uy] at *
          try simp only [nc2] at *
          try simp (maxSteps := 4000000) only [hlb,q1,q2,hs,M6,Ur,Up,Us,Uo,szN,Uq,U1]
          repeat' (first | with_reducible assumption | with_reducible refine And.intro ?_ ?_ | intro _ | omega | (rw [Ux]; omega))
          all_goals first
            | (with_reducible refine Kh ?_; kernel_rfl)
            | exact ⟨k + 1, by ((try simp only [Uz, killAll, setSlots, updAll, upd, U9, setCs, putC, Nat.reduceDiv, Nat.reduceMod, Nat.reduceMul, Nat.reduceAdd, Nat.reduceEqDiff, List.set_cons_zero, List.set_cons_succ, if_true, if_false, reduceIte]); (first | refine Wk.of_fl ?_ | skip); simp only [Wk, wkK, wkCs, wkT, wk1, AV.kept, keptAll, wkO, lk, wkObj, and_true, true_and, and_self, Nat.reduceEqDiff, Nat.reduceLeDiff, if_true, if_false, reduceIte, reduceCtorEq, Option.isSome, false_implies]; try simp [Wk, wkK, wkT, wk1, AV.kept, keptAll, wkO, lk, wkObj]), by omega, hyes, by omega⟩)
    · (sym =>
       simp [hlb,Ur,Up,Us,Uo,szN,Uq,Mt,Mu,Zb,Zc,Ze,Zf,Zg,Qb,Qd,Qn,Qo,Qp,Qq,Qs,Q1,Q2,Q4,Q8,Jk,Jx,Jy,Jz,J4,J5,J7,J8,Xa,Xb,Xe,X2,X4,X5,X8,X9,Wa,Wd,Wf,Wg,Wr,Ws,Wt,Wu,W8,W9,Yb,Yc,Yg,Y5,Y6,Vr,V5,Ui,Uj,Uk,Ul,U2]
       tactic =>
        try simp only [Uy] at *
        try simp only [nc2] at *
        try simp (maxSteps := 4000000) only [hlb,Ur,Up,Us,Uo,szN,Uq,U1]
        symm
        unfold same3
        rw [beq_iff_eq]
        refine List.ext_getElem (by simp [hlen]) fun j h1 h2 => ?_
        rw [List.length_map] at h1 h2
        have := hno j (by omega)
        simpa [h1, h2] using this))
def con_SameT : Con := con2 (fun (a b : Sl Node) => a.l.length ≤ 9223372036854775807 ∧ b.l.length ≤ 9223372036854775807) (fun a b => same3 a.l b.l)
noncomputable def ctx_SameT : Ctx := ⟨tab, lkC [(89, con_equalNodes)], 60, lkB [], [], false⟩
theorem ctx_SameT_c : ctx_SameT.Γ = lkC [(89, con_equalNodes)] := rfl
theorem ctx_SameT_d : ctx_SameT.dp = 60 := rfl
theorem ctx_SameT_b : ctx_SameT.Δ = lkB [] := rfl
theorem Sc : Good Try.prog (59, con_SameT) := by
  refine ⟨U0 Try.func59 (by kernel_rfl) rfl, ?_⟩
  have K : CtxOk Try.prog ctx_SameT := U4 Ki Ka (by
    intro p hp
    simp only [List.mem_cons, List.not_mem_nil, or_false] at hp
    rcases hp with rfl
    · exact good_equalNodes) (by simp)
  obtain ⟨c, hc⟩ : ∃ c, Try.f59.body = some c := ⟨_, rfl⟩
  refine U5 K Try.func59 hc [.tmp 4] rfl 8 rfl (fun cvs hpre => ?_)
  change con_SameT.pre cvs at hpre
  unfold con_SameT at hpre
  obtain ⟨⟨a⟩, ⟨b⟩, rfl, ha, hb⟩ := Kj hpre
  simp only at ha hb
  simp only [Try.f59, Option.some.injEq] at hc
  subst hc
  (sym =>
   simp [D8,Ur,Up,Us,Uo,szN,Uq,ctx_SameT_c,ctx_SameT_d,ctx_SameT_b,con_SameT.eq_def,con_equalNodes.eq_def,Za,Zb,Zc,Ze,Zf,Z9,Qe,Qf,Qn,Qo,Qp,Qq,Qs,Q1,Q2,Q4,Q8,Jf,Jj,Jk,Jl,Jw,J2,J3,Xe,Xu,Xv,X2,X4,X9,Wa,Wd,Wf,Wr,Ws,Wt,Wu,Wv,Ww,Wx,Wy,W4,W5,Yw,Y5,Y6,Y7,Y8,Y9,Va,Vh,Vm,Vs,V5,Uj,Uk]
   tactic =>
    try simp only [Uy] at *
    try simp only [nc2] at *
    try simp (maxSteps := 4000000) only [D8,Ur,Up,Us,Uo,szN,Uq,U1]
    repeat' (first | with_reducible assumption | with_reducible refine And.intro ?_ ?_ | intro _ | omega | (rw [Ux]; omega)))
end Go.Am.Ty
set_option linter.unusedSimpArgs false
set_option linter.unusedVariables false
set_option maxHeartbeats 1000000
namespace Go.Am.Ty
open Go.Proofs Go.Rose Go.Rose.Rose
open Enc (enc dec)
def idxP {α : Type} (p : α → Bool) (l : List α) : Int := match l.findIdx? p with
  | some i => (i : Int)
  | none => -1
theorem idxP_at {α : Type} {p : α → Bool} {l : List α} {k : Nat} (d : α) (hk : k < l.length) (hno : ∀ j, j < k → p (l.getD j d) = false) (hp : p (l.getD k d) = true) : idxP p l = k := by
  have h : l.findIdx? p = some k := by
    rw [List.findIdx?_eq_some_iff_getElem]
    refine ⟨hk, by simpa [hk] using hp, fun j hj => ?_⟩
    have := hno j hj
    simpa [show j < l.length by omega] using this
  unfold idxP
  rw [h]
theorem I2 {α : Type} {p : α → Bool} {l : List α} (d : α) (hno : ∀ j, j < l.length → p (l.getD j d) = false) : idxP p l = -1 := by
  have h : l.findIdx? p = none := by
    rw [List.findIdx?_eq_none_iff]
    intro x hx
    obtain ⟨j, hj, rfl⟩ := List.getElem_of_mem hx
    have := hno j hj
    simpa [hj] using this
  unfold idxP
  rw [h]
theorem idxP_any {α : Type} {p : α → Bool} {l : List α} : leB 0 (idxP p l) = l.any p := by
  unfold idxP
  cases h : l.findIdx? p with
  | none =>
    rw [List.findIdx?_eq_none_iff] at h
    have : l.any p = false := by rw [List.any_eq_false]; intro x hx; rw [h x hx]; simp
    rw [this]
    rfl
  | some i =>
    rw [List.findIdx?_eq_some_iff_getElem] at h
    obtain ⟨hi, hp, _⟩ := h
    have : l.any p = true := by rw [List.any_eq_true]; exact ⟨_, List.getElem_mem hi, hp⟩
    rw [this]
    simp [leB]
def isI (v : Int) (x : Int) : Bool := v == x
def con_indexInt : Con := con2 (fun (l : Sl Int) (_ : Int) => l.l.length ≤ 9223372036854775807) (fun l v => idxP (isI v) l.l)
noncomputable def ctx_indexInt : Ctx := ⟨tab, lkC [], 60, lkB [], [], false⟩
theorem Py : ctx_indexInt.τ = tab := rfl
theorem Di : ctx_indexInt.dp = 60 := rfl
theorem ctx_indexInt_w : ctx_indexInt.wr = false := rfl
theorem good_indexInt : Good Try.prog (125, con_indexInt) := by
  refine ⟨U0 Try.func125 (by kernel_rfl) rfl, ?_⟩
  have K : CtxOk Try.prog ctx_indexInt := U4 Ki Ka (by simp) (by simp)
  obtain ⟨c, hc⟩ : ∃ c, Try.f125.body = some c := ⟨_, rfl⟩
  refine U5 K Try.func125 hc [.tmp 4] rfl 19 rfl (fun cvs hpre => ?_)
  change con_indexInt.pre cvs at hpre
  unfold con_indexInt at hpre
  obtain ⟨⟨l⟩, v, rfl, hl⟩ := Kj hpre
  simp only at hl
  simp only [Try.f125, Option.some.injEq] at hc
  subst hc
  (sym =>
   simp [Ur,Up,Us,Uo,szN,Uq,Py,con_indexInt.eq_def,Za,Zb,Zc,Ze,Zf,Zo,Z6,Qq,Qs,Q1,Q2,Q4,Jw,J2,J3,Xu,X2,X4,X6,X7,Wa,Wd,Wf,Wg,Wh,Wr,Ws,Wt,Wu,Ww,Wy,W4,W5,Yv,Yy,Yz,Y2,Y5,Y6,Y7,Y8,Y9,Va,Vf,Vh,Vs,V4,Uj,Um,U2,Nl]
   tactic =>
    try simp only [Uy] at *
    try simp only [nc2] at *
    try simp (maxSteps := 4000000) only [Ur,Up,Us,Uo,szN,Uq,U1]
    refine Ke [4, 5, 9, 10, 11, 12, 13, 14, 15, 16, 17, 18] (fun k : Nat => [(8, .d (.int .i64 k))]) (fun k : Nat => []) (fun k : Nat => k ≤ l.length ∧ ∀ j, j < k → isI v (l.getD j 0) = false) (fun k : Nat => l.length - k) 0 ?_ ?_ ?_
    · simp
    · ((try simp only [Uz, killAll, setSlots, updAll, upd, U9, setCs, putC, Nat.reduceDiv, Nat.reduceMod, Nat.reduceMul, Nat.reduceAdd, Nat.reduceEqDiff, List.set_cons_zero, List.set_cons_succ, if_true, if_false, reduceIte]); (first | refine Wk.of_fl ?_ | skip); simp only [Wk, wkK, wkCs, wkT, wk1, AV.kept, keptAll, wkO, lk, wkObj, and_true, true_and, and_self, Nat.reduceEqDiff, Nat.reduceLeDiff, if_true, if_false, reduceIte, reduceCtorEq, Option.isSome, false_implies]; try simp [Wk, wkK, wkT, wk1, AV.kept, keptAll, wkO, lk, wkObj])
    rintro k ⟨hk, hno⟩
    rcases Kf k l.length with ⟨hlt, hlb⟩ | ⟨hlt, hlb⟩
    · have q1 := U8 (0 : Int) hlt
      cases hs : isI v (l.getD k 0) with
      | false =>
        have hs' : (v == l.getD k 0) = false := hs
        (sym =>
         simp [hlb,q1,hs',Ur,Up,Us,Uo,szN,Uq,Py,ctx_indexInt_w,Zb,Zc,Ze,Zf,Zg,Zo,Zp,Zq,Zv,Zy,Qb,Qd,Qq,Qs,Q1,Q2,Q4,Jx,Jy,Jz,X1,X2,X4,X5,X6,Wa,Wd,Wf,Wg,Wh,Wr,Ws,Yb,Yc,Yg,Yk,Yr,Yv,Yy,Yz,Y2,Y5,Y6,Y7,Y8,Vp,Vr,Vs,V4,Uh,Ui,Uj,Uk,Ul,Um,U2,Nl]
         tactic =>
          try simp only [Uy] at *
          try simp only [nc2] at *
          try simp (maxSteps := 4000000) only [hlb,q1,hs',Ur,Up,Us,Uo,szN,Uq,U1]
          repeat' (first | with_reducible assumption | with_reducible refine And.intro ?_ ?_ | intro _ | omega | (rw [Ux]; omega))
          refine ⟨k + 1, by ((try simp only [Uz, killAll, setSlots, updAll, upd, U9, setCs, putC, Nat.reduceDiv, Nat.reduceMod, Nat.reduceMul, Nat.reduceAdd, Nat.reduceEqDiff, List.set_cons_zero, List.set_cons_succ, if_true, if_false, reduceIte]); (first | refine Wk.of_fl ?_ | skip); simp only [Wk, wkK, wkCs, wkT, wk1, AV.kept, keptAll, wkO, lk, wkObj, and_true, true_and, and_self, Nat.reduceEqDiff, Nat.reduceLeDiff, if_true, if_false, reduceIte, reduceCtorEq, Option.isSome, false_implies]; try simp [Wk, wkK, wkT, wk1, AV.kept, keptAll, wkO, lk, wkObj]), by omega, fun j hj => ?_, by omega⟩
          by_cases hjk : j = k
          · subst hjk; exact hs
          · exact hno j (by omega))
      | true =>
        have hs' : (v == l.getD k 0) = true := hs
        have hr := idxP_at 0 hlt hno hs
        (sym =>
         simp [hlb,q1,hs',hr,Ur,Up,Us,Uo,szN,Uq,Py,Di,Zb,Zc,Ze,Zf,Zg,Zo,Zp,Zq,Zv,Zy,Qb,Qd,Qn,Qo,Qp,Qq,Qs,Q1,Q2,Q4,Q8,Jk,Jx,Jy,Jz,Xe,X1,X2,X4,X5,X6,X9,Wa,Wd,Wf,Wg,Wh,Wr,Ws,Yb,Yc,Yg,Yk,Yr,Yv,Yy,Yz,Y2,Y5,Y6,Y7,Y8,Vp,Vr,Vs,Uh,Uj,Uk,Ul,Um,U2,Nl]
         tactic =>
          try simp only [Uy] at *
          try simp only [nc2] at *
          try simp (maxSteps := 4000000) only [hlb,q1,hs',hr,Ur,Up,Us,Uo,szN,Uq,U1]
          repeat' (first | with_reducible assumption | with_reducible refine And.intro ?_ ?_ | intro _ | omega | (rw [Ux]; omega)))
    · have hr := I2 (p := isI v) (l := l) 0 (fun j hj => hno j (by omega))
      (sym =>
       simp [hlb,hr,Ur,Up,Us,Uo,szN,Uq,Py,Di,Zb,Zc,Ze,Zf,Zg,Qb,Qd,Qn,Qo,Qp,Qq,Qs,Q1,Q2,Q4,Q8,Jk,Jx,Jy,Jz,Xe,X2,X4,X5,X8,X9,Wa,Wd,Wf,Wg,Wr,Ws,Yb,Yc,Yg,Y5,Y6,Y7,Y8,Vr,V4,Ui,Uj,Uk,Ul,U2]))
def con_containsInt : Con := con2 (fun (l : Sl Int) (_ : Int) => l.l.length ≤ 9223372036854775807) (fun l v => l.l.any (isI v))
noncomputable def ctx_containsInt : Ctx := ⟨tab, lkC [(125, con_indexInt)], 60, lkB [], [], false⟩
theorem Aw : ctx_containsInt.τ = tab := rfl
theorem Ay : ctx_containsInt.Γ = lkC [(125, con_indexInt)] := rfl
theorem Ax : ctx_containsInt.dp = 60 := rfl
theorem Az : ctx_containsInt.Δ = lkB [] := rfl
theorem I3 : Good Try.prog (123, con_containsInt) := by
  refine ⟨U0 Try.func123 (by kernel_rfl) rfl, ?_⟩
  have K : CtxOk Try.prog ctx_containsInt := U4 Ki Ka (by
    intro p hp
    simp only [List.mem_cons, List.not_mem_nil, or_false] at hp
    rcases hp with rfl
    · exact good_indexInt) (by simp)
  obtain ⟨c, hc⟩ : ∃ c, Try.f123.body = some c := ⟨_, rfl⟩
  refine U5 K Try.func123 hc [.tmp 4] rfl 9 rfl (fun cvs hpre => ?_)
  change con_containsInt.pre cvs at hpre
  unfold con_containsInt at hpre
  obtain ⟨⟨l⟩, v, rfl, hl⟩ := Kj hpre
  simp only at hl
  have h := idxP_any (p := isI v) (l := l)
  simp only [Try.f123, Option.some.injEq] at hc
  subst hc
  (sym =>
   simp [h,Ur,Up,Us,Uo,szN,Uq,Aw,Ay,Ax,Az,con_containsInt.eq_def,con_indexInt.eq_def,Za,Zb,Zc,Ze,Zf,Z9,Qb,Qd,Qe,Qf,Qn,Qo,Qp,Qq,Qs,Q1,Q2,Q4,Q8,Jf,Jj,Jk,Jl,Jw,J2,J3,Xe,Xu,X2,X4,X9,Wa,Wd,Wf,Wg,Wr,Ws,Wt,Wu,Wv,Ww,Wx,Wy,W4,W5,Yc,Yg,Yv,Yw,Y5,Y6,Y7,Y8,Y9,Va,Vf,Vh,Vk,Vm,Vs,V4,V5,Uj,Uk,U2]
   tactic =>
    try simp only [Uy] at *
    try simp only [nc2] at *
    try simp (maxSteps := 4000000) only [h,Ur,Up,Us,Uo,szN,Uq,U1]
    repeat' (first | with_reducible assumption | with_reducible refine And.intro ?_ ?_ | intro _ | omega | (rw [Ux]; omega)))
structure PI where
  l : List Int
instance encPI : Enc PI := ⟨fun p => .ptr 1 (.list 1 (p.l.map enc)), fun x => match x with
  | .ptr _ y => ⟨y.l.map dec⟩
  | _ => ⟨[]⟩, fun p => by
    have h : ∀ l : List Int, (l.map (enc : Int → D)).map dec = l := fun l => Hu
    obtain ⟨l⟩ := p
    simp [D.l,h]⟩
theorem enc_PI {l : List Int} : (enc (PI.mk l) : D) = .ptr 1 (.list 1 (l.map enc)) := rfl
theorem PI_l {l : List Int} : (PI.mk l).l = l := rfl
theorem Oa {l : List Int} : (dec (.ptr 1 (.list 1 (l.map enc))) : PI) = ⟨l⟩ := Enc.dec_enc (PI.mk l)
theorem isE_PI {l : List Int} : isE PI (.ptr 1 (.list 1 (l.map enc))) = True := eq_true (Gp (PI.mk l))
structure NoneF where
  l : List Int
instance encNoneF : Enc NoneF := ⟨fun p => .clo 122 [.ptr 1 (.list 1 (p.l.map enc))], fun x => match x with
  | .clo _ [.ptr _ y] => ⟨y.l.map dec⟩
  | _ => ⟨[]⟩, fun p => by
    have h : ∀ l : List Int, (l.map (enc : Int → D)).map dec = l := fun l => Hu
    obtain ⟨l⟩ := p
    simp [D.l,h]⟩
theorem Po {l : List Int} : (enc (NoneF.mk l) : D) = .clo 122 [.ptr 1 (.list 1 (l.map enc))] := rfl
theorem Ct {l : List Int} : (NoneF.mk l).l = l := rfl
theorem To {l : List Int} : (dec (.clo 122 [.ptr 1 (.list 1 (l.map enc))]) : NoneF) = ⟨l⟩ := Enc.dec_enc (NoneF.mk l)
theorem isE_NoneF {l : List Int} : isE NoneF (.clo 122 [.ptr 1 (.list 1 (l.map enc))]) = True := eq_true (Gp (NoneF.mk l))
theorem dec_NoneS {l : List Int} : (dec (.clo 122 [.ptr 1 (enc (Sl.mk l))]) : NoneF) = ⟨l⟩ := Enc.dec_enc (NoneF.mk l)
theorem isE_NoneS {l : List Int} : isE NoneF (.clo 122 [.ptr 1 (enc (Sl.mk l))]) = True := eq_true (Gp (NoneF.mk l))
def ofKind (l : List Int) (n : Node) : Bool := l.any (isI n.kind)
def con_noneN : Con := con2 (fun (_ : Node) (p : PI) => p.l.length ≤ 1000000) (fun n p => ofKind p.l n)
noncomputable def ctx_noneN : Ctx := ⟨tab, lkC [(123, con_containsInt)], 60, lkB [], [], false⟩
theorem ctx_noneN_t : ctx_noneN.τ = tab := rfl
theorem ctx_noneN_c : ctx_noneN.Γ = lkC [(123, con_containsInt)] := rfl
theorem ctx_noneN_d : ctx_noneN.dp = 60 := rfl
theorem ctx_noneN_b : ctx_noneN.Δ = lkB [] := rfl
theorem good_noneN : Good Try.prog (122, con_noneN) := by
  refine ⟨U0 Try.func122 (by kernel_rfl) rfl, ?_⟩
  have K : CtxOk Try.prog ctx_noneN := U4 Ki Ka (by
    intro p hp
    simp only [List.mem_cons, List.not_mem_nil, or_false] at hp
    rcases hp with rfl
    · exact I3) (by simp)
  obtain ⟨c, hc⟩ : ∃ c, Try.f122.body = some c := ⟨_, rfl⟩
  refine U5 K Try.func122 hc [.tmp 3] rfl 8 rfl (fun cvs hpre => ?_)
  change con_noneN.pre cvs at hpre
  unfold con_noneN at hpre
  obtain ⟨n, ⟨l⟩, rfl, hl⟩ := Kj hpre
  simp only at hl
  have hf : ofKind l n = l.any (isI n.kind) := rfl
  simp only [Try.f122, Option.some.injEq] at hc
  subst hc
  (sym =>
   simp [enc_PI,Oa,PI_l,hf,Ur,Up,Us,Uo,szN,Uq,ctx_noneN_t,ctx_noneN_c,ctx_noneN_d,ctx_noneN_b,con_containsInt.eq_def,con_noneN.eq_def,Za,Zb,Zc,Ze,Zf,Zo,Zp,Zq,Zs,Zu,Zv,Zx,Z9,Qe,Qf,Ql,Qm,Qn,Qo,Qp,Qq,Qs,Q1,Q2,Q4,Q8,Jf,Jh,Ji,Jj,Jk,Jl,Jw,J2,J3,Xe,Xr,Xu,X2,X4,X9,Wa,Wd,Wf,Wg,Wh,Wr,Ws,Wt,Wu,Wv,Ww,Wx,Wy,W0,W3,W4,W5,W6,Yo,Yt,Yw,Y5,Y6,Y7,Y8,Y9,Va,Vf,Vi,Vj,Vk,Vs,V5,Uj,Uk,U2,Kb,Nl]
   tactic =>
    try simp only [Uy] at *
    try simp only [nc2] at *
    try simp (maxSteps := 4000000) only [enc_PI,Oa,PI_l,hf,Ur,Up,Us,Uo,szN,Uq,U1]
    repeat' (first | with_reducible assumption | with_reducible refine And.intro ?_ ?_ | intro _ | omega | (rw [Ux]; omega)))
def con_indexNode : Con := con2 (fun (l : Sl Node) (f : NoneF) => l.l.length ≤ 9223372036854775807 ∧ f.l.length ≤ 1000000) (fun l f => idxP (ofKind f.l) l.l)
noncomputable def ctx_indexNode : Ctx := ⟨tab, lkC [(122, con_noneN)], 60, lkB [], [], false⟩
theorem M7 : ctx_indexNode.τ = tab := rfl
theorem Cz : ctx_indexNode.Γ = lkC [(122, con_noneN)] := rfl
theorem B2 : ctx_indexNode.dp = 60 := rfl
theorem C0 : ctx_indexNode.Δ = lkB [] := rfl
theorem ctx_indexNode_w : ctx_indexNode.wr = false := rfl
theorem good_indexNode : Good Try.prog (124, con_indexNode) := by
  refine ⟨U0 Try.func124 (by kernel_rfl) rfl, ?_⟩
  have K : CtxOk Try.prog ctx_indexNode := U4 Ki Ka (by
    intro p hp
    simp only [List.mem_cons, List.not_mem_nil, or_false] at hp
    rcases hp with rfl
    · exact good_noneN) (by simp)
  obtain ⟨c, hc⟩ : ∃ c, Try.f124.body = some c := ⟨_, rfl⟩
  refine U5 K Try.func124 hc [.tmp 4] rfl 19 rfl (fun cvs hpre => ?_)
  change con_indexNode.pre cvs at hpre
  unfold con_indexNode at hpre
  obtain ⟨⟨l⟩, ⟨v⟩, rfl, hl, hv⟩ := Kj hpre
  simp only at hl hv
  simp only [Try.f124, Option.some.injEq] at hc
  subst hc
  (sym =>
   simp [Po,Ur,Up,Us,Uo,szN,Uq,M7,con_indexNode.eq_def,Za,Zb,Zc,Ze,Zf,Zo,Z6,Qq,Qs,Q1,Q2,Q4,Jw,J2,J3,Xu,X2,X4,X6,X7,Wa,Wd,Wf,Wg,Wh,Wr,Ws,Wt,Wu,Ww,Wy,W4,W5,Yv,Yy,Yz,Y5,Y6,Y7,Y8,Y9,Va,Vh,Vs,V4,Uj,Um,U3,Kb]
   tactic =>
    try simp only [Uy] at *
    try simp only [nc2] at *
    try simp (maxSteps := 4000000) only [Po,Ur,Up,Us,Uo,szN,Uq,U1]
    refine Ke [4, 5, 9, 10, 11, 12, 13, 14, 15, 16, 17, 18] (fun k : Nat => [(8, .d (.int .i64 k))]) (fun k : Nat => []) (fun k : Nat => k ≤ l.length ∧ ∀ j, j < k → ofKind v (l.getD j ⟨0, [], 0⟩) = false) (fun k : Nat => l.length - k) 0 ?_ ?_ ?_
    · simp
    · ((try simp only [Uz, killAll, setSlots, updAll, upd, U9, setCs, putC, Nat.reduceDiv, Nat.reduceMod, Nat.reduceMul, Nat.reduceAdd, Nat.reduceEqDiff, List.set_cons_zero, List.set_cons_succ, if_true, if_false, reduceIte]); (first | refine Wk.of_fl ?_ | skip); simp only [Wk, wkK, wkCs, wkT, wk1, AV.kept, keptAll, wkO, lk, wkObj, and_true, true_and, and_self, Nat.reduceEqDiff, Nat.reduceLeDiff, if_true, if_false, reduceIte, reduceCtorEq, Option.isSome, false_implies]; try simp [Wk, wkK, wkT, wk1, AV.kept, keptAll, wkO, lk, wkObj])
    rintro k ⟨hk, hno⟩
    rcases Kf k l.length with ⟨hlt, hlb⟩ | ⟨hlt, hlb⟩
    · have q1 := U8 (⟨0, [], 0⟩ : Node) hlt
      cases hs : ofKind v (l.getD k ⟨0, [], 0⟩) with
      | false =>
        (sym =>
         simp [hlb,q1,hs,Po,Oa,isE_PI,PI_l,Ur,Up,Us,Uo,szN,Uq,M7,Cz,B2,C0,ctx_indexNode_w,con_noneN.eq_def,Zb,Zc,Ze,Zf,Zg,Zo,Zp,Zq,Zv,Zy,Z9,Qa,Qb,Qd,Qe,Qf,Qq,Qs,Q1,Q2,Q4,Q8,Jf,Jj,Jl,Jx,Jy,Jz,Xe,Xo,Xu,X1,X2,X4,X5,X6,Wa,Wd,Wf,Wg,Wh,Wr,Ws,Wv,Wx,Wy,W0,W3,Yb,Yc,Yg,Yk,Yw,Yy,Yz,Y5,Y6,Y7,Y8,Y9,Va,Vp,Vr,Vs,V4,Uh,Ui,Uj,Uk,Ul,Um,U2,U3,Kb]
         tactic =>
          try simp only [Uy] at *
          try simp only [nc2] at *
          try simp (maxSteps := 4000000) only [hlb,q1,hs,Po,Oa,isE_PI,PI_l,Ur,Up,Us,Uo,szN,Uq,U1]
          repeat' (first | with_reducible assumption | with_reducible refine And.intro ?_ ?_ | intro _ | omega | (rw [Ux]; omega))
          refine ⟨k + 1, by ((try simp only [Uz, killAll, setSlots, updAll, upd, U9, setCs, putC, Nat.reduceDiv, Nat.reduceMod, Nat.reduceMul, Nat.reduceAdd, Nat.reduceEqDiff, List.set_cons_zero, List.set_cons_succ, if_true, if_false, reduceIte]); (first | refine Wk.of_fl ?_ | skip); simp only [Wk, wkK, wkCs, wkT, wk1, AV.kept, keptAll, wkO, lk, wkObj, and_true, true_and, and_self, Nat.reduceEqDiff, Nat.reduceLeDiff, if_true, if_false, reduceIte, reduceCtorEq, Option.isSome, false_implies]; try simp [Wk, wkK, wkT, wk1, AV.kept, keptAll, wkO, lk, wkObj]), by omega, fun j hj => ?_, by omega⟩
          by_cases hjk : j = k
          · subst hjk; exact hs
          · exact hno j (by omega))
      | true =>
        have hr := idxP_at ⟨0, [], 0⟩ hlt hno hs
        (sym =>
         simp [hlb,q1,hs,hr,Po,To,Oa,isE_PI,PI_l,Ct,Ur,Up,Us,Uo,szN,Uq,M7,Cz,B2,C0,con_noneN.eq_def,Zb,Zc,Ze,Zf,Zg,Zo,Zp,Zq,Zv,Zy,Z9,Qa,Qb,Qd,Qe,Qf,Qn,Qo,Qp,Qq,Qs,Q1,Q2,Q4,Q8,Jf,Jj,Jk,Jl,Jx,Jy,Jz,Xe,Xo,Xu,X1,X2,X4,X5,X6,X9,Wa,Wd,Wf,Wg,Wh,Wr,Ws,Wv,Wx,Wy,W0,W3,Yb,Yc,Yg,Yk,Yw,Yy,Yz,Y5,Y6,Y7,Y8,Y9,Va,Vp,Vr,Vs,Uh,Uj,Uk,Ul,Um,U2,U3,Kb]
         tactic =>
          try simp only [Uy] at *
          try simp only [nc2] at *
          try simp (maxSteps := 4000000) only [hlb,q1,hs,hr,Po,To,Oa,isE_PI,PI_l,Ct,Ur,Up,Us,Uo,szN,Uq,U1]
          repeat' (first | with_reducible assumption | with_reducible refine And.intro ?_ ?_ | intro _ | omega | (rw [Ux]; omega)))
    · have hr := I2 (p := ofKind v) (l := l) ⟨0, [], 0⟩ (fun j hj => hno j (by omega))
      (sym =>
       simp [hlb,hr,To,Ct,Ur,Up,Us,Uo,szN,Uq,M7,B2,Zb,Zc,Ze,Zf,Zg,Qb,Qd,Qn,Qo,Qp,Qq,Qs,Q1,Q2,Q4,Q8,Jk,Jx,Jy,Jz,Xe,X2,X4,X5,X8,X9,Wa,Wd,Wf,Wg,Wr,Ws,Yb,Yc,Yg,Y5,Y6,Y7,Y8,Vr,V4,Ui,Uj,Uk,Ul,U2]))
def con_containsNode : Con := con2 (fun (l : Sl Node) (f : NoneF) => l.l.length ≤ 9223372036854775807 ∧ f.l.length ≤ 1000000) (fun l f => l.l.any (ofKind f.l))
noncomputable def ctx_containsNode : Ctx := ⟨tab, lkC [(124, con_indexNode)], 60, lkB [], [], false⟩
theorem Fq : ctx_containsNode.τ = tab := rfl
theorem Fs : ctx_containsNode.Γ = lkC [(124, con_indexNode)] := rfl
theorem Fr : ctx_containsNode.dp = 60 := rfl
theorem Ft : ctx_containsNode.Δ = lkB [] := rfl
theorem R6 : Good Try.prog (121, con_containsNode) := by
  refine ⟨U0 Try.func121 (by kernel_rfl) rfl, ?_⟩
  have K : CtxOk Try.prog ctx_containsNode := U4 Ki Ka (by
    intro p hp
    simp only [List.mem_cons, List.not_mem_nil, or_false] at hp
    rcases hp with rfl
    · exact good_indexNode) (by simp)
  obtain ⟨c, hc⟩ : ∃ c, Try.f121.body = some c := ⟨_, rfl⟩
  refine U5 K Try.func121 hc [.tmp 4] rfl 9 rfl (fun cvs hpre => ?_)
  change con_containsNode.pre cvs at hpre
  unfold con_containsNode at hpre
  obtain ⟨⟨l⟩, ⟨v⟩, rfl, hl, hv⟩ := Kj hpre
  simp only at hl hv
  have h := idxP_any (p := ofKind v) (l := l)
  simp only [Try.f121, Option.some.injEq] at hc
  subst hc
  (sym =>
   simp [h,Po,To,isE_NoneF,Ct,Ur,Up,Us,Uo,szN,Uq,Fq,Fs,Fr,Ft,con_containsNode.eq_def,con_indexNode.eq_def,Za,Zb,Zc,Ze,Zf,Z9,Qb,Qd,Qe,Qf,Qn,Qo,Qp,Qq,Qs,Q1,Q2,Q4,Q8,Jf,Jj,Jk,Jl,Jw,J2,J3,Xe,Xu,X2,X4,X9,Wa,Wd,Wf,Wg,Wr,Ws,Wt,Wu,Wv,Ww,Wx,Wy,W4,W5,Yc,Yg,Yv,Yw,Y5,Y6,Y7,Y8,Y9,Va,Vh,Vm,Vs,V4,V5,Uj,Uk,U2]
   tactic =>
    try simp only [Uy] at *
    try simp only [nc2] at *
    try simp (maxSteps := 4000000) only [h,Po,To,isE_NoneF,Ct,Ur,Up,Us,Uo,szN,Uq,U1]
    repeat' (first | with_reducible assumption | with_reducible refine And.intro ?_ ?_ | intro _ | omega | (rw [Ux]; omega)))
def con_noneT : Con := con2 (fun (l : Sl Node) (f : Sl Int) => l.l.length ≤ 9223372036854775807 ∧ f.l.length ≤ 1000000) (fun l f => !l.l.any (ofKind f.l))
noncomputable def ctx_noneT : Ctx := ⟨tab, lkC [(121, con_containsNode)], 60, lkB [], [], false⟩
theorem ctx_noneT_t : ctx_noneT.τ = tab := rfl
theorem ctx_noneT_c : ctx_noneT.Γ = lkC [(121, con_containsNode)] := rfl
theorem ctx_noneT_d : ctx_noneT.dp = 60 := rfl
theorem ctx_noneT_b : ctx_noneT.Δ = lkB [] := rfl
theorem good_noneT : Good Try.prog (119, con_noneT) := by
  refine ⟨U0 Try.func119 (by kernel_rfl) rfl, ?_⟩
  have K : CtxOk Try.prog ctx_noneT := U4 Ki Ka (by
    intro p hp
    simp only [List.mem_cons, List.not_mem_nil, or_false] at hp
    rcases hp with rfl
    · exact R6) (by simp)
  obtain ⟨c, hc⟩ : ∃ c, Try.f119.body = some c := ⟨_, rfl⟩
  refine U5 K Try.func119 hc [.tmp 4] rfl 9 rfl (fun cvs hpre => ?_)
  change con_noneT.pre cvs at hpre
  unfold con_noneT at hpre
  obtain ⟨⟨l⟩, ⟨v⟩, rfl, hl, hv⟩ := Kj hpre
  simp only at hl hv
  simp only [Try.f119, Option.some.injEq] at hc
  subst hc
  (sym =>
   simp [dec_NoneS,isE_NoneS,Ct,Ur,Up,Us,Uo,szN,Uq,ctx_noneT_t,ctx_noneT_c,ctx_noneT_d,ctx_noneT_b,con_containsNode.eq_def,con_noneT.eq_def,Za,Zb,Zc,Ze,Zf,Zo,Zp,Zq,Zu,Z9,Qc,Qd,Qe,Qf,Qi,Ql,Qn,Qo,Qp,Qq,Qs,Q1,Q2,Q4,Q8,Ja,Jf,Jh,Ji,Jj,Jk,Jl,Jw,J2,J3,Xe,Xh,Xj,Xk,Xl,Xu,X2,X4,X9,Wa,Wd,Wf,Wg,Wh,Wr,Ws,Wt,Wu,Wv,Ww,Wx,Wy,Wz,W4,W5,Yd,Yh,Yw,Y0,Y5,Y6,Y7,Y8,Y9,Va,Vh,Vm,Vs,V5,Uf,Uj,Uk,Ku,Nl]
   tactic =>
    try simp only [Uy] at *
    try simp only [nc2] at *
    try simp (maxSteps := 4000000) only [dec_NoneS,isE_NoneS,Ct,Ur,Up,Us,Uo,szN,Uq,U1]
    repeat' (first | with_reducible assumption | with_reducible refine And.intro ?_ ?_ | intro _ | omega | (rw [Ux]; omega)))
theorem plain_none (t : List Node) : (!t.any (ofKind [8, 9])) = plain3 t := by
  unfold plain3
  rw [List.not_any_eq_all_not]
  congr 1
  funext n
  simp [ofKind,isI,bne]
def con_PlainT : Con := con1 (fun (t : Sl Node) => t.l.length ≤ 9223372036854775807) (fun t => plain3 t.l)
noncomputable def ctx_PlainT : Ctx := ⟨tab, lkC [(119, con_noneT)], 60, lkB [], [], false⟩
theorem ctx_PlainT_t : ctx_PlainT.τ = tab := rfl
theorem ctx_PlainT_c : ctx_PlainT.Γ = lkC [(119, con_noneT)] := rfl
theorem ctx_PlainT_d : ctx_PlainT.dp = 60 := rfl
theorem ctx_PlainT_b : ctx_PlainT.Δ = lkB [] := rfl
theorem good_PlainT : Good Try.prog (104, con_PlainT) := by
  refine ⟨U0 Try.func104 (by kernel_rfl) rfl, ?_⟩
  have K : CtxOk Try.prog ctx_PlainT := U4 Ki Ka (by
    intro p hp
    simp only [List.mem_cons, List.not_mem_nil, or_false] at hp
    rcases hp with rfl
    · exact good_noneT) (by simp)
  obtain ⟨c, hc⟩ : ∃ c, Try.f104.body = some c := ⟨_, rfl⟩
  refine U5 K Try.func104 hc [.tmp 2] rfl 6 rfl (fun cvs hpre => ?_)
  change con_PlainT.pre cvs at hpre
  unfold con_PlainT at hpre
  obtain ⟨⟨t⟩, rfl, ht⟩ := K1 hpre
  simp only at ht
  have h := plain_none t
  simp only [Try.f104, Option.some.injEq] at hc
  subst hc
  (sym =>
   simp [h,Ur,Up,Us,Uo,szN,Uq,ctx_PlainT_t,ctx_PlainT_c,ctx_PlainT_d,ctx_PlainT_b,con_PlainT.eq_def,con_noneT.eq_def,Za,Zb,Zc,Ze,Zf,Zo,Zr,Z1,Z9,Qe,Qf,Qn,Qo,Qp,Qq,Qs,Q1,Q2,Q4,Q8,Jb,Jc,Jd,Je,Jf,Jg,Jh,Ji,Jj,Jk,Jl,Jw,J2,J3,Xc,Xd,Xe,Xg,Xt,Xu,X2,X4,X9,Wa,Wd,Wf,Wg,Wh,Wl,Wr,Ws,Wt,Wu,Wv,Ww,Wx,Wy,Wz,W0,W3,W4,W5,Yl,Yw,Y5,Y6,Y7,Y8,Y9,Va,Vf,Vh,Vi,Vm,Vs,V3,V4,V5,V9,Uj,Uk,U2,Nl]
   tactic =>
    try simp only [Uy] at *
    try simp only [nc2] at *
    try simp (maxSteps := 4000000) only [h,Ur,Up,Us,Uo,szN,Uq,U1]
    repeat' (first | with_reducible assumption | with_reducible refine And.intro ?_ ?_ | intro _ | omega | (rw [Ux]; omega)))
end Go.Am.Ty
set_option linter.unusedSimpArgs false
set_option linter.unusedVariables false
set_option maxHeartbeats 1000000
namespace Go.Am.Ty
open Go.Proofs
open Enc (enc dec)
structure Rune where
  v : Int
instance encRune : Enc Rune := ⟨fun a => .int .i32 a.v, fun x => ⟨x.i⟩, fun _ => rfl⟩
theorem Tm {a : Rune} : (enc a : D) = .int .i32 a.v := rfl
theorem Tn {v : Int} : (dec (.int .i32 v) : Rune) = ⟨v⟩ := rfl
theorem Tk {v : Int} : isE Rune (.int .i32 v) = True := eq_true rfl
theorem Rune_v {v : Int} : (Rune.mk v).v = v := rfl
theorem Td {a : Rune} : Rune.mk a.v = a := rfl
def smallR (r : Int) : Bool := leB 97 r && leB r 122
def greatR (r : Int) : Bool := leB 65 r && leB r 90
def behindR (r : Int) : Bool := smallR r || (greatR r || ((leB 48 r && leB r 57) || r == 95))
def con_isSmallG : Con := con1 (fun (_ : Rune) => True) (fun a => smallR a.v)
noncomputable def ctx_isSmallG : Ctx := ⟨tab, lkC [], 60, lkB [], [], false⟩
theorem ctx_isSmallG_t : ctx_isSmallG.τ = tab := rfl
theorem ctx_isSmallG_d : ctx_isSmallG.dp = 60 := rfl
theorem Es : Good Try.prog (85, con_isSmallG) := by
  refine ⟨U0 Try.func85 (by kernel_rfl) rfl, ?_⟩
  have K : CtxOk Try.prog ctx_isSmallG := U4 Ki Ka (by simp) (by simp)
  obtain ⟨c, hc⟩ : ∃ c, Try.f85.body = some c := ⟨_, rfl⟩
  refine U5 K Try.func85 hc [.tmp 2] rfl 9 rfl (fun cvs hpre => ?_)
  change con_isSmallG.pre cvs at hpre
  unfold con_isSmallG at hpre
  obtain ⟨a, rfl, -⟩ := K1 hpre
  simp only [Try.f85, Option.some.injEq] at hc
  subst hc
  (sym =>
   simp [Tm,Tn,Tk,Td,ctx_isSmallG_t,ctx_isSmallG_d,con_isSmallG.eq_def,Za,Zb,Zc,Zd,Ze,Zf,Zt,Qb,Qd,Qn,Qo,Qp,Qq,Qs,Q1,Q2,Q4,Q8,Jk,Jw,J2,J3,Xe,Xt,X2,X4,X9,Wa,Wd,Wf,Wg,Wr,Ws,Wt,Wu,Ww,Wy,W4,W5,W6,W7,Yc,Yg,Yw,Y5,Y6,Y7,Y8,Y9,Va,V4,V5,Uh,Ui,Uj,Uk,tab21]
   tactic =>
    try simp only [Uy] at *
    try simp only [nc2] at *
    try simp (maxSteps := 4000000) only [Tm,Tn,Tk,Td,U1]
    unfold smallR
    repeat' (first | with_reducible assumption | with_reducible refine And.intro ?_ ?_ | intro _ | omega | (rw [Ux]; omega))
    all_goals first
      | (simp_all [leB]; done)
      | (simp_all [leB]; omega))
def con_isGreatG : Con := con1 (fun (_ : Rune) => True) (fun a => greatR a.v)
noncomputable def ctx_isGreatG : Ctx := ⟨tab, lkC [], 60, lkB [], [], false⟩
theorem ctx_isGreatG_t : ctx_isGreatG.τ = tab := rfl
theorem ctx_isGreatG_d : ctx_isGreatG.dp = 60 := rfl
theorem Et : Good Try.prog (102, con_isGreatG) := by
  refine ⟨U0 Try.func102 (by kernel_rfl) rfl, ?_⟩
  have K : CtxOk Try.prog ctx_isGreatG := U4 Ki Ka (by simp) (by simp)
  obtain ⟨c, hc⟩ : ∃ c, Try.f102.body = some c := ⟨_, rfl⟩
  refine U5 K Try.func102 hc [.tmp 2] rfl 9 rfl (fun cvs hpre => ?_)
  change con_isGreatG.pre cvs at hpre
  unfold con_isGreatG at hpre
  obtain ⟨a, rfl, -⟩ := K1 hpre
  simp only [Try.f102, Option.some.injEq] at hc
  subst hc
  (sym =>
   simp [Tm,Tn,Tk,Td,ctx_isGreatG_t,ctx_isGreatG_d,con_isGreatG.eq_def,Za,Zb,Zc,Zd,Ze,Zf,Zt,Qb,Qd,Qn,Qo,Qp,Qq,Qs,Q1,Q2,Q4,Q8,Jk,Jw,J2,J3,Xe,Xt,X2,X4,X9,Wa,Wd,Wf,Wg,Wr,Ws,Wt,Wu,Ww,Wy,W4,W5,W6,W7,Yc,Yg,Yw,Y5,Y6,Y7,Y8,Y9,Va,V4,V5,Uh,Ui,Uj,Uk,tab21]
   tactic =>
    try simp only [Uy] at *
    try simp only [nc2] at *
    try simp (maxSteps := 4000000) only [Tm,Tn,Tk,Td,U1]
    unfold greatR
    repeat' (first | with_reducible assumption | with_reducible refine And.intro ?_ ?_ | intro _ | omega | (rw [Ux]; omega))
    all_goals first
      | (simp_all [leB]; done)
      | (simp_all [leB]; omega))
def con_isBehindG : Con := con1 (fun (_ : Rune) => True) (fun a => behindR a.v)
noncomputable def ctx_isBehindG : Ctx := ⟨tab, lkC [(85, con_isSmallG), (102, con_isGreatG)], 60, lkB [], [], false⟩
theorem ctx_isBehindG_t : ctx_isBehindG.τ = tab := rfl
theorem ctx_isBehindG_c : ctx_isBehindG.Γ = lkC [(85, con_isSmallG), (102, con_isGreatG)] := rfl
theorem ctx_isBehindG_d : ctx_isBehindG.dp = 60 := rfl
theorem ctx_isBehindG_b : ctx_isBehindG.Δ = lkB [] := rfl
theorem good_isBehindG : Good Try.prog (105, con_isBehindG) := by
  refine ⟨U0 Try.func105 (by kernel_rfl) rfl, ?_⟩
  have K : CtxOk Try.prog ctx_isBehindG := U4 Ki Ka (by
    intro p hp
    simp only [List.mem_cons, List.not_mem_nil, or_false] at hp
    rcases hp with rfl | rfl
    · exact Es
    · exact Et) (by simp)
  obtain ⟨c, hc⟩ : ∃ c, Try.f105.body = some c := ⟨_, rfl⟩
  refine U5 K Try.func105 hc [.tmp 2] rfl 21 rfl (fun cvs hpre => ?_)
  change con_isBehindG.pre cvs at hpre
  unfold con_isBehindG at hpre
  obtain ⟨a, rfl, -⟩ := K1 hpre
  simp only [Try.f105, Option.some.injEq] at hc
  subst hc
  (sym =>
   simp [Tm,Tn,Tk,Td,Rune_v,ctx_isBehindG_t,ctx_isBehindG_c,ctx_isBehindG_d,ctx_isBehindG_b,con_isBehindG.eq_def,con_isGreatG.eq_def,con_isSmallG.eq_def,Za,Zb,Zc,Zd,Ze,Zf,Zt,Z9,Qb,Qd,Qe,Qf,Qn,Qo,Qp,Qq,Qs,Q1,Q2,Q4,Q8,Jf,Jj,Jk,Jl,Jw,J2,J3,Xe,Xt,X2,X4,X9,Wa,Wd,Wf,Wg,Wr,Ws,Wt,Wu,Wv,Ww,Wx,Wy,W4,W5,W6,W7,Yc,Yg,Yw,Y5,Y6,Y7,Y8,Y9,Va,V4,V5,Uh,Ui,Uj,Uk,tab21]
   tactic =>
    try simp only [Uy] at *
    try simp only [nc2] at *
    try simp (maxSteps := 4000000) only [Tm,Tn,Tk,Td,Rune_v,U1]
    unfold behindR
    repeat' (first | with_reducible assumption | with_reducible refine And.intro ?_ ?_ | intro _ | omega | (rw [Ux]; omega))
    all_goals first
      | (simp_all [leB]; done)
      | (simp_all [leB]; omega))
theorem calls_of_good2 {P : Program} {f : FuncId} {con : Con} {b : Bool} (hg : Good P (f, con)) (W : World) (xs : List D) (args : Array Value) (hR : Rs (fixOf W) xs args.toList) (hpre : con.pre (xs.map .d)) (hfn : con.fn (xs.map .d) = .d (.bool b)) :
    Calls P f args W fun e W' => e = .returned (.bool b) ∧ Go.RowKit.Below W.heap.size W W' := by
  have h := hg.2 (fixOf W).m W (xs.map .d) args.toList hpre (F7 hR) (by rw [Te]; exact List.nodup_nil) (fixOf_new W)
  rw [show args.toList.toArray = args by simp] at h
  refine h.mono ?_
  rintro e W' ⟨v, m', rfl, hfr, _, _, hres⟩
  change Res _ _ _ (con.fn (xs.map .d)) v at hres
  rw [hfn] at hres
  simp only [Res, CVRs, CVR, R] at hres
  obtain ⟨⟨v1, r, hv1, rfl, rfl⟩, _⟩ := hres
  injection hv1 with hv1 _
  subst hv1
  refine ⟨rfl, hfr.os, hfr.tape, hfr.output, hfr.size, fun k hk => hfr.block k hk ?_⟩
  rw [Te]
  exact List.not_mem_nil
theorem E9 {f : FuncId} {p : Int → Bool} (hg : Good Try.prog (f, con1 (fun (_ : Rune) => True) (fun a => p a.v))) (r : Int) (W : World) :
    Calls Try.prog f #[.int .i32 r] W fun e W' => e = .returned (.bool (p r)) ∧ Go.RowKit.Below W.heap.size W W' :=
  calls_of_good2 (con := con1 (fun (_ : Rune) => True) (fun a => p a.v)) hg W [.int .i32 r] #[.int .i32 r] ⟨_, _, rfl, rfl, rfl⟩ ⟨rfl, trivial⟩ rfl
theorem E0 (r : Int) (W : World) : Calls Try.prog 85 #[.int .i32 r] W fun e W' => e = .returned (.bool (smallR r)) ∧ Go.RowKit.Below W.heap.size W W' := E9 Es r W
theorem E1 (r : Int) (W : World) : Calls Try.prog 102 #[.int .i32 r] W fun e W' => e = .returned (.bool (greatR r)) ∧ Go.RowKit.Below W.heap.size W W' := E9 Et r W
theorem P4 (r : Int) (W : World) : Calls Try.prog 105 #[.int .i32 r] W fun e W' => e = .returned (.bool (behindR r)) ∧ Go.RowKit.Below W.heap.size W W' := E9 good_isBehindG r W
end Go.Am.Ty
set_option linter.unusedSimpArgs false
set_option linter.unusedVariables false
set_option maxHeartbeats 1000000
namespace Go.Am.Ty
open Go.Proofs Go.RowKit
theorem width_pos (s : ByteArray) (pos : Nat) (h : pos < s.size) : 1 ≤ (Utf8.decode s pos).2 := by
  simp only [Utf8.decode]
  repeat' split
  all_goals simp
def fitsGo (p : Int → Bool) (s : ByteArray) : Nat → Nat → Bool
  | 0, _ => true
  | n + 1, pos => if pos < s.size then (cond (pos == 0) (p ((Utf8.decode s pos).1 : Int)) (behindR ((Utf8.decode s pos).1 : Int)) && fitsGo p s n (pos + (Utf8.decode s pos).2)) else true
theorem Fm {p : Int → Bool} {s : ByteArray} {n pos : Nat} (h : ¬ pos < s.size) : fitsGo p s n pos = true := by
  cases n with
  | zero => rfl
  | succ n => rw [fitsGo, if_neg h]
theorem Bx {B B' : Nat} {a b : World} (h : Below B' a b) (hl : B ≤ B') : Below B a b := ⟨h.os, h.tape, h.output, h.size, fun k hk => h.block k (by omega)⟩
theorem fits_small (s : ByteArray) (w : World) :
    Calls Try.prog 84 #[.string s, .func (.func 85) #[] #[]] w fun e w' => e = .returned (.bool (fitsGo smallR s s.size 0 && !(s.data.toList == []))) ∧ Below w.heap.size w w' := by
  go_enter Try.func84, Try.ntmps84
  go_wp2
  go_loopw [] (fun wr => ∃ pos fuel : Nat, wr.heap[w.heap.size]? = some (.stringIter s pos) ∧ Below w.heap.size w wr ∧ Hid (fitsGo smallR s fuel pos = fitsGo smallR s s.size 0) ∧ s.size ≤ pos + fuel) (fun wr => s.size - wr.iterPos w.heap.size)
  case atStart => exact ⟨0, s.size, World.iter_heap w s 0, (Below.refl _ _).alloc (Nat.le_refl _) _, rfl, by omega⟩
  case round =>
    obtain ⟨pos, fuel, hit, hbw, HS, hb⟩ := hrel
    have hpos0 := iterPos_of hit
    by_cases hp : pos < s.size
    · have hnx : ∀ ty, (Instr.next (.pointer (some ⟨w.heap.size, 0, none⟩)) true ty).run Try.prog wr = _ := fun ty => Lib.run_next_any_at wr w.heap.size s pos ty hit hp
      have hwd := width_pos s pos hp
      obtain ⟨fuel, rfl⟩ : ∃ f', fuel = f' + 1 := ⟨fuel - 1, by omega⟩
      have hit2 := Lib.iterAt_heap wr w.heap.size s pos (pos + (Utf8.decode s pos).2) hit
      have hbw2 := Lib.below_iterAt hbw (k := w.heap.size) (Nat.le_refl _) s (pos + (Utf8.decode s pos).2)
      obtain ⟨W1, hW1⟩ : ∃ W1, W1 = wr.iterAt w.heap.size s (pos + (Utf8.decode s pos).2) := ⟨_, rfl⟩
      rw [← hW1] at hnx hit2 hbw2
      have hlt : w.heap.size < W1.heap.size := lt_of_block hit2
      clear hW1 hit hbw
      by_cases h0 : pos = 0
      · subst h0
        cases hr : smallR ((Utf8.decode s 0).1 : Int) with
        | false =>
          go_wp2_with (go_at_call 85; refine (E0 _ _).mono ?_; rintro e W2 ⟨rfl, hb2⟩; simp only [hr])
          go_ret
          refine ⟨?_, hbw2.trans (Bx hb2 (by first | omega | (simp; omega) | exact hlt | exact Nat.le_of_lt hlt))⟩
          have e0 : fitsGo smallR s s.size 0 = false := by rw [← HS.out]; simp [fitsGo, hp, hr]
          rw [e0, Bool.false_and]
          rfl
        | true =>
          go_wp2_with (go_at_call 85; refine (E0 _ _).mono ?_; rintro e W2 ⟨rfl, hb2⟩; simp only [hr])
          have hit3 : W2.heap[w.heap.size]? = some (.stringIter s (0 + (Utf8.decode s 0).2)) := (hb2.block w.heap.size (by first | omega | (simp; omega) | exact hlt | exact Nat.le_of_lt hlt)).trans hit2
          refine ⟨⟨_, fuel, hit3, hbw2.trans (Bx hb2 (by first | omega | (simp; omega) | exact hlt | exact Nat.le_of_lt hlt)), ?_, by omega⟩, ?_⟩
          · show _ = _
            rw [← HS.out]
            simp [fitsGo,hp,hr]
          · rw [iterPos_of hit3, hpos0]
            omega
      · have hpb : ((pos : Int) == 0) = false := by rw [beq_eq_false_iff_ne]; omega
        have hpg : (decide ((pos : Int) > 0)) = true := by rw [decide_eq_true_eq]; omega
        have hpn : (pos == 0) = false := by rw [beq_eq_false_iff_ne]; exact h0
        cases hr : behindR ((Utf8.decode s pos).1 : Int) with
        | false =>
          go_wp2_with (go_at_call 105; refine (P4 _ _).mono ?_; rintro e W2 ⟨rfl, hb2⟩; simp only [hr])
          go_ret
          refine ⟨?_, hbw2.trans (Bx hb2 (by first | omega | (simp; omega) | exact hlt | exact Nat.le_of_lt hlt))⟩
          have e0 : fitsGo smallR s s.size 0 = false := by rw [← HS.out]; simp [fitsGo, hp, hr, hpn]
          rw [e0, Bool.false_and]
          rfl
        | true =>
          go_wp2_with (go_at_call 105; refine (P4 _ _).mono ?_; rintro e W2 ⟨rfl, hb2⟩; simp only [hr])
          have hit3 : W2.heap[w.heap.size]? = some (.stringIter s (pos + (Utf8.decode s pos).2)) := (hb2.block w.heap.size (by first | omega | (simp; omega) | exact hlt | exact Nat.le_of_lt hlt)).trans hit2
          refine ⟨⟨_, fuel, hit3, hbw2.trans (Bx hb2 (by first | omega | (simp; omega) | exact hlt | exact Nat.le_of_lt hlt)), ?_, by omega⟩, ?_⟩
          · show _ = _
            rw [← HS.out]
            simp [fitsGo,hp,hr,hpn]
          · rw [iterPos_of hit3, hpos0]
            omega
    · have hnx : ∀ ty, (Instr.next (.pointer (some ⟨w.heap.size, 0, none⟩)) true ty).run Try.prog wr = _ := fun ty => Lib.run_next_end_at wr w.heap.size s pos ty hit hp
      go_wp2
      go_ret
      refine ⟨?_, hbw⟩
      rw [← HS.out, Fm hp, Bool.true_and]
      congr 2
      rw [ByteArray.toList_mk]
      cases s.data.toList <;> rfl
theorem fits_great (s : ByteArray) (w : World) :
    Calls Try.prog 84 #[.string s, .func (.func 102) #[] #[]] w fun e w' => e = .returned (.bool (fitsGo greatR s s.size 0 && !(s.data.toList == []))) ∧ Below w.heap.size w w' := by
  go_enter Try.func84, Try.ntmps84
  go_wp2
  go_loopw [] (fun wr => ∃ pos fuel : Nat, wr.heap[w.heap.size]? = some (.stringIter s pos) ∧ Below w.heap.size w wr ∧ Hid (fitsGo greatR s fuel pos = fitsGo greatR s s.size 0) ∧ s.size ≤ pos + fuel) (fun wr => s.size - wr.iterPos w.heap.size)
  case atStart => exact ⟨0, s.size, World.iter_heap w s 0, (Below.refl _ _).alloc (Nat.le_refl _) _, rfl, by omega⟩
  case round =>
    obtain ⟨pos, fuel, hit, hbw, HS, hb⟩ := hrel
    have hpos0 := iterPos_of hit
    by_cases hp : pos < s.size
    · have hnx : ∀ ty, (Instr.next (.pointer (some ⟨w.heap.size, 0, none⟩)) true ty).run Try.prog wr = _ := fun ty => Lib.run_next_any_at wr w.heap.size s pos ty hit hp
      have hwd := width_pos s pos hp
      obtain ⟨fuel, rfl⟩ : ∃ f', fuel = f' + 1 := ⟨fuel - 1, by omega⟩
      have hit2 := Lib.iterAt_heap wr w.heap.size s pos (pos + (Utf8.decode s pos).2) hit
      have hbw2 := Lib.below_iterAt hbw (k := w.heap.size) (Nat.le_refl _) s (pos + (Utf8.decode s pos).2)
      obtain ⟨W1, hW1⟩ : ∃ W1, W1 = wr.iterAt w.heap.size s (pos + (Utf8.decode s pos).2) := ⟨_, rfl⟩
      rw [← hW1] at hnx hit2 hbw2
      have hlt : w.heap.size < W1.heap.size := lt_of_block hit2
      clear hW1 hit hbw
      by_cases h0 : pos = 0
      · subst h0
        cases hr : greatR ((Utf8.decode s 0).1 : Int) with
        | false =>
          go_wp2_with (go_at_call 102; refine (E1 _ _).mono ?_; rintro e W2 ⟨rfl, hb2⟩; simp only [hr])
          go_ret
          refine ⟨?_, hbw2.trans (Bx hb2 (by first | omega | (simp; omega) | exact hlt | exact Nat.le_of_lt hlt))⟩
          have e0 : fitsGo greatR s s.size 0 = false := by rw [← HS.out]; simp [fitsGo, hp, hr]
          rw [e0, Bool.false_and]
          rfl
        | true =>
          go_wp2_with (go_at_call 102; refine (E1 _ _).mono ?_; rintro e W2 ⟨rfl, hb2⟩; simp only [hr])
          have hit3 : W2.heap[w.heap.size]? = some (.stringIter s (0 + (Utf8.decode s 0).2)) := (hb2.block w.heap.size (by first | omega | (simp; omega) | exact hlt | exact Nat.le_of_lt hlt)).trans hit2
          refine ⟨⟨_, fuel, hit3, hbw2.trans (Bx hb2 (by first | omega | (simp; omega) | exact hlt | exact Nat.le_of_lt hlt)), ?_, by omega⟩, ?_⟩
          · show _ = _
            rw [← HS.out]
            simp [fitsGo,hp,hr]
          · rw [iterPos_of hit3, hpos0]
            omega
      · have hpb : ((pos : Int) == 0) = false := by rw [beq_eq_false_iff_ne]; omega
        have hpg : (decide ((pos : Int) > 0)) = true := by rw [decide_eq_true_eq]; omega
        have hpn : (pos == 0) = false := by rw [beq_eq_false_iff_ne]; exact h0
        cases hr : behindR ((Utf8.decode s pos).1 : Int) with
        | false =>
          go_wp2_with (go_at_call 105; refine (P4 _ _).mono ?_; rintro e W2 ⟨rfl, hb2⟩; simp only [hr])
          go_ret
          refine ⟨?_, hbw2.trans (Bx hb2 (by first | omega | (simp; omega) | exact hlt | exact Nat.le_of_lt hlt))⟩
          have e0 : fitsGo greatR s s.size 0 = false := by rw [← HS.out]; simp [fitsGo, hp, hr, hpn]
          rw [e0, Bool.false_and]
          rfl
        | true =>
          go_wp2_with (go_at_call 105; refine (P4 _ _).mono ?_; rintro e W2 ⟨rfl, hb2⟩; simp only [hr])
          have hit3 : W2.heap[w.heap.size]? = some (.stringIter s (pos + (Utf8.decode s pos).2)) := (hb2.block w.heap.size (by first | omega | (simp; omega) | exact hlt | exact Nat.le_of_lt hlt)).trans hit2
          refine ⟨⟨_, fuel, hit3, hbw2.trans (Bx hb2 (by first | omega | (simp; omega) | exact hlt | exact Nat.le_of_lt hlt)), ?_, by omega⟩, ?_⟩
          · show _ = _
            rw [← HS.out]
            simp [fitsGo,hp,hr,hpn]
          · rw [iterPos_of hit3, hpos0]
            omega
    · have hnx : ∀ ty, (Instr.next (.pointer (some ⟨w.heap.size, 0, none⟩)) true ty).run Try.prog wr = _ := fun ty => Lib.run_next_end_at wr w.heap.size s pos ty hit hp
      go_wp2
      go_ret
      refine ⟨?_, hbw⟩
      rw [← HS.out, Fm hp, Bool.true_and]
      congr 2
      rw [ByteArray.toList_mk]
      cases s.data.toList <;> rfl
end Go.Am.Ty
set_option linter.unusedSimpArgs false
set_option linter.unusedVariables false
set_option maxHeartbeats 1000000
namespace Go.Am.Ty
open Go.Proofs Go.RowKit
open Enc (enc dec)
theorem get_at (s : ByteArray) (pos : Nat) (h : pos < s.size) : s.get! (pos + 0) = s.data.toList[pos]'(by simpa using h) := by
  show s.get! pos = _
  simp [ByteArray.get!,getElem!_pos,h]
theorem decode_low {s : ByteArray} {pos : Nat} (h : pos < s.size) (hc : (s.data.toList[pos]'(by simpa using h)).toNat < 128) : Utf8.decode s pos = ((s.data.toList[pos]'(by simpa using h)).toNat, 1) := by
  simp only [Utf8.decode, get_at s pos h, if_pos hc]
theorem decode_high {s : ByteArray} {pos : Nat} (h : pos < s.size) (hc : ¬ (s.data.toList[pos]'(by simpa using h)).toNat < 128) : 128 ≤ (Utf8.decode s pos).1 := by
  simp only [Utf8.decode, get_at s pos h, if_neg hc, Utf8.runeError]
  repeat' split
  all_goals simp_all
  all_goals omega
theorem behindR_low {c : UInt8} (h : c.toNat < 128) : behindR (c.toNat : Int) = behind c := by
  have : ∀ c : Fin 256, behindR ((c.val : Nat) : Int) = behind (UInt8.ofNat c.val) := by decide +kernel
  have := this ⟨c.toNat, c.toNat_lt⟩
  simpa using this
theorem behindR_high {r : Nat} (h : 128 ≤ r) : behindR (r : Int) = false := by
  simp [behindR,smallR,greatR,leB]
  omega
theorem behind_high {c : UInt8} (h : ¬ c.toNat < 128) : behind c = false := by
  have : ∀ c : Fin 256, 128 ≤ c.val → behind (UInt8.ofNat c.val) = false := by decide +kernel
  have := this ⟨c.toNat, c.toNat_lt⟩ (by simp; omega)
  simpa using this
theorem Ev {p : Int → Bool} {s : ByteArray} : ∀ {n pos : Nat}, 0 < pos → s.size ≤ pos + n → fitsGo p s n pos = behindAll (s.data.toList.drop pos)
  | 0, pos, h0, h => by
    rw [List.drop_eq_nil_of_le (by simpa using h)]
    rfl
  | n + 1, pos, h0, h => by
    by_cases hp : pos < s.size
    · have hl : pos < s.data.toList.length := by simpa using hp
      rw [fitsGo, if_pos hp, List.drop_eq_getElem_cons hl]
      have hz : (pos == 0) = false := by rw [beq_eq_false_iff_ne]; omega
      rw [hz, cond_false]
      unfold behindAll
      rw [List.all_cons]
      by_cases hc : (s.data.toList[pos]'hl).toNat < 128
      · rw [decode_low hp hc, behindR_low hc]
        simp only
        rw [Ev (by omega) (by omega)]
        rfl
      · rw [behindR_high (decode_high hp hc), behind_high hc, Bool.false_and, Bool.false_and]
    · rw [Fm hp, List.drop_eq_nil_of_le (by simpa using hp)]
      rfl
theorem fits_is {p : Int → Bool} {q : UInt8 → Bool} (h1 : ∀ c : UInt8, c.toNat < 128 → p (c.toNat : Int) = q c) (h2 : ∀ r : Nat, 128 ≤ r → p (r : Int) = false) (h3 : ∀ c : UInt8, ¬ c.toNat < 128 → q c = false) (s : ByteArray) :
    (fitsGo p s s.size 0 && !(s.data.toList == [])) = match s.data.toList with
    | [] => false
    | c :: r => q c && behindAll r := by
  have hsz : s.size = s.data.toList.length := by simp
  obtain ⟨l, hl⟩ : ∃ l, s.data.toList = l := ⟨_, rfl⟩
  cases l with
  | nil => rw [hl]; simp
  | cons c r =>
    have hn : s.size = r.length + 1 := by rw [hsz, hl]; simp
    have h0 : 0 < s.size := by omega
    have hc : s.data.toList[0]'(by rw [← hsz]; exact h0) = c := by simp [hl]
    have hd : s.data.toList.drop 1 = r := by rw [hl]; rfl
    rw [show fitsGo p s s.size 0 = fitsGo p s (r.length + 1) 0 by rw [hn], fitsGo, if_pos h0, hl]
    simp only [beq_self_eq_true, cond_true]
    by_cases h : c.toNat < 128
    · rw [decode_low h0 (by rw [hc]; exact h), hc, h1 c h]
      simp only [Nat.zero_add]
      rw [Ev (by omega) (by omega), hd]
      simp
    · rw [h2 _ (decode_high h0 (by rw [hc]; exact h)), h3 c h]
      simp
theorem Er {f : FuncId} {con : Con} (he : Enters Try.prog f)
    (h : ∀ cvs, con.pre cvs → ∃ (xs : List D) (b : Bool), cvs = xs.map .d ∧ con.fn cvs = .d (.bool b) ∧ ∀ (F : Fix) (vs : List Value) (w : World), CVRs F (xs.map .d) vs → Calls Try.prog f vs.toArray w fun e w' => e = .returned (.bool b) ∧ Below w.heap.size w w') : Good Try.prog (f, con) := by
  refine ⟨he, ?_⟩
  intro m w cvs vs hpre hcv hnd hnew
  obtain ⟨xs, b, rfl, hfn, hc⟩ := h cvs hpre
  refine (hc _ vs w hcv).mono ?_
  rintro e w' ⟨rfl, hb⟩
  refine ⟨_, m, rfl, ⟨hb.os, hb.tape, hb.output, hb.size, fun k hk _ => hb.block k hk⟩, fun _ _ _ => rfl, fun k hk => hnew k (by have := hb.size; omega), ?_⟩
  change Res _ _ _ (con.fn (xs.map .d)) _
  rw [hfn]
  simp only [Res, CVRs, CVR, R]
  refine ⟨⟨_, [], rfl, rfl, rfl⟩, fun k hk => ?_⟩
  have : ownsOf ([D.bool b].map .d) [Value.bool b] = [] := Te _ _
  change k ∈ ownsOf ([D.bool b].map .d) [Value.bool b] at hk
  rw [this] at hk
  cases hk
theorem F8 (a b c : UInt8) : within c a b = (leB (a.toNat : Int) (c.toNat : Int) && leB (c.toNat : Int) (b.toNat : Int)) := by rw [Cv, Cv]; rfl
def con_fitsS : Con := con2 (fun (_ : List UInt8) (_ : Fn0 85) => True) (fun s _ => isWord s)
theorem good_fitsS : Good Try.prog (84, con_fitsS) := by
  refine Er (U0 Try.func84 (by kernel_rfl) rfl) fun cvs hpre => ?_
  obtain ⟨s, f, rfl, -⟩ := Kj hpre
  refine ⟨[.str s, .clo 85 []], isWord s, rfl, rfl, fun F vs w hcv => ?_⟩
  simp only [List.map, CVRs, CVR, R, Rs] at hcv
  obtain ⟨v1, r1, rfl, rfl, v2, r2, rfl, ⟨cs, rfl, rfl⟩, rfl⟩ := hcv
  have h := fits_is (p := smallR) (q := fun c => within c 97 122) (fun c _ => (F8 97 122 c).symm) (fun r hr => by simp [smallR, leB]; omega) (fun c hc => by rw [F8]; simp [leB]; omega) ⟨s.toArray⟩
  refine (fits_small ⟨s.toArray⟩ w).mono ?_
  rintro e w' ⟨rfl, hb⟩
  refine ⟨?_, hb⟩
  rw [h]
  cases s <;> rfl
def con_fitsT : Con := con2 (fun (_ : List UInt8) (_ : Fn0 102) => True) (fun s _ => isTag s)
theorem good_fitsT : Good Try.prog (84, con_fitsT) := by
  refine Er (U0 Try.func84 (by kernel_rfl) rfl) fun cvs hpre => ?_
  obtain ⟨s, f, rfl, -⟩ := Kj hpre
  refine ⟨[.str s, .clo 102 []], isTag s, rfl, rfl, fun F vs w hcv => ?_⟩
  simp only [List.map, CVRs, CVR, R, Rs] at hcv
  obtain ⟨v1, r1, rfl, rfl, v2, r2, rfl, ⟨cs, rfl, rfl⟩, rfl⟩ := hcv
  have h := fits_is (p := greatR) (q := fun c => within c 65 90) (fun c _ => (F8 65 90 c).symm) (fun r hr => by simp [greatR, leB]; omega) (fun c hc => by rw [F8]; simp [leB]; omega) ⟨s.toArray⟩
  refine (fits_great ⟨s.toArray⟩ w).mono ?_
  rintro e w' ⟨rfl, hb⟩
  refine ⟨?_, hb⟩
  rw [h]
  cases s <;> rfl
def con_IsWordG : Con := con1 (fun (_ : List UInt8) => True) (fun s => isWord s)
noncomputable def ctx_IsWordG : Ctx := ⟨tab, lkC [(84, con_fitsS)], 60, lkB [], [], false⟩
theorem ctx_IsWordG_c : ctx_IsWordG.Γ = lkC [(84, con_fitsS)] := rfl
theorem ctx_IsWordG_d : ctx_IsWordG.dp = 60 := rfl
theorem ctx_IsWordG_b : ctx_IsWordG.Δ = lkB [] := rfl
theorem R8 : Good Try.prog (55, con_IsWordG) := by
  refine ⟨U0 Try.func55 (by kernel_rfl) rfl, ?_⟩
  have K : CtxOk Try.prog ctx_IsWordG := U4 Ki Ka (by
    intro p hp
    simp only [List.mem_cons, List.not_mem_nil, or_false] at hp
    rcases hp with rfl
    · exact good_fitsS) (by simp)
  obtain ⟨c, hc⟩ : ∃ c, Try.f55.body = some c := ⟨_, rfl⟩
  refine U5 K Try.func55 hc [.tmp 2] rfl 5 rfl (fun cvs hpre => ?_)
  change con_IsWordG.pre cvs at hpre
  unfold con_IsWordG at hpre
  obtain ⟨s, rfl, -⟩ := K1 hpre
  simp only [Try.f55, Option.some.injEq] at hc
  subst hc
  (sym =>
   simp [D8,ctx_IsWordG_c,ctx_IsWordG_d,ctx_IsWordG_b,con_IsWordG.eq_def,con_fitsS.eq_def,Za,Zb,Zc,Ze,Zf,Z9,Qe,Qf,Qn,Qo,Qp,Qq,Qs,Q1,Q2,Q4,Q8,Jf,Jj,Jk,Jl,Jw,J2,J3,Xe,Xt,Xu,X2,X4,X9,Wa,Wd,Wf,Wr,Ws,Wt,Wu,Wv,Ww,Wx,Wy,W4,W5,Yw,Yx,Y5,Y6,Y7,Y8,Y9,Va,Vg,Vl,V5,Uk])
def con_IsTagG : Con := con1 (fun (_ : List UInt8) => True) (fun s => isTag s)
noncomputable def ctx_IsTagG : Ctx := ⟨tab, lkC [(84, con_fitsT)], 60, lkB [], [], false⟩
theorem ctx_IsTagG_c : ctx_IsTagG.Γ = lkC [(84, con_fitsT)] := rfl
theorem ctx_IsTagG_d : ctx_IsTagG.dp = 60 := rfl
theorem ctx_IsTagG_b : ctx_IsTagG.Δ = lkB [] := rfl
theorem O5 : Good Try.prog (82, con_IsTagG) := by
  refine ⟨U0 Try.func82 (by kernel_rfl) rfl, ?_⟩
  have K : CtxOk Try.prog ctx_IsTagG := U4 Ki Ka (by
    intro p hp
    simp only [List.mem_cons, List.not_mem_nil, or_false] at hp
    rcases hp with rfl
    · exact good_fitsT) (by simp)
  obtain ⟨c, hc⟩ : ∃ c, Try.f82.body = some c := ⟨_, rfl⟩
  refine U5 K Try.func82 hc [.tmp 2] rfl 5 rfl (fun cvs hpre => ?_)
  change con_IsTagG.pre cvs at hpre
  unfold con_IsTagG at hpre
  obtain ⟨s, rfl, -⟩ := K1 hpre
  simp only [Try.f82, Option.some.injEq] at hc
  subst hc
  (sym =>
   simp [D8,ctx_IsTagG_c,ctx_IsTagG_d,ctx_IsTagG_b,con_IsTagG.eq_def,con_fitsT.eq_def,Za,Zb,Zc,Ze,Zf,Z9,Qe,Qf,Qn,Qo,Qp,Qq,Qs,Q1,Q2,Q4,Q8,Jf,Jj,Jk,Jl,Jw,J2,J3,Xe,Xt,Xu,X2,X4,X9,Wa,Wd,Wf,Wr,Ws,Wt,Wu,Wv,Ww,Wx,Wy,W4,W5,Yw,Yx,Y5,Y6,Y7,Y8,Y9,Va,Vg,Vl,V5,Uk])
end Go.Am.Ty
set_option linter.unusedSimpArgs false
set_option linter.unusedVariables false
set_option maxHeartbeats 1000000
namespace Go.Am.Ty
open Go.Proofs Go.Rose Go.Rose.Rose
open Enc (enc dec)
def con_isNodeT : Con := con1 (fun (_ : Node) => True) (fun n => numb3 n)
noncomputable def ctx_isNodeT : Ctx := ⟨tab, lkC [], 60, lkB [], [], false⟩
theorem ctx_isNodeT_t : ctx_isNodeT.τ = tab := rfl
theorem ctx_isNodeT_d : ctx_isNodeT.dp = 60 := rfl
set_option maxRecDepth 100000 in
theorem good_isNodeT : Good Try.prog (117, con_isNodeT) := by
  refine ⟨U0 Try.func117 (by kernel_rfl) rfl, ?_⟩
  have K : CtxOk Try.prog ctx_isNodeT := U4 Ki Ka (by simp) (by simp)
  obtain ⟨c, hc⟩ : ∃ c, Try.f117.body = some c := ⟨_, rfl⟩
  refine U5 K Try.func117 hc [.tmp 2] rfl 45 rfl (fun cvs hpre => ?_)
  change con_isNodeT.pre cvs at hpre
  unfold con_isNodeT at hpre
  obtain ⟨n, rfl, -⟩ := K1 hpre
  simp only [Try.f117, Option.some.injEq] at hc
  subst hc
  refine Kl 2 (of_decide_eq_true (by kernel_rfl)) ?_
  (sym =>
   simp [Ur,Up,Us,Uo,szN,Uq,ctx_isNodeT_t,ctx_isNodeT_d,con_isNodeT.eq_def,Zb,Zc,Zd,Ze,Zf,Zg,Zo,Zp,Zq,Zs,Zt,Zu,Zv,Zx,Qb,Qd,Ql,Qm,Qn,Qo,Qp,Qq,Qs,Q1,Q2,Q4,Q8,Jh,Ji,Jk,Jw,J2,J3,J4,J5,J6,J7,J8,J9,Xa,Xb,Xe,Xm,Xn,Xr,Xt,X1,X2,X4,X5,X6,X9,Wa,Wd,Wf,Wg,Wh,Wr,Ws,Wt,Wu,Ww,Wy,W0,W3,W4,W5,W6,W7,W8,W9,Yc,Yg,Yo,Yw,Y5,Y6,Y7,Y8,Y9,Va,Vb,Vc,Vd,Ve,Vr,V4,V5,Uh,Ui,Uj,Uk,U2,Kb]
   tactic =>
    try simp only [Uy] at *
    try simp only [nc2] at *
    try simp (maxSteps := 4000000) only [Ur,Up,Us,Uo,szN,Uq,U1]
    unfold numb3
    repeat' (first | with_reducible assumption | with_reducible refine And.intro ?_ ?_ | intro _ | omega | (rw [Ux]; omega))
    all_goals
      rw [Bool.eq_iff_iff]
      repeat' split
      all_goals first
        | (exfalso; omega)
        | (simp only [leB, ltB, Bool.and_eq_true, decide_eq_true_eq, beq_iff_eq, Bool.false_eq_true]; omega)
        | (simp only [leB, ltB, Bool.and_eq_true, decide_eq_true_eq, beq_iff_eq, Bool.false_eq_true, false_iff]; omega)
        | (simp only [leB, ltB, Bool.and_eq_true, decide_eq_true_eq, beq_iff_eq, Bool.false_eq_true]; done))
def labB (k : Int) (s : List UInt8) : Bool := if k = 6 then isWord s else if k = 7 then isTag s else s == []
def con_isLabelT : Con := con2 (fun (_ : Int) (_ : List UInt8) => True) labB
noncomputable def ctx_isLabelT : Ctx := ⟨tab, lkC [(55, con_IsWordG), (82, con_IsTagG)], 60, lkB [], [], false⟩
theorem ctx_isLabelT_t : ctx_isLabelT.τ = tab := rfl
theorem ctx_isLabelT_c : ctx_isLabelT.Γ = lkC [(55, con_IsWordG), (82, con_IsTagG)] := rfl
theorem ctx_isLabelT_d : ctx_isLabelT.dp = 60 := rfl
theorem ctx_isLabelT_b : ctx_isLabelT.Δ = lkB [] := rfl
theorem good_isLabelT : Good Try.prog (118, con_isLabelT) := by
  refine ⟨U0 Try.func118 (by kernel_rfl) rfl, ?_⟩
  have K : CtxOk Try.prog ctx_isLabelT := U4 Ki Ka (by
    intro p hp
    simp only [List.mem_cons, List.not_mem_nil, or_false] at hp
    rcases hp with rfl | rfl
    · exact R8
    · exact O5) (by simp)
  obtain ⟨c, hc⟩ : ∃ c, Try.f118.body = some c := ⟨_, rfl⟩
  refine U5 K Try.func118 hc [.tmp 4] rfl 16 rfl (fun cvs hpre => ?_)
  change con_isLabelT.pre cvs at hpre
  unfold con_isLabelT at hpre
  obtain ⟨k, s, rfl, -⟩ := Kj hpre
  simp only [Try.f118, Option.some.injEq] at hc
  subst hc
  (sym =>
   simp [Ur,Up,Us,Uo,szN,Uq,ctx_isLabelT_t,ctx_isLabelT_c,ctx_isLabelT_d,ctx_isLabelT_b,con_IsTagG.eq_def,con_IsWordG.eq_def,con_isLabelT.eq_def,Za,Zb,Zc,Ze,Zf,Zg,Z9,Qb,Qd,Qe,Qf,Qn,Qo,Qp,Qq,Qs,Q1,Q2,Q4,Q8,Jf,Jj,Jk,Jl,Jw,J2,J3,Xe,Xt,Xu,X1,X2,X4,X5,X6,X9,Wa,Wd,Wf,Wg,Wr,Ws,Wt,Wu,Wv,Ww,Wx,Wy,Wz,W4,W5,Yc,Ye,Yg,Yi,Yv,Yw,Yx,Y5,Y6,Y7,Y8,Y9,Va,Vf,Vg,Vl,V4,V5,V6,V8,Uj,Uk,U2,Gr]
   tactic =>
    try simp only [Uy] at *
    try simp only [nc2] at *
    try simp (maxSteps := 4000000) only [Ur,Up,Us,Uo,szN,Uq,U1]
    unfold labB
    repeat' (first | with_reducible assumption | with_reducible refine And.intro ?_ ?_ | intro _ | omega | (rw [Ux]; omega))
    all_goals simp_all)
end Go.Am.Ty
